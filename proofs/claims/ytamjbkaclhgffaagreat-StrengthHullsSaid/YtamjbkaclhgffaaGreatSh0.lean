/-
  Short words for closing tactics, and short names for theorems of the library.
-/
import Derived.Below
import Derived.BigQuiet
import Derived.Deep.Cut
import Derived.Deep.LoopGhost
import Derived.Deep.QuietTactic
import Derived.Deep.Slices
import Derived.Laws.CopyOwn
import Derived.Laws.Entries
import Derived.Laws.Rows
import Derived.Laws.Sem
import Derived.Laws.Tables
import Derived.Laws.World
import Derived.Lib.Hide
import Derived.Lib.SliceRun
import Derived.LoopIn
import Derived.LoopN
import Derived.LoopNIn
import Derived.Maps.AppendAt
import Derived.Maps.Keyed
import Derived.Maps.OwnSet
import Derived.Maps.RangeRun
import Derived.OrdersIn
import Derived.OwnWalkIn
import Derived.ProofKit
import Derived.RangeFuncBound
import Derived.RangeFuncCalls
import Derived.RangeFuncFrom
import Derived.RangeFuncLeaves
import Derived.RangeFuncNested
import Derived.Shelf.Abstract
import Derived.Shelf.RegionOpen
import Derived.SizedLaws
import Derived.Sort.LoopGhostIn
import Derived.TacticsIn
import Derived.TacticsInMore
import Derived.WalkKit
import Derived.WalkLawsBesides
import Derived.WalkSpells
import Derived.WideKeyEntry
set_option linter.defProp false
set_option maxRecDepth 100000
set_option maxHeartbeats 4000000
namespace Go.Proofs.YtamjbkaclhgffaaGreat
theorem oo{P:Prop}(h:P:=by omega):P:=h
theorem ii{P:Prop}(h:P:=by simp only [aP]; omega):P:=h
def ax:=@if_neg
def aD:=@Bool.and_eq_true
def aG:=@if_pos
def aH:=@and_true
def aJ:=@true_and
def aN:=@Nat.le_refl
def aO:=@eq_self
def aU:=@decide_eq_true_eq
def aY:=@List.getD_eq_getElem?_getD
def bq:=@List.getElem?_eq_getElem
def bt:=@Go.Lib.hid
def bw:=@Nat.zero_le
def bQ:=@Go.Sem.run_bind
def bU:=@Option.some.injEq
def cd:=@Nat.le_trans
def cg:=@Go.Result.andThen_ok
def cq:=@Go.Sem.run_pure
def cv:=@Nat.lt_or_ge
def cy:=@List.length_take
def cC:=@beq_iff_eq
def cT:=@decide_eq_true
def c8:=@List.getElem?_eq_some_iff
def c9:=@List.length_append
def di:=@List.length_map
def dB:=@decide_eq_false
def dE:=@List.length_cons
def dG:=@Option.map_some
def dK:=@if_false
def dU:=@Go.RowKit.Below.refl
def er:=@Nat.mod_eq_of_lt
def ew:=@decide_eq_false_iff_not
def ez:=@List.take_of_length_le
def e9:=@List.getElem?_take
def fc:=@List.all_eq_true
def fe:=@Bool.true_and
def fk:=@Bool.false_eq_true
def fl:=@List.append_assoc
def fB:=@Int.toNat_natCast
def fG:=@Bool.not_eq_true'
def fH:=@if_true
def fM:=@Bool.or_eq_true
def gC:=@List.getElem?_map
def gD:=@List.mem_cons
def gK:=@List.mem_of_getElem?
def gU:=@Bool.and_true
def hZ:=@List.length_nil
def ia:=@Nat.zero_add
def iD:=@Option.getD_some
def iE:=@Nat.pow_succ
def iR:=@Bool.not_eq_false'
def iT:=@Nat.lt_of_lt_of_le
def iU:=@List.length_drop
def iV:=@List.mem_range
def iY:=@Bool.or_false
def jj:=@List.map_cons
def jk:=@Nat.mod_lt
def jz:=@Option.isNone_iff_eq_none
def jA:=@Nat.div_eq_of_lt
def jB:=@Nat.not_lt_zero
def jC:=@Bool.not_true
def jD:=@Nat.add_zero
def j7:=@Nat.mul_le_mul_left
def j8:=@Nat.mul_comm
def lT:=@List.take_append_drop
def lU:=@Bool.or_eq_false_iff
def lV:=@List.getElem_mem
def lW:=@List.mem_map
def lX:=@Nat.mul_one
def mm:=@Option.bind_eq_some_iff
def mn:=@List.mem_iff_getElem?
def mo:=@List.getElem?_drop
def mT:=@Nat.pow_zero
def mU:=@Nat.le_of_eq
def mV:=@Nat.add_mul
def nH:=@Option.map_eq_some_iff
def nI:=@Rat.intCast_mul
def nJ:=@List.mem_append
def nK:=@Bool.and_false
def om:=@Int.eq_ofNat_of_zero_le
def oq:=@List.mem_singleton
def ot:=@List.map_append
def ou:=@Go.run_program
def ow:=@Nat.mul_add
def pd:=@Nat.mul_le_mul_right
def pf:=@Nat.add_sub_cancel
def pg:=@cond_true
def pV:=@Array.getElem?_eq_some_iff
def pW:=@List.getElem?_cons_zero
def pX:=@Nat.lt_of_le_of_lt
def pY:=@implies_true
def pZ:=@Nat.add_assoc
def qI:=@Array.getD_eq_getD_getElem?
def qJ:=@Array.getElem?_eq_getElem
def qK:=@List.getElem_of_mem
def qL:=@List.cons_append
def qM:=@Go.run_underlying
def qN:=@decide_true
def qO:=@Nat.mod_one
def qP:=@cond_false
def rZ:=@List.drop_eq_getElem_cons
def r6:=@List.getElem?_append_right
def r7:=@List.getElem?_append_left
def r8:=@of_decide_eq_true
def r9:=@List.length_set
def sd:=@Nat.sub_zero
def sf:=@Nat.div_one
def td:=@List.length_replicate
def te:=@List.getElem?_set
def tf:=@Nat.min_eq_left
def tg:=@List.nil_append
def th:=@List.append_nil
def ui:=@Nat.pow_le_pow_right
def uj:=@List.map_nil
def uk:=@Go.RowKit.Below.heap_alloc
def um:=@Prod.mk.injEq
def uo:=@Bool.false_or
def uq:=@Nat.mul_zero
def ur:=@Go.Addr.add_lit
def uu:=@Nat.mul_pos
def vE:=@Nat.div_div_eq_div_mul
def vF:=@List.getElem?_eq_none
def vG:=@List.take_length
def vH:=@Nat.eq_zero_or_pos
def vI:=@List.pairwise_cons
def vJ:=@Go.RowKit.Below.heap_setCell
def vK:=@List.length_range
def vL:=@List.cons.injEq
def vM:=@decide_eq_decide
def vN:=@List.drop_drop
def vO:=@Bool.eq_iff_iff
def vP:=@Nat.mul_le_mul
def vQ:=@List.take_left
def vR:=@Nat.zero_mul
def vS:=@Nat.sub_self
def vT:=@Nat.pow_add
def xq:=@Nat.add_mul_mod_self_left
def xr:=@Nat.add_mul_div_left
def xt:=@List.mem_of_mem_take
def xu:=@List.getElem?_range
def xv:=@List.ext_getElem?
def xw:=@Bool.not_eq_true
def xx:=@List.sum_cons
def xy:=@decide_false
def xz:=@List.map_map
def yH:=@List.pairwise_iff_getElem
def yI:=@List.drop_eq_nil_of_le
def yJ:=@Nat.div_le_self
def yK:=@List.drop_zero
def yL:=@Int.natAbs_mul
def yM:=@Bool.false_and
def yN:=@Nat.pow_pos
def yO:=@Int.le_refl
def yP:=@Array.ext'
def yQ:=@eq_comm
def yR:=@not_or
def AH:=@Nat.div_lt_iff_lt_mul
def AI:=@Nat.div_lt_of_lt_mul
def AJ:=@List.set_cons_zero
def AK:=@List.any_eq_false
def AL:=@List.range_succ
def AM:=@Go.heap_alloc_new
def AN:=@List.all_cons
def AO:=@Nat.le_of_lt
def Dc:=@List.take_succ_eq_append_getElem
def Dd:=@List.eq_nil_iff_forall_not_mem
def De:=@List.eq_nil_of_length_eq_zero
def Df:=@List.getElem?_append
def Dg:=@List.filter_append
def Dh:=@List.size_toArray
def Di:=@Go.World.size_alloc
def Dj:=@Nat.lt_succ_self
def Dk:=@List.filter_cons
def Dl:=@Option.map_none
def Dm:=@Nat.div_add_mod
def Dn:=@Nat.succ_mul
def Dp:=@Go.cell_of_row
def Dq:=@Nat.le_succ
def FO:=@List.getElem?_toArray
def FP:=@Option.isSome_eq_false_iff
def FQ:=@List.length_take_of_le
def FR:=@Array.getElem?_eq_none
def FT:=@List.mem_iff_getElem
def FU:=@List.map_congr_left
def FV:=@of_decide_eq_false
def FW:=@Nat.pos_of_ne_zero
def FX:=@List.set_cons_succ
def FY:=@Option.bind_some
def FZ:=@List.isEmpty_iff
def F0:=@List.any_eq_true
def F5:=@List.take_take
def F6:=@Nat.mod_add_div
def F7:=@List.foldl_cons
def F8:=@Int.natCast_add
def F9:=@List.take_zero
def Ga:=@Nat.mul_assoc
def Gb:=@Nat.add_comm
def Gc:=@Bool.or_true
def Kg:=@not_true_eq_false
def Kh:=@Array.getElem?_setIfInBounds
def Ki:=@List.mem_or_eq_of_mem_set
def Kj:=@List.map_toArray
def Kk:=@beq_eq_false_iff_ne
def Kl:=@List.take_succ_cons
def Km:=@Array.any_eq_true'
def Kn:=@Int.natCast_mul
def Ko:=@not_false_eq_true
def Kp:=@Nat.mul_left_comm
def Kq:=@List.flatten_cons
def Kr:=@Nat.le_of_not_lt
def Ks:=@List.mem_filter
def Ku:=@List.map_take
def Kv:=@Go.setRow_other
def Kw:=@List.all_nil
def Ky:=@Nat.one_mul
def Kz:=@Nat.sub_le
def PU:=@Nat.mul_lt_mul_of_pos_right
def PV:=@Rat.intCast_natCast
def PW:=@List.getElem?_cons_succ
def PX:=@List.length_eq_one_iff
def PY:=@Nat.le_div_iff_mul_le
def PZ:=@List.mem_of_mem_drop
def P0:=@List.mem_cons_of_mem
def P2:=@List.flatten_append
def P3:=@Int.mul_nonneg
def P4:=@List.toArray_inj
def P5:=@List.range'_succ
def P6:=@List.ext_getElem
def P7:=@Bool.not_false
def P8:=@Bool.and_self
def P9:=@Int.lt_or_le
def Qa:=@Int.le_of_lt
def Qb:=@Nat.pow_one
def Qc:=@List.map_id
def Qd:=@and_self
def Yy:=@Nat.add_sub_cancel_left
def Yz:=@Int.mul_le_mul_of_nonneg_left
def YA:=@List.getLast?_eq_getElem?
def YB:=@Option.isSome_iff_exists
def YC:=@Array.getElem?_replicate
def YD:=@Int.natCast_nonneg
def YE:=@List.getElem_cons_drop
def YF:=@List.filter_eq_nil_iff
def YG:=@List.drop_of_length_le
def YH:=@List.take_add_one
def YI:=@List.set_append_right
def YJ:=@Bool.and_eq_false_iff
def YK:=@List.getElem?_set_ne
def YL:=@List.sum_append
def YM:=@decide_eq_true_iff
def YN:=@List.map_singleton
def YO:=@List.find?_eq_none
def YP:=@bne_self_eq_false
def YQ:=@List.flatMap_cons
def YR:=@Nat.mul_lt_mul''
def YS:=@List.getElem_map
def YT:=@Bool.decide_and
def YU:=@Nat.min_self
def YV:=@Nat.lt_trans
def YW:=@Nat.gcd_comm
def YX:=@Go.setRow_heap
def amJ:=@Array.all_eq_true_iff_forall_mem
def amK:=@List.take_append_of_le_length
def amL:=@List.drop_append_of_le_length
def amM:=@Nat.mod_mul_right_div_self
def amN:=@List.setIfInBounds_toArray
def amO:=@Int.fdiv_eq_ediv_of_nonneg
def amP:=@List.mem_of_find?_eq_some
def amQ:=@List.getElem?_eq_none_iff
def amR:=@Nat.gcd_pos_of_pos_right
def amS:=@List.getElem?_replicate
def amT:=@List.drop_length
def amU:=@Rat.normalize_eq_mkRat
def amV:=@Nat.mul_div_mul_right
def amW:=@List.mem_append_left
def amX:=@Array.replicate_zero
def amY:=@Array.replicate_succ
def amZ:=@Nat.div_mul_le_self
def am0:=@Nat.add_le_add_left
def am1:=@List.getD_cons_succ
def am2:=@List.append_toArray
def am3:=@Array.length_toList
def am4:=@Nat.mul_right_comm
def am5:=@List.mem_replicate
def am6:=@List.mem_cons_self
def am7:=@Nat.lt_trichotomy
def am8:=@Nat.gcd_dvd_right
def am9:=@List.push_toArray
def ana:=@List.pairwise_map
def anb:=@List.getElem_take
def anc:=@List.getElem_drop
def ane:=@List.foldl_append
def anf:=@Int.natAbs_add_le
def ang:=@Rat.mkRat_eq_div
def anh:=@Nat.le_add_right
def ani:=@List.not_mem_nil
def anj:=@List.mem_flatten
def ank:=@Rat.intCast_add
def anl:=@Nat.mul_ne_zero
def anm:=@Nat.lt_succ_iff
def ann:=@List.take_left'
def ano:=@List.Perm.refl
def anp:=@Int.toNat_zero
def anq:=@Nat.le_of_dvd
def aDU:=@List.findIdx?_eq_some_iff_getElem
def aDV:=@Int.mul_le_mul_of_nonneg_right
def aDW:=@List.getLast?_eq_some_getLast
def aDX:=@List.dropLast_concat_getLast
def aDY:=@List.drop_length_add_append
def aDZ:=@List.exists_cons_of_ne_nil
def aD0:=@Array.toList_setIfInBounds
def aD1:=@Array.getElem?_append_left
def aD2:=@Nat.lt_of_mul_lt_mul_left
def aD3:=@List.mem_take_iff_getElem
def aD4:=@List.getLastD_eq_getLast?
def aD5:=@Classical.byContradiction
def aD6:=@List.getElem?_take_of_lt
def aD7:=@Int.mul_ediv_cancel_left
theorem s_0{P:Prop}(h:P:=by
 refine fm ?_;have hub:=akQ bs (l.take k) (l.getD i Tc.ai.aa).ar (jy (l.getD i Tc.ai.aa).half) (l.getD i Tc.ai.aa).aK;rw [cy] at hub;have lY:min k l.length=k:=oo
 rw [lY] at hub;refine⟨fun g => ?_,fun g => ?_⟩
 . have af:k<l.length:=oo
   have hn:=aB3 (bs:=bs) (c:=(l.getD i Tc.ai.aa).ar) (a:=jy (l.getD i Tc.ai.aa).half) (t:=(l.getD i Tc.ai.aa).aK) af;have hN:AF bs (l.getD i Tc.ai.aa).ar (jy (l.getD i Tc.ai.aa).half) (l.getD i Tc.ai.aa).aK (l.getD k Tc.ai.aa)=0->aP ((k:Int)+1)/\(k+1<=l.length/\l.length - (k+1)<l.length - k)/\(k:Int)+1=((k+1:Nat):Int)/\kE bs (l.take k) (l.getD i Tc.ai.aa).ar (jy (l.getD i Tc.ai.aa).half) (l.getD i Tc.ai.aa).aK=kE bs (l.take (k+1)) (l.getD i Tc.ai.aa).ar (jy (l.getD i Tc.ai.aa).half) (l.getD i Tc.ai.aa).aK:=fun e=>⟨ii,⟨oo,oo⟩,oo,by rw [hn,e]; omega⟩
   have lI:=tP (bI bs (l.getD k Tc.ai.aa).box).1;have hY:_:=(fun e=>⟨⟨oo,oo⟩,fJ,ii,ii,⟨oo,oo⟩,oo,by rw [hn,e]⟩:AF bs (l.getD i Tc.ai.aa).ar (jy (l.getD i Tc.ai.aa).half) (l.getD i Tc.ai.aa).aK (l.getD k Tc.ai.aa)=fw (bI bs (l.getD k Tc.ai.aa).box).1->(0<=(k:Int)/\(k:Int)<(l.length:Int))/\bs.length<=1000000000000/\aP (kE bs (l.take k) (l.getD i Tc.ai.aa).ar (jy (l.getD i Tc.ai.aa).half) (l.getD i Tc.ai.aa).aK+fw (bI bs (l.getD k Tc.ai.aa).box).1)/\aP ((k:Int)+1)/\(k+1<=l.length/\l.length - (k+1)<l.length - k)/\(k:Int)+1=((k+1:Nat):Int)/\kE bs (l.take k) (l.getD i Tc.ai.aa).ar (jy (l.getD i Tc.ai.aa).half) (l.getD i Tc.ai.aa).aK+fw (bI bs (l.getD k Tc.ai.aa).box).1=kE bs (l.take (k+1)) (l.getD i Tc.ai.aa).ar (jy (l.getD i Tc.ai.aa).half) (l.getD i Tc.ai.aa).aK)
   exact⟨⟨oo,oo⟩,fun c=>⟨fun t=>⟨fun z=>hY (akP (Bb k af) c t (.inr z)),fun z=>⟨fun e=>hY (akP (Bb k af) c t (.inl (e.trans ha.symm))),fun e=>hN (XW (.inr (.inr ⟨fun q=>e (q.trans ha),z⟩)))⟩⟩,fun t=>hN (XW (.inr (.inl t)))⟩,fun c=>hN (XW (.inl c))⟩
 have im:k=l.length:=oo
 subst im;simp only [vG];have hU:=akQ bs l (l.getD i Tc.ai.aa).ar (jy (l.getD i Tc.ai.aa).half) (l.getD i Tc.ai.aa).aK;have hT:=tP (bI bs (l.getD i Tc.ai.aa).box).1;have hE:∀ X,X=mR (s.aF.getD (l.getD i Tc.ai.aa).ar.toNat Tc.ar.aa) (l.getD i Tc.ai.aa).half->(0<=(i:Int)/\(i:Int)<(l.length:Int))/\bs.length<=1000000000000/\aP (2*(s.aF.getD (l.getD i Tc.ai.aa).ar.toNat Tc.ar.aa).z)/\aP (2*kE bs l (l.getD i Tc.ai.aa).ar (jy (l.getD i Tc.ai.aa).half) (l.getD i Tc.ai.aa).aK)/\aP (2*(s.aF.getD (l.getD i Tc.ai.aa).ar.toNat Tc.ar.aa).z+2*kE bs l (l.getD i Tc.ai.aa).ar (jy (l.getD i Tc.ai.aa).half) (l.getD i Tc.ai.aa).aK)/\aP (2*(s.aF.getD (l.getD i Tc.ai.aa).ar.toNat Tc.ar.aa).z+2*kE bs l (l.getD i Tc.ai.aa).ar (jy (l.getD i Tc.ai.aa).half) (l.getD i Tc.ai.aa).aK+fw (bI bs (l.getD i Tc.ai.aa).box).1)/\X=(lP s bs l (l.getD i Tc.ai.aa)).1/\(s.aF.getD (l.getD i Tc.ai.aa).ar.toNat Tc.ar.aa).y=(lP s bs l (l.getD i Tc.ai.aa)).2.1/\2*(s.aF.getD (l.getD i Tc.ai.aa).ar.toNat Tc.ar.aa).z+2*kE bs l (l.getD i Tc.ai.aa).ar (jy (l.getD i Tc.ai.aa).half) (l.getD i Tc.ai.aa).aK+fw (bI bs (l.getD i Tc.ai.aa).box).1=(lP s bs l (l.getD i Tc.ai.aa)).2.2:=fun X e=>⟨⟨oo,oo⟩,fJ,ii,ii,ii,ii,e,rfl,by show _=2*((s.aF.getD (l.getD i Tc.ai.aa).ar.toNat Tc.ar.aa).z+kE bs l (l.getD i Tc.ai.aa).ar (jy (l.getD i Tc.ai.aa).half) (l.getD i Tc.ai.aa).aK)+fw (bI bs (l.getD i Tc.ai.aa).box).1; omega⟩
 exact⟨fun o=>⟨ii,fun w=>absurd (o.symm.trans w) (by decide),fun w=>hE _ (by unfold mR; rw [cT o]; rfl)⟩,fun o=>⟨fun w=>⟨ii,hE _ (by unfold mR; rw [dB o,cT w]; rfl)⟩,fun w=>hE _ (by unfold mR; rw [dB o,dB w]; rfl)⟩⟩):P:=h
theorem Ka{P:Prop}(h:P:=by
 have hN:k<n->aP ((k:Int)+1)/\((k+1<=n/\∀ j,j<k+1->True)/\n - (k+1)<n - k)/\(k:Int)+1=((k+1:Nat):Int):=fun h=>⟨ii,⟨⟨oo,fun _ _=>trivial⟩,oo⟩,oo⟩
 refine⟨fun g=>⟨fun g1 => ?_,fun g1 => ?_⟩,fun g=>trivial⟩
 . have e:=hA oo;exact⟨⟨oo,oo⟩,⟨oo,oo⟩,fun q=>by simp only [fG,ew] at q; exact (q (by rw [e])).elim,fun _=>⟨fun g2=>oo,fun _=>hN oo⟩⟩
 . have e:=hB oo oo;exact⟨fun g2=>⟨⟨oo,oo⟩,ii,⟨⟨oo,oo⟩,oo,oo⟩,fun q=>by simp only [fG,ew] at q; exact (q (by rw [e]; first|done|rfl)).elim,fun _=>hN oo⟩,fun g2=>oo⟩):P:=h
theorem Oq{P:Prop}(h:P:=by
 go_enter Tryz.func54,Tryz.ntmps54
 go_wp2_with (first
  | (go_at_call 59; refine (HK.out _).mono ?_; rintro e wx ⟨rfl,hx⟩; rw [hx]; clear hx wx HK)
  | (go_at_call 119; refine (HX.out _).mono ?_; rintro e wx ⟨rfl,hx⟩; rw [hx]; clear hx wx HX)
  | (go_at_call 119; refine (HY.out _).mono ?_; rintro e wx ⟨rfl,hx⟩; rw [hx]; clear hx wx HY)
  | (go_at_call 119; refine (HZ.out _).mono ?_; rintro e wx ⟨rfl,hx⟩; rw [hx]; clear hx wx)
  | ((with_reducible refine AT 73 ?_); go_loud (refine Bf (cs':=Ld.cells (gz)) rfl _ _ rfl Ab.out 0 rfl rfl rfl CI rfl (Ld.len _) (Ld.len _) (Ld.one _) ?_); intro w6 h6))
 refine bodyPost_ret (Jc rfl _ rfl (h6.DH Fa (Ld.len _) (i:=0) rfl _ (dU _ _))) rfl ⟨?_,h6.from_⟩;rw [HR.out];rfl):P:=h
theorem s_3{P:Prop}(h:P:=by
 refine⟨trivial,fun g6 => ?_,fun g6 => ?_⟩
 . simp (maxSteps:=4000000) only [ay];refine (j4 ?_).symm;have PT:(!mh s.aF (ej (l.getD k Tc.ai.aa)) (bI bs (l.getD k Tc.ai.aa).box).1.size)=true:=g6;rw [hH,<- hx];grind
 have PT:(!mh s.aF (ej (l.getD k Tc.ai.aa)) (bI bs (l.getD k Tc.ai.aa).box).1.size)=false:=g6;rw [hx,iR] at PT;refine⟨⟨by simp; omega,?_⟩,fun g7 => ?_,fun g7 => ?_⟩
 . have:=aAA CX PT;rw [<- hx] at this;exact this
 . simp (maxSteps:=4000000) only [ay];refine (j4 ?_).symm;have Yx:(!rK (ej (l.getD k Tc.ai.aa)) (l.map ej))=true:=g7;rw [hH,<- hx];grind
 have Yx:(!rK (ej (l.getD k Tc.ai.aa)) (l.map ej))=false:=g7;rw [hx,iR] at Yx;have tZ:(!(bI bs (l.getD k Tc.ai.aa).box).2)=false:=g3;rw [hx,iR] at tZ;refine bk (l.map ej) fun all ch => ?_;have hlen:all.length=l.length:=by rw [<- ch]; simp
 refine⟨⟨YD k,by simp only [fL,di]; omega⟩,?_⟩;refine bk (ej x) fun z hz => ?_;refine⟨aAC z all k,?_⟩
 conv=>arg 1; cbv
 refine⟨?_,fun (j:Nat) hj => ?_⟩
 . simp (maxSteps:=4000000) only [ay];simp
 have rU:j<=k/\∀ i,i<j->jZ z (all.getD i Tc.slot.aa)=false:=hj;have p7:=rU.1;have gI:=rU.2
 conv=>arg 1; cbv
 simp (maxSteps:=4000000) only [ay];have e1:∀ u:Slot,(⟨u.ar,u.aK,u.half⟩:Slot)=u:=fun _=>rfl;have e2:(⟨(l.getD k Tc.ai.aa).ar,(l.getD k Tc.ai.aa).aK,(l.getD k Tc.ai.aa).half⟩:Slot)=z:=by rw [hx,<- hz]; rfl
 simp only [ch,e1,e2];refine⟨fun g8 => ?_,fun g8 => ?_⟩
 . have h8:j<k:=oo
   refine⟨⟨oo,oo⟩,trivial,fun g9=>(j4 ?_).symm,fun g9=>⟨⟨oo,oo⟩,⟨⟨h8,tQ gI g9⟩,oo⟩,oo⟩⟩;have hd:decide (∀ j,j<k->jZ z (all.getD j Tc.slot.aa)=false)=false:=by
    rw [ew];intro h;rw [h j h8] at g9;cases g9
   rw [hH,hz,ch,hd];simp
 . have hd:decide (∀ j,j<k->jZ z (all.getD j Tc.slot.aa)=false)=true:=by
    rw [aU];exact fun i hi=>gI i oo
   refine⟨⟨oo,oo⟩,⟨⟨af,Jq ?_⟩,oo⟩,oo⟩;rw [hH,tZ,ho,PT,Yx,hz,ch,hd];rfl):P:=h
theorem s_4{P:Prop}(h:P:=by
 conv=>arg 1; cbv
 simp (maxSteps:=4000000) only [ay,aJ,aH,aO];simp only [jJ,jK,WL,OP,aJ,aH];refine⟨⟨t2,t4⟩,?_⟩;refine fun _ _ => ?_
 conv=>arg 1; cbv
 simp (maxSteps:=4000000) only [ay,aJ,aH,aO];have aDR:=jM t0;have eD:(gG (cr (aM (S.take j)).a0) (pO (aM S).a0 K (aM (S.take j)).a2 (aM (S.take j)).a4)).1=vv S (aM S).a0 K j:=rfl;simp only [jJ,jK,wL,aDR,OP,t0,eD,aJ,aH,aO,pY];refine fun _ _ => ?_
 conv=>arg 1; cbv
 simp (maxSteps:=4000000) only [ay,aJ,aH,aO];have hD:aB (dD (vv S (aM S).a0 K j))=vv S (aM S).a0 K j:=wL _ _;have FI:aP (2*bH l j):=by have:=vq aR j; simp only [aP]; omega
 have J2:=jM FI;have eA:(mulL (vv S (aM S).a0 K j) (cr (2*bH l j))).1=Fj l S (aM S).a0 K j:=rfl;simp only [Ar,jJ,jK,u7,J2,hD,FI,eA,aJ,aH,aO,pY];refine fun _ _ => ?_
 conv=>arg 1; cbv
 simp (maxSteps:=4000000) only [ay,aJ,aH,aO];have hA:aB (dD (Fj l S (aM S).a0 K j))=Fj l S (aM S).a0 K j:=u7 _ _;have OO:=jM t1;have eT:(gG (fW (Fj l S (aM S).a0 K j) (pO (aM S).a0 K (aM (S.take j)).a3 (aM (S.take j)).a5)).1 (cr (aM (S.take j)).a1)).1=Fk l S (aM S).a0 K j:=rfl;simp only [jJ,jK,wK,wL,OO,hA,WL,OP,t1,t3,t5,eT,aJ,aH,aO,pY];refine fun _ _ => ?_
 conv=>arg 1; cbv
 simp (maxSteps:=4000000) only [ay,aJ,aH,aO];have hT:aB (dD (Fk l S (aM S).a0 K j))=Fk l S (aM S).a0 K j:=wL _ _;have i2:aP 2:=ii
 have WX:=jM i2;simp only [jJ,jK,wM,WX,hT,i2,aJ,aH,aO,pY];have af:j<n:=oo
 rw [pf];exact⟨by simp only [dE,hZ,cy,vw]; omega,ii,⟨oo,oo⟩,oo,(yw af).symm,rfl,rfl,rfl,rfl,rfl,rfl⟩):P:=h
theorem s_5{P:Prop}(h:P:=by
 have h6:j<hs.length:=oo
 have h7:=XK h6;have jS:=pk _ (eJ Tc.u8.aa h6);have wb:aP (hs.getD j Tc.u8.aa):=⟨oo,oo⟩
 have hs4:(hs.take j).length<=2:=by rw [cy]; omega
 have eR:=c6 [Kx.i .i64 x.ar,Kx.i .i64 (hs.getD j Tc.u8.aa)];have pn:aP ((sZ (fw b) x.ar M0 (hs.take j) [Kx.i .i64 x.ar,Kx.i .i64 (hs.getD j Tc.u8.aa)]).getD Tc.int.aa+fw b):=by
  rw [dr];exact⟨oo,oo⟩
 obtain⟨e1,e2,e3,e4,e5⟩:=all_true pn (show aP ((j:Int)+1) from ⟨oo,oo⟩) (show j+1<=hs.length/\hs.length - (j+1)<hs.length - j from ⟨oo,oo⟩) (show (j:Int)+1=((j+1:Nat):Int) from oo) wb;simp only [h7,e1,e2,e3,e4,e5,Qd,aH,aJ];exact⟨oo,oo⟩):P:=h
theorem Ap{P:Prop}(h:P:=by
 refine⟨⟨⟨oo,oo⟩,oo,oo⟩,?_,ii,⟨oo,oo⟩,oo,rN⟩;simp only [c9,cy,dE,hZ];omega):P:=h
theorem W7{P:Prop}(h:P:=by
 obtain⟨j,mq,rfl,rfl⟩:=hrel;rcases (by omega:j=3\/j=0\/j=1\/j=2) with rfl|rfl|rfl|rfl
 . go_wp2
   go_round
   case rel=>exact⟨3+1,oo,by go_num,by rw [HX.out],fun i hi=>by
    rcases cv i 3 with h1|h1
    . exact HJ.out i h1
    . obtain rfl:i=3:=oo
      exact Oi.out⟩
   case measure=>simp [intOf]<;>omega
 . go_wp2
   go_round
   case rel=>exact⟨1,oo,by go_num,by go_num⟩
   case measure=>simp [intOf]<;>omega
 . go_wp2
   go_round
   case rel=>exact⟨2,oo,by go_num,by go_num⟩
   case measure=>simp [intOf]<;>omega
 . go_wp2
   go_round
   case rel=>exact⟨3,oo,by go_num,by go_num⟩
   case measure=>simp [intOf]<;>omega):P:=h
theorem s_8{P:Prop}(h:P:=by
 go_loop [6,7] (fun v t=>∃ j:Nat,j<=k/\t = .int .i64 j/\v = .int .i64 (fT c*2^j)) (fun _ t=>k - (intOf t).toNat)
 case atStart=>exact⟨0,oo,rfl,by rw [<- HV.out]; simp only [Int.pow_zero,Int.mul_one]⟩
 case round =>
  obtain⟨j,mq,rfl,rfl⟩:=hrel;have c6:0<=fT c*2^j:=P3 HV0.out (by have:=(Ok (k:=j) oo).1; omega);have eR:fT c*2^j<=38*512:=Int.mul_le_mul HV1.out (Ok (k:=j) oo).2 (by have:=(Ok (k:=j) oo).1; omega) oo;by_cases gI:j<k
  . have he:2*(fT c*2^j)=fT c*2^(j+1):=by rw [Int.pow_succ]; ac_rfl
    have HE:=bt he;clear he
    go_wp2
    go_round
    case rel=>exact⟨j+1,oo,by go_num,by rw [<- HE.out]⟩
    case measure=>simp [intOf]<;>omega
  . obtain rfl:j=k:=oo
    have hx:wrap64 (j3 s j+fT c*2^j)=j3 s (j+1):=by
     have:=O6.out;rwa [JE (x:=fT c*2^j) oo oo] at this
    have HX:=bt hx;clear hx
    go_wp2
    go_round
    case rel=>exact⟨j+1,oo,by go_num,by rw [<- HX.out],fun i hi=>by
     rcases cv i j with h1|h1
     . exact HJ.out i h1
     . obtain rfl:i=j:=oo
       exact Oi.out⟩
    case measure=>simp [intOf]<;>omega):P:=h
theorem Wz{P:Prop}(h:P:=by
 conv=>arg 1; cbv
 simp (maxSteps:=4000000) only [ay,aJ,aH,aO];refine⟨fun h=>absurd h (by simp),fun _=>⟨⟨⟨bw _,fun _ _=>trivial⟩,rfl⟩,fun (k:Nat) hk => ?_⟩⟩;have bu:k<=a.length/\∀ j,j<k->True:=hk;have bM:=bu.1;have _:=bu.2
 conv=>arg 1; cbv
 simp (maxSteps:=4000000) only [ay,aJ,aH,aO];exact⟨fun g=>⟨⟨oo,oo⟩,⟨oo,oo⟩,fun h=>absurd h (by simp),fun _=>⟨ ii,⟨⟨oo,fun _ _=>trivial⟩,oo⟩,oo⟩⟩,fun _=>trivial⟩):P:=h
theorem ajJ{P:Prop}(h:P:=by
 have hB:kz (l.getD k Tc.box.aa)=true:=by simpa using b
 refine⟨ua 5 k fun j=>¬ Fy l k j,?_⟩
 conv=>arg 1; cbv
 refine⟨?_,fun (j:Nat) hj => ?_⟩
 . simp (maxSteps:=4000000) only [ay,aJ,aH,aO];simp
 have rU:j<=k/\∀ i,i<j->¬ Fy l k i:=hj;have p7:=rU.1;have gI:=rU.2;refine fm ?_;refine⟨fun gj => ?_,fun gj=>j5 (n:=l.length) (P:=fun j=>kA l j=false) oo af bm ?_⟩
 . have hN:=fun q=>j5 (P:=fun j=>¬ Fy l k j) (show k<=1000000000000 from oo) (show j<k from oo) gI q;refine⟨⟨oo,oo⟩,fun a=>⟨⟨oo,oo⟩,⟨oo,oo⟩,fun c=>j4 (O9.2 (.inr (.inr ⟨j,oo,?_,c⟩))),fun c=>hN fun q=>c q.2⟩,fun a=>hN fun q=>q.1 ?_⟩
   . simp only [fG,ew] at a;exact a
   . simp only [iR,aU] at a;exact a
 . cases hb:kA l k with
   | false=>rfl
   | true =>
    rcases O9.1 hb with h1|⟨h1,h2⟩|⟨i,h1,h2⟩
    . rw [hB] at h1; cases h1
    . rcases hI with h3|h3<;>omega
    . exact absurd h2 (gI i oo)):P:=h
theorem aki{P:Prop}(h:P:=by
 have c1:p.1<=c/\c<p.2:=oo
 have c2:=hSR c oo oo;have e1:((mid:Int)+(m:Int) - 1 - (c:Int)).toNat=mid+m - 1 - c:=oo
 rw [e1];refine⟨ii,oo,ii,ii,⟨oo,oo⟩,⟨oo,oo⟩,trivial,fun g2 => ?_,fun g2 => ?_⟩
 . refine bk (c+1) fun c' Qt => ?_;simp only [fG,ew] at g2;refine⟨ii,⟨(c',p.2),⟨⟨⟨oo,oo,oo⟩,.inr ?_,q3⟩,by show p.2 - c'<p.2 - p.1; omega⟩,?_⟩⟩
   . show (l.getD (c' - 1) Tc.ai.aa).aK<=(l.getD (mid+m - c') Tc.ai.aa).aK
     rw [show c' - 1=c from oo,show mid+m - c'=mid+m - 1 - c from oo];omega
   . conv=>arg 1; cbv
     simp (maxSteps:=4000000) only [ay];exact⟨oo,trivial⟩
 . simp only [iR,aU] at g2;refine⟨(p.1,c),⟨⟨⟨oo,oo,oo⟩,q2,.inr g2⟩,by show c - p.1<p.2 - p.1; omega⟩,?_⟩
   conv=>arg 1; cbv
   simp (maxSteps:=4000000) only [ay];exact⟨trivial,trivial⟩):P:=h
theorem V0{P:Prop}(h:P:=by
 go_enter Tryz.func58,Tryz.ntmps58
 go_wp2_with (first
  | (go_at_call 59; refine (HK.out _).mono ?_; rintro e wx ⟨rfl,hx⟩; rw [hx]; clear hx wx HK)
  | (go_at_call 119; refine (HX.out _).mono ?_; rintro e wx ⟨rfl,hx⟩; rw [hx]; clear hx wx HX)
  | (go_at_call 119; refine (HY.out _).mono ?_; rintro e wx ⟨rfl,hx⟩; rw [hx]; clear hx wx HY)
  | (go_at_call 119; refine (HZ.out _).mono ?_; rintro e wx ⟨rfl,hx⟩; rw [hx]; clear hx wx))
 go_ret
 exact⟨rfl,HB.out⟩):P:=h
theorem ajH{P:Prop}(h:P:=by
 refine⟨ua 8 i (JI s.bO i j),?_⟩
 conv=>arg 1; cbv
 refine⟨?_,fun (m:Nat) hm => ?_⟩
 . simp (maxSteps:=4000000) only [ay,aJ,aH,aO];exact⟨⟨bw _,fun j hj=>absurd hj (jB _)⟩,rfl⟩
 have Ay:m<=i/\∀ q,q<m->JI s.bO i j q:=hm;have BR:=Ay.1;have uU:=Ay.2;refine fm ?_;refine⟨fun g5 => ?_,fun g5=>j5 (n:=(s.bO.getD i Tc.cD.aa).rows.length) (P:=Ft s.bO i) hr hjr gI ⟨ajG,fun q hq=>uU q oo⟩⟩;have hmi:m<i:=oo
 have hN:=fun q=>j5 (P:=JI s.bO i j) (show i<=1000000000000 from oo) hmi uU q;exact⟨⟨oo,oo⟩,fun a2=>⟨⟨oo,oo⟩,⟨oo,oo⟩,ja.2 _ (eJ Tc.cD.aa (show m<s.bO.length from oo)),fun d=>Xi fun q=>q.2 m hmi ⟨a2,d⟩,fun d=>hN fun q=>by rw [q.2] at d; cases d⟩,fun a2=>hN fun q=>a2 q.1⟩):P:=h
theorem ju{P:Prop}(h:P:=by
 simp [Op.operands]):P:=h
theorem ZW{P:Prop}(h:P:=by
 obtain⟨j,hj,rfl⟩:=ha;obtain⟨ds,hd⟩:=hd;unfold part;have h1:(isAgg T).run P w = .ok (il P T) w:=by
  unfold isAgg il;simp only [underlying,bQ,cq,cg,ou,hd];cases ds<;>rfl
 simp only [bQ,h1,cg]
 cases hb:il P T with
 | true =>
  have:=hlen hb;rw [p8 hb];simp only [fH,sizeOf,typeInfo,bQ,cq,cg,ou,hj];congr 2;apply yP;simp [List.extract_eq_take_drop,Yy]
 | false =>
  simp only [fk,dK,FO,hv hb,cq]):P:=h
theorem pM{P:Prop}(h:P:=by
 simp (maxSteps:=4000000) only [ay];simp):P:=h
theorem Wb{P:Prop}(h:P:=by
 conv=>arg 1; cbv
 simp (maxSteps:=4000000) only [ay,aJ,aH,aO];refine⟨fun g=>⟨⟨oo,oo⟩,fun c => ?_,fun c => ?_⟩,fun g => ?_⟩
 . exact (E7 bm oo c).symm
 . exact j5 hl oo bm c
 . exact (E8 bm oo).symm):P:=h
theorem ad6{P:Prop}(h:P:=by
 cases e with
 | normal =>
  obtain⟨g,S,_,H,hc⟩:=hq
  cases g with
  | zero=>unfold cont at hc; exact hc.elim
  | succ g=>unfold cont at hc; exact ga S H hc
 | ret =>
  obtain⟨g,S,_,H,hc⟩:=hq
  cases g with
  | zero=>unfold mI at hc; exact hc.elim
  | succ g=>unfold mI at hc; exact ga S H hc
 | exit id =>
  obtain⟨g,S,_,H,hc⟩:=hq
  cases g with
  | zero=>unfold exitTo at hc; exact hc.elim
  | succ g=>unfold exitTo at hc; exact hc.elim
 | goto l=>exact hq.elim
 | panic c=>exact hq.elim
 | outgrown=>exact hq.elim):P:=h
theorem Jt{P:Prop}(h:P:=by
 rw [ez oo]
 first|done|trivial|(simp only [c9]; and_intros<;>first|trivial|omega|rfl)):P:=h
theorem akj{P:Prop}(h:P:=by
 refine bk (mid+m - s) fun e xV => ?_;rw [xV] at he hT qc;simp only [he,fB];have Es:s=m\/m=e->aj8 aA.aK Tc.ai.aa a b s e mid N l (cY aA.aK a b l):=fun g=>by
  have q:=aBb (l:=l) (s:=s) (m:=m) (e:=e) oo oo oo g;rw [q] at hT;exact hT
 exact⟨ii,fun g1=>⟨fun g2=>⟨⟨⟨oo,oo,oo⟩,oo,h6⟩,hT⟩,fun g2=>Es (.inr oo)⟩,fun g1=>Es (.inl oo)⟩):P:=h
theorem J9{P:Prop}(h:P:=by
 rw [<- hL,ahU oo,<- hM,ahT _ _ oo,show ((k - l.length:Nat):Int)=(k:Int) - (l.length:Int) from oo]):P:=h
theorem aaz{P:Prop}(h:P:=by
 obtain⟨ds,hd,hm⟩:=oB (aQ T i hT);rw [mr] at hm;cases ds<;>first|(simp [kN] at hm; done)|skip
 rename_i e';simp only [kN,aD,cC] at hm;obtain⟨⟨he,_⟩,hm⟩:=hm;subst he
 cases hj:P.info? e' with
 | none=>rw [hj] at hm; cases hm
 | some j =>
  rw [hj] at hm;simp only [aD,cC] at hm;have he:P.elem T=e':=by simp [Program.elem,hd]
  rw [he];exact⟨hd,fun w'=>by rw [run_sizeOf w' hj]; simp [Program.cellsOf,hj,hm.1.1]⟩):P:=h
theorem FC{P:Prop}(h:P:=by
 simp only [oQ,fL,fB,jj,uj,dr];exact⟨oo,oo⟩):P:=h
theorem Lw{P:Prop}(h:P:=by
 cases h;refine⟨_,?_,.int k _⟩;unfold execOp;simp only [hx,hy,eqGuard,binOp,Op.intBits,ne_eq,Kg,dK,bQ,cq];rfl):P:=h
theorem Ac{P:Prop}(h:P:=by
 simp (maxSteps:=4000000) only [ay];exact⟨bw _,rfl,rfl⟩):P:=h
theorem O0{P:Prop}(h:P:=by
 conv=>arg 1; cbv
 simp (maxSteps:=4000000) only [ay,aJ,aH,aO];simp only [jJ,oT]
 first|exact hp|exact⟨hp,trivial⟩):P:=h
theorem Tf{P:Prop}(h:P:=by
 rw [wB] at h4;rw [qI] at h4 gL
 cases hq:listed[j]? with
 | none=>rw [hq] at h4; cases h4
 | some q=>rw [hq] at h4 gL; simp only [iD] at h4 gL; rw [h4] at gL; cases gL):P:=h
theorem Yp{P:Prop}(h:P:=by
 exact⟨fun g2=>⟨⟨oo,oo⟩,ii,⟨⟨oo,oo⟩,oo,oo⟩,⟨by rw [e]; rfl,by rw [e]; exact bw _⟩,hN oo⟩,fun g2=>oo⟩):P:=h
theorem agL{P:Prop}(h:P:=by
 have bu:k<=l.length/\∀ j,j<k->(nB id) (l.getD j Tc.box.aa)=false:=hk;have bM:=bu.1;have bm:=bu.2
 conv=>arg 1; cbv
 simp (maxSteps:=4000000) only [ay];refine⟨fun g => ?_,fun g=>(E8 bm oo).symm⟩;have af:k<l.length:=oo
 exact⟨oo,trivial,fun h=>(E7 bm af h).symm,fun h=>⟨⟨oo,oo⟩,⟨⟨af,tQ bm h⟩,oo⟩,oo⟩⟩):P:=h
theorem ajE{P:Prop}(h:P:=by
 simp (maxSteps:=4000000) only [ay,aJ,aH,aO];exact⟨⟨bw _,fun j hj=>absurd hj (jB _)⟩,rfl⟩):P:=h
theorem akC{P:Prop}(h:P:=by
 intro i k mb hk
 induction k with
 | zero=>omega
 | succ k ih =>
  have h1:=JW h hk;unfold od at h1;simp only [aD,fM,aU] at h1;have h2:(l.getD k Tc.ai.aa).box<(l.getD (k+1) Tc.ai.aa).box:=by
   rcases h1.1.2 with h2|h2
   . omega
   . simpa using h2
  by_cases he:i=k
  . subst he; exact h2
  . have:=ih oo oo;omega):P:=h
theorem OJ{P:Prop}(h:P:=by
 conv=>arg 1; cbv
 simp (maxSteps:=4000000) only [ay];exact⟨oo,trivial⟩):P:=h
theorem OK{P:Prop}(h:P:=by
 conv=>arg 1; cbv
 simp (maxSteps:=4000000) only [ay];exact⟨trivial,trivial⟩):P:=h
theorem XM{P:Prop}(h:P:=by
 rw [hT,FE,FD,vu,XL];refine⟨by rw [Po]; simp only [dE,hZ]; omega,⟨oo,oo⟩,⟨oo,oo⟩,oo,rfl,rfl⟩):P:=h
theorem Je{P:Prop}(h:P:=by
 go_enter Tryz.func259,Tryz.ntmps259
 go_wp2
 go_ret2
 exact⟨by rw [E.out,E2.out]; rfl,rfl⟩):P:=h
theorem Yo{P:Prop}(h:P:=by
 rw [<- hL,ahU (by simp only [di]; omega),<- hM,di,ahT _ _ oo,show ((k - l.length:Nat):Int)=(k:Int) - (l.length:Int) from oo]):P:=h
theorem aeY{P:Prop}(h:P:=by
 rw [rZ (show k - 1<l.length from oo)] at hd;rw [qw,aY,e9,aG oo,bq (show k - 1<l.length from oo),iD] at z;rcases gD.1 hd with h|h
 . omega
 . exact bm d (by rwa [show k - 1+1=k from oo] at h)):P:=h
theorem ag1{P:Prop}(h:P:=by
 unfold eI;rw [show l.take (k+1)=l.take k ++ [l[k]] from by rw [YH,bq af]; rfl,ot,YL,aY,bq af];simp only [jj,uj,xx,List.sum_nil,iD];omega):P:=h
theorem Ox{P:Prop}(h:P:=by
 conv=>arg 1; cbv
 simp (maxSteps:=4000000) only [ay,aJ,aH,aO];exact⟨hp,agT _ _⟩):P:=h
theorem agN{P:Prop}(h:P:=by
 conv=>arg 1; cbv
 simp (maxSteps:=4000000) only [ay];rcases Jj l id with ⟨h1,h2⟩|⟨k,h1,h2,h3⟩
 . simp only [h2];refine⟨hl,fun _ => ?_,fun g=>absurd h1 g⟩;simp [Ji,vm,jF]
 . simp only [h1,h3,fB];refine⟨hl,fun g=>oo,fun g => ?_⟩;simp;omega):P:=h
theorem ZJ{P:Prop}(h:P:=by
 unfold execOp;simp only [resolve,invoke,builtin,Builtin.len_,Kj,jj,uj,hx,underlying,bQ,cq,cg];simp only [ht,FO,pW,bQ,cq,cg,ou];rfl):P:=h
theorem Js{P:Prop}(h:P:=by
 simp (maxSteps:=4000000) only [ay];exact⟨bw _,oo,by simp⟩):P:=h
theorem YY{P:Prop}(h:P:=by
 rcases bS.1.2 with ⟨h2,h3⟩|⟨g,cap,cur,h2,_,_,pt,_⟩
 . rw [h2];simp [Builtin.append_,qM ht,sizeOf,typeInfo,hi,Builtin.lenOf,Builtin.firstCells]
 . rw [h2];simp [Builtin.append_,qM ht,sizeOf,typeInfo,hi,Builtin.lenOf,Builtin.firstCells,pt,storeCells]):P:=h
theorem Wy{P:Prop}(h:P:=by
 rw [ez oo]
 first|done|trivial|(simp only [c9,di]; and_intros<;>first|trivial|omega|rfl)):P:=h
theorem CT{P:Prop}(h:P:=by
 first|exact hk|(and_intros<;>first|trivial|omega|rfl)):P:=h
theorem wN{P:Prop}(h:P:=by
 rw [fg]; omega):P:=h
theorem QM{P:Prop}(h:P:=by
 subst hv hz;unfold execOp;simp only [hx,hy,eqGuard,binOp,Op.intArith,ne_eq,Kg,dK,bQ,cq];rfl):P:=h
theorem ajZ{P:Prop}(h:P:=by
 unfold cY;rw [aY,Df,ax (by rw [cy]; omega),Df,aG (by rw [cy]; omega),cy,show min a l.length=a from oo,bq oo];rfl):P:=h
theorem CW{P:Prop}(h:P:=by
 go_wp2
 go_ret
 exact⟨by rw [HB.out]; rfl,rfl⟩):P:=h
theorem aas{P:Prop}(h:P:=by
 refine⟨by simp [h.1],fun j x v hx hv => ?_⟩;rw [gC] at hx
 cases hj:l[j]? with
 | none=>rw [hj] at hx; cases hx
 | some y =>
  rw [hj] at hx;simp only [dG,bU] at hx;subst hx;exact (h.2 j y v hj hv).wh):P:=h
theorem Xd{P:Prop}(h:P:=by
 simp (maxSteps:=4000000) only [ay];refine (hS (hA ?_)).symm;unfold qE;generalize s.bO.getD m Tc.cD.aa=x at *
 grind):P:=h
theorem Yf{P:Prop}(h:P:=by
 intro S a
 induction S with
 | nil=>simp [iB]
 | cons b S JX=>rw [qL,yE,yE,JX]; omega):P:=h
theorem akh{P:Prop}(h:P:=by
 simp (maxSteps:=4000000) only [ay];refine⟨⟨⟨aN _,oo,aN _⟩,.inl trivial,.inl trivial⟩,?_⟩
 first|exact⟨oo,oo⟩|exact⟨oo,trivial⟩|exact⟨trivial,trivial⟩):P:=h
theorem VR{P:Prop}(h:P:=by
 go_wp2
 go_ret
 exact⟨by rw [HE.out]; rfl,dU _ _⟩):P:=h
theorem XJ{P:Prop}(h:P:=by
 simp only [oQ,fL,fB,jj,uj,dr,JU];exact⟨oo,oo⟩):P:=h
theorem zA{P:Prop}(h:P:=by
 simpa [AV.under] using hx):P:=h
theorem Jf{P:Prop}(h:P:=by
 go_wp2
 go_ret
 exact⟨by rw [HL.out,HD.out]; rfl,rfl⟩):P:=h
theorem aeF{P:Prop}(h:P:=by
 split at h
 . simp only [mm,bU] at h;obtain⟨a0,h0,a1,h1,a2,h2,a3,h3,a4,h4,rfl⟩:=h;rw [AV.cM h0,AV.cM h1,AV.cM h2,AV.cM h3,AV.cM h4];rfl
 . cases h):P:=h
theorem Yn{P:Prop}(h:P:=by
 simp only [di]; omega):P:=h
theorem Oy{P:Prop}(h:P:=by
 rwa [aY,bq hj] at this):P:=h
theorem FB{P:Prop}(h:P:=by
 exact s _ _ oo oo oo):P:=h
theorem So{P:Prop}(h:P:=by
 rcases cv loc S.n with h|h
 . exact h
 . have:=H.fresh loc h; rw [hA] at this; cases this):P:=h
theorem aei{P:Prop}(h:P:=by
 split at h
 case h_2=>cases h
 simp only [mm,bU] at h;obtain⟨a,e0,b,e1,rfl⟩:=h;obtain rfl:=A.ok e0;obtain rfl:=B.ok e1;exact⟨a (),b (),rfl,rfl⟩):P:=h
theorem aeX{P:Prop}(h:P:=by
 simp (maxSteps:=4000000) only [ay,aJ,aH,aO];subst Cq;refine⟨⟨aN _,fun d hd => ?_⟩,?_⟩
 . rw [amT] at hd;cases hd
 . rw [vG]):P:=h
theorem V7{P:Prop}(h:P:=by
 conv=>arg 1; cbv
 simp (maxSteps:=4000000) only [ay];unfold fU;by_cases h:low<=n<;>simp [h]):P:=h
theorem LK{P:Prop}(h:P:=by
 simp [Op.operands,Call.operands]):P:=h
theorem BV{P:Prop}(h:P:=by
 simpa [AV.under] using hu):P:=h
theorem acx{P:Prop}(h:P:=by
 obtain⟨S0,S3,r,k1,k2,k3,k4,k5⟩:=q1 m o' (by simpa using hm);rw [show i+1+m=i+(m+1) from oo] at k1 k2;exact⟨S0,S3,r,k1,k2,by rw [k3,iJ.1,kW],k4,by simpa using k5⟩):P:=h
theorem alF{P:Prop}(h:P:=by
 generalize gT au.a1 ws=A at *
 generalize mS au.a1 y ws=B at *
 generalize gT au.a0 ws=C at *
 generalize mS au.a0 y ws=E at *
 generalize uf y ws=G at *
 grind):P:=h
theorem WB{P:Prop}(h:P:=by
 conv=>arg 1; cbv
 simp (maxSteps:=4000000) only [ay,aJ,aH,aO];simp [hl]):P:=h
theorem af2{P:Prop}(h:P:=by
 simp (maxSteps:=4000000) only [ay,aJ,aH,aO];exact⟨⟨⟨by simp [aZ],fun d hd=>by cases hd⟩,by decide,.inl (bw _)⟩,rfl,rfl,rfl⟩):P:=h
theorem VZ{P:Prop}(h:P:=by
 rw [h3];clear h3
 go_enter Tryz.func119,Tryz.ntmps119
 go_wp2
 go_ret
 exact⟨rfl,rfl⟩):P:=h
theorem aaf{P:Prop}(h:P:=by
 generalize i.ti=ti at hm ha;cases ti<;>first|exact absurd ha Bool.false_ne_true|exact absurd ha.symm Bool.false_ne_true|(cases ds<;>first|rfl|simp [kN] at hm)):P:=h
theorem afz{P:Prop}(h:P:=by
 unfold oz;by_cases h:x<y
 . rw [aG h]; exact⟨fun _=>h,fun _=>by decide⟩
 . rw [ax h];exact⟨fun h2=>by split at h2<;>omega,fun h2=>absurd h2 h⟩):P:=h
theorem VY{P:Prop}(h:P:=by
 rw [h3];clear h3
 go_enter Tryz.func59,Tryz.ntmps59
 go_wp2
 go_ret
 exact⟨rfl,rfl⟩):P:=h
theorem Mr{P:Prop}(h:P:=by
 simp only [aD]; exact fun h=>h.1):P:=h
theorem aeh{P:Prop}(h:P:=by
 split at h
 case h_2=>cases h
 simp only [mm,bU] at h;obtain⟨a,e0,rfl⟩:=h;obtain rfl:=A.ok e0;exact⟨a (),rfl,rfl⟩):P:=h
theorem aj7{P:Prop}(h:P:=by
 rw [aY,AD oo oo oo];split
 . rw [aY]
 . split<;>rw [aY]):P:=h
theorem akf{P:Prop}(h:P:=by
 simp (maxSteps:=4000000) only [ay];exact⟨⟨⟨aN _,oo,aN _⟩,fun k q1 q2=>oo,fun k q1 q2=>oo⟩,trivial,trivial⟩):P:=h
theorem ZQ{P:Prop}(h:P:=by
 rw [dx,dy] at ih;by_cases nu:x=y
 . subst nu;simp only [qN,jC,fk,dK,ih,vL,aJ]
 . simp [nu]):P:=h
theorem adT{P:Prop}(h:P:=by
 obtain⟨g,S',hg,H',hc⟩:=hq
 cases g with
 | zero=>unfold mI at hc; exact hc.elim
 | succ g=>unfold mI at hc; exact⟨g,S',oo,H',hc⟩):P:=h
theorem aa6{P:Prop}(h:P:=by
 show al (rj ks S.t) d=none
 cases hp:al (rj ks S.t) d with
 | none=>rfl
 | some y=>have:=GZ hp; rw [H.kQ d x h] at this; cases this):P:=h
theorem aj3{P:Prop}(h:P:=by
 apply xv;intro i;rw [te,te,Df];simp only [r9,cy];grind):P:=h
theorem MP{P:Prop}(h:P:=by
 exact ih h5 (fun c hc=>hv c (.tail _ hc)) hb.2 l e he):P:=h
theorem Zn{P:Prop}(h:P:=by
 rename_i h3;rw [AY _ _ _ hd];congr 2;rw [ep,eq];simp only [fk,dK];rw [Int.natCast_sub oo];push_cast;grind):P:=h
theorem Hk{P:Prop}(h:P:=by
 simpa only [AV.under] using hu):P:=h
theorem abE{P:Prop}(h:P:=by
 unfold execOp;simp only [resolve,invoke,builtin,bQ,cq,cg,Kj,jj,uj,h]):P:=h
theorem aaq{P:Prop}(h:P:=by
 simp only [y6] at h;split at h
 . obtain⟨vs,rfl,hE⟩:=hx.rf;obtain⟨h1,h2⟩:=Lz h hE;exact⟨by rw [h1]; rfl,h2⟩
 . cases h):P:=h
theorem Ib{P:Prop}(h:P:=by
 simpa only [AV.sI] using hx):P:=h
theorem Ww{P:Prop}(h:P:=by
 simp (maxSteps:=4000000) only [ay]
 and_intros<;>first|trivial|omega|rfl):P:=h
theorem aaO{P:Prop}(h:P:=by
 split at h
 . rename_i hf;injection h with h;subst h;exact⟨aS _ (.head _),eq_of_beq hf⟩
 . exact ih (fun c hc=>aS c (.tail _ hc)) h):P:=h
theorem ahV{P:Prop}(h:P:=by
 rw [aY,gC,bq h,aY,bq h];rfl):P:=h
theorem Z2{P:Prop}(h:P:=by
 subst hv hz;unfold execOp;simp only [hx,hy,eqGuard,binOp,Op.intDiv,hn,ne_eq,Kg,dK,bQ,cq];rfl):P:=h
theorem aaI{P:Prop}(h:P:=by
 cases hf:Bp kk k 0 _ with
 | none=>rw [hf] at h; cases h
 | some f=>rw [hf] at h; cases h; exact⟨_,aaE hf hE fO hm,.int _ _⟩):P:=h
theorem aaa{P:Prop}(h:P:=by
 refine⟨_,(aoQ hx hy).trans (by simp only [Op.stringOp,cq,cg]; rfl),?_⟩;rw [toList_inj];exact .bool _):P:=h
theorem aaJ{P:Prop}(h:P:=by
 cases hf:Bq k 0 _ with
 | none=>rw [hf] at h; cases h
 | some f=>rw [hf] at h; cases h; exact⟨_,aaG hf hE fO hm,.bool _⟩):P:=h
theorem ahx{P:Prop}(h:P:=by
 induction m with
 | nil=>simp
 | cons a m ih =>
  simp only [jj,qL,List.foldr_cons] at ih ⊢;rw [ih];omega):P:=h
theorem ajc{P:Prop}(h:P:=by
 unfold Aa tO Jd pL at hm;split at hm
 . simp at hm; omega
 . split at hm
   . simp at hm; omega
   . simp at hm; omega):P:=h
theorem alM{P:Prop}(h:P:=by
 rw [Yi];have e:((0:Int):Rat) / ((2:Int):Rat)=0:=by grind
 rw [e];exact⟨show cr 0=ofRat 0 by decide,0,by grind,by simp⟩):P:=h
theorem Dt{P:Prop}(h:P:=by
 simpa using af):P:=h
theorem acy{P:Prop}(h:P:=by
 intro o ho d' qT;rcases gD.1 ho with rfl|ho
 . rw [hd] at qT; cases qT; exact aq0 fR
 . exact ih o ho d' qT):P:=h
theorem TC{P:Prop}(h:P:=by
 cases base with
 | none=>exact hb 0 _
 | some a=>exact hc a len elem _):P:=h
theorem Wx{P:Prop}(h:P:=by
 simp only [cy,dE,hZ];omega):P:=h
theorem ajb{P:Prop}(h:P:=by
 clear e hv p8 hm
 go_wp2
 go_round
 case rel=>exact⟨k+1,oo,by go_num,by rw [HE.out]⟩
 case measure=>simp [intOf]; omega):P:=h
theorem aiJ{P:Prop}(h:P:=by
 conv=>arg 1; cbv
 simp (maxSteps:=4000000) only [ay,aJ,aH,aO]
 first|done|trivial|exact⟨trivial,rfl⟩|rfl):P:=h
theorem ald{P:Prop}(h:P:=by
 have h2:((D:Int):Rat)=((10000*(aM S).a5:Int):Rat):=by rw [h1]
 rw [PV,nI] at h2;rw [h2];rfl):P:=h
theorem OR{P:Prop}(h:P:=by
 simp only [aD,aU]):P:=h
theorem Zo{P:Prop}(h:P:=by
 rename_i h3;rw [AY _ _ _ hd];congr 2;rw [ep,eq];simp only [fH];rw [Int.natCast_sub oo];push_cast;grind):P:=h
theorem ajz{P:Prop}(h:P:=by
 rw [fc] at this;have:=this x hx;unfold qE at this;simp only [aD] at this;exact this.2.2):P:=h
theorem ae0{P:Prop}(h:P:=by
 rw [qw,aY,e9,aG oo,<- aY,e];rfl):P:=h
theorem K6{P:Prop}(h:P:=by
 simpa only [AV.plain] using hx):P:=h
theorem MG{P:Prop}(h:P:=by
 simpa only [AV.under] using hx):P:=h
theorem agE{P:Prop}(h:P:=by
 go_wp2
 go_ret
 exact⟨by rw [agD.out]; rfl,Og.out.trans ((hb.trans (hC.mono hb.size)).mono Og.out.size)⟩):P:=h
theorem aiq{P:Prop}(h:P:=by
 obtain⟨i,hi,rfl⟩:=lW.1 ha;exact Wj aR oo (by have:=iV.1 hi; omega)):P:=h
theorem abw{P:Prop}(h:P:=by
 unfold execOp;simp only [Instr.storeAt,Instr.sureAddr,nV,bQ,cq,cg,cZ]):P:=h
theorem Bg{P:Prop}(h:P:=by
 simpa using hy):P:=h
theorem MJ{P:Prop}(h:P:=by
 simpa only [AV.ri] using hx):P:=h
theorem aaT{P:Prop}(h:P:=by
 unfold execOp;simp only [he,Op.unary,Op.intArith,bQ,cq,cg,Int.zero_sub]):P:=h
theorem acD{P:Prop}(h:P:=by
 unfold LL at hq;rw [qI,qJ oo] at hq ⊢;exact hq):P:=h
theorem K5{P:Prop}(h:P:=by
 simpa only [AV.has] using hx):P:=h
theorem aad{P:Prop}(h:P:=by
 simp only [kb e1 hx,kb e2 hy,eqGuard,binOp,Op.shift,h1,dK,bQ,cq];rfl):P:=h
theorem W6{P:Prop}(h:P:=by
 rwa [h2,JE oo oo,yQ] at h1):P:=h
theorem SL{P:Prop}(h:P:=by
 exact .inl ⟨_,_,qk,S0,hS,_,_,H2.put hp (.un _)⟩):P:=h
theorem aau{P:Prop}(h:P:=by
 unfold zeroValue;simp only [typeInfo,bQ,cq,cg,ou,hj,hz]):P:=h
theorem abv{P:Prop}(h:P:=by
 rcases cv loc S.n with h|h
 . exact h
 . have:=H.fresh loc h; rw [hb] at this; cases this):P:=h
theorem afQ{P:Prop}(h:P:=by
 rw [Dc h,aY,bq h];rfl):P:=h
theorem alb{P:Prop}(h:P:=by
 have h0:¬ (lS s bs l w).2=0:=by simpa using c
 unfold yD;rw [ax h0];exact⟨rfl,rfl⟩):P:=h
theorem abZ{P:Prop}(h:P:=by
 rw [ql] at h3;have h4:((c*b:Nat):Int)<=281474976710656:=by rw [Kn]; exact h3
 omega):P:=h
theorem ad1{P:Prop}(h:P:=by
 unfold dR at hx;dsimp only at hx;split at hx
 . rename_i y hy; rw [hy,hx]
 . simp [al] at hx):P:=h
theorem ad3{P:Prop}(h:P:=by
 unfold bF at he;dsimp only at he;split at he
 . rename_i y hy; rw [hy,he]
 . simp [al] at he):P:=h
theorem ajM{P:Prop}(h:P:=by
 exact⟨fun hh=>⟨h2.1,h1 _ (by rw [e5,t1 hh])⟩,fun hh=>⟨h2.2,h1 _ (by rw [e5,t2 hh])⟩⟩):P:=h
theorem Zs{P:Prop}(h:P:=by
 rw [bq (by rw [fg]; exact pj)] at hn;injection hn with hn;rw [hn]):P:=h
theorem alT{P:Prop}(h:P:=by
 rw [ax hx,ax hx];refine (ih.mono ?_).eq ?_
 . rw [mV];omega
 . push_cast;grind):P:=h
theorem aa1{P:Prop}(h:P:=by
 rintro rfl
 rcases GU with GU|GU
 . exact GU b k2
 . have:=GU l _ h0; simp [qf] at this):P:=h
theorem TB{P:Prop}(h:P:=by
 split
 . exact cX.pure _
 . exact (x7 _).qp):P:=h
theorem aab{P:Prop}(h:P:=by
 obtain⟨ds,hd,hm⟩:=oB h;rw [hi] at hm;cases ds<;>first|exact hd|simp [kN] at hm):P:=h
theorem L4{P:Prop}(h:P:=by
 rw [RN]; exact hl):P:=h
theorem Sm{P:Prop}(h:P:=by
 rw [uP hb]; exact Ext.refl _):P:=h
theorem MA{P:Prop}(h:P:=by
 rw [abO]; exact hl):P:=h
theorem SM{P:Prop}(h:P:=by
 rw [uP hA]; exact Ext.refl _):P:=h
theorem ac4{P:Prop}(h:P:=by
 rw [e9] at hq ⊢;split at hq
 . rename_i af; rw [aG af]
 . cases hq):P:=h
theorem ad0{P:Prop}(h:P:=by
 cases hbo:fn.body with
 | none=>rw [hbo] at hb; cases hb
 | some code=>exact⟨code,rfl⟩):P:=h
theorem aiE{P:Prop}(h:P:=by
 conv=>arg 1; cbv
 simp (maxSteps:=4000000) only [ay,aJ,aH,aO];exact hp):P:=h
theorem ada{P:Prop}(h:P:=by
 refine cX.program.bind fun p => ?_;split
 . exact cX.pure _
 . exact (x7 _).qp):P:=h
theorem K4{P:Prop}(h:P:=by
 simpa [Kc.ls] using ha):P:=h
theorem U2{P:Prop}(h:P:=by
 rw [fg]; exact aN _):P:=h
theorem Zv{P:Prop}(h:P:=by
 rw [fl,<- vN,lT,lT]):P:=h
theorem aaF{P:Prop}(h:P:=by
 have:decide (k ()=(j:Int))=true:=by rw [aU,hk]; rfl
 rw [this,hv];rfl):P:=h
theorem Xt{P:Prop}(h:P:=by
 exact sa _ _ oo oo oo):P:=h
theorem Xu{P:Prop}(h:P:=by
 exact sb _ _ oo oo oo):P:=h
theorem ado{P:Prop}(h:P:=by
 rcases cv l S'.n with h|h
 . exact h
 . rw [HR.fresh l h] at q3; cases q3):P:=h
theorem adV{P:Prop}(h:P:=by
 rw [List.mapM_cons];simp only [bQ,cq,cg,hO,h1]):P:=h
theorem aeZ{P:Prop}(h:P:=by
 show _=cl (l.take (k - 1))
 rw [yd,F5,tf oo]):P:=h
theorem Hs{P:Prop}(h:P:=by
 simpa using eQ):P:=h
theorem abG{P:Prop}(h:P:=by
 exact .inl ⟨_,_,qk,S0,hS,_,_,H2.put hp (.own _ _ _ _ (jH _ _ _))⟩):P:=h
theorem agx{P:Prop}(h:P:=by
 unfold fT pL tO;rw [ax (by simp; omega),aG (by simp; omega)]):P:=h
theorem agI{P:Prop}(h:P:=by
 go_enter Tryz.func227,Tryz.ntmps227
 go_wp2
 go_ret
 exact⟨rfl,dU _ _⟩):P:=h
theorem adi{P:Prop}(h:P:=by
 rw [cq] at hr; injection hr with h1 h2; exact⟨h2.symm,_,h1.symm⟩):P:=h
theorem afp{P:Prop}(h:P:=by
 conv=>arg 1; cbv
 simp (maxSteps:=4000000) only [ay,aJ,aH,aO]):P:=h
theorem zh{P:Prop}(h:P:=by
 simp [Op.operands]):P:=h
theorem Ms{P:Prop}(h:P:=by
 simp only [aD]; exact fun h=>h.2):P:=h
theorem akp{P:Prop}(h:P:=by
 have pk:∀ y ∈ [x.half],1<=y/\y<=2:=by simp [gh]
 have JS:([x.half]).length<=2:=by simp
 generalize [x.half]=hs at *
 exact s_5):P:=h
theorem VS{P:Prop}(h:P:=by
 go_enter Tryz.func228,Tryz.ntmps228
 exact VR):P:=h
end Go.Proofs.YtamjbkaclhgffaaGreat
