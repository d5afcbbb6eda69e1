/-
  Short words for closing tactics, and short names for theorems of the library.
-/
import Derived.Below
import Derived.BigQuiet
import Derived.Deep.Cut
import Derived.Deep.LoopGhost
import Derived.Deep.QuietTactic
import Derived.Deep.Slices
import Derived.Laws.CopyOwn
import Derived.Laws.Entries
import Derived.Laws.Rows
import Derived.Laws.Sem
import Derived.Laws.Tables
import Derived.Laws.World
import Derived.Lib.Hide
import Derived.Lib.SliceRun
import Derived.LoopIn
import Derived.LoopN
import Derived.LoopNIn
import Derived.Maps.AppendAt
import Derived.Maps.Keyed
import Derived.Maps.OwnSet
import Derived.Maps.RangeRun
import Derived.OrdersIn
import Derived.OwnWalkIn
import Derived.ProofKit
import Derived.RangeFuncBound
import Derived.RangeFuncCalls
import Derived.RangeFuncFrom
import Derived.RangeFuncLeaves
import Derived.RangeFuncNested
import Derived.Shelf.Abstract
import Derived.Shelf.RegionOpen
import Derived.SizedLaws
import Derived.Sort.LoopGhostIn
import Derived.TacticsIn
import Derived.TacticsInMore
import Derived.WalkKit
import Derived.WalkLawsBesides
import Derived.WalkSpells
import Derived.WideKeyEntry
set_option linter.defProp false
set_option maxRecDepth 100000
set_option maxHeartbeats 4000000
namespace Go.Proofs.YtamjbkaclhgffaaGreat
theorem oo{P:Prop}(h:P:=by omega):P:=h
theorem ii{P:Prop}(h:P:=by simp only [bq]; omega):P:=h
def aw:=@if_neg
def ax:=@Bool.and_eq_true
def aA:=@Nat.le_refl
def aC:=@if_pos
def aL:=@decide_eq_true_eq
def aX:=@List.getD_eq_getElem?_getD
def aZ:=@Go.Lib.hid
def bc:=@List.getElem?_eq_getElem
def bn:=@and_true
def bp:=@Go.Sem.run_bind
def bu:=@true_and
def bF:=@Option.some.injEq
def bI:=@Go.Result.andThen_ok
def bL:=@Go.Sem.run_pure
def bO:=@Nat.zero_le
def bX:=@eq_self
def b9:=@Nat.lt_or_ge
def cb:=@beq_iff_eq
def cu:=@Go.RowKit.Below.refl
def cB:=@List.length_cons
def cF:=@List.getElem?_eq_some_iff
def cL:=@List.length_take
def dp:=@List.length_append
def du:=@Option.map_some
def dw:=@if_false
def dL:=@List.all_eq_true
def dP:=@decide_eq_true
def dQ:=@Nat.le_trans
def dV:=@Bool.false_eq_true
def eh:=@List.getElem?_take
def ej:=@List.length_nil
def eu:=@Bool.true_and
def eG:=@cond_true
def eO:=@if_true
def eY:=@List.mem_of_getElem?
def fk:=@List.length_map
def fE:=@Int.toNat_natCast
def fF:=@Nat.mod_eq_of_lt
def fM:=@List.mem_cons
def fQ:=@decide_eq_false_iff_not
def fR:=@List.append_assoc
def fS:=@Bool.or_false
def ga:=@List.getElem?_map
def gg:=@Bool.not_true
def gi:=@List.mem_map
def gj:=@cond_false
def gz:=@List.map_cons
def gA:=@List.mem_range
def gC:=@Nat.zero_add
def gR:=@Bool.or_eq_true
def ia:=@Option.getD_some
def ib:=@Bool.and_true
def iC:=@Option.isNone_iff_eq_none
def iD:=@List.length_drop
def iS:=@Nat.lt_of_lt_of_le
def iT:=@List.getElem_mem
def iU:=@List.mem_append
def jf:=@Bool.not_eq_true'
def jg:=@List.map_append
def jA:=@Array.getElem?_eq_some_iff
def jB:=@List.take_append_drop
def jC:=@List.take_of_length_le
def jD:=@List.mem_singleton
def jE:=@Nat.add_zero
def jW:=@decide_eq_false
def ke:=@Bool.not_eq_false'
def kf:=@Bool.or_eq_false_iff
def kg:=@Nat.pow_succ
def kS:=@Option.map_eq_some_iff
def kT:=@List.mem_iff_getElem?
def kU:=@Nat.mul_le_mul_left
def kW:=@List.cons_append
def kX:=@Nat.mul_comm
def lG:=@List.getElem?_drop
def lH:=@Nat.add_mul
def l6:=@Nat.div_eq_of_lt
def l7:=@Rat.intCast_mul
def mQ:=@Option.bind_eq_some_iff
def mR:=@Go.run_program
def mS:=@Nat.mul_one
def nH:=@List.length_set
def ox:=@List.getElem?_cons_zero
def oy:=@Nat.mul_le_mul_right
def oz:=@List.append_nil
def oA:=@Nat.add_assoc
def oB:=@Nat.pow_zero
def oC:=@Nat.mod_lt
def pn:=@Array.getD_eq_getD_getElem?
def po:=@Array.getElem?_eq_getElem
def pq:=@Int.eq_ofNat_of_zero_le
def pr:=@Nat.lt_of_le_of_lt
def pt:=@List.nil_append
def pv:=@Nat.mod_one
def qj:=@List.getElem?_append_left
def qk:=@Go.World.size_alloc
def ql:=@Go.RowKit.Below.heap_alloc
def qm:=@Go.run_underlying
def qn:=@Nat.mul_add
def rq:=@List.getElem?_append_right
def ru:=@List.getElem?_set
def rv:=@of_decide_eq_true
def ry:=@List.cons.injEq
def rz:=@Nat.not_lt_zero
def rA:=@Go.heap_alloc_new
def rB:=@decide_true
def rC:=@Nat.sub_zero
def rD:=@Int.le_refl
def sP:=@List.drop_eq_getElem_cons
def sQ:=@List.getElem?_eq_none
def sR:=@List.mem_of_mem_take
def sS:=@List.map_nil
def sU:=@Prod.mk.injEq
def sV:=@Bool.false_or
def sW:=@Go.Addr.add_lit
def ui:=@List.pairwise_cons
def uj:=@Go.RowKit.Below.heap_setCell
def uk:=@List.take_length
def um:=@List.range_succ
def uo:=@List.drop_drop
def vI:=@Int.mul_le_mul_of_nonneg_left
def vJ:=@List.eq_nil_of_length_eq_zero
def vK:=@List.length_replicate
def vL:=@List.ext_getElem?
def vM:=@Bool.not_eq_true
def vN:=@Bool.eq_iff_iff
def vO:=@List.sum_cons
def vP:=@decide_false
def vQ:=@Nat.le_of_eq
def vR:=@Nat.div_one
def xv:=@List.take_succ_eq_append_getElem
def xw:=@List.pairwise_iff_getElem
def xx:=@Nat.add_sub_cancel
def xy:=@List.getElem_of_mem
def xz:=@List.size_toArray
def xA:=@Nat.min_eq_left
def xB:=@Nat.mul_le_mul
def xC:=@Int.natAbs_mul
def xD:=@Nat.zero_mul
def xE:=@List.map_map
def xF:=@Array.ext'
def xG:=@not_or
def zw:=@Nat.add_mul_mod_self_left
def zx:=@Nat.pow_le_pow_right
def zy:=@Nat.add_mul_div_left
def zz:=@List.any_eq_false
def zA:=@List.drop_zero
def zC:=@Bool.and_false
def zD:=@Go.cell_of_row
def zE:=@Nat.mul_pos
def BS:=@List.eq_nil_iff_forall_not_mem
def BT:=@List.getElem?_append
def BU:=@Nat.div_div_eq_div_mul
def BV:=@List.drop_eq_nil_of_le
def BW:=@Nat.div_lt_of_lt_mul
def BX:=@Nat.eq_zero_or_pos
def BY:=@List.set_cons_zero
def BZ:=@List.filter_append
def B3:=@Nat.lt_succ_self
def B4:=@List.isEmpty_iff
def B5:=@Option.map_none
def B6:=@Int.natCast_add
def B7:=@Int.mul_nonneg
def B8:=@Bool.false_and
def B9:=@Nat.succ_mul
def Ca:=@Nat.sub_self
def Cb:=@Nat.mul_zero
def Cc:=@Nat.pow_add
def Cd:=@Nat.le_succ
def Ce:=@eq_comm
def Eb:=@not_true_eq_false
def Ec:=@List.getElem?_toArray
def Ed:=@Option.isSome_eq_false_iff
def Ee:=@List.length_take_of_le
def Ef:=@Array.getElem?_eq_none
def Eg:=@List.map_toArray
def Eh:=@List.mem_iff_getElem
def Ei:=@List.map_congr_left
def Ej:=@List.set_cons_succ
def Ek:=@List.nodup_append
def El:=@decide_eq_decide
def Em:=@Option.bind_some
def Eo:=@List.mem_filter
def Ep:=@List.foldl_cons
def Er:=@List.take_zero
def Es:=@List.take_take
def Et:=@Nat.mul_assoc
def Eu:=@Go.setRow_other
def IA:=@Array.getElem?_setIfInBounds
def IB:=@List.mem_or_eq_of_mem_set
def IC:=@Nat.div_lt_iff_lt_mul
def ID:=@List.find?_eq_none
def IE:=@List.mem_of_mem_drop
def IF:=@List.take_succ_cons
def IG:=@List.getElem?_range
def IH:=@of_decide_eq_false
def II:=@List.map_singleton
def IJ:=@Array.any_eq_true'
def IK:=@List.length_range
def IL:=@List.flatten_cons
def IM:=@List.not_mem_nil
def IN:=@List.filter_cons
def IP:=@List.map_take
def IQ:=@List.all_cons
def IS:=@and_self
def IT:=@Nat.one_mul
def NK:=@Nat.mul_lt_mul_of_pos_right
def NL:=@Int.tmod_eq_emod_of_nonneg
def NM:=@Rat.intCast_natCast
def NN:=@List.getElem?_cons_succ
def NO:=@List.length_eq_one_iff
def NP:=@List.filter_eq_nil_iff
def NQ:=@not_false_eq_true
def NR:=@List.mem_cons_of_mem
def NS:=@List.getElem?_set_ne
def NT:=@Array.replicate_zero
def NU:=@Array.replicate_succ
def NV:=@beq_eq_false_iff_ne
def NW:=@List.flatten_append
def NX:=@List.append_toArray
def NY:=@Int.natCast_mul
def NZ:=@List.push_toArray
def N0:=@List.foldl_append
def N1:=@List.toArray_inj
def N2:=@List.range'_succ
def N3:=@List.ext_getElem
def N4:=@List.any_eq_true
def N5:=@Nat.mod_add_div
def N6:=@Bool.and_self
def N7:=@Nat.le_of_lt
def N8:=@Nat.add_comm
def N9:=@Int.lt_or_le
def Oa:=@Int.le_of_lt
def Ob:=@Bool.or_true
def Oc:=@Go.setRow_heap
def Wu:=@Int.tdiv_eq_ediv_of_nonneg
def Wv:=@implies_true
def Ww:=@Option.isSome_iff_exists
def Wx:=@Array.getElem?_replicate
def Wy:=@Int.natCast_nonneg
def Wz:=@List.getElem_cons_drop
def WA:=@List.flatMap_append
def WB:=@Nat.pos_of_ne_zero
def WC:=@List.mem_cons_self
def WD:=@bne_self_eq_false
def WE:=@Nat.mul_left_comm
def WG:=@List.mem_flatMap
def WH:=@List.getElem_map
def WI:=@Nat.div_le_self
def WJ:=@Nat.div_add_mod
def WK:=@List.take_left'
def WL:=@List.sum_append
def WM:=@List.nodup_nil
def WN:=@Bool.not_false
def WO:=@Nat.min_self
def WQ:=@Nat.lt_trans
def WR:=@Nat.sub_le
def ai1:=@Nat.add_sub_cancel_left
def ai2:=@Array.all_eq_true_iff_forall_mem
def ai3:=@List.take_append_of_le_length
def ai4:=@List.drop_append_of_le_length
def ai5:=@Nat.mod_mul_right_div_self
def ai6:=@List.setIfInBounds_toArray
def ai7:=@Int.fdiv_eq_ediv_of_nonneg
def ai8:=@List.getLast?_eq_getElem?
def ai9:=@List.getElem?_eq_none_iff
def aja:=@List.getElem?_replicate
def ajb:=@Rat.normalize_eq_mkRat
def ajc:=@Nat.mul_div_mul_right
def ajd:=@List.mem_append_left
def aje:=@Nat.add_le_add_left
def ajf:=@List.getD_cons_succ
def ajg:=@Array.length_toList
def ajh:=@decide_eq_true_iff
def aji:=@Nat.mul_right_comm
def ajj:=@List.mem_replicate
def ajk:=@List.pairwise_map
def ajl:=@List.getElem_take
def ajm:=@List.getElem_drop
def ajn:=@Int.natAbs_add_le
def ajo:=@Rat.mkRat_eq_div
def ajp:=@Nat.mul_lt_mul''
def ajq:=@Nat.le_of_not_lt
def ajr:=@List.mem_flatten
def ajs:=@List.drop_length
def ajt:=@Rat.intCast_add
def aju:=@Nat.mul_ne_zero
def ajv:=@Nat.lt_succ_iff
def ajw:=@Bool.decide_and
def ajx:=@List.Perm.refl
def ay9:=@List.findIdx?_eq_some_iff_getElem
def aza:=@Int.mul_le_mul_of_nonneg_right
def azb:=@List.getLast?_eq_some_getLast
def azc:=@List.dropLast_concat_getLast
def azd:=@List.drop_length_add_append
def aze:=@List.exists_cons_of_ne_nil
def azf:=@Array.toList_setIfInBounds
def azg:=@Array.getElem?_append_left
def azh:=@List.mem_of_find?_eq_some
def azi:=@List.getLastD_eq_getLast?
def azj:=@Classical.byContradiction
def azk:=@Nat.gcd_pos_of_pos_right
def azl:=@List.getElem?_take_of_lt
def azm:=@Int.mul_ediv_cancel_left
theorem Mq{P:Prop}(h:P:=by
 go_enter Tryz.func54,Tryz.ntmps54
 go_wp2_with (first
  | (go_at_call 59; refine (HK.out _).mono ?_; rintro e wx ⟨rfl,hx⟩; rw [hx]; clear hx wx HK)
  | (go_at_call 119; refine (HX.out _).mono ?_; rintro e wx ⟨rfl,hx⟩; rw [hx]; clear hx wx HX)
  | (go_at_call 119; refine (HY.out _).mono ?_; rintro e wx ⟨rfl,hx⟩; rw [hx]; clear hx wx HY)
  | (go_at_call 119; refine (HZ.out _).mono ?_; rintro e wx ⟨rfl,hx⟩; rw [hx]; clear hx wx)
  | ((with_reducible refine xH 73 ?_); go_loud (refine xW (cs':=Ld.cells (fi)) rfl _ _ rfl tS.out 0 rfl rfl rfl Bg rfl (Ld.len _) (Ld.len _) (Ld.one _) ?_); intro w6 h6))
 refine bodyPost_ret (G9 rfl _ rfl (h6.Cq DJ (Ld.len _) (i:=0) rfl _ (cu _ _))) rfl ⟨?_,h6.from_⟩;rw [HR.out];rfl):P:=h
theorem s_1{P:Prop}(h:P:=by
 refine⟨trivial,fun g6 => ?_,fun g6 => ?_⟩
 . simp (maxSteps:=4000000) only [aK];refine (nu ?_).symm;have D9:(!sk s.aD (fA (l.getD k Tc.al.aa)) (bK bs (l.getD k Tc.al.aa).box).1.size)=true:=g6;rw [lE,<- hx];grind
 have D9:(!sk s.aD (fA (l.getD k Tc.al.aa)) (bK bs (l.getD k Tc.al.aa).box).1.size)=false:=g6;rw [hx,ke] at D9;refine⟨⟨by simp; omega,?_⟩,fun g7 => ?_,fun g7 => ?_⟩
 . have:=auB By D9;rw [<- hx] at this;exact this
 . simp (maxSteps:=4000000) only [aK];refine (nu ?_).symm;have Ir:(!xd (fA (l.getD k Tc.al.aa)) (l.map fA))=true:=g7;rw [lE,<- hx];grind
 have Ir:(!xd (fA (l.getD k Tc.al.aa)) (l.map fA))=false:=g7;rw [hx,ke] at Ir;have sB:(!(bK bs (l.getD k Tc.al.aa).box).2)=false:=g3;rw [hx,ke] at sB;refine bW (l.map fA) fun all bS => ?_;have hlen:all.length=l.length:=by rw [<- bS]; simp
 refine⟨⟨Wy k,by simp only [gX,fk]; omega⟩,?_⟩;refine bW (fA x) fun z hz => ?_;refine⟨auD z all k,?_⟩
 conv=>arg 1; cbv
 refine⟨?_,fun (j:Nat) hj => ?_⟩
 . simp (maxSteps:=4000000) only [aK];simp
 have zg:j<=k/\∀ i,i<j->kK z (all.getD i Tc.slot.aa)=false:=hj;have rL:=zg.1;have mf:=zg.2
 conv=>arg 1; cbv
 simp (maxSteps:=4000000) only [aK];have e1:∀ u:Slot,(⟨u.au,u.aH,u.half⟩:Slot)=u:=fun _=>rfl;have e2:(⟨(l.getD k Tc.al.aa).au,(l.getD k Tc.al.aa).aH,(l.getD k Tc.al.aa).half⟩:Slot)=z:=by rw [hx,<- hz]; rfl
 simp only [bS,e1,e2];refine⟨fun g8 => ?_,fun g8 => ?_⟩
 . have h8:j<k:=oo
   refine⟨⟨oo,oo⟩,trivial,fun g9=>(nu ?_).symm,fun g9=>⟨⟨oo,oo⟩,⟨⟨h8,vm mf g9⟩,oo⟩,oo⟩⟩;have hd:decide (∀ j,j<k->kK z (all.getD j Tc.slot.aa)=false)=false:=by
    rw [fQ];intro h;rw [h j h8] at g9;cases g9
   rw [lE,hz,bS,hd];simp
 . have hd:decide (∀ j,j<k->kK z (all.getD j Tc.slot.aa)=false)=true:=by
    rw [aL];exact fun i hi=>mf i oo
   refine⟨⟨oo,oo⟩,⟨⟨ah,Hp ?_⟩,oo⟩,oo⟩;rw [lE,sB,ho,D9,Ir,hz,bS,hd];rfl):P:=h
theorem s_2{P:Prop}(h:P:=by
 generalize hI:5*((k:Int)+1)=id at ot ⊢;generalize hP:Nf s bs st id dc=p at ot;refine⟨awc xs st p,?_⟩
 conv=>arg 1; cbv
 simp (maxSteps:=4000000) only [aK];refine⟨⟨⟨bO _,rfl⟩,rfl,trivial⟩,fun (j:Nat) hj => ?_⟩;have zg:j<=xs.length/\(xs.take j).all (fun x => !p x)=true:=hj;have rL:=zg.1;have mf:=zg.2
 conv=>arg 1; cbv
 simp (maxSteps:=4000000) only [aK];have z1:(0+st.length)*32<=140737488355328:=oo
 have z2:(st.length+(0+1))*32<=140737488355328:=oo
 simp only [pt,ej,cB,z1,z2,IS,bn,bu,awa];have Iz:p (xs.getD j Tc.slot.aa)=(decide ((xs.getD j Tc.slot.aa).au=dc.tmod (s.aD.length:Int))&&dO s bs (st ++ [Nc id (xs.getD j Tc.slot.aa)])):=by rw [<- hP]; rfl
 have jJ:k+1<=m/\m - (k+1)<m - k:=oo
 have Df:bq ((k:Int)+1):=ii
 have G6:xs.length<=2000000:=by rw [<- hX]; exact av7 hs.2.2.1 hs.2.2.2
 refine⟨fun g1 => ?_,fun g1 => ?_⟩
 . have ah:j<xs.length:=oo
   have n8:bq ((j:Int)+1):=ii
   have hjj:xs.length - (j+1)<xs.length - j:=oo
   have H7:=fun h=>Mv (p:=fun x => !p x) (d:=Tc.slot.aa) mf ah h;refine⟨⟨oo,oo⟩,ii,?_,fun hc=>⟨⟨hs.1,oo,by rw [dp]; simp only [cB,ej]; omega⟩,fun h1=>⟨Df,jJ,oo,?_⟩,fun h1=>⟨n8,⟨⟨oo,H7 ?_⟩,hjj⟩,oo⟩⟩,fun hc=>⟨n8,⟨⟨oo,H7 ?_⟩,hjj⟩,oo⟩⟩
   . intro h0;exact hs.2.1 (vJ oo)
   . have hpt:p (xs.getD j Tc.slot.aa)=true:=by rw [Iz,dP hc]; exact h1
     rw [ot,av8 Tc.slot.aa mf ah hpt];rfl
   . have Ws:p (xs.getD j Tc.slot.aa)=false:=by rw [Iz,dP hc]; exact h1
     show (!p (xs.getD j Tc.slot.aa))=true
     rw [Ws];rfl
   . have Ws:p (xs.getD j Tc.slot.aa)=false:=by rw [Iz,jW hc]; rfl
     show (!p (xs.getD j Tc.slot.aa))=true
     rw [Ws];rfl
 . refine⟨Df,jJ,oo,?_⟩;rw [ot,av9 mf oo]):P:=h
theorem s_3{P:Prop}(h:P:=by
 conv=>arg 1; cbv
 simp (maxSteps:=4000000) only [aK,bu,bn,bX];simp only [wY,tG,hKf,MM,bu,bn];refine⟨⟨t2,t4⟩,?_⟩;refine fun _ _ => ?_
 conv=>arg 1; cbv
 simp (maxSteps:=4000000) only [aK,bu,bn,bX];have ay4:=u9 t0;have eD:(jh (cS (aB (S.take j)).a0) (oc (aB S).a0 K (aB (S.take j)).a2 (aB (S.take j)).a4)).1=tW S (aB S).a0 K j:=rfl;simp only [wY,tG,GM,ay4,MM,t0,eD,bu,bn,bX,Wv];refine fun _ _ => ?_
 conv=>arg 1; cbv
 simp (maxSteps:=4000000) only [aK,bu,bn,bX];have hD:bj (kE (tW S (aB S).a0 K j))=tW S (aB S).a0 K j:=GM _ _;have ixx:bq (2*bV l j):=by have:=Bp aI j; simp only [bq]; omega
 have ay5:=u9 ixx;have eA:(mulL (tW S (aB S).a0 K j) (cS (2*bV l j))).1=DO l S (aB S).a0 K j:=rfl;simp only [MC,wY,tG,S6,ay5,hD,ixx,eA,bu,bn,bX,Wv];refine fun _ _ => ?_
 conv=>arg 1; cbv
 simp (maxSteps:=4000000) only [aK,bu,bn,bX];have hA:bj (kE (DO l S (aB S).a0 K j))=DO l S (aB S).a0 K j:=S6 _ _;have ML:=u9 t1;have eT:(jh (kj (DO l S (aB S).a0 K j) (oc (aB S).a0 K (aB (S.take j)).a3 (aB (S.take j)).a5)).1 (cS (aB (S.take j)).a1)).1=DP l S (aB S).a0 K j:=rfl;simp only [wY,tG,S5,GM,ML,hA,hKf,MM,t1,t3,t5,eT,bu,bn,bX,Wv];refine fun _ _ => ?_
 conv=>arg 1; cbv
 simp (maxSteps:=4000000) only [aK,bu,bn,bX];have hT:bj (kE (DP l S (aB S).a0 K j))=DP l S (aB S).a0 K j:=GM _ _;have i2:bq 2:=ii
 have ay6:=u9 i2;simp only [wY,tG,S7,ay6,hT,i2,bu,bn,bX,Wv];have ah:j<n:=oo
 rw [xx];exact⟨by simp only [cB,ej,cL,hQl]; omega,ii,⟨oo,oo⟩,oo,(Ux ah).symm,rfl,rfl,rfl,rfl,rfl,rfl⟩):P:=h
theorem s_4{P:Prop}(h:P:=by
 have h6:j<hs.length:=oo
 have h7:=Vl h6;have ji:=nK _ (gw Tc.u8.aa h6);have uI:bq (hs.getD j Tc.u8.aa):=⟨oo,oo⟩
 have hs4:(hs.take j).length<=2:=by rw [cL]; omega
 have eP:=c8 [Kx.i .i64 x.au,Kx.i .i64 (hs.getD j Tc.u8.aa)];have nL:bq ((qZ (iB b) x.au M0 (hs.take j) [Kx.i .i64 x.au,Kx.i .i64 (hs.getD j Tc.u8.aa)]).getD Tc.int.aa+iB b):=by
  rw [er];exact⟨oo,oo⟩
 obtain⟨e1,e2,e3,e4,e5⟩:=all_true nL (show bq ((j:Int)+1) from ⟨oo,oo⟩) (show j+1<=hs.length/\hs.length - (j+1)<hs.length - j from ⟨oo,oo⟩) (show (j:Int)+1=((j+1:Nat):Int) from oo) uI;simp only [h7,e1,e2,e3,e4,e5,IS,bn,bu];exact⟨oo,oo⟩):P:=h
theorem s_5{P:Prop}(h:P:=by
 have c1:p.1<=c/\c<p.2:=oo
 have c2:=hSR c oo oo;have e1:((mid:Int)+(m:Int) - 1 - (c:Int)).toNat=mid+m - 1 - c:=oo
 rw [e1];refine⟨ii,oo,ii,ii,⟨oo,oo⟩,⟨oo,oo⟩,trivial,fun g2 => ?_,fun g2 => ?_⟩
 . refine bW (c+1) fun c' Cm => ?_;simp only [jf,fQ] at g2;refine⟨ii,⟨(c',p.2),⟨⟨⟨oo,oo,oo⟩,.inr ?_,q3⟩,by show p.2 - c'<p.2 - p.1; omega⟩,?_⟩⟩
   . show (l.getD (c' - 1) Tc.al.aa).aH<=(l.getD (mid+m - c') Tc.al.aa).aH
     rw [show c' - 1=c from oo,show mid+m - c'=mid+m - 1 - c from oo];omega
   . conv=>arg 1; cbv
     simp (maxSteps:=4000000) only [aK];exact⟨oo,trivial⟩
 . simp only [ke,aL] at g2;refine⟨(p.1,c),⟨⟨⟨oo,oo,oo⟩,q2,.inr g2⟩,by show c - p.1<p.2 - p.1; omega⟩,?_⟩
   conv=>arg 1; cbv
   simp (maxSteps:=4000000) only [aK];exact⟨trivial,trivial⟩):P:=h
theorem s_6{P:Prop}(h:P:=by
 conv=>arg 1; cbv
 simp (maxSteps:=4000000) only [aK];refine⟨⟨oo,rfl,rfl⟩,fun (j:Nat) hj => ?_⟩;have rL:j<=5:=hj
 conv=>arg 1; cbv
 simp (maxSteps:=4000000) only [aK];have hlen:=Vy n j;have re:pd n (j+1)=pd n j++cond (ub n (2*j)) [⟨(j:Int),[0,1]⟩] []++cond (ub n (2*j+1)) [⟨(j:Int),[2,3,4]⟩] []:=rfl;refine⟨fun g1 => ?_,fun g1 => ?_⟩
 . rw [re];unfold ub;generalize pd n j=cs at hlen ⊢;generalize te BinOp.and IntKind.u32 (lN BinOp.shr IntKind.u32 n (2*↑j)) 1=b1;generalize te BinOp.and IntKind.u32 (lN BinOp.shr IntKind.u32 n (2*↑j+1)) 1=b2;by_cases e1:b1=1<;>by_cases e2:b2=1<;>simp only [e1,e2,rB,vP,eG,gj,Eb,NQ,false_implies,true_implies,bn,bu,forall_const,bq,dp,cB,ej,oz]<;>omega
 . have Wj:j=5:=oo
   subst Wj;exact⟨s7.symm,rfl,rfl,rfl,rfl,rfl,rfl,rfl,rfl,rfl,rfl,rfl,rfl⟩):P:=h
theorem T5{P:Prop}(h:P:=by
 go_enter Tryz.func58,Tryz.ntmps58
 go_wp2_with (first
  | (go_at_call 59; refine (HK.out _).mono ?_; rintro e wx ⟨rfl,hx⟩; rw [hx]; clear hx wx HK)
  | (go_at_call 119; refine (HX.out _).mono ?_; rintro e wx ⟨rfl,hx⟩; rw [hx]; clear hx wx HX)
  | (go_at_call 119; refine (HY.out _).mono ?_; rintro e wx ⟨rfl,hx⟩; rw [hx]; clear hx wx HY)
  | (go_at_call 119; refine (HZ.out _).mono ?_; rintro e wx ⟨rfl,hx⟩; rw [hx]; clear hx wx))
 go_ret
 exact⟨rfl,HB.out⟩):P:=h
theorem iA{P:Prop}(h:P:=by
 simp [Op.operands]):P:=h
theorem s_9{P:Prop}(h:P:=by
 refine⟨fun h => ?_,fun h => ?_⟩
 . have h1:=EG oo;have h2:=DC oo;simp only [hT,fE,<- hq];rw [jl oo];exact⟨oo,oo,ii,ii,oo,by simp only [cB,ej]; omega,by simp only [cB,ej]; omega,ii,oo,oo,by rw [hS],rfl⟩
 . rw [jw oo];exact⟨by simp only [cB,ej]; omega,by simp only [cB,ej]; omega,ii,oo,oo,by rw [hS],rfl⟩):P:=h
theorem XU{P:Prop}(h:P:=by
 obtain⟨j,hj,rfl⟩:=ha;obtain⟨ds,hd⟩:=hd;unfold part;have h1:(isAgg T).run P w = .ok (gI P T) w:=by
  unfold isAgg gI;simp only [underlying,bp,bL,bI,mR,hd];cases ds<;>rfl
 simp only [bp,h1,bI]
 cases hb:gI P T with
 | true =>
  have:=hlen hb;rw [rN hb];simp only [eO,sizeOf,typeInfo,bp,bL,bI,mR,hj];congr 2;apply xF;simp [List.extract_eq_take_drop,ai1]
 | false =>
  simp only [dV,dw,Ec,hv hb,bL]):P:=h
theorem Ui{P:Prop}(h:P:=by
 conv=>arg 1; cbv
 simp (maxSteps:=4000000) only [aK,bu,bn,bX];refine⟨fun g=>⟨⟨oo,oo⟩,fun c => ?_,fun c => ?_⟩,fun g => ?_⟩
 . exact (Mn bU oo c).symm
 . exact aen hl oo bU c
 . exact (Mo bU oo).symm):P:=h
theorem abY{P:Prop}(h:P:=by
 cases e with
 | normal =>
  obtain⟨g,S,_,H,hc⟩:=hq
  cases g with
  | zero=>unfold cont at hc; exact hc.elim
  | succ g=>unfold cont at hc; exact fv S H hc
 | ret =>
  obtain⟨g,S,_,H,hc⟩:=hq
  cases g with
  | zero=>unfold lA at hc; exact hc.elim
  | succ g=>unfold lA at hc; exact fv S H hc
 | exit id =>
  obtain⟨g,S,_,H,hc⟩:=hq
  cases g with
  | zero=>unfold exitTo at hc; exact hc.elim
  | succ g=>unfold exitTo at hc; exact hc.elim
 | goto l=>exact hq.elim
 | panic c=>exact hq.elim
 | outgrown=>exact hq.elim):P:=h
theorem adU{P:Prop}(h:P:=by
 conv=>arg 1; cbv
 refine⟨?_,fun (k:Nat) hk => ?_⟩
 . simp (maxSteps:=4000000) only [aK];simp
 have cp:k<=l.length/\∀ j,j<k->(p9 id) (l.getD j Tc.box.aa)=false:=hk;have cR:=cp.1;have bU:=cp.2
 conv=>arg 1; cbv
 simp (maxSteps:=4000000) only [aK];refine⟨fun g => ?_,fun g=>(Mo bU oo).symm⟩;have ah:k<l.length:=oo
 exact⟨oo,trivial,fun h=>(Mn bU ah h).symm,fun h=>⟨⟨oo,oo⟩,⟨⟨ah,vm bU h⟩,oo⟩,oo⟩⟩):P:=h
theorem xf{P:Prop}(h:P:=by
 simp (maxSteps:=4000000) only [aK];exact⟨bO _,rfl,rfl⟩):P:=h
theorem agf{P:Prop}(h:P:=by
 refine bW (mid+m - s) fun e wI => ?_;rw [wI] at he hT oL;simp only [he,fE];have C7:s=m\/m=e->af4 az.aH Tc.al.aa a b s e mid N l (cK az.aH a b l):=fun g=>by
  have q:=auX (l:=l) (s:=s) (m:=m) (e:=e) oo oo oo g;rw [q] at hT;exact hT
 exact⟨ii,fun g1=>⟨fun g2=>⟨⟨⟨oo,oo,oo⟩,oo,h6⟩,hT⟩,fun g2=>C7 (.inr oo)⟩,fun g1=>C7 (.inl oo)⟩):P:=h
theorem Yy{P:Prop}(h:P:=by
 obtain⟨ds,hd,hm⟩:=mZ (aE T i hT);rw [lI] at hm;cases ds<;>first|(simp [jH] at hm; done)|skip
 rename_i e';simp only [jH,ax,cb] at hm;obtain⟨⟨he,_⟩,hm⟩:=hm;subst he
 cases hj:P.info? e' with
 | none=>rw [hj] at hm; cases hm
 | some j =>
  rw [hj] at hm;simp only [ax,cb] at hm;have he:P.elem T=e':=by simp [Program.elem,hd]
  rw [he];exact⟨hd,fun w'=>by rw [run_sizeOf w' hj]; simp [Program.cellsOf,hj,hm.1.1]⟩):P:=h
theorem DV{P:Prop}(h:P:=by
 simp only [wV,gX,fE,gz,sS,er];exact⟨oo,oo⟩):P:=h
theorem JJ{P:Prop}(h:P:=by
 cases h;refine⟨_,?_,.int k _⟩;unfold execOp;simp only [hx,hy,eqGuard,binOp,Op.intBits,ne_eq,Eb,dw,bp,bL];rfl):P:=h
theorem vn{P:Prop}(h:P:=by
 simp (maxSteps:=4000000) only [aK];simp):P:=h
theorem Rf{P:Prop}(h:P:=by
 rw [uV] at h4;rw [pn] at h4 eZ
 cases hq:listed[j]? with
 | none=>rw [hq] at h4; cases h4
 | some q=>rw [hq] at h4 eZ; simp only [ia] at h4 eZ; rw [h4] at eZ; cases eZ):P:=h
theorem ahm{P:Prop}(h:P:=by
 intro i k kJ hk
 induction k with
 | zero=>omega
 | succ k ih =>
  have h1:=Nk h hk;unfold mI at h1;simp only [ax,gR,aL] at h1;have h2:(l.getD k Tc.al.aa).box<(l.getD (k+1) Tc.al.aa).box:=by
   rcases h1.1.2 with h2|h2
   . omega
   . simpa using h2
  by_cases he:i=k
  . subst he; exact h2
  . have:=ih oo oo;omega):P:=h
theorem MD{P:Prop}(h:P:=by
 conv=>arg 1; cbv
 simp (maxSteps:=4000000) only [aK];exact⟨oo,trivial⟩):P:=h
theorem ME{P:Prop}(h:P:=by
 conv=>arg 1; cbv
 simp (maxSteps:=4000000) only [aK];exact⟨trivial,trivial⟩):P:=h
theorem Nw{P:Prop}(h:P:=by
 intro S a
 induction S with
 | nil=>simp [fL]
 | cons b S Ig=>rw [kW,xp,xp,Ig]; omega):P:=h
theorem Vn{P:Prop}(h:P:=by
 rw [hT,DX,DW,xi,Vm];refine⟨by rw [Vf]; simp only [cB,ej]; omega,⟨oo,oo⟩,⟨oo,oo⟩,oo,rfl,rfl⟩):P:=h
theorem Hc{P:Prop}(h:P:=by
 go_enter Tryz.func259,Tryz.ntmps259
 go_wp2
 go_ret2
 exact⟨by rw [E.out,E2.out]; rfl,rfl⟩):P:=h
theorem Mw{P:Prop}(h:P:=by
 conv=>arg 1; cbv
 simp (maxSteps:=4000000) only [aK,bu,bn,bX];exact⟨hp,ad4 _ _⟩):P:=h
theorem adX{P:Prop}(h:P:=by
 conv=>arg 1; cbv
 simp (maxSteps:=4000000) only [aK];rcases adV l id with ⟨h1,h2⟩|⟨k,h1,h2,h3⟩
 . simp only [h2];refine⟨hl,fun _ => ?_,fun g=>absurd h1 g⟩;simp [TU,si,j3]
 . simp only [h1,h3,fE];refine⟨hl,fun g=>oo,fun g => ?_⟩;simp;omega):P:=h
theorem XI{P:Prop}(h:P:=by
 unfold execOp;simp only [resolve,invoke,builtin,Builtin.len_,Eg,gz,sS,hx,underlying,bp,bL,bI];simp only [ht,Ec,ox,bp,bL,bI,mR];rfl):P:=h
theorem WS{P:Prop}(h:P:=by
 rcases bw.1.2 with ⟨h2,h3⟩|⟨g,cap,cur,h2,_,_,lP,_⟩
 . rw [h2];simp [Builtin.append_,qm ht,sizeOf,typeInfo,hi,Builtin.lenOf,Builtin.firstCells]
 . rw [h2];simp [Builtin.append_,qm ht,sizeOf,typeInfo,hi,Builtin.lenOf,Builtin.firstCells,lP,storeCells]):P:=h
theorem OS{P:Prop}(h:P:=by
 subst hv hz;unfold execOp;simp only [hx,hy,eqGuard,binOp,Op.intArith,ne_eq,Eb,dw,bp,bL];rfl):P:=h
theorem afV{P:Prop}(h:P:=by
 unfold cK;rw [aX,BT,aw (by rw [cL]; omega),BT,aC (by rw [cL]; omega),cL,show min a l.length=a from oo,bc oo];rfl):P:=h
theorem Yq{P:Prop}(h:P:=by
 refine⟨by simp [h.1],fun j x v hx hv => ?_⟩;rw [ga] at hx
 cases hj:l[j]? with
 | none=>rw [hj] at hx; cases hx
 | some y =>
  rw [hj] at hx;simp only [du,bF] at hx;subst hx;exact (h.2 j y v hj hv).uK):P:=h
theorem wZ{P:Prop}(h:P:=by
 rw [ev]; omega):P:=h
theorem UL{P:Prop}(h:P:=by
 simp (maxSteps:=4000000) only [aK];refine (hS (hA ?_)).symm;unfold nD;generalize s.dG.getD m Tc.eQ.aa=x at *
 grind):P:=h
theorem agd{P:Prop}(h:P:=by
 simp (maxSteps:=4000000) only [aK];refine⟨⟨⟨aA _,oo,aA _⟩,.inl trivial,.inl trivial⟩,?_⟩
 first|exact⟨oo,oo⟩|exact⟨oo,trivial⟩|exact⟨trivial,trivial⟩):P:=h
theorem TS{P:Prop}(h:P:=by
 go_wp2
 go_ret
 exact⟨by rw [HE.out]; rfl,cu _ _⟩):P:=h
theorem Vk{P:Prop}(h:P:=by
 simp only [wV,gX,fE,gz,sS,er,H4];exact⟨oo,oo⟩):P:=h
theorem yH{P:Prop}(h:P:=by
 simpa [AV.under] using hx):P:=h
theorem Hd{P:Prop}(h:P:=by
 go_wp2
 go_ret
 exact⟨by rw [HL.out,HD.out]; rfl,rfl⟩):P:=h
theorem acn{P:Prop}(h:P:=by
 split at h
 . simp only [mQ,bF] at h;obtain⟨a0,h0,a1,h1,a2,h2,a3,h3,a4,h4,rfl⟩:=h;rw [AV.eJ h0,AV.eJ h1,AV.eJ h2,AV.eJ h3,AV.eJ h4];rfl
 . cases h):P:=h
theorem ahc{P:Prop}(h:P:=by
 have h5:m.box.aq*x<=m.box.aq*1100000:=vI oo h.1.1;have h6:m.box.aq*(-1100000)<=m.box.aq*x:=vI oo h.1.1;omega):P:=h
theorem DU{P:Prop}(h:P:=by
 exact s _ _ oo oo oo):P:=h
theorem Qt{P:Prop}(h:P:=by
 rcases b9 loc S.n with h|h
 . exact h
 . have:=H.fresh loc h; rw [hA] at this; cases this):P:=h
theorem aca{P:Prop}(h:P:=by
 split at h
 case h_2=>cases h
 simp only [mQ,bF] at h;obtain⟨a,e0,b,e1,rfl⟩:=h;obtain rfl:=A.ok e0;obtain rfl:=B.ok e1;exact⟨a (),b (),rfl,rfl⟩):P:=h
theorem JV{P:Prop}(h:P:=by
 simp [Op.operands,Call.operands]):P:=h
theorem Ax{P:Prop}(h:P:=by
 simpa [AV.under] using hu):P:=h
theorem aas{P:Prop}(h:P:=by
 obtain⟨S0,S3,r,k1,k2,k3,k4,k5⟩:=q1 m o' (by simpa using hm);rw [show i+1+m=i+(m+1) from oo] at k1 k2;exact⟨S0,S3,r,k1,k2,by rw [k3,fX.1,jN],k4,by simpa using k5⟩):P:=h
theorem ahV{P:Prop}(h:P:=by
 generalize eN ak.a1 ws=A at *
 generalize lF ak.a1 y ws=B at *
 generalize eN ak.a0 ws=C at *
 generalize lF ak.a0 y ws=E at *
 generalize sK y ws=G at *
 grind):P:=h
theorem ahb{P:Prop}(h:P:=by
 unfold sG mG;rw [aC]
 . rfl
 . simp only [ax];exact⟨vq.2 oo,qX.2 oo,qX.2 oo,qX.2 oo⟩):P:=h
theorem H9{P:Prop}(h:P:=by
 rw [jW h,gj]; omega):P:=h
theorem T4{P:Prop}(h:P:=by
 rw [h3];clear h3
 go_enter Tryz.func119,Tryz.ntmps119
 go_wp2
 go_ret
 exact⟨rfl,rfl⟩):P:=h
theorem Yc{P:Prop}(h:P:=by
 generalize i.ti=ti at hm ha;cases ti<;>first|exact absurd ha Bool.false_ne_true|exact absurd ha.symm Bool.false_ne_true|(cases ds<;>first|rfl|simp [jH] at hm)):P:=h
theorem ade{P:Prop}(h:P:=by
 unfold mV;by_cases h:x<y
 . rw [aC h]; exact⟨fun _=>h,fun _=>by decide⟩
 . rw [aw h];exact⟨fun h2=>by split at h2<;>omega,fun h2=>absurd h2 h⟩):P:=h
theorem T3{P:Prop}(h:P:=by
 rw [h3];clear h3
 go_enter Tryz.func59,Tryz.ntmps59
 go_wp2
 go_ret
 exact⟨rfl,rfl⟩):P:=h
theorem KD{P:Prop}(h:P:=by
 simp only [ax]; exact fun h=>h.1):P:=h
theorem ab9{P:Prop}(h:P:=by
 split at h
 case h_2=>cases h
 simp only [mQ,bF] at h;obtain⟨a,e0,rfl⟩:=h;obtain rfl:=A.ok e0;exact⟨a (),rfl,rfl⟩):P:=h
theorem af3{P:Prop}(h:P:=by
 rw [aX,zk oo oo oo];split
 . rw [aX]
 . split<;>rw [aX]):P:=h
theorem agb{P:Prop}(h:P:=by
 simp (maxSteps:=4000000) only [aK];exact⟨⟨⟨aA _,oo,aA _⟩,fun k q1 q2=>oo,fun k q1 q2=>oo⟩,trivial,trivial⟩):P:=h
theorem XO{P:Prop}(h:P:=by
 rw [dx,dy] at ih;by_cases mF:x=y
 . subst mF;simp only [rB,gg,dV,dw,ih,ry,bu]
 . simp [mF]):P:=h
theorem abM{P:Prop}(h:P:=by
 obtain⟨g,S',hg,H',hc⟩:=hq
 cases g with
 | zero=>unfold lA at hc; exact hc.elim
 | succ g=>unfold lA at hc; exact⟨g,S',oo,H',hc⟩):P:=h
theorem Y5{P:Prop}(h:P:=by
 show aj (pK ks S.t) d=none
 cases hp:aj (pK ks S.t) d with
 | none=>rfl
 | some y=>have:=Ft hp; rw [H.jL d x h] at this; cases this):P:=h
theorem ahd{P:Prop}(h:P:=by
 exact T6 ⟨⟨h.1.1,by show m.box.aq<=_; omega⟩,arm _ oo oo,arm _ oo oo,arm _ oo oo⟩):P:=h
theorem afZ{P:Prop}(h:P:=by
 apply vL;intro i;rw [ru,ru,BT];simp only [nH,cL];grind):P:=h
theorem K3{P:Prop}(h:P:=by
 exact ih h5 (fun c hc=>hv c (.tail _ hc)) hb.2 l e he):P:=h
theorem Xf{P:Prop}(h:P:=by
 rename_i h3;rw [zK _ _ _ hd];congr 2;rw [ep,eq];simp only [dV,dw];rw [Int.natCast_sub oo];push_cast;grind):P:=h
theorem FP{P:Prop}(h:P:=by
 simpa only [AV.under] using hu):P:=h
theorem Fg{P:Prop}(h:P:=by
 split at h<;>first|(cases h; rfl)|cases h):P:=h
theorem ZB{P:Prop}(h:P:=by
 unfold execOp;simp only [resolve,invoke,builtin,bp,bL,bI,Eg,gz,sS,h]):P:=h
theorem Yo{P:Prop}(h:P:=by
 simp only [x9] at h;split at h
 . obtain⟨vs,rfl,hE⟩:=hx.oK;obtain⟨h1,h2⟩:=JM h hE;exact⟨by rw [h1]; rfl,h2⟩
 . cases h):P:=h
theorem Gm{P:Prop}(h:P:=by
 simpa only [AV.qE] using hx):P:=h
theorem YN{P:Prop}(h:P:=by
 split at h
 . rename_i hf;injection h with h;subst h;exact⟨aF _ (.head _),eq_of_beq hf⟩
 . exact ih (fun c hc=>aF c (.tail _ hc)) h):P:=h
theorem XZ{P:Prop}(h:P:=by
 subst hv hz;unfold execOp;simp only [hx,hy,eqGuard,binOp,Op.intDiv,hn,ne_eq,Eb,dw,bp,bL];rfl):P:=h
theorem YH{P:Prop}(h:P:=by
 cases hf:zV kk k 0 _ with
 | none=>rw [hf] at h; cases h
 | some f=>rw [hf] at h; cases h; exact⟨_,YD hf hE e9 hm,.int _ _⟩):P:=h
theorem X7{P:Prop}(h:P:=by
 refine⟨_,(akY hx hy).trans (by simp only [Op.stringOp,bL,bI]; rfl),?_⟩;rw [toList_inj];exact .bool _):P:=h
theorem YI{P:Prop}(h:P:=by
 cases hf:zW k 0 _ with
 | none=>rw [hf] at h; cases h
 | some f=>rw [hf] at h; cases h; exact⟨_,YF hf hE e9 hm,.bool _⟩):P:=h
theorem aez{P:Prop}(h:P:=by
 induction m with
 | nil=>simp
 | cons a m ih =>
  simp only [gz,kW,List.foldr_cons] at ih ⊢;rw [ih];omega):P:=h
theorem ah2{P:Prop}(h:P:=by
 rw [VW];have e:((0:Int):Rat) / ((2:Int):Rat)=0:=by grind
 rw [e];exact⟨show cS 0=ofRat 0 by decide,0,by grind,by simp⟩):P:=h
theorem Ch{P:Prop}(h:P:=by
 simpa using ah):P:=h
theorem aat{P:Prop}(h:P:=by
 intro o ho d' px;rcases fM.1 ho with rfl|ho
 . rw [hd] at px; cases px; exact ana fg
 . exact ih o ho d' px):P:=h
theorem RE{P:Prop}(h:P:=by
 cases base with
 | none=>exact hb 0 _
 | some a=>exact hc a len elem _):P:=h
theorem aeH{P:Prop}(h:P:=by
 conv=>arg 1; cbv
 simp (maxSteps:=4000000) only [aK,bu,bn,bX]
 first|done|trivial|exact⟨trivial,rfl⟩|rfl):P:=h
theorem ahw{P:Prop}(h:P:=by
 have h2:((D:Int):Rat)=((10000*(aB S).a5:Int):Rat):=by rw [h1]
 rw [NM,l7] at h2;rw [h2];rfl):P:=h
theorem Xg{P:Prop}(h:P:=by
 rename_i h3;rw [zK _ _ _ hd];congr 2;rw [ep,eq];simp only [eO];rw [Int.natCast_sub oo];push_cast;grind):P:=h
theorem afH{P:Prop}(h:P:=by
 rw [dL] at this;have:=this x hx;unfold nD at this;simp only [ax] at this;exact this.2.2):P:=h
theorem Jm{P:Prop}(h:P:=by
 simpa only [AV.plain] using hx):P:=h
theorem KT{P:Prop}(h:P:=by
 simpa only [AV.under] using hx):P:=h
theorem adM{P:Prop}(h:P:=by
 go_wp2
 go_ret
 exact⟨by rw [adL.out]; rfl,Mj.out.trans ((hb.trans (hC.mono hb.size)).mono Mj.out.size)⟩):P:=h
theorem ae6{P:Prop}(h:P:=by
 obtain⟨i,hi,rfl⟩:=gi.1 ha;exact Uo aI oo (by have:=gA.1 hi; omega)):P:=h
theorem Zu{P:Prop}(h:P:=by
 unfold execOp;simp only [Instr.storeAt,Instr.sureAddr,mu,bp,bL,bI,cC]):P:=h
theorem zQ{P:Prop}(h:P:=by
 simpa using hy):P:=h
theorem KW{P:Prop}(h:P:=by
 simpa only [AV.pJ] using hx):P:=h
theorem YS{P:Prop}(h:P:=by
 unfold execOp;simp only [he,Op.unary,Op.intArith,bp,bL,bI,Int.zero_sub]):P:=h
theorem aay{P:Prop}(h:P:=by
 unfold LL at hq;rw [pn,po oo] at hq ⊢;exact hq):P:=h
theorem Jl{P:Prop}(h:P:=by
 simpa only [AV.has] using hx):P:=h
theorem Ya{P:Prop}(h:P:=by
 simp only [jk e1 hx,jk e2 hy,eqGuard,binOp,Op.shift,h1,dw,bp,bL];rfl):P:=h
theorem Xu{P:Prop}(h:P:=by
 refine bodyPost_ret (results_none rfl _ _ _) rfl ?_;exact⟨⟨_,rfl⟩,.inr ⟨_,trivial,Xt⟩⟩):P:=h
theorem QP{P:Prop}(h:P:=by
 exact .inl ⟨_,_,oT,S0,hS,_,_,H2.put hp (.un _)⟩):P:=h
theorem Ys{P:Prop}(h:P:=by
 unfold zeroValue;simp only [typeInfo,bp,bL,bI,mR,hj,hz]):P:=h
theorem agR{P:Prop}(h:P:=by
 rw [ID];intro x hx Iz;have:=dL.1 h x hx;rw [Iz] at this;cases this):P:=h
theorem Zt{P:Prop}(h:P:=by
 rcases b9 loc S.n with h|h
 . exact h
 . have:=H.fresh loc h; rw [hb] at this; cases this):P:=h
theorem ady{P:Prop}(h:P:=by
 rw [xv h,aX,bc h];rfl):P:=h
theorem ZW{P:Prop}(h:P:=by
 rw [oU] at h3;have h4:((c*b:Nat):Int)<=281474976710656:=by rw [NY]; exact h3
 omega):P:=h
theorem abU{P:Prop}(h:P:=by
 unfold dD at hx;dsimp only at hx;split at hx
 . rename_i y hy; rw [hy,hx]
 . simp [aj] at hx):P:=h
theorem abV{P:Prop}(h:P:=by
 unfold bf at he;dsimp only at he;split at he
 . rename_i y hy; rw [hy,he]
 . simp [aj] at he):P:=h
theorem aeq{P:Prop}(h:P:=by
 conv=>arg 1; cbv
 simp (maxSteps:=4000000) only [aK];unfold gY;by_cases h:low<=n<;>simp [h]):P:=h
theorem Xj{P:Prop}(h:P:=by
 rw [bc (by rw [ev]; exact sX)] at hn;injection hn with hn;rw [hn]):P:=h
theorem ah9{P:Prop}(h:P:=by
 rw [aw hx,aw hx];refine (ih.mono ?_).eq ?_
 . rw [lH];omega
 . push_cast;grind):P:=h
theorem Y0{P:Prop}(h:P:=by
 rintro rfl
 rcases Fl with Fl|Fl
 . exact Fl b k2
 . have:=Fl l _ h0; simp [oO] at this):P:=h
theorem RD{P:Prop}(h:P:=by
 split
 . exact cI.pure _
 . exact (wP _).oY):P:=h
theorem X8{P:Prop}(h:P:=by
 obtain⟨ds,hd,hm⟩:=mZ h;rw [hi] at hm;cases ds<;>first|exact hd|simp [jH] at hm):P:=h
theorem Kb{P:Prop}(h:P:=by
 rw [PW]; exact hl):P:=h
theorem Qq{P:Prop}(h:P:=by
 rw [tn hb]; exact Ext.refl _):P:=h
theorem KL{P:Prop}(h:P:=by
 rw [ZL]; exact hl):P:=h
theorem QQ{P:Prop}(h:P:=by
 rw [tn hA]; exact Ext.refl _):P:=h
theorem aaZ{P:Prop}(h:P:=by
 rw [eh] at hq ⊢;split at hq
 . rename_i ah; rw [aC ah]
 . cases hq):P:=h
theorem abT{P:Prop}(h:P:=by
 cases hbo:fn.body with
 | none=>rw [hbo] at hb; cases hb
 | some code=>exact⟨code,rfl⟩):P:=h
theorem aa5{P:Prop}(h:P:=by
 refine cI.program.bind fun p => ?_;split
 . exact cI.pure _
 . exact (wP _).oY):P:=h
theorem Jk{P:Prop}(h:P:=by
 simpa [Kc.ls] using ha):P:=h
theorem Xm{P:Prop}(h:P:=by
 rw [fR,<- uo,jB,jB]):P:=h
theorem YE{P:Prop}(h:P:=by
 have:decide (k ()=(j:Int))=true:=by rw [aL,hk]; rfl
 rw [this,hv];rfl):P:=h
theorem U2{P:Prop}(h:P:=by
 exact sa _ _ oo oo oo):P:=h
theorem U3{P:Prop}(h:P:=by
 exact sb _ _ oo oo oo):P:=h
theorem abh{P:Prop}(h:P:=by
 rcases b9 l S'.n with h|h
 . exact h
 . rw [HR.fresh l h] at q3; cases q3):P:=h
theorem abO{P:Prop}(h:P:=by
 rw [List.mapM_cons];simp only [bp,bL,bI,hO,h1]):P:=h
theorem FW{P:Prop}(h:P:=by
 simpa using dW):P:=h
theorem ZD{P:Prop}(h:P:=by
 exact .inl ⟨_,_,oT,S0,hS,_,_,H2.put hp (.own _ _ _ _ (iJ _ _ _))⟩):P:=h
theorem adP{P:Prop}(h:P:=by
 go_enter Tryz.func227,Tryz.ntmps227
 go_wp2
 go_ret
 exact⟨rfl,cu _ _⟩):P:=h
theorem abb{P:Prop}(h:P:=by
 rw [bL] at hr; injection hr with h1 h2; exact⟨h2.symm,_,h1.symm⟩):P:=h
theorem ac4{P:Prop}(h:P:=by
 conv=>arg 1; cbv
 simp (maxSteps:=4000000) only [aK,bu,bn,bX]):P:=h
theorem yk{P:Prop}(h:P:=by
 simp [Op.operands]):P:=h
theorem KE{P:Prop}(h:P:=by
 simp only [ax]; exact fun h=>h.2):P:=h
theorem ago{P:Prop}(h:P:=by
 have nK:∀ y ∈ [x.half],1<=y/\y<=2:=by simp [gh]
 have HU:([x.half]).length<=2:=by simp
 generalize [x.half]=hs at *
 exact s_4):P:=h
theorem aiv{P:Prop}(h:P:=by
 by_cases h:(8:Int)<(l.length:Int)
 . rw [dP h,eG]; omega
 . exact H9):P:=h
theorem TT{P:Prop}(h:P:=by
 go_enter Tryz.func228,Tryz.ntmps228
 exact TS):P:=h
end Go.Proofs.YtamjbkaclhgffaaGreat
