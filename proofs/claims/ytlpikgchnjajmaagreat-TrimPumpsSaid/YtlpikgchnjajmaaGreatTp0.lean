/-
  Short words for closing tactics, and short names for theorems of the library.
-/
import Derived.Below
import Derived.BigQuiet
import Derived.Deep.Cut
import Derived.Deep.LoopGhost
import Derived.Deep.QuietTactic
import Derived.Deep.Slices
import Derived.Laws.BitsLemmas
import Derived.Laws.CopyOwn
import Derived.Laws.Entries
import Derived.Laws.Rows
import Derived.Laws.Sem
import Derived.Laws.Tables
import Derived.Laws.World
import Derived.Lib.Hide
import Derived.Lib.SliceRun
import Derived.LoopIn
import Derived.LoopN
import Derived.LoopNIn
import Derived.Maps.AppendAt
import Derived.Maps.Keyed
import Derived.Maps.OwnSet
import Derived.Maps.RangeRun
import Derived.OrdersIn
import Derived.OwnWalkIn
import Derived.ProofKit
import Derived.RangeFuncBound
import Derived.RangeFuncCalls
import Derived.RangeFuncFrom
import Derived.RangeFuncLeaves
import Derived.RangeFuncNested
import Derived.Shelf.Abstract
import Derived.Shelf.RegionOpen
import Derived.SizedLaws
import Derived.Sort.LoopGhostIn
import Derived.TacticsIn
import Derived.TacticsInMore
import Derived.WalkKit
import Derived.WalkLawsBesides
import Derived.WalkSpells
import Derived.WideKeyEntry
set_option linter.defProp false
set_option maxRecDepth 100000
set_option maxHeartbeats 4000000
namespace Go.Proofs.YtlpikgchnjajmaaGreat
theorem oo{P:Prop}(h:P:=by omega):P:=h
theorem ii{P:Prop}(h:P:=by simp only [aY]; omega):P:=h
def ar:=@if_neg
def au:=@Bool.and_eq_true
def aw:=@if_pos
def az:=@Nat.le_refl
def aI:=@decide_eq_true_eq
def aR:=@true_and
def aS:=@and_true
def aX:=@Go.Lib.hid
def ba:=@List.getD_eq_getElem?_getD
def bp:=@List.getElem?_eq_getElem
def bt:=@Go.Sem.run_bind
def bw:=@eq_self
def bI:=@Option.some.injEq
def bM:=@Go.Result.andThen_ok
def bU:=@Go.Sem.run_pure
def b9:=@beq_iff_eq
def cm:=@Nat.zero_le
def cw:=@Nat.lt_or_ge
def cA:=@Go.RowKit.Below.refl
def cM:=@List.getElem?_eq_some_iff
def c6:=@List.length_take
def c8:=@decide_eq_true
def c9:=@List.length_cons
def dv:=@Option.map_some
def dB:=@if_false
def dK:=@List.all_eq_true
def dL:=@Bool.true_and
def dS:=@Bool.false_eq_true
def dV:=@Int.toNat_natCast
def ej:=@List.length_append
def eC:=@List.getElem?_take
def eG:=@cond_true
def eH:=@if_true
def e8:=@Nat.le_trans
def fE:=@List.length_nil
def fF:=@Nat.mod_eq_of_lt
def fG:=@cond_false
def fM:=@Bool.or_false
def fR:=@decide_eq_false_iff_not
def fZ:=@List.mem_cons
def ga:=@Bool.and_true
def gv:=@List.append_assoc
def gw:=@decide_eq_false
def gz:=@Bool.or_eq_true
def gA:=@Bool.not_true
def gP:=@List.mem_range
def gX:=@List.mem_of_getElem?
def gY:=@List.getElem?_map
def gZ:=@Option.getD_some
def hZ:=@Nat.zero_add
def iq:=@List.mem_map
def iF:=@Option.isNone_iff_eq_none
def iG:=@Bool.not_eq_true'
def iH:=@List.length_drop
def iP:=@Nat.lt_of_lt_of_le
def iQ:=@List.length_map
def jg:=@List.take_append_drop
def jz:=@Array.getElem?_eq_some_iff
def jY:=@Bool.not_eq_false'
def jZ:=@Bool.or_eq_false_iff
def j3:=@Int.le_refl
def kq:=@List.mem_singleton
def ku:=@List.mem_append
def kx:=@Nat.pow_succ
def kV:=@Option.map_eq_some_iff
def kW:=@List.mem_iff_getElem?
def kX:=@List.map_cons
def kY:=@Nat.add_zero
def lK:=@Option.bind_eq_some_iff
def lL:=@List.take_of_length_le
def lM:=@List.getElem?_drop
def lN:=@Nat.mul_comm
def mi:=@Nat.div_eq_of_lt
def mj:=@List.getElem_mem
def mZ:=@List.length_set
def m5:=@Go.run_program
def nP:=@Nat.mul_one
def oH:=@List.getElem?_cons_zero
def oI:=@Int.eq_ofNat_of_zero_le
def oJ:=@Nat.not_lt_zero
def oK:=@Nat.pow_zero
def oL:=@Nat.mod_lt
def pz:=@Array.getD_eq_getD_getElem?
def pA:=@Array.getElem?_eq_getElem
def pB:=@Nat.mod_one
def qh:=@List.getElem?_append_left
def qi:=@Go.World.size_alloc
def qj:=@Go.RowKit.Below.heap_alloc
def qk:=@List.append_nil
def ql:=@Go.run_underlying
def qm:=@decide_true
def rq:=@List.getElem?_append_right
def ru:=@List.getElem?_set
def rv:=@List.nil_append
def ry:=@Go.heap_alloc_new
def rz:=@Prod.mk.injEq
def rA:=@Nat.add_assoc
def rB:=@Bool.false_or
def rC:=@Nat.sub_zero
def sA:=@List.getElem?_eq_none
def sB:=@List.cons.injEq
def sC:=@List.map_append
def sD:=@Bool.eq_iff_iff
def sE:=@Go.Addr.add_lit
def sF:=@Int.mul_pos
def tR:=@Int.mul_le_mul_of_nonneg_left
def tS:=@Int.mul_le_mul_of_nonneg_right
def tT:=@Nat.mul_le_mul_left
def tU:=@List.pairwise_cons
def tV:=@Go.RowKit.Below.heap_setCell
def tW:=@of_decide_eq_true
def tX:=@List.drop_drop
def tY:=@Bool.and_false
def tZ:=@decide_false
def ua:=@Nat.mul_add
def vC:=@not_true_eq_false
def vD:=@List.drop_eq_getElem_cons
def vE:=@List.map_nil
def vF:=@List.mem_of_mem_take
def vG:=@List.ext_getElem?
def vH:=@Nat.add_sub_cancel
def vI:=@Bool.not_eq_true
def vJ:=@Bool.false_and
def vK:=@Nat.le_of_eq
def vL:=@Nat.div_one
def xp:=@List.eq_nil_of_length_eq_zero
def xq:=@List.pairwise_iff_getElem
def xr:=@Nat.mul_le_mul_right
def xt:=@List.size_toArray
def xu:=@List.cons_append
def xv:=@Rat.intCast_mul
def xw:=@Nat.add_mul
def xx:=@Array.ext'
def zj:=@Nat.add_mul_mod_self_left
def zk:=@List.length_replicate
def zl:=@Nat.pow_le_pow_right
def zm:=@Nat.add_mul_div_left
def zn:=@List.getElem_of_mem
def zo:=@Nat.eq_zero_or_pos
def zp:=@Nat.lt_succ_self
def zq:=@Int.natCast_add
def zr:=@List.drop_zero
def zs:=@Bool.and_self
def zt:=@Go.cell_of_row
def zu:=@Nat.mul_pos
def zv:=@not_or
def Be:=@List.eq_nil_iff_forall_not_mem
def Bf:=@List.getElem?_append
def Bg:=@Nat.div_div_eq_div_mul
def Bh:=@List.drop_eq_nil_of_le
def Bj:=@Nat.div_lt_of_lt_mul
def Bk:=@not_false_eq_true
def Bl:=@List.isEmpty_iff
def Bm:=@Option.map_none
def Bn:=@List.sum_cons
def Bp:=@Nat.succ_mul
def Bq:=@Nat.sub_self
def Br:=@Nat.mul_zero
def Bt:=@Nat.pow_add
def Bu:=@Nat.le_succ
def Dy:=@List.getElem?_toArray
def Dz:=@Option.isSome_eq_false_iff
def DA:=@Int.tdiv_eq_ediv_of_nonneg
def DB:=@List.length_take_of_le
def DC:=@Array.getElem?_eq_none
def DD:=@List.map_toArray
def DE:=@List.nodup_append
def DF:=@List.any_eq_false
def DG:=@decide_eq_decide
def DH:=@Option.bind_some
def DI:=@Nat.min_eq_left
def DJ:=@List.take_zero
def DK:=@List.take_take
def DL:=@Int.mul_nonneg
def DM:=@Nat.mul_assoc
def DN:=@Go.setRow_other
def DO:=@List.map_map
def DP:=@and_self
def DQ:=@eq_comm
def Hz:=@Array.getElem?_setIfInBounds
def HG:=@Int.tmod_eq_emod_of_nonneg
def HH:=@Nat.div_lt_iff_lt_mul
def HO:=@Nat.pos_of_ne_zero
def HU:=@List.set_cons_zero
def HV:=@List.filter_append
def H4:=@Array.any_eq_true'
def H5:=@bne_self_eq_false
def H6:=@List.flatten_cons
def H7:=@List.filter_cons
def H8:=@List.mem_filter
def H9:=@List.all_cons
def Ia:=@Int.neg_mul
def Ib:=@or_false
def MY:=@List.take_succ_eq_append_getElem
def MZ:=@Nat.mul_lt_mul_of_pos_right
def M1:=@List.getElem?_cons_succ
def M3:=@List.length_eq_one_iff
def M4:=@List.find?_eq_none
def M5:=@List.mem_iff_getElem
def M6:=@List.mem_cons_of_mem
def M7:=@List.getElem?_set_ne
def M8:=@Array.replicate_zero
def M9:=@Array.replicate_succ
def Na:=@beq_eq_false_iff_ne
def Nb:=@List.take_succ_cons
def Nc:=@List.map_congr_left
def Nf:=@List.getElem?_range
def Ng:=@List.flatten_append
def Nh:=@List.append_toArray
def Ni:=@of_decide_eq_false
def Nj:=@List.set_cons_succ
def Nk:=@Int.natCast_mul
def Nl:=@List.push_toArray
def Nm:=@List.toArray_inj
def Nn:=@List.range'_succ
def No:=@List.not_mem_nil
def Np:=@List.any_eq_true
def Nq:=@Nat.mod_add_div
def Nr:=@List.foldl_cons
def Ns:=@Bool.not_false
def Nt:=@List.map_take
def Nu:=@Nat.zero_mul
def Nv:=@Nat.le_of_lt
def Nw:=@Int.lt_or_le
def Nx:=@Int.le_of_lt
def Ny:=@Go.setRow_heap
def Nz:=@bne_iff_ne
def Vj:=@List.mem_or_eq_of_mem_set
def Vk:=@Option.isSome_iff_exists
def Vl:=@Array.getElem?_replicate
def Vm:=@Int.natCast_nonneg
def Vn:=@List.getElem_cons_drop
def Vo:=@Bool.and_eq_false_iff
def Vp:=@List.mem_of_mem_drop
def Vq:=@List.flatMap_append
def Vr:=@Nat.lt_of_le_of_lt
def Vs:=@Bool.true_eq_false
def Vt:=@Nat.mul_left_comm
def Vu:=@List.length_range
def Vv:=@false_implies
def Vw:=@List.mem_flatMap
def Vx:=@true_implies
def Vy:=@Nat.div_le_self
def Vz:=@Nat.div_add_mod
def VA:=@List.nodup_nil
def VB:=@Nat.lt_trans
def VD:=@Nat.add_comm
def VE:=@Int.zero_mul
def VF:=@Int.mul_add
def VG:=@Nat.sub_le
def ag9:=@Nat.add_sub_cancel_left
def aha:=@Array.all_eq_true_iff_forall_mem
def ahb:=@List.take_append_of_le_length
def ahc:=@List.drop_append_of_le_length
def ahd:=@Nat.mod_mul_right_div_self
def ahe:=@List.setIfInBounds_toArray
def ahf:=@Int.fdiv_eq_ediv_of_nonneg
def ahg:=@List.getElem?_eq_none_iff
def ahh:=@Int.mul_neg_of_neg_of_pos
def ahi:=@List.getElem?_replicate
def ahj:=@Rat.normalize_eq_mkRat
def ahk:=@List.getElem?_set_self
def ahl:=@List.filter_eq_nil_iff
def ahm:=@Nat.mul_div_mul_right
def ahn:=@List.mem_append_left
def aho:=@Rat.intCast_natCast
def ahp:=@Array.length_toList
def ahq:=@List.mem_replicate
def ahr:=@List.mem_cons_self
def ahs:=@Int.emod_lt_of_pos
def aht:=@Nat.lt_trichotomy
def ahu:=@List.pairwise_map
def ahv:=@List.foldl_append
def ahw:=@Int.natAbs_sub_le
def ahx:=@Int.lt_trichotomy
def ahy:=@Rat.mkRat_eq_div
def ahz:=@Nat.mul_lt_mul''
def ahA:=@Nat.le_of_not_lt
def ahB:=@List.take_length
def ahC:=@List.mem_flatten
def ahD:=@Go.IntKind.wrap_i64
def ahE:=@Nat.mul_ne_zero
def ahF:=@Nat.lt_succ_iff
def ahG:=@List.take_left'
def ahH:=@List.range_succ
def ahI:=@Int.emod_nonneg
def ahJ:=@List.Perm.refl
def ahK:=@Int.mul_le_mul
def awY:=@List.findIdx?_eq_some_iff_getElem
def awZ:=@List.drop_length_add_append
def aw0:=@List.exists_cons_of_ne_nil
def aw1:=@Array.toList_setIfInBounds
def aw2:=@Array.getElem?_append_left
def aw3:=@List.getLast?_eq_getElem?
def aw4:=@Classical.byContradiction
def aw5:=@Nat.gcd_pos_of_pos_right
def aw6:=@List.getElem?_take_of_lt
def aw7:=@Int.mul_ediv_cancel_left
theorem Ll{P:Prop}(h:P:=by
 go_enter Tryz.func68,Tryz.ntmps68
 go_wp2_with (first
  | (go_at_call 75; refine (HK.out _).mono ?_; rintro e wx ⟨rfl,hx⟩; rw [hx]; clear hx wx HK)
  | (go_at_call 67; refine (HX.out _).mono ?_; rintro e wx ⟨rfl,hx⟩; rw [hx]; clear hx wx HX)
  | (go_at_call 67; refine (HY.out _).mono ?_; rintro e wx ⟨rfl,hx⟩; rw [hx]; clear hx wx HY)
  | (go_at_call 67; refine (HZ.out _).mono ?_; rintro e wx ⟨rfl,hx⟩; rw [hx]; clear hx wx)
  | ((with_reducible refine xy 62 ?_); go_loud (refine xO (cs':=Ld.cells (dA)) rfl _ _ rfl tl.out 0 rfl rfl rfl AK rfl (Ld.len _) (Ld.len _) (Ld.one _) ?_); intro w6 h6))
 refine bodyPost_ret (Ga rfl _ rfl (h6.BL CO (Ld.len _) (i:=0) rfl _ (cA _ _))) rfl ⟨?_,h6.from_⟩;rw [HR.out];rfl):P:=h
theorem s_1{P:Prop}(h:P:=by
 refine⟨trivial,fun g6 => ?_,fun g6 => ?_⟩
 . simp (maxSteps:=4000000) only [aB];refine (ox ?_).symm;have MX:(!r9 s.aE (fC (l.getD k Tc.aq.aa)) (bZ bs (l.getD k Tc.aq.aa).box).1.size)=true:=g6;rw [lF,<- hx];grind
 have MX:(!r9 s.aE (fC (l.getD k Tc.aq.aa)) (bZ bs (l.getD k Tc.aq.aa).box).1.size)=false:=g6;rw [hx,jY] at MX;refine⟨⟨by simp; omega,?_⟩,fun g7 => ?_,fun g7 => ?_⟩
 . have:=apS AM MX;rw [<- hx] at this;exact this
 . simp (maxSteps:=4000000) only [aB];refine (ox ?_).symm;have Vh:(!wX (fC (l.getD k Tc.aq.aa)) (l.map fC))=true:=g7;rw [lF,<- hx];grind
 have Vh:(!wX (fC (l.getD k Tc.aq.aa)) (l.map fC))=false:=g7;rw [hx,jY] at Vh;have sh:(!(bZ bs (l.getD k Tc.aq.aa).box).2)=false:=g3;rw [hx,jY] at sh;refine cL (l.map fC) fun all cr => ?_;have hlen:all.length=l.length:=by rw [<- cr]; simp
 refine⟨⟨Vm k,by simp only [gV,iQ]; omega⟩,?_⟩;refine cL (fC x) fun z hz => ?_;refine⟨apU z all k,?_⟩
 conv=>arg 1; cbv
 refine⟨?_,fun (j:Nat) hj => ?_⟩
 . simp (maxSteps:=4000000) only [aB];simp
 have yS:j<=k/\∀ i,i<j->kK z (all.getD i Tc.slot.aa)=false:=hj;have xN:=yS.1;have mu:=yS.2
 conv=>arg 1; cbv
 simp (maxSteps:=4000000) only [aB];have e1:∀ u:Slot,(⟨u.ax,u.aF,u.half⟩:Slot)=u:=fun _=>rfl;have e2:(⟨(l.getD k Tc.aq.aa).ax,(l.getD k Tc.aq.aa).aF,(l.getD k Tc.aq.aa).half⟩:Slot)=z:=by rw [hx,<- hz]; rfl
 simp only [cr,e1,e2];refine⟨fun g8 => ?_,fun g8 => ?_⟩
 . have h8:j<k:=oo
   refine⟨⟨oo,oo⟩,trivial,fun g9=>(ox ?_).symm,fun g9=>⟨⟨oo,oo⟩,⟨⟨h8,wZ mu g9⟩,oo⟩,oo⟩⟩;have hd:decide (∀ j,j<k->kK z (all.getD j Tc.slot.aa)=false)=false:=by
    rw [fR];intro h;rw [h j h8] at g9;cases g9
   rw [lF,hz,cr,hd];simp
 . have hd:decide (∀ j,j<k->kK z (all.getD j Tc.slot.aa)=false)=true:=by
    rw [aI];exact fun i hi=>mu i oo
   refine⟨⟨oo,oo⟩,⟨⟨aj,SG ?_⟩,oo⟩,oo⟩;rw [lF,sh,ho,MX,Vh,hz,cr,hd];rfl):P:=h
theorem s_2{P:Prop}(h:P:=by
 generalize hI:5*((k:Int)+1)=id at oC ⊢;generalize hP:Mj s bs st id dc=p at oC;refine⟨atA xs st p,?_⟩
 conv=>arg 1; cbv
 simp (maxSteps:=4000000) only [aB];refine⟨⟨⟨cm _,rfl⟩,rfl,trivial⟩,fun (j:Nat) hj => ?_⟩;have yS:j<=xs.length/\(xs.take j).all (fun x => !p x)=true:=hj;have xN:=yS.1;have mu:=yS.2
 conv=>arg 1; cbv
 simp (maxSteps:=4000000) only [aB];have z1:(0+st.length)*32<=140737488355328:=oo
 have z2:(st.length+(0+1))*32<=140737488355328:=oo
 simp only [rv,fE,c9,z1,z2,DP,aS,aR,aty];have Hy:p (xs.getD j Tc.slot.aa)=(decide ((xs.getD j Tc.slot.aa).ax=dc.tmod (s.aE.length:Int))&&ee s bs (st ++ [Mi id (xs.getD j Tc.slot.aa)])):=by rw [<- hP]; rfl
 have jJ:k+1<=m/\m - (k+1)<m - k:=oo
 have CD:aY ((k:Int)+1):=ii
 have G3:xs.length<=2000000:=by rw [<- hX]; exact atv hs.2.2.1 hs.2.2.2
 refine⟨fun g1 => ?_,fun g1 => ?_⟩
 . have aj:j<xs.length:=oo
   have qL:aY ((j:Int)+1):=ii
   have hjj:xs.length - (j+1)<xs.length - j:=oo
   have GI:=fun h=>Lr (p:=fun x => !p x) (d:=Tc.slot.aa) mu aj h;refine⟨⟨oo,oo⟩,ii,?_,fun hc=>⟨⟨hs.1,oo,by rw [ej]; simp only [c9,fE]; omega⟩,fun h1=>⟨CD,jJ,oo,?_⟩,fun h1=>⟨qL,⟨⟨oo,GI ?_⟩,hjj⟩,oo⟩⟩,fun hc=>⟨qL,⟨⟨oo,GI ?_⟩,hjj⟩,oo⟩⟩
   . intro h0;exact hs.2.1 (xp oo)
   . have hpt:p (xs.getD j Tc.slot.aa)=true:=by rw [Hy,c8 hc]; exact h1
     rw [oC,atw Tc.slot.aa mu aj hpt];rfl
   . have Vi:p (xs.getD j Tc.slot.aa)=false:=by rw [Hy,c8 hc]; exact h1
     show (!p (xs.getD j Tc.slot.aa))=true
     rw [Vi];rfl
   . have Vi:p (xs.getD j Tc.slot.aa)=false:=by rw [Hy,gw hc]; rfl
     show (!p (xs.getD j Tc.slot.aa))=true
     rw [Vi];rfl
 . refine⟨CD,jJ,oo,?_⟩;rw [oC,atx mu oo]):P:=h
theorem s_3{P:Prop}(h:P:=by
 have h6:j<hs.length:=oo
 have h7:=Tt h6;have nU:=nT _ (lG Tc.u8.aa h6);have we:aY (hs.getD j Tc.u8.aa):=⟨oo,oo⟩
 have hs4:(hs.take j).length<=2:=by rw [c6]; omega
 have fu:=cN [Kx.i .i64 x.ax,Kx.i .i64 (hs.getD j Tc.u8.aa)];have nV:aY ((qW (jd b) x.ax M0 (hs.take j) [Kx.i .i64 x.ax,Kx.i .i64 (hs.getD j Tc.u8.aa)]).getD Tc.int.aa+jd b):=by
  rw [eW];exact⟨oo,oo⟩
 obtain⟨e1,e2,e3,e4,e5⟩:=all_true nV (show aY ((j:Int)+1) from ⟨oo,oo⟩) (show j+1<=hs.length/\hs.length - (j+1)<hs.length - j from ⟨oo,oo⟩) (show (j:Int)+1=((j+1:Nat):Int) from oo) we;simp only [h7,e1,e2,e3,e4,e5,DP,aS,aR];exact⟨oo,oo⟩):P:=h
theorem s_4{P:Prop}(h:P:=by
 have c1:p.1<=c/\c<p.2:=oo
 have c2:=hSR c oo oo;have e1:((mid:Int)+(m:Int) - 1 - (c:Int)).toNat=mid+m - 1 - c:=oo
 rw [e1];refine⟨ii,oo,ii,ii,⟨oo,oo⟩,⟨oo,oo⟩,trivial,fun g2 => ?_,fun g2 => ?_⟩
 . refine cL (c+1) fun c' BE => ?_;simp only [iG,fR] at g2;refine⟨ii,⟨(c',p.2),⟨⟨⟨oo,oo,oo⟩,.inr ?_,q3⟩,by show p.2 - c'<p.2 - p.1; omega⟩,?_⟩⟩
   . show (l.getD (c' - 1) Tc.aq.aa).aF<=(l.getD (mid+m - c') Tc.aq.aa).aF
     rw [show c' - 1=c from oo,show mid+m - c'=mid+m - 1 - c from oo];omega
   . conv=>arg 1; cbv
     simp (maxSteps:=4000000) only [aB];exact⟨oo,trivial⟩
 . simp only [jY,aI] at g2;refine⟨(p.1,c),⟨⟨⟨oo,oo,oo⟩,q2,.inr g2⟩,by show c - p.1<p.2 - p.1; omega⟩,?_⟩
   conv=>arg 1; cbv
   simp (maxSteps:=4000000) only [aB];exact⟨trivial,trivial⟩):P:=h
theorem s_5{P:Prop}(h:P:=by
 conv=>arg 1; cbv
 simp (maxSteps:=4000000) only [aB];refine⟨⟨oo,rfl,rfl⟩,fun (j:Nat) hj => ?_⟩;have xN:j<=5:=hj
 conv=>arg 1; cbv
 simp (maxSteps:=4000000) only [aB];have hlen:=TH n j;have qX:pk n (j+1)=pk n j++cond (tw n (2*j)) [⟨(j:Int),[0,1]⟩] []++cond (tw n (2*j+1)) [⟨(j:Int),[2,3,4]⟩] []:=rfl;refine⟨fun g1 => ?_,fun g1 => ?_⟩
 . rw [qX];unfold tw;generalize pk n j=cs at hlen ⊢;generalize sP BinOp.and IntKind.u32 (lV BinOp.shr IntKind.u32 n (2*↑j)) 1=b1;generalize sP BinOp.and IntKind.u32 (lV BinOp.shr IntKind.u32 n (2*↑j+1)) 1=b2;by_cases e1:b1=1<;>by_cases e2:b2=1<;>simp only [e1,e2,qm,tZ,eG,fG,vC,Bk,Vv,Vx,aS,aR,forall_const,aY,ej,c9,fE,qk]<;>omega
 . have Uu:j=5:=oo
   subst Uu;exact⟨oP.symm,rfl,rfl,rfl,rfl,rfl,rfl,rfl,rfl,rfl,rfl,rfl,rfl⟩):P:=h
theorem Sq{P:Prop}(h:P:=by
 go_enter Tryz.func74,Tryz.ntmps74
 go_wp2_with (first
  | (go_at_call 75; refine (HK.out _).mono ?_; rintro e wx ⟨rfl,hx⟩; rw [hx]; clear hx wx HK)
  | (go_at_call 67; refine (HX.out _).mono ?_; rintro e wx ⟨rfl,hx⟩; rw [hx]; clear hx wx HX)
  | (go_at_call 67; refine (HY.out _).mono ?_; rintro e wx ⟨rfl,hx⟩; rw [hx]; clear hx wx HY)
  | (go_at_call 67; refine (HZ.out _).mono ?_; rintro e wx ⟨rfl,hx⟩; rw [hx]; clear hx wx))
 go_ret
 exact⟨rfl,HB.out⟩):P:=h
theorem iC{P:Prop}(h:P:=by
 simp [Op.operands]):P:=h
theorem s_8{P:Prop}(h:P:=by
 have bx:∀ j,j<(bG x).length->(-500000<=((bQ x).aM.getD j Tc.bD.aa).x/\((bQ x).aM.getD j Tc.bD.aa).x<=500000) /\ -500000<=((bQ x).aM.getD j Tc.bD.aa).y/\((bQ x).aM.getD j Tc.bD.aa).y<=500000:=fun j hj=>by
  have h:=((tK _).1 (((lI _).1 ((gW _ _).1 hf.sound.nO).1).2 j oo)).1;exact⟨h.2.1,h.2.2.1⟩
 have xi:=bx i hi;have xk:=bx k hk;simp only [sg];have iz:aY 0:=⟨by decide,by decide⟩
 exact⟨iz,iz,iz,oo,oo,ii,ml _ oo oo,fun _=>⟨oo,oo,ii,ml _ oo oo,trivial⟩,fun q=>absurd trivial q⟩):P:=h
theorem s_9{P:Prop}(h:P:=by
 refine fun _ _ => ?_
 conv=>arg 1; cbv
 simp (maxSteps:=4000000) only [aB,aR,aS,bw];simp only [es,xm,<- hD];generalize fY s.aM w n=W at *
 have hf:=agC s D W.1;generalize kS s D W.1=F at *
 simp only [pn,agF,agE hf];have hl:=agH hT.1;refine⟨⟨cf.1.1,oo⟩,fun k2=>⟨⟨agD _,hl.1,hl.2.1,hl.2.2,hd⟩,fun k3 => ?_,fun k3 => ?_⟩,fun k2 => ?_⟩
 . rw [lD,aw ⟨k2,k3⟩];exact⟨agN,nx.1,nx.2.1,nx.2.2,rfl,rfl⟩
 . rw [lD,ar (fun q=>k3 q.2)];exact⟨nx.1,nx.2.1,nx.2.2,rfl,rfl⟩
 . rw [lD,ar (fun q=>k2 q.1)];exact⟨nx.1,nx.2.1,nx.2.2,rfl,rfl⟩):P:=h
theorem aeR{P:Prop}(h:P:=by
 refine⟨fun h => ?_,fun h => ?_⟩
 . have h1:=D2 oo;have h2:=GY oo;simp only [hT,dV,<- hq];rw [pK oo];exact⟨oo,oo,ii,ii,oo,by simp only [c9,fE]; omega,by simp only [c9,fE]; omega,ii,oo,oo,by rw [hS],rfl⟩
 . rw [kH oo];exact⟨by simp only [c9,fE]; omega,by simp only [c9,fE]; omega,ii,oo,oo,by rw [hS],rfl⟩):P:=h
theorem WJ{P:Prop}(h:P:=by
 obtain⟨j,hj,rfl⟩:=ha;obtain⟨ds,hd⟩:=hd;unfold part;have h1:(isAgg T).run P w = .ok (gF P T) w:=by
  unfold isAgg gF;simp only [underlying,bt,bU,bM,m5,hd];cases ds<;>rfl
 simp only [bt,h1,bM]
 cases hb:gF P T with
 | true =>
  have:=hlen hb;rw [rM hb];simp only [eH,sizeOf,typeInfo,bt,bU,bM,m5,hj];congr 2;apply xx;simp [List.extract_eq_take_drop,ag9]
 | false =>
  simp only [dS,dB,Dy,hv hb,bU]):P:=h
theorem aaS{P:Prop}(h:P:=by
 cases e with
 | normal =>
  obtain⟨g,S,_,H,hc⟩:=hq
  cases g with
  | zero=>unfold cont at hc; exact hc.elim
  | succ g=>unfold cont at hc; exact fA S H hc
 | ret =>
  obtain⟨g,S,_,H,hc⟩:=hq
  cases g with
  | zero=>unfold lB at hc; exact hc.elim
  | succ g=>unfold lB at hc; exact fA S H hc
 | exit id =>
  obtain⟨g,S,_,H,hc⟩:=hq
  cases g with
  | zero=>unfold exitTo at hc; exact hc.elim
  | succ g=>unfold exitTo at hc; exact hc.elim
 | goto l=>exact hq.elim
 | panic c=>exact hq.elim
 | outgrown=>exact hq.elim):P:=h
theorem abx{P:Prop}(h:P:=by
 conv=>arg 1; cbv
 refine⟨?_,fun (k:Nat) hk => ?_⟩
 . simp (maxSteps:=4000000) only [aB];simp
 have cR:k<=l.length/\∀ j,j<k->(r6 id) (l.getD j Tc.box.aa)=false:=hk;have cZ:=cR.1;have cg:=cR.2
 conv=>arg 1; cbv
 simp (maxSteps:=4000000) only [aB];refine⟨fun g => ?_,fun g=>(Sd cg oo).symm⟩;have aj:k<l.length:=oo
 exact⟨oo,trivial,fun h=>(Sc cg aj h).symm,fun h=>⟨⟨oo,oo⟩,⟨⟨aj,wZ cg h⟩,oo⟩,oo⟩⟩):P:=h
theorem xb{P:Prop}(h:P:=by
 simp (maxSteps:=4000000) only [aB];exact⟨cm _,rfl,rfl⟩):P:=h
theorem acV{P:Prop}(h:P:=by
 refine cL (mid+m - s) fun e wH => ?_;rw [wH] at he hT oT;simp only [he,dV];have Ct:s=m\/m=e->acK ay.aF Tc.aq.aa a b s e mid N l (cJ ay.aF a b l):=fun g=>by
  have q:=aqo (l:=l) (s:=s) (m:=m) (e:=e) oo oo oo g;rw [q] at hT;exact hT
 exact⟨ii,fun g1=>⟨fun g2=>⟨⟨⟨oo,oo,oo⟩,oo,h6⟩,hT⟩,fun g2=>Ct (.inr oo)⟩,fun g1=>Ct (.inl oo)⟩):P:=h
theorem Xr{P:Prop}(h:P:=by
 obtain⟨ds,hd,hm⟩:=m9 (aA T i hT);rw [mn] at hm;cases ds<;>first|(simp [jH] at hm; done)|skip
 rename_i e';simp only [jH,au,b9] at hm;obtain⟨⟨he,_⟩,hm⟩:=hm;subst he
 cases hj:P.info? e' with
 | none=>rw [hj] at hm; cases hm
 | some j =>
  rw [hj] at hm;simp only [au,b9] at hm;have he:P.elem T=e':=by simp [Program.elem,hd]
  rw [he];exact⟨hd,fun w'=>by rw [run_sizeOf w' hj]; simp [Program.cellsOf,hj,hm.1.1]⟩):P:=h
theorem CY{P:Prop}(h:P:=by
 simp only [wV,gV,dV,kX,vE,eW];exact⟨oo,oo⟩):P:=h
theorem I4{P:Prop}(h:P:=by
 cases h;refine⟨_,?_,.int k _⟩;unfold execOp;simp only [hx,hy,eqGuard,binOp,Op.intBits,ne_eq,vC,dB,bt,bU];rfl):P:=h
theorem u7{P:Prop}(h:P:=by
 simp (maxSteps:=4000000) only [aB];simp):P:=h
theorem QE{P:Prop}(h:P:=by
 rw [uO] at h4;rw [pz] at h4 ib
 cases hq:listed[j]? with
 | none=>rw [hq] at h4; cases h4
 | some q=>rw [hq] at h4 ib; simp only [gZ] at h4 ib; rw [h4] at ib; cases ib):P:=h
theorem afA{P:Prop}(h:P:=by
 intro i k ju hk
 induction k with
 | zero=>omega
 | succ k ih =>
  have h1:=MD h hk;unfold mS at h1;simp only [au,gz,aI] at h1;have h2:(l.getD k Tc.aq.aa).box<(l.getD (k+1) Tc.aq.aa).box:=by
   rcases h1.1.2 with h2|h2
   . omega
   . simpa using h2
  by_cases he:i=k
  . subst he; exact h2
  . have:=ih oo oo;omega):P:=h
theorem Bc{P:Prop}(h:P:=by
 conv=>arg 1; cbv
 simp (maxSteps:=4000000) only [aB]
 first|done|trivial):P:=h
theorem LJ{P:Prop}(h:P:=by
 conv=>arg 1; cbv
 simp (maxSteps:=4000000) only [aB];exact⟨oo,trivial⟩):P:=h
theorem LB{P:Prop}(h:P:=by
 conv=>arg 1; cbv
 simp (maxSteps:=4000000) only [aB];exact⟨trivial,trivial⟩):P:=h
theorem Tw{P:Prop}(h:P:=by
 rw [hT,C1,CZ,Tu,Tv];refine⟨by rw [ac1]; simp only [c9,fE]; omega,⟨oo,oo⟩,⟨oo,oo⟩,oo,rfl,rfl⟩):P:=h
theorem Gd{P:Prop}(h:P:=by
 go_enter Tryz.func353,Tryz.ntmps353
 go_wp2
 go_ret2
 exact⟨by rw [E.out,E2.out]; rfl,rfl⟩):P:=h
theorem abz{P:Prop}(h:P:=by
 conv=>arg 1; cbv
 simp (maxSteps:=4000000) only [aB];rcases aoT l id with ⟨h1,h2⟩|⟨k,h1,h2,h3⟩
 . simp only [h2];refine⟨hl,fun _ => ?_,fun g=>absurd h1 g⟩;simp [Sa,r5,ic]
 . simp only [h1,h3,dV];refine⟨hl,fun g=>oo,fun g => ?_⟩;simp;omega):P:=h
theorem Ww{P:Prop}(h:P:=by
 unfold execOp;simp only [resolve,invoke,builtin,Builtin.len_,DD,kX,vE,hx,underlying,bt,bU,bM];simp only [ht,Dy,oH,bt,bU,bM,m5];rfl):P:=h
theorem VH{P:Prop}(h:P:=by
 rcases bC.1.2 with ⟨h2,h3⟩|⟨g,cap,cur,h2,_,_,lW,_⟩
 . rw [h2];simp [Builtin.append_,ql ht,sizeOf,typeInfo,hi,Builtin.lenOf,Builtin.firstCells]
 . rw [h2];simp [Builtin.append_,ql ht,sizeOf,typeInfo,hi,Builtin.lenOf,Builtin.firstCells,lW,storeCells]):P:=h
theorem ae7{P:Prop}(h:P:=by
 conv=>arg 1; cbv
 simp (maxSteps:=4000000) only [aB,aR,aS,bw];refine⟨fun g=>⟨⟨oo,oo⟩,fun c => ?_,fun c => ?_⟩,fun g => ?_⟩
 . exact (Sc cg oo c).symm
 . exact Uv hl oo cg c
 . exact (Sd cg oo).symm):P:=h
theorem Of{P:Prop}(h:P:=by
 subst hv hz;unfold execOp;simp only [hx,hy,eqGuard,binOp,Op.intArith,ne_eq,vC,dB,bt,bU];rfl):P:=h
theorem acB{P:Prop}(h:P:=by
 unfold cJ;rw [ba,Bf,ar (by rw [c6]; omega),Bf,aw (by rw [c6]; omega),c6,show min a l.length=a from oo,bp oo];rfl):P:=h
theorem Xj{P:Prop}(h:P:=by
 refine⟨by simp [h.1],fun j x v hx hv => ?_⟩;rw [gY] at hx
 cases hj:l[j]? with
 | none=>rw [hj] at hx; cases hx
 | some y =>
  rw [hj] at hx;simp only [dv,bI] at hx;subst hx;exact (h.2 j y v hj hv).uz):P:=h
theorem xf{P:Prop}(h:P:=by
 rw [eI]; omega):P:=h
theorem SC{P:Prop}(h:P:=by
 simp (maxSteps:=4000000) only [aB];refine (hS (hA ?_)).symm;unfold nD;generalize s.dh.getD m Tc.e9.aa=x at *
 grind):P:=h
theorem L4{P:Prop}(h:P:=by
 conv=>arg 1; cbv
 simp (maxSteps:=4000000) only [aB,aR,aS,bw]):P:=h
theorem acT{P:Prop}(h:P:=by
 simp (maxSteps:=4000000) only [aB];refine⟨⟨⟨az _,oo,az _⟩,.inl trivial,.inl trivial⟩,?_⟩
 first|exact⟨oo,oo⟩|exact⟨oo,trivial⟩|exact⟨trivial,trivial⟩):P:=h
theorem R8{P:Prop}(h:P:=by
 go_wp2
 go_ret
 exact⟨by rw [HE.out]; rfl,cA _ _⟩):P:=h
theorem Ts{P:Prop}(h:P:=by
 simp only [wV,gV,dV,kX,vE,eW,GF];exact⟨oo,oo⟩):P:=h
theorem Qw{P:Prop}(h:P:=by
 have hm:bF 999999999 (cb C)=false:=by simpa [kD] using h
 unfold Cc;dsimp only;rw [Qv hm]):P:=h
theorem yx{P:Prop}(h:P:=by
 simpa [AV.under] using hx):P:=h
theorem Ge{P:Prop}(h:P:=by
 go_wp2
 go_ret
 exact⟨by rw [HL.out,HD.out]; rfl,rfl⟩):P:=h
theorem CV{P:Prop}(h:P:=by
 exact s _ _ oo oo oo):P:=h
theorem PS{P:Prop}(h:P:=by
 rcases cw loc S.n with h|h
 . exact h
 . have:=H.fresh loc h; rw [hA] at this; cases this):P:=h
theorem aa1{P:Prop}(h:P:=by
 split at h
 case h_2=>cases h
 simp only [lK,bI] at h;obtain⟨a,e0,b,e1,rfl⟩:=h;obtain rfl:=A.ok e0;obtain rfl:=B.ok e1;exact⟨a (),b (),rfl,rfl⟩):P:=h
theorem Jf{P:Prop}(h:P:=by
 simp [Op.operands,Call.operands]):P:=h
theorem Aj{P:Prop}(h:P:=by
 simpa [AV.under] using hu):P:=h
theorem Zl{P:Prop}(h:P:=by
 obtain⟨S0,S3,r,k1,k2,k3,k4,k5⟩:=q1 m o' (by simpa using hm);rw [show i+1+m=i+(m+1) from oo] at k1 k2;exact⟨S0,S3,r,k1,k2,by rw [k3,jO.1,jN],k4,by simpa using k5⟩):P:=h
theorem W6{P:Prop}(h:P:=by
 generalize i.ti=ti at hm ha;cases ti<;>first|exact absurd ha Bool.false_ne_true|exact absurd ha.symm Bool.false_ne_true|(cases ds<;>first|rfl|simp [jH] at hm)):P:=h
theorem ad6{P:Prop}(h:P:=by
 unfold mo;by_cases h:x<y
 . rw [aw h]; exact⟨fun _=>h,fun _=>by decide⟩
 . rw [ar h];exact⟨fun h2=>by split at h2<;>omega,fun h2=>absurd h2 h⟩):P:=h
theorem Sn{P:Prop}(h:P:=by
 rw [h3];clear h3
 go_enter Tryz.func75,Tryz.ntmps75
 go_wp2
 go_ret
 exact⟨rfl,rfl⟩):P:=h
theorem So{P:Prop}(h:P:=by
 rw [h3];clear h3
 go_enter Tryz.func67,Tryz.ntmps67
 go_wp2
 go_ret
 exact⟨rfl,rfl⟩):P:=h
theorem JT{P:Prop}(h:P:=by
 simp only [au]; exact fun h=>h.1):P:=h
theorem aa0{P:Prop}(h:P:=by
 split at h
 case h_2=>cases h
 simp only [lK,bI] at h;obtain⟨a,e0,rfl⟩:=h;obtain rfl:=A.ok e0;exact⟨a (),rfl,rfl⟩):P:=h
theorem acJ{P:Prop}(h:P:=by
 rw [ba,yY oo oo oo];split
 . rw [ba]
 . split<;>rw [ba]):P:=h
theorem acR{P:Prop}(h:P:=by
 simp (maxSteps:=4000000) only [aB];exact⟨⟨⟨az _,oo,az _⟩,fun k q1 q2=>oo,fun k q1 q2=>oo⟩,trivial,trivial⟩):P:=h
theorem WC{P:Prop}(h:P:=by
 rw [dx,dy] at ih;by_cases mP:x=y
 . subst mP;simp only [qm,gA,dS,dB,ih,sB,aR]
 . simp [mP]):P:=h
theorem aaG{P:Prop}(h:P:=by
 obtain⟨g,S',hg,H',hc⟩:=hq
 cases g with
 | zero=>unfold lB at hc; exact hc.elim
 | succ g=>unfold lB at hc; exact⟨g,S',oo,H',hc⟩):P:=h
theorem agk{P:Prop}(h:P:=by
 rename_i c;have h1:=Int.mul_le_mul_of_nonneg_left (show (1:Int)<=(fX l k).length from oo) (show (0:Int)<=(eF l k).1 from oo);dsimp only;omega):P:=h
theorem XX{P:Prop}(h:P:=by
 show ak (pN ks S.t) d=none
 cases hp:ak (pN ks S.t) d with
 | none=>rfl
 | some y=>have:=EN hp; rw [H.jL d x h] at this; cases this):P:=h
theorem acF{P:Prop}(h:P:=by
 apply vG;intro i;rw [ru,ru,Bf];simp only [mZ,c6];grind):P:=h
theorem Kn{P:Prop}(h:P:=by
 exact ih h5 (fun c hc=>hv c (.tail _ hc)) hb.2 l e he):P:=h
theorem VZ{P:Prop}(h:P:=by
 rename_i h3;rw [zA _ _ _ hd];congr 2;rw [ep,eq];simp only [dS,dB];rw [Int.natCast_sub oo];push_cast;grind):P:=h
theorem Fb{P:Prop}(h:P:=by
 simpa only [AV.under] using hu):P:=h
theorem EA{P:Prop}(h:P:=by
 split at h<;>first|(cases h; rfl)|cases h):P:=h
theorem Yu{P:Prop}(h:P:=by
 unfold execOp;simp only [resolve,invoke,builtin,bt,bU,bM,DD,kX,vE,h]):P:=h
theorem Xh{P:Prop}(h:P:=by
 simp only [xU] at h;split at h
 . obtain⟨vs,rfl,hE⟩:=hx.oS;obtain⟨h1,h2⟩:=I7 h hE;exact⟨by rw [h1]; rfl,h2⟩
 . cases h):P:=h
theorem FJ{P:Prop}(h:P:=by
 simpa only [AV.qC] using hx):P:=h
theorem XG{P:Prop}(h:P:=by
 split at h
 . rename_i hf;injection h with h;subst h;exact⟨aC _ (.head _),eq_of_beq hf⟩
 . exact ih (fun c hc=>aC c (.tail _ hc)) h):P:=h
theorem WO{P:Prop}(h:P:=by
 subst hv hz;unfold execOp;simp only [hx,hy,eqGuard,binOp,Op.intDiv,hn,ne_eq,vC,dB,bt,bU];rfl):P:=h
theorem XA{P:Prop}(h:P:=by
 cases hf:zK kk k 0 _ with
 | none=>rw [hf] at h; cases h
 | some f=>rw [hf] at h; cases h; exact⟨_,Xw hf hE fP hm,.int _ _⟩):P:=h
theorem WX{P:Prop}(h:P:=by
 refine⟨_,(ajb hx hy).trans (by simp only [Op.stringOp,bU,bM]; rfl),?_⟩;rw [toList_inj];exact .bool _):P:=h
theorem SP{P:Prop}(h:P:=by
 go_ret
 exact⟨A4,c4,by simp,by simpa using SN,CS.out.trans SO⟩):P:=h
theorem XB{P:Prop}(h:P:=by
 cases hf:zL k 0 _ with
 | none=>rw [hf] at h; cases h
 | some f=>rw [hf] at h; cases h; exact⟨_,Xy hf hE fP hm,.bool _⟩):P:=h
theorem Bx{P:Prop}(h:P:=by
 simpa using aj):P:=h
theorem Zm{P:Prop}(h:P:=by
 intro o ho d' pD;rcases fZ.1 ho with rfl|ho
 . rw [hd] at pD; cases pD; exact alo gH
 . exact ih o ho d' pD):P:=h
theorem Q1{P:Prop}(h:P:=by
 cases base with
 | none=>exact hb 0 _
 | some a=>exact hc a len elem _):P:=h
theorem SM{P:Prop}(h:P:=by
 go_wp2
 go_ret
 exact⟨none,0,rfl,cy.nil _ _ _ _,cA _ _⟩):P:=h
theorem ae5{P:Prop}(h:P:=by
 conv=>arg 1; cbv
 simp (maxSteps:=4000000) only [aB,aR,aS,bw]
 first|done|trivial|exact⟨trivial,rfl⟩|rfl):P:=h
theorem V0{P:Prop}(h:P:=by
 rename_i h3;rw [zA _ _ _ hd];congr 2;rw [ep,eq];simp only [eH];rw [Int.natCast_sub oo];push_cast;grind):P:=h
theorem U8{P:Prop}(h:P:=by
 exact⟨k.symm,cz z1 (cz z2 (cz z3 (cz z4 (cz z5 z6.symm))))⟩):P:=h
theorem afr{P:Prop}(h:P:=by
 rw [dK] at this;have:=this x hx;unfold nD at this;simp only [au] at this;exact this.2.2):P:=h
theorem aey{P:Prop}(h:P:=by
 cases h;refine⟨[],?_⟩
 conv=>arg 1; cbv
 simp (maxSteps:=4000000) only [aB]
 first|trivial|exact⟨rfl,rfl⟩|rfl):P:=h
theorem II{P:Prop}(h:P:=by
 simpa only [AV.plain] using hx):P:=h
theorem Ke{P:Prop}(h:P:=by
 simpa only [AV.under] using hx):P:=h
theorem abo{P:Prop}(h:P:=by
 go_wp2
 go_ret
 exact⟨by rw [abn.out]; rfl,Lf.out.trans ((hb.trans (hC.mono hb.size)).mono Lf.out.size)⟩):P:=h
theorem Yn{P:Prop}(h:P:=by
 unfold execOp;simp only [Instr.storeAt,Instr.sureAddr,mG,bt,bU,bM,cB]):P:=h
theorem zF{P:Prop}(h:P:=by
 simpa using hy):P:=h
theorem Kh{P:Prop}(h:P:=by
 simpa only [AV.pM] using hx):P:=h
theorem XL{P:Prop}(h:P:=by
 unfold execOp;simp only [he,Op.unary,Op.intArith,bt,bU,bM,Int.zero_sub]):P:=h
theorem Zr{P:Prop}(h:P:=by
 unfold LL at hq;rw [pz,pA oo] at hq ⊢;exact hq):P:=h
theorem LV{P:Prop}(h:P:=by
 rw [gw h,fG]; omega):P:=h
theorem ae9{P:Prop}(h:P:=by
 conv=>arg 1; cbv
 simp (maxSteps:=4000000) only [aB,aR,aS,bw];exact⟨hp,abF _ _⟩):P:=h
theorem IH{P:Prop}(h:P:=by
 simpa only [AV.has] using hx):P:=h
theorem W4{P:Prop}(h:P:=by
 simp only [ji e1 hx,ji e2 hy,eqGuard,binOp,Op.shift,h1,dB,bt,bU];rfl):P:=h
theorem Wg{P:Prop}(h:P:=by
 refine bodyPost_ret (results_none rfl _ _ _) rfl ?_;exact⟨⟨_,rfl⟩,.inr ⟨_,trivial,We⟩⟩):P:=h
theorem Qe{P:Prop}(h:P:=by
 exact .inl ⟨_,_,o6,S0,hS,_,_,H2.put hp (.un _)⟩):P:=h
theorem Xl{P:Prop}(h:P:=by
 unfold zeroValue;simp only [typeInfo,bt,bU,bM,m5,hj,hz]):P:=h
theorem aeA{P:Prop}(h:P:=by
 rw [M4];intro x hx Hy;have:=dK.1 h x hx;rw [Hy] at this;cases this):P:=h
theorem Ym{P:Prop}(h:P:=by
 rcases cw loc S.n with h|h
 . exact h
 . have:=H.fresh loc h; rw [hb] at this; cases this):P:=h
theorem YP{P:Prop}(h:P:=by
 rw [oq] at h3;have h4:((c*b:Nat):Int)<=281474976710656:=by rw [Nk]; exact h3
 omega):P:=h
theorem aaO{P:Prop}(h:P:=by
 unfold dH at hx;dsimp only at hx;split at hx
 . rename_i y hy; rw [hy,hx]
 . simp [ak] at hx):P:=h
theorem aaP{P:Prop}(h:P:=by
 unfold bc at he;dsimp only at he;split at he
 . rename_i y hy; rw [hy,he]
 . simp [ak] at he):P:=h
theorem ae3{P:Prop}(h:P:=by
 conv=>arg 1; cbv
 simp (maxSteps:=4000000) only [aB];unfold jV;by_cases h:low<=n<;>simp [h]):P:=h
theorem V3{P:Prop}(h:P:=by
 rw [bp (by rw [eI]; exact xB)] at hn;injection hn with hn;rw [hn]):P:=h
theorem XT{P:Prop}(h:P:=by
 rintro rfl
 rcases EH with EH|EH
 . exact EH b k2
 . have:=EH l _ h0; simp [oX] at this):P:=h
theorem Q0{P:Prop}(h:P:=by
 split
 . exact cI.pure _
 . exact (wO _).o9):P:=h
theorem WY{P:Prop}(h:P:=by
 obtain⟨ds,hd,hm⟩:=m9 h;rw [hi] at hm;cases ds<;>first|exact hd|simp [jH] at hm):P:=h
theorem Jv{P:Prop}(h:P:=by
 rw [Ph]; exact hl):P:=h
theorem PO{P:Prop}(h:P:=by
 rw [sX hb]; exact Ext.refl _):P:=h
theorem J3{P:Prop}(h:P:=by
 rw [YE]; exact hl):P:=h
theorem Qf{P:Prop}(h:P:=by
 rw [sX hA]; exact Ext.refl _):P:=h
theorem ZS{P:Prop}(h:P:=by
 rw [eC] at hq ⊢;split at hq
 . rename_i aj; rw [aw aj]
 . cases hq):P:=h
theorem aaN{P:Prop}(h:P:=by
 cases hbo:fn.body with
 | none=>rw [hbo] at hb; cases hb
 | some code=>exact⟨code,rfl⟩):P:=h
theorem ZY{P:Prop}(h:P:=by
 refine cI.program.bind fun p => ?_;split
 . exact cI.pure _
 . exact (wO _).o9):P:=h
theorem IG{P:Prop}(h:P:=by
 simpa [Kc.ls] using ha):P:=h
theorem V6{P:Prop}(h:P:=by
 rw [gv,<- tX,jg,jg]):P:=h
theorem agw{P:Prop}(h:P:=by
 unfold mW Dj at h;simp only [au,aI] at h;exact h.1):P:=h
theorem Xx{P:Prop}(h:P:=by
 have:decide (k ()=(j:Int))=true:=by rw [aI,hk]; rfl
 rw [this,hv];rfl):P:=h
theorem S7{P:Prop}(h:P:=by
 exact sa _ _ oo oo oo):P:=h
theorem S8{P:Prop}(h:P:=by
 exact sb _ _ oo oo oo):P:=h
theorem aew{P:Prop}(h:P:=by
 exact⟨⟨by decide,by decide⟩,⟨by decide,by decide⟩,by decide,by decide⟩):P:=h
theorem aaa{P:Prop}(h:P:=by
 rcases cw l S'.n with h|h
 . exact h
 . rw [HR.fresh l h] at q3; cases q3):P:=h
theorem aaI{P:Prop}(h:P:=by
 rw [List.mapM_cons];simp only [bt,bU,bM,hO,h1]):P:=h
theorem Fi{P:Prop}(h:P:=by
 simpa using eo):P:=h
theorem Yw{P:Prop}(h:P:=by
 exact .inl ⟨_,_,o6,S0,hS,_,_,H2.put hp (.own _ _ _ _ (iL _ _ _))⟩):P:=h
theorem abr{P:Prop}(h:P:=by
 go_enter Tryz.func302,Tryz.ntmps302
 go_wp2
 go_ret
 exact⟨rfl,cA _ _⟩):P:=h
theorem Z4{P:Prop}(h:P:=by
 rw [bU] at hr; injection hr with h1 h2; exact⟨h2.symm,_,h1.symm⟩):P:=h
theorem ya{P:Prop}(h:P:=by
 simp [Op.operands]):P:=h
theorem JU{P:Prop}(h:P:=by
 simp only [au]; exact fun h=>h.2):P:=h
theorem ac3{P:Prop}(h:P:=by
 have nT:∀ y ∈ [x.half],1<=y/\y<=2:=by simp [gh]
 have GB:([x.half]).length<=2:=by simp
 generalize [x.half]=hs at *
 exact s_3):P:=h
theorem R9{P:Prop}(h:P:=by
 go_enter Tryz.func303,Tryz.ntmps303
 exact R8):P:=h
end Go.Proofs.YtlpikgchnjajmaaGreat
