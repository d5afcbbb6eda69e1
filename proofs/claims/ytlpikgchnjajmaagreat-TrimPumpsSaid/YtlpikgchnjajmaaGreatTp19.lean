/-
  Contracts of slot, stow and ship by the abstract run.
-/
import Derived.Test.YtlpikgchnjajmaaGreatTp18
set_option linter.all false
set_option maxRecDepth 100000
set_option maxHeartbeats 4000000
namespace Go.Proofs.YtlpikgchnjajmaaGreat
open Go.RowKit
variable{t:Int}{l:List Int}{base i j k:Nat}{α:Type}
theorem yR{l:List α}(d)(h:k<l.length):l.take (k+1)=l.take k ++ [l.getD k d]:=by
 rw [MY h,ba,bp h,gZ]
theorem lG{l:List α}(d)(h:k<l.length):l.getD k d∈l:=by
 rw [ba,bp h,gZ];exact mj h
theorem Sv{p : α->Bool}{l:List α}{d : α}(hk:k<l.length)(h:p (l.getD k d)=false):l.all p=false:=by
 rw [List.all_eq_false];exact⟨_,lG d hk,by rw [h]; simp⟩
theorem Lr{p : α->Bool}{l:List α}{d : α}(h0:(l.take k).all p=true)(hk:k<l.length)(h:p (l.getD k d)=true):(l.take (k+1)).all p=true:=by
 rw [yR d hk,List.all_append,h0];simp [h,-List.getD_eq_getElem?_getD]
theorem Sw{p : α->Bool}{l:List α}(h0:(l.take k).all p=true)(hk:l.length<=k):l.all p=true:=by rwa [lL hk] at h0
def abT:aH:=dU 309 u1 (fun _=>True) (fun s => .sl true .u8 fun _=>l8 (s ()))
theorem apw:aK Tryz.prog abT:=by
 refine cd [] trivial Tryz.func309 (by kernel_rfl) fun ai res h hp => ?_;obtain⟨(s:Int),rfl,rfl⟩:=eu h;clear h;refine⟨[],?_⟩
 conv=>arg 1; cbv
 simp (maxSteps:=4000000) only [aB];unfold l8;grind
def abU:aH:=dU 242 u2 (fun l=>(l ()).length<=1000000) (fun l => .sl true .slot fun _=>(l ()).map fC)
def apx(l:List ay):Lp where
 X:=Nat
 ov k := [(8,.int .i64 fun _=>(k:Int)),(3,.own 0)]
 oe k := [(0,.row true .slot 96 fun _=>(l.take k).map fC)]
 I k:=k<=l.length
 μ k _:=l.length - k
 x0:=0
 nx:=some fun k=>k+1
theorem apy:aK Tryz.prog abU:=by
 refine cd [] trivial Tryz.func242 (by kernel_rfl) fun ai res h hp => ?_;obtain⟨(l:List ay),rfl,rfl⟩:=eu h;clear h;have hl:l.length<=1000000:=hp;refine⟨[(3,apx l)],?_⟩
 conv=>arg 1; cbv
 refine⟨?_,fun (k:Nat) hk => ?_⟩
 . exact xb
 . conv=>arg 1; cbv
   have fP:k<=l.length:=hk;simp (maxSteps:=4000000) only [aB];refine⟨fun h => ?_,fun h=>by rw [lL oo]⟩;have h2:k<l.length:=oo
   refine⟨oo,by simp; omega,⟨oo,oo⟩,⟨oo,oo⟩,oo,?_⟩;rw [yR Tc.aq.aa h2,sC];rfl
def tp(cs:List dp)(bs:List aJ)(l:List ay)(c:Int):Bool:=decide ((cs.getD c.toNat Tc.ax.aa).mq<=0)||decide (fB bs l c 1<=(cs.getD c.toNat Tc.ax.aa).mq)&&decide (fB bs l c 2<=(cs.getD c.toNat Tc.ax.aa).mq)
def abV:aH:=uY 247 ou pZ u2 kI (fun s bs l c=>(bs ()).length<=1000000000000/\(l ()).length<=1000000/\0<=c ()/\c ()<((s ()).aE.length:Int)) (fun s bs l c => .bool fun _=>tp (s ()).aE (bs ()) (l ()) (c ()))
theorem apz:aK Tryz.prog abV:=by
 refine cd [abM] ⟨apb,trivial⟩ Tryz.func247 (by kernel_rfl) fun ai res h hp => ?_;obtain⟨(s:aZ),(bs:List aJ),(l:List ay),(c:Int),rfl,rfl⟩:=yN h;clear h;have dZ:bs.length<=1000000000000/\l.length<=1000000/\0<=c/\c<(s.aE.length:Int):=hp;have h1:=dZ.1;have h2:=dZ.2.1;have h3:=dZ.2.2.1;have h4:=dZ.2.2.2;refine⟨[],?_⟩
 conv=>arg 1; cbv
 simp (maxSteps:=4000000) only [aB];unfold tp;generalize s.aE.getD c.toNat Tc.ax.aa=x at *
 grind
def r9(cs:List dp)(x:Slot)(size:Int):Bool:=decide (0<=x.ax)&&(decide (x.ax<cs.length)&&(decide (0<=x.aF)&&(decide (x.aF<(cs.getD x.ax.toNat Tc.ax.aa).cW)&&(l8 size).any fun y=>decide (x.half=y))))
theorem Sy(s):(l8 s).length<=2:=by unfold l8; split<;>(try split)<;>simp
def abW:aH:=lE 244 ou CL u1 (fun _ _ _=>True) (fun s x z => .bool fun _=>r9 (s ()).aE (x ()) (z ()))
theorem apA:aK Tryz.prog abW:=by
 refine cd [abT,abR] ⟨apw,apt,trivial⟩ Tryz.func244 (by kernel_rfl) fun ai res h hp => ?_;obtain⟨(s:aZ),(x:Slot),(z:Int),rfl,rfl⟩:=mO h;clear h;refine⟨[],?_⟩;have hh:=Sy z
 conv=>arg 1; cbv
 simp (maxSteps:=4000000) only [aB];unfold r9;generalize s.aE.getD x.ax.toNat Tc.ax.aa=c at *
 generalize l8 z=hs at *
 grind
def nB(x:vV):Bool:=decide (x.low<=x.n)&&decide (x.n<=x.high)
def Sz:aH:=dU 261 anJ (fun l=>(l ()).length<=1000000000000) (fun l => .bool fun _=>(l ()).all nB)
def apB(l:List vV):Lp where
 X:=Nat
 ov k := [(7,.int .i64 fun _=>(k:Int))]
 oe _ := []
 I k:=k<=l.length/\(l.take k).all nB=true
 μ k _:=l.length - k
 x0:=0
 nx:=some fun k=>k+1
theorem abX:aK Tryz.prog Sz:=by
 refine cd [] trivial Tryz.func261 (by kernel_rfl) fun ai res h hp => ?_;obtain⟨(l:List vV),rfl,rfl⟩:=eu h;clear h;have hl:l.length<=1000000000000:=hp;refine⟨[(2,apB l)],?_⟩
 conv=>arg 1; cbv
 refine⟨?_,fun (k:Nat) hk => ?_⟩
 . exact u7
 . conv=>arg 1; cbv
   have cR:k<=l.length/\(l.take k).all nB=true:=hk;have cZ:=cR.1;have cg:=cR.2;simp (maxSteps:=4000000) only [aB];refine⟨fun h => ?_,fun h=>(Sw cg oo).symm⟩;have h2:k<l.length:=oo
   have ha:=Sv (p:=nB) (d:=Tc.pE.aa) h2;have hb:=Lr (d:=Tc.pE.aa) cg h2;generalize l.getD k Tc.pE.aa=x at *
   unfold nB at *
   simp only [aY];grind
def sd(c:dp):List vV := [⟨c.cV,0,39⟩,⟨c.row,0,30⟩,⟨c.cW,1,10⟩,⟨c.mq,0,40000⟩,⟨c.xG,0,500000000⟩,⟨c.xH,0,500000000⟩,⟨c.xI,0,1000000000000⟩,⟨c.x,-500000,500000⟩,⟨c.y,-500000,500000⟩,⟨c.z,-500000,500000⟩]
def qU(t:Int)(l:List Int)(i:Nat):Bool:=decide (0<=l.getD i 0)&&decide (l.getD i 0<=t)&&(decide (i=0)||decide (l.getD (i - 1) 0<l.getD i 0))
def l9(t:Int)(l:List Int):Bool:=decide (∀ i,i<l.length->qU t l i=true)
def jQ(c:dp):Bool:=l9 (c.cW - 1) c.fS&&(sd c).all nB
theorem abY(hk:k<l.length)(h:qU t l k=false):l9 t l=false:=by
 unfold l9;rw [fR];intro h2;rw [h2 k hk] at h;cases h
theorem abZ(hk:l.length<=k)(h:∀ j,j<k->qU t l j=true):l9 t l=true:=by
 unfold l9;rw [aI];exact fun i hi=>h i oo
def apC:aH:=dU 165 R0 (fun c=>(c ()).fS.length<=1000000000000/\aY ((c ()).cW - 1)) (fun c => .bool fun _=>jQ (c ()))
def apD(c:dp):Lp where
 X:=Nat
 ov k := [(9,.int .i64 fun _=>(k:Int))]
 oe _ := []
 I k:=k<=c.fS.length/\∀ j,j<k->qU (c.cW - 1) c.fS j=true
 μ k _:=c.fS.length - k
 x0:=0
 nx:=some fun k=>k+1
theorem ab0:aK Tryz.prog apC:=by
 refine cd [Sz] ⟨abX,trivial⟩ Tryz.func165 (by kernel_rfl) fun ai res h hp => ?_;obtain⟨(c:dp),rfl,rfl⟩:=eu h;clear h;have dZ:c.fS.length<=1000000000000/\aY (c.cW - 1):=hp;have h1:=dZ.1;have h2:=dZ.2;refine⟨[(3,apD c)],?_⟩
 conv=>arg 1; cbv
 refine⟨?_,fun (k:Nat) hk => ?_⟩
 . exact u7
 . conv=>arg 1; cbv
   have cR:k<=c.fS.length/\∀ j,j<k->qU (c.cW - 1) c.fS j=true:=hk;have cZ:=cR.1;have cg:=cR.2;simp (maxSteps:=4000000) only [aB];refine⟨fun h => ?_,fun h => ?_⟩
   . have h3:k<c.fS.length:=oo
     have ha:=abY (t:=c.cW - 1) h3;have hb:=wZ (k:=k) cg;have hc:jQ c=(l9 (c.cW - 1) c.fS&&(sd c).all nB):=rfl;have he:qU (c.cW - 1) c.fS k=((decide (0<=c.fS.getD k Tc.int.aa)&&decide (c.fS.getD k Tc.int.aa<=c.cW - 1))&&(decide (k=0)||decide (c.fS.getD (k - 1) Tc.int.aa<c.fS.getD k Tc.int.aa))):=rfl;generalize c.fS.getD k Tc.int.aa=x at *
     generalize c.fS.getD (k - 1) Tc.int.aa=y at *
     rw [hc];clear hc cg;generalize qU (c.cW - 1) c.fS=R at *
     generalize (sd c).all nB=z at *
     simp only [aY,nB,H9,List.all_nil,ga,c9,fE] at *
     grind
   . have hc:jQ c=(sd c).all nB:=by unfold jQ; rw [abZ oo cg,dL]
     rw [hc];exact⟨by simp,rfl⟩
def ab1:aH:=⟨165,[],fun
 | [.agg [.int .i64 a,.int .i64 b,.bool d,.lit .i64 n,.int .i64 h,.int .i64 i,.int .i64 j,.int .i64 k,.sl false .int l,.int .i64 x,.int .i64 y,.int .i64 z]]=>if n = -9223372036854775808 then some ⟨fun _=>(l ()).length<=1000000000000,.bool fun _=>false⟩ else none
 | _=>none⟩
def apE(l:List Int):Lp where
 X:=Nat
 ov k := [(9,.int .i64 fun _=>(k:Int))]
 oe _ := []
 I k:=k<=l.length
 μ k _:=l.length - k
 x0:=0
 nx:=some fun k=>k+1
theorem apF:aK Tryz.prog ab1:=by
 refine cd [Sz] ⟨abX,trivial⟩ Tryz.func165 (by kernel_rfl) fun ai res h hp => ?_;simp only [ab1] at h;split at h
 case h_2=>cases h
 rename_i a b d n hh i j k l x y z;split at h
 case isFalse=>cases h
 rename_i hn;subst hn;cases h;obtain⟨l,rfl⟩:=eta (α:=List Int) l;have hl:l.length<=1000000000000:=hp;refine⟨[(3,apE l)],?_⟩
 conv=>arg 1; cbv
 refine⟨?_,fun (k:Nat) hk => ?_⟩
 . exact u7
 have cZ:k<=l.length:=hk;refine fm ?_;have hN:k<l.length->aY ((k:Int)+1)/\(k+1<=l.length/\l.length - (k+1)<l.length - k)/\(k:Int)+1=((k+1:Nat):Int):=fun h=>⟨ii,⟨oo,oo⟩,oo⟩
 exact⟨fun g=>⟨⟨oo,oo⟩,by simp,fun _=>trivial,fun _=>⟨fun g1=>⟨ii,⟨oo,oo⟩,fun _=>trivial,fun _=>hN oo⟩,fun g1=>hN oo⟩⟩,fun g=>⟨by simp,by simp [nB]⟩⟩
theorem apG{w:World}{ρ:Nat->Option Rl}{ro:Nat->Prop}{l:List AV}{vs:List Value}{k:IntKind}{n:Unit->Int}(h:aQ w ρ base ro l vs)(hi:l[i]? = some (.int k n)):aQ w ρ base ro (l.set i (.lit k (n ()))) vs:=by
 refine⟨by rw [mZ]; exact h.1,fun j x v h1 h2 => ?_⟩;rw [ru] at h1;split at h1
 . rename_i e;subst e;split at h1
   . cases h1;rw [(h.2 i _ v hi h2).iA];exact .lit _ _
   . cases h1
 . exact h.2 j x v h1 h2
def ab2:aH:=dU 165 R0 (fun c=>(c ()).fS.length<=1000000000000/\aY (c ()).cW) (fun c => .bool fun _=>jQ (c ()))
theorem apH:aK Tryz.prog ab2:=by
 refine⟨ab0.1,fun ai res h w ra dt aj hE hp => ?_⟩;obtain⟨(c:dp),rfl,rfl⟩:=eu h;clear h;have cf:c.fS.length<=1000000000000/\aY c.cW:=hp;by_cases ht:c.cW = -9223372036854775808
 . obtain⟨v,us,rfl,hv,h2⟩:=hE.head;obtain rfl:=h2.none;obtain⟨vs,rfl,h3⟩:=hv.oS;have h4:=apG (i:=3) h3 rfl;have hc:jQ c=false:=by
    unfold jQ sd nB;simp [ht]
   have h5:=apF.2 [.agg ((K3 fun _=>c).set 3 (.lit .i64 c.cW))] ⟨fun _=>c.fS.length<=1000000000000,.bool fun _=>false⟩ (aw ht) w ra [.agg vs.toArray] aj (.cons (.agg _ _ h4.1 h4.2) .nil) cf.1;rw [show (AV.bool fun _=>jQ ((fun _=>c) ()))=AV.bool fun _=>false by rw [hc]];exact h5
 . exact ab0.2 [.agg (K3 fun _=>c)] ⟨fun _=>c.fS.length<=1000000000000/\aY (c.cW - 1),.bool fun _=>jQ c⟩ rfl w ra dt aj hE ⟨cf.1,by have:=cf.2; simp only [aY] at this ⊢; omega⟩
def nC(ks:List (List Kx)):List Kx->Option Int:=fun k=>if ks.count k=0 then none else some (ks.count k)
theorem SA(ks)(k)(d)(h:d=0):(nC ks k).getD d=ks.count k:=by
 subst h;unfold nC;split
 . rename_i h; rw [h]; rfl
 . rfl
theorem ab3(ks)(k):fl (nC ks) k (ks.count k+1)=nC (ks ++ [k]):=by
 funext k';unfold fl nC;rw [List.count_append];by_cases h:k'=k
 . subst h;simp
 . rw [ar h];have:List.count k' [k]=0:=List.count_eq_zero.2 (by simpa using h);rw [this,kY]
theorem Gm(m)(k)(x y : α):fl (fl m k x) k y=fl m k y:=by
 funext k';unfold fl;by_cases h:k'=k<;>simp [h]
theorem Gn(m)(k)(x : α):fl m k x k=some x:=by unfold fl; rw [aw rfl]
def fK(c:dp):List Kx := [.i .i64 c.cV,.i .i64 c.row,.i .i64 (cond c.fv 1 0)]
def eQ(x:lg):List (List Kx):=x.rows.map fun r => [.i .i64 x.cV,.i .i64 r,.i .i64 2]
def nD(x:lg):Bool:=decide (0<=x.cV)&&decide (x.cV<40)&&(!decide (x.rows.length=0)&&l9 30 x.rows)
def vf(s:aZ):List (List Kx):=s.aE.map fK++s.dh.flatMap eQ
def gu(s:aZ):Bool:=decide (1<=s.aE.length)&&(decide (s.aE.length<=200)&&decide (s.dh.length<=40))&&(s.aE.all jQ&&(s.dh.all nD&&decide (vf s).Nodup))
theorem ab4(c):(⟨c.cV,c.row,c.fv,c.cW,c.mq,c.xG,c.xH,c.xI,c.fS,c.x,c.y,c.z⟩:dp)=c:=rfl
theorem apI{x:lg}(h:j<x.rows.length):(eQ x).take (j+1)=(eQ x).take j ++ [[Kx.i IntKind.i64 x.cV,Kx.i IntKind.i64 (x.rows.getD j Tc.int.aa),Kx.i IntKind.i64 2]]:=by
 unfold eQ;rw [<- Nt,<- Nt,yR Tc.int.aa h,sC];rfl
theorem ab5:∀ (l:List lg),(∀ y∈l,y.rows.length<=1000000000000)->(l.flatMap eQ).length<=l.length*1000000000000
 | [],_=>by simp
 | y::l,h=>by
  have e3:=h y (.head _);have e4:=ab5 l fun z hz=>h z (.tail _ hz);simp only [List.flatMap_cons,ej,c9,eQ,iQ] at e4 ⊢;omega
theorem ab6(key)(l:List (List Kx))(h:l.length<=1000000000000000):aY (l.count key+1):=by
 have:=List.count_le_length (a:=key) (l:=l);unfold aY;omega
theorem apJ{s:aZ}{key:List Kx}(h:key∈vf s):dG (Kc.arr 3 (Lk.int IntKind.i64)).ls key=true:=by
 unfold vf at h;rcases ku.1 h with h|h
 . obtain⟨c,_,rfl⟩:=iq.1 h;rfl
 . obtain⟨x,_,h⟩:=Vw.1 h;obtain⟨r,_,rfl⟩:=iq.1 h;rfl
def SB:aH:=dU 90 ou (fun s=>(∀ c∈(s ()).aE,c.fS.length<=1000000000000/\aY c.cW)/\∀ x∈(s ()).dh,x.rows.length<=1000000000000) (fun s => .bool fun _=>gu (s ()))
def apK(s:aZ):Lp where
 X:=Nat
 ov k := [(33,.int .i64 fun _=>(k:Int))]
 oe k := [(1,.map true false (.arr 3 (.int .i64)) .int 268 fun _=>nC ((s.aE.take k).map fK))]
 I k:=k<=s.aE.length/\(s.aE.take k).all jQ=true
 μ k _:=s.aE.length - k
 x0:=0
 nx:=some fun k=>k+1
def apL(s:aZ):Lp where
 X:=Nat
 ov k := [(57,.int .i64 fun _=>(k:Int))]
 oe k := [(1,.map true false (.arr 3 (.int .i64)) .int 268 fun _=>nC (s.aE.map fK++(s.dh.take k).flatMap eQ))]
 I k:=k<=s.dh.length/\(s.dh.take k).all nD=true
 μ k _:=s.dh.length - k
 x0:=0
 nx:=some fun k=>k+1
def apM(s:aZ)(k:Nat)(x:lg):Lp where
 X:=Nat
 ov j := [(78,.int .i64 fun _=>(j:Int))]
 oe j := [(1,.map true false (.arr 3 (.int .i64)) .int 268 fun _=>nC (s.aE.map fK++(s.dh.take k).flatMap eQ++(eQ x).take j))]
 I j:=j<=x.rows.length/\∀ i,i<j->qU 30 x.rows i=true
 μ j _:=x.rows.length - j
 x0:=0
 nx:=some fun j=>j+1
def apN(ks:List (List Kx))(n:Nat):Lp where
 X:=List (List Kx)×Nat
 ov _ := []
 oe p := [(2,.iter 1 (.arr 3 (.int .i64)) (fun _=>p.1) fun _=>p.2)]
 I p:=∀ key∈p.1,∀ x,nC ks key=some x->x<=1
 μ p _:=p.2
 x0:=([],n)
 nx:=none
theorem ab7:aK Tryz.prog SB:=by
 refine cd [ab2] ⟨apH,trivial⟩ Tryz.func90 (by kernel_rfl) fun ai res h hp => ?_;obtain⟨(s:aZ),rfl,rfl⟩:=eu h;clear h;have dZ:(∀ c∈s.aE,c.fS.length<=1000000000000/\aY c.cW)/\∀ x∈s.dh,x.rows.length<=1000000000000:=hp;have h1:=dZ.1;have h2:=dZ.2;refine⟨[(5,apK s),(15,apL s)],?_⟩
 conv=>arg 1; cbv
 refine⟨fun g1 => ?_,fun g1=>⟨fun g2 => ?_,fun g2=>⟨fun g3 => ?_,fun g3=>⟨?_,fun (k:Nat) hk => ?_⟩⟩⟩⟩
 . simp (maxSteps:=4000000) only [aB];simp only [aI] at g1;unfold gu;grind
 . simp (maxSteps:=4000000) only [aB];simp only [aI] at g2;unfold gu;grind
 . simp (maxSteps:=4000000) only [aB];simp only [aI] at g3;unfold gu;grind
 . simp (maxSteps:=4000000) only [aB];exact⟨⟨cm _,rfl⟩,rfl,rfl⟩
 simp only [fR,gV] at g1 g2 g3;have cR:k<=s.aE.length/\(s.aE.take k).all jQ=true:=hk;have cZ:=cR.1;have cg:=cR.2
 conv=>arg 1; cbv
 refine⟨fun g4 => ?_,fun g4 => ?_⟩
 . simp only [aI,gV] at g4;have aj:k<s.aE.length:=oo
   have gU:=lG Tc.ax.aa aj;have hZp:=h1 _ gU;have kf:=hZp.1;have jO:=hZp.2;simp (maxSteps:=4000000) only [aB];simp only [Gn,Gm,gZ,SA _ _ Tc.int.aa rfl];simp only [ab4];have hA:=Sv (p:=jQ) (d:=Tc.ax.aa) aj;have hB:=Lr (d:=Tc.ax.aa) cg aj;have hS:s.aE.all jQ=false->gu s=false:=fun h=>by unfold gu; rw [h]; simp
   have hC:∀ key,aY (((List.map fK (List.take k s.aE)).count key:Int)+1):=fun key=>ab6 key _ (by simp; omega);have hM:List.map fK (List.take (k+1) s.aE)=List.map fK (List.take k s.aE) ++ [fK (s.aE.getD k Tc.ax.aa)]:=by rw [yR Tc.ax.aa aj,sC]; rfl
   rw [hM,<- ab3];have yz:(s.aE.getD k Tc.ax.aa).fv=true->fK (s.aE.getD k Tc.ax.aa) = [Kx.i IntKind.i64 (s.aE.getD k Tc.ax.aa).cV,Kx.i IntKind.i64 (s.aE.getD k Tc.ax.aa).row,Kx.i IntKind.i64 1]:=fun h=>by unfold fK; rw [h]; rfl
   have yA:(s.aE.getD k Tc.ax.aa).fv=false->fK (s.aE.getD k Tc.ax.aa) = [Kx.i IntKind.i64 (s.aE.getD k Tc.ax.aa).cV,Kx.i IntKind.i64 (s.aE.getD k Tc.ax.aa).row,Kx.i IntKind.i64 0]:=fun h=>by unfold fK; rw [h]; rfl
   have axU:aY ((k:Int)+1):=⟨oo,oo⟩
   generalize s.aE.getD k Tc.ax.aa=c at *
   generalize List.map fK (List.take k s.aE)=L at *
   refine⟨⟨oo,g4⟩,fun hd => ?_,fun hd => ?_⟩
   . have hk:=yz hd;rw [<- hk];generalize fK c=key at *
     clear yz yA;grind
   . have hk:=yA hd;rw [<- hk];generalize fK c=key at *
     clear yz yA;grind
 have jJ:s.aE.length<=k:=by simp only [fR,gV] at g4; omega
 have apO:s.aE.all jQ=true:=Sw cg jJ;have iB:List.map fK (List.take k s.aE)=s.aE.map fK:=by rw [lL jJ]
 clear g4;refine⟨?_,fun (m:Nat) hm => ?_⟩
 . simp (maxSteps:=4000000) only [aB];rw [iB];refine⟨⟨cm _,rfl⟩,rfl,?_⟩;simp
 have ab9:m<=s.dh.length/\(s.dh.take m).all nD=true:=hm;have E5:=ab9.1;have J8:=ab9.2
 conv=>arg 1; cbv
 refine⟨fun g4 => ?_,fun g4 => ?_⟩
 . simp only [aI,gV] at g4;have aj:m<s.dh.length:=oo
   have gU:=lG Tc.e9.aa aj;have jO:=h2 _ gU;have hA:=Sv (p:=nD) (d:=Tc.e9.aa) aj;have hB:=Lr (d:=Tc.e9.aa) J8 aj;have hS:s.dh.all nD=false->gu s=false:=fun h=>by unfold gu; rw [h]; simp
   refine⟨⟨Vm m,g4⟩,fun g5 => ?_,fun g5=>⟨fun g6 => ?_,fun g6=>⟨fun g7 => ?_,fun g7 => ?_⟩⟩⟩
   all_goals simp only [aI,fR,gV,dV] at *
   . exact SC
   . exact SC
   . exact SC
   . refine cL (s.dh.getD m Tc.e9.aa) fun x hx => ?_;refine⟨apM s m x,?_⟩
     conv=>arg 1; cbv
     have uL:nD (s.dh.getD m Tc.e9.aa)=l9 30 (s.dh.getD m Tc.e9.aa).rows:=by
      unfold nD;grind
     rw [hx] at uL hA hB jO gU;refine⟨?_,fun (j:Nat) hj => ?_⟩
     . simp (maxSteps:=4000000) only [aB];refine⟨⟨cm _,by simp⟩,rfl,?_⟩;simp
     have yS:j<=x.rows.length/\∀ i,i<j->qU 30 x.rows i=true:=hj;have xN:=yS.1;have mu:=yS.2
     conv=>arg 1; cbv
     simp (maxSteps:=4000000) only [aB];rw [hx];simp only [Gn,Gm,gZ,SA _ _ Tc.int.aa rfl];have apP:aY ((m:Int)+1):=⟨oo,oo⟩
     refine⟨fun g8 => ?_,fun g8 => ?_⟩
     . have h8:j<x.rows.length:=oo
       have axV:aY ((j:Int)+1):=⟨oo,oo⟩
       have hC:∀ key,aY (((List.map fK s.aE++List.flatMap eQ (List.take m s.dh)++List.take j (eQ x)).count key:Int)+1):=fun key=>by
        refine ab6 key _ ?_;have e5:=ab5 (List.take m s.dh) fun y hy=>h2 y (vF hy);have e6:(List.take m s.dh).length<=40:=by rw [c6]; omega
        have e7:(List.take j (eQ x)).length<=1000000000000:=by
         rw [c6]; omega
        simp only [ej,iQ];omega
       rw [apI h8,<- gv,<- ab3];have ha:=abY (t:=30) h8;have hb:=wZ (k:=j) mu;have he:qU 30 x.rows j=((decide (0<=x.rows.getD j Tc.int.aa)&&decide (x.rows.getD j Tc.int.aa<=30))&&(decide (j=0)||decide (x.rows.getD (j - 1) Tc.int.aa<x.rows.getD j Tc.int.aa))):=rfl;generalize x.rows.getD j Tc.int.aa=u at *
       generalize x.rows.getD (j - 1) Tc.int.aa=v at *
       generalize List.map fK s.aE++List.flatMap eQ (List.take m s.dh)++List.take j (eQ x)=L at *
       generalize [Kx.i IntKind.i64 x.cV,Kx.i IntKind.i64 u,Kx.i IntKind.i64 2]=key at *
       generalize qU 30 x.rows=R at *
       generalize l9 30 x.rows=RR at *
       clear gU hx mu;have hjp:0<(j:Int)->aY ((j:Int) - 1):=fun h=>⟨oo,oo⟩
       grind
     . have h8:x.rows.length<=j:=oo
       have hr:=abZ h8 mu;rw [<- uL] at hr;have hT:(eQ x).take j=eQ x:=lL (by unfold eQ; rw [iQ]; exact h8);have hU:List.flatMap eQ (List.take (m+1) s.dh)=List.flatMap eQ (List.take m s.dh)++eQ x:=by
        rw [yR Tc.e9.aa aj,hx,Vq];simp
       rw [hT,hU,<- gv];exact⟨apP,⟨⟨aj,hB hr⟩,oo⟩,oo,rfl⟩
 . have Gp:s.dh.length<=m:=by simp only [fR,gV] at g4; omega
   have apQ:s.dh.all nD=true:=Sw J8 Gp;have hT:List.take m s.dh=s.dh:=lL Gp;clear g4;intro n _;refine cL (vf s) fun ks nk => ?_
   conv=>arg 1; cbv
   refine⟨apN ks n,?_⟩
   conv=>arg 1; cbv
   refine⟨?_,fun (p:List (List Kx)×Nat) hp => ?_⟩
   . exact u7
   have cf:∀ key∈p.1,∀ x,nC ks key=some x->x<=1:=hp;have SD:nC (List.map fK s.aE++List.flatMap eQ (List.take m s.dh))=nC ks:=by rw [hT,<- nk]; rfl
   conv=>arg 1; cbv
   refine⟨fun g5=>fun (u:Unit) hu => ?_,fun g5=>fun (q:List Kx×Nat) hq => ?_⟩
   . conv=>arg 1; cbv
     simp (maxSteps:=4000000) only [aB];have ub:∀ (key:List Kx) (x:Int),dG (Kc.arr 3 (Lk.int IntKind.i64)).ls key=true->nC (List.map fK s.aE++List.flatMap eQ (List.take m s.dh)) key=some x->key∈p.1:=hu;rw [SD] at ub;have iM:(vf s).Nodup:=by
      rw [List.nodup_iff_count];intro key;rcases zo (ks.count key) with h0|h0
      . rw [nk,h0]; omega
      . have mJ:key∈vf s:=by rw [nk]; exact List.count_pos_iff.1 h0
        have he:nC ks key=some (ks.count key:Int):=by unfold nC; rw [ar oo]
        have:=cf key (ub key _ (apJ mJ) he) _ he;rw [nk];omega
     unfold gu;rw [apO,apQ];simp only [iM,qm,ga];grind
   . have uT:dG (Kc.arr 3 (Lk.int IntKind.i64)).ls q.1=true/\(nC (List.map fK s.aE++List.flatMap eQ (List.take m s.dh)) q.1).isSome=true/\¬ q.1∈p.1/\q.2<p.2:=hq;have q1:=uT.1;have q2:=uT.2.1;have q3:=uT.2.2.1;have q4:=uT.2.2.2;rw [SD] at q2
     conv=>arg 1; cbv
     simp (maxSteps:=4000000) only [aB];simp only [SD,List.headD_cons,SA _ _ Tc.int.aa rfl];refine⟨by simp,fun h => ?_,fun h => ?_⟩
     . have iM:¬ (vf s).Nodup:=fun hn=>by
        have:=List.nodup_iff_count.1 hn q.1;rw [nk] at this;omega
       unfold gu;simp [iM]
     . refine⟨(q.1::p.1,q.2),⟨fun jj fP x hx => ?_,q4⟩,?_⟩
       . rcases fZ.1 fP with rfl|fP
         . unfold nC at hx;split at hx
           . cases hx
           . cases hx; omega
         . exact cf jj fP x hx
       . conv=>arg 1; cbv
         exact u7
end Go.Proofs.YtlpikgchnjajmaaGreat
