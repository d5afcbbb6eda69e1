/-
  twistlockref17 by the abstract run: which tanks and which water are right.
-/
import Derived.Test.YtlpikgchnjajmaaGreatTp33
set_option linter.all false
set_option maxRecDepth 100000
set_option maxHeartbeats 4000000
namespace Go.Proofs.YtlpikgchnjajmaaGreat
open Go.RowKit
variable{S t:Int}{s:Ld}{B i:Nat}{α:Type}{x:lg}
theorem tK(t):sx t=true↔((1<=t.af/\t.af<=500000000)/\(-500000<=t.x/\t.x<=500000)/\(-500000<=t.y/\t.y<=500000)/\(-500000<=t.z/\t.z<=500000)/\(0<=t.sL/\t.sL<=1000000000000)/\t.steps.length<=64)/\∀ j,j<t.steps.length->oE t j=true:=by
 have hA:=afa t;unfold sx;simp only [au,aI,iG,hA,List.any_cons,List.any_nil,fM,jZ,zd,jV,jY,Bool.decide_and];constructor
 . rintro⟨⟨a,b,c⟩,d,e,f,g⟩
   exact⟨⟨a,e,f,g,b,c⟩,d⟩
 . rintro⟨⟨a,e,f,g,b,c⟩,d⟩
   exact⟨⟨a,b,c⟩,d,e,f,g⟩
theorem lI(l):pr l=true↔l.length<=30/\∀ j,j<l.length->sx (l.getD j Tc.bD.aa)=true:=by
 unfold pr;rw [au,aI,iG,DF];refine and_congr Iff.rfl ⟨fun h j hj => ?_,fun h x hx => ?_⟩
 . have:=h _ (lG Tc.bD.aa hj);unfold A9 at this;simpa using this
 . obtain⟨j,hj,rfl⟩:=zn hx;have:=h j hj;rw [ba,bp hj] at this;unfold A9;simpa using this
theorem aff(t):∀ k,k<t.steps.length->(∀ j,j<=k->oE t j=true)->0<=t.steps.getD k 0
 | 0,_,h=>by
  have:=h 0 (az _);unfold oE ze at this;simp only [au,aI,aw] at this;omega
 | k+1,h1,h=>by
  have ih:=aff t k oo fun j hj=>h j oo;have:=h (k+1) (az _);unfold oE ze at this;rw [ar oo,vH] at this;simp only [au,aI] at this;omega
def rj(l:List bX)(w:List Int)(i:Nat):Bool:=jV (w.getD i Tc.int.aa) 0 (l.getD i Tc.bD.aa).af
def dR(l:List bX)(w:List Int):Bool:=pr l&&(decide (w.length=l.length)&&(List.range l.length).all (rj l w))
theorem gW(l)(w):dR l w=true↔pr l=true/\w.length=l.length/\∀ i,i<l.length->rj l w i=true:=by
 unfold dR;simp only [au,aI,dK,gP]
def Hf:aH:=df 70 qP nu (fun l w=>(l ()).length<=1000000000000/\(w ()).length<=1000000000000) (fun l w => .bool fun _=>dR (l ()) (w ()))
theorem Mu:aK Tryz.prog Hf:=by
 refine FW {} [Mt,Ms,Mr] ⟨UA,Uz,Uy,trivial⟩ [] trivial [Mq] ⟨Ux,trivial⟩ Tryz.func70 (by kernel_rfl) fun ai res h hp => ?_;obtain⟨(l:List bX),(w:List Int),rfl,rfl⟩:=dz h;clear h;have nK:l.length<=1000000000000/\w.length<=1000000000000:=hp;have hl:=nK.1;have hw:=nK.2;refine⟨[],?_⟩
 conv=>arg 1; cbv
 simp (maxSteps:=4000000) only [aB,aR,aS,bw];have hI:=gW l w;have hF:(dR l w=true->False)->false=dR l w:=fun h=>by
  cases hB:dR l w with
  | true=>exact (h hB).elim
  | false=>rfl
 refine⟨hl,fun c=>hF fun q=>(by rw [(hI.1 q).1] at c; cases c),fun c1=>⟨fun c=>hF fun q=>(by rw [c8 (show (w.length:Int)=l.length by have:=(hI.1 q).2.1; omega)] at c; cases c),fun c2 => ?_⟩⟩;have tA:w.length=l.length:=by
  have h:(w.length:Int)=l.length:=by simpa using c2
  omega
 have ht:pr l=true:=by simpa using c1
 refine⟨⟨fun _ => [(0,.box 4 [.aG false])],fun k=>∀ i,i<k->rj l w i=true⟩,?_⟩
 conv=>arg 1; cbv
 simp (maxSteps:=4000000) only [aB,aR,aS,bw];refine⟨⟨⟨hl,oo⟩,fun i hi=>absurd hi (oJ _)⟩,fun (k:Nat) hk => ?_⟩;have cR:(∀ i,i<k->rj l w i=true)/\k<=l.length:=hk;have cZ:=cR.1;have cg:=cR.2;clear hk
 conv=>arg 1; cbv
 simp (maxSteps:=4000000) only [aB,aR,aS,bw];refine⟨fun _ cT => ?_,fun _ cT => ?_⟩
 . have cT:k<l.length:=cT
   conv=>arg 1; cbv
   simp (maxSteps:=4000000) only [aB,aR,aS,bw];refine⟨fun c=>hF fun q => ?_,fun c i hi => ?_⟩
   . have h:rj l w k=true:=(hI.1 q).2.2 k cT;unfold rj at h;rw [h] at c;cases c
   . rcases cw i k with h|h
     . exact cZ i h
     . rw [show i=k from oo];unfold rj;simpa using c
 . have cT:k=l.length:=cT
   conv=>arg 1; cbv
   simp (maxSteps:=4000000) only [aB,aR,aS,bw];exact (hI.2 ⟨ht,tA,fun i hi=>cZ i oo⟩).symm
def Dh(l:List bX)(w:List Int)(k:Nat):Ld:=(kL (w.getD k Tc.int.aa) (l.getD k Tc.bD.aa).x (l.getD k Tc.bD.aa).y (2*(l.getD k Tc.bD.aa).z)).1
def oF(l:List bX)(w:List Int):Nat->List Ld
 | 0 => []
 | k+1=>oF l w k ++ [Dh l w k]
theorem UB(l:List bX)(w:List Int):∀ k,(oF l w k).length=k
 | 0=>rfl
 | k+1=>by unfold oF; rw [ej,UB l w k]; rfl
def fD(l:List bX)(w:List Int):Ld×Int:=if dR l w then dY (oF l w l.length) else (dA,2)
def afg:aH:=df 19 qP nu (fun l w=>(l ()).length<=1000000000000/\(w ()).length<=1000000000000) (fun l w => .aU [.agg (u0 fun _=>(fD (l ()) (w ())).1),.int .i64 fun _=>(fD (l ()) (w ())).2])
theorem auh:aK Tryz.prog afg:=by
 refine FW {} [Hf,Mr,Lo,Gl] ⟨Mu,Uy,Su,Lq,trivial⟩ [] trivial [Mq] ⟨Ux,trivial⟩ Tryz.func19 (by kernel_rfl) fun ai res h hp => ?_;obtain⟨(l:List bX),(w:List Int),rfl,rfl⟩:=dz h;clear h;have nK:l.length<=1000000000000/\w.length<=1000000000000:=hp;have hl:=nK.1;have hw:=nK.2;refine⟨[],?_⟩;refine fm ?_;refine⟨⟨hl,hw⟩,fun c => ?_,fun c => ?_⟩
 . have hB:dR l w=false:=by simpa using c
   unfold fD;rw [hB];exact⟨rfl,rfl,rfl,rfl,rfl⟩
 have hB:dR l w=true:=by simpa using c
 have tA:=((gW l w).1 hB).2.1;refine⟨⟨fun k => [(1,.box 137 [.own 2]),(2,.row true .ld 62 fun _=>oF l w k)],fun k=>True⟩,?_⟩;refine fm ?_;refine⟨⟨⟨hl,oo⟩,rfl⟩,fun (k:Nat) hk => ?_⟩;have cZ:k<=l.length:=hk;clear hk;refine fm ?_;refine⟨fun _ cT => ?_,fun _ cT => ?_⟩
 . have cT:k<l.length:=cT;refine fm ?_;have hz:=((tK _).1 (((lI l).1 ((gW l w).1 hB).1).2 k cT)).1.2.2.2.1;have Hg:=((lI l).1 ((gW l w).1 hB).1).1;have ng:=UB l w k;refine⟨ii,by simp only [c9,fE]; omega,rfl⟩
 . have cT:k=l.length:=cT;refine fm ?_;have Hg:=((lI l).1 ((gW l w).1 hB).1).1;have ng:=UB l w k;subst cT;unfold fD;rw [hB,aw rfl];exact⟨oo,rfl,rfl,rfl,rfl,rfl⟩
theorem aui{x:Ld}(hs:cC s=true)(hx:cC x=true)(h:s.af+x.af<=500000000):cC (s.add x)=true:=by
 unfold cC ny gJ Ld.add at *
 simp only [au,aI] at *
 omega
theorem afh(hs:cC s=true):(0<=s.af/\s.af<=500000000)/\(-550000000000000<=s.x/\s.x<=550000000000000)/\(-550000000000000<=s.y/\s.y<=550000000000000) /\ -550000000000000<=s.z/\s.z<=550000000000000:=by
 unfold cC ny gJ at hs;simp only [au,aI] at hs;omega
theorem xm(l):(⟨l.af,l.x,l.y,l.z⟩:Ld)=l:=rfl
def vx(m:sK):Ld:=(kL m.box.af m.x m.y m.h).1
def rk(s:aZ)(bs:List aJ)(l:List ay):Ld×Int:=cond (jS s bs l) (dY ((CX s.aE bs (aV l)).map vx)) (dA,2)
def afi:aH:=lE 18 ou pZ u2 (fun s bs l=>p7 (s ())/\vi (bs ())/\(l ()).length<=40) (fun s bs l => .aU [.agg (u0 fun _=>(rk (s ()) (bs ()) (l ())).1),.int .i64 fun _=>(rk (s ()) (bs ()) (l ())).2])
def auj(ms:Unit->List sK):Lp where
 X:=Nat
 ov k := [(27,.int .i64 fun _=>(k:Int)),(10,.own 2)]
 oe k := [(2,.row true .ld 62 fun _=>((ms ()).take k).map vx)]
 I k:=k<=(ms ()).length
 μ k _:=(ms ()).length - k
 x0:=0
 nx:=some fun k=>k+1
theorem auk:aK Tryz.prog afi:=by
 refine cd [ac2,Lo,Gl] ⟨aqS,Su,Lq,trivial⟩ Tryz.func18 (by kernel_rfl) fun ai res h hp => ?_;obtain⟨(s:aZ),(bs:List aJ),(l:List ay),rfl,rfl⟩:=mO h;clear h;have dZ:p7 s/\vi bs/\l.length<=40:=hp;have h1:=dZ.1;have h2:=dZ.2.1;have h3:=dZ.2.2;refine cL (CX s.aE bs (aV l)) fun ms UC => ?_;have hlen:ms.length<=40:=by
  rw [<- UC];unfold CX;rw [ac1];have:=(CW l).length_eq;omega
 refine⟨[(6,auj fun _=>ms)],?_⟩
 conv=>arg 1; cbv
 refine⟨⟨h1,h2,h3⟩,fun g => ?_,fun g => ?_⟩
 . have g':(!jS s bs l)=true:=g;simp only [iG] at g';have hc:rk s bs l=(dA,2):=by unfold rk; rw [g']; rfl
   simp (maxSteps:=4000000) only [aB];rw [hc];simp [dA]
 have g':(!jS s bs l)=false:=g;simp only [jY] at g';have hc:rk s bs l=dY (ms.map vx):=by unfold rk; rw [g',UC]; rfl
 clear g;refine⟨?_,fun (k:Nat) hk => ?_⟩
 . exact xb
 have fP:k<=ms.length:=hk
 conv=>arg 1; cbv
 simp (maxSteps:=4000000) only [aB];simp only [UC,g',eG,xm,GF];refine⟨fun g1 => ?_,fun g1 => ?_⟩
 . have aj:k<ms.length:=oo
   have e1:(ms.take (k+1)).map vx=(ms.take k).map vx ++ [vx (ms.getD k Tc.mid.aa)]:=by rw [yR Tc.mid.aa aj,sC]; rfl
   rw [e1];refine⟨oo,trivial,?_,⟨oo,oo⟩,⟨oo,oo⟩,oo,?_⟩
   . simp only [iQ,c6,c9,fE]; omega
   . rfl
 . have cF:ms.length<=k:=oo
   rw [lL cF,hc];refine⟨by rw [iQ]; omega,?_⟩;simp
def nL(k x y z:Int):Ld×Int:=if gJ z 1100000 then kL k x y (2*z) else (dA,2)
def afj:aH:=df 67 kI kI (fun _ m=>aY (-(m ()))) (fun n m => .bool fun _=>gJ (n ()) (m ()))
theorem aul:aK Tryz.prog afj:=by
 refine cd [] trivial Tryz.func67 (by kernel_rfl) fun ai res h hp => ?_;obtain⟨(n:Int),(m:Int),rfl,rfl⟩:=dz h;clear h;refine⟨[],?_⟩
 conv=>arg 1; cbv
 simp (maxSteps:=4000000) only [aB];have cf:aY (-m):=hp;clear hp;unfold gJ
 (repeat' (first|apply And.intro|intro _))<;>first|trivial|omega|(simp only [aY,au,gz,iG,jY,Vo,jZ,aI,fR,vI,Bool.not_eq_false,ga,dL,tY,vJ,Bool.or_true,fM,Bool.true_or,rB,dS,Vs,b9,Nz,false_or,Ib,aR,aS,vC,Bk,true_iff,iff_true,false_iff,iff_false,bw,reduceCtorEq,H5,ne_eq] at *; first|done|trivial|omega)|(rw [sD]; simp only [aY,au,gz,iG,jY,Vo,jZ,aI,fR,vI,Bool.not_eq_false,ga,dL,tY,vJ,Bool.or_true,fM,Bool.true_or,rB,dS,Vs,b9,Nz,false_or,Ib,aR,aS,vC,Bk,true_iff,iff_true,false_iff,iff_false,bw,reduceCtorEq,H5,ne_eq] at *; first|done|trivial|omega)
def UD:aH:=dU 17 ou (fun _=>True) (fun s => .aU [.agg (u0 fun _=>(nL (s ()).lk (s ()).lx (s ()).ly (s ()).lz).1),.int .i64 fun _=>(nL (s ()).lk (s ()).lx (s ()).ly (s ()).lz).2])
theorem afk:aK Tryz.prog UD:=by
 refine cd [afj,Lo] ⟨aul,Su,trivial⟩ Tryz.func17 (by kernel_rfl) fun ai res h hp => ?_;obtain⟨(s:aZ),rfl,rfl⟩:=eu h;clear h;refine⟨[],?_⟩
 conv=>arg 1; cbv
 simp (maxSteps:=4000000) only [aB];unfold nL
 cases hz:gJ s.lz 1100000 with
 | false=>simp [dA,aY]
 | true =>
  have:=kM.1 hz;simp [aY];omega
def afl:aZ:=⟨Mh,Mg,0,0,0,0,[],[],[],0,0,0,0⟩
theorem aum:p7 afl:=by
 unfold p7 afl Mh Mg aY;simp
theorem aun:vi rf:=by
 unfold vi rf ic;simp;decide
structure mg where
 af:Int
 dr:bH
 tr:bH
 de:bH
 y:bH
 st:bH
def vy:mg:=⟨0,fH,fH,fH,fH,fH⟩
def tL(l:List bX)(w:List Int):Nat->Int
 | 0=>0
 | k+1=>tL l w k+if 0<w.getD k Tc.int.aa/\w.getD k Tc.int.aa<(l.getD k Tc.bD.aa).af then (l.getD k Tc.bD.aa).sL else 0
def kR(l:List bX)(w:List Int):Int×Int:=if dR l w then (tL l w l.length,0) else (0,2)
def Mv(A:Ld)(v:Df):bH:=(m7 (j7 (iR A.x) (mulL (iR A.af) v.bu).1).1 v.tu).1
def Di(A:Ld)(v:Df)(c:y5)(sl:bH):mg:=⟨A.af,v.dr,Mv A v,(sG v.dr (m7 (vw (Mv A v)) (iR 2)).1).1,c.y,(j7 (j7 v.mc c.z).1 sl).1⟩
def kS(s:aZ)(l:Ld)(w:List Int):mg×Int :=
 if (fD s.aM w).2≠0 then (vy,(fD s.aM w).2)
 else if (dY [l,(fD s.aM w).1]).2≠0 then (vy,(dY [l,(fD s.aM w).1]).2)
 else if (fQ s.rows (dY [l,(fD s.aM w).1]).1.af).2≠0 then (vy,(fQ s.rows (dY [l,(fD s.aM w).1]).1.af).2)
 else (Di (dY [l,(fD s.aM w).1]).1 (fQ s.rows (dY [l,(fD s.aM w).1]).1.af).1 (findF (dY [l,(fD s.aM w).1]).1).1 (fI (kR s.aM w).1 (dY [l,(fD s.aM w).1]).1.af).1,0)
def Dj(s:aZ):Bool:=decide (0<=s.m2/\s.m2<=1000000)&&(decide (0<=s.m3/\s.m3<=1000000)&&decide (0<=s.m4/\s.m4<=1000000))
def mW(s:aZ):Bool:=Dj s&&(decide ((nL s.lk s.lx s.ly s.lz).2=0)&&(gu s&&(gL s.rows&&pr s.aM)))
def gM(s:aZ)(bs:List aJ)(st:List ay)(w:List Int):Ld×Int :=
 if mW s&&dR s.aM w then if (rk s bs st).2≠0 then (dA,2) else dY [(nL s.lk s.lx s.ly s.lz).1,(rk s bs st).1] else (dA,2)
def jf(s:aZ)(bs:List aJ)(st:List ay)(w:List Int):mg×Int:=if (gM s bs st w).2≠0 then (vy,(gM s bs st w).2) else kS s (gM s bs st w).1 w
def Hh(f g:bH):Bool:=decide (0<(rG f g).1)
def sy(f:mg)(t l b d:Int):Nat->Bool
 | 0=>Hh f.de (iR d)
 | 1=>Hh (vw f.tr) (iR t)
 | 2=>Hh (iR b) f.st
 | _=>Hh (mulL (vw f.y) (iR 10000)).1 (mulL f.st (iR l)).1
def Mw(b:Bool)(n:Int):Int:=cond b n 0
def Dk(f:mg)(t l b d:Int):Int:=Mw (sy f t l b d 0) 1+Mw (sy f t l b d 1) 2+Mw (sy f t l b d 2) 4+Mw (sy f t l b d 3) 8
def Ba(s:aZ)(bs:List aJ)(st:List ay)(w:List Int)(d:Int):Int×Int:=if (jf s bs st w).2≠0 then (0,(jf s bs st w).2) else (Dk (jf s bs st w).1 s.m2 s.m3 s.m4 d,0)
def pt(A:Ld)(a b:cX):Int:=A.x*(b.af - a.af) - A.af*sr a.mr b.mr a.af b.af A.af
def pv(A:Ld)(a b:cX):Int:=sr a.jE b.jE a.af b.af A.af
def Mx(A:Ld)(a b:cX):Int:=sr a.nW b.nW a.af b.af A.af
def Dl(A:Ld)(a b:cX):Int:=sr a.mc b.mc a.af b.af A.af
theorem My{a b ka kb k:Int}(h:ka<kb)(h2:kb - ka<=500000000)(hB:(sr a b ka kb k).natAbs<=B)(CB:B<dM):b8 (Hc a b ka kb k) (sr a b ka kb k) (kb - ka) B 500000000 :=
 .ratio oo hB oo CB (by decide)
structure auo (A:Ld) (a b:cX):Prop where
 dr:b8 (vv a b A.af).dr (Mx A a b) (b.af - a.af) 25000000000000 500000000
 bu:b8 (vv a b A.af).bu (sr a.mr b.mr a.af b.af A.af) (b.af - a.af) 250000000000000 500000000
 mc:b8 (vv a b A.af).mc (Dl A a b) (b.af - a.af) 250000000000000 500000000
 tu:b8 (vv a b A.af).tu (pv A a b) (b.af - a.af) 5000000000000000000 500000000
 pos:0<pv A a b
theorem Mz{A:Ld}{a b:cX}(h:Dg a b A.af):auo A a b:=by
 have h0:=h.ka;have h1:=h.kb;have h2:=h.lt;have d:=Hd h.le.1 h.le.2 h.dr.1 h.dr.2;have u:=Hd h.le.1 h.le.2 h.bu.1 h.bu.2;have m:=Hd h.le.1 h.le.2 h.mc.1 h.mc.2;have t:=Hd h.le.1 h.le.2 h.tu.1 h.tu.2;exact⟨My h2 oo oo (by decide),My h2 oo oo (by decide),My h2 oo oo (by decide),My h2 oo oo (by decide),by unfold pv; omega⟩
theorem MA{A:Ld}(h:cC A=true):A.af.natAbs<=500000000/\A.x.natAbs<=550000000000000/\A.y.natAbs<=550000000000000/\A.z.natAbs<=550000000000000:=by
 have:=yP h;omega
theorem aup{A:Ld}{a b:cX}(h:Dg a b A.af)(hA:cC A=true):b8 (Mv A (vv a b A.af)) (pt A a b) (pv A a b) 400000000000000000000000 5000000000000000000:=by
 have v:=Mz h;have n:=MA hA;have h2:=h.lt;have h1:=h.kb;have h0:=h.ka;have k1:=b8.mul (b8.int A.af n.1) v.bu (by decide) (by decide);have k2:=b8.sub (b8.int A.x n.2.1) k1 (by decide) (by decide);have k3:=b8.div k2 v.tu v.pos (by decide) (by decide);refine k3.to v.pos ?_ ?_ ?_
 . unfold pt;simp only [Int.one_mul,Int.mul_one];rw [Int.mul_assoc]
 . unfold pt;have a1:=kn n.2.1 v.dr.den;have a2:=kn n.1 v.bu.num;have:=ahw (A.x*(b.af - a.af)) (A.af*sr a.mr b.mr a.af b.af A.af);omega
 . exact v.tu.num
structure Dm (A:Ld) (a b:cX) (S:Int) (F:mg):Prop where
 af:F.af=A.af
 dr:b8 F.dr (Mx A a b) (b.af - a.af) 25000000000000 500000000
 tr:b8 F.tr (pt A a b) (pv A a b) 400000000000000000000000 5000000000000000000
 de:b8 F.de (2*Mx A a b*pv A a b+(pt A a b).natAbs*(b.af - a.af)) (2*(b.af - a.af)*pv A a b) 1000000000000000000000000000000000 5000000000000000000000000000
 y:b8 F.y A.y A.af 550000000000000 500000000
 st:b8 F.st (2*A.af*Dl A a b - (b.af - a.af)*(A.z+2*S)) (2*A.af*(b.af - a.af)) 600000000000000000000000 500000000000000000
theorem Hi{A:Ld}{a b:cX}(h:Dg a b A.af)(hA:cC A=true)(hS:0<=S/\S<=30000000000000):Dm A a b S (Di A (vv a b A.af) (findF A).1 (fI S A.af).1):=by
 have v:=Mz h;have n:=MA hA;have t:=aup h hA;have h2:=h.lt;have h1:=h.kb;have h0:=h.ka;have hk:0<A.af:=by have:=h.le.1; omega
 have ec:(findF A).1=⟨(fI A.x A.af).1,(fI A.y A.af).1,(fI A.z (2*A.af)).1⟩:=by
  unfold findF;rw [aw hA,ar oo]
 rw [ec];have hD:(b.af - a.af).natAbs<=500000000:=v.dr.den;refine⟨rfl,v.dr,t,?_,.ratio hk n.2.2.1 n.1 (by decide) (by decide),?_⟩
 . have k1:=b8.div t.abs (b8.int 2 (B:=2) (by decide)) (by decide) (by decide) (by decide);have k2:=b8.add v.dr k1 (by decide) (by decide);have p:0<2*(b.af - a.af)*pv A a b:=sF oo v.pos;refine k2.to p ?_ ?_ ?_
   . grind
   . have a1:=kn (kn (A:=2) (show (2:Int).natAbs<=2 by decide) v.dr.num) v.tu.num;have a2:=kn (b:=b.af - a.af) (show ((pt A a b).natAbs:Int).natAbs<=400000000000000000000000 by rw [Int.natAbs_natCast]; exact t.num) hD;have:=Int.natAbs_add_le (2*Mx A a b*pv A a b) ((pt A a b).natAbs*(b.af - a.af));omega
   . have a1:=kn (kn (A:=2) (show (2:Int).natAbs<=2 by decide) hD) v.tu.num;omega
 . have k1:=b8.ratio (a:=A.z) (b:=2*A.af) (B:=550000000000000) (C:=1000000000) oo n.2.2.2 oo (by decide) (by decide);have k2:=b8.ratio (a:=S) (b:=A.af) (B:=30000000000000) (C:=500000000) hk oo n.1 (by decide) (by decide);have k3:=b8.sub (b8.sub v.mc k1 (by decide) (by decide)) k2 (by decide) (by decide);have p:0<2*A.af*(b.af - a.af):=sF oo oo;refine k3.to p ?_ ?_ ?_
   . grind
   . have a1:=kn (kn (A:=2) (show (2:Int).natAbs<=2 by decide) n.1) v.mc.num;have a2:=kn hD (show (A.z+2*S).natAbs<=610000000000000 from oo);have:=ahw (2*A.af*Dl A a b) ((b.af - a.af)*(A.z+2*S));omega
   . have a1:=kn (kn (A:=2) (show (2:Int).natAbs<=2 by decide) n.1) hD;omega
def afm(cs:List dp)(i k:Nat):Prop:=¬ ((cs.getD k Tc.ax.aa).cV=(cs.getD i Tc.ax.aa).cV/\(cs.getD k Tc.ax.aa).row=(cs.getD i Tc.ax.aa).row/\(cs.getD k Tc.ax.aa).fv=(cs.getD i Tc.ax.aa).fv)
def auq(cs:List dp)(i:Nat):Prop:=jQ (cs.getD i Tc.ax.aa)=true/\∀ k,k<i->afm cs i k
def afn(cs:List lg)(i j k:Nat):Prop:=¬ ((cs.getD k Tc.e9.aa).cV=(cs.getD i Tc.e9.aa).cV/\(cs.getD k Tc.e9.aa).rows.any (fun y=>decide (y=(cs.getD i Tc.e9.aa).rows.getD j Tc.int.aa))=true)
def aur(cs:List lg)(i j:Nat):Prop:=qU 30 (cs.getD i Tc.e9.aa).rows j=true/\∀ k,k<i->afn cs i j k
def aus(cs:List lg)(i:Nat):Prop:=((0<=(cs.getD i Tc.e9.aa).cV/\(cs.getD i Tc.e9.aa).cV<=39)/\¬ (cs.getD i Tc.e9.aa).rows.length=0)/\∀ j,j<(cs.getD i Tc.e9.aa).rows.length->aur cs i j
theorem afo{a b:dp}:fK a=fK b↔a.cV=b.cV/\a.row=b.row/\a.fv=b.fv:=by
 unfold fK;cases a.fv<;>cases b.fv<;>simp
theorem nM{l:List α}(d)(h):l.getD i d=l[i]:=by rw [ba,bp h]; rfl
theorem aut(cs):(cs.map fK).Nodup↔∀ i,i<cs.length->∀ k,k<i->afm cs i k:=by
 unfold List.Nodup;rw [ahu,xq];constructor
 . intro h i hi k hk hq;rw [nM _ hi,nM _ (show k<cs.length from oo)] at hq;exact h k i oo hi hk (afo.2 hq)
 . intro h i j hi hj jF hq;refine h j hj i jF ?_;rw [nM _ hi,nM _ hj];exact afo.1 hq
theorem auu{l:List Int}(h:l9 t l=true):∀ j,j<l.length->∀ i,i<j->l.getD i 0<l.getD j 0:=by
 unfold l9 at h;rw [aI] at h;intro j
 induction j with
 | zero=>intro _ i hi; omega
 | succ j ih =>
  intro hj i hi;have h1:=h (j+1) hj;unfold qU at h1;simp only [au,gz,aI,vH] at h1;have h2:l.getD j 0<l.getD (j+1) 0:=h1.2.resolve_left oo;rcases cw i j with h3|h3
  . have:=ih oo i h3;omega
  . rw [show i=j from oo]; exact h2
theorem Hj{y:List Kx}:y∈eQ x↔∃ r∈x.rows,y = [.i .i64 x.cV,.i .i64 r,.i .i64 2]:=by
 unfold eQ;rw [iq];exact⟨fun ⟨r,h,e⟩=>⟨r,h,e.symm⟩,fun ⟨r,h,e⟩=>⟨r,h,e.symm⟩⟩
theorem auv(h:l9 30 x.rows=true):(eQ x).Nodup:=by
 unfold eQ List.Nodup;rw [ahu,xq];intro i j hi hj jF hq;have:=auu h j hj i jF;rw [nM _ hi,nM _ hj] at this;simp only [sB,Kx.i.injEq,aS,aR] at hq;omega
theorem afp{cs:List lg}(h:∀ x∈cs,l9 30 x.rows=true):(cs.flatMap eQ).Nodup↔∀ i,i<cs.length->∀ j,j<(cs.getD i Tc.e9.aa).rows.length->∀ k,k<i->afn cs i j k:=by
 unfold List.Nodup;rw [List.pairwise_flatMap,xq];constructor
 . intro ⟨_,h2⟩ i hi j hj k hk ⟨h3,h4⟩;rw [Np] at h4;obtain⟨r,h5,h6⟩:=h4;have h6:=tW h6;rw [nM _ hi] at hj h6 h3;rw [nM _ (show k<cs.length from oo)] at h3 h5;refine h2 k i oo hi hk _ (Hj.2 ⟨r,h5,rfl⟩) _ (Hj.2 ⟨r,by rw [h6]; exact lG _ hj,rfl⟩) ?_;rw [h3]
 . intro h2;refine⟨fun x hx=>auv (h x hx),fun k i hk hi CD a ha b hb bm => ?_⟩;obtain⟨r,h3,rfl⟩:=Hj.1 ha;obtain⟨r',h4,rfl⟩:=Hj.1 hb;simp only [sB,Kx.i.injEq,aS,aR] at bm;obtain⟨h5,rfl⟩:=bm;obtain⟨j,hj,h6⟩:=M5.1 h4;refine h2 i hi j (by rw [nM _ hi]; exact hj) k CD ⟨by rw [nM _ hi,nM _ hk]; exact h5,?_⟩;rw [Np];refine⟨r,by rw [nM _ hk]; exact h3,?_⟩;rw [aI,nM _ hi,nM _ hj];exact h6.symm
theorem auw(cs:List dp)(vs:List lg):∀ a∈cs.map fK,∀ b∈vs.flatMap eQ,a≠b:=by
 intro a ha b hb bm;obtain⟨c,_,rfl⟩:=iq.1 ha;obtain⟨v,_,hv⟩:=Vw.1 hb;obtain⟨r,_,rfl⟩:=Hj.1 hv;unfold fK at bm;cases hd:c.fv<;>rw [hd] at bm<;>simp at bm
theorem MB{p : α->Bool}{l:List α}(d):l.all p=true↔∀ i,i<l.length->p (l.getD i d)=true:=by
 rw [dK];constructor
 . exact fun h i hi=>h _ (lG d hi)
 . intro h x hx;obtain⟨j,hj,rfl⟩:=M5.1 hx;have:=h j hj;rwa [nM d hj] at this
theorem afq(s):gu s=true↔((1<=s.aE.length/\s.aE.length<=200)/\s.dh.length<=40)/\(∀ i,i<s.aE.length->auq s.aE i)/\∀ i,i<s.dh.length->aus s.dh i:=by
 unfold gu vf;simp only [au,aI,DE];rw [MB Tc.ax.aa,MB Tc.e9.aa,aut];constructor
 . rintro⟨⟨h1,h2,h3⟩,h4,h5,h6,h7,_⟩
   have hr:∀ x∈s.dh,l9 30 x.rows=true:=fun x hx=>by
    have:=(MB (p:=nD) Tc.e9.aa).2 h5;exact afr
   rw [afp hr] at h7;refine⟨⟨⟨h1,h2⟩,h3⟩,fun i hi=>⟨h4 i hi,h6 i hi⟩,fun i hi => ?_⟩;have h8:=h5 i hi;unfold nD at h8;simp only [au,iG,aI,fR] at h8;refine⟨⟨⟨h8.1.1,oo⟩,h8.2.1⟩,fun j hj=>⟨?_,h7 i hi j hj⟩⟩;have:=h8.2.2;unfold l9 at this;exact tW this j hj
 . rintro⟨⟨⟨h1,h2⟩,h3⟩,h4,h5⟩
   have h6:∀ i,i<s.dh.length->nD (s.dh.getD i Tc.e9.aa)=true:=fun i hi=>by
    obtain⟨⟨⟨h7,h8⟩,h9⟩,oO⟩:=h5 i hi;unfold nD l9;simp only [au,iG,aI,fR];exact⟨⟨h7,oo⟩,h9,fun j hj=>(oO j hj).1⟩
   refine⟨⟨h1,h2,h3⟩,fun i hi=>(h4 i hi).1,h6,fun i hi=>(h4 i hi).2,?_,auw _ _⟩;refine (afp fun x hx => ?_).2 fun i hi j hj=>((h5 i hi).2 j hj).2;have:=(MB (p:=nD) Tc.e9.aa).2 h6;exact afr
end Go.Proofs.YtlpikgchnjajmaaGreat
