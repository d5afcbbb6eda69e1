/-
  frac by the abstract run: fit, Right.
-/
import Derived.Test.YtlpikgchnjajmaaGreatTp29
set_option linter.all false
set_option maxRecDepth 100000
set_option maxHeartbeats 4000000
namespace Go.Proofs.YtlpikgchnjajmaaGreat
open Go.RowKit
variable{Q R a b i x y:Nat}{F G:bH×Int}{f:bj}
theorem aeg(hy:0<y)(h:aL y<=900):aL (Nat.gcd x y)<=900:=e8 (Db (Nat.le_of_dvd hy (Nat.gcd_dvd_right x y))) h
theorem vq(hx:aL x<=a)(hy:aL y<=b):aL (x*y)<=a+b:=by
 refine uf bW ?_;rw [Bt];exact ahz (iI bW hx) (iI bW hy)
theorem aeh(hx:aL x<=a)(hy:aL y<=a):aL (x+y)<=a+1:=by
 refine uf bW ?_;have h1:=iI bW hx;have h2:=iI bW hy;rw [kx];generalize ae^a=P at *
 show x+y<P*4294967296
 omega
theorem atf(h:bL x=bL y):x=y:=by rw [<- ik x,<- ik y,h]
theorem atg:mo x y<0↔x<y:=by
 exact ad6
theorem A5{F:bH}(h:F.right=true):0<F.den:=by
 unfold bH.right at h;simp only [au,aI] at h;exact HO h.1.1
theorem aei(h:gK f) : [Kx.i IntKind.u32 f.n0,Kx.i IntKind.u32 f.n1,Kx.i IntKind.u32 f.n2,Kx.i IntKind.u32 f.n3,Kx.i IntKind.u32 f.n4,Kx.i IntKind.u32 f.n5,Kx.i IntKind.u32 f.n6,Kx.i IntKind.u32 f.n7]=xe (bn f).num:=by
 obtain⟨_,_,hv⟩:=nI h;unfold xe;rw [<- congrArg bj.n0 hv,<- congrArg bj.n1 hv,<- congrArg bj.n2 hv,<- congrArg bj.n3 hv,<- congrArg bj.n4 hv,<- congrArg bj.n5 hv,<- congrArg bj.n6 hv,<- congrArg bj.n7 hv];rfl
theorem aej(h:gK f) : [Kx.f (bn f).neg,Kx.i IntKind.u32 f.n0,Kx.i IntKind.u32 f.n1,Kx.i IntKind.u32 f.n2,Kx.i IntKind.u32 f.n3,Kx.i IntKind.u32 f.n4,Kx.i IntKind.u32 f.n5,Kx.i IntKind.u32 f.n6,Kx.i IntKind.u32 f.n7,Kx.i IntKind.u32 f.d0,Kx.i IntKind.u32 f.d1,Kx.i IntKind.u32 f.d2,Kx.i IntKind.u32 f.d3,Kx.i IntKind.u32 f.d4,Kx.i IntKind.u32 f.d5,Kx.i IntKind.u32 f.d6,Kx.i IntKind.u32 f.d7]=GK (bn f):=by
 obtain⟨_,_,hv⟩:=nI h;unfold GK xe;rw [<- congrArg bj.n0 hv,<- congrArg bj.n1 hv,<- congrArg bj.n2 hv,<- congrArg bj.n3 hv,<- congrArg bj.n4 hv,<- congrArg bj.n5 hv,<- congrArg bj.n6 hv,<- congrArg bj.n7 hv,<- congrArg bj.d0 hv,<- congrArg bj.d1 hv,<- congrArg bj.d2 hv,<- congrArg bj.d3 hv,<- congrArg bj.d4 hv,<- congrArg bj.d5 hv,<- congrArg bj.d6 hv,<- congrArg bj.d7 hv];rfl
theorem ath : [Kx.i IntKind.u32 0,Kx.i IntKind.u32 0,Kx.i IntKind.u32 0,Kx.i IntKind.u32 0,Kx.i IntKind.u32 0,Kx.i IntKind.u32 0,Kx.i IntKind.u32 0,Kx.i IntKind.u32 0]=xe 0:=rfl
def A6(F:bH×Int)(neg:Bool)(n d:Nat->Int)(e:Int):Prop:=neg=F.1.neg/\n 0=al F.1.num 0/\n 1=al F.1.num 1/\n 2=al F.1.num 2/\n 3=al F.1.num 3/\n 4=al F.1.num 4/\n 5=al F.1.num 5/\n 6=al F.1.num 6/\n 7=al F.1.num 7/\d 0=al F.1.den 0/\d 1=al F.1.den 1/\d 2=al F.1.den 2/\d 3=al F.1.den 3/\d 4=al F.1.den 4/\d 5=al F.1.den 5/\d 6=al F.1.den 6/\d 7=al F.1.den 7/\e=F.2
def y8(z i:Nat):Int:=bif decide (i<(bL z).length) then (bL z).getD i Tc.u32.aa else 0
theorem oA(z)(h:i<8):y8 z i=al z i:=by
 unfold y8 al;rw [GR h,show Tc.u32.aa=0 from rfl,si,qd,ew]
 cases h2:decide (i<aL z) with
 | true=>rfl
 | false=>rw [GQ (by have:=Ni h2; omega)]; rfl
theorem ati{F G:bH}(h:F=G):F.neg=G.neg/\al F.num 0=al G.num 0/\al F.num 1=al G.num 1/\al F.num 2=al G.num 2/\al F.num 3=al G.num 3/\al F.num 4=al G.num 4/\al F.num 5=al G.num 5/\al F.num 6=al G.num 6/\al F.num 7=al G.num 7/\al F.den 0=al G.den 0/\al F.den 1=al G.den 1/\al F.den 2=al G.den 2/\al F.den 3=al G.den 3/\al F.den 4=al G.den 4/\al F.den 5=al G.den 5/\al F.den 6=al G.den 6/\al F.den 7=al G.den 7:=by
 subst h;exact⟨rfl,rfl,rfl,rfl,rfl,rfl,rfl,rfl,rfl,rfl,rfl,rfl,rfl,rfl,rfl,rfl,rfl⟩
theorem tB(h:F=G):F.1.neg=G.1.neg/\al F.1.num 0=al G.1.num 0/\al F.1.num 1=al G.1.num 1/\al F.1.num 2=al G.1.num 2/\al F.1.num 3=al G.1.num 3/\al F.1.num 4=al G.1.num 4/\al F.1.num 5=al G.1.num 5/\al F.1.num 6=al G.1.num 6/\al F.1.num 7=al G.1.num 7/\al F.1.den 0=al G.1.den 0/\al F.1.den 1=al G.1.den 1/\al F.1.den 2=al G.1.den 2/\al F.1.den 3=al G.1.den 3/\al F.1.den 4=al G.1.den 4/\al F.1.den 5=al G.1.den 5/\al F.1.den 6=al G.1.den 6/\al F.1.den 7=al G.1.den 7/\F.2=G.2:=by
 subst h;exact⟨rfl,rfl,rfl,rfl,rfl,rfl,rfl,rfl,rfl,rfl,rfl,rfl,rfl,rfl,rfl,rfl,rfl,rfl⟩
theorem tC{e:Int}(h:F=(fH,e)):A6 F false (fun _=>0) (fun _=>0) e:=by
 subst h;exact⟨rfl,(fW 0 (by decide)).symm,(fW 1 (by decide)).symm,(fW 2 (by decide)).symm,(fW 3 (by decide)).symm,(fW 4 (by decide)).symm,(fW 5 (by decide)).symm,(fW 6 (by decide)).symm,(fW 7 (by decide)).symm,(fW 0 (by decide)).symm,(fW 1 (by decide)).symm,(fW 2 (by decide)).symm,(fW 3 (by decide)).symm,(fW 4 (by decide)).symm,(fW 5 (by decide)).symm,(fW 6 (by decide)).symm,(fW 7 (by decide)).symm,rfl⟩
theorem aek{s:Bool}(hf:F=if Q<dM/\R<dM then (⟨s&&decide (Q≠0),Q,R⟩,0) else (fH,3)) :
 (8<((bL Q).length:Int)->A6 F false (fun _=>0) (fun _=>0) 3)/\(¬8<((bL Q).length:Int)->(8<((bL R).length:Int)->A6 F false (fun _=>0) (fun _=>0) 3)/\(¬8<((bL R).length:Int)->(s=true->A6 F (decide (0<((bL Q).length:Int))) (y8 Q) (y8 R) 0)/\(s=false->A6 F false (y8 Q) (y8 R) 0))):=by
 simp only [ew];have hq:=N3 Q;have hr:=N3 R;have no:¬(Q<dM/\R<dM)->A6 F false (fun _=>0) (fun _=>0) 3:=fun h=>by
  exact tC (by rw [hf,ar h])
 have go:∀ b,Q<dM/\R<dM->b=(s&&decide (Q≠0))->A6 F b (y8 Q) (y8 R) 0:=fun b h hb=>by
  rw [hf,aw h];exact⟨hb,oA _ (by decide),oA _ (by decide),oA _ (by decide),oA _ (by decide),oA _ (by decide),oA _ (by decide),oA _ (by decide),oA _ (by decide),oA _ (by decide),oA _ (by decide),oA _ (by decide),oA _ (by decide),oA _ (by decide),oA _ (by decide),oA _ (by decide),oA _ (by decide),rfl⟩
 refine⟨fun h=>no fun h2 => ?_,fun h1=>⟨fun h=>no fun h2 => ?_,fun h2 => ?_⟩⟩
 . have:=hq.1 h2.1; omega
 . have:=hr.1 h2.2; omega
 . have h3:Q<dM/\R<dM:=⟨hq.2 oo,hr.2 oo⟩
   refine⟨fun hs=>go _ h3 ?_,fun hs=>go _ h3 (by rw [hs]; rfl)⟩;rw [hs,dL];have := @D8 Q;exact DG.2 oo
def Dc:aH:=lE 81 kB kN kN (fun _ a b=>(ev (a ())/\(a ()).length<=900)/\(ev (b ())/\(b ()).length<=900)/\0<dN (b ())) (fun s a b => .aU [.agg (kj fun _=>(j5 (s ()) (dN (a ())) (dN (b ()))).1),.int .i64 fun _=>(j5 (s ()) (dN (a ())) (dN (b ()))).2])
theorem G4:aK Tryz.prog Dc:=by
 refine eE { kp := [(0,[0,1,2]),(1,[0,1,2,6]),(2,[0,1,2,6,8]),(3,[0,1,2,6,8]),(4,[0,1,2,6,8]),(5,[0,1,2,6]),(6,[6]),(7,[0,1,2,6]),(8,[1,2,6,9]),(9,[2,6,9]),(10,[6,9])] } [Uf,TO,Ue] ⟨aee,adB,ad5,trivial⟩ [] trivial Tryz.func81 (by kernel_rfl) fun ai res h hp => ?_;obtain⟨(s:Bool),(a:List Int),(b:List Int),rfl,rfl⟩:=mO h;clear h;obtain⟨⟨ha,qH⟩,⟨hb,iV⟩,jD⟩:(ev a/\a.length<=900)/\(ev b/\b.length<=900)/\0<dN b:=hp;obtain⟨x,rfl,hx⟩:=mT ha;obtain⟨y,rfl,hy⟩:=mT hb;rw [ik] at jD;rw [ew] at qH iV;clear ha hb;refine⟨[],?_⟩;refine fm ?_;simp only [ik];have ix:ev (bL x)/\(bL x).length<=900:=⟨dE hx,by rw [ew]; exact qH⟩
 have iy:ev (bL y)/\(bL y).length<=900:=⟨dE hy,by rw [ew]; exact iV⟩
 have gl:=aeg (x:=x) jD iV;have ig:ev (bL (Nat.gcd x y))/\(bL (Nat.gcd x y)).length<=900:=⟨dE oo,by rw [ew]; exact gl⟩
 have g0:0<Nat.gcd x y:=aw5 _ jD;refine⟨⟨ix,iy⟩,ig.1,fun hg=>⟨⟨ix,ig,g0⟩,⟨iy,ig,g0⟩,aek (V8 rfl rfl rfl)⟩,fun hg => ?_⟩;have h1:Nat.gcd x y=1:=by simpa using hg
 exact aek (V8 rfl (by rw [h1,vL]) (by rw [h1,vL]))
def Dd:aH:=dU 78 ma (fun f=>gK (f ())) (fun f => .bool fun _=>(bn (f ())).right)
theorem G5:aK Tryz.prog Dd:=by
 refine eE { kp := [(0,[0]),(1,[1]),(2,[1,3,4])] } [C4,Uf,TO] ⟨GL,aee,adB,trivial⟩ [] trivial Tryz.func78 (by kernel_rfl) fun ai res h hp => ?_;obtain⟨(f:bj),rfl,rfl⟩:=eu h;clear h;refine⟨[],?_⟩;refine fm ?_;obtain⟨_,hf,_⟩:=nI hp;simp only [qY,ik,ew];have hn:f.neg=(bn f).neg:=rfl;rw [hn];generalize bn f=F at *
 obtain⟨neg,n,d⟩:=F;have h1:aL n<=8:=gg hf.1;have h2:aL d<=8:=gg hf.2;have h3 := @D8 n;have h4 := @D8 d;unfold bH.right;dsimp only;have hd:0<((aL d:Nat):Int)->d≠0:=oo
 refine⟨hp,fun h=>⟨⟨⟨dE oo,oo⟩,dE oo,oo⟩,dE (e8 (aeg (HO (hd h)) oo) (by decide)),fun g=>⟨fun hs => ?_,fun hs => ?_⟩,fun g => ?_⟩,fun h => ?_⟩
 . rw [hs,c8 (hd h),c8 g];have:decide (((aL n:Nat):Int)=0)=decide (n=0):=DG.2 oo;rw [this];rfl
 . rw [hs,c8 (hd h),c8 g];rfl
 . rw [gw g,tY,vJ]
 . rw [gw (show ¬d≠0 from oo),vJ,vJ]
end Go.Proofs.YtlpikgchnjajmaaGreat
