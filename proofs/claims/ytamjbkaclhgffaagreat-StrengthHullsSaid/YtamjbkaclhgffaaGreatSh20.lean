/-
  frac by the abstract run: fit, Right.
-/
import Derived.Test.YtamjbkaclhgffaaGreatSh19
set_option linter.all false
set_option maxRecDepth 100000
set_option maxHeartbeats 4000000
namespace Go.Proofs.YtamjbkaclhgffaaGreat
open Go.RowKit
variable{Q R a b i x y:Nat}{F G:ba×Int}{f:bh}
theorem afH(hy:0<y)(h:aX y<=900):aX (Nat.gcd x y)<=900:=cd (EU (anq hy (am8 x y))) h
theorem wT(hx:aX x<=a)(hy:aX y<=b):aX (x*y)<=a+b:=by
 refine gr cw ?_;rw [vT];exact YR (eC cw hx) (eC cw hy)
theorem afI(hx:aX x<=a)(hy:aX y<=a):aX (x+y)<=a+1:=by
 refine gr cw ?_;have h1:=eC cw hx;have h2:=eC cw hy;rw [iE];generalize ae^a=P at *
 show x+y<P*4294967296
 omega
theorem avS(h:ca x=ca y):x=y:=by rw [<- jd x,<- jd y,h]
theorem avT:oz x y<0↔x<y:=by
 exact afz
theorem tN{F:ba}(h:F.right=true):0<F.den:=by
 unfold ba.right at h;simp only [aD,aU] at h;exact FW h.1.1
theorem afJ(h:eh f) : [Kx.i IntKind.u32 f.n0,Kx.i IntKind.u32 f.n1,Kx.i IntKind.u32 f.n2,Kx.i IntKind.u32 f.n3,Kx.i IntKind.u32 f.n4,Kx.i IntKind.u32 f.n5,Kx.i IntKind.u32 f.n6,Kx.i IntKind.u32 f.n7]=ye (aB f).num:=by
 obtain⟨_,_,hv⟩:=jL h;unfold ye;rw [<- congrArg bh.n0 hv,<- congrArg bh.n1 hv,<- congrArg bh.n2 hv,<- congrArg bh.n3 hv,<- congrArg bh.n4 hv,<- congrArg bh.n5 hv,<- congrArg bh.n6 hv,<- congrArg bh.n7 hv];rfl
theorem afK(h:eh f) : [Kx.f (aB f).neg,Kx.i IntKind.u32 f.n0,Kx.i IntKind.u32 f.n1,Kx.i IntKind.u32 f.n2,Kx.i IntKind.u32 f.n3,Kx.i IntKind.u32 f.n4,Kx.i IntKind.u32 f.n5,Kx.i IntKind.u32 f.n6,Kx.i IntKind.u32 f.n7,Kx.i IntKind.u32 f.d0,Kx.i IntKind.u32 f.d1,Kx.i IntKind.u32 f.d2,Kx.i IntKind.u32 f.d3,Kx.i IntKind.u32 f.d4,Kx.i IntKind.u32 f.d5,Kx.i IntKind.u32 f.d6,Kx.i IntKind.u32 f.d7]=IF (aB f):=by
 obtain⟨_,_,hv⟩:=jL h;unfold IF ye;rw [<- congrArg bh.n0 hv,<- congrArg bh.n1 hv,<- congrArg bh.n2 hv,<- congrArg bh.n3 hv,<- congrArg bh.n4 hv,<- congrArg bh.n5 hv,<- congrArg bh.n6 hv,<- congrArg bh.n7 hv,<- congrArg bh.d0 hv,<- congrArg bh.d1 hv,<- congrArg bh.d2 hv,<- congrArg bh.d3 hv,<- congrArg bh.d4 hv,<- congrArg bh.d5 hv,<- congrArg bh.d6 hv,<- congrArg bh.d7 hv];rfl
theorem avU : [Kx.i IntKind.u32 0,Kx.i IntKind.u32 0,Kx.i IntKind.u32 0,Kx.i IntKind.u32 0,Kx.i IntKind.u32 0,Kx.i IntKind.u32 0,Kx.i IntKind.u32 0,Kx.i IntKind.u32 0]=ye 0:=rfl
def yj(F:ba×Int)(neg:Bool)(n d:Nat->Int)(e:Int):Prop:=neg=F.1.neg/\n 0=az F.1.num 0/\n 1=az F.1.num 1/\n 2=az F.1.num 2/\n 3=az F.1.num 3/\n 4=az F.1.num 4/\n 5=az F.1.num 5/\n 6=az F.1.num 6/\n 7=az F.1.num 7/\d 0=az F.1.den 0/\d 1=az F.1.den 1/\d 2=az F.1.den 2/\d 3=az F.1.den 3/\d 4=az F.1.den 4/\d 5=az F.1.den 5/\d 6=az F.1.den 6/\d 7=az F.1.den 7/\e=F.2
def zY(z i:Nat):Int:=bif decide (i<(ca z).length) then (ca z).getD i Tc.u32.aa else 0
theorem pK(z:Nat)(h:i<8):zY z i=az z i:=by
 unfold zY az;rw [EP h,show Tc.u32.aa=0 from rfl,tK,rG,eY]
 cases h2:decide (i<aX z) with
 | true=>rfl
 | false=>rw [IM (by have:=FV h2; omega)]; rfl
theorem afL{F G:ba}(h:F=G):F.neg=G.neg/\az F.num 0=az G.num 0/\az F.num 1=az G.num 1/\az F.num 2=az G.num 2/\az F.num 3=az G.num 3/\az F.num 4=az G.num 4/\az F.num 5=az G.num 5/\az F.num 6=az G.num 6/\az F.num 7=az G.num 7/\az F.den 0=az G.den 0/\az F.den 1=az G.den 1/\az F.den 2=az G.den 2/\az F.den 3=az G.den 3/\az F.den 4=az G.den 4/\az F.den 5=az G.den 5/\az F.den 6=az G.den 6/\az F.den 7=az G.den 7:=by
 subst h;exact⟨rfl,rfl,rfl,rfl,rfl,rfl,rfl,rfl,rfl,rfl,rfl,rfl,rfl,rfl,rfl,rfl,rfl⟩
theorem mN(h:F=G):F.1.neg=G.1.neg/\az F.1.num 0=az G.1.num 0/\az F.1.num 1=az G.1.num 1/\az F.1.num 2=az G.1.num 2/\az F.1.num 3=az G.1.num 3/\az F.1.num 4=az G.1.num 4/\az F.1.num 5=az G.1.num 5/\az F.1.num 6=az G.1.num 6/\az F.1.num 7=az G.1.num 7/\az F.1.den 0=az G.1.den 0/\az F.1.den 1=az G.1.den 1/\az F.1.den 2=az G.1.den 2/\az F.1.den 3=az G.1.den 3/\az F.1.den 4=az G.1.den 4/\az F.1.den 5=az G.1.den 5/\az F.1.den 6=az G.1.den 6/\az F.1.den 7=az G.1.den 7/\F.2=G.2:=by
 subst h;exact⟨rfl,rfl,rfl,rfl,rfl,rfl,rfl,rfl,rfl,rfl,rfl,rfl,rfl,rfl,rfl,rfl,rfl,rfl⟩
theorem nv{e:Int}(h:F=(qU,e)):yj F false (fun _=>0) (fun _=>0) e:=by
 subst h;exact⟨rfl,(ku 0 (by decide)).symm,(ku 1 (by decide)).symm,(ku 2 (by decide)).symm,(ku 3 (by decide)).symm,(ku 4 (by decide)).symm,(ku 5 (by decide)).symm,(ku 6 (by decide)).symm,(ku 7 (by decide)).symm,(ku 0 (by decide)).symm,(ku 1 (by decide)).symm,(ku 2 (by decide)).symm,(ku 3 (by decide)).symm,(ku 4 (by decide)).symm,(ku 5 (by decide)).symm,(ku 6 (by decide)).symm,(ku 7 (by decide)).symm,rfl⟩
theorem afM{s:Bool}(hf:F=if Q<cA/\R<cA then (⟨s&&decide (Q≠0),Q,R⟩,0) else (qU,3)) :
 (8<((ca Q).length:Int)->yj F false (fun _=>0) (fun _=>0) 3)/\(¬8<((ca Q).length:Int)->(8<((ca R).length:Int)->yj F false (fun _=>0) (fun _=>0) 3)/\(¬8<((ca R).length:Int)->(s=true->yj F (decide (0<((ca Q).length:Int))) (zY Q) (zY R) 0)/\(s=false->yj F false (zY Q) (zY R) 0))):=by
 simp only [eY];have hq:=QB Q;have hr:=QB R;have no:¬(Q<cA/\R<cA)->yj F false (fun _=>0) (fun _=>0) 3:=fun h=>by
  exact nv (by rw [hf,ax h])
 have go:∀ b,Q<cA/\R<cA->b=(s&&decide (Q≠0))->yj F b (zY Q) (zY R) 0:=fun b h hb=>by
  rw [hf,aG h];exact⟨hb,pK _ (by decide),pK _ (by decide),pK _ (by decide),pK _ (by decide),pK _ (by decide),pK _ (by decide),pK _ (by decide),pK _ (by decide),pK _ (by decide),pK _ (by decide),pK _ (by decide),pK _ (by decide),pK _ (by decide),pK _ (by decide),pK _ (by decide),pK _ (by decide),rfl⟩
 refine⟨fun h=>no fun h2 => ?_,fun h1=>⟨fun h=>no fun h2 => ?_,fun h2 => ?_⟩⟩
 . have:=hq.1 h2.1; omega
 . have:=hr.1 h2.2; omega
 . have h3:Q<cA/\R<cA:=⟨hq.2 oo,hr.2 oo⟩
   refine⟨fun hs=>go _ h3 ?_,fun hs=>go _ h3 (by rw [hs]; rfl)⟩;rw [hs,fe];have := @Gt Q;exact vM.2 oo
def EV:aC:=ns 44 kB l7 l7 (fun _ a b=>(eX (a ())/\(a ()).length<=900)/\(eX (b ())/\(b ()).length<=900)/\0<dX (b ())) (fun s a b => .bp [.agg (gp fun _=>(jl (s ()) (dX (a ())) (dX (b ()))).1),.int .i64 fun _=>(jl (s ()) (dX (a ())) (dX (b ()))).2])
theorem IX:aE Tryz.prog EV:=by
 refine bZ { kp := [(0,[0,1,2]),(1,[0,1,2,6]),(2,[0,1,2,6,8]),(3,[0,1,2,6,8]),(4,[0,1,2,6,8]),(5,[0,1,2,6]),(6,[6]),(7,[0,1,2,6]),(8,[1,2,6,9]),(9,[2,6,9]),(10,[6,9])] } [Vo,US,Vn] ⟨afF,ae1,afy,trivial⟩ [] trivial Tryz.func44 (by kernel_rfl) fun ah res h hp => ?_;obtain⟨(s:Bool),(a:List Int),(b:List Int),rfl,rfl⟩:=oR h;clear h;obtain⟨⟨ha,kX⟩,⟨hb,fJ⟩,gu⟩:(eX a/\a.length<=900)/\(eX b/\b.length<=900)/\0<dX b:=hp;obtain⟨x,rfl,hx⟩:=n9 ha;obtain⟨y,rfl,hy⟩:=n9 hb;rw [jd] at gu;rw [eY] at kX fJ;clear ha hb;refine⟨[],?_⟩;refine fm ?_;simp only [jd];have ix:eX (ca x)/\(ca x).length<=900:=⟨dI hx,by rw [eY]; exact kX⟩
 have iy:eX (ca y)/\(ca y).length<=900:=⟨dI hy,by rw [eY]; exact fJ⟩
 have gl:=afH (x:=x) gu fJ;have ig:eX (ca (Nat.gcd x y))/\(ca (Nat.gcd x y)).length<=900:=⟨dI oo,by rw [eY]; exact gl⟩
 have g0:0<Nat.gcd x y:=amR _ gu;refine⟨⟨ix,iy⟩,ig.1,fun hg=>⟨⟨ix,ig,g0⟩,⟨iy,ig,g0⟩,afM (QC rfl rfl rfl)⟩,fun hg => ?_⟩;have h1:Nat.gcd x y=1:=by simpa using hg
 exact afM (QC rfl (by rw [h1,sf]) (by rw [h1,sf]))
def CB:aC:=cL 89 gn (fun f=>eh (f ())) (fun f => .bool fun _=>(aB (f ())).right)
theorem EW:aE Tryz.prog CB:=by
 refine bZ { kp := [(0,[0]),(1,[1]),(2,[1,3,4])] } [EL,Vo,US] ⟨IG,afF,ae1,trivial⟩ [] trivial Tryz.func89 (by kernel_rfl) fun ah res h hp => ?_;obtain⟨(f:bh),rfl,rfl⟩:=cS h;clear h;refine⟨[],?_⟩;refine fm ?_;obtain⟨_,hf,_⟩:=jL hp;simp only [oT,jd,eY];have hn:f.neg=(aB f).neg:=rfl;rw [hn];generalize aB f=F at *
 obtain⟨neg,n,d⟩:=F;have h1:aX n<=8:=gV hf.1;have h2:aX d<=8:=gV hf.2;have h3 := @Gt n;have h4 := @Gt d;unfold ba.right;dsimp only;have hd:0<((aX d:Nat):Int)->d≠0:=oo
 refine⟨hp,fun h=>⟨⟨⟨dI oo,oo⟩,dI oo,oo⟩,dI (cd (afH (FW (hd h)) oo) (by decide)),fun g=>⟨fun hs => ?_,fun hs => ?_⟩,fun g => ?_⟩,fun h => ?_⟩
 . rw [hs,cT (hd h),cT g];have:decide (((aX n:Nat):Int)=0)=decide (n=0):=vM.2 oo;rw [this];rfl
 . rw [hs,cT (hd h),cT g];rfl
 . rw [dB g,nK,yM]
 . rw [dB (show ¬d≠0 from oo),yM,yM]
end Go.Proofs.YtamjbkaclhgffaaGreat
