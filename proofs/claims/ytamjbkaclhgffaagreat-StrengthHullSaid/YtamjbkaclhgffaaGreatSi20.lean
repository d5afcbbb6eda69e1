/-
  frac by the abstract run: fit, Right.
-/
import Derived.Test.YtamjbkaclhgffaaGreatSi19
set_option linter.all false
set_option maxRecDepth 100000
set_option maxHeartbeats 4000000
namespace Go.Proofs.YtamjbkaclhgffaaGreat
open Go.RowKit
variable{Q R a b i x y:Nat}{F G:aY×Int}{f:bB}
theorem adp(hy:0<y)(h:aM y<=900):aM (Nat.gcd x y)<=900:=dQ (DD (Nat.le_of_dvd hy (Nat.gcd_dvd_right x y))) h
theorem vg(hx:aM x<=a)(hy:aM y<=b):aM (x*y)<=a+b:=by
 refine uw bT ?_;rw [Cc];exact ajp (iE bT hx) (iE bT hy)
theorem adq(hx:aM x<=a)(hy:aM y<=a):aM (x+y)<=a+1:=by
 refine uw bT ?_;have h1:=iE bT hx;have h2:=iE bT hy;rw [kg];generalize ae^a=P at *
 show x+y<P*4294967296
 omega
theorem arF(h:bH x=bH y):x=y:=by rw [<- ik x,<- ik y,h]
theorem arG:mV x y<0↔x<y:=by
 exact ade
theorem A6{F:aY}(h:F.right=true):0<F.den:=by
 unfold aY.right at h;simp only [ax,aL] at h;exact WB h.1.1
theorem adr(h:iM f) : [Kx.i IntKind.u32 f.n0,Kx.i IntKind.u32 f.n1,Kx.i IntKind.u32 f.n2,Kx.i IntKind.u32 f.n3,Kx.i IntKind.u32 f.n4,Kx.i IntKind.u32 f.n5,Kx.i IntKind.u32 f.n6,Kx.i IntKind.u32 f.n7]=wX (bj f).num:=by
 obtain⟨_,_,hv⟩:=nm h;unfold wX;rw [<- congrArg bB.n0 hv,<- congrArg bB.n1 hv,<- congrArg bB.n2 hv,<- congrArg bB.n3 hv,<- congrArg bB.n4 hv,<- congrArg bB.n5 hv,<- congrArg bB.n6 hv,<- congrArg bB.n7 hv];rfl
theorem ads(h:iM f) : [Kx.f (bj f).neg,Kx.i IntKind.u32 f.n0,Kx.i IntKind.u32 f.n1,Kx.i IntKind.u32 f.n2,Kx.i IntKind.u32 f.n3,Kx.i IntKind.u32 f.n4,Kx.i IntKind.u32 f.n5,Kx.i IntKind.u32 f.n6,Kx.i IntKind.u32 f.n7,Kx.i IntKind.u32 f.d0,Kx.i IntKind.u32 f.d1,Kx.i IntKind.u32 f.d2,Kx.i IntKind.u32 f.d3,Kx.i IntKind.u32 f.d4,Kx.i IntKind.u32 f.d5,Kx.i IntKind.u32 f.d6,Kx.i IntKind.u32 f.d7]=GL (bj f):=by
 obtain⟨_,_,hv⟩:=nm h;unfold GL wX;rw [<- congrArg bB.n0 hv,<- congrArg bB.n1 hv,<- congrArg bB.n2 hv,<- congrArg bB.n3 hv,<- congrArg bB.n4 hv,<- congrArg bB.n5 hv,<- congrArg bB.n6 hv,<- congrArg bB.n7 hv,<- congrArg bB.d0 hv,<- congrArg bB.d1 hv,<- congrArg bB.d2 hv,<- congrArg bB.d3 hv,<- congrArg bB.d4 hv,<- congrArg bB.d5 hv,<- congrArg bB.d6 hv,<- congrArg bB.d7 hv];rfl
theorem arH : [Kx.i IntKind.u32 0,Kx.i IntKind.u32 0,Kx.i IntKind.u32 0,Kx.i IntKind.u32 0,Kx.i IntKind.u32 0,Kx.i IntKind.u32 0,Kx.i IntKind.u32 0,Kx.i IntKind.u32 0]=wX 0:=rfl
def A7(F:aY×Int)(neg:Bool)(n d:Nat->Int)(e:Int):Prop:=neg=F.1.neg/\n 0=ay F.1.num 0/\n 1=ay F.1.num 1/\n 2=ay F.1.num 2/\n 3=ay F.1.num 3/\n 4=ay F.1.num 4/\n 5=ay F.1.num 5/\n 6=ay F.1.num 6/\n 7=ay F.1.num 7/\d 0=ay F.1.den 0/\d 1=ay F.1.den 1/\d 2=ay F.1.den 2/\d 3=ay F.1.den 3/\d 4=ay F.1.den 4/\d 5=ay F.1.den 5/\d 6=ay F.1.den 6/\d 7=ay F.1.den 7/\e=F.2
def y7(z i:Nat):Int:=bif decide (i<(bH z).length) then (bH z).getD i Tc.u32.aa else 0
theorem ob(z)(h:i<8):y7 z i=ay z i:=by
 unfold y7 ay;rw [GW h,show Tc.u32.aa=0 from rfl,r8,p6,dZ]
 cases h2:decide (i<aM z) with
 | true=>rfl
 | false=>rw [GV (by have:=IH h2; omega)]; rfl
theorem arI{F G:aY}(h:F=G):F.neg=G.neg/\ay F.num 0=ay G.num 0/\ay F.num 1=ay G.num 1/\ay F.num 2=ay G.num 2/\ay F.num 3=ay G.num 3/\ay F.num 4=ay G.num 4/\ay F.num 5=ay G.num 5/\ay F.num 6=ay G.num 6/\ay F.num 7=ay G.num 7/\ay F.den 0=ay G.den 0/\ay F.den 1=ay G.den 1/\ay F.den 2=ay G.den 2/\ay F.den 3=ay G.den 3/\ay F.den 4=ay G.den 4/\ay F.den 5=ay G.den 5/\ay F.den 6=ay G.den 6/\ay F.den 7=ay G.den 7:=by
 subst h;exact⟨rfl,rfl,rfl,rfl,rfl,rfl,rfl,rfl,rfl,rfl,rfl,rfl,rfl,rfl,rfl,rfl,rfl⟩
theorem tJ(h:F=G):F.1.neg=G.1.neg/\ay F.1.num 0=ay G.1.num 0/\ay F.1.num 1=ay G.1.num 1/\ay F.1.num 2=ay G.1.num 2/\ay F.1.num 3=ay G.1.num 3/\ay F.1.num 4=ay G.1.num 4/\ay F.1.num 5=ay G.1.num 5/\ay F.1.num 6=ay G.1.num 6/\ay F.1.num 7=ay G.1.num 7/\ay F.1.den 0=ay G.1.den 0/\ay F.1.den 1=ay G.1.den 1/\ay F.1.den 2=ay G.1.den 2/\ay F.1.den 3=ay G.1.den 3/\ay F.1.den 4=ay G.1.den 4/\ay F.1.den 5=ay G.1.den 5/\ay F.1.den 6=ay G.1.den 6/\ay F.1.den 7=ay G.1.den 7/\F.2=G.2:=by
 subst h;exact⟨rfl,rfl,rfl,rfl,rfl,rfl,rfl,rfl,rfl,rfl,rfl,rfl,rfl,rfl,rfl,rfl,rfl,rfl⟩
theorem tK{e:Int}(h:F=(py,e)):A7 F false (fun _=>0) (fun _=>0) e:=by
 subst h;exact⟨rfl,(oa 0 (by decide)).symm,(oa 1 (by decide)).symm,(oa 2 (by decide)).symm,(oa 3 (by decide)).symm,(oa 4 (by decide)).symm,(oa 5 (by decide)).symm,(oa 6 (by decide)).symm,(oa 7 (by decide)).symm,(oa 0 (by decide)).symm,(oa 1 (by decide)).symm,(oa 2 (by decide)).symm,(oa 3 (by decide)).symm,(oa 4 (by decide)).symm,(oa 5 (by decide)).symm,(oa 6 (by decide)).symm,(oa 7 (by decide)).symm,rfl⟩
theorem adt{s:Bool}(hf:F=if Q<c7/\R<c7 then (⟨s&&decide (Q≠0),Q,R⟩,0) else (py,3)) :
 (8<((bH Q).length:Int)->A7 F false (fun _=>0) (fun _=>0) 3)/\(¬8<((bH Q).length:Int)->(8<((bH R).length:Int)->A7 F false (fun _=>0) (fun _=>0) 3)/\(¬8<((bH R).length:Int)->(s=true->A7 F (decide (0<((bH Q).length:Int))) (y7 Q) (y7 R) 0)/\(s=false->A7 F false (y7 Q) (y7 R) 0))):=by
 simp only [dZ];have hq:=OF Q;have hr:=OF R;have no:¬(Q<c7/\R<c7)->A7 F false (fun _=>0) (fun _=>0) 3:=fun h=>by
  exact tK (by rw [hf,aw h])
 have go:∀ b,Q<c7/\R<c7->b=(s&&decide (Q≠0))->A7 F b (y7 Q) (y7 R) 0:=fun b h hb=>by
  rw [hf,aC h];exact⟨hb,ob _ (by decide),ob _ (by decide),ob _ (by decide),ob _ (by decide),ob _ (by decide),ob _ (by decide),ob _ (by decide),ob _ (by decide),ob _ (by decide),ob _ (by decide),ob _ (by decide),ob _ (by decide),ob _ (by decide),ob _ (by decide),ob _ (by decide),ob _ (by decide),rfl⟩
 refine⟨fun h=>no fun h2 => ?_,fun h1=>⟨fun h=>no fun h2 => ?_,fun h2 => ?_⟩⟩
 . have:=hq.1 h2.1; omega
 . have:=hr.1 h2.2; omega
 . have h3:Q<c7/\R<c7:=⟨hq.2 oo,hr.2 oo⟩
   refine⟨fun hs=>go _ h3 ?_,fun hs=>go _ h3 (by rw [hs]; rfl)⟩;rw [hs,eu];have := @EM Q;exact El.2 oo
def DE:aN:=qR 44 kB kD kD (fun _ a b=>(dY (a ())/\(a ()).length<=900)/\(dY (b ())/\(b ()).length<=900)/\0<dI (b ())) (fun s a b => .ba [.agg (r9 fun _=>(jX (s ()) (dI (a ())) (dI (b ()))).1),.int .i64 fun _=>(jX (s ()) (dI (a ())) (dI (b ()))).2])
theorem G7:aU Tryz.prog DE:=by
 refine fH { kp := [(0,[0,1,2]),(1,[0,1,2,6]),(2,[0,1,2,6,8]),(3,[0,1,2,6,8]),(4,[0,1,2,6,8]),(5,[0,1,2,6]),(6,[6]),(7,[0,1,2,6]),(8,[1,2,6,9]),(9,[2,6,9]),(10,[6,9])] } [TG,Td,TF] ⟨adn,acF,adb,trivial⟩ [] trivial Tryz.func44 (by kernel_rfl) fun ai res h hp => ?_;obtain⟨(s:Bool),(a:List Int),(b:List Int),rfl,rfl⟩:=tE h;clear h;obtain⟨⟨ha,pR⟩,⟨hb,iG⟩,jG⟩:(dY a/\a.length<=900)/\(dY b/\b.length<=900)/\0<dI b:=hp;obtain⟨x,rfl,hx⟩:=mD ha;obtain⟨y,rfl,hy⟩:=mD hb;rw [ik] at jG;rw [dZ] at pR iG;clear ha hb;refine⟨[],?_⟩;refine fm ?_;simp only [ik];have ix:dY (bH x)/\(bH x).length<=900:=⟨dA hx,by rw [dZ]; exact pR⟩
 have iy:dY (bH y)/\(bH y).length<=900:=⟨dA hy,by rw [dZ]; exact iG⟩
 have gl:=adp (x:=x) jG iG;have ig:dY (bH (Nat.gcd x y))/\(bH (Nat.gcd x y)).length<=900:=⟨dA oo,by rw [dZ]; exact gl⟩
 have g0:0<Nat.gcd x y:=azk _ jG;refine⟨⟨ix,iy⟩,ig.1,fun hg=>⟨⟨ix,ig,g0⟩,⟨iy,ig,g0⟩,adt (Xo rfl rfl rfl)⟩,fun hg => ?_⟩;have h1:Nat.gcd x y=1:=by simpa using hg
 exact adt (Xo rfl (by rw [h1,vR]) (by rw [h1,vR]))
def A8:aN:=fY 89 nk (fun f=>iM (f ())) (fun f => .bool fun _=>(bj (f ())).right)
theorem DF:aU Tryz.prog A8:=by
 refine fH { kp := [(0,[0]),(1,[1]),(2,[1,3,4])] } [Dt,TG,Td] ⟨GN,adn,acF,trivial⟩ [] trivial Tryz.func89 (by kernel_rfl) fun ai res h hp => ?_;obtain⟨(f:bB),rfl,rfl⟩:=gM h;clear h;refine⟨[],?_⟩;refine fm ?_;obtain⟨_,hf,_⟩:=nm hp;simp only [u7,ik,dZ];have hn:f.neg=(bj f).neg:=rfl;rw [hn];generalize bj f=F at *
 obtain⟨neg,n,d⟩:=F;have h1:aM n<=8:=gn hf.1;have h2:aM d<=8:=gn hf.2;have h3 := @EM n;have h4 := @EM d;unfold aY.right;dsimp only;have hd:0<((aM d:Nat):Int)->d≠0:=oo
 refine⟨hp,fun h=>⟨⟨⟨dA oo,oo⟩,dA oo,oo⟩,dA (dQ (adp (WB (hd h)) oo) (by decide)),fun g=>⟨fun hs => ?_,fun hs => ?_⟩,fun g => ?_⟩,fun h => ?_⟩
 . rw [hs,dP (hd h),dP g];have:decide (((aM n:Nat):Int)=0)=decide (n=0):=El.2 oo;rw [this];rfl
 . rw [hs,dP (hd h),dP g];rfl
 . rw [jW g,zC,B8]
 . rw [jW (show ¬d≠0 from oo),B8,B8]
end Go.Proofs.YtamjbkaclhgffaaGreat
