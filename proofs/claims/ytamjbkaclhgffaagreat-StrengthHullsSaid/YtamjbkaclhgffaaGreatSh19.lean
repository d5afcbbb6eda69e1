/-
  frac by the abstract run: divide.
-/
import Derived.Test.YtamjbkaclhgffaaGreatSh18
set_option linter.all false
set_option maxRecDepth 100000
set_option maxHeartbeats 4000000
namespace Go.Proofs.YtamjbkaclhgffaaGreat
open Go.RowKit
variable{m n x y:Nat}
theorem avH:jb Tryz.prog (giveUp 127):=UN Tryz.func127 (by kernel_rfl)
theorem avI(hx:aX x=m+n)(hy:aX y=n)(hn:0<n):x / y<ae^(m+1):=by
 have h1:x<ae^(m+n):=eC cw (mU hx);have h2:ae^(n - 1)<=y:=(uw cw).1 (show n - 1<aX y from oo);have h3:ae^(m+n)=ae^(n - 1)*ae^(m+1):=by rw [<- vT]; congr 1; omega
 have h4:ae^(n - 1)*ae^(m+1)<=y*ae^(m+1):=pd _ h2;exact AI oo
def avJ(X V n m T:Nat):Lp where
 X:=Nat
 ov j := [(13,.int .i64 fun _=>(j:Int) - 1),(10,.own 0),(12,.own 3)]
 oe j := [(0,.row false .u32 T fun _=>cl (pad ae (m+n+1) (dJ X V j))),(3,.row false .u32 T fun _=>cl (wS X V m j))]
 I j:=j<=m+1
 μ j _:=j
 x0:=m+1
 nx:=some fun j=>j - 1
def avK(W V n i g T:Nat)(L:List Int):Lp where
 X:=Nat
 ov h := [(15,.int .u64 fun _=>(h:Int)),(16,.bool fun _=>decide (W<h*V)),(10,.own 0)]
 oe h := [(0,.row false .u32 T fun _=>kx L i (i+n+1) (W+ae^(n+1) - h*V))]
 I h:=W / V<=h/\h<=g
 μ h _:=h
 x0:=g
 nx:=some fun h=>h - 1
theorem avL(a:Nat):(bif decide ((4294967295:Int)<(a:Int)) then (4294967295:Int) else (a:Int))=((min a 4294967295:Nat):Int):=by
 cases h:decide ((4294967295:Int)<(a:Int)) with
 | true=>have:=r8 h; rw [pg]; omega
 | false=>have:=FV h; rw [qP]; omega
def Vn:aC:=bE 104 l7 l7 (fun a b=>(eX (a ())/\(a ()).length<=900)/\(eX (b ())/\(b ()).length<=900)/\0<dX (b ())) (fun a b => .bp [.sl false .u32 fun _=>ca (dX (a ()) / dX (b ())),.sl false .u32 fun _=>ca (dX (a ()) % dX (b ()))])
theorem afy:aE Tryz.prog Vn:=by
 refine bZ { kp := [(0,[0,1]),(1,[0,1]),(2,[0]),(3,[0,1]),(4,[0,1]),(5,[0,1]),(6,[0,1]),(7,[1,6]),(8,[6,7]),(9,[0,1]),(10,[0,1,8]),(11,[0,1,8,9]),(12,[0,8,9,10,11]),(13,[0,8,9,10,11]),(14,[0,8,9,10,11,12]),(15,[8,9,10,11,12,13]),(16,[8,9,10,11,12,13]),(17,[8,9,10,11,12,13]),(18,[8,9,10,11,12,13,14]),(19,[8,9,10,11,12,13,15]),(20,[8,9,10,11,12,13,15,16]),(21,[8,9,10,11,12,13,15,16]),(22,[8,9,10,11,12,13,15]),(23,[8,9,10,11,12,13,15]),(24,[8,9,10,12]),(25,[9,12,17]),(26,[12,17])],lt := [(11,⟨[0,4,5,1,2,3,6,7,8,9],[0,4,5],[],[⟨[0,1,2],[0,8,9,10,11,68,69,70,71,72,73,74,75],(0,0),[(3,1,1),(6,6,2)]⟩,⟨[0,1,2,3],[0,8,9,10,11,69,70,71,72,73,74,75],(0,1),[(4,2,3)]⟩,⟨[0,1,2,6],[0,8,9,10,11,68,69,70,71,72,74,75],(0,6),[(3,1,4),(7,7,5)]⟩,⟨[0,1,2,3,4],[0,8,9,10,11,70,71,72,73,74,75],(1,2),[(5,3,6),(6,6,7)]⟩,⟨[0,1,2,3,6],[0,8,9,10,11,69,70,71,72,74,75],(2,1),[(4,2,7)]⟩,⟨[0,1,2,6,7],[0,8,9,10,11,68,69,70,71,75],(2,7),[(3,1,8)]⟩,⟨[0,1,2,3,4,5],[0,8,9,10,11,71,72,73,74,75],(3,3),[(6,6,9)]⟩,⟨[0,1,2,3,4,6],[0,8,9,10,11,70,71,72,74,75],(3,6),[(5,3,9),(7,7,10)]⟩,⟨[0,1,2,3,6,7],[0,8,9,10,11,69,70,71,75],(5,1),[(4,2,10)]⟩,⟨[0,1,2,3,4,5,6],[0,8,9,10,11,71,72,74,75],(6,6),[(7,7,11)]⟩,⟨[0,1,2,3,4,6,7],[0,8,9,10,11,70,71,75],(7,7),[(5,3,11)]⟩,⟨[0,1,2,3,4,5,6,7],[0,8,9,10,11,71,75],(9,7),[]⟩],[8,9]⟩),(17,⟨[0,1,2,3,4,5,6,7,8,9,10,11,12,13,14,15,16,17],[0,1,2,3,4,5,6,7,8,9,10,11,12,13,14,15,16,17],[],[],[]⟩)] } [EM,NT,ae3,NX,ER] ⟨IH,UR,auv,U9,IQ,trivial⟩ [giveUp 105,giveUp 127,NV,Vg,U6,U4] ⟨II,avH,ae5,avr,au1,auY,trivial⟩ Tryz.func104 (by kernel_rfl) fun ah res h hp => ?_;obtain⟨(a:List Int),(b:List Int),rfl,rfl⟩:=bG h;clear h;obtain⟨⟨ha,kX⟩,⟨hb,fJ⟩,gu⟩:(eX a/\a.length<=900)/\(eX b/\b.length<=900)/\0<dX b:=hp;obtain⟨x,rfl,hx⟩:=n9 ha;obtain⟨y,rfl,hy⟩:=n9 hb;rw [jd] at gu;rw [eY] at kX fJ;clear ha hb;refine⟨[],?_⟩;refine fm ?_;have ix:=dI hx;have iy:=dI hy;have dr:Tc.u32.aa=0:=rfl;simp only [jd,eY,tK,rG,dr];have mK:ca 0 = []:=by unfold ca; rw [vV cw]; rfl
 have N5:oz x y<0↔x<y:=by
  exact afz
 refine⟨⟨ix,iy⟩,fun g1 => ?_,fun g1=>⟨fun g2 => ?_,fun g2=>⟨fun g3 => ?_,fun g3 => ?_⟩⟩⟩
 . have nu:=N5.1 g1;exact⟨oo,by rw [jA nu,mK],by rw [er nu]⟩
 . have nu:y<=x:=Kr fun h=>g1 (N5.2 h);have h1:=an6 (x:=x) oo;rw [er h1,er (show y<18446744073709551616 from oo)];have h2:x / y<=x:=yJ _ _;have h3:x % y<=x:=Nat.mod_le _ _;have e1:((x:Int)).tdiv (y:Int)=((x / y:Nat):Int):=rfl;have e2:((x:Int)).tmod (y:Int)=((x % y:Nat):Int):=rfl;rw [e1,e2];clear e1 e2;generalize x / y=q at *
   generalize x % y=r at *
   rw [gJ (n:=q) oo,fB,fB];exact⟨ix,iy,oo,⟨oo,oo⟩,ix,iy,oo,⟨oo,oo⟩,rfl,rfl⟩
 . have nu:y<=x:=Kr fun h=>g1 (N5.2 h);obtain⟨d1,d2,d3⟩:=an7 (y:=y) oo;have hy0:dg y (Int.toNat 0)=y:=by
    show y / ae^0 % ae=y
    rw [mT,sf,er d3]
   have qx:ca x=cl (pad ae (aX x) x):=by rw [auE x rfl]; rfl
   have IW:=eC cw (n:=x) (k:=aX x) (aN _);have hq:x / y<=x:=yJ _ _;have hr:x % y<y:=jk _ gu;have e1:cU (ca x) 0 (aX x)=x:=by
    rw [qx,Vi (aN _) (bw _),mT,sf,sd,er IW]
   have e2:kx (ca x) 0 (aX x) (x / y)=cl (pad ae (aX x) (x / y)):=by
    rw [qx];exact Vj (aN _) (bw _) (by rw [mT,qO,qO]) (by rw [mT,sf]) (by rw [jA IW,jA oo])
   simp only [hy0,fB,e1,e2];rw [gJ (n:=x % y) oo,fB,rF,ox (by decide) _ _ (show x / y<ae^aX x from oo)];exact⟨oo,⟨oo,oo⟩,⟨⟨oo,oo⟩,⟨aul hx,oo⟩,oo,oo⟩,IV oo,⟨oo,oo⟩,rfl,rfl⟩
 . have nu:y<=x:=Kr fun h=>g1 (N5.2 h);obtain⟨n,hn⟩:∃ n,n=aX y:=⟨_,rfl⟩
   have qX:2<=n:=by
    have:=Gf cw (n:=y) oo;have h2:0<aX y:=this;omega
   have hle:n<=aX x:=by
    rcases cv (aX x) n with h|h
    . have:=Du cw (m:=x) (n:=y) (show aX x<aX y from oo); omega
    . exact h
   obtain⟨m,hm⟩:∃ m,aX x=m+n:=⟨aX x - n,oo⟩
   obtain⟨s,hs⟩:∃ s,s=ae / (dg y (n - 1)+1):=⟨_,rfl⟩
   obtain⟨pk,jS,hlV⟩:=an0 (y:=y) (k:=n - 1) oo (rG y (n - 1)).symm hs;have hdy:=l8 y (n - 1);have hB:ae=4294967296:=rfl;have e1:IntKind.u64.wrap (IntKind.u64.wrap (dg y (n - 1):Int)+1)=((dg y (n - 1)+1:Nat):Int):=by
    rw [gJ (n:=dg y (n - 1)) oo];exact gJ (n:=dg y (n - 1)+1) oo
   have e2:IntKind.u32.wrap (IntKind.u64.wrap (Int.tdiv 4294967296 ((dg y (n - 1)+1:Nat):Int)))=(s:Int):=by
    rw [show Int.tdiv 4294967296 ((dg y (n - 1)+1:Nat):Int)=((4294967296 / (dg y (n - 1)+1):Nat):Int) from rfl,<- hs,gJ (n:=s) oo,wrap_u32,er jS]
   have e3 : [(s:Int)]=ca s:=by unfold ca; rw [sk cw oo,er jS,jA jS,vV cw]; rfl
   have BS:aX s<=1:=gr cw (by rw [Qb]; exact jS);have is:=dI (n:=s) oo;rw [<- hn,hm];simp only [e1,e2,e3,jd];have zf:(((m+n:Nat):Int)+1).toNat=m+n+1:=oo
   have avN:(((m+n:Nat):Int) - (n:Int)+1).toNat=m+1:=oo
   have tL:aX (x*s)<=m+n+1:=by
    have h1:=eC cw (n:=x) (k:=m+n) (show aX x<=m+n from oo);refine gr cw ?_;rw [iE];exact YR h1 jS
   have dO:(ca (x*s)).take (List.replicate (m+n+1) (0:Int)).length++(List.replicate (m+n+1) (0:Int)).drop (ca (x*s)).length=cl (pad ae (m+n+1) (x*s)):=by
    rw [td,ez (by rw [eY]; exact tL),eY,KE cw (eC cw tL),wJ,List.drop_replicate,IB];rfl
   simp only [zf,avN,dO];have ka:0<y*s:=uu gu pk;have N6:aX (y*s)=n:=oo
   have tp:y*s<ae^n:=eC cw (mU N6);refine⟨ii,⟨oo,oo⟩,oo,ii,⟨iy,is⟩,⟨oo,oo⟩,ii,⟨oo,oo⟩,⟨iy,is⟩,ii,⟨iy,is⟩,⟨oo,oo⟩,⟨ix,is⟩,ii,ii,⟨oo,oo⟩,ii,?_⟩;have hst:=avF (s:=s) hm hn.symm (show 0<n from oo);obtain⟨kW,sK⟩:=avG (x:=x) (y:=y) pk;generalize hX:x*s=X at *
   generalize hVV:y*s=V at *
   refine⟨avJ X V n m 49,?_⟩;refine fm ?_;refine⟨⟨aN _,oo,by rw [hst]; have:=dO; rw [eY] at this; exact this,?_⟩,fun (j:Nat) hj => ?_⟩
   . unfold wS;rw [vS];show _=cl (List.replicate (m+1) 0 ++ [])
     rw [th,IB]
   have p7:j<=m+1:=hj;clear hj;refine fm ?_;refine⟨fun g4 => ?_,fun g4 => ?_⟩
   . obtain⟨i,rfl⟩:∃ i,j=i+1:=⟨j - 1,oo⟩
     have k1:((i+1:Nat):Int) - 1+(n:Int)=((i+n:Nat):Int):=oo
     have k2:((i+n:Nat):Int) - 1=((i+n - 1:Nat):Int):=oo
     have k3:((i+n:Nat):Int)+1=((i+n+1:Nat):Int):=oo
     have hL:(cl (pad ae (m+n+1) (dJ X V (i+1)))).length=m+n+1:=by rw [iN,fg]
     have hLd:d32 (cl (pad ae (m+n+1) (dJ X V (i+1)))):=IV oo;have lF:∀ k,k<m+n+1->(cl (pad ae (m+n+1) (dJ X V (i+1)))).getD k 0=(dg (dJ X V (i+1)) k:Nat):=fun k hk=>by rw [qw,EP hk]
     have DN:=lF (i+n) oo;have B7:=lF (i+n - 1) oo;have avO:=avA (X:=X) (m:=m) (j:=i) tp ka oo;have b1:=l8 (dJ X V (i+1)) (i+n);have b2:=l8 (dJ X V (i+1)) (i+n - 1);have b3:=l8 V (n - 1);have AS:dg V (n - 1)≠0:=by rw [<- rG]; exact Qw (y:=V) (k:=n - 1) oo
     obtain⟨g0,hg0⟩:∃ g0,g0=min ((dg (dJ X V (i+1)) (i+n)*4294967296+dg (dJ X V (i+1)) (i+n - 1)) / dg V (n - 1)) 4294967295:=⟨_,rfl⟩
     have cR:=avC (X:=X) N6 (show 0<n from oo) ka hg0;have a1:IntKind.u64.wrap (dg (dJ X V (i+1)) (i+n):Int)=(dg (dJ X V (i+1)) (i+n):Int):=gJ oo;have a2:IntKind.u64.wrap (dg (dJ X V (i+1)) (i+n - 1):Int)=(dg (dJ X V (i+1)) (i+n - 1):Int):=gJ oo;have a3:IntKind.u64.wrap (dg V (n - 1):Int)=(dg V (n - 1):Int):=gJ oo;have a4:Bl .or .u64 (qa .shl .u64 (dg (dJ X V (i+1)) (i+n):Int) 32) (dg (dJ X V (i+1)) (i+n - 1):Int)=((dg (dJ X V (i+1)) (i+n)*4294967296+dg (dJ X V (i+1)) (i+n - 1):Nat):Int):=by rw [aeO oo,aeP oo oo]
     have zX:dg (dJ X V (i+1)) (i+n)*4294967296+dg (dJ X V (i+1)) (i+n - 1)<18446744073709551616:=oo
     generalize dg (dJ X V (i+1)) (i+n)*4294967296+dg (dJ X V (i+1)) (i+n - 1)=top at *
     have a5:IntKind.u64.wrap (Int.tdiv (top:Int) (dg V (n - 1):Int))=((top / dg V (n - 1):Nat):Int):=gJ (n:=top / dg V (n - 1)) (pX (yJ _ _) zX);have a6:=avL (top / dg V (n - 1));rw [<- hg0] at a6;have nW:(ca V).length=n:=(eY V).trans N6;have k4:i+n+1 - i=n+1:=oo
     have iv:=dI (n:=V) oo;have tM:i<=i+n+1/\i+n+1<=(cl (pad ae (m+n+1) (dJ X V (i+1)))).length:=oo
     simp only [k1,k2,k3,dr,fB,DN,B7,tK,rG,a1,a2,a3,a4,a5,a6,hL,nW,jd,pf,avO];refine⟨ii,⟨oo,oo⟩,oo,ii,ii,⟨oo,oo⟩,ii,⟨oo,oo⟩,oo,ii,ii,⟨oo,oo,oo⟩,⟨⟨oo,oo⟩,hLd,⟨iv,oo⟩,oo,oo⟩,?_⟩;clear a1 a2 a3 a4 a5 a6 DN B7 lF;have hW1:=Vm (X:=X) (j:=i) tp ka;obtain⟨_,f2,f3⟩:=Vl (X:=X) ka i;have fR:=fun s hs=>avB (X:=X) (m:=m) (j:=i) (s:=s) tp ka oo hs;have hqs:=avy (X:=X) (V:=V) (m:=m) (j:=i) oo;have yi:=avz (X:=X) (V:=V) (m:=m) (j:=i+1) oo;have Zg:=fun h=>avv (l:=cl (pad ae (m+n+1) (dJ X V (i+1)))) (a:=i) (b:=i+n+1) (s:=oV X V i+ae^(n+1) - h*V) (t:=oV X V i+ae^(n+1) - (h - 1)*V) tM.1 tM.2;have N3:=fun h=>avw (s:=oV X V i+ae^(n+1) - h*V) hLd tM.1 tM.2;have Cz:=fun h=>Vk (l:=cl (pad ae (m+n+1) (dJ X V (i+1)))) (s:=oV X V i+ae^(n+1) - h*V) tM.1 tM.2;have aEZ:(kx (cl (pad ae (m+n+1) (dJ X V (i+1)))) i (i+n+1) 0).length=m+n+1:=(Vk tM.1 tM.2).trans hL;generalize rC:cl (pad ae (m+n+1) (dJ X V (i+1)))=L at *
     generalize hWW:oV X V i=W at *
     refine⟨avK W V n i g0 49 L,?_⟩;refine fm ?_;refine⟨⟨⟨cR,aN _⟩,by rw [k4]⟩,fun (h:Nat) hh => ?_⟩;have afD:W / V<=h/\h<=g0:=hh;have hh1:=afD.1;have hh2:=afD.2;clear hh;refine fm ?_;have afE:h<ae:=oo
     have jq:(cl (wS X V m (i+1))).length=m+1:=by rw [iN]; exact yi
     have avQ:V<ae^(n+1):=iT tp (ui (by decide) (Dq n));obtain⟨w1,w2⟩:=Zg h;have w3:=N3 h;have w4:=(Cz h).trans hL;rw [k4] at w2;simp only [k1,k3,fB,pf,nW,jd,k4,w4,jq];refine⟨fun g5 => ?_,fun g5 => ?_⟩
     . obtain⟨o0,o1,o2,o3⟩:=avD hW1 (afe (v:=V) (n:=n) (m:=n+1) afE (mU N6) (Dj n)) ka g5;refine⟨ii,ii,⟨oo,oo,oo⟩,⟨⟨oo,oo⟩,w3,iv,oo⟩,⟨⟨o3,oo⟩,oo⟩,?_,?_,?_⟩
       . rw [show (h:Int) - 1=((h - 1:Nat):Int) from oo];exact gJ oo
       . rw [w2];exact o2
       . rw [w2,o1];exact w1
     . obtain⟨r1,r2⟩:=avE hW1 ka avQ hh1 g5;refine⟨⟨oo,oo⟩,ii,⟨oo,oo⟩,oo,fR _ r2,?_⟩;rw [wrap_u32,er afE,zS,r1,f3];exact congrArg cl hqs
   . obtain rfl:j=0:=oo
     have hz:x % y*s<ae^n:=by
      have:=N4 (X:=X) (j:=0) tp ka;rw [kW] at this;exact this
     have wO:x % y<=x % y*s:=Nat.le_mul_of_pos_right _ pk;have Ek:x % y*s / s=x % y:=Nat.mul_div_cancel _ pk;have hL:(cl (pad ae (m+n+1) (x % y*s))).length=m+n+1:=by rw [iN,fg]
     have e1:cU (cl (pad ae (m+n+1) (x % y*s))) 0 n=x % y*s:=by rw [Vi oo (bw _),mT,sf,sd,er hz]
     have e2:kx (cl (pad ae (m+n+1) (x % y*s))) 0 n (x % y)=cl (pad ae (m+n+1) (x % y)):=Vj oo (bw _) (by rw [mT,qO,qO]) (by rw [mT,sf]) (by rw [jA hz,jA (pX wO hz)]);have e3:wS X V m 0=pad ae (m+1) (x / y):=by unfold wS; rw [sK]; rfl
     have e4:(cl (pad ae (m+n+1) (x % y))).take n=cl (pad ae n (x % y)):=by rw [yd,Cv _ _ _ _ oo]
     have e5:ca (dX (cl (pad ae (m+1) (x / y))))=ca (x / y):=by rw [rF,ox (by decide) _ _ (avI hm hn.symm oo)]
     have e6:ca (dX (cl (pad ae n (x % y))))=ca (x % y):=by rw [rF,ox (by decide) _ _ (pX wO hz)]
     rw [kW,e3,e1,Ek,e2,e4,yK,hL,iN,fg];exact⟨⟨oo,oo⟩,⟨⟨oo,oo⟩,⟨IV oo,oo⟩,oo,oo⟩,IV oo,oo,IV oo,e5,e6⟩
theorem EU(h:x<=y):aX x<=aX y:=gr cw (pX h (eC cw (aN _)))
def avR(x y:Nat):Lp where
 X:=Nat×Nat
 ov p := [(0,.sl false .u32 fun _=>ca p.1),(1,.sl false .u32 fun _=>ca p.2)]
 oe _ := []
 I p:=Nat.gcd p.1 p.2=Nat.gcd x y/\aX p.1<=900/\aX p.2<=900
 μ p _:=p.2
 x0:=(x,y)
 nx:=some fun p=>(p.2,p.1 % p.2)
def Vo:aC:=bE 102 l7 l7 (fun a b=>(eX (a ())/\(a ()).length<=900)/\eX (b ())/\(b ()).length<=900) (fun a b => .sl false .u32 fun _=>ca (Nat.gcd (dX (a ())) (dX (b ()))))
theorem afF:aE Tryz.prog Vo:=by
 refine bZ { kp := [(0,[0,1]),(1,[0,1]),(2,[0,1]),(3,[1,6]),(4,[0])] } [Vn] ⟨afy,trivial⟩ [] trivial Tryz.func102 (by kernel_rfl) fun ah res h hp => ?_;obtain⟨(a:List Int),(b:List Int),rfl,rfl⟩:=bG h;clear h;obtain⟨⟨ha,kX⟩,hb,fJ⟩:(eX a/\a.length<=900)/\eX b/\b.length<=900:=hp;obtain⟨x,rfl,hx⟩:=n9 ha;obtain⟨y,rfl,hy⟩:=n9 hb;rw [eY] at kX fJ;clear ha hb;refine⟨[(1,avR x y)],?_⟩;refine fm ?_;refine⟨⟨kX,fJ⟩,fun (p:Nat×Nat) hq => ?_⟩;have CA:Nat.gcd p.1 p.2=Nat.gcd x y/\aX p.1<=900/\aX p.2<=900:=hq;have hg:=CA.1;have h1:=CA.2.1;have h2:=CA.2.2;clear hq;refine fm ?_;have mM:(ca p.2).length=aX p.2:=eY p.2;have pJ:(ca p.1).length=aX p.1:=eY p.1;simp only [jd,pJ,mM];refine⟨fun zw => ?_,fun hz => ?_⟩
 . have h0:0<p.2:=by
    rcases vH p.2 with h|h
    . rw [Gt.2 h] at zw; omega
    . exact h
   have h3:aX (p.1 % p.2)<=900:=cd (EU (AO (jk _ h0))) h2;exact⟨⟨⟨dI oo,h1⟩,⟨dI oo,h2⟩,h0⟩,⟨⟨(YW _ _).trans ((Nat.gcd_rec p.2 p.1).symm.trans ((YW _ _).trans hg)),h2,h3⟩,jk _ h0⟩,trivial⟩
 . have h0:p.2=0:=Gt.1 oo;rw [<- hg,h0,Nat.gcd_zero_right]
def Vp:aC:=cL 45 kI (fun n=>aP (n ())) (fun n => .sl false .u32 fun _=>ca (n ()).natAbs)
theorem afG:aE Tryz.prog Vp:=by
 refine bD [NT] ⟨UR,trivial⟩ Tryz.func45 (by kernel_rfl) fun ah res h hp => ?_;obtain⟨(n:Int),rfl,rfl⟩:=cS h;clear h;refine⟨[],?_⟩;refine fm ?_;simp only [IE];have u9 : -9223372036854775808<=n/\n<=9223372036854775807:=hp;have h0:=u9.1;have h1:=u9.2;refine⟨fun h=>⟨⟨oo,oo⟩,?_⟩,fun h=>⟨⟨oo,oo⟩,?_⟩⟩<;>congr 1<;>omega
end Go.Proofs.YtamjbkaclhgffaaGreat
