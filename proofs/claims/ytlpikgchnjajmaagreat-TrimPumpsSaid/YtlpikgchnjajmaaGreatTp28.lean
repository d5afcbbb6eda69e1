/-
  frac by the abstract run: divide.
-/
import Derived.Test.YtlpikgchnjajmaaGreatTp27
set_option linter.all false
set_option maxRecDepth 100000
set_option maxHeartbeats 4000000
namespace Go.Proofs.YtlpikgchnjajmaaGreat
open Go.RowKit
theorem as3:gp Tryz.prog (giveUp 82):=acn Tryz.func82 (by kernel_rfl)
theorem as4{x y n m:Nat}(hx:aL x=m+n)(hy:aL y=n)(hn:0<n):x / y<ae^(m+1):=by
 have h1:x<ae^(m+n):=iI bW (vK hx);have h2:ae^(n - 1)<=y:=(DT bW).1 (show n - 1<aL y from oo);have h3:ae^(m+n)=ae^(n - 1)*ae^(m+1):=by rw [<- Bt]; congr 1; omega
 have h4:ae^(n - 1)*ae^(m+1)<=y*ae^(m+1):=xr _ h2;exact Bj oo
def as5(X V n m T:Nat):Lp where
 X:=Nat
 ov j := [(13,.int .i64 fun _=>(j:Int) - 1),(10,.own 0),(12,.own 3)]
 oe j := [(0,.row false .u32 T fun _=>cl (pad ae (m+n+1) (dF X V j))),(3,.row false .u32 T fun _=>cl (vp X V m j))]
 I j:=j<=m+1
 μ j _:=j
 x0:=m+1
 nx:=some fun j=>j - 1
def as6(W V n i g T:Nat)(L:List Int):Lp where
 X:=Nat
 ov h := [(15,.int .u64 fun _=>(h:Int)),(16,.bool fun _=>decide (W<h*V)),(10,.own 0)]
 oe h := [(0,.row false .u32 T fun _=>jw L i (i+n+1) (W+ae^(n+1) - h*V))]
 I h:=W / V<=h/\h<=g
 μ h _:=h
 x0:=g
 nx:=some fun h=>h - 1
theorem as7(a:Nat):(bif decide (4294967295<(a:Int)) then 4294967295 else (a:Int))=min a 4294967295:=by
 cases h:decide ((4294967295:Int)<(a:Int)) with
 | true=>have:=tW h; rw [eG]; omega
 | false=>have:=Ni h; rw [fG]; omega
def Ue:aH:=df 93 kN kN (fun a b=>(ev (a ())/\(a ()).length<=900)/\(ev (b ())/\(b ()).length<=900)/\0<dN (b ())) (fun a b => .aU [.sl false .u32 fun _=>bL (dN (a ()) / dN (b ())),.sl false .u32 fun _=>bL (dN (a ()) % dN (b ()))])
theorem ad5:aK Tryz.prog Ue:=by
 refine eE { kp := [(0,[0,1]),(1,[0,1]),(2,[0]),(3,[0,1]),(4,[0,1]),(5,[0,1]),(6,[0,1]),(7,[1,6]),(8,[6,7]),(9,[0,1]),(10,[0,1,8]),(11,[0,1,8,9]),(12,[0,8,9,10,11]),(13,[0,8,9,10,11]),(14,[0,8,9,10,11,12]),(15,[8,9,10,11,12,13]),(16,[8,9,10,11,12,13]),(17,[8,9,10,11,12,13]),(18,[8,9,10,11,12,13,14]),(19,[8,9,10,11,12,13,15]),(20,[8,9,10,11,12,13,15,16]),(21,[8,9,10,11,12,13,15,16]),(22,[8,9,10,11,12,13,15]),(23,[8,9,10,11,12,13,15]),(24,[8,9,10,12]),(25,[9,12,17]),(26,[12,17])],lt := [(11,⟨[0,4,5,1,2,3,6,7,8,9],[0,4,5],[],[⟨[0,1,2],[0,8,9,10,11,68,69,70,71,72,73,74,75],(0,0),[(3,1,1),(6,6,2)]⟩,⟨[0,1,2,3],[0,8,9,10,11,69,70,71,72,73,74,75],(0,1),[(4,2,3)]⟩,⟨[0,1,2,6],[0,8,9,10,11,68,69,70,71,72,74,75],(0,6),[(3,1,4),(7,7,5)]⟩,⟨[0,1,2,3,4],[0,8,9,10,11,70,71,72,73,74,75],(1,2),[(5,3,6),(6,6,7)]⟩,⟨[0,1,2,3,6],[0,8,9,10,11,69,70,71,72,74,75],(2,1),[(4,2,7)]⟩,⟨[0,1,2,6,7],[0,8,9,10,11,68,69,70,71,75],(2,7),[(3,1,8)]⟩,⟨[0,1,2,3,4,5],[0,8,9,10,11,71,72,73,74,75],(3,3),[(6,6,9)]⟩,⟨[0,1,2,3,4,6],[0,8,9,10,11,70,71,72,74,75],(3,6),[(5,3,9),(7,7,10)]⟩,⟨[0,1,2,3,6,7],[0,8,9,10,11,69,70,71,75],(5,1),[(4,2,10)]⟩,⟨[0,1,2,3,4,5,6],[0,8,9,10,11,71,72,74,75],(6,6),[(7,7,11)]⟩,⟨[0,1,2,3,4,6,7],[0,8,9,10,11,70,71,75],(7,7),[(5,3,11)]⟩,⟨[0,1,2,3,4,5,6,7],[0,8,9,10,11,71,75],(9,7),[]⟩],[8,9]⟩),(17,⟨[0,1,2,3,4,5,6,7,8,9,10,11,12,13,14,15,16,17],[0,1,2,3,4,5,6,7,8,9,10,11,12,13,14,15,16,17],[],[],[]⟩)] } [C5,L0,adD,L5,C8] ⟨GM,TN,arQ,TX,GV,trivial⟩ [giveUp 162,giveUp 82,Lz,T7,TV,TT] ⟨GN,as3,acp,asO,asl,ash,trivial⟩ Tryz.func93 (by kernel_rfl) fun ai res h hp => ?_;obtain⟨(a:List Int),(b:List Int),rfl,rfl⟩:=dz h;clear h;obtain⟨⟨ha,qH⟩,⟨hb,iV⟩,jD⟩:(ev a/\a.length<=900)/\(ev b/\b.length<=900)/\0<dN b:=hp;obtain⟨x,rfl,hx⟩:=mT ha;obtain⟨y,rfl,hy⟩:=mT hb;rw [ik] at jD;rw [ew] at qH iV;clear ha hb;refine⟨[],?_⟩;refine fm ?_;have ix:=dE hx;have iy:=dE hy;have eW:Tc.u32.aa=0:=rfl;simp only [ik,ew,si,qd,eW];have uJ:bL 0 = []:=by unfold bL; rw [ud bW]; rfl
 have Md:mo x y<0↔x<y:=by
  exact ad6
 refine⟨⟨ix,iy⟩,fun g1 => ?_,fun g1=>⟨fun g2 => ?_,fun g2=>⟨fun g3 => ?_,fun g3 => ?_⟩⟩⟩
 . have mP:=Md.1 g1;exact⟨oo,by rw [mi mP,uJ],by rw [fF mP]⟩
 . have mP:y<=x:=ahA fun h=>g1 (Md.2 h);have h1:=aiz (x:=x) oo;rw [fF h1,fF (show y<18446744073709551616 from oo)];have h2:x / y<=x:=Vy _ _;have h3:x % y<=x:=Nat.mod_le _ _;have e1:((x:Int)).tdiv (y:Int)=((x / y:Nat):Int):=rfl;have e2:((x:Int)).tmod (y:Int)=((x % y:Nat):Int):=rfl;rw [e1,e2];clear e1 e2;generalize x / y=q at *
   generalize x % y=r at *
   rw [fV (n:=q) oo,dV,dV];exact⟨ix,iy,oo,⟨oo,oo⟩,ix,iy,oo,⟨oo,oo⟩,rfl,rfl⟩
 . have mP:y<=x:=ahA fun h=>g1 (Md.2 h);obtain⟨d1,d2,d3⟩:=aiA (y:=y) oo;have hy0:dg y (Int.toNat 0)=y:=by
    show y / ae^0 % ae=y
    rw [oK,vL,fF d3]
   have hxn:bL x=cl (pad ae (aL x) x):=by rw [arW x rfl]; rfl
   have hxB:=iI bW (n:=x) (k:=aL x) (az _);have hq:x / y<=x:=Vy _ _;have hr:x % y<y:=oL _ jD;have e1:cD (bL x) 0 (aL x)=x:=by
    rw [hxn,T9 (az _) (cm _),oK,vL,rC,fF hxB]
   have e2:jw (bL x) 0 (aL x) (x / y)=cl (pad ae (aL x) (x / y)):=by
    rw [hxn];exact Ua (az _) (cm _) (by rw [oK,pB,pB]) (by rw [oK,vL]) (by rw [mi hxB,mi oo])
   simp only [hy0,dV,e1,e2];rw [fV (n:=x % y) oo,dV,p8,nR (by decide) _ _ (show x / y<ae^aL x from oo)];exact⟨oo,⟨oo,oo⟩,⟨⟨oo,oo⟩,⟨ap2 hx,oo⟩,oo,oo⟩,G0 oo,⟨oo,oo⟩,rfl,rfl⟩
 . have mP:y<=x:=ahA fun h=>g1 (Md.2 h);obtain⟨n,hn⟩:∃ n,n=aL y:=⟨_,rfl⟩
   have lT:2<=n:=by
    have:=VM bW (n:=y) oo;have h2:0<aL y:=this;omega
   have hle:n<=aL x:=by
    rcases cw (aL x) n with h|h
    . have:=NK bW (m:=x) (n:=y) (show aL x<aL y from oo); omega
    . exact h
   obtain⟨m,hm⟩:∃ m,aL x=m+n:=⟨aL x - n,oo⟩
   obtain⟨s,hs⟩:∃ s,s=ae / (dg y (n - 1)+1):=⟨_,rfl⟩
   obtain⟨nT,nU,hlV⟩:=ait (y:=y) (k:=n - 1) oo (qd y (n - 1)).symm hs;have hdy:=kP y (n - 1);have hB:ae=4294967296:=rfl;have e1:IntKind.u64.wrap (IntKind.u64.wrap (dg y (n - 1):Int)+1)=((dg y (n - 1)+1:Nat):Int):=by
    rw [fV (n:=dg y (n - 1)) oo];exact fV (n:=dg y (n - 1)+1) oo
   have e2:IntKind.u32.wrap (IntKind.u64.wrap (Int.tdiv 4294967296 ((dg y (n - 1)+1:Nat):Int)))=(s:Int):=by
    rw [show Int.tdiv 4294967296 ((dg y (n - 1)+1:Nat):Int)=((4294967296 / (dg y (n - 1)+1):Nat):Int) from rfl,<- hs,fV (n:=s) oo,wrap_u32,fF nU]
   have e3 : [(s:Int)]=bL s:=by unfold bL; rw [rE bW oo,fF nU,mi nU,ud bW]; rfl
   have J5:aL s<=1:=uf bW (by rw [Nat.pow_one]; exact nU);have is:=dE (n:=s) oo;rw [<- hn,hm];simp only [e1,e2,e3,ik];have x8:(((m+n:Nat):Int)+1).toNat=m+n+1:=oo
   have as9:(((m+n:Nat):Int) - (n:Int)+1).toNat=m+1:=oo
   have G3:aL (x*s)<=m+n+1:=by
    have h1:=iI bW (n:=x) (k:=m+n) (show aL x<=m+n from oo);refine uf bW ?_;rw [kx];exact ahz h1 nU
   have bE:(bL (x*s)).take (List.replicate (m+n+1) (0:Int)).length++(List.replicate (m+n+1) (0:Int)).drop (bL (x*s)).length=cl (pad ae (m+n+1) (x*s)):=by
    rw [zk,lL (by rw [ew]; exact G3),ew,NL bW (iI bW G3),Gq,List.drop_replicate,Lw];rfl
   simp only [x8,as9,bE];have jh:0<y*s:=zu jD nT;have Me:aL (y*s)=n:=oo
   have rI:y*s<ae^n:=iI bW (vK Me);refine⟨ii,⟨oo,oo⟩,oo,ii,⟨iy,is⟩,⟨oo,oo⟩,ii,⟨oo,oo⟩,⟨iy,is⟩,ii,⟨iy,is⟩,⟨oo,oo⟩,⟨ix,is⟩,ii,ii,⟨oo,oo⟩,ii,?_⟩;have hst:=as1 (s:=s) hm hn.symm (show 0<n from oo);obtain⟨jN,qF⟩:=as2 (x:=x) (y:=y) nT;generalize hX:x*s=X at *
   generalize hVV:y*s=V at *
   refine⟨as5 X V n m 52,?_⟩;refine fm ?_;refine⟨⟨az _,oo,by rw [hst]; have:=bE; rw [ew] at this; exact this,?_⟩,fun (j:Nat) hj => ?_⟩
   . unfold vp;rw [Bq];show _=cl (List.replicate (m+1) 0 ++ [])
     rw [qk,Lw]
   have xN:j<=m+1:=hj;clear hj;refine fm ?_;refine⟨fun g4 => ?_,fun g4 => ?_⟩
   . obtain⟨i,rfl⟩:∃ i,j=i+1:=⟨j - 1,oo⟩
     have k1:((i+1:Nat):Int) - 1+(n:Int)=((i+n:Nat):Int):=oo
     have k2:((i+n:Nat):Int) - 1=((i+n - 1:Nat):Int):=oo
     have k3:((i+n:Nat):Int)+1=((i+n+1:Nat):Int):=oo
     have hL:(cl (pad ae (m+n+1) (dF X V (i+1)))).length=m+n+1:=by rw [lH,eI]
     have hLd:d32 (cl (pad ae (m+n+1) (dF X V (i+1)))):=G0 oo;have nZ:∀ k,k<m+n+1->(cl (pad ae (m+n+1) (dF X V (i+1)))).getD k 0=(dg (dF X V (i+1)) k:Nat):=fun k hk=>by rw [AN,GR hk]
     have BR:=nZ (i+n) oo;have Fk:=nZ (i+n - 1) oo;have ata:=asW (X:=X) (m:=m) (j:=i) rI jh oo;have b1:=kP (dF X V (i+1)) (i+n);have b2:=kP (dF X V (i+1)) (i+n - 1);have b3:=kP V (n - 1);have zx:dg V (n - 1)≠0:=by rw [<- qd]; exact NY (y:=V) (k:=n - 1) oo
     obtain⟨g0,hg0⟩:∃ g0,g0=min ((dg (dF X V (i+1)) (i+n)*4294967296+dg (dF X V (i+1)) (i+n - 1)) / dg V (n - 1)) 4294967295:=⟨_,rfl⟩
     have cF:=asY (X:=X) Me (show 0<n from oo) jh hg0;have a1:IntKind.u64.wrap (dg (dF X V (i+1)) (i+n):Int)=(dg (dF X V (i+1)) (i+n):Int):=fV oo;have a2:IntKind.u64.wrap (dg (dF X V (i+1)) (i+n - 1):Int)=(dg (dF X V (i+1)) (i+n - 1):Int):=fV oo;have a3:IntKind.u64.wrap (dg V (n - 1):Int)=(dg V (n - 1):Int):=fV oo;have a4:sP .or .u64 (lV .shl .u64 (dg (dF X V (i+1)) (i+n):Int) 32) (dg (dF X V (i+1)) (i+n - 1):Int)=((dg (dF X V (i+1)) (i+n)*4294967296+dg (dF X V (i+1)) (i+n - 1):Nat):Int):=by rw [aci oo,acj oo oo]
     have y0:dg (dF X V (i+1)) (i+n)*4294967296+dg (dF X V (i+1)) (i+n - 1)<18446744073709551616:=oo
     generalize dg (dF X V (i+1)) (i+n)*4294967296+dg (dF X V (i+1)) (i+n - 1)=top at *
     have a5:IntKind.u64.wrap (Int.tdiv (top:Int) (dg V (n - 1):Int))=((top / dg V (n - 1):Nat):Int):=fV (n:=top / dg V (n - 1)) (Vr (Vy _ _) y0);have a6:=as7 (top / dg V (n - 1));rw [<- hg0] at a6;have mH:(bL V).length=n:=(ew V).trans Me;have k4:i+n+1 - i=n+1:=oo
     have iv:=dE (n:=V) oo;have y7:i<=i+n+1/\i+n+1<=(cl (pad ae (m+n+1) (dF X V (i+1)))).length:=oo
     simp only [k1,k2,k3,eW,dV,BR,Fk,si,qd,a1,a2,a3,a4,a5,a6,hL,mH,ik,vH,ata];refine⟨ii,⟨oo,oo⟩,oo,ii,ii,⟨oo,oo⟩,ii,⟨oo,oo⟩,oo,ii,ii,⟨oo,oo,oo⟩,⟨⟨oo,oo⟩,hLd,⟨iv,oo⟩,oo,oo⟩,?_⟩;clear a1 a2 a3 a4 a5 a6 BR Fk nZ;have hW1:=Ud (X:=X) (j:=i) rI jh;obtain⟨_,f2,f3⟩:=Uc (X:=X) jh i;have gH:=fun s hs=>asX (X:=X) (m:=m) (j:=i) (s:=s) rI jh oo hs;have hqs:=asU (X:=X) (V:=V) (m:=m) (j:=i) oo;have hql:=asV (X:=X) (V:=V) (m:=m) (j:=i+1) oo;have VT:=fun h=>asR (l:=cl (pad ae (m+n+1) (dF X V (i+1)))) (a:=i) (b:=i+n+1) (s:=nJ X V i+ae^(n+1) - h*V) (t:=nJ X V i+ae^(n+1) - (h - 1)*V) y7.1 y7.2;have Mb:=fun h=>asS (s:=nJ X V i+ae^(n+1) - h*V) hLd y7.1 y7.2;have tA:=fun h=>Ub (l:=cl (pad ae (m+n+1) (dF X V (i+1)))) (s:=nJ X V i+ae^(n+1) - h*V) y7.1 y7.2;have ays:(jw (cl (pad ae (m+n+1) (dF X V (i+1)))) i (i+n+1) 0).length=m+n+1:=(Ub y7.1 y7.2).trans hL;generalize pY:cl (pad ae (m+n+1) (dF X V (i+1)))=L at *
     generalize hWW:nJ X V i=W at *
     refine⟨as6 W V n i g0 52 L,?_⟩;refine fm ?_;refine⟨⟨⟨cF,az _⟩,by rw [k4]⟩,fun (h:Nat) hh => ?_⟩;have aec:W / V<=h/\h<=g0:=hh;have YB:=aec.1;have YC:=aec.2;clear hh;refine fm ?_;have aed:h<ae:=oo
     have pK:(cl (vp X V m (i+1))).length=m+1:=by rw [lH]; exact hql
     have atd:V<ae^(n+1):=iP rI (zl (by decide) (Bu n));obtain⟨w1,w2⟩:=VT h;have w3:=Mb h;have w4:=(tA h).trans hL;rw [k4] at w2;simp only [k1,k3,dV,vH,mH,ik,k4,w4,pK];refine⟨fun g5 => ?_,fun g5 => ?_⟩
     . obtain⟨o0,o1,o2,o3⟩:=asZ hW1 (adN (v:=V) (n:=n) (m:=n+1) aed (vK Me) (zp n)) jh g5;refine⟨ii,ii,⟨oo,oo,oo⟩,⟨⟨oo,oo⟩,w3,iv,oo⟩,⟨⟨o3,oo⟩,oo⟩,?_,?_,?_⟩
       . rw [show (h:Int) - 1=((h - 1:Nat):Int) from oo];exact fV oo
       . rw [w2];exact o2
       . rw [w2,o1];exact w1
     . obtain⟨r1,r2⟩:=as0 hW1 jh atd YB g5;refine⟨⟨oo,oo⟩,ii,⟨oo,oo⟩,oo,gH _ r2,?_⟩;rw [wrap_u32,fF aed,AO,r1,f3];exact congrArg cl hqs
   . obtain rfl:j=0:=oo
     have hz:x % y*s<ae^n:=by
      have:=Mc (X:=X) (j:=0) rI jh;rw [jN] at this;exact this
     have r8:x % y<=x % y*s:=Nat.le_mul_of_pos_right _ nT;have J7:x % y*s / s=x % y:=Nat.mul_div_cancel _ nT;have hL:(cl (pad ae (m+n+1) (x % y*s))).length=m+n+1:=by rw [lH,eI]
     have e1:cD (cl (pad ae (m+n+1) (x % y*s))) 0 n=x % y*s:=by rw [T9 oo (cm _),oK,vL,rC,fF hz]
     have e2:jw (cl (pad ae (m+n+1) (x % y*s))) 0 n (x % y)=cl (pad ae (m+n+1) (x % y)):=Ua oo (cm _) (by rw [oK,pB,pB]) (by rw [oK,vL]) (by rw [mi hz,mi (Vr r8 hz)]);have e3:vp X V m 0=pad ae (m+1) (x / y):=by unfold vp; rw [qF]; rfl
     have e4:(cl (pad ae (m+n+1) (x % y))).take n=cl (pad ae n (x % y)):=by rw [yT,AY _ _ _ _ oo]
     have e5:bL (dN (cl (pad ae (m+1) (x / y))))=bL (x / y):=by rw [p8,nR (by decide) _ _ (as4 hm hn.symm oo)]
     have e6:bL (dN (cl (pad ae n (x % y))))=bL (x % y):=by rw [p8,nR (by decide) _ _ (Vr r8 hz)]
     rw [jN,e3,e1,J7,e2,e4,zr,hL,lH,eI];exact⟨⟨oo,oo⟩,⟨⟨oo,oo⟩,⟨G0 oo,oo⟩,oo,oo⟩,G0 oo,oo,G0 oo,e5,e6⟩
end Go.Proofs.YtlpikgchnjajmaaGreat
