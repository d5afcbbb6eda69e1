/-
  frac by the abstract run: divide.
-/
import Derived.Test.YtamjbkaclhgffaaGreatSi18
set_option linter.all false
set_option maxRecDepth 100000
set_option maxHeartbeats 4000000
namespace Go.Proofs.YtamjbkaclhgffaaGreat
open Go.RowKit
variable{m n x y:Nat}
theorem art:ij Tryz.prog (giveUp 127):=acz Tryz.func127 (by kernel_rfl)
theorem aru(hx:aM x=m+n)(hy:aM y=n)(hn:0<n):x / y<ae^(m+1):=by
 have h1:x<ae^(m+n):=iE bT (vQ hx);have h2:ae^(n - 1)<=y:=(Ex bT).1 (show n - 1<aM y from oo);have h3:ae^(m+n)=ae^(n - 1)*ae^(m+1):=by rw [<- Cc]; congr 1; omega
 have h4:ae^(n - 1)*ae^(m+1)<=y*ae^(m+1):=oy _ h2;exact BW oo
def arv(X V n m T:Nat):Lp where
 X:=Nat
 ov j := [(13,.int .i64 fun _=>(j:Int) - 1),(10,.own 0),(12,.own 3)]
 oe j := [(0,.row false .u32 T fun _=>cl (pad ae (m+n+1) (dB X V j))),(3,.row false .u32 T fun _=>cl (vf X V m j))]
 I j:=j<=m+1
 μ j _:=j
 x0:=m+1
 nx:=some fun j=>j - 1
def arw(W V n i g T:Nat)(L:List Int):Lp where
 X:=Nat
 ov h := [(15,.int .u64 fun _=>(h:Int)),(16,.bool fun _=>decide (W<h*V)),(10,.own 0)]
 oe h := [(0,.row false .u32 T fun _=>jy L i (i+n+1) (W+ae^(n+1) - h*V))]
 I h:=W / V<=h/\h<=g
 μ h _:=h
 x0:=g
 nx:=some fun h=>h - 1
theorem arx(a:Nat):(bif decide (4294967295<(a:Int)) then 4294967295 else (a:Int))=min a 4294967295:=by
 cases h:decide ((4294967295:Int)<(a:Int)) with
 | true=>have:=rv h; rw [eG]; omega
 | false=>have:=IH h; rw [gj]; omega
def TF:aN:=c6 104 kD kD (fun a b=>(dY (a ())/\(a ()).length<=900)/\(dY (b ())/\(b ()).length<=900)/\0<dI (b ())) (fun a b => .ba [.sl false .u32 fun _=>bH (dI (a ()) / dI (b ())),.sl false .u32 fun _=>bH (dI (a ()) % dI (b ()))])
theorem adb:aU Tryz.prog TF:=by
 refine fH { kp := [(0,[0,1]),(1,[0,1]),(2,[0]),(3,[0,1]),(4,[0,1]),(5,[0,1]),(6,[0,1]),(7,[1,6]),(8,[6,7]),(9,[0,1]),(10,[0,1,8]),(11,[0,1,8,9]),(12,[0,8,9,10,11]),(13,[0,8,9,10,11]),(14,[0,8,9,10,11,12]),(15,[8,9,10,11,12,13]),(16,[8,9,10,11,12,13]),(17,[8,9,10,11,12,13]),(18,[8,9,10,11,12,13,14]),(19,[8,9,10,11,12,13,15]),(20,[8,9,10,11,12,13,15,16]),(21,[8,9,10,11,12,13,15,16]),(22,[8,9,10,11,12,13,15]),(23,[8,9,10,11,12,13,15]),(24,[8,9,10,12]),(25,[9,12,17]),(26,[12,17])],lt := [(11,⟨[0,4,5,1,2,3,6,7,8,9],[0,4,5],[],[⟨[0,1,2],[0,8,9,10,11,68,69,70,71,72,73,74,75],(0,0),[(3,1,1),(6,6,2)]⟩,⟨[0,1,2,3],[0,8,9,10,11,69,70,71,72,73,74,75],(0,1),[(4,2,3)]⟩,⟨[0,1,2,6],[0,8,9,10,11,68,69,70,71,72,74,75],(0,6),[(3,1,4),(7,7,5)]⟩,⟨[0,1,2,3,4],[0,8,9,10,11,70,71,72,73,74,75],(1,2),[(5,3,6),(6,6,7)]⟩,⟨[0,1,2,3,6],[0,8,9,10,11,69,70,71,72,74,75],(2,1),[(4,2,7)]⟩,⟨[0,1,2,6,7],[0,8,9,10,11,68,69,70,71,75],(2,7),[(3,1,8)]⟩,⟨[0,1,2,3,4,5],[0,8,9,10,11,71,72,73,74,75],(3,3),[(6,6,9)]⟩,⟨[0,1,2,3,4,6],[0,8,9,10,11,70,71,72,74,75],(3,6),[(5,3,9),(7,7,10)]⟩,⟨[0,1,2,3,6,7],[0,8,9,10,11,69,70,71,75],(5,1),[(4,2,10)]⟩,⟨[0,1,2,3,4,5,6],[0,8,9,10,11,71,72,74,75],(6,6),[(7,7,11)]⟩,⟨[0,1,2,3,4,6,7],[0,8,9,10,11,70,71,75],(7,7),[(5,3,11)]⟩,⟨[0,1,2,3,4,5,6,7],[0,8,9,10,11,71,75],(9,7),[]⟩],[8,9]⟩),(17,⟨[0,1,2,3,4,5,6,7,8,9,10,11,12,13,14,15,16,17],[0,1,2,3,4,5,6,7,8,9,10,11,12,13,14,15,16,17],[],[],[]⟩)] } [Du,L3,acH,L6,Dz] ⟨GO,Tb,aqd,Tp,GZ,trivial⟩ [giveUp 105,giveUp 127,L4,Tx,Tm,Tk] ⟨GP,art,acJ,ara,aqJ,aqG,trivial⟩ Tryz.func104 (by kernel_rfl) fun ai res h hp => ?_;obtain⟨(a:List Int),(b:List Int),rfl,rfl⟩:=dh h;clear h;obtain⟨⟨ha,pR⟩,⟨hb,iG⟩,jG⟩:(dY a/\a.length<=900)/\(dY b/\b.length<=900)/\0<dI b:=hp;obtain⟨x,rfl,hx⟩:=mD ha;obtain⟨y,rfl,hy⟩:=mD hb;rw [ik] at jG;rw [dZ] at pR iG;clear ha hb;refine⟨[],?_⟩;refine fm ?_;have ix:=dA hx;have iy:=dA hy;have er:Tc.u32.aa=0:=rfl;simp only [ik,dZ,r8,p6,er];have uR:bH 0 = []:=by unfold bH; rw [uu bT]; rfl
 have Me:mV x y<0↔x<y:=by
  exact ade
 refine⟨⟨ix,iy⟩,fun g1 => ?_,fun g1=>⟨fun g2 => ?_,fun g2=>⟨fun g3 => ?_,fun g3 => ?_⟩⟩⟩
 . have mF:=Me.1 g1;exact⟨oo,by rw [l6 mF,uR],by rw [fF mF]⟩
 . have mF:y<=x:=ajq fun h=>g1 (Me.2 h);have h1:=akk (x:=x) oo;rw [fF h1,fF (show y<18446744073709551616 from oo)];have h2:x / y<=x:=WI _ _;have h3:x % y<=x:=Nat.mod_le _ _;have e1:((x:Int)).tdiv (y:Int)=((x / y:Nat):Int):=rfl;have e2:((x:Int)).tmod (y:Int)=((x % y:Nat):Int):=rfl;rw [e1,e2];clear e1 e2;generalize x / y=q at *
   generalize x % y=r at *
   rw [fZ (n:=q) oo,fE,fE];exact⟨ix,iy,oo,⟨oo,oo⟩,ix,iy,oo,⟨oo,oo⟩,rfl,rfl⟩
 . have mF:y<=x:=ajq fun h=>g1 (Me.2 h);obtain⟨d1,d2,d3⟩:=akl (y:=y) oo;have hy0:dg y (Int.toNat 0)=y:=by
    show y / ae^0 % ae=y
    rw [oB,vR,fF d3]
   have hxn:bH x=cl (pad ae (aM x) x):=by rw [aqm x rfl]; rfl
   have hxB:=iE bT (n:=x) (k:=aM x) (aA _);have hq:x / y<=x:=WI _ _;have hr:x % y<y:=oC _ jG;have e1:cE (bH x) 0 (aM x)=x:=by
    rw [hxn,TA (aA _) (bO _),oB,vR,rC,fF hxB]
   have e2:jy (bH x) 0 (aM x) (x / y)=cl (pad ae (aM x) (x / y)):=by
    rw [hxn];exact TB (aA _) (bO _) (by rw [oB,pv,pv]) (by rw [oB,vR]) (by rw [l6 hxB,l6 oo])
   simp only [hy0,fE,e1,e2];rw [fZ (n:=x % y) oo,fE,pZ,nJ (by decide) _ _ (show x / y<ae^aM x from oo)];exact⟨oo,⟨oo,oo⟩,⟨⟨oo,oo⟩,⟨ap3 hx,oo⟩,oo,oo⟩,G5 oo,⟨oo,oo⟩,rfl,rfl⟩
 . have mF:y<=x:=ajq fun h=>g1 (Me.2 h);obtain⟨n,hn⟩:∃ n,n=aM y:=⟨_,rfl⟩
   have mY:2<=n:=by
    have:=WX bT (n:=y) oo;have h2:0<aM y:=this;omega
   have hle:n<=aM x:=by
    rcases b9 (aM x) n with h|h
    . have:=Om bT (m:=x) (n:=y) (show aM x<aM y from oo); omega
    . exact h
   obtain⟨m,hm⟩:∃ m,aM x=m+n:=⟨aM x - n,oo⟩
   obtain⟨s,hs⟩:∃ s,s=ae / (dg y (n - 1)+1):=⟨_,rfl⟩
   obtain⟨nK,ji,hlV⟩:=ake (y:=y) (k:=n - 1) oo (p6 y (n - 1)).symm hs;have hdy:=kG y (n - 1);have hB:ae=4294967296:=rfl;have e1:IntKind.u64.wrap (IntKind.u64.wrap (dg y (n - 1):Int)+1)=((dg y (n - 1)+1:Nat):Int):=by
    rw [fZ (n:=dg y (n - 1)) oo];exact fZ (n:=dg y (n - 1)+1) oo
   have e2:IntKind.u32.wrap (IntKind.u64.wrap (Int.tdiv 4294967296 ((dg y (n - 1)+1:Nat):Int)))=(s:Int):=by
    rw [show Int.tdiv 4294967296 ((dg y (n - 1)+1:Nat):Int)=((4294967296 / (dg y (n - 1)+1):Nat):Int) from rfl,<- hs,fZ (n:=s) oo,wrap_u32,fF ji]
   have e3 : [(s:Int)]=bH s:=by unfold bH; rw [rF bT oo,fF ji,l6 ji,uu bT]; rfl
   have Au:aM s<=1:=uw bT (by rw [Nat.pow_one]; exact ji);have is:=dA (n:=s) oo;rw [<- hn,hm];simp only [e1,e2,e3,ik];have yi:(((m+n:Nat):Int)+1).toNat=m+n+1:=oo
   have arz:(((m+n:Nat):Int) - (n:Int)+1).toNat=m+1:=oo
   have G6:aM (x*s)<=m+n+1:=by
    have h1:=iE bT (n:=x) (k:=m+n) (show aM x<=m+n from oo);refine uw bT ?_;rw [kg];exact ajp h1 ji
   have fU:(bH (x*s)).take (List.replicate (m+n+1) (0:Int)).length++(List.replicate (m+n+1) (0:Int)).drop (bH (x*s)).length=cl (pad ae (m+n+1) (x*s)):=by
    rw [vK,jC (by rw [dZ]; exact G6),dZ,On bT (iE bT G6),GJ,List.drop_replicate,LV];rfl
   simp only [yi,arz,fU];have jj:0<y*s:=zE jG nK;have Mf:aM (y*s)=n:=oo
   have rJ:y*s<ae^n:=iE bT (vQ Mf);refine⟨ii,⟨oo,oo⟩,oo,ii,⟨iy,is⟩,⟨oo,oo⟩,ii,⟨oo,oo⟩,⟨iy,is⟩,ii,⟨iy,is⟩,⟨oo,oo⟩,⟨ix,is⟩,ii,ii,⟨oo,oo⟩,ii,?_⟩;have hst:=arq (s:=s) hm hn.symm (show 0<n from oo);obtain⟨jN,qH⟩:=ars (x:=x) (y:=y) nK;generalize hX:x*s=X at *
   generalize hVV:y*s=V at *
   refine⟨arv X V n m 49,?_⟩;refine fm ?_;refine⟨⟨aA _,oo,by rw [hst]; have:=fU; rw [dZ] at this; exact this,?_⟩,fun (j:Nat) hj => ?_⟩
   . unfold vf;rw [Ca];show _=cl (List.replicate (m+1) 0 ++ [])
     rw [oz,LV]
   have rL:j<=m+1:=hj;clear hj;refine fm ?_;refine⟨fun g4 => ?_,fun g4 => ?_⟩
   . obtain⟨i,rfl⟩:∃ i,j=i+1:=⟨j - 1,oo⟩
     have k1:((i+1:Nat):Int) - 1+(n:Int)=((i+n:Nat):Int):=oo
     have k2:((i+n:Nat):Int) - 1=((i+n - 1:Nat):Int):=oo
     have k3:((i+n:Nat):Int)+1=((i+n+1:Nat):Int):=oo
     have hL:(cl (pad ae (m+n+1) (dB X V (i+1)))).length=m+n+1:=by rw [lD,ev]
     have hLd:d32 (cl (pad ae (m+n+1) (dB X V (i+1)))):=G5 oo;have lO:∀ k,k<m+n+1->(cl (pad ae (m+n+1) (dB X V (i+1)))).getD k 0=(dg (dB X V (i+1)) k:Nat):=fun k hk=>by rw [AR,GW hk]
     have Cw:=lO (i+n) oo;have FY:=lO (i+n - 1) oo;have arA:=ark (X:=X) (m:=m) (j:=i) rJ jj oo;have b1:=kG (dB X V (i+1)) (i+n);have b2:=kG (dB X V (i+1)) (i+n - 1);have b3:=kG V (n - 1);have zG:dg V (n - 1)≠0:=by rw [<- p6]; exact OA (y:=V) (k:=n - 1) oo
     obtain⟨g0,hg0⟩:∃ g0,g0=min ((dg (dB X V (i+1)) (i+n)*4294967296+dg (dB X V (i+1)) (i+n - 1)) / dg V (n - 1)) 4294967295:=⟨_,rfl⟩
     have cH:=arn (X:=X) Mf (show 0<n from oo) jj hg0;have a1:IntKind.u64.wrap (dg (dB X V (i+1)) (i+n):Int)=(dg (dB X V (i+1)) (i+n):Int):=fZ oo;have a2:IntKind.u64.wrap (dg (dB X V (i+1)) (i+n - 1):Int)=(dg (dB X V (i+1)) (i+n - 1):Int):=fZ oo;have a3:IntKind.u64.wrap (dg V (n - 1):Int)=(dg V (n - 1):Int):=fZ oo;have a4:te .or .u64 (lN .shl .u64 (dg (dB X V (i+1)) (i+n):Int) 32) (dg (dB X V (i+1)) (i+n - 1):Int)=((dg (dB X V (i+1)) (i+n)*4294967296+dg (dB X V (i+1)) (i+n - 1):Nat):Int):=by rw [acv oo,acw oo oo]
     have y5:dg (dB X V (i+1)) (i+n)*4294967296+dg (dB X V (i+1)) (i+n - 1)<18446744073709551616:=oo
     generalize dg (dB X V (i+1)) (i+n)*4294967296+dg (dB X V (i+1)) (i+n - 1)=top at *
     have a5:IntKind.u64.wrap (Int.tdiv (top:Int) (dg V (n - 1):Int))=((top / dg V (n - 1):Nat):Int):=fZ (n:=top / dg V (n - 1)) (pr (WI _ _) y5);have a6:=arx (top / dg V (n - 1));rw [<- hg0] at a6;have mv:(bH V).length=n:=(dZ V).trans Mf;have k4:i+n+1 - i=n+1:=oo
     have iv:=dA (n:=V) oo;have y6:i<=i+n+1/\i+n+1<=(cl (pad ae (m+n+1) (dB X V (i+1)))).length:=oo
     simp only [k1,k2,k3,er,fE,Cw,FY,r8,p6,a1,a2,a3,a4,a5,a6,hL,mv,ik,xx,arA];refine⟨ii,⟨oo,oo⟩,oo,ii,ii,⟨oo,oo⟩,ii,⟨oo,oo⟩,oo,ii,ii,⟨oo,oo,oo⟩,⟨⟨oo,oo⟩,hLd,⟨iv,oo⟩,oo,oo⟩,?_⟩;clear a1 a2 a3 a4 a5 a6 Cw FY lO;have hW1:=TE (X:=X) (j:=i) rJ jj;obtain⟨_,f2,f3⟩:=TD (X:=X) jj i;have fg:=fun s hs=>arl (X:=X) (m:=m) (j:=i) (s:=s) rJ jj oo hs;have hqs:=ari (X:=X) (V:=V) (m:=m) (j:=i) oo;have hql:=arj (X:=X) (V:=V) (m:=m) (j:=i+1) oo;have W9:=fun h=>ard (l:=cl (pad ae (m+n+1) (dB X V (i+1)))) (a:=i) (b:=i+n+1) (s:=nr X V i+ae^(n+1) - h*V) (t:=nr X V i+ae^(n+1) - (h - 1)*V) y6.1 y6.2;have Mc:=fun h=>arf (s:=nr X V i+ae^(n+1) - h*V) hLd y6.1 y6.2;have qU:=fun h=>TC (l:=cl (pad ae (m+n+1) (dB X V (i+1)))) (s:=nr X V i+ae^(n+1) - h*V) y6.1 y6.2;have aAd:(jy (cl (pad ae (m+n+1) (dB X V (i+1)))) i (i+n+1) 0).length=m+n+1:=(TC y6.1 y6.2).trans hL;generalize pY:cl (pad ae (m+n+1) (dB X V (i+1)))=L at *
     generalize hWW:nr X V i=W at *
     refine⟨arw W V n i g0 49 L,?_⟩;refine fm ?_;refine⟨⟨⟨cH,aA _⟩,by rw [k4]⟩,fun (h:Nat) hh => ?_⟩;have adl:W / V<=h/\h<=g0:=hh;have ZI:=adl.1;have ZJ:=adl.2;clear hh;refine fm ?_;have adm:h<ae:=oo
     have jl:(cl (vf X V m (i+1))).length=m+1:=by rw [lD]; exact hql
     have arD:V<ae^(n+1):=iS rJ (zx (by decide) (Cd n));obtain⟨w1,w2⟩:=W9 h;have w3:=Mc h;have w4:=(qU h).trans hL;rw [k4] at w2;simp only [k1,k3,fE,xx,mv,ik,k4,w4,jl];refine⟨fun g5 => ?_,fun g5 => ?_⟩
     . obtain⟨o0,o1,o2,o3⟩:=aro hW1 (acT (v:=V) (n:=n) (m:=n+1) adm (vQ Mf) (B3 n)) jj g5;refine⟨ii,ii,⟨oo,oo,oo⟩,⟨⟨oo,oo⟩,w3,iv,oo⟩,⟨⟨o3,oo⟩,oo⟩,?_,?_,?_⟩
       . rw [show (h:Int) - 1=((h - 1:Nat):Int) from oo];exact fZ oo
       . rw [w2];exact o2
       . rw [w2,o1];exact w1
     . obtain⟨r1,r2⟩:=arp hW1 jj arD ZI g5;refine⟨⟨oo,oo⟩,ii,⟨oo,oo⟩,oo,fg _ r2,?_⟩;rw [wrap_u32,fF adm,AS,r1,f3];exact congrArg cl hqs
   . obtain rfl:j=0:=oo
     have hz:x % y*s<ae^n:=by
      have:=Md (X:=X) (j:=0) rJ jj;rw [jN] at this;exact this
     have vd:x % y<=x % y*s:=Nat.le_mul_of_pos_right _ nK;have KO:x % y*s / s=x % y:=Nat.mul_div_cancel _ nK;have hL:(cl (pad ae (m+n+1) (x % y*s))).length=m+n+1:=by rw [lD,ev]
     have e1:cE (cl (pad ae (m+n+1) (x % y*s))) 0 n=x % y*s:=by rw [TA oo (bO _),oB,vR,rC,fF hz]
     have e2:jy (cl (pad ae (m+n+1) (x % y*s))) 0 n (x % y)=cl (pad ae (m+n+1) (x % y)):=TB oo (bO _) (by rw [oB,pv,pv]) (by rw [oB,vR]) (by rw [l6 hz,l6 (pr vd hz)]);have e3:vf X V m 0=pad ae (m+1) (x / y):=by unfold vf; rw [qH]; rfl
     have e4:(cl (pad ae (m+n+1) (x % y))).take n=cl (pad ae n (x % y)):=by rw [y3,AZ _ _ _ _ oo]
     have e5:bH (dI (cl (pad ae (m+1) (x / y))))=bH (x / y):=by rw [pZ,nJ (by decide) _ _ (aru hm hn.symm oo)]
     have e6:bH (dI (cl (pad ae n (x % y))))=bH (x % y):=by rw [pZ,nJ (by decide) _ _ (pr vd hz)]
     rw [jN,e3,e1,KO,e2,e4,zA,hL,lD,ev];exact⟨⟨oo,oo⟩,⟨⟨oo,oo⟩,⟨G5 oo,oo⟩,oo,oo⟩,G5 oo,oo,G5 oo,e5,e6⟩
theorem DD(h:x<=y):aM x<=aM y:=uw bT (pr h (iE bT (aA _)))
def arE(x y:Nat):Lp where
 X:=Nat×Nat
 ov p := [(0,.sl false .u32 fun _=>bH p.1),(1,.sl false .u32 fun _=>bH p.2)]
 oe _ := []
 I p:=Nat.gcd p.1 p.2=Nat.gcd x y/\aM p.1<=900/\aM p.2<=900
 μ p _:=p.2
 x0:=(x,y)
 nx:=some fun p=>(p.2,p.1 % p.2)
def TG:aN:=c6 102 kD kD (fun a b=>(dY (a ())/\(a ()).length<=900)/\dY (b ())/\(b ()).length<=900) (fun a b => .sl false .u32 fun _=>bH (Nat.gcd (dI (a ())) (dI (b ()))))
theorem adn:aU Tryz.prog TG:=by
 refine fH { kp := [(0,[0,1]),(1,[0,1]),(2,[0,1]),(3,[1,6]),(4,[0])] } [TF] ⟨adb,trivial⟩ [] trivial Tryz.func102 (by kernel_rfl) fun ai res h hp => ?_;obtain⟨(a:List Int),(b:List Int),rfl,rfl⟩:=dh h;clear h;obtain⟨⟨ha,pR⟩,hb,iG⟩:(dY a/\a.length<=900)/\dY b/\b.length<=900:=hp;obtain⟨x,rfl,hx⟩:=mD ha;obtain⟨y,rfl,hy⟩:=mD hb;rw [dZ] at pR iG;clear ha hb;refine⟨[(1,arE x y)],?_⟩;refine fm ?_;refine⟨⟨pR,iG⟩,fun (p:Nat×Nat) hq => ?_⟩;have TH:Nat.gcd p.1 p.2=Nat.gcd x y/\aM p.1<=900/\aM p.2<=900:=hq;have hg:=TH.1;have h1:=TH.2.1;have h2:=TH.2.2;clear hq;refine fm ?_;have mE:(bH p.2).length=aM p.2:=dZ p.2;have p8:(bH p.1).length=aM p.1:=dZ p.1;simp only [ik,p8,mE];refine⟨fun Qy => ?_,fun hz => ?_⟩
 . have h0:0<p.2:=by
    rcases BX p.2 with h|h
    . rw [EM.2 h] at Qy; omega
    . exact h
   have h3:aM (p.1 % p.2)<=900:=dQ (DD (N7 (oC _ h0))) h2;exact⟨⟨⟨dA oo,h1⟩,⟨dA oo,h2⟩,h0⟩,⟨⟨(Nat.gcd_comm _ _).trans ((Nat.gcd_rec p.2 p.1).symm.trans ((Nat.gcd_comm _ _).trans hg)),h2,h3⟩,oC _ h0⟩,trivial⟩
 . have h0:p.2=0:=EM.1 oo;rw [<- hg,h0,Nat.gcd_zero_right]
def TJ:aN:=fY 45 kI (fun n=>bq (n ())) (fun n => .sl false .u32 fun _=>bH (n ()).natAbs)
theorem ado:aU Tryz.prog TJ:=by
 refine cD [L3] ⟨Tb,trivial⟩ Tryz.func45 (by kernel_rfl) fun ai res h hp => ?_;obtain⟨(n:Int),rfl,rfl⟩:=gM h;clear h;refine⟨[],?_⟩;refine fm ?_;simp only [LX];have GQ : -9223372036854775808<=n/\n<=9223372036854775807:=hp;have h0:=GQ.1;have h1:=GQ.2;refine⟨fun h=>⟨⟨oo,oo⟩,?_⟩,fun h=>⟨⟨oo,oo⟩,?_⟩⟩<;>congr 1<;>omega
end Go.Proofs.YtamjbkaclhgffaaGreat
