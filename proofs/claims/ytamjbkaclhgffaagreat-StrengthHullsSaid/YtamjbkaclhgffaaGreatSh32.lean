/-
  The library's stable sort, at Stowed by tiers: merging in place.
-/
import Derived.Test.YtamjbkaclhgffaaGreatSh30
import Derived.Test.YtamjbkaclhgffaaGreatSh31
set_option linter.all false
set_option maxRecDepth 100000
set_option maxHeartbeats 4000000
namespace Go.Proofs.YtamjbkaclhgffaaGreat
open Go.RowKit
variable{B c t:Int}{st:List aA}{bs:List aL}{i j q:Nat}{α β:Type}{x y:aA}{s:bB}
theorem Pj(a b:Int):CZ a b<0↔a<b:=by
 unfold CZ;by_cases h:a<b
 . simp [h]
 . by_cases h2:b<a<;>simp [h,h2]
def JQ(N:Nat):fi:=⟨233,[.Bj .ai,.int .i64,.int .i64,.int .i64,.fn []],1,fun ah es=>match ah,es with
 | [.own 0,.int .i64 a,.int .i64 m,.int .i64 b,.fn f []],[(0,.row false .ai T l)]=>if f=115 then some ⟨fun _=>(0<=a ()/\a ()<m ()/\m ()<b ())/\(b ()<=((l ()).length:Int)/\b () - a ()<=(N:Int))/\(l ()).length<=1000000/\eP aA.aK Tc.ai.aa (a ()).toNat (m ()).toNat (l ())/\eP aA.aK Tc.ai.aa (m ()).toNat (b ()).toNat (l ()),.bp [],[(0,.row false .ai T fun _=>cY aA.aK (a ()).toNat (b ()).toNat (l ()))]⟩ else none
 | _,_=>none,true⟩
theorem JR(h:i+j<=4000000):qa BinOp.shr IntKind.u64 (IntKind.u64.wrap ((i:Int)+(j:Int))) 1=(((i+j) / 2:Nat):Int):=by
 have e1:IntKind.u64.wrap ((i:Int)+(j:Int))=((i:Int)+(j:Int)) % 18446744073709551616:=rfl;have e2:qa BinOp.shr IntKind.u64 (((i:Int)+(j:Int)) % 18446744073709551616) 1=(((i:Int)+(j:Int)) % 18446744073709551616).fdiv (2^(min 1 64)):=rfl;rw [e1,e2,amO _ (by decide)];simp only [show min 1 64=1 from rfl,Int.pow_one];omega
def Pk(s r:Nat)(lo hi:Nat)(P:Nat->Nat->Prop):Lp where
 X:=Nat×Nat
 ov p := [(s,.int .i64 fun _=>(p.1:Int)),(r,.int .i64 fun _=>(p.2:Int))]
 oe p := []
 I p:=(lo<=p.1/\p.1<=p.2/\p.2<=hi)/\P p.1 p.2
 μ p _:=p.2 - p.1
 x0:=(lo,hi)
 nx:=none
def aBi(T:Nat)(l:List aA)(a n:Nat):Lp where
 X:=Nat
 ov k := [(13,.int .i64 fun _=>((a+k:Nat):Int)),(0,.own 0)]
 oe k := [(0,.row false .ai T fun _=>xl Tc.ai.aa l a k)]
 I k:=k<=n
 μ k _:=n - k
 x0:=0
 nx:=some fun k=>k+1
def aBj(T:Nat)(l:List aA)(m n:Nat):Lp where
 X:=Nat
 ov k := [(17,.int .i64 fun _=>((m - k:Nat):Int)),(0,.own 0)]
 oe k := [(0,.row false .ai T fun _=>pc Tc.ai.aa l m k)]
 I k:=k<=n
 μ k _:=n - k
 x0:=0
 nx:=some fun k=>k+1
theorem ake:∀ N,jb Tryz.prog (JQ N)
 | 0=>by
  refine Ip [] trivial [] trivial Tryz.func233 (by kernel_rfl) fun ah es res h hp => ?_;exfalso;simp only [JQ] at h;split at h
  case h_2=>cases h
  split at h
  case isFalse=>cases h
  cases h;obtain⟨⟨h1,h2,h3⟩,h4,_⟩:=hp;omega
 | N+1=>by
  have ih:=ake N;refine Np { kp := [(0,[0,1,2,3,4]),(1,[0,1,2,3,4]),(2,[0,1,3,4,10]),(3,[0,1,4,10,11]),(4,[0,1,4,10,11]),(5,[0,1,4,10,11,12]),(6,[0,1,4,11,12]),(7,[0,1,4,10,12]),(8,[0,1,10]),(9,[0,10,13]),(10,[0,10,13]),(11,[0,10,13]),(12,[0,1,2,3,4]),(13,[0,1,2,4]),(14,[0,2,4,14]),(15,[0,2,4,14,15]),(16,[0,2,4,14,15]),(17,[0,2,4,14,15,16]),(18,[0,2,4,15,16]),(19,[0,2,4,14,16]),(20,[0,2,14]),(21,[0,14,17]),(22,[0,14,17]),(23,[0,14,17]),(24,[0,1,2,3,4]),(25,[0,1,2,3,4,18]),(26,[0,1,2,3,4,18,19]),(27,[0,1,2,3,4,18,19]),(28,[0,1,2,3,4,18,19]),(29,[0,1,2,3,4,18,19,20]),(30,[0,1,2,3,4,18,19]),(31,[0,1,2,3,4,18,19,20]),(32,[0,1,2,3,4,18,19,20,21]),(33,[0,1,2,3,4,18,19,20,21,22]),(34,[0,1,2,3,4,18,19,20,21,22]),(35,[0,1,2,3,4,18,19,20,21,22,23]),(36,[0,1,2,3,4,18,19,21,22,23]),(37,[0,1,2,3,4,18,19,20,22,23]),(38,[0,1,2,3,4,18,19,20]),(39,[0,1,2,3,4,18,20,24]),(40,[0,1,2,3,4,18,20,24]),(41,[0,1,3,4,18,20,24]),(42,[0,1,3,4,18,20,24]),(43,[0,3,4,18,24]),(44,[0,3,4,18,24])] } [Xm] ⟨ajR,trivial⟩ [Xx,JQ N] ⟨aBh,ih,trivial⟩ Tryz.func233 (by kernel_rfl) fun ah es res h hp => ?_;simp only [JQ] at h;split at h
  case h_2=>cases h
  split at h
  case isFalse=>cases h
  rename_i a m b f T l hf;subst hf;cases h;obtain⟨l,rfl⟩:=eta (α:=List aA) l;obtain⟨a,rfl⟩:=eta (α:=Int) a;obtain⟨b,rfl⟩:=eta (α:=Int) b;obtain⟨m,rfl⟩:=eta (α:=Int) m;obtain⟨⟨h1,h2,h3⟩,⟨h4,h5⟩,h6,h7,h8⟩:(0<=a/\a<m/\m<b)/\(b<=(l.length:Int)/\b - a<=((N+1:Nat):Int))/\l.length<=1000000/\eP aA.aK Tc.ai.aa a.toNat m.toNat l/\eP aA.aK Tc.ai.aa m.toNat b.toNat l:=hp;obtain⟨a,rfl⟩:=om h1;obtain⟨b,rfl⟩:=om (show 0<=b from oo);obtain⟨m,rfl⟩:=om (show 0<=m from oo);simp only [fB] at h7 h8;refine⟨[],?_⟩
  conv=>arg 1; cbv
  simp only [tI,T9,u4,oQ,EE,fL];refine⟨ii,fun g => ?_,fun g => ?_⟩
  . refine⟨Pk 10 11 m b fun i j=>(∀ k,m<=k->k<i->(l.getD k Tc.ai.aa).aK<(l.getD a Tc.ai.aa).aK)/\∀ k,j<=k->k<b->(l.getD a Tc.ai.aa).aK<=(l.getD k Tc.ai.aa).aK,?_⟩
    conv=>arg 1; cbv
    refine⟨?_,fun (p:Nat×Nat) hp => ?_⟩
    . exact akf
    have bC:(m<=p.1/\p.1<=p.2/\p.2<=b)/\(∀ k,m<=k->k<p.1->(l.getD k Tc.ai.aa).aK<(l.getD a Tc.ai.aa).aK)/\∀ k,p.2<=k->k<b->(l.getD a Tc.ai.aa).aK<=(l.getD k Tc.ai.aa).aK:=hp;have q1:=bC.1;have q2:=bC.2.1;have q3:=bC.2.2;clear hp bC
    conv=>arg 1; cbv
    simp (maxSteps:=4000000) only [ay];refine bk ((p.1+p.2) / 2) fun c hc => ?_;simp only [JR (show p.1+p.2<=4000000 from oo),hc,Pj,fB];refine⟨fun g1 => ?_,fun g1 => ?_⟩
    . have c1:p.1<=c/\c<p.2:=oo
      refine⟨ii,oo,ii,⟨oo,oo⟩,⟨oo,oo⟩,trivial,fun g2 => ?_,fun g2 => ?_⟩
      . refine bk (c+1) fun c' Qt => ?_;refine⟨ii,⟨(c',p.2),⟨⟨⟨oo,oo,oo⟩,fun k k1 k2 => ?_,q3⟩,by show p.2 - c'<p.2 - p.1; omega⟩,?_⟩⟩
        . have k2':k<c':=k2;have:(l.getD k Tc.ai.aa).aK<=(l.getD c Tc.ai.aa).aK:=h8.le k1 oo oo;omega
        . exact no_implicit_lambda% OJ
      . refine⟨(p.1,c),⟨⟨⟨oo,oo,oo⟩,q2,fun k k1 k2 => ?_⟩,by show c - p.1<p.2 - p.1; omega⟩,?_⟩
        . have Xz:c<=k:=k1;have:(l.getD c Tc.ai.aa).aK<=(l.getD k Tc.ai.aa).aK:=h8.le oo Xz k2;omega
        . exact no_implicit_lambda% OK
    . have iH:p.1=p.2:=oo
      rw [<- iH] at q3;refine bk (p.1 - 1 - a) fun n hn => ?_;have gH:=aA3 (key:=aA.aK) (d:=Tc.ai.aa) (l:=l) (a:=a) (b:=b) (i:=p.1) oo ⟨oo,oo⟩ (by rw [show a+1=m by simp only [aU] at g; omega]; exact h8) (fun k k1 k2=>q2 k (by simp only [aU] at g; omega) k2) q3;rw [hn] at gH;simp only [aU] at g;refine⟨aBi T l a n,?_⟩
      conv=>arg 1; cbv
      refine⟨?_,fun (k:Nat) hk => ?_⟩
      . exact Ac
      have fO:k<=n:=hk
      conv=>arg 1; cbv
      simp (maxSteps:=4000000) only [ay];refine bk (xl Tc.ai.aa l a k) fun L hL => ?_;have hlen:L.length=l.length:=by rw [<- hL,Pg]
      simp only [hL];refine⟨ii,fun g2 => ?_,fun g2 => ?_⟩
      . have e1:((a+k:Nat):Int).toNat=a+k:=oo
        have e2:(((a+k:Nat):Int)+1).toNat=a+k+1:=oo
        refine⟨ii,ii,⟨oo,oo⟩,⟨oo,oo⟩,⟨oo,oo⟩,⟨oo,by rw [r9]; omega⟩,ii,⟨oo,oo⟩,oo,?_⟩;rw [List.set_comm _ _ oo,e2,<- hL];rfl
      . rw [<- hL,show k=n from oo];exact gH
  simp only [ew] at g;refine⟨ii,fun g0 => ?_,fun g0 => ?_⟩
  . simp only [aU] at g0;refine⟨Pk 14 15 a m fun i j=>(∀ k,a<=k->k<i->(l.getD k Tc.ai.aa).aK<=(l.getD m Tc.ai.aa).aK)/\∀ k,j<=k->k<m->(l.getD m Tc.ai.aa).aK<(l.getD k Tc.ai.aa).aK,?_⟩
    conv=>arg 1; cbv
    refine⟨?_,fun (p:Nat×Nat) hp => ?_⟩
    . exact akf
    have bC:(a<=p.1/\p.1<=p.2/\p.2<=m)/\(∀ k,a<=k->k<p.1->(l.getD k Tc.ai.aa).aK<=(l.getD m Tc.ai.aa).aK)/\∀ k,p.2<=k->k<m->(l.getD m Tc.ai.aa).aK<(l.getD k Tc.ai.aa).aK:=hp;have q1:=bC.1;have q2:=bC.2.1;have q3:=bC.2.2;clear hp bC
    conv=>arg 1; cbv
    simp (maxSteps:=4000000) only [ay];refine bk ((p.1+p.2) / 2) fun c hc => ?_;simp only [JR (show p.1+p.2<=4000000 from oo),hc,Pj,fB];refine⟨fun g1 => ?_,fun g1 => ?_⟩
    . have c1:p.1<=c/\c<p.2:=oo
      refine⟨ii,oo,ii,⟨oo,oo⟩,⟨oo,oo⟩,trivial,fun g2 => ?_,fun g2 => ?_⟩
      . refine bk (c+1) fun c' Qt => ?_;simp only [fG,ew] at g2;refine⟨ii,⟨(c',p.2),⟨⟨⟨oo,oo,oo⟩,fun k k1 k2 => ?_,q3⟩,by show p.2 - c'<p.2 - p.1; omega⟩,?_⟩⟩
        . have k2':k<c':=k2;have:(l.getD k Tc.ai.aa).aK<=(l.getD c Tc.ai.aa).aK:=h7.le k1 oo oo;omega
        . exact no_implicit_lambda% OJ
      . simp only [iR,aU] at g2;refine⟨(p.1,c),⟨⟨⟨oo,oo,oo⟩,q2,fun k k1 k2 => ?_⟩,by show c - p.1<p.2 - p.1; omega⟩,?_⟩
        . have Xz:c<=k:=k1;have:(l.getD c Tc.ai.aa).aK<=(l.getD k Tc.ai.aa).aK:=h7.le oo Xz k2;omega
        . exact no_implicit_lambda% OK
    . have iH:p.1=p.2:=oo
      rw [<- iH] at q3;refine bk (m - p.1) fun n hn => ?_;have gH:=Xr (key:=aA.aK) (d:=Tc.ai.aa) (l:=l) (a:=a) (m:=m) (i:=p.1) oo ⟨oo,oo⟩ h7 q2 q3;rw [hn,show m+1=b from oo] at gH;refine⟨aBj T l m n,?_⟩
      conv=>arg 1; cbv
      refine⟨?_,fun (k:Nat) hk => ?_⟩
      . exact Ac
      have fO:k<=n:=hk
      conv=>arg 1; cbv
      simp (maxSteps:=4000000) only [ay];refine bk (pc Tc.ai.aa l m k) fun L hL => ?_;have hlen:L.length=l.length:=by rw [<- hL,Ph]
      simp only [hL];refine⟨fun g2 => ?_,fun g2 => ?_⟩
      . have e1:m - k=m - k - 1+1:=oo
        refine⟨ii,ii,⟨oo,oo⟩,⟨oo,oo⟩,⟨oo,oo⟩,⟨oo,by rw [r9]; omega⟩,ii,⟨oo,oo⟩,oo,?_⟩;rw [<- hL];show _=swapAt Tc.ai.aa (pc Tc.ai.aa l m k) (m - k - 1)
        unfold swapAt;rw [<- e1]
      . rw [<- hL,show k=n from oo];exact gH
  simp only [ew] at g0;have Oa:=JR (i:=a) (j:=b) oo;simp only [Oa];refine bk ((a+b) / 2) fun mid rI => ?_;simp only [rI];refine⟨ii,oo,ii,ii,fun gm=>⟨ii,ii,?_⟩,fun gm=>⟨ii,?_⟩⟩
  . simp only [aU] at gm;refine bk (mid+m - b) fun S hS => ?_;refine bk mid fun R hR => ?_;have hSR:∀ c,S<=c->c<R->m<=mid+m - 1 - c/\mid+m - 1 - c<b:=fun c h1 h2=>oo
    refine⟨Pk 20 21 S R fun i j=>(i=S\/(l.getD (i - 1) Tc.ai.aa).aK<=(l.getD (mid+m - i) Tc.ai.aa).aK)/\(j=R\/(l.getD (mid+m - 1 - j) Tc.ai.aa).aK<(l.getD j Tc.ai.aa).aK),?_⟩
    conv=>arg 1; cbv
    refine⟨?_,fun (p:Nat×Nat) hp => ?_⟩
    . exact akh
    have bC:(S<=p.1/\p.1<=p.2/\p.2<=R)/\(p.1=S\/(l.getD (p.1 - 1) Tc.ai.aa).aK<=(l.getD (mid+m - p.1) Tc.ai.aa).aK)/\(p.2=R\/(l.getD (mid+m - 1 - p.2) Tc.ai.aa).aK<(l.getD p.2 Tc.ai.aa).aK):=hp;have q1:=bC.1;have q2:=bC.2.1;have q3:=bC.2.2;clear hp bC
    conv=>arg 1; cbv
    simp (maxSteps:=4000000) only [ay];simp only [JR (show p.1+p.2<=4000000 from oo),Pj,fB];refine bk ((p.1+p.2) / 2) fun c hc => ?_;simp only [hc];refine⟨fun g1 => ?_,fun g1 => ?_⟩
    . exact no_implicit_lambda% aki
    have iH:p.1=p.2:=oo
    rw [<- iH] at q3;refine bk p.1 fun s hs => ?_;rw [hs] at q2 q3;have qc:a<=s/\s<=m/\m<=mid+m - s/\mid+m - s<=b:=oo
    simp only [hs];have hT:=aka (key:=aA.aK) (d:=Tc.ai.aa) (l:=l) (a:=a) (m:=m) (b:=b) (s:=s) (e:=mid+m - s) (mid:=mid) (N:=N) oo h6 ⟨oo,oo⟩ qc oo oo h7 h8 (q2.elim (fun g => .inr (.inl oo)) fun g => .inr (.inr g)) (q3.elim (fun g => .inr (.inl oo)) fun g => .inr (.inr (by rw [show mid+m - s - 1=mid+m - 1 - s from oo]; exact g)));have he:(mid:Int)+(m:Int) - (s:Int)=((mid+m - s:Nat):Int):=oo
    exact akj
  . simp only [ew] at gm;refine bk a fun S hS => ?_;refine bk m fun R hR => ?_;have hSR:∀ c,S<=c->c<R->m<=mid+m - 1 - c/\mid+m - 1 - c<b:=fun c h1 h2=>oo
    refine⟨Pk 20 21 S R fun i j=>(i=S\/(l.getD (i - 1) Tc.ai.aa).aK<=(l.getD (mid+m - i) Tc.ai.aa).aK)/\(j=R\/(l.getD (mid+m - 1 - j) Tc.ai.aa).aK<(l.getD j Tc.ai.aa).aK),?_⟩
    conv=>arg 1; cbv
    refine⟨?_,fun (p:Nat×Nat) hp => ?_⟩
    . exact akh
    have bC:(S<=p.1/\p.1<=p.2/\p.2<=R)/\(p.1=S\/(l.getD (p.1 - 1) Tc.ai.aa).aK<=(l.getD (mid+m - p.1) Tc.ai.aa).aK)/\(p.2=R\/(l.getD (mid+m - 1 - p.2) Tc.ai.aa).aK<(l.getD p.2 Tc.ai.aa).aK):=hp;have q1:=bC.1;have q2:=bC.2.1;have q3:=bC.2.2;clear hp bC
    conv=>arg 1; cbv
    simp (maxSteps:=4000000) only [ay];simp only [JR (show p.1+p.2<=4000000 from oo),Pj,fB];refine bk ((p.1+p.2) / 2) fun c hc => ?_;simp only [hc];refine⟨fun g1 => ?_,fun g1 => ?_⟩
    . exact no_implicit_lambda% aki
    have iH:p.1=p.2:=oo
    rw [<- iH] at q3;refine bk p.1 fun s hs => ?_;rw [hs] at q2 q3;have qc:a<=s/\s<=m/\m<=mid+m - s/\mid+m - s<=b:=oo
    simp only [hs];have hT:=aka (key:=aA.aK) (d:=Tc.ai.aa) (l:=l) (a:=a) (m:=m) (b:=b) (s:=s) (e:=mid+m - s) (mid:=mid) (N:=N) oo h6 ⟨oo,oo⟩ qc oo oo h7 h8 (q2.elim (fun g => .inl oo) fun g => .inr (.inr g)) (q3.elim (fun g => .inl oo) fun g => .inr (.inr (by rw [show mid+m - s - 1=mid+m - 1 - s from oo]; exact g)));have he:(mid:Int)+(m:Int) - (s:Int)=((mid+m - s:Nat):Int):=oo
    exact akj
def aW(l:List aA):List aA:=CY lq Tc.ai.aa 0 l.length l
def XA:fi:=⟨182,[.Bj .ai,.int .i64,.fn []],1,fun ah es=>match ah,es with
 | [.own 0,.int .i64 n,.fn f []],[(0,.row false .ai T l)]=>if f=115 then some ⟨fun _=>n ()=((l ()).length:Int)/\(l ()).length<=40,.bp [],[(0,.row false .ai T fun _=>aW (l ()))]⟩ else none
 | _,_=>none,true⟩
theorem XB(l:List aA):aW l=cY aA.aK 0 l.length l:=Xv Pc (bw _) (aN _)
def nE(l:List aA):Nat->List aA
 | 0=>l
 | q+1=>cY aA.aK (20*q) (20*q+20) (nE l q)
theorem XC(l:List aA):∀ q,20*q<=l.length->(nE l q).length=l.length
 | 0,_=>rfl
 | q+1,h=>by
  have:=XC l q oo;show (cY aA.aK (20*q) (20*q+20) (nE l q)).length=_
  rw [(rV oo oo).len,this]
theorem aBl{l:List aA}(hq:20*q<=l.length/\l.length<20*q+20)(hl:l.length<=40) :
 (cY aA.aK (20*q) l.length (nE l q)).length=l.length/\(l.length<=20->cY aA.aK (20*q) l.length (nE l q)=aW l)/\(20<l.length->(eP aA.aK Tc.ai.aa 0 20 (cY aA.aK (20*q) l.length (nE l q))/\eP aA.aK Tc.ai.aa 20 l.length (cY aA.aK (20*q) l.length (nE l q)))/\cY aA.aK 0 l.length (cY aA.aK (20*q) l.length (nE l q))=aW l):=by
 have hn:=XC l q hq.1;have r:=rV (key:=aA.aK) (l:=nE l q) (a:=20*q) (b:=l.length) hq.1 oo;have st:=yy (key:=aA.aK) (d:=Tc.ai.aa) (l:=nE l q) (a:=20*q) (b:=l.length) hq.1 oo;refine⟨by rw [r.len,hn],fun h => ?_,fun h => ?_⟩
 . rw [XB];have:q=0\/(q=1/\l.length=20):=oo
   rcases this with h0|⟨h0,h1⟩
   . subst h0; rfl
   . subst h0;rw [h1];show cY aA.aK 20 20 (cY aA.aK 0 20 l)=_
     refine JO (d:=Tc.ai.aa) (aN _) (by rw [(rV oo oo).len]; omega) fun i k h1 h2 h3=>oo
 . have r1:Ren aA.aK 0 20 l (cY aA.aK 0 20 l):=rV oo oo;have s1:eP aA.aK Tc.ai.aa 0 20 (cY aA.aK 0 20 l):=yy oo oo;have:q=1\/(q=2/\l.length=40):=oo
   have hB:Ren aA.aK 0 l.length l (cY aA.aK (20*q) l.length (nE l q))/\eP aA.aK Tc.ai.aa 0 20 (cY aA.aK (20*q) l.length (nE l q))/\eP aA.aK Tc.ai.aa 20 l.length (cY aA.aK (20*q) l.length (nE l q)):=by
    rcases this with h0|⟨h0,h1⟩
    . subst h0;exact⟨(r1.wide (aN _) oo).trans (r.wide oo (aN _)),s1.out r (.inl oo),st⟩
    . subst h0;have r2:Ren aA.aK 20 40 (cY aA.aK 0 20 l) (nE l 2):=rV oo (by show _<=(cY aA.aK 0 20 l).length; rw [r1.len]; omega);have s2:eP aA.aK Tc.ai.aa 20 40 (nE l 2):=yy oo (by show _<=(cY aA.aK 0 20 l).length; rw [r1.len]; omega);refine⟨((r1.wide (aN _) oo).trans (r2.wide oo oo)).trans (r.wide oo (aN _)),(s1.out r2 (.inl (aN _))).out r (.inl oo),?_⟩;rw [h1] at r ⊢;exact s2.out r (.inl (aN _))
   refine⟨hB.2,?_⟩;rw [XB];exact FA (d:=Tc.ai.aa) (bw _) (aN _) (hB.1.trans (rV (bw _) (by rw [hB.1.len]; exact aN _))) (yy (bw _) (by rw [hB.1.len]; exact aN _))
def aBm(T:Nat)(l:List aA):Lp where
 X:=Nat
 ov q := [(7,.int .i64 fun _=>((20*q:Nat):Int)),(8,.int .i64 fun _=>((20*q+20:Nat):Int)),(0,.own 0)]
 oe q := [(0,.row false .ai T fun _=>nE l q)]
 I q:=20*q<=l.length
 μ q _:=l.length - 20*q
 x0:=0
 nx:=some fun q=>q+1
def aBn(T:Nat)(B S:List aA):Lp where
 X:=Nat
 ov t := [(6,.int .i64 fun _=>((20*(t+1):Nat):Int)),(0,.own 0)]
 oe t := [(0,.row false .ai T fun _=>cond (decide (t=0)) B S)]
 I t:=t=0\/(t=1/\20<B.length)
 μ t _:=1 - t
 x0:=0
 nx:=none
def aBo(T:Nat)(B S:List aA):Lp where
 X:=Nat
 ov u := [(7,.int .i64 fun _=>((40*u:Nat):Int)),(8,.int .i64 fun _=>((40*u+40:Nat):Int)),(0,.own 0)]
 oe u := [(0,.row false .ai T fun _=>cond (decide (u=0)) B S)]
 I u:=u=0\/(u=1/\B.length=40)
 μ u _:=1 - u
 x0:=0
 nx:=none
theorem aBp:jb Tryz.prog XA:=by
 refine Np { kp := [(0,[0,1,2]),(1,[0,1,2,6]),(2,[0,1,2,6,7,8]),(3,[0,1,2,6,7,8]),(4,[0,1,2,6,8]),(5,[0,1,2,6,7,8]),(6,[0,1,2,6,7]),(7,[0,1,2,6]),(8,[0,1,2,6]),(9,[0,1,2,6,7,8]),(10,[0,1,2,6,7,8]),(11,[0,1,2,6,8]),(12,[0,1,2,6,7,8]),(13,[0,1,2,6,7]),(14,[0,1,2,6,7,9]),(15,[0,1,2,6,7,9]),(16,[0,1,2,6])] } [] trivial [Xn,JQ 40] ⟨aAZ,ake 40,trivial⟩ Tryz.func182 (by kernel_rfl) fun ah es res h hp => ?_;simp only [XA] at h;split at h
 case h_2=>cases h
 split at h
 case isFalse=>cases h
 rename_i n f T l hf;subst hf;cases h;obtain⟨l,rfl⟩:=eta (α:=List aA) l;obtain⟨n,rfl⟩:=eta (α:=Int) n;have fy:n=(l.length:Int)/\l.length<=40:=hp;have h1:=fy.1;have h2:=fy.2;subst h1;refine⟨[(2,aBm T l)],?_⟩
 conv=>arg 1; cbv
 refine⟨?_,fun (q:Nat) hq => ?_⟩
 . simp (maxSteps:=4000000) only [ay];exact⟨bw _,rfl,rfl,rfl⟩
 have wF:20*q<=l.length:=hq;clear hq
 conv=>arg 1; cbv
 simp (maxSteps:=4000000) only [ay];have XD:=XC l q wF;refine⟨fun g => ?_,fun g => ?_⟩
 . exact⟨⟨oo,oo,oo,oo⟩,ii,⟨oo,oo⟩,oo,oo,Xv Pc oo oo⟩
 obtain⟨QG,hB1,M7⟩:=aBl (l:=l) (q:=q) ⟨wF,oo⟩ h2;have aBq:CY lq Tc.ai.aa (20*q) l.length (nE l q)=cY aA.aK (20*q) l.length (nE l q):=Xv Pc wF oo;simp only [aBq];generalize cY aA.aK (20*q) l.length (nE l q)=B at *
 refine bk (aW l) fun S hS => ?_;rw [hS] at hB1 M7;have hSl:S.length=l.length:=by rw [<- hS,XB]; exact (rV (bw _) (aN _)).len
 refine⟨⟨oo,oo,oo,oo⟩,aBn T B S,?_⟩
 conv=>arg 1; cbv
 refine⟨?_,fun (t:Nat) ht => ?_⟩
 . exact pM
 have Pn:t=0\/(t=1/\20<B.length):=ht;clear ht
 conv=>arg 1; cbv
 simp (maxSteps:=4000000) only [ay];refine⟨fun g1 => ?_,fun g1 => ?_⟩
 . have U7:t=0:=oo
   subst U7;have aBr:20<l.length:=oo
   obtain⟨⟨jS,wb⟩,JS⟩:=M7 aBr;refine⟨ii,aBo T B S,?_⟩
   conv=>arg 1; cbv
   refine⟨?_,fun (u:Nat) hu => ?_⟩
   . exact pM
   have vU:u=0\/(u=1/\B.length=40):=hu;clear hu;rcases vU with hu|⟨hu,Zt⟩
   . subst hu
     conv=>arg 1; cbv
     simp (maxSteps:=4000000) only [ay];have e20:(((40*0:Nat):Int)+((20*(0+1):Nat):Int)).toNat=20:=rfl;rw [e20];refine⟨fun g2=>⟨ii,⟨⟨oo,oo,oo⟩,⟨by show _<=(B.length:Int); omega,oo⟩,by show B.length<=_; omega,jS,?_⟩,ii,ii,⟨1,⟨⟨.inr ⟨rfl,oo⟩,oo⟩,?_⟩⟩⟩,fun g2=>⟨ii,fun g3=>⟨⟨⟨oo,oo,oo⟩,⟨by show _<=(B.length:Int); omega,oo⟩,by show B.length<=_; omega,jS,?_⟩,ii,⟨1,⟨⟨.inr ⟨rfl,oo⟩,oo⟩,?_⟩⟩⟩,fun g3=>oo⟩⟩
     . rw [show l.length=40 from oo] at wb;exact wb
     . conv=>arg 1; cbv
       simp (maxSteps:=4000000) only [ay];have h40:l.length=40:=oo
       rw [h40] at JS;exact⟨trivial,oo,JS⟩
     . exact wb
     . conv=>arg 1; cbv
       simp (maxSteps:=4000000) only [ay];exact⟨oo,JS⟩
   . subst hu
     conv=>arg 1; cbv
     simp (maxSteps:=4000000) only [ay];refine⟨fun g2=>oo,fun g2=>⟨ii,fun g3=>oo,fun g3=>⟨ii,⟨1,⟨⟨.inr ⟨rfl,oo⟩,oo⟩,?_⟩⟩⟩⟩⟩
     exact no_implicit_lambda% OJ
 . rw [hS];rcases Pn with h0|⟨h0,h3⟩
   . rw [h0];exact hB1 oo
   . rw [h0];rfl
def XE:fi:=⟨114,[.Bj .ai,.fn []],1,fun ah es=>match ah,es with
 | [.own 0,.fn f []],[(0,.row false .ai T l)]=>if f=115 then some ⟨fun _=>(l ()).length<=40,.bp [],[(0,.row false .ai T fun _=>aW (l ()))]⟩ else none
 | _,_=>none,true⟩
theorem aBu:jb Tryz.prog XE:=by
 refine Ip [] trivial [XA] ⟨aBp,trivial⟩ Tryz.func114 (by kernel_rfl) fun ah es res h hp => ?_;simp only [XE] at h;split at h
 case h_2=>cases h
 split at h
 case isFalse=>cases h
 rename_i f T l hf;subst hf;cases h;obtain⟨l,rfl⟩:=eta (α:=List aA) l;have bC:l.length<=40:=hp;refine⟨[],?_⟩
 conv=>arg 1; cbv
 simp (maxSteps:=4000000) only [ay];exact⟨⟨trivial,bC⟩,trivial⟩
/- aBv changes Bh order only -/
theorem aBw(d : α)(l:List α)(j:Nat)(h:j+1<l.length):(swapAt d l j).Perm l:=by
 unfold swapAt;have e1:l.getD j d=l[j]:=by rw [aY,bq oo,iD]
 have e2:l.getD (j+1) d=l[j+1]:=by rw [aY,bq h,iD]
 rw [e1,e2];have:l=l.take j++l[j]::l[j+1]::l.drop (j+2):=by
  rw [YE,YE,lT]
 have h3:(l.set (j+1) l[j]).set j l[j+1]=l.take j++l[j+1]::l[j]::l.drop (j+2):=by
  exact aj3
 rw [h3]
 conv=>rhs; rw [this]
 exact List.Perm.append_left _ (List.Perm.swap _ _ _)
theorem akl{α:Type}(lt : α -> α->Bool)(d : α)(a:Nat):∀ (j:Nat) (l:List α),j<l.length->(mi lt d a j l).Perm l
 | 0,l,_=>ano _
 | j+1,l,h=>by
  unfold mi
  cases decide (a<j+1)&&lt (l.getD (j+1) d) (l.getD j d) with
  | true =>
   rw [pg];exact (akl lt d a j _ (by rw [Az]; omega)).trans (aBw d l j h)
  | false=>exact ano _
theorem akm{α:Type}(lt : α -> α->Bool)(d : α)(a:Nat)(l:List α):∀ n,a+1+n<=l.length\/n=0->(pU lt d a l n).Perm l
 | 0,_=>ano _
 | n+1,h=>by
  unfold pU;exact (akl lt d a _ _ (by rw [Pb]; omega)).trans (akm lt d a l n oo)
theorem yz(l:List aA):(aW l).Perm l:=akm _ _ _ _ _ oo
def qG(h:Int):List Int:=cond (decide (h=1)) [1] (cond (decide (h=2)) [2] [1,2])
def j6(c h:Int):List Kx := [.i .i64 c,.i .i64 h]
def sZ(t c:Int)(m:List Kx->Option Int)(hs:List Int):List Kx->Option Int:=hs.foldl (fun m h=>ft m (j6 c h) ((m (j6 c h)).getD 0+t)) m
def ub(bs:List aL)(m:List Kx->Option Int)(x:aA):List Kx->Option Int:=sZ (fw (bI bs x.box).1) x.ar m (qG x.half)
def ji(bs:List aL)(l:List aA):List Kx->Option Int:=l.foldl (ub bs) fun _=>none
def mR(c:dM)(h:Int):Int:=cond (decide (h=1)) (c.x+3050) (cond (decide (h=2)) (c.x - 3050) c.x)
def s6(cs:List dM)(bs:List aL)(m:List Kx->Option Int)(x:aA):qV :=
 ⟨(bI bs x.box).1,mR (cs.getD x.ar.toNat Tc.ar.aa) x.half,(cs.getD x.ar.toNat Tc.ar.aa).y,2*((cs.getD x.ar.toNat Tc.ar.aa).z+(m (j6 x.ar ((qG x.half).headD 0))).getD 0)+fw (bI bs x.box).1⟩
def yA(cs:List dM)(bs:List aL)(l:List aA)(k:Nat):List qV:=(List.range k).map fun j=>s6 cs bs (ji bs (l.take j)) (l.getD j Tc.ai.aa)
def lr(cs:List dM)(bs:List aL)(l:List aA):List qV:=yA cs bs l l.length
theorem XF(cs:List dM)(bs:List aL)(l:List aA)(k:Nat):yA cs bs l (k+1)=yA cs bs l k ++ [s6 cs bs (ji bs (l.take k)) (l.getD k Tc.ai.aa)]:=by
 unfold yA;rw [AL,ot];rfl
theorem Po(cs:List dM)(bs:List aL)(l:List aA)(k:Nat):(yA cs bs l k).length=k:=by unfold yA; simp
theorem XG{l:List aA}{k:Nat}(h:k<l.length):ji bs (l.take (k+1))=ub bs (ji bs (l.take k)) (l.getD k Tc.ai.aa):=by
 unfold ji;rw [o4 Tc.ai.aa h,ane];rfl
theorem JT{t c B:Int}(ht:0<=t/\t<=2896):∀ (hs:List Int) (m:List Kx->Option Int),(∀ k,0<=(m k).getD 0/\(m k).getD 0<=B)->∀ k,0<=((sZ t c m hs) k).getD 0/\((sZ t c m hs) k).getD 0<=B+2896*(hs.length:Int)
 | [],m,h,k=>by have:=h k; simpa [sZ] using this
 | x::hs,m,h,k=>by
  have h2:∀ k,0<=((ft m (j6 c x) ((m (j6 c x)).getD 0+t)) k).getD 0/\((ft m (j6 c x) ((m (j6 c x)).getD 0+t)) k).getD 0<=B+2896:=fun k=>by
   have h3:=h k;have h4:=h (j6 c x);unfold ft;split
   . simp only [iD]; omega
   . omega
  have h5:=JT (c:=c) (B:=B+2896) ht hs _ h2 k;have e:sZ t c m (x::hs)=sZ t c (ft m (j6 c x) ((m (j6 c x)).getD 0+t)) hs:=rfl;rw [e];simp only [dE];omega
theorem aBx(h:Int):(qG h).length<=2/\1<=(qG h).length:=by
 unfold qG;cases decide (h=1)<;>cases decide (h=2)<;>simp
theorem aBy(bs:List aL)(l:List aA)(k:List Kx):0<=(ji bs l k).getD 0/\(ji bs l k).getD 0<=5792*(l.length:Int):=by
 have:∀ (l:List aA) (m:List Kx->Option Int) (B:Int),(∀ k,0<=(m k).getD 0/\(m k).getD 0<=B)->∀ k,0<=(l.foldl (ub bs) m k).getD 0/\(l.foldl (ub bs) m k).getD 0<=B+5792*(l.length:Int):=by
  intro l
  induction l with
  | nil=>intro m B h k; simpa using h k
  | cons x l ih =>
   intro m B h k;have h1:=JT (c:=x.ar) (tP (bI bs x.box).1) (qG x.half) m h;have h2:=aBx x.half;have h3:=ih (ub bs m x) (B+5792) (fun k=>by
    have:=h1 k;unfold ub
    omega) k
   simp only [F7,dE];omega
 have:=this l (fun _=>none) 0 (fun k=>by simp) k;unfold ji;omega
theorem akn{l:List aA}(h:ev s bs l=true)(hx:x∈l):0<=x.ar/\x.ar<(s.aF.length:Int):=by
 obtain⟨k,hk,rfl⟩:=qK hx;unfold ev at h;simp only [aD,aU] at h;have h1:=h.2.1 k hk;unfold od mh at h1;have e:l.getD k Tc.ai.aa=l[k]:=by rw [aY,bq hk,iD]
 rw [e] at h1;simp only [aD,aU] at h1;exact⟨h1.2.1.1.1,h1.2.1.1.2.1⟩
theorem aBz(h:gS s=true){k:Nat}(hk:k<s.aF.length):(-500000<=(s.aF.getD k Tc.ar.aa).x/\(s.aF.getD k Tc.ar.aa).x<=500000)/\(-500000<=(s.aF.getD k Tc.ar.aa).y/\(s.aF.getD k Tc.ar.aa).y<=500000)/\(-500000<=(s.aF.getD k Tc.ar.aa).z/\(s.aF.getD k Tc.ar.aa).z<=500000):=by
 unfold gS at h;simp only [aD] at h;have h6:=fc.1 h.2.1 _ (eJ Tc.ar.aa hk);generalize s.aF.getD k Tc.ar.aa=c at *
 unfold jf at h6;simp only [aD] at h6;have hx:=fc.1 h6.2 ⟨c.x,-500000,500000⟩ (by simp [rT]);have hy:=fc.1 h6.2 ⟨c.y,-500000,500000⟩ (by simp [rT]);have hz:=fc.1 h6.2 ⟨c.z,-500000,500000⟩ (by simp [rT]);unfold nC at hx hy hz;simp only [aD,aU] at hx hy hz;exact⟨hx,hy,hz⟩
def gA(s:bB)(bs:List aL)(l:List aA):Bool:=decide ((jN bs).2=0)&&ev s bs l
def xm(bs:List aL):Prop:=bs.length<=1000000000000/\∀ b∈bs,b.num.size<=140737488351232
def ako:aC:=ns 53 ko jc lL (fun s bs l=>pT (s ())/\xm (bs ())/\(l ()).length<=40) (fun s bs l => .bp [.sl true .mid fun _=>cond (gA (s ()) (bs ()) (l ())) (lr (s ()).aF (bs ()) (aW (l ()))) [],.bool fun _=>gA (s ()) (bs ()) (l ())])
def aBA(cs:List dM)(bs:List aL)(L:Unit->List aA):Lp where
 X:=Nat
 ov k := [(42,.int .i64 fun _=>(k:Int)),(11,.own 3)]
 oe k := [(2,.map true false (.arr 2 (.int .i64)) .int 216 fun _=>ji bs ((L ()).take k)),(3,.row true .mid 148 fun _=>yA cs bs (L ()) k)]
 I k:=k<=(L ()).length
 μ k _:=(L ()).length - k
 x0:=0
 nx:=some fun k=>k+1
def XH(t c:Unit->Int)(m:Unit->List Kx->Option Int)(hs:Unit->List Int):Lp where
 X:=Nat
 ov j := [(106,.int .i64 fun _=>(j:Int))]
 oe j := [(2,.map true false (.arr 2 (.int .i64)) .int 216 fun _=>sZ (t ()) (c ()) (m ()) ((hs ()).take j))]
 I j:=j<=(hs ()).length
 μ j _:=(hs ()).length - j
 x0:=0
 nx:=some fun j=>j+1
theorem JU(b:aL):(⟨b.id,b.num,b.size,b.high,b.aI,b.load,b.jT,b.cls,b.xB⟩:aL)=b:=rfl
theorem XI{m:List Kx->Option Int}{hs:List Int}(h:j<hs.length):ft (sZ t c m (hs.take j)) [Kx.i .i64 c,Kx.i .i64 (hs.getD j Tc.u8.aa)] ((sZ t c m (hs.take j) [Kx.i .i64 c,Kx.i .i64 (hs.getD j Tc.u8.aa)]).getD Tc.int.aa+t)=sZ t c m (hs.take (j+1)):=by
 unfold sZ;rw [o4 (Tc.u8.aa) h,ane];rfl
theorem all_true{A B C D E:Prop}(hA:A)(hB:B)(hC:C)(hD:D)(hE:E):A=True/\B=True/\C=True/\D=True/\E=True:=⟨eq_true hA,eq_true hB,eq_true hC,eq_true hD,eq_true hE⟩
theorem aBB:aE Tryz.prog ako:=by
 refine as5 [] [(8,[1,2,3,10,11]),(22,[1,3,10,11,13,14,17,18,40,41,42]),(27,[10,11,17,42])] [(21,eH [0,1,2,3,4,5,6,7,8,9,10,11,12,13,14,15,16,17,18] .nil),(25,eH [0,1,2,4,5] (.alt (.op 3 (.alt (.op 6 (.alt (eH [7,8,9,10,11,12,13] .nil) (.op 8 (.alt (eH [7,9,10,11,12,13] .nil) (.op 9 (.alt (eH [7,10,11,12,13] .nil) (eH [11,12,7,10,13] .nil))))))) (.op 8 (.alt (.op 6 (.alt (eH [7,9,10,11,12,13] .nil) (.op 9 (.alt (eH [7,10,11,12,13] .nil) (eH [11,12,7,10,13] .nil))))) (eH [9,6] (.alt (eH [7,10,11,12,13] .nil) (eH [11,12,7,10,13] .nil))))))) (.op 8 (.alt (.op 3 (.alt (.op 6 (.alt (eH [7,9,10,11,12,13] .nil) (.op 9 (.alt (eH [7,10,11,12,13] .nil) (eH [11,12,7,10,13] .nil))))) (eH [9,6] (.alt (eH [7,10,11,12,13] .nil) (eH [11,12,7,10,13] .nil))))) (eH [9,3,6] (.alt (eH [7,10,11,12,13] .nil) (eH [11,12,7,10,13] .nil)))))))] [ajg,ajA,agQ,agS] ⟨aAa,aAE,axP,axR,trivial⟩ [Xk,XE] ⟨aAU,aBu,trivial⟩ Tryz.func53 (by kernel_rfl) fun ah res h hp => ?_;obtain⟨(s:bB),(bs:List aL),(l:List aA),rfl,rfl⟩:=oR h;clear h;have bC:pT s/\xm bs/\l.length<=40:=hp;have h1:=bC.1;have h2:=bC.2.1;have h3:=bC.2.2;have Z0:(aW l).length=l.length:=(yz l).length_eq;clear hp bC;refine⟨[(9,aBA s.aF bs fun _=>aW l)],?_⟩
 conv=>arg 1; cbv
 refine⟨h2,fun g1 => ?_,fun g1=>⟨⟨h1,h2.1,cd h3 (by decide)⟩,fun g2 => ?_,fun g2=>⟨cd h3 (by decide),h3,?_,fun (k:Nat) hk => ?_⟩⟩⟩
 . have vA:(!decide ((jN bs).2=0))=true:=g1;have hc:gA s bs l=false:=by
    unfold gA;simp only [fG] at vA;rw [vA];rfl
   simp (maxSteps:=4000000) only [ay];rw [hc];exact⟨rfl,rfl⟩
 . have sY:(!ev s bs l)=true:=g2;have hc:gA s bs l=false:=by
    unfold gA;simp only [fG] at sY;rw [sY,nK]
   simp (maxSteps:=4000000) only [ay];rw [hc];exact⟨rfl,rfl⟩
 . simp (maxSteps:=4000000) only [ay];exact⟨bw _,rfl,rfl,rfl⟩
 have vA:(!decide ((jN bs).2=0))=false:=g1;have sY:(!ev s bs l)=false:=g2;simp only [iR] at vA sY;have hc:gA s bs l=true:=by
  unfold gA;rw [vA,sY];rfl
 have fO:k<=(aW l).length:=hk;have CX:gS s=true:=by
  unfold ev at sY;simp only [aD] at sY;exact sY.1
 clear hk g1 g2
 conv=>arg 1; cbv
 refine⟨fun g3 => ?_,fun g3 => ?_⟩
 . have af:k<(aW l).length:=by
    have tZ:decide ((k:Int)<((aW l).length:Int))=true:=g3;simp only [aU] at tZ;omega
   have Pp:=akn sY ((yz l).mem_iff.1 (eJ Tc.ai.aa af));have hcc:=aBz CX (k:=((aW l).getD k Tc.ai.aa).ar.toNat) oo;have zX:=aBy bs ((aW l).take k);have wP:((aW l).take k).length<=40:=by rw [cy]; omega
   refine⟨⟨YD k,r8 g3⟩,h2.1,Pp,fun g4 => ?_,fun g4=>⟨fun g5 => ?_,fun g5 => ?_⟩⟩
   . have gh:((aW l).getD k Tc.ai.aa).half=1:=r8 g4;refine⟨⟨by simp only [fL,fB]; omega,by simp only [fL,fB]; omega⟩,?_⟩;have dr:(Tc.int.aa:Int)=0:=rfl;have h9:=zX [Kx.i .i64 ((aW l).getD k Tc.ai.aa).ar,Kx.i .i64 (([((aW l).getD k Tc.ai.aa).half]).getD (Int.toNat 0) Tc.u8.aa)];have ht:=tP (bI bs ((aW l).getD k Tc.ai.aa).box).1;refine⟨⟨yO 0,by simp⟩,(show aP (([((aW l).getD k Tc.ai.aa).half]).getD (Int.toNat 0) Tc.u8.aa) from by rw [show [((aW l).getD k Tc.ai.aa).half].getD (Int.toNat 0) Tc.u8.aa=((aW l).getD k Tc.ai.aa).half from rfl,gh]; exact⟨oo,oo⟩),?_,?_,trivial,?_,?_⟩
     . exact FC
     . exact FC
     . exact XJ
     refine⟨XH (fun _=>fw (bI bs ((aW l).getD k Tc.ai.aa).box).1) (fun _=>((aW l).getD k Tc.ai.aa).ar) (fun _=>ji bs ((aW l).take k)) (fun _ => [((aW l).getD k Tc.ai.aa).half]),?_⟩
     conv=>arg 1; cbv
     refine⟨?_,fun (j:Nat) hj => ?_⟩
     . exact Ac
     have gE:j<=([((aW l).getD k Tc.ai.aa).half]).length:=hj
     conv=>arg 1; cbv
     simp (maxSteps:=4000000) only [ay];clear g3 g4 hj h9;have c6:=fun key=>JT (c:=((aW l).getD k Tc.ai.aa).ar) (tP (bI bs ((aW l).getD k Tc.ai.aa).box).1) (([((aW l).getD k Tc.ai.aa).half]).take j) (ji bs ((aW l).take k)) zX key;have XK:=fun h=>XI (t:=fw (bI bs ((aW l).getD k Tc.ai.aa).box).1) (c:=((aW l).getD k Tc.ai.aa).ar) (m:=ji bs ((aW l).take k)) (hs := [((aW l).getD k Tc.ai.aa).half]) (j:=j) h;have FD:=XF s.aF bs (aW l) k;have FE:=XG (bs:=bs) af;unfold s6 at FD;unfold ub at FE;simp only [JU];generalize hX:(aW l).getD k Tc.ai.aa=x at *
     generalize hM:ji bs ((aW l).take k)=M0 at *
     generalize (bI bs x.box).1=b at *
     simp only [JG,JH,iD];refine⟨fun g6 => ?_,fun g6 => ?_⟩
     . exact akp
     . have hT:([x.half]).take j = [x.half]:=ez oo;have vu:qG x.half = [x.half]:=by
        unfold qG;simp [gh]
       have XL:mR (s.aF.getD x.ar.toNat Tc.ar.aa) x.half=(s.aF.getD x.ar.toNat Tc.ar.aa).x+3050:=by
        unfold mR;simp [gh]
       exact XM
   . have gh:((aW l).getD k Tc.ai.aa).half=2:=r8 g5;refine⟨⟨by simp only [fL,fB]; omega,by simp only [fL,fB]; omega⟩,?_⟩;clear g4;have g4:=g5;clear g5;have dr:(Tc.int.aa:Int)=0:=rfl;have h9:=zX [Kx.i .i64 ((aW l).getD k Tc.ai.aa).ar,Kx.i .i64 (([((aW l).getD k Tc.ai.aa).half]).getD (Int.toNat 0) Tc.u8.aa)];have ht:=tP (bI bs ((aW l).getD k Tc.ai.aa).box).1;refine⟨⟨yO 0,by simp⟩,(show aP (([((aW l).getD k Tc.ai.aa).half]).getD (Int.toNat 0) Tc.u8.aa) from by rw [show [((aW l).getD k Tc.ai.aa).half].getD (Int.toNat 0) Tc.u8.aa=((aW l).getD k Tc.ai.aa).half from rfl,gh]; exact⟨oo,oo⟩),?_,?_,trivial,?_,?_⟩
     . exact FC
     . exact FC
     . exact XJ
     refine⟨XH (fun _=>fw (bI bs ((aW l).getD k Tc.ai.aa).box).1) (fun _=>((aW l).getD k Tc.ai.aa).ar) (fun _=>ji bs ((aW l).take k)) (fun _ => [((aW l).getD k Tc.ai.aa).half]),?_⟩
     conv=>arg 1; cbv
     refine⟨?_,fun (j:Nat) hj => ?_⟩
     . exact Ac
     have gE:j<=([((aW l).getD k Tc.ai.aa).half]).length:=hj
     conv=>arg 1; cbv
     simp (maxSteps:=4000000) only [ay];clear g3 g4 hj h9;have c6:=fun key=>JT (c:=((aW l).getD k Tc.ai.aa).ar) (tP (bI bs ((aW l).getD k Tc.ai.aa).box).1) (([((aW l).getD k Tc.ai.aa).half]).take j) (ji bs ((aW l).take k)) zX key;have XK:=fun h=>XI (t:=fw (bI bs ((aW l).getD k Tc.ai.aa).box).1) (c:=((aW l).getD k Tc.ai.aa).ar) (m:=ji bs ((aW l).take k)) (hs := [((aW l).getD k Tc.ai.aa).half]) (j:=j) h;have FD:=XF s.aF bs (aW l) k;have FE:=XG (bs:=bs) af;unfold s6 at FD;unfold ub at FE;simp only [JU];generalize hX:(aW l).getD k Tc.ai.aa=x at *
     generalize hM:ji bs ((aW l).take k)=M0 at *
     generalize (bI bs x.box).1=b at *
     simp only [JG,JH,iD];refine⟨fun g6 => ?_,fun g6 => ?_⟩
     . exact akp
     . have hT:([x.half]).take j = [x.half]:=ez oo;have vu:qG x.half = [x.half]:=by
        unfold qG;simp [gh]
       have XL:mR (s.aF.getD x.ar.toNat Tc.ar.aa) x.half=(s.aF.getD x.ar.toNat Tc.ar.aa).x - 3050:=by
        unfold mR;simp [gh]
       exact XM
   . have gh:¬ ((aW l).getD k Tc.ai.aa).half=1/\¬ ((aW l).getD k Tc.ai.aa).half=2:=⟨FV g4,FV g5⟩
     clear g4;have g4:=g5;clear g5;have dr:(Tc.int.aa:Int)=0:=rfl;have h9:=zX [Kx.i .i64 ((aW l).getD k Tc.ai.aa).ar,Kx.i .i64 (([(1:Int),2]).getD (Int.toNat 0) Tc.u8.aa)];have ht:=tP (bI bs ((aW l).getD k Tc.ai.aa).box).1;refine⟨⟨yO 0,by simp⟩,(show aP (([(1:Int),2]).getD (Int.toNat 0) Tc.u8.aa) from ⟨by decide,by decide⟩),?_,?_,trivial,?_,?_⟩
     . exact FC
     . exact FC
     . exact XJ
     refine⟨XH (fun _=>fw (bI bs ((aW l).getD k Tc.ai.aa).box).1) (fun _=>((aW l).getD k Tc.ai.aa).ar) (fun _=>ji bs ((aW l).take k)) (fun _ => [(1:Int),2]),?_⟩
     conv=>arg 1; cbv
     refine⟨?_,fun (j:Nat) hj => ?_⟩
     . exact Ac
     have gE:j<=([(1:Int),2]).length:=hj
     conv=>arg 1; cbv
     simp (maxSteps:=4000000) only [ay];clear g3 g4 hj h9;have c6:=fun key=>JT (c:=((aW l).getD k Tc.ai.aa).ar) (tP (bI bs ((aW l).getD k Tc.ai.aa).box).1) (([(1:Int),2]).take j) (ji bs ((aW l).take k)) zX key;have XK:=fun h=>XI (t:=fw (bI bs ((aW l).getD k Tc.ai.aa).box).1) (c:=((aW l).getD k Tc.ai.aa).ar) (m:=ji bs ((aW l).take k)) (hs := [(1:Int),2]) (j:=j) h;have FD:=XF s.aF bs (aW l) k;have FE:=XG (bs:=bs) af;unfold s6 at FD;unfold ub at FE;simp only [JU];generalize hX:(aW l).getD k Tc.ai.aa=x at *
     generalize hM:ji bs ((aW l).take k)=M0 at *
     generalize (bI bs x.box).1=b at *
     simp only [JG,JH,iD];refine⟨fun g6 => ?_,fun g6 => ?_⟩
     . have pk:∀ y ∈ [(1:Int),2],1<=y/\y<=2:=by simp [gh]
       have JS:([(1:Int),2]).length<=2:=by simp
       generalize [(1:Int),2]=hs at *
       exact s_5
     . have hT:([(1:Int),2]).take j = [(1:Int),2]:=ez oo;have vu:qG x.half = [(1:Int),2]:=by
        unfold qG;simp [gh]
       have XL:mR (s.aF.getD x.ar.toNat Tc.ar.aa) x.half=(s.aF.getD x.ar.toNat Tc.ar.aa).x:=by
        unfold mR;simp [gh]
       exact XM
 . have cR:(aW l).length<=k:=by
    have tZ:decide ((k:Int)<((aW l).length:Int))=false:=g3;simp only [ew] at tZ;omega
   have im:k=(aW l).length:=oo
   simp (maxSteps:=4000000) only [ay];rw [hc,im];exact⟨rfl,rfl⟩
def yB(id:Int)(m:qV):Bool:=decide (m.box.id=id)
def Pr(l:List qV)(i:Int):qV:=l.getD i.toNat Tc.mid.aa
def vB(s:bB)(bs:List aL)(l:List aA)(id:Int):Int×Int×Int×Int :=
 cond (gA s bs l) (cond (decide (idx (yB id) (lr s.aF bs (aW l))<0)) (0,0,0,6)
  ((Pr (lr s.aF bs (aW l)) (idx (yB id) (lr s.aF bs (aW l)))).x,(Pr (lr s.aF bs (aW l)) (idx (yB id) (lr s.aF bs (aW l)))).y,(Pr (lr s.aF bs (aW l)) (idx (yB id) (lr s.aF bs (aW l)))).h,0)) (0,0,0,2)
theorem XN(s:bB):(⟨s.aF,s.bO,s.lk,s.lx,s.ly,s.lz,s.rows,s.ee,s.fv,s.m1,s.m2,s.m3,s.m4⟩:bB)=s:=rfl
theorem aBC{cs:List dM}{k:Nat}(h:od cs bs st k=true):(bI bs (st.getD k Tc.ai.aa).box).2=true:=by
 unfold od at h;simp only [aD] at h;exact h.1.1
theorem C2(h:ev s bs st=true):∀ x∈st,(bI bs x.box).2=true:=by
 intro x hx;unfold ev at h;simp only [aD,aU] at h;obtain⟨j,hj⟩:=mn.1 hx;obtain⟨af,he⟩:=c8.1 hj;have:=aBC (h.2.1 j af);rwa [aY,hj] at this
theorem aBD{s x:Ld}(hs:jx s=true)(hx:jx x=true)(h:s.aI+x.aI<=500000000):jx (s.add x)=true:=by
 unfold jx oZ jO Ld.add at *
 simp only [aD,aU] at *
 omega
theorem akr{s:Ld}(hs:jx s=true):(0<=s.aI/\s.aI<=500000000)/\(-550000000000000<=s.x/\s.x<=550000000000000)/\(-550000000000000<=s.y/\s.y<=550000000000000)/\(-550000000000000<=s.z/\s.z<=550000000000000):=by
 unfold jx oZ jO at hs;simp only [aD,aU] at hs;omega
theorem aBE(l:Ld):(⟨l.aI,l.x,l.y,l.z⟩:Ld)=l:=rfl
def xn(m:qV):Ld:=(qy m.box.aI m.x m.y m.h).1
def xo(s:bB)(bs:List aL)(l:List aA):Ld×Int:=cond (gA s bs l) (xa ((lr s.aF bs (aW l)).map xn)) (gz,2)
def aks:aC:=ns 19 ko jc lL (fun s bs l=>pT (s ())/\xm (bs ())/\(l ()).length<=40) (fun s bs l => .bp [.agg (Is fun _=>(xo (s ()) (bs ()) (l ())).1),.int .i64 fun _=>(xo (s ()) (bs ()) (l ())).2])
def aBF(ms:Unit->List qV):Lp where
 X:=Nat
 ov k := [(27,.int .i64 fun _=>(k:Int)),(10,.own 2)]
 oe k := [(2,.row true .ld 73 fun _=>((ms ()).take k).map xn)]
 I k:=k<=(ms ()).length
 μ k _:=(ms ()).length - k
 x0:=0
 nx:=some fun k=>k+1
theorem aBG:aE Tryz.prog aks:=by
 refine bD [ako,ahc,ahd] ⟨aBB,ayk,aym,trivial⟩ Tryz.func19 (by kernel_rfl) fun ah res h hp => ?_;obtain⟨(s:bB),(bs:List aL),(l:List aA),rfl,rfl⟩:=oR h;clear h;have fy:pT s/\xm bs/\l.length<=40:=hp;have h1:=fy.1;have h2:=fy.2.1;have h3:=fy.2.2;refine bk (lr s.aF bs (aW l)) fun ms XO => ?_;have hlen:ms.length<=40:=by
  rw [<- XO];unfold lr;rw [Po];have:=(yz l).length_eq;omega
 refine⟨[(6,aBF fun _=>ms)],?_⟩
 conv=>arg 1; cbv
 refine⟨⟨h1,h2,h3⟩,fun g => ?_,fun g => ?_⟩
 . have g':(!gA s bs l)=true:=g;simp only [fG] at g';have hc:xo s bs l=(gz,2):=by unfold xo; rw [g']; rfl
   simp (maxSteps:=4000000) only [ay];rw [hc];simp [gz]
 have g':(!gA s bs l)=false:=g;simp only [iR] at g';have hc:xo s bs l=xa (ms.map xn):=by unfold xo; rw [g',XO]; rfl
 clear g;refine⟨?_,fun (k:Nat) hk => ?_⟩
 . exact Ac
 have fO:k<=ms.length:=hk
 conv=>arg 1; cbv
 simp (maxSteps:=4000000) only [ay];simp only [XO,g',pg,aBE,JU];refine⟨fun g1 => ?_,fun g1 => ?_⟩
 . have af:k<ms.length:=oo
   have e1:(ms.take (k+1)).map xn=(ms.take k).map xn ++ [xn (ms.getD k Tc.mid.aa)]:=by rw [o4 Tc.mid.aa af,ot]; rfl
   rw [e1];refine⟨oo,trivial,?_,⟨oo,oo⟩,⟨oo,oo⟩,oo,?_⟩
   . simp only [di,cy,dE,hZ]; omega
   . rfl
 . have cR:ms.length<=k:=oo
   rw [ez cR,hc];refine⟨by rw [di]; omega,?_⟩;simp
/- C3 -/
def jR(l:List Ld):Ld:=l.foldl Ld.add gz
theorem Ld.ext'{a b:Ld}(h1:a.aI=b.aI)(h2:a.x=b.x)(h3:a.y=b.y)(h4:a.z=b.z):a=b:=by
 cases a; cases b; simp only at h1 h2 h3 h4; subst h1; subst h2; subst h3; subst h4; rfl
theorem JV(a b c:Ld):(a.add b).add c=a.add (b.add c):=by unfold Ld.add; apply Ld.ext'<;>simp only<;>omega
theorem akt(a b:Ld):a.add b=b.add a:=by unfold Ld.add; apply Ld.ext'<;>simp only<;>omega
theorem add_zero'(a:Ld):a.add gz=a:=by unfold Ld.add gz; apply Ld.ext'<;>simp only<;>omega
theorem Ps(a:Ld):gz.add a=a:=by rw [akt,add_zero']
theorem foldl_add:∀ (l:List Ld) (s:Ld),l.foldl Ld.add s=s.add (jR l)
 | [],s=>(add_zero' s).symm
 | x::l,s=>by
  unfold jR;simp only [F7];rw [foldl_add l,foldl_add l (gz.add x),Ps,JV]
theorem uc(x:Ld)(l:List Ld):jR (x::l)=x.add (jR l):=by
 show l.foldl Ld.add (gz.add x)=_
 rw [foldl_add,Ps]
theorem aku:∀ (l:List Ld),(∀ x∈l,jx x=true)->(jR l).aI<=500000000->jx (jR l)=true/\∀ k,0<=(jR (l.take k)).aI/\(jR (l.take k)).aI<=(jR l).aI
 | [],_,_=>⟨by decide,fun k=>by simp [jR,gz]⟩
 | x::l,h,hs=>by
  rw [uc] at hs ⊢;have hx:=akr (h x (.head _));have im:(x.add (jR l)).aI=x.aI+(jR l).aI:=rfl;have hl:(jR l).aI<=500000000:=oo
  obtain⟨h1,h2⟩:=aku l (fun y hy=>h y (.tail _ hy)) hl;refine⟨aBD (h x (.head _)) h1 oo,fun k => ?_⟩
  cases k with
  | zero =>
   have:=akr h1;simp only [F9];show 0<=(0:Int)/\(0:Int)<=_
   omega
  | succ k =>
   rw [Kl,uc];have h3:=h2 k;show 0<=x.aI+_/\x.aI+_<=x.aI+_
   omega
theorem akv:∀ (l:List Ld) (s:Ld),(∀ k,0<=(s.add (jR (l.take k))).aI/\(s.add (jR (l.take k))).aI<=500000000)->w9 s l=(s.add (jR l),0)
 | [],s,_=>by rw [show jR []=gz from rfl,add_zero']; rfl
 | x::l,s,h=>by
  unfold w9;have h1:=h 1;rw [Kl,F9,uc,show jR []=gz from rfl,add_zero'] at h1;have ru:0<=s.aI+x.aI/\s.aI+x.aI<=500000000:=h1;rw [aG (CH.2 ru),akv l (s.add x) (fun k=>by
   have h2:=h (k+1);rw [Kl,uc,<- JV] at h2;exact h2),uc,JV]
theorem aBH{l:List Ld}(h:∀ x∈l,jx x=true)(hs:(jR l).aI<=500000000):xa l=(jR l,0):=by
 unfold xa;have h0:l.any Fb=false:=by
  rw [AK];intro x hx;unfold Fb;rw [h x hx];simp
 rw [ax (by rw [h0]; simp),akv l gz (fun k=>by
  rw [Ps];have:=(aku l h hs).2 k
  omega),Ps]
def XP(m:qV):Ld:=⟨m.box.aI,m.box.aI*m.x,m.box.aI*m.y,m.box.aI*m.h⟩
theorem aBI(h:∀ b∈bs,0<=b.aI/\b.aI<=B)(hB:0<=B)(id:Int):0<=(bI bs id).1.aI/\(bI bs id).1.aI<=B:=by
 unfold bI;split
 . rename_i b hb;exact h b (amP hb)
 . exact⟨yO _,hB⟩
theorem getD_map(f : α -> β)(l:List α)(d : α)(d' : β){k:Nat}(h:k<l.length):(l.map f).getD k d'=f (l.getD k d):=by
 exact ahV
theorem Pt{id:Int}(h:(bI bs id).2=true):(bI bs id).1.id=id/\(bI bs id).1∈bs:=by
 unfold bI at h ⊢
 cases hf:bs.find? (nB id) with
 | none=>rw [hf] at h; cases h
 | some b =>
  have:=List.find?_some hf;unfold nB at this;exact⟨by simpa using this,amP hf⟩
theorem JW{l:List aA}(h:ev s bs l=true){k:Nat}(hk:k<l.length):od s.aF bs l k=true:=by
 unfold ev at h;simp only [aD,aU] at h;exact h.2.1 k hk
theorem aBJ{l:List aA}(h:ev s bs l=true)(hx:x∈l):rK (ej x) (l.map ej)=true/\0<=x.aK/\(wW (bI bs x.box).1.size).any (fun y=>decide (x.half=y))=true:=by
 obtain⟨k,hk,rfl⟩:=qK hx;have h1:=JW h hk;have e:l.getD k Tc.ai.aa=l[k]:=by rw [aY,bq hk,iD]
 unfold od mh at h1;rw [e] at h1;simp only [aD,aU] at h1;exact⟨h1.2.1.2,h1.2.1.1.2.2.1,h1.2.1.1.2.2.2.2⟩
theorem akw{l:List aA}(h:ev s bs l=true)(hx:x∈l):(x.half=0/\(bI bs x.box).1.size=40)\/((x.half=1\/x.half=2)/\(bI bs x.box).1.size=20):=by
 have h1:=(aBJ h hx).2.2;unfold wW at h1;by_cases h4:(bI bs x.box).1.size=40
 . rw [aG h4] at h1;simp at h1;exact .inl ⟨h1,h4⟩
 . rw [ax h4] at h1;by_cases h2:(bI bs x.box).1.size=20
   . rw [aG h2] at h1;simp at h1;exact .inr ⟨h1,h2⟩
   . rw [ax h2] at h1;simp at h1
theorem akx{l:List aA}(h:ev s bs l=true)(iH:i<j)(hj:j<l.length):jZ (ej l[j]) (ej l[i])=false:=by
 have h1:=JW h hj;have e:l.getD j Tc.ai.aa=l[j]:=by rw [aY,bq hj,iD]
 unfold od at h1;rw [e] at h1;simp only [aD,aU] at h1;have h2:=h1.2.2 i iH;rwa [aY,gC,bq (show i<l.length from oo)] at h2
theorem aBK(a b:Slot):jZ a b=jZ b a:=by
 unfold jZ sV;rw [vO];simp only [aD,fM,aU];constructor<;>(rintro⟨h1,h2,h3⟩; refine⟨h1.symm,h2.symm,?_⟩; rcases h3 with h3|h3|h3)<;>simp [h3]
theorem aky{l:List aA}(h:ev s bs l=true)(hx:x∈l)(hy:y∈l)(hm:jZ (ej x) (ej y)=true):x=y:=by
 obtain⟨i,hi,rfl⟩:=qK hx;obtain⟨j,hj,rfl⟩:=qK hy;rcases am7 i j with h1|h1|h1
 . rw [aBK,akx h h1 hj] at hm;cases hm
 . subst h1;rfl
 . rw [akx h h1 hi] at hm;cases hm
end Go.Proofs.YtamjbkaclhgffaaGreat
