/-
  The library's stable sort, at Stowed by tiers: merging in place.
-/
import Derived.Test.YtlpikgchnjajmaaGreatTp21
set_option linter.all false
set_option maxRecDepth 100000
set_option maxHeartbeats 4000000
namespace Go.Proofs.YtlpikgchnjajmaaGreat
open Go.RowKit
theorem LH(a b):sj a b<0↔a<b:=by
 unfold sj;by_cases h:a<b
 . simp [h]
 . by_cases h2:b<a<;>simp [h,h2]
def Gz(N:Nat):fk:=⟨315,[.zH .aq,.int .i64,.int .i64,.int .i64,.fn []],1,fun ai es=>match ai,es with
 | [.own 0,.int .i64 a,.int .i64 m,.int .i64 b,.fn f []],[(0,.row false .aq T l)]=>if f=147 then some ⟨fun _=>(0<=a ()/\a ()<m ()/\m ()<b ())/\(b ()<=((l ()).length:Int)/\b () - a ()<=(N:Int))/\(l ()).length<=1000000/\eh ay.aF Tc.aq.aa (a ()).toNat (m ()).toNat (l ())/\eh ay.aF Tc.aq.aa (m ()).toNat (b ()).toNat (l ()),.aU [],[(0,.row false .aq T fun _=>cJ ay.aF (a ()).toNat (b ()).toNat (l ()))]⟩ else none
 | _,_=>none,true⟩
theorem GA{i j:Nat}(h:i+j<=4000000):lV BinOp.shr IntKind.u64 (IntKind.u64.wrap (i+j)) 1=((i+j) / 2:Nat):=by
 have e1:IntKind.u64.wrap ((i:Int)+(j:Int))=((i:Int)+(j:Int)) % 18446744073709551616:=rfl;have e2:lV BinOp.shr IntKind.u64 (((i:Int)+(j:Int)) % 18446744073709551616) 1=(((i:Int)+(j:Int)) % 18446744073709551616).fdiv (2^(min 1 64)):=rfl;rw [e1,e2,ahf _ (by decide)];simp only [show min 1 64=1 from rfl,Int.pow_one];omega
def LI(s r:Nat)(lo hi:Nat)(P:Nat->Nat->Prop):Lp where
 X:=Nat×Nat
 ov p := [(s,.int .i64 fun _=>(p.1:Int)),(r,.int .i64 fun _=>(p.2:Int))]
 oe p := []
 I p:=(lo<=p.1/\p.1<=p.2/\p.2<=hi)/\P p.1 p.2
 μ p _:=p.2 - p.1
 x0:=(lo,hi)
 nx:=none
def aqv(T:Nat)(l:List ay)(a n:Nat):Lp where
 X:=Nat
 ov k := [(13,.int .i64 fun _=>((a+k:Nat):Int)),(0,.own 0)]
 oe k := [(0,.row false .aq T fun _=>vg Tc.aq.aa l a k)]
 I k:=k<=n
 μ k _:=n - k
 x0:=0
 nx:=some fun k=>k+1
def aqw(T:Nat)(l:List ay)(m n:Nat):Lp where
 X:=Nat
 ov k := [(17,.int .i64 fun _=>((m - k:Nat):Int)),(0,.own 0)]
 oe k := [(0,.row false .aq T fun _=>nG Tc.aq.aa l m k)]
 I k:=k<=n
 μ k _:=n - k
 x0:=0
 nx:=some fun k=>k+1
theorem acQ:∀ N,gp Tryz.prog (Gz N)
 | 0=>by
  refine AA [] trivial [] trivial Tryz.func315 (by kernel_rfl) fun ai es res h hp => ?_;exfalso;simp only [Gz] at h;split at h
  case h_2=>cases h
  split at h
  case isFalse=>cases h
  cases h;obtain⟨⟨h1,h2,h3⟩,h4,_⟩:=hp;omega
 | N+1=>by
  have ih:=acQ N;refine FV { kp := [(0,[0,1,2,3,4]),(1,[0,1,2,3,4]),(2,[0,1,3,4,10]),(3,[0,1,4,10,11]),(4,[0,1,4,10,11]),(5,[0,1,4,10,11,12]),(6,[0,1,4,11,12]),(7,[0,1,4,10,12]),(8,[0,1,10]),(9,[0,10,13]),(10,[0,10,13]),(11,[0,10,13]),(12,[0,1,2,3,4]),(13,[0,1,2,4]),(14,[0,2,4,14]),(15,[0,2,4,14,15]),(16,[0,2,4,14,15]),(17,[0,2,4,14,15,16]),(18,[0,2,4,15,16]),(19,[0,2,4,14,16]),(20,[0,2,14]),(21,[0,14,17]),(22,[0,14,17]),(23,[0,14,17]),(24,[0,1,2,3,4]),(25,[0,1,2,3,4,18]),(26,[0,1,2,3,4,18,19]),(27,[0,1,2,3,4,18,19]),(28,[0,1,2,3,4,18,19]),(29,[0,1,2,3,4,18,19,20]),(30,[0,1,2,3,4,18,19]),(31,[0,1,2,3,4,18,19,20]),(32,[0,1,2,3,4,18,19,20,21]),(33,[0,1,2,3,4,18,19,20,21,22]),(34,[0,1,2,3,4,18,19,20,21,22]),(35,[0,1,2,3,4,18,19,20,21,22,23]),(36,[0,1,2,3,4,18,19,21,22,23]),(37,[0,1,2,3,4,18,19,20,22,23]),(38,[0,1,2,3,4,18,19,20]),(39,[0,1,2,3,4,18,20,24]),(40,[0,1,2,3,4,18,20,24]),(41,[0,1,3,4,18,20,24]),(42,[0,1,3,4,18,20,24]),(43,[0,3,4,18,24]),(44,[0,3,4,18,24])] } [SU] ⟨acs,trivial⟩ [Tb,Gz N] ⟨aqu,ih,trivial⟩ Tryz.func315 (by kernel_rfl) fun ai es res h hp => ?_;simp only [Gz] at h;split at h
  case h_2=>cases h
  split at h
  case isFalse=>cases h
  rename_i a m b f T l hf;subst hf;cases h;obtain⟨l,rfl⟩:=eta (α:=List ay) l;obtain⟨a,rfl⟩:=eta (α:=Int) a;obtain⟨b,rfl⟩:=eta (α:=Int) b;obtain⟨m,rfl⟩:=eta (α:=Int) m;obtain⟨⟨h1,h2,h3⟩,⟨h4,h5⟩,h6,h7,h8⟩:(0<=a/\a<m/\m<b)/\(b<=(l.length:Int)/\b - a<=((N+1:Nat):Int))/\l.length<=1000000/\eh ay.aF Tc.aq.aa a.toNat m.toNat l/\eh ay.aF Tc.aq.aa m.toNat b.toNat l:=hp;obtain⟨a,rfl⟩:=oI h1;obtain⟨b,rfl⟩:=oI (show 0<=b from oo);obtain⟨m,rfl⟩:=oI (show 0<=m from oo);simp only [dV] at h7 h8;refine⟨[],?_⟩
  conv=>arg 1; cbv
  simp only [KY,Rw,Rx,wV,CG,gV];refine⟨ii,fun g => ?_,fun g => ?_⟩
  . refine⟨LI 10 11 m b fun i j=>(∀ k,m<=k->k<i->(l.getD k Tc.aq.aa).aF<(l.getD a Tc.aq.aa).aF)/\∀ k,j<=k->k<b->(l.getD a Tc.aq.aa).aF<=(l.getD k Tc.aq.aa).aF,?_⟩
    conv=>arg 1; cbv
    refine⟨?_,fun (p:Nat×Nat) hp => ?_⟩
    . exact acR
    have cf:(m<=p.1/\p.1<=p.2/\p.2<=b)/\(∀ k,m<=k->k<p.1->(l.getD k Tc.aq.aa).aF<(l.getD a Tc.aq.aa).aF)/\∀ k,p.2<=k->k<b->(l.getD a Tc.aq.aa).aF<=(l.getD k Tc.aq.aa).aF:=hp;have q1:=cf.1;have q2:=cf.2.1;have q3:=cf.2.2;clear hp cf
    conv=>arg 1; cbv
    simp (maxSteps:=4000000) only [aB];refine cL ((p.1+p.2) / 2) fun c hc => ?_;simp only [GA (show p.1+p.2<=4000000 from oo),hc,LH,dV];refine⟨fun g1 => ?_,fun g1 => ?_⟩
    . have c1:p.1<=c/\c<p.2:=oo
      refine⟨ii,oo,ii,⟨oo,oo⟩,⟨oo,oo⟩,trivial,fun g2 => ?_,fun g2 => ?_⟩
      . refine cL (c+1) fun c' BE => ?_;refine⟨ii,⟨(c',p.2),⟨⟨⟨oo,oo,oo⟩,fun k k1 k2 => ?_,q3⟩,by show p.2 - c'<p.2 - p.1; omega⟩,?_⟩⟩
        . have k2':k<c':=k2;have:(l.getD k Tc.aq.aa).aF<=(l.getD c Tc.aq.aa).aF:=h8.le k1 oo oo;omega
        . exact no_implicit_lambda% LJ
      . refine⟨(p.1,c),⟨⟨⟨oo,oo,oo⟩,q2,fun k k1 k2 => ?_⟩,by show c - p.1<p.2 - p.1; omega⟩,?_⟩
        . have Te:c<=k:=k1;have:(l.getD c Tc.aq.aa).aF<=(l.getD k Tc.aq.aa).aF:=h8.le oo Te k2;omega
        . exact no_implicit_lambda% LB
    . have jF:p.1=p.2:=oo
      rw [<- jF] at q3;refine cL (p.1 - 1 - a) fun n hn => ?_;have gD:=aqg (key:=ay.aF) (d:=Tc.aq.aa) (l:=l) (a:=a) (b:=b) (i:=p.1) oo ⟨oo,oo⟩ (by rw [show a+1=m by simp only [aI] at g; omega]; exact h8) (fun k k1 k2=>q2 k (by simp only [aI] at g; omega) k2) q3;rw [hn] at gD;simp only [aI] at g;refine⟨aqv T l a n,?_⟩
      conv=>arg 1; cbv
      refine⟨?_,fun (k:Nat) hk => ?_⟩
      . exact xb
      have fP:k<=n:=hk
      conv=>arg 1; cbv
      simp (maxSteps:=4000000) only [aB];refine cL (vg Tc.aq.aa l a k) fun L hL => ?_;have hlen:L.length=l.length:=by rw [<- hL,LF]
      simp only [hL];refine⟨ii,fun g2 => ?_,fun g2 => ?_⟩
      . have e1:((a+k:Nat):Int).toNat=a+k:=oo
        have e2:(((a+k:Nat):Int)+1).toNat=a+k+1:=oo
        refine⟨ii,ii,⟨oo,oo⟩,⟨oo,oo⟩,⟨oo,oo⟩,⟨oo,by rw [mZ]; omega⟩,ii,⟨oo,oo⟩,oo,?_⟩;rw [List.set_comm _ _ oo,e2,<- hL];rfl
      . rw [<- hL,show k=n from oo];exact gD
  simp only [fR] at g;refine⟨ii,fun g0 => ?_,fun g0 => ?_⟩
  . simp only [aI] at g0;refine⟨LI 14 15 a m fun i j=>(∀ k,a<=k->k<i->(l.getD k Tc.aq.aa).aF<=(l.getD m Tc.aq.aa).aF)/\∀ k,j<=k->k<m->(l.getD m Tc.aq.aa).aF<(l.getD k Tc.aq.aa).aF,?_⟩
    conv=>arg 1; cbv
    refine⟨?_,fun (p:Nat×Nat) hp => ?_⟩
    . exact acR
    have cf:(a<=p.1/\p.1<=p.2/\p.2<=m)/\(∀ k,a<=k->k<p.1->(l.getD k Tc.aq.aa).aF<=(l.getD m Tc.aq.aa).aF)/\∀ k,p.2<=k->k<m->(l.getD m Tc.aq.aa).aF<(l.getD k Tc.aq.aa).aF:=hp;have q1:=cf.1;have q2:=cf.2.1;have q3:=cf.2.2;clear hp cf
    conv=>arg 1; cbv
    simp (maxSteps:=4000000) only [aB];refine cL ((p.1+p.2) / 2) fun c hc => ?_;simp only [GA (show p.1+p.2<=4000000 from oo),hc,LH,dV];refine⟨fun g1 => ?_,fun g1 => ?_⟩
    . have c1:p.1<=c/\c<p.2:=oo
      refine⟨ii,oo,ii,⟨oo,oo⟩,⟨oo,oo⟩,trivial,fun g2 => ?_,fun g2 => ?_⟩
      . refine cL (c+1) fun c' BE => ?_;simp only [iG,fR] at g2;refine⟨ii,⟨(c',p.2),⟨⟨⟨oo,oo,oo⟩,fun k k1 k2 => ?_,q3⟩,by show p.2 - c'<p.2 - p.1; omega⟩,?_⟩⟩
        . have k2':k<c':=k2;have:(l.getD k Tc.aq.aa).aF<=(l.getD c Tc.aq.aa).aF:=h7.le k1 oo oo;omega
        . exact no_implicit_lambda% LJ
      . simp only [jY,aI] at g2;refine⟨(p.1,c),⟨⟨⟨oo,oo,oo⟩,q2,fun k k1 k2 => ?_⟩,by show c - p.1<p.2 - p.1; omega⟩,?_⟩
        . have Te:c<=k:=k1;have:(l.getD c Tc.aq.aa).aF<=(l.getD k Tc.aq.aa).aF:=h7.le oo Te k2;omega
        . exact no_implicit_lambda% LB
    . have jF:p.1=p.2:=oo
      rw [<- jF] at q3;refine cL (m - p.1) fun n hn => ?_;have gD:=S4 (key:=ay.aF) (d:=Tc.aq.aa) (l:=l) (a:=a) (m:=m) (i:=p.1) oo ⟨oo,oo⟩ h7 q2 q3;rw [hn,show m+1=b from oo] at gD;refine⟨aqw T l m n,?_⟩
      conv=>arg 1; cbv
      refine⟨?_,fun (k:Nat) hk => ?_⟩
      . exact xb
      have fP:k<=n:=hk
      conv=>arg 1; cbv
      simp (maxSteps:=4000000) only [aB];refine cL (nG Tc.aq.aa l m k) fun L hL => ?_;have hlen:L.length=l.length:=by rw [<- hL,LG]
      simp only [hL];refine⟨fun g2 => ?_,fun g2 => ?_⟩
      . have e1:m - k=m - k - 1+1:=oo
        refine⟨ii,ii,⟨oo,oo⟩,⟨oo,oo⟩,⟨oo,oo⟩,⟨oo,by rw [mZ]; omega⟩,ii,⟨oo,oo⟩,oo,?_⟩;rw [<- hL];show _=swapAt Tc.aq.aa (nG Tc.aq.aa l m k) (m - k - 1)
        unfold swapAt;rw [<- e1]
      . rw [<- hL,show k=n from oo];exact gD
  simp only [fR] at g0;have aqy:=GA (i:=a) (j:=b) oo;simp only [aqy];refine cL ((a+b) / 2) fun mid Lj => ?_;simp only [Lj];refine⟨ii,oo,ii,ii,fun gm=>⟨ii,ii,?_⟩,fun gm=>⟨ii,?_⟩⟩
  . simp only [aI] at gm;refine cL (mid+m - b) fun S hS => ?_;refine cL mid fun R hR => ?_;have hSR:∀ c,S<=c->c<R->m<=mid+m - 1 - c/\mid+m - 1 - c<b:=fun c h1 h2=>oo
    refine⟨LI 20 21 S R fun i j=>(i=S\/(l.getD (i - 1) Tc.aq.aa).aF<=(l.getD (mid+m - i) Tc.aq.aa).aF)/\(j=R\/(l.getD (mid+m - 1 - j) Tc.aq.aa).aF<(l.getD j Tc.aq.aa).aF),?_⟩
    conv=>arg 1; cbv
    refine⟨?_,fun (p:Nat×Nat) hp => ?_⟩
    . exact acT
    have cf:(S<=p.1/\p.1<=p.2/\p.2<=R)/\(p.1=S\/(l.getD (p.1 - 1) Tc.aq.aa).aF<=(l.getD (mid+m - p.1) Tc.aq.aa).aF)/\(p.2=R\/(l.getD (mid+m - 1 - p.2) Tc.aq.aa).aF<(l.getD p.2 Tc.aq.aa).aF):=hp;have q1:=cf.1;have q2:=cf.2.1;have q3:=cf.2.2;clear hp cf
    conv=>arg 1; cbv
    simp (maxSteps:=4000000) only [aB];simp only [GA (show p.1+p.2<=4000000 from oo),LH,dV];refine cL ((p.1+p.2) / 2) fun c hc => ?_;simp only [hc];refine⟨fun g1 => ?_,fun g1 => ?_⟩
    . exact no_implicit_lambda% s_4
    have jF:p.1=p.2:=oo
    rw [<- jF] at q3;refine cL p.1 fun s hs => ?_;rw [hs] at q2 q3;have oT:a<=s/\s<=m/\m<=mid+m - s/\mid+m - s<=b:=oo
    simp only [hs];have hT:=acM (key:=ay.aF) (d:=Tc.aq.aa) (l:=l) (a:=a) (m:=m) (b:=b) (s:=s) (e:=mid+m - s) (mid:=mid) (N:=N) oo h6 ⟨oo,oo⟩ oT oo oo h7 h8 (q2.elim (fun g => .inr (.inl oo)) fun g => .inr (.inr g)) (q3.elim (fun g => .inr (.inl oo)) fun g => .inr (.inr (by rw [show mid+m - s - 1=mid+m - 1 - s from oo]; exact g)));have he:(mid:Int)+(m:Int) - (s:Int)=((mid+m - s:Nat):Int):=oo
    exact acV
  . simp only [fR] at gm;refine cL a fun S hS => ?_;refine cL m fun R hR => ?_;have hSR:∀ c,S<=c->c<R->m<=mid+m - 1 - c/\mid+m - 1 - c<b:=fun c h1 h2=>oo
    refine⟨LI 20 21 S R fun i j=>(i=S\/(l.getD (i - 1) Tc.aq.aa).aF<=(l.getD (mid+m - i) Tc.aq.aa).aF)/\(j=R\/(l.getD (mid+m - 1 - j) Tc.aq.aa).aF<(l.getD j Tc.aq.aa).aF),?_⟩
    conv=>arg 1; cbv
    refine⟨?_,fun (p:Nat×Nat) hp => ?_⟩
    . exact acT
    have cf:(S<=p.1/\p.1<=p.2/\p.2<=R)/\(p.1=S\/(l.getD (p.1 - 1) Tc.aq.aa).aF<=(l.getD (mid+m - p.1) Tc.aq.aa).aF)/\(p.2=R\/(l.getD (mid+m - 1 - p.2) Tc.aq.aa).aF<(l.getD p.2 Tc.aq.aa).aF):=hp;have q1:=cf.1;have q2:=cf.2.1;have q3:=cf.2.2;clear hp cf
    conv=>arg 1; cbv
    simp (maxSteps:=4000000) only [aB];simp only [GA (show p.1+p.2<=4000000 from oo),LH,dV];refine cL ((p.1+p.2) / 2) fun c hc => ?_;simp only [hc];refine⟨fun g1 => ?_,fun g1 => ?_⟩
    . exact no_implicit_lambda% s_4
    have jF:p.1=p.2:=oo
    rw [<- jF] at q3;refine cL p.1 fun s hs => ?_;rw [hs] at q2 q3;have oT:a<=s/\s<=m/\m<=mid+m - s/\mid+m - s<=b:=oo
    simp only [hs];have hT:=acM (key:=ay.aF) (d:=Tc.aq.aa) (l:=l) (a:=a) (m:=m) (b:=b) (s:=s) (e:=mid+m - s) (mid:=mid) (N:=N) oo h6 ⟨oo,oo⟩ oT oo oo h7 h8 (q2.elim (fun g => .inl oo) fun g => .inr (.inr g)) (q3.elim (fun g => .inl oo) fun g => .inr (.inr (by rw [show mid+m - s - 1=mid+m - 1 - s from oo]; exact g)));have he:(mid:Int)+(m:Int) - (s:Int)=((mid+m - s:Nat):Int):=oo
    exact acV
end Go.Proofs.YtlpikgchnjajmaaGreat
