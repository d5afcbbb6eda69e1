/-
  The library's stable sort, at Stowed by tiers: merging in place.
-/
import Derived.Test.YthfpdbjemfhieaaGreatMt20
set_option linter.unusedVariables false
set_option linter.unusedSimpArgs false
namespace Go.Proofs.YthfpdbjemfhieaaGreat
open Go.RowKit
theorem cmpI_lt (a b:Int):cmpI a b<0↔a<b:=by
 unfold cmpI;by_cases h:a<b
 . simp [h]
 . by_cases h2:b<a<;>simp [h,h2]
def fonSym (N:Nat):Fon:=⟨253,[.ownr .stowed,.int .i64,.int .i64,.int .i64,.fn []],1,fun avs es=>match avs,es with
 | [.own 0,.int .i64 a,.int .i64 m,.int .i64 b,.fn f []],[(0,.row false .stowed T l)]=>if f=137 then some ⟨fun _=>(0<=a ()/\a ()<m ()/\m ()<b ())/\(b ()<=((l ()).length:Int)/\b () - a ()<=(N:Int))/\(l ()).length<=1000000/\Srt Stowed.tier Tc.stowed.dflt (a ()).toNat (m ()).toNat (l ())/\Srt Stowed.tier Tc.stowed.dflt (m ()).toNat (b ()).toNat (l ()),.tup [],[(0,.row false .stowed T fun _=>srtW Stowed.tier (a ()).toNat (b ()).toNat (l ()))]⟩ else none
 | _,_=>none,true⟩
theorem half_ij {i j:Nat} (h:i+j<=4000000):shF BinOp.shr IntKind.u64 (IntKind.u64.wrap ((i:Int)+(j:Int))) 1=(((i+j) / 2:Nat):Int):=by
 have e1:IntKind.u64.wrap ((i:Int)+(j:Int))=((i:Int)+(j:Int)) % 18446744073709551616:=rfl;have e2:shF BinOp.shr IntKind.u64 (((i:Int)+(j:Int)) % 18446744073709551616) 1=(((i:Int)+(j:Int)) % 18446744073709551616).fdiv (2^(min 1 64)):=rfl;rw [e1,e2,Int.fdiv_eq_ediv_of_nonneg _ (by decide)];simp only [show min 1 64=1 from rfl,Int.pow_one];omega
def lpHalf (s r:Nat) (lo hi:Nat) (P:Nat->Nat->Prop):Lp where
 X:=Nat×Nat
 ov p := [(s,.int .i64 fun _=>(p.1:Int)),(r,.int .i64 fun _=>(p.2:Int))]
 oe p := []
 I p:=(lo<=p.1/\p.1<=p.2/\p.2<=hi)/\P p.1 p.2
 μ p _:=p.2 - p.1
 x0:=(lo,hi)
 nx:=none
def lpUpw (T:Nat) (l:List Stowed) (a n:Nat):Lp where
 X:=Nat
 ov k := [(13,.int .i64 fun _=>((a+k:Nat):Int)),(0,.own 0)]
 oe k := [(0,.row false .stowed T fun _=>swUp Tc.stowed.dflt l a k)]
 I k:=k<=n
 μ k _:=n - k
 x0:=0
 nx:=some fun k=>k+1
def lpDnw (T:Nat) (l:List Stowed) (m n:Nat):Lp where
 X:=Nat
 ov k := [(17,.int .i64 fun _=>((m - k:Nat):Int)),(0,.own 0)]
 oe k := [(0,.row false .stowed T fun _=>swDn Tc.stowed.dflt l m k)]
 I k:=k<=n
 μ k _:=n - k
 x0:=0
 nx:=some fun k=>k+1
set_option maxRecDepth 100000 in
set_option maxHeartbeats 4000000 in
theorem fonSym_ok:∀ N,FonOk Tryz.prog (fonSym N)
 | 0=>by
  refine fonOk [] trivial [] trivial Tryz.func253 (by kernel_rfl) fun avs es res h hp => ?_;exfalso;simp only [fonSym] at h;split at h
  case h_2=>cases h
  split at h
  case isFalse=>cases h
  cases h;obtain⟨⟨h1,h2,h3⟩,h4,_⟩:=hp;omega
 | N+1=>by
  have ih:=fonSym_ok N;refine fonOkO { kp := [(0,[0,1,2,3,4]),(1,[0,1,2,3,4]),(2,[0,1,3,4,10]),(3,[0,1,4,10,11]),(4,[0,1,4,10,11]),(5,[0,1,4,10,11,12]),(6,[0,1,4,11,12]),(7,[0,1,4,10,12]),(8,[0,1,10]),(9,[0,10,13]),(10,[0,10,13]),(11,[0,10,13]),(12,[0,1,2,3,4]),(13,[0,1,2,4]),(14,[0,2,4,14]),(15,[0,2,4,14,15]),(16,[0,2,4,14,15]),(17,[0,2,4,14,15,16]),(18,[0,2,4,15,16]),(19,[0,2,4,14,16]),(20,[0,2,14]),(21,[0,14,17]),(22,[0,14,17]),(23,[0,14,17]),(24,[0,1,2,3,4]),(25,[0,1,2,3,4,18]),(26,[0,1,2,3,4,18,19]),(27,[0,1,2,3,4,18,19]),(28,[0,1,2,3,4,18,19]),(29,[0,1,2,3,4,18,19,20]),(30,[0,1,2,3,4,18,19]),(31,[0,1,2,3,4,18,19,20]),(32,[0,1,2,3,4,18,19,20,21]),(33,[0,1,2,3,4,18,19,20,21,22]),(34,[0,1,2,3,4,18,19,20,21,22]),(35,[0,1,2,3,4,18,19,20,21,22,23]),(36,[0,1,2,3,4,18,19,21,22,23]),(37,[0,1,2,3,4,18,19,20,22,23]),(38,[0,1,2,3,4,18,19,20]),(39,[0,1,2,3,4,18,20,24]),(40,[0,1,2,3,4,18,20,24]),(41,[0,1,3,4,18,20,24]),(42,[0,1,3,4,18,20,24]),(43,[0,3,4,18,24]),(44,[0,3,4,18,24])] } [conLess] ⟨conLess_ok,trivial⟩ [fonRot,fonSym N] ⟨fonRot_ok,ih,trivial⟩ Tryz.func253 (by kernel_rfl) fun avs es res h hp => ?_;simp only [fonSym] at h;split at h
  case h_2=>cases h
  split at h
  case isFalse=>cases h
  rename_i a m b f T l hf;subst hf;cases h;obtain⟨l,rfl⟩:=eta (α:=List Stowed) l;obtain⟨a,rfl⟩:=eta (α:=Int) a;obtain⟨b,rfl⟩:=eta (α:=Int) b;obtain⟨m,rfl⟩:=eta (α:=Int) m;obtain⟨⟨h1,h2,h3⟩,⟨h4,h5⟩,h6,h7,h8⟩:(0<=a/\a<m/\m<b)/\(b<=(l.length:Int)/\b - a<=((N+1:Nat):Int))/\l.length<=1000000/\Srt Stowed.tier Tc.stowed.dflt a.toNat m.toNat l/\Srt Stowed.tier Tc.stowed.dflt m.toNat b.toNat l:=hp;obtain⟨a,rfl⟩:=Int.eq_ofNat_of_zero_le h1;obtain⟨b,rfl⟩:=Int.eq_ofNat_of_zero_le (show 0<=b by omega);obtain⟨m,rfl⟩:=Int.eq_ofNat_of_zero_le (show 0<=m by omega);simp only [Int.toNat_natCast] at h7 h8;refine⟨[],?_⟩
  conv=>arg 1; cbv
  simp only [P_vc,P_br,P_and,V_one,V_cons,castK];refine⟨by simp only [inI64]; omega,fun g => ?_,fun g => ?_⟩
  . refine⟨lpHalf 10 11 m b fun i j=>(∀ k,m<=k->k<i->(l.getD k Tc.stowed.dflt).tier<(l.getD a Tc.stowed.dflt).tier)/\∀ k,j<=k->k<b->(l.getD a Tc.stowed.dflt).tier<=(l.getD k Tc.stowed.dflt).tier,?_⟩
    conv=>arg 1; cbv
    refine⟨?_,fun (p:Nat×Nat) hp => ?_⟩
    . simp (maxSteps:=4000000) only [fms];exact⟨⟨⟨Nat.le_refl _,by omega,Nat.le_refl _⟩,fun k q1 q2=>by omega,fun k q1 q2=>by omega⟩,trivial,trivial⟩
    have hp':(m<=p.1/\p.1<=p.2/\p.2<=b)/\(∀ k,m<=k->k<p.1->(l.getD k Tc.stowed.dflt).tier<(l.getD a Tc.stowed.dflt).tier)/\∀ k,p.2<=k->k<b->(l.getD a Tc.stowed.dflt).tier<=(l.getD k Tc.stowed.dflt).tier:=hp;have q1:=hp'.1;have q2:=hp'.2.1;have q3:=hp'.2.2;clear hp hp'
    conv=>arg 1; cbv
    simp (maxSteps:=4000000) only [fms];refine nameIt ((p.1+p.2) / 2) fun c hc => ?_;simp only [half_ij (show p.1+p.2<=4000000 by omega),hc,cmpI_lt,Int.toNat_natCast];refine⟨fun g1 => ?_,fun g1 => ?_⟩
    . have c1:p.1<=c/\c<p.2:=by omega
      refine⟨by simp only [inI64]; omega,by omega,by simp only [inI64]; omega,⟨by omega,by omega⟩,⟨by omega,by omega⟩,trivial,fun g2 => ?_,fun g2 => ?_⟩
      . refine nameIt (c+1) fun c' hc' => ?_;refine⟨by simp only [inI64]; omega,⟨(c',p.2),⟨⟨⟨by omega,by omega,by omega⟩,fun k k1 k2 => ?_,q3⟩,by show p.2 - c'<p.2 - p.1; omega⟩,?_⟩⟩
        . have k2':k<c':=k2;have:(l.getD k Tc.stowed.dflt).tier<=(l.getD c Tc.stowed.dflt).tier:=h8.le k1 (by omega) (by omega);omega
        . conv=>arg 1; cbv
          simp (maxSteps:=4000000) only [fms];exact⟨by omega,trivial⟩
      . refine⟨(p.1,c),⟨⟨⟨by omega,by omega,by omega⟩,q2,fun k k1 k2 => ?_⟩,by show c - p.1<p.2 - p.1; omega⟩,?_⟩
        . have k1':c<=k:=k1;have:(l.getD c Tc.stowed.dflt).tier<=(l.getD k Tc.stowed.dflt).tier:=h8.le (by omega) k1' k2;omega
        . conv=>arg 1; cbv
          simp (maxSteps:=4000000) only [fms];exact⟨trivial,trivial⟩
    . have hij:p.1=p.2:=by omega
      rw [<- hij] at q3;refine nameIt (p.1 - 1 - a) fun n hn => ?_;have hend:=swUp_srt (key:=Stowed.tier) (d:=Tc.stowed.dflt) (l:=l) (a:=a) (b:=b) (i:=p.1) (by omega) ⟨by omega,by omega⟩ (by rw [show a+1=m by simp only [decide_eq_true_eq] at g; omega]; exact h8) (fun k k1 k2=>q2 k (by simp only [decide_eq_true_eq] at g; omega) k2) q3;rw [hn] at hend;simp only [decide_eq_true_eq] at g;refine⟨lpUpw T l a n,?_⟩
      conv=>arg 1; cbv
      refine⟨?_,fun (k:Nat) hk => ?_⟩
      . simp (maxSteps:=4000000) only [fms];exact⟨Nat.zero_le _,rfl,rfl⟩
      have hk':k<=n:=hk
      conv=>arg 1; cbv
      simp (maxSteps:=4000000) only [fms];refine nameIt (swUp Tc.stowed.dflt l a k) fun L hL => ?_;have hlen:L.length=l.length:=by rw [<- hL,swUp_len]
      simp only [hL];refine⟨by simp only [inI64]; omega,fun g2 => ?_,fun g2 => ?_⟩
      . have e1:((a+k:Nat):Int).toNat=a+k:=by omega
        have e2:(((a+k:Nat):Int)+1).toNat=a+k+1:=by omega
        refine⟨by simp only [inI64]; omega,by simp only [inI64]; omega,⟨by omega,by omega⟩,⟨by omega,by omega⟩,⟨by omega,by omega⟩,⟨by omega,by rw [List.length_set]; omega⟩,by simp only [inI64]; omega,⟨by omega,by omega⟩,by omega,?_⟩;rw [List.set_comm _ _ (by omega),e2,<- hL];rfl
      . rw [<- hL,show k=n by omega];exact hend
  simp only [decide_eq_false_iff_not] at g;refine⟨by simp only [inI64]; omega,fun g0 => ?_,fun g0 => ?_⟩
  . simp only [decide_eq_true_eq] at g0;refine⟨lpHalf 14 15 a m fun i j=>(∀ k,a<=k->k<i->(l.getD k Tc.stowed.dflt).tier<=(l.getD m Tc.stowed.dflt).tier)/\∀ k,j<=k->k<m->(l.getD m Tc.stowed.dflt).tier<(l.getD k Tc.stowed.dflt).tier,?_⟩
    conv=>arg 1; cbv
    refine⟨?_,fun (p:Nat×Nat) hp => ?_⟩
    . simp (maxSteps:=4000000) only [fms];exact⟨⟨⟨Nat.le_refl _,by omega,Nat.le_refl _⟩,fun k q1 q2=>by omega,fun k q1 q2=>by omega⟩,trivial,trivial⟩
    have hp':(a<=p.1/\p.1<=p.2/\p.2<=m)/\(∀ k,a<=k->k<p.1->(l.getD k Tc.stowed.dflt).tier<=(l.getD m Tc.stowed.dflt).tier)/\∀ k,p.2<=k->k<m->(l.getD m Tc.stowed.dflt).tier<(l.getD k Tc.stowed.dflt).tier:=hp;have q1:=hp'.1;have q2:=hp'.2.1;have q3:=hp'.2.2;clear hp hp'
    conv=>arg 1; cbv
    simp (maxSteps:=4000000) only [fms];refine nameIt ((p.1+p.2) / 2) fun c hc => ?_;simp only [half_ij (show p.1+p.2<=4000000 by omega),hc,cmpI_lt,Int.toNat_natCast];refine⟨fun g1 => ?_,fun g1 => ?_⟩
    . have c1:p.1<=c/\c<p.2:=by omega
      refine⟨by simp only [inI64]; omega,by omega,by simp only [inI64]; omega,⟨by omega,by omega⟩,⟨by omega,by omega⟩,trivial,fun g2 => ?_,fun g2 => ?_⟩
      . refine nameIt (c+1) fun c' hc' => ?_;simp only [Bool.not_eq_true',decide_eq_false_iff_not] at g2;refine⟨by simp only [inI64]; omega,⟨(c',p.2),⟨⟨⟨by omega,by omega,by omega⟩,fun k k1 k2 => ?_,q3⟩,by show p.2 - c'<p.2 - p.1; omega⟩,?_⟩⟩
        . have k2':k<c':=k2;have:(l.getD k Tc.stowed.dflt).tier<=(l.getD c Tc.stowed.dflt).tier:=h7.le k1 (by omega) (by omega);omega
        . conv=>arg 1; cbv
          simp (maxSteps:=4000000) only [fms];exact⟨by omega,trivial⟩
      . simp only [Bool.not_eq_false',decide_eq_true_eq] at g2;refine⟨(p.1,c),⟨⟨⟨by omega,by omega,by omega⟩,q2,fun k k1 k2 => ?_⟩,by show c - p.1<p.2 - p.1; omega⟩,?_⟩
        . have k1':c<=k:=k1;have:(l.getD c Tc.stowed.dflt).tier<=(l.getD k Tc.stowed.dflt).tier:=h7.le (by omega) k1' k2;omega
        . conv=>arg 1; cbv
          simp (maxSteps:=4000000) only [fms];exact⟨trivial,trivial⟩
    . have hij:p.1=p.2:=by omega
      rw [<- hij] at q3;refine nameIt (m - p.1) fun n hn => ?_;have hend:=swDn_srt (key:=Stowed.tier) (d:=Tc.stowed.dflt) (l:=l) (a:=a) (m:=m) (i:=p.1) (by omega) ⟨by omega,by omega⟩ h7 q2 q3;rw [hn,show m+1=b by omega] at hend;refine⟨lpDnw T l m n,?_⟩
      conv=>arg 1; cbv
      refine⟨?_,fun (k:Nat) hk => ?_⟩
      . simp (maxSteps:=4000000) only [fms];exact⟨Nat.zero_le _,rfl,rfl⟩
      have hk':k<=n:=hk
      conv=>arg 1; cbv
      simp (maxSteps:=4000000) only [fms];refine nameIt (swDn Tc.stowed.dflt l m k) fun L hL => ?_;have hlen:L.length=l.length:=by rw [<- hL,swDn_len]
      simp only [hL];refine⟨fun g2 => ?_,fun g2 => ?_⟩
      . have e1:m - k=m - k - 1+1:=by omega
        refine⟨by simp only [inI64]; omega,by simp only [inI64]; omega,⟨by omega,by omega⟩,⟨by omega,by omega⟩,⟨by omega,by omega⟩,⟨by omega,by rw [List.length_set]; omega⟩,by simp only [inI64]; omega,⟨by omega,by omega⟩,by omega,?_⟩;rw [<- hL];show _=swapAt Tc.stowed.dflt (swDn Tc.stowed.dflt l m k) (m - k - 1)
        unfold swapAt;rw [<- e1]
      . rw [<- hL,show k=n by omega];exact hend
  simp only [decide_eq_false_iff_not] at g0;have hmid:=half_ij (i:=a) (j:=b) (by omega);simp only [hmid];refine nameIt ((a+b) / 2) fun mid hm0 => ?_;simp only [hm0];refine⟨by simp only [inI64]; omega,by omega,by simp only [inI64]; omega,by simp only [inI64]; omega,fun gm=>⟨by simp only [inI64]; omega,by simp only [inI64]; omega,?_⟩,fun gm=>⟨by simp only [inI64]; omega,?_⟩⟩
  . simp only [decide_eq_true_eq] at gm;refine nameIt (mid+m - b) fun S hS => ?_;refine nameIt mid fun R hR => ?_;have hSR:∀ c,S<=c->c<R->m<=mid+m - 1 - c/\mid+m - 1 - c<b:=fun c h1 h2=>by omega
    refine⟨lpHalf 20 21 S R fun i j=>(i=S\/(l.getD (i - 1) Tc.stowed.dflt).tier<=(l.getD (mid+m - i) Tc.stowed.dflt).tier)/\(j=R\/(l.getD (mid+m - 1 - j) Tc.stowed.dflt).tier<(l.getD j Tc.stowed.dflt).tier),?_⟩
    conv=>arg 1; cbv
    refine⟨?_,fun (p:Nat×Nat) hp => ?_⟩
    . simp (maxSteps:=4000000) only [fms];refine⟨⟨⟨Nat.le_refl _,by omega,Nat.le_refl _⟩,.inl trivial,.inl trivial⟩,?_⟩
      first|exact⟨by omega,by omega⟩|exact⟨by omega,trivial⟩|exact⟨trivial,trivial⟩
    have hp':(S<=p.1/\p.1<=p.2/\p.2<=R)/\(p.1=S\/(l.getD (p.1 - 1) Tc.stowed.dflt).tier<=(l.getD (mid+m - p.1) Tc.stowed.dflt).tier)/\(p.2=R\/(l.getD (mid+m - 1 - p.2) Tc.stowed.dflt).tier<(l.getD p.2 Tc.stowed.dflt).tier):=hp;have q1:=hp'.1;have q2:=hp'.2.1;have q3:=hp'.2.2;clear hp hp'
    conv=>arg 1; cbv
    simp (maxSteps:=4000000) only [fms];simp only [half_ij (show p.1+p.2<=4000000 by omega),cmpI_lt,Int.toNat_natCast];refine nameIt ((p.1+p.2) / 2) fun c hc => ?_;simp only [hc];refine⟨fun g1 => ?_,fun g1 => ?_⟩
    . have c1:p.1<=c/\c<p.2:=by omega
      have c2:=hSR c (by omega) (by omega);have e1:((mid:Int)+(m:Int) - 1 - (c:Int)).toNat=mid+m - 1 - c:=by omega
      rw [e1];refine⟨by simp only [inI64]; omega,by omega,by simp only [inI64]; omega,by simp only [inI64]; omega,⟨by omega,by omega⟩,⟨by omega,by omega⟩,trivial,fun g2 => ?_,fun g2 => ?_⟩
      . refine nameIt (c+1) fun c' hc' => ?_;simp only [Bool.not_eq_true',decide_eq_false_iff_not] at g2;refine⟨by simp only [inI64]; omega,⟨(c',p.2),⟨⟨⟨by omega,by omega,by omega⟩,.inr ?_,q3⟩,by show p.2 - c'<p.2 - p.1; omega⟩,?_⟩⟩
        . show (l.getD (c' - 1) Tc.stowed.dflt).tier<=(l.getD (mid+m - c') Tc.stowed.dflt).tier
          rw [show c' - 1=c by omega,show mid+m - c'=mid+m - 1 - c by omega];omega
        . conv=>arg 1; cbv
          simp (maxSteps:=4000000) only [fms];exact⟨by omega,trivial⟩
      . simp only [Bool.not_eq_false',decide_eq_true_eq] at g2;refine⟨(p.1,c),⟨⟨⟨by omega,by omega,by omega⟩,q2,.inr g2⟩,by show c - p.1<p.2 - p.1; omega⟩,?_⟩
        conv=>arg 1; cbv
        simp (maxSteps:=4000000) only [fms];exact⟨trivial,trivial⟩
    have hij:p.1=p.2:=by omega
    rw [<- hij] at q3;refine nameIt p.1 fun s hs => ?_;rw [hs] at q2 q3;have hse:a<=s/\s<=m/\m<=mid+m - s/\mid+m - s<=b:=by omega
    simp only [hs];have hT:=sym_t (key:=Stowed.tier) (d:=Tc.stowed.dflt) (l:=l) (a:=a) (m:=m) (b:=b) (s:=s) (e:=mid+m - s) (mid:=mid) (N:=N) (by omega) h6 ⟨by omega,by omega⟩ hse (by omega) (by omega) h7 h8 (q2.elim (fun g => .inr (.inl (by omega))) fun g => .inr (.inr g)) (q3.elim (fun g => .inr (.inl (by omega))) fun g => .inr (.inr (by rw [show mid+m - s - 1=mid+m - 1 - s by omega]; exact g)));have he:(mid:Int)+(m:Int) - (s:Int)=((mid+m - s:Nat):Int):=by omega
    refine nameIt (mid+m - s) fun e he0 => ?_;rw [he0] at he hT hse;simp only [he,Int.toNat_natCast];have hT0:s=m\/m=e->SymT Stowed.tier Tc.stowed.dflt a b s e mid N l (srtW Stowed.tier a b l):=fun g=>by
     have q:=rotW_none (l:=l) (s:=s) (m:=m) (e:=e) (by omega) (by omega) (by omega) g;rw [q] at hT;exact hT
    exact⟨by simp only [inI64]; omega,fun g1=>⟨fun g2=>⟨⟨⟨by omega,by omega,by omega⟩,by omega,h6⟩,hT⟩,fun g2=>hT0 (.inr (by omega))⟩,fun g1=>hT0 (.inl (by omega))⟩
  . simp only [decide_eq_false_iff_not] at gm;refine nameIt a fun S hS => ?_;refine nameIt m fun R hR => ?_;have hSR:∀ c,S<=c->c<R->m<=mid+m - 1 - c/\mid+m - 1 - c<b:=fun c h1 h2=>by omega
    refine⟨lpHalf 20 21 S R fun i j=>(i=S\/(l.getD (i - 1) Tc.stowed.dflt).tier<=(l.getD (mid+m - i) Tc.stowed.dflt).tier)/\(j=R\/(l.getD (mid+m - 1 - j) Tc.stowed.dflt).tier<(l.getD j Tc.stowed.dflt).tier),?_⟩
    conv=>arg 1; cbv
    refine⟨?_,fun (p:Nat×Nat) hp => ?_⟩
    . simp (maxSteps:=4000000) only [fms];refine⟨⟨⟨Nat.le_refl _,by omega,Nat.le_refl _⟩,.inl trivial,.inl trivial⟩,?_⟩
      first|exact⟨by omega,by omega⟩|exact⟨by omega,trivial⟩|exact⟨trivial,trivial⟩
    have hp':(S<=p.1/\p.1<=p.2/\p.2<=R)/\(p.1=S\/(l.getD (p.1 - 1) Tc.stowed.dflt).tier<=(l.getD (mid+m - p.1) Tc.stowed.dflt).tier)/\(p.2=R\/(l.getD (mid+m - 1 - p.2) Tc.stowed.dflt).tier<(l.getD p.2 Tc.stowed.dflt).tier):=hp;have q1:=hp'.1;have q2:=hp'.2.1;have q3:=hp'.2.2;clear hp hp'
    conv=>arg 1; cbv
    simp (maxSteps:=4000000) only [fms];simp only [half_ij (show p.1+p.2<=4000000 by omega),cmpI_lt,Int.toNat_natCast];refine nameIt ((p.1+p.2) / 2) fun c hc => ?_;simp only [hc];refine⟨fun g1 => ?_,fun g1 => ?_⟩
    . have c1:p.1<=c/\c<p.2:=by omega
      have c2:=hSR c (by omega) (by omega);have e1:((mid:Int)+(m:Int) - 1 - (c:Int)).toNat=mid+m - 1 - c:=by omega
      rw [e1];refine⟨by simp only [inI64]; omega,by omega,by simp only [inI64]; omega,by simp only [inI64]; omega,⟨by omega,by omega⟩,⟨by omega,by omega⟩,trivial,fun g2 => ?_,fun g2 => ?_⟩
      . refine nameIt (c+1) fun c' hc' => ?_;simp only [Bool.not_eq_true',decide_eq_false_iff_not] at g2;refine⟨by simp only [inI64]; omega,⟨(c',p.2),⟨⟨⟨by omega,by omega,by omega⟩,.inr ?_,q3⟩,by show p.2 - c'<p.2 - p.1; omega⟩,?_⟩⟩
        . show (l.getD (c' - 1) Tc.stowed.dflt).tier<=(l.getD (mid+m - c') Tc.stowed.dflt).tier
          rw [show c' - 1=c by omega,show mid+m - c'=mid+m - 1 - c by omega];omega
        . conv=>arg 1; cbv
          simp (maxSteps:=4000000) only [fms];exact⟨by omega,trivial⟩
      . simp only [Bool.not_eq_false',decide_eq_true_eq] at g2;refine⟨(p.1,c),⟨⟨⟨by omega,by omega,by omega⟩,q2,.inr g2⟩,by show c - p.1<p.2 - p.1; omega⟩,?_⟩
        conv=>arg 1; cbv
        simp (maxSteps:=4000000) only [fms];exact⟨trivial,trivial⟩
    have hij:p.1=p.2:=by omega
    rw [<- hij] at q3;refine nameIt p.1 fun s hs => ?_;rw [hs] at q2 q3;have hse:a<=s/\s<=m/\m<=mid+m - s/\mid+m - s<=b:=by omega
    simp only [hs];have hT:=sym_t (key:=Stowed.tier) (d:=Tc.stowed.dflt) (l:=l) (a:=a) (m:=m) (b:=b) (s:=s) (e:=mid+m - s) (mid:=mid) (N:=N) (by omega) h6 ⟨by omega,by omega⟩ hse (by omega) (by omega) h7 h8 (q2.elim (fun g => .inl (by omega)) fun g => .inr (.inr g)) (q3.elim (fun g => .inl (by omega)) fun g => .inr (.inr (by rw [show mid+m - s - 1=mid+m - 1 - s by omega]; exact g)));have he:(mid:Int)+(m:Int) - (s:Int)=((mid+m - s:Nat):Int):=by omega
    refine nameIt (mid+m - s) fun e he0 => ?_;rw [he0] at he hT hse;simp only [he,Int.toNat_natCast];have hT0:s=m\/m=e->SymT Stowed.tier Tc.stowed.dflt a b s e mid N l (srtW Stowed.tier a b l):=fun g=>by
     have q:=rotW_none (l:=l) (s:=s) (m:=m) (e:=e) (by omega) (by omega) (by omega) g;rw [q] at hT;exact hT
    exact⟨by simp only [inI64]; omega,fun g1=>⟨fun g2=>⟨⟨⟨by omega,by omega,by omega⟩,by omega,h6⟩,hT⟩,fun g2=>hT0 (.inr (by omega))⟩,fun g1=>hT0 (.inl (by omega))⟩
def sortT (l:List Stowed):List Stowed:=insSort lessT Tc.stowed.dflt 0 l.length l
def fonStable:Fon:=⟨204,[.ownr .stowed,.int .i64,.fn []],1,fun avs es=>match avs,es with
 | [.own 0,.int .i64 n,.fn f []],[(0,.row false .stowed T l)]=>if f=137 then some ⟨fun _=>n ()=((l ()).length:Int)/\(l ()).length<=40,.tup [],[(0,.row false .stowed T fun _=>sortT (l ()))]⟩ else none
 | _,_=>none,true⟩
theorem sortT_srt (l:List Stowed):sortT l=srtW Stowed.tier 0 l.length l:=insSort_srt lessT_iff (Nat.zero_le _) (Nat.le_refl _)
def stBlk (l:List Stowed):Nat->List Stowed
 | 0=>l
 | q+1=>srtW Stowed.tier (20*q) (20*q+20) (stBlk l q)
theorem stBlk_len (l:List Stowed):∀ q,20*q<=l.length->(stBlk l q).length=l.length
 | 0,_=>rfl
 | q+1,h=>by
  have:=stBlk_len l q (by omega);show (srtW Stowed.tier (20*q) (20*q+20) (stBlk l q)).length=_
  rw [(srtW_ren (by omega) (by omega)).len,this]
theorem stBlk_all {l:List Stowed} {q:Nat} (hq:20*q<=l.length/\l.length<20*q+20) (hl:l.length<=40) :
 (srtW Stowed.tier (20*q) l.length (stBlk l q)).length=l.length/\(l.length<=20->srtW Stowed.tier (20*q) l.length (stBlk l q)=sortT l)/\(20<l.length->(Srt Stowed.tier Tc.stowed.dflt 0 20 (srtW Stowed.tier (20*q) l.length (stBlk l q))/\Srt Stowed.tier Tc.stowed.dflt 20 l.length (srtW Stowed.tier (20*q) l.length (stBlk l q)))/\srtW Stowed.tier 0 l.length (srtW Stowed.tier (20*q) l.length (stBlk l q))=sortT l):=by
 have hn:=stBlk_len l q hq.1;have r:=srtW_ren (key:=Stowed.tier) (l:=stBlk l q) (a:=20*q) (b:=l.length) hq.1 (by omega);have st:=srtW_srt (key:=Stowed.tier) (d:=Tc.stowed.dflt) (l:=stBlk l q) (a:=20*q) (b:=l.length) hq.1 (by omega);refine⟨by rw [r.len,hn],fun h => ?_,fun h => ?_⟩
 . rw [sortT_srt];have:q=0\/(q=1/\l.length=20):=by omega
   rcases this with h0|⟨h0,h1⟩
   . subst h0; rfl
   . subst h0;rw [h1];show srtW Stowed.tier 20 20 (srtW Stowed.tier 0 20 l)=_
     refine srtW_id (d:=Tc.stowed.dflt) (Nat.le_refl _) (by rw [(srtW_ren (by omega) (by omega)).len]; omega) fun i k h1 h2 h3=>by omega
 . have r1:Ren Stowed.tier 0 20 l (srtW Stowed.tier 0 20 l):=srtW_ren (by omega) (by omega);have s1:Srt Stowed.tier Tc.stowed.dflt 0 20 (srtW Stowed.tier 0 20 l):=srtW_srt (by omega) (by omega);have:q=1\/(q=2/\l.length=40):=by omega
   have hB:Ren Stowed.tier 0 l.length l (srtW Stowed.tier (20*q) l.length (stBlk l q))/\Srt Stowed.tier Tc.stowed.dflt 0 20 (srtW Stowed.tier (20*q) l.length (stBlk l q))/\Srt Stowed.tier Tc.stowed.dflt 20 l.length (srtW Stowed.tier (20*q) l.length (stBlk l q)):=by
    rcases this with h0|⟨h0,h1⟩
    . subst h0;exact⟨(r1.wide (Nat.le_refl _) (by omega)).trans (r.wide (by omega) (Nat.le_refl _)),s1.out r (.inl (by omega)),st⟩
    . subst h0;have r2:Ren Stowed.tier 20 40 (srtW Stowed.tier 0 20 l) (stBlk l 2):=srtW_ren (by omega) (by show _<=(srtW Stowed.tier 0 20 l).length; rw [r1.len]; omega);have s2:Srt Stowed.tier Tc.stowed.dflt 20 40 (stBlk l 2):=srtW_srt (by omega) (by show _<=(srtW Stowed.tier 0 20 l).length; rw [r1.len]; omega);refine⟨((r1.wide (Nat.le_refl _) (by omega)).trans (r2.wide (by omega) (by omega))).trans (r.wide (by omega) (Nat.le_refl _)),(s1.out r2 (.inl (Nat.le_refl _))).out r (.inl (by omega)),?_⟩;rw [h1] at r ⊢;exact s2.out r (.inl (Nat.le_refl _))
   refine⟨hB.2,?_⟩;rw [sortT_srt];exact srtW_is (d:=Tc.stowed.dflt) (Nat.zero_le _) (Nat.le_refl _) (hB.1.trans (srtW_ren (Nat.zero_le _) (by rw [hB.1.len]; exact Nat.le_refl _))) (srtW_srt (Nat.zero_le _) (by rw [hB.1.len]; exact Nat.le_refl _))
def lpBlk (T:Nat) (l:List Stowed):Lp where
 X:=Nat
 ov q := [(7,.int .i64 fun _=>((20*q:Nat):Int)),(8,.int .i64 fun _=>((20*q+20:Nat):Int)),(0,.own 0)]
 oe q := [(0,.row false .stowed T fun _=>stBlk l q)]
 I q:=20*q<=l.length
 μ q _:=l.length - 20*q
 x0:=0
 nx:=some fun q=>q+1
def lpSize (T:Nat) (B S:List Stowed):Lp where
 X:=Nat
 ov t := [(6,.int .i64 fun _=>((20*(t+1):Nat):Int)),(0,.own 0)]
 oe t := [(0,.row false .stowed T fun _=>cond (decide (t=0)) B S)]
 I t:=t=0\/(t=1/\20<B.length)
 μ t _:=1 - t
 x0:=0
 nx:=none
def lpPair (T:Nat) (B S:List Stowed):Lp where
 X:=Nat
 ov u := [(7,.int .i64 fun _=>((40*u:Nat):Int)),(8,.int .i64 fun _=>((40*u+40:Nat):Int)),(0,.own 0)]
 oe u := [(0,.row false .stowed T fun _=>cond (decide (u=0)) B S)]
 I u:=u=0\/(u=1/\B.length=40)
 μ u _:=1 - u
 x0:=0
 nx:=none
set_option maxRecDepth 100000 in
set_option maxHeartbeats 4000000 in
theorem fonStable_ok:FonOk Tryz.prog fonStable:=by
 refine fonOkO { kp := [(0,[0,1,2]),(1,[0,1,2,6]),(2,[0,1,2,6,7,8]),(3,[0,1,2,6,7,8]),(4,[0,1,2,6,8]),(5,[0,1,2,6,7,8]),(6,[0,1,2,6,7]),(7,[0,1,2,6]),(8,[0,1,2,6]),(9,[0,1,2,6,7,8]),(10,[0,1,2,6,7,8]),(11,[0,1,2,6,8]),(12,[0,1,2,6,7,8]),(13,[0,1,2,6,7]),(14,[0,1,2,6,7,9]),(15,[0,1,2,6,7,9]),(16,[0,1,2,6])] } [] trivial [fonIns,fonSym 40] ⟨fonIns_ok,fonSym_ok 40,trivial⟩ Tryz.func204 (by kernel_rfl) fun avs es res h hp => ?_;simp only [fonStable] at h;split at h
 case h_2=>cases h
 split at h
 case isFalse=>cases h
 rename_i n f T l hf;subst hf;cases h;obtain⟨l,rfl⟩:=eta (α:=List Stowed) l;obtain⟨n,rfl⟩:=eta (α:=Int) n;have hZh1:n=(l.length:Int)/\l.length<=40:=hp;have h1:=hZh1.1;have h2:=hZh1.2;subst h1;refine⟨[(2,lpBlk T l)],?_⟩
 conv=>arg 1; cbv
 refine⟨?_,fun (q:Nat) hq => ?_⟩
 . simp (maxSteps:=4000000) only [fms];exact⟨Nat.zero_le _,rfl,rfl,rfl⟩
 have hq':20*q<=l.length:=hq;clear hq
 conv=>arg 1; cbv
 simp (maxSteps:=4000000) only [fms];have hlb:=stBlk_len l q hq';refine⟨fun g => ?_,fun g => ?_⟩
 . exact⟨⟨by omega,by omega,by omega,by omega⟩,by simp only [inI64]; omega,⟨by omega,by omega⟩,by omega,by omega,insSort_srt lessT_iff (by omega) (by omega)⟩
 obtain⟨hB0,hB1,hB2⟩:=stBlk_all (l:=l) (q:=q) ⟨hq',by omega⟩ h2;have hins:insSort lessT Tc.stowed.dflt (20*q) l.length (stBlk l q)=srtW Stowed.tier (20*q) l.length (stBlk l q):=insSort_srt lessT_iff hq' (by omega);simp only [hins];generalize srtW Stowed.tier (20*q) l.length (stBlk l q)=B at *
 refine nameIt (sortT l) fun S hS => ?_;rw [hS] at hB1 hB2;have hSl:S.length=l.length:=by rw [<- hS,sortT_srt]; exact (srtW_ren (Nat.zero_le _) (Nat.le_refl _)).len
 refine⟨⟨by omega,by omega,by omega,by omega⟩,lpSize T B S,?_⟩
 conv=>arg 1; cbv
 refine⟨?_,fun (t:Nat) ht => ?_⟩
 . simp (maxSteps:=4000000) only [fms];simp
 have ht':t=0\/(t=1/\20<B.length):=ht;clear ht
 conv=>arg 1; cbv
 simp (maxSteps:=4000000) only [fms];refine⟨fun g1 => ?_,fun g1 => ?_⟩
 . have ht0:t=0:=by omega
   subst ht0;have hl20:20<l.length:=by omega
   obtain⟨⟨hs1,hs2⟩,hs3⟩:=hB2 hl20;refine⟨by simp only [inI64]; omega,lpPair T B S,?_⟩
   conv=>arg 1; cbv
   refine⟨?_,fun (u:Nat) hu => ?_⟩
   . simp (maxSteps:=4000000) only [fms];simp
   have hu':u=0\/(u=1/\B.length=40):=hu;clear hu;rcases hu' with hu|⟨hu,hu1⟩
   . subst hu
     conv=>arg 1; cbv
     simp (maxSteps:=4000000) only [fms];have e20:(((40*0:Nat):Int)+((20*(0+1):Nat):Int)).toNat=20:=rfl;rw [e20];refine⟨fun g2=>⟨by simp only [inI64]; omega,⟨⟨by omega,by omega,by omega⟩,⟨by show _<=(B.length:Int); omega,by omega⟩,by show B.length<=_; omega,hs1,?_⟩,by simp only [inI64]; omega,by simp only [inI64]; omega,⟨1,⟨⟨.inr ⟨rfl,by omega⟩,by omega⟩,?_⟩⟩⟩,fun g2=>⟨by simp only [inI64]; omega,fun g3=>⟨⟨⟨by omega,by omega,by omega⟩,⟨by show _<=(B.length:Int); omega,by omega⟩,by show B.length<=_; omega,hs1,?_⟩,by simp only [inI64]; omega,⟨1,⟨⟨.inr ⟨rfl,by omega⟩,by omega⟩,?_⟩⟩⟩,fun g3=>by omega⟩⟩
     . rw [show l.length=40 by omega] at hs2;exact hs2
     . conv=>arg 1; cbv
       simp (maxSteps:=4000000) only [fms];have h40:l.length=40:=by omega
       rw [h40] at hs3;exact⟨trivial,by omega,hs3⟩
     . exact hs2
     . conv=>arg 1; cbv
       simp (maxSteps:=4000000) only [fms];exact⟨by omega,hs3⟩
   . subst hu
     conv=>arg 1; cbv
     simp (maxSteps:=4000000) only [fms];refine⟨fun g2=>by omega,fun g2=>⟨by simp only [inI64]; omega,fun g3=>by omega,fun g3=>⟨by simp only [inI64]; omega,⟨1,⟨⟨.inr ⟨rfl,by omega⟩,by omega⟩,?_⟩⟩⟩⟩⟩
     conv=>arg 1; cbv
     simp (maxSteps:=4000000) only [fms];exact⟨by omega,trivial⟩
 . rw [hS];rcases ht' with h0|⟨h0,h3⟩
   . rw [h0];exact hB1 (by omega)
   . rw [h0];rfl
def fonSort:Fon:=⟨136,[.ownr .stowed,.fn []],1,fun avs es=>match avs,es with
 | [.own 0,.fn f []],[(0,.row false .stowed T l)]=>if f=137 then some ⟨fun _=>(l ()).length<=40,.tup [],[(0,.row false .stowed T fun _=>sortT (l ()))]⟩ else none
 | _,_=>none,true⟩
set_option maxRecDepth 100000 in
set_option maxHeartbeats 4000000 in
theorem fonSort_ok:FonOk Tryz.prog fonSort:=by
 refine fonOk [] trivial [fonStable] ⟨fonStable_ok,trivial⟩ Tryz.func136 (by kernel_rfl) fun avs es res h hp => ?_;simp only [fonSort] at h;split at h
 case h_2=>cases h
 split at h
 case isFalse=>cases h
 rename_i f T l hf;subst hf;cases h;obtain⟨l,rfl⟩:=eta (α:=List Stowed) l;have hp':l.length<=40:=hp;refine⟨[],?_⟩
 conv=>arg 1; cbv
 simp (maxSteps:=4000000) only [fms];exact⟨⟨trivial,hp'⟩,trivial⟩
/- sorting changes the order only -/
theorem swapAt_perm {α:Type} (d : α) (l:List α) (j:Nat) (h:j+1<l.length):(swapAt d l j).Perm l:=by
 unfold swapAt;have e1:l.getD j d=l[j]:=by rw [List.getD_eq_getElem?_getD,List.getElem?_eq_getElem (by omega),Option.getD_some]
 have e2:l.getD (j+1) d=l[j+1]:=by rw [List.getD_eq_getElem?_getD,List.getElem?_eq_getElem h,Option.getD_some]
 rw [e1,e2];have:l=l.take j++l[j]::l[j+1]::l.drop (j+2):=by
  rw [List.getElem_cons_drop,List.getElem_cons_drop,List.take_append_drop]
 have h3:(l.set (j+1) l[j]).set j l[j+1]=l.take j++l[j+1]::l[j]::l.drop (j+2):=by
  apply List.ext_getElem?;intro i;rw [List.getElem?_set,List.getElem?_set,List.getElem?_append];simp only [List.length_set,List.length_take];grind
 rw [h3]
 conv=>rhs; rw [this]
 exact List.Perm.append_left _ (List.Perm.swap _ _ _)
theorem insDown_perm {α:Type} (lt : α -> α->Bool) (d : α) (a:Nat):∀ (j:Nat) (l:List α),j<l.length->(insDown lt d a j l).Perm l
 | 0,l,_=>List.Perm.refl _
 | j+1,l,h=>by
  unfold insDown
  cases decide (a<j+1)&&lt (l.getD (j+1) d) (l.getD j d) with
  | true =>
   rw [cond_true];exact (insDown_perm lt d a j _ (by rw [swapAt_len]; omega)).trans (swapAt_perm d l j h)
  | false=>exact List.Perm.refl _
theorem insUpto_perm {α:Type} (lt : α -> α->Bool) (d : α) (a:Nat) (l:List α):∀ n,a+1+n<=l.length\/n=0->(insUpto lt d a l n).Perm l
 | 0,_=>List.Perm.refl _
 | n+1,h=>by
  unfold insUpto;exact (insDown_perm lt d a _ _ (by rw [insUpto_len]; omega)).trans (insUpto_perm lt d a l n (by omega))
theorem sortT_perm (l:List Stowed):(sortT l).Perm l:=insUpto_perm _ _ _ _ _ (by omega)
def hsOf (h:Int):List Int:=cond (decide (h=1)) [1] (cond (decide (h=2)) [2] [1,2])
def topKey (c h:Int):List Kx := [.i .i64 c,.i .i64 h]
def bump (t c:Int) (m:List Kx->Option Int) (hs:List Int):List Kx->Option Int:=hs.foldl (fun m h=>setM m (topKey c h) ((m (topKey c h)).getD 0+t)) m
def topStep (bs:List Box) (m:List Kx->Option Int) (x:Stowed):List Kx->Option Int:=bump (tallB (findV bs x.box).1) x.col m (hsOf x.half)
def topsM (bs:List Box) (l:List Stowed):List Kx->Option Int:=l.foldl (topStep bs) fun _=>none
def midX (c:Col) (h:Int):Int:=cond (decide (h=1)) (c.x+3050) (cond (decide (h=2)) (c.x - 3050) c.x)
def midOf (cs:List Col) (bs:List Box) (m:List Kx->Option Int) (x:Stowed):Mid :=
 ⟨(findV bs x.box).1,midX (cs.getD x.col.toNat Tc.col.dflt) x.half,(cs.getD x.col.toNat Tc.col.dflt).y,2*((cs.getD x.col.toNat Tc.col.dflt).z+(m (topKey x.col ((hsOf x.half).headD 0))).getD 0)+tallB (findV bs x.box).1⟩
def midsK (cs:List Col) (bs:List Box) (l:List Stowed) (k:Nat):List Mid:=(List.range k).map fun j=>midOf cs bs (topsM bs (l.take j)) (l.getD j Tc.stowed.dflt)
def midsL (cs:List Col) (bs:List Box) (l:List Stowed):List Mid:=midsK cs bs l l.length
theorem midsK_succ (cs:List Col) (bs:List Box) (l:List Stowed) (k:Nat):midsK cs bs l (k+1)=midsK cs bs l k ++ [midOf cs bs (topsM bs (l.take k)) (l.getD k Tc.stowed.dflt)]:=by
 unfold midsK;rw [List.range_succ,List.map_append];rfl
theorem midsK_len (cs:List Col) (bs:List Box) (l:List Stowed) (k:Nat):(midsK cs bs l k).length=k:=by unfold midsK; simp
theorem topsM_more {bs:List Box} {l:List Stowed} {k:Nat} (h:k<l.length):topsM bs (l.take (k+1))=topStep bs (topsM bs (l.take k)) (l.getD k Tc.stowed.dflt):=by
 unfold topsM;rw [take_getD Tc.stowed.dflt h,List.foldl_append];rfl
theorem bump_bound {t c B:Int} (ht:0<=t/\t<=2896):∀ (hs:List Int) (m:List Kx->Option Int),(∀ k,0<=(m k).getD 0/\(m k).getD 0<=B)->∀ k,0<=((bump t c m hs) k).getD 0/\((bump t c m hs) k).getD 0<=B+2896*(hs.length:Int)
 | [],m,h,k=>by have:=h k; simpa [bump] using this
 | x::hs,m,h,k=>by
  have h2:∀ k,0<=((setM m (topKey c x) ((m (topKey c x)).getD 0+t)) k).getD 0/\((setM m (topKey c x) ((m (topKey c x)).getD 0+t)) k).getD 0<=B+2896:=fun k=>by
   have h3:=h k;have h4:=h (topKey c x);unfold setM;split
   . simp only [Option.getD_some]; omega
   . omega
  have h5:=bump_bound (c:=c) (B:=B+2896) ht hs _ h2 k;have e:bump t c m (x::hs)=bump t c (setM m (topKey c x) ((m (topKey c x)).getD 0+t)) hs:=rfl;rw [e];simp only [List.length_cons];omega
theorem hsOf_len (h:Int):(hsOf h).length<=2/\1<=(hsOf h).length:=by
 unfold hsOf;cases decide (h=1)<;>cases decide (h=2)<;>simp
theorem tops_bound (bs:List Box) (l:List Stowed) (k:List Kx):0<=(topsM bs l k).getD 0/\(topsM bs l k).getD 0<=5792*(l.length:Int):=by
 have:∀ (l:List Stowed) (m:List Kx->Option Int) (B:Int),(∀ k,0<=(m k).getD 0/\(m k).getD 0<=B)->∀ k,0<=(l.foldl (topStep bs) m k).getD 0/\(l.foldl (topStep bs) m k).getD 0<=B+5792*(l.length:Int):=by
  intro l
  induction l with
  | nil=>intro m B h k; simpa using h k
  | cons x l ih =>
   intro m B h k;have h1:=bump_bound (c:=x.col) (tallB_bound (findV bs x.box).1) (hsOf x.half) m h;have h2:=hsOf_len x.half;have h3:=ih (topStep bs m x) (B+5792) (fun k=>by
    have:=h1 k;unfold topStep
    omega) k
   simp only [List.foldl_cons,List.length_cons];omega
 have:=this l (fun _=>none) 0 (fun k=>by simp) k;unfold topsM;omega
theorem stow_col {s:Shp} {bs:List Box} {l:List Stowed} {x:Stowed} (h:stowB s bs l=true) (hx:x∈l):0<=x.col/\x.col<(s.cols.length:Int):=by
 obtain⟨k,hk,rfl⟩:=List.getElem_of_mem hx;unfold stowB at h;simp only [Bool.and_eq_true,decide_eq_true_eq] at h;have h1:=h.2.1 k hk;unfold stowAt slotOk at h1;have e:l.getD k Tc.stowed.dflt=l[k]:=by rw [List.getD_eq_getElem?_getD,List.getElem?_eq_getElem hk,Option.getD_some]
 rw [e] at h1;simp only [Bool.and_eq_true,decide_eq_true_eq] at h1;exact⟨h1.2.1.1.1,h1.2.1.1.2.1⟩
theorem ship_col {s:Shp} (h:shipB s=true) {k:Nat} (hk:k<s.cols.length):(-500000<=(s.cols.getD k Tc.col.dflt).x/\(s.cols.getD k Tc.col.dflt).x<=500000)/\(-500000<=(s.cols.getD k Tc.col.dflt).y/\(s.cols.getD k Tc.col.dflt).y<=500000)/\(-500000<=(s.cols.getD k Tc.col.dflt).z/\(s.cols.getD k Tc.col.dflt).z<=500000):=by
 unfold shipB at h;simp only [Bool.and_eq_true] at h;have h6:=List.all_eq_true.1 h.2.1 _ (getD_mem Tc.col.dflt hk);generalize s.cols.getD k Tc.col.dflt=c at *
 unfold colB at h6;simp only [Bool.and_eq_true] at h6;have hx:=List.all_eq_true.1 h6.2 ⟨c.x,-500000,500000⟩ (by simp [colSpans]);have hy:=List.all_eq_true.1 h6.2 ⟨c.y,-500000,500000⟩ (by simp [colSpans]);have hz:=List.all_eq_true.1 h6.2 ⟨c.z,-500000,500000⟩ (by simp [colSpans]);unfold spnB at hx hy hz;simp only [Bool.and_eq_true,decide_eq_true_eq] at hx hy hz;exact⟨hx,hy,hz⟩
def cargoB (s:Shp) (bs:List Box) (l:List Stowed):Bool:=decide ((boxValid bs).2=0)&&stowB s bs l
def boxesPre (bs:List Box):Prop:=bs.length<=1000000000000/\∀ b∈bs,b.num.size<=140737488351232
def conMiddles:Con:=con3 70 kShip kBoxes kStos (fun s bs l=>shipPre (s ())/\boxesPre (bs ())/\(l ()).length<=40) (fun s bs l => .tup [.sl true .mid fun _=>cond (cargoB (s ()) (bs ()) (l ())) (midsL (s ()).cols (bs ()) (sortT (l ()))) [],.bool fun _=>cargoB (s ()) (bs ()) (l ())])
def lpMid (cs:List Col) (bs:List Box) (L:Unit->List Stowed):Lp where
 X:=Nat
 ov k := [(42,.int .i64 fun _=>(k:Int)),(11,.own 3)]
 oe k := [(2,.map true false (.arr 2 (.int .i64)) .int 244 fun _=>topsM bs ((L ()).take k)),(3,.row true .mid 169 fun _=>midsK cs bs (L ()) k)]
 I k:=k<=(L ()).length
 μ k _:=(L ()).length - k
 x0:=0
 nx:=some fun k=>k+1
def lpTop (t c:Unit->Int) (m:Unit->List Kx->Option Int) (hs:Unit->List Int):Lp where
 X:=Nat
 ov j := [(106,.int .i64 fun _=>(j:Int))]
 oe j := [(2,.map true false (.arr 2 (.int .i64)) .int 244 fun _=>bump (t ()) (c ()) (m ()) ((hs ()).take j))]
 I j:=j<=(hs ()).length
 μ j _:=(hs ()).length - j
 x0:=0
 nx:=some fun j=>j+1
theorem box_eta (b:Box):(⟨b.id,b.num,b.size,b.high,b.kilos,b.load,b.dis,b.cls,b.reefer⟩:Box)=b:=rfl
theorem bump_more {t c:Int} {m:List Kx->Option Int} {hs:List Int} {j:Nat} (h:j<hs.length):setM (bump t c m (hs.take j)) [Kx.i .i64 c,Kx.i .i64 (hs.getD j Tc.u8.dflt)] ((bump t c m (hs.take j) [Kx.i .i64 c,Kx.i .i64 (hs.getD j Tc.u8.dflt)]).getD Tc.int.dflt+t)=bump t c m (hs.take (j+1)):=by
 unfold bump;rw [take_getD (Tc.u8.dflt) h,List.foldl_append];rfl
theorem all_true {A B C D E:Prop} (hA:A) (hB:B) (hC:C) (hD:D) (hE:E):A=True/\B=True/\C=True/\D=True/\E=True:=⟨eq_true hA,eq_true hB,eq_true hC,eq_true hD,eq_true hE⟩
set_option maxRecDepth 100000 in
set_option maxHeartbeats 4000000 in
theorem conMiddles_ok:ConOk Tryz.prog conMiddles:=by
 refine fnOkK [] [(8,[1,2,3,10,11]),(22,[1,3,10,11,13,14,17,18,40,41,42]),(27,[10,11,17,42])] [(21,schList [0,1,2,3,4,5,6,7,8,9,10,11,12,13,14,15,16,17,18] .nil),(25,schList [0,1,2,4,5] (.alt (.op 3 (.alt (.op 6 (.alt (schList [7,8,9,10,11,12,13] .nil) (.op 8 (.alt (schList [7,9,10,11,12,13] .nil) (.op 9 (.alt (schList [7,10,11,12,13] .nil) (schList [11,12,7,10,13] .nil))))))) (.op 8 (.alt (.op 6 (.alt (schList [7,9,10,11,12,13] .nil) (.op 9 (.alt (schList [7,10,11,12,13] .nil) (schList [11,12,7,10,13] .nil))))) (schList [9,6] (.alt (schList [7,10,11,12,13] .nil) (schList [11,12,7,10,13] .nil))))))) (.op 8 (.alt (.op 3 (.alt (.op 6 (.alt (schList [7,9,10,11,12,13] .nil) (.op 9 (.alt (schList [7,10,11,12,13] .nil) (schList [11,12,7,10,13] .nil))))) (schList [9,6] (.alt (schList [7,10,11,12,13] .nil) (schList [11,12,7,10,13] .nil))))) (schList [9,3,6] (.alt (schList [7,10,11,12,13] .nil) (schList [11,12,7,10,13] .nil)))))))] [conBoxValid,conStowRight,conBoxFind,conBoxHeight] ⟨conBoxValid_ok,conStowRight_ok,conBoxFind_ok,conBoxHeight_ok,trivial⟩ [fonClone,fonSort] ⟨fonClone_ok,fonSort_ok,trivial⟩ Tryz.func70 (by kernel_rfl) fun avs res h hp => ?_;obtain⟨(s:Shp),(bs:List Box),(l:List Stowed),rfl,rfl⟩:=gop3 h;clear h;have hp':shipPre s/\boxesPre bs/\l.length<=40:=hp;have h1:=hp'.1;have h2:=hp'.2.1;have h3:=hp'.2.2;have hsl:(sortT l).length=l.length:=(sortT_perm l).length_eq;clear hp hp';refine⟨[(9,lpMid s.cols bs fun _=>sortT l)],?_⟩
 conv=>arg 1; cbv
 refine⟨h2,fun g1 => ?_,fun g1=>⟨⟨h1,h2.1,Nat.le_trans h3 (by decide)⟩,fun g2 => ?_,fun g2=>⟨Nat.le_trans h3 (by decide),h3,?_,fun (k:Nat) hk => ?_⟩⟩⟩
 . have g1':(!decide ((boxValid bs).2=0))=true:=g1;have hc:cargoB s bs l=false:=by
    unfold cargoB;simp only [Bool.not_eq_true'] at g1';rw [g1'];rfl
   simp (maxSteps:=4000000) only [fms];rw [hc];exact⟨rfl,rfl⟩
 . have g2':(!stowB s bs l)=true:=g2;have hc:cargoB s bs l=false:=by
    unfold cargoB;simp only [Bool.not_eq_true'] at g2';rw [g2',Bool.and_false]
   simp (maxSteps:=4000000) only [fms];rw [hc];exact⟨rfl,rfl⟩
 . simp (maxSteps:=4000000) only [fms];exact⟨Nat.zero_le _,rfl,rfl,rfl⟩
 have g1':(!decide ((boxValid bs).2=0))=false:=g1;have g2':(!stowB s bs l)=false:=g2;simp only [Bool.not_eq_false'] at g1' g2';have hc:cargoB s bs l=true:=by
  unfold cargoB;rw [g1',g2'];rfl
 have hk':k<=(sortT l).length:=hk;have hsB:shipB s=true:=by
  unfold stowB at g2';simp only [Bool.and_eq_true] at g2';exact g2'.1
 clear hk g1 g2
 conv=>arg 1; cbv
 refine⟨fun g3 => ?_,fun g3 => ?_⟩
 . have hlt:k<(sortT l).length:=by
    have g3':decide ((k:Int)<((sortT l).length:Int))=true:=g3;simp only [decide_eq_true_eq] at g3';omega
   have hcol:=stow_col g2' ((sortT_perm l).mem_iff.1 (getD_mem Tc.stowed.dflt hlt));have hcc:=ship_col hsB (k:=((sortT l).getD k Tc.stowed.dflt).col.toNat) (by omega);have htop:=tops_bound bs ((sortT l).take k);have htk:((sortT l).take k).length<=40:=by rw [List.length_take]; omega
   refine⟨⟨Int.natCast_nonneg k,of_decide_eq_true g3⟩,h2.1,hcol,fun g4 => ?_,fun g4=>⟨fun g5 => ?_,fun g5 => ?_⟩⟩
   . have gh:((sortT l).getD k Tc.stowed.dflt).half=1:=of_decide_eq_true g4;refine⟨⟨by simp only [castK,Int.toNat_natCast]; omega,by simp only [castK,Int.toNat_natCast]; omega⟩,?_⟩;have hd0:(Tc.int.dflt:Int)=0:=rfl;have h9:=htop [Kx.i .i64 ((sortT l).getD k Tc.stowed.dflt).col,Kx.i .i64 (([((sortT l).getD k Tc.stowed.dflt).half]).getD (Int.toNat 0) Tc.u8.dflt)];have ht:=tallB_bound (findV bs ((sortT l).getD k Tc.stowed.dflt).box).1;refine⟨⟨Int.le_refl 0,by simp⟩,(show inI64 (([((sortT l).getD k Tc.stowed.dflt).half]).getD (Int.toNat 0) Tc.u8.dflt) from by rw [show [((sortT l).getD k Tc.stowed.dflt).half].getD (Int.toNat 0) Tc.u8.dflt=((sortT l).getD k Tc.stowed.dflt).half from rfl,gh]; exact⟨by omega,by omega⟩),?_,?_,trivial,?_,?_⟩
     . simp only [V_one,castK,Int.toNat_natCast,List.map_cons,List.map_nil,hd0];exact⟨by omega,by omega⟩
     . simp only [V_one,castK,Int.toNat_natCast,List.map_cons,List.map_nil,hd0];exact⟨by omega,by omega⟩
     . simp only [V_one,castK,Int.toNat_natCast,List.map_cons,List.map_nil,hd0,box_eta];exact⟨by omega,by omega⟩
     refine⟨lpTop (fun _=>tallB (findV bs ((sortT l).getD k Tc.stowed.dflt).box).1) (fun _=>((sortT l).getD k Tc.stowed.dflt).col) (fun _=>topsM bs ((sortT l).take k)) (fun _ => [((sortT l).getD k Tc.stowed.dflt).half]),?_⟩
     conv=>arg 1; cbv
     refine⟨?_,fun (j:Nat) hj => ?_⟩
     . simp (maxSteps:=4000000) only [fms];exact⟨Nat.zero_le _,rfl,rfl⟩
     have hj':j<=([((sortT l).getD k Tc.stowed.dflt).half]).length:=hj
     conv=>arg 1; cbv
     simp (maxSteps:=4000000) only [fms];clear g3 g4 hj h9;have hb1:=fun key=>bump_bound (c:=((sortT l).getD k Tc.stowed.dflt).col) (tallB_bound (findV bs ((sortT l).getD k Tc.stowed.dflt).box).1) (([((sortT l).getD k Tc.stowed.dflt).half]).take j) (topsM bs ((sortT l).take k)) htop key;have hmor:=fun h=>bump_more (t:=tallB (findV bs ((sortT l).getD k Tc.stowed.dflt).box).1) (c:=((sortT l).getD k Tc.stowed.dflt).col) (m:=topsM bs ((sortT l).take k)) (hs := [((sortT l).getD k Tc.stowed.dflt).half]) (j:=j) h;have hmids:=midsK_succ s.cols bs (sortT l) k;have htops:=topsM_more (bs:=bs) hlt;unfold midOf at hmids;unfold topStep at htops;simp only [box_eta];generalize hX:(sortT l).getD k Tc.stowed.dflt=x at *
     generalize hM:topsM bs ((sortT l).take k)=M0 at *
     generalize (findV bs x.box).1=b at *
     simp only [setM_twice,setM_at,Option.getD_some];refine⟨fun g6 => ?_,fun g6 => ?_⟩
     . have hs0:∀ y ∈ [x.half],1<=y/\y<=2:=by simp [gh]
       have hs3:([x.half]).length<=2:=by simp
       generalize [x.half]=hs at *
       have h6:j<hs.length:=by omega
       have h7:=hmor h6;have hs1:=hs0 _ (getD_mem Tc.u8.dflt h6);have hs2:inI64 (hs.getD j Tc.u8.dflt):=⟨by omega,by omega⟩
       have hs4:(hs.take j).length<=2:=by rw [List.length_take]; omega
       have hb2:=hb1 [Kx.i .i64 x.col,Kx.i .i64 (hs.getD j Tc.u8.dflt)];have hb3:inI64 ((bump (tallB b) x.col M0 (hs.take j) [Kx.i .i64 x.col,Kx.i .i64 (hs.getD j Tc.u8.dflt)]).getD Tc.int.dflt+tallB b):=by
        rw [hd0];exact⟨by omega,by omega⟩
       obtain⟨e1,e2,e3,e4,e5⟩:=all_true hb3 (show inI64 ((j:Int)+1) from ⟨by omega,by omega⟩) (show j+1<=hs.length/\hs.length - (j+1)<hs.length - j from ⟨by omega,by omega⟩) (show (j:Int)+1=((j+1:Nat):Int) by omega) hs2;simp only [h7,e1,e2,e3,e4,e5,and_self,and_true,true_and];exact⟨by omega,by omega⟩
     . have hT:([x.half]).take j = [x.half]:=List.take_of_length_le (by omega);have hof:hsOf x.half = [x.half]:=by
        unfold hsOf;simp [gh]
       have hmx:midX (s.cols.getD x.col.toNat Tc.col.dflt) x.half=(s.cols.getD x.col.toNat Tc.col.dflt).x+3050:=by
        unfold midX;simp [gh]
       rw [hT,htops,hmids,hof,hmx];refine⟨by rw [midsK_len]; simp only [List.length_cons,List.length_nil]; omega,⟨by omega,by omega⟩,⟨by omega,by omega⟩,by omega,rfl,rfl⟩
   . have gh:((sortT l).getD k Tc.stowed.dflt).half=2:=of_decide_eq_true g5;refine⟨⟨by simp only [castK,Int.toNat_natCast]; omega,by simp only [castK,Int.toNat_natCast]; omega⟩,?_⟩;clear g4;have g4:=g5;clear g5;have hd0:(Tc.int.dflt:Int)=0:=rfl;have h9:=htop [Kx.i .i64 ((sortT l).getD k Tc.stowed.dflt).col,Kx.i .i64 (([((sortT l).getD k Tc.stowed.dflt).half]).getD (Int.toNat 0) Tc.u8.dflt)];have ht:=tallB_bound (findV bs ((sortT l).getD k Tc.stowed.dflt).box).1;refine⟨⟨Int.le_refl 0,by simp⟩,(show inI64 (([((sortT l).getD k Tc.stowed.dflt).half]).getD (Int.toNat 0) Tc.u8.dflt) from by rw [show [((sortT l).getD k Tc.stowed.dflt).half].getD (Int.toNat 0) Tc.u8.dflt=((sortT l).getD k Tc.stowed.dflt).half from rfl,gh]; exact⟨by omega,by omega⟩),?_,?_,trivial,?_,?_⟩
     . simp only [V_one,castK,Int.toNat_natCast,List.map_cons,List.map_nil,hd0];exact⟨by omega,by omega⟩
     . simp only [V_one,castK,Int.toNat_natCast,List.map_cons,List.map_nil,hd0];exact⟨by omega,by omega⟩
     . simp only [V_one,castK,Int.toNat_natCast,List.map_cons,List.map_nil,hd0,box_eta];exact⟨by omega,by omega⟩
     refine⟨lpTop (fun _=>tallB (findV bs ((sortT l).getD k Tc.stowed.dflt).box).1) (fun _=>((sortT l).getD k Tc.stowed.dflt).col) (fun _=>topsM bs ((sortT l).take k)) (fun _ => [((sortT l).getD k Tc.stowed.dflt).half]),?_⟩
     conv=>arg 1; cbv
     refine⟨?_,fun (j:Nat) hj => ?_⟩
     . simp (maxSteps:=4000000) only [fms];exact⟨Nat.zero_le _,rfl,rfl⟩
     have hj':j<=([((sortT l).getD k Tc.stowed.dflt).half]).length:=hj
     conv=>arg 1; cbv
     simp (maxSteps:=4000000) only [fms];clear g3 g4 hj h9;have hb1:=fun key=>bump_bound (c:=((sortT l).getD k Tc.stowed.dflt).col) (tallB_bound (findV bs ((sortT l).getD k Tc.stowed.dflt).box).1) (([((sortT l).getD k Tc.stowed.dflt).half]).take j) (topsM bs ((sortT l).take k)) htop key;have hmor:=fun h=>bump_more (t:=tallB (findV bs ((sortT l).getD k Tc.stowed.dflt).box).1) (c:=((sortT l).getD k Tc.stowed.dflt).col) (m:=topsM bs ((sortT l).take k)) (hs := [((sortT l).getD k Tc.stowed.dflt).half]) (j:=j) h;have hmids:=midsK_succ s.cols bs (sortT l) k;have htops:=topsM_more (bs:=bs) hlt;unfold midOf at hmids;unfold topStep at htops;simp only [box_eta];generalize hX:(sortT l).getD k Tc.stowed.dflt=x at *
     generalize hM:topsM bs ((sortT l).take k)=M0 at *
     generalize (findV bs x.box).1=b at *
     simp only [setM_twice,setM_at,Option.getD_some];refine⟨fun g6 => ?_,fun g6 => ?_⟩
     . have hs0:∀ y ∈ [x.half],1<=y/\y<=2:=by simp [gh]
       have hs3:([x.half]).length<=2:=by simp
       generalize [x.half]=hs at *
       have h6:j<hs.length:=by omega
       have h7:=hmor h6;have hs1:=hs0 _ (getD_mem Tc.u8.dflt h6);have hs2:inI64 (hs.getD j Tc.u8.dflt):=⟨by omega,by omega⟩
       have hs4:(hs.take j).length<=2:=by rw [List.length_take]; omega
       have hb2:=hb1 [Kx.i .i64 x.col,Kx.i .i64 (hs.getD j Tc.u8.dflt)];have hb3:inI64 ((bump (tallB b) x.col M0 (hs.take j) [Kx.i .i64 x.col,Kx.i .i64 (hs.getD j Tc.u8.dflt)]).getD Tc.int.dflt+tallB b):=by
        rw [hd0];exact⟨by omega,by omega⟩
       obtain⟨e1,e2,e3,e4,e5⟩:=all_true hb3 (show inI64 ((j:Int)+1) from ⟨by omega,by omega⟩) (show j+1<=hs.length/\hs.length - (j+1)<hs.length - j from ⟨by omega,by omega⟩) (show (j:Int)+1=((j+1:Nat):Int) by omega) hs2;simp only [h7,e1,e2,e3,e4,e5,and_self,and_true,true_and];exact⟨by omega,by omega⟩
     . have hT:([x.half]).take j = [x.half]:=List.take_of_length_le (by omega);have hof:hsOf x.half = [x.half]:=by
        unfold hsOf;simp [gh]
       have hmx:midX (s.cols.getD x.col.toNat Tc.col.dflt) x.half=(s.cols.getD x.col.toNat Tc.col.dflt).x - 3050:=by
        unfold midX;simp [gh]
       rw [hT,htops,hmids,hof,hmx];refine⟨by rw [midsK_len]; simp only [List.length_cons,List.length_nil]; omega,⟨by omega,by omega⟩,⟨by omega,by omega⟩,by omega,rfl,rfl⟩
   . have gh:¬ ((sortT l).getD k Tc.stowed.dflt).half=1/\¬ ((sortT l).getD k Tc.stowed.dflt).half=2:=⟨of_decide_eq_false g4,of_decide_eq_false g5⟩
     clear g4;have g4:=g5;clear g5;have hd0:(Tc.int.dflt:Int)=0:=rfl;have h9:=htop [Kx.i .i64 ((sortT l).getD k Tc.stowed.dflt).col,Kx.i .i64 (([(1:Int),2]).getD (Int.toNat 0) Tc.u8.dflt)];have ht:=tallB_bound (findV bs ((sortT l).getD k Tc.stowed.dflt).box).1;refine⟨⟨Int.le_refl 0,by simp⟩,(show inI64 (([(1:Int),2]).getD (Int.toNat 0) Tc.u8.dflt) from ⟨by decide,by decide⟩),?_,?_,trivial,?_,?_⟩
     . simp only [V_one,castK,Int.toNat_natCast,List.map_cons,List.map_nil,hd0];exact⟨by omega,by omega⟩
     . simp only [V_one,castK,Int.toNat_natCast,List.map_cons,List.map_nil,hd0];exact⟨by omega,by omega⟩
     . simp only [V_one,castK,Int.toNat_natCast,List.map_cons,List.map_nil,hd0,box_eta];exact⟨by omega,by omega⟩
     refine⟨lpTop (fun _=>tallB (findV bs ((sortT l).getD k Tc.stowed.dflt).box).1) (fun _=>((sortT l).getD k Tc.stowed.dflt).col) (fun _=>topsM bs ((sortT l).take k)) (fun _ => [(1:Int),2]),?_⟩
     conv=>arg 1; cbv
     refine⟨?_,fun (j:Nat) hj => ?_⟩
     . simp (maxSteps:=4000000) only [fms];exact⟨Nat.zero_le _,rfl,rfl⟩
     have hj':j<=([(1:Int),2]).length:=hj
     conv=>arg 1; cbv
     simp (maxSteps:=4000000) only [fms];clear g3 g4 hj h9;have hb1:=fun key=>bump_bound (c:=((sortT l).getD k Tc.stowed.dflt).col) (tallB_bound (findV bs ((sortT l).getD k Tc.stowed.dflt).box).1) (([(1:Int),2]).take j) (topsM bs ((sortT l).take k)) htop key;have hmor:=fun h=>bump_more (t:=tallB (findV bs ((sortT l).getD k Tc.stowed.dflt).box).1) (c:=((sortT l).getD k Tc.stowed.dflt).col) (m:=topsM bs ((sortT l).take k)) (hs := [(1:Int),2]) (j:=j) h;have hmids:=midsK_succ s.cols bs (sortT l) k;have htops:=topsM_more (bs:=bs) hlt;unfold midOf at hmids;unfold topStep at htops;simp only [box_eta];generalize hX:(sortT l).getD k Tc.stowed.dflt=x at *
     generalize hM:topsM bs ((sortT l).take k)=M0 at *
     generalize (findV bs x.box).1=b at *
     simp only [setM_twice,setM_at,Option.getD_some];refine⟨fun g6 => ?_,fun g6 => ?_⟩
     . have hs0:∀ y ∈ [(1:Int),2],1<=y/\y<=2:=by simp [gh]
       have hs3:([(1:Int),2]).length<=2:=by simp
       generalize [(1:Int),2]=hs at *
       have h6:j<hs.length:=by omega
       have h7:=hmor h6;have hs1:=hs0 _ (getD_mem Tc.u8.dflt h6);have hs2:inI64 (hs.getD j Tc.u8.dflt):=⟨by omega,by omega⟩
       have hs4:(hs.take j).length<=2:=by rw [List.length_take]; omega
       have hb2:=hb1 [Kx.i .i64 x.col,Kx.i .i64 (hs.getD j Tc.u8.dflt)];have hb3:inI64 ((bump (tallB b) x.col M0 (hs.take j) [Kx.i .i64 x.col,Kx.i .i64 (hs.getD j Tc.u8.dflt)]).getD Tc.int.dflt+tallB b):=by
        rw [hd0];exact⟨by omega,by omega⟩
       obtain⟨e1,e2,e3,e4,e5⟩:=all_true hb3 (show inI64 ((j:Int)+1) from ⟨by omega,by omega⟩) (show j+1<=hs.length/\hs.length - (j+1)<hs.length - j from ⟨by omega,by omega⟩) (show (j:Int)+1=((j+1:Nat):Int) by omega) hs2;simp only [h7,e1,e2,e3,e4,e5,and_self,and_true,true_and];exact⟨by omega,by omega⟩
     . have hT:([(1:Int),2]).take j = [(1:Int),2]:=List.take_of_length_le (by omega);have hof:hsOf x.half = [(1:Int),2]:=by
        unfold hsOf;simp [gh]
       have hmx:midX (s.cols.getD x.col.toNat Tc.col.dflt) x.half=(s.cols.getD x.col.toNat Tc.col.dflt).x:=by
        unfold midX;simp [gh]
       rw [hT,htops,hmids,hof,hmx];refine⟨by rw [midsK_len]; simp only [List.length_cons,List.length_nil]; omega,⟨by omega,by omega⟩,⟨by omega,by omega⟩,by omega,rfl,rfl⟩
 . have hge:(sortT l).length<=k:=by
    have g3':decide ((k:Int)<((sortT l).length:Int))=false:=g3;simp only [decide_eq_false_iff_not] at g3';omega
   have hkk:k=(sortT l).length:=by omega
   simp (maxSteps:=4000000) only [fms];rw [hc,hkk];exact⟨rfl,rfl⟩
end Go.Proofs.YthfpdbjemfhieaaGreat
