/-
  The library's stable sort, at Stowed by tiers: at most 40 of them.
-/
import Derived.Test.YtffeegebohigdaaGreatMs21
import Derived.Laws.Cover3
set_option linter.unusedVariables false
set_option linter.unusedSimpArgs false
set_option maxRecDepth 100000
set_option maxHeartbeats 4000000
namespace Go.Proofs.YtffeegebohigdaaGreat
open Go.RowKit
def Q6 (l:List Q0):List Q0:=Q46 Vc Tc.stowed.dflt 0 l.length l
def Qe2:Fon:=⟨203,[.ownr .stowed,.int .i64,.fn []],1,fun avs es=>match avs,es with
 | [.own 0,.int .i64 n,.fn f []],[(0,.row false .stowed T l)]=>if f=136 then some ⟨fun _=>n ()=((l ()).length:Int)/\(l ()).length<=40,.tup [],[(0,.row false .stowed T fun _=>Q6 (l ()))]⟩ else none
 | _,_=>none,true⟩
theorem Qcj (l:List Q0):Q6 l=Zb Q0.tier 0 l.length l:=Q94 Q8l (Nat.zero_le _) (Nat.le_refl _)
def Gl (l:List Q0):Nat->List Q0
 | 0=>l
 | q+1=>Zb Q0.tier (20*q) (20*q+20) (Gl l q)
theorem Qen (l:List Q0):∀ q,20*q<=l.length->(Gl l q).length=l.length
 | 0,_=>rfl
 | q+1,h=>by
  have:=Qen l q (by omega);show (Zb Q0.tier (20*q) (20*q+20) (Gl l q)).length=_
  rw [(V5 (by omega) (by omega)).len,this]
theorem Z0p {l:List Q0} {q:Nat} (hq:20*q<=l.length/\l.length<20*q+20) (hl:l.length<=40) :
 (Zb Q0.tier (20*q) l.length (Gl l q)).length=l.length/\(l.length<=20->Zb Q0.tier (20*q) l.length (Gl l q)=Q6 l)/\(20<l.length->(Srt Q0.tier Tc.stowed.dflt 0 20 (Zb Q0.tier (20*q) l.length (Gl l q))/\Srt Q0.tier Tc.stowed.dflt 20 l.length (Zb Q0.tier (20*q) l.length (Gl l q)))/\Zb Q0.tier 0 l.length (Zb Q0.tier (20*q) l.length (Gl l q))=Q6 l):=by
 have hn:=Qen l q hq.1;have r:=V5 (key:=Q0.tier) (l:=Gl l q) (a:=20*q) (b:=l.length) hq.1 (by omega);have st:=Q06 (key:=Q0.tier) (d:=Tc.stowed.dflt) (l:=Gl l q) (a:=20*q) (b:=l.length) hq.1 (by omega);refine⟨by rw [r.len,hn],fun h => ?_,fun h => ?_⟩
 . rw [Qcj];have:q=0\/(q=1/\l.length=20):=by omega
   rcases this with h0|⟨h0,h1⟩
   . subst h0; rfl
   . subst h0;rw [h1];show Zb Q0.tier 20 20 (Zb Q0.tier 0 20 l)=_
     refine Q9h (d:=Tc.stowed.dflt) (Nat.le_refl _) (by rw [(V5 (by omega) (by omega)).len]; omega) fun i k h1 h2 h3=>by omega
 . have r1:Ren Q0.tier 0 20 l (Zb Q0.tier 0 20 l):=V5 (by omega) (by omega);have s1:Srt Q0.tier Tc.stowed.dflt 0 20 (Zb Q0.tier 0 20 l):=Q06 (by omega) (by omega);have:q=1\/(q=2/\l.length=40):=by omega
   have hB:Ren Q0.tier 0 l.length l (Zb Q0.tier (20*q) l.length (Gl l q))/\Srt Q0.tier Tc.stowed.dflt 0 20 (Zb Q0.tier (20*q) l.length (Gl l q))/\Srt Q0.tier Tc.stowed.dflt 20 l.length (Zb Q0.tier (20*q) l.length (Gl l q)):=by
    rcases this with h0|⟨h0,h1⟩
    . subst h0;exact⟨(r1.wide (Nat.le_refl _) (by omega)).trans (r.wide (by omega) (Nat.le_refl _)),s1.out r (.inl (by omega)),st⟩
    . subst h0;have r2:Ren Q0.tier 20 40 (Zb Q0.tier 0 20 l) (Gl l 2):=V5 (by omega) (by show _<=(Zb Q0.tier 0 20 l).length; rw [r1.len]; omega);have s2:Srt Q0.tier Tc.stowed.dflt 20 40 (Gl l 2):=Q06 (by omega) (by show _<=(Zb Q0.tier 0 20 l).length; rw [r1.len]; omega);refine⟨((r1.wide (Nat.le_refl _) (by omega)).trans (r2.wide (by omega) (by omega))).trans (r.wide (by omega) (Nat.le_refl _)),(s1.out r2 (.inl (Nat.le_refl _))).out r (.inl (by omega)),?_⟩;rw [h1] at r ⊢;exact s2.out r (.inl (Nat.le_refl _))
   refine⟨hB.2,?_⟩;rw [Qcj];exact Q6z (d:=Tc.stowed.dflt) (Nat.zero_le _) (Nat.le_refl _) (hB.1.trans (V5 (Nat.zero_le _) (by rw [hB.1.len]; exact Nat.le_refl _))) (Q06 (Nat.zero_le _) (by rw [hB.1.len]; exact Nat.le_refl _))
def Z8w (T:Nat) (l:List Q0):Lp where
 X:=Nat
 ov q := [(7,.int .i64 fun _=>((20*q:Nat):Int)),(8,.int .i64 fun _=>((20*q+20:Nat):Int)),(0,.own 0)]
 oe q := [(0,.row false .stowed T fun _=>Gl l q)]
 I q:=20*q<=l.length
 μ q _:=l.length - 20*q
 x0:=0
 nx:=some fun q=>q+1
def Z6z (T:Nat) (B S:List Q0):Lp where
 X:=Nat
 ov t := [(6,.int .i64 fun _=>((20*(t+1):Nat):Int)),(0,.own 0)]
 oe t := [(0,.row false .stowed T fun _=>cond (decide (t=0)) B S)]
 I t:=t=0\/(t=1/\20<B.length)
 μ t _:=1 - t
 x0:=0
 nx:=none
def Z87 (T:Nat) (B S:List Q0):Lp where
 X:=Nat
 ov u := [(7,.int .i64 fun _=>((40*u:Nat):Int)),(8,.int .i64 fun _=>((40*u+40:Nat):Int)),(0,.own 0)]
 oe u := [(0,.row false .stowed T fun _=>cond (decide (u=0)) B S)]
 I u:=u=0\/(u=1/\B.length=40)
 μ u _:=1 - u
 x0:=0
 nx:=none
theorem Qqh:Vx Tryz.prog Qe2:=by
 refine Qq5 { kp := [(0,[0,1,2]),(1,[0,1,2,6]),(2,[0,1,2,6,7,8]),(3,[0,1,2,6,7,8]),(4,[0,1,2,6,8]),(5,[0,1,2,6,7,8]),(6,[0,1,2,6,7]),(7,[0,1,2,6]),(8,[0,1,2,6]),(9,[0,1,2,6,7,8]),(10,[0,1,2,6,7,8]),(11,[0,1,2,6,8]),(12,[0,1,2,6,7,8]),(13,[0,1,2,6,7]),(14,[0,1,2,6,7,9]),(15,[0,1,2,6,7,9]),(16,[0,1,2,6])] } [] trivial [Qsn,Qd0 40] ⟨Qzl,Qok 40,trivial⟩ Tryz.func203 (by kernel_rfl) fun avs es res h hp => ?_;simp only [Qe2] at h;split at h
 case h_2=>cases h
 split at h
 case isFalse=>cases h
 rename_i n f T l hf;subst hf;cases h;obtain⟨l,rfl⟩:=eta (α:=List Q0) l;obtain⟨n,rfl⟩:=eta (α:=Int) n;have hZh1:n=(l.length:Int)/\l.length<=40:=hp;have h1:=hZh1.1;have h2:=hZh1.2;subst h1;refine⟨[(2,Z8w T l)],?_⟩
 conv=>arg 1; cbv
 refine⟨?_,fun (q:Nat) hq => ?_⟩
 . simp (maxSteps:=4000000) only [fms];exact⟨Nat.zero_le _,rfl,rfl,rfl⟩
 have hq':20*q<=l.length:=hq;clear hq
 conv=>arg 1; cbv
 simp (maxSteps:=4000000) only [fms];have hlb:=Qen l q hq';refine⟨fun g => ?_,fun g => ?_⟩
 . exact⟨⟨by omega,by omega,by omega,by omega⟩,by simp only [Q1]; omega,⟨by omega,by omega⟩,by omega,by omega,Q94 Q8l (by omega) (by omega)⟩
 obtain⟨hB0,hB1,hB2⟩:=Z0p (l:=l) (q:=q) ⟨hq',by omega⟩ h2;have hins:Q46 Vc Tc.stowed.dflt (20*q) l.length (Gl l q)=Zb Q0.tier (20*q) l.length (Gl l q):=Q94 Q8l hq' (by omega);simp only [hins];generalize Zb Q0.tier (20*q) l.length (Gl l q)=B at *
 refine Qc (Q6 l) fun S hS => ?_;rw [hS] at hB1 hB2;have hSl:S.length=l.length:=by rw [<- hS,Qcj]; exact (V5 (Nat.zero_le _) (Nat.le_refl _)).len
 refine⟨⟨by omega,by omega,by omega,by omega⟩,Z6z T B S,?_⟩
 conv=>arg 1; cbv
 refine⟨?_,fun (t:Nat) ht => ?_⟩
 . simp (maxSteps:=4000000) only [fms];simp
 have ht':t=0\/(t=1/\20<B.length):=ht;clear ht
 conv=>arg 1; cbv
 simp (maxSteps:=4000000) only [fms];refine⟨fun g1 => ?_,fun g1 => ?_⟩
 . have ht0:t=0:=by omega
   subst ht0;have hl20:20<l.length:=by omega
   obtain⟨⟨hs1,hs2⟩,hs3⟩:=hB2 hl20;refine⟨by simp only [Q1]; omega,Z87 T B S,?_⟩
   conv=>arg 1; cbv
   refine⟨?_,fun (u:Nat) hu => ?_⟩
   . simp (maxSteps:=4000000) only [fms];simp
   have hu':u=0\/(u=1/\B.length=40):=hu;clear hu;rcases hu' with hu|⟨hu,hu1⟩
   . subst hu
     conv=>arg 1; cbv
     simp (maxSteps:=4000000) only [fms];have e20:(((40*0:Nat):Int)+((20*(0+1):Nat):Int)).toNat=20:=rfl;rw [e20];refine⟨fun g2=>⟨by simp only [Q1]; omega,⟨⟨by omega,by omega,by omega⟩,⟨by show _<=(B.length:Int); omega,by omega⟩,by show B.length<=_; omega,hs1,?_⟩,by simp only [Q1]; omega,by simp only [Q1]; omega,⟨1,⟨⟨.inr ⟨rfl,by omega⟩,by omega⟩,?_⟩⟩⟩,fun g2=>⟨by simp only [Q1]; omega,fun g3=>⟨⟨⟨by omega,by omega,by omega⟩,⟨by show _<=(B.length:Int); omega,by omega⟩,by show B.length<=_; omega,hs1,?_⟩,by simp only [Q1]; omega,⟨1,⟨⟨.inr ⟨rfl,by omega⟩,by omega⟩,?_⟩⟩⟩,fun g3=>by omega⟩⟩
     . rw [show l.length=40 by omega] at hs2;exact hs2
     . conv=>arg 1; cbv
       simp (maxSteps:=4000000) only [fms];have h40:l.length=40:=by omega
       rw [h40] at hs3;exact⟨trivial,by omega,hs3⟩
     . exact hs2
     . conv=>arg 1; cbv
       simp (maxSteps:=4000000) only [fms];exact⟨by omega,hs3⟩
   . subst hu
     conv=>arg 1; cbv
     simp (maxSteps:=4000000) only [fms];refine⟨fun g2=>by omega,fun g2=>⟨by simp only [Q1]; omega,fun g3=>by omega,fun g3=>⟨by simp only [Q1]; omega,⟨1,⟨⟨.inr ⟨rfl,by omega⟩,by omega⟩,?_⟩⟩⟩⟩⟩
     conv=>arg 1; cbv
     simp (maxSteps:=4000000) only [fms];exact⟨by omega,trivial⟩
 . rw [hS];rcases ht' with h0|⟨h0,h3⟩
   . rw [h0];exact hB1 (by omega)
   . rw [h0];rfl
def Qm9:Fon:=⟨135,[.ownr .stowed,.fn []],1,fun avs es=>match avs,es with
 | [.own 0,.fn f []],[(0,.row false .stowed T l)]=>if f=136 then some ⟨fun _=>(l ()).length<=40,.tup [],[(0,.row false .stowed T fun _=>Q6 (l ()))]⟩ else none
 | _,_=>none,true⟩
theorem Qxz:Vx Tryz.prog Qm9:=by
 refine Qez [] trivial [Qe2] ⟨Qqh,trivial⟩ Tryz.func135 (by kernel_rfl) fun avs es res h hp => ?_;simp only [Qm9] at h;split at h
 case h_2=>cases h
 split at h
 case isFalse=>cases h
 rename_i f T l hf;subst hf;cases h;obtain⟨l,rfl⟩:=eta (α:=List Q0) l;have hp':l.length<=40:=hp;refine⟨[],?_⟩
 conv=>arg 1; cbv
 simp (maxSteps:=4000000) only [fms];exact⟨⟨trivial,hp'⟩,trivial⟩
/- sorting changes the order only -/
theorem Que {α:Type} (d : α) (l:List α) (j:Nat) (h:j+1<l.length):(V2 d l j).Perm l:=by
 unfold V2;have e1:l.getD j d=l[j]:=by rw [List.getD_eq_getElem?_getD,List.getElem?_eq_getElem (by omega),Option.getD_some]
 have e2:l.getD (j+1) d=l[j+1]:=by rw [List.getD_eq_getElem?_getD,List.getElem?_eq_getElem h,Option.getD_some]
 rw [e1,e2];have:l=l.take j++l[j]::l[j+1]::l.drop (j+2):=by
  rw [List.getElem_cons_drop,List.getElem_cons_drop,List.take_append_drop]
 have h3:(l.set (j+1) l[j]).set j l[j+1]=l.take j++l[j+1]::l[j]::l.drop (j+2):=by
  apply List.ext_getElem?;intro i;rw [List.getElem?_set,List.getElem?_set,List.getElem?_append];simp only [List.length_set,List.length_take];grind
 rw [h3]
 conv=>rhs; rw [this]
 exact List.Perm.append_left _ (List.Perm.swap _ _ _)
theorem Qd1 {α:Type} (lt : α -> α->Bool) (d : α) (a:Nat):∀ (j:Nat) (l:List α),j<l.length->(Ys lt d a j l).Perm l
 | 0,l,_=>List.Perm.refl _
 | j+1,l,h=>by
  unfold Ys
  cases decide (a<j+1)&&lt (l.getD (j+1) d) (l.getD j d) with
  | true =>
   rw [cond_true];exact (Qd1 lt d a j _ (by rw [Ja]; omega)).trans (Que d l j h)
  | false=>exact List.Perm.refl _
theorem Qds {α:Type} (lt : α -> α->Bool) (d : α) (a:Nat) (l:List α):∀ n,a+1+n<=l.length\/n=0->(Vh lt d a l n).Perm l
 | 0,_=>List.Perm.refl _
 | n+1,h=>by
  unfold Vh;exact (Qd1 lt d a _ _ (by rw [Q5f]; omega)).trans (Qds lt d a l n (by omega))
theorem Vv (l:List Q0):(Q6 l).Perm l:=Qds _ _ _ _ _ (by omega)
def Q2n (h:Int):List Int:=cond (decide (h=1)) [1] (cond (decide (h=2)) [2] [1,2])
def Yl (c h:Int):List Kx := [.i .i64 c,.i .i64 h]
def Q2o (t c:Int) (m:List Kx->Option Int) (hs:List Int):List Kx->Option Int:=hs.foldl (fun m h=>Yy m (Yl c h) ((m (Yl c h)).getD 0+t)) m
def J5 (bs:List Box) (m:List Kx->Option Int) (x:Q0):List Kx->Option Int:=Q2o (Z9 (Qa bs x.box).1) x.col m (Q2n x.half)
def K3 (bs:List Box) (l:List Q0):List Kx->Option Int:=l.foldl (J5 bs) fun _=>none
def Q0b (c:Col) (h:Int):Int:=cond (decide (h=1)) (c.x+3050) (cond (decide (h=2)) (c.x - 3050) c.x)
def Q1h (cs:List Col) (bs:List Box) (m:List Kx->Option Int) (x:Q0):Mid :=
 ⟨(Qa bs x.box).1,Q0b (cs.getD x.col.toNat Tc.col.dflt) x.half,(cs.getD x.col.toNat Tc.col.dflt).y,2*((cs.getD x.col.toNat Tc.col.dflt).z+(m (Yl x.col ((Q2n x.half).headD 0))).getD 0)+Z9 (Qa bs x.box).1⟩
def Q6c (cs:List Col) (bs:List Box) (l:List Q0) (k:Nat):List Mid:=(List.range k).map fun j=>Q1h cs bs (K3 bs (l.take j)) (l.getD j Tc.stowed.dflt)
def K9 (cs:List Col) (bs:List Box) (l:List Q0):List Mid:=Q6c cs bs l l.length
theorem Qb7 (cs:List Col) (bs:List Box) (l:List Q0) (k:Nat):Q6c cs bs l (k+1)=Q6c cs bs l k ++ [Q1h cs bs (K3 bs (l.take k)) (l.getD k Tc.stowed.dflt)]:=by
 unfold Q6c;rw [List.range_succ,List.map_append];rfl
theorem Q0t (cs:List Col) (bs:List Box) (l:List Q0) (k:Nat):(Q6c cs bs l k).length=k:=by unfold Q6c; simp
theorem Qb3 {bs:List Box} {l:List Q0} {k:Nat} (h:k<l.length):K3 bs (l.take (k+1))=J5 bs (K3 bs (l.take k)) (l.getD k Tc.stowed.dflt):=by
 unfold K3;rw [Gp Tc.stowed.dflt h,List.foldl_append];rfl
theorem Q3o {t c B:Int} (ht:0<=t/\t<=2896):∀ (hs:List Int) (m:List Kx->Option Int),(∀ k,0<=(m k).getD 0/\(m k).getD 0<=B)->∀ k,0<=((Q2o t c m hs) k).getD 0/\((Q2o t c m hs) k).getD 0<=B+2896*(hs.length:Int)
 | [],m,h,k=>by have:=h k; simpa [Q2o] using this
 | x::hs,m,h,k=>by
  have h2:∀ k,0<=((Yy m (Yl c x) ((m (Yl c x)).getD 0+t)) k).getD 0/\((Yy m (Yl c x) ((m (Yl c x)).getD 0+t)) k).getD 0<=B+2896:=fun k=>by
   have h3:=h k;have h4:=h (Yl c x);unfold Yy;split
   . simp only [Option.getD_some]; omega
   . omega
  have h5:=Q3o (c:=c) (B:=B+2896) ht hs _ h2 k;have e:Q2o t c m (x::hs)=Q2o t c (Yy m (Yl c x) ((m (Yl c x)).getD 0+t)) hs:=rfl;rw [e];simp only [List.length_cons];omega
theorem Z3s (h:Int):(Q2n h).length<=2/\1<=(Q2n h).length:=by
 unfold Q2n;cases decide (h=1)<;>cases decide (h=2)<;>simp
theorem Qwj (bs:List Box) (l:List Q0) (k:List Kx):0<=(K3 bs l k).getD 0/\(K3 bs l k).getD 0<=5792*(l.length:Int):=by
 have:∀ (l:List Q0) (m:List Kx->Option Int) (B:Int),(∀ k,0<=(m k).getD 0/\(m k).getD 0<=B)->∀ k,0<=(l.foldl (J5 bs) m k).getD 0/\(l.foldl (J5 bs) m k).getD 0<=B+5792*(l.length:Int):=by
  intro l
  induction l with
  | nil=>intro m B h k; simpa using h k
  | cons x l ih =>
   intro m B h k;have h1:=Q3o (c:=x.col) (Yf (Qa bs x.box).1) (Q2n x.half) m h;have h2:=Z3s x.half;have h3:=ih (J5 bs m x) (B+5792) (fun k=>by
    have:=h1 k;unfold J5
    omega) k
   simp only [List.foldl_cons,List.length_cons];omega
 have:=this l (fun _=>none) 0 (fun k=>by simp) k;unfold K3;omega
theorem Z2m {s:Shp} {bs:List Box} {l:List Q0} {x:Q0} (h:Zj s bs l=true) (hx:x∈l):0<=x.col/\x.col<(s.cols.length:Int):=by
 obtain⟨k,hk,rfl⟩:=List.getElem_of_mem hx;unfold Zj at h;simp only [Bool.and_eq_true,decide_eq_true_eq] at h;have h1:=h.2.1 k hk;unfold Vd K6 at h1;have e:l.getD k Tc.stowed.dflt=l[k]:=by rw [List.getD_eq_getElem?_getD,List.getElem?_eq_getElem hk,Option.getD_some]
 rw [e] at h1;simp only [Bool.and_eq_true,decide_eq_true_eq] at h1;exact⟨h1.2.1.1.1,h1.2.1.1.2.1⟩
theorem Z3y {s:Shp} (h:Yg s=true) {k:Nat} (hk:k<s.cols.length):(-500000<=(s.cols.getD k Tc.col.dflt).x/\(s.cols.getD k Tc.col.dflt).x<=500000)/\(-500000<=(s.cols.getD k Tc.col.dflt).y/\(s.cols.getD k Tc.col.dflt).y<=500000)/\(-500000<=(s.cols.getD k Tc.col.dflt).z/\(s.cols.getD k Tc.col.dflt).z<=500000):=by
 unfold Yg at h;simp only [Bool.and_eq_true] at h;have h6:=List.all_eq_true.1 h.2.1 _ (Z7 Tc.col.dflt hk);generalize s.cols.getD k Tc.col.dflt=c at *
 unfold Vm at h6;simp only [Bool.and_eq_true] at h6;have hx:=List.all_eq_true.1 h6.2 ⟨c.x,-500000,500000⟩ (by simp [V4]);have hy:=List.all_eq_true.1 h6.2 ⟨c.y,-500000,500000⟩ (by simp [V4]);have hz:=List.all_eq_true.1 h6.2 ⟨c.z,-500000,500000⟩ (by simp [V4]);unfold Q0a at hx hy hz;simp only [Bool.and_eq_true,decide_eq_true_eq] at hx hy hz;exact⟨hx,hy,hz⟩
def Y4 (s:Shp) (bs:List Box) (l:List Q0):Bool:=decide ((Y5 bs).2=0)&&Zj s bs l
def Jm (bs:List Box):Prop:=bs.length<=1000000000000/\∀ b∈bs,b.num.size<=140737488351232
def Qb0:Con:=Q2r 69 Va Yw Gk (fun s bs l=>Vg (s ())/\Jm (bs ())/\(l ()).length<=40) (fun s bs l => .tup [.sl true .mid fun _=>cond (Y4 (s ()) (bs ()) (l ())) (K9 (s ()).cols (bs ()) (Q6 (l ()))) [],.bool fun _=>Y4 (s ()) (bs ()) (l ())])
def Z98 (cs:List Col) (bs:List Box) (L:Unit->List Q0):Lp where
 X:=Nat
 ov k := [(42,.int .i64 fun _=>(k:Int)),(11,.own 3)]
 oe k := [(2,.map true false (.arr 2 (.int .i64)) .int 244 fun _=>K3 bs ((L ()).take k)),(3,.row true .mid 169 fun _=>Q6c cs bs (L ()) k)]
 I k:=k<=(L ()).length
 μ k _:=(L ()).length - k
 x0:=0
 nx:=some fun k=>k+1
def Qws (t c:Unit->Int) (m:Unit->List Kx->Option Int) (hs:Unit->List Int):Lp where
 X:=Nat
 ov j := [(106,.int .i64 fun _=>(j:Int))]
 oe j := [(2,.map true false (.arr 2 (.int .i64)) .int 244 fun _=>Q2o (t ()) (c ()) (m ()) ((hs ()).take j))]
 I j:=j<=(hs ()).length
 μ j _:=(hs ()).length - j
 x0:=0
 nx:=some fun j=>j+1
theorem Q4d (b:Box):(⟨b.id,b.num,b.size,b.high,b.kilos,b.load,b.dis,b.cls,b.reefer⟩:Box)=b:=rfl
theorem Qch {t c:Int} {m:List Kx->Option Int} {hs:List Int} {j:Nat} (h:j<hs.length):Yy (Q2o t c m (hs.take j)) [Kx.i .i64 c,Kx.i .i64 (hs.getD j Tc.u8.dflt)] ((Q2o t c m (hs.take j) [Kx.i .i64 c,Kx.i .i64 (hs.getD j Tc.u8.dflt)]).getD Tc.int.dflt+t)=Q2o t c m (hs.take (j+1)):=by
 unfold Q2o;rw [Gp (Tc.u8.dflt) h,List.foldl_append];rfl
theorem Qgz {A B C D E:Prop} (hA:A) (hB:B) (hC:C) (hD:D) (hE:E):A=True/\B=True/\C=True/\D=True/\E=True:=⟨eq_true hA,eq_true hB,eq_true hC,eq_true hD,eq_true hE⟩
theorem Qc0:Q7 Tryz.prog Qb0:=by
 refine Z8t [] [(8,[1,2,3,10,11]),(22,[1,3,10,11,13,14,17,18,40,41,42]),(27,[10,11,17,42])] [(21,Qi [0,1,2,3,4,5,6,7,8,9,10,11,12,13,14,15,16,17,18] .nil),(25,Qi [0,1,2,4,5] (.alt (.op 3 (.alt (.op 6 (.alt (Qi [7,8,9,10,11,12,13] .nil) (.op 8 (.alt (Qi [7,9,10,11,12,13] .nil) (.op 9 (.alt (Qi [7,10,11,12,13] .nil) (Qi [11,12,7,10,13] .nil))))))) (.op 8 (.alt (.op 6 (.alt (Qi [7,9,10,11,12,13] .nil) (.op 9 (.alt (Qi [7,10,11,12,13] .nil) (Qi [11,12,7,10,13] .nil))))) (Qi [9,6] (.alt (Qi [7,10,11,12,13] .nil) (Qi [11,12,7,10,13] .nil))))))) (.op 8 (.alt (.op 3 (.alt (.op 6 (.alt (Qi [7,9,10,11,12,13] .nil) (.op 9 (.alt (Qi [7,10,11,12,13] .nil) (Qi [11,12,7,10,13] .nil))))) (Qi [9,6] (.alt (Qi [7,10,11,12,13] .nil) (Qi [11,12,7,10,13] .nil))))) (Qi [9,3,6] (.alt (Qi [7,10,11,12,13] .nil) (Qi [11,12,7,10,13] .nil)))))))] [Qfw,Qcu,Qk5,Qcn] ⟨Qlv,Ql0,Qp6,Qjx,trivial⟩ [Qh9,Qm9] ⟨Qu0,Qxz,trivial⟩ Tryz.func69 (by kernel_rfl) fun avs res h hp => ?_;obtain⟨(s:Shp),(bs:List Box),(l:List Q0),rfl,rfl⟩:=Q47 h;clear h;have hp':Vg s/\Jm bs/\l.length<=40:=hp;have h1:=hp'.1;have h2:=hp'.2.1;have h3:=hp'.2.2;have hsl:(Q6 l).length=l.length:=(Vv l).length_eq;clear hp hp';refine⟨[(9,Z98 s.cols bs fun _=>Q6 l)],?_⟩
 conv=>arg 1; cbv
 refine⟨h2,fun g1 => ?_,fun g1=>⟨⟨h1,h2.1,Nat.le_trans h3 (by decide)⟩,fun g2 => ?_,fun g2=>⟨Nat.le_trans h3 (by decide),h3,?_,fun (k:Nat) hk => ?_⟩⟩⟩
 . have g1':(!decide ((Y5 bs).2=0))=true:=g1;have hc:Y4 s bs l=false:=by
    unfold Y4;simp only [Bool.not_eq_true'] at g1';rw [g1'];rfl
   simp (maxSteps:=4000000) only [fms];rw [hc];exact⟨rfl,rfl⟩
 . have g2':(!Zj s bs l)=true:=g2;have hc:Y4 s bs l=false:=by
    unfold Y4;simp only [Bool.not_eq_true'] at g2';rw [g2',Bool.and_false]
   simp (maxSteps:=4000000) only [fms];rw [hc];exact⟨rfl,rfl⟩
 . simp (maxSteps:=4000000) only [fms];exact⟨Nat.zero_le _,rfl,rfl,rfl⟩
 have g1':(!decide ((Y5 bs).2=0))=false:=g1;have g2':(!Zj s bs l)=false:=g2;simp only [Bool.not_eq_false'] at g1' g2';have hc:Y4 s bs l=true:=by
  unfold Y4;rw [g1',g2'];rfl
 have hk':k<=(Q6 l).length:=hk;have hsB:Yg s=true:=by
  unfold Zj at g2';simp only [Bool.and_eq_true] at g2';exact g2'.1
 clear hk g1 g2
 conv=>arg 1; cbv
 refine⟨fun g3 => ?_,fun g3 => ?_⟩
 . have hlt:k<(Q6 l).length:=by
    have g3':decide ((k:Int)<((Q6 l).length:Int))=true:=g3;simp only [decide_eq_true_eq] at g3';omega
   have hcol:=Z2m g2' ((Vv l).mem_iff.1 (Z7 Tc.stowed.dflt hlt));have hcc:=Z3y hsB (k:=((Q6 l).getD k Tc.stowed.dflt).col.toNat) (by omega);have htop:=Qwj bs ((Q6 l).take k);have htk:((Q6 l).take k).length<=40:=by rw [List.length_take]; omega
   refine⟨⟨Int.natCast_nonneg k,of_decide_eq_true g3⟩,h2.1,hcol,fun g4 => ?_,fun g4=>⟨fun g5 => ?_,fun g5 => ?_⟩⟩
   . have gh:((Q6 l).getD k Tc.stowed.dflt).half=1:=of_decide_eq_true g4;refine⟨⟨by simp only [Z8,Int.toNat_natCast]; omega,by simp only [Z8,Int.toNat_natCast]; omega⟩,?_⟩;have hd0:(Tc.int.dflt:Int)=0:=rfl;have h9:=htop [Kx.i .i64 ((Q6 l).getD k Tc.stowed.dflt).col,Kx.i .i64 (([((Q6 l).getD k Tc.stowed.dflt).half]).getD (Int.toNat 0) Tc.u8.dflt)];have ht:=Yf (Qa bs ((Q6 l).getD k Tc.stowed.dflt).box).1;refine⟨⟨Int.le_refl 0,by simp⟩,(show Q1 (([((Q6 l).getD k Tc.stowed.dflt).half]).getD (Int.toNat 0) Tc.u8.dflt) from by rw [show [((Q6 l).getD k Tc.stowed.dflt).half].getD (Int.toNat 0) Tc.u8.dflt=((Q6 l).getD k Tc.stowed.dflt).half from rfl,gh]; exact⟨by omega,by omega⟩),?_,?_,trivial,?_,?_⟩
     . simp only [V0,Z8,Int.toNat_natCast,List.map_cons,List.map_nil,hd0];exact⟨by omega,by omega⟩
     . simp only [V0,Z8,Int.toNat_natCast,List.map_cons,List.map_nil,hd0];exact⟨by omega,by omega⟩
     . simp only [V0,Z8,Int.toNat_natCast,List.map_cons,List.map_nil,hd0,Q4d];exact⟨by omega,by omega⟩
     refine⟨Qws (fun _=>Z9 (Qa bs ((Q6 l).getD k Tc.stowed.dflt).box).1) (fun _=>((Q6 l).getD k Tc.stowed.dflt).col) (fun _=>K3 bs ((Q6 l).take k)) (fun _ => [((Q6 l).getD k Tc.stowed.dflt).half]),?_⟩
     conv=>arg 1; cbv
     refine⟨?_,fun (j:Nat) hj => ?_⟩
     . simp (maxSteps:=4000000) only [fms];exact⟨Nat.zero_le _,rfl,rfl⟩
     have hj':j<=([((Q6 l).getD k Tc.stowed.dflt).half]).length:=hj
     conv=>arg 1; cbv
     simp (maxSteps:=4000000) only [fms];clear g3 g4 hj h9;have hb1:=fun key=>Q3o (c:=((Q6 l).getD k Tc.stowed.dflt).col) (Yf (Qa bs ((Q6 l).getD k Tc.stowed.dflt).box).1) (([((Q6 l).getD k Tc.stowed.dflt).half]).take j) (K3 bs ((Q6 l).take k)) htop key;have hmor:=fun h=>Qch (t:=Z9 (Qa bs ((Q6 l).getD k Tc.stowed.dflt).box).1) (c:=((Q6 l).getD k Tc.stowed.dflt).col) (m:=K3 bs ((Q6 l).take k)) (hs := [((Q6 l).getD k Tc.stowed.dflt).half]) (j:=j) h;have hmids:=Qb7 s.cols bs (Q6 l) k;have htops:=Qb3 (bs:=bs) hlt;unfold Q1h at hmids;unfold J5 at htops;simp only [Q4d];generalize hX:(Q6 l).getD k Tc.stowed.dflt=x at *
     generalize hM:K3 bs ((Q6 l).take k)=M0 at *
     generalize (Qa bs x.box).1=b at *
     simp only [Q3v,Qa9,Option.getD_some];refine⟨fun g6 => ?_,fun g6 => ?_⟩
     . have hs0:∀ y ∈ [x.half],1<=y/\y<=2:=by simp [gh]
       have hs3:([x.half]).length<=2:=by simp
       generalize [x.half]=hs at *
       have h6:j<hs.length:=by omega
       have h7:=hmor h6;have hs1:=hs0 _ (Z7 Tc.u8.dflt h6);have hs2:Q1 (hs.getD j Tc.u8.dflt):=⟨by omega,by omega⟩
       have hs4:(hs.take j).length<=2:=by rw [List.length_take]; omega
       have hb2:=hb1 [Kx.i .i64 x.col,Kx.i .i64 (hs.getD j Tc.u8.dflt)];have hb3:Q1 ((Q2o (Z9 b) x.col M0 (hs.take j) [Kx.i .i64 x.col,Kx.i .i64 (hs.getD j Tc.u8.dflt)]).getD Tc.int.dflt+Z9 b):=by
        rw [hd0];exact⟨by omega,by omega⟩
       obtain⟨e1,e2,e3,e4,e5⟩:=Qgz hb3 (show Q1 ((j:Int)+1) from ⟨by omega,by omega⟩) (show j+1<=hs.length/\hs.length - (j+1)<hs.length - j from ⟨by omega,by omega⟩) (show (j:Int)+1=((j+1:Nat):Int) by omega) hs2;simp only [h7,e1,e2,e3,e4,e5,and_self,and_true,true_and];exact⟨by omega,by omega⟩
     . have hT:([x.half]).take j = [x.half]:=List.take_of_length_le (by omega);have hof:Q2n x.half = [x.half]:=by
        unfold Q2n;simp [gh]
       have hmx:Q0b (s.cols.getD x.col.toNat Tc.col.dflt) x.half=(s.cols.getD x.col.toNat Tc.col.dflt).x+3050:=by
        unfold Q0b;simp [gh]
       rw [hT,htops,hmids,hof,hmx];refine⟨by rw [Q0t]; simp only [List.length_cons,List.length_nil]; omega,⟨by omega,by omega⟩,⟨by omega,by omega⟩,by omega,rfl,rfl⟩
   . have gh:((Q6 l).getD k Tc.stowed.dflt).half=2:=of_decide_eq_true g5;refine⟨⟨by simp only [Z8,Int.toNat_natCast]; omega,by simp only [Z8,Int.toNat_natCast]; omega⟩,?_⟩;clear g4;have g4:=g5;clear g5;have hd0:(Tc.int.dflt:Int)=0:=rfl;have h9:=htop [Kx.i .i64 ((Q6 l).getD k Tc.stowed.dflt).col,Kx.i .i64 (([((Q6 l).getD k Tc.stowed.dflt).half]).getD (Int.toNat 0) Tc.u8.dflt)];have ht:=Yf (Qa bs ((Q6 l).getD k Tc.stowed.dflt).box).1;refine⟨⟨Int.le_refl 0,by simp⟩,(show Q1 (([((Q6 l).getD k Tc.stowed.dflt).half]).getD (Int.toNat 0) Tc.u8.dflt) from by rw [show [((Q6 l).getD k Tc.stowed.dflt).half].getD (Int.toNat 0) Tc.u8.dflt=((Q6 l).getD k Tc.stowed.dflt).half from rfl,gh]; exact⟨by omega,by omega⟩),?_,?_,trivial,?_,?_⟩
     . simp only [V0,Z8,Int.toNat_natCast,List.map_cons,List.map_nil,hd0];exact⟨by omega,by omega⟩
     . simp only [V0,Z8,Int.toNat_natCast,List.map_cons,List.map_nil,hd0];exact⟨by omega,by omega⟩
     . simp only [V0,Z8,Int.toNat_natCast,List.map_cons,List.map_nil,hd0,Q4d];exact⟨by omega,by omega⟩
     refine⟨Qws (fun _=>Z9 (Qa bs ((Q6 l).getD k Tc.stowed.dflt).box).1) (fun _=>((Q6 l).getD k Tc.stowed.dflt).col) (fun _=>K3 bs ((Q6 l).take k)) (fun _ => [((Q6 l).getD k Tc.stowed.dflt).half]),?_⟩
     conv=>arg 1; cbv
     refine⟨?_,fun (j:Nat) hj => ?_⟩
     . simp (maxSteps:=4000000) only [fms];exact⟨Nat.zero_le _,rfl,rfl⟩
     have hj':j<=([((Q6 l).getD k Tc.stowed.dflt).half]).length:=hj
     conv=>arg 1; cbv
     simp (maxSteps:=4000000) only [fms];clear g3 g4 hj h9;have hb1:=fun key=>Q3o (c:=((Q6 l).getD k Tc.stowed.dflt).col) (Yf (Qa bs ((Q6 l).getD k Tc.stowed.dflt).box).1) (([((Q6 l).getD k Tc.stowed.dflt).half]).take j) (K3 bs ((Q6 l).take k)) htop key;have hmor:=fun h=>Qch (t:=Z9 (Qa bs ((Q6 l).getD k Tc.stowed.dflt).box).1) (c:=((Q6 l).getD k Tc.stowed.dflt).col) (m:=K3 bs ((Q6 l).take k)) (hs := [((Q6 l).getD k Tc.stowed.dflt).half]) (j:=j) h;have hmids:=Qb7 s.cols bs (Q6 l) k;have htops:=Qb3 (bs:=bs) hlt;unfold Q1h at hmids;unfold J5 at htops;simp only [Q4d];generalize hX:(Q6 l).getD k Tc.stowed.dflt=x at *
     generalize hM:K3 bs ((Q6 l).take k)=M0 at *
     generalize (Qa bs x.box).1=b at *
     simp only [Q3v,Qa9,Option.getD_some];refine⟨fun g6 => ?_,fun g6 => ?_⟩
     . have hs0:∀ y ∈ [x.half],1<=y/\y<=2:=by simp [gh]
       have hs3:([x.half]).length<=2:=by simp
       generalize [x.half]=hs at *
       have h6:j<hs.length:=by omega
       have h7:=hmor h6;have hs1:=hs0 _ (Z7 Tc.u8.dflt h6);have hs2:Q1 (hs.getD j Tc.u8.dflt):=⟨by omega,by omega⟩
       have hs4:(hs.take j).length<=2:=by rw [List.length_take]; omega
       have hb2:=hb1 [Kx.i .i64 x.col,Kx.i .i64 (hs.getD j Tc.u8.dflt)];have hb3:Q1 ((Q2o (Z9 b) x.col M0 (hs.take j) [Kx.i .i64 x.col,Kx.i .i64 (hs.getD j Tc.u8.dflt)]).getD Tc.int.dflt+Z9 b):=by
        rw [hd0];exact⟨by omega,by omega⟩
       obtain⟨e1,e2,e3,e4,e5⟩:=Qgz hb3 (show Q1 ((j:Int)+1) from ⟨by omega,by omega⟩) (show j+1<=hs.length/\hs.length - (j+1)<hs.length - j from ⟨by omega,by omega⟩) (show (j:Int)+1=((j+1:Nat):Int) by omega) hs2;simp only [h7,e1,e2,e3,e4,e5,and_self,and_true,true_and];exact⟨by omega,by omega⟩
     . have hT:([x.half]).take j = [x.half]:=List.take_of_length_le (by omega);have hof:Q2n x.half = [x.half]:=by
        unfold Q2n;simp [gh]
       have hmx:Q0b (s.cols.getD x.col.toNat Tc.col.dflt) x.half=(s.cols.getD x.col.toNat Tc.col.dflt).x - 3050:=by
        unfold Q0b;simp [gh]
       rw [hT,htops,hmids,hof,hmx];refine⟨by rw [Q0t]; simp only [List.length_cons,List.length_nil]; omega,⟨by omega,by omega⟩,⟨by omega,by omega⟩,by omega,rfl,rfl⟩
   . have gh:¬ ((Q6 l).getD k Tc.stowed.dflt).half=1/\¬ ((Q6 l).getD k Tc.stowed.dflt).half=2:=⟨of_decide_eq_false g4,of_decide_eq_false g5⟩
     clear g4;have g4:=g5;clear g5;have hd0:(Tc.int.dflt:Int)=0:=rfl;have h9:=htop [Kx.i .i64 ((Q6 l).getD k Tc.stowed.dflt).col,Kx.i .i64 (([(1:Int),2]).getD (Int.toNat 0) Tc.u8.dflt)];have ht:=Yf (Qa bs ((Q6 l).getD k Tc.stowed.dflt).box).1;refine⟨⟨Int.le_refl 0,by simp⟩,(show Q1 (([(1:Int),2]).getD (Int.toNat 0) Tc.u8.dflt) from ⟨by decide,by decide⟩),?_,?_,trivial,?_,?_⟩
     . simp only [V0,Z8,Int.toNat_natCast,List.map_cons,List.map_nil,hd0];exact⟨by omega,by omega⟩
     . simp only [V0,Z8,Int.toNat_natCast,List.map_cons,List.map_nil,hd0];exact⟨by omega,by omega⟩
     . simp only [V0,Z8,Int.toNat_natCast,List.map_cons,List.map_nil,hd0,Q4d];exact⟨by omega,by omega⟩
     refine⟨Qws (fun _=>Z9 (Qa bs ((Q6 l).getD k Tc.stowed.dflt).box).1) (fun _=>((Q6 l).getD k Tc.stowed.dflt).col) (fun _=>K3 bs ((Q6 l).take k)) (fun _ => [(1:Int),2]),?_⟩
     conv=>arg 1; cbv
     refine⟨?_,fun (j:Nat) hj => ?_⟩
     . simp (maxSteps:=4000000) only [fms];exact⟨Nat.zero_le _,rfl,rfl⟩
     have hj':j<=([(1:Int),2]).length:=hj
     conv=>arg 1; cbv
     simp (maxSteps:=4000000) only [fms];clear g3 g4 hj h9;have hb1:=fun key=>Q3o (c:=((Q6 l).getD k Tc.stowed.dflt).col) (Yf (Qa bs ((Q6 l).getD k Tc.stowed.dflt).box).1) (([(1:Int),2]).take j) (K3 bs ((Q6 l).take k)) htop key;have hmor:=fun h=>Qch (t:=Z9 (Qa bs ((Q6 l).getD k Tc.stowed.dflt).box).1) (c:=((Q6 l).getD k Tc.stowed.dflt).col) (m:=K3 bs ((Q6 l).take k)) (hs := [(1:Int),2]) (j:=j) h;have hmids:=Qb7 s.cols bs (Q6 l) k;have htops:=Qb3 (bs:=bs) hlt;unfold Q1h at hmids;unfold J5 at htops;simp only [Q4d];generalize hX:(Q6 l).getD k Tc.stowed.dflt=x at *
     generalize hM:K3 bs ((Q6 l).take k)=M0 at *
     generalize (Qa bs x.box).1=b at *
     simp only [Q3v,Qa9,Option.getD_some];refine⟨fun g6 => ?_,fun g6 => ?_⟩
     . have hs0:∀ y ∈ [(1:Int),2],1<=y/\y<=2:=by simp [gh]
       have hs3:([(1:Int),2]).length<=2:=by simp
       generalize [(1:Int),2]=hs at *
       have h6:j<hs.length:=by omega
       have h7:=hmor h6;have hs1:=hs0 _ (Z7 Tc.u8.dflt h6);have hs2:Q1 (hs.getD j Tc.u8.dflt):=⟨by omega,by omega⟩
       have hs4:(hs.take j).length<=2:=by rw [List.length_take]; omega
       have hb2:=hb1 [Kx.i .i64 x.col,Kx.i .i64 (hs.getD j Tc.u8.dflt)];have hb3:Q1 ((Q2o (Z9 b) x.col M0 (hs.take j) [Kx.i .i64 x.col,Kx.i .i64 (hs.getD j Tc.u8.dflt)]).getD Tc.int.dflt+Z9 b):=by
        rw [hd0];exact⟨by omega,by omega⟩
       obtain⟨e1,e2,e3,e4,e5⟩:=Qgz hb3 (show Q1 ((j:Int)+1) from ⟨by omega,by omega⟩) (show j+1<=hs.length/\hs.length - (j+1)<hs.length - j from ⟨by omega,by omega⟩) (show (j:Int)+1=((j+1:Nat):Int) by omega) hs2;simp only [h7,e1,e2,e3,e4,e5,and_self,and_true,true_and];exact⟨by omega,by omega⟩
     . have hT:([(1:Int),2]).take j = [(1:Int),2]:=List.take_of_length_le (by omega);have hof:Q2n x.half = [(1:Int),2]:=by
        unfold Q2n;simp [gh]
       have hmx:Q0b (s.cols.getD x.col.toNat Tc.col.dflt) x.half=(s.cols.getD x.col.toNat Tc.col.dflt).x:=by
        unfold Q0b;simp [gh]
       rw [hT,htops,hmids,hof,hmx];refine⟨by rw [Q0t]; simp only [List.length_cons,List.length_nil]; omega,⟨by omega,by omega⟩,⟨by omega,by omega⟩,by omega,rfl,rfl⟩
 . have hge:(Q6 l).length<=k:=by
    have g3':decide ((k:Int)<((Q6 l).length:Int))=false:=g3;simp only [decide_eq_false_iff_not] at g3';omega
   have hkk:k=(Q6 l).length:=by omega
   simp (maxSteps:=4000000) only [fms];rw [hc,hkk];exact⟨rfl,rfl⟩
def G6 (id:Int) (m:Mid):Bool:=decide (m.box.id=id)
def Qqw:Con:=Ze 93 Z9s kPI (fun _ _=>True) (fun m id => .bool fun _=>G6 (id ()) (m ()))
theorem Quw:Q7 Tryz.prog Qqw:=by
 refine Qp [] trivial Tryz.func93 (by kernel_rfl) fun avs res h hp => ?_;obtain⟨(m:Mid),(id:Int),rfl,rfl⟩:=Zf h;clear h;refine⟨[],?_⟩
 conv=>arg 1; cbv
 simp (maxSteps:=4000000) only [fms];rfl
def Qo7:Con:=Ze 92 Z96 (Z3v 93) (fun l _=>(l ()).length<=1000000) (fun l id => .int .i64 fun _=>idx (G6 (id ())) (l ()))
def Z2k (l:List Mid) (id:Int):Lp where
 X:=Nat
 ov k := [(8,.int .i64 fun _=>(k:Int))]
 oe _ := []
 I k:=k<=l.length/\∀ j,j<k->G6 id (l.getD j Tc.mid.dflt)=false
 μ k _:=l.length - k
 x0:=0
 nx:=some fun k=>k+1
theorem Qru:Q7 Tryz.prog Qo7:=by
 refine Qp [Qqw] ⟨Quw,trivial⟩ Tryz.func92 (by kernel_rfl) fun avs res h hp => ?_;obtain⟨(l:List Mid),(id:Int),rfl,rfl⟩:=Zf h;clear h;have hl:l.length<=1000000:=hp;refine⟨[(2,Z2k l id)],?_⟩
 conv=>arg 1; cbv
 refine⟨?_,fun (k:Nat) hk => ?_⟩
 . simp (maxSteps:=4000000) only [fms];simp
 have hZhk1:k<=l.length/\∀ j,j<k->G6 id (l.getD j Tc.mid.dflt)=false:=hk;have hk1:=hZhk1.1;have hk2:=hZhk1.2
 conv=>arg 1; cbv
 simp (maxSteps:=4000000) only [fms];refine⟨fun g => ?_,fun g=>(Qck hk2 (by omega)).symm⟩;have hlt:k<l.length:=by omega
 exact⟨by omega,trivial,fun h=>(Qcf hk2 hlt h).symm,fun h=>⟨⟨by omega,by omega⟩,⟨⟨hlt,Vj hk2 h⟩,by omega⟩,by omega⟩⟩
def Qj7 (l:List Mid) (i:Int):Mid:=l.getD i.toNat Tc.mid.dflt
def Ky (s:Shp) (bs:List Box) (l:List Q0) (id:Int):Int×Int×Int×Int :=
 cond (Y4 s bs l) (cond (decide (idx (G6 id) (K9 s.cols bs (Q6 l))<0)) (0,0,0,6)
  ((Qj7 (K9 s.cols bs (Q6 l)) (idx (G6 id) (K9 s.cols bs (Q6 l)))).x,(Qj7 (K9 s.cols bs (Q6 l)) (idx (G6 id) (K9 s.cols bs (Q6 l)))).y,(Qj7 (K9 s.cols bs (Q6 l)) (idx (G6 id) (K9 s.cols bs (Q6 l)))).h,0)) (0,0,0,2)
def Qek:Con:=Q63 34 Va Yw Gk kI (fun s bs l _=>Vg (s ())/\Jm (bs ())/\(l ()).length<=40) (fun s bs l id => .tup [.int .i64 fun _=>(Ky (s ()) (bs ()) (l ()) (id ())).1,.int .i64 fun _=>(Ky (s ()) (bs ()) (l ()) (id ())).2.1,.int .i64 fun _=>(Ky (s ()) (bs ()) (l ()) (id ())).2.2.1,.int .i64 fun _=>(Ky (s ()) (bs ()) (l ()) (id ())).2.2.2])
theorem Qcy:Q7 Tryz.prog Qek:=by
 refine Qp [Qb0,Qo7] ⟨Qc0,Qru,trivial⟩ Tryz.func34 (by kernel_rfl) fun avs res h hp => ?_;obtain⟨(s:Shp),(bs:List Box),(l:List Q0),(id:Int),rfl,rfl⟩:=Q8t h;clear h;have hZh1:Vg s/\Jm bs/\l.length<=40:=hp;have h1:=hZh1.1;have h2:=hZh1.2.1;have h3:=hZh1.2.2;refine⟨[],?_⟩
 conv=>arg 1; cbv
 unfold Ky;have hlen:(K9 s.cols bs (Q6 l)).length=l.length:=by unfold K9; rw [Q0t]; exact (Vv l).length_eq
 have hi:=Q33 (G6 id) (K9 s.cols bs (Q6 l));generalize K9 s.cols bs (Q6 l)=ms at *
 generalize Y4 s bs l=c at *
 simp (maxSteps:=4000000) only [fms];unfold Qj7;have e0:idx (G6 id) ([]:List Mid) = -1:=Qar fun j h=>absurd h (by simp);refine⟨⟨h1,h2,h3⟩,?_⟩;clear h1 h2 hp hZh1;have hl6:ms.length<=1000000:=by omega
 have hix:idx (G6 id) ms<0\/(0<=idx (G6 id) ms/\idx (G6 id) ms<(ms.length:Int)):=by
  rcases hi with ⟨h1,_⟩|⟨k,h,h1,_⟩<;>omega
 cases c with
 | false=>simp
 | true =>
  rcases hix with h4|h4
  . have h5:¬ 0<=idx (G6 id) ms:=by omega
    simp [h4,h5,hl6]
  . have h5:¬ idx (G6 id) ms<0:=by omega
    simp [h4,h5,hl6]
def exC:List Str := [⟨ofL 0,ofL 0⟩,⟨(Zz (-165) 19).1,(Zz (-8250) 19).1⟩,⟨(Zz 110 19).1,(Zz (-11000) 19).1⟩,⟨ofL 0,ofL 0⟩]
def F4 (w:World) (g:Nat):Prop:=w.heap[g]? = some (.cells (exC.map Str.cells).flatten.toArray 130 (0,0))
structure Sml where
 step:Int
 light:Int
 at_:Int
 kilos:Int
 share:Int
deriving DecidableEq
theorem Z3q {B:Nat} {a b o:List Nat} {owed owed' r:Nat} (h:Q5 B o+Q5 B (b.take o.length)=Q5 B (a.take o.length)+B^o.length*owed) (hr:r+owed+b.getD o.length 0=a.getD o.length 0+B*owed') :
 Q5 B (o ++ [r])+Q5 B (b.take (o.length+1))=Q5 B (a.take (o.length+1))+B^(o.length+1)*owed':=by
 rw [Qdw,Zx,Zx,Nat.pow_succ];generalize a.getD o.length 0=p at *
 generalize b.getD o.length 0=q at *
 generalize B^o.length=P at *
 grind
theorem Qk4 {B by_:Nat} {a o:List Nat} {c:Nat} (h:Q5 B o+B^o.length*c=Q5 B (a.take o.length)*by_) :
 Q5 B (o ++ [(c+a.getD o.length 0*by_) % B])+B^(o.length+1)*((c+a.getD o.length 0*by_) / B)=Q5 B (a.take (o.length+1))*by_:=by
 rw [Qdw,Zx,Nat.pow_succ];generalize a.getD o.length 0=p at *
 generalize B^o.length=P at *
 have h1:=Nat.mod_add_div (c+p*by_) B;generalize (c+p*by_) % B=r at *
 generalize (c+p*by_) / B=d at *
 grind
theorem Qg3 {x y j:Nat} (hl:Qg x=Qg y) (hj:j<Qg x) (hd:(dig B16 x).drop (j+1)=(dig B16 y).drop (j+1)) (hlt:(dig B16 x).getD j 0<(dig B16 y).getD j 0):x<y:=by
 have hjy:j<(dig B16 y).length:=by
  have:j<Qg y:=by omega
  exact this
 have h:=Q7b (B:=B16) (a:=dig B16 x) (b:=dig B16 y) (Ql.dig Z2 x) hl hj (by
  rw [List.getD_eq_getElem?_getD,List.getElem?_eq_getElem hj,List.getD_eq_getElem?_getD,List.getElem?_eq_getElem hjy] at hlt;exact hlt) hd
 rwa [Zt Z2,Zt Z2] at h
theorem Qq4 {x:Nat} (h:Qg x=1):dig B16 x = [x]:=by
 have hlt:=Qv Z2 (n:=x) (k:=1) (Nat.le_of_eq h);rw [Nat.pow_one] at hlt;have h0:x≠0:=by
  intro h0;subst h0;cases h
 rw [Ve Z2 h0,Nat.mod_eq_of_lt hlt,Nat.div_eq_of_lt hlt];rfl
theorem Z06 {B:Nat} {a o:List Nat} {b R i:Nat} (hi:i<a.length) (ho:i<o.length) (h:Q5 B (a.drop (i+1))=Q5 B (o.drop (i+1))*b+R) :
 Q5 B (a.drop i)=Q5 B ((o.set i ((a[i]+B*R) / b)).drop i)*b+(a[i]+B*R) % b:=by
 rw [Q1y B hi,Q5u B ho,h];have h1:=Nat.div_add_mod (a[i]+B*R) b;generalize a[i]=x at *
 generalize Q5 B (o.drop (i+1))=V at *
 generalize (x+B*R) / b=q at *
 generalize (x+B*R) % b=r at *
 grind
theorem Qyx {B b R x:Nat} (hR:R<b) (hx:x<B):(x+B*R) / b<B:=by
 rw [Nat.div_lt_iff_lt_mul (by omega)];have h1:B*R+B<=B*b:=by
  have:=Nat.mul_le_mul_left B (show R+1<=b by omega);rw [Nat.mul_add,Nat.mul_one] at this;exact this
 omega
theorem Z2v {B a b R:Nat} {o:List Nat} (hR:R<b) (h:a=Q5 B o*b+R):Q5 B o=a / b/\R=a % b:=by
 have hb:0<b:=by omega
 subst h;constructor
 . rw [Nat.add_comm,Nat.add_mul_div_right _ _ hb,Nat.div_eq_of_lt hR,Nat.zero_add]
 . rw [Nat.add_comm,Nat.add_mul_mod_self_right,Nat.mod_eq_of_lt hR]
theorem Qni {b n:Nat} (hn:n+1=Qg b):0<(dig B16 b).getD n 0/\b=Q5 B16 ((dig B16 b).take n)+B16^n*(dig B16 b).getD n 0/\Q5 B16 ((dig B16 b).take n)<B16^n:=by
 have hlen:(dig B16 b).length=n+1:=hn.symm;have hnl:n<(dig B16 b).length:=by omega
 refine⟨?_,?_,?_⟩
 . refine Nat.pos_of_ne_zero (Qgf Z2 (n:=b) ?_);rw [List.getLast?_eq_getElem?,hlen,Nat.add_sub_cancel,List.getD_eq_getElem?_getD,List.getElem?_eq_getElem hnl];rfl
 . have h1:=Zx B16 (dig B16 b) n;rw [List.take_of_length_le (by omega),Zt Z2] at h1;exact h1
 . have h1:=Y6 ((dig B16 b).take n) ((Ql.dig Z2 b).take n);rwa [List.length_take,hlen,Nat.min_eq_left (by omega)] at h1
theorem Qr6 (W n:Nat):W=Q5 B16 ((dig B16 W).take n)+B16^n*Q5 B16 ((dig B16 W).drop n)/\Q5 B16 ((dig B16 W).take n)<B16^n:=by
 have h1:=V7 B16 (dig B16 W) n;have h2:=Y6 ((dig B16 W).take n) ((Ql.dig Z2 W).take n);rw [Zt Z2] at h1;by_cases h:n<=(dig B16 W).length
 . rw [List.length_take,Nat.min_eq_left h] at h1 h2;exact⟨h1,h2⟩
 . rw [List.drop_eq_nil_of_le (by omega),Q7p,Nat.mul_zero] at h1 ⊢;exact⟨h1,Nat.lt_of_lt_of_le h2 (Nat.pow_le_pow_right (by decide) (by rw [List.length_take]; omega))⟩
theorem Qyt {W b n:Nat} (hn:n+1=Qg b) :
 Q5 B16 ((dig B16 W).drop n) / ((dig B16 b).getD n 0+1)<=W / b/\W / b<=Q5 B16 ((dig B16 W).drop n) / (dig B16 b).getD n 0:=by
 obtain⟨h1,h2,h3⟩:=Qni hn;obtain⟨h4,h5⟩:=Qr6 W n;have hp:0<B16^n:=Nat.pow_pos (by decide);have hb:0<b:=by
  rw [h2];have:=Nat.mul_pos hp h1;omega
 refine⟨Z2g (B:=B16) (n:=n) ?_ h4 hb,Qqv (by decide) h2 h4 h5 h1⟩;rw [Nat.mul_add,Nat.mul_one];omega
theorem Qrr {W b n:Nat} (hn:n+1=Qg b) (h:W<B16*b):Q5 B16 ((dig B16 W).drop n)<4294967296:=by
 obtain⟨h4,_⟩:=Qr6 W n;have hb:=Qv Z2 (n:=b) (k:=n+1) (Nat.le_of_eq hn.symm);have h1:B16^n*Q5 B16 ((dig B16 W).drop n)<B16^n*4294967296:=by
  have e:B16^n*4294967296=B16*B16^(n+1):=by
   rw [Nat.pow_succ];have:(4294967296:Nat)=B16*B16:=rfl;rw [this];grind
  have:=Nat.mul_lt_mul_of_pos_left hb (show 0<B16 by decide);omega
 exact Nat.lt_of_mul_lt_mul_left h1
theorem Z3r {q b W mid:Nat} (hb:0<b) (hq:q=W / b) (h:W<b*mid):q<=mid - 1/\0<mid:=by
 have h1:q<mid:=by rw [hq,Nat.div_lt_iff_lt_mul hb,Nat.mul_comm]; exact h
 omega
theorem Z2j {q b W mid:Nat} (hb:0<b) (hq:q=W / b) (h:¬ W<b*mid):mid<=q:=by
 rw [hq,Nat.le_div_iff_mul_le hb,Nat.mul_comm];omega
set_option maxHeartbeats 1000000 in
theorem Qbl (A:Option Addr) (c n:Nat) (l:List Nat) (hn:n=l.length) (w:World) (h:Rd w w.heap.size 1 A (Zc .i64 l)) (hl:Ql B16 l) (hlen:l.length<=1000000000) (hcap:l.length<=c) :
 Calls Tryz.prog 225 #[.slice A n c] w fun e w'=>e = .returned (.slice A (Qg (Q5 B16 l)) c)/\w'=w:=by
 subst hn
 go_enter Tryz.func225,Tryz.ntmps225
 go_wp2
 go_loop [0] (fun v=>∃ k:Nat,k<=l.length/\v = .slice A k c/\∀ d∈l.drop k,d=0) (fun v=>lenOf v)
 case atStart=>exact⟨l.length,Nat.le_refl _,rfl,by simp⟩
 case round =>
  obtain⟨k,hk,rfl,hz⟩:=hrel;have HZ:=Lib.hid hz;clear hz;by_cases hk0:k=0
  . subst hk0;have HT:Hid (Qg (Q5 B16 l)=0):=by unfold Hid Qg; rw [Qav Z2 hl (Nat.zero_le _) HZ.out (.inl rfl)]; simp
    go_wp2
    go_ret
    exact⟨by rw [HT.out]; rfl,rfl⟩
  . obtain⟨j,rfl⟩:∃ j,k=j+1:=⟨k - 1,by omega⟩
    obtain⟨b,off,rfl,hb,hld⟩:=Vb Tryz.underlying3 rfl h (show j<l.length by omega);have HL:=Lib.hid (hld w (Below.refl _ _));clear hld;by_cases hz0:l[j]=0
    . have e0:((l[j]:Int)==0)=true:=by simp [hz0]
      have hcj:¬ c<j:=by omega
      go_wp2_with (first
       | ((with_reducible refine Z4 3 ?_); (first|refine Q9 rfl _ _ rfl _ rfl _ HL.out ?_|refine Q1o rfl _ _ rfl _ rfl _ HL.out ?_)))
      go_round
      case rel =>
       refine⟨j,by omega,by simp,fun d hd => ?_⟩;rw [List.drop_eq_getElem_cons (show j<l.length by omega)] at hd;rcases List.mem_cons.1 hd with h1|h1
       . rw [h1,hz0]
       . exact HZ.out d h1
      case measure=>simp [lenOf]
    . have HT:Hid (Qg (Q5 B16 l)=j+1):=by
       unfold Hid Qg;rw [Qav Z2 hl hk HZ.out (.inr ⟨j,rfl,by simp [show j<l.length by omega]; exact hz0⟩)];simp;omega
      have e0:((l[j]:Int)==0)=false:=by simp [hz0]
      go_wp2_with (first
       | ((with_reducible refine Z4 3 ?_); (first|refine Q9 rfl _ _ rfl _ rfl _ HL.out ?_|refine Q1o rfl _ _ rfl _ rfl _ HL.out ?_)))
      go_ret
      exact⟨by rw [HT.out]; rfl,rfl⟩
theorem Z6o (A D:Option Addr) (ca cd:Nat) (x y n m:Nat) (hn:n=Qg x) (hm:m=Qg y) (w:World) (hA:Q60 w A x) (hD:Q60 w D y) (hx:Qg x<=1000) (hxy:y<=x) :
 Calls Tryz.prog 224 #[.slice A n ca,.slice D m cd] w fun e w'=>∃ A' c',e = .returned (.slice A' (Qg (x - y)) c')/\Q60 w' A' (x - y)/\Qg (x - y)<=c'/\Qe w w':=by
 have HA:=Lib.hid hA;have HD:=Lib.hid hD;have HX:=Lib.hid (And.intro hn hm);have hn1:n<=1000:=by omega
 have hmn:m<=n:=by
  rcases Nat.eq_zero_or_pos m with h0|h0
  . omega
  . have h3:=(Vt Z2 (n:=y) (k:=m - 1)).1 (by unfold Qg at hm; omega);have h4:=(Vt Z2 (n:=x) (k:=m - 1)).2 (by omega);unfold Qg at hn;omega
 have HXY:=Lib.hid hxy;clear hA hD hn hm hx hxy
 go_enter Tryz.func224,Tryz.ntmps224
 go_wp2
 have HM0:=Lib.hid ((Mem.nil w).none 3 1)
 go_loopw [5,6,7] (fun v5 v6 v7 wq=>∃ (i ow:Nat) (o:List Nat) (A1:Option Addr) (c1:Nat),i<=n/\v7 = .int .i64 i/\v6 = .int .i64 ow/\v5 = .slice A1 i c1/\o.length=i/\Ql B16 o/\Q5 B16 o+Q5 B16 ((dig B16 y).take i)=Q5 B16 ((dig B16 x).take i)+B16^i*ow/\ow<=1/\Mem w wq [.row 3 1 A1 c1 (Zc .i64 o)]) (fun _ _ v7 _=>n - (intOf v7).toNat)
 case atStart=>exact⟨0,0,[],none,0,Nat.zero_le _,rfl,rfl,rfl,rfl,(fun _ h=>by cases h),by simp [Q5],by omega,HM0.out⟩
 case round =>
  clear HM0;obtain⟨i,ow,o,A1,c1,hi1,rfl,rfl,rfl,hol,hod,hval,how,hmem⟩:=hrel;have HM:=Lib.hid hmem;have HOD:=Lib.hid hod;have HV:=Lib.hid hval;have HOL':Hid (o.length=i):=hol;have HOL:Hid (i=(Zc .i64 o).length):=by unfold Hid; rw [Ye,hol]
  clear hmem hod hval;have hi10:i<=1002:=by omega
  have wI:IntKind.i64.wrap ((i:Int)+1)=(i:Int)+1:=Qk (by omega) (by omega);have hXn:(dig B16 x).length=n:=HX.out.1.symm;have hYm:(dig B16 y).length=m:=HX.out.2.symm;have HSS:Hid (∀ r ow',r+ow+(dig B16 y).getD i 0=(dig B16 x).getD i 0+B16*ow'->Q5 B16 (o ++ [r])+Q5 B16 ((dig B16 y).take (i+1))=Q5 B16 ((dig B16 x).take (i+1))+B16^(i+1)*ow'):=fun r ow' hr=>by
   have h1:=Z3q (B:=B16) (a:=dig B16 x) (b:=dig B16 y) (o:=o) (owed:=ow) (owed':=ow') (r:=r) (by rw [HOL'.out]; exact HV.out) (by rw [HOL'.out]; exact hr);rw [HOL'.out] at h1;exact h1
  by_cases hin:i<n
  . have hini:(i:Int)<(n:Int):=by omega
    obtain⟨b1,o1,rfl,_,hl1⟩:=Vb Tryz.underlying3 rfl HA.out (show i<(dig B16 x).length by omega);have HL1:=Lib.hid (hl1 wr HM.out.from_);have ex:(dig B16 x).getD i 0=(dig B16 x)[i]'(by omega):=by simp [show i<(dig B16 x).length by omega]
    rw [<- ex] at HL1;have xb:=(Ql.dig Z2 x).getD (by decide) i;have yb:=(Ql.dig Z2 y).getD (by decide) i;have eB:B16=65536:=rfl;clear hl1;by_cases him:i<m
    . have himi:(i:Int)<(m:Int):=by omega
      obtain⟨b2,o2,rfl,_,hl2⟩:=Vb Tryz.underlying3 rfl HD.out (show i<(dig B16 y).length by omega);have HL2:=Lib.hid (hl2 wr HM.out.from_);have ey:(dig B16 y).getD i 0=(dig B16 y)[i]'(by omega):=by simp [show i<(dig B16 y).length by omega]
      rw [<- ey] at HL2;clear hl2 ey ex hXn hYm;generalize (dig B16 x).getD i 0=xa at *
      generalize (dig B16 y).getD i 0=ya at *
      have w1':IntKind.i64.wrap ((xa:Int) - (ow:Int))=(xa:Int) - (ow:Int):=Qk (by omega) (by omega);have w2':IntKind.i64.wrap ((xa:Int) - (ow:Int) - (ya:Int))=(xa:Int) - (ow:Int) - (ya:Int):=Qk (by omega) (by omega);by_cases hs0:xa<ow+ya
      . obtain⟨r,hr⟩:∃ r,r=xa+65536 - (ow+ya):=⟨_,rfl⟩
        have hneg:(xa:Int) - (ow:Int) - (ya:Int)<0:=by omega
        have HRB:Hid (r<B16):=by unfold Hid; omega
        have HST:Hid (Q5 B16 (o ++ [r])+Q5 B16 ((dig B16 y).take (i+1))=Q5 B16 ((dig B16 x).take (i+1))+B16^(i+1)*1):=HSS.out r 1 (by omega);have w5:IntKind.i64.wrap ((xa:Int) - (ow:Int) - (ya:Int)+65536)=(r:Int):=by rw [Qk (by omega) (by omega)]; omega
        clear hr xb yb eB
        go_wp2_with (first
         | ((with_reducible refine Z4 3 ?_); refine Q9 rfl _ _ rfl _ rfl _ HL1.out ?_)
         | ((with_reducible refine Z4 3 ?_); refine Q9 rfl _ _ rfl _ rfl _ HL2.out ?_)
         | (at_builtin; (refine V3 rfl _ _ rfl Q3j i HOL.out rfl (HM.out.any _) 0 rfl rfl (Rd.new2 wr 3 1 [.int .i64 (r:Int)] rfl) rfl (by simp [Value.oneCell']) (by rw [<- HOL.out]; unfold maxLen; omega) (by rw [<- HOL.out]; omega) ?_); intro A3 c3 w2 h2; have HM2:=Lib.hid h2; clear h2 HM))
        go_roundw
        case rel =>
         refine⟨i+1,1,o ++ [r],A3,c3,by omega,by go_num,by go_num,by go_num,?_,?_,HST.out,by omega,?_⟩
         . rw [List.length_append,HOL'.out]; rfl
         . exact HOD.out.append (fun d hd=>by rw [List.mem_singleton] at hd; subst hd; exact HRB.out)
         . have h1:=HM2.out;rw [Jh];exact h1
        case measure=>simp [intOf]; omega
      . obtain⟨r,hr⟩:∃ r,r=xa - (ow+ya):=⟨_,rfl⟩
        have hneg:¬ (r:Int)<0:=by omega
        have HRB:Hid (r<B16):=by unfold Hid; omega
        have HST:Hid (Q5 B16 (o ++ [r])+Q5 B16 ((dig B16 y).take (i+1))=Q5 B16 ((dig B16 x).take (i+1))+B16^(i+1)*0):=HSS.out r 0 (by omega);have w5:IntKind.i64.wrap ((xa:Int) - (ow:Int) - (ya:Int))=(r:Int):=by rw [w2']; omega
        clear hr w2' xb yb eB
        go_wp2_with (first
         | ((with_reducible refine Z4 3 ?_); refine Q9 rfl _ _ rfl _ rfl _ HL1.out ?_)
         | ((with_reducible refine Z4 3 ?_); refine Q9 rfl _ _ rfl _ rfl _ HL2.out ?_)
         | (at_builtin; (refine V3 rfl _ _ rfl Q3j i HOL.out rfl (HM.out.any _) 0 rfl rfl (Rd.new2 wr 3 1 [.int .i64 (r:Int)] rfl) rfl (by simp [Value.oneCell']) (by rw [<- HOL.out]; unfold maxLen; omega) (by rw [<- HOL.out]; omega) ?_); intro A3 c3 w2 h2; have HM2:=Lib.hid h2; clear h2 HM))
        go_roundw
        case rel =>
         refine⟨i+1,0,o ++ [r],A3,c3,by omega,by go_num,by go_num,by go_num,?_,?_,HST.out,by omega,?_⟩
         . rw [List.length_append,HOL'.out]; rfl
         . exact HOD.out.append (fun d hd=>by rw [List.mem_singleton] at hd; subst hd; exact HRB.out)
         . have h1:=HM2.out;rw [Jh];exact h1
        case measure=>simp [intOf]; omega
    . have himi:¬ (i:Int)<(m:Int):=by omega
      have ey:(dig B16 y).getD i 0=0:=by simp [show (dig B16 y).length<=i by omega]
      rw [ey] at HSS;clear ey ex hXn hYm yb;generalize (dig B16 x).getD i 0=xa at *
      obtain⟨ya,hya⟩:∃ ya:Nat,ya=0:=⟨0,rfl⟩
      rw [<- hya] at HSS;have HL2:=HL1;have w1':IntKind.i64.wrap ((xa:Int) - (ow:Int))=(xa:Int) - (ow:Int):=Qk (by omega) (by omega);by_cases hs0:xa<ow+ya
      . obtain⟨r,hr⟩:∃ r,r=xa+65536 - (ow+ya):=⟨_,rfl⟩
        have hneg:(xa:Int) - (ow:Int)  < 0:=by omega
        have HRB:Hid (r<B16):=by unfold Hid; omega
        have HST:Hid (Q5 B16 (o ++ [r])+Q5 B16 ((dig B16 y).take (i+1))=Q5 B16 ((dig B16 x).take (i+1))+B16^(i+1)*1):=HSS.out r 1 (by omega);have w5:IntKind.i64.wrap ((xa:Int) - (ow:Int)  + 65536)=(r:Int):=by rw [Qk (by omega) (by omega)]; omega
        clear hr xb eB hya
        go_wp2_with (first
         | ((with_reducible refine Z4 3 ?_); refine Q9 rfl _ _ rfl _ rfl _ HL1.out ?_)
         | ((with_reducible refine Z4 3 ?_); refine Q9 rfl _ _ rfl _ rfl _ HL2.out ?_)
         | (at_builtin; (refine V3 rfl _ _ rfl Q3j i HOL.out rfl (HM.out.any _) 0 rfl rfl (Rd.new2 wr 3 1 [.int .i64 (r:Int)] rfl) rfl (by simp [Value.oneCell']) (by rw [<- HOL.out]; unfold maxLen; omega) (by rw [<- HOL.out]; omega) ?_); intro A3 c3 w2 h2; have HM2:=Lib.hid h2; clear h2 HM))
        go_roundw
        case rel =>
         refine⟨i+1,1,o ++ [r],A3,c3,by omega,by go_num,by go_num,by go_num,?_,?_,HST.out,by omega,?_⟩
         . rw [List.length_append,HOL'.out]; rfl
         . exact HOD.out.append (fun d hd=>by rw [List.mem_singleton] at hd; subst hd; exact HRB.out)
         . have h1:=HM2.out;rw [Jh];exact h1
        case measure=>simp [intOf]; omega
      . obtain⟨r,hr⟩:∃ r,r=xa - (ow+ya):=⟨_,rfl⟩
        have hneg:¬ (r:Int)<0:=by omega
        have HRB:Hid (r<B16):=by unfold Hid; omega
        have HST:Hid (Q5 B16 (o ++ [r])+Q5 B16 ((dig B16 y).take (i+1))=Q5 B16 ((dig B16 x).take (i+1))+B16^(i+1)*0):=HSS.out r 0 (by omega);have w5:IntKind.i64.wrap ((xa:Int) - (ow:Int) )=(r:Int):=by rw [w1']; omega
        clear hr w1' xb eB hya
        go_wp2_with (first
         | ((with_reducible refine Z4 3 ?_); refine Q9 rfl _ _ rfl _ rfl _ HL1.out ?_)
         | ((with_reducible refine Z4 3 ?_); refine Q9 rfl _ _ rfl _ rfl _ HL2.out ?_)
         | (at_builtin; (refine V3 rfl _ _ rfl Q3j i HOL.out rfl (HM.out.any _) 0 rfl rfl (Rd.new2 wr 3 1 [.int .i64 (r:Int)] rfl) rfl (by simp [Value.oneCell']) (by rw [<- HOL.out]; unfold maxLen; omega) (by rw [<- HOL.out]; omega) ?_); intro A3 c3 w2 h2; have HM2:=Lib.hid h2; clear h2 HM))
        go_roundw
        case rel =>
         refine⟨i+1,0,o ++ [r],A3,c3,by omega,by go_num,by go_num,by go_num,?_,?_,HST.out,by omega,?_⟩
         . rw [List.length_append,HOL'.out]; rfl
         . exact HOD.out.append (fun d hd=>by rw [List.mem_singleton] at hd; subst hd; exact HRB.out)
         . have h1:=HM2.out;rw [Jh];exact h1
        case measure=>simp [intOf]; omega
  . obtain rfl:i=n:=by omega
    have hini:¬ (i:Int)<(i:Int):=by omega
    have hfx:(dig B16 x).take i=dig B16 x:=List.take_of_length_le (by omega);have hfy:(dig B16 y).take i=dig B16 y:=List.take_of_length_le (by omega);have hv:=HV.out;rw [hfx,hfy,Zt Z2,Zt Z2] at hv;have hlt:=Y6 o HOD.out;rw [HOL'.out] at hlt;have hxy:=HXY.out;have hw0:Q5 B16 o=x - y:=by
     have h01:ow=0\/ow=1:=by omega
     rcases h01 with h0|h0
     . subst h0;omega
     . subst h0;omega
    have HW:=Lib.hid hw0;clear hfx hfy hv hlt hxy hw0 hXn hYm
    go_wp2_with (go_at_call 225; refine (Qbl _ _ _ o HOL'.out.symm wr (HM.out.rd (i:=0) rfl) HOD.out (by rw [HOL'.out]; omega) (by have h1:=(HM.out.own (i:=0) rfl).cap; rw [Ye] at h1; exact h1.1)).mono ?_; rintro e w5 ⟨rfl,rfl⟩)
    go_ret
    refine⟨A1,c1,by rw [HW.out]; rfl,?_,?_,HM.out.from_⟩
    . have h1:=Q20 Z2 (HM.out.rd (i:=0) rfl) HOD.out;rw [HW.out] at h1;exact h1
    . have h1:=(HM.out.own (i:=0) rfl).cap;rw [Ye] at h1;have h2:=Z3 Z2 (Y6 _ HOD.out);rw [HW.out] at h2;exact Nat.le_trans h2 h1.1
theorem Z18 (A:Option Addr) (ca:Nat) (x y n:Nat) (hn:n=Qg x) (w:World) (hA:Q60 w A x) (hx:Qg x<=1000) (hy:y<65536) :
 Calls Tryz.prog 262 #[.slice A n ca,.int .i64 (y:Int)] w fun e w'=>∃ A' c',e = .returned (.slice A' (Qg (x*y)) c')/\Q60 w' A' (x*y)/\Qg (x*y)<=c'/\Qe w w':=by
 have HA:=Lib.hid hA;have HX:=Lib.hid hn;have hn1:n<=1000:=by omega
 clear hA hn hx
 go_enter Tryz.func262,Tryz.ntmps262
 go_wp2
 have HM0:=Lib.hid ((Mem.nil w).none 3 1)
 go_loopw [5,6,7] (fun v5 v6 v7 wq=>∃ (i c:Nat) (o:List Nat) (A1:Option Addr) (c1:Nat),i<=n+1/\v7 = .int .i64 i/\v6 = .int .i64 c/\v5 = .slice A1 i c1/\o.length=i/\Ql B16 o/\Q5 B16 o+B16^i*c=Q5 B16 ((dig B16 x).take i)*y/\(c<65536/\(i<=n\/c=0))/\Mem w wq [.row 3 1 A1 c1 (Zc .i64 o)]) (fun _ _ v7 _=>2004 - (intOf v7).toNat)
 case atStart=>exact⟨0,0,[],none,0,by omega,rfl,rfl,rfl,rfl,(fun _ h=>by cases h),by simp [Q5],⟨by omega,.inl (Nat.zero_le _)⟩,HM0.out⟩
 case round =>
  clear HM0;obtain⟨i,c,o,A1,c1,hi1,rfl,rfl,rfl,hol,hod,hval,hcc,hmem⟩:=hrel;have HM:=Lib.hid hmem;have HOD:=Lib.hid hod;have HV:=Lib.hid hval;have HOL':Hid (o.length=i):=hol;have HOL:Hid (i=(Zc .i64 o).length):=by unfold Hid; rw [Ye,hol]
  clear hmem hod hval;have hi10:i<=1002:=by omega
  have wI:IntKind.i64.wrap ((i:Int)+1)=(i:Int)+1:=Qk (by omega) (by omega);have hXn:(dig B16 x).length=n:=HX.out.symm;by_cases hin:i<n
  . have hini:(i:Int)<(n:Int):=by omega
    obtain⟨b1,o1,rfl,_,hl1⟩:=Vb Tryz.underlying3 rfl HA.out (show i<(dig B16 x).length by omega);have HL1:=Lib.hid (hl1 wr HM.out.from_);have ex:(dig B16 x).getD i 0=(dig B16 x)[i]'(by omega):=by simp [show i<(dig B16 x).length by omega]
    rw [<- ex] at HL1;clear hl1;obtain⟨s,hs⟩:∃ s,s=c+(dig B16 x).getD i 0*y:=⟨_,rfl⟩
    obtain⟨r,hr⟩:∃ r,r=s % 65536:=⟨_,rfl⟩
    obtain⟨q,hq⟩:∃ q,q=s / 65536:=⟨_,rfl⟩
    have hst:=Qk4 (B:=B16) (a:=dig B16 x) (by_:=y) (o:=o) (c:=c) (by rw [HOL'.out]; exact HV.out);rw [HOL'.out,<- hs] at hst;have HST:Hid (Q5 B16 (o ++ [r])+B16^(i+1)*q=Q5 B16 ((dig B16 x).take (i+1))*y):=by unfold Hid; rw [hr,hq]; exact hst
    have HRB:Hid (r<B16):=by unfold Hid; rw [hr]; exact Nat.mod_lt _ (by decide)
    have w3':(s:Int).tmod 65536=(r:Int):=by rw [hr]; rfl
    have w4':(s:Int).tdiv 65536=(q:Int):=by rw [hq]; rfl
    have xb:=(Ql.dig Z2 x).getD (by decide) i;have hp:(dig B16 x).getD i 0*y<=65535*65535:=Nat.mul_le_mul (by have e:B16=65536:=rfl; omega) (by omega);have hq1:q<65536:=by omega
    clear hst;have HNX:Hid (q<65536/\(i+1<=n\/q=0)):=⟨hq1,.inl (by omega)⟩
    generalize (dig B16 x).getD i 0=xa at *
    obtain⟨p,hpe⟩:∃ p,p=xa*y:=⟨_,rfl⟩
    rw [<- hpe] at hp hs;have wM:IntKind.i64.wrap ((xa:Int)*(y:Int))=(p:Int):=by rw [<- Int.natCast_mul,<- hpe,Qk (by omega) (by omega)]
    have wS1:IntKind.i64.wrap ((c:Int)+(p:Int))=(s:Int):=by rw [Qk (by omega) (by omega)]; omega
    clear hs hr hq ex xb hXn hp hpe
    go_wp2_with (first
     | ((with_reducible refine Z4 3 ?_); refine Q9 rfl _ _ rfl _ rfl _ HL1.out ?_)
     | (at_builtin; (refine V3 rfl _ _ rfl Q3j i HOL.out rfl (HM.out.any _) 0 rfl rfl (Rd.new2 wr 3 1 [.int .i64 (r:Int)] rfl) rfl (by simp [Value.oneCell']) (by rw [<- HOL.out]; unfold maxLen; omega) (by rw [<- HOL.out]; omega) ?_); intro A3 c3 w2 h2; have HM2:=Lib.hid h2; clear h2 HM))
    go_roundw
    case rel =>
     refine⟨i+1,q,o ++ [r],A3,c3,by omega,by go_num,by go_num,by go_num,?_,?_,HST.out,HNX.out,?_⟩
     . rw [List.length_append,HOL'.out]; rfl
     . exact HOD.out.append (fun d hd=>by rw [List.mem_singleton] at hd; subst hd; exact HRB.out)
     . have h1:=HM2.out;rw [Jh];exact h1
    case measure=>simp [intOf]; omega
  . have hini:¬ (i:Int)<(n:Int):=by omega
    have hfx:(dig B16 x).take i=dig B16 x:=List.take_of_length_le (by omega);by_cases hc0:c=0
    . subst hc0;have hcc0:¬ (0:Int)<((0:Nat):Int):=by decide
      have hv:=HV.out;rw [hfx,Zt Z2,Nat.mul_zero,Nat.add_zero] at hv;have HW:=Lib.hid hv;clear hfx hcc hv hXn
      go_wp2_with (go_at_call 225; refine (Qbl _ _ _ o HOL'.out.symm wr (HM.out.rd (i:=0) rfl) HOD.out (by rw [HOL'.out]; omega) (by have h1:=(HM.out.own (i:=0) rfl).cap; rw [Ye] at h1; exact h1.1)).mono ?_; rintro e w5 ⟨rfl,rfl⟩)
      go_ret
      refine⟨A1,c1,by rw [HW.out]; rfl,?_,?_,HM.out.from_⟩
      . have h1:=Q20 Z2 (HM.out.rd (i:=0) rfl) HOD.out;rw [HW.out] at h1;exact h1
      . have h1:=(HM.out.own (i:=0) rfl).cap;rw [Ye] at h1;have h2:=Z3 Z2 (Y6 _ HOD.out);rw [HW.out] at h2;exact Nat.le_trans h2 h1.1
    . have hcc0:(0:Int)<(c:Int):=by omega
      obtain⟨s,hs⟩:∃ s,s=c+(dig B16 x).getD i 0*y:=⟨_,rfl⟩
      obtain⟨r,hr⟩:∃ r,r=s % 65536:=⟨_,rfl⟩
      obtain⟨q,hq⟩:∃ q,q=s / 65536:=⟨_,rfl⟩
      have hst:=Qk4 (B:=B16) (a:=dig B16 x) (by_:=y) (o:=o) (c:=c) (by rw [HOL'.out]; exact HV.out);rw [HOL'.out,<- hs] at hst;have HST:Hid (Q5 B16 (o ++ [r])+B16^(i+1)*q=Q5 B16 ((dig B16 x).take (i+1))*y):=by unfold Hid; rw [hr,hq]; exact hst
      have HRB:Hid (r<B16):=by unfold Hid; rw [hr]; exact Nat.mod_lt _ (by decide)
      have w3':(s:Int).tmod 65536=(r:Int):=by rw [hr]; rfl
      have w4':(s:Int).tdiv 65536=(q:Int):=by rw [hq]; rfl
      have xb:=(Ql.dig Z2 x).getD (by decide) i;have hp:(dig B16 x).getD i 0*y<=65535*65535:=Nat.mul_le_mul (by have e:B16=65536:=rfl; omega) (by omega);have hq1:q<65536:=by omega
      clear hst;have ex:(dig B16 x).getD i 0=0:=by simp [show (dig B16 x).length<=i by omega]
      rw [ex,Nat.zero_mul,Nat.add_zero] at hs;subst hs;have HNX:Hid (q<65536/\(i+1<=n\/q=0)):=⟨hq1,.inr (by omega)⟩
      clear hr hq ex xb hXn hfx hp
      go_wp2_with (first
       | (at_builtin; (refine V3 rfl _ _ rfl Q3j i HOL.out rfl (HM.out.any _) 0 rfl rfl (Rd.new2 wr 3 1 [.int .i64 (r:Int)] rfl) rfl (by simp [Value.oneCell']) (by rw [<- HOL.out]; unfold maxLen; omega) (by rw [<- HOL.out]; omega) ?_); intro A3 c3 w2 h2; have HM2:=Lib.hid h2; clear h2 HM))
      go_roundw
      case rel =>
       refine⟨i+1,q,o ++ [r],A3,c3,by omega,by go_num,by go_num,by go_num,?_,?_,HST.out,HNX.out,?_⟩
       . rw [List.length_append,HOL'.out]; rfl
       . exact HOD.out.append (fun d hd=>by rw [List.mem_singleton] at hd; subst hd; exact HRB.out)
       . have h1:=HM2.out;rw [Jh];exact h1
      case measure=>simp [intOf]; omega
end Go.Proofs.YtffeegebohigdaaGreat
