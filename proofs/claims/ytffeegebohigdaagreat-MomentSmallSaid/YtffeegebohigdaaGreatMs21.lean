/-
  Plain laws: a stable sort by a key is unique; what swapping, inserting and rotating keep.
-/
import Derived.Test.YtffeegebohigdaaGreatMs20
set_option linter.unusedVariables false
set_option linter.unusedSimpArgs false
set_option maxRecDepth 100000
set_option maxHeartbeats 4000000
namespace Go.Proofs.YtffeegebohigdaaGreat
open Go.RowKit
theorem Qha {α:Type} (d : α) (l:List α) (j i:Nat) (hj:j+1<l.length):(V2 d l j).getD i d=if i=j then l.getD (j+1) d else if i=j+1 then l.getD j d else l.getD i d:=by
 unfold V2;rw [List.getD_eq_getElem?_getD,List.getElem?_set,List.getElem?_set];by_cases h1:i=j
 . subst h1;simp [show i<l.length by omega]
 . rw [if_neg (fun e=>h1 e.symm),if_neg h1];by_cases h2:i=j+1
   . subst h2;simp [hj]
   . rw [if_neg (fun e=>h2 e.symm),if_neg h2,List.getD_eq_getElem?_getD]
theorem Q8l (a b:Q0):Vc a b=decide (a.tier<b.tier):=by
 unfold Vc Qi4;by_cases h:a.tier<b.tier
 . simp [h]
 . by_cases h2:b.tier<a.tier<;>simp [h,h2]
section
variable {α:Type} (key : α->Int) (d : α)
def V1 (t:Int) (l:List α):List α:=l.filter fun x=>decide (key x=t)
structure Ren (a b:Nat) (l m:List α):Prop where
 len:m.length=l.length
 out:∀ i,i<a\/b<=i->m[i]? = l[i]?
 flt:∀ t,V1 key t m=V1 key t l
def Srt (a b:Nat) (l:List α):Prop:=∀ i k,a<=i->i<k->k<b->key (l.getD i d)<=key (l.getD k d)
theorem Ren.refl (a b:Nat) (l:List α):Ren key a b l l:=⟨rfl,fun _ _=>rfl,fun _=>rfl⟩
variable {key}
theorem Ren.trans {a b:Nat} {l m n:List α} (h:Ren key a b l m) (g:Ren key a b m n):Ren key a b l n :=
 ⟨g.len.trans h.len,fun i hi=>(g.out i hi).trans (h.out i hi),fun t=>(g.flt t).trans (h.flt t)⟩
theorem Ren.wide {a b a' b':Nat} {l m:List α} (h:Ren key a b l m) (ha:a'<=a) (hb:b<=b'):Ren key a' b' l m :=
 ⟨h.len,fun i hi=>h.out i (by omega),h.flt⟩
variable {d}
theorem Ren.get {a b:Nat} {l m:List α} (h:Ren key a b l m) {i:Nat} (hi:i<a\/b<=i):m.getD i d=l.getD i d:=by
 rw [List.getD_eq_getElem?_getD,h.out i hi,<- List.getD_eq_getElem?_getD]
theorem Srt.le {a b:Nat} {l:List α} (h:Srt key d a b l) {i k:Nat} (hi:a<=i) (hik:i<=k) (hk:k<b):key (l.getD i d)<=key (l.getD k d):=by
 rcases Nat.lt_or_ge i k with g|g
 . exact h i k hi g hk
 . rw [show i=k by omega]; exact Int.le_refl _
theorem Qgd:∀ {l m:List α},l.Pairwise (fun x y=>key x<=key y)->m.Pairwise (fun x y=>key x<=key y)->(∀ t,V1 key t l=V1 key t m)->l=m
 | [],[],_,_,_=>rfl
 | [],y::m,_,_,h=>by
  have:=h (key y);simp [V1] at this
 | x::l,[],_,_,h=>by
  have:=h (key x);simp [V1] at this
 | x::l,y::m,h1,h2,h=>by
  have hx:x∈V1 key (key x) (y::m):=by rw [<- h]; simp [V1]
  have hy:y∈V1 key (key y) (x::l):=by rw [h]; simp [V1]
  have hxm:=(List.mem_filter.1 hx).1;have hyl:=(List.mem_filter.1 hy).1;have e1:key y<=key x:=by
   rcases List.mem_cons.1 hxm with g|g
   . rw [g]; exact Int.le_refl _
   . exact (List.pairwise_cons.1 h2).1 x g
  have e2:key x<=key y:=by
   rcases List.mem_cons.1 hyl with g|g
   . rw [g]; exact Int.le_refl _
   . exact (List.pairwise_cons.1 h1).1 y g
  have e:key x=key y:=by omega
  have h3:=h (key x);simp only [V1,List.filter_cons,decide_true,if_true,e,List.cons.injEq] at h3;obtain⟨rfl,h4⟩:=h3;have h5:∀ t,V1 key t l=V1 key t m:=fun t=>by
   have:=h t;simp only [V1,List.filter_cons] at this;split at this
   . exact (List.cons.inj this).2
   . exact this
  rw [Qgd (List.pairwise_cons.1 h1).2 (List.pairwise_cons.1 h2).2 h5]
theorem Q0k {l:List α} {a b:Nat} (hab:a<=b):l=l.take a++((l.take b).drop a++l.drop b):=by
 rw [<- List.append_assoc]
 conv=>lhs; rw [<- List.take_append_drop b l]
 congr 1
 conv=>lhs; rw [<- List.take_append_drop a (l.take b)]
 rw [List.take_take,Nat.min_eq_left hab]
theorem Qim {l:List α} {a b:Nat} (hb:b<=l.length) (h:Srt key d a b l):((l.take b).drop a).Pairwise fun x y=>key x<=key y:=by
 rw [List.pairwise_iff_getElem];intro i j hi hj hij;simp only [List.length_drop,List.length_take] at hi hj;have:=h (a+i) (a+j) (by omega) (by omega) (by omega);rw [List.getD_eq_getElem?_getD,List.getD_eq_getElem?_getD,List.getElem?_eq_getElem (by omega),List.getElem?_eq_getElem (by omega)] at this;simpa [List.getElem_drop,List.getElem_take] using this
theorem Z2i {l m n:List α} {a b:Nat} (hab:a<=b) (hb:b<=l.length) (h1:Ren key a b l m) (h2:Ren key a b l n) (s1:Srt key d a b m) (s2:Srt key d a b n):m=n:=by
 have ht:m.take a=n.take a:=List.ext_getElem? fun i=>by
  rw [List.getElem?_take,List.getElem?_take];split
  . rw [h1.out i (.inl (by omega)),h2.out i (.inl (by omega))]
  . rfl
 have hd:m.drop b=n.drop b:=List.ext_getElem? fun i=>by
  rw [List.getElem?_drop,List.getElem?_drop,h1.out _ (.inr (by omega)),h2.out _ (.inr (by omega))]
 rw [Q0k (l:=m) hab,Q0k (l:=n) hab,ht,hd];congr 2;refine Qgd (key:=key) (Qim (by rw [h1.len]; exact hb) s1) (Qim (by rw [h2.len]; exact hb) s2) fun t => ?_;have h:=(h1.flt t).trans (h2.flt t).symm;rw [Q0k (l:=m) hab,Q0k (l:=n) hab,ht,hd] at h;simp only [V1,List.filter_append] at h;exact List.append_cancel_right (List.append_cancel_left h)
def Q2s (key : α->Int) (x : α):List α->List α
 | [] => [x]
 | y::l=>if key x<=key y then x::y::l else y::Q2s key x l
def Q15 (key : α->Int) (l:List α):List α:=l.foldr (Q2s key) []
theorem Qkq (t:Int) (x : α):∀ l,V1 key t (Q2s key x l)=V1 key t (x::l)
 | []=>rfl
 | y::l=>by
  unfold Q2s;split
  . rfl
  . have:=Qkq t x l;simp only [V1,List.filter_cons] at this ⊢;rw [this];by_cases h1:key x=t<;>by_cases h2:key y=t<;>simp [h1,h2]
    omega
theorem Qjn (t:Int):∀ l,V1 key t (Q15 key l)=V1 key t l
 | []=>rfl
 | x::l=>by
  have h:=Qkq (key:=key) t x (Q15 key l);have ih:=Qjn t l;simp only [V1,List.filter_cons] at h ih ⊢;rw [show Q15 key (x::l)=Q2s key x (Q15 key l) from rfl,h,ih]
theorem Qt0 (x : α):∀ l,(Q2s key x l).length=l.length+1
 | []=>rfl
 | y::l=>by
  unfold Q2s;split
  . rfl
  . rw [List.length_cons,Qt0 x l,List.length_cons]
theorem Qal:∀ l,(Q15 key l).length=l.length
 | []=>rfl
 | x::l=>by
  rw [show Q15 key (x::l)=Q2s key x (Q15 key l) from rfl,Qt0,Qal l,List.length_cons]
theorem Qi1 (x : α):∀ {l} {y},y∈Q2s key x l->y=x\/y∈l
 | [],y,h => .inl (by simpa [Q2s] using h)
 | z::l,y,h=>by
  unfold Q2s at h;split at h
  . simpa using h
  . rcases List.mem_cons.1 h with g|g
    . exact .inr (by simp [g])
    . rcases Qi1 x g with g|g
      . exact .inl g
      . exact .inr (by simp [g])
theorem Qfv (x : α):∀ {l:List α},l.Pairwise (fun x y=>key x<=key y)->(Q2s key x l).Pairwise fun x y=>key x<=key y
 | [],_=>by simp [Q2s]
 | y::l,h=>by
  obtain⟨h1,h2⟩:=List.pairwise_cons.1 h;unfold Q2s;split
  . rename_i g;exact List.pairwise_cons.2 ⟨fun z hz=>by
     rcases List.mem_cons.1 hz with e|e
     . rw [e]; exact g
     . exact Int.le_trans g (h1 z e),h⟩
  . rename_i g;exact List.pairwise_cons.2 ⟨fun z hz=>by
     rcases Qi1 x hz with e|e
     . rw [e]; omega
     . exact h1 z e,Qfv x h2⟩
theorem Qfn:∀ l:List α,(Q15 key l).Pairwise fun x y=>key x<=key y
 | []=>List.Pairwise.nil
 | x::l=>Qfv x (Qfn l)
def Zb (key : α->Int) (a b:Nat) (l:List α):List α:=l.take a++(Q15 key ((l.take b).drop a)++l.drop b)
theorem V5 {l:List α} {a b:Nat} (hab:a<=b) (hb:b<=l.length):Ren key a b l (Zb key a b l):=by
 have hn:(Q15 key ((l.take b).drop a)).length=b - a:=by rw [Qal,List.length_drop,List.length_take]; omega
 refine⟨?_,fun i hi => ?_,fun t => ?_⟩
 . unfold Zb;simp only [List.length_append,hn,List.length_take,List.length_drop];omega
 . unfold Zb;rw [List.getElem?_append];simp only [List.length_take];rcases hi with hi|hi
   . rw [if_pos (by omega),List.getElem?_take,if_pos hi]
   . rw [if_neg (by omega),List.getElem?_append,hn,if_neg (by omega),List.getElem?_drop];congr 1;omega
 . unfold Zb;have h:=Qjn (key:=key) t ((l.take b).drop a)
   conv=>rhs; rw [Q0k (l:=l) hab]
   simp only [V1,List.filter_append] at h ⊢;rw [h]
theorem Q06 {l:List α} {a b:Nat} (hab:a<=b) (hb:b<=l.length):Srt key d a b (Zb key a b l):=by
 have hn:(Q15 key ((l.take b).drop a)).length=b - a:=by rw [Qal,List.length_drop,List.length_take]; omega
 intro i k hi hik hk;have hg:∀ j,a<=j->(hj:j<b)->(Zb key a b l).getD j d=(Q15 key ((l.take b).drop a))[j - a]'(by omega):=fun j h1 h2=>by
  unfold Zb;rw [List.getD_eq_getElem?_getD,List.getElem?_append,if_neg (by rw [List.length_take]; omega),List.getElem?_append,if_pos (by rw [List.length_take]; omega),List.length_take,show min a l.length=a by omega,List.getElem?_eq_getElem (by omega)];rfl
 rw [hg i hi (by omega),hg k (by omega) hk];exact List.pairwise_iff_getElem.1 (Qfn _) _ _ _ _ (by omega)
theorem Q6z {l m:List α} {a b:Nat} (hab:a<=b) (hb:b<=l.length) (h:Ren key a b l m) (s:Srt key d a b m):m=Zb key a b l :=
 Z2i hab hb h (V5 hab hb) s (Q06 hab hb)
theorem Qsi:∀ {l:List α} {y},y∈Q15 key l->y∈l
 | [],y,h=>h
 | x::l,y,h=>by
  rcases Qi1 x (show y∈Q2s key x (Q15 key l) from h) with g|g
  . rw [g]; exact List.mem_cons_self
  . exact List.mem_cons_of_mem _ (Qsi g)
theorem Qrw {l:List α} {a b x:Nat} (hab:a<=b) (hb:b<=l.length) (h1:a<=x) (h2:x<b):∃ i,a<=i/\i<b/\(Zb key a b l).getD x d=l.getD i d:=by
 have hn:(Q15 key ((l.take b).drop a)).length=b - a:=by rw [Qal,List.length_drop,List.length_take]; omega
 have hg:(Zb key a b l).getD x d=(Q15 key ((l.take b).drop a))[x - a]'(by omega):=by
  unfold Zb;rw [List.getD_eq_getElem?_getD,List.getElem?_append,if_neg (by rw [List.length_take]; omega),List.getElem?_append,if_pos (by rw [List.length_take]; omega),List.length_take,show min a l.length=a by omega,List.getElem?_eq_getElem (by omega)];rfl
 obtain⟨i,hi⟩:=List.mem_iff_getElem?.1 (Qsi (List.getElem_mem (show x - a<(Q15 key ((l.take b).drop a)).length by omega)));rw [List.getElem?_drop,List.getElem?_take] at hi;split at hi
 . exact⟨a+i,by omega,by omega,by rw [hg,List.getD_eq_getElem?_getD,hi]; rfl⟩
 . cases hi
/- two that lie side by side -/
theorem Qkz {l:List α} {j a b:Nat} (hj:j+1<l.length) (ha:a<=j) (hb:j+1<b) (h:key (l.getD (j+1) d)≠key (l.getD j d)):Ren key a b l (V2 d l j):=by
 refine⟨Ja d l j,fun i hi => ?_,fun t => ?_⟩
 . unfold V2;rw [List.getElem?_set_ne (by omega),List.getElem?_set_ne (by omega)]
 . have e1:l.getD j d=l[j]:=by rw [List.getD_eq_getElem?_getD,List.getElem?_eq_getElem (by omega),Option.getD_some]
   have e2:l.getD (j+1) d=l[j+1]:=by rw [List.getD_eq_getElem?_getD,List.getElem?_eq_getElem hj,Option.getD_some]
   have h1:l=l.take j++l[j]::l[j+1]::l.drop (j+2):=by
    rw [List.getElem_cons_drop,List.getElem_cons_drop,List.take_append_drop]
   have h2:V2 d l j=l.take j++l[j+1]::l[j]::l.drop (j+2):=by
    unfold V2;rw [e1,e2];apply List.ext_getElem?;intro i;rw [List.getElem?_set,List.getElem?_set,List.getElem?_append];simp only [List.length_set,List.length_take];grind
   rw [h2]
   conv=>rhs; rw [h1]
   rw [e1,e2] at h;simp only [V1,List.filter_append,List.filter_cons];congr 1;by_cases g1:key l[j]=t<;>by_cases g2:key l[j+1]=t<;>simp [g1,g2]
   omega
/- one goes up,one goes down -/
def Q91 (d : α) (l:List α) (a:Nat):Nat->List α
 | 0=>l
 | n+1=>V2 d (Q91 d l a n) (a+n)
theorem Qbc (l:List α) (a:Nat):∀ n,(Q91 d l a n).length=l.length
 | 0=>rfl
 | n+1=>by unfold Q91; rw [Ja,Qbc l a n]
theorem Q7r (l:List α) (a:Nat):∀ n,a+n<l.length->∀ i,(Q91 d l a n).getD i d=if a<=i/\i<a+n then l.getD (i+1) d else if i=a+n then l.getD a d else l.getD i d
 | 0,hn,i=>by
  unfold Q91;rw [if_neg (by omega)];split
  . rename_i h; rw [h]; rfl
  . rfl
 | n+1,hn,i=>by
  have ih:=Q7r l a n (by omega);unfold Q91;rw [Qha _ _ _ _ (by rw [Qbc]; omega),ih,ih,ih];grind
theorem Qtk {l:List α} {a b:Nat}:∀ n,a+n<l.length->a+n<b->(∀ i,a<i->i<=a+n->key (l.getD i d)<key (l.getD a d))->Ren key a b l (Q91 d l a n)
 | 0,_,_,_=>Ren.refl key a b l
 | n+1,hn,hb,h=>by
  refine (Qtk n (by omega) (by omega) fun i h1 h2=>h i h1 (by omega)).trans (Qkz (by rw [Qbc]; omega) (by omega) (by omega) ?_);rw [Q7r l a n (by omega),Q7r l a n (by omega),if_neg (by omega),if_neg (by omega),if_neg (by omega),if_pos rfl];have:=h (a+n+1) (by omega) (by omega);omega
theorem Z3x {l:List α} {a b i:Nat} (hb:b<=l.length) (hi:a+1<=i/\i<=b) (s:Srt key d (a+1) b l) (h1:∀ k,a+1<=k->k<i->key (l.getD k d)<key (l.getD a d)) (h2:∀ k,i<=k->k<b->key (l.getD a d)<=key (l.getD k d)):Q91 d l a (i - 1 - a)=Zb key a b l:=by
 refine Q6z (d:=d) (by omega) hb (Qtk _ (by omega) (by omega) fun k g1 g2=>h1 k (by omega) (by omega)) fun x y g1 g2 g3 => ?_;rw [Q7r l a _ (by omega),Q7r l a _ (by omega)];have e:a+(i - 1 - a)=i - 1:=by omega
 rw [e];by_cases c1:x<i - 1
 . rw [if_pos ⟨g1,c1⟩];by_cases c2:y<i - 1
   . rw [if_pos ⟨by omega,c2⟩];exact s _ _ (by omega) (by omega) (by omega)
   . rw [if_neg (by omega)];split
     . exact Int.le_of_lt (h1 _ (by omega) (by omega))
     . exact s _ _ (by omega) (by omega) (by omega)
 . rw [if_neg (show ¬ (a<=x/\x<i - 1) by omega),if_neg (show ¬ (a<=y/\y<i - 1) by omega),if_neg (show ¬ y=i - 1 by omega)];split
   . exact h2 _ (by omega) (by omega)
   . exact s _ _ (by omega) (by omega) (by omega)
def Q1b (d : α) (l:List α) (m:Nat):Nat->List α
 | 0=>l
 | n+1=>V2 d (Q1b d l m n) (m - n - 1)
theorem Qbj (l:List α) (m:Nat):∀ n,(Q1b d l m n).length=l.length
 | 0=>rfl
 | n+1=>by unfold Q1b; rw [Ja,Qbj l m n]
theorem Q2l (l:List α) (m:Nat) (hm:m<l.length):∀ n,n<=m->∀ i,(Q1b d l m n).getD i d=if m - n<i/\i<=m then l.getD (i - 1) d else if i=m - n then l.getD m d else l.getD i d
 | 0,hn,i=>by
  unfold Q1b;rw [if_neg (by omega)];split
  . rename_i h; rw [h]; rfl
  . rfl
 | n+1,hn,i=>by
  have ih:=Q2l l m hm n (by omega);unfold Q1b;rw [Qha _ _ _ _ (by rw [Qbj]; omega),ih,ih,ih];grind
theorem Qr7 {l:List α} {a b m:Nat} (hm:m<l.length) (hb:m<b):∀ n,a+n<=m->(∀ i,m - n<=i->i<m->key (l.getD m d)<key (l.getD i d))->Ren key a b l (Q1b d l m n)
 | 0,_,_=>Ren.refl key a b l
 | n+1,hn,h=>by
  refine (Qr7 hm hb n (by omega) fun i h1 h2=>h i (by omega) (by omega)).trans (Qkz (by rw [Qbj]; omega) (by omega) (by omega) ?_);rw [Q2l l m hm n (by omega),Q2l l m hm n (by omega),if_neg (by omega),if_pos (by omega),if_neg (by omega),if_neg (by omega)];have:=h (m - n - 1) (by omega) (by omega);omega
theorem Qhn {l:List α} {a m i:Nat} (hm:m<l.length) (hi:a<=i/\i<=m) (s:Srt key d a m l) (h1:∀ k,a<=k->k<i->key (l.getD k d)<=key (l.getD m d)) (h2:∀ k,i<=k->k<m->key (l.getD m d)<key (l.getD k d)):Q1b d l m (m - i)=Zb key a (m+1) l:=by
 refine Q6z (d:=d) (by omega) (by omega) (Qr7 hm (by omega) _ (by omega) fun k g1 g2=>h2 k (by omega) (by omega)) fun x y g1 g2 g3 => ?_;rw [Q2l l m hm _ (by omega),Q2l l m hm _ (by omega)];have e:m - (m - i)=i:=by omega
 rw [e];by_cases c1:x<i
 . rw [if_neg (by omega),if_neg (by omega)];by_cases c2:y<i
   . rw [if_neg (by omega),if_neg (by omega)];exact s _ _ (by omega) (by omega) (by omega)
   . by_cases c3:y=i
     . rw [if_neg (by omega),if_pos c3];exact h1 _ (by omega) (by omega)
     . rw [if_pos (by omega)];exact s _ _ (by omega) (by omega) (by omega)
 . rw [if_pos (show i<y/\y<=m by omega)];by_cases c2:x=i
   . rw [if_neg (by omega),if_pos c2];exact Int.le_of_lt (h2 _ (by omega) (by omega))
   . rw [if_pos (by omega)];exact s _ _ (by omega) (by omega) (by omega)
/- blocks -/
def swq (d : α) (l:List α) (i j:Nat):List α:=(l.set i (l.getD j d)).set j (l.getD i d)
def swR (d : α) (l:List α) (a b:Nat):Nat->List α
 | 0=>l
 | n+1=>swq d (swR d l a b n) (a+n) (b+n)
theorem Z5k (l:List α) (i j:Nat):(swq d l i j).length=l.length:=by unfold swq; simp
theorem Z5c (l:List α) {i j:Nat} (hi:i<l.length) (hj:j<l.length) (k:Nat):(swq d l i j)[k]? = if k=j then l[i]? else if k=i then l[j]? else l[k]? := by
 unfold swq;rw [List.getElem?_set,List.getElem?_set,List.length_set,List.getD_eq_getElem?_getD,List.getD_eq_getElem?_getD,List.getElem?_eq_getElem hi,List.getElem?_eq_getElem hj];by_cases h1:j=k
 . subst h1; simp [hj]
 . rw [if_neg h1,if_neg (show ¬ k=j from fun e=>h1 e.symm)];by_cases h2:i=k
   . subst h2; simp [hi]
   . rw [if_neg h2,if_neg (show ¬ k=i from fun e=>h2 e.symm)]
theorem Q31 (l:List α) (a b:Nat):∀ n,(swR d l a b n).length=l.length
 | 0=>rfl
 | n+1=>by unfold swR; rw [Z5k,Q31 l a b n]
theorem Q2v (l:List α) (a b:Nat):∀ n,a+n<=b->b+n<=l.length->∀ k,(swR d l a b n)[k]? = if a<=k/\k<a+n then l[b+(k - a)]? else if b<=k/\k<b+n then l[a+(k - b)]? else l[k]?
 | 0,h1,h2,k=>by unfold swR; rw [if_neg (by omega),if_neg (by omega)]
 | n+1,h1,h2,k=>by
  have ih:=Q2v l a b n (by omega) (by omega);unfold swR;rw [Z5c _ (by rw [Q31]; omega) (by rw [Q31]; omega),ih,ih,ih];grind
def Vl (a m b:Nat) (l:List α):List α:=l.take a++((l.take b).drop m++((l.take m).drop a++l.drop b))
theorem Qhl {a m b:Nat} {l:List α} (h1:a<=m) (h2:m<=b) (h3:b<=l.length):(Vl a m b l).length=l.length:=by
 unfold Vl;simp only [List.length_append,List.length_drop,List.length_take];omega
theorem Q05 {a m b:Nat} {l:List α} (h1:a<=m) (h2:m<=b) (h3:b<=l.length) (k:Nat):(Vl a m b l)[k]? = if a<=k/\k<a+(b - m) then l[m+(k - a)]? else if a+(b - m)<=k/\k<b then l[k - (b - m)]? else l[k]? := by
 unfold Vl;rw [List.getElem?_append];simp only [List.length_take,show min a l.length=a by omega];by_cases c1:k<a
 . rw [if_pos c1,if_neg (by omega),if_neg (by omega),List.getElem?_take,if_pos c1]
 . rw [if_neg c1,List.getElem?_append];simp only [List.length_drop,List.length_take,show min b l.length=b by omega];by_cases c2:k - a<b - m
   . rw [if_pos c2,if_pos (show a<=k/\k<a+(b - m) by omega),List.getElem?_drop,List.getElem?_take,if_pos (by omega)]
   . rw [if_neg c2,if_neg (show ¬ (a<=k/\k<a+(b - m)) by omega),List.getElem?_append];simp only [List.length_drop,List.length_take,show min m l.length=m by omega];by_cases c3:k - a - (b - m)<m - a
     . rw [if_pos c3,if_pos (by omega),List.getElem?_drop,List.getElem?_take,if_pos (by omega)];congr 1;omega
     . rw [if_neg c3,if_neg (by omega),List.getElem?_drop];congr 1;omega
theorem Z27 {l:List α} {a m b j:Nat} (h1:a<m) (h3:b<=l.length) (hj:b=m+j) (hlt:j<m - a):Vl (a+j) m b (swR d l a m j)=Vl a m b l:=by
 apply List.ext_getElem?;intro k;rw [Q05 (by omega) (by omega) (by rw [Q31]; omega),Q05 (by omega) (by omega) h3,Q2v l a m j (by omega) (by omega),Q2v l a m j (by omega) (by omega),Q2v l a m j (by omega) (by omega)];grind
theorem Z2h {l:List α} {a m b i:Nat} (h3:b<=l.length) (hm:m=a+i) (hlt:i<b - m):Vl a m (b - i) (swR d l a (b - i) i)=Vl a m b l:=by
 apply List.ext_getElem?;intro k;rw [Q05 (by omega) (by omega) (by rw [Q31]; omega),Q05 (by omega) (by omega) h3,Q2v l a _ i (by omega) (by omega),Q2v l a _ i (by omega) (by omega),Q2v l a _ i (by omega) (by omega)]
 repeat' split
 all_goals first|(exfalso; omega)|(congr 1; omega)|rfl
theorem Z3g {l:List α} {a m b:Nat} (h1:a<=m) (h3:b<=l.length) (he:m - a=b - m) (h2:m<=b):swR d l a m (m - a)=Vl a m b l:=by
 apply List.ext_getElem?;intro k;rw [Q05 (by omega) (by omega) h3,Q2v l a m _ (by omega) (by omega)];grind
theorem Z2d {l:List α} {a m b A B:Nat} (h1:a<=m) (h2:m<=b) (h3:b<=l.length) (hA:A<=a) (hB:b<=B) (h:∀ i k,a<=i->i<m->m<=k->k<b->key (l.getD k d)<key (l.getD i d)):Ren key A B l (Vl a m b l):=by
 refine⟨Qhl h1 h2 h3,fun i hi=>by rw [Q05 h1 h2 h3,if_neg (by omega),if_neg (by omega)],fun t => ?_⟩;have e:l=l.take a++((l.take m).drop a++((l.take b).drop m++l.drop b)):=by
  conv=>lhs; rw [Q0k (l:=l) (a:=a) (b:=b) (by omega)]
  congr 1;rw [<- List.append_assoc];congr 1
  conv=>lhs; rw [<- List.take_append_drop (m - a) ((l.take b).drop a)]
  rw [List.drop_drop,show a+(m - a)=m by omega,<- List.drop_take,List.take_take,show min m b=m by omega]
 conv=>rhs; rw [e]
 unfold Vl;simp only [V1,List.filter_append];congr 1;rw [<- List.append_assoc,<- List.append_assoc];congr 1;have hx:∀ x∈(l.take m).drop a,∃ i,a<=i/\i<m/\l.getD i d=x:=fun x hx=>by
  obtain⟨i,hi⟩:=List.mem_iff_getElem?.1 hx;rw [List.getElem?_drop,List.getElem?_take] at hi;split at hi
  . exact⟨a+i,by omega,by omega,by rw [List.getD_eq_getElem?_getD,hi]; rfl⟩
  . cases hi
 have hy:∀ y∈(l.take b).drop m,∃ k,m<=k/\k<b/\l.getD k d=y:=fun x hx=>by
  obtain⟨i,hi⟩:=List.mem_iff_getElem?.1 hx;rw [List.getElem?_drop,List.getElem?_take] at hi;split at hi
  . exact⟨m+i,by omega,by omega,by rw [List.getD_eq_getElem?_getD,hi]; rfl⟩
  . cases hi
 by_cases g:∃ x∈(l.take m).drop a,key x=t
 . obtain⟨x,hxm,hxt⟩:=g;obtain⟨i,i1,i2,i3⟩:=hx x hxm;have:((l.take b).drop m).filter (fun x=>decide (key x=t)) = []:=by
    rw [List.filter_eq_nil_iff];intro y hym;obtain⟨k,k1,k2,k3⟩:=hy y hym;have:=h i k i1 i2 k1 k2;rw [i3,k3] at this;simp only [decide_eq_true_eq];omega
   rw [this,List.nil_append,List.append_nil]
 . have:((l.take m).drop a).filter (fun x=>decide (key x=t)) = []:=by
    rw [List.filter_eq_nil_iff];intro y hym hyt;exact g ⟨y,hym,of_decide_eq_true hyt⟩
   rw [this,List.nil_append,List.append_nil]
theorem Quj {l l1 l2 l3:List α} {a m b s e c:Nat} (hb:b<=l.length) (h:a<=s/\s<=m/\m<=e/\e<=b) (hc:c=s+(e - m)) (sa:Srt key d a m l) (sb:Srt key d m b l)
 (hlo:s=a\/e=b\/key (l.getD (s - 1) d)<=key (l.getD e d)) (hhi:s=m\/e=m\/key (l.getD (e - 1) d)<key (l.getD s d))
 (h1:l1=Vl s m e l) (h2:l2=Zb key a c l1) (h3:l3=Zb key c b l2):l3=Zb key a b l:=by
 have hrot:∀ i k,s<=i->i<m->m<=k->k<e->key (l.getD k d)<key (l.getD i d):=fun i k i1 i2 k1 k2=>by
  have q:key (l.getD (e - 1) d)<key (l.getD s d):=by rcases hhi with g|g|g<;>first|exact g|omega
  have q1:=sb.le k1 (show k<=e - 1 by omega) (by omega);have q2:=sa.le (show a<=s by omega) i1 i2;omega
 have r1:Ren key a b l l1:=by rw [h1]; exact Z2d (by omega) (by omega) (by omega) (by omega) (by omega) hrot
 have n1:=r1.len;have r2:Ren key a c l1 l2:=by rw [h2]; exact V5 (by omega) (by omega)
 have n2:=r2.len;have r3:Ren key c b l2 l3:=by rw [h3]; exact V5 (by omega) (by omega)
 refine Q6z (d:=d) (by omega) hb ((r1.trans (r2.wide (by omega) (by omega))).trans (r3.wide (by omega) (by omega))) fun x y g1 g2 g3 => ?_;have s2:Srt key d a c l2:=by rw [h2]; exact Q06 (by omega) (by omega)
 have s3:Srt key d c b l3:=by rw [h3]; exact Q06 (by omega) (by omega)
 by_cases c1:c<=x
 . exact s3 x y c1 g2 g3
 by_cases c2:y<c
 . rw [r3.get (.inl (by omega)),r3.get (.inl (by omega))];exact s2 x y g1 g2 c2
 obtain⟨i,i1,i2,i3⟩:=Qrw (key:=key) (d:=d) (l:=l1) (a:=a) (b:=c) (by omega) (by omega) g1 (show x<c by omega);obtain⟨k,k1,k2,k3⟩:=Qrw (key:=key) (d:=d) (l:=l2) (a:=c) (b:=b) (by omega) (by omega) (show c<=y by omega) g3;rw [r3.get (.inl (by omega)),h2,i3,h3,k3,r2.get (.inr (by omega)),h1];have hr:∀ q,(Vl s m e l).getD q d=if s<=q/\q<s+(e - m) then l.getD (m+(q - s)) d else if s+(e - m)<=q/\q<e then l.getD (q - (e - m)) d else l.getD q d:=fun q=>by
  rw [List.getD_eq_getElem?_getD,Q05 (by omega) (by omega) (by omega)];split
  . rw [List.getD_eq_getElem?_getD]
  . split<;>rw [List.getD_eq_getElem?_getD]
 rw [hr,hr];by_cases q1:i<s
 . rw [if_neg (by omega),if_neg (by omega),if_neg (by omega)];by_cases q2:k<e
   . rw [if_pos (by omega)];exact sa _ _ (by omega) (by omega) (by omega)
   . rw [if_neg (by omega)];have p1:key (l.getD (s - 1) d)<=key (l.getD e d):=by rcases hlo with g|g|g<;>first|exact g|omega
     have p2:=sa.le (show a<=i by omega) (show i<=s - 1 by omega) (by omega);have p3:=sb.le (show m<=e by omega) (show e<=k by omega) k2;omega
 . rw [if_pos (by omega),if_neg (by omega)];by_cases q2:k<e
   . rw [if_pos (by omega)];exact Int.le_of_lt (hrot _ _ (by omega) (by omega) (by omega) (by omega))
   . rw [if_neg (by omega)];exact sb _ _ (by omega) (by omega) (by omega)
theorem Qn2 {l:List α} {s m e:Nat} (h1:s<=m) (h2:m<=e) (h3:e<=l.length) (h:s=m\/m=e):Vl s m e l=l:=by
 apply List.ext_getElem?;intro k;rw [Q05 h1 h2 h3];grind
theorem Q9h {l:List α} {a b:Nat} (hab:a<=b) (hb:b<=l.length) (h:Srt key d a b l):Zb key a b l=l:=(Q6z hab hb (Ren.refl key a b l) h).symm
theorem Z6s {l:List α} {a m b s e:Nat} (hb:b<=l.length) (h:a<=s/\s<=m/\m<=e/\e<=b) (sa:Srt key d a m l) (sb:Srt key d m b l) :
 (Srt key d a s (Vl s m e l)/\Srt key d s (s+(e - m)) (Vl s m e l))/\Srt key d (s+(e - m)) e (Vl s m e l)/\Srt key d e b (Vl s m e l):=by
 have hr:∀ q,(Vl s m e l).getD q d=if s<=q/\q<s+(e - m) then l.getD (m+(q - s)) d else if s+(e - m)<=q/\q<e then l.getD (q - (e - m)) d else l.getD q d:=fun q=>by
  rw [List.getD_eq_getElem?_getD,Q05 (by omega) (by omega) (by omega)];split
  . rw [List.getD_eq_getElem?_getD]
  . split<;>rw [List.getD_eq_getElem?_getD]
 refine⟨⟨fun i k h1 h2 h3 => ?_,fun i k h1 h2 h3 => ?_⟩,fun i k h1 h2 h3 => ?_,fun i k h1 h2 h3 => ?_⟩<;>rw [hr,hr]
 . rw [if_neg (by omega),if_neg (by omega),if_neg (by omega),if_neg (by omega)];exact sa _ _ (by omega) (by omega) (by omega)
 . rw [if_pos (by omega),if_pos (by omega)];exact sb _ _ (by omega) (by omega) (by omega)
 . rw [if_neg (by omega),if_pos (by omega),if_neg (by omega),if_pos (by omega)];exact sa _ _ (by omega) (by omega) (by omega)
 . rw [if_neg (by omega),if_neg (by omega),if_neg (by omega),if_neg (by omega)];exact sb _ _ (by omega) (by omega) (by omega)
theorem Srt.out {l n:List α} {a b a' b':Nat} (h:Srt key d a b l) (hr:Ren key a' b' l n) (hd:b<=a'\/b'<=a):Srt key d a b n:=fun i k h1 h2 h3=>by
 rw [hr.get (by omega),hr.get (by omega)];exact h i k h1 h2 h3
def Qr2 (key : α->Int) (d : α) (b e mid N:Nat) (Y G:List α):Prop :=
 ((mid:Int)<(e:Int)->((e:Int)<(b:Int)->((0<=(mid:Int)/\(mid:Int)<(e:Int)/\(e:Int)<(b:Int))/\((b:Int)<=(Y.length:Int)/\(b:Int) - (mid:Int)<=(N:Int))/\Y.length<=1000000/\Srt key d mid e Y/\Srt key d e b Y)/\Zb key mid b Y=G)/\(¬ (e:Int)<(b:Int)->Y=G))/\(¬ (mid:Int)<(e:Int)->Y=G)
def Z2b (key : α->Int) (d : α) (a b s e mid N:Nat) (X G:List α):Prop :=
 ((a:Int)<(s:Int)->((s:Int)<(mid:Int)->((0<=(a:Int)/\(a:Int)<(s:Int)/\(s:Int)<(mid:Int))/\((mid:Int)<=(X.length:Int)/\(mid:Int) - (a:Int)<=(N:Int))/\X.length<=1000000/\Srt key d a s X/\Srt key d s mid X)/\Qr2 key d b e mid N (Zb key a mid X) G)/\(¬ (s:Int)<(mid:Int)->Qr2 key d b e mid N X G))/\(¬ (a:Int)<(s:Int)->Qr2 key d b e mid N X G)
theorem Z4s {b e mid N:Nat} {Y G:List α} (hb:b<=Y.length) (hY:Y.length<=1000000) (hN:b<=mid+N) (he:mid<=e/\e<=b) (h3:Srt key d mid e Y) (h4:Srt key d e b Y) (hG:Zb key mid b Y=G):Qr2 key d b e mid N Y G:=by
 have hid:e=b\/mid=e->Y=G:=fun h=>by
  rw [<- hG];refine (Q9h (d:=d) (by omega) hb ?_).symm;rcases h with h|h
  . rw [<- h]; exact h3
  . rw [h]; exact h4
 exact⟨fun g1=>⟨fun g2=>⟨⟨⟨by omega,g1,g2⟩,⟨by omega,by omega⟩,hY,h3,h4⟩,hG⟩,fun g2=>hid (.inl (by omega))⟩,fun g1=>hid (.inr (by omega))⟩
theorem Z50 {l:List α} {a m b s e mid N:Nat} (hb:b<=l.length) (hl:l.length<=1000000) (hN:b<=mid+N/\mid<=a+N) (h:a<=s/\s<=m/\m<=e/\e<=b) (hc:mid=s+(e - m)) (hab:a<=mid) (sa:Srt key d a m l) (sb:Srt key d m b l)
 (hlo:s=a\/e=b\/key (l.getD (s - 1) d)<=key (l.getD e d)) (hhi:s=m\/e=m\/key (l.getD (e - 1) d)<key (l.getD s d)):Z2b key d a b s e mid N (Vl s m e l) (Zb key a b l):=by
 have hW:=Quj (key:=key) (d:=d) hb h hc sa sb hlo hhi rfl rfl rfl;obtain⟨⟨p1,p2⟩,p3,p4⟩:=Z6s (key:=key) (d:=d) hb h sa sb;rw [<- hc] at p2 p3;have n1:(Vl s m e l).length=l.length:=Qhl (by omega) (by omega) (by omega);generalize Vl s m e l=X at *
 have r2:Ren key a mid X (Zb key a mid X):=V5 hab (by omega);have hid:s=a\/s=mid->Zb key a mid X=X:=fun g=>Q9h (d:=d) hab (by omega) (by
  rcases g with g|g
  . rw [<- g]; exact p2
  . rw [<- g]; exact p1)
 have hY:s=a\/s=mid->Qr2 key d b e mid N X (Zb key a b l):=fun g=>Z4s (by omega) (by omega) hN.1 (by omega) p3 p4 (by rw [<- hW,hid g]);exact⟨fun g1=>⟨fun g2=>⟨⟨⟨by omega,g1,g2⟩,⟨by omega,by omega⟩,by omega,p1,p2⟩,Z4s (by rw [r2.len]; omega) (by rw [r2.len]; omega) hN.1 (by omega) (p3.out r2 (.inr (Nat.le_refl _))) (p4.out r2 (.inr (by omega))) hW⟩,fun g2=>hY (.inr (by omega))⟩,fun g1=>hY (.inl (by omega))⟩
theorem Qze {l:List α} {a c b:Nat} (h1:a<=c) (h2:c<=b) (hb:b<=l.length) (d : α):Zb key a b (Zb key a c l)=Zb key a b l:=by
 have r1:Ren key a c l (Zb key a c l):=V5 h1 (by omega);exact Q6z (d:=d) (by omega) hb ((r1.wide (Nat.le_refl _) h2).trans (V5 (by omega) (by rw [r1.len]; exact hb))) (Q06 (by omega) (by rw [r1.len]; exact hb))
theorem Qku {lt : α -> α->Bool} (hlt:∀ x y,lt x y=decide (key x<key y)) {l:List α} {a m:Nat} (ham:a<=m) (hm:m<l.length) (s:Srt key d a m l):∀ r n,m - n=a+r->n<=m->(∀ k,m - n<=k->k<m->key (l.getD m d)<key (l.getD k d))->Ys lt d a (m - n) (Q1b d l m n)=Zb key a (m+1) l
 | 0,n,hr,hn,h=>by
  have hend:=Qhn (key:=key) (d:=d) (a:=a) (i:=a) hm ⟨Nat.le_refl _,ham⟩ s (fun k k1 k2=>absurd k2 (by omega)) (fun k k1 k2=>h k (by omega) k2);rw [show m - a=n by omega] at hend;rw [<- hend]
  cases hj:m - n with
  | zero=>rfl
  | succ j =>
   unfold Ys;rw [decide_eq_false (by omega),Bool.false_and,cond_false]
 | r+1,n,hr,hn,h=>by
  obtain⟨j,hj⟩:∃ j,m - n=j+1:=⟨m - n - 1,by omega⟩
  have e1:(Q1b d l m n).getD (j+1) d=l.getD m d:=by rw [Q2l l m hm n hn,if_neg (by omega),if_pos (by omega)]
  have e2:(Q1b d l m n).getD j d=l.getD j d:=by rw [Q2l l m hm n hn,if_neg (by omega),if_neg (by omega)]
  rw [hj];unfold Ys;rw [e1,e2,hlt,decide_eq_true (show a<j+1 by omega),Bool.true_and];by_cases hk:key (l.getD m d)<key (l.getD j d)
  . rw [decide_eq_true hk,cond_true];have ih:=Qku hlt ham hm s r (n+1) (by omega) (by omega) fun k k1 k2=>by
     by_cases e:k=j
     . rw [e]; exact hk
     . exact h k (by omega) k2
    rw [show m - (n+1)=j by omega] at ih;rw [<- ih];show Ys lt d a j (V2 d (Q1b d l m n) j)=Ys lt d a j (V2 d (Q1b d l m n) (m - n - 1))
    rw [show m - n - 1=j by omega]
  . rw [decide_eq_false hk,cond_false];have hend:=Qhn (key:=key) (d:=d) (a:=a) (i:=m - n) hm ⟨by omega,by omega⟩ s (fun k k1 k2=>by
     have:=s.le k1 (show k<=j by omega) (by omega)
     omega) h
    rw [show m - (m - n)=n by omega] at hend;exact hend
theorem Qgn {lt : α -> α->Bool} (hlt:∀ x y,lt x y=decide (key x<key y)) {l:List α} {a:Nat}:∀ n,a+1+n<=l.length->Vh lt d a l n=Zb key a (a+1+n) l
 | 0,h=>(Q9h (d:=d) (by omega) h fun i k h1 h2 h3=>by omega).symm
 | n+1,h=>by
  have ih:Vh lt d a l n=Zb key a (a+1+n) l:=Qgn hlt n (by omega);have r1:Ren key a (a+1+n) l (Zb key a (a+1+n) l):=V5 (by omega) (by omega);unfold Vh;rw [ih];have:=Qku (key:=key) (d:=d) hlt (l:=Zb key a (a+1+n) l) (a:=a) (m:=a+1+n) (by omega) (by rw [r1.len]; omega) (Q06 (l:=l) (a:=a) (b:=a+1+n) (by omega) (by omega)) (n+1) 0 (by omega) (by omega) (fun k h1 h2=>by omega);rw [show a+1+n - 0=a+1+n by omega] at this;rw [show Q1b d (Zb key a (a+1+n) l) (a+1+n) 0=Zb key a (a+1+n) l from rfl] at this;rw [this];exact Qze (l:=l) (a:=a) (c:=a+1+n) (b:=a+1+n+1) (by omega) (by omega) (by omega) d
theorem Q94 {lt : α -> α->Bool} (hlt:∀ x y,lt x y=decide (key x<key y)) {l:List α} {a b:Nat} (hab:a<=b) (hb:b<=l.length):Q46 lt d a b l=Zb key a b l:=by
 unfold Q46;by_cases h:b<=a+1
 . rw [show b - (a+1)=0 by omega];exact (Q9h (d:=d) hab hb fun i k h1 h2 h3=>by omega).symm
 . rw [Qgn (l:=l) (a:=a) hlt (b - (a+1)) (by omega),show a+1+(b - (a+1))=b by omega]
end
def Qm1:Fon:=⟨275,[.ownr .stowed,.int .i64,.int .i64,.int .i64,.fn []],1,fun avs es=>match avs,es with
 | [.own 0,.int .i64 a,.int .i64 b,.int .i64 n,.fn f []],[(0,.row false .stowed T l)]=>some ⟨fun _=>(0<=a ()/\0<=n ()/\0<=b ())/\a ()+n ()<=((l ()).length:Int)/\b ()+n ()<=((l ()).length:Int)/\(l ()).length<=1000000,.tup [],[(0,.row false .stowed T fun _=>swR Tc.stowed.dflt (l ()) (a ()).toNat (b ()).toNat (n ()).toNat)]⟩
 | _,_=>none,true⟩
def Z88 (T:Nat) (l:List Q0) (a b n:Nat):Lp where
 X:=Nat
 ov k := [(10,.int .i64 fun _=>(k:Int)),(0,.own 0)]
 oe k := [(0,.row false .stowed T fun _=>swR Tc.stowed.dflt l a b k)]
 I k:=k<=n
 μ k _:=n - k
 x0:=0
 nx:=some fun k=>k+1
theorem Qyz:Vx Tryz.prog Qm1:=by
 refine Qez [] trivial [] trivial Tryz.func275 (by kernel_rfl) fun avs es res h hp => ?_;simp only [Qm1] at h;split at h
 case h_2=>cases h
 rename_i a b n f T l;cases h;obtain⟨l,rfl⟩:=eta (α:=List Q0) l;obtain⟨a,rfl⟩:=eta (α:=Int) a;obtain⟨b,rfl⟩:=eta (α:=Int) b;obtain⟨n,rfl⟩:=eta (α:=Int) n;obtain⟨⟨h1,h2,h3⟩,h4,h5,h6⟩:(0<=a/\0<=n/\0<=b)/\a+n<=(l.length:Int)/\b+n<=(l.length:Int)/\l.length<=1000000:=hp;obtain⟨a,rfl⟩:=Int.eq_ofNat_of_zero_le h1;obtain⟨b,rfl⟩:=Int.eq_ofNat_of_zero_le h3;obtain⟨n,rfl⟩:=Int.eq_ofNat_of_zero_le h2;refine⟨[(1,Z88 T l a b n)],?_⟩
 conv=>arg 1; cbv
 refine⟨?_,fun (k:Nat) hk => ?_⟩
 . simp (maxSteps:=4000000) only [fms];exact⟨Nat.zero_le _,rfl,rfl⟩
 have hk':k<=n:=hk
 conv=>arg 1; cbv
 refine Qc (swR Tc.stowed.dflt l a b k) fun L hL => ?_;have hlen:L.length=l.length:=by rw [<- hL,Q31]
 simp (maxSteps:=4000000) only [fms];simp only [hL];refine⟨fun g => ?_,fun g => ?_⟩
 . refine⟨by simp only [Q1]; omega,by simp only [Q1]; omega,by simp only [Q1]; omega,⟨by omega,by omega⟩,by simp only [Q1]; omega,⟨by omega,by omega⟩,⟨by omega,by omega⟩,⟨by omega,by rw [List.length_set]; omega⟩,by simp only [Q1]; omega,⟨by omega,by omega⟩,by omega,?_⟩;rw [show ((a:Int)+(k:Int)).toNat=a+k by omega,show ((b:Int)+(k:Int)).toNat=b+k by omega,<- hL];rfl
 . rw [<- hL,show k=n by omega]
def Qrn:Fon:=⟨271,[.ownr .stowed,.int .i64,.int .i64,.int .i64,.fn []],1,fun avs es=>match avs,es with
 | [.own 0,.int .i64 a,.int .i64 m,.int .i64 b,.fn f []],[(0,.row false .stowed T l)]=>some ⟨fun _=>(0<=a ()/\a ()<m ()/\m ()<b ())/\b ()<=((l ()).length:Int)/\(l ()).length<=1000000,.tup [],[(0,.row false .stowed T fun _=>Vl (a ()).toNat (m ()).toNat (b ()).toNat (l ()))]⟩
 | _,_=>none,true⟩
def Z8x (T:Nat) (l R:List Q0) (m i j:Nat):Lp where
 X:=Nat×Nat×List Q0
 ov p := [(10,.int .i64 fun _=>(p.1:Int)),(11,.int .i64 fun _=>(p.2.1:Int)),(0,.own 0)]
 oe p := [(0,.row false .stowed T fun _=>p.2.2)]
 I p:=(1<=p.1/\p.1<=i)/\(1<=p.2.1/\p.2.1<=j)/\p.2.2.length=R.length/\Vl (m - p.1) m (m+p.2.1) p.2.2=R
 μ p _:=p.1+p.2.1
 x0:=(i,j,l)
 nx:=none
theorem Z0s:Vx Tryz.prog Qrn:=by
 refine Qez [] trivial [Qm1] ⟨Qyz,trivial⟩ Tryz.func271 (by kernel_rfl) fun avs es res h hp => ?_;simp only [Qrn] at h;split at h
 case h_2=>cases h
 rename_i a m b f T l;cases h;obtain⟨l,rfl⟩:=eta (α:=List Q0) l;obtain⟨a,rfl⟩:=eta (α:=Int) a;obtain⟨b,rfl⟩:=eta (α:=Int) b;obtain⟨m,rfl⟩:=eta (α:=Int) m;obtain⟨⟨h1,h2,h3⟩,h4,h5⟩:(0<=a/\a<m/\m<b)/\b<=(l.length:Int)/\l.length<=1000000:=hp;obtain⟨a,rfl⟩:=Int.eq_ofNat_of_zero_le h1;obtain⟨b,rfl⟩:=Int.eq_ofNat_of_zero_le (show 0<=b by omega);obtain⟨m,rfl⟩:=Int.eq_ofNat_of_zero_le (show 0<=m by omega);refine Qc (Vl a m b l) fun R hR => ?_;have hlR:R.length=l.length:=by rw [<- hR]; exact Qhl (by omega) (by omega) (by omega)
 refine Qc (m - a) fun i0 hi0 => ?_;refine Qc (b - m) fun j0 hj0 => ?_;refine⟨[(2,Z8x T l R m i0 j0)],?_⟩
 conv=>arg 1; cbv
 simp only [Q62,Q42,V0,Q9p,Z8];refine⟨by simp only [Q1]; omega,by simp only [Q1]; omega,?_,fun (p:Nat×Nat×List Q0) hp => ?_⟩
 . simp (maxSteps:=4000000) only [fms];refine⟨⟨⟨by omega,by omega⟩,⟨by omega,by omega⟩,by omega,?_⟩,by omega,by omega,trivial⟩;rw [show m - i0=a by omega,show m+j0=b by omega];exact hR
 obtain⟨p1,p2,L⟩:=p;have hp':(1<=p1/\p1<=i0)/\(1<=p2/\p2<=j0)/\L.length=R.length/\Vl (m - p1) m (m+p2) L=R:=hp;have q1:=hp'.1;have q2:=hp'.2.1;have q3:=hp'.2.2.1;have q4:=hp'.2.2.2;clear hp hp'
 conv=>arg 1; cbv
 simp (maxSteps:=4000000) only [fms];refine⟨fun g=>⟨fun g2 => ?_,fun g2 => ?_⟩,fun g => ?_⟩
 . have g1:p2<p1:=by omega
   refine Qc (p1 - p2) fun i hi => ?_;refine Qc (swR Tc.stowed.dflt L (m - p1) m p2) fun L2 hL2 => ?_;have hL3:L2.length=R.length:=by rw [<- hL2,Q31]; exact q3
   have hI:(1<=i/\i<=i0)/\(1<=p2/\p2<=j0)/\L2.length=R.length/\Vl (m - i) m (m+p2) L2=R:=by
    refine⟨⟨by omega,by omega⟩,q2,hL3,?_⟩;rw [<- q4,<- hL2,<- hi,show m - (p1 - p2)=m - p1+p2 by omega];exact Z27 (by omega) (by omega) rfl (by omega)
   refine⟨by simp only [Q1]; omega,⟨⟨by omega,by omega,by omega⟩,by omega,by omega,by omega⟩,by simp only [Q1]; omega,⟨(i,p2,L2),⟨hI,by show i+p2<p1+p2; omega⟩,?_⟩⟩
   conv=>arg 1; cbv
   simp (maxSteps:=4000000) only [fms];refine⟨by omega,trivial,?_⟩;rw [show ((m:Int) - (p1:Int)).toNat=m - p1 by omega,hL2]
 . have g1:p1<p2:=by
    simp only [Bool.not_eq_true',decide_eq_false_iff_not] at g;omega
   refine Qc (p2 - p1) fun j hj => ?_;refine Qc (swR Tc.stowed.dflt L (m - p1) (m+p2 - p1) p1) fun L2 hL2 => ?_;have hL3:L2.length=R.length:=by rw [<- hL2,Q31]; exact q3
   have hI:(1<=p1/\p1<=i0)/\(1<=j/\j<=j0)/\L2.length=R.length/\Vl (m - p1) m (m+j) L2=R:=by
    refine⟨q1,⟨by omega,by omega⟩,hL3,?_⟩;rw [<- q4,<- hL2,<- hj,show m+(p2 - p1)=m+p2 - p1 by omega];exact Z2h (by omega) (by omega) (by omega)
   refine⟨by simp only [Q1]; omega,by simp only [Q1]; omega,by simp only [Q1]; omega,⟨⟨by omega,by omega,by omega⟩,by omega,by omega,by omega⟩,by simp only [Q1]; omega,⟨(p1,j,L2),⟨hI,by show p1+j<p1+p2; omega⟩,?_⟩⟩
   conv=>arg 1; cbv
   simp (maxSteps:=4000000) only [fms];refine⟨trivial,by omega,?_⟩;rw [show ((m:Int) - (p1:Int)).toNat=m - p1 by omega,show ((m:Int)+(p2:Int) - (p1:Int)).toNat=m+p2 - p1 by omega,hL2]
 . have g1:p1=p2:=by
    simp only [Bool.not_eq_false',decide_eq_true_eq] at g;omega
   refine⟨by simp only [Q1]; omega,⟨⟨by omega,by omega,by omega⟩,by omega,by omega,by omega⟩,?_⟩;rw [show ((m:Int) - (p1:Int)).toNat=m - p1 by omega,hR,<- q4];have:=Z3g (d:=Tc.stowed.dflt) (l:=L) (a:=m - p1) (m:=m) (b:=m+p2) (by omega) (by omega) (by omega) (by omega);rw [<- this,show m - (m - p1)=p1 by omega]
theorem Qf4 (a b:Int):Qi4 a b<0↔a<b:=by
 unfold Qi4;by_cases h:a<b
 . simp [h]
 . by_cases h2:b<a<;>simp [h,h2]
def Qd0 (N:Nat):Fon:=⟨252,[.ownr .stowed,.int .i64,.int .i64,.int .i64,.fn []],1,fun avs es=>match avs,es with
 | [.own 0,.int .i64 a,.int .i64 m,.int .i64 b,.fn f []],[(0,.row false .stowed T l)]=>if f=136 then some ⟨fun _=>(0<=a ()/\a ()<m ()/\m ()<b ())/\(b ()<=((l ()).length:Int)/\b () - a ()<=(N:Int))/\(l ()).length<=1000000/\Srt Q0.tier Tc.stowed.dflt (a ()).toNat (m ()).toNat (l ())/\Srt Q0.tier Tc.stowed.dflt (m ()).toNat (b ()).toNat (l ()),.tup [],[(0,.row false .stowed T fun _=>Zb Q0.tier (a ()).toNat (b ()).toNat (l ()))]⟩ else none
 | _,_=>none,true⟩
theorem Qa8 {i j:Nat} (h:i+j<=4000000):shF BinOp.shr IntKind.u64 (IntKind.u64.wrap ((i:Int)+(j:Int))) 1=(((i+j) / 2:Nat):Int):=by
 have e1:IntKind.u64.wrap ((i:Int)+(j:Int))=((i:Int)+(j:Int)) % 18446744073709551616:=rfl;have e2:shF BinOp.shr IntKind.u64 (((i:Int)+(j:Int)) % 18446744073709551616) 1=(((i:Int)+(j:Int)) % 18446744073709551616).fdiv (2^(min 1 64)):=rfl;rw [e1,e2,Int.fdiv_eq_ediv_of_nonneg _ (by decide)];simp only [show min 1 64=1 from rfl,Int.pow_one];omega
def Qjg (s r:Nat) (lo hi:Nat) (P:Nat->Nat->Prop):Lp where
 X:=Nat×Nat
 ov p := [(s,.int .i64 fun _=>(p.1:Int)),(r,.int .i64 fun _=>(p.2:Int))]
 oe p := []
 I p:=(lo<=p.1/\p.1<=p.2/\p.2<=hi)/\P p.1 p.2
 μ p _:=p.2 - p.1
 x0:=(lo,hi)
 nx:=none
def Z9d (T:Nat) (l:List Q0) (a n:Nat):Lp where
 X:=Nat
 ov k := [(13,.int .i64 fun _=>((a+k:Nat):Int)),(0,.own 0)]
 oe k := [(0,.row false .stowed T fun _=>Q91 Tc.stowed.dflt l a k)]
 I k:=k<=n
 μ k _:=n - k
 x0:=0
 nx:=some fun k=>k+1
def Z8z (T:Nat) (l:List Q0) (m n:Nat):Lp where
 X:=Nat
 ov k := [(17,.int .i64 fun _=>((m - k:Nat):Int)),(0,.own 0)]
 oe k := [(0,.row false .stowed T fun _=>Q1b Tc.stowed.dflt l m k)]
 I k:=k<=n
 μ k _:=n - k
 x0:=0
 nx:=some fun k=>k+1
theorem Qok:∀ N,Vx Tryz.prog (Qd0 N)
 | 0=>by
  refine Qez [] trivial [] trivial Tryz.func252 (by kernel_rfl) fun avs es res h hp => ?_;exfalso;simp only [Qd0] at h;split at h
  case h_2=>cases h
  split at h
  case isFalse=>cases h
  cases h;obtain⟨⟨h1,h2,h3⟩,h4,_⟩:=hp;omega
 | N+1=>by
  have ih:=Qok N;refine Qq5 { kp := [(0,[0,1,2,3,4]),(1,[0,1,2,3,4]),(2,[0,1,3,4,10]),(3,[0,1,4,10,11]),(4,[0,1,4,10,11]),(5,[0,1,4,10,11,12]),(6,[0,1,4,11,12]),(7,[0,1,4,10,12]),(8,[0,1,10]),(9,[0,10,13]),(10,[0,10,13]),(11,[0,10,13]),(12,[0,1,2,3,4]),(13,[0,1,2,4]),(14,[0,2,4,14]),(15,[0,2,4,14,15]),(16,[0,2,4,14,15]),(17,[0,2,4,14,15,16]),(18,[0,2,4,15,16]),(19,[0,2,4,14,16]),(20,[0,2,14]),(21,[0,14,17]),(22,[0,14,17]),(23,[0,14,17]),(24,[0,1,2,3,4]),(25,[0,1,2,3,4,18]),(26,[0,1,2,3,4,18,19]),(27,[0,1,2,3,4,18,19]),(28,[0,1,2,3,4,18,19]),(29,[0,1,2,3,4,18,19,20]),(30,[0,1,2,3,4,18,19]),(31,[0,1,2,3,4,18,19,20]),(32,[0,1,2,3,4,18,19,20,21]),(33,[0,1,2,3,4,18,19,20,21,22]),(34,[0,1,2,3,4,18,19,20,21,22]),(35,[0,1,2,3,4,18,19,20,21,22,23]),(36,[0,1,2,3,4,18,19,21,22,23]),(37,[0,1,2,3,4,18,19,20,22,23]),(38,[0,1,2,3,4,18,19,20]),(39,[0,1,2,3,4,18,20,24]),(40,[0,1,2,3,4,18,20,24]),(41,[0,1,3,4,18,20,24]),(42,[0,1,3,4,18,20,24]),(43,[0,3,4,18,24]),(44,[0,3,4,18,24])] } [Qmf] ⟨Qjj,trivial⟩ [Qrn,Qd0 N] ⟨Z0s,ih,trivial⟩ Tryz.func252 (by kernel_rfl) fun avs es res h hp => ?_;simp only [Qd0] at h;split at h
  case h_2=>cases h
  split at h
  case isFalse=>cases h
  rename_i a m b f T l hf;subst hf;cases h;obtain⟨l,rfl⟩:=eta (α:=List Q0) l;obtain⟨a,rfl⟩:=eta (α:=Int) a;obtain⟨b,rfl⟩:=eta (α:=Int) b;obtain⟨m,rfl⟩:=eta (α:=Int) m;obtain⟨⟨h1,h2,h3⟩,⟨h4,h5⟩,h6,h7,h8⟩:(0<=a/\a<m/\m<b)/\(b<=(l.length:Int)/\b - a<=((N+1:Nat):Int))/\l.length<=1000000/\Srt Q0.tier Tc.stowed.dflt a.toNat m.toNat l/\Srt Q0.tier Tc.stowed.dflt m.toNat b.toNat l:=hp;obtain⟨a,rfl⟩:=Int.eq_ofNat_of_zero_le h1;obtain⟨b,rfl⟩:=Int.eq_ofNat_of_zero_le (show 0<=b by omega);obtain⟨m,rfl⟩:=Int.eq_ofNat_of_zero_le (show 0<=m by omega);simp only [Int.toNat_natCast] at h7 h8;refine⟨[],?_⟩
  conv=>arg 1; cbv
  simp only [Q62,Z4h,Q42,V0,Q9p,Z8];refine⟨by simp only [Q1]; omega,fun g => ?_,fun g => ?_⟩
  . refine⟨Qjg 10 11 m b fun i j=>(∀ k,m<=k->k<i->(l.getD k Tc.stowed.dflt).tier<(l.getD a Tc.stowed.dflt).tier)/\∀ k,j<=k->k<b->(l.getD a Tc.stowed.dflt).tier<=(l.getD k Tc.stowed.dflt).tier,?_⟩
    conv=>arg 1; cbv
    refine⟨?_,fun (p:Nat×Nat) hp => ?_⟩
    . simp (maxSteps:=4000000) only [fms];exact⟨⟨⟨Nat.le_refl _,by omega,Nat.le_refl _⟩,fun k q1 q2=>by omega,fun k q1 q2=>by omega⟩,trivial,trivial⟩
    have hp':(m<=p.1/\p.1<=p.2/\p.2<=b)/\(∀ k,m<=k->k<p.1->(l.getD k Tc.stowed.dflt).tier<(l.getD a Tc.stowed.dflt).tier)/\∀ k,p.2<=k->k<b->(l.getD a Tc.stowed.dflt).tier<=(l.getD k Tc.stowed.dflt).tier:=hp;have q1:=hp'.1;have q2:=hp'.2.1;have q3:=hp'.2.2;clear hp hp'
    conv=>arg 1; cbv
    simp (maxSteps:=4000000) only [fms];refine Qc ((p.1+p.2) / 2) fun c hc => ?_;simp only [Qa8 (show p.1+p.2<=4000000 by omega),hc,Qf4,Int.toNat_natCast];refine⟨fun g1 => ?_,fun g1 => ?_⟩
    . have c1:p.1<=c/\c<p.2:=by omega
      refine⟨by simp only [Q1]; omega,by omega,by simp only [Q1]; omega,⟨by omega,by omega⟩,⟨by omega,by omega⟩,trivial,fun g2 => ?_,fun g2 => ?_⟩
      . refine Qc (c+1) fun c' hc' => ?_;refine⟨by simp only [Q1]; omega,⟨(c',p.2),⟨⟨⟨by omega,by omega,by omega⟩,fun k k1 k2 => ?_,q3⟩,by show p.2 - c'<p.2 - p.1; omega⟩,?_⟩⟩
        . have k2':k<c':=k2;have:(l.getD k Tc.stowed.dflt).tier<=(l.getD c Tc.stowed.dflt).tier:=h8.le k1 (by omega) (by omega);omega
        . conv=>arg 1; cbv
          simp (maxSteps:=4000000) only [fms];exact⟨by omega,trivial⟩
      . refine⟨(p.1,c),⟨⟨⟨by omega,by omega,by omega⟩,q2,fun k k1 k2 => ?_⟩,by show c - p.1<p.2 - p.1; omega⟩,?_⟩
        . have k1':c<=k:=k1;have:(l.getD c Tc.stowed.dflt).tier<=(l.getD k Tc.stowed.dflt).tier:=h8.le (by omega) k1' k2;omega
        . conv=>arg 1; cbv
          simp (maxSteps:=4000000) only [fms];exact⟨trivial,trivial⟩
    . have hij:p.1=p.2:=by omega
      rw [<- hij] at q3;refine Qc (p.1 - 1 - a) fun n hn => ?_;have hend:=Z3x (key:=Q0.tier) (d:=Tc.stowed.dflt) (l:=l) (a:=a) (b:=b) (i:=p.1) (by omega) ⟨by omega,by omega⟩ (by rw [show a+1=m by simp only [decide_eq_true_eq] at g; omega]; exact h8) (fun k k1 k2=>q2 k (by simp only [decide_eq_true_eq] at g; omega) k2) q3;rw [hn] at hend;simp only [decide_eq_true_eq] at g;refine⟨Z9d T l a n,?_⟩
      conv=>arg 1; cbv
      refine⟨?_,fun (k:Nat) hk => ?_⟩
      . simp (maxSteps:=4000000) only [fms];exact⟨Nat.zero_le _,rfl,rfl⟩
      have hk':k<=n:=hk
      conv=>arg 1; cbv
      simp (maxSteps:=4000000) only [fms];refine Qc (Q91 Tc.stowed.dflt l a k) fun L hL => ?_;have hlen:L.length=l.length:=by rw [<- hL,Qbc]
      simp only [hL];refine⟨by simp only [Q1]; omega,fun g2 => ?_,fun g2 => ?_⟩
      . have e1:((a+k:Nat):Int).toNat=a+k:=by omega
        have e2:(((a+k:Nat):Int)+1).toNat=a+k+1:=by omega
        refine⟨by simp only [Q1]; omega,by simp only [Q1]; omega,⟨by omega,by omega⟩,⟨by omega,by omega⟩,⟨by omega,by omega⟩,⟨by omega,by rw [List.length_set]; omega⟩,by simp only [Q1]; omega,⟨by omega,by omega⟩,by omega,?_⟩;rw [List.set_comm _ _ (by omega),e2,<- hL];rfl
      . rw [<- hL,show k=n by omega];exact hend
  simp only [decide_eq_false_iff_not] at g;refine⟨by simp only [Q1]; omega,fun g0 => ?_,fun g0 => ?_⟩
  . simp only [decide_eq_true_eq] at g0;refine⟨Qjg 14 15 a m fun i j=>(∀ k,a<=k->k<i->(l.getD k Tc.stowed.dflt).tier<=(l.getD m Tc.stowed.dflt).tier)/\∀ k,j<=k->k<m->(l.getD m Tc.stowed.dflt).tier<(l.getD k Tc.stowed.dflt).tier,?_⟩
    conv=>arg 1; cbv
    refine⟨?_,fun (p:Nat×Nat) hp => ?_⟩
    . simp (maxSteps:=4000000) only [fms];exact⟨⟨⟨Nat.le_refl _,by omega,Nat.le_refl _⟩,fun k q1 q2=>by omega,fun k q1 q2=>by omega⟩,trivial,trivial⟩
    have hp':(a<=p.1/\p.1<=p.2/\p.2<=m)/\(∀ k,a<=k->k<p.1->(l.getD k Tc.stowed.dflt).tier<=(l.getD m Tc.stowed.dflt).tier)/\∀ k,p.2<=k->k<m->(l.getD m Tc.stowed.dflt).tier<(l.getD k Tc.stowed.dflt).tier:=hp;have q1:=hp'.1;have q2:=hp'.2.1;have q3:=hp'.2.2;clear hp hp'
    conv=>arg 1; cbv
    simp (maxSteps:=4000000) only [fms];refine Qc ((p.1+p.2) / 2) fun c hc => ?_;simp only [Qa8 (show p.1+p.2<=4000000 by omega),hc,Qf4,Int.toNat_natCast];refine⟨fun g1 => ?_,fun g1 => ?_⟩
    . have c1:p.1<=c/\c<p.2:=by omega
      refine⟨by simp only [Q1]; omega,by omega,by simp only [Q1]; omega,⟨by omega,by omega⟩,⟨by omega,by omega⟩,trivial,fun g2 => ?_,fun g2 => ?_⟩
      . refine Qc (c+1) fun c' hc' => ?_;simp only [Bool.not_eq_true',decide_eq_false_iff_not] at g2;refine⟨by simp only [Q1]; omega,⟨(c',p.2),⟨⟨⟨by omega,by omega,by omega⟩,fun k k1 k2 => ?_,q3⟩,by show p.2 - c'<p.2 - p.1; omega⟩,?_⟩⟩
        . have k2':k<c':=k2;have:(l.getD k Tc.stowed.dflt).tier<=(l.getD c Tc.stowed.dflt).tier:=h7.le k1 (by omega) (by omega);omega
        . conv=>arg 1; cbv
          simp (maxSteps:=4000000) only [fms];exact⟨by omega,trivial⟩
      . simp only [Bool.not_eq_false',decide_eq_true_eq] at g2;refine⟨(p.1,c),⟨⟨⟨by omega,by omega,by omega⟩,q2,fun k k1 k2 => ?_⟩,by show c - p.1<p.2 - p.1; omega⟩,?_⟩
        . have k1':c<=k:=k1;have:(l.getD c Tc.stowed.dflt).tier<=(l.getD k Tc.stowed.dflt).tier:=h7.le (by omega) k1' k2;omega
        . conv=>arg 1; cbv
          simp (maxSteps:=4000000) only [fms];exact⟨trivial,trivial⟩
    . have hij:p.1=p.2:=by omega
      rw [<- hij] at q3;refine Qc (m - p.1) fun n hn => ?_;have hend:=Qhn (key:=Q0.tier) (d:=Tc.stowed.dflt) (l:=l) (a:=a) (m:=m) (i:=p.1) (by omega) ⟨by omega,by omega⟩ h7 q2 q3;rw [hn,show m+1=b by omega] at hend;refine⟨Z8z T l m n,?_⟩
      conv=>arg 1; cbv
      refine⟨?_,fun (k:Nat) hk => ?_⟩
      . simp (maxSteps:=4000000) only [fms];exact⟨Nat.zero_le _,rfl,rfl⟩
      have hk':k<=n:=hk
      conv=>arg 1; cbv
      simp (maxSteps:=4000000) only [fms];refine Qc (Q1b Tc.stowed.dflt l m k) fun L hL => ?_;have hlen:L.length=l.length:=by rw [<- hL,Qbj]
      simp only [hL];refine⟨fun g2 => ?_,fun g2 => ?_⟩
      . have e1:m - k=m - k - 1+1:=by omega
        refine⟨by simp only [Q1]; omega,by simp only [Q1]; omega,⟨by omega,by omega⟩,⟨by omega,by omega⟩,⟨by omega,by omega⟩,⟨by omega,by rw [List.length_set]; omega⟩,by simp only [Q1]; omega,⟨by omega,by omega⟩,by omega,?_⟩;rw [<- hL];show _=V2 Tc.stowed.dflt (Q1b Tc.stowed.dflt l m k) (m - k - 1)
        unfold V2;rw [<- e1]
      . rw [<- hL,show k=n by omega];exact hend
  simp only [decide_eq_false_iff_not] at g0;have hmid:=Qa8 (i:=a) (j:=b) (by omega);simp only [hmid];refine Qc ((a+b) / 2) fun mid hm0 => ?_;simp only [hm0];refine⟨by simp only [Q1]; omega,by omega,by simp only [Q1]; omega,by simp only [Q1]; omega,fun gm=>⟨by simp only [Q1]; omega,by simp only [Q1]; omega,?_⟩,fun gm=>⟨by simp only [Q1]; omega,?_⟩⟩
  . simp only [decide_eq_true_eq] at gm;refine Qc (mid+m - b) fun S hS => ?_;refine Qc mid fun R hR => ?_;have hSR:∀ c,S<=c->c<R->m<=mid+m - 1 - c/\mid+m - 1 - c<b:=fun c h1 h2=>by omega
    refine⟨Qjg 20 21 S R fun i j=>(i=S\/(l.getD (i - 1) Tc.stowed.dflt).tier<=(l.getD (mid+m - i) Tc.stowed.dflt).tier)/\(j=R\/(l.getD (mid+m - 1 - j) Tc.stowed.dflt).tier<(l.getD j Tc.stowed.dflt).tier),?_⟩
    conv=>arg 1; cbv
    refine⟨?_,fun (p:Nat×Nat) hp => ?_⟩
    . simp (maxSteps:=4000000) only [fms];refine⟨⟨⟨Nat.le_refl _,by omega,Nat.le_refl _⟩,.inl trivial,.inl trivial⟩,?_⟩
      first|exact⟨by omega,by omega⟩|exact⟨by omega,trivial⟩|exact⟨trivial,trivial⟩
    have hp':(S<=p.1/\p.1<=p.2/\p.2<=R)/\(p.1=S\/(l.getD (p.1 - 1) Tc.stowed.dflt).tier<=(l.getD (mid+m - p.1) Tc.stowed.dflt).tier)/\(p.2=R\/(l.getD (mid+m - 1 - p.2) Tc.stowed.dflt).tier<(l.getD p.2 Tc.stowed.dflt).tier):=hp;have q1:=hp'.1;have q2:=hp'.2.1;have q3:=hp'.2.2;clear hp hp'
    conv=>arg 1; cbv
    simp (maxSteps:=4000000) only [fms];simp only [Qa8 (show p.1+p.2<=4000000 by omega),Qf4,Int.toNat_natCast];refine Qc ((p.1+p.2) / 2) fun c hc => ?_;simp only [hc];refine⟨fun g1 => ?_,fun g1 => ?_⟩
    . have c1:p.1<=c/\c<p.2:=by omega
      have c2:=hSR c (by omega) (by omega);have e1:((mid:Int)+(m:Int) - 1 - (c:Int)).toNat=mid+m - 1 - c:=by omega
      rw [e1];refine⟨by simp only [Q1]; omega,by omega,by simp only [Q1]; omega,by simp only [Q1]; omega,⟨by omega,by omega⟩,⟨by omega,by omega⟩,trivial,fun g2 => ?_,fun g2 => ?_⟩
      . refine Qc (c+1) fun c' hc' => ?_;simp only [Bool.not_eq_true',decide_eq_false_iff_not] at g2;refine⟨by simp only [Q1]; omega,⟨(c',p.2),⟨⟨⟨by omega,by omega,by omega⟩,.inr ?_,q3⟩,by show p.2 - c'<p.2 - p.1; omega⟩,?_⟩⟩
        . show (l.getD (c' - 1) Tc.stowed.dflt).tier<=(l.getD (mid+m - c') Tc.stowed.dflt).tier
          rw [show c' - 1=c by omega,show mid+m - c'=mid+m - 1 - c by omega];omega
        . conv=>arg 1; cbv
          simp (maxSteps:=4000000) only [fms];exact⟨by omega,trivial⟩
      . simp only [Bool.not_eq_false',decide_eq_true_eq] at g2;refine⟨(p.1,c),⟨⟨⟨by omega,by omega,by omega⟩,q2,.inr g2⟩,by show c - p.1<p.2 - p.1; omega⟩,?_⟩
        conv=>arg 1; cbv
        simp (maxSteps:=4000000) only [fms];exact⟨trivial,trivial⟩
    have hij:p.1=p.2:=by omega
    rw [<- hij] at q3;refine Qc p.1 fun s hs => ?_;rw [hs] at q2 q3;have hse:a<=s/\s<=m/\m<=mid+m - s/\mid+m - s<=b:=by omega
    simp only [hs];have hT:=Z50 (key:=Q0.tier) (d:=Tc.stowed.dflt) (l:=l) (a:=a) (m:=m) (b:=b) (s:=s) (e:=mid+m - s) (mid:=mid) (N:=N) (by omega) h6 ⟨by omega,by omega⟩ hse (by omega) (by omega) h7 h8 (q2.elim (fun g => .inr (.inl (by omega))) fun g => .inr (.inr g)) (q3.elim (fun g => .inr (.inl (by omega))) fun g => .inr (.inr (by rw [show mid+m - s - 1=mid+m - 1 - s by omega]; exact g)));have he:(mid:Int)+(m:Int) - (s:Int)=((mid+m - s:Nat):Int):=by omega
    refine Qc (mid+m - s) fun e he0 => ?_;rw [he0] at he hT hse;simp only [he,Int.toNat_natCast];have hT0:s=m\/m=e->Z2b Q0.tier Tc.stowed.dflt a b s e mid N l (Zb Q0.tier a b l):=fun g=>by
     have q:=Qn2 (l:=l) (s:=s) (m:=m) (e:=e) (by omega) (by omega) (by omega) g;rw [q] at hT;exact hT
    exact⟨by simp only [Q1]; omega,fun g1=>⟨fun g2=>⟨⟨⟨by omega,by omega,by omega⟩,by omega,h6⟩,hT⟩,fun g2=>hT0 (.inr (by omega))⟩,fun g1=>hT0 (.inl (by omega))⟩
  . simp only [decide_eq_false_iff_not] at gm;refine Qc a fun S hS => ?_;refine Qc m fun R hR => ?_;have hSR:∀ c,S<=c->c<R->m<=mid+m - 1 - c/\mid+m - 1 - c<b:=fun c h1 h2=>by omega
    refine⟨Qjg 20 21 S R fun i j=>(i=S\/(l.getD (i - 1) Tc.stowed.dflt).tier<=(l.getD (mid+m - i) Tc.stowed.dflt).tier)/\(j=R\/(l.getD (mid+m - 1 - j) Tc.stowed.dflt).tier<(l.getD j Tc.stowed.dflt).tier),?_⟩
    conv=>arg 1; cbv
    refine⟨?_,fun (p:Nat×Nat) hp => ?_⟩
    . simp (maxSteps:=4000000) only [fms];refine⟨⟨⟨Nat.le_refl _,by omega,Nat.le_refl _⟩,.inl trivial,.inl trivial⟩,?_⟩
      first|exact⟨by omega,by omega⟩|exact⟨by omega,trivial⟩|exact⟨trivial,trivial⟩
    have hp':(S<=p.1/\p.1<=p.2/\p.2<=R)/\(p.1=S\/(l.getD (p.1 - 1) Tc.stowed.dflt).tier<=(l.getD (mid+m - p.1) Tc.stowed.dflt).tier)/\(p.2=R\/(l.getD (mid+m - 1 - p.2) Tc.stowed.dflt).tier<(l.getD p.2 Tc.stowed.dflt).tier):=hp;have q1:=hp'.1;have q2:=hp'.2.1;have q3:=hp'.2.2;clear hp hp'
    conv=>arg 1; cbv
    simp (maxSteps:=4000000) only [fms];simp only [Qa8 (show p.1+p.2<=4000000 by omega),Qf4,Int.toNat_natCast];refine Qc ((p.1+p.2) / 2) fun c hc => ?_;simp only [hc];refine⟨fun g1 => ?_,fun g1 => ?_⟩
    . have c1:p.1<=c/\c<p.2:=by omega
      have c2:=hSR c (by omega) (by omega);have e1:((mid:Int)+(m:Int) - 1 - (c:Int)).toNat=mid+m - 1 - c:=by omega
      rw [e1];refine⟨by simp only [Q1]; omega,by omega,by simp only [Q1]; omega,by simp only [Q1]; omega,⟨by omega,by omega⟩,⟨by omega,by omega⟩,trivial,fun g2 => ?_,fun g2 => ?_⟩
      . refine Qc (c+1) fun c' hc' => ?_;simp only [Bool.not_eq_true',decide_eq_false_iff_not] at g2;refine⟨by simp only [Q1]; omega,⟨(c',p.2),⟨⟨⟨by omega,by omega,by omega⟩,.inr ?_,q3⟩,by show p.2 - c'<p.2 - p.1; omega⟩,?_⟩⟩
        . show (l.getD (c' - 1) Tc.stowed.dflt).tier<=(l.getD (mid+m - c') Tc.stowed.dflt).tier
          rw [show c' - 1=c by omega,show mid+m - c'=mid+m - 1 - c by omega];omega
        . conv=>arg 1; cbv
          simp (maxSteps:=4000000) only [fms];exact⟨by omega,trivial⟩
      . simp only [Bool.not_eq_false',decide_eq_true_eq] at g2;refine⟨(p.1,c),⟨⟨⟨by omega,by omega,by omega⟩,q2,.inr g2⟩,by show c - p.1<p.2 - p.1; omega⟩,?_⟩
        conv=>arg 1; cbv
        simp (maxSteps:=4000000) only [fms];exact⟨trivial,trivial⟩
    have hij:p.1=p.2:=by omega
    rw [<- hij] at q3;refine Qc p.1 fun s hs => ?_;rw [hs] at q2 q3;have hse:a<=s/\s<=m/\m<=mid+m - s/\mid+m - s<=b:=by omega
    simp only [hs];have hT:=Z50 (key:=Q0.tier) (d:=Tc.stowed.dflt) (l:=l) (a:=a) (m:=m) (b:=b) (s:=s) (e:=mid+m - s) (mid:=mid) (N:=N) (by omega) h6 ⟨by omega,by omega⟩ hse (by omega) (by omega) h7 h8 (q2.elim (fun g => .inl (by omega)) fun g => .inr (.inr g)) (q3.elim (fun g => .inl (by omega)) fun g => .inr (.inr (by rw [show mid+m - s - 1=mid+m - 1 - s by omega]; exact g)));have he:(mid:Int)+(m:Int) - (s:Int)=((mid+m - s:Nat):Int):=by omega
    refine Qc (mid+m - s) fun e he0 => ?_;rw [he0] at he hT hse;simp only [he,Int.toNat_natCast];have hT0:s=m\/m=e->Z2b Q0.tier Tc.stowed.dflt a b s e mid N l (Zb Q0.tier a b l):=fun g=>by
     have q:=Qn2 (l:=l) (s:=s) (m:=m) (e:=e) (by omega) (by omega) (by omega) g;rw [q] at hT;exact hT
    exact⟨by simp only [Q1]; omega,fun g1=>⟨fun g2=>⟨⟨⟨by omega,by omega,by omega⟩,by omega,h6⟩,hT⟩,fun g2=>hT0 (.inr (by omega))⟩,fun g1=>hT0 (.inl (by omega))⟩
end Go.Proofs.YtffeegebohigdaaGreat
