/-
  The abstract run: what is as is wanted, in memory; the states of a loop.
-/
import Derived.Test.YtffeegebohigdaaGreatMs13
set_option linter.unusedVariables false
set_option linter.unusedSimpArgs false
namespace Go.Proofs.YtffeegebohigdaaGreat
open Go.RowKit
section
variable {w w' w0:World} {ρ ρ' ρ2:Nat->Option Rl} {base:Nat} {p:Nat->Bool} {fz:Option (List Nat)} {ro ro' ro2:Nat->Prop} {S0:Pm} {N:Nat} {B:Bs} {S:Sx} {a:Act}
theorem AVR.sameL {fr fr':Bool} {t:Tc} {l m:Unit->List t.el} {v:Value} (h:AVR w ρ base ro (.sl fr t l) v) (hl:l ()=m ()) (hf:fr'=true->fr=true):AVR w ρ base ro (.sl fr' t m) v:=by
 have e:l=m:=funext fun u=>by cases u; exact hl
 subst e
 cases fr' with
 | true=>rw [hf rfl] at h; exact h
 | false=>exact h.loose_
theorem Q9k {l m:List VC} (h:∀ c∈l++m,c ()):(∀ c∈l,c ())/\∀ c∈m,c ():=⟨fun c hc=>h c (List.mem_append.2 (.inl hc)),fun c hc=>h c (List.mem_append.2 (.inr hc))⟩
theorem Q4g {fr fr':Bool} (h:(fr || !fr')=true):fr'=true->fr=true:=by
 intro h';rw [h'] at h;simpa using h
structure Qt6 (w0:World) (ρ ρ2:Nat->Option Rl) (ro ro2:Nat->Prop) (p:Nat->Bool) (fz:Option (List Nat)):Prop where
 pl:∀ l r,ρ l=some r->p l=true -> ρ2 l=some r
 ro:∀ b,ro b->ro2 b
 nil:fz=none->∀ l,ρ l=none->p l=true -> ρ2 l=some (.row none 0 0)
 out:∀ ks,fz=some ks->∀ loc A n c,ρ loc=some (.row A n c)->Qw loc ks=false->∀ ad,A=some ad->w0.heap.size<=ad.block/\ro2 ad.block
mutual
theorem Qmz (H:Zi w0 S0 N B S a w ρ ro) (M:Qt6 w0 ρ ρ2 ro ro2 p fz):∀ (x y:AV) (vcs:List VC) (v:Value),Qm2 fz B S x y=some vcs->(∀ c∈vcs,c ())->AVR w ρ w0.heap.size ro x v->AV.under p y=true->AVR w ρ2 w0.heap.size ro2 y v:=by
 intro x y vcs v h hv hx hu;unfold Qm2 at h;split at h
 . exact .un _
 . split at h
   . rename_i hk;subst hk;cases h;rw [hx.int_,hv _ (.head _)];exact .int _ _
   . cases h
 . split at h
   . rename_i hk;subst hk;cases h;rw [hx.lit_,hv _ (.head _)];exact .int _ _
   . cases h
 . split at h
   . rename_i hk;subst hk;cases h;rw [hx.int_,hv _ (.head _)];exact .lit _ _
   . cases h
 . split at h
   . rename_i hk;obtain⟨rfl,rfl⟩:=hk;rw [hx.lit_];exact .lit _ _
   . cases h
 . cases h;rw [hx.bool_,hv _ (.head _)];exact .bool _
 . cases h;rw [hx.blit_,hv _ (.head _)];exact .bool _
 . cases h;rw [hx.bool_,hv _ (.head _)];exact .blit _
 . split at h
   . rename_i hk;subst hk;rw [hx.blit_];exact .blit _
   . cases h
 . cases h;rw [hx.str_,hv _ (.head _)];exact .str _
 . cases h;rw [hx.nil_];exact .nil
 . cases h;have h0:=hv _ (.head _);rw [hx.nil_];rename_i t l;have e:Value.slice none 0 0=Value.slice none (l ()).length 0:=by rw [h0]; rfl
   rw [e];exact .sl _ _ _ none 0 [] (by rw [h0]; rfl) (Nat.le_refl _) (Rd.nil _ _ _ _) (fun _ h=>by cases h) (fun _ _ h=>by cases h) (fun k cs j x v h=>by simp at h)
 . split at h
   . split at h
     . rename_i loc _ hk;cases h;rw [hx.nil_];exact .own _ _ _ _ (M.nil rfl loc (H.fresh loc (by simpa using hk)) (by simpa [AV.under] using hu))
     . cases h
   . cases h
 . split at h
   . rename_i fr t l fr' t' m hk;subst hk;split at h
     . rename_i hf;cases h;exact ((hx.sameL (m:=m) (hv _ (.head _)) (Q4g hf)).plain (fresh:=false) (by simp [AV.plain]) fun b _ h=>M.ro b h)
     . cases h
   . cases h
 . rename_i loc fr' t' m;split at h
   . cases h
   . rename_i ks;split at h
     . cases h
     . rename_i hks;split at h
       . rename_i fr t T l he;split at h
         . rename_i hk;subst hk;split at h
           . rename_i hf;cases h;obtain⟨A,c,css,hA,hown,hlen,hcell⟩:=H.en _ _ he;obtain⟨A',n',c',hA',rfl⟩:=hx.own_;rw [hA] at hA';injection hA' with hA';injection hA' with e1 e2 e3;subst e1; subst e2; subst e3;have hout:=M.out ks rfl loc A _ c hA (by simpa using hks);have h1:AVR w ρ2 w0.heap.size ro2 (.sl fr _ l) (.slice A (l ()).length c):=by
              refine .sl fr _ l A c css hlen hown.cap.1 hown.rd (fun ad ha _=>(hout ad ha).2) (fun _ ad ha _=>(hout ad ha).1) fun k cs j x v q1 q2 q3 => ?_;exact (hcell k cs j x v q1 q2 q3).plain (fresh:=false) (Gj (Ju _ _ _) q2) fun b _ h=>M.ro b h
             exact h1.sameL (hv _ (.head _)) (Q4g hf)
           . cases h
         . cases h
       . cases h
 . split at h
   . rename_i fr t l n fr' t' m hk;subst hk;split at h
     . rename_i hf;cases h;exact (((Q0y hx).sameL (m:=m) (hv _ (.head _)) (Q4g hf)).plain (fresh:=false) (by simp [AV.plain]) fun b _ h=>M.ro b h)
     . cases h
   . cases h
 . split at h
   . rename_i fr t l n fr' t' m k hk;subst hk;split at h
     . rename_i hf;cases h;obtain⟨A,c,hn,hl,rfl⟩:=hx.wide_;have e1:l ()=m ():=hv _ (.head _);have e2:n ()=k ():=hv _ (.tail _ (.head _));rw [e2];have hl2:=((hl.sameL (m:=m) e1 (Q4g hf)).plain (fresh:=false) (ρ' := ρ2) (ro':=ro2) (by simp [AV.plain]) fun b _ h=>M.ro b h)
       rw [e1] at hl2;exact .wide fr' _ m k A c (by rw [<- e1,<- e2]; exact hn) hl2
     . cases h
   . cases h
 . split at h
   . rename_i loc loc' hk;subst hk;obtain⟨A,n',c,hA,rfl⟩:=hx.own_;exact .own _ _ _ _ (M.pl _ _ hA (by simpa [AV.under] using hu))
   . cases h
 . split at h
   . rename_i loc off loc' off' hk;obtain⟨rfl,rfl⟩:=hk;obtain⟨b,hb,rfl⟩:=hx.ptr_;exact .ptr _ _ _ (M.pl _ _ hb (by simpa [AV.under] using hu))
   . cases h
 . split at h
   . rename_i loc loc' hk;subst hk;obtain⟨b,hb,rfl⟩:=hx.mp_;exact .mp _ _ (M.pl _ _ hb (by simpa [AV.under] using hu))
   . cases h
 . split at h
   . rename_i l l2 l' l2' hk;obtain⟨rfl,rfl⟩:=hk;obtain⟨b,hb,rfl⟩:=hx.it_;exact .it _ _ _ (M.pl _ _ hb (by simpa [AV.under] using hu))
   . cases h
 . rename_i l m;obtain⟨vs,rfl,hE⟩:=hx.agg_;have:=Q7x H M l m vcs vs h hv hE (by simpa only [AV.under] using hu);exact .agg _ _ this.1 this.2
 . rename_i l m;obtain⟨vs,rfl,hE⟩:=hx.tup_;have:=Q7x H M l m vcs vs h hv hE (by simpa only [AV.under] using hu);exact .tup _ _ this.1 this.2
 . split at h
   . rename_i f l g m hk;subst hk;obtain⟨vs,rfl,hE⟩:=hx.fn_;have:=Q7x H M l m vcs vs h hv hE (by simpa only [AV.under] using hu);exact .fn _ _ _ this.1 this.2
   . cases h
 . cases h
theorem Q7x (H:Zi w0 S0 N B S a w ρ ro) (M:Qt6 w0 ρ ρ2 ro ro2 p fz):∀ (xs ys:List AV) (vcs:List VC) (vs:List Value),Qbs fz B S xs ys=some vcs->(∀ c∈vcs,c ())->Qj w ρ w0.heap.size ro xs vs->AV.underL p ys=true->Qj w ρ2 w0.heap.size ro2 ys vs:=by
 intro xs ys vcs vs h hv hE hu;unfold Qbs at h;split at h
 . rw [hE.none];exact .nil
 . rename_i x l y m;split at h
   . rename_i p q h4 h5;cases h;obtain⟨v,us,rfl,hx,hE'⟩:=hE.head;have h6:=Q9k hv;simp only [AV.underL,Bool.and_eq_true] at hu;exact .cons (Qmz H M x y p v h4 h6.1 hx hu.1) (Q7x H M l m q us h5 h6.2 hE' hu.2)
   . cases h
 . cases h
end
theorem Ya {p:Nat->Bool}:∀ {l:List AV} {j:Nat} {x:AV},AV.underL p l=true->l[j]? = some x->AV.under p x=true
 | y::l,0,x,h,hx=>by
  simp only [List.getElem?_cons_zero,Option.some.injEq] at hx;subst hx;simp only [AV.underL,Bool.and_eq_true] at h;exact h.1
 | y::l,j+1,x,h,hx=>by
  simp only [AV.underL,Bool.and_eq_true] at h;exact Ya h.2 (by simpa using hx)
 | [],j,x,_,hx=>by simp at hx
theorem J3 (fr:Bool) (t:Tc) (x:Unit->t.el) (p:Nat->Bool):AV.underL p (Q8 fr t x)=true:=by cases t<;>rfl
theorem AVR.under_ {x:AV} {v:Value} (h:AVR w ρ base ro x v) (hx:AV.under p x=true) (h2:∀ l r,ρ l=some r->p l=true -> ρ2 l=some r):AVR w ρ2 base ro x v:=by
 induction h with
 | un=>exact .un _
 | int=>exact .int _ _
 | lit=>exact .lit _ _
 | bool=>exact .bool _
 | blit=>exact .blit _
 | str=>exact .str _
 | nil=>exact .nil
 | sl fr t l A c css hl hc hr hro1 hfr h ih=>exact .sl fr t l A c css hl hc hr hro1 hfr fun k cs j y v h1 h2 h3=>ih k cs j y v h1 h2 h3 (Ya (J3 _ _ _ _) h2)
 | wide fr t l n A c hn h ih=>exact .wide fr t l n A c hn (ih rfl)
 | pto cells off b o cs hr hlt hl hc h ih=>exact .pto cells off b o cs hr hlt hl hc fun j y v h1 h2=>ih j y v h1 h2 (Ya (by simpa only [AV.under] using hx) h1)
 | ptr l off b h=>exact .ptr _ _ _ (h2 _ _ h (by simpa [AV.under] using hx))
 | mp l b h=>exact .mp _ _ (h2 _ _ h (by simpa [AV.under] using hx))
 | stamp l b h=>exact .stamp _ _ (h2 _ _ h (by simpa [AV.under] using hx))
 | it l l2 b h=>exact .it _ _ _ (h2 _ _ h (by simpa [AV.under] using hx))
 | own l A n c h=>exact .own _ _ _ _ (h2 _ _ h (by simpa [AV.under] using hx))
 | orp t l k off A n c b h hA h0 hn=>exact .orp _ _ _ _ _ _ _ _ (h2 _ _ h (by simpa [AV.under] using hx)) hA h0 hn
 | osl t l a b A n c h hab=>exact .osl _ _ _ _ _ _ _ (h2 _ _ h (by simpa [AV.under] using hx)) hab
 | agg l vs hl h ih=>exact .agg _ _ hl fun j y v h1 h2=>ih j y v h1 h2 (Ya (by simpa only [AV.under] using hx) h1)
 | tup l vs hl h ih=>exact .tup _ _ hl fun j y v h1 h2=>ih j y v h1 h2 (Ya (by simpa only [AV.under] using hx) h1)
 | fn f caps vs hl h ih=>exact .fn _ _ _ hl fun j y v h1 h2=>ih j y v h1 h2 (Ya (by simpa only [AV.under] using hx) h1)
theorem K4 {α:Type}:∀ (l m:List (Nat × α)) (d:Nat),Q3 (l++m) d=(match Q3 l d with|some x=>some x|none=>Q3 m d)
 | [],m,d=>rfl
 | (k,x)::l,m,d=>by
  rw [List.cons_append,Qb,Qb,K4 l m d];split<;>rfl
theorem Qb6 {α β:Type} {l:List (Nat × α)}:∀ {m:List (Nat × β)} {d:Nat} {x : β},J1 l m=true->Q3 m d=some x->Q3 l d=none
 | (k,y)::m,d,x,h,hx=>by
  unfold J1 at h;simp only [Bool.and_eq_true,Option.isNone_iff_eq_none] at h;rw [Qb] at hx;split at hx
  . rename_i e; subst e; exact h.1
  . exact Qb6 h.2 hx
 | [],_,_,_,hx=>by cases hx
theorem Qji {p:Nat->Bool}:∀ {m:List (Nat×AV)} {d:Nat} {x:AV},Gg p m=true->Q3 m d=some x->AV.under p x=true
 | (k,y)::m,d,x,h,hx=>by
  unfold Gg at h;simp only [Bool.and_eq_true] at h;rw [Qb] at hx;split at hx
  . cases hx; exact h.1
  . exact Qji h.2 hx
 | [],_,_,_,hx=>by cases hx
theorem Qae {p:Nat->Bool}:∀ {m:List (Nat×En)} {d:Nat} {e:En},Kv p m=true->Q3 m d=some e->p d=true/\En.under p e=true
 | (k,e')::m,d,e,h,hx=>by
  unfold Kv at h;simp only [Bool.and_eq_true] at h;rw [Qb] at hx;split at hx
  . rename_i hk; subst hk; cases hx; exact h.1
  . exact Qae h.2 hx
 | [],_,_,_,hx=>by cases hx
theorem Qbk (ag fr:Bool) (t:Tc) (x:Unit->t.el) (n:Nat->Bool):AV.under n (Yh ag fr t x)=true:=by
 unfold Yh;have h:=J3 fr t x n
 cases ag with
 | true=>exact h
 | false =>
  simp only [Bool.false_eq_true,if_false]
  cases hc:Q8 fr t x with
  | nil=>rfl
  | cons c l =>
   rw [hc] at h
   cases l with
   | nil=>simpa [AV.underL] using h
   | cons c2 l=>rfl
theorem Qvj (H:Zi w0 S0 N B S a w ρ ro) (M:Qt6 w0 ρ ρ2 ro ro2 p fz):∀ {oe:List (Nat×En)} {tb:List VC},Q2t fz B S oe=some tb->(∀ c∈tb,c ())->Kv p oe=true->∀ l e,Q3 oe l=some e->EnR w ρ2 w0.heap.size ro2 l e:=by
 intro oe
 induction oe with
 | nil=>intro tb _ _ _ l e h; cases h
 | cons p oe ih =>
  intro tb hE hv hb l e he;obtain⟨k,z⟩:=p
  cases z with
  | box T cs =>
   unfold Q2t at hE;simp only [Kv,Bool.and_eq_true] at hb;split at hE
   . rename_i T' cs' hl;split at hE
     . rename_i hTT;subst hTT;split at hE
       . rename_i p q h4 h5;cases hE;have hv2:=Q9k hv;rw [Qb] at he;split at he
         . rename_i e0;subst e0;cases he;obtain⟨b,us,k1,k4,k5⟩:=H.en _ _ hl;exact⟨b,us,M.pl _ _ k1 hb.1.1,k4,Q7x H M _ _ p us h4 hv2.1 k5 (by simpa [En.under] using hb.1.2)⟩
         . exact ih h5 hv2.2 hb.2 l e he
       . cases hE
     . cases hE
   . cases hE
  | row fr t T m =>
   unfold Q2t at hE;simp only [Kv,Bool.and_eq_true] at hb;split at hE
   . rename_i q h5;split at hE
     . rename_i fr' t' T' m' hl;split at hE
       . rename_i ht;subst ht;split at hE
         . rename_i hc;obtain⟨rfl,hf⟩:=hc;cases hE;rw [Qb] at he;split at he
           . rename_i e0;subst e0;cases he;obtain⟨A,c,css,k1,k2,k3,k5⟩:=H.en _ _ hl;have hm:m'=m:=funext fun u=>by cases u; exact hv _ (.head _)
             subst hm;refine⟨A,c,css,M.pl _ _ k1 hb.1.1,k2.base_le (Z5u _ (Q4g hf)),k3,fun kk cs j x v q1 q2 q3 => ?_⟩;have hsz:=k2.2 cs (List.mem_of_getElem? q1);have h6:=(Q1c (g:=fr) (Q02 hsz fun j y v r1 r2=>k5 kk cs j y v q1 r1 r2) (Q4g hf)).2 j x v q2 q3;exact (h6.under_ (Ya (J3 _ _ _ _) q2) M.pl).mono (fun _ _ _=>rfl) (Ext.refl _) (Nat.le_refl _) M.ro
           . exact ih h5 (fun c hc=>hv c (.tail _ hc)) hb.2 l e he
         . cases hE
       . cases hE
     . cases hE
     . rename_i hl;split at hE
       rotate_left
       . cases hE
       split at hE
       . rename_i hk;cases hE;rw [Qb] at he;split at he
         . rename_i e0;subst e0;cases he;have hm:=hv _ (.head _);refine⟨none,0,[],by rw [hm]; exact M.nil rfl _ (H.fresh _ hk) hb.1.1,Z1.nil _ _ _ _,by rw [hm]; rfl,fun kk cs j x v q1=>by simp at q1⟩
         . exact ih h5 (fun c hc=>hv c (.tail _ hc)) hb.2 l e he
       . cases hE
   . cases hE
  | map fr ag c t T m =>
   unfold Q2t at hE;simp only [Kv,Bool.and_eq_true] at hb;split at hE
   . rename_i q h5;split at hE
     . rename_i fr' ag' c' t' T' m' hl;split at hE
       . rename_i ht;subst ht;split at hE
         . rename_i hc;obtain⟨rfl,rfl,rfl,hf⟩:=hc;cases hE;rw [Qb] at he;split at he
           . rename_i e0;subst e0;cases he;obtain⟨b,es,clock,k1,k2,k3,k4⟩:=H.en _ _ hl;have hm:m'=m:=funext fun u=>by cases u; exact hv _ (.head _)
             subst hm;exact⟨b,es,clock,M.pl _ _ k1 hb.1.1,k2,k3,(k4.less (Q4g hf)).map_ fun x v hx=>(hx.under_ (Qbk _ _ _ _ _) M.pl).mono (fun _ _ _=>rfl) (Ext.refl _) (Nat.le_refl _) M.ro⟩
           . exact ih h5 (fun c hc=>hv c (.tail _ hc)) hb.2 l e he
         . cases hE
       . cases hE
     . cases hE
   . cases hE
  | iter ml c seen left =>
   unfold Q2t at hE;simp only [Kv,En.under,Bool.and_eq_true] at hb;split at hE
   . rename_i q h5;split at hE
     . rename_i ml' c' seen' left' hl;split at hE
       . rename_i hc;obtain⟨rfl,rfl⟩:=hc;cases hE;rw [Qb] at he;split at he
         . rename_i e0;subst e0;cases he;obtain⟨b,b2,es,clock,since,stamps,c0,k1,k2,k3,k4,k5,k6,k7,k8,k9⟩:=H.en _ _ hl;have e1:seen' ()=seen ():=hv _ (.head _);have e2:left' ()=left ():=hv _ (.tail _ (.head _));rw [e1] at k8 k9;rw [e2] at k7;exact⟨b,b2,es,clock,since,stamps,c0,M.pl _ _ k1 hb.1.1,M.pl _ _ k2 hb.1.2,k3,k4,k5,k6,k7,k8,k9⟩
         . exact ih h5 (fun c hc=>hv c (.tail _ (.tail _ hc))) hb.2 l e he
       . cases hE
     . cases hE
   . cases hE
  | stamp ml c key=>unfold Q2t at hE; cases hE
  | dead=>unfold Q2t at hE; cases hE
theorem Zi.rebase (H:Zi w0 S0 N B S a w ρ ro) {n:Nat} (hsol:∀ l r,S0.pl l=some r->(r.solid||S0.fx)=true->l<n) {B2:Bs} {ov:List (Nat×AV)} {oe:List (Nat×En)} {ta tb:List VC} (hT:Qmh B S ov=some ta) (hE:Q2t none B S oe=some tb) (hv:∀ c∈ta++tb,c ()) (hbT:Gg (ltB n) ov=true) (hbE:Kv (ltB n) oe=true) (haT:J1 B2.t ov=true) (haE:J1 B2.e oe=true)
 (hBt:∀ d x,Q3 B2.t d=some x->∃ u,a.tmps[d]? = some u/\AVR w ρ w0.heap.size ro x u/\AV.under (ltB n) x=true)
 (hBe:∀ l e,Q3 B2.e l=some e->EnR w ρ w0.heap.size ro l e/\l<n/\En.under (ltB n) e=true) :
 Sim w0 S0 N B2 ⟨ov,oe,n⟩ a w:=by
 obtain⟨ρ2,hρ2⟩:∃ ρ2:Nat->Option Rl,ρ2=fun l=>if l<n then (match ρ l with|some r=>some r|none=>some (.row none 0 0)) else none:=⟨_,rfl⟩
 have h2:∀ l r,ρ l=some r->l<n -> ρ2 l=some r:=fun l r h hl=>by rw [hρ2]; simp only [if_pos hl,h]
 have h3:∀ l,ρ l=none->l<n -> ρ2 l=some (.row none 0 0):=fun l h hl=>by rw [hρ2]; simp only [if_pos hl,h]
 have hback:∀ l r b,ρ2 l=some r->r.blk=some b -> ρ l=some r:=by
  intro l r b h hb;rw [hρ2] at h;simp only at h;split at h
  . cases hl : ρ l with
    | none=>rw [hl] at h; injection h with h; subst h; cases hb
    | some r'=>rw [hl] at h; exact h
  . cases h
 have hltB:∀ {l},ltB n l=true->l<n:=fun h=>by simpa [ltB] using h
 have M:Qt6 w0 ρ ρ2 ro ro (ltB n) none:=⟨fun l r h hl=>h2 l r h (hltB hl),fun _ h=>h,fun _ l h hl=>h3 l h (hltB hl),fun _ h=>by cases h⟩
 have hva:=Q9k hv;have hTs:∀ {ov:List (Nat×AV)} {ta:List VC},Qmh B S ov=some ta->(∀ c∈ta,c ())->Gg (ltB n) ov=true->∀ d y,Q3 ov d=some y->∃ u,a.tmps[d]? = some u/\AVR w ρ2 w0.heap.size ro y u:=by
  intro ov
  induction ov with
  | nil=>intro ta _ _ _ d y h; cases h
  | cons p ov ih =>
   intro ta hT hv hb d y hy;obtain⟨k,z⟩:=p;unfold Qmh at hT;split at hT
   . rename_i x b hx hb'
     cases he:Qm2 none B S x z with
     | none=>rw [he] at hT; cases hT
     | some q =>
      rw [he] at hT;simp only [Option.map_some,Option.some.injEq] at hT;subst hT;have hv2:=Q9k hv;simp only [Gg,Bool.and_eq_true] at hb;rw [Qb] at hy;split at hy
      . rename_i e;subst e;cases hy;obtain⟨u,h4,h5⟩:=H.tm _ _ hx;exact⟨u,h4,Qmz H M _ _ q u he hv2.1 h5 hb.1⟩
      . exact ih hb' hv2.2 hb.2 d y hy
   . cases hT
 refine⟨ρ2,ro,H.from_,H.size,H.defers,H.roB,fun d x hx => ?_,fun l e he => ?_,fun l l' r r' b hne k1 k2 k3 k4 => ?_,fun l hl => ?_,fun l r b k1 k2=>H.own l r b (hback l r b k1 k2) k2,H.roS,fun l r k1 k2=>h2 l r (H.solid l r k1 k2) (hsol l r k1 k2),fun d x hx => ?_,fun l e he => ?_⟩
 . unfold Zh at hx;dsimp only at hx;split at hx
   . rename_i y hy;cases hx;exact hTs hT hva.1 hbT d _ hy
   . obtain⟨u,q1,q2,q3⟩:=hBt d x hx;exact⟨u,q1,q2.under_ q3 M.pl⟩
 . unfold Qh at he;dsimp only at he;split at he
   . rename_i y hy;cases he;exact Qvj H M hE hva.2 hbE l _ hy
   . obtain⟨q1,q2,q3⟩:=hBe l e he
     cases e with
     | box T cs =>
      obtain⟨b,us,k1,k4,k5⟩:=q1;exact⟨b,us,h2 _ _ k1 q2,k4,k5.1,fun j x v hx hv=>(k5.2 j x v hx hv).under_ (Ya (by simpa [En.under] using q3) hx) M.pl⟩
     | row fr t T m =>
      obtain⟨A,c,css,k1,k2,k3,k5⟩:=q1;exact⟨A,c,css,h2 _ _ k1 q2,k2,k3,fun kk cs j x v r1 r2 r3=>(k5 kk cs j x v r1 r2 r3).under_ (Ya (J3 _ _ _ _) r2) M.pl⟩
     | map fr ag c t T m =>
      obtain⟨b,es,clock,k1,k2,k3,k4⟩:=q1;exact⟨b,es,clock,h2 _ _ k1 q2,k2,k3,k4.map_ fun x v hx=>hx.under_ (Qbk _ _ _ _ _) M.pl⟩
     | iter ml c seen left =>
      obtain⟨b,b2,es,clock,since,stamps,c0,k1,k2,k3⟩:=q1;exact⟨b,b2,es,clock,since,stamps,c0,h2 _ _ k1 q2,M.pl _ _ k2 (by simpa [En.under] using q3),k3⟩
     | stamp ml c key =>
      obtain⟨b,es,clock,s,e,k1,k2,k3⟩:=q1;exact⟨b,es,clock,s,e,h2 _ _ k1 q2,M.pl _ _ k2 (by simpa [En.under] using q3),k3⟩
     | dead=>obtain⟨r,k1⟩:=q1; exact⟨r,h2 _ _ k1 q2⟩
 . exact H.apart l l' r r' b hne (hback l r b k1 k3) (hback l' r' b k2 k4) k3 k4
 . rw [hρ2];exact if_neg (by simp only at hl; omega)
 . cases ho:Q3 ov d with
   | none=>rfl
   | some y=>rw [Qb6 haT ho] at hx; cases hx
 . cases ho:Q3 oe l with
   | none=>rfl
   | some y=>rw [Qb6 haE ho] at he; cases he
end
def Q9z:List Nat->(Nat->Sch)->Sch
 | [],_ => .bad
 | [i],f=>f i
 | i::l,f => .alt (f i) (Q9z l f)
def Q4x (l:List Oper) (σ:List Nat):Nat->List Nat->Sch
 | 0,done=>match Vq l done with
  | [] => .nil
  | _ => .bad
 | fuel+1,done =>
  let one (i:Nat):Sch:=match l[i]? with
   | some _=>match σ[i]? with
    | some j => .op j (Q4x l σ fuel (i::done))
    | none => .bad
   | none => .bad
  match Vq l done with
  | [] => .nil
  | [i]=>one i
  | is=>match Q10 l is with
   | some i=>one i
   | none=>Q9z is one
def Qx5 (ef:List Nat) (ops:List Oper):Sch :=
 let σ:=Q81 ef ops
 let l:=Q03 ef ops
 let np:=Q0e ef l
 Qi (σ.take np) (match Q9u l np with
  | true=>Qi (σ.drop np) .nil
  | false=>Q4x l σ (l.length - np) (List.range np))
def Qbq (i:Nat):List Nat->List Nat
 | [] => [i]
 | k::l=>if i<k then i::k::l else k::Qbq i l
def Qbm (l:List Oper) (done:List Nat):List Nat:=match Vq l done with
 | [] => []
 | [i] => [i]
 | is=>match Q10 l is with
  | some i => [i]
  | none=>match Q41 l done is with
   | some i => [i]
   | none=>is
def Qpw (σ:List Nat) (l:List Oper) (nds:List Nd) (nd:Nd):Bool :=
 nd.ed.isEmpty||(Q3p (nd.ed.map fun e=>e.1) (Qbm l nd.dn)&&(decide (nd.dn.length<l.length)&&nd.ed.all fun e => σ[e.1]? == some e.2.1&&match nds[e.2.2]? with
  | some nt=>Q3p nt.dn (Qbq e.1 nd.dn)
  | none=>false))
def Q17 (σ:List Nat) (l:List Oper):List Nat->List Nat->Option (List Nat)
 | dn,[]=>some dn
 | dn,oi::r=>match Qbm l dn with
  | [i]=>if σ[i]? == some oi then Q17 σ l (Qbq i dn) r else none
  | _=>none
def Ql2 (σ:List Nat) (l:List Oper) (dn post:List Nat):Bool:=match Q17 σ l dn post with
 | some dn=>dn.length==l.length&&(Vq l dn).isEmpty
 | none=>false
def Z1y (σ:List Nat) (l:List Oper) (nds:List Nd) (post:List Nat):Option (List Nat)->Bool
 | none=>false
 | some dn=>decide (dn.length<=l.length)&&(match nds with
  | nd::r=>Q3p nd.dn dn&&((nd::r).dropLast.all (fun nd => !nd.ed.isEmpty)&&((nd::r).all (Qpw σ l (nd::r))&&match (nd::r).getLast? with
   | some nl=>Ql2 σ l nl.dn post
   | none=>false))
  | []=>Ql2 σ l dn post)
def Qx6 (ef:List Nat) (ops:List Oper) (N:Nat) (t:Lat):Bool :=
 Q71 ef t.sg t.row.length ops N&&(Q3p t.row (t.sg.take t.row.length)&&Z1y t.sg (Qr t.sg ops) t.nds t.post (Q17 t.sg (Qr t.sg ops) (List.range t.row.length) t.pre))
def Yj (ef:List Nat) (sc:List (Nat×Sch)) (lt:List (Nat×Lat)) (N:Nat):Code->Bool
 | .region id ops d => !d||(match Qpn lt id with
  | some t=>Qx6 ef ops.toList N t
  | none=>Qdf ef ops.toList N&&(match Qpk sc id with
   | some s=>decide (s=Qx5 ef ops.toList)
   | none=>true))
 | .seq a b=>Yj ef sc lt N a&&Yj ef sc lt N b
 | .cond _ a b=>Yj ef sc lt N a&&Yj ef sc lt N b
 | .block _ b=>Yj ef sc lt N b
 | .loop b=>Yj ef sc lt N b
 | .scope b=>Yj ef sc lt N b
 | _=>true
section
variable {C:Cx} {N:Nat} {B:Bs}
theorem Qbe {l l' rest':List Oper} {o o':Oper} {K k:Sx->Fm} {S:Sx} (hop:o'.op=o.op) (hdst:o'.dst=o.dst) (hw:Kb B S l' o'=Kb B S l o\/Kb B S l o = .stuck) (hK:∀ S,(K S).P->(Qq C N B l' rest' S k).P) (h:(Qq C N B l [o] S K).P):(Qq C N B l' (o'::rest') S k).P:=by
 obtain⟨dst,op,ty,pos,aft,gd⟩:=o;obtain⟨dst',op',ty',pos',aft',gd'⟩:=o';dsimp only at hop hdst;subst hop;subst hdst;have hsp:∀ S,Kw C N B S ⟨dst',op',ty',pos',aft',gd'⟩=Kw C N B S ⟨dst',op',ty,pos,aft,gd⟩:=fun _=>rfl;have hst:∀ S,Gd C N B S ⟨dst',op',ty',pos',aft',gd'⟩=Gd C N B S ⟨dst',op',ty,pos,aft,gd⟩:=fun _=>rfl;have hsk:∀ S,Jd N B S ⟨dst',op',ty',pos',aft',gd'⟩=Jd N B S ⟨dst',op',ty,pos,aft,gd⟩:=fun _=>rfl;generalize hoo:(⟨dst',op',ty,pos,aft,gd⟩:Oper)=o at *
 generalize hoo':(⟨dst',op',ty',pos',aft',gd'⟩:Oper)=o' at *
 have hmono:∀ S f,Kw C N B S o=some f->(f fun S'=>Qq C N B l [] S' K).P->(f fun S'=>Qq C N B l' rest' S' k).P:=by
  intro S f hf hP;rw [<- hoo] at hf;unfold Kw at hf;dsimp only at hf;split at hf
  . split at hf
    . split at hf
      . split at hf
        . cases hf;intro x hx;exact hK _ (hP x hx)
        . cases hf
      . cases hf
    . cases hf
  . split at hf
    . split at hf
      . split at hf
        . split at hf
          . cases hf;exact⟨fun c=>fun x hx=>hK _ (hP.1 c x hx),fun c=>fun x hx=>hK _ (hP.2 c x hx)⟩
          . cases hf
        . cases hf
      . cases hf
    . cases hf
  . cases hf
 have hgo:∀ S n,(match Kw C N B S o with
  | some f=>f fun S'=>Qq C N B l [] S' K
  | none=>match Gd C N B S o with
   | some (S',[])=>Qq C N B l [] S' K
   | some (S',vcs) => .vc vcs (Qq C N B l [] S' K)
   | none => .ff (1000+([]:List Oper).length):Fm).P->(match Kw C N B S o' with
  | some f=>f fun S'=>Qq C N B l' rest' S' k
  | none=>match Gd C N B S o' with
   | some (S',[])=>Qq C N B l' rest' S' k
   | some (S',vcs) => .vc vcs (Qq C N B l' rest' S' k)
   | none => .ff n:Fm).P:=by
  intro S n hP;rw [hsp,hst]
  cases hs:Kw C N B S o with
  | some f=>rw [hs] at hP; exact hmono S f hs hP
  | none =>
   rw [hs] at hP;dsimp only at hP ⊢
   cases ht:Gd C N B S o with
   | none=>rw [ht] at hP; exact hP.elim
   | some r =>
    obtain⟨S',vcs⟩:=r;rw [ht] at hP
    cases vcs with
    | nil=>exact hK _ hP
    | cons c vcs=>exact⟨hP.1,hK _ hP.2⟩
 have hno:∀ S,(match Jd N B S o with
  | some S'=>Qq C N B l [] S' K
  | none => .ff 3:Fm).P->(match Jd N B S o' with
  | some S'=>Qq C N B l' rest' S' k
  | none => .ff 3:Fm).P:=by
  intro S hP;rw [hsk]
  cases ht:Jd N B S o with
  | none=>rw [ht] at hP; exact hP.elim
  | some r=>rw [ht] at hP; exact hK _ hP
 unfold Qq at h ⊢;dsimp only at h ⊢;rcases hw with hw|hw
 . rw [hw]
   cases hwv:Kb B S l o with
   | yes=>rw [hwv] at h; exact hgo S _ h
   | no=>rw [hwv] at h; exact hno S h
   | stuck=>rw [hwv] at h; exact h.elim
   | ask d c b =>
    rw [hwv] at h;dsimp only at h ⊢
    cases h1:Qy B S N d (.blit true) with
    | none=>rw [h1] at h; exact h.elim
    | some S1 =>
     rw [h1] at h
     cases h2:Qy B S N d (.blit false) with
     | none=>rw [h2] at h; exact h.elim
     | some S2 =>
      rw [h2] at h
      cases b with
      | true=>exact⟨fun q=>hgo S1 _ (h.1 q),fun q=>hno S2 (h.2 q)⟩
      | false=>exact⟨fun q=>hno S1 (h.1 q),fun q=>hgo S2 _ (h.2 q)⟩
 . rw [hw] at h;exact h.elim
theorem Z90 {σ:List Nat} {n i:Nat} (h:Y2 σ n=true) (hi:i<n):∃ j,σ[i]? = some j/\j<n:=by
 unfold Y2 at h;simp only [Bool.and_eq_true,List.all_eq_true,List.mem_range] at h;have h1:=h.2 i hi
 cases hs : σ[i]? with
 | none=>rw [hs] at h1; cases h1
 | some j =>
  rw [hs] at h1;simp only [Bool.and_eq_true,decide_eq_true_eq] at h1;exact⟨j,rfl,h1.1⟩
theorem Qp3 {σ:List Nat} {n j:Nat} (h:Y2 σ n=true) (hj:j<n) : σ[V8 σ j]? = some j:=by
 unfold Y2 at h;simp only [Bool.and_eq_true,List.all_eq_true,List.mem_range] at h;have h1:=h.1.2 j hj;exact eq_of_beq h1
theorem Q5n {σ:List Nat} {l:List Oper} {i j:Nat} {o:Oper} (h : σ[i]? = some j) (ho:l[j]? = some o):(Qr σ l)[i]? = some (Gx σ o):=by
 unfold Qr;rw [List.getElem?_map,h];simp only [Option.map_some];rw [ho]
theorem Qep {σ:List Nat} {l:List Oper} (h:Y2 σ l.length=true) (S:Sx) (o:Oper):Kb B S (Qr σ l) (Gx σ o)=Kb B S l o\/Kb B S l o = .stuck:=by
 obtain⟨dst,op,ty,pos,aft,gd⟩:=o
 cases gd with
 | none=>exact .inl rfl
 | some g =>
  obtain⟨j,b⟩:=g
  cases ho:l[j]? with
  | none =>
   right;unfold Kb;dsimp only;rw [ho];rfl
  | some oj =>
   left;have hj:=(List.getElem?_eq_some_iff.1 ho).1;have h2:=Q5n (Qp3 h hj) ho;unfold Kb;dsimp only [Gx];rw [h2,ho];rfl
theorem Qev {σ:List Nat} {l:List Oper} {k:Sx->Fm} (h:Y2 σ l.length=true):∀ (is:List Nat) (os:List Oper) (r:Sch) (k':Sx->Fm) (S:Sx),is.length=os.length->(∀ (q:Nat) o,os[q]? = some o->∃ i:Nat,σ[i]? = is[q]? /\ (Qr σ l)[i]? = some o)->(∀ S,(Zu C N B l r S k).P->(k' S).P)->(Zu C N B l (Qi is r) S k).P->(Qq C N B (Qr σ l) os S k').P
 | [],[],r,k',S,_,_,hr,hP=>by
  unfold Qq;exact hr S hP
 | i::is,o::os,r,k',S,hl,hq,hr,hP=>by
  obtain⟨q,h1,h2⟩:=hq 0 o rfl;have h1' : σ[q]? = some i:=by simpa using h1
  unfold Qi at hP;unfold Zu at hP
  cases ho:l[i]? with
  | none=>rw [ho] at hP; exact hP.elim
  | some o2 =>
   rw [ho] at hP;have h3:=Q5n h1' ho;rw [h2] at h3;cases h3;have hP':(Qq C N B l [o2] S fun S'=>Zu C N B l (Qi is r) S' k).P:=hP;exact Qbe (l:=l) (o:=o2) rfl rfl (Qep h S o2) (fun S hS=>Qev h is os r k' S (by simpa using hl) (fun q o hq'=>by simpa using hq (q+1) o (by simpa using hq')) hr hS) hP'
 | [],_::_,_,_,_,hl,_,_,_=>by simp at hl
 | _::_,[],_,_,_,hl,_,_,_=>by simp at hl
theorem Qqm {l:List Oper} {k:Sx->Fm} {S:Sx} {f:Nat->Sch} {g:Nat->Fm}:∀ {is:List Nat},(∀ i∈is,(Zu C N B l (f i) S k).P->(g i).P)->(Zu C N B l (Q9z is f) S k).P->(Qid is g).P
 | [],_,h=>by
  unfold Q9z Zu at h;exact h.elim
 | [i],hi,h=>hi i (.head _) h
 | i::j::is,hi,h=>by
  unfold Q9z Zu at h;exact⟨hi i (.head _) h.1,Qqm (is:=j::is) (fun q hq=>hi q (.tail _ hq)) h.2⟩
theorem Qqu {σ:List Nat} {l:List Oper} {k:Sx->Fm} (h:Y2 σ l.length=true):∀ (fuel:Nat) (done:List Nat) (S:Sx),(Zu C N B l (Q4x (Qr σ l) σ fuel done) S k).P->(Q13 C N B (Qr σ l) fuel done S k).P
 | 0,done,S,hP=>by
  unfold Q4x at hP;unfold Q13;split at hP
  . unfold Zu at hP;rename_i hr;rw [hr];exact hP
  . unfold Zu at hP;exact hP.elim
 | fuel+1,done,S,hP=>by
  unfold Q4x at hP;unfold Q13;dsimp only at hP ⊢;have hone:∀ i,(Zu C N B l (match (Qr σ l)[i]? with
   | some _=>match σ[i]? with
    | some j => .op j (Q4x (Qr σ l) σ fuel (i::done))
    | none => .bad
   | none => .bad) S k).P->(match (Qr σ l)[i]? with
   | some o=>Qq C N B (Qr σ l) [o] S fun S'=>Q13 C N B (Qr σ l) fuel (i::done) S' k
   | none => .ff 19:Fm).P:=by
   intro i hi
   cases ho:(Qr σ l)[i]? with
   | none=>rw [ho] at hi; unfold Zu at hi; exact hi.elim
   | some o =>
    rw [ho] at hi;dsimp only at hi ⊢
    cases hs : σ[i]? with
    | none=>rw [hs] at hi; unfold Zu at hi; exact hi.elim
    | some j =>
     rw [hs] at hi;dsimp only at hi;unfold Zu at hi
     cases ho2:l[j]? with
     | none=>rw [ho2] at hi; exact hi.elim
     | some o2 =>
      rw [ho2] at hi;have h3:=Q5n hs ho2;rw [ho] at h3;cases h3;have hi':(Qq C N B l [o2] S fun S'=>Zu C N B l (Q4x (Qr σ l) σ fuel (i::done)) S' k).P:=hi;refine Qbe (l:=l) (o:=o2) rfl rfl (Qep h S o2) (fun S hS => ?_) hi';unfold Qq;exact Qqu h fuel (i::done) S hS
  split at hP
  . rename_i hr;rw [hr];unfold Zu at hP;exact hP
  . rename_i i hr;rw [hr];exact hone i hP
  . rename_i is h1 h2;generalize Vq (Qr σ l) done=is at *
    cases is with
    | nil=>exact absurd rfl h1
    | cons i is =>
     cases is with
     | nil=>exact absurd rfl (h2 i)
     | cons j is =>
      dsimp only at hP ⊢
      cases hf:Q10 (Qr σ l) (i::j::is) with
      | some q=>rw [hf] at hP; exact hone q hP
      | none=>rw [hf] at hP; exact Qqm (fun q _ hq=>hone q hq) hP
theorem Z73 {ops:List Oper} {k:Sx->Fm} {S:Sx} (h:Y2 (Q81 (efs C.fs) ops) ops.length=true) (hP:(Zu C N B ops (Qx5 (efs C.fs) ops) S k).P):(Qkr C N B (Q03 (efs C.fs) ops) S k).P:=by
 unfold Qx5 at hP;dsimp only at hP;unfold Qkr Qvw;unfold Q03 at hP ⊢;generalize hnp:Q0e (efs C.fs) (Qr (Q81 (efs C.fs) ops) ops)=np at *
 generalize Q81 (efs C.fs) ops = σ at *
 have hlen : σ.length=ops.length:=by
  unfold Y2 at h;simp only [Bool.and_eq_true] at h;exact eq_of_beq h.1.1
 have hpl:(Qr σ ops).length = σ.length:=by unfold Qr; simp
 refine Qev h (σ.take np) _ _ _ S (by rw [List.length_take,List.length_take,hpl]) (fun q o hq=>⟨q,?_,?_⟩) (fun S' hS' => ?_) hP
 . rw [List.getElem?_take] at hq ⊢;split at hq
   . rename_i hlt; rw [if_pos hlt]
   . cases hq
 . rw [List.getElem?_take] at hq;split at hq
   . exact hq
   . cases hq
 . cases hc:Q9u (Qr σ ops) np with
   | true =>
    rw [hc] at hS';dsimp only at hS' ⊢;refine Qev h (σ.drop np) _ _ _ S' (by rw [List.length_drop,List.length_drop,hpl]) (fun q o hq=>⟨np+q,?_,?_⟩) (fun S2 hS2 => ?_) hS'
    . rw [List.getElem?_drop]
    . rw [List.getElem?_drop] at hq;exact hq
    . unfold Zu at hS2;exact hS2
   | false =>
    rw [hc] at hS';dsimp only at hS' ⊢;exact Qqu h _ _ _ hS'
end
inductive Wf (ef:List Nat) (sc:List (Nat×Sch)) (lt:List (Nat×Lat)) (N:Nat):Bs->List Kt->Prop
 | nil (B):Wf ef sc lt N B []
 | code (B c K) (hc:Yj ef sc lt N c=true) (h:Wf ef sc lt N B K):Wf ef sc lt N B (.code c::K)
 | block (B id K) (h:Wf ef sc lt N B K):Wf ef sc lt N B (.block id::K)
 | back (Bo K' f K) (hT:∀ d x,Q3 Bo.t d=some x->Q3 K'.t d=none) (hE:∀ l e,Q3 Bo.e l=some e->Q3 K'.e l=none) (h:Wf ef sc lt N Bo K):Wf ef sc lt N (Vn K' Bo) (.back Bo K' f::K)
 | again (B b K) (hc:Yj ef sc lt N b=true) (h:Wf ef sc lt N B K):Wf ef sc lt N B (.again b::K)
section
variable {w w' w0:World} {ρ ρ' ρ2:Nat->Option Rl} {base n:Nat} {ro ro':Nat->Prop} {S0:Pm} {N:Nat} {B:Bs} {S:Sx} {a:Act} {F:Fx} {P:Program}
theorem Q8m {p:Nat->Bool}:∀ {l:List AV},(∀ (j:Nat) x,l[j]? = some x->AV.under p x=true)->AV.underL p l=true
 | [],_=>rfl
 | x::l,h=>by
  unfold AV.underL;rw [h 0 x rfl,Q8m fun j y hy=>h (j+1) y (by simpa using hy)];rfl
theorem AVR.under_of {x:AV} {v:Value} (h:AVR w ρ base ro x v) (hn:∀ l,n<=l -> ρ l=none):AV.under (ltB n) x=true:=by
 have hlt:∀ l r,ρ l=some r->l<n:=fun l r h=>by
  rcases Nat.lt_or_ge l n with h1|h1
  . exact h1
  . rw [hn l h1] at h; cases h
 have hl:∀ {l:List AV} {vs:List Value},l.length=vs.length->(∀ (j:Nat) x v,l[j]? = some x->vs[j]? = some v->AV.under (ltB n) x=true)->AV.underL (ltB n) l=true:=by
  intro l vs hlen h;refine Q8m fun j x hx => ?_;have hj:=(List.getElem?_eq_some_iff.1 hx).1;exact h j x _ hx (List.getElem?_eq_getElem (by rw [<- hlen]; exact hj))
 induction h with
 | un=>rfl
 | int=>rfl
 | lit=>rfl
 | bool=>rfl
 | blit=>rfl
 | str=>rfl
 | nil=>rfl
 | sl=>rfl
 | wide=>rfl
 | pto cells off b o cs hr hlt2 hlen hc h ih=>exact hl hlen ih
 | ptr l off b h=>simpa [AV.under,ltB] using hlt _ _ h
 | mp l b h=>simpa [AV.under,ltB] using hlt _ _ h
 | stamp l b h=>simpa [AV.under,ltB] using hlt _ _ h
 | it l l2 b h=>simpa [AV.under,ltB] using hlt _ _ h
 | own l A n' c h=>simpa [AV.under,ltB] using hlt _ _ h
 | orp t l k off A n' c b h hA h0 hn'=>simpa [AV.under,ltB] using hlt _ _ h
 | osl t l a b A n' c h hab=>simpa [AV.under,ltB] using hlt _ _ h
 | agg l vs hlen h ih=>exact hl hlen ih
 | tup l vs hlen h ih=>exact hl hlen ih
 | fn f caps vs hlen h ih=>exact hl hlen ih
theorem Qm3:∀ (l:List Nat) (n:Nat),n<=Q2k n l
 | [],n=>Nat.le_refl _
 | k::l,n=>by
  unfold Q2k;split
  . exact Qm3 l n
  . have:=Qm3 l (k+1); omega
theorem Q8j {md locs:List Nat} {n d:Nat} {x:AV}:∀ {l:List (Nat×AV)},Q3 (Q0o md locs n l) d=some x->(∃ y,Q3 l d=some y/\(x=y\/x = .un))/\AV.under (ltB n) x=true
 | (k,y)::l,h=>by
  unfold Q0o at h;split at h
  . rename_i hm;obtain⟨⟨z,h1,h2⟩,h3⟩:=Q8j h;refine⟨?_,h3⟩;rw [Qb];split
    . exact absurd h (by
       rename_i e;subst e;have:∀ l:List (Nat×AV),Q3 (Q0o md locs n l) k=none:=by
        intro l
        induction l with
        | nil=>rfl
        | cons p l ih =>
         obtain⟨k',y'⟩:=p;unfold Q0o;split
         . exact ih
         . rename_i hm';rw [Qb,if_neg (by rintro rfl; exact hm' hm)];exact ih
       rw [this l]
       simp)
    . exact⟨z,h1,h2⟩
  . rw [Qb] at h;rw [Qb];split at h
    . rename_i e;rw [if_pos e];injection h with h;subst h;split
      . exact⟨⟨y,rfl,.inr rfl⟩,rfl⟩
      . rename_i hc;simp only [Bool.or_eq_true,not_or,Bool.not_eq_true,Bool.not_eq_false'] at hc;exact⟨⟨y,rfl,.inl rfl⟩,by simpa using hc.2⟩
    . rename_i e;rw [if_neg e];exact Q8j h
 | [],h=>by cases h
theorem Qxk {md locs:List Nat} {n d:Nat} {l:List (Nat×AV)} (h:Q3 l d=none):Q3 (Q0o md locs n l) d=none:=by
 cases hk:Q3 (Q0o md locs n l) d with
 | none=>rfl
 | some x =>
  obtain⟨⟨y,h1,_⟩,_⟩:=Q8j hk;rw [h] at h1;cases h1
theorem Qcr {locs:List Nat} {n:Nat}:∀ {l:List AV} {j:Nat} {x:AV},(Q8d locs n l)[j]? = some x->∃ y,l[j]? = some y/\(x=y\/x = .un)/\AV.under (ltB n) x=true
 | [],j,x,h=>by simp [Q8d] at h
 | y::l,0,x,h=>by
  simp only [Q8d,List.getElem?_cons_zero,Option.some.injEq] at h;subst h;refine⟨y,rfl,?_⟩;split
  . exact⟨.inr rfl,rfl⟩
  . rename_i hc;simp only [Bool.or_eq_true,not_or,Bool.not_eq_true,Bool.not_eq_false'] at hc;exact⟨.inl rfl,by simpa using hc.2⟩
 | y::l,j+1,x,h=>by
  obtain⟨z,h1,h2⟩:=Qcr (l:=l) (j:=j) (x:=x) (by simpa [Q8d] using h);exact⟨z,by simpa using h1,h2⟩
theorem Qnq {locs:List Nat} {n:Nat}:∀ (l:List AV),(Q8d locs n l).length=l.length
 | []=>rfl
 | x::l=>by simp [Q8d,Qnq l]
theorem Q26 {locs:List Nat} {n k:Nat}:∀ (l:List (Nat×En)),Q3 (Q3z locs n l) k=if Qw k locs||decide (n<=k) then none else (Q3 l k).map (Qrp locs n)
 | []=>by simp [Q3z,Q3]
 | (k',e')::l=>by
  unfold Q3z;by_cases e:k'=k
  . subst e;split
    . rename_i hc;rw [Q26 l,if_pos hc]
    . rw [Qb,if_pos rfl,Qb,if_pos rfl];rfl
  . rw [Qb,if_neg e];split
    . exact Q26 l
    . rw [Qb,if_neg e]; exact Q26 l
structure Z9x (n:Nat) (B2:Bs):Prop where
 t:∀ d x,Q3 B2.t d=some x->AV.under (ltB n) x=true
 e:∀ l e,Q3 B2.e l=some e->l<n/\En.under (ltB n) e=true
theorem Qm0 (H:Zi w0 S0 N B S a w ρ ro) {md locs:List Nat} (hn:S.n<=n) (B2:Bs) (hB2:B2=Vn ⟨Q0o md locs n S.t,Q3z locs n S.e⟩ B) :
 Z9x n B2/\(∀ d x,Q3 B2.t d=some x->∃ u,a.tmps[d]? = some u/\AVR w ρ w0.heap.size ro x u)/\(∀ l e,Q3 B2.e l=some e->EnR w ρ w0.heap.size ro l e)/\(∀ d x,Q3 B.t d=some x->Q3 (Q0o md locs n S.t) d=none)/\∀ l e,Q3 B.e l=some e->Q3 (Q3z locs n S.e) l=none:=by
 subst hB2;have hfr:∀ l,n<=l -> ρ l=none:=fun l hl=>H.fresh l (Nat.le_trans hn hl);have hT:∀ d x,Q3 (Vn ⟨Q0o md locs n S.t,Q3z locs n S.e⟩ B).t d=some x->(∃ u,a.tmps[d]? = some u/\AVR w ρ w0.heap.size ro x u)/\AV.under (ltB n) x=true:=by
  intro d x hx;unfold Vn at hx;dsimp only at hx;rw [K4] at hx;split at hx
  . rename_i y hy;cases hx;obtain⟨⟨z,h1,h2⟩,h3⟩:=Q8j hy;obtain⟨u,h4,h5⟩:=H.tm d z (by unfold Zh; rw [h1]);refine⟨⟨u,h4,?_⟩,h3⟩;rcases h2 with rfl|rfl
    . exact h5
    . exact .un _
  . obtain⟨u,h4,h5⟩:=H.tm d x (by unfold Zh; rw [H.disT d x hx]; exact hx);exact⟨⟨u,h4,h5⟩,h5.under_of hfr⟩
 have hE:∀ l e,Q3 (Vn ⟨Q0o md locs n S.t,Q3z locs n S.e⟩ B).e l=some e->EnR w ρ w0.heap.size ro l e/\l<n/\En.under (ltB n) e=true:=by
  have hml:∀ ml r,ρ ml=some r->ml<n:=fun ml r hr=>by
   rcases Nat.lt_or_ge ml n with h|h
   . exact h
   . rw [hfr ml h] at hr; cases hr
  intro l e he;have hlt:∀ e,EnR w ρ w0.heap.size ro l e->l<n:=fun e he=>by
   obtain⟨r,hr⟩:=he.none;rcases Nat.lt_or_ge l n with h|h
   . exact h
   . rw [hfr l h] at hr; cases hr
  unfold Vn at he;dsimp only at he;rw [K4] at he;split at he
  . rename_i y hy;cases he;rw [Q26] at hy;split at hy
    . cases hy
    . cases hl:Q3 S.e l with
      | none=>rw [hl] at hy; cases hy
      | some z =>
       rw [hl] at hy;simp only [Option.map_some,Option.some.injEq] at hy;subst hy;have h1:=H.en l z (by unfold Qh; rw [hl])
       cases z with
       | row fr t T m=>exact⟨h1,hlt _ h1,rfl⟩
       | map fr ag c t T m=>exact⟨h1,hlt _ h1,rfl⟩
       | dead=>exact⟨h1,hlt _ h1,rfl⟩
       | stamp ml c key=>exact⟨h1.none,hlt _ h1,rfl⟩
       | iter ml c seen left =>
        unfold Qrp;dsimp only;split
        . exact⟨h1.none,hlt _ h1,rfl⟩
        . rename_i hc;simp only [Bool.or_eq_true,not_or,decide_eq_true_eq] at hc;exact⟨h1,hlt _ h1,by simp only [En.under,ltB,decide_eq_true_eq]; omega⟩
       | box T cs =>
        obtain⟨b,us,k1,k4,k5⟩:=h1;refine⟨⟨b,us,k1,k4,by rw [Qnq]; exact k5.1,fun j x v hx hv => ?_⟩,hml _ _ k1,Q8m fun j x hx=>(Qcr hx).elim fun y q=>q.2.2⟩;obtain⟨y,q1,q2,_⟩:=Qcr hx;rcases q2 with rfl|rfl
        . exact k5.2 j _ v q1 hv
        . exact .un _
  . have h1:=H.en l e (by unfold Qh; rw [H.disE l e he]; exact he);refine⟨h1,hlt e h1,?_⟩
    cases e with
    | box T cs =>
     obtain⟨b,us,k1,k4,k5⟩:=h1;refine Q8m fun j x hx => ?_;obtain⟨v,hv,hr⟩:=k5.get hx;exact hr.under_of hfr
    | row fr t T m=>rfl
    | map fr ag c t T m=>rfl
    | dead=>rfl
    | iter ml c seen left =>
     obtain⟨b,b2,es,clock,since,stamps,c0,k1,k2,k3⟩:=h1;simpa [En.under,ltB] using hml _ _ k2
    | stamp ml c key =>
     obtain⟨b,es,clock,s,e,k1,k2,k3⟩:=h1;simpa [En.under,ltB] using hml _ _ k2
 refine⟨⟨fun d x hx=>(hT d x hx).2,fun l e he=>(hE l e he).2⟩,fun d x hx=>(hT d x hx).1,fun l e he=>(hE l e he).1,fun d x hx=>Qxk (H.disT d x hx),fun l e he => ?_⟩;rw [Q26,H.disE l e he];split<;>rfl
theorem Qsg {K':Bs} (hT:∀ d x,Q3 B.t d=some x->Q3 K'.t d=none) (hE:∀ l e,Q3 B.e l=some e->Q3 K'.e l=none) (H:Sim w0 S0 N (Vn K' B) S a w):Sim w0 S0 N B (Q6k K' S) a w:=by
 obtain⟨ρ,ro,H⟩:=H;have hlT:∀ d,Zh B (Q6k K' S) d=Zh (Vn K' B) S d:=by
  intro d;unfold Zh Q6k Vn;dsimp only;rw [K4,K4];cases Q3 S.t d<;>cases Q3 K'.t d<;>rfl
 have hlE:∀ d,Qh B (Q6k K' S) d=Qh (Vn K' B) S d:=by
  intro d;unfold Qh Q6k Vn;dsimp only;rw [K4,K4];cases Q3 S.e d<;>cases Q3 K'.e d<;>rfl
 refine⟨ρ,ro,H.from_,H.size,H.defers,H.roB,fun d x hx=>H.tm d x (by rw [<- hlT]; exact hx),fun l e he=>H.en l e (by rw [<- hlE]; exact he),H.apart,H.fresh,H.own,H.roS,H.solid,fun d x hx => ?_,fun l e he => ?_⟩
 . unfold Q6k;dsimp only;have h1:Q3 S.t d=none:=H.disT d x (by unfold Vn; dsimp only; rw [K4,hT d x hx]; exact hx);rw [K4,h1];exact hT d x hx
 . unfold Q6k;dsimp only;have h1:Q3 S.e l=none:=H.disE l e (by unfold Vn; dsimp only; rw [K4,hE l e he]; exact he);rw [K4,h1];exact hE l e he
def KQ (F:Fx) (w0:World) (S0:Pm) (n:Nat) (B:Bs) (K:List Kt):Exit->Act->World->Prop
 | .normal,a,w=>∃ f S,f<=n/\Sim w0 S0 F.N B S a w/\(Q07 F f B S K).P
 | .exit id,a,w=>∃ f S,f<=n/\Sim w0 S0 F.N B S a w/\(Gh F f id B S K).P
 | .ret,a,w=>∃ f S,f<=n/\Sim w0 S0 F.N B S a w/\(Ke F f B S K).P
 | _,_,_=>False
theorem KQ.more {m:Nat} {K:List Kt} {e:Exit} (h:KQ F w0 S0 n B K e a w) (hm:n<=m):KQ F w0 S0 m B K e a w:=by
 cases e with
 | normal=>obtain⟨f,S,h1,h2⟩:=h; exact⟨f,S,Nat.le_trans h1 hm,h2⟩
 | exit id=>obtain⟨f,S,h1,h2⟩:=h; exact⟨f,S,Nat.le_trans h1 hm,h2⟩
 | ret=>obtain⟨f,S,h1,h2⟩:=h; exact⟨f,S,Nat.le_trans h1 hm,h2⟩
 | goto l=>exact h.elim
 | panic c=>exact h.elim
 | outgrown=>exact h.elim
theorem Qsx {ov:List (Nat×AV)} {oe:List (Nat×En)} (h:(eqS B S ov oe).P):∃ ta tb,Qmh B S ov=some ta/\Q2t none B S oe=some tb/\∀ c∈ta++tb,c ():=by
 unfold eqS at h;split at h
 . rename_i ta tb h1 h2;exact⟨ta,tb,h1,h2,Q87 h⟩
 . exact h.elim
theorem Zi.bare (H:Zi w0 S0 N B S a w ρ ro):Zi w0 S0 N B ⟨[],[],S.n⟩ a w ρ ro:=by
 refine⟨H.from_,H.size,H.defers,H.roB,fun d x h=>H.tm d x ?_,fun l e h=>H.en l e ?_,H.apart,H.fresh,H.own,H.roS,H.solid,fun _ _ _=>rfl,fun _ _ _=>rfl⟩
 . have h':Q3 B.t d=some x:=h;unfold Zh;rw [H.disT d x h'];exact h'
 . have h':Q3 B.e l=some e:=h;unfold Qh;rw [H.disE l e h'];exact h'
end
section
variable {α β:Type}
def Rds (s:Sem α):Prop:=∀ P w u w',s.run P w = .ok u w'->w'=w
def Nok (s:Sem α):Prop:=∀ P w u w',s.run P w ≠ .ok u w'
theorem Rds.pure (a : α):Rds (Pure.pure a:Sem α):=fun P w u w' h=>by
 rw [Sem.run_pure] at h;injection h with h1 h2;exact h2.symm
theorem Rds.bind {s:Sem α} {f : α->Sem β} (hs:Rds s) (hf:∀ a,Rds (f a)):Rds (s >>= f):=fun P w u w' h=>by
 rw [Sem.run_bind] at h
 cases hr:s.run P w with
 | ok a w1 =>
  rw [hr] at h;have:=hs P w a w1 hr;subst this;exact hf a P _ u w' h
 | halt x w1=>rw [hr] at h; cases h
theorem Nok.rds {s:Sem α} (h:Nok s):Rds s:=fun P w u w' hr=>absurd hr (h P w u w')
theorem Nok.bind {s:Sem α} {f : α->Sem β} (hf:∀ a,Nok (f a)):Nok (s >>= f):=fun P w u w' h=>by
 rw [Sem.run_bind] at h
 cases hr:s.run P w with
 | ok a w1=>rw [hr] at h; exact hf a P _ u w' h
 | halt x w1=>rw [hr] at h; cases h
theorem Nok.halt (x:Halt):Nok (.halt x:Sem α):=fun P w u w' h=>by cases h
theorem Q96 (v:Value):Nok (goPanic v:Sem α):=Nok.halt _
theorem Vi (s:String):Nok (stuck s:Sem α):=Nok.halt _
theorem Qa3 (u:Unsupported):Nok (unsupported u:Sem α):=Nok.halt _
theorem Rds.program:Rds program:=fun P w u w' h=>by
 have h2:Result.ok P w=Result.ok u w':=h;injection h2 with _ h3;exact h3.symm
theorem Z10 (e:RuntimeError):Nok (runtimePanic e:Sem α):=by
 unfold runtimePanic;refine Nok.bind fun p => ?_;dsimp only;cases e<;>first
  | exact Q96 _
  | (refine Nok.bind fun r => ?_; first|exact Q96 _|(refine Nok.bind fun r => ?_; exact Q96 _))
theorem Qwg (k:IntKind) (x y:Int) (c:BoundsCode):Nok (boundsPanic k x y c:Sem α):=by
 unfold boundsPanic;dsimp only;split
 . exact Nok.bind fun _=>Z10 _
 . exact Nok.bind fun _=>Z10 _
theorem Z39 (t:TypeId):Rds (typeInfo t):=by
 unfold typeInfo;refine Rds.program.bind fun p => ?_;split
 . exact Rds.pure _
 . exact (Vi _).rds
theorem Q2x (t:TypeId):Rds (underlying t):=by
 unfold underlying;refine Rds.program.bind fun p => ?_;split
 . exact Rds.pure _
 . exact (Vi _).rds
theorem Qgs (t:TypeId):Rds (sizeOf t):=by
 unfold sizeOf;exact (Z39 t).bind fun _=>Rds.pure _
theorem Z5e (t:TypeId):Rds (isAgg t):=by
 unfold isAgg;refine (Q2x t).bind fun d => ?_;split<;>exact Rds.pure _
theorem Qt5 (a:Addr):Rds (load a):=fun P w u w' h=>by
 unfold load at h;simp only [Sem.run] at h;split at h
 . injection h with _ h2; exact h2.symm
 . split at h
   . injection h with _ h2; exact h2.symm
   . cases h
theorem Qoq (a:Addr):∀ (n i:Nat) (acc:Array Value),Rds (loadCellsFrom a i n acc)
 | 0,_,_=>Rds.pure _
 | n+1,i,acc=>(Qt5 _).bind fun v=>Qoq a n (i+1) _
theorem Z6q (t:TypeId) (a:Addr):Rds (loadVar t a):=by
 unfold loadVar;refine (Z5e t).bind fun b => ?_;split
 . refine (Qgs t).bind fun n => ?_;exact (Qoq a n 0 _).bind fun _=>Rds.pure _
 . exact Qt5 a
theorem Qh6 (v:Value):Rds (Instr.sureAddr v):=by
 unfold Instr.sureAddr;split
 . exact Rds.pure _
 . exact (Vi _).rds
theorem Qwv (t:TypeId) (v:Value):Rds (Instr.loadAt t v):=(Qh6 v).bind fun a=>Z6q t a
theorem Qnr (r:Nat):Rds (shape r):=fun P w u w' h=>by
 have h2:Result.ok (w.shape? r) w=Result.ok u w':=h;injection h2 with _ h3;exact h3.symm
theorem Z5x (v:Value):Rds (asIntOf v):=by
 unfold asIntOf;split
 . exact Rds.pure _
 . exact (Qa3 _).rds
 . exact (Vi _).rds
theorem Qtm (t:TypeId) (x i:Value):Rds (Instr.indexAt t x i):=by
 unfold Instr.indexAt;refine (Z5x i).bind fun p => ?_;obtain ⟨k, n⟩ := p;dsimp only;refine (Q2x t).bind fun d => ?_;have hb : ∀ (len : Nat) (y : Int), Rds (boundsPanic k y len .index : Sem Value) := fun _ _ => (Qwg _ _ _ _).rds;have hc : ∀ (a : Addr) (len elem : Nat) (q : Bool), Rds (if 0 <= n /\ n < len then do pure (Value.pointer (some (a.add (n.toNat * (<- sizeOf elem))))) else if q = true then unsupported (.noEntry "op/indexAddr.an index out of range at an array of length 0 or 1 (ledger 616)") else boundsPanic k n len .index : Sem Value) := by
  intro a len elem q;split
  . exact (Qgs _).bind fun _=>Rds.pure _
  . split
    . exact (Qa3 _).rds
    . exact hb _ _
 split
 . refine (Qh6 _).bind fun _=>(Rds.pure _).bind fun q=>(Q2x _).bind fun d => ?_;obtain⟨base,len,elem⟩:=q
   cases base with
   | none=>exact hb 0 _
   | some a=>exact hc a len elem _
 . refine (Rds.pure _).bind fun q=>(Q2x _).bind fun d => ?_;obtain⟨base,len,elem⟩:=q
   cases base with
   | none=>exact hb 0 _
   | some a=>exact hc a len elem _
 . refine ((Vi _).rds).bind fun q=>(Q2x _).bind fun d => ?_;obtain⟨base,len,elem⟩:=q
   cases base with
   | none=>exact hb 0 _
   | some a=>exact hc a len elem _
theorem Z0z (op:UnOp) (x:Value):Rds (Op.unary op x):=by
 unfold Op.unary;split
 . exact Rds.pure _
 . unfold Op.intBits;exact Rds.pure _
 . exact Rds.pure _
 . exact Rds.pure _
 . exact Rds.pure _
 . exact (Qa3 _).rds
 . exact (Qa3 _).rds
 . exact (Vi _).rds
theorem Qu8 (v:Value) (i:Nat):Rds (Instr.extract v i):=by
 unfold Instr.extract;split
 . split
   . exact Rds.pure _
   . exact (Vi _).rds
 . exact (Vi _).rds
theorem Z64 (r:Nat):Rds (getObj r):=fun P w u w' h=>by
 unfold getObj at h;simp only [Sem.run] at h;split at h
 . cases h
 . injection h with _ h2; exact h2.symm
 . cases h
theorem Qy0 (a:Addr):Rds (noView a):=by
 unfold noView;refine Rds.bind ?_ fun v => ?_
 . unfold viewAt;refine (Qnr _).bind fun q => ?_;split
   . exact Rds.pure _
   . refine (Z64 _).bind fun o => ?_;split<;>exact Rds.pure _
 . split
   . exact (Qa3 _).rds
   . exact Rds.pure _
theorem Qio (a:Addr):Rds (byteOf a):=by
 unfold byteOf;have ht:∀ (p:Program),Rds (do
  noView a
  let some (e, _) <- shape a.block | stuck "byteOf: no such block"
  let s:=p.cellsOf e
  if s=0 then return 0
  let some b := byteOfCell p p.depth e (a.off % s) | stuck "byteOf: no such cell"
  pure (a.off / s*p.bytesOf e+b)):=fun p=>by
  refine (Qy0 a).bind fun _=>(Qnr _).bind fun q => ?_;split
  . dsimp only;split
    . exact Rds.pure _
    . split
      . exact Rds.pure _
      . exact (Vi _).rds
  . exact (Vi _).rds
 split
 . exact Rds.pure _
 . exact Rds.program.bind ht
theorem Qzi (a:Addr) (f:Field):Rds (fieldPlace a f):=by
 unfold fieldPlace partAt;refine (Qgs _).bind fun n => ?_;split
 . exact (Qio _).bind fun _=>(Qio _).bind fun _=>Rds.pure _
 . exact Rds.pure _
theorem Qum (t:TypeId) (x:Value) (i:Nat):Rds (Instr.fieldAt t x i):=by
 unfold Instr.fieldAt;refine (Q2x t).bind fun d => ?_;split
 . split
   . exact (Qh6 _).bind fun a=>(Qzi _ _).bind fun _=>Rds.pure _
   . exact (Vi _).rds
 . exact (Vi _).rds
theorem Qt9 {o:Oper} (h:Q4v o.op=true) (r:Operand->Value) {P:Program} {w w':World} {n:Next} (hr:(execOp r o).run P w = .ok n w'):w'=w/\∃ v,n = .value v:=by
 have hv:∀ {s:Sem Value},Rds s->(Sem.run P (do pure (Next.value (<- s))) w = .ok n w')->w'=w/\∃ v,n = .value v:=by
  intro s hs h;rw [Sem.run_bind] at h
  cases hr:s.run P w with
  | ok a w1 =>
   rw [hr] at h;have h1:=hs P w a w1 hr;subst h1;have h2:Result.ok (Next.value a) w1=Result.ok n w':=h;injection h2 with h3 h4;exact⟨h4.symm,a,h3.symm⟩
  | halt x w1=>rw [hr] at h; cases h
 unfold execOp at hr;cases hop:o.op<;>rw [hop] at h hr<;>simp only [Q4v,Bool.false_eq_true] at h
 . rw [Sem.run_pure] at hr; injection hr with h1 h2; exact⟨h2.symm,_,h1.symm⟩
 . rw [Sem.run_pure] at hr; injection hr with h1 h2; exact⟨h2.symm,_,h1.symm⟩
 . exact hv (Qwv _ _) hr
 . exact hv (Z0z _ _) hr
 . exact hv (Qum _ _ _) hr
 . exact hv (Qtm _ _ _) hr
 . exact hv (Qu8 _ _) hr
end
section
variable {P:Program} {ops:Array Oper} {Q:Exit->Act->World->Prop} {md:Region.Mode}
def Gb (P:Program) (ops:Array Oper) (o:Oper) (v:Value) (a:Act) (w:World):Prop :=
 (Region.wanted o (yielded ops a.tmps)=true/\(execOp a.eval o).run P w = .ok (.value v) w)\/(Region.wanted o (yielded ops a.tmps)=false/\v=undef)
theorem Gb.wpOp {i:Nat} {o:Oper} {v:Value} {a:Act} {w:World} (hi:ops[i]? = some o) (hy:Gb P ops o v a w) {K:Act->World->Prop} (h:K (a.put o.dst v) w):wpOp P ops Q i K a w:=by
 unfold Go.wpOp;simp only [hi];rcases hy with ⟨hw,hv⟩|⟨hw,rfl⟩
 . simp only [hw,if_true,Oper.wp,hv,Oper.upon]; exact .inl h
 . simp only [hw,Bool.false_eq_true,if_false]; exact h
theorem Gb.of_same {o:Oper} {v:Value} {a a':Act} {w:World} (hy:Gb P ops o v a w) (he:execOp a'.eval o=execOp a.eval o) (hw:Region.wanted o (yielded ops a'.tmps)=Region.wanted o (yielded ops a.tmps)):Gb P ops o v a' w:=by
 unfold Gb at *
 rw [he,hw];exact hy
theorem Qx3 {j:Nat} {oi oj:Oper} {v:Value} (hj:ops[j]? = some oj) (hst:Q4v oj.op=true) (hap:oi.apart ops oj=true)
 (hsi:∀ cs b,oi.op ≠ .select cs b) (hsj:∀ cs b,oj.op ≠ .select cs b) (hQ:∀ c a w,¬ Q (.panic c) a w) {K:Act->World->Prop} {a:Act} {w:World}
 (hy:Gb P ops oi v a w) (h:wpOp P ops Q j K (a.put oi.dst v) w) :
 wpOp P ops Q j (fun a' w'=>Gb P ops oi v a' w'/\K (a'.put oi.dst v) w') a w:=by
 obtain⟨h1,h2,h3⟩:=Oper.apart_spec hap;have keep:∀ (a:Act),Gb P ops oi v a w->∀ u,Gb P ops oi v (a.put oj.dst u) w:=fun a hy u =>
  hy.of_same (execOp_put oi hsi a oj.dst u h3) (wanted_put oi a oj.dst u h3)
 unfold wpOp at *
 simp only [hj] at *
 rw [wanted_put oj a oi.dst v h1] at h;split
 . rename_i hw;simp only [hw,if_true] at h;rcases h with h|⟨hasks,hlets⟩
   case inr=>exact .inr ⟨by unfold Oper.asks at *; rw [execOp_put oj hsj a oi.dst v h1] at hasks; exact hasks,hlets⟩
   refine .inl ?_;unfold Oper.wp at *
   rw [execOp_put oj hsj a oi.dst v h1] at h
   cases hr:(execOp a.eval oj).run P w with
   | ok n w' =>
    obtain⟨rfl,u,rfl⟩:=Qt9 hst _ hr;rw [hr] at h;simp only [Oper.upon] at h ⊢;exact⟨keep a hy u,by rw [<- Act.put_comm a v u h2]; exact h⟩
   | halt x w' =>
    rw [hr] at h;cases x<;>simp only [Oper.upon] at h ⊢
    case panic u=>exact (hQ _ _ _ h).elim
 . rename_i hw;simp only [hw] at h;exact⟨keep a hy _,by rw [<- Act.put_comm a v undef h2]; exact h⟩
theorem Qyf {i:Nat} {oi:Oper} {K:Act->World->Prop} {a:Act} {w:World} (hi:ops[i]? = some oi) (hst:Q4v oi.op=true) (hQ:∀ c a w,¬ Q (.panic c) a w) (hO:¬ LetsOut Q) (h:wpOp P ops Q i K a w):∃ v,Gb P ops oi v a w/\K (a.put oi.dst v) w:=by
 unfold wpOp at h;simp only [hi] at h;split at h
 . rename_i hw;rcases h with h|⟨_,h⟩
   . unfold Oper.wp at h
     cases hr:(execOp a.eval oi).run P w with
     | ok n w' =>
      obtain⟨rfl,u,rfl⟩:=Qt9 hst _ hr;rw [hr] at h;exact⟨u,.inl ⟨hw,hr⟩,h⟩
     | halt x w' =>
      rw [hr] at h;cases x<;>simp only [Oper.upon] at h
      case panic u=>exact (hQ _ _ _ h).elim
   . exact absurd h hO
 . rename_i hw;exact⟨undef,.inr ⟨by simpa using hw,rfl⟩,h⟩
theorem Qus {i:Nat} {oi:Oper} {v:Value} (hi:ops[i]? = some oi) (hsel:∀ (j:Nat) (o:Oper) cs b,ops[j]? = some o->o.op ≠ .select cs b) (hQ:∀ c a w,¬ Q (.panic c) a w) :
 ∀ (fuel:Nat) (listed:Array Bool) (a:Act) (w:World),Vz md ops listed ->
  (∀ (j:Nat) oj,ops[j]? = some oj->j≠i->listed.getD j true=false->Q1r md ops ops.size j i=false->oi.apart ops oj=true/\Q4v oj.op=true) ->
  i∈Region.ready md ops listed->Gb P ops oi v a w ->
  wpAny P md ops Q fuel (listed.setIfInBounds i true) (a.put oi.dst v) w->wpAny P md ops Q (fuel+1) listed a w:=by
 intro fuel
 induction fuel with
 | zero =>
  intro listed a w _ _ hr hy H;refine⟨fun h=>(by rw [h] at hr; cases hr),fun j hj => ?_⟩;by_cases hji:j=i
  . subst hji; exact hy.wpOp hi H
  . have:=ready_mono hj hji;rw [H.1] at this;cases this
 | succ fuel ih =>
  intro listed a w hcl hfree hr hy H;refine⟨fun h=>(by rw [h] at hr; cases hr),fun j hj => ?_⟩;by_cases hji:j=i
  . subst hji; exact hy.wpOp hi H
  . have h1:=H.2 j (ready_mono hj hji);obtain⟨hjun,oj,hoj,hall⟩:=mem_ready.1 hj;have hnw:Q1r md ops ops.size j i=false:=by
     cases hww:Q1r md ops ops.size j i with
     | false=>rfl
     | true =>
      have h1:=J2 hcl _ j i oj hoj hall hww;have h0:=(mem_ready.1 hr).1;rcases Nat.lt_or_ge i listed.size with h'|h'
      . simp [h'] at h0 h1; rw [h0] at h1; cases h1
      . simp [Array.getElem?_eq_none h'] at h1
    obtain⟨hap,hst⟩:=hfree j oj hoj hji hjun hnw;have h2:=Qx3 hoj hst hap (fun cs b=>hsel i oi cs b hi) (fun cs b=>hsel j oj cs b hoj) hQ hy h1;refine wpOp_mono (fun a' w' h3 => ?_) h2;refine ih (listed.setIfInBounds j true) a' w' (hcl.set_ hj) (fun k ok hk hki hun hno => ?_) (ready_mono hr (Ne.symm hji)) h3.1 ?_
    . refine hfree k ok hk hki ?_ hno;by_cases hjk:j=k
      . subst hjk; exact hjun
      . rw [getD_set_ne true hjk] at hun; exact hun
    . rw [Array.setIfInBounds_comm _ _ hji];exact h3.2
end
end Go.Proofs.YtffeegebohigdaaGreat
