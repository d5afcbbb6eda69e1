/-
  The abstract run: what is as is wanted, in memory; the states of a loop.
-/
import Derived.Test.YtfdjcakgolenbaaGreatMu26
set_option linter.unusedVariables false
set_option linter.unusedSimpArgs false
namespace Go.Proofs.YtfdjcakgolenbaaGreat
open Go.RowKit
section
variable {w w' w0 : World} {ρ ρ' ρ2 : Nat → Option Rl} {base : Nat} {p : Nat → Bool} {fz : Option (List Nat)} {ro ro' ro2 : Nat → Prop} {S0 : Pm} {N : Nat} {B : Bs} {S : Sx} {a : Act}
theorem AVR.sameL {fr fr' : Bool} {t : Tc} {l m : Unit → List t.el} {v : Value} (h : AVR w ρ base ro (.sl fr t l) v) (hl : l () = m ()) (hf : fr' = true → fr = true) : AVR w ρ base ro (.sl fr' t m) v := by
 have e : l = m := funext fun u => by cases u; exact hl
 subst e
 cases fr' with
 | true => rw [hf rfl] at h; exact h
 | false => exact h.loose_
theorem mem_app {l m : List VC} (h : ∀ c ∈ l ++ m, c ()) : (∀ c ∈ l, c ()) ∧ ∀ c ∈ m, c () := ⟨fun c hc => h c (List.mem_append.2 (.inl hc)), fun c hc => h c (List.mem_append.2 (.inr hc))⟩
theorem flag_of {fr fr' : Bool} (h : (fr || !fr') = true) : fr' = true → fr = true := by
 intro h'
 rw [h'] at h
 simpa using h
structure Anew (w0 : World) (ρ ρ2 : Nat → Option Rl) (ro ro2 : Nat → Prop) (p : Nat → Bool) (fz : Option (List Nat)) : Prop where
 pl : ∀ l r, ρ l = some r → p l = true → ρ2 l = some r
 ro : ∀ b, ro b → ro2 b
 nil : fz = none → ∀ l, ρ l = none → p l = true → ρ2 l = some (.row none 0 0)
 out : ∀ ks, fz = some ks → ∀ loc A n c, ρ loc = some (.row A n c) → memN loc ks = false → ∀ ad, A = some ad → w0.heap.size ≤ ad.block ∧ ro2 ad.block
mutual
theorem eqAV_ok (H : SimR w0 S0 N B S a w ρ ro) (M : Anew w0 ρ ρ2 ro ro2 p fz) : ∀ (x y : AV) (vcs : List VC) (v : Value), eqAV fz B S x y = some vcs → (∀ c ∈ vcs, c ()) → AVR w ρ w0.heap.size ro x v → AV.under p y = true → AVR w ρ2 w0.heap.size ro2 y v := by
 intro x y vcs v h hv hx hu
 unfold eqAV at h
 split at h
 · exact .un _
 · split at h
   · rename_i hk
     subst hk
     cases h
     rw [hx.int_, hv _ (.head _)]
     exact .int _ _
   · cases h
 · split at h
   · rename_i hk
     subst hk
     cases h
     rw [hx.lit_, hv _ (.head _)]
     exact .int _ _
   · cases h
 · split at h
   · rename_i hk
     subst hk
     cases h
     rw [hx.int_, hv _ (.head _)]
     exact .lit _ _
   · cases h
 · split at h
   · rename_i hk
     obtain ⟨rfl, rfl⟩ := hk
     rw [hx.lit_]
     exact .lit _ _
   · cases h
 · cases h
   rw [hx.bool_, hv _ (.head _)]
   exact .bool _
 · cases h
   rw [hx.blit_, hv _ (.head _)]
   exact .bool _
 · cases h
   rw [hx.bool_, hv _ (.head _)]
   exact .blit _
 · split at h
   · rename_i hk
     subst hk
     rw [hx.blit_]
     exact .blit _
   · cases h
 · cases h
   rw [hx.str_, hv _ (.head _)]
   exact .str _
 · cases h
   rw [hx.nil_]
   exact .nil
 · cases h
   have h0 := hv _ (.head _)
   rw [hx.nil_]
   rename_i t l
   have e : Value.slice none 0 0 = Value.slice none (l ()).length 0 := by rw [h0]; rfl
   rw [e]
   exact .sl _ _ _ none 0 [] (by rw [h0]; rfl) (Nat.le_refl _) (Rd.nil _ _ _ _) (fun _ h => by cases h) (fun _ _ h => by cases h) (fun k cs j x v h => by simp at h)
 · split at h
   · split at h
     · rename_i loc _ hk
       cases h
       rw [hx.nil_]
       exact .own _ _ _ _ (M.nil rfl loc (H.fresh loc (by simpa using hk)) (by simpa [AV.under] using hu))
     · cases h
   · cases h
 · split at h
   · rename_i fr t l fr' t' m hk
     subst hk
     split at h
     · rename_i hf
       cases h
       exact ((hx.sameL (m := m) (hv _ (.head _)) (flag_of hf)).plain (fresh := false) (by simp [AV.plain]) fun b _ h => M.ro b h)
     · cases h
   · cases h
 · rename_i loc fr' t' m
   split at h
   · cases h
   · rename_i ks
     split at h
     · cases h
     · rename_i hks
       split at h
       · rename_i fr t T l he
         split at h
         · rename_i hk
           subst hk
           split at h
           · rename_i hf
             cases h
             obtain ⟨A, c, css, hA, hown, hlen, hcell⟩ := H.en _ _ he
             obtain ⟨A', n', c', hA', rfl⟩ := hx.own_
             rw [hA] at hA'
             injection hA' with hA'
             injection hA' with e1 e2 e3
             subst e1; subst e2; subst e3
             have hout := M.out ks rfl loc A _ c hA (by simpa using hks)
             have h1 : AVR w ρ2 w0.heap.size ro2 (.sl fr _ l) (.slice A (l ()).length c) := by
              refine .sl fr _ l A c css hlen hown.cap.1 hown.rd (fun ad ha _ => (hout ad ha).2) (fun _ ad ha _ => (hout ad ha).1) fun k cs j x v q1 q2 q3 => ?_
              exact (hcell k cs j x v q1 q2 q3).plain (fresh := false) (plainL_get (cellsAV_plain0 _ _ _) q2) fun b _ h => M.ro b h
             exact h1.sameL (hv _ (.head _)) (flag_of hf)
           · cases h
         · cases h
       · cases h
 · split at h
   · rename_i fr t l n fr' t' m hk
     subst hk
     split at h
     · rename_i hf
       cases h
       exact (((wide_take hx).sameL (m := m) (hv _ (.head _)) (flag_of hf)).plain (fresh := false) (by simp [AV.plain]) fun b _ h => M.ro b h)
     · cases h
   · cases h
 · split at h
   · rename_i fr t l n fr' t' m k hk
     subst hk
     split at h
     · rename_i hf
       cases h
       obtain ⟨A, c, hn, hl, rfl⟩ := hx.wide_
       have e1 : l () = m () := hv _ (.head _)
       have e2 : n () = k () := hv _ (.tail _ (.head _))
       rw [e2]
       have hl2 := ((hl.sameL (m := m) e1 (flag_of hf)).plain (fresh := false) (ρ' := ρ2) (ro' := ro2) (by simp [AV.plain]) fun b _ h => M.ro b h)
       rw [e1] at hl2
       exact .wide fr' _ m k A c (by rw [← e1, ← e2]; exact hn) hl2
     · cases h
   · cases h
 · split at h
   · rename_i loc loc' hk
     subst hk
     obtain ⟨A, n', c, hA, rfl⟩ := hx.own_
     exact .own _ _ _ _ (M.pl _ _ hA (by simpa [AV.under] using hu))
   · cases h
 · split at h
   · rename_i loc off loc' off' hk
     obtain ⟨rfl, rfl⟩ := hk
     obtain ⟨b, hb, rfl⟩ := hx.ptr_
     exact .ptr _ _ _ (M.pl _ _ hb (by simpa [AV.under] using hu))
   · cases h
 · split at h
   · rename_i loc loc' hk
     subst hk
     obtain ⟨b, hb, rfl⟩ := hx.mp_
     exact .mp _ _ (M.pl _ _ hb (by simpa [AV.under] using hu))
   · cases h
 · split at h
   · rename_i l l2 l' l2' hk
     obtain ⟨rfl, rfl⟩ := hk
     obtain ⟨b, hb, rfl⟩ := hx.it_
     exact .it _ _ _ (M.pl _ _ hb (by simpa [AV.under] using hu))
   · cases h
 · rename_i l m
   obtain ⟨vs, rfl, hE⟩ := hx.agg_
   have := eqAVs_ok H M l m vcs vs h hv hE (by simpa only [AV.under] using hu)
   exact .agg _ _ this.1 this.2
 · rename_i l m
   obtain ⟨vs, rfl, hE⟩ := hx.tup_
   have := eqAVs_ok H M l m vcs vs h hv hE (by simpa only [AV.under] using hu)
   exact .tup _ _ this.1 this.2
 · split at h
   · rename_i f l g m hk
     subst hk
     obtain ⟨vs, rfl, hE⟩ := hx.fn_
     have := eqAVs_ok H M l m vcs vs h hv hE (by simpa only [AV.under] using hu)
     exact .fn _ _ _ this.1 this.2
   · cases h
 · cases h
theorem eqAVs_ok (H : SimR w0 S0 N B S a w ρ ro) (M : Anew w0 ρ ρ2 ro ro2 p fz) : ∀ (xs ys : List AV) (vcs : List VC) (vs : List Value), eqAVs fz B S xs ys = some vcs → (∀ c ∈ vcs, c ()) → Each w ρ w0.heap.size ro xs vs → AV.underL p ys = true → Each w ρ2 w0.heap.size ro2 ys vs := by
 intro xs ys vcs vs h hv hE hu
 unfold eqAVs at h
 split at h
 · rw [hE.none]
   exact .nil
 · rename_i x l y m
   split at h
   · rename_i p q h4 h5
     cases h
     obtain ⟨v, us, rfl, hx, hE'⟩ := hE.head
     have h6 := mem_app hv
     simp only [AV.underL, Bool.and_eq_true] at hu
     exact .cons (eqAV_ok H M x y p v h4 h6.1 hx hu.1) (eqAVs_ok H M l m q us h5 h6.2 hE' hu.2)
   · cases h
 · cases h
end
theorem underL_get {p : Nat → Bool} : ∀ {l : List AV} {j : Nat} {x : AV}, AV.underL p l = true → l[j]? = some x → AV.under p x = true
 | y :: l, 0, x, h, hx => by
  simp only [List.getElem?_cons_zero, Option.some.injEq] at hx
  subst hx
  simp only [AV.underL, Bool.and_eq_true] at h
  exact h.1
 | y :: l, j + 1, x, h, hx => by
  simp only [AV.underL, Bool.and_eq_true] at h
  exact underL_get h.2 (by simpa using hx)
 | [], j, x, _, hx => by simp at hx
theorem cellsAV_under (fr : Bool) (t : Tc) (x : Unit → t.el) (p : Nat → Bool) : AV.underL p (cellsAV fr t x) = true := by cases t <;> rfl
theorem AVR.under_ {x : AV} {v : Value} (h : AVR w ρ base ro x v) (hx : AV.under p x = true) (h2 : ∀ l r, ρ l = some r → p l = true → ρ2 l = some r) : AVR w ρ2 base ro x v := by
 induction h with
 | un => exact .un _
 | int => exact .int _ _
 | lit => exact .lit _ _
 | bool => exact .bool _
 | blit => exact .blit _
 | str => exact .str _
 | nil => exact .nil
 | sl fr t l A c css hl hc hr hro1 hfr h ih => exact .sl fr t l A c css hl hc hr hro1 hfr fun k cs j y v h1 h2 h3 => ih k cs j y v h1 h2 h3 (underL_get (cellsAV_under _ _ _ _) h2)
 | wide fr t l n A c hn h ih => exact .wide fr t l n A c hn (ih rfl)
 | pto cells off b o cs hr hlt hl hc h ih => exact .pto cells off b o cs hr hlt hl hc fun j y v h1 h2 => ih j y v h1 h2 (underL_get (by simpa only [AV.under] using hx) h1)
 | ptr l off b h => exact .ptr _ _ _ (h2 _ _ h (by simpa [AV.under] using hx))
 | mp l b h => exact .mp _ _ (h2 _ _ h (by simpa [AV.under] using hx))
 | stamp l b h => exact .stamp _ _ (h2 _ _ h (by simpa [AV.under] using hx))
 | it l l2 b h => exact .it _ _ _ (h2 _ _ h (by simpa [AV.under] using hx))
 | own l A n c h => exact .own _ _ _ _ (h2 _ _ h (by simpa [AV.under] using hx))
 | orp t l k off A n c b h hA h0 hn => exact .orp _ _ _ _ _ _ _ _ (h2 _ _ h (by simpa [AV.under] using hx)) hA h0 hn
 | agg l vs hl h ih => exact .agg _ _ hl fun j y v h1 h2 => ih j y v h1 h2 (underL_get (by simpa only [AV.under] using hx) h1)
 | tup l vs hl h ih => exact .tup _ _ hl fun j y v h1 h2 => ih j y v h1 h2 (underL_get (by simpa only [AV.under] using hx) h1)
 | fn f caps vs hl h ih => exact .fn _ _ _ hl fun j y v h1 h2 => ih j y v h1 h2 (underL_get (by simpa only [AV.under] using hx) h1)
theorem alook_append {α : Type} : ∀ (l m : List (Nat × α)) (d : Nat), alook (l ++ m) d = (match alook l d with | some x => some x | none => alook m d)
 | [], m, d => rfl
 | (k, x) :: l, m, d => by
  rw [List.cons_append, alook_cons, alook_cons, alook_append l m d]
  split <;> rfl
theorem apartK_get {α β : Type} {l : List (Nat × α)} : ∀ {m : List (Nat × β)} {d : Nat} {x : β}, apartK l m = true → alook m d = some x → alook l d = none
 | (k, y) :: m, d, x, h, hx => by
  unfold apartK at h
  simp only [Bool.and_eq_true, Option.isNone_iff_eq_none] at h
  rw [alook_cons] at hx
  split at hx
  · rename_i e; subst e; exact h.1
  · exact apartK_get h.2 hx
 | [], _, _, _, hx => by cases hx
theorem belowT_get {p : Nat → Bool} : ∀ {m : List (Nat × AV)} {d : Nat} {x : AV}, belowT p m = true → alook m d = some x → AV.under p x = true
 | (k, y) :: m, d, x, h, hx => by
  unfold belowT at h
  simp only [Bool.and_eq_true] at h
  rw [alook_cons] at hx
  split at hx
  · cases hx; exact h.1
  · exact belowT_get h.2 hx
 | [], _, _, _, hx => by cases hx
theorem belowE_get {p : Nat → Bool} : ∀ {m : List (Nat × En)} {d : Nat} {e : En}, belowE p m = true → alook m d = some e → p d = true ∧ En.under p e = true
 | (k, e') :: m, d, e, h, hx => by
  unfold belowE at h
  simp only [Bool.and_eq_true] at h
  rw [alook_cons] at hx
  split at hx
  · rename_i hk; subst hk; cases hx; exact h.1
  · exact belowE_get h.2 hx
 | [], _, _, _, hx => by cases hx
theorem elAV_under (ag fr : Bool) (t : Tc) (x : Unit → t.el) (n : Nat → Bool) : AV.under n (elAV ag fr t x) = true := by
 unfold elAV
 have h := cellsAV_under fr t x n
 cases ag with
 | true => exact h
 | false =>
  simp only [Bool.false_eq_true, if_false]
  cases hc : cellsAV fr t x with
  | nil => rfl
  | cons c l =>
   rw [hc] at h
   cases l with
   | nil => simpa [AV.underL] using h
   | cons c2 l => rfl
theorem eqEs_ok (H : SimR w0 S0 N B S a w ρ ro) (M : Anew w0 ρ ρ2 ro ro2 p fz) : ∀ {oe : List (Nat × En)} {tb : List VC}, eqEs fz B S oe = some tb → (∀ c ∈ tb, c ()) → belowE p oe = true → ∀ l e, alook oe l = some e → EnR w ρ2 w0.heap.size ro2 l e := by
 intro oe
 induction oe with
 | nil => intro tb _ _ _ l e h; cases h
 | cons p oe ih =>
  intro tb hE hv hb l e he
  obtain ⟨k, z⟩ := p
  cases z with
  | box T cs =>
   unfold eqEs at hE
   simp only [belowE, Bool.and_eq_true] at hb
   split at hE
   · rename_i T' cs' hl
     split at hE
     · rename_i hTT
       subst hTT
       split at hE
       · rename_i p q h4 h5
         cases hE
         have hv2 := mem_app hv
         rw [alook_cons] at he
         split at he
         · rename_i e0
           subst e0
           cases he
           obtain ⟨b, us, k1, k4, k5⟩ := H.en _ _ hl
           exact ⟨b, us, M.pl _ _ k1 hb.1.1, k4, eqAVs_ok H M _ _ p us h4 hv2.1 k5 (by simpa [En.under] using hb.1.2)⟩
         · exact ih h5 hv2.2 hb.2 l e he
       · cases hE
     · cases hE
   · cases hE
  | row fr t T m =>
   unfold eqEs at hE
   simp only [belowE, Bool.and_eq_true] at hb
   split at hE
   · rename_i q h5
     split at hE
     · rename_i fr' t' T' m' hl
       split at hE
       · rename_i ht
         subst ht
         split at hE
         · rename_i hc
           obtain ⟨rfl, hf⟩ := hc
           cases hE
           rw [alook_cons] at he
           split at he
           · rename_i e0
             subst e0
             cases he
             obtain ⟨A, c, css, k1, k2, k3, k5⟩ := H.en _ _ hl
             have hm : m' = m := funext fun u => by cases u; exact hv _ (.head _)
             subst hm
             refine ⟨A, c, css, M.pl _ _ k1 hb.1.1, k2.base_le (rb_mono _ (flag_of hf)), k3, fun kk cs j x v q1 q2 q3 => ?_⟩
             have hsz := k2.2 cs (List.mem_of_getElem? q1)
             have h6 := (each_less (g := fr) (row_each hsz fun j y v r1 r2 => k5 kk cs j y v q1 r1 r2) (flag_of hf)).2 j x v q2 q3
             exact (h6.under_ (underL_get (cellsAV_under _ _ _ _) q2) M.pl).mono (fun _ _ _ => rfl) (Ext.refl _) (Nat.le_refl _) M.ro
           · exact ih h5 (fun c hc => hv c (.tail _ hc)) hb.2 l e he
         · cases hE
       · cases hE
     · cases hE
     · rename_i hl
       split at hE
       rotate_left
       · cases hE
       split at hE
       · rename_i hk
         cases hE
         rw [alook_cons] at he
         split at he
         · rename_i e0
           subst e0
           cases he
           have hm := hv _ (.head _)
           refine ⟨none, 0, [], by rw [hm]; exact M.nil rfl _ (H.fresh _ hk) hb.1.1, OwnS.nil _ _ _ _, by rw [hm]; rfl, fun kk cs j x v q1 => by simp at q1⟩
         · exact ih h5 (fun c hc => hv c (.tail _ hc)) hb.2 l e he
       · cases hE
   · cases hE
  | map fr ag c t T m =>
   unfold eqEs at hE
   simp only [belowE, Bool.and_eq_true] at hb
   split at hE
   · rename_i q h5
     split at hE
     · rename_i fr' ag' c' t' T' m' hl
       split at hE
       · rename_i ht
         subst ht
         split at hE
         · rename_i hc
           obtain ⟨rfl, rfl, rfl, hf⟩ := hc
           cases hE
           rw [alook_cons] at he
           split at he
           · rename_i e0
             subst e0
             cases he
             obtain ⟨b, es, clock, k1, k2, k3, k4⟩ := H.en _ _ hl
             have hm : m' = m := funext fun u => by cases u; exact hv _ (.head _)
             subst hm
             exact ⟨b, es, clock, M.pl _ _ k1 hb.1.1, k2, k3, (k4.less (flag_of hf)).map_ fun x v hx => (hx.under_ (elAV_under _ _ _ _ _) M.pl).mono (fun _ _ _ => rfl) (Ext.refl _) (Nat.le_refl _) M.ro⟩
           · exact ih h5 (fun c hc => hv c (.tail _ hc)) hb.2 l e he
         · cases hE
       · cases hE
     · cases hE
   · cases hE
  | iter ml c seen left =>
   unfold eqEs at hE
   simp only [belowE, En.under, Bool.and_eq_true] at hb
   split at hE
   · rename_i q h5
     split at hE
     · rename_i ml' c' seen' left' hl
       split at hE
       · rename_i hc
         obtain ⟨rfl, rfl⟩ := hc
         cases hE
         rw [alook_cons] at he
         split at he
         · rename_i e0
           subst e0
           cases he
           obtain ⟨b, b2, es, clock, since, stamps, c0, k1, k2, k3, k4, k5, k6, k7, k8, k9⟩ := H.en _ _ hl
           have e1 : seen' () = seen () := hv _ (.head _)
           have e2 : left' () = left () := hv _ (.tail _ (.head _))
           rw [e1] at k8 k9
           rw [e2] at k7
           exact ⟨b, b2, es, clock, since, stamps, c0, M.pl _ _ k1 hb.1.1, M.pl _ _ k2 hb.1.2, k3, k4, k5, k6, k7, k8, k9⟩
         · exact ih h5 (fun c hc => hv c (.tail _ (.tail _ hc))) hb.2 l e he
       · cases hE
     · cases hE
   · cases hE
  | stamp ml c key => unfold eqEs at hE; cases hE
  | dead => unfold eqEs at hE; cases hE
theorem SimR.rebase (H : SimR w0 S0 N B S a w ρ ro) {n : Nat} (hsol : ∀ l r, S0.pl l = some r → (r.solid || S0.fx) = true → l < n) {B2 : Bs} {ov : List (Nat × AV)} {oe : List (Nat × En)} {ta tb : List VC} (hT : eqTs B S ov = some ta) (hE : eqEs none B S oe = some tb) (hv : ∀ c ∈ ta ++ tb, c ()) (hbT : belowT (ltB n) ov = true) (hbE : belowE (ltB n) oe = true) (haT : apartK B2.t ov = true) (haE : apartK B2.e oe = true)
 (hBt : ∀ d x, alook B2.t d = some x → ∃ u, a.tmps[d]? = some u ∧ AVR w ρ w0.heap.size ro x u ∧ AV.under (ltB n) x = true)
 (hBe : ∀ l e, alook B2.e l = some e → EnR w ρ w0.heap.size ro l e ∧ l < n ∧ En.under (ltB n) e = true) :
 Sim w0 S0 N B2 ⟨ov, oe, n⟩ a w := by
 obtain ⟨ρ2, hρ2⟩ : ∃ ρ2 : Nat → Option Rl, ρ2 = fun l => if l < n then (match ρ l with | some r => some r | none => some (.row none 0 0)) else none := ⟨_, rfl⟩
 have h2 : ∀ l r, ρ l = some r → l < n → ρ2 l = some r := fun l r h hl => by rw [hρ2]; simp only [if_pos hl, h]
 have h3 : ∀ l, ρ l = none → l < n → ρ2 l = some (.row none 0 0) := fun l h hl => by rw [hρ2]; simp only [if_pos hl, h]
 have hback : ∀ l r b, ρ2 l = some r → r.blk = some b → ρ l = some r := by
  intro l r b h hb
  rw [hρ2] at h
  simp only at h
  split at h
  · cases hl : ρ l with
    | none => rw [hl] at h; injection h with h; subst h; cases hb
    | some r' => rw [hl] at h; exact h
  · cases h
 have hltB : ∀ {l}, ltB n l = true → l < n := fun h => by simpa [ltB] using h
 have M : Anew w0 ρ ρ2 ro ro (ltB n) none := ⟨fun l r h hl => h2 l r h (hltB hl), fun _ h => h, fun _ l h hl => h3 l h (hltB hl), fun _ h => by cases h⟩
 have hva := mem_app hv
 have hTs : ∀ {ov : List (Nat × AV)} {ta : List VC}, eqTs B S ov = some ta → (∀ c ∈ ta, c ()) → belowT (ltB n) ov = true → ∀ d y, alook ov d = some y → ∃ u, a.tmps[d]? = some u ∧ AVR w ρ2 w0.heap.size ro y u := by
  intro ov
  induction ov with
  | nil => intro ta _ _ _ d y h; cases h
  | cons p ov ih =>
   intro ta hT hv hb d y hy
   obtain ⟨k, z⟩ := p
   unfold eqTs at hT
   split at hT
   · rename_i x b hx hb'
     cases he : eqAV none B S x z with
     | none => rw [he] at hT; cases hT
     | some q =>
      rw [he] at hT
      simp only [Option.map_some, Option.some.injEq] at hT
      subst hT
      have hv2 := mem_app hv
      simp only [belowT, Bool.and_eq_true] at hb
      rw [alook_cons] at hy
      split at hy
      · rename_i e
        subst e
        cases hy
        obtain ⟨u, h4, h5⟩ := H.tm _ _ hx
        exact ⟨u, h4, eqAV_ok H M _ _ q u he hv2.1 h5 hb.1⟩
      · exact ih hb' hv2.2 hb.2 d y hy
   · cases hT
 refine ⟨ρ2, ro, H.from_, H.size, H.defers, H.roB, fun d x hx => ?_, fun l e he => ?_, fun l l' r r' b hne k1 k2 k3 k4 => ?_, fun l hl => ?_, fun l r b k1 k2 => H.own l r b (hback l r b k1 k2) k2, H.roS, fun l r k1 k2 => h2 l r (H.solid l r k1 k2) (hsol l r k1 k2), fun d x hx => ?_, fun l e he => ?_⟩
 · unfold lookT at hx
   dsimp only at hx
   split at hx
   · rename_i y hy
     cases hx
     exact hTs hT hva.1 hbT d _ hy
   · obtain ⟨u, q1, q2, q3⟩ := hBt d x hx
     exact ⟨u, q1, q2.under_ q3 M.pl⟩
 · unfold lookE at he
   dsimp only at he
   split at he
   · rename_i y hy
     cases he
     exact eqEs_ok H M hE hva.2 hbE l _ hy
   · obtain ⟨q1, q2, q3⟩ := hBe l e he
     cases e with
     | box T cs =>
      obtain ⟨b, us, k1, k4, k5⟩ := q1
      exact ⟨b, us, h2 _ _ k1 q2, k4, k5.1, fun j x v hx hv => (k5.2 j x v hx hv).under_ (underL_get (by simpa [En.under] using q3) hx) M.pl⟩
     | row fr t T m =>
      obtain ⟨A, c, css, k1, k2, k3, k5⟩ := q1
      exact ⟨A, c, css, h2 _ _ k1 q2, k2, k3, fun kk cs j x v r1 r2 r3 => (k5 kk cs j x v r1 r2 r3).under_ (underL_get (cellsAV_under _ _ _ _) r2) M.pl⟩
     | map fr ag c t T m =>
      obtain ⟨b, es, clock, k1, k2, k3, k4⟩ := q1
      exact ⟨b, es, clock, h2 _ _ k1 q2, k2, k3, k4.map_ fun x v hx => hx.under_ (elAV_under _ _ _ _ _) M.pl⟩
     | iter ml c seen left =>
      obtain ⟨b, b2, es, clock, since, stamps, c0, k1, k2, k3⟩ := q1
      exact ⟨b, b2, es, clock, since, stamps, c0, h2 _ _ k1 q2, M.pl _ _ k2 (by simpa [En.under] using q3), k3⟩
     | stamp ml c key =>
      obtain ⟨b, es, clock, s, e, k1, k2, k3⟩ := q1
      exact ⟨b, es, clock, s, e, h2 _ _ k1 q2, M.pl _ _ k2 (by simpa [En.under] using q3), k3⟩
     | dead => obtain ⟨r, k1⟩ := q1; exact ⟨r, h2 _ _ k1 q2⟩
 · exact H.apart l l' r r' b hne (hback l r b k1 k3) (hback l' r' b k2 k4) k3 k4
 · rw [hρ2]
   exact if_neg (by simp only at hl; omega)
 · cases ho : alook ov d with
   | none => rfl
   | some y => rw [apartK_get haT ho] at hx; cases hx
 · cases ho : alook oe l with
   | none => rfl
   | some y => rw [apartK_get haE ho] at he; cases he
end
def schAlts : List Nat → (Nat → Sch) → Sch
 | [], _ => .bad
 | [i], f => f i
 | i :: l, f => .alt (f i) (schAlts l f)
def schLate (l : List Oper) (σ : List Nat) : Nat → List Nat → Sch
 | 0, done => match readyN l done with
  | [] => .nil
  | _ => .bad
 | fuel + 1, done =>
  let one (i : Nat) : Sch := match l[i]? with
   | some _ => match σ[i]? with
    | some j => .op j (schLate l σ fuel (i :: done))
    | none => .bad
   | none => .bad
  match readyN l done with
  | [] => .nil
  | [i] => one i
  | is => match firstReg l is with
   | some i => one i
   | none => schAlts is one
def schOf (ef : List Nat) (ops : List Oper) : Sch :=
 let σ := sigma ef ops
 let l := laid ef ops
 let np := preLen ef l
 schList (σ.take np) (match chainB l np with
  | true => schList (σ.drop np) .nil
  | false => schLate l σ (l.length - np) (List.range np))
def insN (i : Nat) : List Nat → List Nat
 | [] => [i]
 | k :: l => if i < k then i :: k :: l else k :: insN i l
def nextN (l : List Oper) (done : List Nat) : List Nat := match readyN l done with
 | [] => []
 | [i] => [i]
 | is => match firstReg l is with
  | some i => [i]
  | none => match firstStill l done is with
   | some i => [i]
   | none => is
def latNd (σ : List Nat) (l : List Oper) (nds : List Nd) (nd : Nd) : Bool :=
 sameN (nd.ed.map fun e => e.1) (nextN l nd.dn) && ((decide (nd.dn.length < l.length) || (readyN l nd.dn).isEmpty) && nd.ed.all fun e => σ[e.1]? == some e.2.1 && match nds[e.2.2]? with
  | some nt => sameN nt.dn (insN e.1 nd.dn)
  | none => false)
def chainN (σ : List Nat) (l : List Oper) : List Nat → List Nat → Option (List Nat)
 | dn, [] => some dn
 | dn, oi :: r => match nextN l dn with
  | [i] => if σ[i]? == some oi then chainN σ l (insN i dn) r else none
  | _ => none
def latEnd (σ : List Nat) (l : List Oper) (nds : List Nd) : Option (List Nat) → Bool
 | none => false
 | some dn => decide (dn.length ≤ l.length) && ((match nds with
  | nd :: _ => sameN nd.dn dn
  | [] => dn.length == l.length && (readyN l dn).isEmpty) && (nds.dropLast.all (fun nd => !nd.ed.isEmpty) && nds.all (latNd σ l nds)))
def latOk (ef : List Nat) (ops : List Oper) (N : Nat) (t : Lat) : Bool :=
 drawOkG ef t.sg t.row.length ops N && (sameN t.row (t.sg.take t.row.length) && latEnd t.sg (permL t.sg ops) t.nds (chainN t.sg (permL t.sg ops) (List.range t.row.length) t.pre))
def codeOk (ef : List Nat) (sc : List (Nat × Sch)) (lt : List (Nat × Lat)) (N : Nat) : Code → Bool
 | .region id ops d => !d || (match latAt lt id with
  | some t => latOk ef ops.toList N t
  | none => drawOk ef ops.toList N && (match schAt sc id with
   | some s => decide (s = schOf ef ops.toList)
   | none => true))
 | .seq a b => codeOk ef sc lt N a && codeOk ef sc lt N b
 | .cond _ a b => codeOk ef sc lt N a && codeOk ef sc lt N b
 | .block _ b => codeOk ef sc lt N b
 | .loop b => codeOk ef sc lt N b
 | .scope b => codeOk ef sc lt N b
 | _ => true
section
variable {C : Cx} {N : Nat} {B : Bs}
theorem goOps_to {l l' rest' : List Oper} {o o' : Oper} {K k : Sx → Fm} {S : Sx} (hop : o'.op = o.op) (hdst : o'.dst = o.dst) (hw : wantedAV B S l' o' = wantedAV B S l o ∨ wantedAV B S l o = .stuck) (hK : ∀ S, (K S).P → (goOps C N B l' rest' S k).P) (h : (goOps C N B l [o] S K).P) : (goOps C N B l' (o' :: rest') S k).P := by
 obtain ⟨dst, op, ty, pos, aft, gd⟩ := o
 obtain ⟨dst', op', ty', pos', aft', gd'⟩ := o'
 dsimp only at hop hdst
 subst hop
 subst hdst
 have hsp : ∀ S, splitOp C N B S ⟨dst', op', ty', pos', aft', gd'⟩ = splitOp C N B S ⟨dst', op', ty, pos, aft, gd⟩ := fun _ => rfl
 have hst : ∀ S, stepOp C N B S ⟨dst', op', ty', pos', aft', gd'⟩ = stepOp C N B S ⟨dst', op', ty, pos, aft, gd⟩ := fun _ => rfl
 have hsk : ∀ S, skipOp N B S ⟨dst', op', ty', pos', aft', gd'⟩ = skipOp N B S ⟨dst', op', ty, pos, aft, gd⟩ := fun _ => rfl
 generalize hoo : (⟨dst', op', ty, pos, aft, gd⟩ : Oper) = o at *
 generalize hoo' : (⟨dst', op', ty', pos', aft', gd'⟩ : Oper) = o' at *
 have hmono : ∀ S f, splitOp C N B S o = some f → (f fun S' => goOps C N B l [] S' K).P → (f fun S' => goOps C N B l' rest' S' k).P := by
  intro S f hf hP
  rw [← hoo] at hf
  unfold splitOp at hf
  dsimp only at hf
  split at hf
  · split at hf
    · split at hf
      · split at hf
        · cases hf
          intro x hx
          exact hK _ (hP x hx)
        · cases hf
      · cases hf
    · cases hf
  · split at hf
    · split at hf
      · split at hf
        · split at hf
          · cases hf
            exact ⟨fun c => fun x hx => hK _ (hP.1 c x hx), fun c => fun x hx => hK _ (hP.2 c x hx)⟩
          · cases hf
        · cases hf
      · cases hf
    · cases hf
  · cases hf
 have hgo : ∀ S n, (match splitOp C N B S o with
  | some f => f fun S' => goOps C N B l [] S' K
  | none => match stepOp C N B S o with
   | some (S', []) => goOps C N B l [] S' K
   | some (S', vcs) => .vc vcs (goOps C N B l [] S' K)
   | none => .ff (1000 + ([] : List Oper).length) : Fm).P → (match splitOp C N B S o' with
  | some f => f fun S' => goOps C N B l' rest' S' k
  | none => match stepOp C N B S o' with
   | some (S', []) => goOps C N B l' rest' S' k
   | some (S', vcs) => .vc vcs (goOps C N B l' rest' S' k)
   | none => .ff n : Fm).P := by
  intro S n hP
  rw [hsp, hst]
  cases hs : splitOp C N B S o with
  | some f => rw [hs] at hP; exact hmono S f hs hP
  | none =>
   rw [hs] at hP
   dsimp only at hP ⊢
   cases ht : stepOp C N B S o with
   | none => rw [ht] at hP; exact hP.elim
   | some r =>
    obtain ⟨S', vcs⟩ := r
    rw [ht] at hP
    cases vcs with
    | nil => exact hK _ hP
    | cons c vcs => exact ⟨hP.1, hK _ hP.2⟩
 have hno : ∀ S, (match skipOp N B S o with
  | some S' => goOps C N B l [] S' K
  | none => .ff 3 : Fm).P → (match skipOp N B S o' with
  | some S' => goOps C N B l' rest' S' k
  | none => .ff 3 : Fm).P := by
  intro S hP
  rw [hsk]
  cases ht : skipOp N B S o with
  | none => rw [ht] at hP; exact hP.elim
  | some r => rw [ht] at hP; exact hK _ hP
 unfold goOps at h ⊢
 dsimp only at h ⊢
 rcases hw with hw | hw
 · rw [hw]
   cases hwv : wantedAV B S l o with
   | yes => rw [hwv] at h; exact hgo S _ h
   | no => rw [hwv] at h; exact hno S h
   | stuck => rw [hwv] at h; exact h.elim
   | ask d c b =>
    rw [hwv] at h
    dsimp only at h ⊢
    cases h1 : putT B S N d (.blit true) with
    | none => rw [h1] at h; exact h.elim
    | some S1 =>
     rw [h1] at h
     cases h2 : putT B S N d (.blit false) with
     | none => rw [h2] at h; exact h.elim
     | some S2 =>
      rw [h2] at h
      cases b with
      | true => exact ⟨fun q => hgo S1 _ (h.1 q), fun q => hno S2 (h.2 q)⟩
      | false => exact ⟨fun q => hno S1 (h.1 q), fun q => hgo S2 _ (h.2 q)⟩
 · rw [hw] at h
   exact h.elim
theorem permS_some {σ : List Nat} {n i : Nat} (h : permB σ n = true) (hi : i < n) : ∃ j, σ[i]? = some j ∧ j < n := by
 unfold permB at h
 simp only [Bool.and_eq_true, List.all_eq_true, List.mem_range] at h
 have h1 := h.2 i hi
 cases hs : σ[i]? with
 | none => rw [hs] at h1; cases h1
 | some j =>
  rw [hs] at h1
  simp only [Bool.and_eq_true, decide_eq_true_eq] at h1
  exact ⟨j, rfl, h1.1⟩
theorem permS_pos {σ : List Nat} {n j : Nat} (h : permB σ n = true) (hj : j < n) : σ[posN σ j]? = some j := by
 unfold permB at h
 simp only [Bool.and_eq_true, List.all_eq_true, List.mem_range] at h
 have h1 := h.1.2 j hj
 exact eq_of_beq h1
theorem permS_get {σ : List Nat} {l : List Oper} {i j : Nat} {o : Oper} (h : σ[i]? = some j) (ho : l[j]? = some o) : (permL σ l)[i]? = some (remapO σ o) := by
 unfold permL
 rw [List.getElem?_map, h]
 simp only [Option.map_some]
 rw [ho]
theorem wantedS {σ : List Nat} {l : List Oper} (h : permB σ l.length = true) (S : Sx) (o : Oper) : wantedAV B S (permL σ l) (remapO σ o) = wantedAV B S l o ∨ wantedAV B S l o = .stuck := by
 obtain ⟨dst, op, ty, pos, aft, gd⟩ := o
 cases gd with
 | none => exact .inl rfl
 | some g =>
  obtain ⟨j, b⟩ := g
  cases ho : l[j]? with
  | none =>
   right
   unfold wantedAV
   dsimp only
   rw [ho]
   rfl
  | some oj =>
   left
   have hj := (List.getElem?_eq_some_iff.1 ho).1
   have h2 := permS_get (permS_pos h hj) ho
   unfold wantedAV
   dsimp only [remapO]
   rw [h2, ho]
   rfl
theorem sch_row {σ : List Nat} {l : List Oper} {k : Sx → Fm} (h : permB σ l.length = true) : ∀ (is : List Nat) (os : List Oper) (r : Sch) (k' : Sx → Fm) (S : Sx), is.length = os.length → (∀ (q : Nat) o, os[q]? = some o → ∃ i : Nat, σ[i]? = is[q]? ∧ (permL σ l)[i]? = some o) → (∀ S, (goSch C N B l r S k).P → (k' S).P) → (goSch C N B l (schList is r) S k).P → (goOps C N B (permL σ l) os S k').P
 | [], [], r, k', S, _, _, hr, hP => by
  unfold goOps
  exact hr S hP
 | i :: is, o :: os, r, k', S, hl, hq, hr, hP => by
  obtain ⟨q, h1, h2⟩ := hq 0 o rfl
  have h1' : σ[q]? = some i := by simpa using h1
  unfold schList at hP
  unfold goSch at hP
  cases ho : l[i]? with
  | none => rw [ho] at hP; exact hP.elim
  | some o2 =>
   rw [ho] at hP
   have h3 := permS_get h1' ho
   rw [h2] at h3
   cases h3
   have hP' : (goOps C N B l [o2] S fun S' => goSch C N B l (schList is r) S' k).P := hP
   exact goOps_to (l := l) (o := o2) rfl rfl (wantedS h S o2) (fun S hS => sch_row h is os r k' S (by simpa using hl) (fun q o hq' => by simpa using hq (q + 1) o (by simpa using hq')) hr hS) hP'
 | [], _ :: _, _, _, _, hl, _, _, _ => by simp at hl
 | _ :: _, [], _, _, _, hl, _, _, _ => by simp at hl
theorem sch_alts {l : List Oper} {k : Sx → Fm} {S : Sx} {f : Nat → Sch} {g : Nat → Fm} : ∀ {is : List Nat}, (∀ i ∈ is, (goSch C N B l (f i) S k).P → (g i).P) → (goSch C N B l (schAlts is f) S k).P → (andAll is g).P
 | [], _, h => by
  unfold schAlts goSch at h
  exact h.elim
 | [i], hi, h => hi i (.head _) h
 | i :: j :: is, hi, h => by
  unfold schAlts goSch at h
  exact ⟨hi i (.head _) h.1, sch_alts (is := j :: is) (fun q hq => hi q (.tail _ hq)) h.2⟩
theorem sch_late {σ : List Nat} {l : List Oper} {k : Sx → Fm} (h : permB σ l.length = true) : ∀ (fuel : Nat) (done : List Nat) (S : Sx), (goSch C N B l (schLate (permL σ l) σ fuel done) S k).P → (goLate C N B (permL σ l) fuel done S k).P
 | 0, done, S, hP => by
  unfold schLate at hP
  unfold goLate
  split at hP
  · unfold goSch at hP
    rename_i hr
    rw [hr]
    exact hP
  · unfold goSch at hP
    exact hP.elim
 | fuel + 1, done, S, hP => by
  unfold schLate at hP
  unfold goLate
  dsimp only at hP ⊢
  have hone : ∀ i, (goSch C N B l (match (permL σ l)[i]? with
   | some _ => match σ[i]? with
    | some j => .op j (schLate (permL σ l) σ fuel (i :: done))
    | none => .bad
   | none => .bad) S k).P → (match (permL σ l)[i]? with
   | some o => goOps C N B (permL σ l) [o] S fun S' => goLate C N B (permL σ l) fuel (i :: done) S' k
   | none => .ff 19 : Fm).P := by
   intro i hi
   cases ho : (permL σ l)[i]? with
   | none => rw [ho] at hi; unfold goSch at hi; exact hi.elim
   | some o =>
    rw [ho] at hi
    dsimp only at hi ⊢
    cases hs : σ[i]? with
    | none => rw [hs] at hi; unfold goSch at hi; exact hi.elim
    | some j =>
     rw [hs] at hi
     dsimp only at hi
     unfold goSch at hi
     cases ho2 : l[j]? with
     | none => rw [ho2] at hi; exact hi.elim
     | some o2 =>
      rw [ho2] at hi
      have h3 := permS_get hs ho2
      rw [ho] at h3
      cases h3
      have hi' : (goOps C N B l [o2] S fun S' => goSch C N B l (schLate (permL σ l) σ fuel (i :: done)) S' k).P := hi
      refine goOps_to (l := l) (o := o2) rfl rfl (wantedS h S o2) (fun S hS => ?_) hi'
      unfold goOps
      exact sch_late h fuel (i :: done) S hS
  split at hP
  · rename_i hr
    rw [hr]
    unfold goSch at hP
    exact hP
  · rename_i i hr
    rw [hr]
    exact hone i hP
  · rename_i is h1 h2
    generalize readyN (permL σ l) done = is at *
    cases is with
    | nil => exact absurd rfl h1
    | cons i is =>
     cases is with
     | nil => exact absurd rfl (h2 i)
     | cons j is =>
      dsimp only at hP ⊢
      cases hf : firstReg (permL σ l) (i :: j :: is) with
      | some q => rw [hf] at hP; exact hone q hP
      | none => rw [hf] at hP; exact sch_alts (fun q _ hq => hone q hq) hP
theorem sch_ok {ops : List Oper} {k : Sx → Fm} {S : Sx} (h : permB (sigma (efs C.fs) ops) ops.length = true) (hP : (goSch C N B ops (schOf (efs C.fs) ops) S k).P) : (goDraw C N B (laid (efs C.fs) ops) S k).P := by
 unfold schOf at hP
 dsimp only at hP
 unfold goDraw goDrawN
 unfold laid at hP ⊢
 generalize hnp : preLen (efs C.fs) (permL (sigma (efs C.fs) ops) ops) = np at *
 generalize sigma (efs C.fs) ops = σ at *
 have hlen : σ.length = ops.length := by
  unfold permB at h
  simp only [Bool.and_eq_true] at h
  exact eq_of_beq h.1.1
 have hpl : (permL σ ops).length = σ.length := by unfold permL; simp
 refine sch_row h (σ.take np) _ _ _ S (by rw [List.length_take, List.length_take, hpl]) (fun q o hq => ⟨q, ?_, ?_⟩) (fun S' hS' => ?_) hP
 · rw [List.getElem?_take] at hq ⊢
   split at hq
   · rename_i hlt; rw [if_pos hlt]
   · cases hq
 · rw [List.getElem?_take] at hq
   split at hq
   · exact hq
   · cases hq
 · cases hc : chainB (permL σ ops) np with
   | true =>
    rw [hc] at hS'
    dsimp only at hS' ⊢
    refine sch_row h (σ.drop np) _ _ _ S' (by rw [List.length_drop, List.length_drop, hpl]) (fun q o hq => ⟨np + q, ?_, ?_⟩) (fun S2 hS2 => ?_) hS'
    · rw [List.getElem?_drop]
    · rw [List.getElem?_drop] at hq
      exact hq
    · unfold goSch at hS2
      exact hS2
   | false =>
    rw [hc] at hS'
    dsimp only at hS' ⊢
    exact sch_late h _ _ _ hS'
end
end Go.Proofs.YtfdjcakgolenbaaGreat
