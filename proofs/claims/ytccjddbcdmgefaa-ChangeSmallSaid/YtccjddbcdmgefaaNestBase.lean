/-
  Slices of slices: how they read, and how the call builds them.
-/
import Derived.Test.YtccjddbcdmgefaaLoose
namespace Go.Proofs.Ytccjddbcdmgefaa
open Go.RowKit

/-- a slice of slices: of each inner slice its length, the least capacity, the rows that it reads as (beyond its length, too) -/
def RdNN (w : World) (B isz : Nat) (A : Option Addr) (xs : List (Nat × Nat × List (List Value))) : Prop :=
  ∀ k x, xs[k]? = some x → ∃ b off Ai ci, A = some ⟨b, off, none⟩ ∧ b < B ∧ w.cell? ⟨b, off + k, none⟩ = some (.slice Ai x.1 ci) ∧ x.2.1 ≤ ci ∧ Rd w B isz Ai x.2.2

theorem RdNN.below {w w' : World} {B B' isz : Nat} {A : Option Addr} {xs : List (Nat × Nat × List (List Value))} (h : RdNN w B isz A xs) (hb : Below B' w w') (hB : B ≤ B') : RdNN w' B isz A xs := by
  intro k x hk
  obtain ⟨b, off, Ai, ci, e, hlt, hc, hci, hr⟩ := h k x hk
  exact ⟨b, off, Ai, ci, e, hlt, (hb.cell (p := ⟨b, _, none⟩) (by simp; omega)).trans hc, hci, hr.below hb hB⟩

theorem RdNN.more {w : World} {B B' isz : Nat} {A : Option Addr} {xs : List (Nat × Nat × List (List Value))} (h : RdNN w B isz A xs) (hB : B ≤ B') : RdNN w B' isz A xs := by
  intro k x hk
  obtain ⟨b, off, Ai, ci, e, hlt, hc, hci, hr⟩ := h k x hk
  exact ⟨b, off, Ai, ci, e, by omega, hc, hci, hr.more hB⟩

theorem RdNN.pre {w : World} {B isz : Nat} {A : Option Addr} {xs ys : List (Nat × Nat × List (List Value))} (h : RdNN w B isz A (xs ++ ys)) : RdNN w B isz A xs := by
  intro k x hk
  exact h k x (by rw [List.getElem?_append_left (List.getElem?_eq_some_iff.1 hk).1]; exact hk)

theorem run_load_slice {P : Program} {w : World} {T e : Nat} {ad : Addr} {v : Value} (hT : P.underlying T = some (.slice e)) (h : w.cell? ad = some v) : (loadVar T ad).run P w = .ok v w := by
  simp [loadVar, isAgg, run_underlying hT, Sem.run_bind, h]

theorem RdNN.ld {P : Program} {T e : Nat} (hT : P.underlying T = some (.slice e)) {w : World} {B isz : Nat} {A : Option Addr} {xs : List (Nat × Nat × List (List Value))} (h : RdNN w B isz A xs) {k : Nat} {x : Nat × Nat × List (List Value)} (hk : xs[k]? = some x) :
    ∃ b off Ai ci, A = some ⟨b, off, none⟩ ∧ b < B ∧ x.2.1 ≤ ci ∧ Rd w B isz Ai x.2.2 ∧ ∀ w', Below B w w' → (loadVar T ⟨b, off + k, none⟩).run P w' = .ok (.slice Ai x.1 ci) w' := by
  obtain ⟨b, off, Ai, ci, e, hlt, hc, hci, hr⟩ := h k x hk
  exact ⟨b, off, Ai, ci, e, hlt, hci, hr, fun w' hb => run_load_slice hT ((hb.cell (p := ⟨b, _, none⟩) (by simpa using hlt)).trans hc)⟩

/-- the call owns an outer row at block g, whose slices lie in blocks behind it -/
def OwnNN (w : World) (base E isz g cap : Nat) (xs : List (Nat × Nat × List (List Value))) : Prop :=
  ∃ css : List (List Value), OwnS w base E 1 (some ⟨g, 0, none⟩) cap css ∧ css.length = xs.length ∧ ∀ (k : Nat) (x : Nat × Nat × List (List Value)), xs[k]? = some x → ∃ gi ci, css[k]? = some [Value.slice (some ⟨gi, 0, none⟩) x.1 ci] ∧ g < gi ∧ x.2.1 ≤ ci ∧ Rd w w.heap.size isz (some ⟨gi, 0, none⟩) x.2.2

section
variable {w w' : World} {base E isz g cap : Nat} {xs : List (Nat × Nat × List (List Value))}

theorem OwnNN.rd (h : OwnNN w base E isz g cap xs) : RdNN w w.heap.size isz (some ⟨g, 0, none⟩) xs := by
  obtain ⟨css, ho, hl, hx⟩ := h
  intro k x hk
  obtain ⟨gi, ci, hc, hgi, hci, hr⟩ := hx k x hk
  obtain ⟨b, off, e, hlt, _, hcell⟩ := ho.rd k _ hc
  injection e with e
  injection e with e1 e2
  subst e1
  subst e2
  have h0 := hcell 0 _ rfl
  simp only [Nat.mul_one, Nat.add_zero, Nat.zero_add] at h0
  exact ⟨g, 0, _, ci, rfl, hlt, by simpa using h0, hci, hr⟩

theorem OwnNN.below (h : OwnNN w base E isz g cap xs) (hb : Below w.heap.size w w') : OwnNN w' base E isz g cap xs := by
  obtain ⟨css, ho, hl, hx⟩ := h
  refine ⟨css, ho.below hb (Nat.le_refl _), hl, fun k x hk => ?_⟩
  obtain ⟨gi, ci, hc, hgi, hci, hr⟩ := hx k x hk
  exact ⟨gi, ci, hc, hgi, hci, (hr.below hb (Nat.le_refl _)).more hb.size⟩

theorem OwnNN.len (h : OwnNN w base E isz g cap xs) : ∃ css : List (List Value), OwnS w base E 1 (some ⟨g, 0, none⟩) cap css ∧ css.length = xs.length := by
  obtain ⟨css, ho, hl, _⟩ := h
  exact ⟨css, ho, hl⟩

theorem Rd.grown_ {B isz gi : Nat} {css : List (List Value)} (h : Rd w B isz (some ⟨gi, 0, none⟩) css) (hg : w.grownBy w' (some g)) (hne : gi ≠ g) (hB : B ≤ w.heap.size) : Rd w' w'.heap.size isz (some ⟨gi, 0, none⟩) css := by
  intro k cs hk
  obtain ⟨b, off, e, hlt, hl, hc⟩ := h k cs hk
  injection e with e
  injection e with e1 e2
  subst e1
  have hs := hg.size
  refine ⟨gi, off, by rw [e2], by omega, hl, fun j u hu => ?_⟩
  rw [← hc j u hu]
  exact World.cell?_of_block (hg.block gi (by omega) (by simpa using hne))

/-- one more inner slice -/
theorem OwnNN.push {x : Nat × Nat × List (List Value)} {gi ci : Nat} {css : List (List Value)} (h : OwnNN w base E isz g cap xs)
    (ho : OwnS w base E 1 (some ⟨g, 0, none⟩) cap css) (ho' : OwnS w' base E 1 (some ⟨g, 0, none⟩) cap (css ++ [[Value.slice (some ⟨gi, 0, none⟩) x.1 ci]])) (hl : css.length = xs.length)
    (hg : w.grownBy w' (some g)) (hgi : g < gi) (hci : x.2.1 ≤ ci) (hr : Rd w w.heap.size isz (some ⟨gi, 0, none⟩) x.2.2) : OwnNN w' base E isz g cap (xs ++ [x]) := by
  obtain ⟨css', ho2, hl2, hx⟩ := h
  have heq : css' = css := by
    apply List.ext_getElem?
    intro k
    rcases Nat.lt_or_ge k css.length with hk | hk
    · have e1 : css[k]? = some css[k] := List.getElem?_eq_getElem hk
      have e2 : css'[k]? = some (css'[k]'(by omega)) := List.getElem?_eq_getElem (by omega)
      obtain ⟨b, off, e, _, l1, c1⟩ := ho.rd k _ e1
      obtain ⟨b', off', e', _, l2, c2⟩ := ho2.rd k _ e2
      injection e with e
      injection e with e3 e4
      injection e' with e'
      injection e' with e5 e6
      subst e3; subst e4; subst e5; subst e6
      rw [e1, e2]
      congr 1
      match hc1 : css[k], l1, hc2 : css'[k]'(by omega), l2 with
      | [u], _, [u'], _ =>
        have h1 := c1 0 u (by rw [hc1]; rfl)
        have h2 := c2 0 u' (by rw [hc2]; rfl)
        rw [h1] at h2
        injection h2 with h2
        rw [h2]
    · rw [List.getElem?_eq_none hk, List.getElem?_eq_none (by omega)]
  subst heq
  refine ⟨_, ho', by simp [hl], fun k y hk => ?_⟩
  rcases Nat.lt_or_ge k xs.length with hlt | hge
  · rw [List.getElem?_append_left hlt] at hk
    obtain ⟨gj, cj, hc, hgj, hcj, hrj⟩ := hx k y hk
    refine ⟨gj, cj, by rw [List.getElem?_append_left (by omega)]; exact hc, hgj, hcj, hrj.grown_ hg (by omega) (Nat.le_refl _)⟩
  · rw [List.getElem?_append_right hge] at hk
    have hk0 : k = xs.length := by
      have := (List.getElem?_eq_some_iff.1 hk).1
      simp at this
      omega
    subst hk0
    simp at hk
    subst hk
    exact ⟨gi, ci, by rw [List.getElem?_append_right (by omega)]; simp [hl], hgi, hci, hr.grown_ hg (by omega) (Nat.le_refl _)⟩

theorem Rd.setLow {B isz gi : Nat} {css : List (List Value)} (h : Rd w B isz (some ⟨gi, 0, none⟩) css) {p : Addr} (hp : gi ≠ p.block) (u : Value) : Rd (w.setCell p u) B isz (some ⟨gi, 0, none⟩) css := by
  intro k cs hk
  obtain ⟨b, off, e, hlt, hl, hc⟩ := h k cs hk
  injection e with e
  injection e with e1 e2
  subst e1
  refine ⟨gi, off, by rw [e2], hlt, hl, fun j u' hu => ?_⟩
  rw [← hc j u' hu]
  exact World.cell?_of_block (Below.heap_setCell _ _ _ _ hp)

theorem OwnNN.setLow (h : OwnNN w base E isz g cap xs) {p : Addr} (hp : p.block < g) (u : Value) : OwnNN (w.setCell p u) base E isz g cap xs := by
  obtain ⟨css, ho, hl, hx⟩ := h
  refine ⟨css, ho.setCell (fun q hq => by injection hq with hq; subst hq; simp; omega) u, hl, fun k x hk => ?_⟩
  obtain ⟨gi, ci, hc, hgi, hci, hr⟩ := hx k x hk
  refine ⟨gi, ci, hc, hgi, hci, ?_⟩
  have := hr.setLow (p := p) (by omega) u
  simpa [World.setCell] using this

theorem OwnNN.le (h : OwnNN w base E isz g cap xs) : base ≤ g ∧ g < w.heap.size := by
  obtain ⟨css, ho, _⟩ := h
  exact ho.lt (a := ⟨g, 0, none⟩) rfl

theorem OwnNN.nil_ (h : OwnS w base E 1 (some ⟨g, 0, none⟩) cap []) : OwnNN w base E isz g cap [] := ⟨[], h, rfl, by simp⟩
end
end Go.Proofs.Ytccjddbcdmgefaa
