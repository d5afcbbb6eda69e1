/-
  Two plans that a function builds by append, each in its own memory.
-/
import Derived.Test.YtccjddbcdmgefaaOwnN
import Derived.Test.YtccjddbcdmgefaaMainB
namespace Go.Proofs.Ytccjddbcdmgefaa
open Go.RowKit

theorem OwnN.lt_ {w : World} {base : Nat} {F : Nat → Prop} {E isz c : Nat} {A : Option Addr} {xs : List (Nat × Nat × List (List Value))} (h : OwnN w base F E isz A c xs) : ∀ b, F b → b < w.heap.size := by
  obtain ⟨_, _, _, h, _⟩ := h
  exact h
theorem OwnN.ad {w : World} {base : Nat} {F : Nat → Prop} {E isz c : Nat} {A : Option Addr} {xs : List (Nat × Nat × List (List Value))} (h : OwnN w base F E isz A c xs) : ∀ b, A.map (·.block) = some b → F b := by
  obtain ⟨_, _, _, _, h, _⟩ := h
  intro b hb
  cases A with
  | none => cases hb
  | some q => injection hb with hb; subst hb; exact h q rfl

structure PQ (wr : World) (base gp gq i j : Nat) (A : Option Addr) (c : Nat) (A' : Option Addr) (c' : Nat) (xs ys : List (List Stowed)) (FP FQ : Nat → Prop) : Prop where
  li : xs.length = i
  lj : ys.length = j
  sx : ∀ l ∈ xs, l.length ≤ 2
  sy : ∀ l ∈ ys, l.length ≤ 2
  kp : wr.heap[gp]? = some (.cells #[.slice A i c, .slice none 0 0] 29 (0, 0))
  kq : wr.heap[gq]? = some (.cells #[.slice A' j c', .slice none 0 0] 29 (0, 0))
  ox : OwnN wr base FP 31 4 A c (plainStates xs)
  oy : OwnN wr base FQ 31 4 A' c' (plainStates ys)
  dis : ∀ b, FP b → FQ b → False
  bp : ∀ b, FP b → base ≤ b
  bq : ∀ b, FQ b → base ≤ b
  lp : gp < base
  lq : gq < base
  ne : gp ≠ gq
  le : base ≤ wr.heap.size

theorem PQ.swap {wr : World} {base gp gq i j c c' : Nat} {A A' : Option Addr} {xs ys : List (List Stowed)} {FP FQ : Nat → Prop} (h : PQ wr base gp gq i j A c A' c' xs ys FP FQ) : PQ wr base gq gp j i A' c' A c ys xs FQ FP :=
  ⟨h.lj, h.li, h.sy, h.sx, h.kq, h.kp, h.oy, h.ox, fun b h1 h2 => h.dis b h2 h1, h.bq, h.bp, h.lq, h.lp, h.ne.symm, h.le⟩

/-- one more state of the first plan -/
theorem PQ.step {wr : World} {base gp gq i j c c' : Nat} {A A' : Option Addr} {xs ys : List (List Stowed)} {FP FQ : Nat → Prop} (h : PQ wr base gp gq i j A c A' c' xs ys FP FQ) (s1 s2 : Stowed) (cur : Array Value) (hcur : cur.toList = [s1.cells, s2.cells].flatten) :
    ∃ css : List (List Value), OwnS ((wr.alloc (.cells cur 42)).alloc (.cells #[.slice (some ⟨wr.heap.size, 0, none⟩) 2 2] 31)) base 31 1 A c css ∧ css.length = i ∧
      ∀ (A1 : Option Addr) (c1 : Nat) (w3 : World), OwnS w3 base 31 1 A1 c1 (css ++ [[.slice (some ⟨wr.heap.size, 0, none⟩) 2 2]]) →
        ((wr.alloc (.cells cur 42)).alloc (.cells #[.slice (some ⟨wr.heap.size, 0, none⟩) 2 2] 31)).grownBy w3 (A.map (·.block)) →
        (A1.map (·.block) = A.map (·.block) ∨ A1.map (·.block) = some ((wr.alloc (.cells cur 42)).alloc (.cells #[.slice (some ⟨wr.heap.size, 0, none⟩) 2 2] 31)).heap.size) →
        w3.heap[gp]? = some (.cells #[.slice A i c, .slice none 0 0] 29 (0, 0)) ∧
        (∃ FP', PQ (w3.setCell ⟨gp, 0, none⟩ (.slice A1 (i + 1) c1)) base gp gq (i + 1) j A1 c1 A' c' (xs ++ [[s1, s2]]) ys FP' FQ) ∧
        ∀ N, N ≤ gp → N ≤ wr.heap.size → (∀ b, FP b → N ≤ b) → Below N wr (w3.setCell ⟨gp, 0, none⟩ (.slice A1 (i + 1) c1)) := by
  have hs2 : ((wr.alloc (.cells cur 42)).alloc (.cells #[.slice (some ⟨wr.heap.size, 0, none⟩) 2 2] 31)).heap.size = wr.heap.size + 2 := size_alloc2 _ _ _
  have hold : ∀ b, b < wr.heap.size → ((wr.alloc (.cells cur 42)).alloc (.cells #[.slice (some ⟨wr.heap.size, 0, none⟩) 2 2] 31)).heap[b]? = wr.heap[b]? := fun b hb =>
    (Below.heap_alloc _ _ _ (by simp; omega)).trans (Below.heap_alloc _ _ _ hb)
  have hnew : ((wr.alloc (.cells cur 42)).alloc (.cells #[.slice (some ⟨wr.heap.size, 0, none⟩) 2 2] 31)).heap[wr.heap.size]? = some (.cells cur 42 (0, 0)) := heap_alloc2_old _ _ _
  have hb2 : ∀ N, N ≤ wr.heap.size → Below N wr ((wr.alloc (.cells cur 42)).alloc (.cells #[.slice (some ⟨wr.heap.size, 0, none⟩) 2 2] 31)) := fun N hN => ((Below.refl N wr).alloc hN _).alloc (by simp; omega) _
  generalize ((wr.alloc (.cells cur 42)).alloc (.cells #[.slice (some ⟨wr.heap.size, 0, none⟩) 2 2] 31)) = W2 at *
  have hlp := h.ox.lt_
  have hlq := h.oy.lt_
  have hle := h.le
  have hgp := h.lp
  have hgq := h.lq
  have hne := h.ne
  have hP2 : OwnN W2 base FP 31 4 A c (plainStates xs) := h.ox.keep (fun b hb => hold b (hlp b hb)) (by omega)
  have hQ2 : OwnN W2 base FQ 31 4 A' c' (plainStates ys) := h.oy.keep (fun b hb => hold b (hlq b hb)) (by omega)
  have hAd := h.ox.ad
  obtain ⟨css, ho, hl, hpush⟩ := hP2.out
  refine ⟨css, ho, by rw [hl]; simp [plainStates, h.li], fun A1 c1 w3 h1 h2 h3 => ?_⟩
  have hn := hpush A1 c1 w3 wr.heap.size 2 (2, 2, [s1, s2].map Stowed.cells) h1 h2 h3 (fun hf => by have := hlp _ hf; omega) (by omega) (Nat.le_refl _) (Rd.rows hnew hcur (Stowed.lens [s1, s2]))
  have hs3 := h2.size
  have hk3 : ∀ b, b < W2.heap.size → ¬ FP b → w3.heap[b]? = W2.heap[b]? := fun b hb hf => h2.block b hb (fun e => hf (hAd b e.symm))
  have kp3 : w3.heap[gp]? = some (.cells #[.slice A i c, .slice none 0 0] 29 (0, 0)) := ((hk3 gp (by omega) (fun hf => by have := h.bp _ hf; omega)).trans (hold gp (by omega))).trans h.kp
  have kq3 : w3.heap[gq]? = some (.cells #[.slice A' j c', .slice none 0 0] 29 (0, 0)) := ((hk3 gq (by omega) (fun hf => by have := h.bp _ hf; omega)).trans (hold gq (by omega))).trans h.kq
  have hs4 : (w3.setCell ⟨gp, 0, none⟩ (.slice A1 (i + 1) c1)).heap.size = w3.heap.size := by simp [World.setCell]
  have hk4 : ∀ b, b ≠ gp → (w3.setCell ⟨gp, 0, none⟩ (.slice A1 (i + 1) c1)).heap[b]? = w3.heap[b]? := fun b hb => heap_setCell_other _ _ _ _ hb
  have hF' : ∀ b, (FP b ∨ b = wr.heap.size ∨ A1.map (·.block) = some b) → FP b ∨ b = wr.heap.size ∨ b = W2.heap.size := fun b hb => by
    rcases hb with h5 | h5 | h5
    · exact .inl h5
    · exact .inr (.inl h5)
    · rcases h3 with h6 | h6
      · exact .inl (hAd b (by rw [← h6]; exact h5))
      · rw [h6] at h5
        injection h5 with h5
        exact .inr (.inr h5.symm)
  refine ⟨kp3, ⟨fun b => FP b ∨ b = wr.heap.size ∨ A1.map (·.block) = some b, ⟨by simp [h.li], h.lj, ?_, h.sy, ?_, (hk4 gq hne.symm).trans kq3, ?_, ?_, ?_, ?_, h.bq, hgp, hgq, hne, by omega⟩⟩, ?_⟩
  · intro l hl
    rcases List.mem_append.1 hl with h5 | h5
    · exact h.sx l h5
    · simp at h5; subst h5; simp
  · have := heap_setCell_same w3 gp 0 _ _ (.slice A1 (i + 1) c1) kp3
    simpa using this
  · have e : plainStates (xs ++ [[s1, s2]]) = plainStates xs ++ [(2, 2, [s1, s2].map Stowed.cells)] := by simp [plainStates]
    rw [e]
    refine hn.keep (fun b hb => hk4 b ?_) (by omega)
    intro e2
    rcases hF' b hb with h5 | h5 | h5
    · have := h.bp _ h5; omega
    · omega
    · omega
  · refine hQ2.keep (fun b hb => (hk4 b ?_).trans (hk3 b ?_ ?_)) (by omega)
    · have := h.bq _ hb; omega
    · have := hlq _ hb; omega
    · exact fun hf => h.dis b hf hb
  · intro b hb hq
    rcases hF' b hb with h5 | h5 | h5
    · exact h.dis b h5 hq
    · have := hlq _ hq; omega
    · have := hlq _ hq; omega
  · intro b hb
    rcases hF' b hb with h5 | h5 | h5
    · exact h.bp _ h5
    · omega
    · omega
  · intro N hN1 hN2 hN3
    have := ((hb2 N hN2).grown h2 (by omega) (fun k hk => hN3 k (hAd k hk))).setCell (p := ⟨gp, 0, none⟩) hN1 (.slice A1 (i + 1) c1)
    exact this
end Go.Proofs.Ytccjddbcdmgefaa
