/-
  The examples of the chapter, reckoned.
-/
import Derived.Test.YtccjddbcdmgefaaLawB
namespace Go.Proofs.Ytccjddbcdmgefaa
open Go.RowKit

theorem ex_a : allL exL 4 1 [⟨1, 2, 0, 0⟩] = ([exBox 1 0 3, exBox 2 1 3, exBox 3 1 3], 0, 0) := by kernel_rfl
theorem ex_b : allL exL 4 1 [⟨1, 3, 0, 0⟩] = ([], 0, 6) := by kernel_rfl
theorem ex_c : allL exL 4 1 [⟨1, 4, 0, 0⟩] = ([], 0, 6) := by kernel_rfl
theorem ex_d : allL exL 4 1 [⟨1, 0, 0, 0⟩] = ([], 0, 370) := by kernel_rfl
theorem ex_e : allL exL 4 1 [⟨2, 0, 2, 0⟩] = ([exBox 1 0 2, exBox 3 1 3, exBox 4 2 3], 0, 0) := by kernel_rfl
theorem ex_f : allL exL 4 1 [⟨2, 0, 3, 0⟩] = ([exBox 1 0 2, exBox 2 1 2, exBox 3 2 3, exBox 4 2 3], 0, 0) := by kernel_rfl
theorem ex_g : allL exL 4 1 [⟨2, 0, 1, 0⟩] = ([], 0, 370) := by kernel_rfl
theorem ex_h : allL exL 4 1 [⟨3, 0, 4, 0⟩] = ([exBox 1 0 2, exBox 2 1 2, exBox 3 1 3], 0, 0) := by kernel_rfl
theorem ex_i : allL exL 4 1 [⟨4, 0, 1, 0⟩] = ([], 0, 372) := by kernel_rfl
theorem ex_j : allL exL 4 1 [⟨1, 2, 0, 0⟩, ⟨2, 0, 3, 0⟩] = ([exBox 1 0 3, exBox 2 1 3, exBox 3 2 3], 0, 0) := by kernel_rfl
theorem ex_k : allL exL 4 1 [⟨1, 2, 0, 0⟩, ⟨2, 0, 4, 0⟩] = ([], 1, 6) := by kernel_rfl

theorem Rd.rows {w : World} {g size : Nat} {t : TypeId} {fr : Nat × Nat} {cur : Array Value} {css : List (List Value)} (hg : w.heap[g]? = some (.cells cur t fr)) (hcur : cur.toList = css.flatten) (hl : ∀ cs ∈ css, cs.length = size) : Rd w w.heap.size size (some ⟨g, 0, none⟩) css := by
  intro k cs hk
  have hlen := hl _ (List.mem_of_getElem? hk)
  refine ⟨g, 0, rfl, (Array.getElem?_eq_some_iff.1 hg).1, hlen, fun j u hu => ?_⟩
  have hj : j < size := by rw [← hlen]; exact (List.getElem?_eq_some_iff.1 hu).1
  rw [cell_of_row w g (0 + k * size + j) _ _ _ hg, ← Array.getElem?_toList, hcur, Nat.zero_add, flat_get css hl k j hj, hk]
  exact hu

/-- fails, at a slice that has just been laid -/
theorem fails_new (cs : List Chg) (want : Int) (w : World) (cur : Array Value) (hcur : cur.toList = (cs.map Chg.cells).flatten) (hcs : cs.length ≤ 1000) (hkk : ∀ c ∈ cs, 0 ≤ c.kind ∧ c.kind ≤ 255) (n : Nat) (hn : n = cs.length) (hall : allL exL 4 1 cs = ([], (cs.length : Int) - 1, want)) :
    Calls Try.prog 23 #[.int .i64 want, .slice (some ⟨w.heap.size, 0, none⟩) n n] (w.alloc (.cells cur 37)) fun e w' => e = .returned (.bool true) ∧ Below w.heap.size w w' := by
  have hb : Below w.heap.size w (w.alloc (.cells cur 37)) := (Below.refl _ _).alloc (Nat.le_refl _) _
  exact (law_fails _ n cs n hn want _ (Rd.rows (heap_alloc_new w _) hcur (Chg.lens cs)) hcs hkk hall).mono fun e w' ⟨h1, h2⟩ => ⟨h1, hb.trans (h2.mono hb.size)⟩

theorem trip_lens (l : List Box) : ∀ cs ∈ l.map Box.trip, cs.length = 3 := by
  intro cs h
  obtain ⟨b, _, rfl⟩ := List.mem_map.1 h
  rfl

/-- gives, likewise -/
theorem gives_new (cs : List Chg) (l' : List Box) (w : World) (cur cur' : Array Value) (hcur : cur.toList = (cs.map Chg.cells).flatten) (hcur' : cur'.toList = (l'.map Box.trip).flatten) (hcs : cs.length ≤ 1000) (hl' : l'.length ≤ 1000) (hkk : ∀ c ∈ cs, 0 ≤ c.kind ∧ c.kind ≤ 255) (n m : Nat) (hn : n = cs.length) (hm : m = l'.length) (hall : allL exL 4 1 cs = (l', 0, 0)) :
    Calls Try.prog 21 #[.slice (some ⟨w.heap.size, 0, none⟩) n n, .slice (some ⟨w.heap.size + 1, 0, none⟩) m m] ((w.alloc (.cells cur 37)).alloc (.cells cur' 61)) fun e w' => e = .returned (.bool true) ∧ Below w.heap.size w w' := by
  have hb : Below w.heap.size w ((w.alloc (.cells cur 37)).alloc (.cells cur' 61)) := ((Below.refl _ _).alloc (Nat.le_refl _) _).alloc (by simp) _
  have e1 : (w.alloc (.cells cur 37)).heap.size = w.heap.size + 1 := by simp
  have h2 := Rd.rows (size := 3) (heap_alloc_new (w.alloc (.cells cur 37)) (.cells cur' 61)) hcur' (trip_lens l')
  rw [e1] at h2
  exact (law_gives _ _ n m cs l' n m hn hm _ (Rd.rows (heap_alloc2_old w _ _) hcur (Chg.lens cs)) h2 hcs hl' hkk hall).mono fun e w' ⟨h1, h2⟩ => ⟨h1, hb.trans (h2.mono hb.size)⟩
end Go.Proofs.Ytccjddbcdmgefaa
