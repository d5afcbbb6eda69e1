/-
  The laws' own functions: changes, example, the changes of the chapter, alike.
-/
import Derived.Test.YtccjddbcdmgefaaChgAll
import Derived.Test.YtccjddbcdmgefaaSameB
import Derived.Test.YtccjddbcdmgefaaKit
namespace Go.Proofs.Ytccjddbcdmgefaa
open Go.RowKit

set_option maxRecDepth 100000 in
set_option maxHeartbeats 1000000 in
theorem law_changes (X : Option Addr) (cx : Nat) (cs : List Chg) (m : Nat) (hm : m = cs.length) (w : World) (hX : Rd w w.heap.size 4 X (cs.map Chg.cells)) (hcs : cs.length ≤ 1000000) (hkk : ∀ c ∈ cs, 0 ≤ c.kind ∧ c.kind ≤ 255) :
    Calls Try.prog 15 #[.slice X m cx] w fun e w' => ∃ A' c', e = .returned (.slice A' cs.length c') ∧ OwnS w' w.heap.size 58 4 A' c' (cs.map fun c => c.ref.cells) ∧ Below w.heap.size w w' := by
  subst hm
  go_enter Try.func15, Try.ntmps15
  go_wp2
  go_loopw [3, 8] (fun v i wr => ∃ k : Nat, k ≤ cs.length ∧ i = .int .i64 k ∧ (∃ D d, v = .slice D k d ∧ OwnS wr w.heap.size 58 4 D d ((cs.take k).map fun c => c.ref.cells)) ∧ Below w.heap.size w wr) (fun _ i _ => cs.length - (intOf i).toNat)
  case atStart => exact ⟨0, by omega, rfl, ⟨none, 0, rfl, OwnS.nil _ _ _ _⟩, Below.refl _ _⟩
  case round =>
    obtain ⟨k, hk, rfl, ⟨D, d, rfl, hown⟩, hb⟩ := hrel
    by_cases hlt : k < cs.length
    · obtain ⟨bb, off, rfl, hb1, hld⟩ := Chg.ld (b := cs[k]) hX (by rw [List.getElem?_map, List.getElem?_eq_getElem hlt]; rfl)
      have HL := Lib.hid (hld wr hb)
      have hbs := hb.size
      have hkd := hkk _ (List.getElem_mem hlt)
      have hlen : ((cs.take k).map fun c => c.ref.cells).length = k := by simp; omega
      have HST : Hid (cs.take (k + 1) = cs.take k ++ [cs[k]]) := List.take_succ_eq_append_getElem hlt
      clear hld
      go_wp2_with (first
        | ((with_reducible refine g_ld 37 ?_); refine wpList_ld rfl _ _ rfl _ rfl _ HL.out ?_)
        | (at_builtin; go_loud (refine wpList_append_n rfl _ _ rfl RChg.ei k hlen.symm rfl ((hown.alloc _).alloc _) rfl _ (Rd.newS _ _ 58 4 cs[k].ref.cells rfl) rfl (RChg.ones [_]) (by unfold maxLen; simp; omega) (by simp; omega) (by simp; omega) ?_); intro A4 c4 w4 hown4 hg4 hb4))
      go_roundw
      case rel => exact ⟨k + 1, by omega, by go_num, ⟨A4, c4, rfl, by rw [HST.out, List.map_append]; exact hown4⟩, ((hb.alloc hb.size _).alloc (by simp; omega) _).trans hb4⟩
      case measure => simp [intOf]; omega
    · obtain rfl : k = cs.length := by omega
      rw [List.take_length] at hown
      go_wp2
      go_ret
      exact ⟨D, d, rfl, hown, hb⟩

theorem law_skip (n : Int) (w : World) : Calls Try.prog 22 #[.int .i64 n] w fun e w' => e = .returned (Chg.val ⟨1, n, 0, 0⟩) ∧ Below w.heap.size w w' := by
  go_enter Try.func22, Try.ntmps22
  go_wp2
  refine bodyPost_ret (v := Chg.val ⟨1, n, 0, 0⟩) (results_cell_row rfl _ _ w.heap.size _ _ _ _ rfl (heap_alloc_new w _) Try.underlying37 rfl (by kernel_rfl)) rfl ⟨rfl, ?_⟩
  exact (Below.refl _ _).alloc (Nat.le_refl _) _
theorem law_late (n : Int) (w : World) : Calls Try.prog 24 #[.int .i64 n] w fun e w' => e = .returned (Chg.val ⟨2, 0, n, 0⟩) ∧ Below w.heap.size w w' := by
  go_enter Try.func24, Try.ntmps24
  go_wp2
  refine bodyPost_ret (v := Chg.val ⟨2, 0, n, 0⟩) (results_cell_row rfl _ _ w.heap.size _ _ _ _ rfl (heap_alloc_new w _) Try.underlying37 rfl (by kernel_rfl)) rfl ⟨rfl, ?_⟩
  exact (Below.refl _ _).alloc (Nat.le_refl _) _
theorem law_cancel (n : Int) (w : World) : Calls Try.prog 25 #[.int .i64 n] w fun e w' => e = .returned (Chg.val ⟨3, 0, n, 0⟩) ∧ Below w.heap.size w w' := by
  go_enter Try.func25, Try.ntmps25
  go_wp2
  refine bodyPost_ret (v := Chg.val ⟨3, 0, n, 0⟩) (results_cell_row rfl _ _ w.heap.size _ _ _ _ rfl (heap_alloc_new w _) Try.underlying37 rfl (by kernel_rfl)) rfl ⟨rfl, ?_⟩
  exact (Below.refl _ _).alloc (Nat.le_refl _) _
theorem law_weigh (n k : Int) (w : World) : Calls Try.prog 26 #[.int .i64 n, .int .i64 k] w fun e w' => e = .returned (Chg.val ⟨4, 0, n, k⟩) ∧ Below w.heap.size w w' := by
  go_enter Try.func26, Try.ntmps26
  go_wp2
  refine bodyPost_ret (v := Chg.val ⟨4, 0, n, k⟩) (results_cell_row rfl _ _ w.heap.size _ _ _ _ rfl (heap_alloc_new w _) Try.underlying37 rfl (by kernel_rfl)) rfl ⟨rfl, ?_⟩
  exact (Below.refl _ _).alloc (Nat.le_refl _) _

def exBox (i l d : Int) : Box := ⟨i, noNum, 40, false, 1000, l, d, 0, false⟩
def exL : List Box := [exBox 1 0 2, exBox 2 1 2, exBox 3 1 3, exBox 4 2 3]

def exP : List (Int × Int) := [(0, 2), (1, 2), (1, 3), (2, 3)]
theorem exL_take (k : Nat) (h : k < 4) : ∃ a b, exP[k]? = some (a, b) ∧ exL.take (k + 1) = exL.take k ++ [exBox ((k : Int) + 1) a b] := by
  rcases (by omega : k = 0 ∨ k = 1 ∨ k = 2 ∨ k = 3) with rfl | rfl | rfl | rfl <;> exact ⟨_, _, rfl, rfl⟩
theorem exP_cell (k : Nat) (h : k < 4) {a b : Int} (hp : exP[k]? = some (a, b)) (j : Nat) (u : Value) (hu : ([.int .i64 a, .int .i64 b] : List Value)[j]? = some u) :
    (#[.int .i64 0, .int .i64 2, .int .i64 1, .int .i64 2, .int .i64 1, .int .i64 3, .int .i64 2, .int .i64 3] : Array Value)[k * 2 + j]? = some u := by
  have hj : j = 0 ∨ j = 1 := by
    have := (List.getElem?_eq_some_iff.1 hu).1
    simp at this
    omega
  rcases (by omega : k = 0 ∨ k = 1 ∨ k = 2 ∨ k = 3) with rfl | rfl | rfl | rfl <;> simp [exP] at hp <;> obtain ⟨rfl, rfl⟩ := hp <;> rcases hj with rfl | rfl <;> simpa using hu

set_option maxRecDepth 100000 in
set_option maxHeartbeats 2000000 in
theorem law_example (w : World) : Calls Try.prog 11 #[] w fun e w' => ∃ A' c', e = .returned (.slice A' exL.length c') ∧ OwnS w' w.heap.size 73 9 A' c' (exL.map Box.cells) ∧ Below w.heap.size w w' := by
  obtain ⟨W, hW⟩ : ∃ W, W = w.alloc (Obj.cells #[.int .i64 0, .int .i64 2, .int .i64 1, .int .i64 2, .int .i64 1, .int .i64 3, .int .i64 2, .int .i64 3] 70) := ⟨_, rfl⟩
  have hb : Below w.heap.size w W := by rw [hW]; exact (Below.refl _ _).alloc (Nat.le_refl _) _
  have hc : W.heap[w.heap.size]? = some (.cells #[.int .i64 0, .int .i64 2, .int .i64 1, .int .i64 2, .int .i64 1, .int .i64 3, .int .i64 2, .int .i64 3] 70 (0, 0)) := by rw [hW]; exact heap_alloc_new w _
  have hcl : w.heap.size < W.heap.size := (Array.getElem?_eq_some_iff.1 hc).1
  have HC : Hid (∀ w' j, From W w' → w'.cell? ⟨w.heap.size, j, none⟩ = (#[.int .i64 0, .int .i64 2, .int .i64 1, .int .i64 2, .int .i64 1, .int .i64 3, .int .i64 2, .int .i64 3] : Array Value)[j]?) := fun w' j hb => by rw [cell_of_row w' w.heap.size j _ _ _ ((hb.block _ hcl).trans hc)]
  have HB := Lib.hid hb
  clear hb hc
  go_enter Try.func11, Try.ntmps11
  go_wp2
  rw [← hW]
  clear hW
  go_loopw [1, 10] (fun v i wr => ∃ k : Nat, k ≤ 4 ∧ i = .int .i64 k ∧ (∃ D d, v = .slice D k d ∧ OwnS wr W.heap.size 73 9 D d ((exL.take k).map Box.cells)) ∧ From W wr) (fun _ i _ => 4 - (intOf i).toNat)
  case atStart => exact ⟨0, by omega, rfl, ⟨none, 0, rfl, OwnS.nil _ _ _ _⟩, Below.refl _ _⟩
  case round =>
    obtain ⟨k, hk, rfl, ⟨D, d, rfl, hown⟩, hbr⟩ := hrel
    by_cases hlt : k < 4
    · obtain ⟨pa, pb, hp, hst⟩ := exL_take k hlt
      have HST := Lib.hid hst
      have HL : Hid ((loadVar 70 ⟨w.heap.size, k * 2, none⟩).run Try.prog wr = .ok (.agg #[.int .i64 pa, .int .i64 pb]) wr) := run_load_cells (cs := [.int .i64 pa, .int .i64 pb]) ⟨_, Try.underlying70, by kernel_rfl, by kernel_rfl⟩ rfl (fun j u hu => by
        rw [Addr.add_lit, HC.out wr _ hbr]
        exact exP_cell k hlt hp j u hu)
      have hlen : ((exL.take k).map Box.cells).length = k := by simp [exL]; omega
      have hbs := hbr.size
      clear hst hp
      go_wp2_with (first
        | ((with_reducible refine g_ld 70 ?_); refine wpList_ld rfl _ _ rfl _ rfl _ HL.out ?_)
        | (at_builtin; go_loud (refine wpList_append_n rfl _ _ rfl Box.ei k hlen.symm rfl ((hown.alloc _).alloc _) rfl _ (Rd.newS _ _ 73 9 (Box.cells (exBox ((k : Int) + 1) pa pb)) rfl) rfl (Box.ones [_]) (by unfold maxLen; omega) (by omega) (by simp; omega) ?_); intro A4 c4 w4 hown4 hg4 hb4))
      go_roundw
      case rel => exact ⟨k + 1, by omega, by go_num, ⟨A4, c4, rfl, by rw [HST.out, List.map_append]; exact hown4⟩, ((hbr.alloc hbr.size _).alloc (by simp; omega) _).trans hb4⟩
      case measure => simp [intOf]; omega
    · obtain rfl : k = 4 := by omega
      go_wp2
      go_ret
      exact ⟨D, d, rfl, hown.base_le HB.out.size, HB.out.trans (hbr.mono HB.out.size)⟩
end Go.Proofs.Ytccjddbcdmgefaa
