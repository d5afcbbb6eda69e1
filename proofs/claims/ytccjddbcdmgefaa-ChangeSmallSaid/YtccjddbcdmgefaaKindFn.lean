/-
  What the functions of the kinds do to a box that lies in a block of its own.
-/
import Derived.Test.YtccjddbcdmgefaaKinds
namespace Go.Proofs.Ytccjddbcdmgefaa
open Go.RowKit

abbrev Box.arr (b : Box) : Array Value := #[.int .i64 b.id, .string b.num, .int .u8 b.size, .bool b.high, .int .i64 b.kilos, .int .i64 b.load, .int .i64 b.dis, .int .u8 b.cls, .bool b.reefer]
def BoxAt (w : World) (g : Nat) (b : Box) : Prop := w.heap[g]? = some (.cells b.arr 73 (0, 0))

theorem BoxAt.lt {w : World} {g : Nat} {b : Box} (h : BoxAt w g b) : g < w.heap.size := (Array.getElem?_eq_some_iff.1 h).1
theorem BoxAt.cell {w : World} {g : Nat} {b : Box} (h : BoxAt w g b) (j : Nat) : w.cell? ⟨g, j, none⟩ = b.arr[j]? := by
  rw [cell_of_row w g j _ _ _ h]
theorem BoxAt.frozen {w : World} {g : Nat} {b : Box} (h : BoxAt w g b) (j : Nat) : w.frozen? ⟨g, j, none⟩ = false := by
  unfold BoxAt at h
  simp [World.frozen?, h]
theorem BoxAt.set {w : World} {g : Nat} {b : Box} (h : BoxAt w g b) (j : Nat) (u : Value) : (w.setCell ⟨g, j, none⟩ u).heap[g]? = some (.cells (b.arr.setIfInBounds j u) 73 (0, 0)) := by
  unfold BoxAt at h
  simp only [World.setCell]
  rw [Array.getElem?_modify]
  simp [h]
theorem BoxAt.alloc {w : World} {g : Nat} {b : Box} (h : BoxAt w g b) (o : Obj) : BoxAt (w.alloc o) g b := (Below.heap_alloc _ _ _ h.lt).trans h
theorem BoxAt.below {w w' : World} {g B : Nat} {b : Box} (h : BoxAt w g b) (hb : Below B w w') (hB : g < B) : BoxAt w' g b := (hb.block _ hB).trans h

def skip1 (call : Int) (b : Box) : Box := if b.dis = call then { b with dis := call + 1 } else b
theorem skipB_eq (call : Int) (b : Box) : skipB call b = if b.load = call then [] else [skip1 call b] := by
  unfold skipB skip1
  split
  · rfl
  · split <;> rfl

theorem kind_loaded (b : Box) (now : Int) (w : World) : Calls Try.prog 67 #[b.val, .int .i64 now] w fun e w' => e = .returned (.bool (decide (b.load < now))) ∧ Below w.heap.size w w' := by
  go_enter Try.func67, Try.ntmps67
  go_wp2
  go_ret
  exact ⟨rfl, (Below.refl _ _).alloc (Nat.le_refl _) _⟩
theorem kind_gone (b : Box) (now : Int) (w : World) : Calls Try.prog 70 #[b.val, .int .i64 now] w fun e w' => e = .returned (.bool (decide (b.dis < now))) ∧ Below w.heap.size w w' := by
  go_enter Try.func70, Try.ntmps70
  go_wp2
  go_ret
  exact ⟨rfl, (Below.refl _ _).alloc (Nat.le_refl _) _⟩

theorem kind_cancel (g : Nat) (c : Chg) (w : World) : Calls Try.prog 69 #[.pointer (some ⟨g, 0, none⟩), c.val] w fun e w' => e = .returned (.tuple #[.bool false, .int .i64 0]) ∧ Below w.heap.size w w' := by
  go_enter Try.func69, Try.ntmps69
  go_wp2
  go_ret2
  exact ⟨rfl, (Below.refl _ _).alloc (Nat.le_refl _) _⟩

/-- whose ID a change names -/
theorem changed_fn (y : Box) (id : Int) (g : Nat) (w : World) (hg : w.cell? ⟨g, 2, none⟩ = some (.int .i64 id)) :
    Calls Try.prog 57 #[y.val, .pointer (some ⟨g, 0, none⟩)] w fun e w' => e = .returned (.bool (y.id == id)) ∧ Below w.heap.size w w' := by
  have hlt : g < w.heap.size := block_lt_of_cell hg
  go_enter Try.func57, Try.ntmps57
  go_wp2
  go_ret
  exact ⟨rfl, (Below.refl _ _).alloc (Nat.le_refl _) _⟩
theorem changed_cf (w : World) (args : Array Value) : (callFunc 57 args).run Try.prog w = .ok (.enter 57 args) w := by
  go_simp

set_option maxRecDepth 100000 in
theorem kind_weigh (b : Box) (g : Nat) (c : Chg) (w : World) (h : BoxAt w g b) (hn : b.num.size ≤ 140737488351232) : Calls Try.prog 71 #[.pointer (some ⟨g, 0, none⟩), c.val] w fun e w' =>
    e = .returned (.tuple #[.bool (boxB { b with kilos := c.kilos }), .int .i64 (if boxB { b with kilos := c.kilos } then 0 else 372)]) ∧ BoxAt w' g { b with kilos := c.kilos } ∧ Below g w w' := by
  have hlt := h.lt
  have f4 := h.frozen 4
  have c4 : w.cell? ⟨g, 4, none⟩ = some (.int .i64 b.kilos) := h.cell 4
  have h3 : BoxAt (w.setCell ⟨g, 4, none⟩ (.int .i64 c.kilos)) g { b with kilos := c.kilos } := h.set 4 (.int .i64 c.kilos)
  have hb : Below g w (w.setCell ⟨g, 4, none⟩ (.int .i64 c.kilos)) := (Below.refl g w).setCell (p := ⟨g, _, none⟩) (Nat.le_refl g) _
  have hs : (w.setCell ⟨g, 4, none⟩ (.int .i64 c.kilos)).heap.size = w.heap.size := by simp [World.setCell]
  have HB := Lib.hid (hb.alloc (by omega) (Obj.cells #[.int .u8 c.kind, .int .i64 c.call, .int .i64 c.box, .int .i64 c.kilos] 37))
  have HA := Lib.hid (h3.alloc (Obj.cells #[.int .u8 c.kind, .int .i64 c.call, .int .i64 c.box, .int .i64 c.kilos] 37))
  have HLD := Lib.hid (box_ldBlock (b := { b with kilos := c.kilos }) HA.out)
  clear h h3 hb hs
  cases hB : boxB { b with kilos := c.kilos } with
  | true =>
    go_enter Try.func71, Try.ntmps71
    go_wp2_with (first
      | ((with_reducible refine g_ld 73 ?_); refine wpList_ld rfl _ _ rfl _ rfl _ HLD.out ?_)
      | (go_at_call 72; refine (box_right { b with kilos := c.kilos } _ hn).mono ?_; rw [hB]; rintro e w3 ⟨rfl, hb3⟩))
    go_ret2
    exact ⟨rfl, HA.out.below hb3 HA.out.lt, HB.out.trans (hb3.mono (Nat.le_of_lt HA.out.lt))⟩
  | false =>
    go_enter Try.func71, Try.ntmps71
    go_wp2_with (first
      | ((with_reducible refine g_ld 73 ?_); refine wpList_ld rfl _ _ rfl _ rfl _ HLD.out ?_)
      | (go_at_call 72; refine (box_right { b with kilos := c.kilos } _ hn).mono ?_; rw [hB]; rintro e w3 ⟨rfl, hb3⟩))
    go_ret2
    exact ⟨rfl, HA.out.below hb3 HA.out.lt, HB.out.trans (hb3.mono (Nat.le_of_lt HA.out.lt))⟩

set_option maxRecDepth 100000 in
/-- one call later -/
theorem kind_late (b : Box) (g : Nat) (c : Chg) (w : World) (h : BoxAt w g b) (h0 : 0 ≤ b.load) (h1 : b.load ≤ 1000) : Calls Try.prog 68 #[.pointer (some ⟨g, 0, none⟩), c.val] w fun e w' =>
    e = .returned (.tuple #[.bool (decide (b.load + 1 < b.dis)), .int .i64 0]) ∧ BoxAt w' g { b with load := b.load + 1 } ∧ Below g w w' := by
  have hlt := h.lt
  have f5 := h.frozen 5
  have c5 : w.cell? ⟨g, 5, none⟩ = some (.int .i64 b.load) := h.cell 5
  have h3 : BoxAt (w.setCell ⟨g, 5, none⟩ (.int .i64 (b.load + 1))) g { b with load := b.load + 1 } := h.set 5 (.int .i64 (b.load + 1))
  have hb : Below g w (w.setCell ⟨g, 5, none⟩ (.int .i64 (b.load + 1))) := (Below.refl g w).setCell (p := ⟨g, _, none⟩) (Nat.le_refl g) _
  have hs : (w.setCell ⟨g, 5, none⟩ (.int .i64 (b.load + 1))).heap.size = w.heap.size := by simp [World.setCell]
  have HB := Lib.hid (hb.alloc (by omega) (Obj.cells #[.int .u8 c.kind, .int .i64 c.call, .int .i64 c.box, .int .i64 c.kilos] 37))
  have HA := Lib.hid (h3.alloc (Obj.cells #[.int .u8 c.kind, .int .i64 c.call, .int .i64 c.box, .int .i64 c.kilos] 37))
  clear h h3 hb hs
  go_enter Try.func68, Try.ntmps68
  go_wp2
  obtain ⟨W, hW⟩ : ∃ W, W = (w.setCell ⟨g, 5, none⟩ (.int .i64 (b.load + 1))).alloc (Obj.cells #[.int .u8 c.kind, .int .i64 c.call, .int .i64 c.box, .int .i64 c.kilos] 37) := ⟨_, rfl⟩
  rw [← hW] at HB HA ⊢
  have HL1 : Hid (∀ w', From W w' → (loadVar 3 ⟨g, 5, none⟩).run Try.prog w' = .ok (.int .i64 (b.load + 1)) w') := fun w' hb => run_load_cell Try.underlying3 rfl ((HA.out.below hb HA.out.lt).cell 5)
  have HL2 : Hid (∀ w', From W w' → (loadVar 3 ⟨g, 6, none⟩).run Try.prog w' = .ok (.int .i64 b.dis) w') := fun w' hb => run_load_cell Try.underlying3 rfl ((HA.out.below hb HA.out.lt).cell 6)
  clear hW
  refine wp_region_below (by kernel_rfl) (by kernel_rfl) W.heap.size ?_
  repeat (first | go_big_quiet_skip | (go_big_quiet_want; refine quiet_ld 3 _ rfl _ rfl _ (fun w' hC => HL1.out w' hC) ?_; simp only [Act.put, List.setIfInBounds_toArray, List.set_cons_succ, List.set_cons_zero]; go_big_quiet_on) | (go_big_quiet_want; refine quiet_ld 3 _ rfl _ rfl _ (fun w' hC => HL2.out w' hC) ?_; simp only [Act.put, List.setIfInBounds_toArray, List.set_cons_succ, List.set_cons_zero]; go_big_quiet_on) | go_big_quiet_step (first | (intro hC; rfl) | (intro hC; exact ⟨rfl, rfl⟩)))
  refine wpQuiet_nil ?_
  intro w' hC
  go_wp2
  go_ret2
  exact ⟨rfl, HA.out.below hC HA.out.lt, HB.out.trans (hC.mono (Nat.le_of_lt HA.out.lt))⟩

set_option maxRecDepth 100000 in
/-- a call is skipped -/
theorem kind_skip (b : Box) (g : Nat) (c : Chg) (w : World) (h : BoxAt w g b) (h0 : 0 ≤ b.dis) (h1 : b.dis ≤ 1000) : Calls Try.prog 66 #[.pointer (some ⟨g, 0, none⟩), c.val] w fun e w' =>
    e = .returned (.tuple #[.bool (b.load != c.call), .int .i64 0]) ∧ BoxAt w' g (skip1 c.call b) ∧ Below g w w' := by
  have hlt := h.lt
  obtain ⟨W, hW⟩ : ∃ W, W = w.alloc (Obj.cells #[.int .u8 c.kind, .int .i64 c.call, .int .i64 c.box, .int .i64 c.kilos] 37) := ⟨_, rfl⟩
  have hA : BoxAt W g b := by rw [hW]; exact h.alloc _
  have hb : Below w.heap.size w W := by rw [hW]; exact (Below.refl _ _).alloc (Nat.le_refl _) _
  have hc : W.heap[w.heap.size]? = some (.cells #[.int .u8 c.kind, .int .i64 c.call, .int .i64 c.box, .int .i64 c.kilos] 37 (0, 0)) := by rw [hW]; exact heap_alloc_new w _
  have hcl : w.heap.size < W.heap.size := (Array.getElem?_eq_some_iff.1 hc).1
  have HL1 : Hid (∀ w', From W w' → (loadVar 3 ⟨g, 6, none⟩).run Try.prog w' = .ok (.int .i64 b.dis) w') := fun w' hb => run_load_cell Try.underlying3 rfl ((hA.below hb hA.lt).cell 6)
  have HL2 : Hid (∀ w', From W w' → (loadVar 3 ⟨w.heap.size, 1, none⟩).run Try.prog w' = .ok (.int .i64 c.call) w') := fun w' hb => run_load_cell Try.underlying3 rfl (by rw [cell_of_row w' w.heap.size 1 _ _ _ ((hb.block _ hcl).trans hc)]; rfl)
  have HA := Lib.hid hA
  have HB := Lib.hid hb
  have HC0 := Lib.hid hc
  clear h hA hb hc
  go_enter Try.func66, Try.ntmps66
  go_wp2
  rw [← hW]
  clear hW
  refine wp_region_below (by kernel_rfl) (by kernel_rfl) W.heap.size ?_
  repeat (first | go_big_quiet_skip | (go_big_quiet_want; refine quiet_ld 3 _ rfl _ rfl _ (fun w' hC => HL1.out w' hC) ?_; simp only [Act.put, List.setIfInBounds_toArray, List.set_cons_succ, List.set_cons_zero]; go_big_quiet_on) | (go_big_quiet_want; refine quiet_ld 3 _ rfl _ rfl _ (fun w' hC => HL2.out w' hC) ?_; simp only [Act.put, List.setIfInBounds_toArray, List.set_cons_succ, List.set_cons_zero]; go_big_quiet_on) | go_big_quiet_step (first | (intro hC; rfl) | (intro hC; exact ⟨rfl, rfl⟩)))
  refine wpQuiet_nil ?_
  intro w1 hC
  have hA1 : BoxAt w1 g b := HA.out.below hC HA.out.lt
  have hB1 : Below w.heap.size w w1 := HB.out.trans (hC.mono HB.out.size)
  have hc1 := (hC.block _ hcl).trans HC0.out
  by_cases hq : b.dis = c.call
  · have hq2 : (b.dis == c.call) = true := by simpa using hq
    have HD : Hid (skip1 c.call b = { b with dis := b.dis + 1 }) := by unfold Hid skip1; rw [if_pos hq, hq]
    have f6 := hA1.frozen 6
    have c6 : w1.cell? ⟨g, 6, none⟩ = some (.int .i64 b.dis) := hA1.cell 6
    have hA2 : BoxAt (w1.setCell ⟨g, 6, none⟩ (.int .i64 (b.dis + 1))) g { b with dis := b.dis + 1 } := hA1.set 6 (.int .i64 (b.dis + 1))
    have hB2 : Below g w (w1.setCell ⟨g, 6, none⟩ (.int .i64 (b.dis + 1))) := (hB1.mono (Nat.le_of_lt hlt)).setCell (p := ⟨g, 6, none⟩) (Nat.le_refl g) _
    have hc2 : (w1.setCell ⟨g, 6, none⟩ (.int .i64 (b.dis + 1))).heap[w.heap.size]? = some (.cells #[.int .u8 c.kind, .int .i64 c.call, .int .i64 c.box, .int .i64 c.kilos] 37 (0, 0)) := (Below.heap_setCell w1 ⟨g, 6, none⟩ _ w.heap.size (by show w.heap.size ≠ g; omega)).trans hc1
    have HA2 := Lib.hid hA2
    have HB2 := Lib.hid hB2
    have HC2 := Lib.hid hc2
    clear hA1 hB1 hc1 hA2 hB2 hc2 HL1 HL2 hq
    go_wp2
    obtain ⟨W2, hW2⟩ : ∃ W2, W2 = w1.setCell ⟨g, 6, none⟩ (.int .i64 (b.dis + 1)) := ⟨_, rfl⟩
    rw [← hW2] at HA2 HB2 HC2 ⊢
    have hlt2 : w.heap.size < W2.heap.size := (Array.getElem?_eq_some_iff.1 HC2.out).1
    have HL3 : Hid (∀ w', From W2 w' → (loadVar 3 ⟨g, 5, none⟩).run Try.prog w' = .ok (.int .i64 b.load) w') := fun w' hb => run_load_cell Try.underlying3 rfl ((HA2.out.below hb HA2.out.lt).cell 5)
    have HL4 : Hid (∀ w', From W2 w' → (loadVar 3 ⟨w.heap.size, 1, none⟩).run Try.prog w' = .ok (.int .i64 c.call) w') := fun w' hb => run_load_cell Try.underlying3 rfl (by rw [cell_of_row w' w.heap.size 1 _ _ _ ((hb.block _ hlt2).trans HC2.out)]; rfl)
    clear hW2
    refine wp_region_below (by kernel_rfl) (by kernel_rfl) W2.heap.size ?_
    repeat (first | go_big_quiet_skip | (go_big_quiet_want; refine quiet_ld 3 _ rfl _ rfl _ (fun w' hC => HL3.out w' hC) ?_; simp only [Act.put, List.setIfInBounds_toArray, List.set_cons_succ, List.set_cons_zero]; go_big_quiet_on) | (go_big_quiet_want; refine quiet_ld 3 _ rfl _ rfl _ (fun w' hC => HL4.out w' hC) ?_; simp only [Act.put, List.setIfInBounds_toArray, List.set_cons_succ, List.set_cons_zero]; go_big_quiet_on) | go_big_quiet_step (first | (intro hC; rfl) | (intro hC; exact ⟨rfl, rfl⟩)))
    refine wpQuiet_nil ?_
    intro w3 hC3
    go_wp2
    go_ret2
    exact ⟨rfl, by rw [HD.out]; exact HA2.out.below hC3 HA2.out.lt, HB2.out.trans (hC3.mono (Nat.le_of_lt HA2.out.lt))⟩
  · have hq2 : (b.dis == c.call) = false := by simpa using hq
    have HD : Hid (skip1 c.call b = b) := by unfold Hid skip1; rw [if_neg hq]
    have HA2 := Lib.hid hA1
    have HB2 : Hid (Below g w w1) := hB1.mono (Nat.le_of_lt hlt)
    have HC2 := Lib.hid hc1
    clear hA1 hB1 hc1 HL1 HL2 hq hC
    go_wp2
    have hlt2 : w.heap.size < w1.heap.size := (Array.getElem?_eq_some_iff.1 HC2.out).1
    have HL3 : Hid (∀ w', From w1 w' → (loadVar 3 ⟨g, 5, none⟩).run Try.prog w' = .ok (.int .i64 b.load) w') := fun w' hb => run_load_cell Try.underlying3 rfl ((HA2.out.below hb HA2.out.lt).cell 5)
    have HL4 : Hid (∀ w', From w1 w' → (loadVar 3 ⟨w.heap.size, 1, none⟩).run Try.prog w' = .ok (.int .i64 c.call) w') := fun w' hb => run_load_cell Try.underlying3 rfl (by rw [cell_of_row w' w.heap.size 1 _ _ _ ((hb.block _ hlt2).trans HC2.out)]; rfl)
    refine wp_region_below (by kernel_rfl) (by kernel_rfl) w1.heap.size ?_
    repeat (first | go_big_quiet_skip | (go_big_quiet_want; refine quiet_ld 3 _ rfl _ rfl _ (fun w' hC => HL3.out w' hC) ?_; simp only [Act.put, List.setIfInBounds_toArray, List.set_cons_succ, List.set_cons_zero]; go_big_quiet_on) | (go_big_quiet_want; refine quiet_ld 3 _ rfl _ rfl _ (fun w' hC => HL4.out w' hC) ?_; simp only [Act.put, List.setIfInBounds_toArray, List.set_cons_succ, List.set_cons_zero]; go_big_quiet_on) | go_big_quiet_step (first | (intro hC; rfl) | (intro hC; exact ⟨rfl, rfl⟩)))
    refine wpQuiet_nil ?_
    intro w3 hC3
    go_wp2
    go_ret2
    exact ⟨rfl, by rw [HD.out]; exact HA2.out.below hC3 HA2.out.lt, HB2.out.trans (hC3.mono (Nat.le_of_lt HA2.out.lt))⟩
end Go.Proofs.Ytccjddbcdmgefaa
