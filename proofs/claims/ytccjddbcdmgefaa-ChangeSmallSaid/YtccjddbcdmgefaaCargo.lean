/-
  cargo.Valid and change.right.
-/
import Derived.Test.YtccjddbcdmgefaaValid
import Derived.Test.YtccjddbcdmgefaaIndex
namespace Go.Proofs.Ytccjddbcdmgefaa
open Go.RowKit

theorem cargoFn (y : Box) (n : Int) (g : Nat) (w : World) (hg : w.cell? ⟨g, 0, none⟩ = some (.int .i64 n)) :
    Calls Try.prog 65 #[y.val, .pointer (some ⟨g, 0, none⟩)] w fun e w' => e = .returned (.bool (decide (n ≤ y.dis))) ∧ Below w.heap.size w w' := by
  have hlt : g < w.heap.size := block_lt_of_cell hg
  go_enter Try.func65, Try.ntmps65
  go_wp2
  go_ret
  exact ⟨rfl, (Below.refl _ _).alloc (Nat.le_refl _) _⟩

theorem cargoFn_cf (w : World) (args : Array Value) : (callFunc 65 args).run Try.prog w = .ok (.enter 65 args) w := by
  go_simp

def cargoValid (n : Int) (l : List Box) : Int × Int :=
  if n < 2 ∨ 20 < n then (-1, 2)
  else if (boxValid l).2 = 0 then
    if 0 ≤ idx (fun b : Box => decide (n ≤ b.dis)) l then (idx (fun b : Box => decide (n ≤ b.dis)) l, 210) else (-1, 0)
  else boxValid l

set_option maxHeartbeats 1000000 in
theorem cargo_valid (A : Option Addr) (c : Nat) (l : List Box) (n : Nat) (hn : n = l.length) (calls : Int) (w : World) (hA : Rd w w.heap.size 9 A (l.map Box.cells)) (hl : l.length ≤ 1000000000000) (hnum : ∀ b ∈ l, b.num.size ≤ 140737488351232) :
    Calls Try.prog 54 #[.int .i64 calls, .slice A n c] w fun e w' => e = .returned (.tuple #[.int .i64 (cargoValid calls l).1, .int .i64 (cargoValid calls l).2]) ∧ Below w.heap.size w w' := by
  subst hn
  have hw1 : Below w.heap.size w (w.alloc (.cells #[.int .i64 calls] 3)) := (Below.refl _ _).alloc (Nat.le_refl _) _
  have hb1 : ∀ w2, From (w.alloc (.cells #[.int .i64 calls] 3)) w2 → w2.cell? ⟨w.heap.size, 0, none⟩ = some (.int .i64 calls) := fun w2 h => by
    rw [cell_of_row w2 w.heap.size 0 _ _ _ ((h.block _ (by simp)).trans (heap_alloc_new w _))]; rfl
  have HW1 := Lib.hid hw1
  have HB1 := Lib.hid hb1
  clear hw1 hb1
  by_cases h1 : calls < 2
  · have HV : Hid (cargoValid calls l = (-1, 2)) := by unfold Hid cargoValid; rw [if_pos (.inl h1)]
    go_enter Try.func54, Try.ntmps54
    go_wp2
    go_ret2
    exact ⟨by rw [HV.out]; rfl, HW1.out⟩
  by_cases h2 : 20 < calls
  · have HV : Hid (cargoValid calls l = (-1, 2)) := by unfold Hid cargoValid; rw [if_pos (.inr h2)]
    go_enter Try.func54, Try.ntmps54
    go_wp2
    go_ret2
    exact ⟨by rw [HV.out]; rfl, HW1.out⟩
  have HBV : Hid (Calls Try.prog 64 #[.slice A l.length c] (w.alloc (.cells #[.int .i64 calls] 3)) fun e w' => e = .returned (.tuple #[.int .i64 (boxValid l).1, .int .i64 (boxValid l).2]) ∧ Below (w.alloc (.cells #[.int .i64 calls] 3)).heap.size (w.alloc (.cells #[.int .i64 calls] 3)) w') :=
    box_valid A c l _ rfl _ ((hA.below HW1.out (Nat.le_refl _)).more HW1.out.size) hl hnum
  obtain ⟨I, hI⟩ : ∃ I, I = idx (fun b : Box => decide (calls ≤ b.dis)) l := ⟨_, rfl⟩
  have HIX : Hid (∀ w2, From (w.alloc (.cells #[.int .i64 calls] 3)) w2 → Calls Try.prog 56 #[.slice A l.length c, .func (.func 65) #[] #[.pointer (some ⟨w.heap.size, 0, none⟩)]] w2 fun e w' => e = .returned (.int .i64 I) ∧ Below w2.heap.size w2 w') := fun w2 h2 => by
    rw [hI]
    exact indexBox A c l _ rfl 65 #[.pointer (some ⟨w.heap.size, 0, none⟩)] _ w2 ((hA.below (HW1.out.trans (h2.mono HW1.out.size)) (Nat.le_refl _)).more (Nat.le_trans HW1.out.size h2.size)) hl cargoFn_cf (fun y _ w3 h3 => cargoFn y _ _ w3 (HB1.out w3 (h2.trans (h3.mono h2.size))))
  have HV0 : Hid (cargoValid calls l = if (boxValid l).2 = 0 then if 0 ≤ I then (I, 210) else (-1, 0) else boxValid l) := by
    unfold Hid cargoValid
    rw [if_neg (by omega), hI]
  clear hI
  by_cases hz : (boxValid l).2 = 0
  · by_cases hi : 0 ≤ I
    · have HV : Hid (cargoValid calls l = (I, 210)) := by unfold Hid; rw [HV0.out, if_pos hz, if_pos hi]
      go_enter Try.func54, Try.ntmps54
      go_wp2_with (first
        | (go_at_call 64; refine (HBV.out).mono ?_; rintro e w2 ⟨rfl, hb2⟩)
        | (go_at_call 56; refine (HIX.out _ hb2).mono ?_; rintro e w3 ⟨rfl, hb3⟩))
      go_ret2
      exact ⟨by rw [HV.out]; rfl, HW1.out.trans ((hb2.trans (hb3.mono hb2.size)).mono HW1.out.size)⟩
    · have HV : Hid (cargoValid calls l = (-1, 0)) := by unfold Hid; rw [HV0.out, if_pos hz, if_neg hi]
      go_enter Try.func54, Try.ntmps54
      go_wp2_with (first
        | (go_at_call 64; refine (HBV.out).mono ?_; rintro e w2 ⟨rfl, hb2⟩)
        | (go_at_call 56; refine (HIX.out _ hb2).mono ?_; rintro e w3 ⟨rfl, hb3⟩))
      go_ret2
      exact ⟨by rw [HV.out]; rfl, HW1.out.trans ((hb2.trans (hb3.mono hb2.size)).mono HW1.out.size)⟩
  · have HV : Hid (cargoValid calls l = boxValid l) := by unfold Hid; rw [HV0.out, if_neg hz]
    go_enter Try.func54, Try.ntmps54
    go_wp2_with (first
      | (go_at_call 64; refine (HBV.out).mono ?_; rintro e w2 ⟨rfl, hb2⟩))
    go_ret2
    exact ⟨by rw [HV.out]; rfl, HW1.out.trans (hb2.mono HW1.out.size)⟩

def rightB (l : List Box) (calls now : Int) : Bool := decide ((cargoValid calls l).2 = 0) && decide (0 ≤ now) && decide (now ≤ calls)

set_option maxHeartbeats 1000000 in
theorem change_right (A : Option Addr) (c : Nat) (l : List Box) (n : Nat) (hn : n = l.length) (calls now : Int) (w : World) (hA : Rd w w.heap.size 9 A (l.map Box.cells)) (hl : l.length ≤ 1000000000000) (hnum : ∀ b ∈ l, b.num.size ≤ 140737488351232) :
    Calls Try.prog 35 #[.slice A n c, .int .i64 calls, .int .i64 now] w fun e w' => e = .returned (.bool (rightB l calls now)) ∧ Below w.heap.size w w' := by
  subst hn
  have HC := Lib.hid (cargo_valid A c l _ rfl calls w hA hl hnum)
  clear hA
  by_cases hz : (cargoValid calls l).2 = 0
  · by_cases h0 : 0 ≤ now
    · have HV : Hid (rightB l calls now = decide (now ≤ calls)) := by unfold Hid rightB; simp [hz, h0]
      go_enter Try.func35, Try.ntmps35
      go_wp2_with (go_at_call 54; refine (HC.out).mono ?_; rintro e w2 ⟨rfl, hb2⟩)
      go_ret
      exact ⟨by rw [HV.out]; rfl, hb2⟩
    · have HV : Hid (rightB l calls now = false) := by unfold Hid rightB; simp [h0]
      go_enter Try.func35, Try.ntmps35
      go_wp2_with (go_at_call 54; refine (HC.out).mono ?_; rintro e w2 ⟨rfl, hb2⟩)
      go_ret
      exact ⟨by rw [HV.out]; rfl, hb2⟩
  · have HV : Hid (rightB l calls now = false) := by unfold Hid rightB; simp [hz]
    have hz2 : ((cargoValid calls l).2 == 0) = false := by simpa using hz
    go_enter Try.func35, Try.ntmps35
    go_wp2_with (go_at_call 54; refine (HC.out).mono ?_; rintro e w2 ⟨rfl, hb2⟩)
    go_ret
    exact ⟨by rw [HV.out]; rfl, hb2⟩
end Go.Proofs.Ytccjddbcdmgefaa
