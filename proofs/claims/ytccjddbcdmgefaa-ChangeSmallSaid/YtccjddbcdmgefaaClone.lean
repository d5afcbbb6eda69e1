/-
  slices.Clone of boxes.
-/
import Derived.Test.YtccjddbcdmgefaaKindFn
import Derived.Lib.SliceRun
namespace Go.Proofs.Ytccjddbcdmgefaa
open Go.RowKit

set_option maxRecDepth 100000 in
theorem clone_boxes (A : Option Addr) (c : Nat) (l : List Box) (n : Nat) (hn : n = l.length) (w : World) (hA : Rd w w.heap.size 9 A (l.map Box.cells)) (hl : l.length ≤ 1000000) :
    Calls Try.prog 36 #[.slice A n c] w fun e w' => ∃ A' c', e = .returned (.slice A' l.length c') ∧ OwnS w' w.heap.size 73 9 A' c' (l.map Box.cells) ∧ Below w.heap.size w w' := by
  subst hn
  cases A with
  | none =>
    have hl0 : l = [] := by
      rcases l with _ | ⟨x, l⟩
      · rfl
      · obtain ⟨_, _, h, _⟩ := hA 0 x.cells rfl
        cases h
    subst hl0
    have heq := fun w => Go.Lib.run_eql_slice_nil (P := Try.prog) w 22 73 none 0 c 0 0 Try.underlying22
    go_enter Try.func36, Try.ntmps36
    go_wp2
    go_ret
    exact ⟨none, 0, rfl, OwnS.nil _ _ _ _, Below.refl _ _⟩
  | some ad =>
    have heq := fun w => Go.Lib.run_eql_slice_nil (P := Try.prog) w 22 73 (some ad) l.length c 0 0 Try.underlying22
    have hb1 : Below w.heap.size w (w.alloc (Obj.cells #[] 73)) := (Below.refl _ _).alloc (Nat.le_refl _) _
    have HRD := Lib.hid ((hA.below hb1 (Nat.le_refl _)).more hb1.size)
    have HOW := Lib.hid (OwnS.empty_new w w.heap.size 73 9 (Nat.le_refl _))
    have HB1 := Lib.hid hb1
    clear hA hb1
    go_enter Try.func36, Try.ntmps36
    go_wp2_with (first
      | (at_builtin; go_loud (refine wpList_append_n rfl _ _ rfl Box.ei 0 rfl rfl HOW.out rfl _ HRD.out (by simp) (Box.ones l) (by unfold maxLen; simp; omega) (by simp; omega) HB1.out.size ?_); intro A4 c4 w4 hown4 hg4 hb4))
    go_ret
    exact ⟨A4, c4, by simp, by simpa using hown4, HB1.out.trans hb4⟩
end Go.Proofs.Ytccjddbcdmgefaa
