/-
  PROVED: ChangeSmall returns true: the closed statement on four boxes and fewer with two to five calls at all times, and on plans that differ in one slot. No condition is added.
-/
import Derived.Test.YtccjddbcdmgefaaMainC
import Derived.Test.YtccjddbcdmgefaaOpen
namespace Go.Proofs.Ytccjddbcdmgefaa
open Go.RowKit Go.ChangeShapes Go.WideShapes Go.Deep Go.ChangeAt

set_option maxRecDepth 100000 in
theorem small_lifted (os : Os) (started : os.Started) (H : Type) (enc : TypeId × Value → H) :
    ReturnsInHanded {} Try.checked os 5 .any (Rows.changeSmallSpec.pre6 enc Try.prog Try.f5 Rows.changeSmallRow.domain false) (Rows.changeSmallSpec.post enc Try.prog Try.f5 false true false false) := by
  refine returnsInHanded_of_change (C := Try.checked) Try.own started (by kernel_rfl) Try.func5
    (ChangeSpec.witness6 (enc := enc) (C := Try.checked) false ⟨#[], #[], []⟩ 8 (by kernel_rfl) (by kernel_rfl) (by kernel_rfl) (by kernel_rfl)) ?_
  intro W base args ds gs before _ hW _ _
  have hW' := hW
  obtain ⟨p, q, hA0, hV, rfl, _, _⟩ := hW
  have hA : DataW.TrodAll enc Try.prog W 0 (fun _ => true) true Try.f5.params.toList args.toList ds p := hA0
  rw [Try.params5] at hA
  obtain ⟨hargs, rfl, rfl⟩ := trodAll_nil hA
  have hargs' : args = #[] := by
    cases args
    simp at hargs
    subst hargs
    rfl
  subst hargs'
  obtain ⟨rfl, rfl⟩ := trodVars_none hV
  refine (main_small W).mono fun e W' ⟨he, hb⟩ => ?_
  subst he
  exact ⟨_, rfl, ⟨_, _, _, [], _, [], hW', trodAll_mk1 (shut_bool Try.underlying4 true), trodAll_mk0, rfl, hb.frame _, fun h => by cases h⟩⟩

theorem changeSmall_holds : Rows.ChangeSmallSaid :=
  OpenClaim.holds_of_wide 5 Try.f5 rfl rfl rfl rfl rfl rfl rfl ⟨rfl, rfl, rfl, rfl, rfl⟩ rfl rfl rfl rfl rfl (by kernel_rfl) Try.func5 (by kernel_rfl)
    (of_decide_eq_true (by kernel_rfl)) (by unfold Func.isWrapper; first | (rw [if_pos (by decide +kernel)]; kernel_rfl) | (rw [if_neg (by decide +kernel)]; exact ⟨rfl, rfl⟩))
    (fun os started H enc _ => small_lifted os started H enc)
#print axioms changeSmall_holds
end Go.Proofs.Ytccjddbcdmgefaa
