/-
  PROVED: ChangeTells returns true for every input, and its arguments read behind the call as they read before: for any boxes and changes, change.Boxes and change.All return what the reference returns, the boxes are not modified, and results share no memory with them. No condition is added.
-/
import Derived.Test.YtccjddbcdmgefaaMainA
import Derived.Test.YtccjddbcdmgefaaOpen
namespace Go.Proofs.Ytccjddbcdmgefaa
open Go.RowKit Go.ChangeShapes Go.WideShapes Go.Deep Go.ChangeAt

set_option maxRecDepth 100000 in
theorem tells_lifted (os : Os) (started : os.Started) (H : Type) (enc : TypeId × Value → H) :
    ReturnsInHanded {} Try.checked os 3 .any (Rows.changeTellsSpec.pre6 enc Try.prog Try.f3 Rows.changeTellsRow.domain false) (Rows.changeTellsSpec.post enc Try.prog Try.f3 false true false false) := by
  refine returnsInHanded_of_change_sized (C := Try.checked) Try.own started (by kernel_rfl) Try.func3
    (ChangeSpec.witness6 (enc := enc) (C := Try.checked) false ⟨#[], #[.slice none 0 0, .int .i64 0, .int .i64 0, .slice none 0 0], []⟩ 8 (by kernel_rfl) (by kernel_rfl) (by kernel_rfl) (by kernel_rfl)) ?_
  intro W base args ds gs before hval0 hW _ hsz0 _
  have hval : ∀ (j : Nat) t v, Try.f3.params[j]? = some t → args[j]? = some v → Value.okWide Try.prog W .any base t v := hval0
  have hsz : (DataW.weightsEach Try.prog (Try.f3.params.toList ++ Rows.changeTellsSpec.plain.varTypes Try.prog) (ds ++ gs)).all (· ≤ reachBytes) = true := hsz0
  have hW' := hW
  obtain ⟨p, q, hA0, hV, rfl, _, _⟩ := hW
  have hA : DataW.TrodAll enc Try.prog W 0 (fun _ => true) true Try.f3.params.toList args.toList ds p := hA0
  rw [Try.params3] at hA hval hsz
  have hAk := hA
  obtain ⟨v0, v1, v2, v3, d0, d1, d2, d3, p0, p1, p2, p3, rfl, rfl, rfl, h0, h1, h2, h3⟩ := trodAll_four hA
  obtain ⟨rfl, rfl⟩ := trodVars_none hV
  clear hA0 hval0 hsz0
  simp only [List.append_nil] at hW' hsz
  have hlt : ∀ x ∈ p0 ++ p1 ++ p2 ++ p3, x.block < W.heap.size := fun x hx => by simpa using hW'.lt x hx
  obtain ⟨a0, n0, c0, rfl⟩ := okWide_slice Try.underlying22 (hval 0 22 v0 rfl rfl)
  obtain ⟨calls, rfl⟩ := okWide_int Try.underlying3 (hval 1 3 v1 rfl rfl)
  obtain ⟨now, rfl⟩ := okWide_int Try.underlying3 (hval 2 3 v2 rfl rfl)
  obtain ⟨a3, n3, c3, rfl⟩ := okWide_slice Try.underlying23 (hval 3 23 v3 rfl rfl)
  obtain ⟨f0, t0⟩ := h0
  obtain ⟨f3, t3⟩ := h3
  obtain ⟨A, l, c, hv0, hrd, hwf, _⟩ := open_rows Try.underlying22 cells_Box (by decide) bytes_Box (fun n cs y => Box.open_) (v := .slice a0 n0 c0) t0 (fits_of hsz (j := 0) rfl rfl)
  obtain ⟨X, cs, cx, hv3, hrd3, hwf3, _⟩ := open_rows Try.underlying23 cells_Chg (by decide) bytes_Chg (fun n cs y => Chg.open_) (v := .slice a3 n3 c3) t3 (fits_of hsz (j := 3) rfl rfl)
  injection hv0 with e1 e2 e3
  injection hv3 with e4 e5 e6
  subst e1; subst e2; subst e3; subst e4; subst e5; subst e6
  refine (main_tells a0 a3 c0 c3 l cs calls now W hrd hrd3 (fun b hb => (hwf b hb).2.1) (fun b hb => (hwf3 b hb).1)).mono fun e W' ⟨he, hb⟩ => ?_
  subst he
  exact ⟨_, rfl, ⟨_, _, _, [], _, [], hW', trodAll_mk1 (shut_bool Try.underlying4 true), below_all Try.laidOut hb (by kernel_rfl) hAk hlt, rfl, hb.frame _, fun h => by cases h⟩⟩

theorem changeTells_holds : Rows.ChangeTellsSaid :=
  OpenClaim.holds_of_wide 3 Try.f3 rfl rfl rfl rfl rfl rfl rfl ⟨rfl, rfl, rfl, rfl, rfl⟩ rfl rfl rfl rfl rfl (by kernel_rfl) Try.func3 (by kernel_rfl)
    (of_decide_eq_true (by kernel_rfl)) (by unfold Func.isWrapper; first | (rw [if_pos (by decide +kernel)]; kernel_rfl) | (rw [if_neg (by decide +kernel)]; exact ⟨rfl, rfl⟩))
    (fun os started H enc _ => tells_lifted os started H enc)
#print axioms changeTells_holds
end Go.Proofs.Ytccjddbcdmgefaa
