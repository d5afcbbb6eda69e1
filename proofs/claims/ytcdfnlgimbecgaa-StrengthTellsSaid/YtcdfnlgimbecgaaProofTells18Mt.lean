/-
  PROVED: StrengthTells returns true for every input, and its arguments read behind the call as they read before: for any frames and any weights, which frames are right, the stresses, and the frames over their limits are those of the reference. No condition is added.
-/
import Derived.Test.YtcdfnlgimbecgaaMt48
import Derived.Test.YtcdfnlgimbecgaaMt49

namespace Go.Proofs.Ytcdfnlgimbecgaa
open Go.RowKit Go.ChangeShapes Go.WideShapes Go.Deep Go.ChangeAt
set_option maxRecDepth 100000 in
theorem lifted (os : Os) (started : os.Started) (H : Type) (enc : TypeId × Value → H) :
 ReturnsInHanded {} Try.checked os 3 .any (Rows.strengthTellsSpec.pre6 enc Try.prog Try.f3 Rows.strengthTellsRow.domain false) (Rows.strengthTellsSpec.post enc Try.prog Try.f3 false true false false) := by
 refine returnsInHanded_of_change_sized (C := Try.checked) Try.own started (by kernel_rfl) Try.func3
  (ChangeSpec.witness6 (enc := enc) (C := Try.checked) false ⟨#[], #[.slice none 0 0, .slice none 0 0], []⟩ 8 (by kernel_rfl) (by kernel_rfl) (by kernel_rfl) (by kernel_rfl)) ?_
 intro W base args ds gs before hval0 hW _ hsz0 _
 have hval : ∀ (j : Nat) t v, Try.f3.params[j]? = some t → args[j]? = some v → Value.okWide Try.prog W .any base t v := hval0
 have hsz : (DataW.weightsEach Try.prog (Try.f3.params.toList ++ Rows.strengthTellsSpec.plain.varTypes Try.prog) (ds ++ gs)).all (· ≤ reachBytes) = true := hsz0
 have hW' := hW
 obtain ⟨p, q, hA0, hV, rfl, _, _⟩ := hW
 have hA : DataW.TrodAll enc Try.prog W 0 (fun _ => true) true Try.f3.params.toList args.toList ds p := hA0
 rw [Try.params3] at hA hval hsz
 have hAk := hA
 obtain ⟨v0, v1, d0, d1, p0, p1, rfl, rfl, rfl, h0, h1⟩ := trodAll_two hA
 obtain ⟨rfl, rfl⟩ := trodVars_none hV
 clear hA0 hval0 hsz0
 simp only [List.append_nil] at hW' hsz
 have hlt : ∀ x ∈ p0 ++ p1, x.block < W.heap.size := fun x hx => by simpa using hW'.lt x hx
 obtain ⟨a0, n0, c0, rfl⟩ := okWide_slice Try.underlying22 (hval 0 22 v0 rfl rfl)
 obtain ⟨a1, n1, c1, rfl⟩ := okWide_slice Try.underlying23 (hval 1 23 v1 rfl rfl)
 obtain ⟨f0, t0⟩ := h0
 obtain ⟨A0, l0, k0, hv0, hrd0, hwf0, hby0, hnc0⟩ := open_rows Try.underlying22 cells_Frm (by decide) bytes_Frm (fun n cs y => Frm.open_) (v := .slice a0 n0 c0) t0 (fits_of hsz (j := 0) rfl rfl)
 injection hv0 with e1 e2 e3
 subst e1; subst e2; subst e3
 obtain ⟨f1, t1⟩ := h1
 obtain ⟨A1, l1, k1, hv1, hrd1, hwf1, hby1, hnc1⟩ := open_rows Try.underlying23 cells_Wt (by decide) bytes_Wt (fun n cs y => Wt.open_) (v := .slice a1 n1 c1) t1 (fits_of hsz (j := 1) rfl rfl)
 injection hv1 with e1 e2 e3
 subst e1; subst e2; subst e3
 refine (law_TellsOf a0 a1 c0 c1 _ _ l0 l1 rfl rfl W hrd0 hrd1 (curves_same l0 l1)).mono fun e W' ⟨he, hb⟩ => ?_
 subst he
 exact ⟨_, rfl, ⟨_, _, _, [], _, [], hW', trodAll_mk1 (shut_bool Try.underlying4 true), below_all Try.laidOut hb (by kernel_rfl) hAk hlt, rfl, hb.frame _, fun h => by cases h⟩⟩
theorem strengthTells_holds : Rows.StrengthTellsSaid :=
 OpenClaim.holds_of_wide 3 Try.f3 rfl rfl rfl rfl rfl rfl rfl ⟨rfl, rfl, rfl, rfl, rfl⟩ rfl rfl rfl rfl rfl (by kernel_rfl) Try.func3 (by kernel_rfl)
  (of_decide_eq_true (by kernel_rfl)) (by unfold Func.isWrapper; first | (rw [if_pos (by decide +kernel)]; kernel_rfl) | (rw [if_neg (by decide +kernel)]; exact ⟨rfl, rfl⟩))
  (fun os started H enc _ => lifted os started H enc)
#print axioms strengthTells_holds
end Go.Proofs.Ytcdfnlgimbecgaa
