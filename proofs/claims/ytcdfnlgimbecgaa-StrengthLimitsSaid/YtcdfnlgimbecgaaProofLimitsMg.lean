/-
  PROVED: StrengthLimits returns true for every input, and its arguments read behind the call as they read before: for any frames and weights that Made makes, a frame is over its limits exactly if its limit is less than just enough. No condition is added.
-/
import Derived.Test.YtcdfnlgimbecgaaMg48
import Derived.Test.YtcdfnlgimbecgaaMg51

namespace Go.Proofs.Ytcdfnlgimbecgaa
open Go.RowKit Go.ChangeShapes Go.WideShapes Go.Deep Go.ChangeAt

theorem sml_ok {x : Sml} (h : x.wf) : x.ok := by
  unfold Sml.wf at h
  unfold Sml.ok
  omega

set_option maxRecDepth 100000 in
theorem lifted (os : Os) (started : os.Started) (H : Type) (enc : TypeId × Value → H) :
    ReturnsInHanded {} Try.checked os 6 .any (Rows.strengthLimitsSpec.pre6 enc Try.prog Try.f6 Rows.strengthLimitsRow.domain false) (Rows.strengthLimitsSpec.post enc Try.prog Try.f6 false true false false) := by
  refine returnsInHanded_of_change_sized (C := Try.checked) Try.own started (by kernel_rfl) Try.func6
    (ChangeSpec.witness6 (enc := enc) (C := Try.checked) false ⟨#[], #[.slice none 0 0, .int .u8 0, .bool false], []⟩ 8 (by kernel_rfl) (by kernel_rfl) (by kernel_rfl) (by kernel_rfl)) ?_
  intro W base args ds gs before hval0 hW _ hsz0 _
  have hval : ∀ (j : Nat) t v, Try.f6.params[j]? = some t → args[j]? = some v → Value.okWide Try.prog W .any base t v := hval0
  have hsz : (DataW.weightsEach Try.prog (Try.f6.params.toList ++ Rows.strengthLimitsSpec.plain.varTypes Try.prog) (ds ++ gs)).all (· ≤ reachBytes) = true := hsz0
  have hW' := hW
  obtain ⟨p, q, hA0, hV, rfl, _, _⟩ := hW
  have hA : DataW.TrodAll enc Try.prog W 0 (fun _ => true) true Try.f6.params.toList args.toList ds p := hA0
  rw [Try.params6] at hA hval hsz
  have hAk := hA
  obtain ⟨v0, v1, v2, d0, d1, d2, p0, p1, p2, rfl, rfl, rfl, h0, h1, h2⟩ := trodAll_three hA
  obtain ⟨rfl, rfl⟩ := trodVars_none hV
  clear hA0 hval0 hsz0
  simp only [List.append_nil] at hW' hsz
  have hlt : ∀ x ∈ p0 ++ p1 ++ p2, x.block < W.heap.size := fun x hx => by simpa using hW'.lt x hx
  obtain ⟨a0, n0, c0, rfl⟩ := okWide_slice Try.underlying28 (hval 0 28 v0 rfl rfl)
  obtain ⟨f1, t1⟩ := h1
  obtain ⟨m1, rfl⟩ := okWide_int Try.underlying5 (hval 1 5 v1 rfl rfl)
  have hm1 : 0 ≤ m1 ∧ m1 ≤ 255 := by
    obtain ⟨z, e, _, hw⟩ := DataW.trod_int Try.underlying5 t1
    have hw := wf_u8 hw
    injection e with e
    injection e with _ e
    rw [e]
    exact hw
  obtain ⟨m2, rfl⟩ := okWide_bool Try.underlying4 (hval 2 4 v2 rfl rfl)
  obtain ⟨f0, t0⟩ := h0
  obtain ⟨A, l0, c, hv0, hrd0, hwf0, hby, hnc⟩ := open_rows Try.underlying28 cells_Sml (by decide) bytes_Sml (fun n cs y => Sml.open_) (v := .slice a0 n0 c0) t0 (fits_of hsz (j := 0) rfl rfl)
  injection hv0 with e1 e2 e3
  subst e1; subst e2; subst e3
  have hl0 : l0.length ≤ 20000000000000 := by omega
  refine (law_Limits a0 c0 _ l0 m1 m2 rfl (fun x hx => sml_ok (hwf0 x hx)) hnc hm1 W hrd0 hl0).mono fun e W' ⟨he, hb⟩ => ?_
  subst he
  exact ⟨_, rfl, ⟨_, _, _, [], _, [], hW', trodAll_mk1 (shut_bool Try.underlying4 true), below_all Try.laidOut hb (by kernel_rfl) hAk hlt, rfl, hb.frame _, fun h => by cases h⟩⟩

theorem strengthLimits_holds : Rows.StrengthLimitsSaid :=
  OpenClaim.holds_of_wide 6 Try.f6 rfl rfl rfl rfl rfl rfl rfl ⟨rfl, rfl, rfl, rfl, rfl⟩ rfl rfl rfl rfl rfl (by kernel_rfl) Try.func6 (by kernel_rfl)
    (of_decide_eq_true (by kernel_rfl)) (by unfold Func.isWrapper; first | (rw [if_pos (by decide +kernel)]; kernel_rfl) | (rw [if_neg (by decide +kernel)]; exact ⟨rfl, rfl⟩))
    (fun os started H enc _ => lifted os started H enc)
#print axioms strengthLimits_holds
end Go.Proofs.Ytcdfnlgimbecgaa
