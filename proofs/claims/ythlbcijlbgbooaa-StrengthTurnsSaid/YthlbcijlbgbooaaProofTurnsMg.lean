/-
  PROVED: StrengthTurns returns true for every input, and its arguments read behind the call as they read before: for any frames and weights that Made makes, where the hull is does not matter, and a mirrored hull has the negative shear and the same bending moment. No condition is added.
-/
import Derived.Test.YthlbcijlbgbooaaMg41
import Derived.Test.YthlbcijlbgbooaaMg49

namespace Go.Proofs.Ythlbcijlbgbooaa
open Go.RowKit Go.ChangeShapes Go.WideShapes Go.Deep Go.ChangeAt

theorem sml_ok {x : Sml} (h : x.wf) : x.ok := by
  unfold Sml.wf at h
  unfold Sml.ok
  omega

theorem wf_i16 {n : Int} (h : (Lit.int .i16 n).wf = true) : -32768 ≤ n ∧ n ≤ 32767 := by
  have e1 : IntKind.i16.min = -32768 := by kernel_rfl
  have e2 : IntKind.i16.max = 32767 := by kernel_rfl
  simp only [Lit.wf, Bool.and_eq_true, decide_eq_true_eq, e1, e2] at h
  exact h

set_option maxRecDepth 100000 in
theorem lifted (os : Os) (started : os.Started) (H : Type) (enc : TypeId × Value → H) :
    ReturnsInHanded {} Try.checked os 7 .any (Rows.strengthTurnsSpec.pre6 enc Try.prog Try.f7 Rows.strengthTurnsRow.domain false) (Rows.strengthTurnsSpec.post enc Try.prog Try.f7 false true false false) := by
  refine returnsInHanded_of_change_sized (C := Try.checked) Try.own started (by kernel_rfl) Try.func7
    (ChangeSpec.witness6 (enc := enc) (C := Try.checked) false ⟨#[], #[.slice none 0 0, .int .i16 0], []⟩ 8 (by kernel_rfl) (by kernel_rfl) (by kernel_rfl) (by kernel_rfl)) ?_
  intro W base args ds gs before hval0 hW _ hsz0 _
  have hval : ∀ (j : Nat) t v, Try.f7.params[j]? = some t → args[j]? = some v → Value.okWide Try.prog W .any base t v := hval0
  have hsz : (DataW.weightsEach Try.prog (Try.f7.params.toList ++ Rows.strengthTurnsSpec.plain.varTypes Try.prog) (ds ++ gs)).all (· ≤ reachBytes) = true := hsz0
  have hW' := hW
  obtain ⟨p, q, hA0, hV, rfl, _, _⟩ := hW
  have hA : DataW.TrodAll enc Try.prog W 0 (fun _ => true) true Try.f7.params.toList args.toList ds p := hA0
  rw [Try.params7] at hA hval hsz
  have hAk := hA
  obtain ⟨v0, v1, d0, d1, p0, p1, rfl, rfl, rfl, h0, h1⟩ := trodAll_two hA
  obtain ⟨rfl, rfl⟩ := trodVars_none hV
  clear hA0 hval0 hsz0
  simp only [List.append_nil] at hW' hsz
  have hlt : ∀ x ∈ p0 ++ p1, x.block < W.heap.size := fun x hx => by simpa using hW'.lt x hx
  obtain ⟨a0, n0, c0, rfl⟩ := okWide_slice Try.underlying28 (hval 0 28 v0 rfl rfl)
  obtain ⟨f1, t1⟩ := h1
  obtain ⟨m1, rfl⟩ := okWide_int Try.underlying54 (hval 1 54 v1 rfl rfl)
  have hm1 : -32768 ≤ m1 ∧ m1 ≤ 32767 := by
    obtain ⟨z, e, _, hw⟩ := DataW.trod_int Try.underlying54 t1
    have hw := wf_i16 hw
    injection e with e
    injection e with _ e
    rw [e]
    exact hw
  obtain ⟨f0, t0⟩ := h0
  obtain ⟨A, l0, c, hv0, hrd0, hwf0, hby, hnc⟩ := open_rows Try.underlying28 cells_Sml (by decide) bytes_Sml (fun n cs y => Sml.open_) (v := .slice a0 n0 c0) t0 (fits_of hsz (j := 0) rfl rfl)
  injection hv0 with e1 e2 e3
  subst e1; subst e2; subst e3
  have hl0 : l0.length ≤ 20000000000000 := by omega
  refine (law_Turns a0 c0 _ l0 m1 rfl (fun x hx => sml_ok (hwf0 x hx)) hnc hm1 W hrd0 hl0).mono fun e W' ⟨he, hb⟩ => ?_
  subst he
  exact ⟨_, rfl, ⟨_, _, _, [], _, [], hW', trodAll_mk1 (shut_bool Try.underlying4 true), below_all Try.laidOut hb (by kernel_rfl) hAk hlt, rfl, hb.frame _, fun h => by cases h⟩⟩

theorem strengthTurns_holds : Rows.StrengthTurnsSaid :=
  OpenClaim.holds_of_wide 7 Try.f7 rfl rfl rfl rfl rfl rfl rfl ⟨rfl, rfl, rfl, rfl, rfl⟩ rfl rfl rfl rfl rfl (by kernel_rfl) Try.func7 (by kernel_rfl)
    (of_decide_eq_true (by kernel_rfl)) (by unfold Func.isWrapper; first | (rw [if_pos (by decide +kernel)]; kernel_rfl) | (rw [if_neg (by decide +kernel)]; exact ⟨rfl, rfl⟩))
    (fun os started H enc _ => lifted os started H enc)
#print axioms strengthTurns_holds
end Go.Proofs.Ythlbcijlbgbooaa
