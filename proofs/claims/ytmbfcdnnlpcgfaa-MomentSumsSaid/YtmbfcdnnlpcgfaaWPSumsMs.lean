/-
  PROVED: MomentSums returns true for every input, and its arguments read behind the call as they read before: loads add up in any order and in parts, a load and its mirror image have their centre at 0, too much weight is too long. No condition is added.
-/
import Derived.Test.YtmbfcdnnlpcgfaaMs41

set_option linter.unusedVariables false
set_option linter.unusedSimpArgs false
namespace Go.Proofs.Ytmbfcdnnlpcgfaa
open Go.RowKit Go.ChangeShapes Go.WideShapes Go.Deep Go.ChangeAt
set_option maxRecDepth 100000 in
set_option maxHeartbeats 1000000 in
theorem liftedMomentSums (os : Os) (started : os.Started) (H : Type) (enc : TypeId × Value → H) :
 ReturnsInHanded {} Try.checked os 3 .any (Rows.momentSumsSpec.pre6 enc Try.prog Try.f3 Rows.momentSumsRow.domain false) (Rows.momentSumsSpec.post enc Try.prog Try.f3 false true false false) := by
 refine returnsInHanded_of_change_sized (C := Try.checked) Try.own started (by kernel_rfl) Try.func3
  (ChangeSpec.witness6 (enc := enc) (C := Try.checked) false ⟨#[], #[.slice none 0 0, .int .u8 0], []⟩ 8 (by kernel_rfl) (by kernel_rfl) (by kernel_rfl) (by kernel_rfl)) ?_
 intro W base args ds gs before hval0 hW _ hsz0 _
 have hval : ∀ (j : Nat) t v, Try.f3.params[j]? = some t → args[j]? = some v → Value.okWide Try.prog W .any base t v := hval0
 have hsz : (DataW.weightsEach Try.prog (Try.f3.params.toList ++ Rows.momentSumsSpec.plain.varTypes Try.prog) (ds ++ gs)).all (· ≤ reachBytes) = true := hsz0
 have hW' := hW
 obtain ⟨p, q, hA0, hV, rfl, _, _⟩ := hW
 have hA : DataW.TrodAll enc Try.prog W 0 (fun _ => true) true Try.f3.params.toList args.toList ds p := hA0
 rw [Try.params3] at hA hval hsz
 have hAk := hA
 obtain ⟨v0, vs0, d0, ds0, p0, q0, ea0, ed0, ep0, h0, r0⟩ := trodAll_cons hA
 obtain ⟨v1, vs1, d1, ds1, p1, q1, ea1, ed1, ep1, h1, r1⟩ := trodAll_cons r0
 obtain ⟨ean, edn, epn⟩ := trodAll_nil r1
 subst ean edn
 subst ea1 ed1
 obtain rfl : args = #[v0, v1] := by apply Array.ext'; exact ea0
 subst ed0
 obtain ⟨rfl, rfl⟩ := trodVars_none hV
 clear hA0 hval0 hsz0
 simp only [List.append_nil] at hW' hsz
 have hlt : ∀ x ∈ p, x.block < W.heap.size := fun x hx => by simpa using hW'.lt x hx
 obtain ⟨f0, t0⟩ := h0
 obtain ⟨n0, x0, w0⟩ := open_sl (tc := tcTab) (n := 6) (t := .wgt) Try.underlying22 (by kernel_rfl) (hval 0 22 v0 rfl rfl) t0 (fits_of hsz (j := 0) rfl rfl)
 obtain ⟨f1, t1⟩ := h1
 obtain ⟨n1, x1, w1⟩ := open_int Try.underlying5 (hval 1 5 v1 rfl rfl) t1
 have hE : Each W (fun _ => none) 0 (allRo W) [.sl false .wgt fun _ => n0, .int .u8 fun _ => n1] [v0, v1] := .cons x0 (.cons x1 (.nil))
 refine (law_of conMomentSums_ok rfl rfl hE (by
  exact ⟨fun e he => wgt_wf (w0.2 e he), lit_wf w1, w0.1⟩)).mono fun e W' ⟨he, hb⟩ => ?_
 subst he
 exact ⟨_, rfl, ⟨_, _, _, [], _, [], hW', trodAll_mk1 (shut_bool Try.underlying4 true), below_all Try.laidOut hb (by kernel_rfl) hAk hlt, rfl, hb.frame _, fun h => by cases h⟩⟩
theorem momentSums_holds : Rows.MomentSumsSaid :=
 OpenClaim.holds_of_wide 3 Try.f3 rfl rfl rfl rfl rfl rfl rfl ⟨rfl, rfl, rfl, rfl, rfl⟩ rfl rfl rfl rfl rfl (by kernel_rfl) Try.func3 (by kernel_rfl)
  (of_decide_eq_true (by kernel_rfl)) (by unfold Func.isWrapper; first | (rw [if_pos (by decide +kernel)]; kernel_rfl) | (rw [if_neg (by decide +kernel)]; exact ⟨rfl, rfl⟩))
  (fun os started H enc _ => liftedMomentSums os started H enc)
#print axioms momentSums_holds
end Go.Proofs.Ytmbfcdnnlpcgfaa
