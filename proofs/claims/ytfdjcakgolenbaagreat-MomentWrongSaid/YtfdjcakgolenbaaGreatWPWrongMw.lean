/-
  PROVED: MomentWrong returns true for every input, and its arguments read behind the call as they read before: loads whose moments are too great for their weight, weights and places beyond their limits, cargo with one thing that is not right, and boxes that are not on board, are rejected. No condition is added.
-/
import Derived.Test.YtfdjcakgolenbaaGreatMw21

set_option linter.unusedVariables false
set_option linter.unusedSimpArgs false
namespace Go.Proofs.YtfdjcakgolenbaaGreat
open Go.RowKit Go.ChangeShapes Go.WideShapes Go.Deep Go.ChangeAt
set_option maxRecDepth 100000 in
set_option maxHeartbeats 1000000 in
theorem liftedMomentWrong (os : Os) (started : os.Started) (H : Type) (enc : TypeId × Value -> H) :
 ReturnsInHanded {} Tryz.checked os 7 .any (Rows.momentWrongSpec.pre6 enc Tryz.prog Tryz.f7 Rows.momentWrongRow.domain false) (Rows.momentWrongSpec.post enc Tryz.prog Tryz.f7 false true false false) := by
 refine returnsInHanded_of_change_sized (C := Tryz.checked) Tryz.own started (by kernel_rfl) Tryz.func7
  (ChangeSpec.witness6 (enc := enc) (C := Tryz.checked) false ⟨#[], #[.slice none 0 0, .int .u32 0, .slice none 0 0, .int .u16 0, .int .u8 0], []⟩ 8 (by kernel_rfl) (by kernel_rfl) (by kernel_rfl) (by kernel_rfl)) ?_
 intro W base args ds gs before hval0 hW _ hsz0 _;have hval : ∀ (j : Nat) t v, Tryz.f7.params[j]? = some t -> args[j]? = some v -> Value.okWide Tryz.prog W .any base t v := hval0;have hsz : (DataW.weightsEach Tryz.prog (Tryz.f7.params.toList ++ Rows.momentWrongSpec.plain.varTypes Tryz.prog) (ds ++ gs)).all (· <= reachBytes) = true := hsz0;have hW' := hW;obtain ⟨p, q, hA0, hV, rfl, _, _⟩ := hW;have hA : DataW.TrodAll enc Tryz.prog W 0 (fun _ => true) true Tryz.f7.params.toList args.toList ds p := hA0;rw [Tryz.params7] at hA hval hsz;have hAk := hA;obtain ⟨v0, vs0, d0, ds0, p0, q0, ea0, ed0, ep0, h0, r0⟩ := trodAll_cons hA;obtain ⟨v1, vs1, d1, ds1, p1, q1, ea1, ed1, ep1, h1, r1⟩ := trodAll_cons r0;obtain ⟨v2, vs2, d2, ds2, p2, q2, ea2, ed2, ep2, h2, r2⟩ := trodAll_cons r1;obtain ⟨v3, vs3, d3, ds3, p3, q3, ea3, ed3, ep3, h3, r3⟩ := trodAll_cons r2;obtain ⟨v4, vs4, d4, ds4, p4, q4, ea4, ed4, ep4, h4, r4⟩ := trodAll_cons r3;obtain ⟨ean, edn, epn⟩ := trodAll_nil r4;subst ean edn;subst ea4 ed4;subst ea3 ed3;subst ea2 ed2;subst ea1 ed1;obtain rfl : args = #[v0, v1, v2, v3, v4] := by apply Array.ext'; exact ea0
 subst ed0;obtain ⟨rfl, rfl⟩ := trodVars_none hV;clear hA0 hval0 hsz0;simp only [List.append_nil] at hW' hsz;have hlt : ∀ x ∈ p, x.block < W.heap.size := fun x hx => by simpa using hW'.lt x hx
 obtain ⟨f0, t0⟩ := h0;obtain ⟨n0, x0, w0⟩ := open_sl (tc := tcTab) (n := 6) (t := .plc) Tryz.underlying51 (by kernel_rfl) (hval 0 51 v0 rfl rfl) t0 (fits_of hsz (j := 0) rfl rfl);obtain ⟨f1, t1⟩ := h1;obtain ⟨n1, x1, w1⟩ := open_int Tryz.underlying52 (hval 1 52 v1 rfl rfl) t1;obtain ⟨f2, t2⟩ := h2;obtain ⟨n2, x2, w2⟩ := open_sl (tc := tcTab) (n := 6) (t := .drp) Tryz.underlying53 (by kernel_rfl) (hval 2 53 v2 rfl rfl) t2 (fits_of hsz (j := 2) rfl rfl);obtain ⟨f3, t3⟩ := h3;obtain ⟨n3, x3, w3⟩ := open_int Tryz.underlying66 (hval 3 66 v3 rfl rfl) t3;obtain ⟨f4, t4⟩ := h4;obtain ⟨n4, x4, w4⟩ := open_int Tryz.underlying5 (hval 4 5 v4 rfl rfl) t4;have hE : Each W (fun _ => none) 0 (allRo W) [.sl false .plc fun _ => n0, .int .u32 fun _ => n1, .sl false .drp fun _ => n2, .int .u16 fun _ => n3, .int .u8 fun _ => n4] [v0, v1, v2, v3, v4] := .cons x0 (.cons x1 (.cons x2 (.cons x3 (.cons x4 (.nil)))));refine (law_of conMomentWrong_ok rfl rfl hE (by
  exact ⟨made_wf w0 w1 w2, lit_wf w3, lit_wf w4⟩)).mono fun e W' ⟨he, hb⟩ => ?_
 subst he;exact ⟨_, rfl, ⟨_, _, _, [], _, [], hW', trodAll_mk1 (shut_bool Tryz.underlying4 true), below_all Tryz.laidOut hb (by kernel_rfl) hAk hlt, rfl, hb.frame _, fun h => by cases h⟩⟩
theorem momentWrong_holds : Rows.MomentWrongSaid :=
 OpenClaim.holds_of_wide 7 Tryz.f7 rfl rfl rfl rfl rfl rfl rfl ⟨rfl, rfl, rfl, rfl, rfl⟩ rfl rfl rfl rfl rfl (by kernel_rfl) Tryz.func7 (by kernel_rfl)
  (of_decide_eq_true (by kernel_rfl)) (by unfold Func.isWrapper; first | (rw [if_pos (by decide +kernel)]; kernel_rfl) | (rw [if_neg (by decide +kernel)]; exact ⟨rfl, rfl⟩))
  (fun os started H enc _ => liftedMomentWrong os started H enc)
#print axioms momentWrong_holds
end Go.Proofs.YtfdjcakgolenbaaGreat
