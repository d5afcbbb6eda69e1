/-
  PROVED: ChangeSame returns true for every input, and its arguments read behind the call as they read before: for any two plans and any integer, change.Same returns what the reference returns, and the plans are not modified. No condition is added.
-/
import Derived.Test.YtccjddbcdmgefaaMainB
import Derived.Test.YtccjddbcdmgefaaOpen
namespace Go.Proofs.Ytccjddbcdmgefaa
open Go.RowKit Go.ChangeShapes Go.WideShapes Go.Deep Go.ChangeAt

theorem cells_Plan : Try.prog.cellsOf 29 = 2 := by kernel_rfl
theorem cells_States : Try.prog.cellsOf 26 = 1 := by kernel_rfl
theorem cells_Waters : Try.prog.cellsOf 27 = 1 := by kernel_rfl
theorem cells_State : Try.prog.cellsOf 31 = 1 := by kernel_rfl
theorem cells_Water : Try.prog.cellsOf 35 = 1 := by kernel_rfl
theorem bytes_State : Try.prog.bytesOf 31 = 24 := by kernel_rfl
theorem bytes_Water : Try.prog.bytesOf 35 = 24 := by kernel_rfl
theorem bytes_int : Try.prog.bytesOf 3 = 8 := by kernel_rfl

set_option maxRecDepth 100000 in
theorem open_plan {H : Type} {enc : TypeId × Value → H} {w : World} {base b0 fuel : Nat} {held : Bool} {r : Reach} {v : Value} {x : DataW H × List MemPlace} (hv : Value.okWide Try.prog w r b0 29 v)
    (h : DataW.trod enc Try.prog w base (fun _ => true) held fuel 29 v.cells.toList = some x) (hf : Fits Try.prog 29 x.1) :
    ∃ (V : PlanV) (p : Plan), v = V.val p.states.length p.water.length ∧ RdPlan w w.heap.size V p ∧ p.fits := by
  obtain ⟨cs, rfl, hsz⟩ := okWide_struct Try.underlying29 hv
  obtain ⟨l⟩ := cs
  match l, hsz.trans cells_Plan with
  | [c0, c1], _ =>
    obtain ⟨xs, n2, _, hx, hlen, hxl, hg⟩ := DataW.trod_struct Try.underlying29 h
    subst hx
    match xs, hxl with
    | [y0, y1], _ =>
      have g0 : DataW.trod enc Try.prog w base (fun _ => true) held n2 26 [c0] = some y0 := by simpa [Value.cells, List.drop, List.take, cells_States, cells_Waters] using hg 0 _ rfl
      have g1 : DataW.trod enc Try.prog w base (fun _ => true) held n2 27 [c1] = some y1 := by simpa [Value.cells, List.drop, List.take, cells_States, cells_Waters] using hg 1 _ rfl
      obtain ⟨A, ll, c, rfl, hr, hw, hb⟩ := open_nested (bytes := 32) Try.underlying26 cells_State bytes_State Try.underlying31 cells_Stowed (by decide) bytes_Stowed (fun n cs y => Stowed.open_) g0 (Fits.field Try.underlying29 hf (j := 0) rfl rfl)
      obtain ⟨A', ll', c', rfl, hr', hw', hb'⟩ := open_nested (bytes := 8) Try.underlying27 cells_Water bytes_Water Try.underlying35 cells_i64 (by decide) bytes_int (fun n cs y => Num.open_) g1 (Fits.field Try.underlying29 hf (j := 1) rfl rfl)
      exact ⟨⟨A, c, A', c'⟩, ⟨ll, ll'⟩, rfl, ⟨hr, hr'⟩, hb, fun l hl => (hw l hl).2, hb', fun l hl => (hw' l hl).2⟩

set_option maxRecDepth 100000 in
theorem same_lifted (os : Os) (started : os.Started) (H : Type) (enc : TypeId × Value → H) :
    ReturnsInHanded {} Try.checked os 4 .any (Rows.changeSameSpec.pre6 enc Try.prog Try.f4 Rows.changeSameRow.domain false) (Rows.changeSameSpec.post enc Try.prog Try.f4 false true false false) := by
  refine returnsInHanded_of_change_sized (C := Try.checked) Try.own started (by kernel_rfl) Try.func4
    (ChangeSpec.witness6 (enc := enc) (C := Try.checked) false ⟨#[], #[.agg #[.slice none 0 0, .slice none 0 0], .agg #[.slice none 0 0, .slice none 0 0], .int .i64 0], []⟩ 8 (by kernel_rfl) (by kernel_rfl) (by kernel_rfl) (by kernel_rfl)) ?_
  intro W base args ds gs before hval0 hW _ hsz0 _
  have hval : ∀ (j : Nat) t v, Try.f4.params[j]? = some t → args[j]? = some v → Value.okWide Try.prog W .any base t v := hval0
  have hsz : (DataW.weightsEach Try.prog (Try.f4.params.toList ++ Rows.changeSameSpec.plain.varTypes Try.prog) (ds ++ gs)).all (· ≤ reachBytes) = true := hsz0
  have hW' := hW
  obtain ⟨p, q, hA0, hV, rfl, _, _⟩ := hW
  have hA : DataW.TrodAll enc Try.prog W 0 (fun _ => true) true Try.f4.params.toList args.toList ds p := hA0
  rw [Try.params4] at hA hval hsz
  have hAk := hA
  obtain ⟨v0, v1, v2, d0, d1, d2, p0, p1, p2, rfl, rfl, rfl, h0, h1, h2⟩ := trodAll_three hA
  obtain ⟨rfl, rfl⟩ := trodVars_none hV
  clear hA0 hval0 hsz0
  simp only [List.append_nil] at hW' hsz
  have hlt : ∀ x ∈ p0 ++ p1 ++ p2, x.block < W.heap.size := fun x hx => by simpa using hW'.lt x hx
  obtain ⟨f0, t0⟩ := h0
  obtain ⟨f1, t1⟩ := h1
  obtain ⟨f2, t2⟩ := h2
  obtain ⟨V, pp, e0, hr0, hf0⟩ := open_plan (hval 0 29 v0 rfl rfl) t0 (fits_of hsz (j := 0) rfl rfl)
  obtain ⟨V', qq, e1, hr1, hf1⟩ := open_plan (hval 1 29 v1 rfl rfl) t1 (fits_of hsz (j := 1) rfl rfl)
  obtain ⟨frm, e2⟩ := okWide_int Try.underlying3 (hval 2 3 v2 rfl rfl)
  subst e0; subst e1; subst e2
  obtain ⟨m, em, _, hw⟩ := DataW.trod_int Try.underlying3 t2
  have hm := wf_i64 hw
  have emf : frm = m := by
    have : [Value.int .i64 frm] = [Value.int .i64 m] := em
    injection this with this _
    injection this
  subst emf
  refine (main_same V V' pp qq frm W hm.1 hm.2 hr0 hr1 hf0 hf1).mono fun e W' ⟨he, hb⟩ => ?_
  subst he
  exact ⟨_, rfl, ⟨_, _, _, [], _, [], hW', trodAll_mk1 (shut_bool Try.underlying4 true), below_all Try.laidOut hb (by kernel_rfl) hAk hlt, rfl, hb.frame _, fun h => by cases h⟩⟩

theorem changeSame_holds : Rows.ChangeSameSaid :=
  OpenClaim.holds_of_wide 4 Try.f4 rfl rfl rfl rfl rfl rfl rfl ⟨rfl, rfl, rfl, rfl, rfl⟩ rfl rfl rfl rfl rfl (by kernel_rfl) Try.func4 (by kernel_rfl)
    (of_decide_eq_true (by kernel_rfl)) (by unfold Func.isWrapper; first | (rw [if_pos (by decide +kernel)]; kernel_rfl) | (rw [if_neg (by decide +kernel)]; exact ⟨rfl, rfl⟩))
    (fun os started H enc _ => same_lifted os started H enc)
#print axioms changeSame_holds
end Go.Proofs.Ytccjddbcdmgefaa
