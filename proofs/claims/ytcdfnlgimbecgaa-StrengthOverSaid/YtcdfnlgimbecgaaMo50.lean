/-
  twistlockref18: of, inside.
-/
import Derived.Test.YtcdfnlgimbecgaaMo34
import Derived.Test.YtcdfnlgimbecgaaMo49

namespace Go.Proofs.Ytcdfnlgimbecgaa
open Go.RowKit

theorem cf_of18 (w : World) (args : Array Value) : (callFunc 73 args).run Try.prog w = .ok (.enter 73 args) w := by
  go_simp
theorem cf_Cmp01 (w : World) (args : Array Value) : (callFunc 109 args).run Try.prog w = .ok (.enter 109 args) w := by
  go_simp
theorem ok_negI {P : Program} {ρ : Operand → Value} {d : Option Nat} {ty : TypeId} {pos : String} {aft : Array Edge} {gd : Option (Nat × Bool)} {v : Value} {w : World} {k : IntKind} {m z : Int} {t : TypeId} {x : Operand} (hx : ρ x = .int k m) (hz : k.wrap (0 - m) = z) (hv : v = .int k z) : (execOp ρ ⟨d, .unOp .neg t x, ty, pos, aft, gd⟩).run P w = .ok (.value v) w := by
  subst hv hz
  unfold execOp
  simp only [hx, Op.unary, Op.intArith, Sem.run_bind, Sem.run_pure, Result.andThen_ok]
set_option maxRecDepth 100000 in
set_option maxHeartbeats 1000000 in
theorem r18_of (n : Int) (h1 : -9223372036854775808 ≤ n) (h2 : n < 9223372036854775808) (w : World) :
    Calls Try.prog 73 #[.int .i64 n] w fun e w' => e = .returned (.agg (ofL n).cells.toArray) ∧ From w w' := by
  have HM0 := Lib.hid ((Mem.nil w).alloc 91 zeroF.cells)
  have HR := Lib.hid (ref_Of n h1 h2)
  clear h1 h2
  go_enter Try.func73, Try.ntmps73
  go_wp2_with (first
    | (go_at_call 102; go_loud (refine (HR.out _).mono ?_); rintro e w3 ⟨rfl, hb⟩; have HM3 := Lib.hid (HM0.out.call hb); clear hb)
    | ((with_reducible refine g_st 91 ?_); go_loud (refine wpList_stB (cs' := FracV.cells (ofL n)) rfl _ _ rfl HM3.out 0 rfl rfl rfl f01_size rfl (FracV.cells_len _) (FracV.cells_len _) (FracV.ones _) ?_); intro w6 h6))
  exact bodyPost_ret (results_box1 rfl _ rfl (h6.ldb f01_row (FracV.cells_len _) (i := 0) rfl _ (Below.refl _ _))) rfl ⟨rfl, h6.from_⟩

/-- from the negative limit to the limit? -/
def insideF (f : FracV) (n : Int) : Bool := decide ((cmpL f (ofL n)).1 ≤ 0) && decide (0 ≤ (cmpL f (ofL (-n))).1)
theorem cmpNat_le0 (x y : Nat) : decide (cmpNat x y ≤ 0) = decide (¬ y < x) := by
  unfold cmpNat
  by_cases h : x < y
  · rw [if_pos h, decide_eq_true (by omega), decide_eq_true (by omega)]
  · rw [if_neg h]
    by_cases h2 : y < x
    · rw [if_pos h2, decide_eq_false (by omega), decide_eq_false (by omega)]
    · rw [if_neg h2, decide_eq_true (by omega), decide_eq_true h2]
theorem inside_beyond {f : FracV} {n : Int} (hf : f.right = true) (hn : 0 ≤ n) : insideF f n = !beyondF f n := by
  cases f with
  | mk b x d =>
    have hr2 : (FracV.mk false x d).right = true := by
      unfold FracV.right at hf ⊢
      simp only [Bool.and_eq_true] at hf ⊢
      exact ⟨hf.1, by simp⟩
    have e1 : decide (n < 0) = false := decide_eq_false (by omega)
    have hb : beyondF ⟨b, x, d⟩ n = decide (0 < cmpNat (x * 1) (n.natAbs * d)) := by
      unfold beyondF cmpL
      rw [hr2, ofL_right]
      unfold ofL
      rw [e1]
      rfl
    have hlt : decide (0 < cmpNat (x * 1) (n.natAbs * d)) = decide (n.natAbs * d < x * 1) := by
      have h1 := cmpNat_le0 (x * 1) (n.natAbs * d)
      by_cases h : n.natAbs * d < x * 1
      · rw [decide_eq_true h, cmpNat_gt h]; rfl
      · rw [decide_eq_false h]
        rw [decide_eq_true h] at h1
        have := of_decide_eq_true h1
        exact decide_eq_false (by omega)
    rw [hb, hlt]
    unfold insideF cmpL
    rw [hf, ofL_right, ofL_right]
    cases b with
    | false =>
      unfold ofL
      rw [e1]
      have h3 : decide (0 ≤ (if (decide (-n < 0) && !false) = true then (1 : Int) else if (false : Bool) = true then cmpNat ((-n).natAbs * d) (x * 1) else cmpNat (x * 1) ((-n).natAbs * d))) = true := by
        by_cases h0 : n = 0
        · subst h0
          show decide (0 ≤ cmpNat (x * 1) (0 * d)) = true
          rw [Nat.zero_mul]
          rcases Nat.eq_zero_or_pos (x * 1) with h | h
          · rw [h]; rfl
          · rw [cmpNat_gt h]; rfl
        · rw [decide_eq_true (show -n < 0 by omega)]
          rfl
      show (decide (cmpNat (x * 1) (n.natAbs * d) ≤ 0) && decide (0 ≤ (if (decide (-n < 0) && !false) = true then (1 : Int) else if (false : Bool) = true then cmpNat ((-n).natAbs * d) (x * 1) else cmpNat (x * 1) ((-n).natAbs * d)))) = _
      rw [h3, Bool.and_true, cmpNat_le0, decide_not]
    | true =>
      have hx : 0 < x := by
        unfold FracV.right at hf
        simp only [Bool.and_eq_true, Bool.true_and, Bool.not_eq_true', decide_eq_false_iff_not] at hf
        omega
      unfold ofL
      rw [e1]
      by_cases h0 : n = 0
      · subst h0
        show (true && decide ((0 : Int) ≤ -1)) = !decide (0 * d < x * 1)
        rw [decide_eq_true (show 0 * d < x * 1 by rw [Nat.zero_mul]; omega)]
        rfl
      · have e2 : decide (-n < 0) = true := decide_eq_true (by omega)
        have e3 : (-n).natAbs = n.natAbs := Int.natAbs_neg n
        rw [e2, e3]
        show (true && decide (0 ≤ cmpNat (n.natAbs * d) (x * 1))) = _
        rw [Bool.true_and, cmpNat_neg, ← decide_not, ← cmpNat_le0]
        exact decide_eq_decide.2 (by omega)

set_option maxRecDepth 100000 in
set_option maxHeartbeats 1000000 in
theorem r18_inside (f : FracV) (n : Int) (hf : f.fits) (h0 : 0 ≤ n) (h1 : n ≤ 1000000000000000) (w : World) :
    Calls Try.prog 79 #[.agg f.cells.toArray, .int .i64 n] w fun e w' => e = .returned (.bool (insideF f n)) ∧ From w w' := by
  have HM0 := Lib.hid ((Mem.nil w).alloc 91 f.cells)
  have HO1 := Lib.hid (r18_of n (by omega) (by omega))
  have HO2 := Lib.hid (r18_of (-n) (by omega) (by omega))
  obtain ⟨c1, hc1⟩ : ∃ c, c = (cmpL f (ofL n)).1 := ⟨_, rfl⟩
  obtain ⟨d1, hd1⟩ : ∃ c, c = (cmpL f (ofL n)).2 := ⟨_, rfl⟩
  obtain ⟨c2, hc2⟩ : ∃ c, c = (cmpL f (ofL (-n))).1 := ⟨_, rfl⟩
  obtain ⟨d2, hd2⟩ : ∃ c, c = (cmpL f (ofL (-n))).2 := ⟨_, rfl⟩
  have HC1 : Hid (∀ w1, Calls Try.prog 109 #[.agg f.cells.toArray, .agg (ofL n).cells.toArray] w1 fun e w' => e = .returned (.tuple #[.int .i64 c1, .int .i64 d1]) ∧ From w1 w') := by
    intro w1
    rw [hc1, hd1]
    exact ref_Cmp f (ofL n) hf (ofL_fits ⟨by omega, by omega⟩) w1
  have HC2 : Hid (∀ w1, Calls Try.prog 109 #[.agg f.cells.toArray, .agg (ofL (-n)).cells.toArray] w1 fun e w' => e = .returned (.tuple #[.int .i64 c2, .int .i64 d2]) ∧ From w1 w') := by
    intro w1
    rw [hc2, hd2]
    exact ref_Cmp f (ofL (-n)) hf (ofL_fits ⟨by omega, by omega⟩) w1
  have HV : Hid (insideF f n = (decide (c1 ≤ 0) && decide (0 ≤ c2))) := by unfold Hid insideF; rw [hc1, hc2]
  have wN : IntKind.i64.wrap (0 - n) = -n := by rw [wrap_i64 (by omega) (by omega)]; omega
  have HLF := Lib.hid (HM0.out.ldb f01_row (FracV.cells_len _) (i := 0) rfl)
  clear hc1 hd1 hc2 hd2 hf h0 h1
  go_enter Try.func79, Try.ntmps79
  go_wp2
  refine wp_region_run 9 [.val (Value.agg f.cells.toArray),
    .val (Value.int .i64 (n)),
    .call (Value.agg (ofL n).cells.toArray),
    .call (Value.tuple #[Value.int .i64 c1, Value.int .i64 d1]),
    .val (Value.tuple #[Value.int .i64 c1, Value.int .i64 d1]),
    .val (Value.int .i64 c1),
    .val (Value.int .i64 d1),
    .val (Value.int .i64 c1),
    .val (Value.int .i64 d1)] (by kernel_rfl) (by kernel_rfl) (Nat.le_of_ble_eq_true (by kernel_rfl)) (by kernel_rfl) (by kernel_rfl) ?_ ?_ ?_
  · exact trivial
  · exact ⟨(fun w hb => ok_load rfl ((HLF.out) w hb)),
    (fun _ _ => ok_move rfl),
    (fun w hb => ok_call rfl rfl (cf_of18 _ _) (HO1.out w)),
    (fun w hb => ok_call rfl rfl (cf_Cmp01 _ _) (HC1.out w)),
    (fun _ _ => ok_move rfl),
    (fun _ _ => ok_extract rfl rfl),
    (fun _ _ => ok_extract rfl rfl),
    (fun _ _ => ok_assign rfl),
    (fun _ _ => ok_assign rfl),
    trivial⟩
  intro w5 hb5
  simp only [contS, List.take_succ_cons, List.take_zero, List.drop_succ_cons, List.drop_zero]
  simp only [Act.put, List.setIfInBounds_toArray, List.set_cons_succ, List.set_cons_zero]
  have HM5 := Lib.hid (HM0.out.call hb5)
  have HLF5 := Lib.hid (HM5.out.ldb f01_row (FracV.cells_len _) (i := 0) rfl)
  clear hb5 HLF HM0
  go_wp2
  refine wp_region_run 10 [.val (Value.agg f.cells.toArray),
    .val (Value.int .i64 (n)),
    .val (Value.int .i64 ((-n))),
    .call (Value.agg (ofL (-n)).cells.toArray),
    .call (Value.tuple #[Value.int .i64 c2, Value.int .i64 d2]),
    .val (Value.tuple #[Value.int .i64 c2, Value.int .i64 d2]),
    .val (Value.int .i64 c2),
    .val (Value.int .i64 d2),
    .val (Value.int .i64 c2),
    .val (Value.int .i64 d2)] (by kernel_rfl) (by kernel_rfl) (Nat.le_of_ble_eq_true (by kernel_rfl)) (by kernel_rfl) (by kernel_rfl) ?_ ?_ ?_
  · exact trivial
  · exact ⟨(fun w hb => ok_load rfl ((HLF5.out) w hb)),
    (fun _ _ => ok_move rfl),
    (fun _ _ => ok_negI rfl wN rfl),
    (fun w hb => ok_call rfl rfl (cf_of18 _ _) (HO2.out w)),
    (fun w hb => ok_call rfl rfl (cf_Cmp01 _ _) (HC2.out w)),
    (fun _ _ => ok_move rfl),
    (fun _ _ => ok_extract rfl rfl),
    (fun _ _ => ok_extract rfl rfl),
    (fun _ _ => ok_assign rfl),
    (fun _ _ => ok_assign rfl),
    trivial⟩
  intro w6 hb6
  simp only [contS, List.take_succ_cons, List.take_zero, List.drop_succ_cons, List.drop_zero]
  simp only [Act.put, List.setIfInBounds_toArray, List.set_cons_succ, List.set_cons_zero]
  have HM6 := Lib.hid (HM5.out.call hb6)
  clear hb6 HLF5 HM5
  by_cases q1 : c1 ≤ 0
  · by_cases q2 : 0 ≤ c2
    · have e1 := decide_eq_true q1
      have e2 := decide_eq_true q2
      go_wp2
      go_ret
      exact ⟨by rw [HV.out, e1, e2]; rfl, HM6.out.from_⟩
    · have e1 := decide_eq_true q1
      have e2 := decide_eq_false q2
      go_wp2
      go_ret
      exact ⟨by rw [HV.out, e1, e2]; rfl, HM6.out.from_⟩
  · have e1 := decide_eq_false q1
    go_wp2
    go_ret
    exact ⟨by rw [HV.out, e1]; rfl, HM6.out.from_⟩
end Go.Proofs.Ytcdfnlgimbecgaa
