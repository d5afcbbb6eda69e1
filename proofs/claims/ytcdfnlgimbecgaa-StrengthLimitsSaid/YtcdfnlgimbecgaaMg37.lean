/-
  twistlocklaw18: the regions of Made that draw their order. (Printed by gen_made.py.)
-/
import Derived.Test.YtcdfnlgimbecgaaMg36

namespace Go.Proofs.Ytcdfnlgimbecgaa
open Go.RowKit

set_option maxRecDepth 100000 in
set_option maxHeartbeats 4000000 in
theorem region_made10 {id : Nat} {Q : Exit → Act → World → Prop} {a0 : Act} {w0 : World} {l : List Oper} {gf nf cf nn ii gx : Nat} {xx st z59 z64 z65 z66 : Int} (hnn : (nn : Int) < (nf : Int)) (w59 : IntKind.i64.wrap (xx + 1) = z59) (w62 : IntKind.i64.wrap st = st) (w64 : IntKind.i64.wrap (9000 + (ii : Int)) = z64) (h64 : ¬ z64 = 0) (w65 : st.tmod z64 = z65) (w66 : IntKind.i64.wrap (z59 + z65) = z66)
    {t0 t1 t2 t3 t4 t5 t6 t7 t8 t9 t10 t11 t12 t13 t14 t15 t16 t17 : TypeId} {x0 x1 x2 x3 x4 x5 x6 x7 x8 x9 x10 x11 x12 x13 x14 x15 x16 x17 : String} {e0 e1 e2 e3 e4 e5 e6 e7 e8 e9 e10 e11 e12 e13 e14 e15 e16 e17 : Array Edge}
    (hl : l = [⟨some 53, .move (.tmp 4), t0, x0, e0, none⟩,
      ⟨some 54, .move (.tmp 4), t1, x1, e1, none⟩,
      ⟨some 55, .move (.tmp 8), t2, x2, e2, none⟩,
      ⟨some 56, .indexAddr 22 (.tmp 54) (.tmp 55), t3, x3, e3, none⟩,
      ⟨some 57, .fieldAddr 44 (.tmp 56) 0, t4, x4, e4, none⟩,
      ⟨some 58, .load 3 (.tmp 57), t5, x5, e5, none⟩,
      ⟨some 59, .binOp .add 3 (.tmp 58) (.const (.int .i64 1)) 3, t6, x6, e6, none⟩,
      ⟨some 60, .fieldAddr 95 (.tmp 7) 0, t7, x7, e7, none⟩,
      ⟨some 61, .load 62 (.tmp 60), t8, x8, e8, none⟩,
      ⟨some 62, .convert 62 3 (.tmp 61), t9, x9, e9, none⟩,
      ⟨some 63, .move (.tmp 6), t10, x10, e10, none⟩,
      ⟨some 64, .binOp .add 3 (.const (.int .i64 9000)) (.tmp 63) 3, t11, x11, e11, none⟩,
      ⟨some 65, .binOp .rem 3 (.tmp 62) (.tmp 64) 3, t12, x12, e12, none⟩,
      ⟨some 66, .binOp .add 3 (.tmp 59) (.tmp 65) 3, t13, x13, e13, none⟩,
      ⟨some 67, .build 44 #[(0, .tmp 66)], t14, x14, e14, none⟩,
      ⟨some 68, .buildSlice 22 1 #[(0, .tmp 67)], t15, x15, e15, none⟩,
      ⟨some 69, .call { callee := .builtin .append, args := #[.tmp 53, .tmp 68], argTypes := #[22, 22] }, t16, x16, e16, none⟩,
      ⟨some 4, .assign (.tmp 69), t17, x17, e17, none⟩])
    (hO : orderB l 16 = true) (hd : dstsB l 16 a0.tmps.size = true) (hpre : preB l.toArray [(3, [1, 2]), (4, [3]), (5, [4]), (6, [5]), (8, [7]), (9, [8]), (11, [10]), (12, [9, 11]), (13, [6, 12]), (14, [13]), (15, [14])] = true)
     (k4 : a0.tmps[4]? = some (Value.slice (some ⟨gf, 0, none⟩) nf cf)) (k6 : a0.tmps[6]? = some (Value.int .i64 ((ii : Int)))) (k7 : a0.tmps[7]? = some (Value.pointer (some ⟨gx, 0, none⟩))) (k8 : a0.tmps[8]? = some (Value.int .i64 ((nn : Int))))
    (R15 : Value → World → Prop) (s15 : ∀ v w w', R15 v w → From w w' → R15 v w')
    (h5 : ∀ w, From w0 w → (loadVar 3 ⟨gf, nn * 5, none⟩).run Try.prog w = .ok (Value.int .i64 (xx)) w)
    (h8 : ∀ w, From w0 w → (loadVar 62 ⟨gx, 0, none⟩).run Try.prog w = .ok (Value.int .u16 st) w)
    (h15 : ∀ (a : Act) (w : World), From w0 w → a.eval (.tmp 67) = (Value.agg #[.int .i64 z66, .int .i64 0, .int .i64 0, .int .i64 0, .int .i64 0]) → ∃ v w', (execOp a.eval ⟨some 68, .buildSlice 22 1 #[(0, .tmp 67)], t15, x15, e15, none⟩).run Try.prog w = .ok (.value v) w' ∧ From w w' ∧ R15 v w')
    (hK : ∀ u15 w, From w0 w → R15 u15 w → wpList Try.prog l.toArray Q (l.drop 16) ((((((((((((((((a0.put (some 53) (Value.slice (some ⟨gf, 0, none⟩) nf cf)).put (some 54) (Value.slice (some ⟨gf, 0, none⟩) nf cf)).put (some 55) (Value.int .i64 ((nn : Int)))).put (some 56) (Value.pointer (some ⟨gf, nn * 5, none⟩))).put (some 57) (Value.pointer (some ⟨gf, nn * 5, none⟩))).put (some 58) ((Value.int .i64 (xx)))).put (some 59) (Value.int .i64 (z59))).put (some 60) (Value.pointer (some ⟨gx, 0, none⟩))).put (some 61) ((Value.int .u16 st))).put (some 62) (Value.int .i64 (st))).put (some 63) (Value.int .i64 ((ii : Int)))).put (some 64) (Value.int .i64 (z64))).put (some 65) (Value.int .i64 (z65))).put (some 66) (Value.int .i64 (z66))).put (some 67) (Value.agg #[.int .i64 z66, .int .i64 0, .int .i64 0, .int .i64 0, .int .i64 0])).put (some 68) u15) w) :
    (Code.region id l.toArray true).wp Try.prog Q a0 w0 := by
  have hlen : l.length = 18 := by rw [hl]; rfl
  have hpz := List.all_eq_true.1 hpre
  refine wp_region_keep 16 (fun i v w => match i with
    | 0 => v = (Value.slice (some ⟨gf, 0, none⟩) nf cf)
    | 1 => v = (Value.slice (some ⟨gf, 0, none⟩) nf cf)
    | 2 => v = (Value.int .i64 ((nn : Int)))
    | 3 => v = (Value.pointer (some ⟨gf, nn * 5, none⟩))
    | 4 => v = (Value.pointer (some ⟨gf, nn * 5, none⟩))
    | 5 => v = ((Value.int .i64 (xx)))
    | 6 => v = (Value.int .i64 (z59))
    | 7 => v = (Value.pointer (some ⟨gx, 0, none⟩))
    | 8 => v = ((Value.int .u16 st))
    | 9 => v = (Value.int .i64 (st))
    | 10 => v = (Value.int .i64 ((ii : Int)))
    | 11 => v = (Value.int .i64 (z64))
    | 12 => v = (Value.int .i64 (z65))
    | 13 => v = (Value.int .i64 (z66))
    | 14 => v = (Value.agg #[.int .i64 z66, .int .i64 0, .int .i64 0, .int .i64 0, .int .i64 0])
    | 15 => R15 v w
    | _ => True) ?_ (by kernel_rfl) hO (by omega) hd ?_ ?_
  · intro i v w w' h hb
    match i, h with
    | 0, h => exact h
    | 1, h => exact h
    | 2, h => exact h
    | 3, h => exact h
    | 4, h => exact h
    | 5, h => exact h
    | 6, h => exact h
    | 7, h => exact h
    | 8, h => exact h
    | 9, h => exact h
    | 10, h => exact h
    | 11, h => exact h
    | 12, h => exact h
    | 13, h => exact h
    | 14, h => exact h
    | 15, h => exact s15 v w w' h hb
    | _ + 16, _ => trivial
  · intro i o hi ho a w hb hval hold
    have ho' : l.toArray[i]? = some o := by simpa using ho
    have hedge : ∀ js, (i, js) ∈ ([(3, [1, 2]), (4, [3]), (5, [4]), (6, [5]), (8, [7]), (9, [8]), (11, [10]), (12, [9, 11]), (13, [6, 12]), (14, [13]), (15, [14])] : List (Nat × List Nat)) → ∀ j ∈ js, (o.after.any fun e => Region.binds .any e && e.on == j) = true := fun js hm j hj => by
      have h1 := List.all_eq_true.1 (hpz _ hm) j hj
      rw [ho'] at h1
      simpa using h1
    have hcase : i = 0 ∨ i = 1 ∨ i = 2 ∨ i = 3 ∨ i = 4 ∨ i = 5 ∨ i = 6 ∨ i = 7 ∨ i = 8 ∨ i = 9 ∨ i = 10 ∨ i = 11 ∨ i = 12 ∨ i = 13 ∨ i = 14 ∨ i = 15 := by omega
    rcases hcase with rfl | rfl | rfl | rfl | rfl | rfl | rfl | rfl | rfl | rfl | rfl | rfl | rfl | rfl | rfl | rfl
    · have b4 := eval_get ((hold 4 (by rw [hl]; rfl)).trans k4)
      rw [hl] at ho
      injection ho with ho
      subst ho
      exact wpOp_value ho' rfl (v := (Value.slice (some ⟨gf, 0, none⟩) nf cf)) (w' := w) (by go_simp) ⟨_, rfl, Below.refl _ _, rfl⟩
    · have b4 := eval_get ((hold 4 (by rw [hl]; rfl)).trans k4)
      rw [hl] at ho
      injection ho with ho
      subst ho
      exact wpOp_value ho' rfl (v := (Value.slice (some ⟨gf, 0, none⟩) nf cf)) (w' := w) (by go_simp) ⟨_, rfl, Below.refl _ _, rfl⟩
    · have b8 := eval_get ((hold 8 (by rw [hl]; rfl)).trans k8)
      rw [hl] at ho
      injection ho with ho
      subst ho
      exact wpOp_value ho' rfl (v := (Value.int .i64 ((nn : Int)))) (w' := w) (by go_simp) ⟨_, rfl, Below.refl _ _, rfl⟩
    · obtain ⟨y1, hy1, hz1⟩ := hval 1 _ 54 (by omega) (by rw [hl]; rfl) rfl (hedge [1, 2] (by simp) 1 (by simp))
      have hz1 : y1 = (Value.slice (some ⟨gf, 0, none⟩) nf cf) := hz1
      rw [hz1] at hy1
      have b54 := eval_get hy1
      obtain ⟨y2, hy2, hz2⟩ := hval 2 _ 55 (by omega) (by rw [hl]; rfl) rfl (hedge [1, 2] (by simp) 2 (by simp))
      have hz2 : y2 = (Value.int .i64 ((nn : Int))) := hz2
      rw [hz2] at hy2
      have b55 := eval_get hy2
      rw [hl] at ho
      injection ho with ho
      subst ho
      exact wpOp_value ho' rfl (v := (Value.pointer (some ⟨gf, nn * 5, none⟩))) (w' := w) (by go_simp) ⟨_, rfl, Below.refl _ _, rfl⟩
    · obtain ⟨y3, hy3, hz3⟩ := hval 3 _ 56 (by omega) (by rw [hl]; rfl) rfl (hedge [3] (by simp) 3 (by simp))
      have hz3 : y3 = (Value.pointer (some ⟨gf, nn * 5, none⟩)) := hz3
      rw [hz3] at hy3
      have b56 := eval_get hy3
      rw [hl] at ho
      injection ho with ho
      subst ho
      exact wpOp_value ho' rfl (v := (Value.pointer (some ⟨gf, nn * 5, none⟩))) (w' := w) (by go_simp) ⟨_, rfl, Below.refl _ _, rfl⟩
    · obtain ⟨y4, hy4, hz4⟩ := hval 4 _ 57 (by omega) (by rw [hl]; rfl) rfl (hedge [4] (by simp) 4 (by simp))
      have hz4 : y4 = (Value.pointer (some ⟨gf, nn * 5, none⟩)) := hz4
      rw [hz4] at hy4
      have b57 := eval_get hy4
      rw [hl] at ho
      injection ho with ho
      subst ho
      exact wpOp_load ho' rfl rfl b57 (h5 w hb) ⟨_, rfl, Below.refl _ _, rfl⟩
    · obtain ⟨y5, hy5, hz5⟩ := hval 5 _ 58 (by omega) (by rw [hl]; rfl) rfl (hedge [5] (by simp) 5 (by simp))
      have hz5 : y5 = ((Value.int .i64 (xx))) := hz5
      rw [hz5] at hy5
      have b58 := eval_get hy5
      rw [hl] at ho
      injection ho with ho
      subst ho
      exact wpOp_value ho' rfl (v := (Value.int .i64 (z59))) (w' := w) (by go_simp) ⟨_, rfl, Below.refl _ _, rfl⟩
    · have b7 := eval_get ((hold 7 (by rw [hl]; rfl)).trans k7)
      rw [hl] at ho
      injection ho with ho
      subst ho
      exact wpOp_value ho' rfl (v := (Value.pointer (some ⟨gx, 0, none⟩))) (w' := w) (by go_simp) ⟨_, rfl, Below.refl _ _, rfl⟩
    · obtain ⟨y7, hy7, hz7⟩ := hval 7 _ 60 (by omega) (by rw [hl]; rfl) rfl (hedge [7] (by simp) 7 (by simp))
      have hz7 : y7 = (Value.pointer (some ⟨gx, 0, none⟩)) := hz7
      rw [hz7] at hy7
      have b60 := eval_get hy7
      rw [hl] at ho
      injection ho with ho
      subst ho
      exact wpOp_load ho' rfl rfl b60 (h8 w hb) ⟨_, rfl, Below.refl _ _, rfl⟩
    · obtain ⟨y8, hy8, hz8⟩ := hval 8 _ 61 (by omega) (by rw [hl]; rfl) rfl (hedge [8] (by simp) 8 (by simp))
      have hz8 : y8 = ((Value.int .u16 st)) := hz8
      rw [hz8] at hy8
      have b61 := eval_get hy8
      rw [hl] at ho
      injection ho with ho
      subst ho
      exact wpOp_value ho' rfl (v := (Value.int .i64 (st))) (w' := w) (by go_simp) ⟨_, rfl, Below.refl _ _, rfl⟩
    · have b6 := eval_get ((hold 6 (by rw [hl]; rfl)).trans k6)
      rw [hl] at ho
      injection ho with ho
      subst ho
      exact wpOp_value ho' rfl (v := (Value.int .i64 ((ii : Int)))) (w' := w) (by go_simp) ⟨_, rfl, Below.refl _ _, rfl⟩
    · obtain ⟨y10, hy10, hz10⟩ := hval 10 _ 63 (by omega) (by rw [hl]; rfl) rfl (hedge [10] (by simp) 10 (by simp))
      have hz10 : y10 = (Value.int .i64 ((ii : Int))) := hz10
      rw [hz10] at hy10
      have b63 := eval_get hy10
      rw [hl] at ho
      injection ho with ho
      subst ho
      exact wpOp_value ho' rfl (v := (Value.int .i64 (z64))) (w' := w) (by go_simp) ⟨_, rfl, Below.refl _ _, rfl⟩
    · obtain ⟨y9, hy9, hz9⟩ := hval 9 _ 62 (by omega) (by rw [hl]; rfl) rfl (hedge [9, 11] (by simp) 9 (by simp))
      have hz9 : y9 = (Value.int .i64 (st)) := hz9
      rw [hz9] at hy9
      have b62 := eval_get hy9
      obtain ⟨y11, hy11, hz11⟩ := hval 11 _ 64 (by omega) (by rw [hl]; rfl) rfl (hedge [9, 11] (by simp) 11 (by simp))
      have hz11 : y11 = (Value.int .i64 (z64)) := hz11
      rw [hz11] at hy11
      have b64 := eval_get hy11
      rw [hl] at ho
      injection ho with ho
      subst ho
      exact wpOp_value ho' rfl (v := (Value.int .i64 (z65))) (w' := w) (by go_simp) ⟨_, rfl, Below.refl _ _, rfl⟩
    · obtain ⟨y6, hy6, hz6⟩ := hval 6 _ 59 (by omega) (by rw [hl]; rfl) rfl (hedge [6, 12] (by simp) 6 (by simp))
      have hz6 : y6 = (Value.int .i64 (z59)) := hz6
      rw [hz6] at hy6
      have b59 := eval_get hy6
      obtain ⟨y12, hy12, hz12⟩ := hval 12 _ 65 (by omega) (by rw [hl]; rfl) rfl (hedge [6, 12] (by simp) 12 (by simp))
      have hz12 : y12 = (Value.int .i64 (z65)) := hz12
      rw [hz12] at hy12
      have b65 := eval_get hy12
      rw [hl] at ho
      injection ho with ho
      subst ho
      exact wpOp_value ho' rfl (v := (Value.int .i64 (z66))) (w' := w) (by go_simp) ⟨_, rfl, Below.refl _ _, rfl⟩
    · obtain ⟨y13, hy13, hz13⟩ := hval 13 _ 66 (by omega) (by rw [hl]; rfl) rfl (hedge [13] (by simp) 13 (by simp))
      have hz13 : y13 = (Value.int .i64 (z66)) := hz13
      rw [hz13] at hy13
      have b66 := eval_get hy13
      rw [hl] at ho
      injection ho with ho
      subst ho
      exact wpOp_value ho' rfl (v := (Value.agg #[.int .i64 z66, .int .i64 0, .int .i64 0, .int .i64 0, .int .i64 0])) (w' := w) (by go_simp) ⟨_, rfl, Below.refl _ _, rfl⟩
    · obtain ⟨y14, hy14, hz14⟩ := hval 14 _ 67 (by omega) (by rw [hl]; rfl) rfl (hedge [14] (by simp) 14 (by simp))
      have hz14 : y14 = (Value.agg #[.int .i64 z66, .int .i64 0, .int .i64 0, .int .i64 0, .int .i64 0]) := hz14
      rw [hz14] at hy14
      have b67 := eval_get hy14
      rw [hl] at ho
      injection ho with ho
      subst ho
      obtain ⟨v, w', hrun, hb2, hr2⟩ := h15 a w hb b67
      exact wpOp_value ho' rfl hrun ⟨_, rfl, hb2, hr2⟩
  · intro val w hb hrows
    have q0 : val 0 = (Value.slice (some ⟨gf, 0, none⟩) nf cf) := hrows 0 (by omega)
    have q1 : val 1 = (Value.slice (some ⟨gf, 0, none⟩) nf cf) := hrows 1 (by omega)
    have q2 : val 2 = (Value.int .i64 ((nn : Int))) := hrows 2 (by omega)
    have q3 : val 3 = (Value.pointer (some ⟨gf, nn * 5, none⟩)) := hrows 3 (by omega)
    have q4 : val 4 = (Value.pointer (some ⟨gf, nn * 5, none⟩)) := hrows 4 (by omega)
    have q5 : val 5 = ((Value.int .i64 (xx))) := hrows 5 (by omega)
    have q6 : val 6 = (Value.int .i64 (z59)) := hrows 6 (by omega)
    have q7 : val 7 = (Value.pointer (some ⟨gx, 0, none⟩)) := hrows 7 (by omega)
    have q8 : val 8 = ((Value.int .u16 st)) := hrows 8 (by omega)
    have q9 : val 9 = (Value.int .i64 (st)) := hrows 9 (by omega)
    have q10 : val 10 = (Value.int .i64 ((ii : Int))) := hrows 10 (by omega)
    have q11 : val 11 = (Value.int .i64 (z64)) := hrows 11 (by omega)
    have q12 : val 12 = (Value.int .i64 (z65)) := hrows 12 (by omega)
    have q13 : val 13 = (Value.int .i64 (z66)) := hrows 13 (by omega)
    have q14 : val 14 = (Value.agg #[.int .i64 z66, .int .i64 0, .int .i64 0, .int .i64 0, .int .i64 0]) := hrows 14 (by omega)
    have q15 : R15 (val 15) w := hrows 15 (by omega)
    have hF := hK (val 15) w hb q15
    subst hl
    simp only [List.take_succ_cons, List.take_zero, putAll, Nat.zero_add, Nat.reduceAdd, q0, q1, q2, q3, q4, q5, q6, q7, q8, q9, q10, q11, q12, q13, q14]
    exact hF

set_option maxRecDepth 100000 in
set_option maxHeartbeats 4000000 in
theorem region_made13 {id : Nat} {Q : Exit → Act → World → Prop} {a0 : Act} {w0 : World} {l : List Oper} {gf nf cf : Nat} {y1 y0 z82 z90 : Int} (w82 : IntKind.i64.wrap ((nf : Int) - 1) = z82) (h82 : 0 ≤ z82) (h82b : z82 < (nf : Int)) (h0 : ¬ nf = 0) (w90 : IntKind.i64.wrap (y1 - y0) = z90)
    {t0 t1 t2 t3 t4 t5 t6 t7 t8 t9 t10 t11 t12 : TypeId} {x0 x1 x2 x3 x4 x5 x6 x7 x8 x9 x10 x11 x12 : String} {e0 e1 e2 e3 e4 e5 e6 e7 e8 e9 e10 e11 e12 : Array Edge}
    (hl : l = [⟨some 79, .move (.tmp 4), t0, x0, e0, none⟩,
      ⟨some 80, .move (.tmp 4), t1, x1, e1, none⟩,
      ⟨some 81, .call { callee := .builtin .len, args := #[.tmp 80], argTypes := #[22] }, t2, x2, e2, none⟩,
      ⟨some 82, .binOp .sub 3 (.tmp 81) (.const (.int .i64 1)) 3, t3, x3, e3, none⟩,
      ⟨some 83, .indexAddr 22 (.tmp 79) (.tmp 82), t4, x4, e4, none⟩,
      ⟨some 84, .fieldAddr 44 (.tmp 83) 0, t5, x5, e5, none⟩,
      ⟨some 85, .load 3 (.tmp 84), t6, x6, e6, none⟩,
      ⟨some 86, .move (.tmp 4), t7, x7, e7, none⟩,
      ⟨some 87, .indexAddr 22 (.tmp 86) (.const (.int .i64 0)), t8, x8, e8, none⟩,
      ⟨some 88, .fieldAddr 44 (.tmp 87) 0, t9, x9, e9, none⟩,
      ⟨some 89, .load 3 (.tmp 88), t10, x10, e10, none⟩,
      ⟨some 90, .binOp .sub 3 (.tmp 85) (.tmp 89) 3, t11, x11, e11, none⟩,
      ⟨some 10, .assign (.tmp 90), t12, x12, e12, none⟩])
    (hO : orderB l 13 = true) (hd : dstsB l 13 a0.tmps.size = true) (hpre : preB l.toArray [(2, [1]), (3, [2]), (4, [0, 3]), (5, [4]), (6, [5]), (8, [7]), (9, [8]), (10, [9]), (11, [6, 10]), (12, [11])] = true)
     (k4 : a0.tmps[4]? = some (Value.slice (some ⟨gf, 0, none⟩) nf cf))
    (h6 : ∀ w, From w0 w → (loadVar 3 ⟨gf, z82.toNat * 5, none⟩).run Try.prog w = .ok (Value.int .i64 (y1)) w)
    (h10 : ∀ w, From w0 w → (loadVar 3 ⟨gf, 0, none⟩).run Try.prog w = .ok (Value.int .i64 (y0)) w)
    (hK : ∀  w, From w0 w → wpList Try.prog l.toArray Q (l.drop 13) (((((((((((((a0.put (some 79) (Value.slice (some ⟨gf, 0, none⟩) nf cf)).put (some 80) (Value.slice (some ⟨gf, 0, none⟩) nf cf)).put (some 81) (Value.int .i64 ((nf : Int)))).put (some 82) (Value.int .i64 (z82))).put (some 83) (Value.pointer (some ⟨gf, z82.toNat * 5, none⟩))).put (some 84) (Value.pointer (some ⟨gf, z82.toNat * 5, none⟩))).put (some 85) ((Value.int .i64 (y1)))).put (some 86) (Value.slice (some ⟨gf, 0, none⟩) nf cf)).put (some 87) (Value.pointer (some ⟨gf, 0, none⟩))).put (some 88) (Value.pointer (some ⟨gf, 0, none⟩))).put (some 89) ((Value.int .i64 (y0)))).put (some 90) (Value.int .i64 (z90))).put (some 10) (Value.int .i64 (z90))) w) :
    (Code.region id l.toArray true).wp Try.prog Q a0 w0 := by
  have hlen : l.length = 13 := by rw [hl]; rfl
  have hpz := List.all_eq_true.1 hpre
  refine wp_region_keep 13 (fun i v w => match i with
    | 0 => v = (Value.slice (some ⟨gf, 0, none⟩) nf cf)
    | 1 => v = (Value.slice (some ⟨gf, 0, none⟩) nf cf)
    | 2 => v = (Value.int .i64 ((nf : Int)))
    | 3 => v = (Value.int .i64 (z82))
    | 4 => v = (Value.pointer (some ⟨gf, z82.toNat * 5, none⟩))
    | 5 => v = (Value.pointer (some ⟨gf, z82.toNat * 5, none⟩))
    | 6 => v = ((Value.int .i64 (y1)))
    | 7 => v = (Value.slice (some ⟨gf, 0, none⟩) nf cf)
    | 8 => v = (Value.pointer (some ⟨gf, 0, none⟩))
    | 9 => v = (Value.pointer (some ⟨gf, 0, none⟩))
    | 10 => v = ((Value.int .i64 (y0)))
    | 11 => v = (Value.int .i64 (z90))
    | 12 => v = (Value.int .i64 (z90))
    | _ => True) ?_ (by kernel_rfl) hO (by omega) hd ?_ ?_
  · intro i v w w' h hb
    match i, h with
    | 0, h => exact h
    | 1, h => exact h
    | 2, h => exact h
    | 3, h => exact h
    | 4, h => exact h
    | 5, h => exact h
    | 6, h => exact h
    | 7, h => exact h
    | 8, h => exact h
    | 9, h => exact h
    | 10, h => exact h
    | 11, h => exact h
    | 12, h => exact h
    | _ + 13, _ => trivial
  · intro i o hi ho a w hb hval hold
    have ho' : l.toArray[i]? = some o := by simpa using ho
    have hedge : ∀ js, (i, js) ∈ ([(2, [1]), (3, [2]), (4, [0, 3]), (5, [4]), (6, [5]), (8, [7]), (9, [8]), (10, [9]), (11, [6, 10]), (12, [11])] : List (Nat × List Nat)) → ∀ j ∈ js, (o.after.any fun e => Region.binds .any e && e.on == j) = true := fun js hm j hj => by
      have h1 := List.all_eq_true.1 (hpz _ hm) j hj
      rw [ho'] at h1
      simpa using h1
    have hcase : i = 0 ∨ i = 1 ∨ i = 2 ∨ i = 3 ∨ i = 4 ∨ i = 5 ∨ i = 6 ∨ i = 7 ∨ i = 8 ∨ i = 9 ∨ i = 10 ∨ i = 11 ∨ i = 12 := by omega
    rcases hcase with rfl | rfl | rfl | rfl | rfl | rfl | rfl | rfl | rfl | rfl | rfl | rfl | rfl
    · have b4 := eval_get ((hold 4 (by rw [hl]; rfl)).trans k4)
      rw [hl] at ho
      injection ho with ho
      subst ho
      exact wpOp_value ho' rfl (v := (Value.slice (some ⟨gf, 0, none⟩) nf cf)) (w' := w) (by go_simp) ⟨_, rfl, Below.refl _ _, rfl⟩
    · have b4 := eval_get ((hold 4 (by rw [hl]; rfl)).trans k4)
      rw [hl] at ho
      injection ho with ho
      subst ho
      exact wpOp_value ho' rfl (v := (Value.slice (some ⟨gf, 0, none⟩) nf cf)) (w' := w) (by go_simp) ⟨_, rfl, Below.refl _ _, rfl⟩
    · obtain ⟨y1, hy1, hz1⟩ := hval 1 _ 80 (by omega) (by rw [hl]; rfl) rfl (hedge [1] (by simp) 1 (by simp))
      have hz1 : y1 = (Value.slice (some ⟨gf, 0, none⟩) nf cf) := hz1
      rw [hz1] at hy1
      have b80 := eval_get hy1
      rw [hl] at ho
      injection ho with ho
      subst ho
      exact wpOp_value ho' rfl (v := (Value.int .i64 ((nf : Int)))) (w' := w) (by go_simp) ⟨_, rfl, Below.refl _ _, rfl⟩
    · obtain ⟨y2, hy2, hz2⟩ := hval 2 _ 81 (by omega) (by rw [hl]; rfl) rfl (hedge [2] (by simp) 2 (by simp))
      have hz2 : y2 = (Value.int .i64 ((nf : Int))) := hz2
      rw [hz2] at hy2
      have b81 := eval_get hy2
      rw [hl] at ho
      injection ho with ho
      subst ho
      exact wpOp_value ho' rfl (v := (Value.int .i64 (z82))) (w' := w) (by go_simp) ⟨_, rfl, Below.refl _ _, rfl⟩
    · obtain ⟨y0, hy0, hz0⟩ := hval 0 _ 79 (by omega) (by rw [hl]; rfl) rfl (hedge [0, 3] (by simp) 0 (by simp))
      have hz0 : y0 = (Value.slice (some ⟨gf, 0, none⟩) nf cf) := hz0
      rw [hz0] at hy0
      have b79 := eval_get hy0
      obtain ⟨y3, hy3, hz3⟩ := hval 3 _ 82 (by omega) (by rw [hl]; rfl) rfl (hedge [0, 3] (by simp) 3 (by simp))
      have hz3 : y3 = (Value.int .i64 (z82)) := hz3
      rw [hz3] at hy3
      have b82 := eval_get hy3
      rw [hl] at ho
      injection ho with ho
      subst ho
      exact wpOp_value ho' rfl (v := (Value.pointer (some ⟨gf, z82.toNat * 5, none⟩))) (w' := w) (by go_simp) ⟨_, rfl, Below.refl _ _, rfl⟩
    · obtain ⟨y4, hy4, hz4⟩ := hval 4 _ 83 (by omega) (by rw [hl]; rfl) rfl (hedge [4] (by simp) 4 (by simp))
      have hz4 : y4 = (Value.pointer (some ⟨gf, z82.toNat * 5, none⟩)) := hz4
      rw [hz4] at hy4
      have b83 := eval_get hy4
      rw [hl] at ho
      injection ho with ho
      subst ho
      exact wpOp_value ho' rfl (v := (Value.pointer (some ⟨gf, z82.toNat * 5, none⟩))) (w' := w) (by go_simp) ⟨_, rfl, Below.refl _ _, rfl⟩
    · obtain ⟨y5, hy5, hz5⟩ := hval 5 _ 84 (by omega) (by rw [hl]; rfl) rfl (hedge [5] (by simp) 5 (by simp))
      have hz5 : y5 = (Value.pointer (some ⟨gf, z82.toNat * 5, none⟩)) := hz5
      rw [hz5] at hy5
      have b84 := eval_get hy5
      rw [hl] at ho
      injection ho with ho
      subst ho
      exact wpOp_load ho' rfl rfl b84 (h6 w hb) ⟨_, rfl, Below.refl _ _, rfl⟩
    · have b4 := eval_get ((hold 4 (by rw [hl]; rfl)).trans k4)
      rw [hl] at ho
      injection ho with ho
      subst ho
      exact wpOp_value ho' rfl (v := (Value.slice (some ⟨gf, 0, none⟩) nf cf)) (w' := w) (by go_simp) ⟨_, rfl, Below.refl _ _, rfl⟩
    · obtain ⟨y7, hy7, hz7⟩ := hval 7 _ 86 (by omega) (by rw [hl]; rfl) rfl (hedge [7] (by simp) 7 (by simp))
      have hz7 : y7 = (Value.slice (some ⟨gf, 0, none⟩) nf cf) := hz7
      rw [hz7] at hy7
      have b86 := eval_get hy7
      rw [hl] at ho
      injection ho with ho
      subst ho
      exact wpOp_value ho' rfl (v := (Value.pointer (some ⟨gf, 0, none⟩))) (w' := w) (by go_simp) ⟨_, rfl, Below.refl _ _, rfl⟩
    · obtain ⟨y8, hy8, hz8⟩ := hval 8 _ 87 (by omega) (by rw [hl]; rfl) rfl (hedge [8] (by simp) 8 (by simp))
      have hz8 : y8 = (Value.pointer (some ⟨gf, 0, none⟩)) := hz8
      rw [hz8] at hy8
      have b87 := eval_get hy8
      rw [hl] at ho
      injection ho with ho
      subst ho
      exact wpOp_value ho' rfl (v := (Value.pointer (some ⟨gf, 0, none⟩))) (w' := w) (by go_simp) ⟨_, rfl, Below.refl _ _, rfl⟩
    · obtain ⟨y9, hy9, hz9⟩ := hval 9 _ 88 (by omega) (by rw [hl]; rfl) rfl (hedge [9] (by simp) 9 (by simp))
      have hz9 : y9 = (Value.pointer (some ⟨gf, 0, none⟩)) := hz9
      rw [hz9] at hy9
      have b88 := eval_get hy9
      rw [hl] at ho
      injection ho with ho
      subst ho
      exact wpOp_load ho' rfl rfl b88 (h10 w hb) ⟨_, rfl, Below.refl _ _, rfl⟩
    · obtain ⟨y6, hy6, hz6⟩ := hval 6 _ 85 (by omega) (by rw [hl]; rfl) rfl (hedge [6, 10] (by simp) 6 (by simp))
      have hz6 : y6 = ((Value.int .i64 (y1))) := hz6
      rw [hz6] at hy6
      have b85 := eval_get hy6
      obtain ⟨y10, hy10, hz10⟩ := hval 10 _ 89 (by omega) (by rw [hl]; rfl) rfl (hedge [6, 10] (by simp) 10 (by simp))
      have hz10 : y10 = ((Value.int .i64 (y0))) := hz10
      rw [hz10] at hy10
      have b89 := eval_get hy10
      rw [hl] at ho
      injection ho with ho
      subst ho
      exact wpOp_value ho' rfl (v := (Value.int .i64 (z90))) (w' := w) (by go_simp) ⟨_, rfl, Below.refl _ _, rfl⟩
    · obtain ⟨y11, hy11, hz11⟩ := hval 11 _ 90 (by omega) (by rw [hl]; rfl) rfl (hedge [11] (by simp) 11 (by simp))
      have hz11 : y11 = (Value.int .i64 (z90)) := hz11
      rw [hz11] at hy11
      have b90 := eval_get hy11
      rw [hl] at ho
      injection ho with ho
      subst ho
      exact wpOp_value ho' rfl (v := (Value.int .i64 (z90))) (w' := w) (by go_simp) ⟨_, rfl, Below.refl _ _, rfl⟩
  · intro val w hb hrows
    have q0 : val 0 = (Value.slice (some ⟨gf, 0, none⟩) nf cf) := hrows 0 (by omega)
    have q1 : val 1 = (Value.slice (some ⟨gf, 0, none⟩) nf cf) := hrows 1 (by omega)
    have q2 : val 2 = (Value.int .i64 ((nf : Int))) := hrows 2 (by omega)
    have q3 : val 3 = (Value.int .i64 (z82)) := hrows 3 (by omega)
    have q4 : val 4 = (Value.pointer (some ⟨gf, z82.toNat * 5, none⟩)) := hrows 4 (by omega)
    have q5 : val 5 = (Value.pointer (some ⟨gf, z82.toNat * 5, none⟩)) := hrows 5 (by omega)
    have q6 : val 6 = ((Value.int .i64 (y1))) := hrows 6 (by omega)
    have q7 : val 7 = (Value.slice (some ⟨gf, 0, none⟩) nf cf) := hrows 7 (by omega)
    have q8 : val 8 = (Value.pointer (some ⟨gf, 0, none⟩)) := hrows 8 (by omega)
    have q9 : val 9 = (Value.pointer (some ⟨gf, 0, none⟩)) := hrows 9 (by omega)
    have q10 : val 10 = ((Value.int .i64 (y0))) := hrows 10 (by omega)
    have q11 : val 11 = (Value.int .i64 (z90)) := hrows 11 (by omega)
    have q12 : val 12 = (Value.int .i64 (z90)) := hrows 12 (by omega)
    have hF := hK  w hb 
    subst hl
    simp only [List.take_succ_cons, List.take_zero, putAll, Nat.zero_add, Nat.reduceAdd, q0, q1, q2, q3, q4, q5, q6, q7, q8, q9, q10, q11, q12]
    exact hF

set_option maxRecDepth 100000 in
set_option maxHeartbeats 4000000 in
theorem region_made18 {id : Nat} {Q : Exit → Act → World → Prop} {a0 : Act} {w0 : World} {l : List Oper} {gf nf cf gx : Nat} {wv : Value} {y0 at_ ki wd z109 z111 z112 : Int} (h0 : ¬ nf = 0) (w108 : IntKind.i64.wrap at_ = at_) (w109 : IntKind.i64.wrap (at_ * 7) = z109) (hwd : ¬ wd = 0) (w111 : z109.tmod wd = z111) (w112 : IntKind.i64.wrap (y0 + z111) = z112) (w115 : IntKind.i64.wrap ki = ki)
    {t0 t1 t2 t3 t4 t5 t6 t7 t8 t9 t10 t11 t12 t13 t14 t15 t16 t17 t18 : TypeId} {x0 x1 x2 x3 x4 x5 x6 x7 x8 x9 x10 x11 x12 x13 x14 x15 x16 x17 x18 : String} {e0 e1 e2 e3 e4 e5 e6 e7 e8 e9 e10 e11 e12 e13 e14 e15 e16 e17 e18 : Array Edge}
    (hl : l = [⟨some 101, .move (.tmp 11), t0, x0, e0, none⟩,
      ⟨some 102, .move (.tmp 4), t1, x1, e1, none⟩,
      ⟨some 103, .indexAddr 22 (.tmp 102) (.const (.int .i64 0)), t2, x2, e2, none⟩,
      ⟨some 104, .fieldAddr 44 (.tmp 103) 0, t3, x3, e3, none⟩,
      ⟨some 105, .load 3 (.tmp 104), t4, x4, e4, none⟩,
      ⟨some 106, .fieldAddr 95 (.tmp 13) 2, t5, x5, e5, none⟩,
      ⟨some 107, .load 62 (.tmp 106), t6, x6, e6, none⟩,
      ⟨some 108, .convert 62 3 (.tmp 107), t7, x7, e7, none⟩,
      ⟨some 109, .binOp .mul 3 (.tmp 108) (.const (.int .i64 7)) 3, t8, x8, e8, none⟩,
      ⟨some 110, .move (.tmp 10), t9, x9, e9, none⟩,
      ⟨some 111, .binOp .rem 3 (.tmp 109) (.tmp 110) 3, t10, x10, e10, none⟩,
      ⟨some 112, .binOp .add 3 (.tmp 105) (.tmp 111) 3, t11, x11, e11, none⟩,
      ⟨some 113, .fieldAddr 95 (.tmp 13) 3, t12, x12, e12, none⟩,
      ⟨some 114, .load 62 (.tmp 113), t13, x13, e13, none⟩,
      ⟨some 115, .convert 62 3 (.tmp 114), t14, x14, e14, none⟩,
      ⟨some 116, .build 46 #[(0, .tmp 112), (1, .tmp 115)], t15, x15, e15, none⟩,
      ⟨some 117, .buildSlice 23 1 #[(0, .tmp 116)], t16, x16, e16, none⟩,
      ⟨some 118, .call { callee := .builtin .append, args := #[.tmp 101, .tmp 117], argTypes := #[23, 23] }, t17, x17, e17, none⟩,
      ⟨some 11, .assign (.tmp 118), t18, x18, e18, none⟩])
    (hO : orderB l 17 = true) (hd : dstsB l 17 a0.tmps.size = true) (hpre : preB l.toArray [(2, [1]), (3, [2]), (4, [3]), (6, [5]), (7, [6]), (8, [7]), (10, [8, 9]), (11, [4, 10]), (13, [12]), (14, [13]), (15, [11, 14]), (16, [15])] = true)
     (k4 : a0.tmps[4]? = some (Value.slice (some ⟨gf, 0, none⟩) nf cf)) (k10 : a0.tmps[10]? = some (Value.int .i64 (wd))) (k11 : a0.tmps[11]? = some (wv)) (k13 : a0.tmps[13]? = some (Value.pointer (some ⟨gx, 0, none⟩)))
    (R16 : Value → World → Prop) (s16 : ∀ v w w', R16 v w → From w w' → R16 v w')
    (h4 : ∀ w, From w0 w → (loadVar 3 ⟨gf, 0, none⟩).run Try.prog w = .ok (Value.int .i64 (y0)) w)
    (h6 : ∀ w, From w0 w → (loadVar 62 ⟨gx, 2, none⟩).run Try.prog w = .ok (Value.int .u16 at_) w)
    (h13 : ∀ w, From w0 w → (loadVar 62 ⟨gx, 3, none⟩).run Try.prog w = .ok (Value.int .u16 ki) w)
    (h16 : ∀ (a : Act) (w : World), From w0 w → a.eval (.tmp 116) = (Value.agg #[.int .i64 z112, .int .i64 ki]) → ∃ v w', (execOp a.eval ⟨some 117, .buildSlice 23 1 #[(0, .tmp 116)], t16, x16, e16, none⟩).run Try.prog w = .ok (.value v) w' ∧ From w w' ∧ R16 v w')
    (hK : ∀ u16 w, From w0 w → R16 u16 w → wpList Try.prog l.toArray Q (l.drop 17) (((((((((((((((((a0.put (some 101) (wv)).put (some 102) (Value.slice (some ⟨gf, 0, none⟩) nf cf)).put (some 103) (Value.pointer (some ⟨gf, 0, none⟩))).put (some 104) (Value.pointer (some ⟨gf, 0, none⟩))).put (some 105) ((Value.int .i64 (y0)))).put (some 106) (Value.pointer (some ⟨gx, 2, none⟩))).put (some 107) ((Value.int .u16 at_))).put (some 108) (Value.int .i64 (at_))).put (some 109) (Value.int .i64 (z109))).put (some 110) (Value.int .i64 (wd))).put (some 111) (Value.int .i64 (z111))).put (some 112) (Value.int .i64 (z112))).put (some 113) (Value.pointer (some ⟨gx, 3, none⟩))).put (some 114) ((Value.int .u16 ki))).put (some 115) (Value.int .i64 (ki))).put (some 116) (Value.agg #[.int .i64 z112, .int .i64 ki])).put (some 117) u16) w) :
    (Code.region id l.toArray true).wp Try.prog Q a0 w0 := by
  have hlen : l.length = 19 := by rw [hl]; rfl
  have hpz := List.all_eq_true.1 hpre
  refine wp_region_keep 17 (fun i v w => match i with
    | 0 => v = (wv)
    | 1 => v = (Value.slice (some ⟨gf, 0, none⟩) nf cf)
    | 2 => v = (Value.pointer (some ⟨gf, 0, none⟩))
    | 3 => v = (Value.pointer (some ⟨gf, 0, none⟩))
    | 4 => v = ((Value.int .i64 (y0)))
    | 5 => v = (Value.pointer (some ⟨gx, 2, none⟩))
    | 6 => v = ((Value.int .u16 at_))
    | 7 => v = (Value.int .i64 (at_))
    | 8 => v = (Value.int .i64 (z109))
    | 9 => v = (Value.int .i64 (wd))
    | 10 => v = (Value.int .i64 (z111))
    | 11 => v = (Value.int .i64 (z112))
    | 12 => v = (Value.pointer (some ⟨gx, 3, none⟩))
    | 13 => v = ((Value.int .u16 ki))
    | 14 => v = (Value.int .i64 (ki))
    | 15 => v = (Value.agg #[.int .i64 z112, .int .i64 ki])
    | 16 => R16 v w
    | _ => True) ?_ (by kernel_rfl) hO (by omega) hd ?_ ?_
  · intro i v w w' h hb
    match i, h with
    | 0, h => exact h
    | 1, h => exact h
    | 2, h => exact h
    | 3, h => exact h
    | 4, h => exact h
    | 5, h => exact h
    | 6, h => exact h
    | 7, h => exact h
    | 8, h => exact h
    | 9, h => exact h
    | 10, h => exact h
    | 11, h => exact h
    | 12, h => exact h
    | 13, h => exact h
    | 14, h => exact h
    | 15, h => exact h
    | 16, h => exact s16 v w w' h hb
    | _ + 17, _ => trivial
  · intro i o hi ho a w hb hval hold
    have ho' : l.toArray[i]? = some o := by simpa using ho
    have hedge : ∀ js, (i, js) ∈ ([(2, [1]), (3, [2]), (4, [3]), (6, [5]), (7, [6]), (8, [7]), (10, [8, 9]), (11, [4, 10]), (13, [12]), (14, [13]), (15, [11, 14]), (16, [15])] : List (Nat × List Nat)) → ∀ j ∈ js, (o.after.any fun e => Region.binds .any e && e.on == j) = true := fun js hm j hj => by
      have h1 := List.all_eq_true.1 (hpz _ hm) j hj
      rw [ho'] at h1
      simpa using h1
    have hcase : i = 0 ∨ i = 1 ∨ i = 2 ∨ i = 3 ∨ i = 4 ∨ i = 5 ∨ i = 6 ∨ i = 7 ∨ i = 8 ∨ i = 9 ∨ i = 10 ∨ i = 11 ∨ i = 12 ∨ i = 13 ∨ i = 14 ∨ i = 15 ∨ i = 16 := by omega
    rcases hcase with rfl | rfl | rfl | rfl | rfl | rfl | rfl | rfl | rfl | rfl | rfl | rfl | rfl | rfl | rfl | rfl | rfl
    · have b11 := eval_get ((hold 11 (by rw [hl]; rfl)).trans k11)
      rw [hl] at ho
      injection ho with ho
      subst ho
      exact wpOp_value ho' rfl (v := (wv)) (w' := w) (by go_simp) ⟨_, rfl, Below.refl _ _, rfl⟩
    · have b4 := eval_get ((hold 4 (by rw [hl]; rfl)).trans k4)
      rw [hl] at ho
      injection ho with ho
      subst ho
      exact wpOp_value ho' rfl (v := (Value.slice (some ⟨gf, 0, none⟩) nf cf)) (w' := w) (by go_simp) ⟨_, rfl, Below.refl _ _, rfl⟩
    · obtain ⟨y1, hy1, hz1⟩ := hval 1 _ 102 (by omega) (by rw [hl]; rfl) rfl (hedge [1] (by simp) 1 (by simp))
      have hz1 : y1 = (Value.slice (some ⟨gf, 0, none⟩) nf cf) := hz1
      rw [hz1] at hy1
      have b102 := eval_get hy1
      rw [hl] at ho
      injection ho with ho
      subst ho
      exact wpOp_value ho' rfl (v := (Value.pointer (some ⟨gf, 0, none⟩))) (w' := w) (by go_simp) ⟨_, rfl, Below.refl _ _, rfl⟩
    · obtain ⟨y2, hy2, hz2⟩ := hval 2 _ 103 (by omega) (by rw [hl]; rfl) rfl (hedge [2] (by simp) 2 (by simp))
      have hz2 : y2 = (Value.pointer (some ⟨gf, 0, none⟩)) := hz2
      rw [hz2] at hy2
      have b103 := eval_get hy2
      rw [hl] at ho
      injection ho with ho
      subst ho
      exact wpOp_value ho' rfl (v := (Value.pointer (some ⟨gf, 0, none⟩))) (w' := w) (by go_simp) ⟨_, rfl, Below.refl _ _, rfl⟩
    · obtain ⟨y3, hy3, hz3⟩ := hval 3 _ 104 (by omega) (by rw [hl]; rfl) rfl (hedge [3] (by simp) 3 (by simp))
      have hz3 : y3 = (Value.pointer (some ⟨gf, 0, none⟩)) := hz3
      rw [hz3] at hy3
      have b104 := eval_get hy3
      rw [hl] at ho
      injection ho with ho
      subst ho
      exact wpOp_load ho' rfl rfl b104 (h4 w hb) ⟨_, rfl, Below.refl _ _, rfl⟩
    · have b13 := eval_get ((hold 13 (by rw [hl]; rfl)).trans k13)
      rw [hl] at ho
      injection ho with ho
      subst ho
      exact wpOp_value ho' rfl (v := (Value.pointer (some ⟨gx, 2, none⟩))) (w' := w) (by go_simp) ⟨_, rfl, Below.refl _ _, rfl⟩
    · obtain ⟨y5, hy5, hz5⟩ := hval 5 _ 106 (by omega) (by rw [hl]; rfl) rfl (hedge [5] (by simp) 5 (by simp))
      have hz5 : y5 = (Value.pointer (some ⟨gx, 2, none⟩)) := hz5
      rw [hz5] at hy5
      have b106 := eval_get hy5
      rw [hl] at ho
      injection ho with ho
      subst ho
      exact wpOp_load ho' rfl rfl b106 (h6 w hb) ⟨_, rfl, Below.refl _ _, rfl⟩
    · obtain ⟨y6, hy6, hz6⟩ := hval 6 _ 107 (by omega) (by rw [hl]; rfl) rfl (hedge [6] (by simp) 6 (by simp))
      have hz6 : y6 = ((Value.int .u16 at_)) := hz6
      rw [hz6] at hy6
      have b107 := eval_get hy6
      rw [hl] at ho
      injection ho with ho
      subst ho
      exact wpOp_value ho' rfl (v := (Value.int .i64 (at_))) (w' := w) (by go_simp) ⟨_, rfl, Below.refl _ _, rfl⟩
    · obtain ⟨y7, hy7, hz7⟩ := hval 7 _ 108 (by omega) (by rw [hl]; rfl) rfl (hedge [7] (by simp) 7 (by simp))
      have hz7 : y7 = (Value.int .i64 (at_)) := hz7
      rw [hz7] at hy7
      have b108 := eval_get hy7
      rw [hl] at ho
      injection ho with ho
      subst ho
      exact wpOp_value ho' rfl (v := (Value.int .i64 (z109))) (w' := w) (by go_simp) ⟨_, rfl, Below.refl _ _, rfl⟩
    · have b10 := eval_get ((hold 10 (by rw [hl]; rfl)).trans k10)
      rw [hl] at ho
      injection ho with ho
      subst ho
      exact wpOp_value ho' rfl (v := (Value.int .i64 (wd))) (w' := w) (by go_simp) ⟨_, rfl, Below.refl _ _, rfl⟩
    · obtain ⟨y8, hy8, hz8⟩ := hval 8 _ 109 (by omega) (by rw [hl]; rfl) rfl (hedge [8, 9] (by simp) 8 (by simp))
      have hz8 : y8 = (Value.int .i64 (z109)) := hz8
      rw [hz8] at hy8
      have b109 := eval_get hy8
      obtain ⟨y9, hy9, hz9⟩ := hval 9 _ 110 (by omega) (by rw [hl]; rfl) rfl (hedge [8, 9] (by simp) 9 (by simp))
      have hz9 : y9 = (Value.int .i64 (wd)) := hz9
      rw [hz9] at hy9
      have b110 := eval_get hy9
      rw [hl] at ho
      injection ho with ho
      subst ho
      exact wpOp_value ho' rfl (v := (Value.int .i64 (z111))) (w' := w) (by go_simp) ⟨_, rfl, Below.refl _ _, rfl⟩
    · obtain ⟨y4, hy4, hz4⟩ := hval 4 _ 105 (by omega) (by rw [hl]; rfl) rfl (hedge [4, 10] (by simp) 4 (by simp))
      have hz4 : y4 = ((Value.int .i64 (y0))) := hz4
      rw [hz4] at hy4
      have b105 := eval_get hy4
      obtain ⟨y10, hy10, hz10⟩ := hval 10 _ 111 (by omega) (by rw [hl]; rfl) rfl (hedge [4, 10] (by simp) 10 (by simp))
      have hz10 : y10 = (Value.int .i64 (z111)) := hz10
      rw [hz10] at hy10
      have b111 := eval_get hy10
      rw [hl] at ho
      injection ho with ho
      subst ho
      exact wpOp_value ho' rfl (v := (Value.int .i64 (z112))) (w' := w) (by go_simp) ⟨_, rfl, Below.refl _ _, rfl⟩
    · have b13 := eval_get ((hold 13 (by rw [hl]; rfl)).trans k13)
      rw [hl] at ho
      injection ho with ho
      subst ho
      exact wpOp_value ho' rfl (v := (Value.pointer (some ⟨gx, 3, none⟩))) (w' := w) (by go_simp) ⟨_, rfl, Below.refl _ _, rfl⟩
    · obtain ⟨y12, hy12, hz12⟩ := hval 12 _ 113 (by omega) (by rw [hl]; rfl) rfl (hedge [12] (by simp) 12 (by simp))
      have hz12 : y12 = (Value.pointer (some ⟨gx, 3, none⟩)) := hz12
      rw [hz12] at hy12
      have b113 := eval_get hy12
      rw [hl] at ho
      injection ho with ho
      subst ho
      exact wpOp_load ho' rfl rfl b113 (h13 w hb) ⟨_, rfl, Below.refl _ _, rfl⟩
    · obtain ⟨y13, hy13, hz13⟩ := hval 13 _ 114 (by omega) (by rw [hl]; rfl) rfl (hedge [13] (by simp) 13 (by simp))
      have hz13 : y13 = ((Value.int .u16 ki)) := hz13
      rw [hz13] at hy13
      have b114 := eval_get hy13
      rw [hl] at ho
      injection ho with ho
      subst ho
      exact wpOp_value ho' rfl (v := (Value.int .i64 (ki))) (w' := w) (by go_simp) ⟨_, rfl, Below.refl _ _, rfl⟩
    · obtain ⟨y11, hy11, hz11⟩ := hval 11 _ 112 (by omega) (by rw [hl]; rfl) rfl (hedge [11, 14] (by simp) 11 (by simp))
      have hz11 : y11 = (Value.int .i64 (z112)) := hz11
      rw [hz11] at hy11
      have b112 := eval_get hy11
      obtain ⟨y14, hy14, hz14⟩ := hval 14 _ 115 (by omega) (by rw [hl]; rfl) rfl (hedge [11, 14] (by simp) 14 (by simp))
      have hz14 : y14 = (Value.int .i64 (ki)) := hz14
      rw [hz14] at hy14
      have b115 := eval_get hy14
      rw [hl] at ho
      injection ho with ho
      subst ho
      exact wpOp_value ho' rfl (v := (Value.agg #[.int .i64 z112, .int .i64 ki])) (w' := w) (by go_simp) ⟨_, rfl, Below.refl _ _, rfl⟩
    · obtain ⟨y15, hy15, hz15⟩ := hval 15 _ 116 (by omega) (by rw [hl]; rfl) rfl (hedge [15] (by simp) 15 (by simp))
      have hz15 : y15 = (Value.agg #[.int .i64 z112, .int .i64 ki]) := hz15
      rw [hz15] at hy15
      have b116 := eval_get hy15
      rw [hl] at ho
      injection ho with ho
      subst ho
      obtain ⟨v, w', hrun, hb2, hr2⟩ := h16 a w hb b116
      exact wpOp_value ho' rfl hrun ⟨_, rfl, hb2, hr2⟩
  · intro val w hb hrows
    have q0 : val 0 = (wv) := hrows 0 (by omega)
    have q1 : val 1 = (Value.slice (some ⟨gf, 0, none⟩) nf cf) := hrows 1 (by omega)
    have q2 : val 2 = (Value.pointer (some ⟨gf, 0, none⟩)) := hrows 2 (by omega)
    have q3 : val 3 = (Value.pointer (some ⟨gf, 0, none⟩)) := hrows 3 (by omega)
    have q4 : val 4 = ((Value.int .i64 (y0))) := hrows 4 (by omega)
    have q5 : val 5 = (Value.pointer (some ⟨gx, 2, none⟩)) := hrows 5 (by omega)
    have q6 : val 6 = ((Value.int .u16 at_)) := hrows 6 (by omega)
    have q7 : val 7 = (Value.int .i64 (at_)) := hrows 7 (by omega)
    have q8 : val 8 = (Value.int .i64 (z109)) := hrows 8 (by omega)
    have q9 : val 9 = (Value.int .i64 (wd)) := hrows 9 (by omega)
    have q10 : val 10 = (Value.int .i64 (z111)) := hrows 10 (by omega)
    have q11 : val 11 = (Value.int .i64 (z112)) := hrows 11 (by omega)
    have q12 : val 12 = (Value.pointer (some ⟨gx, 3, none⟩)) := hrows 12 (by omega)
    have q13 : val 13 = ((Value.int .u16 ki)) := hrows 13 (by omega)
    have q14 : val 14 = (Value.int .i64 (ki)) := hrows 14 (by omega)
    have q15 : val 15 = (Value.agg #[.int .i64 z112, .int .i64 ki]) := hrows 15 (by omega)
    have q16 : R16 (val 16) w := hrows 16 (by omega)
    have hF := hK (val 16) w hb q16
    subst hl
    simp only [List.take_succ_cons, List.take_zero, putAll, Nat.zero_add, Nat.reduceAdd, q0, q1, q2, q3, q4, q5, q6, q7, q8, q9, q10, q11, q12, q13, q14, q15]
    exact hF
end Go.Proofs.Ytcdfnlgimbecgaa
