/-
  twistlocklaw18: the regions of StrengthAdds that draw their order. (Printed by gen_adds.py.)
-/
import Derived.Test.YtcdfnlgimbecgaaMg33
import Derived.Test.YtcdfnlgimbecgaaMg44

namespace Go.Proofs.Ytcdfnlgimbecgaa
open Go.RowKit

theorem cf15 (w : World) (args : Array Value) : (callFunc 15 args).run Try.prog w = .ok (.enter 15 args) w := by
  go_simp

set_option maxRecDepth 100000 in
set_option maxHeartbeats 4000000 in
theorem region_addsA {id : Nat} {Q : Exit → Act → World → Prop} {a0 : Act} {w0 : World} {l : List Oper} {n kk g1 o1 c1 g0 o0 c0 g2 o2 c2 g3 o3 c3 : Nat} {f1 f0 f2 f3 : FracV} {r1 r2 : FracV × Int} (hk : (kk : Int) < (n : Int))
    {t0 t1 t2 t3 t4 t5 t6 t7 t8 t9 t10 t11 t12 t13 t14 t15 t16 t17 t18 t19 t20 t21 t22 t23 t24 t25 t26 t27 t28 t29 : TypeId} {x0 x1 x2 x3 x4 x5 x6 x7 x8 x9 x10 x11 x12 x13 x14 x15 x16 x17 x18 x19 x20 x21 x22 x23 x24 x25 x26 x27 x28 x29 : String} {e0 e1 e2 e3 e4 e5 e6 e7 e8 e9 e10 e11 e12 e13 e14 e15 e16 e17 e18 e19 e20 e21 e22 e23 e24 e25 e26 e27 e28 e29 : Array Edge}
    (hl : l = [⟨some 98, .move (.tmp 10), t0, x0, e0, none⟩,
      ⟨some 99, .move (.tmp 20), t1, x1, e1, none⟩,
      ⟨some 100, .indexAddr 26 (.tmp 98) (.tmp 99), t2, x2, e2, none⟩,
      ⟨some 101, .fieldAddr 40 (.tmp 100) 0, t3, x3, e3, none⟩,
      ⟨some 102, .load 37 (.tmp 101), t4, x4, e4, none⟩,
      ⟨some 103, .move (.tmp 14), t5, x5, e5, none⟩,
      ⟨some 104, .move (.tmp 20), t6, x6, e6, none⟩,
      ⟨some 105, .indexAddr 26 (.tmp 103) (.tmp 104), t7, x7, e7, none⟩,
      ⟨some 106, .fieldAddr 40 (.tmp 105) 0, t8, x8, e8, none⟩,
      ⟨some 107, .load 37 (.tmp 106), t9, x9, e9, none⟩,
      ⟨some 108, .call { callee := .value (.func 17), args := #[.tmp 102, .tmp 107], argTypes := #[37, 37] }, t10, x10, e10, none⟩,
      ⟨some 109, .extract (.tmp 108) 0, t11, x11, e11, none⟩,
      ⟨some 110, .extract (.tmp 108) 1, t12, x12, e12, none⟩,
      ⟨some 111, .call { callee := .value (.func 15), args := #[.tmp 109, .tmp 110], argTypes := #[37, 31] }, t13, x13, e13, none⟩,
      ⟨some 112, .move (.tmp 16), t14, x14, e14, none⟩,
      ⟨some 113, .move (.tmp 20), t15, x15, e15, none⟩,
      ⟨some 114, .indexAddr 26 (.tmp 112) (.tmp 113), t16, x16, e16, none⟩,
      ⟨some 115, .fieldAddr 40 (.tmp 114) 0, t17, x17, e17, none⟩,
      ⟨some 116, .load 37 (.tmp 115), t18, x18, e18, none⟩,
      ⟨some 117, .move (.tmp 18), t19, x19, e19, none⟩,
      ⟨some 118, .move (.tmp 20), t20, x20, e20, none⟩,
      ⟨some 119, .indexAddr 26 (.tmp 117) (.tmp 118), t21, x21, e21, none⟩,
      ⟨some 120, .fieldAddr 40 (.tmp 119) 0, t22, x22, e22, none⟩,
      ⟨some 121, .load 37 (.tmp 120), t23, x23, e23, none⟩,
      ⟨some 122, .call { callee := .value (.func 17), args := #[.tmp 116, .tmp 121], argTypes := #[37, 37] }, t24, x24, e24, none⟩,
      ⟨some 123, .extract (.tmp 122) 0, t25, x25, e25, none⟩,
      ⟨some 124, .extract (.tmp 122) 1, t26, x26, e26, none⟩,
      ⟨some 125, .call { callee := .value (.func 15), args := #[.tmp 123, .tmp 124], argTypes := #[37, 31] }, t27, x27, e27, none⟩,
      ⟨some 126, .binOp .eql 37 (.tmp 111) (.tmp 125) 37, t28, x28, e28, none⟩,
      ⟨some 21, .assign (.tmp 126), t29, x29, e29, none⟩])
    (hO : orderB l 30 = true) (hd : dstsB l 30 a0.tmps.size = true) (hpre : preB l.toArray [(2, [0, 1]), (3, [2]), (4, [3]), (7, [5, 6]), (8, [7]), (9, [8]), (10, [4, 9]), (11, [10]), (12, [10]), (13, [11, 12]), (16, [14, 15]), (17, [16]), (18, [17]), (21, [19, 20]), (22, [21]), (23, [22]), (24, [18, 23]), (25, [24]), (26, [24]), (27, [25, 26]), (28, [13, 27]), (29, [28])] = true)
     (k10 : a0.tmps[10]? = some (Value.slice (some ⟨g1, o1, none⟩) n c1)) (k14 : a0.tmps[14]? = some (Value.slice (some ⟨g0, o0, none⟩) n c0)) (k16 : a0.tmps[16]? = some (Value.slice (some ⟨g2, o2, none⟩) n c2)) (k18 : a0.tmps[18]? = some (Value.slice (some ⟨g3, o3, none⟩) n c3)) (k20 : a0.tmps[20]? = some (Value.int .i64 (kk : Int)))
    (h4 : ∀ w, From w0 w → (loadVar 37 ⟨g1, o1 + kk * 34, none⟩).run Try.prog w = .ok f1.val w)
    (h9 : ∀ w, From w0 w → (loadVar 37 ⟨g0, o0 + kk * 34, none⟩).run Try.prog w = .ok f0.val w)
    (h10 : ∀ w , From w0 w → Calls Try.prog 17 #[f1.val, f0.val] w fun e w' => e = .returned (Value.tuple #[r1.1.val, .int .i64 r1.2]) ∧ From w w')
    (h13 : ∀ w , From w0 w → Calls Try.prog 15 #[r1.1.val, Value.int .i64 r1.2] w fun e w' => e = .returned (r1.1.val) ∧ From w w')
    (h18 : ∀ w, From w0 w → (loadVar 37 ⟨g2, o2 + kk * 34, none⟩).run Try.prog w = .ok f2.val w)
    (h23 : ∀ w, From w0 w → (loadVar 37 ⟨g3, o3 + kk * 34, none⟩).run Try.prog w = .ok f3.val w)
    (h24 : ∀ w , From w0 w → Calls Try.prog 17 #[f2.val, f3.val] w fun e w' => e = .returned (Value.tuple #[r2.1.val, .int .i64 r2.2]) ∧ From w w')
    (h27 : ∀ w , From w0 w → Calls Try.prog 15 #[r2.1.val, Value.int .i64 r2.2] w fun e w' => e = .returned (r2.1.val) ∧ From w w')
    (h28 : ∀ (a : Act) (w : World), a.eval (.tmp 111) = (r1.1.val) → a.eval (.tmp 125) = (r2.1.val) → (execOp a.eval ⟨some 126, .binOp .eql 37 (.tmp 111) (.tmp 125) 37, t28, x28, e28, none⟩).run Try.prog w = .ok (.value (Value.bool true)) w)
    (hK : ∀  w, From w0 w → wpList Try.prog l.toArray Q (l.drop 30) ((((((((((((((((((((((((((((((a0.put (some 98) (Value.slice (some ⟨g1, o1, none⟩) n c1)).put (some 99) (Value.int .i64 (kk : Int))).put (some 100) (Value.pointer (some ⟨g1, o1 + kk * 34, none⟩))).put (some 101) (Value.pointer (some ⟨g1, o1 + kk * 34, none⟩))).put (some 102) (f1.val)).put (some 103) (Value.slice (some ⟨g0, o0, none⟩) n c0)).put (some 104) (Value.int .i64 (kk : Int))).put (some 105) (Value.pointer (some ⟨g0, o0 + kk * 34, none⟩))).put (some 106) (Value.pointer (some ⟨g0, o0 + kk * 34, none⟩))).put (some 107) (f0.val)).put (some 108) (Value.tuple #[r1.1.val, .int .i64 r1.2])).put (some 109) (r1.1.val)).put (some 110) (Value.int .i64 r1.2)).put (some 111) (r1.1.val)).put (some 112) (Value.slice (some ⟨g2, o2, none⟩) n c2)).put (some 113) (Value.int .i64 (kk : Int))).put (some 114) (Value.pointer (some ⟨g2, o2 + kk * 34, none⟩))).put (some 115) (Value.pointer (some ⟨g2, o2 + kk * 34, none⟩))).put (some 116) (f2.val)).put (some 117) (Value.slice (some ⟨g3, o3, none⟩) n c3)).put (some 118) (Value.int .i64 (kk : Int))).put (some 119) (Value.pointer (some ⟨g3, o3 + kk * 34, none⟩))).put (some 120) (Value.pointer (some ⟨g3, o3 + kk * 34, none⟩))).put (some 121) (f3.val)).put (some 122) (Value.tuple #[r2.1.val, .int .i64 r2.2])).put (some 123) (r2.1.val)).put (some 124) (Value.int .i64 r2.2)).put (some 125) (r2.1.val)).put (some 126) (Value.bool true)).put (some 21) (Value.bool true)) w) :
    (Code.region id l.toArray true).wp Try.prog Q a0 w0 := by
  have hlen : l.length = 30 := by rw [hl]; rfl
  have hpz := List.all_eq_true.1 hpre
  refine wp_region_keep 30 (fun i v w => match i with
    | 0 => v = (Value.slice (some ⟨g1, o1, none⟩) n c1)
    | 1 => v = (Value.int .i64 (kk : Int))
    | 2 => v = (Value.pointer (some ⟨g1, o1 + kk * 34, none⟩))
    | 3 => v = (Value.pointer (some ⟨g1, o1 + kk * 34, none⟩))
    | 4 => v = (f1.val)
    | 5 => v = (Value.slice (some ⟨g0, o0, none⟩) n c0)
    | 6 => v = (Value.int .i64 (kk : Int))
    | 7 => v = (Value.pointer (some ⟨g0, o0 + kk * 34, none⟩))
    | 8 => v = (Value.pointer (some ⟨g0, o0 + kk * 34, none⟩))
    | 9 => v = (f0.val)
    | 10 => v = (Value.tuple #[r1.1.val, .int .i64 r1.2])
    | 11 => v = (r1.1.val)
    | 12 => v = (Value.int .i64 r1.2)
    | 13 => v = (r1.1.val)
    | 14 => v = (Value.slice (some ⟨g2, o2, none⟩) n c2)
    | 15 => v = (Value.int .i64 (kk : Int))
    | 16 => v = (Value.pointer (some ⟨g2, o2 + kk * 34, none⟩))
    | 17 => v = (Value.pointer (some ⟨g2, o2 + kk * 34, none⟩))
    | 18 => v = (f2.val)
    | 19 => v = (Value.slice (some ⟨g3, o3, none⟩) n c3)
    | 20 => v = (Value.int .i64 (kk : Int))
    | 21 => v = (Value.pointer (some ⟨g3, o3 + kk * 34, none⟩))
    | 22 => v = (Value.pointer (some ⟨g3, o3 + kk * 34, none⟩))
    | 23 => v = (f3.val)
    | 24 => v = (Value.tuple #[r2.1.val, .int .i64 r2.2])
    | 25 => v = (r2.1.val)
    | 26 => v = (Value.int .i64 r2.2)
    | 27 => v = (r2.1.val)
    | 28 => v = (Value.bool true)
    | 29 => v = (Value.bool true)
    | _ => True) ?_ (by kernel_rfl) hO (by omega) hd ?_ ?_
  · intro i v w w' h hb
    match i, h with
    | 0, h => exact h
    | 1, h => exact h
    | 2, h => exact h
    | 3, h => exact h
    | 4, h => exact h
    | 5, h => exact h
    | 6, h => exact h
    | 7, h => exact h
    | 8, h => exact h
    | 9, h => exact h
    | 10, h => exact h
    | 11, h => exact h
    | 12, h => exact h
    | 13, h => exact h
    | 14, h => exact h
    | 15, h => exact h
    | 16, h => exact h
    | 17, h => exact h
    | 18, h => exact h
    | 19, h => exact h
    | 20, h => exact h
    | 21, h => exact h
    | 22, h => exact h
    | 23, h => exact h
    | 24, h => exact h
    | 25, h => exact h
    | 26, h => exact h
    | 27, h => exact h
    | 28, h => exact h
    | 29, h => exact h
    | _ + 30, _ => trivial
  · intro i o hi ho a w hb hval hold
    have ho' : l.toArray[i]? = some o := by simpa using ho
    have hedge : ∀ js, (i, js) ∈ ([(2, [0, 1]), (3, [2]), (4, [3]), (7, [5, 6]), (8, [7]), (9, [8]), (10, [4, 9]), (11, [10]), (12, [10]), (13, [11, 12]), (16, [14, 15]), (17, [16]), (18, [17]), (21, [19, 20]), (22, [21]), (23, [22]), (24, [18, 23]), (25, [24]), (26, [24]), (27, [25, 26]), (28, [13, 27]), (29, [28])] : List (Nat × List Nat)) → ∀ j ∈ js, (o.after.any fun e => Region.binds .any e && e.on == j) = true := fun js hm j hj => by
      have h1 := List.all_eq_true.1 (hpz _ hm) j hj
      rw [ho'] at h1
      simpa using h1
    have hcase : i = 0 ∨ i = 1 ∨ i = 2 ∨ i = 3 ∨ i = 4 ∨ i = 5 ∨ i = 6 ∨ i = 7 ∨ i = 8 ∨ i = 9 ∨ i = 10 ∨ i = 11 ∨ i = 12 ∨ i = 13 ∨ i = 14 ∨ i = 15 ∨ i = 16 ∨ i = 17 ∨ i = 18 ∨ i = 19 ∨ i = 20 ∨ i = 21 ∨ i = 22 ∨ i = 23 ∨ i = 24 ∨ i = 25 ∨ i = 26 ∨ i = 27 ∨ i = 28 ∨ i = 29 := by omega
    rcases hcase with rfl | rfl | rfl | rfl | rfl | rfl | rfl | rfl | rfl | rfl | rfl | rfl | rfl | rfl | rfl | rfl | rfl | rfl | rfl | rfl | rfl | rfl | rfl | rfl | rfl | rfl | rfl | rfl | rfl | rfl
    · have b10 := eval_get ((hold 10 (by rw [hl]; rfl)).trans k10)
      rw [hl] at ho
      injection ho with ho
      subst ho
      exact wpOp_value ho' rfl (v := (Value.slice (some ⟨g1, o1, none⟩) n c1)) (w' := w) (by go_simp) ⟨_, rfl, Below.refl _ _, rfl⟩
    · have b20 := eval_get ((hold 20 (by rw [hl]; rfl)).trans k20)
      rw [hl] at ho
      injection ho with ho
      subst ho
      exact wpOp_value ho' rfl (v := (Value.int .i64 (kk : Int))) (w' := w) (by go_simp) ⟨_, rfl, Below.refl _ _, rfl⟩
    · obtain ⟨y0, hy0, hz0⟩ := hval 0 _ 98 (by omega) (by rw [hl]; rfl) rfl (hedge [0, 1] (by simp) 0 (by simp))
      have hz0 : y0 = (Value.slice (some ⟨g1, o1, none⟩) n c1) := hz0
      rw [hz0] at hy0
      have b98 := eval_get hy0
      obtain ⟨y1, hy1, hz1⟩ := hval 1 _ 99 (by omega) (by rw [hl]; rfl) rfl (hedge [0, 1] (by simp) 1 (by simp))
      have hz1 : y1 = (Value.int .i64 (kk : Int)) := hz1
      rw [hz1] at hy1
      have b99 := eval_get hy1
      rw [hl] at ho
      injection ho with ho
      subst ho
      exact wpOp_value ho' rfl (v := (Value.pointer (some ⟨g1, o1 + kk * 34, none⟩))) (w' := w) (by go_simp) ⟨_, rfl, Below.refl _ _, rfl⟩
    · obtain ⟨y2, hy2, hz2⟩ := hval 2 _ 100 (by omega) (by rw [hl]; rfl) rfl (hedge [2] (by simp) 2 (by simp))
      have hz2 : y2 = (Value.pointer (some ⟨g1, o1 + kk * 34, none⟩)) := hz2
      rw [hz2] at hy2
      have b100 := eval_get hy2
      rw [hl] at ho
      injection ho with ho
      subst ho
      exact wpOp_value ho' rfl (v := (Value.pointer (some ⟨g1, o1 + kk * 34, none⟩))) (w' := w) (by go_simp) ⟨_, rfl, Below.refl _ _, rfl⟩
    · obtain ⟨y3, hy3, hz3⟩ := hval 3 _ 101 (by omega) (by rw [hl]; rfl) rfl (hedge [3] (by simp) 3 (by simp))
      have hz3 : y3 = (Value.pointer (some ⟨g1, o1 + kk * 34, none⟩)) := hz3
      rw [hz3] at hy3
      have b101 := eval_get hy3
      rw [hl] at ho
      injection ho with ho
      subst ho
      exact wpOp_load ho' rfl rfl b101 (h4 w hb) ⟨_, rfl, Below.refl _ _, rfl⟩
    · have b14 := eval_get ((hold 14 (by rw [hl]; rfl)).trans k14)
      rw [hl] at ho
      injection ho with ho
      subst ho
      exact wpOp_value ho' rfl (v := (Value.slice (some ⟨g0, o0, none⟩) n c0)) (w' := w) (by go_simp) ⟨_, rfl, Below.refl _ _, rfl⟩
    · have b20 := eval_get ((hold 20 (by rw [hl]; rfl)).trans k20)
      rw [hl] at ho
      injection ho with ho
      subst ho
      exact wpOp_value ho' rfl (v := (Value.int .i64 (kk : Int))) (w' := w) (by go_simp) ⟨_, rfl, Below.refl _ _, rfl⟩
    · obtain ⟨y5, hy5, hz5⟩ := hval 5 _ 103 (by omega) (by rw [hl]; rfl) rfl (hedge [5, 6] (by simp) 5 (by simp))
      have hz5 : y5 = (Value.slice (some ⟨g0, o0, none⟩) n c0) := hz5
      rw [hz5] at hy5
      have b103 := eval_get hy5
      obtain ⟨y6, hy6, hz6⟩ := hval 6 _ 104 (by omega) (by rw [hl]; rfl) rfl (hedge [5, 6] (by simp) 6 (by simp))
      have hz6 : y6 = (Value.int .i64 (kk : Int)) := hz6
      rw [hz6] at hy6
      have b104 := eval_get hy6
      rw [hl] at ho
      injection ho with ho
      subst ho
      exact wpOp_value ho' rfl (v := (Value.pointer (some ⟨g0, o0 + kk * 34, none⟩))) (w' := w) (by go_simp) ⟨_, rfl, Below.refl _ _, rfl⟩
    · obtain ⟨y7, hy7, hz7⟩ := hval 7 _ 105 (by omega) (by rw [hl]; rfl) rfl (hedge [7] (by simp) 7 (by simp))
      have hz7 : y7 = (Value.pointer (some ⟨g0, o0 + kk * 34, none⟩)) := hz7
      rw [hz7] at hy7
      have b105 := eval_get hy7
      rw [hl] at ho
      injection ho with ho
      subst ho
      exact wpOp_value ho' rfl (v := (Value.pointer (some ⟨g0, o0 + kk * 34, none⟩))) (w' := w) (by go_simp) ⟨_, rfl, Below.refl _ _, rfl⟩
    · obtain ⟨y8, hy8, hz8⟩ := hval 8 _ 106 (by omega) (by rw [hl]; rfl) rfl (hedge [8] (by simp) 8 (by simp))
      have hz8 : y8 = (Value.pointer (some ⟨g0, o0 + kk * 34, none⟩)) := hz8
      rw [hz8] at hy8
      have b106 := eval_get hy8
      rw [hl] at ho
      injection ho with ho
      subst ho
      exact wpOp_load ho' rfl rfl b106 (h9 w hb) ⟨_, rfl, Below.refl _ _, rfl⟩
    · obtain ⟨y4, hy4, hz4⟩ := hval 4 _ 102 (by omega) (by rw [hl]; rfl) rfl (hedge [4, 9] (by simp) 4 (by simp))
      have hz4 : y4 = (f1.val) := hz4
      rw [hz4] at hy4
      have b102 := eval_get hy4
      obtain ⟨y9, hy9, hz9⟩ := hval 9 _ 107 (by omega) (by rw [hl]; rfl) rfl (hedge [4, 9] (by simp) 9 (by simp))
      have hz9 : y9 = (f0.val) := hz9
      rw [hz9] at hy9
      have b107 := eval_get hy9
      rw [hl] at ho
      injection ho with ho
      subst ho
      refine wpOp_call ho' rfl rfl (args := #[f1.val, f0.val]) (by simp [b102, b107]) (cf17 _ _) ((h10 w  hb ).mono ?_)
      rintro e w' ⟨rfl, hb2⟩
      exact ⟨_, rfl, _, rfl, hb2, rfl⟩
    · obtain ⟨y10, hy10, hz10⟩ := hval 10 _ 108 (by omega) (by rw [hl]; rfl) rfl (hedge [10] (by simp) 10 (by simp))
      have hz10 : y10 = (Value.tuple #[r1.1.val, .int .i64 r1.2]) := hz10
      rw [hz10] at hy10
      have b108 := eval_get hy10
      rw [hl] at ho
      injection ho with ho
      subst ho
      exact wpOp_value ho' rfl (v := (r1.1.val)) (w' := w) (by go_simp) ⟨_, rfl, Below.refl _ _, rfl⟩
    · obtain ⟨y10, hy10, hz10⟩ := hval 10 _ 108 (by omega) (by rw [hl]; rfl) rfl (hedge [10] (by simp) 10 (by simp))
      have hz10 : y10 = (Value.tuple #[r1.1.val, .int .i64 r1.2]) := hz10
      rw [hz10] at hy10
      have b108 := eval_get hy10
      rw [hl] at ho
      injection ho with ho
      subst ho
      exact wpOp_value ho' rfl (v := (Value.int .i64 r1.2)) (w' := w) (by go_simp) ⟨_, rfl, Below.refl _ _, rfl⟩
    · obtain ⟨y11, hy11, hz11⟩ := hval 11 _ 109 (by omega) (by rw [hl]; rfl) rfl (hedge [11, 12] (by simp) 11 (by simp))
      have hz11 : y11 = (r1.1.val) := hz11
      rw [hz11] at hy11
      have b109 := eval_get hy11
      obtain ⟨y12, hy12, hz12⟩ := hval 12 _ 110 (by omega) (by rw [hl]; rfl) rfl (hedge [11, 12] (by simp) 12 (by simp))
      have hz12 : y12 = (Value.int .i64 r1.2) := hz12
      rw [hz12] at hy12
      have b110 := eval_get hy12
      rw [hl] at ho
      injection ho with ho
      subst ho
      refine wpOp_call ho' rfl rfl (args := #[r1.1.val, Value.int .i64 r1.2]) (by simp [b109, b110]) (cf15 _ _) ((h13 w  hb ).mono ?_)
      rintro e w' ⟨rfl, hb2⟩
      exact ⟨_, rfl, _, rfl, hb2, rfl⟩
    · have b16 := eval_get ((hold 16 (by rw [hl]; rfl)).trans k16)
      rw [hl] at ho
      injection ho with ho
      subst ho
      exact wpOp_value ho' rfl (v := (Value.slice (some ⟨g2, o2, none⟩) n c2)) (w' := w) (by go_simp) ⟨_, rfl, Below.refl _ _, rfl⟩
    · have b20 := eval_get ((hold 20 (by rw [hl]; rfl)).trans k20)
      rw [hl] at ho
      injection ho with ho
      subst ho
      exact wpOp_value ho' rfl (v := (Value.int .i64 (kk : Int))) (w' := w) (by go_simp) ⟨_, rfl, Below.refl _ _, rfl⟩
    · obtain ⟨y14, hy14, hz14⟩ := hval 14 _ 112 (by omega) (by rw [hl]; rfl) rfl (hedge [14, 15] (by simp) 14 (by simp))
      have hz14 : y14 = (Value.slice (some ⟨g2, o2, none⟩) n c2) := hz14
      rw [hz14] at hy14
      have b112 := eval_get hy14
      obtain ⟨y15, hy15, hz15⟩ := hval 15 _ 113 (by omega) (by rw [hl]; rfl) rfl (hedge [14, 15] (by simp) 15 (by simp))
      have hz15 : y15 = (Value.int .i64 (kk : Int)) := hz15
      rw [hz15] at hy15
      have b113 := eval_get hy15
      rw [hl] at ho
      injection ho with ho
      subst ho
      exact wpOp_value ho' rfl (v := (Value.pointer (some ⟨g2, o2 + kk * 34, none⟩))) (w' := w) (by go_simp) ⟨_, rfl, Below.refl _ _, rfl⟩
    · obtain ⟨y16, hy16, hz16⟩ := hval 16 _ 114 (by omega) (by rw [hl]; rfl) rfl (hedge [16] (by simp) 16 (by simp))
      have hz16 : y16 = (Value.pointer (some ⟨g2, o2 + kk * 34, none⟩)) := hz16
      rw [hz16] at hy16
      have b114 := eval_get hy16
      rw [hl] at ho
      injection ho with ho
      subst ho
      exact wpOp_value ho' rfl (v := (Value.pointer (some ⟨g2, o2 + kk * 34, none⟩))) (w' := w) (by go_simp) ⟨_, rfl, Below.refl _ _, rfl⟩
    · obtain ⟨y17, hy17, hz17⟩ := hval 17 _ 115 (by omega) (by rw [hl]; rfl) rfl (hedge [17] (by simp) 17 (by simp))
      have hz17 : y17 = (Value.pointer (some ⟨g2, o2 + kk * 34, none⟩)) := hz17
      rw [hz17] at hy17
      have b115 := eval_get hy17
      rw [hl] at ho
      injection ho with ho
      subst ho
      exact wpOp_load ho' rfl rfl b115 (h18 w hb) ⟨_, rfl, Below.refl _ _, rfl⟩
    · have b18 := eval_get ((hold 18 (by rw [hl]; rfl)).trans k18)
      rw [hl] at ho
      injection ho with ho
      subst ho
      exact wpOp_value ho' rfl (v := (Value.slice (some ⟨g3, o3, none⟩) n c3)) (w' := w) (by go_simp) ⟨_, rfl, Below.refl _ _, rfl⟩
    · have b20 := eval_get ((hold 20 (by rw [hl]; rfl)).trans k20)
      rw [hl] at ho
      injection ho with ho
      subst ho
      exact wpOp_value ho' rfl (v := (Value.int .i64 (kk : Int))) (w' := w) (by go_simp) ⟨_, rfl, Below.refl _ _, rfl⟩
    · obtain ⟨y19, hy19, hz19⟩ := hval 19 _ 117 (by omega) (by rw [hl]; rfl) rfl (hedge [19, 20] (by simp) 19 (by simp))
      have hz19 : y19 = (Value.slice (some ⟨g3, o3, none⟩) n c3) := hz19
      rw [hz19] at hy19
      have b117 := eval_get hy19
      obtain ⟨y20, hy20, hz20⟩ := hval 20 _ 118 (by omega) (by rw [hl]; rfl) rfl (hedge [19, 20] (by simp) 20 (by simp))
      have hz20 : y20 = (Value.int .i64 (kk : Int)) := hz20
      rw [hz20] at hy20
      have b118 := eval_get hy20
      rw [hl] at ho
      injection ho with ho
      subst ho
      exact wpOp_value ho' rfl (v := (Value.pointer (some ⟨g3, o3 + kk * 34, none⟩))) (w' := w) (by go_simp) ⟨_, rfl, Below.refl _ _, rfl⟩
    · obtain ⟨y21, hy21, hz21⟩ := hval 21 _ 119 (by omega) (by rw [hl]; rfl) rfl (hedge [21] (by simp) 21 (by simp))
      have hz21 : y21 = (Value.pointer (some ⟨g3, o3 + kk * 34, none⟩)) := hz21
      rw [hz21] at hy21
      have b119 := eval_get hy21
      rw [hl] at ho
      injection ho with ho
      subst ho
      exact wpOp_value ho' rfl (v := (Value.pointer (some ⟨g3, o3 + kk * 34, none⟩))) (w' := w) (by go_simp) ⟨_, rfl, Below.refl _ _, rfl⟩
    · obtain ⟨y22, hy22, hz22⟩ := hval 22 _ 120 (by omega) (by rw [hl]; rfl) rfl (hedge [22] (by simp) 22 (by simp))
      have hz22 : y22 = (Value.pointer (some ⟨g3, o3 + kk * 34, none⟩)) := hz22
      rw [hz22] at hy22
      have b120 := eval_get hy22
      rw [hl] at ho
      injection ho with ho
      subst ho
      exact wpOp_load ho' rfl rfl b120 (h23 w hb) ⟨_, rfl, Below.refl _ _, rfl⟩
    · obtain ⟨y18, hy18, hz18⟩ := hval 18 _ 116 (by omega) (by rw [hl]; rfl) rfl (hedge [18, 23] (by simp) 18 (by simp))
      have hz18 : y18 = (f2.val) := hz18
      rw [hz18] at hy18
      have b116 := eval_get hy18
      obtain ⟨y23, hy23, hz23⟩ := hval 23 _ 121 (by omega) (by rw [hl]; rfl) rfl (hedge [18, 23] (by simp) 23 (by simp))
      have hz23 : y23 = (f3.val) := hz23
      rw [hz23] at hy23
      have b121 := eval_get hy23
      rw [hl] at ho
      injection ho with ho
      subst ho
      refine wpOp_call ho' rfl rfl (args := #[f2.val, f3.val]) (by simp [b116, b121]) (cf17 _ _) ((h24 w  hb ).mono ?_)
      rintro e w' ⟨rfl, hb2⟩
      exact ⟨_, rfl, _, rfl, hb2, rfl⟩
    · obtain ⟨y24, hy24, hz24⟩ := hval 24 _ 122 (by omega) (by rw [hl]; rfl) rfl (hedge [24] (by simp) 24 (by simp))
      have hz24 : y24 = (Value.tuple #[r2.1.val, .int .i64 r2.2]) := hz24
      rw [hz24] at hy24
      have b122 := eval_get hy24
      rw [hl] at ho
      injection ho with ho
      subst ho
      exact wpOp_value ho' rfl (v := (r2.1.val)) (w' := w) (by go_simp) ⟨_, rfl, Below.refl _ _, rfl⟩
    · obtain ⟨y24, hy24, hz24⟩ := hval 24 _ 122 (by omega) (by rw [hl]; rfl) rfl (hedge [24] (by simp) 24 (by simp))
      have hz24 : y24 = (Value.tuple #[r2.1.val, .int .i64 r2.2]) := hz24
      rw [hz24] at hy24
      have b122 := eval_get hy24
      rw [hl] at ho
      injection ho with ho
      subst ho
      exact wpOp_value ho' rfl (v := (Value.int .i64 r2.2)) (w' := w) (by go_simp) ⟨_, rfl, Below.refl _ _, rfl⟩
    · obtain ⟨y25, hy25, hz25⟩ := hval 25 _ 123 (by omega) (by rw [hl]; rfl) rfl (hedge [25, 26] (by simp) 25 (by simp))
      have hz25 : y25 = (r2.1.val) := hz25
      rw [hz25] at hy25
      have b123 := eval_get hy25
      obtain ⟨y26, hy26, hz26⟩ := hval 26 _ 124 (by omega) (by rw [hl]; rfl) rfl (hedge [25, 26] (by simp) 26 (by simp))
      have hz26 : y26 = (Value.int .i64 r2.2) := hz26
      rw [hz26] at hy26
      have b124 := eval_get hy26
      rw [hl] at ho
      injection ho with ho
      subst ho
      refine wpOp_call ho' rfl rfl (args := #[r2.1.val, Value.int .i64 r2.2]) (by simp [b123, b124]) (cf15 _ _) ((h27 w  hb ).mono ?_)
      rintro e w' ⟨rfl, hb2⟩
      exact ⟨_, rfl, _, rfl, hb2, rfl⟩
    · obtain ⟨y13, hy13, hz13⟩ := hval 13 _ 111 (by omega) (by rw [hl]; rfl) rfl (hedge [13, 27] (by simp) 13 (by simp))
      have hz13 : y13 = (r1.1.val) := hz13
      rw [hz13] at hy13
      have b111 := eval_get hy13
      obtain ⟨y27, hy27, hz27⟩ := hval 27 _ 125 (by omega) (by rw [hl]; rfl) rfl (hedge [13, 27] (by simp) 27 (by simp))
      have hz27 : y27 = (r2.1.val) := hz27
      rw [hz27] at hy27
      have b125 := eval_get hy27
      rw [hl] at ho
      injection ho with ho
      subst ho
      exact wpOp_value ho' rfl (h28 a w b111 b125) ⟨_, rfl, Below.refl _ _, rfl⟩
    · obtain ⟨y28, hy28, hz28⟩ := hval 28 _ 126 (by omega) (by rw [hl]; rfl) rfl (hedge [28] (by simp) 28 (by simp))
      have hz28 : y28 = (Value.bool true) := hz28
      rw [hz28] at hy28
      have b126 := eval_get hy28
      rw [hl] at ho
      injection ho with ho
      subst ho
      exact wpOp_value ho' rfl (v := (Value.bool true)) (w' := w) (by go_simp) ⟨_, rfl, Below.refl _ _, rfl⟩
  · intro val w hb hrows
    have q0 : val 0 = (Value.slice (some ⟨g1, o1, none⟩) n c1) := hrows 0 (by omega)
    have q1 : val 1 = (Value.int .i64 (kk : Int)) := hrows 1 (by omega)
    have q2 : val 2 = (Value.pointer (some ⟨g1, o1 + kk * 34, none⟩)) := hrows 2 (by omega)
    have q3 : val 3 = (Value.pointer (some ⟨g1, o1 + kk * 34, none⟩)) := hrows 3 (by omega)
    have q4 : val 4 = (f1.val) := hrows 4 (by omega)
    have q5 : val 5 = (Value.slice (some ⟨g0, o0, none⟩) n c0) := hrows 5 (by omega)
    have q6 : val 6 = (Value.int .i64 (kk : Int)) := hrows 6 (by omega)
    have q7 : val 7 = (Value.pointer (some ⟨g0, o0 + kk * 34, none⟩)) := hrows 7 (by omega)
    have q8 : val 8 = (Value.pointer (some ⟨g0, o0 + kk * 34, none⟩)) := hrows 8 (by omega)
    have q9 : val 9 = (f0.val) := hrows 9 (by omega)
    have q10 : val 10 = (Value.tuple #[r1.1.val, .int .i64 r1.2]) := hrows 10 (by omega)
    have q11 : val 11 = (r1.1.val) := hrows 11 (by omega)
    have q12 : val 12 = (Value.int .i64 r1.2) := hrows 12 (by omega)
    have q13 : val 13 = (r1.1.val) := hrows 13 (by omega)
    have q14 : val 14 = (Value.slice (some ⟨g2, o2, none⟩) n c2) := hrows 14 (by omega)
    have q15 : val 15 = (Value.int .i64 (kk : Int)) := hrows 15 (by omega)
    have q16 : val 16 = (Value.pointer (some ⟨g2, o2 + kk * 34, none⟩)) := hrows 16 (by omega)
    have q17 : val 17 = (Value.pointer (some ⟨g2, o2 + kk * 34, none⟩)) := hrows 17 (by omega)
    have q18 : val 18 = (f2.val) := hrows 18 (by omega)
    have q19 : val 19 = (Value.slice (some ⟨g3, o3, none⟩) n c3) := hrows 19 (by omega)
    have q20 : val 20 = (Value.int .i64 (kk : Int)) := hrows 20 (by omega)
    have q21 : val 21 = (Value.pointer (some ⟨g3, o3 + kk * 34, none⟩)) := hrows 21 (by omega)
    have q22 : val 22 = (Value.pointer (some ⟨g3, o3 + kk * 34, none⟩)) := hrows 22 (by omega)
    have q23 : val 23 = (f3.val) := hrows 23 (by omega)
    have q24 : val 24 = (Value.tuple #[r2.1.val, .int .i64 r2.2]) := hrows 24 (by omega)
    have q25 : val 25 = (r2.1.val) := hrows 25 (by omega)
    have q26 : val 26 = (Value.int .i64 r2.2) := hrows 26 (by omega)
    have q27 : val 27 = (r2.1.val) := hrows 27 (by omega)
    have q28 : val 28 = (Value.bool true) := hrows 28 (by omega)
    have q29 : val 29 = (Value.bool true) := hrows 29 (by omega)
    have hF := hK  w hb 
    subst hl
    simp only [List.take_succ_cons, List.take_zero, putAll, Nat.zero_add, Nat.reduceAdd, q0, q1, q2, q3, q4, q5, q6, q7, q8, q9, q10, q11, q12, q13, q14, q15, q16, q17, q18, q19, q20, q21, q22, q23, q24, q25, q26, q27, q28, q29]
    exact hF

set_option maxRecDepth 100000 in
set_option maxHeartbeats 4000000 in
theorem region_addsB {id : Nat} {Q : Exit → Act → World → Prop} {a0 : Act} {w0 : World} {l : List Oper} {n kk g1 o1 c1 g0 o0 c0 g2 o2 c2 g3 o3 c3 : Nat} {f1 f0 f2 f3 : FracV} {r1 r2 : FracV × Int} (hk : (kk : Int) < (n : Int))
    {t0 t1 t2 t3 t4 t5 t6 t7 t8 t9 t10 t11 t12 t13 t14 t15 t16 t17 t18 t19 t20 t21 t22 t23 t24 t25 t26 t27 t28 t29 : TypeId} {x0 x1 x2 x3 x4 x5 x6 x7 x8 x9 x10 x11 x12 x13 x14 x15 x16 x17 x18 x19 x20 x21 x22 x23 x24 x25 x26 x27 x28 x29 : String} {e0 e1 e2 e3 e4 e5 e6 e7 e8 e9 e10 e11 e12 e13 e14 e15 e16 e17 e18 e19 e20 e21 e22 e23 e24 e25 e26 e27 e28 e29 : Array Edge}
    (hl : l = [⟨some 127, .move (.tmp 10), t0, x0, e0, none⟩,
      ⟨some 128, .move (.tmp 20), t1, x1, e1, none⟩,
      ⟨some 129, .indexAddr 26 (.tmp 127) (.tmp 128), t2, x2, e2, none⟩,
      ⟨some 130, .fieldAddr 40 (.tmp 129) 1, t3, x3, e3, none⟩,
      ⟨some 131, .load 37 (.tmp 130), t4, x4, e4, none⟩,
      ⟨some 132, .move (.tmp 14), t5, x5, e5, none⟩,
      ⟨some 133, .move (.tmp 20), t6, x6, e6, none⟩,
      ⟨some 134, .indexAddr 26 (.tmp 132) (.tmp 133), t7, x7, e7, none⟩,
      ⟨some 135, .fieldAddr 40 (.tmp 134) 1, t8, x8, e8, none⟩,
      ⟨some 136, .load 37 (.tmp 135), t9, x9, e9, none⟩,
      ⟨some 137, .call { callee := .value (.func 17), args := #[.tmp 131, .tmp 136], argTypes := #[37, 37] }, t10, x10, e10, none⟩,
      ⟨some 138, .extract (.tmp 137) 0, t11, x11, e11, none⟩,
      ⟨some 139, .extract (.tmp 137) 1, t12, x12, e12, none⟩,
      ⟨some 140, .call { callee := .value (.func 15), args := #[.tmp 138, .tmp 139], argTypes := #[37, 31] }, t13, x13, e13, none⟩,
      ⟨some 141, .move (.tmp 16), t14, x14, e14, none⟩,
      ⟨some 142, .move (.tmp 20), t15, x15, e15, none⟩,
      ⟨some 143, .indexAddr 26 (.tmp 141) (.tmp 142), t16, x16, e16, none⟩,
      ⟨some 144, .fieldAddr 40 (.tmp 143) 1, t17, x17, e17, none⟩,
      ⟨some 145, .load 37 (.tmp 144), t18, x18, e18, none⟩,
      ⟨some 146, .move (.tmp 18), t19, x19, e19, none⟩,
      ⟨some 147, .move (.tmp 20), t20, x20, e20, none⟩,
      ⟨some 148, .indexAddr 26 (.tmp 146) (.tmp 147), t21, x21, e21, none⟩,
      ⟨some 149, .fieldAddr 40 (.tmp 148) 1, t22, x22, e22, none⟩,
      ⟨some 150, .load 37 (.tmp 149), t23, x23, e23, none⟩,
      ⟨some 151, .call { callee := .value (.func 17), args := #[.tmp 145, .tmp 150], argTypes := #[37, 37] }, t24, x24, e24, none⟩,
      ⟨some 152, .extract (.tmp 151) 0, t25, x25, e25, none⟩,
      ⟨some 153, .extract (.tmp 151) 1, t26, x26, e26, none⟩,
      ⟨some 154, .call { callee := .value (.func 15), args := #[.tmp 152, .tmp 153], argTypes := #[37, 31] }, t27, x27, e27, none⟩,
      ⟨some 155, .binOp .eql 37 (.tmp 140) (.tmp 154) 37, t28, x28, e28, none⟩,
      ⟨some 22, .assign (.tmp 155), t29, x29, e29, none⟩])
    (hO : orderB l 30 = true) (hd : dstsB l 30 a0.tmps.size = true) (hpre : preB l.toArray [(2, [0, 1]), (3, [2]), (4, [3]), (7, [5, 6]), (8, [7]), (9, [8]), (10, [4, 9]), (11, [10]), (12, [10]), (13, [11, 12]), (16, [14, 15]), (17, [16]), (18, [17]), (21, [19, 20]), (22, [21]), (23, [22]), (24, [18, 23]), (25, [24]), (26, [24]), (27, [25, 26]), (28, [13, 27]), (29, [28])] = true)
     (k10 : a0.tmps[10]? = some (Value.slice (some ⟨g1, o1, none⟩) n c1)) (k14 : a0.tmps[14]? = some (Value.slice (some ⟨g0, o0, none⟩) n c0)) (k16 : a0.tmps[16]? = some (Value.slice (some ⟨g2, o2, none⟩) n c2)) (k18 : a0.tmps[18]? = some (Value.slice (some ⟨g3, o3, none⟩) n c3)) (k20 : a0.tmps[20]? = some (Value.int .i64 (kk : Int)))
    (h4 : ∀ w, From w0 w → (loadVar 37 ⟨g1, o1 + kk * 34 + 17, none⟩).run Try.prog w = .ok f1.val w)
    (h9 : ∀ w, From w0 w → (loadVar 37 ⟨g0, o0 + kk * 34 + 17, none⟩).run Try.prog w = .ok f0.val w)
    (h10 : ∀ w , From w0 w → Calls Try.prog 17 #[f1.val, f0.val] w fun e w' => e = .returned (Value.tuple #[r1.1.val, .int .i64 r1.2]) ∧ From w w')
    (h13 : ∀ w , From w0 w → Calls Try.prog 15 #[r1.1.val, Value.int .i64 r1.2] w fun e w' => e = .returned (r1.1.val) ∧ From w w')
    (h18 : ∀ w, From w0 w → (loadVar 37 ⟨g2, o2 + kk * 34 + 17, none⟩).run Try.prog w = .ok f2.val w)
    (h23 : ∀ w, From w0 w → (loadVar 37 ⟨g3, o3 + kk * 34 + 17, none⟩).run Try.prog w = .ok f3.val w)
    (h24 : ∀ w , From w0 w → Calls Try.prog 17 #[f2.val, f3.val] w fun e w' => e = .returned (Value.tuple #[r2.1.val, .int .i64 r2.2]) ∧ From w w')
    (h27 : ∀ w , From w0 w → Calls Try.prog 15 #[r2.1.val, Value.int .i64 r2.2] w fun e w' => e = .returned (r2.1.val) ∧ From w w')
    (h28 : ∀ (a : Act) (w : World), a.eval (.tmp 140) = (r1.1.val) → a.eval (.tmp 154) = (r2.1.val) → (execOp a.eval ⟨some 155, .binOp .eql 37 (.tmp 140) (.tmp 154) 37, t28, x28, e28, none⟩).run Try.prog w = .ok (.value (Value.bool true)) w)
    (hK : ∀  w, From w0 w → wpList Try.prog l.toArray Q (l.drop 30) ((((((((((((((((((((((((((((((a0.put (some 127) (Value.slice (some ⟨g1, o1, none⟩) n c1)).put (some 128) (Value.int .i64 (kk : Int))).put (some 129) (Value.pointer (some ⟨g1, o1 + kk * 34, none⟩))).put (some 130) (Value.pointer (some ⟨g1, o1 + kk * 34 + 17, none⟩))).put (some 131) (f1.val)).put (some 132) (Value.slice (some ⟨g0, o0, none⟩) n c0)).put (some 133) (Value.int .i64 (kk : Int))).put (some 134) (Value.pointer (some ⟨g0, o0 + kk * 34, none⟩))).put (some 135) (Value.pointer (some ⟨g0, o0 + kk * 34 + 17, none⟩))).put (some 136) (f0.val)).put (some 137) (Value.tuple #[r1.1.val, .int .i64 r1.2])).put (some 138) (r1.1.val)).put (some 139) (Value.int .i64 r1.2)).put (some 140) (r1.1.val)).put (some 141) (Value.slice (some ⟨g2, o2, none⟩) n c2)).put (some 142) (Value.int .i64 (kk : Int))).put (some 143) (Value.pointer (some ⟨g2, o2 + kk * 34, none⟩))).put (some 144) (Value.pointer (some ⟨g2, o2 + kk * 34 + 17, none⟩))).put (some 145) (f2.val)).put (some 146) (Value.slice (some ⟨g3, o3, none⟩) n c3)).put (some 147) (Value.int .i64 (kk : Int))).put (some 148) (Value.pointer (some ⟨g3, o3 + kk * 34, none⟩))).put (some 149) (Value.pointer (some ⟨g3, o3 + kk * 34 + 17, none⟩))).put (some 150) (f3.val)).put (some 151) (Value.tuple #[r2.1.val, .int .i64 r2.2])).put (some 152) (r2.1.val)).put (some 153) (Value.int .i64 r2.2)).put (some 154) (r2.1.val)).put (some 155) (Value.bool true)).put (some 22) (Value.bool true)) w) :
    (Code.region id l.toArray true).wp Try.prog Q a0 w0 := by
  have hlen : l.length = 30 := by rw [hl]; rfl
  have hpz := List.all_eq_true.1 hpre
  refine wp_region_keep 30 (fun i v w => match i with
    | 0 => v = (Value.slice (some ⟨g1, o1, none⟩) n c1)
    | 1 => v = (Value.int .i64 (kk : Int))
    | 2 => v = (Value.pointer (some ⟨g1, o1 + kk * 34, none⟩))
    | 3 => v = (Value.pointer (some ⟨g1, o1 + kk * 34 + 17, none⟩))
    | 4 => v = (f1.val)
    | 5 => v = (Value.slice (some ⟨g0, o0, none⟩) n c0)
    | 6 => v = (Value.int .i64 (kk : Int))
    | 7 => v = (Value.pointer (some ⟨g0, o0 + kk * 34, none⟩))
    | 8 => v = (Value.pointer (some ⟨g0, o0 + kk * 34 + 17, none⟩))
    | 9 => v = (f0.val)
    | 10 => v = (Value.tuple #[r1.1.val, .int .i64 r1.2])
    | 11 => v = (r1.1.val)
    | 12 => v = (Value.int .i64 r1.2)
    | 13 => v = (r1.1.val)
    | 14 => v = (Value.slice (some ⟨g2, o2, none⟩) n c2)
    | 15 => v = (Value.int .i64 (kk : Int))
    | 16 => v = (Value.pointer (some ⟨g2, o2 + kk * 34, none⟩))
    | 17 => v = (Value.pointer (some ⟨g2, o2 + kk * 34 + 17, none⟩))
    | 18 => v = (f2.val)
    | 19 => v = (Value.slice (some ⟨g3, o3, none⟩) n c3)
    | 20 => v = (Value.int .i64 (kk : Int))
    | 21 => v = (Value.pointer (some ⟨g3, o3 + kk * 34, none⟩))
    | 22 => v = (Value.pointer (some ⟨g3, o3 + kk * 34 + 17, none⟩))
    | 23 => v = (f3.val)
    | 24 => v = (Value.tuple #[r2.1.val, .int .i64 r2.2])
    | 25 => v = (r2.1.val)
    | 26 => v = (Value.int .i64 r2.2)
    | 27 => v = (r2.1.val)
    | 28 => v = (Value.bool true)
    | 29 => v = (Value.bool true)
    | _ => True) ?_ (by kernel_rfl) hO (by omega) hd ?_ ?_
  · intro i v w w' h hb
    match i, h with
    | 0, h => exact h
    | 1, h => exact h
    | 2, h => exact h
    | 3, h => exact h
    | 4, h => exact h
    | 5, h => exact h
    | 6, h => exact h
    | 7, h => exact h
    | 8, h => exact h
    | 9, h => exact h
    | 10, h => exact h
    | 11, h => exact h
    | 12, h => exact h
    | 13, h => exact h
    | 14, h => exact h
    | 15, h => exact h
    | 16, h => exact h
    | 17, h => exact h
    | 18, h => exact h
    | 19, h => exact h
    | 20, h => exact h
    | 21, h => exact h
    | 22, h => exact h
    | 23, h => exact h
    | 24, h => exact h
    | 25, h => exact h
    | 26, h => exact h
    | 27, h => exact h
    | 28, h => exact h
    | 29, h => exact h
    | _ + 30, _ => trivial
  · intro i o hi ho a w hb hval hold
    have ho' : l.toArray[i]? = some o := by simpa using ho
    have hedge : ∀ js, (i, js) ∈ ([(2, [0, 1]), (3, [2]), (4, [3]), (7, [5, 6]), (8, [7]), (9, [8]), (10, [4, 9]), (11, [10]), (12, [10]), (13, [11, 12]), (16, [14, 15]), (17, [16]), (18, [17]), (21, [19, 20]), (22, [21]), (23, [22]), (24, [18, 23]), (25, [24]), (26, [24]), (27, [25, 26]), (28, [13, 27]), (29, [28])] : List (Nat × List Nat)) → ∀ j ∈ js, (o.after.any fun e => Region.binds .any e && e.on == j) = true := fun js hm j hj => by
      have h1 := List.all_eq_true.1 (hpz _ hm) j hj
      rw [ho'] at h1
      simpa using h1
    have hcase : i = 0 ∨ i = 1 ∨ i = 2 ∨ i = 3 ∨ i = 4 ∨ i = 5 ∨ i = 6 ∨ i = 7 ∨ i = 8 ∨ i = 9 ∨ i = 10 ∨ i = 11 ∨ i = 12 ∨ i = 13 ∨ i = 14 ∨ i = 15 ∨ i = 16 ∨ i = 17 ∨ i = 18 ∨ i = 19 ∨ i = 20 ∨ i = 21 ∨ i = 22 ∨ i = 23 ∨ i = 24 ∨ i = 25 ∨ i = 26 ∨ i = 27 ∨ i = 28 ∨ i = 29 := by omega
    rcases hcase with rfl | rfl | rfl | rfl | rfl | rfl | rfl | rfl | rfl | rfl | rfl | rfl | rfl | rfl | rfl | rfl | rfl | rfl | rfl | rfl | rfl | rfl | rfl | rfl | rfl | rfl | rfl | rfl | rfl | rfl
    · have b10 := eval_get ((hold 10 (by rw [hl]; rfl)).trans k10)
      rw [hl] at ho
      injection ho with ho
      subst ho
      exact wpOp_value ho' rfl (v := (Value.slice (some ⟨g1, o1, none⟩) n c1)) (w' := w) (by go_simp) ⟨_, rfl, Below.refl _ _, rfl⟩
    · have b20 := eval_get ((hold 20 (by rw [hl]; rfl)).trans k20)
      rw [hl] at ho
      injection ho with ho
      subst ho
      exact wpOp_value ho' rfl (v := (Value.int .i64 (kk : Int))) (w' := w) (by go_simp) ⟨_, rfl, Below.refl _ _, rfl⟩
    · obtain ⟨y0, hy0, hz0⟩ := hval 0 _ 127 (by omega) (by rw [hl]; rfl) rfl (hedge [0, 1] (by simp) 0 (by simp))
      have hz0 : y0 = (Value.slice (some ⟨g1, o1, none⟩) n c1) := hz0
      rw [hz0] at hy0
      have b127 := eval_get hy0
      obtain ⟨y1, hy1, hz1⟩ := hval 1 _ 128 (by omega) (by rw [hl]; rfl) rfl (hedge [0, 1] (by simp) 1 (by simp))
      have hz1 : y1 = (Value.int .i64 (kk : Int)) := hz1
      rw [hz1] at hy1
      have b128 := eval_get hy1
      rw [hl] at ho
      injection ho with ho
      subst ho
      exact wpOp_value ho' rfl (v := (Value.pointer (some ⟨g1, o1 + kk * 34, none⟩))) (w' := w) (by go_simp) ⟨_, rfl, Below.refl _ _, rfl⟩
    · obtain ⟨y2, hy2, hz2⟩ := hval 2 _ 129 (by omega) (by rw [hl]; rfl) rfl (hedge [2] (by simp) 2 (by simp))
      have hz2 : y2 = (Value.pointer (some ⟨g1, o1 + kk * 34, none⟩)) := hz2
      rw [hz2] at hy2
      have b129 := eval_get hy2
      rw [hl] at ho
      injection ho with ho
      subst ho
      exact wpOp_value ho' rfl (v := (Value.pointer (some ⟨g1, o1 + kk * 34 + 17, none⟩))) (w' := w) (by go_simp) ⟨_, rfl, Below.refl _ _, rfl⟩
    · obtain ⟨y3, hy3, hz3⟩ := hval 3 _ 130 (by omega) (by rw [hl]; rfl) rfl (hedge [3] (by simp) 3 (by simp))
      have hz3 : y3 = (Value.pointer (some ⟨g1, o1 + kk * 34 + 17, none⟩)) := hz3
      rw [hz3] at hy3
      have b130 := eval_get hy3
      rw [hl] at ho
      injection ho with ho
      subst ho
      exact wpOp_load ho' rfl rfl b130 (h4 w hb) ⟨_, rfl, Below.refl _ _, rfl⟩
    · have b14 := eval_get ((hold 14 (by rw [hl]; rfl)).trans k14)
      rw [hl] at ho
      injection ho with ho
      subst ho
      exact wpOp_value ho' rfl (v := (Value.slice (some ⟨g0, o0, none⟩) n c0)) (w' := w) (by go_simp) ⟨_, rfl, Below.refl _ _, rfl⟩
    · have b20 := eval_get ((hold 20 (by rw [hl]; rfl)).trans k20)
      rw [hl] at ho
      injection ho with ho
      subst ho
      exact wpOp_value ho' rfl (v := (Value.int .i64 (kk : Int))) (w' := w) (by go_simp) ⟨_, rfl, Below.refl _ _, rfl⟩
    · obtain ⟨y5, hy5, hz5⟩ := hval 5 _ 132 (by omega) (by rw [hl]; rfl) rfl (hedge [5, 6] (by simp) 5 (by simp))
      have hz5 : y5 = (Value.slice (some ⟨g0, o0, none⟩) n c0) := hz5
      rw [hz5] at hy5
      have b132 := eval_get hy5
      obtain ⟨y6, hy6, hz6⟩ := hval 6 _ 133 (by omega) (by rw [hl]; rfl) rfl (hedge [5, 6] (by simp) 6 (by simp))
      have hz6 : y6 = (Value.int .i64 (kk : Int)) := hz6
      rw [hz6] at hy6
      have b133 := eval_get hy6
      rw [hl] at ho
      injection ho with ho
      subst ho
      exact wpOp_value ho' rfl (v := (Value.pointer (some ⟨g0, o0 + kk * 34, none⟩))) (w' := w) (by go_simp) ⟨_, rfl, Below.refl _ _, rfl⟩
    · obtain ⟨y7, hy7, hz7⟩ := hval 7 _ 134 (by omega) (by rw [hl]; rfl) rfl (hedge [7] (by simp) 7 (by simp))
      have hz7 : y7 = (Value.pointer (some ⟨g0, o0 + kk * 34, none⟩)) := hz7
      rw [hz7] at hy7
      have b134 := eval_get hy7
      rw [hl] at ho
      injection ho with ho
      subst ho
      exact wpOp_value ho' rfl (v := (Value.pointer (some ⟨g0, o0 + kk * 34 + 17, none⟩))) (w' := w) (by go_simp) ⟨_, rfl, Below.refl _ _, rfl⟩
    · obtain ⟨y8, hy8, hz8⟩ := hval 8 _ 135 (by omega) (by rw [hl]; rfl) rfl (hedge [8] (by simp) 8 (by simp))
      have hz8 : y8 = (Value.pointer (some ⟨g0, o0 + kk * 34 + 17, none⟩)) := hz8
      rw [hz8] at hy8
      have b135 := eval_get hy8
      rw [hl] at ho
      injection ho with ho
      subst ho
      exact wpOp_load ho' rfl rfl b135 (h9 w hb) ⟨_, rfl, Below.refl _ _, rfl⟩
    · obtain ⟨y4, hy4, hz4⟩ := hval 4 _ 131 (by omega) (by rw [hl]; rfl) rfl (hedge [4, 9] (by simp) 4 (by simp))
      have hz4 : y4 = (f1.val) := hz4
      rw [hz4] at hy4
      have b131 := eval_get hy4
      obtain ⟨y9, hy9, hz9⟩ := hval 9 _ 136 (by omega) (by rw [hl]; rfl) rfl (hedge [4, 9] (by simp) 9 (by simp))
      have hz9 : y9 = (f0.val) := hz9
      rw [hz9] at hy9
      have b136 := eval_get hy9
      rw [hl] at ho
      injection ho with ho
      subst ho
      refine wpOp_call ho' rfl rfl (args := #[f1.val, f0.val]) (by simp [b131, b136]) (cf17 _ _) ((h10 w  hb ).mono ?_)
      rintro e w' ⟨rfl, hb2⟩
      exact ⟨_, rfl, _, rfl, hb2, rfl⟩
    · obtain ⟨y10, hy10, hz10⟩ := hval 10 _ 137 (by omega) (by rw [hl]; rfl) rfl (hedge [10] (by simp) 10 (by simp))
      have hz10 : y10 = (Value.tuple #[r1.1.val, .int .i64 r1.2]) := hz10
      rw [hz10] at hy10
      have b137 := eval_get hy10
      rw [hl] at ho
      injection ho with ho
      subst ho
      exact wpOp_value ho' rfl (v := (r1.1.val)) (w' := w) (by go_simp) ⟨_, rfl, Below.refl _ _, rfl⟩
    · obtain ⟨y10, hy10, hz10⟩ := hval 10 _ 137 (by omega) (by rw [hl]; rfl) rfl (hedge [10] (by simp) 10 (by simp))
      have hz10 : y10 = (Value.tuple #[r1.1.val, .int .i64 r1.2]) := hz10
      rw [hz10] at hy10
      have b137 := eval_get hy10
      rw [hl] at ho
      injection ho with ho
      subst ho
      exact wpOp_value ho' rfl (v := (Value.int .i64 r1.2)) (w' := w) (by go_simp) ⟨_, rfl, Below.refl _ _, rfl⟩
    · obtain ⟨y11, hy11, hz11⟩ := hval 11 _ 138 (by omega) (by rw [hl]; rfl) rfl (hedge [11, 12] (by simp) 11 (by simp))
      have hz11 : y11 = (r1.1.val) := hz11
      rw [hz11] at hy11
      have b138 := eval_get hy11
      obtain ⟨y12, hy12, hz12⟩ := hval 12 _ 139 (by omega) (by rw [hl]; rfl) rfl (hedge [11, 12] (by simp) 12 (by simp))
      have hz12 : y12 = (Value.int .i64 r1.2) := hz12
      rw [hz12] at hy12
      have b139 := eval_get hy12
      rw [hl] at ho
      injection ho with ho
      subst ho
      refine wpOp_call ho' rfl rfl (args := #[r1.1.val, Value.int .i64 r1.2]) (by simp [b138, b139]) (cf15 _ _) ((h13 w  hb ).mono ?_)
      rintro e w' ⟨rfl, hb2⟩
      exact ⟨_, rfl, _, rfl, hb2, rfl⟩
    · have b16 := eval_get ((hold 16 (by rw [hl]; rfl)).trans k16)
      rw [hl] at ho
      injection ho with ho
      subst ho
      exact wpOp_value ho' rfl (v := (Value.slice (some ⟨g2, o2, none⟩) n c2)) (w' := w) (by go_simp) ⟨_, rfl, Below.refl _ _, rfl⟩
    · have b20 := eval_get ((hold 20 (by rw [hl]; rfl)).trans k20)
      rw [hl] at ho
      injection ho with ho
      subst ho
      exact wpOp_value ho' rfl (v := (Value.int .i64 (kk : Int))) (w' := w) (by go_simp) ⟨_, rfl, Below.refl _ _, rfl⟩
    · obtain ⟨y14, hy14, hz14⟩ := hval 14 _ 141 (by omega) (by rw [hl]; rfl) rfl (hedge [14, 15] (by simp) 14 (by simp))
      have hz14 : y14 = (Value.slice (some ⟨g2, o2, none⟩) n c2) := hz14
      rw [hz14] at hy14
      have b141 := eval_get hy14
      obtain ⟨y15, hy15, hz15⟩ := hval 15 _ 142 (by omega) (by rw [hl]; rfl) rfl (hedge [14, 15] (by simp) 15 (by simp))
      have hz15 : y15 = (Value.int .i64 (kk : Int)) := hz15
      rw [hz15] at hy15
      have b142 := eval_get hy15
      rw [hl] at ho
      injection ho with ho
      subst ho
      exact wpOp_value ho' rfl (v := (Value.pointer (some ⟨g2, o2 + kk * 34, none⟩))) (w' := w) (by go_simp) ⟨_, rfl, Below.refl _ _, rfl⟩
    · obtain ⟨y16, hy16, hz16⟩ := hval 16 _ 143 (by omega) (by rw [hl]; rfl) rfl (hedge [16] (by simp) 16 (by simp))
      have hz16 : y16 = (Value.pointer (some ⟨g2, o2 + kk * 34, none⟩)) := hz16
      rw [hz16] at hy16
      have b143 := eval_get hy16
      rw [hl] at ho
      injection ho with ho
      subst ho
      exact wpOp_value ho' rfl (v := (Value.pointer (some ⟨g2, o2 + kk * 34 + 17, none⟩))) (w' := w) (by go_simp) ⟨_, rfl, Below.refl _ _, rfl⟩
    · obtain ⟨y17, hy17, hz17⟩ := hval 17 _ 144 (by omega) (by rw [hl]; rfl) rfl (hedge [17] (by simp) 17 (by simp))
      have hz17 : y17 = (Value.pointer (some ⟨g2, o2 + kk * 34 + 17, none⟩)) := hz17
      rw [hz17] at hy17
      have b144 := eval_get hy17
      rw [hl] at ho
      injection ho with ho
      subst ho
      exact wpOp_load ho' rfl rfl b144 (h18 w hb) ⟨_, rfl, Below.refl _ _, rfl⟩
    · have b18 := eval_get ((hold 18 (by rw [hl]; rfl)).trans k18)
      rw [hl] at ho
      injection ho with ho
      subst ho
      exact wpOp_value ho' rfl (v := (Value.slice (some ⟨g3, o3, none⟩) n c3)) (w' := w) (by go_simp) ⟨_, rfl, Below.refl _ _, rfl⟩
    · have b20 := eval_get ((hold 20 (by rw [hl]; rfl)).trans k20)
      rw [hl] at ho
      injection ho with ho
      subst ho
      exact wpOp_value ho' rfl (v := (Value.int .i64 (kk : Int))) (w' := w) (by go_simp) ⟨_, rfl, Below.refl _ _, rfl⟩
    · obtain ⟨y19, hy19, hz19⟩ := hval 19 _ 146 (by omega) (by rw [hl]; rfl) rfl (hedge [19, 20] (by simp) 19 (by simp))
      have hz19 : y19 = (Value.slice (some ⟨g3, o3, none⟩) n c3) := hz19
      rw [hz19] at hy19
      have b146 := eval_get hy19
      obtain ⟨y20, hy20, hz20⟩ := hval 20 _ 147 (by omega) (by rw [hl]; rfl) rfl (hedge [19, 20] (by simp) 20 (by simp))
      have hz20 : y20 = (Value.int .i64 (kk : Int)) := hz20
      rw [hz20] at hy20
      have b147 := eval_get hy20
      rw [hl] at ho
      injection ho with ho
      subst ho
      exact wpOp_value ho' rfl (v := (Value.pointer (some ⟨g3, o3 + kk * 34, none⟩))) (w' := w) (by go_simp) ⟨_, rfl, Below.refl _ _, rfl⟩
    · obtain ⟨y21, hy21, hz21⟩ := hval 21 _ 148 (by omega) (by rw [hl]; rfl) rfl (hedge [21] (by simp) 21 (by simp))
      have hz21 : y21 = (Value.pointer (some ⟨g3, o3 + kk * 34, none⟩)) := hz21
      rw [hz21] at hy21
      have b148 := eval_get hy21
      rw [hl] at ho
      injection ho with ho
      subst ho
      exact wpOp_value ho' rfl (v := (Value.pointer (some ⟨g3, o3 + kk * 34 + 17, none⟩))) (w' := w) (by go_simp) ⟨_, rfl, Below.refl _ _, rfl⟩
    · obtain ⟨y22, hy22, hz22⟩ := hval 22 _ 149 (by omega) (by rw [hl]; rfl) rfl (hedge [22] (by simp) 22 (by simp))
      have hz22 : y22 = (Value.pointer (some ⟨g3, o3 + kk * 34 + 17, none⟩)) := hz22
      rw [hz22] at hy22
      have b149 := eval_get hy22
      rw [hl] at ho
      injection ho with ho
      subst ho
      exact wpOp_load ho' rfl rfl b149 (h23 w hb) ⟨_, rfl, Below.refl _ _, rfl⟩
    · obtain ⟨y18, hy18, hz18⟩ := hval 18 _ 145 (by omega) (by rw [hl]; rfl) rfl (hedge [18, 23] (by simp) 18 (by simp))
      have hz18 : y18 = (f2.val) := hz18
      rw [hz18] at hy18
      have b145 := eval_get hy18
      obtain ⟨y23, hy23, hz23⟩ := hval 23 _ 150 (by omega) (by rw [hl]; rfl) rfl (hedge [18, 23] (by simp) 23 (by simp))
      have hz23 : y23 = (f3.val) := hz23
      rw [hz23] at hy23
      have b150 := eval_get hy23
      rw [hl] at ho
      injection ho with ho
      subst ho
      refine wpOp_call ho' rfl rfl (args := #[f2.val, f3.val]) (by simp [b145, b150]) (cf17 _ _) ((h24 w  hb ).mono ?_)
      rintro e w' ⟨rfl, hb2⟩
      exact ⟨_, rfl, _, rfl, hb2, rfl⟩
    · obtain ⟨y24, hy24, hz24⟩ := hval 24 _ 151 (by omega) (by rw [hl]; rfl) rfl (hedge [24] (by simp) 24 (by simp))
      have hz24 : y24 = (Value.tuple #[r2.1.val, .int .i64 r2.2]) := hz24
      rw [hz24] at hy24
      have b151 := eval_get hy24
      rw [hl] at ho
      injection ho with ho
      subst ho
      exact wpOp_value ho' rfl (v := (r2.1.val)) (w' := w) (by go_simp) ⟨_, rfl, Below.refl _ _, rfl⟩
    · obtain ⟨y24, hy24, hz24⟩ := hval 24 _ 151 (by omega) (by rw [hl]; rfl) rfl (hedge [24] (by simp) 24 (by simp))
      have hz24 : y24 = (Value.tuple #[r2.1.val, .int .i64 r2.2]) := hz24
      rw [hz24] at hy24
      have b151 := eval_get hy24
      rw [hl] at ho
      injection ho with ho
      subst ho
      exact wpOp_value ho' rfl (v := (Value.int .i64 r2.2)) (w' := w) (by go_simp) ⟨_, rfl, Below.refl _ _, rfl⟩
    · obtain ⟨y25, hy25, hz25⟩ := hval 25 _ 152 (by omega) (by rw [hl]; rfl) rfl (hedge [25, 26] (by simp) 25 (by simp))
      have hz25 : y25 = (r2.1.val) := hz25
      rw [hz25] at hy25
      have b152 := eval_get hy25
      obtain ⟨y26, hy26, hz26⟩ := hval 26 _ 153 (by omega) (by rw [hl]; rfl) rfl (hedge [25, 26] (by simp) 26 (by simp))
      have hz26 : y26 = (Value.int .i64 r2.2) := hz26
      rw [hz26] at hy26
      have b153 := eval_get hy26
      rw [hl] at ho
      injection ho with ho
      subst ho
      refine wpOp_call ho' rfl rfl (args := #[r2.1.val, Value.int .i64 r2.2]) (by simp [b152, b153]) (cf15 _ _) ((h27 w  hb ).mono ?_)
      rintro e w' ⟨rfl, hb2⟩
      exact ⟨_, rfl, _, rfl, hb2, rfl⟩
    · obtain ⟨y13, hy13, hz13⟩ := hval 13 _ 140 (by omega) (by rw [hl]; rfl) rfl (hedge [13, 27] (by simp) 13 (by simp))
      have hz13 : y13 = (r1.1.val) := hz13
      rw [hz13] at hy13
      have b140 := eval_get hy13
      obtain ⟨y27, hy27, hz27⟩ := hval 27 _ 154 (by omega) (by rw [hl]; rfl) rfl (hedge [13, 27] (by simp) 27 (by simp))
      have hz27 : y27 = (r2.1.val) := hz27
      rw [hz27] at hy27
      have b154 := eval_get hy27
      rw [hl] at ho
      injection ho with ho
      subst ho
      exact wpOp_value ho' rfl (h28 a w b140 b154) ⟨_, rfl, Below.refl _ _, rfl⟩
    · obtain ⟨y28, hy28, hz28⟩ := hval 28 _ 155 (by omega) (by rw [hl]; rfl) rfl (hedge [28] (by simp) 28 (by simp))
      have hz28 : y28 = (Value.bool true) := hz28
      rw [hz28] at hy28
      have b155 := eval_get hy28
      rw [hl] at ho
      injection ho with ho
      subst ho
      exact wpOp_value ho' rfl (v := (Value.bool true)) (w' := w) (by go_simp) ⟨_, rfl, Below.refl _ _, rfl⟩
  · intro val w hb hrows
    have q0 : val 0 = (Value.slice (some ⟨g1, o1, none⟩) n c1) := hrows 0 (by omega)
    have q1 : val 1 = (Value.int .i64 (kk : Int)) := hrows 1 (by omega)
    have q2 : val 2 = (Value.pointer (some ⟨g1, o1 + kk * 34, none⟩)) := hrows 2 (by omega)
    have q3 : val 3 = (Value.pointer (some ⟨g1, o1 + kk * 34 + 17, none⟩)) := hrows 3 (by omega)
    have q4 : val 4 = (f1.val) := hrows 4 (by omega)
    have q5 : val 5 = (Value.slice (some ⟨g0, o0, none⟩) n c0) := hrows 5 (by omega)
    have q6 : val 6 = (Value.int .i64 (kk : Int)) := hrows 6 (by omega)
    have q7 : val 7 = (Value.pointer (some ⟨g0, o0 + kk * 34, none⟩)) := hrows 7 (by omega)
    have q8 : val 8 = (Value.pointer (some ⟨g0, o0 + kk * 34 + 17, none⟩)) := hrows 8 (by omega)
    have q9 : val 9 = (f0.val) := hrows 9 (by omega)
    have q10 : val 10 = (Value.tuple #[r1.1.val, .int .i64 r1.2]) := hrows 10 (by omega)
    have q11 : val 11 = (r1.1.val) := hrows 11 (by omega)
    have q12 : val 12 = (Value.int .i64 r1.2) := hrows 12 (by omega)
    have q13 : val 13 = (r1.1.val) := hrows 13 (by omega)
    have q14 : val 14 = (Value.slice (some ⟨g2, o2, none⟩) n c2) := hrows 14 (by omega)
    have q15 : val 15 = (Value.int .i64 (kk : Int)) := hrows 15 (by omega)
    have q16 : val 16 = (Value.pointer (some ⟨g2, o2 + kk * 34, none⟩)) := hrows 16 (by omega)
    have q17 : val 17 = (Value.pointer (some ⟨g2, o2 + kk * 34 + 17, none⟩)) := hrows 17 (by omega)
    have q18 : val 18 = (f2.val) := hrows 18 (by omega)
    have q19 : val 19 = (Value.slice (some ⟨g3, o3, none⟩) n c3) := hrows 19 (by omega)
    have q20 : val 20 = (Value.int .i64 (kk : Int)) := hrows 20 (by omega)
    have q21 : val 21 = (Value.pointer (some ⟨g3, o3 + kk * 34, none⟩)) := hrows 21 (by omega)
    have q22 : val 22 = (Value.pointer (some ⟨g3, o3 + kk * 34 + 17, none⟩)) := hrows 22 (by omega)
    have q23 : val 23 = (f3.val) := hrows 23 (by omega)
    have q24 : val 24 = (Value.tuple #[r2.1.val, .int .i64 r2.2]) := hrows 24 (by omega)
    have q25 : val 25 = (r2.1.val) := hrows 25 (by omega)
    have q26 : val 26 = (Value.int .i64 r2.2) := hrows 26 (by omega)
    have q27 : val 27 = (r2.1.val) := hrows 27 (by omega)
    have q28 : val 28 = (Value.bool true) := hrows 28 (by omega)
    have q29 : val 29 = (Value.bool true) := hrows 29 (by omega)
    have hF := hK  w hb 
    subst hl
    simp only [List.take_succ_cons, List.take_zero, putAll, Nat.zero_add, Nat.reduceAdd, q0, q1, q2, q3, q4, q5, q6, q7, q8, q9, q10, q11, q12, q13, q14, q15, q16, q17, q18, q19, q20, q21, q22, q23, q24, q25, q26, q27, q28, q29]
    exact hF

set_option maxRecDepth 100000 in
set_option maxHeartbeats 4000000 in
theorem region_addsC {id : Nat} {Q : Exit → Act → World → Prop} {a0 : Act} {w0 : World} {l : List Oper} {n kk g1 o1 c1 g4 o4 c4 : Nat} {s1 s4 : Str} (hk : (kk : Int) < (n : Int))
    {t0 t1 t2 t3 t4 t5 t6 t7 t8 t9 t10 t11 t12 t13 t14 t15 t16 : TypeId} {x0 x1 x2 x3 x4 x5 x6 x7 x8 x9 x10 x11 x12 x13 x14 x15 x16 : String} {e0 e1 e2 e3 e4 e5 e6 e7 e8 e9 e10 e11 e12 e13 e14 e15 e16 : Array Edge}
    (hl : l = [⟨some 156, .move (.tmp 21), t0, x0, e0, none⟩,
      ⟨some 157, .unOp .not 4 (.tmp 156), t1, x1, e1, none⟩,
      ⟨some 158, .move (.tmp 157), t2, x2, e2, none⟩,
      ⟨some 159, .move (.tmp 22), t3, x3, e3, some (2, false)⟩,
      ⟨some 160, .unOp .not 4 (.tmp 159), t4, x4, e4, some (2, false)⟩,
      ⟨some 161, .pick (.tmp 158) (.const (.bool true)) (.tmp 160), t5, x5, e5, none⟩,
      ⟨some 162, .move (.tmp 161), t6, x6, e6, none⟩,
      ⟨some 163, .move (.tmp 10), t7, x7, e7, some (6, false)⟩,
      ⟨some 164, .move (.tmp 20), t8, x8, e8, some (6, false)⟩,
      ⟨some 165, .indexAddr 26 (.tmp 163) (.tmp 164), t9, x9, e9, some (6, false)⟩,
      ⟨some 166, .load 40 (.tmp 165), t10, x10, e10, some (6, false)⟩,
      ⟨some 167, .move (.tmp 12), t11, x11, e11, some (6, false)⟩,
      ⟨some 168, .move (.tmp 20), t12, x12, e12, some (6, false)⟩,
      ⟨some 169, .indexAddr 26 (.tmp 167) (.tmp 168), t13, x13, e13, some (6, false)⟩,
      ⟨some 170, .load 40 (.tmp 169), t14, x14, e14, some (6, false)⟩,
      ⟨some 171, .binOp .neq 40 (.tmp 166) (.tmp 170) 40, t15, x15, e15, some (6, false)⟩,
      ⟨some 172, .pick (.tmp 162) (.const (.bool true)) (.tmp 171), t16, x16, e16, none⟩])
    (hO : orderB l 17 = true) (hd : dstsB l 17 a0.tmps.size = true) (hpre : preB l.toArray [(1, [0]), (2, [1]), (3, [2]), (4, [3, 2]), (5, [2, 4]), (6, [5]), (7, [6]), (8, [6]), (9, [7, 8, 6]), (10, [9, 6]), (11, [6]), (12, [6]), (13, [11, 12, 6]), (14, [13, 6]), (15, [10, 14, 6]), (16, [6, 15])] = true)
     (k10 : a0.tmps[10]? = some (Value.slice (some ⟨g1, o1, none⟩) n c1)) (k12 : a0.tmps[12]? = some (Value.slice (some ⟨g4, o4, none⟩) n c4)) (k20 : a0.tmps[20]? = some (Value.int .i64 (kk : Int))) (k21 : a0.tmps[21]? = some (Value.bool true)) (k22 : a0.tmps[22]? = some (Value.bool true))
    (h10 : ∀ w, From w0 w → (loadVar 40 ⟨g1, o1 + kk * 34, none⟩).run Try.prog w = .ok s1.val w)
    (h14 : ∀ w, From w0 w → (loadVar 40 ⟨g4, o4 + kk * 34, none⟩).run Try.prog w = .ok s4.val w)
    (h15 : ∀ (a : Act) (w : World), a.eval (.tmp 166) = (s1.val) → a.eval (.tmp 170) = (s4.val) → (execOp a.eval ⟨some 171, .binOp .neq 40 (.tmp 166) (.tmp 170) 40, t15, x15, e15, some (6, false)⟩).run Try.prog w = .ok (.value (Value.bool false)) w)
    (hK : ∀  w, From w0 w → wpList Try.prog l.toArray Q (l.drop 17) (((((((((((((((((a0.put (some 156) (Value.bool true)).put (some 157) (Value.bool false)).put (some 158) (Value.bool false)).put (some 159) (Value.bool true)).put (some 160) (Value.bool false)).put (some 161) (Value.bool false)).put (some 162) (Value.bool false)).put (some 163) (Value.slice (some ⟨g1, o1, none⟩) n c1)).put (some 164) (Value.int .i64 (kk : Int))).put (some 165) (Value.pointer (some ⟨g1, o1 + kk * 34, none⟩))).put (some 166) (s1.val)).put (some 167) (Value.slice (some ⟨g4, o4, none⟩) n c4)).put (some 168) (Value.int .i64 (kk : Int))).put (some 169) (Value.pointer (some ⟨g4, o4 + kk * 34, none⟩))).put (some 170) (s4.val)).put (some 171) (Value.bool false)).put (some 172) (Value.bool false)) w) :
    (Code.region id l.toArray true).wp Try.prog Q a0 w0 := by
  have hlen : l.length = 17 := by rw [hl]; rfl
  have hpz := List.all_eq_true.1 hpre
  refine wp_region_keep 17 (fun i v w => match i with
    | 0 => v = (Value.bool true)
    | 1 => v = (Value.bool false)
    | 2 => v = (Value.bool false)
    | 3 => v = (Value.bool true)
    | 4 => v = (Value.bool false)
    | 5 => v = (Value.bool false)
    | 6 => v = (Value.bool false)
    | 7 => v = (Value.slice (some ⟨g1, o1, none⟩) n c1)
    | 8 => v = (Value.int .i64 (kk : Int))
    | 9 => v = (Value.pointer (some ⟨g1, o1 + kk * 34, none⟩))
    | 10 => v = (s1.val)
    | 11 => v = (Value.slice (some ⟨g4, o4, none⟩) n c4)
    | 12 => v = (Value.int .i64 (kk : Int))
    | 13 => v = (Value.pointer (some ⟨g4, o4 + kk * 34, none⟩))
    | 14 => v = (s4.val)
    | 15 => v = (Value.bool false)
    | 16 => v = (Value.bool false)
    | _ => True) ?_ (by kernel_rfl) hO (by omega) hd ?_ ?_
  · intro i v w w' h hb
    match i, h with
    | 0, h => exact h
    | 1, h => exact h
    | 2, h => exact h
    | 3, h => exact h
    | 4, h => exact h
    | 5, h => exact h
    | 6, h => exact h
    | 7, h => exact h
    | 8, h => exact h
    | 9, h => exact h
    | 10, h => exact h
    | 11, h => exact h
    | 12, h => exact h
    | 13, h => exact h
    | 14, h => exact h
    | 15, h => exact h
    | 16, h => exact h
    | _ + 17, _ => trivial
  · intro i o hi ho a w hb hval hold
    have ho' : l.toArray[i]? = some o := by simpa using ho
    have hedge : ∀ js, (i, js) ∈ ([(1, [0]), (2, [1]), (3, [2]), (4, [3, 2]), (5, [2, 4]), (6, [5]), (7, [6]), (8, [6]), (9, [7, 8, 6]), (10, [9, 6]), (11, [6]), (12, [6]), (13, [11, 12, 6]), (14, [13, 6]), (15, [10, 14, 6]), (16, [6, 15])] : List (Nat × List Nat)) → ∀ j ∈ js, (o.after.any fun e => Region.binds .any e && e.on == j) = true := fun js hm j hj => by
      have h1 := List.all_eq_true.1 (hpz _ hm) j hj
      rw [ho'] at h1
      simpa using h1
    have hcase : i = 0 ∨ i = 1 ∨ i = 2 ∨ i = 3 ∨ i = 4 ∨ i = 5 ∨ i = 6 ∨ i = 7 ∨ i = 8 ∨ i = 9 ∨ i = 10 ∨ i = 11 ∨ i = 12 ∨ i = 13 ∨ i = 14 ∨ i = 15 ∨ i = 16 := by omega
    rcases hcase with rfl | rfl | rfl | rfl | rfl | rfl | rfl | rfl | rfl | rfl | rfl | rfl | rfl | rfl | rfl | rfl | rfl
    · have b21 := eval_get ((hold 21 (by rw [hl]; rfl)).trans k21)
      rw [hl] at ho
      injection ho with ho
      subst ho
      exact wpOp_value ho' rfl (v := (Value.bool true)) (w' := w) (by go_simp) ⟨_, rfl, Below.refl _ _, rfl⟩
    · obtain ⟨y0, hy0, hz0⟩ := hval 0 _ 156 (by omega) (by rw [hl]; rfl) rfl (hedge [0] (by simp) 0 (by simp))
      have hz0 : y0 = (Value.bool true) := hz0
      rw [hz0] at hy0
      have b156 := eval_get hy0
      rw [hl] at ho
      injection ho with ho
      subst ho
      exact wpOp_value ho' rfl (v := (Value.bool false)) (w' := w) (by go_simp) ⟨_, rfl, Below.refl _ _, rfl⟩
    · obtain ⟨y1, hy1, hz1⟩ := hval 1 _ 157 (by omega) (by rw [hl]; rfl) rfl (hedge [1] (by simp) 1 (by simp))
      have hz1 : y1 = (Value.bool false) := hz1
      rw [hz1] at hy1
      have b157 := eval_get hy1
      rw [hl] at ho
      injection ho with ho
      subst ho
      exact wpOp_value ho' rfl (v := (Value.bool false)) (w' := w) (by go_simp) ⟨_, rfl, Below.refl _ _, rfl⟩
    · have b22 := eval_get ((hold 22 (by rw [hl]; rfl)).trans k22)
      obtain ⟨y2, hy2, hz2⟩ := hval 2 _ 158 (by omega) (by rw [hl]; rfl) rfl (hedge [2] (by simp) 2 (by simp))
      have hz2 : y2 = (Value.bool false) := hz2
      rw [hz2] at hy2
      have b158 := eval_get hy2
      rw [hl] at ho
      injection ho with ho
      subst ho
      have hwt := wanted_some (ops := l.toArray) (a := a) (o := ⟨some 159, .move (.tmp 22), t3, x3, e3, some (2, false)⟩) (r := true) rfl (show l.toArray[2]? = some _ by rw [hl]; rfl) rfl hy2 rfl
      exact wpOp_valueW ho' hwt (v := (Value.bool true)) (w' := w) (by go_simp) ⟨_, rfl, Below.refl _ _, rfl⟩
    · obtain ⟨y3, hy3, hz3⟩ := hval 3 _ 159 (by omega) (by rw [hl]; rfl) rfl (hedge [3, 2] (by simp) 3 (by simp))
      have hz3 : y3 = (Value.bool true) := hz3
      rw [hz3] at hy3
      have b159 := eval_get hy3
      obtain ⟨y2, hy2, hz2⟩ := hval 2 _ 158 (by omega) (by rw [hl]; rfl) rfl (hedge [3, 2] (by simp) 2 (by simp))
      have hz2 : y2 = (Value.bool false) := hz2
      rw [hz2] at hy2
      have b158 := eval_get hy2
      rw [hl] at ho
      injection ho with ho
      subst ho
      have hwt := wanted_some (ops := l.toArray) (a := a) (o := ⟨some 160, .unOp .not 4 (.tmp 159), t4, x4, e4, some (2, false)⟩) (r := true) rfl (show l.toArray[2]? = some _ by rw [hl]; rfl) rfl hy2 rfl
      exact wpOp_valueW ho' hwt (v := (Value.bool false)) (w' := w) (by go_simp) ⟨_, rfl, Below.refl _ _, rfl⟩
    · obtain ⟨y2, hy2, hz2⟩ := hval 2 _ 158 (by omega) (by rw [hl]; rfl) rfl (hedge [2, 4] (by simp) 2 (by simp))
      have hz2 : y2 = (Value.bool false) := hz2
      rw [hz2] at hy2
      have b158 := eval_get hy2
      obtain ⟨y4, hy4, hz4⟩ := hval 4 _ 160 (by omega) (by rw [hl]; rfl) rfl (hedge [2, 4] (by simp) 4 (by simp))
      have hz4 : y4 = (Value.bool false) := hz4
      rw [hz4] at hy4
      have b160 := eval_get hy4
      rw [hl] at ho
      injection ho with ho
      subst ho
      exact wpOp_value ho' rfl (v := (Value.bool false)) (w' := w) (by go_simp) ⟨_, rfl, Below.refl _ _, rfl⟩
    · obtain ⟨y5, hy5, hz5⟩ := hval 5 _ 161 (by omega) (by rw [hl]; rfl) rfl (hedge [5] (by simp) 5 (by simp))
      have hz5 : y5 = (Value.bool false) := hz5
      rw [hz5] at hy5
      have b161 := eval_get hy5
      rw [hl] at ho
      injection ho with ho
      subst ho
      exact wpOp_value ho' rfl (v := (Value.bool false)) (w' := w) (by go_simp) ⟨_, rfl, Below.refl _ _, rfl⟩
    · have b10 := eval_get ((hold 10 (by rw [hl]; rfl)).trans k10)
      obtain ⟨y6, hy6, hz6⟩ := hval 6 _ 162 (by omega) (by rw [hl]; rfl) rfl (hedge [6] (by simp) 6 (by simp))
      have hz6 : y6 = (Value.bool false) := hz6
      rw [hz6] at hy6
      have b162 := eval_get hy6
      rw [hl] at ho
      injection ho with ho
      subst ho
      have hwt := wanted_some (ops := l.toArray) (a := a) (o := ⟨some 163, .move (.tmp 10), t7, x7, e7, some (6, false)⟩) (r := true) rfl (show l.toArray[6]? = some _ by rw [hl]; rfl) rfl hy6 rfl
      exact wpOp_valueW ho' hwt (v := (Value.slice (some ⟨g1, o1, none⟩) n c1)) (w' := w) (by go_simp) ⟨_, rfl, Below.refl _ _, rfl⟩
    · have b20 := eval_get ((hold 20 (by rw [hl]; rfl)).trans k20)
      obtain ⟨y6, hy6, hz6⟩ := hval 6 _ 162 (by omega) (by rw [hl]; rfl) rfl (hedge [6] (by simp) 6 (by simp))
      have hz6 : y6 = (Value.bool false) := hz6
      rw [hz6] at hy6
      have b162 := eval_get hy6
      rw [hl] at ho
      injection ho with ho
      subst ho
      have hwt := wanted_some (ops := l.toArray) (a := a) (o := ⟨some 164, .move (.tmp 20), t8, x8, e8, some (6, false)⟩) (r := true) rfl (show l.toArray[6]? = some _ by rw [hl]; rfl) rfl hy6 rfl
      exact wpOp_valueW ho' hwt (v := (Value.int .i64 (kk : Int))) (w' := w) (by go_simp) ⟨_, rfl, Below.refl _ _, rfl⟩
    · obtain ⟨y7, hy7, hz7⟩ := hval 7 _ 163 (by omega) (by rw [hl]; rfl) rfl (hedge [7, 8, 6] (by simp) 7 (by simp))
      have hz7 : y7 = (Value.slice (some ⟨g1, o1, none⟩) n c1) := hz7
      rw [hz7] at hy7
      have b163 := eval_get hy7
      obtain ⟨y8, hy8, hz8⟩ := hval 8 _ 164 (by omega) (by rw [hl]; rfl) rfl (hedge [7, 8, 6] (by simp) 8 (by simp))
      have hz8 : y8 = (Value.int .i64 (kk : Int)) := hz8
      rw [hz8] at hy8
      have b164 := eval_get hy8
      obtain ⟨y6, hy6, hz6⟩ := hval 6 _ 162 (by omega) (by rw [hl]; rfl) rfl (hedge [7, 8, 6] (by simp) 6 (by simp))
      have hz6 : y6 = (Value.bool false) := hz6
      rw [hz6] at hy6
      have b162 := eval_get hy6
      rw [hl] at ho
      injection ho with ho
      subst ho
      have hwt := wanted_some (ops := l.toArray) (a := a) (o := ⟨some 165, .indexAddr 26 (.tmp 163) (.tmp 164), t9, x9, e9, some (6, false)⟩) (r := true) rfl (show l.toArray[6]? = some _ by rw [hl]; rfl) rfl hy6 rfl
      exact wpOp_valueW ho' hwt (v := (Value.pointer (some ⟨g1, o1 + kk * 34, none⟩))) (w' := w) (by go_simp) ⟨_, rfl, Below.refl _ _, rfl⟩
    · obtain ⟨y9, hy9, hz9⟩ := hval 9 _ 165 (by omega) (by rw [hl]; rfl) rfl (hedge [9, 6] (by simp) 9 (by simp))
      have hz9 : y9 = (Value.pointer (some ⟨g1, o1 + kk * 34, none⟩)) := hz9
      rw [hz9] at hy9
      have b165 := eval_get hy9
      obtain ⟨y6, hy6, hz6⟩ := hval 6 _ 162 (by omega) (by rw [hl]; rfl) rfl (hedge [9, 6] (by simp) 6 (by simp))
      have hz6 : y6 = (Value.bool false) := hz6
      rw [hz6] at hy6
      have b162 := eval_get hy6
      rw [hl] at ho
      injection ho with ho
      subst ho
      have hwt := wanted_some (ops := l.toArray) (a := a) (o := ⟨some 166, .load 40 (.tmp 165), t10, x10, e10, some (6, false)⟩) (r := true) rfl (show l.toArray[6]? = some _ by rw [hl]; rfl) rfl hy6 rfl
      exact wpOp_loadW ho' hwt rfl b165 (h10 w hb) ⟨_, rfl, Below.refl _ _, rfl⟩
    · have b12 := eval_get ((hold 12 (by rw [hl]; rfl)).trans k12)
      obtain ⟨y6, hy6, hz6⟩ := hval 6 _ 162 (by omega) (by rw [hl]; rfl) rfl (hedge [6] (by simp) 6 (by simp))
      have hz6 : y6 = (Value.bool false) := hz6
      rw [hz6] at hy6
      have b162 := eval_get hy6
      rw [hl] at ho
      injection ho with ho
      subst ho
      have hwt := wanted_some (ops := l.toArray) (a := a) (o := ⟨some 167, .move (.tmp 12), t11, x11, e11, some (6, false)⟩) (r := true) rfl (show l.toArray[6]? = some _ by rw [hl]; rfl) rfl hy6 rfl
      exact wpOp_valueW ho' hwt (v := (Value.slice (some ⟨g4, o4, none⟩) n c4)) (w' := w) (by go_simp) ⟨_, rfl, Below.refl _ _, rfl⟩
    · have b20 := eval_get ((hold 20 (by rw [hl]; rfl)).trans k20)
      obtain ⟨y6, hy6, hz6⟩ := hval 6 _ 162 (by omega) (by rw [hl]; rfl) rfl (hedge [6] (by simp) 6 (by simp))
      have hz6 : y6 = (Value.bool false) := hz6
      rw [hz6] at hy6
      have b162 := eval_get hy6
      rw [hl] at ho
      injection ho with ho
      subst ho
      have hwt := wanted_some (ops := l.toArray) (a := a) (o := ⟨some 168, .move (.tmp 20), t12, x12, e12, some (6, false)⟩) (r := true) rfl (show l.toArray[6]? = some _ by rw [hl]; rfl) rfl hy6 rfl
      exact wpOp_valueW ho' hwt (v := (Value.int .i64 (kk : Int))) (w' := w) (by go_simp) ⟨_, rfl, Below.refl _ _, rfl⟩
    · obtain ⟨y11, hy11, hz11⟩ := hval 11 _ 167 (by omega) (by rw [hl]; rfl) rfl (hedge [11, 12, 6] (by simp) 11 (by simp))
      have hz11 : y11 = (Value.slice (some ⟨g4, o4, none⟩) n c4) := hz11
      rw [hz11] at hy11
      have b167 := eval_get hy11
      obtain ⟨y12, hy12, hz12⟩ := hval 12 _ 168 (by omega) (by rw [hl]; rfl) rfl (hedge [11, 12, 6] (by simp) 12 (by simp))
      have hz12 : y12 = (Value.int .i64 (kk : Int)) := hz12
      rw [hz12] at hy12
      have b168 := eval_get hy12
      obtain ⟨y6, hy6, hz6⟩ := hval 6 _ 162 (by omega) (by rw [hl]; rfl) rfl (hedge [11, 12, 6] (by simp) 6 (by simp))
      have hz6 : y6 = (Value.bool false) := hz6
      rw [hz6] at hy6
      have b162 := eval_get hy6
      rw [hl] at ho
      injection ho with ho
      subst ho
      have hwt := wanted_some (ops := l.toArray) (a := a) (o := ⟨some 169, .indexAddr 26 (.tmp 167) (.tmp 168), t13, x13, e13, some (6, false)⟩) (r := true) rfl (show l.toArray[6]? = some _ by rw [hl]; rfl) rfl hy6 rfl
      exact wpOp_valueW ho' hwt (v := (Value.pointer (some ⟨g4, o4 + kk * 34, none⟩))) (w' := w) (by go_simp) ⟨_, rfl, Below.refl _ _, rfl⟩
    · obtain ⟨y13, hy13, hz13⟩ := hval 13 _ 169 (by omega) (by rw [hl]; rfl) rfl (hedge [13, 6] (by simp) 13 (by simp))
      have hz13 : y13 = (Value.pointer (some ⟨g4, o4 + kk * 34, none⟩)) := hz13
      rw [hz13] at hy13
      have b169 := eval_get hy13
      obtain ⟨y6, hy6, hz6⟩ := hval 6 _ 162 (by omega) (by rw [hl]; rfl) rfl (hedge [13, 6] (by simp) 6 (by simp))
      have hz6 : y6 = (Value.bool false) := hz6
      rw [hz6] at hy6
      have b162 := eval_get hy6
      rw [hl] at ho
      injection ho with ho
      subst ho
      have hwt := wanted_some (ops := l.toArray) (a := a) (o := ⟨some 170, .load 40 (.tmp 169), t14, x14, e14, some (6, false)⟩) (r := true) rfl (show l.toArray[6]? = some _ by rw [hl]; rfl) rfl hy6 rfl
      exact wpOp_loadW ho' hwt rfl b169 (h14 w hb) ⟨_, rfl, Below.refl _ _, rfl⟩
    · obtain ⟨y10, hy10, hz10⟩ := hval 10 _ 166 (by omega) (by rw [hl]; rfl) rfl (hedge [10, 14, 6] (by simp) 10 (by simp))
      have hz10 : y10 = (s1.val) := hz10
      rw [hz10] at hy10
      have b166 := eval_get hy10
      obtain ⟨y14, hy14, hz14⟩ := hval 14 _ 170 (by omega) (by rw [hl]; rfl) rfl (hedge [10, 14, 6] (by simp) 14 (by simp))
      have hz14 : y14 = (s4.val) := hz14
      rw [hz14] at hy14
      have b170 := eval_get hy14
      obtain ⟨y6, hy6, hz6⟩ := hval 6 _ 162 (by omega) (by rw [hl]; rfl) rfl (hedge [10, 14, 6] (by simp) 6 (by simp))
      have hz6 : y6 = (Value.bool false) := hz6
      rw [hz6] at hy6
      have b162 := eval_get hy6
      rw [hl] at ho
      injection ho with ho
      subst ho
      have hwt := wanted_some (ops := l.toArray) (a := a) (o := ⟨some 171, .binOp .neq 40 (.tmp 166) (.tmp 170) 40, t15, x15, e15, some (6, false)⟩) (r := true) rfl (show l.toArray[6]? = some _ by rw [hl]; rfl) rfl hy6 rfl
      exact wpOp_valueW ho' hwt (h15 a w b166 b170) ⟨_, rfl, Below.refl _ _, rfl⟩
    · obtain ⟨y6, hy6, hz6⟩ := hval 6 _ 162 (by omega) (by rw [hl]; rfl) rfl (hedge [6, 15] (by simp) 6 (by simp))
      have hz6 : y6 = (Value.bool false) := hz6
      rw [hz6] at hy6
      have b162 := eval_get hy6
      obtain ⟨y15, hy15, hz15⟩ := hval 15 _ 171 (by omega) (by rw [hl]; rfl) rfl (hedge [6, 15] (by simp) 15 (by simp))
      have hz15 : y15 = (Value.bool false) := hz15
      rw [hz15] at hy15
      have b171 := eval_get hy15
      rw [hl] at ho
      injection ho with ho
      subst ho
      exact wpOp_value ho' rfl (v := (Value.bool false)) (w' := w) (by go_simp) ⟨_, rfl, Below.refl _ _, rfl⟩
  · intro val w hb hrows
    have q0 : val 0 = (Value.bool true) := hrows 0 (by omega)
    have q1 : val 1 = (Value.bool false) := hrows 1 (by omega)
    have q2 : val 2 = (Value.bool false) := hrows 2 (by omega)
    have q3 : val 3 = (Value.bool true) := hrows 3 (by omega)
    have q4 : val 4 = (Value.bool false) := hrows 4 (by omega)
    have q5 : val 5 = (Value.bool false) := hrows 5 (by omega)
    have q6 : val 6 = (Value.bool false) := hrows 6 (by omega)
    have q7 : val 7 = (Value.slice (some ⟨g1, o1, none⟩) n c1) := hrows 7 (by omega)
    have q8 : val 8 = (Value.int .i64 (kk : Int)) := hrows 8 (by omega)
    have q9 : val 9 = (Value.pointer (some ⟨g1, o1 + kk * 34, none⟩)) := hrows 9 (by omega)
    have q10 : val 10 = (s1.val) := hrows 10 (by omega)
    have q11 : val 11 = (Value.slice (some ⟨g4, o4, none⟩) n c4) := hrows 11 (by omega)
    have q12 : val 12 = (Value.int .i64 (kk : Int)) := hrows 12 (by omega)
    have q13 : val 13 = (Value.pointer (some ⟨g4, o4 + kk * 34, none⟩)) := hrows 13 (by omega)
    have q14 : val 14 = (s4.val) := hrows 14 (by omega)
    have q15 : val 15 = (Value.bool false) := hrows 15 (by omega)
    have q16 : val 16 = (Value.bool false) := hrows 16 (by omega)
    have hF := hK  w hb 
    subst hl
    simp only [List.take_succ_cons, List.take_zero, putAll, Nat.zero_add, Nat.reduceAdd, q0, q1, q2, q3, q4, q5, q6, q7, q8, q9, q10, q11, q12, q13, q14, q15, q16]
    exact hF
end Go.Proofs.Ytcdfnlgimbecgaa
