/-
  twistlocklaw18: the regions of StrengthTurns that draw their order. (Printed by gen_turns.py.)
-/
import Derived.Test.YthlbcijlbgbooaaMg35
import Derived.Test.YthlbcijlbgbooaaMg44

namespace Go.Proofs.Ythlbcijlbgbooaa
open Go.RowKit

set_option maxRecDepth 100000 in
set_option maxHeartbeats 4000000 in
theorem region_turnsA {id : Nat} {Q : Exit → Act → World → Prop} {a0 : Act} {w0 : World} {l : List Oper} {n kk g1 o1 c1 : Nat} {fo f1 : FracV} {r1 : FracV × Int} (hk : (kk : Int) < (n : Int))
    {t0 t1 t2 t3 t4 t5 t6 t7 t8 t9 t10 t11 : TypeId} {x0 x1 x2 x3 x4 x5 x6 x7 x8 x9 x10 x11 : String} {e0 e1 e2 e3 e4 e5 e6 e7 e8 e9 e10 e11 : Array Edge}
    (hl : l = [⟨some 170, .call { callee := .value (.func 16), args := #[.const (.int .i64 0)], argTypes := #[3] }, t0, x0, e0, none⟩,
      ⟨some 171, .move (.tmp 18), t1, x1, e1, none⟩,
      ⟨some 172, .move (.tmp 24), t2, x2, e2, none⟩,
      ⟨some 173, .indexAddr 26 (.tmp 171) (.tmp 172), t3, x3, e3, none⟩,
      ⟨some 174, .fieldAddr 40 (.tmp 173) 0, t4, x4, e4, none⟩,
      ⟨some 175, .load 37 (.tmp 174), t5, x5, e5, none⟩,
      ⟨some 176, .call { callee := .value (.func 19), args := #[.tmp 170, .tmp 175], argTypes := #[37, 37] }, t6, x6, e6, none⟩,
      ⟨some 177, .extract (.tmp 176) 0, t7, x7, e7, none⟩,
      ⟨some 178, .extract (.tmp 176) 1, t8, x8, e8, none⟩,
      ⟨some 179, .call { callee := .value (.func 18), args := #[.tmp 177, .tmp 178], argTypes := #[37, 31] }, t9, x9, e9, none⟩,
      ⟨some 25, .alloc 37, t10, x10, e10, none⟩,
      ⟨none, .store 37 (.tmp 25) (.tmp 179), t11, x11, e11, none⟩])
    (hO : orderB l 11 = true) (hd : dstsB l 11 a0.tmps.size = true) (hpre : preB l.toArray [(3, [1, 2]), (4, [3]), (5, [4]), (6, [0, 5]), (7, [6]), (8, [6]), (9, [7, 8])] = true)
     (k18 : a0.tmps[18]? = some (Value.slice (some ⟨g1, o1, none⟩) n c1)) (k24 : a0.tmps[24]? = some (Value.int .i64 (kk : Int)))
    (R10 : Value → World → Prop) (s10 : ∀ v w w', R10 v w → From w w' → R10 v w')
    (h0 : ∀ w , From w0 w → Calls Try.prog 16 #[Value.int .i64 0] w fun e w' => e = .returned (fo.val) ∧ From w w')
    (h5 : ∀ w, From w0 w → (loadVar 37 ⟨g1, o1 + kk * 34, none⟩).run Try.prog w = .ok f1.val w)
    (h6 : ∀ w , From w0 w → Calls Try.prog 19 #[fo.val, f1.val] w fun e w' => e = .returned (Value.tuple #[r1.1.val, .int .i64 r1.2]) ∧ From w w')
    (h9 : ∀ w , From w0 w → Calls Try.prog 18 #[r1.1.val, Value.int .i64 r1.2] w fun e w' => e = .returned (r1.1.val) ∧ From w w')
    (h10 : ∀ w, From w0 w → R10 (.pointer (some ⟨w.heap.size, 0, none⟩)) (w.alloc (.cells zeroF.val.cells 37)))
    (hK : ∀ u10 w, From w0 w → R10 u10 w → wpList Try.prog l.toArray Q (l.drop 11) (((((((((((a0.put (some 170) (fo.val)).put (some 171) (Value.slice (some ⟨g1, o1, none⟩) n c1)).put (some 172) (Value.int .i64 (kk : Int))).put (some 173) (Value.pointer (some ⟨g1, o1 + kk * 34, none⟩))).put (some 174) (Value.pointer (some ⟨g1, o1 + kk * 34, none⟩))).put (some 175) (f1.val)).put (some 176) (Value.tuple #[r1.1.val, .int .i64 r1.2])).put (some 177) (r1.1.val)).put (some 178) (Value.int .i64 r1.2)).put (some 179) (r1.1.val)).put (some 25) u10) w) :
    (Code.region id l.toArray true).wp Try.prog Q a0 w0 := by
  have hlen : l.length = 12 := by rw [hl]; rfl
  have hpz := List.all_eq_true.1 hpre
  refine wp_region_keep 11 (fun i v w => match i with
    | 0 => v = (fo.val)
    | 1 => v = (Value.slice (some ⟨g1, o1, none⟩) n c1)
    | 2 => v = (Value.int .i64 (kk : Int))
    | 3 => v = (Value.pointer (some ⟨g1, o1 + kk * 34, none⟩))
    | 4 => v = (Value.pointer (some ⟨g1, o1 + kk * 34, none⟩))
    | 5 => v = (f1.val)
    | 6 => v = (Value.tuple #[r1.1.val, .int .i64 r1.2])
    | 7 => v = (r1.1.val)
    | 8 => v = (Value.int .i64 r1.2)
    | 9 => v = (r1.1.val)
    | 10 => R10 v w
    | _ => True) ?_ (by kernel_rfl) hO (by omega) hd ?_ ?_
  · intro i v w w' h hb
    match i, h with
    | 0, h => exact h
    | 1, h => exact h
    | 2, h => exact h
    | 3, h => exact h
    | 4, h => exact h
    | 5, h => exact h
    | 6, h => exact h
    | 7, h => exact h
    | 8, h => exact h
    | 9, h => exact h
    | 10, h => exact s10 v w w' h hb
    | _ + 11, _ => trivial
  · intro i o hi ho a w hb hval hold
    have ho' : l.toArray[i]? = some o := by simpa using ho
    have hedge : ∀ js, (i, js) ∈ ([(3, [1, 2]), (4, [3]), (5, [4]), (6, [0, 5]), (7, [6]), (8, [6]), (9, [7, 8])] : List (Nat × List Nat)) → ∀ j ∈ js, (o.after.any fun e => Region.binds .any e && e.on == j) = true := fun js hm j hj => by
      have h1 := List.all_eq_true.1 (hpz _ hm) j hj
      rw [ho'] at h1
      simpa using h1
    have hcase : i = 0 ∨ i = 1 ∨ i = 2 ∨ i = 3 ∨ i = 4 ∨ i = 5 ∨ i = 6 ∨ i = 7 ∨ i = 8 ∨ i = 9 ∨ i = 10 := by omega
    rcases hcase with rfl | rfl | rfl | rfl | rfl | rfl | rfl | rfl | rfl | rfl | rfl
    · rw [hl] at ho
      injection ho with ho
      subst ho
      refine wpOp_call ho' rfl rfl (args := #[Value.int .i64 0]) (by simp [eval_const]) (cf16 _ _) ((h0 w  hb ).mono ?_)
      rintro e w' ⟨rfl, hb2⟩
      exact ⟨_, rfl, _, rfl, hb2, rfl⟩
    · have b18 := eval_get ((hold 18 (by rw [hl]; rfl)).trans k18)
      rw [hl] at ho
      injection ho with ho
      subst ho
      exact wpOp_value ho' rfl (v := (Value.slice (some ⟨g1, o1, none⟩) n c1)) (w' := w) (by go_simp) ⟨_, rfl, Below.refl _ _, rfl⟩
    · have b24 := eval_get ((hold 24 (by rw [hl]; rfl)).trans k24)
      rw [hl] at ho
      injection ho with ho
      subst ho
      exact wpOp_value ho' rfl (v := (Value.int .i64 (kk : Int))) (w' := w) (by go_simp) ⟨_, rfl, Below.refl _ _, rfl⟩
    · obtain ⟨y1, hy1, hz1⟩ := hval 1 _ 171 (by omega) (by rw [hl]; rfl) rfl (hedge [1, 2] (by simp) 1 (by simp))
      have hz1 : y1 = (Value.slice (some ⟨g1, o1, none⟩) n c1) := hz1
      rw [hz1] at hy1
      have b171 := eval_get hy1
      obtain ⟨y2, hy2, hz2⟩ := hval 2 _ 172 (by omega) (by rw [hl]; rfl) rfl (hedge [1, 2] (by simp) 2 (by simp))
      have hz2 : y2 = (Value.int .i64 (kk : Int)) := hz2
      rw [hz2] at hy2
      have b172 := eval_get hy2
      rw [hl] at ho
      injection ho with ho
      subst ho
      exact wpOp_value ho' rfl (v := (Value.pointer (some ⟨g1, o1 + kk * 34, none⟩))) (w' := w) (by go_simp) ⟨_, rfl, Below.refl _ _, rfl⟩
    · obtain ⟨y3, hy3, hz3⟩ := hval 3 _ 173 (by omega) (by rw [hl]; rfl) rfl (hedge [3] (by simp) 3 (by simp))
      have hz3 : y3 = (Value.pointer (some ⟨g1, o1 + kk * 34, none⟩)) := hz3
      rw [hz3] at hy3
      have b173 := eval_get hy3
      rw [hl] at ho
      injection ho with ho
      subst ho
      exact wpOp_value ho' rfl (v := (Value.pointer (some ⟨g1, o1 + kk * 34, none⟩))) (w' := w) (by go_simp) ⟨_, rfl, Below.refl _ _, rfl⟩
    · obtain ⟨y4, hy4, hz4⟩ := hval 4 _ 174 (by omega) (by rw [hl]; rfl) rfl (hedge [4] (by simp) 4 (by simp))
      have hz4 : y4 = (Value.pointer (some ⟨g1, o1 + kk * 34, none⟩)) := hz4
      rw [hz4] at hy4
      have b174 := eval_get hy4
      rw [hl] at ho
      injection ho with ho
      subst ho
      exact wpOp_load ho' rfl rfl b174 (h5 w hb) ⟨_, rfl, Below.refl _ _, rfl⟩
    · obtain ⟨y0, hy0, hz0⟩ := hval 0 _ 170 (by omega) (by rw [hl]; rfl) rfl (hedge [0, 5] (by simp) 0 (by simp))
      have hz0 : y0 = (fo.val) := hz0
      rw [hz0] at hy0
      have b170 := eval_get hy0
      obtain ⟨y5, hy5, hz5⟩ := hval 5 _ 175 (by omega) (by rw [hl]; rfl) rfl (hedge [0, 5] (by simp) 5 (by simp))
      have hz5 : y5 = (f1.val) := hz5
      rw [hz5] at hy5
      have b175 := eval_get hy5
      rw [hl] at ho
      injection ho with ho
      subst ho
      refine wpOp_call ho' rfl rfl (args := #[fo.val, f1.val]) (by simp [b170, b175]) (cf19 _ _) ((h6 w  hb ).mono ?_)
      rintro e w' ⟨rfl, hb2⟩
      exact ⟨_, rfl, _, rfl, hb2, rfl⟩
    · obtain ⟨y6, hy6, hz6⟩ := hval 6 _ 176 (by omega) (by rw [hl]; rfl) rfl (hedge [6] (by simp) 6 (by simp))
      have hz6 : y6 = (Value.tuple #[r1.1.val, .int .i64 r1.2]) := hz6
      rw [hz6] at hy6
      have b176 := eval_get hy6
      rw [hl] at ho
      injection ho with ho
      subst ho
      exact wpOp_value ho' rfl (v := (r1.1.val)) (w' := w) (by go_simp) ⟨_, rfl, Below.refl _ _, rfl⟩
    · obtain ⟨y6, hy6, hz6⟩ := hval 6 _ 176 (by omega) (by rw [hl]; rfl) rfl (hedge [6] (by simp) 6 (by simp))
      have hz6 : y6 = (Value.tuple #[r1.1.val, .int .i64 r1.2]) := hz6
      rw [hz6] at hy6
      have b176 := eval_get hy6
      rw [hl] at ho
      injection ho with ho
      subst ho
      exact wpOp_value ho' rfl (v := (Value.int .i64 r1.2)) (w' := w) (by go_simp) ⟨_, rfl, Below.refl _ _, rfl⟩
    · obtain ⟨y7, hy7, hz7⟩ := hval 7 _ 177 (by omega) (by rw [hl]; rfl) rfl (hedge [7, 8] (by simp) 7 (by simp))
      have hz7 : y7 = (r1.1.val) := hz7
      rw [hz7] at hy7
      have b177 := eval_get hy7
      obtain ⟨y8, hy8, hz8⟩ := hval 8 _ 178 (by omega) (by rw [hl]; rfl) rfl (hedge [7, 8] (by simp) 8 (by simp))
      have hz8 : y8 = (Value.int .i64 r1.2) := hz8
      rw [hz8] at hy8
      have b178 := eval_get hy8
      rw [hl] at ho
      injection ho with ho
      subst ho
      refine wpOp_call ho' rfl rfl (args := #[r1.1.val, Value.int .i64 r1.2]) (by simp [b177, b178]) (cf18 _ _) ((h9 w  hb ).mono ?_)
      rintro e w' ⟨rfl, hb2⟩
      exact ⟨_, rfl, _, rfl, hb2, rfl⟩
    · rw [hl] at ho
      injection ho with ho
      subst ho
      exact wpOp_alloc ho' rfl rfl (zero_frac w) ⟨_, rfl, (Below.refl _ _).alloc (Nat.le_refl _) _, h10 w hb⟩
  · intro val w hb hrows
    have q0 : val 0 = (fo.val) := hrows 0 (by omega)
    have q1 : val 1 = (Value.slice (some ⟨g1, o1, none⟩) n c1) := hrows 1 (by omega)
    have q2 : val 2 = (Value.int .i64 (kk : Int)) := hrows 2 (by omega)
    have q3 : val 3 = (Value.pointer (some ⟨g1, o1 + kk * 34, none⟩)) := hrows 3 (by omega)
    have q4 : val 4 = (Value.pointer (some ⟨g1, o1 + kk * 34, none⟩)) := hrows 4 (by omega)
    have q5 : val 5 = (f1.val) := hrows 5 (by omega)
    have q6 : val 6 = (Value.tuple #[r1.1.val, .int .i64 r1.2]) := hrows 6 (by omega)
    have q7 : val 7 = (r1.1.val) := hrows 7 (by omega)
    have q8 : val 8 = (Value.int .i64 r1.2) := hrows 8 (by omega)
    have q9 : val 9 = (r1.1.val) := hrows 9 (by omega)
    have q10 : R10 (val 10) w := hrows 10 (by omega)
    have hF := hK (val 10) w hb q10
    subst hl
    simp only [List.take_succ_cons, List.take_zero, putAll, Nat.zero_add, Nat.reduceAdd, q0, q1, q2, q3, q4, q5, q6, q7, q8, q9]
    exact hF

set_option maxRecDepth 100000 in
set_option maxHeartbeats 4000000 in
theorem region_turnsB {id : Nat} {Q : Exit → Act → World → Prop} {a0 : Act} {w0 : World} {l : List Oper} {n kk nn p g1 o1 c1 g2 o2 c2 g3 o3 c3 g25 : Nat} {s1 s2 s3 : Str} {fn fb : FracV} (hk : (kk : Int) < (n : Int)) (hp : (p : Int) < (n : Int)) (wp : IntKind.i64.wrap ((nn : Int) - (kk : Int)) = (p : Int))
    {t0 t1 t2 t3 t4 t5 t6 t7 t8 t9 t10 t11 t12 t13 t14 t15 t16 t17 t18 t19 t20 t21 t22 t23 t24 : TypeId} {x0 x1 x2 x3 x4 x5 x6 x7 x8 x9 x10 x11 x12 x13 x14 x15 x16 x17 x18 x19 x20 x21 x22 x23 x24 : String} {e0 e1 e2 e3 e4 e5 e6 e7 e8 e9 e10 e11 e12 e13 e14 e15 e16 e17 e18 e19 e20 e21 e22 e23 e24 : Array Edge}
    (hl : l = [⟨some 180, .move (.tmp 18), t0, x0, e0, none⟩,
      ⟨some 181, .move (.tmp 24), t1, x1, e1, none⟩,
      ⟨some 182, .indexAddr 26 (.tmp 180) (.tmp 181), t2, x2, e2, none⟩,
      ⟨some 183, .load 40 (.tmp 182), t3, x3, e3, none⟩,
      ⟨some 184, .move (.tmp 20), t4, x4, e4, none⟩,
      ⟨some 185, .move (.tmp 24), t5, x5, e5, none⟩,
      ⟨some 186, .indexAddr 26 (.tmp 184) (.tmp 185), t6, x6, e6, none⟩,
      ⟨some 187, .load 40 (.tmp 186), t7, x7, e7, none⟩,
      ⟨some 188, .binOp .neq 40 (.tmp 183) (.tmp 187) 40, t8, x8, e8, none⟩,
      ⟨some 189, .move (.tmp 188), t9, x9, e9, none⟩,
      ⟨some 190, .move (.tmp 22), t10, x10, e10, some (9, false)⟩,
      ⟨some 191, .move (.tmp 7), t11, x11, e11, some (9, false)⟩,
      ⟨some 192, .move (.tmp 24), t12, x12, e12, some (9, false)⟩,
      ⟨some 193, .binOp .sub 3 (.tmp 191) (.tmp 192) 3, t13, x13, e13, some (9, false)⟩,
      ⟨some 194, .indexAddr 26 (.tmp 190) (.tmp 193), t14, x14, e14, some (9, false)⟩,
      ⟨some 195, .load 40 (.tmp 194), t15, x15, e15, some (9, false)⟩,
      ⟨some 196, .load 37 (.tmp 25), t16, x16, e16, some (9, false)⟩,
      ⟨some 197, .move (.tmp 18), t17, x17, e17, some (9, false)⟩,
      ⟨some 198, .move (.tmp 24), t18, x18, e18, some (9, false)⟩,
      ⟨some 199, .indexAddr 26 (.tmp 197) (.tmp 198), t19, x19, e19, some (9, false)⟩,
      ⟨some 200, .fieldAddr 40 (.tmp 199) 1, t20, x20, e20, some (9, false)⟩,
      ⟨some 201, .load 37 (.tmp 200), t21, x21, e21, some (9, false)⟩,
      ⟨some 202, .build 40 #[(0, .tmp 196), (1, .tmp 201)], t22, x22, e22, some (9, false)⟩,
      ⟨some 203, .binOp .neq 40 (.tmp 195) (.tmp 202) 40, t23, x23, e23, some (9, false)⟩,
      ⟨some 204, .pick (.tmp 189) (.const (.bool true)) (.tmp 203), t24, x24, e24, none⟩])
    (hO : orderB l 25 = true) (hd : dstsB l 25 a0.tmps.size = true) (hpre : preB l.toArray [(2, [0, 1]), (3, [2]), (6, [4, 5]), (7, [6]), (8, [3, 7]), (9, [8]), (10, [9]), (11, [9]), (12, [9]), (13, [11, 12, 9]), (14, [10, 13, 9]), (15, [14, 9]), (16, [9]), (17, [9]), (18, [9]), (19, [17, 18, 9]), (20, [19, 9]), (21, [20, 9]), (22, [16, 21, 9]), (23, [15, 22, 9]), (24, [9, 23])] = true)
     (k7 : a0.tmps[7]? = some (Value.int .i64 (nn : Int))) (k18 : a0.tmps[18]? = some (Value.slice (some ⟨g1, o1, none⟩) n c1)) (k20 : a0.tmps[20]? = some (Value.slice (some ⟨g2, o2, none⟩) n c2)) (k22 : a0.tmps[22]? = some (Value.slice (some ⟨g3, o3, none⟩) n c3)) (k24 : a0.tmps[24]? = some (Value.int .i64 (kk : Int))) (k25 : a0.tmps[25]? = some (Value.pointer (some ⟨g25, 0, none⟩)))
    (h3 : ∀ w, From w0 w → (loadVar 40 ⟨g1, o1 + kk * 34, none⟩).run Try.prog w = .ok s1.val w)
    (h7 : ∀ w, From w0 w → (loadVar 40 ⟨g2, o2 + kk * 34, none⟩).run Try.prog w = .ok s2.val w)
    (h8 : ∀ (a : Act) (w : World), a.eval (.tmp 183) = (s1.val) → a.eval (.tmp 187) = (s2.val) → (execOp a.eval ⟨some 188, .binOp .neq 40 (.tmp 183) (.tmp 187) 40, t8, x8, e8, none⟩).run Try.prog w = .ok (.value (Value.bool false)) w)
    (h15 : ∀ w, From w0 w → (loadVar 40 ⟨g3, o3 + p * 34, none⟩).run Try.prog w = .ok s3.val w)
    (h16 : ∀ w, From w0 w → (loadVar 37 ⟨g25, 0, none⟩).run Try.prog w = .ok fn.val w)
    (h21 : ∀ w, From w0 w → (loadVar 37 ⟨g1, o1 + kk * 34 + 17, none⟩).run Try.prog w = .ok fb.val w)
    (h22 : ∀ (a : Act) (w : World), a.eval (.tmp 196) = (fn.val) → a.eval (.tmp 201) = (fb.val) → (execOp a.eval ⟨some 202, .build 40 #[(0, .tmp 196), (1, .tmp 201)], t22, x22, e22, some (9, false)⟩).run Try.prog w = .ok (.value (Str.val ⟨fn, fb⟩)) w)
    (h23 : ∀ (a : Act) (w : World), a.eval (.tmp 195) = (s3.val) → a.eval (.tmp 202) = (Str.val ⟨fn, fb⟩) → (execOp a.eval ⟨some 203, .binOp .neq 40 (.tmp 195) (.tmp 202) 40, t23, x23, e23, some (9, false)⟩).run Try.prog w = .ok (.value (Value.bool false)) w)
    (hK : ∀  w, From w0 w → wpList Try.prog l.toArray Q (l.drop 25) (((((((((((((((((((((((((a0.put (some 180) (Value.slice (some ⟨g1, o1, none⟩) n c1)).put (some 181) (Value.int .i64 (kk : Int))).put (some 182) (Value.pointer (some ⟨g1, o1 + kk * 34, none⟩))).put (some 183) (s1.val)).put (some 184) (Value.slice (some ⟨g2, o2, none⟩) n c2)).put (some 185) (Value.int .i64 (kk : Int))).put (some 186) (Value.pointer (some ⟨g2, o2 + kk * 34, none⟩))).put (some 187) (s2.val)).put (some 188) (Value.bool false)).put (some 189) (Value.bool false)).put (some 190) (Value.slice (some ⟨g3, o3, none⟩) n c3)).put (some 191) (Value.int .i64 (nn : Int))).put (some 192) (Value.int .i64 (kk : Int))).put (some 193) (Value.int .i64 (p : Int))).put (some 194) (Value.pointer (some ⟨g3, o3 + p * 34, none⟩))).put (some 195) (s3.val)).put (some 196) (fn.val)).put (some 197) (Value.slice (some ⟨g1, o1, none⟩) n c1)).put (some 198) (Value.int .i64 (kk : Int))).put (some 199) (Value.pointer (some ⟨g1, o1 + kk * 34, none⟩))).put (some 200) (Value.pointer (some ⟨g1, o1 + kk * 34 + 17, none⟩))).put (some 201) (fb.val)).put (some 202) (Str.val ⟨fn, fb⟩)).put (some 203) (Value.bool false)).put (some 204) (Value.bool false)) w) :
    (Code.region id l.toArray true).wp Try.prog Q a0 w0 := by
  have hlen : l.length = 25 := by rw [hl]; rfl
  have hpz := List.all_eq_true.1 hpre
  refine wp_region_keep 25 (fun i v w => match i with
    | 0 => v = (Value.slice (some ⟨g1, o1, none⟩) n c1)
    | 1 => v = (Value.int .i64 (kk : Int))
    | 2 => v = (Value.pointer (some ⟨g1, o1 + kk * 34, none⟩))
    | 3 => v = (s1.val)
    | 4 => v = (Value.slice (some ⟨g2, o2, none⟩) n c2)
    | 5 => v = (Value.int .i64 (kk : Int))
    | 6 => v = (Value.pointer (some ⟨g2, o2 + kk * 34, none⟩))
    | 7 => v = (s2.val)
    | 8 => v = (Value.bool false)
    | 9 => v = (Value.bool false)
    | 10 => v = (Value.slice (some ⟨g3, o3, none⟩) n c3)
    | 11 => v = (Value.int .i64 (nn : Int))
    | 12 => v = (Value.int .i64 (kk : Int))
    | 13 => v = (Value.int .i64 (p : Int))
    | 14 => v = (Value.pointer (some ⟨g3, o3 + p * 34, none⟩))
    | 15 => v = (s3.val)
    | 16 => v = (fn.val)
    | 17 => v = (Value.slice (some ⟨g1, o1, none⟩) n c1)
    | 18 => v = (Value.int .i64 (kk : Int))
    | 19 => v = (Value.pointer (some ⟨g1, o1 + kk * 34, none⟩))
    | 20 => v = (Value.pointer (some ⟨g1, o1 + kk * 34 + 17, none⟩))
    | 21 => v = (fb.val)
    | 22 => v = (Str.val ⟨fn, fb⟩)
    | 23 => v = (Value.bool false)
    | 24 => v = (Value.bool false)
    | _ => True) ?_ (by kernel_rfl) hO (by omega) hd ?_ ?_
  · intro i v w w' h hb
    match i, h with
    | 0, h => exact h
    | 1, h => exact h
    | 2, h => exact h
    | 3, h => exact h
    | 4, h => exact h
    | 5, h => exact h
    | 6, h => exact h
    | 7, h => exact h
    | 8, h => exact h
    | 9, h => exact h
    | 10, h => exact h
    | 11, h => exact h
    | 12, h => exact h
    | 13, h => exact h
    | 14, h => exact h
    | 15, h => exact h
    | 16, h => exact h
    | 17, h => exact h
    | 18, h => exact h
    | 19, h => exact h
    | 20, h => exact h
    | 21, h => exact h
    | 22, h => exact h
    | 23, h => exact h
    | 24, h => exact h
    | _ + 25, _ => trivial
  · intro i o hi ho a w hb hval hold
    have ho' : l.toArray[i]? = some o := by simpa using ho
    have hedge : ∀ js, (i, js) ∈ ([(2, [0, 1]), (3, [2]), (6, [4, 5]), (7, [6]), (8, [3, 7]), (9, [8]), (10, [9]), (11, [9]), (12, [9]), (13, [11, 12, 9]), (14, [10, 13, 9]), (15, [14, 9]), (16, [9]), (17, [9]), (18, [9]), (19, [17, 18, 9]), (20, [19, 9]), (21, [20, 9]), (22, [16, 21, 9]), (23, [15, 22, 9]), (24, [9, 23])] : List (Nat × List Nat)) → ∀ j ∈ js, (o.after.any fun e => Region.binds .any e && e.on == j) = true := fun js hm j hj => by
      have h1 := List.all_eq_true.1 (hpz _ hm) j hj
      rw [ho'] at h1
      simpa using h1
    have hcase : i = 0 ∨ i = 1 ∨ i = 2 ∨ i = 3 ∨ i = 4 ∨ i = 5 ∨ i = 6 ∨ i = 7 ∨ i = 8 ∨ i = 9 ∨ i = 10 ∨ i = 11 ∨ i = 12 ∨ i = 13 ∨ i = 14 ∨ i = 15 ∨ i = 16 ∨ i = 17 ∨ i = 18 ∨ i = 19 ∨ i = 20 ∨ i = 21 ∨ i = 22 ∨ i = 23 ∨ i = 24 := by omega
    rcases hcase with rfl | rfl | rfl | rfl | rfl | rfl | rfl | rfl | rfl | rfl | rfl | rfl | rfl | rfl | rfl | rfl | rfl | rfl | rfl | rfl | rfl | rfl | rfl | rfl | rfl
    · have b18 := eval_get ((hold 18 (by rw [hl]; rfl)).trans k18)
      rw [hl] at ho
      injection ho with ho
      subst ho
      exact wpOp_value ho' rfl (v := (Value.slice (some ⟨g1, o1, none⟩) n c1)) (w' := w) (by go_simp) ⟨_, rfl, Below.refl _ _, rfl⟩
    · have b24 := eval_get ((hold 24 (by rw [hl]; rfl)).trans k24)
      rw [hl] at ho
      injection ho with ho
      subst ho
      exact wpOp_value ho' rfl (v := (Value.int .i64 (kk : Int))) (w' := w) (by go_simp) ⟨_, rfl, Below.refl _ _, rfl⟩
    · obtain ⟨y0, hy0, hz0⟩ := hval 0 _ 180 (by omega) (by rw [hl]; rfl) rfl (hedge [0, 1] (by simp) 0 (by simp))
      have hz0 : y0 = (Value.slice (some ⟨g1, o1, none⟩) n c1) := hz0
      rw [hz0] at hy0
      have b180 := eval_get hy0
      obtain ⟨y1, hy1, hz1⟩ := hval 1 _ 181 (by omega) (by rw [hl]; rfl) rfl (hedge [0, 1] (by simp) 1 (by simp))
      have hz1 : y1 = (Value.int .i64 (kk : Int)) := hz1
      rw [hz1] at hy1
      have b181 := eval_get hy1
      rw [hl] at ho
      injection ho with ho
      subst ho
      exact wpOp_value ho' rfl (v := (Value.pointer (some ⟨g1, o1 + kk * 34, none⟩))) (w' := w) (by go_simp) ⟨_, rfl, Below.refl _ _, rfl⟩
    · obtain ⟨y2, hy2, hz2⟩ := hval 2 _ 182 (by omega) (by rw [hl]; rfl) rfl (hedge [2] (by simp) 2 (by simp))
      have hz2 : y2 = (Value.pointer (some ⟨g1, o1 + kk * 34, none⟩)) := hz2
      rw [hz2] at hy2
      have b182 := eval_get hy2
      rw [hl] at ho
      injection ho with ho
      subst ho
      exact wpOp_load ho' rfl rfl b182 (h3 w hb) ⟨_, rfl, Below.refl _ _, rfl⟩
    · have b20 := eval_get ((hold 20 (by rw [hl]; rfl)).trans k20)
      rw [hl] at ho
      injection ho with ho
      subst ho
      exact wpOp_value ho' rfl (v := (Value.slice (some ⟨g2, o2, none⟩) n c2)) (w' := w) (by go_simp) ⟨_, rfl, Below.refl _ _, rfl⟩
    · have b24 := eval_get ((hold 24 (by rw [hl]; rfl)).trans k24)
      rw [hl] at ho
      injection ho with ho
      subst ho
      exact wpOp_value ho' rfl (v := (Value.int .i64 (kk : Int))) (w' := w) (by go_simp) ⟨_, rfl, Below.refl _ _, rfl⟩
    · obtain ⟨y4, hy4, hz4⟩ := hval 4 _ 184 (by omega) (by rw [hl]; rfl) rfl (hedge [4, 5] (by simp) 4 (by simp))
      have hz4 : y4 = (Value.slice (some ⟨g2, o2, none⟩) n c2) := hz4
      rw [hz4] at hy4
      have b184 := eval_get hy4
      obtain ⟨y5, hy5, hz5⟩ := hval 5 _ 185 (by omega) (by rw [hl]; rfl) rfl (hedge [4, 5] (by simp) 5 (by simp))
      have hz5 : y5 = (Value.int .i64 (kk : Int)) := hz5
      rw [hz5] at hy5
      have b185 := eval_get hy5
      rw [hl] at ho
      injection ho with ho
      subst ho
      exact wpOp_value ho' rfl (v := (Value.pointer (some ⟨g2, o2 + kk * 34, none⟩))) (w' := w) (by go_simp) ⟨_, rfl, Below.refl _ _, rfl⟩
    · obtain ⟨y6, hy6, hz6⟩ := hval 6 _ 186 (by omega) (by rw [hl]; rfl) rfl (hedge [6] (by simp) 6 (by simp))
      have hz6 : y6 = (Value.pointer (some ⟨g2, o2 + kk * 34, none⟩)) := hz6
      rw [hz6] at hy6
      have b186 := eval_get hy6
      rw [hl] at ho
      injection ho with ho
      subst ho
      exact wpOp_load ho' rfl rfl b186 (h7 w hb) ⟨_, rfl, Below.refl _ _, rfl⟩
    · obtain ⟨y3, hy3, hz3⟩ := hval 3 _ 183 (by omega) (by rw [hl]; rfl) rfl (hedge [3, 7] (by simp) 3 (by simp))
      have hz3 : y3 = (s1.val) := hz3
      rw [hz3] at hy3
      have b183 := eval_get hy3
      obtain ⟨y7, hy7, hz7⟩ := hval 7 _ 187 (by omega) (by rw [hl]; rfl) rfl (hedge [3, 7] (by simp) 7 (by simp))
      have hz7 : y7 = (s2.val) := hz7
      rw [hz7] at hy7
      have b187 := eval_get hy7
      rw [hl] at ho
      injection ho with ho
      subst ho
      exact wpOp_value ho' rfl (h8 a w b183 b187) ⟨_, rfl, Below.refl _ _, rfl⟩
    · obtain ⟨y8, hy8, hz8⟩ := hval 8 _ 188 (by omega) (by rw [hl]; rfl) rfl (hedge [8] (by simp) 8 (by simp))
      have hz8 : y8 = (Value.bool false) := hz8
      rw [hz8] at hy8
      have b188 := eval_get hy8
      rw [hl] at ho
      injection ho with ho
      subst ho
      exact wpOp_value ho' rfl (v := (Value.bool false)) (w' := w) (by go_simp) ⟨_, rfl, Below.refl _ _, rfl⟩
    · have b22 := eval_get ((hold 22 (by rw [hl]; rfl)).trans k22)
      obtain ⟨y9, hy9, hz9⟩ := hval 9 _ 189 (by omega) (by rw [hl]; rfl) rfl (hedge [9] (by simp) 9 (by simp))
      have hz9 : y9 = (Value.bool false) := hz9
      rw [hz9] at hy9
      have b189 := eval_get hy9
      rw [hl] at ho
      injection ho with ho
      subst ho
      have hwt := wanted_some (ops := l.toArray) (a := a) (o := ⟨some 190, .move (.tmp 22), t10, x10, e10, some (9, false)⟩) (r := true) rfl (show l.toArray[9]? = some _ by rw [hl]; rfl) rfl hy9 rfl
      exact wpOp_valueW ho' hwt (v := (Value.slice (some ⟨g3, o3, none⟩) n c3)) (w' := w) (by go_simp) ⟨_, rfl, Below.refl _ _, rfl⟩
    · have b7 := eval_get ((hold 7 (by rw [hl]; rfl)).trans k7)
      obtain ⟨y9, hy9, hz9⟩ := hval 9 _ 189 (by omega) (by rw [hl]; rfl) rfl (hedge [9] (by simp) 9 (by simp))
      have hz9 : y9 = (Value.bool false) := hz9
      rw [hz9] at hy9
      have b189 := eval_get hy9
      rw [hl] at ho
      injection ho with ho
      subst ho
      have hwt := wanted_some (ops := l.toArray) (a := a) (o := ⟨some 191, .move (.tmp 7), t11, x11, e11, some (9, false)⟩) (r := true) rfl (show l.toArray[9]? = some _ by rw [hl]; rfl) rfl hy9 rfl
      exact wpOp_valueW ho' hwt (v := (Value.int .i64 (nn : Int))) (w' := w) (by go_simp) ⟨_, rfl, Below.refl _ _, rfl⟩
    · have b24 := eval_get ((hold 24 (by rw [hl]; rfl)).trans k24)
      obtain ⟨y9, hy9, hz9⟩ := hval 9 _ 189 (by omega) (by rw [hl]; rfl) rfl (hedge [9] (by simp) 9 (by simp))
      have hz9 : y9 = (Value.bool false) := hz9
      rw [hz9] at hy9
      have b189 := eval_get hy9
      rw [hl] at ho
      injection ho with ho
      subst ho
      have hwt := wanted_some (ops := l.toArray) (a := a) (o := ⟨some 192, .move (.tmp 24), t12, x12, e12, some (9, false)⟩) (r := true) rfl (show l.toArray[9]? = some _ by rw [hl]; rfl) rfl hy9 rfl
      exact wpOp_valueW ho' hwt (v := (Value.int .i64 (kk : Int))) (w' := w) (by go_simp) ⟨_, rfl, Below.refl _ _, rfl⟩
    · obtain ⟨y11, hy11, hz11⟩ := hval 11 _ 191 (by omega) (by rw [hl]; rfl) rfl (hedge [11, 12, 9] (by simp) 11 (by simp))
      have hz11 : y11 = (Value.int .i64 (nn : Int)) := hz11
      rw [hz11] at hy11
      have b191 := eval_get hy11
      obtain ⟨y12, hy12, hz12⟩ := hval 12 _ 192 (by omega) (by rw [hl]; rfl) rfl (hedge [11, 12, 9] (by simp) 12 (by simp))
      have hz12 : y12 = (Value.int .i64 (kk : Int)) := hz12
      rw [hz12] at hy12
      have b192 := eval_get hy12
      obtain ⟨y9, hy9, hz9⟩ := hval 9 _ 189 (by omega) (by rw [hl]; rfl) rfl (hedge [11, 12, 9] (by simp) 9 (by simp))
      have hz9 : y9 = (Value.bool false) := hz9
      rw [hz9] at hy9
      have b189 := eval_get hy9
      rw [hl] at ho
      injection ho with ho
      subst ho
      have hwt := wanted_some (ops := l.toArray) (a := a) (o := ⟨some 193, .binOp .sub 3 (.tmp 191) (.tmp 192) 3, t13, x13, e13, some (9, false)⟩) (r := true) rfl (show l.toArray[9]? = some _ by rw [hl]; rfl) rfl hy9 rfl
      exact wpOp_valueW ho' hwt (v := (Value.int .i64 (p : Int))) (w' := w) (by go_simp) ⟨_, rfl, Below.refl _ _, rfl⟩
    · obtain ⟨y10, hy10, hz10⟩ := hval 10 _ 190 (by omega) (by rw [hl]; rfl) rfl (hedge [10, 13, 9] (by simp) 10 (by simp))
      have hz10 : y10 = (Value.slice (some ⟨g3, o3, none⟩) n c3) := hz10
      rw [hz10] at hy10
      have b190 := eval_get hy10
      obtain ⟨y13, hy13, hz13⟩ := hval 13 _ 193 (by omega) (by rw [hl]; rfl) rfl (hedge [10, 13, 9] (by simp) 13 (by simp))
      have hz13 : y13 = (Value.int .i64 (p : Int)) := hz13
      rw [hz13] at hy13
      have b193 := eval_get hy13
      obtain ⟨y9, hy9, hz9⟩ := hval 9 _ 189 (by omega) (by rw [hl]; rfl) rfl (hedge [10, 13, 9] (by simp) 9 (by simp))
      have hz9 : y9 = (Value.bool false) := hz9
      rw [hz9] at hy9
      have b189 := eval_get hy9
      rw [hl] at ho
      injection ho with ho
      subst ho
      have hwt := wanted_some (ops := l.toArray) (a := a) (o := ⟨some 194, .indexAddr 26 (.tmp 190) (.tmp 193), t14, x14, e14, some (9, false)⟩) (r := true) rfl (show l.toArray[9]? = some _ by rw [hl]; rfl) rfl hy9 rfl
      exact wpOp_valueW ho' hwt (v := (Value.pointer (some ⟨g3, o3 + p * 34, none⟩))) (w' := w) (by go_simp) ⟨_, rfl, Below.refl _ _, rfl⟩
    · obtain ⟨y14, hy14, hz14⟩ := hval 14 _ 194 (by omega) (by rw [hl]; rfl) rfl (hedge [14, 9] (by simp) 14 (by simp))
      have hz14 : y14 = (Value.pointer (some ⟨g3, o3 + p * 34, none⟩)) := hz14
      rw [hz14] at hy14
      have b194 := eval_get hy14
      obtain ⟨y9, hy9, hz9⟩ := hval 9 _ 189 (by omega) (by rw [hl]; rfl) rfl (hedge [14, 9] (by simp) 9 (by simp))
      have hz9 : y9 = (Value.bool false) := hz9
      rw [hz9] at hy9
      have b189 := eval_get hy9
      rw [hl] at ho
      injection ho with ho
      subst ho
      have hwt := wanted_some (ops := l.toArray) (a := a) (o := ⟨some 195, .load 40 (.tmp 194), t15, x15, e15, some (9, false)⟩) (r := true) rfl (show l.toArray[9]? = some _ by rw [hl]; rfl) rfl hy9 rfl
      exact wpOp_loadW ho' hwt rfl b194 (h15 w hb) ⟨_, rfl, Below.refl _ _, rfl⟩
    · have b25 := eval_get ((hold 25 (by rw [hl]; rfl)).trans k25)
      obtain ⟨y9, hy9, hz9⟩ := hval 9 _ 189 (by omega) (by rw [hl]; rfl) rfl (hedge [9] (by simp) 9 (by simp))
      have hz9 : y9 = (Value.bool false) := hz9
      rw [hz9] at hy9
      have b189 := eval_get hy9
      rw [hl] at ho
      injection ho with ho
      subst ho
      have hwt := wanted_some (ops := l.toArray) (a := a) (o := ⟨some 196, .load 37 (.tmp 25), t16, x16, e16, some (9, false)⟩) (r := true) rfl (show l.toArray[9]? = some _ by rw [hl]; rfl) rfl hy9 rfl
      exact wpOp_loadW ho' hwt rfl b25 (h16 w hb) ⟨_, rfl, Below.refl _ _, rfl⟩
    · have b18 := eval_get ((hold 18 (by rw [hl]; rfl)).trans k18)
      obtain ⟨y9, hy9, hz9⟩ := hval 9 _ 189 (by omega) (by rw [hl]; rfl) rfl (hedge [9] (by simp) 9 (by simp))
      have hz9 : y9 = (Value.bool false) := hz9
      rw [hz9] at hy9
      have b189 := eval_get hy9
      rw [hl] at ho
      injection ho with ho
      subst ho
      have hwt := wanted_some (ops := l.toArray) (a := a) (o := ⟨some 197, .move (.tmp 18), t17, x17, e17, some (9, false)⟩) (r := true) rfl (show l.toArray[9]? = some _ by rw [hl]; rfl) rfl hy9 rfl
      exact wpOp_valueW ho' hwt (v := (Value.slice (some ⟨g1, o1, none⟩) n c1)) (w' := w) (by go_simp) ⟨_, rfl, Below.refl _ _, rfl⟩
    · have b24 := eval_get ((hold 24 (by rw [hl]; rfl)).trans k24)
      obtain ⟨y9, hy9, hz9⟩ := hval 9 _ 189 (by omega) (by rw [hl]; rfl) rfl (hedge [9] (by simp) 9 (by simp))
      have hz9 : y9 = (Value.bool false) := hz9
      rw [hz9] at hy9
      have b189 := eval_get hy9
      rw [hl] at ho
      injection ho with ho
      subst ho
      have hwt := wanted_some (ops := l.toArray) (a := a) (o := ⟨some 198, .move (.tmp 24), t18, x18, e18, some (9, false)⟩) (r := true) rfl (show l.toArray[9]? = some _ by rw [hl]; rfl) rfl hy9 rfl
      exact wpOp_valueW ho' hwt (v := (Value.int .i64 (kk : Int))) (w' := w) (by go_simp) ⟨_, rfl, Below.refl _ _, rfl⟩
    · obtain ⟨y17, hy17, hz17⟩ := hval 17 _ 197 (by omega) (by rw [hl]; rfl) rfl (hedge [17, 18, 9] (by simp) 17 (by simp))
      have hz17 : y17 = (Value.slice (some ⟨g1, o1, none⟩) n c1) := hz17
      rw [hz17] at hy17
      have b197 := eval_get hy17
      obtain ⟨y18, hy18, hz18⟩ := hval 18 _ 198 (by omega) (by rw [hl]; rfl) rfl (hedge [17, 18, 9] (by simp) 18 (by simp))
      have hz18 : y18 = (Value.int .i64 (kk : Int)) := hz18
      rw [hz18] at hy18
      have b198 := eval_get hy18
      obtain ⟨y9, hy9, hz9⟩ := hval 9 _ 189 (by omega) (by rw [hl]; rfl) rfl (hedge [17, 18, 9] (by simp) 9 (by simp))
      have hz9 : y9 = (Value.bool false) := hz9
      rw [hz9] at hy9
      have b189 := eval_get hy9
      rw [hl] at ho
      injection ho with ho
      subst ho
      have hwt := wanted_some (ops := l.toArray) (a := a) (o := ⟨some 199, .indexAddr 26 (.tmp 197) (.tmp 198), t19, x19, e19, some (9, false)⟩) (r := true) rfl (show l.toArray[9]? = some _ by rw [hl]; rfl) rfl hy9 rfl
      exact wpOp_valueW ho' hwt (v := (Value.pointer (some ⟨g1, o1 + kk * 34, none⟩))) (w' := w) (by go_simp) ⟨_, rfl, Below.refl _ _, rfl⟩
    · obtain ⟨y19, hy19, hz19⟩ := hval 19 _ 199 (by omega) (by rw [hl]; rfl) rfl (hedge [19, 9] (by simp) 19 (by simp))
      have hz19 : y19 = (Value.pointer (some ⟨g1, o1 + kk * 34, none⟩)) := hz19
      rw [hz19] at hy19
      have b199 := eval_get hy19
      obtain ⟨y9, hy9, hz9⟩ := hval 9 _ 189 (by omega) (by rw [hl]; rfl) rfl (hedge [19, 9] (by simp) 9 (by simp))
      have hz9 : y9 = (Value.bool false) := hz9
      rw [hz9] at hy9
      have b189 := eval_get hy9
      rw [hl] at ho
      injection ho with ho
      subst ho
      have hwt := wanted_some (ops := l.toArray) (a := a) (o := ⟨some 200, .fieldAddr 40 (.tmp 199) 1, t20, x20, e20, some (9, false)⟩) (r := true) rfl (show l.toArray[9]? = some _ by rw [hl]; rfl) rfl hy9 rfl
      exact wpOp_valueW ho' hwt (v := (Value.pointer (some ⟨g1, o1 + kk * 34 + 17, none⟩))) (w' := w) (by go_simp) ⟨_, rfl, Below.refl _ _, rfl⟩
    · obtain ⟨y20, hy20, hz20⟩ := hval 20 _ 200 (by omega) (by rw [hl]; rfl) rfl (hedge [20, 9] (by simp) 20 (by simp))
      have hz20 : y20 = (Value.pointer (some ⟨g1, o1 + kk * 34 + 17, none⟩)) := hz20
      rw [hz20] at hy20
      have b200 := eval_get hy20
      obtain ⟨y9, hy9, hz9⟩ := hval 9 _ 189 (by omega) (by rw [hl]; rfl) rfl (hedge [20, 9] (by simp) 9 (by simp))
      have hz9 : y9 = (Value.bool false) := hz9
      rw [hz9] at hy9
      have b189 := eval_get hy9
      rw [hl] at ho
      injection ho with ho
      subst ho
      have hwt := wanted_some (ops := l.toArray) (a := a) (o := ⟨some 201, .load 37 (.tmp 200), t21, x21, e21, some (9, false)⟩) (r := true) rfl (show l.toArray[9]? = some _ by rw [hl]; rfl) rfl hy9 rfl
      exact wpOp_loadW ho' hwt rfl b200 (h21 w hb) ⟨_, rfl, Below.refl _ _, rfl⟩
    · obtain ⟨y16, hy16, hz16⟩ := hval 16 _ 196 (by omega) (by rw [hl]; rfl) rfl (hedge [16, 21, 9] (by simp) 16 (by simp))
      have hz16 : y16 = (fn.val) := hz16
      rw [hz16] at hy16
      have b196 := eval_get hy16
      obtain ⟨y21, hy21, hz21⟩ := hval 21 _ 201 (by omega) (by rw [hl]; rfl) rfl (hedge [16, 21, 9] (by simp) 21 (by simp))
      have hz21 : y21 = (fb.val) := hz21
      rw [hz21] at hy21
      have b201 := eval_get hy21
      obtain ⟨y9, hy9, hz9⟩ := hval 9 _ 189 (by omega) (by rw [hl]; rfl) rfl (hedge [16, 21, 9] (by simp) 9 (by simp))
      have hz9 : y9 = (Value.bool false) := hz9
      rw [hz9] at hy9
      have b189 := eval_get hy9
      rw [hl] at ho
      injection ho with ho
      subst ho
      have hwt := wanted_some (ops := l.toArray) (a := a) (o := ⟨some 202, .build 40 #[(0, .tmp 196), (1, .tmp 201)], t22, x22, e22, some (9, false)⟩) (r := true) rfl (show l.toArray[9]? = some _ by rw [hl]; rfl) rfl hy9 rfl
      exact wpOp_valueW ho' hwt (h22 a w b196 b201) ⟨_, rfl, Below.refl _ _, rfl⟩
    · obtain ⟨y15, hy15, hz15⟩ := hval 15 _ 195 (by omega) (by rw [hl]; rfl) rfl (hedge [15, 22, 9] (by simp) 15 (by simp))
      have hz15 : y15 = (s3.val) := hz15
      rw [hz15] at hy15
      have b195 := eval_get hy15
      obtain ⟨y22, hy22, hz22⟩ := hval 22 _ 202 (by omega) (by rw [hl]; rfl) rfl (hedge [15, 22, 9] (by simp) 22 (by simp))
      have hz22 : y22 = (Str.val ⟨fn, fb⟩) := hz22
      rw [hz22] at hy22
      have b202 := eval_get hy22
      obtain ⟨y9, hy9, hz9⟩ := hval 9 _ 189 (by omega) (by rw [hl]; rfl) rfl (hedge [15, 22, 9] (by simp) 9 (by simp))
      have hz9 : y9 = (Value.bool false) := hz9
      rw [hz9] at hy9
      have b189 := eval_get hy9
      rw [hl] at ho
      injection ho with ho
      subst ho
      have hwt := wanted_some (ops := l.toArray) (a := a) (o := ⟨some 203, .binOp .neq 40 (.tmp 195) (.tmp 202) 40, t23, x23, e23, some (9, false)⟩) (r := true) rfl (show l.toArray[9]? = some _ by rw [hl]; rfl) rfl hy9 rfl
      exact wpOp_valueW ho' hwt (h23 a w b195 b202) ⟨_, rfl, Below.refl _ _, rfl⟩
    · obtain ⟨y9, hy9, hz9⟩ := hval 9 _ 189 (by omega) (by rw [hl]; rfl) rfl (hedge [9, 23] (by simp) 9 (by simp))
      have hz9 : y9 = (Value.bool false) := hz9
      rw [hz9] at hy9
      have b189 := eval_get hy9
      obtain ⟨y23, hy23, hz23⟩ := hval 23 _ 203 (by omega) (by rw [hl]; rfl) rfl (hedge [9, 23] (by simp) 23 (by simp))
      have hz23 : y23 = (Value.bool false) := hz23
      rw [hz23] at hy23
      have b203 := eval_get hy23
      rw [hl] at ho
      injection ho with ho
      subst ho
      exact wpOp_value ho' rfl (v := (Value.bool false)) (w' := w) (by go_simp) ⟨_, rfl, Below.refl _ _, rfl⟩
  · intro val w hb hrows
    have q0 : val 0 = (Value.slice (some ⟨g1, o1, none⟩) n c1) := hrows 0 (by omega)
    have q1 : val 1 = (Value.int .i64 (kk : Int)) := hrows 1 (by omega)
    have q2 : val 2 = (Value.pointer (some ⟨g1, o1 + kk * 34, none⟩)) := hrows 2 (by omega)
    have q3 : val 3 = (s1.val) := hrows 3 (by omega)
    have q4 : val 4 = (Value.slice (some ⟨g2, o2, none⟩) n c2) := hrows 4 (by omega)
    have q5 : val 5 = (Value.int .i64 (kk : Int)) := hrows 5 (by omega)
    have q6 : val 6 = (Value.pointer (some ⟨g2, o2 + kk * 34, none⟩)) := hrows 6 (by omega)
    have q7 : val 7 = (s2.val) := hrows 7 (by omega)
    have q8 : val 8 = (Value.bool false) := hrows 8 (by omega)
    have q9 : val 9 = (Value.bool false) := hrows 9 (by omega)
    have q10 : val 10 = (Value.slice (some ⟨g3, o3, none⟩) n c3) := hrows 10 (by omega)
    have q11 : val 11 = (Value.int .i64 (nn : Int)) := hrows 11 (by omega)
    have q12 : val 12 = (Value.int .i64 (kk : Int)) := hrows 12 (by omega)
    have q13 : val 13 = (Value.int .i64 (p : Int)) := hrows 13 (by omega)
    have q14 : val 14 = (Value.pointer (some ⟨g3, o3 + p * 34, none⟩)) := hrows 14 (by omega)
    have q15 : val 15 = (s3.val) := hrows 15 (by omega)
    have q16 : val 16 = (fn.val) := hrows 16 (by omega)
    have q17 : val 17 = (Value.slice (some ⟨g1, o1, none⟩) n c1) := hrows 17 (by omega)
    have q18 : val 18 = (Value.int .i64 (kk : Int)) := hrows 18 (by omega)
    have q19 : val 19 = (Value.pointer (some ⟨g1, o1 + kk * 34, none⟩)) := hrows 19 (by omega)
    have q20 : val 20 = (Value.pointer (some ⟨g1, o1 + kk * 34 + 17, none⟩)) := hrows 20 (by omega)
    have q21 : val 21 = (fb.val) := hrows 21 (by omega)
    have q22 : val 22 = (Str.val ⟨fn, fb⟩) := hrows 22 (by omega)
    have q23 : val 23 = (Value.bool false) := hrows 23 (by omega)
    have q24 : val 24 = (Value.bool false) := hrows 24 (by omega)
    have hF := hK  w hb 
    subst hl
    simp only [List.take_succ_cons, List.take_zero, putAll, Nat.zero_add, Nat.reduceAdd, q0, q1, q2, q3, q4, q5, q6, q7, q8, q9, q10, q11, q12, q13, q14, q15, q16, q17, q18, q19, q20, q21, q22, q23, q24]
    exact hF
end Go.Proofs.Ythlbcijlbgbooaa
