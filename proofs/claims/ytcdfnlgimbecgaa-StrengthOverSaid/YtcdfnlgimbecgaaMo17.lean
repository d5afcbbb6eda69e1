/-
  strength.sections: a weight is put into its section: the region that draws its order. (Printed by gen_st6.py.)
-/
import Derived.Test.YtcdfnlgimbecgaaMo15
import Derived.Test.YtcdfnlgimbecgaaMo16

namespace Go.Proofs.Ytcdfnlgimbecgaa
open Go.RowKit

theorem cf41 (w : World) (args : Array Value) : (callFunc 41 args).run Try.prog w = .ok (.enter 41 args) w := by
  go_simp

set_option maxRecDepth 100000 in
set_option maxHeartbeats 4000000 in
theorem region_put {id : Nat} {Q : Exit → Act → World → Prop} {a0 : Act} {w0 : World} {l : List Oper} {gq gw kk iw im : Nat} {kil xx k2 px : Int} {S0 S1 : Sec} (wI : IntKind.i64.wrap ((iw : Int) - 1) = (im : Int)) (wM : IntKind.i64.wrap (2 * kil) = k2) (wP : IntKind.i64.wrap (k2 * xx) = px) (hik : (im : Int) < (kk : Int))
    {t0 t1 t2 t3 t4 t5 t6 t7 t8 t9 t10 t11 t12 t13 t14 t15 t16 t17 t18 t19 : TypeId} {x0 x1 x2 x3 x4 x5 x6 x7 x8 x9 x10 x11 x12 x13 x14 x15 x16 x17 x18 x19 : String} {e0 e1 e2 e3 e4 e5 e6 e7 e8 e9 e10 e11 e12 e13 e14 e15 e16 e17 e18 e19 : Array Edge}
    (hl : l = [⟨some 109, .move (.tmp 9), t0, x0, e0, none⟩,
      ⟨some 110, .move (.tmp 16), t1, x1, e1, none⟩,
      ⟨some 111, .binOp .sub 3 (.tmp 110) (.const (.int .i64 1)) 3, t2, x2, e2, none⟩,
      ⟨some 112, .move (.tmp 9), t3, x3, e3, none⟩,
      ⟨some 113, .move (.tmp 16), t4, x4, e4, none⟩,
      ⟨some 114, .binOp .sub 3 (.tmp 113) (.const (.int .i64 1)) 3, t5, x5, e5, none⟩,
      ⟨some 115, .indexAddr 99 (.tmp 112) (.tmp 114), t6, x6, e6, none⟩,
      ⟨some 116, .load 103 (.tmp 115), t7, x7, e7, none⟩,
      ⟨some 117, .fieldAddr 46 (.tmp 15) 1, t8, x8, e8, none⟩,
      ⟨some 118, .load 3 (.tmp 117), t9, x9, e9, none⟩,
      ⟨some 119, .fieldAddr 46 (.tmp 15) 1, t10, x10, e10, none⟩,
      ⟨some 120, .load 3 (.tmp 119), t11, x11, e11, none⟩,
      ⟨some 121, .binOp .mul 3 (.const (.int .i64 2)) (.tmp 120) 3, t12, x12, e12, none⟩,
      ⟨some 122, .fieldAddr 46 (.tmp 15) 0, t13, x13, e13, none⟩,
      ⟨some 123, .load 3 (.tmp 122), t14, x14, e14, none⟩,
      ⟨some 124, .binOp .mul 3 (.tmp 121) (.tmp 123) 3, t15, x15, e15, none⟩,
      ⟨some 125, .build 103 #[(0, .tmp 118), (1, .tmp 124)], t16, x16, e16, none⟩,
      ⟨some 126, .call { callee := .value (.func 41), args := #[.tmp 116, .tmp 125], argTypes := #[103, 103] }, t17, x17, e17, none⟩,
      ⟨some 127, .indexAddr 99 (.tmp 109) (.tmp 111), t18, x18, e18, none⟩,
      ⟨none, .store 103 (.tmp 127) (.tmp 126), t19, x19, e19, none⟩])
    (hO : orderB l 19 = true) (hd : dstsB l 19 a0.tmps.size = true) (hpre : preB l.toArray [(2, [1]), (5, [4]), (6, [3, 5]), (7, [6]), (9, [8]), (11, [10]), (12, [11]), (14, [13]), (15, [12, 14]), (16, [9, 15]), (17, [7, 16]), (18, [0, 2])] = true)
     (k9 : a0.tmps[9]? = some (Value.slice (some ⟨gq, 0, none⟩) kk kk)) (k15 : a0.tmps[15]? = some (Value.pointer (some ⟨gw, 0, none⟩))) (k16 : a0.tmps[16]? = some (Value.int .i64 (iw : Int)))
    (h7 : ∀ w, From w0 w → (loadVar 103 ⟨gq, im * 6, none⟩).run Try.prog w = .ok S0.val w)
    (h9 : ∀ w, From w0 w → (loadVar 3 ⟨gw, 1, none⟩).run Try.prog w = .ok (Value.int .i64 kil) w)
    (h11 : ∀ w, From w0 w → (loadVar 3 ⟨gw, 1, none⟩).run Try.prog w = .ok (Value.int .i64 kil) w)
    (h14 : ∀ w, From w0 w → (loadVar 3 ⟨gw, 0, none⟩).run Try.prog w = .ok (Value.int .i64 xx) w)
    (h17 : ∀ w , From w0 w → Calls Try.prog 41 #[S0.val, Sec.val ⟨kil, px, 0, 0, 0, 0⟩] w fun e w' => e = .returned (S1.val) ∧ From w w')
    (hK : ∀  w, From w0 w → wpList Try.prog l.toArray Q (l.drop 19) (((((((((((((((((((a0.put (some 109) (Value.slice (some ⟨gq, 0, none⟩) kk kk)).put (some 110) (Value.int .i64 (iw : Int))).put (some 111) (Value.int .i64 (im : Int))).put (some 112) (Value.slice (some ⟨gq, 0, none⟩) kk kk)).put (some 113) (Value.int .i64 (iw : Int))).put (some 114) (Value.int .i64 (im : Int))).put (some 115) (Value.pointer (some ⟨gq, im * 6, none⟩))).put (some 116) (S0.val)).put (some 117) (Value.pointer (some ⟨gw, 1, none⟩))).put (some 118) ((Value.int .i64 kil))).put (some 119) (Value.pointer (some ⟨gw, 1, none⟩))).put (some 120) ((Value.int .i64 kil))).put (some 121) (Value.int .i64 k2)).put (some 122) (Value.pointer (some ⟨gw, 0, none⟩))).put (some 123) ((Value.int .i64 xx))).put (some 124) (Value.int .i64 px)).put (some 125) (Sec.val ⟨kil, px, 0, 0, 0, 0⟩)).put (some 126) (S1.val)).put (some 127) (Value.pointer (some ⟨gq, im * 6, none⟩))) w) :
    (Code.region id l.toArray true).wp Try.prog Q a0 w0 := by
  have hlen : l.length = 20 := by rw [hl]; rfl
  have hpz := List.all_eq_true.1 hpre
  refine wp_region_keep 19 (fun i v w => match i with
    | 0 => v = (Value.slice (some ⟨gq, 0, none⟩) kk kk)
    | 1 => v = (Value.int .i64 (iw : Int))
    | 2 => v = (Value.int .i64 (im : Int))
    | 3 => v = (Value.slice (some ⟨gq, 0, none⟩) kk kk)
    | 4 => v = (Value.int .i64 (iw : Int))
    | 5 => v = (Value.int .i64 (im : Int))
    | 6 => v = (Value.pointer (some ⟨gq, im * 6, none⟩))
    | 7 => v = (S0.val)
    | 8 => v = (Value.pointer (some ⟨gw, 1, none⟩))
    | 9 => v = ((Value.int .i64 kil))
    | 10 => v = (Value.pointer (some ⟨gw, 1, none⟩))
    | 11 => v = ((Value.int .i64 kil))
    | 12 => v = (Value.int .i64 k2)
    | 13 => v = (Value.pointer (some ⟨gw, 0, none⟩))
    | 14 => v = ((Value.int .i64 xx))
    | 15 => v = (Value.int .i64 px)
    | 16 => v = (Sec.val ⟨kil, px, 0, 0, 0, 0⟩)
    | 17 => v = (S1.val)
    | 18 => v = (Value.pointer (some ⟨gq, im * 6, none⟩))
    | _ => True) ?_ (by kernel_rfl) hO (by omega) hd ?_ ?_
  · intro i v w w' h hb
    match i, h with
    | 0, h => exact h
    | 1, h => exact h
    | 2, h => exact h
    | 3, h => exact h
    | 4, h => exact h
    | 5, h => exact h
    | 6, h => exact h
    | 7, h => exact h
    | 8, h => exact h
    | 9, h => exact h
    | 10, h => exact h
    | 11, h => exact h
    | 12, h => exact h
    | 13, h => exact h
    | 14, h => exact h
    | 15, h => exact h
    | 16, h => exact h
    | 17, h => exact h
    | 18, h => exact h
    | _ + 19, _ => trivial
  · intro i o hi ho a w hb hval hold
    have ho' : l.toArray[i]? = some o := by simpa using ho
    have hedge : ∀ js, (i, js) ∈ ([(2, [1]), (5, [4]), (6, [3, 5]), (7, [6]), (9, [8]), (11, [10]), (12, [11]), (14, [13]), (15, [12, 14]), (16, [9, 15]), (17, [7, 16]), (18, [0, 2])] : List (Nat × List Nat)) → ∀ j ∈ js, (o.after.any fun e => Region.binds .any e && e.on == j) = true := fun js hm j hj => by
      have h1 := List.all_eq_true.1 (hpz _ hm) j hj
      rw [ho'] at h1
      simpa using h1
    have hcase : i = 0 ∨ i = 1 ∨ i = 2 ∨ i = 3 ∨ i = 4 ∨ i = 5 ∨ i = 6 ∨ i = 7 ∨ i = 8 ∨ i = 9 ∨ i = 10 ∨ i = 11 ∨ i = 12 ∨ i = 13 ∨ i = 14 ∨ i = 15 ∨ i = 16 ∨ i = 17 ∨ i = 18 := by omega
    rcases hcase with rfl | rfl | rfl | rfl | rfl | rfl | rfl | rfl | rfl | rfl | rfl | rfl | rfl | rfl | rfl | rfl | rfl | rfl | rfl
    · have b9 := eval_get ((hold 9 (by rw [hl]; rfl)).trans k9)
      rw [hl] at ho
      injection ho with ho
      subst ho
      exact wpOp_value ho' rfl (v := (Value.slice (some ⟨gq, 0, none⟩) kk kk)) (w' := w) (by go_simp) ⟨_, rfl, Below.refl _ _, rfl⟩
    · have b16 := eval_get ((hold 16 (by rw [hl]; rfl)).trans k16)
      rw [hl] at ho
      injection ho with ho
      subst ho
      exact wpOp_value ho' rfl (v := (Value.int .i64 (iw : Int))) (w' := w) (by go_simp) ⟨_, rfl, Below.refl _ _, rfl⟩
    · obtain ⟨y1, hy1, hz1⟩ := hval 1 _ 110 (by omega) (by rw [hl]; rfl) rfl (hedge [1] (by simp) 1 (by simp))
      have hz1 : y1 = (Value.int .i64 (iw : Int)) := hz1
      rw [hz1] at hy1
      have b110 := eval_get hy1
      rw [hl] at ho
      injection ho with ho
      subst ho
      exact wpOp_value ho' rfl (v := (Value.int .i64 (im : Int))) (w' := w) (by go_simp) ⟨_, rfl, Below.refl _ _, rfl⟩
    · have b9 := eval_get ((hold 9 (by rw [hl]; rfl)).trans k9)
      rw [hl] at ho
      injection ho with ho
      subst ho
      exact wpOp_value ho' rfl (v := (Value.slice (some ⟨gq, 0, none⟩) kk kk)) (w' := w) (by go_simp) ⟨_, rfl, Below.refl _ _, rfl⟩
    · have b16 := eval_get ((hold 16 (by rw [hl]; rfl)).trans k16)
      rw [hl] at ho
      injection ho with ho
      subst ho
      exact wpOp_value ho' rfl (v := (Value.int .i64 (iw : Int))) (w' := w) (by go_simp) ⟨_, rfl, Below.refl _ _, rfl⟩
    · obtain ⟨y4, hy4, hz4⟩ := hval 4 _ 113 (by omega) (by rw [hl]; rfl) rfl (hedge [4] (by simp) 4 (by simp))
      have hz4 : y4 = (Value.int .i64 (iw : Int)) := hz4
      rw [hz4] at hy4
      have b113 := eval_get hy4
      rw [hl] at ho
      injection ho with ho
      subst ho
      exact wpOp_value ho' rfl (v := (Value.int .i64 (im : Int))) (w' := w) (by go_simp) ⟨_, rfl, Below.refl _ _, rfl⟩
    · obtain ⟨y3, hy3, hz3⟩ := hval 3 _ 112 (by omega) (by rw [hl]; rfl) rfl (hedge [3, 5] (by simp) 3 (by simp))
      have hz3 : y3 = (Value.slice (some ⟨gq, 0, none⟩) kk kk) := hz3
      rw [hz3] at hy3
      have b112 := eval_get hy3
      obtain ⟨y5, hy5, hz5⟩ := hval 5 _ 114 (by omega) (by rw [hl]; rfl) rfl (hedge [3, 5] (by simp) 5 (by simp))
      have hz5 : y5 = (Value.int .i64 (im : Int)) := hz5
      rw [hz5] at hy5
      have b114 := eval_get hy5
      rw [hl] at ho
      injection ho with ho
      subst ho
      exact wpOp_value ho' rfl (v := (Value.pointer (some ⟨gq, im * 6, none⟩))) (w' := w) (by go_simp) ⟨_, rfl, Below.refl _ _, rfl⟩
    · obtain ⟨y6, hy6, hz6⟩ := hval 6 _ 115 (by omega) (by rw [hl]; rfl) rfl (hedge [6] (by simp) 6 (by simp))
      have hz6 : y6 = (Value.pointer (some ⟨gq, im * 6, none⟩)) := hz6
      rw [hz6] at hy6
      have b115 := eval_get hy6
      rw [hl] at ho
      injection ho with ho
      subst ho
      exact wpOp_load ho' rfl rfl b115 (h7 w hb) ⟨_, rfl, Below.refl _ _, rfl⟩
    · have b15 := eval_get ((hold 15 (by rw [hl]; rfl)).trans k15)
      rw [hl] at ho
      injection ho with ho
      subst ho
      exact wpOp_value ho' rfl (v := (Value.pointer (some ⟨gw, 1, none⟩))) (w' := w) (by go_simp) ⟨_, rfl, Below.refl _ _, rfl⟩
    · obtain ⟨y8, hy8, hz8⟩ := hval 8 _ 117 (by omega) (by rw [hl]; rfl) rfl (hedge [8] (by simp) 8 (by simp))
      have hz8 : y8 = (Value.pointer (some ⟨gw, 1, none⟩)) := hz8
      rw [hz8] at hy8
      have b117 := eval_get hy8
      rw [hl] at ho
      injection ho with ho
      subst ho
      exact wpOp_load ho' rfl rfl b117 (h9 w hb) ⟨_, rfl, Below.refl _ _, rfl⟩
    · have b15 := eval_get ((hold 15 (by rw [hl]; rfl)).trans k15)
      rw [hl] at ho
      injection ho with ho
      subst ho
      exact wpOp_value ho' rfl (v := (Value.pointer (some ⟨gw, 1, none⟩))) (w' := w) (by go_simp) ⟨_, rfl, Below.refl _ _, rfl⟩
    · obtain ⟨y10, hy10, hz10⟩ := hval 10 _ 119 (by omega) (by rw [hl]; rfl) rfl (hedge [10] (by simp) 10 (by simp))
      have hz10 : y10 = (Value.pointer (some ⟨gw, 1, none⟩)) := hz10
      rw [hz10] at hy10
      have b119 := eval_get hy10
      rw [hl] at ho
      injection ho with ho
      subst ho
      exact wpOp_load ho' rfl rfl b119 (h11 w hb) ⟨_, rfl, Below.refl _ _, rfl⟩
    · obtain ⟨y11, hy11, hz11⟩ := hval 11 _ 120 (by omega) (by rw [hl]; rfl) rfl (hedge [11] (by simp) 11 (by simp))
      have hz11 : y11 = ((Value.int .i64 kil)) := hz11
      rw [hz11] at hy11
      have b120 := eval_get hy11
      rw [hl] at ho
      injection ho with ho
      subst ho
      exact wpOp_value ho' rfl (v := (Value.int .i64 k2)) (w' := w) (by go_simp) ⟨_, rfl, Below.refl _ _, rfl⟩
    · have b15 := eval_get ((hold 15 (by rw [hl]; rfl)).trans k15)
      rw [hl] at ho
      injection ho with ho
      subst ho
      exact wpOp_value ho' rfl (v := (Value.pointer (some ⟨gw, 0, none⟩))) (w' := w) (by go_simp) ⟨_, rfl, Below.refl _ _, rfl⟩
    · obtain ⟨y13, hy13, hz13⟩ := hval 13 _ 122 (by omega) (by rw [hl]; rfl) rfl (hedge [13] (by simp) 13 (by simp))
      have hz13 : y13 = (Value.pointer (some ⟨gw, 0, none⟩)) := hz13
      rw [hz13] at hy13
      have b122 := eval_get hy13
      rw [hl] at ho
      injection ho with ho
      subst ho
      exact wpOp_load ho' rfl rfl b122 (h14 w hb) ⟨_, rfl, Below.refl _ _, rfl⟩
    · obtain ⟨y12, hy12, hz12⟩ := hval 12 _ 121 (by omega) (by rw [hl]; rfl) rfl (hedge [12, 14] (by simp) 12 (by simp))
      have hz12 : y12 = (Value.int .i64 k2) := hz12
      rw [hz12] at hy12
      have b121 := eval_get hy12
      obtain ⟨y14, hy14, hz14⟩ := hval 14 _ 123 (by omega) (by rw [hl]; rfl) rfl (hedge [12, 14] (by simp) 14 (by simp))
      have hz14 : y14 = ((Value.int .i64 xx)) := hz14
      rw [hz14] at hy14
      have b123 := eval_get hy14
      rw [hl] at ho
      injection ho with ho
      subst ho
      exact wpOp_value ho' rfl (v := (Value.int .i64 px)) (w' := w) (by go_simp) ⟨_, rfl, Below.refl _ _, rfl⟩
    · obtain ⟨y9, hy9, hz9⟩ := hval 9 _ 118 (by omega) (by rw [hl]; rfl) rfl (hedge [9, 15] (by simp) 9 (by simp))
      have hz9 : y9 = ((Value.int .i64 kil)) := hz9
      rw [hz9] at hy9
      have b118 := eval_get hy9
      obtain ⟨y15, hy15, hz15⟩ := hval 15 _ 124 (by omega) (by rw [hl]; rfl) rfl (hedge [9, 15] (by simp) 15 (by simp))
      have hz15 : y15 = (Value.int .i64 px) := hz15
      rw [hz15] at hy15
      have b124 := eval_get hy15
      rw [hl] at ho
      injection ho with ho
      subst ho
      exact wpOp_value ho' rfl (v := (Sec.val ⟨kil, px, 0, 0, 0, 0⟩)) (w' := w) (by go_simp) ⟨_, rfl, Below.refl _ _, rfl⟩
    · obtain ⟨y7, hy7, hz7⟩ := hval 7 _ 116 (by omega) (by rw [hl]; rfl) rfl (hedge [7, 16] (by simp) 7 (by simp))
      have hz7 : y7 = (S0.val) := hz7
      rw [hz7] at hy7
      have b116 := eval_get hy7
      obtain ⟨y16, hy16, hz16⟩ := hval 16 _ 125 (by omega) (by rw [hl]; rfl) rfl (hedge [7, 16] (by simp) 16 (by simp))
      have hz16 : y16 = (Sec.val ⟨kil, px, 0, 0, 0, 0⟩) := hz16
      rw [hz16] at hy16
      have b125 := eval_get hy16
      rw [hl] at ho
      injection ho with ho
      subst ho
      refine wpOp_call ho' rfl rfl (args := #[S0.val, Sec.val ⟨kil, px, 0, 0, 0, 0⟩]) (by simp [b116, b125]) (cf41 _ _) ((h17 w  hb ).mono ?_)
      rintro e w' ⟨rfl, hb2⟩
      exact ⟨_, rfl, _, rfl, hb2, rfl⟩
    · obtain ⟨y0, hy0, hz0⟩ := hval 0 _ 109 (by omega) (by rw [hl]; rfl) rfl (hedge [0, 2] (by simp) 0 (by simp))
      have hz0 : y0 = (Value.slice (some ⟨gq, 0, none⟩) kk kk) := hz0
      rw [hz0] at hy0
      have b109 := eval_get hy0
      obtain ⟨y2, hy2, hz2⟩ := hval 2 _ 111 (by omega) (by rw [hl]; rfl) rfl (hedge [0, 2] (by simp) 2 (by simp))
      have hz2 : y2 = (Value.int .i64 (im : Int)) := hz2
      rw [hz2] at hy2
      have b111 := eval_get hy2
      rw [hl] at ho
      injection ho with ho
      subst ho
      exact wpOp_value ho' rfl (v := (Value.pointer (some ⟨gq, im * 6, none⟩))) (w' := w) (by go_simp) ⟨_, rfl, Below.refl _ _, rfl⟩
  · intro val w hb hrows
    have q0 : val 0 = (Value.slice (some ⟨gq, 0, none⟩) kk kk) := hrows 0 (by omega)
    have q1 : val 1 = (Value.int .i64 (iw : Int)) := hrows 1 (by omega)
    have q2 : val 2 = (Value.int .i64 (im : Int)) := hrows 2 (by omega)
    have q3 : val 3 = (Value.slice (some ⟨gq, 0, none⟩) kk kk) := hrows 3 (by omega)
    have q4 : val 4 = (Value.int .i64 (iw : Int)) := hrows 4 (by omega)
    have q5 : val 5 = (Value.int .i64 (im : Int)) := hrows 5 (by omega)
    have q6 : val 6 = (Value.pointer (some ⟨gq, im * 6, none⟩)) := hrows 6 (by omega)
    have q7 : val 7 = (S0.val) := hrows 7 (by omega)
    have q8 : val 8 = (Value.pointer (some ⟨gw, 1, none⟩)) := hrows 8 (by omega)
    have q9 : val 9 = ((Value.int .i64 kil)) := hrows 9 (by omega)
    have q10 : val 10 = (Value.pointer (some ⟨gw, 1, none⟩)) := hrows 10 (by omega)
    have q11 : val 11 = ((Value.int .i64 kil)) := hrows 11 (by omega)
    have q12 : val 12 = (Value.int .i64 k2) := hrows 12 (by omega)
    have q13 : val 13 = (Value.pointer (some ⟨gw, 0, none⟩)) := hrows 13 (by omega)
    have q14 : val 14 = ((Value.int .i64 xx)) := hrows 14 (by omega)
    have q15 : val 15 = (Value.int .i64 px) := hrows 15 (by omega)
    have q16 : val 16 = (Sec.val ⟨kil, px, 0, 0, 0, 0⟩) := hrows 16 (by omega)
    have q17 : val 17 = (S1.val) := hrows 17 (by omega)
    have q18 : val 18 = (Value.pointer (some ⟨gq, im * 6, none⟩)) := hrows 18 (by omega)
    have hF := hK  w hb 
    subst hl
    simp only [List.take_succ_cons, List.take_zero, putAll, Nat.zero_add, Nat.reduceAdd, q0, q1, q2, q3, q4, q5, q6, q7, q8, q9, q10, q11, q12, q13, q14, q15, q16, q17, q18]
    exact hF
end Go.Proofs.Ytcdfnlgimbecgaa
