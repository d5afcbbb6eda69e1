/-
  twistlocklaw18: regions that draw their order. (Printed by gen_l18.py.)
-/
import Derived.Test.YtcdfnlgimbecgaaMo34

namespace Go.Proofs.Ytcdfnlgimbecgaa
open Go.RowKit

theorem cf34 (w : World) (args : Array Value) : (callFunc 34 args).run Try.prog w = .ok (.enter 34 args) w := by
  go_simp

set_option maxRecDepth 100000 in
set_option maxHeartbeats 4000000 in
theorem region_sameints {id : Nat} {Q : Exit → Act → World → Prop} {a0 : Act} {w0 : World} {l : List Oper} {ga oa na ca gb ob nb cb kk : Nat} {x y : Int} (hka : (kk : Int) < (na : Int)) (hkb : (kk : Int) < (nb : Int))
    {t0 t1 t2 t3 t4 t5 t6 t7 t8 : TypeId} {x0 x1 x2 x3 x4 x5 x6 x7 x8 : String} {e0 e1 e2 e3 e4 e5 e6 e7 e8 : Array Edge}
    (hl : l = [⟨some 17, .move (.tmp 0), t0, x0, e0, none⟩,
      ⟨some 18, .move (.tmp 5), t1, x1, e1, none⟩,
      ⟨some 19, .indexAddr 42 (.tmp 17) (.tmp 18), t2, x2, e2, none⟩,
      ⟨some 20, .load 3 (.tmp 19), t3, x3, e3, none⟩,
      ⟨some 21, .move (.tmp 1), t4, x4, e4, none⟩,
      ⟨some 22, .move (.tmp 5), t5, x5, e5, none⟩,
      ⟨some 23, .indexAddr 42 (.tmp 21) (.tmp 22), t6, x6, e6, none⟩,
      ⟨some 24, .load 3 (.tmp 23), t7, x7, e7, none⟩,
      ⟨some 25, .binOp .neq 3 (.tmp 20) (.tmp 24) 3, t8, x8, e8, none⟩])
    (hO : orderB l 9 = true) (hd : dstsB l 9 a0.tmps.size = true) (hpre : preB l.toArray [(2, [0, 1]), (3, [2]), (6, [4, 5]), (7, [6]), (8, [3, 7])] = true)
     (k0 : a0.tmps[0]? = some (Value.slice (some ⟨ga, oa, none⟩) na ca)) (k1 : a0.tmps[1]? = some (Value.slice (some ⟨gb, ob, none⟩) nb cb)) (k5 : a0.tmps[5]? = some (Value.int .i64 (kk : Int)))
    (h3 : ∀ w, From w0 w → (loadVar 3 ⟨ga, oa + kk, none⟩).run Try.prog w = .ok (Value.int .i64 x) w)
    (h7 : ∀ w, From w0 w → (loadVar 3 ⟨gb, ob + kk, none⟩).run Try.prog w = .ok (Value.int .i64 y) w)
    (hK : ∀  w, From w0 w → wpList Try.prog l.toArray Q (l.drop 9) (((((((((a0.put (some 17) (Value.slice (some ⟨ga, oa, none⟩) na ca)).put (some 18) (Value.int .i64 (kk : Int))).put (some 19) (Value.pointer (some ⟨ga, oa + kk, none⟩))).put (some 20) ((Value.int .i64 x))).put (some 21) (Value.slice (some ⟨gb, ob, none⟩) nb cb)).put (some 22) (Value.int .i64 (kk : Int))).put (some 23) (Value.pointer (some ⟨gb, ob + kk, none⟩))).put (some 24) ((Value.int .i64 y))).put (some 25) (Value.bool (x != y))) w) :
    (Code.region id l.toArray true).wp Try.prog Q a0 w0 := by
  have hlen : l.length = 9 := by rw [hl]; rfl
  have hpz := List.all_eq_true.1 hpre
  refine wp_region_keep 9 (fun i v w => match i with
    | 0 => v = (Value.slice (some ⟨ga, oa, none⟩) na ca)
    | 1 => v = (Value.int .i64 (kk : Int))
    | 2 => v = (Value.pointer (some ⟨ga, oa + kk, none⟩))
    | 3 => v = ((Value.int .i64 x))
    | 4 => v = (Value.slice (some ⟨gb, ob, none⟩) nb cb)
    | 5 => v = (Value.int .i64 (kk : Int))
    | 6 => v = (Value.pointer (some ⟨gb, ob + kk, none⟩))
    | 7 => v = ((Value.int .i64 y))
    | 8 => v = (Value.bool (x != y))
    | _ => True) ?_ (by kernel_rfl) hO (by omega) hd ?_ ?_
  · intro i v w w' h hb
    match i, h with
    | 0, h => exact h
    | 1, h => exact h
    | 2, h => exact h
    | 3, h => exact h
    | 4, h => exact h
    | 5, h => exact h
    | 6, h => exact h
    | 7, h => exact h
    | 8, h => exact h
    | _ + 9, _ => trivial
  · intro i o hi ho a w hb hval hold
    have ho' : l.toArray[i]? = some o := by simpa using ho
    have hedge : ∀ js, (i, js) ∈ ([(2, [0, 1]), (3, [2]), (6, [4, 5]), (7, [6]), (8, [3, 7])] : List (Nat × List Nat)) → ∀ j ∈ js, (o.after.any fun e => Region.binds .any e && e.on == j) = true := fun js hm j hj => by
      have h1 := List.all_eq_true.1 (hpz _ hm) j hj
      rw [ho'] at h1
      simpa using h1
    have hcase : i = 0 ∨ i = 1 ∨ i = 2 ∨ i = 3 ∨ i = 4 ∨ i = 5 ∨ i = 6 ∨ i = 7 ∨ i = 8 := by omega
    rcases hcase with rfl | rfl | rfl | rfl | rfl | rfl | rfl | rfl | rfl
    · have b0 := eval_get ((hold 0 (by rw [hl]; rfl)).trans k0)
      rw [hl] at ho
      injection ho with ho
      subst ho
      exact wpOp_value ho' rfl (v := (Value.slice (some ⟨ga, oa, none⟩) na ca)) (w' := w) (by go_simp) ⟨_, rfl, Below.refl _ _, rfl⟩
    · have b5 := eval_get ((hold 5 (by rw [hl]; rfl)).trans k5)
      rw [hl] at ho
      injection ho with ho
      subst ho
      exact wpOp_value ho' rfl (v := (Value.int .i64 (kk : Int))) (w' := w) (by go_simp) ⟨_, rfl, Below.refl _ _, rfl⟩
    · obtain ⟨y0, hy0, hz0⟩ := hval 0 _ 17 (by omega) (by rw [hl]; rfl) rfl (hedge [0, 1] (by simp) 0 (by simp))
      have hz0 : y0 = (Value.slice (some ⟨ga, oa, none⟩) na ca) := hz0
      rw [hz0] at hy0
      have b17 := eval_get hy0
      obtain ⟨y1, hy1, hz1⟩ := hval 1 _ 18 (by omega) (by rw [hl]; rfl) rfl (hedge [0, 1] (by simp) 1 (by simp))
      have hz1 : y1 = (Value.int .i64 (kk : Int)) := hz1
      rw [hz1] at hy1
      have b18 := eval_get hy1
      rw [hl] at ho
      injection ho with ho
      subst ho
      exact wpOp_value ho' rfl (v := (Value.pointer (some ⟨ga, oa + kk, none⟩))) (w' := w) (by go_simp) ⟨_, rfl, Below.refl _ _, rfl⟩
    · obtain ⟨y2, hy2, hz2⟩ := hval 2 _ 19 (by omega) (by rw [hl]; rfl) rfl (hedge [2] (by simp) 2 (by simp))
      have hz2 : y2 = (Value.pointer (some ⟨ga, oa + kk, none⟩)) := hz2
      rw [hz2] at hy2
      have b19 := eval_get hy2
      rw [hl] at ho
      injection ho with ho
      subst ho
      exact wpOp_load ho' rfl rfl b19 (h3 w hb) ⟨_, rfl, Below.refl _ _, rfl⟩
    · have b1 := eval_get ((hold 1 (by rw [hl]; rfl)).trans k1)
      rw [hl] at ho
      injection ho with ho
      subst ho
      exact wpOp_value ho' rfl (v := (Value.slice (some ⟨gb, ob, none⟩) nb cb)) (w' := w) (by go_simp) ⟨_, rfl, Below.refl _ _, rfl⟩
    · have b5 := eval_get ((hold 5 (by rw [hl]; rfl)).trans k5)
      rw [hl] at ho
      injection ho with ho
      subst ho
      exact wpOp_value ho' rfl (v := (Value.int .i64 (kk : Int))) (w' := w) (by go_simp) ⟨_, rfl, Below.refl _ _, rfl⟩
    · obtain ⟨y4, hy4, hz4⟩ := hval 4 _ 21 (by omega) (by rw [hl]; rfl) rfl (hedge [4, 5] (by simp) 4 (by simp))
      have hz4 : y4 = (Value.slice (some ⟨gb, ob, none⟩) nb cb) := hz4
      rw [hz4] at hy4
      have b21 := eval_get hy4
      obtain ⟨y5, hy5, hz5⟩ := hval 5 _ 22 (by omega) (by rw [hl]; rfl) rfl (hedge [4, 5] (by simp) 5 (by simp))
      have hz5 : y5 = (Value.int .i64 (kk : Int)) := hz5
      rw [hz5] at hy5
      have b22 := eval_get hy5
      rw [hl] at ho
      injection ho with ho
      subst ho
      exact wpOp_value ho' rfl (v := (Value.pointer (some ⟨gb, ob + kk, none⟩))) (w' := w) (by go_simp) ⟨_, rfl, Below.refl _ _, rfl⟩
    · obtain ⟨y6, hy6, hz6⟩ := hval 6 _ 23 (by omega) (by rw [hl]; rfl) rfl (hedge [6] (by simp) 6 (by simp))
      have hz6 : y6 = (Value.pointer (some ⟨gb, ob + kk, none⟩)) := hz6
      rw [hz6] at hy6
      have b23 := eval_get hy6
      rw [hl] at ho
      injection ho with ho
      subst ho
      exact wpOp_load ho' rfl rfl b23 (h7 w hb) ⟨_, rfl, Below.refl _ _, rfl⟩
    · obtain ⟨y3, hy3, hz3⟩ := hval 3 _ 20 (by omega) (by rw [hl]; rfl) rfl (hedge [3, 7] (by simp) 3 (by simp))
      have hz3 : y3 = ((Value.int .i64 x)) := hz3
      rw [hz3] at hy3
      have b20 := eval_get hy3
      obtain ⟨y7, hy7, hz7⟩ := hval 7 _ 24 (by omega) (by rw [hl]; rfl) rfl (hedge [3, 7] (by simp) 7 (by simp))
      have hz7 : y7 = ((Value.int .i64 y)) := hz7
      rw [hz7] at hy7
      have b24 := eval_get hy7
      rw [hl] at ho
      injection ho with ho
      subst ho
      exact wpOp_value ho' rfl (v := (Value.bool (x != y))) (w' := w) (by go_simp) ⟨_, rfl, Below.refl _ _, rfl⟩
  · intro val w hb hrows
    have q0 : val 0 = (Value.slice (some ⟨ga, oa, none⟩) na ca) := hrows 0 (by omega)
    have q1 : val 1 = (Value.int .i64 (kk : Int)) := hrows 1 (by omega)
    have q2 : val 2 = (Value.pointer (some ⟨ga, oa + kk, none⟩)) := hrows 2 (by omega)
    have q3 : val 3 = ((Value.int .i64 x)) := hrows 3 (by omega)
    have q4 : val 4 = (Value.slice (some ⟨gb, ob, none⟩) nb cb) := hrows 4 (by omega)
    have q5 : val 5 = (Value.int .i64 (kk : Int)) := hrows 5 (by omega)
    have q6 : val 6 = (Value.pointer (some ⟨gb, ob + kk, none⟩)) := hrows 6 (by omega)
    have q7 : val 7 = ((Value.int .i64 y)) := hrows 7 (by omega)
    have q8 : val 8 = (Value.bool (x != y)) := hrows 8 (by omega)
    have hF := hK  w hb 
    subst hl
    simp only [List.take_succ_cons, List.take_zero, putAll, Nat.zero_add, Nat.reduceAdd, q0, q1, q2, q3, q4, q5, q6, q7, q8]
    exact hF

set_option maxRecDepth 100000 in
set_option maxHeartbeats 4000000 in
theorem region_awake {id : Nat} {Q : Exit → Act → World → Prop} {a0 : Act} {w0 : World} {l : List Oper} {gl ol cl g3 gi oi ci : Nat} {v4 v5 : Value}
    {t0 t1 t2 t3 t4 t5 t6 t7 t8 t9 t10 t11 t12 t13 t14 : TypeId} {x0 x1 x2 x3 x4 x5 x6 x7 x8 x9 x10 x11 x12 x13 x14 : String} {e0 e1 e2 e3 e4 e5 e6 e7 e8 e9 e10 e11 e12 e13 e14 : Array Edge}
    (hl : l = [⟨some 39, .move (.tmp 1), t0, x0, e0, none⟩,
      ⟨some 40, .sliceToArrayPointer 90 (.tmp 39), t1, x1, e1, none⟩,
      ⟨some 41, .load 90 (.tmp 40), t2, x2, e2, none⟩,
      ⟨some 42, .load 90 (.tmp 3), t3, x3, e3, none⟩,
      ⟨some 43, .binOp .eql 90 (.tmp 41) (.tmp 42) 90, t4, x4, e4, none⟩,
      ⟨some 44, .move (.tmp 43), t5, x5, e5, none⟩,
      ⟨some 45, .move (.tmp 5), t6, x6, e6, some (5, true)⟩,
      ⟨some 46, .binOp .eql 31 (.tmp 45) (.const (.int .i64 0)) 31, t7, x7, e7, some (5, true)⟩,
      ⟨some 47, .pick (.tmp 44) (.tmp 46) (.const (.bool false)), t8, x8, e8, none⟩,
      ⟨some 48, .move (.tmp 47), t9, x9, e9, none⟩,
      ⟨some 49, .move (.tmp 4), t10, x10, e10, some (9, true)⟩,
      ⟨some 50, .buildSlice 42 2 #[(0, .const (.int .i64 1)), (1, .const (.int .i64 2))], t11, x11, e11, some (9, true)⟩,
      ⟨some 51, .call { callee := .value (.func 34), args := #[.tmp 49, .tmp 50], argTypes := #[42, 42] }, t12, x12, e12, some (9, true)⟩,
      ⟨some 52, .pick (.tmp 48) (.tmp 51) (.const (.bool false)), t13, x13, e13, none⟩,
      ⟨some 0, .assign (.tmp 52), t14, x14, e14, none⟩])
    (hO : orderB l 14 = true) (hd : dstsB l 14 a0.tmps.size = true) (hpre : preB l.toArray [(1, [0]), (2, [1]), (4, [2, 3]), (5, [4]), (6, [5]), (7, [6, 5]), (8, [5, 7]), (9, [8]), (10, [9]), (11, [9]), (12, [10, 11, 9]), (13, [9, 12])] = true)
     (k1 : a0.tmps[1]? = some (Value.slice (some ⟨gl, ol, none⟩) 4 cl)) (k3 : a0.tmps[3]? = some (Value.pointer (some ⟨g3, 0, none⟩))) (k4 : a0.tmps[4]? = some (Value.slice (some ⟨gi, oi, none⟩) 2 ci)) (k5 : a0.tmps[5]? = some (Value.int .i64 0))
    (R11 : Value → World → Prop) (s11 : ∀ v w w', R11 v w → From w w' → R11 v w')
    (h1 : ∀ (a : Act) (w : World), a.eval (.tmp 39) = (Value.slice (some ⟨gl, ol, none⟩) 4 cl) → (execOp a.eval ⟨some 40, .sliceToArrayPointer 90 (.tmp 39), t1, x1, e1, none⟩).run Try.prog w = .ok (.value (Value.pointer (some ⟨gl, ol, none⟩))) w)
    (h2 : ∀ w, From w0 w → (loadVar 90 ⟨gl, ol, none⟩).run Try.prog w = .ok v4 w)
    (h3 : ∀ w, From w0 w → (loadVar 90 ⟨g3, 0, none⟩).run Try.prog w = .ok v5 w)
    (h4 : ∀ (a : Act) (w : World), a.eval (.tmp 41) = (v4) → a.eval (.tmp 42) = (v5) → (execOp a.eval ⟨some 43, .binOp .eql 90 (.tmp 41) (.tmp 42) 90, t4, x4, e4, none⟩).run Try.prog w = .ok (.value (Value.bool true)) w)
    (h11 : ∀ (a : Act) (w : World), From w0 w → ∃ v w', (execOp a.eval ⟨some 50, .buildSlice 42 2 #[(0, .const (.int .i64 1)), (1, .const (.int .i64 2))], t11, x11, e11, some (9, true)⟩).run Try.prog w = .ok (.value v) w' ∧ From w w' ∧ R11 v w')
    (h12 : ∀ w u11, From w0 w → R11 u11 w → Calls Try.prog 34 #[Value.slice (some ⟨gi, oi, none⟩) 2 ci, u11] w fun e w' => e = .returned (Value.bool true) ∧ From w w')
    (hK : ∀ u11 w, From w0 w → R11 u11 w → wpList Try.prog l.toArray Q (l.drop 14) ((((((((((((((a0.put (some 39) (Value.slice (some ⟨gl, ol, none⟩) 4 cl)).put (some 40) (Value.pointer (some ⟨gl, ol, none⟩))).put (some 41) (v4)).put (some 42) (v5)).put (some 43) (Value.bool true)).put (some 44) (Value.bool true)).put (some 45) (Value.int .i64 0)).put (some 46) (Value.bool true)).put (some 47) (Value.bool true)).put (some 48) (Value.bool true)).put (some 49) (Value.slice (some ⟨gi, oi, none⟩) 2 ci)).put (some 50) u11).put (some 51) (Value.bool true)).put (some 52) (Value.bool true)) w) :
    (Code.region id l.toArray true).wp Try.prog Q a0 w0 := by
  have hlen : l.length = 15 := by rw [hl]; rfl
  have hpz := List.all_eq_true.1 hpre
  refine wp_region_keep 14 (fun i v w => match i with
    | 0 => v = (Value.slice (some ⟨gl, ol, none⟩) 4 cl)
    | 1 => v = (Value.pointer (some ⟨gl, ol, none⟩))
    | 2 => v = (v4)
    | 3 => v = (v5)
    | 4 => v = (Value.bool true)
    | 5 => v = (Value.bool true)
    | 6 => v = (Value.int .i64 0)
    | 7 => v = (Value.bool true)
    | 8 => v = (Value.bool true)
    | 9 => v = (Value.bool true)
    | 10 => v = (Value.slice (some ⟨gi, oi, none⟩) 2 ci)
    | 11 => R11 v w
    | 12 => v = (Value.bool true)
    | 13 => v = (Value.bool true)
    | _ => True) ?_ (by kernel_rfl) hO (by omega) hd ?_ ?_
  · intro i v w w' h hb
    match i, h with
    | 0, h => exact h
    | 1, h => exact h
    | 2, h => exact h
    | 3, h => exact h
    | 4, h => exact h
    | 5, h => exact h
    | 6, h => exact h
    | 7, h => exact h
    | 8, h => exact h
    | 9, h => exact h
    | 10, h => exact h
    | 11, h => exact s11 v w w' h hb
    | 12, h => exact h
    | 13, h => exact h
    | _ + 14, _ => trivial
  · intro i o hi ho a w hb hval hold
    have ho' : l.toArray[i]? = some o := by simpa using ho
    have hedge : ∀ js, (i, js) ∈ ([(1, [0]), (2, [1]), (4, [2, 3]), (5, [4]), (6, [5]), (7, [6, 5]), (8, [5, 7]), (9, [8]), (10, [9]), (11, [9]), (12, [10, 11, 9]), (13, [9, 12])] : List (Nat × List Nat)) → ∀ j ∈ js, (o.after.any fun e => Region.binds .any e && e.on == j) = true := fun js hm j hj => by
      have h1 := List.all_eq_true.1 (hpz _ hm) j hj
      rw [ho'] at h1
      simpa using h1
    have hcase : i = 0 ∨ i = 1 ∨ i = 2 ∨ i = 3 ∨ i = 4 ∨ i = 5 ∨ i = 6 ∨ i = 7 ∨ i = 8 ∨ i = 9 ∨ i = 10 ∨ i = 11 ∨ i = 12 ∨ i = 13 := by omega
    rcases hcase with rfl | rfl | rfl | rfl | rfl | rfl | rfl | rfl | rfl | rfl | rfl | rfl | rfl | rfl
    · have b1 := eval_get ((hold 1 (by rw [hl]; rfl)).trans k1)
      rw [hl] at ho
      injection ho with ho
      subst ho
      exact wpOp_value ho' rfl (v := (Value.slice (some ⟨gl, ol, none⟩) 4 cl)) (w' := w) (by go_simp) ⟨_, rfl, Below.refl _ _, rfl⟩
    · obtain ⟨y0, hy0, hz0⟩ := hval 0 _ 39 (by omega) (by rw [hl]; rfl) rfl (hedge [0] (by simp) 0 (by simp))
      have hz0 : y0 = (Value.slice (some ⟨gl, ol, none⟩) 4 cl) := hz0
      rw [hz0] at hy0
      have b39 := eval_get hy0
      rw [hl] at ho
      injection ho with ho
      subst ho
      exact wpOp_value ho' rfl (h1 a w b39) ⟨_, rfl, Below.refl _ _, rfl⟩
    · obtain ⟨y1, hy1, hz1⟩ := hval 1 _ 40 (by omega) (by rw [hl]; rfl) rfl (hedge [1] (by simp) 1 (by simp))
      have hz1 : y1 = (Value.pointer (some ⟨gl, ol, none⟩)) := hz1
      rw [hz1] at hy1
      have b40 := eval_get hy1
      rw [hl] at ho
      injection ho with ho
      subst ho
      exact wpOp_load ho' rfl rfl b40 (h2 w hb) ⟨_, rfl, Below.refl _ _, rfl⟩
    · have b3 := eval_get ((hold 3 (by rw [hl]; rfl)).trans k3)
      rw [hl] at ho
      injection ho with ho
      subst ho
      exact wpOp_load ho' rfl rfl b3 (h3 w hb) ⟨_, rfl, Below.refl _ _, rfl⟩
    · obtain ⟨y2, hy2, hz2⟩ := hval 2 _ 41 (by omega) (by rw [hl]; rfl) rfl (hedge [2, 3] (by simp) 2 (by simp))
      have hz2 : y2 = (v4) := hz2
      rw [hz2] at hy2
      have b41 := eval_get hy2
      obtain ⟨y3, hy3, hz3⟩ := hval 3 _ 42 (by omega) (by rw [hl]; rfl) rfl (hedge [2, 3] (by simp) 3 (by simp))
      have hz3 : y3 = (v5) := hz3
      rw [hz3] at hy3
      have b42 := eval_get hy3
      rw [hl] at ho
      injection ho with ho
      subst ho
      exact wpOp_value ho' rfl (h4 a w b41 b42) ⟨_, rfl, Below.refl _ _, rfl⟩
    · obtain ⟨y4, hy4, hz4⟩ := hval 4 _ 43 (by omega) (by rw [hl]; rfl) rfl (hedge [4] (by simp) 4 (by simp))
      have hz4 : y4 = (Value.bool true) := hz4
      rw [hz4] at hy4
      have b43 := eval_get hy4
      rw [hl] at ho
      injection ho with ho
      subst ho
      exact wpOp_value ho' rfl (v := (Value.bool true)) (w' := w) (by go_simp) ⟨_, rfl, Below.refl _ _, rfl⟩
    · have b5 := eval_get ((hold 5 (by rw [hl]; rfl)).trans k5)
      obtain ⟨y5, hy5, hz5⟩ := hval 5 _ 44 (by omega) (by rw [hl]; rfl) rfl (hedge [5] (by simp) 5 (by simp))
      have hz5 : y5 = (Value.bool true) := hz5
      rw [hz5] at hy5
      have b44 := eval_get hy5
      rw [hl] at ho
      injection ho with ho
      subst ho
      have hwt := wanted_some (ops := l.toArray) (a := a) (o := ⟨some 45, .move (.tmp 5), t6, x6, e6, some (5, true)⟩) (r := true) rfl (show l.toArray[5]? = some _ by rw [hl]; rfl) rfl hy5 rfl
      exact wpOp_valueW ho' hwt (v := (Value.int .i64 0)) (w' := w) (by go_simp) ⟨_, rfl, Below.refl _ _, rfl⟩
    · obtain ⟨y6, hy6, hz6⟩ := hval 6 _ 45 (by omega) (by rw [hl]; rfl) rfl (hedge [6, 5] (by simp) 6 (by simp))
      have hz6 : y6 = (Value.int .i64 0) := hz6
      rw [hz6] at hy6
      have b45 := eval_get hy6
      obtain ⟨y5, hy5, hz5⟩ := hval 5 _ 44 (by omega) (by rw [hl]; rfl) rfl (hedge [6, 5] (by simp) 5 (by simp))
      have hz5 : y5 = (Value.bool true) := hz5
      rw [hz5] at hy5
      have b44 := eval_get hy5
      rw [hl] at ho
      injection ho with ho
      subst ho
      have hwt := wanted_some (ops := l.toArray) (a := a) (o := ⟨some 46, .binOp .eql 31 (.tmp 45) (.const (.int .i64 0)) 31, t7, x7, e7, some (5, true)⟩) (r := true) rfl (show l.toArray[5]? = some _ by rw [hl]; rfl) rfl hy5 rfl
      exact wpOp_valueW ho' hwt (v := (Value.bool true)) (w' := w) (by go_simp) ⟨_, rfl, Below.refl _ _, rfl⟩
    · obtain ⟨y5, hy5, hz5⟩ := hval 5 _ 44 (by omega) (by rw [hl]; rfl) rfl (hedge [5, 7] (by simp) 5 (by simp))
      have hz5 : y5 = (Value.bool true) := hz5
      rw [hz5] at hy5
      have b44 := eval_get hy5
      obtain ⟨y7, hy7, hz7⟩ := hval 7 _ 46 (by omega) (by rw [hl]; rfl) rfl (hedge [5, 7] (by simp) 7 (by simp))
      have hz7 : y7 = (Value.bool true) := hz7
      rw [hz7] at hy7
      have b46 := eval_get hy7
      rw [hl] at ho
      injection ho with ho
      subst ho
      exact wpOp_value ho' rfl (v := (Value.bool true)) (w' := w) (by go_simp) ⟨_, rfl, Below.refl _ _, rfl⟩
    · obtain ⟨y8, hy8, hz8⟩ := hval 8 _ 47 (by omega) (by rw [hl]; rfl) rfl (hedge [8] (by simp) 8 (by simp))
      have hz8 : y8 = (Value.bool true) := hz8
      rw [hz8] at hy8
      have b47 := eval_get hy8
      rw [hl] at ho
      injection ho with ho
      subst ho
      exact wpOp_value ho' rfl (v := (Value.bool true)) (w' := w) (by go_simp) ⟨_, rfl, Below.refl _ _, rfl⟩
    · have b4 := eval_get ((hold 4 (by rw [hl]; rfl)).trans k4)
      obtain ⟨y9, hy9, hz9⟩ := hval 9 _ 48 (by omega) (by rw [hl]; rfl) rfl (hedge [9] (by simp) 9 (by simp))
      have hz9 : y9 = (Value.bool true) := hz9
      rw [hz9] at hy9
      have b48 := eval_get hy9
      rw [hl] at ho
      injection ho with ho
      subst ho
      have hwt := wanted_some (ops := l.toArray) (a := a) (o := ⟨some 49, .move (.tmp 4), t10, x10, e10, some (9, true)⟩) (r := true) rfl (show l.toArray[9]? = some _ by rw [hl]; rfl) rfl hy9 rfl
      exact wpOp_valueW ho' hwt (v := (Value.slice (some ⟨gi, oi, none⟩) 2 ci)) (w' := w) (by go_simp) ⟨_, rfl, Below.refl _ _, rfl⟩
    · obtain ⟨y9, hy9, hz9⟩ := hval 9 _ 48 (by omega) (by rw [hl]; rfl) rfl (hedge [9] (by simp) 9 (by simp))
      have hz9 : y9 = (Value.bool true) := hz9
      rw [hz9] at hy9
      have b48 := eval_get hy9
      rw [hl] at ho
      injection ho with ho
      subst ho
      have hwt := wanted_some (ops := l.toArray) (a := a) (o := ⟨some 50, .buildSlice 42 2 #[(0, .const (.int .i64 1)), (1, .const (.int .i64 2))], t11, x11, e11, some (9, true)⟩) (r := true) rfl (show l.toArray[9]? = some _ by rw [hl]; rfl) rfl hy9 rfl
      obtain ⟨v, w', hrun, hb2, hr2⟩ := h11 a w hb 
      exact wpOp_valueW ho' hwt hrun ⟨_, rfl, hb2, hr2⟩
    · obtain ⟨y10, hy10, hz10⟩ := hval 10 _ 49 (by omega) (by rw [hl]; rfl) rfl (hedge [10, 11, 9] (by simp) 10 (by simp))
      have hz10 : y10 = (Value.slice (some ⟨gi, oi, none⟩) 2 ci) := hz10
      rw [hz10] at hy10
      have b49 := eval_get hy10
      obtain ⟨y11, hy11, hz11⟩ := hval 11 _ 50 (by omega) (by rw [hl]; rfl) rfl (hedge [10, 11, 9] (by simp) 11 (by simp))
      have b50 := eval_get hy11
      obtain ⟨y9, hy9, hz9⟩ := hval 9 _ 48 (by omega) (by rw [hl]; rfl) rfl (hedge [10, 11, 9] (by simp) 9 (by simp))
      have hz9 : y9 = (Value.bool true) := hz9
      rw [hz9] at hy9
      have b48 := eval_get hy9
      rw [hl] at ho
      injection ho with ho
      subst ho
      have hwt := wanted_some (ops := l.toArray) (a := a) (o := ⟨some 51, .call { callee := .value (.func 34), args := #[.tmp 49, .tmp 50], argTypes := #[42, 42] }, t12, x12, e12, some (9, true)⟩) (r := true) rfl (show l.toArray[9]? = some _ by rw [hl]; rfl) rfl hy9 rfl
      refine wpOp_callW ho' hwt rfl (args := #[Value.slice (some ⟨gi, oi, none⟩) 2 ci, y11]) (by simp [b49, b50]) (cf34 _ _) ((h12 w y11 hb hz11).mono ?_)
      rintro e w' ⟨rfl, hb2⟩
      exact ⟨_, rfl, _, rfl, hb2, rfl⟩
    · obtain ⟨y9, hy9, hz9⟩ := hval 9 _ 48 (by omega) (by rw [hl]; rfl) rfl (hedge [9, 12] (by simp) 9 (by simp))
      have hz9 : y9 = (Value.bool true) := hz9
      rw [hz9] at hy9
      have b48 := eval_get hy9
      obtain ⟨y12, hy12, hz12⟩ := hval 12 _ 51 (by omega) (by rw [hl]; rfl) rfl (hedge [9, 12] (by simp) 12 (by simp))
      have hz12 : y12 = (Value.bool true) := hz12
      rw [hz12] at hy12
      have b51 := eval_get hy12
      rw [hl] at ho
      injection ho with ho
      subst ho
      exact wpOp_value ho' rfl (v := (Value.bool true)) (w' := w) (by go_simp) ⟨_, rfl, Below.refl _ _, rfl⟩
  · intro val w hb hrows
    have q0 : val 0 = (Value.slice (some ⟨gl, ol, none⟩) 4 cl) := hrows 0 (by omega)
    have q1 : val 1 = (Value.pointer (some ⟨gl, ol, none⟩)) := hrows 1 (by omega)
    have q2 : val 2 = (v4) := hrows 2 (by omega)
    have q3 : val 3 = (v5) := hrows 3 (by omega)
    have q4 : val 4 = (Value.bool true) := hrows 4 (by omega)
    have q5 : val 5 = (Value.bool true) := hrows 5 (by omega)
    have q6 : val 6 = (Value.int .i64 0) := hrows 6 (by omega)
    have q7 : val 7 = (Value.bool true) := hrows 7 (by omega)
    have q8 : val 8 = (Value.bool true) := hrows 8 (by omega)
    have q9 : val 9 = (Value.bool true) := hrows 9 (by omega)
    have q10 : val 10 = (Value.slice (some ⟨gi, oi, none⟩) 2 ci) := hrows 10 (by omega)
    have q11 : R11 (val 11) w := hrows 11 (by omega)
    have q12 : val 12 = (Value.bool true) := hrows 12 (by omega)
    have q13 : val 13 = (Value.bool true) := hrows 13 (by omega)
    have hF := hK (val 11) w hb q11
    subst hl
    simp only [List.take_succ_cons, List.take_zero, putAll, Nat.zero_add, Nat.reduceAdd, q0, q1, q2, q3, q4, q5, q6, q7, q8, q9, q10, q12, q13]
    exact hF
end Go.Proofs.Ytcdfnlgimbecgaa
