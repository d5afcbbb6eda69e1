/-
  frac: the regions of add, Sub, Mul that draw their order. (Printed by gen_fr22.py.)
-/
import Derived.Test.YtcdfnlgimbecgaaMt14
namespace Go.Proofs.Ytcdfnlgimbecgaa
open Go.RowKit
theorem cf56 (w : World) (args : Array Value) : (callFunc 56 args).run Try.prog w = .ok (.enter 56 args) w := by
 go_simp
theorem cf88 (w : World) (args : Array Value) : (callFunc 88 args).run Try.prog w = .ok (.enter 88 args) w := by
 go_simp
theorem cf54 (w : World) (args : Array Value) : (callFunc 54 args).run Try.prog w = .ok (.enter 54 args) w := by
 go_simp
theorem cf46 (w : World) (args : Array Value) : (callFunc 46 args).run Try.prog w = .ok (.enter 46 args) w := by
 go_simp
theorem cf52 (w : World) (args : Array Value) : (callFunc 52 args).run Try.prog w = .ok (.enter 52 args) w := by
 go_simp
theorem cf51 (w : World) (args : Array Value) : (callFunc 51 args).run Try.prog w = .ok (.enter 51 args) w := by
 go_simp
set_option maxRecDepth 100000 in
set_option maxHeartbeats 4000000 in
theorem region_add1 {id : Nat} {Q : Exit → Act → World → Prop} {a0 : Act} {w0 : World} {l : List Oper} {g : Nat} {b : Bool} {r : FracV × Int}
 {t0 t1 t2 t3 t4 t5 t6 t7 t8 t9 t10 : TypeId} {x0 x1 x2 x3 x4 x5 x6 x7 x8 x9 x10 : String} {e0 e1 e2 e3 e4 e5 e6 e7 e8 e9 e10 : Array Edge}
 (hl : l = [⟨some 44, .fieldAddr 37 (.tmp 2) 0, t0, x0, e0, none⟩, ⟨some 45, .load 4 (.tmp 44), t1, x1, e1, none⟩, ⟨some 46, .move (.tmp 10), t2, x2, e2, none⟩, ⟨some 47, .move (.tmp 11), t3, x3, e3, none⟩, ⟨some 48, .call { callee := .value (.func 56), args := #[.tmp 46, .tmp 47], argTypes := #[108, 108] }, t4, x4, e4, none⟩, ⟨some 49, .move (.tmp 12), t5, x5, e5, none⟩, ⟨some 50, .call { callee := .value (.func 46), args := #[.tmp 45, .tmp 48, .tmp 49], argTypes := #[4, 108, 108] }, t6, x6, e6, none⟩, ⟨some 51, .extract (.tmp 50) 0, t7, x7, e7, none⟩, ⟨some 52, .extract (.tmp 50) 1, t8, x8, e8, none⟩, ⟨none, .store 37 (.tmp 4) (.tmp 51), t9, x9, e9, none⟩, ⟨some 5, .assign (.tmp 52), t10, x10, e10, none⟩])
 (hO : orderB l 9 = true) (hd : dstsB l 9 a0.tmps.size = true) (hpre : preB l.toArray [(1, [0]), (4, [2, 3]), (6, [1, 4, 5]), (7, [6]), (8, [6])] = true)
 {v10 : Value} {v11 : Value} {v12 : Value} (k2 : a0.tmps[2]? = some (Value.pointer (some ⟨g, 0, none⟩))) (k10 : a0.tmps[10]? = some (v10)) (k11 : a0.tmps[11]? = some (v11)) (k12 : a0.tmps[12]? = some (v12))
 (R4 : Value → World → Prop) (s4 : ∀ v w w', R4 v w → From w w' → R4 v w')
 (h1 : ∀ w, From w0 w → (loadVar 4 ⟨g, 0, none⟩).run Try.prog w = .ok (Value.bool b) w)
 (h4 : ∀ w , From w0 w → Calls Try.prog 56 #[v10, v11] w fun e w' => ∃ v, e = .returned v ∧ From w w' ∧ R4 v w')
 (h6 : ∀ w u4, From w0 w → R4 u4 w → Calls Try.prog 46 #[(Value.bool b), u4, v12] w fun e w' => e = .returned (Value.tuple #[r.1.val, .int .i64 r.2]) ∧ From w w')
 (hK : ∀ u4 w, From w0 w → R4 u4 w → wpList Try.prog l.toArray Q (l.drop 9) (((((((((a0.put (some 44) (Value.pointer (some ⟨g, 0, none⟩))).put (some 45) ((Value.bool b))).put (some 46) (v10)).put (some 47) (v11)).put (some 48) u4).put (some 49) (v12)).put (some 50) (Value.tuple #[r.1.val, .int .i64 r.2])).put (some 51) (r.1.val)).put (some 52) (Value.int .i64 r.2)) w) :
 (Code.region id l.toArray true).wp Try.prog Q a0 w0 := by
 have hlen : l.length = 11 := by rw [hl]; rfl
 have hpz := List.all_eq_true.1 hpre
 refine wp_region_keep 9 (fun i v w => match i with
  | 0 => v = (Value.pointer (some ⟨g, 0, none⟩))
  | 1 => v = ((Value.bool b))
  | 2 => v = (v10)
  | 3 => v = (v11)
  | 4 => R4 v w
  | 5 => v = (v12)
  | 6 => v = (Value.tuple #[r.1.val, .int .i64 r.2])
  | 7 => v = (r.1.val)
  | 8 => v = (Value.int .i64 r.2)
  | _ => True) ?_ (by kernel_rfl) hO (by omega) hd ?_ ?_
 · intro i v w w' h hb
   match i, h with
   | 0, h => exact h
   | 1, h => exact h
   | 2, h => exact h
   | 3, h => exact h
   | 4, h => exact s4 v w w' h hb
   | 5, h => exact h
   | 6, h => exact h
   | 7, h => exact h
   | 8, h => exact h
   | _ + 9, _ => trivial
 · intro i o hi ho a w hb hval hold
   have ho' : l.toArray[i]? = some o := by simpa using ho
   have hedge : ∀ j, (∃ js, (i, js) ∈ ([(1, [0]), (4, [2, 3]), (6, [1, 4, 5]), (7, [6]), (8, [6])] : List (Nat × List Nat)) ∧ j ∈ js) → (o.after.any fun e => Region.binds .any e && e.on == j) = true := fun j ⟨_, hm, hj⟩ => by
    have h1 := List.all_eq_true.1 (hpz _ hm) j hj
    rw [ho'] at h1
    simpa using h1
   have hcase : i = 0 ∨ i = 1 ∨ i = 2 ∨ i = 3 ∨ i = 4 ∨ i = 5 ∨ i = 6 ∨ i = 7 ∨ i = 8 := by omega
   rcases hcase with rfl | rfl | rfl | rfl | rfl | rfl | rfl | rfl | rfl
   all_goals (rw [hl] at ho; injection ho with ho; subst ho)
   · have b2 := eval_get ((hold 2 (by rw [hl]; rfl)).trans k2)
     exact wpOp_value ho' rfl (w' := w) (by go_simp) ⟨_, rfl, Below.refl _ _, rfl⟩
   · obtain ⟨_, hy0, rfl⟩ := hval 0 _ 44 (by omega) (by rw [hl]; rfl) rfl (hedge 0 (by simp))
     have b44 := eval_get hy0
     exact wpOp_load ho' rfl rfl b44 (h1 w hb) ⟨_, rfl, Below.refl _ _, rfl⟩
   · have b10 := eval_get ((hold 10 (by rw [hl]; rfl)).trans k10)
     exact wpOp_value ho' rfl (w' := w) (by go_simp) ⟨_, rfl, Below.refl _ _, rfl⟩
   · have b11 := eval_get ((hold 11 (by rw [hl]; rfl)).trans k11)
     exact wpOp_value ho' rfl (w' := w) (by go_simp) ⟨_, rfl, Below.refl _ _, rfl⟩
   · obtain ⟨y2, hy2, hz2⟩ := hval 2 _ 46 (by omega) (by rw [hl]; rfl) rfl (hedge 2 (by simp))
     rw [show y2 = (v10) from hz2] at hy2
     have b46 := eval_get hy2
     obtain ⟨y3, hy3, hz3⟩ := hval 3 _ 47 (by omega) (by rw [hl]; rfl) rfl (hedge 3 (by simp))
     rw [show y3 = (v11) from hz3] at hy3
     have b47 := eval_get hy3
     refine wpOp_call ho' rfl rfl (args := #[v10, v11]) (by simp [b46, b47]) (cf56 _ _) ((h4 w  hb ).mono ?_)
     rintro e w' ⟨v, rfl, hb2, hr2⟩
     exact ⟨_, rfl, _, rfl, hb2, hr2⟩
   · have b12 := eval_get ((hold 12 (by rw [hl]; rfl)).trans k12)
     exact wpOp_value ho' rfl (w' := w) (by go_simp) ⟨_, rfl, Below.refl _ _, rfl⟩
   · obtain ⟨_, hy1, rfl⟩ := hval 1 _ 45 (by omega) (by rw [hl]; rfl) rfl (hedge 1 (by simp))
     have b45 := eval_get hy1
     obtain ⟨y4, hy4, hz4⟩ := hval 4 _ 48 (by omega) (by rw [hl]; rfl) rfl (hedge 4 (by simp))
     have b48 := eval_get hy4
     obtain ⟨y5, hy5, hz5⟩ := hval 5 _ 49 (by omega) (by rw [hl]; rfl) rfl (hedge 5 (by simp))
     rw [show y5 = (v12) from hz5] at hy5
     have b49 := eval_get hy5
     refine wpOp_call ho' rfl rfl (args := #[(Value.bool b), y4, v12]) (by simp [b45, b48, b49]) (cf46 _ _) ((h6 w y4 hb hz4).mono ?_)
     rintro e w' ⟨rfl, hb2⟩
     exact ⟨_, rfl, _, rfl, hb2, rfl⟩
   · obtain ⟨_, hy6, rfl⟩ := hval 6 _ 50 (by omega) (by rw [hl]; rfl) rfl (hedge 6 (by simp))
     have b50 := eval_get hy6
     exact wpOp_value ho' rfl (w' := w) (by go_simp) ⟨_, rfl, Below.refl _ _, rfl⟩
   · obtain ⟨_, hy6, rfl⟩ := hval 6 _ 50 (by omega) (by rw [hl]; rfl) rfl (hedge 6 (by simp))
     have b50 := eval_get hy6
     exact wpOp_value ho' rfl (w' := w) (by go_simp) ⟨_, rfl, Below.refl _ _, rfl⟩
 · intro val w hb hrows
   have q4 : R4 (val 4) w := hrows 4 (by omega)
   have hF := hK (val 4) w hb q4
   subst hl
   simp only [List.take_succ_cons, List.take_zero, putAll, Nat.zero_add, Nat.reduceAdd, show val 0 = _ from hrows 0 (by omega), show val 1 = _ from hrows 1 (by omega), show val 2 = _ from hrows 2 (by omega), show val 3 = _ from hrows 3 (by omega), show val 5 = _ from hrows 5 (by omega), show val 6 = _ from hrows 6 (by omega), show val 7 = _ from hrows 7 (by omega), show val 8 = _ from hrows 8 (by omega)]
   exact hF
set_option maxRecDepth 100000 in
set_option maxHeartbeats 4000000 in
theorem region_add2 {id : Nat} {Q : Exit → Act → World → Prop} {a0 : Act} {w0 : World} {l : List Oper} {g : Nat} {b : Bool} {r : FracV × Int}
 {t0 t1 t2 t3 t4 t5 t6 t7 t8 t9 t10 : TypeId} {x0 x1 x2 x3 x4 x5 x6 x7 x8 x9 x10 : String} {e0 e1 e2 e3 e4 e5 e6 e7 e8 e9 e10 : Array Edge}
 (hl : l = [⟨some 58, .fieldAddr 37 (.tmp 3) 0, t0, x0, e0, none⟩, ⟨some 59, .load 4 (.tmp 58), t1, x1, e1, none⟩, ⟨some 60, .move (.tmp 11), t2, x2, e2, none⟩, ⟨some 61, .move (.tmp 10), t3, x3, e3, none⟩, ⟨some 62, .call { callee := .value (.func 88), args := #[.tmp 60, .tmp 61], argTypes := #[108, 108] }, t4, x4, e4, none⟩, ⟨some 63, .move (.tmp 12), t5, x5, e5, none⟩, ⟨some 64, .call { callee := .value (.func 46), args := #[.tmp 59, .tmp 62, .tmp 63], argTypes := #[4, 108, 108] }, t6, x6, e6, none⟩, ⟨some 65, .extract (.tmp 64) 0, t7, x7, e7, none⟩, ⟨some 66, .extract (.tmp 64) 1, t8, x8, e8, none⟩, ⟨none, .store 37 (.tmp 4) (.tmp 65), t9, x9, e9, none⟩, ⟨some 5, .assign (.tmp 66), t10, x10, e10, none⟩])
 (hO : orderB l 9 = true) (hd : dstsB l 9 a0.tmps.size = true) (hpre : preB l.toArray [(1, [0]), (4, [2, 3]), (6, [1, 4, 5]), (7, [6]), (8, [6])] = true)
 {v10 : Value} {v11 : Value} {v12 : Value} (k3 : a0.tmps[3]? = some (Value.pointer (some ⟨g, 0, none⟩))) (k10 : a0.tmps[10]? = some (v10)) (k11 : a0.tmps[11]? = some (v11)) (k12 : a0.tmps[12]? = some (v12))
 (R4 : Value → World → Prop) (s4 : ∀ v w w', R4 v w → From w w' → R4 v w')
 (h1 : ∀ w, From w0 w → (loadVar 4 ⟨g, 0, none⟩).run Try.prog w = .ok (Value.bool b) w)
 (h4 : ∀ w , From w0 w → Calls Try.prog 88 #[v11, v10] w fun e w' => ∃ v, e = .returned v ∧ From w w' ∧ R4 v w')
 (h6 : ∀ w u4, From w0 w → R4 u4 w → Calls Try.prog 46 #[(Value.bool b), u4, v12] w fun e w' => e = .returned (Value.tuple #[r.1.val, .int .i64 r.2]) ∧ From w w')
 (hK : ∀ u4 w, From w0 w → R4 u4 w → wpList Try.prog l.toArray Q (l.drop 9) (((((((((a0.put (some 58) (Value.pointer (some ⟨g, 0, none⟩))).put (some 59) ((Value.bool b))).put (some 60) (v11)).put (some 61) (v10)).put (some 62) u4).put (some 63) (v12)).put (some 64) (Value.tuple #[r.1.val, .int .i64 r.2])).put (some 65) (r.1.val)).put (some 66) (Value.int .i64 r.2)) w) :
 (Code.region id l.toArray true).wp Try.prog Q a0 w0 := by
 have hlen : l.length = 11 := by rw [hl]; rfl
 have hpz := List.all_eq_true.1 hpre
 refine wp_region_keep 9 (fun i v w => match i with
  | 0 => v = (Value.pointer (some ⟨g, 0, none⟩))
  | 1 => v = ((Value.bool b))
  | 2 => v = (v11)
  | 3 => v = (v10)
  | 4 => R4 v w
  | 5 => v = (v12)
  | 6 => v = (Value.tuple #[r.1.val, .int .i64 r.2])
  | 7 => v = (r.1.val)
  | 8 => v = (Value.int .i64 r.2)
  | _ => True) ?_ (by kernel_rfl) hO (by omega) hd ?_ ?_
 · intro i v w w' h hb
   match i, h with
   | 0, h => exact h
   | 1, h => exact h
   | 2, h => exact h
   | 3, h => exact h
   | 4, h => exact s4 v w w' h hb
   | 5, h => exact h
   | 6, h => exact h
   | 7, h => exact h
   | 8, h => exact h
   | _ + 9, _ => trivial
 · intro i o hi ho a w hb hval hold
   have ho' : l.toArray[i]? = some o := by simpa using ho
   have hedge : ∀ j, (∃ js, (i, js) ∈ ([(1, [0]), (4, [2, 3]), (6, [1, 4, 5]), (7, [6]), (8, [6])] : List (Nat × List Nat)) ∧ j ∈ js) → (o.after.any fun e => Region.binds .any e && e.on == j) = true := fun j ⟨_, hm, hj⟩ => by
    have h1 := List.all_eq_true.1 (hpz _ hm) j hj
    rw [ho'] at h1
    simpa using h1
   have hcase : i = 0 ∨ i = 1 ∨ i = 2 ∨ i = 3 ∨ i = 4 ∨ i = 5 ∨ i = 6 ∨ i = 7 ∨ i = 8 := by omega
   rcases hcase with rfl | rfl | rfl | rfl | rfl | rfl | rfl | rfl | rfl
   all_goals (rw [hl] at ho; injection ho with ho; subst ho)
   · have b3 := eval_get ((hold 3 (by rw [hl]; rfl)).trans k3)
     exact wpOp_value ho' rfl (w' := w) (by go_simp) ⟨_, rfl, Below.refl _ _, rfl⟩
   · obtain ⟨_, hy0, rfl⟩ := hval 0 _ 58 (by omega) (by rw [hl]; rfl) rfl (hedge 0 (by simp))
     have b58 := eval_get hy0
     exact wpOp_load ho' rfl rfl b58 (h1 w hb) ⟨_, rfl, Below.refl _ _, rfl⟩
   · have b11 := eval_get ((hold 11 (by rw [hl]; rfl)).trans k11)
     exact wpOp_value ho' rfl (w' := w) (by go_simp) ⟨_, rfl, Below.refl _ _, rfl⟩
   · have b10 := eval_get ((hold 10 (by rw [hl]; rfl)).trans k10)
     exact wpOp_value ho' rfl (w' := w) (by go_simp) ⟨_, rfl, Below.refl _ _, rfl⟩
   · obtain ⟨y2, hy2, hz2⟩ := hval 2 _ 60 (by omega) (by rw [hl]; rfl) rfl (hedge 2 (by simp))
     rw [show y2 = (v11) from hz2] at hy2
     have b60 := eval_get hy2
     obtain ⟨y3, hy3, hz3⟩ := hval 3 _ 61 (by omega) (by rw [hl]; rfl) rfl (hedge 3 (by simp))
     rw [show y3 = (v10) from hz3] at hy3
     have b61 := eval_get hy3
     refine wpOp_call ho' rfl rfl (args := #[v11, v10]) (by simp [b60, b61]) (cf88 _ _) ((h4 w  hb ).mono ?_)
     rintro e w' ⟨v, rfl, hb2, hr2⟩
     exact ⟨_, rfl, _, rfl, hb2, hr2⟩
   · have b12 := eval_get ((hold 12 (by rw [hl]; rfl)).trans k12)
     exact wpOp_value ho' rfl (w' := w) (by go_simp) ⟨_, rfl, Below.refl _ _, rfl⟩
   · obtain ⟨_, hy1, rfl⟩ := hval 1 _ 59 (by omega) (by rw [hl]; rfl) rfl (hedge 1 (by simp))
     have b59 := eval_get hy1
     obtain ⟨y4, hy4, hz4⟩ := hval 4 _ 62 (by omega) (by rw [hl]; rfl) rfl (hedge 4 (by simp))
     have b62 := eval_get hy4
     obtain ⟨y5, hy5, hz5⟩ := hval 5 _ 63 (by omega) (by rw [hl]; rfl) rfl (hedge 5 (by simp))
     rw [show y5 = (v12) from hz5] at hy5
     have b63 := eval_get hy5
     refine wpOp_call ho' rfl rfl (args := #[(Value.bool b), y4, v12]) (by simp [b59, b62, b63]) (cf46 _ _) ((h6 w y4 hb hz4).mono ?_)
     rintro e w' ⟨rfl, hb2⟩
     exact ⟨_, rfl, _, rfl, hb2, rfl⟩
   · obtain ⟨_, hy6, rfl⟩ := hval 6 _ 64 (by omega) (by rw [hl]; rfl) rfl (hedge 6 (by simp))
     have b64 := eval_get hy6
     exact wpOp_value ho' rfl (w' := w) (by go_simp) ⟨_, rfl, Below.refl _ _, rfl⟩
   · obtain ⟨_, hy6, rfl⟩ := hval 6 _ 64 (by omega) (by rw [hl]; rfl) rfl (hedge 6 (by simp))
     have b64 := eval_get hy6
     exact wpOp_value ho' rfl (w' := w) (by go_simp) ⟨_, rfl, Below.refl _ _, rfl⟩
 · intro val w hb hrows
   have q4 : R4 (val 4) w := hrows 4 (by omega)
   have hF := hK (val 4) w hb q4
   subst hl
   simp only [List.take_succ_cons, List.take_zero, putAll, Nat.zero_add, Nat.reduceAdd, show val 0 = _ from hrows 0 (by omega), show val 1 = _ from hrows 1 (by omega), show val 2 = _ from hrows 2 (by omega), show val 3 = _ from hrows 3 (by omega), show val 5 = _ from hrows 5 (by omega), show val 6 = _ from hrows 6 (by omega), show val 7 = _ from hrows 7 (by omega), show val 8 = _ from hrows 8 (by omega)]
   exact hF
set_option maxRecDepth 100000 in
set_option maxHeartbeats 4000000 in
theorem region_add3 {id : Nat} {Q : Exit → Act → World → Prop} {a0 : Act} {w0 : World} {l : List Oper} {g : Nat} {b : Bool} {r : FracV × Int}
 {t0 t1 t2 t3 t4 t5 t6 t7 t8 t9 t10 : TypeId} {x0 x1 x2 x3 x4 x5 x6 x7 x8 x9 x10 : String} {e0 e1 e2 e3 e4 e5 e6 e7 e8 e9 e10 : Array Edge}
 (hl : l = [⟨some 67, .fieldAddr 37 (.tmp 2) 0, t0, x0, e0, none⟩, ⟨some 68, .load 4 (.tmp 67), t1, x1, e1, none⟩, ⟨some 69, .move (.tmp 10), t2, x2, e2, none⟩, ⟨some 70, .move (.tmp 11), t3, x3, e3, none⟩, ⟨some 71, .call { callee := .value (.func 88), args := #[.tmp 69, .tmp 70], argTypes := #[108, 108] }, t4, x4, e4, none⟩, ⟨some 72, .move (.tmp 12), t5, x5, e5, none⟩, ⟨some 73, .call { callee := .value (.func 46), args := #[.tmp 68, .tmp 71, .tmp 72], argTypes := #[4, 108, 108] }, t6, x6, e6, none⟩, ⟨some 74, .extract (.tmp 73) 0, t7, x7, e7, none⟩, ⟨some 75, .extract (.tmp 73) 1, t8, x8, e8, none⟩, ⟨none, .store 37 (.tmp 4) (.tmp 74), t9, x9, e9, none⟩, ⟨some 5, .assign (.tmp 75), t10, x10, e10, none⟩])
 (hO : orderB l 9 = true) (hd : dstsB l 9 a0.tmps.size = true) (hpre : preB l.toArray [(1, [0]), (4, [2, 3]), (6, [1, 4, 5]), (7, [6]), (8, [6])] = true)
 {v10 : Value} {v11 : Value} {v12 : Value} (k2 : a0.tmps[2]? = some (Value.pointer (some ⟨g, 0, none⟩))) (k10 : a0.tmps[10]? = some (v10)) (k11 : a0.tmps[11]? = some (v11)) (k12 : a0.tmps[12]? = some (v12))
 (R4 : Value → World → Prop) (s4 : ∀ v w w', R4 v w → From w w' → R4 v w')
 (h1 : ∀ w, From w0 w → (loadVar 4 ⟨g, 0, none⟩).run Try.prog w = .ok (Value.bool b) w)
 (h4 : ∀ w , From w0 w → Calls Try.prog 88 #[v10, v11] w fun e w' => ∃ v, e = .returned v ∧ From w w' ∧ R4 v w')
 (h6 : ∀ w u4, From w0 w → R4 u4 w → Calls Try.prog 46 #[(Value.bool b), u4, v12] w fun e w' => e = .returned (Value.tuple #[r.1.val, .int .i64 r.2]) ∧ From w w')
 (hK : ∀ u4 w, From w0 w → R4 u4 w → wpList Try.prog l.toArray Q (l.drop 9) (((((((((a0.put (some 67) (Value.pointer (some ⟨g, 0, none⟩))).put (some 68) ((Value.bool b))).put (some 69) (v10)).put (some 70) (v11)).put (some 71) u4).put (some 72) (v12)).put (some 73) (Value.tuple #[r.1.val, .int .i64 r.2])).put (some 74) (r.1.val)).put (some 75) (Value.int .i64 r.2)) w) :
 (Code.region id l.toArray true).wp Try.prog Q a0 w0 := by
 have hlen : l.length = 11 := by rw [hl]; rfl
 have hpz := List.all_eq_true.1 hpre
 refine wp_region_keep 9 (fun i v w => match i with
  | 0 => v = (Value.pointer (some ⟨g, 0, none⟩))
  | 1 => v = ((Value.bool b))
  | 2 => v = (v10)
  | 3 => v = (v11)
  | 4 => R4 v w
  | 5 => v = (v12)
  | 6 => v = (Value.tuple #[r.1.val, .int .i64 r.2])
  | 7 => v = (r.1.val)
  | 8 => v = (Value.int .i64 r.2)
  | _ => True) ?_ (by kernel_rfl) hO (by omega) hd ?_ ?_
 · intro i v w w' h hb
   match i, h with
   | 0, h => exact h
   | 1, h => exact h
   | 2, h => exact h
   | 3, h => exact h
   | 4, h => exact s4 v w w' h hb
   | 5, h => exact h
   | 6, h => exact h
   | 7, h => exact h
   | 8, h => exact h
   | _ + 9, _ => trivial
 · intro i o hi ho a w hb hval hold
   have ho' : l.toArray[i]? = some o := by simpa using ho
   have hedge : ∀ j, (∃ js, (i, js) ∈ ([(1, [0]), (4, [2, 3]), (6, [1, 4, 5]), (7, [6]), (8, [6])] : List (Nat × List Nat)) ∧ j ∈ js) → (o.after.any fun e => Region.binds .any e && e.on == j) = true := fun j ⟨_, hm, hj⟩ => by
    have h1 := List.all_eq_true.1 (hpz _ hm) j hj
    rw [ho'] at h1
    simpa using h1
   have hcase : i = 0 ∨ i = 1 ∨ i = 2 ∨ i = 3 ∨ i = 4 ∨ i = 5 ∨ i = 6 ∨ i = 7 ∨ i = 8 := by omega
   rcases hcase with rfl | rfl | rfl | rfl | rfl | rfl | rfl | rfl | rfl
   all_goals (rw [hl] at ho; injection ho with ho; subst ho)
   · have b2 := eval_get ((hold 2 (by rw [hl]; rfl)).trans k2)
     exact wpOp_value ho' rfl (w' := w) (by go_simp) ⟨_, rfl, Below.refl _ _, rfl⟩
   · obtain ⟨_, hy0, rfl⟩ := hval 0 _ 67 (by omega) (by rw [hl]; rfl) rfl (hedge 0 (by simp))
     have b67 := eval_get hy0
     exact wpOp_load ho' rfl rfl b67 (h1 w hb) ⟨_, rfl, Below.refl _ _, rfl⟩
   · have b10 := eval_get ((hold 10 (by rw [hl]; rfl)).trans k10)
     exact wpOp_value ho' rfl (w' := w) (by go_simp) ⟨_, rfl, Below.refl _ _, rfl⟩
   · have b11 := eval_get ((hold 11 (by rw [hl]; rfl)).trans k11)
     exact wpOp_value ho' rfl (w' := w) (by go_simp) ⟨_, rfl, Below.refl _ _, rfl⟩
   · obtain ⟨y2, hy2, hz2⟩ := hval 2 _ 69 (by omega) (by rw [hl]; rfl) rfl (hedge 2 (by simp))
     rw [show y2 = (v10) from hz2] at hy2
     have b69 := eval_get hy2
     obtain ⟨y3, hy3, hz3⟩ := hval 3 _ 70 (by omega) (by rw [hl]; rfl) rfl (hedge 3 (by simp))
     rw [show y3 = (v11) from hz3] at hy3
     have b70 := eval_get hy3
     refine wpOp_call ho' rfl rfl (args := #[v10, v11]) (by simp [b69, b70]) (cf88 _ _) ((h4 w  hb ).mono ?_)
     rintro e w' ⟨v, rfl, hb2, hr2⟩
     exact ⟨_, rfl, _, rfl, hb2, hr2⟩
   · have b12 := eval_get ((hold 12 (by rw [hl]; rfl)).trans k12)
     exact wpOp_value ho' rfl (w' := w) (by go_simp) ⟨_, rfl, Below.refl _ _, rfl⟩
   · obtain ⟨_, hy1, rfl⟩ := hval 1 _ 68 (by omega) (by rw [hl]; rfl) rfl (hedge 1 (by simp))
     have b68 := eval_get hy1
     obtain ⟨y4, hy4, hz4⟩ := hval 4 _ 71 (by omega) (by rw [hl]; rfl) rfl (hedge 4 (by simp))
     have b71 := eval_get hy4
     obtain ⟨y5, hy5, hz5⟩ := hval 5 _ 72 (by omega) (by rw [hl]; rfl) rfl (hedge 5 (by simp))
     rw [show y5 = (v12) from hz5] at hy5
     have b72 := eval_get hy5
     refine wpOp_call ho' rfl rfl (args := #[(Value.bool b), y4, v12]) (by simp [b68, b71, b72]) (cf46 _ _) ((h6 w y4 hb hz4).mono ?_)
     rintro e w' ⟨rfl, hb2⟩
     exact ⟨_, rfl, _, rfl, hb2, rfl⟩
   · obtain ⟨_, hy6, rfl⟩ := hval 6 _ 73 (by omega) (by rw [hl]; rfl) rfl (hedge 6 (by simp))
     have b73 := eval_get hy6
     exact wpOp_value ho' rfl (w' := w) (by go_simp) ⟨_, rfl, Below.refl _ _, rfl⟩
   · obtain ⟨_, hy6, rfl⟩ := hval 6 _ 73 (by omega) (by rw [hl]; rfl) rfl (hedge 6 (by simp))
     have b73 := eval_get hy6
     exact wpOp_value ho' rfl (w' := w) (by go_simp) ⟨_, rfl, Below.refl _ _, rfl⟩
 · intro val w hb hrows
   have q4 : R4 (val 4) w := hrows 4 (by omega)
   have hF := hK (val 4) w hb q4
   subst hl
   simp only [List.take_succ_cons, List.take_zero, putAll, Nat.zero_add, Nat.reduceAdd, show val 0 = _ from hrows 0 (by omega), show val 1 = _ from hrows 1 (by omega), show val 2 = _ from hrows 2 (by omega), show val 3 = _ from hrows 3 (by omega), show val 5 = _ from hrows 5 (by omega), show val 6 = _ from hrows 6 (by omega), show val 7 = _ from hrows 7 (by omega), show val 8 = _ from hrows 8 (by omega)]
   exact hF
set_option maxRecDepth 100000 in
set_option maxHeartbeats 4000000 in
theorem region_sub {id : Nat} {Q : Exit → Act → World → Prop} {a0 : Act} {w0 : World} {l : List Oper} {g g2 : Nat} {f f2 : Value} {r : FracV × Int}
 {t0 t1 t2 t3 t4 t5 t6 t7 : TypeId} {x0 x1 x2 x3 x4 x5 x6 x7 : String} {e0 e1 e2 e3 e4 e5 e6 e7 : Array Edge}
 (hl : l = [⟨some 15, .load 37 (.tmp 2), t0, x0, e0, none⟩, ⟨some 16, .load 37 (.tmp 3), t1, x1, e1, none⟩, ⟨some 17, .call { callee := .value (.func 52), args := #[.tmp 16], argTypes := #[37] }, t2, x2, e2, none⟩, ⟨some 18, .call { callee := .value (.func 51), args := #[.tmp 15, .tmp 17], argTypes := #[37, 37] }, t3, x3, e3, none⟩, ⟨some 19, .extract (.tmp 18) 0, t4, x4, e4, none⟩, ⟨some 20, .extract (.tmp 18) 1, t5, x5, e5, none⟩, ⟨none, .store 37 (.tmp 4) (.tmp 19), t6, x6, e6, none⟩, ⟨some 5, .assign (.tmp 20), t7, x7, e7, none⟩])
 (hO : orderB l 6 = true) (hd : dstsB l 6 a0.tmps.size = true) (hpre : preB l.toArray [(2, [1]), (3, [0, 2]), (4, [3]), (5, [3])] = true)
  (k2 : a0.tmps[2]? = some (Value.pointer (some ⟨g, 0, none⟩))) (k3 : a0.tmps[3]? = some (Value.pointer (some ⟨g2, 0, none⟩)))
 (R2 : Value → World → Prop) (s2 : ∀ v w w', R2 v w → From w w' → R2 v w')
 (h0 : ∀ w, From w0 w → (loadVar 37 ⟨g, 0, none⟩).run Try.prog w = .ok f w)
 (h1 : ∀ w, From w0 w → (loadVar 37 ⟨g2, 0, none⟩).run Try.prog w = .ok f2 w)
 (h2 : ∀ w , From w0 w → Calls Try.prog 52 #[f2] w fun e w' => ∃ v, e = .returned v ∧ From w w' ∧ R2 v w')
 (h3 : ∀ w u2, From w0 w → R2 u2 w → Calls Try.prog 51 #[f, u2] w fun e w' => e = .returned (Value.tuple #[r.1.val, .int .i64 r.2]) ∧ From w w')
 (hK : ∀ u2 w, From w0 w → R2 u2 w → wpList Try.prog l.toArray Q (l.drop 6) ((((((a0.put (some 15) (f)).put (some 16) (f2)).put (some 17) u2).put (some 18) (Value.tuple #[r.1.val, .int .i64 r.2])).put (some 19) (r.1.val)).put (some 20) (Value.int .i64 r.2)) w) :
 (Code.region id l.toArray true).wp Try.prog Q a0 w0 := by
 have hlen : l.length = 8 := by rw [hl]; rfl
 have hpz := List.all_eq_true.1 hpre
 refine wp_region_keep 6 (fun i v w => match i with
  | 0 => v = (f)
  | 1 => v = (f2)
  | 2 => R2 v w
  | 3 => v = (Value.tuple #[r.1.val, .int .i64 r.2])
  | 4 => v = (r.1.val)
  | 5 => v = (Value.int .i64 r.2)
  | _ => True) ?_ (by kernel_rfl) hO (by omega) hd ?_ ?_
 · intro i v w w' h hb
   match i, h with
   | 0, h => exact h
   | 1, h => exact h
   | 2, h => exact s2 v w w' h hb
   | 3, h => exact h
   | 4, h => exact h
   | 5, h => exact h
   | _ + 6, _ => trivial
 · intro i o hi ho a w hb hval hold
   have ho' : l.toArray[i]? = some o := by simpa using ho
   have hedge : ∀ j, (∃ js, (i, js) ∈ ([(2, [1]), (3, [0, 2]), (4, [3]), (5, [3])] : List (Nat × List Nat)) ∧ j ∈ js) → (o.after.any fun e => Region.binds .any e && e.on == j) = true := fun j ⟨_, hm, hj⟩ => by
    have h1 := List.all_eq_true.1 (hpz _ hm) j hj
    rw [ho'] at h1
    simpa using h1
   have hcase : i = 0 ∨ i = 1 ∨ i = 2 ∨ i = 3 ∨ i = 4 ∨ i = 5 := by omega
   rcases hcase with rfl | rfl | rfl | rfl | rfl | rfl
   all_goals (rw [hl] at ho; injection ho with ho; subst ho)
   · have b2 := eval_get ((hold 2 (by rw [hl]; rfl)).trans k2)
     exact wpOp_load ho' rfl rfl b2 (h0 w hb) ⟨_, rfl, Below.refl _ _, rfl⟩
   · have b3 := eval_get ((hold 3 (by rw [hl]; rfl)).trans k3)
     exact wpOp_load ho' rfl rfl b3 (h1 w hb) ⟨_, rfl, Below.refl _ _, rfl⟩
   · obtain ⟨y1, hy1, hz1⟩ := hval 1 _ 16 (by omega) (by rw [hl]; rfl) rfl (hedge 1 (by simp))
     rw [show y1 = (f2) from hz1] at hy1
     have b16 := eval_get hy1
     refine wpOp_call ho' rfl rfl (args := #[f2]) (by simp [b16]) (cf52 _ _) ((h2 w  hb ).mono ?_)
     rintro e w' ⟨v, rfl, hb2, hr2⟩
     exact ⟨_, rfl, _, rfl, hb2, hr2⟩
   · obtain ⟨y0, hy0, hz0⟩ := hval 0 _ 15 (by omega) (by rw [hl]; rfl) rfl (hedge 0 (by simp))
     rw [show y0 = (f) from hz0] at hy0
     have b15 := eval_get hy0
     obtain ⟨y2, hy2, hz2⟩ := hval 2 _ 17 (by omega) (by rw [hl]; rfl) rfl (hedge 2 (by simp))
     have b17 := eval_get hy2
     refine wpOp_call ho' rfl rfl (args := #[f, y2]) (by simp [b15, b17]) (cf51 _ _) ((h3 w y2 hb hz2).mono ?_)
     rintro e w' ⟨rfl, hb2⟩
     exact ⟨_, rfl, _, rfl, hb2, rfl⟩
   · obtain ⟨_, hy3, rfl⟩ := hval 3 _ 18 (by omega) (by rw [hl]; rfl) rfl (hedge 3 (by simp))
     have b18 := eval_get hy3
     exact wpOp_value ho' rfl (w' := w) (by go_simp) ⟨_, rfl, Below.refl _ _, rfl⟩
   · obtain ⟨_, hy3, rfl⟩ := hval 3 _ 18 (by omega) (by rw [hl]; rfl) rfl (hedge 3 (by simp))
     have b18 := eval_get hy3
     exact wpOp_value ho' rfl (w' := w) (by go_simp) ⟨_, rfl, Below.refl _ _, rfl⟩
 · intro val w hb hrows
   have q2 : R2 (val 2) w := hrows 2 (by omega)
   have hF := hK (val 2) w hb q2
   subst hl
   simp only [List.take_succ_cons, List.take_zero, putAll, Nat.zero_add, Nat.reduceAdd, show val 0 = _ from hrows 0 (by omega), show val 1 = _ from hrows 1 (by omega), show val 3 = _ from hrows 3 (by omega), show val 4 = _ from hrows 4 (by omega), show val 5 = _ from hrows 5 (by omega)]
   exact hF
set_option maxRecDepth 100000 in
set_option maxHeartbeats 4000000 in
theorem region_mul {id : Nat} {Q : Exit → Act → World → Prop} {a0 : Act} {w0 : World} {l : List Oper} {g g2 : Nat} {b b2 : Bool} {r : FracV × Int}
 {t0 t1 t2 t3 t4 t5 t6 t7 t8 t9 t10 t11 t12 t13 t14 t15 : TypeId} {x0 x1 x2 x3 x4 x5 x6 x7 x8 x9 x10 x11 x12 x13 x14 x15 : String} {e0 e1 e2 e3 e4 e5 e6 e7 e8 e9 e10 e11 e12 e13 e14 e15 : Array Edge}
 (hl : l = [⟨some 29, .fieldAddr 37 (.tmp 2) 0, t0, x0, e0, none⟩, ⟨some 30, .load 4 (.tmp 29), t1, x1, e1, none⟩, ⟨some 31, .fieldAddr 37 (.tmp 3) 0, t2, x2, e2, none⟩, ⟨some 32, .load 4 (.tmp 31), t3, x3, e3, none⟩, ⟨some 33, .binOp .neq 4 (.tmp 30) (.tmp 32) 4, t4, x4, e4, none⟩, ⟨some 34, .move (.tmp 6), t5, x5, e5, none⟩, ⟨some 35, .move (.tmp 8), t6, x6, e6, none⟩, ⟨some 36, .call { callee := .value (.func 54), args := #[.tmp 34, .tmp 35], argTypes := #[108, 108] }, t7, x7, e7, none⟩, ⟨some 37, .move (.tmp 7), t8, x8, e8, none⟩, ⟨some 38, .move (.tmp 9), t9, x9, e9, none⟩, ⟨some 39, .call { callee := .value (.func 54), args := #[.tmp 37, .tmp 38], argTypes := #[108, 108] }, t10, x10, e10, none⟩, ⟨some 40, .call { callee := .value (.func 46), args := #[.tmp 33, .tmp 36, .tmp 39], argTypes := #[4, 108, 108] }, t11, x11, e11, none⟩, ⟨some 41, .extract (.tmp 40) 0, t12, x12, e12, none⟩, ⟨some 42, .extract (.tmp 40) 1, t13, x13, e13, none⟩, ⟨none, .store 37 (.tmp 4) (.tmp 41), t14, x14, e14, none⟩, ⟨some 5, .assign (.tmp 42), t15, x15, e15, none⟩])
 (hO : orderB l 14 = true) (hd : dstsB l 14 a0.tmps.size = true) (hpre : preB l.toArray [(1, [0]), (3, [2]), (4, [1, 3]), (7, [5, 6]), (10, [8, 9]), (11, [4, 7, 10]), (12, [11]), (13, [11])] = true)
 {v6 : Value} {v7 : Value} {v8 : Value} {v9 : Value} (k2 : a0.tmps[2]? = some (Value.pointer (some ⟨g, 0, none⟩))) (k3 : a0.tmps[3]? = some (Value.pointer (some ⟨g2, 0, none⟩))) (k6 : a0.tmps[6]? = some (v6)) (k7 : a0.tmps[7]? = some (v7)) (k8 : a0.tmps[8]? = some (v8)) (k9 : a0.tmps[9]? = some (v9))
 (R7 R10 : Value → World → Prop) (s7 : ∀ v w w', R7 v w → From w w' → R7 v w') (s10 : ∀ v w w', R10 v w → From w w' → R10 v w')
 (h1 : ∀ w, From w0 w → (loadVar 4 ⟨g, 0, none⟩).run Try.prog w = .ok (Value.bool b) w)
 (h3 : ∀ w, From w0 w → (loadVar 4 ⟨g2, 0, none⟩).run Try.prog w = .ok (Value.bool b2) w)
 (h7 : ∀ w , From w0 w → Calls Try.prog 54 #[v6, v8] w fun e w' => ∃ v, e = .returned v ∧ From w w' ∧ R7 v w')
 (h10 : ∀ w , From w0 w → Calls Try.prog 54 #[v7, v9] w fun e w' => ∃ v, e = .returned v ∧ From w w' ∧ R10 v w')
 (h11 : ∀ w u7 u10, From w0 w → R7 u7 w → R10 u10 w → Calls Try.prog 46 #[Value.bool (!(b == b2)), u7, u10] w fun e w' => e = .returned (Value.tuple #[r.1.val, .int .i64 r.2]) ∧ From w w')
 (hK : ∀ u7 u10 w, From w0 w → R7 u7 w → R10 u10 w → wpList Try.prog l.toArray Q (l.drop 14) ((((((((((((((a0.put (some 29) (Value.pointer (some ⟨g, 0, none⟩))).put (some 30) ((Value.bool b))).put (some 31) (Value.pointer (some ⟨g2, 0, none⟩))).put (some 32) ((Value.bool b2))).put (some 33) (Value.bool (!(b == b2)))).put (some 34) (v6)).put (some 35) (v8)).put (some 36) u7).put (some 37) (v7)).put (some 38) (v9)).put (some 39) u10).put (some 40) (Value.tuple #[r.1.val, .int .i64 r.2])).put (some 41) (r.1.val)).put (some 42) (Value.int .i64 r.2)) w) :
 (Code.region id l.toArray true).wp Try.prog Q a0 w0 := by
 have hlen : l.length = 16 := by rw [hl]; rfl
 have hpz := List.all_eq_true.1 hpre
 refine wp_region_keep 14 (fun i v w => match i with
  | 0 => v = (Value.pointer (some ⟨g, 0, none⟩))
  | 1 => v = ((Value.bool b))
  | 2 => v = (Value.pointer (some ⟨g2, 0, none⟩))
  | 3 => v = ((Value.bool b2))
  | 4 => v = (Value.bool (!(b == b2)))
  | 5 => v = (v6)
  | 6 => v = (v8)
  | 7 => R7 v w
  | 8 => v = (v7)
  | 9 => v = (v9)
  | 10 => R10 v w
  | 11 => v = (Value.tuple #[r.1.val, .int .i64 r.2])
  | 12 => v = (r.1.val)
  | 13 => v = (Value.int .i64 r.2)
  | _ => True) ?_ (by kernel_rfl) hO (by omega) hd ?_ ?_
 · intro i v w w' h hb
   match i, h with
   | 0, h => exact h
   | 1, h => exact h
   | 2, h => exact h
   | 3, h => exact h
   | 4, h => exact h
   | 5, h => exact h
   | 6, h => exact h
   | 7, h => exact s7 v w w' h hb
   | 8, h => exact h
   | 9, h => exact h
   | 10, h => exact s10 v w w' h hb
   | 11, h => exact h
   | 12, h => exact h
   | 13, h => exact h
   | _ + 14, _ => trivial
 · intro i o hi ho a w hb hval hold
   have ho' : l.toArray[i]? = some o := by simpa using ho
   have hedge : ∀ j, (∃ js, (i, js) ∈ ([(1, [0]), (3, [2]), (4, [1, 3]), (7, [5, 6]), (10, [8, 9]), (11, [4, 7, 10]), (12, [11]), (13, [11])] : List (Nat × List Nat)) ∧ j ∈ js) → (o.after.any fun e => Region.binds .any e && e.on == j) = true := fun j ⟨_, hm, hj⟩ => by
    have h1 := List.all_eq_true.1 (hpz _ hm) j hj
    rw [ho'] at h1
    simpa using h1
   have hcase : i = 0 ∨ i = 1 ∨ i = 2 ∨ i = 3 ∨ i = 4 ∨ i = 5 ∨ i = 6 ∨ i = 7 ∨ i = 8 ∨ i = 9 ∨ i = 10 ∨ i = 11 ∨ i = 12 ∨ i = 13 := by omega
   rcases hcase with rfl | rfl | rfl | rfl | rfl | rfl | rfl | rfl | rfl | rfl | rfl | rfl | rfl | rfl
   all_goals (rw [hl] at ho; injection ho with ho; subst ho)
   · have b2 := eval_get ((hold 2 (by rw [hl]; rfl)).trans k2)
     exact wpOp_value ho' rfl (w' := w) (by go_simp) ⟨_, rfl, Below.refl _ _, rfl⟩
   · obtain ⟨_, hy0, rfl⟩ := hval 0 _ 29 (by omega) (by rw [hl]; rfl) rfl (hedge 0 (by simp))
     have b29 := eval_get hy0
     exact wpOp_load ho' rfl rfl b29 (h1 w hb) ⟨_, rfl, Below.refl _ _, rfl⟩
   · have b3 := eval_get ((hold 3 (by rw [hl]; rfl)).trans k3)
     exact wpOp_value ho' rfl (w' := w) (by go_simp) ⟨_, rfl, Below.refl _ _, rfl⟩
   · obtain ⟨_, hy2, rfl⟩ := hval 2 _ 31 (by omega) (by rw [hl]; rfl) rfl (hedge 2 (by simp))
     have b31 := eval_get hy2
     exact wpOp_load ho' rfl rfl b31 (h3 w hb) ⟨_, rfl, Below.refl _ _, rfl⟩
   · obtain ⟨_, hy1, rfl⟩ := hval 1 _ 30 (by omega) (by rw [hl]; rfl) rfl (hedge 1 (by simp))
     have b30 := eval_get hy1
     obtain ⟨_, hy3, rfl⟩ := hval 3 _ 32 (by omega) (by rw [hl]; rfl) rfl (hedge 3 (by simp))
     have b32 := eval_get hy3
     exact wpOp_value ho' rfl (w' := w) (by go_simp) ⟨_, rfl, Below.refl _ _, rfl⟩
   · have b6 := eval_get ((hold 6 (by rw [hl]; rfl)).trans k6)
     exact wpOp_value ho' rfl (w' := w) (by go_simp) ⟨_, rfl, Below.refl _ _, rfl⟩
   · have b8 := eval_get ((hold 8 (by rw [hl]; rfl)).trans k8)
     exact wpOp_value ho' rfl (w' := w) (by go_simp) ⟨_, rfl, Below.refl _ _, rfl⟩
   · obtain ⟨y5, hy5, hz5⟩ := hval 5 _ 34 (by omega) (by rw [hl]; rfl) rfl (hedge 5 (by simp))
     rw [show y5 = (v6) from hz5] at hy5
     have b34 := eval_get hy5
     obtain ⟨y6, hy6, hz6⟩ := hval 6 _ 35 (by omega) (by rw [hl]; rfl) rfl (hedge 6 (by simp))
     rw [show y6 = (v8) from hz6] at hy6
     have b35 := eval_get hy6
     refine wpOp_call ho' rfl rfl (args := #[v6, v8]) (by simp [b34, b35]) (cf54 _ _) ((h7 w  hb ).mono ?_)
     rintro e w' ⟨v, rfl, hb2, hr2⟩
     exact ⟨_, rfl, _, rfl, hb2, hr2⟩
   · have b7 := eval_get ((hold 7 (by rw [hl]; rfl)).trans k7)
     exact wpOp_value ho' rfl (w' := w) (by go_simp) ⟨_, rfl, Below.refl _ _, rfl⟩
   · have b9 := eval_get ((hold 9 (by rw [hl]; rfl)).trans k9)
     exact wpOp_value ho' rfl (w' := w) (by go_simp) ⟨_, rfl, Below.refl _ _, rfl⟩
   · obtain ⟨y8, hy8, hz8⟩ := hval 8 _ 37 (by omega) (by rw [hl]; rfl) rfl (hedge 8 (by simp))
     rw [show y8 = (v7) from hz8] at hy8
     have b37 := eval_get hy8
     obtain ⟨y9, hy9, hz9⟩ := hval 9 _ 38 (by omega) (by rw [hl]; rfl) rfl (hedge 9 (by simp))
     rw [show y9 = (v9) from hz9] at hy9
     have b38 := eval_get hy9
     refine wpOp_call ho' rfl rfl (args := #[v7, v9]) (by simp [b37, b38]) (cf54 _ _) ((h10 w  hb ).mono ?_)
     rintro e w' ⟨v, rfl, hb2, hr2⟩
     exact ⟨_, rfl, _, rfl, hb2, hr2⟩
   · obtain ⟨_, hy4, rfl⟩ := hval 4 _ 33 (by omega) (by rw [hl]; rfl) rfl (hedge 4 (by simp))
     have b33 := eval_get hy4
     obtain ⟨y7, hy7, hz7⟩ := hval 7 _ 36 (by omega) (by rw [hl]; rfl) rfl (hedge 7 (by simp))
     have b36 := eval_get hy7
     obtain ⟨y10, hy10, hz10⟩ := hval 10 _ 39 (by omega) (by rw [hl]; rfl) rfl (hedge 10 (by simp))
     have b39 := eval_get hy10
     refine wpOp_call ho' rfl rfl (args := #[Value.bool (!(b == b2)), y7, y10]) (by simp [b33, b36, b39]) (cf46 _ _) ((h11 w y7 y10 hb hz7 hz10).mono ?_)
     rintro e w' ⟨rfl, hb2⟩
     exact ⟨_, rfl, _, rfl, hb2, rfl⟩
   · obtain ⟨_, hy11, rfl⟩ := hval 11 _ 40 (by omega) (by rw [hl]; rfl) rfl (hedge 11 (by simp))
     have b40 := eval_get hy11
     exact wpOp_value ho' rfl (w' := w) (by go_simp) ⟨_, rfl, Below.refl _ _, rfl⟩
   · obtain ⟨_, hy11, rfl⟩ := hval 11 _ 40 (by omega) (by rw [hl]; rfl) rfl (hedge 11 (by simp))
     have b40 := eval_get hy11
     exact wpOp_value ho' rfl (w' := w) (by go_simp) ⟨_, rfl, Below.refl _ _, rfl⟩
 · intro val w hb hrows
   have q7 : R7 (val 7) w := hrows 7 (by omega)
   have q10 : R10 (val 10) w := hrows 10 (by omega)
   have hF := hK (val 7) (val 10) w hb q7 q10
   subst hl
   simp only [List.take_succ_cons, List.take_zero, putAll, Nat.zero_add, Nat.reduceAdd, show val 0 = _ from hrows 0 (by omega), show val 1 = _ from hrows 1 (by omega), show val 2 = _ from hrows 2 (by omega), show val 3 = _ from hrows 3 (by omega), show val 4 = _ from hrows 4 (by omega), show val 5 = _ from hrows 5 (by omega), show val 6 = _ from hrows 6 (by omega), show val 8 = _ from hrows 8 (by omega), show val 9 = _ from hrows 9 (by omega), show val 11 = _ from hrows 11 (by omega), show val 12 = _ from hrows 12 (by omega), show val 13 = _ from hrows 13 (by omega)]
   exact hF
set_option maxRecDepth 100000 in
set_option maxHeartbeats 4000000 in
theorem region_divf {id : Nat} {Q : Exit → Act → World → Prop} {a0 : Act} {w0 : World} {l : List Oper} {g g2 : Nat} {b b2 : Bool} {r : FracV × Int}
 {t0 t1 t2 t3 t4 t5 t6 t7 t8 t9 t10 t11 t12 t13 t14 t15 : TypeId} {x0 x1 x2 x3 x4 x5 x6 x7 x8 x9 x10 x11 x12 x13 x14 x15 : String} {e0 e1 e2 e3 e4 e5 e6 e7 e8 e9 e10 e11 e12 e13 e14 e15 : Array Edge}
 (hl : l = [⟨some 35, .fieldAddr 37 (.tmp 2) 0, t0, x0, e0, none⟩, ⟨some 36, .load 4 (.tmp 35), t1, x1, e1, none⟩, ⟨some 37, .fieldAddr 37 (.tmp 3) 0, t2, x2, e2, none⟩, ⟨some 38, .load 4 (.tmp 37), t3, x3, e3, none⟩, ⟨some 39, .binOp .neq 4 (.tmp 36) (.tmp 38) 4, t4, x4, e4, none⟩, ⟨some 40, .move (.tmp 6), t5, x5, e5, none⟩, ⟨some 41, .move (.tmp 9), t6, x6, e6, none⟩, ⟨some 42, .call { callee := .value (.func 54), args := #[.tmp 40, .tmp 41], argTypes := #[108, 108] }, t7, x7, e7, none⟩, ⟨some 43, .move (.tmp 7), t8, x8, e8, none⟩, ⟨some 44, .move (.tmp 8), t9, x9, e9, none⟩, ⟨some 45, .call { callee := .value (.func 54), args := #[.tmp 43, .tmp 44], argTypes := #[108, 108] }, t10, x10, e10, none⟩, ⟨some 46, .call { callee := .value (.func 46), args := #[.tmp 39, .tmp 42, .tmp 45], argTypes := #[4, 108, 108] }, t11, x11, e11, none⟩, ⟨some 47, .extract (.tmp 46) 0, t12, x12, e12, none⟩, ⟨some 48, .extract (.tmp 46) 1, t13, x13, e13, none⟩, ⟨none, .store 37 (.tmp 4) (.tmp 47), t14, x14, e14, none⟩, ⟨some 5, .assign (.tmp 48), t15, x15, e15, none⟩])
 (hO : orderB l 14 = true) (hd : dstsB l 14 a0.tmps.size = true) (hpre : preB l.toArray [(1, [0]), (3, [2]), (4, [1, 3]), (7, [5, 6]), (10, [8, 9]), (11, [4, 7, 10]), (12, [11]), (13, [11])] = true)
 {v6 : Value} {v7 : Value} {v8 : Value} {v9 : Value} (k2 : a0.tmps[2]? = some (Value.pointer (some ⟨g, 0, none⟩))) (k3 : a0.tmps[3]? = some (Value.pointer (some ⟨g2, 0, none⟩))) (k6 : a0.tmps[6]? = some (v6)) (k7 : a0.tmps[7]? = some (v7)) (k8 : a0.tmps[8]? = some (v8)) (k9 : a0.tmps[9]? = some (v9))
 (R7 R10 : Value → World → Prop) (s7 : ∀ v w w', R7 v w → From w w' → R7 v w') (s10 : ∀ v w w', R10 v w → From w w' → R10 v w')
 (h1 : ∀ w, From w0 w → (loadVar 4 ⟨g, 0, none⟩).run Try.prog w = .ok (Value.bool b) w)
 (h3 : ∀ w, From w0 w → (loadVar 4 ⟨g2, 0, none⟩).run Try.prog w = .ok (Value.bool b2) w)
 (h7 : ∀ w , From w0 w → Calls Try.prog 54 #[v6, v9] w fun e w' => ∃ v, e = .returned v ∧ From w w' ∧ R7 v w')
 (h10 : ∀ w , From w0 w → Calls Try.prog 54 #[v7, v8] w fun e w' => ∃ v, e = .returned v ∧ From w w' ∧ R10 v w')
 (h11 : ∀ w u7 u10, From w0 w → R7 u7 w → R10 u10 w → Calls Try.prog 46 #[Value.bool (!(b == b2)), u7, u10] w fun e w' => e = .returned (Value.tuple #[r.1.val, .int .i64 r.2]) ∧ From w w')
 (hK : ∀ u7 u10 w, From w0 w → R7 u7 w → R10 u10 w → wpList Try.prog l.toArray Q (l.drop 14) ((((((((((((((a0.put (some 35) (Value.pointer (some ⟨g, 0, none⟩))).put (some 36) ((Value.bool b))).put (some 37) (Value.pointer (some ⟨g2, 0, none⟩))).put (some 38) ((Value.bool b2))).put (some 39) (Value.bool (!(b == b2)))).put (some 40) (v6)).put (some 41) (v9)).put (some 42) u7).put (some 43) (v7)).put (some 44) (v8)).put (some 45) u10).put (some 46) (Value.tuple #[r.1.val, .int .i64 r.2])).put (some 47) (r.1.val)).put (some 48) (Value.int .i64 r.2)) w) :
 (Code.region id l.toArray true).wp Try.prog Q a0 w0 := by
 have hlen : l.length = 16 := by rw [hl]; rfl
 have hpz := List.all_eq_true.1 hpre
 refine wp_region_keep 14 (fun i v w => match i with
  | 0 => v = (Value.pointer (some ⟨g, 0, none⟩))
  | 1 => v = ((Value.bool b))
  | 2 => v = (Value.pointer (some ⟨g2, 0, none⟩))
  | 3 => v = ((Value.bool b2))
  | 4 => v = (Value.bool (!(b == b2)))
  | 5 => v = (v6)
  | 6 => v = (v9)
  | 7 => R7 v w
  | 8 => v = (v7)
  | 9 => v = (v8)
  | 10 => R10 v w
  | 11 => v = (Value.tuple #[r.1.val, .int .i64 r.2])
  | 12 => v = (r.1.val)
  | 13 => v = (Value.int .i64 r.2)
  | _ => True) ?_ (by kernel_rfl) hO (by omega) hd ?_ ?_
 · intro i v w w' h hb
   match i, h with
   | 0, h => exact h
   | 1, h => exact h
   | 2, h => exact h
   | 3, h => exact h
   | 4, h => exact h
   | 5, h => exact h
   | 6, h => exact h
   | 7, h => exact s7 v w w' h hb
   | 8, h => exact h
   | 9, h => exact h
   | 10, h => exact s10 v w w' h hb
   | 11, h => exact h
   | 12, h => exact h
   | 13, h => exact h
   | _ + 14, _ => trivial
 · intro i o hi ho a w hb hval hold
   have ho' : l.toArray[i]? = some o := by simpa using ho
   have hedge : ∀ j, (∃ js, (i, js) ∈ ([(1, [0]), (3, [2]), (4, [1, 3]), (7, [5, 6]), (10, [8, 9]), (11, [4, 7, 10]), (12, [11]), (13, [11])] : List (Nat × List Nat)) ∧ j ∈ js) → (o.after.any fun e => Region.binds .any e && e.on == j) = true := fun j ⟨_, hm, hj⟩ => by
    have h1 := List.all_eq_true.1 (hpz _ hm) j hj
    rw [ho'] at h1
    simpa using h1
   have hcase : i = 0 ∨ i = 1 ∨ i = 2 ∨ i = 3 ∨ i = 4 ∨ i = 5 ∨ i = 6 ∨ i = 7 ∨ i = 8 ∨ i = 9 ∨ i = 10 ∨ i = 11 ∨ i = 12 ∨ i = 13 := by omega
   rcases hcase with rfl | rfl | rfl | rfl | rfl | rfl | rfl | rfl | rfl | rfl | rfl | rfl | rfl | rfl
   all_goals (rw [hl] at ho; injection ho with ho; subst ho)
   · have b2 := eval_get ((hold 2 (by rw [hl]; rfl)).trans k2)
     exact wpOp_value ho' rfl (w' := w) (by go_simp) ⟨_, rfl, Below.refl _ _, rfl⟩
   · obtain ⟨_, hy0, rfl⟩ := hval 0 _ 35 (by omega) (by rw [hl]; rfl) rfl (hedge 0 (by simp))
     have b35 := eval_get hy0
     exact wpOp_load ho' rfl rfl b35 (h1 w hb) ⟨_, rfl, Below.refl _ _, rfl⟩
   · have b3 := eval_get ((hold 3 (by rw [hl]; rfl)).trans k3)
     exact wpOp_value ho' rfl (w' := w) (by go_simp) ⟨_, rfl, Below.refl _ _, rfl⟩
   · obtain ⟨_, hy2, rfl⟩ := hval 2 _ 37 (by omega) (by rw [hl]; rfl) rfl (hedge 2 (by simp))
     have b37 := eval_get hy2
     exact wpOp_load ho' rfl rfl b37 (h3 w hb) ⟨_, rfl, Below.refl _ _, rfl⟩
   · obtain ⟨_, hy1, rfl⟩ := hval 1 _ 36 (by omega) (by rw [hl]; rfl) rfl (hedge 1 (by simp))
     have b36 := eval_get hy1
     obtain ⟨_, hy3, rfl⟩ := hval 3 _ 38 (by omega) (by rw [hl]; rfl) rfl (hedge 3 (by simp))
     have b38 := eval_get hy3
     exact wpOp_value ho' rfl (w' := w) (by go_simp) ⟨_, rfl, Below.refl _ _, rfl⟩
   · have b6 := eval_get ((hold 6 (by rw [hl]; rfl)).trans k6)
     exact wpOp_value ho' rfl (w' := w) (by go_simp) ⟨_, rfl, Below.refl _ _, rfl⟩
   · have b9 := eval_get ((hold 9 (by rw [hl]; rfl)).trans k9)
     exact wpOp_value ho' rfl (w' := w) (by go_simp) ⟨_, rfl, Below.refl _ _, rfl⟩
   · obtain ⟨y5, hy5, hz5⟩ := hval 5 _ 40 (by omega) (by rw [hl]; rfl) rfl (hedge 5 (by simp))
     rw [show y5 = (v6) from hz5] at hy5
     have b40 := eval_get hy5
     obtain ⟨y6, hy6, hz6⟩ := hval 6 _ 41 (by omega) (by rw [hl]; rfl) rfl (hedge 6 (by simp))
     rw [show y6 = (v9) from hz6] at hy6
     have b41 := eval_get hy6
     refine wpOp_call ho' rfl rfl (args := #[v6, v9]) (by simp [b40, b41]) (cf54 _ _) ((h7 w  hb ).mono ?_)
     rintro e w' ⟨v, rfl, hb2, hr2⟩
     exact ⟨_, rfl, _, rfl, hb2, hr2⟩
   · have b7 := eval_get ((hold 7 (by rw [hl]; rfl)).trans k7)
     exact wpOp_value ho' rfl (w' := w) (by go_simp) ⟨_, rfl, Below.refl _ _, rfl⟩
   · have b8 := eval_get ((hold 8 (by rw [hl]; rfl)).trans k8)
     exact wpOp_value ho' rfl (w' := w) (by go_simp) ⟨_, rfl, Below.refl _ _, rfl⟩
   · obtain ⟨y8, hy8, hz8⟩ := hval 8 _ 43 (by omega) (by rw [hl]; rfl) rfl (hedge 8 (by simp))
     rw [show y8 = (v7) from hz8] at hy8
     have b43 := eval_get hy8
     obtain ⟨y9, hy9, hz9⟩ := hval 9 _ 44 (by omega) (by rw [hl]; rfl) rfl (hedge 9 (by simp))
     rw [show y9 = (v8) from hz9] at hy9
     have b44 := eval_get hy9
     refine wpOp_call ho' rfl rfl (args := #[v7, v8]) (by simp [b43, b44]) (cf54 _ _) ((h10 w  hb ).mono ?_)
     rintro e w' ⟨v, rfl, hb2, hr2⟩
     exact ⟨_, rfl, _, rfl, hb2, hr2⟩
   · obtain ⟨_, hy4, rfl⟩ := hval 4 _ 39 (by omega) (by rw [hl]; rfl) rfl (hedge 4 (by simp))
     have b39 := eval_get hy4
     obtain ⟨y7, hy7, hz7⟩ := hval 7 _ 42 (by omega) (by rw [hl]; rfl) rfl (hedge 7 (by simp))
     have b42 := eval_get hy7
     obtain ⟨y10, hy10, hz10⟩ := hval 10 _ 45 (by omega) (by rw [hl]; rfl) rfl (hedge 10 (by simp))
     have b45 := eval_get hy10
     refine wpOp_call ho' rfl rfl (args := #[Value.bool (!(b == b2)), y7, y10]) (by simp [b39, b42, b45]) (cf46 _ _) ((h11 w y7 y10 hb hz7 hz10).mono ?_)
     rintro e w' ⟨rfl, hb2⟩
     exact ⟨_, rfl, _, rfl, hb2, rfl⟩
   · obtain ⟨_, hy11, rfl⟩ := hval 11 _ 46 (by omega) (by rw [hl]; rfl) rfl (hedge 11 (by simp))
     have b46 := eval_get hy11
     exact wpOp_value ho' rfl (w' := w) (by go_simp) ⟨_, rfl, Below.refl _ _, rfl⟩
   · obtain ⟨_, hy11, rfl⟩ := hval 11 _ 46 (by omega) (by rw [hl]; rfl) rfl (hedge 11 (by simp))
     have b46 := eval_get hy11
     exact wpOp_value ho' rfl (w' := w) (by go_simp) ⟨_, rfl, Below.refl _ _, rfl⟩
 · intro val w hb hrows
   have q7 : R7 (val 7) w := hrows 7 (by omega)
   have q10 : R10 (val 10) w := hrows 10 (by omega)
   have hF := hK (val 7) (val 10) w hb q7 q10
   subst hl
   simp only [List.take_succ_cons, List.take_zero, putAll, Nat.zero_add, Nat.reduceAdd, show val 0 = _ from hrows 0 (by omega), show val 1 = _ from hrows 1 (by omega), show val 2 = _ from hrows 2 (by omega), show val 3 = _ from hrows 3 (by omega), show val 4 = _ from hrows 4 (by omega), show val 5 = _ from hrows 5 (by omega), show val 6 = _ from hrows 6 (by omega), show val 8 = _ from hrows 8 (by omega), show val 9 = _ from hrows 9 (by omega), show val 11 = _ from hrows 11 (by omega), show val 12 = _ from hrows 12 (by omega), show val 13 = _ from hrows 13 (by omega)]
   exact hF
end Go.Proofs.Ytcdfnlgimbecgaa
