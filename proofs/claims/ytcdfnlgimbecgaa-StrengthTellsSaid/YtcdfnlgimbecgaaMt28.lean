/-
  twistlocklaw18: regions that draw their order. (Printed by gen_l18.py.)
-/
import Derived.Test.YtcdfnlgimbecgaaMt27
namespace Go.Proofs.Ytcdfnlgimbecgaa
open Go.RowKit
theorem cf34 (w : World) (args : Array Value) : (callFunc 34 args).run Try.prog w = .ok (.enter 34 args) w := by
 go_simp
set_option maxRecDepth 100000 in
set_option maxHeartbeats 4000000 in
theorem region_sameints {id : Nat} {Q : Exit → Act → World → Prop} {a0 : Act} {w0 : World} {l : List Oper} {ga oa na ca gb ob nb cb kk : Nat} {x y : Int} (hka : (kk : Int) < (na : Int)) (hkb : (kk : Int) < (nb : Int))
 {t0 t1 t2 t3 t4 t5 t6 t7 t8 : TypeId} {x0 x1 x2 x3 x4 x5 x6 x7 x8 : String} {e0 e1 e2 e3 e4 e5 e6 e7 e8 : Array Edge}
 (hl : l = [⟨some 17, .move (.tmp 0), t0, x0, e0, none⟩, ⟨some 18, .move (.tmp 5), t1, x1, e1, none⟩, ⟨some 19, .indexAddr 42 (.tmp 17) (.tmp 18), t2, x2, e2, none⟩, ⟨some 20, .load 3 (.tmp 19), t3, x3, e3, none⟩, ⟨some 21, .move (.tmp 1), t4, x4, e4, none⟩, ⟨some 22, .move (.tmp 5), t5, x5, e5, none⟩, ⟨some 23, .indexAddr 42 (.tmp 21) (.tmp 22), t6, x6, e6, none⟩, ⟨some 24, .load 3 (.tmp 23), t7, x7, e7, none⟩, ⟨some 25, .binOp .neq 3 (.tmp 20) (.tmp 24) 3, t8, x8, e8, none⟩])
 (hO : orderB l 9 = true) (hd : dstsB l 9 a0.tmps.size = true) (hpre : preB l.toArray [(2, [0, 1]), (3, [2]), (6, [4, 5]), (7, [6]), (8, [3, 7])] = true)
  (k0 : a0.tmps[0]? = some (Value.slice (some ⟨ga, oa, none⟩) na ca)) (k1 : a0.tmps[1]? = some (Value.slice (some ⟨gb, ob, none⟩) nb cb)) (k5 : a0.tmps[5]? = some (Value.int .i64 (kk : Int)))
 (h3 : ∀ w, From w0 w → (loadVar 3 ⟨ga, oa + kk, none⟩).run Try.prog w = .ok (Value.int .i64 x) w)
 (h7 : ∀ w, From w0 w → (loadVar 3 ⟨gb, ob + kk, none⟩).run Try.prog w = .ok (Value.int .i64 y) w)
 (hK : ∀  w, From w0 w → wpList Try.prog l.toArray Q (l.drop 9) (((((((((a0.put (some 17) (Value.slice (some ⟨ga, oa, none⟩) na ca)).put (some 18) (Value.int .i64 (kk : Int))).put (some 19) (Value.pointer (some ⟨ga, oa + kk, none⟩))).put (some 20) ((Value.int .i64 x))).put (some 21) (Value.slice (some ⟨gb, ob, none⟩) nb cb)).put (some 22) (Value.int .i64 (kk : Int))).put (some 23) (Value.pointer (some ⟨gb, ob + kk, none⟩))).put (some 24) ((Value.int .i64 y))).put (some 25) (Value.bool (x != y))) w) :
 (Code.region id l.toArray true).wp Try.prog Q a0 w0 := by
 have hlen : l.length = 9 := by rw [hl]; rfl
 have hpz := List.all_eq_true.1 hpre
 refine wp_region_keep 9 (fun i v w => match i with
  | 0 => v = (Value.slice (some ⟨ga, oa, none⟩) na ca)
  | 1 => v = (Value.int .i64 (kk : Int))
  | 2 => v = (Value.pointer (some ⟨ga, oa + kk, none⟩))
  | 3 => v = ((Value.int .i64 x))
  | 4 => v = (Value.slice (some ⟨gb, ob, none⟩) nb cb)
  | 5 => v = (Value.int .i64 (kk : Int))
  | 6 => v = (Value.pointer (some ⟨gb, ob + kk, none⟩))
  | 7 => v = ((Value.int .i64 y))
  | 8 => v = (Value.bool (x != y))
  | _ => True) ?_ (by kernel_rfl) hO (by omega) hd ?_ ?_
 · exact fun _ _ _ _ h _ => h
 · intro i o hi ho a w hb hval hold
   have ho' : l.toArray[i]? = some o := by simpa using ho
   have hedge : ∀ j, (∃ js, (i, js) ∈ ([(2, [0, 1]), (3, [2]), (6, [4, 5]), (7, [6]), (8, [3, 7])] : List (Nat × List Nat)) ∧ j ∈ js) → (o.after.any fun e => Region.binds .any e && e.on == j) = true := fun j ⟨_, hm, hj⟩ => by
    have h1 := List.all_eq_true.1 (hpz _ hm) j hj
    rw [ho'] at h1
    simpa using h1
   have hcase : i = 0 ∨ i = 1 ∨ i = 2 ∨ i = 3 ∨ i = 4 ∨ i = 5 ∨ i = 6 ∨ i = 7 ∨ i = 8 := by omega
   rcases hcase with rfl | rfl | rfl | rfl | rfl | rfl | rfl | rfl | rfl
   all_goals (rw [hl] at ho; injection ho with ho; subst ho)
   · have b0 := eval_get ((hold 0 (by rw [hl]; rfl)).trans k0)
     exact wpOp_value ho' rfl (w' := w) (by go_simp) ⟨_, rfl, Below.refl _ _, rfl⟩
   · have b5 := eval_get ((hold 5 (by rw [hl]; rfl)).trans k5)
     exact wpOp_value ho' rfl (w' := w) (by go_simp) ⟨_, rfl, Below.refl _ _, rfl⟩
   · obtain ⟨_, hy0, rfl⟩ := hval 0 _ 17 (by omega) (by rw [hl]; rfl) rfl (hedge 0 (by simp))
     have b17 := eval_get hy0
     obtain ⟨_, hy1, rfl⟩ := hval 1 _ 18 (by omega) (by rw [hl]; rfl) rfl (hedge 1 (by simp))
     have b18 := eval_get hy1
     exact wpOp_value ho' rfl (w' := w) (by go_simp) ⟨_, rfl, Below.refl _ _, rfl⟩
   · obtain ⟨_, hy2, rfl⟩ := hval 2 _ 19 (by omega) (by rw [hl]; rfl) rfl (hedge 2 (by simp))
     have b19 := eval_get hy2
     exact wpOp_load ho' rfl rfl b19 (h3 w hb) ⟨_, rfl, Below.refl _ _, rfl⟩
   · have b1 := eval_get ((hold 1 (by rw [hl]; rfl)).trans k1)
     exact wpOp_value ho' rfl (w' := w) (by go_simp) ⟨_, rfl, Below.refl _ _, rfl⟩
   · have b5 := eval_get ((hold 5 (by rw [hl]; rfl)).trans k5)
     exact wpOp_value ho' rfl (w' := w) (by go_simp) ⟨_, rfl, Below.refl _ _, rfl⟩
   · obtain ⟨_, hy4, rfl⟩ := hval 4 _ 21 (by omega) (by rw [hl]; rfl) rfl (hedge 4 (by simp))
     have b21 := eval_get hy4
     obtain ⟨_, hy5, rfl⟩ := hval 5 _ 22 (by omega) (by rw [hl]; rfl) rfl (hedge 5 (by simp))
     have b22 := eval_get hy5
     exact wpOp_value ho' rfl (w' := w) (by go_simp) ⟨_, rfl, Below.refl _ _, rfl⟩
   · obtain ⟨_, hy6, rfl⟩ := hval 6 _ 23 (by omega) (by rw [hl]; rfl) rfl (hedge 6 (by simp))
     have b23 := eval_get hy6
     exact wpOp_load ho' rfl rfl b23 (h7 w hb) ⟨_, rfl, Below.refl _ _, rfl⟩
   · obtain ⟨_, hy3, rfl⟩ := hval 3 _ 20 (by omega) (by rw [hl]; rfl) rfl (hedge 3 (by simp))
     have b20 := eval_get hy3
     obtain ⟨_, hy7, rfl⟩ := hval 7 _ 24 (by omega) (by rw [hl]; rfl) rfl (hedge 7 (by simp))
     have b24 := eval_get hy7
     exact wpOp_value ho' rfl (w' := w) (by go_simp) ⟨_, rfl, Below.refl _ _, rfl⟩
 · intro val w hb hrows
   have hF := hK  w hb
   subst hl
   simp only [List.take_succ_cons, List.take_zero, putAll, Nat.zero_add, Nat.reduceAdd, show val 0 = _ from hrows 0 (by omega), show val 1 = _ from hrows 1 (by omega), show val 2 = _ from hrows 2 (by omega), show val 3 = _ from hrows 3 (by omega), show val 4 = _ from hrows 4 (by omega), show val 5 = _ from hrows 5 (by omega), show val 6 = _ from hrows 6 (by omega), show val 7 = _ from hrows 7 (by omega), show val 8 = _ from hrows 8 (by omega)]
   exact hF
set_option maxRecDepth 100000 in
set_option maxHeartbeats 4000000 in
theorem region_awake {id : Nat} {Q : Exit → Act → World → Prop} {a0 : Act} {w0 : World} {l : List Oper} {gl ol cl g3 gi oi ci : Nat} {v4 v5 : Value}
 {t0 t1 t2 t3 t4 t5 t6 t7 t8 t9 t10 t11 t12 t13 t14 : TypeId} {x0 x1 x2 x3 x4 x5 x6 x7 x8 x9 x10 x11 x12 x13 x14 : String} {e0 e1 e2 e3 e4 e5 e6 e7 e8 e9 e10 e11 e12 e13 e14 : Array Edge}
 (hl : l = [⟨some 39, .move (.tmp 1), t0, x0, e0, none⟩, ⟨some 40, .sliceToArrayPointer 90 (.tmp 39), t1, x1, e1, none⟩, ⟨some 41, .load 90 (.tmp 40), t2, x2, e2, none⟩, ⟨some 42, .load 90 (.tmp 3), t3, x3, e3, none⟩, ⟨some 43, .binOp .eql 90 (.tmp 41) (.tmp 42) 90, t4, x4, e4, none⟩, ⟨some 44, .move (.tmp 43), t5, x5, e5, none⟩, ⟨some 45, .move (.tmp 5), t6, x6, e6, some (5, true)⟩, ⟨some 46, .binOp .eql 31 (.tmp 45) (.const (.int .i64 0)) 31, t7, x7, e7, some (5, true)⟩, ⟨some 47, .pick (.tmp 44) (.tmp 46) (.const (.bool false)), t8, x8, e8, none⟩, ⟨some 48, .move (.tmp 47), t9, x9, e9, none⟩, ⟨some 49, .move (.tmp 4), t10, x10, e10, some (9, true)⟩, ⟨some 50, .buildSlice 42 2 #[(0, .const (.int .i64 1)), (1, .const (.int .i64 2))], t11, x11, e11, some (9, true)⟩, ⟨some 51, .call { callee := .value (.func 34), args := #[.tmp 49, .tmp 50], argTypes := #[42, 42] }, t12, x12, e12, some (9, true)⟩, ⟨some 52, .pick (.tmp 48) (.tmp 51) (.const (.bool false)), t13, x13, e13, none⟩, ⟨some 0, .assign (.tmp 52), t14, x14, e14, none⟩])
 (hO : orderB l 14 = true) (hd : dstsB l 14 a0.tmps.size = true) (hpre : preB l.toArray [(1, [0]), (2, [1]), (4, [2, 3]), (5, [4]), (6, [5]), (7, [6, 5]), (8, [5, 7]), (9, [8]), (10, [9]), (11, [9]), (12, [10, 11, 9]), (13, [9, 12])] = true)
  (k1 : a0.tmps[1]? = some (Value.slice (some ⟨gl, ol, none⟩) 4 cl)) (k3 : a0.tmps[3]? = some (Value.pointer (some ⟨g3, 0, none⟩))) (k4 : a0.tmps[4]? = some (Value.slice (some ⟨gi, oi, none⟩) 2 ci)) (k5 : a0.tmps[5]? = some (Value.int .i64 0))
 (R11 : Value → World → Prop) (s11 : ∀ v w w', R11 v w → From w w' → R11 v w')
 (h1 : ∀ (a : Act) (w : World), a.eval (.tmp 39) = (Value.slice (some ⟨gl, ol, none⟩) 4 cl) → (execOp a.eval ⟨some 40, .sliceToArrayPointer 90 (.tmp 39), t1, x1, e1, none⟩).run Try.prog w = .ok (.value (Value.pointer (some ⟨gl, ol, none⟩))) w)
 (h2 : ∀ w, From w0 w → (loadVar 90 ⟨gl, ol, none⟩).run Try.prog w = .ok v4 w)
 (h3 : ∀ w, From w0 w → (loadVar 90 ⟨g3, 0, none⟩).run Try.prog w = .ok v5 w)
 (h4 : ∀ (a : Act) (w : World), a.eval (.tmp 41) = (v4) → a.eval (.tmp 42) = (v5) → (execOp a.eval ⟨some 43, .binOp .eql 90 (.tmp 41) (.tmp 42) 90, t4, x4, e4, none⟩).run Try.prog w = .ok (.value (Value.bool true)) w)
 (h11 : ∀ (a : Act) (w : World), From w0 w → ∃ v w', (execOp a.eval ⟨some 50, .buildSlice 42 2 #[(0, .const (.int .i64 1)), (1, .const (.int .i64 2))], t11, x11, e11, some (9, true)⟩).run Try.prog w = .ok (.value v) w' ∧ From w w' ∧ R11 v w')
 (h12 : ∀ w u11, From w0 w → R11 u11 w → Calls Try.prog 34 #[Value.slice (some ⟨gi, oi, none⟩) 2 ci, u11] w fun e w' => e = .returned (Value.bool true) ∧ From w w')
 (hK : ∀ u11 w, From w0 w → R11 u11 w → wpList Try.prog l.toArray Q (l.drop 14) ((((((((((((((a0.put (some 39) (Value.slice (some ⟨gl, ol, none⟩) 4 cl)).put (some 40) (Value.pointer (some ⟨gl, ol, none⟩))).put (some 41) (v4)).put (some 42) (v5)).put (some 43) (Value.bool true)).put (some 44) (Value.bool true)).put (some 45) (Value.int .i64 0)).put (some 46) (Value.bool true)).put (some 47) (Value.bool true)).put (some 48) (Value.bool true)).put (some 49) (Value.slice (some ⟨gi, oi, none⟩) 2 ci)).put (some 50) u11).put (some 51) (Value.bool true)).put (some 52) (Value.bool true)) w) :
 (Code.region id l.toArray true).wp Try.prog Q a0 w0 := by
 have hlen : l.length = 15 := by rw [hl]; rfl
 have hpz := List.all_eq_true.1 hpre
 refine wp_region_keep 14 (fun i v w => match i with
  | 0 => v = (Value.slice (some ⟨gl, ol, none⟩) 4 cl)
  | 1 => v = (Value.pointer (some ⟨gl, ol, none⟩))
  | 2 => v = (v4)
  | 3 => v = (v5)
  | 4 => v = (Value.bool true)
  | 5 => v = (Value.bool true)
  | 6 => v = (Value.int .i64 0)
  | 7 => v = (Value.bool true)
  | 8 => v = (Value.bool true)
  | 9 => v = (Value.bool true)
  | 10 => v = (Value.slice (some ⟨gi, oi, none⟩) 2 ci)
  | 11 => R11 v w
  | 12 => v = (Value.bool true)
  | 13 => v = (Value.bool true)
  | _ => True) ?_ (by kernel_rfl) hO (by omega) hd ?_ ?_
 · intro i v w w' h hb
   match i, h with
   | 0, h => exact h
   | 1, h => exact h
   | 2, h => exact h
   | 3, h => exact h
   | 4, h => exact h
   | 5, h => exact h
   | 6, h => exact h
   | 7, h => exact h
   | 8, h => exact h
   | 9, h => exact h
   | 10, h => exact h
   | 11, h => exact s11 v w w' h hb
   | 12, h => exact h
   | 13, h => exact h
   | _ + 14, _ => trivial
 · intro i o hi ho a w hb hval hold
   have ho' : l.toArray[i]? = some o := by simpa using ho
   have hedge : ∀ j, (∃ js, (i, js) ∈ ([(1, [0]), (2, [1]), (4, [2, 3]), (5, [4]), (6, [5]), (7, [6, 5]), (8, [5, 7]), (9, [8]), (10, [9]), (11, [9]), (12, [10, 11, 9]), (13, [9, 12])] : List (Nat × List Nat)) ∧ j ∈ js) → (o.after.any fun e => Region.binds .any e && e.on == j) = true := fun j ⟨_, hm, hj⟩ => by
    have h1 := List.all_eq_true.1 (hpz _ hm) j hj
    rw [ho'] at h1
    simpa using h1
   have hcase : i = 0 ∨ i = 1 ∨ i = 2 ∨ i = 3 ∨ i = 4 ∨ i = 5 ∨ i = 6 ∨ i = 7 ∨ i = 8 ∨ i = 9 ∨ i = 10 ∨ i = 11 ∨ i = 12 ∨ i = 13 := by omega
   rcases hcase with rfl | rfl | rfl | rfl | rfl | rfl | rfl | rfl | rfl | rfl | rfl | rfl | rfl | rfl
   all_goals (rw [hl] at ho; injection ho with ho; subst ho)
   · have b1 := eval_get ((hold 1 (by rw [hl]; rfl)).trans k1)
     exact wpOp_value ho' rfl (w' := w) (by go_simp) ⟨_, rfl, Below.refl _ _, rfl⟩
   · obtain ⟨_, hy0, rfl⟩ := hval 0 _ 39 (by omega) (by rw [hl]; rfl) rfl (hedge 0 (by simp))
     have b39 := eval_get hy0
     exact wpOp_value ho' rfl (h1 a w b39) ⟨_, rfl, Below.refl _ _, rfl⟩
   · obtain ⟨_, hy1, rfl⟩ := hval 1 _ 40 (by omega) (by rw [hl]; rfl) rfl (hedge 1 (by simp))
     have b40 := eval_get hy1
     exact wpOp_load ho' rfl rfl b40 (h2 w hb) ⟨_, rfl, Below.refl _ _, rfl⟩
   · have b3 := eval_get ((hold 3 (by rw [hl]; rfl)).trans k3)
     exact wpOp_load ho' rfl rfl b3 (h3 w hb) ⟨_, rfl, Below.refl _ _, rfl⟩
   · obtain ⟨y2, hy2, hz2⟩ := hval 2 _ 41 (by omega) (by rw [hl]; rfl) rfl (hedge 2 (by simp))
     rw [show y2 = (v4) from hz2] at hy2
     have b41 := eval_get hy2
     obtain ⟨y3, hy3, hz3⟩ := hval 3 _ 42 (by omega) (by rw [hl]; rfl) rfl (hedge 3 (by simp))
     rw [show y3 = (v5) from hz3] at hy3
     have b42 := eval_get hy3
     exact wpOp_value ho' rfl (h4 a w b41 b42) ⟨_, rfl, Below.refl _ _, rfl⟩
   · obtain ⟨_, hy4, rfl⟩ := hval 4 _ 43 (by omega) (by rw [hl]; rfl) rfl (hedge 4 (by simp))
     have b43 := eval_get hy4
     exact wpOp_value ho' rfl (w' := w) (by go_simp) ⟨_, rfl, Below.refl _ _, rfl⟩
   · have b5 := eval_get ((hold 5 (by rw [hl]; rfl)).trans k5)
     obtain ⟨_, hy5, rfl⟩ := hval 5 _ 44 (by omega) (by rw [hl]; rfl) rfl (hedge 5 (by simp))
     have b44 := eval_get hy5
     have hwt := wanted_some (ops := l.toArray) (a := a) (o := ⟨some 45, .move (.tmp 5), t6, x6, e6, some (5, true)⟩) (r := true) rfl (show l.toArray[5]? = some _ by rw [hl]; rfl) rfl hy5 rfl
     exact wpOp_valueW ho' hwt (v := (Value.int .i64 0)) (w' := w) (by go_simp) ⟨_, rfl, Below.refl _ _, rfl⟩
   · obtain ⟨_, hy6, rfl⟩ := hval 6 _ 45 (by omega) (by rw [hl]; rfl) rfl (hedge 6 (by simp))
     have b45 := eval_get hy6
     obtain ⟨_, hy5, rfl⟩ := hval 5 _ 44 (by omega) (by rw [hl]; rfl) rfl (hedge 5 (by simp))
     have b44 := eval_get hy5
     have hwt := wanted_some (ops := l.toArray) (a := a) (o := ⟨some 46, .binOp .eql 31 (.tmp 45) (.const (.int .i64 0)) 31, t7, x7, e7, some (5, true)⟩) (r := true) rfl (show l.toArray[5]? = some _ by rw [hl]; rfl) rfl hy5 rfl
     exact wpOp_valueW ho' hwt (v := (Value.bool true)) (w' := w) (by go_simp) ⟨_, rfl, Below.refl _ _, rfl⟩
   · obtain ⟨_, hy5, rfl⟩ := hval 5 _ 44 (by omega) (by rw [hl]; rfl) rfl (hedge 5 (by simp))
     have b44 := eval_get hy5
     obtain ⟨_, hy7, rfl⟩ := hval 7 _ 46 (by omega) (by rw [hl]; rfl) rfl (hedge 7 (by simp))
     have b46 := eval_get hy7
     exact wpOp_value ho' rfl (w' := w) (by go_simp) ⟨_, rfl, Below.refl _ _, rfl⟩
   · obtain ⟨_, hy8, rfl⟩ := hval 8 _ 47 (by omega) (by rw [hl]; rfl) rfl (hedge 8 (by simp))
     have b47 := eval_get hy8
     exact wpOp_value ho' rfl (w' := w) (by go_simp) ⟨_, rfl, Below.refl _ _, rfl⟩
   · have b4 := eval_get ((hold 4 (by rw [hl]; rfl)).trans k4)
     obtain ⟨_, hy9, rfl⟩ := hval 9 _ 48 (by omega) (by rw [hl]; rfl) rfl (hedge 9 (by simp))
     have b48 := eval_get hy9
     have hwt := wanted_some (ops := l.toArray) (a := a) (o := ⟨some 49, .move (.tmp 4), t10, x10, e10, some (9, true)⟩) (r := true) rfl (show l.toArray[9]? = some _ by rw [hl]; rfl) rfl hy9 rfl
     exact wpOp_valueW ho' hwt (v := (Value.slice (some ⟨gi, oi, none⟩) 2 ci)) (w' := w) (by go_simp) ⟨_, rfl, Below.refl _ _, rfl⟩
   · obtain ⟨_, hy9, rfl⟩ := hval 9 _ 48 (by omega) (by rw [hl]; rfl) rfl (hedge 9 (by simp))
     have b48 := eval_get hy9
     have hwt := wanted_some (ops := l.toArray) (a := a) (o := ⟨some 50, .buildSlice 42 2 #[(0, .const (.int .i64 1)), (1, .const (.int .i64 2))], t11, x11, e11, some (9, true)⟩) (r := true) rfl (show l.toArray[9]? = some _ by rw [hl]; rfl) rfl hy9 rfl
     obtain ⟨v, w', hrun, hb2, hr2⟩ := h11 a w hb
     exact wpOp_valueW ho' hwt hrun ⟨_, rfl, hb2, hr2⟩
   · obtain ⟨_, hy10, rfl⟩ := hval 10 _ 49 (by omega) (by rw [hl]; rfl) rfl (hedge 10 (by simp))
     have b49 := eval_get hy10
     obtain ⟨y11, hy11, hz11⟩ := hval 11 _ 50 (by omega) (by rw [hl]; rfl) rfl (hedge 11 (by simp))
     have b50 := eval_get hy11
     obtain ⟨_, hy9, rfl⟩ := hval 9 _ 48 (by omega) (by rw [hl]; rfl) rfl (hedge 9 (by simp))
     have b48 := eval_get hy9
     have hwt := wanted_some (ops := l.toArray) (a := a) (o := ⟨some 51, .call { callee := .value (.func 34), args := #[.tmp 49, .tmp 50], argTypes := #[42, 42] }, t12, x12, e12, some (9, true)⟩) (r := true) rfl (show l.toArray[9]? = some _ by rw [hl]; rfl) rfl hy9 rfl
     refine wpOp_callW ho' hwt rfl (args := #[Value.slice (some ⟨gi, oi, none⟩) 2 ci, y11]) (by simp [b49, b50]) (cf34 _ _) ((h12 w y11 hb hz11).mono ?_)
     rintro e w' ⟨rfl, hb2⟩
     exact ⟨_, rfl, _, rfl, hb2, rfl⟩
   · obtain ⟨_, hy9, rfl⟩ := hval 9 _ 48 (by omega) (by rw [hl]; rfl) rfl (hedge 9 (by simp))
     have b48 := eval_get hy9
     obtain ⟨_, hy12, rfl⟩ := hval 12 _ 51 (by omega) (by rw [hl]; rfl) rfl (hedge 12 (by simp))
     have b51 := eval_get hy12
     exact wpOp_value ho' rfl (w' := w) (by go_simp) ⟨_, rfl, Below.refl _ _, rfl⟩
 · intro val w hb hrows
   have q11 : R11 (val 11) w := hrows 11 (by omega)
   have hF := hK (val 11) w hb q11
   subst hl
   simp only [List.take_succ_cons, List.take_zero, putAll, Nat.zero_add, Nat.reduceAdd, show val 0 = _ from hrows 0 (by omega), show val 1 = _ from hrows 1 (by omega), show val 2 = _ from hrows 2 (by omega), show val 3 = _ from hrows 3 (by omega), show val 4 = _ from hrows 4 (by omega), show val 5 = _ from hrows 5 (by omega), show val 6 = _ from hrows 6 (by omega), show val 7 = _ from hrows 7 (by omega), show val 8 = _ from hrows 8 (by omega), show val 9 = _ from hrows 9 (by omega), show val 10 = _ from hrows 10 (by omega), show val 12 = _ from hrows 12 (by omega), show val 13 = _ from hrows 13 (by omega)]
   exact hF
theorem int_at {w : World} {B : Nat} {A : Option Addr} {l : List Int} (h : Rd w B 1 A (l.map intRow)) (k : Nat) (hk : k < l.length) :
 ∃ g off, A = some ⟨g, off, none⟩ ∧ g < B ∧ ∀ w', Below B w w' → (loadVar 3 ⟨g, off + k, none⟩).run Try.prog w' = .ok (.int .i64 l[k]) w' := by
 obtain ⟨g, off, e, hlt, _, hc⟩ := h k (intRow l[k]) (by simp [hk])
 refine ⟨g, off, e, hlt, fun w' hb => run_load_cell Try.underlying3 rfl ?_⟩
 have h1 := (hb.cell (p := ⟨g, _, none⟩) (by simpa using hlt)).trans (hc 0 _ rfl)
 simpa using h1
set_option maxRecDepth 100000 in
set_option maxHeartbeats 1000000 in
theorem sameInts (A A' : Option Addr) (c c' : Nat) (l : List Int) (n n' : Nat) (hn : n = l.length) (hn' : n' = l.length) (w : World) (hA : Rd w w.heap.size 1 A (l.map intRow)) (hA' : Rd w w.heap.size 1 A' (l.map intRow)) (hl : l.length ≤ 1000000000000) :
 Calls Try.prog 34 #[.slice A n c, .slice A' n' c'] w fun e w' => e = .returned (.bool true) ∧ Below w.heap.size w w' := by
 subst hn
 subst hn'
 have HA := Lib.hid hA
 have HA' := Lib.hid hA'
 clear hA hA'
 have h0 : ((l.length : Int) != (l.length : Int)) = false := by simp
 go_enter Try.func34, Try.ntmps34
 go_wp2
 clear h0
 go_loopw [5] (fun i wr => ∃ k : Nat, k ≤ l.length ∧ i = .int .i64 k ∧ Below w.heap.size w wr) (fun i _ => l.length - (intOf i).toNat)
 case atStart => exact ⟨0, by omega, rfl, Below.refl _ _⟩
 case round =>
  obtain ⟨k, hk, rfl, hb⟩ := hrel
  have HB := Lib.hid hb
  clear hb
  by_cases hlt : k < l.length
  · obtain ⟨ga, oa, rfl, hga, hla⟩ := int_at HA.out k hlt
    obtain ⟨gb, ob, rfl, hgb, hlb⟩ := int_at HA'.out k hlt
    have HLA := Lib.hid hla
    have HLB := Lib.hid hlb
    have hki : (k : Int) < (l.length : Int) := by omega
    have hne : (l[k] != l[k]) = false := by simp
    clear hla hlb hga hgb
    go_wp2
    try simp only [Act.put]
    refine region_sameints (ga := ga) (oa := oa) (na := l.length) (ca := c) (gb := gb) (ob := ob) (nb := l.length) (cb := c') (kk := k) (x := l[k]) (y := l[k]) hki hki rfl (by kernel_rfl) (by kernel_rfl) (by kernel_rfl) rfl rfl rfl
     (fun w1 hb => HLA.out w1 (HB.out.trans (hb.mono HB.out.size))) (fun w1 hb => HLB.out w1 (HB.out.trans (hb.mono HB.out.size))) ?_
    intro w1 hb1
    have C1 : Hid (From w w1) := HB.out.trans (hb1.mono HB.out.size)
    clear hb1
    simp only [List.drop_succ_cons, List.drop_zero]
    simp only [Act.put, List.setIfInBounds_toArray, List.set_cons_succ, List.set_cons_zero]
    go_wp2
    go_roundw
    case rel => exact ⟨k + 1, by omega, by go_num, C1.out⟩
    case measure => simp [intOf]; omega
  · obtain rfl : k = l.length := by omega
    have hnn : ¬ (l.length : Int) < (l.length : Int) := by omega
    go_wp2
    go_ret
    exact ⟨rfl, HB.out⟩
section
variable {w : World} {ops : Array Oper} {rest : List Oper} {o : Oper} {a : Act} {Q : Exit → Act → World → Prop}
theorem wpList_run (hgd : o.guard = none) {v : Value} {w' : World} (hr : (execOp a.eval o).run Try.prog w = .ok (.value v) w') (h : wpList Try.prog ops Q rest (a.put o.dst v) w') : wpList Try.prog ops Q (o :: rest) a w := by
 refine wpList_plain hgd fun K hK => ?_
 unfold Oper.wp
 rw [hr]
 exact hK _ _ h
theorem wpList_buildS (s t : Nat) {d : Option Nat} {ty : TypeId} {pos : String} {aft : Array Edge} (ho : o = ⟨d, .build 40 #[(0, .tmp s), (1, .tmp t)], ty, pos, aft, none⟩) (f g : FracV) (hx : a.eval (.tmp s) = f.val) (hy : a.eval (.tmp t) = g.val)
 (h : wpList Try.prog ops Q rest (a.put o.dst (Str.val ⟨f, g⟩)) w) : wpList Try.prog ops Q (o :: rest) a w := by
 subst ho
 exact wpList_run rfl (build_stress f g w hx hy) h
end
theorem str_explicit (s : Str) : ∃ (b b' : Bool) (c c' : Fin 16 → Int), s.cells = [.bool b, .int .u32 (c 0), .int .u32 (c 1), .int .u32 (c 2), .int .u32 (c 3), .int .u32 (c 4), .int .u32 (c 5), .int .u32 (c 6), .int .u32 (c 7), .int .u32 (c 8), .int .u32 (c 9), .int .u32 (c 10), .int .u32 (c 11), .int .u32 (c 12), .int .u32 (c 13), .int .u32 (c 14), .int .u32 (c 15), .bool b', .int .u32 (c' 0), .int .u32 (c' 1), .int .u32 (c' 2), .int .u32 (c' 3), .int .u32 (c' 4), .int .u32 (c' 5), .int .u32 (c' 6), .int .u32 (c' 7), .int .u32 (c' 8), .int .u32 (c' 9), .int .u32 (c' 10), .int .u32 (c' 11), .int .u32 (c' 12), .int .u32 (c' 13), .int .u32 (c' 14), .int .u32 (c' 15)] := by
 obtain ⟨b, c, h⟩ := frac_explicit s.shear
 obtain ⟨b', c', h'⟩ := frac_explicit s.bend
 exact ⟨b, b', c, c', by unfold Str.cells; rw [h, h']; rfl⟩
set_option maxRecDepth 100000 in
set_option maxHeartbeats 4000000 in
theorem build_four (s1 s2 s3 s4 : Str) {a : Act} {t1 t2 t3 t4 : Nat} {d : Option Nat} {ty : TypeId} {pos : String} {aft : Array Edge} (w : World) (h1 : a.eval (.tmp t1) = s1.val) (h2 : a.eval (.tmp t2) = s2.val) (h3 : a.eval (.tmp t3) = s3.val) (h4 : a.eval (.tmp t4) = s4.val) :
 (execOp a.eval ⟨d, .build 90 #[(0, .tmp t1), (1, .tmp t2), (2, .tmp t3), (3, .tmp t4)], ty, pos, aft, none⟩).run Try.prog w = .ok (.value (.agg (s1.cells ++ s2.cells ++ s3.cells ++ s4.cells).toArray)) w := by
 obtain ⟨b1, d1, c1, e1, hf1⟩ := str_explicit s1
 obtain ⟨b2, d2, c2, e2, hf2⟩ := str_explicit s2
 obtain ⟨b3, d3, c3, e3, hf3⟩ := str_explicit s3
 obtain ⟨b4, d4, c4, e4, hf4⟩ := str_explicit s4
 unfold Str.val at h1 h2 h3 h4
 rw [hf1] at h1
 rw [hf2] at h2
 rw [hf3] at h3
 rw [hf4] at h4
 rw [hf1, hf2, hf3, hf4]
 clear hf1 hf2 hf3 hf4
 have hr : ∀ cells, Try.prog.built 90 #[(0, a.eval (.tmp t1)), (1, a.eval (.tmp t2)), (2, a.eval (.tmp t3)), (3, a.eval (.tmp t4))].toList = some cells → (Instr.build 90 #[(0, a.eval (.tmp t1)), (1, a.eval (.tmp t2)), (2, a.eval (.tmp t3)), (3, a.eval (.tmp t4))]).run Try.prog w = .ok (.agg cells) w := fun cells h => run_build w _ _ cells h
 rw [h1, h2, h3, h4] at hr
 have hb := hr ((([Value.bool b1, Value.int IntKind.u32 (c1 0), Value.int IntKind.u32 (c1 1), Value.int IntKind.u32 (c1 2), Value.int IntKind.u32 (c1 3), Value.int IntKind.u32 (c1 4), Value.int IntKind.u32 (c1 5), Value.int IntKind.u32 (c1 6), Value.int IntKind.u32 (c1 7), Value.int IntKind.u32 (c1 8), Value.int IntKind.u32 (c1 9), Value.int IntKind.u32 (c1 10), Value.int IntKind.u32 (c1 11), Value.int IntKind.u32 (c1 12), Value.int IntKind.u32 (c1 13), Value.int IntKind.u32 (c1 14), Value.int IntKind.u32 (c1 15), Value.bool d1, Value.int IntKind.u32 (e1 0), Value.int IntKind.u32 (e1 1), Value.int IntKind.u32 (e1 2), Value.int IntKind.u32 (e1 3), Value.int IntKind.u32 (e1 4), Value.int IntKind.u32 (e1 5), Value.int IntKind.u32 (e1 6), Value.int IntKind.u32 (e1 7), Value.int IntKind.u32 (e1 8), Value.int IntKind.u32 (e1 9), Value.int IntKind.u32 (e1 10), Value.int IntKind.u32 (e1 11), Value.int IntKind.u32 (e1 12), Value.int IntKind.u32 (e1 13), Value.int IntKind.u32 (e1 14), Value.int IntKind.u32 (e1 15)] ++ [Value.bool b2, Value.int IntKind.u32 (c2 0), Value.int IntKind.u32 (c2 1), Value.int IntKind.u32 (c2 2), Value.int IntKind.u32 (c2 3), Value.int IntKind.u32 (c2 4), Value.int IntKind.u32 (c2 5), Value.int IntKind.u32 (c2 6), Value.int IntKind.u32 (c2 7), Value.int IntKind.u32 (c2 8), Value.int IntKind.u32 (c2 9), Value.int IntKind.u32 (c2 10), Value.int IntKind.u32 (c2 11), Value.int IntKind.u32 (c2 12), Value.int IntKind.u32 (c2 13), Value.int IntKind.u32 (c2 14), Value.int IntKind.u32 (c2 15), Value.bool d2, Value.int IntKind.u32 (e2 0), Value.int IntKind.u32 (e2 1), Value.int IntKind.u32 (e2 2), Value.int IntKind.u32 (e2 3), Value.int IntKind.u32 (e2 4), Value.int IntKind.u32 (e2 5), Value.int IntKind.u32 (e2 6), Value.int IntKind.u32 (e2 7), Value.int IntKind.u32 (e2 8), Value.int IntKind.u32 (e2 9), Value.int IntKind.u32 (e2 10), Value.int IntKind.u32 (e2 11), Value.int IntKind.u32 (e2 12), Value.int IntKind.u32 (e2 13), Value.int IntKind.u32 (e2 14), Value.int IntKind.u32 (e2 15)] ++ [Value.bool b3, Value.int IntKind.u32 (c3 0), Value.int IntKind.u32 (c3 1), Value.int IntKind.u32 (c3 2), Value.int IntKind.u32 (c3 3), Value.int IntKind.u32 (c3 4), Value.int IntKind.u32 (c3 5), Value.int IntKind.u32 (c3 6), Value.int IntKind.u32 (c3 7), Value.int IntKind.u32 (c3 8), Value.int IntKind.u32 (c3 9), Value.int IntKind.u32 (c3 10), Value.int IntKind.u32 (c3 11), Value.int IntKind.u32 (c3 12), Value.int IntKind.u32 (c3 13), Value.int IntKind.u32 (c3 14), Value.int IntKind.u32 (c3 15), Value.bool d3, Value.int IntKind.u32 (e3 0), Value.int IntKind.u32 (e3 1), Value.int IntKind.u32 (e3 2), Value.int IntKind.u32 (e3 3), Value.int IntKind.u32 (e3 4), Value.int IntKind.u32 (e3 5), Value.int IntKind.u32 (e3 6), Value.int IntKind.u32 (e3 7), Value.int IntKind.u32 (e3 8), Value.int IntKind.u32 (e3 9), Value.int IntKind.u32 (e3 10), Value.int IntKind.u32 (e3 11), Value.int IntKind.u32 (e3 12), Value.int IntKind.u32 (e3 13), Value.int IntKind.u32 (e3 14), Value.int IntKind.u32 (e3 15)] ++ [Value.bool b4, Value.int IntKind.u32 (c4 0), Value.int IntKind.u32 (c4 1), Value.int IntKind.u32 (c4 2), Value.int IntKind.u32 (c4 3), Value.int IntKind.u32 (c4 4), Value.int IntKind.u32 (c4 5), Value.int IntKind.u32 (c4 6), Value.int IntKind.u32 (c4 7), Value.int IntKind.u32 (c4 8), Value.int IntKind.u32 (c4 9), Value.int IntKind.u32 (c4 10), Value.int IntKind.u32 (c4 11), Value.int IntKind.u32 (c4 12), Value.int IntKind.u32 (c4 13), Value.int IntKind.u32 (c4 14), Value.int IntKind.u32 (c4 15), Value.bool d4, Value.int IntKind.u32 (e4 0), Value.int IntKind.u32 (e4 1), Value.int IntKind.u32 (e4 2), Value.int IntKind.u32 (e4 3), Value.int IntKind.u32 (e4 4), Value.int IntKind.u32 (e4 5), Value.int IntKind.u32 (e4 6), Value.int IntKind.u32 (e4 7), Value.int IntKind.u32 (e4 8), Value.int IntKind.u32 (e4 9), Value.int IntKind.u32 (e4 10), Value.int IntKind.u32 (e4 11), Value.int IntKind.u32 (e4 12), Value.int IntKind.u32 (e4 13), Value.int IntKind.u32 (e4 14), Value.int IntKind.u32 (e4 15)]) : List Value).toArray) (by kernel_rfl)
 unfold execOp
 simp only [List.map_toArray, List.map_cons, List.map_nil, h1, h2, h3, h4, Sem.run_bind, hb, Result.andThen_ok, Sem.run_pure]
end Go.Proofs.Ytcdfnlgimbecgaa
