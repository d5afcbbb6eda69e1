/-
  strength: the regions of Curve that draw their order. (Printed by gen_st8.py.)
-/
import Derived.Test.YtcdfnlgimbecgaaMt22
namespace Go.Proofs.Ytcdfnlgimbecgaa
open Go.RowKit
theorem cf42 (w : World) (args : Array Value) : (callFunc 42 args).run Try.prog w = .ok (.enter 42 args) w := by
 go_simp
set_option maxRecDepth 100000 in
set_option maxHeartbeats 4000000 in
theorem region_k {id : Nat} {Q : Exit → Act → World → Prop} {a0 : Act} {w0 : World} {l : List Oper} {g8 gw gk : Nat} {i1 i3 i5 : Int} {fo fl f5 : FracV} {r1 r2 : FracV × Int}
 {t0 t1 t2 t3 t4 t5 t6 t7 t8 t9 t10 t11 t12 t13 t14 t15 t16 t17 t18 : TypeId} {x0 x1 x2 x3 x4 x5 x6 x7 x8 x9 x10 x11 x12 x13 x14 x15 x16 x17 x18 : String} {e0 e1 e2 e3 e4 e5 e6 e7 e8 e9 e10 e11 e12 e13 e14 e15 e16 e17 e18 : Array Edge}
 (hl : l = [⟨some 58, .indexAddr 103 (.tmp 8) (.const (.int .i64 1)), t0, x0, e0, none⟩, ⟨some 59, .load 3 (.tmp 58), t1, x1, e1, none⟩, ⟨some 60, .call { callee := .value (.func 13), args := #[.tmp 59], argTypes := #[3] }, t2, x2, e2, none⟩, ⟨some 61, .move (.tmp 13), t3, x3, e3, none⟩, ⟨some 62, .indexAddr 103 (.tmp 8) (.const (.int .i64 3)), t4, x4, e4, none⟩, ⟨some 63, .load 3 (.tmp 62), t5, x5, e5, none⟩, ⟨some 64, .call { callee := .value (.tmp 61), args := #[.tmp 63, .const (Value.int .i64 0)], argTypes := #[3, 3] }, t6, x6, e6, none⟩, ⟨some 65, .call { callee := .value (.func 16), args := #[.tmp 60, .tmp 64], argTypes := #[37, 37] }, t7, x7, e7, none⟩, ⟨some 66, .extract (.tmp 65) 0, t8, x8, e8, none⟩, ⟨some 67, .extract (.tmp 65) 1, t9, x9, e9, none⟩, ⟨some 68, .call { callee := .value (.func 44), args := #[.tmp 66, .tmp 67], argTypes := #[37, 31] }, t10, x10, e10, none⟩, ⟨some 69, .indexAddr 103 (.tmp 8) (.const (.int .i64 5)), t11, x11, e11, none⟩, ⟨some 70, .load 3 (.tmp 69), t12, x12, e12, none⟩, ⟨some 71, .call { callee := .value (.func 13), args := #[.tmp 70], argTypes := #[3] }, t13, x13, e13, none⟩, ⟨some 72, .call { callee := .value (.func 45), args := #[.tmp 68, .tmp 71], argTypes := #[37, 37] }, t14, x14, e14, none⟩, ⟨some 73, .extract (.tmp 72) 0, t15, x15, e15, none⟩, ⟨some 74, .extract (.tmp 72) 1, t16, x16, e16, none⟩, ⟨some 75, .call { callee := .value (.func 44), args := #[.tmp 73, .tmp 74], argTypes := #[37, 31] }, t17, x17, e17, none⟩, ⟨none, .store 37 (.tmp 12) (.tmp 75), t18, x18, e18, none⟩])
 (hO : orderB l 18 = true) (hd : dstsB l 18 a0.tmps.size = true) (hpre : preB l.toArray [(1, [0]), (2, [1]), (5, [4]), (6, [3, 5]), (7, [2, 6]), (8, [7]), (9, [7]), (10, [8, 9]), (12, [11]), (13, [12]), (14, [10, 13]), (15, [14]), (16, [14]), (17, [15, 16])] = true)
  (k8 : a0.tmps[8]? = some (Value.pointer (some ⟨g8, 0, none⟩))) (k13 : a0.tmps[13]? = some (Value.func (.func 42) #[] #[Value.pointer (some ⟨gw, 0, none⟩), Value.pointer (some ⟨gk, 0, none⟩)]))
 (h1 : ∀ w, From w0 w → (loadVar 3 ⟨g8, 1, none⟩).run Try.prog w = .ok (Value.int .i64 i1) w)
 (h2 : ∀ w , From w0 w → Calls Try.prog 13 #[(Value.int .i64 i1)] w fun e w' => e = .returned (fo.val) ∧ From w w')
 (h5 : ∀ w, From w0 w → (loadVar 3 ⟨g8, 3, none⟩).run Try.prog w = .ok (Value.int .i64 i3) w)
 (h6 : ∀ w , From w0 w → Calls Try.prog 42 (#[(Value.int .i64 i3), Value.int .i64 0] ++ #[Value.pointer (some ⟨gw, 0, none⟩), Value.pointer (some ⟨gk, 0, none⟩)]) w fun e w' => e = .returned (fl.val) ∧ From w w')
 (h7 : ∀ w , From w0 w → Calls Try.prog 16 #[fo.val, fl.val] w fun e w' => e = .returned (Value.tuple #[r1.1.val, .int .i64 r1.2]) ∧ From w w')
 (h10 : ∀ w , From w0 w → Calls Try.prog 44 #[r1.1.val, Value.int .i64 r1.2] w fun e w' => e = .returned (r1.1.val) ∧ From w w')
 (h12 : ∀ w, From w0 w → (loadVar 3 ⟨g8, 5, none⟩).run Try.prog w = .ok (Value.int .i64 i5) w)
 (h13 : ∀ w , From w0 w → Calls Try.prog 13 #[(Value.int .i64 i5)] w fun e w' => e = .returned (f5.val) ∧ From w w')
 (h14 : ∀ w , From w0 w → Calls Try.prog 45 #[r1.1.val, f5.val] w fun e w' => e = .returned (Value.tuple #[r2.1.val, .int .i64 r2.2]) ∧ From w w')
 (h17 : ∀ w , From w0 w → Calls Try.prog 44 #[r2.1.val, Value.int .i64 r2.2] w fun e w' => e = .returned (r2.1.val) ∧ From w w')
 (hK : ∀  w, From w0 w → wpList Try.prog l.toArray Q (l.drop 18) ((((((((((((((((((a0.put (some 58) (Value.pointer (some ⟨g8, 1, none⟩))).put (some 59) ((Value.int .i64 i1))).put (some 60) (fo.val)).put (some 61) (Value.func (.func 42) #[] #[Value.pointer (some ⟨gw, 0, none⟩), Value.pointer (some ⟨gk, 0, none⟩)])).put (some 62) (Value.pointer (some ⟨g8, 3, none⟩))).put (some 63) ((Value.int .i64 i3))).put (some 64) (fl.val)).put (some 65) (Value.tuple #[r1.1.val, .int .i64 r1.2])).put (some 66) (r1.1.val)).put (some 67) (Value.int .i64 r1.2)).put (some 68) (r1.1.val)).put (some 69) (Value.pointer (some ⟨g8, 5, none⟩))).put (some 70) ((Value.int .i64 i5))).put (some 71) (f5.val)).put (some 72) (Value.tuple #[r2.1.val, .int .i64 r2.2])).put (some 73) (r2.1.val)).put (some 74) (Value.int .i64 r2.2)).put (some 75) (r2.1.val)) w) :
 (Code.region id l.toArray true).wp Try.prog Q a0 w0 := by
 have hlen : l.length = 19 := by rw [hl]; rfl
 have hpz := List.all_eq_true.1 hpre
 refine wp_region_keep 18 (fun i v w => match i with
  | 0 => v = (Value.pointer (some ⟨g8, 1, none⟩))
  | 1 => v = ((Value.int .i64 i1))
  | 2 => v = (fo.val)
  | 3 => v = (Value.func (.func 42) #[] #[Value.pointer (some ⟨gw, 0, none⟩), Value.pointer (some ⟨gk, 0, none⟩)])
  | 4 => v = (Value.pointer (some ⟨g8, 3, none⟩))
  | 5 => v = ((Value.int .i64 i3))
  | 6 => v = (fl.val)
  | 7 => v = (Value.tuple #[r1.1.val, .int .i64 r1.2])
  | 8 => v = (r1.1.val)
  | 9 => v = (Value.int .i64 r1.2)
  | 10 => v = (r1.1.val)
  | 11 => v = (Value.pointer (some ⟨g8, 5, none⟩))
  | 12 => v = ((Value.int .i64 i5))
  | 13 => v = (f5.val)
  | 14 => v = (Value.tuple #[r2.1.val, .int .i64 r2.2])
  | 15 => v = (r2.1.val)
  | 16 => v = (Value.int .i64 r2.2)
  | 17 => v = (r2.1.val)
  | _ => True) ?_ (by kernel_rfl) hO (by omega) hd ?_ ?_
 · exact fun _ _ _ _ h _ => h
 · intro i o hi ho a w hb hval hold
   have ho' : l.toArray[i]? = some o := by simpa using ho
   have hedge : ∀ j, (∃ js, (i, js) ∈ ([(1, [0]), (2, [1]), (5, [4]), (6, [3, 5]), (7, [2, 6]), (8, [7]), (9, [7]), (10, [8, 9]), (12, [11]), (13, [12]), (14, [10, 13]), (15, [14]), (16, [14]), (17, [15, 16])] : List (Nat × List Nat)) ∧ j ∈ js) → (o.after.any fun e => Region.binds .any e && e.on == j) = true := fun j ⟨_, hm, hj⟩ => by
    have h1 := List.all_eq_true.1 (hpz _ hm) j hj
    rw [ho'] at h1
    simpa using h1
   have hcase : i = 0 ∨ i = 1 ∨ i = 2 ∨ i = 3 ∨ i = 4 ∨ i = 5 ∨ i = 6 ∨ i = 7 ∨ i = 8 ∨ i = 9 ∨ i = 10 ∨ i = 11 ∨ i = 12 ∨ i = 13 ∨ i = 14 ∨ i = 15 ∨ i = 16 ∨ i = 17 := by omega
   rcases hcase with rfl | rfl | rfl | rfl | rfl | rfl | rfl | rfl | rfl | rfl | rfl | rfl | rfl | rfl | rfl | rfl | rfl | rfl
   all_goals (rw [hl] at ho; injection ho with ho; subst ho)
   · have b8 := eval_get ((hold 8 (by rw [hl]; rfl)).trans k8)
     exact wpOp_value ho' rfl (w' := w) (by go_simp) ⟨_, rfl, Below.refl _ _, rfl⟩
   · obtain ⟨_, hy0, rfl⟩ := hval 0 _ 58 (by omega) (by rw [hl]; rfl) rfl (hedge 0 (by simp))
     have b58 := eval_get hy0
     exact wpOp_load ho' rfl rfl b58 (h1 w hb) ⟨_, rfl, Below.refl _ _, rfl⟩
   · obtain ⟨_, hy1, rfl⟩ := hval 1 _ 59 (by omega) (by rw [hl]; rfl) rfl (hedge 1 (by simp))
     have b59 := eval_get hy1
     refine wpOp_call ho' rfl rfl (args := #[(Value.int .i64 i1)]) (by simp [b59]) (cf13 _ _) ((h2 w  hb ).mono ?_)
     rintro e w' ⟨rfl, hb2⟩
     exact ⟨_, rfl, _, rfl, hb2, rfl⟩
   · have b13 := eval_get ((hold 13 (by rw [hl]; rfl)).trans k13)
     exact wpOp_value ho' rfl (w' := w) (by go_simp) ⟨_, rfl, Below.refl _ _, rfl⟩
   · have b8 := eval_get ((hold 8 (by rw [hl]; rfl)).trans k8)
     exact wpOp_value ho' rfl (w' := w) (by go_simp) ⟨_, rfl, Below.refl _ _, rfl⟩
   · obtain ⟨_, hy4, rfl⟩ := hval 4 _ 62 (by omega) (by rw [hl]; rfl) rfl (hedge 4 (by simp))
     have b62 := eval_get hy4
     exact wpOp_load ho' rfl rfl b62 (h5 w hb) ⟨_, rfl, Below.refl _ _, rfl⟩
   · obtain ⟨_, hy3, rfl⟩ := hval 3 _ 61 (by omega) (by rw [hl]; rfl) rfl (hedge 3 (by simp))
     have b61 := eval_get hy3
     obtain ⟨_, hy5, rfl⟩ := hval 5 _ 63 (by omega) (by rw [hl]; rfl) rfl (hedge 5 (by simp))
     have b63 := eval_get hy5
     refine wpOp_callv ho' rfl rfl b61 (args := #[(Value.int .i64 i3), Value.int .i64 0]) (by simp [b63, eval_const]) (cf42 _ _) ((h6 w  hb ).mono ?_)
     rintro e w' ⟨rfl, hb2⟩
     exact ⟨_, rfl, _, rfl, hb2, rfl⟩
   · obtain ⟨_, hy2, rfl⟩ := hval 2 _ 60 (by omega) (by rw [hl]; rfl) rfl (hedge 2 (by simp))
     have b60 := eval_get hy2
     obtain ⟨_, hy6, rfl⟩ := hval 6 _ 64 (by omega) (by rw [hl]; rfl) rfl (hedge 6 (by simp))
     have b64 := eval_get hy6
     refine wpOp_call ho' rfl rfl (args := #[fo.val, fl.val]) (by simp [b60, b64]) (cf16 _ _) ((h7 w  hb ).mono ?_)
     rintro e w' ⟨rfl, hb2⟩
     exact ⟨_, rfl, _, rfl, hb2, rfl⟩
   · obtain ⟨_, hy7, rfl⟩ := hval 7 _ 65 (by omega) (by rw [hl]; rfl) rfl (hedge 7 (by simp))
     have b65 := eval_get hy7
     exact wpOp_value ho' rfl (w' := w) (by go_simp) ⟨_, rfl, Below.refl _ _, rfl⟩
   · obtain ⟨_, hy7, rfl⟩ := hval 7 _ 65 (by omega) (by rw [hl]; rfl) rfl (hedge 7 (by simp))
     have b65 := eval_get hy7
     exact wpOp_value ho' rfl (w' := w) (by go_simp) ⟨_, rfl, Below.refl _ _, rfl⟩
   · obtain ⟨_, hy8, rfl⟩ := hval 8 _ 66 (by omega) (by rw [hl]; rfl) rfl (hedge 8 (by simp))
     have b66 := eval_get hy8
     obtain ⟨_, hy9, rfl⟩ := hval 9 _ 67 (by omega) (by rw [hl]; rfl) rfl (hedge 9 (by simp))
     have b67 := eval_get hy9
     refine wpOp_call ho' rfl rfl (args := #[r1.1.val, Value.int .i64 r1.2]) (by simp [b66, b67]) (cf44 _ _) ((h10 w  hb ).mono ?_)
     rintro e w' ⟨rfl, hb2⟩
     exact ⟨_, rfl, _, rfl, hb2, rfl⟩
   · have b8 := eval_get ((hold 8 (by rw [hl]; rfl)).trans k8)
     exact wpOp_value ho' rfl (w' := w) (by go_simp) ⟨_, rfl, Below.refl _ _, rfl⟩
   · obtain ⟨_, hy11, rfl⟩ := hval 11 _ 69 (by omega) (by rw [hl]; rfl) rfl (hedge 11 (by simp))
     have b69 := eval_get hy11
     exact wpOp_load ho' rfl rfl b69 (h12 w hb) ⟨_, rfl, Below.refl _ _, rfl⟩
   · obtain ⟨_, hy12, rfl⟩ := hval 12 _ 70 (by omega) (by rw [hl]; rfl) rfl (hedge 12 (by simp))
     have b70 := eval_get hy12
     refine wpOp_call ho' rfl rfl (args := #[(Value.int .i64 i5)]) (by simp [b70]) (cf13 _ _) ((h13 w  hb ).mono ?_)
     rintro e w' ⟨rfl, hb2⟩
     exact ⟨_, rfl, _, rfl, hb2, rfl⟩
   · obtain ⟨_, hy10, rfl⟩ := hval 10 _ 68 (by omega) (by rw [hl]; rfl) rfl (hedge 10 (by simp))
     have b68 := eval_get hy10
     obtain ⟨_, hy13, rfl⟩ := hval 13 _ 71 (by omega) (by rw [hl]; rfl) rfl (hedge 13 (by simp))
     have b71 := eval_get hy13
     refine wpOp_call ho' rfl rfl (args := #[r1.1.val, f5.val]) (by simp [b68, b71]) (cf45 _ _) ((h14 w  hb ).mono ?_)
     rintro e w' ⟨rfl, hb2⟩
     exact ⟨_, rfl, _, rfl, hb2, rfl⟩
   · obtain ⟨_, hy14, rfl⟩ := hval 14 _ 72 (by omega) (by rw [hl]; rfl) rfl (hedge 14 (by simp))
     have b72 := eval_get hy14
     exact wpOp_value ho' rfl (w' := w) (by go_simp) ⟨_, rfl, Below.refl _ _, rfl⟩
   · obtain ⟨_, hy14, rfl⟩ := hval 14 _ 72 (by omega) (by rw [hl]; rfl) rfl (hedge 14 (by simp))
     have b72 := eval_get hy14
     exact wpOp_value ho' rfl (w' := w) (by go_simp) ⟨_, rfl, Below.refl _ _, rfl⟩
   · obtain ⟨_, hy15, rfl⟩ := hval 15 _ 73 (by omega) (by rw [hl]; rfl) rfl (hedge 15 (by simp))
     have b73 := eval_get hy15
     obtain ⟨_, hy16, rfl⟩ := hval 16 _ 74 (by omega) (by rw [hl]; rfl) rfl (hedge 16 (by simp))
     have b74 := eval_get hy16
     refine wpOp_call ho' rfl rfl (args := #[r2.1.val, Value.int .i64 r2.2]) (by simp [b73, b74]) (cf44 _ _) ((h17 w  hb ).mono ?_)
     rintro e w' ⟨rfl, hb2⟩
     exact ⟨_, rfl, _, rfl, hb2, rfl⟩
 · intro val w hb hrows
   have hF := hK  w hb
   subst hl
   simp only [List.take_succ_cons, List.take_zero, putAll, Nat.zero_add, Nat.reduceAdd, show val 0 = _ from hrows 0 (by omega), show val 1 = _ from hrows 1 (by omega), show val 2 = _ from hrows 2 (by omega), show val 3 = _ from hrows 3 (by omega), show val 4 = _ from hrows 4 (by omega), show val 5 = _ from hrows 5 (by omega), show val 6 = _ from hrows 6 (by omega), show val 7 = _ from hrows 7 (by omega), show val 8 = _ from hrows 8 (by omega), show val 9 = _ from hrows 9 (by omega), show val 10 = _ from hrows 10 (by omega), show val 11 = _ from hrows 11 (by omega), show val 12 = _ from hrows 12 (by omega), show val 13 = _ from hrows 13 (by omega), show val 14 = _ from hrows 14 (by omega), show val 15 = _ from hrows 15 (by omega), show val 16 = _ from hrows 16 (by omega), show val 17 = _ from hrows 17 (by omega)]
   exact hF
set_option maxRecDepth 100000 in
set_option maxHeartbeats 4000000 in
theorem region_ahead {id : Nat} {Q : Exit → Act → World → Prop} {a0 : Act} {w0 : World} {l : List Oper} {g15 gp offp np cp jj jm : Nat} {sa sb sc : Sec} (wJ : IntKind.i64.wrap ((jj : Int) - 1) = (jm : Int)) (hjm : (jm : Int) < (np : Int))
 {t0 t1 t2 t3 t4 t5 t6 t7 : TypeId} {x0 x1 x2 x3 x4 x5 x6 x7 : String} {e0 e1 e2 e3 e4 e5 e6 e7 : Array Edge}
 (hl : l = [⟨some 85, .load 103 (.tmp 15), t0, x0, e0, none⟩, ⟨some 86, .move (.tmp 6), t1, x1, e1, none⟩, ⟨some 87, .move (.tmp 16), t2, x2, e2, none⟩, ⟨some 88, .binOp .sub 3 (.tmp 87) (.const (.int .i64 1)) 3, t3, x3, e3, none⟩, ⟨some 89, .indexAddr 99 (.tmp 86) (.tmp 88), t4, x4, e4, none⟩, ⟨some 90, .load 103 (.tmp 89), t5, x5, e5, none⟩, ⟨some 91, .call { callee := .value (.func 41), args := #[.tmp 85, .tmp 90], argTypes := #[103, 103] }, t6, x6, e6, none⟩, ⟨none, .store 103 (.tmp 15) (.tmp 91), t7, x7, e7, none⟩])
 (hO : orderB l 7 = true) (hd : dstsB l 7 a0.tmps.size = true) (hpre : preB l.toArray [(3, [2]), (4, [1, 3]), (5, [4]), (6, [0, 5])] = true)
  (k6 : a0.tmps[6]? = some (Value.slice (some ⟨gp, offp, none⟩) np cp)) (k15 : a0.tmps[15]? = some (Value.pointer (some ⟨g15, 0, none⟩))) (k16 : a0.tmps[16]? = some (Value.int .i64 (jj : Int)))
 (h0 : ∀ w, From w0 w → (loadVar 103 ⟨g15, 0, none⟩).run Try.prog w = .ok sa.val w)
 (h5 : ∀ w, From w0 w → (loadVar 103 ⟨gp, offp + jm * 6, none⟩).run Try.prog w = .ok sb.val w)
 (h6 : ∀ w , From w0 w → Calls Try.prog 41 #[sa.val, sb.val] w fun e w' => e = .returned (sc.val) ∧ From w w')
 (hK : ∀  w, From w0 w → wpList Try.prog l.toArray Q (l.drop 7) (((((((a0.put (some 85) (sa.val)).put (some 86) (Value.slice (some ⟨gp, offp, none⟩) np cp)).put (some 87) (Value.int .i64 (jj : Int))).put (some 88) (Value.int .i64 (jm : Int))).put (some 89) (Value.pointer (some ⟨gp, offp + jm * 6, none⟩))).put (some 90) (sb.val)).put (some 91) (sc.val)) w) :
 (Code.region id l.toArray true).wp Try.prog Q a0 w0 := by
 have hlen : l.length = 8 := by rw [hl]; rfl
 have hpz := List.all_eq_true.1 hpre
 refine wp_region_keep 7 (fun i v w => match i with
  | 0 => v = (sa.val)
  | 1 => v = (Value.slice (some ⟨gp, offp, none⟩) np cp)
  | 2 => v = (Value.int .i64 (jj : Int))
  | 3 => v = (Value.int .i64 (jm : Int))
  | 4 => v = (Value.pointer (some ⟨gp, offp + jm * 6, none⟩))
  | 5 => v = (sb.val)
  | 6 => v = (sc.val)
  | _ => True) ?_ (by kernel_rfl) hO (by omega) hd ?_ ?_
 · exact fun _ _ _ _ h _ => h
 · intro i o hi ho a w hb hval hold
   have ho' : l.toArray[i]? = some o := by simpa using ho
   have hedge : ∀ j, (∃ js, (i, js) ∈ ([(3, [2]), (4, [1, 3]), (5, [4]), (6, [0, 5])] : List (Nat × List Nat)) ∧ j ∈ js) → (o.after.any fun e => Region.binds .any e && e.on == j) = true := fun j ⟨_, hm, hj⟩ => by
    have h1 := List.all_eq_true.1 (hpz _ hm) j hj
    rw [ho'] at h1
    simpa using h1
   have hcase : i = 0 ∨ i = 1 ∨ i = 2 ∨ i = 3 ∨ i = 4 ∨ i = 5 ∨ i = 6 := by omega
   rcases hcase with rfl | rfl | rfl | rfl | rfl | rfl | rfl
   all_goals (rw [hl] at ho; injection ho with ho; subst ho)
   · have b15 := eval_get ((hold 15 (by rw [hl]; rfl)).trans k15)
     exact wpOp_load ho' rfl rfl b15 (h0 w hb) ⟨_, rfl, Below.refl _ _, rfl⟩
   · have b6 := eval_get ((hold 6 (by rw [hl]; rfl)).trans k6)
     exact wpOp_value ho' rfl (w' := w) (by go_simp) ⟨_, rfl, Below.refl _ _, rfl⟩
   · have b16 := eval_get ((hold 16 (by rw [hl]; rfl)).trans k16)
     exact wpOp_value ho' rfl (w' := w) (by go_simp) ⟨_, rfl, Below.refl _ _, rfl⟩
   · obtain ⟨_, hy2, rfl⟩ := hval 2 _ 87 (by omega) (by rw [hl]; rfl) rfl (hedge 2 (by simp))
     have b87 := eval_get hy2
     exact wpOp_value ho' rfl (w' := w) (by go_simp) ⟨_, rfl, Below.refl _ _, rfl⟩
   · obtain ⟨_, hy1, rfl⟩ := hval 1 _ 86 (by omega) (by rw [hl]; rfl) rfl (hedge 1 (by simp))
     have b86 := eval_get hy1
     obtain ⟨_, hy3, rfl⟩ := hval 3 _ 88 (by omega) (by rw [hl]; rfl) rfl (hedge 3 (by simp))
     have b88 := eval_get hy3
     exact wpOp_value ho' rfl (w' := w) (by go_simp) ⟨_, rfl, Below.refl _ _, rfl⟩
   · obtain ⟨_, hy4, rfl⟩ := hval 4 _ 89 (by omega) (by rw [hl]; rfl) rfl (hedge 4 (by simp))
     have b89 := eval_get hy4
     exact wpOp_load ho' rfl rfl b89 (h5 w hb) ⟨_, rfl, Below.refl _ _, rfl⟩
   · obtain ⟨_, hy0, rfl⟩ := hval 0 _ 85 (by omega) (by rw [hl]; rfl) rfl (hedge 0 (by simp))
     have b85 := eval_get hy0
     obtain ⟨_, hy5, rfl⟩ := hval 5 _ 90 (by omega) (by rw [hl]; rfl) rfl (hedge 5 (by simp))
     have b90 := eval_get hy5
     refine wpOp_call ho' rfl rfl (args := #[sa.val, sb.val]) (by simp [b85, b90]) (cf41 _ _) ((h6 w  hb ).mono ?_)
     rintro e w' ⟨rfl, hb2⟩
     exact ⟨_, rfl, _, rfl, hb2, rfl⟩
 · intro val w hb hrows
   have hF := hK  w hb
   subst hl
   simp only [List.take_succ_cons, List.take_zero, putAll, Nat.zero_add, Nat.reduceAdd, show val 0 = _ from hrows 0 (by omega), show val 1 = _ from hrows 1 (by omega), show val 2 = _ from hrows 2 (by omega), show val 3 = _ from hrows 3 (by omega), show val 4 = _ from hrows 4 (by omega), show val 5 = _ from hrows 5 (by omega), show val 6 = _ from hrows 6 (by omega)]
   exact hF
set_option maxRecDepth 100000 in
set_option maxHeartbeats 4000000 in
theorem region_down {id : Nat} {Q : Exit → Act → World → Prop} {a0 : Act} {w0 : World} {l : List Oper} {g15 g18 : Nat} {i0 : Int} {fo fu : FracV} {r1 : FracV × Int}
 {t0 t1 t2 t3 t4 t5 t6 t7 t8 t9 : TypeId} {x0 x1 x2 x3 x4 x5 x6 x7 x8 x9 : String} {e0 e1 e2 e3 e4 e5 e6 e7 e8 e9 : Array Edge}
 (hl : l = [⟨some 98, .indexAddr 103 (.tmp 15) (.const (.int .i64 0)), t0, x0, e0, none⟩, ⟨some 99, .load 3 (.tmp 98), t1, x1, e1, none⟩, ⟨some 100, .call { callee := .value (.func 13), args := #[.tmp 99], argTypes := #[3] }, t2, x2, e2, none⟩, ⟨some 101, .load 37 (.tmp 18), t3, x3, e3, none⟩, ⟨some 102, .call { callee := .value (.func 16), args := #[.tmp 100, .tmp 101], argTypes := #[37, 37] }, t4, x4, e4, none⟩, ⟨some 103, .extract (.tmp 102) 0, t5, x5, e5, none⟩, ⟨some 104, .extract (.tmp 102) 1, t6, x6, e6, none⟩, ⟨some 105, .call { callee := .value (.func 44), args := #[.tmp 103, .tmp 104], argTypes := #[37, 31] }, t7, x7, e7, none⟩, ⟨some 19, .alloc 37, t8, x8, e8, none⟩, ⟨none, .store 37 (.tmp 19) (.tmp 105), t9, x9, e9, none⟩])
 (hO : orderB l 9 = true) (hd : dstsB l 9 a0.tmps.size = true) (hpre : preB l.toArray [(1, [0]), (2, [1]), (4, [2, 3]), (5, [4]), (6, [4]), (7, [5, 6])] = true)
  (k15 : a0.tmps[15]? = some (Value.pointer (some ⟨g15, 0, none⟩))) (k18 : a0.tmps[18]? = some (Value.pointer (some ⟨g18, 0, none⟩)))
 (R8 : Value → World → Prop) (s8 : ∀ v w w', R8 v w → From w w' → R8 v w')
 (h1 : ∀ w, From w0 w → (loadVar 3 ⟨g15, 0, none⟩).run Try.prog w = .ok (Value.int .i64 i0) w)
 (h2 : ∀ w , From w0 w → Calls Try.prog 13 #[(Value.int .i64 i0)] w fun e w' => e = .returned (fo.val) ∧ From w w')
 (h3 : ∀ w, From w0 w → (loadVar 37 ⟨g18, 0, none⟩).run Try.prog w = .ok fu.val w)
 (h4 : ∀ w , From w0 w → Calls Try.prog 16 #[fo.val, fu.val] w fun e w' => e = .returned (Value.tuple #[r1.1.val, .int .i64 r1.2]) ∧ From w w')
 (h7 : ∀ w , From w0 w → Calls Try.prog 44 #[r1.1.val, Value.int .i64 r1.2] w fun e w' => e = .returned (r1.1.val) ∧ From w w')
 (h8 : ∀ w, From w0 w → R8 (.pointer (some ⟨w.heap.size, 0, none⟩)) (w.alloc (.cells zeroF.val.cells 37)))
 (hK : ∀ u8 w, From w0 w → R8 u8 w → wpList Try.prog l.toArray Q (l.drop 9) (((((((((a0.put (some 98) (Value.pointer (some ⟨g15, 0, none⟩))).put (some 99) ((Value.int .i64 i0))).put (some 100) (fo.val)).put (some 101) (fu.val)).put (some 102) (Value.tuple #[r1.1.val, .int .i64 r1.2])).put (some 103) (r1.1.val)).put (some 104) (Value.int .i64 r1.2)).put (some 105) (r1.1.val)).put (some 19) u8) w) :
 (Code.region id l.toArray true).wp Try.prog Q a0 w0 := by
 have hlen : l.length = 10 := by rw [hl]; rfl
 have hpz := List.all_eq_true.1 hpre
 refine wp_region_keep 9 (fun i v w => match i with
  | 0 => v = (Value.pointer (some ⟨g15, 0, none⟩))
  | 1 => v = ((Value.int .i64 i0))
  | 2 => v = (fo.val)
  | 3 => v = (fu.val)
  | 4 => v = (Value.tuple #[r1.1.val, .int .i64 r1.2])
  | 5 => v = (r1.1.val)
  | 6 => v = (Value.int .i64 r1.2)
  | 7 => v = (r1.1.val)
  | 8 => R8 v w
  | _ => True) ?_ (by kernel_rfl) hO (by omega) hd ?_ ?_
 · intro i v w w' h hb
   match i, h with
   | 0, h => exact h
   | 1, h => exact h
   | 2, h => exact h
   | 3, h => exact h
   | 4, h => exact h
   | 5, h => exact h
   | 6, h => exact h
   | 7, h => exact h
   | 8, h => exact s8 v w w' h hb
   | _ + 9, _ => trivial
 · intro i o hi ho a w hb hval hold
   have ho' : l.toArray[i]? = some o := by simpa using ho
   have hedge : ∀ j, (∃ js, (i, js) ∈ ([(1, [0]), (2, [1]), (4, [2, 3]), (5, [4]), (6, [4]), (7, [5, 6])] : List (Nat × List Nat)) ∧ j ∈ js) → (o.after.any fun e => Region.binds .any e && e.on == j) = true := fun j ⟨_, hm, hj⟩ => by
    have h1 := List.all_eq_true.1 (hpz _ hm) j hj
    rw [ho'] at h1
    simpa using h1
   have hcase : i = 0 ∨ i = 1 ∨ i = 2 ∨ i = 3 ∨ i = 4 ∨ i = 5 ∨ i = 6 ∨ i = 7 ∨ i = 8 := by omega
   rcases hcase with rfl | rfl | rfl | rfl | rfl | rfl | rfl | rfl | rfl
   · have b15 := eval_get ((hold 15 (by rw [hl]; rfl)).trans k15)
     rw [hl] at ho
     injection ho with ho
     subst ho
     exact wpOp_value ho' rfl (w' := w) (by go_simp) ⟨_, rfl, Below.refl _ _, rfl⟩
   · obtain ⟨_, hy0, rfl⟩ := hval 0 _ 98 (by omega) (by rw [hl]; rfl) rfl (hedge 0 (by simp))
     have b98 := eval_get hy0
     rw [hl] at ho
     injection ho with ho
     subst ho
     exact wpOp_load ho' rfl rfl b98 (h1 w hb) ⟨_, rfl, Below.refl _ _, rfl⟩
   · obtain ⟨_, hy1, rfl⟩ := hval 1 _ 99 (by omega) (by rw [hl]; rfl) rfl (hedge 1 (by simp))
     have b99 := eval_get hy1
     rw [hl] at ho
     injection ho with ho
     subst ho
     refine wpOp_call ho' rfl rfl (args := #[(Value.int .i64 i0)]) (by simp [b99]) (cf13 _ _) ((h2 w  hb ).mono ?_)
     rintro e w' ⟨rfl, hb2⟩
     exact ⟨_, rfl, _, rfl, hb2, rfl⟩
   · have b18 := eval_get ((hold 18 (by rw [hl]; rfl)).trans k18)
     rw [hl] at ho
     injection ho with ho
     subst ho
     exact wpOp_load ho' rfl rfl b18 (h3 w hb) ⟨_, rfl, Below.refl _ _, rfl⟩
   · obtain ⟨_, hy2, rfl⟩ := hval 2 _ 100 (by omega) (by rw [hl]; rfl) rfl (hedge 2 (by simp))
     have b100 := eval_get hy2
     obtain ⟨_, hy3, rfl⟩ := hval 3 _ 101 (by omega) (by rw [hl]; rfl) rfl (hedge 3 (by simp))
     have b101 := eval_get hy3
     rw [hl] at ho
     injection ho with ho
     subst ho
     refine wpOp_call ho' rfl rfl (args := #[fo.val, fu.val]) (by simp [b100, b101]) (cf16 _ _) ((h4 w  hb ).mono ?_)
     rintro e w' ⟨rfl, hb2⟩
     exact ⟨_, rfl, _, rfl, hb2, rfl⟩
   · obtain ⟨_, hy4, rfl⟩ := hval 4 _ 102 (by omega) (by rw [hl]; rfl) rfl (hedge 4 (by simp))
     have b102 := eval_get hy4
     rw [hl] at ho
     injection ho with ho
     subst ho
     exact wpOp_value ho' rfl (w' := w) (by go_simp) ⟨_, rfl, Below.refl _ _, rfl⟩
   · obtain ⟨_, hy4, rfl⟩ := hval 4 _ 102 (by omega) (by rw [hl]; rfl) rfl (hedge 4 (by simp))
     have b102 := eval_get hy4
     rw [hl] at ho
     injection ho with ho
     subst ho
     exact wpOp_value ho' rfl (w' := w) (by go_simp) ⟨_, rfl, Below.refl _ _, rfl⟩
   · obtain ⟨_, hy5, rfl⟩ := hval 5 _ 103 (by omega) (by rw [hl]; rfl) rfl (hedge 5 (by simp))
     have b103 := eval_get hy5
     obtain ⟨_, hy6, rfl⟩ := hval 6 _ 104 (by omega) (by rw [hl]; rfl) rfl (hedge 6 (by simp))
     have b104 := eval_get hy6
     rw [hl] at ho
     injection ho with ho
     subst ho
     refine wpOp_call ho' rfl rfl (args := #[r1.1.val, Value.int .i64 r1.2]) (by simp [b103, b104]) (cf44 _ _) ((h7 w  hb ).mono ?_)
     rintro e w' ⟨rfl, hb2⟩
     exact ⟨_, rfl, _, rfl, hb2, rfl⟩
   · rw [hl] at ho
     injection ho with ho
     subst ho
     exact wpOp_alloc ho' rfl rfl (zero_frac w) ⟨_, rfl, (Below.refl _ _).alloc (Nat.le_refl _) _, h8 w hb⟩
 · intro val w hb hrows
   have q8 : R8 (val 8) w := hrows 8 (by omega)
   have hF := hK (val 8) w hb q8
   subst hl
   simp only [List.take_succ_cons, List.take_zero, putAll, Nat.zero_add, Nat.reduceAdd, show val 0 = _ from hrows 0 (by omega), show val 1 = _ from hrows 1 (by omega), show val 2 = _ from hrows 2 (by omega), show val 3 = _ from hrows 3 (by omega), show val 4 = _ from hrows 4 (by omega), show val 5 = _ from hrows 5 (by omega), show val 6 = _ from hrows 6 (by omega), show val 7 = _ from hrows 7 (by omega)]
   exact hF
set_option maxRecDepth 100000 in
set_option maxHeartbeats 4000000 in
theorem region_arm {id : Nat} {Q : Exit → Act → World → Prop} {a0 : Act} {w0 : World} {l : List Oper} {g17 g19 : Nat} {ix dx : Int} {fd fo : FracV} {r1 : FracV × Int} (wX : IntKind.i64.wrap (2 * ix) = dx)
 {t0 t1 t2 t3 t4 t5 t6 t7 t8 t9 t10 : TypeId} {x0 x1 x2 x3 x4 x5 x6 x7 x8 x9 x10 : String} {e0 e1 e2 e3 e4 e5 e6 e7 e8 e9 e10 : Array Edge}
 (hl : l = [⟨some 106, .load 37 (.tmp 19), t0, x0, e0, none⟩, ⟨some 107, .fieldAddr 44 (.tmp 17) 0, t1, x1, e1, none⟩, ⟨some 108, .load 3 (.tmp 107), t2, x2, e2, none⟩, ⟨some 109, .binOp .mul 3 (.const (.int .i64 2)) (.tmp 108) 3, t3, x3, e3, none⟩, ⟨some 110, .call { callee := .value (.func 13), args := #[.tmp 109], argTypes := #[3] }, t4, x4, e4, none⟩, ⟨some 111, .call { callee := .value (.func 18), args := #[.tmp 106, .tmp 110], argTypes := #[37, 37] }, t5, x5, e5, none⟩, ⟨some 112, .extract (.tmp 111) 0, t6, x6, e6, none⟩, ⟨some 113, .extract (.tmp 111) 1, t7, x7, e7, none⟩, ⟨some 114, .call { callee := .value (.func 44), args := #[.tmp 112, .tmp 113], argTypes := #[37, 31] }, t8, x8, e8, none⟩, ⟨some 20, .alloc 37, t9, x9, e9, none⟩, ⟨none, .store 37 (.tmp 20) (.tmp 114), t10, x10, e10, none⟩])
 (hO : orderB l 10 = true) (hd : dstsB l 10 a0.tmps.size = true) (hpre : preB l.toArray [(2, [1]), (3, [2]), (4, [3]), (5, [0, 4]), (6, [5]), (7, [5]), (8, [6, 7])] = true)
  (k17 : a0.tmps[17]? = some (Value.pointer (some ⟨g17, 0, none⟩))) (k19 : a0.tmps[19]? = some (Value.pointer (some ⟨g19, 0, none⟩)))
 (R9 : Value → World → Prop) (s9 : ∀ v w w', R9 v w → From w w' → R9 v w')
 (h0 : ∀ w, From w0 w → (loadVar 37 ⟨g19, 0, none⟩).run Try.prog w = .ok fd.val w)
 (h2 : ∀ w, From w0 w → (loadVar 3 ⟨g17, 0, none⟩).run Try.prog w = .ok (Value.int .i64 ix) w)
 (h4 : ∀ w , From w0 w → Calls Try.prog 13 #[Value.int .i64 dx] w fun e w' => e = .returned (fo.val) ∧ From w w')
 (h5 : ∀ w , From w0 w → Calls Try.prog 18 #[fd.val, fo.val] w fun e w' => e = .returned (Value.tuple #[r1.1.val, .int .i64 r1.2]) ∧ From w w')
 (h8 : ∀ w , From w0 w → Calls Try.prog 44 #[r1.1.val, Value.int .i64 r1.2] w fun e w' => e = .returned (r1.1.val) ∧ From w w')
 (h9 : ∀ w, From w0 w → R9 (.pointer (some ⟨w.heap.size, 0, none⟩)) (w.alloc (.cells zeroF.val.cells 37)))
 (hK : ∀ u9 w, From w0 w → R9 u9 w → wpList Try.prog l.toArray Q (l.drop 10) ((((((((((a0.put (some 106) (fd.val)).put (some 107) (Value.pointer (some ⟨g17, 0, none⟩))).put (some 108) ((Value.int .i64 ix))).put (some 109) (Value.int .i64 dx)).put (some 110) (fo.val)).put (some 111) (Value.tuple #[r1.1.val, .int .i64 r1.2])).put (some 112) (r1.1.val)).put (some 113) (Value.int .i64 r1.2)).put (some 114) (r1.1.val)).put (some 20) u9) w) :
 (Code.region id l.toArray true).wp Try.prog Q a0 w0 := by
 have hlen : l.length = 11 := by rw [hl]; rfl
 have hpz := List.all_eq_true.1 hpre
 refine wp_region_keep 10 (fun i v w => match i with
  | 0 => v = (fd.val)
  | 1 => v = (Value.pointer (some ⟨g17, 0, none⟩))
  | 2 => v = ((Value.int .i64 ix))
  | 3 => v = (Value.int .i64 dx)
  | 4 => v = (fo.val)
  | 5 => v = (Value.tuple #[r1.1.val, .int .i64 r1.2])
  | 6 => v = (r1.1.val)
  | 7 => v = (Value.int .i64 r1.2)
  | 8 => v = (r1.1.val)
  | 9 => R9 v w
  | _ => True) ?_ (by kernel_rfl) hO (by omega) hd ?_ ?_
 · intro i v w w' h hb
   match i, h with
   | 0, h => exact h
   | 1, h => exact h
   | 2, h => exact h
   | 3, h => exact h
   | 4, h => exact h
   | 5, h => exact h
   | 6, h => exact h
   | 7, h => exact h
   | 8, h => exact h
   | 9, h => exact s9 v w w' h hb
   | _ + 10, _ => trivial
 · intro i o hi ho a w hb hval hold
   have ho' : l.toArray[i]? = some o := by simpa using ho
   have hedge : ∀ j, (∃ js, (i, js) ∈ ([(2, [1]), (3, [2]), (4, [3]), (5, [0, 4]), (6, [5]), (7, [5]), (8, [6, 7])] : List (Nat × List Nat)) ∧ j ∈ js) → (o.after.any fun e => Region.binds .any e && e.on == j) = true := fun j ⟨_, hm, hj⟩ => by
    have h1 := List.all_eq_true.1 (hpz _ hm) j hj
    rw [ho'] at h1
    simpa using h1
   have hcase : i = 0 ∨ i = 1 ∨ i = 2 ∨ i = 3 ∨ i = 4 ∨ i = 5 ∨ i = 6 ∨ i = 7 ∨ i = 8 ∨ i = 9 := by omega
   rcases hcase with rfl | rfl | rfl | rfl | rfl | rfl | rfl | rfl | rfl | rfl
   · have b19 := eval_get ((hold 19 (by rw [hl]; rfl)).trans k19)
     rw [hl] at ho
     injection ho with ho
     subst ho
     exact wpOp_load ho' rfl rfl b19 (h0 w hb) ⟨_, rfl, Below.refl _ _, rfl⟩
   · have b17 := eval_get ((hold 17 (by rw [hl]; rfl)).trans k17)
     rw [hl] at ho
     injection ho with ho
     subst ho
     exact wpOp_value ho' rfl (w' := w) (by go_simp) ⟨_, rfl, Below.refl _ _, rfl⟩
   · obtain ⟨_, hy1, rfl⟩ := hval 1 _ 107 (by omega) (by rw [hl]; rfl) rfl (hedge 1 (by simp))
     have b107 := eval_get hy1
     rw [hl] at ho
     injection ho with ho
     subst ho
     exact wpOp_load ho' rfl rfl b107 (h2 w hb) ⟨_, rfl, Below.refl _ _, rfl⟩
   · obtain ⟨_, hy2, rfl⟩ := hval 2 _ 108 (by omega) (by rw [hl]; rfl) rfl (hedge 2 (by simp))
     have b108 := eval_get hy2
     rw [hl] at ho
     injection ho with ho
     subst ho
     exact wpOp_value ho' rfl (w' := w) (by go_simp) ⟨_, rfl, Below.refl _ _, rfl⟩
   · obtain ⟨_, hy3, rfl⟩ := hval 3 _ 109 (by omega) (by rw [hl]; rfl) rfl (hedge 3 (by simp))
     have b109 := eval_get hy3
     rw [hl] at ho
     injection ho with ho
     subst ho
     refine wpOp_call ho' rfl rfl (args := #[Value.int .i64 dx]) (by simp [b109]) (cf13 _ _) ((h4 w  hb ).mono ?_)
     rintro e w' ⟨rfl, hb2⟩
     exact ⟨_, rfl, _, rfl, hb2, rfl⟩
   · obtain ⟨_, hy0, rfl⟩ := hval 0 _ 106 (by omega) (by rw [hl]; rfl) rfl (hedge 0 (by simp))
     have b106 := eval_get hy0
     obtain ⟨_, hy4, rfl⟩ := hval 4 _ 110 (by omega) (by rw [hl]; rfl) rfl (hedge 4 (by simp))
     have b110 := eval_get hy4
     rw [hl] at ho
     injection ho with ho
     subst ho
     refine wpOp_call ho' rfl rfl (args := #[fd.val, fo.val]) (by simp [b106, b110]) (cf18 _ _) ((h5 w  hb ).mono ?_)
     rintro e w' ⟨rfl, hb2⟩
     exact ⟨_, rfl, _, rfl, hb2, rfl⟩
   · obtain ⟨_, hy5, rfl⟩ := hval 5 _ 111 (by omega) (by rw [hl]; rfl) rfl (hedge 5 (by simp))
     have b111 := eval_get hy5
     rw [hl] at ho
     injection ho with ho
     subst ho
     exact wpOp_value ho' rfl (w' := w) (by go_simp) ⟨_, rfl, Below.refl _ _, rfl⟩
   · obtain ⟨_, hy5, rfl⟩ := hval 5 _ 111 (by omega) (by rw [hl]; rfl) rfl (hedge 5 (by simp))
     have b111 := eval_get hy5
     rw [hl] at ho
     injection ho with ho
     subst ho
     exact wpOp_value ho' rfl (w' := w) (by go_simp) ⟨_, rfl, Below.refl _ _, rfl⟩
   · obtain ⟨_, hy6, rfl⟩ := hval 6 _ 112 (by omega) (by rw [hl]; rfl) rfl (hedge 6 (by simp))
     have b112 := eval_get hy6
     obtain ⟨_, hy7, rfl⟩ := hval 7 _ 113 (by omega) (by rw [hl]; rfl) rfl (hedge 7 (by simp))
     have b113 := eval_get hy7
     rw [hl] at ho
     injection ho with ho
     subst ho
     refine wpOp_call ho' rfl rfl (args := #[r1.1.val, Value.int .i64 r1.2]) (by simp [b112, b113]) (cf44 _ _) ((h8 w  hb ).mono ?_)
     rintro e w' ⟨rfl, hb2⟩
     exact ⟨_, rfl, _, rfl, hb2, rfl⟩
   · rw [hl] at ho
     injection ho with ho
     subst ho
     exact wpOp_alloc ho' rfl rfl (zero_frac w) ⟨_, rfl, (Below.refl _ _).alloc (Nat.le_refl _) _, h9 w hb⟩
 · intro val w hb hrows
   have q9 : R9 (val 9) w := hrows 9 (by omega)
   have hF := hK (val 9) w hb q9
   subst hl
   simp only [List.take_succ_cons, List.take_zero, putAll, Nat.zero_add, Nat.reduceAdd, show val 0 = _ from hrows 0 (by omega), show val 1 = _ from hrows 1 (by omega), show val 2 = _ from hrows 2 (by omega), show val 3 = _ from hrows 3 (by omega), show val 4 = _ from hrows 4 (by omega), show val 5 = _ from hrows 5 (by omega), show val 6 = _ from hrows 6 (by omega), show val 7 = _ from hrows 7 (by omega), show val 8 = _ from hrows 8 (by omega)]
   exact hF
set_option maxRecDepth 100000 in
set_option maxHeartbeats 4000000 in
theorem region_twice {id : Nat} {Q : Exit → Act → World → Prop} {a0 : Act} {w0 : World} {l : List Oper} {g15 g20 gw gk : Nat} {i1 i3 i5 : Int} {fa fl fo : FracV} {r1 r2 : FracV × Int}
 {t0 t1 t2 t3 t4 t5 t6 t7 t8 t9 t10 t11 t12 t13 t14 t15 t16 t17 t18 t19 : TypeId} {x0 x1 x2 x3 x4 x5 x6 x7 x8 x9 x10 x11 x12 x13 x14 x15 x16 x17 x18 x19 : String} {e0 e1 e2 e3 e4 e5 e6 e7 e8 e9 e10 e11 e12 e13 e14 e15 e16 e17 e18 e19 : Array Edge}
 (hl : l = [⟨some 115, .load 37 (.tmp 20), t0, x0, e0, none⟩, ⟨some 116, .move (.tmp 13), t1, x1, e1, none⟩, ⟨some 117, .indexAddr 103 (.tmp 15) (.const (.int .i64 3)), t2, x2, e2, none⟩, ⟨some 118, .load 3 (.tmp 117), t3, x3, e3, none⟩, ⟨some 119, .indexAddr 103 (.tmp 15) (.const (.int .i64 5)), t4, x4, e4, none⟩, ⟨some 120, .load 3 (.tmp 119), t5, x5, e5, none⟩, ⟨some 121, .call { callee := .value (.tmp 116), args := #[.tmp 118, .tmp 120], argTypes := #[3, 3] }, t6, x6, e6, none⟩, ⟨some 122, .call { callee := .value (.func 17), args := #[.tmp 115, .tmp 121], argTypes := #[37, 37] }, t7, x7, e7, none⟩, ⟨some 123, .extract (.tmp 122) 0, t8, x8, e8, none⟩, ⟨some 124, .extract (.tmp 122) 1, t9, x9, e9, none⟩, ⟨some 125, .call { callee := .value (.func 44), args := #[.tmp 123, .tmp 124], argTypes := #[37, 31] }, t10, x10, e10, none⟩, ⟨some 126, .indexAddr 103 (.tmp 15) (.const (.int .i64 1)), t11, x11, e11, none⟩, ⟨some 127, .load 3 (.tmp 126), t12, x12, e12, none⟩, ⟨some 128, .call { callee := .value (.func 13), args := #[.tmp 127], argTypes := #[3] }, t13, x13, e13, none⟩, ⟨some 129, .call { callee := .value (.func 16), args := #[.tmp 125, .tmp 128], argTypes := #[37, 37] }, t14, x14, e14, none⟩, ⟨some 130, .extract (.tmp 129) 0, t15, x15, e15, none⟩, ⟨some 131, .extract (.tmp 129) 1, t16, x16, e16, none⟩, ⟨some 132, .call { callee := .value (.func 44), args := #[.tmp 130, .tmp 131], argTypes := #[37, 31] }, t17, x17, e17, none⟩, ⟨some 21, .alloc 37, t18, x18, e18, none⟩, ⟨none, .store 37 (.tmp 21) (.tmp 132), t19, x19, e19, none⟩])
 (hO : orderB l 19 = true) (hd : dstsB l 19 a0.tmps.size = true) (hpre : preB l.toArray [(3, [2]), (5, [4]), (6, [1, 3, 5]), (7, [0, 6]), (8, [7]), (9, [7]), (10, [8, 9]), (12, [11]), (13, [12]), (14, [10, 13]), (15, [14]), (16, [14]), (17, [15, 16])] = true)
  (k13 : a0.tmps[13]? = some (Value.func (.func 42) #[] #[Value.pointer (some ⟨gw, 0, none⟩), Value.pointer (some ⟨gk, 0, none⟩)])) (k15 : a0.tmps[15]? = some (Value.pointer (some ⟨g15, 0, none⟩))) (k20 : a0.tmps[20]? = some (Value.pointer (some ⟨g20, 0, none⟩)))
 (R18 : Value → World → Prop) (s18 : ∀ v w w', R18 v w → From w w' → R18 v w')
 (h0 : ∀ w, From w0 w → (loadVar 37 ⟨g20, 0, none⟩).run Try.prog w = .ok fa.val w)
 (h3 : ∀ w, From w0 w → (loadVar 3 ⟨g15, 3, none⟩).run Try.prog w = .ok (Value.int .i64 i3) w)
 (h5 : ∀ w, From w0 w → (loadVar 3 ⟨g15, 5, none⟩).run Try.prog w = .ok (Value.int .i64 i5) w)
 (h6 : ∀ w , From w0 w → Calls Try.prog 42 (#[(Value.int .i64 i3), (Value.int .i64 i5)] ++ #[Value.pointer (some ⟨gw, 0, none⟩), Value.pointer (some ⟨gk, 0, none⟩)]) w fun e w' => e = .returned (fl.val) ∧ From w w')
 (h7 : ∀ w , From w0 w → Calls Try.prog 17 #[fa.val, fl.val] w fun e w' => e = .returned (Value.tuple #[r1.1.val, .int .i64 r1.2]) ∧ From w w')
 (h10 : ∀ w , From w0 w → Calls Try.prog 44 #[r1.1.val, Value.int .i64 r1.2] w fun e w' => e = .returned (r1.1.val) ∧ From w w')
 (h12 : ∀ w, From w0 w → (loadVar 3 ⟨g15, 1, none⟩).run Try.prog w = .ok (Value.int .i64 i1) w)
 (h13 : ∀ w , From w0 w → Calls Try.prog 13 #[(Value.int .i64 i1)] w fun e w' => e = .returned (fo.val) ∧ From w w')
 (h14 : ∀ w , From w0 w → Calls Try.prog 16 #[r1.1.val, fo.val] w fun e w' => e = .returned (Value.tuple #[r2.1.val, .int .i64 r2.2]) ∧ From w w')
 (h17 : ∀ w , From w0 w → Calls Try.prog 44 #[r2.1.val, Value.int .i64 r2.2] w fun e w' => e = .returned (r2.1.val) ∧ From w w')
 (h18 : ∀ w, From w0 w → R18 (.pointer (some ⟨w.heap.size, 0, none⟩)) (w.alloc (.cells zeroF.val.cells 37)))
 (hK : ∀ u18 w, From w0 w → R18 u18 w → wpList Try.prog l.toArray Q (l.drop 19) (((((((((((((((((((a0.put (some 115) (fa.val)).put (some 116) (Value.func (.func 42) #[] #[Value.pointer (some ⟨gw, 0, none⟩), Value.pointer (some ⟨gk, 0, none⟩)])).put (some 117) (Value.pointer (some ⟨g15, 3, none⟩))).put (some 118) ((Value.int .i64 i3))).put (some 119) (Value.pointer (some ⟨g15, 5, none⟩))).put (some 120) ((Value.int .i64 i5))).put (some 121) (fl.val)).put (some 122) (Value.tuple #[r1.1.val, .int .i64 r1.2])).put (some 123) (r1.1.val)).put (some 124) (Value.int .i64 r1.2)).put (some 125) (r1.1.val)).put (some 126) (Value.pointer (some ⟨g15, 1, none⟩))).put (some 127) ((Value.int .i64 i1))).put (some 128) (fo.val)).put (some 129) (Value.tuple #[r2.1.val, .int .i64 r2.2])).put (some 130) (r2.1.val)).put (some 131) (Value.int .i64 r2.2)).put (some 132) (r2.1.val)).put (some 21) u18) w) :
 (Code.region id l.toArray true).wp Try.prog Q a0 w0 := by
 have hlen : l.length = 20 := by rw [hl]; rfl
 have hpz := List.all_eq_true.1 hpre
 refine wp_region_keep 19 (fun i v w => match i with
  | 0 => v = (fa.val)
  | 1 => v = (Value.func (.func 42) #[] #[Value.pointer (some ⟨gw, 0, none⟩), Value.pointer (some ⟨gk, 0, none⟩)])
  | 2 => v = (Value.pointer (some ⟨g15, 3, none⟩))
  | 3 => v = ((Value.int .i64 i3))
  | 4 => v = (Value.pointer (some ⟨g15, 5, none⟩))
  | 5 => v = ((Value.int .i64 i5))
  | 6 => v = (fl.val)
  | 7 => v = (Value.tuple #[r1.1.val, .int .i64 r1.2])
  | 8 => v = (r1.1.val)
  | 9 => v = (Value.int .i64 r1.2)
  | 10 => v = (r1.1.val)
  | 11 => v = (Value.pointer (some ⟨g15, 1, none⟩))
  | 12 => v = ((Value.int .i64 i1))
  | 13 => v = (fo.val)
  | 14 => v = (Value.tuple #[r2.1.val, .int .i64 r2.2])
  | 15 => v = (r2.1.val)
  | 16 => v = (Value.int .i64 r2.2)
  | 17 => v = (r2.1.val)
  | 18 => R18 v w
  | _ => True) ?_ (by kernel_rfl) hO (by omega) hd ?_ ?_
 · intro i v w w' h hb
   match i, h with
   | 0, h => exact h
   | 1, h => exact h
   | 2, h => exact h
   | 3, h => exact h
   | 4, h => exact h
   | 5, h => exact h
   | 6, h => exact h
   | 7, h => exact h
   | 8, h => exact h
   | 9, h => exact h
   | 10, h => exact h
   | 11, h => exact h
   | 12, h => exact h
   | 13, h => exact h
   | 14, h => exact h
   | 15, h => exact h
   | 16, h => exact h
   | 17, h => exact h
   | 18, h => exact s18 v w w' h hb
   | _ + 19, _ => trivial
 · intro i o hi ho a w hb hval hold
   have ho' : l.toArray[i]? = some o := by simpa using ho
   have hedge : ∀ j, (∃ js, (i, js) ∈ ([(3, [2]), (5, [4]), (6, [1, 3, 5]), (7, [0, 6]), (8, [7]), (9, [7]), (10, [8, 9]), (12, [11]), (13, [12]), (14, [10, 13]), (15, [14]), (16, [14]), (17, [15, 16])] : List (Nat × List Nat)) ∧ j ∈ js) → (o.after.any fun e => Region.binds .any e && e.on == j) = true := fun j ⟨_, hm, hj⟩ => by
    have h1 := List.all_eq_true.1 (hpz _ hm) j hj
    rw [ho'] at h1
    simpa using h1
   have hcase : i = 0 ∨ i = 1 ∨ i = 2 ∨ i = 3 ∨ i = 4 ∨ i = 5 ∨ i = 6 ∨ i = 7 ∨ i = 8 ∨ i = 9 ∨ i = 10 ∨ i = 11 ∨ i = 12 ∨ i = 13 ∨ i = 14 ∨ i = 15 ∨ i = 16 ∨ i = 17 ∨ i = 18 := by omega
   rcases hcase with rfl | rfl | rfl | rfl | rfl | rfl | rfl | rfl | rfl | rfl | rfl | rfl | rfl | rfl | rfl | rfl | rfl | rfl | rfl
   · have b20 := eval_get ((hold 20 (by rw [hl]; rfl)).trans k20)
     rw [hl] at ho
     injection ho with ho
     subst ho
     exact wpOp_load ho' rfl rfl b20 (h0 w hb) ⟨_, rfl, Below.refl _ _, rfl⟩
   · have b13 := eval_get ((hold 13 (by rw [hl]; rfl)).trans k13)
     rw [hl] at ho
     injection ho with ho
     subst ho
     exact wpOp_value ho' rfl (w' := w) (by go_simp) ⟨_, rfl, Below.refl _ _, rfl⟩
   · have b15 := eval_get ((hold 15 (by rw [hl]; rfl)).trans k15)
     rw [hl] at ho
     injection ho with ho
     subst ho
     exact wpOp_value ho' rfl (w' := w) (by go_simp) ⟨_, rfl, Below.refl _ _, rfl⟩
   · obtain ⟨_, hy2, rfl⟩ := hval 2 _ 117 (by omega) (by rw [hl]; rfl) rfl (hedge 2 (by simp))
     have b117 := eval_get hy2
     rw [hl] at ho
     injection ho with ho
     subst ho
     exact wpOp_load ho' rfl rfl b117 (h3 w hb) ⟨_, rfl, Below.refl _ _, rfl⟩
   · have b15 := eval_get ((hold 15 (by rw [hl]; rfl)).trans k15)
     rw [hl] at ho
     injection ho with ho
     subst ho
     exact wpOp_value ho' rfl (w' := w) (by go_simp) ⟨_, rfl, Below.refl _ _, rfl⟩
   · obtain ⟨_, hy4, rfl⟩ := hval 4 _ 119 (by omega) (by rw [hl]; rfl) rfl (hedge 4 (by simp))
     have b119 := eval_get hy4
     rw [hl] at ho
     injection ho with ho
     subst ho
     exact wpOp_load ho' rfl rfl b119 (h5 w hb) ⟨_, rfl, Below.refl _ _, rfl⟩
   · obtain ⟨_, hy1, rfl⟩ := hval 1 _ 116 (by omega) (by rw [hl]; rfl) rfl (hedge 1 (by simp))
     have b116 := eval_get hy1
     obtain ⟨_, hy3, rfl⟩ := hval 3 _ 118 (by omega) (by rw [hl]; rfl) rfl (hedge 3 (by simp))
     have b118 := eval_get hy3
     obtain ⟨_, hy5, rfl⟩ := hval 5 _ 120 (by omega) (by rw [hl]; rfl) rfl (hedge 5 (by simp))
     have b120 := eval_get hy5
     rw [hl] at ho
     injection ho with ho
     subst ho
     refine wpOp_callv ho' rfl rfl b116 (args := #[(Value.int .i64 i3), (Value.int .i64 i5)]) (by simp [b118, b120]) (cf42 _ _) ((h6 w  hb ).mono ?_)
     rintro e w' ⟨rfl, hb2⟩
     exact ⟨_, rfl, _, rfl, hb2, rfl⟩
   · obtain ⟨_, hy0, rfl⟩ := hval 0 _ 115 (by omega) (by rw [hl]; rfl) rfl (hedge 0 (by simp))
     have b115 := eval_get hy0
     obtain ⟨_, hy6, rfl⟩ := hval 6 _ 121 (by omega) (by rw [hl]; rfl) rfl (hedge 6 (by simp))
     have b121 := eval_get hy6
     rw [hl] at ho
     injection ho with ho
     subst ho
     refine wpOp_call ho' rfl rfl (args := #[fa.val, fl.val]) (by simp [b115, b121]) (cf17 _ _) ((h7 w  hb ).mono ?_)
     rintro e w' ⟨rfl, hb2⟩
     exact ⟨_, rfl, _, rfl, hb2, rfl⟩
   · obtain ⟨_, hy7, rfl⟩ := hval 7 _ 122 (by omega) (by rw [hl]; rfl) rfl (hedge 7 (by simp))
     have b122 := eval_get hy7
     rw [hl] at ho
     injection ho with ho
     subst ho
     exact wpOp_value ho' rfl (w' := w) (by go_simp) ⟨_, rfl, Below.refl _ _, rfl⟩
   · obtain ⟨_, hy7, rfl⟩ := hval 7 _ 122 (by omega) (by rw [hl]; rfl) rfl (hedge 7 (by simp))
     have b122 := eval_get hy7
     rw [hl] at ho
     injection ho with ho
     subst ho
     exact wpOp_value ho' rfl (w' := w) (by go_simp) ⟨_, rfl, Below.refl _ _, rfl⟩
   · obtain ⟨_, hy8, rfl⟩ := hval 8 _ 123 (by omega) (by rw [hl]; rfl) rfl (hedge 8 (by simp))
     have b123 := eval_get hy8
     obtain ⟨_, hy9, rfl⟩ := hval 9 _ 124 (by omega) (by rw [hl]; rfl) rfl (hedge 9 (by simp))
     have b124 := eval_get hy9
     rw [hl] at ho
     injection ho with ho
     subst ho
     refine wpOp_call ho' rfl rfl (args := #[r1.1.val, Value.int .i64 r1.2]) (by simp [b123, b124]) (cf44 _ _) ((h10 w  hb ).mono ?_)
     rintro e w' ⟨rfl, hb2⟩
     exact ⟨_, rfl, _, rfl, hb2, rfl⟩
   · have b15 := eval_get ((hold 15 (by rw [hl]; rfl)).trans k15)
     rw [hl] at ho
     injection ho with ho
     subst ho
     exact wpOp_value ho' rfl (w' := w) (by go_simp) ⟨_, rfl, Below.refl _ _, rfl⟩
   · obtain ⟨_, hy11, rfl⟩ := hval 11 _ 126 (by omega) (by rw [hl]; rfl) rfl (hedge 11 (by simp))
     have b126 := eval_get hy11
     rw [hl] at ho
     injection ho with ho
     subst ho
     exact wpOp_load ho' rfl rfl b126 (h12 w hb) ⟨_, rfl, Below.refl _ _, rfl⟩
   · obtain ⟨_, hy12, rfl⟩ := hval 12 _ 127 (by omega) (by rw [hl]; rfl) rfl (hedge 12 (by simp))
     have b127 := eval_get hy12
     rw [hl] at ho
     injection ho with ho
     subst ho
     refine wpOp_call ho' rfl rfl (args := #[(Value.int .i64 i1)]) (by simp [b127]) (cf13 _ _) ((h13 w  hb ).mono ?_)
     rintro e w' ⟨rfl, hb2⟩
     exact ⟨_, rfl, _, rfl, hb2, rfl⟩
   · obtain ⟨_, hy10, rfl⟩ := hval 10 _ 125 (by omega) (by rw [hl]; rfl) rfl (hedge 10 (by simp))
     have b125 := eval_get hy10
     obtain ⟨_, hy13, rfl⟩ := hval 13 _ 128 (by omega) (by rw [hl]; rfl) rfl (hedge 13 (by simp))
     have b128 := eval_get hy13
     rw [hl] at ho
     injection ho with ho
     subst ho
     refine wpOp_call ho' rfl rfl (args := #[r1.1.val, fo.val]) (by simp [b125, b128]) (cf16 _ _) ((h14 w  hb ).mono ?_)
     rintro e w' ⟨rfl, hb2⟩
     exact ⟨_, rfl, _, rfl, hb2, rfl⟩
   · obtain ⟨_, hy14, rfl⟩ := hval 14 _ 129 (by omega) (by rw [hl]; rfl) rfl (hedge 14 (by simp))
     have b129 := eval_get hy14
     rw [hl] at ho
     injection ho with ho
     subst ho
     exact wpOp_value ho' rfl (w' := w) (by go_simp) ⟨_, rfl, Below.refl _ _, rfl⟩
   · obtain ⟨_, hy14, rfl⟩ := hval 14 _ 129 (by omega) (by rw [hl]; rfl) rfl (hedge 14 (by simp))
     have b129 := eval_get hy14
     rw [hl] at ho
     injection ho with ho
     subst ho
     exact wpOp_value ho' rfl (w' := w) (by go_simp) ⟨_, rfl, Below.refl _ _, rfl⟩
   · obtain ⟨_, hy15, rfl⟩ := hval 15 _ 130 (by omega) (by rw [hl]; rfl) rfl (hedge 15 (by simp))
     have b130 := eval_get hy15
     obtain ⟨_, hy16, rfl⟩ := hval 16 _ 131 (by omega) (by rw [hl]; rfl) rfl (hedge 16 (by simp))
     have b131 := eval_get hy16
     rw [hl] at ho
     injection ho with ho
     subst ho
     refine wpOp_call ho' rfl rfl (args := #[r2.1.val, Value.int .i64 r2.2]) (by simp [b130, b131]) (cf44 _ _) ((h17 w  hb ).mono ?_)
     rintro e w' ⟨rfl, hb2⟩
     exact ⟨_, rfl, _, rfl, hb2, rfl⟩
   · rw [hl] at ho
     injection ho with ho
     subst ho
     exact wpOp_alloc ho' rfl rfl (zero_frac w) ⟨_, rfl, (Below.refl _ _).alloc (Nat.le_refl _) _, h18 w hb⟩
 · intro val w hb hrows
   have q18 : R18 (val 18) w := hrows 18 (by omega)
   have hF := hK (val 18) w hb q18
   subst hl
   simp only [List.take_succ_cons, List.take_zero, putAll, Nat.zero_add, Nat.reduceAdd, show val 0 = _ from hrows 0 (by omega), show val 1 = _ from hrows 1 (by omega), show val 2 = _ from hrows 2 (by omega), show val 3 = _ from hrows 3 (by omega), show val 4 = _ from hrows 4 (by omega), show val 5 = _ from hrows 5 (by omega), show val 6 = _ from hrows 6 (by omega), show val 7 = _ from hrows 7 (by omega), show val 8 = _ from hrows 8 (by omega), show val 9 = _ from hrows 9 (by omega), show val 10 = _ from hrows 10 (by omega), show val 11 = _ from hrows 11 (by omega), show val 12 = _ from hrows 12 (by omega), show val 13 = _ from hrows 13 (by omega), show val 14 = _ from hrows 14 (by omega), show val 15 = _ from hrows 15 (by omega), show val 16 = _ from hrows 16 (by omega), show val 17 = _ from hrows 17 (by omega)]
   exact hF
end Go.Proofs.Ytcdfnlgimbecgaa
