/-
  strength: the regions of beyond and Over that draw their order. (Printed by gen_ov.py.)
-/
import Derived.Test.YtcdfnlgimbecgaaMt22
namespace Go.Proofs.Ytcdfnlgimbecgaa
open Go.RowKit
theorem cf94 (w : World) (args : Array Value) : (callFunc 94 args).run Try.prog w = .ok (.enter 94 args) w := by
 go_simp
theorem cf60 (w : World) (args : Array Value) : (callFunc 60 args).run Try.prog w = .ok (.enter 60 args) w := by
 go_simp
set_option maxRecDepth 100000 in
set_option maxHeartbeats 4000000 in
theorem region_beyond {id : Nat} {Q : Exit → Act → World → Prop} {a0 : Act} {w0 : World} {l : List Oper} {g2 : Nat} {n r1 r2 : Int} {fb fo : FracV}
 {t0 t1 t2 t3 t4 t5 t6 t7 t8 : TypeId} {x0 x1 x2 x3 x4 x5 x6 x7 x8 : String} {e0 e1 e2 e3 e4 e5 e6 e7 e8 : Array Edge}
 (hl : l = [⟨some 9, .load 37 (.tmp 2), t0, x0, e0, none⟩, ⟨some 10, .move (.tmp 1), t1, x1, e1, none⟩, ⟨some 11, .call { callee := .value (.func 13), args := #[.tmp 10], argTypes := #[3] }, t2, x2, e2, none⟩, ⟨some 12, .call { callee := .value (.func 94), args := #[.tmp 9, .tmp 11], argTypes := #[37, 37] }, t3, x3, e3, none⟩, ⟨some 8, .move (.tmp 12), t4, x4, e4, none⟩, ⟨some 13, .extract (.tmp 8) 0, t5, x5, e5, none⟩, ⟨some 14, .extract (.tmp 8) 1, t6, x6, e6, none⟩, ⟨some 5, .assign (.tmp 13), t7, x7, e7, none⟩, ⟨some 6, .assign (.tmp 14), t8, x8, e8, none⟩])
 (hO : orderB l 9 = true) (hd : dstsB l 9 a0.tmps.size = true) (hpre : preB l.toArray [(2, [1]), (3, [0, 2]), (4, [3]), (5, [4]), (6, [4]), (7, [5]), (8, [6])] = true)
  (k1 : a0.tmps[1]? = some (Value.int .i64 n)) (k2 : a0.tmps[2]? = some (Value.pointer (some ⟨g2, 0, none⟩)))
 (h0 : ∀ w, From w0 w → (loadVar 37 ⟨g2, 0, none⟩).run Try.prog w = .ok fb.val w)
 (h2 : ∀ w , From w0 w → Calls Try.prog 13 #[Value.int .i64 n] w fun e w' => e = .returned (fo.val) ∧ From w w')
 (h3 : ∀ w , From w0 w → Calls Try.prog 94 #[fb.val, fo.val] w fun e w' => e = .returned (Value.tuple #[.int .i64 r1, .int .i64 r2]) ∧ From w w')
 (hK : ∀  w, From w0 w → wpList Try.prog l.toArray Q (l.drop 9) (((((((((a0.put (some 9) (fb.val)).put (some 10) (Value.int .i64 n)).put (some 11) (fo.val)).put (some 12) (Value.tuple #[.int .i64 r1, .int .i64 r2])).put (some 8) (Value.tuple #[.int .i64 r1, .int .i64 r2])).put (some 13) (Value.int .i64 r1)).put (some 14) (Value.int .i64 r2)).put (some 5) (Value.int .i64 r1)).put (some 6) (Value.int .i64 r2)) w) :
 (Code.region id l.toArray true).wp Try.prog Q a0 w0 := by
 have hlen : l.length = 9 := by rw [hl]; rfl
 have hpz := List.all_eq_true.1 hpre
 refine wp_region_keep 9 (fun i v w => match i with
  | 0 => v = (fb.val)
  | 1 => v = (Value.int .i64 n)
  | 2 => v = (fo.val)
  | 3 => v = (Value.tuple #[.int .i64 r1, .int .i64 r2])
  | 4 => v = (Value.tuple #[.int .i64 r1, .int .i64 r2])
  | 5 => v = (Value.int .i64 r1)
  | 6 => v = (Value.int .i64 r2)
  | 7 => v = (Value.int .i64 r1)
  | 8 => v = (Value.int .i64 r2)
  | _ => True) ?_ (by kernel_rfl) hO (by omega) hd ?_ ?_
 · exact fun _ _ _ _ h _ => h
 · intro i o hi ho a w hb hval hold
   have ho' : l.toArray[i]? = some o := by simpa using ho
   have hedge : ∀ j, (∃ js, (i, js) ∈ ([(2, [1]), (3, [0, 2]), (4, [3]), (5, [4]), (6, [4]), (7, [5]), (8, [6])] : List (Nat × List Nat)) ∧ j ∈ js) → (o.after.any fun e => Region.binds .any e && e.on == j) = true := fun j ⟨_, hm, hj⟩ => by
    have h1 := List.all_eq_true.1 (hpz _ hm) j hj
    rw [ho'] at h1
    simpa using h1
   have hcase : i = 0 ∨ i = 1 ∨ i = 2 ∨ i = 3 ∨ i = 4 ∨ i = 5 ∨ i = 6 ∨ i = 7 ∨ i = 8 := by omega
   rcases hcase with rfl | rfl | rfl | rfl | rfl | rfl | rfl | rfl | rfl
   all_goals (rw [hl] at ho; injection ho with ho; subst ho)
   · have b2 := eval_get ((hold 2 (by rw [hl]; rfl)).trans k2)
     exact wpOp_load ho' rfl rfl b2 (h0 w hb) ⟨_, rfl, Below.refl _ _, rfl⟩
   · have b1 := eval_get ((hold 1 (by rw [hl]; rfl)).trans k1)
     exact wpOp_value ho' rfl (w' := w) (by go_simp) ⟨_, rfl, Below.refl _ _, rfl⟩
   · obtain ⟨_, hy1, rfl⟩ := hval 1 _ 10 (by omega) (by rw [hl]; rfl) rfl (hedge 1 (by simp))
     have b10 := eval_get hy1
     refine wpOp_call ho' rfl rfl (args := #[Value.int .i64 n]) (by simp [b10]) (cf13 _ _) ((h2 w  hb ).mono ?_)
     rintro e w' ⟨rfl, hb2⟩
     exact ⟨_, rfl, _, rfl, hb2, rfl⟩
   · obtain ⟨_, hy0, rfl⟩ := hval 0 _ 9 (by omega) (by rw [hl]; rfl) rfl (hedge 0 (by simp))
     have b9 := eval_get hy0
     obtain ⟨_, hy2, rfl⟩ := hval 2 _ 11 (by omega) (by rw [hl]; rfl) rfl (hedge 2 (by simp))
     have b11 := eval_get hy2
     refine wpOp_call ho' rfl rfl (args := #[fb.val, fo.val]) (by simp [b9, b11]) (cf94 _ _) ((h3 w  hb ).mono ?_)
     rintro e w' ⟨rfl, hb2⟩
     exact ⟨_, rfl, _, rfl, hb2, rfl⟩
   · obtain ⟨_, hy3, rfl⟩ := hval 3 _ 12 (by omega) (by rw [hl]; rfl) rfl (hedge 3 (by simp))
     have b12 := eval_get hy3
     exact wpOp_value ho' rfl (w' := w) (by go_simp) ⟨_, rfl, Below.refl _ _, rfl⟩
   · obtain ⟨_, hy4, rfl⟩ := hval 4 _ 8 (by omega) (by rw [hl]; rfl) rfl (hedge 4 (by simp))
     have b8 := eval_get hy4
     exact wpOp_value ho' rfl (w' := w) (by go_simp) ⟨_, rfl, Below.refl _ _, rfl⟩
   · obtain ⟨_, hy4, rfl⟩ := hval 4 _ 8 (by omega) (by rw [hl]; rfl) rfl (hedge 4 (by simp))
     have b8 := eval_get hy4
     exact wpOp_value ho' rfl (w' := w) (by go_simp) ⟨_, rfl, Below.refl _ _, rfl⟩
   · obtain ⟨_, hy5, rfl⟩ := hval 5 _ 13 (by omega) (by rw [hl]; rfl) rfl (hedge 5 (by simp))
     have b13 := eval_get hy5
     exact wpOp_value ho' rfl (w' := w) (by go_simp) ⟨_, rfl, Below.refl _ _, rfl⟩
   · obtain ⟨_, hy6, rfl⟩ := hval 6 _ 14 (by omega) (by rw [hl]; rfl) rfl (hedge 6 (by simp))
     have b14 := eval_get hy6
     exact wpOp_value ho' rfl (w' := w) (by go_simp) ⟨_, rfl, Below.refl _ _, rfl⟩
 · intro val w hb hrows
   have hF := hK  w hb
   subst hl
   simp only [List.take_succ_cons, List.take_zero, putAll, Nat.zero_add, Nat.reduceAdd, show val 0 = _ from hrows 0 (by omega), show val 1 = _ from hrows 1 (by omega), show val 2 = _ from hrows 2 (by omega), show val 3 = _ from hrows 3 (by omega), show val 4 = _ from hrows 4 (by omega), show val 5 = _ from hrows 5 (by omega), show val 6 = _ from hrows 6 (by omega), show val 7 = _ from hrows 7 (by omega), show val 8 = _ from hrows 8 (by omega)]
   exact hF
set_option maxRecDepth 100000 in
set_option maxHeartbeats 4000000 in
theorem region_over_t {id : Nat} {Q : Exit → Act → World → Prop} {a0 : Act} {w0 : World} {l : List Oper} {g8 gp offp np cp kk : Nat} {n3 : Int} {fs : FracV} (hk : (kk : Int) < (np : Int))
 {t0 t1 t2 t3 t4 t5 t6 t7 t8 t9 t10 t11 t12 t13 t14 t15 t16 t17 : TypeId} {x0 x1 x2 x3 x4 x5 x6 x7 x8 x9 x10 x11 x12 x13 x14 x15 x16 x17 : String} {e0 e1 e2 e3 e4 e5 e6 e7 e8 e9 e10 e11 e12 e13 e14 e15 e16 e17 : Array Edge}
 (hl : l = [⟨some 30, .fieldAddr 40 (.tmp 8) 0, t0, x0, e0, none⟩, ⟨some 31, .load 37 (.tmp 30), t1, x1, e1, none⟩, ⟨some 32, .move (.tmp 0), t2, x2, e2, none⟩, ⟨some 33, .move (.tmp 7), t3, x3, e3, none⟩, ⟨some 34, .indexAddr 22 (.tmp 32) (.tmp 33), t4, x4, e4, none⟩, ⟨some 35, .fieldAddr 44 (.tmp 34) 3, t5, x5, e5, none⟩, ⟨some 36, .load 3 (.tmp 35), t6, x6, e6, none⟩, ⟨some 37, .call { callee := .value (.func 60), args := #[.tmp 31, .tmp 36], argTypes := #[37, 3] }, t7, x7, e7, none⟩, ⟨some 38, .move (.tmp 37), t8, x8, e8, none⟩, ⟨some 39, .fieldAddr 40 (.tmp 8) 1, t9, x9, e9, some (8, false)⟩, ⟨some 40, .load 37 (.tmp 39), t10, x10, e10, some (8, false)⟩, ⟨some 41, .move (.tmp 0), t11, x11, e11, some (8, false)⟩, ⟨some 42, .move (.tmp 7), t12, x12, e12, some (8, false)⟩, ⟨some 43, .indexAddr 22 (.tmp 41) (.tmp 42), t13, x13, e13, some (8, false)⟩, ⟨some 44, .fieldAddr 44 (.tmp 43) 4, t14, x14, e14, some (8, false)⟩, ⟨some 45, .load 3 (.tmp 44), t15, x15, e15, some (8, false)⟩, ⟨some 46, .call { callee := .value (.func 60), args := #[.tmp 40, .tmp 45], argTypes := #[37, 3] }, t16, x16, e16, some (8, false)⟩, ⟨some 47, .pick (.tmp 38) (.const (.bool true)) (.tmp 46), t17, x17, e17, none⟩])
 (hO : orderB l 18 = true) (hd : dstsB l 18 a0.tmps.size = true) (hpre : preB l.toArray [(1, [0]), (4, [2, 3]), (5, [4]), (6, [5]), (7, [1, 6]), (8, [7]), (9, [8]), (10, [8]), (11, [8]), (12, [8]), (13, [8]), (14, [8]), (15, [8]), (16, [8]), (17, [8, 16])] = true)
  (k0 : a0.tmps[0]? = some (Value.slice (some ⟨gp, offp, none⟩) np cp)) (k7 : a0.tmps[7]? = some (Value.int .i64 (kk : Int))) (k8 : a0.tmps[8]? = some (Value.pointer (some ⟨g8, 0, none⟩)))
 (h1 : ∀ w, From w0 w → (loadVar 37 ⟨g8, 0, none⟩).run Try.prog w = .ok fs.val w)
 (h6 : ∀ w, From w0 w → (loadVar 3 ⟨gp, offp + kk * 5 + 3, none⟩).run Try.prog w = .ok (Value.int .i64 n3) w)
 (h7 : ∀ w , From w0 w → Calls Try.prog 60 #[fs.val, (Value.int .i64 n3)] w fun e w' => e = .returned (Value.bool true) ∧ From w w')
 (hK : ∀  w, From w0 w → wpList Try.prog l.toArray Q (l.drop 18) ((((((((((((((((((a0.put (some 30) (Value.pointer (some ⟨g8, 0, none⟩))).put (some 31) (fs.val)).put (some 32) (Value.slice (some ⟨gp, offp, none⟩) np cp)).put (some 33) (Value.int .i64 (kk : Int))).put (some 34) (Value.pointer (some ⟨gp, offp + kk * 5, none⟩))).put (some 35) (Value.pointer (some ⟨gp, offp + kk * 5 + 3, none⟩))).put (some 36) ((Value.int .i64 n3))).put (some 37) (Value.bool true)).put (some 38) (Value.bool true)).put (some 39) (undef)).put (some 40) (undef)).put (some 41) (undef)).put (some 42) (undef)).put (some 43) (undef)).put (some 44) (undef)).put (some 45) (undef)).put (some 46) (undef)).put (some 47) (Value.bool true)) w) :
 (Code.region id l.toArray true).wp Try.prog Q a0 w0 := by
 have hlen : l.length = 18 := by rw [hl]; rfl
 have hpz := List.all_eq_true.1 hpre
 refine wp_region_keep 18 (fun i v w => match i with
  | 0 => v = (Value.pointer (some ⟨g8, 0, none⟩))
  | 1 => v = (fs.val)
  | 2 => v = (Value.slice (some ⟨gp, offp, none⟩) np cp)
  | 3 => v = (Value.int .i64 (kk : Int))
  | 4 => v = (Value.pointer (some ⟨gp, offp + kk * 5, none⟩))
  | 5 => v = (Value.pointer (some ⟨gp, offp + kk * 5 + 3, none⟩))
  | 6 => v = ((Value.int .i64 n3))
  | 7 => v = (Value.bool true)
  | 8 => v = (Value.bool true)
  | 9 => v = (undef)
  | 10 => v = (undef)
  | 11 => v = (undef)
  | 12 => v = (undef)
  | 13 => v = (undef)
  | 14 => v = (undef)
  | 15 => v = (undef)
  | 16 => v = (undef)
  | 17 => v = (Value.bool true)
  | _ => True) ?_ (by kernel_rfl) hO (by omega) hd ?_ ?_
 · exact fun _ _ _ _ h _ => h
 · intro i o hi ho a w hb hval hold
   have ho' : l.toArray[i]? = some o := by simpa using ho
   have hedge : ∀ j, (∃ js, (i, js) ∈ ([(1, [0]), (4, [2, 3]), (5, [4]), (6, [5]), (7, [1, 6]), (8, [7]), (9, [8]), (10, [8]), (11, [8]), (12, [8]), (13, [8]), (14, [8]), (15, [8]), (16, [8]), (17, [8, 16])] : List (Nat × List Nat)) ∧ j ∈ js) → (o.after.any fun e => Region.binds .any e && e.on == j) = true := fun j ⟨_, hm, hj⟩ => by
    have h1 := List.all_eq_true.1 (hpz _ hm) j hj
    rw [ho'] at h1
    simpa using h1
   have hcase : i = 0 ∨ i = 1 ∨ i = 2 ∨ i = 3 ∨ i = 4 ∨ i = 5 ∨ i = 6 ∨ i = 7 ∨ i = 8 ∨ i = 9 ∨ i = 10 ∨ i = 11 ∨ i = 12 ∨ i = 13 ∨ i = 14 ∨ i = 15 ∨ i = 16 ∨ i = 17 := by omega
   rcases hcase with rfl | rfl | rfl | rfl | rfl | rfl | rfl | rfl | rfl | rfl | rfl | rfl | rfl | rfl | rfl | rfl | rfl | rfl
   all_goals (rw [hl] at ho; injection ho with ho; subst ho)
   · have b8 := eval_get ((hold 8 (by rw [hl]; rfl)).trans k8)
     exact wpOp_value ho' rfl (w' := w) (by go_simp) ⟨_, rfl, Below.refl _ _, rfl⟩
   · obtain ⟨_, hy0, rfl⟩ := hval 0 _ 30 (by omega) (by rw [hl]; rfl) rfl (hedge 0 (by simp))
     have b30 := eval_get hy0
     exact wpOp_load ho' rfl rfl b30 (h1 w hb) ⟨_, rfl, Below.refl _ _, rfl⟩
   · have b0 := eval_get ((hold 0 (by rw [hl]; rfl)).trans k0)
     exact wpOp_value ho' rfl (w' := w) (by go_simp) ⟨_, rfl, Below.refl _ _, rfl⟩
   · have b7 := eval_get ((hold 7 (by rw [hl]; rfl)).trans k7)
     exact wpOp_value ho' rfl (w' := w) (by go_simp) ⟨_, rfl, Below.refl _ _, rfl⟩
   · obtain ⟨_, hy2, rfl⟩ := hval 2 _ 32 (by omega) (by rw [hl]; rfl) rfl (hedge 2 (by simp))
     have b32 := eval_get hy2
     obtain ⟨_, hy3, rfl⟩ := hval 3 _ 33 (by omega) (by rw [hl]; rfl) rfl (hedge 3 (by simp))
     have b33 := eval_get hy3
     exact wpOp_value ho' rfl (w' := w) (by go_simp) ⟨_, rfl, Below.refl _ _, rfl⟩
   · obtain ⟨_, hy4, rfl⟩ := hval 4 _ 34 (by omega) (by rw [hl]; rfl) rfl (hedge 4 (by simp))
     have b34 := eval_get hy4
     exact wpOp_value ho' rfl (w' := w) (by go_simp) ⟨_, rfl, Below.refl _ _, rfl⟩
   · obtain ⟨_, hy5, rfl⟩ := hval 5 _ 35 (by omega) (by rw [hl]; rfl) rfl (hedge 5 (by simp))
     have b35 := eval_get hy5
     exact wpOp_load ho' rfl rfl b35 (h6 w hb) ⟨_, rfl, Below.refl _ _, rfl⟩
   · obtain ⟨_, hy1, rfl⟩ := hval 1 _ 31 (by omega) (by rw [hl]; rfl) rfl (hedge 1 (by simp))
     have b31 := eval_get hy1
     obtain ⟨_, hy6, rfl⟩ := hval 6 _ 36 (by omega) (by rw [hl]; rfl) rfl (hedge 6 (by simp))
     have b36 := eval_get hy6
     refine wpOp_call ho' rfl rfl (args := #[fs.val, (Value.int .i64 n3)]) (by simp [b31, b36]) (cf60 _ _) ((h7 w  hb ).mono ?_)
     rintro e w' ⟨rfl, hb2⟩
     exact ⟨_, rfl, _, rfl, hb2, rfl⟩
   · obtain ⟨_, hy7, rfl⟩ := hval 7 _ 37 (by omega) (by rw [hl]; rfl) rfl (hedge 7 (by simp))
     have b37 := eval_get hy7
     exact wpOp_value ho' rfl (w' := w) (by go_simp) ⟨_, rfl, Below.refl _ _, rfl⟩
   · obtain ⟨_, hy8, rfl⟩ := hval 8 _ 38 (by omega) (by rw [hl]; rfl) rfl (hedge 8 (by simp))
     have b38 := eval_get hy8
     have hwt := wanted_some (ops := l.toArray) (a := a) (o := ⟨some 39, .fieldAddr 40 (.tmp 8) 1, t9, x9, e9, some (8, false)⟩) (r := false) rfl (show l.toArray[8]? = some _ by rw [hl]; rfl) rfl hy8 rfl
     exact wpOp_not ho' hwt ⟨_, rfl, Below.refl _ _, rfl⟩
   · obtain ⟨_, hy8, rfl⟩ := hval 8 _ 38 (by omega) (by rw [hl]; rfl) rfl (hedge 8 (by simp))
     have b38 := eval_get hy8
     have hwt := wanted_some (ops := l.toArray) (a := a) (o := ⟨some 40, .load 37 (.tmp 39), t10, x10, e10, some (8, false)⟩) (r := false) rfl (show l.toArray[8]? = some _ by rw [hl]; rfl) rfl hy8 rfl
     exact wpOp_not ho' hwt ⟨_, rfl, Below.refl _ _, rfl⟩
   · obtain ⟨_, hy8, rfl⟩ := hval 8 _ 38 (by omega) (by rw [hl]; rfl) rfl (hedge 8 (by simp))
     have b38 := eval_get hy8
     have hwt := wanted_some (ops := l.toArray) (a := a) (o := ⟨some 41, .move (.tmp 0), t11, x11, e11, some (8, false)⟩) (r := false) rfl (show l.toArray[8]? = some _ by rw [hl]; rfl) rfl hy8 rfl
     exact wpOp_not ho' hwt ⟨_, rfl, Below.refl _ _, rfl⟩
   · obtain ⟨_, hy8, rfl⟩ := hval 8 _ 38 (by omega) (by rw [hl]; rfl) rfl (hedge 8 (by simp))
     have b38 := eval_get hy8
     have hwt := wanted_some (ops := l.toArray) (a := a) (o := ⟨some 42, .move (.tmp 7), t12, x12, e12, some (8, false)⟩) (r := false) rfl (show l.toArray[8]? = some _ by rw [hl]; rfl) rfl hy8 rfl
     exact wpOp_not ho' hwt ⟨_, rfl, Below.refl _ _, rfl⟩
   · obtain ⟨_, hy8, rfl⟩ := hval 8 _ 38 (by omega) (by rw [hl]; rfl) rfl (hedge 8 (by simp))
     have b38 := eval_get hy8
     have hwt := wanted_some (ops := l.toArray) (a := a) (o := ⟨some 43, .indexAddr 22 (.tmp 41) (.tmp 42), t13, x13, e13, some (8, false)⟩) (r := false) rfl (show l.toArray[8]? = some _ by rw [hl]; rfl) rfl hy8 rfl
     exact wpOp_not ho' hwt ⟨_, rfl, Below.refl _ _, rfl⟩
   · obtain ⟨_, hy8, rfl⟩ := hval 8 _ 38 (by omega) (by rw [hl]; rfl) rfl (hedge 8 (by simp))
     have b38 := eval_get hy8
     have hwt := wanted_some (ops := l.toArray) (a := a) (o := ⟨some 44, .fieldAddr 44 (.tmp 43) 4, t14, x14, e14, some (8, false)⟩) (r := false) rfl (show l.toArray[8]? = some _ by rw [hl]; rfl) rfl hy8 rfl
     exact wpOp_not ho' hwt ⟨_, rfl, Below.refl _ _, rfl⟩
   · obtain ⟨_, hy8, rfl⟩ := hval 8 _ 38 (by omega) (by rw [hl]; rfl) rfl (hedge 8 (by simp))
     have b38 := eval_get hy8
     have hwt := wanted_some (ops := l.toArray) (a := a) (o := ⟨some 45, .load 3 (.tmp 44), t15, x15, e15, some (8, false)⟩) (r := false) rfl (show l.toArray[8]? = some _ by rw [hl]; rfl) rfl hy8 rfl
     exact wpOp_not ho' hwt ⟨_, rfl, Below.refl _ _, rfl⟩
   · obtain ⟨_, hy8, rfl⟩ := hval 8 _ 38 (by omega) (by rw [hl]; rfl) rfl (hedge 8 (by simp))
     have b38 := eval_get hy8
     have hwt := wanted_some (ops := l.toArray) (a := a) (o := ⟨some 46, .call { callee := .value (.func 60), args := #[.tmp 40, .tmp 45], argTypes := #[37, 3] }, t16, x16, e16, some (8, false)⟩) (r := false) rfl (show l.toArray[8]? = some _ by rw [hl]; rfl) rfl hy8 rfl
     exact wpOp_not ho' hwt ⟨_, rfl, Below.refl _ _, rfl⟩
   · obtain ⟨_, hy8, rfl⟩ := hval 8 _ 38 (by omega) (by rw [hl]; rfl) rfl (hedge 8 (by simp))
     have b38 := eval_get hy8
     obtain ⟨y16, hy16, hz16⟩ := hval 16 _ 46 (by omega) (by rw [hl]; rfl) rfl (hedge 16 (by simp))
     rw [show y16 = (undef) from hz16] at hy16
     have b46 := eval_get hy16
     exact wpOp_value ho' rfl (w' := w) (by go_simp) ⟨_, rfl, Below.refl _ _, rfl⟩
 · intro val w hb hrows
   have hF := hK  w hb
   subst hl
   simp only [List.take_succ_cons, List.take_zero, putAll, Nat.zero_add, Nat.reduceAdd, show val 0 = _ from hrows 0 (by omega), show val 1 = _ from hrows 1 (by omega), show val 2 = _ from hrows 2 (by omega), show val 3 = _ from hrows 3 (by omega), show val 4 = _ from hrows 4 (by omega), show val 5 = _ from hrows 5 (by omega), show val 6 = _ from hrows 6 (by omega), show val 7 = _ from hrows 7 (by omega), show val 8 = _ from hrows 8 (by omega), show val 9 = _ from hrows 9 (by omega), show val 10 = _ from hrows 10 (by omega), show val 11 = _ from hrows 11 (by omega), show val 12 = _ from hrows 12 (by omega), show val 13 = _ from hrows 13 (by omega), show val 14 = _ from hrows 14 (by omega), show val 15 = _ from hrows 15 (by omega), show val 16 = _ from hrows 16 (by omega), show val 17 = _ from hrows 17 (by omega)]
   exact hF
set_option maxRecDepth 100000 in
set_option maxHeartbeats 4000000 in
theorem region_over_f {id : Nat} {Q : Exit → Act → World → Prop} {a0 : Act} {w0 : World} {l : List Oper} {g8 gp offp np cp kk : Nat} {n3 n4 : Int} {fs fb : FracV} {b2 : Bool} (hk : (kk : Int) < (np : Int))
 {t0 t1 t2 t3 t4 t5 t6 t7 t8 t9 t10 t11 t12 t13 t14 t15 t16 t17 : TypeId} {x0 x1 x2 x3 x4 x5 x6 x7 x8 x9 x10 x11 x12 x13 x14 x15 x16 x17 : String} {e0 e1 e2 e3 e4 e5 e6 e7 e8 e9 e10 e11 e12 e13 e14 e15 e16 e17 : Array Edge}
 (hl : l = [⟨some 30, .fieldAddr 40 (.tmp 8) 0, t0, x0, e0, none⟩, ⟨some 31, .load 37 (.tmp 30), t1, x1, e1, none⟩, ⟨some 32, .move (.tmp 0), t2, x2, e2, none⟩, ⟨some 33, .move (.tmp 7), t3, x3, e3, none⟩, ⟨some 34, .indexAddr 22 (.tmp 32) (.tmp 33), t4, x4, e4, none⟩, ⟨some 35, .fieldAddr 44 (.tmp 34) 3, t5, x5, e5, none⟩, ⟨some 36, .load 3 (.tmp 35), t6, x6, e6, none⟩, ⟨some 37, .call { callee := .value (.func 60), args := #[.tmp 31, .tmp 36], argTypes := #[37, 3] }, t7, x7, e7, none⟩, ⟨some 38, .move (.tmp 37), t8, x8, e8, none⟩, ⟨some 39, .fieldAddr 40 (.tmp 8) 1, t9, x9, e9, some (8, false)⟩, ⟨some 40, .load 37 (.tmp 39), t10, x10, e10, some (8, false)⟩, ⟨some 41, .move (.tmp 0), t11, x11, e11, some (8, false)⟩, ⟨some 42, .move (.tmp 7), t12, x12, e12, some (8, false)⟩, ⟨some 43, .indexAddr 22 (.tmp 41) (.tmp 42), t13, x13, e13, some (8, false)⟩, ⟨some 44, .fieldAddr 44 (.tmp 43) 4, t14, x14, e14, some (8, false)⟩, ⟨some 45, .load 3 (.tmp 44), t15, x15, e15, some (8, false)⟩, ⟨some 46, .call { callee := .value (.func 60), args := #[.tmp 40, .tmp 45], argTypes := #[37, 3] }, t16, x16, e16, some (8, false)⟩, ⟨some 47, .pick (.tmp 38) (.const (.bool true)) (.tmp 46), t17, x17, e17, none⟩])
 (hO : orderB l 18 = true) (hd : dstsB l 18 a0.tmps.size = true) (hpre : preB l.toArray [(1, [0]), (4, [2, 3]), (5, [4]), (6, [5]), (7, [1, 6]), (8, [7]), (9, [8]), (10, [9, 8]), (11, [8]), (12, [8]), (13, [11, 12, 8]), (14, [13, 8]), (15, [14, 8]), (16, [10, 15, 8]), (17, [8, 16])] = true)
  (k0 : a0.tmps[0]? = some (Value.slice (some ⟨gp, offp, none⟩) np cp)) (k7 : a0.tmps[7]? = some (Value.int .i64 (kk : Int))) (k8 : a0.tmps[8]? = some (Value.pointer (some ⟨g8, 0, none⟩)))
 (h1 : ∀ w, From w0 w → (loadVar 37 ⟨g8, 0, none⟩).run Try.prog w = .ok fs.val w)
 (h6 : ∀ w, From w0 w → (loadVar 3 ⟨gp, offp + kk * 5 + 3, none⟩).run Try.prog w = .ok (Value.int .i64 n3) w)
 (h7 : ∀ w , From w0 w → Calls Try.prog 60 #[fs.val, (Value.int .i64 n3)] w fun e w' => e = .returned (Value.bool false) ∧ From w w')
 (h10 : ∀ w, From w0 w → (loadVar 37 ⟨g8, 17, none⟩).run Try.prog w = .ok fb.val w)
 (h15 : ∀ w, From w0 w → (loadVar 3 ⟨gp, offp + kk * 5 + 4, none⟩).run Try.prog w = .ok (Value.int .i64 n4) w)
 (h16 : ∀ w , From w0 w → Calls Try.prog 60 #[fb.val, (Value.int .i64 n4)] w fun e w' => e = .returned (Value.bool b2) ∧ From w w')
 (hK : ∀  w, From w0 w → wpList Try.prog l.toArray Q (l.drop 18) ((((((((((((((((((a0.put (some 30) (Value.pointer (some ⟨g8, 0, none⟩))).put (some 31) (fs.val)).put (some 32) (Value.slice (some ⟨gp, offp, none⟩) np cp)).put (some 33) (Value.int .i64 (kk : Int))).put (some 34) (Value.pointer (some ⟨gp, offp + kk * 5, none⟩))).put (some 35) (Value.pointer (some ⟨gp, offp + kk * 5 + 3, none⟩))).put (some 36) ((Value.int .i64 n3))).put (some 37) (Value.bool false)).put (some 38) (Value.bool false)).put (some 39) (Value.pointer (some ⟨g8, 17, none⟩))).put (some 40) (fb.val)).put (some 41) (Value.slice (some ⟨gp, offp, none⟩) np cp)).put (some 42) (Value.int .i64 (kk : Int))).put (some 43) (Value.pointer (some ⟨gp, offp + kk * 5, none⟩))).put (some 44) (Value.pointer (some ⟨gp, offp + kk * 5 + 4, none⟩))).put (some 45) ((Value.int .i64 n4))).put (some 46) (Value.bool b2)).put (some 47) (Value.bool b2)) w) :
 (Code.region id l.toArray true).wp Try.prog Q a0 w0 := by
 have hlen : l.length = 18 := by rw [hl]; rfl
 have hpz := List.all_eq_true.1 hpre
 refine wp_region_keep 18 (fun i v w => match i with
  | 0 => v = (Value.pointer (some ⟨g8, 0, none⟩))
  | 1 => v = (fs.val)
  | 2 => v = (Value.slice (some ⟨gp, offp, none⟩) np cp)
  | 3 => v = (Value.int .i64 (kk : Int))
  | 4 => v = (Value.pointer (some ⟨gp, offp + kk * 5, none⟩))
  | 5 => v = (Value.pointer (some ⟨gp, offp + kk * 5 + 3, none⟩))
  | 6 => v = ((Value.int .i64 n3))
  | 7 => v = (Value.bool false)
  | 8 => v = (Value.bool false)
  | 9 => v = (Value.pointer (some ⟨g8, 17, none⟩))
  | 10 => v = (fb.val)
  | 11 => v = (Value.slice (some ⟨gp, offp, none⟩) np cp)
  | 12 => v = (Value.int .i64 (kk : Int))
  | 13 => v = (Value.pointer (some ⟨gp, offp + kk * 5, none⟩))
  | 14 => v = (Value.pointer (some ⟨gp, offp + kk * 5 + 4, none⟩))
  | 15 => v = ((Value.int .i64 n4))
  | 16 => v = (Value.bool b2)
  | 17 => v = (Value.bool b2)
  | _ => True) ?_ (by kernel_rfl) hO (by omega) hd ?_ ?_
 · exact fun _ _ _ _ h _ => h
 · intro i o hi ho a w hb hval hold
   have ho' : l.toArray[i]? = some o := by simpa using ho
   have hedge : ∀ j, (∃ js, (i, js) ∈ ([(1, [0]), (4, [2, 3]), (5, [4]), (6, [5]), (7, [1, 6]), (8, [7]), (9, [8]), (10, [9, 8]), (11, [8]), (12, [8]), (13, [11, 12, 8]), (14, [13, 8]), (15, [14, 8]), (16, [10, 15, 8]), (17, [8, 16])] : List (Nat × List Nat)) ∧ j ∈ js) → (o.after.any fun e => Region.binds .any e && e.on == j) = true := fun j ⟨_, hm, hj⟩ => by
    have h1 := List.all_eq_true.1 (hpz _ hm) j hj
    rw [ho'] at h1
    simpa using h1
   have hcase : i = 0 ∨ i = 1 ∨ i = 2 ∨ i = 3 ∨ i = 4 ∨ i = 5 ∨ i = 6 ∨ i = 7 ∨ i = 8 ∨ i = 9 ∨ i = 10 ∨ i = 11 ∨ i = 12 ∨ i = 13 ∨ i = 14 ∨ i = 15 ∨ i = 16 ∨ i = 17 := by omega
   rcases hcase with rfl | rfl | rfl | rfl | rfl | rfl | rfl | rfl | rfl | rfl | rfl | rfl | rfl | rfl | rfl | rfl | rfl | rfl
   all_goals (rw [hl] at ho; injection ho with ho; subst ho)
   · have b8 := eval_get ((hold 8 (by rw [hl]; rfl)).trans k8)
     exact wpOp_value ho' rfl (w' := w) (by go_simp) ⟨_, rfl, Below.refl _ _, rfl⟩
   · obtain ⟨_, hy0, rfl⟩ := hval 0 _ 30 (by omega) (by rw [hl]; rfl) rfl (hedge 0 (by simp))
     have b30 := eval_get hy0
     exact wpOp_load ho' rfl rfl b30 (h1 w hb) ⟨_, rfl, Below.refl _ _, rfl⟩
   · have b0 := eval_get ((hold 0 (by rw [hl]; rfl)).trans k0)
     exact wpOp_value ho' rfl (w' := w) (by go_simp) ⟨_, rfl, Below.refl _ _, rfl⟩
   · have b7 := eval_get ((hold 7 (by rw [hl]; rfl)).trans k7)
     exact wpOp_value ho' rfl (w' := w) (by go_simp) ⟨_, rfl, Below.refl _ _, rfl⟩
   · obtain ⟨_, hy2, rfl⟩ := hval 2 _ 32 (by omega) (by rw [hl]; rfl) rfl (hedge 2 (by simp))
     have b32 := eval_get hy2
     obtain ⟨_, hy3, rfl⟩ := hval 3 _ 33 (by omega) (by rw [hl]; rfl) rfl (hedge 3 (by simp))
     have b33 := eval_get hy3
     exact wpOp_value ho' rfl (w' := w) (by go_simp) ⟨_, rfl, Below.refl _ _, rfl⟩
   · obtain ⟨_, hy4, rfl⟩ := hval 4 _ 34 (by omega) (by rw [hl]; rfl) rfl (hedge 4 (by simp))
     have b34 := eval_get hy4
     exact wpOp_value ho' rfl (w' := w) (by go_simp) ⟨_, rfl, Below.refl _ _, rfl⟩
   · obtain ⟨_, hy5, rfl⟩ := hval 5 _ 35 (by omega) (by rw [hl]; rfl) rfl (hedge 5 (by simp))
     have b35 := eval_get hy5
     exact wpOp_load ho' rfl rfl b35 (h6 w hb) ⟨_, rfl, Below.refl _ _, rfl⟩
   · obtain ⟨_, hy1, rfl⟩ := hval 1 _ 31 (by omega) (by rw [hl]; rfl) rfl (hedge 1 (by simp))
     have b31 := eval_get hy1
     obtain ⟨_, hy6, rfl⟩ := hval 6 _ 36 (by omega) (by rw [hl]; rfl) rfl (hedge 6 (by simp))
     have b36 := eval_get hy6
     refine wpOp_call ho' rfl rfl (args := #[fs.val, (Value.int .i64 n3)]) (by simp [b31, b36]) (cf60 _ _) ((h7 w  hb ).mono ?_)
     rintro e w' ⟨rfl, hb2⟩
     exact ⟨_, rfl, _, rfl, hb2, rfl⟩
   · obtain ⟨_, hy7, rfl⟩ := hval 7 _ 37 (by omega) (by rw [hl]; rfl) rfl (hedge 7 (by simp))
     have b37 := eval_get hy7
     exact wpOp_value ho' rfl (w' := w) (by go_simp) ⟨_, rfl, Below.refl _ _, rfl⟩
   · have b8 := eval_get ((hold 8 (by rw [hl]; rfl)).trans k8)
     obtain ⟨_, hy8, rfl⟩ := hval 8 _ 38 (by omega) (by rw [hl]; rfl) rfl (hedge 8 (by simp))
     have b38 := eval_get hy8
     have hwt := wanted_some (ops := l.toArray) (a := a) (o := ⟨some 39, .fieldAddr 40 (.tmp 8) 1, t9, x9, e9, some (8, false)⟩) (r := true) rfl (show l.toArray[8]? = some _ by rw [hl]; rfl) rfl hy8 rfl
     exact wpOp_valueW ho' hwt (v := (Value.pointer (some ⟨g8, 17, none⟩))) (w' := w) (by go_simp) ⟨_, rfl, Below.refl _ _, rfl⟩
   · obtain ⟨_, hy9, rfl⟩ := hval 9 _ 39 (by omega) (by rw [hl]; rfl) rfl (hedge 9 (by simp))
     have b39 := eval_get hy9
     obtain ⟨_, hy8, rfl⟩ := hval 8 _ 38 (by omega) (by rw [hl]; rfl) rfl (hedge 8 (by simp))
     have b38 := eval_get hy8
     have hwt := wanted_some (ops := l.toArray) (a := a) (o := ⟨some 40, .load 37 (.tmp 39), t10, x10, e10, some (8, false)⟩) (r := true) rfl (show l.toArray[8]? = some _ by rw [hl]; rfl) rfl hy8 rfl
     exact wpOp_loadW ho' hwt rfl b39 (h10 w hb) ⟨_, rfl, Below.refl _ _, rfl⟩
   · have b0 := eval_get ((hold 0 (by rw [hl]; rfl)).trans k0)
     obtain ⟨_, hy8, rfl⟩ := hval 8 _ 38 (by omega) (by rw [hl]; rfl) rfl (hedge 8 (by simp))
     have b38 := eval_get hy8
     have hwt := wanted_some (ops := l.toArray) (a := a) (o := ⟨some 41, .move (.tmp 0), t11, x11, e11, some (8, false)⟩) (r := true) rfl (show l.toArray[8]? = some _ by rw [hl]; rfl) rfl hy8 rfl
     exact wpOp_valueW ho' hwt (v := (Value.slice (some ⟨gp, offp, none⟩) np cp)) (w' := w) (by go_simp) ⟨_, rfl, Below.refl _ _, rfl⟩
   · have b7 := eval_get ((hold 7 (by rw [hl]; rfl)).trans k7)
     obtain ⟨_, hy8, rfl⟩ := hval 8 _ 38 (by omega) (by rw [hl]; rfl) rfl (hedge 8 (by simp))
     have b38 := eval_get hy8
     have hwt := wanted_some (ops := l.toArray) (a := a) (o := ⟨some 42, .move (.tmp 7), t12, x12, e12, some (8, false)⟩) (r := true) rfl (show l.toArray[8]? = some _ by rw [hl]; rfl) rfl hy8 rfl
     exact wpOp_valueW ho' hwt (v := (Value.int .i64 (kk : Int))) (w' := w) (by go_simp) ⟨_, rfl, Below.refl _ _, rfl⟩
   · obtain ⟨_, hy11, rfl⟩ := hval 11 _ 41 (by omega) (by rw [hl]; rfl) rfl (hedge 11 (by simp))
     have b41 := eval_get hy11
     obtain ⟨_, hy12, rfl⟩ := hval 12 _ 42 (by omega) (by rw [hl]; rfl) rfl (hedge 12 (by simp))
     have b42 := eval_get hy12
     obtain ⟨_, hy8, rfl⟩ := hval 8 _ 38 (by omega) (by rw [hl]; rfl) rfl (hedge 8 (by simp))
     have b38 := eval_get hy8
     have hwt := wanted_some (ops := l.toArray) (a := a) (o := ⟨some 43, .indexAddr 22 (.tmp 41) (.tmp 42), t13, x13, e13, some (8, false)⟩) (r := true) rfl (show l.toArray[8]? = some _ by rw [hl]; rfl) rfl hy8 rfl
     exact wpOp_valueW ho' hwt (v := (Value.pointer (some ⟨gp, offp + kk * 5, none⟩))) (w' := w) (by go_simp) ⟨_, rfl, Below.refl _ _, rfl⟩
   · obtain ⟨_, hy13, rfl⟩ := hval 13 _ 43 (by omega) (by rw [hl]; rfl) rfl (hedge 13 (by simp))
     have b43 := eval_get hy13
     obtain ⟨_, hy8, rfl⟩ := hval 8 _ 38 (by omega) (by rw [hl]; rfl) rfl (hedge 8 (by simp))
     have b38 := eval_get hy8
     have hwt := wanted_some (ops := l.toArray) (a := a) (o := ⟨some 44, .fieldAddr 44 (.tmp 43) 4, t14, x14, e14, some (8, false)⟩) (r := true) rfl (show l.toArray[8]? = some _ by rw [hl]; rfl) rfl hy8 rfl
     exact wpOp_valueW ho' hwt (v := (Value.pointer (some ⟨gp, offp + kk * 5 + 4, none⟩))) (w' := w) (by go_simp) ⟨_, rfl, Below.refl _ _, rfl⟩
   · obtain ⟨_, hy14, rfl⟩ := hval 14 _ 44 (by omega) (by rw [hl]; rfl) rfl (hedge 14 (by simp))
     have b44 := eval_get hy14
     obtain ⟨_, hy8, rfl⟩ := hval 8 _ 38 (by omega) (by rw [hl]; rfl) rfl (hedge 8 (by simp))
     have b38 := eval_get hy8
     have hwt := wanted_some (ops := l.toArray) (a := a) (o := ⟨some 45, .load 3 (.tmp 44), t15, x15, e15, some (8, false)⟩) (r := true) rfl (show l.toArray[8]? = some _ by rw [hl]; rfl) rfl hy8 rfl
     exact wpOp_loadW ho' hwt rfl b44 (h15 w hb) ⟨_, rfl, Below.refl _ _, rfl⟩
   · obtain ⟨_, hy10, rfl⟩ := hval 10 _ 40 (by omega) (by rw [hl]; rfl) rfl (hedge 10 (by simp))
     have b40 := eval_get hy10
     obtain ⟨_, hy15, rfl⟩ := hval 15 _ 45 (by omega) (by rw [hl]; rfl) rfl (hedge 15 (by simp))
     have b45 := eval_get hy15
     obtain ⟨_, hy8, rfl⟩ := hval 8 _ 38 (by omega) (by rw [hl]; rfl) rfl (hedge 8 (by simp))
     have b38 := eval_get hy8
     have hwt := wanted_some (ops := l.toArray) (a := a) (o := ⟨some 46, .call { callee := .value (.func 60), args := #[.tmp 40, .tmp 45], argTypes := #[37, 3] }, t16, x16, e16, some (8, false)⟩) (r := true) rfl (show l.toArray[8]? = some _ by rw [hl]; rfl) rfl hy8 rfl
     refine wpOp_callW ho' hwt rfl (args := #[fb.val, (Value.int .i64 n4)]) (by simp [b40, b45]) (cf60 _ _) ((h16 w  hb ).mono ?_)
     rintro e w' ⟨rfl, hb2⟩
     exact ⟨_, rfl, _, rfl, hb2, rfl⟩
   · obtain ⟨_, hy8, rfl⟩ := hval 8 _ 38 (by omega) (by rw [hl]; rfl) rfl (hedge 8 (by simp))
     have b38 := eval_get hy8
     obtain ⟨_, hy16, rfl⟩ := hval 16 _ 46 (by omega) (by rw [hl]; rfl) rfl (hedge 16 (by simp))
     have b46 := eval_get hy16
     exact wpOp_value ho' rfl (w' := w) (by go_simp) ⟨_, rfl, Below.refl _ _, rfl⟩
 · intro val w hb hrows
   have hF := hK  w hb
   subst hl
   simp only [List.take_succ_cons, List.take_zero, putAll, Nat.zero_add, Nat.reduceAdd, show val 0 = _ from hrows 0 (by omega), show val 1 = _ from hrows 1 (by omega), show val 2 = _ from hrows 2 (by omega), show val 3 = _ from hrows 3 (by omega), show val 4 = _ from hrows 4 (by omega), show val 5 = _ from hrows 5 (by omega), show val 6 = _ from hrows 6 (by omega), show val 7 = _ from hrows 7 (by omega), show val 8 = _ from hrows 8 (by omega), show val 9 = _ from hrows 9 (by omega), show val 10 = _ from hrows 10 (by omega), show val 11 = _ from hrows 11 (by omega), show val 12 = _ from hrows 12 (by omega), show val 13 = _ from hrows 13 (by omega), show val 14 = _ from hrows 14 (by omega), show val 15 = _ from hrows 15 (by omega), show val 16 = _ from hrows 16 (by omega), show val 17 = _ from hrows 17 (by omega)]
   exact hF
end Go.Proofs.Ytcdfnlgimbecgaa
