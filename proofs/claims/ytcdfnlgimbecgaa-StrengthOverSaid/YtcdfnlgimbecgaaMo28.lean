/-
  strength: the regions of Curve and of its closure that draw their order. (Printed by gen_st8.py.)
  strength: Curve$2 (lifts).
  A call of a function value in a region that draws its order; a new place for a fraction.
-/
import Derived.Test.YtcdfnlgimbecgaaMo19
import Derived.Test.YtcdfnlgimbecgaaMo27

namespace Go.Proofs.Ytcdfnlgimbecgaa
open Go.RowKit

theorem cf13 (w : World) (args : Array Value) : (callFunc 13 args).run Try.prog w = .ok (.enter 13 args) w := by
  go_simp
theorem cf18 (w : World) (args : Array Value) : (callFunc 18 args).run Try.prog w = .ok (.enter 18 args) w := by
  go_simp
theorem cf17 (w : World) (args : Array Value) : (callFunc 17 args).run Try.prog w = .ok (.enter 17 args) w := by
  go_simp
theorem cf16 (w : World) (args : Array Value) : (callFunc 16 args).run Try.prog w = .ok (.enter 16 args) w := by
  go_simp
theorem cf45 (w : World) (args : Array Value) : (callFunc 45 args).run Try.prog w = .ok (.enter 45 args) w := by
  go_simp
theorem cf44 (w : World) (args : Array Value) : (callFunc 44 args).run Try.prog w = .ok (.enter 44 args) w := by
  go_simp

set_option maxRecDepth 100000 in
set_option maxHeartbeats 4000000 in
theorem region_lifts {id : Nat} {Q : Exit → Act → World → Prop} {a0 : Act} {w0 : World} {l : List Oper} {ga gk : Nat} {fa fk fo : FracV} {r1 r2 : FracV × Int}
    {t0 t1 t2 t3 t4 t5 t6 t7 t8 t9 t10 t11 t12 : TypeId} {x0 x1 x2 x3 x4 x5 x6 x7 x8 x9 x10 x11 x12 : String} {e0 e1 e2 e3 e4 e5 e6 e7 e8 e9 e10 e11 e12 : Array Edge}
    (hl : l = [⟨some 16, .load 37 (.tmp 7), t0, x0, e0, none⟩,
      ⟨some 17, .load 37 (.tmp 3), t1, x1, e1, none⟩,
      ⟨some 18, .move (.tmp 1), t2, x2, e2, none⟩,
      ⟨some 19, .call { callee := .value (.func 13), args := #[.tmp 18], argTypes := #[3] }, t3, x3, e3, none⟩,
      ⟨some 20, .call { callee := .value (.func 18), args := #[.tmp 17, .tmp 19], argTypes := #[37, 37] }, t4, x4, e4, none⟩,
      ⟨some 21, .extract (.tmp 20) 0, t5, x5, e5, none⟩,
      ⟨some 22, .extract (.tmp 20) 1, t6, x6, e6, none⟩,
      ⟨some 23, .call { callee := .value (.func 44), args := #[.tmp 21, .tmp 22], argTypes := #[37, 31] }, t7, x7, e7, none⟩,
      ⟨some 24, .call { callee := .value (.func 17), args := #[.tmp 16, .tmp 23], argTypes := #[37, 37] }, t8, x8, e8, none⟩,
      ⟨some 25, .extract (.tmp 24) 0, t9, x9, e9, none⟩,
      ⟨some 26, .extract (.tmp 24) 1, t10, x10, e10, none⟩,
      ⟨some 27, .call { callee := .value (.func 44), args := #[.tmp 25, .tmp 26], argTypes := #[37, 31] }, t11, x11, e11, none⟩,
      ⟨none, .store 37 (.tmp 6) (.tmp 27), t12, x12, e12, none⟩])
    (hO : orderB l 12 = true) (hd : dstsB l 12 a0.tmps.size = true) (hpre : preB l.toArray [(3, [2]), (4, [1, 3]), (5, [4]), (6, [4]), (7, [5, 6]), (8, [0, 7]), (9, [8]), (10, [8]), (11, [9, 10])] = true)
    {v1 : Value} (k1 : a0.tmps[1]? = some (v1)) (k3 : a0.tmps[3]? = some (Value.pointer (some ⟨gk, 0, none⟩))) (k7 : a0.tmps[7]? = some (Value.pointer (some ⟨ga, 0, none⟩)))
    (h0 : ∀ w, From w0 w → (loadVar 37 ⟨ga, 0, none⟩).run Try.prog w = .ok fa.val w)
    (h1 : ∀ w, From w0 w → (loadVar 37 ⟨gk, 0, none⟩).run Try.prog w = .ok fk.val w)
    (h3 : ∀ w , From w0 w → Calls Try.prog 13 #[v1] w fun e w' => e = .returned (fo.val) ∧ From w w')
    (h4 : ∀ w , From w0 w → Calls Try.prog 18 #[fk.val, fo.val] w fun e w' => e = .returned (Value.tuple #[r1.1.val, .int .i64 r1.2]) ∧ From w w')
    (h7 : ∀ w , From w0 w → Calls Try.prog 44 #[r1.1.val, Value.int .i64 r1.2] w fun e w' => e = .returned (r1.1.val) ∧ From w w')
    (h8 : ∀ w , From w0 w → Calls Try.prog 17 #[fa.val, r1.1.val] w fun e w' => e = .returned (Value.tuple #[r2.1.val, .int .i64 r2.2]) ∧ From w w')
    (h11 : ∀ w , From w0 w → Calls Try.prog 44 #[r2.1.val, Value.int .i64 r2.2] w fun e w' => e = .returned (r2.1.val) ∧ From w w')
    (hK : ∀  w, From w0 w → wpList Try.prog l.toArray Q (l.drop 12) ((((((((((((a0.put (some 16) (fa.val)).put (some 17) (fk.val)).put (some 18) (v1)).put (some 19) (fo.val)).put (some 20) (Value.tuple #[r1.1.val, .int .i64 r1.2])).put (some 21) (r1.1.val)).put (some 22) (Value.int .i64 r1.2)).put (some 23) (r1.1.val)).put (some 24) (Value.tuple #[r2.1.val, .int .i64 r2.2])).put (some 25) (r2.1.val)).put (some 26) (Value.int .i64 r2.2)).put (some 27) (r2.1.val)) w) :
    (Code.region id l.toArray true).wp Try.prog Q a0 w0 := by
  have hlen : l.length = 13 := by rw [hl]; rfl
  have hpz := List.all_eq_true.1 hpre
  refine wp_region_keep 12 (fun i v w => match i with
    | 0 => v = (fa.val)
    | 1 => v = (fk.val)
    | 2 => v = (v1)
    | 3 => v = (fo.val)
    | 4 => v = (Value.tuple #[r1.1.val, .int .i64 r1.2])
    | 5 => v = (r1.1.val)
    | 6 => v = (Value.int .i64 r1.2)
    | 7 => v = (r1.1.val)
    | 8 => v = (Value.tuple #[r2.1.val, .int .i64 r2.2])
    | 9 => v = (r2.1.val)
    | 10 => v = (Value.int .i64 r2.2)
    | 11 => v = (r2.1.val)
    | _ => True) ?_ (by kernel_rfl) hO (by omega) hd ?_ ?_
  · intro i v w w' h hb
    match i, h with
    | 0, h => exact h
    | 1, h => exact h
    | 2, h => exact h
    | 3, h => exact h
    | 4, h => exact h
    | 5, h => exact h
    | 6, h => exact h
    | 7, h => exact h
    | 8, h => exact h
    | 9, h => exact h
    | 10, h => exact h
    | 11, h => exact h
    | _ + 12, _ => trivial
  · intro i o hi ho a w hb hval hold
    have ho' : l.toArray[i]? = some o := by simpa using ho
    have hedge : ∀ js, (i, js) ∈ ([(3, [2]), (4, [1, 3]), (5, [4]), (6, [4]), (7, [5, 6]), (8, [0, 7]), (9, [8]), (10, [8]), (11, [9, 10])] : List (Nat × List Nat)) → ∀ j ∈ js, (o.after.any fun e => Region.binds .any e && e.on == j) = true := fun js hm j hj => by
      have h1 := List.all_eq_true.1 (hpz _ hm) j hj
      rw [ho'] at h1
      simpa using h1
    have hcase : i = 0 ∨ i = 1 ∨ i = 2 ∨ i = 3 ∨ i = 4 ∨ i = 5 ∨ i = 6 ∨ i = 7 ∨ i = 8 ∨ i = 9 ∨ i = 10 ∨ i = 11 := by omega
    rcases hcase with rfl | rfl | rfl | rfl | rfl | rfl | rfl | rfl | rfl | rfl | rfl | rfl
    · have b7 := eval_get ((hold 7 (by rw [hl]; rfl)).trans k7)
      rw [hl] at ho
      injection ho with ho
      subst ho
      exact wpOp_load ho' rfl rfl b7 (h0 w hb) ⟨_, rfl, Below.refl _ _, rfl⟩
    · have b3 := eval_get ((hold 3 (by rw [hl]; rfl)).trans k3)
      rw [hl] at ho
      injection ho with ho
      subst ho
      exact wpOp_load ho' rfl rfl b3 (h1 w hb) ⟨_, rfl, Below.refl _ _, rfl⟩
    · have b1 := eval_get ((hold 1 (by rw [hl]; rfl)).trans k1)
      rw [hl] at ho
      injection ho with ho
      subst ho
      exact wpOp_value ho' rfl (v := (v1)) (w' := w) (by go_simp) ⟨_, rfl, Below.refl _ _, rfl⟩
    · obtain ⟨y2, hy2, hz2⟩ := hval 2 _ 18 (by omega) (by rw [hl]; rfl) rfl (hedge [2] (by simp) 2 (by simp))
      have hz2 : y2 = (v1) := hz2
      rw [hz2] at hy2
      have b18 := eval_get hy2
      rw [hl] at ho
      injection ho with ho
      subst ho
      refine wpOp_call ho' rfl rfl (args := #[v1]) (by simp [b18]) (cf13 _ _) ((h3 w  hb ).mono ?_)
      rintro e w' ⟨rfl, hb2⟩
      exact ⟨_, rfl, _, rfl, hb2, rfl⟩
    · obtain ⟨y1, hy1, hz1⟩ := hval 1 _ 17 (by omega) (by rw [hl]; rfl) rfl (hedge [1, 3] (by simp) 1 (by simp))
      have hz1 : y1 = (fk.val) := hz1
      rw [hz1] at hy1
      have b17 := eval_get hy1
      obtain ⟨y3, hy3, hz3⟩ := hval 3 _ 19 (by omega) (by rw [hl]; rfl) rfl (hedge [1, 3] (by simp) 3 (by simp))
      have hz3 : y3 = (fo.val) := hz3
      rw [hz3] at hy3
      have b19 := eval_get hy3
      rw [hl] at ho
      injection ho with ho
      subst ho
      refine wpOp_call ho' rfl rfl (args := #[fk.val, fo.val]) (by simp [b17, b19]) (cf18 _ _) ((h4 w  hb ).mono ?_)
      rintro e w' ⟨rfl, hb2⟩
      exact ⟨_, rfl, _, rfl, hb2, rfl⟩
    · obtain ⟨y4, hy4, hz4⟩ := hval 4 _ 20 (by omega) (by rw [hl]; rfl) rfl (hedge [4] (by simp) 4 (by simp))
      have hz4 : y4 = (Value.tuple #[r1.1.val, .int .i64 r1.2]) := hz4
      rw [hz4] at hy4
      have b20 := eval_get hy4
      rw [hl] at ho
      injection ho with ho
      subst ho
      exact wpOp_value ho' rfl (v := (r1.1.val)) (w' := w) (by go_simp) ⟨_, rfl, Below.refl _ _, rfl⟩
    · obtain ⟨y4, hy4, hz4⟩ := hval 4 _ 20 (by omega) (by rw [hl]; rfl) rfl (hedge [4] (by simp) 4 (by simp))
      have hz4 : y4 = (Value.tuple #[r1.1.val, .int .i64 r1.2]) := hz4
      rw [hz4] at hy4
      have b20 := eval_get hy4
      rw [hl] at ho
      injection ho with ho
      subst ho
      exact wpOp_value ho' rfl (v := (Value.int .i64 r1.2)) (w' := w) (by go_simp) ⟨_, rfl, Below.refl _ _, rfl⟩
    · obtain ⟨y5, hy5, hz5⟩ := hval 5 _ 21 (by omega) (by rw [hl]; rfl) rfl (hedge [5, 6] (by simp) 5 (by simp))
      have hz5 : y5 = (r1.1.val) := hz5
      rw [hz5] at hy5
      have b21 := eval_get hy5
      obtain ⟨y6, hy6, hz6⟩ := hval 6 _ 22 (by omega) (by rw [hl]; rfl) rfl (hedge [5, 6] (by simp) 6 (by simp))
      have hz6 : y6 = (Value.int .i64 r1.2) := hz6
      rw [hz6] at hy6
      have b22 := eval_get hy6
      rw [hl] at ho
      injection ho with ho
      subst ho
      refine wpOp_call ho' rfl rfl (args := #[r1.1.val, Value.int .i64 r1.2]) (by simp [b21, b22]) (cf44 _ _) ((h7 w  hb ).mono ?_)
      rintro e w' ⟨rfl, hb2⟩
      exact ⟨_, rfl, _, rfl, hb2, rfl⟩
    · obtain ⟨y0, hy0, hz0⟩ := hval 0 _ 16 (by omega) (by rw [hl]; rfl) rfl (hedge [0, 7] (by simp) 0 (by simp))
      have hz0 : y0 = (fa.val) := hz0
      rw [hz0] at hy0
      have b16 := eval_get hy0
      obtain ⟨y7, hy7, hz7⟩ := hval 7 _ 23 (by omega) (by rw [hl]; rfl) rfl (hedge [0, 7] (by simp) 7 (by simp))
      have hz7 : y7 = (r1.1.val) := hz7
      rw [hz7] at hy7
      have b23 := eval_get hy7
      rw [hl] at ho
      injection ho with ho
      subst ho
      refine wpOp_call ho' rfl rfl (args := #[fa.val, r1.1.val]) (by simp [b16, b23]) (cf17 _ _) ((h8 w  hb ).mono ?_)
      rintro e w' ⟨rfl, hb2⟩
      exact ⟨_, rfl, _, rfl, hb2, rfl⟩
    · obtain ⟨y8, hy8, hz8⟩ := hval 8 _ 24 (by omega) (by rw [hl]; rfl) rfl (hedge [8] (by simp) 8 (by simp))
      have hz8 : y8 = (Value.tuple #[r2.1.val, .int .i64 r2.2]) := hz8
      rw [hz8] at hy8
      have b24 := eval_get hy8
      rw [hl] at ho
      injection ho with ho
      subst ho
      exact wpOp_value ho' rfl (v := (r2.1.val)) (w' := w) (by go_simp) ⟨_, rfl, Below.refl _ _, rfl⟩
    · obtain ⟨y8, hy8, hz8⟩ := hval 8 _ 24 (by omega) (by rw [hl]; rfl) rfl (hedge [8] (by simp) 8 (by simp))
      have hz8 : y8 = (Value.tuple #[r2.1.val, .int .i64 r2.2]) := hz8
      rw [hz8] at hy8
      have b24 := eval_get hy8
      rw [hl] at ho
      injection ho with ho
      subst ho
      exact wpOp_value ho' rfl (v := (Value.int .i64 r2.2)) (w' := w) (by go_simp) ⟨_, rfl, Below.refl _ _, rfl⟩
    · obtain ⟨y9, hy9, hz9⟩ := hval 9 _ 25 (by omega) (by rw [hl]; rfl) rfl (hedge [9, 10] (by simp) 9 (by simp))
      have hz9 : y9 = (r2.1.val) := hz9
      rw [hz9] at hy9
      have b25 := eval_get hy9
      obtain ⟨y10, hy10, hz10⟩ := hval 10 _ 26 (by omega) (by rw [hl]; rfl) rfl (hedge [9, 10] (by simp) 10 (by simp))
      have hz10 : y10 = (Value.int .i64 r2.2) := hz10
      rw [hz10] at hy10
      have b26 := eval_get hy10
      rw [hl] at ho
      injection ho with ho
      subst ho
      refine wpOp_call ho' rfl rfl (args := #[r2.1.val, Value.int .i64 r2.2]) (by simp [b25, b26]) (cf44 _ _) ((h11 w  hb ).mono ?_)
      rintro e w' ⟨rfl, hb2⟩
      exact ⟨_, rfl, _, rfl, hb2, rfl⟩
  · intro val w hb hrows
    have q0 : val 0 = (fa.val) := hrows 0 (by omega)
    have q1 : val 1 = (fk.val) := hrows 1 (by omega)
    have q2 : val 2 = (v1) := hrows 2 (by omega)
    have q3 : val 3 = (fo.val) := hrows 3 (by omega)
    have q4 : val 4 = (Value.tuple #[r1.1.val, .int .i64 r1.2]) := hrows 4 (by omega)
    have q5 : val 5 = (r1.1.val) := hrows 5 (by omega)
    have q6 : val 6 = (Value.int .i64 r1.2) := hrows 6 (by omega)
    have q7 : val 7 = (r1.1.val) := hrows 7 (by omega)
    have q8 : val 8 = (Value.tuple #[r2.1.val, .int .i64 r2.2]) := hrows 8 (by omega)
    have q9 : val 9 = (r2.1.val) := hrows 9 (by omega)
    have q10 : val 10 = (Value.int .i64 r2.2) := hrows 10 (by omega)
    have q11 : val 11 = (r2.1.val) := hrows 11 (by omega)
    have hF := hK  w hb 
    subst hl
    simp only [List.take_succ_cons, List.take_zero, putAll, Nat.zero_add, Nat.reduceAdd, q0, q1, q2, q3, q4, q5, q6, q7, q8, q9, q10, q11]
    exact hF
end Go.Proofs.Ytcdfnlgimbecgaa

namespace Go.Proofs.Ytcdfnlgimbecgaa
open Go.RowKit

theorem zeroF_fits : zeroF.fits := ⟨by decide, by decide⟩
theorem ratioL_fits (a b : Int) : (ratioL a b).1.fits := by
  unfold ratioL
  split
  · exact zeroF_fits
  · exact fitL_fits _ _ _
theorem sumL_fits (f g : FracV) : (sumL f g).1.fits := by
  unfold sumL
  split
  · exact fitL_fits _ _ _
  · split <;> exact fitL_fits _ _ _
theorem addL_fits (f g : FracV) : (addL f g).1.fits := by
  unfold addL
  split
  · exact sumL_fits _ _
  · exact zeroF_fits
theorem subL_fits (f g : FracV) : (subL f g).1.fits := by
  unfold subL
  split
  · exact sumL_fits _ _
  · exact zeroF_fits
theorem mulL_fits (f g : FracV) : (mulL f g).1.fits := by
  unfold mulL
  split
  · exact fitL_fits _ _ _
  · exact zeroF_fits
theorem divL_fits (f g : FracV) : (divL f g).1.fits := by
  unfold divL
  split
  · exact fitL_fits _ _ _
  · exact zeroF_fits
theorem ofL_fits {n : Int} (h : inI n) : (ofL n).fits := by
  obtain ⟨h1, h2⟩ := h
  refine ⟨?_, show (1 : Nat) < top256 by decide⟩
  show n.natAbs < top256
  exact Nat.lt_trans (show n.natAbs < 18446744073709551616 by omega) top256_big

/-- the buoyancy of shares and factors -/
def liftV (W : Int) (k : FracV) (share factor : Int) : FracV := (addL (ratioL (W * share) 10000).1 (mulL k (ofL factor)).1).1

set_option maxRecDepth 100000 in
set_option maxHeartbeats 4000000 in
theorem st_lifts (W share factor : Int) (gw gk : Nat) (kf : FracV) (hk : kf.fits) (hws : inI (W * share)) (hfa : inI factor) (w : World) (hw : w.heap[gw]? = some (.cells #[.int .i64 W] 3 (0, 0))) (hkb : FB w gk kf) :
    Calls Try.prog 42 #[.int .i64 share, .int .i64 factor, .pointer (some ⟨gw, 0, none⟩), .pointer (some ⟨gk, 0, none⟩)] w fun e w' => e = .returned (liftV W kf share factor).val ∧ Below w.heap.size w w' := by
  have hgw := (Array.getElem?_eq_some_iff.1 hw).1
  have hb0 : Below w.heap.size w (w.alloc (.cells zeroF.cells.toArray 37)) := (Below.refl _ _).alloc (Nat.le_refl _) _
  have HWL : Hid (∀ w1, From w w1 → (loadVar 3 ⟨gw, 0, none⟩).run Try.prog w1 = .ok (.int .i64 W) w1) := by
    intro w1 hb
    have h2 := (hb.block gw hgw).trans hw
    exact run_load_cell Try.underlying3 rfl (by rw [cell_of_row w1 _ 0 _ _ _ h2]; rfl)
  have HKB := Lib.hid (fun (w1 : World) (hb : From w w1) => hkb.below hb hkb.lt)
  have HF0 := Lib.hid (FB.new w zeroF)
  have HB0 := Lib.hid hb0
  obtain ⟨ws, hwse⟩ : ∃ ws, ws = W * share := ⟨_, rfl⟩
  have wW : IntKind.i64.wrap (W * share) = ws := by rw [wrap_in hws, hwse]
  obtain ⟨r1, hr1⟩ : ∃ r1, r1 = ratioL ws 10000 := ⟨_, rfl⟩
  obtain ⟨fo, hfo⟩ : ∃ fo, fo = ofL factor := ⟨_, rfl⟩
  obtain ⟨r2, hr2⟩ : ∃ r2, r2 = mulL kf fo := ⟨_, rfl⟩
  obtain ⟨r3, hr3⟩ : ∃ r3, r3 = addL r1.1 r2.1 := ⟨_, rfl⟩
  have HV : Hid (liftV W kf share factor = r3.1) := by unfold Hid liftV; rw [hr3, hr2, hfo, hr1, hwse]
  have HRA := Lib.hid (fun (w1 : World) => frac_Ratio ws 10000 (by rw [hwse]; exact hws.1) (by rw [hwse]; exact hws.2) (by omega) (by omega) w1)
  rw [← hr1] at HRA
  have HOF := Lib.hid (fun (w1 : World) => frac_Of factor hfa.1 hfa.2 w1)
  rw [← hfo] at HOF
  have HMU := Lib.hid (fun (w1 : World) => frac_Mul kf fo hk (by rw [hfo]; exact ofL_fits hfa) w1)
  rw [← hr2] at HMU
  have HAD := Lib.hid (fun (w1 : World) => frac_Add r1.1 r2.1 (by rw [hr1]; exact ratioL_fits _ _) (by rw [hr2]; exact mulL_fits _ _) w1)
  rw [← hr3] at HAD
  rw [HV.out]
  clear hw hkb hgw hb0 hwse hr1 hfo hr2 hr3 hws hfa hk
  go_enter Try.func42, Try.ntmps42
  go_wp2_with (first
    | ((with_reducible refine g_ld 3 ?_); refine wpList_ld rfl _ _ rfl _ rfl _ (HWL.out _ HB0.out) ?_)
    | (go_at_call 43; refine (HRA.out _).mono ?_; rintro e w2 ⟨rfl, hb2⟩; have B2 := Lib.hid (HB0.out.trans (hb2.mono HB0.out.size)); have F2 := Lib.hid (HF0.out.below hb2 HF0.out.lt); clear hb2)
    | ((with_reducible refine g_st 37 ?_); refine wpList_stF (f := r1.1) rfl _ _ rfl rfl rfl (FB.new w2 zeroF) ?_; intro w3 hfb3 hgr3
       have C3 : Hid (From w2 w3) := ((Below.refl w2.heap.size w2).alloc (Nat.le_refl _) _).grown hgr3 (by simp) (by intro q hq; injection hq with hq; omega)
       have F3 := Lib.hid hfb3; have G3 := Lib.hid (F2.out.below C3.out F2.out.lt); have B3 := Lib.hid (B2.out.trans (C3.out.mono B2.out.size)); clear hfb3 hgr3))
  refine region_lifts (ga := w2.heap.size) (gk := gk) (fa := r1.1) (fk := kf) (fo := fo) (r1 := r2) (r2 := r3) rfl (by kernel_rfl) (by kernel_rfl) (by kernel_rfl) rfl rfl rfl
    (fun w1 hb => (F3.out.below hb F3.out.lt).ld) (fun w1 hb => (HKB.out w1 (B3.out.trans (hb.mono B3.out.size))).ld) (fun w1 hb => HOF.out w1) (fun w1 hb => HMU.out w1) (fun w1 hb => st_sure _ _ w1) (fun w1 hb => HAD.out w1) (fun w1 hb => st_sure _ _ w1) ?_
  intro w4 hb4
  have G4 := Lib.hid (G3.out.below hb4 G3.out.lt)
  have B4 := Lib.hid (B3.out.trans (hb4.mono B3.out.size))
  clear hb4
  simp only [List.drop_succ_cons, List.drop_zero]
  simp only [Act.put, List.setIfInBounds_toArray, List.set_cons_succ, List.set_cons_zero]
  go_wp2_with (first
    | ((with_reducible refine g_st 37 ?_); refine wpList_stF (f := r3.1) rfl _ _ rfl rfl rfl G4.out ?_; intro w5 hfb5 hgr5))
  refine bodyPost_ret (results_frac rfl _ rfl hfb5) rfl ⟨rfl, B4.out.grown hgr5 B4.out.size (by intro q hq; injection hq with hq; omega)⟩
end Go.Proofs.Ytcdfnlgimbecgaa

namespace Go.Proofs.Ytcdfnlgimbecgaa
open Go.RowKit

theorem eval_const (a : Act) (v : Value) : a.eval (.const v) = v := rfl
section
variable {P : Program} {ops : Array Oper} {Q : Exit → Act → World → Prop} {a : Act} {w : World} {K : Act → World → Prop} {i : Nat} {o : Oper}
theorem wpOp_callv (ho : ops[i]? = some o) (hg : o.guard = none) {s : Nat} {F : FuncId} {xs : Array Operand} {ts : Array TypeId} {caps : Array Value} (hop : o.op = .call { callee := .value (.tmp s), args := xs, argTypes := ts }) (hs : a.eval (.tmp s) = .func (.func F) #[] caps) {args : Array Value} (hx : xs.map a.eval = args) (hcf : (callFunc F (args ++ caps)).run P w = .ok (.enter F (args ++ caps)) w) (hc : Calls P F (args ++ caps) w fun e w' => ∃ v, e = .returned v ∧ K (a.put o.dst v) w') : wpOp P ops Q i K a w :=
  wpOp_enter ho hg (by subst hx; unfold execOp; simp only [hop, resolve, hs]; go_simp) hc
end

/-- a place for a fraction, new since a world -/
def NewF (base : Nat) (v : Value) (w : World) : Prop := ∃ g, v = .pointer (some ⟨g, 0, none⟩) ∧ base ≤ g ∧ FB w g zeroF
theorem NewF.stays {base : Nat} : ∀ v w w', NewF base v w → From w w' → NewF base v w' := by
  rintro v w w' ⟨g, h1, h2, h3⟩ hb
  exact ⟨g, h1, h2, h3.below hb h3.lt⟩
theorem zero_frac (w : World) : (zeroValue 37).run Try.prog w = .ok zeroF.val w := by kernel_rfl
theorem NewF.new {base : Nat} {w : World} (h : base ≤ w.heap.size) : NewF base (.pointer (some ⟨w.heap.size, 0, none⟩)) (w.alloc (.cells zeroF.val.cells 37)) := ⟨_, rfl, h, FB.new w zeroF⟩
end Go.Proofs.Ytcdfnlgimbecgaa
