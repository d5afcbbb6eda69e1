/-
  frac: Add, Sub, Mul, Div.
  frac: Sub, Mul.
-/
import Derived.Test.YtcdfnlgimbecgaaMo25

namespace Go.Proofs.Ytcdfnlgimbecgaa
open Go.RowKit

/-- two fractions in boxes, and a place for the result -/
theorem boxes3 (f g : FracV) (w : World) : ∃ W0, W0 = ((w.alloc (.cells f.cells.toArray 37)).alloc (.cells g.cells.toArray 37)).alloc (.cells zeroF.cells.toArray 37) ∧ Below w.heap.size w W0 ∧ FB W0 w.heap.size f ∧ FB W0 (w.heap.size + 1) g ∧ FB W0 (w.heap.size + 1 + 1) zeroF := by
  obtain ⟨W0, hW0⟩ : ∃ W0, W0 = ((w.alloc (.cells f.cells.toArray 37)).alloc (.cells g.cells.toArray 37)).alloc (.cells zeroF.cells.toArray 37) := ⟨_, rfl⟩
  have s1 : (w.alloc (.cells f.cells.toArray 37)).heap.size = w.heap.size + 1 := by simp
  have s2 : ((w.alloc (.cells f.cells.toArray 37)).alloc (.cells g.cells.toArray 37)).heap.size = w.heap.size + 1 + 1 := by simp
  have hb1 : Below w.heap.size w (w.alloc (.cells f.cells.toArray 37)) := (Below.refl _ _).alloc (Nat.le_refl _) _
  refine ⟨W0, hW0, ?_, ?_, ?_, ?_⟩
  · rw [hW0]; exact (hb1.alloc (by omega) _).alloc (by omega) _
  · have h1 := FB.new w f
    have h2 := h1.below ((Below.refl _ _).alloc (Nat.le_refl _) (.cells g.cells.toArray 37)) h1.lt
    rw [hW0]
    exact h2.below ((Below.refl _ _).alloc (Nat.le_refl _) _) h2.lt
  · have h1 := FB.new (w.alloc (.cells f.cells.toArray 37)) g
    have h2 := h1.below ((Below.refl _ _).alloc (Nat.le_refl _) (.cells zeroF.cells.toArray 37)) h1.lt
    rw [s1] at h2
    rw [hW0]
    exact h2
  · have h1 := FB.new ((w.alloc (.cells f.cells.toArray 37)).alloc (.cells g.cells.toArray 37)) zeroF
    rw [s2] at h1
    rw [hW0]
    exact h1

theorem right_den {f : FracV} (h : f.right = true) : f.den ≠ 0 := by
  unfold FracV.right at h
  intro e
  simp [e] at h


set_option maxRecDepth 100000 in
set_option maxHeartbeats 8000000 in
theorem frac_Add (f g : FracV) (hf : f.fits) (hg : g.fits) (w : World) : Calls Try.prog 17 #[f.val, g.val] w (FitPost w (addL f g)) := by
  obtain ⟨W0, hW0, hb0, hff, hfg, hfr⟩ := boxes3 f g w
  have HW0 := Lib.hid hW0
  have HB := Lib.hid hb0
  have HFF := Lib.hid hff
  have HFG := Lib.hid hfg
  have HFR := Lib.hid hfr
  clear hW0 hb0 hff hfg hfr
  cases hf1 : f.right with
  | false =>
    have HBAD : Hid (addL f g = (zeroF, 2)) := by unfold Hid addL; rw [hf1]; rfl
    have HR1 := Lib.hid (fun w1 => frac_Right f hf w1)
    rw [hf1] at HR1
    unfold FracV.val at HR1 ⊢
    go_enter Try.func17, Try.ntmps17
    go_upto_region 1 with fail
    rw [show ((w.alloc (.cells f.cells.toArray 37)).alloc (.cells g.cells.toArray 37)).alloc (.cells #[Value.bool false, .int .u32 0, .int .u32 0, .int .u32 0, .int .u32 0, .int .u32 0, .int .u32 0, .int .u32 0, .int .u32 0, .int .u32 0, .int .u32 0, .int .u32 0, .int .u32 0, .int .u32 0, .int .u32 0, .int .u32 0, .int .u32 0] 37) = W0 from HW0.out.symm]
    go_wp2_with (first
      | ((with_reducible refine g_ld 37 ?_); refine wpList_ld rfl _ _ rfl _ rfl _ HFF.out.ld' ?_)
      | (go_at_call 50; refine (HR1.out W0).mono ?_; rintro e w1 ⟨rfl, hb1⟩; have HB1 := Lib.hid (HB.out.trans (hb1.mono HB.out.size)); have HR := Lib.hid (HFR.out.below hb1 HFR.out.lt); clear hb1 HR1)
      | ((with_reducible refine g_st 37 ?_); refine wpList_stF (f := zeroF) rfl _ _ rfl rfl rfl HR.out ?_; intro w5 hfb5 hgr5))
    refine bodyPost_ret (results_frac_err rfl _ rfl hfb5) rfl ⟨?_, HB1.out.grown hgr5 HB1.out.size (by intro q hq; injection hq with hq; omega)⟩
    rw [HBAD.out]
    rfl
  | true =>
    cases hg1 : g.right with
    | false =>
      have HBAD : Hid (addL f g = (zeroF, 2)) := by unfold Hid addL; rw [hf1, hg1]; rfl
      have HR1 := Lib.hid (fun w1 => frac_Right f hf w1)
      have HRR := Lib.hid (fun w1 => frac_Right g hg w1)
      rw [hf1] at HR1
      rw [hg1] at HRR
      unfold FracV.val at HR1 HRR ⊢
      go_enter Try.func17, Try.ntmps17
      go_upto_region 1 with fail
      rw [show ((w.alloc (.cells f.cells.toArray 37)).alloc (.cells g.cells.toArray 37)).alloc (.cells #[Value.bool false, .int .u32 0, .int .u32 0, .int .u32 0, .int .u32 0, .int .u32 0, .int .u32 0, .int .u32 0, .int .u32 0, .int .u32 0, .int .u32 0, .int .u32 0, .int .u32 0, .int .u32 0, .int .u32 0, .int .u32 0, .int .u32 0] 37) = W0 from HW0.out.symm]
      go_wp2_with (first
        | ((with_reducible refine g_ld 37 ?_); refine wpList_ld rfl _ _ rfl _ rfl _ HFF.out.ld' ?_)
        | (go_at_call 50; refine (HR1.out W0).mono ?_; rintro e w1 ⟨rfl, hb1⟩; have C1 : Hid (From W0 w1) := hb1; have HR2 := HRR; clear hb1 HR1 HRR)
        | ((with_reducible refine g_ld 37 ?_); refine wpList_ldw rfl _ _ rfl _ rfl _ (HFG.out.below C1.out HFG.out.lt).ld' ?_)
        | (go_at_call 50; refine (HR2.out _).mono ?_; rintro e w2 ⟨rfl, hb2⟩; have C2 : Hid (From W0 w2) := C1.out.trans (hb2.mono C1.out.size); have HB1 := Lib.hid (HB.out.trans (C2.out.mono HB.out.size)); have HR := Lib.hid (HFR.out.below C2.out HFR.out.lt); clear hb2 HR2)
        | ((with_reducible refine g_st 37 ?_); refine wpList_stF (f := zeroF) rfl _ _ rfl rfl rfl HR.out ?_; intro w5 hfb5 hgr5))
      refine bodyPost_ret (results_frac_err rfl _ rfl hfb5) rfl ⟨?_, HB1.out.grown hgr5 HB1.out.size (by intro q hq; injection hq with hq; omega)⟩
      rw [HBAD.out]
      rfl
    | true =>
      have HGOOD : Hid (addL f g = sumL f g) := by unfold Hid addL; rw [hf1, hg1]; rfl
      have HA := Lib.hid (fun w1 => frac_add f g hf hg (right_den hf1) (right_den hg1) w1)
      rw [HGOOD.out]
      obtain ⟨r, hr⟩ : ∃ r, r = sumL f g := ⟨_, rfl⟩
      rw [← hr] at HA ⊢
      have HR1 := Lib.hid (fun w1 => frac_Right f hf w1)
      have HRR := Lib.hid (fun w1 => frac_Right g hg w1)
      rw [hf1] at HR1
      rw [hg1] at HRR
      clear hr hf1 hg1 HGOOD
      unfold FracV.val at HR1 HRR HA ⊢
      go_enter Try.func17, Try.ntmps17
      go_upto_region 1 with fail
      rw [show ((w.alloc (.cells f.cells.toArray 37)).alloc (.cells g.cells.toArray 37)).alloc (.cells #[Value.bool false, .int .u32 0, .int .u32 0, .int .u32 0, .int .u32 0, .int .u32 0, .int .u32 0, .int .u32 0, .int .u32 0, .int .u32 0, .int .u32 0, .int .u32 0, .int .u32 0, .int .u32 0, .int .u32 0, .int .u32 0, .int .u32 0] 37) = W0 from HW0.out.symm]
      go_wp2_with (first
        | ((with_reducible refine g_ld 37 ?_); refine wpList_ld rfl _ _ rfl _ rfl _ HFF.out.ld' ?_)
        | (go_at_call 50; refine (HR1.out W0).mono ?_; rintro e w1 ⟨rfl, hb1⟩; have C1 : Hid (From W0 w1) := hb1; have HR2 := HRR; clear hb1 HR1 HRR)
        | ((with_reducible refine g_ld 37 ?_); refine wpList_ldw rfl _ _ rfl _ rfl _ (HFG.out.below C1.out HFG.out.lt).ld' ?_)
        | (go_at_call 50; refine (HR2.out _).mono ?_; rintro e w2 ⟨rfl, hb2⟩; have C2 : Hid (From W0 w2) := C1.out.trans (hb2.mono C1.out.size); clear hb2 HR2)
        | ((with_reducible refine g_ld 37 ?_); refine wpList_ld rfl _ _ rfl _ rfl _ (HFF.out.below C2.out HFF.out.lt).ld' ?_)
        | ((with_reducible refine g_ld 37 ?_); refine wpList_ld rfl _ _ rfl _ rfl _ (HFG.out.below C2.out HFG.out.lt).ld' ?_)
        | (go_at_call 51; refine (HA.out _).mono ?_; rintro e w3 ⟨rfl, hb3⟩; have C3 : Hid (From W0 w3) := C2.out.trans (hb3.mono C2.out.size); have HB1 := Lib.hid (HB.out.trans (C3.out.mono HB.out.size)); have HR := Lib.hid (HFR.out.below C3.out HFR.out.lt); clear hb3)
        | ((with_reducible refine g_st 37 ?_); refine wpList_stF (f := r.1) rfl _ _ rfl rfl rfl HR.out ?_; intro w5 hfb5 hgr5))
      refine bodyPost_ret (results_frac_err rfl _ rfl hfb5) rfl ⟨?_, HB1.out.grown hgr5 HB1.out.size (by intro q hq; injection hq with hq; omega)⟩
      rfl
end Go.Proofs.Ytcdfnlgimbecgaa

namespace Go.Proofs.Ytcdfnlgimbecgaa
open Go.RowKit



theorem negL_fits {g : FracV} (h : g.fits) : (negL g).fits := h

set_option maxRecDepth 100000 in
set_option maxHeartbeats 8000000 in
theorem frac_Sub (f g : FracV) (hf : f.fits) (hg : g.fits) (w : World) : Calls Try.prog 16 #[f.val, g.val] w (FitPost w (subL f g)) := by
  obtain ⟨W0, hW0, hb0, hff, hfg, hfr⟩ := boxes3 f g w
  have HW0 := Lib.hid hW0
  have HB := Lib.hid hb0
  have HFF := Lib.hid hff
  have HFG := Lib.hid hfg
  have HFR := Lib.hid hfr
  clear hW0 hb0 hff hfg hfr
  cases hf1 : f.right with
  | false =>
    have HBAD : Hid (subL f g = (zeroF, 2)) := by unfold Hid subL; rw [hf1]; rfl
    have HR1 := Lib.hid (fun w1 => frac_Right f hf w1)
    rw [hf1] at HR1
    unfold FracV.val at HR1 ⊢
    go_enter Try.func16, Try.ntmps16
    go_upto_region 1 with fail
    rw [show ((w.alloc (.cells f.cells.toArray 37)).alloc (.cells g.cells.toArray 37)).alloc (.cells #[Value.bool false, .int .u32 0, .int .u32 0, .int .u32 0, .int .u32 0, .int .u32 0, .int .u32 0, .int .u32 0, .int .u32 0, .int .u32 0, .int .u32 0, .int .u32 0, .int .u32 0, .int .u32 0, .int .u32 0, .int .u32 0, .int .u32 0] 37) = W0 from HW0.out.symm]
    go_wp2_with (first
      | ((with_reducible refine g_ld 37 ?_); refine wpList_ld rfl _ _ rfl _ rfl _ HFF.out.ld' ?_)
      | (go_at_call 50; refine (HR1.out W0).mono ?_; rintro e w1 ⟨rfl, hb1⟩; have HB1 := Lib.hid (HB.out.trans (hb1.mono HB.out.size)); have HR := Lib.hid (HFR.out.below hb1 HFR.out.lt); clear hb1 HR1)
      | ((with_reducible refine g_st 37 ?_); refine wpList_stF (f := zeroF) rfl _ _ rfl rfl rfl HR.out ?_; intro w5 hfb5 hgr5))
    refine bodyPost_ret (results_frac_err rfl _ rfl hfb5) rfl ⟨?_, HB1.out.grown hgr5 HB1.out.size (by intro q hq; injection hq with hq; omega)⟩
    rw [HBAD.out]
    rfl
  | true =>
    cases hg1 : g.right with
    | false =>
      have HBAD : Hid (subL f g = (zeroF, 2)) := by unfold Hid subL; rw [hf1, hg1]; rfl
      have HR1 := Lib.hid (fun w1 => frac_Right f hf w1)
      have HRR := Lib.hid (fun w1 => frac_Right g hg w1)
      rw [hf1] at HR1
      rw [hg1] at HRR
      unfold FracV.val at HR1 HRR ⊢
      go_enter Try.func16, Try.ntmps16
      go_upto_region 1 with fail
      rw [show ((w.alloc (.cells f.cells.toArray 37)).alloc (.cells g.cells.toArray 37)).alloc (.cells #[Value.bool false, .int .u32 0, .int .u32 0, .int .u32 0, .int .u32 0, .int .u32 0, .int .u32 0, .int .u32 0, .int .u32 0, .int .u32 0, .int .u32 0, .int .u32 0, .int .u32 0, .int .u32 0, .int .u32 0, .int .u32 0, .int .u32 0] 37) = W0 from HW0.out.symm]
      go_wp2_with (first
        | ((with_reducible refine g_ld 37 ?_); refine wpList_ld rfl _ _ rfl _ rfl _ HFF.out.ld' ?_)
        | (go_at_call 50; refine (HR1.out W0).mono ?_; rintro e w1 ⟨rfl, hb1⟩; have C1 : Hid (From W0 w1) := hb1; have HR2 := HRR; clear hb1 HR1 HRR)
        | ((with_reducible refine g_ld 37 ?_); refine wpList_ldw rfl _ _ rfl _ rfl _ (HFG.out.below C1.out HFG.out.lt).ld' ?_)
        | (go_at_call 50; refine (HR2.out _).mono ?_; rintro e w2 ⟨rfl, hb2⟩; have C2 : Hid (From W0 w2) := C1.out.trans (hb2.mono C1.out.size); have HB1 := Lib.hid (HB.out.trans (C2.out.mono HB.out.size)); have HR := Lib.hid (HFR.out.below C2.out HFR.out.lt); clear hb2 HR2)
        | ((with_reducible refine g_st 37 ?_); refine wpList_stF (f := zeroF) rfl _ _ rfl rfl rfl HR.out ?_; intro w5 hfb5 hgr5))
      refine bodyPost_ret (results_frac_err rfl _ rfl hfb5) rfl ⟨?_, HB1.out.grown hgr5 HB1.out.size (by intro q hq; injection hq with hq; omega)⟩
      rw [HBAD.out]
      rfl
    | true =>
      have HGOOD : Hid (subL f g = sumL f (negL g)) := by unfold Hid subL; rw [hf1, hg1]; rfl
      have HA := Lib.hid (fun w1 => frac_add f (negL g) hf (negL_fits hg) (right_den hf1) (right_den (f := g) hg1) w1)
      have HT := Lib.hid (fun w1 => frac_turned g hg w1)
      rw [HGOOD.out]
      obtain ⟨r, hr⟩ : ∃ r, r = sumL f (negL g) := ⟨_, rfl⟩
      rw [← hr] at HA ⊢
      have HR1 := Lib.hid (fun w1 => frac_Right f hf w1)
      have HRR := Lib.hid (fun w1 => frac_Right g hg w1)
      rw [hf1] at HR1
      rw [hg1] at HRR
      have HP1 : Hid True := trivial
      clear hr hf1 hg1 HGOOD
      unfold FracV.val at HR1 HRR ⊢
      go_enter Try.func16, Try.ntmps16
      go_upto_region 1 with fail
      rw [show ((w.alloc (.cells f.cells.toArray 37)).alloc (.cells g.cells.toArray 37)).alloc (.cells #[Value.bool false, .int .u32 0, .int .u32 0, .int .u32 0, .int .u32 0, .int .u32 0, .int .u32 0, .int .u32 0, .int .u32 0, .int .u32 0, .int .u32 0, .int .u32 0, .int .u32 0, .int .u32 0, .int .u32 0, .int .u32 0, .int .u32 0] 37) = W0 from HW0.out.symm]
      go_wp2_with (first
          | ((with_reducible refine g_ld 37 ?_); refine wpList_ld rfl _ _ rfl _ rfl _ HFF.out.ld' ?_)
          | (go_at_call 50; refine (HR1.out W0).mono ?_; rintro e w1 ⟨rfl, hb1⟩; have C1 : Hid (From W0 w1) := hb1; have HR2 := HRR; clear hb1 HR1 HRR)
          | ((with_reducible refine g_ld 37 ?_); refine wpList_ldw rfl _ _ rfl _ rfl _ (HFG.out.below C1.out HFG.out.lt).ld' ?_)
          | (go_at_call 50; refine (HR2.out _).mono ?_; rintro e w2 ⟨rfl, hb2⟩; have C2 : Hid (From W0 w2) := C1.out.trans (hb2.mono C1.out.size); have HPA := HP1; clear hb2 HR2 HP1)
        )
      refine region_sub (g := w.heap.size) (g2 := w.heap.size + 1) (f := f.val) (f2 := g.val) (r := r) rfl (by kernel_rfl) (by kernel_rfl) (by kernel_rfl) rfl rfl (fun v _ => v = (negL g).val) (fun _ _ _ h _ => h)
        (fun w1 hb => ((HFF.out.below C2.out HFF.out.lt).below hb (Nat.lt_of_lt_of_le HFF.out.lt C2.out.size)).ld) (fun w1 hb => ((HFG.out.below C2.out HFG.out.lt).below hb (Nat.lt_of_lt_of_le HFG.out.lt C2.out.size)).ld)
        (fun w1 hb => (HT.out w1).mono (fun e w' h => ⟨_, h.1, h.2, rfl⟩)) (fun w1 u2 hb hu => by subst hu; exact (HA.out w1)) ?_
      intro u2 w3 hb3 _
      have C3 : Hid (From W0 w3) := C2.out.trans (hb3.mono C2.out.size)
      have HB1 := Lib.hid (HB.out.trans (C3.out.mono HB.out.size))
      have HR := Lib.hid (HFR.out.below C3.out HFR.out.lt)
      clear hb3
      simp only [List.drop_succ_cons, List.drop_zero]
      simp only [Act.put, List.setIfInBounds_toArray, List.set_cons_succ, List.set_cons_zero]
      go_wp2_with (first
        | ((with_reducible refine g_st 37 ?_); refine wpList_stF rfl _ _ rfl rfl rfl HR.out ?_; intro w5 hfb5 hgr5))
      refine bodyPost_ret (results_frac_err rfl _ rfl hfb5) rfl ⟨?_, HB1.out.grown hgr5 HB1.out.size (by intro q hq; injection hq with hq; omega)⟩
      rfl
end Go.Proofs.Ytcdfnlgimbecgaa
