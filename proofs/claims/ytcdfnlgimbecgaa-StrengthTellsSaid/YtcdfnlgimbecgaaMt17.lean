/-
  frac: Add, Sub, Mul, Div.
-/
import Derived.Test.YtcdfnlgimbecgaaMt16
namespace Go.Proofs.Ytcdfnlgimbecgaa
open Go.RowKit
theorem boxes3 (f g : FracV) (w : World) : ∃ W0, W0 = ((w.alloc (.cells f.cells.toArray 37)).alloc (.cells g.cells.toArray 37)).alloc (.cells zeroF.cells.toArray 37) ∧ Below w.heap.size w W0 ∧ FB W0 w.heap.size f ∧ FB W0 (w.heap.size + 1) g ∧ FB W0 (w.heap.size + 1 + 1) zeroF := by
 obtain ⟨W0, hW0⟩ : ∃ W0, W0 = ((w.alloc (.cells f.cells.toArray 37)).alloc (.cells g.cells.toArray 37)).alloc (.cells zeroF.cells.toArray 37) := ⟨_, rfl⟩
 have s1 : (w.alloc (.cells f.cells.toArray 37)).heap.size = w.heap.size + 1 := by simp
 have s2 : ((w.alloc (.cells f.cells.toArray 37)).alloc (.cells g.cells.toArray 37)).heap.size = w.heap.size + 1 + 1 := by simp
 have hb1 : Below w.heap.size w (w.alloc (.cells f.cells.toArray 37)) := (Below.refl _ _).alloc (Nat.le_refl _) _
 refine ⟨W0, hW0, ?_, ?_, ?_, ?_⟩
 · rw [hW0]; exact (hb1.alloc (by omega) _).alloc (by omega) _
 · have h1 := FB.new w f
   have h2 := h1.below ((Below.refl _ _).alloc (Nat.le_refl _) (.cells g.cells.toArray 37)) h1.lt
   rw [hW0]
   exact h2.below ((Below.refl _ _).alloc (Nat.le_refl _) _) h2.lt
 · have h1 := FB.new (w.alloc (.cells f.cells.toArray 37)) g
   have h2 := h1.below ((Below.refl _ _).alloc (Nat.le_refl _) (.cells zeroF.cells.toArray 37)) h1.lt
   rw [s1] at h2
   rw [hW0]
   exact h2
 · have h1 := FB.new ((w.alloc (.cells f.cells.toArray 37)).alloc (.cells g.cells.toArray 37)) zeroF
   rw [s2] at h1
   rw [hW0]
   exact h1
theorem right_den {f : FracV} (h : f.right = true) : f.den ≠ 0 := by
 unfold FracV.right at h
 intro e
 simp [e] at h
set_option maxRecDepth 100000 in
set_option maxHeartbeats 8000000 in
theorem frac_Add (f g : FracV) (hf : f.fits) (hg : g.fits) (w : World) : Calls Try.prog 17 #[f.val, g.val] w (FitPost w (addL f g)) := by
 obtain ⟨W0, hW0, hb0, hff, hfg, hfr⟩ := boxes3 f g w
 have HW0 := Lib.hid hW0
 have HB := Lib.hid hb0
 have HFF := Lib.hid hff
 have HFG := Lib.hid hfg
 have HFR := Lib.hid hfr
 clear hW0 hb0 hff hfg hfr
 cases hf1 : f.right with
 | false =>
  have HBAD : Hid (addL f g = (zeroF, 2)) := by unfold Hid addL; rw [hf1]; rfl
  have HR1 := Lib.hid (fun w1 => frac_Right f hf w1)
  rw [hf1] at HR1
  unfold FracV.val at HR1 ⊢
  go_enter Try.func17, Try.ntmps17
  go_upto_region 1 with fail
  rw [show ((w.alloc (.cells f.cells.toArray 37)).alloc (.cells g.cells.toArray 37)).alloc (.cells #[Value.bool false, .int .u32 0, .int .u32 0, .int .u32 0, .int .u32 0, .int .u32 0, .int .u32 0, .int .u32 0, .int .u32 0, .int .u32 0, .int .u32 0, .int .u32 0, .int .u32 0, .int .u32 0, .int .u32 0, .int .u32 0, .int .u32 0] 37) = W0 from HW0.out.symm]
  go_wp2_with (first
   | ((with_reducible refine g_ld 37 ?_); refine wpList_ld rfl _ _ rfl _ rfl _ HFF.out.ld' ?_)
   | (go_at_call 50; refine (HR1.out W0).mono ?_; rintro e w1 ⟨rfl, hb1⟩; have HB1 := Lib.hid (HB.out.trans (hb1.mono HB.out.size)); have HR := Lib.hid (HFR.out.below hb1 HFR.out.lt); clear hb1 HR1)
   | ((with_reducible refine g_st 37 ?_); refine wpList_stF (f := zeroF) rfl _ _ rfl rfl rfl HR.out ?_; intro w5 hfb5 hgr5))
  refine bodyPost_ret (results_frac_err rfl _ rfl hfb5) rfl ⟨?_, HB1.out.grown hgr5 HB1.out.size (by intro q hq; injection hq with hq; omega)⟩
  rw [HBAD.out]
  rfl
 | true =>
  cases hg1 : g.right with
  | false =>
   have HBAD : Hid (addL f g = (zeroF, 2)) := by unfold Hid addL; rw [hf1, hg1]; rfl
   have HR1 := Lib.hid (fun w1 => frac_Right f hf w1)
   have HRR := Lib.hid (fun w1 => frac_Right g hg w1)
   rw [hf1] at HR1
   rw [hg1] at HRR
   unfold FracV.val at HR1 HRR ⊢
   go_enter Try.func17, Try.ntmps17
   go_upto_region 1 with fail
   rw [show ((w.alloc (.cells f.cells.toArray 37)).alloc (.cells g.cells.toArray 37)).alloc (.cells #[Value.bool false, .int .u32 0, .int .u32 0, .int .u32 0, .int .u32 0, .int .u32 0, .int .u32 0, .int .u32 0, .int .u32 0, .int .u32 0, .int .u32 0, .int .u32 0, .int .u32 0, .int .u32 0, .int .u32 0, .int .u32 0, .int .u32 0] 37) = W0 from HW0.out.symm]
   go_wp2_with (first
    | ((with_reducible refine g_ld 37 ?_); refine wpList_ld rfl _ _ rfl _ rfl _ HFF.out.ld' ?_)
    | (go_at_call 50; refine (HR1.out W0).mono ?_; rintro e w1 ⟨rfl, hb1⟩; have C1 : Hid (From W0 w1) := hb1; have HR2 := HRR; clear hb1 HR1 HRR)
    | ((with_reducible refine g_ld 37 ?_); refine wpList_ldw rfl _ _ rfl _ rfl _ (HFG.out.below C1.out HFG.out.lt).ld' ?_)
    | (go_at_call 50; refine (HR2.out _).mono ?_; rintro e w2 ⟨rfl, hb2⟩; have C2 : Hid (From W0 w2) := C1.out.trans (hb2.mono C1.out.size); have HB1 := Lib.hid (HB.out.trans (C2.out.mono HB.out.size)); have HR := Lib.hid (HFR.out.below C2.out HFR.out.lt); clear hb2 HR2)
    | ((with_reducible refine g_st 37 ?_); refine wpList_stF (f := zeroF) rfl _ _ rfl rfl rfl HR.out ?_; intro w5 hfb5 hgr5))
   refine bodyPost_ret (results_frac_err rfl _ rfl hfb5) rfl ⟨?_, HB1.out.grown hgr5 HB1.out.size (by intro q hq; injection hq with hq; omega)⟩
   rw [HBAD.out]
   rfl
  | true =>
   have HGOOD : Hid (addL f g = sumL f g) := by unfold Hid addL; rw [hf1, hg1]; rfl
   have HA := Lib.hid (fun w1 => frac_add f g hf hg (right_den hf1) (right_den hg1) w1)
   rw [HGOOD.out]
   obtain ⟨r, hr⟩ : ∃ r, r = sumL f g := ⟨_, rfl⟩
   rw [← hr] at HA ⊢
   have HR1 := Lib.hid (fun w1 => frac_Right f hf w1)
   have HRR := Lib.hid (fun w1 => frac_Right g hg w1)
   rw [hf1] at HR1
   rw [hg1] at HRR
   clear hr hf1 hg1 HGOOD
   unfold FracV.val at HR1 HRR HA ⊢
   go_enter Try.func17, Try.ntmps17
   go_upto_region 1 with fail
   rw [show ((w.alloc (.cells f.cells.toArray 37)).alloc (.cells g.cells.toArray 37)).alloc (.cells #[Value.bool false, .int .u32 0, .int .u32 0, .int .u32 0, .int .u32 0, .int .u32 0, .int .u32 0, .int .u32 0, .int .u32 0, .int .u32 0, .int .u32 0, .int .u32 0, .int .u32 0, .int .u32 0, .int .u32 0, .int .u32 0, .int .u32 0] 37) = W0 from HW0.out.symm]
   go_wp2_with (first
    | ((with_reducible refine g_ld 37 ?_); refine wpList_ld rfl _ _ rfl _ rfl _ HFF.out.ld' ?_)
    | (go_at_call 50; refine (HR1.out W0).mono ?_; rintro e w1 ⟨rfl, hb1⟩; have C1 : Hid (From W0 w1) := hb1; have HR2 := HRR; clear hb1 HR1 HRR)
    | ((with_reducible refine g_ld 37 ?_); refine wpList_ldw rfl _ _ rfl _ rfl _ (HFG.out.below C1.out HFG.out.lt).ld' ?_)
    | (go_at_call 50; refine (HR2.out _).mono ?_; rintro e w2 ⟨rfl, hb2⟩; have C2 : Hid (From W0 w2) := C1.out.trans (hb2.mono C1.out.size); clear hb2 HR2)
    | ((with_reducible refine g_ld 37 ?_); refine wpList_ld rfl _ _ rfl _ rfl _ (HFF.out.below C2.out HFF.out.lt).ld' ?_)
    | ((with_reducible refine g_ld 37 ?_); refine wpList_ld rfl _ _ rfl _ rfl _ (HFG.out.below C2.out HFG.out.lt).ld' ?_)
    | (go_at_call 51; refine (HA.out _).mono ?_; rintro e w3 ⟨rfl, hb3⟩; have C3 : Hid (From W0 w3) := C2.out.trans (hb3.mono C2.out.size); have HB1 := Lib.hid (HB.out.trans (C3.out.mono HB.out.size)); have HR := Lib.hid (HFR.out.below C3.out HFR.out.lt); clear hb3)
    | ((with_reducible refine g_st 37 ?_); refine wpList_stF (f := r.1) rfl _ _ rfl rfl rfl HR.out ?_; intro w5 hfb5 hgr5))
   refine bodyPost_ret (results_frac_err rfl _ rfl hfb5) rfl ⟨?_, HB1.out.grown hgr5 HB1.out.size (by intro q hq; injection hq with hq; omega)⟩
   rfl
theorem negL_fits {g : FracV} (h : g.fits) : (negL g).fits := h
set_option maxRecDepth 100000 in
set_option maxHeartbeats 8000000 in
theorem frac_Sub (f g : FracV) (hf : f.fits) (hg : g.fits) (w : World) : Calls Try.prog 16 #[f.val, g.val] w (FitPost w (subL f g)) := by
 obtain ⟨W0, hW0, hb0, hff, hfg, hfr⟩ := boxes3 f g w
 have HW0 := Lib.hid hW0
 have HB := Lib.hid hb0
 have HFF := Lib.hid hff
 have HFG := Lib.hid hfg
 have HFR := Lib.hid hfr
 clear hW0 hb0 hff hfg hfr
 cases hf1 : f.right with
 | false =>
  have HBAD : Hid (subL f g = (zeroF, 2)) := by unfold Hid subL; rw [hf1]; rfl
  have HR1 := Lib.hid (fun w1 => frac_Right f hf w1)
  rw [hf1] at HR1
  unfold FracV.val at HR1 ⊢
  go_enter Try.func16, Try.ntmps16
  go_upto_region 1 with fail
  rw [show ((w.alloc (.cells f.cells.toArray 37)).alloc (.cells g.cells.toArray 37)).alloc (.cells #[Value.bool false, .int .u32 0, .int .u32 0, .int .u32 0, .int .u32 0, .int .u32 0, .int .u32 0, .int .u32 0, .int .u32 0, .int .u32 0, .int .u32 0, .int .u32 0, .int .u32 0, .int .u32 0, .int .u32 0, .int .u32 0, .int .u32 0] 37) = W0 from HW0.out.symm]
  go_wp2_with (first
   | ((with_reducible refine g_ld 37 ?_); refine wpList_ld rfl _ _ rfl _ rfl _ HFF.out.ld' ?_)
   | (go_at_call 50; refine (HR1.out W0).mono ?_; rintro e w1 ⟨rfl, hb1⟩; have HB1 := Lib.hid (HB.out.trans (hb1.mono HB.out.size)); have HR := Lib.hid (HFR.out.below hb1 HFR.out.lt); clear hb1 HR1)
   | ((with_reducible refine g_st 37 ?_); refine wpList_stF (f := zeroF) rfl _ _ rfl rfl rfl HR.out ?_; intro w5 hfb5 hgr5))
  refine bodyPost_ret (results_frac_err rfl _ rfl hfb5) rfl ⟨?_, HB1.out.grown hgr5 HB1.out.size (by intro q hq; injection hq with hq; omega)⟩
  rw [HBAD.out]
  rfl
 | true =>
  cases hg1 : g.right with
  | false =>
   have HBAD : Hid (subL f g = (zeroF, 2)) := by unfold Hid subL; rw [hf1, hg1]; rfl
   have HR1 := Lib.hid (fun w1 => frac_Right f hf w1)
   have HRR := Lib.hid (fun w1 => frac_Right g hg w1)
   rw [hf1] at HR1
   rw [hg1] at HRR
   unfold FracV.val at HR1 HRR ⊢
   go_enter Try.func16, Try.ntmps16
   go_upto_region 1 with fail
   rw [show ((w.alloc (.cells f.cells.toArray 37)).alloc (.cells g.cells.toArray 37)).alloc (.cells #[Value.bool false, .int .u32 0, .int .u32 0, .int .u32 0, .int .u32 0, .int .u32 0, .int .u32 0, .int .u32 0, .int .u32 0, .int .u32 0, .int .u32 0, .int .u32 0, .int .u32 0, .int .u32 0, .int .u32 0, .int .u32 0, .int .u32 0] 37) = W0 from HW0.out.symm]
   go_wp2_with (first
    | ((with_reducible refine g_ld 37 ?_); refine wpList_ld rfl _ _ rfl _ rfl _ HFF.out.ld' ?_)
    | (go_at_call 50; refine (HR1.out W0).mono ?_; rintro e w1 ⟨rfl, hb1⟩; have C1 : Hid (From W0 w1) := hb1; have HR2 := HRR; clear hb1 HR1 HRR)
    | ((with_reducible refine g_ld 37 ?_); refine wpList_ldw rfl _ _ rfl _ rfl _ (HFG.out.below C1.out HFG.out.lt).ld' ?_)
    | (go_at_call 50; refine (HR2.out _).mono ?_; rintro e w2 ⟨rfl, hb2⟩; have C2 : Hid (From W0 w2) := C1.out.trans (hb2.mono C1.out.size); have HB1 := Lib.hid (HB.out.trans (C2.out.mono HB.out.size)); have HR := Lib.hid (HFR.out.below C2.out HFR.out.lt); clear hb2 HR2)
    | ((with_reducible refine g_st 37 ?_); refine wpList_stF (f := zeroF) rfl _ _ rfl rfl rfl HR.out ?_; intro w5 hfb5 hgr5))
   refine bodyPost_ret (results_frac_err rfl _ rfl hfb5) rfl ⟨?_, HB1.out.grown hgr5 HB1.out.size (by intro q hq; injection hq with hq; omega)⟩
   rw [HBAD.out]
   rfl
  | true =>
   have HGOOD : Hid (subL f g = sumL f (negL g)) := by unfold Hid subL; rw [hf1, hg1]; rfl
   have HA := Lib.hid (fun w1 => frac_add f (negL g) hf (negL_fits hg) (right_den hf1) (right_den (f := g) hg1) w1)
   have HT := Lib.hid (fun w1 => frac_turned g hg w1)
   rw [HGOOD.out]
   obtain ⟨r, hr⟩ : ∃ r, r = sumL f (negL g) := ⟨_, rfl⟩
   rw [← hr] at HA ⊢
   have HR1 := Lib.hid (fun w1 => frac_Right f hf w1)
   have HRR := Lib.hid (fun w1 => frac_Right g hg w1)
   rw [hf1] at HR1
   rw [hg1] at HRR
   have HP1 : Hid True := trivial
   clear hr hf1 hg1 HGOOD
   unfold FracV.val at HR1 HRR ⊢
   go_enter Try.func16, Try.ntmps16
   go_upto_region 1 with fail
   rw [show ((w.alloc (.cells f.cells.toArray 37)).alloc (.cells g.cells.toArray 37)).alloc (.cells #[Value.bool false, .int .u32 0, .int .u32 0, .int .u32 0, .int .u32 0, .int .u32 0, .int .u32 0, .int .u32 0, .int .u32 0, .int .u32 0, .int .u32 0, .int .u32 0, .int .u32 0, .int .u32 0, .int .u32 0, .int .u32 0, .int .u32 0] 37) = W0 from HW0.out.symm]
   go_wp2_with (first
    | ((with_reducible refine g_ld 37 ?_); refine wpList_ld rfl _ _ rfl _ rfl _ HFF.out.ld' ?_)
    | (go_at_call 50; refine (HR1.out W0).mono ?_; rintro e w1 ⟨rfl, hb1⟩; have C1 : Hid (From W0 w1) := hb1; have HR2 := HRR; clear hb1 HR1 HRR)
    | ((with_reducible refine g_ld 37 ?_); refine wpList_ldw rfl _ _ rfl _ rfl _ (HFG.out.below C1.out HFG.out.lt).ld' ?_)
    | (go_at_call 50; refine (HR2.out _).mono ?_; rintro e w2 ⟨rfl, hb2⟩; have C2 : Hid (From W0 w2) := C1.out.trans (hb2.mono C1.out.size); have HPA := HP1; clear hb2 HR2 HP1)
    )
   refine region_sub (g := w.heap.size) (g2 := w.heap.size + 1) (f := f.val) (f2 := g.val) (r := r) rfl (by kernel_rfl) (by kernel_rfl) (by kernel_rfl) rfl rfl (fun v _ => v = (negL g).val) (fun _ _ _ h _ => h)
    (fun w1 hb => ((HFF.out.below C2.out HFF.out.lt).below hb (Nat.lt_of_lt_of_le HFF.out.lt C2.out.size)).ld) (fun w1 hb => ((HFG.out.below C2.out HFG.out.lt).below hb (Nat.lt_of_lt_of_le HFG.out.lt C2.out.size)).ld)
    (fun w1 hb => (HT.out w1).mono (fun e w' h => ⟨_, h.1, h.2, rfl⟩)) (fun w1 u2 hb hu => by subst hu; exact (HA.out w1)) ?_
   intro u2 w3 hb3 _
   have C3 : Hid (From W0 w3) := C2.out.trans (hb3.mono C2.out.size)
   have HB1 := Lib.hid (HB.out.trans (C3.out.mono HB.out.size))
   have HR := Lib.hid (HFR.out.below C3.out HFR.out.lt)
   clear hb3
   simp only [List.drop_succ_cons, List.drop_zero]
   simp only [Act.put, List.setIfInBounds_toArray, List.set_cons_succ, List.set_cons_zero]
   go_wp2_with (first
    | ((with_reducible refine g_st 37 ?_); refine wpList_stF rfl _ _ rfl rfl rfl HR.out ?_; intro w5 hfb5 hgr5))
   refine bodyPost_ret (results_frac_err rfl _ rfl hfb5) rfl ⟨?_, HB1.out.grown hgr5 HB1.out.size (by intro q hq; injection hq with hq; omega)⟩
   rfl
set_option maxRecDepth 100000 in
set_option maxHeartbeats 8000000 in
theorem frac_Mul (f g : FracV) (hf : f.fits) (hg : g.fits) (w : World) : Calls Try.prog 18 #[f.val, g.val] w (FitPost w (mulL f g)) := by
 obtain ⟨W0, hW0, hb0, hff, hfg, hfr⟩ := boxes3 f g w
 have HW0 := Lib.hid hW0
 have HB := Lib.hid hb0
 have HFF := Lib.hid hff
 have HFG := Lib.hid hfg
 have HFR := Lib.hid hfr
 clear hW0 hb0 hff hfg hfr
 cases hf1 : f.right with
 | false =>
  have HBAD : Hid (mulL f g = (zeroF, 2)) := by unfold Hid mulL; rw [hf1]; rfl
  have HR1 := Lib.hid (fun w1 => frac_Right f hf w1)
  rw [hf1] at HR1
  unfold FracV.val at HR1 ⊢
  go_enter Try.func18, Try.ntmps18
  go_upto_region 1 with fail
  rw [show ((w.alloc (.cells f.cells.toArray 37)).alloc (.cells g.cells.toArray 37)).alloc (.cells #[Value.bool false, .int .u32 0, .int .u32 0, .int .u32 0, .int .u32 0, .int .u32 0, .int .u32 0, .int .u32 0, .int .u32 0, .int .u32 0, .int .u32 0, .int .u32 0, .int .u32 0, .int .u32 0, .int .u32 0, .int .u32 0, .int .u32 0] 37) = W0 from HW0.out.symm]
  go_wp2_with (first
   | ((with_reducible refine g_ld 37 ?_); refine wpList_ld rfl _ _ rfl _ rfl _ HFF.out.ld' ?_)
   | (go_at_call 50; refine (HR1.out W0).mono ?_; rintro e w1 ⟨rfl, hb1⟩; have HB1 := Lib.hid (HB.out.trans (hb1.mono HB.out.size)); have HR := Lib.hid (HFR.out.below hb1 HFR.out.lt); clear hb1 HR1)
   | ((with_reducible refine g_st 37 ?_); refine wpList_stF (f := zeroF) rfl _ _ rfl rfl rfl HR.out ?_; intro w5 hfb5 hgr5))
  refine bodyPost_ret (results_frac_err rfl _ rfl hfb5) rfl ⟨?_, HB1.out.grown hgr5 HB1.out.size (by intro q hq; injection hq with hq; omega)⟩
  rw [HBAD.out]
  rfl
 | true =>
  cases hg1 : g.right with
  | false =>
   have HBAD : Hid (mulL f g = (zeroF, 2)) := by unfold Hid mulL; rw [hf1, hg1]; rfl
   have HR1 := Lib.hid (fun w1 => frac_Right f hf w1)
   have HRR := Lib.hid (fun w1 => frac_Right g hg w1)
   rw [hf1] at HR1
   rw [hg1] at HRR
   unfold FracV.val at HR1 HRR ⊢
   go_enter Try.func18, Try.ntmps18
   go_upto_region 1 with fail
   rw [show ((w.alloc (.cells f.cells.toArray 37)).alloc (.cells g.cells.toArray 37)).alloc (.cells #[Value.bool false, .int .u32 0, .int .u32 0, .int .u32 0, .int .u32 0, .int .u32 0, .int .u32 0, .int .u32 0, .int .u32 0, .int .u32 0, .int .u32 0, .int .u32 0, .int .u32 0, .int .u32 0, .int .u32 0, .int .u32 0, .int .u32 0] 37) = W0 from HW0.out.symm]
   go_wp2_with (first
    | ((with_reducible refine g_ld 37 ?_); refine wpList_ld rfl _ _ rfl _ rfl _ HFF.out.ld' ?_)
    | (go_at_call 50; refine (HR1.out W0).mono ?_; rintro e w1 ⟨rfl, hb1⟩; have C1 : Hid (From W0 w1) := hb1; have HR2 := HRR; clear hb1 HR1 HRR)
    | ((with_reducible refine g_ld 37 ?_); refine wpList_ldw rfl _ _ rfl _ rfl _ (HFG.out.below C1.out HFG.out.lt).ld' ?_)
    | (go_at_call 50; refine (HR2.out _).mono ?_; rintro e w2 ⟨rfl, hb2⟩; have C2 : Hid (From W0 w2) := C1.out.trans (hb2.mono C1.out.size); have HB1 := Lib.hid (HB.out.trans (C2.out.mono HB.out.size)); have HR := Lib.hid (HFR.out.below C2.out HFR.out.lt); clear hb2 HR2)
    | ((with_reducible refine g_st 37 ?_); refine wpList_stF (f := zeroF) rfl _ _ rfl rfl rfl HR.out ?_; intro w5 hfb5 hgr5))
   refine bodyPost_ret (results_frac_err rfl _ rfl hfb5) rfl ⟨?_, HB1.out.grown hgr5 HB1.out.size (by intro q hq; injection hq with hq; omega)⟩
   rw [HBAD.out]
   rfl
  | true =>
   have HGOOD : Hid (mulL f g = fitL (f.neg != g.neg) (f.num * g.num) (f.den * g.den)) := by unfold Hid mulL; rw [hf1, hg1]; rfl
   rw [HGOOD.out]
   have hdf := right_den hf1
   have hdg := right_den hg1
   have HP1 := Lib.hid (fun w1 => frac_parts f hf w1)
   have HPP := Lib.hid (fun w1 => frac_parts g hg w1)
   obtain ⟨la, hla⟩ : ∃ la, la = len32 f.num := ⟨_, rfl⟩
   obtain ⟨lb, hlb⟩ : ∃ lb, lb = len32 f.den := ⟨_, rfl⟩
   obtain ⟨lc, hlc⟩ : ∃ lc, lc = len32 g.num := ⟨_, rfl⟩
   obtain ⟨ld, hld⟩ : ∃ ld, ld = len32 g.den := ⟨_, rfl⟩
   have HL := Lib.hid (And.intro hla (And.intro hlb (And.intro hlc hld)))
   have h16 : ∀ x, x < top256 → len32 x ≤ 16 := fun x hx => Nat.le_trans (len_top_le hx) (by omega)
   have HLL := Lib.hid (And.intro (h16 _ hf.1) (And.intro (h16 _ hf.2) (And.intro (h16 _ hg.1) (h16 _ hg.2))))
   have HM1 := Lib.hid (mul_top hf.1 hg.1)
   have HM2 := Lib.hid (mul_top hf.2 hg.2)
   have HY0 := Lib.hid (Nat.mul_pos (Nat.pos_of_ne_zero hdf) (Nat.pos_of_ne_zero hdg))
   obtain ⟨r, hr⟩ : ∃ r, r = fitL (f.neg != g.neg) (f.num * g.num) (f.den * g.den) := ⟨_, rfl⟩
   rw [← hr]
   have HRE := Lib.hid hr
   have HR1 := Lib.hid (fun w1 => frac_Right f hf w1)
   have HRR := Lib.hid (fun w1 => frac_Right g hg w1)
   rw [hf1] at HR1
   rw [hg1] at HRR
   clear hr hf1 hg1 HGOOD hla hlb hlc hld h16 hdf hdg
   unfold FracV.val at HR1 HRR HP1 HPP ⊢
   go_enter Try.func18, Try.ntmps18
   go_upto_region 1 with fail
   rw [show ((w.alloc (.cells f.cells.toArray 37)).alloc (.cells g.cells.toArray 37)).alloc (.cells #[Value.bool false, .int .u32 0, .int .u32 0, .int .u32 0, .int .u32 0, .int .u32 0, .int .u32 0, .int .u32 0, .int .u32 0, .int .u32 0, .int .u32 0, .int .u32 0, .int .u32 0, .int .u32 0, .int .u32 0, .int .u32 0, .int .u32 0] 37) = W0 from HW0.out.symm]
   go_wp2_with (first
    | ((with_reducible refine g_ld 37 ?_); refine wpList_ld rfl _ _ rfl _ rfl _ HFF.out.ld' ?_)
    | (go_at_call 50; refine (HR1.out W0).mono ?_; rintro e w1 ⟨rfl, hb1⟩; have C1 : Hid (From W0 w1) := hb1; have HR2 := HRR; clear hb1 HR1 HRR)
    | ((with_reducible refine g_ld 37 ?_); refine wpList_ldw rfl _ _ rfl _ rfl _ (HFG.out.below C1.out HFG.out.lt).ld' ?_)
    | (go_at_call 50; refine (HR2.out _).mono ?_; rintro e w2 ⟨rfl, hb2⟩; have C2 : Hid (From W0 w2) := C1.out.trans (hb2.mono C1.out.size); have HPA := HP1; clear hb2 HR2 HP1)
    | ((with_reducible refine g_ld 37 ?_); refine wpList_ld rfl _ _ rfl _ rfl _ (HFF.out.below C2.out HFF.out.lt).ld' ?_)
    | (go_at_call 53; refine (HPA.out _).mono ?_; rintro e w3 ⟨A1, c1, A2, c2, rfl, hr1, hr2, hb3⟩; have C3 : Hid (From W0 w3) := C2.out.trans (hb3.mono C2.out.size); have RA := Lib.hid hr1; have RB := Lib.hid hr2; rw [← HL.out.1, ← HL.out.2.1]; clear hr1 hr2 hb3 HPA; have HPB := HPP; clear HPP)
    | ((with_reducible refine g_ld 37 ?_); refine wpList_ld rfl _ _ rfl _ rfl _ (HFG.out.below C3.out HFG.out.lt).ld' ?_)
    | (go_at_call 53; refine (HPB.out _).mono ?_; rintro e w4 ⟨A3, c3, A4, c4, rfl, hr3, hr4, hb4⟩; have D4 : Hid (From w3 w4) := hb4; have C4 : Hid (From W0 w4) := C3.out.trans (hb4.mono C3.out.size); have RC := Lib.hid hr3; have RE := Lib.hid hr4; rw [← HL.out.2.2.1, ← HL.out.2.2.2]; have F4 := Lib.hid (HFF.out.below C4.out HFF.out.lt); have G4 := Lib.hid (HFG.out.below C4.out HFG.out.lt); have R4 := Lib.hid (HFR.out.below C4.out HFR.out.lt); have HB4 := Lib.hid (HB.out.trans (C4.out.mono HB.out.size)); clear hr3 hr4 hb4 HPB)
    )
   refine region_mul (g := w.heap.size) (g2 := w.heap.size + 1) (b := f.neg) (b2 := g.neg) (r := r) rfl (by kernel_rfl) (by kernel_rfl) (by kernel_rfl) rfl rfl rfl rfl rfl rfl (NatAt (f.num * g.num)) (NatAt (f.den * g.den)) NatAt.stays NatAt.stays
    (fun w1 hb => (F4.out.below hb F4.out.lt).ld_neg) (fun w1 hb => (G4.out.below hb G4.out.lt).ld_neg)
    (fun w1 hb => times_at HL.out.1 HL.out.2.2.1 (RA.out.from (D4.out.trans (hb.mono D4.out.size))) (RC.out.from hb) HLL.out.1 HLL.out.2.2.1) (fun w1 hb => times_at HL.out.2.1 HL.out.2.2.2 (RB.out.from (D4.out.trans (hb.mono D4.out.size))) (RE.out.from hb) HLL.out.2.1 HLL.out.2.2.2)
    (fun w1 u7 u10 hb hu hv => by rw [HRE.out]; exact fit_at hu hv (by have := HM1.out; omega) (by have := HM2.out; omega) HY0.out) ?_
   intro u7 u10 w5 hb5 _ _
   have HB1 := Lib.hid (HB4.out.trans (hb5.mono HB4.out.size))
   have HR := Lib.hid (R4.out.below hb5 R4.out.lt)
   clear hb5
   simp only [List.drop_succ_cons, List.drop_zero]
   simp only [Act.put, List.setIfInBounds_toArray, List.set_cons_succ, List.set_cons_zero]
   go_wp2_with (first
    | ((with_reducible refine g_st 37 ?_); refine wpList_stF rfl _ _ rfl rfl rfl HR.out ?_; intro w5 hfb5 hgr5))
   refine bodyPost_ret (results_frac_err rfl _ rfl hfb5) rfl ⟨?_, HB1.out.grown hgr5 HB1.out.size (by intro q hq; injection hq with hq; omega)⟩
   rfl
set_option maxRecDepth 100000 in
set_option maxHeartbeats 8000000 in
theorem frac_Div (f g : FracV) (hf : f.fits) (hg : g.fits) (w : World) : Calls Try.prog 45 #[f.val, g.val] w (FitPost w (divL f g)) := by
 obtain ⟨W0, hW0, hb0, hff, hfg, hfr⟩ := boxes3 f g w
 have HW0 := Lib.hid hW0
 have HB := Lib.hid hb0
 have HFF := Lib.hid hff
 have HFG := Lib.hid hfg
 have HFR := Lib.hid hfr
 clear hW0 hb0 hff hfg hfr
 have hneq := num_eql g.num hg.1
 cases hf1 : f.right with
 | false =>
  have HBAD : Hid (divL f g = (zeroF, 2)) := by unfold Hid divL; rw [hf1]; rfl
  have HR1 := Lib.hid (fun w1 => frac_Right f hf w1)
  rw [hf1] at HR1
  unfold FracV.val at HR1 ⊢
  go_enter Try.func45, Try.ntmps45
  go_upto_region 1 with fail
  rw [show ((w.alloc (.cells f.cells.toArray 37)).alloc (.cells g.cells.toArray 37)).alloc (.cells #[Value.bool false, .int .u32 0, .int .u32 0, .int .u32 0, .int .u32 0, .int .u32 0, .int .u32 0, .int .u32 0, .int .u32 0, .int .u32 0, .int .u32 0, .int .u32 0, .int .u32 0, .int .u32 0, .int .u32 0, .int .u32 0, .int .u32 0] 37) = W0 from HW0.out.symm]
  go_wp2_with (first
   | ((with_reducible refine g_ld 37 ?_); refine wpList_ld rfl _ _ rfl _ rfl _ HFF.out.ld' ?_)
   | (go_at_call 50; refine (HR1.out W0).mono ?_; rintro e w1 ⟨rfl, hb1⟩; have HB1 := Lib.hid (HB.out.trans (hb1.mono HB.out.size)); have HR := Lib.hid (HFR.out.below hb1 HFR.out.lt); clear hb1 HR1)
   | ((with_reducible refine g_st 37 ?_); refine wpList_stF (f := zeroF) rfl _ _ rfl rfl rfl HR.out ?_; intro w5 hfb5 hgr5))
  refine bodyPost_ret (results_frac_err rfl _ rfl hfb5) rfl ⟨?_, HB1.out.grown hgr5 HB1.out.size (by intro q hq; injection hq with hq; omega)⟩
  rw [HBAD.out]
  rfl
 | true =>
  cases hg1 : g.right with
  | false =>
   have HBAD : Hid (divL f g = (zeroF, 2)) := by unfold Hid divL; rw [hf1, hg1]; rfl
   have HR1 := Lib.hid (fun w1 => frac_Right f hf w1)
   have HRR := Lib.hid (fun w1 => frac_Right g hg w1)
   rw [hf1] at HR1
   rw [hg1] at HRR
   unfold FracV.val at HR1 HRR ⊢
   go_enter Try.func45, Try.ntmps45
   go_upto_region 1 with fail
   rw [show ((w.alloc (.cells f.cells.toArray 37)).alloc (.cells g.cells.toArray 37)).alloc (.cells #[Value.bool false, .int .u32 0, .int .u32 0, .int .u32 0, .int .u32 0, .int .u32 0, .int .u32 0, .int .u32 0, .int .u32 0, .int .u32 0, .int .u32 0, .int .u32 0, .int .u32 0, .int .u32 0, .int .u32 0, .int .u32 0, .int .u32 0] 37) = W0 from HW0.out.symm]
   go_wp2_with (first
    | ((with_reducible refine g_ld 37 ?_); refine wpList_ld rfl _ _ rfl _ rfl _ HFF.out.ld' ?_)
    | (go_at_call 50; refine (HR1.out W0).mono ?_; rintro e w1 ⟨rfl, hb1⟩; have C1 : Hid (From W0 w1) := hb1; have HR2 := HRR; clear hb1 HR1 HRR)
    | ((with_reducible refine g_ld 37 ?_); refine wpList_ldw rfl _ _ rfl _ rfl _ (HFG.out.below C1.out HFG.out.lt).ld' ?_)
    | (go_at_call 50; refine (HR2.out _).mono ?_; rintro e w2 ⟨rfl, hb2⟩; have C2 : Hid (From W0 w2) := C1.out.trans (hb2.mono C1.out.size); have HB1 := Lib.hid (HB.out.trans (C2.out.mono HB.out.size)); have HR := Lib.hid (HFR.out.below C2.out HFR.out.lt); clear hb2 HR2)
    | ((with_reducible refine g_st 37 ?_); refine wpList_stF (f := zeroF) rfl _ _ rfl rfl rfl HR.out ?_; intro w5 hfb5 hgr5))
   refine bodyPost_ret (results_frac_err rfl _ rfl hfb5) rfl ⟨?_, HB1.out.grown hgr5 HB1.out.size (by intro q hq; injection hq with hq; omega)⟩
   rw [HBAD.out]
   rfl
  | true =>
   by_cases hz : g.num = 0
   · have HBAD : Hid (divL f g = (zeroF, 2)) := by unfold Hid divL; rw [hf1, hg1, hz]; rfl
     have HZ : Hid (decide (g.num = 0) = true) := decide_eq_true hz
     simp only [HZ.out] at hneq
     have HP1 : Hid True := trivial
     have HR1 := Lib.hid (fun w1 => frac_Right f hf w1)
     have HRR := Lib.hid (fun w1 => frac_Right g hg w1)
     rw [hf1] at HR1
     rw [hg1] at HRR
     clear hf1 hg1 hz
     unfold FracV.val at HR1 HRR ⊢
     go_enter Try.func45, Try.ntmps45
     go_upto_region 1 with fail
     rw [show ((w.alloc (.cells f.cells.toArray 37)).alloc (.cells g.cells.toArray 37)).alloc (.cells #[Value.bool false, .int .u32 0, .int .u32 0, .int .u32 0, .int .u32 0, .int .u32 0, .int .u32 0, .int .u32 0, .int .u32 0, .int .u32 0, .int .u32 0, .int .u32 0, .int .u32 0, .int .u32 0, .int .u32 0, .int .u32 0, .int .u32 0] 37) = W0 from HW0.out.symm]
     go_wp2_with (first
      | ((with_reducible refine g_ld 37 ?_); refine wpList_ld rfl _ _ rfl _ rfl _ HFF.out.ld' ?_)
      | (go_at_call 50; refine (HR1.out W0).mono ?_; rintro e w1 ⟨rfl, hb1⟩; have C1 : Hid (From W0 w1) := hb1; have HR2 := HRR; clear hb1 HR1 HRR)
      | ((with_reducible refine g_ld 37 ?_); refine wpList_ldw rfl _ _ rfl _ rfl _ (HFG.out.below C1.out HFG.out.lt).ld' ?_)
      | (go_at_call 50; refine (HR2.out _).mono ?_; rintro e w2 ⟨rfl, hb2⟩; have C2 : Hid (From W0 w2) := C1.out.trans (hb2.mono C1.out.size); have HPA := HP1; clear hb2 HR2 HP1)
      | ((with_reducible refine g_ld 35 ?_); refine wpList_ldw rfl _ _ rfl _ rfl _ (HFG.out.below C2.out HFG.out.lt).ld_num ?_)
      | ((with_reducible refine g_st 37 ?_); refine wpList_stF (f := zeroF) rfl _ _ rfl rfl rfl (HFR.out.below C2.out HFR.out.lt) ?_; intro w5 hfb5 hgr5))
     have HB1 := Lib.hid (HB.out.trans (C2.out.mono HB.out.size))
     refine bodyPost_ret (results_frac_err rfl _ rfl hfb5) rfl ⟨?_, HB1.out.grown hgr5 HB1.out.size (by intro q hq; injection hq with hq; omega)⟩
     rw [HBAD.out]
     rfl
   · have HZ : Hid (decide (g.num = 0) = false) := decide_eq_false hz
     simp only [HZ.out] at hneq
     have HGOOD : Hid (divL f g = fitL (f.neg != g.neg) (f.num * g.den) (f.den * g.num)) := by unfold Hid divL; rw [hf1, hg1, decide_eq_true (show g.num ≠ 0 from hz)]; rfl
     rw [HGOOD.out]
     have hdf := right_den hf1
     have hdg := right_den hg1
     have HP1 := Lib.hid (fun w1 => frac_parts f hf w1)
     have HPP := Lib.hid (fun w1 => frac_parts g hg w1)
     obtain ⟨la, hla⟩ : ∃ la, la = len32 f.num := ⟨_, rfl⟩
     obtain ⟨lb, hlb⟩ : ∃ lb, lb = len32 f.den := ⟨_, rfl⟩
     obtain ⟨lc, hlc⟩ : ∃ lc, lc = len32 g.num := ⟨_, rfl⟩
     obtain ⟨ld, hld⟩ : ∃ ld, ld = len32 g.den := ⟨_, rfl⟩
     have HL := Lib.hid (And.intro hla (And.intro hlb (And.intro hlc hld)))
     have h16 : ∀ x, x < top256 → len32 x ≤ 16 := fun x hx => Nat.le_trans (len_top_le hx) (by omega)
     have HLL := Lib.hid (And.intro (h16 _ hf.1) (And.intro (h16 _ hf.2) (And.intro (h16 _ hg.1) (h16 _ hg.2))))
     have HM1 := Lib.hid (mul_top hf.1 hg.2)
     have HM2 := Lib.hid (mul_top hf.2 hg.1)
     have HY0 := Lib.hid (Nat.mul_pos (Nat.pos_of_ne_zero hdf) (Nat.pos_of_ne_zero hz))
     obtain ⟨r, hr⟩ : ∃ r, r = fitL (f.neg != g.neg) (f.num * g.den) (f.den * g.num) := ⟨_, rfl⟩
     rw [← hr]
     have HRE := Lib.hid hr
     have HR1 := Lib.hid (fun w1 => frac_Right f hf w1)
     have HRR := Lib.hid (fun w1 => frac_Right g hg w1)
     rw [hf1] at HR1
     rw [hg1] at HRR
     clear hr hf1 hg1 HGOOD hla hlb hlc hld h16 hdf hdg
     unfold FracV.val at HR1 HRR HP1 HPP ⊢
     go_enter Try.func45, Try.ntmps45
     go_upto_region 1 with fail
     rw [show ((w.alloc (.cells f.cells.toArray 37)).alloc (.cells g.cells.toArray 37)).alloc (.cells #[Value.bool false, .int .u32 0, .int .u32 0, .int .u32 0, .int .u32 0, .int .u32 0, .int .u32 0, .int .u32 0, .int .u32 0, .int .u32 0, .int .u32 0, .int .u32 0, .int .u32 0, .int .u32 0, .int .u32 0, .int .u32 0, .int .u32 0] 37) = W0 from HW0.out.symm]
     go_wp2_with (first
      | ((with_reducible refine g_ld 37 ?_); refine wpList_ld rfl _ _ rfl _ rfl _ HFF.out.ld' ?_)
      | (go_at_call 50; refine (HR1.out W0).mono ?_; rintro e w1 ⟨rfl, hb1⟩; have C1 : Hid (From W0 w1) := hb1; have HR2 := HRR; clear hb1 HR1 HRR)
      | ((with_reducible refine g_ld 37 ?_); refine wpList_ldw rfl _ _ rfl _ rfl _ (HFG.out.below C1.out HFG.out.lt).ld' ?_)
      | (go_at_call 50; refine (HR2.out _).mono ?_; rintro e w2 ⟨rfl, hb2⟩; have C2 : Hid (From W0 w2) := C1.out.trans (hb2.mono C1.out.size); have HPA := HP1; clear hb2 HR2 HP1)
      | ((with_reducible refine g_ld 35 ?_); refine wpList_ldw rfl _ _ rfl _ rfl _ (HFG.out.below C2.out HFG.out.lt).ld_num ?_)
      | ((with_reducible refine g_ld 37 ?_); refine wpList_ld rfl _ _ rfl _ rfl _ (HFF.out.below C2.out HFF.out.lt).ld' ?_)
      | (go_at_call 53; refine (HPA.out _).mono ?_; rintro e w3 ⟨A1, c1, A2, c2, rfl, hr1, hr2, hb3⟩; have C3 : Hid (From W0 w3) := C2.out.trans (hb3.mono C2.out.size); have RA := Lib.hid hr1; have RB := Lib.hid hr2; rw [← HL.out.1, ← HL.out.2.1]; clear hr1 hr2 hb3 HPA; have HPB := HPP; clear HPP)
      | ((with_reducible refine g_ld 37 ?_); refine wpList_ld rfl _ _ rfl _ rfl _ (HFG.out.below C3.out HFG.out.lt).ld' ?_)
      | (go_at_call 53; refine (HPB.out _).mono ?_; rintro e w4 ⟨A3, c3, A4, c4, rfl, hr3, hr4, hb4⟩; have D4 : Hid (From w3 w4) := hb4; have C4 : Hid (From W0 w4) := C3.out.trans (hb4.mono C3.out.size); have RC := Lib.hid hr3; have RE := Lib.hid hr4; rw [← HL.out.2.2.1, ← HL.out.2.2.2]; have F4 := Lib.hid (HFF.out.below C4.out HFF.out.lt); have G4 := Lib.hid (HFG.out.below C4.out HFG.out.lt); have R4 := Lib.hid (HFR.out.below C4.out HFR.out.lt); have HB4 := Lib.hid (HB.out.trans (C4.out.mono HB.out.size)); clear hr3 hr4 hb4 HPB)
      )
     refine region_divf (g := w.heap.size) (g2 := w.heap.size + 1) (b := f.neg) (b2 := g.neg) (r := r) rfl (by kernel_rfl) (by kernel_rfl) (by kernel_rfl) rfl rfl rfl rfl rfl rfl (NatAt (f.num * g.den)) (NatAt (f.den * g.num)) NatAt.stays NatAt.stays
      (fun w1 hb => (F4.out.below hb F4.out.lt).ld_neg) (fun w1 hb => (G4.out.below hb G4.out.lt).ld_neg)
      (fun w1 hb => times_at HL.out.1 HL.out.2.2.2 (RA.out.from (D4.out.trans (hb.mono D4.out.size))) (RE.out.from hb) HLL.out.1 HLL.out.2.2.2) (fun w1 hb => times_at HL.out.2.1 HL.out.2.2.1 (RB.out.from (D4.out.trans (hb.mono D4.out.size))) (RC.out.from hb) HLL.out.2.1 HLL.out.2.2.1)
      (fun w1 u7 u10 hb hu hv => by rw [HRE.out]; exact fit_at hu hv (by have := HM1.out; omega) (by have := HM2.out; omega) HY0.out) ?_
     intro u7 u10 w5 hb5 _ _
     have HB1 := Lib.hid (HB4.out.trans (hb5.mono HB4.out.size))
     have HR := Lib.hid (R4.out.below hb5 R4.out.lt)
     clear hb5
     simp only [List.drop_succ_cons, List.drop_zero]
     simp only [Act.put, List.setIfInBounds_toArray, List.set_cons_succ, List.set_cons_zero]
     go_wp2_with (first
      | ((with_reducible refine g_st 37 ?_); refine wpList_stF rfl _ _ rfl rfl rfl HR.out ?_; intro w5 hfb5 hgr5))
     refine bodyPost_ret (results_frac_err rfl _ rfl hfb5) rfl ⟨?_, HB1.out.grown hgr5 HB1.out.size (by intro q hq; injection hq with hq; omega)⟩
     rfl
end Go.Proofs.Ytcdfnlgimbecgaa
