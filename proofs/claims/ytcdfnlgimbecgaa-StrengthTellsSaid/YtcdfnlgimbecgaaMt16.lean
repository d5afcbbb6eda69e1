/-
  frac: add.
-/
import Derived.Test.YtcdfnlgimbecgaaMt15
namespace Go.Proofs.Ytcdfnlgimbecgaa
open Go.RowKit
theorem mul_top {x y : Nat} (hx : x < top256) (hy : y < top256) : len32 (x * y) ≤ 16 := by
 refine dig_len_le hB32 ?_
 have h1 : x < B32 ^ 8 := by rw [pow256]; exact hx
 have h2 : y < B32 ^ 8 := by rw [pow256]; exact hy
 have h3 : B32 ^ 16 = B32 ^ 8 * B32 ^ 8 := by rw [← Nat.pow_add]
 rw [h3]
 exact Nat.mul_lt_mul_of_lt_of_lt h1 h2
theorem add_len {x y : Nat} (hx : len32 x ≤ 16) (hy : len32 y ≤ 16) : len32 (x + y) ≤ 17 := by
 refine dig_len_le hB32 ?_
 have h1 : x < B32 ^ 16 := lt_of_dig_len hB32 hx
 have h2 : y < B32 ^ 16 := lt_of_dig_len hB32 hy
 have h3 : B32 ^ 17 = B32 ^ 16 * B32 := Nat.pow_succ ..
 have h4 : B32 ^ 16 * 2 ≤ B32 ^ 16 * B32 := Nat.mul_le_mul_left _ (by decide)
 omega
theorem sub_len {x y : Nat} (hx : len32 x ≤ 16) : len32 (x - y) ≤ 17 := by
 have h := dig_len_le hB32 (Nat.lt_of_le_of_lt (Nat.sub_le x y) (lt_of_dig_len hB32 (show len32 x ≤ 16 from hx)))
 exact Nat.le_trans h (by omega)
def sumN (neg neg' : Bool) (x y d : Nat) : FracV × Int := if neg = neg' then fitL neg (x + y) d else if x < y then fitL neg' (y - x) d else fitL neg (x - y) d
theorem sumN_scale (neg neg' : Bool) (x y d k : Nat) (hk : 0 < k) : sumN neg neg' (x * k) (y * k) (d * k) = sumN neg neg' x y d := by
 unfold sumN
 have e1 : x * k + y * k = (x + y) * k := by rw [Nat.add_mul]
 have e2 : y * k - x * k = (y - x) * k := by rw [Nat.sub_mul]
 have e3 : x * k - y * k = (x - y) * k := by rw [Nat.sub_mul]
 rw [e1, e2, e3, fitL_scale _ _ _ _ hk, fitL_scale _ _ _ _ hk, fitL_scale _ _ _ _ hk]
 simp only [Nat.mul_lt_mul_right hk]
theorem sumL_sumN (f g : FracV) : sumL f g = sumN f.neg g.neg (f.num * g.den) (g.num * f.den) (f.den * g.den) := rfl
theorem sumL_same (f g : FracV) (h : f.den = g.den) (hd : 0 < f.den) : sumL f g = sumN f.neg g.neg f.num g.num f.den := by
 rw [sumL_sumN, ← h, sumN_scale _ _ _ _ _ _ hd]
def NatAt (x : Nat) (v : Value) (w : World) : Prop := ∃ A c, v = .slice A (len32 x) c ∧ Rd32 w A x
theorem NatAt.stays {x : Nat} : ∀ v w w', NatAt x v w → From w w' → NatAt x v w' := by
 rintro v w w' ⟨A, c, h1, h2⟩ hb
 exact ⟨A, c, h1, h2.from hb⟩
theorem plus_at {x y : Nat} {A D : Option Addr} {ca cd n m : Nat} {w : World} (hn : n = len32 x) (hm : m = len32 y) (h : Rd32 w A x) (h' : Rd32 w D y) (hx : len32 x ≤ 16) (hy : len32 y ≤ 16) : Calls Try.prog 56 #[.slice A n ca, .slice D m cd] w fun e w' => ∃ v, e = .returned v ∧ From w w' ∧ NatAt (x + y) v w' := by
 refine (frac_plus A D ca cd x y n m hn hm w h h' (by omega) (by omega)).mono ?_
 rintro e w' ⟨A', c', rfl, hr, _, hb⟩
 exact ⟨_, rfl, hb, A', c', rfl, hr⟩
theorem minus_at {x y : Nat} {A D : Option Addr} {ca cd n m : Nat} {w : World} (hn : n = len32 x) (hm : m = len32 y) (h : Rd32 w A x) (h' : Rd32 w D y) (hx : len32 x ≤ 16) (hxy : y ≤ x) : Calls Try.prog 88 #[.slice A n ca, .slice D m cd] w fun e w' => ∃ v, e = .returned v ∧ From w w' ∧ NatAt (x - y) v w' := by
 refine (frac_minus A D ca cd x y n m hn hm w h h' (by omega) hxy).mono ?_
 rintro e w' ⟨A', c', rfl, hr, _, hb⟩
 exact ⟨_, rfl, hb, A', c', rfl, hr⟩
theorem times_at {x y : Nat} {A D : Option Addr} {ca cd n m : Nat} {w : World} (hn : n = len32 x) (hm : m = len32 y) (h : Rd32 w A x) (h' : Rd32 w D y) (hx : len32 x ≤ 16) (hy : len32 y ≤ 16) : Calls Try.prog 54 #[.slice A n ca, .slice D m cd] w fun e w' => ∃ v, e = .returned v ∧ From w w' ∧ NatAt (x * y) v w' := by
 refine (frac_times A D ca cd x y n m hn hm w h h' (by omega) (by omega)).mono ?_
 rintro e w' ⟨A', c', rfl, hr, _, hb⟩
 exact ⟨_, rfl, hb, A', c', rfl, hr⟩
theorem fit_at {neg : Bool} {x y : Nat} {u v : Value} {w : World} (hu : NatAt x u w) (hv : NatAt y v w) (hx : len32 x ≤ 17) (hy : len32 y ≤ 17) (hy0 : 0 < y) : Calls Try.prog 46 #[.bool neg, u, v] w (FitPost w (fitL neg x y)) := by
 obtain ⟨A, c, rfl, hr⟩ := hu
 obtain ⟨D, d, rfl, hr'⟩ := hv
 exact frac_fit neg A D c d x y _ _ rfl rfl w hr hr' (by omega) (by omega) hy0
set_option maxRecDepth 100000 in
set_option maxHeartbeats 8000000 in
theorem frac_add (f g : FracV) (hf : f.fits) (hg : g.fits) (hdf : f.den ≠ 0) (hdg : g.den ≠ 0) (w : World) : Calls Try.prog 51 #[f.val, g.val] w (FitPost w (sumL f g)) := by
 obtain ⟨W0, hW0⟩ : ∃ W0, W0 = ((w.alloc (.cells f.cells.toArray 37)).alloc (.cells g.cells.toArray 37)).alloc (.cells zeroF.cells.toArray 37) := ⟨_, rfl⟩
 have s1 : (w.alloc (.cells f.cells.toArray 37)).heap.size = w.heap.size + 1 := by simp
 have s2 : ((w.alloc (.cells f.cells.toArray 37)).alloc (.cells g.cells.toArray 37)).heap.size = w.heap.size + 2 := by simp
 have hb1 : Below w.heap.size w (w.alloc (.cells f.cells.toArray 37)) := (Below.refl _ _).alloc (Nat.le_refl _) _
 have hb0 : Below w.heap.size w W0 := by rw [hW0]; exact (hb1.alloc (by omega) _).alloc (by omega) _
 have hff : FB W0 w.heap.size f := by
  have h1 := FB.new w f
  have h2 := h1.below ((Below.refl _ _).alloc (Nat.le_refl _) (.cells g.cells.toArray 37)) h1.lt
  rw [hW0]
  exact h2.below ((Below.refl _ _).alloc (Nat.le_refl _) _) h2.lt
 have hfg : FB W0 (w.heap.size + 1) g := by
  have h1 := FB.new (w.alloc (.cells f.cells.toArray 37)) g
  have h2 := h1.below ((Below.refl _ _).alloc (Nat.le_refl _) (.cells zeroF.cells.toArray 37)) h1.lt
  rw [s1] at h2
  rw [hW0]
  exact h2
 have hfr : FB W0 (w.heap.size + 1 + 1) zeroF := by
  have h1 := FB.new ((w.alloc (.cells f.cells.toArray 37)).alloc (.cells g.cells.toArray 37)) zeroF
  rw [s2] at h1
  rw [hW0]
  exact h1
 have HP1 := Lib.hid (fun w1 => frac_parts f hf w1)
 have HPP := Lib.hid (fun w1 => frac_parts g hg w1)
 obtain ⟨la, hla⟩ : ∃ la, la = len32 f.num := ⟨_, rfl⟩
 obtain ⟨lb, hlb⟩ : ∃ lb, lb = len32 f.den := ⟨_, rfl⟩
 obtain ⟨lc, hlc⟩ : ∃ lc, lc = len32 g.num := ⟨_, rfl⟩
 obtain ⟨ld, hld⟩ : ∃ ld, ld = len32 g.den := ⟨_, rfl⟩
 have HL := Lib.hid (And.intro hla (And.intro hlb (And.intro hlc hld)))
 have h16 : ∀ x, x < top256 → len32 x ≤ 16 := fun x hx => Nat.le_trans (len_top_le hx) (by omega)
 have HLL := Lib.hid (And.intro (h16 _ hf.1) (And.intro (h16 _ hf.2) (And.intro (h16 _ hg.1) (h16 _ hg.2))))
 have HDF := Lib.hid (Nat.pos_of_ne_zero hdf)
 have HDG := Lib.hid (Nat.pos_of_ne_zero hdg)
 have HM := Lib.hid (And.intro (mul_top hf.1 hg.2) (And.intro (mul_top hg.1 hf.2) (mul_top hf.2 hg.2)))
 have HFF := Lib.hid hff
 have HFG := Lib.hid hfg
 have HFR := Lib.hid hfr
 have HB := Lib.hid hb0
 have HW0 := Lib.hid hW0
 obtain ⟨r, hr⟩ : ∃ r, r = sumL f g := ⟨_, rfl⟩
 have HSR := Lib.hid hr
 rw [← hr]
 clear hr hla hlb hlc hld h16 hff hfg hfr hb0 hb1 s1 s2 hdf hdg hW0
 unfold FracV.val at HP1 HPP
 unfold FracV.val
 have HT : Hid (∀ (x y n m : Nat) (w1 : World) (A D : Option Addr) (c d : Nat), n = len32 x → m = len32 y → Rd32 w1 A x → Rd32 w1 D y → len32 x ≤ 16 → len32 y ≤ 16 → ∀ z nz, z = x * y → nz = len32 z → Calls Try.prog 54 #[.slice A n c, .slice D m d] w1 fun e w' => ∃ A' c', e = .returned (.slice A' nz c') ∧ Rd32 w' A' z ∧ From w1 w') := by
  intro x y n m w1 A D c d hn hm h1 h2 h3 h4 z nz hz hnz
  refine (frac_times A D c d x y n m hn hm w1 h1 h2 (by omega) (by omega)).mono ?_
  rintro e w' ⟨A', c', rfl, hr, _, hb⟩
  rw [hnz, hz]
  exact ⟨A', c', rfl, hr, hb⟩
 obtain ⟨p1, hp1⟩ : ∃ p1, p1 = f.num * g.den := ⟨_, rfl⟩
 obtain ⟨p2, hp2⟩ : ∃ p2, p2 = g.num * f.den := ⟨_, rfl⟩
 obtain ⟨p3, hp3⟩ : ∃ p3, p3 = f.den * g.den := ⟨_, rfl⟩
 obtain ⟨n1, hn1⟩ : ∃ n1, n1 = len32 p1 := ⟨_, rfl⟩
 obtain ⟨n2, hn2⟩ : ∃ n2, n2 = len32 p2 := ⟨_, rfl⟩
 obtain ⟨n3, hn3⟩ : ∃ n3, n3 = len32 p3 := ⟨_, rfl⟩
 have HP := Lib.hid (And.intro hp1 (And.intro hp2 (And.intro hp3 (And.intro hn1 (And.intro hn2 hn3)))))
 rw [← hp1, ← hp2, ← hp3] at HM
 clear hp1 hp2 hp3 hn1 hn2 hn3
 obtain ⟨bq, hbq⟩ : ∃ bq, bq = decide (f.den = g.den) := ⟨_, rfl⟩
 have HEQ := Lib.hid hbq
 clear hbq
 cases bq with
 | true =>
  have hden : f.den = g.den := of_decide_eq_true HEQ.out.symm
  obtain ⟨X, hX⟩ : ∃ X, X = f.num := ⟨_, rfl⟩
  obtain ⟨Y, hY⟩ : ∃ Y, Y = g.num := ⟨_, rfl⟩
  obtain ⟨Z, hZ⟩ : ∃ Z, Z = f.den := ⟨_, rfl⟩
  have HSUM : Hid (r = sumN f.neg g.neg X Y Z) := by unfold Hid; rw [HSR.out, sumL_same f g hden HDF.out, hX, hY, hZ]
  have HNX : Hid (la = len32 X) := by unfold Hid; rw [hX]; exact HL.out.1
  have HNY : Hid (lc = len32 Y) := by unfold Hid; rw [hY]; exact HL.out.2.2.1
  have HND : Hid (lb = len32 Z) := by unfold Hid; rw [hZ]; exact HL.out.2.1
  have HLX : Hid (len32 X ≤ 16) := by unfold Hid; rw [hX]; exact HLL.out.1
  have HLY : Hid (len32 Y ≤ 16) := by unfold Hid; rw [hY]; exact HLL.out.2.2.1
  have HLD : Hid (len32 Z ≤ 16) := by unfold Hid; rw [hZ]; exact HLL.out.2.1
  have HD0 : Hid (0 < Z) := by unfold Hid; rw [hZ]; exact HDF.out
  have HXX := Lib.hid (And.intro hX (And.intro hY hZ))
  clear hX hY hZ hden
  go_enter Try.func51, Try.ntmps51
  go_upto_region 1 with fail
  rw [show ((w.alloc (.cells f.cells.toArray 37)).alloc (.cells g.cells.toArray 37)).alloc (.cells #[Value.bool false, .int .u32 0, .int .u32 0, .int .u32 0, .int .u32 0, .int .u32 0, .int .u32 0, .int .u32 0, .int .u32 0, .int .u32 0, .int .u32 0, .int .u32 0, .int .u32 0, .int .u32 0, .int .u32 0, .int .u32 0, .int .u32 0] 37) = W0 from HW0.out.symm]
  go_upto_region 6 with (first
   | ((with_reducible refine g_ld 37 ?_); refine wpList_ld rfl _ _ rfl _ rfl _ HFF.out.ld' ?_)
   | (go_at_call 53; refine (HP1.out W0).mono ?_; rintro e w1 ⟨A1, c1, A2, c2, rfl, hr1, hr2, hb1⟩; have C1 : Hid (From W0 w1) := hb1; have RA := Lib.hid hr1; have RB := Lib.hid hr2; rw [← HL.out.1, ← HL.out.2.1]; clear hr1 hr2 hb1 HP1; have HP2 := HPP; clear HPP)
   | ((with_reducible refine g_ld 37 ?_); refine wpList_ld rfl _ _ rfl _ rfl _ (HFG.out.below C1.out HFG.out.lt).ld' ?_)
   | (go_at_call 53; refine (HP2.out w1).mono ?_; rintro e w2 ⟨A3, c3, A4, c4, rfl, hr3, hr4, hb2⟩; have C2 : Hid (From W0 w2) := C1.out.trans (hb2.mono C1.out.size); have D2 : Hid (From w1 w2) := hb2; have RC := Lib.hid hr3; have RE := Lib.hid hr4; rw [← HL.out.2.2.1, ← HL.out.2.2.2]; clear hr3 hr4 hb2 HP2; have HTA := HT)
   | (go_at_call 54; refine (HTA.out f.num g.den la ld w2 A1 A4 c1 c4 HL.out.1 HL.out.2.2.2 (RA.out.from D2.out) RE.out HLL.out.1 HLL.out.2.2.2 p1 n1 HP.out.1 HP.out.2.2.2.1).mono ?_; rintro e w3 ⟨A5, c5, rfl, hr5, hb3⟩; have R5 := Lib.hid hr5; have D3 : Hid (From w2 w3) := hb3; clear hr5 hb3 HTA; have HTB := HT)
   | (go_at_call 54; refine (HTB.out g.num f.den lc lb w3 A3 A2 c3 c2 HL.out.2.2.1 HL.out.2.1 (RC.out.from D3.out) (RB.out.from (D2.out.trans (D3.out.mono D2.out.size))) HLL.out.2.2.1 HLL.out.2.1 p2 n2 HP.out.2.1 HP.out.2.2.2.2.1).mono ?_; rintro e w4 ⟨A6, c6, rfl, hr6, hb4⟩; have R6 := Lib.hid hr6; have D4 : Hid (From w2 w4) := D3.out.trans (hb4.mono D3.out.size); have R54 := Lib.hid (R5.out.from hb4); clear hr6 hb4 HTB; have HTC := HT)
   | (go_at_call 54; refine (HTC.out f.den g.den lb ld w4 A2 A4 c2 c4 HL.out.2.1 HL.out.2.2.2 (RB.out.from (D2.out.trans (D4.out.mono D2.out.size))) (RE.out.from D4.out) HLL.out.2.1 HLL.out.2.2.2 p3 n3 HP.out.2.2.1 HP.out.2.2.2.2.2).mono ?_; rintro e w5 ⟨A7, c7, rfl, hr7, hb5⟩; have R7 := Lib.hid hr7; have D5 : Hid (From w2 w5) := D4.out.trans (hb5.mono D4.out.size); have R55 := Lib.hid (R54.out.from hb5); have R65 := Lib.hid (R6.out.from hb5); clear hr7 hb5 HTC)
   | (go_at_call 86; refine (nat_equal A2 A4 c2 c4 f.den g.den lb ld HL.out.2.1 HL.out.2.2.2 w5 (RB.out.from (D2.out.trans (D5.out.mono D2.out.size))) (RE.out.from D5.out) (by have := HLL.out; omega)).mono ?_; rintro e w6 ⟨rfl, hb6⟩; rw [← HEQ.out]; have C6 : Hid (From W0 w6) := C2.out.trans ((D5.out.trans (hb6.mono D5.out.size)).mono C2.out.size); have C26 : Hid (From w2 w6) := D5.out.trans (hb6.mono D5.out.size); have C16 : Hid (From w1 w6) := D2.out.trans (C26.out.mono D2.out.size); have C56 : Hid (From w5 w6) := hb6; clear hb6))
  have HFF := Lib.hid (HFF.out.below C6.out HFF.out.lt)
  have HFG := Lib.hid (HFG.out.below C6.out HFG.out.lt)
  have HFR := Lib.hid (HFR.out.below C6.out HFR.out.lt)
  have HB := Lib.hid (HB.out.trans (C6.out.mono HB.out.size))
  have RX : Hid (Rd32 w6 A1 X) := by unfold Hid; rw [HXX.out.1]; exact RA.out.from C16.out
  have RY : Hid (Rd32 w6 A3 Y) := by unfold Hid; rw [HXX.out.2.1]; exact RC.out.from C26.out
  have RD : Hid (Rd32 w6 A2 Z) := by unfold Hid; rw [HXX.out.2.2]; exact RB.out.from C16.out
  clear HT RA RB RC HP HM HL HLL
  obtain ⟨AX, hren⟩ : ∃ AX, AX = A1 := ⟨_, rfl⟩
  subst hren
  obtain ⟨AY, hren⟩ : ∃ AY, AY = A3 := ⟨_, rfl⟩
  subst hren
  obtain ⟨AD, hren⟩ : ∃ AD, AD = A2 := ⟨_, rfl⟩
  subst hren
  obtain ⟨cx, hren⟩ : ∃ cx, cx = c1 := ⟨_, rfl⟩
  subst hren
  obtain ⟨cy, hren⟩ : ∃ cy, cy = c3 := ⟨_, rfl⟩
  subst hren
  obtain ⟨cz, hren⟩ : ∃ cz, cz = c2 := ⟨_, rfl⟩
  subst hren
  by_cases hbb : f.neg = g.neg
  · have hbe : (f.neg == g.neg) = true := by rw [hbb]; simp
    have HBB := Lib.hid hbb
    clear hbb
    go_wp2_with (first
     | ((with_reducible refine g_ld 4 ?_); refine wpList_ld rfl _ _ rfl _ rfl _ HFF.out.ld_neg ?_; have HFF2 := HFF; clear HFF)
     | ((with_reducible refine g_ld 4 ?_); refine wpList_ld rfl _ _ rfl _ rfl _ HFG.out.ld_neg ?_))
    refine region_add1 (g := w.heap.size) (b := f.neg) rfl (by kernel_rfl) (by kernel_rfl) (by kernel_rfl) rfl rfl rfl rfl (r := fitL f.neg (X + Y) Z) (NatAt (X + Y)) NatAt.stays
     (fun w1 hb => (HFF2.out.below hb HFF2.out.lt).ld_neg) (fun w1 hb => plus_at HNX.out HNY.out (RX.out.from hb) (RY.out.from hb) HLX.out HLY.out)
     (fun w1 u4 hb hu => fit_at hu ⟨AD, cz, by rw [← HND.out]; rfl, RD.out.from hb⟩ (add_len HLX.out HLY.out) (by have := HLD.out; omega) HD0.out) ?_
    intro u4 w1 hb _
    have HB1 := Lib.hid (HB.out.trans (hb.mono HB.out.size))
    have HR1 := Lib.hid (HFR.out.below hb HFR.out.lt)
    clear hb
    simp only [List.drop_succ_cons, List.drop_zero]
    simp only [Act.put, List.setIfInBounds_toArray, List.set_cons_succ, List.set_cons_zero]
    go_wp2_with (first
     | ((with_reducible refine g_st 37 ?_); refine wpList_stF rfl _ _ rfl rfl rfl HR1.out ?_; intro w5 hfb5 hgr5))
    refine bodyPost_ret (results_frac_err rfl _ rfl hfb5) rfl ⟨?_, HB1.out.grown hgr5 HB1.out.size (by intro q hq; injection hq with hq; omega)⟩
    rw [HSUM.out]
    unfold sumN
    rw [if_pos HBB.out]
    rfl
  · have hbe : (f.neg == g.neg) = false := by simpa using hbb
    have HBB := Lib.hid hbb
    have HC := Lib.hid (frac_cmp AX AY cx cy X Y _ _ HNX.out HNY.out _ RX.out RY.out (by have := HLX.out; omega) (by have := HLY.out; omega))
    by_cases hxy : X < Y
    · rw [cmpNat_lt hxy] at HC
      have HXY := Lib.hid hxy
      clear hbb hxy
      go_wp2_with (first
       | ((with_reducible refine g_ld 4 ?_); refine wpList_ld rfl _ _ rfl _ rfl _ HFF.out.ld_neg ?_; have HFF2 := HFF; clear HFF)
       | ((with_reducible refine g_ld 4 ?_); refine wpList_ld rfl _ _ rfl _ rfl _ HFG.out.ld_neg ?_)
       | (go_at_call 87; refine (HC.out).mono ?_; rintro e w4 ⟨rfl, hb4⟩; have HB4 := Lib.hid (HB.out.trans (hb4.mono HB.out.size)); have C4 := Lib.hid hb4; clear hb4))
      have HB := HB4
      have HFG4 := Lib.hid (HFG.out.below C4.out HFG.out.lt)
      have HFR := Lib.hid (HFR.out.below C4.out HFR.out.lt)
      have RX := Lib.hid (RX.out.from C4.out)
      have RY := Lib.hid (RY.out.from C4.out)
      have RD := Lib.hid (RD.out.from C4.out)
      refine region_add2 (g := w.heap.size + 1) (b := g.neg) rfl (by kernel_rfl) (by kernel_rfl) (by kernel_rfl) rfl rfl rfl rfl (r := fitL g.neg (Y - X) Z) (NatAt (Y - X)) NatAt.stays
       (fun w1 hb => (HFG4.out.below hb HFG4.out.lt).ld_neg) (fun w1 hb => minus_at HNY.out HNX.out (RY.out.from hb) (RX.out.from hb) HLY.out (Nat.le_of_lt HXY.out))
       (fun w1 u4 hb hu => fit_at hu ⟨AD, cz, by rw [← HND.out]; rfl, RD.out.from hb⟩ (sub_len HLY.out) (by have := HLD.out; omega) HD0.out) ?_
      intro u4 w1 hb _
      have HB1 := Lib.hid (HB.out.trans (hb.mono HB.out.size))
      have HR1 := Lib.hid (HFR.out.below hb HFR.out.lt)
      clear hb
      simp only [List.drop_succ_cons, List.drop_zero]
      simp only [Act.put, List.setIfInBounds_toArray, List.set_cons_succ, List.set_cons_zero]
      go_wp2_with (first
       | ((with_reducible refine g_st 37 ?_); refine wpList_stF rfl _ _ rfl rfl rfl HR1.out ?_; intro w5 hfb5 hgr5))
      refine bodyPost_ret (results_frac_err rfl _ rfl hfb5) rfl ⟨?_, HB1.out.grown hgr5 HB1.out.size (by intro q hq; injection hq with hq; omega)⟩
      rw [HSUM.out]
      unfold sumN
      rw [if_neg HBB.out, if_pos HXY.out]
      rfl
    · have hge : ¬ cmpNat X Y < 0 := by
       unfold cmpNat
       rw [if_neg hxy]
       split <;> decide
      generalize cmpNat X Y = cv at HC hge
      have HXY := Lib.hid hxy
      clear hbb hxy
      go_wp2_with (first
       | ((with_reducible refine g_ld 4 ?_); refine wpList_ld rfl _ _ rfl _ rfl _ HFF.out.ld_neg ?_; have HFF2 := HFF; clear HFF)
       | ((with_reducible refine g_ld 4 ?_); refine wpList_ld rfl _ _ rfl _ rfl _ HFG.out.ld_neg ?_)
       | (go_at_call 87; refine (HC.out).mono ?_; rintro e w4 ⟨rfl, hb4⟩; have HB4 := Lib.hid (HB.out.trans (hb4.mono HB.out.size)); have C4 := Lib.hid hb4; clear hb4))
      have HB := HB4
      have HFF4 := Lib.hid (HFF2.out.below C4.out HFF2.out.lt)
      have HFR := Lib.hid (HFR.out.below C4.out HFR.out.lt)
      have RX := Lib.hid (RX.out.from C4.out)
      have RY := Lib.hid (RY.out.from C4.out)
      have RD := Lib.hid (RD.out.from C4.out)
      refine region_add3 (g := w.heap.size) (b := f.neg) rfl (by kernel_rfl) (by kernel_rfl) (by kernel_rfl) rfl rfl rfl rfl (r := fitL f.neg (X - Y) Z) (NatAt (X - Y)) NatAt.stays
       (fun w1 hb => (HFF4.out.below hb HFF4.out.lt).ld_neg) (fun w1 hb => minus_at HNX.out HNY.out (RX.out.from hb) (RY.out.from hb) HLX.out (Nat.le_of_not_lt HXY.out))
       (fun w1 u4 hb hu => fit_at hu ⟨AD, cz, by rw [← HND.out]; rfl, RD.out.from hb⟩ (sub_len HLX.out) (by have := HLD.out; omega) HD0.out) ?_
      intro u4 w1 hb _
      have HB1 := Lib.hid (HB.out.trans (hb.mono HB.out.size))
      have HR1 := Lib.hid (HFR.out.below hb HFR.out.lt)
      clear hb
      simp only [List.drop_succ_cons, List.drop_zero]
      simp only [Act.put, List.setIfInBounds_toArray, List.set_cons_succ, List.set_cons_zero]
      go_wp2_with (first
       | ((with_reducible refine g_st 37 ?_); refine wpList_stF rfl _ _ rfl rfl rfl HR1.out ?_; intro w5 hfb5 hgr5))
      refine bodyPost_ret (results_frac_err rfl _ rfl hfb5) rfl ⟨?_, HB1.out.grown hgr5 HB1.out.size (by intro q hq; injection hq with hq; omega)⟩
      rw [HSUM.out]
      unfold sumN
      rw [if_neg HBB.out, if_neg HXY.out]
      rfl
 | false =>
  have hden : f.den ≠ g.den := fun h => by have := HEQ.out; rw [decide_eq_true h] at this; cases this
  obtain ⟨X, hX⟩ : ∃ X, X = p1 := ⟨_, rfl⟩
  obtain ⟨Y, hY⟩ : ∃ Y, Y = p2 := ⟨_, rfl⟩
  obtain ⟨Z, hZ⟩ : ∃ Z, Z = p3 := ⟨_, rfl⟩
  have HSUM : Hid (r = sumN f.neg g.neg X Y Z) := by unfold Hid; rw [HSR.out, sumL_sumN, hX, hY, hZ, HP.out.1, HP.out.2.1, HP.out.2.2.1]
  have HNX : Hid (n1 = len32 X) := by unfold Hid; rw [hX]; exact HP.out.2.2.2.1
  have HNY : Hid (n2 = len32 Y) := by unfold Hid; rw [hY]; exact HP.out.2.2.2.2.1
  have HND : Hid (n3 = len32 Z) := by unfold Hid; rw [hZ]; exact HP.out.2.2.2.2.2
  have HLX : Hid (len32 X ≤ 16) := by unfold Hid; rw [hX]; exact HM.out.1
  have HLY : Hid (len32 Y ≤ 16) := by unfold Hid; rw [hY]; exact HM.out.2.1
  have HLD : Hid (len32 Z ≤ 16) := by unfold Hid; rw [hZ]; exact HM.out.2.2
  have HD0 : Hid (0 < Z) := by unfold Hid; rw [hZ, HP.out.2.2.1]; exact Nat.mul_pos HDF.out HDG.out
  have HXX := Lib.hid (And.intro hX (And.intro hY hZ))
  clear hX hY hZ hden
  go_enter Try.func51, Try.ntmps51
  go_upto_region 1 with fail
  rw [show ((w.alloc (.cells f.cells.toArray 37)).alloc (.cells g.cells.toArray 37)).alloc (.cells #[Value.bool false, .int .u32 0, .int .u32 0, .int .u32 0, .int .u32 0, .int .u32 0, .int .u32 0, .int .u32 0, .int .u32 0, .int .u32 0, .int .u32 0, .int .u32 0, .int .u32 0, .int .u32 0, .int .u32 0, .int .u32 0, .int .u32 0] 37) = W0 from HW0.out.symm]
  go_upto_region 6 with (first
   | ((with_reducible refine g_ld 37 ?_); refine wpList_ld rfl _ _ rfl _ rfl _ HFF.out.ld' ?_)
   | (go_at_call 53; refine (HP1.out W0).mono ?_; rintro e w1 ⟨A1, c1, A2, c2, rfl, hr1, hr2, hb1⟩; have C1 : Hid (From W0 w1) := hb1; have RA := Lib.hid hr1; have RB := Lib.hid hr2; rw [← HL.out.1, ← HL.out.2.1]; clear hr1 hr2 hb1 HP1; have HP2 := HPP; clear HPP)
   | ((with_reducible refine g_ld 37 ?_); refine wpList_ld rfl _ _ rfl _ rfl _ (HFG.out.below C1.out HFG.out.lt).ld' ?_)
   | (go_at_call 53; refine (HP2.out w1).mono ?_; rintro e w2 ⟨A3, c3, A4, c4, rfl, hr3, hr4, hb2⟩; have C2 : Hid (From W0 w2) := C1.out.trans (hb2.mono C1.out.size); have D2 : Hid (From w1 w2) := hb2; have RC := Lib.hid hr3; have RE := Lib.hid hr4; rw [← HL.out.2.2.1, ← HL.out.2.2.2]; clear hr3 hr4 hb2 HP2; have HTA := HT)
   | (go_at_call 54; refine (HTA.out f.num g.den la ld w2 A1 A4 c1 c4 HL.out.1 HL.out.2.2.2 (RA.out.from D2.out) RE.out HLL.out.1 HLL.out.2.2.2 p1 n1 HP.out.1 HP.out.2.2.2.1).mono ?_; rintro e w3 ⟨A5, c5, rfl, hr5, hb3⟩; have R5 := Lib.hid hr5; have D3 : Hid (From w2 w3) := hb3; clear hr5 hb3 HTA; have HTB := HT)
   | (go_at_call 54; refine (HTB.out g.num f.den lc lb w3 A3 A2 c3 c2 HL.out.2.2.1 HL.out.2.1 (RC.out.from D3.out) (RB.out.from (D2.out.trans (D3.out.mono D2.out.size))) HLL.out.2.2.1 HLL.out.2.1 p2 n2 HP.out.2.1 HP.out.2.2.2.2.1).mono ?_; rintro e w4 ⟨A6, c6, rfl, hr6, hb4⟩; have R6 := Lib.hid hr6; have D4 : Hid (From w2 w4) := D3.out.trans (hb4.mono D3.out.size); have R54 := Lib.hid (R5.out.from hb4); clear hr6 hb4 HTB; have HTC := HT)
   | (go_at_call 54; refine (HTC.out f.den g.den lb ld w4 A2 A4 c2 c4 HL.out.2.1 HL.out.2.2.2 (RB.out.from (D2.out.trans (D4.out.mono D2.out.size))) (RE.out.from D4.out) HLL.out.2.1 HLL.out.2.2.2 p3 n3 HP.out.2.2.1 HP.out.2.2.2.2.2).mono ?_; rintro e w5 ⟨A7, c7, rfl, hr7, hb5⟩; have R7 := Lib.hid hr7; have D5 : Hid (From w2 w5) := D4.out.trans (hb5.mono D4.out.size); have R55 := Lib.hid (R54.out.from hb5); have R65 := Lib.hid (R6.out.from hb5); clear hr7 hb5 HTC)
   | (go_at_call 86; refine (nat_equal A2 A4 c2 c4 f.den g.den lb ld HL.out.2.1 HL.out.2.2.2 w5 (RB.out.from (D2.out.trans (D5.out.mono D2.out.size))) (RE.out.from D5.out) (by have := HLL.out; omega)).mono ?_; rintro e w6 ⟨rfl, hb6⟩; rw [← HEQ.out]; have C6 : Hid (From W0 w6) := C2.out.trans ((D5.out.trans (hb6.mono D5.out.size)).mono C2.out.size); have C26 : Hid (From w2 w6) := D5.out.trans (hb6.mono D5.out.size); have C16 : Hid (From w1 w6) := D2.out.trans (C26.out.mono D2.out.size); have C56 : Hid (From w5 w6) := hb6; clear hb6))
  have HFF := Lib.hid (HFF.out.below C6.out HFF.out.lt)
  have HFG := Lib.hid (HFG.out.below C6.out HFG.out.lt)
  have HFR := Lib.hid (HFR.out.below C6.out HFR.out.lt)
  have HB := Lib.hid (HB.out.trans (C6.out.mono HB.out.size))
  have RX : Hid (Rd32 w6 A5 X) := by unfold Hid; rw [HXX.out.1]; exact R55.out.from C56.out
  have RY : Hid (Rd32 w6 A6 Y) := by unfold Hid; rw [HXX.out.2.1]; exact R65.out.from C56.out
  have RD : Hid (Rd32 w6 A7 Z) := by unfold Hid; rw [HXX.out.2.2]; exact R7.out.from C56.out
  clear HT RA RB RC HP HM HL HLL
  obtain ⟨AX, hren⟩ : ∃ AX, AX = A5 := ⟨_, rfl⟩
  subst hren
  obtain ⟨AY, hren⟩ : ∃ AY, AY = A6 := ⟨_, rfl⟩
  subst hren
  obtain ⟨AD, hren⟩ : ∃ AD, AD = A7 := ⟨_, rfl⟩
  subst hren
  obtain ⟨cx, hren⟩ : ∃ cx, cx = c5 := ⟨_, rfl⟩
  subst hren
  obtain ⟨cy, hren⟩ : ∃ cy, cy = c6 := ⟨_, rfl⟩
  subst hren
  obtain ⟨cz, hren⟩ : ∃ cz, cz = c7 := ⟨_, rfl⟩
  subst hren
  by_cases hbb : f.neg = g.neg
  · have hbe : (f.neg == g.neg) = true := by rw [hbb]; simp
    have HBB := Lib.hid hbb
    clear hbb
    go_wp2_with (first
     | ((with_reducible refine g_ld 4 ?_); refine wpList_ld rfl _ _ rfl _ rfl _ HFF.out.ld_neg ?_; have HFF2 := HFF; clear HFF)
     | ((with_reducible refine g_ld 4 ?_); refine wpList_ld rfl _ _ rfl _ rfl _ HFG.out.ld_neg ?_))
    refine region_add1 (g := w.heap.size) (b := f.neg) rfl (by kernel_rfl) (by kernel_rfl) (by kernel_rfl) rfl rfl rfl rfl (r := fitL f.neg (X + Y) Z) (NatAt (X + Y)) NatAt.stays
     (fun w1 hb => (HFF2.out.below hb HFF2.out.lt).ld_neg) (fun w1 hb => plus_at HNX.out HNY.out (RX.out.from hb) (RY.out.from hb) HLX.out HLY.out)
     (fun w1 u4 hb hu => fit_at hu ⟨AD, cz, by rw [← HND.out]; rfl, RD.out.from hb⟩ (add_len HLX.out HLY.out) (by have := HLD.out; omega) HD0.out) ?_
    intro u4 w1 hb _
    have HB1 := Lib.hid (HB.out.trans (hb.mono HB.out.size))
    have HR1 := Lib.hid (HFR.out.below hb HFR.out.lt)
    clear hb
    simp only [List.drop_succ_cons, List.drop_zero]
    simp only [Act.put, List.setIfInBounds_toArray, List.set_cons_succ, List.set_cons_zero]
    go_wp2_with (first
     | ((with_reducible refine g_st 37 ?_); refine wpList_stF rfl _ _ rfl rfl rfl HR1.out ?_; intro w5 hfb5 hgr5))
    refine bodyPost_ret (results_frac_err rfl _ rfl hfb5) rfl ⟨?_, HB1.out.grown hgr5 HB1.out.size (by intro q hq; injection hq with hq; omega)⟩
    rw [HSUM.out]
    unfold sumN
    rw [if_pos HBB.out]
    rfl
  · have hbe : (f.neg == g.neg) = false := by simpa using hbb
    have HBB := Lib.hid hbb
    have HC := Lib.hid (frac_cmp AX AY cx cy X Y _ _ HNX.out HNY.out _ RX.out RY.out (by have := HLX.out; omega) (by have := HLY.out; omega))
    by_cases hxy : X < Y
    · rw [cmpNat_lt hxy] at HC
      have HXY := Lib.hid hxy
      clear hbb hxy
      go_wp2_with (first
       | ((with_reducible refine g_ld 4 ?_); refine wpList_ld rfl _ _ rfl _ rfl _ HFF.out.ld_neg ?_; have HFF2 := HFF; clear HFF)
       | ((with_reducible refine g_ld 4 ?_); refine wpList_ld rfl _ _ rfl _ rfl _ HFG.out.ld_neg ?_)
       | (go_at_call 87; refine (HC.out).mono ?_; rintro e w4 ⟨rfl, hb4⟩; have HB4 := Lib.hid (HB.out.trans (hb4.mono HB.out.size)); have C4 := Lib.hid hb4; clear hb4))
      have HB := HB4
      have HFG4 := Lib.hid (HFG.out.below C4.out HFG.out.lt)
      have HFR := Lib.hid (HFR.out.below C4.out HFR.out.lt)
      have RX := Lib.hid (RX.out.from C4.out)
      have RY := Lib.hid (RY.out.from C4.out)
      have RD := Lib.hid (RD.out.from C4.out)
      refine region_add2 (g := w.heap.size + 1) (b := g.neg) rfl (by kernel_rfl) (by kernel_rfl) (by kernel_rfl) rfl rfl rfl rfl (r := fitL g.neg (Y - X) Z) (NatAt (Y - X)) NatAt.stays
       (fun w1 hb => (HFG4.out.below hb HFG4.out.lt).ld_neg) (fun w1 hb => minus_at HNY.out HNX.out (RY.out.from hb) (RX.out.from hb) HLY.out (Nat.le_of_lt HXY.out))
       (fun w1 u4 hb hu => fit_at hu ⟨AD, cz, by rw [← HND.out]; rfl, RD.out.from hb⟩ (sub_len HLY.out) (by have := HLD.out; omega) HD0.out) ?_
      intro u4 w1 hb _
      have HB1 := Lib.hid (HB.out.trans (hb.mono HB.out.size))
      have HR1 := Lib.hid (HFR.out.below hb HFR.out.lt)
      clear hb
      simp only [List.drop_succ_cons, List.drop_zero]
      simp only [Act.put, List.setIfInBounds_toArray, List.set_cons_succ, List.set_cons_zero]
      go_wp2_with (first
       | ((with_reducible refine g_st 37 ?_); refine wpList_stF rfl _ _ rfl rfl rfl HR1.out ?_; intro w5 hfb5 hgr5))
      refine bodyPost_ret (results_frac_err rfl _ rfl hfb5) rfl ⟨?_, HB1.out.grown hgr5 HB1.out.size (by intro q hq; injection hq with hq; omega)⟩
      rw [HSUM.out]
      unfold sumN
      rw [if_neg HBB.out, if_pos HXY.out]
      rfl
    · have hge : ¬ cmpNat X Y < 0 := by
       unfold cmpNat
       rw [if_neg hxy]
       split <;> decide
      generalize cmpNat X Y = cv at HC hge
      have HXY := Lib.hid hxy
      clear hbb hxy
      go_wp2_with (first
       | ((with_reducible refine g_ld 4 ?_); refine wpList_ld rfl _ _ rfl _ rfl _ HFF.out.ld_neg ?_; have HFF2 := HFF; clear HFF)
       | ((with_reducible refine g_ld 4 ?_); refine wpList_ld rfl _ _ rfl _ rfl _ HFG.out.ld_neg ?_)
       | (go_at_call 87; refine (HC.out).mono ?_; rintro e w4 ⟨rfl, hb4⟩; have HB4 := Lib.hid (HB.out.trans (hb4.mono HB.out.size)); have C4 := Lib.hid hb4; clear hb4))
      have HB := HB4
      have HFF4 := Lib.hid (HFF2.out.below C4.out HFF2.out.lt)
      have HFR := Lib.hid (HFR.out.below C4.out HFR.out.lt)
      have RX := Lib.hid (RX.out.from C4.out)
      have RY := Lib.hid (RY.out.from C4.out)
      have RD := Lib.hid (RD.out.from C4.out)
      refine region_add3 (g := w.heap.size) (b := f.neg) rfl (by kernel_rfl) (by kernel_rfl) (by kernel_rfl) rfl rfl rfl rfl (r := fitL f.neg (X - Y) Z) (NatAt (X - Y)) NatAt.stays
       (fun w1 hb => (HFF4.out.below hb HFF4.out.lt).ld_neg) (fun w1 hb => minus_at HNX.out HNY.out (RX.out.from hb) (RY.out.from hb) HLX.out (Nat.le_of_not_lt HXY.out))
       (fun w1 u4 hb hu => fit_at hu ⟨AD, cz, by rw [← HND.out]; rfl, RD.out.from hb⟩ (sub_len HLX.out) (by have := HLD.out; omega) HD0.out) ?_
      intro u4 w1 hb _
      have HB1 := Lib.hid (HB.out.trans (hb.mono HB.out.size))
      have HR1 := Lib.hid (HFR.out.below hb HFR.out.lt)
      clear hb
      simp only [List.drop_succ_cons, List.drop_zero]
      simp only [Act.put, List.setIfInBounds_toArray, List.set_cons_succ, List.set_cons_zero]
      go_wp2_with (first
       | ((with_reducible refine g_st 37 ?_); refine wpList_stF rfl _ _ rfl rfl rfl HR1.out ?_; intro w5 hfb5 hgr5))
      refine bodyPost_ret (results_frac_err rfl _ rfl hfb5) rfl ⟨?_, HB1.out.grown hgr5 HB1.out.size (by intro q hq; injection hq with hq; omega)⟩
      rw [HSUM.out]
      unfold sumN
      rw [if_neg HBB.out, if_neg HXY.out]
      rfl
end Go.Proofs.Ytcdfnlgimbecgaa
