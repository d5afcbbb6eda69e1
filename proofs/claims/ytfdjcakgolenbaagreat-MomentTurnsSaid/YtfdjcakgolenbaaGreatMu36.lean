/-
  frac: divide; common.
-/
import Derived.Test.YtfdjcakgolenbaaGreatMu35
import Derived.DeepKeys
import Derived.Laws.StructEq
set_option linter.unusedVariables false
set_option linter.unusedSimpArgs false
namespace Go.Proofs.YtfdjcakgolenbaaGreat
open Go.RowKit
theorem frac_divide (A D : Option Addr) (ca cd x y n m : Nat) (hn : n = len32 x) (hm : m = len32 y) (w : World) (h : Rd32 w A x) (h' : Rd32 w D y) (hx : len32 x ≤ 900) (hy : len32 y ≤ 900) (hy0 : 0 < y) :
 Calls Tryz.prog 94 #[.slice A n ca, .slice D m cd] w (DivPost w x y) := by
 by_cases h1 : x < y
 · exact divide_less A D ca cd x y n m hn hm w h h' (by omega) (by omega) h1
 · by_cases h2 : len32 x ≤ 2
   · exact divide_two A D ca cd x y n m hn hm w h h' h2 hy0 (by omega)
   · have h3 : 0 < len32 y := dig_len_pos hB32 (by omega)
     by_cases h4 : len32 y = 1
     · exact divide_one A D ca cd x y n m hn hm w h h' (by omega) (by omega) h4
     · exact divide_many A D ca cd x y n m hn hm w h h' hx (by omega) (by omega) (by omega)
def sliceNat (v : Value) (w : World) : Nat := match v with
 | .slice (some ⟨b, off, _⟩) n _ => valB B32 ((List.range n).map fun i => match w.cell? ⟨b, off + i, none⟩ with | some (.int _ z) => z.toNat | _ => 0)
 | _ => 0
theorem sliceNat_rd {w : World} {A : Option Addr} {c y : Nat} (h : Rd32 w A y) : sliceNat (.slice A (len32 y) c) w = y := by
 by_cases h0 : 0 < (dig B32 y).length
 · obtain ⟨b, off, rfl, hb, _, _⟩ := h 0 _ (nums_get h0)
   have e : ((List.range (len32 y)).map fun i => match w.cell? ⟨b, off + i, none⟩ with | some (.int _ z) => z.toNat | _ => 0) = dig B32 y := by
    apply List.ext_getElem
    · simp
    · intro i h1 h2
      obtain ⟨b', off', e, hb', _, hc⟩ := h i _ (nums_get h2)
      injection e with e
      injection e with e1 e2
      subst e1; subst e2
      have h3 := hc 0 _ rfl
      simp only [Nat.mul_one, Nat.add_zero] at h3
      simp [h3]
   show valB B32 _ = y
   rw [e, val_dig hB32]
 · have h1 : y = 0 := by
    rcases Nat.eq_zero_or_pos y with h2 | h2
    · exact h2
    · exact absurd (dig_len_pos hB32 (n := y) (by omega)) h0
   subst h1
   cases A with
   | none => rfl
   | some q => rfl
set_option maxRecDepth 100000 in
set_option maxHeartbeats 4000000 in
theorem frac_common (A D : Option Addr) (ca cd x y n m : Nat) (hn : n = len32 x) (hm : m = len32 y) (w : World) (h : Rd32 w A x) (h' : Rd32 w D y) (hx : len32 x ≤ 900) (hy : len32 y ≤ 900) :
 Calls Tryz.prog 92 #[.slice A n ca, .slice D m cd] w fun e w' => ∃ A' c', e = .returned (.slice A' (len32 (Nat.gcd x y)) c') ∧ Rd32 w' A' (Nat.gcd x y) ∧ Below w.heap.size w w' := by
 obtain ⟨gc, hgc⟩ : ∃ gc, gc = Nat.gcd x y := ⟨_, rfl⟩
 have HST : Hid ((n = len32 x ∧ m = len32 y ∧ Rd32 w A x ∧ Rd32 w D y ∧ Nat.gcd x y = gc ∧ len32 x ≤ 900 ∧ len32 y ≤ 900)) := ⟨hn, hm, h, h', hgc.symm, hx, hy⟩
 rw [← hgc]
 clear h h' hx hy hn hm hgc
 go_enter Tryz.func92, Tryz.ntmps92
 go_wp2
 go_loopw [0, 1] (fun av bv wr => ∃ (A' D' : Option Addr) (ca' cd' x' y' n' m' : Nat), av = .slice A' n' ca' ∧ bv = .slice D' m' cd' ∧ (n' = len32 x' ∧ m' = len32 y' ∧ Rd32 wr A' x' ∧ Rd32 wr D' y' ∧ Nat.gcd x' y' = gc ∧ len32 x' ≤ 900 ∧ len32 y' ≤ 900) ∧ Below w.heap.size w wr) (fun _ bv wr => sliceNat bv wr)
 case atStart => exact ⟨A, D, ca, cd, x, y, n, m, rfl, rfl, HST.out, Below.refl _ _⟩
 case round =>
  clear HST
  obtain ⟨A', D', ca', cd', x', y', n', m', rfl, rfl, hst, hb⟩ := hrel
  have HST := Lib.hid hst
  have HB := Lib.hid hb
  clear hst hb
  by_cases hm0 : m' = 0
  · subst hm0
    go_wp2
    go_ret
    obtain ⟨hn', hm', hr1, hr2, hg, _, _⟩ := HST.out
    have hy0 : y' = 0 := by
     rcases Nat.eq_zero_or_pos y' with h2 | h2
     · exact h2
     · have : 0 < len32 y' := dig_len_pos hB32 (by omega)
       omega
    rw [hy0, Nat.gcd_zero_right] at hg
    rw [← hg]
    exact ⟨A', ca', by rw [hn']; rfl, hr1, HB.out⟩
  · have hm1 : (0 : Int) < (m' : Int) := by omega
    have hy0 : 0 < y' := by
     rcases Nat.eq_zero_or_pos y' with h2 | h2
     · subst h2
       exact absurd HST.out.2.1 hm0
     · exact h2
    have HD := Lib.hid (frac_divide A' D' ca' cd' x' y' n' m' HST.out.1 HST.out.2.1 wr HST.out.2.2.1 HST.out.2.2.2.1 HST.out.2.2.2.2.2.1 HST.out.2.2.2.2.2.2 hy0)
    go_wp2_with (go_at_call 94; refine (HD.out).mono ?_; rintro e w2 ⟨A1, c1, A2, c2, rfl, hr1, hr2, hl1, hl2, hb2⟩; have HR2 := Lib.hid hr2; have HB2 := Lib.hid hb2; clear hr1 hr2 hl1 hl2 hb2 HD)
    go_roundw
    case rel =>
     obtain ⟨hn', hm', hr1, hr2, hg, hl1, hl2⟩ := HST.out
     refine ⟨D', A2, cd', c2, y', x' % y', m', _, rfl, rfl, ⟨hm', rfl, hr2.from HB2.out, HR2.out, ?_, hl2, ?_⟩, HB.out.trans (HB2.out.mono HB.out.size)⟩
     · rw [← hg, Nat.gcd_comm y', ← Nat.gcd_rec, Nat.gcd_comm]
     · exact Nat.le_trans (dig_len_le hB32 (Nat.lt_of_lt_of_le (Nat.mod_lt _ hy0) (Nat.le_of_lt (lt_of_dig_len hB32 (Nat.le_refl _))))) hl2
    case measure =>
     obtain ⟨hn', hm', hr1, hr2, hg, hl1, hl2⟩ := HST.out
     rw [hm', sliceNat_rd HR2.out, sliceNat_rd hr2]
     exact Nat.mod_lt _ hy0
def FitPost (w : World) (r : FracV × Int) (e : Ending) (w' : World) : Prop := e = .returned (.tuple #[r.1.val, .int .i64 r.2]) ∧ Below w.heap.size w w'
theorem len_top (x : Nat) : x < top256 ↔ len32 x ≤ 8 := by
 rw [← pow256]
 constructor
 · exact fun h => dig_len_le hB32 h
 · exact fun h => lt_of_dig_len hB32 h
theorem fitL_div {neg : Bool} {x y gc x1 y1 : Nat} (hgc : gc = Nat.gcd x y) (hx1 : x1 = x / gc) (hy1 : y1 = y / gc) : fitL neg x y = if x1 < top256 ∧ y1 < top256 then (⟨neg && decide (x1 ≠ 0), x1, y1⟩, 0) else (zeroF, 3) := by
 unfold fitL
 rw [hx1, hy1, hgc]
set_option maxRecDepth 100000 in
set_option maxHeartbeats 8000000 in
theorem frac_fit (neg : Bool) (A D : Option Addr) (ca cd x y n m : Nat) (hn : n = len32 x) (hm : m = len32 y) (w : World) (h : Rd32 w A x) (h' : Rd32 w D y) (hx : len32 x ≤ 900) (hy : len32 y ≤ 900) (hy0 : 0 < y) :
 Calls Tryz.prog 56 #[.bool neg, .slice A n ca, .slice D m cd] w (FitPost w (fitL neg x y)) := by
 obtain ⟨gc, hgc⟩ : ∃ gc, gc = Nat.gcd x y := ⟨_, rfl⟩
 obtain ⟨gl, hgl0⟩ : ∃ gl, gl = len32 gc := ⟨_, rfl⟩
 have hg0 : 0 < gc := by rw [hgc]; exact Nat.gcd_pos_of_pos_right _ hy0
 have hgy : gc ≤ y := by rw [hgc]; exact Nat.le_of_dvd hy0 (Nat.gcd_dvd_right x y)
 have hgl : len32 gc ≤ 900 := Nat.le_trans (dig_len_le hB32 (Nat.lt_of_le_of_lt hgy (lt_of_dig_len hB32 (Nat.le_refl _)))) hy
 have hfb0 := FB.new w zeroF
 have hb0 : Below w.heap.size w (w.alloc (.cells zeroF.cells.toArray 71)) := (Below.refl _ _).alloc (Nat.le_refl _) _
 have HC := Lib.hid (frac_common A D ca cd x y n m hn hm _ (h.from hb0) (h'.from hb0) hx hy)
 rw [← hgc, ← hgl0] at HC
 have HFB0 := Lib.hid hfb0
 have HB0 := Lib.hid hb0
 have HX := Lib.hid (fun w1 (hb : From w w1) => h.from hb)
 have HY := Lib.hid (fun w1 (hb : From w w1) => h'.from hb)
 have HLX := Lib.hid (And.intro hx (And.intro hy (And.intro hn (And.intro hm (And.intro hgl (And.intro hgl0 (And.intro hgc (And.intro hg0 hy0))))))))
 clear hfb0 hb0 h h' hx hy hgy hgl hgl0 hn hm hy0 hgc
 by_cases hg1 : gc = 1
 · have hd1 : decide (gc = 1) = true := by rw [hg1]; rfl
   have HO := Lib.hid (fun (G : Option Addr) (cg : Nat) (w1 : World) (hr : Rd32 w1 G gc) => frac_one G cg gl gc HLX.out.2.2.2.2.2.1 w1 hr (by have := HLX.out; omega))
   rw [hd1] at HO
   have HFIT := Lib.hid (fitL_div (neg := neg) (x1 := x) (y1 := y) HLX.out.2.2.2.2.2.2.1 (by rw [hg1, Nat.div_one]) (by rw [hg1, Nat.div_one]))
   clear hd1 hg1 hg0
   go_enter Tryz.func56, Tryz.ntmps56
   go_upto_region 5 with (first
    | (go_at_call 92; refine (HC.out).mono ?_; rintro e w1 ⟨G, cg, rfl, hrdG, hb1⟩; have HB := Lib.hid (HB0.out.trans (hb1.mono HB0.out.size)); have HFB := Lib.hid (HFB0.out.below hb1 HFB0.out.lt); have HG := Lib.hid hrdG; clear hrdG hb1 HC HB0 HFB0)
    | (go_at_call 91; refine (HO.out _ _ _ HG.out).mono ?_; rintro e w2 ⟨rfl, rfl⟩))
   have HX1 := Lib.hid (HX.out _ HB.out)
   have HY1 := Lib.hid (HY.out _ HB.out)
   have HN1 := Lib.hid HLX.out.2.2.1
   have HM1 := Lib.hid HLX.out.2.2.2.1
   clear HG HX HY HO
   by_cases hx8 : len32 x ≤ 8
   · by_cases hy8 : len32 y ≤ 8
     · have HL8 := Lib.hid hx8
       have HM8 := Lib.hid hy8
       have c1 : ¬ (8 : Int) < (n : Int) := by have := HN1.out; omega
       have c2 : ¬ (8 : Int) < (m : Int) := by have := HM1.out; omega
       clear hx8 hy8
       cases neg with
       | false =>
        have HFB9 := Lib.hid (FB.new w2 zeroF)
        have HA9 : Hid (From w2 (w2.alloc (.cells zeroF.cells.toArray 71))) := (Below.refl _ _).alloc (Nat.le_refl _) _
        go_wp2_with (first
         | ((with_reducible refine g_st 71 ?_); refine wpList_stF (f := ⟨false, 0, 0⟩) rfl _ _ rfl rfl rfl HFB9.out ?_; intro w5 hfb5 hgr5
            have C5 : Hid (From w2 w5) := HA9.out.grown hgr5 HA9.out.size (by intro q hq; injection hq with hq; omega)
            have F5 := Lib.hid hfb5; clear hfb5 hgr5 HFB9)
         | ((with_reducible refine g_copy ?_); refine wpList_copyF rfl _ _ _ _ rfl 52 Tryz.underlying123 size_u32 ⟨false, 0, 0⟩ ⟨false, x, 0⟩ rfl rfl HN1.out HL8.out (by decide) (num_cells _ _ _ HL8.out) F5.out (HX1.out.from C5.out) ?_; intro w6 hfb6 hgr6
            have C6 : Hid (From w2 w6) := C5.out.grown hgr6 C5.out.size (by intro q hq; injection hq with hq; omega)
            have F6 := Lib.hid hfb6; clear hfb6 hgr6 F5)
         | ((with_reducible refine g_copy ?_); refine wpList_copyF rfl _ _ _ _ rfl 52 Tryz.underlying123 size_u32 ⟨false, x, 0⟩ ⟨false, x, y⟩ rfl rfl HM1.out HM8.out (by decide) (den_cells _ _ _ HM8.out) F6.out (HY1.out.from C6.out) ?_; intro w7 hfb7 hgr7
            have C7 : Hid (From w2 w7) := C6.out.grown hgr7 C6.out.size (by intro q hq; injection hq with hq; omega)
            have F7 := Lib.hid hfb7; have R7 := Lib.hid (HFB.out.below C7.out HFB.out.lt); clear hfb7 hgr7 F6)
         | ((with_reducible refine g_ld 71 ?_); refine wpList_ld rfl _ _ rfl _ rfl _ F7.out.ld ?_)
         | ((with_reducible refine g_st 71 ?_); refine wpList_stF (f := ⟨false, x, y⟩) rfl _ _ rfl rfl rfl R7.out ?_; intro w8 hfb8 hgr8))
        refine bodyPost_ret (results_frac_err rfl _ rfl hfb8) rfl ?_
        refine ⟨?_, (HB.out.trans (C7.out.mono HB.out.size)).grown hgr8 (Nat.le_trans HB.out.size C7.out.size) (by intro q hq; injection hq with hq; omega)⟩
        rw [HFIT.out, if_pos ⟨(len_top _).2 HL8.out, (len_top _).2 HM8.out⟩]
        rfl
       | true =>
        by_cases hx0 : x = 0
        · have hn1 : (n : Int) = 0 := by rw [HN1.out, hx0]; rfl
          have HX0 := Lib.hid hx0
          clear hx0
          have HFB9 := Lib.hid (FB.new w2 zeroF)
          have HA9 : Hid (From w2 (w2.alloc (.cells zeroF.cells.toArray 71))) := (Below.refl _ _).alloc (Nat.le_refl _) _
          go_wp2_with (first
           | ((with_reducible refine g_st 71 ?_); refine wpList_stF (f := ⟨false, 0, 0⟩) rfl _ _ rfl rfl rfl HFB9.out ?_; intro w5 hfb5 hgr5
              have C5 : Hid (From w2 w5) := HA9.out.grown hgr5 HA9.out.size (by intro q hq; injection hq with hq; omega)
              have F5 := Lib.hid hfb5; clear hfb5 hgr5 HFB9)
           | ((with_reducible refine g_copy ?_); refine wpList_copyF rfl _ _ _ _ rfl 52 Tryz.underlying123 size_u32 ⟨false, 0, 0⟩ ⟨false, x, 0⟩ rfl rfl HN1.out HL8.out (by decide) (num_cells _ _ _ HL8.out) F5.out (HX1.out.from C5.out) ?_; intro w6 hfb6 hgr6
              have C6 : Hid (From w2 w6) := C5.out.grown hgr6 C5.out.size (by intro q hq; injection hq with hq; omega)
              have F6 := Lib.hid hfb6; clear hfb6 hgr6 F5)
           | ((with_reducible refine g_copy ?_); refine wpList_copyF rfl _ _ _ _ rfl 52 Tryz.underlying123 size_u32 ⟨false, x, 0⟩ ⟨false, x, y⟩ rfl rfl HM1.out HM8.out (by decide) (den_cells _ _ _ HM8.out) F6.out (HY1.out.from C6.out) ?_; intro w7 hfb7 hgr7
              have C7 : Hid (From w2 w7) := C6.out.grown hgr7 C6.out.size (by intro q hq; injection hq with hq; omega)
              have F7 := Lib.hid hfb7; have R7 := Lib.hid (HFB.out.below C7.out HFB.out.lt); clear hfb7 hgr7 F6)
           | ((with_reducible refine g_ld 71 ?_); refine wpList_ld rfl _ _ rfl _ rfl _ F7.out.ld ?_)
           | ((with_reducible refine g_st 71 ?_); refine wpList_stF (f := ⟨false, x, y⟩) rfl _ _ rfl rfl rfl R7.out ?_; intro w8 hfb8 hgr8))
          refine bodyPost_ret (results_frac_err rfl _ rfl hfb8) rfl ?_
          refine ⟨?_, (HB.out.trans (C7.out.mono HB.out.size)).grown hgr8 (Nat.le_trans HB.out.size C7.out.size) (by intro q hq; injection hq with hq; omega)⟩
          rw [HFIT.out, if_pos ⟨(len_top _).2 HL8.out, (len_top _).2 HM8.out⟩]
          simp [HX0.out]
        · have hn1 : (0 : Int) < (n : Int) := by rw [HN1.out]; have : 0 < len32 x := dig_len_pos hB32 hx0; omega
          have hn2 : 0 < n := by omega
          have HX0 := Lib.hid hx0
          clear hx0
          have HFB9 := Lib.hid (FB.new w2 zeroF)
          have HA9 : Hid (From w2 (w2.alloc (.cells zeroF.cells.toArray 71))) := (Below.refl _ _).alloc (Nat.le_refl _) _
          go_wp2_with (first
           | ((with_reducible refine g_st 71 ?_); refine wpList_stF (f := ⟨true, 0, 0⟩) rfl _ _ rfl rfl rfl HFB9.out ?_; intro w5 hfb5 hgr5
              have C5 : Hid (From w2 w5) := HA9.out.grown hgr5 HA9.out.size (by intro q hq; injection hq with hq; omega)
              have F5 := Lib.hid hfb5; clear hfb5 hgr5 HFB9)
           | ((with_reducible refine g_copy ?_); refine wpList_copyF rfl _ _ _ _ rfl 52 Tryz.underlying123 size_u32 ⟨true, 0, 0⟩ ⟨true, x, 0⟩ rfl rfl HN1.out HL8.out (by decide) (num_cells _ _ _ HL8.out) F5.out (HX1.out.from C5.out) ?_; intro w6 hfb6 hgr6
              have C6 : Hid (From w2 w6) := C5.out.grown hgr6 C5.out.size (by intro q hq; injection hq with hq; omega)
              have F6 := Lib.hid hfb6; clear hfb6 hgr6 F5)
           | ((with_reducible refine g_copy ?_); refine wpList_copyF rfl _ _ _ _ rfl 52 Tryz.underlying123 size_u32 ⟨true, x, 0⟩ ⟨true, x, y⟩ rfl rfl HM1.out HM8.out (by decide) (den_cells _ _ _ HM8.out) F6.out (HY1.out.from C6.out) ?_; intro w7 hfb7 hgr7
              have C7 : Hid (From w2 w7) := C6.out.grown hgr7 C6.out.size (by intro q hq; injection hq with hq; omega)
              have F7 := Lib.hid hfb7; have R7 := Lib.hid (HFB.out.below C7.out HFB.out.lt); clear hfb7 hgr7 F6)
           | ((with_reducible refine g_ld 71 ?_); refine wpList_ld rfl _ _ rfl _ rfl _ F7.out.ld ?_)
           | ((with_reducible refine g_st 71 ?_); refine wpList_stF (f := ⟨true, x, y⟩) rfl _ _ rfl rfl rfl R7.out ?_; intro w8 hfb8 hgr8))
          refine bodyPost_ret (results_frac_err rfl _ rfl hfb8) rfl ?_
          refine ⟨?_, (HB.out.trans (C7.out.mono HB.out.size)).grown hgr8 (Nat.le_trans HB.out.size C7.out.size) (by intro q hq; injection hq with hq; omega)⟩
          rw [HFIT.out, if_pos ⟨(len_top _).2 HL8.out, (len_top _).2 HM8.out⟩]
          simp [HX0.out]
     · have c1 : ¬ (8 : Int) < (n : Int) := by have := HN1.out; omega
       have c2 : (8 : Int) < (m : Int) := by have := HM1.out; omega
       have HE := Lib.hid hy8
       clear hx8 hy8
       go_wp2_with (first
        | ((with_reducible refine g_st 71 ?_); refine wpList_stF (f := zeroF) rfl _ _ rfl rfl rfl HFB.out ?_; intro w5 hfb5 hgr5))
       refine bodyPost_ret (results_frac_err rfl _ rfl hfb5) rfl ?_
       refine ⟨?_, HB.out.grown hgr5 HB.out.size (by intro q hq; injection hq with hq; omega)⟩
       rw [HFIT.out, if_neg (fun h => HE.out ((len_top _).1 h.2))]
       rfl
   · have c1 : (8 : Int) < (n : Int) := by have := HN1.out; omega
     have HE := Lib.hid hx8
     clear hx8
     go_wp2_with (first
      | ((with_reducible refine g_st 71 ?_); refine wpList_stF (f := zeroF) rfl _ _ rfl rfl rfl HFB.out ?_; intro w5 hfb5 hgr5))
     refine bodyPost_ret (results_frac_err rfl _ rfl hfb5) rfl ?_
     refine ⟨?_, HB.out.grown hgr5 HB.out.size (by intro q hq; injection hq with hq; omega)⟩
     rw [HFIT.out, if_neg (fun h => HE.out ((len_top _).1 h.1))]
     rfl
 · have hd1 : decide (gc = 1) = false := decide_eq_false hg1
   have HO := Lib.hid (fun (G : Option Addr) (cg : Nat) (w1 : World) (hr : Rd32 w1 G gc) => frac_one G cg gl gc HLX.out.2.2.2.2.2.1 w1 hr (by have := HLX.out; omega))
   rw [hd1] at HO
   obtain ⟨x1, hx1⟩ : ∃ x1, x1 = x / gc := ⟨_, rfl⟩
   obtain ⟨y1, hy1⟩ : ∃ y1, y1 = y / gc := ⟨_, rfl⟩
   obtain ⟨n1, hn1⟩ : ∃ n1, n1 = len32 x1 := ⟨_, rfl⟩
   obtain ⟨m1, hm1⟩ : ∃ m1, m1 = len32 y1 := ⟨_, rfl⟩
   have HFIT := Lib.hid (fitL_div (neg := neg) (x1 := x1) (y1 := y1) HLX.out.2.2.2.2.2.2.1 hx1 hy1)
   have HD1 : Hid (∀ (G : Option Addr) (cg : Nat) (w1 : World), From w w1 → Rd32 w1 G gc → Calls Tryz.prog 94 #[.slice A n ca, .slice G gl cg] w1 fun e w' => ∃ A1 c1 A2 n2 c2, e = .returned (.tuple #[.slice A1 n1 c1, .slice A2 n2 c2]) ∧ Rd32 w' A1 x1 ∧ From w1 w') := by
    intro G cg w1 hb hr
    obtain ⟨l1, l2, l3, l4, l5, l6, l7, l8, l9⟩ := HLX.out
    refine (frac_divide A G ca cg x gc n gl l3 l6 w1 (HX.out w1 hb) hr l1 l5 l8).mono ?_
    rintro e w' ⟨A1, c1, A2, c2, rfl, hr1, hr2, hl1, hl2, hb2⟩
    rw [← hx1] at hr1 ⊢
    rw [← hn1]
    exact ⟨A1, c1, A2, _, c2, rfl, hr1, hb2⟩
   have HD2 : Hid (∀ (G : Option Addr) (cg : Nat) (w1 : World), From w w1 → Rd32 w1 G gc → Calls Tryz.prog 94 #[.slice D m cd, .slice G gl cg] w1 fun e w' => ∃ A1 c1 A2 n2 c2, e = .returned (.tuple #[.slice A1 m1 c1, .slice A2 n2 c2]) ∧ Rd32 w' A1 y1 ∧ From w1 w') := by
    intro G cg w1 hb hr
    obtain ⟨l1, l2, l3, l4, l5, l6, l7, l8, l9⟩ := HLX.out
    refine (frac_divide D G cd cg y gc m gl l4 l6 w1 (HY.out w1 hb) hr l2 l5 l8).mono ?_
    rintro e w' ⟨A1, c1, A2, c2, rfl, hr1, hr2, hl1, hl2, hb2⟩
    rw [← hy1] at hr1 ⊢
    rw [← hm1]
    exact ⟨A1, c1, A2, _, c2, rfl, hr1, hb2⟩
   have HN1 := Lib.hid hn1
   have HM1 := Lib.hid hm1
   clear hd1 hg1 hg0 hn1 hm1 hx1 hy1
   go_enter Tryz.func56, Tryz.ntmps56
   go_upto_region 5 with (first
    | (go_at_call 92; refine (HC.out).mono ?_; rintro e w1 ⟨G, cg, rfl, hrdG, hb1⟩; have HB1 := Lib.hid (HB0.out.trans (hb1.mono HB0.out.size)); have HFB1 := Lib.hid (HFB0.out.below hb1 HFB0.out.lt); have HG := Lib.hid hrdG; clear hrdG hb1 HC HB0 HFB0)
    | (go_at_call 91; refine (HO.out _ _ _ HG.out).mono ?_; rintro e w2 ⟨rfl, hw2⟩; subst hw2)
    | (go_at_call 94; refine (HD1.out _ _ _ HB1.out HG.out).mono ?_; rintro e w3 ⟨A3, c3, A4, n4, c4, rfl, hr3, hb3⟩; have HB3 := Lib.hid (HB1.out.trans (hb3.mono HB1.out.size)); have HFB3 := Lib.hid (HFB1.out.below hb3 HFB1.out.lt); have HG3 := Lib.hid (HG.out.from hb3); have HX3 := Lib.hid hr3; clear hr3 hb3 HB1 HFB1 HG HD1)
    | (go_at_call 94; refine (HD2.out _ _ _ HB3.out HG3.out).mono ?_; rintro e wz ⟨A5, c5, A6, n6, c6, rfl, hr5, hb5⟩; have HB := Lib.hid (HB3.out.trans (hb5.mono HB3.out.size)); have HFB := Lib.hid (HFB3.out.below hb5 HFB3.out.lt); have HX1 := Lib.hid (HX3.out.from hb5); have HY1 := Lib.hid hr5; clear hr5 hb5 HB3 HFB3 HG3 HX3 HD2))
   clear HX HY HO
   by_cases hx8 : len32 x1 ≤ 8
   · by_cases hy8 : len32 y1 ≤ 8
     · have HL8 := Lib.hid hx8
       have HM8 := Lib.hid hy8
       have c1 : ¬ (8 : Int) < (n1 : Int) := by have := HN1.out; omega
       have c2 : ¬ (8 : Int) < (m1 : Int) := by have := HM1.out; omega
       clear hx8 hy8
       cases neg with
       | false =>
        have HFB9 := Lib.hid (FB.new wz zeroF)
        have HA9 : Hid (From wz (wz.alloc (.cells zeroF.cells.toArray 71))) := (Below.refl _ _).alloc (Nat.le_refl _) _
        go_wp2_with (first
         | ((with_reducible refine g_st 71 ?_); refine wpList_stF (f := ⟨false, 0, 0⟩) rfl _ _ rfl rfl rfl HFB9.out ?_; intro w5 hfb5 hgr5
            have C5 : Hid (From wz w5) := HA9.out.grown hgr5 HA9.out.size (by intro q hq; injection hq with hq; omega)
            have F5 := Lib.hid hfb5; clear hfb5 hgr5 HFB9)
         | ((with_reducible refine g_copy ?_); refine wpList_copyF rfl _ _ _ _ rfl 52 Tryz.underlying123 size_u32 ⟨false, 0, 0⟩ ⟨false, x1, 0⟩ rfl rfl HN1.out HL8.out (by decide) (num_cells _ _ _ HL8.out) F5.out (HX1.out.from C5.out) ?_; intro w6 hfb6 hgr6
            have C6 : Hid (From wz w6) := C5.out.grown hgr6 C5.out.size (by intro q hq; injection hq with hq; omega)
            have F6 := Lib.hid hfb6; clear hfb6 hgr6 F5)
         | ((with_reducible refine g_copy ?_); refine wpList_copyF rfl _ _ _ _ rfl 52 Tryz.underlying123 size_u32 ⟨false, x1, 0⟩ ⟨false, x1, y1⟩ rfl rfl HM1.out HM8.out (by decide) (den_cells _ _ _ HM8.out) F6.out (HY1.out.from C6.out) ?_; intro w7 hfb7 hgr7
            have C7 : Hid (From wz w7) := C6.out.grown hgr7 C6.out.size (by intro q hq; injection hq with hq; omega)
            have F7 := Lib.hid hfb7; have R7 := Lib.hid (HFB.out.below C7.out HFB.out.lt); clear hfb7 hgr7 F6)
         | ((with_reducible refine g_ld 71 ?_); refine wpList_ld rfl _ _ rfl _ rfl _ F7.out.ld ?_)
         | ((with_reducible refine g_st 71 ?_); refine wpList_stF (f := ⟨false, x1, y1⟩) rfl _ _ rfl rfl rfl R7.out ?_; intro w8 hfb8 hgr8))
        refine bodyPost_ret (results_frac_err rfl _ rfl hfb8) rfl ?_
        refine ⟨?_, (HB.out.trans (C7.out.mono HB.out.size)).grown hgr8 (Nat.le_trans HB.out.size C7.out.size) (by intro q hq; injection hq with hq; omega)⟩
        rw [HFIT.out, if_pos ⟨(len_top _).2 HL8.out, (len_top _).2 HM8.out⟩]
        rfl
       | true =>
        by_cases hx0 : x1 = 0
        · have hn1 : (n1 : Int) = 0 := by rw [HN1.out, hx0]; rfl
          have HX0 := Lib.hid hx0
          clear hx0
          have HFB9 := Lib.hid (FB.new wz zeroF)
          have HA9 : Hid (From wz (wz.alloc (.cells zeroF.cells.toArray 71))) := (Below.refl _ _).alloc (Nat.le_refl _) _
          go_wp2_with (first
           | ((with_reducible refine g_st 71 ?_); refine wpList_stF (f := ⟨false, 0, 0⟩) rfl _ _ rfl rfl rfl HFB9.out ?_; intro w5 hfb5 hgr5
              have C5 : Hid (From wz w5) := HA9.out.grown hgr5 HA9.out.size (by intro q hq; injection hq with hq; omega)
              have F5 := Lib.hid hfb5; clear hfb5 hgr5 HFB9)
           | ((with_reducible refine g_copy ?_); refine wpList_copyF rfl _ _ _ _ rfl 52 Tryz.underlying123 size_u32 ⟨false, 0, 0⟩ ⟨false, x1, 0⟩ rfl rfl HN1.out HL8.out (by decide) (num_cells _ _ _ HL8.out) F5.out (HX1.out.from C5.out) ?_; intro w6 hfb6 hgr6
              have C6 : Hid (From wz w6) := C5.out.grown hgr6 C5.out.size (by intro q hq; injection hq with hq; omega)
              have F6 := Lib.hid hfb6; clear hfb6 hgr6 F5)
           | ((with_reducible refine g_copy ?_); refine wpList_copyF rfl _ _ _ _ rfl 52 Tryz.underlying123 size_u32 ⟨false, x1, 0⟩ ⟨false, x1, y1⟩ rfl rfl HM1.out HM8.out (by decide) (den_cells _ _ _ HM8.out) F6.out (HY1.out.from C6.out) ?_; intro w7 hfb7 hgr7
              have C7 : Hid (From wz w7) := C6.out.grown hgr7 C6.out.size (by intro q hq; injection hq with hq; omega)
              have F7 := Lib.hid hfb7; have R7 := Lib.hid (HFB.out.below C7.out HFB.out.lt); clear hfb7 hgr7 F6)
           | ((with_reducible refine g_ld 71 ?_); refine wpList_ld rfl _ _ rfl _ rfl _ F7.out.ld ?_)
           | ((with_reducible refine g_st 71 ?_); refine wpList_stF (f := ⟨false, x1, y1⟩) rfl _ _ rfl rfl rfl R7.out ?_; intro w8 hfb8 hgr8))
          refine bodyPost_ret (results_frac_err rfl _ rfl hfb8) rfl ?_
          refine ⟨?_, (HB.out.trans (C7.out.mono HB.out.size)).grown hgr8 (Nat.le_trans HB.out.size C7.out.size) (by intro q hq; injection hq with hq; omega)⟩
          rw [HFIT.out, if_pos ⟨(len_top _).2 HL8.out, (len_top _).2 HM8.out⟩]
          simp [HX0.out]
        · have hn1 : (0 : Int) < (n1 : Int) := by rw [HN1.out]; have : 0 < len32 x1 := dig_len_pos hB32 hx0; omega
          have hn2 : 0 < n1 := by omega
          have HX0 := Lib.hid hx0
          clear hx0
          have HFB9 := Lib.hid (FB.new wz zeroF)
          have HA9 : Hid (From wz (wz.alloc (.cells zeroF.cells.toArray 71))) := (Below.refl _ _).alloc (Nat.le_refl _) _
          go_wp2_with (first
           | ((with_reducible refine g_st 71 ?_); refine wpList_stF (f := ⟨true, 0, 0⟩) rfl _ _ rfl rfl rfl HFB9.out ?_; intro w5 hfb5 hgr5
              have C5 : Hid (From wz w5) := HA9.out.grown hgr5 HA9.out.size (by intro q hq; injection hq with hq; omega)
              have F5 := Lib.hid hfb5; clear hfb5 hgr5 HFB9)
           | ((with_reducible refine g_copy ?_); refine wpList_copyF rfl _ _ _ _ rfl 52 Tryz.underlying123 size_u32 ⟨true, 0, 0⟩ ⟨true, x1, 0⟩ rfl rfl HN1.out HL8.out (by decide) (num_cells _ _ _ HL8.out) F5.out (HX1.out.from C5.out) ?_; intro w6 hfb6 hgr6
              have C6 : Hid (From wz w6) := C5.out.grown hgr6 C5.out.size (by intro q hq; injection hq with hq; omega)
              have F6 := Lib.hid hfb6; clear hfb6 hgr6 F5)
           | ((with_reducible refine g_copy ?_); refine wpList_copyF rfl _ _ _ _ rfl 52 Tryz.underlying123 size_u32 ⟨true, x1, 0⟩ ⟨true, x1, y1⟩ rfl rfl HM1.out HM8.out (by decide) (den_cells _ _ _ HM8.out) F6.out (HY1.out.from C6.out) ?_; intro w7 hfb7 hgr7
              have C7 : Hid (From wz w7) := C6.out.grown hgr7 C6.out.size (by intro q hq; injection hq with hq; omega)
              have F7 := Lib.hid hfb7; have R7 := Lib.hid (HFB.out.below C7.out HFB.out.lt); clear hfb7 hgr7 F6)
           | ((with_reducible refine g_ld 71 ?_); refine wpList_ld rfl _ _ rfl _ rfl _ F7.out.ld ?_)
           | ((with_reducible refine g_st 71 ?_); refine wpList_stF (f := ⟨true, x1, y1⟩) rfl _ _ rfl rfl rfl R7.out ?_; intro w8 hfb8 hgr8))
          refine bodyPost_ret (results_frac_err rfl _ rfl hfb8) rfl ?_
          refine ⟨?_, (HB.out.trans (C7.out.mono HB.out.size)).grown hgr8 (Nat.le_trans HB.out.size C7.out.size) (by intro q hq; injection hq with hq; omega)⟩
          rw [HFIT.out, if_pos ⟨(len_top _).2 HL8.out, (len_top _).2 HM8.out⟩]
          simp [HX0.out]
     · have c1 : ¬ (8 : Int) < (n1 : Int) := by have := HN1.out; omega
       have c2 : (8 : Int) < (m1 : Int) := by have := HM1.out; omega
       have HE := Lib.hid hy8
       clear hx8 hy8
       go_wp2_with (first
        | ((with_reducible refine g_st 71 ?_); refine wpList_stF (f := zeroF) rfl _ _ rfl rfl rfl HFB.out ?_; intro w5 hfb5 hgr5))
       refine bodyPost_ret (results_frac_err rfl _ rfl hfb5) rfl ?_
       refine ⟨?_, HB.out.grown hgr5 HB.out.size (by intro q hq; injection hq with hq; omega)⟩
       rw [HFIT.out, if_neg (fun h => HE.out ((len_top _).1 h.2))]
       rfl
   · have c1 : (8 : Int) < (n1 : Int) := by have := HN1.out; omega
     have HE := Lib.hid hx8
     clear hx8
     go_wp2_with (first
      | ((with_reducible refine g_st 71 ?_); refine wpList_stF (f := zeroF) rfl _ _ rfl rfl rfl HFB.out ?_; intro w5 hfb5 hgr5))
     refine bodyPost_ret (results_frac_err rfl _ rfl hfb5) rfl ?_
     refine ⟨?_, HB.out.grown hgr5 HB.out.size (by intro q hq; injection hq with hq; omega)⟩
     rw [HFIT.out, if_neg (fun h => HE.out ((len_top _).1 h.1))]
     rfl
theorem wrap_neg64 {n : Int} (h1 : -9223372036854775808 ≤ n) (h2 : n < 0) : IntKind.u64.wrap (-(IntKind.u64.wrap n)) = (n.natAbs : Int) := by
 unfold IntKind.wrap
 simp [IntKind.bits, IntKind.signed]
 omega
set_option maxHeartbeats 2000000 in
theorem frac_size64 (n : Int) (h1 : -9223372036854775808 ≤ n) (h2 : n ≤ 9223372036854775807) (w : World) :
 Calls Tryz.prog 58 #[.int .i64 n] w fun e w' => ∃ A' c', e = .returned (.slice A' (len32 n.natAbs) c') ∧ Rd32 w' A' n.natAbs ∧ Below w.heap.size w w' := by
 obtain ⟨k, hk⟩ : ∃ k, k = n.natAbs := ⟨_, rfl⟩
 have hks : k < 18446744073709551616 := by omega
 rw [← hk]
 have HO := Lib.hid (frac_of k hks w)
 by_cases h0 : n < 0
 · have w1' : IntKind.u64.wrap (-(IntKind.u64.wrap n)) = (k : Int) := by rw [wrap_neg64 h1 h0, hk]
   obtain ⟨z, hz⟩ : ∃ z, z = IntKind.u64.wrap n := ⟨_, rfl⟩
   rw [← hz] at w1'
   have hz2 : IntKind.u64.wrap n = z := hz.symm
   clear hz hk hks
   go_enter Tryz.func58, Tryz.ntmps58
   go_wp2_with (go_at_call 59; refine (HO.out).mono ?_; rintro e w1 ⟨A1, c1, rfl, hr1, hc1, hb1⟩)
   go_ret
   exact ⟨A1, c1, rfl, hr1, hb1⟩
 · have w1' : IntKind.u64.wrap n = (k : Int) := by rw [wrap_u64 (by omega) (by omega)]; omega
   clear hk hks
   go_enter Tryz.func58, Tryz.ntmps58
   go_wp2_with (go_at_call 59; refine (HO.out).mono ?_; rintro e w1 ⟨A1, c1, rfl, hr1, hc1, hb1⟩)
   go_ret
   exact ⟨A1, c1, rfl, hr1, hb1⟩
theorem len_small {k : Nat} (h : k < 18446744073709551616) : len32 k ≤ 900 := by
 have h2 : B32 ^ 2 = 18446744073709551616 := by decide
 have h3 : len32 k ≤ 2 := dig_len_le hB32 (by rw [h2]; exact h)
 omega
theorem top256_big : 18446744073709551616 < top256 := by decide
set_option maxRecDepth 100000 in
set_option maxHeartbeats 4000000 in
theorem frac_Of (n : Int) (h1 : -9223372036854775808 ≤ n) (h2 : n ≤ 9223372036854775807) (w : World) :
 Calls Tryz.prog 24 #[.int .i64 n] w fun e w' => e = .returned (ofL n).val ∧ Below w.heap.size w w' := by
 obtain ⟨k, hk⟩ : ∃ k, k = n.natAbs := ⟨_, rfl⟩
 have hks : k < 18446744073709551616 := by omega
 obtain ⟨bn, hbn⟩ : ∃ bn, bn = decide (n < 0) := ⟨_, rfl⟩
 have hfit : fitL bn k 1 = (ofL n, 0) := by
  rw [fitL_one _ _ (Nat.lt_trans hks top256_big), hbn, hk]
  unfold ofL
  congr 2
  by_cases h0 : n < 0
  · simp [h0]; omega
  · simp [h0]
 have ha : Below w.heap.size w (w.alloc (.cells zeroF.cells.toArray 71)) := (Below.refl _ _).alloc (Nat.le_refl _) _
 have HS := Lib.hid (fun (w1 : World) => frac_size64 n h1 h2 w1)
 have HO := Lib.hid (fun (w1 : World) => frac_of 1 (by omega) w1)
 have HL1 := Lib.hid (show len32 1 ≤ 900 from len_small (by omega))
 rw [← hk] at HS
 have HF0 := Lib.hid (FB.new w zeroF)
 have HB0 := Lib.hid ha
 have HFIT := Lib.hid hfit
 have HKS := Lib.hid (len_small hks)
 have HBN := Lib.hid hbn
 clear ha hfit hks hk
 obtain ⟨l1, hl1⟩ : ∃ l1, l1 = len32 1 := ⟨_, rfl⟩
 obtain ⟨lk, hlk⟩ : ∃ lk, lk = len32 k := ⟨_, rfl⟩
 rw [← hl1] at HO
 rw [← hlk] at HS
 have HL := Lib.hid (And.intro hl1 hlk)
 clear hl1 hlk hbn
 go_enter Tryz.func24, Tryz.ntmps24
 go_wp2_with (first
  | (go_at_call 58; refine (HS.out _).mono ?_; rintro e w1 ⟨A1, c1, rfl, hr1, hb1⟩; have HB1 := Lib.hid (HB0.out.trans (hb1.mono HB0.out.size)); have F1 := Lib.hid (HF0.out.below hb1 HF0.out.lt); have R1 := Lib.hid hr1; clear hr1 hb1)
  | (go_at_call 59; refine (HO.out _).mono ?_; rintro e w2 ⟨A2, c2, rfl, hr2, hc2, hb2⟩; have HB2 := Lib.hid (HB1.out.trans (hb2.mono HB1.out.size)); have F2 := Lib.hid (F1.out.below hb2 F1.out.lt); have R12 := Lib.hid (R1.out.from hb2); have R2 := Lib.hid hr2; clear hr2 hb2 hc2; try rw [← HBN.out])
  | ((with_reducible refine g_st 71 ?_); refine wpList_stF (f := ofL n) rfl _ _ rfl rfl rfl (FB.new w3 zeroF) ?_; intro w4 hfb4 hgr4
     have C4 : Hid (From w3 w4) := ((Below.refl w3.heap.size w3).alloc (Nat.le_refl _) _).grown hgr4 (by simp) (by intro q hq; injection hq with hq; omega)
     have F4 := Lib.hid hfb4; have F34 := Lib.hid (F3.out.below C4.out F3.out.lt); have HB4 := Lib.hid (HB3.out.trans (C4.out.mono HB3.out.size)); clear hfb4 hgr4 F3 HB3)
  | ((with_reducible refine g_ld 71 ?_); refine wpList_ld rfl _ _ rfl _ rfl _ F4.out.ld ?_)
  | ((with_reducible refine g_st 71 ?_); refine wpList_stF (f := ofL n) rfl _ _ rfl rfl rfl F34.out ?_; intro w5 hfb5 hgr5)
  | (go_at_call 56; refine (frac_fit bn A1 A2 c1 c2 k 1 lk l1 HL.out.2 HL.out.1 _ R12.out R2.out HKS.out HL1.out (by omega)).mono ?_; rintro e w3 ⟨rfl, hb3⟩; rw [HFIT.out]; have HB3 := Lib.hid (HB2.out.trans (hb3.mono HB2.out.size)); have F3 := Lib.hid (F2.out.below hb3 F2.out.lt); clear hb3))
 refine bodyPost_ret (results_frac rfl _ rfl hfb5) rfl ⟨rfl, ?_⟩
 exact HB4.out.grown hgr5 HB4.out.size (by intro q hq; injection hq with hq; omega)
theorem ratioL_fit {a b : Int} (hb : b ≠ 0) : ratioL a b = fitL (decide (a < 0) != decide (b < 0)) a.natAbs b.natAbs := by
 unfold ratioL
 rw [if_neg hb]
set_option maxRecDepth 100000 in
set_option maxHeartbeats 4000000 in
theorem frac_Ratio (a b : Int) (h1 : -9223372036854775808 ≤ a) (h2 : a ≤ 9223372036854775807) (h3 : -9223372036854775808 ≤ b) (h4 : b ≤ 9223372036854775807) (w : World) :
 Calls Tryz.prog 52 #[.int .i64 a, .int .i64 b] w (FitPost w (ratioL a b)) := by
 have HF0 := Lib.hid (FB.new w zeroF)
 have ha : Below w.heap.size w (w.alloc (.cells zeroF.cells.toArray 71)) := (Below.refl _ _).alloc (Nat.le_refl _) _
 have HB0 := Lib.hid ha
 clear ha
 by_cases hb : b = 0
 · subst hb
   have HR : Hid (ratioL a 0 = (zeroF, 2)) := rfl
   go_enter Tryz.func52, Tryz.ntmps52
   go_wp2_with (first
    | ((with_reducible refine g_st 71 ?_); refine wpList_stF (f := zeroF) rfl _ _ rfl rfl rfl HF0.out ?_; intro w5 hfb5 hgr5))
   refine bodyPost_ret (results_frac_err rfl _ rfl hfb5) rfl ⟨by rw [HR.out]; rfl, ?_⟩
   exact HB0.out.grown hgr5 HB0.out.size (by intro q hq; injection hq with hq; omega)
 · obtain ⟨x, hx⟩ : ∃ x, x = a.natAbs := ⟨_, rfl⟩
   obtain ⟨y, hy⟩ : ∃ y, y = b.natAbs := ⟨_, rfl⟩
   obtain ⟨bn, hbn⟩ : ∃ bn, bn = (decide (a < 0) != decide (b < 0)) := ⟨_, rfl⟩
   have hr := ratioL_fit (a := a) hb
   rw [← hx, ← hy, ← hbn] at hr
   have HS := Lib.hid (fun (w1 : World) => frac_size64 a h1 h2 w1)
   have HO := Lib.hid (fun (w1 : World) => frac_size64 b h3 h4 w1)
   rw [← hx] at HS
   rw [← hy] at HO
   have HY0 := Lib.hid (show 0 < y by omega)
   have HL1 := Lib.hid (len_small (k := x) (by omega))
   have HL2 := Lib.hid (len_small (k := y) (by omega))
   obtain ⟨lx, hlx⟩ : ∃ lx, lx = len32 x := ⟨_, rfl⟩
   obtain ⟨ly, hly⟩ : ∃ ly, ly = len32 y := ⟨_, rfl⟩
   rw [← hlx] at HS
   rw [← hly] at HO
   have HL := Lib.hid (And.intro hlx hly)
   rw [hr]
   have HBN : Hid ((!(decide (a < 0) == decide (b < 0))) = bn) := hbn.symm
   clear hlx hly hx hy hr hbn
   obtain ⟨r, hr⟩ : ∃ r, r = fitL bn x y := ⟨_, rfl⟩
   rw [← hr]
   have HR := Lib.hid hr
   clear hr
   go_enter Tryz.func52, Tryz.ntmps52
   go_wp2_with (first
    | (go_at_call 58; refine (HS.out _).mono ?_; rintro e w1 ⟨A1, c1, rfl, hr1, hb1⟩; have HB1 := Lib.hid (HB0.out.trans (hb1.mono HB0.out.size)); have F1 := Lib.hid (HF0.out.below hb1 HF0.out.lt); have R1 := Lib.hid hr1; clear hr1 hb1 HS)
    | (go_at_call 58; refine (HO.out _).mono ?_; rintro e w2 ⟨A2, c2, rfl, hr2, hb2⟩; have HB2 := Lib.hid (HB1.out.trans (hb2.mono HB1.out.size)); have F2 := Lib.hid (F1.out.below hb2 F1.out.lt); have R12 := Lib.hid (R1.out.from hb2); have R2 := Lib.hid hr2; clear hr2 hb2)
    | (go_at_call 56; rw [HBN.out]
       refine (frac_fit bn A1 A2 c1 c2 x y lx ly HL.out.1 HL.out.2 _ R12.out R2.out HL1.out HL2.out HY0.out).mono ?_; rintro e w3 ⟨rfl, hb3⟩; rw [← HR.out]; have HB3 := Lib.hid (HB2.out.trans (hb3.mono HB2.out.size)); have F3 := Lib.hid (F2.out.below hb3 F2.out.lt); clear hb3)
    | ((with_reducible refine g_st 71 ?_); refine wpList_stF (f := r.1) rfl _ _ rfl rfl rfl F3.out ?_; intro w5 hfb5 hgr5))
   refine bodyPost_ret (results_frac_err rfl _ rfl hfb5) rfl ⟨rfl, ?_⟩
   exact HB3.out.grown hgr5 HB3.out.size (by intro q hq; injection hq with hq; omega)
theorem list8 {l : List Nat} (hl : l.length = 8) : ∃ a0 a1 a2 a3 a4 a5 a6 a7 : Nat, l = [a0, a1, a2, a3, a4, a5, a6, a7] := by
 match l, hl with
 | [a0, a1, a2, a3, a4, a5, a6, a7], _ => exact ⟨_, _, _, _, _, _, _, _, rfl⟩
theorem frac_explicit (f : FracV) : ∃ (b : Bool) (c : Fin 16 → Int), f.cells = [.bool b, .int .u32 (c 0), .int .u32 (c 1), .int .u32 (c 2), .int .u32 (c 3), .int .u32 (c 4), .int .u32 (c 5), .int .u32 (c 6), .int .u32 (c 7), .int .u32 (c 8), .int .u32 (c 9), .int .u32 (c 10), .int .u32 (c 11), .int .u32 (c 12), .int .u32 (c 13), .int .u32 (c 14), .int .u32 (c 15)] := by
 obtain ⟨a0, a1, a2, a3, a4, a5, a6, a7, ha⟩ := list8 (pad_len B32 8 f.num)
 obtain ⟨d0, d1, d2, d3, d4, d5, d6, d7, hd⟩ := list8 (pad_len B32 8 f.den)
 refine ⟨f.neg, fun i => ([a0, a1, a2, a3, a4, a5, a6, a7, d0, d1, d2, d3, d4, d5, d6, d7].map (fun (n : Nat) => (n : Int))).getD i.val 0, ?_⟩
 unfold FracV.cells
 rw [ha, hd]
 rfl
end Go.Proofs.YtfdjcakgolenbaaGreat
