/-
  slices.Equal of numbers; frac.turned.
  frac: turned.
-/
import Derived.Test.YtcdfnlgimbecgaaMo22

namespace Go.Proofs.Ytcdfnlgimbecgaa
open Go.RowKit

theorem num_cell {w : World} {B : Nat} {A : Option Addr} {k : IntKind} {l : List Nat} (h : Rd w B 1 A (nums k l)) {i : Nat} (hi : i < l.length) :
    ∃ b off, A = some ⟨b, off, none⟩ ∧ b < B ∧ ∀ w', Below B w w' → w'.cell? ⟨b, off + i, none⟩ = some (.int k (l.getD i 0 : Nat)) := by
  obtain ⟨b, off, e, hlt, hl, hc⟩ := h i _ (nums_get hi)
  refine ⟨b, off, e, hlt, fun w' hb => ?_⟩
  have h1 := hc 0 _ rfl
  simp only [Nat.mul_one, Nat.add_zero] at h1
  rw [hb.cell (p := ⟨b, off + i, none⟩) hlt, h1]
  simp [hi]
theorem dig_inj32 {x y : Nat} (h : dig B32 x = dig B32 y) : x = y := dig_inj hB32 h

set_option maxRecDepth 100000 in
set_option maxHeartbeats 4000000 in
theorem nat_equal (A D : Option Addr) (ca cd x y n m : Nat) (hn : n = len32 x) (hm : m = len32 y) (w : World) (h : Rd32 w A x) (h' : Rd32 w D y) (hx : len32 x ≤ 1000) :
    Calls Try.prog 86 #[.slice A n ca, .slice D m cd] w fun e w' => e = .returned (.bool (decide (x = y))) ∧ Below w.heap.size w w' := by
  by_cases hnm : n = m
  · subst hnm
    have hxy : Hid (len32 x = len32 y) := by unfold Hid; rw [← hn, ← hm]
    have HN := Lib.hid hn
    have HM := Lib.hid hm
    have hn1 : n ≤ 1000 := by omega
    clear hn hm hx
    obtain ⟨r, hr⟩ : ∃ r, r = decide (x = y) := ⟨_, rfl⟩
    have HR := Lib.hid hr
    rw [← hr]
    clear hr
    go_enter Try.func86, Try.ntmps86
    go_wp2
    go_loopw [13] (fun iv wr => ∃ k : Nat, k ≤ n ∧ iv = .int .i64 k ∧ Below w.heap.size w wr ∧ (dig B32 x).take k = (dig B32 y).take k) (fun iv _ => n - (intOf iv).toNat)
    case atStart => exact ⟨0, Nat.zero_le _, rfl, Below.refl _ _, rfl⟩
    case round =>
      obtain ⟨k, hk, rfl, hb, htk⟩ := hrel
      have HB := Lib.hid hb
      have HTK := Lib.hid htk
      clear hb htk
      by_cases hkn : k < n
      · obtain ⟨b1, o1, rfl, hb1, hc1⟩ := num_cell h (i := k) (show k < len32 x by rw [← HN.out]; exact hkn)
        obtain ⟨b2, o2, rfl, hb2, hc2⟩ := num_cell h' (i := k) (show k < len32 y by rw [← HM.out]; exact hkn)
        obtain ⟨d1, hd1⟩ : ∃ d1, d1 = (dig B32 x).getD k 0 := ⟨_, rfl⟩
        obtain ⟨d2, hd2⟩ : ∃ d2, d2 = (dig B32 y).getD k 0 := ⟨_, rfl⟩
        rw [← hd1] at hc1
        rw [← hd2] at hc2
        have c1 := hc1 wr.drew HB.out.drew
        have c2 := hc2 wr.drew HB.out.drew
        have HD1 := Lib.hid hd1
        have HD2 := Lib.hid hd2
        have HB2 : Hid (Below w.heap.size w wr.drew) := HB.out.drew
        have hmo : Try.prog.follows .mixedOrders = true := by kernel_rfl
        have hki : (k : Int) < (n : Int) := by omega
        clear hc1 hc2 hd1 hd2 h h' hb1 hb2
        by_cases hdd : d1 = d2
        · have htk1 : Hid ((dig B32 x).take (k + 1) = (dig B32 y).take (k + 1)) := by
            have hkx : k < (dig B32 x).length := by show k < len32 x; rw [← HN.out]; exact hkn
            have hky : k < (dig B32 y).length := by show k < len32 y; rw [← HM.out]; exact hkn
            have e1 := HD1.out
            have e2 := HD2.out
            simp only [List.getD_eq_getElem?_getD, List.getElem?_eq_getElem hkx, List.getElem?_eq_getElem hky, Option.getD_some] at e1 e2
            unfold Hid
            rw [List.take_succ_eq_append_getElem hkx, List.take_succ_eq_append_getElem hky, HTK.out, ← e1, ← e2, hdd]
          clear HD1 HD2 HTK
          subst hdd
          go_wp2
          go_region
          go_wp2
          go_roundw
          case rel => exact ⟨k + 1, by omega, by go_num, HB2.out, htk1.out⟩
          case measure => simp [intOf]; omega
        · have hddi : ((d1 : Int) == (d2 : Int)) = false := by simp; omega
          have hfalse : Hid (r = false) := by
            unfold Hid
            rw [HR.out]
            apply decide_eq_false
            rintro rfl
            exact hdd (by rw [HD1.out, HD2.out])
          clear HD1 HD2 HTK HR
          go_wp2
          go_region
          go_wp2
          go_ret
          exact ⟨by rw [hfalse.out]; rfl, HB2.out⟩
      · obtain rfl : k = n := by omega
        have hkk : ¬ (k : Int) < (k : Int) := by omega
        have htrue : Hid (r = true) := by
          unfold Hid
          rw [HR.out]
          apply decide_eq_true
          apply dig_inj32
          have := HTK.out
          rwa [List.take_of_length_le (by show len32 x ≤ k; rw [← HN.out]; omega), List.take_of_length_le (by show len32 y ≤ k; rw [← HM.out]; omega)] at this
        clear HR HTK h h'
        go_wp2
        go_ret
        exact ⟨by rw [htrue.out]; rfl, HB.out⟩
  · have hxy : decide (x = y) = false := by
      apply decide_eq_false
      rintro rfl
      exact hnm (by rw [hn, hm])
    have hnmi : ((n : Int) == (m : Int)) = false := by simp; omega
    rw [hxy]
    clear h h' hn hm hx hxy
    go_enter Try.func86, Try.ntmps86
    go_wp2
    go_ret
    exact ⟨rfl, Below.refl _ _⟩
end Go.Proofs.Ytcdfnlgimbecgaa

namespace Go.Proofs.Ytcdfnlgimbecgaa
open Go.RowKit

theorem bool_size : (Try.prog.info? 4).map (·.size) = some 1 := by kernel_rfl
theorem wpList_stNeg {w : World} {ops : Array Oper} {rest : List Oper} {o : Oper} {a : Act} {Q : Exit → Act → World → Prop} {g : Nat} {f : FracV} {b : Bool} (hgd : o.guard = none) (x y : Operand) (ho : o.op = .store 4 x y) (hx : a.eval x = .pointer (some ⟨g, 0, none⟩)) (hy : a.eval y = .bool b) (hfb : FB w g f)
    (h : ∀ w', FB w' g ⟨b, f.num, f.den⟩ → w.grownBy w' (some g) → wpList Try.prog ops Q rest (a.put o.dst undef) w') : wpList Try.prog ops Q (o :: rest) a w := by
  refine wpList_st (cs := [.bool b]) hgd x y ho hx hy bool_size rfl rfl hfb (by simp [f.cells_len]) (by simp [Value.oneCell']) fun cur' w' hc hs hg hgr => h w' ?_ hgr
  have e : cur' = (FracV.mk b f.num f.den).cells.toArray := by
    apply Array.ext'
    rw [hc]
    rfl
  rw [e] at hg
  exact hg


set_option maxRecDepth 100000 in
set_option maxHeartbeats 4000000 in
theorem frac_turned (f : FracV) (hf : f.fits) (w : World) : Calls Try.prog 52 #[f.val] w fun e w' => e = .returned (negL f).val ∧ Below w.heap.size w w' := by
  have hb1 : Below w.heap.size w (w.alloc (.cells f.cells.toArray 37)) := (Below.refl _ _).alloc (Nat.le_refl _) _
  have HB : Hid (Below w.heap.size w ((w.alloc (.cells f.cells.toArray 37)).alloc (.cells zeroF.cells.toArray 37))) := hb1.alloc (by simp) _
  have HF : Hid (FB ((w.alloc (.cells f.cells.toArray 37)).alloc (.cells zeroF.cells.toArray 37)) w.heap.size f) := (FB.new w f).below ((Below.refl _ _).alloc (Nat.le_refl _) _) (FB.new w f).lt
  have HR : Hid (FB ((w.alloc (.cells f.cells.toArray 37)).alloc (.cells zeroF.cells.toArray 37)) (w.heap.size + 1) zeroF) := by
    have h := FB.new (w.alloc (.cells f.cells.toArray 37)) zeroF
    have e : (w.alloc (.cells f.cells.toArray 37)).heap.size = w.heap.size + 1 := by simp
    rw [e] at h
    exact h
  have hneq := num_neq f.num hf.1
  clear hb1
  unfold FracV.val at *
  cases hn : f.neg with
  | true =>
    have hfn : f.neg = true := hn
    have HN := Lib.hid hn
    clear hn
    go_enter Try.func52, Try.ntmps52
    go_wp2_with (first
      | ((with_reducible refine g_ld 4 ?_); refine wpList_ld rfl _ _ rfl _ rfl _ HF.out.ld_neg ?_)
      | ((with_reducible refine g_ld 35 ?_); refine wpList_ldw rfl _ _ rfl _ rfl _ HF.out.ld_num ?_)
      | ((with_reducible refine g_st 4 ?_); refine wpList_stNeg (b := false) rfl _ _ rfl rfl rfl HF.out ?_; intro w4 hfb4 hgr4
         have F4 := Lib.hid hfb4; have R4 := Lib.hid (HR.out.keep (hgr4.block _ HR.out.lt (by intro e; injection e with e; omega)))
         have B4 := Lib.hid (HB.out.grown hgr4 HB.out.size (by intro q hq; injection hq with hq; omega)); clear hfb4 hgr4)
      | ((with_reducible refine g_ld 37 ?_); refine wpList_ld rfl _ _ rfl _ rfl _ F4.out.ld ?_)
      | ((with_reducible refine g_st 37 ?_); refine wpList_stF (f := ⟨false, f.num, f.den⟩) rfl _ _ rfl rfl rfl R4.out ?_; intro w5 hfb5 hgr5))
    refine bodyPost_ret (results_frac rfl _ rfl hfb5) rfl ⟨?_, B4.out.grown hgr5 B4.out.size (by intro q hq; injection hq with hq; omega)⟩
    unfold negL
    rw [HN.out]
    rfl
  | false =>
    have hfn : f.neg = false := hn
    have HN := Lib.hid hn
    clear hn
    by_cases h0 : f.num = 0
    · have H0 : Hid (decide (f.num ≠ 0) = false) := by unfold Hid; simp [h0]
      simp only [H0.out] at hneq
      clear h0
      go_enter Try.func52, Try.ntmps52
      go_wp2_with (first
        | ((with_reducible refine g_ld 4 ?_); refine wpList_ld rfl _ _ rfl _ rfl _ HF.out.ld_neg ?_)
        | ((with_reducible refine g_ld 35 ?_); refine wpList_ldw rfl _ _ rfl _ rfl _ HF.out.ld_num ?_)
        | ((with_reducible refine g_st 4 ?_); refine wpList_stNeg (b := false) rfl _ _ rfl rfl rfl HF.out ?_; intro w4 hfb4 hgr4
           have F4 := Lib.hid hfb4; have R4 := Lib.hid (HR.out.keep (hgr4.block _ HR.out.lt (by intro e; injection e with e; omega)))
           have B4 := Lib.hid (HB.out.grown hgr4 HB.out.size (by intro q hq; injection hq with hq; omega)); clear hfb4 hgr4)
        | ((with_reducible refine g_ld 37 ?_); refine wpList_ld rfl _ _ rfl _ rfl _ F4.out.ld ?_)
        | ((with_reducible refine g_st 37 ?_); refine wpList_stF (f := ⟨false, f.num, f.den⟩) rfl _ _ rfl rfl rfl R4.out ?_; intro w5 hfb5 hgr5))
      refine bodyPost_ret (results_frac rfl _ rfl hfb5) rfl ⟨?_, B4.out.grown hgr5 B4.out.size (by intro q hq; injection hq with hq; omega)⟩
      unfold negL
      rw [HN.out, H0.out]
      rfl
    · have H0 : Hid (decide (f.num ≠ 0) = true) := by unfold Hid; simp [h0]
      simp only [H0.out] at hneq
      clear h0
      go_enter Try.func52, Try.ntmps52
      go_wp2_with (first
        | ((with_reducible refine g_ld 4 ?_); refine wpList_ld rfl _ _ rfl _ rfl _ HF.out.ld_neg ?_)
        | ((with_reducible refine g_ld 35 ?_); refine wpList_ldw rfl _ _ rfl _ rfl _ HF.out.ld_num ?_)
        | ((with_reducible refine g_st 4 ?_); refine wpList_stNeg (b := true) rfl _ _ rfl rfl rfl HF.out ?_; intro w4 hfb4 hgr4
           have F4 := Lib.hid hfb4; have R4 := Lib.hid (HR.out.keep (hgr4.block _ HR.out.lt (by intro e; injection e with e; omega)))
           have B4 := Lib.hid (HB.out.grown hgr4 HB.out.size (by intro q hq; injection hq with hq; omega)); clear hfb4 hgr4)
        | ((with_reducible refine g_ld 37 ?_); refine wpList_ld rfl _ _ rfl _ rfl _ F4.out.ld ?_)
        | ((with_reducible refine g_st 37 ?_); refine wpList_stF (f := ⟨true, f.num, f.den⟩) rfl _ _ rfl rfl rfl R4.out ?_; intro w5 hfb5 hgr5))
      refine bodyPost_ret (results_frac rfl _ rfl hfb5) rfl ⟨?_, B4.out.grown hgr5 B4.out.size (by intro q hq; injection hq with hq; omega)⟩
      unfold negL
      rw [HN.out, H0.out]
      rfl
end Go.Proofs.Ytcdfnlgimbecgaa
