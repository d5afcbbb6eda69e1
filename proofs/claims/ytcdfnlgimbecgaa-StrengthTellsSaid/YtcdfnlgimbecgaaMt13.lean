/-
  frac: parts, Right, size64, Of, Ratio.
-/
import Derived.Test.YtcdfnlgimbecgaaMt12
import Derived.DeepKeys
import Derived.Laws.StructEq
namespace Go.Proofs.Ytcdfnlgimbecgaa
open Go.RowKit
def PartsPost (w : World) (f : FracV) (e : Ending) (w' : World) : Prop := ∃ A c D d, e = .returned (.tuple #[.slice A (len32 f.num) c, .slice D (len32 f.den) d]) ∧ Rd32 w' A f.num ∧ Rd32 w' D f.den ∧ Below w.heap.size w w'
theorem FB.rd_num {w : World} {g : Nat} {f : FracV} (h : FB w g f) : Rd w w.heap.size 1 (some ⟨g, 1, none⟩) (nums .u32 (pad B32 8 f.num)) := (frac_rd h).1
theorem FB.rd_den {w : World} {g : Nat} {f : FracV} (h : FB w g f) : Rd w w.heap.size 1 (some ⟨g, 9, none⟩) (nums .u32 (pad B32 8 f.den)) := (frac_rd h).2
set_option maxRecDepth 100000 in
set_option maxHeartbeats 4000000 in
theorem frac_parts (f : FracV) (hf : f.fits) (w : World) : Calls Try.prog 53 #[f.val] w (PartsPost w f) := by
 have hp1 : f.num < B32 ^ 8 := by rw [pow256]; exact hf.1
 have hp2 : f.den < B32 ^ 8 := by rw [pow256]; exact hf.2
 have HT1 := Lib.hid (fun (w1 : World) (h : FB w1 w.heap.size f) => frac_trim (some ⟨w.heap.size, 1, none⟩) 8 8 (pad B32 8 f.num) (pad_len _ _ _).symm w1 h.rd_num (pad_digs (by decide) _ _) (by rw [pad_len]; omega) (by rw [pad_len]; omega))
 have HT2 := Lib.hid (fun (w1 : World) (h : FB w1 w.heap.size f) => frac_trim (some ⟨w.heap.size, 9, none⟩) 8 8 (pad B32 8 f.den) (pad_len _ _ _).symm w1 h.rd_den (pad_digs (by decide) _ _) (by rw [pad_len]; omega) (by rw [pad_len]; omega))
 rw [valB_pad (by decide) _ _ hp1] at HT1
 rw [valB_pad (by decide) _ _ hp2] at HT2
 have hmo : Try.prog.follows .mixedOrders = true := by kernel_rfl
 have HF : Hid (∀ n, FB ((w.alloc (.cells f.cells.toArray 37)).drewN n) w.heap.size f) := fun n => (FB.new w f).keep (by simp)
 obtain ⟨ln, hln⟩ : ∃ ln, ln = len32 f.num := ⟨_, rfl⟩
 obtain ⟨ld, hld⟩ : ∃ ld, ld = len32 f.den := ⟨_, rfl⟩
 rw [← hln] at HT1
 rw [← hld] at HT2
 have HL := Lib.hid (And.intro hln hld)
 clear hp1 hp2 hln hld
 unfold FracV.val
 go_enter Try.func53, Try.ntmps53
 go_wp2
 go_quiet (first
  | (go_at_call_of 85 (Value.slice (some ⟨w.heap.size, 1, none⟩) 8 8); exact Calls.quiet_of_same (HT1.out _ (HF.out _)))
  | (go_at_call_of 85 (Value.slice (some ⟨w.heap.size, 9, none⟩) 8 8); exact Calls.quiet_of_same (HT2.out _ (HF.out _))))
 go_wp2
 go_ret2
 have hfb := HF.out nq
 have r1 := rd_trim hB32 hfb.rd_num (pad_digs (by decide) _ _)
 have r2 := rd_trim hB32 hfb.rd_den (pad_digs (by decide) _ _)
 rw [valB_pad (by decide) _ _ (by rw [pow256]; exact hf.1)] at r1
 rw [valB_pad (by decide) _ _ (by rw [pow256]; exact hf.2)] at r2
 exact ⟨_, 8, _, 8, by rw [← HL.out.1, ← HL.out.2]; rfl, r1, r2, below_drewN ((Below.refl _ _).alloc (Nat.le_refl _) _) nq⟩
theorem FB.ld' {w : World} {g : Nat} {f : FracV} (h : FB w g f) : (loadVar 37 ⟨g, 0, none⟩).run Try.prog w = .ok (.agg f.cells.toArray) w := h.ld
theorem len_top_le {x : Nat} (h : x < top256) : len32 x ≤ 8 := (len_top x).1 h
theorem len_zero_iff {x : Nat} : len32 x = 0 ↔ x = 0 := by
 constructor
 · intro h
   rcases Nat.eq_zero_or_pos x with h1 | h1
   · exact h1
   · have : 0 < len32 x := dig_len_pos hB32 (by omega)
     omega
 · rintro rfl; rfl
set_option maxRecDepth 100000 in
set_option maxHeartbeats 4000000 in
theorem frac_Right (f : FracV) (hf : f.fits) (w : World) : Calls Try.prog 50 #[f.val] w fun e w' => e = .returned (.bool f.right) ∧ Below w.heap.size w w' := by
 have hb0 : Below w.heap.size w (w.alloc (.cells f.cells.toArray 37)) := (Below.refl _ _).alloc (Nat.le_refl _) _
 have HB0 := Lib.hid hb0
 have HF := Lib.hid (FB.new w f)
 have HP : Hid (Calls Try.prog 53 #[.agg f.cells.toArray] (w.alloc (.cells f.cells.toArray 37)) (PartsPost (w.alloc (.cells f.cells.toArray 37)) f)) := frac_parts f hf _
 unfold FracV.val
 obtain ⟨ln, hln⟩ : ∃ ln, ln = len32 f.num := ⟨_, rfl⟩
 obtain ⟨ld, hld⟩ : ∃ ld, ld = len32 f.den := ⟨_, rfl⟩
 have HL := Lib.hid (And.intro hln hld)
 have l1 := len_top_le hf.1
 have l2 := len_top_le hf.2
 by_cases hd0 : f.den = 0
 · have hld0 : ld = 0 := by rw [hld, hd0]; rfl
   have HD := Lib.hid hd0
   have hld1 : (ld : Int) = 0 := by omega
   clear hd0 hld hln l1 l2 hf hb0
   go_enter Try.func50, Try.ntmps50
   go_wp2_with (first
    | ((with_reducible refine g_ld 37 ?_); refine wpList_ld rfl _ _ rfl _ rfl _ HF.out.ld' ?_)
    | (go_at_call 53; refine (HP.out).mono ?_; rintro e w1 ⟨A1, c1, A2, c2, rfl, hr1, hr2, hb1⟩; have HB1 := Lib.hid (HB0.out.trans (hb1.mono HB0.out.size)); rw [← HL.out.1, ← HL.out.2]; clear hr1 hr2 hb1))
   go_ret
   exact ⟨by unfold FracV.right; rw [HD.out]; rfl, HB1.out⟩
 · have hld1 : (0 : Int) < (ld : Int) := by
    have : 0 < len32 f.den := dig_len_pos hB32 hd0
    omega
   have hld2 : 0 < ld := by omega
   have hg : len32 (Nat.gcd f.num f.den) ≤ 8 := len_top_le (Nat.lt_of_le_of_lt (Nat.le_of_dvd (Nat.pos_of_ne_zero hd0) (Nat.gcd_dvd_right _ _)) hf.2)
   have HS := Lib.hid (And.intro l1 (And.intro l2 hg))
   have HD := Lib.hid hd0
   clear hd0 hld hln l1 l2 hf hb0 hg
   by_cases hg1 : Nat.gcd f.num f.den = 1
   · have HG := Lib.hid (show decide (Nat.gcd f.num f.den = 1) = true from decide_eq_true hg1)
     clear hg1
     cases hneg : f.neg with
     | false =>
      have HE := Lib.hid hneg
      have hfn : f.neg = false := hneg
      clear hneg
      go_enter Try.func50, Try.ntmps50
      go_wp2_with (first
       | ((with_reducible refine g_ld 37 ?_); refine wpList_ld rfl _ _ rfl _ rfl _ HF.out.ld' ?_)
       | (go_at_call 53; refine (HP.out).mono ?_; rintro e w1 ⟨A1, c1, A2, c2, rfl, hr1, hr2, hb1⟩; have HB1 := Lib.hid (HB0.out.trans (hb1.mono HB0.out.size)); have F1 := Lib.hid (HF.out.below hb1 HF.out.lt); have R1 := Lib.hid hr1; have R2 := Lib.hid hr2; rw [← HL.out.1, ← HL.out.2]; clear hr1 hr2 hb1)
       | (go_at_call 83; refine (frac_common A1 A2 c1 c2 f.num f.den _ ld HL.out.1 HL.out.2 _ R1.out R2.out (by have := HS.out; omega) (by have := HS.out; omega)).mono ?_; rintro e w2 ⟨A3, c3, rfl, hr3, hb3⟩; have HB2 := Lib.hid (HB1.out.trans (hb3.mono HB1.out.size)); have F2 := Lib.hid (F1.out.below hb3 F1.out.lt); have R3 := Lib.hid hr3; clear hr3 hb3)
       | (go_at_call 84; refine (frac_one A3 c3 _ (Nat.gcd f.num f.den) rfl _ R3.out (by have := HS.out; omega)).mono ?_; rintro e w3 ⟨rfl, hw3⟩; subst hw3; rw [HG.out])
       | ((with_reducible refine g_ld 4 ?_); refine wpList_ldw rfl _ _ rfl _ rfl _ F2.out.ld_neg ?_))
      go_ret
      exact ⟨by unfold FracV.right; rw [HE.out, HG.out, decide_eq_true HD.out]; rfl, HB2.out⟩
     | true =>
      have HE := Lib.hid hneg
      have hfn : f.neg = true := hneg
      clear hneg
      by_cases hn0 : f.num = 0
      · have hln0 : ln = 0 := by rw [HL.out.1, hn0]; rfl
        have HN := Lib.hid (show decide (f.num = 0) = true from decide_eq_true hn0)
        clear hn0
        subst hln0
        go_enter Try.func50, Try.ntmps50
        go_wp2_with (first
         | ((with_reducible refine g_ld 37 ?_); refine wpList_ld rfl _ _ rfl _ rfl _ HF.out.ld' ?_)
         | (go_at_call 53; refine (HP.out).mono ?_; rintro e w1 ⟨A1, c1, A2, c2, rfl, hr1, hr2, hb1⟩; have HB1 := Lib.hid (HB0.out.trans (hb1.mono HB0.out.size)); have F1 := Lib.hid (HF.out.below hb1 HF.out.lt); have R1 := Lib.hid hr1; have R2 := Lib.hid hr2; rw [← HL.out.1, ← HL.out.2]; clear hr1 hr2 hb1)
         | (go_at_call 83; refine (frac_common A1 A2 c1 c2 f.num f.den _ ld HL.out.1 HL.out.2 _ R1.out R2.out (by have := HS.out; omega) (by have := HS.out; omega)).mono ?_; rintro e w2 ⟨A3, c3, rfl, hr3, hb3⟩; have HB2 := Lib.hid (HB1.out.trans (hb3.mono HB1.out.size)); have F2 := Lib.hid (F1.out.below hb3 F1.out.lt); have R3 := Lib.hid hr3; clear hr3 hb3)
         | (go_at_call 84; refine (frac_one A3 c3 _ (Nat.gcd f.num f.den) rfl _ R3.out (by have := HS.out; omega)).mono ?_; rintro e w3 ⟨rfl, hw3⟩; subst hw3; rw [HG.out])
         | ((with_reducible refine g_ld 4 ?_); refine wpList_ldw rfl _ _ rfl _ rfl _ F2.out.ld_neg ?_))
        go_ret
        exact ⟨by unfold FracV.right; rw [HE.out, HG.out, decide_eq_true HD.out, HN.out]; rfl, HB2.out⟩
      · have hln0 : ¬ ln = 0 := by rw [HL.out.1]; exact fun h => hn0 (len_zero_iff.1 h)
        have hln1 : ((ln : Int) == 0) = false := by simp; omega
        have HN := Lib.hid (show decide (f.num = 0) = false from decide_eq_false hn0)
        clear hn0
        go_enter Try.func50, Try.ntmps50
        go_wp2_with (first
         | ((with_reducible refine g_ld 37 ?_); refine wpList_ld rfl _ _ rfl _ rfl _ HF.out.ld' ?_)
         | (go_at_call 53; refine (HP.out).mono ?_; rintro e w1 ⟨A1, c1, A2, c2, rfl, hr1, hr2, hb1⟩; have HB1 := Lib.hid (HB0.out.trans (hb1.mono HB0.out.size)); have F1 := Lib.hid (HF.out.below hb1 HF.out.lt); have R1 := Lib.hid hr1; have R2 := Lib.hid hr2; rw [← HL.out.1, ← HL.out.2]; clear hr1 hr2 hb1)
         | (go_at_call 83; refine (frac_common A1 A2 c1 c2 f.num f.den _ ld HL.out.1 HL.out.2 _ R1.out R2.out (by have := HS.out; omega) (by have := HS.out; omega)).mono ?_; rintro e w2 ⟨A3, c3, rfl, hr3, hb3⟩; have HB2 := Lib.hid (HB1.out.trans (hb3.mono HB1.out.size)); have F2 := Lib.hid (F1.out.below hb3 F1.out.lt); have R3 := Lib.hid hr3; clear hr3 hb3)
         | (go_at_call 84; refine (frac_one A3 c3 _ (Nat.gcd f.num f.den) rfl _ R3.out (by have := HS.out; omega)).mono ?_; rintro e w3 ⟨rfl, hw3⟩; subst hw3; rw [HG.out])
         | ((with_reducible refine g_ld 4 ?_); refine wpList_ldw rfl _ _ rfl _ rfl _ F2.out.ld_neg ?_))
        go_ret
        exact ⟨by unfold FracV.right; rw [HE.out, HG.out, decide_eq_true HD.out, HN.out]; rfl, HB2.out⟩
   · have HG := Lib.hid (show decide (Nat.gcd f.num f.den = 1) = false from decide_eq_false hg1)
     clear hg1
     go_enter Try.func50, Try.ntmps50
     go_wp2_with (first
      | ((with_reducible refine g_ld 37 ?_); refine wpList_ld rfl _ _ rfl _ rfl _ HF.out.ld' ?_)
      | (go_at_call 53; refine (HP.out).mono ?_; rintro e w1 ⟨A1, c1, A2, c2, rfl, hr1, hr2, hb1⟩; have HB1 := Lib.hid (HB0.out.trans (hb1.mono HB0.out.size)); have R1 := Lib.hid hr1; have R2 := Lib.hid hr2; rw [← HL.out.1, ← HL.out.2]; clear hr1 hr2 hb1)
      | (go_at_call 83; refine (frac_common A1 A2 c1 c2 f.num f.den _ ld HL.out.1 HL.out.2 _ R1.out R2.out (by have := HS.out; omega) (by have := HS.out; omega)).mono ?_; rintro e w2 ⟨A3, c3, rfl, hr3, hb3⟩; have HB2 := Lib.hid (HB1.out.trans (hb3.mono HB1.out.size)); have R3 := Lib.hid hr3; clear hr3 hb3)
      | (go_at_call 84; refine (frac_one A3 c3 _ (Nat.gcd f.num f.den) rfl _ R3.out (by have := HS.out; omega)).mono ?_; rintro e w3 ⟨rfl, hw3⟩; subst hw3; rw [HG.out]))
     go_ret
     exact ⟨by unfold FracV.right; rw [HG.out, decide_eq_true HD.out]; rfl, HB2.out⟩
theorem wrap_neg64 {n : Int} (h1 : -9223372036854775808 ≤ n) (h2 : n < 0) : IntKind.u64.wrap (-(IntKind.u64.wrap n)) = (n.natAbs : Int) := by
 unfold IntKind.wrap
 simp [IntKind.bits, IntKind.signed]
 omega
set_option maxHeartbeats 2000000 in
theorem frac_size64 (n : Int) (h1 : -9223372036854775808 ≤ n) (h2 : n ≤ 9223372036854775807) (w : World) :
 Calls Try.prog 47 #[.int .i64 n] w fun e w' => ∃ A' c', e = .returned (.slice A' (len32 n.natAbs) c') ∧ Rd32 w' A' n.natAbs ∧ Below w.heap.size w w' := by
 obtain ⟨k, hk⟩ : ∃ k, k = n.natAbs := ⟨_, rfl⟩
 have hks : k < 18446744073709551616 := by omega
 rw [← hk]
 have HO := Lib.hid (frac_of k hks w)
 by_cases h0 : n < 0
 · have w1' : IntKind.u64.wrap (-(IntKind.u64.wrap n)) = (k : Int) := by rw [wrap_neg64 h1 h0, hk]
   obtain ⟨z, hz⟩ : ∃ z, z = IntKind.u64.wrap n := ⟨_, rfl⟩
   rw [← hz] at w1'
   have hz2 : IntKind.u64.wrap n = z := hz.symm
   clear hz hk hks
   go_enter Try.func47, Try.ntmps47
   go_wp2_with (go_at_call 48; refine (HO.out).mono ?_; rintro e w1 ⟨A1, c1, rfl, hr1, hc1, hb1⟩)
   go_ret
   exact ⟨A1, c1, rfl, hr1, hb1⟩
 · have w1' : IntKind.u64.wrap n = (k : Int) := by rw [wrap_u64 (by omega) (by omega)]; omega
   clear hk hks
   go_enter Try.func47, Try.ntmps47
   go_wp2_with (go_at_call 48; refine (HO.out).mono ?_; rintro e w1 ⟨A1, c1, rfl, hr1, hc1, hb1⟩)
   go_ret
   exact ⟨A1, c1, rfl, hr1, hb1⟩
theorem len_small {k : Nat} (h : k < 18446744073709551616) : len32 k ≤ 900 := by
 have h2 : B32 ^ 2 = 18446744073709551616 := by decide
 have h3 : len32 k ≤ 2 := dig_len_le hB32 (by rw [h2]; exact h)
 omega
theorem top256_big : 18446744073709551616 < top256 := by decide
set_option maxRecDepth 100000 in
set_option maxHeartbeats 4000000 in
theorem frac_Of (n : Int) (h1 : -9223372036854775808 ≤ n) (h2 : n ≤ 9223372036854775807) (w : World) :
 Calls Try.prog 13 #[.int .i64 n] w fun e w' => e = .returned (ofL n).val ∧ Below w.heap.size w w' := by
 obtain ⟨k, hk⟩ : ∃ k, k = n.natAbs := ⟨_, rfl⟩
 have hks : k < 18446744073709551616 := by omega
 obtain ⟨bn, hbn⟩ : ∃ bn, bn = decide (n < 0) := ⟨_, rfl⟩
 have hfit : fitL bn k 1 = (ofL n, 0) := by
  rw [fitL_one _ _ (Nat.lt_trans hks top256_big), hbn, hk]
  unfold ofL
  congr 2
  by_cases h0 : n < 0
  · simp [h0]; omega
  · simp [h0]
 have ha : Below w.heap.size w (w.alloc (.cells zeroF.cells.toArray 37)) := (Below.refl _ _).alloc (Nat.le_refl _) _
 have HS := Lib.hid (fun (w1 : World) => frac_size64 n h1 h2 w1)
 have HO := Lib.hid (fun (w1 : World) => frac_of 1 (by omega) w1)
 have HL1 := Lib.hid (show len32 1 ≤ 900 from len_small (by omega))
 rw [← hk] at HS
 have HF0 := Lib.hid (FB.new w zeroF)
 have HB0 := Lib.hid ha
 have HFIT := Lib.hid hfit
 have HKS := Lib.hid (len_small hks)
 have HBN := Lib.hid hbn
 clear ha hfit hks hk
 obtain ⟨l1, hl1⟩ : ∃ l1, l1 = len32 1 := ⟨_, rfl⟩
 obtain ⟨lk, hlk⟩ : ∃ lk, lk = len32 k := ⟨_, rfl⟩
 rw [← hl1] at HO
 rw [← hlk] at HS
 have HL := Lib.hid (And.intro hl1 hlk)
 clear hl1 hlk hbn
 go_enter Try.func13, Try.ntmps13
 go_wp2_with (first
  | (go_at_call 47; refine (HS.out _).mono ?_; rintro e w1 ⟨A1, c1, rfl, hr1, hb1⟩; have HB1 := Lib.hid (HB0.out.trans (hb1.mono HB0.out.size)); have F1 := Lib.hid (HF0.out.below hb1 HF0.out.lt); have R1 := Lib.hid hr1; clear hr1 hb1)
  | (go_at_call 48; refine (HO.out _).mono ?_; rintro e w2 ⟨A2, c2, rfl, hr2, hc2, hb2⟩; have HB2 := Lib.hid (HB1.out.trans (hb2.mono HB1.out.size)); have F2 := Lib.hid (F1.out.below hb2 F1.out.lt); have R12 := Lib.hid (R1.out.from hb2); have R2 := Lib.hid hr2; clear hr2 hb2 hc2; try rw [← HBN.out])
  | ((with_reducible refine g_st 37 ?_); refine wpList_stF (f := ofL n) rfl _ _ rfl rfl rfl (FB.new w3 zeroF) ?_; intro w4 hfb4 hgr4
     have C4 : Hid (From w3 w4) := ((Below.refl w3.heap.size w3).alloc (Nat.le_refl _) _).grown hgr4 (by simp) (by intro q hq; injection hq with hq; omega)
     have F4 := Lib.hid hfb4; have F34 := Lib.hid (F3.out.below C4.out F3.out.lt); have HB4 := Lib.hid (HB3.out.trans (C4.out.mono HB3.out.size)); clear hfb4 hgr4 F3 HB3)
  | ((with_reducible refine g_ld 37 ?_); refine wpList_ld rfl _ _ rfl _ rfl _ F4.out.ld ?_)
  | ((with_reducible refine g_st 37 ?_); refine wpList_stF (f := ofL n) rfl _ _ rfl rfl rfl F34.out ?_; intro w5 hfb5 hgr5)
  | (go_at_call 46; refine (frac_fit bn A1 A2 c1 c2 k 1 lk l1 HL.out.2 HL.out.1 _ R12.out R2.out HKS.out HL1.out (by omega)).mono ?_; rintro e w3 ⟨rfl, hb3⟩; rw [HFIT.out]; have HB3 := Lib.hid (HB2.out.trans (hb3.mono HB2.out.size)); have F3 := Lib.hid (F2.out.below hb3 F2.out.lt); clear hb3))
 refine bodyPost_ret (results_frac rfl _ rfl hfb5) rfl ⟨rfl, ?_⟩
 exact HB4.out.grown hgr5 HB4.out.size (by intro q hq; injection hq with hq; omega)
theorem ratioL_fit {a b : Int} (hb : b ≠ 0) : ratioL a b = fitL (decide (a < 0) != decide (b < 0)) a.natAbs b.natAbs := by
 unfold ratioL
 rw [if_neg hb]
set_option maxRecDepth 100000 in
set_option maxHeartbeats 4000000 in
theorem frac_Ratio (a b : Int) (h1 : -9223372036854775808 ≤ a) (h2 : a ≤ 9223372036854775807) (h3 : -9223372036854775808 ≤ b) (h4 : b ≤ 9223372036854775807) (w : World) :
 Calls Try.prog 43 #[.int .i64 a, .int .i64 b] w (FitPost w (ratioL a b)) := by
 have HF0 := Lib.hid (FB.new w zeroF)
 have ha : Below w.heap.size w (w.alloc (.cells zeroF.cells.toArray 37)) := (Below.refl _ _).alloc (Nat.le_refl _) _
 have HB0 := Lib.hid ha
 clear ha
 by_cases hb : b = 0
 · subst hb
   have HR : Hid (ratioL a 0 = (zeroF, 2)) := rfl
   go_enter Try.func43, Try.ntmps43
   go_wp2_with (first
    | ((with_reducible refine g_st 37 ?_); refine wpList_stF (f := zeroF) rfl _ _ rfl rfl rfl HF0.out ?_; intro w5 hfb5 hgr5))
   refine bodyPost_ret (results_frac_err rfl _ rfl hfb5) rfl ⟨by rw [HR.out]; rfl, ?_⟩
   exact HB0.out.grown hgr5 HB0.out.size (by intro q hq; injection hq with hq; omega)
 · obtain ⟨x, hx⟩ : ∃ x, x = a.natAbs := ⟨_, rfl⟩
   obtain ⟨y, hy⟩ : ∃ y, y = b.natAbs := ⟨_, rfl⟩
   obtain ⟨bn, hbn⟩ : ∃ bn, bn = (decide (a < 0) != decide (b < 0)) := ⟨_, rfl⟩
   have hr := ratioL_fit (a := a) hb
   rw [← hx, ← hy, ← hbn] at hr
   have HS := Lib.hid (fun (w1 : World) => frac_size64 a h1 h2 w1)
   have HO := Lib.hid (fun (w1 : World) => frac_size64 b h3 h4 w1)
   rw [← hx] at HS
   rw [← hy] at HO
   have HY0 := Lib.hid (show 0 < y by omega)
   have HL1 := Lib.hid (len_small (k := x) (by omega))
   have HL2 := Lib.hid (len_small (k := y) (by omega))
   obtain ⟨lx, hlx⟩ : ∃ lx, lx = len32 x := ⟨_, rfl⟩
   obtain ⟨ly, hly⟩ : ∃ ly, ly = len32 y := ⟨_, rfl⟩
   rw [← hlx] at HS
   rw [← hly] at HO
   have HL := Lib.hid (And.intro hlx hly)
   rw [hr]
   have HBN : Hid ((!(decide (a < 0) == decide (b < 0))) = bn) := hbn.symm
   clear hlx hly hx hy hr hbn
   obtain ⟨r, hr⟩ : ∃ r, r = fitL bn x y := ⟨_, rfl⟩
   rw [← hr]
   have HR := Lib.hid hr
   clear hr
   go_enter Try.func43, Try.ntmps43
   go_wp2_with (first
    | (go_at_call 47; refine (HS.out _).mono ?_; rintro e w1 ⟨A1, c1, rfl, hr1, hb1⟩; have HB1 := Lib.hid (HB0.out.trans (hb1.mono HB0.out.size)); have F1 := Lib.hid (HF0.out.below hb1 HF0.out.lt); have R1 := Lib.hid hr1; clear hr1 hb1 HS)
    | (go_at_call 47; refine (HO.out _).mono ?_; rintro e w2 ⟨A2, c2, rfl, hr2, hb2⟩; have HB2 := Lib.hid (HB1.out.trans (hb2.mono HB1.out.size)); have F2 := Lib.hid (F1.out.below hb2 F1.out.lt); have R12 := Lib.hid (R1.out.from hb2); have R2 := Lib.hid hr2; clear hr2 hb2)
    | (go_at_call 46; rw [HBN.out]
       refine (frac_fit bn A1 A2 c1 c2 x y lx ly HL.out.1 HL.out.2 _ R12.out R2.out HL1.out HL2.out HY0.out).mono ?_; rintro e w3 ⟨rfl, hb3⟩; rw [← HR.out]; have HB3 := Lib.hid (HB2.out.trans (hb3.mono HB2.out.size)); have F3 := Lib.hid (F2.out.below hb3 F2.out.lt); clear hb3)
    | ((with_reducible refine g_st 37 ?_); refine wpList_stF (f := r.1) rfl _ _ rfl rfl rfl F3.out ?_; intro w5 hfb5 hgr5))
   refine bodyPost_ret (results_frac_err rfl _ rfl hfb5) rfl ⟨rfl, ?_⟩
   exact HB3.out.grown hgr5 HB3.out.size (by intro q hq; injection hq with hq; omega)
def natCells (l : List Nat) : List Value := l.map fun (n : Nat) => Value.int .u32 (n : Int)
def natLits (l : List Nat) : List Lit := l.map fun (n : Nat) => Lit.int .u32 (n : Int)
theorem natLits_inj {l m : List Nat} (h : natLits l = natLits m) : l = m := by
 refine List.map_inj_right ?_ |>.1 h
 intro a b e
 injection e with _ e
 omega
theorem list8 {l : List Nat} (hl : l.length = 8) : ∃ a0 a1 a2 a3 a4 a5 a6 a7 : Nat, l = [a0, a1, a2, a3, a4, a5, a6, a7] := by
 match l, hl with
 | [a0, a1, a2, a3, a4, a5, a6, a7], _ => exact ⟨_, _, _, _, _, _, _, _, rfl⟩
theorem u32_wf {n : Nat} (h : n < 4294967296) : (Lit.int .u32 (n : Int)).wf = true := by
 simp [Lit.wf, IntKind.min, IntKind.max, IntKind.bits, IntKind.signed]
 omega
theorem u32_lits (d : Nat) {n : Nat} (h : n < 4294967296) : Try.prog.keyLits (d + 1) 34 [Value.int .u32 (n : Int)] = some [Lit.int .u32 (n : Int)] := by
 have hw := u32_wf h
 simp [Program.keyLits, Try.underlying34, hw]
theorem cells_u32 : Try.prog.cellsOf 34 = 1 := by kernel_rfl
theorem cells_arr : Try.prog.cellsOf 35 = 8 := by kernel_rfl
theorem cells_frac : Try.prog.cellsOf 37 = 17 := by kernel_rfl
theorem cells_bool : Try.prog.cellsOf 4 = 1 := by kernel_rfl
theorem arr_lits (d : Nat) (l : List Nat) (hl : l.length = 8) (hd : Digs B32 l) : Try.prog.keyLits (d + 2) 35 (natCells l) = some (natLits l) := by
 obtain ⟨a0, a1, a2, a3, a4, a5, a6, a7, rfl⟩ := list8 hl
 have h := fun n (hn : n ∈ [a0, a1, a2, a3, a4, a5, a6, a7]) => u32_lits d (hd n hn)
 have h0 := h a0 (by simp)
 have h1 := h a1 (by simp)
 have h2 := h a2 (by simp)
 have h3 := h a3 (by simp)
 have h4 := h a4 (by simp)
 have h5 := h a5 (by simp)
 have h6 := h a6 (by simp)
 have h7 := h a7 (by simp)
 have hr : List.range 8 = [0, 1, 2, 3, 4, 5, 6, 7] := by decide
 unfold Program.keyLits
 simp only [Try.underlying35, cells_arr, cells_u32, natCells, natLits, List.map_cons, List.map_nil, List.length_cons, List.length_nil, if_true, hr, List.mapM_cons, List.mapM_nil, Nat.mul_one, List.drop_succ_cons, List.drop_zero, List.take_succ_cons, List.take_zero, h0, h1, h2, h3, h4, h5, h6, h7]
 rfl
theorem arr_key : Try.prog.keyTypeAt 5 35 = true := by kernel_rfl
theorem frac_key : Try.prog.keyTypeAt 5 37 = true := by kernel_rfl
theorem arr_formed (l : List Nat) (hl : l.length = 8) : (Value.agg (natCells l).toArray).formed Try.prog 35 = true := by
 obtain ⟨a0, a1, a2, a3, a4, a5, a6, a7, rfl⟩ := list8 hl
 kernel_rfl
theorem bool_lits (d : Nat) (b : Bool) : Try.prog.keyLits (d + 1) 4 [Value.bool b] = some [Lit.bool b] := by
 simp [Program.keyLits, Try.underlying4]
theorem fr_lits (b : Bool) (l m : List Nat) (hl : l.length = 8) (hm : m.length = 8) (hd : Digs B32 l) (hd' : Digs B32 m) : Try.prog.keyLits 6 37 ([Value.bool b] ++ natCells l ++ natCells m) = some ([Lit.bool b] ++ natLits l ++ natLits m) := by
 have h1 := arr_lits 3 l hl hd
 have h2 := arr_lits 3 m hm hd'
 have h0 := bool_lits 4 b
 have e1 : (([Value.bool b] ++ natCells l ++ natCells m).drop 0).take 1 = [Value.bool b] := by rfl
 have e2 : (([Value.bool b] ++ natCells l ++ natCells m).drop 1).take 8 = natCells l := by
  simp only [List.cons_append, List.nil_append, List.drop_succ_cons, List.drop_zero]
  exact List.take_left' (by simp [natCells, hl])
 have e3 : (([Value.bool b] ++ natCells l ++ natCells m).drop 9).take 8 = natCells m := by
  have h9 : ([Value.bool b] ++ natCells l).length = 9 := by simp [natCells, hl]
  rw [List.drop_left' h9]
  exact List.take_of_length_le (by simp [natCells, hm])
 have hlen : ([Value.bool b] ++ natCells l ++ natCells m).length = 17 := by simp [natCells, hl, hm]
 unfold Program.keyLits
 simp only [Try.underlying37, cells_frac]
 rw [if_pos ⟨hlen, by kernel_rfl⟩]
 simp only [List.mapM_cons, List.mapM_nil, cells_arr, cells_bool, e1, e2, e3, h0, h1, h2]
 show some ([Lit.bool b] ++ (natLits l ++ (natLits m ++ []))) = _
 simp
theorem fr_formed (b : Bool) (l m : List Nat) (hl : l.length = 8) (hm : m.length = 8) : (Value.agg ([Value.bool b] ++ natCells l ++ natCells m).toArray).formed Try.prog 37 = true := by
 obtain ⟨a0, a1, a2, a3, a4, a5, a6, a7, rfl⟩ := list8 hl
 obtain ⟨b0, b1, b2, b3, b4, b5, b6, b7, rfl⟩ := list8 hm
 kernel_rfl
theorem arr_eql (l m : List Nat) (hl : l.length = 8) (hm : m.length = 8) (hd : Digs B32 l) (hd' : Digs B32 m) (w : World) : (Op.equalIn 10000 35 (.agg (natCells l).toArray) (.agg (natCells m).toArray)).run Try.prog w = .ok (decide (l = m)) w := by
 obtain ⟨r, hr, hiff⟩ := run_equalIn_deep 9995 5 35 arr_key w 5 5 _ _ _ _ (arr_formed l hl) (arr_formed m hm) (arr_lits 3 l hl hd) (arr_lits 3 m hm hd')
 have e : r = decide (l = m) := by
  rw [Bool.eq_iff_iff, hiff, decide_eq_true_iff]
  exact ⟨natLits_inj, fun h => by rw [h]⟩
 rw [← e]
 exact hr
theorem fr_eql (b c : Bool) (l m l' m' : List Nat) (hl : l.length = 8) (hm : m.length = 8) (hl' : l'.length = 8) (hm' : m'.length = 8) (hd : Digs B32 l) (hd2 : Digs B32 m) (hd3 : Digs B32 l') (hd4 : Digs B32 m') (w : World) :
 (Op.equalIn 10000 37 (.agg ([Value.bool b] ++ natCells l ++ natCells m).toArray) (.agg ([Value.bool c] ++ natCells l' ++ natCells m').toArray)).run Try.prog w = .ok (decide (b = c ∧ l = l' ∧ m = m')) w := by
 obtain ⟨r, hr, hiff⟩ := run_equalIn_deep 9995 5 37 frac_key w 6 6 _ _ _ _ (fr_formed b l m hl hm) (fr_formed c l' m' hl' hm') (fr_lits b l m hl hm hd hd2) (fr_lits c l' m' hl' hm' hd3 hd4)
 have e : r = decide (b = c ∧ l = l' ∧ m = m') := by
  rw [Bool.eq_iff_iff, hiff, decide_eq_true_iff]
  constructor
  · intro h
    have h' : Lit.bool b :: (natLits l ++ natLits m) = Lit.bool c :: (natLits l' ++ natLits m') := h
    injection h' with h1 h2
    injection h1 with h1
    obtain ⟨h3, h4⟩ := List.append_inj h2 (by simp [natLits, hl, hl'])
    exact ⟨h1, natLits_inj h3, natLits_inj h4⟩
  · rintro ⟨rfl, rfl, rfl⟩
    rfl
 rw [← e]
 exact hr
theorem pad_inj {x y : Nat} (hx : x < top256) (hy : y < top256) (h : pad B32 8 x = pad B32 8 y) : x = y := by
 have h1 := valB_pad (B := B32) (by decide) 8 x (by rw [pow256]; exact hx)
 have h2 := valB_pad (B := B32) (by decide) 8 y (by rw [pow256]; exact hy)
 rw [← h1, ← h2, h]
theorem frac_eql (f g : FracV) (hf : f.fits) (hg : g.fits) (w : World) : (binOp .eql 37 (.agg f.cells.toArray) (.agg g.cells.toArray)).run Try.prog w = .ok (.bool (decide (f = g))) w := by
 rw [run_eql_struct]
 have h := fr_eql f.neg g.neg (pad B32 8 f.num) (pad B32 8 f.den) (pad B32 8 g.num) (pad B32 8 g.den) (pad_len _ _ _) (pad_len _ _ _) (pad_len _ _ _) (pad_len _ _ _) (pad_digs (by decide) _ _) (pad_digs (by decide) _ _) (pad_digs (by decide) _ _) (pad_digs (by decide) _ _) w
 have e : decide (f.neg = g.neg ∧ pad B32 8 f.num = pad B32 8 g.num ∧ pad B32 8 f.den = pad B32 8 g.den) = decide (f = g) := by
  rw [Bool.eq_iff_iff, decide_eq_true_iff, decide_eq_true_iff]
  constructor
  · rintro ⟨h1, h2, h3⟩
    cases f; cases g
    rw [FracV.mk.injEq]
    exact ⟨h1, pad_inj hf.1 hg.1 h2, pad_inj hf.2 hg.2 h3⟩
  · rintro rfl
    exact ⟨rfl, rfl, rfl⟩
 rw [e] at h
 show ((Op.equalIn 10000 37 (.agg ([Value.bool f.neg] ++ natCells (pad B32 8 f.num) ++ natCells (pad B32 8 f.den)).toArray) (.agg ([Value.bool g.neg] ++ natCells (pad B32 8 g.num) ++ natCells (pad B32 8 g.den)).toArray)).run Try.prog w).andThen _ = _
 rw [h]
 rfl
theorem num_neq (x : Nat) (hx : x < top256) (w : World) : (binOp .neq 35 (.agg (natCells (pad B32 8 x)).toArray) (.agg #[.int .u32 0, .int .u32 0, .int .u32 0, .int .u32 0, .int .u32 0, .int .u32 0, .int .u32 0, .int .u32 0])).run Try.prog w = .ok (.bool (decide (x ≠ 0))) w := by
 rw [run_neq_struct]
 have h := arr_eql (pad B32 8 x) (pad B32 8 0) (pad_len _ _ _) (pad_len _ _ _) (pad_digs (by decide) _ _) (pad_digs (by decide) _ _) w
 have e : decide (pad B32 8 x = pad B32 8 0) = decide (x = 0) := by
  rw [Bool.eq_iff_iff, decide_eq_true_iff, decide_eq_true_iff]
  exact ⟨pad_inj hx (by decide), fun h => by rw [h]⟩
 rw [e] at h
 have h' : (Op.equalIn 10000 35 (.agg (natCells (pad B32 8 x)).toArray) (.agg #[.int .u32 0, .int .u32 0, .int .u32 0, .int .u32 0, .int .u32 0, .int .u32 0, .int .u32 0, .int .u32 0])).run Try.prog w = .ok (decide (x = 0)) w := h
 rw [h']
 simp
theorem num_eql (x : Nat) (hx : x < top256) (w : World) : (binOp .eql 35 (.agg (natCells (pad B32 8 x)).toArray) (.agg #[.int .u32 0, .int .u32 0, .int .u32 0, .int .u32 0, .int .u32 0, .int .u32 0, .int .u32 0, .int .u32 0])).run Try.prog w = .ok (.bool (decide (x = 0))) w := by
 rw [run_eql_struct]
 have h := arr_eql (pad B32 8 x) (pad B32 8 0) (pad_len _ _ _) (pad_len _ _ _) (pad_digs (by decide) _ _) (pad_digs (by decide) _ _) w
 have e : decide (pad B32 8 x = pad B32 8 0) = decide (x = 0) := by
  rw [Bool.eq_iff_iff, decide_eq_true_iff, decide_eq_true_iff]
  exact ⟨pad_inj hx (by decide), fun h => by rw [h]⟩
 rw [e] at h
 have h' : (Op.equalIn 10000 35 (.agg (natCells (pad B32 8 x)).toArray) (.agg #[.int .u32 0, .int .u32 0, .int .u32 0, .int .u32 0, .int .u32 0, .int .u32 0, .int .u32 0, .int .u32 0])).run Try.prog w = .ok (decide (x = 0)) w := h
 rw [h']
 rfl
theorem arr_row : IsRow Try.prog 35 8 := ⟨_, Try.underlying35, by kernel_rfl, by kernel_rfl⟩
theorem FB.ld_num {w : World} {g : Nat} {f : FracV} (h : FB w g f) : (loadVar 35 ⟨g, 1, none⟩).run Try.prog w = .ok (.agg (natCells (pad B32 8 f.num)).toArray) w :=
 run_load_cells (cs := natCells (pad B32 8 f.num)) arr_row (by simp [natCells, pad_len]) (fun j x hx => by
  rw [Addr.add_lit, cell_of_row w g (1 + j) _ _ _ h]
  have hj : j < 8 := by have := (List.getElem?_eq_some_iff.1 hx).1; simpa [natCells, pad_len] using this
  simp only [List.getElem?_toArray]
  rw [f.cell_num hj]
  unfold natCells at hx
  rw [List.getElem?_map, List.getElem?_eq_getElem (by rw [pad_len]; exact hj)] at hx
  exact hx)
theorem num_cell {w : World} {B : Nat} {A : Option Addr} {k : IntKind} {l : List Nat} (h : Rd w B 1 A (nums k l)) {i : Nat} (hi : i < l.length) :
 ∃ b off, A = some ⟨b, off, none⟩ ∧ b < B ∧ ∀ w', Below B w w' → w'.cell? ⟨b, off + i, none⟩ = some (.int k (l.getD i 0 : Nat)) := by
 obtain ⟨b, off, e, hlt, hl, hc⟩ := h i _ (nums_get hi)
 refine ⟨b, off, e, hlt, fun w' hb => ?_⟩
 have h1 := hc 0 _ rfl
 simp only [Nat.mul_one, Nat.add_zero] at h1
 rw [hb.cell (p := ⟨b, off + i, none⟩) hlt, h1]
 simp [hi]
theorem dig_inj32 {x y : Nat} (h : dig B32 x = dig B32 y) : x = y := dig_inj hB32 h
set_option maxRecDepth 100000 in
set_option maxHeartbeats 4000000 in
theorem nat_equal (A D : Option Addr) (ca cd x y n m : Nat) (hn : n = len32 x) (hm : m = len32 y) (w : World) (h : Rd32 w A x) (h' : Rd32 w D y) (hx : len32 x ≤ 1000) :
 Calls Try.prog 86 #[.slice A n ca, .slice D m cd] w fun e w' => e = .returned (.bool (decide (x = y))) ∧ Below w.heap.size w w' := by
 by_cases hnm : n = m
 · subst hnm
   have hxy : Hid (len32 x = len32 y) := by unfold Hid; rw [← hn, ← hm]
   have HN := Lib.hid hn
   have HM := Lib.hid hm
   have hn1 : n ≤ 1000 := by omega
   clear hn hm hx
   obtain ⟨r, hr⟩ : ∃ r, r = decide (x = y) := ⟨_, rfl⟩
   have HR := Lib.hid hr
   rw [← hr]
   clear hr
   go_enter Try.func86, Try.ntmps86
   go_wp2
   go_loopw [13] (fun iv wr => ∃ k : Nat, k ≤ n ∧ iv = .int .i64 k ∧ Below w.heap.size w wr ∧ (dig B32 x).take k = (dig B32 y).take k) (fun iv _ => n - (intOf iv).toNat)
   case atStart => exact ⟨0, Nat.zero_le _, rfl, Below.refl _ _, rfl⟩
   case round =>
    obtain ⟨k, hk, rfl, hb, htk⟩ := hrel
    have HB := Lib.hid hb
    have HTK := Lib.hid htk
    clear hb htk
    by_cases hkn : k < n
    · obtain ⟨b1, o1, rfl, hb1, hc1⟩ := num_cell h (i := k) (show k < len32 x by rw [← HN.out]; exact hkn)
      obtain ⟨b2, o2, rfl, hb2, hc2⟩ := num_cell h' (i := k) (show k < len32 y by rw [← HM.out]; exact hkn)
      obtain ⟨d1, hd1⟩ : ∃ d1, d1 = (dig B32 x).getD k 0 := ⟨_, rfl⟩
      obtain ⟨d2, hd2⟩ : ∃ d2, d2 = (dig B32 y).getD k 0 := ⟨_, rfl⟩
      rw [← hd1] at hc1
      rw [← hd2] at hc2
      have c1 := hc1 wr.drew HB.out.drew
      have c2 := hc2 wr.drew HB.out.drew
      have HD1 := Lib.hid hd1
      have HD2 := Lib.hid hd2
      have HB2 : Hid (Below w.heap.size w wr.drew) := HB.out.drew
      have hmo : Try.prog.follows .mixedOrders = true := by kernel_rfl
      have hki : (k : Int) < (n : Int) := by omega
      clear hc1 hc2 hd1 hd2 h h' hb1 hb2
      by_cases hdd : d1 = d2
      · have htk1 : Hid ((dig B32 x).take (k + 1) = (dig B32 y).take (k + 1)) := by
         have hkx : k < (dig B32 x).length := by show k < len32 x; rw [← HN.out]; exact hkn
         have hky : k < (dig B32 y).length := by show k < len32 y; rw [← HM.out]; exact hkn
         have e1 := HD1.out
         have e2 := HD2.out
         simp only [List.getD_eq_getElem?_getD, List.getElem?_eq_getElem hkx, List.getElem?_eq_getElem hky, Option.getD_some] at e1 e2
         unfold Hid
         rw [List.take_succ_eq_append_getElem hkx, List.take_succ_eq_append_getElem hky, HTK.out, ← e1, ← e2, hdd]
        clear HD1 HD2 HTK
        subst hdd
        go_wp2
        go_region
        go_wp2
        go_roundw
        case rel => exact ⟨k + 1, by omega, by go_num, HB2.out, htk1.out⟩
        case measure => simp [intOf]; omega
      · have hddi : ((d1 : Int) == (d2 : Int)) = false := by simp; omega
        have hfalse : Hid (r = false) := by
         unfold Hid
         rw [HR.out]
         apply decide_eq_false
         rintro rfl
         exact hdd (by rw [HD1.out, HD2.out])
        clear HD1 HD2 HTK HR
        go_wp2
        go_region
        go_wp2
        go_ret
        exact ⟨by rw [hfalse.out]; rfl, HB2.out⟩
    · obtain rfl : k = n := by omega
      have hkk : ¬ (k : Int) < (k : Int) := by omega
      have htrue : Hid (r = true) := by
       unfold Hid
       rw [HR.out]
       apply decide_eq_true
       apply dig_inj32
       have := HTK.out
       rwa [List.take_of_length_le (by show len32 x ≤ k; rw [← HN.out]; omega), List.take_of_length_le (by show len32 y ≤ k; rw [← HM.out]; omega)] at this
      clear HR HTK h h'
      go_wp2
      go_ret
      exact ⟨by rw [htrue.out]; rfl, HB.out⟩
 · have hxy : decide (x = y) = false := by
    apply decide_eq_false
    rintro rfl
    exact hnm (by rw [hn, hm])
   have hnmi : ((n : Int) == (m : Int)) = false := by simp; omega
   rw [hxy]
   clear h h' hn hm hx hxy
   go_enter Try.func86, Try.ntmps86
   go_wp2
   go_ret
   exact ⟨rfl, Below.refl _ _⟩
end Go.Proofs.Ytcdfnlgimbecgaa
