/-
  frac: parts, Right, size64, Of, Ratio.
-/
import Derived.Test.YtfdjcakgolenbaaGreatMa16
import Derived.DeepKeys
import Derived.Laws.StructEq
set_option linter.unusedVariables false
set_option linter.unusedSimpArgs false
namespace Go.Proofs.YtfdjcakgolenbaaGreat
open Go.RowKit
def PartsPost (w : World) (f : FracV) (e : Ending) (w' : World) : Prop := ∃ A c D d, e = .returned (.tuple #[.slice A (len32 f.num) c, .slice D (len32 f.den) d]) /\ Rd32 w' A f.num /\ Rd32 w' D f.den /\ Below w.heap.size w w'
theorem FB.rd_num {w : World} {g : Nat} {f : FracV} (h : FB w g f) : Rd w w.heap.size 1 (some ⟨g, 1, none⟩) (nums .u32 (pad B32 8 f.num)) := (frac_rd h).1
theorem FB.rd_den {w : World} {g : Nat} {f : FracV} (h : FB w g f) : Rd w w.heap.size 1 (some ⟨g, 9, none⟩) (nums .u32 (pad B32 8 f.den)) := (frac_rd h).2
set_option maxRecDepth 100000 in
set_option maxHeartbeats 4000000 in
theorem frac_parts (f : FracV) (hf : f.fits) (w : World) : Calls Tryz.prog 55 #[f.val] w (PartsPost w f) := by
 have hp1 : f.num < B32 ^ 8 := by rw [pow256]; exact hf.1
 have hp2 : f.den < B32 ^ 8 := by rw [pow256]; exact hf.2
 have HT1 := Lib.hid (fun (w1 : World) (h : FB w1 w.heap.size f) => frac_trim (some ⟨w.heap.size, 1, none⟩) 8 8 (pad B32 8 f.num) (pad_len _ _ _).symm w1 h.rd_num (pad_digs (by decide) _ _) (by rw [pad_len]; omega) (by rw [pad_len]; omega));have HT2 := Lib.hid (fun (w1 : World) (h : FB w1 w.heap.size f) => frac_trim (some ⟨w.heap.size, 9, none⟩) 8 8 (pad B32 8 f.den) (pad_len _ _ _).symm w1 h.rd_den (pad_digs (by decide) _ _) (by rw [pad_len]; omega) (by rw [pad_len]; omega));rw [valB_pad (by decide) _ _ hp1] at HT1;rw [valB_pad (by decide) _ _ hp2] at HT2;have hmo : Tryz.prog.follows .mixedOrders = true := by kernel_rfl
 have HF : Hid (∀ n, FB ((w.alloc (.cells f.cells.toArray 71)).drewN n) w.heap.size f) := fun n => (FB.new w f).keep (by simp);obtain ⟨ln, hln⟩ : ∃ ln, ln = len32 f.num := ⟨_, rfl⟩
 obtain ⟨ld, hld⟩ : ∃ ld, ld = len32 f.den := ⟨_, rfl⟩
 rw [<- hln] at HT1;rw [<- hld] at HT2;have HL := Lib.hid (And.intro hln hld);clear hp1 hp2 hln hld;unfold FracV.val
 go_enter Tryz.func55, Tryz.ntmps55
 go_wp2
 go_quiet (first
  | (go_at_call_of 93 (Value.slice (some ⟨w.heap.size, 1, none⟩) 8 8); exact Calls.quiet_of_same (HT1.out _ (HF.out _)))
  | (go_at_call_of 93 (Value.slice (some ⟨w.heap.size, 9, none⟩) 8 8); exact Calls.quiet_of_same (HT2.out _ (HF.out _))))
 go_wp2
 go_ret2
 have hfb := HF.out nq;have r1 := rd_trim hB32 hfb.rd_num (pad_digs (by decide) _ _);have r2 := rd_trim hB32 hfb.rd_den (pad_digs (by decide) _ _);rw [valB_pad (by decide) _ _ (by rw [pow256]; exact hf.1)] at r1;rw [valB_pad (by decide) _ _ (by rw [pow256]; exact hf.2)] at r2;exact ⟨_, 8, _, 8, by rw [<- HL.out.1, <- HL.out.2]; rfl, r1, r2, below_drewN ((Below.refl _ _).alloc (Nat.le_refl _) _) nq⟩
theorem FB.ld' {w : World} {g : Nat} {f : FracV} (h : FB w g f) : (loadVar 71 ⟨g, 0, none⟩).run Tryz.prog w = .ok (.agg f.cells.toArray) w := h.ld
theorem len_top_le {x : Nat} (h : x < top256) : len32 x <= 8 := (len_top x).1 h
theorem len_zero_iff {x : Nat} : len32 x = 0 ↔ x = 0 := by
 constructor
 . intro h;rcases Nat.eq_zero_or_pos x with h1 | h1
   . exact h1
   . have : 0 < len32 x := dig_len_pos hB32 (by omega);omega
 . rintro rfl; rfl
set_option maxRecDepth 100000 in
set_option maxHeartbeats 4000000 in
theorem frac_Right (f : FracV) (hf : f.fits) (w : World) : Calls Tryz.prog 54 #[f.val] w fun e w' => e = .returned (.bool f.right) /\ Below w.heap.size w w' := by
 have hb0 : Below w.heap.size w (w.alloc (.cells f.cells.toArray 71)) := (Below.refl _ _).alloc (Nat.le_refl _) _;have HB0 := Lib.hid hb0;have HF := Lib.hid (FB.new w f);have HP : Hid (Calls Tryz.prog 55 #[.agg f.cells.toArray] (w.alloc (.cells f.cells.toArray 71)) (PartsPost (w.alloc (.cells f.cells.toArray 71)) f)) := frac_parts f hf _;unfold FracV.val;obtain ⟨ln, hln⟩ : ∃ ln, ln = len32 f.num := ⟨_, rfl⟩
 obtain ⟨ld, hld⟩ : ∃ ld, ld = len32 f.den := ⟨_, rfl⟩
 have HL := Lib.hid (And.intro hln hld);have l1 := len_top_le hf.1;have l2 := len_top_le hf.2;by_cases hd0 : f.den = 0
 . have hld0 : ld = 0 := by rw [hld, hd0]; rfl
   have HD := Lib.hid hd0;have hld1 : (ld : Int) = 0 := by omega
   clear hd0 hld hln l1 l2 hf hb0
   go_enter Tryz.func54, Tryz.ntmps54
   go_wp2_with (first
    | ((with_reducible refine g_ld 71 ?_); refine wpList_ld rfl _ _ rfl _ rfl _ HF.out.ld' ?_)
    | (go_at_call 55; refine (HP.out).mono ?_; rintro e w1 ⟨A1, c1, A2, c2, rfl, hr1, hr2, hb1⟩; have HB1 := Lib.hid (HB0.out.trans (hb1.mono HB0.out.size)); rw [<- HL.out.1, <- HL.out.2]; clear hr1 hr2 hb1))
   go_ret
   exact ⟨by unfold FracV.right; rw [HD.out]; rfl, HB1.out⟩
 . have hld1 : (0 : Int) < (ld : Int) := by
    have : 0 < len32 f.den := dig_len_pos hB32 hd0;omega
   have hld2 : 0 < ld := by omega
   have hg : len32 (Nat.gcd f.num f.den) <= 8 := len_top_le (Nat.lt_of_le_of_lt (Nat.le_of_dvd (Nat.pos_of_ne_zero hd0) (Nat.gcd_dvd_right _ _)) hf.2);have HS := Lib.hid (And.intro l1 (And.intro l2 hg));have HD := Lib.hid hd0;clear hd0 hld hln l1 l2 hf hb0 hg;by_cases hg1 : Nat.gcd f.num f.den = 1
   . have HG := Lib.hid (show decide (Nat.gcd f.num f.den = 1) = true from decide_eq_true hg1);clear hg1
     cases hneg : f.neg with
     | false =>
      have HE := Lib.hid hneg;have hfn : f.neg = false := hneg;clear hneg
      go_enter Tryz.func54, Tryz.ntmps54
      go_wp2_with (first
       | ((with_reducible refine g_ld 71 ?_); refine wpList_ld rfl _ _ rfl _ rfl _ HF.out.ld' ?_)
       | (go_at_call 55; refine (HP.out).mono ?_; rintro e w1 ⟨A1, c1, A2, c2, rfl, hr1, hr2, hb1⟩; have HB1 := Lib.hid (HB0.out.trans (hb1.mono HB0.out.size)); have F1 := Lib.hid (HF.out.below hb1 HF.out.lt); have R1 := Lib.hid hr1; have R2 := Lib.hid hr2; rw [<- HL.out.1, <- HL.out.2]; clear hr1 hr2 hb1)
       | (go_at_call 92; refine (frac_common A1 A2 c1 c2 f.num f.den _ ld HL.out.1 HL.out.2 _ R1.out R2.out (by have := HS.out; omega) (by have := HS.out; omega)).mono ?_; rintro e w2 ⟨A3, c3, rfl, hr3, hb3⟩; have HB2 := Lib.hid (HB1.out.trans (hb3.mono HB1.out.size)); have F2 := Lib.hid (F1.out.below hb3 F1.out.lt); have R3 := Lib.hid hr3; clear hr3 hb3)
       | (go_at_call 91; refine (frac_one A3 c3 _ (Nat.gcd f.num f.den) rfl _ R3.out (by have := HS.out; omega)).mono ?_; rintro e w3 ⟨rfl, hw3⟩; subst hw3; rw [HG.out])
       | ((with_reducible refine g_ld 4 ?_); refine wpList_ldw rfl _ _ rfl _ rfl _ F2.out.ld_neg ?_))
      go_ret
      exact ⟨by unfold FracV.right; rw [HE.out, HG.out, decide_eq_true HD.out]; rfl, HB2.out⟩
     | true =>
      have HE := Lib.hid hneg;have hfn : f.neg = true := hneg;clear hneg;by_cases hn0 : f.num = 0
      . have hln0 : ln = 0 := by rw [HL.out.1, hn0]; rfl
        have HN := Lib.hid (show decide (f.num = 0) = true from decide_eq_true hn0);clear hn0;subst hln0
        go_enter Tryz.func54, Tryz.ntmps54
        go_wp2_with (first
         | ((with_reducible refine g_ld 71 ?_); refine wpList_ld rfl _ _ rfl _ rfl _ HF.out.ld' ?_)
         | (go_at_call 55; refine (HP.out).mono ?_; rintro e w1 ⟨A1, c1, A2, c2, rfl, hr1, hr2, hb1⟩; have HB1 := Lib.hid (HB0.out.trans (hb1.mono HB0.out.size)); have F1 := Lib.hid (HF.out.below hb1 HF.out.lt); have R1 := Lib.hid hr1; have R2 := Lib.hid hr2; rw [<- HL.out.1, <- HL.out.2]; clear hr1 hr2 hb1)
         | (go_at_call 92; refine (frac_common A1 A2 c1 c2 f.num f.den _ ld HL.out.1 HL.out.2 _ R1.out R2.out (by have := HS.out; omega) (by have := HS.out; omega)).mono ?_; rintro e w2 ⟨A3, c3, rfl, hr3, hb3⟩; have HB2 := Lib.hid (HB1.out.trans (hb3.mono HB1.out.size)); have F2 := Lib.hid (F1.out.below hb3 F1.out.lt); have R3 := Lib.hid hr3; clear hr3 hb3)
         | (go_at_call 91; refine (frac_one A3 c3 _ (Nat.gcd f.num f.den) rfl _ R3.out (by have := HS.out; omega)).mono ?_; rintro e w3 ⟨rfl, hw3⟩; subst hw3; rw [HG.out])
         | ((with_reducible refine g_ld 4 ?_); refine wpList_ldw rfl _ _ rfl _ rfl _ F2.out.ld_neg ?_))
        go_ret
        exact ⟨by unfold FracV.right; rw [HE.out, HG.out, decide_eq_true HD.out, HN.out]; rfl, HB2.out⟩
      . have hln0 : ¬ ln = 0 := by rw [HL.out.1]; exact fun h => hn0 (len_zero_iff.1 h)
        have hln1 : ((ln : Int) == 0) = false := by simp; omega
        have HN := Lib.hid (show decide (f.num = 0) = false from decide_eq_false hn0);clear hn0
        go_enter Tryz.func54, Tryz.ntmps54
        go_wp2_with (first
         | ((with_reducible refine g_ld 71 ?_); refine wpList_ld rfl _ _ rfl _ rfl _ HF.out.ld' ?_)
         | (go_at_call 55; refine (HP.out).mono ?_; rintro e w1 ⟨A1, c1, A2, c2, rfl, hr1, hr2, hb1⟩; have HB1 := Lib.hid (HB0.out.trans (hb1.mono HB0.out.size)); have F1 := Lib.hid (HF.out.below hb1 HF.out.lt); have R1 := Lib.hid hr1; have R2 := Lib.hid hr2; rw [<- HL.out.1, <- HL.out.2]; clear hr1 hr2 hb1)
         | (go_at_call 92; refine (frac_common A1 A2 c1 c2 f.num f.den _ ld HL.out.1 HL.out.2 _ R1.out R2.out (by have := HS.out; omega) (by have := HS.out; omega)).mono ?_; rintro e w2 ⟨A3, c3, rfl, hr3, hb3⟩; have HB2 := Lib.hid (HB1.out.trans (hb3.mono HB1.out.size)); have F2 := Lib.hid (F1.out.below hb3 F1.out.lt); have R3 := Lib.hid hr3; clear hr3 hb3)
         | (go_at_call 91; refine (frac_one A3 c3 _ (Nat.gcd f.num f.den) rfl _ R3.out (by have := HS.out; omega)).mono ?_; rintro e w3 ⟨rfl, hw3⟩; subst hw3; rw [HG.out])
         | ((with_reducible refine g_ld 4 ?_); refine wpList_ldw rfl _ _ rfl _ rfl _ F2.out.ld_neg ?_))
        go_ret
        exact ⟨by unfold FracV.right; rw [HE.out, HG.out, decide_eq_true HD.out, HN.out]; rfl, HB2.out⟩
   . have HG := Lib.hid (show decide (Nat.gcd f.num f.den = 1) = false from decide_eq_false hg1);clear hg1
     go_enter Tryz.func54, Tryz.ntmps54
     go_wp2_with (first
      | ((with_reducible refine g_ld 71 ?_); refine wpList_ld rfl _ _ rfl _ rfl _ HF.out.ld' ?_)
      | (go_at_call 55; refine (HP.out).mono ?_; rintro e w1 ⟨A1, c1, A2, c2, rfl, hr1, hr2, hb1⟩; have HB1 := Lib.hid (HB0.out.trans (hb1.mono HB0.out.size)); have R1 := Lib.hid hr1; have R2 := Lib.hid hr2; rw [<- HL.out.1, <- HL.out.2]; clear hr1 hr2 hb1)
      | (go_at_call 92; refine (frac_common A1 A2 c1 c2 f.num f.den _ ld HL.out.1 HL.out.2 _ R1.out R2.out (by have := HS.out; omega) (by have := HS.out; omega)).mono ?_; rintro e w2 ⟨A3, c3, rfl, hr3, hb3⟩; have HB2 := Lib.hid (HB1.out.trans (hb3.mono HB1.out.size)); have R3 := Lib.hid hr3; clear hr3 hb3)
      | (go_at_call 91; refine (frac_one A3 c3 _ (Nat.gcd f.num f.den) rfl _ R3.out (by have := HS.out; omega)).mono ?_; rintro e w3 ⟨rfl, hw3⟩; subst hw3; rw [HG.out]))
     go_ret
     exact ⟨by unfold FracV.right; rw [HG.out, decide_eq_true HD.out]; rfl, HB2.out⟩
theorem wrap_neg64 {n : Int} (h1 : -9223372036854775808 <= n) (h2 : n < 0) : IntKind.u64.wrap (-(IntKind.u64.wrap n)) = (n.natAbs : Int) := by
 unfold IntKind.wrap;simp [IntKind.bits, IntKind.signed];omega
set_option maxHeartbeats 2000000 in
theorem frac_size64 (n : Int) (h1 : -9223372036854775808 <= n) (h2 : n <= 9223372036854775807) (w : World) :
 Calls Tryz.prog 58 #[.int .i64 n] w fun e w' => ∃ A' c', e = .returned (.slice A' (len32 n.natAbs) c') /\ Rd32 w' A' n.natAbs /\ Below w.heap.size w w' := by
 obtain ⟨k, hk⟩ : ∃ k, k = n.natAbs := ⟨_, rfl⟩
 have hks : k < 18446744073709551616 := by omega
 rw [<- hk];have HO := Lib.hid (frac_of k hks w);by_cases h0 : n < 0
 . have w1' : IntKind.u64.wrap (-(IntKind.u64.wrap n)) = (k : Int) := by rw [wrap_neg64 h1 h0, hk]
   obtain ⟨z, hz⟩ : ∃ z, z = IntKind.u64.wrap n := ⟨_, rfl⟩
   rw [<- hz] at w1';have hz2 : IntKind.u64.wrap n = z := hz.symm;clear hz hk hks
   go_enter Tryz.func58, Tryz.ntmps58
   go_wp2_with (go_at_call 59; refine (HO.out).mono ?_; rintro e w1 ⟨A1, c1, rfl, hr1, hc1, hb1⟩)
   go_ret
   exact ⟨A1, c1, rfl, hr1, hb1⟩
 . have w1' : IntKind.u64.wrap n = (k : Int) := by rw [wrap_u64 (by omega) (by omega)]; omega
   clear hk hks
   go_enter Tryz.func58, Tryz.ntmps58
   go_wp2_with (go_at_call 59; refine (HO.out).mono ?_; rintro e w1 ⟨A1, c1, rfl, hr1, hc1, hb1⟩)
   go_ret
   exact ⟨A1, c1, rfl, hr1, hb1⟩
theorem len_small {k : Nat} (h : k < 18446744073709551616) : len32 k <= 900 := by
 have h2 : B32 ^ 2 = 18446744073709551616 := by decide
 have h3 : len32 k <= 2 := dig_len_le hB32 (by rw [h2]; exact h);omega
theorem top256_big : 18446744073709551616 < top256 := by decide
set_option maxRecDepth 100000 in
set_option maxHeartbeats 4000000 in
theorem frac_Of (n : Int) (h1 : -9223372036854775808 <= n) (h2 : n <= 9223372036854775807) (w : World) :
 Calls Tryz.prog 24 #[.int .i64 n] w fun e w' => e = .returned (ofL n).val /\ Below w.heap.size w w' := by
 obtain ⟨k, hk⟩ : ∃ k, k = n.natAbs := ⟨_, rfl⟩
 have hks : k < 18446744073709551616 := by omega
 obtain ⟨bn, hbn⟩ : ∃ bn, bn = decide (n < 0) := ⟨_, rfl⟩
 have hfit : fitL bn k 1 = (ofL n, 0) := by
  rw [fitL_one _ _ (Nat.lt_trans hks top256_big), hbn, hk];unfold ofL;congr 2;by_cases h0 : n < 0
  . simp [h0]; omega
  . simp [h0]
 have ha : Below w.heap.size w (w.alloc (.cells zeroF.cells.toArray 71)) := (Below.refl _ _).alloc (Nat.le_refl _) _;have HS := Lib.hid (fun (w1 : World) => frac_size64 n h1 h2 w1);have HO := Lib.hid (fun (w1 : World) => frac_of 1 (by omega) w1);have HL1 := Lib.hid (show len32 1 <= 900 from len_small (by omega));rw [<- hk] at HS;have HF0 := Lib.hid (FB.new w zeroF);have HB0 := Lib.hid ha;have HFIT := Lib.hid hfit;have HKS := Lib.hid (len_small hks);have HBN := Lib.hid hbn;clear ha hfit hks hk;obtain ⟨l1, hl1⟩ : ∃ l1, l1 = len32 1 := ⟨_, rfl⟩
 obtain ⟨lk, hlk⟩ : ∃ lk, lk = len32 k := ⟨_, rfl⟩
 rw [<- hl1] at HO;rw [<- hlk] at HS;have HL := Lib.hid (And.intro hl1 hlk);clear hl1 hlk hbn
 go_enter Tryz.func24, Tryz.ntmps24
 go_wp2_with (first
  | (go_at_call 58; refine (HS.out _).mono ?_; rintro e w1 ⟨A1, c1, rfl, hr1, hb1⟩; have HB1 := Lib.hid (HB0.out.trans (hb1.mono HB0.out.size)); have F1 := Lib.hid (HF0.out.below hb1 HF0.out.lt); have R1 := Lib.hid hr1; clear hr1 hb1)
  | (go_at_call 59; refine (HO.out _).mono ?_; rintro e w2 ⟨A2, c2, rfl, hr2, hc2, hb2⟩; have HB2 := Lib.hid (HB1.out.trans (hb2.mono HB1.out.size)); have F2 := Lib.hid (F1.out.below hb2 F1.out.lt); have R12 := Lib.hid (R1.out.from hb2); have R2 := Lib.hid hr2; clear hr2 hb2 hc2; try rw [<- HBN.out])
  | ((with_reducible refine g_st 71 ?_); refine wpList_stF (f := ofL n) rfl _ _ rfl rfl rfl (FB.new w3 zeroF) ?_; intro w4 hfb4 hgr4
     have C4 : Hid (From w3 w4) := ((Below.refl w3.heap.size w3).alloc (Nat.le_refl _) _).grown hgr4 (by simp) (by intro q hq; injection hq with hq; omega);have F4 := Lib.hid hfb4; have F34 := Lib.hid (F3.out.below C4.out F3.out.lt); have HB4 := Lib.hid (HB3.out.trans (C4.out.mono HB3.out.size)); clear hfb4 hgr4 F3 HB3)
  | ((with_reducible refine g_ld 71 ?_); refine wpList_ld rfl _ _ rfl _ rfl _ F4.out.ld ?_)
  | ((with_reducible refine g_st 71 ?_); refine wpList_stF (f := ofL n) rfl _ _ rfl rfl rfl F34.out ?_; intro w5 hfb5 hgr5)
  | (go_at_call 56; refine (frac_fit bn A1 A2 c1 c2 k 1 lk l1 HL.out.2 HL.out.1 _ R12.out R2.out HKS.out HL1.out (by omega)).mono ?_; rintro e w3 ⟨rfl, hb3⟩; rw [HFIT.out]; have HB3 := Lib.hid (HB2.out.trans (hb3.mono HB2.out.size)); have F3 := Lib.hid (F2.out.below hb3 F2.out.lt); clear hb3))
 refine bodyPost_ret (results_frac rfl _ rfl hfb5) rfl ⟨rfl, ?_⟩;exact HB4.out.grown hgr5 HB4.out.size (by intro q hq; injection hq with hq; omega)
theorem ratioL_fit {a b : Int} (hb : b ≠ 0) : ratioL a b = fitL (decide (a < 0) != decide (b < 0)) a.natAbs b.natAbs := by
 unfold ratioL;rw [if_neg hb]
set_option maxRecDepth 100000 in
set_option maxHeartbeats 4000000 in
theorem frac_Ratio (a b : Int) (h1 : -9223372036854775808 <= a) (h2 : a <= 9223372036854775807) (h3 : -9223372036854775808 <= b) (h4 : b <= 9223372036854775807) (w : World) :
 Calls Tryz.prog 52 #[.int .i64 a, .int .i64 b] w (FitPost w (ratioL a b)) := by
 have HF0 := Lib.hid (FB.new w zeroF);have ha : Below w.heap.size w (w.alloc (.cells zeroF.cells.toArray 71)) := (Below.refl _ _).alloc (Nat.le_refl _) _;have HB0 := Lib.hid ha;clear ha;by_cases hb : b = 0
 . subst hb;have HR : Hid (ratioL a 0 = (zeroF, 2)) := rfl
   go_enter Tryz.func52, Tryz.ntmps52
   go_wp2_with (first
    | ((with_reducible refine g_st 71 ?_); refine wpList_stF (f := zeroF) rfl _ _ rfl rfl rfl HF0.out ?_; intro w5 hfb5 hgr5))
   refine bodyPost_ret (results_frac_err rfl _ rfl hfb5) rfl ⟨by rw [HR.out]; rfl, ?_⟩;exact HB0.out.grown hgr5 HB0.out.size (by intro q hq; injection hq with hq; omega)
 . obtain ⟨x, hx⟩ : ∃ x, x = a.natAbs := ⟨_, rfl⟩
   obtain ⟨y, hy⟩ : ∃ y, y = b.natAbs := ⟨_, rfl⟩
   obtain ⟨bn, hbn⟩ : ∃ bn, bn = (decide (a < 0) != decide (b < 0)) := ⟨_, rfl⟩
   have hr := ratioL_fit (a := a) hb;rw [<- hx, <- hy, <- hbn] at hr;have HS := Lib.hid (fun (w1 : World) => frac_size64 a h1 h2 w1);have HO := Lib.hid (fun (w1 : World) => frac_size64 b h3 h4 w1);rw [<- hx] at HS;rw [<- hy] at HO;have HY0 := Lib.hid (show 0 < y by omega);have HL1 := Lib.hid (len_small (k := x) (by omega));have HL2 := Lib.hid (len_small (k := y) (by omega));obtain ⟨lx, hlx⟩ : ∃ lx, lx = len32 x := ⟨_, rfl⟩
   obtain ⟨ly, hly⟩ : ∃ ly, ly = len32 y := ⟨_, rfl⟩
   rw [<- hlx] at HS;rw [<- hly] at HO;have HL := Lib.hid (And.intro hlx hly);rw [hr];have HBN : Hid ((!(decide (a < 0) == decide (b < 0))) = bn) := hbn.symm;clear hlx hly hx hy hr hbn;obtain ⟨r, hr⟩ : ∃ r, r = fitL bn x y := ⟨_, rfl⟩
   rw [<- hr];have HR := Lib.hid hr;clear hr
   go_enter Tryz.func52, Tryz.ntmps52
   go_wp2_with (first
    | (go_at_call 58; refine (HS.out _).mono ?_; rintro e w1 ⟨A1, c1, rfl, hr1, hb1⟩; have HB1 := Lib.hid (HB0.out.trans (hb1.mono HB0.out.size)); have F1 := Lib.hid (HF0.out.below hb1 HF0.out.lt); have R1 := Lib.hid hr1; clear hr1 hb1 HS)
    | (go_at_call 58; refine (HO.out _).mono ?_; rintro e w2 ⟨A2, c2, rfl, hr2, hb2⟩; have HB2 := Lib.hid (HB1.out.trans (hb2.mono HB1.out.size)); have F2 := Lib.hid (F1.out.below hb2 F1.out.lt); have R12 := Lib.hid (R1.out.from hb2); have R2 := Lib.hid hr2; clear hr2 hb2)
    | (go_at_call 56; rw [HBN.out]
       refine (frac_fit bn A1 A2 c1 c2 x y lx ly HL.out.1 HL.out.2 _ R12.out R2.out HL1.out HL2.out HY0.out).mono ?_; rintro e w3 ⟨rfl, hb3⟩; rw [<- HR.out]; have HB3 := Lib.hid (HB2.out.trans (hb3.mono HB2.out.size)); have F3 := Lib.hid (F2.out.below hb3 F2.out.lt); clear hb3)
    | ((with_reducible refine g_st 71 ?_); refine wpList_stF (f := r.1) rfl _ _ rfl rfl rfl F3.out ?_; intro w5 hfb5 hgr5))
   refine bodyPost_ret (results_frac_err rfl _ rfl hfb5) rfl ⟨rfl, ?_⟩;exact HB3.out.grown hgr5 HB3.out.size (by intro q hq; injection hq with hq; omega)
def natCells (l : List Nat) : List Value := l.map fun (n : Nat) => Value.int .u32 (n : Int)
def natLits (l : List Nat) : List Lit := l.map fun (n : Nat) => Lit.int .u32 (n : Int)
theorem natLits_inj {l m : List Nat} (h : natLits l = natLits m) : l = m := by
 refine List.map_inj_right ?_ |>.1 h;intro a b e;injection e with _ e;omega
theorem list8 {l : List Nat} (hl : l.length = 8) : ∃ a0 a1 a2 a3 a4 a5 a6 a7 : Nat, l = [a0, a1, a2, a3, a4, a5, a6, a7] := by
 match l, hl with
 | [a0, a1, a2, a3, a4, a5, a6, a7], _ => exact ⟨_, _, _, _, _, _, _, _, rfl⟩
theorem u32_wf {n : Nat} (h : n < 4294967296) : (Lit.int .u32 (n : Int)).wf = true := by
 simp [Lit.wf, IntKind.min, IntKind.max, IntKind.bits, IntKind.signed];omega
theorem u32_lits (d : Nat) {n : Nat} (h : n < 4294967296) : Tryz.prog.keyLits (d + 1) 52 [Value.int .u32 (n : Int)] = some [Lit.int .u32 (n : Int)] := by
 have hw := u32_wf h;simp [Program.keyLits, Tryz.underlying52, hw]
theorem cells_u32 : Tryz.prog.cellsOf 52 = 1 := by kernel_rfl
theorem cells_arr : Tryz.prog.cellsOf 69 = 8 := by kernel_rfl
theorem cells_frac : Tryz.prog.cellsOf 71 = 17 := by kernel_rfl
theorem cells_bool : Tryz.prog.cellsOf 4 = 1 := by kernel_rfl
theorem arr_lits (d : Nat) (l : List Nat) (hl : l.length = 8) (hd : Digs B32 l) : Tryz.prog.keyLits (d + 2) 69 (natCells l) = some (natLits l) := by
 obtain ⟨a0, a1, a2, a3, a4, a5, a6, a7, rfl⟩ := list8 hl;have h := fun n (hn : n ∈ [a0, a1, a2, a3, a4, a5, a6, a7]) => u32_lits d (hd n hn);have h0 := h a0 (by simp);have h1 := h a1 (by simp);have h2 := h a2 (by simp);have h3 := h a3 (by simp);have h4 := h a4 (by simp);have h5 := h a5 (by simp);have h6 := h a6 (by simp);have h7 := h a7 (by simp);have hr : List.range 8 = [0, 1, 2, 3, 4, 5, 6, 7] := by decide
 unfold Program.keyLits;simp only [Tryz.underlying69, cells_arr, cells_u32, natCells, natLits, List.map_cons, List.map_nil, List.length_cons, List.length_nil, if_true, hr, List.mapM_cons, List.mapM_nil, Nat.mul_one, List.drop_succ_cons, List.drop_zero, List.take_succ_cons, List.take_zero, h0, h1, h2, h3, h4, h5, h6, h7];rfl
theorem frac_key : Tryz.prog.keyTypeAt 5 71 = true := by kernel_rfl
theorem bool_lits (d : Nat) (b : Bool) : Tryz.prog.keyLits (d + 1) 4 [Value.bool b] = some [Lit.bool b] := by
 simp [Program.keyLits, Tryz.underlying4]
theorem fr_lits (b : Bool) (l m : List Nat) (hl : l.length = 8) (hm : m.length = 8) (hd : Digs B32 l) (hd' : Digs B32 m) : Tryz.prog.keyLits 6 71 ([Value.bool b] ++ natCells l ++ natCells m) = some ([Lit.bool b] ++ natLits l ++ natLits m) := by
 have h1 := arr_lits 3 l hl hd;have h2 := arr_lits 3 m hm hd';have h0 := bool_lits 4 b;have e1 : (([Value.bool b] ++ natCells l ++ natCells m).drop 0).take 1 = [Value.bool b] := by rfl
 have e2 : (([Value.bool b] ++ natCells l ++ natCells m).drop 1).take 8 = natCells l := by
  simp only [List.cons_append, List.nil_append, List.drop_succ_cons, List.drop_zero];exact List.take_left' (by simp [natCells, hl])
 have e3 : (([Value.bool b] ++ natCells l ++ natCells m).drop 9).take 8 = natCells m := by
  have h9 : ([Value.bool b] ++ natCells l).length = 9 := by simp [natCells, hl]
  rw [List.drop_left' h9];exact List.take_of_length_le (by simp [natCells, hm])
 have hlen : ([Value.bool b] ++ natCells l ++ natCells m).length = 17 := by simp [natCells, hl, hm]
 unfold Program.keyLits;simp only [Tryz.underlying71, cells_frac];rw [if_pos ⟨hlen, by kernel_rfl⟩];simp only [List.mapM_cons, List.mapM_nil, cells_arr, cells_bool, e1, e2, e3, h0, h1, h2];show some ([Lit.bool b] ++ (natLits l ++ (natLits m ++ []))) = _
 simp
theorem fr_formed (b : Bool) (l m : List Nat) (hl : l.length = 8) (hm : m.length = 8) : (Value.agg ([Value.bool b] ++ natCells l ++ natCells m).toArray).formed Tryz.prog 71 = true := by
 obtain ⟨a0, a1, a2, a3, a4, a5, a6, a7, rfl⟩ := list8 hl;obtain ⟨b0, b1, b2, b3, b4, b5, b6, b7, rfl⟩ := list8 hm
 kernel_rfl
theorem fr_eql (b c : Bool) (l m l' m' : List Nat) (hl : l.length = 8) (hm : m.length = 8) (hl' : l'.length = 8) (hm' : m'.length = 8) (hd : Digs B32 l) (hd2 : Digs B32 m) (hd3 : Digs B32 l') (hd4 : Digs B32 m') (w : World) :
 (Op.equalIn 10000 71 (.agg ([Value.bool b] ++ natCells l ++ natCells m).toArray) (.agg ([Value.bool c] ++ natCells l' ++ natCells m').toArray)).run Tryz.prog w = .ok (decide (b = c /\ l = l' /\ m = m')) w := by
 obtain ⟨r, hr, hiff⟩ := run_equalIn_deep 9995 5 71 frac_key w 6 6 _ _ _ _ (fr_formed b l m hl hm) (fr_formed c l' m' hl' hm') (fr_lits b l m hl hm hd hd2) (fr_lits c l' m' hl' hm' hd3 hd4);have e : r = decide (b = c /\ l = l' /\ m = m') := by
  rw [Bool.eq_iff_iff, hiff, decide_eq_true_iff];constructor
  . intro h;have h' : Lit.bool b :: (natLits l ++ natLits m) = Lit.bool c :: (natLits l' ++ natLits m') := h;injection h' with h1 h2;injection h1 with h1;obtain ⟨h3, h4⟩ := List.append_inj h2 (by simp [natLits, hl, hl']);exact ⟨h1, natLits_inj h3, natLits_inj h4⟩
  . rintro ⟨rfl, rfl, rfl⟩
    rfl
 rw [<- e];exact hr
theorem pad_inj {x y : Nat} (hx : x < top256) (hy : y < top256) (h : pad B32 8 x = pad B32 8 y) : x = y := by
 have h1 := valB_pad (B := B32) (by decide) 8 x (by rw [pow256]; exact hx);have h2 := valB_pad (B := B32) (by decide) 8 y (by rw [pow256]; exact hy);rw [<- h1, <- h2, h]
theorem frac_eql (f g : FracV) (hf : f.fits) (hg : g.fits) (w : World) : (binOp .eql 71 (.agg f.cells.toArray) (.agg g.cells.toArray)).run Tryz.prog w = .ok (.bool (decide (f = g))) w := by
 rw [run_eql_struct];have h := fr_eql f.neg g.neg (pad B32 8 f.num) (pad B32 8 f.den) (pad B32 8 g.num) (pad B32 8 g.den) (pad_len _ _ _) (pad_len _ _ _) (pad_len _ _ _) (pad_len _ _ _) (pad_digs (by decide) _ _) (pad_digs (by decide) _ _) (pad_digs (by decide) _ _) (pad_digs (by decide) _ _) w;have e : decide (f.neg = g.neg /\ pad B32 8 f.num = pad B32 8 g.num /\ pad B32 8 f.den = pad B32 8 g.den) = decide (f = g) := by
  rw [Bool.eq_iff_iff, decide_eq_true_iff, decide_eq_true_iff];constructor
  . rintro ⟨h1, h2, h3⟩
    cases f; cases g;rw [FracV.mk.injEq];exact ⟨h1, pad_inj hf.1 hg.1 h2, pad_inj hf.2 hg.2 h3⟩
  . rintro rfl
    exact ⟨rfl, rfl, rfl⟩
 rw [e] at h;show ((Op.equalIn 10000 71 (.agg ([Value.bool f.neg] ++ natCells (pad B32 8 f.num) ++ natCells (pad B32 8 f.den)).toArray) (.agg ([Value.bool g.neg] ++ natCells (pad B32 8 g.num) ++ natCells (pad B32 8 g.den)).toArray)).run Tryz.prog w).andThen _ = _
 rw [h];rfl
theorem cf57 (w : World) (args : Array Value) : (callFunc 57 args).run Tryz.prog w = .ok (.enter 57 args) w := by
 go_simp
theorem cf56 (w : World) (args : Array Value) : (callFunc 56 args).run Tryz.prog w = .ok (.enter 56 args) w := by
 go_simp
set_option maxRecDepth 100000 in
set_option maxHeartbeats 4000000 in
theorem region_mul {id : Nat} {Q : Exit -> Act -> World -> Prop} {a0 : Act} {w0 : World} {l : List Oper} {g g2 : Nat} {b b2 : Bool} {r : FracV × Int}
 {t0 t1 t2 t3 t4 t5 t6 t7 t8 t9 t10 t11 t12 t13 t14 t15 : TypeId} {x0 x1 x2 x3 x4 x5 x6 x7 x8 x9 x10 x11 x12 x13 x14 x15 : String} {e0 e1 e2 e3 e4 e5 e6 e7 e8 e9 e10 e11 e12 e13 e14 e15 : Array Edge}
 (hl : l = [⟨some 29, .fieldAddr 71 (.tmp 2) 0, t0, x0, e0, none⟩, ⟨some 30, .load 4 (.tmp 29), t1, x1, e1, none⟩, ⟨some 31, .fieldAddr 71 (.tmp 3) 0, t2, x2, e2, none⟩, ⟨some 32, .load 4 (.tmp 31), t3, x3, e3, none⟩, ⟨some 33, .binOp .neq 4 (.tmp 30) (.tmp 32) 4, t4, x4, e4, none⟩, ⟨some 34, .move (.tmp 6), t5, x5, e5, none⟩, ⟨some 35, .move (.tmp 8), t6, x6, e6, none⟩, ⟨some 36, .call { callee := .value (.func 57), args := #[.tmp 34, .tmp 35], argTypes := #[124, 124] }, t7, x7, e7, none⟩, ⟨some 37, .move (.tmp 7), t8, x8, e8, none⟩, ⟨some 38, .move (.tmp 9), t9, x9, e9, none⟩, ⟨some 39, .call { callee := .value (.func 57), args := #[.tmp 37, .tmp 38], argTypes := #[124, 124] }, t10, x10, e10, none⟩, ⟨some 40, .call { callee := .value (.func 56), args := #[.tmp 33, .tmp 36, .tmp 39], argTypes := #[4, 124, 124] }, t11, x11, e11, none⟩, ⟨some 41, .extract (.tmp 40) 0, t12, x12, e12, none⟩, ⟨some 42, .extract (.tmp 40) 1, t13, x13, e13, none⟩, ⟨none, .store 71 (.tmp 4) (.tmp 41), t14, x14, e14, none⟩, ⟨some 5, .assign (.tmp 42), t15, x15, e15, none⟩])
 (hO : orderB l 14 = true) (hd : dstsB l 14 a0.tmps.size = true) (hpre : preB l.toArray [(1, [0]), (3, [2]), (4, [1, 3]), (7, [5, 6]), (10, [8, 9]), (11, [4, 7, 10]), (12, [11]), (13, [11])] = true)
 {v6 : Value} {v7 : Value} {v8 : Value} {v9 : Value} (k2 : a0.tmps[2]? = some (Value.pointer (some ⟨g, 0, none⟩))) (k3 : a0.tmps[3]? = some (Value.pointer (some ⟨g2, 0, none⟩))) (k6 : a0.tmps[6]? = some (v6)) (k7 : a0.tmps[7]? = some (v7)) (k8 : a0.tmps[8]? = some (v8)) (k9 : a0.tmps[9]? = some (v9))
 (R7 R10 : Value -> World -> Prop) (s7 : ∀ v w w', R7 v w -> From w w' -> R7 v w') (s10 : ∀ v w w', R10 v w -> From w w' -> R10 v w')
 (h1 : ∀ w, From w0 w -> (loadVar 4 ⟨g, 0, none⟩).run Tryz.prog w = .ok (Value.bool b) w)
 (h3 : ∀ w, From w0 w -> (loadVar 4 ⟨g2, 0, none⟩).run Tryz.prog w = .ok (Value.bool b2) w)
 (h7 : ∀ w , From w0 w -> Calls Tryz.prog 57 #[v6, v8] w fun e w' => ∃ v, e = .returned v /\ From w w' /\ R7 v w')
 (h10 : ∀ w , From w0 w -> Calls Tryz.prog 57 #[v7, v9] w fun e w' => ∃ v, e = .returned v /\ From w w' /\ R10 v w')
 (h11 : ∀ w u7 u10, From w0 w -> R7 u7 w -> R10 u10 w -> Calls Tryz.prog 56 #[Value.bool (!(b == b2)), u7, u10] w fun e w' => e = .returned (Value.tuple #[r.1.val, .int .i64 r.2]) /\ From w w')
 (hK : ∀ u7 u10 w, From w0 w -> R7 u7 w -> R10 u10 w -> wpList Tryz.prog l.toArray Q (l.drop 14) ((((((((((((((a0.put (some 29) (Value.pointer (some ⟨g, 0, none⟩))).put (some 30) ((Value.bool b))).put (some 31) (Value.pointer (some ⟨g2, 0, none⟩))).put (some 32) ((Value.bool b2))).put (some 33) (Value.bool (!(b == b2)))).put (some 34) (v6)).put (some 35) (v8)).put (some 36) u7).put (some 37) (v7)).put (some 38) (v9)).put (some 39) u10).put (some 40) (Value.tuple #[r.1.val, .int .i64 r.2])).put (some 41) (r.1.val)).put (some 42) (Value.int .i64 r.2)) w) :
 (Code.region id l.toArray true).wp Tryz.prog Q a0 w0 := by
 have hlen : l.length = 16 := by rw [hl]; rfl
 have hpz := List.all_eq_true.1 hpre;refine wp_region_keep 14 (fun i v w => match i with
  | 0 => v = (Value.pointer (some ⟨g, 0, none⟩))
  | 1 => v = ((Value.bool b))
  | 2 => v = (Value.pointer (some ⟨g2, 0, none⟩))
  | 3 => v = ((Value.bool b2))
  | 4 => v = (Value.bool (!(b == b2)))
  | 5 => v = (v6)
  | 6 => v = (v8)
  | 7 => R7 v w
  | 8 => v = (v7)
  | 9 => v = (v9)
  | 10 => R10 v w
  | 11 => v = (Value.tuple #[r.1.val, .int .i64 r.2])
  | 12 => v = (r.1.val)
  | 13 => v = (Value.int .i64 r.2)
  | _ => True) ?_ (by kernel_rfl) hO (by omega) hd ?_ ?_
 . intro i v w w' h hb
   match i, h with
   | 0, h => exact h
   | 1, h => exact h
   | 2, h => exact h
   | 3, h => exact h
   | 4, h => exact h
   | 5, h => exact h
   | 6, h => exact h
   | 7, h => exact s7 v w w' h hb
   | 8, h => exact h
   | 9, h => exact h
   | 10, h => exact s10 v w w' h hb
   | 11, h => exact h
   | 12, h => exact h
   | 13, h => exact h
   | _ + 14, _ => trivial
 . intro i o hi ho a w hb hval hold;have ho' : l.toArray[i]? = some o := by simpa using ho
   have hedge : ∀ j, (∃ js, (i, js) ∈ ([(1, [0]), (3, [2]), (4, [1, 3]), (7, [5, 6]), (10, [8, 9]), (11, [4, 7, 10]), (12, [11]), (13, [11])] : List (Nat × List Nat)) /\ j ∈ js) -> (o.after.any fun e => Region.binds .any e && e.on == j) = true := fun j ⟨_, hm, hj⟩ => by
    have h1 := List.all_eq_true.1 (hpz _ hm) j hj;rw [ho'] at h1;simpa using h1
   have hcase : i = 0 \/ i = 1 \/ i = 2 \/ i = 3 \/ i = 4 \/ i = 5 \/ i = 6 \/ i = 7 \/ i = 8 \/ i = 9 \/ i = 10 \/ i = 11 \/ i = 12 \/ i = 13 := by omega
   rcases hcase with rfl | rfl | rfl | rfl | rfl | rfl | rfl | rfl | rfl | rfl | rfl | rfl | rfl | rfl
   all_goals (rw [hl] at ho; injection ho with ho; subst ho)
   . have b2 := eval_get ((hold 2 (by rw [hl]; rfl)).trans k2);exact wpOp_value ho' rfl (w' := w) (by go_simp) ⟨_, rfl, Below.refl _ _, rfl⟩
   . obtain ⟨_, hy0, rfl⟩ := hval 0 _ 29 (by omega) (by rw [hl]; rfl) rfl (hedge 0 (by simp));have b29 := eval_get hy0;exact wpOp_load ho' rfl rfl b29 (h1 w hb) ⟨_, rfl, Below.refl _ _, rfl⟩
   . have b3 := eval_get ((hold 3 (by rw [hl]; rfl)).trans k3);exact wpOp_value ho' rfl (w' := w) (by go_simp) ⟨_, rfl, Below.refl _ _, rfl⟩
   . obtain ⟨_, hy2, rfl⟩ := hval 2 _ 31 (by omega) (by rw [hl]; rfl) rfl (hedge 2 (by simp));have b31 := eval_get hy2;exact wpOp_load ho' rfl rfl b31 (h3 w hb) ⟨_, rfl, Below.refl _ _, rfl⟩
   . obtain ⟨_, hy1, rfl⟩ := hval 1 _ 30 (by omega) (by rw [hl]; rfl) rfl (hedge 1 (by simp));have b30 := eval_get hy1;obtain ⟨_, hy3, rfl⟩ := hval 3 _ 32 (by omega) (by rw [hl]; rfl) rfl (hedge 3 (by simp));have b32 := eval_get hy3;exact wpOp_value ho' rfl (w' := w) (by go_simp) ⟨_, rfl, Below.refl _ _, rfl⟩
   . have b6 := eval_get ((hold 6 (by rw [hl]; rfl)).trans k6);exact wpOp_value ho' rfl (w' := w) (by go_simp) ⟨_, rfl, Below.refl _ _, rfl⟩
   . have b8 := eval_get ((hold 8 (by rw [hl]; rfl)).trans k8);exact wpOp_value ho' rfl (w' := w) (by go_simp) ⟨_, rfl, Below.refl _ _, rfl⟩
   . obtain ⟨y5, hy5, hz5⟩ := hval 5 _ 34 (by omega) (by rw [hl]; rfl) rfl (hedge 5 (by simp));rw [show y5 = (v6) from hz5] at hy5;have b34 := eval_get hy5;obtain ⟨y6, hy6, hz6⟩ := hval 6 _ 35 (by omega) (by rw [hl]; rfl) rfl (hedge 6 (by simp));rw [show y6 = (v8) from hz6] at hy6;have b35 := eval_get hy6;refine wpOp_call ho' rfl rfl (args := #[v6, v8]) (by simp [b34, b35]) (cf57 _ _) ((h7 w  hb ).mono ?_)
     rintro e w' ⟨v, rfl, hb2, hr2⟩
     exact ⟨_, rfl, _, rfl, hb2, hr2⟩
   . have b7 := eval_get ((hold 7 (by rw [hl]; rfl)).trans k7);exact wpOp_value ho' rfl (w' := w) (by go_simp) ⟨_, rfl, Below.refl _ _, rfl⟩
   . have b9 := eval_get ((hold 9 (by rw [hl]; rfl)).trans k9);exact wpOp_value ho' rfl (w' := w) (by go_simp) ⟨_, rfl, Below.refl _ _, rfl⟩
   . obtain ⟨y8, hy8, hz8⟩ := hval 8 _ 37 (by omega) (by rw [hl]; rfl) rfl (hedge 8 (by simp));rw [show y8 = (v7) from hz8] at hy8;have b37 := eval_get hy8;obtain ⟨y9, hy9, hz9⟩ := hval 9 _ 38 (by omega) (by rw [hl]; rfl) rfl (hedge 9 (by simp));rw [show y9 = (v9) from hz9] at hy9;have b38 := eval_get hy9;refine wpOp_call ho' rfl rfl (args := #[v7, v9]) (by simp [b37, b38]) (cf57 _ _) ((h10 w  hb ).mono ?_)
     rintro e w' ⟨v, rfl, hb2, hr2⟩
     exact ⟨_, rfl, _, rfl, hb2, hr2⟩
   . obtain ⟨_, hy4, rfl⟩ := hval 4 _ 33 (by omega) (by rw [hl]; rfl) rfl (hedge 4 (by simp));have b33 := eval_get hy4;obtain ⟨y7, hy7, hz7⟩ := hval 7 _ 36 (by omega) (by rw [hl]; rfl) rfl (hedge 7 (by simp));have b36 := eval_get hy7;obtain ⟨y10, hy10, hz10⟩ := hval 10 _ 39 (by omega) (by rw [hl]; rfl) rfl (hedge 10 (by simp));have b39 := eval_get hy10;refine wpOp_call ho' rfl rfl (args := #[Value.bool (!(b == b2)), y7, y10]) (by simp [b33, b36, b39]) (cf56 _ _) ((h11 w y7 y10 hb hz7 hz10).mono ?_)
     rintro e w' ⟨rfl, hb2⟩
     exact ⟨_, rfl, _, rfl, hb2, rfl⟩
   . obtain ⟨_, hy11, rfl⟩ := hval 11 _ 40 (by omega) (by rw [hl]; rfl) rfl (hedge 11 (by simp));have b40 := eval_get hy11;exact wpOp_value ho' rfl (w' := w) (by go_simp) ⟨_, rfl, Below.refl _ _, rfl⟩
   . obtain ⟨_, hy11, rfl⟩ := hval 11 _ 40 (by omega) (by rw [hl]; rfl) rfl (hedge 11 (by simp));have b40 := eval_get hy11;exact wpOp_value ho' rfl (w' := w) (by go_simp) ⟨_, rfl, Below.refl _ _, rfl⟩
 . intro val w hb hrows;have q7 : R7 (val 7) w := hrows 7 (by omega);have q10 : R10 (val 10) w := hrows 10 (by omega);have hF := hK (val 7) (val 10) w hb q7 q10;subst hl;simp only [List.take_succ_cons, List.take_zero, putAll, Nat.zero_add, Nat.reduceAdd, show val 0 = _ from hrows 0 (by omega), show val 1 = _ from hrows 1 (by omega), show val 2 = _ from hrows 2 (by omega), show val 3 = _ from hrows 3 (by omega), show val 4 = _ from hrows 4 (by omega), show val 5 = _ from hrows 5 (by omega), show val 6 = _ from hrows 6 (by omega), show val 8 = _ from hrows 8 (by omega), show val 9 = _ from hrows 9 (by omega), show val 11 = _ from hrows 11 (by omega), show val 12 = _ from hrows 12 (by omega), show val 13 = _ from hrows 13 (by omega)];exact hF
theorem mul_top {x y : Nat} (hx : x < top256) (hy : y < top256) : len32 (x * y) <= 16 := by
 refine dig_len_le hB32 ?_;have h1 : x < B32 ^ 8 := by rw [pow256]; exact hx
 have h2 : y < B32 ^ 8 := by rw [pow256]; exact hy
 have h3 : B32 ^ 16 = B32 ^ 8 * B32 ^ 8 := by rw [<- Nat.pow_add]
 rw [h3];exact Nat.mul_lt_mul_of_lt_of_lt h1 h2
def NatAt (x : Nat) (v : Value) (w : World) : Prop := ∃ A c, v = .slice A (len32 x) c /\ Rd32 w A x
theorem NatAt.stays {x : Nat} : ∀ v w w', NatAt x v w -> From w w' -> NatAt x v w' := by
 rintro v w w' ⟨A, c, h1, h2⟩ hb
 exact ⟨A, c, h1, h2.from hb⟩
theorem times_at {x y : Nat} {A D : Option Addr} {ca cd n m : Nat} {w : World} (hn : n = len32 x) (hm : m = len32 y) (h : Rd32 w A x) (h' : Rd32 w D y) (hx : len32 x <= 16) (hy : len32 y <= 16) : Calls Tryz.prog 57 #[.slice A n ca, .slice D m cd] w fun e w' => ∃ v, e = .returned v /\ From w w' /\ NatAt (x * y) v w' := by
 refine (frac_times A D ca cd x y n m hn hm w h h' (by omega) (by omega)).mono ?_
 rintro e w' ⟨A', c', rfl, hr, _, hb⟩
 exact ⟨_, rfl, hb, A', c', rfl, hr⟩
theorem fit_at {neg : Bool} {x y : Nat} {u v : Value} {w : World} (hu : NatAt x u w) (hv : NatAt y v w) (hx : len32 x <= 17) (hy : len32 y <= 17) (hy0 : 0 < y) : Calls Tryz.prog 56 #[.bool neg, u, v] w (FitPost w (fitL neg x y)) := by
 obtain ⟨A, c, rfl, hr⟩ := hu;obtain ⟨D, d, rfl, hr'⟩ := hv;exact frac_fit neg A D c d x y _ _ rfl rfl w hr hr' (by omega) (by omega) hy0
theorem boxes3 (f g : FracV) (w : World) : ∃ W0, W0 = ((w.alloc (.cells f.cells.toArray 71)).alloc (.cells g.cells.toArray 71)).alloc (.cells zeroF.cells.toArray 71) /\ Below w.heap.size w W0 /\ FB W0 w.heap.size f /\ FB W0 (w.heap.size + 1) g /\ FB W0 (w.heap.size + 1 + 1) zeroF := by
 obtain ⟨W0, hW0⟩ : ∃ W0, W0 = ((w.alloc (.cells f.cells.toArray 71)).alloc (.cells g.cells.toArray 71)).alloc (.cells zeroF.cells.toArray 71) := ⟨_, rfl⟩
 have s1 : (w.alloc (.cells f.cells.toArray 71)).heap.size = w.heap.size + 1 := by simp
 have s2 : ((w.alloc (.cells f.cells.toArray 71)).alloc (.cells g.cells.toArray 71)).heap.size = w.heap.size + 1 + 1 := by simp
 have hb1 : Below w.heap.size w (w.alloc (.cells f.cells.toArray 71)) := (Below.refl _ _).alloc (Nat.le_refl _) _;refine ⟨W0, hW0, ?_, ?_, ?_, ?_⟩
 . rw [hW0]; exact (hb1.alloc (by omega) _).alloc (by omega) _
 . have h1 := FB.new w f;have h2 := h1.below ((Below.refl _ _).alloc (Nat.le_refl _) (.cells g.cells.toArray 71)) h1.lt;rw [hW0];exact h2.below ((Below.refl _ _).alloc (Nat.le_refl _) _) h2.lt
 . have h1 := FB.new (w.alloc (.cells f.cells.toArray 71)) g;have h2 := h1.below ((Below.refl _ _).alloc (Nat.le_refl _) (.cells zeroF.cells.toArray 71)) h1.lt;rw [s1] at h2;rw [hW0];exact h2
 . have h1 := FB.new ((w.alloc (.cells f.cells.toArray 71)).alloc (.cells g.cells.toArray 71)) zeroF;rw [s2] at h1;rw [hW0];exact h1
theorem right_den {f : FracV} (h : f.right = true) : f.den ≠ 0 := by
 unfold FracV.right at h;intro e;simp [e] at h
set_option maxRecDepth 100000 in
set_option maxHeartbeats 8000000 in
theorem frac_Mul (f g : FracV) (hf : f.fits) (hg : g.fits) (w : World) : Calls Tryz.prog 23 #[f.val, g.val] w (FitPost w (mulL f g)) := by
 obtain ⟨W0, hW0, hb0, hff, hfg, hfr⟩ := boxes3 f g w;have HW0 := Lib.hid hW0;have HB := Lib.hid hb0;have HFF := Lib.hid hff;have HFG := Lib.hid hfg;have HFR := Lib.hid hfr;clear hW0 hb0 hff hfg hfr
 cases hf1 : f.right with
 | false =>
  have HBAD : Hid (mulL f g = (zeroF, 2)) := by unfold Hid mulL; rw [hf1]; rfl
  have HR1 := Lib.hid (fun w1 => frac_Right f hf w1);rw [hf1] at HR1;unfold FracV.val at HR1 ⊢
  go_enter Tryz.func23, Tryz.ntmps23
  go_upto_region 1 with fail
  rw [show ((w.alloc (.cells f.cells.toArray 71)).alloc (.cells g.cells.toArray 71)).alloc (.cells #[Value.bool false, .int .u32 0, .int .u32 0, .int .u32 0, .int .u32 0, .int .u32 0, .int .u32 0, .int .u32 0, .int .u32 0, .int .u32 0, .int .u32 0, .int .u32 0, .int .u32 0, .int .u32 0, .int .u32 0, .int .u32 0, .int .u32 0] 71) = W0 from HW0.out.symm]
  go_wp2_with (first
   | ((with_reducible refine g_ld 71 ?_); refine wpList_ld rfl _ _ rfl _ rfl _ HFF.out.ld' ?_)
   | (go_at_call 54; refine (HR1.out W0).mono ?_; rintro e w1 ⟨rfl, hb1⟩; have HB1 := Lib.hid (HB.out.trans (hb1.mono HB.out.size)); have HR := Lib.hid (HFR.out.below hb1 HFR.out.lt); clear hb1 HR1)
   | ((with_reducible refine g_st 71 ?_); refine wpList_stF (f := zeroF) rfl _ _ rfl rfl rfl HR.out ?_; intro w5 hfb5 hgr5))
  refine bodyPost_ret (results_frac_err rfl _ rfl hfb5) rfl ⟨?_, HB1.out.grown hgr5 HB1.out.size (by intro q hq; injection hq with hq; omega)⟩;rw [HBAD.out];rfl
 | true =>
  cases hg1 : g.right with
  | false =>
   have HBAD : Hid (mulL f g = (zeroF, 2)) := by unfold Hid mulL; rw [hf1, hg1]; rfl
   have HR1 := Lib.hid (fun w1 => frac_Right f hf w1);have HRR := Lib.hid (fun w1 => frac_Right g hg w1);rw [hf1] at HR1;rw [hg1] at HRR;unfold FracV.val at HR1 HRR ⊢
   go_enter Tryz.func23, Tryz.ntmps23
   go_upto_region 1 with fail
   rw [show ((w.alloc (.cells f.cells.toArray 71)).alloc (.cells g.cells.toArray 71)).alloc (.cells #[Value.bool false, .int .u32 0, .int .u32 0, .int .u32 0, .int .u32 0, .int .u32 0, .int .u32 0, .int .u32 0, .int .u32 0, .int .u32 0, .int .u32 0, .int .u32 0, .int .u32 0, .int .u32 0, .int .u32 0, .int .u32 0, .int .u32 0] 71) = W0 from HW0.out.symm]
   go_wp2_with (first
    | ((with_reducible refine g_ld 71 ?_); refine wpList_ld rfl _ _ rfl _ rfl _ HFF.out.ld' ?_)
    | (go_at_call 54; refine (HR1.out W0).mono ?_; rintro e w1 ⟨rfl, hb1⟩; have C1 : Hid (From W0 w1) := hb1; have HR2 := HRR; clear hb1 HR1 HRR)
    | ((with_reducible refine g_ld 71 ?_); refine wpList_ldw rfl _ _ rfl _ rfl _ (HFG.out.below C1.out HFG.out.lt).ld' ?_)
    | (go_at_call 54; refine (HR2.out _).mono ?_; rintro e w2 ⟨rfl, hb2⟩; have C2 : Hid (From W0 w2) := C1.out.trans (hb2.mono C1.out.size); have HB1 := Lib.hid (HB.out.trans (C2.out.mono HB.out.size)); have HR := Lib.hid (HFR.out.below C2.out HFR.out.lt); clear hb2 HR2)
    | ((with_reducible refine g_st 71 ?_); refine wpList_stF (f := zeroF) rfl _ _ rfl rfl rfl HR.out ?_; intro w5 hfb5 hgr5))
   refine bodyPost_ret (results_frac_err rfl _ rfl hfb5) rfl ⟨?_, HB1.out.grown hgr5 HB1.out.size (by intro q hq; injection hq with hq; omega)⟩;rw [HBAD.out];rfl
  | true =>
   have HGOOD : Hid (mulL f g = fitL (f.neg != g.neg) (f.num * g.num) (f.den * g.den)) := by unfold Hid mulL; rw [hf1, hg1]; rfl
   rw [HGOOD.out];have hdf := right_den hf1;have hdg := right_den hg1;have HP1 := Lib.hid (fun w1 => frac_parts f hf w1);have HPP := Lib.hid (fun w1 => frac_parts g hg w1);obtain ⟨la, hla⟩ : ∃ la, la = len32 f.num := ⟨_, rfl⟩
   obtain ⟨lb, hlb⟩ : ∃ lb, lb = len32 f.den := ⟨_, rfl⟩
   obtain ⟨lc, hlc⟩ : ∃ lc, lc = len32 g.num := ⟨_, rfl⟩
   obtain ⟨ld, hld⟩ : ∃ ld, ld = len32 g.den := ⟨_, rfl⟩
   have HL := Lib.hid (And.intro hla (And.intro hlb (And.intro hlc hld)));have h16 : ∀ x, x < top256 -> len32 x <= 16 := fun x hx => Nat.le_trans (len_top_le hx) (by omega);have HLL := Lib.hid (And.intro (h16 _ hf.1) (And.intro (h16 _ hf.2) (And.intro (h16 _ hg.1) (h16 _ hg.2))));have HM1 := Lib.hid (mul_top hf.1 hg.1);have HM2 := Lib.hid (mul_top hf.2 hg.2);have HY0 := Lib.hid (Nat.mul_pos (Nat.pos_of_ne_zero hdf) (Nat.pos_of_ne_zero hdg));obtain ⟨r, hr⟩ : ∃ r, r = fitL (f.neg != g.neg) (f.num * g.num) (f.den * g.den) := ⟨_, rfl⟩
   rw [<- hr];have HRE := Lib.hid hr;have HR1 := Lib.hid (fun w1 => frac_Right f hf w1);have HRR := Lib.hid (fun w1 => frac_Right g hg w1);rw [hf1] at HR1;rw [hg1] at HRR;clear hr hf1 hg1 HGOOD hla hlb hlc hld h16 hdf hdg;unfold FracV.val at HR1 HRR HP1 HPP ⊢
   go_enter Tryz.func23, Tryz.ntmps23
   go_upto_region 1 with fail
   rw [show ((w.alloc (.cells f.cells.toArray 71)).alloc (.cells g.cells.toArray 71)).alloc (.cells #[Value.bool false, .int .u32 0, .int .u32 0, .int .u32 0, .int .u32 0, .int .u32 0, .int .u32 0, .int .u32 0, .int .u32 0, .int .u32 0, .int .u32 0, .int .u32 0, .int .u32 0, .int .u32 0, .int .u32 0, .int .u32 0, .int .u32 0] 71) = W0 from HW0.out.symm]
   go_wp2_with (first
    | ((with_reducible refine g_ld 71 ?_); refine wpList_ld rfl _ _ rfl _ rfl _ HFF.out.ld' ?_)
    | (go_at_call 54; refine (HR1.out W0).mono ?_; rintro e w1 ⟨rfl, hb1⟩; have C1 : Hid (From W0 w1) := hb1; have HR2 := HRR; clear hb1 HR1 HRR)
    | ((with_reducible refine g_ld 71 ?_); refine wpList_ldw rfl _ _ rfl _ rfl _ (HFG.out.below C1.out HFG.out.lt).ld' ?_)
    | (go_at_call 54; refine (HR2.out _).mono ?_; rintro e w2 ⟨rfl, hb2⟩; have C2 : Hid (From W0 w2) := C1.out.trans (hb2.mono C1.out.size); have HPA := HP1; clear hb2 HR2 HP1)
    | ((with_reducible refine g_ld 71 ?_); refine wpList_ld rfl _ _ rfl _ rfl _ (HFF.out.below C2.out HFF.out.lt).ld' ?_)
    | (go_at_call 55; refine (HPA.out _).mono ?_; rintro e w3 ⟨A1, c1, A2, c2, rfl, hr1, hr2, hb3⟩; have C3 : Hid (From W0 w3) := C2.out.trans (hb3.mono C2.out.size); have RA := Lib.hid hr1; have RB := Lib.hid hr2; rw [<- HL.out.1, <- HL.out.2.1]; clear hr1 hr2 hb3 HPA; have HPB := HPP; clear HPP)
    | ((with_reducible refine g_ld 71 ?_); refine wpList_ld rfl _ _ rfl _ rfl _ (HFG.out.below C3.out HFG.out.lt).ld' ?_)
    | (go_at_call 55; refine (HPB.out _).mono ?_; rintro e w4 ⟨A3, c3, A4, c4, rfl, hr3, hr4, hb4⟩; have D4 : Hid (From w3 w4) := hb4; have C4 : Hid (From W0 w4) := C3.out.trans (hb4.mono C3.out.size); have RC := Lib.hid hr3; have RE := Lib.hid hr4; rw [<- HL.out.2.2.1, <- HL.out.2.2.2]; have F4 := Lib.hid (HFF.out.below C4.out HFF.out.lt); have G4 := Lib.hid (HFG.out.below C4.out HFG.out.lt); have R4 := Lib.hid (HFR.out.below C4.out HFR.out.lt); have HB4 := Lib.hid (HB.out.trans (C4.out.mono HB.out.size)); clear hr3 hr4 hb4 HPB)
    )
   refine region_mul (g := w.heap.size) (g2 := w.heap.size + 1) (b := f.neg) (b2 := g.neg) (r := r) rfl (by kernel_rfl) (by kernel_rfl) (by kernel_rfl) rfl rfl rfl rfl rfl rfl (NatAt (f.num * g.num)) (NatAt (f.den * g.den)) NatAt.stays NatAt.stays
    (fun w1 hb => (F4.out.below hb F4.out.lt).ld_neg) (fun w1 hb => (G4.out.below hb G4.out.lt).ld_neg)
    (fun w1 hb => times_at HL.out.1 HL.out.2.2.1 (RA.out.from (D4.out.trans (hb.mono D4.out.size))) (RC.out.from hb) HLL.out.1 HLL.out.2.2.1) (fun w1 hb => times_at HL.out.2.1 HL.out.2.2.2 (RB.out.from (D4.out.trans (hb.mono D4.out.size))) (RE.out.from hb) HLL.out.2.1 HLL.out.2.2.2)
    (fun w1 u7 u10 hb hu hv => by rw [HRE.out]; exact fit_at hu hv (by have := HM1.out; omega) (by have := HM2.out; omega) HY0.out) ?_
   intro u7 u10 w5 hb5 _ _;have HB1 := Lib.hid (HB4.out.trans (hb5.mono HB4.out.size));have HR := Lib.hid (R4.out.below hb5 R4.out.lt);clear hb5;simp only [List.drop_succ_cons, List.drop_zero];simp only [Act.put, List.setIfInBounds_toArray, List.set_cons_succ, List.set_cons_zero]
   go_wp2_with (first
    | ((with_reducible refine g_st 71 ?_); refine wpList_stF rfl _ _ rfl rfl rfl HR.out ?_; intro w5 hfb5 hgr5))
   refine bodyPost_ret (results_frac_err rfl _ rfl hfb5) rfl ⟨?_, HB1.out.grown hgr5 HB1.out.size (by intro q hq; injection hq with hq; omega)⟩;rfl
theorem zeroF_fits : zeroF.fits := ⟨by decide, by decide⟩
theorem ratioL_fits (a b : Int) : (ratioL a b).1.fits := by
 unfold ratioL;split
 . exact zeroF_fits
 . exact fitL_fits _ _ _
theorem ofL_fits {n : Int} (h : inI n) : (ofL n).fits := by
 obtain ⟨h1, h2⟩ := h;refine ⟨?_, show (1 : Nat) < top256 by decide⟩;show n.natAbs < top256
 exact Nat.lt_trans (show n.natAbs < 18446744073709551616 by omega) top256_big
theorem frac_explicit (f : FracV) : ∃ (b : Bool) (c : Fin 16 -> Int), f.cells = [.bool b, .int .u32 (c 0), .int .u32 (c 1), .int .u32 (c 2), .int .u32 (c 3), .int .u32 (c 4), .int .u32 (c 5), .int .u32 (c 6), .int .u32 (c 7), .int .u32 (c 8), .int .u32 (c 9), .int .u32 (c 10), .int .u32 (c 11), .int .u32 (c 12), .int .u32 (c 13), .int .u32 (c 14), .int .u32 (c 15)] := by
 obtain ⟨a0, a1, a2, a3, a4, a5, a6, a7, ha⟩ := list8 (pad_len B32 8 f.num);obtain ⟨d0, d1, d2, d3, d4, d5, d6, d7, hd⟩ := list8 (pad_len B32 8 f.den);refine ⟨f.neg, fun i => ([a0, a1, a2, a3, a4, a5, a6, a7, d0, d1, d2, d3, d4, d5, d6, d7].map (fun (n : Nat) => (n : Int))).getD i.val 0, ?_⟩;unfold FracV.cells;rw [ha, hd];rfl
structure Ctr where
 x : FracV
 y : FracV
 z : FracV
def Ctr.cells (c : Ctr) : List Value := c.x.cells ++ (c.y.cells ++ c.z.cells)
def Ctr.val (c : Ctr) : Value := .agg c.cells.toArray
theorem Ctr.len (c : Ctr) : c.cells.length = 51 := by simp [Ctr.cells, FracV.cells_len]
theorem Ctr.one (c : Ctr) : ∀ u ∈ c.cells, u.oneCell' = true := by
 intro u hu;rcases List.mem_append.1 hu with h | h
 . exact c.x.ones u h
 . rcases List.mem_append.1 h with h | h
   . exact c.y.ones u h
   . exact c.z.ones u h
def ctr0 : Ctr := ⟨zeroF, zeroF, zeroF⟩
theorem Ctr.row : IsRow Tryz.prog 73 51 := ⟨_, Tryz.underlying73, by kernel_rfl, by kernel_rfl⟩
theorem Ctr.size : (Tryz.prog.info? 73).map (·.size) = some 51 := by kernel_rfl
def findF (l : Ld) : Ctr × Int := if ldOk l then if l.kilos = 0 then (ctr0, 6) else (⟨(ratioL l.x l.kilos).1, (ratioL l.y l.kilos).1, (ratioL l.z (2 * l.kilos)).1⟩, 0) else (ctr0, 2)
def CtrPost (w : World) (r : Ctr × Int) (e : Ending) (w' : World) : Prop := e = .returned (.tuple #[r.1.val, .int .i64 r.2]) /\ From w w'
set_option maxRecDepth 100000 in
set_option maxHeartbeats 4000000 in
theorem build_ctr (f g h : FracV) {a : Act} {s t u : Nat} {d : Option Nat} {ty : TypeId} {pos : String} {aft : Array Edge} {gd : Option (Nat × Bool)} (w : World) (hx : a.eval (.tmp s) = .agg f.cells.toArray) (hy : a.eval (.tmp t) = .agg g.cells.toArray) (hz : a.eval (.tmp u) = .agg h.cells.toArray) :
 (execOp a.eval ⟨d, .build 73 #[(0, .tmp s), (1, .tmp t), (2, .tmp u)], ty, pos, aft, gd⟩).run Tryz.prog w = .ok (.value (Ctr.val ⟨f, g, h⟩)) w := by
 obtain ⟨b, c, hf⟩ := frac_explicit f;obtain ⟨b', c', hg⟩ := frac_explicit g;obtain ⟨b2, c2, hh⟩ := frac_explicit h;unfold Ctr.val Ctr.cells;dsimp only;rw [hf] at hx;rw [hg] at hy;rw [hh] at hz;rw [hf, hg, hh];clear hf hg hh;have hx' : a.tmps[s]?.getD undef = _ := (by simp [Act.eval] : a.tmps[s]?.getD undef = a.eval (.tmp s)).trans hx;have hy' : a.tmps[t]?.getD undef = _ := (by simp [Act.eval] : a.tmps[t]?.getD undef = a.eval (.tmp t)).trans hy;have hz' : a.tmps[u]?.getD undef = _ := (by simp [Act.eval] : a.tmps[u]?.getD undef = a.eval (.tmp u)).trans hz
 go_simp
set_option maxRecDepth 100000 in
set_option maxHeartbeats 4000000 in
theorem m_Find (l : Ld) (w : World) : Calls Tryz.prog 20 #[.agg #[.int .i64 l.kilos, .int .i64 l.x, .int .i64 l.y, .int .i64 l.z]] w (CtrPost w (findF l)) := by
 have HM0 := Lib.hid ((Mem.nil w).alloc2 48 l.cells 73 ctr0.cells);have HR := Lib.hid (fun w1 => m_Right l w1);obtain ⟨r, hr⟩ : ∃ r, r = findF l := ⟨_, rfl⟩
 rw [<- hr]
 cases hok : ldOk l with
 | false =>
  rw [hok] at HR;have HE : Hid (r = (ctr0, 2)) := by unfold Hid findF at *; rw [hr, if_neg (by rw [hok]; simp)]
  clear hr hok;obtain ⟨k, x, y, z⟩ := l
  go_enter Tryz.func20, Tryz.ntmps20
  go_wp2_with (first
   | (go_at_call 22; go_loud (refine (HR.out _).mono ?_); rintro e w1 ⟨rfl, hb⟩; have HM1 := Lib.hid (HM0.out.call hb); clear hb)
   | ((with_reducible refine g_st 73 ?_); go_loud (refine wpList_stB (cs' := ctr0.cells) rfl _ _ rfl HM1.out 0 rfl rfl rfl Ctr.size rfl (Ctr.len _) (Ctr.len _) (Ctr.one _) ?_); intro w6 h6))
  refine bodyPost_ret (results_box2 rfl _ rfl (h6.ldb Ctr.row (Ctr.len _) (i := 0) rfl _ (Below.refl _ _))) rfl ⟨?_, h6.from_⟩;rw [HE.out];rfl
 | true =>
  rw [hok] at HR;have hnum := ldOk_nums hok;by_cases hk0 : l.kilos = 0
  . have HE : Hid (r = (ctr0, 6)) := by unfold Hid findF at *; rw [hr, if_pos hok, if_pos hk0]
    clear hr hok hnum;obtain ⟨k, x, y, z⟩ := l;dsimp only at hk0;subst hk0
    go_enter Tryz.func20, Tryz.ntmps20
    go_wp2_with (first
     | ((with_reducible refine g_ld 3 ?_); refine wpList_ld rfl _ _ rfl _ rfl _ (HM1.out.ldc ct3 (i := 1) rfl rfl _ (Below.refl _ _)) ?_)
     | (go_at_call 22; go_loud (refine (HR.out _).mono ?_); rintro e w1 ⟨rfl, hb⟩; have HM1 := Lib.hid (HM0.out.call hb); clear hb)
     | ((with_reducible refine g_st 73 ?_); go_loud (refine wpList_stB (cs' := ctr0.cells) rfl _ _ rfl HM1.out 0 rfl rfl rfl Ctr.size rfl (Ctr.len _) (Ctr.len _) (Ctr.one _) ?_); intro w6 h6))
    refine bodyPost_ret (results_box2 rfl _ rfl (h6.ldb Ctr.row (Ctr.len _) (i := 0) rfl _ (Below.refl _ _))) rfl ⟨?_, h6.from_⟩;rw [HE.out];rfl
  . have HE : Hid (r = (⟨(ratioL l.x l.kilos).1, (ratioL l.y l.kilos).1, (ratioL l.z (2 * l.kilos)).1⟩, 0)) := by unfold Hid findF at *; rw [hr, if_pos hok, if_neg hk0]
    obtain ⟨k, x, y, z⟩ := l;dsimp only at hnum hk0 HE;have e1 : IntKind.i64.wrap (2 * k) = 2 * k := wrap_i64 (by omega) (by omega);have hke : (k == 0) = false := by simp; omega
    have HX := Lib.hid (fun w1 => frac_Ratio x k (by omega) (by omega) (by omega) (by omega) w1);have HY := Lib.hid (fun w1 => frac_Ratio y k (by omega) (by omega) (by omega) (by omega) w1);have HZ := Lib.hid (fun w1 => frac_Ratio z (2 * k) (by omega) (by omega) (by omega) (by omega) w1);generalize ratioL x k = rx at HX HE;generalize ratioL y k = ry at HY HE;generalize ratioL z (2 * k) = rz at HZ HE;clear hr hok hnum
    go_enter Tryz.func20, Tryz.ntmps20
    go_wp2_with (first
     | ((with_reducible refine g_ld 3 ?_); refine wpList_ld rfl _ _ rfl _ rfl _ (HM1.out.ldc ct3 (i := 1) rfl rfl _ (Below.refl _ _)) ?_)
     | ((with_reducible refine g_ld 3 ?_); refine wpList_ld rfl _ _ rfl _ rfl _ (HM3.out.ldc ct3 (i := 2) rfl rfl _ (Below.refl _ _)) ?_)
     | ((with_reducible refine g_ld 3 ?_); refine wpList_ld rfl _ _ rfl _ rfl _ (HM5.out.ldc ct3 (i := 3) rfl rfl _ (Below.refl _ _)) ?_)
     | (go_at_call 22; go_loud (refine (HR.out _).mono ?_); rintro e w1 ⟨rfl, hb⟩; have HM1 := Lib.hid (HM0.out.call hb); clear hb)
     | (go_at_call 52; refine (HX.out _).mono ?_; rintro e w2 ⟨rfl, hb⟩; have HM2 := Lib.hid ((HM1.out.call hb).alloc 71 zeroF.cells); clear hb HX)
     | ((with_reducible refine g_st 71 ?_); refine wpList_stB (cs' := FracV.cells rx.1) rfl _ _ rfl HM2.out 0 rfl rfl rfl frac_size rfl (FracV.cells_len _) (FracV.cells_len _) (FracV.ones _) ?_; intro w3 h3; have HM3 := Lib.hid h3; clear h3 HM1 HM2)
     | (go_at_call 52; refine (HY.out _).mono ?_; rintro e w4 ⟨rfl, hb⟩; have HM4 := Lib.hid ((HM3.out.call hb).alloc 71 zeroF.cells); clear hb HY)
     | ((with_reducible refine g_st 71 ?_); refine wpList_stB (cs' := FracV.cells ry.1) rfl _ _ rfl HM4.out 0 rfl rfl rfl frac_size rfl (FracV.cells_len _) (FracV.cells_len _) (FracV.ones _) ?_; intro w5 h5; have HM5 := Lib.hid h5; clear h5 HM4 HM3)
     | (go_at_call 52; go_loud (refine (HZ.out _).mono ?_); rintro e w6 ⟨rfl, hb⟩; have HM6 := Lib.hid ((HM5.out.call hb).alloc 71 zeroF.cells); clear hb HZ)
     | ((with_reducible refine g_st 71 ?_); refine wpList_stB (cs' := FracV.cells rz.1) rfl _ _ rfl HM6.out 0 rfl rfl rfl frac_size rfl (FracV.cells_len _) (FracV.cells_len _) (FracV.ones _) ?_; intro w7 h7; have HM7 := Lib.hid h7; clear h7 HM6 HM5)
     | ((with_reducible refine g_ld 71 ?_); refine wpList_ld rfl _ _ rfl _ rfl _ (HM7.out.ldb frac_row (FracV.cells_len _) (i := 2) rfl _ (Below.refl _ _)) ?_)
     | ((with_reducible refine g_ld 71 ?_); refine wpList_ld rfl _ _ rfl _ rfl _ (HM7.out.ldb frac_row (FracV.cells_len _) (i := 1) rfl _ (Below.refl _ _)) ?_)
     | ((with_reducible refine g_ld 71 ?_); go_loud (refine wpList_ld rfl _ _ rfl _ rfl _ (HM7.out.ldb frac_row (FracV.cells_len _) (i := 0) rfl _ (Below.refl _ _)) ?_))
     | ((with_reducible refine g_bld 73 ?_); go_loud (refine wpList_val rfl _ (build_ctr rx.1 ry.1 rz.1 _ rfl rfl rfl) ?_))
     | ((with_reducible refine g_st 73 ?_); go_loud (refine wpList_stB (cs' := Ctr.cells ⟨rx.1, ry.1, rz.1⟩) rfl _ _ rfl HM7.out 3 rfl rfl rfl Ctr.size rfl (Ctr.len _) (Ctr.len _) (Ctr.one _) ?_); intro w8 h8))
    refine bodyPost_ret (results_box2 rfl _ rfl (h8.ldb Ctr.row (Ctr.len _) (i := 3) rfl _ (Below.refl _ _))) rfl ⟨?_, h8.from_⟩;rw [HE.out];rfl
section
variable {w w' : World} {ρ : Nat -> Option Rl} {base : Nat} {ro : Nat -> Prop} {v : Value}
theorem avr_ld (b : Unit -> Ld) : AVR w ρ base ro (.agg (ldL b)) (b ()).val := avr_aggF (l := ldL b) rfl
theorem AVR.stos {fr : Bool} {l : Unit -> List Stowed} (h : AVR w ρ base ro (.sl fr .stowed l) v) : ∃ A c, v = .slice A (l ()).length c /\ (l ()).length <= c /\ Rd w w.heap.size 4 A ((l ()).map Stowed.cells) := AVR.slF (t := .stowed) (l := l) Stowed.cells (fun _ => rfl) (fun _ => rfl) h
theorem AVR.lds {fr : Bool} {l : Unit -> List Ld} (h : AVR w ρ base ro (.sl fr .ld l) v) : ∃ A c, v = .slice A (l ()).length c /\ (l ()).length <= c /\ Rd w w.heap.size 4 A ((l ()).map Ld.cells) := AVR.slF (t := .ld) (l := l) Ld.cells (fun _ => rfl) (fun _ => rfl) h
theorem AVR.u8s {fr : Bool} {l : Unit -> List Int} (h : AVR w ρ base ro (.sl fr .u8 l) v) : ∃ A c, v = .slice A (l ()).length c /\ (l ()).length <= c /\ Rd w w.heap.size 1 A ((l ()).map u8Row) := AVR.slF (t := .u8) (l := l) u8Row (fun _ => rfl) (fun _ => rfl) h
end
def conBoxRight : Con := ⟨129, [.agg boxSg], fun
 | [x0] => (x0.toBox).bind fun b => some ⟨fun _ => (b ()).num.size <= 140737488351232, .bool fun _ => boxB (b ())⟩
 | _ => none⟩
theorem conBoxRight_ok : ConOk Tryz.prog conBoxRight := by
 refine oldOk Tryz.func129 (by kernel_rfl) fun avs res h w ra vals hE hp => ?_;simp only [conBoxRight] at h;split at h
 case h_2 => cases h
 rename_i x0;simp only [Option.bind_eq_some_iff, Option.some.injEq] at h;obtain ⟨b, e0, rfl⟩ := h;obtain rfl := AV.toBox_ e0;clear e0;obtain ⟨b, rfl⟩ := eta (α := Box) b;obtain ⟨v0, us0, rfl, hv0, h0⟩ := hE.head;obtain rfl := h0.none;obtain rfl := hv0.aggF rfl;exact (box_right b w hp).mono fun e w' ⟨k1, k2⟩ => ⟨_, k1, k2, .bool _⟩
def conHasU8 : Con := ⟨154, [.sl .u8, .int .u8], fun
 | [x0, x1] => (x0.toU8s).bind fun l => (x1.toU8).bind fun x => some ⟨fun _ => (l ()).length <= 1000000000000, .bool fun _ => (l ()).any fun y => decide (x () = y)⟩
 | _ => none⟩
theorem conHasU8_ok : ConOk Tryz.prog conHasU8 := by
 refine oldOk Tryz.func154 (by kernel_rfl) fun avs res h w ra vals hE hp => ?_;simp only [conHasU8] at h;split at h
 case h_2 => cases h
 rename_i x0 x1;simp only [Option.bind_eq_some_iff, Option.some.injEq] at h;obtain ⟨l, e0, x, e1, rfl⟩ := h;obtain rfl := AV.toU8s_ e0;obtain rfl := AV.toU8_ e1;clear e0 e1;obtain ⟨l, rfl⟩ := eta (α := List Int) l;obtain ⟨x, rfl⟩ := eta (α := Int) x;obtain ⟨v0, us0, rfl, hv0, h0⟩ := hE.head;obtain ⟨v1, us1, rfl, hv1, h1⟩ := h0.head;obtain rfl := h1.none;obtain ⟨A0, q0, rfl, hc0, hr0⟩ := hv0.u8s;obtain rfl := hv1.int_;exact (containsU8 A0 q0 l _ rfl x w hr0 hp).mono fun e w' ⟨k1, k2⟩ => ⟨_, k1, by rw [k2]; exact Below.refl _ _, .bool _⟩
def conMRight : Con := ⟨22, [.agg ldSg], fun
 | [x0] => (x0.toLd).bind fun x => some ⟨fun _ => True, .bool fun _ => ldOk (x ())⟩
 | _ => none⟩
theorem conMRight_ok : ConOk Tryz.prog conMRight := by
 refine oldOk Tryz.func22 (by kernel_rfl) fun avs res h w ra vals hE hp => ?_;simp only [conMRight] at h;split at h
 case h_2 => cases h
 rename_i x0;simp only [Option.bind_eq_some_iff, Option.some.injEq] at h;obtain ⟨x, e0, rfl⟩ := h;obtain rfl := AV.toLd_ e0;clear e0;obtain ⟨x, rfl⟩ := eta (α := Ld) x;obtain ⟨v0, us0, rfl, hv0, h0⟩ := hE.head;obtain rfl := h0.none;obtain rfl := hv0.aggF rfl;exact (m_Right x w).mono fun e w' ⟨k1, k2⟩ => ⟨_, k1, k2, .bool _⟩
def conMPoint : Con := ⟨21, [.int .i64, .int .i64, .int .i64, .int .i64], fun
 | [x0, x1, x2, x3] => (x0.toI).bind fun a => (x1.toI).bind fun b => (x2.toI).bind fun c => (x3.toI).bind fun d => some ⟨fun _ => True, .tup [.agg (ldL fun _ => (pointF (a ()) (b ()) (c ()) (d ())).1), .int .i64 fun _ => (pointF (a ()) (b ()) (c ()) (d ())).2]⟩
 | _ => none⟩
theorem conMPoint_ok : ConOk Tryz.prog conMPoint := by
 refine oldOk Tryz.func21 (by kernel_rfl) fun avs res h w ra vals hE hp => ?_;simp only [conMPoint] at h;split at h
 case h_2 => cases h
 rename_i x0 x1 x2 x3;simp only [Option.bind_eq_some_iff, Option.some.injEq] at h;obtain ⟨a, e0, b, e1, c, e2, d, e3, rfl⟩ := h;obtain rfl := AV.toI_ e0;obtain rfl := AV.toI_ e1;obtain rfl := AV.toI_ e2;obtain rfl := AV.toI_ e3;clear e0 e1 e2 e3;obtain ⟨a, rfl⟩ := eta (α := Int) a;obtain ⟨b, rfl⟩ := eta (α := Int) b;obtain ⟨c, rfl⟩ := eta (α := Int) c;obtain ⟨d, rfl⟩ := eta (α := Int) d;obtain ⟨v0, us0, rfl, hv0, h0⟩ := hE.head;obtain ⟨v1, us1, rfl, hv1, h1⟩ := h0.head;obtain ⟨v2, us2, rfl, hv2, h2⟩ := h1.head;obtain ⟨v3, us3, rfl, hv3, h3⟩ := h2.head;obtain rfl := h3.none;obtain rfl := hv0.int_;obtain rfl := hv1.int_;obtain rfl := hv2.int_;obtain rfl := hv3.int_;exact (m_Point a b c d w).mono fun e w' ⟨k1, k2⟩ => ⟨_, k1, k2, avr_tup2 (avr_ld _) (.int _ _)⟩
def conMAdd : Con := ⟨19, [.sl .ld], fun
 | [x0] => (x0.toLds).bind fun l => some ⟨fun _ => (l ()).length <= 1000000, .tup [.agg (ldL fun _ => (addF (l ())).1), .int .i64 fun _ => (addF (l ())).2]⟩
 | _ => none⟩
theorem conMAdd_ok : ConOk Tryz.prog conMAdd := by
 refine oldOk Tryz.func19 (by kernel_rfl) fun avs res h w ra vals hE hp => ?_;simp only [conMAdd] at h;split at h
 case h_2 => cases h
 rename_i x0;simp only [Option.bind_eq_some_iff, Option.some.injEq] at h;obtain ⟨l, e0, rfl⟩ := h;obtain rfl := AV.toLds_ e0;clear e0;obtain ⟨l, rfl⟩ := eta (α := List Ld) l;obtain ⟨v0, us0, rfl, hv0, h0⟩ := hE.head;obtain rfl := h0.none;obtain ⟨A0, q0, rfl, hc0, hr0⟩ := hv0.lds;exact (m_Add A0 q0 _ l rfl w hr0 hp).mono fun e w' ⟨k1, k2⟩ => ⟨_, k1, k2, avr_tup2 (avr_ld _) (.int _ _)⟩
end Go.Proofs.YtfdjcakgolenbaaGreat
