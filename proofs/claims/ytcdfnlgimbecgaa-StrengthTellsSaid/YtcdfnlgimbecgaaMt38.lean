/-
  twistlockref01: Cmp.
-/
import Derived.Test.YtcdfnlgimbecgaaMt37
namespace Go.Proofs.Ytcdfnlgimbecgaa
open Go.RowKit
theorem boxes01c (f g : FracV) (w : World) : Mem w ((w.alloc (.cells f.cells.toArray 91)).alloc (.cells g.cells.toArray 91)) [.box (w.heap.size + 1) 91 g.cells, .box w.heap.size 91 f.cells] := by
 have h := ((Mem.nil w).alloc 91 f.cells).alloc 91 g.cells
 have e : (w.alloc (.cells f.cells.toArray 91)).heap.size = w.heap.size + 1 := by simp
 rw [e] at h
 exact h
theorem cmpNat_lt01 {x y : Nat} (h : x < y) : cmpNat x y = -1 := if_pos h
theorem cmpNat_gt01 {x y : Nat} (h : ¬ x < y) (h2 : y < x) : cmpNat x y = 1 := by unfold cmpNat; rw [if_neg h, if_pos h2]
theorem cmpNat_eq01 {x y : Nat} (h : ¬ x < y) (h2 : ¬ y < x) : cmpNat x y = 0 := by unfold cmpNat; rw [if_neg h, if_neg h2]
set_option maxRecDepth 100000 in
set_option maxHeartbeats 1000000 in
theorem ref_Cmp (f g : FracV) (hf : f.fits) (hg : g.fits) (w : World) : Calls Try.prog 109 #[f.val, g.val] w (CmpPost w (cmpL f g)) := by
 have HM0 := Lib.hid (boxes01c f g w)
 have HR1 := Lib.hid (ref_Right f hf)
 have HR2 := Lib.hid (ref_Right g hg)
 unfold CmpPost
 obtain ⟨p, hp⟩ : ∃ p, p = cmpL f g := ⟨_, rfl⟩
 rw [← hp]
 have HP0 := Lib.hid hp
 clear hp
 unfold FracV.val at *
 cases hrf : f.right with
 | false =>
  rw [hrf] at HR1
  have HE := Lib.hid hrf
  clear hrf
  go_enter Try.func109, Try.ntmps109
  go_wp2_with (first
   | ((with_reducible refine g_ld 91 ?_); refine wpList_ld rfl _ _ rfl _ rfl _ (HM0.out.ldb f01_row (FracV.cells_len _) (i := 1) rfl _ (Below.refl _ _)) ?_)
   | (go_at_call 78; go_loud (refine (HR1.out _).mono ?_); rintro e w3 ⟨rfl, hb⟩; have HM3 := Lib.hid (HM0.out.call hb); clear hb HR1 HM0))
  go_ret2
  refine ⟨?_, HM3.out.from_⟩
  rw [HP0.out]
  unfold cmpL
  rw [HE.out]
  rfl
 | true =>
  rw [hrf] at HR1
  cases hrg : g.right with
  | false =>
   rw [hrg] at HR2
   have HE := Lib.hid (And.intro hrf hrg)
   clear hrf hrg
   go_enter Try.func109, Try.ntmps109
   go_wp2_with (first
    | ((with_reducible refine g_ld 91 ?_); refine wpList_ld rfl _ _ rfl _ rfl _ (HM0.out.ldb f01_row (FracV.cells_len _) (i := 1) rfl _ (Below.refl _ _)) ?_)
    | (go_at_call 78; refine (HR1.out _).mono ?_; rintro e w3 ⟨rfl, hb⟩; have HM3 := Lib.hid (HM0.out.call hb); clear hb HR1 HM0)
    | ((with_reducible refine g_ld 91 ?_); refine wpList_ldw rfl _ _ rfl _ rfl _ (HM3.out.ldb f01_row (FracV.cells_len _) (i := 0) rfl _ (Below.refl _ _)) ?_)
    | (go_at_call 78; go_loud (refine (HR2.out _).mono ?_); rintro e w4 ⟨rfl, hb⟩; have HM4 := Lib.hid (HM3.out.call hb); clear hb HR2 HM3)
    | fail)
   go_ret2
   refine ⟨?_, HM4.out.from_⟩
   rw [HP0.out]
   unfold cmpL
   rw [HE.out.1, HE.out.2]
   rfl
  | true =>
   rw [hrg] at HR2
   have HP : Hid (p = (if f.neg && !g.neg then -1 else if g.neg && !f.neg then 1 else if f.neg then cmpNat (g.num * f.den) (f.num * g.den) else cmpNat (f.num * g.den) (g.num * f.den), 0)) := by
    unfold Hid
    rw [HP0.out]
    unfold cmpL
    rw [hrf, hrg]
    rfl
   have HLX : Hid (len16 (f.num * g.den) ≤ 32) := mul_len hf.1 hg.2
   have HLY : Hid (len16 (g.num * f.den) ≤ 32) := mul_len hg.1 hf.2
   have HL := Lib.hid (And.intro (And.intro ((top16 _).1 hf.1) ((top16 _).1 hf.2)) (And.intro ((top16 _).1 hg.1) ((top16 _).1 hg.2)))
   have HD1 := Lib.hid (ref_digits f.num hf.1)
   have HD2 := Lib.hid (ref_digits f.den hf.2)
   have HD3 := Lib.hid (ref_digits g.num hg.1)
   have HD4 := Lib.hid (ref_digits g.den hg.2)
   clear hrf hrg hf hg HP0
   go_enter Try.func109, Try.ntmps109
   go_wp2_with (first
    | ((with_reducible refine g_ld 91 ?_); refine wpList_ld rfl _ _ rfl _ rfl _ (HM0.out.ldb f01_row (FracV.cells_len _) (i := 1) rfl _ (Below.refl _ _)) ?_)
    | (go_at_call 78; refine (HR1.out _).mono ?_; rintro e w3 ⟨rfl, hb⟩; have HM3 := Lib.hid (HM0.out.call hb); clear hb HR1 HM0)
    | ((with_reducible refine g_ld 91 ?_); refine wpList_ldw rfl _ _ rfl _ rfl _ (HM3.out.ldb f01_row (FracV.cells_len _) (i := 0) rfl _ (Below.refl _ _)) ?_)
    | (go_at_call 78; go_loud (refine (HR2.out _).mono ?_); rintro e w4 ⟨rfl, hb⟩; have HM4 := Lib.hid (HM3.out.call hb); clear hb HR2 HM3)
    | fail)
   have HLFN := Lib.hid (HM4.out.ldp u8_row (by rw [u8s_len, pad_len]) (i := 1) rfl (cells_num f))
   have HLFD := Lib.hid (HM4.out.ldp u8_row (by rw [u8s_len, pad_len]) (i := 1) rfl (cells_den f))
   have HLGN := Lib.hid (HM4.out.ldp u8_row (by rw [u8s_len, pad_len]) (i := 0) rfl (cells_num g))
   have HLGD := Lib.hid (HM4.out.ldp u8_row (by rw [u8s_len, pad_len]) (i := 0) rfl (cells_den g))
   refine wp_region_run 14 [.val (Value.pointer (some ⟨w.heap.size, 1, none⟩)), .val (Value.agg (u8s (pad B32 8 f.num)).toArray), .new (Reads (dig B16 f.num)), .val (Value.pointer (some ⟨w.heap.size + 1, 9, none⟩)), .val (Value.agg (u8s (pad B32 8 g.den)).toArray), .new (Reads (dig B16 g.den)), .dep (Reads (dig B16 (f.num * g.den))), .val (Value.pointer (some ⟨w.heap.size + 1, 1, none⟩)), .val (Value.agg (u8s (pad B32 8 g.num)).toArray), .new (Reads (dig B16 g.num)), .val (Value.pointer (some ⟨w.heap.size, 9, none⟩)), .val (Value.agg (u8s (pad B32 8 f.den)).toArray), .new (Reads (dig B16 f.den)), .dep (Reads (dig B16 (g.num * f.den)))] (by kernel_rfl) (by kernel_rfl) (Nat.le_of_ble_eq_true (by kernel_rfl)) (by kernel_rfl) (by kernel_rfl) ?_ ?_ ?_
   · exact ⟨Reads.stays, Reads.stays, Reads.stays, Reads.stays, Reads.stays, Reads.stays, trivial⟩
   · exact ⟨(fun _ _ => ok_field (k := 1) rfl fl91_1 rfl), (fun w hb => ok_load rfl ((HLFN.out) w hb)), (fun w hb => .inr (ok_call rfl rfl (cf_digits _ _) (HD1.out w))), (fun _ _ => ok_field (k := 9) rfl fl91_2 rfl), (fun w hb => ok_load rfl ((HLGD.out) w hb)), (fun w hb => .inr (ok_call rfl rfl (cf_digits _ _) (HD4.out w))), (fun ρ w hb h => .inr (ok_call (h (.func 122) (by simp [Op.operands, Call.operands])) rfl (cf_mul01 _ _) (calls_mul (h (.tmp 18) (by simp [Op.operands, Call.operands])) (h (.tmp 21) (by simp [Op.operands, Call.operands])) (by have := HL.out; omega) (by have := HL.out; omega)))), (fun _ _ => ok_field (k := 1) rfl fl91_1 rfl), (fun w hb => ok_load rfl ((HLGN.out) w hb)), (fun w hb => .inr (ok_call rfl rfl (cf_digits _ _) (HD3.out w))), (fun _ _ => ok_field (k := 9) rfl fl91_2 rfl), (fun w hb => ok_load rfl ((HLFD.out) w hb)), (fun w hb => .inr (ok_call rfl rfl (cf_digits _ _) (HD2.out w))), (fun ρ w hb h => .inr (ok_call (h (.func 122) (by simp [Op.operands, Call.operands])) rfl (cf_mul01 _ _) (calls_mul (h (.tmp 25) (by simp [Op.operands, Call.operands])) (h (.tmp 28) (by simp [Op.operands, Call.operands])) (by have := HL.out; omega) (by have := HL.out; omega)))), trivial⟩
   intro w5 hb5
   simp only [contS, List.take_succ_cons, List.take_zero, List.drop_succ_cons, List.drop_zero]
   intro u18 hu18 u21 hu21 u22 hu22 u25 hu25 u28 hu28 u29 hu29
   simp only [Act.put, List.setIfInBounds_toArray, List.set_cons_succ, List.set_cons_zero]
   have HM9 := Lib.hid (HM4.out.call hb5)
   have HX := Lib.hid hu22
   have HY := Lib.hid hu29
   clear hb5 hu18 hu21 hu22 hu25 hu28 hu29 HM4 HLFN HLFD HLGN HLGD HD1 HD2 HD3 HD4
   cases hn : f.neg with
   | false =>
    have HF := Lib.hid hn
    clear hn
    cases hn : g.neg with
    | false =>
     have HG := Lib.hid hn
     clear hn
     by_cases h1 : f.num * g.den < g.num * f.den
     · have HT1 : Hid (decide (f.num * g.den < g.num * f.den) = true) := decide_eq_true h1
       have HC : Hid (p = (-1, 0)) := by
        unfold Hid
        rw [HP.out, HF.out, HG.out]
        exact congrArg (fun z => (z, (0 : Int))) (cmpNat_lt01 h1)
       clear h1
       go_wp2_with (first
        | ((with_reducible refine g_ld 4 ?_); refine wpList_ld rfl _ _ rfl _ rfl _ (HM9.out.ldc ct4 (i := 1) (j := 0) (v := .bool false) rfl (by rw [cells_neg, HF.out]) _ (Below.refl _ _)) ?_)
        | ((with_reducible refine g_ld 4 ?_); refine wpList_ldw rfl _ _ rfl _ rfl _ (HM9.out.ldc ct4 (i := 1) (j := 0) (v := .bool false) rfl (by rw [cells_neg, HF.out]) _ (Below.refl _ _)) ?_)
        | ((with_reducible refine g_ld 4 ?_); refine wpList_ld rfl _ _ rfl _ rfl _ (HM9.out.ldc ct4 (i := 0) (j := 0) (v := .bool false) rfl (by rw [cells_neg, HG.out]) _ (Below.refl _ _)) ?_)
        | ((with_reducible refine g_ld 4 ?_); go_loud (refine wpList_ldw rfl _ _ rfl _ rfl _ (HM9.out.ldc ct4 (i := 0) (j := 0) (v := .bool false) rfl (by rw [cells_neg, HG.out]) _ (Below.refl _ _)) ?_))
        | (go_at_call 125; go_loud (refine (calls_less HX.out HY.out (Nat.le_trans HLX.out (by decide)) (Nat.le_trans HLY.out (by decide))).mono ?_); rintro e w6 ⟨rfl, hb⟩; rw [HT1.out]; have HM10 := Lib.hid (HM9.out.call hb); clear hb))
       go_ret2
       refine ⟨?_, HM10.out.from_⟩
       rw [HC.out]; rfl
     · have HT1 : Hid (decide (f.num * g.den < g.num * f.den) = false) := decide_eq_false h1
       by_cases h2 : g.num * f.den < f.num * g.den
       · have HT2 : Hid (decide (g.num * f.den < f.num * g.den) = true) := decide_eq_true h2
         have HC : Hid (p = (1, 0)) := by
          unfold Hid
          rw [HP.out, HF.out, HG.out]
          exact congrArg (fun z => (z, (0 : Int))) (cmpNat_gt01 h1 h2)
         clear h1 h2
         go_wp2_with (first
          | ((with_reducible refine g_ld 4 ?_); refine wpList_ld rfl _ _ rfl _ rfl _ (HM9.out.ldc ct4 (i := 1) (j := 0) (v := .bool false) rfl (by rw [cells_neg, HF.out]) _ (Below.refl _ _)) ?_)
          | ((with_reducible refine g_ld 4 ?_); refine wpList_ldw rfl _ _ rfl _ rfl _ (HM9.out.ldc ct4 (i := 1) (j := 0) (v := .bool false) rfl (by rw [cells_neg, HF.out]) _ (Below.refl _ _)) ?_)
          | ((with_reducible refine g_ld 4 ?_); refine wpList_ld rfl _ _ rfl _ rfl _ (HM9.out.ldc ct4 (i := 0) (j := 0) (v := .bool false) rfl (by rw [cells_neg, HG.out]) _ (Below.refl _ _)) ?_)
          | ((with_reducible refine g_ld 4 ?_); go_loud (refine wpList_ldw rfl _ _ rfl _ rfl _ (HM9.out.ldc ct4 (i := 0) (j := 0) (v := .bool false) rfl (by rw [cells_neg, HG.out]) _ (Below.refl _ _)) ?_))
          | (go_at_call 125; refine (calls_less HX.out HY.out (Nat.le_trans HLX.out (by decide)) (Nat.le_trans HLY.out (by decide))).mono ?_; rintro e w6 ⟨rfl, hb⟩; rw [HT1.out]; have HM10 := Lib.hid (HM9.out.call hb); have HXb := Lib.hid (Reads.stays _ _ _ HX.out hb); have HYb := Lib.hid (Reads.stays _ _ _ HY.out hb); clear hb HX HY)
          | (go_at_call 125; go_loud (refine (calls_less HYb.out HXb.out (Nat.le_trans HLY.out (by decide)) (Nat.le_trans HLX.out (by decide))).mono ?_); rintro e w7 ⟨rfl, hb⟩; rw [HT2.out]; have HM11 := Lib.hid (HM10.out.call hb); clear hb))
         go_ret2
         refine ⟨?_, HM11.out.from_⟩
         rw [HC.out]; rfl
       · have HT2 : Hid (decide (g.num * f.den < f.num * g.den) = false) := decide_eq_false h2
         have HC : Hid (p = (0, 0)) := by
          unfold Hid
          rw [HP.out, HF.out, HG.out]
          exact congrArg (fun z => (z, (0 : Int))) (cmpNat_eq01 h1 h2)
         clear h1 h2
         go_wp2_with (first
          | ((with_reducible refine g_ld 4 ?_); refine wpList_ld rfl _ _ rfl _ rfl _ (HM9.out.ldc ct4 (i := 1) (j := 0) (v := .bool false) rfl (by rw [cells_neg, HF.out]) _ (Below.refl _ _)) ?_)
          | ((with_reducible refine g_ld 4 ?_); refine wpList_ldw rfl _ _ rfl _ rfl _ (HM9.out.ldc ct4 (i := 1) (j := 0) (v := .bool false) rfl (by rw [cells_neg, HF.out]) _ (Below.refl _ _)) ?_)
          | ((with_reducible refine g_ld 4 ?_); refine wpList_ld rfl _ _ rfl _ rfl _ (HM9.out.ldc ct4 (i := 0) (j := 0) (v := .bool false) rfl (by rw [cells_neg, HG.out]) _ (Below.refl _ _)) ?_)
          | ((with_reducible refine g_ld 4 ?_); go_loud (refine wpList_ldw rfl _ _ rfl _ rfl _ (HM9.out.ldc ct4 (i := 0) (j := 0) (v := .bool false) rfl (by rw [cells_neg, HG.out]) _ (Below.refl _ _)) ?_))
          | (go_at_call 125; refine (calls_less HX.out HY.out (Nat.le_trans HLX.out (by decide)) (Nat.le_trans HLY.out (by decide))).mono ?_; rintro e w6 ⟨rfl, hb⟩; rw [HT1.out]; have HM10 := Lib.hid (HM9.out.call hb); have HXb := Lib.hid (Reads.stays _ _ _ HX.out hb); have HYb := Lib.hid (Reads.stays _ _ _ HY.out hb); clear hb HX HY)
          | (go_at_call 125; go_loud (refine (calls_less HYb.out HXb.out (Nat.le_trans HLY.out (by decide)) (Nat.le_trans HLX.out (by decide))).mono ?_); rintro e w7 ⟨rfl, hb⟩; rw [HT2.out]; have HM11 := Lib.hid (HM10.out.call hb); clear hb))
         go_ret2
         refine ⟨?_, HM11.out.from_⟩
         rw [HC.out]; rfl
    | true =>
     have HG := Lib.hid hn
     clear hn
     have HC : Hid (p = (1, 0)) := by unfold Hid; rw [HP.out, HF.out, HG.out]; rfl
     go_wp2_with (first
      | ((with_reducible refine g_ld 4 ?_); refine wpList_ld rfl _ _ rfl _ rfl _ (HM9.out.ldc ct4 (i := 1) (j := 0) (v := .bool false) rfl (by rw [cells_neg, HF.out]) _ (Below.refl _ _)) ?_)
      | ((with_reducible refine g_ld 4 ?_); refine wpList_ldw rfl _ _ rfl _ rfl _ (HM9.out.ldc ct4 (i := 1) (j := 0) (v := .bool false) rfl (by rw [cells_neg, HF.out]) _ (Below.refl _ _)) ?_)
      | ((with_reducible refine g_ld 4 ?_); refine wpList_ld rfl _ _ rfl _ rfl _ (HM9.out.ldc ct4 (i := 0) (j := 0) (v := .bool true) rfl (by rw [cells_neg, HG.out]) _ (Below.refl _ _)) ?_)
      | ((with_reducible refine g_ld 4 ?_); go_loud (refine wpList_ldw rfl _ _ rfl _ rfl _ (HM9.out.ldc ct4 (i := 0) (j := 0) (v := .bool true) rfl (by rw [cells_neg, HG.out]) _ (Below.refl _ _)) ?_))
      | fail)
     go_ret2
     exact ⟨by rw [HC.out]; rfl, HM9.out.from_⟩
   | true =>
    have HF := Lib.hid hn
    clear hn
    cases hn : g.neg with
    | false =>
     have HG := Lib.hid hn
     clear hn
     have HC : Hid (p = (-1, 0)) := by unfold Hid; rw [HP.out, HF.out, HG.out]; rfl
     go_wp2_with (first
      | ((with_reducible refine g_ld 4 ?_); refine wpList_ld rfl _ _ rfl _ rfl _ (HM9.out.ldc ct4 (i := 1) (j := 0) (v := .bool true) rfl (by rw [cells_neg, HF.out]) _ (Below.refl _ _)) ?_)
      | ((with_reducible refine g_ld 4 ?_); refine wpList_ldw rfl _ _ rfl _ rfl _ (HM9.out.ldc ct4 (i := 1) (j := 0) (v := .bool true) rfl (by rw [cells_neg, HF.out]) _ (Below.refl _ _)) ?_)
      | ((with_reducible refine g_ld 4 ?_); refine wpList_ld rfl _ _ rfl _ rfl _ (HM9.out.ldc ct4 (i := 0) (j := 0) (v := .bool false) rfl (by rw [cells_neg, HG.out]) _ (Below.refl _ _)) ?_)
      | ((with_reducible refine g_ld 4 ?_); go_loud (refine wpList_ldw rfl _ _ rfl _ rfl _ (HM9.out.ldc ct4 (i := 0) (j := 0) (v := .bool false) rfl (by rw [cells_neg, HG.out]) _ (Below.refl _ _)) ?_))
      | fail)
     go_ret2
     exact ⟨by rw [HC.out]; rfl, HM9.out.from_⟩
    | true =>
     have HG := Lib.hid hn
     clear hn
     by_cases h1 : g.num * f.den < f.num * g.den
     · have HT1 : Hid (decide (g.num * f.den < f.num * g.den) = true) := decide_eq_true h1
       have HC : Hid (p = (-1, 0)) := by
        unfold Hid
        rw [HP.out, HF.out, HG.out]
        exact congrArg (fun z => (z, (0 : Int))) (cmpNat_lt01 h1)
       clear h1
       go_wp2_with (first
        | ((with_reducible refine g_ld 4 ?_); refine wpList_ld rfl _ _ rfl _ rfl _ (HM9.out.ldc ct4 (i := 1) (j := 0) (v := .bool true) rfl (by rw [cells_neg, HF.out]) _ (Below.refl _ _)) ?_)
        | ((with_reducible refine g_ld 4 ?_); refine wpList_ldw rfl _ _ rfl _ rfl _ (HM9.out.ldc ct4 (i := 1) (j := 0) (v := .bool true) rfl (by rw [cells_neg, HF.out]) _ (Below.refl _ _)) ?_)
        | ((with_reducible refine g_ld 4 ?_); refine wpList_ld rfl _ _ rfl _ rfl _ (HM9.out.ldc ct4 (i := 0) (j := 0) (v := .bool true) rfl (by rw [cells_neg, HG.out]) _ (Below.refl _ _)) ?_)
        | ((with_reducible refine g_ld 4 ?_); go_loud (refine wpList_ldw rfl _ _ rfl _ rfl _ (HM9.out.ldc ct4 (i := 0) (j := 0) (v := .bool true) rfl (by rw [cells_neg, HG.out]) _ (Below.refl _ _)) ?_))
        | (go_at_call 125; go_loud (refine (calls_less HY.out HX.out (Nat.le_trans HLY.out (by decide)) (Nat.le_trans HLX.out (by decide))).mono ?_); rintro e w6 ⟨rfl, hb⟩; rw [HT1.out]; have HM10 := Lib.hid (HM9.out.call hb); clear hb))
       go_ret2
       refine ⟨?_, HM10.out.from_⟩
       rw [HC.out]; rfl
     · have HT1 : Hid (decide (g.num * f.den < f.num * g.den) = false) := decide_eq_false h1
       by_cases h2 : f.num * g.den < g.num * f.den
       · have HT2 : Hid (decide (f.num * g.den < g.num * f.den) = true) := decide_eq_true h2
         have HC : Hid (p = (1, 0)) := by
          unfold Hid
          rw [HP.out, HF.out, HG.out]
          exact congrArg (fun z => (z, (0 : Int))) (cmpNat_gt01 h1 h2)
         clear h1 h2
         go_wp2_with (first
          | ((with_reducible refine g_ld 4 ?_); refine wpList_ld rfl _ _ rfl _ rfl _ (HM9.out.ldc ct4 (i := 1) (j := 0) (v := .bool true) rfl (by rw [cells_neg, HF.out]) _ (Below.refl _ _)) ?_)
          | ((with_reducible refine g_ld 4 ?_); refine wpList_ldw rfl _ _ rfl _ rfl _ (HM9.out.ldc ct4 (i := 1) (j := 0) (v := .bool true) rfl (by rw [cells_neg, HF.out]) _ (Below.refl _ _)) ?_)
          | ((with_reducible refine g_ld 4 ?_); refine wpList_ld rfl _ _ rfl _ rfl _ (HM9.out.ldc ct4 (i := 0) (j := 0) (v := .bool true) rfl (by rw [cells_neg, HG.out]) _ (Below.refl _ _)) ?_)
          | ((with_reducible refine g_ld 4 ?_); go_loud (refine wpList_ldw rfl _ _ rfl _ rfl _ (HM9.out.ldc ct4 (i := 0) (j := 0) (v := .bool true) rfl (by rw [cells_neg, HG.out]) _ (Below.refl _ _)) ?_))
          | (go_at_call 125; refine (calls_less HY.out HX.out (Nat.le_trans HLY.out (by decide)) (Nat.le_trans HLX.out (by decide))).mono ?_; rintro e w6 ⟨rfl, hb⟩; rw [HT1.out]; have HM10 := Lib.hid (HM9.out.call hb); have HXb := Lib.hid (Reads.stays _ _ _ HY.out hb); have HYb := Lib.hid (Reads.stays _ _ _ HX.out hb); clear hb HY HX)
          | (go_at_call 125; go_loud (refine (calls_less HYb.out HXb.out (Nat.le_trans HLX.out (by decide)) (Nat.le_trans HLY.out (by decide))).mono ?_); rintro e w7 ⟨rfl, hb⟩; rw [HT2.out]; have HM11 := Lib.hid (HM10.out.call hb); clear hb))
         go_ret2
         refine ⟨?_, HM11.out.from_⟩
         rw [HC.out]; rfl
       · have HT2 : Hid (decide (f.num * g.den < g.num * f.den) = false) := decide_eq_false h2
         have HC : Hid (p = (0, 0)) := by
          unfold Hid
          rw [HP.out, HF.out, HG.out]
          exact congrArg (fun z => (z, (0 : Int))) (cmpNat_eq01 h1 h2)
         clear h1 h2
         go_wp2_with (first
          | ((with_reducible refine g_ld 4 ?_); refine wpList_ld rfl _ _ rfl _ rfl _ (HM9.out.ldc ct4 (i := 1) (j := 0) (v := .bool true) rfl (by rw [cells_neg, HF.out]) _ (Below.refl _ _)) ?_)
          | ((with_reducible refine g_ld 4 ?_); refine wpList_ldw rfl _ _ rfl _ rfl _ (HM9.out.ldc ct4 (i := 1) (j := 0) (v := .bool true) rfl (by rw [cells_neg, HF.out]) _ (Below.refl _ _)) ?_)
          | ((with_reducible refine g_ld 4 ?_); refine wpList_ld rfl _ _ rfl _ rfl _ (HM9.out.ldc ct4 (i := 0) (j := 0) (v := .bool true) rfl (by rw [cells_neg, HG.out]) _ (Below.refl _ _)) ?_)
          | ((with_reducible refine g_ld 4 ?_); go_loud (refine wpList_ldw rfl _ _ rfl _ rfl _ (HM9.out.ldc ct4 (i := 0) (j := 0) (v := .bool true) rfl (by rw [cells_neg, HG.out]) _ (Below.refl _ _)) ?_))
          | (go_at_call 125; refine (calls_less HY.out HX.out (Nat.le_trans HLY.out (by decide)) (Nat.le_trans HLX.out (by decide))).mono ?_; rintro e w6 ⟨rfl, hb⟩; rw [HT1.out]; have HM10 := Lib.hid (HM9.out.call hb); have HXb := Lib.hid (Reads.stays _ _ _ HY.out hb); have HYb := Lib.hid (Reads.stays _ _ _ HX.out hb); clear hb HY HX)
          | (go_at_call 125; go_loud (refine (calls_less HYb.out HXb.out (Nat.le_trans HLX.out (by decide)) (Nat.le_trans HLY.out (by decide))).mono ?_); rintro e w7 ⟨rfl, hb⟩; rw [HT2.out]; have HM11 := Lib.hid (HM10.out.call hb); clear hb))
         go_ret2
         refine ⟨?_, HM11.out.from_⟩
         rw [HC.out]; rfl
def guardG (S : List St) (o : Oper) (st : St) : Bool :=
 match o.guard with
 | none => !st.isSkip
 | some (j, b) => (o.after.any fun e => Region.binds .any e && e.on == j) && (if (S.getD j .skip).isSkip then st.isSkip else match (S.getD j .skip).told with
  | some c => (c == b) == !st.isSkip
  | none => false)
def readsG (l : List Oper) (S : List St) (np : Nat) : Bool :=
 (List.range np).all fun i => match l[i]? with
  | none => false
  | some o => let st := S.getD i .skip
   guardG S o st && (st.isSkip || (!isSel o.op && o.op.operands.toList.all fun x => match x with
    | .tmp s => slotB l np i o s && (match st with
     | .dep _ => true
     | _ => match prodOf l s i with
      | some j => (S.getD j .skip).isKnown
      | none => true)
    | _ => true))
theorem run_stepG {P : Program} {Q : Exit → Act → World → Prop} {a0 : Act} {w0 : World} {l : List Oper} (np : Nat) (S : List St) (hback : ∀ j o, l[j]? = some o → ∀ e ∈ o.after, Region.binds .any e = true → e.on < j) (hnp : np ≤ l.length) (hd : dstsB l np a0.tmps.size = true) (hread : readsG l S np = true)
 (hstep : stepsS P w0 l S a0 0 (l.take np) S) :
 ∀ i o, i < np → l[i]? = some o → ∀ (L : Nat → Bool) (a : Act) (w : World) (val : Nat → Value) (lo hi : Nat → Nat), Made w0 a0 l np (fun i v _ _ w => (S.getD i .skip).Rel v w) L a w val lo hi → (∀ e ∈ o.after, Region.binds .any e = true → L e.on = true) → L i = false → (∀ j oj, L j = true → l[j]? = some oj → ∀ e ∈ oj.after, Region.binds .any e = true → L e.on = true) →
  wpOp P l.toArray Q i (fun a' w' => ∃ v, a' = a.put o.dst v ∧ From w w' ∧ (S.getD i .skip).Rel v w') a w := by
 intro i o hi ho L a w val lo hi' M haft hLi hLc
 have hb : From w0 w := M.from0
 have hval : ∀ j oj d, j < np → l[j]? = some oj → oj.dst = some d → (o.after.any fun e => Region.binds .any e && e.on == j) = true → ∃ v, a.tmps[d]? = some v ∧ (S.getD j .skip).Rel v w := fun j oj d hj hoj hdj he => by
  rw [Array.any_eq_true'] at he
  obtain ⟨e, he, hbd⟩ := he
  simp only [Bool.and_eq_true, beq_iff_eq] at hbd
  have hL := haft e he hbd.1
  rw [hbd.2] at hL
  exact ⟨val j, M.slots j oj d hj hoj hdj hL, (M.rows j hj hL).2.2.2⟩
 have hold : ∀ s, ((List.range np).all fun k => match l[k]? with | some ok => ok.dst != some s || ok.after.any (fun e => Region.binds .any e && e.on == i) | none => true) = true → a.tmps[s]? = a0.tmps[s]? := fun s hs => M.old s fun k ok hk hok hdk => by
  have h1 := List.all_eq_true.1 hs k (List.mem_range.2 hk)
  simp only [hok, hdk, bne_self_eq_false, Bool.false_or] at h1
  cases hLk : L k with
  | false => rfl
  | true =>
   rw [Array.any_eq_true'] at h1
   obtain ⟨e, he, hbd⟩ := h1
   simp only [Bool.and_eq_true, beq_iff_eq] at hbd
   have h2 := hLc k ok hLk hok e he hbd.1
   rw [hbd.2, hLi] at h2
   cases h2
 have hgo := stepsS_get hstep (i := i) (o := o) (by rw [List.getElem?_take_of_lt hi]; exact ho)
 rw [Nat.zero_add] at hgo
 have hrd := List.all_eq_true.1 hread i (List.mem_range.2 hi)
 simp only [ho, Bool.and_eq_true] at hrd
 obtain ⟨hgd, hrd⟩ := hrd
 have ho' : l.toArray[i]? = some o := by simpa using ho
 have hprod : ∀ j, (o.after.any fun e => Region.binds .any e && e.on == j) = true → ∀ oj d, j < np → l[j]? = some oj → oj.dst = some d → ∃ v, a.tmps[d]? = some v ∧ (S.getD j .skip).Rel v w := fun j he oj d hj hoj hdj => hval j oj d hj hoj hdj he
 -- the guard
 have hwant : Region.wanted o (yielded l.toArray a.tmps) = !(S.getD i .skip).isSkip := by
  unfold guardG at hgd
  cases hg : o.guard with
  | none =>
   rw [hg] at hgd
   simp only at hgd
   rw [hgd]
   exact wanted_none hg _
  | some p =>
   obtain ⟨j, b⟩ := p
   rw [hg] at hgd
   simp only [Bool.and_eq_true] at hgd
   obtain ⟨he, hgd⟩ := hgd
   have hji : j < i := by
    rw [Array.any_eq_true'] at he
    obtain ⟨e, he1, he2⟩ := he
    simp only [Bool.and_eq_true, beq_iff_eq] at he2
    have := hback i o ho e he1 he2.1
    omega
   obtain ⟨oj, hoj⟩ : ∃ oj, l[j]? = some oj := ⟨l[j]'(by omega), List.getElem?_eq_getElem (by omega)⟩
   obtain ⟨d, hdj, _, _⟩ := dstsB_spec hd (show j < np by omega) hoj
   obtain ⟨v, hv1, hv2⟩ := hprod j he oj d (by omega) hoj hdj
   by_cases hsk : (S.getD j .skip).isSkip = true
   · rw [if_pos hsk] at hgd
     rw [hgd]
     have hv3 : v = undef := by
      generalize S.getD j .skip = s at hsk hv2
      cases s with
      | skip => exact hv2
      | val _ => cases hsk
      | call _ => cases hsk
      | new _ => cases hsk
      | dep _ => cases hsk
     subst hv3
     have hy : yielded l.toArray a.tmps j = none := by
      unfold yielded
      have e1 : l.toArray[j]? = some oj := by simpa using hoj
      rw [e1, Option.bind_some, hdj, Option.bind_some, hv1]
      rfl
     unfold Region.wanted
     rw [hg]
     simp only [hy]
     rfl
   rw [if_neg hsk] at hgd
   have htold : ∀ c, (S.getD j .skip).told = some c → (S.getD j .skip).Rel v w → v = .bool c := by
    generalize S.getD j .skip = s
    intro c h1 h2
    cases s with
    | val c' => cases c' <;> simp only [St.told] at h1 <;> cases h1 <;> exact h2
    | call c' => cases c' <;> simp only [St.told] at h1 <;> cases h1 <;> exact h2
    | new R => cases h1
    | dep R => cases h1
    | skip => cases h1
   cases ht : (S.getD j .skip).told with
   | none => rw [ht] at hgd; cases hgd
   | some c =>
    rw [ht] at hgd
    have hvc := htold c ht hv2
    subst hvc
    exact wanted_some hg (by simpa using hoj) hdj hv1 (eq_of_beq hgd)
 -- the operands
 have hrel : (S.getD i .skip).isSkip = false → ∀ x, x ∈ o.op.operands → (envS l S a0 i x).Rel (a.eval x) w := by
  intro hns x hx
  rw [hns, Bool.false_or] at hrd
  simp only [Bool.and_eq_true] at hrd
  have h1 := List.all_eq_true.1 hrd.2 x (by simpa using hx)
  cases x with
  | const v => rfl
  | global g => rfl
  | func f => rfl
  | tmp s =>
   simp only [Bool.and_eq_true] at h1
   have h2 := h1.1
   unfold slotB at h2
   cases hp : prodOf l s i with
   | none =>
    rw [hp] at h2
    have h3 := hold s h2
    rw [envS_none hp]
    simp only [St.Rel, Act.eval]
    rw [Array.getD_eq_getD_getElem?, Array.getD_eq_getD_getElem?, h3]
   | some j =>
    rw [hp] at h2
    obtain ⟨h3, oj, h4, h5⟩ := prodOf_spec hp
    obtain ⟨v, h6, h7⟩ := hprod j h2 oj s (by omega) h4 h5
    rw [envS_some hp, eval_get h6]
    exact h7
 have hnosel : (S.getD i .skip).isSkip = false → ∀ cs b, o.op ≠ .select cs b := by
  intro hns cs b hop
  rw [hns, Bool.false_or, hop] at hrd
  simp [isSel] at hrd
 have hsame : (S.getD i .skip).isSkip = false → (∀ R, S.getD i .skip ≠ .dep R) → execOp a.eval o = execOp (fun x => (envS l S a0 i x).known) o := by
  intro hns hnd
  refine execOp_congr o (hnosel hns) fun x hx => ?_
  refine St.rel_known ?_ (hrel hns x hx)
  rw [hns, Bool.false_or] at hrd
  simp only [Bool.and_eq_true] at hrd
  have h1 := List.all_eq_true.1 hrd.2 x (by simpa using hx)
  cases x with
  | const v => rfl
  | global g => rfl
  | func f => rfl
  | tmp s =>
   simp only [Bool.and_eq_true] at h1
   have h2 := h1.2
   cases hp : prodOf l s i with
   | none => rw [envS_none hp]; rfl
   | some j =>
    rw [hp] at h2
    rw [envS_some hp]
    simp only at h2
    cases hs : S.getD i .skip with
    | dep R => exact (hnd R hs).elim
    | val v => exact h2
    | call v => exact h2
    | new v => exact h2
    | skip => exact h2
 have hrun : ∀ ρ, execOp a.eval o = execOp ρ o → ∀ R : Value → World → Prop, Region.wanted o (yielded l.toArray a.tmps) = true → runsIn P ρ o w R → wpOp P l.toArray Q i (fun a' w' => ∃ v, a' = a.put o.dst v ∧ From w w' ∧ R v w') a w := by
  intro ρ he R hw h
  rcases h with ⟨v, w', h1, h2, h3⟩ | ⟨f, args, h1, h2⟩
  · rw [← he] at h1
    exact wpOp_valueW ho' hw h1 ⟨v, rfl, h2, h3⟩
  · rw [← he] at h1
    exact wpOp_enterW ho' hw h1 (h2.mono fun e w' ⟨v, h3, h4, h5⟩ => ⟨v, h3, v, rfl, h4, h5⟩)
 cases hs : S.getD i .skip with
 | skip =>
  rw [hs] at hwant
  exact wpOp_not ho' hwant ⟨_, rfl, Below.refl _ _, rfl⟩
 | val v =>
  rw [hs] at hgo hwant hsame
  have h1 := hgo w hb
  exact hrun _ (hsame rfl (fun R => by simp)) _ hwant (.inl ⟨v, w, h1, Below.refl _ _, rfl⟩)
 | call v =>
  rw [hs] at hgo hwant hsame
  obtain ⟨f, args, h1, h2⟩ := hgo w hb
  exact hrun _ (hsame rfl (fun R => by simp)) _ hwant (.inr ⟨f, args, h1, h2.mono fun e w' ⟨h3, h4⟩ => ⟨v, h3, h4, rfl⟩⟩)
 | new R =>
  rw [hs] at hgo hwant hsame
  exact hrun _ (hsame rfl (fun R => by simp)) _ hwant (hgo w hb)
 | dep R =>
  rw [hs] at hgo hwant hrel
  exact hrun _ rfl _ hwant (hgo a.eval w hb (hrel rfl))
theorem wp_region_runG {P : Program} {id : Nat} {Q : Exit → Act → World → Prop} {a0 : Act} {w0 : World} {l : List Oper} (np : Nat) (S : List St) (hm : P.follows .mixedOrders = true) (hO : orderB l np = true) (hnp : np ≤ l.length) (hd : dstsB l np a0.tmps.size = true) (hread : readsG l S np = true)
 (hstab : stableS S) (hstep : stepsS P w0 l S a0 0 (l.take np) S)
 (hK : ∀ w, From w0 w → contS S (l.take np) a0 (fun a w => wpList P l.toArray Q (l.drop np) a w) w) :
 (Code.region id l.toArray true).wp P Q a0 w0 := by
 have hlen := stepsS_len hstep
 refine wp_region_made2 np (fun i v _ _ w => (S.getD i .skip).Rel v w) hm hO hnp hd (fun i v lo hi w w' h _ hb => stableS_get hstab i v w w' h hb) (run_stepG np S (fun j o ho => orderB_back hO ho) hnp hd hread hstep) ?_
 · intro val lo hi w hb hrows _
   have h1 := contS_put (val := val) (k := 0) hlen (hK w hb) (fun i hi => by
    rw [Nat.zero_add]
    exact (hrows i (by simp at hi; omega)).2.2.2)
   exact h1
end Go.Proofs.Ytcdfnlgimbecgaa
