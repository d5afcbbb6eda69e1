/-
  twistlockref01: Mul, Div.
-/
import Derived.Test.YtcdfnlgimbecgaaMt36
namespace Go.Proofs.Ytcdfnlgimbecgaa
open Go.RowKit
set_option maxRecDepth 100000 in
set_option maxHeartbeats 1000000 in
theorem ref_Mul (f g : FracV) (hf : f.fits) (hg : g.fits) (w : World) : Calls Try.prog 105 #[f.val, g.val] w (FitPost w (mulL f g)) := by
 have HM0 := Lib.hid (boxes01 f g w)
 have HR1 := Lib.hid (ref_Right f hf)
 have HR2 := Lib.hid (ref_Right g hg)
 obtain ⟨p, hp⟩ : ∃ p, p = mulL f g := ⟨_, rfl⟩
 rw [← hp]
 have HP := Lib.hid hp
 clear hp
 unfold FracV.val at *
 cases hrf : f.right with
 | false =>
  rw [hrf] at HR1
  have HE := Lib.hid hrf
  clear hrf
  go_enter Try.func105, Try.ntmps105
  go_wp2_with (first
   | ((with_reducible refine g_ld 91 ?_); refine wpList_ld rfl _ _ rfl _ rfl _ (HM0.out.ldb f01_row (FracV.cells_len _) (i := 2) rfl _ (Below.refl _ _)) ?_)
   | (go_at_call 78; go_loud (refine (HR1.out _).mono ?_); rintro e w3 ⟨rfl, hb⟩; have HM3 := Lib.hid (HM0.out.call hb); clear hb HR1 HM0)
   | ((with_reducible refine g_st 91 ?_); go_loud (refine wpList_stB (cs' := FracV.cells zeroF) rfl _ _ rfl HM3.out 0 rfl rfl rfl f01_size rfl (FracV.cells_len _) (FracV.cells_len _) (FracV.ones _) ?_); intro w6 h6))
  refine bodyPost_ret (results_box2 rfl _ rfl (h6.ldb f01_row (FracV.cells_len _) (i := 0) rfl _ (Below.refl _ _))) rfl ⟨?_, h6.from_⟩
  rw [HP.out]
  unfold mulL
  rw [HE.out]
  rfl
 | true =>
  rw [hrf] at HR1
  cases hrg : g.right with
  | false =>
   rw [hrg] at HR2
   have HE := Lib.hid (And.intro hrf hrg)
   clear hrf hrg
   go_enter Try.func105, Try.ntmps105
   go_wp2_with (first
    | ((with_reducible refine g_ld 91 ?_); refine wpList_ld rfl _ _ rfl _ rfl _ (HM0.out.ldb f01_row (FracV.cells_len _) (i := 2) rfl _ (Below.refl _ _)) ?_)
    | (go_at_call 78; refine (HR1.out _).mono ?_; rintro e w3 ⟨rfl, hb⟩; have HM3 := Lib.hid (HM0.out.call hb); clear hb HR1 HM0)
    | ((with_reducible refine g_ld 91 ?_); refine wpList_ldw rfl _ _ rfl _ rfl _ (HM3.out.ldb f01_row (FracV.cells_len _) (i := 1) rfl _ (Below.refl _ _)) ?_)
    | (go_at_call 78; go_loud (refine (HR2.out _).mono ?_); rintro e w4 ⟨rfl, hb⟩; have HM4 := Lib.hid (HM3.out.call hb); clear hb HR2 HM3)
    | ((with_reducible refine g_st 91 ?_); go_loud (refine wpList_stB (cs' := FracV.cells zeroF) rfl _ _ rfl HM4.out 0 rfl rfl rfl f01_size rfl (FracV.cells_len _) (FracV.cells_len _) (FracV.ones _) ?_); intro w6 h6))
   refine bodyPost_ret (results_box2 rfl _ rfl (h6.ldb f01_row (FracV.cells_len _) (i := 0) rfl _ (Below.refl _ _))) rfl ⟨?_, h6.from_⟩
   rw [HP.out]
   unfold mulL
   rw [HE.out.1, HE.out.2]
   rfl
  | true =>
   rw [hrg] at HR2
   have HPS : Hid (p = fitL (f.neg != g.neg) (f.num * g.num) (f.den * g.den)) := by unfold Hid; rw [HP.out]; unfold mulL; rw [hrf, hrg]; rfl
   have hgd : g.den ≠ 0 := by intro h; unfold FracV.right at hrg; rw [h] at hrg; simp at hrg
   have hfd : f.den ≠ 0 := by intro h; unfold FracV.right at hrf; rw [h] at hrf; simp at hrf
   have HD0 : Hid (0 < f.den * g.den) := Nat.mul_pos (Nat.pos_of_ne_zero hfd) (Nat.pos_of_ne_zero hgd)
   have HLX : Hid (len16 (f.num * g.num) ≤ 32) := mul_len hf.1 hg.1
   have HLY : Hid (len16 (f.den * g.den) ≤ 32) := mul_len hf.2 hg.2
   have HL := Lib.hid (And.intro (And.intro ((top16 _).1 hf.1) ((top16 _).1 hf.2)) (And.intro ((top16 _).1 hg.1) ((top16 _).1 hg.2)))
   have HD1 := Lib.hid (ref_digits f.num hf.1)
   have HD2 := Lib.hid (ref_digits f.den hf.2)
   have HD3 := Lib.hid (ref_digits g.num hg.1)
   have HD4 := Lib.hid (ref_digits g.den hg.2)
   clear hgd hfd hrf hrg hf hg HP
   go_enter Try.func105, Try.ntmps105
   go_wp2_with (first
    | ((with_reducible refine g_ld 91 ?_); refine wpList_ld rfl _ _ rfl _ rfl _ (HM0.out.ldb f01_row (FracV.cells_len _) (i := 2) rfl _ (Below.refl _ _)) ?_)
    | (go_at_call 78; refine (HR1.out _).mono ?_; rintro e w3 ⟨rfl, hb⟩; have HM3 := Lib.hid (HM0.out.call hb); clear hb HR1 HM0)
    | ((with_reducible refine g_ld 91 ?_); refine wpList_ldw rfl _ _ rfl _ rfl _ (HM3.out.ldb f01_row (FracV.cells_len _) (i := 1) rfl _ (Below.refl _ _)) ?_)
    | (go_at_call 78; go_loud (refine (HR2.out _).mono ?_); rintro e w4 ⟨rfl, hb⟩; have HM4 := Lib.hid (HM3.out.call hb); clear hb HR2 HM3)
    | fail)
   have HLFB := Lib.hid (HM4.out.ldc ct4 (i := 2) (j := 0) (v := .bool f.neg) rfl rfl)
   have HLGB := Lib.hid (HM4.out.ldc ct4 (i := 1) (j := 0) (v := .bool g.neg) rfl rfl)
   have HLFN := Lib.hid (HM4.out.ldp u8_row (by rw [u8s_len, pad_len]) (i := 2) rfl (cells_num f))
   have HLFD := Lib.hid (HM4.out.ldp u8_row (by rw [u8s_len, pad_len]) (i := 2) rfl (cells_den f))
   have HLGN := Lib.hid (HM4.out.ldp u8_row (by rw [u8s_len, pad_len]) (i := 1) rfl (cells_num g))
   have HLGD := Lib.hid (HM4.out.ldp u8_row (by rw [u8s_len, pad_len]) (i := 1) rfl (cells_den g))
   refine wp_region_run 22 [.val (Value.pointer (some ⟨w.heap.size, 0, none⟩)), .val (Value.bool f.neg), .val (Value.pointer (some ⟨w.heap.size + 1, 0, none⟩)), .val (Value.bool g.neg), .val (Value.bool (f.neg != g.neg)), .val (Value.pointer (some ⟨w.heap.size, 1, none⟩)), .val (Value.agg (u8s (pad B32 8 f.num)).toArray), .new (Reads (dig B16 f.num)), .val (Value.pointer (some ⟨w.heap.size + 1, 1, none⟩)), .val (Value.agg (u8s (pad B32 8 g.num)).toArray), .new (Reads (dig B16 g.num)), .dep (Reads (dig B16 (f.num * g.num))), .val (Value.pointer (some ⟨w.heap.size, 9, none⟩)), .val (Value.agg (u8s (pad B32 8 f.den)).toArray), .new (Reads (dig B16 f.den)), .val (Value.pointer (some ⟨w.heap.size + 1, 9, none⟩)), .val (Value.agg (u8s (pad B32 8 g.den)).toArray), .new (Reads (dig B16 g.den)), .dep (Reads (dig B16 (f.den * g.den))), .dep (IsV (.tuple #[(fitL (f.neg != g.neg) (f.num * g.num) (f.den * g.den)).1.val, .int .i64 (fitL (f.neg != g.neg) (f.num * g.num) (f.den * g.den)).2])), .dep (IsV (fitL (f.neg != g.neg) (f.num * g.num) (f.den * g.den)).1.val), .dep (IsV (.int .i64 (fitL (f.neg != g.neg) (f.num * g.num) (f.den * g.den)).2))] (by kernel_rfl) (by kernel_rfl) (Nat.le_of_ble_eq_true (by kernel_rfl)) (by kernel_rfl) (by kernel_rfl) ?_ ?_ ?_
   · exact ⟨Reads.stays, Reads.stays, Reads.stays, Reads.stays, Reads.stays, Reads.stays, IsV.stays, IsV.stays, IsV.stays, trivial⟩
   · exact ⟨(fun _ _ => ok_field (k := 0) rfl fl91_0 rfl), (fun w hb => ok_load rfl ((HLFB.out) w hb)), (fun _ _ => ok_field (k := 0) rfl fl91_0 rfl), (fun w hb => ok_load rfl ((HLGB.out) w hb)), (fun _ _ => ok_neqb rfl rfl rfl), (fun _ _ => ok_field (k := 1) rfl fl91_1 rfl), (fun w hb => ok_load rfl ((HLFN.out) w hb)), (fun w hb => .inr (ok_call rfl rfl (cf_digits _ _) (HD1.out w))), (fun _ _ => ok_field (k := 1) rfl fl91_1 rfl), (fun w hb => ok_load rfl ((HLGN.out) w hb)), (fun w hb => .inr (ok_call rfl rfl (cf_digits _ _) (HD3.out w))), (fun ρ w hb h => .inr (ok_call (h (.func 122) (by simp [Op.operands, Call.operands])) rfl (cf_mul01 _ _) (calls_mul (h (.tmp 22) (by simp [Op.operands, Call.operands])) (h (.tmp 25) (by simp [Op.operands, Call.operands])) (by have := HL.out; omega) (by have := HL.out; omega)))), (fun _ _ => ok_field (k := 9) rfl fl91_2 rfl), (fun w hb => ok_load rfl ((HLFD.out) w hb)), (fun w hb => .inr (ok_call rfl rfl (cf_digits _ _) (HD2.out w))), (fun _ _ => ok_field (k := 9) rfl fl91_2 rfl), (fun w hb => ok_load rfl ((HLGD.out) w hb)), (fun w hb => .inr (ok_call rfl rfl (cf_digits _ _) (HD4.out w))), (fun ρ w hb h => .inr (ok_call (h (.func 122) (by simp [Op.operands, Call.operands])) rfl (cf_mul01 _ _) (calls_mul (h (.tmp 29) (by simp [Op.operands, Call.operands])) (h (.tmp 32) (by simp [Op.operands, Call.operands])) (by have := HL.out; omega) (by have := HL.out; omega)))), (fun ρ w hb h => .inr (ok_call (h (.func 123) (by simp [Op.operands, Call.operands])) rfl (cf_make0 _ _) (calls_make0F (h (.tmp 19) (by simp [Op.operands, Call.operands])) (h (.tmp 26) (by simp [Op.operands, Call.operands])) (h (.tmp 33) (by simp [Op.operands, Call.operands])) (Nat.le_trans HLX.out (by decide)) (Nat.le_trans HLY.out (by decide)) HD0.out))), (fun ρ w hb h => dep_extract (h (.tmp 34) (by simp [Op.operands])) rfl), (fun ρ w hb h => dep_extract (h (.tmp 34) (by simp [Op.operands])) rfl), trivial⟩
   intro w9 hb9
   simp only [contS, List.take_succ_cons, List.take_zero, List.drop_succ_cons, List.drop_zero]
   intro u22 hu22 u25 hu25 u26 hu26 u29 hu29 u32 hu32 u33 hu33 u34 hu34 u35 hu35 u36 hu36
   simp only [Act.put, List.setIfInBounds_toArray, List.set_cons_succ, List.set_cons_zero]
   clear hu22 hu25 hu26 hu29 hu32 hu33
   obtain rfl : u34 = _ := hu34
   obtain rfl : u35 = _ := hu35
   obtain rfl : u36 = _ := hu36
   have HM9 := Lib.hid (HM4.out.call hb9)
   clear hb9
   go_wp2_with ((with_reducible refine g_st 91 ?_); go_loud (refine wpList_stB (cs' := FracV.cells _) rfl _ _ rfl HM9.out 0 rfl rfl rfl f01_size rfl (FracV.cells_len _) (FracV.cells_len _) (FracV.ones _) ?_); intro w6 h6)
   refine bodyPost_ret (results_box2 rfl _ rfl (h6.ldb f01_row (FracV.cells_len _) (i := 0) rfl _ (Below.refl _ _))) rfl ⟨?_, h6.from_⟩
   rw [HPS.out]
   rfl
set_option maxRecDepth 100000 in
set_option maxHeartbeats 1000000 in
theorem ref_Div (f g : FracV) (hf : f.fits) (hg : g.fits) (w : World) : Calls Try.prog 119 #[f.val, g.val] w (FitPost w (divL f g)) := by
 have HM0 := Lib.hid (boxes01 f g w)
 have HR1 := Lib.hid (ref_Right f hf)
 have HR2 := Lib.hid (ref_Right g hg)
 obtain ⟨p, hp⟩ : ∃ p, p = divL f g := ⟨_, rfl⟩
 rw [← hp]
 have HP := Lib.hid hp
 clear hp
 unfold FracV.val at *
 cases hrf : f.right with
 | false =>
  rw [hrf] at HR1
  have HE := Lib.hid hrf
  clear hrf
  go_enter Try.func119, Try.ntmps119
  go_wp2_with (first
   | ((with_reducible refine g_ld 91 ?_); refine wpList_ld rfl _ _ rfl _ rfl _ (HM0.out.ldb f01_row (FracV.cells_len _) (i := 2) rfl _ (Below.refl _ _)) ?_)
   | (go_at_call 78; go_loud (refine (HR1.out _).mono ?_); rintro e w3 ⟨rfl, hb⟩; have HM3 := Lib.hid (HM0.out.call hb); clear hb HR1 HM0)
   | ((with_reducible refine g_st 91 ?_); go_loud (refine wpList_stB (cs' := FracV.cells zeroF) rfl _ _ rfl HM3.out 0 rfl rfl rfl f01_size rfl (FracV.cells_len _) (FracV.cells_len _) (FracV.ones _) ?_); intro w6 h6))
  refine bodyPost_ret (results_box2 rfl _ rfl (h6.ldb f01_row (FracV.cells_len _) (i := 0) rfl _ (Below.refl _ _))) rfl ⟨?_, h6.from_⟩
  rw [HP.out]
  unfold divL
  rw [HE.out]
  rfl
 | true =>
  rw [hrf] at HR1
  cases hrg : g.right with
  | false =>
   rw [hrg] at HR2
   have HE := Lib.hid (And.intro hrf hrg)
   clear hrf hrg
   go_enter Try.func119, Try.ntmps119
   go_wp2_with (first
    | ((with_reducible refine g_ld 91 ?_); refine wpList_ld rfl _ _ rfl _ rfl _ (HM0.out.ldb f01_row (FracV.cells_len _) (i := 2) rfl _ (Below.refl _ _)) ?_)
    | (go_at_call 78; refine (HR1.out _).mono ?_; rintro e w3 ⟨rfl, hb⟩; have HM3 := Lib.hid (HM0.out.call hb); clear hb HR1 HM0)
    | ((with_reducible refine g_ld 91 ?_); refine wpList_ldw rfl _ _ rfl _ rfl _ (HM3.out.ldb f01_row (FracV.cells_len _) (i := 1) rfl _ (Below.refl _ _)) ?_)
    | (go_at_call 78; go_loud (refine (HR2.out _).mono ?_); rintro e w4 ⟨rfl, hb⟩; have HM4 := Lib.hid (HM3.out.call hb); clear hb HR2 HM3)
    | ((with_reducible refine g_st 91 ?_); go_loud (refine wpList_stB (cs' := FracV.cells zeroF) rfl _ _ rfl HM4.out 0 rfl rfl rfl f01_size rfl (FracV.cells_len _) (FracV.cells_len _) (FracV.ones _) ?_); intro w6 h6))
   refine bodyPost_ret (results_box2 rfl _ rfl (h6.ldb f01_row (FracV.cells_len _) (i := 0) rfl _ (Below.refl _ _))) rfl ⟨?_, h6.from_⟩
   rw [HP.out]
   unfold divL
   rw [HE.out.1, HE.out.2]
   rfl
  | true =>
   rw [hrg] at HR2
   have HDG := Lib.hid (ref_digits g.num hg.1)
   obtain ⟨n1, hn1⟩ : ∃ n1, n1 = (dig B16 g.num).length := ⟨_, rfl⟩
   have HN := Lib.hid hn1
   by_cases hg0 : g.num = 0
   · have hz : n1 = 0 := by rw [hn1]; exact len16_zero.2 hg0
     have HE := Lib.hid (And.intro hrf (And.intro hrg hg0))
     clear hrf hrg hg0 hn1
     subst hz
     go_enter Try.func119, Try.ntmps119
     go_wp2_with (first
      | ((with_reducible refine g_ld 91 ?_); refine wpList_ld rfl _ _ rfl _ rfl _ (HM0.out.ldb f01_row (FracV.cells_len _) (i := 2) rfl _ (Below.refl _ _)) ?_)
      | (go_at_call 78; refine (HR1.out _).mono ?_; rintro e w3 ⟨rfl, hb⟩; have HM3 := Lib.hid (HM0.out.call hb); clear hb HR1 HM0)
      | ((with_reducible refine g_ld 91 ?_); refine wpList_ldw rfl _ _ rfl _ rfl _ (HM3.out.ldb f01_row (FracV.cells_len _) (i := 1) rfl _ (Below.refl _ _)) ?_)
      | (go_at_call 78; go_loud (refine (HR2.out _).mono ?_); rintro e w4 ⟨rfl, hb⟩; have HM4 := Lib.hid (HM3.out.call hb); clear hb HR2 HM3)
      | ((with_reducible refine g_ld 35 ?_); go_loud (refine wpList_ldw rfl _ _ rfl _ rfl _ (HM4.out.ldp u8_row (by rw [u8s_len, pad_len]) (i := 1) rfl (cells_num g) _ (Below.refl _ _)) ?_))
      | (go_at_call 106; go_loud (refine (HDG.out _).mono ?_); rintro e w5 ⟨z, rfl, hb, A, c, rfl, _, _⟩; rw [← HN.out]; have HM5 := Lib.hid (HM4.out.call hb); clear hb HM4)
      | ((with_reducible refine g_st 91 ?_); go_loud (refine wpList_stB (cs' := FracV.cells zeroF) rfl _ _ rfl HM5.out 0 rfl rfl rfl f01_size rfl (FracV.cells_len _) (FracV.cells_len _) (FracV.ones _) ?_); intro w6 h6))
     refine bodyPost_ret (results_box2 rfl _ rfl (h6.ldb f01_row (FracV.cells_len _) (i := 0) rfl _ (Below.refl _ _))) rfl ⟨?_, h6.from_⟩
     rw [HP.out]
     unfold divL
     rw [HE.out.1, HE.out.2.1, HE.out.2.2]
     rfl
   · have hz : n1 ≠ 0 := by rw [hn1]; exact fun h => hg0 (len16_zero.1 h)
     have hz2 : ((n1 : Int) == 0) = false := by simp; omega
     clear hn1
     have HPS : Hid (p = fitL (f.neg != g.neg) (f.num * g.den) (f.den * g.num)) := by unfold Hid; rw [HP.out]; unfold divL; rw [hrf, hrg, decide_eq_true hg0]; rfl
     have hgd : g.den ≠ 0 := by intro h; unfold FracV.right at hrg; rw [h] at hrg; simp at hrg
     have hfd : f.den ≠ 0 := by intro h; unfold FracV.right at hrf; rw [h] at hrf; simp at hrf
     have HD0 : Hid (0 < f.den * g.num) := Nat.mul_pos (Nat.pos_of_ne_zero hfd) (Nat.pos_of_ne_zero hg0)
     have HLX : Hid (len16 (f.num * g.den) ≤ 32) := mul_len hf.1 hg.2
     have HLY : Hid (len16 (f.den * g.num) ≤ 32) := mul_len hf.2 hg.1
     have HL := Lib.hid (And.intro (And.intro ((top16 _).1 hf.1) ((top16 _).1 hf.2)) (And.intro ((top16 _).1 hg.1) ((top16 _).1 hg.2)))
     have HD1 := Lib.hid (ref_digits f.num hf.1)
     have HD2 := Lib.hid (ref_digits f.den hf.2)
     have HD3 := Lib.hid (ref_digits g.num hg.1)
     have HD4 := Lib.hid (ref_digits g.den hg.2)
     clear hgd hfd hrf hrg hf hg HP hg0
     go_enter Try.func119, Try.ntmps119
     go_wp2_with (first
      | ((with_reducible refine g_ld 91 ?_); refine wpList_ld rfl _ _ rfl _ rfl _ (HM0.out.ldb f01_row (FracV.cells_len _) (i := 2) rfl _ (Below.refl _ _)) ?_)
      | (go_at_call 78; refine (HR1.out _).mono ?_; rintro e w3 ⟨rfl, hb⟩; have HM3 := Lib.hid (HM0.out.call hb); clear hb HR1 HM0)
      | ((with_reducible refine g_ld 91 ?_); refine wpList_ldw rfl _ _ rfl _ rfl _ (HM3.out.ldb f01_row (FracV.cells_len _) (i := 1) rfl _ (Below.refl _ _)) ?_)
      | (go_at_call 78; go_loud (refine (HR2.out _).mono ?_); rintro e w4 ⟨rfl, hb⟩; have HM4 := Lib.hid (HM3.out.call hb); clear hb HR2 HM3)
      | ((with_reducible refine g_ld 35 ?_); go_loud (refine wpList_ldw rfl _ _ rfl _ rfl _ (HM4.out.ldp u8_row (by rw [u8s_len, pad_len]) (i := 1) rfl (cells_num g) _ (Below.refl _ _)) ?_))
      | (go_at_call 106; go_loud (refine (HDG.out _).mono ?_); rintro e w5 ⟨z, rfl, hb, A, c, rfl, _, _⟩; rw [← HN.out]; have HM5 := Lib.hid (HM4.out.call hb); clear hb HM4)
      | fail)
     have HLFB := Lib.hid (HM5.out.ldc ct4 (i := 2) (j := 0) (v := .bool f.neg) rfl rfl)
     have HLGB := Lib.hid (HM5.out.ldc ct4 (i := 1) (j := 0) (v := .bool g.neg) rfl rfl)
     have HLFN := Lib.hid (HM5.out.ldp u8_row (by rw [u8s_len, pad_len]) (i := 2) rfl (cells_num f))
     have HLFD := Lib.hid (HM5.out.ldp u8_row (by rw [u8s_len, pad_len]) (i := 2) rfl (cells_den f))
     have HLGN := Lib.hid (HM5.out.ldp u8_row (by rw [u8s_len, pad_len]) (i := 1) rfl (cells_num g))
     have HLGD := Lib.hid (HM5.out.ldp u8_row (by rw [u8s_len, pad_len]) (i := 1) rfl (cells_den g))
     refine wp_region_run 22 [.val (Value.pointer (some ⟨w.heap.size, 0, none⟩)), .val (Value.bool f.neg), .val (Value.pointer (some ⟨w.heap.size + 1, 0, none⟩)), .val (Value.bool g.neg), .val (Value.bool (f.neg != g.neg)), .val (Value.pointer (some ⟨w.heap.size, 1, none⟩)), .val (Value.agg (u8s (pad B32 8 f.num)).toArray), .new (Reads (dig B16 f.num)), .val (Value.pointer (some ⟨w.heap.size + 1, 9, none⟩)), .val (Value.agg (u8s (pad B32 8 g.den)).toArray), .new (Reads (dig B16 g.den)), .dep (Reads (dig B16 (f.num * g.den))), .val (Value.pointer (some ⟨w.heap.size, 9, none⟩)), .val (Value.agg (u8s (pad B32 8 f.den)).toArray), .new (Reads (dig B16 f.den)), .val (Value.pointer (some ⟨w.heap.size + 1, 1, none⟩)), .val (Value.agg (u8s (pad B32 8 g.num)).toArray), .new (Reads (dig B16 g.num)), .dep (Reads (dig B16 (f.den * g.num))), .dep (IsV (.tuple #[(fitL (f.neg != g.neg) (f.num * g.den) (f.den * g.num)).1.val, .int .i64 (fitL (f.neg != g.neg) (f.num * g.den) (f.den * g.num)).2])), .dep (IsV (fitL (f.neg != g.neg) (f.num * g.den) (f.den * g.num)).1.val), .dep (IsV (.int .i64 (fitL (f.neg != g.neg) (f.num * g.den) (f.den * g.num)).2))] (by kernel_rfl) (by kernel_rfl) (Nat.le_of_ble_eq_true (by kernel_rfl)) (by kernel_rfl) (by kernel_rfl) ?_ ?_ ?_
     · exact ⟨Reads.stays, Reads.stays, Reads.stays, Reads.stays, Reads.stays, Reads.stays, IsV.stays, IsV.stays, IsV.stays, trivial⟩
     · exact ⟨(fun _ _ => ok_field (k := 0) rfl fl91_0 rfl), (fun w hb => ok_load rfl ((HLFB.out) w hb)), (fun _ _ => ok_field (k := 0) rfl fl91_0 rfl), (fun w hb => ok_load rfl ((HLGB.out) w hb)), (fun _ _ => ok_neqb rfl rfl rfl), (fun _ _ => ok_field (k := 1) rfl fl91_1 rfl), (fun w hb => ok_load rfl ((HLFN.out) w hb)), (fun w hb => .inr (ok_call rfl rfl (cf_digits _ _) (HD1.out w))), (fun _ _ => ok_field (k := 9) rfl fl91_2 rfl), (fun w hb => ok_load rfl ((HLGD.out) w hb)), (fun w hb => .inr (ok_call rfl rfl (cf_digits _ _) (HD4.out w))), (fun ρ w hb h => .inr (ok_call (h (.func 122) (by simp [Op.operands, Call.operands])) rfl (cf_mul01 _ _) (calls_mul (h (.tmp 29) (by simp [Op.operands, Call.operands])) (h (.tmp 32) (by simp [Op.operands, Call.operands])) (by have := HL.out; omega) (by have := HL.out; omega)))), (fun _ _ => ok_field (k := 9) rfl fl91_2 rfl), (fun w hb => ok_load rfl ((HLFD.out) w hb)), (fun w hb => .inr (ok_call rfl rfl (cf_digits _ _) (HD2.out w))), (fun _ _ => ok_field (k := 1) rfl fl91_1 rfl), (fun w hb => ok_load rfl ((HLGN.out) w hb)), (fun w hb => .inr (ok_call rfl rfl (cf_digits _ _) (HD3.out w))), (fun ρ w hb h => .inr (ok_call (h (.func 122) (by simp [Op.operands, Call.operands])) rfl (cf_mul01 _ _) (calls_mul (h (.tmp 36) (by simp [Op.operands, Call.operands])) (h (.tmp 39) (by simp [Op.operands, Call.operands])) (by have := HL.out; omega) (by have := HL.out; omega)))), (fun ρ w hb h => .inr (ok_call (h (.func 123) (by simp [Op.operands, Call.operands])) rfl (cf_make0 _ _) (calls_make0F (h (.tmp 26) (by simp [Op.operands, Call.operands])) (h (.tmp 33) (by simp [Op.operands, Call.operands])) (h (.tmp 40) (by simp [Op.operands, Call.operands])) (Nat.le_trans HLX.out (by decide)) (Nat.le_trans HLY.out (by decide)) HD0.out))), (fun ρ w hb h => dep_extract (h (.tmp 41) (by simp [Op.operands])) rfl), (fun ρ w hb h => dep_extract (h (.tmp 41) (by simp [Op.operands])) rfl), trivial⟩
     intro w9 hb9
     simp only [contS, List.take_succ_cons, List.take_zero, List.drop_succ_cons, List.drop_zero]
     intro u29 hu29 u32 hu32 u33 hu33 u36 hu36 u39 hu39 u40 hu40 u41 hu41 u42 hu42 u43 hu43
     simp only [Act.put, List.setIfInBounds_toArray, List.set_cons_succ, List.set_cons_zero]
     clear hu29 hu32 hu33 hu36 hu39 hu40
     obtain rfl : u41 = _ := hu41
     obtain rfl : u42 = _ := hu42
     obtain rfl : u43 = _ := hu43
     have HM9 := Lib.hid (HM5.out.call hb9)
     clear hb9
     go_wp2_with ((with_reducible refine g_st 91 ?_); go_loud (refine wpList_stB (cs' := FracV.cells _) rfl _ _ rfl HM9.out 0 rfl rfl rfl f01_size rfl (FracV.cells_len _) (FracV.cells_len _) (FracV.ones _) ?_); intro w6 h6)
     refine bodyPost_ret (results_box2 rfl _ rfl (h6.ldb f01_row (FracV.cells_len _) (i := 0) rfl _ (Below.refl _ _))) rfl ⟨?_, h6.from_⟩
     rw [HPS.out]
     rfl
end Go.Proofs.Ytcdfnlgimbecgaa
