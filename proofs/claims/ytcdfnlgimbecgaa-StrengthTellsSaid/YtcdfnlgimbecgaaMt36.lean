/-
  twistlockref01: Add, Sub.
-/
import Derived.Test.YtcdfnlgimbecgaaMt35
namespace Go.Proofs.Ytcdfnlgimbecgaa
open Go.RowKit
theorem len16_add {x y k : Nat} (hx : len16 x ≤ k) (hy : len16 y ≤ k) : len16 (x + y) ≤ k + 1 := by
 refine dig_len_le hB16 ?_
 have h1 := lt_of_dig_len hB16 hx
 have h2 := lt_of_dig_len hB16 hy
 have e : B16 = 65536 := rfl
 rw [Nat.pow_succ]
 generalize B16 ^ k = P at *
 rw [e]
 omega
theorem mul_len {x y : Nat} (hx : x < top256) (hy : y < top256) : len16 (x * y) ≤ 32 := Nat.le_trans (len16_mul x y) (by have := (top16 x).1 hx; have := (top16 y).1 hy; omega)
theorem boxes01 (f g : FracV) (w : World) : Mem w (((w.alloc (.cells f.cells.toArray 91)).alloc (.cells g.cells.toArray 91)).alloc (.cells zeroF.cells.toArray 91)) [.box (w.heap.size + 1 + 1) 91 zeroF.cells, .box (w.heap.size + 1) 91 g.cells, .box w.heap.size 91 f.cells] := by
 have h := (((Mem.nil w).alloc 91 f.cells).alloc 91 g.cells).alloc 91 zeroF.cells
 have e : (w.alloc (.cells f.cells.toArray 91)).heap.size = w.heap.size + 1 := by simp
 have e2 : ((w.alloc (.cells f.cells.toArray 91)).alloc (.cells g.cells.toArray 91)).heap.size = w.heap.size + 1 + 1 := by simp
 rw [e2, e] at h
 exact h
set_option maxRecDepth 100000 in
set_option maxHeartbeats 1000000 in
theorem ref_Add (f g : FracV) (hf : f.fits) (hg : g.fits) (w : World) : Calls Try.prog 104 #[f.val, g.val] w (FitPost w (addL f g)) := by
 have HM0 := Lib.hid (boxes01 f g w)
 have HR1 := Lib.hid (ref_Right f hf)
 have HR2 := Lib.hid (ref_Right g hg)
 obtain ⟨p, hp⟩ : ∃ p, p = addL f g := ⟨_, rfl⟩
 rw [← hp]
 have HP := Lib.hid hp
 clear hp
 unfold FracV.val at *
 cases hrf : f.right with
 | false =>
  rw [hrf] at HR1
  have HE := Lib.hid hrf
  clear hrf
  go_enter Try.func104, Try.ntmps104
  go_wp2_with (first
   | ((with_reducible refine g_ld 91 ?_); refine wpList_ld rfl _ _ rfl _ rfl _ (HM0.out.ldb f01_row (FracV.cells_len _) (i := 2) rfl _ (Below.refl _ _)) ?_)
   | (go_at_call 78; go_loud (refine (HR1.out _).mono ?_); rintro e w3 ⟨rfl, hb⟩; have HM3 := Lib.hid (HM0.out.call hb); clear hb HR1 HM0)
   | ((with_reducible refine g_st 91 ?_); go_loud (refine wpList_stB (cs' := FracV.cells zeroF) rfl _ _ rfl HM3.out 0 rfl rfl rfl f01_size rfl (FracV.cells_len _) (FracV.cells_len _) (FracV.ones _) ?_); intro w6 h6))
  refine bodyPost_ret (results_box2 rfl _ rfl (h6.ldb f01_row (FracV.cells_len _) (i := 0) rfl _ (Below.refl _ _))) rfl ⟨?_, h6.from_⟩
  rw [HP.out]
  unfold addL
  rw [HE.out]
  rfl
 | true =>
  rw [hrf] at HR1
  cases hrg : g.right with
  | false =>
   rw [hrg] at HR2
   have HE := Lib.hid (And.intro hrf hrg)
   clear hrf hrg
   go_enter Try.func104, Try.ntmps104
   go_wp2_with (first
    | ((with_reducible refine g_ld 91 ?_); refine wpList_ld rfl _ _ rfl _ rfl _ (HM0.out.ldb f01_row (FracV.cells_len _) (i := 2) rfl _ (Below.refl _ _)) ?_)
    | (go_at_call 78; refine (HR1.out _).mono ?_; rintro e w3 ⟨rfl, hb⟩; have HM3 := Lib.hid (HM0.out.call hb); clear hb HR1 HM0)
    | ((with_reducible refine g_ld 91 ?_); refine wpList_ldw rfl _ _ rfl _ rfl _ (HM3.out.ldb f01_row (FracV.cells_len _) (i := 1) rfl _ (Below.refl _ _)) ?_)
    | (go_at_call 78; go_loud (refine (HR2.out _).mono ?_); rintro e w4 ⟨rfl, hb⟩; have HM4 := Lib.hid (HM3.out.call hb); clear hb HR2 HM3)
    | ((with_reducible refine g_st 91 ?_); go_loud (refine wpList_stB (cs' := FracV.cells zeroF) rfl _ _ rfl HM4.out 0 rfl rfl rfl f01_size rfl (FracV.cells_len _) (FracV.cells_len _) (FracV.ones _) ?_); intro w6 h6))
   refine bodyPost_ret (results_box2 rfl _ rfl (h6.ldb f01_row (FracV.cells_len _) (i := 0) rfl _ (Below.refl _ _))) rfl ⟨?_, h6.from_⟩
   rw [HP.out]
   unfold addL
   rw [HE.out.1, HE.out.2]
   rfl
  | true =>
   rw [hrg] at HR2
   have HPS : Hid (p = sumL f g) := by unfold Hid; rw [HP.out]; unfold addL; rw [hrf, hrg]; rfl
   have hgd : g.den ≠ 0 := by intro h; unfold FracV.right at hrg; rw [h] at hrg; simp at hrg
   have hfd : f.den ≠ 0 := by intro h; unfold FracV.right at hrf; rw [h] at hrf; simp at hrf
   have HD0 : Hid (0 < f.den * g.den) := Nat.mul_pos (Nat.pos_of_ne_zero hfd) (Nat.pos_of_ne_zero hgd)
   have HLX : Hid (len16 (f.num * g.den) ≤ 32) := mul_len hf.1 hg.2
   have HLY : Hid (len16 (g.num * f.den) ≤ 32) := mul_len hg.1 hf.2
   have HLZ : Hid (len16 (f.den * g.den) ≤ 400) := Nat.le_trans (mul_len hf.2 hg.2) (by decide)
   have HL := Lib.hid (And.intro (And.intro ((top16 _).1 hf.1) ((top16 _).1 hf.2)) (And.intro ((top16 _).1 hg.1) ((top16 _).1 hg.2)))
   have HD1 := Lib.hid (ref_digits f.num hf.1)
   have HD2 := Lib.hid (ref_digits f.den hf.2)
   have HD3 := Lib.hid (ref_digits g.num hg.1)
   have HD4 := Lib.hid (ref_digits g.den hg.2)
   clear hgd hfd hrf hrg hf hg HP
   go_enter Try.func104, Try.ntmps104
   go_wp2_with (first
    | ((with_reducible refine g_ld 91 ?_); refine wpList_ld rfl _ _ rfl _ rfl _ (HM0.out.ldb f01_row (FracV.cells_len _) (i := 2) rfl _ (Below.refl _ _)) ?_)
    | (go_at_call 78; refine (HR1.out _).mono ?_; rintro e w3 ⟨rfl, hb⟩; have HM3 := Lib.hid (HM0.out.call hb); clear hb HR1 HM0)
    | ((with_reducible refine g_ld 91 ?_); refine wpList_ldw rfl _ _ rfl _ rfl _ (HM3.out.ldb f01_row (FracV.cells_len _) (i := 1) rfl _ (Below.refl _ _)) ?_)
    | (go_at_call 78; go_loud (refine (HR2.out _).mono ?_); rintro e w4 ⟨rfl, hb⟩; have HM4 := Lib.hid (HM3.out.call hb); clear hb HR2 HM3)
    | fail)
   have HLFN := Lib.hid (HM4.out.ldp u8_row (by rw [u8s_len, pad_len]) (i := 2) rfl (cells_num f))
   have HLFD := Lib.hid (HM4.out.ldp u8_row (by rw [u8s_len, pad_len]) (i := 2) rfl (cells_den f))
   have HLGN := Lib.hid (HM4.out.ldp u8_row (by rw [u8s_len, pad_len]) (i := 1) rfl (cells_num g))
   have HLGD := Lib.hid (HM4.out.ldp u8_row (by rw [u8s_len, pad_len]) (i := 1) rfl (cells_den g))
   refine wp_region_run 12 [.val (Value.pointer (some ⟨w.heap.size, 1, none⟩)), .val (Value.agg (u8s (pad B32 8 f.num)).toArray), .new (Reads (dig B16 f.num)), .val (Value.pointer (some ⟨w.heap.size, 9, none⟩)), .val (Value.agg (u8s (pad B32 8 f.den)).toArray), .new (Reads (dig B16 f.den)), .val (Value.pointer (some ⟨w.heap.size + 1, 1, none⟩)), .val (Value.agg (u8s (pad B32 8 g.num)).toArray), .new (Reads (dig B16 g.num)), .val (Value.pointer (some ⟨w.heap.size + 1, 9, none⟩)), .val (Value.agg (u8s (pad B32 8 g.den)).toArray), .new (Reads (dig B16 g.den))] (by kernel_rfl) (by kernel_rfl) (Nat.le_of_ble_eq_true (by kernel_rfl)) (by kernel_rfl) (by kernel_rfl) ?_ ?_ ?_
   · exact ⟨Reads.stays, Reads.stays, Reads.stays, Reads.stays, trivial⟩
   · exact ⟨(fun _ _ => ok_field (k := 1) rfl fl91_1 rfl), (fun w hb => ok_load rfl ((HLFN.out) w hb)), (fun w hb => .inr (ok_call rfl rfl (cf_digits _ _) (HD1.out w))), (fun _ _ => ok_field (k := 9) rfl fl91_2 rfl), (fun w hb => ok_load rfl ((HLFD.out) w hb)), (fun w hb => .inr (ok_call rfl rfl (cf_digits _ _) (HD2.out w))), (fun _ _ => ok_field (k := 1) rfl fl91_1 rfl), (fun w hb => ok_load rfl ((HLGN.out) w hb)), (fun w hb => .inr (ok_call rfl rfl (cf_digits _ _) (HD3.out w))), (fun _ _ => ok_field (k := 9) rfl fl91_2 rfl), (fun w hb => ok_load rfl ((HLGD.out) w hb)), (fun w hb => .inr (ok_call rfl rfl (cf_digits _ _) (HD4.out w))), trivial⟩
   intro w5 hb5
   simp only [contS, List.take_succ_cons, List.take_zero, List.drop_succ_cons, List.drop_zero]
   intro u24 hu24 u27 hu27 u30 hu30 u33 hu33
   simp only [Act.put, List.setIfInBounds_toArray, List.set_cons_succ, List.set_cons_zero]
   have HM5 := Lib.hid (HM4.out.call hb5)
   have HA := Lib.hid hu24
   have HB := Lib.hid hu27
   have HC := Lib.hid hu30
   have HD := Lib.hid hu33
   clear hb5 hu24 hu27 hu30 hu33 HM4 HLFN HLFD HLGN HLGD HD1 HD2 HD3 HD4
   by_cases hbb : f.neg = g.neg
   · have hbe : (f.neg == g.neg) = true := by rw [hbb]; simp
     have HBB := Lib.hid hbb
     clear hbb
     go_wp2_with (first
      | (go_at_call 122; refine (calls_mul HA.out HD.out (by have := HL.out; omega) (by have := HL.out; omega)).mono ?_; rintro e w6 ⟨x, rfl, hb, hx⟩; have C6 := Lib.hid hb; have HX6 := Lib.hid hx; clear hb hx HA)
      | (go_at_call 122; refine (calls_mul (Reads.stays _ _ _ HC.out C6.out) (Reads.stays _ _ _ HB.out C6.out) (by have := HL.out; omega) (by have := HL.out; omega)).mono ?_; rintro e w7 ⟨y, rfl, hb, hy⟩; have C7 := Lib.hid (C6.out.trans (hb.mono C6.out.size)); have HX7 := Lib.hid (Reads.stays _ _ _ HX6.out hb); have HY7 := Lib.hid hy; clear hb hy HC HX6)
      | (go_at_call 122; go_loud (refine (calls_mul (Reads.stays _ _ _ HB.out C7.out) (Reads.stays _ _ _ HD.out C7.out) (by have := HL.out; omega) (by have := HL.out; omega)).mono ?_); rintro e w8 ⟨z, rfl, hb, hz⟩; have HM8 := Lib.hid (HM5.out.call (C7.out.trans (hb.mono C7.out.size))); have HX8 := Lib.hid (Reads.stays _ _ _ HX7.out hb); have HY8 := Lib.hid (Reads.stays _ _ _ HY7.out hb); have HZ8 := Lib.hid hz; clear hb hz HX7 HY7 HM5 HB HD C6 C7)
      | ((with_reducible refine g_ld 4 ?_); refine wpList_ld rfl _ _ rfl _ rfl _ (HM8.out.ldc ct4 (i := 2) (j := 0) (v := .bool f.neg) rfl rfl _ (Below.refl _ _)) ?_)
      | ((with_reducible refine g_ld 4 ?_); go_loud (refine wpList_ld rfl _ _ rfl _ rfl _ (HM8.out.ldc ct4 (i := 1) (j := 0) (v := .bool g.neg) rfl rfl _ (Below.refl _ _)) ?_))
      | fail)
     have HLB := Lib.hid (HM8.out.ldc ct4 (i := 2) (j := 0) (v := .bool f.neg) rfl rfl)
     refine wp_region_run 9 [.val (Value.pointer (some ⟨w.heap.size, 0, none⟩)), .val (Value.bool f.neg), .val (x), .val (y), .new (Reads (dig B16 (f.num * g.den + g.num * f.den))), .val (z), .dep (IsV (.tuple #[(fitL f.neg (f.num * g.den + g.num * f.den) (f.den * g.den)).1.val, .int .i64 (fitL f.neg (f.num * g.den + g.num * f.den) (f.den * g.den)).2])), .dep (IsV (fitL f.neg (f.num * g.den + g.num * f.den) (f.den * g.den)).1.val), .dep (IsV (.int .i64 (fitL f.neg (f.num * g.den + g.num * f.den) (f.den * g.den)).2))] (by kernel_rfl) (by kernel_rfl) (Nat.le_of_ble_eq_true (by kernel_rfl)) (by kernel_rfl) (by kernel_rfl) ?_ ?_ ?_
     · exact ⟨Reads.stays, IsV.stays, IsV.stays, IsV.stays, trivial⟩
     · exact ⟨(fun _ _ => ok_field (k := 0) rfl fl91_0 rfl), (fun w hb => ok_load rfl ((HLB.out) w hb)), (fun _ _ => ok_move rfl), (fun _ _ => ok_move rfl), (fun w hb => .inr (ok_call rfl rfl (cf_add _ _) (calls_add (Reads.stays _ _ _ HX8.out hb) (Reads.stays _ _ _ HY8.out hb) (Nat.le_trans HLX.out (by decide)) (Nat.le_trans HLY.out (by decide))))), (fun _ _ => ok_move rfl), (fun ρ w hb h => .inr (ok_call (h (.func 123) (by simp [Op.operands, Call.operands])) rfl (cf_make0 _ _) (calls_make0F (h (.tmp 49) (by simp [Op.operands, Call.operands])) (h (.tmp 52) (by simp [Op.operands, Call.operands])) ((Reads.stays _ _ _ HZ8.out hb).at (h (.tmp 53) (by simp [Op.operands, Call.operands]))) (Nat.le_trans (len16_add HLX.out HLY.out) (by decide)) HLZ.out HD0.out))), (fun ρ w hb h => dep_extract (h (.tmp 54) (by simp [Op.operands])) rfl), (fun ρ w hb h => dep_extract (h (.tmp 54) (by simp [Op.operands])) rfl), trivial⟩
     intro w9 hb9
     simp only [contS, List.take_succ_cons, List.take_zero, List.drop_succ_cons, List.drop_zero]
     intro u52 hu52 u54 hu54 u55 hu55 u56 hu56
     simp only [Act.put, List.setIfInBounds_toArray, List.set_cons_succ, List.set_cons_zero]
     clear hu52
     obtain rfl : u54 = _ := hu54
     obtain rfl : u55 = _ := hu55
     obtain rfl : u56 = _ := hu56
     have HM9 := Lib.hid (HM8.out.call hb9)
     clear hb9
     go_wp2_with ((with_reducible refine g_st 91 ?_); go_loud (refine wpList_stB (cs' := FracV.cells _) rfl _ _ rfl HM9.out 0 rfl rfl rfl f01_size rfl (FracV.cells_len _) (FracV.cells_len _) (FracV.ones _) ?_); intro w6 h6)
     refine bodyPost_ret (results_box2 rfl _ rfl (h6.ldb f01_row (FracV.cells_len _) (i := 0) rfl _ (Below.refl _ _))) rfl ⟨?_, h6.from_⟩
     rw [HPS.out]
     unfold sumL
     rw [if_pos HBB.out]
     rfl
   · have hbe : (f.neg == g.neg) = false := by simpa using hbb
     have HBB := Lib.hid hbb
     clear hbb
     by_cases hxy : f.num * g.den < g.num * f.den
     · have HXY := Lib.hid hxy
       have HT : Hid (decide (f.num * g.den < g.num * f.den) = true) := decide_eq_true hxy
       clear hxy
       go_wp2_with (first
        | (go_at_call 122; refine (calls_mul HA.out HD.out (by have := HL.out; omega) (by have := HL.out; omega)).mono ?_; rintro e w6 ⟨x, rfl, hb, hx⟩; have C6 := Lib.hid hb; have HX6 := Lib.hid hx; clear hb hx HA)
        | (go_at_call 122; refine (calls_mul (Reads.stays _ _ _ HC.out C6.out) (Reads.stays _ _ _ HB.out C6.out) (by have := HL.out; omega) (by have := HL.out; omega)).mono ?_; rintro e w7 ⟨y, rfl, hb, hy⟩; have C7 := Lib.hid (C6.out.trans (hb.mono C6.out.size)); have HX7 := Lib.hid (Reads.stays _ _ _ HX6.out hb); have HY7 := Lib.hid hy; clear hb hy HC HX6)
        | (go_at_call 122; go_loud (refine (calls_mul (Reads.stays _ _ _ HB.out C7.out) (Reads.stays _ _ _ HD.out C7.out) (by have := HL.out; omega) (by have := HL.out; omega)).mono ?_); rintro e w8 ⟨z, rfl, hb, hz⟩; have HM8 := Lib.hid (HM5.out.call (C7.out.trans (hb.mono C7.out.size))); have HX8 := Lib.hid (Reads.stays _ _ _ HX7.out hb); have HY8 := Lib.hid (Reads.stays _ _ _ HY7.out hb); have HZ8 := Lib.hid hz; clear hb hz HX7 HY7 HM5 HB HD C6 C7)
        | ((with_reducible refine g_ld 4 ?_); refine wpList_ld rfl _ _ rfl _ rfl _ (HM8.out.ldc ct4 (i := 2) (j := 0) (v := .bool f.neg) rfl rfl _ (Below.refl _ _)) ?_)
        | ((with_reducible refine g_ld 4 ?_); go_loud (refine wpList_ld rfl _ _ rfl _ rfl _ (HM8.out.ldc ct4 (i := 1) (j := 0) (v := .bool g.neg) rfl rfl _ (Below.refl _ _)) ?_))
        | (go_at_call 125; go_loud (refine (calls_less HX8.out HY8.out (Nat.le_trans HLX.out (by decide)) (Nat.le_trans HLY.out (by decide))).mono ?_); rintro e w9 ⟨rfl, hb⟩; rw [HT.out]; have HMa := Lib.hid (HM8.out.call hb); have HXa := Lib.hid (Reads.stays _ _ _ HX8.out hb); have HYa := Lib.hid (Reads.stays _ _ _ HY8.out hb); have HZa := Lib.hid (Reads.stays _ _ _ HZ8.out hb); clear hb HM8 HX8 HY8 HZ8))
       have HLB := Lib.hid (HMa.out.ldc ct4 (i := 1) (j := 0) (v := .bool g.neg) rfl rfl)
       refine wp_region_run 9 [.val (Value.pointer (some ⟨w.heap.size + 1, 0, none⟩)), .val (Value.bool g.neg), .val (y), .val (x), .new (Reads (dig B16 (g.num * f.den - f.num * g.den))), .val (z), .dep (IsV (.tuple #[(fitL g.neg (g.num * f.den - f.num * g.den) (f.den * g.den)).1.val, .int .i64 (fitL g.neg (g.num * f.den - f.num * g.den) (f.den * g.den)).2])), .dep (IsV (fitL g.neg (g.num * f.den - f.num * g.den) (f.den * g.den)).1.val), .dep (IsV (.int .i64 (fitL g.neg (g.num * f.den - f.num * g.den) (f.den * g.den)).2))] (by kernel_rfl) (by kernel_rfl) (Nat.le_of_ble_eq_true (by kernel_rfl)) (by kernel_rfl) (by kernel_rfl) ?_ ?_ ?_
       · exact ⟨Reads.stays, IsV.stays, IsV.stays, IsV.stays, trivial⟩
       · exact ⟨(fun _ _ => ok_field (k := 0) rfl fl91_0 rfl), (fun w hb => ok_load rfl ((HLB.out) w hb)), (fun _ _ => ok_move rfl), (fun _ _ => ok_move rfl), (fun w hb => .inr (ok_call rfl rfl (cf_sub01 _ _) (calls_sub (Reads.stays _ _ _ HYa.out hb) (Reads.stays _ _ _ HXa.out hb) (Nat.le_trans HLY.out (by decide)) (Nat.le_of_lt HXY.out)))), (fun _ _ => ok_move rfl), (fun ρ w hb h => .inr (ok_call (h (.func 123) (by simp [Op.operands, Call.operands])) rfl (cf_make0 _ _) (calls_make0F (h (.tmp 61) (by simp [Op.operands, Call.operands])) (h (.tmp 64) (by simp [Op.operands, Call.operands])) ((Reads.stays _ _ _ HZa.out hb).at (h (.tmp 65) (by simp [Op.operands, Call.operands]))) (Nat.le_trans (Nat.le_trans (len16_mono (Nat.sub_le _ _)) HLY.out) (by decide)) HLZ.out HD0.out))), (fun ρ w hb h => dep_extract (h (.tmp 66) (by simp [Op.operands])) rfl), (fun ρ w hb h => dep_extract (h (.tmp 66) (by simp [Op.operands])) rfl), trivial⟩
       intro w9 hb9
       simp only [contS, List.take_succ_cons, List.take_zero, List.drop_succ_cons, List.drop_zero]
       intro u64 hu64 u66 hu66 u67 hu67 u68 hu68
       simp only [Act.put, List.setIfInBounds_toArray, List.set_cons_succ, List.set_cons_zero]
       clear hu64
       obtain rfl : u66 = _ := hu66
       obtain rfl : u67 = _ := hu67
       obtain rfl : u68 = _ := hu68
       have HM9 := Lib.hid (HMa.out.call hb9)
       clear hb9
       go_wp2_with ((with_reducible refine g_st 91 ?_); go_loud (refine wpList_stB (cs' := FracV.cells _) rfl _ _ rfl HM9.out 0 rfl rfl rfl f01_size rfl (FracV.cells_len _) (FracV.cells_len _) (FracV.ones _) ?_); intro w6 h6)
       refine bodyPost_ret (results_box2 rfl _ rfl (h6.ldb f01_row (FracV.cells_len _) (i := 0) rfl _ (Below.refl _ _))) rfl ⟨?_, h6.from_⟩
       rw [HPS.out]
       unfold sumL
       rw [if_neg HBB.out, if_pos HXY.out]
       rfl
     · have HXY := Lib.hid hxy
       have HT : Hid (decide (f.num * g.den < g.num * f.den) = false) := decide_eq_false hxy
       clear hxy
       go_wp2_with (first
        | (go_at_call 122; refine (calls_mul HA.out HD.out (by have := HL.out; omega) (by have := HL.out; omega)).mono ?_; rintro e w6 ⟨x, rfl, hb, hx⟩; have C6 := Lib.hid hb; have HX6 := Lib.hid hx; clear hb hx HA)
        | (go_at_call 122; refine (calls_mul (Reads.stays _ _ _ HC.out C6.out) (Reads.stays _ _ _ HB.out C6.out) (by have := HL.out; omega) (by have := HL.out; omega)).mono ?_; rintro e w7 ⟨y, rfl, hb, hy⟩; have C7 := Lib.hid (C6.out.trans (hb.mono C6.out.size)); have HX7 := Lib.hid (Reads.stays _ _ _ HX6.out hb); have HY7 := Lib.hid hy; clear hb hy HC HX6)
        | (go_at_call 122; go_loud (refine (calls_mul (Reads.stays _ _ _ HB.out C7.out) (Reads.stays _ _ _ HD.out C7.out) (by have := HL.out; omega) (by have := HL.out; omega)).mono ?_); rintro e w8 ⟨z, rfl, hb, hz⟩; have HM8 := Lib.hid (HM5.out.call (C7.out.trans (hb.mono C7.out.size))); have HX8 := Lib.hid (Reads.stays _ _ _ HX7.out hb); have HY8 := Lib.hid (Reads.stays _ _ _ HY7.out hb); have HZ8 := Lib.hid hz; clear hb hz HX7 HY7 HM5 HB HD C6 C7)
        | ((with_reducible refine g_ld 4 ?_); refine wpList_ld rfl _ _ rfl _ rfl _ (HM8.out.ldc ct4 (i := 2) (j := 0) (v := .bool f.neg) rfl rfl _ (Below.refl _ _)) ?_)
        | ((with_reducible refine g_ld 4 ?_); go_loud (refine wpList_ld rfl _ _ rfl _ rfl _ (HM8.out.ldc ct4 (i := 1) (j := 0) (v := .bool g.neg) rfl rfl _ (Below.refl _ _)) ?_))
        | (go_at_call 125; go_loud (refine (calls_less HX8.out HY8.out (Nat.le_trans HLX.out (by decide)) (Nat.le_trans HLY.out (by decide))).mono ?_); rintro e w9 ⟨rfl, hb⟩; rw [HT.out]; have HMa := Lib.hid (HM8.out.call hb); have HXa := Lib.hid (Reads.stays _ _ _ HX8.out hb); have HYa := Lib.hid (Reads.stays _ _ _ HY8.out hb); have HZa := Lib.hid (Reads.stays _ _ _ HZ8.out hb); clear hb HM8 HX8 HY8 HZ8))
       have HLB := Lib.hid (HMa.out.ldc ct4 (i := 2) (j := 0) (v := .bool f.neg) rfl rfl)
       refine wp_region_run 9 [.val (Value.pointer (some ⟨w.heap.size, 0, none⟩)), .val (Value.bool f.neg), .val (x), .val (y), .new (Reads (dig B16 (f.num * g.den - g.num * f.den))), .val (z), .dep (IsV (.tuple #[(fitL f.neg (f.num * g.den - g.num * f.den) (f.den * g.den)).1.val, .int .i64 (fitL f.neg (f.num * g.den - g.num * f.den) (f.den * g.den)).2])), .dep (IsV (fitL f.neg (f.num * g.den - g.num * f.den) (f.den * g.den)).1.val), .dep (IsV (.int .i64 (fitL f.neg (f.num * g.den - g.num * f.den) (f.den * g.den)).2))] (by kernel_rfl) (by kernel_rfl) (Nat.le_of_ble_eq_true (by kernel_rfl)) (by kernel_rfl) (by kernel_rfl) ?_ ?_ ?_
       · exact ⟨Reads.stays, IsV.stays, IsV.stays, IsV.stays, trivial⟩
       · exact ⟨(fun _ _ => ok_field (k := 0) rfl fl91_0 rfl), (fun w hb => ok_load rfl ((HLB.out) w hb)), (fun _ _ => ok_move rfl), (fun _ _ => ok_move rfl), (fun w hb => .inr (ok_call rfl rfl (cf_sub01 _ _) (calls_sub (Reads.stays _ _ _ HXa.out hb) (Reads.stays _ _ _ HYa.out hb) (Nat.le_trans HLX.out (by decide)) (Nat.le_of_not_lt HXY.out)))), (fun _ _ => ok_move rfl), (fun ρ w hb h => .inr (ok_call (h (.func 123) (by simp [Op.operands, Call.operands])) rfl (cf_make0 _ _) (calls_make0F (h (.tmp 70) (by simp [Op.operands, Call.operands])) (h (.tmp 73) (by simp [Op.operands, Call.operands])) ((Reads.stays _ _ _ HZa.out hb).at (h (.tmp 74) (by simp [Op.operands, Call.operands]))) (Nat.le_trans (Nat.le_trans (len16_mono (Nat.sub_le _ _)) HLX.out) (by decide)) HLZ.out HD0.out))), (fun ρ w hb h => dep_extract (h (.tmp 75) (by simp [Op.operands])) rfl), (fun ρ w hb h => dep_extract (h (.tmp 75) (by simp [Op.operands])) rfl), trivial⟩
       intro w9 hb9
       simp only [contS, List.take_succ_cons, List.take_zero, List.drop_succ_cons, List.drop_zero]
       intro u73 hu73 u75 hu75 u76 hu76 u77 hu77
       simp only [Act.put, List.setIfInBounds_toArray, List.set_cons_succ, List.set_cons_zero]
       clear hu73
       obtain rfl : u75 = _ := hu75
       obtain rfl : u76 = _ := hu76
       obtain rfl : u77 = _ := hu77
       have HM9 := Lib.hid (HMa.out.call hb9)
       clear hb9
       go_wp2_with ((with_reducible refine g_st 91 ?_); go_loud (refine wpList_stB (cs' := FracV.cells _) rfl _ _ rfl HM9.out 0 rfl rfl rfl f01_size rfl (FracV.cells_len _) (FracV.cells_len _) (FracV.ones _) ?_); intro w6 h6)
       refine bodyPost_ret (results_box2 rfl _ rfl (h6.ldb f01_row (FracV.cells_len _) (i := 0) rfl _ (Below.refl _ _))) rfl ⟨?_, h6.from_⟩
       rw [HPS.out]
       unfold sumL
       rw [if_neg HBB.out, if_neg HXY.out]
       rfl
theorem cf_Add01 (w : World) (args : Array Value) : (callFunc 104 args).run Try.prog w = .ok (.enter 104 args) w := by
 go_simp
theorem cf_Neg01 (w : World) (args : Array Value) : (callFunc 121 args).run Try.prog w = .ok (.enter 121 args) w := by
 go_simp
theorem add_neg01 (f g : FracV) : addL f (neg01 g) = subL f g := by
 unfold addL subL
 rw [neg01_right]
 by_cases h : (f.right && g.right) = true
 · rw [if_pos h, if_pos h, neg01_negL (by simp at h; exact h.2)]
 · rw [if_neg h, if_neg h]
set_option maxRecDepth 100000 in
set_option maxHeartbeats 1000000 in
theorem ref_Sub (f g : FracV) (hf : f.fits) (hg : g.fits) (w : World) : Calls Try.prog 103 #[f.val, g.val] w (FitPost w (subL f g)) := by
 have HM0 := Lib.hid (boxes01 f g w)
 have hr := fun w1 => ref_Add f (neg01 g) hf (neg01_fits hg) w1
 rw [add_neg01] at hr
 have HR := Lib.hid hr
 have HN := Lib.hid (ref_Neg g hg)
 obtain ⟨p, hp⟩ : ∃ p, p = subL f g := ⟨_, rfl⟩
 rw [← hp] at HR ⊢
 clear hp hr hf hg
 unfold FracV.val at *
 go_enter Try.func103, Try.ntmps103
 go_wp2
 have HLF := Lib.hid (HM0.out.ldb f01_row (FracV.cells_len _) (i := 2) rfl)
 have HLG := Lib.hid (HM0.out.ldb f01_row (FracV.cells_len _) (i := 1) rfl)
 have HR2 : Hid (∀ w1, Calls Try.prog 104 #[.agg f.cells.toArray, .agg (neg01 g).cells.toArray] w1 fun e w' => e = .returned (.tuple #[.agg p.1.cells.toArray, .int .i64 p.2]) ∧ From w1 w') := HR.out
 have HN2 : Hid (∀ w1, Calls Try.prog 121 #[.agg g.cells.toArray] w1 fun e w' => e = .returned (.agg (neg01 g).cells.toArray) ∧ From w1 w') := HN.out
 clear HR HN
 refine wp_region_run 6 [.val (Value.agg f.cells.toArray), .val (Value.agg g.cells.toArray), .call (Value.agg (neg01 g).cells.toArray), .call (Value.tuple #[Value.agg p.1.cells.toArray, Value.int .i64 p.2]), .val (Value.agg p.1.cells.toArray), .val (Value.int .i64 p.2)] (by kernel_rfl) (by kernel_rfl) (Nat.le_of_ble_eq_true (by kernel_rfl)) (by kernel_rfl) (by kernel_rfl) ?_ ?_ ?_
 · exact trivial
 · exact ⟨(fun w hb => ok_load rfl ((HLF.out) w hb)), (fun w hb => ok_load rfl ((HLG.out) w hb)), (fun w hb => ok_call rfl rfl (cf_Neg01 _ _) (HN2.out w)), (fun w hb => ok_call rfl rfl (cf_Add01 _ _) (HR2.out w)), (fun _ _ => ok_extract rfl rfl), (fun _ _ => ok_extract rfl rfl), trivial⟩
 intro w9 hb9
 simp only [contS, List.take_succ_cons, List.take_zero, List.drop_succ_cons, List.drop_zero]
 simp only [Act.put, List.setIfInBounds_toArray, List.set_cons_succ, List.set_cons_zero]
 have HM9 := Lib.hid (HM0.out.call hb9)
 clear hb9 HM0
 go_wp2_with ((with_reducible refine g_st 91 ?_); go_loud (refine wpList_stB (cs' := FracV.cells _) rfl _ _ rfl HM9.out 0 rfl rfl rfl f01_size rfl (FracV.cells_len _) (FracV.cells_len _) (FracV.ones _) ?_); intro w6 h6)
 refine bodyPost_ret (results_box2 rfl _ rfl (h6.ldb f01_row (FracV.cells_len _) (i := 0) rfl _ (Below.refl _ _))) rfl ⟨rfl, h6.from_⟩
end Go.Proofs.Ytcdfnlgimbecgaa
