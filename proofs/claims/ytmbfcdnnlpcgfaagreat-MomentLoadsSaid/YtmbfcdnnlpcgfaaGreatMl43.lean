/-
  twistlockref01: make0.
-/
import Derived.Test.YtmbfcdnnlpcgfaaGreatMl42
set_option linter.unusedVariables false
set_option linter.unusedSimpArgs false
namespace Go.Proofs.YtmbfcdnnlpcgfaaGreat
open Go.RowKit
theorem f01_row : IsRow Tryz.prog 138 17 := ⟨_, Tryz.underlying138, by kernel_rfl, by kernel_rfl⟩
theorem f01_size : (Tryz.prog.info? 138).map (·.size) = some 17 := by kernel_rfl
theorem top16 (x : Nat) : x < top256 ↔ len16 x ≤ 16 := by
 have e : B16 ^ 16 = top256 := by decide
 rw [← e]
 constructor
 · exact fun h => dig_len_le hB16 h
 · exact fun h => lt_of_dig_len hB16 h
theorem len16_zero {x : Nat} : len16 x = 0 ↔ x = 0 := by
 constructor
 · intro h
   rcases Nat.eq_zero_or_pos x with h1 | h1
   · exact h1
   · have : 0 < len16 x := dig_len_pos hB16 (by omega)
     omega
 · rintro rfl; rfl
set_option maxRecDepth 100000 in
set_option maxHeartbeats 4000000 in
theorem build_f01 (b : Bool) (l m : List Nat) (hl : l.length = 8) (hm : m.length = 8) {a : Act} {r s t : Nat} {d : Option Nat} {ty : TypeId} {pos : String} {aft : Array Edge} (w : World) (hx : a.eval (.tmp r) = .bool b) (hy : a.eval (.tmp s) = .agg (u8s l).toArray) (hz : a.eval (.tmp t) = .agg (u8s m).toArray) :
 (execOp a.eval ⟨d, .build 138 #[(0, .tmp r), (1, .tmp s), (2, .tmp t)], ty, pos, aft, none⟩).run Tryz.prog w = .ok (.value (.agg (.bool b :: (u8s l ++ u8s m)).toArray)) w := by
 obtain ⟨a0, a1, a2, a3, a4, a5, a6, a7, rfl⟩ := list8 hl
 obtain ⟨d0, d1, d2, d3, d4, d5, d6, d7, rfl⟩ := list8 hm
 unfold u8s at *
 simp only [List.map_cons, List.map_nil, List.cons_append, List.nil_append] at *
 have hx' : a.tmps[r]?.getD undef = _ := (by simp [Act.eval] : a.tmps[r]?.getD undef = a.eval (.tmp r)).trans hx
 have hy' : a.tmps[s]?.getD undef = _ := (by simp [Act.eval] : a.tmps[s]?.getD undef = a.eval (.tmp s)).trans hy
 have hz' : a.tmps[t]?.getD undef = _ := (by simp [Act.eval] : a.tmps[t]?.getD undef = a.eval (.tmp t)).trans hz
 go_simp
set_option maxRecDepth 100000 in
set_option maxHeartbeats 600000 in
theorem ref_make0 (neg : Bool) {x y : Nat} {u v : Value} {w : World} (hu : Reads (dig B16 x) u w) (hv : Reads (dig B16 y) v w) (hx : len16 x ≤ 400) (hy : len16 y ≤ 400) (hy0 : 0 < y) :
 Calls Tryz.prog 141 #[.bool neg, u, v] w (FitPost w (fitL neg x y)) := by
 obtain ⟨gc, hgc⟩ : ∃ gc, gc = Nat.gcd x y := ⟨_, rfl⟩
 have hg0 : 0 < gc := by rw [hgc]; exact Nat.gcd_pos_of_pos_right _ hy0
 have hgl : len16 gc ≤ 400 := Nat.le_trans (len16_mono (by rw [hgc]; exact Nat.le_of_dvd hy0 (Nat.gcd_dvd_right x y))) hy
 obtain ⟨a, ha⟩ : ∃ a, a = x / gc := ⟨_, rfl⟩
 obtain ⟨b, hb⟩ : ∃ b, b = y / gc := ⟨_, rfl⟩
 obtain ⟨n1, hn1⟩ : ∃ n1, n1 = (dig B16 a).length := ⟨_, rfl⟩
 obtain ⟨n2, hn2⟩ : ∃ n2, n2 = (dig B16 b).length := ⟨_, rfl⟩
 have hal : len16 a ≤ 400 := Nat.le_trans (len16_mono (by rw [ha]; exact Nat.div_le_self _ _)) hx
 have hbl : len16 b ≤ 400 := Nat.le_trans (len16_mono (by rw [hb]; exact Nat.div_le_self _ _)) hy
 have HFIT := Lib.hid (fitL_div (neg := neg) (x1 := a) (y1 := b) hgc ha hb)
 have HL1 := Lib.hid (fun (q : Value) (w1 : World) (h : Reads (dig B16 a) q w1) => ref_limbs h hal)
 have HL2 := Lib.hid (fun (q : Value) (w1 : World) (h : Reads (dig B16 b) q w1) => ref_limbs h hbl)
 have HU := Lib.hid hu
 have HV := Lib.hid hv
 have HS := Lib.hid (And.intro hx hy)
 have HGC := Lib.hid (And.intro hgc (And.intro hg0 hgl))
 have HAB := Lib.hid (And.intro ha hb)
 have HN := Lib.hid (And.intro hn1 hn2)
 have HM0 := Lib.hid ((Mem.nil w).alloc 138 zeroF.cells)
 clear hgc hg0 hgl ha hb hn1 hn2 hu hv hx hy hal hbl
 by_cases h1 : len16 a ≤ 16
 · rw [if_pos h1, decide_eq_true h1] at HL1
   by_cases h2 : len16 b ≤ 16
   · rw [if_pos h2, decide_eq_true h2] at HL2
     have HF := Lib.hid (And.intro ((top16 a).2 h1) ((top16 b).2 h2))
     clear h1 h2
     cases neg with
     | false =>
      go_enter Tryz.func141, Tryz.ntmps141
      go_wp2_with (first
       | (go_at_call 174; go_loud (refine (ref_common (Reads.stays _ _ _ HU.out HM0.out.from_) (Reads.stays _ _ _ HV.out HM0.out.from_) HS.out.1 HS.out.2).mono ?_); rintro e w1 ⟨g, rfl, hb, hg⟩; rw [← HGC.out.1] at hg; have HM1 := Lib.hid (HM0.out.call hb); have HG1 := Lib.hid hg; clear hb hg)
       | (go_at_call 175; refine (ref_div (Reads.stays _ _ _ HU.out HM1.out.from_) HG1.out HS.out.1 HGC.out.2.2 HGC.out.2.1).mono ?_; rintro e w2 ⟨q, r, rfl, hb, hq, hr⟩; rw [← HAB.out.1] at hq; obtain ⟨A1, c1, rfl, h1, h2⟩ := hq; first | rw [← HN.out.1] at h2 ⊢ | rw [← HN.out.1]
          have HQ1 : Hid (Reads (dig B16 a) (.slice A1 _ c1) w2) := ⟨A1, c1, congrArg (fun n => Value.slice A1 n c1) HN.out.1, h1, Nat.le_trans (Nat.le_of_eq HN.out.1.symm) h2⟩
          have HM2 := Lib.hid (HM1.out.call hb); have HG2 := Lib.hid (Reads.stays _ _ _ HG1.out hb); clear hb hr h1 h2 HM1 HG1)
       | (go_at_call 175; go_loud (refine (ref_div (Reads.stays _ _ _ HV.out HM2.out.from_) HG2.out HS.out.2 HGC.out.2.2 HGC.out.2.1).mono ?_); rintro e w3 ⟨q, r, rfl, hb, hq, hr⟩; rw [← HAB.out.2] at hq; obtain ⟨A2, c2, rfl, h1, h2⟩ := hq; rw [← HN.out.2] at h2 ⊢
          have HQ2 : Hid (Reads (dig B16 b) (.slice A2 n2 c2) w3) := ⟨A2, c2, by rw [HN.out.2], h1, by rw [← HN.out.2]; exact h2⟩
          have HM3 := Lib.hid (HM2.out.call hb); have HQ3 := Lib.hid (Reads.stays _ _ _ HQ1.out hb); clear hb hr h1 h2 HM2 HG2 HQ1)
       | (go_at_call 176; refine (HL1.out _ _ HQ3.out).mono ?_; rintro e w4 ⟨rfl, hb⟩
          have HK4 := Lib.hid (((Mem.nil w3).call hb).alloc 72 (u8s (pad B32 8 0))); clear hb HQ3)
       | ((with_reducible refine g_st 72 ?_); refine wpList_stB (cs' := u8s (pad B32 8 a)) rfl _ _ rfl HK4.out 0 rfl rfl rfl u8_size rfl (by rw [u8s_len, pad_len]) (by rw [u8s_len, pad_len]) (u8s_ones _) ?_; intro w5 h5
          have HM5 := Lib.hid (HM3.out.add h5.from_ _ (h5.ok _ (List.Mem.head _))); have HQ5 := Lib.hid (Reads.stays _ _ _ HQ2.out h5.from_); clear h5 HK4 HM3 HQ2)
       | (go_at_call 176; go_loud (refine (HL2.out _ _ HQ5.out).mono ?_); rintro e w6 ⟨rfl, hb⟩
          have HK6 := Lib.hid (((Mem.nil w5).call hb).alloc 72 (u8s (pad B32 8 0))); clear hb HQ5)
       | ((with_reducible refine g_st 72 ?_); go_loud (refine wpList_stB (cs' := u8s (pad B32 8 b)) rfl _ _ rfl HK6.out 0 rfl rfl rfl u8_size rfl (by rw [u8s_len, pad_len]) (by rw [u8s_len, pad_len]) (u8s_ones _) ?_); intro w7 h7
          have HM7 := Lib.hid (HM5.out.add h7.from_ _ (h7.ok _ (List.Mem.head _))); clear h7 HK6 HM5)
       | ((with_reducible refine g_ld 72 ?_); refine wpList_ld rfl _ _ rfl _ rfl _ (HM7.out.ldb u8_row (by rw [u8s_len, pad_len]) (i := 0) rfl _ (Below.refl _ _)) ?_)
       | ((with_reducible refine g_ld 72 ?_); go_loud (refine wpList_ld rfl _ _ rfl _ rfl _ (HM7.out.ldb u8_row (by rw [u8s_len, pad_len]) (i := 1) rfl _ (Below.refl _ _)) ?_))
       | (((with_reducible refine g_bld 138 ?_); refine wpList_val rfl _ (build_f01 false (pad B32 8 a) (pad B32 8 b) (pad_len _ _ _) (pad_len _ _ _) _ rfl rfl rfl) ?_))
       | ((with_reducible refine g_st 138 ?_); go_loud (refine wpList_stB (cs' := FracV.cells ⟨false, a, b⟩) rfl _ _ rfl HM7.out 2 rfl rfl rfl f01_size rfl (FracV.cells_len _) (FracV.cells_len _) (FracV.ones _) ?_); intro w8 h8))
      refine bodyPost_ret (results_box2 rfl _ rfl (h8.ldb f01_row (FracV.cells_len _) (i := 2) rfl _ (Below.refl _ _))) rfl ⟨?_, h8.from_⟩
      rw [HFIT.out, if_pos HF.out]
      rfl
     | true =>
      by_cases ha0 : a = 0
      · have hnz : n1 = 0 := by rw [HN.out.1]; exact len16_zero.2 ha0
        have HZ := Lib.hid ha0
        clear ha0
        subst hnz
        go_enter Tryz.func141, Tryz.ntmps141
        go_wp2_with (first
         | (go_at_call 174; go_loud (refine (ref_common (Reads.stays _ _ _ HU.out HM0.out.from_) (Reads.stays _ _ _ HV.out HM0.out.from_) HS.out.1 HS.out.2).mono ?_); rintro e w1 ⟨g, rfl, hb, hg⟩; rw [← HGC.out.1] at hg; have HM1 := Lib.hid (HM0.out.call hb); have HG1 := Lib.hid hg; clear hb hg)
         | (go_at_call 175; refine (ref_div (Reads.stays _ _ _ HU.out HM1.out.from_) HG1.out HS.out.1 HGC.out.2.2 HGC.out.2.1).mono ?_; rintro e w2 ⟨q, r, rfl, hb, hq, hr⟩; rw [← HAB.out.1] at hq; obtain ⟨A1, c1, rfl, h1, h2⟩ := hq; first | rw [← HN.out.1] at h2 ⊢ | rw [← HN.out.1]
            have HQ1 : Hid (Reads (dig B16 a) (.slice A1 _ c1) w2) := ⟨A1, c1, congrArg (fun n => Value.slice A1 n c1) HN.out.1, h1, Nat.le_trans (Nat.le_of_eq HN.out.1.symm) h2⟩
            have HM2 := Lib.hid (HM1.out.call hb); have HG2 := Lib.hid (Reads.stays _ _ _ HG1.out hb); clear hb hr h1 h2 HM1 HG1)
         | (go_at_call 175; go_loud (refine (ref_div (Reads.stays _ _ _ HV.out HM2.out.from_) HG2.out HS.out.2 HGC.out.2.2 HGC.out.2.1).mono ?_); rintro e w3 ⟨q, r, rfl, hb, hq, hr⟩; rw [← HAB.out.2] at hq; obtain ⟨A2, c2, rfl, h1, h2⟩ := hq; rw [← HN.out.2] at h2 ⊢
            have HQ2 : Hid (Reads (dig B16 b) (.slice A2 n2 c2) w3) := ⟨A2, c2, by rw [HN.out.2], h1, by rw [← HN.out.2]; exact h2⟩
            have HM3 := Lib.hid (HM2.out.call hb); have HQ3 := Lib.hid (Reads.stays _ _ _ HQ1.out hb); clear hb hr h1 h2 HM2 HG2 HQ1)
         | (go_at_call 176; refine (HL1.out _ _ HQ3.out).mono ?_; rintro e w4 ⟨rfl, hb⟩
            have HK4 := Lib.hid (((Mem.nil w3).call hb).alloc 72 (u8s (pad B32 8 0))); clear hb HQ3)
         | ((with_reducible refine g_st 72 ?_); refine wpList_stB (cs' := u8s (pad B32 8 a)) rfl _ _ rfl HK4.out 0 rfl rfl rfl u8_size rfl (by rw [u8s_len, pad_len]) (by rw [u8s_len, pad_len]) (u8s_ones _) ?_; intro w5 h5
            have HM5 := Lib.hid (HM3.out.add h5.from_ _ (h5.ok _ (List.Mem.head _))); have HQ5 := Lib.hid (Reads.stays _ _ _ HQ2.out h5.from_); clear h5 HK4 HM3 HQ2)
         | (go_at_call 176; go_loud (refine (HL2.out _ _ HQ5.out).mono ?_); rintro e w6 ⟨rfl, hb⟩
            have HK6 := Lib.hid (((Mem.nil w5).call hb).alloc 72 (u8s (pad B32 8 0))); clear hb HQ5)
         | ((with_reducible refine g_st 72 ?_); go_loud (refine wpList_stB (cs' := u8s (pad B32 8 b)) rfl _ _ rfl HK6.out 0 rfl rfl rfl u8_size rfl (by rw [u8s_len, pad_len]) (by rw [u8s_len, pad_len]) (u8s_ones _) ?_); intro w7 h7
            have HM7 := Lib.hid (HM5.out.add h7.from_ _ (h7.ok _ (List.Mem.head _))); clear h7 HK6 HM5)
         | ((with_reducible refine g_ld 72 ?_); refine wpList_ld rfl _ _ rfl _ rfl _ (HM7.out.ldb u8_row (by rw [u8s_len, pad_len]) (i := 0) rfl _ (Below.refl _ _)) ?_)
         | ((with_reducible refine g_ld 72 ?_); go_loud (refine wpList_ld rfl _ _ rfl _ rfl _ (HM7.out.ldb u8_row (by rw [u8s_len, pad_len]) (i := 1) rfl _ (Below.refl _ _)) ?_))
         | (((with_reducible refine g_bld 138 ?_); refine wpList_val rfl _ (build_f01 false (pad B32 8 a) (pad B32 8 b) (pad_len _ _ _) (pad_len _ _ _) _ rfl rfl rfl) ?_))
         | ((with_reducible refine g_st 138 ?_); go_loud (refine wpList_stB (cs' := FracV.cells ⟨false, a, b⟩) rfl _ _ rfl HM7.out 2 rfl rfl rfl f01_size rfl (FracV.cells_len _) (FracV.cells_len _) (FracV.ones _) ?_); intro w8 h8))
        refine bodyPost_ret (results_box2 rfl _ rfl (h8.ldb f01_row (FracV.cells_len _) (i := 2) rfl _ (Below.refl _ _))) rfl ⟨?_, h8.from_⟩
        rw [HFIT.out, if_pos HF.out]
        simp [HZ.out]
        rfl
      · have hnz : n1 ≠ 0 := by rw [HN.out.1]; exact fun h => ha0 (len16_zero.1 h)
        have HZ := Lib.hid ha0
        have hz : 0 < n1 := by omega
        clear ha0 hnz
        go_enter Tryz.func141, Tryz.ntmps141
        go_wp2_with (first
         | (go_at_call 174; go_loud (refine (ref_common (Reads.stays _ _ _ HU.out HM0.out.from_) (Reads.stays _ _ _ HV.out HM0.out.from_) HS.out.1 HS.out.2).mono ?_); rintro e w1 ⟨g, rfl, hb, hg⟩; rw [← HGC.out.1] at hg; have HM1 := Lib.hid (HM0.out.call hb); have HG1 := Lib.hid hg; clear hb hg)
         | (go_at_call 175; refine (ref_div (Reads.stays _ _ _ HU.out HM1.out.from_) HG1.out HS.out.1 HGC.out.2.2 HGC.out.2.1).mono ?_; rintro e w2 ⟨q, r, rfl, hb, hq, hr⟩; rw [← HAB.out.1] at hq; obtain ⟨A1, c1, rfl, h1, h2⟩ := hq; first | rw [← HN.out.1] at h2 ⊢ | rw [← HN.out.1]
            have HQ1 : Hid (Reads (dig B16 a) (.slice A1 _ c1) w2) := ⟨A1, c1, congrArg (fun n => Value.slice A1 n c1) HN.out.1, h1, Nat.le_trans (Nat.le_of_eq HN.out.1.symm) h2⟩
            have HM2 := Lib.hid (HM1.out.call hb); have HG2 := Lib.hid (Reads.stays _ _ _ HG1.out hb); clear hb hr h1 h2 HM1 HG1)
         | (go_at_call 175; go_loud (refine (ref_div (Reads.stays _ _ _ HV.out HM2.out.from_) HG2.out HS.out.2 HGC.out.2.2 HGC.out.2.1).mono ?_); rintro e w3 ⟨q, r, rfl, hb, hq, hr⟩; rw [← HAB.out.2] at hq; obtain ⟨A2, c2, rfl, h1, h2⟩ := hq; rw [← HN.out.2] at h2 ⊢
            have HQ2 : Hid (Reads (dig B16 b) (.slice A2 n2 c2) w3) := ⟨A2, c2, by rw [HN.out.2], h1, by rw [← HN.out.2]; exact h2⟩
            have HM3 := Lib.hid (HM2.out.call hb); have HQ3 := Lib.hid (Reads.stays _ _ _ HQ1.out hb); clear hb hr h1 h2 HM2 HG2 HQ1)
         | (go_at_call 176; refine (HL1.out _ _ HQ3.out).mono ?_; rintro e w4 ⟨rfl, hb⟩
            have HK4 := Lib.hid (((Mem.nil w3).call hb).alloc 72 (u8s (pad B32 8 0))); clear hb HQ3)
         | ((with_reducible refine g_st 72 ?_); refine wpList_stB (cs' := u8s (pad B32 8 a)) rfl _ _ rfl HK4.out 0 rfl rfl rfl u8_size rfl (by rw [u8s_len, pad_len]) (by rw [u8s_len, pad_len]) (u8s_ones _) ?_; intro w5 h5
            have HM5 := Lib.hid (HM3.out.add h5.from_ _ (h5.ok _ (List.Mem.head _))); have HQ5 := Lib.hid (Reads.stays _ _ _ HQ2.out h5.from_); clear h5 HK4 HM3 HQ2)
         | (go_at_call 176; go_loud (refine (HL2.out _ _ HQ5.out).mono ?_); rintro e w6 ⟨rfl, hb⟩
            have HK6 := Lib.hid (((Mem.nil w5).call hb).alloc 72 (u8s (pad B32 8 0))); clear hb HQ5)
         | ((with_reducible refine g_st 72 ?_); go_loud (refine wpList_stB (cs' := u8s (pad B32 8 b)) rfl _ _ rfl HK6.out 0 rfl rfl rfl u8_size rfl (by rw [u8s_len, pad_len]) (by rw [u8s_len, pad_len]) (u8s_ones _) ?_); intro w7 h7
            have HM7 := Lib.hid (HM5.out.add h7.from_ _ (h7.ok _ (List.Mem.head _))); clear h7 HK6 HM5)
         | ((with_reducible refine g_ld 72 ?_); refine wpList_ld rfl _ _ rfl _ rfl _ (HM7.out.ldb u8_row (by rw [u8s_len, pad_len]) (i := 0) rfl _ (Below.refl _ _)) ?_)
         | ((with_reducible refine g_ld 72 ?_); go_loud (refine wpList_ld rfl _ _ rfl _ rfl _ (HM7.out.ldb u8_row (by rw [u8s_len, pad_len]) (i := 1) rfl _ (Below.refl _ _)) ?_))
         | (((with_reducible refine g_bld 138 ?_); refine wpList_val rfl _ (build_f01 true (pad B32 8 a) (pad B32 8 b) (pad_len _ _ _) (pad_len _ _ _) _ rfl rfl rfl) ?_))
         | ((with_reducible refine g_st 138 ?_); go_loud (refine wpList_stB (cs' := FracV.cells ⟨true, a, b⟩) rfl _ _ rfl HM7.out 2 rfl rfl rfl f01_size rfl (FracV.cells_len _) (FracV.cells_len _) (FracV.ones _) ?_); intro w8 h8))
        refine bodyPost_ret (results_box2 rfl _ rfl (h8.ldb f01_row (FracV.cells_len _) (i := 2) rfl _ (Below.refl _ _))) rfl ⟨?_, h8.from_⟩
        rw [HFIT.out, if_pos HF.out]
        simp [HZ.out]
        rfl
   · rw [if_neg h2, decide_eq_false h2] at HL2
     have HF : Hid (¬ (a < top256 ∧ b < top256)) := fun h => h2 ((top16 b).1 h.2)
     clear h1 h2
     go_enter Tryz.func141, Tryz.ntmps141
     go_wp2_with (first
      | (go_at_call 174; go_loud (refine (ref_common (Reads.stays _ _ _ HU.out HM0.out.from_) (Reads.stays _ _ _ HV.out HM0.out.from_) HS.out.1 HS.out.2).mono ?_); rintro e w1 ⟨g, rfl, hb, hg⟩; rw [← HGC.out.1] at hg; have HM1 := Lib.hid (HM0.out.call hb); have HG1 := Lib.hid hg; clear hb hg)
      | (go_at_call 175; refine (ref_div (Reads.stays _ _ _ HU.out HM1.out.from_) HG1.out HS.out.1 HGC.out.2.2 HGC.out.2.1).mono ?_; rintro e w2 ⟨q, r, rfl, hb, hq, hr⟩; rw [← HAB.out.1] at hq; obtain ⟨A1, c1, rfl, h1, h2⟩ := hq; first | rw [← HN.out.1] at h2 ⊢ | rw [← HN.out.1]
         have HQ1 : Hid (Reads (dig B16 a) (.slice A1 _ c1) w2) := ⟨A1, c1, congrArg (fun n => Value.slice A1 n c1) HN.out.1, h1, Nat.le_trans (Nat.le_of_eq HN.out.1.symm) h2⟩
         have HM2 := Lib.hid (HM1.out.call hb); have HG2 := Lib.hid (Reads.stays _ _ _ HG1.out hb); clear hb hr h1 h2 HM1 HG1)
      | (go_at_call 175; go_loud (refine (ref_div (Reads.stays _ _ _ HV.out HM2.out.from_) HG2.out HS.out.2 HGC.out.2.2 HGC.out.2.1).mono ?_); rintro e w3 ⟨q, r, rfl, hb, hq, hr⟩; rw [← HAB.out.2] at hq; obtain ⟨A2, c2, rfl, h1, h2⟩ := hq; rw [← HN.out.2] at h2 ⊢
         have HQ2 : Hid (Reads (dig B16 b) (.slice A2 n2 c2) w3) := ⟨A2, c2, by rw [HN.out.2], h1, by rw [← HN.out.2]; exact h2⟩
         have HM3 := Lib.hid (HM2.out.call hb); have HQ3 := Lib.hid (Reads.stays _ _ _ HQ1.out hb); clear hb hr h1 h2 HM2 HG2 HQ1)
      | (go_at_call 176; refine (HL1.out _ _ HQ3.out).mono ?_; rintro e w4 ⟨rfl, hb⟩
         have HK4 := Lib.hid (((Mem.nil w3).call hb).alloc 72 (u8s (pad B32 8 0))); clear hb HQ3)
      | ((with_reducible refine g_st 72 ?_); refine wpList_stB (cs' := u8s (pad B32 8 a)) rfl _ _ rfl HK4.out 0 rfl rfl rfl u8_size rfl (by rw [u8s_len, pad_len]) (by rw [u8s_len, pad_len]) (u8s_ones _) ?_; intro w5 h5
         have HM5 := Lib.hid (HM3.out.add h5.from_ _ (h5.ok _ (List.Mem.head _))); have HQ5 := Lib.hid (Reads.stays _ _ _ HQ2.out h5.from_); clear h5 HK4 HM3 HQ2)
      | (go_at_call 176; go_loud (refine (HL2.out _ _ HQ5.out).mono ?_); rintro e w6 ⟨rfl, hb⟩
         have HK6 := Lib.hid (((Mem.nil w5).call hb).alloc 72 (u8s (pad B32 8 0))); clear hb HQ5)
      | ((with_reducible refine g_st 72 ?_); go_loud (refine wpList_stB (cs' := u8s (pad B32 8 0)) rfl _ _ rfl HK6.out 0 rfl rfl rfl u8_size rfl (by rw [u8s_len, pad_len]) (by rw [u8s_len, pad_len]) (u8s_ones _) ?_); intro w7 h7
         have HM7 := Lib.hid (HM5.out.add h7.from_ _ (h7.ok _ (List.Mem.head _))); clear h7 HK6 HM5)
      | ((with_reducible refine g_ld 72 ?_); refine wpList_ld rfl _ _ rfl _ rfl _ (HM7.out.ldb u8_row (by rw [u8s_len, pad_len]) (i := 0) rfl _ (Below.refl _ _)) ?_)
      | ((with_reducible refine g_ld 72 ?_); go_loud (refine wpList_ld rfl _ _ rfl _ rfl _ (HM7.out.ldb u8_row (by rw [u8s_len, pad_len]) (i := 1) rfl _ (Below.refl _ _)) ?_))
      | (fail)
      | ((with_reducible refine g_st 138 ?_); go_loud (refine wpList_stB (cs' := FracV.cells zeroF) rfl _ _ rfl HM7.out 2 rfl rfl rfl f01_size rfl (FracV.cells_len _) (FracV.cells_len _) (FracV.ones _) ?_); intro w8 h8))
     refine bodyPost_ret (results_box2 rfl _ rfl (h8.ldb f01_row (FracV.cells_len _) (i := 2) rfl _ (Below.refl _ _))) rfl ⟨?_, h8.from_⟩
     rw [HFIT.out, if_neg HF.out]
     rfl
 · rw [if_neg h1, decide_eq_false h1] at HL1
   have HF : Hid (¬ (a < top256 ∧ b < top256)) := fun h => h1 ((top16 a).1 h.1)
   clear h1
   obtain ⟨b2, fb, hL⟩ : ∃ b2 fb, ∀ (q : Value) (w1 : World), Reads (dig B16 b) q w1 → Calls Tryz.prog 176 #[q] w1 fun e w' => e = .returned (.tuple #[.agg (u8s (pad B32 8 b2)).toArray, .bool fb]) ∧ From w1 w' := by
    by_cases h2 : len16 b ≤ 16
    · have h3 := HL2.out
      rw [if_pos h2, decide_eq_true h2] at h3
      exact ⟨b, true, h3⟩
    · have h3 := HL2.out
      rw [if_neg h2, decide_eq_false h2] at h3
      exact ⟨0, false, h3⟩
   clear HL2
   have HL2 := Lib.hid hL
   clear hL
   go_enter Tryz.func141, Tryz.ntmps141
   go_wp2_with (first
    | (go_at_call 174; go_loud (refine (ref_common (Reads.stays _ _ _ HU.out HM0.out.from_) (Reads.stays _ _ _ HV.out HM0.out.from_) HS.out.1 HS.out.2).mono ?_); rintro e w1 ⟨g, rfl, hb, hg⟩; rw [← HGC.out.1] at hg; have HM1 := Lib.hid (HM0.out.call hb); have HG1 := Lib.hid hg; clear hb hg)
    | (go_at_call 175; refine (ref_div (Reads.stays _ _ _ HU.out HM1.out.from_) HG1.out HS.out.1 HGC.out.2.2 HGC.out.2.1).mono ?_; rintro e w2 ⟨q, r, rfl, hb, hq, hr⟩; rw [← HAB.out.1] at hq; obtain ⟨A1, c1, rfl, h1, h2⟩ := hq; first | rw [← HN.out.1] at h2 ⊢ | rw [← HN.out.1]
       have HQ1 : Hid (Reads (dig B16 a) (.slice A1 _ c1) w2) := ⟨A1, c1, congrArg (fun n => Value.slice A1 n c1) HN.out.1, h1, Nat.le_trans (Nat.le_of_eq HN.out.1.symm) h2⟩
       have HM2 := Lib.hid (HM1.out.call hb); have HG2 := Lib.hid (Reads.stays _ _ _ HG1.out hb); clear hb hr h1 h2 HM1 HG1)
    | (go_at_call 175; go_loud (refine (ref_div (Reads.stays _ _ _ HV.out HM2.out.from_) HG2.out HS.out.2 HGC.out.2.2 HGC.out.2.1).mono ?_); rintro e w3 ⟨q, r, rfl, hb, hq, hr⟩; rw [← HAB.out.2] at hq; obtain ⟨A2, c2, rfl, h1, h2⟩ := hq; rw [← HN.out.2] at h2 ⊢
       have HQ2 : Hid (Reads (dig B16 b) (.slice A2 n2 c2) w3) := ⟨A2, c2, by rw [HN.out.2], h1, by rw [← HN.out.2]; exact h2⟩
       have HM3 := Lib.hid (HM2.out.call hb); have HQ3 := Lib.hid (Reads.stays _ _ _ HQ1.out hb); clear hb hr h1 h2 HM2 HG2 HQ1)
    | (go_at_call 176; refine (HL1.out _ _ HQ3.out).mono ?_; rintro e w4 ⟨rfl, hb⟩
       have HK4 := Lib.hid (((Mem.nil w3).call hb).alloc 72 (u8s (pad B32 8 0))); clear hb HQ3)
    | ((with_reducible refine g_st 72 ?_); refine wpList_stB (cs' := u8s (pad B32 8 0)) rfl _ _ rfl HK4.out 0 rfl rfl rfl u8_size rfl (by rw [u8s_len, pad_len]) (by rw [u8s_len, pad_len]) (u8s_ones _) ?_; intro w5 h5
       have HM5 := Lib.hid (HM3.out.add h5.from_ _ (h5.ok _ (List.Mem.head _))); have HQ5 := Lib.hid (Reads.stays _ _ _ HQ2.out h5.from_); clear h5 HK4 HM3 HQ2)
    | (go_at_call 176; go_loud (refine (HL2.out _ _ HQ5.out).mono ?_); rintro e w6 ⟨rfl, hb⟩
       have HK6 := Lib.hid (((Mem.nil w5).call hb).alloc 72 (u8s (pad B32 8 0))); clear hb HQ5)
    | ((with_reducible refine g_st 72 ?_); go_loud (refine wpList_stB (cs' := u8s (pad B32 8 b2)) rfl _ _ rfl HK6.out 0 rfl rfl rfl u8_size rfl (by rw [u8s_len, pad_len]) (by rw [u8s_len, pad_len]) (u8s_ones _) ?_); intro w7 h7
       have HM7 := Lib.hid (HM5.out.add h7.from_ _ (h7.ok _ (List.Mem.head _))); clear h7 HK6 HM5)
    | ((with_reducible refine g_ld 72 ?_); refine wpList_ld rfl _ _ rfl _ rfl _ (HM7.out.ldb u8_row (by rw [u8s_len, pad_len]) (i := 0) rfl _ (Below.refl _ _)) ?_)
    | ((with_reducible refine g_ld 72 ?_); go_loud (refine wpList_ld rfl _ _ rfl _ rfl _ (HM7.out.ldb u8_row (by rw [u8s_len, pad_len]) (i := 1) rfl _ (Below.refl _ _)) ?_))
    | (fail)
    | ((with_reducible refine g_st 138 ?_); go_loud (refine wpList_stB (cs' := FracV.cells zeroF) rfl _ _ rfl HM7.out 2 rfl rfl rfl f01_size rfl (FracV.cells_len _) (FracV.cells_len _) (FracV.ones _) ?_); intro w8 h8))
   refine bodyPost_ret (results_box2 rfl _ rfl (h8.ldb f01_row (FracV.cells_len _) (i := 2) rfl _ (Below.refl _ _))) rfl ⟨?_, h8.from_⟩
   rw [HFIT.out, if_neg HF.out]
   rfl
theorem calls_whole (n : Nat) (hn : n < 18446744073709551616) (w : World) :
 Calls Tryz.prog 177 #[.int .u64 n] w fun e w' => ∃ z, e = .returned z ∧ From w w' ∧ Reads (dig B16 n) z w' := by
 refine (ref_whole n hn w).mono ?_
 rintro e w' ⟨A', c', rfl, h1, h2, h3⟩
 exact ⟨_, rfl, h3, A', c', rfl, h1, h2⟩
set_option maxRecDepth 100000 in
set_option maxHeartbeats 1000000 in
theorem ref_size (n : Int) (h1 : -9223372036854775808 ≤ n) (h2 : n < 9223372036854775808) (w : World) :
 Calls Tryz.prog 142 #[.int .i64 n] w fun e w' => ∃ z, e = .returned z ∧ From w w' ∧ Reads (dig B16 n.natAbs) z w' := by
 obtain ⟨m, hm⟩ : ∃ m, m = n.natAbs := ⟨_, rfl⟩
 rw [← hm]
 have HW := Lib.hid (calls_whole m (by omega) w)
 by_cases hn : n < 0
 · obtain ⟨p, hp⟩ : ∃ p : Nat, (p : Int) = -(n + 1) := ⟨(-(n + 1)).toNat, by omega⟩
   obtain ⟨n1, hn1⟩ : ∃ n1, n1 = n + 1 := ⟨_, rfl⟩
   have w1 : IntKind.i64.wrap (n + 1) = n1 := by rw [wrap_i64 (by omega) (by omega)]; exact hn1.symm
   have w2 : IntKind.i64.wrap (-n1) = (p : Int) := by rw [wrap_i64 (by omega) (by omega)]; omega
   have w3 : IntKind.u64.wrap (p : Int) = (p : Int) := wrap_u64 (by omega) (by omega)
   have w4 : IntKind.u64.wrap ((p : Int) + 1) = (m : Int) := by rw [wrap_u64 (by omega) (by omega)]; omega
   clear hp hn1 hm h1 h2
   go_enter Tryz.func142, Tryz.ntmps142
   go_wp2_with (go_at_call 177; go_loud (refine (HW.out).mono ?_); rintro e w5 ⟨z, rfl, hb, hz⟩)
   go_ret
   exact ⟨z, rfl, hb, hz⟩
 · have w3 : IntKind.u64.wrap n = (m : Int) := by rw [wrap_u64 (by omega) (by omega)]; omega
   clear hm h1 h2
   go_enter Tryz.func142, Tryz.ntmps142
   go_wp2_with (go_at_call 177; go_loud (refine (HW.out).mono ?_); rintro e w5 ⟨z, rfl, hb, hz⟩)
   go_ret
   exact ⟨z, rfl, hb, hz⟩
set_option maxRecDepth 100000 in
set_option maxHeartbeats 1000000 in
theorem ref_Ratio (a b : Int) (ha : -9223372036854775808 ≤ a) (ha2 : a < 9223372036854775808) (hb : 0 < b) (hb2 : b < 9223372036854775808) (w : World) :
 Calls Tryz.prog 98 #[.int .i64 a, .int .i64 b] w (FitPost w (ratioL a b)) := by
 have HM0 := Lib.hid ((Mem.nil w).alloc 138 zeroF.cells)
 have hl : ∀ n : Nat, n < 18446744073709551616 → len16 n ≤ 4 := fun n h => dig_len_le hB16 (by have e : B16 ^ 4 = 18446744073709551616 := rfl; omega)
 have HA := Lib.hid (ref_size a ha ha2)
 have HB := Lib.hid (ref_size b (by omega) hb2)
 have HS := Lib.hid (And.intro ha (And.intro ha2 (And.intro (show 0 < b.natAbs by omega) (And.intro (hl a.natAbs (by omega)) (hl b.natAbs (by omega))))))
 have HR : Hid (ratioL a b = fitL (decide (a < 0)) a.natAbs b.natAbs) := by
  unfold Hid ratioL
  rw [if_neg (by omega), decide_eq_false (show ¬ b < 0 by omega)]
  simp
 have hb0 : ¬ b = 0 := by omega
 have hb3 : ¬ b < 0 := by omega
 have hbe : (b == 0) = false := by simp; omega
 clear ha ha2 hb2 hl
 by_cases hn : a < 0
 · have HR2 := HR.out
   rw [decide_eq_true hn] at HR2
   have HR3 := Lib.hid HR2
   clear HR2 HR
   have hn2 : ¬ 0 < a := by omega
   go_enter Tryz.func98, Tryz.ntmps98
   go_wp2_with (first
    | (go_at_call 142; refine (HA.out _).mono ?_; rintro e w3 ⟨x, rfl, hb, hx⟩; have HM3 := Lib.hid (HM0.out.call hb); have HX3 := Lib.hid hx; clear hb hx HA)
    | (go_at_call 142; go_loud (refine (HB.out _).mono ?_); rintro e w4 ⟨y, rfl, hb, hy⟩; have HM4 := Lib.hid (HM3.out.call hb); have HX4 := Lib.hid (Reads.stays _ _ _ HX3.out hb); have HY4 := Lib.hid hy; clear hb hy HB HM3 HX3)
    | (go_at_call 141; go_loud (refine (ref_make0 true HX4.out HY4.out (Nat.le_trans HS.out.2.2.2.1 (by decide)) (Nat.le_trans HS.out.2.2.2.2 (by decide)) HS.out.2.2.1).mono ?_); rintro e w5 ⟨rfl, hb⟩; have HM5 := Lib.hid (HM4.out.call hb); clear hb)
    | ((with_reducible refine g_st 138 ?_); go_loud (refine wpList_stB (cs' := FracV.cells _) rfl _ _ rfl HM5.out 0 rfl rfl rfl f01_size rfl (FracV.cells_len _) (FracV.cells_len _) (FracV.ones _) ?_); intro w6 h6))
   refine bodyPost_ret (results_box2 rfl _ rfl (h6.ldb f01_row (FracV.cells_len _) (i := 0) rfl _ (Below.refl _ _))) rfl ⟨?_, h6.from_⟩
   rw [HR3.out]
   rfl
 · by_cases hp : 0 < a
   · have HR2 := HR.out
     rw [decide_eq_false hn] at HR2
     have HR3 := Lib.hid HR2
     clear HR2 HR
     go_enter Tryz.func98, Tryz.ntmps98
     go_wp2_with (first
      | (go_at_call 142; refine (HA.out _).mono ?_; rintro e w3 ⟨x, rfl, hb, hx⟩; have HM3 := Lib.hid (HM0.out.call hb); have HX3 := Lib.hid hx; clear hb hx HA)
      | (go_at_call 142; go_loud (refine (HB.out _).mono ?_); rintro e w4 ⟨y, rfl, hb, hy⟩; have HM4 := Lib.hid (HM3.out.call hb); have HX4 := Lib.hid (Reads.stays _ _ _ HX3.out hb); have HY4 := Lib.hid hy; clear hb hy HB HM3 HX3)
      | (go_at_call 141; go_loud (refine (ref_make0 false HX4.out HY4.out (Nat.le_trans HS.out.2.2.2.1 (by decide)) (Nat.le_trans HS.out.2.2.2.2 (by decide)) HS.out.2.2.1).mono ?_); rintro e w5 ⟨rfl, hb⟩; have HM5 := Lib.hid (HM4.out.call hb); clear hb)
      | ((with_reducible refine g_st 138 ?_); go_loud (refine wpList_stB (cs' := FracV.cells _) rfl _ _ rfl HM5.out 0 rfl rfl rfl f01_size rfl (FracV.cells_len _) (FracV.cells_len _) (FracV.ones _) ?_); intro w6 h6))
     refine bodyPost_ret (results_box2 rfl _ rfl (h6.ldb f01_row (FracV.cells_len _) (i := 0) rfl _ (Below.refl _ _))) rfl ⟨?_, h6.from_⟩
     rw [HR3.out]
     rfl
   · obtain rfl : a = 0 := by omega
     have HR2 := HR.out
     rw [decide_eq_false hn] at HR2
     have HR3 := Lib.hid HR2
     clear HR2 HR
     go_enter Tryz.func98, Tryz.ntmps98
     go_wp2_with (first
      | (go_at_call 142; refine (HA.out _).mono ?_; rintro e w3 ⟨x, rfl, hb, hx⟩; have HM3 := Lib.hid (HM0.out.call hb); have HX3 := Lib.hid hx; clear hb hx HA)
      | (go_at_call 142; go_loud (refine (HB.out _).mono ?_); rintro e w4 ⟨y, rfl, hb, hy⟩; have HM4 := Lib.hid (HM3.out.call hb); have HX4 := Lib.hid (Reads.stays _ _ _ HX3.out hb); have HY4 := Lib.hid hy; clear hb hy HB HM3 HX3)
      | (go_at_call 141; go_loud (refine (ref_make0 false HX4.out HY4.out (Nat.le_trans HS.out.2.2.2.1 (by decide)) (Nat.le_trans HS.out.2.2.2.2 (by decide)) HS.out.2.2.1).mono ?_); rintro e w5 ⟨rfl, hb⟩; have HM5 := Lib.hid (HM4.out.call hb); clear hb)
      | ((with_reducible refine g_st 138 ?_); go_loud (refine wpList_stB (cs' := FracV.cells _) rfl _ _ rfl HM5.out 0 rfl rfl rfl f01_size rfl (FracV.cells_len _) (FracV.cells_len _) (FracV.ones _) ?_); intro w6 h6))
     refine bodyPost_ret (results_box2 rfl _ rfl (h6.ldb f01_row (FracV.cells_len _) (i := 0) rfl _ (Below.refl _ _))) rfl ⟨?_, h6.from_⟩
     rw [HR3.out]
     rfl
def limb (n i : Nat) : Int := (((pad B32 8 n).getD i 0 : Nat) : Int)
def fracL (f : Unit → FracV) : List AV := [.bool fun _ => (f ()).neg, .int .u32 fun _ => limb (f ()).num 0, .int .u32 fun _ => limb (f ()).num 1, .int .u32 fun _ => limb (f ()).num 2, .int .u32 fun _ => limb (f ()).num 3, .int .u32 fun _ => limb (f ()).num 4, .int .u32 fun _ => limb (f ()).num 5, .int .u32 fun _ => limb (f ()).num 6, .int .u32 fun _ => limb (f ()).num 7, .int .u32 fun _ => limb (f ()).den 0, .int .u32 fun _ => limb (f ()).den 1, .int .u32 fun _ => limb (f ()).den 2, .int .u32 fun _ => limb (f ()).den 3, .int .u32 fun _ => limb (f ()).den 4, .int .u32 fun _ => limb (f ()).den 5, .int .u32 fun _ => limb (f ()).den 6, .int .u32 fun _ => limb (f ()).den 7]
def ctrL (c : Unit → Ctr) : List AV := fracL (fun _ => (c ()).x) ++ (fracL (fun _ => (c ()).y) ++ fracL fun _ => (c ()).z)
theorem limbs_all (n : Nat) : [limb n 0, limb n 1, limb n 2, limb n 3, limb n 4, limb n 5, limb n 6, limb n 7] = (pad B32 8 n).map fun (k : Nat) => (k : Int) := by
 obtain ⟨a0, a1, a2, a3, a4, a5, a6, a7, h⟩ := list8 (pad_len B32 8 n)
 unfold limb
 rw [h]
 rfl
theorem fracL_val (f : Unit → FracV) : (fracL f).map AV.valOf = (f ()).cells := by
 unfold FracV.cells
 have e : ∀ n, (pad B32 8 n).map (fun (k : Nat) => Value.int .u32 (k : Int)) = [limb n 0, limb n 1, limb n 2, limb n 3, limb n 4, limb n 5, limb n 6, limb n 7].map (Value.int .u32) := fun n => by rw [limbs_all, List.map_map]; rfl
 rw [e, e]
 rfl
theorem ctrL_val (c : Unit → Ctr) : (ctrL c).map AV.valOf = (c ()).cells := by
 unfold ctrL Ctr.cells
 rw [List.map_append, List.map_append, fracL_val, fracL_val, fracL_val]
section
variable {w : World} {ρ : Nat → Option Rl} {base : Nat} {ro : Nat → Prop} {v : Value}
theorem avr_frac (f : Unit → FracV) : AVR w ρ base ro (.agg (fracL f)) (f ()).val := by
 have h := avr_aggF (w := w) (ρ := ρ) (base := base) (ro := ro) (l := fracL f) rfl
 rwa [fracL_val] at h
theorem avr_ctr (c : Unit → Ctr) : AVR w ρ base ro (.agg (ctrL c)) (c ()).val := by
 have h := avr_aggF (w := w) (ρ := ρ) (base := base) (ro := ro) (l := ctrL c) rfl
 rwa [ctrL_val] at h
end
theorem in_lo {n : Int} (h : inI64 n) : -9223372036854775808 ≤ n := h.1
theorem in_hi {n : Int} (h : inI64 n) : n ≤ 9223372036854775807 := h.2
def conRatio : Con := ⟨54, [.int .i64, .int .i64], fun
 | [x0, x1] => (x0.toI).bind fun a => (x1.toI).bind fun b => some ⟨fun _ => inI64 (a ()) ∧ inI64 (b ()), .tup [.agg (fracL fun _ => (ratioL (a ()) (b ())).1), .int .i64 fun _ => (ratioL (a ()) (b ())).2]⟩
 | _ => none⟩
theorem conRatio_ok : ConOk Tryz.prog conRatio := by
 refine oldOk Tryz.func54 (by kernel_rfl) fun avs res h w ra vals hE hp => ?_
 simp only [conRatio] at h
 split at h
 case h_2 => cases h
 rename_i x0 x1
 simp only [Option.bind_eq_some_iff, Option.some.injEq] at h
 obtain ⟨a, e0, b, e1, rfl⟩ := h
 obtain rfl := AV.toI_ e0
 obtain rfl := AV.toI_ e1
 clear e0 e1
 obtain ⟨a, rfl⟩ := eta (α := Int) a
 obtain ⟨b, rfl⟩ := eta (α := Int) b
 obtain ⟨v0, us0, rfl, hv0, h0⟩ := hE.head
 obtain ⟨v1, us1, rfl, hv1, h1⟩ := h0.head
 obtain rfl := h1.none
 obtain rfl := hv0.int_
 obtain rfl := hv1.int_
 exact (frac_Ratio a b (in_lo hp.1) (in_hi hp.1) (in_lo hp.2) (in_hi hp.2) w).mono fun e w' ⟨k1, k2⟩ => ⟨_, k1, k2, avr_tup2 (avr_frac _) (.int _ _)⟩
def conOf : Con := ⟨26, [.int .i64], fun
 | [x0] => (x0.toI).bind fun a => some ⟨fun _ => inI64 (a ()), .agg (fracL fun _ => ofL (a ()))⟩
 | _ => none⟩
def conFind : Con := ⟨22, [.agg ldSg], fun
 | [x0] => (x0.toLd).bind fun x => some ⟨fun _ => True, .tup [.agg (ctrL fun _ => (findF (x ())).1), .int .i64 fun _ => (findF (x ())).2]⟩
 | _ => none⟩
theorem conFind_ok : ConOk Tryz.prog conFind := by
 refine oldOk Tryz.func22 (by kernel_rfl) fun avs res h w ra vals hE hp => ?_
 simp only [conFind] at h
 split at h
 case h_2 => cases h
 rename_i x0
 simp only [Option.bind_eq_some_iff, Option.some.injEq] at h
 obtain ⟨x, e0, rfl⟩ := h
 obtain rfl := AV.toLd_ e0
 clear e0
 obtain ⟨x, rfl⟩ := eta (α := Ld) x
 obtain ⟨v0, us0, rfl, hv0, h0⟩ := hE.head
 obtain rfl := h0.none
 obtain rfl := hv0.aggF rfl
 exact (m_Find x w).mono fun e w' ⟨k1, k2⟩ => ⟨_, k1, k2, avr_tup2 (avr_ctr _) (.int _ _)⟩
def conRatio1 : Con := ⟨98, [.int .i64, .int .i64], fun
 | [x0, x1] => (x0.toI).bind fun a => (x1.toI).bind fun b => some ⟨fun _ => inI64 (a ()) ∧ (0 < b () ∧ inI64 (b ())), .tup [.agg (fracL fun _ => (ratioL (a ()) (b ())).1), .int .i64 fun _ => (ratioL (a ()) (b ())).2]⟩
 | _ => none⟩
theorem conRatio1_ok : ConOk Tryz.prog conRatio1 := by
 refine oldOk Tryz.func98 (by kernel_rfl) fun avs res h w ra vals hE hp => ?_
 simp only [conRatio1] at h
 split at h
 case h_2 => cases h
 rename_i x0 x1
 simp only [Option.bind_eq_some_iff, Option.some.injEq] at h
 obtain ⟨a, e0, b, e1, rfl⟩ := h
 obtain rfl := AV.toI_ e0
 obtain rfl := AV.toI_ e1
 clear e0 e1
 obtain ⟨a, rfl⟩ := eta (α := Int) a
 obtain ⟨b, rfl⟩ := eta (α := Int) b
 obtain ⟨v0, us0, rfl, hv0, h0⟩ := hE.head
 obtain ⟨v1, us1, rfl, hv1, h1⟩ := h0.head
 obtain rfl := h1.none
 obtain rfl := hv0.int_
 obtain rfl := hv1.int_
 have h1 := in_lo hp.1
 have h2 : a ≤ 9223372036854775807 := in_hi hp.1
 have h3 : 0 < b := hp.2.1
 have h4 : b ≤ 9223372036854775807 := in_hi hp.2.2
 exact (ref_Ratio a b h1 (by omega) h3 (by omega) w).mono fun e w' ⟨k1, k2⟩ => ⟨_, k1, k2, avr_tup2 (avr_frac _) (.int _ _)⟩
end Go.Proofs.YtmbfcdnnlpcgfaaGreat
