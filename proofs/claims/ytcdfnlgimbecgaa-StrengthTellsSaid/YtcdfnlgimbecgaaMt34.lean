/-
  twistlockref01: make0.
-/
import Derived.Test.YtcdfnlgimbecgaaMt32
import Derived.Test.YtcdfnlgimbecgaaMt33
namespace Go.Proofs.Ytcdfnlgimbecgaa
open Go.RowKit
theorem f01_row : IsRow Try.prog 91 17 := ⟨_, Try.underlying91, by kernel_rfl, by kernel_rfl⟩
theorem f01_size : (Try.prog.info? 91).map (·.size) = some 17 := by kernel_rfl
theorem top16 (x : Nat) : x < top256 ↔ len16 x ≤ 16 := by
 have e : B16 ^ 16 = top256 := by decide
 rw [← e]
 constructor
 · exact fun h => dig_len_le hB16 h
 · exact fun h => lt_of_dig_len hB16 h
theorem len16_zero {x : Nat} : len16 x = 0 ↔ x = 0 := by
 constructor
 · intro h
   rcases Nat.eq_zero_or_pos x with h1 | h1
   · exact h1
   · have : 0 < len16 x := dig_len_pos hB16 (by omega)
     omega
 · rintro rfl; rfl
theorem u8s_pad (b : Bool) (x y : Nat) : (FracV.mk b x y).cells = .bool b :: (u8s (pad B32 8 x) ++ u8s (pad B32 8 y)) := rfl
set_option maxRecDepth 100000 in
set_option maxHeartbeats 4000000 in
theorem build_f01 (b : Bool) (l m : List Nat) (hl : l.length = 8) (hm : m.length = 8) {a : Act} {r s t : Nat} {d : Option Nat} {ty : TypeId} {pos : String} {aft : Array Edge} (w : World) (hx : a.eval (.tmp r) = .bool b) (hy : a.eval (.tmp s) = .agg (u8s l).toArray) (hz : a.eval (.tmp t) = .agg (u8s m).toArray) :
 (execOp a.eval ⟨d, .build 91 #[(0, .tmp r), (1, .tmp s), (2, .tmp t)], ty, pos, aft, none⟩).run Try.prog w = .ok (.value (.agg (.bool b :: (u8s l ++ u8s m)).toArray)) w := by
 obtain ⟨a0, a1, a2, a3, a4, a5, a6, a7, rfl⟩ := list8 hl
 obtain ⟨d0, d1, d2, d3, d4, d5, d6, d7, rfl⟩ := list8 hm
 unfold u8s at *
 simp only [List.map_cons, List.map_nil, List.cons_append, List.nil_append] at *
 have hx' : a.tmps[r]?.getD undef = _ := (by simp [Act.eval] : a.tmps[r]?.getD undef = a.eval (.tmp r)).trans hx
 have hy' : a.tmps[s]?.getD undef = _ := (by simp [Act.eval] : a.tmps[s]?.getD undef = a.eval (.tmp s)).trans hy
 have hz' : a.tmps[t]?.getD undef = _ := (by simp [Act.eval] : a.tmps[t]?.getD undef = a.eval (.tmp t)).trans hz
 go_simp
set_option maxRecDepth 100000 in
set_option maxHeartbeats 600000 in
theorem ref_make0 (neg : Bool) {x y : Nat} {u v : Value} {w : World} (hu : Reads (dig B16 x) u w) (hv : Reads (dig B16 y) v w) (hx : len16 x ≤ 400) (hy : len16 y ≤ 400) (hy0 : 0 < y) :
 Calls Try.prog 123 #[.bool neg, u, v] w (FitPost w (fitL neg x y)) := by
 obtain ⟨gc, hgc⟩ : ∃ gc, gc = Nat.gcd x y := ⟨_, rfl⟩
 have hg0 : 0 < gc := by rw [hgc]; exact Nat.gcd_pos_of_pos_right _ hy0
 have hgl : len16 gc ≤ 400 := Nat.le_trans (len16_mono (by rw [hgc]; exact Nat.le_of_dvd hy0 (Nat.gcd_dvd_right x y))) hy
 obtain ⟨a, ha⟩ : ∃ a, a = x / gc := ⟨_, rfl⟩
 obtain ⟨b, hb⟩ : ∃ b, b = y / gc := ⟨_, rfl⟩
 obtain ⟨n1, hn1⟩ : ∃ n1, n1 = (dig B16 a).length := ⟨_, rfl⟩
 obtain ⟨n2, hn2⟩ : ∃ n2, n2 = (dig B16 b).length := ⟨_, rfl⟩
 have hal : len16 a ≤ 400 := Nat.le_trans (len16_mono (by rw [ha]; exact Nat.div_le_self _ _)) hx
 have hbl : len16 b ≤ 400 := Nat.le_trans (len16_mono (by rw [hb]; exact Nat.div_le_self _ _)) hy
 have HFIT := Lib.hid (fitL_div (neg := neg) (x1 := a) (y1 := b) hgc ha hb)
 have HL1 := Lib.hid (fun (q : Value) (w1 : World) (h : Reads (dig B16 a) q w1) => ref_limbs h hal)
 have HL2 := Lib.hid (fun (q : Value) (w1 : World) (h : Reads (dig B16 b) q w1) => ref_limbs h hbl)
 have HU := Lib.hid hu
 have HV := Lib.hid hv
 have HS := Lib.hid (And.intro hx hy)
 have HGC := Lib.hid (And.intro hgc (And.intro hg0 hgl))
 have HAB := Lib.hid (And.intro ha hb)
 have HN := Lib.hid (And.intro hn1 hn2)
 have HM0 := Lib.hid ((Mem.nil w).alloc 91 zeroF.cells)
 clear hgc hg0 hgl ha hb hn1 hn2 hu hv hx hy hal hbl
 by_cases h1 : len16 a ≤ 16
 · rw [if_pos h1, decide_eq_true h1] at HL1
   by_cases h2 : len16 b ≤ 16
   · rw [if_pos h2, decide_eq_true h2] at HL2
     have HF := Lib.hid (And.intro ((top16 a).2 h1) ((top16 b).2 h2))
     clear h1 h2
     cases neg with
     | false =>
      go_enter Try.func123, Try.ntmps123
      go_wp2_with (first
       | (go_at_call 108; go_loud (refine (ref_common (Reads.stays _ _ _ HU.out HM0.out.from_) (Reads.stays _ _ _ HV.out HM0.out.from_) HS.out.1 HS.out.2).mono ?_); rintro e w1 ⟨g, rfl, hb, hg⟩; rw [← HGC.out.1] at hg; have HM1 := Lib.hid (HM0.out.call hb); have HG1 := Lib.hid hg; clear hb hg)
       | (go_at_call 128; refine (ref_div (Reads.stays _ _ _ HU.out HM1.out.from_) HG1.out HS.out.1 HGC.out.2.2 HGC.out.2.1).mono ?_; rintro e w2 ⟨q, r, rfl, hb, hq, hr⟩; rw [← HAB.out.1] at hq; obtain ⟨A1, c1, rfl, h1, h2⟩ := hq; first | rw [← HN.out.1] at h2 ⊢ | rw [← HN.out.1]
          have HQ1 : Hid (Reads (dig B16 a) (.slice A1 _ c1) w2) := ⟨A1, c1, congrArg (fun n => Value.slice A1 n c1) HN.out.1, h1, Nat.le_trans (Nat.le_of_eq HN.out.1.symm) h2⟩
          have HM2 := Lib.hid (HM1.out.call hb); have HG2 := Lib.hid (Reads.stays _ _ _ HG1.out hb); clear hb hr h1 h2 HM1 HG1)
       | (go_at_call 128; go_loud (refine (ref_div (Reads.stays _ _ _ HV.out HM2.out.from_) HG2.out HS.out.2 HGC.out.2.2 HGC.out.2.1).mono ?_); rintro e w3 ⟨q, r, rfl, hb, hq, hr⟩; rw [← HAB.out.2] at hq; obtain ⟨A2, c2, rfl, h1, h2⟩ := hq; rw [← HN.out.2] at h2 ⊢
          have HQ2 : Hid (Reads (dig B16 b) (.slice A2 n2 c2) w3) := ⟨A2, c2, by rw [HN.out.2], h1, by rw [← HN.out.2]; exact h2⟩
          have HM3 := Lib.hid (HM2.out.call hb); have HQ3 := Lib.hid (Reads.stays _ _ _ HQ1.out hb); clear hb hr h1 h2 HM2 HG2 HQ1)
       | (go_at_call 144; refine (HL1.out _ _ HQ3.out).mono ?_; rintro e w4 ⟨rfl, hb⟩
          have HK4 := Lib.hid (((Mem.nil w3).call hb).alloc 35 (u8s (pad B32 8 0))); clear hb HQ3)
       | ((with_reducible refine g_st 35 ?_); refine wpList_stB (cs' := u8s (pad B32 8 a)) rfl _ _ rfl HK4.out 0 rfl rfl rfl u8_size rfl (by rw [u8s_len, pad_len]) (by rw [u8s_len, pad_len]) (u8s_ones _) ?_; intro w5 h5
          have HM5 := Lib.hid (HM3.out.add h5.from_ _ (h5.ok _ (List.Mem.head _))); have HQ5 := Lib.hid (Reads.stays _ _ _ HQ2.out h5.from_); clear h5 HK4 HM3 HQ2)
       | (go_at_call 144; go_loud (refine (HL2.out _ _ HQ5.out).mono ?_); rintro e w6 ⟨rfl, hb⟩
          have HK6 := Lib.hid (((Mem.nil w5).call hb).alloc 35 (u8s (pad B32 8 0))); clear hb HQ5)
       | ((with_reducible refine g_st 35 ?_); go_loud (refine wpList_stB (cs' := u8s (pad B32 8 b)) rfl _ _ rfl HK6.out 0 rfl rfl rfl u8_size rfl (by rw [u8s_len, pad_len]) (by rw [u8s_len, pad_len]) (u8s_ones _) ?_); intro w7 h7
          have HM7 := Lib.hid (HM5.out.add h7.from_ _ (h7.ok _ (List.Mem.head _))); clear h7 HK6 HM5)
       | ((with_reducible refine g_ld 35 ?_); refine wpList_ld rfl _ _ rfl _ rfl _ (HM7.out.ldb u8_row (by rw [u8s_len, pad_len]) (i := 0) rfl _ (Below.refl _ _)) ?_)
       | ((with_reducible refine g_ld 35 ?_); go_loud (refine wpList_ld rfl _ _ rfl _ rfl _ (HM7.out.ldb u8_row (by rw [u8s_len, pad_len]) (i := 1) rfl _ (Below.refl _ _)) ?_))
       | (((with_reducible refine g_bld 91 ?_); refine wpList_val rfl _ (build_f01 false (pad B32 8 a) (pad B32 8 b) (pad_len _ _ _) (pad_len _ _ _) _ rfl rfl rfl) ?_))
       | ((with_reducible refine g_st 91 ?_); go_loud (refine wpList_stB (cs' := FracV.cells ⟨false, a, b⟩) rfl _ _ rfl HM7.out 2 rfl rfl rfl f01_size rfl (FracV.cells_len _) (FracV.cells_len _) (FracV.ones _) ?_); intro w8 h8))
      refine bodyPost_ret (results_box2 rfl _ rfl (h8.ldb f01_row (FracV.cells_len _) (i := 2) rfl _ (Below.refl _ _))) rfl ⟨?_, h8.from_⟩
      rw [HFIT.out, if_pos HF.out]
      rfl
     | true =>
      by_cases ha0 : a = 0
      · have hnz : n1 = 0 := by rw [HN.out.1]; exact len16_zero.2 ha0
        have HZ := Lib.hid ha0
        clear ha0
        subst hnz
        go_enter Try.func123, Try.ntmps123
        go_wp2_with (first
         | (go_at_call 108; go_loud (refine (ref_common (Reads.stays _ _ _ HU.out HM0.out.from_) (Reads.stays _ _ _ HV.out HM0.out.from_) HS.out.1 HS.out.2).mono ?_); rintro e w1 ⟨g, rfl, hb, hg⟩; rw [← HGC.out.1] at hg; have HM1 := Lib.hid (HM0.out.call hb); have HG1 := Lib.hid hg; clear hb hg)
         | (go_at_call 128; refine (ref_div (Reads.stays _ _ _ HU.out HM1.out.from_) HG1.out HS.out.1 HGC.out.2.2 HGC.out.2.1).mono ?_; rintro e w2 ⟨q, r, rfl, hb, hq, hr⟩; rw [← HAB.out.1] at hq; obtain ⟨A1, c1, rfl, h1, h2⟩ := hq; first | rw [← HN.out.1] at h2 ⊢ | rw [← HN.out.1]
            have HQ1 : Hid (Reads (dig B16 a) (.slice A1 _ c1) w2) := ⟨A1, c1, congrArg (fun n => Value.slice A1 n c1) HN.out.1, h1, Nat.le_trans (Nat.le_of_eq HN.out.1.symm) h2⟩
            have HM2 := Lib.hid (HM1.out.call hb); have HG2 := Lib.hid (Reads.stays _ _ _ HG1.out hb); clear hb hr h1 h2 HM1 HG1)
         | (go_at_call 128; go_loud (refine (ref_div (Reads.stays _ _ _ HV.out HM2.out.from_) HG2.out HS.out.2 HGC.out.2.2 HGC.out.2.1).mono ?_); rintro e w3 ⟨q, r, rfl, hb, hq, hr⟩; rw [← HAB.out.2] at hq; obtain ⟨A2, c2, rfl, h1, h2⟩ := hq; rw [← HN.out.2] at h2 ⊢
            have HQ2 : Hid (Reads (dig B16 b) (.slice A2 n2 c2) w3) := ⟨A2, c2, by rw [HN.out.2], h1, by rw [← HN.out.2]; exact h2⟩
            have HM3 := Lib.hid (HM2.out.call hb); have HQ3 := Lib.hid (Reads.stays _ _ _ HQ1.out hb); clear hb hr h1 h2 HM2 HG2 HQ1)
         | (go_at_call 144; refine (HL1.out _ _ HQ3.out).mono ?_; rintro e w4 ⟨rfl, hb⟩
            have HK4 := Lib.hid (((Mem.nil w3).call hb).alloc 35 (u8s (pad B32 8 0))); clear hb HQ3)
         | ((with_reducible refine g_st 35 ?_); refine wpList_stB (cs' := u8s (pad B32 8 a)) rfl _ _ rfl HK4.out 0 rfl rfl rfl u8_size rfl (by rw [u8s_len, pad_len]) (by rw [u8s_len, pad_len]) (u8s_ones _) ?_; intro w5 h5
            have HM5 := Lib.hid (HM3.out.add h5.from_ _ (h5.ok _ (List.Mem.head _))); have HQ5 := Lib.hid (Reads.stays _ _ _ HQ2.out h5.from_); clear h5 HK4 HM3 HQ2)
         | (go_at_call 144; go_loud (refine (HL2.out _ _ HQ5.out).mono ?_); rintro e w6 ⟨rfl, hb⟩
            have HK6 := Lib.hid (((Mem.nil w5).call hb).alloc 35 (u8s (pad B32 8 0))); clear hb HQ5)
         | ((with_reducible refine g_st 35 ?_); go_loud (refine wpList_stB (cs' := u8s (pad B32 8 b)) rfl _ _ rfl HK6.out 0 rfl rfl rfl u8_size rfl (by rw [u8s_len, pad_len]) (by rw [u8s_len, pad_len]) (u8s_ones _) ?_); intro w7 h7
            have HM7 := Lib.hid (HM5.out.add h7.from_ _ (h7.ok _ (List.Mem.head _))); clear h7 HK6 HM5)
         | ((with_reducible refine g_ld 35 ?_); refine wpList_ld rfl _ _ rfl _ rfl _ (HM7.out.ldb u8_row (by rw [u8s_len, pad_len]) (i := 0) rfl _ (Below.refl _ _)) ?_)
         | ((with_reducible refine g_ld 35 ?_); go_loud (refine wpList_ld rfl _ _ rfl _ rfl _ (HM7.out.ldb u8_row (by rw [u8s_len, pad_len]) (i := 1) rfl _ (Below.refl _ _)) ?_))
         | (((with_reducible refine g_bld 91 ?_); refine wpList_val rfl _ (build_f01 false (pad B32 8 a) (pad B32 8 b) (pad_len _ _ _) (pad_len _ _ _) _ rfl rfl rfl) ?_))
         | ((with_reducible refine g_st 91 ?_); go_loud (refine wpList_stB (cs' := FracV.cells ⟨false, a, b⟩) rfl _ _ rfl HM7.out 2 rfl rfl rfl f01_size rfl (FracV.cells_len _) (FracV.cells_len _) (FracV.ones _) ?_); intro w8 h8))
        refine bodyPost_ret (results_box2 rfl _ rfl (h8.ldb f01_row (FracV.cells_len _) (i := 2) rfl _ (Below.refl _ _))) rfl ⟨?_, h8.from_⟩
        rw [HFIT.out, if_pos HF.out]
        simp [HZ.out]
        rfl
      · have hnz : n1 ≠ 0 := by rw [HN.out.1]; exact fun h => ha0 (len16_zero.1 h)
        have HZ := Lib.hid ha0
        have hz : 0 < n1 := by omega
        clear ha0 hnz
        go_enter Try.func123, Try.ntmps123
        go_wp2_with (first
         | (go_at_call 108; go_loud (refine (ref_common (Reads.stays _ _ _ HU.out HM0.out.from_) (Reads.stays _ _ _ HV.out HM0.out.from_) HS.out.1 HS.out.2).mono ?_); rintro e w1 ⟨g, rfl, hb, hg⟩; rw [← HGC.out.1] at hg; have HM1 := Lib.hid (HM0.out.call hb); have HG1 := Lib.hid hg; clear hb hg)
         | (go_at_call 128; refine (ref_div (Reads.stays _ _ _ HU.out HM1.out.from_) HG1.out HS.out.1 HGC.out.2.2 HGC.out.2.1).mono ?_; rintro e w2 ⟨q, r, rfl, hb, hq, hr⟩; rw [← HAB.out.1] at hq; obtain ⟨A1, c1, rfl, h1, h2⟩ := hq; first | rw [← HN.out.1] at h2 ⊢ | rw [← HN.out.1]
            have HQ1 : Hid (Reads (dig B16 a) (.slice A1 _ c1) w2) := ⟨A1, c1, congrArg (fun n => Value.slice A1 n c1) HN.out.1, h1, Nat.le_trans (Nat.le_of_eq HN.out.1.symm) h2⟩
            have HM2 := Lib.hid (HM1.out.call hb); have HG2 := Lib.hid (Reads.stays _ _ _ HG1.out hb); clear hb hr h1 h2 HM1 HG1)
         | (go_at_call 128; go_loud (refine (ref_div (Reads.stays _ _ _ HV.out HM2.out.from_) HG2.out HS.out.2 HGC.out.2.2 HGC.out.2.1).mono ?_); rintro e w3 ⟨q, r, rfl, hb, hq, hr⟩; rw [← HAB.out.2] at hq; obtain ⟨A2, c2, rfl, h1, h2⟩ := hq; rw [← HN.out.2] at h2 ⊢
            have HQ2 : Hid (Reads (dig B16 b) (.slice A2 n2 c2) w3) := ⟨A2, c2, by rw [HN.out.2], h1, by rw [← HN.out.2]; exact h2⟩
            have HM3 := Lib.hid (HM2.out.call hb); have HQ3 := Lib.hid (Reads.stays _ _ _ HQ1.out hb); clear hb hr h1 h2 HM2 HG2 HQ1)
         | (go_at_call 144; refine (HL1.out _ _ HQ3.out).mono ?_; rintro e w4 ⟨rfl, hb⟩
            have HK4 := Lib.hid (((Mem.nil w3).call hb).alloc 35 (u8s (pad B32 8 0))); clear hb HQ3)
         | ((with_reducible refine g_st 35 ?_); refine wpList_stB (cs' := u8s (pad B32 8 a)) rfl _ _ rfl HK4.out 0 rfl rfl rfl u8_size rfl (by rw [u8s_len, pad_len]) (by rw [u8s_len, pad_len]) (u8s_ones _) ?_; intro w5 h5
            have HM5 := Lib.hid (HM3.out.add h5.from_ _ (h5.ok _ (List.Mem.head _))); have HQ5 := Lib.hid (Reads.stays _ _ _ HQ2.out h5.from_); clear h5 HK4 HM3 HQ2)
         | (go_at_call 144; go_loud (refine (HL2.out _ _ HQ5.out).mono ?_); rintro e w6 ⟨rfl, hb⟩
            have HK6 := Lib.hid (((Mem.nil w5).call hb).alloc 35 (u8s (pad B32 8 0))); clear hb HQ5)
         | ((with_reducible refine g_st 35 ?_); go_loud (refine wpList_stB (cs' := u8s (pad B32 8 b)) rfl _ _ rfl HK6.out 0 rfl rfl rfl u8_size rfl (by rw [u8s_len, pad_len]) (by rw [u8s_len, pad_len]) (u8s_ones _) ?_); intro w7 h7
            have HM7 := Lib.hid (HM5.out.add h7.from_ _ (h7.ok _ (List.Mem.head _))); clear h7 HK6 HM5)
         | ((with_reducible refine g_ld 35 ?_); refine wpList_ld rfl _ _ rfl _ rfl _ (HM7.out.ldb u8_row (by rw [u8s_len, pad_len]) (i := 0) rfl _ (Below.refl _ _)) ?_)
         | ((with_reducible refine g_ld 35 ?_); go_loud (refine wpList_ld rfl _ _ rfl _ rfl _ (HM7.out.ldb u8_row (by rw [u8s_len, pad_len]) (i := 1) rfl _ (Below.refl _ _)) ?_))
         | (((with_reducible refine g_bld 91 ?_); refine wpList_val rfl _ (build_f01 true (pad B32 8 a) (pad B32 8 b) (pad_len _ _ _) (pad_len _ _ _) _ rfl rfl rfl) ?_))
         | ((with_reducible refine g_st 91 ?_); go_loud (refine wpList_stB (cs' := FracV.cells ⟨true, a, b⟩) rfl _ _ rfl HM7.out 2 rfl rfl rfl f01_size rfl (FracV.cells_len _) (FracV.cells_len _) (FracV.ones _) ?_); intro w8 h8))
        refine bodyPost_ret (results_box2 rfl _ rfl (h8.ldb f01_row (FracV.cells_len _) (i := 2) rfl _ (Below.refl _ _))) rfl ⟨?_, h8.from_⟩
        rw [HFIT.out, if_pos HF.out]
        simp [HZ.out]
        rfl
   · rw [if_neg h2, decide_eq_false h2] at HL2
     have HF : Hid (¬ (a < top256 ∧ b < top256)) := fun h => h2 ((top16 b).1 h.2)
     clear h1 h2
     go_enter Try.func123, Try.ntmps123
     go_wp2_with (first
      | (go_at_call 108; go_loud (refine (ref_common (Reads.stays _ _ _ HU.out HM0.out.from_) (Reads.stays _ _ _ HV.out HM0.out.from_) HS.out.1 HS.out.2).mono ?_); rintro e w1 ⟨g, rfl, hb, hg⟩; rw [← HGC.out.1] at hg; have HM1 := Lib.hid (HM0.out.call hb); have HG1 := Lib.hid hg; clear hb hg)
      | (go_at_call 128; refine (ref_div (Reads.stays _ _ _ HU.out HM1.out.from_) HG1.out HS.out.1 HGC.out.2.2 HGC.out.2.1).mono ?_; rintro e w2 ⟨q, r, rfl, hb, hq, hr⟩; rw [← HAB.out.1] at hq; obtain ⟨A1, c1, rfl, h1, h2⟩ := hq; first | rw [← HN.out.1] at h2 ⊢ | rw [← HN.out.1]
         have HQ1 : Hid (Reads (dig B16 a) (.slice A1 _ c1) w2) := ⟨A1, c1, congrArg (fun n => Value.slice A1 n c1) HN.out.1, h1, Nat.le_trans (Nat.le_of_eq HN.out.1.symm) h2⟩
         have HM2 := Lib.hid (HM1.out.call hb); have HG2 := Lib.hid (Reads.stays _ _ _ HG1.out hb); clear hb hr h1 h2 HM1 HG1)
      | (go_at_call 128; go_loud (refine (ref_div (Reads.stays _ _ _ HV.out HM2.out.from_) HG2.out HS.out.2 HGC.out.2.2 HGC.out.2.1).mono ?_); rintro e w3 ⟨q, r, rfl, hb, hq, hr⟩; rw [← HAB.out.2] at hq; obtain ⟨A2, c2, rfl, h1, h2⟩ := hq; rw [← HN.out.2] at h2 ⊢
         have HQ2 : Hid (Reads (dig B16 b) (.slice A2 n2 c2) w3) := ⟨A2, c2, by rw [HN.out.2], h1, by rw [← HN.out.2]; exact h2⟩
         have HM3 := Lib.hid (HM2.out.call hb); have HQ3 := Lib.hid (Reads.stays _ _ _ HQ1.out hb); clear hb hr h1 h2 HM2 HG2 HQ1)
      | (go_at_call 144; refine (HL1.out _ _ HQ3.out).mono ?_; rintro e w4 ⟨rfl, hb⟩
         have HK4 := Lib.hid (((Mem.nil w3).call hb).alloc 35 (u8s (pad B32 8 0))); clear hb HQ3)
      | ((with_reducible refine g_st 35 ?_); refine wpList_stB (cs' := u8s (pad B32 8 a)) rfl _ _ rfl HK4.out 0 rfl rfl rfl u8_size rfl (by rw [u8s_len, pad_len]) (by rw [u8s_len, pad_len]) (u8s_ones _) ?_; intro w5 h5
         have HM5 := Lib.hid (HM3.out.add h5.from_ _ (h5.ok _ (List.Mem.head _))); have HQ5 := Lib.hid (Reads.stays _ _ _ HQ2.out h5.from_); clear h5 HK4 HM3 HQ2)
      | (go_at_call 144; go_loud (refine (HL2.out _ _ HQ5.out).mono ?_); rintro e w6 ⟨rfl, hb⟩
         have HK6 := Lib.hid (((Mem.nil w5).call hb).alloc 35 (u8s (pad B32 8 0))); clear hb HQ5)
      | ((with_reducible refine g_st 35 ?_); go_loud (refine wpList_stB (cs' := u8s (pad B32 8 0)) rfl _ _ rfl HK6.out 0 rfl rfl rfl u8_size rfl (by rw [u8s_len, pad_len]) (by rw [u8s_len, pad_len]) (u8s_ones _) ?_); intro w7 h7
         have HM7 := Lib.hid (HM5.out.add h7.from_ _ (h7.ok _ (List.Mem.head _))); clear h7 HK6 HM5)
      | ((with_reducible refine g_ld 35 ?_); refine wpList_ld rfl _ _ rfl _ rfl _ (HM7.out.ldb u8_row (by rw [u8s_len, pad_len]) (i := 0) rfl _ (Below.refl _ _)) ?_)
      | ((with_reducible refine g_ld 35 ?_); go_loud (refine wpList_ld rfl _ _ rfl _ rfl _ (HM7.out.ldb u8_row (by rw [u8s_len, pad_len]) (i := 1) rfl _ (Below.refl _ _)) ?_))
      | (fail)
      | ((with_reducible refine g_st 91 ?_); go_loud (refine wpList_stB (cs' := FracV.cells zeroF) rfl _ _ rfl HM7.out 2 rfl rfl rfl f01_size rfl (FracV.cells_len _) (FracV.cells_len _) (FracV.ones _) ?_); intro w8 h8))
     refine bodyPost_ret (results_box2 rfl _ rfl (h8.ldb f01_row (FracV.cells_len _) (i := 2) rfl _ (Below.refl _ _))) rfl ⟨?_, h8.from_⟩
     rw [HFIT.out, if_neg HF.out]
     rfl
 · rw [if_neg h1, decide_eq_false h1] at HL1
   have HF : Hid (¬ (a < top256 ∧ b < top256)) := fun h => h1 ((top16 a).1 h.1)
   clear h1
   obtain ⟨b2, fb, hL⟩ : ∃ b2 fb, ∀ (q : Value) (w1 : World), Reads (dig B16 b) q w1 → Calls Try.prog 144 #[q] w1 fun e w' => e = .returned (.tuple #[.agg (u8s (pad B32 8 b2)).toArray, .bool fb]) ∧ From w1 w' := by
    by_cases h2 : len16 b ≤ 16
    · have h3 := HL2.out
      rw [if_pos h2, decide_eq_true h2] at h3
      exact ⟨b, true, h3⟩
    · have h3 := HL2.out
      rw [if_neg h2, decide_eq_false h2] at h3
      exact ⟨0, false, h3⟩
   clear HL2
   have HL2 := Lib.hid hL
   clear hL
   go_enter Try.func123, Try.ntmps123
   go_wp2_with (first
    | (go_at_call 108; go_loud (refine (ref_common (Reads.stays _ _ _ HU.out HM0.out.from_) (Reads.stays _ _ _ HV.out HM0.out.from_) HS.out.1 HS.out.2).mono ?_); rintro e w1 ⟨g, rfl, hb, hg⟩; rw [← HGC.out.1] at hg; have HM1 := Lib.hid (HM0.out.call hb); have HG1 := Lib.hid hg; clear hb hg)
    | (go_at_call 128; refine (ref_div (Reads.stays _ _ _ HU.out HM1.out.from_) HG1.out HS.out.1 HGC.out.2.2 HGC.out.2.1).mono ?_; rintro e w2 ⟨q, r, rfl, hb, hq, hr⟩; rw [← HAB.out.1] at hq; obtain ⟨A1, c1, rfl, h1, h2⟩ := hq; first | rw [← HN.out.1] at h2 ⊢ | rw [← HN.out.1]
       have HQ1 : Hid (Reads (dig B16 a) (.slice A1 _ c1) w2) := ⟨A1, c1, congrArg (fun n => Value.slice A1 n c1) HN.out.1, h1, Nat.le_trans (Nat.le_of_eq HN.out.1.symm) h2⟩
       have HM2 := Lib.hid (HM1.out.call hb); have HG2 := Lib.hid (Reads.stays _ _ _ HG1.out hb); clear hb hr h1 h2 HM1 HG1)
    | (go_at_call 128; go_loud (refine (ref_div (Reads.stays _ _ _ HV.out HM2.out.from_) HG2.out HS.out.2 HGC.out.2.2 HGC.out.2.1).mono ?_); rintro e w3 ⟨q, r, rfl, hb, hq, hr⟩; rw [← HAB.out.2] at hq; obtain ⟨A2, c2, rfl, h1, h2⟩ := hq; rw [← HN.out.2] at h2 ⊢
       have HQ2 : Hid (Reads (dig B16 b) (.slice A2 n2 c2) w3) := ⟨A2, c2, by rw [HN.out.2], h1, by rw [← HN.out.2]; exact h2⟩
       have HM3 := Lib.hid (HM2.out.call hb); have HQ3 := Lib.hid (Reads.stays _ _ _ HQ1.out hb); clear hb hr h1 h2 HM2 HG2 HQ1)
    | (go_at_call 144; refine (HL1.out _ _ HQ3.out).mono ?_; rintro e w4 ⟨rfl, hb⟩
       have HK4 := Lib.hid (((Mem.nil w3).call hb).alloc 35 (u8s (pad B32 8 0))); clear hb HQ3)
    | ((with_reducible refine g_st 35 ?_); refine wpList_stB (cs' := u8s (pad B32 8 0)) rfl _ _ rfl HK4.out 0 rfl rfl rfl u8_size rfl (by rw [u8s_len, pad_len]) (by rw [u8s_len, pad_len]) (u8s_ones _) ?_; intro w5 h5
       have HM5 := Lib.hid (HM3.out.add h5.from_ _ (h5.ok _ (List.Mem.head _))); have HQ5 := Lib.hid (Reads.stays _ _ _ HQ2.out h5.from_); clear h5 HK4 HM3 HQ2)
    | (go_at_call 144; go_loud (refine (HL2.out _ _ HQ5.out).mono ?_); rintro e w6 ⟨rfl, hb⟩
       have HK6 := Lib.hid (((Mem.nil w5).call hb).alloc 35 (u8s (pad B32 8 0))); clear hb HQ5)
    | ((with_reducible refine g_st 35 ?_); go_loud (refine wpList_stB (cs' := u8s (pad B32 8 b2)) rfl _ _ rfl HK6.out 0 rfl rfl rfl u8_size rfl (by rw [u8s_len, pad_len]) (by rw [u8s_len, pad_len]) (u8s_ones _) ?_); intro w7 h7
       have HM7 := Lib.hid (HM5.out.add h7.from_ _ (h7.ok _ (List.Mem.head _))); clear h7 HK6 HM5)
    | ((with_reducible refine g_ld 35 ?_); refine wpList_ld rfl _ _ rfl _ rfl _ (HM7.out.ldb u8_row (by rw [u8s_len, pad_len]) (i := 0) rfl _ (Below.refl _ _)) ?_)
    | ((with_reducible refine g_ld 35 ?_); go_loud (refine wpList_ld rfl _ _ rfl _ rfl _ (HM7.out.ldb u8_row (by rw [u8s_len, pad_len]) (i := 1) rfl _ (Below.refl _ _)) ?_))
    | (fail)
    | ((with_reducible refine g_st 91 ?_); go_loud (refine wpList_stB (cs' := FracV.cells zeroF) rfl _ _ rfl HM7.out 2 rfl rfl rfl f01_size rfl (FracV.cells_len _) (FracV.cells_len _) (FracV.ones _) ?_); intro w8 h8))
   refine bodyPost_ret (results_box2 rfl _ rfl (h8.ldb f01_row (FracV.cells_len _) (i := 2) rfl _ (Below.refl _ _))) rfl ⟨?_, h8.from_⟩
   rw [HFIT.out, if_neg HF.out]
   rfl
theorem cf_digits (w : World) (args : Array Value) : (callFunc 106 args).run Try.prog w = .ok (.enter 106 args) w := by
 go_simp
theorem calls_one {x : Nat} {u : Value} {w : World} (hu : Reads (dig B16 x) u w) (hx : len16 x ≤ 1000000) :
 Calls Try.prog 107 #[u] w fun e w' => e = .returned (.bool (decide (x = 1))) ∧ w' = w := by
 obtain ⟨A, c, rfl, h2, _⟩ := hu
 exact ref_one A c _ x rfl w h2 hx
theorem cells_num (f : FracV) : (f.cells.drop 1).take 8 = u8s (pad B32 8 f.num) := by
 cases f with
 | mk b x y =>
  rw [u8s_pad, List.drop_succ_cons, List.drop_zero]
  exact List.take_left' (by rw [u8s_len, pad_len])
theorem cells_den (f : FracV) : (f.cells.drop 9).take 8 = u8s (pad B32 8 f.den) := by
 cases f with
 | mk b x y =>
  rw [u8s_pad, List.drop_succ_cons, List.drop_left' (by rw [u8s_len, pad_len]), List.take_of_length_le (by rw [u8s_len, pad_len]; exact Nat.le_refl _)]
theorem cells_neg (f : FracV) : f.cells[0]? = some (.bool f.neg) := rfl
set_option maxRecDepth 100000 in
set_option maxHeartbeats 1000000 in
theorem ref_Right (f : FracV) (hf : f.fits) (w : World) : Calls Try.prog 78 #[f.val] w fun e w' => e = .returned (.bool f.right) ∧ From w w' := by
 have HD1 := Lib.hid (ref_digits f.num hf.1)
 have HD2 := Lib.hid (ref_digits f.den hf.2)
 have HM0 := Lib.hid ((Mem.nil w).alloc 91 f.cells)
 have HLN := Lib.hid (HM0.out.ldp u8_row (by rw [u8s_len, pad_len]) (i := 0) rfl (cells_num f))
 have HLD := Lib.hid (HM0.out.ldp u8_row (by rw [u8s_len, pad_len]) (i := 0) rfl (cells_den f))
 obtain ⟨n1, hn1⟩ : ∃ n1, n1 = (dig B16 f.num).length := ⟨_, rfl⟩
 obtain ⟨n2, hn2⟩ : ∃ n2, n2 = (dig B16 f.den).length := ⟨_, rfl⟩
 have HL := Lib.hid (And.intro hn1 hn2)
 have l1 : len16 f.num ≤ 16 := (top16 _).1 hf.1
 have l2 : len16 f.den ≤ 16 := (top16 _).1 hf.2
 unfold FracV.val
 by_cases hd0 : f.den = 0
 · have hz : n2 = 0 := by rw [hn2]; exact len16_zero.2 hd0
   have HZ := Lib.hid hd0
   clear hn1 hn2 hd0 hf l1 l2
   subst hz
   go_enter Try.func78, Try.ntmps78
   go_wp2
   refine wp_region_run 6 [.val (Value.pointer (some ⟨w.heap.size, 1, none⟩)), .val (Value.agg (u8s (pad B32 8 f.num)).toArray), .new (Reads (dig B16 f.num)), .val (Value.pointer (some ⟨w.heap.size, 9, none⟩)), .val (Value.agg (u8s (pad B32 8 f.den)).toArray), .new (Reads (dig B16 f.den))] (by kernel_rfl) (by kernel_rfl) (Nat.le_of_ble_eq_true (by kernel_rfl)) (by kernel_rfl) (by kernel_rfl) ?_ ?_ ?_
   · exact ⟨Reads.stays, Reads.stays, trivial⟩
   · exact ⟨(fun _ _ => ok_field (k := 1) rfl fl91_1 rfl), (fun w hb => ok_load rfl ((HLN.out) w hb)), (fun w hb => .inr (ok_call rfl rfl (cf_digits _ _) (HD1.out w))), (fun _ _ => ok_field (k := 9) rfl fl91_2 rfl), (fun w hb => ok_load rfl ((HLD.out) w hb)), (fun w hb => .inr (ok_call rfl rfl (cf_digits _ _) (HD2.out w))), trivial⟩
   intro w7 hb7
   simp only [contS, List.take_succ_cons, List.take_zero, List.drop_succ_cons, List.drop_zero]
   intro u7 hu7 u10 hu10
   simp only [Act.put, List.setIfInBounds_toArray, List.set_cons_succ, List.set_cons_zero]
   have HM7 := Lib.hid (HM0.out.call hb7)
   have HU := Lib.hid hu7
   have HV := Lib.hid hu10
   obtain ⟨A1, c1, rfl, _, _⟩ := hu7
   obtain ⟨A2, c2, rfl, _, _⟩ := hu10
   rw [← HL.out.1] at HU ⊢
   rw [← HL.out.2] at HV ⊢
   clear hb7 HM0 HLN HLD
   go_wp2
   go_ret
   exact ⟨by unfold FracV.right; rw [HZ.out]; rfl, HM7.out.from_⟩
 · have hz : n2 ≠ 0 := by rw [hn2]; exact fun h => hd0 (len16_zero.1 h)
   have hz2 : ((n2 : Int) == 0) = false := by simp; omega
   have hg : len16 (Nat.gcd f.num f.den) ≤ 16 := Nat.le_trans (len16_mono (Nat.le_of_dvd (Nat.pos_of_ne_zero hd0) (Nat.gcd_dvd_right _ _))) l2
   have HS := Lib.hid (And.intro l1 (And.intro l2 hg))
   have HZ := Lib.hid hd0
   clear hd0 hf l1 l2 hg hn2
   cases hn : f.neg with
   | false =>
    have HE := Lib.hid hn
    clear hn hn1
    go_enter Try.func78, Try.ntmps78
    go_wp2
    refine wp_region_run 6 [.val (Value.pointer (some ⟨w.heap.size, 1, none⟩)), .val (Value.agg (u8s (pad B32 8 f.num)).toArray), .new (Reads (dig B16 f.num)), .val (Value.pointer (some ⟨w.heap.size, 9, none⟩)), .val (Value.agg (u8s (pad B32 8 f.den)).toArray), .new (Reads (dig B16 f.den))] (by kernel_rfl) (by kernel_rfl) (Nat.le_of_ble_eq_true (by kernel_rfl)) (by kernel_rfl) (by kernel_rfl) ?_ ?_ ?_
    · exact ⟨Reads.stays, Reads.stays, trivial⟩
    · exact ⟨(fun _ _ => ok_field (k := 1) rfl fl91_1 rfl), (fun w hb => ok_load rfl ((HLN.out) w hb)), (fun w hb => .inr (ok_call rfl rfl (cf_digits _ _) (HD1.out w))), (fun _ _ => ok_field (k := 9) rfl fl91_2 rfl), (fun w hb => ok_load rfl ((HLD.out) w hb)), (fun w hb => .inr (ok_call rfl rfl (cf_digits _ _) (HD2.out w))), trivial⟩
    intro w7 hb7
    simp only [contS, List.take_succ_cons, List.take_zero, List.drop_succ_cons, List.drop_zero]
    intro u7 hu7 u10 hu10
    simp only [Act.put, List.setIfInBounds_toArray, List.set_cons_succ, List.set_cons_zero]
    have HM7 := Lib.hid (HM0.out.call hb7)
    have HU := Lib.hid hu7
    have HV := Lib.hid hu10
    obtain ⟨A1, c1, rfl, _, _⟩ := hu7
    obtain ⟨A2, c2, rfl, _, _⟩ := hu10
    rw [← HL.out.1] at HU ⊢
    rw [← HL.out.2] at HV ⊢
    clear hb7 HM0 HLN HLD
    go_wp2_with (first
     | ((with_reducible refine g_ld 4 ?_); refine wpList_ldw rfl _ _ rfl _ rfl _ (HM7.out.ldc ct4 (i := 0) (j := 0) (v := .bool false) rfl (by rw [cells_neg, HE.out]) _ (Below.refl _ _)) ?_)
     | (go_at_call 108; go_loud (refine (ref_common HU.out HV.out (by have := HS.out.1; omega) (by have := HS.out.2.1; omega)).mono ?_); rintro e w8 ⟨g, rfl, hb, hg⟩; have HM8 := Lib.hid (HM7.out.call hb); have HG := Lib.hid hg; clear hb hg)
     | (go_at_call 107; go_loud (refine (calls_one HG.out (by have := HS.out.2.2; omega)).mono ?_); rintro e w9 ⟨rfl, rfl⟩))
    go_ret
    exact ⟨by unfold FracV.right; rw [HE.out, decide_eq_true HZ.out]; simp, HM8.out.from_⟩
   | true =>
    have HE := Lib.hid hn
    clear hn
    by_cases hx0 : f.num = 0
    · have hy : n1 = 0 := by rw [hn1]; exact len16_zero.2 hx0
      have HX := Lib.hid hx0
      clear hx0 hn1
      subst hy
      go_enter Try.func78, Try.ntmps78
      go_wp2
      refine wp_region_run 6 [.val (Value.pointer (some ⟨w.heap.size, 1, none⟩)), .val (Value.agg (u8s (pad B32 8 f.num)).toArray), .new (Reads (dig B16 f.num)), .val (Value.pointer (some ⟨w.heap.size, 9, none⟩)), .val (Value.agg (u8s (pad B32 8 f.den)).toArray), .new (Reads (dig B16 f.den))] (by kernel_rfl) (by kernel_rfl) (Nat.le_of_ble_eq_true (by kernel_rfl)) (by kernel_rfl) (by kernel_rfl) ?_ ?_ ?_
      · exact ⟨Reads.stays, Reads.stays, trivial⟩
      · exact ⟨(fun _ _ => ok_field (k := 1) rfl fl91_1 rfl), (fun w hb => ok_load rfl ((HLN.out) w hb)), (fun w hb => .inr (ok_call rfl rfl (cf_digits _ _) (HD1.out w))), (fun _ _ => ok_field (k := 9) rfl fl91_2 rfl), (fun w hb => ok_load rfl ((HLD.out) w hb)), (fun w hb => .inr (ok_call rfl rfl (cf_digits _ _) (HD2.out w))), trivial⟩
      intro w7 hb7
      simp only [contS, List.take_succ_cons, List.take_zero, List.drop_succ_cons, List.drop_zero]
      intro u7 hu7 u10 hu10
      simp only [Act.put, List.setIfInBounds_toArray, List.set_cons_succ, List.set_cons_zero]
      have HM7 := Lib.hid (HM0.out.call hb7)
      have HU := Lib.hid hu7
      have HV := Lib.hid hu10
      obtain ⟨A1, c1, rfl, _, _⟩ := hu7
      obtain ⟨A2, c2, rfl, _, _⟩ := hu10
      rw [← HL.out.1] at HU ⊢
      rw [← HL.out.2] at HV ⊢
      clear hb7 HM0 HLN HLD
      go_wp2_with (first
       | ((with_reducible refine g_ld 4 ?_); refine wpList_ldw rfl _ _ rfl _ rfl _ (HM7.out.ldc ct4 (i := 0) (j := 0) (v := .bool true) rfl (by rw [cells_neg, HE.out]) _ (Below.refl _ _)) ?_)
       | (go_at_call 108; go_loud (refine (ref_common HU.out HV.out (by have := HS.out.1; omega) (by have := HS.out.2.1; omega)).mono ?_); rintro e w8 ⟨g, rfl, hb, hg⟩; have HM8 := Lib.hid (HM7.out.call hb); have HG := Lib.hid hg; clear hb hg)
       | (go_at_call 107; go_loud (refine (calls_one HG.out (by have := HS.out.2.2; omega)).mono ?_); rintro e w9 ⟨rfl, rfl⟩))
      go_ret
      exact ⟨by unfold FracV.right; rw [HE.out, HX.out]; simp, HM7.out.from_⟩
    · have hy : n1 ≠ 0 := by rw [hn1]; exact fun h => hx0 (len16_zero.1 h)
      have hy2 : ((n1 : Int) == 0) = false := by simp; omega
      have HX := Lib.hid hx0
      clear hx0 hn1
      go_enter Try.func78, Try.ntmps78
      go_wp2
      refine wp_region_run 6 [.val (Value.pointer (some ⟨w.heap.size, 1, none⟩)), .val (Value.agg (u8s (pad B32 8 f.num)).toArray), .new (Reads (dig B16 f.num)), .val (Value.pointer (some ⟨w.heap.size, 9, none⟩)), .val (Value.agg (u8s (pad B32 8 f.den)).toArray), .new (Reads (dig B16 f.den))] (by kernel_rfl) (by kernel_rfl) (Nat.le_of_ble_eq_true (by kernel_rfl)) (by kernel_rfl) (by kernel_rfl) ?_ ?_ ?_
      · exact ⟨Reads.stays, Reads.stays, trivial⟩
      · exact ⟨(fun _ _ => ok_field (k := 1) rfl fl91_1 rfl), (fun w hb => ok_load rfl ((HLN.out) w hb)), (fun w hb => .inr (ok_call rfl rfl (cf_digits _ _) (HD1.out w))), (fun _ _ => ok_field (k := 9) rfl fl91_2 rfl), (fun w hb => ok_load rfl ((HLD.out) w hb)), (fun w hb => .inr (ok_call rfl rfl (cf_digits _ _) (HD2.out w))), trivial⟩
      intro w7 hb7
      simp only [contS, List.take_succ_cons, List.take_zero, List.drop_succ_cons, List.drop_zero]
      intro u7 hu7 u10 hu10
      simp only [Act.put, List.setIfInBounds_toArray, List.set_cons_succ, List.set_cons_zero]
      have HM7 := Lib.hid (HM0.out.call hb7)
      have HU := Lib.hid hu7
      have HV := Lib.hid hu10
      obtain ⟨A1, c1, rfl, _, _⟩ := hu7
      obtain ⟨A2, c2, rfl, _, _⟩ := hu10
      rw [← HL.out.1] at HU ⊢
      rw [← HL.out.2] at HV ⊢
      clear hb7 HM0 HLN HLD
      go_wp2_with (first
       | ((with_reducible refine g_ld 4 ?_); refine wpList_ldw rfl _ _ rfl _ rfl _ (HM7.out.ldc ct4 (i := 0) (j := 0) (v := .bool true) rfl (by rw [cells_neg, HE.out]) _ (Below.refl _ _)) ?_)
       | (go_at_call 108; go_loud (refine (ref_common HU.out HV.out (by have := HS.out.1; omega) (by have := HS.out.2.1; omega)).mono ?_); rintro e w8 ⟨g, rfl, hb, hg⟩; have HM8 := Lib.hid (HM7.out.call hb); have HG := Lib.hid hg; clear hb hg)
       | (go_at_call 107; go_loud (refine (calls_one HG.out (by have := HS.out.2.2; omega)).mono ?_); rintro e w9 ⟨rfl, rfl⟩))
      go_ret
      exact ⟨by unfold FracV.right; rw [HE.out, decide_eq_true HZ.out, decide_eq_false HX.out]; simp, HM8.out.from_⟩
end Go.Proofs.Ytcdfnlgimbecgaa
