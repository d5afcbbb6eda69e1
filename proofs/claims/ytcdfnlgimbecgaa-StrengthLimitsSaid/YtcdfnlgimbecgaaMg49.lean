/-
  frac: Floor.
  StrengthLimits, plain: the whole number that is just enough for a fraction, and what is beyond it; frames that differ in their limits alone.
-/
import Derived.Test.YtcdfnlgimbecgaaMg31
import Derived.Test.YtcdfnlgimbecgaaMg42

namespace Go.Proofs.Ytcdfnlgimbecgaa
open Go.RowKit

/-- how far the whole number is from 0 -/
def floorQ (f : FracV) : Nat := if f.neg = true ∧ 0 < f.num % f.den then f.num / f.den + 1 else f.num / f.den
def floorL (f : FracV) : Int × Int :=
  if f.right = false then (0, 2) else if 9223372036854775808 < floorQ f ∨ (floorQ f = 9223372036854775808 ∧ f.neg = false) then (0, 3) else (if f.neg = true then -(floorQ f : Int) else (floorQ f : Int), 0)
theorem neg_u64 {q : Nat} (h : q ≤ 9223372036854775808) : IntKind.u64.wrap (-(q : Int)) = if q = 0 then 0 else 18446744073709551616 - (q : Int) := by
  by_cases h0 : q = 0
  · rw [if_pos h0, h0]; rfl
  · rw [if_neg h0]
    unfold IntKind.wrap
    simp [IntKind.bits, IntKind.signed]
    omega
theorem neg_i64 {q : Nat} (h : q ≤ 9223372036854775808) : IntKind.i64.wrap (if q = 0 then 0 else 18446744073709551616 - (q : Int)) = -(q : Int) := by
  by_cases h0 : q = 0
  · rw [if_pos h0, h0]; rfl
  · rw [if_neg h0]
    unfold IntKind.wrap
    simp [IntKind.bits, IntKind.signed]
    split <;> omega
theorem floor_len {q : Nat} : (2 : Int) < (len32 q : Int) ↔ 18446744073709551616 ≤ q := by
  have h := dig_len_lt_iff hB32 (n := q) (k := 2)
  have e : B32 ^ 2 = 18446744073709551616 := by decide
  rw [e] at h
  constructor
  · intro h1; exact h.1 (by unfold len32 at h1; omega)
  · intro h1; have := h.2 h1; unfold len32; omega


set_option maxRecDepth 100000 in
set_option maxHeartbeats 8000000 in
theorem frac_Floor (f : FracV) (hf : f.fits) (w : World) : Calls Try.prog 21 #[f.val] w (CmpPost w (floorL f)) := by
  obtain ⟨W0, hW0⟩ : ∃ W0, W0 = w.alloc (.cells f.cells.toArray 37) := ⟨_, rfl⟩
  have HB : Hid (From w W0) := by unfold Hid; rw [hW0]; exact (Below.refl _ _).alloc (Nat.le_refl _) _
  have HF : Hid (FB W0 w.heap.size f) := by unfold Hid; rw [hW0]; exact FB.new w f
  have HR1 := Lib.hid (fun w1 => frac_Right f hf w1)
  have HP1 := Lib.hid (fun w1 => frac_parts f hf w1)
  have l1 := len_top_le hf.1
  have l2 := len_top_le hf.2
  have hq8 : len32 (f.num / f.den) ≤ 8 := len_top_le (Nat.lt_of_le_of_lt (Nat.div_le_self _ _) hf.1)
  have HLN := Lib.hid (And.intro l1 (And.intro l2 hq8))
  clear l1 l2 hq8
  unfold FracV.val at HR1 HP1 ⊢
  unfold CmpPost
  cases hr1 : f.right with
  | false =>
    have hv : floorL f = (0, 2) := by unfold floorL; rw [if_pos hr1]
    rw [hv]
    rw [hr1] at HR1
    go_enter Try.func21, Try.ntmps21
    go_upto_region 1 with fail
    rw [show w.alloc (.cells f.cells.toArray 37) = W0 from hW0.symm]
    go_wp2_with (first
      | ((with_reducible refine g_ld 37 ?_); refine wpList_ld rfl _ _ rfl _ rfl _ HF.out.ld' ?_)
      | (go_at_call 50; (refine (HR1.out _).mono ?_; rintro e w1 ⟨rfl, hb1⟩; have C1 : Hid (From W0 w1) := by { first | exact hb1 | (rw [hW0]; exact hb1) }; clear hb1 HR1)))
    go_ret2
    exact ⟨rfl, HB.out.trans (C1.out.mono HB.out.size)⟩
  | true =>
    rw [hr1] at HR1
    have HD0 : Hid (0 < f.den) := by
      unfold Hid
      unfold FracV.right at hr1
      rcases Nat.eq_zero_or_pos f.den with h | h
      · rw [h] at hr1; simp at hr1
      · exact h
    cases hneg : f.neg with
    | false =>
      obtain ⟨Q, hQ⟩ : ∃ Q, Q = f.num / f.den := ⟨_, rfl⟩
      have HQ : Hid (Q = floorQ f) := by unfold Hid floorQ; rw [if_neg (by rw [hneg]; simp), hQ]
      have HQB : Hid (len32 Q ≤ 1000) := by unfold Hid; rw [hQ]; have := HLN.out; omega
      go_enter Try.func21, Try.ntmps21
      go_upto_region 1 with fail
      rw [show w.alloc (.cells f.cells.toArray 37) = W0 from hW0.symm]
      go_upto_region 4 with (first
        | ((with_reducible refine g_ld 37 ?_); refine wpList_ld rfl _ _ rfl _ rfl _ HF.out.ld' ?_)
        | (go_at_call 50; (refine (HR1.out _).mono ?_; rintro e w1 ⟨rfl, hb1⟩; have C1 : Hid (From W0 w1) := by { first | exact hb1 | (rw [hW0]; exact hb1) }; clear hb1 HR1))
        | ((with_reducible refine g_ld 37 ?_); refine wpList_ld rfl _ _ rfl _ rfl _ (HF.out.below C1.out HF.out.lt).ld' ?_)
        | (go_at_call 53; refine (HP1.out _).mono ?_; rintro e w2 ⟨A1, c1, A2, c2, rfl, hr1', hr2', hb2⟩; have C2 : Hid (From W0 w2) := C1.out.trans (hb2.mono C1.out.size); have RA := Lib.hid hr1'; have RB := Lib.hid hr2'; clear hr1' hr2' hb2 HP1)
        | (go_at_call 55; refine (frac_divide A1 A2 c1 c2 f.num f.den _ _ rfl rfl w2 RA.out RB.out (by have := HLN.out; omega) (by have := HLN.out; omega) HD0.out).mono ?_; rintro e w3 ⟨A3, c3, A4, c4, rfl, hr3, hr4, _, _, hb3⟩; have C3 : Hid (From W0 w3) := C2.out.trans (hb3.mono C2.out.size); have RQ := Lib.hid hr3; clear hr3 hr4 hb3))
      rw [← hQ] at RQ ⊢
      obtain ⟨lr, hlr⟩ : ∃ lr, lr = len32 (f.num % f.den) := ⟨_, rfl⟩
      rw [← hlr]
      clear hlr hQ HLN HD0
      have HRQ := RQ
      obtain ⟨ql, hql⟩ : ∃ ql, ql = len32 Q := ⟨_, rfl⟩
      obtain ⟨qm, hqm⟩ : ∃ qm, qm = Q % 18446744073709551616 := ⟨_, rfl⟩
      have HQL := Lib.hid hql
      have HQM := Lib.hid hqm
      have hql2 : (2 : Int) < (ql : Int) ↔ 18446744073709551616 ≤ Q := by rw [hql]; exact floor_len
      rw [← hql]
      by_cases hbig : 18446744073709551616 ≤ Q
      · have hlt := hql2.2 hbig
        have HV : Hid (floorL f = (0, 3)) := by unfold Hid floorL; rw [if_neg (by rw [hr1]; decide), ← HQ.out, if_pos (.inl (by omega))]
        clear hql hqm hql2 hbig
        go_wp2_with (first
          | (go_at_call 57; refine (frac_low A3 _ _ Q HQL.out _ HRQ.out (by have := HQB.out; omega) _ HQM.out).mono ?_; rintro e w7 ⟨rfl, rfl⟩)
          | ((with_reducible refine g_ld 4 ?_); refine wpList_ldw rfl _ _ rfl _ rfl _ ((HF.out.below C3.out HF.out.lt).ld_neg' hneg) ?_)
          | ((with_reducible refine g_ld 4 ?_); refine wpList_ld rfl _ _ rfl _ rfl _ ((HF.out.below C3.out HF.out.lt).ld_neg' hneg) ?_))
        go_ret2
        exact ⟨by { rw [HV.out]; rfl }, HB.out.trans ((C3.out).mono HB.out.size)⟩
      · have hlt : ¬ (2 : Int) < (ql : Int) := fun h => hbig (hql2.1 h)
        have hqq : qm = Q := by omega
        by_cases h63 : 9223372036854775808 < Q
        · have hg : (9223372036854775808 : Int) < (qm : Int) := by omega
          have HV : Hid (floorL f = (0, 3)) := by unfold Hid floorL; rw [if_neg (by rw [hr1]; decide), ← HQ.out, if_pos (.inl h63)]
          clear hql hqm hql2 hbig h63 hqq
          go_wp2_with (first
            | (go_at_call 57; refine (frac_low A3 _ _ Q HQL.out _ HRQ.out (by have := HQB.out; omega) _ HQM.out).mono ?_; rintro e w7 ⟨rfl, rfl⟩)
            | ((with_reducible refine g_ld 4 ?_); refine wpList_ldw rfl _ _ rfl _ rfl _ ((HF.out.below C3.out HF.out.lt).ld_neg' hneg) ?_)
            | ((with_reducible refine g_ld 4 ?_); refine wpList_ld rfl _ _ rfl _ rfl _ ((HF.out.below C3.out HF.out.lt).ld_neg' hneg) ?_))
          go_ret2
          exact ⟨by { rw [HV.out]; rfl }, HB.out.trans ((C3.out).mono HB.out.size)⟩
        · have hg : ¬ (9223372036854775808 : Int) < (qm : Int) := by omega
          · by_cases he : (qm : Int) = 9223372036854775808
            · have HV : Hid (floorL f = (0, 3)) := by unfold Hid floorL; rw [if_neg (by rw [hr1]; decide), ← HQ.out, if_pos (.inr ⟨by omega, hneg⟩)]
              clear hql hqm hql2 hbig h63 hqq
              go_wp2_with (first
                | (go_at_call 57; refine (frac_low A3 _ _ Q HQL.out _ HRQ.out (by have := HQB.out; omega) _ HQM.out).mono ?_; rintro e w7 ⟨rfl, rfl⟩)
                | ((with_reducible refine g_ld 4 ?_); refine wpList_ldw rfl _ _ rfl _ rfl _ ((HF.out.below C3.out HF.out.lt).ld_neg' hneg) ?_)
                | ((with_reducible refine g_ld 4 ?_); refine wpList_ld rfl _ _ rfl _ rfl _ ((HF.out.below C3.out HF.out.lt).ld_neg' hneg) ?_))
              go_ret2
              exact ⟨by { rw [HV.out]; rfl }, HB.out.trans ((C3.out).mono HB.out.size)⟩
            · have HV : Hid (floorL f = ((qm : Int), 0)) := by
                unfold Hid floorL
                rw [if_neg (by rw [hr1]; decide), ← HQ.out, if_neg (by omega), if_neg (by rw [hneg]; decide), hqq]
              have u1 : IntKind.i64.wrap (qm : Int) = (qm : Int) := wrap_i64 (by omega) (by omega)
              clear hql hqm hql2 hbig h63 hqq
              go_wp2_with (first
                | (go_at_call 57; refine (frac_low A3 _ _ Q HQL.out _ HRQ.out (by have := HQB.out; omega) _ HQM.out).mono ?_; rintro e w7 ⟨rfl, rfl⟩)
                | ((with_reducible refine g_ld 4 ?_); refine wpList_ldw rfl _ _ rfl _ rfl _ ((HF.out.below C3.out HF.out.lt).ld_neg' hneg) ?_)
                | ((with_reducible refine g_ld 4 ?_); refine wpList_ld rfl _ _ rfl _ rfl _ ((HF.out.below C3.out HF.out.lt).ld_neg' hneg) ?_))
              go_ret2
              exact ⟨by { rw [HV.out]; rfl }, HB.out.trans ((C3.out).mono HB.out.size)⟩
    | true =>
      by_cases hr0 : f.num % f.den = 0
      · obtain ⟨Q, hQ⟩ : ∃ Q, Q = f.num / f.den := ⟨_, rfl⟩
        have HQ : Hid (Q = floorQ f) := by unfold Hid floorQ; rw [if_neg (by rw [hr0]; omega), hQ]
        have HQB : Hid (len32 Q ≤ 1000) := by unfold Hid; rw [hQ]; have := HLN.out; omega
        have hlr0 : len32 (f.num % f.den) = 0 := by rw [hr0]; rfl
        go_enter Try.func21, Try.ntmps21
        go_upto_region 1 with fail
        rw [show w.alloc (.cells f.cells.toArray 37) = W0 from hW0.symm]
        go_upto_region 4 with (first
          | ((with_reducible refine g_ld 37 ?_); refine wpList_ld rfl _ _ rfl _ rfl _ HF.out.ld' ?_)
          | (go_at_call 50; (refine (HR1.out _).mono ?_; rintro e w1 ⟨rfl, hb1⟩; have C1 : Hid (From W0 w1) := by { first | exact hb1 | (rw [hW0]; exact hb1) }; clear hb1 HR1))
          | ((with_reducible refine g_ld 37 ?_); refine wpList_ld rfl _ _ rfl _ rfl _ (HF.out.below C1.out HF.out.lt).ld' ?_)
          | (go_at_call 53; refine (HP1.out _).mono ?_; rintro e w2 ⟨A1, c1, A2, c2, rfl, hr1', hr2', hb2⟩; have C2 : Hid (From W0 w2) := C1.out.trans (hb2.mono C1.out.size); have RA := Lib.hid hr1'; have RB := Lib.hid hr2'; clear hr1' hr2' hb2 HP1)
          | (go_at_call 55; refine (frac_divide A1 A2 c1 c2 f.num f.den _ _ rfl rfl w2 RA.out RB.out (by have := HLN.out; omega) (by have := HLN.out; omega) HD0.out).mono ?_; rintro e w3 ⟨A3, c3, A4, c4, rfl, hr3, hr4, _, _, hb3⟩; have C3 : Hid (From W0 w3) := C2.out.trans (hb3.mono C2.out.size); have RQ := Lib.hid hr3; clear hr3 hr4 hb3))
        rw [← hQ] at RQ ⊢
        try rw [hlr0]
        clear hQ HLN HD0 hlr0 hr0
        have HRQ := RQ
        obtain ⟨ql, hql⟩ : ∃ ql, ql = len32 Q := ⟨_, rfl⟩
        obtain ⟨qm, hqm⟩ : ∃ qm, qm = Q % 18446744073709551616 := ⟨_, rfl⟩
        have HQL := Lib.hid hql
        have HQM := Lib.hid hqm
        have hql2 : (2 : Int) < (ql : Int) ↔ 18446744073709551616 ≤ Q := by rw [hql]; exact floor_len
        rw [← hql]
        by_cases hbig : 18446744073709551616 ≤ Q
        · have hlt := hql2.2 hbig
          have HV : Hid (floorL f = (0, 3)) := by unfold Hid floorL; rw [if_neg (by rw [hr1]; decide), ← HQ.out, if_pos (.inl (by omega))]
          clear hql hqm hql2 hbig
          go_wp2_with (first
            | (go_at_call 57; refine (frac_low A3 _ _ Q HQL.out _ HRQ.out (by have := HQB.out; omega) _ HQM.out).mono ?_; rintro e w7 ⟨rfl, rfl⟩)
            | ((with_reducible refine g_ld 4 ?_); refine wpList_ldw rfl _ _ rfl _ rfl _ ((HF.out.below C3.out HF.out.lt).ld_neg' hneg) ?_)
            | ((with_reducible refine g_ld 4 ?_); refine wpList_ld rfl _ _ rfl _ rfl _ ((HF.out.below C3.out HF.out.lt).ld_neg' hneg) ?_))
          go_ret2
          exact ⟨by { rw [HV.out]; rfl }, HB.out.trans ((C3.out).mono HB.out.size)⟩
        · have hlt : ¬ (2 : Int) < (ql : Int) := fun h => hbig (hql2.1 h)
          have hqq : qm = Q := by omega
          by_cases h63 : 9223372036854775808 < Q
          · have hg : (9223372036854775808 : Int) < (qm : Int) := by omega
            have HV : Hid (floorL f = (0, 3)) := by unfold Hid floorL; rw [if_neg (by rw [hr1]; decide), ← HQ.out, if_pos (.inl h63)]
            clear hql hqm hql2 hbig h63 hqq
            go_wp2_with (first
              | (go_at_call 57; refine (frac_low A3 _ _ Q HQL.out _ HRQ.out (by have := HQB.out; omega) _ HQM.out).mono ?_; rintro e w7 ⟨rfl, rfl⟩)
              | ((with_reducible refine g_ld 4 ?_); refine wpList_ldw rfl _ _ rfl _ rfl _ ((HF.out.below C3.out HF.out.lt).ld_neg' hneg) ?_)
              | ((with_reducible refine g_ld 4 ?_); refine wpList_ld rfl _ _ rfl _ rfl _ ((HF.out.below C3.out HF.out.lt).ld_neg' hneg) ?_))
            go_ret2
            exact ⟨by { rw [HV.out]; rfl }, HB.out.trans ((C3.out).mono HB.out.size)⟩
          · have hg : ¬ (9223372036854775808 : Int) < (qm : Int) := by omega
            · have hv : floorL f = (-(Q : Int), 0) := by
                unfold floorL
                rw [if_neg (by rw [hr1]; decide), ← HQ.out, if_neg (by { rintro (h1 | ⟨_, h2⟩); exact h63 h1; rw [hneg] at h2; cases h2 }), if_pos hneg]
              rw [← hqq] at hv
              have HV := Lib.hid hv
              clear hql hqm hql2 hbig h63 hv hqq
              by_cases he : (qm : Int) = 9223372036854775808
              · have v1 : IntKind.u64.wrap (-9223372036854775808) = 9223372036854775808 := by decide
                have v2 : IntKind.i64.wrap 9223372036854775808 = -9223372036854775808 := by decide
                go_wp2_with (first
                  | (go_at_call 57; refine (frac_low A3 _ _ Q HQL.out _ HRQ.out (by have := HQB.out; omega) _ HQM.out).mono ?_; rintro e w7 ⟨rfl, rfl⟩)
                  | ((with_reducible refine g_ld 4 ?_); refine wpList_ldw rfl _ _ rfl _ rfl _ ((HF.out.below C3.out HF.out.lt).ld_neg' hneg) ?_)
                  | ((with_reducible refine g_ld 4 ?_); refine wpList_ld rfl _ _ rfl _ rfl _ ((HF.out.below C3.out HF.out.lt).ld_neg' hneg) ?_))
                go_ret2
                exact ⟨by { rw [HV.out, he]; rfl }, HB.out.trans ((C3.out).mono HB.out.size)⟩
              · by_cases h0 : (qm : Int) = 0
                · have v1 : IntKind.u64.wrap 0 = 0 := by decide
                  have v2 : IntKind.i64.wrap 0 = 0 := by decide
                  go_wp2_with (first
                    | (go_at_call 57; refine (frac_low A3 _ _ Q HQL.out _ HRQ.out (by have := HQB.out; omega) _ HQM.out).mono ?_; rintro e w7 ⟨rfl, rfl⟩)
                    | ((with_reducible refine g_ld 4 ?_); refine wpList_ldw rfl _ _ rfl _ rfl _ ((HF.out.below C3.out HF.out.lt).ld_neg' hneg) ?_)
                    | ((with_reducible refine g_ld 4 ?_); refine wpList_ld rfl _ _ rfl _ rfl _ ((HF.out.below C3.out HF.out.lt).ld_neg' hneg) ?_))
                  go_ret2
                  exact ⟨by { rw [HV.out, h0]; rfl }, HB.out.trans ((C3.out).mono HB.out.size)⟩
                · have u1 : IntKind.u64.wrap (-(qm : Int)) = 18446744073709551616 - (qm : Int) := by
                    have h1 := neg_u64 (q := qm) (by omega)
                    rw [if_neg (by omega)] at h1
                    exact h1
                  have u2 : IntKind.i64.wrap (18446744073709551616 - (qm : Int)) = -(qm : Int) := by
                    have h1 := neg_i64 (q := qm) (by omega)
                    rw [if_neg (by omega)] at h1
                    exact h1
                  go_wp2_with (first
                    | (go_at_call 57; refine (frac_low A3 _ _ Q HQL.out _ HRQ.out (by have := HQB.out; omega) _ HQM.out).mono ?_; rintro e w7 ⟨rfl, rfl⟩)
                    | ((with_reducible refine g_ld 4 ?_); refine wpList_ldw rfl _ _ rfl _ rfl _ ((HF.out.below C3.out HF.out.lt).ld_neg' hneg) ?_)
                    | ((with_reducible refine g_ld 4 ?_); refine wpList_ld rfl _ _ rfl _ rfl _ ((HF.out.below C3.out HF.out.lt).ld_neg' hneg) ?_))
                  go_ret2
                  exact ⟨by { rw [HV.out]; rfl }, HB.out.trans ((C3.out).mono HB.out.size)⟩
      · obtain ⟨Q0, hQ0⟩ : ∃ Q, Q = f.num / f.den := ⟨_, rfl⟩
        obtain ⟨Q, hQ⟩ : ∃ Q, Q = Q0 + 1 := ⟨_, rfl⟩
        have HQ : Hid (Q = floorQ f) := by unfold Hid floorQ; rw [if_pos ⟨hneg, by omega⟩, hQ, hQ0]
        have hqt : Q ≤ top256 := by
          have h1 : f.num / f.den ≤ f.num := Nat.div_le_self _ _
          have h2 := hf.1
          omega
        have HQB : Hid (len32 Q ≤ 1000) := by
          have h1 := dig_len_le hB32 (n := Q) (k := 9) (Nat.lt_of_le_of_lt hqt (by decide))
          unfold Hid len32
          omega
        have hlr0 : (0 : Int) < (len32 (f.num % f.den) : Int) := by have := dig_len_pos hB32 hr0; unfold len32; omega
        obtain ⟨lr, hlr⟩ : ∃ lr, lr = len32 (f.num % f.den) := ⟨_, rfl⟩
        rw [← hlr] at hlr0
        have HQ0 : Hid (Q0 = f.num / f.den) := hQ0
        have HQ1 : Hid (Q0 + 1 = Q) := hQ.symm
        have HLR : Hid (len32 (f.num % f.den) = lr) := hlr.symm
        clear hQ hQ0 hlr hqt hr0
        go_enter Try.func21, Try.ntmps21
        go_upto_region 1 with fail
        rw [show w.alloc (.cells f.cells.toArray 37) = W0 from hW0.symm]
        go_upto_region 4 with (first
          | ((with_reducible refine g_ld 37 ?_); refine wpList_ld rfl _ _ rfl _ rfl _ HF.out.ld' ?_)
          | (go_at_call 50; (refine (HR1.out _).mono ?_; rintro e w1 ⟨rfl, hb1⟩; have C1 : Hid (From W0 w1) := by { first | exact hb1 | (rw [hW0]; exact hb1) }; clear hb1 HR1))
          | ((with_reducible refine g_ld 37 ?_); refine wpList_ld rfl _ _ rfl _ rfl _ (HF.out.below C1.out HF.out.lt).ld' ?_)
          | (go_at_call 53; refine (HP1.out _).mono ?_; rintro e w2 ⟨A1, c1, A2, c2, rfl, hr1', hr2', hb2⟩; have C2 : Hid (From W0 w2) := C1.out.trans (hb2.mono C1.out.size); have RA := Lib.hid hr1'; have RB := Lib.hid hr2'; clear hr1' hr2' hb2 HP1)
          | (go_at_call 55; refine (frac_divide A1 A2 c1 c2 f.num f.den _ _ rfl rfl w2 RA.out RB.out (by have := HLN.out; omega) (by have := HLN.out; omega) HD0.out).mono ?_; rintro e w3 ⟨A3, c3, A4, c4, rfl, hr3, hr4, _, _, hb3⟩; have C3 : Hid (From W0 w3) := C2.out.trans (hb3.mono C2.out.size); have RQ := Lib.hid hr3; clear hr3 hr4 hb3))
        rw [← HQ0.out] at RQ ⊢
        rw [HLR.out]
        have HB0 : Hid (len32 Q0 ≤ 1000) := by unfold Hid; rw [HQ0.out]; have := HLN.out; omega
        have hA : len32 Q0 ≤ 1000 := HB0.out
        have hB1 : len32 1 ≤ 1000 := by unfold len32; rw [dig_one hB32]; decide
        clear HLN HD0
        go_upto_region 6 with (first
          | ((with_reducible refine g_ld 4 ?_); refine wpList_ld rfl _ _ rfl _ rfl _ ((HF.out.below C3.out HF.out.lt).ld_neg' hneg) ?_)
          | (go_at_call 48; refine (frac_of 1 (by omega) w3).mono ?_; rintro e w4 ⟨A5, c5, rfl, hr5, _, hb4⟩; have D4 : Hid (From w3 w4) := hb4; have R1' := Lib.hid hr5; clear hr5 hb4)
          | (go_at_call 56; refine (frac_plus A3 A5 c3 c5 Q0 1 _ _ rfl rfl w4 (RQ.out.from D4.out) R1'.out hA hB1).mono ?_; rw [HQ1.out]; rintro e w5 ⟨A6, c6, rfl, hr6, _, hb5⟩; have C5 : Hid (From W0 w5) := C3.out.trans ((D4.out.trans (hb5.mono D4.out.size)).mono C3.out.size); have HRQ := Lib.hid hr6; clear hr6 hb5))
        try simp only [Act.put]
        clear HQ1 HQ0 HLR HB0 C3 D4 RQ R1'
        obtain ⟨ql, hql⟩ : ∃ ql, ql = len32 Q := ⟨_, rfl⟩
        obtain ⟨qm, hqm⟩ : ∃ qm, qm = Q % 18446744073709551616 := ⟨_, rfl⟩
        have HQL := Lib.hid hql
        have HQM := Lib.hid hqm
        have hql2 : (2 : Int) < (ql : Int) ↔ 18446744073709551616 ≤ Q := by rw [hql]; exact floor_len
        rw [← hql]
        by_cases hbig : 18446744073709551616 ≤ Q
        · have hlt := hql2.2 hbig
          have HV : Hid (floorL f = (0, 3)) := by unfold Hid floorL; rw [if_neg (by rw [hr1]; decide), ← HQ.out, if_pos (.inl (by omega))]
          clear hql hqm hql2 hbig
          go_wp2_with (first
            | (go_at_call 57; refine (frac_low A6 _ _ Q HQL.out _ HRQ.out (by have := HQB.out; omega) _ HQM.out).mono ?_; rintro e w7 ⟨rfl, rfl⟩)
            | ((with_reducible refine g_ld 4 ?_); refine wpList_ldw rfl _ _ rfl _ rfl _ ((HF.out.below C5.out HF.out.lt).ld_neg' hneg) ?_)
            | ((with_reducible refine g_ld 4 ?_); refine wpList_ld rfl _ _ rfl _ rfl _ ((HF.out.below C5.out HF.out.lt).ld_neg' hneg) ?_))
          go_ret2
          exact ⟨by { rw [HV.out]; rfl }, HB.out.trans ((C5.out).mono HB.out.size)⟩
        · have hlt : ¬ (2 : Int) < (ql : Int) := fun h => hbig (hql2.1 h)
          have hqq : qm = Q := by omega
          by_cases h63 : 9223372036854775808 < Q
          · have hg : (9223372036854775808 : Int) < (qm : Int) := by omega
            have HV : Hid (floorL f = (0, 3)) := by unfold Hid floorL; rw [if_neg (by rw [hr1]; decide), ← HQ.out, if_pos (.inl h63)]
            clear hql hqm hql2 hbig h63 hqq
            go_wp2_with (first
              | (go_at_call 57; refine (frac_low A6 _ _ Q HQL.out _ HRQ.out (by have := HQB.out; omega) _ HQM.out).mono ?_; rintro e w7 ⟨rfl, rfl⟩)
              | ((with_reducible refine g_ld 4 ?_); refine wpList_ldw rfl _ _ rfl _ rfl _ ((HF.out.below C5.out HF.out.lt).ld_neg' hneg) ?_)
              | ((with_reducible refine g_ld 4 ?_); refine wpList_ld rfl _ _ rfl _ rfl _ ((HF.out.below C5.out HF.out.lt).ld_neg' hneg) ?_))
            go_ret2
            exact ⟨by { rw [HV.out]; rfl }, HB.out.trans ((C5.out).mono HB.out.size)⟩
          · have hg : ¬ (9223372036854775808 : Int) < (qm : Int) := by omega
            · have hv : floorL f = (-(Q : Int), 0) := by
                unfold floorL
                rw [if_neg (by rw [hr1]; decide), ← HQ.out, if_neg (by { rintro (h1 | ⟨_, h2⟩); exact h63 h1; rw [hneg] at h2; cases h2 }), if_pos hneg]
              rw [← hqq] at hv
              have HV := Lib.hid hv
              clear hql hqm hql2 hbig h63 hv hqq
              by_cases he : (qm : Int) = 9223372036854775808
              · have v1 : IntKind.u64.wrap (-9223372036854775808) = 9223372036854775808 := by decide
                have v2 : IntKind.i64.wrap 9223372036854775808 = -9223372036854775808 := by decide
                go_wp2_with (first
                  | (go_at_call 57; refine (frac_low A6 _ _ Q HQL.out _ HRQ.out (by have := HQB.out; omega) _ HQM.out).mono ?_; rintro e w7 ⟨rfl, rfl⟩)
                  | ((with_reducible refine g_ld 4 ?_); refine wpList_ldw rfl _ _ rfl _ rfl _ ((HF.out.below C5.out HF.out.lt).ld_neg' hneg) ?_)
                  | ((with_reducible refine g_ld 4 ?_); refine wpList_ld rfl _ _ rfl _ rfl _ ((HF.out.below C5.out HF.out.lt).ld_neg' hneg) ?_))
                go_ret2
                exact ⟨by { rw [HV.out, he]; rfl }, HB.out.trans ((C5.out).mono HB.out.size)⟩
              · by_cases h0 : (qm : Int) = 0
                · have v1 : IntKind.u64.wrap 0 = 0 := by decide
                  have v2 : IntKind.i64.wrap 0 = 0 := by decide
                  go_wp2_with (first
                    | (go_at_call 57; refine (frac_low A6 _ _ Q HQL.out _ HRQ.out (by have := HQB.out; omega) _ HQM.out).mono ?_; rintro e w7 ⟨rfl, rfl⟩)
                    | ((with_reducible refine g_ld 4 ?_); refine wpList_ldw rfl _ _ rfl _ rfl _ ((HF.out.below C5.out HF.out.lt).ld_neg' hneg) ?_)
                    | ((with_reducible refine g_ld 4 ?_); refine wpList_ld rfl _ _ rfl _ rfl _ ((HF.out.below C5.out HF.out.lt).ld_neg' hneg) ?_))
                  go_ret2
                  exact ⟨by { rw [HV.out, h0]; rfl }, HB.out.trans ((C5.out).mono HB.out.size)⟩
                · have u1 : IntKind.u64.wrap (-(qm : Int)) = 18446744073709551616 - (qm : Int) := by
                    have h1 := neg_u64 (q := qm) (by omega)
                    rw [if_neg (by omega)] at h1
                    exact h1
                  have u2 : IntKind.i64.wrap (18446744073709551616 - (qm : Int)) = -(qm : Int) := by
                    have h1 := neg_i64 (q := qm) (by omega)
                    rw [if_neg (by omega)] at h1
                    exact h1
                  go_wp2_with (first
                    | (go_at_call 57; refine (frac_low A6 _ _ Q HQL.out _ HRQ.out (by have := HQB.out; omega) _ HQM.out).mono ?_; rintro e w7 ⟨rfl, rfl⟩)
                    | ((with_reducible refine g_ld 4 ?_); refine wpList_ldw rfl _ _ rfl _ rfl _ ((HF.out.below C5.out HF.out.lt).ld_neg' hneg) ?_)
                    | ((with_reducible refine g_ld 4 ?_); refine wpList_ld rfl _ _ rfl _ rfl _ ((HF.out.below C5.out HF.out.lt).ld_neg' hneg) ?_))
                  go_ret2
                  exact ⟨by { rw [HV.out]; rfl }, HB.out.trans ((C5.out).mono HB.out.size)⟩
end Go.Proofs.Ytcdfnlgimbecgaa

namespace Go.Proofs.Ytcdfnlgimbecgaa

def ceilN (f : FracV) : Nat := if 0 < f.num % f.den then f.num / f.den + 1 else f.num / f.den
theorem ceilN_ge {f : FracV} (h0 : 0 < f.den) : f.num ≤ ceilN f * f.den := by
  have h := Nat.mod_add_div f.num f.den
  rw [Nat.mul_comm f.den] at h
  have := Nat.mod_lt f.num h0
  unfold ceilN
  split
  · rw [Nat.add_mul, Nat.one_mul]
    omega
  · omega
theorem ceilN_lt {f : FracV} (h0 : 0 < f.den) (hu : ceilN f ≠ 0) : (ceilN f - 1) * f.den < f.num := by
  have h := Nat.mod_add_div f.num f.den
  rw [Nat.mul_comm f.den] at h
  unfold ceilN at hu ⊢
  split
  · rw [Nat.add_sub_cancel]
    omega
  · rename_i h1
    rw [if_neg h1] at hu
    rw [Nat.sub_mul, Nat.one_mul]
    have h2 : f.den ≤ f.num / f.den * f.den := Nat.le_mul_of_pos_left _ (Nat.pos_of_ne_zero hu)
    omega
theorem ceilN_le {f : FracV} (h0 : 0 < f.den) {M : Nat} (h : f.num ≤ M * f.den) : ceilN f ≤ M := by
  have h1 := Nat.mod_add_div f.num f.den
  rw [Nat.mul_comm f.den] at h1
  unfold ceilN
  split
  · have h2 : f.num / f.den < M := by
      rw [Nat.div_lt_iff_lt_mul h0]
      rcases Nat.lt_or_eq_of_le h with h3 | h3
      · exact h3
      · rename_i h4
        rw [h3, Nat.mul_mod_left] at h4
        omega
    omega
  · exact Nat.div_le_of_le_mul (by rw [Nat.mul_comm]; exact h)
/-- what 'up' gives -/
def upI (f : FracV) : Int := -(floorL ⟨decide (f.num ≠ 0), f.num, f.den⟩).1
theorem upI_eq {f : FracV} (hr : f.right = true) (h : f.num ≤ 1000000000000000 * f.den) : upI f = (ceilN f : Int) := by
  unfold FracV.right at hr
  simp only [Bool.and_eq_true, decide_eq_true_eq] at hr
  obtain ⟨⟨h1, h2⟩, _⟩ := hr
  have h0 : 0 < f.den := Nat.pos_of_ne_zero h1
  have hle := ceilN_le h0 h
  have hr' : (FracV.mk (decide (f.num ≠ 0)) f.num f.den).right = true := by
    unfold FracV.right
    simp only [h1, h2, ne_eq, not_false_eq_true, decide_true, Bool.true_and, Bool.not_eq_true', Bool.and_eq_false_iff, decide_eq_false_iff_not]
    by_cases h3 : f.num = 0
    · left; simp [h3]
    · right; exact h3
  have hq : floorQ ⟨decide (f.num ≠ 0), f.num, f.den⟩ = ceilN f := by
    unfold floorQ ceilN
    by_cases h3 : f.num = 0
    · simp [h3]
    · by_cases h4 : 0 < f.num % f.den
      · simp [h3, h4]
      · simp [h3, h4]
  unfold upI floorL
  rw [if_neg (by rw [hr']; decide), hq, if_neg (by omega)]
  by_cases h3 : f.num = 0
  · have : ceilN f = 0 := by unfold ceilN; simp [h3]
    simp [h3, this]
  · simp [h3]
theorem beyond_iff {f : FracV} (hr : f.right = true) (n : Nat) : beyondF f (n : Int) = decide (n * f.den < f.num) := by
  unfold FracV.right at hr
  simp only [Bool.and_eq_true, decide_eq_true_eq] at hr
  obtain ⟨⟨h1, h2⟩, _⟩ := hr
  have hr' : (FracV.mk false f.num f.den).right = true := by
    unfold FracV.right
    simp [h1, h2]
  unfold beyondF cmpL
  rw [hr', ofL_right]
  have e : ofL (n : Int) = ⟨false, n, 1⟩ := by unfold ofL; simp
  rw [e]
  simp only [Bool.not_false, Bool.and_true, Bool.and_self, Bool.false_eq_true, if_false, if_true, Nat.mul_one]
  unfold cmpNat
  split
  · rw [decide_eq_false (by omega), decide_eq_false (by omega)]
  · split
    · rw [decide_eq_true (by omega), decide_eq_true (by omega)]
    · rw [decide_eq_false (by omega), decide_eq_false (by omega)]

/-- frames that differ in their limits alone -/
def Alike (F G : List Frm) : Prop := F.length = G.length ∧ ∀ (i : Nat) (f g : Frm), F[i]? = some f → G[i]? = some g → f.x = g.x ∧ f.light = g.light ∧ f.share = g.share
theorem Alike.tail {f g : Frm} {F G : List Frm} (h : Alike (f :: F) (g :: G)) : Alike F G := ⟨by simpa using h.1, fun i a b ha hb => h.2 (i + 1) a b (by simpa using ha) (by simpa using hb)⟩
theorem Alike.head {f g : Frm} {F G : List Frm} (h : Alike (f :: F) (g :: G)) : f.x = g.x ∧ f.light = g.light ∧ f.share = g.share := h.2 0 f g rfl rfl
theorem Alike.okFrom : ∀ {F G : List Frm} {p : Option Int}, Alike F G → (∀ g ∈ G, g.ok = true) → okFrom p F = true → okFrom p G = true
  | [], [], _, _, _, h => h
  | f :: F, g :: G, p, ha, hg, h => by
    unfold Go.Proofs.Ytcdfnlgimbecgaa.okFrom at h ⊢
    simp only [Bool.and_eq_true] at h ⊢
    have hh := ha.head
    rw [← hh.1]
    exact ⟨⟨hg g (by simp), h.1.2⟩, ha.tail.okFrom (fun x hx => hg x (by simp [hx])) h.2⟩
  | [], _ :: _, _, ha, _, _ => by have := ha.1; simp at this
  | _ :: _, [], _, ha, _, _ => by have := ha.1; simp at this
theorem Alike.shareF : ∀ {F G : List Frm}, Alike F G → shareF F = shareF G
  | [], [], _ => rfl
  | f :: F, g :: G, ha => by
    rw [shareF_cons, shareF_cons, ha.head.2.2, ha.tail.shareF]
  | [], _ :: _, ha => by have := ha.1; simp at this
  | _ :: _, [], ha => by have := ha.1; simp at this
theorem Alike.lightFrom : ∀ {F G : List Frm} (s : Int), Alike F G → lightFrom s F = lightFrom s G
  | [], [], _, _ => rfl
  | f :: F, g :: G, s, ha => by
    unfold Go.Proofs.Ytcdfnlgimbecgaa.lightFrom
    rw [ha.head.2.1, ha.tail.lightFrom]
  | [], _ :: _, _, ha => by have := ha.1; simp at this
  | _ :: _, [], _, ha => by have := ha.1; simp at this
theorem lastF_get {F : List Frm} (h : 0 < F.length) : F[F.length - 1]? = some (lastF F) := by
  unfold lastF
  cases F with
  | nil => cases h
  | cons f F => rw [List.getLastD_cons, ← List.getLast?_eq_getElem?, List.getLast?_cons, List.getLastD_eq_getLast?]
theorem Alike.right {F G : List Frm} (ha : Alike F G) (hg : ∀ g ∈ G, g.ok = true) (h : rightF F = true) : rightF G = true := by
  unfold rightF at h ⊢
  simp only [Bool.and_eq_true, decide_eq_true_eq] at h ⊢
  obtain ⟨⟨⟨⟨⟨h1, h2⟩, h3⟩, h4⟩, h5⟩, h6⟩ := h
  have hl := ha.1
  have e1 := lastF_get (F := F) (by omega)
  have e2 := lastF_get (F := G) (by omega)
  rw [hl] at e1
  have e3 := ha.2 _ _ _ e1 e2
  refine ⟨⟨⟨⟨⟨by omega, ha.okFrom hg h2⟩, ?_⟩, by rw [← ha.shareF]; exact h4⟩, by rw [← e3.2.1]; exact h5⟩, by rw [← e3.2.2]; exact h6⟩
  unfold lightF at h3 ⊢
  rw [← ha.lightFrom]
  exact h3
end Go.Proofs.Ytcdfnlgimbecgaa
