/-
  The reference for numbers of containers tells what isoB tells.
-/
import Derived.Test.YtccjddbcdmgefaaIso
namespace Go.Proofs.Ytccjddbcdmgefaa
open Go.RowKit

def letV (k : Nat) : Int := 10 + (k : Int) + ((k : Int) + 9) / 10

set_option maxHeartbeats 1000000 in
theorem ref_letter (b : Int) (w : World) (h0 : 65 ≤ b) (h1 : b ≤ 90) :
    Calls Try.prog 86 #[.int .u8 b] w fun e w' => e = .returned (.int .i64 (10 + (b - 65) + (b - 65 + 9) / 10)) ∧ w = w' := by
  go_enter Try.func86, Try.ntmps86
  go_wp2
  go_loop [3, 4] (fun n c => ∃ k : Nat, (k : Int) ≤ b - 65 ∧ c = .int .u8 (65 + (k : Int)) ∧ n = .int .i64 (letV k)) (fun _ c => (b - intOf c).toNat)
  case atStart => exact ⟨0, by omega, rfl, rfl⟩
  case round =>
    obtain ⟨k, hk, rfl, rfl⟩ := hrel
    have hv : letV k = 10 + (k : Int) + ((k : Int) + 9) / 10 := rfl
    have hv2 : letV (k + 1) = 10 + ((k : Int) + 1) + ((k : Int) + 10) / 10 := by unfold letV; omega
    have hb1 : 10 ≤ letV k := by omega
    have hb2 : letV k ≤ 40 := by omega
    by_cases hlt : 65 + (k : Int) < b
    · by_cases hm : (letV k + 1) % 11 = 0
      · have hm' : ((letV k + 1) % 11 == 0) = true := by simp [hm]
        have e : letV (k + 1) = letV k + 1 + 1 := by omega
        have HE := Lib.hid e
        clear e hv hv2 hm
        go_wp2
        go_round
        case rel => exact ⟨k + 1, by omega, by go_num, by rw [HE.out]⟩
        case measure => simp [intOf]; omega
      · have hm' : ((letV k + 1) % 11 == 0) = false := by simp [hm]
        have e : letV (k + 1) = letV k + 1 := by omega
        have HE := Lib.hid e
        clear e hv hv2 hm
        go_wp2
        go_round
        case rel => exact ⟨k + 1, by omega, by go_num, by rw [HE.out]⟩
        case measure => simp [intOf]; omega
    · have e : letV k = 10 + (b - 65) + (b - 65 + 9) / 10 := by rw [hv]; omega
      have HE := Lib.hid e
      clear e hv hv2
      go_wp2
      go_ret
      exact ⟨ret_int HE.out, rfl⟩

theorem isoB_bad {s : ByteArray} {k : Nat} (h11 : s.size = 11) (hk : k < s.size) (h : okAt s k = false) : isoB s = false := by
  unfold isoB formedB
  have : ¬ ∀ i, i < s.size → okAt s i = true := fun hall => by rw [hall k hk] at h; cases h
  simp [this]

theorem isoB_end {s : ByteArray} (h11 : s.size = 11) (h : ∀ j, j < 10 → okAt s j = true) : isoB s = (byteAt s 10 - 48 == sumV s 10 % 11 % 10) := by
  have h10 := sumV_bd s 10
  unfold isoB
  by_cases he : byteAt s 10 - 48 = sumV s 10 % 11 % 10
  · have hf : formedB s = true := by
      unfold formedB
      rw [decide_eq_true_eq]
      intro i hi
      rcases Nat.lt_or_ge i 10 with h1 | h1
      · exact h i h1
      · obtain rfl : i = 10 := by omega
        unfold okAt mayB digitB
        simp
        omega
    rw [hf]
    simp [h11, he]
    omega
  · have : ¬ 48 + sumV s 10 % 11 % 10 = byteAt s 10 := by omega
    simp [this, he]

theorem valB_letter {b : Int} (h : 65 ≤ b ∧ b ≤ 90) : valB b = 10 + (b - 65) + (b - 65 + 9) / 10 := by
  unfold valB digitB letterB
  rw [if_neg (by simp; omega), if_pos (by simp; omega)]
theorem valB_digit {b : Int} (h : 48 ≤ b ∧ b ≤ 57) : valB b = b - 48 := by
  unfold valB digitB
  rw [if_pos (by simp; omega)]

theorem wrap64_id' {x : Int} (h1 : -1000000 ≤ x) (h2 : x ≤ 1000000) : wrap64 x = x := by unfold wrap64; omega

set_option maxHeartbeats 4000000 in
theorem ref_number (s : ByteArray) (w : World) (hs : s.size ≤ 140737488351232) :
    Calls Try.prog 74 #[.string s] w fun e w' => e = .returned (.bool (isoB s)) ∧ w = w' := by
  by_cases h11 : s.size = 11
  · have hne : ((s.size : Int) != 11) = false := by simp [h11]
    have hge : 10 < s.size := by omega
    have hle : s.size ≤ 11 := by omega
    have H11 := Lib.hid h11
    clear h11
    go_enter Try.func74, Try.ntmps74
    go_wp2
    clear hne
    go_loop [3, 4] (fun u i => ∃ k : Nat, k ≤ 10 ∧ i = .int .i64 k ∧ u = .int .i64 (sumV s k) ∧ ∀ j, j < k → okAt s j = true) (fun _ i => 10 - (intOf i).toNat)
    case atStart => exact ⟨0, by omega, rfl, rfl, by omega⟩
    case round =>
      obtain ⟨k, hk, rfl, rfl, hj⟩ := hrel
      have HJ := Lib.hid hj
      have hsb := sumV_bd s k
      obtain ⟨sb1, sb2⟩ := hsb
      clear hj
      by_cases hlt : k < 10
      · have hok := okAt_eq (s := s) (k := k) (by omega)
        have hstep := digit_step (s := s) (k := k) (by omega) hlt
        obtain ⟨c, hc⟩ : ∃ c : Int, c = (s[k].toNat : Int) := ⟨_, rfl⟩
        have hc0 : 0 ≤ c := by omega
        have hc255 : c ≤ 255 := by have := s[k].toNat_lt; omega
        rw [← hc] at hok hstep
        have HOK := Lib.hid hok
        have HST := Lib.hid hstep
        have hcs := hc.symm
        clear hok hstep hc
        cases hm : mayB k c with
        | true =>
          have hok1 : okAt s k = true := by rw [HOK.out, hm]; simp; omega
          have HOK1 := Lib.hid hok1
          have hcases : (k < 3 ∧ 65 ≤ c ∧ c ≤ 90) ∨ (k = 3 ∧ c = 85) ∨ (k = 3 ∧ c = 74) ∨ (k = 3 ∧ c = 90) ∨ (3 < k ∧ 48 ≤ c ∧ c ≤ 57) := by
            unfold mayB letterB groupB digitB at hm
            split at hm
            · simp at hm; omega
            · split at hm
              · simp at hm; omega
              · simp at hm; omega
          clear hok1 hm
          rcases hcases with ⟨a1, a2, a3⟩ | ⟨a1, a2⟩ | ⟨a1, a2⟩ | ⟨a1, a2⟩ | ⟨a1, a2, a3⟩
          · have b1 : ((k : Int) == 3) = false := by simp; omega
            have hv : 10 + (c - 65) + (c - 65 + 9) / 10 = valB c := (valB_letter (by omega)).symm
            have HV0 : Hid (0 ≤ valB c) := by unfold Hid; rw [← hv]; omega
            have HV1 : Hid (valB c ≤ 38) := by unfold Hid; rw [← hv]; omega
            have HV := Lib.hid hv
            clear hv
            go_wp2_with (go_at_call 86; refine (ref_letter _ _ (by omega) (by omega)).mono ?_; rintro _ _ ⟨rfl, rfl⟩)
            go_loop [6, 7] (fun v t => ∃ j : Nat, j ≤ k ∧ t = .int .i64 j ∧ v = .int .i64 (valB c * 2 ^ j)) (fun _ t => k - (intOf t).toNat)
            case atStart => exact ⟨0, by omega, rfl, by rw [← HV.out]; simp only [Int.pow_zero, Int.mul_one]⟩
            case round =>
              obtain ⟨j, hjk, rfl, rfl⟩ := hrel
              have hb1 : 0 ≤ valB c * 2 ^ j := Int.mul_nonneg HV0.out (by have := (pow_le (k := j) (by omega)).1; omega)
              have hb2 : valB c * 2 ^ j ≤ 38 * 512 := Int.mul_le_mul HV1.out (pow_le (k := j) (by omega)).2 (by have := (pow_le (k := j) (by omega)).1; omega) (by omega)
              by_cases hj2 : j < k
              · have he : 2 * (valB c * 2 ^ j) = valB c * 2 ^ (j + 1) := by rw [Int.pow_succ]; ac_rfl
                have HE := Lib.hid he
                clear he
                go_wp2
                go_round
                case rel => exact ⟨j + 1, by omega, by go_num, by rw [← HE.out]⟩
                case measure => simp [intOf] <;> omega
              · obtain rfl : j = k := by omega
                have hx : wrap64 (sumV s j + valB c * 2 ^ j) = sumV s (j + 1) := by
                  have := HST.out
                  rwa [wrap64_id' (x := valB c * 2 ^ j) (by omega) (by omega)] at this
                have HX := Lib.hid hx
                clear hx
                go_wp2
                go_round
                case rel => exact ⟨j + 1, by omega, by go_num, by rw [← HX.out], fun i hi => by
                  rcases Nat.lt_or_ge i j with h1 | h1
                  · exact HJ.out i h1
                  · obtain rfl : i = j := by omega
                    exact HOK1.out⟩
                case measure => simp [intOf] <;> omega
          · subst a1
            subst a2
            have hx : sumV s (3 + 1) = sumV s 3 + 256 := by
              have h1 := HST.out
              have h2 : wrap64 (valB 85 * 2 ^ 3) = 256 := by rw [valB_letter (by omega), wrap64_id' (by omega) (by omega)]; rfl
              rwa [h2, wrap64_id' (by omega) (by omega), eq_comm] at h1
            have HX := Lib.hid hx
            clear hx
            go_wp2_with (go_at_call 86; refine (ref_letter _ _ (by omega) (by omega)).mono ?_; rintro _ _ ⟨rfl, rfl⟩)
            go_loop [6, 7] (fun v t => ∃ j : Nat, j ≤ 3 ∧ t = .int .i64 j ∧ v = .int .i64 (32 * 2 ^ j)) (fun _ t => 3 - (intOf t).toNat)
            case atStart => exact ⟨0, by omega, rfl, rfl⟩
            case round =>
              obtain ⟨j, hjk, rfl, rfl⟩ := hrel
              rcases (by omega : j = 3 ∨ j = 0 ∨ j = 1 ∨ j = 2) with rfl | rfl | rfl | rfl
              · go_wp2
                go_round
                case rel => exact ⟨3 + 1, by omega, by go_num, by rw [HX.out], fun i hi => by
                  rcases Nat.lt_or_ge i 3 with h1 | h1
                  · exact HJ.out i h1
                  · obtain rfl : i = 3 := by omega
                    exact HOK1.out⟩
                case measure => simp [intOf] <;> omega
              · go_wp2
                go_round
                case rel => exact ⟨1, by omega, by go_num, by go_num⟩
                case measure => simp [intOf] <;> omega
              · go_wp2
                go_round
                case rel => exact ⟨2, by omega, by go_num, by go_num⟩
                case measure => simp [intOf] <;> omega
              · go_wp2
                go_round
                case rel => exact ⟨3, by omega, by go_num, by go_num⟩
                case measure => simp [intOf] <;> omega
          · subst a1
            subst a2
            have hx : sumV s (3 + 1) = sumV s 3 + 160 := by
              have h1 := HST.out
              have h2 : wrap64 (valB 74 * 2 ^ 3) = 160 := by rw [valB_letter (by omega), wrap64_id' (by omega) (by omega)]; rfl
              rwa [h2, wrap64_id' (by omega) (by omega), eq_comm] at h1
            have HX := Lib.hid hx
            clear hx
            go_wp2_with (go_at_call 86; refine (ref_letter _ _ (by omega) (by omega)).mono ?_; rintro _ _ ⟨rfl, rfl⟩)
            go_loop [6, 7] (fun v t => ∃ j : Nat, j ≤ 3 ∧ t = .int .i64 j ∧ v = .int .i64 (20 * 2 ^ j)) (fun _ t => 3 - (intOf t).toNat)
            case atStart => exact ⟨0, by omega, rfl, rfl⟩
            case round =>
              obtain ⟨j, hjk, rfl, rfl⟩ := hrel
              rcases (by omega : j = 3 ∨ j = 0 ∨ j = 1 ∨ j = 2) with rfl | rfl | rfl | rfl
              · go_wp2
                go_round
                case rel => exact ⟨3 + 1, by omega, by go_num, by rw [HX.out], fun i hi => by
                  rcases Nat.lt_or_ge i 3 with h1 | h1
                  · exact HJ.out i h1
                  · obtain rfl : i = 3 := by omega
                    exact HOK1.out⟩
                case measure => simp [intOf] <;> omega
              · go_wp2
                go_round
                case rel => exact ⟨1, by omega, by go_num, by go_num⟩
                case measure => simp [intOf] <;> omega
              · go_wp2
                go_round
                case rel => exact ⟨2, by omega, by go_num, by go_num⟩
                case measure => simp [intOf] <;> omega
              · go_wp2
                go_round
                case rel => exact ⟨3, by omega, by go_num, by go_num⟩
                case measure => simp [intOf] <;> omega
          · subst a1
            subst a2
            have hx : sumV s (3 + 1) = sumV s 3 + 304 := by
              have h1 := HST.out
              have h2 : wrap64 (valB 90 * 2 ^ 3) = 304 := by rw [valB_letter (by omega), wrap64_id' (by omega) (by omega)]; rfl
              rwa [h2, wrap64_id' (by omega) (by omega), eq_comm] at h1
            have HX := Lib.hid hx
            clear hx
            go_wp2_with (go_at_call 86; refine (ref_letter _ _ (by omega) (by omega)).mono ?_; rintro _ _ ⟨rfl, rfl⟩)
            go_loop [6, 7] (fun v t => ∃ j : Nat, j ≤ 3 ∧ t = .int .i64 j ∧ v = .int .i64 (38 * 2 ^ j)) (fun _ t => 3 - (intOf t).toNat)
            case atStart => exact ⟨0, by omega, rfl, rfl⟩
            case round =>
              obtain ⟨j, hjk, rfl, rfl⟩ := hrel
              rcases (by omega : j = 3 ∨ j = 0 ∨ j = 1 ∨ j = 2) with rfl | rfl | rfl | rfl
              · go_wp2
                go_round
                case rel => exact ⟨3 + 1, by omega, by go_num, by rw [HX.out], fun i hi => by
                  rcases Nat.lt_or_ge i 3 with h1 | h1
                  · exact HJ.out i h1
                  · obtain rfl : i = 3 := by omega
                    exact HOK1.out⟩
                case measure => simp [intOf] <;> omega
              · go_wp2
                go_round
                case rel => exact ⟨1, by omega, by go_num, by go_num⟩
                case measure => simp [intOf] <;> omega
              · go_wp2
                go_round
                case rel => exact ⟨2, by omega, by go_num, by go_num⟩
                case measure => simp [intOf] <;> omega
              · go_wp2
                go_round
                case rel => exact ⟨3, by omega, by go_num, by go_num⟩
                case measure => simp [intOf] <;> omega
          · have b1 : ((k : Int) == 3) = false := by simp; omega
            have hv : c - 48 = valB c := (valB_digit (by omega)).symm
            have HV0 : Hid (0 ≤ valB c) := by unfold Hid; rw [← hv]; omega
            have HV1 : Hid (valB c ≤ 38) := by unfold Hid; rw [← hv]; omega
            have HV := Lib.hid hv
            clear hv
            go_wp2
            go_loop [6, 7] (fun v t => ∃ j : Nat, j ≤ k ∧ t = .int .i64 j ∧ v = .int .i64 (valB c * 2 ^ j)) (fun _ t => k - (intOf t).toNat)
            case atStart => exact ⟨0, by omega, rfl, by rw [← HV.out]; simp only [Int.pow_zero, Int.mul_one]⟩
            case round =>
              obtain ⟨j, hjk, rfl, rfl⟩ := hrel
              have hb1 : 0 ≤ valB c * 2 ^ j := Int.mul_nonneg HV0.out (by have := (pow_le (k := j) (by omega)).1; omega)
              have hb2 : valB c * 2 ^ j ≤ 38 * 512 := Int.mul_le_mul HV1.out (pow_le (k := j) (by omega)).2 (by have := (pow_le (k := j) (by omega)).1; omega) (by omega)
              by_cases hj2 : j < k
              · have he : 2 * (valB c * 2 ^ j) = valB c * 2 ^ (j + 1) := by rw [Int.pow_succ]; ac_rfl
                have HE := Lib.hid he
                clear he
                go_wp2
                go_round
                case rel => exact ⟨j + 1, by omega, by go_num, by rw [← HE.out]⟩
                case measure => simp [intOf] <;> omega
              · obtain rfl : j = k := by omega
                have hx : wrap64 (sumV s j + valB c * 2 ^ j) = sumV s (j + 1) := by
                  have := HST.out
                  rwa [wrap64_id' (x := valB c * 2 ^ j) (by omega) (by omega)] at this
                have HX := Lib.hid hx
                clear hx
                go_wp2
                go_round
                case rel => exact ⟨j + 1, by omega, by go_num, by rw [← HX.out], fun i hi => by
                  rcases Nat.lt_or_ge i j with h1 | h1
                  · exact HJ.out i h1
                  · obtain rfl : i = j := by omega
                    exact HOK1.out⟩
                case measure => simp [intOf] <;> omega
        | false =>
          have hok1 : okAt s k = false := by rw [HOK.out, hm]; simp
          have HB := Lib.hid (isoB_bad H11.out (by omega) hok1)
          have hcases : (k < 3 ∧ c < 65) ∨ (k < 3 ∧ 90 < c) ∨ (k = 3 ∧ c < 65) ∨ (k = 3 ∧ 90 < c) ∨ (k = 3 ∧ 65 ≤ c ∧ c ≤ 90 ∧ c ≠ 85 ∧ c ≠ 74 ∧ c ≠ 90) ∨ (3 < k ∧ c < 48) ∨ (3 < k ∧ 57 < c) := by
            unfold mayB letterB groupB digitB at hm
            split at hm
            · simp at hm; omega
            · split at hm
              · simp at hm; omega
              · simp at hm; omega
          clear hok1 hm
          rcases hcases with ⟨a1, a2⟩ | ⟨a1, a2⟩ | ⟨a1, a2⟩ | ⟨a1, a2⟩ | ⟨a1, a2, a3, a4, a5, a6⟩ | ⟨a1, a2⟩ | ⟨a1, a2⟩
          · go_wp2
            go_ret
            exact ⟨by rw [HB.out]; rfl, rfl⟩
          · go_wp2
            go_ret
            exact ⟨by rw [HB.out]; rfl, rfl⟩
          · subst a1
            go_wp2
            go_ret
            exact ⟨by rw [HB.out]; rfl, rfl⟩
          · subst a1
            go_wp2
            go_ret
            exact ⟨by rw [HB.out]; rfl, rfl⟩
          · subst a1
            have b1 : (c != 85) = true := by simpa using a4
            have b2 : (c != 74) = true := by simpa using a5
            have b3 : (c != 90) = true := by simpa using a6
            clear a4 a5 a6
            go_wp2
            go_ret
            exact ⟨by rw [HB.out]; rfl, rfl⟩
          · have b1 : ((k : Int) == 3) = false := by simp; omega
            go_wp2
            go_ret
            exact ⟨by rw [HB.out]; rfl, rfl⟩
          · have b1 : ((k : Int) == 3) = false := by simp; omega
            go_wp2
            go_ret
            exact ⟨by rw [HB.out]; rfl, rfl⟩
      · obtain rfl : k = 10 := by omega
        have hend := isoB_end H11.out HJ.out
        have hix : ∀ w, (Instr.index 9 (.string s) (.int .i64 10)).run Try.prog w = .ok (.int .u8 (byteAt s 10)) w := fun w => by
          rw [byteAt_get hge]
          simp [Instr.index, asIntOf, run_underlying Try.underlying9, hge]
        have HEND := Lib.hid hend
        have hbb := byteAt_bd s 10
        obtain ⟨bb1, bb2⟩ := hbb
        clear hend
        go_wp2
        go_ret
        exact ⟨by rw [HEND.out]; rfl, rfl⟩
  · have hne : ((s.size : Int) != 11) = true := by simp; omega
    have HI : Hid (isoB s = false) := by unfold Hid isoB; simp [h11]
    go_enter Try.func74, Try.ntmps74
    go_wp2
    go_ret
    exact ⟨by rw [HI.out]; rfl, rfl⟩
end Go.Proofs.Ytccjddbcdmgefaa
