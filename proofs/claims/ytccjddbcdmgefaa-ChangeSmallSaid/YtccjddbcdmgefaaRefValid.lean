/-
  The reference for lists of containers tells what boxValid tells.
-/
import Derived.Test.YtccjddbcdmgefaaRefBox
namespace Go.Proofs.Ytccjddbcdmgefaa
open Go.RowKit

theorem boxBad_eq {l : List Box} {k : Nat} (hk : k < l.length) : boxBad l k = (seenN l k l[k].num || decide (l[k].id ≤ lastId l k) || !boxB l[k]) := by
  unfold boxBad
  rw [List.getElem?_eq_getElem hk]

theorem boxB_id {b : Box} (h : boxB b = true) : 1 ≤ b.id := by
  unfold boxB at h
  simp [bRule, bWithin] at h
  omega

theorem seenN_true {l : List Box} {k : Nat} {s : ByteArray} (t : Nat) (h : t < k) (ht : t < l.length) (h1 : l[t].num ≠ noNum) (h2 : l[t].num = s) : seenN l k s = true := by
  unfold seenN
  rw [List.any_eq_true]
  refine ⟨l[t], ?_, by simp [h1, h2]; rw [← h2]; exact h1⟩
  rw [List.mem_take_iff_getElem]
  exact ⟨t, by omega, rfl⟩

theorem seenN_false {l : List Box} {k : Nat} {s : ByteArray} (h : s = noNum ∨ ∀ t, (ht : t < k) → (h2 : t < l.length) → l[t].num ≠ s) : seenN l k s = false := by
  unfold seenN
  rw [List.any_eq_false]
  intro x hx
  rw [List.mem_take_iff_getElem] at hx
  obtain ⟨t, ht, rfl⟩ := hx
  rcases h with rfl | h
  · simp
  · have := h t (by omega) (by omega)
    simp [this]

set_option maxRecDepth 100000 in
set_option maxHeartbeats 4000000 in
theorem ref_valid (A : Option Addr) (c : Nat) (l : List Box) (n : Nat) (hn : n = l.length) (w : World) (hA : Rd w w.heap.size 9 A (l.map Box.cells)) (hl : l.length ≤ 1000000000000) (hnum : ∀ b ∈ l, b.num.size ≤ 140737488351232) :
    Calls Try.prog 73 #[.slice A n c] w fun e w' => e = .returned (.tuple #[.int .i64 (boxValid l).1, .int .i64 (boxValid l).2]) ∧ Below w.heap.size w w' := by
  subst hn
  by_cases hmany : l.length > 2000
  · have HV : Hid (boxValid l = (-1, 5)) := by unfold Hid boxValid; rw [if_pos hmany]
    go_enter Try.func73, Try.ntmps73
    go_wp2
    go_ret2
    exact ⟨by rw [HV.out]; rfl, Below.refl _ _⟩
  · go_enter Try.func73, Try.ntmps73
    go_wp2
    go_loopw [4] (fun i wr => ∃ k : Nat, k ≤ l.length ∧ i = .int .i64 k ∧ (∀ j, j < k → boxBad l j = false) ∧ Below w.heap.size w wr) (fun i _ => l.length - (intOf i).toNat)
    case atStart => exact ⟨0, by omega, rfl, by omega, Below.refl _ _⟩
    case round =>
      obtain ⟨k, hk, rfl, hj, hb⟩ := hrel
      have HJ := Lib.hid hj
      clear hj
      by_cases hlt : k < l.length
      · obtain ⟨bb, off, rfl, hb1, hld⟩ := Box.ld hA (map_get Box.cells l k hlt)
        obtain ⟨bb2, off2, e2, hb2, hat⟩ := Box.at_ hA k hlt
        injection e2 with e2
        injection e2 with e2 e3
        subst e2
        subst e3
        have HAT := Lib.hid hat
        have HL := Lib.hid hld
        have HBE := Lib.hid (boxBad_eq hlt)
        have hnm := hnum _ (List.getElem_mem hlt)
        have HID : Hid (∀ w', Below wr.heap.size wr w' → (loadVar 3 ⟨bb, off + k * 9, none⟩).run Try.prog w' = .ok (.int .i64 l[k].id) w') := fun w' h => run_load_cell Try.underlying3 rfl (HAT.out w' (hb.trans (h.mono hb.size))).1
        clear hat hld
        cases hB : boxB l[k] with
        | false =>
          have HV := Lib.hid (boxValid_found (by omega) hlt HJ.out (by rw [HBE.out, hB]; simp))
          go_wp2
          refine wp_region_below (by kernel_rfl) (by kernel_rfl) wr.heap.size ?_
          repeat (first | go_big_quiet_skip | (go_big_quiet_want; refine quiet_ld 73 _ rfl _ rfl _ (fun w' hC => HL.out w' (hb.trans (hC.mono hb.size))) ?_; simp only [Act.put, List.setIfInBounds_toArray, List.set_cons_succ, List.set_cons_zero]; go_big_quiet_on) | go_big_quiet_step (first | (intro hC; rfl) | (intro hC; exact ⟨rfl, rfl⟩) | (intro hC; refine (ref_right l[k] _ hnm).mono ?_; rw [hB]; rintro e w' ⟨rfl, hb3⟩; exact ⟨rfl, hC.trans (hb3.mono hC.size)⟩)))
          refine wpQuiet_nil ?_
          intro w' hC
          go_wp2
          go_ret2
          exact ⟨by rw [HV.out]; rfl, hb.trans (hC.mono hb.size)⟩
        | true =>
          have hid := boxB_id hB
          rcases k with _ | m
          · have hlast : seenN l 0 l[0].num = seenN l 0 l[0].num ∧ ¬ l[0].id ≤ lastId l 0 := ⟨rfl, by rw [lastId_zero]; omega⟩
            have HLAST := Lib.hid hlast.2
            clear hlast
            go_wp2
            refine wp_region_below (by kernel_rfl) (by kernel_rfl) wr.heap.size ?_
            repeat (first | go_big_quiet_skip | (go_big_quiet_want; refine quiet_ld 73 _ rfl _ rfl _ (fun w' hC => HL.out w' (hb.trans (hC.mono hb.size))) ?_; simp only [Act.put, List.setIfInBounds_toArray, List.set_cons_succ, List.set_cons_zero]; go_big_quiet_on) | go_big_quiet_step (first | (intro hC; rfl) | (intro hC; exact ⟨rfl, rfl⟩) | (intro hC; refine (ref_right l[0] _ hnm).mono ?_; rw [hB]; rintro e w' ⟨rfl, hb3⟩; exact ⟨rfl, hC.trans (hb3.mono hC.size)⟩)))
            refine wpQuiet_nil ?_
            intro w' hC
            have HOK : Hid (boxBad l 0 = false) := by unfold Hid; rw [HBE.out, hB, seenN_zero]; simp [HLAST.out]
            go_wp2
            refine wp_loop_rounds 1 ?_
            rw [rounds_succ]
            go_wp2
            go_roundw
            case rel => exact ⟨1, by omega, by go_num, fun j h => by obtain rfl : j = 0 := by omega
                                                                     exact HOK.out, hb.trans (hC.mono hb.size)⟩
            case measure => simp [intOf]; omega
          · have hm : m < l.length := by omega
            obtain ⟨bb3, off3, e3, _, hatm⟩ := Box.at_ hA m hm
            injection e3 with e3
            injection e3 with e3 e4
            subst e3
            subst e4
            have HP : Hid (∀ w', Below wr.heap.size wr w' → (loadVar 3 ⟨bb, off + m * 9, none⟩).run Try.prog w' = .ok (.int .i64 l[m].id) w') := fun w' h => run_load_cell Try.underlying3 rfl (hatm w' (hb.trans (h.mono hb.size))).1
            clear hatm
            have hlast : lastId l (m + 1) = l[m].id := lastId_succ l m hm
            by_cases hle : l[m + 1].id ≤ l[m].id
            · have HV := Lib.hid (boxValid_found (by omega) hlt HJ.out (by rw [HBE.out, hlast]; simp [hle]))
              clear hlast
              go_wp2
              refine wp_region_below (by kernel_rfl) (by kernel_rfl) wr.heap.size ?_
              repeat (first | go_big_quiet_skip | (go_big_quiet_want; refine quiet_ld 73 _ rfl _ rfl _ (fun w' hC => HL.out w' (hb.trans (hC.mono hb.size))) ?_; simp only [Act.put, List.setIfInBounds_toArray, List.set_cons_succ, List.set_cons_zero]; go_big_quiet_on) | (go_big_quiet_want; refine quiet_ld 3 _ rfl _ rfl _ (fun w' hC => HID.out w' hC) ?_; simp only [Act.put, List.setIfInBounds_toArray, List.set_cons_succ, List.set_cons_zero]; go_big_quiet_on) | (go_big_quiet_want; refine quiet_ld 3 _ rfl _ rfl _ (fun w' hC => HP.out w' hC) ?_; simp only [Act.put, List.setIfInBounds_toArray, List.set_cons_succ, List.set_cons_zero]; go_big_quiet_on) | go_big_quiet_step (first | (intro hC; rfl) | (intro hC; exact ⟨rfl, rfl⟩) | (intro hC; refine (ref_right l[m + 1] _ hnm).mono ?_; rw [hB]; rintro e w' ⟨rfl, hb3⟩; exact ⟨rfl, hC.trans (hb3.mono hC.size)⟩)))
              refine wpQuiet_nil ?_
              intro w' hC
              go_wp2
              go_ret2
              exact ⟨by rw [HV.out]; rfl, hb.trans (hC.mono hb.size)⟩
            · have HLE : Hid (¬ l[m + 1].id ≤ lastId l (m + 1)) := by unfold Hid; rw [hlast]; exact hle
              clear hlast
              go_wp2
              refine wp_region_below (by kernel_rfl) (by kernel_rfl) wr.heap.size ?_
              repeat (first | go_big_quiet_skip | (go_big_quiet_want; refine quiet_ld 73 _ rfl _ rfl _ (fun w' hC => HL.out w' (hb.trans (hC.mono hb.size))) ?_; simp only [Act.put, List.setIfInBounds_toArray, List.set_cons_succ, List.set_cons_zero]; go_big_quiet_on) | (go_big_quiet_want; refine quiet_ld 3 _ rfl _ rfl _ (fun w' hC => HID.out w' hC) ?_; simp only [Act.put, List.setIfInBounds_toArray, List.set_cons_succ, List.set_cons_zero]; go_big_quiet_on) | (go_big_quiet_want; refine quiet_ld 3 _ rfl _ rfl _ (fun w' hC => HP.out w' hC) ?_; simp only [Act.put, List.setIfInBounds_toArray, List.set_cons_succ, List.set_cons_zero]; go_big_quiet_on) | go_big_quiet_step (first | (intro hC; rfl) | (intro hC; exact ⟨rfl, rfl⟩) | (intro hC; refine (ref_right l[m + 1] _ hnm).mono ?_; rw [hB]; rintro e w' ⟨rfl, hb3⟩; exact ⟨rfl, hC.trans (hb3.mono hC.size)⟩)))
              refine wpQuiet_nil ?_
              intro wo hC
              have hbo : Below w.heap.size w wo := hb.trans (hC.mono hb.size)
              clear HP HID hC
              go_wp2
              go_loopw [5] (fun i wr => ∃ t : Nat, t ≤ m + 1 ∧ i = .int .i64 t ∧ (l[m + 1].num = noNum ∨ ∀ j, (h : j < t) → (h2 : j < l.length) → l[j].num ≠ l[m + 1].num) ∧ Below w.heap.size w wr) (fun i _ => m + 1 - (intOf i).toNat)
              case atStart => exact ⟨0, by omega, rfl, .inr (fun j h _ => by omega), hbo⟩
              case round =>
                obtain ⟨t, htk, rfl, hne, hbi⟩ := hrel
                have HNE := Lib.hid hne
                clear hne
                by_cases htm : t < m + 1
                · have htl : t < l.length := by omega
                  obtain ⟨bb3, off3, e3, _, hatt⟩ := Box.at_ hA t htl
                  injection e3 with e3
                  injection e3 with e3 e4
                  subst e3
                  subst e4
                  have HT : Hid (∀ w', Below wr.heap.size wr w' → (loadVar 9 ⟨bb, off + t * 9 + 1, none⟩).run Try.prog w' = .ok (.string l[t].num) w') := fun w' h => run_load_cell Try.underlying9 rfl (hatt w' (hbi.trans (h.mono hbi.size))).2.1
                  have HK : Hid (∀ w', Below wr.heap.size wr w' → (loadVar 9 ⟨bb, off + (m + 1) * 9 + 1, none⟩).run Try.prog w' = .ok (.string l[m + 1].num) w') := fun w' h => run_load_cell Try.underlying9 rfl (HAT.out w' (hbi.trans (h.mono hbi.size))).2.1
                  clear hatt
                  by_cases hz : l[m + 1].num = noNum
                  · have hz3 : l[m + 1].num.toList = [] := by rw [hz]; exact noNum_l
                    have hz2 : l[m + 1].num.toList.isEmpty = true := by simp [hz3]
                    have HZ := Lib.hid hz
                    clear hz
                    go_wp2
                    refine wp_region_below (by kernel_rfl) (by kernel_rfl) wr.heap.size ?_
                    repeat (first | go_big_quiet_skip | (go_big_quiet_want; refine quiet_ld 9 _ rfl _ rfl _ (fun w' hC => HK.out w' hC) ?_; simp only [Act.put, List.setIfInBounds_toArray, List.set_cons_succ, List.set_cons_zero]; go_big_quiet_on) | (go_big_quiet_want; refine quiet_ld 9 _ rfl _ rfl _ (fun w' hC => HT.out w' hC) ?_; simp only [Act.put, List.setIfInBounds_toArray, List.set_cons_succ, List.set_cons_zero]; go_big_quiet_on) | go_big_quiet_step (first | (intro hC; rfl) | (intro hC; exact ⟨rfl, rfl⟩)))
                    refine wpQuiet_nil ?_
                    intro w' hC
                    go_wp2
                    go_roundw
                    case rel => exact ⟨t + 1, by omega, by go_num, .inl HZ.out, hbi.trans (hC.mono hbi.size)⟩
                    case measure => simp [intOf]; omega
                  · have hz3 : ¬ l[m + 1].num.toList = [] := fun h => hz (toList_eq.mp (h.trans noNum_l.symm))
                    have hz2 : l[m + 1].num.toList.isEmpty = false := by simpa using hz3
                    have HZ := Lib.hid hz
                    clear hz
                    by_cases hq : l[t].num = l[m + 1].num
                    · have hq2 : (l[t].num.toList == l[m + 1].num.toList) = true := by rw [toList_inj]; simp [hq]
                      have hq3 : (l[t].num.toList = l[m + 1].num.toList) := by rw [hq]
                      have hV := boxValid_found (by omega) hlt HJ.out (by rw [HBE.out, seenN_true t htm htl (by rw [hq]; exact HZ.out) hq]; simp)
                      have HV := Lib.hid hV
                      clear hV hq
                      go_wp2
                      refine wp_region_below (by kernel_rfl) (by kernel_rfl) wr.heap.size ?_
                      repeat (first | go_big_quiet_skip | (go_big_quiet_want; refine quiet_ld 9 _ rfl _ rfl _ (fun w' hC => HK.out w' hC) ?_; simp only [Act.put, List.setIfInBounds_toArray, List.set_cons_succ, List.set_cons_zero]; go_big_quiet_on) | (go_big_quiet_want; refine quiet_ld 9 _ rfl _ rfl _ (fun w' hC => HT.out w' hC) ?_; simp only [Act.put, List.setIfInBounds_toArray, List.set_cons_succ, List.set_cons_zero]; go_big_quiet_on) | go_big_quiet_step (first | (intro hC; rfl) | (intro hC; exact ⟨rfl, rfl⟩)))
                      refine wpQuiet_nil ?_
                      intro w' hC
                      go_wp2
                      go_ret2
                      exact ⟨by rw [HV.out]; rfl, hbi.trans (hC.mono hbi.size)⟩
                    · have hq2 : (l[t].num.toList == l[m + 1].num.toList) = false := by rw [toList_inj]; simp [hq]
                      have hq3 : ¬ (l[t].num.toList = l[m + 1].num.toList) := fun h => hq (toList_eq.mp h)
                      have HQ := Lib.hid hq
                      clear hq
                      go_wp2
                      refine wp_region_below (by kernel_rfl) (by kernel_rfl) wr.heap.size ?_
                      repeat (first | go_big_quiet_skip | (go_big_quiet_want; refine quiet_ld 9 _ rfl _ rfl _ (fun w' hC => HK.out w' hC) ?_; simp only [Act.put, List.setIfInBounds_toArray, List.set_cons_succ, List.set_cons_zero]; go_big_quiet_on) | (go_big_quiet_want; refine quiet_ld 9 _ rfl _ rfl _ (fun w' hC => HT.out w' hC) ?_; simp only [Act.put, List.setIfInBounds_toArray, List.set_cons_succ, List.set_cons_zero]; go_big_quiet_on) | go_big_quiet_step (first | (intro hC; rfl) | (intro hC; exact ⟨rfl, rfl⟩)))
                      refine wpQuiet_nil ?_
                      intro w' hC
                      go_wp2
                      go_roundw
                      case rel =>
                        refine ⟨t + 1, by omega, by go_num, ?_, hbi.trans (hC.mono hbi.size)⟩
                        rcases HNE.out with h | h
                        · exact .inl h
                        · refine .inr fun j h1 h2 => ?_
                          rcases Nat.lt_or_ge j t with h3 | h3
                          · exact h j h3 h2
                          · obtain rfl : j = t := by omega
                            exact HQ.out
                      case measure => simp [intOf]; omega
                · obtain rfl : t = m + 1 := by omega
                  have HOK : Hid (boxBad l (m + 1) = false) := by unfold Hid; rw [HBE.out, hB, seenN_false HNE.out]; simp [HLE.out]
                  go_wp2
                  go_roundw
                  case rel => exact ⟨m + 1 + 1, by omega, by go_num, fun j h => by
                    rcases Nat.lt_or_ge j (m + 1) with h3 | h3
                    · exact HJ.out j h3
                    · obtain rfl : j = m + 1 := by omega
                      exact HOK.out, hbi⟩
                  case measure => simp [intOf] <;> omega
      · obtain rfl : k = l.length := by omega
        have HV := Lib.hid (boxValid_none (by omega) HJ.out)
        go_wp2
        go_ret2
        exact ⟨by rw [HV.out]; rfl, hb⟩
end Go.Proofs.Ytccjddbcdmgefaa
