/-
  The reference for containers tells what boxB tells.
-/
import Derived.Test.YtccjddbcdmgefaaCargo
import Derived.Test.YtccjddbcdmgefaaRefIso
namespace Go.Proofs.Ytccjddbcdmgefaa
open Go.RowKit

set_option maxRecDepth 100000 in
set_option maxHeartbeats 4000000 in
theorem ref_right (b : Box) (w : World) (hn : b.num.size ≤ 140737488351232) :
    Calls Try.prog 62 #[b.val] w fun e w' => e = .returned (.bool (boxB b)) ∧ Below w.heap.size w w' := by
  obtain ⟨id, num, size, high, kilos, load, dis, cls, reefer⟩ := b
  have HBX : Hid (Below w.heap.size w (boxA ⟨id, num, size, high, kilos, load, dis, cls, reefer⟩ w)) := (Below.refl _ _).alloc (Nat.le_refl _) _
  simp only at hn
  by_cases s20 : size = 20
  · subst s20
    cases high with
    | true =>
      have HV : Hid (boxB ⟨id, num, 20, true, kilos, load, dis, cls, reefer⟩ = false) := boxB_bad (k := 2) (by omega) (by simp [bRule, bWithin, kMost] <;> omega)
      go_enter Try.func62, Try.ntmps62
      go_wp2
      go_ret
      exact ⟨by rw [HV.out]; rfl, HBX.out⟩
    | false =>
      by_cases k1 : kilos < 1
      · have HV : Hid (boxB ⟨id, num, 20, false, kilos, load, dis, cls, reefer⟩ = false) := boxB_bad (k := 3) (by omega) (by simp [bRule, bWithin, kMost] <;> omega)
        go_enter Try.func62, Try.ntmps62
        go_wp2
        go_ret
        exact ⟨by rw [HV.out]; rfl, HBX.out⟩
      by_cases k0 : 40000 < kilos
      · have HV : Hid (boxB ⟨id, num, 20, false, kilos, load, dis, cls, reefer⟩ = false) := boxB_bad (k := 3) (by omega) (by simp [bRule, bWithin, kMost] <;> omega)
        go_enter Try.func62, Try.ntmps62
        go_wp2
        go_ret
        exact ⟨by rw [HV.out]; rfl, HBX.out⟩
      by_cases k2 : 32000 < kilos
      · have HV : Hid (boxB ⟨id, num, 20, false, kilos, load, dis, cls, reefer⟩ = false) := boxB_bad (k := 3) (by omega) (by simp [bRule, bWithin, kMost] <;> omega)
        go_enter Try.func62, Try.ntmps62
        go_wp2
        go_ret
        exact ⟨by rw [HV.out]; rfl, HBX.out⟩
      by_cases i1 : id < 1
      · have HV : Hid (boxB ⟨id, num, 20, false, kilos, load, dis, cls, reefer⟩ = false) := boxB_bad (k := 0) (by omega) (by simp [bRule, bWithin, kMost] <;> omega)
        go_enter Try.func62, Try.ntmps62
        go_wp2
        go_ret
        exact ⟨by rw [HV.out]; rfl, HBX.out⟩
      by_cases i2 : 999999 < id
      · have HV : Hid (boxB ⟨id, num, 20, false, kilos, load, dis, cls, reefer⟩ = false) := boxB_bad (k := 0) (by omega) (by simp [bRule, bWithin, kMost] <;> omega)
        go_enter Try.func62, Try.ntmps62
        go_wp2
        go_ret
        exact ⟨by rw [HV.out]; rfl, HBX.out⟩
      by_cases hz : num = noNum
      · have hz3 : num.toList = [] := by rw [hz]; exact noNum_l
        have hz2 : num.toList.isEmpty = true := by simp [hz3]
        have HZ := Lib.hid hz
        clear hz
        by_cases l1 : load < 0
        · have HV : Hid (boxB ⟨id, num, 20, false, kilos, load, dis, cls, reefer⟩ = false) := boxB_bad (k := 4) (by omega) (by simp [bRule, bWithin, kMost] <;> omega)
          go_enter Try.func62, Try.ntmps62
          go_wp2
          go_ret
          exact ⟨by rw [HV.out]; rfl, HBX.out⟩
        by_cases l2 : dis ≤ load
        · have HV : Hid (boxB ⟨id, num, 20, false, kilos, load, dis, cls, reefer⟩ = false) := boxB_bad (k := 4) (by omega) (by simp [bRule, bWithin, kMost] <;> omega)
          go_enter Try.func62, Try.ntmps62
          go_wp2
          go_ret
          exact ⟨by rw [HV.out]; rfl, HBX.out⟩
        by_cases l3 : 20 ≤ dis
        · have HV : Hid (boxB ⟨id, num, 20, false, kilos, load, dis, cls, reefer⟩ = false) := boxB_bad (k := 4) (by omega) (by simp [bRule, bWithin, kMost] <;> omega)
          go_enter Try.func62, Try.ntmps62
          go_wp2
          go_ret
          exact ⟨by rw [HV.out]; rfl, HBX.out⟩
        have HV : Hid (boxB ⟨id, num, 20, false, kilos, load, dis, cls, reefer⟩ = decide (cls < 10)) := by
          have h9 : decide (cls ≤ 9) = decide (cls < 10) := decide_eq_decide.2 (by omega)
          have r0 : bWithin id 1 999999 = true := by simp [bWithin]; omega
          have r3 : bWithin kilos 1 (kMost 20) = true := by simp [bWithin, kMost]; omega
          have r4 : (decide (0 ≤ load) && decide (load < dis) && decide (dis < 20)) = true := by simp; omega
          have r1 : (decide (num = noNum) || isoB num) = true := by simp [HZ.out]
          show (bWithin id 1 999999 && (decide (num = noNum) || isoB num) && (!false || decide ((20 : Int) = 40)) && bWithin kilos 1 (kMost 20) && (decide (0 ≤ load) && decide (load < dis) && decide (dis < 20)) && decide (cls ≤ 9)) = _
          rw [r0, r1, r3, r4, h9]
          simp
        go_enter Try.func62, Try.ntmps62
        go_wp2
        go_ret
        exact ⟨by rw [HV.out]; rfl, HBX.out⟩
      · have hz3 : ¬ num.toList = [] := fun h => hz (toList_eq.mp (h.trans noNum_l.symm))
        have hz2 : num.toList.isEmpty = false := by simpa using hz3
        have HZ := Lib.hid hz
        clear hz
        cases hi : isoB num with
        | false =>
          have HV : Hid (boxB ⟨id, num, 20, false, kilos, load, dis, cls, reefer⟩ = false) := boxB_bad (k := 1) (by omega) (by simp [bRule, hi, HZ.out])
          go_enter Try.func62, Try.ntmps62
          go_wp2_with (go_at_call 74; refine (ref_number num _ hn).mono ?_; rw [hi]; rintro e w2 ⟨rfl, rfl⟩)
          go_ret
          exact ⟨by rw [HV.out]; rfl, HBX.out⟩
        | true =>
          by_cases l1 : load < 0
          · have HV : Hid (boxB ⟨id, num, 20, false, kilos, load, dis, cls, reefer⟩ = false) := boxB_bad (k := 4) (by omega) (by simp [bRule, bWithin, kMost] <;> omega)
            go_enter Try.func62, Try.ntmps62
            go_wp2_with (go_at_call 74; refine (ref_number num _ hn).mono ?_; rw [hi]; rintro e w2 ⟨rfl, rfl⟩)
            go_ret
            exact ⟨by rw [HV.out]; rfl, HBX.out⟩
          by_cases l2 : dis ≤ load
          · have HV : Hid (boxB ⟨id, num, 20, false, kilos, load, dis, cls, reefer⟩ = false) := boxB_bad (k := 4) (by omega) (by simp [bRule, bWithin, kMost] <;> omega)
            go_enter Try.func62, Try.ntmps62
            go_wp2_with (go_at_call 74; refine (ref_number num _ hn).mono ?_; rw [hi]; rintro e w2 ⟨rfl, rfl⟩)
            go_ret
            exact ⟨by rw [HV.out]; rfl, HBX.out⟩
          by_cases l3 : 20 ≤ dis
          · have HV : Hid (boxB ⟨id, num, 20, false, kilos, load, dis, cls, reefer⟩ = false) := boxB_bad (k := 4) (by omega) (by simp [bRule, bWithin, kMost] <;> omega)
            go_enter Try.func62, Try.ntmps62
            go_wp2_with (go_at_call 74; refine (ref_number num _ hn).mono ?_; rw [hi]; rintro e w2 ⟨rfl, rfl⟩)
            go_ret
            exact ⟨by rw [HV.out]; rfl, HBX.out⟩
          have HV : Hid (boxB ⟨id, num, 20, false, kilos, load, dis, cls, reefer⟩ = decide (cls < 10)) := by
            have h9 : decide (cls ≤ 9) = decide (cls < 10) := decide_eq_decide.2 (by omega)
            have r0 : bWithin id 1 999999 = true := by simp [bWithin]; omega
            have r3 : bWithin kilos 1 (kMost 20) = true := by simp [bWithin, kMost]; omega
            have r4 : (decide (0 ≤ load) && decide (load < dis) && decide (dis < 20)) = true := by simp; omega
            have r1 : (decide (num = noNum) || isoB num) = true := by simp [hi]
            show (bWithin id 1 999999 && (decide (num = noNum) || isoB num) && (!false || decide ((20 : Int) = 40)) && bWithin kilos 1 (kMost 20) && (decide (0 ≤ load) && decide (load < dis) && decide (dis < 20)) && decide (cls ≤ 9)) = _
            rw [r0, r1, r3, r4, h9]
            simp
          go_enter Try.func62, Try.ntmps62
          go_wp2_with (go_at_call 74; refine (ref_number num _ hn).mono ?_; rw [hi]; rintro e w2 ⟨rfl, rfl⟩)
          go_ret
          exact ⟨by rw [HV.out]; rfl, HBX.out⟩
  by_cases s40 : size = 40
  · subst s40
    clear s20
    cases high with
    | true =>
      by_cases k1 : kilos < 1
      · have HV : Hid (boxB ⟨id, num, 40, true, kilos, load, dis, cls, reefer⟩ = false) := boxB_bad (k := 3) (by omega) (by simp [bRule, bWithin, kMost] <;> omega)
        go_enter Try.func62, Try.ntmps62
        go_wp2
        go_ret
        exact ⟨by rw [HV.out]; rfl, HBX.out⟩
      by_cases k0 : 40000 < kilos
      · have HV : Hid (boxB ⟨id, num, 40, true, kilos, load, dis, cls, reefer⟩ = false) := boxB_bad (k := 3) (by omega) (by simp [bRule, bWithin, kMost] <;> omega)
        go_enter Try.func62, Try.ntmps62
        go_wp2
        go_ret
        exact ⟨by rw [HV.out]; rfl, HBX.out⟩
      by_cases i1 : id < 1
      · have HV : Hid (boxB ⟨id, num, 40, true, kilos, load, dis, cls, reefer⟩ = false) := boxB_bad (k := 0) (by omega) (by simp [bRule, bWithin, kMost] <;> omega)
        go_enter Try.func62, Try.ntmps62
        go_wp2
        go_ret
        exact ⟨by rw [HV.out]; rfl, HBX.out⟩
      by_cases i2 : 999999 < id
      · have HV : Hid (boxB ⟨id, num, 40, true, kilos, load, dis, cls, reefer⟩ = false) := boxB_bad (k := 0) (by omega) (by simp [bRule, bWithin, kMost] <;> omega)
        go_enter Try.func62, Try.ntmps62
        go_wp2
        go_ret
        exact ⟨by rw [HV.out]; rfl, HBX.out⟩
      by_cases hz : num = noNum
      · have hz3 : num.toList = [] := by rw [hz]; exact noNum_l
        have hz2 : num.toList.isEmpty = true := by simp [hz3]
        have HZ := Lib.hid hz
        clear hz
        by_cases l1 : load < 0
        · have HV : Hid (boxB ⟨id, num, 40, true, kilos, load, dis, cls, reefer⟩ = false) := boxB_bad (k := 4) (by omega) (by simp [bRule, bWithin, kMost] <;> omega)
          go_enter Try.func62, Try.ntmps62
          go_wp2
          go_ret
          exact ⟨by rw [HV.out]; rfl, HBX.out⟩
        by_cases l2 : dis ≤ load
        · have HV : Hid (boxB ⟨id, num, 40, true, kilos, load, dis, cls, reefer⟩ = false) := boxB_bad (k := 4) (by omega) (by simp [bRule, bWithin, kMost] <;> omega)
          go_enter Try.func62, Try.ntmps62
          go_wp2
          go_ret
          exact ⟨by rw [HV.out]; rfl, HBX.out⟩
        by_cases l3 : 20 ≤ dis
        · have HV : Hid (boxB ⟨id, num, 40, true, kilos, load, dis, cls, reefer⟩ = false) := boxB_bad (k := 4) (by omega) (by simp [bRule, bWithin, kMost] <;> omega)
          go_enter Try.func62, Try.ntmps62
          go_wp2
          go_ret
          exact ⟨by rw [HV.out]; rfl, HBX.out⟩
        have HV : Hid (boxB ⟨id, num, 40, true, kilos, load, dis, cls, reefer⟩ = decide (cls < 10)) := by
          have h9 : decide (cls ≤ 9) = decide (cls < 10) := decide_eq_decide.2 (by omega)
          have r0 : bWithin id 1 999999 = true := by simp [bWithin]; omega
          have r3 : bWithin kilos 1 (kMost 40) = true := by simp [bWithin, kMost]; omega
          have r4 : (decide (0 ≤ load) && decide (load < dis) && decide (dis < 20)) = true := by simp; omega
          have r1 : (decide (num = noNum) || isoB num) = true := by simp [HZ.out]
          show (bWithin id 1 999999 && (decide (num = noNum) || isoB num) && (!true || decide ((40 : Int) = 40)) && bWithin kilos 1 (kMost 40) && (decide (0 ≤ load) && decide (load < dis) && decide (dis < 20)) && decide (cls ≤ 9)) = _
          rw [r0, r1, r3, r4, h9]
          simp
        go_enter Try.func62, Try.ntmps62
        go_wp2
        go_ret
        exact ⟨by rw [HV.out]; rfl, HBX.out⟩
      · have hz3 : ¬ num.toList = [] := fun h => hz (toList_eq.mp (h.trans noNum_l.symm))
        have hz2 : num.toList.isEmpty = false := by simpa using hz3
        have HZ := Lib.hid hz
        clear hz
        cases hi : isoB num with
        | false =>
          have HV : Hid (boxB ⟨id, num, 40, true, kilos, load, dis, cls, reefer⟩ = false) := boxB_bad (k := 1) (by omega) (by simp [bRule, hi, HZ.out])
          go_enter Try.func62, Try.ntmps62
          go_wp2_with (go_at_call 74; refine (ref_number num _ hn).mono ?_; rw [hi]; rintro e w2 ⟨rfl, rfl⟩)
          go_ret
          exact ⟨by rw [HV.out]; rfl, HBX.out⟩
        | true =>
          by_cases l1 : load < 0
          · have HV : Hid (boxB ⟨id, num, 40, true, kilos, load, dis, cls, reefer⟩ = false) := boxB_bad (k := 4) (by omega) (by simp [bRule, bWithin, kMost] <;> omega)
            go_enter Try.func62, Try.ntmps62
            go_wp2_with (go_at_call 74; refine (ref_number num _ hn).mono ?_; rw [hi]; rintro e w2 ⟨rfl, rfl⟩)
            go_ret
            exact ⟨by rw [HV.out]; rfl, HBX.out⟩
          by_cases l2 : dis ≤ load
          · have HV : Hid (boxB ⟨id, num, 40, true, kilos, load, dis, cls, reefer⟩ = false) := boxB_bad (k := 4) (by omega) (by simp [bRule, bWithin, kMost] <;> omega)
            go_enter Try.func62, Try.ntmps62
            go_wp2_with (go_at_call 74; refine (ref_number num _ hn).mono ?_; rw [hi]; rintro e w2 ⟨rfl, rfl⟩)
            go_ret
            exact ⟨by rw [HV.out]; rfl, HBX.out⟩
          by_cases l3 : 20 ≤ dis
          · have HV : Hid (boxB ⟨id, num, 40, true, kilos, load, dis, cls, reefer⟩ = false) := boxB_bad (k := 4) (by omega) (by simp [bRule, bWithin, kMost] <;> omega)
            go_enter Try.func62, Try.ntmps62
            go_wp2_with (go_at_call 74; refine (ref_number num _ hn).mono ?_; rw [hi]; rintro e w2 ⟨rfl, rfl⟩)
            go_ret
            exact ⟨by rw [HV.out]; rfl, HBX.out⟩
          have HV : Hid (boxB ⟨id, num, 40, true, kilos, load, dis, cls, reefer⟩ = decide (cls < 10)) := by
            have h9 : decide (cls ≤ 9) = decide (cls < 10) := decide_eq_decide.2 (by omega)
            have r0 : bWithin id 1 999999 = true := by simp [bWithin]; omega
            have r3 : bWithin kilos 1 (kMost 40) = true := by simp [bWithin, kMost]; omega
            have r4 : (decide (0 ≤ load) && decide (load < dis) && decide (dis < 20)) = true := by simp; omega
            have r1 : (decide (num = noNum) || isoB num) = true := by simp [hi]
            show (bWithin id 1 999999 && (decide (num = noNum) || isoB num) && (!true || decide ((40 : Int) = 40)) && bWithin kilos 1 (kMost 40) && (decide (0 ≤ load) && decide (load < dis) && decide (dis < 20)) && decide (cls ≤ 9)) = _
            rw [r0, r1, r3, r4, h9]
            simp
          go_enter Try.func62, Try.ntmps62
          go_wp2_with (go_at_call 74; refine (ref_number num _ hn).mono ?_; rw [hi]; rintro e w2 ⟨rfl, rfl⟩)
          go_ret
          exact ⟨by rw [HV.out]; rfl, HBX.out⟩
    | false =>
      by_cases k1 : kilos < 1
      · have HV : Hid (boxB ⟨id, num, 40, false, kilos, load, dis, cls, reefer⟩ = false) := boxB_bad (k := 3) (by omega) (by simp [bRule, bWithin, kMost] <;> omega)
        go_enter Try.func62, Try.ntmps62
        go_wp2
        go_ret
        exact ⟨by rw [HV.out]; rfl, HBX.out⟩
      by_cases k0 : 40000 < kilos
      · have HV : Hid (boxB ⟨id, num, 40, false, kilos, load, dis, cls, reefer⟩ = false) := boxB_bad (k := 3) (by omega) (by simp [bRule, bWithin, kMost] <;> omega)
        go_enter Try.func62, Try.ntmps62
        go_wp2
        go_ret
        exact ⟨by rw [HV.out]; rfl, HBX.out⟩
      by_cases i1 : id < 1
      · have HV : Hid (boxB ⟨id, num, 40, false, kilos, load, dis, cls, reefer⟩ = false) := boxB_bad (k := 0) (by omega) (by simp [bRule, bWithin, kMost] <;> omega)
        go_enter Try.func62, Try.ntmps62
        go_wp2
        go_ret
        exact ⟨by rw [HV.out]; rfl, HBX.out⟩
      by_cases i2 : 999999 < id
      · have HV : Hid (boxB ⟨id, num, 40, false, kilos, load, dis, cls, reefer⟩ = false) := boxB_bad (k := 0) (by omega) (by simp [bRule, bWithin, kMost] <;> omega)
        go_enter Try.func62, Try.ntmps62
        go_wp2
        go_ret
        exact ⟨by rw [HV.out]; rfl, HBX.out⟩
      by_cases hz : num = noNum
      · have hz3 : num.toList = [] := by rw [hz]; exact noNum_l
        have hz2 : num.toList.isEmpty = true := by simp [hz3]
        have HZ := Lib.hid hz
        clear hz
        by_cases l1 : load < 0
        · have HV : Hid (boxB ⟨id, num, 40, false, kilos, load, dis, cls, reefer⟩ = false) := boxB_bad (k := 4) (by omega) (by simp [bRule, bWithin, kMost] <;> omega)
          go_enter Try.func62, Try.ntmps62
          go_wp2
          go_ret
          exact ⟨by rw [HV.out]; rfl, HBX.out⟩
        by_cases l2 : dis ≤ load
        · have HV : Hid (boxB ⟨id, num, 40, false, kilos, load, dis, cls, reefer⟩ = false) := boxB_bad (k := 4) (by omega) (by simp [bRule, bWithin, kMost] <;> omega)
          go_enter Try.func62, Try.ntmps62
          go_wp2
          go_ret
          exact ⟨by rw [HV.out]; rfl, HBX.out⟩
        by_cases l3 : 20 ≤ dis
        · have HV : Hid (boxB ⟨id, num, 40, false, kilos, load, dis, cls, reefer⟩ = false) := boxB_bad (k := 4) (by omega) (by simp [bRule, bWithin, kMost] <;> omega)
          go_enter Try.func62, Try.ntmps62
          go_wp2
          go_ret
          exact ⟨by rw [HV.out]; rfl, HBX.out⟩
        have HV : Hid (boxB ⟨id, num, 40, false, kilos, load, dis, cls, reefer⟩ = decide (cls < 10)) := by
          have h9 : decide (cls ≤ 9) = decide (cls < 10) := decide_eq_decide.2 (by omega)
          have r0 : bWithin id 1 999999 = true := by simp [bWithin]; omega
          have r3 : bWithin kilos 1 (kMost 40) = true := by simp [bWithin, kMost]; omega
          have r4 : (decide (0 ≤ load) && decide (load < dis) && decide (dis < 20)) = true := by simp; omega
          have r1 : (decide (num = noNum) || isoB num) = true := by simp [HZ.out]
          show (bWithin id 1 999999 && (decide (num = noNum) || isoB num) && (!false || decide ((40 : Int) = 40)) && bWithin kilos 1 (kMost 40) && (decide (0 ≤ load) && decide (load < dis) && decide (dis < 20)) && decide (cls ≤ 9)) = _
          rw [r0, r1, r3, r4, h9]
          simp
        go_enter Try.func62, Try.ntmps62
        go_wp2
        go_ret
        exact ⟨by rw [HV.out]; rfl, HBX.out⟩
      · have hz3 : ¬ num.toList = [] := fun h => hz (toList_eq.mp (h.trans noNum_l.symm))
        have hz2 : num.toList.isEmpty = false := by simpa using hz3
        have HZ := Lib.hid hz
        clear hz
        cases hi : isoB num with
        | false =>
          have HV : Hid (boxB ⟨id, num, 40, false, kilos, load, dis, cls, reefer⟩ = false) := boxB_bad (k := 1) (by omega) (by simp [bRule, hi, HZ.out])
          go_enter Try.func62, Try.ntmps62
          go_wp2_with (go_at_call 74; refine (ref_number num _ hn).mono ?_; rw [hi]; rintro e w2 ⟨rfl, rfl⟩)
          go_ret
          exact ⟨by rw [HV.out]; rfl, HBX.out⟩
        | true =>
          by_cases l1 : load < 0
          · have HV : Hid (boxB ⟨id, num, 40, false, kilos, load, dis, cls, reefer⟩ = false) := boxB_bad (k := 4) (by omega) (by simp [bRule, bWithin, kMost] <;> omega)
            go_enter Try.func62, Try.ntmps62
            go_wp2_with (go_at_call 74; refine (ref_number num _ hn).mono ?_; rw [hi]; rintro e w2 ⟨rfl, rfl⟩)
            go_ret
            exact ⟨by rw [HV.out]; rfl, HBX.out⟩
          by_cases l2 : dis ≤ load
          · have HV : Hid (boxB ⟨id, num, 40, false, kilos, load, dis, cls, reefer⟩ = false) := boxB_bad (k := 4) (by omega) (by simp [bRule, bWithin, kMost] <;> omega)
            go_enter Try.func62, Try.ntmps62
            go_wp2_with (go_at_call 74; refine (ref_number num _ hn).mono ?_; rw [hi]; rintro e w2 ⟨rfl, rfl⟩)
            go_ret
            exact ⟨by rw [HV.out]; rfl, HBX.out⟩
          by_cases l3 : 20 ≤ dis
          · have HV : Hid (boxB ⟨id, num, 40, false, kilos, load, dis, cls, reefer⟩ = false) := boxB_bad (k := 4) (by omega) (by simp [bRule, bWithin, kMost] <;> omega)
            go_enter Try.func62, Try.ntmps62
            go_wp2_with (go_at_call 74; refine (ref_number num _ hn).mono ?_; rw [hi]; rintro e w2 ⟨rfl, rfl⟩)
            go_ret
            exact ⟨by rw [HV.out]; rfl, HBX.out⟩
          have HV : Hid (boxB ⟨id, num, 40, false, kilos, load, dis, cls, reefer⟩ = decide (cls < 10)) := by
            have h9 : decide (cls ≤ 9) = decide (cls < 10) := decide_eq_decide.2 (by omega)
            have r0 : bWithin id 1 999999 = true := by simp [bWithin]; omega
            have r3 : bWithin kilos 1 (kMost 40) = true := by simp [bWithin, kMost]; omega
            have r4 : (decide (0 ≤ load) && decide (load < dis) && decide (dis < 20)) = true := by simp; omega
            have r1 : (decide (num = noNum) || isoB num) = true := by simp [hi]
            show (bWithin id 1 999999 && (decide (num = noNum) || isoB num) && (!false || decide ((40 : Int) = 40)) && bWithin kilos 1 (kMost 40) && (decide (0 ≤ load) && decide (load < dis) && decide (dis < 20)) && decide (cls ≤ 9)) = _
            rw [r0, r1, r3, r4, h9]
            simp
          go_enter Try.func62, Try.ntmps62
          go_wp2_with (go_at_call 74; refine (ref_number num _ hn).mono ?_; rw [hi]; rintro e w2 ⟨rfl, rfl⟩)
          go_ret
          exact ⟨by rw [HV.out]; rfl, HBX.out⟩
  have t20 : (size != 20) = true := by simpa using s20
  have t40 : (size != 40) = true := by simpa using s40
  have HV : Hid (boxB ⟨id, num, size, high, kilos, load, dis, cls, reefer⟩ = false) := boxB_bad (k := 3) (by omega) (by unfold bRule bWithin; simp only; rw [show kMost size = 0 by simp [kMost, s20, s40]]; simp; omega)
  go_enter Try.func62, Try.ntmps62
  go_wp2
  go_ret
  exact ⟨by rw [HV.out]; rfl, HBX.out⟩
end Go.Proofs.Ytccjddbcdmgefaa
