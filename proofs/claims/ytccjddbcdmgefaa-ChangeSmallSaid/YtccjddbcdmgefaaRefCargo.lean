/-
  The reference for cargo, and who has an ID.
-/
import Derived.Test.YtccjddbcdmgefaaRefValid
namespace Go.Proofs.Ytccjddbcdmgefaa
open Go.RowKit

set_option maxHeartbeats 1000000 in
theorem ref_find (A : Option Addr) (c : Nat) (l : List Box) (n : Nat) (hn : n = l.length) (id : Int) (w : World) (hA : Rd w w.heap.size 9 A (l.map Box.cells)) (hl : l.length ≤ 1000000000000) :
    Calls Try.prog 60 #[.slice A n c, .int .i64 id] w fun e w' => e = .returned (.int .i64 (idx (fun b : Box => b.id == id) l)) ∧ w = w' := by
  subst hn
  go_enter Try.func60, Try.ntmps60
  go_wp2
  go_loop [5] (fun i => ∃ k : Nat, k ≤ l.length ∧ i = .int .i64 k ∧ (∀ j, (h : j < k) → (h2 : j < l.length) → (l[j].id == id) = false)) (fun i => l.length - (intOf i).toNat)
  case atStart => exact ⟨0, by omega, rfl, by omega⟩
  case round =>
    obtain ⟨k, hk, rfl, hj⟩ := hrel
    have HJ := Lib.hid hj
    clear hj
    by_cases hlt : k < l.length
    · obtain ⟨bb, off, rfl, _, hat⟩ := Box.at_ hA k hlt
      have c0 := (hat w (Below.refl _ _)).1
      clear hat
      cases hq : (l[k].id == id) with
      | true =>
        have HV := Lib.hid (idx_found (p := fun b : Box => b.id == id) hlt (fun j h => HJ.out j h (by omega)) hq)
        go_wp2
        go_ret
        exact ⟨by rw [HV.out]; rfl, rfl⟩
      | false =>
        have HQ := Lib.hid hq
        go_wp2
        go_round
        case rel =>
          refine ⟨k + 1, by omega, by go_num, fun j h h2 => ?_⟩
          rcases Nat.lt_or_ge j k with h3 | h3
          · exact HJ.out j h3 h2
          · obtain rfl : j = k := by omega
            exact HQ.out
        case measure => simp [intOf]; omega
    · obtain rfl : k = l.length := by omega
      have HI := Lib.hid (idx_none (p := fun b : Box => b.id == id) (fun j h => HJ.out j h h))
      go_wp2
      go_ret
      exact ⟨by rw [HI.out]; rfl, rfl⟩

set_option maxHeartbeats 1000000 in
theorem ref_cargo (A : Option Addr) (c : Nat) (l : List Box) (n : Nat) (hn : n = l.length) (calls : Int) (w : World) (hA : Rd w w.heap.size 9 A (l.map Box.cells)) (hl : l.length ≤ 1000000000000) (hnum : ∀ b ∈ l, b.num.size ≤ 140737488351232) :
    Calls Try.prog 58 #[.int .i64 calls, .slice A n c] w fun e w' => e = .returned (.tuple #[.int .i64 (cargoValid calls l).1, .int .i64 (cargoValid calls l).2]) ∧ Below w.heap.size w w' := by
  subst hn
  by_cases h1 : calls < 2
  · have HV : Hid (cargoValid calls l = (-1, 2)) := by unfold Hid cargoValid; rw [if_pos (.inl h1)]
    go_enter Try.func58, Try.ntmps58
    go_wp2
    go_ret2
    exact ⟨by rw [HV.out]; rfl, Below.refl _ _⟩
  by_cases h2 : 20 < calls
  · have HV : Hid (cargoValid calls l = (-1, 2)) := by unfold Hid cargoValid; rw [if_pos (.inr h2)]
    go_enter Try.func58, Try.ntmps58
    go_wp2
    go_ret2
    exact ⟨by rw [HV.out]; rfl, Below.refl _ _⟩
  have HBV := Lib.hid (ref_valid A c l _ rfl w hA hl hnum)
  have HV0 : Hid (cargoValid calls l = if (boxValid l).2 = 0 then if 0 ≤ idx (fun b : Box => decide (calls ≤ b.dis)) l then (idx (fun b : Box => decide (calls ≤ b.dis)) l, 210) else (-1, 0) else boxValid l) := by
    unfold Hid cargoValid
    rw [if_neg (by omega)]
  by_cases hz : (boxValid l).2 = 0
  · have HZ := Lib.hid hz
    go_enter Try.func58, Try.ntmps58
    go_wp2_with (go_at_call 73; refine (HBV.out).mono ?_; rintro e w2 ⟨rfl, hb2⟩)
    clear hz
    go_loopw [8] (fun i wr => ∃ k : Nat, k ≤ l.length ∧ i = .int .i64 k ∧ (∀ j, (h : j < k) → (h2 : j < l.length) → decide (calls ≤ l[j].dis) = false) ∧ wr = w2) (fun i _ => l.length - (intOf i).toNat)
    case atStart => exact ⟨0, by omega, rfl, by omega, rfl⟩
    case round =>
      obtain ⟨k, hk, rfl, hj, rfl⟩ := hrel
      have HJ := Lib.hid hj
      clear hj
      by_cases hlt : k < l.length
      · obtain ⟨bb, off, rfl, _, hat⟩ := Box.at_ hA k hlt
        have c6 := (hat _ hb2).2.2.2.2.2.2.1
        clear hat
        by_cases hq : calls ≤ l[k].dis
        · have HI := Lib.hid (idx_found (p := fun b : Box => decide (calls ≤ b.dis)) hlt (fun j h => HJ.out j h (by omega)) (by simpa using hq))
          have HV : Hid (cargoValid calls l = ((k : Int), 210)) := by unfold Hid; rw [HV0.out, if_pos HZ.out, HI.out, if_pos (by omega)]
          go_wp2
          go_ret2
          exact ⟨by rw [HV.out]; rfl, hb2⟩
        · have HQ := Lib.hid hq
          go_wp2
          go_roundw
          case rel =>
            refine ⟨k + 1, by omega, by go_num, fun j h h2 => ?_, trivial⟩
            rcases Nat.lt_or_ge j k with h3 | h3
            · exact HJ.out j h3 h2
            · obtain rfl : j = k := by omega
              simpa using HQ.out
          case measure => simp [intOf]; omega
      · obtain rfl : k = l.length := by omega
        have HI := Lib.hid (idx_none (p := fun b : Box => decide (calls ≤ b.dis)) (fun j h => HJ.out j h h))
        have HV : Hid (cargoValid calls l = (-1, 0)) := by unfold Hid; rw [HV0.out, if_pos HZ.out, HI.out, if_neg (by omega)]
        go_wp2
        go_ret2
        exact ⟨by rw [HV.out]; rfl, hb2⟩
  · have HV : Hid (cargoValid calls l = boxValid l) := by unfold Hid; rw [HV0.out, if_neg hz]
    have hz2 : ((boxValid l).2 != 0) = true := by simpa using hz
    go_enter Try.func58, Try.ntmps58
    go_wp2_with (go_at_call 73; refine (HBV.out).mono ?_; rintro e w2 ⟨rfl, hb2⟩)
    go_ret2
    exact ⟨by rw [HV.out]; rfl, hb2⟩

set_option maxHeartbeats 1000000 in
theorem ref37_right (A : Option Addr) (c : Nat) (l : List Box) (n : Nat) (hn : n = l.length) (calls now : Int) (w : World) (hA : Rd w w.heap.size 9 A (l.map Box.cells)) (hl : l.length ≤ 1000000000000) (hnum : ∀ b ∈ l, b.num.size ≤ 140737488351232) :
    Calls Try.prog 38 #[.slice A n c, .int .i64 calls, .int .i64 now] w fun e w' => e = .returned (.bool (rightB l calls now)) ∧ Below w.heap.size w w' := by
  subst hn
  have HC := Lib.hid (ref_cargo A c l _ rfl calls w hA hl hnum)
  clear hA
  by_cases hz : (cargoValid calls l).2 = 0
  · by_cases h0 : 0 ≤ now
    · have HV : Hid (rightB l calls now = decide (now ≤ calls)) := by unfold Hid rightB; simp [hz, h0]
      go_enter Try.func38, Try.ntmps38
      go_wp2_with (go_at_call 58; refine (HC.out).mono ?_; rintro e w2 ⟨rfl, hb2⟩)
      go_ret
      exact ⟨by rw [HV.out]; rfl, hb2⟩
    · have HV : Hid (rightB l calls now = false) := by unfold Hid rightB; simp [h0]
      go_enter Try.func38, Try.ntmps38
      go_wp2_with (go_at_call 58; refine (HC.out).mono ?_; rintro e w2 ⟨rfl, hb2⟩)
      go_ret
      exact ⟨by rw [HV.out]; rfl, hb2⟩
  · have HV : Hid (rightB l calls now = false) := by unfold Hid rightB; simp [hz]
    have hz2 : ((cargoValid calls l).2 == 0) = false := by simpa using hz
    go_enter Try.func38, Try.ntmps38
    go_wp2_with (go_at_call 58; refine (HC.out).mono ?_; rintro e w2 ⟨rfl, hb2⟩)
    go_ret
    exact ⟨by rw [HV.out]; rfl, hb2⟩
end Go.Proofs.Ytccjddbcdmgefaa
