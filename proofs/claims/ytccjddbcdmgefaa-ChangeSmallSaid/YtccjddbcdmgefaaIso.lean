/-
  iso: which texts are right numbers.
-/
import Derived.Test.YtccjddbcdmgefaaDraw
import Derived.Test.YtccjddbcdmgefaaTypes
namespace Go.Proofs.Ytccjddbcdmgefaa
open Go.RowKit

def letterB (b : Int) : Bool := decide (65 ≤ b) && decide (b ≤ 90)
def groupB (b : Int) : Bool := b == 85 || b == 74 || b == 90
def digitB (b : Int) : Bool := decide (48 ≤ b) && decide (b ≤ 57)
def mayB (i : Nat) (b : Int) : Bool := if i < 3 then letterB b else if i = 3 then groupB b else digitB b
def byteAt (s : ByteArray) (i : Nat) : Int := ((s.data[i]?.map fun c => (c.toNat : Int)).getD 0)
def okAt (s : ByteArray) (i : Nat) : Bool := decide (i < 11) && mayB i (byteAt s i)
def formedB (s : ByteArray) : Bool := decide (∀ i, i < s.size → okAt s i = true)
def valB (b : Int) : Int := if digitB b then b - 48 else if letterB b then 10 + (b - 65) + (b - 65 + 9) / 10 else 0
def isVB (b : Int) : Bool := digitB b || letterB b
def sumV (s : ByteArray) : Nat → Int
  | 0 => 0
  | n + 1 => sumV s n + valB (byteAt s n) * 2 ^ n

theorem byteAt_get {s : ByteArray} {i : Nat} (h : i < s.size) : byteAt s i = (s[i].toNat : Int) := by
  unfold byteAt
  have : s.data[i]? = some s[i] := Array.getElem?_eq_getElem h
  rw [this]
  rfl
theorem byteAt_bd (s : ByteArray) (i : Nat) : 0 ≤ byteAt s i ∧ byteAt s i ≤ 255 := by
  unfold byteAt
  cases s.data[i]? with
  | none => simp
  | some c => have := c.toNat_lt; simp; omega
theorem valB_bd {b : Int} (_h0 : 0 ≤ b) (h : b ≤ 255) : 0 ≤ valB b ∧ valB b ≤ 38 := by
  unfold valB digitB letterB
  split
  · rename_i hd
    simp at hd
    omega
  · split
    · rename_i hl
      simp at hl
      omega
    · omega

theorem iso_value (b : Int) (w : World) (h0 : 0 ≤ b) (h1 : b ≤ 255) :
    Calls Try.prog 92 #[.int .u8 b] w fun e w' => e = .returned (.tuple #[.int .i64 (valB b), .bool (isVB b)]) ∧ w = w' := by
  by_cases hd : 48 ≤ b ∧ b ≤ 57
  · obtain ⟨d1, d2⟩ := hd
    have e : valB b = b - 48 := by unfold valB digitB; simp [d1, d2]
    have e2 : isVB b = true := by unfold isVB digitB; simp [d1, d2]
    have E := Lib.hid e
    have E2 := Lib.hid e2
    clear e e2
    go_enter Try.func92, Try.ntmps92
    go_wp2
    go_ret2
    exact ⟨by rw [E.out, E2.out]; rfl, rfl⟩
  · by_cases hl : 65 ≤ b ∧ b ≤ 90
    · obtain ⟨d1, d2⟩ := hl
      have e : valB b = 10 + (b - 65) + (b - 65 + 9) / 10 := by
        unfold valB digitB letterB
        rw [if_neg (by simp; omega), if_pos (by simp; omega)]
      have e2 : isVB b = true := by unfold isVB digitB letterB; simp [d1, d2]
      have E := Lib.hid e
      have E2 := Lib.hid e2
      clear e e2 hd
      have hd : decide (b ≤ 57) = false := by simp; omega
      go_enter Try.func92, Try.ntmps92
      go_wp2
      go_ret2
      exact ⟨by rw [E.out, E2.out]; rfl, rfl⟩
    · have e : valB b = 0 := by
        unfold valB digitB letterB
        rw [if_neg (by simp; omega), if_neg (by simp; omega)]
      have e2 : isVB b = false := by unfold isVB digitB letterB; simp; omega
      have E := Lib.hid e
      have E2 := Lib.hid e2
      clear e e2
      rcases Int.lt_or_le b 48 with h48 | h48
      · clear hd hl
        go_enter Try.func92, Try.ntmps92
        go_wp2
        go_ret2
        exact ⟨by rw [E.out, E2.out]; rfl, rfl⟩
      · have h57 : 57 < b := by omega
        rcases Int.lt_or_le b 65 with h65 | h65
        · clear hd hl
          go_enter Try.func92, Try.ntmps92
          go_wp2
          go_ret2
          exact ⟨by rw [E.out, E2.out]; rfl, rfl⟩
        · have h90 : 90 < b := by omega
          clear hd hl
          go_enter Try.func92, Try.ntmps92
          go_wp2
          go_ret2
          exact ⟨by rw [E.out, E2.out]; rfl, rfl⟩

theorem may1 (b : Int) (w : World) (h0 : 0 ≤ b) (h1 : b ≤ 255) : Calls Try.prog 93 #[.int .u8 b] w fun e w' => e = .returned (.bool (letterB b)) ∧ w = w' := by
  have HL : Hid (letterB b = (decide (65 ≤ b) && decide (b ≤ 90))) := rfl
  go_enter Try.func93, Try.ntmps93
  rcases Int.lt_or_le b 65 with h | h
  · have hd : decide (65 ≤ b) = false := by simp; omega
    have HD := Lib.hid hd
    go_wp2
    go_ret
    exact ⟨by rw [HL.out, HD.out]; rfl, rfl⟩
  · have hd : decide (65 ≤ b) = true := by simp; omega
    have HD := Lib.hid hd
    go_wp2
    go_ret
    exact ⟨by rw [HL.out, HD.out]; rfl, rfl⟩

theorem may3 (b : Int) (w : World) (h0 : 0 ≤ b) (h1 : b ≤ 255) : Calls Try.prog 95 #[.int .u8 b] w fun e w' => e = .returned (.bool (digitB b)) ∧ w = w' := by
  have HL : Hid (digitB b = (decide (48 ≤ b) && decide (b ≤ 57))) := rfl
  go_enter Try.func95, Try.ntmps95
  rcases Int.lt_or_le b 48 with h | h
  · have hd : decide (48 ≤ b) = false := by simp; omega
    have HD := Lib.hid hd
    go_wp2
    go_ret
    exact ⟨by rw [HL.out, HD.out]; rfl, rfl⟩
  · have hd : decide (48 ≤ b) = true := by simp; omega
    have HD := Lib.hid hd
    go_wp2
    go_ret
    exact ⟨by rw [HL.out, HD.out]; rfl, rfl⟩

theorem may2 (b : Int) (w : World) (h0 : 0 ≤ b) (h1 : b ≤ 255) : Calls Try.prog 94 #[.int .u8 b] w fun e w' => e = .returned (.bool (groupB b)) ∧ w = w' := by
  have HL : Hid (groupB b = ((b == 85 || b == 74) || b == 90)) := rfl
  go_enter Try.func94, Try.ntmps94
  cases ha : (b == 85) with
  | true =>
    have HD := Lib.hid ha
    go_wp2
    go_ret
    exact ⟨by rw [HL.out, HD.out]; rfl, rfl⟩
  | false =>
    have HD := Lib.hid ha
    cases hb : (b == 74) with
    | true =>
      have HB := Lib.hid hb
      go_wp2
      go_ret
      exact ⟨by rw [HL.out, HD.out, HB.out]; rfl, rfl⟩
    | false =>
      have HB := Lib.hid hb
      go_wp2
      go_ret
      exact ⟨by rw [HL.out, HD.out, HB.out]; rfl, rfl⟩

def mayCells : List Value := [.func (.func 93) #[] #[], .func (.func 93) #[] #[], .func (.func 93) #[] #[], .func (.func 94) #[] #[], .func (.func 95) #[] #[], .func (.func 95) #[] #[], .func (.func 95) #[] #[], .func (.func 95) #[] #[], .func (.func 95) #[] #[], .func (.func 95) #[] #[], .func (.func 95) #[] #[]]

theorem may_one : ∀ u ∈ mayCells, u.oneCell' = true := by simp [mayCells, Value.oneCell']

theorem iso_may (w : World) : Calls Try.prog 91 #[] w fun e w' => e = .returned (.agg mayCells.toArray) ∧ Below w.heap.size w w' := by
  go_enter Try.func91, Try.ntmps91
  go_wp2_with (refine wpList_st rfl _ _ rfl rfl rfl (n := 11) (cs := mayCells) (by kernel_rfl) rfl rfl (heap_alloc_new w _) (by simp) may_one ?_; intro cur' w2 hl hs hg hgr)
  have hcur : cur' = mayCells.toArray := by
    apply Array.ext'
    rw [hl]
    rfl
  subst hcur
  refine bodyPost_ret (v := .agg mayCells.toArray) (results_cell_row rfl _ w2 w.heap.size _ _ _ _ rfl hg Try.underlying119 rfl (by kernel_rfl)) rfl ⟨rfl, ?_⟩
  exact ((Below.refl _ _).alloc (Nat.le_refl _) _).grown hgr (by simp) (fun k hk => by injection hk with hk; omega)

theorem may_cf1 (w : World) (args : Array Value) : (callFunc 93 args).run Try.prog w = .ok (.enter 93 args) w := by go_simp

theorem may_cf2 (w : World) (args : Array Value) : (callFunc 94 args).run Try.prog w = .ok (.enter 94 args) w := by go_simp
theorem may_cf3 (w : World) (args : Array Value) : (callFunc 95 args).run Try.prog w = .ok (.enter 95 args) w := by go_simp

/-- what stands at each place, and what it tells -/
theorem may_at (k : Nat) (h : k < 11) : ∃ f, mayCells[k]? = some (.func (.func f) #[] #[]) ∧ (∀ w args, (callFunc f args).run Try.prog w = .ok (.enter f args) w) ∧
    ∀ (b : Int) (w : World), 0 ≤ b → b ≤ 255 → Calls Try.prog f #[.int .u8 b] w fun e w' => e = .returned (.bool (mayB k b)) ∧ Below w.heap.size w w' := by
  have hk : k = 0 ∨ k = 1 ∨ k = 2 ∨ k = 3 ∨ k = 4 ∨ k = 5 ∨ k = 6 ∨ k = 7 ∨ k = 8 ∨ k = 9 ∨ k = 10 := by omega
  have c1 : ∀ (b : Int) (w : World), 0 ≤ b → b ≤ 255 → Calls Try.prog 93 #[.int .u8 b] w fun e w' => e = .returned (.bool (letterB b)) ∧ Below w.heap.size w w' := fun b w h0 h1 => (may1 b w h0 h1).mono fun e w' ⟨he, hw⟩ => ⟨he, hw ▸ Below.refl _ _⟩
  have c2 : ∀ (b : Int) (w : World), 0 ≤ b → b ≤ 255 → Calls Try.prog 94 #[.int .u8 b] w fun e w' => e = .returned (.bool (groupB b)) ∧ Below w.heap.size w w' := fun b w h0 h1 => (may2 b w h0 h1).mono fun e w' ⟨he, hw⟩ => ⟨he, hw ▸ Below.refl _ _⟩
  have c3 : ∀ (b : Int) (w : World), 0 ≤ b → b ≤ 255 → Calls Try.prog 95 #[.int .u8 b] w fun e w' => e = .returned (.bool (digitB b)) ∧ Below w.heap.size w w' := fun b w h0 h1 => (may3 b w h0 h1).mono fun e w' ⟨he, hw⟩ => ⟨he, hw ▸ Below.refl _ _⟩
  rcases hk with rfl | rfl | rfl | rfl | rfl | rfl | rfl | rfl | rfl | rfl | rfl
  · exact ⟨_, rfl, may_cf1, c1⟩
  · exact ⟨_, rfl, may_cf1, c1⟩
  · exact ⟨_, rfl, may_cf1, c1⟩
  · exact ⟨_, rfl, may_cf2, c2⟩
  all_goals exact ⟨_, rfl, may_cf3, c3⟩

theorem okAt_eq {s : ByteArray} {k : Nat} (h : k < s.size) : okAt s k = (decide (k < 11) && mayB k (s[k].toNat : Int)) := by
  unfold okAt
  rw [byteAt_get h]

set_option maxHeartbeats 1000000 in
theorem iso_formed (s : ByteArray) (w : World) (hs : s.size ≤ 140737488351232) :
    Calls Try.prog 89 #[.string s] w fun e w' => e = .returned (.bool (formedB s)) ∧ Below w.heap.size w w' := by
  have hfb : (∀ i, i < s.size → okAt s i = true) → formedB s = true := fun h => by unfold formedB; simp; exact h
  have hfn : ∀ i, i < s.size → okAt s i = false → formedB s = false := fun i h h2 => by
    unfold formedB
    rw [decide_eq_false_iff_not]
    intro hall
    rw [hall i h] at h2
    cases h2
  have HFB := Lib.hid hfb
  have HFN := Lib.hid hfn
  clear hfb hfn
  go_enter Try.func89, Try.ntmps89
  go_wp2_with (first
    | (go_at_call 91; refine (iso_may _).mono ?_; rintro e w1 ⟨rfl, hb1⟩)
    | (refine wpList_st rfl _ _ rfl rfl rfl (n := 11) (cs := mayCells) (by kernel_rfl) rfl rfl (heap_alloc_new w1 _) (by simp) may_one ?_; intro cur' w2 hl hs' hg hgr))
  have hcur : cur' = mayCells.toArray := by
    apply Array.ext'
    rw [hl]
    rfl
  subst hcur
  have hb2 : Below w.heap.size w w2 := (hb1.alloc hb1.size _).grown hgr (by simp; have := hb1.size; omega) (fun k hk => by injection hk with hk; have := hb1.size; omega)
  have hlt2 : w1.heap.size < w2.heap.size := (Array.getElem?_eq_some_iff.1 hg).1
  have hcell : ∀ w', From w2 w' → ∀ i v, mayCells[i]? = some v → w'.cell? ⟨w1.heap.size, i, none⟩ = some v := fun w' hb i v hv => by
    rw [cell_of_row w' w1.heap.size i _ _ _ ((hb.block _ hlt2).trans hg)]
    simpa using hv
  have HC := Lib.hid hcell
  have HB2 := Lib.hid hb2
  clear hl hs' hg hgr hcell hb2
  go_loopw [4, 8] (fun _ i wr => ∃ k : Nat, k ≤ s.size ∧ i = .int .i64 k ∧ (∀ j, j < k → okAt s j = true) ∧ From w2 wr) (fun _ i _ => s.size - (intOf i).toNat)
  case atStart => exact ⟨0, by omega, rfl, by omega, Below.refl _ _⟩
  case round =>
    obtain ⟨k, hk, rfl, hj, hb⟩ := hrel
    have HJ := Lib.hid hj
    clear hj
    by_cases hlt : k < s.size
    · have hok := okAt_eq hlt
      have HOK := Lib.hid hok
      clear hok
      by_cases h11 : k < 11
      · have hd : decide ((11 : Int) ≤ (k : Int)) = false := by simp; omega
        obtain ⟨f, hmf, hcf, hcall⟩ := may_at k h11
        have hle : okAt s k = mayB k (s[k].toNat : Int) := by rw [HOK.out]; simp [h11]
        have HLE := Lib.hid hle
        have HLD := Lib.hid (fun w' hb => HC.out w' hb k _ hmf)
        have HCALL := Lib.hid hcall
        have hbd : (s[k].toNat : Int) ≤ 255 := by have := s[k].toNat_lt; omega
        clear hle hmf hcall
        go_wp2
        refine wp_region_below (by kernel_rfl) (by kernel_rfl) wr.heap.size ?_
        repeat (first | go_big_quiet_skip | (go_big_quiet_want; refine quiet_ld _ _ rfl _ rfl _ (fun w' hC => run_load_cell Try.underlying118 rfl (HLD.out w' (hb.trans (hC.mono hb.size)))) ?_; simp only [Act.put, List.setIfInBounds_toArray, List.set_cons_succ, List.set_cons_zero]; go_big_quiet_on) | go_big_quiet_step (first | (intro hC; rfl) | (intro hC; exact ⟨rfl, rfl⟩) | (intro hC; refine (HCALL.out _ _ (by omega) hbd).mono ?_; rintro e w' ⟨rfl, hb3⟩; exact ⟨rfl, hC.trans (hb3.mono hC.size)⟩)))
        refine wpQuiet_nil ?_
        intro w' hC
        cases hm : mayB k (s[k].toNat : Int) with
        | true =>
          have hok1 : okAt s k = true := by rw [HLE.out, hm]
          have HOK1 := Lib.hid hok1
          clear hok1
          go_wp2
          go_roundw
          case rel =>
            refine ⟨k + 1, by omega, by go_num, fun j h => ?_, hb.trans (hC.mono hb.size)⟩
            rcases Nat.lt_or_ge j k with h3 | h3
            · exact HJ.out j h3
            · obtain rfl : j = k := by omega
              exact HOK1.out
          case measure => simp [intOf]; omega
        | false =>
          have hok1 : okAt s k = false := by rw [HLE.out, hm]
          have HBAD := Lib.hid (HFN.out k hlt hok1)
          clear hok1
          go_wp2
          go_ret
          exact ⟨by rw [HBAD.out]; rfl, HB2.out.trans ((hb.trans (hC.mono hb.size)).mono HB2.out.size)⟩
      · have hbad : okAt s k = false := by rw [HOK.out]; simp [h11]
        have HBAD := Lib.hid (HFN.out k hlt hbad)
        clear hbad
        have hd : decide ((11 : Int) ≤ (k : Int)) = true := by simp; omega
        go_wp2
        refine wp_region_below (by kernel_rfl) (by kernel_rfl) wr.heap.size ?_
        repeat (first | go_big_quiet_skip | go_big_quiet_step (first | (intro hC; rfl) | (intro hC; exact ⟨rfl, rfl⟩)))
        refine wpQuiet_nil ?_
        intro w' hC
        go_wp2
        go_ret
        exact ⟨by rw [HBAD.out]; rfl, HB2.out.trans ((hb.trans (hC.mono hb.size)).mono HB2.out.size)⟩
    · obtain rfl : k = s.size := by omega
      have HF := Lib.hid (HFB.out HJ.out)
      go_wp2
      go_ret
      exact ⟨by rw [HF.out]; rfl, HB2.out.trans (hb.mono HB2.out.size)⟩

theorem sumV_bd (s : ByteArray) : ∀ n, 0 ≤ sumV s n ∧ sumV s n ≤ 38 * (2 ^ n - 1)
  | 0 => by simp [sumV]
  | n + 1 => by
    have ih := sumV_bd s n
    have hb := byteAt_bd s n
    have hv := valB_bd hb.1 hb.2
    have hp : (0 : Int) < 2 ^ n := Int.pow_pos (by omega)
    have h1 : valB (byteAt s n) * 2 ^ n ≤ 38 * 2 ^ n := Int.mul_le_mul_of_nonneg_right hv.2 (by omega)
    have h0 : 0 ≤ valB (byteAt s n) * 2 ^ n := Int.mul_nonneg hv.1 (by omega)
    have e : (2 : Int) ^ (n + 1) = 2 * 2 ^ n := by rw [Int.pow_succ]; omega
    unfold sumV
    rw [e]
    omega

def digitV (s : ByteArray) : Int := 48 + sumV s s.size % 11 % 10

theorem pow_le {k : Nat} (h : k < 10) : (1 : Int) ≤ 2 ^ k ∧ (2 : Int) ^ k ≤ 512 := by
  have hk : k = 0 ∨ k = 1 ∨ k = 2 ∨ k = 3 ∨ k = 4 ∨ k = 5 ∨ k = 6 ∨ k = 7 ∨ k = 8 ∨ k = 9 := by omega
  rcases hk with rfl | rfl | rfl | rfl | rfl | rfl | rfl | rfl | rfl | rfl <;> decide

theorem digit_step {s : ByteArray} {k : Nat} (h : k < s.size) (hk : k < 10) : wrap64 (sumV s k + wrap64 (valB (s[k].toNat : Int) * 2 ^ k)) = sumV s (k + 1) := by
  have hb := byteAt_bd s k
  have hv := valB_bd hb.1 hb.2
  obtain ⟨p1, p2⟩ := pow_le hk
  have hs := sumV_bd s k
  have h1 : valB (byteAt s k) * 2 ^ k ≤ 38 * 2 ^ k := Int.mul_le_mul_of_nonneg_right hv.2 (by omega)
  have h0 : 0 ≤ valB (byteAt s k) * 2 ^ k := Int.mul_nonneg hv.1 (by omega)
  rw [← byteAt_get h]
  rw [IntWalk.wrap64_in (valB (byteAt s k) * 2 ^ k) ⟨by omega, by omega⟩, IntWalk.wrap64_in _ ⟨by omega, by omega⟩]
  rfl

set_option maxHeartbeats 1000000 in
theorem iso_digit (s : ByteArray) (w : World) (hs : s.size ≤ 10) :
    Calls Try.prog 90 #[.string s] w fun e w' => e = .returned (.int .u8 (digitV s)) ∧ w = w' := by
  go_enter Try.func90, Try.ntmps90
  go_wp2
  go_loop [3, 9] (fun u i => ∃ k : Nat, k ≤ s.size ∧ i = .int .i64 k ∧ u = .int .i64 (sumV s k)) (fun _ i => s.size - (intOf i).toNat)
  case atStart => exact ⟨0, by omega, rfl, rfl⟩
  case round =>
    obtain ⟨k, hk, rfl, rfl⟩ := hrel
    have hsb := sumV_bd s k
    obtain ⟨sb1, sb2⟩ := hsb
    by_cases hlt : k < s.size
    · have hbd : (s[k].toNat : Int) ≤ 255 := by have := s[k].toNat_lt; omega
      have hv := valB_bd (b := (s[k].toNat : Int)) (by omega) hbd
      obtain ⟨v1, v2⟩ := hv
      go_wp2_with (go_at_call 92; refine (iso_value _ _ (by omega) hbd).mono ?_; rintro e w' ⟨rfl, rfl⟩)
      go_round
      case rel => exact ⟨k + 1, by omega, by go_num, by rw [digit_step hlt (by omega)]⟩
      case measure => simp [intOf]; omega
    · obtain rfl : k = s.size := by omega
      go_wp2
      go_ret
      exact ⟨rfl, rfl⟩

theorem not_bne_int (x y : Int) : (!(x != y)) = decide (x = y) := by by_cases h : x = y <;> simp [h]

/-- a right number -/
def isoB (s : ByteArray) : Bool := decide (s.size = 11) && formedB s && decide (48 + sumV s 10 % 11 % 10 = byteAt s 10)

theorem byteAt_extract (s : ByteArray) (i : Nat) (h : i < 10) (hs : 10 ≤ s.size) : byteAt (s.extract 0 10) i = byteAt s i := by
  have h1 : i < (s.extract 0 10).size := by simp; omega
  rw [byteAt_get h1, byteAt_get (by omega)]
  simp [ByteArray.getElem_extract]

theorem sumV_extract (s : ByteArray) (hs : 10 ≤ s.size) : ∀ n, n ≤ 10 → sumV (s.extract 0 10) n = sumV s n
  | 0, _ => rfl
  | n + 1, h => by
    unfold sumV
    rw [sumV_extract s hs n (by omega), byteAt_extract s n (by omega) hs]

set_option maxHeartbeats 1000000 in
theorem iso_check (s : ByteArray) (w : World) (hs : s.size ≤ 140737488351232) :
    Calls Try.prog 87 #[.string s] w fun e w' => ∃ n, e = .returned (.int .i64 n) ∧ (n == 0) = isoB s ∧ Below w.heap.size w w' := by
  by_cases h11 : s.size = 11
  · have hne : ((s.size : Int) != 11) = false := by simp [h11]
    have hle : s.size ≤ 11 := by omega
    have hge : 10 < s.size := by omega
    have H11 := Lib.hid h11
    clear h11
    cases hf : formedB s with
    | true =>
      have hx : (s.extract 0 10).size ≤ 10 := by simp; omega
      have hres : ∀ n : Int, (n == 0) = !(digitV (s.extract 0 10) != (s[10].toNat : Int)) → (n == 0) = isoB s := by
        intro n hn
        rw [hn]
        unfold isoB digitV
        have e1 : (s.extract 0 10).size = 10 := by simp; omega
        rw [e1, sumV_extract s (by omega) 10 (by omega), byteAt_get (s := s) (i := 10) (by omega), hf, decide_eq_true H11.out]
        rw [not_bne_int]
        simp
      have HR := Lib.hid hres
      clear hres
      have hix : ∀ w, (Instr.index 9 (.string s) (.int .i64 10)).run Try.prog w = .ok (.int .u8 (s[10].toNat : Int)) w := fun w => by
        simp [Instr.index, asIntOf, run_underlying Try.underlying9, hge]
      go_enter Try.func87, Try.ntmps87
      go_wp2_with (go_at_call 89; refine (iso_formed s _ hs).mono ?_; rintro e w1 ⟨rfl, hb1⟩)
      refine wp_region_below (by kernel_rfl) (by kernel_rfl) w1.heap.size ?_
      repeat (first | go_big_quiet_skip | go_big_quiet_step (first | (intro hC; rfl) | (intro hC; exact ⟨rfl, rfl⟩) | (intro hC; refine (iso_digit _ _ hx).mono ?_; rintro e w' ⟨rfl, rfl⟩; exact ⟨rfl, hC⟩)))
      refine wpQuiet_nil ?_
      intro w' hC
      cases hq : (digitV (s.extract 0 10) != (s[10].toNat : Int)) with
      | true =>
        have HQ := Lib.hid hq
        go_wp2
        go_ret
        exact ⟨31, rfl, HR.out 31 (by rw [HQ.out]; rfl), hb1.trans (hC.mono hb1.size)⟩
      | false =>
        have HQ := Lib.hid hq
        go_wp2
        go_ret
        exact ⟨0, rfl, HR.out 0 (by rw [HQ.out]; rfl), hb1.trans (hC.mono hb1.size)⟩
    | false =>
      have HI : Hid (isoB s = false) := by unfold Hid isoB; rw [hf]; simp
      go_enter Try.func87, Try.ntmps87
      go_wp2_with (go_at_call 89; refine (iso_formed s _ hs).mono ?_; rintro e w1 ⟨rfl, hb1⟩)
      go_ret
      exact ⟨30, rfl, by rw [HI.out]; rfl, hb1⟩
  · have hne : ((s.size : Int) != 11) = true := by simp; omega
    have HI : Hid (isoB s = false) := by unfold Hid isoB; simp [h11]
    go_enter Try.func87, Try.ntmps87
    go_wp2
    go_ret
    exact ⟨30, rfl, by rw [HI.out]; rfl, Below.refl _ _⟩

theorem iso_right (s : ByteArray) (w : World) (hs : s.size ≤ 140737488351232) :
    Calls Try.prog 78 #[.string s] w fun e w' => e = .returned (.bool (isoB s)) ∧ Below w.heap.size w w' := by
  go_enter Try.func78, Try.ntmps78
  go_wp2_with (go_at_call 87; refine (iso_check s _ hs).mono ?_; rintro e w' ⟨n, rfl, hn, hb⟩; have HN := Lib.hid hn; clear hn)
  go_ret
  exact ⟨by rw [← HN.out]; rfl, hb⟩
end Go.Proofs.Ytccjddbcdmgefaa
