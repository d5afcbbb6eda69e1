/-
  iso: which texts are right numbers.
-/
import Derived.Test.YtfdjcakgolenbaaGreatMu8
set_option linter.unusedVariables false
set_option linter.unusedSimpArgs false
namespace Go.Proofs.YtfdjcakgolenbaaGreat
open Go.RowKit
def letterB (b : Int) : Bool := decide (65 ≤ b) && decide (b ≤ 90)
def groupB (b : Int) : Bool := b == 85 || b == 74 || b == 90
def digitB (b : Int) : Bool := decide (48 ≤ b) && decide (b ≤ 57)
def mayB (i : Nat) (b : Int) : Bool := if i < 3 then letterB b else if i = 3 then groupB b else digitB b
def byteAt (s : ByteArray) (i : Nat) : Int := ((s.data[i]?.map fun c => (c.toNat : Int)).getD 0)
def okAt (s : ByteArray) (i : Nat) : Bool := decide (i < 11) && mayB i (byteAt s i)
def formedB (s : ByteArray) : Bool := decide (∀ i, i < s.size → okAt s i = true)
def valI (b : Int) : Int := if digitB b then b - 48 else if letterB b then 10 + (b - 65) + (b - 65 + 9) / 10 else 0
def isVB (b : Int) : Bool := digitB b || letterB b
def sumV (s : ByteArray) : Nat → Int
 | 0 => 0
 | n + 1 => sumV s n + valI (byteAt s n) * 2 ^ n
theorem byteAt_get {s : ByteArray} {i : Nat} (h : i < s.size) : byteAt s i = (s[i].toNat : Int) := by
 unfold byteAt
 have : s.data[i]? = some s[i] := Array.getElem?_eq_getElem h
 rw [this]
 rfl
theorem byteAt_bd (s : ByteArray) (i : Nat) : 0 ≤ byteAt s i ∧ byteAt s i ≤ 255 := by
 unfold byteAt
 cases s.data[i]? with
 | none => simp
 | some c => have := c.toNat_lt; simp; omega
theorem valI_bd {b : Int} (_h0 : 0 ≤ b) (h : b ≤ 255) : 0 ≤ valI b ∧ valI b ≤ 38 := by
 unfold valI digitB letterB
 split
 · rename_i hd
   simp at hd
   omega
 · split
   · rename_i hl
     simp at hl
     omega
   · omega
theorem iso_value (b : Int) (w : World) (h0 : 0 ≤ b) (h1 : b ≤ 255) :
 Calls Tryz.prog 199 #[.int .u8 b] w fun e w' => e = .returned (.tuple #[.int .i64 (valI b), .bool (isVB b)]) ∧ w = w' := by
 by_cases hd : 48 ≤ b ∧ b ≤ 57
 · obtain ⟨d1, d2⟩ := hd
   have e : valI b = b - 48 := by unfold valI digitB; simp [d1, d2]
   have e2 : isVB b = true := by unfold isVB digitB; simp [d1, d2]
   have E := Lib.hid e
   have E2 := Lib.hid e2
   clear e e2
   go_enter Tryz.func199, Tryz.ntmps199
   go_wp2
   go_ret2
   exact ⟨by rw [E.out, E2.out]; rfl, rfl⟩
 · by_cases hl : 65 ≤ b ∧ b ≤ 90
   · obtain ⟨d1, d2⟩ := hl
     have e : valI b = 10 + (b - 65) + (b - 65 + 9) / 10 := by
      unfold valI digitB letterB
      rw [if_neg (by simp; omega), if_pos (by simp; omega)]
     have e2 : isVB b = true := by unfold isVB digitB letterB; simp [d1, d2]
     have E := Lib.hid e
     have E2 := Lib.hid e2
     clear e e2 hd
     have hd : decide (b ≤ 57) = false := by simp; omega
     go_enter Tryz.func199, Tryz.ntmps199
     go_wp2
     go_ret2
     exact ⟨by rw [E.out, E2.out]; rfl, rfl⟩
   · have e : valI b = 0 := by
      unfold valI digitB letterB
      rw [if_neg (by simp; omega), if_neg (by simp; omega)]
     have e2 : isVB b = false := by unfold isVB digitB letterB; simp; omega
     have E := Lib.hid e
     have E2 := Lib.hid e2
     clear e e2
     rcases Int.lt_or_le b 48 with h48 | h48
     · clear hd hl
       go_enter Tryz.func199, Tryz.ntmps199
       go_wp2
       go_ret2
       exact ⟨by rw [E.out, E2.out]; rfl, rfl⟩
     · have h57 : 57 < b := by omega
       rcases Int.lt_or_le b 65 with h65 | h65
       · clear hd hl
         go_enter Tryz.func199, Tryz.ntmps199
         go_wp2
         go_ret2
         exact ⟨by rw [E.out, E2.out]; rfl, rfl⟩
       · have h90 : 90 < b := by omega
         clear hd hl
         go_enter Tryz.func199, Tryz.ntmps199
         go_wp2
         go_ret2
         exact ⟨by rw [E.out, E2.out]; rfl, rfl⟩
theorem may1 (b : Int) (w : World) (h0 : 0 ≤ b) (h1 : b ≤ 255) : Calls Tryz.prog 200 #[.int .u8 b] w fun e w' => e = .returned (.bool (letterB b)) ∧ w = w' := by
 have HL : Hid (letterB b = (decide (65 ≤ b) && decide (b ≤ 90))) := rfl
 go_enter Tryz.func200, Tryz.ntmps200
 rcases Int.lt_or_le b 65 with h | h
 · have hd : decide (65 ≤ b) = false := by simp; omega
   have HD := Lib.hid hd
   go_wp2
   go_ret
   exact ⟨by rw [HL.out, HD.out]; rfl, rfl⟩
 · have hd : decide (65 ≤ b) = true := by simp; omega
   have HD := Lib.hid hd
   go_wp2
   go_ret
   exact ⟨by rw [HL.out, HD.out]; rfl, rfl⟩
theorem may3 (b : Int) (w : World) (h0 : 0 ≤ b) (h1 : b ≤ 255) : Calls Tryz.prog 202 #[.int .u8 b] w fun e w' => e = .returned (.bool (digitB b)) ∧ w = w' := by
 have HL : Hid (digitB b = (decide (48 ≤ b) && decide (b ≤ 57))) := rfl
 go_enter Tryz.func202, Tryz.ntmps202
 rcases Int.lt_or_le b 48 with h | h
 · have hd : decide (48 ≤ b) = false := by simp; omega
   have HD := Lib.hid hd
   go_wp2
   go_ret
   exact ⟨by rw [HL.out, HD.out]; rfl, rfl⟩
 · have hd : decide (48 ≤ b) = true := by simp; omega
   have HD := Lib.hid hd
   go_wp2
   go_ret
   exact ⟨by rw [HL.out, HD.out]; rfl, rfl⟩
theorem may2 (b : Int) (w : World) (h0 : 0 ≤ b) (h1 : b ≤ 255) : Calls Tryz.prog 201 #[.int .u8 b] w fun e w' => e = .returned (.bool (groupB b)) ∧ w = w' := by
 have HL : Hid (groupB b = ((b == 85 || b == 74) || b == 90)) := rfl
 go_enter Tryz.func201, Tryz.ntmps201
 cases ha : (b == 85) with
 | true =>
  have HD := Lib.hid ha
  go_wp2
  go_ret
  exact ⟨by rw [HL.out, HD.out]; rfl, rfl⟩
 | false =>
  have HD := Lib.hid ha
  cases hb : (b == 74) with
  | true =>
   have HB := Lib.hid hb
   go_wp2
   go_ret
   exact ⟨by rw [HL.out, HD.out, HB.out]; rfl, rfl⟩
  | false =>
   have HB := Lib.hid hb
   go_wp2
   go_ret
   exact ⟨by rw [HL.out, HD.out, HB.out]; rfl, rfl⟩
def mayCells : List Value := [.func (.func 200) #[] #[], .func (.func 200) #[] #[], .func (.func 200) #[] #[], .func (.func 201) #[] #[], .func (.func 202) #[] #[], .func (.func 202) #[] #[], .func (.func 202) #[] #[], .func (.func 202) #[] #[], .func (.func 202) #[] #[], .func (.func 202) #[] #[], .func (.func 202) #[] #[]]
theorem may_one : ∀ u ∈ mayCells, u.oneCell' = true := by simp [mayCells, Value.oneCell']
theorem iso_may (w : World) : Calls Tryz.prog 198 #[] w fun e w' => e = .returned (.agg mayCells.toArray) ∧ Below w.heap.size w w' := by
 go_enter Tryz.func198, Tryz.ntmps198
 go_wp2_with (refine wpList_st rfl _ _ rfl rfl rfl (n := 11) (cs := mayCells) (by kernel_rfl) rfl rfl (heap_alloc_new w _) (by simp) may_one ?_; intro cur' w2 hl hs hg hgr)
 have hcur : cur' = mayCells.toArray := by
  apply Array.ext'
  rw [hl]
  rfl
 subst hcur
 refine bodyPost_ret (v := .agg mayCells.toArray) (results_cell_row rfl _ w2 w.heap.size _ _ _ _ rfl hg Tryz.underlying256 rfl (by kernel_rfl)) rfl ⟨rfl, ?_⟩
 exact ((Below.refl _ _).alloc (Nat.le_refl _) _).grown hgr (by simp) (fun k hk => by injection hk with hk; omega)
theorem may_cf1 (w : World) (args : Array Value) : (callFunc 200 args).run Tryz.prog w = .ok (.enter 200 args) w := by go_simp
theorem may_cf2 (w : World) (args : Array Value) : (callFunc 201 args).run Tryz.prog w = .ok (.enter 201 args) w := by go_simp
theorem may_cf3 (w : World) (args : Array Value) : (callFunc 202 args).run Tryz.prog w = .ok (.enter 202 args) w := by go_simp
theorem may_at (k : Nat) (h : k < 11) : ∃ f, mayCells[k]? = some (.func (.func f) #[] #[]) ∧ (∀ w args, (callFunc f args).run Tryz.prog w = .ok (.enter f args) w) ∧
 ∀ (b : Int) (w : World), 0 ≤ b → b ≤ 255 → Calls Tryz.prog f #[.int .u8 b] w fun e w' => e = .returned (.bool (mayB k b)) ∧ Below w.heap.size w w' := by
 have hk : k = 0 ∨ k = 1 ∨ k = 2 ∨ k = 3 ∨ k = 4 ∨ k = 5 ∨ k = 6 ∨ k = 7 ∨ k = 8 ∨ k = 9 ∨ k = 10 := by omega
 have c1 : ∀ (b : Int) (w : World), 0 ≤ b → b ≤ 255 → Calls Tryz.prog 200 #[.int .u8 b] w fun e w' => e = .returned (.bool (letterB b)) ∧ Below w.heap.size w w' := fun b w h0 h1 => (may1 b w h0 h1).mono fun e w' ⟨he, hw⟩ => ⟨he, hw ▸ Below.refl _ _⟩
 have c2 : ∀ (b : Int) (w : World), 0 ≤ b → b ≤ 255 → Calls Tryz.prog 201 #[.int .u8 b] w fun e w' => e = .returned (.bool (groupB b)) ∧ Below w.heap.size w w' := fun b w h0 h1 => (may2 b w h0 h1).mono fun e w' ⟨he, hw⟩ => ⟨he, hw ▸ Below.refl _ _⟩
 have c3 : ∀ (b : Int) (w : World), 0 ≤ b → b ≤ 255 → Calls Tryz.prog 202 #[.int .u8 b] w fun e w' => e = .returned (.bool (digitB b)) ∧ Below w.heap.size w w' := fun b w h0 h1 => (may3 b w h0 h1).mono fun e w' ⟨he, hw⟩ => ⟨he, hw ▸ Below.refl _ _⟩
 rcases hk with rfl | rfl | rfl | rfl | rfl | rfl | rfl | rfl | rfl | rfl | rfl
 · exact ⟨_, rfl, may_cf1, c1⟩
 · exact ⟨_, rfl, may_cf1, c1⟩
 · exact ⟨_, rfl, may_cf1, c1⟩
 · exact ⟨_, rfl, may_cf2, c2⟩
 all_goals exact ⟨_, rfl, may_cf3, c3⟩
theorem okAt_eq {s : ByteArray} {k : Nat} (h : k < s.size) : okAt s k = (decide (k < 11) && mayB k (s[k].toNat : Int)) := by
 unfold okAt
 rw [byteAt_get h]
set_option maxHeartbeats 1000000 in
theorem iso_formed (s : ByteArray) (w : World) (hs : s.size ≤ 140737488351232) :
 Calls Tryz.prog 195 #[.string s] w fun e w' => e = .returned (.bool (formedB s)) ∧ Below w.heap.size w w' := by
 have hfb : (∀ i, i < s.size → okAt s i = true) → formedB s = true := fun h => by unfold formedB; simp; exact h
 have hfn : ∀ i, i < s.size → okAt s i = false → formedB s = false := fun i h h2 => by
  unfold formedB
  rw [decide_eq_false_iff_not]
  intro hall
  rw [hall i h] at h2
  cases h2
 have HFB := Lib.hid hfb
 have HFN := Lib.hid hfn
 clear hfb hfn
 go_enter Tryz.func195, Tryz.ntmps195
 go_wp2_with (first
  | (go_at_call 198; refine (iso_may _).mono ?_; rintro e w1 ⟨rfl, hb1⟩)
  | (refine wpList_st rfl _ _ rfl rfl rfl (n := 11) (cs := mayCells) (by kernel_rfl) rfl rfl (heap_alloc_new w1 _) (by simp) may_one ?_; intro cur' w2 hl hs' hg hgr))
 have hcur : cur' = mayCells.toArray := by
  apply Array.ext'
  rw [hl]
  rfl
 subst hcur
 have hb2 : Below w.heap.size w w2 := (hb1.alloc hb1.size _).grown hgr (by simp; have := hb1.size; omega) (fun k hk => by injection hk with hk; have := hb1.size; omega)
 have hlt2 : w1.heap.size < w2.heap.size := (Array.getElem?_eq_some_iff.1 hg).1
 have hcell : ∀ w', From w2 w' → ∀ i v, mayCells[i]? = some v → w'.cell? ⟨w1.heap.size, i, none⟩ = some v := fun w' hb i v hv => by
  rw [cell_of_row w' w1.heap.size i _ _ _ ((hb.block _ hlt2).trans hg)]
  simpa using hv
 have HC := Lib.hid hcell
 have HB2 := Lib.hid hb2
 clear hl hs' hg hgr hcell hb2
 go_loopw [4, 8] (fun _ i wr => ∃ k : Nat, k ≤ s.size ∧ i = .int .i64 k ∧ (∀ j, j < k → okAt s j = true) ∧ From w2 wr) (fun _ i _ => s.size - (intOf i).toNat)
 case atStart => exact ⟨0, by omega, rfl, by omega, Below.refl _ _⟩
 case round =>
  obtain ⟨k, hk, rfl, hj, hb⟩ := hrel
  have HJ := Lib.hid hj
  clear hj
  by_cases hlt : k < s.size
  · have hok := okAt_eq hlt
    have HOK := Lib.hid hok
    clear hok
    by_cases h11 : k < 11
    · have hd : decide ((11 : Int) ≤ (k : Int)) = false := by simp; omega
      obtain ⟨f, hmf, hcf, hcall⟩ := may_at k h11
      have hle : okAt s k = mayB k (s[k].toNat : Int) := by rw [HOK.out]; simp [h11]
      have HLE := Lib.hid hle
      have HLD := Lib.hid (fun w' hb => HC.out w' hb k _ hmf)
      have HCALL := Lib.hid hcall
      have hbd : (s[k].toNat : Int) ≤ 255 := by have := s[k].toNat_lt; omega
      clear hle hmf hcall
      go_wp2
      refine wp_region_below (by kernel_rfl) (by kernel_rfl) wr.heap.size ?_
      repeat (first | go_big_quiet_skip | (go_big_quiet_want; refine quiet_ld _ _ rfl _ rfl _ (fun w' hC => run_load_cell Tryz.underlying228 rfl (HLD.out w' (hb.trans (hC.mono hb.size)))) ?_; simp only [Act.put, List.setIfInBounds_toArray, List.set_cons_succ, List.set_cons_zero]; go_big_quiet_on) | go_big_quiet_step (first | (intro hC; rfl) | (intro hC; exact ⟨rfl, rfl⟩) | (intro hC; refine (HCALL.out _ _ (by omega) hbd).mono ?_; rintro e w' ⟨rfl, hb3⟩; exact ⟨rfl, hC.trans (hb3.mono hC.size)⟩)))
      refine wpQuiet_nil ?_
      intro w' hC
      cases hm : mayB k (s[k].toNat : Int) with
      | true =>
       have hok1 : okAt s k = true := by rw [HLE.out, hm]
       have HOK1 := Lib.hid hok1
       clear hok1
       go_wp2
       go_roundw
       case rel =>
        refine ⟨k + 1, by omega, by go_num, fun j h => ?_, hb.trans (hC.mono hb.size)⟩
        rcases Nat.lt_or_ge j k with h3 | h3
        · exact HJ.out j h3
        · obtain rfl : j = k := by omega
          exact HOK1.out
       case measure => simp [intOf]; omega
      | false =>
       have hok1 : okAt s k = false := by rw [HLE.out, hm]
       have HBAD := Lib.hid (HFN.out k hlt hok1)
       clear hok1
       go_wp2
       go_ret
       exact ⟨by rw [HBAD.out]; rfl, HB2.out.trans ((hb.trans (hC.mono hb.size)).mono HB2.out.size)⟩
    · have hbad : okAt s k = false := by rw [HOK.out]; simp [h11]
      have HBAD := Lib.hid (HFN.out k hlt hbad)
      clear hbad
      have hd : decide ((11 : Int) ≤ (k : Int)) = true := by simp; omega
      go_wp2
      refine wp_region_below (by kernel_rfl) (by kernel_rfl) wr.heap.size ?_
      repeat (first | go_big_quiet_skip | go_big_quiet_step (first | (intro hC; rfl) | (intro hC; exact ⟨rfl, rfl⟩)))
      refine wpQuiet_nil ?_
      intro w' hC
      go_wp2
      go_ret
      exact ⟨by rw [HBAD.out]; rfl, HB2.out.trans ((hb.trans (hC.mono hb.size)).mono HB2.out.size)⟩
  · obtain rfl : k = s.size := by omega
    have HF := Lib.hid (HFB.out HJ.out)
    go_wp2
    go_ret
    exact ⟨by rw [HF.out]; rfl, HB2.out.trans (hb.mono HB2.out.size)⟩
theorem sumV_bd (s : ByteArray) : ∀ n, 0 ≤ sumV s n ∧ sumV s n ≤ 38 * (2 ^ n - 1)
 | 0 => by simp [sumV]
 | n + 1 => by
  have ih := sumV_bd s n
  have hb := byteAt_bd s n
  have hv := valI_bd hb.1 hb.2
  have hp : (0 : Int) < 2 ^ n := Int.pow_pos (by omega)
  have h1 : valI (byteAt s n) * 2 ^ n ≤ 38 * 2 ^ n := Int.mul_le_mul_of_nonneg_right hv.2 (by omega)
  have h0 : 0 ≤ valI (byteAt s n) * 2 ^ n := Int.mul_nonneg hv.1 (by omega)
  have e : (2 : Int) ^ (n + 1) = 2 * 2 ^ n := by rw [Int.pow_succ]; omega
  unfold sumV
  rw [e]
  omega
def digitV (s : ByteArray) : Int := 48 + sumV s s.size % 11 % 10
theorem pow_le {k : Nat} (h : k < 10) : (1 : Int) ≤ 2 ^ k ∧ (2 : Int) ^ k ≤ 512 := by
 have hk : k = 0 ∨ k = 1 ∨ k = 2 ∨ k = 3 ∨ k = 4 ∨ k = 5 ∨ k = 6 ∨ k = 7 ∨ k = 8 ∨ k = 9 := by omega
 rcases hk with rfl | rfl | rfl | rfl | rfl | rfl | rfl | rfl | rfl | rfl <;> decide
theorem digit_step {s : ByteArray} {k : Nat} (h : k < s.size) (hk : k < 10) : wrap64 (sumV s k + wrap64 (valI (s[k].toNat : Int) * 2 ^ k)) = sumV s (k + 1) := by
 have hb := byteAt_bd s k
 have hv := valI_bd hb.1 hb.2
 obtain ⟨p1, p2⟩ := pow_le hk
 have hs := sumV_bd s k
 have h1 : valI (byteAt s k) * 2 ^ k ≤ 38 * 2 ^ k := Int.mul_le_mul_of_nonneg_right hv.2 (by omega)
 have h0 : 0 ≤ valI (byteAt s k) * 2 ^ k := Int.mul_nonneg hv.1 (by omega)
 rw [← byteAt_get h]
 rw [IntWalk.wrap64_in (valI (byteAt s k) * 2 ^ k) ⟨by omega, by omega⟩, IntWalk.wrap64_in _ ⟨by omega, by omega⟩]
 rfl
set_option maxHeartbeats 1000000 in
theorem iso_digit (s : ByteArray) (w : World) (hs : s.size ≤ 10) :
 Calls Tryz.prog 196 #[.string s] w fun e w' => e = .returned (.int .u8 (digitV s)) ∧ w = w' := by
 go_enter Tryz.func196, Tryz.ntmps196
 go_wp2
 go_loop [3, 9] (fun u i => ∃ k : Nat, k ≤ s.size ∧ i = .int .i64 k ∧ u = .int .i64 (sumV s k)) (fun _ i => s.size - (intOf i).toNat)
 case atStart => exact ⟨0, by omega, rfl, rfl⟩
 case round =>
  obtain ⟨k, hk, rfl, rfl⟩ := hrel
  have hsb := sumV_bd s k
  obtain ⟨sb1, sb2⟩ := hsb
  by_cases hlt : k < s.size
  · have hbd : (s[k].toNat : Int) ≤ 255 := by have := s[k].toNat_lt; omega
    have hv := valI_bd (b := (s[k].toNat : Int)) (by omega) hbd
    obtain ⟨v1, v2⟩ := hv
    go_wp2_with (go_at_call 199; refine (iso_value _ _ (by omega) hbd).mono ?_; rintro e w' ⟨rfl, rfl⟩)
    go_round
    case rel => exact ⟨k + 1, by omega, by go_num, by rw [digit_step hlt (by omega)]⟩
    case measure => simp [intOf]; omega
  · obtain rfl : k = s.size := by omega
    go_wp2
    go_ret
    exact ⟨rfl, rfl⟩
theorem not_bne_int (x y : Int) : (!(x != y)) = decide (x = y) := by by_cases h : x = y <;> simp [h]
def isoB (s : ByteArray) : Bool := decide (s.size = 11) && formedB s && decide (48 + sumV s 10 % 11 % 10 = byteAt s 10)
theorem byteAt_extract (s : ByteArray) (i : Nat) (h : i < 10) (hs : 10 ≤ s.size) : byteAt (s.extract 0 10) i = byteAt s i := by
 have h1 : i < (s.extract 0 10).size := by simp; omega
 rw [byteAt_get h1, byteAt_get (by omega)]
 simp [ByteArray.getElem_extract]
theorem sumV_extract (s : ByteArray) (hs : 10 ≤ s.size) : ∀ n, n ≤ 10 → sumV (s.extract 0 10) n = sumV s n
 | 0, _ => rfl
 | n + 1, h => by
  unfold sumV
  rw [sumV_extract s hs n (by omega), byteAt_extract s n (by omega) hs]
set_option maxHeartbeats 1000000 in
theorem iso_check (s : ByteArray) (w : World) (hs : s.size ≤ 140737488351232) :
 Calls Tryz.prog 187 #[.string s] w fun e w' => ∃ n, e = .returned (.int .i64 n) ∧ (n == 0) = isoB s ∧ Below w.heap.size w w' := by
 by_cases h11 : s.size = 11
 · have hne : ((s.size : Int) != 11) = false := by simp [h11]
   have hle : s.size ≤ 11 := by omega
   have hge : 10 < s.size := by omega
   have H11 := Lib.hid h11
   clear h11
   cases hf : formedB s with
   | true =>
    have hx : (s.extract 0 10).size ≤ 10 := by simp; omega
    have hres : ∀ n : Int, (n == 0) = !(digitV (s.extract 0 10) != (s[10].toNat : Int)) → (n == 0) = isoB s := by
     intro n hn
     rw [hn]
     unfold isoB digitV
     have e1 : (s.extract 0 10).size = 10 := by simp; omega
     rw [e1, sumV_extract s (by omega) 10 (by omega), byteAt_get (s := s) (i := 10) (by omega), hf, decide_eq_true H11.out]
     rw [not_bne_int]
     simp
    have HR := Lib.hid hres
    clear hres
    have hix : ∀ w, (Instr.index 9 (.string s) (.int .i64 10)).run Tryz.prog w = .ok (.int .u8 (s[10].toNat : Int)) w := fun w => by
     simp [Instr.index, asIntOf, run_underlying Tryz.underlying9, hge]
    go_enter Tryz.func187, Tryz.ntmps187
    go_wp2_with (go_at_call 195; refine (iso_formed s _ hs).mono ?_; rintro e w1 ⟨rfl, hb1⟩)
    refine wp_region_below (by kernel_rfl) (by kernel_rfl) w1.heap.size ?_
    repeat (first | go_big_quiet_skip | go_big_quiet_step (first | (intro hC; rfl) | (intro hC; exact ⟨rfl, rfl⟩) | (intro hC; refine (iso_digit _ _ hx).mono ?_; rintro e w' ⟨rfl, rfl⟩; exact ⟨rfl, hC⟩)))
    refine wpQuiet_nil ?_
    intro w' hC
    cases hq : (digitV (s.extract 0 10) != (s[10].toNat : Int)) with
    | true =>
     have HQ := Lib.hid hq
     go_wp2
     go_ret
     exact ⟨31, rfl, HR.out 31 (by rw [HQ.out]; rfl), hb1.trans (hC.mono hb1.size)⟩
    | false =>
     have HQ := Lib.hid hq
     go_wp2
     go_ret
     exact ⟨0, rfl, HR.out 0 (by rw [HQ.out]; rfl), hb1.trans (hC.mono hb1.size)⟩
   | false =>
    have HI : Hid (isoB s = false) := by unfold Hid isoB; rw [hf]; simp
    go_enter Tryz.func187, Tryz.ntmps187
    go_wp2_with (go_at_call 195; refine (iso_formed s _ hs).mono ?_; rintro e w1 ⟨rfl, hb1⟩)
    go_ret
    exact ⟨30, rfl, by rw [HI.out]; rfl, hb1⟩
 · have hne : ((s.size : Int) != 11) = true := by simp; omega
   have HI : Hid (isoB s = false) := by unfold Hid isoB; simp [h11]
   go_enter Tryz.func187, Tryz.ntmps187
   go_wp2
   go_ret
   exact ⟨30, rfl, by rw [HI.out]; rfl, Below.refl _ _⟩
theorem iso_right (s : ByteArray) (w : World) (hs : s.size ≤ 140737488351232) :
 Calls Tryz.prog 162 #[.string s] w fun e w' => e = .returned (.bool (isoB s)) ∧ Below w.heap.size w w' := by
 go_enter Tryz.func162, Tryz.ntmps162
 go_wp2_with (go_at_call 187; refine (iso_check s _ hs).mono ?_; rintro e w' ⟨n, rfl, hn, hb⟩; have HN := Lib.hid hn; clear hn)
 go_ret
 exact ⟨by rw [← HN.out]; rfl, hb⟩
def kMost (s : Int) : Int := if s = 20 then 32000 else if s = 40 then 40000 else 0
def bWithin (n lo hi : Int) : Bool := decide (lo ≤ n) && decide (n ≤ hi)
def noNum : ByteArray := ⟨#[]⟩
theorem noNum_l : noNum.toList = [] := by unfold noNum; go_simp
def bRule (b : Box) : Nat → Bool
 | 0 => bWithin b.id 1 999999
 | 1 => decide (b.num = noNum) || isoB b.num
 | 2 => !b.high || decide (b.size = 40)
 | 3 => bWithin b.kilos 1 (kMost b.size)
 | 4 => decide (0 ≤ b.load) && decide (b.load < b.dis) && decide (b.dis < 20)
 | _ => decide (b.cls ≤ 9)
def boxB (b : Box) : Bool := bRule b 0 && bRule b 1 && bRule b 2 && bRule b 3 && bRule b 4 && bRule b 5
theorem box_within (n lo hi : Int) (w : World) : Calls Tryz.prog 160 #[.int .i64 n, .int .i64 lo, .int .i64 hi] w fun e w' => e = .returned (.bool (bWithin n lo hi)) ∧ Below w.heap.size w w' := by
 by_cases h1 : lo ≤ n
 · go_enter Tryz.func160, Tryz.ntmps160
   have HW : Hid (bWithin n lo hi = decide (n ≤ hi)) := by unfold Hid bWithin; simp [h1]
   go_wp2
   go_ret
   exact ⟨by rw [HW.out]; rfl, Below.refl _ _⟩
 · go_enter Tryz.func160, Tryz.ntmps160
   have HW : Hid (bWithin n lo hi = false) := by unfold Hid bWithin; simp [h1]
   go_wp2
   go_ret
   exact ⟨by rw [HW.out]; rfl, Below.refl _ _⟩
theorem box_most (s : Int) (w : World) : Calls Tryz.prog 165 #[.int .u8 s] w fun e w' => e = .returned (.int .i64 (kMost s)) ∧ Below w.heap.size w w' := by
 by_cases h1 : s = 20
 · subst h1
   go_enter Tryz.func165, Tryz.ntmps165
   go_wp2
   go_ret
   exact ⟨rfl, Below.refl _ _⟩
 · by_cases h2 : s = 40
   · subst h2
     go_enter Tryz.func165, Tryz.ntmps165
     go_wp2
     go_ret
     exact ⟨rfl, Below.refl _ _⟩
   · have HK : Hid (kMost s = 0) := by unfold Hid kMost; simp [h1, h2]
     have b1 : (s == 20) = false := by simp [h1]
     have b2 : (s == 40) = false := by simp [h2]
     go_enter Tryz.func165, Tryz.ntmps165
     go_wp2
     go_ret
     exact ⟨by rw [HK.out]; rfl, Below.refl _ _⟩
section
variable {b : Box} {g : Nat} {w : World}
theorem box_r0 (hc : ∀ j u, b.cells[j]? = some u → w.cell? ⟨g, j, none⟩ = some u) : Calls Tryz.prog 159 #[.pointer (some ⟨g, 0, none⟩)] w fun e w' => e = .returned (.bool (bRule b 0)) ∧ Below w.heap.size w w' := by
 have c0 : w.cell? ⟨g, 0, none⟩ = some (.int .i64 b.id) := hc 0 _ rfl
 clear hc
 go_enter Tryz.func159, Tryz.ntmps159
 go_wp2_with (go_at_call 160; refine (box_within _ _ _ _).mono ?_; rintro e w1 ⟨rfl, hb1⟩)
 go_ret
 exact ⟨rfl, hb1⟩
theorem box_r1 (hc : ∀ j u, b.cells[j]? = some u → w.cell? ⟨g, j, none⟩ = some u) (hn : b.num.size ≤ 140737488351232) : Calls Tryz.prog 161 #[.pointer (some ⟨g, 0, none⟩)] w fun e w' => e = .returned (.bool (bRule b 1)) ∧ Below w.heap.size w w' := by
 have c0 : w.cell? ⟨g, 1, none⟩ = some (.string b.num) := hc 1 _ rfl
 have HR : Hid (bRule b 1 = (decide (b.num = noNum) || isoB b.num)) := rfl
 clear hc
 by_cases hz : b.num = noNum
 · have hz' : b.num = ⟨#[]⟩ := hz
   rw [hz'] at c0
   have HZ := Lib.hid hz
   clear hz hz' hn
   go_enter Tryz.func161, Tryz.ntmps161
   go_wp2
   go_ret
   exact ⟨by rw [HR.out, HZ.out]; rfl, Below.refl _ _⟩
 · have hz3 : ¬ b.num.toList = [] := fun h => hz (toList_eq.mp (h.trans noNum_l.symm))
   have hz2 : b.num.toList.isEmpty = false := by simpa using hz3
   have HE : Hid (bRule b 1 = isoB b.num) := by unfold Hid; rw [HR.out]; simp [hz]
   clear hz
   go_enter Tryz.func161, Tryz.ntmps161
   go_wp2_with (go_at_call 162; refine (iso_right _ _ hn).mono ?_; rintro e w1 ⟨rfl, hb1⟩)
   go_ret
   exact ⟨by rw [HE.out]; rfl, hb1⟩
theorem box_r2 (hc : ∀ j u, b.cells[j]? = some u → w.cell? ⟨g, j, none⟩ = some u) : Calls Tryz.prog 163 #[.pointer (some ⟨g, 0, none⟩)] w fun e w' => e = .returned (.bool (bRule b 2)) ∧ Below w.heap.size w w' := by
 have c0 : w.cell? ⟨g, 2, none⟩ = some (.int .u8 b.size) := hc 2 _ rfl
 have c1 : w.cell? ⟨g, 3, none⟩ = some (.bool b.high) := hc 3 _ rfl
 have HR : Hid (bRule b 2 = (!b.high || decide (b.size = 40))) := rfl
 clear hc
 cases hh : b.high with
 | true =>
  rw [hh] at c1
  have HE : Hid (bRule b 2 = (b.size == 40)) := by unfold Hid; rw [HR.out, hh]; simp; by_cases h : b.size = 40 <;> simp [h]
  clear hh
  go_enter Tryz.func163, Tryz.ntmps163
  go_wp2
  go_ret
  exact ⟨by rw [HE.out]; rfl, Below.refl _ _⟩
 | false =>
  rw [hh] at c1
  have HE : Hid (bRule b 2 = true) := by unfold Hid; rw [HR.out, hh]; simp
  clear hh
  go_enter Tryz.func163, Tryz.ntmps163
  go_wp2
  go_ret
  exact ⟨by rw [HE.out]; rfl, Below.refl _ _⟩
theorem box_r3 (hc : ∀ j u, b.cells[j]? = some u → w.cell? ⟨g, j, none⟩ = some u) : Calls Tryz.prog 164 #[.pointer (some ⟨g, 0, none⟩)] w fun e w' => e = .returned (.bool (bRule b 3)) ∧ Below w.heap.size w w' := by
 have c0 : w.cell? ⟨g, 2, none⟩ = some (.int .u8 b.size) := hc 2 _ rfl
 have c1 : w.cell? ⟨g, 4, none⟩ = some (.int .i64 b.kilos) := hc 4 _ rfl
 have hlt : g < w.heap.size := block_lt_of_cell c0
 clear hc
 have HC1 : Hid (∀ w', From w w' → (loadVar 3 ⟨g, 4, none⟩).run Tryz.prog w' = .ok (.int .i64 b.kilos) w') := fun w' hb => run_load_cell Tryz.underlying3 rfl ((hb.cell (p := ⟨g, _, none⟩) (by simpa using hlt)).trans c1)
 have HC2 : Hid (∀ w', From w w' → (loadVar 5 ⟨g, 2, none⟩).run Tryz.prog w' = .ok (.int .u8 b.size) w') := fun w' hb => run_load_cell Tryz.underlying5 rfl ((hb.cell (p := ⟨g, _, none⟩) (by simpa using hlt)).trans c0)
 clear c0 c1
 go_enter Tryz.func164, Tryz.ntmps164
 go_wp2
 refine wp_region_below (by kernel_rfl) (by kernel_rfl) w.heap.size ?_
 repeat (first | go_big_quiet_skip | (go_big_quiet_want; refine quiet_ld 3 _ rfl _ rfl _ (fun w' hC => HC1.out w' hC) ?_; simp only [Act.put, List.setIfInBounds_toArray, List.set_cons_succ, List.set_cons_zero]; go_big_quiet_on) | (go_big_quiet_want; refine quiet_ld 5 _ rfl _ rfl _ (fun w' hC => HC2.out w' hC) ?_; simp only [Act.put, List.setIfInBounds_toArray, List.set_cons_succ, List.set_cons_zero]; go_big_quiet_on) | go_big_quiet_step (first | (intro hC; rfl) | (intro hC; exact ⟨rfl, rfl⟩) | (intro hC; (with_reducible refine (box_most _ _).mono ?_); rintro e w1 ⟨rfl, hb1⟩; exact ⟨rfl, hC.trans (hb1.mono hC.size)⟩) | (intro hC; (with_reducible refine (box_within _ _ _ _).mono ?_); rintro e w1 ⟨rfl, hb1⟩; exact ⟨rfl, hC.trans (hb1.mono hC.size)⟩)))
 refine wpQuiet_nil ?_
 intro w' hC
 go_wp2
 go_ret
 exact ⟨rfl, hC⟩
theorem box_r4 (hc : ∀ j u, b.cells[j]? = some u → w.cell? ⟨g, j, none⟩ = some u) : Calls Tryz.prog 166 #[.pointer (some ⟨g, 0, none⟩)] w fun e w' => e = .returned (.bool (bRule b 4)) ∧ Below w.heap.size w w' := by
 have c0 : w.cell? ⟨g, 5, none⟩ = some (.int .i64 b.load) := hc 5 _ rfl
 have c1 : w.cell? ⟨g, 6, none⟩ = some (.int .i64 b.dis) := hc 6 _ rfl
 have HR : Hid (bRule b 4 = (decide (0 ≤ b.load) && decide (b.load < b.dis) && decide (b.dis < 20))) := rfl
 clear hc
 by_cases h1 : 0 ≤ b.load
 · by_cases h2 : b.load < b.dis
   · have HE : Hid (bRule b 4 = decide (b.dis < 20)) := by unfold Hid; rw [HR.out]; simp [h1, h2]
     go_enter Tryz.func166, Tryz.ntmps166
     go_wp2
     go_ret
     exact ⟨by rw [HE.out]; rfl, Below.refl _ _⟩
   · have HE : Hid (bRule b 4 = false) := by unfold Hid; rw [HR.out]; simp [h2]
     go_enter Tryz.func166, Tryz.ntmps166
     go_wp2
     go_ret
     exact ⟨by rw [HE.out]; rfl, Below.refl _ _⟩
 · have HE : Hid (bRule b 4 = false) := by unfold Hid; rw [HR.out]; simp [h1]
   go_enter Tryz.func166, Tryz.ntmps166
   go_wp2
   go_ret
   exact ⟨by rw [HE.out]; rfl, Below.refl _ _⟩
theorem box_r5 (hc : ∀ j u, b.cells[j]? = some u → w.cell? ⟨g, j, none⟩ = some u) : Calls Tryz.prog 167 #[.pointer (some ⟨g, 0, none⟩)] w fun e w' => e = .returned (.bool (bRule b 5)) ∧ Below w.heap.size w w' := by
 have c0 : w.cell? ⟨g, 7, none⟩ = some (.int .u8 b.cls) := hc 7 _ rfl
 clear hc
 go_enter Tryz.func167, Tryz.ntmps167
 go_wp2
 go_ret
 exact ⟨rfl, Below.refl _ _⟩
theorem box_r7 {fn : FuncId} {caps : Array Value} {p : Bool} (hcf : ∀ w args, (callFunc fn args).run Tryz.prog w = .ok (.enter fn args) w) (hcall : Calls Tryz.prog fn caps w fun e w' => e = .returned (.bool p) ∧ Below w.heap.size w w') :
 Calls Tryz.prog 169 #[.func (.func fn) #[] caps] w fun e w' => e = .returned (.bool (!p)) ∧ Below w.heap.size w w' := by
 have HC := Lib.hid hcall
 clear hcall
 go_enter Tryz.func169, Tryz.ntmps169
 go_wp2_with (first | (refine (HC.out).mono ?_; rintro e w1 ⟨rfl, hb1⟩))
 go_ret
 exact ⟨rfl, hb1⟩
end
def ruleF : Nat → FuncId
 | 0 => 159
 | 1 => 161
 | 2 => 163
 | 3 => 164
 | 4 => 166
 | _ => 167
def ruleV (g k : Nat) : Value := .func (.func (ruleF k)) #[] #[.pointer (some ⟨g, 0, none⟩)]
theorem rule_cf (k : Nat) (w : World) (args : Array Value) : (callFunc (ruleF k) args).run Tryz.prog w = .ok (.enter (ruleF k) args) w := by
 unfold ruleF
 split <;> go_simp
theorem box_rule {b : Box} {g : Nat} {w : World} (k : Nat) (hk : k < 6) (hc : ∀ j u, b.cells[j]? = some u → w.cell? ⟨g, j, none⟩ = some u) (hn : b.num.size ≤ 140737488351232) :
 Calls Tryz.prog (ruleF k) #[.pointer (some ⟨g, 0, none⟩)] w fun e w' => e = .returned (.bool (bRule b k)) ∧ Below w.heap.size w w' := by
 have : k = 0 ∨ k = 1 ∨ k = 2 ∨ k = 3 ∨ k = 4 ∨ k = 5 := by omega
 rcases this with rfl | rfl | rfl | rfl | rfl | rfl
 · exact box_r0 hc
 · exact box_r1 hc hn
 · exact box_r2 hc
 · exact box_r3 hc
 · exact box_r4 hc
 · exact box_r5 hc
theorem boxB_all {b : Box} (h : ∀ k, k < 6 → bRule b k = true) : boxB b = true := by
 unfold boxB
 rw [h 0 (by omega), h 1 (by omega), h 2 (by omega), h 3 (by omega), h 4 (by omega), h 5 (by omega)]
 rfl
theorem boxB_bad {b : Box} {k : Nat} (hk : k < 6) (h : bRule b k = false) : boxB b = false := by
 have : k = 0 ∨ k = 1 ∨ k = 2 ∨ k = 3 ∨ k = 4 ∨ k = 5 := by omega
 unfold boxB
 rcases this with rfl | rfl | rfl | rfl | rfl | rfl <;> rw [h] <;> simp
theorem box_r7_cf (w : World) (args : Array Value) : (callFunc 169 args).run Tryz.prog w = .ok (.enter 169 args) w := by
 go_simp
set_option maxRecDepth 100000 in
theorem rules_index (b : Box) (g h c : Nat) (w : World) (hn : b.num.size ≤ 140737488351232) (hb : ∀ w', From w w' → ∀ j u, b.cells[j]? = some u → w'.cell? ⟨g, j, none⟩ = some u)
 (hr : ∀ w', From w w' → ∀ k, k < 6 → w'.cell? ⟨h, k, none⟩ = some (ruleV g k)) :
 Calls Tryz.prog 188 #[.slice (some ⟨h, 0, none⟩) 6 c, .func (.func 169) #[] #[]] w fun e w' => (∃ i : Int, e = .returned (.int .i64 i) ∧ decide (i ≥ 0) = !boxB b) ∧ Below w.heap.size w w' := by
 have HB := Lib.hid hb
 have HR := Lib.hid hr
 have hcf := box_r7_cf
 clear hb hr
 go_enter Tryz.func188, Tryz.ntmps188
 go_wp2
 go_loopw [5, 8] (fun _ i wr => ∃ k : Nat, k ≤ 6 ∧ i = .int .i64 k ∧ (∀ j, (h : j < k) → bRule b j = true) ∧ From w wr) (fun _ i _ => 6 - (intOf i).toNat)
 case atStart => exact ⟨0, by omega, rfl, by omega, Below.refl _ _⟩
 case round =>
  obtain ⟨k, hk, rfl, hj, hw⟩ := hrel
  have HJ := Lib.hid hj
  clear hj
  by_cases hlt : k < 6
  · have HL : Hid ((loadVar 36 ⟨h, k, none⟩).run Tryz.prog wr = .ok (ruleV g k) wr) := run_load_cell Tryz.underlying36 rfl (HR.out wr hw k hlt)
    have HC := Lib.hid (box_r7 (rule_cf k) (box_rule k hlt (HB.out wr hw) hn))
    go_wp2_with (first
     | (refine wpList_ld rfl 36 _ rfl _ rfl _ HL.out ?_)
     | (go_at_call 169; refine (HC.out).mono ?_; rintro e w' ⟨rfl, hb3⟩))
    · have hf : bRule b k = false := by
       have h9 : (!bRule b k) = true := by assumption
       simpa using h9
      have HD := Lib.hid (boxB_bad hlt hf)
      go_ret
      exact ⟨⟨_, rfl, by rw [HD.out]; simp⟩, hw.trans (hb3.mono hw.size)⟩
    · have ht : bRule b k = true := by
       have h9 : (!bRule b k) = false := by assumption
       simpa using h9
      go_roundw
      case rel =>
       refine ⟨k + 1, by omega, by go_num, fun j h => ?_, hw.trans (hb3.mono hw.size)⟩
       rcases Nat.lt_or_ge j k with h3 | h3
       · exact HJ.out j h3
       · obtain rfl : j = k := by omega
         exact ht
      case measure => simp [intOf]; omega
  · obtain rfl : k = 6 := by omega
    have HI := Lib.hid (boxB_all HJ.out)
    go_wp2
    go_ret
    exact ⟨⟨_, rfl, by rw [HI.out]; rfl⟩, hw⟩
theorem rules_contains (b : Box) (g h c : Nat) (w : World) (hn : b.num.size ≤ 140737488351232) (hb : ∀ w', From w w' → ∀ j u, b.cells[j]? = some u → w'.cell? ⟨g, j, none⟩ = some u)
 (hr : ∀ w', From w w' → ∀ k, k < 6 → w'.cell? ⟨h, k, none⟩ = some (ruleV g k)) :
 Calls Tryz.prog 168 #[.slice (some ⟨h, 0, none⟩) 6 c, .func (.func 169) #[] #[]] w fun e w' => e = .returned (.bool (!boxB b)) ∧ Below w.heap.size w w' := by
 have HC := Lib.hid (rules_index b g h c w hn hb hr)
 clear hb hr
 go_enter Tryz.func168, Tryz.ntmps168
 go_wp2_with (go_at_call 188; refine (HC.out).mono ?_; rintro e w1 ⟨⟨i, rfl, hi⟩, hb1⟩; have HI := Lib.hid hi; clear hi)
 go_ret
 exact ⟨by rw [← HI.out]; rfl, hb1⟩
abbrev boxW (b : Box) (w : World) : World := (w.alloc (Obj.cells #[.int .i64 b.id, .string b.num, .int .u8 b.size, .bool b.high, .int .i64 b.kilos, .int .i64 b.load, .int .i64 b.dis, .int .u8 b.cls, .bool b.reefer] 44)).alloc (Obj.cells #[.func (.func 159) #[] #[.pointer (some ⟨w.heap.size, 0, none⟩)], .func (.func 161) #[] #[.pointer (some ⟨w.heap.size, 0, none⟩)], .func (.func 163) #[] #[.pointer (some ⟨w.heap.size, 0, none⟩)], .func (.func 164) #[] #[.pointer (some ⟨w.heap.size, 0, none⟩)], .func (.func 166) #[] #[.pointer (some ⟨w.heap.size, 0, none⟩)], .func (.func 167) #[] #[.pointer (some ⟨w.heap.size, 0, none⟩)]] 36)
set_option maxHeartbeats 1000000 in
theorem box_right (b : Box) (w : World) (hn : b.num.size ≤ 140737488351232) :
 Calls Tryz.prog 129 #[b.val] w fun e w' => e = .returned (.bool (boxB b)) ∧ Below w.heap.size w w' := by
 have HB : Hid (Below w.heap.size w (boxW b w) ∧ ∀ w', From (boxW b w) w' → (∀ j u, b.cells[j]? = some u → w'.cell? ⟨w.heap.size, j, none⟩ = some u) ∧ ∀ k, k < 6 → w'.cell? ⟨w.heap.size + 1, k, none⟩ = some (ruleV w.heap.size k)) := by
  refine ⟨((Below.refl _ _).alloc (Nat.le_refl _) _).alloc (by simp) _, fun w' hb => ?_⟩
  have hs : (boxW b w).heap.size = w.heap.size + 2 := size_alloc2 _ _ _
  have k0 : (boxW b w).heap[w.heap.size]? = some (.cells #[.int .i64 b.id, .string b.num, .int .u8 b.size, .bool b.high, .int .i64 b.kilos, .int .i64 b.load, .int .i64 b.dis, .int .u8 b.cls, .bool b.reefer] 44 (0, 0)) := heap_alloc2_old w _ _
  have k1 : (boxW b w).heap[w.heap.size + 1]? = some (.cells #[.func (.func 159) #[] #[.pointer (some ⟨w.heap.size, 0, none⟩)], .func (.func 161) #[] #[.pointer (some ⟨w.heap.size, 0, none⟩)], .func (.func 163) #[] #[.pointer (some ⟨w.heap.size, 0, none⟩)], .func (.func 164) #[] #[.pointer (some ⟨w.heap.size, 0, none⟩)], .func (.func 166) #[] #[.pointer (some ⟨w.heap.size, 0, none⟩)], .func (.func 167) #[] #[.pointer (some ⟨w.heap.size, 0, none⟩)]] 36 (0, 0)) := heap_alloc2_new w _ _
  refine ⟨fun j u hu => ?_, fun k hk => ?_⟩
  · rw [cell_of_row w' w.heap.size j _ _ _ ((hb.block _ (by omega)).trans k0)]
    simpa [Box.cells] using hu
  · rw [cell_of_row w' (w.heap.size + 1) k _ _ _ ((hb.block _ (by omega)).trans k1)]
    have : k = 0 ∨ k = 1 ∨ k = 2 ∨ k = 3 ∨ k = 4 ∨ k = 5 := by omega
    rcases this with rfl | rfl | rfl | rfl | rfl | rfl <;> rfl
 have HC := Lib.hid (rules_contains b w.heap.size (w.heap.size + 1) 6 (boxW b w) hn (fun w' h => (HB.out.2 w' h).1) (fun w' h => (HB.out.2 w' h).2))
 go_enter Tryz.func129, Tryz.ntmps129
 go_wp2_with (go_at_call 168; refine (HC.out).mono ?_; rintro e w1 ⟨rfl, hb1⟩)
 go_ret
 exact ⟨by simp, HB.out.1.trans (hb1.mono HB.out.1.size)⟩
end Go.Proofs.YtfdjcakgolenbaaGreat
