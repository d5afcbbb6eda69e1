/-
  iso: which texts are right numbers.
-/
import Derived.Test.YtfdjcakgolenbaaGreatMw15
import Derived.Maps.OwnSet
set_option linter.unusedVariables false
set_option linter.unusedSimpArgs false
namespace Go.Proofs.YtfdjcakgolenbaaGreat
open Go.RowKit
def letterB (b : Int) : Bool := decide (65 <= b) && decide (b <= 90)
def groupB (b : Int) : Bool := b == 85 || b == 74 || b == 90
def digitB (b : Int) : Bool := decide (48 <= b) && decide (b <= 57)
def mayB (i : Nat) (b : Int) : Bool := if i < 3 then letterB b else if i = 3 then groupB b else digitB b
def byteAt (s : ByteArray) (i : Nat) : Int := ((s.data[i]?.map fun c => (c.toNat : Int)).getD 0)
def okAt (s : ByteArray) (i : Nat) : Bool := decide (i < 11) && mayB i (byteAt s i)
def formedB (s : ByteArray) : Bool := decide (∀ i, i < s.size -> okAt s i = true)
def valI (b : Int) : Int := if digitB b then b - 48 else if letterB b then 10 + (b - 65) + (b - 65 + 9) / 10 else 0
def isVB (b : Int) : Bool := digitB b || letterB b
def sumV (s : ByteArray) : Nat -> Int
 | 0 => 0
 | n + 1 => sumV s n + valI (byteAt s n) * 2 ^ n
theorem byteAt_get {s : ByteArray} {i : Nat} (h : i < s.size) : byteAt s i = (s[i].toNat : Int) := by
 unfold byteAt;have : s.data[i]? = some s[i] := Array.getElem?_eq_getElem h;rw [this];rfl
theorem byteAt_bd (s : ByteArray) (i : Nat) : 0 <= byteAt s i /\ byteAt s i <= 255 := by
 unfold byteAt
 cases s.data[i]? with
 | none => simp
 | some c => have := c.toNat_lt; simp; omega
theorem valI_bd {b : Int} (_h0 : 0 <= b) (h : b <= 255) : 0 <= valI b /\ valI b <= 38 := by
 unfold valI digitB letterB;split
 . rename_i hd;simp at hd;omega
 . split
   . rename_i hl;simp at hl;omega
   . omega
theorem iso_value (b : Int) (w : World) (h0 : 0 <= b) (h1 : b <= 255) :
 Calls Tryz.prog 199 #[.int .u8 b] w fun e w' => e = .returned (.tuple #[.int .i64 (valI b), .bool (isVB b)]) /\ w = w' := by
 by_cases hd : 48 <= b /\ b <= 57
 . obtain ⟨d1, d2⟩ := hd;have e : valI b = b - 48 := by unfold valI digitB; simp [d1, d2]
   have e2 : isVB b = true := by unfold isVB digitB; simp [d1, d2]
   have E := Lib.hid e;have E2 := Lib.hid e2;clear e e2
   go_enter Tryz.func199, Tryz.ntmps199
   go_wp2
   go_ret2
   exact ⟨by rw [E.out, E2.out]; rfl, rfl⟩
 . by_cases hl : 65 <= b /\ b <= 90
   . obtain ⟨d1, d2⟩ := hl;have e : valI b = 10 + (b - 65) + (b - 65 + 9) / 10 := by
      unfold valI digitB letterB;rw [if_neg (by simp; omega), if_pos (by simp; omega)]
     have e2 : isVB b = true := by unfold isVB digitB letterB; simp [d1, d2]
     have E := Lib.hid e;have E2 := Lib.hid e2;clear e e2 hd;have hd : decide (b <= 57) = false := by simp; omega
     go_enter Tryz.func199, Tryz.ntmps199
     go_wp2
     go_ret2
     exact ⟨by rw [E.out, E2.out]; rfl, rfl⟩
   . have e : valI b = 0 := by
      unfold valI digitB letterB;rw [if_neg (by simp; omega), if_neg (by simp; omega)]
     have e2 : isVB b = false := by unfold isVB digitB letterB; simp; omega
     have E := Lib.hid e;have E2 := Lib.hid e2;clear e e2;rcases Int.lt_or_le b 48 with h48 | h48
     . clear hd hl
       go_enter Tryz.func199, Tryz.ntmps199
       go_wp2
       go_ret2
       exact ⟨by rw [E.out, E2.out]; rfl, rfl⟩
     . have h57 : 57 < b := by omega
       rcases Int.lt_or_le b 65 with h65 | h65
       . clear hd hl
         go_enter Tryz.func199, Tryz.ntmps199
         go_wp2
         go_ret2
         exact ⟨by rw [E.out, E2.out]; rfl, rfl⟩
       . have h90 : 90 < b := by omega
         clear hd hl
         go_enter Tryz.func199, Tryz.ntmps199
         go_wp2
         go_ret2
         exact ⟨by rw [E.out, E2.out]; rfl, rfl⟩
theorem may1 (b : Int) (w : World) (h0 : 0 <= b) (h1 : b <= 255) : Calls Tryz.prog 200 #[.int .u8 b] w fun e w' => e = .returned (.bool (letterB b)) /\ w = w' := by
 have HL : Hid (letterB b = (decide (65 <= b) && decide (b <= 90))) := rfl
 go_enter Tryz.func200, Tryz.ntmps200
 rcases Int.lt_or_le b 65 with h | h
 . have hd : decide (65 <= b) = false := by simp; omega
   have HD := Lib.hid hd
   go_wp2
   go_ret
   exact ⟨by rw [HL.out, HD.out]; rfl, rfl⟩
 . have hd : decide (65 <= b) = true := by simp; omega
   have HD := Lib.hid hd
   go_wp2
   go_ret
   exact ⟨by rw [HL.out, HD.out]; rfl, rfl⟩
theorem may3 (b : Int) (w : World) (h0 : 0 <= b) (h1 : b <= 255) : Calls Tryz.prog 202 #[.int .u8 b] w fun e w' => e = .returned (.bool (digitB b)) /\ w = w' := by
 have HL : Hid (digitB b = (decide (48 <= b) && decide (b <= 57))) := rfl
 go_enter Tryz.func202, Tryz.ntmps202
 rcases Int.lt_or_le b 48 with h | h
 . have hd : decide (48 <= b) = false := by simp; omega
   have HD := Lib.hid hd
   go_wp2
   go_ret
   exact ⟨by rw [HL.out, HD.out]; rfl, rfl⟩
 . have hd : decide (48 <= b) = true := by simp; omega
   have HD := Lib.hid hd
   go_wp2
   go_ret
   exact ⟨by rw [HL.out, HD.out]; rfl, rfl⟩
theorem may2 (b : Int) (w : World) (h0 : 0 <= b) (h1 : b <= 255) : Calls Tryz.prog 201 #[.int .u8 b] w fun e w' => e = .returned (.bool (groupB b)) /\ w = w' := by
 have HL : Hid (groupB b = ((b == 85 || b == 74) || b == 90)) := rfl
 go_enter Tryz.func201, Tryz.ntmps201
 cases ha : (b == 85) with
 | true =>
  have HD := Lib.hid ha
  go_wp2
  go_ret
  exact ⟨by rw [HL.out, HD.out]; rfl, rfl⟩
 | false =>
  have HD := Lib.hid ha
  cases hb : (b == 74) with
  | true =>
   have HB := Lib.hid hb
   go_wp2
   go_ret
   exact ⟨by rw [HL.out, HD.out, HB.out]; rfl, rfl⟩
  | false =>
   have HB := Lib.hid hb
   go_wp2
   go_ret
   exact ⟨by rw [HL.out, HD.out, HB.out]; rfl, rfl⟩
def mayCells : List Value := [.func (.func 200) #[] #[], .func (.func 200) #[] #[], .func (.func 200) #[] #[], .func (.func 201) #[] #[], .func (.func 202) #[] #[], .func (.func 202) #[] #[], .func (.func 202) #[] #[], .func (.func 202) #[] #[], .func (.func 202) #[] #[], .func (.func 202) #[] #[], .func (.func 202) #[] #[]]
theorem may_one : ∀ u ∈ mayCells, u.oneCell' = true := by simp [mayCells, Value.oneCell']
theorem iso_may (w : World) : Calls Tryz.prog 198 #[] w fun e w' => e = .returned (.agg mayCells.toArray) /\ Below w.heap.size w w' := by
 go_enter Tryz.func198, Tryz.ntmps198
 go_wp2_with (refine wpList_st rfl _ _ rfl rfl rfl (n := 11) (cs := mayCells) (by kernel_rfl) rfl rfl (heap_alloc_new w _) (by simp) may_one ?_; intro cur' w2 hl hs hg hgr)
 have hcur : cur' = mayCells.toArray := by
  apply Array.ext';rw [hl];rfl
 subst hcur;refine bodyPost_ret (v := .agg mayCells.toArray) (results_cell_row rfl _ w2 w.heap.size _ _ _ _ rfl hg Tryz.underlying256 rfl (by kernel_rfl)) rfl ⟨rfl, ?_⟩;exact ((Below.refl _ _).alloc (Nat.le_refl _) _).grown hgr (by simp) (fun k hk => by injection hk with hk; omega)
theorem may_cf1 (w : World) (args : Array Value) : (callFunc 200 args).run Tryz.prog w = .ok (.enter 200 args) w := by go_simp
theorem may_cf2 (w : World) (args : Array Value) : (callFunc 201 args).run Tryz.prog w = .ok (.enter 201 args) w := by go_simp
theorem may_cf3 (w : World) (args : Array Value) : (callFunc 202 args).run Tryz.prog w = .ok (.enter 202 args) w := by go_simp
theorem may_at (k : Nat) (h : k < 11) : ∃ f, mayCells[k]? = some (.func (.func f) #[] #[]) /\ (∀ w args, (callFunc f args).run Tryz.prog w = .ok (.enter f args) w) /\
 ∀ (b : Int) (w : World), 0 <= b -> b <= 255 -> Calls Tryz.prog f #[.int .u8 b] w fun e w' => e = .returned (.bool (mayB k b)) /\ Below w.heap.size w w' := by
 have hk : k = 0 \/ k = 1 \/ k = 2 \/ k = 3 \/ k = 4 \/ k = 5 \/ k = 6 \/ k = 7 \/ k = 8 \/ k = 9 \/ k = 10 := by omega
 have c1 : ∀ (b : Int) (w : World), 0 <= b -> b <= 255 -> Calls Tryz.prog 200 #[.int .u8 b] w fun e w' => e = .returned (.bool (letterB b)) /\ Below w.heap.size w w' := fun b w h0 h1 => (may1 b w h0 h1).mono fun e w' ⟨he, hw⟩ => ⟨he, hw ▸ Below.refl _ _⟩
 have c2 : ∀ (b : Int) (w : World), 0 <= b -> b <= 255 -> Calls Tryz.prog 201 #[.int .u8 b] w fun e w' => e = .returned (.bool (groupB b)) /\ Below w.heap.size w w' := fun b w h0 h1 => (may2 b w h0 h1).mono fun e w' ⟨he, hw⟩ => ⟨he, hw ▸ Below.refl _ _⟩
 have c3 : ∀ (b : Int) (w : World), 0 <= b -> b <= 255 -> Calls Tryz.prog 202 #[.int .u8 b] w fun e w' => e = .returned (.bool (digitB b)) /\ Below w.heap.size w w' := fun b w h0 h1 => (may3 b w h0 h1).mono fun e w' ⟨he, hw⟩ => ⟨he, hw ▸ Below.refl _ _⟩
 rcases hk with rfl | rfl | rfl | rfl | rfl | rfl | rfl | rfl | rfl | rfl | rfl
 . exact ⟨_, rfl, may_cf1, c1⟩
 . exact ⟨_, rfl, may_cf1, c1⟩
 . exact ⟨_, rfl, may_cf1, c1⟩
 . exact ⟨_, rfl, may_cf2, c2⟩
 all_goals exact ⟨_, rfl, may_cf3, c3⟩
theorem okAt_eq {s : ByteArray} {k : Nat} (h : k < s.size) : okAt s k = (decide (k < 11) && mayB k (s[k].toNat : Int)) := by
 unfold okAt;rw [byteAt_get h]
set_option maxHeartbeats 1000000 in
theorem iso_formed (s : ByteArray) (w : World) (hs : s.size <= 140737488351232) :
 Calls Tryz.prog 195 #[.string s] w fun e w' => e = .returned (.bool (formedB s)) /\ Below w.heap.size w w' := by
 have hfb : (∀ i, i < s.size -> okAt s i = true) -> formedB s = true := fun h => by unfold formedB; simp; exact h
 have hfn : ∀ i, i < s.size -> okAt s i = false -> formedB s = false := fun i h h2 => by
  unfold formedB;rw [decide_eq_false_iff_not];intro hall;rw [hall i h] at h2;cases h2
 have HFB := Lib.hid hfb;have HFN := Lib.hid hfn;clear hfb hfn
 go_enter Tryz.func195, Tryz.ntmps195
 go_wp2_with (first
  | (go_at_call 198; refine (iso_may _).mono ?_; rintro e w1 ⟨rfl, hb1⟩)
  | (refine wpList_st rfl _ _ rfl rfl rfl (n := 11) (cs := mayCells) (by kernel_rfl) rfl rfl (heap_alloc_new w1 _) (by simp) may_one ?_; intro cur' w2 hl hs' hg hgr))
 have hcur : cur' = mayCells.toArray := by
  apply Array.ext';rw [hl];rfl
 subst hcur;have hb2 : Below w.heap.size w w2 := (hb1.alloc hb1.size _).grown hgr (by simp; have := hb1.size; omega) (fun k hk => by injection hk with hk; have := hb1.size; omega);have hlt2 : w1.heap.size < w2.heap.size := (Array.getElem?_eq_some_iff.1 hg).1;have hcell : ∀ w', From w2 w' -> ∀ i v, mayCells[i]? = some v -> w'.cell? ⟨w1.heap.size, i, none⟩ = some v := fun w' hb i v hv => by
  rw [cell_of_row w' w1.heap.size i _ _ _ ((hb.block _ hlt2).trans hg)];simpa using hv
 have HC := Lib.hid hcell;have HB2 := Lib.hid hb2;clear hl hs' hg hgr hcell hb2
 go_loopw [4, 8] (fun _ i wr => ∃ k : Nat, k <= s.size /\ i = .int .i64 k /\ (∀ j, j < k -> okAt s j = true) /\ From w2 wr) (fun _ i _ => s.size - (intOf i).toNat)
 case atStart => exact ⟨0, by omega, rfl, by omega, Below.refl _ _⟩
 case round =>
  obtain ⟨k, hk, rfl, hj, hb⟩ := hrel;have HJ := Lib.hid hj;clear hj;by_cases hlt : k < s.size
  . have hok := okAt_eq hlt;have HOK := Lib.hid hok;clear hok;by_cases h11 : k < 11
    . have hd : decide ((11 : Int) <= (k : Int)) = false := by simp; omega
      obtain ⟨f, hmf, hcf, hcall⟩ := may_at k h11;have hle : okAt s k = mayB k (s[k].toNat : Int) := by rw [HOK.out]; simp [h11]
      have HLE := Lib.hid hle;have HLD := Lib.hid (fun w' hb => HC.out w' hb k _ hmf);have HCALL := Lib.hid hcall;have hbd : (s[k].toNat : Int) <= 255 := by have := s[k].toNat_lt; omega
      clear hle hmf hcall
      go_wp2
      refine wp_region_below (by kernel_rfl) (by kernel_rfl) wr.heap.size ?_
      repeat (first | go_big_quiet_skip | (go_big_quiet_want; refine quiet_ld _ _ rfl _ rfl _ (fun w' hC => run_load_cell Tryz.underlying228 rfl (HLD.out w' (hb.trans (hC.mono hb.size)))) ?_; simp only [Act.put, List.setIfInBounds_toArray, List.set_cons_succ, List.set_cons_zero]; go_big_quiet_on) | go_big_quiet_step (first | (intro hC; rfl) | (intro hC; exact ⟨rfl, rfl⟩) | (intro hC; refine (HCALL.out _ _ (by omega) hbd).mono ?_; rintro e w' ⟨rfl, hb3⟩; exact ⟨rfl, hC.trans (hb3.mono hC.size)⟩)))
      refine wpQuiet_nil ?_;intro w' hC
      cases hm : mayB k (s[k].toNat : Int) with
      | true =>
       have hok1 : okAt s k = true := by rw [HLE.out, hm]
       have HOK1 := Lib.hid hok1;clear hok1
       go_wp2
       go_roundw
       case rel =>
        refine ⟨k + 1, by omega, by go_num, fun j h => ?_, hb.trans (hC.mono hb.size)⟩;rcases Nat.lt_or_ge j k with h3 | h3
        . exact HJ.out j h3
        . obtain rfl : j = k := by omega
          exact HOK1.out
       case measure => simp [intOf]; omega
      | false =>
       have hok1 : okAt s k = false := by rw [HLE.out, hm]
       have HBAD := Lib.hid (HFN.out k hlt hok1);clear hok1
       go_wp2
       go_ret
       exact ⟨by rw [HBAD.out]; rfl, HB2.out.trans ((hb.trans (hC.mono hb.size)).mono HB2.out.size)⟩
    . have hbad : okAt s k = false := by rw [HOK.out]; simp [h11]
      have HBAD := Lib.hid (HFN.out k hlt hbad);clear hbad;have hd : decide ((11 : Int) <= (k : Int)) = true := by simp; omega
      go_wp2
      refine wp_region_below (by kernel_rfl) (by kernel_rfl) wr.heap.size ?_
      repeat (first | go_big_quiet_skip | go_big_quiet_step (first | (intro hC; rfl) | (intro hC; exact ⟨rfl, rfl⟩)))
      refine wpQuiet_nil ?_;intro w' hC
      go_wp2
      go_ret
      exact ⟨by rw [HBAD.out]; rfl, HB2.out.trans ((hb.trans (hC.mono hb.size)).mono HB2.out.size)⟩
  . obtain rfl : k = s.size := by omega
    have HF := Lib.hid (HFB.out HJ.out)
    go_wp2
    go_ret
    exact ⟨by rw [HF.out]; rfl, HB2.out.trans (hb.mono HB2.out.size)⟩
theorem sumV_bd (s : ByteArray) : ∀ n, 0 <= sumV s n /\ sumV s n <= 38 * (2 ^ n - 1)
 | 0 => by simp [sumV]
 | n + 1 => by
  have ih := sumV_bd s n;have hb := byteAt_bd s n;have hv := valI_bd hb.1 hb.2;have hp : (0 : Int) < 2 ^ n := Int.pow_pos (by omega);have h1 : valI (byteAt s n) * 2 ^ n <= 38 * 2 ^ n := Int.mul_le_mul_of_nonneg_right hv.2 (by omega);have h0 : 0 <= valI (byteAt s n) * 2 ^ n := Int.mul_nonneg hv.1 (by omega);have e : (2 : Int) ^ (n + 1) = 2 * 2 ^ n := by rw [Int.pow_succ]; omega
  unfold sumV;rw [e];omega
def digitV (s : ByteArray) : Int := 48 + sumV s s.size % 11 % 10
theorem pow_le {k : Nat} (h : k < 10) : (1 : Int) <= 2 ^ k /\ (2 : Int) ^ k <= 512 := by
 have hk : k = 0 \/ k = 1 \/ k = 2 \/ k = 3 \/ k = 4 \/ k = 5 \/ k = 6 \/ k = 7 \/ k = 8 \/ k = 9 := by omega
 rcases hk with rfl | rfl | rfl | rfl | rfl | rfl | rfl | rfl | rfl | rfl <;> decide
theorem digit_step {s : ByteArray} {k : Nat} (h : k < s.size) (hk : k < 10) : wrap64 (sumV s k + wrap64 (valI (s[k].toNat : Int) * 2 ^ k)) = sumV s (k + 1) := by
 have hb := byteAt_bd s k;have hv := valI_bd hb.1 hb.2;obtain ⟨p1, p2⟩ := pow_le hk;have hs := sumV_bd s k;have h1 : valI (byteAt s k) * 2 ^ k <= 38 * 2 ^ k := Int.mul_le_mul_of_nonneg_right hv.2 (by omega);have h0 : 0 <= valI (byteAt s k) * 2 ^ k := Int.mul_nonneg hv.1 (by omega);rw [<- byteAt_get h];rw [IntWalk.wrap64_in (valI (byteAt s k) * 2 ^ k) ⟨by omega, by omega⟩, IntWalk.wrap64_in _ ⟨by omega, by omega⟩];rfl
set_option maxHeartbeats 1000000 in
theorem iso_digit (s : ByteArray) (w : World) (hs : s.size <= 10) :
 Calls Tryz.prog 196 #[.string s] w fun e w' => e = .returned (.int .u8 (digitV s)) /\ w = w' := by
 go_enter Tryz.func196, Tryz.ntmps196
 go_wp2
 go_loop [3, 9] (fun u i => ∃ k : Nat, k <= s.size /\ i = .int .i64 k /\ u = .int .i64 (sumV s k)) (fun _ i => s.size - (intOf i).toNat)
 case atStart => exact ⟨0, by omega, rfl, rfl⟩
 case round =>
  obtain ⟨k, hk, rfl, rfl⟩ := hrel;have hsb := sumV_bd s k;obtain ⟨sb1, sb2⟩ := hsb;by_cases hlt : k < s.size
  . have hbd : (s[k].toNat : Int) <= 255 := by have := s[k].toNat_lt; omega
    have hv := valI_bd (b := (s[k].toNat : Int)) (by omega) hbd;obtain ⟨v1, v2⟩ := hv
    go_wp2_with (go_at_call 199; refine (iso_value _ _ (by omega) hbd).mono ?_; rintro e w' ⟨rfl, rfl⟩)
    go_round
    case rel => exact ⟨k + 1, by omega, by go_num, by rw [digit_step hlt (by omega)]⟩
    case measure => simp [intOf]; omega
  . obtain rfl : k = s.size := by omega
    go_wp2
    go_ret
    exact ⟨rfl, rfl⟩
theorem not_bne_int (x y : Int) : (!(x != y)) = decide (x = y) := by by_cases h : x = y <;> simp [h]
def isoB (s : ByteArray) : Bool := decide (s.size = 11) && formedB s && decide (48 + sumV s 10 % 11 % 10 = byteAt s 10)
theorem byteAt_extract (s : ByteArray) (i : Nat) (h : i < 10) (hs : 10 <= s.size) : byteAt (s.extract 0 10) i = byteAt s i := by
 have h1 : i < (s.extract 0 10).size := by simp; omega
 rw [byteAt_get h1, byteAt_get (by omega)];simp [ByteArray.getElem_extract]
theorem sumV_extract (s : ByteArray) (hs : 10 <= s.size) : ∀ n, n <= 10 -> sumV (s.extract 0 10) n = sumV s n
 | 0, _ => rfl
 | n + 1, h => by
  unfold sumV;rw [sumV_extract s hs n (by omega), byteAt_extract s n (by omega) hs]
set_option maxHeartbeats 1000000 in
theorem iso_check (s : ByteArray) (w : World) (hs : s.size <= 140737488351232) :
 Calls Tryz.prog 187 #[.string s] w fun e w' => ∃ n, e = .returned (.int .i64 n) /\ (n == 0) = isoB s /\ Below w.heap.size w w' := by
 by_cases h11 : s.size = 11
 . have hne : ((s.size : Int) != 11) = false := by simp [h11]
   have hle : s.size <= 11 := by omega
   have hge : 10 < s.size := by omega
   have H11 := Lib.hid h11;clear h11
   cases hf : formedB s with
   | true =>
    have hx : (s.extract 0 10).size <= 10 := by simp; omega
    have hres : ∀ n : Int, (n == 0) = !(digitV (s.extract 0 10) != (s[10].toNat : Int)) -> (n == 0) = isoB s := by
     intro n hn;rw [hn];unfold isoB digitV;have e1 : (s.extract 0 10).size = 10 := by simp; omega
     rw [e1, sumV_extract s (by omega) 10 (by omega), byteAt_get (s := s) (i := 10) (by omega), hf, decide_eq_true H11.out];rw [not_bne_int];simp
    have HR := Lib.hid hres;clear hres;have hix : ∀ w, (Instr.index 9 (.string s) (.int .i64 10)).run Tryz.prog w = .ok (.int .u8 (s[10].toNat : Int)) w := fun w => by
     simp [Instr.index, asIntOf, run_underlying Tryz.underlying9, hge]
    go_enter Tryz.func187, Tryz.ntmps187
    go_wp2_with (go_at_call 195; refine (iso_formed s _ hs).mono ?_; rintro e w1 ⟨rfl, hb1⟩)
    refine wp_region_below (by kernel_rfl) (by kernel_rfl) w1.heap.size ?_
    repeat (first | go_big_quiet_skip | go_big_quiet_step (first | (intro hC; rfl) | (intro hC; exact ⟨rfl, rfl⟩) | (intro hC; refine (iso_digit _ _ hx).mono ?_; rintro e w' ⟨rfl, rfl⟩; exact ⟨rfl, hC⟩)))
    refine wpQuiet_nil ?_;intro w' hC
    cases hq : (digitV (s.extract 0 10) != (s[10].toNat : Int)) with
    | true =>
     have HQ := Lib.hid hq
     go_wp2
     go_ret
     exact ⟨31, rfl, HR.out 31 (by rw [HQ.out]; rfl), hb1.trans (hC.mono hb1.size)⟩
    | false =>
     have HQ := Lib.hid hq
     go_wp2
     go_ret
     exact ⟨0, rfl, HR.out 0 (by rw [HQ.out]; rfl), hb1.trans (hC.mono hb1.size)⟩
   | false =>
    have HI : Hid (isoB s = false) := by unfold Hid isoB; rw [hf]; simp
    go_enter Tryz.func187, Tryz.ntmps187
    go_wp2_with (go_at_call 195; refine (iso_formed s _ hs).mono ?_; rintro e w1 ⟨rfl, hb1⟩)
    go_ret
    exact ⟨30, rfl, by rw [HI.out]; rfl, hb1⟩
 . have hne : ((s.size : Int) != 11) = true := by simp; omega
   have HI : Hid (isoB s = false) := by unfold Hid isoB; simp [h11]
   go_enter Tryz.func187, Tryz.ntmps187
   go_wp2
   go_ret
   exact ⟨30, rfl, by rw [HI.out]; rfl, Below.refl _ _⟩
theorem iso_right (s : ByteArray) (w : World) (hs : s.size <= 140737488351232) :
 Calls Tryz.prog 162 #[.string s] w fun e w' => e = .returned (.bool (isoB s)) /\ Below w.heap.size w w' := by
 go_enter Tryz.func162, Tryz.ntmps162
 go_wp2_with (go_at_call 187; refine (iso_check s _ hs).mono ?_; rintro e w' ⟨n, rfl, hn, hb⟩; have HN := Lib.hid hn; clear hn)
 go_ret
 exact ⟨by rw [<- HN.out]; rfl, hb⟩
def kMost (s : Int) : Int := if s = 20 then 32000 else if s = 40 then 40000 else 0
def bWithin (n lo hi : Int) : Bool := decide (lo <= n) && decide (n <= hi)
def noNum : ByteArray := ⟨#[]⟩
theorem noNum_l : noNum.toList = [] := by unfold noNum; go_simp
def bRule (b : Box) : Nat -> Bool
 | 0 => bWithin b.id 1 999999
 | 1 => decide (b.num = noNum) || isoB b.num
 | 2 => !b.high || decide (b.size = 40)
 | 3 => bWithin b.kilos 1 (kMost b.size)
 | 4 => decide (0 <= b.load) && decide (b.load < b.dis) && decide (b.dis < 20)
 | _ => decide (b.cls <= 9)
def boxB (b : Box) : Bool := bRule b 0 && bRule b 1 && bRule b 2 && bRule b 3 && bRule b 4 && bRule b 5
theorem box_within (n lo hi : Int) (w : World) : Calls Tryz.prog 160 #[.int .i64 n, .int .i64 lo, .int .i64 hi] w fun e w' => e = .returned (.bool (bWithin n lo hi)) /\ Below w.heap.size w w' := by
 by_cases h1 : lo <= n
 . go_enter Tryz.func160, Tryz.ntmps160
   have HW : Hid (bWithin n lo hi = decide (n <= hi)) := by unfold Hid bWithin; simp [h1]
   go_wp2
   go_ret
   exact ⟨by rw [HW.out]; rfl, Below.refl _ _⟩
 . go_enter Tryz.func160, Tryz.ntmps160
   have HW : Hid (bWithin n lo hi = false) := by unfold Hid bWithin; simp [h1]
   go_wp2
   go_ret
   exact ⟨by rw [HW.out]; rfl, Below.refl _ _⟩
theorem box_most (s : Int) (w : World) : Calls Tryz.prog 165 #[.int .u8 s] w fun e w' => e = .returned (.int .i64 (kMost s)) /\ Below w.heap.size w w' := by
 by_cases h1 : s = 20
 . subst h1
   go_enter Tryz.func165, Tryz.ntmps165
   go_wp2
   go_ret
   exact ⟨rfl, Below.refl _ _⟩
 . by_cases h2 : s = 40
   . subst h2
     go_enter Tryz.func165, Tryz.ntmps165
     go_wp2
     go_ret
     exact ⟨rfl, Below.refl _ _⟩
   . have HK : Hid (kMost s = 0) := by unfold Hid kMost; simp [h1, h2]
     have b1 : (s == 20) = false := by simp [h1]
     have b2 : (s == 40) = false := by simp [h2]
     go_enter Tryz.func165, Tryz.ntmps165
     go_wp2
     go_ret
     exact ⟨by rw [HK.out]; rfl, Below.refl _ _⟩
section
variable {b : Box} {g : Nat} {w : World}
theorem box_r0 (hc : ∀ j u, b.cells[j]? = some u -> w.cell? ⟨g, j, none⟩ = some u) : Calls Tryz.prog 159 #[.pointer (some ⟨g, 0, none⟩)] w fun e w' => e = .returned (.bool (bRule b 0)) /\ Below w.heap.size w w' := by
 have c0 : w.cell? ⟨g, 0, none⟩ = some (.int .i64 b.id) := hc 0 _ rfl;clear hc
 go_enter Tryz.func159, Tryz.ntmps159
 go_wp2_with (go_at_call 160; refine (box_within _ _ _ _).mono ?_; rintro e w1 ⟨rfl, hb1⟩)
 go_ret
 exact ⟨rfl, hb1⟩
theorem box_r1 (hc : ∀ j u, b.cells[j]? = some u -> w.cell? ⟨g, j, none⟩ = some u) (hn : b.num.size <= 140737488351232) : Calls Tryz.prog 161 #[.pointer (some ⟨g, 0, none⟩)] w fun e w' => e = .returned (.bool (bRule b 1)) /\ Below w.heap.size w w' := by
 have c0 : w.cell? ⟨g, 1, none⟩ = some (.string b.num) := hc 1 _ rfl;have HR : Hid (bRule b 1 = (decide (b.num = noNum) || isoB b.num)) := rfl;clear hc;by_cases hz : b.num = noNum
 . have hz' : b.num = ⟨#[]⟩ := hz;rw [hz'] at c0;have HZ := Lib.hid hz;clear hz hz' hn
   go_enter Tryz.func161, Tryz.ntmps161
   go_wp2
   go_ret
   exact ⟨by rw [HR.out, HZ.out]; rfl, Below.refl _ _⟩
 . have hz3 : ¬ b.num.toList = [] := fun h => hz (toList_eq.mp (h.trans noNum_l.symm));have hz2 : b.num.toList.isEmpty = false := by simpa using hz3
   have HE : Hid (bRule b 1 = isoB b.num) := by unfold Hid; rw [HR.out]; simp [hz]
   clear hz
   go_enter Tryz.func161, Tryz.ntmps161
   go_wp2_with (go_at_call 162; refine (iso_right _ _ hn).mono ?_; rintro e w1 ⟨rfl, hb1⟩)
   go_ret
   exact ⟨by rw [HE.out]; rfl, hb1⟩
theorem box_r2 (hc : ∀ j u, b.cells[j]? = some u -> w.cell? ⟨g, j, none⟩ = some u) : Calls Tryz.prog 163 #[.pointer (some ⟨g, 0, none⟩)] w fun e w' => e = .returned (.bool (bRule b 2)) /\ Below w.heap.size w w' := by
 have c0 : w.cell? ⟨g, 2, none⟩ = some (.int .u8 b.size) := hc 2 _ rfl;have c1 : w.cell? ⟨g, 3, none⟩ = some (.bool b.high) := hc 3 _ rfl;have HR : Hid (bRule b 2 = (!b.high || decide (b.size = 40))) := rfl;clear hc
 cases hh : b.high with
 | true =>
  rw [hh] at c1;have HE : Hid (bRule b 2 = (b.size == 40)) := by unfold Hid; rw [HR.out, hh]; simp; by_cases h : b.size = 40 <;> simp [h]
  clear hh
  go_enter Tryz.func163, Tryz.ntmps163
  go_wp2
  go_ret
  exact ⟨by rw [HE.out]; rfl, Below.refl _ _⟩
 | false =>
  rw [hh] at c1;have HE : Hid (bRule b 2 = true) := by unfold Hid; rw [HR.out, hh]; simp
  clear hh
  go_enter Tryz.func163, Tryz.ntmps163
  go_wp2
  go_ret
  exact ⟨by rw [HE.out]; rfl, Below.refl _ _⟩
theorem box_r3 (hc : ∀ j u, b.cells[j]? = some u -> w.cell? ⟨g, j, none⟩ = some u) : Calls Tryz.prog 164 #[.pointer (some ⟨g, 0, none⟩)] w fun e w' => e = .returned (.bool (bRule b 3)) /\ Below w.heap.size w w' := by
 have c0 : w.cell? ⟨g, 2, none⟩ = some (.int .u8 b.size) := hc 2 _ rfl;have c1 : w.cell? ⟨g, 4, none⟩ = some (.int .i64 b.kilos) := hc 4 _ rfl;have hlt : g < w.heap.size := block_lt_of_cell c0;clear hc;have HC1 : Hid (∀ w', From w w' -> (loadVar 3 ⟨g, 4, none⟩).run Tryz.prog w' = .ok (.int .i64 b.kilos) w') := fun w' hb => run_load_cell Tryz.underlying3 rfl ((hb.cell (p := ⟨g, _, none⟩) (by simpa using hlt)).trans c1);have HC2 : Hid (∀ w', From w w' -> (loadVar 5 ⟨g, 2, none⟩).run Tryz.prog w' = .ok (.int .u8 b.size) w') := fun w' hb => run_load_cell Tryz.underlying5 rfl ((hb.cell (p := ⟨g, _, none⟩) (by simpa using hlt)).trans c0);clear c0 c1
 go_enter Tryz.func164, Tryz.ntmps164
 go_wp2
 refine wp_region_below (by kernel_rfl) (by kernel_rfl) w.heap.size ?_
 repeat (first | go_big_quiet_skip | (go_big_quiet_want; refine quiet_ld 3 _ rfl _ rfl _ (fun w' hC => HC1.out w' hC) ?_; simp only [Act.put, List.setIfInBounds_toArray, List.set_cons_succ, List.set_cons_zero]; go_big_quiet_on) | (go_big_quiet_want; refine quiet_ld 5 _ rfl _ rfl _ (fun w' hC => HC2.out w' hC) ?_; simp only [Act.put, List.setIfInBounds_toArray, List.set_cons_succ, List.set_cons_zero]; go_big_quiet_on) | go_big_quiet_step (first | (intro hC; rfl) | (intro hC; exact ⟨rfl, rfl⟩) | (intro hC; (with_reducible refine (box_most _ _).mono ?_); rintro e w1 ⟨rfl, hb1⟩; exact ⟨rfl, hC.trans (hb1.mono hC.size)⟩) | (intro hC; (with_reducible refine (box_within _ _ _ _).mono ?_); rintro e w1 ⟨rfl, hb1⟩; exact ⟨rfl, hC.trans (hb1.mono hC.size)⟩)))
 refine wpQuiet_nil ?_;intro w' hC
 go_wp2
 go_ret
 exact ⟨rfl, hC⟩
theorem box_r4 (hc : ∀ j u, b.cells[j]? = some u -> w.cell? ⟨g, j, none⟩ = some u) : Calls Tryz.prog 166 #[.pointer (some ⟨g, 0, none⟩)] w fun e w' => e = .returned (.bool (bRule b 4)) /\ Below w.heap.size w w' := by
 have c0 : w.cell? ⟨g, 5, none⟩ = some (.int .i64 b.load) := hc 5 _ rfl;have c1 : w.cell? ⟨g, 6, none⟩ = some (.int .i64 b.dis) := hc 6 _ rfl;have HR : Hid (bRule b 4 = (decide (0 <= b.load) && decide (b.load < b.dis) && decide (b.dis < 20))) := rfl;clear hc;by_cases h1 : 0 <= b.load
 . by_cases h2 : b.load < b.dis
   . have HE : Hid (bRule b 4 = decide (b.dis < 20)) := by unfold Hid; rw [HR.out]; simp [h1, h2]
     go_enter Tryz.func166, Tryz.ntmps166
     go_wp2
     go_ret
     exact ⟨by rw [HE.out]; rfl, Below.refl _ _⟩
   . have HE : Hid (bRule b 4 = false) := by unfold Hid; rw [HR.out]; simp [h2]
     go_enter Tryz.func166, Tryz.ntmps166
     go_wp2
     go_ret
     exact ⟨by rw [HE.out]; rfl, Below.refl _ _⟩
 . have HE : Hid (bRule b 4 = false) := by unfold Hid; rw [HR.out]; simp [h1]
   go_enter Tryz.func166, Tryz.ntmps166
   go_wp2
   go_ret
   exact ⟨by rw [HE.out]; rfl, Below.refl _ _⟩
theorem box_r5 (hc : ∀ j u, b.cells[j]? = some u -> w.cell? ⟨g, j, none⟩ = some u) : Calls Tryz.prog 167 #[.pointer (some ⟨g, 0, none⟩)] w fun e w' => e = .returned (.bool (bRule b 5)) /\ Below w.heap.size w w' := by
 have c0 : w.cell? ⟨g, 7, none⟩ = some (.int .u8 b.cls) := hc 7 _ rfl;clear hc
 go_enter Tryz.func167, Tryz.ntmps167
 go_wp2
 go_ret
 exact ⟨rfl, Below.refl _ _⟩
theorem box_r7 {fn : FuncId} {caps : Array Value} {p : Bool} (hcf : ∀ w args, (callFunc fn args).run Tryz.prog w = .ok (.enter fn args) w) (hcall : Calls Tryz.prog fn caps w fun e w' => e = .returned (.bool p) /\ Below w.heap.size w w') :
 Calls Tryz.prog 169 #[.func (.func fn) #[] caps] w fun e w' => e = .returned (.bool (!p)) /\ Below w.heap.size w w' := by
 have HC := Lib.hid hcall;clear hcall
 go_enter Tryz.func169, Tryz.ntmps169
 go_wp2_with (first | (refine (HC.out).mono ?_; rintro e w1 ⟨rfl, hb1⟩))
 go_ret
 exact ⟨rfl, hb1⟩
end
def ruleF : Nat -> FuncId
 | 0 => 159
 | 1 => 161
 | 2 => 163
 | 3 => 164
 | 4 => 166
 | _ => 167
def ruleV (g k : Nat) : Value := .func (.func (ruleF k)) #[] #[.pointer (some ⟨g, 0, none⟩)]
theorem rule_cf (k : Nat) (w : World) (args : Array Value) : (callFunc (ruleF k) args).run Tryz.prog w = .ok (.enter (ruleF k) args) w := by
 unfold ruleF;split <;> go_simp
theorem box_rule {b : Box} {g : Nat} {w : World} (k : Nat) (hk : k < 6) (hc : ∀ j u, b.cells[j]? = some u -> w.cell? ⟨g, j, none⟩ = some u) (hn : b.num.size <= 140737488351232) :
 Calls Tryz.prog (ruleF k) #[.pointer (some ⟨g, 0, none⟩)] w fun e w' => e = .returned (.bool (bRule b k)) /\ Below w.heap.size w w' := by
 have : k = 0 \/ k = 1 \/ k = 2 \/ k = 3 \/ k = 4 \/ k = 5 := by omega
 rcases this with rfl | rfl | rfl | rfl | rfl | rfl
 . exact box_r0 hc
 . exact box_r1 hc hn
 . exact box_r2 hc
 . exact box_r3 hc
 . exact box_r4 hc
 . exact box_r5 hc
theorem boxB_all {b : Box} (h : ∀ k, k < 6 -> bRule b k = true) : boxB b = true := by
 unfold boxB;rw [h 0 (by omega), h 1 (by omega), h 2 (by omega), h 3 (by omega), h 4 (by omega), h 5 (by omega)];rfl
theorem boxB_bad {b : Box} {k : Nat} (hk : k < 6) (h : bRule b k = false) : boxB b = false := by
 have : k = 0 \/ k = 1 \/ k = 2 \/ k = 3 \/ k = 4 \/ k = 5 := by omega
 unfold boxB;rcases this with rfl | rfl | rfl | rfl | rfl | rfl <;> rw [h] <;> simp
theorem box_r7_cf (w : World) (args : Array Value) : (callFunc 169 args).run Tryz.prog w = .ok (.enter 169 args) w := by
 go_simp
set_option maxRecDepth 100000 in
theorem rules_index (b : Box) (g h c : Nat) (w : World) (hn : b.num.size <= 140737488351232) (hb : ∀ w', From w w' -> ∀ j u, b.cells[j]? = some u -> w'.cell? ⟨g, j, none⟩ = some u)
 (hr : ∀ w', From w w' -> ∀ k, k < 6 -> w'.cell? ⟨h, k, none⟩ = some (ruleV g k)) :
 Calls Tryz.prog 188 #[.slice (some ⟨h, 0, none⟩) 6 c, .func (.func 169) #[] #[]] w fun e w' => (∃ i : Int, e = .returned (.int .i64 i) /\ decide (i ≥ 0) = !boxB b) /\ Below w.heap.size w w' := by
 have HB := Lib.hid hb;have HR := Lib.hid hr;have hcf := box_r7_cf;clear hb hr
 go_enter Tryz.func188, Tryz.ntmps188
 go_wp2
 go_loopw [5, 8] (fun _ i wr => ∃ k : Nat, k <= 6 /\ i = .int .i64 k /\ (∀ j, (h : j < k) -> bRule b j = true) /\ From w wr) (fun _ i _ => 6 - (intOf i).toNat)
 case atStart => exact ⟨0, by omega, rfl, by omega, Below.refl _ _⟩
 case round =>
  obtain ⟨k, hk, rfl, hj, hw⟩ := hrel;have HJ := Lib.hid hj;clear hj;by_cases hlt : k < 6
  . have HL : Hid ((loadVar 36 ⟨h, k, none⟩).run Tryz.prog wr = .ok (ruleV g k) wr) := run_load_cell Tryz.underlying36 rfl (HR.out wr hw k hlt);have HC := Lib.hid (box_r7 (rule_cf k) (box_rule k hlt (HB.out wr hw) hn))
    go_wp2_with (first
     | (refine wpList_ld rfl 36 _ rfl _ rfl _ HL.out ?_)
     | (go_at_call 169; refine (HC.out).mono ?_; rintro e w' ⟨rfl, hb3⟩))
    . have hf : bRule b k = false := by
       have h9 : (!bRule b k) = true := by assumption
       simpa using h9
      have HD := Lib.hid (boxB_bad hlt hf)
      go_ret
      exact ⟨⟨_, rfl, by rw [HD.out]; simp⟩, hw.trans (hb3.mono hw.size)⟩
    . have ht : bRule b k = true := by
       have h9 : (!bRule b k) = false := by assumption
       simpa using h9
      go_roundw
      case rel =>
       refine ⟨k + 1, by omega, by go_num, fun j h => ?_, hw.trans (hb3.mono hw.size)⟩;rcases Nat.lt_or_ge j k with h3 | h3
       . exact HJ.out j h3
       . obtain rfl : j = k := by omega
         exact ht
      case measure => simp [intOf]; omega
  . obtain rfl : k = 6 := by omega
    have HI := Lib.hid (boxB_all HJ.out)
    go_wp2
    go_ret
    exact ⟨⟨_, rfl, by rw [HI.out]; rfl⟩, hw⟩
theorem rules_contains (b : Box) (g h c : Nat) (w : World) (hn : b.num.size <= 140737488351232) (hb : ∀ w', From w w' -> ∀ j u, b.cells[j]? = some u -> w'.cell? ⟨g, j, none⟩ = some u)
 (hr : ∀ w', From w w' -> ∀ k, k < 6 -> w'.cell? ⟨h, k, none⟩ = some (ruleV g k)) :
 Calls Tryz.prog 168 #[.slice (some ⟨h, 0, none⟩) 6 c, .func (.func 169) #[] #[]] w fun e w' => e = .returned (.bool (!boxB b)) /\ Below w.heap.size w w' := by
 have HC := Lib.hid (rules_index b g h c w hn hb hr);clear hb hr
 go_enter Tryz.func168, Tryz.ntmps168
 go_wp2_with (go_at_call 188; refine (HC.out).mono ?_; rintro e w1 ⟨⟨i, rfl, hi⟩, hb1⟩; have HI := Lib.hid hi; clear hi)
 go_ret
 exact ⟨by rw [<- HI.out]; rfl, hb1⟩
abbrev boxW (b : Box) (w : World) : World := (w.alloc (Obj.cells #[.int .i64 b.id, .string b.num, .int .u8 b.size, .bool b.high, .int .i64 b.kilos, .int .i64 b.load, .int .i64 b.dis, .int .u8 b.cls, .bool b.reefer] 44)).alloc (Obj.cells #[.func (.func 159) #[] #[.pointer (some ⟨w.heap.size, 0, none⟩)], .func (.func 161) #[] #[.pointer (some ⟨w.heap.size, 0, none⟩)], .func (.func 163) #[] #[.pointer (some ⟨w.heap.size, 0, none⟩)], .func (.func 164) #[] #[.pointer (some ⟨w.heap.size, 0, none⟩)], .func (.func 166) #[] #[.pointer (some ⟨w.heap.size, 0, none⟩)], .func (.func 167) #[] #[.pointer (some ⟨w.heap.size, 0, none⟩)]] 36)
set_option maxHeartbeats 1000000 in
theorem box_right (b : Box) (w : World) (hn : b.num.size <= 140737488351232) :
 Calls Tryz.prog 129 #[b.val] w fun e w' => e = .returned (.bool (boxB b)) /\ Below w.heap.size w w' := by
 have HB : Hid (Below w.heap.size w (boxW b w) /\ ∀ w', From (boxW b w) w' -> (∀ j u, b.cells[j]? = some u -> w'.cell? ⟨w.heap.size, j, none⟩ = some u) /\ ∀ k, k < 6 -> w'.cell? ⟨w.heap.size + 1, k, none⟩ = some (ruleV w.heap.size k)) := by
  refine ⟨((Below.refl _ _).alloc (Nat.le_refl _) _).alloc (by simp) _, fun w' hb => ?_⟩;have hs : (boxW b w).heap.size = w.heap.size + 2 := size_alloc2 _ _ _;have k0 : (boxW b w).heap[w.heap.size]? = some (.cells #[.int .i64 b.id, .string b.num, .int .u8 b.size, .bool b.high, .int .i64 b.kilos, .int .i64 b.load, .int .i64 b.dis, .int .u8 b.cls, .bool b.reefer] 44 (0, 0)) := heap_alloc2_old w _ _;have k1 : (boxW b w).heap[w.heap.size + 1]? = some (.cells #[.func (.func 159) #[] #[.pointer (some ⟨w.heap.size, 0, none⟩)], .func (.func 161) #[] #[.pointer (some ⟨w.heap.size, 0, none⟩)], .func (.func 163) #[] #[.pointer (some ⟨w.heap.size, 0, none⟩)], .func (.func 164) #[] #[.pointer (some ⟨w.heap.size, 0, none⟩)], .func (.func 166) #[] #[.pointer (some ⟨w.heap.size, 0, none⟩)], .func (.func 167) #[] #[.pointer (some ⟨w.heap.size, 0, none⟩)]] 36 (0, 0)) := heap_alloc2_new w _ _;refine ⟨fun j u hu => ?_, fun k hk => ?_⟩
  . rw [cell_of_row w' w.heap.size j _ _ _ ((hb.block _ (by omega)).trans k0)];simpa [Box.cells] using hu
  . rw [cell_of_row w' (w.heap.size + 1) k _ _ _ ((hb.block _ (by omega)).trans k1)];have : k = 0 \/ k = 1 \/ k = 2 \/ k = 3 \/ k = 4 \/ k = 5 := by omega
    rcases this with rfl | rfl | rfl | rfl | rfl | rfl <;> rfl
 have HC := Lib.hid (rules_contains b w.heap.size (w.heap.size + 1) 6 (boxW b w) hn (fun w' h => (HB.out.2 w' h).1) (fun w' h => (HB.out.2 w' h).2))
 go_enter Tryz.func129, Tryz.ntmps129
 go_wp2_with (go_at_call 168; refine (HC.out).mono ?_; rintro e w1 ⟨rfl, hb1⟩)
 go_ret
 exact ⟨by simp, HB.out.1.trans (hb1.mono HB.out.1.size)⟩
def box0 : Box := ⟨0, noNum, 0, false, 0, 0, 0, 0, false⟩
def isId (id : Int) (b : Box) : Bool := decide (b.id = id)
def findV (l : List Box) (id : Int) : Box × Bool := match l.find? (isId id) with | some b => (b, true) | none => (box0, false)
def tallB (b : Box) : Int := if b.high then 2896 else 2591
def hAt (bs : List Box) (col half : Int) (x : Stowed) : Int := if x.col = col /\ (x.half = half \/ x.half = 0) then (if (findV bs x.box).2 then tallB (findV bs x.box).1 else 0) else 0
def heightF (bs : List Box) (l : List Stowed) (col half : Int) : Int := (l.map (hAt bs col half)).sum
theorem tallB_bound (b : Box) : 0 <= tallB b /\ tallB b <= 2896 := by unfold tallB; split <;> omega
theorem hAt_bound (bs : List Box) (col half : Int) (x : Stowed) : 0 <= hAt bs col half x /\ hAt bs col half x <= 2896 := by
 unfold hAt;split
 . split
   . exact tallB_bound _
   . omega
 . omega
theorem sum_bound (f : Stowed -> Int) (h : ∀ x, 0 <= f x /\ f x <= 2896) (l : List Stowed) : 0 <= (l.map f).sum /\ (l.map f).sum <= 2896 * (l.length : Int) := by
 induction l with
 | nil => simp
 | cons x l ih =>
  have := h x;simp only [List.map_cons, List.sum_cons, List.length_cons];omega
def slotOf (x : Stowed) : Slot := ⟨x.col, x.tier, x.half⟩
theorem idx_at {α : Type} {p : α -> Bool} {l : List α} {k : Nat} {d : α} (h0 : ∀ j, j < k -> p (l.getD j d) = false) (hk : k < l.length) (h : p (l.getD k d) = true) : idx p l = (k : Int) := by
 have e : ∀ j, (hj : j < l.length) -> l.getD j d = l[j] := fun j hj => by rw [List.getD_eq_getElem?_getD, List.getElem?_eq_getElem hj, Option.getD_some]
 exact idx_found hk (fun j h1 => by rw [<- e j (by omega)]; exact h0 j h1) (by rw [<- e k hk]; exact h)
theorem idx_no {α : Type} {p : α -> Bool} {l : List α} {k : Nat} {d : α} (h0 : ∀ j, j < k -> p (l.getD j d) = false) (hk : l.length <= k) : idx p l = -1 := by
 have e : ∀ j, (hj : j < l.length) -> l.getD j d = l[j] := fun j hj => by rw [List.getD_eq_getElem?_getD, List.getElem?_eq_getElem hj, Option.getD_some]
 exact idx_none fun j hj => by rw [<- e j hj]; exact h0 j (by omega)
theorem upto_more {p : Nat -> Prop} {k : Nat} (h : ∀ j, j < k -> p j) (hk : p k) : ∀ j, j < k + 1 -> p j := fun j hj => by
 rcases Nat.lt_or_ge j k with h1 | h1
 . exact h j h1
 . rw [show j = k by omega]; exact hk
def lpIdx {α : Type} (s : Nat) (d : α) (l : List α) (p : α -> Bool) : Lp where
 X := Nat
 ov k := [(s, .int .i64 fun _ => (k : Int))]
 oe _ := []
 I k := k <= l.length /\ ∀ j, j < k -> p (l.getD j d) = false
 μ k _ := l.length - k
 x0 := 0
 nx := some fun k => k + 1
def conIsS : Con := ⟨46, [.agg boxSg, .pto [.int .i64]], fun
 | [x0, x1] => (x0.toBox).bind fun b => (x1.toPI).bind fun id => some ⟨fun _ => True, .bool fun _ => isId (id ()) (b ())⟩
 | _ => none⟩
set_option maxRecDepth 100000 in
set_option maxHeartbeats 4000000 in
theorem conIsS_ok : ConOk Tryz.prog conIsS := by
 refine fnOk [] trivial Tryz.func46 (by kernel_rfl) fun avs res h hp => ?_;simp only [conIsS] at h;split at h
 case h_2 => cases h
 rename_i x0 x1;simp only [Option.bind_eq_some_iff, Option.some.injEq] at h;obtain ⟨b, e0, id, e1, rfl⟩ := h;obtain rfl := AV.toBox_ e0;obtain rfl := AV.toPI_ e1;clear e0 e1;obtain ⟨b, rfl⟩ := eta (α := Box) b;obtain ⟨id, rfl⟩ := eta (α := Int) id;refine ⟨[], ?_⟩
 conv => arg 1; cbv
 simp (maxSteps := 4000000) only [P_vc, P_br, P_and, P_fin, V_nil, V_one, V_cons, T_self, castK, succK, Int.toNat_natCast, predK, decide_eq_true_eq, decide_eq_false_iff_not, List.map_cons, List.map_nil, cond_true, cond_false];rfl
def conIdxS : Con := ⟨45, [.sl .box, .fn [.pto [.int .i64]]], fun
 | [x0, x1] => (x0.toBoxes).bind fun l => (x1.toFPI 46).bind fun id => some ⟨fun _ => (l ()).length <= 1000000000000, .int .i64 fun _ => idx (isId (id ())) (l ())⟩
 | _ => none⟩
set_option maxRecDepth 100000 in
set_option maxHeartbeats 4000000 in
theorem conIdxS_ok : ConOk Tryz.prog conIdxS := by
 refine fnOk [conIsS] ⟨conIsS_ok, trivial⟩ Tryz.func45 (by kernel_rfl) fun avs res h hp => ?_;simp only [conIdxS] at h;split at h
 case h_2 => cases h
 rename_i x0 x1;simp only [Option.bind_eq_some_iff, Option.some.injEq] at h;obtain ⟨l, e0, id, e1, rfl⟩ := h;obtain rfl := AV.toBoxes_ e0;obtain rfl := AV.toFPI_ e1;clear e0 e1;obtain ⟨l, rfl⟩ := eta (α := List Box) l;obtain ⟨id, rfl⟩ := eta (α := Int) id;have hl : l.length <= 1000000000000 := hp;refine ⟨[(2, lpIdx 8 Tc.box.dflt l (isId id))], ?_⟩
 conv => arg 1; cbv
 refine ⟨?_, fun (k : Nat) hk => ?_⟩
 . simp (maxSteps := 4000000) only [P_vc, P_br, P_and, P_fin, V_nil, V_one, V_cons, T_self, castK, succK, Int.toNat_natCast, predK, decide_eq_true_eq, decide_eq_false_iff_not, List.map_cons, List.map_nil, cond_true, cond_false];simp
 have hZhk1 : k <= l.length /\ ∀ j, j < k -> (isId id) (l.getD j Tc.box.dflt) = false := hk;have hk1 := hZhk1.1;have hk2 := hZhk1.2
 conv => arg 1; cbv
 simp (maxSteps := 4000000) only [P_vc, P_br, P_and, P_fin, V_nil, V_one, V_cons, T_self, castK, succK, Int.toNat_natCast, predK, decide_eq_true_eq, decide_eq_false_iff_not, List.map_cons, List.map_nil, cond_true, cond_false];refine ⟨fun g => ?_, fun g => (idx_no hk2 (by omega)).symm⟩;have hlt : k < l.length := by omega
 exact ⟨by omega, trivial, fun h => (idx_at hk2 hlt h).symm, fun h => ⟨⟨by omega, by omega⟩, ⟨⟨hlt, upto_more hk2 h⟩, by omega⟩, by omega⟩⟩
theorem find_idx (l : List Box) (id : Int) : (idx (isId id) l < 0 /\ findV l id = (box0, false)) \/ ∃ k : Nat, idx (isId id) l = (k : Int) /\ k < l.length /\ findV l id = (l.getD k Tc.box.dflt, true) := by
 rcases idx_cases (isId id) l with ⟨h1, h2⟩ | ⟨k, hk, h1, h2, h3⟩
 . left;refine ⟨by omega, ?_⟩;unfold findV;rw [List.find?_eq_none.2 fun x hx => by rw [h2 x hx]; simp]
 . right;refine ⟨k, h1, hk, ?_⟩;unfold findV;rw [h3, List.getD_eq_getElem?_getD, List.getElem?_eq_getElem hk];rfl
def conStowFind : Con := ⟨17, [.sl .box, .int .i64], fun
 | [x0, x1] => (x0.toBoxes).bind fun l => (x1.toI).bind fun id => some ⟨fun _ => (l ()).length <= 1000000000000, .tup [.agg (boxL fun _ => (findV (l ()) (id ())).1), .bool fun _ => (findV (l ()) (id ())).2]⟩
 | _ => none⟩
set_option maxRecDepth 100000 in
set_option maxHeartbeats 4000000 in
theorem conStowFind_ok : ConOk Tryz.prog conStowFind := by
 refine fnOk [conIdxS] ⟨conIdxS_ok, trivial⟩ Tryz.func17 (by kernel_rfl) fun avs res h hp => ?_;simp only [conStowFind] at h;split at h
 case h_2 => cases h
 rename_i x0 x1;simp only [Option.bind_eq_some_iff, Option.some.injEq] at h;obtain ⟨l, e0, id, e1, rfl⟩ := h;obtain rfl := AV.toBoxes_ e0;obtain rfl := AV.toI_ e1;clear e0 e1;obtain ⟨l, rfl⟩ := eta (α := List Box) l;obtain ⟨id, rfl⟩ := eta (α := Int) id;have hl : l.length <= 1000000000000 := hp;refine ⟨[], ?_⟩
 conv => arg 1; cbv
 simp (maxSteps := 4000000) only [P_vc, P_br, P_and, P_fin, V_nil, V_one, V_cons, T_self, castK, succK, Int.toNat_natCast, predK, decide_eq_true_eq, decide_eq_false_iff_not, List.map_cons, List.map_nil, cond_true, cond_false];rcases find_idx l id with ⟨h1, h2⟩ | ⟨k, h1, h2, h3⟩
 . simp only [h2];refine ⟨hl, fun _ => ?_, fun g => absurd h1 g⟩;simp [box0, noNum, noText]
 . simp only [h1, h3, Int.toNat_natCast];refine ⟨hl, fun g => by omega, fun g => ?_⟩;simp;omega
def conIsB : Con := ⟨132, [.agg boxSg, .pto [.int .i64]], fun
 | [x0, x1] => (x0.toBox).bind fun b => (x1.toPI).bind fun id => some ⟨fun _ => True, .bool fun _ => isId (id ()) (b ())⟩
 | _ => none⟩
set_option maxRecDepth 100000 in
set_option maxHeartbeats 4000000 in
theorem conIsB_ok : ConOk Tryz.prog conIsB := by
 refine fnOk [] trivial Tryz.func132 (by kernel_rfl) fun avs res h hp => ?_;simp only [conIsB] at h;split at h
 case h_2 => cases h
 rename_i x0 x1;simp only [Option.bind_eq_some_iff, Option.some.injEq] at h;obtain ⟨b, e0, id, e1, rfl⟩ := h;obtain rfl := AV.toBox_ e0;obtain rfl := AV.toPI_ e1;clear e0 e1;obtain ⟨b, rfl⟩ := eta (α := Box) b;obtain ⟨id, rfl⟩ := eta (α := Int) id;refine ⟨[], ?_⟩
 conv => arg 1; cbv
 simp (maxSteps := 4000000) only [P_vc, P_br, P_and, P_fin, V_nil, V_one, V_cons, T_self, castK, succK, Int.toNat_natCast, predK, decide_eq_true_eq, decide_eq_false_iff_not, List.map_cons, List.map_nil, cond_true, cond_false];rfl
def conIdxB : Con := ⟨45, [.sl .box, .fn [.pto [.int .i64]]], fun
 | [x0, x1] => (x0.toBoxes).bind fun l => (x1.toFPI 132).bind fun id => some ⟨fun _ => (l ()).length <= 1000000000000, .int .i64 fun _ => idx (isId (id ())) (l ())⟩
 | _ => none⟩
set_option maxRecDepth 100000 in
set_option maxHeartbeats 4000000 in
theorem conIdxB_ok : ConOk Tryz.prog conIdxB := by
 refine fnOk [conIsB] ⟨conIsB_ok, trivial⟩ Tryz.func45 (by kernel_rfl) fun avs res h hp => ?_;simp only [conIdxB] at h;split at h
 case h_2 => cases h
 rename_i x0 x1;simp only [Option.bind_eq_some_iff, Option.some.injEq] at h;obtain ⟨l, e0, id, e1, rfl⟩ := h;obtain rfl := AV.toBoxes_ e0;obtain rfl := AV.toFPI_ e1;clear e0 e1;obtain ⟨l, rfl⟩ := eta (α := List Box) l;obtain ⟨id, rfl⟩ := eta (α := Int) id;have hl : l.length <= 1000000000000 := hp;refine ⟨[(2, lpIdx 8 Tc.box.dflt l (isId id))], ?_⟩
 conv => arg 1; cbv
 refine ⟨?_, fun (k : Nat) hk => ?_⟩
 . simp (maxSteps := 4000000) only [P_vc, P_br, P_and, P_fin, V_nil, V_one, V_cons, T_self, castK, succK, Int.toNat_natCast, predK, decide_eq_true_eq, decide_eq_false_iff_not, List.map_cons, List.map_nil, cond_true, cond_false];simp
 have hZhk1 : k <= l.length /\ ∀ j, j < k -> (isId id) (l.getD j Tc.box.dflt) = false := hk;have hk1 := hZhk1.1;have hk2 := hZhk1.2
 conv => arg 1; cbv
 simp (maxSteps := 4000000) only [P_vc, P_br, P_and, P_fin, V_nil, V_one, V_cons, T_self, castK, succK, Int.toNat_natCast, predK, decide_eq_true_eq, decide_eq_false_iff_not, List.map_cons, List.map_nil, cond_true, cond_false];refine ⟨fun g => ?_, fun g => (idx_no hk2 (by omega)).symm⟩;have hlt : k < l.length := by omega
 exact ⟨by omega, trivial, fun h => (idx_at hk2 hlt h).symm, fun h => ⟨⟨by omega, by omega⟩, ⟨⟨hlt, upto_more hk2 h⟩, by omega⟩, by omega⟩⟩
def conBoxFind : Con := ⟨88, [.sl .box, .int .i64], fun
 | [x0, x1] => (x0.toBoxes).bind fun l => (x1.toI).bind fun id => some ⟨fun _ => (l ()).length <= 1000000000000, .tup [.agg (boxL fun _ => (findV (l ()) (id ())).1), .bool fun _ => (findV (l ()) (id ())).2]⟩
 | _ => none⟩
set_option maxRecDepth 100000 in
set_option maxHeartbeats 4000000 in
theorem conBoxFind_ok : ConOk Tryz.prog conBoxFind := by
 refine fnOk [conIdxB] ⟨conIdxB_ok, trivial⟩ Tryz.func88 (by kernel_rfl) fun avs res h hp => ?_;simp only [conBoxFind] at h;split at h
 case h_2 => cases h
 rename_i x0 x1;simp only [Option.bind_eq_some_iff, Option.some.injEq] at h;obtain ⟨l, e0, id, e1, rfl⟩ := h;obtain rfl := AV.toBoxes_ e0;obtain rfl := AV.toI_ e1;clear e0 e1;obtain ⟨l, rfl⟩ := eta (α := List Box) l;obtain ⟨id, rfl⟩ := eta (α := Int) id;have hl : l.length <= 1000000000000 := hp;refine ⟨[], ?_⟩
 conv => arg 1; cbv
 simp (maxSteps := 4000000) only [P_vc, P_br, P_and, P_fin, V_nil, V_one, V_cons, T_self, castK, succK, Int.toNat_natCast, predK, decide_eq_true_eq, decide_eq_false_iff_not, List.map_cons, List.map_nil, cond_true, cond_false];rcases find_idx l id with ⟨h1, h2⟩ | ⟨k, h1, h2, h3⟩
 . simp only [h2];refine ⟨hl, fun _ => ?_, fun g => absurd h1 g⟩;simp [box0, noNum, noText]
 . simp only [h1, h3, Int.toNat_natCast];refine ⟨hl, fun g => by omega, fun g => ?_⟩;simp;omega
def conTall : Con := ⟨186, [.agg boxSg], fun
 | [x0] => (x0.toBox).bind fun b => some ⟨fun _ => True, .int .i64 fun _ => tallB (b ())⟩
 | _ => none⟩
set_option maxRecDepth 100000 in
set_option maxHeartbeats 4000000 in
theorem conTall_ok : ConOk Tryz.prog conTall := by
 refine fnOk [] trivial Tryz.func186 (by kernel_rfl) fun avs res h hp => ?_;simp only [conTall] at h;split at h
 case h_2 => cases h
 rename_i x0;simp only [Option.bind_eq_some_iff, Option.some.injEq] at h;obtain ⟨b, e0, rfl⟩ := h;obtain rfl := AV.toBox_ e0;clear e0;obtain ⟨b, rfl⟩ := eta (α := Box) b;refine ⟨[], ?_⟩
 conv => arg 1; cbv
 simp (maxSteps := 4000000) only [P_vc, P_br, P_and, P_fin, V_nil, V_one, V_cons, T_self, castK, succK, Int.toNat_natCast, predK, decide_eq_true_eq, decide_eq_false_iff_not, List.map_cons, List.map_nil, cond_true, cond_false, true_and, and_true, eq_self];refine ⟨fun g => ?_, fun g => ?_⟩ <;> unfold tallB <;> rw [g] <;> rfl
def conBoxHeight : Con := ⟨89, [.agg boxSg], fun
 | [x0] => (x0.toBox).bind fun b => some ⟨fun _ => True, .int .i64 fun _ => tallB (b ())⟩
 | _ => none⟩
set_option maxRecDepth 100000 in
set_option maxHeartbeats 4000000 in
theorem conBoxHeight_ok : ConOk Tryz.prog conBoxHeight := by
 refine fnOk [] trivial Tryz.func89 (by kernel_rfl) fun avs res h hp => ?_;simp only [conBoxHeight] at h;split at h
 case h_2 => cases h
 rename_i x0;simp only [Option.bind_eq_some_iff, Option.some.injEq] at h;obtain ⟨b, e0, rfl⟩ := h;obtain rfl := AV.toBox_ e0;clear e0;obtain ⟨b, rfl⟩ := eta (α := Box) b;refine ⟨[], ?_⟩
 conv => arg 1; cbv
 simp (maxSteps := 4000000) only [P_vc, P_br, P_and, P_fin, V_nil, V_one, V_cons, T_self, castK, succK, Int.toNat_natCast, predK, decide_eq_true_eq, decide_eq_false_iff_not, List.map_cons, List.map_nil, cond_true, cond_false, true_and, and_true, eq_self];refine ⟨fun g => ?_, fun g => ?_⟩ <;> unfold tallB <;> rw [g] <;> rfl
/- slots -/
theorem idx_any {α : Type} (p : α -> Bool) (l : List α) : decide (0 <= idx p l) = l.any p := by
 rcases idx_cases p l with ⟨h1, h2⟩ | ⟨k, hk, h1, h2, _⟩
 . rw [decide_eq_false (by omega)];symm;rw [List.any_eq_false];exact fun x hx => by rw [h2 x hx]; simp
 . rw [decide_eq_true (by omega)];symm;rw [List.any_eq_true];exact ⟨_, List.getElem_mem hk, h2⟩
def sloIs (x y : Slot) : Bool := decide (x = y)
def conIdxSlo : Con := ⟨185, [.sl .slot, .agg sloSg], fun
 | [x0, x1] => (x0.toSlos).bind fun l => (x1.toSlo).bind fun x => some ⟨fun _ => (l ()).length <= 1000000000000, .int .i64 fun _ => idx (sloIs (x ())) (l ())⟩
 | _ => none⟩
set_option maxRecDepth 100000 in
set_option maxHeartbeats 4000000 in
theorem conIdxSlo_ok : ConOk Tryz.prog conIdxSlo := by
 refine fnOk [] trivial Tryz.func185 (by kernel_rfl) fun avs res h hp => ?_;simp only [conIdxSlo] at h;split at h
 case h_2 => cases h
 rename_i x0 x1;simp only [Option.bind_eq_some_iff, Option.some.injEq] at h;obtain ⟨l, e0, x, e1, rfl⟩ := h;obtain rfl := AV.toSlos_ e0;obtain rfl := AV.toSlo_ e1;clear e0 e1;obtain ⟨l, rfl⟩ := eta (α := List Slot) l;obtain ⟨x, rfl⟩ := eta (α := Slot) x;have hl : l.length <= 1000000000000 := hp;refine ⟨[(2, lpIdx 8 Tc.slot.dflt l (sloIs x))], ?_⟩
 conv => arg 1; cbv
 refine ⟨?_, fun (k : Nat) hk => ?_⟩
 . simp (maxSteps := 4000000) only [P_vc, P_br, P_and, P_fin, V_nil, V_one, V_cons, T_self, castK, succK, Int.toNat_natCast, predK, decide_eq_true_eq, decide_eq_false_iff_not, List.map_cons, List.map_nil, cond_true, cond_false];simp
 have hZhk1 : k <= l.length /\ ∀ j, j < k -> (sloIs x) (l.getD j Tc.slot.dflt) = false := hk;have hk1 := hZhk1.1;have hk2 := hZhk1.2
 conv => arg 1; cbv
 simp (maxSteps := 4000000) only [P_vc, P_br, P_and, P_fin, V_nil, V_one, V_cons, T_self, castK, succK, Int.toNat_natCast, predK, decide_eq_true_eq, decide_eq_false_iff_not, List.map_cons, List.map_nil, cond_true, cond_false];have hky : ∀ y : Slot, ([Kx.i .i64 x.col, Kx.i .i64 x.tier, Kx.i .u8 x.half] = [Kx.i .i64 y.col, Kx.i .i64 y.tier, Kx.i .u8 y.half]) = (x = y) := fun y => by
  obtain ⟨a, b, c⟩ := x;obtain ⟨a2, b2, c2⟩ := y;simp
 refine ⟨fun g => ?_, fun g => (idx_no hk2 (by omega)).symm⟩;have hlt : k < l.length := by omega
 simp only [hky];exact ⟨⟨by omega, by omega⟩, fun h => (idx_at hk2 hlt (decide_eq_true h)).symm, fun h => ⟨by simp only [inI64]; omega, ⟨⟨hlt, upto_more hk2 (decide_eq_false h)⟩, by omega⟩, by omega⟩⟩
def conHasSlo : Con := ⟨156, [.sl .slot, .agg sloSg], fun
 | [x0, x1] => (x0.toSlos).bind fun l => (x1.toSlo).bind fun x => some ⟨fun _ => (l ()).length <= 1000000000000, .bool fun _ => (l ()).any (sloIs (x ()))⟩
 | _ => none⟩
set_option maxRecDepth 100000 in
set_option maxHeartbeats 4000000 in
theorem conHasSlo_ok : ConOk Tryz.prog conHasSlo := by
 refine fnOk [conIdxSlo] ⟨conIdxSlo_ok, trivial⟩ Tryz.func156 (by kernel_rfl) fun avs res h hp => ?_;simp only [conHasSlo] at h;split at h
 case h_2 => cases h
 rename_i x0 x1;simp only [Option.bind_eq_some_iff, Option.some.injEq] at h;obtain ⟨l, e0, x, e1, rfl⟩ := h;obtain rfl := AV.toSlos_ e0;obtain rfl := AV.toSlo_ e1;clear e0 e1;obtain ⟨l, rfl⟩ := eta (α := List Slot) l;obtain ⟨x, rfl⟩ := eta (α := Slot) x;have hl : l.length <= 1000000000000 := hp;refine ⟨[], ?_⟩
 conv => arg 1; cbv
 simp (maxSteps := 4000000) only [P_vc, P_br, P_and, P_fin, V_nil, V_one, V_cons, T_self, castK, succK, Int.toNat_natCast, predK, decide_eq_true_eq, decide_eq_false_iff_not, List.map_cons, List.map_nil, cond_true, cond_false, true_and, and_true, eq_self];exact ⟨hl, idx_any (sloIs x) l⟩
def AV.toPSlos : AV -> Option (Unit -> List Slot)
 | .pto [.sl false .slot l] 0 => some l
 | _ => none
theorem AV.toPSlos_ {x : AV} {n : Unit -> List Slot} (h : x.toPSlos = some n) : x = .pto [.sl false .slot n] 0 := by
 unfold AV.toPSlos at h;split at h <;> first | (cases h; rfl) | cases h
def AV.toPSlo : AV -> Option (Unit -> Slot)
 | .pto [.int .i64 a, .int .i64 b, .int .u8 c] 0 => some fun _ => ⟨a (), b (), c ()⟩
 | _ => none
theorem AV.toPSlo_ {x : AV} {n : Unit -> Slot} (h : x.toPSlo = some n) : x = .pto [.int .i64 fun _ => (n ()).col, .int .i64 fun _ => (n ()).tier, .int .u8 fun _ => (n ()).half] 0 := by
 unfold AV.toPSlo at h;split at h <;> first | (cases h; rfl) | cases h
def conHeld1 : Con := ⟨155, [.int .u8, .pto [.sl .slot], .pto sloSg], fun
 | [x0, x1, x2] => (x0.toU8).bind fun h => (x1.toPSlos).bind fun l => (x2.toPSlo).bind fun x => some ⟨fun _ => (l ()).length <= 1000000000000 /\ inI64 ((x ()).tier - 1), .bool fun _ => belowB (x ()) (l ()) (h ())⟩
 | _ => none⟩
set_option maxRecDepth 100000 in
set_option maxHeartbeats 4000000 in
theorem conHeld1_ok : ConOk Tryz.prog conHeld1 := by
 refine fnOk [conHasSlo] ⟨conHasSlo_ok, trivial⟩ Tryz.func155 (by kernel_rfl) fun avs res h hp => ?_;simp only [conHeld1] at h;split at h
 case h_2 => cases h
 rename_i x0 x1 x2;simp only [Option.bind_eq_some_iff, Option.some.injEq] at h;obtain ⟨h, e0, l, e1, x, e2, rfl⟩ := h;obtain rfl := AV.toU8_ e0;obtain rfl := AV.toPSlos_ e1;obtain rfl := AV.toPSlo_ e2;clear e0 e1 e2;obtain ⟨h, rfl⟩ := eta (α := Int) h;obtain ⟨l, rfl⟩ := eta (α := List Slot) l;obtain ⟨x, rfl⟩ := eta (α := Slot) x;have hl : l.length <= 1000000000000 /\ inI64 (x.tier - 1) := hp;refine ⟨[], ?_⟩
 conv => arg 1; cbv
 simp (maxSteps := 4000000) only [P_vc, P_br, P_and, P_fin, V_nil, V_one, V_cons, T_self, castK, succK, Int.toNat_natCast, predK, decide_eq_true_eq, decide_eq_false_iff_not, List.map_cons, List.map_nil, cond_true, cond_false, true_and, and_true, eq_self];exact ⟨hl.2, hl.1, rfl⟩
def conHeld : Con := ⟨126, [.agg sloSg, .sl .slot], fun
 | [x0, x1] => (x0.toSlo).bind fun x => (x1.toSlos).bind fun l => some ⟨fun _ => (l ()).length <= 1000000000000 /\ (x ()).tier <= 1000000, .bool fun _ => heldB (x ()) (l ())⟩
 | _ => none⟩
set_option maxRecDepth 100000 in
set_option maxHeartbeats 4000000 in
theorem conHeld_ok : ConOk Tryz.prog conHeld := by
 refine fnOk [conHeld1] ⟨conHeld1_ok, trivial⟩ Tryz.func126 (by kernel_rfl) fun avs res h hp => ?_;simp only [conHeld] at h;split at h
 case h_2 => cases h
 rename_i x0 x1;simp only [Option.bind_eq_some_iff, Option.some.injEq] at h;obtain ⟨x, e0, l, e1, rfl⟩ := h;obtain rfl := AV.toSlo_ e0;obtain rfl := AV.toSlos_ e1;clear e0 e1;obtain ⟨x, rfl⟩ := eta (α := Slot) x;obtain ⟨l, rfl⟩ := eta (α := List Slot) l;have hl : l.length <= 1000000000000 /\ x.tier <= 1000000 := hp;refine ⟨[], ?_⟩
 conv => arg 1; cbv
 simp (maxSteps := 4000000) only [P_vc, P_br, P_and, P_fin, V_nil, V_one, V_cons, T_self, castK, succK, Int.toNat_natCast, predK, decide_eq_true_eq, decide_eq_false_iff_not, List.map_cons, List.map_nil, cond_true, cond_false, true_and, and_true, eq_self];refine ⟨fun h => by unfold heldB; rw [if_pos h], fun h => ?_⟩;have e : heldB x l = (belowB x l x.half || (decide (x.half = 0) && (belowB x l 1 && belowB x l 2))) := if_neg h;have hi : inI64 (x.tier - 1) := by simp only [inI64]; omega
 have ex : (⟨x.col, x.tier, x.half⟩ : Slot) = x := rfl;simp only [ex, e];refine ⟨⟨hl.1, hi⟩, fun h1 => by simp [h1], fun h1 => ⟨fun h0 => ⟨⟨hl.1, hi⟩, fun h2 => ⟨⟨hl.1, hi⟩, ?_⟩, fun h2 => ?_⟩, fun h0 => by simp [h1, h0]⟩⟩ <;>
 . rw [h0] at h1;simp [h0, h1, h2]
def conShares : Con := ⟨157, [.int .u8, .int .u8], fun
 | [x0, x1] => (x0.toU8).bind fun a => (x1.toU8).bind fun b => some ⟨fun _ => True, .bool fun _ => sharesB (a ()) (b ())⟩
 | _ => none⟩
set_option maxRecDepth 100000 in
set_option maxHeartbeats 4000000 in
theorem conShares_ok : ConOk Tryz.prog conShares := by
 refine fnOk [] trivial Tryz.func157 (by kernel_rfl) fun avs res h hp => ?_;simp only [conShares] at h;split at h
 case h_2 => cases h
 rename_i x0 x1;simp only [Option.bind_eq_some_iff, Option.some.injEq] at h;obtain ⟨a, e0, b, e1, rfl⟩ := h;obtain rfl := AV.toU8_ e0;obtain rfl := AV.toU8_ e1;clear e0 e1;obtain ⟨a, rfl⟩ := eta (α := Int) a;obtain ⟨b, rfl⟩ := eta (α := Int) b;refine ⟨[], ?_⟩
 conv => arg 1; cbv
 simp (maxSteps := 4000000) only [P_vc, P_br, P_and, P_fin, V_nil, V_one, V_cons, T_self, castK, succK, Int.toNat_natCast, predK, decide_eq_true_eq, decide_eq_false_iff_not, List.map_cons, List.map_nil, cond_true, cond_false, true_and, and_true, eq_self];exact ⟨fun h => by simp [sharesB, h], fun h => ⟨fun h0 => by simp [sharesB, h0], fun h0 => by simp [sharesB, h, h0]⟩⟩
def conMeet : Con := ⟨127, [.agg sloSg, .agg sloSg], fun
 | [x0, x1] => (x0.toSlo).bind fun x => (x1.toSlo).bind fun y => some ⟨fun _ => True, .bool fun _ => meetB (x ()) (y ())⟩
 | _ => none⟩
set_option maxRecDepth 100000 in
set_option maxHeartbeats 4000000 in
theorem conMeet_ok : ConOk Tryz.prog conMeet := by
 refine fnOk [conShares] ⟨conShares_ok, trivial⟩ Tryz.func127 (by kernel_rfl) fun avs res h hp => ?_;simp only [conMeet] at h;split at h
 case h_2 => cases h
 rename_i x0 x1;simp only [Option.bind_eq_some_iff, Option.some.injEq] at h;obtain ⟨x, e0, y, e1, rfl⟩ := h;obtain rfl := AV.toSlo_ e0;obtain rfl := AV.toSlo_ e1;clear e0 e1;obtain ⟨x, rfl⟩ := eta (α := Slot) x;obtain ⟨y, rfl⟩ := eta (α := Slot) y;refine ⟨[], ?_⟩
 conv => arg 1; cbv
 simp (maxSteps := 4000000) only [P_vc, P_br, P_and, P_fin, V_nil, V_one, V_cons, T_self, castK, succK, Int.toNat_natCast, predK, decide_eq_true_eq, decide_eq_false_iff_not, List.map_cons, List.map_nil, cond_true, cond_false, true_and, and_true, eq_self];exact ⟨fun h1 => ⟨fun h2 => by simp [meetB, h1, h2], fun h2 => by simp [meetB, h2]⟩, fun h1 => by simp [meetB, h1]⟩
def lpHgt (bs : List Box) (l : List Stowed) (c h : Int) : Lp where
 X := Nat
 ov k := [(16, .int .i64 fun _ => (k : Int)), (9, .int .i64 fun _ => heightF bs (l.take k) c h)]
 oe _ := []
 I k := k <= l.length
 μ k _ := l.length - k
 x0 := 0
 nx := some fun k => k + 1
def conStowHeight : Con := ⟨158, [.sl .box, .sl .stowed, .int .i64, .int .u8], fun
 | [x0, x1, x2, x3] => (x0.toBoxes).bind fun bs => (x1.toStos).bind fun l => (x2.toI).bind fun col => (x3.toU8).bind fun half => some ⟨fun _ => (bs ()).length <= 1000000000000 /\ (l ()).length <= 1000000, .int .i64 fun _ => heightF (bs ()) (l ()) (col ()) (half ())⟩
 | _ => none⟩
set_option maxRecDepth 100000 in
set_option maxHeartbeats 4000000 in
theorem conStowHeight_ok : ConOk Tryz.prog conStowHeight := by
 refine fnOk [conStowFind, conTall] ⟨conStowFind_ok, conTall_ok, trivial⟩ Tryz.func158 (by kernel_rfl) fun avs res h hp => ?_;simp only [conStowHeight] at h;split at h
 case h_2 => cases h
 rename_i x0 x1 x2 x3;simp only [Option.bind_eq_some_iff, Option.some.injEq] at h;obtain ⟨bs, e0, l, e1, col, e2, half, e3, rfl⟩ := h;obtain rfl := AV.toBoxes_ e0;obtain rfl := AV.toStos_ e1;obtain rfl := AV.toI_ e2;obtain rfl := AV.toU8_ e3;clear e0 e1 e2 e3;obtain ⟨bs, rfl⟩ := eta (α := List Box) bs;obtain ⟨l, rfl⟩ := eta (α := List Stowed) l;obtain ⟨col, rfl⟩ := eta (α := Int) col;obtain ⟨half, rfl⟩ := eta (α := Int) half;have hl : bs.length <= 1000000000000 /\ l.length <= 1000000 := hp;refine ⟨[(3, lpHgt bs l col half)], ?_⟩
 conv => arg 1; cbv
 refine ⟨?_, fun (k : Nat) hk => ?_⟩
 . simp (maxSteps := 4000000) only [P_vc, P_br, P_and, P_fin, V_nil, V_one, V_cons, T_self, castK, succK, Int.toNat_natCast, predK, decide_eq_true_eq, decide_eq_false_iff_not, List.map_cons, List.map_nil, cond_true, cond_false];simp [heightF]
 have hk1 : k <= l.length := hk
 conv => arg 1; cbv
 simp (maxSteps := 4000000) only [P_vc, P_br, P_and, P_fin, V_nil, V_one, V_cons, T_self, castK, succK, Int.toNat_natCast, predK, decide_eq_true_eq, decide_eq_false_iff_not, List.map_cons, List.map_nil, cond_true, cond_false, true_and, and_true, eq_self];refine ⟨fun g => ?_, fun g => by rw [List.take_of_length_le (by omega)]⟩;have hlt : k < l.length := by omega
 have hst : heightF bs (l.take (k + 1)) col half = heightF bs (l.take k) col half + hAt bs col half (l.getD k Tc.stowed.dflt) := by
  unfold heightF;rw [show l.take (k + 1) = l.take k ++ [l[k]] from by rw [List.take_add_one, List.getElem?_eq_getElem hlt]; rfl, List.map_append, List.sum_append, List.getD_eq_getElem?_getD, List.getElem?_eq_getElem hlt];simp only [List.map_cons, List.map_nil, List.sum_cons, List.sum_nil, Option.getD_some];omega
 have hb : 0 <= heightF bs (l.take k) col half /\ heightF bs (l.take k) col half <= 2896 * ((l.take k).length : Int) := sum_bound _ (hAt_bound bs col half) _;rw [List.length_take] at hb;have htb := tallB_bound (findV bs (l.getD k Tc.stowed.dflt).box).1;have et : ∀ b : Box, tallB (⟨b.id, b.num, b.size, b.high, b.kilos, b.load, b.dis, b.cls, b.reefer⟩ : Box) = tallB b := fun _ => rfl;simp only [et, hst];unfold hAt;generalize heightF bs (l.take k) col half = H at *
 generalize tallB (findV bs (l.getD k Tc.stowed.dflt).box).1 = T at *
 have h1 : ∀ P, P -> inI64 ((k : Int) + 1) /\ (k + 1 <= l.length /\ l.length - (k + 1) < l.length - k) /\ (k : Int) + 1 = ((k + 1 : Nat) : Int) /\ P := fun P h => ⟨by simp only [inI64]; omega, by omega, by omega, h⟩
 have h2 : inI64 (H + T) := by simp only [inI64]; omega
 clear hst et hb htb;generalize l.getD k Tc.stowed.dflt = y;refine ⟨by omega, fun c => ⟨fun c1 => ⟨hl.1, fun c2 => ⟨h2, h1 _ ?_⟩, fun c2 => h1 _ ?_⟩, fun c1 => ⟨fun c3 => ⟨hl.1, fun c2 => ⟨h2, h1 _ ?_⟩, fun c2 => h1 _ ?_⟩, fun c3 => h1 _ ?_⟩⟩, fun c => h1 _ ?_⟩ <;> simp [*]
open Go.Maps Go.WideMaps
def seenN (l : List Box) (k : Nat) (s : ByteArray) : Bool := (l.take k).any (fun b => !decide (b.num = noNum) && decide (b.num = s))
def lastId (l : List Box) (k : Nat) : Int := if k = 0 then 0 else (l[k - 1]?.map Box.id).getD 0
def boxBad (l : List Box) (k : Nat) : Bool :=
 match l[k]? with
 | some b => seenN l k b.num || decide (b.id <= lastId l k) || !boxB b
 | none => false
def boxValid (l : List Box) : Int × Int :=
 if l.length > 2000 then (-1, 5) else
 match (List.range l.length).find? (boxBad l) with
 | some k => (k, 60)
 | none => (-1, 0)
theorem boxValid_found {l : List Box} {k : Nat} (hl : l.length <= 2000) (hk : k < l.length) (hj : ∀ j, j < k -> boxBad l j = false) (h : boxBad l k = true) : boxValid l = ((k : Int), 60) := by
 have : (List.range l.length).find? (boxBad l) = some k := by
  rw [List.find?_range_eq_some];exact ⟨h, by simpa using hk, fun j hjk => by simp [hj j hjk]⟩
 unfold boxValid;rw [if_neg (by omega), this]
theorem boxValid_none {l : List Box} (hl : l.length <= 2000) (hj : ∀ j, j < l.length -> boxBad l j = false) : boxValid l = (-1, 0) := by
 have : (List.range l.length).find? (boxBad l) = none := by
  rw [List.find?_eq_none];intro x hx;rw [hj x (by simpa using hx)];simp
 unfold boxValid;rw [if_neg (by omega), this]
theorem seenN_zero (l : List Box) (s : ByteArray) : seenN l 0 s = false := by simp [seenN]
theorem seenN_succ (l : List Box) (k : Nat) (s : ByteArray) (hk : k < l.length) : seenN l (k + 1) s = (seenN l k s || (!decide (l[k].num = noNum) && decide (l[k].num = s))) := by
 unfold seenN;rw [List.take_succ_eq_append_getElem hk, List.any_append];simp only [List.any_cons, List.any_nil, Bool.or_false]
theorem lastId_succ (l : List Box) (k : Nat) (hk : k < l.length) : lastId l (k + 1) = l[k].id := by
 unfold lastId;simp [hk]
theorem lastId_zero (l : List Box) : lastId l 0 = 0 := by simp [lastId]
end Go.Proofs.YtfdjcakgolenbaaGreat
namespace Go.Proofs.YtfdjcakgolenbaaGreat
open Go.RowKit
def wOk (n : Int) : Bool := decide (0 <= n /\ n <= 500000000)
def inArm (n m : Int) : Bool := decide (-m <= n /\ n <= m)
def ldOk (l : Ld) : Bool := wOk l.kilos && (inArm l.x (l.kilos * 1100000) && (inArm l.y (l.kilos * 1100000) && inArm l.z (l.kilos * 1100000)))
def ld0 : Ld := ⟨0, 0, 0, 0⟩
def pointF (k x y z : Int) : Ld × Int := if wOk k && (inArm x 1100000 && (inArm y 1100000 && inArm z 1100000)) then (⟨k, k * x, k * y, k * z⟩, 0) else (ld0, 2)
theorem wOk_iff {n : Int} : wOk n = true ↔ 0 <= n /\ n <= 500000000 := decide_eq_true_iff
theorem inArm_iff {n m : Int} : inArm n m = true ↔ -m <= n /\ n <= m := decide_eq_true_iff
theorem m_weighs (n : Int) (w : World) : Calls Tryz.prog 51 #[.int .i64 n] w fun e w' => e = .returned (.bool (wOk n)) /\ w' = w := by
 by_cases h1 : 0 <= n
 . by_cases h2 : n <= 500000000
   . have h3 : wOk n = true := by simp [wOk, h1, h2]
     rw [h3];clear h3
     go_enter Tryz.func51, Tryz.ntmps51
     go_wp2
     go_ret
     exact ⟨rfl, rfl⟩
   . have h3 : wOk n = false := by simp [wOk]; omega
     rw [h3];clear h3
     go_enter Tryz.func51, Tryz.ntmps51
     go_wp2
     go_ret
     exact ⟨rfl, rfl⟩
 . have h3 : wOk n = false := by simp [wOk]; omega
   rw [h3];clear h3
   go_enter Tryz.func51, Tryz.ntmps51
   go_wp2
   go_ret
   exact ⟨rfl, rfl⟩
theorem m_within (n m : Int) (hm0 : 0 <= m) (hm : m <= 4611686018427387904) (w : World) : Calls Tryz.prog 53 #[.int .i64 n, .int .i64 m] w fun e w' => e = .returned (.bool (inArm n m)) /\ w' = w := by
 have wn : IntKind.i64.wrap (-m) = -m := wrap_i64 (by omega) (by omega);by_cases h1 : -m <= n
 . by_cases h2 : n <= m
   . have h3 : inArm n m = true := by simp [inArm, h1, h2]
     rw [h3];clear h3
     go_enter Tryz.func53, Tryz.ntmps53
     go_wp2
     go_ret
     exact ⟨rfl, rfl⟩
   . have h3 : inArm n m = false := by simp [inArm]; omega
     rw [h3];clear h3
     go_enter Tryz.func53, Tryz.ntmps53
     go_wp2
     go_ret
     exact ⟨rfl, rfl⟩
 . have h3 : inArm n m = false := by simp [inArm]; omega
   rw [h3];clear h3
   go_enter Tryz.func53, Tryz.ntmps53
   go_wp2
   go_ret
   exact ⟨rfl, rfl⟩
set_option maxHeartbeats 1000000 in
theorem m_Right (l : Ld) (w : World) : Calls Tryz.prog 22 #[.agg #[.int .i64 l.kilos, .int .i64 l.x, .int .i64 l.y, .int .i64 l.z]] w fun e w' => e = .returned (.bool (ldOk l)) /\ From w w' := by
 obtain ⟨k, x, y, z⟩ := l;dsimp only;have HB : Hid (From w (w.alloc (.cells #[.int .i64 k, .int .i64 x, .int .i64 y, .int .i64 z] 48))) := (Below.refl _ _).alloc (Nat.le_refl _) _;have HK := Lib.hid (fun w1 => m_weighs k w1)
 cases hk : wOk k with
 | false =>
  rw [hk] at HK;have hr : ldOk ⟨k, x, y, z⟩ = false := by unfold ldOk; rw [hk]; rfl
  rw [hr];clear hr hk
  go_enter Tryz.func22, Tryz.ntmps22
  go_wp2_with (go_at_call 51; refine (HK.out _).mono ?_; rintro e wx ⟨rfl, hx⟩; rw [hx]; clear hx wx HK)
  go_ret
  exact ⟨rfl, HB.out⟩
 | true =>
  have h1 := wOk_iff.1 hk;have wm : IntKind.i64.wrap (k * 1100000) = k * 1100000 := wrap_i64 (by omega) (by omega);obtain ⟨m, hm⟩ : ∃ m, m = k * 1100000 := ⟨_, rfl⟩
  have HX := Lib.hid (fun w1 => m_within x m (by omega) (by omega) w1);have HY := Lib.hid (fun w1 => m_within y m (by omega) (by omega) w1);have HZ := Lib.hid (fun w1 => m_within z m (by omega) (by omega) w1);have hr : ldOk ⟨k, x, y, z⟩ = (inArm x m && (inArm y m && inArm z m)) := by unfold ldOk; rw [hk, hm]; rfl
  rw [hk] at HK;rw [hr];rw [<- hm] at wm;have wm2 : IntKind.i64.wrap (k * 1100000) = m := by rw [<- hm]; exact wm
  clear hr hk h1 hm wm;generalize inArm x m = bx at HX ⊢;generalize inArm y m = by_ at HY ⊢;generalize inArm z m = bz at HZ ⊢
  cases bx with
  | false =>
   go_enter Tryz.func22, Tryz.ntmps22
   go_wp2_with (first
    | (go_at_call 51; refine (HK.out _).mono ?_; rintro e wx ⟨rfl, hx⟩; rw [hx]; clear hx wx HK)
    | (go_at_call 53; refine (HX.out _).mono ?_; rintro e wx ⟨rfl, hx⟩; rw [hx]; clear hx wx HX)
    | (go_at_call 53; refine (HY.out _).mono ?_; rintro e wx ⟨rfl, hx⟩; rw [hx]; clear hx wx HY)
    | (go_at_call 53; refine (HZ.out _).mono ?_; rintro e wx ⟨rfl, hx⟩; rw [hx]; clear hx wx))
   go_ret
   exact ⟨rfl, HB.out⟩
  | true =>
   cases by_ with
   | false =>
    go_enter Tryz.func22, Tryz.ntmps22
    go_wp2_with (first
     | (go_at_call 51; refine (HK.out _).mono ?_; rintro e wx ⟨rfl, hx⟩; rw [hx]; clear hx wx HK)
     | (go_at_call 53; refine (HX.out _).mono ?_; rintro e wx ⟨rfl, hx⟩; rw [hx]; clear hx wx HX)
     | (go_at_call 53; refine (HY.out _).mono ?_; rintro e wx ⟨rfl, hx⟩; rw [hx]; clear hx wx HY)
     | (go_at_call 53; refine (HZ.out _).mono ?_; rintro e wx ⟨rfl, hx⟩; rw [hx]; clear hx wx))
    go_ret
    exact ⟨rfl, HB.out⟩
   | true =>
    go_enter Tryz.func22, Tryz.ntmps22
    go_wp2_with (first
     | (go_at_call 51; refine (HK.out _).mono ?_; rintro e wx ⟨rfl, hx⟩; rw [hx]; clear hx wx HK)
     | (go_at_call 53; refine (HX.out _).mono ?_; rintro e wx ⟨rfl, hx⟩; rw [hx]; clear hx wx HX)
     | (go_at_call 53; refine (HY.out _).mono ?_; rintro e wx ⟨rfl, hx⟩; rw [hx]; clear hx wx HY)
     | (go_at_call 53; refine (HZ.out _).mono ?_; rintro e wx ⟨rfl, hx⟩; rw [hx]; clear hx wx))
    go_ret
    exact ⟨rfl, HB.out⟩
end Go.Proofs.YtfdjcakgolenbaaGreat
