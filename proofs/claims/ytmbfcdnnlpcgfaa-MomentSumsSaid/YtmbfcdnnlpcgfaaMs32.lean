/-
  box.Right tells what boxB tells.
-/
import Derived.Test.YtmbfcdnnlpcgfaaMs31
import Derived.Maps.OwnSet
set_option linter.unusedVariables false
set_option linter.unusedSimpArgs false
namespace Go.Proofs.Ytmbfcdnnlpcgfaa
open Go.RowKit
def kMost (s : Int) : Int := if s = 20 then 32000 else if s = 40 then 40000 else 0
def bWithin (n lo hi : Int) : Bool := decide (lo ≤ n) && decide (n ≤ hi)
def noNum : ByteArray := ⟨#[]⟩
theorem noNum_l : noNum.toList = [] := by unfold noNum; go_simp
def bRule (b : Box) : Nat → Bool
 | 0 => bWithin b.id 1 999999
 | 1 => decide (b.num = noNum) || isoB b.num
 | 2 => !b.high || decide (b.size = 40)
 | 3 => bWithin b.kilos 1 (kMost b.size)
 | 4 => decide (0 ≤ b.load) && decide (b.load < b.dis) && decide (b.dis < 20)
 | _ => decide (b.cls ≤ 9)
def boxB (b : Box) : Bool := bRule b 0 && bRule b 1 && bRule b 2 && bRule b 3 && bRule b 4 && bRule b 5
theorem box_within (n lo hi : Int) (w : World) : Calls Try.prog 61 #[.int .i64 n, .int .i64 lo, .int .i64 hi] w fun e w' => e = .returned (.bool (bWithin n lo hi)) ∧ Below w.heap.size w w' := by
 by_cases h1 : lo ≤ n
 · go_enter Try.func61, Try.ntmps61
   have HW : Hid (bWithin n lo hi = decide (n ≤ hi)) := by unfold Hid bWithin; simp [h1]
   go_wp2
   go_ret
   exact ⟨by rw [HW.out]; rfl, Below.refl _ _⟩
 · go_enter Try.func61, Try.ntmps61
   have HW : Hid (bWithin n lo hi = false) := by unfold Hid bWithin; simp [h1]
   go_wp2
   go_ret
   exact ⟨by rw [HW.out]; rfl, Below.refl _ _⟩
theorem box_most (s : Int) (w : World) : Calls Try.prog 66 #[.int .u8 s] w fun e w' => e = .returned (.int .i64 (kMost s)) ∧ Below w.heap.size w w' := by
 by_cases h1 : s = 20
 · subst h1
   go_enter Try.func66, Try.ntmps66
   go_wp2
   go_ret
   exact ⟨rfl, Below.refl _ _⟩
 · by_cases h2 : s = 40
   · subst h2
     go_enter Try.func66, Try.ntmps66
     go_wp2
     go_ret
     exact ⟨rfl, Below.refl _ _⟩
   · have HK : Hid (kMost s = 0) := by unfold Hid kMost; simp [h1, h2]
     have b1 : (s == 20) = false := by simp [h1]
     have b2 : (s == 40) = false := by simp [h2]
     go_enter Try.func66, Try.ntmps66
     go_wp2
     go_ret
     exact ⟨by rw [HK.out]; rfl, Below.refl _ _⟩
section
variable {b : Box} {g : Nat} {w : World}
theorem box_r0 (hc : ∀ j u, b.cells[j]? = some u → w.cell? ⟨g, j, none⟩ = some u) : Calls Try.prog 60 #[.pointer (some ⟨g, 0, none⟩)] w fun e w' => e = .returned (.bool (bRule b 0)) ∧ Below w.heap.size w w' := by
 have c0 : w.cell? ⟨g, 0, none⟩ = some (.int .i64 b.id) := hc 0 _ rfl
 clear hc
 go_enter Try.func60, Try.ntmps60
 go_wp2_with (go_at_call 61; refine (box_within _ _ _ _).mono ?_; rintro e w1 ⟨rfl, hb1⟩)
 go_ret
 exact ⟨rfl, hb1⟩
theorem box_r1 (hc : ∀ j u, b.cells[j]? = some u → w.cell? ⟨g, j, none⟩ = some u) (hn : b.num.size ≤ 140737488351232) : Calls Try.prog 62 #[.pointer (some ⟨g, 0, none⟩)] w fun e w' => e = .returned (.bool (bRule b 1)) ∧ Below w.heap.size w w' := by
 have c0 : w.cell? ⟨g, 1, none⟩ = some (.string b.num) := hc 1 _ rfl
 have HR : Hid (bRule b 1 = (decide (b.num = noNum) || isoB b.num)) := rfl
 clear hc
 by_cases hz : b.num = noNum
 · have hz' : b.num = ⟨#[]⟩ := hz
   rw [hz'] at c0
   have HZ := Lib.hid hz
   clear hz hz' hn
   go_enter Try.func62, Try.ntmps62
   go_wp2
   go_ret
   exact ⟨by rw [HR.out, HZ.out]; rfl, Below.refl _ _⟩
 · have hz3 : ¬ b.num.toList = [] := fun h => hz (toList_eq.mp (h.trans noNum_l.symm))
   have hz2 : b.num.toList.isEmpty = false := by simpa using hz3
   have HE : Hid (bRule b 1 = isoB b.num) := by unfold Hid; rw [HR.out]; simp [hz]
   clear hz
   go_enter Try.func62, Try.ntmps62
   go_wp2_with (go_at_call 63; refine (iso_right _ _ hn).mono ?_; rintro e w1 ⟨rfl, hb1⟩)
   go_ret
   exact ⟨by rw [HE.out]; rfl, hb1⟩
theorem box_r2 (hc : ∀ j u, b.cells[j]? = some u → w.cell? ⟨g, j, none⟩ = some u) : Calls Try.prog 64 #[.pointer (some ⟨g, 0, none⟩)] w fun e w' => e = .returned (.bool (bRule b 2)) ∧ Below w.heap.size w w' := by
 have c0 : w.cell? ⟨g, 2, none⟩ = some (.int .u8 b.size) := hc 2 _ rfl
 have c1 : w.cell? ⟨g, 3, none⟩ = some (.bool b.high) := hc 3 _ rfl
 have HR : Hid (bRule b 2 = (!b.high || decide (b.size = 40))) := rfl
 clear hc
 cases hh : b.high with
 | true =>
  rw [hh] at c1
  have HE : Hid (bRule b 2 = (b.size == 40)) := by unfold Hid; rw [HR.out, hh]; simp; by_cases h : b.size = 40 <;> simp [h]
  clear hh
  go_enter Try.func64, Try.ntmps64
  go_wp2
  go_ret
  exact ⟨by rw [HE.out]; rfl, Below.refl _ _⟩
 | false =>
  rw [hh] at c1
  have HE : Hid (bRule b 2 = true) := by unfold Hid; rw [HR.out, hh]; simp
  clear hh
  go_enter Try.func64, Try.ntmps64
  go_wp2
  go_ret
  exact ⟨by rw [HE.out]; rfl, Below.refl _ _⟩
theorem box_r3 (hc : ∀ j u, b.cells[j]? = some u → w.cell? ⟨g, j, none⟩ = some u) : Calls Try.prog 65 #[.pointer (some ⟨g, 0, none⟩)] w fun e w' => e = .returned (.bool (bRule b 3)) ∧ Below w.heap.size w w' := by
 have c0 : w.cell? ⟨g, 2, none⟩ = some (.int .u8 b.size) := hc 2 _ rfl
 have c1 : w.cell? ⟨g, 4, none⟩ = some (.int .i64 b.kilos) := hc 4 _ rfl
 have hlt : g < w.heap.size := block_lt_of_cell c0
 clear hc
 have HC1 : Hid (∀ w', From w w' → (loadVar 3 ⟨g, 4, none⟩).run Try.prog w' = .ok (.int .i64 b.kilos) w') := fun w' hb => run_load_cell Try.underlying3 rfl ((hb.cell (p := ⟨g, _, none⟩) (by simpa using hlt)).trans c1)
 have HC2 : Hid (∀ w', From w w' → (loadVar 5 ⟨g, 2, none⟩).run Try.prog w' = .ok (.int .u8 b.size) w') := fun w' hb => run_load_cell Try.underlying5 rfl ((hb.cell (p := ⟨g, _, none⟩) (by simpa using hlt)).trans c0)
 clear c0 c1
 go_enter Try.func65, Try.ntmps65
 go_wp2
 refine wp_region_below (by kernel_rfl) (by kernel_rfl) w.heap.size ?_
 repeat (first | go_big_quiet_skip | (go_big_quiet_want; refine quiet_ld 3 _ rfl _ rfl _ (fun w' hC => HC1.out w' hC) ?_; simp only [Act.put, List.setIfInBounds_toArray, List.set_cons_succ, List.set_cons_zero]; go_big_quiet_on) | (go_big_quiet_want; refine quiet_ld 5 _ rfl _ rfl _ (fun w' hC => HC2.out w' hC) ?_; simp only [Act.put, List.setIfInBounds_toArray, List.set_cons_succ, List.set_cons_zero]; go_big_quiet_on) | go_big_quiet_step (first | (intro hC; rfl) | (intro hC; exact ⟨rfl, rfl⟩) | (intro hC; (with_reducible refine (box_most _ _).mono ?_); rintro e w1 ⟨rfl, hb1⟩; exact ⟨rfl, hC.trans (hb1.mono hC.size)⟩) | (intro hC; (with_reducible refine (box_within _ _ _ _).mono ?_); rintro e w1 ⟨rfl, hb1⟩; exact ⟨rfl, hC.trans (hb1.mono hC.size)⟩)))
 refine wpQuiet_nil ?_
 intro w' hC
 go_wp2
 go_ret
 exact ⟨rfl, hC⟩
theorem box_r4 (hc : ∀ j u, b.cells[j]? = some u → w.cell? ⟨g, j, none⟩ = some u) : Calls Try.prog 67 #[.pointer (some ⟨g, 0, none⟩)] w fun e w' => e = .returned (.bool (bRule b 4)) ∧ Below w.heap.size w w' := by
 have c0 : w.cell? ⟨g, 5, none⟩ = some (.int .i64 b.load) := hc 5 _ rfl
 have c1 : w.cell? ⟨g, 6, none⟩ = some (.int .i64 b.dis) := hc 6 _ rfl
 have HR : Hid (bRule b 4 = (decide (0 ≤ b.load) && decide (b.load < b.dis) && decide (b.dis < 20))) := rfl
 clear hc
 by_cases h1 : 0 ≤ b.load
 · by_cases h2 : b.load < b.dis
   · have HE : Hid (bRule b 4 = decide (b.dis < 20)) := by unfold Hid; rw [HR.out]; simp [h1, h2]
     go_enter Try.func67, Try.ntmps67
     go_wp2
     go_ret
     exact ⟨by rw [HE.out]; rfl, Below.refl _ _⟩
   · have HE : Hid (bRule b 4 = false) := by unfold Hid; rw [HR.out]; simp [h2]
     go_enter Try.func67, Try.ntmps67
     go_wp2
     go_ret
     exact ⟨by rw [HE.out]; rfl, Below.refl _ _⟩
 · have HE : Hid (bRule b 4 = false) := by unfold Hid; rw [HR.out]; simp [h1]
   go_enter Try.func67, Try.ntmps67
   go_wp2
   go_ret
   exact ⟨by rw [HE.out]; rfl, Below.refl _ _⟩
theorem box_r5 (hc : ∀ j u, b.cells[j]? = some u → w.cell? ⟨g, j, none⟩ = some u) : Calls Try.prog 68 #[.pointer (some ⟨g, 0, none⟩)] w fun e w' => e = .returned (.bool (bRule b 5)) ∧ Below w.heap.size w w' := by
 have c0 : w.cell? ⟨g, 7, none⟩ = some (.int .u8 b.cls) := hc 7 _ rfl
 clear hc
 go_enter Try.func68, Try.ntmps68
 go_wp2
 go_ret
 exact ⟨rfl, Below.refl _ _⟩
theorem box_r7 {fn : FuncId} {caps : Array Value} {p : Bool} (hcf : ∀ w args, (callFunc fn args).run Try.prog w = .ok (.enter fn args) w) (hcall : Calls Try.prog fn caps w fun e w' => e = .returned (.bool p) ∧ Below w.heap.size w w') :
 Calls Try.prog 70 #[.func (.func fn) #[] caps] w fun e w' => e = .returned (.bool (!p)) ∧ Below w.heap.size w w' := by
 have HC := Lib.hid hcall
 clear hcall
 go_enter Try.func70, Try.ntmps70
 go_wp2_with (first | (refine (HC.out).mono ?_; rintro e w1 ⟨rfl, hb1⟩))
 go_ret
 exact ⟨rfl, hb1⟩
end
def ruleF : Nat → FuncId
 | 0 => 60
 | 1 => 62
 | 2 => 64
 | 3 => 65
 | 4 => 67
 | _ => 68
def ruleV (g k : Nat) : Value := .func (.func (ruleF k)) #[] #[.pointer (some ⟨g, 0, none⟩)]
theorem rule_cf (k : Nat) (w : World) (args : Array Value) : (callFunc (ruleF k) args).run Try.prog w = .ok (.enter (ruleF k) args) w := by
 unfold ruleF
 split <;> go_simp
theorem box_rule {b : Box} {g : Nat} {w : World} (k : Nat) (hk : k < 6) (hc : ∀ j u, b.cells[j]? = some u → w.cell? ⟨g, j, none⟩ = some u) (hn : b.num.size ≤ 140737488351232) :
 Calls Try.prog (ruleF k) #[.pointer (some ⟨g, 0, none⟩)] w fun e w' => e = .returned (.bool (bRule b k)) ∧ Below w.heap.size w w' := by
 have : k = 0 ∨ k = 1 ∨ k = 2 ∨ k = 3 ∨ k = 4 ∨ k = 5 := by omega
 rcases this with rfl | rfl | rfl | rfl | rfl | rfl
 · exact box_r0 hc
 · exact box_r1 hc hn
 · exact box_r2 hc
 · exact box_r3 hc
 · exact box_r4 hc
 · exact box_r5 hc
theorem boxB_all {b : Box} (h : ∀ k, k < 6 → bRule b k = true) : boxB b = true := by
 unfold boxB
 rw [h 0 (by omega), h 1 (by omega), h 2 (by omega), h 3 (by omega), h 4 (by omega), h 5 (by omega)]
 rfl
theorem boxB_bad {b : Box} {k : Nat} (hk : k < 6) (h : bRule b k = false) : boxB b = false := by
 have : k = 0 ∨ k = 1 ∨ k = 2 ∨ k = 3 ∨ k = 4 ∨ k = 5 := by omega
 unfold boxB
 rcases this with rfl | rfl | rfl | rfl | rfl | rfl <;> rw [h] <;> simp
theorem box_r7_cf (w : World) (args : Array Value) : (callFunc 70 args).run Try.prog w = .ok (.enter 70 args) w := by
 go_simp
set_option maxRecDepth 100000 in
theorem rules_index (b : Box) (g h c : Nat) (w : World) (hn : b.num.size ≤ 140737488351232) (hb : ∀ w', From w w' → ∀ j u, b.cells[j]? = some u → w'.cell? ⟨g, j, none⟩ = some u)
 (hr : ∀ w', From w w' → ∀ k, k < 6 → w'.cell? ⟨h, k, none⟩ = some (ruleV g k)) :
 Calls Try.prog 83 #[.slice (some ⟨h, 0, none⟩) 6 c, .func (.func 70) #[] #[]] w fun e w' => (∃ i : Int, e = .returned (.int .i64 i) ∧ decide (i ≥ 0) = !boxB b) ∧ Below w.heap.size w w' := by
 have HB := Lib.hid hb
 have HR := Lib.hid hr
 have hcf := box_r7_cf
 clear hb hr
 go_enter Try.func83, Try.ntmps83
 go_wp2
 go_loopw [5, 8] (fun _ i wr => ∃ k : Nat, k ≤ 6 ∧ i = .int .i64 k ∧ (∀ j, (h : j < k) → bRule b j = true) ∧ From w wr) (fun _ i _ => 6 - (intOf i).toNat)
 case atStart => exact ⟨0, by omega, rfl, by omega, Below.refl _ _⟩
 case round =>
  obtain ⟨k, hk, rfl, hj, hw⟩ := hrel
  have HJ := Lib.hid hj
  clear hj
  by_cases hlt : k < 6
  · have HL : Hid ((loadVar 23 ⟨h, k, none⟩).run Try.prog wr = .ok (ruleV g k) wr) := run_load_cell Try.underlying23 rfl (HR.out wr hw k hlt)
    have HC := Lib.hid (box_r7 (rule_cf k) (box_rule k hlt (HB.out wr hw) hn))
    go_wp2_with (first
     | (refine wpList_ld rfl 23 _ rfl _ rfl _ HL.out ?_)
     | (go_at_call 70; refine (HC.out).mono ?_; rintro e w' ⟨rfl, hb3⟩))
    · have hf : bRule b k = false := by
       have h9 : (!bRule b k) = true := by assumption
       simpa using h9
      have HD := Lib.hid (boxB_bad hlt hf)
      go_ret
      exact ⟨⟨_, rfl, by rw [HD.out]; simp⟩, hw.trans (hb3.mono hw.size)⟩
    · have ht : bRule b k = true := by
       have h9 : (!bRule b k) = false := by assumption
       simpa using h9
      go_roundw
      case rel =>
       refine ⟨k + 1, by omega, by go_num, fun j h => ?_, hw.trans (hb3.mono hw.size)⟩
       rcases Nat.lt_or_ge j k with h3 | h3
       · exact HJ.out j h3
       · obtain rfl : j = k := by omega
         exact ht
      case measure => simp [intOf]; omega
  · obtain rfl : k = 6 := by omega
    have HI := Lib.hid (boxB_all HJ.out)
    go_wp2
    go_ret
    exact ⟨⟨_, rfl, by rw [HI.out]; rfl⟩, hw⟩
theorem rules_contains (b : Box) (g h c : Nat) (w : World) (hn : b.num.size ≤ 140737488351232) (hb : ∀ w', From w w' → ∀ j u, b.cells[j]? = some u → w'.cell? ⟨g, j, none⟩ = some u)
 (hr : ∀ w', From w w' → ∀ k, k < 6 → w'.cell? ⟨h, k, none⟩ = some (ruleV g k)) :
 Calls Try.prog 69 #[.slice (some ⟨h, 0, none⟩) 6 c, .func (.func 70) #[] #[]] w fun e w' => e = .returned (.bool (!boxB b)) ∧ Below w.heap.size w w' := by
 have HC := Lib.hid (rules_index b g h c w hn hb hr)
 clear hb hr
 go_enter Try.func69, Try.ntmps69
 go_wp2_with (go_at_call 83; refine (HC.out).mono ?_; rintro e w1 ⟨⟨i, rfl, hi⟩, hb1⟩; have HI := Lib.hid hi; clear hi)
 go_ret
 exact ⟨by rw [← HI.out]; rfl, hb1⟩
abbrev boxW (b : Box) (w : World) : World := (w.alloc (Obj.cells #[.int .i64 b.id, .string b.num, .int .u8 b.size, .bool b.high, .int .i64 b.kilos, .int .i64 b.load, .int .i64 b.dis, .int .u8 b.cls, .bool b.reefer] 82)).alloc (Obj.cells #[.func (.func 60) #[] #[.pointer (some ⟨w.heap.size, 0, none⟩)], .func (.func 62) #[] #[.pointer (some ⟨w.heap.size, 0, none⟩)], .func (.func 64) #[] #[.pointer (some ⟨w.heap.size, 0, none⟩)], .func (.func 65) #[] #[.pointer (some ⟨w.heap.size, 0, none⟩)], .func (.func 67) #[] #[.pointer (some ⟨w.heap.size, 0, none⟩)], .func (.func 68) #[] #[.pointer (some ⟨w.heap.size, 0, none⟩)]] 23)
set_option maxHeartbeats 1000000 in
theorem box_right (b : Box) (w : World) (hn : b.num.size ≤ 140737488351232) :
 Calls Try.prog 47 #[b.val] w fun e w' => e = .returned (.bool (boxB b)) ∧ Below w.heap.size w w' := by
 have HB : Hid (Below w.heap.size w (boxW b w) ∧ ∀ w', From (boxW b w) w' → (∀ j u, b.cells[j]? = some u → w'.cell? ⟨w.heap.size, j, none⟩ = some u) ∧ ∀ k, k < 6 → w'.cell? ⟨w.heap.size + 1, k, none⟩ = some (ruleV w.heap.size k)) := by
  refine ⟨((Below.refl _ _).alloc (Nat.le_refl _) _).alloc (by simp) _, fun w' hb => ?_⟩
  have hs : (boxW b w).heap.size = w.heap.size + 2 := size_alloc2 _ _ _
  have k0 : (boxW b w).heap[w.heap.size]? = some (.cells #[.int .i64 b.id, .string b.num, .int .u8 b.size, .bool b.high, .int .i64 b.kilos, .int .i64 b.load, .int .i64 b.dis, .int .u8 b.cls, .bool b.reefer] 82 (0, 0)) := heap_alloc2_old w _ _
  have k1 : (boxW b w).heap[w.heap.size + 1]? = some (.cells #[.func (.func 60) #[] #[.pointer (some ⟨w.heap.size, 0, none⟩)], .func (.func 62) #[] #[.pointer (some ⟨w.heap.size, 0, none⟩)], .func (.func 64) #[] #[.pointer (some ⟨w.heap.size, 0, none⟩)], .func (.func 65) #[] #[.pointer (some ⟨w.heap.size, 0, none⟩)], .func (.func 67) #[] #[.pointer (some ⟨w.heap.size, 0, none⟩)], .func (.func 68) #[] #[.pointer (some ⟨w.heap.size, 0, none⟩)]] 23 (0, 0)) := heap_alloc2_new w _ _
  refine ⟨fun j u hu => ?_, fun k hk => ?_⟩
  · rw [cell_of_row w' w.heap.size j _ _ _ ((hb.block _ (by omega)).trans k0)]
    simpa [Box.cells] using hu
  · rw [cell_of_row w' (w.heap.size + 1) k _ _ _ ((hb.block _ (by omega)).trans k1)]
    have : k = 0 ∨ k = 1 ∨ k = 2 ∨ k = 3 ∨ k = 4 ∨ k = 5 := by omega
    rcases this with rfl | rfl | rfl | rfl | rfl | rfl <;> rfl
 have HC := Lib.hid (rules_contains b w.heap.size (w.heap.size + 1) 6 (boxW b w) hn (fun w' h => (HB.out.2 w' h).1) (fun w' h => (HB.out.2 w' h).2))
 go_enter Try.func47, Try.ntmps47
 go_wp2_with (go_at_call 69; refine (HC.out).mono ?_; rintro e w1 ⟨rfl, hb1⟩)
 go_ret
 exact ⟨by simp, HB.out.1.trans (hb1.mono HB.out.1.size)⟩
def box0 : Box := ⟨0, noNum, 0, false, 0, 0, 0, 0, false⟩
def isId (id : Int) (b : Box) : Bool := decide (b.id = id)
def findV (l : List Box) (id : Int) : Box × Bool := match l.find? (isId id) with | some b => (b, true) | none => (box0, false)
theorem box_size : (Try.prog.info? 82).map (·.size) = some 9 := by kernel_rfl
def BxPost (w : World) (r : Box × Bool) (e : Ending) (w' : World) : Prop := e = .returned (.tuple #[r.1.val, .bool r.2]) ∧ From w w'
set_option maxRecDepth 10000 in
theorem find1_stow (b : Box) (id : Int) (g : Nat) (w0 w : World) (hm : Mem w0 w [.box g 3 [.int .i64 id]]) : Calls Try.prog 72 #[b.val, .pointer (some ⟨g, 0, none⟩)] w fun e w' => e = .returned (.bool (isId id b)) ∧ From w w' := by
 have HM := Lib.hid (hm.alloc 82 b.cells)
 have HB : Hid (From w (w.alloc (.cells b.cells.toArray 82))) := (Below.refl _ _).alloc (Nat.le_refl _) _
 have HV : Hid ((b.id == id) = isId id b) := by unfold Hid isId; rw [Bool.eq_iff_iff]; simp
 clear hm
 obtain ⟨b0, b1, b2, b3, b4, b5, b6, b7, b8⟩ := b
 dsimp only at HV
 go_enter Try.func72, Try.ntmps72
 go_wp2_with (first
  | ((with_reducible refine g_ld 3 ?_); refine wpList_ld rfl _ _ rfl _ rfl _ (HM.out.ldc ct3 (i := 1) rfl rfl _ (Below.refl _ _)) ?_))
 go_ret
 exact ⟨by rw [← HV.out]; rfl, HB.out⟩
theorem cf72 (w : World) (args : Array Value) : (callFunc 72 args).run Try.prog w = .ok (.enter 72 args) w := by
 go_simp
set_option maxRecDepth 10000 in
set_option maxHeartbeats 1000000 in
theorem stow_Find (A : Option Addr) (c n : Nat) (l : List Box) (hn : n = l.length) (id : Int) (w : World) (hA : Rd w w.heap.size 9 A (l.map Box.cells)) (hl : l.length ≤ 1000000000000) :
 Calls Try.prog 50 #[.slice A n c, .int .i64 id] w (BxPost w (findV l id)) := by
 have HM0 := Lib.hid ((Mem.nil w).alloc2 3 [.int .i64 id] 82 box0.cells)
 have HI := Lib.hid (fun w1 (hm : Mem w w1 [.box (w.heap.size + 1) 82 box0.cells, .box w.heap.size 3 [.int .i64 id]]) => indexBox A c l n hn 72 #[.pointer (some ⟨w.heap.size, 0, none⟩)] (isId id) w1 (hA.from hm.from_) hl cf72 (fun x _ w' hb => find1_stow x id w.heap.size w w' (hm.tail.call hb)))
 have HR := Lib.hid hA
 have HN := Lib.hid hn
 have hl2 : n ≤ 1000000000000 := by omega
 rcases idx_cases (isId id) l with ⟨h1, h2⟩ | ⟨k, hk, h1, h2, h3⟩
 · have HE : Hid (findV l id = (box0, false)) := by
    unfold Hid findV
    rw [List.find?_eq_none.2 (fun x hx => by simp [h2 x hx])]
   rw [h1] at HI
   clear h1 h2 hA hn hl
   go_enter Try.func50, Try.ntmps50
   go_wp2_with (first
    | (go_at_call 57; go_loud (refine (HI.out _ HM0.out).mono ?_); rintro e w2 ⟨rfl, hb⟩; have HM1 := Lib.hid (HM0.out.call hb); clear hb)
    | ((with_reducible refine g_st 82 ?_); go_loud (refine wpList_stB (cs' := box0.cells) rfl _ _ rfl HM1.out 0 rfl rfl rfl box_size rfl (Box.len _) (Box.len _) (Box.one _) ?_); intro w6 h6))
   refine bodyPost_ret (results_box2 rfl _ rfl (h6.ldb Box.row (Box.len _) (i := 0) rfl _ (Below.refl _ _))) rfl ⟨?_, h6.from_⟩
   rw [HE.out]
   rfl
 · obtain ⟨b, hb⟩ : ∃ b, b = l[k] := ⟨_, rfl⟩
   have HE : Hid (findV l id = (b, true)) := by
    unfold Hid findV
    rw [h3, hb]
   obtain ⟨g, off, rfl⟩ := Rd.addr hA (by rw [List.length_map]; omega)
   have HLD := Lib.hid (fun w1 (hf : From w w1) => Rd.row (P := Try.prog) HR.out hf Box.row (k := k) (cs := b.cells) (by rw [hb]; exact map_get2 Box.cells l k hk) (p := off + k * 9) rfl)
   have hkn : (k : Int) < (n : Int) := by omega
   have hk0 : ¬ (k : Int) < 0 := by omega
   rw [h1] at HI
   clear h1 h2 h3 hA hn hl hk hb
   go_enter Try.func50, Try.ntmps50
   go_wp2_with (first
    | (go_at_call 57; go_loud (refine (HI.out _ HM0.out).mono ?_); rintro e w2 ⟨rfl, hb⟩; have HM1 := Lib.hid (HM0.out.call hb); clear hb)
    | ((with_reducible refine g_ld 82 ?_); go_loud (refine wpList_ld rfl _ _ rfl _ rfl _ (HLD.out _ HM1.out.from_) ?_))
    | ((with_reducible refine g_st 82 ?_); go_loud (refine wpList_stB (cs' := b.cells) rfl _ _ rfl HM1.out 0 rfl rfl rfl box_size rfl (Box.len _) (Box.len _) (Box.one _) ?_); intro w6 h6))
   refine bodyPost_ret (results_box2 rfl _ rfl (h6.ldb Box.row (Box.len _) (i := 0) rfl _ (Below.refl _ _))) rfl ⟨?_, h6.from_⟩
   rw [HE.out]
   rfl
set_option maxRecDepth 10000 in
theorem find1_box (b : Box) (id : Int) (g : Nat) (w0 w : World) (hm : Mem w0 w [.box g 3 [.int .i64 id]]) : Calls Try.prog 58 #[b.val, .pointer (some ⟨g, 0, none⟩)] w fun e w' => e = .returned (.bool (isId id b)) ∧ From w w' := by
 have HM := Lib.hid (hm.alloc 82 b.cells)
 have HB : Hid (From w (w.alloc (.cells b.cells.toArray 82))) := (Below.refl _ _).alloc (Nat.le_refl _) _
 have HV : Hid ((b.id == id) = isId id b) := by unfold Hid isId; rw [Bool.eq_iff_iff]; simp
 clear hm
 obtain ⟨b0, b1, b2, b3, b4, b5, b6, b7, b8⟩ := b
 dsimp only at HV
 go_enter Try.func58, Try.ntmps58
 go_wp2_with (first
  | ((with_reducible refine g_ld 3 ?_); refine wpList_ld rfl _ _ rfl _ rfl _ (HM.out.ldc ct3 (i := 1) rfl rfl _ (Below.refl _ _)) ?_))
 go_ret
 exact ⟨by rw [← HV.out]; rfl, HB.out⟩
theorem cf58 (w : World) (args : Array Value) : (callFunc 58 args).run Try.prog w = .ok (.enter 58 args) w := by
 go_simp
set_option maxRecDepth 10000 in
set_option maxHeartbeats 1000000 in
theorem box_Find (A : Option Addr) (c n : Nat) (l : List Box) (hn : n = l.length) (id : Int) (w : World) (hA : Rd w w.heap.size 9 A (l.map Box.cells)) (hl : l.length ≤ 1000000000000) :
 Calls Try.prog 38 #[.slice A n c, .int .i64 id] w (BxPost w (findV l id)) := by
 have HM0 := Lib.hid ((Mem.nil w).alloc2 3 [.int .i64 id] 82 box0.cells)
 have HI := Lib.hid (fun w1 (hm : Mem w w1 [.box (w.heap.size + 1) 82 box0.cells, .box w.heap.size 3 [.int .i64 id]]) => indexBox A c l n hn 58 #[.pointer (some ⟨w.heap.size, 0, none⟩)] (isId id) w1 (hA.from hm.from_) hl cf58 (fun x _ w' hb => find1_box x id w.heap.size w w' (hm.tail.call hb)))
 have HR := Lib.hid hA
 have HN := Lib.hid hn
 have hl2 : n ≤ 1000000000000 := by omega
 rcases idx_cases (isId id) l with ⟨h1, h2⟩ | ⟨k, hk, h1, h2, h3⟩
 · have HE : Hid (findV l id = (box0, false)) := by
    unfold Hid findV
    rw [List.find?_eq_none.2 (fun x hx => by simp [h2 x hx])]
   rw [h1] at HI
   clear h1 h2 hA hn hl
   go_enter Try.func38, Try.ntmps38
   go_wp2_with (first
    | (go_at_call 57; go_loud (refine (HI.out _ HM0.out).mono ?_); rintro e w2 ⟨rfl, hb⟩; have HM1 := Lib.hid (HM0.out.call hb); clear hb)
    | ((with_reducible refine g_st 82 ?_); go_loud (refine wpList_stB (cs' := box0.cells) rfl _ _ rfl HM1.out 0 rfl rfl rfl box_size rfl (Box.len _) (Box.len _) (Box.one _) ?_); intro w6 h6))
   refine bodyPost_ret (results_box2 rfl _ rfl (h6.ldb Box.row (Box.len _) (i := 0) rfl _ (Below.refl _ _))) rfl ⟨?_, h6.from_⟩
   rw [HE.out]
   rfl
 · obtain ⟨b, hb⟩ : ∃ b, b = l[k] := ⟨_, rfl⟩
   have HE : Hid (findV l id = (b, true)) := by
    unfold Hid findV
    rw [h3, hb]
   obtain ⟨g, off, rfl⟩ := Rd.addr hA (by rw [List.length_map]; omega)
   have HLD := Lib.hid (fun w1 (hf : From w w1) => Rd.row (P := Try.prog) HR.out hf Box.row (k := k) (cs := b.cells) (by rw [hb]; exact map_get2 Box.cells l k hk) (p := off + k * 9) rfl)
   have hkn : (k : Int) < (n : Int) := by omega
   have hk0 : ¬ (k : Int) < 0 := by omega
   rw [h1] at HI
   clear h1 h2 h3 hA hn hl hk hb
   go_enter Try.func38, Try.ntmps38
   go_wp2_with (first
    | (go_at_call 57; go_loud (refine (HI.out _ HM0.out).mono ?_); rintro e w2 ⟨rfl, hb⟩; have HM1 := Lib.hid (HM0.out.call hb); clear hb)
    | ((with_reducible refine g_ld 82 ?_); go_loud (refine wpList_ld rfl _ _ rfl _ rfl _ (HLD.out _ HM1.out.from_) ?_))
    | ((with_reducible refine g_st 82 ?_); go_loud (refine wpList_stB (cs' := b.cells) rfl _ _ rfl HM1.out 0 rfl rfl rfl box_size rfl (Box.len _) (Box.len _) (Box.one _) ?_); intro w6 h6))
   refine bodyPost_ret (results_box2 rfl _ rfl (h6.ldb Box.row (Box.len _) (i := 0) rfl _ (Below.refl _ _))) rfl ⟨?_, h6.from_⟩
   rw [HE.out]
   rfl
def tallB (b : Box) : Int := if b.high then 2896 else 2591
theorem stow_tall (b : Box) (w : World) : Calls Try.prog 87 #[b.val] w fun e w' => e = .returned (.int .i64 (tallB b)) ∧ From w w' := by
 have HB : Hid (From w (w.alloc (.cells b.cells.toArray 82))) := (Below.refl _ _).alloc (Nat.le_refl _) _
 obtain ⟨b0, b1, b2, b3, b4, b5, b6, b7, b8⟩ := b
 cases b3 <;>
 · go_enter Try.func87, Try.ntmps87
   go_wp2
   go_ret
   exact ⟨rfl, HB.out⟩
theorem box_Height (b : Box) (w : World) : Calls Try.prog 39 #[b.val] w fun e w' => e = .returned (.int .i64 (tallB b)) ∧ From w w' := by
 have HB : Hid (From w (w.alloc (.cells b.cells.toArray 82))) := (Below.refl _ _).alloc (Nat.le_refl _) _
 obtain ⟨b0, b1, b2, b3, b4, b5, b6, b7, b8⟩ := b
 cases b3 <;>
 · go_enter Try.func39, Try.ntmps39
   go_wp2
   go_ret
   exact ⟨rfl, HB.out⟩
def hAt (bs : List Box) (col half : Int) (x : Stowed) : Int := if x.col = col ∧ (x.half = half ∨ x.half = 0) then (if (findV bs x.box).2 then tallB (findV bs x.box).1 else 0) else 0
def heightF (bs : List Box) (l : List Stowed) (col half : Int) : Int := (l.map (hAt bs col half)).sum
theorem tallB_bound (b : Box) : 0 ≤ tallB b ∧ tallB b ≤ 2896 := by unfold tallB; split <;> omega
theorem hAt_bound (bs : List Box) (col half : Int) (x : Stowed) : 0 ≤ hAt bs col half x ∧ hAt bs col half x ≤ 2896 := by
 unfold hAt
 split
 · split
   · exact tallB_bound _
   · omega
 · omega
theorem sum_bound (f : Stowed → Int) (h : ∀ x, 0 ≤ f x ∧ f x ≤ 2896) (l : List Stowed) : 0 ≤ (l.map f).sum ∧ (l.map f).sum ≤ 2896 * (l.length : Int) := by
 induction l with
 | nil => simp
 | cons x l ih =>
  have := h x
  simp only [List.map_cons, List.sum_cons, List.length_cons]
  omega
set_option maxRecDepth 10000 in
set_option maxHeartbeats 2000000 in
theorem stow_Height (A D : Option Addr) (c d n m : Nat) (bs : List Box) (l : List Stowed) (hn : n = bs.length) (hm : m = l.length) (col half : Int) (w : World) (hA : Rd w w.heap.size 9 A (bs.map Box.cells)) (hD : Rd w w.heap.size 4 D (l.map Stowed.cells)) (hl : bs.length ≤ 1000000000000) (hl2 : l.length ≤ 1000000) :
 Calls Try.prog 78 #[.slice A n c, .slice D m d, .int .i64 col, .int .u8 half] w fun e w' => e = .returned (.int .i64 (heightF bs l col half)) ∧ From w w' := by
 have HFI := Lib.hid (fun id w1 (hb : From w w1) => stow_Find A c n bs hn id w1 (hA.from hb) hl)
 have HR := Lib.hid hD
 have HN := Lib.hid hm
 have hm6 : m ≤ 1000000 := by omega
 clear hA hn hl hD hm hl2
 go_enter Try.func78, Try.ntmps78
 go_wp2
 go_loopw [9, 16] (fun sv v wq => ∃ (k : Nat) (s : Int), k ≤ m ∧ v = .int .i64 (k : Int) ∧ sv = .int .i64 s ∧ s = ((l.take k).map (hAt bs col half)).sum ∧ From w wq) (fun _ v _ => m - (intOf v).toNat)
 case atStart => exact ⟨0, 0, Nat.zero_le _, rfl, rfl, rfl, Below.refl _ _⟩
 case round =>
  obtain ⟨k, s, hk, rfl, rfl, hs, hb⟩ := hrel
  have HS := Lib.hid hs
  have HB := Lib.hid hb
  have hsb := sum_bound _ (hAt_bound bs col half) (l.take k)
  rw [← hs, List.length_take] at hsb
  have hsb2 : 0 ≤ s ∧ s ≤ 2896 * (k : Int) := by
   have h1 : ((min k l.length : Nat) : Int) ≤ k := by omega
   omega
  clear hs hb hsb
  by_cases hkm : k = m
  · have hlt : ¬ (k : Int) < (m : Int) := by omega
    have HV : Hid (heightF bs l col half = s) := by
     unfold Hid heightF
     rw [HS.out, List.take_of_length_le (by have := HN.out; omega)]
    clear hkm hk hsb2
    go_wp2
    go_ret
    exact ⟨by rw [HV.out]; rfl, HB.out⟩
  · have hlt : (k : Int) < (m : Int) := by omega
    have hkl : k < l.length := by have := HN.out; omega
    obtain ⟨g, off, rfl⟩ := Rd.addr HR.out (by rw [List.length_map]; omega)
    obtain ⟨x, hx⟩ : ∃ x, x = l[k] := ⟨_, rfl⟩
    have HLD : Hid ((loadVar 86 ⟨g, off + k * 4, none⟩).run Try.prog wr = .ok x.val wr) := Rd.row (P := Try.prog) HR.out HB.out Stowed.row (k := k) (cs := x.cells) (by rw [hx]; exact map_get2 Stowed.cells l k hkl) (p := off + k * 4) rfl
    have HS2 : Hid (s + hAt bs col half x = ((l.take (k + 1)).map (hAt bs col half)).sum) := by
     unfold Hid
     rw [List.take_succ_eq_append_getElem hkl, List.map_append, List.sum_append, ← HS.out, ← hx]
     simp
    have HB2 : Hid (From w (wr.alloc (.cells x.cells.toArray 86))) := HB.out.alloc HB.out.size _
    obtain ⟨r, hr⟩ : ∃ r, r = findV bs x.box := ⟨_, rfl⟩
    have HF := Lib.hid (HFI.out x.box)
    rw [← hr] at HF
    obtain ⟨b, ok⟩ := r
    have HT := Lib.hid (stow_tall b)
    have hw1 : IntKind.i64.wrap (s + tallB b) = s + tallB b := by
     have := tallB_bound b
     exact wrap_i64 (by omega) (by omega)
    have HH : Hid (hAt bs col half x = if x.col = col ∧ (x.half = half ∨ x.half = 0) then (if ok then tallB b else 0) else 0) := by unfold Hid hAt; rw [← hr]
    clear hx hr HS HFI hkl
    obtain ⟨x1, x2, x3, x4⟩ := x
    dsimp only at HF HH
    by_cases h1 : x2 = col
    · subst h1
      have h1' : (x2 == x2) = true := by simp
      by_cases h2 : x4 = half
      · subst h2
        have h2' : (x4 == x4) = true := by simp
        cases ok with
        | false =>
         go_wp2_with (first
          | ((with_reducible refine g_ld 86 ?_); refine wpList_ld rfl _ _ rfl _ rfl _ HLD.out ?_)
          | (go_at_call 50; go_loud (refine (HF.out _ HB2.out).mono ?_); rintro e w3 ⟨rfl, hb⟩; have HB3 := Lib.hid ((HB2.out.trans (hb.mono HB2.out.size)).alloc (HB2.out.trans (hb.mono HB2.out.size)).size (.cells (Box.cells b).toArray 82)); clear hb)
          | (go_at_call 87; go_loud (refine (HT.out _).mono ?_); rintro e w4 ⟨rfl, hb⟩; have HB4 := Lib.hid (HB3.out.trans (hb.mono HB3.out.size)); clear hb))
         go_roundw
         case rel => exact ⟨k + 1, s, by omega, by go_num, rfl, by rw [← HS2.out, HH.out]; simp, HB3.out⟩
         case measure => simp [intOf]; omega
        | true =>
         go_wp2_with (first
          | ((with_reducible refine g_ld 86 ?_); refine wpList_ld rfl _ _ rfl _ rfl _ HLD.out ?_)
          | (go_at_call 50; go_loud (refine (HF.out _ HB2.out).mono ?_); rintro e w3 ⟨rfl, hb⟩; have HB3 := Lib.hid ((HB2.out.trans (hb.mono HB2.out.size)).alloc (HB2.out.trans (hb.mono HB2.out.size)).size (.cells (Box.cells b).toArray 82)); clear hb)
          | (go_at_call 87; go_loud (refine (HT.out _).mono ?_); rintro e w4 ⟨rfl, hb⟩; have HB4 := Lib.hid (HB3.out.trans (hb.mono HB3.out.size)); clear hb))
         go_roundw
         case rel => exact ⟨k + 1, s + tallB b, by omega, by go_num, rfl, by rw [← HS2.out, HH.out]; simp, HB4.out⟩
         case measure => simp [intOf]; omega
      · have h2' : (x4 == half) = false := by simpa using h2
        by_cases h3 : x4 = 0
        · subst h3
          have h3' : ((0 : Int) == 0) = true := rfl
          cases ok with
          | false =>
           go_wp2_with (first
            | ((with_reducible refine g_ld 86 ?_); refine wpList_ld rfl _ _ rfl _ rfl _ HLD.out ?_)
            | (go_at_call 50; go_loud (refine (HF.out _ HB2.out).mono ?_); rintro e w3 ⟨rfl, hb⟩; have HB3 := Lib.hid ((HB2.out.trans (hb.mono HB2.out.size)).alloc (HB2.out.trans (hb.mono HB2.out.size)).size (.cells (Box.cells b).toArray 82)); clear hb)
            | (go_at_call 87; go_loud (refine (HT.out _).mono ?_); rintro e w4 ⟨rfl, hb⟩; have HB4 := Lib.hid (HB3.out.trans (hb.mono HB3.out.size)); clear hb))
           go_roundw
           case rel => exact ⟨k + 1, s, by omega, by go_num, rfl, by rw [← HS2.out, HH.out]; simp, HB3.out⟩
           case measure => simp [intOf]; omega
          | true =>
           go_wp2_with (first
            | ((with_reducible refine g_ld 86 ?_); refine wpList_ld rfl _ _ rfl _ rfl _ HLD.out ?_)
            | (go_at_call 50; go_loud (refine (HF.out _ HB2.out).mono ?_); rintro e w3 ⟨rfl, hb⟩; have HB3 := Lib.hid ((HB2.out.trans (hb.mono HB2.out.size)).alloc (HB2.out.trans (hb.mono HB2.out.size)).size (.cells (Box.cells b).toArray 82)); clear hb)
            | (go_at_call 87; go_loud (refine (HT.out _).mono ?_); rintro e w4 ⟨rfl, hb⟩; have HB4 := Lib.hid (HB3.out.trans (hb.mono HB3.out.size)); clear hb))
           go_roundw
           case rel => exact ⟨k + 1, s + tallB b, by omega, by go_num, rfl, by rw [← HS2.out, HH.out]; simp, HB4.out⟩
           case measure => simp [intOf]; omega
        · have h3' : (x4 == 0) = false := by simpa using h3
          go_wp2_with (first
           | ((with_reducible refine g_ld 86 ?_); refine wpList_ld rfl _ _ rfl _ rfl _ HLD.out ?_)
           | (go_at_call 50; go_loud (refine (HF.out _ HB2.out).mono ?_); rintro e w3 ⟨rfl, hb⟩; have HB3 := Lib.hid ((HB2.out.trans (hb.mono HB2.out.size)).alloc (HB2.out.trans (hb.mono HB2.out.size)).size (.cells (Box.cells b).toArray 82)); clear hb)
           | (go_at_call 87; go_loud (refine (HT.out _).mono ?_); rintro e w4 ⟨rfl, hb⟩; have HB4 := Lib.hid (HB3.out.trans (hb.mono HB3.out.size)); clear hb))
          go_roundw
          case rel => exact ⟨k + 1, s, by omega, by go_num, rfl, by rw [← HS2.out, HH.out, if_neg (by rintro ⟨_, h | h⟩; exact h2 h; exact h3 h)]; simp, HB2.out⟩
          case measure => simp [intOf]; omega
    · have h1' : (x2 == col) = false := by simpa using h1
      go_wp2_with (first
       | ((with_reducible refine g_ld 86 ?_); refine wpList_ld rfl _ _ rfl _ rfl _ HLD.out ?_)
       | (go_at_call 50; go_loud (refine (HF.out _ HB2.out).mono ?_); rintro e w3 ⟨rfl, hb⟩; have HB3 := Lib.hid ((HB2.out.trans (hb.mono HB2.out.size)).alloc (HB2.out.trans (hb.mono HB2.out.size)).size (.cells (Box.cells b).toArray 82)); clear hb)
       | (go_at_call 87; go_loud (refine (HT.out _).mono ?_); rintro e w4 ⟨rfl, hb⟩; have HB4 := Lib.hid (HB3.out.trans (hb.mono HB3.out.size)); clear hb))
      go_roundw
      case rel => exact ⟨k + 1, s, by omega, by go_num, rfl, by rw [← HS2.out, HH.out, if_neg (fun h => h1 h.1)]; simp, HB2.out⟩
      case measure => simp [intOf]; omega
def slotOf (x : Stowed) : Slot := ⟨x.col, x.tier, x.half⟩
open Go.Maps Go.WideMaps
def seenN (l : List Box) (k : Nat) (s : ByteArray) : Bool := (l.take k).any (fun b => !decide (b.num = noNum) && decide (b.num = s))
def lastId (l : List Box) (k : Nat) : Int := if k = 0 then 0 else (l[k - 1]?.map Box.id).getD 0
def boxBad (l : List Box) (k : Nat) : Bool :=
 match l[k]? with
 | some b => seenN l k b.num || decide (b.id ≤ lastId l k) || !boxB b
 | none => false
def boxValid (l : List Box) : Int × Int :=
 if l.length > 2000 then (-1, 5) else
 match (List.range l.length).find? (boxBad l) with
 | some k => (k, 60)
 | none => (-1, 0)
theorem boxValid_found {l : List Box} {k : Nat} (hl : l.length ≤ 2000) (hk : k < l.length) (hj : ∀ j, j < k → boxBad l j = false) (h : boxBad l k = true) : boxValid l = ((k : Int), 60) := by
 have : (List.range l.length).find? (boxBad l) = some k := by
  rw [List.find?_range_eq_some]
  exact ⟨h, by simpa using hk, fun j hjk => by simp [hj j hjk]⟩
 unfold boxValid
 rw [if_neg (by omega), this]
theorem boxValid_none {l : List Box} (hl : l.length ≤ 2000) (hj : ∀ j, j < l.length → boxBad l j = false) : boxValid l = (-1, 0) := by
 have : (List.range l.length).find? (boxBad l) = none := by
  rw [List.find?_eq_none]
  intro x hx
  rw [hj x (by simpa using hx)]
  simp
 unfold boxValid
 rw [if_neg (by omega), this]
theorem seenN_zero (l : List Box) (s : ByteArray) : seenN l 0 s = false := by simp [seenN]
theorem seenN_succ (l : List Box) (k : Nat) (s : ByteArray) (hk : k < l.length) : seenN l (k + 1) s = (seenN l k s || (!decide (l[k].num = noNum) && decide (l[k].num = s))) := by
 unfold seenN
 rw [List.take_succ_eq_append_getElem hk, List.any_append]
 simp only [List.any_cons, List.any_nil, Bool.or_false]
theorem lastId_succ (l : List Box) (k : Nat) (hk : k < l.length) : lastId l (k + 1) = l[k].id := by
 unfold lastId
 simp [hk]
theorem lastId_zero (l : List Box) : lastId l 0 = 0 := by simp [lastId]
end Go.Proofs.Ytmbfcdnnlpcgfaa
