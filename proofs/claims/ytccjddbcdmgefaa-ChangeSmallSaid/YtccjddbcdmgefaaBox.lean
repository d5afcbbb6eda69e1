/-
  box.Right tells what boxB tells.
-/
import Derived.Test.YtccjddbcdmgefaaIso
namespace Go.Proofs.Ytccjddbcdmgefaa
open Go.RowKit

def kMost (s : Int) : Int := if s = 20 then 32000 else if s = 40 then 40000 else 0
def bWithin (n lo hi : Int) : Bool := decide (lo ≤ n) && decide (n ≤ hi)
def noNum : ByteArray := ⟨#[]⟩
theorem noNum_l : noNum.toList = [] := by unfold noNum; go_simp

def bRule (b : Box) : Nat → Bool
  | 0 => bWithin b.id 1 999999
  | 1 => decide (b.num = noNum) || isoB b.num
  | 2 => !b.high || decide (b.size = 40)
  | 3 => bWithin b.kilos 1 (kMost b.size)
  | 4 => decide (0 ≤ b.load) && decide (b.load < b.dis) && decide (b.dis < 20)
  | _ => decide (b.cls ≤ 9)
def boxB (b : Box) : Bool := bRule b 0 && bRule b 1 && bRule b 2 && bRule b 3 && bRule b 4 && bRule b 5

theorem box_within (n lo hi : Int) (w : World) : Calls Try.prog 76 #[.int .i64 n, .int .i64 lo, .int .i64 hi] w fun e w' => e = .returned (.bool (bWithin n lo hi)) ∧ Below w.heap.size w w' := by
  by_cases h1 : lo ≤ n
  · go_enter Try.func76, Try.ntmps76
    have HW : Hid (bWithin n lo hi = decide (n ≤ hi)) := by unfold Hid bWithin; simp [h1]
    go_wp2
    go_ret
    exact ⟨by rw [HW.out]; rfl, Below.refl _ _⟩
  · go_enter Try.func76, Try.ntmps76
    have HW : Hid (bWithin n lo hi = false) := by unfold Hid bWithin; simp [h1]
    go_wp2
    go_ret
    exact ⟨by rw [HW.out]; rfl, Below.refl _ _⟩

theorem box_most (s : Int) (w : World) : Calls Try.prog 81 #[.int .u8 s] w fun e w' => e = .returned (.int .i64 (kMost s)) ∧ Below w.heap.size w w' := by
  by_cases h1 : s = 20
  · subst h1
    go_enter Try.func81, Try.ntmps81
    go_wp2
    go_ret
    exact ⟨rfl, Below.refl _ _⟩
  · by_cases h2 : s = 40
    · subst h2
      go_enter Try.func81, Try.ntmps81
      go_wp2
      go_ret
      exact ⟨rfl, Below.refl _ _⟩
    · have HK : Hid (kMost s = 0) := by unfold Hid kMost; simp [h1, h2]
      have b1 : (s == 20) = false := by simp [h1]
      have b2 : (s == 40) = false := by simp [h2]
      go_enter Try.func81, Try.ntmps81
      go_wp2
      go_ret
      exact ⟨by rw [HK.out]; rfl, Below.refl _ _⟩

section
variable {b : Box} {g : Nat} {w : World}
theorem box_r0 (hc : ∀ j u, b.cells[j]? = some u → w.cell? ⟨g, j, none⟩ = some u) : Calls Try.prog 75 #[.pointer (some ⟨g, 0, none⟩)] w fun e w' => e = .returned (.bool (bRule b 0)) ∧ Below w.heap.size w w' := by
  have c0 : w.cell? ⟨g, 0, none⟩ = some (.int .i64 b.id) := hc 0 _ rfl
  clear hc
  go_enter Try.func75, Try.ntmps75
  go_wp2_with (go_at_call 76; refine (box_within _ _ _ _).mono ?_; rintro e w1 ⟨rfl, hb1⟩)
  go_ret
  exact ⟨rfl, hb1⟩

theorem box_r1 (hc : ∀ j u, b.cells[j]? = some u → w.cell? ⟨g, j, none⟩ = some u) (hn : b.num.size ≤ 140737488351232) : Calls Try.prog 77 #[.pointer (some ⟨g, 0, none⟩)] w fun e w' => e = .returned (.bool (bRule b 1)) ∧ Below w.heap.size w w' := by
  have c0 : w.cell? ⟨g, 1, none⟩ = some (.string b.num) := hc 1 _ rfl
  have HR : Hid (bRule b 1 = (decide (b.num = noNum) || isoB b.num)) := rfl
  clear hc
  by_cases hz : b.num = noNum
  · have hz' : b.num = ⟨#[]⟩ := hz
    rw [hz'] at c0
    have HZ := Lib.hid hz
    clear hz hz' hn
    go_enter Try.func77, Try.ntmps77
    go_wp2
    go_ret
    exact ⟨by rw [HR.out, HZ.out]; rfl, Below.refl _ _⟩
  · have hz3 : ¬ b.num.toList = [] := fun h => hz (toList_eq.mp (h.trans noNum_l.symm))
    have hz2 : b.num.toList.isEmpty = false := by simpa using hz3
    have HE : Hid (bRule b 1 = isoB b.num) := by unfold Hid; rw [HR.out]; simp [hz]
    clear hz
    go_enter Try.func77, Try.ntmps77
    go_wp2_with (go_at_call 78; refine (iso_right _ _ hn).mono ?_; rintro e w1 ⟨rfl, hb1⟩)
    go_ret
    exact ⟨by rw [HE.out]; rfl, hb1⟩

theorem box_r2 (hc : ∀ j u, b.cells[j]? = some u → w.cell? ⟨g, j, none⟩ = some u) : Calls Try.prog 79 #[.pointer (some ⟨g, 0, none⟩)] w fun e w' => e = .returned (.bool (bRule b 2)) ∧ Below w.heap.size w w' := by
  have c0 : w.cell? ⟨g, 2, none⟩ = some (.int .u8 b.size) := hc 2 _ rfl
  have c1 : w.cell? ⟨g, 3, none⟩ = some (.bool b.high) := hc 3 _ rfl
  have HR : Hid (bRule b 2 = (!b.high || decide (b.size = 40))) := rfl
  clear hc
  cases hh : b.high with
  | true =>
    rw [hh] at c1
    have HE : Hid (bRule b 2 = (b.size == 40)) := by unfold Hid; rw [HR.out, hh]; simp; by_cases h : b.size = 40 <;> simp [h]
    clear hh
    go_enter Try.func79, Try.ntmps79
    go_wp2
    go_ret
    exact ⟨by rw [HE.out]; rfl, Below.refl _ _⟩
  | false =>
    rw [hh] at c1
    have HE : Hid (bRule b 2 = true) := by unfold Hid; rw [HR.out, hh]; simp
    clear hh
    go_enter Try.func79, Try.ntmps79
    go_wp2
    go_ret
    exact ⟨by rw [HE.out]; rfl, Below.refl _ _⟩

theorem box_r3 (hc : ∀ j u, b.cells[j]? = some u → w.cell? ⟨g, j, none⟩ = some u) : Calls Try.prog 80 #[.pointer (some ⟨g, 0, none⟩)] w fun e w' => e = .returned (.bool (bRule b 3)) ∧ Below w.heap.size w w' := by
  have c0 : w.cell? ⟨g, 2, none⟩ = some (.int .u8 b.size) := hc 2 _ rfl
  have c1 : w.cell? ⟨g, 4, none⟩ = some (.int .i64 b.kilos) := hc 4 _ rfl
  have hlt : g < w.heap.size := block_lt_of_cell c0
  clear hc
  have HC1 : Hid (∀ w', From w w' → (loadVar 3 ⟨g, 4, none⟩).run Try.prog w' = .ok (.int .i64 b.kilos) w') := fun w' hb => run_load_cell Try.underlying3 rfl ((hb.cell (p := ⟨g, _, none⟩) (by simpa using hlt)).trans c1)
  have HC2 : Hid (∀ w', From w w' → (loadVar 5 ⟨g, 2, none⟩).run Try.prog w' = .ok (.int .u8 b.size) w') := fun w' hb => run_load_cell Try.underlying5 rfl ((hb.cell (p := ⟨g, _, none⟩) (by simpa using hlt)).trans c0)
  clear c0 c1
  go_enter Try.func80, Try.ntmps80
  go_wp2
  refine wp_region_below (by kernel_rfl) (by kernel_rfl) w.heap.size ?_
  repeat (first | go_big_quiet_skip | (go_big_quiet_want; refine quiet_ld 3 _ rfl _ rfl _ (fun w' hC => HC1.out w' hC) ?_; simp only [Act.put, List.setIfInBounds_toArray, List.set_cons_succ, List.set_cons_zero]; go_big_quiet_on) | (go_big_quiet_want; refine quiet_ld 5 _ rfl _ rfl _ (fun w' hC => HC2.out w' hC) ?_; simp only [Act.put, List.setIfInBounds_toArray, List.set_cons_succ, List.set_cons_zero]; go_big_quiet_on) | go_big_quiet_step (first | (intro hC; rfl) | (intro hC; exact ⟨rfl, rfl⟩) | (intro hC; (with_reducible refine (box_most _ _).mono ?_); rintro e w1 ⟨rfl, hb1⟩; exact ⟨rfl, hC.trans (hb1.mono hC.size)⟩) | (intro hC; (with_reducible refine (box_within _ _ _ _).mono ?_); rintro e w1 ⟨rfl, hb1⟩; exact ⟨rfl, hC.trans (hb1.mono hC.size)⟩)))
  refine wpQuiet_nil ?_
  intro w' hC
  go_wp2
  go_ret
  exact ⟨rfl, hC⟩

theorem box_r4 (hc : ∀ j u, b.cells[j]? = some u → w.cell? ⟨g, j, none⟩ = some u) : Calls Try.prog 82 #[.pointer (some ⟨g, 0, none⟩)] w fun e w' => e = .returned (.bool (bRule b 4)) ∧ Below w.heap.size w w' := by
  have c0 : w.cell? ⟨g, 5, none⟩ = some (.int .i64 b.load) := hc 5 _ rfl
  have c1 : w.cell? ⟨g, 6, none⟩ = some (.int .i64 b.dis) := hc 6 _ rfl
  have HR : Hid (bRule b 4 = (decide (0 ≤ b.load) && decide (b.load < b.dis) && decide (b.dis < 20))) := rfl
  clear hc
  by_cases h1 : 0 ≤ b.load
  · by_cases h2 : b.load < b.dis
    · have HE : Hid (bRule b 4 = decide (b.dis < 20)) := by unfold Hid; rw [HR.out]; simp [h1, h2]
      go_enter Try.func82, Try.ntmps82
      go_wp2
      go_ret
      exact ⟨by rw [HE.out]; rfl, Below.refl _ _⟩
    · have HE : Hid (bRule b 4 = false) := by unfold Hid; rw [HR.out]; simp [h2]
      go_enter Try.func82, Try.ntmps82
      go_wp2
      go_ret
      exact ⟨by rw [HE.out]; rfl, Below.refl _ _⟩
  · have HE : Hid (bRule b 4 = false) := by unfold Hid; rw [HR.out]; simp [h1]
    go_enter Try.func82, Try.ntmps82
    go_wp2
    go_ret
    exact ⟨by rw [HE.out]; rfl, Below.refl _ _⟩

theorem box_r5 (hc : ∀ j u, b.cells[j]? = some u → w.cell? ⟨g, j, none⟩ = some u) : Calls Try.prog 83 #[.pointer (some ⟨g, 0, none⟩)] w fun e w' => e = .returned (.bool (bRule b 5)) ∧ Below w.heap.size w w' := by
  have c0 : w.cell? ⟨g, 7, none⟩ = some (.int .u8 b.cls) := hc 7 _ rfl
  clear hc
  go_enter Try.func83, Try.ntmps83
  go_wp2
  go_ret
  exact ⟨rfl, Below.refl _ _⟩

/-- what calls the rule -/
theorem box_r7 {fn : FuncId} {caps : Array Value} {p : Bool} (hcf : ∀ w args, (callFunc fn args).run Try.prog w = .ok (.enter fn args) w) (hcall : Calls Try.prog fn caps w fun e w' => e = .returned (.bool p) ∧ Below w.heap.size w w') :
    Calls Try.prog 85 #[.func (.func fn) #[] caps] w fun e w' => e = .returned (.bool (!p)) ∧ Below w.heap.size w w' := by
  have HC := Lib.hid hcall
  clear hcall
  go_enter Try.func85, Try.ntmps85
  go_wp2_with (first | (refine (HC.out).mono ?_; rintro e w1 ⟨rfl, hb1⟩))
  go_ret
  exact ⟨rfl, hb1⟩
end

/-- the rules, as the code lists them -/
def ruleF : Nat → FuncId
  | 0 => 75
  | 1 => 77
  | 2 => 79
  | 3 => 80
  | 4 => 82
  | _ => 83
def ruleV (g k : Nat) : Value := .func (.func (ruleF k)) #[] #[.pointer (some ⟨g, 0, none⟩)]

theorem rule_cf (k : Nat) (w : World) (args : Array Value) : (callFunc (ruleF k) args).run Try.prog w = .ok (.enter (ruleF k) args) w := by
  unfold ruleF
  split <;> go_simp

theorem box_rule {b : Box} {g : Nat} {w : World} (k : Nat) (hk : k < 6) (hc : ∀ j u, b.cells[j]? = some u → w.cell? ⟨g, j, none⟩ = some u) (hn : b.num.size ≤ 140737488351232) :
    Calls Try.prog (ruleF k) #[.pointer (some ⟨g, 0, none⟩)] w fun e w' => e = .returned (.bool (bRule b k)) ∧ Below w.heap.size w w' := by
  have : k = 0 ∨ k = 1 ∨ k = 2 ∨ k = 3 ∨ k = 4 ∨ k = 5 := by omega
  rcases this with rfl | rfl | rfl | rfl | rfl | rfl
  · exact box_r0 hc
  · exact box_r1 hc hn
  · exact box_r2 hc
  · exact box_r3 hc
  · exact box_r4 hc
  · exact box_r5 hc

theorem boxB_all {b : Box} (h : ∀ k, k < 6 → bRule b k = true) : boxB b = true := by
  unfold boxB
  rw [h 0 (by omega), h 1 (by omega), h 2 (by omega), h 3 (by omega), h 4 (by omega), h 5 (by omega)]
  rfl
theorem boxB_bad {b : Box} {k : Nat} (hk : k < 6) (h : bRule b k = false) : boxB b = false := by
  have : k = 0 ∨ k = 1 ∨ k = 2 ∨ k = 3 ∨ k = 4 ∨ k = 5 := by omega
  unfold boxB
  rcases this with rfl | rfl | rfl | rfl | rfl | rfl <;> rw [h] <;> simp

theorem box_r7_cf (w : World) (args : Array Value) : (callFunc 85 args).run Try.prog w = .ok (.enter 85 args) w := by
  go_simp

set_option maxRecDepth 100000 in
/-- the first rule that a box breaks -/
theorem rules_index (b : Box) (g h c : Nat) (w : World) (hn : b.num.size ≤ 140737488351232) (hb : ∀ w', From w w' → ∀ j u, b.cells[j]? = some u → w'.cell? ⟨g, j, none⟩ = some u)
    (hr : ∀ w', From w w' → ∀ k, k < 6 → w'.cell? ⟨h, k, none⟩ = some (ruleV g k)) :
    Calls Try.prog 88 #[.slice (some ⟨h, 0, none⟩) 6 c, .func (.func 85) #[] #[]] w fun e w' => (∃ i : Int, e = .returned (.int .i64 i) ∧ decide (i ≥ 0) = !boxB b) ∧ Below w.heap.size w w' := by
  have HB := Lib.hid hb
  have HR := Lib.hid hr
  have hcf := box_r7_cf
  clear hb hr
  go_enter Try.func88, Try.ntmps88
  go_wp2
  go_loopw [5, 8] (fun _ i wr => ∃ k : Nat, k ≤ 6 ∧ i = .int .i64 k ∧ (∀ j, (h : j < k) → bRule b j = true) ∧ From w wr) (fun _ i _ => 6 - (intOf i).toNat)
  case atStart => exact ⟨0, by omega, rfl, by omega, Below.refl _ _⟩
  case round =>
    obtain ⟨k, hk, rfl, hj, hw⟩ := hrel
    have HJ := Lib.hid hj
    clear hj
    by_cases hlt : k < 6
    · have HL : Hid ((loadVar 25 ⟨h, k, none⟩).run Try.prog wr = .ok (ruleV g k) wr) := run_load_cell Try.underlying25 rfl (HR.out wr hw k hlt)
      have HC := Lib.hid (box_r7 (rule_cf k) (box_rule k hlt (HB.out wr hw) hn))
      go_wp2_with (first
        | (refine wpList_ld rfl 25 _ rfl _ rfl _ HL.out ?_)
        | (go_at_call 85; refine (HC.out).mono ?_; rintro e w' ⟨rfl, hb3⟩))
      · have hf : bRule b k = false := by
          have h9 : (!bRule b k) = true := by assumption
          simpa using h9
        have HD := Lib.hid (boxB_bad hlt hf)
        go_ret
        exact ⟨⟨_, rfl, by rw [HD.out]; simp⟩, hw.trans (hb3.mono hw.size)⟩
      · have ht : bRule b k = true := by
          have h9 : (!bRule b k) = false := by assumption
          simpa using h9
        go_roundw
        case rel =>
          refine ⟨k + 1, by omega, by go_num, fun j h => ?_, hw.trans (hb3.mono hw.size)⟩
          rcases Nat.lt_or_ge j k with h3 | h3
          · exact HJ.out j h3
          · obtain rfl : j = k := by omega
            exact ht
        case measure => simp [intOf]; omega
    · obtain rfl : k = 6 := by omega
      have HI := Lib.hid (boxB_all HJ.out)
      go_wp2
      go_ret
      exact ⟨⟨_, rfl, by rw [HI.out]; rfl⟩, hw⟩


theorem rules_contains (b : Box) (g h c : Nat) (w : World) (hn : b.num.size ≤ 140737488351232) (hb : ∀ w', From w w' → ∀ j u, b.cells[j]? = some u → w'.cell? ⟨g, j, none⟩ = some u)
    (hr : ∀ w', From w w' → ∀ k, k < 6 → w'.cell? ⟨h, k, none⟩ = some (ruleV g k)) :
    Calls Try.prog 84 #[.slice (some ⟨h, 0, none⟩) 6 c, .func (.func 85) #[] #[]] w fun e w' => e = .returned (.bool (!boxB b)) ∧ Below w.heap.size w w' := by
  have HC := Lib.hid (rules_index b g h c w hn hb hr)
  clear hb hr
  go_enter Try.func84, Try.ntmps84
  go_wp2_with (go_at_call 88; refine (HC.out).mono ?_; rintro e w1 ⟨⟨i, rfl, hi⟩, hb1⟩; have HI := Lib.hid hi; clear hi)
  go_ret
  exact ⟨by rw [← HI.out]; rfl, hb1⟩

abbrev boxW (b : Box) (w : World) : World := (w.alloc (Obj.cells #[.int .i64 b.id, .string b.num, .int .u8 b.size, .bool b.high, .int .i64 b.kilos, .int .i64 b.load, .int .i64 b.dis, .int .u8 b.cls, .bool b.reefer] 73)).alloc (Obj.cells #[.func (.func 75) #[] #[.pointer (some ⟨w.heap.size, 0, none⟩)], .func (.func 77) #[] #[.pointer (some ⟨w.heap.size, 0, none⟩)], .func (.func 79) #[] #[.pointer (some ⟨w.heap.size, 0, none⟩)], .func (.func 80) #[] #[.pointer (some ⟨w.heap.size, 0, none⟩)], .func (.func 82) #[] #[.pointer (some ⟨w.heap.size, 0, none⟩)], .func (.func 83) #[] #[.pointer (some ⟨w.heap.size, 0, none⟩)]] 25)

set_option maxHeartbeats 1000000 in
theorem box_right (b : Box) (w : World) (hn : b.num.size ≤ 140737488351232) :
    Calls Try.prog 72 #[b.val] w fun e w' => e = .returned (.bool (boxB b)) ∧ Below w.heap.size w w' := by
  have HB : Hid (Below w.heap.size w (boxW b w) ∧ ∀ w', From (boxW b w) w' → (∀ j u, b.cells[j]? = some u → w'.cell? ⟨w.heap.size, j, none⟩ = some u) ∧ ∀ k, k < 6 → w'.cell? ⟨w.heap.size + 1, k, none⟩ = some (ruleV w.heap.size k)) := by
    refine ⟨((Below.refl _ _).alloc (Nat.le_refl _) _).alloc (by simp) _, fun w' hb => ?_⟩
    have hs : (boxW b w).heap.size = w.heap.size + 2 := size_alloc2 _ _ _
    have k0 : (boxW b w).heap[w.heap.size]? = some (.cells #[.int .i64 b.id, .string b.num, .int .u8 b.size, .bool b.high, .int .i64 b.kilos, .int .i64 b.load, .int .i64 b.dis, .int .u8 b.cls, .bool b.reefer] 73 (0, 0)) := heap_alloc2_old w _ _
    have k1 : (boxW b w).heap[w.heap.size + 1]? = some (.cells #[.func (.func 75) #[] #[.pointer (some ⟨w.heap.size, 0, none⟩)], .func (.func 77) #[] #[.pointer (some ⟨w.heap.size, 0, none⟩)], .func (.func 79) #[] #[.pointer (some ⟨w.heap.size, 0, none⟩)], .func (.func 80) #[] #[.pointer (some ⟨w.heap.size, 0, none⟩)], .func (.func 82) #[] #[.pointer (some ⟨w.heap.size, 0, none⟩)], .func (.func 83) #[] #[.pointer (some ⟨w.heap.size, 0, none⟩)]] 25 (0, 0)) := heap_alloc2_new w _ _
    refine ⟨fun j u hu => ?_, fun k hk => ?_⟩
    · rw [cell_of_row w' w.heap.size j _ _ _ ((hb.block _ (by omega)).trans k0)]
      simpa [Box.cells] using hu
    · rw [cell_of_row w' (w.heap.size + 1) k _ _ _ ((hb.block _ (by omega)).trans k1)]
      have : k = 0 ∨ k = 1 ∨ k = 2 ∨ k = 3 ∨ k = 4 ∨ k = 5 := by omega
      rcases this with rfl | rfl | rfl | rfl | rfl | rfl <;> rfl
  have HC := Lib.hid (rules_contains b w.heap.size (w.heap.size + 1) 6 (boxW b w) hn (fun w' h => (HB.out.2 w' h).1) (fun w' h => (HB.out.2 w' h).2))
  go_enter Try.func72, Try.ntmps72
  go_wp2_with (go_at_call 84; refine (HC.out).mono ?_; rintro e w1 ⟨rfl, hb1⟩)
  go_ret
  exact ⟨by simp, HB.out.1.trans (hb1.mono HB.out.1.size)⟩

end Go.Proofs.Ytccjddbcdmgefaa
