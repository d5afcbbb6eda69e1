/-
  slices.IndexFunc at the types of this seat.
-/
import Derived.Test.YtccjddbcdmgefaaTypes
namespace Go.Proofs.Ytccjddbcdmgefaa
open Go.RowKit

/-- a function value that tells p of each of l, from a world on -/
def Tells {α : Type} (P : Program) (w : World) (fn : FuncId) (caps : Array Value) (val : α → Value) (p : α → Bool) (l : List α) : Prop :=
  ∀ x ∈ l, ∀ w', Below w.heap.size w w' → Calls P fn (#[val x] ++ caps) w' fun e w2 => e = .returned (.bool (p x)) ∧ Below w'.heap.size w' w2

theorem Tells.below {α : Type} {P : Program} {w w' : World} {fn : FuncId} {caps : Array Value} {val : α → Value} {p : α → Bool} {l : List α} (h : Tells P w fn caps val p l) (hb : Below w.heap.size w w') : Tells P w' fn caps val p l :=
  fun x hx w2 h2 => h x hx w2 (hb.trans (h2.mono hb.size))

def idx {α : Type} (p : α → Bool) (l : List α) : Int := match l.findIdx? p with | some i => i | none => -1

theorem idx_found {α : Type} {p : α → Bool} {l : List α} {k : Nat} (hk : k < l.length) (hj : ∀ j, (h : j < k) → p l[j] = false) (hx : p l[k] = true) : idx p l = k := by
  have : l.findIdx? p = some k := by
    rw [List.findIdx?_eq_some_iff_getElem]
    exact ⟨hk, hx, fun j hjk => by simp [hj j hjk]⟩
  unfold idx
  rw [this]

theorem idx_none {α : Type} {p : α → Bool} {l : List α} (hj : ∀ j, (h : j < l.length) → p l[j] = false) : idx p l = -1 := by
  have : l.findIdx? p = none := by
    rw [List.findIdx?_eq_none_iff]
    intro x hx
    obtain ⟨j, hj', rfl⟩ := List.mem_iff_getElem.1 hx
    exact hj j hj'
  unfold idx
  rw [this]

theorem idx_cases {α : Type} (p : α → Bool) (l : List α) : (idx p l = -1 ∧ ∀ x ∈ l, p x = false) ∨ ∃ k, ∃ h : k < l.length, idx p l = k ∧ p l[k] = true ∧ l.find? p = some l[k] := by
  unfold idx
  cases hf : l.findIdx? p with
  | none => exact .inl ⟨rfl, by simpa using hf⟩
  | some k =>
    rw [List.findIdx?_eq_some_iff_getElem] at hf
    obtain ⟨h, h1, h2⟩ := hf
    refine .inr ⟨k, h, rfl, h1, ?_⟩
    rw [List.find?_eq_some_iff_getElem]
    exact ⟨h1, k, h, rfl, fun j hj => by have := h2 j hj; simpa using this⟩


set_option maxHeartbeats 1000000 in
theorem indexStowed (A : Option Addr) (c : Nat) (l : List Stowed) (n : Nat) (hn : n = l.length) (fn : FuncId) (caps : Array Value) (p : Stowed → Bool) (w : World) (hA : Rd w w.heap.size 4 A (l.map Stowed.cells)) (hl : l.length ≤ 1000000000000) (hcf : ∀ w args, (callFunc fn args).run Try.prog w = .ok (.enter fn args) w) (hf : Tells Try.prog w fn caps Stowed.val p l) :
    Calls Try.prog 45 #[.slice A n c, .func (.func fn) #[] caps] w fun e w' => e = .returned (.int .i64 (idx p l)) ∧ Below w.heap.size w w' := by
  subst hn
  go_enter Try.func45, Try.ntmps45
  go_wp2
  have HF := Lib.hid hf
  clear hf
  go_loopw [5, 8] (fun _ i wr => ∃ k : Nat, k ≤ l.length ∧ i = .int .i64 k ∧ (∀ j, (h : j < k) → (h2 : j < l.length) → p l[j] = false) ∧ Below w.heap.size w wr) (fun _ i _ => l.length - (intOf i).toNat)
  case atStart => exact ⟨0, by omega, rfl, by omega, Below.refl _ _⟩
  case round =>
    obtain ⟨k, hk, rfl, hj, hb⟩ := hrel
    have HJ := Lib.hid hj
    clear hj
    by_cases hlt : k < l.length
    · obtain ⟨b, off, rfl, hb1, hld⟩ := Stowed.ld hA (map_get Stowed.cells l k hlt)
      have HL := Lib.hid hld
      clear hld
      go_wp2_with (first
        | (refine wpList_ld rfl _ _ rfl _ rfl _ (HL.out _ hb) ?_)
        | (refine (HF.out l[k] (List.getElem_mem hlt) _ hb).mono ?_; rintro e w' ⟨rfl, hb3⟩))
      · have ht : p l[k] = true := by assumption
        go_ret
        exact ⟨by rw [idx_found hlt (fun j h => HJ.out j h (by omega)) ht]; rfl, hb.trans (hb3.mono hb.size)⟩
      · have hf' : p l[k] = false := by assumption
        go_roundw
        case rel =>
          refine ⟨k + 1, by omega, by go_num, fun j h h2 => ?_, hb.trans (hb3.mono hb.size)⟩
          rcases Nat.lt_or_ge j k with h3 | h3
          · exact HJ.out j h3 h2
          · obtain rfl : j = k := by omega
            exact hf'
        case measure => simp [intOf]; omega
    · obtain rfl : k = l.length := by omega
      have HI := Lib.hid (idx_none (fun j h => HJ.out j h h))
      go_wp2
      go_ret
      exact ⟨by rw [HI.out]; rfl, hb⟩


set_option maxHeartbeats 1000000 in
theorem indexBox (A : Option Addr) (c : Nat) (l : List Box) (n : Nat) (hn : n = l.length) (fn : FuncId) (caps : Array Value) (p : Box → Bool) (w : World) (hA : Rd w w.heap.size 9 A (l.map Box.cells)) (hl : l.length ≤ 1000000000000) (hcf : ∀ w args, (callFunc fn args).run Try.prog w = .ok (.enter fn args) w) (hf : Tells Try.prog w fn caps Box.val p l) :
    Calls Try.prog 56 #[.slice A n c, .func (.func fn) #[] caps] w fun e w' => e = .returned (.int .i64 (idx p l)) ∧ Below w.heap.size w w' := by
  subst hn
  go_enter Try.func56, Try.ntmps56
  go_wp2
  have HF := Lib.hid hf
  clear hf
  go_loopw [5, 8] (fun _ i wr => ∃ k : Nat, k ≤ l.length ∧ i = .int .i64 k ∧ (∀ j, (h : j < k) → (h2 : j < l.length) → p l[j] = false) ∧ Below w.heap.size w wr) (fun _ i _ => l.length - (intOf i).toNat)
  case atStart => exact ⟨0, by omega, rfl, by omega, Below.refl _ _⟩
  case round =>
    obtain ⟨k, hk, rfl, hj, hb⟩ := hrel
    have HJ := Lib.hid hj
    clear hj
    by_cases hlt : k < l.length
    · obtain ⟨b, off, rfl, hb1, hld⟩ := Box.ld hA (map_get Box.cells l k hlt)
      have HL := Lib.hid hld
      clear hld
      go_wp2_with (first
        | (refine wpList_ld rfl _ _ rfl _ rfl _ (HL.out _ hb) ?_)
        | (refine (HF.out l[k] (List.getElem_mem hlt) _ hb).mono ?_; rintro e w' ⟨rfl, hb3⟩))
      · have ht : p l[k] = true := by assumption
        go_ret
        exact ⟨by rw [idx_found hlt (fun j h => HJ.out j h (by omega)) ht]; rfl, hb.trans (hb3.mono hb.size)⟩
      · have hf' : p l[k] = false := by assumption
        go_roundw
        case rel =>
          refine ⟨k + 1, by omega, by go_num, fun j h h2 => ?_, hb.trans (hb3.mono hb.size)⟩
          rcases Nat.lt_or_ge j k with h3 | h3
          · exact HJ.out j h3 h2
          · obtain rfl : j = k := by omega
            exact hf'
        case measure => simp [intOf]; omega
    · obtain rfl : k = l.length := by omega
      have HI := Lib.hid (idx_none (fun j h => HJ.out j h h))
      go_wp2
      go_ret
      exact ⟨by rw [HI.out]; rfl, hb⟩

end Go.Proofs.Ytccjddbcdmgefaa
