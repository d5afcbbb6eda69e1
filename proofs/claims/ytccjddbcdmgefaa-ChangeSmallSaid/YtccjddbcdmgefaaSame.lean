/-
  change.Same and its reference count the same.
-/
import Derived.Test.YtccjddbcdmgefaaPlan
import Derived.Test.YtccjddbcdmgefaaDraw
import Derived.Test.YtccjddbcdmgefaaIndex
namespace Go.Proofs.Ytccjddbcdmgefaa
open Go.RowKit

def Stowed.slot (x : Stowed) : Slot := ⟨x.col, x.tier, x.half⟩

def atOpt (l : List Stowed) (id : Int) : Option Slot := (l.find? fun y => y.box == id).map Stowed.slot
def atVal : Option Slot → Value
  | some s => .tuple #[s.val, .bool true]
  | none => .tuple #[Slot.val ⟨0, 0, 0⟩, .bool false]

theorem find_first {l : List Stowed} {id : Int} {k : Nat} (hk : k < l.length) (hj : ∀ j, (h : j < k) → l[j].box ≠ id) (hx : l[k].box = id) : atOpt l id = some l[k].slot := by
  unfold atOpt
  have : l.find? (fun y => y.box == id) = some l[k] := by
    rw [List.find?_eq_some_iff_getElem]
    refine ⟨by simp [hx], k, hk, rfl, fun j hjk => by simpa using hj j hjk⟩
  rw [this]
  rfl

theorem find_none {l : List Stowed} {id : Int} (hj : ∀ j, (h : j < l.length) → l[j].box ≠ id) : atOpt l id = none := by
  unfold atOpt
  rw [Option.map_eq_none_iff, List.find?_eq_none]
  intro x hx
  obtain ⟨j, hj', rfl⟩ := List.mem_iff_getElem.1 hx
  simpa using hj j hj'

set_option maxHeartbeats 1000000 in
theorem at_any (A : Option Addr) (c : Nat) (l : List Stowed) (id : Int) (w : World) (hA : Rd w w.heap.size 4 A (l.map Stowed.cells)) (hl : l.length ≤ 1000000) :
    Calls Try.prog 46 #[.slice A l.length c, .int .i64 id] w fun e w' => e = .returned (atVal (atOpt l id)) ∧ Below w.heap.size w w' := by
  go_enter Try.func46, Try.ntmps46
  go_wp2
  go_loop [6] (fun i => ∃ k : Nat, k ≤ l.length ∧ i = .int .i64 k ∧ ∀ j, (h : j < k) → (h2 : j < l.length) → l[j].box ≠ id) (fun i => l.length - (intOf i).toNat)
  case atStart => exact ⟨0, by omega, rfl, by omega⟩
  case round =>
    obtain ⟨k, hk, rfl, hj⟩ := hrel
    have HJ := Lib.hid hj
    clear hj
    by_cases hlt : k < l.length
    · obtain ⟨b, off, rfl, hb, hc⟩ := Stowed.at_ hA k hlt
      obtain ⟨c0, c1, c2, c3⟩ := hc w (Below.refl _ _)
      clear hc
      by_cases hx : l[k].box = id
      · have hfin := find_first hlt (fun j h => HJ.out j h (by omega)) hx
        have HF := Lib.hid hfin
        have hx' : (l[k].box == id) = true := by simp [hx]
        clear hfin hx
        go_wp2
        exact bodyPost_ret (v := .tuple #[Slot.val l[k].slot, .bool true]) (by simp [results, Try.results46, go_sem, Stowed.slot]) rfl ⟨by rw [HF.out]; rfl, (Below.refl _ _).alloc (Nat.le_refl _) _⟩
      · have hx' : (l[k].box == id) = false := by simp [hx]
        have HX := Lib.hid hx
        clear hx
        go_wp2
        go_round
        case rel =>
          refine ⟨k + 1, by omega, by go_num, fun j h h2 => ?_⟩
          rcases Nat.lt_or_ge j k with h3 | h3
          · exact HJ.out j h3 h2
          · obtain rfl : j = k := by omega
            exact HX.out
        case measure => simp [intOf]; omega
    · obtain rfl : k = l.length := by omega
      have HF := Lib.hid (find_none (fun j h => HJ.out j h h))
      go_wp2
      exact bodyPost_ret (v := .tuple #[Slot.val ⟨0, 0, 0⟩, .bool false]) (by simp [results, Try.results46, go_sem]) rfl ⟨by rw [HF.out]; rfl, (Below.refl _ _).alloc (Nat.le_refl _) _⟩

/-- one box of a state, compared -/
def rowStep (a b : List Stowed) (acc : Nat × Nat) (x : Stowed) : Nat × Nat :=
  match atOpt b x.box with
  | none => acc
  | some s => (acc.1 + (if atOpt a x.box = some s then 1 else 0), acc.2 + 1)
def rowAcc (a b : List Stowed) (k : Nat) (acc : Nat × Nat) : Nat × Nat := (a.take k).foldl (rowStep a b) acc
def sameAcc (P Q : List (List Stowed)) (frm : Int) : Nat → Nat × Nat
  | 0 => (0, 0)
  | k + 1 => if frm ≤ (k : Int) then rowAcc (P.getD k []) (Q.getD k []) (P.getD k []).length (sameAcc P Q frm k) else sameAcc P Q frm k

theorem rowStep_le (a b : List Stowed) (acc : Nat × Nat) (x : Stowed) (n : Nat) (h1 : acc.1 ≤ n) (h2 : acc.2 ≤ n) : (rowStep a b acc x).1 ≤ n + 1 ∧ (rowStep a b acc x).2 ≤ n + 1 := by
  unfold rowStep
  split
  · exact ⟨by omega, by omega⟩
  · exact ⟨by split <;> simp only <;> omega, by simp only; omega⟩
theorem rowAcc_succ (a b : List Stowed) (k : Nat) (acc : Nat × Nat) (h : k < a.length) : rowAcc a b (k + 1) acc = rowStep a b (rowAcc a b k acc) a[k] := by
  unfold rowAcc
  rw [List.take_succ_eq_append_getElem h, List.foldl_append]
  rfl
theorem rowAcc_le (a b : List Stowed) (acc : Nat × Nat) (n : Nat) (h1 : acc.1 ≤ n) (h2 : acc.2 ≤ n) : ∀ k, k ≤ a.length → (rowAcc a b k acc).1 ≤ n + k ∧ (rowAcc a b k acc).2 ≤ n + k
  | 0, _ => by simp [rowAcc, h1, h2]
  | k + 1, h => by
    have ih := rowAcc_le a b acc n h1 h2 k (by omega)
    rw [rowAcc_succ a b k acc (by omega)]
    exact rowStep_le a b _ _ (n + k) ih.1 ih.2
theorem sameAcc_le (P Q : List (List Stowed)) (frm : Int) (h : ∀ l ∈ P, l.length ≤ 1000) : ∀ k, (sameAcc P Q frm k).1 ≤ 1000 * k ∧ (sameAcc P Q frm k).2 ≤ 1000 * k
  | 0 => by simp [sameAcc]
  | k + 1 => by
    have ih := sameAcc_le P Q frm h k
    unfold sameAcc
    split
    · have hl : (P.getD k []).length ≤ 1000 := by
        rcases Nat.lt_or_ge k P.length with hk | hk
        · have e : P.getD k [] = P[k] := by simp [hk]
          rw [e]; exact h _ (List.getElem_mem hk)
        · have e : P.getD k [] = [] := by simp [hk]
          rw [e]; simp
      have := rowAcc_le (P.getD k []) (Q.getD k []) (sameAcc P Q frm k) (1000 * k) ih.1 ih.2 _ (Nat.le_refl _)
      omega
    · omega


theorem Stowed.ldSlot {w : World} {B : Nat} {A : Option Addr} {l : List Stowed} (h : Rd w B 4 A (l.map Stowed.cells)) (k : Nat) (hk : k < l.length) :
    ∃ b off, A = some ⟨b, off, none⟩ ∧ b < B ∧ ∀ w', Below B w w' → (loadVar 40 ⟨b, off + k * 4 + 1, none⟩).run Try.prog w' = .ok l[k].slot.val w' := by
  obtain ⟨b, off, e, hlt, hc⟩ := Stowed.at_ h k hk
  refine ⟨b, off, e, hlt, fun w' hb => ?_⟩
  obtain ⟨_, h1, h2, h3⟩ := hc w' hb
  refine run_load_cells Slot.row (cs := l[k].slot.cells) rfl fun j u hu => ?_
  rw [Addr.add_lit]
  match j, hu with
  | 0, hu => simp [Slot.cells] at hu; subst hu; exact h1
  | 1, hu => simp [Slot.cells] at hu; subst hu; exact h2
  | 2, hu => simp [Slot.cells] at hu; subst hu; exact h3

theorem sameFn (y : Stowed) (id : Int) (g : Nat) (w : World) (hg : w.cell? ⟨g, 0, none⟩ = some (.int .i64 id)) :
    Calls Try.prog 44 #[y.val, .pointer (some ⟨g, 0, none⟩)] w fun e w' => e = .returned (.bool (y.box == id)) ∧ Below w.heap.size w w' := by
  have hlt : g < w.heap.size := block_lt_of_cell hg
  go_enter Try.func44, Try.ntmps44
  go_wp2
  go_ret
  exact ⟨rfl, (Below.refl _ _).alloc (Nat.le_refl _) _⟩

theorem sameFn_cf (w : World) (args : Array Value) : (callFunc 44 args).run Try.prog w = .ok (.enter 44 args) w := by
  go_simp

theorem same_tells {W w' : World} {g : Nat} {id : Int} (h : ∀ w2, Below W.heap.size W w2 → w2.cell? ⟨g, 0, none⟩ = some (.int .i64 id)) (hb : Below W.heap.size W w') (l : List Stowed) :
    Tells Try.prog w' 44 #[.pointer (some ⟨g, 0, none⟩)] Stowed.val (fun y => y.box == id) l :=
  fun y _ w2 h2 => sameFn y _ _ w2 (h w2 (hb.trans (h2.mono hb.size)))

theorem rowStep_none {a b : List Stowed} {acc : Nat × Nat} {x : Stowed} (h : idx (fun y : Stowed => y.box == x.box) b = -1 ∧ ∀ y ∈ b, (y.box == x.box) = false) : rowStep a b acc x = acc := by
  unfold rowStep
  rw [find_none (l := b) (id := x.box) (fun j hj => by simpa using h.2 b[j] (List.getElem_mem hj))]

theorem rowStep_some {a b : List Stowed} {acc : Nat × Nat} {x : Stowed} {k1 k2 : Nat} {h1 : k1 < a.length} {h2 : k2 < b.length} (f1 : a.find? (fun y : Stowed => y.box == x.box) = some a[k1]) (f2 : b.find? (fun y : Stowed => y.box == x.box) = some b[k2]) :
    rowStep a b acc x = (acc.1 + (if a[k1].slot = b[k2].slot then 1 else 0), acc.2 + 1) := by
  unfold rowStep atOpt
  rw [f1, f2]
  simp

theorem sameAcc_zero (P Q : List (List Stowed)) (frm : Int) : ∀ k : Nat, (k : Int) ≤ frm ∨ k = 0 → sameAcc P Q frm k = (0, 0)
  | 0, _ => rfl
  | k + 1, h => by
    unfold sameAcc
    rw [if_neg (by omega)]
    exact sameAcc_zero P Q frm k (by omega)

end Go.Proofs.Ytccjddbcdmgefaa
