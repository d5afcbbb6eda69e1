/-
  Rows of numbers: how they read, how the call makes and writes them.
  Numbers as lists of digits to a base, the lowest one first: plain Lean, no program.
  What the loops over digits keep, in plain Lean: sums, differences, products, quotients.
-/
import Derived.Test.YtcdfnlgimbecgaaMo4

namespace Go.Proofs.Ytcdfnlgimbecgaa
open Go.RowKit

/-- numbers of a kind, as cells -/
def nums (k : IntKind) (l : List Nat) : List (List Value) := l.map fun (n : Nat) => [Value.int k (n : Int)]
theorem nums_len (k : IntKind) (l : List Nat) : (nums k l).length = l.length := by simp [nums]
theorem nums_lens (k : IntKind) (l : List Nat) : ∀ cs ∈ nums k l, cs.length = 1 := by
  intro cs h
  obtain ⟨n, _, rfl⟩ := List.mem_map.1 h
  rfl
theorem nums_ones (k : IntKind) (l : List Nat) : ∀ cs ∈ nums k l, ∀ u ∈ cs, u.oneCell' = true := by
  intro cs h
  obtain ⟨n, _, rfl⟩ := List.mem_map.1 h
  simp [Value.oneCell']
theorem nums_get {k : IntKind} {l : List Nat} {i : Nat} (h : i < l.length) : (nums k l)[i]? = some [Value.int k (l[i] : Int)] := by
  unfold nums
  rw [List.getElem?_map, List.getElem?_eq_getElem h]
  rfl
theorem nums_append (k : IntKind) (l m : List Nat) : nums k (l ++ m) = nums k l ++ nums k m := by simp [nums]
theorem nums_take (k : IntKind) (l : List Nat) (n : Nat) : nums k (l.take n) = (nums k l).take n := by simp [nums, List.map_take]
theorem nums_flat (k : IntKind) (l : List Nat) : (nums k l).flatten = l.map fun (n : Nat) => Value.int k (n : Int) := by
  induction l with
  | nil => rfl
  | cons n l ih => simp only [nums, List.map_cons, List.flatten_cons] at *; rw [ih]; rfl

section
variable {P : Program} {w : World} {ops : Array Oper} {rest : List Oper} {o : Oper} {a : Act} {Q : Exit → Act → World → Prop}

/-- a number, loaded, now or later -/
theorem num_ld {T : Nat} {d : TypeDesc} (hT : P.underlying T = some d) (hd : (match d with | .struct _ | .array _ _ => false | _ => true) = true) {B : Nat} {A : Option Addr} {k : IntKind} {l : List Nat} (h : Rd w B 1 A (nums k l)) {i : Nat} (hi : i < l.length) :
    ∃ b off, A = some ⟨b, off, none⟩ ∧ b < B ∧ ∀ w', Below B w w' → (loadVar T ⟨b, off + i, none⟩).run P w' = .ok (.int k (l[i] : Int)) w' := by
  obtain ⟨b, off, e, hlt, hl, hc⟩ := h i _ (nums_get hi)
  refine ⟨b, off, e, hlt, fun w' hb => run_load_cell hT hd ?_⟩
  have h1 := hc 0 _ rfl
  simp only [Nat.mul_one, Nat.add_zero] at h1
  exact (hb.cell (p := ⟨b, _, none⟩) (by simpa using hlt)).trans h1

/-- the same, of a slice that is known to lie at an address -/
theorem num_ld' {T : Nat} {d : TypeDesc} (hT : P.underlying T = some d) (hd : (match d with | .struct _ | .array _ _ => false | _ => true) = true) {B b off : Nat} {k : IntKind} {l : List Nat} (h : Rd w B 1 (some ⟨b, off, none⟩) (nums k l)) {i : Nat} (hi : i < l.length) :
    ∀ w', Below B w w' → (loadVar T ⟨b, off + i, none⟩).run P w' = .ok (.int k (l[i] : Int)) w' := by
  obtain ⟨b', off', e, _, hld⟩ := num_ld hT hd h hi
  injection e with e
  injection e with e1 e2
  subst e1; subst e2
  exact hld

/-- block g holds the numbers l -/
def NB (w : World) (g E : Nat) (k : IntKind) (l : List Nat) : Prop := w.heap[g]? = some (.cells (l.map fun (n : Nat) => Value.int k (n : Int)).toArray E (0, 0))

theorem NB.lt {g E : Nat} {k : IntKind} {l : List Nat} (h : NB w g E k l) : g < w.heap.size := (Array.getElem?_eq_some_iff.1 h).1
theorem NB.keep {w' : World} {g E : Nat} {k : IntKind} {l : List Nat} (h : NB w g E k l) (hg : w'.heap[g]? = w.heap[g]?) : NB w' g E k l := hg.trans h
theorem NB.below {w' : World} {B g E : Nat} {k : IntKind} {l : List Nat} (h : NB w g E k l) (hb : Below B w w') (hg : g < B) : NB w' g E k l := h.keep (hb.block g hg)

/-- what lies in the block from an offset on -/
theorem NB.rd {g E off : Nat} {k : IntKind} {l m : List Nat} (h : NB w g E k l) (hm : ∀ i, i < m.length → l[off + i]? = m[i]?) : Rd w w.heap.size 1 (some ⟨g, off, none⟩) (nums k m) := by
  intro i cs hi
  unfold nums at hi
  rw [List.getElem?_map] at hi
  obtain ⟨n, hn, rfl⟩ := Option.map_eq_some_iff.1 hi
  refine ⟨g, off, rfl, h.lt, rfl, fun j u hu => ?_⟩
  match j, hu with
  | 0, hu =>
    simp at hu
    subst hu
    have hil : i < m.length := (List.getElem?_eq_some_iff.1 hn).1
    rw [cell_of_row w g _ _ _ _ h]
    simp [hm i hil, hn]
theorem NB.rd0 {g E : Nat} {k : IntKind} {l : List Nat} (h : NB w g E k l) : Rd w w.heap.size 1 (some ⟨g, 0, none⟩) (nums k l) := h.rd (fun i _ => by simp)
theorem NB.ld {T : Nat} {d : TypeDesc} (hT : P.underlying T = some d) (hd : (match d with | .struct _ | .array _ _ => false | _ => true) = true) {g E : Nat} {k : IntKind} {l : List Nat} (h : NB w g E k l) {i : Nat} (hi : i < l.length) : (loadVar T ⟨g, i, none⟩).run P w = .ok (.int k (l[i] : Int)) w := by
  refine run_load_cell hT hd ?_
  rw [cell_of_row w g i _ _ _ h]
  simp [hi]

/-- make([]T, n) -/
theorem wpList_make_N {t e bytes n : Nat} {k kl kc : IntKind} {L C : Int} (hgd : o.guard = none) (l c : Operand) (ho : o.op = .makeSlice t l c) (ht : P.underlying t = some (.slice e)) (hz : (P.info? e).map (fun i => (i.zero, i.size, i.bytes)) = some (some (.int k 0), 1, bytes))
    (hl : a.eval l = .int kl L) (hc : a.eval c = .int kc C) (hL : L = (n : Int)) (hC : C = (n : Int)) (b2 : bytes * n ≤ 281474976710656) (b3 : n ≤ maxLen)
    (h : ∀ w', NB w' w.heap.size e k (List.replicate n 0) → Below w.heap.size w w' → w.heap.size < w'.heap.size → wpList P ops Q rest (a.put o.dst (.slice (some ⟨w.heap.size, 0, none⟩) n n)) w') : wpList P ops Q (o :: rest) a w := by
  obtain ⟨i, hi, hz1, hz2, hz3⟩ := info_parts hz
  refine wpList_make_full w hgd l c t ho w.heap.size e i (.int k 0) 1 ht hi hz1 hz2 kl kc L C n hl hc hL hC (by rw [hz3]; exact b2) b3 (Nat.le_refl _) fun w' h1 h2 => ?_
  have hb : Below w.heap.size w w' := (Below.refl _ _).grown h2 (Nat.le_refl _) (by simp)
  rcases h1.2 with ⟨h3, _⟩ | ⟨g, cap, cur, h3, hbg, hg, hnc, _, hsz, htk⟩
  · injection h3 with h3 _ _
    cases h3
  · injection h3 with h3 _ h4
    injection h3 with h3
    injection h3 with h3
    subst h3
    subst h4
    refine h w' ?_ hb (Array.getElem?_eq_some_iff.1 hg).1
    unfold NB
    rw [hg]
    have e1 : cur.toList = (List.replicate n 0).map fun (m : Nat) => Value.int k (m : Int) := by
      rw [Nat.mul_one] at hsz htk
      have e2 : cur.toList.take n = cur.toList := List.take_of_length_le (by simp; omega)
      rw [← e2, htk]
      simp [madeCells]
      apply List.ext_getElem?
      intro j
      by_cases hj : j < n
      · simp [hj, Value.cells, Nat.mod_one]
      · simp [hj]
    congr 2
    apply Array.ext'
    rw [e1]

/-- a number, stored -/
theorem wpList_set {T g E i : Nat} {k : IntKind} {l : List Nat} {v : Int} {m : Nat} (hgd : o.guard = none) (x y : Operand) (ho : o.op = .store T x y) (hx : a.eval x = .pointer (some ⟨g, i, none⟩)) (hy : a.eval y = .int k v) (hv : v = (m : Int)) (hi : (P.info? T).map (·.size) = some 1)
    (hnb : NB w g E k l) (hil : i < l.length)
    (h : ∀ w', NB w' g E k (l.set i m) → w.grownBy w' (some g) → wpList P ops Q rest (a.put o.dst undef) w') : wpList P ops Q (o :: rest) a w := by
  subst hv
  refine wpList_st (cs := [.int k (m : Int)]) hgd x y ho hx hy hi rfl rfl hnb (by simp; omega) (by simp [Value.oneCell']) fun cur' w' hc hs hg hgr => h w' ?_ hgr
  unfold NB
  rw [hg]
  congr 2
  apply Array.ext'
  rw [hc]
  show (l.map fun (n : Nat) => Value.int k (n : Int)).take i ++ [Value.int k (m : Int)] ++ (l.map fun (n : Nat) => Value.int k (n : Int)).drop (i + 1) = (l.set i m).map fun (n : Nat) => Value.int k (n : Int)
  rw [List.map_set, List.set_eq_take_append_cons_drop, if_pos (by simpa using hil)]
  simp
end
end Go.Proofs.Ytcdfnlgimbecgaa

namespace Go.Proofs.Ytcdfnlgimbecgaa

/-- the value of digits -/
def valB (B : Nat) : List Nat → Nat
  | [] => 0
  | d :: l => d + B * valB B l

def digF (B : Nat) : Nat → Nat → List Nat
  | 0, _ => []
  | f + 1, n => if n = 0 then [] else (n % B) :: digF B f (n / B)
/-- the digits of a number, without zeros at the end -/
def dig (B n : Nat) : List Nat := digF B n n

theorem valB_nil (B : Nat) : valB B [] = 0 := rfl
theorem valB_cons (B d : Nat) (l : List Nat) : valB B (d :: l) = d + B * valB B l := rfl
theorem valB_append (B : Nat) : ∀ (l m : List Nat), valB B (l ++ m) = valB B l + B ^ l.length * valB B m
  | [], m => by simp [valB]
  | d :: l, m => by
    simp only [List.cons_append, valB_cons, valB_append B l m, List.length_cons, Nat.pow_succ, Nat.mul_add]
    rw [Nat.mul_comm (B ^ l.length) B, Nat.mul_assoc]
    omega
theorem valB_snoc (B : Nat) (l : List Nat) (d : Nat) : valB B (l ++ [d]) = valB B l + B ^ l.length * d := by
  rw [valB_append]; simp [valB]
theorem valB_take_succ {B : Nat} {l : List Nat} {k : Nat} (h : k < l.length) : valB B (l.take (k + 1)) = valB B (l.take k) + B ^ k * l[k] := by
  rw [List.take_succ_eq_append_getElem h, valB_snoc, List.length_take_of_le (Nat.le_of_lt h)]
theorem valB_lt {B : Nat} : ∀ (l : List Nat), (∀ d ∈ l, d < B) → valB B l < B ^ l.length
  | [], _ => by simp [valB]
  | d :: l, h => by
    have h1 := h d (by simp)
    have ih := valB_lt l (fun x hx => h x (by simp [hx]))
    simp only [valB_cons, List.length_cons, Nat.pow_succ]
    have h2 : B * (valB B l + 1) ≤ B * B ^ l.length := Nat.mul_le_mul_left B ih
    rw [Nat.mul_comm (B ^ l.length) B]
    rw [Nat.mul_add] at h2
    omega
theorem valB_replicate (B k : Nat) : valB B (List.replicate k 0) = 0 := by
  induction k with
  | zero => rfl
  | succ k ih => simp [List.replicate_succ, valB, ih]

section
variable {B : Nat} (hB : 2 ≤ B)
include hB

theorem div_lt_self_ {n : Nat} (h : n ≠ 0) : n / B < n := Nat.div_lt_self (by omega) (by omega)

theorem digF_fuel : ∀ (f n : Nat), n ≤ f → digF B f n = digF B n n
  | 0, n, h => by
    have : n = 0 := by omega
    subst this
    rfl
  | f + 1, n, h => by
    by_cases h0 : n = 0
    · subst h0; simp [digF]
    · obtain ⟨m, rfl⟩ : ∃ m, n = m + 1 := ⟨n - 1, by omega⟩
      have hlt := div_lt_self_ hB h0
      simp only [digF, if_neg h0]
      rw [digF_fuel f ((m + 1) / B) (by omega), digF_fuel m ((m + 1) / B) (by omega)]

theorem dig_zero : dig B 0 = [] := by
  have _h := hB
  rfl
theorem dig_pos {n : Nat} (h : n ≠ 0) : dig B n = (n % B) :: dig B (n / B) := by
  obtain ⟨m, rfl⟩ : ∃ m, n = m + 1 := ⟨n - 1, by omega⟩
  have hlt := div_lt_self_ hB h
  unfold dig
  simp only [digF, if_neg h]
  rw [digF_fuel hB m ((m + 1) / B) (by omega)]

theorem val_dig (n : Nat) : valB B (dig B n) = n := by
  induction n using Nat.strongRecOn with
  | ind n ih =>
    by_cases h : n = 0
    · subst h; rfl
    · rw [dig_pos hB h, valB_cons, ih _ (div_lt_self_ hB h)]
      exact Nat.mod_add_div n B

theorem dig_inj {m n : Nat} (h : dig B m = dig B n) : m = n := by rw [← val_dig hB m, ← val_dig hB n, h]

theorem dig_lt (n : Nat) : ∀ d ∈ dig B n, d < B := by
  induction n using Nat.strongRecOn with
  | ind n ih =>
    by_cases h : n = 0
    · subst h; simp [dig_zero hB]
    · rw [dig_pos hB h]
      intro d hd
      rcases List.mem_cons.1 hd with h1 | h1
      · subst h1; exact Nat.mod_lt _ (by omega)
      · exact ih _ (div_lt_self_ hB h) d h1

theorem dig_cons {d n : Nat} (hd : d < B) (h : n ≠ 0 ∨ d ≠ 0) : dig B (d + B * n) = d :: dig B n := by
  have hne : d + B * n ≠ 0 := by
    rcases h with h | h
    · have : 0 < B * n := Nat.mul_pos (by omega) (by omega)
      omega
    · omega
  rw [dig_pos hB hne, Nat.add_mul_mod_self_left, Nat.mod_eq_of_lt hd, Nat.add_mul_div_left _ _ (by omega), Nat.div_eq_of_lt hd, Nat.zero_add]

/-- digits without a zero at the end are those of their value -/
theorem dig_val : ∀ (l : List Nat), (∀ d ∈ l, d < B) → (∀ d, l.getLast? = some d → d ≠ 0) → dig B (valB B l) = l
  | [], _, _ => rfl
  | d :: l, h, hl => by
    have h1 := h d (by simp)
    have hl' : ∀ e, l.getLast? = some e → e ≠ 0 := fun e he => hl e (by rw [List.getLast?_cons, he]; rfl)
    have ih := dig_val l (fun x hx => h x (by simp [hx])) hl'
    rw [valB_cons, dig_cons hB h1, ih]
    cases l with
    | nil => exact .inr (hl d rfl)
    | cons e l =>
      left
      intro h0
      rw [h0] at ih
      cases ih

theorem dig_getLast {n d : Nat} (h : (dig B n).getLast? = some d) : d ≠ 0 := by
  induction n using Nat.strongRecOn generalizing d with
  | ind n ih =>
    by_cases h0 : n = 0
    · subst h0; simp [dig_zero hB] at h
    · rw [dig_pos hB h0, List.getLast?_cons] at h
      by_cases h1 : n / B = 0
      · rw [h1, dig_zero hB] at h
        simp at h
        subst h
        have := Nat.mod_add_div n B
        rw [h1] at this
        intro h2
        rw [h2] at this
        simp at this
        omega
      · cases hq : (dig B (n / B)).getLast? with
        | none =>
          rw [List.getLast?_eq_none_iff] at hq
          rw [dig_pos hB h1] at hq
          cases hq
        | some e =>
          rw [hq] at h
          simp at h
          subst h
          exact ih _ (div_lt_self_ hB h0) hq

/-- zeros at the end change nothing -/
theorem dig_trim (l : List Nat) (k : Nat) (h : ∀ d ∈ l, d < B) (hl : ∀ d, l.getLast? = some d → d ≠ 0) : dig B (valB B (l ++ List.replicate k 0)) = l := by
  rw [valB_append, valB_replicate, Nat.mul_zero, Nat.add_zero]
  exact dig_val hB l h hl

theorem dig_len_le {n k : Nat} (h : n < B ^ k) : (dig B n).length ≤ k := by
  induction k generalizing n with
  | zero =>
    have : n = 0 := by simpa using h
    subst this
    simp [dig_zero hB]
  | succ k ih =>
    by_cases h0 : n = 0
    · subst h0; simp [dig_zero hB]
    · rw [dig_pos hB h0]
      have : n / B < B ^ k := by
        rw [Nat.div_lt_iff_lt_mul (by omega)]
        rwa [Nat.pow_succ] at h
      have := ih this
      simp only [List.length_cons]
      omega
theorem lt_of_dig_len {n k : Nat} (h : (dig B n).length ≤ k) : n < B ^ k := by
  have h1 := valB_lt (dig B n) (dig_lt hB n)
  rw [val_dig hB] at h1
  exact Nat.lt_of_lt_of_le h1 (Nat.pow_le_pow_right (by omega) h)
theorem dig_len_lt_iff {n k : Nat} : k < (dig B n).length ↔ B ^ k ≤ n := by
  constructor
  · intro h
    rcases Nat.lt_or_ge n (B ^ k) with h1 | h1
    · have := dig_len_le hB h1; omega
    · exact h1
  · intro h
    rcases Nat.lt_or_ge k (dig B n).length with h1 | h1
    · exact h1
    · have := lt_of_dig_len hB h1; omega
theorem dig_ne_nil {n : Nat} (h : n ≠ 0) : dig B n ≠ [] := by rw [dig_pos hB h]; simp
theorem dig_len_pos {n : Nat} (h : n ≠ 0) : 0 < (dig B n).length := by rw [dig_pos hB h]; simp

/-- a shorter number is less -/
theorem lt_of_len_lt {m n : Nat} (h : (dig B m).length < (dig B n).length) : m < n :=
  Nat.lt_of_lt_of_le (lt_of_dig_len hB (Nat.le_refl _)) ((dig_len_lt_iff hB).1 h)

theorem dig_one : dig B 1 = [1] := by
  rw [dig_pos hB (by omega), Nat.mod_eq_of_lt (by omega), Nat.div_eq_of_lt (by omega), dig_zero hB]
end

/-- the value, from the digit at k on -/
theorem valB_split (B : Nat) (l : List Nat) (k : Nat) : valB B l = valB B (l.take k) + B ^ (l.take k).length * valB B (l.drop k) := by
  rw [← valB_append, List.take_append_drop]

/-- of two lists of one length, the highest digit that differs decides -/
theorem valB_lt_of_digit {B : Nat} {a b : List Nat} (ha : ∀ d ∈ a, d < B) (hl : a.length = b.length) {k : Nat} (hk : k < a.length) (hlt : a[k] < b[k]'(by omega)) (hd : a.drop (k + 1) = b.drop (k + 1)) : valB B a < valB B b := by
  rw [valB_split B a (k + 1), valB_split B b (k + 1), hd, valB_take_succ hk, valB_take_succ (by omega)]
  have e1 : (a.take (k + 1)).length = k + 1 := by simp; omega
  have e2 : (b.take (k + 1)).length = k + 1 := by simp; omega
  rw [e1, e2]
  have h1 := valB_lt (B := B) (a.take k) (fun d hd => ha d (List.mem_of_mem_take hd))
  rw [List.length_take_of_le (by omega)] at h1
  have h2 : B ^ k * (a[k] + 1) ≤ B ^ k * b[k]'(by omega) := Nat.mul_le_mul_left _ hlt
  rw [Nat.mul_add] at h2
  omega
end Go.Proofs.Ytcdfnlgimbecgaa

namespace Go.Proofs.Ytcdfnlgimbecgaa

/-- all digits are below the base -/
def Digs (B : Nat) (l : List Nat) : Prop := ∀ d ∈ l, d < B

theorem Digs.take {B : Nat} {l : List Nat} (h : Digs B l) (k : Nat) : Digs B (l.take k) := fun d hd => h d (List.mem_of_mem_take hd)
theorem Digs.drop {B : Nat} {l : List Nat} (h : Digs B l) (k : Nat) : Digs B (l.drop k) := fun d hd => h d (List.mem_of_mem_drop hd)
theorem Digs.get {B : Nat} {l : List Nat} (h : Digs B l) {k : Nat} (hk : k < l.length) : l[k] < B := h _ (List.getElem_mem hk)
theorem Digs.set {B : Nat} {l : List Nat} (h : Digs B l) (k x : Nat) (hx : x < B) : Digs B (l.set k x) := fun d hd => by
  rcases List.mem_or_eq_of_mem_set hd with h1 | h1
  · exact h d h1
  · rw [h1]; exact hx
theorem Digs.append {B : Nat} {l m : List Nat} (h : Digs B l) (h' : Digs B m) : Digs B (l ++ m) := fun d hd => by
  rcases List.mem_append.1 hd with h1 | h1
  · exact h d h1
  · exact h' d h1
theorem Digs.zeros {B : Nat} (hB : 0 < B) (n : Nat) : Digs B (List.replicate n 0) := fun d hd => by
  rw [(List.mem_replicate.1 hd).2]; exact hB
theorem Digs.getD {B : Nat} {l : List Nat} (h : Digs B l) (hB : 0 < B) (k : Nat) : l.getD k 0 < B := by
  rcases Nat.lt_or_ge k l.length with hk | hk
  · have e : l.getD k 0 = l[k] := by simp [hk]
    rw [e]; exact h.get hk
  · have e : l.getD k 0 = 0 := by simp [hk]
    rw [e]; exact hB
theorem Digs.dig {B : Nat} (hB : 2 ≤ B) (n : Nat) : Digs B (dig B n) := dig_lt hB n

theorem valB_take_getD (B : Nat) (l : List Nat) (i : Nat) : valB B (l.take (i + 1)) = valB B (l.take i) + B ^ i * l.getD i 0 := by
  rcases Nat.lt_or_ge i l.length with h | h
  · have e : l.getD i 0 = l[i] := by simp [h]
    rw [e, valB_take_succ h]
  · have e : l.getD i 0 = 0 := by simp [h]
    rw [e, List.take_of_length_le (by omega), List.take_of_length_le h, Nat.mul_zero, Nat.add_zero]
theorem take_set (l : List Nat) (i x : Nat) : (l.set i x).take i = l.take i := by
  rw [List.take_set]
  exact List.set_eq_of_length_le (by simp; omega)
theorem valB_set_take (B : Nat) {l : List Nat} {i x : Nat} (h : i < l.length) : valB B ((l.set i x).take (i + 1)) = valB B (l.take i) + B ^ i * x := by
  rw [valB_take_getD, take_set]
  simp [h]
theorem drop_set (l : List Nat) (i x : Nat) : (l.set i x).drop (i + 1) = l.drop (i + 1) := by
  rw [List.drop_set]
  simp
theorem valB_zero {B : Nat} {l : List Nat} (h : ∀ d ∈ l, d = 0) : valB B l = 0 := by
  induction l with
  | nil => rfl
  | cons d l ih =>
    rw [valB_cons, h d (by simp), ih (fun e he => h e (by simp [he]))]
    simp
theorem valB_take_zero {B : Nat} {l : List Nat} {k : Nat} (h : ∀ d ∈ l.drop k, d = 0) : valB B (l.take k) = valB B l := by
  rw [valB_split B l k, valB_zero h]
  simp

/-- what trim finds -/
theorem trim_dig {B : Nat} (hB : 2 ≤ B) {l : List Nat} (hl : Digs B l) {k : Nat} (hk : k ≤ l.length) (hz : ∀ d ∈ l.drop k, d = 0) (he : k = 0 ∨ ∃ j, k = j + 1 ∧ l.getD j 0 ≠ 0) : dig B (valB B l) = l.take k := by
  rw [← valB_take_zero hz]
  refine dig_val hB _ (hl.take k) fun d hd => ?_
  rcases he with rfl | ⟨j, rfl, hj⟩
  · simp at hd
  · rw [List.getLast?_eq_getElem?] at hd
    have e : (l.take (j + 1)).length - 1 = j := by simp; omega
    rw [e, List.getElem?_take, if_pos (by omega)] at hd
    have hjl : j < l.length := by omega
    rw [List.getElem?_eq_getElem hjl] at hd
    injection hd with hd
    simp [hjl] at hj
    omega

/-- one step of a sum -/
theorem plus_step {B : Nat} (_hB : 2 ≤ B) {a b o : List Nat} {i c : Nat} (hi : i < o.length) (h : valB B (o.take i) + B ^ i * c = valB B (a.take i) + valB B (b.take i)) :
    valB B ((o.set i ((c + a.getD i 0 + b.getD i 0) % B)).take (i + 1)) + B ^ (i + 1) * ((c + a.getD i 0 + b.getD i 0) / B) = valB B (a.take (i + 1)) + valB B (b.take (i + 1)) := by
  rw [valB_set_take B hi, valB_take_getD, valB_take_getD, Nat.pow_succ]
  have h1 := Nat.mod_add_div (c + a.getD i 0 + b.getD i 0) B
  generalize (c + a.getD i 0 + b.getD i 0) % B = r at *
  generalize (c + a.getD i 0 + b.getD i 0) / B = q at *
  grind
theorem plus_end {B : Nat} {a b o : List Nat} {c : Nat} (ho : o.length = a.length + 1) (hb : b.length ≤ a.length) (h : valB B (o.take a.length) + B ^ a.length * c = valB B (a.take a.length) + valB B (b.take a.length)) :
    valB B (o.set a.length c) = valB B a + valB B b := by
  have h1 := valB_set_take B (l := o) (i := a.length) (x := c) (by omega)
  rw [List.take_of_length_le (by simp; omega)] at h1
  rw [List.take_length, List.take_of_length_le hb] at h
  omega

/-- one step of a difference: 'owed' is 0 or 1 -/
theorem minus_step {B : Nat} {a b o : List Nat} {i owed owed' r : Nat} (hi : i < o.length) (h : valB B (o.take i) + valB B (b.take i) = valB B (a.take i) + B ^ i * owed) (hr : r + owed + b.getD i 0 = a.getD i 0 + B * owed') :
    valB B ((o.set i r).take (i + 1)) + valB B (b.take (i + 1)) = valB B (a.take (i + 1)) + B ^ (i + 1) * owed' := by
  rw [valB_set_take B hi, valB_take_getD, valB_take_getD, Nat.pow_succ]
  grind

/-- one step of a row of a product -/
theorem times_step {B : Nat} {b o O : List Nat} {i k x c : Nat} (hk : i + k < o.length) (hd : o.drop (i + k) = O.drop (i + k)) (h : valB B (o.take (i + k)) + B ^ (i + k) * c = valB B (O.take (i + k)) + B ^ i * (x * valB B (b.take k))) :
    valB B ((o.set (i + k) ((c + (x * b.getD k 0 + o.getD (i + k) 0)) % B)).take (i + (k + 1))) + B ^ (i + (k + 1)) * ((c + (x * b.getD k 0 + o.getD (i + k) 0)) / B) = valB B (O.take (i + (k + 1))) + B ^ i * (x * valB B (b.take (k + 1))) := by
  have e : i + (k + 1) = (i + k) + 1 := by omega
  have hO : o.getD (i + k) 0 = O.getD (i + k) 0 := by
    have h1 := congrArg (fun l => l.getD 0 0) hd
    simpa [List.getD] using h1
  rw [e, valB_set_take B hk, valB_take_getD B O, valB_take_getD B b, hO, Nat.pow_succ, Nat.pow_add] at *
  have h1 := Nat.mod_add_div (c + (x * b.getD k 0 + O.getD (i + k) 0)) B
  generalize (c + (x * b.getD k 0 + O.getD (i + k) 0)) % B = r at *
  generalize (c + (x * b.getD k 0 + O.getD (i + k) 0)) / B = q at *
  grind

/-- one step of a multiple that is taken away -/
theorem take_step {B : Nat} {u v o : List Nat} {i t c owed owed' r : Nat} (hi : i < o.length) (h : valB B (o.take i) + t * valB B (v.take i) = valB B (u.take i) + B ^ i * (c + owed))
    (hr : r + (c + t * v.getD i 0) % B + owed = u.getD i 0 + B * owed') :
    valB B ((o.set i r).take (i + 1)) + t * valB B (v.take (i + 1)) = valB B (u.take (i + 1)) + B ^ (i + 1) * ((c + t * v.getD i 0) / B + owed') := by
  rw [valB_set_take B hi, valB_take_getD, valB_take_getD, Nat.pow_succ]
  have h1 := Nat.mod_add_div (c + t * v.getD i 0) B
  generalize (c + t * v.getD i 0) % B = m at *
  generalize (c + t * v.getD i 0) / B = q at *
  grind

theorem valB_drop_getD (B : Nat) {l : List Nat} {i : Nat} (h : i < l.length) : valB B (l.drop i) = l[i] + B * valB B (l.drop (i + 1)) := by
  rw [List.drop_eq_getElem_cons h, valB_cons]
theorem valB_drop_set (B : Nat) {l : List Nat} {i x : Nat} (h : i < l.length) : valB B ((l.set i x).drop i) = x + B * valB B (l.drop (i + 1)) := by
  rw [valB_drop_getD B (by simpa using h), drop_set]
  simp

/-- one step of a division by one digit -/
theorem small_step {B by_ : Nat} {a o : List Nat} {i r : Nat} (hi : i < a.length) (ho : o.length = a.length) (h : valB B (a.drop (i + 1)) = valB B (o.drop (i + 1)) * by_ + r) :
    valB B (a.drop i) = valB B ((o.set i ((r * B + a[i]) / by_)).drop i) * by_ + (r * B + a[i]) % by_ := by
  rw [valB_drop_getD B hi, valB_drop_set B (by omega), h]
  have h1 := Nat.mod_add_div (r * B + a[i]) by_
  generalize (r * B + a[i]) % by_ = m at *
  generalize (r * B + a[i]) / by_ = q at *
  grind

/-- the first digits tell no less than the quotient -/
theorem guess_ge {B n V W vt top lo lov : Nat} (hB : 0 < B) (hv : V = lov + B ^ n * vt) (hw : W = lo + B ^ n * top) (hlo : lo < B ^ n) (hvt : 0 < vt) : W / V ≤ top / vt := by
  have hP : 0 < B ^ n := Nat.pow_pos hB
  have hV : 0 < V := by
    have : 0 < B ^ n * vt := Nat.mul_pos hP hvt
    omega
  rw [Nat.le_div_iff_mul_le hvt]
  have h1 : W / V * V ≤ W := Nat.div_mul_le_self W V
  have h2 : W / V * (B ^ n * vt) ≤ W / V * V := Nat.mul_le_mul_left _ (by omega)
  have h3 : W / V * (B ^ n * vt) = B ^ n * (W / V * vt) := by grind
  rw [h3] at h2
  have h4 : B ^ n * (W / V * vt) < B ^ n * (top + 1) := by
    rw [Nat.mul_add]
    omega
  have := Nat.lt_of_mul_lt_mul_left h4
  omega
theorem guess_le {B n V W vt top lo : Nat} (hv : V < B ^ n * (vt + 1)) (hw : W = lo + B ^ n * top) (hV : 0 < V) : top / (vt + 1) ≤ W / V := by
  rw [Nat.le_div_iff_mul_le hV]
  have h1 : top / (vt + 1) * (vt + 1) ≤ top := Nat.div_mul_le_self _ _
  have h2 : top / (vt + 1) * V ≤ top / (vt + 1) * (B ^ n * (vt + 1)) := Nat.mul_le_mul_left _ (by omega)
  have h3 : top / (vt + 1) * (B ^ n * (vt + 1)) = B ^ n * (top / (vt + 1) * (vt + 1)) := by grind
  rw [h3] at h2
  have h4 : B ^ n * (top / (vt + 1) * (vt + 1)) ≤ B ^ n * top := Nat.mul_le_mul_left _ h1
  omega

/-- a guess that does not borrow is the quotient -/
theorem guess_eq {g V W W1 : Nat} (hV : 0 < V) (hge : W / V ≤ g) (h : W1 + g * V = W) : g = W / V ∧ W1 = W % V := by
  have h1 : g ≤ W / V := by
    rw [Nat.le_div_iff_mul_le hV]
    omega
  have h2 : g = W / V := by omega
  refine ⟨h2, ?_⟩
  have h3 := Nat.mod_add_div W V
  rw [h2] at h
  rw [Nat.mul_comm V] at h3
  omega
/-- one that borrows is greater -/
theorem guess_gt {g V W W1 P : Nat} (h : W1 + g * V = W + P) (hW1 : W1 < P) (hV : 0 < V) : W / V < g := by
  rw [Nat.div_lt_iff_lt_mul hV]
  omega

/-- a division by a number, both multiplied -/
theorem div_scaled {a b s q r : Nat} (hs : 0 < s) (h : a * s = q * (b * s) + r) (hr : r < b * s) : q = a / b ∧ r = a % b * s := by
  have hb : 0 < b := by
    rcases Nat.eq_zero_or_pos b with h0 | h0
    · subst h0; simp at hr
    · exact h0
  have h1 : a * s / (b * s) = q := by
    rw [h]
    rw [Nat.add_comm, Nat.add_mul_div_right _ _ (Nat.mul_pos hb hs), Nat.div_eq_of_lt hr, Nat.zero_add]
  rw [Nat.mul_div_mul_right _ _ hs] at h1
  have h2 : a * s % (b * s) = r := by
    rw [h, Nat.add_comm, Nat.add_mul_mod_self_right, Nat.mod_eq_of_lt hr]
  rw [Nat.mul_mod_mul_right] at h2
  exact ⟨h1.symm, h2.symm⟩

/-- one digit more of a quotient -/
theorem div_digit {B j X V Q U lo W q W1 : Nat} (hX : X = Q * (V * B ^ (j + 1)) + U) (hU : U = lo + B ^ j * W) (hlo : lo < B ^ j) (hW : W = q * V + W1) (hW1 : W1 < V) :
    X = (q + B * Q) * (V * B ^ j) + (lo + B ^ j * W1) ∧ lo + B ^ j * W1 < V * B ^ j := by
  constructor
  · rw [hX, hU, hW, Nat.pow_succ]
    grind
  · have h1 : B ^ j * (W1 + 1) ≤ B ^ j * V := Nat.mul_le_mul_left _ hW1
    rw [Nat.mul_add] at h1
    rw [Nat.mul_comm V]
    omega

/-- so many digits of a number, with zeros at the end -/
def pad (B : Nat) : Nat → Nat → List Nat
  | 0, _ => []
  | k + 1, x => (x % B) :: pad B k (x / B)
theorem pad_len (B : Nat) : ∀ k x, (pad B k x).length = k
  | 0, _ => rfl
  | k + 1, x => by simp [pad, pad_len B k]
theorem pad_digs {B : Nat} (hB : 0 < B) : ∀ k x, Digs B (pad B k x)
  | 0, _ => by intro d hd; simp [pad] at hd
  | k + 1, x => by
    intro d hd
    rcases List.mem_cons.1 hd with h | h
    · rw [h]; exact Nat.mod_lt _ hB
    · exact pad_digs hB k _ d h
theorem valB_pad {B : Nat} (hB : 0 < B) : ∀ k x, x < B ^ k → valB B (pad B k x) = x
  | 0, x, h => by simp at h; subst h; rfl
  | k + 1, x, h => by
    have h1 : x / B < B ^ k := by
      rw [Nat.div_lt_iff_lt_mul hB]
      rwa [Nat.pow_succ] at h
    simp only [pad, valB_cons, valB_pad hB k _ h1]
    exact Nat.mod_add_div x B
theorem pad_valB {B : Nat} (hB : 0 < B) : ∀ (l : List Nat), Digs B l → pad B l.length (valB B l) = l
  | [], _ => rfl
  | d :: l, h => by
    have h1 := h d (by simp)
    have ih := pad_valB hB l (fun x hx => h x (by simp [hx]))
    simp only [List.length_cons, pad, valB_cons]
    rw [Nat.add_mul_mod_self_left, Nat.mod_eq_of_lt h1, Nat.add_mul_div_left _ _ hB, Nat.div_eq_of_lt h1, Nat.zero_add, ih]
theorem pad_zero (B : Nat) : ∀ k, pad B k 0 = List.replicate k 0
  | 0 => rfl
  | k + 1 => by simp [pad, pad_zero B k, List.replicate_succ]
theorem pad_dig {B : Nat} (hB : 2 ≤ B) {k x : Nat} (h : x < B ^ k) : pad B k x = dig B x ++ List.replicate (k - (dig B x).length) 0 := by
  have h1 : Digs B (dig B x ++ List.replicate (k - (dig B x).length) 0) := (Digs.dig hB x).append (Digs.zeros (by omega) _)
  have h2 : valB B (dig B x ++ List.replicate (k - (dig B x).length) 0) = x := by
    rw [valB_append, valB_replicate, val_dig hB]
    simp
  have h3 : (dig B x ++ List.replicate (k - (dig B x).length) 0).length = k := by
    have := dig_len_le hB h
    simp
    omega
  have h4 := pad_valB (by omega) _ h1
  rw [h2, h3] at h4
  exact h4
theorem dig_pad {B : Nat} (hB : 2 ≤ B) {k x : Nat} (h : x < B ^ k) : dig B x = (pad B k x).take (dig B x).length := by
  rw [pad_dig hB h]
  simp
end Go.Proofs.Ytcdfnlgimbecgaa
