/-
  Numbers as lists of digits to a base, the lowest one first: plain Lean, no program.
-/
import Derived.Test.YtfdjcakgolenbaaGreatMu2
set_option linter.unusedVariables false
set_option linter.unusedSimpArgs false
namespace Go.Proofs.YtfdjcakgolenbaaGreat
def valB (B : Nat) : List Nat → Nat
 | [] => 0
 | d :: l => d + B * valB B l
def digF (B : Nat) : Nat → Nat → List Nat
 | 0, _ => []
 | f + 1, n => if n = 0 then [] else (n % B) :: digF B f (n / B)
def dig (B n : Nat) : List Nat := digF B n n
theorem valB_nil (B : Nat) : valB B [] = 0 := rfl
theorem valB_cons (B d : Nat) (l : List Nat) : valB B (d :: l) = d + B * valB B l := rfl
theorem valB_append (B : Nat) : ∀ (l m : List Nat), valB B (l ++ m) = valB B l + B ^ l.length * valB B m
 | [], m => by simp [valB]
 | d :: l, m => by
  simp only [List.cons_append, valB_cons, valB_append B l m, List.length_cons, Nat.pow_succ, Nat.mul_add]
  rw [Nat.mul_comm (B ^ l.length) B, Nat.mul_assoc]
  omega
theorem valB_snoc (B : Nat) (l : List Nat) (d : Nat) : valB B (l ++ [d]) = valB B l + B ^ l.length * d := by
 rw [valB_append]; simp [valB]
theorem valB_take_succ {B : Nat} {l : List Nat} {k : Nat} (h : k < l.length) : valB B (l.take (k + 1)) = valB B (l.take k) + B ^ k * l[k] := by
 rw [List.take_succ_eq_append_getElem h, valB_snoc, List.length_take_of_le (Nat.le_of_lt h)]
theorem valB_lt {B : Nat} : ∀ (l : List Nat), (∀ d ∈ l, d < B) → valB B l < B ^ l.length
 | [], _ => by simp [valB]
 | d :: l, h => by
  have h1 := h d (by simp)
  have ih := valB_lt l (fun x hx => h x (by simp [hx]))
  simp only [valB_cons, List.length_cons, Nat.pow_succ]
  have h2 : B * (valB B l + 1) ≤ B * B ^ l.length := Nat.mul_le_mul_left B ih
  rw [Nat.mul_comm (B ^ l.length) B]
  rw [Nat.mul_add] at h2
  omega
theorem valB_replicate (B k : Nat) : valB B (List.replicate k 0) = 0 := by
 induction k with
 | zero => rfl
 | succ k ih => simp [List.replicate_succ, valB, ih]
section
variable {B : Nat} (hB : 2 ≤ B)
include hB
theorem div_lt_self_ {n : Nat} (h : n ≠ 0) : n / B < n := Nat.div_lt_self (by omega) (by omega)
theorem digF_fuel : ∀ (f n : Nat), n ≤ f → digF B f n = digF B n n
 | 0, n, h => by
  have : n = 0 := by omega
  subst this
  rfl
 | f + 1, n, h => by
  by_cases h0 : n = 0
  · subst h0; simp [digF]
  · obtain ⟨m, rfl⟩ : ∃ m, n = m + 1 := ⟨n - 1, by omega⟩
    have hlt := div_lt_self_ hB h0
    simp only [digF, if_neg h0]
    rw [digF_fuel f ((m + 1) / B) (by omega), digF_fuel m ((m + 1) / B) (by omega)]
theorem dig_zero : dig B 0 = [] := by
 have _h := hB
 rfl
theorem dig_pos {n : Nat} (h : n ≠ 0) : dig B n = (n % B) :: dig B (n / B) := by
 obtain ⟨m, rfl⟩ : ∃ m, n = m + 1 := ⟨n - 1, by omega⟩
 have hlt := div_lt_self_ hB h
 unfold dig
 simp only [digF, if_neg h]
 rw [digF_fuel hB m ((m + 1) / B) (by omega)]
theorem val_dig (n : Nat) : valB B (dig B n) = n := by
 induction n using Nat.strongRecOn with
 | ind n ih =>
  by_cases h : n = 0
  · subst h; rfl
  · rw [dig_pos hB h, valB_cons, ih _ (div_lt_self_ hB h)]
    exact Nat.mod_add_div n B
theorem dig_inj {m n : Nat} (h : dig B m = dig B n) : m = n := by rw [← val_dig hB m, ← val_dig hB n, h]
theorem dig_lt (n : Nat) : ∀ d ∈ dig B n, d < B := by
 induction n using Nat.strongRecOn with
 | ind n ih =>
  by_cases h : n = 0
  · subst h; simp [dig_zero hB]
  · rw [dig_pos hB h]
    intro d hd
    rcases List.mem_cons.1 hd with h1 | h1
    · subst h1; exact Nat.mod_lt _ (by omega)
    · exact ih _ (div_lt_self_ hB h) d h1
theorem dig_cons {d n : Nat} (hd : d < B) (h : n ≠ 0 ∨ d ≠ 0) : dig B (d + B * n) = d :: dig B n := by
 have hne : d + B * n ≠ 0 := by
  rcases h with h | h
  · have : 0 < B * n := Nat.mul_pos (by omega) (by omega)
    omega
  · omega
 rw [dig_pos hB hne, Nat.add_mul_mod_self_left, Nat.mod_eq_of_lt hd, Nat.add_mul_div_left _ _ (by omega), Nat.div_eq_of_lt hd, Nat.zero_add]
theorem dig_val : ∀ (l : List Nat), (∀ d ∈ l, d < B) → (∀ d, l.getLast? = some d → d ≠ 0) → dig B (valB B l) = l
 | [], _, _ => rfl
 | d :: l, h, hl => by
  have h1 := h d (by simp)
  have hl' : ∀ e, l.getLast? = some e → e ≠ 0 := fun e he => hl e (by rw [List.getLast?_cons, he]; rfl)
  have ih := dig_val l (fun x hx => h x (by simp [hx])) hl'
  rw [valB_cons, dig_cons hB h1, ih]
  cases l with
  | nil => exact .inr (hl d rfl)
  | cons e l =>
   left
   intro h0
   rw [h0] at ih
   cases ih
theorem dig_getLast {n d : Nat} (h : (dig B n).getLast? = some d) : d ≠ 0 := by
 induction n using Nat.strongRecOn generalizing d with
 | ind n ih =>
  by_cases h0 : n = 0
  · subst h0; simp [dig_zero hB] at h
  · rw [dig_pos hB h0, List.getLast?_cons] at h
    by_cases h1 : n / B = 0
    · rw [h1, dig_zero hB] at h
      simp at h
      subst h
      have := Nat.mod_add_div n B
      rw [h1] at this
      intro h2
      rw [h2] at this
      simp at this
      omega
    · cases hq : (dig B (n / B)).getLast? with
      | none =>
       rw [List.getLast?_eq_none_iff] at hq
       rw [dig_pos hB h1] at hq
       cases hq
      | some e =>
       rw [hq] at h
       simp at h
       subst h
       exact ih _ (div_lt_self_ hB h0) hq
theorem dig_len_le {n k : Nat} (h : n < B ^ k) : (dig B n).length ≤ k := by
 induction k generalizing n with
 | zero =>
  have : n = 0 := by simpa using h
  subst this
  simp [dig_zero hB]
 | succ k ih =>
  by_cases h0 : n = 0
  · subst h0; simp [dig_zero hB]
  · rw [dig_pos hB h0]
    have : n / B < B ^ k := by
     rw [Nat.div_lt_iff_lt_mul (by omega)]
     rwa [Nat.pow_succ] at h
    have := ih this
    simp only [List.length_cons]
    omega
theorem lt_of_dig_len {n k : Nat} (h : (dig B n).length ≤ k) : n < B ^ k := by
 have h1 := valB_lt (dig B n) (dig_lt hB n)
 rw [val_dig hB] at h1
 exact Nat.lt_of_lt_of_le h1 (Nat.pow_le_pow_right (by omega) h)
theorem dig_len_lt_iff {n k : Nat} : k < (dig B n).length ↔ B ^ k ≤ n := by
 constructor
 · intro h
   rcases Nat.lt_or_ge n (B ^ k) with h1 | h1
   · have := dig_len_le hB h1; omega
   · exact h1
 · intro h
   rcases Nat.lt_or_ge k (dig B n).length with h1 | h1
   · exact h1
   · have := lt_of_dig_len hB h1; omega
theorem dig_len_pos {n : Nat} (h : n ≠ 0) : 0 < (dig B n).length := by rw [dig_pos hB h]; simp
theorem lt_of_len_lt {m n : Nat} (h : (dig B m).length < (dig B n).length) : m < n :=
 Nat.lt_of_lt_of_le (lt_of_dig_len hB (Nat.le_refl _)) ((dig_len_lt_iff hB).1 h)
theorem dig_one : dig B 1 = [1] := by
 rw [dig_pos hB (by omega), Nat.mod_eq_of_lt (by omega), Nat.div_eq_of_lt (by omega), dig_zero hB]
end
theorem valB_split (B : Nat) (l : List Nat) (k : Nat) : valB B l = valB B (l.take k) + B ^ (l.take k).length * valB B (l.drop k) := by
 rw [← valB_append, List.take_append_drop]
theorem valB_lt_of_digit {B : Nat} {a b : List Nat} (ha : ∀ d ∈ a, d < B) (hl : a.length = b.length) {k : Nat} (hk : k < a.length) (hlt : a[k] < b[k]'(by omega)) (hd : a.drop (k + 1) = b.drop (k + 1)) : valB B a < valB B b := by
 rw [valB_split B a (k + 1), valB_split B b (k + 1), hd, valB_take_succ hk, valB_take_succ (by omega)]
 have e1 : (a.take (k + 1)).length = k + 1 := by simp; omega
 have e2 : (b.take (k + 1)).length = k + 1 := by simp; omega
 rw [e1, e2]
 have h1 := valB_lt (B := B) (a.take k) (fun d hd => ha d (List.mem_of_mem_take hd))
 rw [List.length_take_of_le (by omega)] at h1
 have h2 : B ^ k * (a[k] + 1) ≤ B ^ k * b[k]'(by omega) := Nat.mul_le_mul_left _ hlt
 rw [Nat.mul_add] at h2
 omega
def Digs (B : Nat) (l : List Nat) : Prop := ∀ d ∈ l, d < B
theorem Digs.take {B : Nat} {l : List Nat} (h : Digs B l) (k : Nat) : Digs B (l.take k) := fun d hd => h d (List.mem_of_mem_take hd)
theorem Digs.drop {B : Nat} {l : List Nat} (h : Digs B l) (k : Nat) : Digs B (l.drop k) := fun d hd => h d (List.mem_of_mem_drop hd)
theorem Digs.get {B : Nat} {l : List Nat} (h : Digs B l) {k : Nat} (hk : k < l.length) : l[k] < B := h _ (List.getElem_mem hk)
theorem Digs.set {B : Nat} {l : List Nat} (h : Digs B l) (k x : Nat) (hx : x < B) : Digs B (l.set k x) := fun d hd => by
 rcases List.mem_or_eq_of_mem_set hd with h1 | h1
 · exact h d h1
 · rw [h1]; exact hx
theorem Digs.append {B : Nat} {l m : List Nat} (h : Digs B l) (h' : Digs B m) : Digs B (l ++ m) := fun d hd => by
 rcases List.mem_append.1 hd with h1 | h1
 · exact h d h1
 · exact h' d h1
theorem Digs.zeros {B : Nat} (hB : 0 < B) (n : Nat) : Digs B (List.replicate n 0) := fun d hd => by
 rw [(List.mem_replicate.1 hd).2]; exact hB
theorem Digs.getD {B : Nat} {l : List Nat} (h : Digs B l) (hB : 0 < B) (k : Nat) : l.getD k 0 < B := by
 rcases Nat.lt_or_ge k l.length with hk | hk
 · have e : l.getD k 0 = l[k] := by simp [hk]
   rw [e]; exact h.get hk
 · have e : l.getD k 0 = 0 := by simp [hk]
   rw [e]; exact hB
theorem Digs.dig {B : Nat} (hB : 2 ≤ B) (n : Nat) : Digs B (dig B n) := dig_lt hB n
theorem valB_take_getD (B : Nat) (l : List Nat) (i : Nat) : valB B (l.take (i + 1)) = valB B (l.take i) + B ^ i * l.getD i 0 := by
 rcases Nat.lt_or_ge i l.length with h | h
 · have e : l.getD i 0 = l[i] := by simp [h]
   rw [e, valB_take_succ h]
 · have e : l.getD i 0 = 0 := by simp [h]
   rw [e, List.take_of_length_le (by omega), List.take_of_length_le h, Nat.mul_zero, Nat.add_zero]
theorem take_set (l : List Nat) (i x : Nat) : (l.set i x).take i = l.take i := by
 rw [List.take_set]
 exact List.set_eq_of_length_le (by simp; omega)
theorem valB_set_take (B : Nat) {l : List Nat} {i x : Nat} (h : i < l.length) : valB B ((l.set i x).take (i + 1)) = valB B (l.take i) + B ^ i * x := by
 rw [valB_take_getD, take_set]
 simp [h]
theorem drop_set (l : List Nat) (i x : Nat) : (l.set i x).drop (i + 1) = l.drop (i + 1) := by
 rw [List.drop_set]
 simp
theorem valB_zero {B : Nat} {l : List Nat} (h : ∀ d ∈ l, d = 0) : valB B l = 0 := by
 induction l with
 | nil => rfl
 | cons d l ih =>
  rw [valB_cons, h d (by simp), ih (fun e he => h e (by simp [he]))]
  simp
theorem valB_take_zero {B : Nat} {l : List Nat} {k : Nat} (h : ∀ d ∈ l.drop k, d = 0) : valB B (l.take k) = valB B l := by
 rw [valB_split B l k, valB_zero h]
 simp
theorem trim_dig {B : Nat} (hB : 2 ≤ B) {l : List Nat} (hl : Digs B l) {k : Nat} (hk : k ≤ l.length) (hz : ∀ d ∈ l.drop k, d = 0) (he : k = 0 ∨ ∃ j, k = j + 1 ∧ l.getD j 0 ≠ 0) : dig B (valB B l) = l.take k := by
 rw [← valB_take_zero hz]
 refine dig_val hB _ (hl.take k) fun d hd => ?_
 rcases he with rfl | ⟨j, rfl, hj⟩
 · simp at hd
 · rw [List.getLast?_eq_getElem?] at hd
   have e : (l.take (j + 1)).length - 1 = j := by simp; omega
   rw [e, List.getElem?_take, if_pos (by omega)] at hd
   have hjl : j < l.length := by omega
   rw [List.getElem?_eq_getElem hjl] at hd
   injection hd with hd
   simp [hjl] at hj
   omega
theorem plus_step {B : Nat} (_hB : 2 ≤ B) {a b o : List Nat} {i c : Nat} (hi : i < o.length) (h : valB B (o.take i) + B ^ i * c = valB B (a.take i) + valB B (b.take i)) :
 valB B ((o.set i ((c + a.getD i 0 + b.getD i 0) % B)).take (i + 1)) + B ^ (i + 1) * ((c + a.getD i 0 + b.getD i 0) / B) = valB B (a.take (i + 1)) + valB B (b.take (i + 1)) := by
 rw [valB_set_take B hi, valB_take_getD, valB_take_getD, Nat.pow_succ]
 have h1 := Nat.mod_add_div (c + a.getD i 0 + b.getD i 0) B
 generalize (c + a.getD i 0 + b.getD i 0) % B = r at *
 generalize (c + a.getD i 0 + b.getD i 0) / B = q at *
 grind
theorem times_step {B : Nat} {b o O : List Nat} {i k x c : Nat} (hk : i + k < o.length) (hd : o.drop (i + k) = O.drop (i + k)) (h : valB B (o.take (i + k)) + B ^ (i + k) * c = valB B (O.take (i + k)) + B ^ i * (x * valB B (b.take k))) :
 valB B ((o.set (i + k) ((c + (x * b.getD k 0 + o.getD (i + k) 0)) % B)).take (i + (k + 1))) + B ^ (i + (k + 1)) * ((c + (x * b.getD k 0 + o.getD (i + k) 0)) / B) = valB B (O.take (i + (k + 1))) + B ^ i * (x * valB B (b.take (k + 1))) := by
 have e : i + (k + 1) = (i + k) + 1 := by omega
 have hO : o.getD (i + k) 0 = O.getD (i + k) 0 := by
  have h1 := congrArg (fun l => l.getD 0 0) hd
  simpa [List.getD] using h1
 rw [e, valB_set_take B hk, valB_take_getD B O, valB_take_getD B b, hO, Nat.pow_succ, Nat.pow_add] at *
 have h1 := Nat.mod_add_div (c + (x * b.getD k 0 + O.getD (i + k) 0)) B
 generalize (c + (x * b.getD k 0 + O.getD (i + k) 0)) % B = r at *
 generalize (c + (x * b.getD k 0 + O.getD (i + k) 0)) / B = q at *
 grind
theorem take_step {B : Nat} {u v o : List Nat} {i t c owed owed' r : Nat} (hi : i < o.length) (h : valB B (o.take i) + t * valB B (v.take i) = valB B (u.take i) + B ^ i * (c + owed))
 (hr : r + (c + t * v.getD i 0) % B + owed = u.getD i 0 + B * owed') :
 valB B ((o.set i r).take (i + 1)) + t * valB B (v.take (i + 1)) = valB B (u.take (i + 1)) + B ^ (i + 1) * ((c + t * v.getD i 0) / B + owed') := by
 rw [valB_set_take B hi, valB_take_getD, valB_take_getD, Nat.pow_succ]
 have h1 := Nat.mod_add_div (c + t * v.getD i 0) B
 generalize (c + t * v.getD i 0) % B = m at *
 generalize (c + t * v.getD i 0) / B = q at *
 grind
theorem valB_drop_getD (B : Nat) {l : List Nat} {i : Nat} (h : i < l.length) : valB B (l.drop i) = l[i] + B * valB B (l.drop (i + 1)) := by
 rw [List.drop_eq_getElem_cons h, valB_cons]
theorem valB_drop_set (B : Nat) {l : List Nat} {i x : Nat} (h : i < l.length) : valB B ((l.set i x).drop i) = x + B * valB B (l.drop (i + 1)) := by
 rw [valB_drop_getD B (by simpa using h), drop_set]
 simp
theorem small_step {B by_ : Nat} {a o : List Nat} {i r : Nat} (hi : i < a.length) (ho : o.length = a.length) (h : valB B (a.drop (i + 1)) = valB B (o.drop (i + 1)) * by_ + r) :
 valB B (a.drop i) = valB B ((o.set i ((r * B + a[i]) / by_)).drop i) * by_ + (r * B + a[i]) % by_ := by
 rw [valB_drop_getD B hi, valB_drop_set B (by omega), h]
 have h1 := Nat.mod_add_div (r * B + a[i]) by_
 generalize (r * B + a[i]) % by_ = m at *
 generalize (r * B + a[i]) / by_ = q at *
 grind
theorem guess_ge {B n V W vt top lo lov : Nat} (hB : 0 < B) (hv : V = lov + B ^ n * vt) (hw : W = lo + B ^ n * top) (hlo : lo < B ^ n) (hvt : 0 < vt) : W / V ≤ top / vt := by
 have hP : 0 < B ^ n := Nat.pow_pos hB
 have hV : 0 < V := by
  have : 0 < B ^ n * vt := Nat.mul_pos hP hvt
  omega
 rw [Nat.le_div_iff_mul_le hvt]
 have h1 : W / V * V ≤ W := Nat.div_mul_le_self W V
 have h2 : W / V * (B ^ n * vt) ≤ W / V * V := Nat.mul_le_mul_left _ (by omega)
 have h3 : W / V * (B ^ n * vt) = B ^ n * (W / V * vt) := by grind
 rw [h3] at h2
 have h4 : B ^ n * (W / V * vt) < B ^ n * (top + 1) := by
  rw [Nat.mul_add]
  omega
 have := Nat.lt_of_mul_lt_mul_left h4
 omega
theorem guess_eq {g V W W1 : Nat} (hV : 0 < V) (hge : W / V ≤ g) (h : W1 + g * V = W) : g = W / V ∧ W1 = W % V := by
 have h1 : g ≤ W / V := by
  rw [Nat.le_div_iff_mul_le hV]
  omega
 have h2 : g = W / V := by omega
 refine ⟨h2, ?_⟩
 have h3 := Nat.mod_add_div W V
 rw [h2] at h
 rw [Nat.mul_comm V] at h3
 omega
theorem guess_gt {g V W W1 P : Nat} (h : W1 + g * V = W + P) (hW1 : W1 < P) (hV : 0 < V) : W / V < g := by
 rw [Nat.div_lt_iff_lt_mul hV]
 omega
theorem div_scaled {a b s q r : Nat} (hs : 0 < s) (h : a * s = q * (b * s) + r) (hr : r < b * s) : q = a / b ∧ r = a % b * s := by
 have hb : 0 < b := by
  rcases Nat.eq_zero_or_pos b with h0 | h0
  · subst h0; simp at hr
  · exact h0
 have h1 : a * s / (b * s) = q := by
  rw [h]
  rw [Nat.add_comm, Nat.add_mul_div_right _ _ (Nat.mul_pos hb hs), Nat.div_eq_of_lt hr, Nat.zero_add]
 rw [Nat.mul_div_mul_right _ _ hs] at h1
 have h2 : a * s % (b * s) = r := by
  rw [h, Nat.add_comm, Nat.add_mul_mod_self_right, Nat.mod_eq_of_lt hr]
 rw [Nat.mul_mod_mul_right] at h2
 exact ⟨h1.symm, h2.symm⟩
theorem div_digit {B j X V Q U lo W q W1 : Nat} (hX : X = Q * (V * B ^ (j + 1)) + U) (hU : U = lo + B ^ j * W) (hlo : lo < B ^ j) (hW : W = q * V + W1) (hW1 : W1 < V) :
 X = (q + B * Q) * (V * B ^ j) + (lo + B ^ j * W1) ∧ lo + B ^ j * W1 < V * B ^ j := by
 constructor
 · rw [hX, hU, hW, Nat.pow_succ]
   grind
 · have h1 : B ^ j * (W1 + 1) ≤ B ^ j * V := Nat.mul_le_mul_left _ hW1
   rw [Nat.mul_add] at h1
   rw [Nat.mul_comm V]
   omega
def pad (B : Nat) : Nat → Nat → List Nat
 | 0, _ => []
 | k + 1, x => (x % B) :: pad B k (x / B)
theorem pad_len (B : Nat) : ∀ k x, (pad B k x).length = k
 | 0, _ => rfl
 | k + 1, x => by simp [pad, pad_len B k]
theorem pad_valB {B : Nat} (hB : 0 < B) : ∀ (l : List Nat), Digs B l → pad B l.length (valB B l) = l
 | [], _ => rfl
 | d :: l, h => by
  have h1 := h d (by simp)
  have ih := pad_valB hB l (fun x hx => h x (by simp [hx]))
  simp only [List.length_cons, pad, valB_cons]
  rw [Nat.add_mul_mod_self_left, Nat.mod_eq_of_lt h1, Nat.add_mul_div_left _ _ hB, Nat.div_eq_of_lt h1, Nat.zero_add, ih]
theorem pad_zero (B : Nat) : ∀ k, pad B k 0 = List.replicate k 0
 | 0 => rfl
 | k + 1 => by simp [pad, pad_zero B k, List.replicate_succ]
theorem pad_dig {B : Nat} (hB : 2 ≤ B) {k x : Nat} (h : x < B ^ k) : pad B k x = dig B x ++ List.replicate (k - (dig B x).length) 0 := by
 have h1 : Digs B (dig B x ++ List.replicate (k - (dig B x).length) 0) := (Digs.dig hB x).append (Digs.zeros (by omega) _)
 have h2 : valB B (dig B x ++ List.replicate (k - (dig B x).length) 0) = x := by
  rw [valB_append, valB_replicate, val_dig hB]
  simp
 have h3 : (dig B x ++ List.replicate (k - (dig B x).length) 0).length = k := by
  have := dig_len_le hB h
  simp
  omega
 have h4 := pad_valB (by omega) _ h1
 rw [h2, h3] at h4
 exact h4
theorem dig_pad {B : Nat} (hB : 2 ≤ B) {k x : Nat} (h : x < B ^ k) : dig B x = (pad B k x).take (dig B x).length := by
 rw [pad_dig hB h]
 simp
structure FracV where
 neg : Bool
 num : Nat
 den : Nat
deriving DecidableEq
abbrev top256 : Nat := 115792089237316195423570985008687907853269984665640564039457584007913129639936
def zeroF : FracV := ⟨false, 0, 0⟩
def fitL (neg : Bool) (n d : Nat) : FracV × Int :=
 if n / Nat.gcd n d < top256 ∧ d / Nat.gcd n d < top256 then (⟨neg && decide (n / Nat.gcd n d ≠ 0), n / Nat.gcd n d, d / Nat.gcd n d⟩, 0) else (zeroF, 3)
def ratioL (a b : Int) : FracV × Int := if b = 0 then (zeroF, 2) else fitL (decide (a < 0) != decide (b < 0)) a.natAbs b.natAbs
def ofL (n : Int) : FracV := ⟨decide (n < 0), n.natAbs, 1⟩
def cmpNat (x y : Nat) : Int := if x < y then -1 else if y < x then 1 else 0
theorem fitL_one (neg : Bool) (n : Nat) (h : n < top256) : fitL neg n 1 = (⟨neg && decide (n ≠ 0), n, 1⟩, 0) := by
 unfold fitL
 rw [Nat.gcd_one_right, Nat.div_one, Nat.div_one, if_pos ⟨h, by decide⟩]
def FitsR (q : Rat) : Prop := q.num.natAbs < top256 ∧ q.den < top256
instance (q : Rat) : Decidable (FitsR q) := by unfold FitsR; infer_instance
open Go.RowKit
abbrev B32 : Nat := 4294967296
theorem hB32 : 2 ≤ B32 := by decide
abbrev len32 (x : Nat) : Nat := (dig B32 x).length
abbrev Rd32 (w : World) (A : Option Addr) (x : Nat) : Prop := Rd w w.heap.size 1 A (nums .u32 (dig B32 x))
theorem Rd.from {w w' : World} {size : Nat} {A : Option Addr} {css : List (List Value)} (h : Rd w w.heap.size size A css) (hb : From w w') : Rd w' w'.heap.size size A css := (h.below hb (Nat.le_refl _)).more hb.size
theorem info_u32 : (Tryz.prog.info? 52).map (fun i => (i.zero, i.size, i.bytes)) = some (some (.int .u32 0), 1, 4) := by kernel_rfl
theorem size_u32 : (Tryz.prog.info? 52).map (·.size) = some 1 := by kernel_rfl
theorem dig_take {B : Nat} (hB : 2 ≤ B) {l : List Nat} (hl : Digs B l) : dig B (valB B l) = l.take (dig B (valB B l)).length := by
 have h := dig_pad hB (k := l.length) (valB_lt l hl)
 rw [pad_valB (by omega) l hl] at h
 exact h
theorem rd_trim {B : Nat} (hB : 2 ≤ B) {w : World} {N : Nat} {A : Option Addr} {k : IntKind} {l : List Nat} (h : Rd w N 1 A (nums k l)) (hl : Digs B l) : Rd w N 1 A (nums k (dig B (valB B l))) := by
 rw [dig_take hB hl, nums_take]
 exact h.take _
theorem wrap_u64 {n : Int} (h0 : 0 ≤ n) (h : n < 18446744073709551616) : IntKind.u64.wrap n = n := by
 unfold IntKind.wrap
 simp [IntKind.bits, IntKind.signed]
 omega
theorem wrap_u32 (n : Nat) : IntKind.u32.wrap (n : Int) = ((n % 4294967296 : Nat) : Int) := by
 unfold IntKind.wrap
 simp [IntKind.bits, IntKind.signed]
theorem wrap_u64_sub (a b : Nat) (hb : b ≤ 18446744073709551616) : IntKind.u64.wrap ((a : Int) - (b : Int)) = (((a + 18446744073709551616 - b) % 18446744073709551616 : Nat) : Int) := by
 unfold IntKind.wrap
 simp [IntKind.bits, IntKind.signed]
 omega
theorem wrap_i64 {n : Int} (h1 : -9223372036854775808 ≤ n) (h2 : n ≤ 9223372036854775807) : IntKind.i64.wrap n = n := by
 unfold IntKind.wrap
 simp [IntKind.bits, IntKind.signed]
 split <;> omega
def FracV.cells (f : FracV) : List Value := [.bool f.neg] ++ ((pad B32 8 f.num).map fun (n : Nat) => Value.int .u32 (n : Int)) ++ ((pad B32 8 f.den).map fun (n : Nat) => Value.int .u32 (n : Int))
def FracV.val (f : FracV) : Value := .agg f.cells.toArray
theorem FracV.cells_len (f : FracV) : f.cells.length = 17 := by simp [FracV.cells, pad_len]
theorem FracV.ones (f : FracV) : ∀ u ∈ f.cells, u.oneCell' = true := by
 intro u hu
 simp only [FracV.cells, List.mem_append, List.mem_cons, List.not_mem_nil, or_false, List.mem_map] at hu
 rcases hu with (rfl | ⟨n, _, rfl⟩) | ⟨n, _, rfl⟩ <;> simp [Value.oneCell']
theorem pow256 : B32 ^ 8 = top256 := by decide
def lenOf : Value → Nat
 | .slice _ n _ => n
 | _ => 0
set_option maxHeartbeats 1000000 in
theorem frac_trim (A : Option Addr) (c n : Nat) (l : List Nat) (hn : n = l.length) (w : World) (h : Rd w w.heap.size 1 A (nums .u32 l)) (hl : Digs B32 l) (hlen : l.length ≤ 1000000000) (hcap : l.length ≤ c) :
 Calls Tryz.prog 93 #[.slice A n c] w fun e w' => e = .returned (.slice A (len32 (valB B32 l)) c) ∧ w' = w := by
 subst hn
 go_enter Tryz.func93, Tryz.ntmps93
 go_wp2
 go_loop [0] (fun v => ∃ k : Nat, k ≤ l.length ∧ v = .slice A k c ∧ ∀ d ∈ l.drop k, d = 0) (fun v => lenOf v)
 case atStart => exact ⟨l.length, Nat.le_refl _, rfl, by simp⟩
 case round =>
  obtain ⟨k, hk, rfl, hz⟩ := hrel
  have HZ := Lib.hid hz
  clear hz
  by_cases hk0 : k = 0
  · subst hk0
    have HT : Hid (len32 (valB B32 l) = 0) := by unfold Hid len32; rw [trim_dig hB32 hl (Nat.zero_le _) HZ.out (.inl rfl)]; simp
    go_wp2
    go_ret
    exact ⟨by rw [HT.out]; rfl, rfl⟩
  · obtain ⟨j, rfl⟩ : ∃ j, k = j + 1 := ⟨k - 1, by omega⟩
    obtain ⟨b, off, rfl, hb, hld⟩ := num_ld Tryz.underlying52 rfl h (show j < l.length by omega)
    have HL := Lib.hid (hld w (Below.refl _ _))
    clear hld
    by_cases hz0 : l[j] = 0
    · have e0 : ((l[j] : Int) == 0) = true := by simp [hz0]
      have hcj : ¬ c < j := by omega
      go_wp2_with (first
       | ((with_reducible refine g_ld 52 ?_); (first | refine wpList_ld rfl _ _ rfl _ rfl _ HL.out ?_ | refine wpList_ldw rfl _ _ rfl _ rfl _ HL.out ?_)))
      go_round
      case rel =>
       refine ⟨j, by omega, by simp, fun d hd => ?_⟩
       rw [List.drop_eq_getElem_cons (show j < l.length by omega)] at hd
       rcases List.mem_cons.1 hd with h1 | h1
       · rw [h1, hz0]
       · exact HZ.out d h1
      case measure => simp [lenOf]
    · have HT : Hid (len32 (valB B32 l) = j + 1) := by
       unfold Hid len32
       rw [trim_dig hB32 hl hk HZ.out (.inr ⟨j, rfl, by simp [show j < l.length by omega]; exact hz0⟩)]
       simp
       omega
      have e0 : ((l[j] : Int) == 0) = false := by simp [hz0]
      go_wp2_with (first
       | ((with_reducible refine g_ld 52 ?_); (first | refine wpList_ld rfl _ _ rfl _ rfl _ HL.out ?_ | refine wpList_ldw rfl _ _ rfl _ rfl _ HL.out ?_)))
      go_ret
      exact ⟨by rw [HT.out]; rfl, rfl⟩
theorem drop_set_next {o O : List Nat} {i j r : Nat} (h : o.drop (i + j) = O.drop (i + j)) : (o.set (i + j) r).drop (i + (j + 1)) = O.drop (i + (j + 1)) := by
 have e : i + (j + 1) = (i + j) + 1 := by omega
 rw [e, drop_set]
 have h1 := congrArg (fun l => l.drop 1) h
 simpa [List.drop_drop] using h1
theorem times_row {B : Nat} {a b O o : List Nat} {i c : Nat} (hi : i < a.length) (hlen : i + b.length < o.length) (h0 : valB B (O.take (i + b.length)) = valB B (a.take i) * valB B b)
 (h : valB B (o.take (i + b.length)) + B ^ (i + b.length) * c = valB B (O.take (i + b.length)) + B ^ i * (a[i] * valB B (b.take b.length))) :
 valB B ((o.set (i + b.length) c).take (i + 1 + b.length)) = valB B (a.take (i + 1)) * valB B b := by
 have e : i + 1 + b.length = i + b.length + 1 := by omega
 rw [e, valB_set_take B hlen, h, h0, valB_take_succ hi, List.take_length]
 grind
set_option maxRecDepth 100000 in
set_option maxHeartbeats 4000000 in
theorem frac_times (A D : Option Addr) (ca cd : Nat) (x y n m : Nat) (hn : n = len32 x) (hm : m = len32 y) (w : World) (hA : Rd32 w A x) (hD : Rd32 w D y) (hx : len32 x ≤ 1000) (hy : len32 y ≤ 1000) :
 Calls Tryz.prog 57 #[.slice A n ca, .slice D m cd] w fun e w' => ∃ A' c', e = .returned (.slice A' (len32 (x * y)) c') ∧ Rd32 w' A' (x * y) ∧ len32 (x * y) ≤ c' ∧ Below w.heap.size w w' := by
 subst hn hm
 go_enter Tryz.func57, Tryz.ntmps57
 go_wp2_with (first
  | (at_make; go_loud (refine wpList_make_N (n := len32 x + len32 y) rfl _ _ rfl Tryz.underlying124 info_u32 rfl rfl (by simp) (by simp) (by omega) (by unfold maxLen; omega) ?_); intro w1 hnb1 hb1 hlt1))
 have HB1 := Lib.hid hb1
 have HNB1 := Lib.hid hnb1
 have HLT1 := Lib.hid hlt1
 clear hnb1 hb1 hlt1
 go_loopw [19] (fun i wr => ∃ (k : Nat) (o : List Nat), k ≤ len32 x ∧ i = .int .i64 k ∧ o.length = len32 x + len32 y ∧ Digs B32 o ∧ NB wr w.heap.size 52 .u32 o ∧ Below w.heap.size w wr ∧ w.heap.size < wr.heap.size ∧ valB B32 (o.take (k + len32 y)) = valB B32 ((dig B32 x).take k) * valB B32 (dig B32 y)) (fun i _ => len32 x - (intOf i).toNat)
 case atStart => exact ⟨0, _, Nat.zero_le _, rfl, List.length_replicate, Digs.zeros (by decide) _, HNB1.out, HB1.out, HLT1.out, by rw [List.take_replicate, valB_replicate]; simp [valB]⟩
 case round =>
  clear HB1 HNB1 HLT1
  obtain ⟨k, O, hk, rfl, hOl, hOd, hnb, hbr, hlt, hval⟩ := hrel
  have HV := Lib.hid hval
  have HNB := Lib.hid hnb
  have HBR := Lib.hid hbr
  have HOD := Lib.hid hOd
  have HLT := Lib.hid hlt
  clear hval hnb hbr hOd hlt
  by_cases hkl : k < len32 x
  · have HD := Lib.hid hD
    obtain ⟨b1, o1, rfl, hb1, hld1⟩ := num_ld Tryz.underlying52 rfl hA hkl
    have HL1 := Lib.hid (hld1 wr HBR.out)
    have hxa : (dig B32 x)[k] < 4294967296 := (Digs.dig hB32 x).get hkl
    have HXA : Hid (∃ xa, xa = (dig B32 x)[k]) := ⟨_, rfl⟩
    obtain ⟨xa, hxe⟩ := HXA.out
    have HXE := Lib.hid hxe
    rw [← hxe] at HL1 hxa
    clear hld1 HXA hxe
    have hkd : ((k : Int) < (len32 x : Int)) = True := by simp; omega
    go_wp2_with (first
     | ((with_reducible refine g_ld 52 ?_); refine wpList_ld rfl _ _ rfl _ rfl _ HL1.out ?_))
    go_loopw [8, 26] (fun cv i wr => ∃ (j c : Nat) (o : List Nat), j ≤ len32 y ∧ i = .int .i64 j ∧ cv = .int .u64 c ∧ c < 4294967296 ∧ o.length = len32 x + len32 y ∧ Digs B32 o ∧ NB wr w.heap.size 52 .u32 o ∧ Below w.heap.size w wr ∧ w.heap.size < wr.heap.size ∧ o.drop (k + j) = O.drop (k + j) ∧ valB B32 (o.take (k + j)) + B32 ^ (k + j) * c = valB B32 (O.take (k + j)) + B32 ^ k * (xa * valB B32 ((dig B32 y).take j))) (fun _ i _ => len32 y - (intOf i).toNat)
    case atStart => exact ⟨0, 0, O, Nat.zero_le _, rfl, rfl, by omega, hOl, HOD.out, HNB.out, HBR.out, HLT.out, rfl, by simp [valB]⟩
    case round =>
     clear HNB HBR HLT HL1
     obtain ⟨j, c, o, hj, rfl, rfl, hc, hol, hod, hnb, hbr, hlt, hdr, hval⟩ := hrel
     have HV2 := Lib.hid hval
     have HNB2 := Lib.hid hnb
     have HBR2 := Lib.hid hbr
     have HOD2 := Lib.hid hod
     have HDR2 := Lib.hid hdr
     have HLT2 := Lib.hid hlt
     clear hval hnb hbr hod hdr hlt
     by_cases hjl : j < len32 y
     · obtain ⟨b2, o2, rfl, hb2, hld2⟩ := num_ld Tryz.underlying52 rfl HD.out hjl
       have HL2 := Lib.hid (hld2 wr HBR2.out)
       have hyb : (dig B32 y)[j] < 4294967296 := (Digs.dig hB32 y).get hjl
       have HYD : Hid ((dig B32 y).getD j 0 = (dig B32 y)[j]) := by unfold Hid; simp [show j < (dig B32 y).length from hjl]
       generalize (dig B32 y)[j] = yb at *
       clear hld2
       have hko : k + j < o.length := by omega
       have HL3 := Lib.hid (HNB2.out.ld Tryz.underlying52 rfl hko)
       have hoc : o[k + j] < 4294967296 := HOD2.out.get hko
       have HOG : Hid (o.getD (k + j) 0 = o[k + j]) := by unfold Hid; simp [hko]
       generalize o[k + j] = oc at *
       have HST := Lib.hid (times_step (b := dig B32 y) (x := xa) (by omega) HDR2.out HV2.out)
       rw [HYD.out, HOG.out] at HST
       have hp := Nat.mul_le_mul (Nat.le_of_lt_succ hxa) (Nat.le_of_lt_succ hyb)
       obtain ⟨p, hpe⟩ : ∃ p, p = xa * yb := ⟨_, rfl⟩
       rw [← hpe] at hp HST
       obtain ⟨s1, hs1⟩ : ∃ s1, s1 = p + oc := ⟨_, rfl⟩
       obtain ⟨s2, hs2⟩ : ∃ s2, s2 = c + s1 := ⟨_, rfl⟩
       obtain ⟨r, hr⟩ : ∃ r, r = s2 % 4294967296 := ⟨_, rfl⟩
       obtain ⟨q, hq⟩ : ∃ q, q = s2 / 4294967296 := ⟨_, rfl⟩
       have wa := wrap_u64 (n := (xa : Int)) (by omega) (by omega)
       have wb := wrap_u64 (n := (yb : Int)) (by omega) (by omega)
       have wc := wrap_u64 (n := (oc : Int)) (by omega) (by omega)
       have w0' : IntKind.u64.wrap ((xa : Int) * (yb : Int)) = (p : Int) := by rw [← Int.natCast_mul, ← hpe, wrap_u64 (by omega) (by omega)]
       have w1' : IntKind.u64.wrap ((p : Int) + (oc : Int)) = (s1 : Int) := by rw [wrap_u64 (by omega) (by omega)]; omega
       have w2' : IntKind.u64.wrap ((c : Int) + (s1 : Int)) = (s2 : Int) := by rw [wrap_u64 (by omega) (by omega)]; omega
       have w3' : IntKind.u32.wrap (s2 : Int) = (r : Int) := by rw [wrap_u32, hr]
       have w4' : (s2 : Int) / 4294967296 = (q : Int) := by omega
       have e5 : c + (p + oc) = s2 := by omega
       rw [e5, ← hr, ← hq] at HST
       have hq1 : q < 4294967296 := by omega
       have hr1 : r < 4294967296 := by omega
       clear hs1 hs2 hr hq e5 hp hpe
       go_wp2_with (first
        | ((with_reducible refine g_ld 52 ?_); refine wpList_ld rfl _ _ rfl _ rfl _ HL2.out ?_; have HL4 := HL3; clear HL2)
        | ((with_reducible refine g_ld 52 ?_); refine wpList_ld rfl _ _ rfl _ rfl _ (by first | exact HL4.out | simpa using HL4.out) ?_; clear HL4)
        | ((with_reducible refine g_st 52 ?_); refine wpList_set rfl _ _ rfl rfl rfl rfl size_u32 HNB2.out hko ?_; intro w4 hnb4 hg4))
       go_roundw
       case rel => exact ⟨j + 1, q, o.set (k + j) r, by omega, by go_num, rfl, hq1, by simp [hol], HOD2.out.set _ _ hr1, hnb4, HBR2.out.grown hg4 HBR2.out.size (fun i hi => by injection hi with hi; omega), Nat.lt_of_lt_of_le HLT2.out hg4.size, drop_set_next HDR2.out, HST.out⟩
       case measure => simp [intOf]; omega
     · obtain rfl : j = len32 y := by omega
       have w3' : IntKind.u32.wrap (c : Int) = (c : Int) := by rw [wrap_u32, Nat.mod_eq_of_lt (by omega)]
       have hko : k + len32 y < o.length := by omega
       have HR := times_row (a := dig B32 x) (b := dig B32 y) (O := O) (o := o) (i := k) (c := c) hkl hko HV.out (by rw [← HXE.out]; exact HV2.out)
       have HR2 := Lib.hid HR
       clear HR
       go_wp2_with (first
        | ((with_reducible refine g_st 52 ?_); refine wpList_set rfl _ _ rfl rfl rfl rfl size_u32 HNB2.out hko ?_; intro w4 hnb4 hg4))
       go_roundw
       case rel => exact ⟨k + 1, o.set (k + len32 y) c, by omega, by go_num, by simp [hol], HOD2.out.set _ _ hc, hnb4, HBR2.out.grown hg4 HBR2.out.size (fun i hi => by injection hi with hi; omega), Nat.lt_of_lt_of_le HLT2.out hg4.size, HR2.out⟩
       case measure => simp [intOf]; omega
  · obtain rfl : k = len32 x := by omega
    go_wp2_with (first
     | (go_at_call 93; refine (frac_trim _ _ _ O (by simp [hOl]) wr HNB.out.rd0 HOD.out (by omega) (by omega)).mono ?_; rintro e w5 ⟨rfl, rfl⟩))
    go_ret
    have he : valB B32 O = x * y := by
     have h1 := HV.out
     rw [List.take_of_length_le (by omega), List.take_length, val_dig hB32, val_dig hB32] at h1
     exact h1
    have hlen := dig_len_le hB32 (valB_lt _ HOD.out)
    have hrd := rd_trim hB32 HNB.out.rd0 HOD.out
    rw [he] at hlen hrd
    rw [he]
    exact ⟨_, _, rfl, hrd, by rw [hOl] at hlen; exact hlen, HBR.out⟩
end Go.Proofs.YtfdjcakgolenbaaGreat
