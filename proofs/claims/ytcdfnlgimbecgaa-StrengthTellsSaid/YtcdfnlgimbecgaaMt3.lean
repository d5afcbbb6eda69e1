/-
  Numbers as lists of digits to a base, the lowest one first: plain Lean, no program.
-/
import Derived.Test.YtcdfnlgimbecgaaMt2
import Derived.Test.YtcdfnlgimbecgaaRows
namespace Go.Proofs.Ytcdfnlgimbecgaa
def valB (B : Nat) : List Nat → Nat
 | [] => 0
 | d :: l => d + B * valB B l
def digF (B : Nat) : Nat → Nat → List Nat
 | 0, _ => []
 | f + 1, n => if n = 0 then [] else (n % B) :: digF B f (n / B)
def dig (B n : Nat) : List Nat := digF B n n
theorem valB_nil (B : Nat) : valB B [] = 0 := rfl
theorem valB_cons (B d : Nat) (l : List Nat) : valB B (d :: l) = d + B * valB B l := rfl
theorem valB_append (B : Nat) : ∀ (l m : List Nat), valB B (l ++ m) = valB B l + B ^ l.length * valB B m
 | [], m => by simp [valB]
 | d :: l, m => by
  simp only [List.cons_append, valB_cons, valB_append B l m, List.length_cons, Nat.pow_succ, Nat.mul_add]
  rw [Nat.mul_comm (B ^ l.length) B, Nat.mul_assoc]
  omega
theorem valB_snoc (B : Nat) (l : List Nat) (d : Nat) : valB B (l ++ [d]) = valB B l + B ^ l.length * d := by
 rw [valB_append]; simp [valB]
theorem valB_take_succ {B : Nat} {l : List Nat} {k : Nat} (h : k < l.length) : valB B (l.take (k + 1)) = valB B (l.take k) + B ^ k * l[k] := by
 rw [List.take_succ_eq_append_getElem h, valB_snoc, List.length_take_of_le (Nat.le_of_lt h)]
theorem valB_lt {B : Nat} : ∀ (l : List Nat), (∀ d ∈ l, d < B) → valB B l < B ^ l.length
 | [], _ => by simp [valB]
 | d :: l, h => by
  have h1 := h d (by simp)
  have ih := valB_lt l (fun x hx => h x (by simp [hx]))
  simp only [valB_cons, List.length_cons, Nat.pow_succ]
  have h2 : B * (valB B l + 1) ≤ B * B ^ l.length := Nat.mul_le_mul_left B ih
  rw [Nat.mul_comm (B ^ l.length) B]
  rw [Nat.mul_add] at h2
  omega
theorem valB_replicate (B k : Nat) : valB B (List.replicate k 0) = 0 := by
 induction k with
 | zero => rfl
 | succ k ih => simp [List.replicate_succ, valB, ih]
section
variable {B : Nat} (hB : 2 ≤ B)
include hB
theorem div_lt_self_ {n : Nat} (h : n ≠ 0) : n / B < n := Nat.div_lt_self (by omega) (by omega)
theorem digF_fuel : ∀ (f n : Nat), n ≤ f → digF B f n = digF B n n
 | 0, n, h => by
  have : n = 0 := by omega
  subst this
  rfl
 | f + 1, n, h => by
  by_cases h0 : n = 0
  · subst h0; simp [digF]
  · obtain ⟨m, rfl⟩ : ∃ m, n = m + 1 := ⟨n - 1, by omega⟩
    have hlt := div_lt_self_ hB h0
    simp only [digF, if_neg h0]
    rw [digF_fuel f ((m + 1) / B) (by omega), digF_fuel m ((m + 1) / B) (by omega)]
theorem dig_zero : dig B 0 = [] := by
 have _h := hB
 rfl
theorem dig_pos {n : Nat} (h : n ≠ 0) : dig B n = (n % B) :: dig B (n / B) := by
 obtain ⟨m, rfl⟩ : ∃ m, n = m + 1 := ⟨n - 1, by omega⟩
 have hlt := div_lt_self_ hB h
 unfold dig
 simp only [digF, if_neg h]
 rw [digF_fuel hB m ((m + 1) / B) (by omega)]
theorem val_dig (n : Nat) : valB B (dig B n) = n := by
 induction n using Nat.strongRecOn with
 | ind n ih =>
  by_cases h : n = 0
  · subst h; rfl
  · rw [dig_pos hB h, valB_cons, ih _ (div_lt_self_ hB h)]
    exact Nat.mod_add_div n B
theorem dig_inj {m n : Nat} (h : dig B m = dig B n) : m = n := by rw [← val_dig hB m, ← val_dig hB n, h]
theorem dig_lt (n : Nat) : ∀ d ∈ dig B n, d < B := by
 induction n using Nat.strongRecOn with
 | ind n ih =>
  by_cases h : n = 0
  · subst h; simp [dig_zero hB]
  · rw [dig_pos hB h]
    intro d hd
    rcases List.mem_cons.1 hd with h1 | h1
    · subst h1; exact Nat.mod_lt _ (by omega)
    · exact ih _ (div_lt_self_ hB h) d h1
theorem dig_cons {d n : Nat} (hd : d < B) (h : n ≠ 0 ∨ d ≠ 0) : dig B (d + B * n) = d :: dig B n := by
 have hne : d + B * n ≠ 0 := by
  rcases h with h | h
  · have : 0 < B * n := Nat.mul_pos (by omega) (by omega)
    omega
  · omega
 rw [dig_pos hB hne, Nat.add_mul_mod_self_left, Nat.mod_eq_of_lt hd, Nat.add_mul_div_left _ _ (by omega), Nat.div_eq_of_lt hd, Nat.zero_add]
theorem dig_val : ∀ (l : List Nat), (∀ d ∈ l, d < B) → (∀ d, l.getLast? = some d → d ≠ 0) → dig B (valB B l) = l
 | [], _, _ => rfl
 | d :: l, h, hl => by
  have h1 := h d (by simp)
  have hl' : ∀ e, l.getLast? = some e → e ≠ 0 := fun e he => hl e (by rw [List.getLast?_cons, he]; rfl)
  have ih := dig_val l (fun x hx => h x (by simp [hx])) hl'
  rw [valB_cons, dig_cons hB h1, ih]
  cases l with
  | nil => exact .inr (hl d rfl)
  | cons e l =>
   left
   intro h0
   rw [h0] at ih
   cases ih
theorem dig_getLast {n d : Nat} (h : (dig B n).getLast? = some d) : d ≠ 0 := by
 induction n using Nat.strongRecOn generalizing d with
 | ind n ih =>
  by_cases h0 : n = 0
  · subst h0; simp [dig_zero hB] at h
  · rw [dig_pos hB h0, List.getLast?_cons] at h
    by_cases h1 : n / B = 0
    · rw [h1, dig_zero hB] at h
      simp at h
      subst h
      have := Nat.mod_add_div n B
      rw [h1] at this
      intro h2
      rw [h2] at this
      simp at this
      omega
    · cases hq : (dig B (n / B)).getLast? with
      | none =>
       rw [List.getLast?_eq_none_iff] at hq
       rw [dig_pos hB h1] at hq
       cases hq
      | some e =>
       rw [hq] at h
       simp at h
       subst h
       exact ih _ (div_lt_self_ hB h0) hq
theorem dig_len_le {n k : Nat} (h : n < B ^ k) : (dig B n).length ≤ k := by
 induction k generalizing n with
 | zero =>
  have : n = 0 := by simpa using h
  subst this
  simp [dig_zero hB]
 | succ k ih =>
  by_cases h0 : n = 0
  · subst h0; simp [dig_zero hB]
  · rw [dig_pos hB h0]
    have : n / B < B ^ k := by
     rw [Nat.div_lt_iff_lt_mul (by omega)]
     rwa [Nat.pow_succ] at h
    have := ih this
    simp only [List.length_cons]
    omega
theorem lt_of_dig_len {n k : Nat} (h : (dig B n).length ≤ k) : n < B ^ k := by
 have h1 := valB_lt (dig B n) (dig_lt hB n)
 rw [val_dig hB] at h1
 exact Nat.lt_of_lt_of_le h1 (Nat.pow_le_pow_right (by omega) h)
theorem dig_len_lt_iff {n k : Nat} : k < (dig B n).length ↔ B ^ k ≤ n := by
 constructor
 · intro h
   rcases Nat.lt_or_ge n (B ^ k) with h1 | h1
   · have := dig_len_le hB h1; omega
   · exact h1
 · intro h
   rcases Nat.lt_or_ge k (dig B n).length with h1 | h1
   · exact h1
   · have := lt_of_dig_len hB h1; omega
theorem dig_len_pos {n : Nat} (h : n ≠ 0) : 0 < (dig B n).length := by rw [dig_pos hB h]; simp
theorem lt_of_len_lt {m n : Nat} (h : (dig B m).length < (dig B n).length) : m < n :=
 Nat.lt_of_lt_of_le (lt_of_dig_len hB (Nat.le_refl _)) ((dig_len_lt_iff hB).1 h)
theorem dig_one : dig B 1 = [1] := by
 rw [dig_pos hB (by omega), Nat.mod_eq_of_lt (by omega), Nat.div_eq_of_lt (by omega), dig_zero hB]
end
theorem valB_split (B : Nat) (l : List Nat) (k : Nat) : valB B l = valB B (l.take k) + B ^ (l.take k).length * valB B (l.drop k) := by
 rw [← valB_append, List.take_append_drop]
theorem valB_lt_of_digit {B : Nat} {a b : List Nat} (ha : ∀ d ∈ a, d < B) (hl : a.length = b.length) {k : Nat} (hk : k < a.length) (hlt : a[k] < b[k]'(by omega)) (hd : a.drop (k + 1) = b.drop (k + 1)) : valB B a < valB B b := by
 rw [valB_split B a (k + 1), valB_split B b (k + 1), hd, valB_take_succ hk, valB_take_succ (by omega)]
 have e1 : (a.take (k + 1)).length = k + 1 := by simp; omega
 have e2 : (b.take (k + 1)).length = k + 1 := by simp; omega
 rw [e1, e2]
 have h1 := valB_lt (B := B) (a.take k) (fun d hd => ha d (List.mem_of_mem_take hd))
 rw [List.length_take_of_le (by omega)] at h1
 have h2 : B ^ k * (a[k] + 1) ≤ B ^ k * b[k]'(by omega) := Nat.mul_le_mul_left _ hlt
 rw [Nat.mul_add] at h2
 omega
def Digs (B : Nat) (l : List Nat) : Prop := ∀ d ∈ l, d < B
theorem Digs.take {B : Nat} {l : List Nat} (h : Digs B l) (k : Nat) : Digs B (l.take k) := fun d hd => h d (List.mem_of_mem_take hd)
theorem Digs.drop {B : Nat} {l : List Nat} (h : Digs B l) (k : Nat) : Digs B (l.drop k) := fun d hd => h d (List.mem_of_mem_drop hd)
theorem Digs.get {B : Nat} {l : List Nat} (h : Digs B l) {k : Nat} (hk : k < l.length) : l[k] < B := h _ (List.getElem_mem hk)
theorem Digs.set {B : Nat} {l : List Nat} (h : Digs B l) (k x : Nat) (hx : x < B) : Digs B (l.set k x) := fun d hd => by
 rcases List.mem_or_eq_of_mem_set hd with h1 | h1
 · exact h d h1
 · rw [h1]; exact hx
theorem Digs.append {B : Nat} {l m : List Nat} (h : Digs B l) (h' : Digs B m) : Digs B (l ++ m) := fun d hd => by
 rcases List.mem_append.1 hd with h1 | h1
 · exact h d h1
 · exact h' d h1
theorem Digs.zeros {B : Nat} (hB : 0 < B) (n : Nat) : Digs B (List.replicate n 0) := fun d hd => by
 rw [(List.mem_replicate.1 hd).2]; exact hB
theorem Digs.getD {B : Nat} {l : List Nat} (h : Digs B l) (hB : 0 < B) (k : Nat) : l.getD k 0 < B := by
 rcases Nat.lt_or_ge k l.length with hk | hk
 · have e : l.getD k 0 = l[k] := by simp [hk]
   rw [e]; exact h.get hk
 · have e : l.getD k 0 = 0 := by simp [hk]
   rw [e]; exact hB
theorem Digs.dig {B : Nat} (hB : 2 ≤ B) (n : Nat) : Digs B (dig B n) := dig_lt hB n
theorem valB_take_getD (B : Nat) (l : List Nat) (i : Nat) : valB B (l.take (i + 1)) = valB B (l.take i) + B ^ i * l.getD i 0 := by
 rcases Nat.lt_or_ge i l.length with h | h
 · have e : l.getD i 0 = l[i] := by simp [h]
   rw [e, valB_take_succ h]
 · have e : l.getD i 0 = 0 := by simp [h]
   rw [e, List.take_of_length_le (by omega), List.take_of_length_le h, Nat.mul_zero, Nat.add_zero]
theorem take_set (l : List Nat) (i x : Nat) : (l.set i x).take i = l.take i := by
 rw [List.take_set]
 exact List.set_eq_of_length_le (by simp; omega)
theorem valB_set_take (B : Nat) {l : List Nat} {i x : Nat} (h : i < l.length) : valB B ((l.set i x).take (i + 1)) = valB B (l.take i) + B ^ i * x := by
 rw [valB_take_getD, take_set]
 simp [h]
theorem drop_set (l : List Nat) (i x : Nat) : (l.set i x).drop (i + 1) = l.drop (i + 1) := by
 rw [List.drop_set]
 simp
theorem valB_zero {B : Nat} {l : List Nat} (h : ∀ d ∈ l, d = 0) : valB B l = 0 := by
 induction l with
 | nil => rfl
 | cons d l ih =>
  rw [valB_cons, h d (by simp), ih (fun e he => h e (by simp [he]))]
  simp
theorem valB_take_zero {B : Nat} {l : List Nat} {k : Nat} (h : ∀ d ∈ l.drop k, d = 0) : valB B (l.take k) = valB B l := by
 rw [valB_split B l k, valB_zero h]
 simp
theorem trim_dig {B : Nat} (hB : 2 ≤ B) {l : List Nat} (hl : Digs B l) {k : Nat} (hk : k ≤ l.length) (hz : ∀ d ∈ l.drop k, d = 0) (he : k = 0 ∨ ∃ j, k = j + 1 ∧ l.getD j 0 ≠ 0) : dig B (valB B l) = l.take k := by
 rw [← valB_take_zero hz]
 refine dig_val hB _ (hl.take k) fun d hd => ?_
 rcases he with rfl | ⟨j, rfl, hj⟩
 · simp at hd
 · rw [List.getLast?_eq_getElem?] at hd
   have e : (l.take (j + 1)).length - 1 = j := by simp; omega
   rw [e, List.getElem?_take, if_pos (by omega)] at hd
   have hjl : j < l.length := by omega
   rw [List.getElem?_eq_getElem hjl] at hd
   injection hd with hd
   simp [hjl] at hj
   omega
theorem plus_step {B : Nat} (_hB : 2 ≤ B) {a b o : List Nat} {i c : Nat} (hi : i < o.length) (h : valB B (o.take i) + B ^ i * c = valB B (a.take i) + valB B (b.take i)) :
 valB B ((o.set i ((c + a.getD i 0 + b.getD i 0) % B)).take (i + 1)) + B ^ (i + 1) * ((c + a.getD i 0 + b.getD i 0) / B) = valB B (a.take (i + 1)) + valB B (b.take (i + 1)) := by
 rw [valB_set_take B hi, valB_take_getD, valB_take_getD, Nat.pow_succ]
 have h1 := Nat.mod_add_div (c + a.getD i 0 + b.getD i 0) B
 generalize (c + a.getD i 0 + b.getD i 0) % B = r at *
 generalize (c + a.getD i 0 + b.getD i 0) / B = q at *
 grind
theorem plus_end {B : Nat} {a b o : List Nat} {c : Nat} (ho : o.length = a.length + 1) (hb : b.length ≤ a.length) (h : valB B (o.take a.length) + B ^ a.length * c = valB B (a.take a.length) + valB B (b.take a.length)) :
 valB B (o.set a.length c) = valB B a + valB B b := by
 have h1 := valB_set_take B (l := o) (i := a.length) (x := c) (by omega)
 rw [List.take_of_length_le (by simp; omega)] at h1
 rw [List.take_length, List.take_of_length_le hb] at h
 omega
theorem minus_step {B : Nat} {a b o : List Nat} {i owed owed' r : Nat} (hi : i < o.length) (h : valB B (o.take i) + valB B (b.take i) = valB B (a.take i) + B ^ i * owed) (hr : r + owed + b.getD i 0 = a.getD i 0 + B * owed') :
 valB B ((o.set i r).take (i + 1)) + valB B (b.take (i + 1)) = valB B (a.take (i + 1)) + B ^ (i + 1) * owed' := by
 rw [valB_set_take B hi, valB_take_getD, valB_take_getD, Nat.pow_succ]
 grind
theorem times_step {B : Nat} {b o O : List Nat} {i k x c : Nat} (hk : i + k < o.length) (hd : o.drop (i + k) = O.drop (i + k)) (h : valB B (o.take (i + k)) + B ^ (i + k) * c = valB B (O.take (i + k)) + B ^ i * (x * valB B (b.take k))) :
 valB B ((o.set (i + k) ((c + (x * b.getD k 0 + o.getD (i + k) 0)) % B)).take (i + (k + 1))) + B ^ (i + (k + 1)) * ((c + (x * b.getD k 0 + o.getD (i + k) 0)) / B) = valB B (O.take (i + (k + 1))) + B ^ i * (x * valB B (b.take (k + 1))) := by
 have e : i + (k + 1) = (i + k) + 1 := by omega
 have hO : o.getD (i + k) 0 = O.getD (i + k) 0 := by
  have h1 := congrArg (fun l => l.getD 0 0) hd
  simpa [List.getD] using h1
 rw [e, valB_set_take B hk, valB_take_getD B O, valB_take_getD B b, hO, Nat.pow_succ, Nat.pow_add] at *
 have h1 := Nat.mod_add_div (c + (x * b.getD k 0 + O.getD (i + k) 0)) B
 generalize (c + (x * b.getD k 0 + O.getD (i + k) 0)) % B = r at *
 generalize (c + (x * b.getD k 0 + O.getD (i + k) 0)) / B = q at *
 grind
theorem take_step {B : Nat} {u v o : List Nat} {i t c owed owed' r : Nat} (hi : i < o.length) (h : valB B (o.take i) + t * valB B (v.take i) = valB B (u.take i) + B ^ i * (c + owed))
 (hr : r + (c + t * v.getD i 0) % B + owed = u.getD i 0 + B * owed') :
 valB B ((o.set i r).take (i + 1)) + t * valB B (v.take (i + 1)) = valB B (u.take (i + 1)) + B ^ (i + 1) * ((c + t * v.getD i 0) / B + owed') := by
 rw [valB_set_take B hi, valB_take_getD, valB_take_getD, Nat.pow_succ]
 have h1 := Nat.mod_add_div (c + t * v.getD i 0) B
 generalize (c + t * v.getD i 0) % B = m at *
 generalize (c + t * v.getD i 0) / B = q at *
 grind
theorem valB_drop_getD (B : Nat) {l : List Nat} {i : Nat} (h : i < l.length) : valB B (l.drop i) = l[i] + B * valB B (l.drop (i + 1)) := by
 rw [List.drop_eq_getElem_cons h, valB_cons]
theorem valB_drop_set (B : Nat) {l : List Nat} {i x : Nat} (h : i < l.length) : valB B ((l.set i x).drop i) = x + B * valB B (l.drop (i + 1)) := by
 rw [valB_drop_getD B (by simpa using h), drop_set]
 simp
theorem small_step {B by_ : Nat} {a o : List Nat} {i r : Nat} (hi : i < a.length) (ho : o.length = a.length) (h : valB B (a.drop (i + 1)) = valB B (o.drop (i + 1)) * by_ + r) :
 valB B (a.drop i) = valB B ((o.set i ((r * B + a[i]) / by_)).drop i) * by_ + (r * B + a[i]) % by_ := by
 rw [valB_drop_getD B hi, valB_drop_set B (by omega), h]
 have h1 := Nat.mod_add_div (r * B + a[i]) by_
 generalize (r * B + a[i]) % by_ = m at *
 generalize (r * B + a[i]) / by_ = q at *
 grind
theorem guess_ge {B n V W vt top lo lov : Nat} (hB : 0 < B) (hv : V = lov + B ^ n * vt) (hw : W = lo + B ^ n * top) (hlo : lo < B ^ n) (hvt : 0 < vt) : W / V ≤ top / vt := by
 have hP : 0 < B ^ n := Nat.pow_pos hB
 have hV : 0 < V := by
  have : 0 < B ^ n * vt := Nat.mul_pos hP hvt
  omega
 rw [Nat.le_div_iff_mul_le hvt]
 have h1 : W / V * V ≤ W := Nat.div_mul_le_self W V
 have h2 : W / V * (B ^ n * vt) ≤ W / V * V := Nat.mul_le_mul_left _ (by omega)
 have h3 : W / V * (B ^ n * vt) = B ^ n * (W / V * vt) := by grind
 rw [h3] at h2
 have h4 : B ^ n * (W / V * vt) < B ^ n * (top + 1) := by
  rw [Nat.mul_add]
  omega
 have := Nat.lt_of_mul_lt_mul_left h4
 omega
theorem guess_le {B n V W vt top lo : Nat} (hv : V < B ^ n * (vt + 1)) (hw : W = lo + B ^ n * top) (hV : 0 < V) : top / (vt + 1) ≤ W / V := by
 rw [Nat.le_div_iff_mul_le hV]
 have h1 : top / (vt + 1) * (vt + 1) ≤ top := Nat.div_mul_le_self _ _
 have h2 : top / (vt + 1) * V ≤ top / (vt + 1) * (B ^ n * (vt + 1)) := Nat.mul_le_mul_left _ (by omega)
 have h3 : top / (vt + 1) * (B ^ n * (vt + 1)) = B ^ n * (top / (vt + 1) * (vt + 1)) := by grind
 rw [h3] at h2
 have h4 : B ^ n * (top / (vt + 1) * (vt + 1)) ≤ B ^ n * top := Nat.mul_le_mul_left _ h1
 omega
theorem guess_eq {g V W W1 : Nat} (hV : 0 < V) (hge : W / V ≤ g) (h : W1 + g * V = W) : g = W / V ∧ W1 = W % V := by
 have h1 : g ≤ W / V := by
  rw [Nat.le_div_iff_mul_le hV]
  omega
 have h2 : g = W / V := by omega
 refine ⟨h2, ?_⟩
 have h3 := Nat.mod_add_div W V
 rw [h2] at h
 rw [Nat.mul_comm V] at h3
 omega
theorem guess_gt {g V W W1 P : Nat} (h : W1 + g * V = W + P) (hW1 : W1 < P) (hV : 0 < V) : W / V < g := by
 rw [Nat.div_lt_iff_lt_mul hV]
 omega
theorem div_scaled {a b s q r : Nat} (hs : 0 < s) (h : a * s = q * (b * s) + r) (hr : r < b * s) : q = a / b ∧ r = a % b * s := by
 have hb : 0 < b := by
  rcases Nat.eq_zero_or_pos b with h0 | h0
  · subst h0; simp at hr
  · exact h0
 have h1 : a * s / (b * s) = q := by
  rw [h]
  rw [Nat.add_comm, Nat.add_mul_div_right _ _ (Nat.mul_pos hb hs), Nat.div_eq_of_lt hr, Nat.zero_add]
 rw [Nat.mul_div_mul_right _ _ hs] at h1
 have h2 : a * s % (b * s) = r := by
  rw [h, Nat.add_comm, Nat.add_mul_mod_self_right, Nat.mod_eq_of_lt hr]
 rw [Nat.mul_mod_mul_right] at h2
 exact ⟨h1.symm, h2.symm⟩
theorem div_digit {B j X V Q U lo W q W1 : Nat} (hX : X = Q * (V * B ^ (j + 1)) + U) (hU : U = lo + B ^ j * W) (hlo : lo < B ^ j) (hW : W = q * V + W1) (hW1 : W1 < V) :
 X = (q + B * Q) * (V * B ^ j) + (lo + B ^ j * W1) ∧ lo + B ^ j * W1 < V * B ^ j := by
 constructor
 · rw [hX, hU, hW, Nat.pow_succ]
   grind
 · have h1 : B ^ j * (W1 + 1) ≤ B ^ j * V := Nat.mul_le_mul_left _ hW1
   rw [Nat.mul_add] at h1
   rw [Nat.mul_comm V]
   omega
def pad (B : Nat) : Nat → Nat → List Nat
 | 0, _ => []
 | k + 1, x => (x % B) :: pad B k (x / B)
theorem pad_len (B : Nat) : ∀ k x, (pad B k x).length = k
 | 0, _ => rfl
 | k + 1, x => by simp [pad, pad_len B k]
theorem pad_digs {B : Nat} (hB : 0 < B) : ∀ k x, Digs B (pad B k x)
 | 0, _ => by intro d hd; simp [pad] at hd
 | k + 1, x => by
  intro d hd
  rcases List.mem_cons.1 hd with h | h
  · rw [h]; exact Nat.mod_lt _ hB
  · exact pad_digs hB k _ d h
theorem valB_pad {B : Nat} (hB : 0 < B) : ∀ k x, x < B ^ k → valB B (pad B k x) = x
 | 0, x, h => by simp at h; subst h; rfl
 | k + 1, x, h => by
  have h1 : x / B < B ^ k := by
   rw [Nat.div_lt_iff_lt_mul hB]
   rwa [Nat.pow_succ] at h
  simp only [pad, valB_cons, valB_pad hB k _ h1]
  exact Nat.mod_add_div x B
theorem pad_valB {B : Nat} (hB : 0 < B) : ∀ (l : List Nat), Digs B l → pad B l.length (valB B l) = l
 | [], _ => rfl
 | d :: l, h => by
  have h1 := h d (by simp)
  have ih := pad_valB hB l (fun x hx => h x (by simp [hx]))
  simp only [List.length_cons, pad, valB_cons]
  rw [Nat.add_mul_mod_self_left, Nat.mod_eq_of_lt h1, Nat.add_mul_div_left _ _ hB, Nat.div_eq_of_lt h1, Nat.zero_add, ih]
theorem pad_zero (B : Nat) : ∀ k, pad B k 0 = List.replicate k 0
 | 0 => rfl
 | k + 1 => by simp [pad, pad_zero B k, List.replicate_succ]
theorem pad_dig {B : Nat} (hB : 2 ≤ B) {k x : Nat} (h : x < B ^ k) : pad B k x = dig B x ++ List.replicate (k - (dig B x).length) 0 := by
 have h1 : Digs B (dig B x ++ List.replicate (k - (dig B x).length) 0) := (Digs.dig hB x).append (Digs.zeros (by omega) _)
 have h2 : valB B (dig B x ++ List.replicate (k - (dig B x).length) 0) = x := by
  rw [valB_append, valB_replicate, val_dig hB]
  simp
 have h3 : (dig B x ++ List.replicate (k - (dig B x).length) 0).length = k := by
  have := dig_len_le hB h
  simp
  omega
 have h4 := pad_valB (by omega) _ h1
 rw [h2, h3] at h4
 exact h4
theorem dig_pad {B : Nat} (hB : 2 ≤ B) {k x : Nat} (h : x < B ^ k) : dig B x = (pad B k x).take (dig B x).length := by
 rw [pad_dig hB h]
 simp
structure FracV where
 neg : Bool
 num : Nat
 den : Nat
deriving DecidableEq
abbrev top256 : Nat := 115792089237316195423570985008687907853269984665640564039457584007913129639936
def FracV.fits (f : FracV) : Prop := f.num < top256 ∧ f.den < top256
def FracV.right (f : FracV) : Bool := decide (f.den ≠ 0) && decide (Nat.gcd f.num f.den = 1) && !(f.neg && decide (f.num = 0))
def zeroF : FracV := ⟨false, 0, 0⟩
def fitL (neg : Bool) (n d : Nat) : FracV × Int :=
 if n / Nat.gcd n d < top256 ∧ d / Nat.gcd n d < top256 then (⟨neg && decide (n / Nat.gcd n d ≠ 0), n / Nat.gcd n d, d / Nat.gcd n d⟩, 0) else (zeroF, 3)
def negL (f : FracV) : FracV := ⟨!f.neg && decide (f.num ≠ 0), f.num, f.den⟩
def sumL (f g : FracV) : FracV × Int :=
 if f.neg = g.neg then fitL f.neg (f.num * g.den + g.num * f.den) (f.den * g.den)
 else if f.num * g.den < g.num * f.den then fitL g.neg (g.num * f.den - f.num * g.den) (f.den * g.den)
 else fitL f.neg (f.num * g.den - g.num * f.den) (f.den * g.den)
def addL (f g : FracV) : FracV × Int := if f.right && g.right then sumL f g else (zeroF, 2)
def subL (f g : FracV) : FracV × Int := if f.right && g.right then sumL f (negL g) else (zeroF, 2)
def mulL (f g : FracV) : FracV × Int := if f.right && g.right then fitL (f.neg != g.neg) (f.num * g.num) (f.den * g.den) else (zeroF, 2)
def divL (f g : FracV) : FracV × Int := if f.right && g.right && decide (g.num ≠ 0) then fitL (f.neg != g.neg) (f.num * g.den) (f.den * g.num) else (zeroF, 2)
def ratioL (a b : Int) : FracV × Int := if b = 0 then (zeroF, 2) else fitL (decide (a < 0) != decide (b < 0)) a.natAbs b.natAbs
def ofL (n : Int) : FracV := ⟨decide (n < 0), n.natAbs, 1⟩
def cmpNat (x y : Nat) : Int := if x < y then -1 else if y < x then 1 else 0
def cmpL (f g : FracV) : Int × Int :=
 if f.right && g.right then
  (if f.neg && !g.neg then -1 else if g.neg && !f.neg then 1 else if f.neg then cmpNat (g.num * f.den) (f.num * g.den) else cmpNat (f.num * g.den) (g.num * f.den), 0)
 else (0, 2)
theorem fitL_scale (neg : Bool) (n d k : Nat) (hk : 0 < k) : fitL neg (n * k) (d * k) = fitL neg n d := by
 unfold fitL
 rw [Nat.gcd_mul_right, Nat.mul_div_mul_right _ _ hk, Nat.mul_div_mul_right _ _ hk]
theorem fitL_fits (neg : Bool) (n d : Nat) : (fitL neg n d).1.fits := by
 unfold fitL
 split
 · rename_i h
   exact h
 · unfold zeroF FracV.fits
   exact ⟨by decide, by decide⟩
theorem ofL_right (n : Int) : (ofL n).right = true := by
 unfold ofL FracV.right
 simp
 omega
theorem fitL_one (neg : Bool) (n : Nat) (h : n < top256) : fitL neg n 1 = (⟨neg && decide (n ≠ 0), n, 1⟩, 0) := by
 unfold fitL
 rw [Nat.gcd_one_right, Nat.div_one, Nat.div_one, if_pos ⟨h, by decide⟩]
theorem ratioL_one (n : Int) (h : n.natAbs < top256) : ratioL n 1 = (ofL n, 0) := by
 unfold ratioL ofL
 rw [if_neg (by omega)]
 have e : (1 : Int).natAbs = 1 := rfl
 rw [e, fitL_one _ _ h]
 by_cases hn : n < 0
 · simp [hn]; omega
 · simp [hn]
def ofRat (q : Rat) : FracV := ⟨decide (q.num < 0), q.num.natAbs, q.den⟩
def FitsR (q : Rat) : Prop := q.num.natAbs < top256 ∧ q.den < top256
instance (q : Rat) : Decidable (FitsR q) := by unfold FitsR; infer_instance
def outR (q : Rat) : FracV × Int := if FitsR q then (ofRat q, 0) else (zeroF, 3)
theorem outR_fits {q : Rat} (h : FitsR q) : outR q = (ofRat q, 0) := by unfold outR; rw [if_pos h]
theorem rat_eq (q : Rat) : q = (q.num : Rat) / (q.den : Rat) := by
 have h1 := Rat.num_divInt_den q
 rw [Rat.divInt_eq_div, Rat.intCast_natCast] at h1
 exact h1.symm
theorem ofRat_right (q : Rat) : (ofRat q).right = true := by
 unfold ofRat FracV.right
 have h1 := q.den_nz
 have h2 : Nat.gcd q.num.natAbs q.den = 1 := q.reduced
 simp only [h1, h2, ne_eq, not_false_eq_true, decide_true, Bool.true_and, Bool.not_eq_true', Bool.and_eq_false_iff, decide_eq_false_iff_not]
 omega
theorem fitL_rat (neg : Bool) (n d : Nat) (hd : d ≠ 0) : fitL neg n d = outR (Rat.normalize (if neg then -(n : Int) else n) d hd) := by
 have e : (if neg then -(n : Int) else (n : Int)).natAbs = n := by cases neg <;> simp
 have hg : 0 < Nat.gcd n d := Nat.gcd_pos_of_pos_right _ (Nat.pos_of_ne_zero hd)
 have hdv : Nat.gcd n d ∣ n := Nat.gcd_dvd_left n d
 rw [Rat.normalize_eq hd]
 unfold outR FitsR ofRat fitL
 simp only [e]
 generalize Nat.gcd n d = g at *
 obtain ⟨m, rfl⟩ := hdv
 have h1 : g * m / g = m := Nat.mul_div_cancel_left m hg
 have h2 : (if neg then -((g * m : Nat) : Int) else ((g * m : Nat) : Int)) / (g : Int) = if neg then -(m : Int) else m := by
  have hg' : (g : Int) ≠ 0 := by omega
  cases neg
  · simp only [Bool.false_eq_true, if_false]
    rw [Int.natCast_mul, Int.mul_ediv_cancel_left _ hg']
  · simp only [if_true]
    rw [Int.natCast_mul, ← Int.mul_neg, Int.mul_ediv_cancel_left _ hg']
 rw [h1, h2]
 have h3 : (if neg then -(m : Int) else (m : Int)).natAbs = m := by cases neg <;> simp
 rw [h3]
 split
 · congr 2
   cases neg
   · simp
   · by_cases hm : m = 0
     · simp [hm]
     · have h4 : -(m : Int) < 0 := by omega
       simp [hm]
       omega
 · rfl
theorem negL_rat (q : Rat) : negL (ofRat q) = ofRat (-q) := by
 unfold negL ofRat
 simp only [Rat.neg_num, Rat.neg_den, Int.natAbs_neg, FracV.mk.injEq, and_true]
 by_cases h : q.num < 0
 · have h2 : ¬ -q.num < 0 := by omega
   simp [h]
   omega
 · by_cases h0 : q.num = 0
   · simp [h0]
   · have h2 : -q.num < 0 := by omega
     have h3 : q.num.natAbs ≠ 0 := by omega
     simp [h, h0]
     omega
theorem ofL_rat (n : Int) : ofL n = ofRat (n : Rat) := by
 unfold ofL ofRat
 simp only [Rat.num_intCast, Rat.den_intCast]
 congr 1
theorem sumL_rat (p q : Rat) : sumL (ofRat p) (ofRat q) = outR (p + q) := by
 have hd : p.den * q.den ≠ 0 := Nat.mul_ne_zero p.den_nz q.den_nz
 rw [Rat.add_def]
 unfold sumL ofRat
 simp only
 have ep : p.num = if p.num < 0 then -(p.num.natAbs : Int) else (p.num.natAbs : Int) := by split <;> omega
 have eq : q.num = if q.num < 0 then -(q.num.natAbs : Int) else (q.num.natAbs : Int) := by split <;> omega
 generalize p.num.natAbs = a at *
 generalize q.num.natAbs = b at *
 by_cases h1 : p.num < 0 <;> by_cases h2 : q.num < 0
 · simp only [h1, h2, decide_true, if_true] at *
   rw [fitL_rat _ _ _ hd]
   congr 2
   rw [ep, eq]
   simp only [if_true]
   push_cast
   grind
 · simp only [h1, h2, decide_true, decide_false, if_true, if_false, Bool.true_eq_false] at *
   split
   · rename_i h3
     rw [fitL_rat _ _ _ hd]
     congr 2
     rw [ep, eq]
     simp only [Bool.false_eq_true, if_false]
     rw [Int.natCast_sub (by omega)]
     push_cast
     grind
   · rename_i h3
     rw [fitL_rat _ _ _ hd]
     congr 2
     rw [ep, eq]
     simp only [if_true]
     rw [Int.natCast_sub (by omega)]
     push_cast
     grind
 · simp only [h1, h2, decide_true, decide_false, if_true, if_false, Bool.false_eq_true] at *
   split
   · rename_i h3
     rw [fitL_rat _ _ _ hd]
     congr 2
     rw [ep, eq]
     simp only [if_true]
     rw [Int.natCast_sub (by omega)]
     push_cast
     grind
   · rename_i h3
     rw [fitL_rat _ _ _ hd]
     congr 2
     rw [ep, eq]
     simp only [Bool.false_eq_true, if_false]
     rw [Int.natCast_sub (by omega)]
     push_cast
     grind
 · simp only [h1, h2, decide_false, if_true, if_false] at *
   rw [fitL_rat _ _ _ hd]
   congr 2
   rw [ep, eq]
   simp only [Bool.false_eq_true, if_false]
   push_cast
   grind
theorem mulL_rat (p q : Rat) : mulL (ofRat p) (ofRat q) = outR (p * q) := by
 have hd : p.den * q.den ≠ 0 := Nat.mul_ne_zero p.den_nz q.den_nz
 rw [Rat.mul_def]
 unfold mulL
 rw [ofRat_right, ofRat_right]
 simp only [Bool.and_self, if_true]
 unfold ofRat
 simp only
 rw [fitL_rat _ _ _ hd]
 have ep : p.num = if p.num < 0 then -(p.num.natAbs : Int) else (p.num.natAbs : Int) := by split <;> omega
 have eq : q.num = if q.num < 0 then -(q.num.natAbs : Int) else (q.num.natAbs : Int) := by split <;> omega
 generalize p.num.natAbs = a at *
 generalize q.num.natAbs = b at *
 congr 2
 by_cases h1 : p.num < 0 <;> by_cases h2 : q.num < 0 <;> simp [h1, h2] at ep eq ⊢ <;> rw [ep, eq] <;> push_cast <;> grind
theorem sgn_div (s t : Bool) (a b c d : Nat) (hb : b ≠ 0) (hc : c ≠ 0) (hd : d ≠ 0) :
 (((if (s != t) = true then -((a * d : Nat) : Int) else ((a * d : Nat) : Int) : Int)) : Rat) / ((c * b : Nat) : Rat) = (((if s = true then -(a : Int) else (a : Int) : Int)) : Rat) / (c : Rat) / ((((if t = true then -(b : Int) else (b : Int) : Int)) : Rat) / (d : Rat)) := by
 have hb' : (b : Rat) ≠ 0 := by simpa using hb
 have hc' : (c : Rat) ≠ 0 := by simpa using hc
 have hd' : (d : Rat) ≠ 0 := by simpa using hd
 cases s <;> cases t <;> simp only [bne_self_eq_false, Bool.false_eq_true, if_false, if_true, Bool.true_bne, Bool.false_bne, Bool.not_false, Rat.intCast_neg, Rat.intCast_natCast, Rat.natCast_mul] <;> grind
theorem sgn_num (n : Int) : n = if (decide (n < 0)) = true then -(n.natAbs : Int) else (n.natAbs : Int) := by
 by_cases h : n < 0
 · simp only [h, decide_true, if_true]; omega
 · simp only [h, decide_false, Bool.false_eq_true, if_false]; omega
theorem divL_rat (p q : Rat) (hq : q ≠ 0) : divL (ofRat p) (ofRat q) = outR (p / q) := by
 have hq0 : q.num ≠ 0 := fun h => hq (Rat.num_eq_zero.1 h)
 have hn : q.num.natAbs ≠ 0 := by omega
 have hd : p.den * q.num.natAbs ≠ 0 := Nat.mul_ne_zero p.den_nz hn
 unfold divL
 rw [ofRat_right, ofRat_right]
 have h0 : decide ((ofRat q).num ≠ 0) = true := by unfold ofRat; simpa using hq0
 rw [h0]
 simp only [Bool.and_self, if_true]
 unfold ofRat
 simp only
 rw [fitL_rat _ _ _ hd]
 congr 1
 rw [Rat.normalize_eq_mkRat, Rat.mkRat_eq_div, sgn_div _ _ _ _ _ _ hn p.den_nz q.den_nz, ← sgn_num, ← sgn_num, ← rat_eq, ← rat_eq]
theorem ratioL_rat (a b : Int) (hb : b ≠ 0) : ratioL a b = outR ((a : Rat) / (b : Rat)) := by
 unfold ratioL
 rw [if_neg hb, fitL_rat _ _ _ (by omega)]
 congr 1
 have h := sgn_div (decide (a < 0)) (decide (b < 0)) a.natAbs b.natAbs 1 1 (by omega) (by omega) (by omega)
 rw [← sgn_num, ← sgn_num] at h
 simp only [Nat.mul_one, Nat.one_mul] at h
 rw [Rat.normalize_eq_mkRat, Rat.mkRat_eq_div, h]
 have e1 : ((1 : Nat) : Rat) = 1 := rfl
 rw [e1]
 grind
open Go.RowKit
abbrev B32 : Nat := 4294967296
abbrev B16 : Nat := 65536
theorem hB32 : 2 ≤ B32 := by decide
theorem hB16 : 2 ≤ B16 := by decide
abbrev len32 (x : Nat) : Nat := (dig B32 x).length
abbrev len16 (x : Nat) : Nat := (dig B16 x).length
abbrev Rd32 (w : World) (A : Option Addr) (x : Nat) : Prop := Rd w w.heap.size 1 A (nums .u32 (dig B32 x))
abbrev Rd16 (w : World) (A : Option Addr) (x : Nat) : Prop := Rd w w.heap.size 1 A (nums .i64 (dig B16 x))
theorem Rd.from {w w' : World} {size : Nat} {A : Option Addr} {css : List (List Value)} (h : Rd w w.heap.size size A css) (hb : From w w') : Rd w' w'.heap.size size A css := (h.below hb (Nat.le_refl _)).more hb.size
theorem info_u32 : (Try.prog.info? 34).map (fun i => (i.zero, i.size, i.bytes)) = some (some (.int .u32 0), 1, 4) := by kernel_rfl
theorem info_int : (Try.prog.info? 3).map (fun i => (i.zero, i.size, i.bytes)) = some (some (.int .i64 0), 1, 8) := by kernel_rfl
theorem size_u32 : (Try.prog.info? 34).map (·.size) = some 1 := by kernel_rfl
theorem size_int : (Try.prog.info? 3).map (·.size) = some 1 := by kernel_rfl
theorem dig_take {B : Nat} (hB : 2 ≤ B) {l : List Nat} (hl : Digs B l) : dig B (valB B l) = l.take (dig B (valB B l)).length := by
 have h := dig_pad hB (k := l.length) (valB_lt l hl)
 rw [pad_valB (by omega) l hl] at h
 exact h
theorem rd_trim {B : Nat} (hB : 2 ≤ B) {w : World} {N : Nat} {A : Option Addr} {k : IntKind} {l : List Nat} (h : Rd w N 1 A (nums k l)) (hl : Digs B l) : Rd w N 1 A (nums k (dig B (valB B l))) := by
 rw [dig_take hB hl, nums_take]
 exact h.take _
theorem wrap_u64 {n : Int} (h0 : 0 ≤ n) (h : n < 18446744073709551616) : IntKind.u64.wrap n = n := by
 unfold IntKind.wrap
 simp [IntKind.bits, IntKind.signed]
 omega
theorem wrap_u32 (n : Nat) : IntKind.u32.wrap (n : Int) = ((n % 4294967296 : Nat) : Int) := by
 unfold IntKind.wrap
 simp [IntKind.bits, IntKind.signed]
theorem wrap_u64_sub (a b : Nat) (hb : b ≤ 18446744073709551616) : IntKind.u64.wrap ((a : Int) - (b : Int)) = (((a + 18446744073709551616 - b) % 18446744073709551616 : Nat) : Int) := by
 unfold IntKind.wrap
 simp [IntKind.bits, IntKind.signed]
 omega
theorem wrap_i64 {n : Int} (h1 : -9223372036854775808 ≤ n) (h2 : n ≤ 9223372036854775807) : IntKind.i64.wrap n = n := by
 unfold IntKind.wrap
 simp [IntKind.bits, IntKind.signed]
 split <;> omega
def FracV.cells (f : FracV) : List Value := [.bool f.neg] ++ ((pad B32 8 f.num).map fun (n : Nat) => Value.int .u32 (n : Int)) ++ ((pad B32 8 f.den).map fun (n : Nat) => Value.int .u32 (n : Int))
def FracV.val (f : FracV) : Value := .agg f.cells.toArray
theorem FracV.cells_len (f : FracV) : f.cells.length = 17 := by simp [FracV.cells, pad_len]
theorem FracV.ones (f : FracV) : ∀ u ∈ f.cells, u.oneCell' = true := by
 intro u hu
 simp only [FracV.cells, List.mem_append, List.mem_cons, List.not_mem_nil, or_false, List.mem_map] at hu
 rcases hu with (rfl | ⟨n, _, rfl⟩) | ⟨n, _, rfl⟩ <;> simp [Value.oneCell']
theorem FracV.cell_num (f : FracV) {i : Nat} (h : i < 8) : f.cells[1 + i]? = some (.int .u32 ((pad B32 8 f.num)[i]'(by rw [pad_len]; exact h) : Nat)) := by
 unfold FracV.cells
 rw [List.append_assoc, List.getElem?_append_right (by simp), List.getElem?_append_left (by simp [pad_len]; omega)]
 simp [pad_len, h]
theorem FracV.cell_den (f : FracV) {i : Nat} (h : i < 8) : f.cells[9 + i]? = some (.int .u32 ((pad B32 8 f.den)[i]'(by rw [pad_len]; exact h) : Nat)) := by
 unfold FracV.cells
 rw [List.append_assoc, List.getElem?_append_right (by simp only [List.length_cons, List.length_nil]; omega), List.getElem?_append_right (by simp only [List.length_map, pad_len, List.length_cons, List.length_nil]; omega)]
 have e : 9 + i - [Value.bool f.neg].length - ((pad B32 8 f.num).map fun (n : Nat) => Value.int .u32 (n : Int)).length = i := by simp only [List.length_map, pad_len, List.length_cons, List.length_nil]; omega
 rw [e]
 simp [pad_len, h]
theorem pow256 : B32 ^ 8 = top256 := by decide
theorem frac_rd {w : World} {g : Nat} {f : FracV} (h : w.heap[g]? = some (.cells f.cells.toArray 37 (0, 0))) :
 Rd w w.heap.size 1 (some ⟨g, 1, none⟩) (nums .u32 (pad B32 8 f.num)) ∧ Rd w w.heap.size 1 (some ⟨g, 9, none⟩) (nums .u32 (pad B32 8 f.den)) := by
 have hlt := (Array.getElem?_eq_some_iff.1 h).1
 constructor
 · intro i cs hi
   unfold nums at hi
   rw [List.getElem?_map] at hi
   obtain ⟨n, hn, rfl⟩ := Option.map_eq_some_iff.1 hi
   have hil : i < 8 := by have := (List.getElem?_eq_some_iff.1 hn).1; rwa [pad_len] at this
   refine ⟨g, 1, rfl, hlt, rfl, fun j u hu => ?_⟩
   match j, hu with
   | 0, hu =>
    simp at hu
    subst hu
    rw [cell_of_row w g _ _ _ _ h]
    simp only [Nat.mul_one, Nat.add_zero, List.getElem?_toArray]
    rw [f.cell_num hil]
    rw [List.getElem?_eq_getElem (by rw [pad_len]; exact hil)] at hn
    injection hn with hn
    rw [hn]
 · intro i cs hi
   unfold nums at hi
   rw [List.getElem?_map] at hi
   obtain ⟨n, hn, rfl⟩ := Option.map_eq_some_iff.1 hi
   have hil : i < 8 := by have := (List.getElem?_eq_some_iff.1 hn).1; rwa [pad_len] at this
   refine ⟨g, 9, rfl, hlt, rfl, fun j u hu => ?_⟩
   match j, hu with
   | 0, hu =>
    simp at hu
    subst hu
    rw [cell_of_row w g _ _ _ _ h]
    simp only [Nat.mul_one, Nat.add_zero, List.getElem?_toArray]
    rw [f.cell_den hil]
    rw [List.getElem?_eq_getElem (by rw [pad_len]; exact hil)] at hn
    injection hn with hn
    rw [hn]
end Go.Proofs.Ytcdfnlgimbecgaa
