/-
  The sums of the sections' numbers: their bounds, for right frames and right weights. Plain.
  strength: are all weights of a kind (slices.ContainsFunc); sure.
-/
import Derived.Test.YtcdfnlgimbecgaaMo18

namespace Go.Proofs.Ytcdfnlgimbecgaa

theorem idxF_x {l : List Frm} (hok : ∀ f ∈ l, f.ok = true) {x : Int} (h0 : idxF l x ≠ 0) (hn : idxF l x < l.length) : -500000 ≤ x ∧ x ≤ 500000 := by
  unfold idxF at h0 hn
  constructor
  · have h1 : (l.filter fun f => decide (f.x ≤ x)) ≠ [] := by
      intro e
      rw [e] at h0
      exact h0 rfl
    obtain ⟨f, hf⟩ := List.exists_mem_of_ne_nil _ h1
    rw [List.mem_filter] at hf
    have h2 := (Frm.ok_nums (hok f hf.1)).1
    have h3 := of_decide_eq_true hf.2
    omega
  · rcases Int.lt_or_le 500000 x with h | h
    · exfalso
      have h1 : (l.filter fun f => decide (f.x ≤ x)) = l := by
        rw [List.filter_eq_self]
        intro f hf
        have h2 := (Frm.ok_nums (hok f hf)).1
        exact decide_eq_true (by omega)
      rw [h1] at hn
      omega
    · exact h

theorem shareF_nonneg {l : List Frm} (hok : ∀ f ∈ l, f.ok = true) : 0 ≤ shareF l := by
  induction l with
  | nil => exact Int.le_refl _
  | cons f l ih =>
    have h1 := ih (fun g hg => hok g (by simp [hg]))
    have h2 := (Frm.ok_nums (hok f (by simp))).2.2.1
    have e : shareF (f :: l) = f.share + shareF l := rfl
    omega
theorem share_sum {l : List Frm} (hok : ∀ f ∈ l, f.ok = true) : ∀ k, k ≤ l.length → ((((List.range k).map fun i => (l.getD i frm0).share.natAbs).sum : Nat) : Int) + shareF (l.drop k) = shareF l
  | 0, _ => by simp
  | k + 1, h => by
    have ih := share_sum hok k (by omega)
    have hk : k < l.length := by omega
    have e : l.getD k frm0 = l[k] := by simp [hk]
    have h2 := (Frm.ok_nums (hok l[k] (List.getElem_mem hk))).2.2.1
    rw [shareF_step (List.getElem?_eq_getElem hk)] at ih
    rw [List.range_succ, List.map_append, List.sum_append]
    simp only [List.map_cons, List.map_nil, List.sum_cons, List.sum_nil, Nat.add_zero, e]
    omega

theorem sum_const (n b : Nat) : ((List.range n).map fun _ => b).sum = b * n := by
  induction n with
  | zero => simp
  | succ n ih =>
    rw [List.range_succ, List.map_append, List.sum_append, ih]
    simp [Nat.mul_add]
theorem sum_scale (b : Nat → Nat) (c : Nat) : ∀ is : List Nat, (is.map fun i => c * b i).sum = c * (is.map b).sum
  | [] => by simp
  | i :: is => by
    simp only [List.map_cons, List.sum_cons, sum_scale b c is, Nat.mul_add]

/-- what the sums of the sections keep to -/
theorem sections_sums {l : List Frm} {ws : List Wt} {S : List Sec} (hof : okFrom none l = true) (hl3 : 3 ≤ l.length) (hl : l.length ≤ 30) (hsh : shareF l = 10000) (hk : ∀ x ∈ ws, 0 ≤ x.kilos ∧ x.kilos ≤ 500000000) (h : sectionsF l ws = some S) :
    sumAbs Sec.a0 S ≤ 500000000 * (29 + ws.length) ∧ sumAbs Sec.a1 S ≤ 500000000000000 * (29 + ws.length) ∧ sumAbs Sec.a2 S ≤ 10000 ∧ sumAbs Sec.a3 S ≤ 10000000000 ∧ sumAbs Sec.a4 S ≤ 1740000000 ∧ sumAbs Sec.a5 S ≤ 1740000000000000 := by
  have hok := okFrom_ok none l hof
  obtain ⟨n, hn⟩ : ∃ n, n = l.length - 1 := ⟨_, rfl⟩
  unfold sectionsF baseS at h
  rw [← hn] at h
  have hb : ∀ i, secOk 0 (secBase l n (allX l n) i) := by
    intro i
    rcases Nat.lt_or_ge i l.length with hi | hi
    · exact secBase_ok hok (by omega) hi
    · have e : l.getD i frm0 = frm0 := by simp [hi]
      have hh := hX_ok hok i
      have ha := allX_ok hok n
      have m3 := mul_in (a := (n : Int)) (A := 29) (b := hX l i) (B := 1000000) (by omega) hh
      have m4 := mul_in (a := (n : Int) * hX l i - allX l n) (A := 60000000) (b := hX l i) (B := 1000000) (by omega) hh
      unfold secOk secBase
      simp only [e]
      simp only [frm0, Int.zero_mul]
      omega
  have hx : ∀ u ∈ ws, idxF l u.x ≠ 0 → ¬ n < idxF l u.x → -500000 ≤ u.x ∧ u.x ≤ 500000 := fun u _ h0 h1 => idxF_x hok h0 (by omega)
  have hs := share_sum hok n (by omega)
  have hs2 := shareF_nonneg (l := l.drop n) (fun f hf => hok f (List.mem_of_mem_drop hf))
  refine ⟨?_, ?_, ?_, ?_, ?_, ?_⟩
  · have h1 := putAll_abs part0 (B := 500000000) ws _ S (fun u hu _ _ => by have := hk u hu; show (u.kilos).natAbs ≤ _; omega) h
    have h2 := sumAbs_map (f := Sec.a0) (g := secBase l n (allX l n)) (b := fun _ => 500000000) (fun i => by have := (hb i).1; omega) (List.range n)
    rw [sum_const] at h2
    omega
  · have h1 := putAll_abs part1 (B := 500000000000000) ws _ S (fun u hu h0 h1 => by
      have h2 := hk u hu
      have h3 := hx u hu h0 h1
      have m := mul_in (a := 2 * u.kilos) (A := 1000000000) (b := u.x) (B := 500000) (by omega) (by omega)
      show (2 * u.kilos * u.x).natAbs ≤ _
      omega) h
    have h2 := sumAbs_map (f := Sec.a1) (g := secBase l n (allX l n)) (b := fun _ => 500000000000000) (fun i => by have := (hb i).2.1; omega) (List.range n)
    rw [sum_const] at h2
    omega
  · have h1 := putAll_abs part2 (B := 0) ws _ S (fun u hu _ _ => Nat.le_refl _) h
    have h2 := sumAbs_map (f := Sec.a2) (g := secBase l n (allX l n)) (b := fun i => (l.getD i frm0).share.natAbs) (fun i => Nat.le_refl _) (List.range n)
    omega
  · have h1 := putAll_abs part3 (B := 0) ws _ S (fun u hu _ _ => Nat.le_refl _) h
    have h2 := sumAbs_map (f := Sec.a3) (g := secBase l n (allX l n)) (b := fun i => 1000000 * (l.getD i frm0).share.natAbs) (fun i => by
      have hh := hX_ok hok i
      show ((l.getD i frm0).share * hX l i).natAbs ≤ _
      rw [Int.natAbs_mul, Nat.mul_comm]
      exact Nat.mul_le_mul_right _ (by omega)) (List.range n)
    rw [sum_scale] at h2
    omega
  · have h1 := putAll_abs part4 (B := 0) ws _ S (fun u hu _ _ => Nat.le_refl _) h
    have h2 := sumAbs_map (f := Sec.a4) (g := secBase l n (allX l n)) (b := fun _ => 60000000) (fun i => by have := (hb i).2.2.2.2.1; omega) (List.range n)
    rw [sum_const] at h2
    omega
  · have h1 := putAll_abs part5 (B := 0) ws _ S (fun u hu _ _ => Nat.le_refl _) h
    have h2 := sumAbs_map (f := Sec.a5) (g := secBase l n (allX l n)) (b := fun _ => 60000000000000) (fun i => by have := (hb i).2.2.2.2.2; omega) (List.range n)
    rw [sum_const] at h2
    omega
end Go.Proofs.Ytcdfnlgimbecgaa

namespace Go.Proofs.Ytcdfnlgimbecgaa
open Go.RowKit

/-- a function value that tells p of each of l, from a world on -/
def Tells {α : Type} (P : Program) (w : World) (fn : FuncId) (caps : Array Value) (val : α → Value) (p : α → Bool) (l : List α) : Prop :=
  ∀ x ∈ l, ∀ w', Below w.heap.size w w' → Calls P fn (#[val x] ++ caps) w' fun e w2 => e = .returned (.bool (p x)) ∧ Below w'.heap.size w' w2

theorem Tells.below {α : Type} {P : Program} {w w' : World} {fn : FuncId} {caps : Array Value} {val : α → Value} {p : α → Bool} {l : List α} (h : Tells P w fn caps val p l) (hb : Below w.heap.size w w') : Tells P w' fn caps val p l :=
  fun x hx w2 h2 => h x hx w2 (hb.trans (h2.mono hb.size))

def idx {α : Type} (p : α → Bool) (l : List α) : Int := match l.findIdx? p with | some i => i | none => -1

theorem idx_found {α : Type} {p : α → Bool} {l : List α} {k : Nat} (hk : k < l.length) (hj : ∀ j, (h : j < k) → p l[j] = false) (hx : p l[k] = true) : idx p l = k := by
  have : l.findIdx? p = some k := by
    rw [List.findIdx?_eq_some_iff_getElem]
    exact ⟨hk, hx, fun j hjk => by simp [hj j hjk]⟩
  unfold idx
  rw [this]

theorem idx_none {α : Type} {p : α → Bool} {l : List α} (hj : ∀ j, (h : j < l.length) → p l[j] = false) : idx p l = -1 := by
  have : l.findIdx? p = none := by
    rw [List.findIdx?_eq_none_iff]
    intro x hx
    obtain ⟨j, hj', rfl⟩ := List.mem_iff_getElem.1 hx
    exact hj j hj'
  unfold idx
  rw [this]

theorem idx_cases {α : Type} (p : α → Bool) (l : List α) : (idx p l = -1 ∧ ∀ x ∈ l, p x = false) ∨ ∃ k, ∃ h : k < l.length, idx p l = k ∧ p l[k] = true ∧ l.find? p = some l[k] := by
  unfold idx
  cases hf : l.findIdx? p with
  | none => exact .inl ⟨rfl, by simpa using hf⟩
  | some k =>
    rw [List.findIdx?_eq_some_iff_getElem] at hf
    obtain ⟨h, h1, h2⟩ := hf
    refine .inr ⟨k, h, rfl, h1, ?_⟩
    rw [List.find?_eq_some_iff_getElem]
    exact ⟨h1, k, h, rfl, fun j hj => by have := h2 j hj; simpa using this⟩


set_option maxHeartbeats 1000000 in
theorem indexWt (A : Option Addr) (c : Nat) (l : List Wt) (n : Nat) (hn : n = l.length) (fn : FuncId) (caps : Array Value) (p : Wt → Bool) (w : World) (hA : Rd w w.heap.size 2 A (l.map Wt.cells)) (hl : l.length ≤ 1000000000000) (hcf : ∀ w args, (callFunc fn args).run Try.prog w = .ok (.enter fn args) w) (hf : Tells Try.prog w fn caps Wt.val p l) :
    Calls Try.prog 80 #[.slice A n c, .func (.func fn) #[] caps] w fun e w' => e = .returned (.int .i64 (idx p l)) ∧ Below w.heap.size w w' := by
  subst hn
  go_enter Try.func80, Try.ntmps80
  go_wp2
  have HF := Lib.hid hf
  clear hf
  go_loopw [5, 8] (fun _ i wr => ∃ k : Nat, k ≤ l.length ∧ i = .int .i64 k ∧ (∀ j, (h : j < k) → (h2 : j < l.length) → p l[j] = false) ∧ Below w.heap.size w wr) (fun _ i _ => l.length - (intOf i).toNat)
  case atStart => exact ⟨0, by omega, rfl, by omega, Below.refl _ _⟩
  case round =>
    obtain ⟨k, hk, rfl, hj, hb⟩ := hrel
    have HJ := Lib.hid hj
    clear hj
    by_cases hlt : k < l.length
    · obtain ⟨b, off, rfl, hb1, hld⟩ := Wt.ld hA (k := k) (b := l[k]) (by simp [hlt])
      have HL := Lib.hid hld
      clear hld
      go_wp2_with (first
        | (refine wpList_ld rfl _ _ rfl _ rfl _ (HL.out _ hb) ?_)
        | (refine (HF.out l[k] (List.getElem_mem hlt) _ hb).mono ?_; rintro e w' ⟨rfl, hb3⟩))
      · have ht : p l[k] = true := by assumption
        go_ret
        exact ⟨by rw [idx_found hlt (fun j h => HJ.out j h (by omega)) ht]; rfl, hb.trans (hb3.mono hb.size)⟩
      · have hf' : p l[k] = false := by assumption
        go_roundw
        case rel =>
          refine ⟨k + 1, by omega, by go_num, fun j h h2 => ?_, hb.trans (hb3.mono hb.size)⟩
          rcases Nat.lt_or_ge j k with h3 | h3
          · exact HJ.out j h3 h2
          · obtain rfl : j = k := by omega
            exact hf'
        case measure => simp [intOf]; omega
    · obtain rfl : k = l.length := by omega
      have HI := Lib.hid (idx_none (fun j h => HJ.out j h h))
      go_wp2
      go_ret
      exact ⟨by rw [HI.out]; rfl, hb⟩



theorem cf38 (w : World) (args : Array Value) : (callFunc 38 args).run Try.prog w = .ok (.enter 38 args) w := by
  go_simp
def wtBad (u : Wt) : Bool := !decide (0 ≤ u.kilos ∧ u.kilos ≤ 500000000)
theorem st_bad (u : Wt) (w : World) : Calls Try.prog 38 #[u.val] w fun e w' => e = .returned (.bool (wtBad u)) ∧ Below w.heap.size w w' := by
  obtain ⟨b, hb⟩ : ∃ b, b = decide (0 ≤ u.kilos ∧ u.kilos ≤ 500000000) := ⟨_, rfl⟩
  have hv : wtBad u = !b := by unfold wtBad; rw [hb]
  have HW := Lib.hid (fun w1 => st_within u.kilos 0 500000000 w1)
  rw [← hb] at HW
  rw [hv]
  clear hb hv
  go_enter Try.func38, Try.ntmps38
  go_wp2_with (go_at_call 39; refine (HW.out _).mono ?_; rintro e w2 ⟨rfl, hw⟩; rw [hw]; clear hw w2)
  go_ret
  exact ⟨rfl, (Below.refl _ _).alloc (Nat.le_refl _) _⟩

/-- is one of the weights out of its limits? -/
theorem st_contains (A : Option Addr) (c n : Nat) (l : List Wt) (hn : n = l.length) (w : World) (h : Rd w w.heap.size 2 A (l.map Wt.cells)) (hl : l.length ≤ 1000000000000) :
    Calls Try.prog 37 #[.slice A n c, .func (.func 38) #[] #[]] w fun e w' => e = .returned (.bool (l.any wtBad)) ∧ Below w.heap.size w w' := by
  have HI := Lib.hid (indexWt A c l n hn 38 #[] wtBad w h hl cf38 (fun x _ w' _ => st_bad x w'))
  obtain ⟨z, hz⟩ : ∃ z, z = idx wtBad l := ⟨_, rfl⟩
  rw [← hz] at HI
  have hv : l.any wtBad = decide (0 ≤ z) := by
    rw [hz]
    rcases idx_cases wtBad l with ⟨h1, h2⟩ | ⟨k, hk, h1, h2, _⟩
    · rw [h1]
      have h3 : l.any wtBad = false := by
        rw [List.any_eq_false]
        intro x hx
        simp [h2 x hx]
      rw [h3]
      rfl
    · rw [h1]
      have h3 : l.any wtBad = true := by
        rw [List.any_eq_true]
        exact ⟨_, List.getElem_mem hk, h2⟩
      rw [h3]
      simp
  rw [hv]
  clear h hn hz hv
  go_enter Try.func37, Try.ntmps37
  go_wp2_with (go_at_call 80; refine (HI.out).mono ?_; rintro e w2 ⟨rfl, hb2⟩)
  go_ret
  exact ⟨by first | rfl | simp, hb2⟩

set_option maxRecDepth 100000 in
set_option maxHeartbeats 4000000 in
theorem st_sure (f : FracV) (e : Int) (w : World) : Calls Try.prog 44 #[f.val, .int .i64 e] w fun e' w' => e' = .returned f.val ∧ Below w.heap.size w w' := by
  have hb1 : Below w.heap.size w (w.alloc (.cells f.cells.toArray 37)) := (Below.refl _ _).alloc (Nat.le_refl _) _
  have HB : Hid (Below w.heap.size w ((w.alloc (.cells f.cells.toArray 37)).alloc (.cells zeroF.cells.toArray 37))) := hb1.alloc (by simp) _
  have HF : Hid (FB ((w.alloc (.cells f.cells.toArray 37)).alloc (.cells zeroF.cells.toArray 37)) w.heap.size f) := (FB.new w f).below ((Below.refl _ _).alloc (Nat.le_refl _) _) (FB.new w f).lt
  have HR : Hid (FB ((w.alloc (.cells f.cells.toArray 37)).alloc (.cells zeroF.cells.toArray 37)) (w.heap.size + 1) zeroF) := by
    have h := FB.new (w.alloc (.cells f.cells.toArray 37)) zeroF
    have e : (w.alloc (.cells f.cells.toArray 37)).heap.size = w.heap.size + 1 := by simp
    rw [e] at h
    exact h
  clear hb1
  unfold FracV.val
  go_enter Try.func44, Try.ntmps44
  go_wp2_with (first
    | ((with_reducible refine g_ld 37 ?_); refine wpList_ld rfl _ _ rfl _ rfl _ HF.out.ld ?_)
    | ((with_reducible refine g_st 37 ?_); refine wpList_stF (f := f) rfl _ _ rfl rfl rfl HR.out ?_; intro w5 hfb5 hgr5))
  refine bodyPost_ret (results_frac rfl _ rfl hfb5) rfl ⟨rfl, HB.out.grown hgr5 HB.out.size (by intro q hq; injection hq with hq; omega)⟩
end Go.Proofs.Ytcdfnlgimbecgaa
