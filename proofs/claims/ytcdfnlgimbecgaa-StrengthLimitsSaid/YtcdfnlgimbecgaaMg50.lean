/-
  StrengthLimits, plain: how far the stresses of what Made makes can be from 0.
  StrengthLimits, plain: the frames with limits that are just enough, and with one of them less by 1.
  StrengthLimits: what 'up' returns.
-/
import Derived.Test.YtcdfnlgimbecgaaMg33
import Derived.Test.YtcdfnlgimbecgaaMg41
import Derived.Test.YtcdfnlgimbecgaaMg49

namespace Go.Proofs.Ytcdfnlgimbecgaa

theorem mul_rng {a b C : Int} (ha : 0 ≤ a) (hb : -C ≤ b ∧ b ≤ C) : -(C * a) ≤ a * b ∧ a * b ≤ C * a := by
  have h1 := Int.mul_le_mul_of_nonneg_left hb.1 ha
  have h2 := Int.mul_le_mul_of_nonneg_left hb.2 ha
  rw [Int.mul_neg, Int.mul_comm a C] at h1
  rw [Int.mul_comm a C] at h2
  exact ⟨h1, h2⟩

theorem nat_mul_bd {a b : Int} {A B : Nat} (ha : a.natAbs ≤ A) (hb : b.natAbs ≤ B) : (a * b).natAbs ≤ A * B := by
  rw [Int.natAbs_mul]
  exact Nat.mul_le_mul ha hb
/-- what is known of sums of n sections -/
structure SumP (a : Sec) (n : Nat) : Prop where
  p0 : 0 ≤ a.a0
  p1 : -(137400 * a.a0) ≤ a.a1 ∧ a.a1 ≤ 137400 * a.a0
  p2 : 0 ≤ a.a2
  p3 : -(137400 * a.a2) ≤ a.a3 ∧ a.a3 ≤ 137400 * a.a2
  p4 : -(1600000 * (n : Int)) ≤ a.a4 ∧ a.a4 ≤ 1600000 * (n : Int)
  p5 : -(219840000000 * (n : Int)) ≤ a.a5 ∧ a.a5 ≤ 219840000000 * (n : Int)
theorem SumP.zero : SumP Sec.zero 0 := ⟨by decide, by decide, by decide, by decide, by decide, by decide⟩
theorem SumP.add {a b : Sec} {m n : Nat} (h : SumP a m) (k : SumP b n) : SumP (a.add b) (m + n) := by
  have h1 := h.p1
  have h3 := h.p3
  have h4 := h.p4
  have h5 := h.p5
  have k1 := k.p1
  have k3 := k.p3
  have k4 := k.p4
  have k5 := k.p5
  have h0 := h.p0
  have k0 := k.p0
  have h2 := h.p2
  have k2 := k.p2
  constructor <;> unfold Sec.add <;> simp only [] <;> omega
theorem sum_P {S : List Sec} (h : ∀ s ∈ S, SumP s 1) : ∀ i, i ≤ S.length → SumP (addAll (S.take i)) i
  | 0, _ => SumP.zero
  | i + 1, hi => by
    rw [take_add S (by omega)]
    exact (sum_P h i (by omega)).add (h _ (List.getElem_mem _))
theorem sum_mono {S : List Sec} (h : ∀ s ∈ S, SumP s 1) (i : Nat) : ∀ d, i + d ≤ S.length → (addAll (S.take i)).a0 ≤ (addAll (S.take (i + d))).a0 ∧ (addAll (S.take i)).a2 ≤ (addAll (S.take (i + d))).a2
  | 0, _ => ⟨Int.le_refl _, Int.le_refl _⟩
  | d + 1, hd => by
    have h1 := sum_mono h i d (by omega)
    have h2 := h _ (List.getElem_mem (show i + d < S.length by omega))
    have h3 := h2.p0
    have h4 := h2.p2
    rw [← Nat.add_assoc, take_add S (show i + d < S.length by omega)]
    unfold Sec.add
    simp only
    omega

theorem wsum_P (F : List Frm) (i : Nat) : ∀ ws : List Wt, (∀ u ∈ ws, (-20000 ≤ u.x ∧ u.x < 68700) ∧ (0 ≤ u.kilos ∧ u.kilos < 65536)) → 0 ≤ (wsum F i ws).a0 ∧ -(137400 * (wsum F i ws).a0) ≤ (wsum F i ws).a1 ∧ (wsum F i ws).a1 ≤ 137400 * (wsum F i ws).a0
  | [], _ => by simp [wsum, Sec.zero]
  | u :: ws, h => by
    have h1 := wsum_P F i ws fun v hv => h v (by simp [hv])
    have h2 := h u (by simp)
    have h3 := mul_rng (a := u.kilos) (b := 2 * u.x) (C := 137400) h2.2.1 (by omega)
    have e : 2 * u.kilos * u.x = u.kilos * (2 * u.x) := by grind
    unfold wsum
    split
    · simp only [Sec.add, wtSec]
      rw [e]
      omega
    · simp only [Sec.add, Sec.zero]
      omega
theorem allX_rng {F : List Frm} {n : Nat} (h : ∀ i, i < n → -40000 ≤ hX F i ∧ hX F i ≤ 137400) : ∀ k, k ≤ n → -(40000 * (k : Int)) ≤ allX F k ∧ allX F k ≤ 137400 * (k : Int)
  | 0, _ => by simp [allX]
  | k + 1, hk => by
    have h1 := allX_rng h k (by omega)
    have h2 := h k (by omega)
    unfold allX
    omega
theorem farX_first (l : List Frm) (h : Int) : ∀ k, 0 < k → (h - hX l 0) * (h - hX l 0) ≤ farX l h k
  | 1, _ => by
    unfold farX farX
    omega
  | k + 2, _ => by
    have h1 := farX_first l h (k + 1) (by omega)
    have h2 := sq_nonneg (h - hX l (k + 1))
    unfold farX
    omega

section
variable {F t : List Frm} {r x : Int} (M : MadeF F t r x) {L : List Wt} (hw : ∀ u ∈ L, (-20000 ≤ u.x ∧ u.x < x) ∧ (0 ≤ u.kilos ∧ u.kilos < 65536)) (hl : L.length ≤ 8)
include M
theorem made_hX {i : Nat} (hi : i + 1 < F.length) : -40000 ≤ hX F i ∧ hX F i ≤ 137400 := by
  have hx := M.x
  have h0 := M.xs _ (List.getElem_mem (show i < F.length by omega))
  have h1 := M.xs _ (List.getElem_mem hi)
  unfold hX
  rw [frmX_get (by omega), frmX_get hi]
  omega
theorem made_a5 (ws : List Wt) : 625000000 ≤ (addAll (secL F ws)).a5 := by
  have hlen : F.length = t.length + 3 := by rw [M.eq]; simp
  rw [all_sum part5, preW_zero part5 (fun _ => rfl)]
  unfold preH
  rw [Nat.min_self, a5_sum]
  have e : F.length - 1 = (F.length - 2) + 1 := by omega
  have h1 := var_step F (F.length - 2)
  have h2 := var_nonneg F (F.length - 2)
  have h3 := farX_first F (hX F (F.length - 2)) (F.length - 2) (by omega)
  rw [← e] at h1
  have f0 : frmX F 0 = -20000 := by rw [M.eq]; rfl
  have f1 : frmX F 1 = -10000 := by rw [M.eq]; rfl
  have hx := M.x
  have f2 : frmX F (F.length - 2 + 1) = x := by
    rw [← e, hlen, M.eq]
    unfold frmX
    show ((_ :: _ :: (t ++ [(⟨x, 0, 0, 0, 0⟩ : Frm)])).getD (t.length + 2) frm0).x = x
    simp
  have f3 : -10000 ≤ frmX F (F.length - 2) := by
    obtain ⟨_, _, p3, _⟩ := rightF_parts M.right
    have ho := okFrom_ordF p3
    rcases Nat.lt_or_eq_of_le (show 1 ≤ F.length - 2 by omega) with h4 | h4
    · have h5 := ho 1 (F.length - 2) h4 (by omega) (by omega)
      rw [← frmX_get, ← frmX_get] at h5
      omega
    · rw [← h4, f1]
      omega
  have h5 : 25000 ≤ hX F (F.length - 2) - hX F 0 := by
    unfold hX
    rw [f0, f1, f2]
    omega
  have h6 : (25000 : Int) * 25000 ≤ (hX F (F.length - 2) - hX F 0) * (hX F (F.length - 2) - hX F 0) := Int.mul_le_mul h5 h5 (by decide) (by omega)
  omega
include hw
theorem made_P {s : Sec} (hs : s ∈ secL F L) : SumP s 1 := by
  obtain ⟨i, hi, rfl⟩ := List.mem_iff_getElem.1 hs
  have hlen := secL_len F L
  have hF : F.length = t.length + 3 := by rw [M.eq]; simp
  have ht := M.len
  have hx := M.x
  obtain ⟨r2, r4, r3, r5⟩ := sec_rest hi
  obtain ⟨q0, q1⟩ := wmK_all hi
  have hh := made_hX M (i := i) (by omega)
  have hok : (F.getD i frm0).ok = true := by
    have e : F.getD i frm0 = F[i]'(by omega) := by simp [show i < F.length by omega]
    rw [e]
    exact okFrom_ok _ _ M.okAll _ (List.getElem_mem _)
  have hn := Frm.ok_nums hok
  have hw1 := wsum_P F i L (fun u hu => by have := hw u hu; omega)
  have hal := allX_rng (F := F) (n := F.length - 1) (fun j hj => made_hX M (by omega)) (F.length - 1) (Nat.le_refl _)
  have hlh := mul_rng (a := (F.getD i frm0).light) (b := hX F i) (C := 137400) hn.2.1.1 (by omega)
  have hsh := mul_rng (a := (F.getD i frm0).share) (b := hX F i) (C := 137400) hn.2.2.1.1 (by omega)
  unfold wK at q0
  unfold mK at q1
  rw [List.take_length] at q0 q1
  have hnh : -(177400 * 9) ≤ ((F.length - 1 : Nat) : Int) * hX F i - allX F (F.length - 1) ∧ ((F.length - 1 : Nat) : Int) * hX F i - allX F (F.length - 1) ≤ 177400 * 9 := by
    have h1 := Int.mul_le_mul_of_nonneg_left hh.1 (show 0 ≤ ((F.length - 1 : Nat) : Int) by omega)
    have h2 := Int.mul_le_mul_of_nonneg_left hh.2 (show 0 ≤ ((F.length - 1 : Nat) : Int) by omega)
    have h3 : ((F.length - 1 : Nat) : Int) ≤ 9 := by omega
    omega
  have h5 := mul_rng (a := 1600000) (b := hX F i) (C := 137400) (by decide) (by omega)
  refine ⟨by omega, by omega, by rw [r2]; omega, by rw [r3, r2]; omega, by rw [r4]; omega, ?_⟩
  rw [r5, r4]
  have h6 := nat_mul_bd (a := ((F.length - 1 : Nat) : Int) * hX F i - allX F (F.length - 1)) (b := hX F i) (A := 1600000) (B := 137400) (by omega) (by omega)
  omega
include hl
theorem made_W : 0 ≤ (addAll (secL F L)).a0 ∧ (addAll (secL F L)).a0 ≤ 988033 := by
  obtain ⟨S, h1, h2, h3⟩ := made_sections M L (fun u hu => (hw u hu).1)
  have hS := sections_secL h1
  subst hS
  have hk := sumWt_kilos L (fun u hu => (hw u hu).2)
  have hL := M.light
  rw [h3]
  omega
/-- the integers behind the stresses at a frame -/
theorem made_z {j : Nat} (hj : j ≤ F.length - 1) (D : Nat) (hD : (D : Int) = 10000 * (addAll (secL F L)).a5) :
    Bd D (6260000000 * D) (downR (secL F L) j) ∧ Bd (2 * D) (1730000000000000 * D) (bendR F (secL F L) j) := by
  have hP := fun s hs => made_P M hw (s := s) hs
  have hlen := secL_len F L
  have hF : F.length = t.length + 3 := by rw [M.eq]; simp
  have ht := M.len
  have hx := M.x
  have p := sum_P hP j (by omega)
  have pa := sum_P hP (secL F L).length (Nat.le_refl _)
  have mo := sum_mono hP j ((secL F L).length - j) (by omega)
  rw [show j + ((secL F L).length - j) = (secL F L).length by omega] at mo
  rw [List.take_length] at pa mo
  have hW := made_W M hw hl
  have h2 := a2_all M.right L
  have h5 := made_a5 M L
  have hxj : -68700 ≤ frmX F j ∧ frmX F j ≤ 68700 := by
    rw [frmX_get (show j < F.length by omega)]
    have := M.xs _ (List.getElem_mem (show j < F.length by omega))
    omega
  unfold bendR twiceR downR liftR
  obtain ⟨k, hk0⟩ : ∃ k, k = kR (secL F L) := ⟨_, rfl⟩
  have hk : k * ((addAll (secL F L)).a5 : Rat) = ((addAll (secL F L)).a1 : Rat) - (((addAll (secL F L)).a0 * (addAll (secL F L)).a3 : Int) : Rat) / ((10000 : Int) : Rat) := by
    rw [hk0]
    unfold kR
    refine Rat.div_mul_cancel ?_
    intro e
    have e2 : (addAll (secL F L)).a5 = 0 := by exact_mod_cast e
    omega
  rw [← hk0]
  clear hk0
  have q1 := pa.p1
  have q3 := pa.p3
  have r0 := p.p0
  have r1 := p.p1
  have r2 := p.p2
  have r3 := p.p3
  have r4 := p.p4
  have r5 := p.p5
  generalize addAll (secL F L) = A at *
  generalize addAll ((secL F L).take j) = a at *
  generalize frmX F j = y at *
  have hj9 : (j : Int) ≤ 9 := by omega
  obtain ⟨N, hN⟩ : ∃ N, N = 10000 * A.a1 - A.a0 * A.a3 := ⟨_, rfl⟩
  have hNb : N.natAbs ≤ 2716000000000000 := by
    have h1 := nat_mul_bd (a := A.a0) (b := A.a3) (A := 988033) (B := 1374000000) (by omega) (by omega)
    omega
  have hN4 := nat_mul_bd (a := N) (b := a.a4) (A := 2716000000000000) (B := 14400000) hNb (by omega)
  have hN5 := nat_mul_bd (a := N) (b := a.a5) (A := 2716000000000000) (B := 1978560000000) hNb (by omega)
  have hD0 : (6250000000000 : Int) ≤ D := by omega
  have t2 := nat_mul_bd (a := A.a0 * a.a2) (b := A.a5) (A := 9880330000) (B := A.a5.natAbs) (nat_mul_bd (A := 988033) (B := 10000) (by omega) (by omega)) (Nat.le_refl _)
  have t3 := nat_mul_bd (a := A.a0 * a.a3) (b := A.a5) (A := 1357557342000000) (B := A.a5.natAbs) (nat_mul_bd (A := 988033) (B := 1374000000) (by omega) (by omega)) (Nat.le_refl _)
  have t0 := nat_mul_bd (a := a.a0) (b := (D : Int)) (A := 988033) (B := D) (by omega) (by omega)
  have t1 := nat_mul_bd (a := a.a1) (b := (D : Int)) (A := 135755734200) (B := D) (by omega) (by omega)
  have hDr : ((D : Nat) : Rat) = ((10000 : Int) : Rat) * (A.a5 : Rat) := by
    rw [← Rat.intCast_mul, ← hD]
    rfl
  have hNr : (N : Rat) = ((10000 : Int) : Rat) * (A.a1 : Rat) - (A.a0 : Rat) * (A.a3 : Rat) := by rw [hN]; push_cast; rfl
  obtain ⟨z, hz⟩ : ∃ z, z = a.a0 * (D : Int) - (A.a0 * a.a2 * A.a5 + N * a.a4) := ⟨_, rfl⟩
  have hzb : z.natAbs ≤ 6260000000 * D := by omega
  have hzr : (z : Rat) = (a.a0 : Rat) * ((D : Nat) : Rat) - ((A.a0 : Rat) * (a.a2 : Rat) * (A.a5 : Rat) + (N : Rat) * (a.a4 : Rat)) := by rw [hz]; push_cast; rfl
  have hdown : ((a.a0 : Rat) - (((A.a0 * a.a2 : Int) : Rat) / ((10000 : Int) : Rat) + k * (a.a4 : Rat))) * ((D : Nat) : Rat) = (z : Rat) := by
    rw [hzr, hDr, hNr, Rat.intCast_mul]
    have e : ((10000 : Int) : Rat) = 10000 := rfl
    rw [Rat.intCast_mul] at hk
    rw [e] at hk ⊢
    grind
  refine ⟨⟨z, hdown, hzb⟩, ?_⟩
  have hzy := nat_mul_bd (a := z) (b := 2 * y) (A := 6260000000 * D) (B := 137400) hzb (by omega)
  refine ⟨z * (2 * y) + (A.a0 * a.a3 * A.a5 + N * a.a5) - a.a1 * (D : Int), ?_, by omega⟩
  have e : ((10000 : Int) : Rat) = 10000 := rfl
  have e2 : ((2 : Int) : Rat) = 2 := rfl
  push_cast
  push_cast at hdown hk
  rw [← hdown]
  rw [hDr, hNr]
  rw [e] at *
  grind
end
end Go.Proofs.Ytcdfnlgimbecgaa

namespace Go.Proofs.Ytcdfnlgimbecgaa

theorem bd_num {D B : Nat} {q : Rat} (h : Bd D B q) (hD : 0 < D) (hB : B ≤ 1000000000000000 * D) : (ofRat q).num ≤ 1000000000000000 * (ofRat q).den := by
  obtain ⟨z, hz, hb⟩ := h
  have e1 : (q.num : Rat) = q * (q.den : Rat) := by
    have h1 : (q.den : Rat) ≠ 0 := by
      intro e
      exact q.den_nz (by exact_mod_cast e)
    have h2 := rat_eq q
    have h3 : q * (q.den : Rat) = (q.num : Rat) / (q.den : Rat) * (q.den : Rat) := by rw [← h2]
    rw [h3, Rat.div_mul_cancel h1]
  have e2 : ((q.num * (D : Int) : Int) : Rat) = ((z * (q.den : Int) : Int) : Rat) := by
    push_cast
    rw [e1, ← hz]
    grind
  have e3 : q.num * (D : Int) = z * (q.den : Int) := by exact_mod_cast e2
  have e4 := congrArg Int.natAbs e3
  rw [Int.natAbs_mul, Int.natAbs_mul, Int.natAbs_natCast, Int.natAbs_natCast] at e4
  have h1 : z.natAbs * q.den ≤ 1000000000000000 * D * q.den := Nat.mul_le_mul_right _ (Nat.le_trans hb hB)
  rw [← e4, Nat.mul_right_comm] at h1
  exact Nat.le_of_mul_le_mul_right h1 hD

def limFr (f : Frm) (s : Str) : Frm := { f with shear := (ceilN s.shear : Int), bend := (ceilN s.bend : Int) }
def limTo (F : List Frm) (C : List Str) (k : Nat) : List Frm := (List.range F.length).map fun i => if i < k then limFr (F.getD i frm0) (C.getD i str0) else F.getD i frm0
theorem limTo_len (F : List Frm) (C : List Str) (k : Nat) : (limTo F C k).length = F.length := by simp [limTo]
theorem limTo_get (F : List Frm) (C : List Str) (k : Nat) {i : Nat} (hi : i < F.length) : (limTo F C k)[i]? = some (if i < k then limFr (F.getD i frm0) (C.getD i str0) else F.getD i frm0) := by
  unfold limTo
  rw [List.getElem?_map, List.getElem?_range hi]
  rfl
theorem limTo_zero (F : List Frm) (C : List Str) : limTo F C 0 = F := by
  apply List.ext_getElem?
  intro i
  rcases Nat.lt_or_ge i F.length with h | h
  · rw [limTo_get F C 0 h]
    simp [h]
  · rw [List.getElem?_eq_none (by rw [limTo_len]; exact h), List.getElem?_eq_none h]
theorem limTo_set (F : List Frm) (C : List Str) {k : Nat} (hk : k < F.length) : (limTo F C k).set k (limFr (F.getD k frm0) (C.getD k str0)) = limTo F C (k + 1) := by
  apply List.ext_getElem?
  intro i
  rcases Nat.lt_or_ge i F.length with h | h
  · rw [List.getElem?_set, limTo_get F C (k + 1) h]
    by_cases e : k = i
    · subst e
      rw [if_pos rfl, if_pos (by rw [limTo_len]; exact hk), if_pos (by omega)]
    · rw [if_neg e, limTo_get F C k h]
      by_cases h2 : i < k
      · rw [if_pos h2, if_pos (by omega)]
      · rw [if_neg h2, if_neg (by omega)]
  · rw [List.getElem?_eq_none (by rw [List.length_set, limTo_len]; exact h), List.getElem?_eq_none (by rw [limTo_len]; exact h)]

/-- what is known of the stresses -/
structure LimC (F : List Frm) (C : List Str) : Prop where
  right : rightF F = true
  len : C.length = F.length
  sr : ∀ i, i < F.length → (C.getD i str0).shear.right = true ∧ (C.getD i str0).bend.right = true
  bd : ∀ i, i < F.length → (C.getD i str0).shear.num ≤ 1000000000000000 * (C.getD i str0).shear.den ∧ (C.getD i str0).bend.num ≤ 1000000000000000 * (C.getD i str0).bend.den

theorem filter_one {p : Nat → Bool} {n i : Nat} (hi : i < n) (hp : p i = true) (ho : ∀ j, j < n → j ≠ i → p j = false) : (List.range n).filter p = [i] := by
  induction n with
  | zero => omega
  | succ n ih =>
    rw [List.range_succ, List.filter_append]
    rcases Nat.lt_or_ge i n with h | h
    · rw [ih h (fun j hj => ho j (by omega))]
      simp [ho n (by omega) (by omega)]
    · obtain rfl : i = n := by omega
      have e : (List.range i).filter p = [] := by
        rw [List.filter_eq_nil_iff]
        intro j hj
        rw [List.mem_range] at hj
        rw [ho j (by omega) (by omega)]
        decide
      rw [e]
      simp [hp]
section
variable {F : List Frm} {C : List Str} (H : LimC F C)
include H
/-- frames with other limits, none below 0 nor too great, are right -/
theorem LimC.rightG {G : List Frm} (hl : G.length = F.length) (hg : ∀ i, i < F.length → ∃ sh bd : Int, (0 ≤ sh ∧ sh ≤ 1000000000000000) ∧ (0 ≤ bd ∧ bd ≤ 1000000000000000) ∧ G[i]? = some { F.getD i frm0 with shear := sh, bend := bd }) : rightF G = true := by
  obtain ⟨_, _, p3, _⟩ := rightF_parts H.right
  refine Alike.right (F := F) ⟨hl.symm, fun i f g hf hgi => ?_⟩ (fun g hg' => ?_) H.right
  · have hi : i < F.length := (List.getElem?_eq_some_iff.1 hf).1
    obtain ⟨sh, bd, _, _, h3⟩ := hg i hi
    rw [h3] at hgi
    injection hgi with hgi
    subst hgi
    have e : F.getD i frm0 = f := by rw [List.getD_eq_getElem?_getD, hf]; rfl
    rw [e]
    exact ⟨rfl, rfl, rfl⟩
  · obtain ⟨i, hi, rfl⟩ := List.mem_iff_getElem.1 hg'
    rw [hl] at hi
    obtain ⟨sh, bd, h1, h2, h3⟩ := hg i hi
    rw [List.getElem?_eq_getElem (by omega)] at h3
    injection h3 with h3
    rw [h3]
    have e : F.getD i frm0 = F[i] := by simp [hi]
    have hok := Frm.ok_nums (okFrom_ok _ _ p3 _ (List.getElem_mem hi))
    rw [e]
    unfold Frm.ok
    simp only [Bool.and_eq_true, decide_eq_true_eq]
    omega
theorem LimC.notBad : C.any strBad = false := by
  rw [List.any_eq_false]
  intro s hs
  obtain ⟨i, hi, rfl⟩ := List.mem_iff_getElem.1 hs
  have h1 := H.sr i (by rw [← H.len]; exact hi)
  have e : C.getD i str0 = C[i] := by simp [hi]
  rw [e] at h1
  unfold strBad
  rw [h1.1, h1.2]
  decide
theorem LimC.over {G : List Frm} (hl : G.length = F.length) (hr : rightF G = true) : overF G C = ((overL G C C.length).map (fun i : Nat => (i : Int)), 0) := by
  unfold overF
  rw [hr, H.notBad, decide_eq_false (by rw [H.len, hl]; simp)]
  rfl
theorem LimC.le (i : Nat) (hi : i < F.length) : ceilN (C.getD i str0).shear ≤ 1000000000000000 ∧ ceilN (C.getD i str0).bend ≤ 1000000000000000 := by
  have h1 := H.sr i hi
  have h2 := H.bd i hi
  exact ⟨ceilN_le (Nat.pos_of_ne_zero (right_den h1.1)) h2.1, ceilN_le (Nat.pos_of_ne_zero (right_den h1.2)) h2.2⟩
/-- with limits that are just enough none is over -/
theorem LimC.none : rightF (limTo F C F.length) = true ∧ overF (limTo F C F.length) C = ([], 0) := by
  have hr : rightF (limTo F C F.length) = true := H.rightG (limTo_len _ _ _) fun i hi => by
    have h := H.le i hi
    exact ⟨(ceilN (C.getD i str0).shear : Int), (ceilN (C.getD i str0).bend : Int), ⟨by omega, by omega⟩, ⟨by omega, by omega⟩, by rw [limTo_get F C _ hi, if_pos hi]; rfl⟩
  refine ⟨hr, ?_⟩
  rw [H.over (limTo_len _ _ _) hr]
  have e : overL (limTo F C F.length) C C.length = [] := by
    unfold overL
    rw [List.filter_eq_nil_iff]
    intro i hi
    rw [List.mem_range, H.len] at hi
    have h1 := H.sr i hi
    have h2 : (limTo F C F.length).getD i frm0 = limFr (F.getD i frm0) (C.getD i str0) := by
      rw [List.getD_eq_getElem?_getD, limTo_get F C _ hi, if_pos hi]
      rfl
    unfold overAt
    rw [h2]
    show ¬ (beyondF _ (ceilN _ : Int) || beyondF _ (ceilN _ : Int)) = true
    rw [beyond_iff h1.1, beyond_iff h1.2, decide_eq_false (Nat.not_lt.2 (ceilN_ge (Nat.pos_of_ne_zero (right_den h1.1)))), decide_eq_false (Nat.not_lt.2 (ceilN_ge (Nat.pos_of_ne_zero (right_den h1.2))))]
    decide
  rw [e]
  rfl
/-- with one of them less by 1 that frame alone is -/
theorem LimC.one {i : Nat} (hi : i < F.length) (bend : Bool) (hz : (if bend then ceilN (C.getD i str0).bend else ceilN (C.getD i str0).shear) ≠ 0) {g' : Frm}
    (hg : g' = if bend then { limFr (F.getD i frm0) (C.getD i str0) with bend := (ceilN (C.getD i str0).bend : Int) - 1 } else { limFr (F.getD i frm0) (C.getD i str0) with shear := (ceilN (C.getD i str0).shear : Int) - 1 }) :
    rightF ((limTo F C F.length).set i g') = true ∧ overF ((limTo F C F.length).set i g') C = ([(i : Int)], 0) := by
  have hle := H.le i hi
  have hget : ∀ j, j < F.length → ((limTo F C F.length).set i g')[j]? = some (if j = i then g' else limFr (F.getD j frm0) (C.getD j str0)) := fun j hj => by
    rw [List.getElem?_set]
    by_cases e : i = j
    · rw [if_pos e, if_pos (by rw [limTo_len]; exact hi), if_pos e.symm]
    · rw [if_neg e, if_neg (fun h => e h.symm), limTo_get F C _ hj, if_pos hj]
  have hr : rightF ((limTo F C F.length).set i g') = true := H.rightG (by rw [List.length_set]; exact limTo_len _ _ _) fun j hj => by
    have h := H.le j hj
    rw [hget j hj]
    by_cases e : j = i
    · subst e
      rw [if_pos rfl, hg]
      cases bend with
      | true =>
        simp only [if_true] at hz ⊢
        exact ⟨(ceilN (C.getD j str0).shear : Int), (ceilN (C.getD j str0).bend : Int) - 1, ⟨by omega, by omega⟩, ⟨by omega, by omega⟩, rfl⟩
      | false =>
        simp only [Bool.false_eq_true, if_false] at hz ⊢
        exact ⟨(ceilN (C.getD j str0).shear : Int) - 1, (ceilN (C.getD j str0).bend : Int), ⟨by omega, by omega⟩, ⟨by omega, by omega⟩, rfl⟩
    · rw [if_neg e]
      exact ⟨(ceilN (C.getD j str0).shear : Int), (ceilN (C.getD j str0).bend : Int), ⟨by omega, by omega⟩, ⟨by omega, by omega⟩, rfl⟩
  refine ⟨hr, ?_⟩
  rw [H.over (by rw [List.length_set]; exact limTo_len _ _ _) hr]
  have e : overL ((limTo F C F.length).set i g') C C.length = [i] := by
    unfold overL
    rw [H.len]
    refine filter_one hi ?_ fun j hj hji => ?_
    · have h1 := H.sr i hi
      have h2 : ((limTo F C F.length).set i g').getD i frm0 = g' := by rw [List.getD_eq_getElem?_getD, hget i hi, if_pos rfl]; rfl
      unfold overAt
      rw [h2, hg]
      cases bend with
      | true =>
        simp only [if_true] at hz ⊢
        have e1 : (ceilN (C.getD i str0).bend : Int) - 1 = ((ceilN (C.getD i str0).bend - 1 : Nat) : Int) := by omega
        rw [e1, beyond_iff h1.2, decide_eq_true (ceilN_lt (Nat.pos_of_ne_zero (right_den h1.2)) hz), Bool.or_true]
      | false =>
        simp only [Bool.false_eq_true, if_false] at hz ⊢
        have e1 : (ceilN (C.getD i str0).shear : Int) - 1 = ((ceilN (C.getD i str0).shear - 1 : Nat) : Int) := by omega
        rw [e1, beyond_iff h1.1, decide_eq_true (ceilN_lt (Nat.pos_of_ne_zero (right_den h1.1)) hz), Bool.true_or]
    · have h1 := H.sr j hj
      have h2 : ((limTo F C F.length).set i g').getD j frm0 = limFr (F.getD j frm0) (C.getD j str0) := by rw [List.getD_eq_getElem?_getD, hget j hj, if_neg hji]; rfl
      unfold overAt
      rw [h2]
      show (beyondF _ (ceilN _ : Int) || beyondF _ (ceilN _ : Int)) = false
      rw [beyond_iff h1.1, beyond_iff h1.2, decide_eq_false (Nat.not_lt.2 (ceilN_ge (Nat.pos_of_ne_zero (right_den h1.1)))), decide_eq_false (Nat.not_lt.2 (ceilN_ge (Nat.pos_of_ne_zero (right_den h1.2))))]
      rfl
  rw [e]
  rfl
end
end Go.Proofs.Ytcdfnlgimbecgaa

namespace Go.Proofs.Ytcdfnlgimbecgaa
open Go.RowKit

set_option maxRecDepth 100000 in
set_option maxHeartbeats 4000000 in
theorem law_up (f : FracV) (hf : f.fits) (hb : -9223372036854775807 ≤ upI f ∧ upI f ≤ 9223372036854775807) (w : World) : Calls Try.prog 20 #[f.val] w fun e w' => e = .returned (.int .i64 (upI f)) ∧ From w w' := by
  have hb0 : Below w.heap.size w (w.alloc (.cells f.cells.toArray 37)) := (Below.refl _ _).alloc (Nat.le_refl _) _
  have HB0 := Lib.hid hb0
  have HF := Lib.hid (FB.new w f)
  have hneq := num_neq f.num hf.1
  obtain ⟨b, hbd⟩ : ∃ b, b = decide (f.num ≠ 0) := ⟨_, rfl⟩
  rw [← hbd] at hneq
  have HFL : Hid (∀ w1, Calls Try.prog 21 #[(FracV.mk b f.num f.den).val] w1 fun e w' => e = Ending.returned (Value.tuple #[.int .i64 (floorL (FracV.mk b f.num f.den)).1, .int .i64 (floorL (FracV.mk b f.num f.den)).2]) ∧ Below w1.heap.size w1 w') := fun w1 => frac_Floor (FracV.mk b f.num f.den) hf w1
  have hu : upI f = -(floorL (FracV.mk b f.num f.den)).1 := by rw [hbd]; rfl
  generalize floorL (FracV.mk b f.num f.den) = r at *
  obtain ⟨r1, r2⟩ := r
  simp only at hu HFL
  have wn : IntKind.i64.wrap (-r1) = -r1 := wrap_i64 (by omega) (by omega)
  rw [hu]
  clear hb0 hf hbd hu hb
  unfold FracV.val
  go_enter Try.func20, Try.ntmps20
  go_upto_region 2 with (first
    | ((with_reducible refine g_ld 35 ?_); refine wpList_ld rfl _ _ rfl _ rfl _ HF.out.ld_num ?_)
    | ((with_reducible refine g_st 4 ?_); refine wpList_stNeg (b := b) rfl _ _ rfl rfl rfl HF.out ?_; intro w2 hfb2 hgr2))
  have HF2 := Lib.hid hfb2
  have C2 : Hid (From w w2) := HB0.out.grown hgr2 HB0.out.size (by intro q hq; injection hq with hq; omega)
  clear hfb2 hgr2
  try simp only [Act.put]
  go_wp2_with (first
    | ((with_reducible refine g_ld 37 ?_); refine wpList_ld rfl _ _ rfl _ rfl _ HF2.out.ld' ?_)
    | (go_at_call 21; refine (HFL.out w2).mono ?_; rintro e w3 ⟨rfl, hb3⟩; have C3 : Hid (From w w3) := C2.out.trans (hb3.mono C2.out.size); clear hb3))
  go_ret
  exact ⟨rfl, C3.out⟩
end Go.Proofs.Ytcdfnlgimbecgaa
