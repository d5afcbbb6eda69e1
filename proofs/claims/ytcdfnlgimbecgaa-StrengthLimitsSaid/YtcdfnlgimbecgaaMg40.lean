/-
  What Curve returns, as rational numbers: shear and bending moment. Plain.
  The sections of frames that Made made, each by itself; what their sums are; the last one is not 0. Plain.
  twistlocklaw18: weights are added up by their curves. Plain.
-/
import Derived.Test.YtcdfnlgimbecgaaMg6
import Derived.Test.YtcdfnlgimbecgaaMg30
import Derived.Test.YtcdfnlgimbecgaaMg39

namespace Go.Proofs.Ytcdfnlgimbecgaa

theorem addR {p q : Rat} (h : FitsR (p + q)) : (addL (ofRat p) (ofRat q)).1 = ofRat (p + q) := by
  unfold addL
  rw [ofRat_right, ofRat_right, Bool.and_self, if_pos rfl, sumL_rat, outR_fits h]
theorem subR {p q : Rat} (h : FitsR (p - q)) : (subL (ofRat p) (ofRat q)).1 = ofRat (p - q) := by
  unfold subL
  rw [ofRat_right, ofRat_right, Bool.and_self, if_pos rfl, negL_rat, sumL_rat, ← Rat.sub_eq_add_neg, outR_fits h]
theorem mulR {p q : Rat} (h : FitsR (p * q)) : (mulL (ofRat p) (ofRat q)).1 = ofRat (p * q) := by
  rw [mulL_rat, outR_fits h]
theorem divR_ {p q : Rat} (hq : q ≠ 0) (h : FitsR (p / q)) : (divL (ofRat p) (ofRat q)).1 = ofRat (p / q) := by
  rw [divL_rat p q hq, outR_fits h]
theorem ratioR {a b : Int} (hb : b ≠ 0) (h : FitsR ((a : Rat) / (b : Rat))) : (ratioL a b).1 = ofRat ((a : Rat) / (b : Rat)) := by
  rw [ratioL_rat a b hb, outR_fits h]

/-- q is a whole number over D, at most B over D -/
def Bd (D B : Nat) (q : Rat) : Prop := ∃ z : Int, q * (D : Rat) = (z : Rat) ∧ z.natAbs ≤ B
theorem Bd.fits {D B : Nat} {q : Rat} (h : Bd D B q) (hD : D ≠ 0) (hD2 : D < top256) (hB : B < top256) : FitsR q := by
  obtain ⟨z, hz, hb⟩ := h
  have hDr : (D : Rat) ≠ 0 := by
    intro e
    apply hD
    exact_mod_cast e
  have e : q = (z : Rat) / (D : Rat) := by
    rw [← hz]
    grind
  rw [e]
  obtain ⟨h1, h2⟩ := bound_rat (z := z) hD
  exact ⟨by omega, by omega⟩
theorem Bd.mono {D B B' : Nat} {q : Rat} (h : Bd D B q) (hB : B ≤ B') : Bd D B' q := by
  obtain ⟨z, hz, hb⟩ := h
  exact ⟨z, hz, Nat.le_trans hb hB⟩
theorem Bd.add {D B B' : Nat} {p q : Rat} (h : Bd D B p) (h' : Bd D B' q) : Bd D (B + B') (p + q) := by
  obtain ⟨z, hz, hb⟩ := h
  obtain ⟨y, hy, hb'⟩ := h'
  refine ⟨z + y, ?_, ?_⟩
  · rw [Rat.intCast_add, ← hz, ← hy]
    grind
  · have := Int.natAbs_add_le z y
    omega
theorem Bd.sub {D B B' : Nat} {p q : Rat} (h : Bd D B p) (h' : Bd D B' q) : Bd D (B + B') (p - q) := by
  obtain ⟨z, hz, hb⟩ := h
  obtain ⟨y, hy, hb'⟩ := h'
  refine ⟨z - y, ?_, ?_⟩
  · rw [Rat.intCast_sub, ← hz, ← hy]
    grind
  · have := Int.natAbs_sub_le z y
    omega
theorem Bd.mul {D B M : Nat} {p : Rat} (h : Bd D B p) (m : Int) (hm : m.natAbs ≤ M) : Bd D (B * M) (p * (m : Rat)) := by
  obtain ⟨z, hz, hb⟩ := h
  refine ⟨z * m, ?_, ?_⟩
  · rw [Rat.intCast_mul, ← hz]
    grind
  · rw [Int.natAbs_mul]
    exact Nat.mul_le_mul hb hm
theorem Bd.int {D M : Nat} (m : Int) (hm : m.natAbs ≤ M) : Bd D (M * D) (m : Rat) := by
  refine ⟨m * (D : Int), ?_, ?_⟩
  · rw [Rat.intCast_mul, Rat.intCast_natCast]
  · rw [Int.natAbs_mul, Int.natAbs_natCast]
    exact Nat.mul_le_mul_right _ hm
theorem Bd.half {D B : Nat} {p : Rat} (h : Bd D B p) : Bd (2 * D) B (p / 2) := by
  obtain ⟨z, hz, hb⟩ := h
  refine ⟨z, ?_, hb⟩
  rw [← hz]
  push_cast
  grind
theorem Bd.twice {D B : Nat} {p : Rat} (h : Bd D B p) : Bd (2 * D) (2 * B) p := by
  obtain ⟨z, hz, hb⟩ := h
  refine ⟨2 * z, ?_, by omega⟩
  rw [Rat.intCast_mul, ← hz]
  push_cast
  grind

def kR (S : List Sec) : Rat := (((addAll S).a1 : Rat) - (((addAll S).a0 * (addAll S).a3 : Int) : Rat) / ((10000 : Int) : Rat)) / ((addAll S).a5 : Rat)
def liftR (S : List Sec) (sh fa : Int) : Rat := (((addAll S).a0 * sh : Int) : Rat) / ((10000 : Int) : Rat) + kR S * (fa : Rat)
def downR (S : List Sec) (j : Nat) : Rat := ((addAll (S.take j)).a0 : Rat) - liftR S (addAll (S.take j)).a2 (addAll (S.take j)).a4
def twiceR (F : List Frm) (S : List Sec) (j : Nat) : Rat := downR S j * ((2 * frmX F j : Int) : Rat) + liftR S (addAll (S.take j)).a3 (addAll (S.take j)).a5 - ((addAll (S.take j)).a1 : Rat)
def bendR (F : List Frm) (S : List Sec) (j : Nat) : Rat := twiceR F S j / ((2 : Int) : Rat)

/-- what bounds the numbers of the sections -/
structure SecB (S : List Sec) (D : Nat) : Prop where
  w : 0 ≤ (addAll S).a0 ∧ (addAll S).a0 ≤ 500000000
  a5 : 0 < (addAll S).a5
  D_ : (D : Int) = 10000 * (addAll S).a5
  sums : ∀ j, (-2000000000000 ≤ (addAll (S.take j)).a0 ∧ (addAll (S.take j)).a0 ≤ 2000000000000) ∧ (-2000000000000000000 ≤ (addAll (S.take j)).a1 ∧ (addAll (S.take j)).a1 ≤ 2000000000000000000) ∧ (-10000 ≤ (addAll (S.take j)).a2 ∧ (addAll (S.take j)).a2 ≤ 10000) ∧ (-10000000000 ≤ (addAll (S.take j)).a3 ∧ (addAll (S.take j)).a3 ≤ 10000000000) ∧ (-1740000000 ≤ (addAll (S.take j)).a4 ∧ (addAll (S.take j)).a4 ≤ 1740000000) ∧ (-1740000000000000 ≤ (addAll (S.take j)).a5 ∧ (addAll (S.take j)).a5 ≤ 1740000000000000)

section
variable {S : List Sec} {D : Nat} (h : SecB S D)
include h
theorem SecB.all : (-2000000000000000000 ≤ (addAll S).a1 ∧ (addAll S).a1 ≤ 2000000000000000000) ∧ (-10000000000 ≤ (addAll S).a3 ∧ (addAll S).a3 ≤ 10000000000) ∧ (addAll S).a5 ≤ 1740000000000000 := by
  have := h.sums S.length
  rw [List.take_length] at this
  omega
theorem SecB.Dpos : D ≠ 0 ∧ D ≤ 17400000000000000000 := by
  have h1 := h.D_
  have h2 := h.a5
  have h3 := h.all
  omega
theorem SecB.fits {B : Nat} {q : Rat} (hq : Bd D B q) (hB : B < top256) : FitsR q := by
  have h1 := h.Dpos
  exact hq.fits h1.1 (Nat.lt_of_le_of_lt h1.2 (by decide)) hB
theorem SecB.ratio (sh : Int) (hs : sh.natAbs ≤ 10000000000) : Bd D 8700000000000000000000000000000000 ((((addAll S).a0 * sh : Int) : Rat) / ((10000 : Int) : Rat)) := by
  refine ⟨(addAll S).a0 * sh * (addAll S).a5, ?_, ?_⟩
  · have e : (D : Rat) = 10000 * ((addAll S).a5 : Rat) := by
      have h1 := h.D_
      have h2 : ((D : Int) : Rat) = ((10000 * (addAll S).a5 : Int) : Rat) := by rw [h1]
      rw [Rat.intCast_natCast, Rat.intCast_mul] at h2
      rw [h2]
      rfl
    rw [e, Rat.intCast_mul]
    have e2 : ((10000 : Int) : Rat) = 10000 := rfl
    rw [e2]
    grind
  · have h1 := h.w
    have h2 := h.all
    have h3 := h.a5
    rw [Int.natAbs_mul, Int.natAbs_mul]
    have a1 : (addAll S).a0.natAbs ≤ 500000000 := by omega
    have a2 : (addAll S).a5.natAbs ≤ 1740000000000000 := by omega
    exact Nat.le_trans (Nat.mul_le_mul (Nat.mul_le_mul a1 hs) a2) (by decide)
theorem SecB.a5ne : ((addAll S).a5 : Rat) ≠ 0 := by
  have := h.a5
  intro e
  have e2 : (addAll S).a5 = 0 := by exact_mod_cast e
  omega
theorem SecB.k : Bd D 30000000000000000000000 (kR S) := by
  refine ⟨10000 * (addAll S).a1 - (addAll S).a0 * (addAll S).a3, ?_, ?_⟩
  · have e : (D : Rat) = 10000 * ((addAll S).a5 : Rat) := by
      have h1 := h.D_
      have h2 : ((D : Int) : Rat) = ((10000 * (addAll S).a5 : Int) : Rat) := by rw [h1]
      rw [Rat.intCast_natCast, Rat.intCast_mul] at h2
      rw [h2]
      rfl
    have e2 : ((10000 : Int) : Rat) = 10000 := rfl
    have hne := h.a5ne
    unfold kR
    rw [e, Rat.intCast_sub, Rat.intCast_mul, Rat.intCast_mul, e2]
    grind
  · have h1 := h.w
    have h2 := h.all
    have a0 := Int.natAbs_sub_le (10000 * (addAll S).a1) ((addAll S).a0 * (addAll S).a3)
    rw [Int.natAbs_mul (addAll S).a0] at a0
    have a10 : (10000 * (addAll S).a1).natAbs ≤ 20000000000000000000000 := by omega
    have a1 : (addAll S).a0.natAbs ≤ 500000000 := by omega
    have a2 : (addAll S).a3.natAbs ≤ 10000000000 := by omega
    have a3 := Nat.mul_le_mul a1 a2
    omega
theorem SecB.lift (sh fa : Int) (hs : sh.natAbs ≤ 10000000000) (hf : fa.natAbs ≤ 1740000000000000) : Bd D 60000000000000000000000000000000000000 (liftR S sh fa) := by
  unfold liftR
  exact ((h.ratio sh hs).add (h.k.mul fa hf)).mono (by decide)
/-- the buoyancy of shares and of factors, as the program reckons it -/
theorem SecB.liftV {kq : FracV} (hk : kq = ofRat (kR S)) (sh fa : Int) (hs : sh.natAbs ≤ 10000000000) (hf : fa.natAbs ≤ 1740000000000000) : liftV (addAll S).a0 kq sh fa = ofRat (liftR S sh fa) := by
  unfold Go.Proofs.Ytcdfnlgimbecgaa.liftV
  subst hk
  have h1 := h.ratio sh hs
  have h2 := h.k.mul fa hf
  rw [ratioR (by decide) (h.fits h1 (by decide)), ofL_rat, mulR (h.fits h2 (by decide)), addR (h.fits (h1.add h2) (by decide))]
  rfl
theorem SecB.kF : kF S = ofRat (kR S) := by
  unfold Go.Proofs.Ytcdfnlgimbecgaa.kF Go.Proofs.Ytcdfnlgimbecgaa.liftV
  have hal := h.all
  have h1 := h.ratio (addAll S).a3 (by omega)
  have h0 : (mulL (ofL 0) (ofL 0)).1 = ofRat 0 := by decide
  have h2 : Bd D 0 (0 : Rat) := ⟨0, by grind, by decide⟩
  have h3 := h1.add h2
  have h4 := (Bd.int (D := D) (M := 2000000000000000000) (addAll S).a1 (by omega)).sub h3
  have hD := h.Dpos
  have hb4 : 2000000000000000000 * D + (8700000000000000000000000000000000 + 0) < top256 := Nat.lt_of_le_of_lt (Nat.add_le_add_right (Nat.mul_le_mul_left _ hD.2) _) (by decide)
  rw [ratioR (by decide) (h.fits h1 (by decide)), h0, addR (h.fits h3 (by decide)), ofL_rat, subR (h.fits h4 hb4), ofL_rat, divR_ h.a5ne]
  · congr 1
    unfold kR
    grind
  · have h5 := h.fits h.k (by decide)
    have e : (((addAll S).a1 : Rat) - ((((addAll S).a0 * (addAll S).a3 : Int) : Rat) / ((10000 : Int) : Rat) + 0)) / ((addAll S).a5 : Rat) = kR S := by
      unfold kR
      grind
    rw [e]
    exact h5
theorem SecB.down (j : Nat) : Bd D 70000000000000000000000000000000000000 (downR S j) := by
  have hs := h.sums j
  have hD := h.Dpos
  unfold downR
  refine ((Bd.int (D := D) (M := 2000000000000) (addAll (S.take j)).a0 (by omega)).sub (h.lift _ _ (by omega) (by omega))).mono ?_
  exact Nat.le_trans (Nat.add_le_add_right (Nat.mul_le_mul_left _ hD.2) _) (by decide)
theorem SecB.downF {l : Nat} : downF S (addAll S).a0 (Go.Proofs.Ytcdfnlgimbecgaa.kF S) l = ofRat (downR S l) := by
  unfold Go.Proofs.Ytcdfnlgimbecgaa.downF
  have hs := h.sums l
  rw [h.liftV h.kF _ _ (by omega) (by omega), ofL_rat, subR (h.fits (h.down l) (by decide))]
  rfl
theorem SecB.arm {F : List Frm} (j : Nat) (hx : (frmX F j).natAbs ≤ 500000) : Bd D 70000000000000000000000000000000000000000000 (downR S j * ((2 * frmX F j : Int) : Rat)) :=
  ((h.down j).mul (2 * frmX F j) (M := 1000000) (by omega)).mono (by decide)
theorem SecB.twice {F : List Frm} (j : Nat) (hx : (frmX F j).natAbs ≤ 500000) : Bd D 90000000000000000000000000000000000000000000 (twiceR F S j) := by
  have hs := h.sums j
  have hD := h.Dpos
  unfold twiceR
  refine (((h.arm j hx).add (h.lift _ _ (by omega) (by omega))).sub (Bd.int (D := D) (M := 2000000000000000000) (addAll (S.take j)).a1 (by omega))).mono ?_
  exact Nat.le_trans (Nat.add_le_add_left (Nat.mul_le_mul_left _ hD.2) _) (by decide)
theorem SecB.bend {F : List Frm} (j : Nat) (hx : (frmX F j).natAbs ≤ 500000) : Bd (2 * D) 90000000000000000000000000000000000000000000 (bendR F S j) := (h.twice j hx).half
theorem SecB.fits2 {B : Nat} {q : Rat} (hq : Bd (2 * D) B q) (hB : B < top256) : FitsR q := by
  have h1 := h.Dpos
  exact hq.fits (by omega) (Nat.lt_of_le_of_lt (Nat.mul_le_mul_left 2 h1.2) (by decide)) hB
/-- shear and bending moment as the program reckons them -/
theorem SecB.str {F : List Frm} (j : Nat) (hx : (frmX F j).natAbs ≤ 500000) : strF F S (addAll S).a0 (Go.Proofs.Ytcdfnlgimbecgaa.kF S) j = ⟨ofRat (downR S j), ofRat (bendR F S j)⟩ := by
  have hs := h.sums j
  have h1 := h.arm j hx
  have h2 := h1.add (h.lift (addAll (S.take j)).a3 (addAll (S.take j)).a5 (by omega) (by omega))
  unfold strF twiceF armF
  rw [h.downF, ofL_rat, mulR (h.fits h1 (by decide)), h.liftV h.kF _ _ (by omega) (by omega), addR (h.fits h2 (by decide)), ofL_rat, subR (h.fits (h.twice (F := F) j hx) (by decide)), ofL_rat]
  show Str.mk (ofRat (downR S j)) (divL (ofRat (twiceR F S j)) (ofRat ((2 : Int) : Rat))).1 = _
  rw [divR_ (by decide) (h.fits2 (h.bend j hx) (by decide))]
  rfl
end
end Go.Proofs.Ytcdfnlgimbecgaa

namespace Go.Proofs.Ytcdfnlgimbecgaa

theorem Sec.add_comm (a b : Sec) : a.add b = b.add a := by
  unfold Sec.add
  rw [Sec.mk.injEq]
  omega
theorem Sec.add_assoc (a b c : Sec) : (a.add b).add c = a.add (b.add c) := by
  unfold Sec.add
  rw [Sec.mk.injEq]
  simp only
  omega
theorem Sec.add_zero (a : Sec) : a.add Sec.zero = a := by
  cases a
  unfold Sec.add Sec.zero
  rw [Sec.mk.injEq]
  simp only
  omega
theorem Sec.zero_add (a : Sec) : Sec.zero.add a = a := by rw [Sec.add_comm, Sec.add_zero]

/-- what the weights add to a section -/
def wsum (F : List Frm) (i : Nat) : List Wt → Sec
  | [] => Sec.zero
  | u :: ws => (if idxF F u.x = i + 1 then wtSec u else Sec.zero).add (wsum F i ws)
theorem wsum_append (F : List Frm) (i : Nat) : ∀ a b : List Wt, wsum F i (a ++ b) = (wsum F i a).add (wsum F i b)
  | [], b => by rw [List.nil_append]; exact (Sec.zero_add _).symm
  | u :: a, b => by
    rw [List.cons_append]
    show (Sec.add _ (wsum F i (a ++ b))) = _
    rw [wsum_append F i a b, ← Sec.add_assoc]
    rfl
theorem wsum_reverse (F : List Frm) (i : Nat) : ∀ a : List Wt, wsum F i a.reverse = wsum F i a
  | [] => rfl
  | u :: a => by
    rw [List.reverse_cons, wsum_append, wsum_reverse F i a, Sec.add_comm]
    show Sec.add (Sec.add _ Sec.zero) _ = _
    rw [Sec.add_zero]
    rfl
theorem wsum_part {f : Sec → Int} (hf : Part f) (h0 : ∀ u, f (wtSec u) = 0) (F : List Frm) (i : Nat) : ∀ a : List Wt, f (wsum F i a) = 0
  | [] => hf.zero
  | u :: a => by
    show f (Sec.add _ _) = 0
    rw [hf.add, wsum_part hf h0 F i a]
    split
    · rw [h0]; rfl
    · rw [hf.zero]; rfl

theorem wput_get {F : List Frm} {n : Nat} : ∀ (ws : List Wt) (S S' : List Sec), S.length = n → putAllW F n S ws = some S' → S'.length = n ∧ ∀ i, i < n → S'.getD i Sec.zero = (S.getD i Sec.zero).add (wsum F i ws)
  | [], S, S', hS, h => by
    injection h with h
    subst h
    exact ⟨hS, fun i _ => (Sec.add_zero _).symm⟩
  | u :: ws, S, S', hS, h => by
    unfold putAllW putW at h
    by_cases hc : idxF F u.x = 0 ∨ n < idxF F u.x
    · rw [if_pos hc] at h
      cases h
    · rw [if_neg hc] at h
      obtain ⟨h1, h2⟩ := wput_get ws _ S' (by rw [List.length_set]; exact hS) h
      refine ⟨h1, fun i hi => ?_⟩
      rw [h2 i hi]
      show _ = (S.getD i Sec.zero).add (Sec.add _ _)
      rw [← Sec.add_assoc]
      congr 1
      by_cases he : idxF F u.x = i + 1
      · rw [if_pos he, he, Nat.add_sub_cancel]
        simp [List.getD_eq_getElem?_getD, List.getElem?_set_self (show i < S.length by omega)]
      · rw [if_neg he, Sec.add_zero]
        simp [List.getD_eq_getElem?_getD, List.getElem?_set_ne (show idxF F u.x - 1 ≠ i by omega)]

/-- the sections of frames and weights -/
def secL (F : List Frm) (ws : List Wt) : List Sec := (List.range (F.length - 1)).map fun i => (secBase F (F.length - 1) (allX F (F.length - 1)) i).add (wsum F i ws)
theorem secL_len (F : List Frm) (ws : List Wt) : (secL F ws).length = F.length - 1 := by simp [secL]
theorem sections_secL {F : List Frm} {ws : List Wt} {S : List Sec} (h : sectionsF F ws = some S) : S = secL F ws := by
  obtain ⟨h1, h2⟩ := wput_get ws _ S (baseS_len F) h
  apply List.ext_getElem
  · rw [h1, secL_len]
  · intro i hi hi'
    have h3 := h2 i (by omega)
    have e1 : S.getD i Sec.zero = S[i] := by simp [hi]
    have hb : i < (baseS F).length := by rw [baseS_len]; omega
    have e2 : (baseS F).getD i Sec.zero = secBase F (F.length - 1) (allX F (F.length - 1)) i := by
      rw [List.getD_eq_getElem?_getD, List.getElem?_eq_getElem hb]
      simp [baseS]
    rw [e1, e2] at h3
    rw [h3]
    simp [secL]

/-- the sums ahead of a frame: of the hull, of the weights -/
def preH (f : Sec → Int) (F : List Frm) (j : Nat) : Int := sumSec f ((List.range (min j (F.length - 1))).map (secBase F (F.length - 1) (allX F (F.length - 1))))
def preW (f : Sec → Int) (F : List Frm) (ws : List Wt) (j : Nat) : Int := sumSec f ((List.range (min j (F.length - 1))).map fun i => wsum F i ws)
theorem sumSec_add {f : Sec → Int} (hf : Part f) (g h : Nat → Sec) : ∀ is : List Nat, sumSec f (is.map fun i => (g i).add (h i)) = sumSec f (is.map g) + sumSec f (is.map h)
  | [] => rfl
  | i :: is => by
    simp only [List.map_cons, sumSec_cons, hf.add]
    rw [sumSec_add hf g h is]
    omega
theorem pre_sum {f : Sec → Int} (hf : Part f) (F : List Frm) (ws : List Wt) (j : Nat) : f (addAll ((secL F ws).take j)) = preH f F j + preW f F ws j := by
  rw [addAll_sum hf]
  unfold secL preH preW
  rw [← List.map_take, List.take_range, sumSec_add hf]
theorem all_sum {f : Sec → Int} (hf : Part f) (F : List Frm) (ws : List Wt) : f (addAll (secL F ws)) = preH f F (F.length - 1) + preW f F ws (F.length - 1) := by
  have h := pre_sum hf F ws (F.length - 1)
  rw [List.take_of_length_le (by rw [secL_len]; exact Nat.le_refl _)] at h
  exact h
theorem preW_append {f : Sec → Int} (hf : Part f) (F : List Frm) (a b : List Wt) (j : Nat) : preW f F (a ++ b) j = preW f F a j + preW f F b j := by
  unfold preW
  rw [← sumSec_add hf]
  congr 2
  funext i
  exact wsum_append F i a b
theorem preW_nil {f : Sec → Int} (hf : Part f) (F : List Frm) (j : Nat) : preW f F [] j = 0 := by
  have h := preW_append hf F [] [] j
  rw [List.nil_append] at h
  omega
theorem secL_reverse (F : List Frm) (ws : List Wt) : secL F ws.reverse = secL F ws := by
  unfold secL
  congr 1
  funext i
  rw [wsum_reverse]
theorem preW_zero {f : Sec → Int} (hf : Part f) (h0 : ∀ u, f (wtSec u) = 0) (F : List Frm) (ws : List Wt) (j : Nat) : preW f F ws j = 0 := by
  unfold preW
  generalize List.range (min j (F.length - 1)) = is
  induction is with
  | nil => rfl
  | cons i is ih =>
    rw [List.map_cons, sumSec_cons, ih, wsum_part hf h0]
    rfl

/-- the sum of the factors' moments is not 0 -/
theorem sq_nonneg (x : Int) : 0 ≤ x * x := by
  rcases Int.le_total 0 x with h | h
  · exact Int.mul_nonneg h h
  · exact Int.mul_nonneg_of_nonpos_of_nonpos h h
theorem sq_pos {x : Int} (h : x ≠ 0) : 0 < x * x := by
  have h1 := sq_nonneg x
  have h2 : x * x ≠ 0 := fun e => by
    rcases Int.mul_eq_zero.1 e with h3 | h3 <;> exact h h3
  omega
def sqX (l : List Frm) : Nat → Int
  | 0 => 0
  | k + 1 => sqX l k + hX l k * hX l k
def farX (l : List Frm) (h : Int) : Nat → Int
  | 0 => 0
  | k + 1 => farX l h k + (h - hX l k) * (h - hX l k)
theorem farX_eq (l : List Frm) (h : Int) : ∀ k : Nat, farX l h k = sqX l k - 2 * h * allX l k + k * (h * h)
  | 0 => by simp [farX, sqX, allX]
  | k + 1 => by
    unfold farX sqX allX
    rw [farX_eq l h k]
    push_cast
    grind
theorem farX_nonneg (l : List Frm) (h : Int) : ∀ k, 0 ≤ farX l h k
  | 0 => by simp [farX]
  | k + 1 => by
    unfold farX
    have := farX_nonneg l h k
    have := sq_nonneg (h - hX l k)
    omega
theorem farX_pos (l : List Frm) (h : Int) (h0 : h ≠ hX l 0) : ∀ k, 0 < k → 0 < farX l h k
  | 1, _ => by
    unfold farX farX
    have := sq_pos (x := h - hX l 0) (by omega)
    omega
  | k + 2, _ => by
    unfold farX
    have := farX_pos l h h0 (k + 1) (by omega)
    have := sq_nonneg (h - hX l (k + 1))
    omega
theorem var_step (l : List Frm) (k : Nat) : ((k + 1 : Nat) : Int) * sqX l (k + 1) - allX l (k + 1) * allX l (k + 1) = (k * sqX l k - allX l k * allX l k) + farX l (hX l k) k := by
  rw [farX_eq]
  show ((k + 1 : Nat) : Int) * (sqX l k + hX l k * hX l k) - (allX l k + hX l k) * (allX l k + hX l k) = _
  push_cast
  grind
theorem var_nonneg (l : List Frm) : ∀ k : Nat, 0 ≤ (k : Int) * sqX l k - allX l k * allX l k
  | 0 => by simp [sqX, allX]
  | k + 1 => by
    rw [var_step]
    have := var_nonneg l k
    have := farX_nonneg l (hX l k) k
    omega
theorem var_pos (l : List Frm) (k : Nat) (hk : 0 < k) (h : hX l k ≠ hX l 0) : 0 < ((k + 1 : Nat) : Int) * sqX l (k + 1) - allX l (k + 1) * allX l (k + 1) := by
  rw [var_step]
  have := var_nonneg l k
  have := farX_pos l (hX l k) h k hk
  omega
theorem a5_sum (l : List Frm) (n : Nat) (all : Int) : ∀ k, sumSec Sec.a5 ((List.range k).map (secBase l n all)) = n * sqX l k - all * allX l k
  | 0 => by simp [sumSec, sqX, allX]
  | k + 1 => by
    have e : ∀ (S : List Sec) (a : Sec), sumSec Sec.a5 (S ++ [a]) = sumSec Sec.a5 S + a.a5 := by
      intro S a
      induction S with
      | nil => simp [sumSec]
      | cons b S ih2 => rw [List.cons_append, sumSec_cons, sumSec_cons, ih2]; omega
    rw [List.range_succ, List.map_append, List.map_singleton, e, a5_sum l n all k]
    show _ + ((n : Int) * hX l k - all) * hX l k = (n : Int) * (sqX l k + hX l k * hX l k) - all * (allX l k + hX l k)
    grind
theorem a5_pos {l : List Frm} (ho : ordF l) (h3 : 3 ≤ l.length) (ws : List Wt) : 0 < (addAll (secL l ws)).a5 := by
  have h := all_sum part5 l ws
  rw [preW_zero part5 (fun _ => rfl)] at h
  unfold preH at h
  rw [Nat.min_self, a5_sum] at h
  obtain ⟨k, hk⟩ : ∃ k, l.length - 1 = k + 1 := ⟨l.length - 2, by omega⟩
  rw [hk] at h
  have h1 : hX l k ≠ hX l 0 := by
    unfold hX
    have e : ∀ i, i < l.length → ∀ (hi : i < l.length), frmX l i = l[i].x := fun i _ hi => frmX_get hi
    rw [frmX_get (show k < l.length by omega), frmX_get (show k + 1 < l.length by omega), frmX_get (show 0 < l.length by omega), frmX_get (show 0 + 1 < l.length by omega)]
    have q1 := ho 0 1 (by omega) (by omega) (by omega)
    have q2 := ho 0 k (by omega) (by omega) (by omega)
    have q3 := ho 1 (k + 1) (by omega) (by omega) (by omega)
    simp only [Nat.zero_add] at *
    omega
  have := var_pos l k (by omega) h1
  omega
end Go.Proofs.Ytcdfnlgimbecgaa

namespace Go.Proofs.Ytcdfnlgimbecgaa

theorem okFrom_ordF {l : List Frm} (h : okFrom none l = true) : ordF l := (okFrom_ord l none h).1
/-- the factor of all fractions -/
def dF (F : List Frm) : Nat := (10000 * (addAll (secL F [])).a5).toNat
theorem a5_same (F : List Frm) (ws : List Wt) : (addAll (secL F ws)).a5 = (addAll (secL F [])).a5 := by
  rw [all_sum part5, all_sum part5, preW_zero part5 (fun _ => rfl), preW_zero part5 (fun _ => rfl)]
theorem sec_ok {F t : List Frm} {r x : Int} (M : MadeF F t r x) (ws : List Wt) (hw : ∀ u ∈ ws, (-20000 ≤ u.x ∧ u.x < x) ∧ (0 ≤ u.kilos ∧ u.kilos < 65536)) (hl : ws.length ≤ 100) :
    sectionsF F ws = some (secL F ws) ∧ SecB (secL F ws) (dF F) ∧ curveF F ws = (curveS F (secL F ws), 0) := by
  obtain ⟨S, h1, h2, h3⟩ := made_sections M ws (fun u hu => (hw u hu).1)
  have hS := sections_secL h1
  subst hS
  have hk := sumWt_kilos ws (fun u hu => (hw u hu).2)
  have hL := M.light
  have hR := M.right
  obtain ⟨p1, p2, p3, p4⟩ := rightF_parts hR
  have hkil : ∀ u ∈ ws, 0 ≤ u.kilos ∧ u.kilos ≤ 500000000 := fun u hu => by have := (hw u hu).2; omega
  have h5 := a5_pos (okFrom_ordF p3) p1 ws
  refine ⟨h1, ⟨⟨by omega, by omega⟩, h5, ?_, fun j => addAll_ok p3 p1 p2 p4 (by omega) hkil h1 j⟩, ?_⟩
  · unfold dF
    rw [← a5_same F ws]
    omega
  · unfold curveF
    rw [hR, any_bad hkil, h1]
    simp only [Bool.not_true, Bool.or_false, Bool.false_eq_true, if_false]
    rw [if_neg (show ¬ 3000 < ws.length by omega), if_neg (show ¬ 500000000 < (addAll (secL F ws)).a0 by omega)]

theorem down_lin (x1 x0 xa xb w1 w0 wa wb m1 m0 ma mb c2 c4 t3 t5 : Rat) (hx : x1 + x0 = xa + xb) (hw : w1 + w0 = wa + wb) (hm : m1 + m0 = ma + mb) :
    (x1 - (w1 * c2 / 10000 + (m1 - w1 * t3 / 10000) / t5 * c4)) + (x0 - (w0 * c2 / 10000 + (m0 - w0 * t3 / 10000) / t5 * c4)) = (xa - (wa * c2 / 10000 + (ma - wa * t3 / 10000) / t5 * c4)) + (xb - (wb * c2 / 10000 + (mb - wb * t3 / 10000) / t5 * c4)) := by
  rw [Rat.div_def _ t5, Rat.div_def _ t5, Rat.div_def _ t5, Rat.div_def _ t5]
  generalize t5⁻¹ = i5
  grind
theorem lift_lin (w1 w0 wa wb m1 m0 ma mb c3 c5 t3 t5 : Rat) (hw : w1 + w0 = wa + wb) (hm : m1 + m0 = ma + mb) :
    (w1 * c3 / 10000 + (m1 - w1 * t3 / 10000) / t5 * c5) + (w0 * c3 / 10000 + (m0 - w0 * t3 / 10000) / t5 * c5) = (wa * c3 / 10000 + (ma - wa * t3 / 10000) / t5 * c5) + (wb * c3 / 10000 + (mb - wb * t3 / 10000) / t5 * c5) := by
  rw [Rat.div_def _ t5, Rat.div_def _ t5, Rat.div_def _ t5, Rat.div_def _ t5]
  generalize t5⁻¹ = i5
  grind
theorem cast4 {a b c d : Int} (h : a + b = c + d) : (a : Rat) + (b : Rat) = (c : Rat) + (d : Rat) := by
  rw [← Rat.intCast_add, ← Rat.intCast_add, h]

section
variable (F : List Frm) (a b : List Wt) (j : Nat)
theorem pre_lin {f : Sec → Int} (hf : Part f) : f (addAll ((secL F (a ++ b)).take j)) + f (addAll ((secL F []).take j)) = f (addAll ((secL F a).take j)) + f (addAll ((secL F b).take j)) := by
  rw [pre_sum hf, pre_sum hf, pre_sum hf, pre_sum hf, preW_append hf, preW_nil hf]
  omega
theorem tot_lin {f : Sec → Int} (hf : Part f) : f (addAll (secL F (a ++ b))) + f (addAll (secL F [])) = f (addAll (secL F a)) + f (addAll (secL F b)) := by
  rw [all_sum hf, all_sum hf, all_sum hf, all_sum hf, preW_append hf, preW_nil hf]
  omega
theorem pre_same {f : Sec → Int} (hf : Part f) (h0 : ∀ u, f (wtSec u) = 0) (ws : List Wt) : f (addAll ((secL F ws).take j)) = preH f F j := by
  rw [pre_sum hf, preW_zero hf h0]
  omega
theorem tot_same {f : Sec → Int} (hf : Part f) (h0 : ∀ u, f (wtSec u) = 0) (ws : List Wt) : f (addAll (secL F ws)) = preH f F (F.length - 1) := by
  rw [all_sum hf, preW_zero hf h0]
  omega
theorem liftR_eq (ws : List Wt) (sh fa : Int) : liftR (secL F ws) sh fa = ((addAll (secL F ws)).a0 : Rat) * (sh : Rat) / 10000 + (((addAll (secL F ws)).a1 : Rat) - ((addAll (secL F ws)).a0 : Rat) * (preH Sec.a3 F (F.length - 1) : Rat) / 10000) / (preH Sec.a5 F (F.length - 1) : Rat) * (fa : Rat) := by
  unfold liftR kR
  rw [tot_same F part3 (fun _ => rfl), tot_same F part5 (fun _ => rfl), Rat.intCast_mul, Rat.intCast_mul]
  rfl
theorem downR_eq (ws : List Wt) : downR (secL F ws) j = ((addAll ((secL F ws).take j)).a0 : Rat) - (((addAll (secL F ws)).a0 : Rat) * (preH Sec.a2 F j : Rat) / 10000 + (((addAll (secL F ws)).a1 : Rat) - ((addAll (secL F ws)).a0 : Rat) * (preH Sec.a3 F (F.length - 1) : Rat) / 10000) / (preH Sec.a5 F (F.length - 1) : Rat) * (preH Sec.a4 F j : Rat)) := by
  unfold downR
  rw [liftR_eq, pre_same F j part2 (fun _ => rfl), pre_same F j part4 (fun _ => rfl)]
/-- the shears add up -/
theorem down_adds : downR (secL F (a ++ b)) j + downR (secL F []) j = downR (secL F a) j + downR (secL F b) j := by
  rw [downR_eq, downR_eq, downR_eq, downR_eq]
  exact down_lin _ _ _ _ _ _ _ _ _ _ _ _ _ _ _ _ (cast4 (pre_lin F a b j part0)) (cast4 (tot_lin F a b part0)) (cast4 (tot_lin F a b part1))
theorem lift_adds (sh fa : Int) : liftR (secL F (a ++ b)) sh fa + liftR (secL F []) sh fa = liftR (secL F a) sh fa + liftR (secL F b) sh fa := by
  rw [liftR_eq, liftR_eq, liftR_eq, liftR_eq]
  exact lift_lin _ _ _ _ _ _ _ _ _ _ _ _ (cast4 (tot_lin F a b part0)) (cast4 (tot_lin F a b part1))
/-- the bending moments add up -/
theorem bend_adds : bendR F (secL F (a ++ b)) j + bendR F (secL F []) j = bendR F (secL F a) j + bendR F (secL F b) j := by
  have h1 := down_adds F a b j
  have h2 := lift_adds F a b (preH Sec.a3 F j) (preH Sec.a5 F j)
  have h3 := cast4 (pre_lin F a b j part1)
  unfold bendR twiceR
  rw [pre_same F j part3 (fun _ => rfl), pre_same F j part5 (fun _ => rfl), pre_same F j part3 (fun _ => rfl), pre_same F j part5 (fun _ => rfl), pre_same F j part3 (fun _ => rfl), pre_same F j part5 (fun _ => rfl), pre_same F j part3 (fun _ => rfl), pre_same F j part5 (fun _ => rfl)]
  have e2 : ((2 : Int) : Rat) = 2 := rfl
  rw [e2]
  grind
end

/-- what the law asks of one frame -/
theorem adds_law {F t : List Frm} {r x : Int} (M : MadeF F t r x) (a b : List Wt) (ha : ∀ u ∈ a, (-20000 ≤ u.x ∧ u.x < x) ∧ (0 ≤ u.kilos ∧ u.kilos < 65536)) (hb : ∀ u ∈ b, (-20000 ≤ u.x ∧ u.x < x) ∧ (0 ≤ u.kilos ∧ u.kilos < 65536)) (hl : a.length + b.length ≤ 100) (j : Nat)
    {s1 s0 sa sb : Str} (h1 : s1 = strF F (secL F (a ++ b)) (addAll (secL F (a ++ b))).a0 (kF (secL F (a ++ b))) j) (h0 : s0 = strF F (secL F []) (addAll (secL F [])).a0 (kF (secL F [])) j) (hsa : sa = strF F (secL F a) (addAll (secL F a)).a0 (kF (secL F a)) j) (hsb : sb = strF F (secL F b) (addAll (secL F b)).a0 (kF (secL F b)) j) :
    (addL s1.shear s0.shear).1 = (addL sa.shear sb.shear).1 ∧ (addL s1.bend s0.bend).1 = (addL sa.bend sb.bend).1 := by
  have B1 := (sec_ok M (a ++ b) (fun u hu => by rcases List.mem_append.1 hu with h | h; exact ha u h; exact hb u h) (by rw [List.length_append]; omega)).2.1
  have B0 := (sec_ok M [] (fun u hu => by cases hu) (by simp)).2.1
  have Ba := (sec_ok M a ha (by omega)).2.1
  have Bb := (sec_ok M b hb (by omega)).2.1
  have hx : (frmX F j).natAbs ≤ 500000 := by
    have := frmX_ok (okFrom_ok none F M.okAll) j
    omega
  rw [h1, h0, hsa, hsb, B1.str j hx, B0.str j hx, Ba.str j hx, Bb.str j hx]
  simp only
  rw [addR (B1.fits ((B1.down j).add (B0.down j)) (by decide)), addR (B1.fits ((Ba.down j).add (Bb.down j)) (by decide)), addR (B1.fits2 ((B1.bend (F := F) j hx).add (B0.bend (F := F) j hx)) (by decide)), addR (B1.fits2 ((Ba.bend (F := F) j hx).add (Bb.bend (F := F) j hx)) (by decide)), down_adds, bend_adds]
  exact ⟨rfl, rfl⟩
end Go.Proofs.Ytcdfnlgimbecgaa
