/-
  What Curve returns, as rational numbers: shear and bending moment. Plain.
-/
import Derived.Test.YtcdfnlgimbecgaaMt46
namespace Go.Proofs.Ytcdfnlgimbecgaa
theorem addR {p q : Rat} (h : FitsR (p + q)) : (addL (ofRat p) (ofRat q)).1 = ofRat (p + q) := by
 unfold addL
 rw [ofRat_right, ofRat_right, Bool.and_self, if_pos rfl, sumL_rat, outR_fits h]
theorem subR {p q : Rat} (h : FitsR (p - q)) : (subL (ofRat p) (ofRat q)).1 = ofRat (p - q) := by
 unfold subL
 rw [ofRat_right, ofRat_right, Bool.and_self, if_pos rfl, negL_rat, sumL_rat, ← Rat.sub_eq_add_neg, outR_fits h]
theorem mulR {p q : Rat} (h : FitsR (p * q)) : (mulL (ofRat p) (ofRat q)).1 = ofRat (p * q) := by
 rw [mulL_rat, outR_fits h]
theorem divR_ {p q : Rat} (hq : q ≠ 0) (h : FitsR (p / q)) : (divL (ofRat p) (ofRat q)).1 = ofRat (p / q) := by
 rw [divL_rat p q hq, outR_fits h]
theorem ratioR {a b : Int} (hb : b ≠ 0) (h : FitsR ((a : Rat) / (b : Rat))) : (ratioL a b).1 = ofRat ((a : Rat) / (b : Rat)) := by
 rw [ratioL_rat a b hb, outR_fits h]
def Bd (D B : Nat) (q : Rat) : Prop := ∃ z : Int, q * (D : Rat) = (z : Rat) ∧ z.natAbs ≤ B
theorem Bd.fits {D B : Nat} {q : Rat} (h : Bd D B q) (hD : D ≠ 0) (hD2 : D < top256) (hB : B < top256) : FitsR q := by
 obtain ⟨z, hz, hb⟩ := h
 have hDr : (D : Rat) ≠ 0 := by
  intro e
  apply hD
  exact_mod_cast e
 have e : q = (z : Rat) / (D : Rat) := by
  rw [← hz]
  grind
 rw [e]
 obtain ⟨h1, h2⟩ := bound_rat (z := z) hD
 exact ⟨by omega, by omega⟩
theorem Bd.mono {D B B' : Nat} {q : Rat} (h : Bd D B q) (hB : B ≤ B') : Bd D B' q := by
 obtain ⟨z, hz, hb⟩ := h
 exact ⟨z, hz, Nat.le_trans hb hB⟩
theorem Bd.add {D B B' : Nat} {p q : Rat} (h : Bd D B p) (h' : Bd D B' q) : Bd D (B + B') (p + q) := by
 obtain ⟨z, hz, hb⟩ := h
 obtain ⟨y, hy, hb'⟩ := h'
 refine ⟨z + y, ?_, ?_⟩
 · rw [Rat.intCast_add, ← hz, ← hy]
   grind
 · have := Int.natAbs_add_le z y
   omega
theorem Bd.sub {D B B' : Nat} {p q : Rat} (h : Bd D B p) (h' : Bd D B' q) : Bd D (B + B') (p - q) := by
 obtain ⟨z, hz, hb⟩ := h
 obtain ⟨y, hy, hb'⟩ := h'
 refine ⟨z - y, ?_, ?_⟩
 · rw [Rat.intCast_sub, ← hz, ← hy]
   grind
 · have := Int.natAbs_sub_le z y
   omega
theorem Bd.mul {D B M : Nat} {p : Rat} (h : Bd D B p) (m : Int) (hm : m.natAbs ≤ M) : Bd D (B * M) (p * (m : Rat)) := by
 obtain ⟨z, hz, hb⟩ := h
 refine ⟨z * m, ?_, ?_⟩
 · rw [Rat.intCast_mul, ← hz]
   grind
 · rw [Int.natAbs_mul]
   exact Nat.mul_le_mul hb hm
theorem Bd.int {D M : Nat} (m : Int) (hm : m.natAbs ≤ M) : Bd D (M * D) (m : Rat) := by
 refine ⟨m * (D : Int), ?_, ?_⟩
 · rw [Rat.intCast_mul, Rat.intCast_natCast]
 · rw [Int.natAbs_mul, Int.natAbs_natCast]
   exact Nat.mul_le_mul_right _ hm
theorem Bd.half {D B : Nat} {p : Rat} (h : Bd D B p) : Bd (2 * D) B (p / 2) := by
 obtain ⟨z, hz, hb⟩ := h
 refine ⟨z, ?_, hb⟩
 rw [← hz]
 push_cast
 grind
def kR (S : List Sec) : Rat := (((addAll S).a1 : Rat) - (((addAll S).a0 * (addAll S).a3 : Int) : Rat) / ((10000 : Int) : Rat)) / ((addAll S).a5 : Rat)
def liftR (S : List Sec) (sh fa : Int) : Rat := (((addAll S).a0 * sh : Int) : Rat) / ((10000 : Int) : Rat) + kR S * (fa : Rat)
def downR (S : List Sec) (j : Nat) : Rat := ((addAll (S.take j)).a0 : Rat) - liftR S (addAll (S.take j)).a2 (addAll (S.take j)).a4
def twiceR (F : List Frm) (S : List Sec) (j : Nat) : Rat := downR S j * ((2 * frmX F j : Int) : Rat) + liftR S (addAll (S.take j)).a3 (addAll (S.take j)).a5 - ((addAll (S.take j)).a1 : Rat)
def bendR (F : List Frm) (S : List Sec) (j : Nat) : Rat := twiceR F S j / ((2 : Int) : Rat)
structure SecB (S : List Sec) (D : Nat) : Prop where
 w : 0 ≤ (addAll S).a0 ∧ (addAll S).a0 ≤ 500000000
 a5 : 0 < (addAll S).a5
 D_ : (D : Int) = 10000 * (addAll S).a5
 sums : ∀ j, (-2000000000000 ≤ (addAll (S.take j)).a0 ∧ (addAll (S.take j)).a0 ≤ 2000000000000) ∧ (-2000000000000000000 ≤ (addAll (S.take j)).a1 ∧ (addAll (S.take j)).a1 ≤ 2000000000000000000) ∧ (-10000 ≤ (addAll (S.take j)).a2 ∧ (addAll (S.take j)).a2 ≤ 10000) ∧ (-10000000000 ≤ (addAll (S.take j)).a3 ∧ (addAll (S.take j)).a3 ≤ 10000000000) ∧ (-1740000000 ≤ (addAll (S.take j)).a4 ∧ (addAll (S.take j)).a4 ≤ 1740000000) ∧ (-1740000000000000 ≤ (addAll (S.take j)).a5 ∧ (addAll (S.take j)).a5 ≤ 1740000000000000)
section
variable {S : List Sec} {D : Nat} (h : SecB S D)
include h
theorem SecB.all : (-2000000000000000000 ≤ (addAll S).a1 ∧ (addAll S).a1 ≤ 2000000000000000000) ∧ (-10000000000 ≤ (addAll S).a3 ∧ (addAll S).a3 ≤ 10000000000) ∧ (addAll S).a5 ≤ 1740000000000000 := by
 have := h.sums S.length
 rw [List.take_length] at this
 omega
theorem SecB.Dpos : D ≠ 0 ∧ D ≤ 17400000000000000000 := by
 have h1 := h.D_
 have h2 := h.a5
 have h3 := h.all
 omega
theorem SecB.fits {B : Nat} {q : Rat} (hq : Bd D B q) (hB : B < top256) : FitsR q := by
 have h1 := h.Dpos
 exact hq.fits h1.1 (Nat.lt_of_le_of_lt h1.2 (by decide)) hB
theorem SecB.ratio (sh : Int) (hs : sh.natAbs ≤ 10000000000) : Bd D 8700000000000000000000000000000000 ((((addAll S).a0 * sh : Int) : Rat) / ((10000 : Int) : Rat)) := by
 refine ⟨(addAll S).a0 * sh * (addAll S).a5, ?_, ?_⟩
 · have e : (D : Rat) = 10000 * ((addAll S).a5 : Rat) := by
    have h1 := h.D_
    have h2 : ((D : Int) : Rat) = ((10000 * (addAll S).a5 : Int) : Rat) := by rw [h1]
    rw [Rat.intCast_natCast, Rat.intCast_mul] at h2
    rw [h2]
    rfl
   rw [e, Rat.intCast_mul]
   have e2 : ((10000 : Int) : Rat) = 10000 := rfl
   rw [e2]
   grind
 · have h1 := h.w
   have h2 := h.all
   have h3 := h.a5
   rw [Int.natAbs_mul, Int.natAbs_mul]
   have a1 : (addAll S).a0.natAbs ≤ 500000000 := by omega
   have a2 : (addAll S).a5.natAbs ≤ 1740000000000000 := by omega
   exact Nat.le_trans (Nat.mul_le_mul (Nat.mul_le_mul a1 hs) a2) (by decide)
theorem SecB.a5ne : ((addAll S).a5 : Rat) ≠ 0 := by
 have := h.a5
 intro e
 have e2 : (addAll S).a5 = 0 := by exact_mod_cast e
 omega
theorem SecB.k : Bd D 30000000000000000000000 (kR S) := by
 refine ⟨10000 * (addAll S).a1 - (addAll S).a0 * (addAll S).a3, ?_, ?_⟩
 · have e : (D : Rat) = 10000 * ((addAll S).a5 : Rat) := by
    have h1 := h.D_
    have h2 : ((D : Int) : Rat) = ((10000 * (addAll S).a5 : Int) : Rat) := by rw [h1]
    rw [Rat.intCast_natCast, Rat.intCast_mul] at h2
    rw [h2]
    rfl
   have e2 : ((10000 : Int) : Rat) = 10000 := rfl
   have hne := h.a5ne
   unfold kR
   rw [e, Rat.intCast_sub, Rat.intCast_mul, Rat.intCast_mul, e2]
   grind
 · have h1 := h.w
   have h2 := h.all
   have a0 := Int.natAbs_sub_le (10000 * (addAll S).a1) ((addAll S).a0 * (addAll S).a3)
   rw [Int.natAbs_mul (addAll S).a0] at a0
   have a10 : (10000 * (addAll S).a1).natAbs ≤ 20000000000000000000000 := by omega
   have a1 : (addAll S).a0.natAbs ≤ 500000000 := by omega
   have a2 : (addAll S).a3.natAbs ≤ 10000000000 := by omega
   have a3 := Nat.mul_le_mul a1 a2
   omega
theorem SecB.lift (sh fa : Int) (hs : sh.natAbs ≤ 10000000000) (hf : fa.natAbs ≤ 1740000000000000) : Bd D 60000000000000000000000000000000000000 (liftR S sh fa) := by
 unfold liftR
 exact ((h.ratio sh hs).add (h.k.mul fa hf)).mono (by decide)
theorem SecB.liftV {kq : FracV} (hk : kq = ofRat (kR S)) (sh fa : Int) (hs : sh.natAbs ≤ 10000000000) (hf : fa.natAbs ≤ 1740000000000000) : liftV (addAll S).a0 kq sh fa = ofRat (liftR S sh fa) := by
 unfold Go.Proofs.Ytcdfnlgimbecgaa.liftV
 subst hk
 have h1 := h.ratio sh hs
 have h2 := h.k.mul fa hf
 rw [ratioR (by decide) (h.fits h1 (by decide)), ofL_rat, mulR (h.fits h2 (by decide)), addR (h.fits (h1.add h2) (by decide))]
 rfl
theorem SecB.kF : kF S = ofRat (kR S) := by
 unfold Go.Proofs.Ytcdfnlgimbecgaa.kF Go.Proofs.Ytcdfnlgimbecgaa.liftV
 have hal := h.all
 have h1 := h.ratio (addAll S).a3 (by omega)
 have h0 : (mulL (ofL 0) (ofL 0)).1 = ofRat 0 := by decide
 have h2 : Bd D 0 (0 : Rat) := ⟨0, by grind, by decide⟩
 have h3 := h1.add h2
 have h4 := (Bd.int (D := D) (M := 2000000000000000000) (addAll S).a1 (by omega)).sub h3
 have hD := h.Dpos
 have hb4 : 2000000000000000000 * D + (8700000000000000000000000000000000 + 0) < top256 := Nat.lt_of_le_of_lt (Nat.add_le_add_right (Nat.mul_le_mul_left _ hD.2) _) (by decide)
 rw [ratioR (by decide) (h.fits h1 (by decide)), h0, addR (h.fits h3 (by decide)), ofL_rat, subR (h.fits h4 hb4), ofL_rat, divR_ h.a5ne]
 · congr 1
   unfold kR
   grind
 · have h5 := h.fits h.k (by decide)
   have e : (((addAll S).a1 : Rat) - ((((addAll S).a0 * (addAll S).a3 : Int) : Rat) / ((10000 : Int) : Rat) + 0)) / ((addAll S).a5 : Rat) = kR S := by
    unfold kR
    grind
   rw [e]
   exact h5
theorem SecB.down (j : Nat) : Bd D 70000000000000000000000000000000000000 (downR S j) := by
 have hs := h.sums j
 have hD := h.Dpos
 unfold downR
 refine ((Bd.int (D := D) (M := 2000000000000) (addAll (S.take j)).a0 (by omega)).sub (h.lift _ _ (by omega) (by omega))).mono ?_
 exact Nat.le_trans (Nat.add_le_add_right (Nat.mul_le_mul_left _ hD.2) _) (by decide)
theorem SecB.downF {l : Nat} : downF S (addAll S).a0 (Go.Proofs.Ytcdfnlgimbecgaa.kF S) l = ofRat (downR S l) := by
 unfold Go.Proofs.Ytcdfnlgimbecgaa.downF
 have hs := h.sums l
 rw [h.liftV h.kF _ _ (by omega) (by omega), ofL_rat, subR (h.fits (h.down l) (by decide))]
 rfl
theorem SecB.arm {F : List Frm} (j : Nat) (hx : (frmX F j).natAbs ≤ 500000) : Bd D 70000000000000000000000000000000000000000000 (downR S j * ((2 * frmX F j : Int) : Rat)) :=
 ((h.down j).mul (2 * frmX F j) (M := 1000000) (by omega)).mono (by decide)
theorem SecB.twice {F : List Frm} (j : Nat) (hx : (frmX F j).natAbs ≤ 500000) : Bd D 90000000000000000000000000000000000000000000 (twiceR F S j) := by
 have hs := h.sums j
 have hD := h.Dpos
 unfold twiceR
 refine (((h.arm j hx).add (h.lift _ _ (by omega) (by omega))).sub (Bd.int (D := D) (M := 2000000000000000000) (addAll (S.take j)).a1 (by omega))).mono ?_
 exact Nat.le_trans (Nat.add_le_add_left (Nat.mul_le_mul_left _ hD.2) _) (by decide)
theorem SecB.bend {F : List Frm} (j : Nat) (hx : (frmX F j).natAbs ≤ 500000) : Bd (2 * D) 90000000000000000000000000000000000000000000 (bendR F S j) := (h.twice j hx).half
theorem SecB.fits2 {B : Nat} {q : Rat} (hq : Bd (2 * D) B q) (hB : B < top256) : FitsR q := by
 have h1 := h.Dpos
 exact hq.fits (by omega) (Nat.lt_of_le_of_lt (Nat.mul_le_mul_left 2 h1.2) (by decide)) hB
theorem SecB.str {F : List Frm} (j : Nat) (hx : (frmX F j).natAbs ≤ 500000) : strF F S (addAll S).a0 (Go.Proofs.Ytcdfnlgimbecgaa.kF S) j = ⟨ofRat (downR S j), ofRat (bendR F S j)⟩ := by
 have hs := h.sums j
 have h1 := h.arm j hx
 have h2 := h1.add (h.lift (addAll (S.take j)).a3 (addAll (S.take j)).a5 (by omega) (by omega))
 unfold strF twiceF armF
 rw [h.downF, ofL_rat, mulR (h.fits h1 (by decide)), h.liftV h.kF _ _ (by omega) (by omega), addR (h.fits h2 (by decide)), ofL_rat, subR (h.fits (h.twice (F := F) j hx) (by decide)), ofL_rat]
 show Str.mk (ofRat (downR S j)) (divL (ofRat (twiceR F S j)) (ofRat ((2 : Int) : Rat))).1 = _
 rw [divR_ (by decide) (h.fits2 (h.bend j hx) (by decide))]
 rfl
end
def IsQ (E B : Nat) (f : FracV) (q : Rat) : Prop := f = ofRat q ∧ Bd E B q
structure OkE (E : Nat) : Prop where
 ne : E ≠ 0
 lt : E < top256
theorem IsQ.mono {E B B' : Nat} {f : FracV} {q : Rat} (h : IsQ E B f q) (hB : B ≤ B') : IsQ E B' f q := ⟨h.1, h.2.mono hB⟩
theorem IsQ.add {E B B' : Nat} {f g : FracV} {p q : Rat} (hE : OkE E) (h : IsQ E B f p) (h' : IsQ E B' g q) (hB : B + B' < top256) : IsQ E (B + B') (addL f g).1 (p + q) := by
 have h1 := h.2.add h'.2
 refine ⟨?_, h1⟩
 rw [h.1, h'.1, addR (h1.fits hE.ne hE.lt hB)]
theorem IsQ.sub {E B B' : Nat} {f g : FracV} {p q : Rat} (hE : OkE E) (h : IsQ E B f p) (h' : IsQ E B' g q) (hB : B + B' < top256) : IsQ E (B + B') (subL f g).1 (p - q) := by
 have h1 := h.2.sub h'.2
 refine ⟨?_, h1⟩
 rw [h.1, h'.1, subR (h1.fits hE.ne hE.lt hB)]
theorem IsQ.int {E K : Nat} (m : Int) (hm : m.natAbs ≤ K) : IsQ E (K * E) (ofL m) (m : Rat) := ⟨ofL_rat m, Bd.int m hm⟩
theorem IsQ.muli {E B K : Nat} {f : FracV} {p : Rat} (hE : OkE E) (h : IsQ E B f p) (m : Int) (hm : m.natAbs ≤ K) (hB : B * K < top256) : IsQ E (B * K) (mulL f (ofL m)).1 (p * (m : Rat)) := by
 have h1 := h.2.mul m hm
 refine ⟨?_, h1⟩
 rw [h.1, ofL_rat, mulR (h1.fits hE.ne hE.lt hB)]
theorem Bd.halfm {D B K : Nat} {p : Rat} (h : Bd D B p) (m : Int) (hm : m.natAbs ≤ K) : Bd (2 * D) (B * K) (p * ((m : Rat) / ((2 : Int) : Rat))) := by
 obtain ⟨z, hz, hb⟩ := h
 refine ⟨z * m, ?_, ?_⟩
 · rw [Rat.intCast_mul, ← hz]
   push_cast
   grind
 · rw [Int.natAbs_mul]
   exact Nat.mul_le_mul hb hm
theorem IsQ.half {D K : Nat} (hE : OkE (2 * D)) (m : Int) (hm : m.natAbs ≤ K) (hK : K * D < top256) : IsQ (2 * D) (K * D) (divL (ofL m) (ofL 2)).1 ((m : Rat) / ((2 : Int) : Rat)) := by
 have h1 : Bd (2 * D) (K * D) ((m : Rat) / ((2 : Int) : Rat)) := by
  refine ⟨m * (D : Int), ?_, ?_⟩
  · rw [Rat.intCast_mul, Rat.intCast_natCast]
    push_cast
    grind
  · rw [Int.natAbs_mul, Int.natAbs_natCast]
    exact Nat.mul_le_mul_right _ hm
 refine ⟨?_, h1⟩
 rw [ofL_rat, ofL_rat, divR_ (by decide) (h1.fits hE.ne hE.lt hK)]
theorem IsQ.mulh {D B K : Nat} {f g : FracV} {p : Rat} (hE : OkE (2 * D)) (h : IsQ D B f p) {m : Int} (hg : g = ofRat ((m : Rat) / ((2 : Int) : Rat))) (hm : m.natAbs ≤ K) (hB : B * K < top256) : IsQ (2 * D) (B * K) (mulL f g).1 (p * ((m : Rat) / ((2 : Int) : Rat))) := by
 have h1 := h.2.halfm m hm
 refine ⟨?_, h1⟩
 rw [h.1, hg, mulR (h1.fits hE.ne hE.lt hB)]
theorem IsQ.eq {E B : Nat} {f : FracV} {p q : Rat} (h : IsQ E B f p) (e : p = q) : IsQ E B f q := e ▸ h
theorem Sec.add_comm (a b : Sec) : a.add b = b.add a := by
 unfold Sec.add
 rw [Sec.mk.injEq]
 omega
theorem Sec.add_assoc (a b c : Sec) : (a.add b).add c = a.add (b.add c) := by
 unfold Sec.add
 rw [Sec.mk.injEq]
 simp only
 omega
theorem Sec.add_zero (a : Sec) : a.add Sec.zero = a := by
 cases a
 unfold Sec.add Sec.zero
 rw [Sec.mk.injEq]
 simp only
 omega
theorem Sec.zero_add (a : Sec) : Sec.zero.add a = a := by rw [Sec.add_comm, Sec.add_zero]
def wsum (F : List Frm) (i : Nat) : List Wt → Sec
 | [] => Sec.zero
 | u :: ws => (if idxF F u.x = i + 1 then wtSec u else Sec.zero).add (wsum F i ws)
theorem wsum_append (F : List Frm) (i : Nat) : ∀ a b : List Wt, wsum F i (a ++ b) = (wsum F i a).add (wsum F i b)
 | [], b => by rw [List.nil_append]; exact (Sec.zero_add _).symm
 | u :: a, b => by
  rw [List.cons_append]
  show (Sec.add _ (wsum F i (a ++ b))) = _
  rw [wsum_append F i a b, ← Sec.add_assoc]
  rfl
theorem wsum_reverse (F : List Frm) (i : Nat) : ∀ a : List Wt, wsum F i a.reverse = wsum F i a
 | [] => rfl
 | u :: a => by
  rw [List.reverse_cons, wsum_append, wsum_reverse F i a, Sec.add_comm]
  show Sec.add (Sec.add _ Sec.zero) _ = _
  rw [Sec.add_zero]
  rfl
theorem wsum_part {f : Sec → Int} (hf : Part f) (h0 : ∀ u, f (wtSec u) = 0) (F : List Frm) (i : Nat) : ∀ a : List Wt, f (wsum F i a) = 0
 | [] => hf.zero
 | u :: a => by
  show f (Sec.add _ _) = 0
  rw [hf.add, wsum_part hf h0 F i a]
  split
  · rw [h0]; rfl
  · rw [hf.zero]; rfl
theorem wput_get {F : List Frm} {n : Nat} : ∀ (ws : List Wt) (S S' : List Sec), S.length = n → putAllW F n S ws = some S' → S'.length = n ∧ ∀ i, i < n → S'.getD i Sec.zero = (S.getD i Sec.zero).add (wsum F i ws)
 | [], S, S', hS, h => by
  injection h with h
  subst h
  exact ⟨hS, fun i _ => (Sec.add_zero _).symm⟩
 | u :: ws, S, S', hS, h => by
  unfold putAllW putW at h
  by_cases hc : idxF F u.x = 0 ∨ n < idxF F u.x
  · rw [if_pos hc] at h
    cases h
  · rw [if_neg hc] at h
    obtain ⟨h1, h2⟩ := wput_get ws _ S' (by rw [List.length_set]; exact hS) h
    refine ⟨h1, fun i hi => ?_⟩
    rw [h2 i hi]
    show _ = (S.getD i Sec.zero).add (Sec.add _ _)
    rw [← Sec.add_assoc]
    congr 1
    by_cases he : idxF F u.x = i + 1
    · rw [if_pos he, he, Nat.add_sub_cancel]
      simp [List.getD_eq_getElem?_getD, List.getElem?_set_self (show i < S.length by omega)]
    · rw [if_neg he, Sec.add_zero]
      simp [List.getD_eq_getElem?_getD, List.getElem?_set_ne (show idxF F u.x - 1 ≠ i by omega)]
def secL (F : List Frm) (ws : List Wt) : List Sec := (List.range (F.length - 1)).map fun i => (secBase F (F.length - 1) (allX F (F.length - 1)) i).add (wsum F i ws)
theorem secL_len (F : List Frm) (ws : List Wt) : (secL F ws).length = F.length - 1 := by simp [secL]
theorem sections_secL {F : List Frm} {ws : List Wt} {S : List Sec} (h : sectionsF F ws = some S) : S = secL F ws := by
 obtain ⟨h1, h2⟩ := wput_get ws _ S (baseS_len F) h
 apply List.ext_getElem
 · rw [h1, secL_len]
 · intro i hi hi'
   have h3 := h2 i (by omega)
   have e1 : S.getD i Sec.zero = S[i] := by simp [hi]
   have hb : i < (baseS F).length := by rw [baseS_len]; omega
   have e2 : (baseS F).getD i Sec.zero = secBase F (F.length - 1) (allX F (F.length - 1)) i := by
    rw [List.getD_eq_getElem?_getD, List.getElem?_eq_getElem hb]
    simp [baseS]
   rw [e1, e2] at h3
   rw [h3]
   simp [secL]
def preH (f : Sec → Int) (F : List Frm) (j : Nat) : Int := sumSec f ((List.range (min j (F.length - 1))).map (secBase F (F.length - 1) (allX F (F.length - 1))))
def preW (f : Sec → Int) (F : List Frm) (ws : List Wt) (j : Nat) : Int := sumSec f ((List.range (min j (F.length - 1))).map fun i => wsum F i ws)
theorem sumSec_add {f : Sec → Int} (hf : Part f) (g h : Nat → Sec) : ∀ is : List Nat, sumSec f (is.map fun i => (g i).add (h i)) = sumSec f (is.map g) + sumSec f (is.map h)
 | [] => rfl
 | i :: is => by
  simp only [List.map_cons, sumSec_cons, hf.add]
  rw [sumSec_add hf g h is]
  omega
theorem pre_sum {f : Sec → Int} (hf : Part f) (F : List Frm) (ws : List Wt) (j : Nat) : f (addAll ((secL F ws).take j)) = preH f F j + preW f F ws j := by
 rw [addAll_sum hf]
 unfold secL preH preW
 rw [← List.map_take, List.take_range, sumSec_add hf]
theorem all_sum {f : Sec → Int} (hf : Part f) (F : List Frm) (ws : List Wt) : f (addAll (secL F ws)) = preH f F (F.length - 1) + preW f F ws (F.length - 1) := by
 have h := pre_sum hf F ws (F.length - 1)
 rw [List.take_of_length_le (by rw [secL_len]; exact Nat.le_refl _)] at h
 exact h
theorem preW_append {f : Sec → Int} (hf : Part f) (F : List Frm) (a b : List Wt) (j : Nat) : preW f F (a ++ b) j = preW f F a j + preW f F b j := by
 unfold preW
 rw [← sumSec_add hf]
 congr 2
 funext i
 exact wsum_append F i a b
theorem preW_nil {f : Sec → Int} (hf : Part f) (F : List Frm) (j : Nat) : preW f F [] j = 0 := by
 have h := preW_append hf F [] [] j
 rw [List.nil_append] at h
 omega
theorem preW_zero {f : Sec → Int} (hf : Part f) (h0 : ∀ u, f (wtSec u) = 0) (F : List Frm) (ws : List Wt) (j : Nat) : preW f F ws j = 0 := by
 unfold preW
 generalize List.range (min j (F.length - 1)) = is
 induction is with
 | nil => rfl
 | cons i is ih =>
  rw [List.map_cons, sumSec_cons, ih, wsum_part hf h0]
  rfl
theorem sq_nonneg (x : Int) : 0 ≤ x * x := by
 rcases Int.le_total 0 x with h | h
 · exact Int.mul_nonneg h h
 · exact Int.mul_nonneg_of_nonpos_of_nonpos h h
theorem sq_pos {x : Int} (h : x ≠ 0) : 0 < x * x := by
 have h1 := sq_nonneg x
 have h2 : x * x ≠ 0 := fun e => by
  rcases Int.mul_eq_zero.1 e with h3 | h3 <;> exact h h3
 omega
def sqX (l : List Frm) : Nat → Int
 | 0 => 0
 | k + 1 => sqX l k + hX l k * hX l k
def farX (l : List Frm) (h : Int) : Nat → Int
 | 0 => 0
 | k + 1 => farX l h k + (h - hX l k) * (h - hX l k)
theorem farX_eq (l : List Frm) (h : Int) : ∀ k : Nat, farX l h k = sqX l k - 2 * h * allX l k + k * (h * h)
 | 0 => by simp [farX, sqX, allX]
 | k + 1 => by
  unfold farX sqX allX
  rw [farX_eq l h k]
  push_cast
  grind
theorem farX_nonneg (l : List Frm) (h : Int) : ∀ k, 0 ≤ farX l h k
 | 0 => by simp [farX]
 | k + 1 => by
  unfold farX
  have := farX_nonneg l h k
  have := sq_nonneg (h - hX l k)
  omega
theorem farX_pos (l : List Frm) (h : Int) (h0 : h ≠ hX l 0) : ∀ k, 0 < k → 0 < farX l h k
 | 1, _ => by
  unfold farX farX
  have := sq_pos (x := h - hX l 0) (by omega)
  omega
 | k + 2, _ => by
  unfold farX
  have := farX_pos l h h0 (k + 1) (by omega)
  have := sq_nonneg (h - hX l (k + 1))
  omega
theorem var_step (l : List Frm) (k : Nat) : ((k + 1 : Nat) : Int) * sqX l (k + 1) - allX l (k + 1) * allX l (k + 1) = (k * sqX l k - allX l k * allX l k) + farX l (hX l k) k := by
 rw [farX_eq]
 show ((k + 1 : Nat) : Int) * (sqX l k + hX l k * hX l k) - (allX l k + hX l k) * (allX l k + hX l k) = _
 push_cast
 grind
theorem var_nonneg (l : List Frm) : ∀ k : Nat, 0 ≤ (k : Int) * sqX l k - allX l k * allX l k
 | 0 => by simp [sqX, allX]
 | k + 1 => by
  rw [var_step]
  have := var_nonneg l k
  have := farX_nonneg l (hX l k) k
  omega
theorem var_pos (l : List Frm) (k : Nat) (hk : 0 < k) (h : hX l k ≠ hX l 0) : 0 < ((k + 1 : Nat) : Int) * sqX l (k + 1) - allX l (k + 1) * allX l (k + 1) := by
 rw [var_step]
 have := var_nonneg l k
 have := farX_pos l (hX l k) h k hk
 omega
theorem a5_sum (l : List Frm) (n : Nat) (all : Int) : ∀ k, sumSec Sec.a5 ((List.range k).map (secBase l n all)) = n * sqX l k - all * allX l k
 | 0 => by simp [sumSec, sqX, allX]
 | k + 1 => by
  have e : ∀ (S : List Sec) (a : Sec), sumSec Sec.a5 (S ++ [a]) = sumSec Sec.a5 S + a.a5 := by
   intro S a
   induction S with
   | nil => simp [sumSec]
   | cons b S ih2 => rw [List.cons_append, sumSec_cons, sumSec_cons, ih2]; omega
  rw [List.range_succ, List.map_append, List.map_singleton, e, a5_sum l n all k]
  show _ + ((n : Int) * hX l k - all) * hX l k = (n : Int) * (sqX l k + hX l k * hX l k) - all * (allX l k + hX l k)
  grind
theorem a5_pos {l : List Frm} (ho : ordF l) (h3 : 3 ≤ l.length) (ws : List Wt) : 0 < (addAll (secL l ws)).a5 := by
 have h := all_sum part5 l ws
 rw [preW_zero part5 (fun _ => rfl)] at h
 unfold preH at h
 rw [Nat.min_self, a5_sum] at h
 obtain ⟨k, hk⟩ : ∃ k, l.length - 1 = k + 1 := ⟨l.length - 2, by omega⟩
 rw [hk] at h
 have h1 : hX l k ≠ hX l 0 := by
  unfold hX
  have e : ∀ i, i < l.length → ∀ (hi : i < l.length), frmX l i = l[i].x := fun i _ hi => frmX_get hi
  rw [frmX_get (show k < l.length by omega), frmX_get (show k + 1 < l.length by omega), frmX_get (show 0 < l.length by omega), frmX_get (show 0 + 1 < l.length by omega)]
  have q1 := ho 0 1 (by omega) (by omega) (by omega)
  have q2 := ho 0 k (by omega) (by omega) (by omega)
  have q3 := ho 1 (k + 1) (by omega) (by omega) (by omega)
  simp only [Nat.zero_add] at *
  omega
 have := var_pos l k (by omega) h1
 omega
theorem okFrom_ordF {l : List Frm} (h : okFrom none l = true) : ordF l := (okFrom_ord l none h).1
def dF (F : List Frm) : Nat := (10000 * (addAll (secL F [])).a5).toNat
theorem a5_same (F : List Frm) (ws : List Wt) : (addAll (secL F ws)).a5 = (addAll (secL F [])).a5 := by
 rw [all_sum part5, all_sum part5, preW_zero part5 (fun _ => rfl), preW_zero part5 (fun _ => rfl)]
section
variable (F : List Frm) (a b : List Wt) (j : Nat)
theorem pre_same {f : Sec → Int} (hf : Part f) (h0 : ∀ u, f (wtSec u) = 0) (ws : List Wt) : f (addAll ((secL F ws).take j)) = preH f F j := by
 rw [pre_sum hf, preW_zero hf h0]
 omega
theorem tot_same {f : Sec → Int} (hf : Part f) (h0 : ∀ u, f (wtSec u) = 0) (ws : List Wt) : f (addAll (secL F ws)) = preH f F (F.length - 1) := by
 rw [all_sum hf, preW_zero hf h0]
 omega
end
theorem a4_sum (l : List Frm) (n : Nat) (all : Int) : ∀ k : Nat, sumSec Sec.a4 ((List.range k).map (secBase l n all)) = n * allX l k - k * all
 | 0 => by simp [sumSec, allX]
 | k + 1 => by
  have e : ∀ (S : List Sec) (a : Sec), sumSec Sec.a4 (S ++ [a]) = sumSec Sec.a4 S + a.a4 := by
   intro S a
   induction S with
   | nil => simp [sumSec]
   | cons b S ih2 => rw [List.cons_append, sumSec_cons, sumSec_cons, ih2]; omega
  rw [List.range_succ, List.map_append, List.map_singleton, e, a4_sum l n all k]
  show _ + ((n : Int) * hX l k - all) = (n : Int) * (allX l k + hX l k) - ((k + 1 : Nat) : Int) * all
  push_cast
  grind
theorem a4_all (G : List Frm) (ws : List Wt) : (addAll (secL G ws)).a4 = 0 := by
 rw [all_sum part4, preW_zero part4 (fun _ => rfl)]
 unfold preH
 rw [Nat.min_self, a4_sum]
 grind
theorem a2_sum : ∀ (l : List Frm) (n : Nat) (all : Int) (k : Nat), k ≤ l.length → sumSec Sec.a2 ((List.range k).map (secBase l n all)) = shareF (l.take k) := by
 intro l n all k
 induction k with
 | zero => intro _; simp [sumSec, shareF]
 | succ k ih =>
  intro h
  have e : ∀ (S : List Sec) (a : Sec), sumSec Sec.a2 (S ++ [a]) = sumSec Sec.a2 S + a.a2 := by
   intro S a
   induction S with
   | nil => simp [sumSec]
   | cons b S ih2 => rw [List.cons_append, sumSec_cons, sumSec_cons, ih2]; omega
  rw [List.range_succ, List.map_append, List.map_singleton, e, ih (by omega), List.take_succ_eq_append_getElem (by omega), shareF_snoc]
  congr 1
  show (l.getD k frm0).share = _
  simp [show k < l.length by omega]
theorem a2_all {G : List Frm} (hR : rightF G = true) (ws : List Wt) : (addAll (secL G ws)).a2 = 10000 := by
 obtain ⟨p1, p2, p3, p4⟩ := rightF_parts hR
 rw [all_sum part2, preW_zero part2 (fun _ => rfl)]
 unfold preH
 rw [Nat.min_self, a2_sum _ _ _ _ (by omega)]
 have hne : G ≠ [] := by intro e; rw [e] at p1; simp at p1
 have hl : (lastF G).share = 0 := by
  unfold rightF at hR
  simp only [Bool.and_eq_true, decide_eq_true_eq] at hR
  exact hR.2
 have e : G = G.take (G.length - 1) ++ [lastF G] := by
  have h1 := List.dropLast_concat_getLast hne
  rw [List.dropLast_eq_take] at h1
  unfold lastF
  rw [List.getLastD_eq_getLast?, List.getLast?_eq_some_getLast hne]
  exact h1.symm
 have h2 : shareF G = shareF (G.take (G.length - 1)) + (lastF G).share := by
  conv => lhs; rw [e]
  rw [shareF_snoc]
 omega
theorem liftR_add (S : List Sec) (a b c d : Int) : liftR S (a + b) (c + d) = liftR S a c + liftR S b d := by
 unfold liftR
 rw [Rat.intCast_mul, Rat.intCast_mul, Rat.intCast_mul, Rat.intCast_add, Rat.intCast_add]
 generalize kR S = k
 have e : ((10000 : Int) : Rat) = 10000 := rfl
 rw [e]
 grind
theorem lift_all {S : List Sec} (h5 : ((addAll S).a5 : Rat) ≠ 0) : liftR S (addAll S).a3 (addAll S).a5 = ((addAll S).a1 : Rat) := by
 unfold liftR kR
 rw [Rat.div_def _ ((addAll S).a5 : Rat)]
 have e := Rat.inv_mul_cancel _ h5
 generalize ((addAll S).a5 : Rat)⁻¹ = i at *
 grind
theorem lift_W {S : List Sec} : liftR S 10000 0 = ((addAll S).a0 : Rat) := by
 unfold liftR
 rw [Rat.intCast_mul]
 generalize kR S = k
 have e : ((10000 : Int) : Rat) = 10000 := rfl
 have e0 : ((0 : Int) : Rat) = 0 := rfl
 rw [e, e0]
 grind
theorem lift_times (S : List Sec) (sh fa hh : Int) : liftR S sh fa * (hh : Rat) = liftR S (sh * hh) (fa * hh) := by
 unfold liftR
 rw [Rat.intCast_mul, Rat.intCast_mul, Rat.intCast_mul, Rat.intCast_mul]
 generalize kR S = k
 have e : ((10000 : Int) : Rat) = 10000 := rfl
 rw [e]
 grind
theorem splits_ex {F : List Frm} (ho : ordF F) (y : Int) : ∀ n, n ≤ F.length → ∃ i, i ≤ n ∧ (∀ j (hj : j < F.length), j < i → F[j].x ≤ y) ∧ ∀ j (hj : j < F.length), i ≤ j → j < n → y < F[j].x
 | 0, _ => ⟨0, Nat.le_refl _, fun j _ h => by omega, fun j _ _ h => by omega⟩
 | n + 1, hn => by
  obtain ⟨i, h1, h2, h3⟩ := splits_ex ho y n (by omega)
  rcases Nat.lt_or_ge i n with h | h
  · refine ⟨i, by omega, h2, fun j hj hij hjn => ?_⟩
    rcases Nat.lt_or_ge j n with h4 | h4
    · exact h3 j hj hij h4
    · obtain rfl : j = n := by omega
      have h5 := h3 i (by omega) (Nat.le_refl _) h
      have h6 := ho i j h hj (by omega)
      omega
  · obtain rfl : i = n := by omega
    by_cases hx : (F[i]'(by omega)).x ≤ y
    · refine ⟨i + 1, Nat.le_refl _, fun j hj hji => ?_, fun j hj h4 h5 => by omega⟩
      rcases Nat.lt_or_ge j i with h4 | h4
      · exact h2 j hj h4
      · obtain rfl : j = i := by omega
        exact hx
    · refine ⟨i, by omega, h2, fun j hj h4 h5 => ?_⟩
      obtain rfl : j = i := by omega
      omega
theorem idx_splits {F : List Frm} (ho : ordF F) (y : Int) : Splits F y (idxF F y) := by
 obtain ⟨i, h1, h2, h3⟩ := splits_ex ho y F.length (Nat.le_refl _)
 have hs : Splits F y i := ⟨h1, h2, fun j hj hij => h3 j hj hij hj⟩
 rw [← splits_idx hs]
 exact hs
theorem out_idx {l : List Frm} (ho : ordF l) (h3 : 3 ≤ l.length) (u : Wt) : outF l u = false ↔ idxF l u.x ≠ 0 ∧ idxF l u.x ≤ l.length - 1 := by
 obtain ⟨h1, h2, h4⟩ := idx_splits ho u.x
 unfold outF
 rw [frmX_get (show 0 < l.length by omega), frmX_get (show l.length - 1 < l.length by omega)]
 simp only [Bool.or_eq_false_iff, decide_eq_false_iff_not]
 constructor
 · rintro ⟨a, b⟩
   constructor
   · intro e
     exact a (h4 0 (by omega) (by omega))
   · rcases Nat.lt_or_ge (l.length - 1) (idxF l u.x) with h | h
     · exact absurd (h2 (l.length - 1) (by omega) h) b
     · exact h
 · rintro ⟨a, b⟩
   have q1 := h2 0 (by omega) (by omega)
   have q2 := h4 (l.length - 1) (by omega) b
   omega
theorem putAll_out {l : List Frm} {n : Nat} : ∀ (ws : List Wt) (S : List Sec), (∃ u ∈ ws, idxF l u.x = 0 ∨ n < idxF l u.x) → putAllW l n S ws = none
 | [], _, h => by obtain ⟨u, hu, _⟩ := h; cases hu
 | v :: ws, S, h => by
  unfold putAllW putW
  by_cases hc : idxF l v.x = 0 ∨ n < idxF l v.x
  · rw [if_pos hc]
  · rw [if_neg hc]
    refine putAll_out ws _ ?_
    obtain ⟨u, hu, h1⟩ := h
    rcases List.mem_cons.1 hu with rfl | h2
    · exact absurd h1 hc
    · exact ⟨u, h2, h1⟩
theorem sumSec_snoc (f : Sec → Int) (a : Sec) : ∀ S : List Sec, sumSec f (S ++ [a]) = sumSec f S + f a
 | [] => by show f a + 0 = 0 + f a; omega
 | b :: S => by rw [List.cons_append, sumSec_cons, sumSec_cons, sumSec_snoc f a S]; omega
theorem preH_succ (f : Sec → Int) {l : List Frm} {j : Nat} (h : j < l.length - 1) : preH f l (j + 1) = preH f l j + f (secBase l (l.length - 1) (allX l (l.length - 1)) j) := by
 unfold preH
 rw [Nat.min_eq_left (by omega), Nat.min_eq_left (by omega), List.range_succ, List.map_append]
 exact sumSec_snoc f _ _
theorem preH_zero (f : Sec → Int) (l : List Frm) : preH f l 0 = 0 := by
 unfold preH
 rw [Nat.zero_min]
 rfl
theorem one_sum {f : Sec → Int} (hf : Part f) (F : List Frm) (u : Wt) : ∀ m : Nat, sumSec f ((List.range m).map fun i => wsum F i [u]) = if idxF F u.x ≠ 0 ∧ idxF F u.x ≤ m then f (wtSec u) else 0
 | 0 => by
  rw [if_neg (by omega)]
  rfl
 | m + 1 => by
  rw [List.range_succ, List.map_append, List.map_singleton, sumSec_snoc, one_sum hf F u m]
  have e : wsum F m [u] = (if idxF F u.x = m + 1 then wtSec u else Sec.zero) := Sec.add_zero _
  rw [e]
  by_cases h : idxF F u.x = m + 1
  · rw [if_pos h, if_neg (by omega), if_pos (by omega)]
    omega
  · rw [if_neg h, hf.zero]
    by_cases h1 : idxF F u.x ≠ 0 ∧ idxF F u.x ≤ m
    · rw [if_pos h1, if_pos (by omega)]
      omega
    · rw [if_neg h1, if_neg (by omega)]
      rfl
def sumLt (f : Sec → Int) (y : Int) : List Wt → Int
 | [] => 0
 | u :: ws => (if u.x < y then f (wtSec u) else 0) + sumLt f y ws
def geK (y : Int) : List Wt → Int
 | [] => 0
 | u :: ws => (if y ≤ u.x then u.kilos else 0) + geK y ws
def geM (y : Int) : List Wt → Int
 | [] => 0
 | u :: ws => (if y ≤ u.x then u.kilos * (u.x - y) else 0) + geM y ws
theorem geK_snoc (y : Int) (u : Wt) : ∀ ws, geK y (ws ++ [u]) = geK y ws + if y ≤ u.x then u.kilos else 0
 | [] => by show _ + 0 = 0 + _; omega
 | v :: ws => by rw [List.cons_append]; show _ + geK y (ws ++ [u]) = (_ + geK y ws) + _; rw [geK_snoc y u ws]; omega
theorem geM_snoc (y : Int) (u : Wt) : ∀ ws, geM y (ws ++ [u]) = geM y ws + if y ≤ u.x then u.kilos * (u.x - y) else 0
 | [] => by show _ + 0 = 0 + _; omega
 | v :: ws => by rw [List.cons_append]; show _ + geM y (ws ++ [u]) = (_ + geM y ws) + _; rw [geM_snoc y u ws]; omega
theorem sumWt_cons (f : Sec → Int) (u : Wt) (ws : List Wt) : sumWt f (u :: ws) = f (wtSec u) + sumWt f ws := rfl
theorem geK_eq (y : Int) : ∀ ws, geK y ws = sumWt Sec.a0 ws - sumLt Sec.a0 y ws
 | [] => rfl
 | u :: ws => by
  rw [sumWt_cons]
  show _ + geK y ws = u.kilos + sumWt Sec.a0 ws - (_ + sumLt Sec.a0 y ws)
  rw [geK_eq y ws]
  show (if y ≤ u.x then u.kilos else 0) + _ = _ - ((if u.x < y then u.kilos else 0) + _)
  by_cases h : y ≤ u.x
  · rw [if_pos h, if_neg (by omega)]; omega
  · rw [if_neg h, if_pos (by omega)]; omega
theorem geM_eq (y : Int) : ∀ ws, 2 * geM y ws = (sumWt Sec.a1 ws - sumLt Sec.a1 y ws) - 2 * y * (sumWt Sec.a0 ws - sumLt Sec.a0 y ws)
 | [] => by show 2 * 0 = (0 - 0) - 2 * y * (0 - 0); simp
 | u :: ws => by
  have ih := geM_eq y ws
  rw [sumWt_cons, sumWt_cons]
  show 2 * ((if y ≤ u.x then u.kilos * (u.x - y) else 0) + geM y ws) = (2 * u.kilos * u.x + sumWt Sec.a1 ws - ((if u.x < y then 2 * u.kilos * u.x else 0) + sumLt Sec.a1 y ws)) - 2 * y * (u.kilos + sumWt Sec.a0 ws - ((if u.x < y then u.kilos else 0) + sumLt Sec.a0 y ws))
  by_cases h : y ≤ u.x
  · rw [if_pos h, if_neg (by omega), if_neg (by omega)]
    generalize sumWt Sec.a1 ws = A at *
    generalize sumLt Sec.a1 y ws = B at *
    generalize sumWt Sec.a0 ws = C at *
    generalize sumLt Sec.a0 y ws = E at *
    generalize geM y ws = G at *
    grind
  · rw [if_neg h, if_pos (by omega), if_pos (by omega)]
    generalize sumWt Sec.a1 ws = A at *
    generalize sumLt Sec.a1 y ws = B at *
    generalize sumWt Sec.a0 ws = C at *
    generalize sumLt Sec.a0 y ws = E at *
    generalize geM y ws = G at *
    grind
theorem preW_lt {f : Sec → Int} (hf : Part f) {l : List Frm} (ho : ordF l) {j : Nat} (hj : j ≤ l.length - 1) (h3 : 3 ≤ l.length) : ∀ ws : List Wt, (∀ u ∈ ws, outF l u = false) → preW f l ws j = sumLt f (frmX l j) ws
 | [], _ => preW_nil hf l j
 | u :: ws, h => by
  have ih := preW_lt hf ho hj h3 ws (fun v hv => h v (by simp [hv]))
  have h1 := preW_append hf l [u] ws j
  rw [List.singleton_append] at h1
  rw [h1, ih]
  show _ = (if u.x < frmX l j then f (wtSec u) else 0) + sumLt f (frmX l j) ws
  congr 1
  unfold preW
  rw [one_sum hf, Nat.min_eq_left hj]
  have hu := (out_idx ho h3 u).1 (h u (by simp))
  obtain ⟨_, h2, h4⟩ := idx_splits ho u.x
  have e := frmX_get (l := l) (i := j) (by omega)
  by_cases hx : u.x < frmX l j
  · rw [if_pos hx, if_pos]
    refine ⟨hu.1, ?_⟩
    rcases Nat.lt_or_ge j (idxF l u.x) with h5 | h5
    · have := h2 j (by omega) h5
      omega
    · exact h5
  · rw [if_neg hx, if_neg]
    rintro ⟨_, h5⟩
    have := h4 j (by omega) h5
    omega
end Go.Proofs.Ytcdfnlgimbecgaa
