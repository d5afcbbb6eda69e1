/-
  Fractions of numbers below 2^256: what the operations are, in plain Lean, no program.
  The fractions of XFracL are the rational numbers: plain Lean, no program.
  Numbers of frac (limbs of 32 bits) and of its reference (digits to the base 65536), and fractions, as they lie in memory.
  frac: trim, one, plus.
-/
import Derived.Test.YtcdfnlgimbecgaaMg5
import Derived.Test.YtcdfnlgimbecgaaRows

namespace Go.Proofs.Ytcdfnlgimbecgaa

/-- a fraction as it lies in memory: any sign, any two numbers below 2^256 -/
structure FracV where
  neg : Bool
  num : Nat
  den : Nat
deriving DecidableEq

abbrev top256 : Nat := 115792089237316195423570985008687907853269984665640564039457584007913129639936

def FracV.fits (f : FracV) : Prop := f.num < top256 ∧ f.den < top256
def FracV.right (f : FracV) : Bool := decide (f.den ≠ 0) && decide (Nat.gcd f.num f.den = 1) && !(f.neg && decide (f.num = 0))
def zeroF : FracV := ⟨false, 0, 0⟩

/-- the right fraction of a numerator and a denominator, or the error -/
def fitL (neg : Bool) (n d : Nat) : FracV × Int :=
  if n / Nat.gcd n d < top256 ∧ d / Nat.gcd n d < top256 then (⟨neg && decide (n / Nat.gcd n d ≠ 0), n / Nat.gcd n d, d / Nat.gcd n d⟩, 0) else (zeroF, 3)

def negL (f : FracV) : FracV := ⟨!f.neg && decide (f.num ≠ 0), f.num, f.den⟩
def sumL (f g : FracV) : FracV × Int :=
  if f.neg = g.neg then fitL f.neg (f.num * g.den + g.num * f.den) (f.den * g.den)
  else if f.num * g.den < g.num * f.den then fitL g.neg (g.num * f.den - f.num * g.den) (f.den * g.den)
  else fitL f.neg (f.num * g.den - g.num * f.den) (f.den * g.den)
def addL (f g : FracV) : FracV × Int := if f.right && g.right then sumL f g else (zeroF, 2)
def subL (f g : FracV) : FracV × Int := if f.right && g.right then sumL f (negL g) else (zeroF, 2)
def mulL (f g : FracV) : FracV × Int := if f.right && g.right then fitL (f.neg != g.neg) (f.num * g.num) (f.den * g.den) else (zeroF, 2)
def divL (f g : FracV) : FracV × Int := if f.right && g.right && decide (g.num ≠ 0) then fitL (f.neg != g.neg) (f.num * g.den) (f.den * g.num) else (zeroF, 2)
def ratioL (a b : Int) : FracV × Int := if b = 0 then (zeroF, 2) else fitL (decide (a < 0) != decide (b < 0)) a.natAbs b.natAbs
def ofL (n : Int) : FracV := ⟨decide (n < 0), n.natAbs, 1⟩

/-- the sign of the difference of two right fractions -/
def cmpNat (x y : Nat) : Int := if x < y then -1 else if y < x then 1 else 0
def cmpL (f g : FracV) : Int × Int :=
  if f.right && g.right then
    (if f.neg && !g.neg then -1 else if g.neg && !f.neg then 1 else if f.neg then cmpNat (g.num * f.den) (f.num * g.den) else cmpNat (f.num * g.den) (g.num * f.den), 0)
  else (0, 2)

theorem fitL_scale (neg : Bool) (n d k : Nat) (hk : 0 < k) : fitL neg (n * k) (d * k) = fitL neg n d := by
  unfold fitL
  rw [Nat.gcd_mul_right, Nat.mul_div_mul_right _ _ hk, Nat.mul_div_mul_right _ _ hk]

theorem fitL_fits (neg : Bool) (n d : Nat) : (fitL neg n d).1.fits := by
  unfold fitL
  split
  · rename_i h
    exact h
  · unfold zeroF FracV.fits
    exact ⟨by decide, by decide⟩

/-- what fitL gives without an error is right -/
theorem fitL_right {neg : Bool} {n d : Nat} (hd : d ≠ 0) (h : (fitL neg n d).2 = 0) : (fitL neg n d).1.right = true := by
  unfold fitL at *
  split
  · have hg : 0 < Nat.gcd n d := Nat.gcd_pos_of_pos_right _ (Nat.pos_of_ne_zero hd)
    have h1 : d / Nat.gcd n d ≠ 0 := by
      have := Nat.div_pos (Nat.gcd_le_right n (Nat.pos_of_ne_zero hd)) hg
      omega
    have h2 : Nat.gcd (n / Nat.gcd n d) (d / Nat.gcd n d) = 1 := by
      rw [Nat.gcd_div (Nat.gcd_dvd_left n d) (Nat.gcd_dvd_right n d), Nat.div_self hg]
    generalize n / Nat.gcd n d = q at *
    generalize d / Nat.gcd n d = r at *
    unfold FracV.right
    simp only [h1, h2, ne_eq, not_false_eq_true, decide_true, Bool.true_and]
    by_cases hq : q = 0 <;> cases neg <;> simp [hq]
  · rename_i h1
    rw [if_neg h1] at h
    simp at h

theorem ofL_right (n : Int) : (ofL n).right = true := by
  unfold ofL FracV.right
  simp
  omega
theorem fitL_one (neg : Bool) (n : Nat) (h : n < top256) : fitL neg n 1 = (⟨neg && decide (n ≠ 0), n, 1⟩, 0) := by
  unfold fitL
  rw [Nat.gcd_one_right, Nat.div_one, Nat.div_one, if_pos ⟨h, by decide⟩]
theorem ratioL_one (n : Int) (h : n.natAbs < top256) : ratioL n 1 = (ofL n, 0) := by
  unfold ratioL ofL
  rw [if_neg (by omega)]
  have e : (1 : Int).natAbs = 1 := rfl
  rw [e, fitL_one _ _ h]
  by_cases hn : n < 0
  · simp [hn]; omega
  · simp [hn]
end Go.Proofs.Ytcdfnlgimbecgaa

namespace Go.Proofs.Ytcdfnlgimbecgaa

def ofRat (q : Rat) : FracV := ⟨decide (q.num < 0), q.num.natAbs, q.den⟩
def FitsR (q : Rat) : Prop := q.num.natAbs < top256 ∧ q.den < top256
instance (q : Rat) : Decidable (FitsR q) := by unfold FitsR; infer_instance
/-- a result: the fraction, or 'too long' -/
def outR (q : Rat) : FracV × Int := if FitsR q then (ofRat q, 0) else (zeroF, 3)

theorem outR_fits {q : Rat} (h : FitsR q) : outR q = (ofRat q, 0) := by unfold outR; rw [if_pos h]

theorem rat_eq (q : Rat) : q = (q.num : Rat) / (q.den : Rat) := by
  have h1 := Rat.num_divInt_den q
  rw [Rat.divInt_eq_div, Rat.intCast_natCast] at h1
  exact h1.symm

theorem ofRat_right (q : Rat) : (ofRat q).right = true := by
  unfold ofRat FracV.right
  have h1 := q.den_nz
  have h2 : Nat.gcd q.num.natAbs q.den = 1 := q.reduced
  simp only [h1, h2, ne_eq, not_false_eq_true, decide_true, Bool.true_and, Bool.not_eq_true', Bool.and_eq_false_iff, decide_eq_false_iff_not]
  omega

theorem right_ofRat {f : FracV} (h : f.right = true) : ∃ q : Rat, f = ofRat q := by
  unfold FracV.right at h
  simp only [Bool.and_eq_true, decide_eq_true_eq, Bool.not_eq_true', Bool.and_eq_false_iff, decide_eq_false_iff_not] at h
  obtain ⟨⟨h1, h2⟩, h3⟩ := h
  obtain ⟨neg, num, den⟩ := f
  simp only at *
  refine ⟨⟨if neg then -(num : Int) else num, den, h1, ?_⟩, ?_⟩
  · cases neg <;> simpa [Nat.Coprime] using h2
  · unfold ofRat
    cases neg
    · simp
    · simp at h3
      simp
      omega

theorem fitL_rat (neg : Bool) (n d : Nat) (hd : d ≠ 0) : fitL neg n d = outR (Rat.normalize (if neg then -(n : Int) else n) d hd) := by
  have e : (if neg then -(n : Int) else (n : Int)).natAbs = n := by cases neg <;> simp
  have hg : 0 < Nat.gcd n d := Nat.gcd_pos_of_pos_right _ (Nat.pos_of_ne_zero hd)
  have hdv : Nat.gcd n d ∣ n := Nat.gcd_dvd_left n d
  rw [Rat.normalize_eq hd]
  unfold outR FitsR ofRat fitL
  simp only [e]
  generalize Nat.gcd n d = g at *
  obtain ⟨m, rfl⟩ := hdv
  have h1 : g * m / g = m := Nat.mul_div_cancel_left m hg
  have h2 : (if neg then -((g * m : Nat) : Int) else ((g * m : Nat) : Int)) / (g : Int) = if neg then -(m : Int) else m := by
    have hg' : (g : Int) ≠ 0 := by omega
    cases neg
    · simp only [Bool.false_eq_true, if_false]
      rw [Int.natCast_mul, Int.mul_ediv_cancel_left _ hg']
    · simp only [if_true]
      rw [Int.natCast_mul, ← Int.mul_neg, Int.mul_ediv_cancel_left _ hg']
  rw [h1, h2]
  have h3 : (if neg then -(m : Int) else (m : Int)).natAbs = m := by cases neg <;> simp
  rw [h3]
  split
  · congr 2
    cases neg
    · simp
    · by_cases hm : m = 0
      · simp [hm]
      · have h4 : -(m : Int) < 0 := by omega
        simp [hm]
        omega
  · rfl

theorem negL_rat (q : Rat) : negL (ofRat q) = ofRat (-q) := by
  unfold negL ofRat
  simp only [Rat.neg_num, Rat.neg_den, Int.natAbs_neg, FracV.mk.injEq, and_true]
  by_cases h : q.num < 0
  · have h2 : ¬ -q.num < 0 := by omega
    simp [h]
    omega
  · by_cases h0 : q.num = 0
    · simp [h0]
    · have h2 : -q.num < 0 := by omega
      have h3 : q.num.natAbs ≠ 0 := by omega
      simp [h, h0]
      omega

theorem ofL_rat (n : Int) : ofL n = ofRat (n : Rat) := by
  unfold ofL ofRat
  simp only [Rat.num_intCast, Rat.den_intCast]
  congr 1

theorem sumL_rat (p q : Rat) : sumL (ofRat p) (ofRat q) = outR (p + q) := by
  have hd : p.den * q.den ≠ 0 := Nat.mul_ne_zero p.den_nz q.den_nz
  rw [Rat.add_def]
  unfold sumL ofRat
  simp only
  have ep : p.num = if p.num < 0 then -(p.num.natAbs : Int) else (p.num.natAbs : Int) := by split <;> omega
  have eq : q.num = if q.num < 0 then -(q.num.natAbs : Int) else (q.num.natAbs : Int) := by split <;> omega
  generalize p.num.natAbs = a at *
  generalize q.num.natAbs = b at *
  by_cases h1 : p.num < 0 <;> by_cases h2 : q.num < 0
  · simp only [h1, h2, decide_true, if_true] at *
    rw [fitL_rat _ _ _ hd]
    congr 2
    rw [ep, eq]
    simp only [if_true]
    push_cast
    grind
  · simp only [h1, h2, decide_true, decide_false, if_true, if_false, Bool.true_eq_false] at *
    split
    · rename_i h3
      rw [fitL_rat _ _ _ hd]
      congr 2
      rw [ep, eq]
      simp only [Bool.false_eq_true, if_false]
      rw [Int.natCast_sub (by omega)]
      push_cast
      grind
    · rename_i h3
      rw [fitL_rat _ _ _ hd]
      congr 2
      rw [ep, eq]
      simp only [if_true]
      rw [Int.natCast_sub (by omega)]
      push_cast
      grind
  · simp only [h1, h2, decide_true, decide_false, if_true, if_false, Bool.false_eq_true] at *
    split
    · rename_i h3
      rw [fitL_rat _ _ _ hd]
      congr 2
      rw [ep, eq]
      simp only [if_true]
      rw [Int.natCast_sub (by omega)]
      push_cast
      grind
    · rename_i h3
      rw [fitL_rat _ _ _ hd]
      congr 2
      rw [ep, eq]
      simp only [Bool.false_eq_true, if_false]
      rw [Int.natCast_sub (by omega)]
      push_cast
      grind
  · simp only [h1, h2, decide_false, if_true, if_false] at *
    rw [fitL_rat _ _ _ hd]
    congr 2
    rw [ep, eq]
    simp only [Bool.false_eq_true, if_false]
    push_cast
    grind

theorem mulL_rat (p q : Rat) : mulL (ofRat p) (ofRat q) = outR (p * q) := by
  have hd : p.den * q.den ≠ 0 := Nat.mul_ne_zero p.den_nz q.den_nz
  rw [Rat.mul_def]
  unfold mulL
  rw [ofRat_right, ofRat_right]
  simp only [Bool.and_self, if_true]
  unfold ofRat
  simp only
  rw [fitL_rat _ _ _ hd]
  have ep : p.num = if p.num < 0 then -(p.num.natAbs : Int) else (p.num.natAbs : Int) := by split <;> omega
  have eq : q.num = if q.num < 0 then -(q.num.natAbs : Int) else (q.num.natAbs : Int) := by split <;> omega
  generalize p.num.natAbs = a at *
  generalize q.num.natAbs = b at *
  congr 2
  by_cases h1 : p.num < 0 <;> by_cases h2 : q.num < 0 <;> simp [h1, h2] at ep eq ⊢ <;> rw [ep, eq] <;> push_cast <;> grind

theorem sgn_div (s t : Bool) (a b c d : Nat) (hb : b ≠ 0) (hc : c ≠ 0) (hd : d ≠ 0) :
    (((if (s != t) = true then -((a * d : Nat) : Int) else ((a * d : Nat) : Int) : Int)) : Rat) / ((c * b : Nat) : Rat) = (((if s = true then -(a : Int) else (a : Int) : Int)) : Rat) / (c : Rat) / ((((if t = true then -(b : Int) else (b : Int) : Int)) : Rat) / (d : Rat)) := by
  have hb' : (b : Rat) ≠ 0 := by simpa using hb
  have hc' : (c : Rat) ≠ 0 := by simpa using hc
  have hd' : (d : Rat) ≠ 0 := by simpa using hd
  cases s <;> cases t <;> simp only [bne_self_eq_false, Bool.false_eq_true, if_false, if_true, Bool.true_bne, Bool.false_bne, Bool.not_false, Rat.intCast_neg, Rat.intCast_natCast, Rat.natCast_mul] <;> grind

theorem sgn_num (n : Int) : n = if (decide (n < 0)) = true then -(n.natAbs : Int) else (n.natAbs : Int) := by
  by_cases h : n < 0
  · simp only [h, decide_true, if_true]; omega
  · simp only [h, decide_false, Bool.false_eq_true, if_false]; omega

theorem divL_rat (p q : Rat) (hq : q ≠ 0) : divL (ofRat p) (ofRat q) = outR (p / q) := by
  have hq0 : q.num ≠ 0 := fun h => hq (Rat.num_eq_zero.1 h)
  have hn : q.num.natAbs ≠ 0 := by omega
  have hd : p.den * q.num.natAbs ≠ 0 := Nat.mul_ne_zero p.den_nz hn
  unfold divL
  rw [ofRat_right, ofRat_right]
  have h0 : decide ((ofRat q).num ≠ 0) = true := by unfold ofRat; simpa using hq0
  rw [h0]
  simp only [Bool.and_self, if_true]
  unfold ofRat
  simp only
  rw [fitL_rat _ _ _ hd]
  congr 1
  rw [Rat.normalize_eq_mkRat, Rat.mkRat_eq_div, sgn_div _ _ _ _ _ _ hn p.den_nz q.den_nz, ← sgn_num, ← sgn_num, ← rat_eq, ← rat_eq]

theorem ratioL_rat (a b : Int) (hb : b ≠ 0) : ratioL a b = outR ((a : Rat) / (b : Rat)) := by
  unfold ratioL
  rw [if_neg hb, fitL_rat _ _ _ (by omega)]
  congr 1
  have h := sgn_div (decide (a < 0)) (decide (b < 0)) a.natAbs b.natAbs 1 1 (by omega) (by omega) (by omega)
  rw [← sgn_num, ← sgn_num] at h
  simp only [Nat.mul_one, Nat.one_mul] at h
  rw [Rat.normalize_eq_mkRat, Rat.mkRat_eq_div, h]
  have e1 : ((1 : Nat) : Rat) = 1 := rfl
  rw [e1]
  grind

theorem cmpL_rat (p q : Rat) : cmpL (ofRat p) (ofRat q) = (if p < q then -1 else if q < p then 1 else 0, 0) := by
  unfold cmpL
  rw [ofRat_right, ofRat_right]
  simp only [Bool.and_self, if_true, Prod.mk.injEq, and_true, Rat.lt_iff]
  unfold ofRat cmpNat
  simp only
  have ep : p.num = if p.num < 0 then -(p.num.natAbs : Int) else (p.num.natAbs : Int) := by split <;> omega
  have eq : q.num = if q.num < 0 then -(q.num.natAbs : Int) else (q.num.natAbs : Int) := by split <;> omega
  have hpd := Nat.pos_of_ne_zero p.den_nz
  have hqd := Nat.pos_of_ne_zero q.den_nz
  have hpn : p.num < 0 → 0 < p.num.natAbs := by omega
  have hqn : q.num < 0 → 0 < q.num.natAbs := by omega
  generalize p.num.natAbs = a at *
  generalize q.num.natAbs = b at *
  generalize p.den = c at *
  generalize q.den = d at *
  have h1 : ∀ x y : Nat, ((x : Int) * (y : Int)) = ((x * y : Nat) : Int) := fun x y => by push_cast; rfl
  have m1 : 0 ≤ (a : Int) * (d : Int) := by rw [h1]; omega
  have m2 : 0 ≤ (b : Int) * (c : Int) := by rw [h1]; omega
  by_cases hp : p.num < 0 <;> by_cases hq : q.num < 0 <;> simp only [hp, hq, if_true, if_false, decide_true, decide_false, Bool.not_true, Bool.not_false, Bool.and_true, Bool.and_false, Bool.false_eq_true] at ep eq ⊢ <;> rw [ep, eq]
  · rw [Int.neg_mul, Int.neg_mul, h1, h1]
    split <;> split <;> (try split) <;> (try split) <;> omega
  · have h2 : 0 < (a : Int) * (d : Int) := Int.mul_pos (by have := hpn hp; omega) (by omega)
    rw [Int.neg_mul]
    rw [if_pos (by omega)]
  · have h2 : 0 < (b : Int) * (c : Int) := Int.mul_pos (by have := hqn hq; omega) (by omega)
    rw [Int.neg_mul]
    rw [if_neg (by omega), if_pos (by omega)]
  · rw [h1, h1]
    split <;> split <;> (try split) <;> (try split) <;> omega
end Go.Proofs.Ytcdfnlgimbecgaa

namespace Go.Proofs.Ytcdfnlgimbecgaa
open Go.RowKit

abbrev B32 : Nat := 4294967296
abbrev B16 : Nat := 65536
theorem hB32 : 2 ≤ B32 := by decide
theorem hB16 : 2 ≤ B16 := by decide
abbrev len32 (x : Nat) : Nat := (dig B32 x).length
abbrev len16 (x : Nat) : Nat := (dig B16 x).length
/-- the slice at A reads as a number, in limbs ¦ in digits -/
abbrev Rd32 (w : World) (A : Option Addr) (x : Nat) : Prop := Rd w w.heap.size 1 A (nums .u32 (dig B32 x))
abbrev Rd16 (w : World) (A : Option Addr) (x : Nat) : Prop := Rd w w.heap.size 1 A (nums .i64 (dig B16 x))

theorem Rd.later {w w' : World} {B size : Nat} {A : Option Addr} {css : List (List Value)} (h : Rd w B size A css) (hb : Below B w w') : Rd w' w'.heap.size size A css ∨ ¬ B ≤ w'.heap.size := by
  by_cases hB : B ≤ w'.heap.size
  · exact .inl ((h.below hb (Nat.le_refl _)).more hB)
  · exact .inr hB
theorem Rd.from {w w' : World} {size : Nat} {A : Option Addr} {css : List (List Value)} (h : Rd w w.heap.size size A css) (hb : From w w') : Rd w' w'.heap.size size A css := (h.below hb (Nat.le_refl _)).more hb.size

theorem info_u32 : (Try.prog.info? 34).map (fun i => (i.zero, i.size, i.bytes)) = some (some (.int .u32 0), 1, 4) := by kernel_rfl
theorem info_int : (Try.prog.info? 3).map (fun i => (i.zero, i.size, i.bytes)) = some (some (.int .i64 0), 1, 8) := by kernel_rfl
theorem size_u32 : (Try.prog.info? 34).map (·.size) = some 1 := by kernel_rfl
theorem size_int : (Try.prog.info? 3).map (·.size) = some 1 := by kernel_rfl

theorem dig_take {B : Nat} (hB : 2 ≤ B) {l : List Nat} (hl : Digs B l) : dig B (valB B l) = l.take (dig B (valB B l)).length := by
  have h := dig_pad hB (k := l.length) (valB_lt l hl)
  rw [pad_valB (by omega) l hl] at h
  exact h
/-- what trim leaves of a row reads as the number -/
theorem rd_trim {B : Nat} (hB : 2 ≤ B) {w : World} {N : Nat} {A : Option Addr} {k : IntKind} {l : List Nat} (h : Rd w N 1 A (nums k l)) (hl : Digs B l) : Rd w N 1 A (nums k (dig B (valB B l))) := by
  rw [dig_take hB hl, nums_take]
  exact h.take _

theorem wrap_u64 {n : Int} (h0 : 0 ≤ n) (h : n < 18446744073709551616) : IntKind.u64.wrap n = n := by
  unfold IntKind.wrap
  simp [IntKind.bits, IntKind.signed]
  omega
theorem wrap_u32 (n : Nat) : IntKind.u32.wrap (n : Int) = ((n % 4294967296 : Nat) : Int) := by
  unfold IntKind.wrap
  simp [IntKind.bits, IntKind.signed]
theorem wrap_u64_sub (a b : Nat) (hb : b ≤ 18446744073709551616) : IntKind.u64.wrap ((a : Int) - (b : Int)) = (((a + 18446744073709551616 - b) % 18446744073709551616 : Nat) : Int) := by
  unfold IntKind.wrap
  simp [IntKind.bits, IntKind.signed]
  omega
theorem wrap_i64 {n : Int} (h1 : -9223372036854775808 ≤ n) (h2 : n ≤ 9223372036854775807) : IntKind.i64.wrap n = n := by
  unfold IntKind.wrap
  simp [IntKind.bits, IntKind.signed]
  split <;> omega

/-- the cells of a fraction -/
def FracV.cells (f : FracV) : List Value := [.bool f.neg] ++ ((pad B32 8 f.num).map fun (n : Nat) => Value.int .u32 (n : Int)) ++ ((pad B32 8 f.den).map fun (n : Nat) => Value.int .u32 (n : Int))
def FracV.val (f : FracV) : Value := .agg f.cells.toArray
theorem FracV.cells_len (f : FracV) : f.cells.length = 17 := by simp [FracV.cells, pad_len]
theorem FracV.ones (f : FracV) : ∀ u ∈ f.cells, u.oneCell' = true := by
  intro u hu
  simp only [FracV.cells, List.mem_append, List.mem_cons, List.not_mem_nil, or_false, List.mem_map] at hu
  rcases hu with (rfl | ⟨n, _, rfl⟩) | ⟨n, _, rfl⟩ <;> simp [Value.oneCell']
theorem FracV.cell_num (f : FracV) {i : Nat} (h : i < 8) : f.cells[1 + i]? = some (.int .u32 ((pad B32 8 f.num)[i]'(by rw [pad_len]; exact h) : Nat)) := by
  unfold FracV.cells
  rw [List.append_assoc, List.getElem?_append_right (by simp), List.getElem?_append_left (by simp [pad_len]; omega)]
  simp [pad_len, h]
theorem FracV.cell_den (f : FracV) {i : Nat} (h : i < 8) : f.cells[9 + i]? = some (.int .u32 ((pad B32 8 f.den)[i]'(by rw [pad_len]; exact h) : Nat)) := by
  unfold FracV.cells
  rw [List.append_assoc, List.getElem?_append_right (by simp only [List.length_cons, List.length_nil]; omega), List.getElem?_append_right (by simp only [List.length_map, pad_len, List.length_cons, List.length_nil]; omega)]
  have e : 9 + i - [Value.bool f.neg].length - ((pad B32 8 f.num).map fun (n : Nat) => Value.int .u32 (n : Int)).length = i := by simp only [List.length_map, pad_len, List.length_cons, List.length_nil]; omega
  rw [e]
  simp [pad_len, h]
theorem pow256 : B32 ^ 8 = top256 := by decide
/-- a number of a fraction that lies in a block, as a slice -/
theorem frac_rd {w : World} {g : Nat} {f : FracV} (h : w.heap[g]? = some (.cells f.cells.toArray 37 (0, 0))) :
    Rd w w.heap.size 1 (some ⟨g, 1, none⟩) (nums .u32 (pad B32 8 f.num)) ∧ Rd w w.heap.size 1 (some ⟨g, 9, none⟩) (nums .u32 (pad B32 8 f.den)) := by
  have hlt := (Array.getElem?_eq_some_iff.1 h).1
  constructor
  · intro i cs hi
    unfold nums at hi
    rw [List.getElem?_map] at hi
    obtain ⟨n, hn, rfl⟩ := Option.map_eq_some_iff.1 hi
    have hil : i < 8 := by have := (List.getElem?_eq_some_iff.1 hn).1; rwa [pad_len] at this
    refine ⟨g, 1, rfl, hlt, rfl, fun j u hu => ?_⟩
    match j, hu with
    | 0, hu =>
      simp at hu
      subst hu
      rw [cell_of_row w g _ _ _ _ h]
      simp only [Nat.mul_one, Nat.add_zero, List.getElem?_toArray]
      rw [f.cell_num hil]
      rw [List.getElem?_eq_getElem (by rw [pad_len]; exact hil)] at hn
      injection hn with hn
      rw [hn]
  · intro i cs hi
    unfold nums at hi
    rw [List.getElem?_map] at hi
    obtain ⟨n, hn, rfl⟩ := Option.map_eq_some_iff.1 hi
    have hil : i < 8 := by have := (List.getElem?_eq_some_iff.1 hn).1; rwa [pad_len] at this
    refine ⟨g, 9, rfl, hlt, rfl, fun j u hu => ?_⟩
    match j, hu with
    | 0, hu =>
      simp at hu
      subst hu
      rw [cell_of_row w g _ _ _ _ h]
      simp only [Nat.mul_one, Nat.add_zero, List.getElem?_toArray]
      rw [f.cell_den hil]
      rw [List.getElem?_eq_getElem (by rw [pad_len]; exact hil)] at hn
      injection hn with hn
      rw [hn]
end Go.Proofs.Ytcdfnlgimbecgaa

namespace Go.Proofs.Ytcdfnlgimbecgaa
open Go.RowKit

def lenOf : Value → Nat
  | .slice _ n _ => n
  | _ => 0

set_option maxHeartbeats 1000000 in
theorem frac_trim (A : Option Addr) (c n : Nat) (l : List Nat) (hn : n = l.length) (w : World) (h : Rd w w.heap.size 1 A (nums .u32 l)) (hl : Digs B32 l) (hlen : l.length ≤ 1000000000) (hcap : l.length ≤ c) :
    Calls Try.prog 85 #[.slice A n c] w fun e w' => e = .returned (.slice A (len32 (valB B32 l)) c) ∧ w' = w := by
  subst hn
  go_enter Try.func85, Try.ntmps85
  go_wp2
  go_loop [0] (fun v => ∃ k : Nat, k ≤ l.length ∧ v = .slice A k c ∧ ∀ d ∈ l.drop k, d = 0) (fun v => lenOf v)
  case atStart => exact ⟨l.length, Nat.le_refl _, rfl, by simp⟩
  case round =>
    obtain ⟨k, hk, rfl, hz⟩ := hrel
    have HZ := Lib.hid hz
    clear hz
    by_cases hk0 : k = 0
    · subst hk0
      have HT : Hid (len32 (valB B32 l) = 0) := by unfold Hid len32; rw [trim_dig hB32 hl (Nat.zero_le _) HZ.out (.inl rfl)]; simp
      go_wp2
      go_ret
      exact ⟨by rw [HT.out]; rfl, rfl⟩
    · obtain ⟨j, rfl⟩ : ∃ j, k = j + 1 := ⟨k - 1, by omega⟩
      obtain ⟨b, off, rfl, hb, hld⟩ := num_ld Try.underlying34 rfl h (show j < l.length by omega)
      have HL := Lib.hid (hld w (Below.refl _ _))
      clear hld
      by_cases hz0 : l[j] = 0
      · have e0 : ((l[j] : Int) == 0) = true := by simp [hz0]
        have hcj : ¬ c < j := by omega
        go_wp2_with (first
          | ((with_reducible refine g_ld 34 ?_); (first | refine wpList_ld rfl _ _ rfl _ rfl _ HL.out ?_ | refine wpList_ldw rfl _ _ rfl _ rfl _ HL.out ?_)))
        go_round
        case rel =>
          refine ⟨j, by omega, by simp, fun d hd => ?_⟩
          rw [List.drop_eq_getElem_cons (show j < l.length by omega)] at hd
          rcases List.mem_cons.1 hd with h1 | h1
          · rw [h1, hz0]
          · exact HZ.out d h1
        case measure => simp [lenOf]
      · have HT : Hid (len32 (valB B32 l) = j + 1) := by
          unfold Hid len32
          rw [trim_dig hB32 hl hk HZ.out (.inr ⟨j, rfl, by simp [show j < l.length by omega]; exact hz0⟩)]
          simp
          omega
        have e0 : ((l[j] : Int) == 0) = false := by simp [hz0]
        go_wp2_with (first
          | ((with_reducible refine g_ld 34 ?_); (first | refine wpList_ld rfl _ _ rfl _ rfl _ HL.out ?_ | refine wpList_ldw rfl _ _ rfl _ rfl _ HL.out ?_)))
        go_ret
        exact ⟨by rw [HT.out]; rfl, rfl⟩
end Go.Proofs.Ytcdfnlgimbecgaa
