/-
  Fractions of numbers below 2^256: what the operations are, in plain Lean, no program.
  Numbers of frac (limbs of 32 bits) and of its reference (digits to the base 65536), and fractions, as they lie in memory.
  frac: trim, one, plus.
  frac: plus.
-/
import Derived.Test.YtcdfnlgimbecgaaMo5
import Derived.Test.YtcdfnlgimbecgaaRows

namespace Go.Proofs.Ytcdfnlgimbecgaa

/-- a fraction as it lies in memory: any sign, any two numbers below 2^256 -/
structure FracV where
  neg : Bool
  num : Nat
  den : Nat
deriving DecidableEq

abbrev top256 : Nat := 115792089237316195423570985008687907853269984665640564039457584007913129639936

def FracV.fits (f : FracV) : Prop := f.num < top256 ∧ f.den < top256
def FracV.right (f : FracV) : Bool := decide (f.den ≠ 0) && decide (Nat.gcd f.num f.den = 1) && !(f.neg && decide (f.num = 0))
def zeroF : FracV := ⟨false, 0, 0⟩

/-- the right fraction of a numerator and a denominator, or the error -/
def fitL (neg : Bool) (n d : Nat) : FracV × Int :=
  if n / Nat.gcd n d < top256 ∧ d / Nat.gcd n d < top256 then (⟨neg && decide (n / Nat.gcd n d ≠ 0), n / Nat.gcd n d, d / Nat.gcd n d⟩, 0) else (zeroF, 3)

def negL (f : FracV) : FracV := ⟨!f.neg && decide (f.num ≠ 0), f.num, f.den⟩
def sumL (f g : FracV) : FracV × Int :=
  if f.neg = g.neg then fitL f.neg (f.num * g.den + g.num * f.den) (f.den * g.den)
  else if f.num * g.den < g.num * f.den then fitL g.neg (g.num * f.den - f.num * g.den) (f.den * g.den)
  else fitL f.neg (f.num * g.den - g.num * f.den) (f.den * g.den)
def addL (f g : FracV) : FracV × Int := if f.right && g.right then sumL f g else (zeroF, 2)
def subL (f g : FracV) : FracV × Int := if f.right && g.right then sumL f (negL g) else (zeroF, 2)
def mulL (f g : FracV) : FracV × Int := if f.right && g.right then fitL (f.neg != g.neg) (f.num * g.num) (f.den * g.den) else (zeroF, 2)
def divL (f g : FracV) : FracV × Int := if f.right && g.right && decide (g.num ≠ 0) then fitL (f.neg != g.neg) (f.num * g.den) (f.den * g.num) else (zeroF, 2)
def ratioL (a b : Int) : FracV × Int := if b = 0 then (zeroF, 2) else fitL (decide (a < 0) != decide (b < 0)) a.natAbs b.natAbs
def ofL (n : Int) : FracV := ⟨decide (n < 0), n.natAbs, 1⟩

/-- the sign of the difference of two right fractions -/
def cmpNat (x y : Nat) : Int := if x < y then -1 else if y < x then 1 else 0
def cmpL (f g : FracV) : Int × Int :=
  if f.right && g.right then
    (if f.neg && !g.neg then -1 else if g.neg && !f.neg then 1 else if f.neg then cmpNat (g.num * f.den) (f.num * g.den) else cmpNat (f.num * g.den) (g.num * f.den), 0)
  else (0, 2)

theorem fitL_scale (neg : Bool) (n d k : Nat) (hk : 0 < k) : fitL neg (n * k) (d * k) = fitL neg n d := by
  unfold fitL
  rw [Nat.gcd_mul_right, Nat.mul_div_mul_right _ _ hk, Nat.mul_div_mul_right _ _ hk]

theorem fitL_fits (neg : Bool) (n d : Nat) : (fitL neg n d).1.fits := by
  unfold fitL
  split
  · rename_i h
    exact h
  · unfold zeroF FracV.fits
    exact ⟨by decide, by decide⟩

/-- what fitL gives without an error is right -/
theorem fitL_right {neg : Bool} {n d : Nat} (hd : d ≠ 0) (h : (fitL neg n d).2 = 0) : (fitL neg n d).1.right = true := by
  unfold fitL at *
  split
  · have hg : 0 < Nat.gcd n d := Nat.gcd_pos_of_pos_right _ (Nat.pos_of_ne_zero hd)
    have h1 : d / Nat.gcd n d ≠ 0 := by
      have := Nat.div_pos (Nat.gcd_le_right n (Nat.pos_of_ne_zero hd)) hg
      omega
    have h2 : Nat.gcd (n / Nat.gcd n d) (d / Nat.gcd n d) = 1 := by
      rw [Nat.gcd_div (Nat.gcd_dvd_left n d) (Nat.gcd_dvd_right n d), Nat.div_self hg]
    generalize n / Nat.gcd n d = q at *
    generalize d / Nat.gcd n d = r at *
    unfold FracV.right
    simp only [h1, h2, ne_eq, not_false_eq_true, decide_true, Bool.true_and]
    by_cases hq : q = 0 <;> cases neg <;> simp [hq]
  · rename_i h1
    rw [if_neg h1] at h
    simp at h

theorem ofL_right (n : Int) : (ofL n).right = true := by
  unfold ofL FracV.right
  simp
  omega
theorem fitL_one (neg : Bool) (n : Nat) (h : n < top256) : fitL neg n 1 = (⟨neg && decide (n ≠ 0), n, 1⟩, 0) := by
  unfold fitL
  rw [Nat.gcd_one_right, Nat.div_one, Nat.div_one, if_pos ⟨h, by decide⟩]
theorem ratioL_one (n : Int) (h : n.natAbs < top256) : ratioL n 1 = (ofL n, 0) := by
  unfold ratioL ofL
  rw [if_neg (by omega)]
  have e : (1 : Int).natAbs = 1 := rfl
  rw [e, fitL_one _ _ h]
  by_cases hn : n < 0
  · simp [hn]; omega
  · simp [hn]
end Go.Proofs.Ytcdfnlgimbecgaa

namespace Go.Proofs.Ytcdfnlgimbecgaa
open Go.RowKit

abbrev B32 : Nat := 4294967296
abbrev B16 : Nat := 65536
theorem hB32 : 2 ≤ B32 := by decide
theorem hB16 : 2 ≤ B16 := by decide
abbrev len32 (x : Nat) : Nat := (dig B32 x).length
abbrev len16 (x : Nat) : Nat := (dig B16 x).length
/-- the slice at A reads as a number, in limbs ¦ in digits -/
abbrev Rd32 (w : World) (A : Option Addr) (x : Nat) : Prop := Rd w w.heap.size 1 A (nums .u32 (dig B32 x))
abbrev Rd16 (w : World) (A : Option Addr) (x : Nat) : Prop := Rd w w.heap.size 1 A (nums .i64 (dig B16 x))

theorem Rd.later {w w' : World} {B size : Nat} {A : Option Addr} {css : List (List Value)} (h : Rd w B size A css) (hb : Below B w w') : Rd w' w'.heap.size size A css ∨ ¬ B ≤ w'.heap.size := by
  by_cases hB : B ≤ w'.heap.size
  · exact .inl ((h.below hb (Nat.le_refl _)).more hB)
  · exact .inr hB
theorem Rd.from {w w' : World} {size : Nat} {A : Option Addr} {css : List (List Value)} (h : Rd w w.heap.size size A css) (hb : From w w') : Rd w' w'.heap.size size A css := (h.below hb (Nat.le_refl _)).more hb.size

theorem info_u32 : (Try.prog.info? 34).map (fun i => (i.zero, i.size, i.bytes)) = some (some (.int .u32 0), 1, 4) := by kernel_rfl
theorem info_int : (Try.prog.info? 3).map (fun i => (i.zero, i.size, i.bytes)) = some (some (.int .i64 0), 1, 8) := by kernel_rfl
theorem size_u32 : (Try.prog.info? 34).map (·.size) = some 1 := by kernel_rfl
theorem size_int : (Try.prog.info? 3).map (·.size) = some 1 := by kernel_rfl

theorem dig_take {B : Nat} (hB : 2 ≤ B) {l : List Nat} (hl : Digs B l) : dig B (valB B l) = l.take (dig B (valB B l)).length := by
  have h := dig_pad hB (k := l.length) (valB_lt l hl)
  rw [pad_valB (by omega) l hl] at h
  exact h
/-- what trim leaves of a row reads as the number -/
theorem rd_trim {B : Nat} (hB : 2 ≤ B) {w : World} {N : Nat} {A : Option Addr} {k : IntKind} {l : List Nat} (h : Rd w N 1 A (nums k l)) (hl : Digs B l) : Rd w N 1 A (nums k (dig B (valB B l))) := by
  rw [dig_take hB hl, nums_take]
  exact h.take _

theorem wrap_u64 {n : Int} (h0 : 0 ≤ n) (h : n < 18446744073709551616) : IntKind.u64.wrap n = n := by
  unfold IntKind.wrap
  simp [IntKind.bits, IntKind.signed]
  omega
theorem wrap_u32 (n : Nat) : IntKind.u32.wrap (n : Int) = ((n % 4294967296 : Nat) : Int) := by
  unfold IntKind.wrap
  simp [IntKind.bits, IntKind.signed]
theorem wrap_u64_sub (a b : Nat) (hb : b ≤ 18446744073709551616) : IntKind.u64.wrap ((a : Int) - (b : Int)) = (((a + 18446744073709551616 - b) % 18446744073709551616 : Nat) : Int) := by
  unfold IntKind.wrap
  simp [IntKind.bits, IntKind.signed]
  omega
theorem wrap_i64 {n : Int} (h1 : -9223372036854775808 ≤ n) (h2 : n ≤ 9223372036854775807) : IntKind.i64.wrap n = n := by
  unfold IntKind.wrap
  simp [IntKind.bits, IntKind.signed]
  split <;> omega

/-- the cells of a fraction -/
def FracV.cells (f : FracV) : List Value := [.bool f.neg] ++ ((pad B32 8 f.num).map fun (n : Nat) => Value.int .u32 (n : Int)) ++ ((pad B32 8 f.den).map fun (n : Nat) => Value.int .u32 (n : Int))
def FracV.val (f : FracV) : Value := .agg f.cells.toArray
theorem FracV.cells_len (f : FracV) : f.cells.length = 17 := by simp [FracV.cells, pad_len]
theorem FracV.ones (f : FracV) : ∀ u ∈ f.cells, u.oneCell' = true := by
  intro u hu
  simp only [FracV.cells, List.mem_append, List.mem_cons, List.not_mem_nil, or_false, List.mem_map] at hu
  rcases hu with (rfl | ⟨n, _, rfl⟩) | ⟨n, _, rfl⟩ <;> simp [Value.oneCell']
theorem FracV.cell_num (f : FracV) {i : Nat} (h : i < 8) : f.cells[1 + i]? = some (.int .u32 ((pad B32 8 f.num)[i]'(by rw [pad_len]; exact h) : Nat)) := by
  unfold FracV.cells
  rw [List.append_assoc, List.getElem?_append_right (by simp), List.getElem?_append_left (by simp [pad_len]; omega)]
  simp [pad_len, h]
theorem FracV.cell_den (f : FracV) {i : Nat} (h : i < 8) : f.cells[9 + i]? = some (.int .u32 ((pad B32 8 f.den)[i]'(by rw [pad_len]; exact h) : Nat)) := by
  unfold FracV.cells
  rw [List.append_assoc, List.getElem?_append_right (by simp only [List.length_cons, List.length_nil]; omega), List.getElem?_append_right (by simp only [List.length_map, pad_len, List.length_cons, List.length_nil]; omega)]
  have e : 9 + i - [Value.bool f.neg].length - ((pad B32 8 f.num).map fun (n : Nat) => Value.int .u32 (n : Int)).length = i := by simp only [List.length_map, pad_len, List.length_cons, List.length_nil]; omega
  rw [e]
  simp [pad_len, h]
theorem pow256 : B32 ^ 8 = top256 := by decide
/-- a number of a fraction that lies in a block, as a slice -/
theorem frac_rd {w : World} {g : Nat} {f : FracV} (h : w.heap[g]? = some (.cells f.cells.toArray 37 (0, 0))) :
    Rd w w.heap.size 1 (some ⟨g, 1, none⟩) (nums .u32 (pad B32 8 f.num)) ∧ Rd w w.heap.size 1 (some ⟨g, 9, none⟩) (nums .u32 (pad B32 8 f.den)) := by
  have hlt := (Array.getElem?_eq_some_iff.1 h).1
  constructor
  · intro i cs hi
    unfold nums at hi
    rw [List.getElem?_map] at hi
    obtain ⟨n, hn, rfl⟩ := Option.map_eq_some_iff.1 hi
    have hil : i < 8 := by have := (List.getElem?_eq_some_iff.1 hn).1; rwa [pad_len] at this
    refine ⟨g, 1, rfl, hlt, rfl, fun j u hu => ?_⟩
    match j, hu with
    | 0, hu =>
      simp at hu
      subst hu
      rw [cell_of_row w g _ _ _ _ h]
      simp only [Nat.mul_one, Nat.add_zero, List.getElem?_toArray]
      rw [f.cell_num hil]
      rw [List.getElem?_eq_getElem (by rw [pad_len]; exact hil)] at hn
      injection hn with hn
      rw [hn]
  · intro i cs hi
    unfold nums at hi
    rw [List.getElem?_map] at hi
    obtain ⟨n, hn, rfl⟩ := Option.map_eq_some_iff.1 hi
    have hil : i < 8 := by have := (List.getElem?_eq_some_iff.1 hn).1; rwa [pad_len] at this
    refine ⟨g, 9, rfl, hlt, rfl, fun j u hu => ?_⟩
    match j, hu with
    | 0, hu =>
      simp at hu
      subst hu
      rw [cell_of_row w g _ _ _ _ h]
      simp only [Nat.mul_one, Nat.add_zero, List.getElem?_toArray]
      rw [f.cell_den hil]
      rw [List.getElem?_eq_getElem (by rw [pad_len]; exact hil)] at hn
      injection hn with hn
      rw [hn]
end Go.Proofs.Ytcdfnlgimbecgaa

namespace Go.Proofs.Ytcdfnlgimbecgaa
open Go.RowKit

def lenOf : Value → Nat
  | .slice _ n _ => n
  | _ => 0

set_option maxHeartbeats 1000000 in
theorem frac_trim (A : Option Addr) (c n : Nat) (l : List Nat) (hn : n = l.length) (w : World) (h : Rd w w.heap.size 1 A (nums .u32 l)) (hl : Digs B32 l) (hlen : l.length ≤ 1000000000) (hcap : l.length ≤ c) :
    Calls Try.prog 85 #[.slice A n c] w fun e w' => e = .returned (.slice A (len32 (valB B32 l)) c) ∧ w' = w := by
  subst hn
  go_enter Try.func85, Try.ntmps85
  go_wp2
  go_loop [0] (fun v => ∃ k : Nat, k ≤ l.length ∧ v = .slice A k c ∧ ∀ d ∈ l.drop k, d = 0) (fun v => lenOf v)
  case atStart => exact ⟨l.length, Nat.le_refl _, rfl, by simp⟩
  case round =>
    obtain ⟨k, hk, rfl, hz⟩ := hrel
    have HZ := Lib.hid hz
    clear hz
    by_cases hk0 : k = 0
    · subst hk0
      have HT : Hid (len32 (valB B32 l) = 0) := by unfold Hid len32; rw [trim_dig hB32 hl (Nat.zero_le _) HZ.out (.inl rfl)]; simp
      go_wp2
      go_ret
      exact ⟨by rw [HT.out]; rfl, rfl⟩
    · obtain ⟨j, rfl⟩ : ∃ j, k = j + 1 := ⟨k - 1, by omega⟩
      obtain ⟨b, off, rfl, hb, hld⟩ := num_ld Try.underlying34 rfl h (show j < l.length by omega)
      have HL := Lib.hid (hld w (Below.refl _ _))
      clear hld
      by_cases hz0 : l[j] = 0
      · have e0 : ((l[j] : Int) == 0) = true := by simp [hz0]
        have hcj : ¬ c < j := by omega
        go_wp2_with (first
          | ((with_reducible refine g_ld 34 ?_); (first | refine wpList_ld rfl _ _ rfl _ rfl _ HL.out ?_ | refine wpList_ldw rfl _ _ rfl _ rfl _ HL.out ?_)))
        go_round
        case rel =>
          refine ⟨j, by omega, by simp, fun d hd => ?_⟩
          rw [List.drop_eq_getElem_cons (show j < l.length by omega)] at hd
          rcases List.mem_cons.1 hd with h1 | h1
          · rw [h1, hz0]
          · exact HZ.out d h1
        case measure => simp [lenOf]
      · have HT : Hid (len32 (valB B32 l) = j + 1) := by
          unfold Hid len32
          rw [trim_dig hB32 hl hk HZ.out (.inr ⟨j, rfl, by simp [show j < l.length by omega]; exact hz0⟩)]
          simp
          omega
        have e0 : ((l[j] : Int) == 0) = false := by simp [hz0]
        go_wp2_with (first
          | ((with_reducible refine g_ld 34 ?_); (first | refine wpList_ld rfl _ _ rfl _ rfl _ HL.out ?_ | refine wpList_ldw rfl _ _ rfl _ rfl _ HL.out ?_)))
        go_ret
        exact ⟨by rw [HT.out]; rfl, rfl⟩
end Go.Proofs.Ytcdfnlgimbecgaa

namespace Go.Proofs.Ytcdfnlgimbecgaa
open Go.RowKit


set_option maxRecDepth 100000 in
set_option maxHeartbeats 4000000 in
theorem frac_plus (A D : Option Addr) (ca cd : Nat) (x y n m : Nat) (hn : n = len32 x) (hm : m = len32 y) (w : World) (hA : Rd32 w A x) (hD : Rd32 w D y) (hx : len32 x ≤ 1000) (hy : len32 y ≤ 1000) :
    Calls Try.prog 56 #[.slice A n ca, .slice D m cd] w fun e w' => ∃ A' c', e = .returned (.slice A' (len32 (x + y)) c') ∧ Rd32 w' A' (x + y) ∧ len32 (x + y) ≤ c' ∧ Below w.heap.size w w' := by
  subst hn hm
  by_cases hsw : len32 x < len32 y
  · go_enter Try.func56, Try.ntmps56
    go_wp2_with (first
      | (at_make; go_loud (refine wpList_make_N (n := len32 y + 1) rfl _ _ rfl Try.underlying108 info_u32 rfl rfl (by simp) (by simp) (by omega) (by unfold maxLen; omega) ?_); intro w1 hnb1 hb1 hlt1))
    have HB1 := Lib.hid hb1
    have HNB1 := Lib.hid hnb1
    have HLT1 := Lib.hid hlt1
    clear hnb1 hb1 hlt1
    go_loopw [6, 22] (fun cv i wr => ∃ (k cc : Nat) (o : List Nat), k ≤ len32 y ∧ i = .int .i64 k ∧ cv = .int .u64 cc ∧ cc ≤ 1 ∧ o.length = len32 y + 1 ∧ Digs B32 o ∧ NB wr w.heap.size 34 .u32 o ∧ Below w.heap.size w wr ∧ w.heap.size < wr.heap.size ∧ valB B32 (o.take k) + B32 ^ k * cc = valB B32 ((dig B32 y).take k) + valB B32 ((dig B32 x).take k)) (fun _ i _ => len32 y - (intOf i).toNat)
    case atStart => exact ⟨0, 0, _, Nat.zero_le _, rfl, rfl, by omega, List.length_replicate, Digs.zeros (by decide) _, HNB1.out, HB1.out, HLT1.out, by simp [valB]⟩
    case round =>
      obtain ⟨k, cc, o, hk, rfl, rfl, hcc, hol, hod, hnb, hbr, hlt, hval⟩ := hrel
      have HV := Lib.hid hval
      have HNB := Lib.hid hnb
      have HBR := Lib.hid hbr
      have HOD := Lib.hid hod
      clear hval hnb hbr hod
      by_cases hkl : k < len32 y
      · obtain ⟨b1, o1, rfl, hb1, hld1⟩ := num_ld Try.underlying34 rfl hD hkl
        have HL1 := Lib.hid (hld1 wr HBR.out)
        have hxa : (dig B32 y)[k] < 4294967296 := (Digs.dig hB32 y).get hkl
        have hxd : (dig B32 y).getD k 0 = (dig B32 y)[k] := by simp [show k < (dig B32 y).length from hkl]
        have HXD := Lib.hid hxd
        clear hxd
        generalize (dig B32 y)[k] = xa at *
        clear hld1
        by_cases hkm : k < len32 x
        · obtain ⟨b2, o2, rfl, hb2, hld2⟩ := num_ld Try.underlying34 rfl hA hkm
          have HL2 := Lib.hid (hld2 wr HBR.out)
          have hyb : (dig B32 x)[k] < 4294967296 := (Digs.dig hB32 x).get hkm
          have hyd : (dig B32 x).getD k 0 = (dig B32 x)[k] := by simp [show k < (dig B32 x).length from hkm]
          have HYD := Lib.hid hyd
          clear hyd
          generalize (dig B32 x)[k] = yb at *
          clear hld2
          obtain ⟨s1, hs1⟩ : ∃ s1, s1 = cc + xa := ⟨_, rfl⟩
          obtain ⟨s2, hs2⟩ : ∃ s2, s2 = s1 + yb := ⟨_, rfl⟩
          obtain ⟨r, hr⟩ : ∃ r, r = s2 % 4294967296 := ⟨_, rfl⟩
          obtain ⟨q, hq⟩ : ∃ q, q = s2 / 4294967296 := ⟨_, rfl⟩
          have wa := wrap_u64 (n := (xa : Int)) (by omega) (by omega)
          have wb := wrap_u64 (n := (yb : Int)) (by omega) (by omega)
          have w1' : IntKind.u64.wrap ((cc : Int) + (xa : Int)) = (s1 : Int) := by rw [wrap_u64 (by omega) (by omega)]; omega
          have w2' : IntKind.u64.wrap ((s1 : Int) + (yb : Int)) = (s2 : Int) := by rw [wrap_u64 (by omega) (by omega)]; omega
          have w3' : IntKind.u32.wrap (s2 : Int) = (r : Int) := by rw [wrap_u32, hr]
          have w4' : (s2 : Int) / 4294967296 = (q : Int) := by omega
          have HST := Lib.hid (plus_step hB32 (i := k) (by omega) HV.out)
          rw [HXD.out, HYD.out] at HST
          have e5 : cc + xa + yb = s2 := by omega
          rw [e5, ← hr, ← hq] at HST
          have hq1 : q ≤ 1 := by omega
          have hr1 : r < B32 := by have : r < 4294967296 := by omega
                                   exact this
          clear hs1 hs2 hr hq e5
          go_wp2_with (first
            | ((with_reducible refine g_ld 34 ?_); refine wpList_ld rfl _ _ rfl _ rfl _ HL1.out ?_; have HL3 := HL2; clear HL1)
            | ((with_reducible refine g_ld 34 ?_); refine wpList_ld rfl _ _ rfl _ rfl _ HL3.out ?_; clear HL3)
            | ((with_reducible refine g_st 34 ?_); refine wpList_set rfl _ _ rfl rfl rfl rfl size_u32 HNB.out (by omega) ?_; intro w4 hnb4 hg4))
          go_roundw
          case rel => exact ⟨k + 1, q, o.set k r, by omega, by go_num, rfl, hq1, by simp [hol], HOD.out.set _ _ hr1, hnb4, HBR.out.grown hg4 HBR.out.size (fun j hj => by injection hj with hj; omega), Nat.lt_of_lt_of_le hlt hg4.size, HST.out⟩
          case measure => simp [intOf]; omega
        · have hkm' : (dig B32 x).length ≤ k := Nat.le_of_not_lt hkm
          have HYD : Hid ((dig B32 x).getD k 0 = 0) := by unfold Hid; simp [hkm']
          obtain ⟨s2, hs2⟩ : ∃ s2, s2 = cc + xa := ⟨_, rfl⟩
          obtain ⟨r, hr⟩ : ∃ r, r = s2 % 4294967296 := ⟨_, rfl⟩
          obtain ⟨q, hq⟩ : ∃ q, q = s2 / 4294967296 := ⟨_, rfl⟩
          have wa := wrap_u64 (n := (xa : Int)) (by omega) (by omega)
          have w1' : IntKind.u64.wrap ((cc : Int) + (xa : Int)) = (s2 : Int) := by rw [wrap_u64 (by omega) (by omega)]; omega
          have w3' : IntKind.u32.wrap (s2 : Int) = (r : Int) := by rw [wrap_u32, hr]
          have w4' : (s2 : Int) / 4294967296 = (q : Int) := by omega
          have HST := Lib.hid (plus_step hB32 (i := k) (by omega) HV.out)
          rw [HXD.out, HYD.out] at HST
          have e5 : cc + xa + 0 = s2 := by omega
          rw [e5, ← hr, ← hq] at HST
          have hq1 : q ≤ 1 := by omega
          have hr1 : r < B32 := by have : r < 4294967296 := by omega
                                   exact this
          clear hs2 hr hq e5
          go_wp2_with (first
            | ((with_reducible refine g_ld 34 ?_); refine wpList_ld rfl _ _ rfl _ rfl _ HL1.out ?_; clear HL1)
            | ((with_reducible refine g_st 34 ?_); refine wpList_set rfl _ _ rfl rfl rfl rfl size_u32 HNB.out (by omega) ?_; intro w4 hnb4 hg4))
          go_roundw
          case rel => exact ⟨k + 1, q, o.set k r, by omega, by go_num, rfl, hq1, by simp [hol], HOD.out.set _ _ hr1, hnb4, HBR.out.grown hg4 HBR.out.size (fun j hj => by injection hj with hj; omega), Nat.lt_of_lt_of_le hlt hg4.size, HST.out⟩
          case measure => simp [intOf]; omega
      · obtain rfl : k = len32 y := by omega
        have w3' : IntKind.u32.wrap (cc : Int) = (cc : Int) := by rw [wrap_u32, Nat.mod_eq_of_lt (by omega)]
        have HE := Lib.hid (plus_end (a := dig B32 y) (b := dig B32 x) hol (show len32 x ≤ len32 y by omega) HV.out)
        go_wp2_with (first
          | ((with_reducible refine g_st 34 ?_); refine wpList_set rfl _ _ rfl rfl rfl rfl size_u32 HNB.out (by omega) ?_; intro w4 hnb4 hg4)
          | (go_at_call 85; refine (frac_trim _ _ _ (o.set (len32 y) cc) (by simp [hol]) w4 hnb4.rd0 (HOD.out.set _ _ (Nat.lt_of_le_of_lt hcc (by decide))) (by simp [hol]; omega) (by simp [hol])).mono ?_; rintro e w5 ⟨rfl, rfl⟩))
        go_ret
        have hB4 : Below w.heap.size w w5 := HBR.out.grown hg4 HBR.out.size (fun j hj => by injection hj with hj; omega)
        have he : valB B32 (o.set (len32 y) cc) = x + y := by
          have h1 := HE.out
          rw [val_dig hB32, val_dig hB32] at h1
          first | exact h1 | exact h1.trans (Nat.add_comm _ _)
        have hds : Digs B32 (o.set (len32 y) cc) := HOD.out.set (len32 y) cc (Nat.lt_of_le_of_lt hcc (by decide))
        have hlen := dig_len_le hB32 (valB_lt _ hds)
        have hrd := rd_trim hB32 hnb4.rd0 hds
        rw [he] at hlen hrd
        rw [he]
        exact ⟨_, _, rfl, hrd, by simpa [hol] using hlen, hB4⟩
  · go_enter Try.func56, Try.ntmps56
    go_wp2_with (first
      | (at_make; go_loud (refine wpList_make_N (n := len32 x + 1) rfl _ _ rfl Try.underlying108 info_u32 rfl rfl (by simp) (by simp) (by omega) (by unfold maxLen; omega) ?_); intro w1 hnb1 hb1 hlt1))
    have HB1 := Lib.hid hb1
    have HNB1 := Lib.hid hnb1
    have HLT1 := Lib.hid hlt1
    clear hnb1 hb1 hlt1
    go_loopw [6, 22] (fun cv i wr => ∃ (k cc : Nat) (o : List Nat), k ≤ len32 x ∧ i = .int .i64 k ∧ cv = .int .u64 cc ∧ cc ≤ 1 ∧ o.length = len32 x + 1 ∧ Digs B32 o ∧ NB wr w.heap.size 34 .u32 o ∧ Below w.heap.size w wr ∧ w.heap.size < wr.heap.size ∧ valB B32 (o.take k) + B32 ^ k * cc = valB B32 ((dig B32 x).take k) + valB B32 ((dig B32 y).take k)) (fun _ i _ => len32 x - (intOf i).toNat)
    case atStart => exact ⟨0, 0, _, Nat.zero_le _, rfl, rfl, by omega, List.length_replicate, Digs.zeros (by decide) _, HNB1.out, HB1.out, HLT1.out, by simp [valB]⟩
    case round =>
      obtain ⟨k, cc, o, hk, rfl, rfl, hcc, hol, hod, hnb, hbr, hlt, hval⟩ := hrel
      have HV := Lib.hid hval
      have HNB := Lib.hid hnb
      have HBR := Lib.hid hbr
      have HOD := Lib.hid hod
      clear hval hnb hbr hod
      by_cases hkl : k < len32 x
      · obtain ⟨b1, o1, rfl, hb1, hld1⟩ := num_ld Try.underlying34 rfl hA hkl
        have HL1 := Lib.hid (hld1 wr HBR.out)
        have hxa : (dig B32 x)[k] < 4294967296 := (Digs.dig hB32 x).get hkl
        have hxd : (dig B32 x).getD k 0 = (dig B32 x)[k] := by simp [show k < (dig B32 x).length from hkl]
        have HXD := Lib.hid hxd
        clear hxd
        generalize (dig B32 x)[k] = xa at *
        clear hld1
        by_cases hkm : k < len32 y
        · obtain ⟨b2, o2, rfl, hb2, hld2⟩ := num_ld Try.underlying34 rfl hD hkm
          have HL2 := Lib.hid (hld2 wr HBR.out)
          have hyb : (dig B32 y)[k] < 4294967296 := (Digs.dig hB32 y).get hkm
          have hyd : (dig B32 y).getD k 0 = (dig B32 y)[k] := by simp [show k < (dig B32 y).length from hkm]
          have HYD := Lib.hid hyd
          clear hyd
          generalize (dig B32 y)[k] = yb at *
          clear hld2
          obtain ⟨s1, hs1⟩ : ∃ s1, s1 = cc + xa := ⟨_, rfl⟩
          obtain ⟨s2, hs2⟩ : ∃ s2, s2 = s1 + yb := ⟨_, rfl⟩
          obtain ⟨r, hr⟩ : ∃ r, r = s2 % 4294967296 := ⟨_, rfl⟩
          obtain ⟨q, hq⟩ : ∃ q, q = s2 / 4294967296 := ⟨_, rfl⟩
          have wa := wrap_u64 (n := (xa : Int)) (by omega) (by omega)
          have wb := wrap_u64 (n := (yb : Int)) (by omega) (by omega)
          have w1' : IntKind.u64.wrap ((cc : Int) + (xa : Int)) = (s1 : Int) := by rw [wrap_u64 (by omega) (by omega)]; omega
          have w2' : IntKind.u64.wrap ((s1 : Int) + (yb : Int)) = (s2 : Int) := by rw [wrap_u64 (by omega) (by omega)]; omega
          have w3' : IntKind.u32.wrap (s2 : Int) = (r : Int) := by rw [wrap_u32, hr]
          have w4' : (s2 : Int) / 4294967296 = (q : Int) := by omega
          have HST := Lib.hid (plus_step hB32 (i := k) (by omega) HV.out)
          rw [HXD.out, HYD.out] at HST
          have e5 : cc + xa + yb = s2 := by omega
          rw [e5, ← hr, ← hq] at HST
          have hq1 : q ≤ 1 := by omega
          have hr1 : r < B32 := by have : r < 4294967296 := by omega
                                   exact this
          clear hs1 hs2 hr hq e5
          go_wp2_with (first
            | ((with_reducible refine g_ld 34 ?_); refine wpList_ld rfl _ _ rfl _ rfl _ HL1.out ?_; have HL3 := HL2; clear HL1)
            | ((with_reducible refine g_ld 34 ?_); refine wpList_ld rfl _ _ rfl _ rfl _ HL3.out ?_; clear HL3)
            | ((with_reducible refine g_st 34 ?_); refine wpList_set rfl _ _ rfl rfl rfl rfl size_u32 HNB.out (by omega) ?_; intro w4 hnb4 hg4))
          go_roundw
          case rel => exact ⟨k + 1, q, o.set k r, by omega, by go_num, rfl, hq1, by simp [hol], HOD.out.set _ _ hr1, hnb4, HBR.out.grown hg4 HBR.out.size (fun j hj => by injection hj with hj; omega), Nat.lt_of_lt_of_le hlt hg4.size, HST.out⟩
          case measure => simp [intOf]; omega
        · have hkm' : (dig B32 y).length ≤ k := Nat.le_of_not_lt hkm
          have HYD : Hid ((dig B32 y).getD k 0 = 0) := by unfold Hid; simp [hkm']
          obtain ⟨s2, hs2⟩ : ∃ s2, s2 = cc + xa := ⟨_, rfl⟩
          obtain ⟨r, hr⟩ : ∃ r, r = s2 % 4294967296 := ⟨_, rfl⟩
          obtain ⟨q, hq⟩ : ∃ q, q = s2 / 4294967296 := ⟨_, rfl⟩
          have wa := wrap_u64 (n := (xa : Int)) (by omega) (by omega)
          have w1' : IntKind.u64.wrap ((cc : Int) + (xa : Int)) = (s2 : Int) := by rw [wrap_u64 (by omega) (by omega)]; omega
          have w3' : IntKind.u32.wrap (s2 : Int) = (r : Int) := by rw [wrap_u32, hr]
          have w4' : (s2 : Int) / 4294967296 = (q : Int) := by omega
          have HST := Lib.hid (plus_step hB32 (i := k) (by omega) HV.out)
          rw [HXD.out, HYD.out] at HST
          have e5 : cc + xa + 0 = s2 := by omega
          rw [e5, ← hr, ← hq] at HST
          have hq1 : q ≤ 1 := by omega
          have hr1 : r < B32 := by have : r < 4294967296 := by omega
                                   exact this
          clear hs2 hr hq e5
          go_wp2_with (first
            | ((with_reducible refine g_ld 34 ?_); refine wpList_ld rfl _ _ rfl _ rfl _ HL1.out ?_; clear HL1)
            | ((with_reducible refine g_st 34 ?_); refine wpList_set rfl _ _ rfl rfl rfl rfl size_u32 HNB.out (by omega) ?_; intro w4 hnb4 hg4))
          go_roundw
          case rel => exact ⟨k + 1, q, o.set k r, by omega, by go_num, rfl, hq1, by simp [hol], HOD.out.set _ _ hr1, hnb4, HBR.out.grown hg4 HBR.out.size (fun j hj => by injection hj with hj; omega), Nat.lt_of_lt_of_le hlt hg4.size, HST.out⟩
          case measure => simp [intOf]; omega
      · obtain rfl : k = len32 x := by omega
        have w3' : IntKind.u32.wrap (cc : Int) = (cc : Int) := by rw [wrap_u32, Nat.mod_eq_of_lt (by omega)]
        have HE := Lib.hid (plus_end (a := dig B32 x) (b := dig B32 y) hol (show len32 y ≤ len32 x by omega) HV.out)
        go_wp2_with (first
          | ((with_reducible refine g_st 34 ?_); refine wpList_set rfl _ _ rfl rfl rfl rfl size_u32 HNB.out (by omega) ?_; intro w4 hnb4 hg4)
          | (go_at_call 85; refine (frac_trim _ _ _ (o.set (len32 x) cc) (by simp [hol]) w4 hnb4.rd0 (HOD.out.set _ _ (Nat.lt_of_le_of_lt hcc (by decide))) (by simp [hol]; omega) (by simp [hol])).mono ?_; rintro e w5 ⟨rfl, rfl⟩))
        go_ret
        have hB4 : Below w.heap.size w w5 := HBR.out.grown hg4 HBR.out.size (fun j hj => by injection hj with hj; omega)
        have he : valB B32 (o.set (len32 x) cc) = x + y := by
          have h1 := HE.out
          rw [val_dig hB32, val_dig hB32] at h1
          first | exact h1 | exact h1.trans (Nat.add_comm _ _)
        have hds : Digs B32 (o.set (len32 x) cc) := HOD.out.set (len32 x) cc (Nat.lt_of_le_of_lt hcc (by decide))
        have hlen := dig_len_le hB32 (valB_lt _ hds)
        have hrd := rd_trim hB32 hnb4.rd0 hds
        rw [he] at hlen hrd
        rw [he]
        exact ⟨_, _, rfl, hrd, by simpa [hol] using hlen, hB4⟩
end Go.Proofs.Ytcdfnlgimbecgaa
