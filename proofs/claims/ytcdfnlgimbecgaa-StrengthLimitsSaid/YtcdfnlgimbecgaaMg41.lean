/-
  Hulls that are moved, and mirrored: their sections. Plain.
  StrengthEnds, plain: both ends, the buoyancies, how the bending moment grows (as rational numbers).
  StrengthEnds, plain: what the law reckons for a section, as the program's fractions.
  StrengthEnds, plain: the kilos of a section and twice their moment, weight by weight.
-/
import Derived.Test.YtcdfnlgimbecgaaMg40

namespace Go.Proofs.Ytcdfnlgimbecgaa

/-- frames that are right, and weights within them -/
structure Hull (G : List Frm) (ws : List Wt) : Prop where
  right : rightF G = true
  inside : ∀ u ∈ ws, idxF G u.x ≠ 0 ∧ idxF G u.x ≤ G.length - 1
  kilos : ∀ u ∈ ws, 0 ≤ u.kilos ∧ u.kilos < 65536
  few : ws.length ≤ 100
  light : 0 ≤ lightS (G.take (G.length - 1)) ∧ lightS (G.take (G.length - 1)) ≤ 400000000

theorem hull_ok {G : List Frm} {ws : List Wt} (H : Hull G ws) : sectionsF G ws = some (secL G ws) ∧ SecB (secL G ws) (dF G) ∧ curveF G ws = (curveS G (secL G ws), 0) := by
  obtain ⟨S, h1, h2, h3⟩ := putAll_in (l := G) (n := G.length - 1) ws (baseS G) (baseS_len G) H.inside
  have h1' : sectionsF G ws = some S := h1
  have hS := sections_secL h1'
  subst hS
  have h0 : (addAll (secL G ws)).a0 = lightS (G.take (G.length - 1)) + sumWt Sec.a0 ws := by
    rw [addAll_sum part0, h3 _ part0]
    unfold baseS
    rw [baseS_light G _ _ _ (by omega)]
  have hk := sumWt_kilos ws H.kilos
  have hL := H.light
  have hf := H.few
  obtain ⟨p1, p2, p3, p4⟩ := rightF_parts H.right
  have hkil : ∀ u ∈ ws, 0 ≤ u.kilos ∧ u.kilos ≤ 500000000 := fun u hu => by have := H.kilos u hu; omega
  have h5 := a5_pos (okFrom_ordF p3) p1 ws
  refine ⟨h1', ⟨⟨by omega, by omega⟩, h5, ?_, fun j => addAll_ok p3 p1 p2 p4 (by omega) hkil h1' j⟩, ?_⟩
  · unfold dF
    rw [← a5_same G ws]
    omega
  · unfold curveF
    rw [H.right, any_bad hkil, h1']
    simp only [Bool.not_true, Bool.or_false, Bool.false_eq_true, if_false]
    rw [if_neg (show ¬ 3000 < ws.length by omega), if_neg (show ¬ 500000000 < (addAll (secL G ws)).a0 by omega)]

/-- the factors add up to 0, the shares to all -/
theorem a4_sum (l : List Frm) (n : Nat) (all : Int) : ∀ k : Nat, sumSec Sec.a4 ((List.range k).map (secBase l n all)) = n * allX l k - k * all
  | 0 => by simp [sumSec, allX]
  | k + 1 => by
    have e : ∀ (S : List Sec) (a : Sec), sumSec Sec.a4 (S ++ [a]) = sumSec Sec.a4 S + a.a4 := by
      intro S a
      induction S with
      | nil => simp [sumSec]
      | cons b S ih2 => rw [List.cons_append, sumSec_cons, sumSec_cons, ih2]; omega
    rw [List.range_succ, List.map_append, List.map_singleton, e, a4_sum l n all k]
    show _ + ((n : Int) * hX l k - all) = (n : Int) * (allX l k + hX l k) - ((k + 1 : Nat) : Int) * all
    push_cast
    grind
theorem a4_all (G : List Frm) (ws : List Wt) : (addAll (secL G ws)).a4 = 0 := by
  rw [all_sum part4, preW_zero part4 (fun _ => rfl)]
  unfold preH
  rw [Nat.min_self, a4_sum]
  grind
theorem a2_sum : ∀ (l : List Frm) (n : Nat) (all : Int) (k : Nat), k ≤ l.length → sumSec Sec.a2 ((List.range k).map (secBase l n all)) = shareF (l.take k) := by
  intro l n all k
  induction k with
  | zero => intro _; simp [sumSec, shareF]
  | succ k ih =>
    intro h
    have e : ∀ (S : List Sec) (a : Sec), sumSec Sec.a2 (S ++ [a]) = sumSec Sec.a2 S + a.a2 := by
      intro S a
      induction S with
      | nil => simp [sumSec]
      | cons b S ih2 => rw [List.cons_append, sumSec_cons, sumSec_cons, ih2]; omega
    rw [List.range_succ, List.map_append, List.map_singleton, e, ih (by omega), List.take_succ_eq_append_getElem (by omega), shareF_snoc]
    congr 1
    show (l.getD k frm0).share = _
    simp [show k < l.length by omega]
theorem a2_all {G : List Frm} (hR : rightF G = true) (ws : List Wt) : (addAll (secL G ws)).a2 = 10000 := by
  obtain ⟨p1, p2, p3, p4⟩ := rightF_parts hR
  rw [all_sum part2, preW_zero part2 (fun _ => rfl)]
  unfold preH
  rw [Nat.min_self, a2_sum _ _ _ _ (by omega)]
  have hne : G ≠ [] := by intro e; rw [e] at p1; simp at p1
  have hl : (lastF G).share = 0 := by
    unfold rightF at hR
    simp only [Bool.and_eq_true, decide_eq_true_eq] at hR
    exact hR.2
  have e : G = G.take (G.length - 1) ++ [lastF G] := by
    have h1 := List.dropLast_concat_getLast hne
    rw [List.dropLast_eq_take] at h1
    unfold lastF
    rw [List.getLastD_eq_getLast?, List.getLast?_eq_some_getLast hne]
    exact h1.symm
  have h2 : shareF G = shareF (G.take (G.length - 1)) + (lastF G).share := by
    conv => lhs; rw [e]
    rw [shareF_snoc]
  omega

/-- shear and moment, told by the sums alone -/
def upN (W : Rat) (M T3 T5 c2 c4 : Rat) : Rat := W * c2 / 10000 + (M - W * T3 / 10000) / T5 * c4
theorem downR_sums (S : List Sec) (j : Nat) : downR S j = ((addAll (S.take j)).a0 : Rat) - upN (addAll S).a0 (addAll S).a1 (addAll S).a3 (addAll S).a5 (addAll (S.take j)).a2 (addAll (S.take j)).a4 := by
  unfold downR liftR kR upN
  rw [Rat.intCast_mul, Rat.intCast_mul]
  rfl
theorem twiceR_sums (F : List Frm) (S : List Sec) (j : Nat) : twiceR F S j = downR S j * (2 * (frmX F j : Rat)) + upN (addAll S).a0 (addAll S).a1 (addAll S).a3 (addAll S).a5 (addAll (S.take j)).a3 (addAll (S.take j)).a5 - ((addAll (S.take j)).a1 : Rat) := by
  unfold twiceR liftR kR upN
  rw [Rat.intCast_mul, Rat.intCast_mul, Rat.intCast_mul]
  rfl

/-- everything moved by t -/
def shiftS (t : Int) (s : Sec) : Sec := ⟨s.a0, s.a1 + 2 * t * s.a0, s.a2, s.a3 + 2 * t * s.a2, s.a4, s.a5 + 2 * t * s.a4⟩
theorem shiftS_add (t : Int) (a b : Sec) : shiftS t (a.add b) = (shiftS t a).add (shiftS t b) := by
  unfold shiftS Sec.add
  rw [Sec.mk.injEq]
  and_intros <;> grind
theorem fold_shift (t : Int) : ∀ (S : List Sec) (a : Sec), (S.map (shiftS t)).foldl Sec.add (shiftS t a) = shiftS t (S.foldl Sec.add a)
  | [], a => rfl
  | b :: S, a => by
    rw [List.map_cons, List.foldl_cons, List.foldl_cons, ← shiftS_add, fold_shift t S]
theorem addAll_shift (t : Int) (S : List Sec) : addAll (S.map (shiftS t)) = shiftS t (addAll S) := by
  unfold addAll
  have h := fold_shift t S Sec.zero
  have e : shiftS t Sec.zero = Sec.zero := by
    unfold shiftS Sec.zero
    simp
  rw [e] at h
  exact h
def moveF (t : Int) (f : Frm) : Frm := { f with x := f.x + t }
def moveW (t : Int) (u : Wt) : Wt := ⟨u.x + t, u.kilos⟩
theorem frmX_move (t : Int) (G : List Frm) {i : Nat} (h : i < G.length) : frmX (G.map (moveF t)) i = frmX G i + t := by
  rw [frmX_get (by simpa using h), frmX_get h]
  simp [moveF]
theorem hX_move (t : Int) (G : List Frm) {i : Nat} (h : i + 1 < G.length) : hX (G.map (moveF t)) i = hX G i + 2 * t := by
  unfold hX
  rw [frmX_move t G (by omega), frmX_move t G h]
  omega
theorem allX_move (t : Int) (G : List Frm) : ∀ k, k + 1 ≤ G.length → allX (G.map (moveF t)) k = allX G k + 2 * t * k
  | 0, _ => by simp [allX]
  | k + 1, h => by
    unfold allX
    rw [allX_move t G k (by omega), hX_move t G (by omega)]
    push_cast
    grind
theorem idx_move (t : Int) (G : List Frm) (y : Int) : idxF (G.map (moveF t)) (y + t) = idxF G y := by
  unfold idxF
  have e : ((fun f : Frm => decide (f.x ≤ y + t)) ∘ moveF t) = fun f => decide (f.x ≤ y) := by
    funext f
    show decide (f.x + t ≤ y + t) = decide (f.x ≤ y)
    rw [decide_eq_decide]
    omega
  rw [List.filter_map, List.length_map, e]
theorem wsum_move (t : Int) (G : List Frm) (i : Nat) : ∀ ws : List Wt, wsum (G.map (moveF t)) i (ws.map (moveW t)) = shiftS t (wsum G i ws)
  | [] => by
    show Sec.zero = _
    unfold wsum shiftS Sec.zero
    simp
  | u :: ws => by
    show Sec.add (if idxF (G.map (moveF t)) (u.x + t) = i + 1 then wtSec (moveW t u) else Sec.zero) (wsum _ i (ws.map (moveW t))) = shiftS t (Sec.add _ _)
    rw [wsum_move t G i ws, shiftS_add, idx_move]
    congr 1
    split
    · unfold wtSec shiftS moveW
      rw [Sec.mk.injEq]
      and_intros <;> grind
    · unfold shiftS Sec.zero
      simp
theorem secL_move (t : Int) (G : List Frm) (ws : List Wt) : secL (G.map (moveF t)) (ws.map (moveW t)) = (secL G ws).map (shiftS t) := by
  unfold secL
  rw [List.length_map, List.map_map]
  apply List.map_congr_left
  intro i hi
  rw [List.mem_range] at hi
  simp only [Function.comp, shiftS_add]
  rw [wsum_move]
  congr 1
  have e : (G.map (moveF t)).getD i frm0 = moveF t (G.getD i frm0) := by
    simp [List.getD_eq_getElem?_getD, show i < G.length by omega]
  unfold secBase shiftS
  rw [e, hX_move t G (by omega), allX_move t G _ (by omega)]
  rw [Sec.mk.injEq]
  simp only [moveF]
  and_intros <;> grind
end Go.Proofs.Ytcdfnlgimbecgaa

namespace Go.Proofs.Ytcdfnlgimbecgaa

theorem liftR_add (S : List Sec) (a b c d : Int) : liftR S (a + b) (c + d) = liftR S a c + liftR S b d := by
  unfold liftR
  rw [Rat.intCast_mul, Rat.intCast_mul, Rat.intCast_mul, Rat.intCast_add, Rat.intCast_add]
  generalize kR S = k
  have e : ((10000 : Int) : Rat) = 10000 := rfl
  rw [e]
  grind
theorem liftR_zero (S : List Sec) : liftR S 0 0 = 0 := by
  unfold liftR
  rw [Int.mul_zero]
  have e : ((10000 : Int) : Rat) = 10000 := rfl
  have e0 : ((0 : Int) : Rat) = 0 := rfl
  rw [e, e0]
  grind
theorem take_add (S : List Sec) {i : Nat} (h : i < S.length) : addAll (S.take (i + 1)) = (addAll (S.take i)).add S[i] := addAll_snoc S h

/-- at the fore end -/
theorem down_zero (S : List Sec) : downR S 0 = 0 := by
  have e : addAll (S.take 0) = Sec.zero := rfl
  unfold downR
  rw [e]
  show ((0 : Int) : Rat) - liftR S 0 0 = 0
  rw [liftR_zero]
  have e0 : ((0 : Int) : Rat) = 0 := rfl
  rw [e0]
  grind
theorem bend_zero (F : List Frm) (S : List Sec) : bendR F S 0 = 0 := by
  have e : addAll (S.take 0) = Sec.zero := rfl
  unfold bendR twiceR
  rw [down_zero, e]
  show ((0 : Rat) * _ + liftR S 0 0 - ((0 : Int) : Rat)) / _ = 0
  rw [liftR_zero]
  have e0 : ((0 : Int) : Rat) = 0 := rfl
  have e2 : ((2 : Int) : Rat) = 2 := rfl
  rw [e0, e2]
  grind
/-- at the aft end -/
theorem lift_all {S : List Sec} (h5 : ((addAll S).a5 : Rat) ≠ 0) : liftR S (addAll S).a3 (addAll S).a5 = ((addAll S).a1 : Rat) := by
  unfold liftR kR
  rw [Rat.div_def _ ((addAll S).a5 : Rat)]
  have e := Rat.inv_mul_cancel _ h5
  generalize ((addAll S).a5 : Rat)⁻¹ = i at *
  grind
theorem lift_W {S : List Sec} : liftR S 10000 0 = ((addAll S).a0 : Rat) := by
  unfold liftR
  rw [Rat.intCast_mul]
  generalize kR S = k
  have e : ((10000 : Int) : Rat) = 10000 := rfl
  have e0 : ((0 : Int) : Rat) = 0 := rfl
  rw [e, e0]
  grind
theorem down_end {S : List Sec} (h2 : (addAll S).a2 = 10000) (h4 : (addAll S).a4 = 0) : downR S S.length = 0 := by
  unfold downR
  rw [List.take_length, h2, h4, lift_W]
  grind
theorem bend_end (F : List Frm) {S : List Sec} (h2 : (addAll S).a2 = 10000) (h4 : (addAll S).a4 = 0) (h5 : ((addAll S).a5 : Rat) ≠ 0) : bendR F S S.length = 0 := by
  unfold bendR twiceR
  rw [down_end h2 h4, List.take_length, lift_all h5]
  have e2 : ((2 : Int) : Rat) = 2 := rfl
  rw [e2]
  grind
/-- the buoyancy of a section -/
theorem lift_step (S : List Sec) {i : Nat} (h : i < S.length) : ((S[i]).a0 : Rat) - (downR S (i + 1) - downR S i) = liftR S (S[i]).a2 (S[i]).a4 := by
  unfold downR
  rw [take_add S h]
  show ((S[i]).a0 : Rat) - ((((addAll (S.take i)).a0 + (S[i]).a0 : Int) : Rat) - liftR S ((addAll (S.take i)).a2 + (S[i]).a2) ((addAll (S.take i)).a4 + (S[i]).a4) - (((addAll (S.take i)).a0 : Rat) - liftR S (addAll (S.take i)).a2 (addAll (S.take i)).a4)) = _
  rw [liftR_add, Rat.intCast_add]
  grind
theorem lift_sum (S : List Sec) {i : Nat} (h : i < S.length) : liftR S (addAll (S.take i)).a2 (addAll (S.take i)).a4 + liftR S (S[i]).a2 (S[i]).a4 = liftR S (addAll (S.take (i + 1))).a2 (addAll (S.take (i + 1))).a4 := by
  rw [take_add S h]
  exact (liftR_add S _ _ _ _).symm
theorem lift_times (S : List Sec) (sh fa hh : Int) : liftR S sh fa * (hh : Rat) = liftR S (sh * hh) (fa * hh) := by
  unfold liftR
  rw [Rat.intCast_mul, Rat.intCast_mul, Rat.intCast_mul, Rat.intCast_mul]
  generalize kR S = k
  have e : ((10000 : Int) : Rat) = 10000 := rfl
  rw [e]
  grind
theorem lever_sum (S : List Sec) {i : Nat} (h : i < S.length) : liftR S (addAll (S.take i)).a3 (addAll (S.take i)).a5 + liftR S (S[i]).a3 (S[i]).a5 = liftR S (addAll (S.take (i + 1))).a3 (addAll (S.take (i + 1))).a5 := by
  rw [take_add S h]
  exact (liftR_add S _ _ _ _).symm
/-- what it is more than its share -/
theorem lift_more (S : List Sec) (sh fa : Int) : liftR S sh fa - (((addAll S).a0 * sh : Int) : Rat) / ((10000 : Int) : Rat) = kR S * (fa : Rat) := by
  unfold liftR
  grind
/-- how twice the bending moment grows along a section -/
theorem bend_step (F : List Frm) (S : List Sec) {i : Nat} (h : i < S.length) (hh : Int) (h3 : (S[i]).a3 = (S[i]).a2 * hh) (h5 : (S[i]).a5 = (S[i]).a4 * hh) :
    downR S i * ((2 * (frmX F (i + 1) - frmX F i) : Int) : Rat) + ((2 * (S[i]).a0 * frmX F (i + 1) - (S[i]).a1 : Int) : Rat) - liftR S (S[i]).a2 (S[i]).a4 * ((2 * frmX F (i + 1) - hh : Int) : Rat) = (bendR F S (i + 1) - bendR F S i) * ((2 : Int) : Rat) := by
  have hs := lift_step S h
  have ht := lift_times S (S[i]).a2 (S[i]).a4 hh
  rw [← h3, ← h5] at ht
  have hl := lever_sum S h
  have h1 : (addAll (S.take (i + 1))).a1 = (addAll (S.take i)).a1 + (S[i]).a1 := by rw [take_add S h]; rfl
  unfold bendR twiceR
  rw [← hl, h1]
  push_cast
  generalize downR S (i + 1) = d1 at *
  generalize downR S i = d0 at *
  generalize liftR S (S[i]).a2 (S[i]).a4 = li at *
  generalize liftR S (S[i]).a3 (S[i]).a5 = le at *
  grind
end Go.Proofs.Ytcdfnlgimbecgaa

namespace Go.Proofs.Ytcdfnlgimbecgaa

section
variable {S : List Sec} {D : Nat} (h : SecB S D)
include h
theorem SecB.one {i : Nat} (hi : i < S.length) : ((S[i]).a0.natAbs ≤ 4000000000000 ∧ (S[i]).a1.natAbs ≤ 4000000000000000000) ∧ (S[i]).a2.natAbs ≤ 20000 ∧ (S[i]).a4.natAbs ≤ 3480000000 := by
  have h1 := h.sums i
  have h2 := h.sums (i + 1)
  rw [take_add S hi] at h2
  unfold Sec.add at h2
  simp only at h2
  omega
theorem SecB.piece {i : Nat} (hi : i < S.length) : Bd D 60000000000000000000000000000000000000 (liftR S (S[i]).a2 (S[i]).a4) := by
  have := h.one hi
  exact h.lift _ _ (by omega) (by omega)
theorem SecB.prefix2 (j : Nat) : Bd D 60000000000000000000000000000000000000 (liftR S (addAll (S.take j)).a2 (addAll (S.take j)).a4) := by
  have := h.sums j
  exact h.lift _ _ (by omega) (by omega)
theorem SecB.prefix3 (j : Nat) : Bd D 60000000000000000000000000000000000000 (liftR S (addAll (S.take j)).a3 (addAll (S.take j)).a5) := by
  have := h.sums j
  exact h.lift _ _ (by omega) (by omega)
/-- the buoyancy of a section -/
theorem ends_lift {i : Nat} (hi : i < S.length) : (subL (ofL (S[i]).a0) (subL (ofRat (downR S (i + 1))) (ofRat (downR S i))).1).1 = ofRat (liftR S (S[i]).a2 (S[i]).a4) := by
  have h1 := (h.down (i + 1)).sub (h.down i)
  rw [subR (h.fits h1 (by decide)), ofL_rat, subR (by rw [lift_step S hi]; exact h.fits (h.piece hi) (by decide)), lift_step S hi]
theorem ends_sum {i : Nat} (hi : i < S.length) : (addL (ofRat (liftR S (addAll (S.take i)).a2 (addAll (S.take i)).a4)) (ofRat (liftR S (S[i]).a2 (S[i]).a4))).1 = ofRat (liftR S (addAll (S.take (i + 1))).a2 (addAll (S.take (i + 1))).a4) := by
  rw [addR (by rw [lift_sum S hi]; exact h.fits (h.prefix2 (i + 1)) (by decide)), lift_sum S hi]
theorem ends_lever {i : Nat} (hi : i < S.length) (hh : Int) (hhb : hh.natAbs ≤ 1000000) (h3 : (S[i]).a3 = (S[i]).a2 * hh) (h5 : (S[i]).a5 = (S[i]).a4 * hh) :
    (addL (ofRat (liftR S (addAll (S.take i)).a3 (addAll (S.take i)).a5)) (mulL (ofRat (liftR S (S[i]).a2 (S[i]).a4)) (ofL hh)).1).1 = ofRat (liftR S (addAll (S.take (i + 1))).a3 (addAll (S.take (i + 1))).a5) := by
  have h1 := (h.piece hi).mul hh hhb
  have ht := lift_times S (S[i]).a2 (S[i]).a4 hh
  rw [← h3, ← h5] at ht
  rw [ofL_rat, mulR (h.fits h1 (by decide)), ht, addR (by rw [lever_sum S hi]; exact h.fits (h.prefix3 (i + 1)) (by decide)), lever_sum S hi]
theorem SecB.more {i : Nat} (hi : i < S.length) : Bd D 200000000000000000000000000000000 (kR S * ((S[i]).a4 : Rat)) := by
  have := h.one hi
  exact (h.k.mul (S[i]).a4 (M := 3480000000) (by omega)).mono (by decide)
theorem ends_more {i : Nat} (hi : i < S.length) : (subL (ofRat (liftR S (S[i]).a2 (S[i]).a4)) (ratioL ((addAll S).a0 * (S[i]).a2) 10000).1).1 = ofRat (kR S * ((S[i]).a4 : Rat)) := by
  have ho := h.one hi
  have h1 := h.ratio (S[i]).a2 (by omega)
  rw [ratioR (by decide) (h.fits h1 (by decide)), subR (by rw [lift_more]; exact h.fits (h.more hi) (by decide)), lift_more]
/-- they grow evenly -/
theorem ends_even {i : Nat} (hi : i < S.length) (h0 : 0 < S.length) : (mulL (ofRat (kR S * ((S[i]).a4 : Rat))) (ofL (S[0]).a4)).1 = (mulL (ofRat (kR S * ((S[0]).a4 : Rat))) (ofL (S[i]).a4)).1 := by
  have o1 := h.one hi
  have o2 := h.one h0
  have h1 := (h.more hi).mul (S[0]).a4 (M := 3480000000) (by omega)
  have h2 := (h.more h0).mul (S[i]).a4 (M := 3480000000) (by omega)
  rw [ofL_rat, ofL_rat, mulR (h.fits h1 (by decide)), mulR (h.fits h2 (by decide))]
  congr 1
  grind
/-- the bending moment grows as it must -/
theorem ends_bend {F : List Frm} {i : Nat} (hi : i < S.length) (hh : Int) (hx0 : (frmX F i).natAbs ≤ 500000) (hx1 : (frmX F (i + 1)).natAbs ≤ 500000) (hhb : hh.natAbs ≤ 1000000) (h3 : (S[i]).a3 = (S[i]).a2 * hh) (h5 : (S[i]).a5 = (S[i]).a4 * hh) :
    (subL (addL (mulL (ofRat (downR S i)) (ofL (2 * (frmX F (i + 1) - frmX F i)))).1 (ofL (2 * (S[i]).a0 * frmX F (i + 1) - (S[i]).a1))).1 (mulL (ofRat (liftR S (S[i]).a2 (S[i]).a4)) (ofL (2 * frmX F (i + 1) - hh))).1).1 = (mulL (subL (ofRat (bendR F S (i + 1))) (ofRat (bendR F S i))).1 (ofL 2)).1 := by
  have ho := h.one hi
  have hD := h.Dpos
  have b1 := (h.down i).mul (2 * (frmX F (i + 1) - frmX F i)) (M := 2000000) (by omega)
  have hz : (2 * (S[i]).a0 * frmX F (i + 1) - (S[i]).a1).natAbs ≤ 8000000000000000000 := by
    have e1 : (2 * (S[i]).a0 * frmX F (i + 1)).natAbs ≤ 8000000000000 * 500000 := by
      rw [Int.natAbs_mul]
      exact Nat.mul_le_mul (by omega) hx1
    omega
  have b2 := Bd.int (D := D) (M := 8000000000000000000) (2 * (S[i]).a0 * frmX F (i + 1) - (S[i]).a1) hz
  have b3 := (h.piece hi).mul (2 * frmX F (i + 1) - hh) (M := 2000000) (by omega)
  have b12 := b1.add b2
  have hb12 : 70000000000000000000000000000000000000 * 2000000 + 8000000000000000000 * D < top256 := Nat.lt_of_le_of_lt (Nat.add_le_add_left (Nat.mul_le_mul_left _ hD.2) _) (by decide)
  have b123 := b12.sub b3
  have hb123 : 70000000000000000000000000000000000000 * 2000000 + 8000000000000000000 * D + 60000000000000000000000000000000000000 * 2000000 < top256 := Nat.lt_of_le_of_lt (Nat.add_le_add_right (Nat.add_le_add_left (Nat.mul_le_mul_left _ hD.2) _) _) (by decide)
  have c1 := (h.bend (F := F) (i + 1) hx1).sub (h.bend (F := F) i hx0)
  have hs := bend_step F S hi hh h3 h5
  rw [ofL_rat, mulR (h.fits b1 (by decide)), ofL_rat, addR (h.fits b12 hb12), ofL_rat, mulR (h.fits b3 (by decide)), subR (h.fits b123 hb123), hs, subR (h.fits2 c1 (by decide)), ofL_rat, mulR]
  rw [← hs]
  exact h.fits b123 hb123
end
end Go.Proofs.Ytcdfnlgimbecgaa

namespace Go.Proofs.Ytcdfnlgimbecgaa

theorem hull_made {F t : List Frm} {r x : Int} (M : MadeF F t r x) (ws : List Wt) (hw : ∀ u ∈ ws, (-20000 ≤ u.x ∧ u.x < x) ∧ (0 ≤ u.kilos ∧ u.kilos < 65536)) (hl : ws.length ≤ 100) : Hull F ws := by
  have hlen : F.length = t.length + 3 := by rw [M.eq]; simp
  refine ⟨M.right, fun u hu => M.inside (hw u hu).1.1 (hw u hu).1.2, fun u hu => (hw u hu).2, hl, ?_⟩
  have e : lightS (F.take (F.length - 1)) = 5000 + lightS t := by
    rw [hlen]
    rw [M.eq]
    show lightS (_ :: _ :: ((t ++ [(⟨x, 0, 0, 0, 0⟩ : Frm)]).take t.length)) = _
    rw [List.take_left]
    simp only [lightS_cons]
    omega
  have h1 := M.light
  rw [e]
  omega

theorem splits_ex {F : List Frm} (ho : ordF F) (y : Int) : ∀ n, n ≤ F.length → ∃ i, i ≤ n ∧ (∀ j (hj : j < F.length), j < i → F[j].x ≤ y) ∧ ∀ j (hj : j < F.length), i ≤ j → j < n → y < F[j].x
  | 0, _ => ⟨0, Nat.le_refl _, fun j _ h => by omega, fun j _ _ h => by omega⟩
  | n + 1, hn => by
    obtain ⟨i, h1, h2, h3⟩ := splits_ex ho y n (by omega)
    rcases Nat.lt_or_ge i n with h | h
    · refine ⟨i, by omega, h2, fun j hj hij hjn => ?_⟩
      rcases Nat.lt_or_ge j n with h4 | h4
      · exact h3 j hj hij h4
      · obtain rfl : j = n := by omega
        have h5 := h3 i (by omega) (Nat.le_refl _) h
        have h6 := ho i j h hj (by omega)
        omega
    · obtain rfl : i = n := by omega
      by_cases hx : (F[i]'(by omega)).x ≤ y
      · refine ⟨i + 1, Nat.le_refl _, fun j hj hji => ?_, fun j hj h4 h5 => by omega⟩
        rcases Nat.lt_or_ge j i with h4 | h4
        · exact h2 j hj h4
        · obtain rfl : j = i := by omega
          exact hx
      · refine ⟨i, by omega, h2, fun j hj h4 h5 => ?_⟩
        obtain rfl : j = i := by omega
        omega
theorem idx_splits {F : List Frm} (ho : ordF F) (y : Int) : Splits F y (idxF F y) := by
  obtain ⟨i, h1, h2, h3⟩ := splits_ex ho y F.length (Nat.le_refl _)
  have hs : Splits F y i := ⟨h1, h2, fun j hj hij => h3 j hj hij hj⟩
  rw [← splits_idx hs]
  exact hs
theorem idx_iff {F : List Frm} (ho : ordF F) {y : Int} {i : Nat} (h : i + 1 < F.length) : idxF F y = i + 1 ↔ (frmX F i ≤ y ∧ y < frmX F (i + 1)) := by
  constructor
  · intro he
    have hs := idx_splits ho y
    rw [he] at hs
    obtain ⟨_, h2, h3⟩ := hs
    rw [frmX_get (by omega), frmX_get h]
    exact ⟨h2 i (by omega) (by omega), h3 (i + 1) h (by omega)⟩
  · rintro ⟨h1, h2⟩
    rw [frmX_get (by omega)] at h1
    rw [frmX_get h] at h2
    refine (splits_idx ⟨by omega, fun j hj hji => ?_, fun j hj hji => ?_⟩).symm
    · rcases Nat.lt_or_ge j i with h3 | h3
      · have := ho j i h3 (by omega) hj
        omega
      · have : j = i := by omega
        subst this
        exact h1
    · rcases Nat.lt_or_ge (i + 1) j with h3 | h3
      · have := ho (i + 1) j h3 hj h
        omega
      · have : j = i + 1 := by omega
        subst this
        exact h2

theorem wsum_snoc (F : List Frm) (i : Nat) (L : List Wt) {k : Nat} (h : k < L.length) : wsum F i (L.take (k + 1)) = (wsum F i (L.take k)).add (if idxF F (L[k]).x = i + 1 then wtSec L[k] else Sec.zero) := by
  rw [List.take_succ_eq_append_getElem h, wsum_append]
  show Sec.add _ (Sec.add _ Sec.zero) = _
  rw [Sec.add_zero]
def wK (F : List Frm) (L : List Wt) (i k : Nat) : Int := (F.getD i frm0).light + (wsum F i (L.take k)).a0
def mK (F : List Frm) (L : List Wt) (i k : Nat) : Int := (F.getD i frm0).light * hX F i + (wsum F i (L.take k)).a1
theorem wK_zero (F : List Frm) (L : List Wt) (i : Nat) : wK F L i 0 = (F.getD i frm0).light := by unfold wK; simp [wsum, Sec.zero]
theorem mK_zero (F : List Frm) (L : List Wt) (i : Nat) : mK F L i 0 = (F.getD i frm0).light * hX F i := by unfold mK; simp [wsum, Sec.zero]
theorem wmK_in {F : List Frm} {L : List Wt} {i k : Nat} (h : k < L.length) (hi : idxF F (L[k]).x = i + 1) : wK F L i (k + 1) = wK F L i k + (L[k]).kilos ∧ mK F L i (k + 1) = mK F L i k + 2 * (L[k]).kilos * (L[k]).x := by
  unfold wK mK
  rw [wsum_snoc F i L h, if_pos hi]
  simp only [Sec.add, wtSec]
  omega
theorem wmK_out {F : List Frm} {L : List Wt} {i k : Nat} (h : k < L.length) (hi : idxF F (L[k]).x ≠ i + 1) : wK F L i (k + 1) = wK F L i k ∧ mK F L i (k + 1) = mK F L i k := by
  unfold wK mK
  rw [wsum_snoc F i L h, if_neg hi]
  simp only [Sec.add, Sec.zero]
  omega
theorem secL_get {F : List Frm} {L : List Wt} {i : Nat} (h : i < (secL F L).length) : (secL F L)[i] = (secBase F (F.length - 1) (allX F (F.length - 1)) i).add (wsum F i L) := by simp [secL]
theorem wmK_all {F : List Frm} {L : List Wt} {i : Nat} (h : i < (secL F L).length) : wK F L i L.length = ((secL F L)[i]).a0 ∧ mK F L i L.length = ((secL F L)[i]).a1 := by
  rw [secL_get h]
  unfold wK mK
  rw [List.take_length]
  exact ⟨rfl, rfl⟩
theorem sec_rest {F : List Frm} {L : List Wt} {i : Nat} (h : i < (secL F L).length) : ((secL F L)[i]).a2 = (F.getD i frm0).share ∧ ((secL F L)[i]).a4 = ((F.length - 1 : Nat) : Int) * hX F i - allX F (F.length - 1) ∧ ((secL F L)[i]).a3 = ((secL F L)[i]).a2 * hX F i ∧ ((secL F L)[i]).a5 = ((secL F L)[i]).a4 * hX F i := by
  rw [secL_get h]
  have h2 := wsum_part part2 (fun _ => rfl) F i L
  have h3 := wsum_part part3 (fun _ => rfl) F i L
  have h4 := wsum_part part4 (fun _ => rfl) F i L
  have h5 := wsum_part part5 (fun _ => rfl) F i L
  simp only [Sec.add, secBase, h2, h3, h4, h5]
  refine ⟨by omega, by omega, by rw [Int.add_zero, Int.add_zero], by rw [Int.add_zero, Int.add_zero]⟩
theorem wsum_bd (F : List Frm) (i : Nat) : ∀ ws : List Wt, (∀ u ∈ ws, (-20000 ≤ u.x ∧ u.x < 70000) ∧ (0 ≤ u.kilos ∧ u.kilos < 65536)) → (wsum F i ws).a0.natAbs ≤ 65536 * ws.length ∧ (wsum F i ws).a1.natAbs ≤ 10000000000 * ws.length
  | [], _ => by simp [wsum, Sec.zero]
  | u :: ws, h => by
    have h1 := wsum_bd F i ws fun v hv => h v (by simp [hv])
    have h2 := h u (by simp)
    have h3 : (2 * u.kilos * u.x).natAbs ≤ 10000000000 := by
      rw [Int.natAbs_mul]
      have e1 : (2 * u.kilos).natAbs ≤ 131072 := by omega
      have e2 : u.x.natAbs ≤ 70000 := by omega
      have := Nat.mul_le_mul e1 e2
      omega
    unfold wsum
    simp only [List.length_cons]
    split
    · simp only [Sec.add, wtSec]
      omega
    · simp only [Sec.add, Sec.zero]
      omega
theorem light_nn : ∀ (F : List Frm), (∀ f ∈ F, 0 ≤ f.light) → ∀ (f : Frm), f ∈ F → f.light ≤ lightS F
  | [], _, f, hf => by cases hf
  | g :: F, h, f, hf => by
    rw [lightS_cons]
    have h0 : 0 ≤ lightS F := by
      clear hf
      induction F with
      | nil => simp [lightS]
      | cons a F ih => rw [lightS_cons]; have := h a (by simp); have := ih (fun x hx => h x (by rcases List.mem_cons.1 hx with rfl | hx <;> simp_all)); omega
    rcases List.mem_cons.1 hf with rfl | hf
    · omega
    · have := light_nn F (fun x hx => h x (by simp [hx])) f hf
      have := h g (by simp)
      omega
end Go.Proofs.Ytcdfnlgimbecgaa
