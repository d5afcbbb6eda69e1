/-
  Hulls that are moved, and mirrored: their sections. Plain.
  Hulls that are moved have the same curve; what is mirrored. Plain.
  Mirrored hulls have the negative shear, and the same bending moment. Plain.
-/
import Derived.Test.YthlbcijlbgbooaaMg42

namespace Go.Proofs.Ythlbcijlbgbooaa

/-- frames that are right, and weights within them -/
structure Hull (G : List Frm) (ws : List Wt) : Prop where
  right : rightF G = true
  inside : ∀ u ∈ ws, idxF G u.x ≠ 0 ∧ idxF G u.x ≤ G.length - 1
  kilos : ∀ u ∈ ws, 0 ≤ u.kilos ∧ u.kilos < 65536
  few : ws.length ≤ 100
  light : 0 ≤ lightS (G.take (G.length - 1)) ∧ lightS (G.take (G.length - 1)) ≤ 400000000

theorem hull_ok {G : List Frm} {ws : List Wt} (H : Hull G ws) : sectionsF G ws = some (secL G ws) ∧ SecB (secL G ws) (dF G) ∧ curveF G ws = (curveS G (secL G ws), 0) := by
  obtain ⟨S, h1, h2, h3⟩ := putAll_in (l := G) (n := G.length - 1) ws (baseS G) (baseS_len G) H.inside
  have h1' : sectionsF G ws = some S := h1
  have hS := sections_secL h1'
  subst hS
  have h0 : (addAll (secL G ws)).a0 = lightS (G.take (G.length - 1)) + sumWt Sec.a0 ws := by
    rw [addAll_sum part0, h3 _ part0]
    unfold baseS
    rw [baseS_light G _ _ _ (by omega)]
  have hk := sumWt_kilos ws H.kilos
  have hL := H.light
  have hf := H.few
  obtain ⟨p1, p2, p3, p4⟩ := rightF_parts H.right
  have hkil : ∀ u ∈ ws, 0 ≤ u.kilos ∧ u.kilos ≤ 500000000 := fun u hu => by have := H.kilos u hu; omega
  have h5 := a5_pos (okFrom_ordF p3) p1 ws
  refine ⟨h1', ⟨⟨by omega, by omega⟩, h5, ?_, fun j => addAll_ok p3 p1 p2 p4 (by omega) hkil h1' j⟩, ?_⟩
  · unfold dF
    rw [← a5_same G ws]
    omega
  · unfold curveF
    rw [H.right, any_bad hkil, h1']
    simp only [Bool.not_true, Bool.or_false, Bool.false_eq_true, if_false]
    rw [if_neg (show ¬ 3000 < ws.length by omega), if_neg (show ¬ 500000000 < (addAll (secL G ws)).a0 by omega)]

/-- the factors add up to 0, the shares to all -/
theorem a4_sum (l : List Frm) (n : Nat) (all : Int) : ∀ k : Nat, sumSec Sec.a4 ((List.range k).map (secBase l n all)) = n * allX l k - k * all
  | 0 => by simp [sumSec, allX]
  | k + 1 => by
    have e : ∀ (S : List Sec) (a : Sec), sumSec Sec.a4 (S ++ [a]) = sumSec Sec.a4 S + a.a4 := by
      intro S a
      induction S with
      | nil => simp [sumSec]
      | cons b S ih2 => rw [List.cons_append, sumSec_cons, sumSec_cons, ih2]; omega
    rw [List.range_succ, List.map_append, List.map_singleton, e, a4_sum l n all k]
    show _ + ((n : Int) * hX l k - all) = (n : Int) * (allX l k + hX l k) - ((k + 1 : Nat) : Int) * all
    push_cast
    grind
theorem a4_all (G : List Frm) (ws : List Wt) : (addAll (secL G ws)).a4 = 0 := by
  rw [all_sum part4, preW_zero part4 (fun _ => rfl)]
  unfold preH
  rw [Nat.min_self, a4_sum]
  grind
theorem a2_sum : ∀ (l : List Frm) (n : Nat) (all : Int) (k : Nat), k ≤ l.length → sumSec Sec.a2 ((List.range k).map (secBase l n all)) = shareF (l.take k) := by
  intro l n all k
  induction k with
  | zero => intro _; simp [sumSec, shareF]
  | succ k ih =>
    intro h
    have e : ∀ (S : List Sec) (a : Sec), sumSec Sec.a2 (S ++ [a]) = sumSec Sec.a2 S + a.a2 := by
      intro S a
      induction S with
      | nil => simp [sumSec]
      | cons b S ih2 => rw [List.cons_append, sumSec_cons, sumSec_cons, ih2]; omega
    rw [List.range_succ, List.map_append, List.map_singleton, e, ih (by omega), List.take_succ_eq_append_getElem (by omega), shareF_snoc]
    congr 1
    show (l.getD k frm0).share = _
    simp [show k < l.length by omega]
theorem a2_all {G : List Frm} (hR : rightF G = true) (ws : List Wt) : (addAll (secL G ws)).a2 = 10000 := by
  obtain ⟨p1, p2, p3, p4⟩ := rightF_parts hR
  rw [all_sum part2, preW_zero part2 (fun _ => rfl)]
  unfold preH
  rw [Nat.min_self, a2_sum _ _ _ _ (by omega)]
  have hne : G ≠ [] := by intro e; rw [e] at p1; simp at p1
  have hl : (lastF G).share = 0 := by
    unfold rightF at hR
    simp only [Bool.and_eq_true, decide_eq_true_eq] at hR
    exact hR.2
  have e : G = G.take (G.length - 1) ++ [lastF G] := by
    have h1 := List.dropLast_concat_getLast hne
    rw [List.dropLast_eq_take] at h1
    unfold lastF
    rw [List.getLastD_eq_getLast?, List.getLast?_eq_some_getLast hne]
    exact h1.symm
  have h2 : shareF G = shareF (G.take (G.length - 1)) + (lastF G).share := by
    conv => lhs; rw [e]
    rw [shareF_snoc]
  omega

/-- shear and moment, told by the sums alone -/
def upN (W : Rat) (M T3 T5 c2 c4 : Rat) : Rat := W * c2 / 10000 + (M - W * T3 / 10000) / T5 * c4
theorem downR_sums (S : List Sec) (j : Nat) : downR S j = ((addAll (S.take j)).a0 : Rat) - upN (addAll S).a0 (addAll S).a1 (addAll S).a3 (addAll S).a5 (addAll (S.take j)).a2 (addAll (S.take j)).a4 := by
  unfold downR liftR kR upN
  rw [Rat.intCast_mul, Rat.intCast_mul]
  rfl
theorem twiceR_sums (F : List Frm) (S : List Sec) (j : Nat) : twiceR F S j = downR S j * (2 * (frmX F j : Rat)) + upN (addAll S).a0 (addAll S).a1 (addAll S).a3 (addAll S).a5 (addAll (S.take j)).a3 (addAll (S.take j)).a5 - ((addAll (S.take j)).a1 : Rat) := by
  unfold twiceR liftR kR upN
  rw [Rat.intCast_mul, Rat.intCast_mul, Rat.intCast_mul]
  rfl

/-- everything moved by t -/
def shiftS (t : Int) (s : Sec) : Sec := ⟨s.a0, s.a1 + 2 * t * s.a0, s.a2, s.a3 + 2 * t * s.a2, s.a4, s.a5 + 2 * t * s.a4⟩
theorem shiftS_add (t : Int) (a b : Sec) : shiftS t (a.add b) = (shiftS t a).add (shiftS t b) := by
  unfold shiftS Sec.add
  rw [Sec.mk.injEq]
  and_intros <;> grind
theorem fold_shift (t : Int) : ∀ (S : List Sec) (a : Sec), (S.map (shiftS t)).foldl Sec.add (shiftS t a) = shiftS t (S.foldl Sec.add a)
  | [], a => rfl
  | b :: S, a => by
    rw [List.map_cons, List.foldl_cons, List.foldl_cons, ← shiftS_add, fold_shift t S]
theorem addAll_shift (t : Int) (S : List Sec) : addAll (S.map (shiftS t)) = shiftS t (addAll S) := by
  unfold addAll
  have h := fold_shift t S Sec.zero
  have e : shiftS t Sec.zero = Sec.zero := by
    unfold shiftS Sec.zero
    simp
  rw [e] at h
  exact h
def moveF (t : Int) (f : Frm) : Frm := { f with x := f.x + t }
def moveW (t : Int) (u : Wt) : Wt := ⟨u.x + t, u.kilos⟩
theorem frmX_move (t : Int) (G : List Frm) {i : Nat} (h : i < G.length) : frmX (G.map (moveF t)) i = frmX G i + t := by
  rw [frmX_get (by simpa using h), frmX_get h]
  simp [moveF]
theorem hX_move (t : Int) (G : List Frm) {i : Nat} (h : i + 1 < G.length) : hX (G.map (moveF t)) i = hX G i + 2 * t := by
  unfold hX
  rw [frmX_move t G (by omega), frmX_move t G h]
  omega
theorem allX_move (t : Int) (G : List Frm) : ∀ k, k + 1 ≤ G.length → allX (G.map (moveF t)) k = allX G k + 2 * t * k
  | 0, _ => by simp [allX]
  | k + 1, h => by
    unfold allX
    rw [allX_move t G k (by omega), hX_move t G (by omega)]
    push_cast
    grind
theorem idx_move (t : Int) (G : List Frm) (y : Int) : idxF (G.map (moveF t)) (y + t) = idxF G y := by
  unfold idxF
  have e : ((fun f : Frm => decide (f.x ≤ y + t)) ∘ moveF t) = fun f => decide (f.x ≤ y) := by
    funext f
    show decide (f.x + t ≤ y + t) = decide (f.x ≤ y)
    rw [decide_eq_decide]
    omega
  rw [List.filter_map, List.length_map, e]
theorem wsum_move (t : Int) (G : List Frm) (i : Nat) : ∀ ws : List Wt, wsum (G.map (moveF t)) i (ws.map (moveW t)) = shiftS t (wsum G i ws)
  | [] => by
    show Sec.zero = _
    unfold wsum shiftS Sec.zero
    simp
  | u :: ws => by
    show Sec.add (if idxF (G.map (moveF t)) (u.x + t) = i + 1 then wtSec (moveW t u) else Sec.zero) (wsum _ i (ws.map (moveW t))) = shiftS t (Sec.add _ _)
    rw [wsum_move t G i ws, shiftS_add, idx_move]
    congr 1
    split
    · unfold wtSec shiftS moveW
      rw [Sec.mk.injEq]
      and_intros <;> grind
    · unfold shiftS Sec.zero
      simp
theorem secL_move (t : Int) (G : List Frm) (ws : List Wt) : secL (G.map (moveF t)) (ws.map (moveW t)) = (secL G ws).map (shiftS t) := by
  unfold secL
  rw [List.length_map, List.map_map]
  apply List.map_congr_left
  intro i hi
  rw [List.mem_range] at hi
  simp only [Function.comp, shiftS_add]
  rw [wsum_move]
  congr 1
  have e : (G.map (moveF t)).getD i frm0 = moveF t (G.getD i frm0) := by
    simp [List.getD_eq_getElem?_getD, show i < G.length by omega]
  unfold secBase shiftS
  rw [e, hX_move t G (by omega), allX_move t G _ (by omega)]
  rw [Sec.mk.injEq]
  simp only [moveF]
  and_intros <;> grind
end Go.Proofs.Ythlbcijlbgbooaa

namespace Go.Proofs.Ythlbcijlbgbooaa

theorem upN_move (W M T3 T5 c2 c4 t : Rat) : upN W (M + 2 * t * W) (T3 + 2 * t * 10000) T5 c2 c4 = upN W M T3 T5 c2 c4 := by
  unfold upN
  have e : M + 2 * t * W - W * (T3 + 2 * t * 10000) / 10000 = M - W * T3 / 10000 := by grind
  rw [e]
theorem upN_add (W M T3 T5 c2 c4 d2 d4 t : Rat) : upN W M T3 T5 (c2 + t * d2) (c4 + t * d4) = upN W M T3 T5 c2 c4 + t * upN W M T3 T5 d2 d4 := by
  unfold upN
  generalize (M - W * T3 / 10000) / T5 = k
  grind
theorem shift_prefix (t : Int) (S : List Sec) (j : Nat) : addAll ((S.map (shiftS t)).take j) = shiftS t (addAll (S.take j)) := by
  rw [← List.map_take, addAll_shift]

section
variable {G : List Frm} (hR : rightF G = true) (ws : List Wt) (t : Int)
include hR
theorem down_move (j : Nat) : downR (secL (G.map (moveF t)) (ws.map (moveW t))) j = downR (secL G ws) j := by
  rw [secL_move, downR_sums, downR_sums, shift_prefix, addAll_shift]
  have h2 := a2_all hR ws
  have h4 := a4_all G ws
  generalize secL G ws = S at *
  unfold shiftS
  simp only
  rw [h2, h4]
  have e1 : (((addAll S).a1 + 2 * t * (addAll S).a0 : Int) : Rat) = ((addAll S).a1 : Rat) + 2 * (t : Rat) * ((addAll S).a0 : Rat) := by push_cast; rfl
  have e3 : (((addAll S).a3 + 2 * t * 10000 : Int) : Rat) = ((addAll S).a3 : Rat) + 2 * (t : Rat) * 10000 := by push_cast; rfl
  have e5 : (addAll S).a5 + 2 * t * 0 = (addAll S).a5 := by omega
  rw [e1, e3, e5, upN_move]
theorem twice_move (j : Nat) (hj : j < G.length) : twiceR (G.map (moveF t)) (secL (G.map (moveF t)) (ws.map (moveW t))) j = twiceR G (secL G ws) j := by
  rw [twiceR_sums, twiceR_sums, down_move hR, frmX_move t G hj]
  have hd := downR_sums (secL G ws) j
  rw [secL_move, shift_prefix, addAll_shift]
  have h2 := a2_all hR ws
  have h4 := a4_all G ws
  generalize secL G ws = S at *
  unfold shiftS
  simp only
  rw [h2, h4]
  have e1 : (((addAll S).a1 + 2 * t * (addAll S).a0 : Int) : Rat) = ((addAll S).a1 : Rat) + 2 * (t : Rat) * ((addAll S).a0 : Rat) := by push_cast; rfl
  have e3 : (((addAll S).a3 + 2 * t * 10000 : Int) : Rat) = ((addAll S).a3 : Rat) + 2 * (t : Rat) * 10000 := by push_cast; rfl
  have e5 : (addAll S).a5 + 2 * t * 0 = (addAll S).a5 := by omega
  have f1 : (((addAll (S.take j)).a1 + 2 * t * (addAll (S.take j)).a0 : Int) : Rat) = ((addAll (S.take j)).a1 : Rat) + 2 * (t : Rat) * ((addAll (S.take j)).a0 : Rat) := by push_cast; rfl
  have f3 : (((addAll (S.take j)).a3 + 2 * t * (addAll (S.take j)).a2 : Int) : Rat) = ((addAll (S.take j)).a3 : Rat) + 2 * (t : Rat) * ((addAll (S.take j)).a2 : Rat) := by push_cast; rfl
  have f5 : (((addAll (S.take j)).a5 + 2 * t * (addAll (S.take j)).a4 : Int) : Rat) = ((addAll (S.take j)).a5 : Rat) + 2 * (t : Rat) * ((addAll (S.take j)).a4 : Rat) := by push_cast; rfl
  have fx : ((frmX G j + t : Int) : Rat) = (frmX G j : Rat) + (t : Rat) := by push_cast; rfl
  rw [e1, e3, e5, f1, f3, f5, fx, upN_move, upN_add]
  generalize upN _ _ _ _ _ _ = u at *
  grind
end

/-- everything mirrored -/
def mirS (s : Sec) : Sec := ⟨s.a0, -s.a1, s.a2, -s.a3, -s.a4, s.a5⟩
def mirW (u : Wt) : Wt := ⟨-u.x, u.kilos⟩
def mirF (G : List Frm) (i : Nat) : Frm := ⟨-frmX G (G.length - 1 - i), if i < G.length - 1 then (G.getD (G.length - 2 - i) frm0).light else 0, if i < G.length - 1 then (G.getD (G.length - 2 - i) frm0).share else 0, 0, 0⟩
def mirL (G : List Frm) : List Frm := (List.range G.length).map (mirF G)
theorem mirL_len (G : List Frm) : (mirL G).length = G.length := by simp [mirL]
theorem mirL_get (G : List Frm) {i : Nat} (h : i < G.length) : (mirL G).getD i frm0 = mirF G i := by
  simp [mirL, List.getD_eq_getElem?_getD, List.getElem?_range h]
theorem frmX_mir (G : List Frm) {i : Nat} (h : i < G.length) : frmX (mirL G) i = -frmX G (G.length - 1 - i) := by
  unfold frmX
  rw [mirL_get G h]
  rfl
theorem hX_mir (G : List Frm) {i : Nat} (h : i + 1 < G.length) : hX (mirL G) i = -hX G (G.length - 2 - i) := by
  unfold hX
  rw [frmX_mir G (by omega), frmX_mir G h]
  have e1 : G.length - 1 - i = G.length - 2 - i + 1 := by omega
  have e2 : G.length - 1 - (i + 1) = G.length - 2 - i := by omega
  rw [e1, e2]
  omega
theorem allX_mir (G : List Frm) : ∀ k, k + 1 ≤ G.length → allX (mirL G) k = allX G (G.length - 1 - k) - allX G (G.length - 1)
  | 0, _ => by simp [allX]
  | k + 1, h => by
    show allX (mirL G) k + hX (mirL G) k = _
    rw [allX_mir G k (by omega), hX_mir G (by omega)]
    have e : G.length - 1 - k = (G.length - 1 - (k + 1)) + 1 := by omega
    rw [e]
    show allX G (G.length - 1 - (k + 1)) + hX G (G.length - 1 - (k + 1)) - _ + _ = _
    have e2 : G.length - 1 - (k + 1) = G.length - 2 - k := by omega
    rw [e2]
    omega
theorem mirS_add (a b : Sec) : mirS (a.add b) = (mirS a).add (mirS b) := by
  unfold mirS Sec.add
  rw [Sec.mk.injEq]
  and_intros <;> grind
theorem filter_count (l : List Int) (y : Int) (h : ∀ x ∈ l, x ≠ y) : (l.filter fun x => decide (y ≤ x)).length + (l.filter fun x => decide (x ≤ y)).length = l.length := by
  induction l with
  | nil => rfl
  | cons x l ih =>
    have h1 := ih (fun z hz => h z (by simp [hz]))
    have h2 := h x (by simp)
    rcases Int.lt_or_gt_of_ne h2 with h3 | h3
    · have e1 : decide (y ≤ x) = false := by simp; omega
      have e2 : decide (x ≤ y) = true := by simp; omega
      simp only [List.filter_cons, e1, e2, List.length_cons, if_true, Bool.false_eq_true, if_false]
      omega
    · have e1 : decide (y ≤ x) = true := by simp; omega
      have e2 : decide (x ≤ y) = false := by simp; omega
      simp only [List.filter_cons, e1, e2, List.length_cons, if_true, Bool.false_eq_true, if_false]
      omega
theorem idx_xs (l : List Frm) (y : Int) : idxF l y = ((l.map Frm.x).filter fun x => decide (x ≤ y)).length := by
  unfold idxF
  rw [List.filter_map, List.length_map]
  rfl
theorem mirL_xs (G : List Frm) : (mirL G).map Frm.x = ((G.map Frm.x).map fun x => -x).reverse := by
  apply List.ext_getElem
  · simp [mirL]
  · intro i h1 h2
    have hi : i < G.length := by simpa [mirL] using h1
    simp only [mirL, mirF, List.getElem_map, List.getElem_range, List.getElem_reverse, List.length_map]
    rw [frmX_get (by omega)]
theorem idx_mir (G : List Frm) (y : Int) (h : ∀ f ∈ G, f.x ≠ y) : idxF (mirL G) (-y) + idxF G y = G.length := by
  rw [idx_xs, idx_xs, mirL_xs, List.filter_reverse, List.length_reverse, List.filter_map, List.length_map]
  have e : ((fun x : Int => decide (x ≤ -y)) ∘ fun x => -x) = fun x => decide (y ≤ x) := by
    funext x
    show decide (-x ≤ -y) = decide (y ≤ x)
    rw [decide_eq_decide]
    omega
  rw [e]
  have := filter_count (G.map Frm.x) y (fun x hx => by obtain ⟨f, hf, rfl⟩ := List.mem_map.1 hx; exact h f hf)
  rw [List.length_map] at this
  exact this
theorem wsum_mir (G : List Frm) {i : Nat} (hi : i + 1 < G.length) : ∀ ws : List Wt, (∀ u ∈ ws, ∀ f ∈ G, f.x ≠ u.x) → wsum (mirL G) i (ws.map mirW) = mirS (wsum G (G.length - 2 - i) ws)
  | [], _ => by
    show Sec.zero = _
    unfold wsum mirS Sec.zero
    simp
  | u :: ws, h => by
    show Sec.add (if idxF (mirL G) (-u.x) = i + 1 then wtSec (mirW u) else Sec.zero) (wsum _ i (ws.map mirW)) = mirS (Sec.add _ _)
    rw [wsum_mir G hi ws (fun v hv => h v (by simp [hv])), mirS_add]
    congr 1
    have h1 := idx_mir G u.x (h u (by simp))
    by_cases hc : idxF G u.x = G.length - 2 - i + 1
    · rw [if_pos hc, if_pos (by omega)]
      unfold wtSec mirS mirW
      rw [Sec.mk.injEq]
      and_intros <;> grind
    · rw [if_neg hc, if_neg (by omega)]
      unfold mirS Sec.zero
      simp
theorem secL_mir (G : List Frm) (ws : List Wt) (h : ∀ u ∈ ws, ∀ f ∈ G, f.x ≠ u.x) : secL (mirL G) (ws.map mirW) = ((secL G ws).map mirS).reverse := by
  apply List.ext_getElem
  · simp [secL, mirL_len]
  · intro i h1 h2
    have hi : i + 1 < G.length := by simp [secL, mirL_len] at h1; omega
    have hl : ((secL G ws).map mirS).length = G.length - 1 := by simp [secL]
    rw [List.getElem_reverse]
    simp only [secL, List.getElem_map, List.getElem_range, List.length_map, List.length_range, mirL_len]
    have e : G.length - 1 - 1 - i = G.length - 2 - i := by omega
    rw [e, mirS_add, wsum_mir G hi ws h]
    congr 1
    unfold secBase mirS
    rw [mirL_get G (by omega), hX_mir G hi, allX_mir G _ (by omega), Nat.sub_self]
    have h3 : i < G.length - 1 := by omega
    unfold mirF
    simp only [if_pos h3]
    rw [Sec.mk.injEq]
    show _ ∧ _ ∧ _ ∧ _ ∧ _ ∧ _
    simp only [allX]
    and_intros <;> grind
end Go.Proofs.Ythlbcijlbgbooaa

namespace Go.Proofs.Ythlbcijlbgbooaa

theorem sumSec_append (f : Sec → Int) : ∀ a b : List Sec, sumSec f (a ++ b) = sumSec f a + sumSec f b
  | [], b => by simp [sumSec]
  | s :: a, b => by
    rw [List.cons_append, sumSec_cons, sumSec_cons, sumSec_append f a b]
    omega
theorem sumSec_reverse (f : Sec → Int) : ∀ a : List Sec, sumSec f a.reverse = sumSec f a
  | [] => rfl
  | s :: a => by
    rw [List.reverse_cons, sumSec_append, sumSec_reverse f a, sumSec_cons, sumSec_cons]
    show _ + (f s + 0) = _
    omega
theorem sumSec_drop (f : Sec → Int) (S : List Sec) (j : Nat) : sumSec f (S.drop j) = sumSec f S - sumSec f (S.take j) := by
  have h := sumSec_append f (S.take j) (S.drop j)
  rw [List.take_append_drop] at h
  omega
theorem sumSec_same {f g : Sec → Int} (h : ∀ s, f (mirS s) = g s) : ∀ S : List Sec, sumSec f (S.map mirS) = sumSec g S
  | [] => rfl
  | s :: S => by
    rw [List.map_cons, sumSec_cons, sumSec_cons, h, sumSec_same h S]
theorem sumSec_negs (g : Sec → Int) : ∀ S : List Sec, sumSec (fun s => -g s) S = -sumSec g S
  | [] => rfl
  | s :: S => by
    rw [sumSec_cons, sumSec_cons, sumSec_negs g S]
    omega
theorem mir_take {f : Sec → Int} (hf : Part f) {g : Sec → Int} (hg : ∀ s, f (mirS s) = g s) (S : List Sec) (j : Nat) (hj : j ≤ S.length) : f (addAll (((S.map mirS).reverse).take (S.length - j))) = sumSec g S - sumSec g (S.take j) := by
  rw [addAll_sum hf, List.take_reverse, sumSec_reverse]
  have e : (S.map mirS).length - (S.length - j) = j := by rw [List.length_map]; omega
  rw [e, ← List.map_drop, sumSec_same hg, sumSec_drop]
theorem mir_prefix (S : List Sec) (j : Nat) (hj : j ≤ S.length) : addAll (((S.map mirS).reverse).take (S.length - j)) = ⟨(addAll S).a0 - (addAll (S.take j)).a0, -((addAll S).a1 - (addAll (S.take j)).a1), (addAll S).a2 - (addAll (S.take j)).a2, -((addAll S).a3 - (addAll (S.take j)).a3), -((addAll S).a4 - (addAll (S.take j)).a4), (addAll S).a5 - (addAll (S.take j)).a5⟩ := by
  have h0 := mir_take part0 (g := Sec.a0) (fun _ => rfl) S j hj
  have h1 := mir_take part1 (g := fun s => -s.a1) (fun _ => rfl) S j hj
  have h2 := mir_take part2 (g := Sec.a2) (fun _ => rfl) S j hj
  have h3 := mir_take part3 (g := fun s => -s.a3) (fun _ => rfl) S j hj
  have h4 := mir_take part4 (g := fun s => -s.a4) (fun _ => rfl) S j hj
  have h5 := mir_take part5 (g := Sec.a5) (fun _ => rfl) S j hj
  rw [sumSec_negs Sec.a1, sumSec_negs Sec.a1, ← addAll_sum part1, ← addAll_sum part1] at h1
  rw [sumSec_negs Sec.a3, sumSec_negs Sec.a3, ← addAll_sum part3, ← addAll_sum part3] at h3
  rw [sumSec_negs Sec.a4, sumSec_negs Sec.a4, ← addAll_sum part4, ← addAll_sum part4] at h4
  rw [← addAll_sum part0, ← addAll_sum part0] at h0
  rw [← addAll_sum part2, ← addAll_sum part2] at h2
  rw [← addAll_sum part5, ← addAll_sum part5] at h5
  generalize addAll (((S.map mirS).reverse).take (S.length - j)) = q at *
  cases q
  rw [Sec.mk.injEq]
  simp only at h0 h1 h2 h3 h4 h5
  refine ⟨h0, ?_, h2, ?_, ?_, h5⟩ <;> omega
theorem mir_all (S : List Sec) : addAll ((S.map mirS).reverse) = ⟨(addAll S).a0, -(addAll S).a1, (addAll S).a2, -(addAll S).a3, -(addAll S).a4, (addAll S).a5⟩ := by
  have h := mir_prefix S 0 (Nat.zero_le _)
  rw [Nat.sub_zero, List.take_of_length_le (by simp)] at h
  rw [h]
  have e : addAll (S.take 0) = Sec.zero := rfl
  rw [e]
  simp [Sec.zero]

theorem upN_mir1 (W M T3 T5 c2 c4 x : Rat) : (W - x) - upN W (-M) (-T3) T5 (10000 - c2) (-(0 - c4)) = -(x - upN W M T3 T5 c2 c4) := by
  unfold upN
  rw [Rat.div_def _ T5, Rat.div_def _ T5]
  generalize T5⁻¹ = i
  grind
theorem upN_mir2 (W M T3 T5 c3 c5 a1 d x : Rat) (h : T5 ≠ 0) : -d * (2 * -x) + upN W (-M) (-T3) T5 (-(T3 - c3)) (T5 - c5) - (-(M - a1)) = d * (2 * x) + upN W M T3 T5 c3 c5 - a1 := by
  unfold upN
  rw [Rat.div_def _ T5, Rat.div_def _ T5]
  have e : T5⁻¹ * T5 = 1 := Rat.inv_mul_cancel T5 h
  generalize T5⁻¹ = i at *
  grind

section
variable {G : List Frm} (hR : rightF G = true) (ws : List Wt) (hx : ∀ u ∈ ws, ∀ f ∈ G, f.x ≠ u.x) (h5 : ((addAll (secL G ws)).a5 : Rat) ≠ 0)
include hR hx
theorem down_mir (j : Nat) (hj : j ≤ G.length - 1) : downR (secL (mirL G) (ws.map mirW)) (G.length - 1 - j) = -downR (secL G ws) j := by
  rw [secL_mir G ws hx, downR_sums, downR_sums]
  have h2 := a2_all hR ws
  have h4 := a4_all G ws
  have hl := secL_len G ws
  have hp := mir_prefix (secL G ws) j (by omega)
  rw [hl] at hp
  have ht := mir_all (secL G ws)
  generalize secL G ws = S at *
  rw [hp, ht]
  simp only
  rw [h2, h4]
  have e0 : (((addAll S).a0 - (addAll (S.take j)).a0 : Int) : Rat) = ((addAll S).a0 : Rat) - ((addAll (S.take j)).a0 : Rat) := by push_cast; rfl
  have e1 : ((-(addAll S).a1 : Int) : Rat) = -((addAll S).a1 : Rat) := by push_cast; rfl
  have e3 : ((-(addAll S).a3 : Int) : Rat) = -((addAll S).a3 : Rat) := by push_cast; rfl
  have f2 : ((10000 - (addAll (S.take j)).a2 : Int) : Rat) = 10000 - ((addAll (S.take j)).a2 : Rat) := by push_cast; rfl
  have f4 : ((-(0 - (addAll (S.take j)).a4) : Int) : Rat) = -(0 - ((addAll (S.take j)).a4 : Rat)) := by push_cast; rfl
  rw [e0, e1, e3, f2, f4, upN_mir1]
include h5
theorem twice_mir (j : Nat) (hj : j ≤ G.length - 1) (h3 : 3 ≤ G.length) : twiceR (mirL G) (secL (mirL G) (ws.map mirW)) (G.length - 1 - j) = twiceR G (secL G ws) j := by
  rw [twiceR_sums, twiceR_sums, down_mir hR ws hx j hj, frmX_mir G (by omega), secL_mir G ws hx]
  have hl := secL_len G ws
  have hp := mir_prefix (secL G ws) j (by omega)
  rw [hl] at hp
  have ht := mir_all (secL G ws)
  have ej : G.length - 1 - (G.length - 1 - j) = j := by omega
  rw [ej]
  generalize downR (secL G ws) j = d
  generalize secL G ws = S at *
  rw [hp, ht]
  simp only
  have ex : ((-frmX G j : Int) : Rat) = -(frmX G j : Rat) := by push_cast; rfl
  have e1 : ((-(addAll S).a1 : Int) : Rat) = -((addAll S).a1 : Rat) := by push_cast; rfl
  have e3 : ((-(addAll S).a3 : Int) : Rat) = -((addAll S).a3 : Rat) := by push_cast; rfl
  have f3 : ((-((addAll S).a3 - (addAll (S.take j)).a3) : Int) : Rat) = -(((addAll S).a3 : Rat) - ((addAll (S.take j)).a3 : Rat)) := by push_cast; rfl
  have f5 : (((addAll S).a5 - (addAll (S.take j)).a5 : Int) : Rat) = ((addAll S).a5 : Rat) - ((addAll (S.take j)).a5 : Rat) := by push_cast; rfl
  have f1 : ((-((addAll S).a1 - (addAll (S.take j)).a1) : Int) : Rat) = -(((addAll S).a1 : Rat) - ((addAll (S.take j)).a1 : Rat)) := by push_cast; rfl
  rw [ex, e1, e3, f3, f5, f1, upN_mir2 _ _ _ _ _ _ _ _ _ h5]
end

/-- right frames with other places -/
def putX (φ : Int → Int) (f : Frm) : Frm := { f with x := φ f.x }
theorem okFrom_map (φ : Int → Int) (hm : ∀ a b, a < b → φ a < φ b) : ∀ (l : List Frm) (p : Option Int), okFrom p l = true → (∀ f ∈ l, -500000 ≤ φ f.x ∧ φ f.x ≤ 500000) → okFrom (p.map φ) (l.map (putX φ)) = true
  | [], _, _, _ => rfl
  | f :: l, p, h, hb => by
    unfold okFrom at h
    simp only [Bool.and_eq_true] at h
    have h1 := okFrom_map φ hm l (some f.x) h.2 (fun g hg => hb g (by simp [hg]))
    have hf := Frm.ok_nums h.1.1
    have hx := hb f (by simp)
    rw [List.map_cons]
    unfold okFrom
    have h1' : okFrom (some (putX φ f).x) (l.map (putX φ)) = true := h1
    rw [h1']
    have ho : (putX φ f).ok = true := by
      unfold Frm.ok putX
      simp only [Bool.and_eq_true, decide_eq_true_eq]
      exact ⟨⟨⟨⟨hx, hf.2.1⟩, hf.2.2.1⟩, hf.2.2.2.1⟩, hf.2.2.2.2⟩
    rw [ho]
    cases p with
    | none => rfl
    | some x =>
      have h2 := h.1.2
      simp only [decide_eq_true_eq] at h2
      show (true && decide (φ x < φ f.x)) && true = true
      simp [hm x f.x h2]
theorem lightFrom_put (φ : Int → Int) : ∀ (l : List Frm) (s : Int), lightFrom s (l.map (putX φ)) = lightFrom s l
  | [], _ => rfl
  | f :: l, s => by
    rw [List.map_cons]
    unfold lightFrom
    exact lightFrom_put φ l _
theorem right_map (φ : Int → Int) (hm : ∀ a b, a < b → φ a < φ b) {l : List Frm} (h : rightF l = true) (hb : ∀ f ∈ l, -500000 ≤ φ f.x ∧ φ f.x ≤ 500000) : rightF (l.map (putX φ)) = true := by
  have p1 := (rightF_parts h).1
  have h3 := okFrom_map φ hm l none (rightF_parts h).2.2.1 hb
  have hne : l ≠ [] := by intro e; rw [e] at p1; simp at p1
  have hlast : lastF (l.map (putX φ)) = putX φ (lastF l) := by
    unfold lastF
    rw [List.getLastD_eq_getLast?, List.getLastD_eq_getLast?, List.getLast?_map, List.getLast?_eq_some_getLast hne]
    rfl
  have hsh : shareF (l.map (putX φ)) = shareF l := by
    unfold shareF
    rw [List.map_map]
    rfl
  have hli : lightF (l.map (putX φ)) = lightF l := lightFrom_put φ l 0
  have h3' : okFrom none (l.map (putX φ)) = true := h3
  unfold rightF at h ⊢
  rw [List.length_map, h3', hli, hsh, hlast]
  simp only [Bool.and_eq_true, decide_eq_true_eq] at h ⊢
  exact ⟨⟨⟨⟨⟨h.1.1.1.1.1, trivial⟩, h.1.1.1.2⟩, h.1.1.2⟩, h.1.2⟩, h.2⟩
theorem okFrom_of : ∀ (l : List Frm) (p : Option Int), (∀ f ∈ l, f.ok = true) → ordF l → (∀ x, p = some x → ∀ f ∈ l, x < f.x) → okFrom p l = true
  | [], _, _, _, _ => rfl
  | f :: l, p, h, ho, hp => by
    unfold okFrom
    rw [h f (by simp), okFrom_of l (some f.x) (fun g hg => h g (by simp [hg])) (fun a b hab hb ha => ho (a + 1) (b + 1) (by omega) (by simpa using hb) (by simpa using ha)) (fun x hx g hg => by
      injection hx with hx
      subst hx
      obtain ⟨i, hi, rfl⟩ := List.mem_iff_getElem.1 hg
      exact ho 0 (i + 1) (by omega) (by simpa using hi) (by simp))]
    cases p with
    | none => rfl
    | some x => simp [hp x rfl f (by simp)]
theorem lightFrom_le : ∀ (l : List Frm) (s : Int), (∀ f ∈ l, 0 ≤ f.light) → 0 ≤ s → lightFrom s l ≤ 500000000 → s + lightS l ≤ 500000000
  | [], s, _, _, h => by
    have e : lightS [] = 0 := rfl
    rw [e]
    unfold lightFrom at h
    omega
  | f :: l, s, hf, h0, h => by
    have h1 := hf f (by simp)
    unfold lightFrom at h
    rw [lightS_cons]
    by_cases hs : s ≤ 500000000
    · rw [if_pos hs] at h
      have := lightFrom_le l _ (fun g hg => hf g (by simp [hg])) (by omega) h
      omega
    · rw [if_neg hs, lightFrom_over l s (by omega)] at h
      omega
theorem mirL_getElem (G : List Frm) {i : Nat} (h : i < (mirL G).length) : (mirL G)[i] = mirF G i := by simp [mirL]
theorem mirL_lights (G : List Frm) (h1 : 1 ≤ G.length) (p : Frm → Int) (hp : ∀ i, p (mirF G i) = if i < G.length - 1 then p (G.getD (G.length - 2 - i) frm0) else 0) : (mirL G).map p = ((G.take (G.length - 1)).map p).reverse ++ [0] := by
  apply List.ext_getElem
  · simp [mirL]; omega
  · intro i h2 h3
    have hi : i < G.length := by simpa [mirL] using h2
    have e : ((mirL G).map p)[i] = p (mirF G i) := by simp [mirL]
    rw [e, hp]
    by_cases hc : i < G.length - 1
    · rw [if_pos hc, List.getElem_append_left (by simp; omega), List.getElem_reverse]
      simp only [List.length_map, List.length_take, List.getElem_map, List.getElem_take]
      congr 1
      rw [List.getD_eq_getElem?_getD, List.getElem?_eq_getElem (by omega)]
      show G[G.length - 2 - i] = _
      congr 1
      omega
    · rw [if_neg hc, List.getElem_append_right (by simp; omega)]
      simp
theorem sum_rev (l : List Int) : l.reverse.foldr (· + ·) 0 = l.foldr (· + ·) 0 := by
  induction l with
  | nil => rfl
  | cons x l ih =>
    have e : ∀ (a b : List Int), (a ++ b).foldr (· + ·) 0 = a.foldr (· + ·) 0 + b.foldr (· + ·) 0 := by
      intro a b
      induction a with
      | nil => simp
      | cons y a ih2 => simp only [List.cons_append, List.foldr_cons, ih2]; omega
    rw [List.reverse_cons, e, ih]
    simp only [List.foldr_cons, List.foldr_nil]
    omega
theorem sum_app (a b : List Int) : (a ++ b).foldr (· + ·) 0 = a.foldr (· + ·) 0 + b.foldr (· + ·) 0 := by
  induction a with
  | nil => simp
  | cons y a ih2 => simp only [List.cons_append, List.foldr_cons, ih2]; omega
theorem right_mir {G : List Frm} (h : rightF G = true) : rightF (mirL G) = true := by
  obtain ⟨p1, p2, p3, p4⟩ := rightF_parts h
  have hok := okFrom_ok none G p3
  have ho := okFrom_ordF p3
  have hlast : lastF (mirL G) = mirF G (G.length - 1) := by
    unfold lastF
    rw [List.getLastD_eq_getLast?, List.getLast?_eq_getElem?, mirL_len, List.getElem?_eq_getElem (by rw [mirL_len]; omega), mirL_getElem]
    rfl
  have hll : lightS (mirL G) = lightS (G.take (G.length - 1)) := by
    unfold lightS
    rw [mirL_lights G (by omega) Frm.light (fun i => by unfold mirF; rfl), sum_app, sum_rev]
    simp
  have hss : shareF (mirL G) = shareF (G.take (G.length - 1)) := by
    unfold shareF
    rw [mirL_lights G (by omega) Frm.share (fun i => by unfold mirF; rfl), sum_app, sum_rev]
    simp
  have hne : G ≠ [] := by intro e; rw [e] at p1; simp at p1
  have e : G = G.take (G.length - 1) ++ [lastF G] := by
    have h1 := List.dropLast_concat_getLast hne
    rw [List.dropLast_eq_take] at h1
    unfold lastF
    rw [List.getLastD_eq_getLast?, List.getLast?_eq_some_getLast hne]
    exact h1.symm
  have hr := h
  unfold rightF at hr
  simp only [Bool.and_eq_true, decide_eq_true_eq] at hr
  have hsG : shareF G = shareF (G.take (G.length - 1)) := by
    have h2 : shareF G = shareF (G.take (G.length - 1)) + (lastF G).share := by
      conv => lhs; rw [e]
      rw [shareF_snoc]
    omega
  have hm : ∀ f ∈ mirL G, f.ok = true := by
    intro f hf
    obtain ⟨i, hi, rfl⟩ := List.mem_iff_getElem.1 hf
    rw [mirL_len] at hi
    rw [mirL_getElem]
    have hx := frmX_ok hok (G.length - 1 - i)
    unfold Frm.ok mirF
    simp only [Bool.and_eq_true, decide_eq_true_eq]
    have hg : G.getD (G.length - 2 - i) frm0 ∈ G := by
      rw [List.getD_eq_getElem?_getD, List.getElem?_eq_getElem (by omega)]
      exact List.getElem_mem _
    have hn := Frm.ok_nums (hok _ hg)
    refine ⟨⟨⟨⟨by omega, ?_⟩, ?_⟩, by omega⟩, by omega⟩
    · split
      · exact hn.2.1
      · omega
    · split
      · exact hn.2.2.1
      · omega
  have hord : ordF (mirL G) := by
    intro a b hab hb ha
    rw [mirL_len] at hb ha
    rw [mirL_getElem, mirL_getElem]
    show -frmX G _ < -frmX G _
    rw [frmX_get (by omega), frmX_get (by omega)]
    have := ho (G.length - 1 - b) (G.length - 1 - a) (by omega) (by omega) (by omega)
    omega
  have hl0 : lightF (mirL G) ≤ 500000000 := by
    have h1 := lightFrom_le G 0 (fun f hf => (Frm.ok_nums (hok f hf)).2.1.1) (Int.le_refl _) hr.1.1.1.2
    have h2 : lightS G = lightS (G.take (G.length - 1)) + (lastF G).light := by
      conv => lhs; rw [e]
      rw [lightS_snoc]
    unfold lightF
    rw [lightFrom_sum (mirL G) 0 (fun f hf => (Frm.ok_nums (hm f hf)).2.1.1) (Int.le_refl _) (by omega)]
    omega
  unfold rightF
  rw [okFrom_of (mirL G) none hm hord (fun x hx => by cases hx), hlast, hss, ← hsG, p4, mirL_len]
  have hz : ¬ G.length - 1 < G.length - 1 := by omega
  unfold mirF
  simp only [if_neg hz, Bool.and_eq_true, decide_eq_true_eq, and_true]
  exact ⟨⟨p1, p2⟩, hl0⟩
end Go.Proofs.Ythlbcijlbgbooaa
