/-
  Plain laws: where the middle of a box is, told by the boxes below it.
-/
import Derived.Test.YtfdjcakgolenbaaGreatMa21
import Derived.ProofKit
import Derived.SizedLaws
set_option linter.unusedVariables false
set_option linter.unusedSimpArgs false
namespace Go.Proofs.YtfdjcakgolenbaaGreat
open Go.RowKit
def underF (bs : List Box) (l : List Stowed) (c a t : Int) : Int := heightF bs (l.filter fun x => decide (x.tier < t)) c a
def halfA (h : Int) : Int := cond (decide (h = 2)) 2 1
theorem halfA_hs (h : Int) : (hsOf h).headD 0 = halfA h := by
 unfold hsOf halfA;by_cases h1 : h = 1
 . subst h1; rfl
 . by_cases h2 : h = 2
   . subst h2; rfl
   . simp [h1, h2]
theorem halfA_two (h : Int) : halfA h = 1 \/ halfA h = 2 := by
 unfold halfA;cases decide (h = 2) <;> simp
theorem heightF_perm {bs : List Box} {l m : List Stowed} (h : l.Perm m) (c a : Int) : heightF bs l c a = heightF bs m c a := by
 unfold heightF
 induction h with
 | nil => rfl
 | cons x _ ih => rw [List.map_cons, List.map_cons, List.sum_cons, List.sum_cons, ih]
 | swap x y l => simp only [List.map_cons, List.sum_cons]; omega
 | trans _ _ ih1 ih2 => exact ih1.trans ih2
theorem heightF_app {bs : List Box} (l m : List Stowed) (c a : Int) : heightF bs (l ++ m) c a = heightF bs l c a + heightF bs m c a := by
 unfold heightF;rw [List.map_append, List.sum_append]
theorem heightF_part {bs : List Box} {c a : Int} (p : Stowed -> Bool) : ∀ (l : List Stowed), (∀ x ∈ l, p x = false -> hAt bs c a x = 0) -> heightF bs (l.filter p) c a = heightF bs l c a
 | [], _ => rfl
 | x :: l, h => by
  have ih := heightF_part (bs := bs) (c := c) (a := a) p l fun y hy => h y (.tail _ hy);unfold heightF at ih ⊢;rw [List.filter_cons]
  cases hp : p x with
  | true => simp only [if_true, List.map_cons, List.sum_cons, ih]
  | false =>
   rw [List.map_cons, List.sum_cons, h x (.head _) hp, Int.zero_add];simpa using ih
theorem stow_lt {s : Shp} {bs : List Box} {l : List Stowed} (h : stowB s bs l = true) : ∀ i k, i < k -> k < l.length -> (l.getD i Tc.stowed.dflt).box < (l.getD k Tc.stowed.dflt).box := by
 intro i k hik hk
 induction k with
 | zero => omega
 | succ k ih =>
  have h1 := stow_row h hk;unfold stowAt at h1;simp only [Bool.and_eq_true, Bool.or_eq_true, decide_eq_true_eq] at h1;have h2 : (l.getD k Tc.stowed.dflt).box < (l.getD (k + 1) Tc.stowed.dflt).box := by
   rcases h1.1.2 with h2 | h2
   . omega
   . simpa using h2
  by_cases he : i = k
  . subst he; exact h2
  . have := ih (by omega) (by omega);omega
theorem stow_id {s : Shp} {bs : List Box} {l : List Stowed} (h : stowB s bs l = true) {x y : Stowed} (hx : x ∈ l) (hy : y ∈ l) (he : x.box = y.box) : x = y := by
 obtain ⟨i, hi, rfl⟩ := List.getElem_of_mem hx;obtain ⟨k, hk, rfl⟩ := List.getElem_of_mem hy;have g : ∀ j (hj : j < l.length), l.getD j Tc.stowed.dflt = l[j] := fun j hj => by rw [List.getD_eq_getElem?_getD, List.getElem?_eq_getElem hj]; rfl
 rcases Nat.lt_trichotomy i k with h1 | h1 | h1
 . have := stow_lt h i k h1 hk;rw [g i hi, g k hk, he] at this;omega
 . subst h1; rfl
 . have := stow_lt h k i h1 hi;rw [g i hi, g k hk, he] at this;omega
theorem prefix_under {s : Shp} {bs : List Box} {l : List Stowed} (h : stowB s bs l = true) {j : Nat} (hj : j < (sortT l).length) {a : Int} (ha : ((sortT l)[j]).half = 0 \/ a = ((sortT l)[j]).half) : heightF bs ((sortT l).take j) ((sortT l)[j]).col a = underF bs l ((sortT l)[j]).col a ((sortT l)[j]).tier := by
 have hperm := sortT_perm l;have hlen := hperm.length_eq;have hnd : (sortT l).Nodup := hperm.nodup_iff.2 (stow_nodup h);obtain ⟨X, hX⟩ : ∃ X, X = (sortT l)[j] := ⟨_, rfl⟩
 have hXl : X ∈ l := hperm.mem_iff.1 (by rw [hX]; exact List.getElem_mem hj);rw [<- hX] at ha ⊢;have hsrt : ∀ i k, (hik : i < k) -> (hk : k < (sortT l).length) -> ((sortT l)[i]'(by omega)).tier <= ((sortT l)[k]).tier := fun i k hik hk => by
  have := sortT_sorted l hik (by omega);unfold tAt at this;rw [List.getD_eq_getElem?_getD, List.getElem?_eq_getElem (show i < (sortT l).length by omega), List.getD_eq_getElem?_getD, List.getElem?_eq_getElem hk] at this;exact this
 unfold underF;rw [<- heightF_perm (hperm.filter fun x => decide (x.tier < X.tier))];have hsplit : sortT l = (sortT l).take j ++ (sortT l).drop j := (List.take_append_drop j _).symm;rw [congrArg (List.filter fun x => decide (x.tier < X.tier)) hsplit, List.filter_append, heightF_app];have h2 : ((sortT l).drop j).filter (fun x => decide (x.tier < X.tier)) = [] := by
  rw [List.filter_eq_nil_iff];intro y hy;obtain ⟨i, hi, rfl⟩ := List.getElem_of_mem hy;rw [List.length_drop] at hi;rw [List.getElem_drop, decide_eq_true_eq, hX];by_cases he : i = 0
  . subst he; simp
  . have := hsrt j (j + i) (by omega) (by omega);omega
 rw [h2, heightF_part]
 . simp [heightF]
 . intro y hy hn;obtain ⟨i, hi, rfl⟩ := List.getElem_of_mem hy;rw [List.length_take] at hi;have hij : i < j := by omega
   rw [List.getElem_take] at hn ⊢;simp only [decide_eq_false_iff_not] at hn;have h1 := hsrt i j hij hj;rw [<- hX] at h1;unfold hAt;rw [if_neg]
   rintro ⟨hc, hh⟩
   have hyl : (sortT l)[i]'(by omega) ∈ l := hperm.mem_iff.1 (List.getElem_mem _);have := stow_alone h hyl hXl (by
    unfold meetB sharesB slotOf;have : ((sortT l)[i]'(by omega)).tier = X.tier := by omega
    simp only [hc, this, decide_true, Bool.true_and];rcases ha with ha | ha
    . simp [ha]
    . rcases hh with hh | hh
      . simp [hh, ha]
      . simp [hh])
   rw [hX] at this;exact (List.pairwise_iff_getElem.1 hnd) i j (by omega) hj hij this
theorem cargo_stow {s : Shp} {bs : List Box} {l : List Stowed} (h : cargoB s bs l = true) : stowB s bs l = true := by
 unfold cargoB at h;simp only [Bool.and_eq_true] at h;exact h.2
def placeF (s : Shp) (bs : List Box) (l : List Stowed) (e : Stowed) : Int × Int × Int :=
 (midX (s.cols.getD e.col.toNat Tc.col.dflt) e.half, (s.cols.getD e.col.toNat Tc.col.dflt).y, 2 * ((s.cols.getD e.col.toNat Tc.col.dflt).z + underF bs l e.col (halfA e.half) e.tier) + tallB (findV bs e.box).1)
theorem mid_place {s : Shp} {bs : List Box} {l : List Stowed} (h : stowB s bs l = true) {j : Nat} (hj : j < (sortT l).length) : midOf s.cols bs (topsM bs ((sortT l).take j)) ((sortT l)[j]) = ⟨(findV bs ((sortT l)[j]).box).1, (placeF s bs l ((sortT l)[j])).1, (placeF s bs l ((sortT l)[j])).2.1, (placeF s bs l ((sortT l)[j])).2.2⟩ := by
 have hperm := sortT_perm l;have hM : ∀ x ∈ (sortT l).take j, x ∈ l := fun x hx => hperm.mem_iff.1 (List.mem_of_mem_take hx);have hX := stow_three h _ (hperm.mem_iff.1 (List.getElem_mem hj));unfold midOf placeF;rw [halfA_hs, tops_sum (fun x hx => stow_three h x (hM x hx)) _ (halfA_two _), prefix_under h hj];rcases hX.2 with h0 | h0 | h0
 . exact .inl h0
 . exact .inr (by rw [h0]; rfl)
 . exact .inr (by rw [h0]; rfl)
theorem middle_there {s : Shp} {bs : List Box} {l : List Stowed} (h : cargoB s bs l = true) {e : Stowed} (he : e ∈ l) : middleF s bs l e.box = ((placeF s bs l e).1, (placeF s bs l e).2.1, (placeF s bs l e).2.2, 0) := by
 have hs := cargo_stow h;have hf := stow_found hs e he;have hlen : (midsL s.cols bs (sortT l)).length = (sortT l).length := by unfold midsL; rw [midsK_len]
 have hget : ∀ (j : Nat) (hj : j < (sortT l).length), (midsL s.cols bs (sortT l)).getD j Tc.mid.dflt = midOf s.cols bs (topsM bs ((sortT l).take j)) ((sortT l)[j]) := fun j hj => by
  unfold midsL midsK;rw [getD_map (fun j => midOf s.cols bs (topsM bs ((sortT l).take j)) ((sortT l).getD j Tc.stowed.dflt)) _ 0 Tc.mid.dflt (by simpa using hj)];have hr : (List.range (sortT l).length).getD j 0 = j := by rw [List.getD_eq_getElem?_getD, List.getElem?_range hj]; rfl
  rw [hr, List.getD_eq_getElem?_getD, List.getElem?_eq_getElem hj];rfl
 obtain ⟨j, hj, hej⟩ := List.getElem_of_mem ((sortT_perm l).mem_iff.2 he);rcases idx_cases (midIs e.box) (midsL s.cols bs (sortT l)) with ⟨_, hn⟩ | ⟨k, hk, h1, h2, _⟩
 . exfalso;have hm : midOf s.cols bs (topsM bs ((sortT l).take j)) ((sortT l).getD j Tc.stowed.dflt) ∈ midsL s.cols bs (sortT l) := List.mem_map.2 ⟨j, List.mem_range.2 hj, rfl⟩;have h2 := hn _ hm;unfold midIs midOf at h2;rw [List.getD_eq_getElem?_getD, List.getElem?_eq_getElem hj, Option.getD_some, hej, (found_id hf).1] at h2;simp at h2
 . rw [hlen] at hk;have hgk := hget k hk;have hmk : (midsL s.cols bs (sortT l))[k]'(by omega) = midOf s.cols bs (topsM bs ((sortT l).take k)) ((sortT l)[k]) := by
    rw [<- hgk, List.getD_eq_getElem?_getD, List.getElem?_eq_getElem (by omega)];rfl
   rw [hmk, mid_place hs hk] at h2;have hxl : (sortT l)[k] ∈ l := (sortT_perm l).mem_iff.1 (List.getElem_mem hk);have hid : ((sortT l)[k]).box = e.box := by
    unfold midIs at h2;simp only [decide_eq_true_eq] at h2;rw [(found_id (stow_found hs _ hxl)).1] at h2;exact h2
   have hx := stow_id hs hxl he hid;unfold middleF;rw [h, h1, cond_true, decide_eq_false (by omega), cond_false];unfold midAt;rw [show ((k : Int)).toNat = k by omega, hgk, mid_place hs hk, hx]
theorem ratio_fit {a b : Int} (hb : 0 < b) (ha : a.natAbs < top256) (hb2 : b.natAbs < top256) : (ratioL a b).2 = 0 := by
 unfold ratioL fitL;rw [if_neg (by omega), if_pos];exact ⟨Nat.lt_of_le_of_lt (Nat.div_le_self _ _) ha, Nat.lt_of_le_of_lt (Nat.div_le_self _ _) hb2⟩
theorem ratio_rat {a b : Int} (hb : 0 < b) (ha : a.natAbs < top256) (hb2 : b.natAbs < top256) : ratioL a b = (ofRat ((a : Rat) / (b : Rat)), 0) := by
 have h := ratio_fit hb ha hb2;rw [ratioL_rat _ _ (by omega)] at h ⊢;unfold outR at h ⊢;split at h
 . rename_i hf; rw [if_pos hf]
 . cases h
theorem centre_times {a b : Int} (hb : 0 < b) (ha : a.natAbs < top256) (hb2 : b.natAbs < top256) : mulL (ratioL a b).1 (ofL b) = (ofL a, 0) := by
 rw [ratio_rat hb ha hb2];dsimp only;have hb0 : (b : Rat) ≠ 0 := fun e => by have : b = 0 := Rat.intCast_inj.1 (by simpa using e); omega
 rw [ofL_rat, mulL_rat, Rat.div_mul_cancel hb0, outR_fits, ofL_rat];exact ⟨by rw [Rat.num_intCast]; exact ha, by rw [Rat.den_intCast]; decide⟩
theorem ratio_le {a b c d : Int} (hb : 0 < b) (hd : 0 < d) (ha : a.natAbs < top256) (hb2 : b.natAbs < top256) (hc : c.natAbs < top256) (hd2 : d.natAbs < top256) (h : a * d <= c * b) : (cmpL (ratioL a b).1 (ratioL c d).1).1 <= 0 /\ (cmpL (ratioL a b).1 (ratioL c d).1).2 = 0 := by
 rw [ratio_rat hb ha hb2, ratio_rat hd hc hd2];dsimp only;rw [cmpL_rat];refine ⟨?_, rfl⟩;have hb' : (0 : Rat) < (b : Rat) := Rat.intCast_lt_intCast.2 hb;have hd' : (0 : Rat) < (d : Rat) := Rat.intCast_lt_intCast.2 hd;have h' : (a : Rat) * (d : Rat) <= (c : Rat) * (b : Rat) := by
  rw [<- Rat.intCast_mul, <- Rat.intCast_mul];exact Rat.intCast_le_intCast.2 h
 have hn : ¬ (c : Rat) / (d : Rat) < (a : Rat) / (b : Rat) := fun h2 => by
  have h3 := (Rat.lt_div_iff hb').1 h2;have h4 : (c : Rat) / (d : Rat) * (b : Rat) = ((c : Rat) * (b : Rat)) / (d : Rat) := by grind
  rw [h4] at h3;have h5 := (Rat.div_lt_iff hd').1 h3;grind
 dsimp only;split
 . decide
 . decide
/- sums -/
theorem sumW_perm {l m : List Ld} (h : l.Perm m) : sumW l = sumW m := by
 induction h with
 | nil => rfl
 | cons x _ ih => rw [sumW_cons, sumW_cons, ih]
 | swap x y l => rw [sumW_cons, sumW_cons, sumW_cons, sumW_cons, <- add_assoc', <- add_assoc', add_comm' y x]
 | trans _ _ ih1 ih2 => exact ih1.trans ih2
def midE (s : Shp) (bs : List Box) (l : List Stowed) (e : Stowed) : Mid := ⟨(findV bs e.box).1, (placeF s bs l e).1, (placeF s bs l e).2.1, (placeF s bs l e).2.2⟩
theorem mids_map {s : Shp} {bs : List Box} {l : List Stowed} (h : stowB s bs l = true) : midsL s.cols bs (sortT l) = (sortT l).map (midE s bs l) := by
 apply List.ext_getElem?;intro j;unfold midsL midsK;rw [List.getElem?_map, List.getElem?_map];by_cases hj : j < (sortT l).length
 . rw [List.getElem?_range hj, List.getElem?_eq_getElem hj, Option.map_some, Option.map_some, List.getD_eq_getElem?_getD, List.getElem?_eq_getElem hj, Option.getD_some, mid_place h hj];rfl
 . rw [List.getElem?_eq_none (by rw [List.length_range]; omega), List.getElem?_eq_none (by omega)];rfl
def rawE (s : Shp) (bs : List Box) (l : List Stowed) (e : Stowed) : Ld := rawP (midE s bs l e)
theorem cargo_sum {s : Shp} {bs : List Box} {l : List Stowed} (h : Small s bs l) : cargoF s bs l = (sumW (l.map (rawE s bs l)), 0) := by
 rw [h.sum, mids_map h.stow, List.map_map];exact congrArg (·, 0) (sumW_perm ((sortT_perm l).map _))
/- the least and the greatest -/
def lowG (f : Stowed -> Int) (l : List Stowed) : Int := l.foldr (fun e m => cond (decide (f e < m)) (f e) m) 1100000
def highG (f : Stowed -> Int) (l : List Stowed) : Int := l.foldr (fun e m => cond (decide (m < f e)) (f e) m) (-1100000)
theorem low_cons (f : Stowed -> Int) (e : Stowed) (l : List Stowed) : lowG f (e :: l) = cond (decide (f e < lowG f l)) (f e) (lowG f l) := rfl
theorem high_cons (f : Stowed -> Int) (e : Stowed) (l : List Stowed) : highG f (e :: l) = cond (decide (highG f l < f e)) (f e) (highG f l) := rfl
theorem low_le (f : Stowed -> Int) : ∀ (l : List Stowed), ∀ e ∈ l, lowG f l <= f e
 | [], _, h => by cases h
 | x :: l, e, h => by
  rw [low_cons];have ih := low_le f l;by_cases hx : f x < lowG f l
  . rw [decide_eq_true hx, cond_true];rcases List.mem_cons.1 h with rfl | h
    . omega
    . have := ih e h; omega
  . rw [decide_eq_false hx, cond_false];rcases List.mem_cons.1 h with rfl | h
    . omega
    . exact ih e h
theorem le_high (f : Stowed -> Int) : ∀ (l : List Stowed), ∀ e ∈ l, f e <= highG f l
 | [], _, h => by cases h
 | x :: l, e, h => by
  rw [high_cons];have ih := le_high f l;by_cases hx : highG f l < f x
  . rw [decide_eq_true hx, cond_true];rcases List.mem_cons.1 h with rfl | h
    . omega
    . have := ih e h; omega
  . rw [decide_eq_false hx, cond_false];rcases List.mem_cons.1 h with rfl | h
    . omega
    . exact ih e h
theorem low_in {f : Stowed -> Int} {B : Int} (hB : 0 <= B) (hB2 : B <= 1100000) : ∀ (l : List Stowed), (∀ e ∈ l, -B <= f e /\ f e <= B) -> -B <= lowG f l /\ lowG f l <= 1100000
 | [], _ => by unfold lowG; simp only [List.foldr_nil]; omega
 | x :: l, h => by
  have ih := low_in hB hB2 l fun e he => h e (.tail _ he);have hx := h x (.head _);rw [low_cons];cases decide (f x < lowG f l)
  . rw [cond_false]; exact ih
  . rw [cond_true]; omega
theorem high_in {f : Stowed -> Int} {B : Int} (hB : 0 <= B) (hB2 : B <= 1100000) : ∀ (l : List Stowed), (∀ e ∈ l, -B <= f e /\ f e <= B) -> -1100000 <= highG f l /\ highG f l <= B
 | [], _ => by unfold highG; simp only [List.foldr_nil]; omega
 | x :: l, h => by
  have ih := high_in hB hB2 l fun e he => h e (.tail _ he);have hx := h x (.head _);rw [high_cons];cases decide (highG f l < f x)
  . rw [cond_false]; exact ih
  . rw [cond_true]; omega
theorem sum_between (p : Ld -> Int) (hp : ∀ a b : Ld, p (a.add b) = p a + p b) (hp0 : p ld0 = 0) (k f : Stowed -> Int) (g : Stowed -> Ld) (hk : ∀ e, (g e).kilos = k e) (hg : ∀ e, p (g e) = k e * f e) {a b : Int} : ∀ (l : List Stowed), (∀ e ∈ l, 0 <= k e /\ a <= f e /\ f e <= b) -> a * (sumW (l.map g)).kilos <= p (sumW (l.map g)) /\ p (sumW (l.map g)) <= b * (sumW (l.map g)).kilos
 | [], _ => by
  show a * (0 : Int) <= p ld0 /\ p ld0 <= b * (0 : Int)
  rw [hp0];omega
 | x :: l, h => by
  have ih := sum_between p hp hp0 k f g hk hg l fun e he => h e (.tail _ he);obtain ⟨h1, h2, h3⟩ := h x (.head _);rw [List.map_cons, sumW_cons, hp, hg];show a * ((g x).kilos + (sumW (l.map g)).kilos) <= _ /\ _ <= b * ((g x).kilos + (sumW (l.map g)).kilos)
  rw [hk, Int.mul_add, Int.mul_add];have m1 := Int.mul_le_mul_of_nonneg_left h2 h1;have m2 := Int.mul_le_mul_of_nonneg_left h3 h1;rw [Int.mul_comm (k x) a] at m1;rw [Int.mul_comm (k x) b] at m2;omega
theorem kilos_pos {l : List Stowed} {g : Stowed -> Ld} (h : ∀ e ∈ l, 1 <= (g e).kilos) : (l.length : Int) <= (sumW (l.map g)).kilos := by
 induction l with
 | nil => show (0 : Int) <= 0; omega
 | cons x l ih =>
  rw [List.map_cons, sumW_cons];show ((l.length + 1 : Nat) : Int) <= (g x).kilos + (sumW (l.map g)).kilos
  have h1 := h x (.head _);have h2 := ih fun e he => h e (.tail _ he);omega
theorem point_ok {m : Mid} (h : (0 <= m.box.kilos /\ m.box.kilos <= 27000) /\ (-64000 <= m.x /\ m.x <= 64000) /\ (-64000 <= m.y /\ m.y <= 64000) /\ -400000 <= m.h /\ m.h <= 400000) : pointF m.box.kilos m.x m.y m.h = (rawP m, 0) := by
 unfold pointF;rw [if_pos]
 . rfl
 . simp only [Bool.and_eq_true];exact ⟨wOk_iff.2 (by omega), inArm_iff.2 (by omega), inArm_iff.2 (by omega), inArm_iff.2 (by omega)⟩
theorem add_two {a b : Ld} (ha : ldOk a = true) (hb : ldOk b = true) (h : a.kilos + b.kilos <= 500000000) : addF [a, b] = (a.add b, 0) := by
 have n1 := (ldOk_nums ha).1;have n2 := (ldOk_nums hb).1;unfold addF;rw [if_neg (by simp [ldBad, ha, hb])];unfold addFrom;rw [if_pos (wOk_iff.2 (by show 0 <= (0 : Int) + a.kilos /\ (0 : Int) + a.kilos <= _; omega))];unfold addFrom;rw [if_pos (wOk_iff.2 (by show 0 <= (0 : Int) + a.kilos + b.kilos /\ (0 : Int) + a.kilos + b.kilos <= _; omega)), zero_add'];rfl
abbrev FracG := Bool × List Int × List Int
def AV.toFrac : AV -> Option (Unit -> FracG)
 | .agg [.bool s, .int .u32 a0, .int .u32 a1, .int .u32 a2, .int .u32 a3, .int .u32 a4, .int .u32 a5, .int .u32 a6, .int .u32 a7, .int .u32 b0, .int .u32 b1, .int .u32 b2, .int .u32 b3, .int .u32 b4, .int .u32 b5, .int .u32 b6, .int .u32 b7] => some fun _ => (s (), [a0 (), a1 (), a2 (), a3 (), a4 (), a5 (), a6 (), a7 ()], [b0 (), b1 (), b2 (), b3 (), b4 (), b5 (), b6 (), b7 ()])
 | _ => none
def fracG (f : Unit -> FracG) : List AV := [.bool fun _ => (f ()).1, .int .u32 fun _ => (f ()).2.1.getD 0 0, .int .u32 fun _ => (f ()).2.1.getD 1 0, .int .u32 fun _ => (f ()).2.1.getD 2 0, .int .u32 fun _ => (f ()).2.1.getD 3 0, .int .u32 fun _ => (f ()).2.1.getD 4 0, .int .u32 fun _ => (f ()).2.1.getD 5 0, .int .u32 fun _ => (f ()).2.1.getD 6 0, .int .u32 fun _ => (f ()).2.1.getD 7 0, .int .u32 fun _ => (f ()).2.2.getD 0 0, .int .u32 fun _ => (f ()).2.2.getD 1 0, .int .u32 fun _ => (f ()).2.2.getD 2 0, .int .u32 fun _ => (f ()).2.2.getD 3 0, .int .u32 fun _ => (f ()).2.2.getD 4 0, .int .u32 fun _ => (f ()).2.2.getD 5 0, .int .u32 fun _ => (f ()).2.2.getD 6 0, .int .u32 fun _ => (f ()).2.2.getD 7 0]
theorem AV.toFrac_ {x : AV} {f : Unit -> FracG} (h : x.toFrac = some f) : x = .agg (fracG f) := by
 unfold AV.toFrac at h;split at h
 . cases h; rfl
 . cases h
def fracOf (f : FracG) : FracV := ⟨f.1, valB B32 (f.2.1.map Int.toNat), valB B32 (f.2.2.map Int.toNat)⟩
def limbsOk (l : List Int) : Prop := l.length = 8 /\ ∀ n ∈ l, 0 <= n /\ n < 4294967296
theorem limbs_ok (n : Nat) : limbsOk [limb n 0, limb n 1, limb n 2, limb n 3, limb n 4, limb n 5, limb n 6, limb n 7] := by
 refine ⟨rfl, fun x hx => ?_⟩;rw [limbs_all] at hx;obtain ⟨k, hk, rfl⟩ := List.mem_map.1 hx;have := pad_digs (B := B32) (by decide) 8 n k hk;unfold B32 at this;omega
theorem limbs_val (n : Nat) (h : n < top256) : valB B32 ([limb n 0, limb n 1, limb n 2, limb n 3, limb n 4, limb n 5, limb n 6, limb n 7].map Int.toNat) = n := by
 rw [limbs_all, List.map_map];have : (Int.toNat ∘ fun (k : Nat) => (k : Int)) = id := by funext k; simp
 rw [this, List.map_id];exact valB_pad (by decide) 8 n (by rw [pow256']; exact h)
theorem fracOf_limbs (f : FracV) (h : f.fits) : fracOf (f.neg, [limb f.num 0, limb f.num 1, limb f.num 2, limb f.num 3, limb f.num 4, limb f.num 5, limb f.num 6, limb f.num 7], [limb f.den 0, limb f.den 1, limb f.den 2, limb f.den 3, limb f.den 4, limb f.den 5, limb f.den 6, limb f.den 7]) = f := by
 unfold fracOf;rw [limbs_val _ h.1, limbs_val _ h.2]
theorem fracOf_cells {f : FracG} (h1 : limbsOk f.2.1) (h2 : limbsOk f.2.2) : (fracG fun _ => f).map AV.valOf = (fracOf f).cells /\ (fracOf f).fits := by
 obtain ⟨s, a, b⟩ := f;have key : ∀ {l : List Int}, limbsOk l -> pad B32 8 (valB B32 (l.map Int.toNat)) = l.map Int.toNat /\ valB B32 (l.map Int.toNat) < top256 /\ l = [l.getD 0 0, l.getD 1 0, l.getD 2 0, l.getD 3 0, l.getD 4 0, l.getD 5 0, l.getD 6 0, l.getD 7 0] := by
  intro l hl;have hd : Digs B32 (l.map Int.toNat) := fun k hk => by
   obtain ⟨x, hx, rfl⟩ := List.mem_map.1 hk;have := hl.2 x hx;unfold B32;omega
  have hp := pad_valB (B := B32) (by decide) _ hd;rw [List.length_map, hl.1] at hp;refine ⟨hp, ?_, ?_⟩
  . rw [<- pow256'];have := valB_lt (B := B32) _ hd;rwa [List.length_map, hl.1] at this
  . match l, hl.1 with
    | [_, _, _, _, _, _, _, _], _ => rfl
 obtain ⟨k1, k2, k3⟩ := key h1;obtain ⟨m1, m2, m3⟩ := key h2;refine ⟨?_, k2, m2⟩;unfold FracV.cells fracOf;dsimp only at k1 m1 k3 m3 h1 h2 ⊢;rw [k1, m1];have e : ∀ {l : List Int}, limbsOk l -> l = [l.getD 0 0, l.getD 1 0, l.getD 2 0, l.getD 3 0, l.getD 4 0, l.getD 5 0, l.getD 6 0, l.getD 7 0] -> (l.map Int.toNat).map (fun (n : Nat) => Value.int .u32 (n : Int)) = [l.getD 0 0, l.getD 1 0, l.getD 2 0, l.getD 3 0, l.getD 4 0, l.getD 5 0, l.getD 6 0, l.getD 7 0].map (Value.int .u32) := by
  intro l hl he;rw [<- he, List.map_map];refine List.map_congr_left fun x hx => ?_;have := (hl.2 x hx).1;show Value.int .u32 ((x.toNat : Nat) : Int) = _
  rw [Int.toNat_of_nonneg this]
 rw [e h1 k3, e h2 m3];rfl
def fracSg : List Sg := .bool :: List.replicate 16 (.int .u32)
def conMul : Con := ⟨23, [.agg fracSg, .agg fracSg], fun
 | [x0, x1] => (x0.toFrac).bind fun f => (x1.toFrac).bind fun g => some ⟨fun _ => (limbsOk (f ()).2.1 /\ limbsOk (f ()).2.2) /\ limbsOk (g ()).2.1 /\ limbsOk (g ()).2.2, .tup [.agg (fracL fun _ => (mulL (fracOf (f ())) (fracOf (g ()))).1), .int .i64 fun _ => (mulL (fracOf (f ())) (fracOf (g ()))).2]⟩
 | _ => none⟩
theorem conMul_ok : ConOk Tryz.prog conMul := by
 refine oldOk Tryz.func23 (by kernel_rfl) fun avs res h w ra vals hE hp => ?_;simp only [conMul] at h;split at h
 case h_2 => cases h
 rename_i x0 x1;simp only [Option.bind_eq_some_iff, Option.some.injEq] at h;obtain ⟨f, e0, g, e1, rfl⟩ := h;obtain rfl := AV.toFrac_ e0;obtain rfl := AV.toFrac_ e1;clear e0 e1;obtain ⟨f, rfl⟩ := eta (α := FracG) f;obtain ⟨g, rfl⟩ := eta (α := FracG) g;obtain ⟨v0, us0, rfl, hv0, h0⟩ := hE.head;obtain ⟨v1, us1, rfl, hv1, h1⟩ := h0.head;obtain rfl := h1.none;obtain ⟨hf, hf2⟩ := fracOf_cells hp.1.1 hp.1.2;obtain ⟨hg, hg2⟩ := fracOf_cells hp.2.1 hp.2.2;obtain rfl := hv0.aggF rfl;obtain rfl := hv1.aggF rfl;rw [hf, hg];exact (frac_Mul (fracOf f) (fracOf g) hf2 hg2 w).mono fun e w' ⟨k1, k2⟩ => ⟨_, k1, k2, avr_tup2 (avr_frac _) (.int _ _)⟩
def conFCmp : Con := ⟨25, [.agg fracSg, .agg fracSg], fun
 | [x0, x1] => (x0.toFrac).bind fun f => (x1.toFrac).bind fun g => some ⟨fun _ => (limbsOk (f ()).2.1 /\ limbsOk (f ()).2.2) /\ limbsOk (g ()).2.1 /\ limbsOk (g ()).2.2, .tup [.int .i64 fun _ => (cmpL (fracOf (f ())) (fracOf (g ()))).1, .int .i64 fun _ => (cmpL (fracOf (f ())) (fracOf (g ()))).2]⟩
 | _ => none⟩
theorem conFCmp_ok : ConOk Tryz.prog conFCmp := by
 refine oldOk Tryz.func25 (by kernel_rfl) fun avs res h w ra vals hE hp => ?_;simp only [conFCmp] at h;split at h
 case h_2 => cases h
 rename_i x0 x1;simp only [Option.bind_eq_some_iff, Option.some.injEq] at h;obtain ⟨f, e0, g, e1, rfl⟩ := h;obtain rfl := AV.toFrac_ e0;obtain rfl := AV.toFrac_ e1;clear e0 e1;obtain ⟨f, rfl⟩ := eta (α := FracG) f;obtain ⟨g, rfl⟩ := eta (α := FracG) g;obtain ⟨v0, us0, rfl, hv0, h0⟩ := hE.head;obtain ⟨v1, us1, rfl, hv1, h1⟩ := h0.head;obtain rfl := h1.none;obtain ⟨hf, hf2⟩ := fracOf_cells hp.1.1 hp.1.2;obtain ⟨hg, hg2⟩ := fracOf_cells hp.2.1 hp.2.2;obtain rfl := hv0.aggF rfl;obtain rfl := hv1.aggF rfl;rw [hf, hg];exact (frac_Cmp (fracOf f) (fracOf g) hf2 hg2 w).mono fun e w' ⟨k1, k2⟩ => ⟨_, k1, k2, avr_tup2 (.int _ _) (.int _ _)⟩
def lpAdd1 (n : Nat) (sm : Nat -> Ld) (lo hi : Nat -> Int × Int × Int) : Lp where
 X := Nat
 ov j := [(15, .int .i64 fun _ => (n : Int) - 1 - (j : Int))]
 oe j := [(2, .box 48 (ldL fun _ => sm j)), (3, .box 79 [.int .i64 fun _ => (lo j).1, .int .i64 fun _ => (lo j).2.1, .int .i64 fun _ => (lo j).2.2]), (4, .box 79 [.int .i64 fun _ => (hi j).1, .int .i64 fun _ => (hi j).2.1, .int .i64 fun _ => (hi j).2.2])]
 I j := j <= n
 μ j _ := n - j
 x0 := 0
 nx := some fun j => j + 1
def conMomentAdds : Con := ⟨8, [.sl .plc, .int .u32, .sl .drp], fun
 | [x0, x1, x2] => (x0.toPlcs).bind fun l => (x1.toU32).bind fun n => (x2.toDrps).bind fun d => some ⟨fun _ => ((∀ p ∈ l (), plcOk p) /\ (l ()).length <= 140737488351232) /\ (0 <= n () /\ n () <= 4294967295) /\ (∀ x ∈ d (), drpOk x) /\ (d ()).length <= 140737488351232, .bool fun _ => true⟩
 | _ => none⟩
set_option maxRecDepth 100000 in
set_option maxHeartbeats 4000000 in
theorem conMomentAdds_ok : ConOk Tryz.prog conMomentAdds := by
 refine fnOkO { kp := [(0, [0, 1, 2]), (1, [0, 1, 2]), (2, []), (3, [0, 1, 2]), (4, [7, 8, 9]), (5, [7, 8, 9, 10, 11]), (6, []), (7, [7, 8, 9, 10]), (8, [7, 8, 9, 10, 12]), (9, [7, 8, 9, 10, 12, 13, 14]), (10, [7, 8, 9, 10, 12, 13, 14, 15]), (11, [7, 8, 9, 10, 12, 13, 14, 15]), (12, [7, 8, 9, 10, 12, 13, 14, 15]), (13, [7, 8, 9, 10, 12, 13, 14, 15, 16, 17, 18, 19]), (14, [7, 8, 9, 10, 12, 13, 14, 15, 16, 17, 18, 19, 20, 21]), (15, [7, 8, 9, 10, 12, 13, 14, 15, 16, 17, 18, 19, 21, 22, 23]), (16, [7, 8, 9, 10, 12, 13, 14, 15, 16, 17, 18, 19, 21, 23, 24, 25]), (17, []), (18, [7, 8, 9, 10, 12, 13, 14, 15, 16, 17, 18, 24]), (19, [7, 8, 9, 10, 12, 13, 14, 15, 16, 17, 18]), (20, [7, 8, 9, 10, 12, 13, 14, 15, 125, 126]), (21, [7, 8, 9, 10, 12, 13, 14, 15, 125, 126]), (22, [7, 8, 9, 10, 12, 13, 14, 15, 26, 27, 125, 126]), (23, [7, 8, 9, 10, 12, 13, 14, 15, 125, 126]), (24, [9, 10, 12, 13, 14]), (25, [9, 10, 11, 12, 13, 14, 28]), (26, [10, 11, 12]), (27, [10, 11, 12, 13, 14, 28]), (28, []), (29, [10, 13, 14, 28]), (30, [10, 13, 14, 178, 179]), (31, [10, 13, 14, 178, 179]), (32, [10, 13, 14, 29, 30, 178, 179]), (33, [10, 13, 14, 29, 30, 31, 178, 179]), (34, [10, 13, 14, 29, 30, 31, 32, 33, 178, 179]), (35, [10, 13, 14, 29, 30, 31, 32, 33, 34, 35, 178, 179]), (36, [10, 13, 14, 29, 32, 33, 34, 35, 36, 37, 178, 179]), (37, []), (38, [10, 13, 14, 178, 179]), (39, [])], lt := [(12, ⟨[0, 1, 2, 3, 4, 5, 6, 7, 8, 9, 10, 11, 12, 13, 14, 15, 16, 17], [0, 1, 2, 3, 4, 5, 6, 7, 8, 9, 10, 11, 12, 13, 14, 15, 16, 17], [], [], []⟩), (22, ⟨[0, 1, 2, 3, 5, 7, 8, 10, 4, 6, 9, 11, 12, 13, 14, 15], [0, 1, 2, 3, 5, 7, 8, 10], [], [⟨[0, 1, 2, 3, 4, 5, 6, 7], [7, 8, 9, 10, 12, 13, 14, 15, 125, 126, 130, 131, 133, 134, 135, 136, 138, 139, 140, 141, 142, 143], (0, 0), [(8, 4, 1), (10, 9, 2)]⟩, ⟨[0, 1, 2, 3, 4, 5, 6, 7, 8], [7, 8, 9, 10, 12, 13, 14, 15, 125, 126, 130, 131, 134, 135, 136, 138, 139, 140, 141, 142, 143], (0, 4), [(9, 6, 3), (10, 9, 4)]⟩, ⟨[0, 1, 2, 3, 4, 5, 6, 7, 10], [7, 8, 9, 10, 12, 13, 14, 15, 125, 126, 130, 131, 133, 134, 135, 136, 139, 140, 141, 142, 143], (0, 9), [(8, 4, 4), (11, 11, 5)]⟩, ⟨[0, 1, 2, 3, 4, 5, 6, 7, 8, 9], [7, 8, 9, 10, 12, 13, 14, 15, 125, 126, 130, 131, 136, 138, 139, 140, 141, 142, 143], (1, 6), [(12, 12, 6)]⟩, ⟨[0, 1, 2, 3, 4, 5, 6, 7, 8, 10], [7, 8, 9, 10, 12, 13, 14, 15, 125, 126, 130, 131, 134, 135, 136, 139, 140, 141, 142, 143], (1, 9), [(9, 6, 7), (11, 11, 8)]⟩, ⟨[0, 1, 2, 3, 4, 5, 6, 7, 10, 11], [7, 8, 9, 10, 12, 13, 14, 15, 125, 126, 130, 131, 133, 134, 135, 136, 141, 142, 143], (2, 11), [(8, 4, 8)]⟩, ⟨[0, 1, 2, 3, 4, 5, 6, 7, 8, 9, 12], [7, 8, 9, 10, 12, 13, 14, 15, 125, 126, 131, 136, 138, 139, 140, 141, 142, 143], (3, 12), [(10, 9, 9), (13, 13, 10)]⟩, ⟨[0, 1, 2, 3, 4, 5, 6, 7, 8, 9, 10], [7, 8, 9, 10, 12, 13, 14, 15, 125, 126, 130, 131, 136, 139, 140, 141, 142, 143], (4, 6), [(12, 12, 9)]⟩, ⟨[0, 1, 2, 3, 4, 5, 6, 7, 8, 10, 11], [7, 8, 9, 10, 12, 13, 14, 15, 125, 126, 130, 131, 134, 135, 136, 141, 142, 143], (4, 11), [(9, 6, 11)]⟩, ⟨[0, 1, 2, 3, 4, 5, 6, 7, 8, 9, 10, 12], [7, 8, 9, 10, 12, 13, 14, 15, 125, 126, 131, 136, 139, 140, 141, 142, 143], (6, 9), [(11, 11, 12), (13, 13, 13)]⟩, ⟨[0, 1, 2, 3, 4, 5, 6, 7, 8, 9, 12, 13], [7, 8, 9, 10, 12, 13, 14, 15, 125, 126, 131, 138, 139, 140, 141, 143], (6, 13), [(10, 9, 13)]⟩, ⟨[0, 1, 2, 3, 4, 5, 6, 7, 8, 9, 10, 11], [7, 8, 9, 10, 12, 13, 14, 15, 125, 126, 130, 131, 136, 141, 142, 143], (8, 6), [(12, 12, 12)]⟩, ⟨[0, 1, 2, 3, 4, 5, 6, 7, 8, 9, 10, 11, 12], [7, 8, 9, 10, 12, 13, 14, 15, 125, 126, 131, 136, 141, 142, 143], (9, 11), [(13, 13, 14)]⟩, ⟨[0, 1, 2, 3, 4, 5, 6, 7, 8, 9, 10, 12, 13], [7, 8, 9, 10, 12, 13, 14, 15, 125, 126, 131, 139, 140, 141, 143], (9, 13), [(11, 11, 14)]⟩, ⟨[0, 1, 2, 3, 4, 5, 6, 7, 8, 9, 10, 11, 12, 13], [7, 8, 9, 10, 12, 13, 14, 15, 125, 126, 131, 141, 143], (12, 13), []⟩], [14, 15]⟩), (33, ⟨[1, 2, 0, 3, 4, 5, 6, 7, 8, 9, 10, 11, 12], [1, 2], [], [⟨[0, 1], [10, 13, 14, 29, 30, 31, 32, 33, 178, 179, 186, 187, 188, 189, 190, 191, 192, 193, 194, 195], (0, 0), [(2, 0, 1), (3, 3, 2), (10, 10, 3)]⟩, ⟨[0, 1, 2], [10, 13, 14, 29, 30, 31, 32, 33, 178, 179, 186, 187, 188, 189, 190, 191, 192, 193, 194, 195], (0, 0), [(3, 3, 4), (10, 10, 5)]⟩, ⟨[0, 1, 3], [10, 13, 14, 29, 30, 31, 32, 33, 178, 179, 186, 187, 188, 190, 191, 192, 193, 194, 195], (0, 3), [(4, 4, 6)]⟩, ⟨[0, 1, 10], [10, 13, 14, 29, 30, 31, 32, 33, 178, 179, 186, 187, 188, 189, 190, 191, 192, 193, 194, 195], (0, 10), [(3, 3, 7)]⟩, ⟨[0, 1, 2, 3], [10, 13, 14, 29, 30, 31, 32, 33, 178, 179, 186, 187, 188, 190, 191, 192, 193, 194, 195], (1, 3), [(4, 4, 8)]⟩, ⟨[0, 1, 2, 10], [10, 13, 14, 29, 30, 31, 32, 33, 178, 179, 186, 187, 188, 189, 190, 191, 192, 193, 194, 195], (1, 10), [(3, 3, 9)]⟩, ⟨[0, 1, 3, 4], [10, 13, 14, 29, 30, 31, 32, 33, 178, 179, 186, 187, 191, 192, 193, 194, 195], (2, 4), [(2, 0, 8), (5, 5, 10), (10, 10, 11)]⟩, ⟨[0, 1, 3, 10], [10, 13, 14, 29, 30, 31, 32, 33, 178, 179, 186, 187, 188, 190, 191, 192, 193, 194, 195], (3, 3), [(4, 4, 11)]⟩, ⟨[0, 1, 2, 3, 4], [10, 13, 14, 29, 30, 31, 32, 33, 178, 179, 186, 187, 191, 192, 193, 194, 195], (4, 4), [(5, 5, 12), (10, 10, 13)]⟩, ⟨[0, 1, 2, 3, 10], [10, 13, 14, 29, 30, 31, 32, 33, 178, 179, 186, 187, 188, 190, 191, 192, 193, 194, 195], (5, 3), [(4, 4, 13)]⟩, ⟨[0, 1, 3, 4, 5], [10, 13, 14, 29, 30, 31, 32, 33, 178, 179, 186, 187, 192, 193, 194, 195], (6, 5), [(2, 0, 12), (10, 10, 14)]⟩, ⟨[0, 1, 3, 4, 10], [10, 13, 14, 29, 30, 31, 32, 33, 178, 179, 186, 187, 191, 192, 193, 194, 195], (6, 10), [(2, 0, 13), (5, 5, 14)]⟩, ⟨[0, 1, 2, 3, 4, 5], [10, 13, 14, 29, 30, 31, 32, 33, 178, 179, 186, 187, 192, 193, 194, 195], (8, 5), [(6, 6, 15), (10, 10, 16)]⟩, ⟨[0, 1, 2, 3, 4, 10], [10, 13, 14, 29, 30, 31, 32, 33, 178, 179, 186, 187, 191, 192, 193, 194, 195], (8, 10), [(5, 5, 16)]⟩, ⟨[0, 1, 3, 4, 5, 10], [10, 13, 14, 29, 30, 31, 32, 33, 178, 179, 186, 187, 192, 193, 194, 195], (10, 10), [(2, 0, 16)]⟩, ⟨[0, 1, 2, 3, 4, 5, 6], [10, 13, 14, 29, 30, 31, 32, 33, 178, 179, 186, 193, 194, 195], (12, 6), [(7, 7, 17)]⟩, ⟨[0, 1, 2, 3, 4, 5, 10], [10, 13, 14, 29, 30, 31, 32, 33, 178, 179, 186, 187, 192, 193, 194, 195], (12, 10), [(6, 6, 18)]⟩, ⟨[0, 1, 2, 3, 4, 5, 6, 7], [10, 13, 14, 29, 30, 31, 32, 33, 178, 179, 186, 194, 195], (15, 7), [(8, 8, 19)]⟩, ⟨[0, 1, 2, 3, 4, 5, 6, 10], [10, 13, 14, 29, 30, 31, 32, 33, 178, 179, 186, 193, 194, 195], (16, 6), [(7, 7, 20)]⟩, ⟨[0, 1, 2, 3, 4, 5, 6, 7, 8], [10, 13, 14, 29, 30, 31, 32, 33, 178, 179, 186, 194, 195], (17, 8), [(9, 9, 21)]⟩, ⟨[0, 1, 2, 3, 4, 5, 6, 7, 10], [10, 13, 14, 29, 30, 31, 32, 33, 178, 179, 186, 194, 195], (18, 7), [(8, 8, 22)]⟩, ⟨[0, 1, 2, 3, 4, 5, 6, 7, 8, 9], [10, 13, 14, 29, 30, 31, 32, 33, 178, 179, 194, 195], (19, 9), [(10, 10, 23)]⟩, ⟨[0, 1, 2, 3, 4, 5, 6, 7, 8, 10], [10, 13, 14, 29, 30, 31, 32, 33, 178, 179, 186, 194, 195], (20, 8), [(9, 9, 23)]⟩, ⟨[0, 1, 2, 3, 4, 5, 6, 7, 8, 9, 10], [10, 13, 14, 29, 30, 31, 32, 33, 178, 179, 194, 195], (21, 10), []⟩], [11, 12]⟩), (34, ⟨[0, 1, 2, 3, 4, 5, 6, 7, 8, 9, 10, 11], [0, 1, 2, 3, 4, 5, 6, 7, 8, 9, 10, 11], [], [], []⟩), (35, ⟨[0, 1, 2, 3, 4, 5, 6, 7, 8, 9, 10, 11], [0, 1, 2, 3, 4, 5, 6, 7, 8, 9, 10, 11], [], [], []⟩), (36, ⟨[0, 1, 2, 3, 4, 5, 6, 7, 8, 9, 10, 11, 12, 13, 14, 15, 16, 17, 18, 19, 20, 21, 22, 23, 24, 25, 26, 27], [0, 1, 2], [3, 4, 5, 6, 8, 10, 12, 15, 9, 11, 13], [⟨[0, 1, 2, 3, 4, 5, 6, 8, 9, 10, 11, 12, 13, 15], [10, 13, 14, 32, 34, 36, 178, 179, 222, 223, 225, 227, 229, 230, 231, 232, 233, 234, 235, 236, 237, 238, 239, 240, 241, 242, 243], (0, 13), [(7, 7, 1), (14, 14, 2)]⟩, ⟨[0, 1, 2, 3, 4, 5, 6, 7, 8, 9, 10, 11, 12, 13, 15], [10, 13, 14, 34, 36, 178, 179, 222, 223, 225, 227, 229, 230, 231, 232, 233, 234, 235, 236, 237, 238, 239, 240, 241, 242, 243], (0, 7), [(14, 14, 3)]⟩, ⟨[0, 1, 2, 3, 4, 5, 6, 8, 9, 10, 11, 12, 13, 14, 15], [10, 13, 14, 32, 34, 36, 178, 179, 222, 223, 230, 231, 232, 233, 234, 235, 236, 237, 238, 239, 240, 241, 242, 243], (0, 14), [(7, 7, 3), (16, 16, 4)]⟩, ⟨[0, 1, 2, 3, 4, 5, 6, 7, 8, 9, 10, 11, 12, 13, 14, 15], [10, 13, 14, 34, 36, 178, 179, 222, 223, 230, 231, 232, 233, 234, 235, 236, 237, 238, 239, 240, 241, 242, 243], (1, 14), [(16, 16, 5)]⟩, ⟨[0, 1, 2, 3, 4, 5, 6, 8, 9, 10, 11, 12, 13, 14, 15, 16], [10, 13, 14, 32, 34, 36, 178, 179, 222, 223, 232, 233, 234, 235, 236, 237, 238, 239, 240, 241, 242, 243], (2, 16), [(7, 7, 5), (17, 17, 6)]⟩, ⟨[0, 1, 2, 3, 4, 5, 6, 7, 8, 9, 10, 11, 12, 13, 14, 15, 16], [10, 13, 14, 34, 36, 178, 179, 222, 223, 232, 233, 234, 235, 236, 237, 238, 239, 240, 241, 242, 243], (3, 16), [(17, 17, 7)]⟩, ⟨[0, 1, 2, 3, 4, 5, 6, 8, 9, 10, 11, 12, 13, 14, 15, 16, 17], [10, 13, 14, 32, 34, 36, 178, 179, 222, 223, 233, 234, 235, 236, 237, 238, 239, 240, 241, 242, 243], (4, 17), [(7, 7, 7)]⟩, ⟨[0, 1, 2, 3, 4, 5, 6, 7, 8, 9, 10, 11, 12, 13, 14, 15, 16, 17], [10, 13, 14, 34, 36, 178, 179, 222, 223, 233, 234, 235, 236, 237, 238, 239, 240, 241, 242, 243], (5, 17), []⟩], [18, 19, 20, 21, 22, 23, 24, 25, 26, 27]⟩)], ul := [20, 30], ct := [24, 31, 34] } [conAwake, conMade, conCargo, conNone, conMiddle, conMRight, conStowFind, conMPoint, conMAdd, conFind, conLRatio, conOf, conMul, conFCmp] ⟨conAwake_ok, conMade_ok, conCargo_ok, conNone_ok, conMiddle_ok, conMRight_ok, conStowFind_ok, conMPoint_ok, conMAdd_ok, conFind_ok, conLRatio_ok, conOf_ok, conMul_ok, conFCmp_ok, trivial⟩ [] trivial Tryz.func8 (by kernel_rfl) fun avs res h hp => ?_;simp only [conMomentAdds] at h;split at h
 case h_2 => cases h
 rename_i x0 x1 x2;simp only [Option.bind_eq_some_iff, Option.some.injEq] at h;obtain ⟨l, e0, n, e1, d, e2, rfl⟩ := h;obtain rfl := AV.toPlcs_ e0;obtain rfl := AV.toU32_ e1;obtain rfl := AV.toDrps_ e2;clear e0 e1 e2;obtain ⟨l, rfl⟩ := eta (α := List Plc) l;obtain ⟨n, rfl⟩ := eta (α := Int) n;obtain ⟨d, rfl⟩ := eta (α := List Drp) d;have hm : ((∀ p ∈ l, plcOk p) /\ l.length <= 140737488351232) /\ (0 <= n /\ n <= 4294967295) /\ (∀ x ∈ d, drpOk x) /\ d.length <= 140737488351232 := hp;refine nameIt (madeS l n) fun S hS => ?_;refine nameIt (madeT l n d) fun st hst => ?_;refine nameIt st.length fun q hq => ?_;refine nameIt (fun j : Nat => sumW ((st.drop (q - j)).map (rawE S (madeB d) st))) fun sm hsm => ?_;refine nameIt (fun j : Nat => (lowG (fun e => (placeF S (madeB d) st e).1) (st.drop (q - j)), lowG (fun e => (placeF S (madeB d) st e).2.1) (st.drop (q - j)), lowG (fun e => (placeF S (madeB d) st e).2.2) (st.drop (q - j)))) fun lo hlo => ?_;refine nameIt (fun j : Nat => (highG (fun e => (placeF S (madeB d) st e).1) (st.drop (q - j)), highG (fun e => (placeF S (madeB d) st e).2.1) (st.drop (q - j)), highG (fun e => (placeF S (madeB d) st e).2.2) (st.drop (q - j)))) fun hi hhi => ?_;refine ⟨[(10, lpAdd1 q sm lo hi)], ?_⟩
 conv => arg 1; cbv
 simp (maxSteps := 4000000) only [P_vc, P_br, P_and, P_fin, V_nil, V_one, V_cons, T_self, castK, succK, Int.toNat_natCast, predK, decide_eq_true_eq, decide_eq_false_iff_not, List.map_cons, List.map_nil, cond_true, cond_false, true_and, and_true, eq_self];obtain ⟨⟨p1, p2⟩, p3, p4, p5⟩ := hm;have hstl := madeT_len l n d;have hbp := madeB_pre d;have hsmall : Small S (madeB d) st := by rw [<- hS, <- hst]; exact made_small p1 p4
 have hpS : shipPre S := by rw [<- hS]; exact built_pre p1
 have E0 : (⟨S.cols, S.covs, S.lk, S.lx, S.ly, S.lz, S.rows, S.frms, S.tnks, S.m1, S.m2, S.m3, S.m4⟩ : Shp) = S := rfl;rw [hst, hq] at hstl;have hcs := cargo_sum hsmall;have hcg := hsmall.cargo;have hsw := hsmall.stow;have hsq : sm q = sumW (st.map (rawE S (madeB d) st)) := by rw [<- hsm]; simp only [Nat.sub_self, List.drop_zero]
 rw [<- hsq] at hcs;have hs0 : sm 0 = ld0 := by rw [<- hsm]; simp only [Nat.sub_zero]; rw [List.drop_of_length_le (by omega)]; rfl
 have hl0 : lo 0 = (1100000, 1100000, 1100000) := by rw [<- hlo]; simp only [Nat.sub_zero]; rw [List.drop_of_length_le (by omega)]; rfl
 have hh0 : hi 0 = (-1100000, -1100000, -1100000) := by rw [<- hhi]; simp only [Nat.sub_zero]; rw [List.drop_of_length_le (by omega)]; rfl
 have hstep : ∀ j, j < q -> st.drop (q - (j + 1)) = st.getD (q - 1 - j) Tc.stowed.dflt :: st.drop (q - j) := fun j hj => by
  have h1 : q - 1 - j < st.length := by omega
  rw [show q - (j + 1) = q - 1 - j by omega, List.drop_eq_getElem_cons h1, List.getD_eq_getElem?_getD, List.getElem?_eq_getElem h1, show q - 1 - j + 1 = q - j by omega];rfl
 have hsum1 : ∀ j, j < q -> sm (j + 1) = (rawE S (madeB d) st (st.getD (q - 1 - j) Tc.stowed.dflt)).add (sm j) := fun j hj => by
  rw [<- hsm];simp only;rw [hstep j hj, List.map_cons, sumW_cons]
 have hlo1 : ∀ j, j < q -> lo (j + 1) = (cond (decide ((placeF S (madeB d) st (st.getD (q - 1 - j) Tc.stowed.dflt)).1 < (lo j).1)) (placeF S (madeB d) st (st.getD (q - 1 - j) Tc.stowed.dflt)).1 (lo j).1, cond (decide ((placeF S (madeB d) st (st.getD (q - 1 - j) Tc.stowed.dflt)).2.1 < (lo j).2.1)) (placeF S (madeB d) st (st.getD (q - 1 - j) Tc.stowed.dflt)).2.1 (lo j).2.1, cond (decide ((placeF S (madeB d) st (st.getD (q - 1 - j) Tc.stowed.dflt)).2.2 < (lo j).2.2)) (placeF S (madeB d) st (st.getD (q - 1 - j) Tc.stowed.dflt)).2.2 (lo j).2.2) := fun j hj => by
  rw [<- hlo];simp only;rw [hstep j hj, low_cons, low_cons, low_cons]
 have hhi1 : ∀ j, j < q -> hi (j + 1) = (cond (decide ((hi j).1 < (placeF S (madeB d) st (st.getD (q - 1 - j) Tc.stowed.dflt)).1)) (placeF S (madeB d) st (st.getD (q - 1 - j) Tc.stowed.dflt)).1 (hi j).1, cond (decide ((hi j).2.1 < (placeF S (madeB d) st (st.getD (q - 1 - j) Tc.stowed.dflt)).2.1)) (placeF S (madeB d) st (st.getD (q - 1 - j) Tc.stowed.dflt)).2.1 (hi j).2.1, cond (decide ((hi j).2.2 < (placeF S (madeB d) st (st.getD (q - 1 - j) Tc.stowed.dflt)).2.2)) (placeF S (madeB d) st (st.getD (q - 1 - j) Tc.stowed.dflt)).2.2 (hi j).2.2) := fun j hj => by
  rw [<- hhi];simp only;rw [hstep j hj, high_cons, high_cons, high_cons]
 -- bounds
 have hmid := hsmall.mid;rw [mids_map hsw] at hmid;have hpl : ∀ e ∈ st, (0 <= (findV (madeB d) e.box).1.kilos /\ (findV (madeB d) e.box).1.kilos <= 27000) /\ (-64000 <= (placeF S (madeB d) st e).1 /\ (placeF S (madeB d) st e).1 <= 64000) /\ (-64000 <= (placeF S (madeB d) st e).2.1 /\ (placeF S (madeB d) st e).2.1 <= 64000) /\ -400000 <= (placeF S (madeB d) st e).2.2 /\ (placeF S (madeB d) st e).2.2 <= 400000 := fun e he => hmid _ (List.mem_map.2 ⟨e, (sortT_perm st).mem_iff.2 he, rfl⟩);have hraw : ∀ e ∈ st, ldOk (rawE S (madeB d) st e) = true := fun e he => (pointOf_raw (hmid _ (List.mem_map.2 ⟨e, (sortT_perm st).mem_iff.2 he, rfl⟩))).2;have hkil : ∀ j, 0 <= (sm j).kilos /\ (sm j).kilos <= 500000 := fun j => by
  rw [<- hsm];simp only;have h1 := raw_kilos ((st.drop (q - j)).map (midE S (madeB d) st)) (fun m hm => by
   obtain ⟨e, he, rfl⟩ := List.mem_map.1 hm;exact (hpl e (List.mem_of_mem_drop he)).1)
  rw [List.map_map, List.length_map, List.length_drop] at h1;have h2 : (sumW ((st.drop (q - j)).map (rawE S (madeB d) st))) = sumW ((st.drop (q - j)).map (rawP ∘ midE S (madeB d) st)) := rfl;rw [h2];omega
 have hsok : ∀ j, ldOk (sm j) = true := fun j => by
  have h1 := hkil j;rw [<- hsm] at h1 ⊢;simp only at h1 ⊢;exact (sumW_ok _ (fun x hx => by
   obtain ⟨e, he, rfl⟩ := List.mem_map.1 hx;exact hraw e (List.mem_of_mem_drop he)) (by omega)).1
 simp only [hS, hst, E0, hcs, hq];have eld : ∀ a : Ld, (⟨a.kilos, a.x, a.y, a.z⟩ : Ld) = a := fun _ => rfl;simp only [eld, hsok, hpS, hbp, hs0, hl0, hh0, ld0, decide_true, Bool.not_true, Bool.false_eq_true, Bool.true_eq_false, false_implies, true_implies, forall_const, implies_true, true_and, and_true, eq_self];refine ⟨⟨⟨p1, p2⟩, p3, p4, p5⟩, by omega, by simp only [inI64]; omega, ⟨Nat.zero_le _, by omega⟩, fun (j : Nat) hj => ?_⟩;have hj1 : j <= q := hj
 conv => arg 1; cbv
 simp (maxSteps := 4000000) only [P_vc, P_br, P_and, P_fin, V_nil, V_one, V_cons, T_self, castK, succK, Int.toNat_natCast, predK, decide_eq_true_eq, decide_eq_false_iff_not, List.map_cons, List.map_nil, cond_true, cond_false, true_and, and_true, eq_self];refine ⟨fun g => ?_, fun g => ?_⟩
 . have hlt : j < q := by omega
   have htn : ((q : Int) - 1 - (j : Int)).toNat = q - 1 - j := by omega
   have hem : st.getD (q - 1 - j) Tc.stowed.dflt ∈ st := getD_mem _ (by omega);have s1 := hsum1 j hlt;have l1 := hlo1 j hlt;have h1 := hhi1 j hlt;have hk0 := hkil j;have hk1 := hkil (j + 1);have ho0 := hsok j;simp only [E0, htn];generalize st.getD (q - 1 - j) Tc.stowed.dflt = e at hem s1 l1 h1 ⊢;have hpe := hpl e hem;have hre := hraw e hem;have hfe := stow_found hsw e hem;have hpt : pointF (findV (madeB d) e.box).1.kilos (placeF S (madeB d) st e).1 (placeF S (madeB d) st e).2.1 (placeF S (madeB d) st e).2.2 = (rawE S (madeB d) st e, 0) := point_ok (m := midE S (madeB d) st e) hpe;have hkr : (rawE S (madeB d) st e).kilos = (findV (madeB d) e.box).1.kilos := rfl;have hadd : addF [sm j, rawE S (madeB d) st e] = (sm (j + 1), 0) := by
    rw [add_two ho0 hre (by omega), add_comm', s1]
   have hst20 : st.length <= 20 := by omega
   simp only [middle_there hcg hem, hpt, eld, hadd, hfe, hpS, hbp, hbp.1, hst20, hq, List.length_cons, List.length_nil, List.all_cons, List.all_nil, decide_true, Bool.and_true, Bool.not_true, Bool.false_eq_true, Bool.true_eq_false, false_implies, true_implies, forall_const, implies_true, true_and, and_true, and_self, eq_self];simp only [l1, h1];simp only [and_true];exact ⟨⟨by omega, by omega⟩, by omega, ⟨by omega, by omega⟩, by decide, by decide, by simp only [inI64]; omega, ⟨by omega, by omega⟩, by omega⟩
 . obtain rfl : j = q := by omega
   refine fun _ _ => ?_
   conv => arg 1; cbv
   simp (maxSteps := 4000000) only [P_vc, P_br, P_and, P_fin, V_nil, V_one, V_cons, T_self, castK, succK, Int.toNat_natCast, predK, decide_eq_true_eq, decide_eq_false_iff_not, List.map_cons, List.map_nil, cond_true, cond_false, true_and, and_true, eq_self];simp only [eld];have hkp : ∀ e ∈ st, 1 <= (rawE S (madeB d) st e).kilos := fun e he => by
    have hf := found_id (stow_found hsw e he);show 1 <= (findV (madeB d) e.box).1.kilos
    generalize (findV (madeB d) e.box).1 = b at hf ⊢;obtain ⟨i, hi, rfl⟩ := List.mem_map.1 (show b ∈ boxesK d (min d.length 16) from hf.2);rw [List.mem_range] at hi;have := (p4 _ (getD_mem Tc.drp.dflt (show i < d.length by omega))).2;unfold dropB;simp only;omega
   have hkl : (st.length : Int) <= (sm j).kilos := by rw [hsq]; exact kilos_pos hkp
   have hok := hsok j;have hff : findF (sm j) = if (sm j).kilos = 0 then (ctr0, 6) else (⟨(ratioL (sm j).x (sm j).kilos).1, (ratioL (sm j).y (sm j).kilos).1, (ratioL (sm j).z (2 * (sm j).kilos)).1⟩, 0) := by
    unfold findF;rw [if_pos hok]
   have hz0 : st.length = 0 -> sm j = ld0 := fun h => by rw [hsq, List.eq_nil_of_length_eq_zero h]; rfl
   refine ⟨fun h0 => ?_, fun h0 => ?_⟩
   . have h1 := hz0 (by omega);rw [h1];refine ⟨fun _ => ⟨fun _ => trivial, fun h => absurd rfl h⟩, fun h => absurd (show (findF ld0).2 = 6 from by decide) h⟩
   . have hK : 0 < (sm j).kilos := by omega
     have hkb := (hkil j).2;rw [if_neg (by omega)] at hff;refine ⟨by rw [hff]; simp, fun _ => ⟨by simp, fun _ => fun _ _ => ?_⟩⟩;have hX : (findF (sm j)).1.x = (ratioL (sm j).x (sm j).kilos).1 := by rw [hff]
     have hY : (findF (sm j)).1.y = (ratioL (sm j).y (sm j).kilos).1 := by rw [hff]
     have hZ : (findF (sm j)).1.z = (ratioL (sm j).z (2 * (sm j).kilos)).1 := by rw [hff]
     have hwr0 : (1 : Int) + IntKind.i64.wrap (Int.tdiv 0 2) = 1 := by decide
     have hwr1 : (1 : Int) + IntKind.i64.wrap (Int.tdiv 1 2) = 1 := by decide
     have hwr2 : (1 : Int) + IntKind.i64.wrap (Int.tdiv 2 2) = 2 := by decide
     have hnum := ldOk_nums hok;have hlim : ∀ n, limbsOk [limb n 0, limb n 1, limb n 2, limb n 3, limb n 4, limb n 5, limb n 6, limb n 7] = True := fun n => eq_true (limbs_ok n);have hof : ∀ {a : Int}, inI64 a -> (ofL a).fits := fun {a} h => by
      simp only [inI64] at h;exact ofL_fits ⟨by omega, by omega⟩
     have hrf : ∀ a b : Int, fracOf ((ratioL a b).1.neg, [limb (ratioL a b).1.num 0, limb (ratioL a b).1.num 1, limb (ratioL a b).1.num 2, limb (ratioL a b).1.num 3, limb (ratioL a b).1.num 4, limb (ratioL a b).1.num 5, limb (ratioL a b).1.num 6, limb (ratioL a b).1.num 7], [limb (ratioL a b).1.den 0, limb (ratioL a b).1.den 1, limb (ratioL a b).1.den 2, limb (ratioL a b).1.den 3, limb (ratioL a b).1.den 4, limb (ratioL a b).1.den 5, limb (ratioL a b).1.den 6, limb (ratioL a b).1.den 7]) = (ratioL a b).1 := fun a b => fracOf_limbs _ (ratioL_fits a b);have hi1 : inI64 (sm j).kilos := by simp only [inI64]; omega
     have hi2 : inI64 (2 * (sm j).kilos) := by simp only [inI64]; omega
     have hof1 := fracOf_limbs (ofL (sm j).kilos) (hof hi1);have hof2 := fracOf_limbs (ofL (2 * (sm j).kilos)) (hof hi2);have hin : ∀ {a : Int}, inI64 a -> a.natAbs < top256 := fun {a} h => by
      simp only [inI64] at h;have : top256 = 115792089237316195423570985008687907853269984665640564039457584007913129639936 := rfl;omega
     have hxi : inI64 (sm j).x := by simp only [inI64]; omega
     have hyi : inI64 (sm j).y := by simp only [inI64]; omega
     have hzi : inI64 (sm j).z := by simp only [inI64]; omega
     have mX := centre_times hK (hin hxi) (hin hi1);have mY := centre_times hK (hin hyi) (hin hi1);have mZ := centre_times (show 0 < 2 * (sm j).kilos by omega) (hin hzi) (hin hi2);have hlj : lo j = (lowG (fun e => (placeF S (madeB d) st e).1) st, lowG (fun e => (placeF S (madeB d) st e).2.1) st, lowG (fun e => (placeF S (madeB d) st e).2.2) st) := by rw [<- hlo]; simp only [Nat.sub_self, List.drop_zero]
     have hhj : hi j = (highG (fun e => (placeF S (madeB d) st e).1) st, highG (fun e => (placeF S (madeB d) st e).2.1) st, highG (fun e => (placeF S (madeB d) st e).2.2) st) := by rw [<- hhi]; simp only [Nat.sub_self, List.drop_zero]
     have bX := sum_between (·.x) (fun _ _ => rfl) rfl (fun e => (findV (madeB d) e.box).1.kilos) (fun e => (placeF S (madeB d) st e).1) (rawE S (madeB d) st) (fun _ => rfl) (fun _ => rfl) (a := (lo j).1) (b := (hi j).1) st (fun e he => ⟨(hpl e he).1.1, by rw [hlj]; exact low_le (fun e => (placeF S (madeB d) st e).1) st e he, by rw [hhj]; exact le_high (fun e => (placeF S (madeB d) st e).1) st e he⟩);have bY := sum_between (·.y) (fun _ _ => rfl) rfl (fun e => (findV (madeB d) e.box).1.kilos) (fun e => (placeF S (madeB d) st e).2.1) (rawE S (madeB d) st) (fun _ => rfl) (fun _ => rfl) (a := (lo j).2.1) (b := (hi j).2.1) st (fun e he => ⟨(hpl e he).1.1, by rw [hlj]; exact low_le (fun e => (placeF S (madeB d) st e).2.1) st e he, by rw [hhj]; exact le_high (fun e => (placeF S (madeB d) st e).2.1) st e he⟩);have bZ := sum_between (·.z) (fun _ _ => rfl) rfl (fun e => (findV (madeB d) e.box).1.kilos) (fun e => (placeF S (madeB d) st e).2.2) (rawE S (madeB d) st) (fun _ => rfl) (fun _ => rfl) (a := (lo j).2.2) (b := (hi j).2.2) st (fun e he => ⟨(hpl e he).1.1, by rw [hlj]; exact low_le (fun e => (placeF S (madeB d) st e).2.2) st e he, by rw [hhj]; exact le_high (fun e => (placeF S (madeB d) st e).2.2) st e he⟩);rw [<- hsq] at bX bY bZ;have lX : inI64 (lo j).1 := by
      have := low_in (B := 1000000) (by omega) (by omega) (f := fun e => (placeF S (madeB d) st e).1) st (fun e he => by have := hpl e he; omega);rw [hlj]; simp only [inI64]; omega
     have lY : inI64 (lo j).2.1 := by
      have := low_in (B := 1000000) (by omega) (by omega) (f := fun e => (placeF S (madeB d) st e).2.1) st (fun e he => by have := hpl e he; omega);rw [hlj]; simp only [inI64]; omega
     have lZ : inI64 (lo j).2.2 := by
      have := low_in (B := 1000000) (by omega) (by omega) (f := fun e => (placeF S (madeB d) st e).2.2) st (fun e he => by have := hpl e he; omega);rw [hlj]; simp only [inI64]; omega
     have gX : inI64 (hi j).1 := by
      have := high_in (B := 1000000) (by omega) (by omega) (f := fun e => (placeF S (madeB d) st e).1) st (fun e he => by have := hpl e he; omega);rw [hhj]; simp only [inI64]; omega
     have gY : inI64 (hi j).2.1 := by
      have := high_in (B := 1000000) (by omega) (by omega) (f := fun e => (placeF S (madeB d) st e).2.1) st (fun e he => by have := hpl e he; omega);rw [hhj]; simp only [inI64]; omega
     have gZ : inI64 (hi j).2.2 := by
      have := high_in (B := 1000000) (by omega) (by omega) (f := fun e => (placeF S (madeB d) st e).2.2) st (fun e he => by have := hpl e he; omega);rw [hhj]; simp only [inI64]; omega
     have one1 : inI64 1 := by simp only [inI64]; omega
     have two2 : inI64 2 := by simp only [inI64]; omega
     have cX := ratio_le (a := (lo j).1) (b := 1) (c := (sm j).x) (d := (sm j).kilos) (by omega) hK (hin lX) (hin one1) (hin hxi) (hin hi1) (by have := bX.1; omega);have cY := ratio_le (a := (lo j).2.1) (b := 1) (c := (sm j).y) (d := (sm j).kilos) (by omega) hK (hin lY) (hin one1) (hin hyi) (hin hi1) (by have := bY.1; omega);have cZ := ratio_le (a := (lo j).2.2) (b := 2) (c := (sm j).z) (d := 2 * (sm j).kilos) (by omega) (by omega) (hin lZ) (hin two2) (hin hzi) (hin hi2) (by have := bZ.1; rw [show (lo j).2.2 * (2 * (sm j).kilos) = 2 * ((lo j).2.2 * (sm j).kilos) by grind]; omega);have eX := ratio_le (a := (sm j).x) (b := (sm j).kilos) (c := (hi j).1) (d := 1) hK (by omega) (hin hxi) (hin hi1) (hin gX) (hin one1) (by have := bX.2; omega);have eY := ratio_le (a := (sm j).y) (b := (sm j).kilos) (c := (hi j).2.1) (d := 1) hK (by omega) (hin hyi) (hin hi1) (hin gY) (hin one1) (by have := bY.2; omega);have eZ := ratio_le (a := (sm j).z) (b := 2 * (sm j).kilos) (c := (hi j).2.2) (d := 2) (by omega) (by omega) (hin hzi) (hin hi2) (hin gZ) (hin two2) (by have := bZ.2; rw [show (hi j).2.2 * (2 * (sm j).kilos) = 2 * ((hi j).2.2 * (sm j).kilos) by grind]; omega);clear hlj hhj
     conv => arg 1; cbv
     simp (maxSteps := 4000000) only [P_vc, P_br, P_and, P_fin, V_nil, V_one, V_cons, T_self, castK, succK, Int.toNat_natCast, predK, decide_eq_true_eq, decide_eq_false_iff_not, List.map_cons, List.map_nil, cond_true, cond_false, true_and, and_true, eq_self];simp only [hX, hY, hZ, hwr0, hwr1, hwr2, Int.one_mul, hlim, hrf, hof1, hof2, mX, mY, mZ, hi1, hi2, hxi, hyi, hzi, cX.2, cY.2, cZ.2, eX.2, eY.2, eZ.2, lX, lY, lZ, gX, gY, gZ, one1, two2, true_and, and_true, and_self];refine ⟨by decide, fun _ _ => ?_⟩
     conv => arg 1; cbv
     simp (maxSteps := 4000000) only [P_vc, P_br, P_and, P_fin, V_nil, V_one, V_cons, T_self, castK, succK, Int.toNat_natCast, predK, decide_eq_true_eq, decide_eq_false_iff_not, List.map_cons, List.map_nil, cond_true, cond_false, true_and, and_true, eq_self];simp only [hX, hY, hZ, hwr0, hwr1, hwr2, Int.one_mul, hlim, hrf, hof1, hof2, mX, mY, mZ, hi1, hi2, hxi, hyi, hzi, cX.2, cY.2, cZ.2, eX.2, eY.2, eZ.2, lX, lY, lZ, gX, gY, gZ, one1, two2, true_and, and_true, and_self];refine ⟨by decide, by simp, fun _ => ⟨by simp, fun _ => ⟨fun h => absurd h (by have := cX.1; omega), fun _ => ⟨fun h => absurd h (by have := eX.1; omega), fun _ => ?_⟩⟩⟩⟩;refine fun _ _ => ?_
     conv => arg 1; cbv
     simp (maxSteps := 4000000) only [P_vc, P_br, P_and, P_fin, V_nil, V_one, V_cons, T_self, castK, succK, Int.toNat_natCast, predK, decide_eq_true_eq, decide_eq_false_iff_not, List.map_cons, List.map_nil, cond_true, cond_false, true_and, and_true, eq_self];simp only [hX, hY, hZ, hwr0, hwr1, hwr2, Int.one_mul, hlim, hrf, hof1, hof2, mX, mY, mZ, hi1, hi2, hxi, hyi, hzi, cX.2, cY.2, cZ.2, eX.2, eY.2, eZ.2, lX, lY, lZ, gX, gY, gZ, one1, two2, true_and, and_true, and_self];refine ⟨by decide, fun _ _ => ?_⟩
     conv => arg 1; cbv
     simp (maxSteps := 4000000) only [P_vc, P_br, P_and, P_fin, V_nil, V_one, V_cons, T_self, castK, succK, Int.toNat_natCast, predK, decide_eq_true_eq, decide_eq_false_iff_not, List.map_cons, List.map_nil, cond_true, cond_false, true_and, and_true, eq_self];simp only [hX, hY, hZ, hwr0, hwr1, hwr2, Int.one_mul, hlim, hrf, hof1, hof2, mX, mY, mZ, hi1, hi2, hxi, hyi, hzi, cX.2, cY.2, cZ.2, eX.2, eY.2, eZ.2, lX, lY, lZ, gX, gY, gZ, one1, two2, true_and, and_true, and_self];refine ⟨by decide, by simp, fun _ => ⟨by simp, fun _ => ⟨fun h => absurd h (by have := cY.1; omega), fun _ => ⟨fun h => absurd h (by have := eY.1; omega), fun _ => ?_⟩⟩⟩⟩;refine fun _ _ => ?_
     conv => arg 1; cbv
     simp (maxSteps := 4000000) only [P_vc, P_br, P_and, P_fin, V_nil, V_one, V_cons, T_self, castK, succK, Int.toNat_natCast, predK, decide_eq_true_eq, decide_eq_false_iff_not, List.map_cons, List.map_nil, cond_true, cond_false, true_and, and_true, eq_self];simp only [hX, hY, hZ, hwr0, hwr1, hwr2, Int.one_mul, hlim, hrf, hof1, hof2, mX, mY, mZ, hi1, hi2, hxi, hyi, hzi, cX.2, cY.2, cZ.2, eX.2, eY.2, eZ.2, lX, lY, lZ, gX, gY, gZ, one1, two2, true_and, and_true, and_self];refine ⟨by decide, fun _ _ => ?_⟩
     conv => arg 1; cbv
     simp (maxSteps := 4000000) only [P_vc, P_br, P_and, P_fin, V_nil, V_one, V_cons, T_self, castK, succK, Int.toNat_natCast, predK, decide_eq_true_eq, decide_eq_false_iff_not, List.map_cons, List.map_nil, cond_true, cond_false, true_and, and_true, eq_self];simp only [hX, hY, hZ, hwr0, hwr1, hwr2, Int.one_mul, hlim, hrf, hof1, hof2, mX, mY, mZ, hi1, hi2, hxi, hyi, hzi, cX.2, cY.2, cZ.2, eX.2, eY.2, eZ.2, lX, lY, lZ, gX, gY, gZ, one1, two2, true_and, and_true, and_self];refine ⟨by decide, by simp, fun _ => ⟨by simp, fun _ => ⟨fun h => absurd h (by have := cZ.1; omega), fun _ => ⟨fun h => absurd h (by have := eZ.1; omega), fun _ => ?_⟩⟩⟩⟩;trivial
open Go.ChangeShapes Go.Deep Go.WideShapes
theorem list_of {T : Type} {p : Nat -> T -> Prop} : ∀ (n : Nat), (∀ i, i < n -> ∃ x, p i x) -> ∃ l : List T, l.length = n /\ ∀ i (h : i < l.length), p i l[i]
 | 0, _ => ⟨[], rfl, by simp⟩
 | n + 1, h => by
  obtain ⟨l, hl, hp⟩ := list_of n (fun i hi => h i (by omega));obtain ⟨x, hx⟩ := h n (by omega);refine ⟨l ++ [x], by simp [hl], fun i hi => ?_⟩;by_cases e : i < l.length
  . rw [List.getElem_append_left e];exact hp i e
  . have e2 : i = n := by simp at hi; omega
    subst e2;rw [List.getElem_append_right (by omega)];simpa using hx
theorem below_all {H : Type} {enc : TypeId × Value -> H} {P : Program} (hl : laidOutB P = true) {W W' : World} (hb : Below W.heap.size W W') : ∀ {ts : List TypeId} {vs : List Value} {ds : List (DataW H)} {ps : List MemPlace}, (ts.all fun t => P.readableRec t && decide (t < P.types.size)) = true ->
 DataW.TrodAll enc P W 0 (fun _ => true) true ts vs ds ps -> (∀ x ∈ ps, x.block < W.heap.size) -> DataW.TrodAll enc P W' 0 (fun b => decide (b < W.heap.size)) true ts vs ds ps
 | [], vs, ds, ps, _, h, _ => by
  obtain ⟨rfl, rfl, rfl⟩ := trodAll_nil h;exact trodAll_mk0
 | t :: ts, vs, ds, ps, ht, h, hlt => by
  obtain ⟨v, vs', d, ds', p, q, rfl, rfl, rfl, hd, hr⟩ := trodAll_cons h;simp only [List.all_cons, Bool.and_eq_true, decide_eq_true_eq] at ht;exact ⟨p, q, Below.trod hl ht.1.1 ht.1.2 hd hb (fun x hx => hlt x (List.mem_append_left _ hx)), below_all hl hb (by simpa using ht.2) hr (fun x hx => hlt x (List.mem_append_right _ hx)), rfl⟩
theorem Tryz.own : ownKnob Tryz.prog.godebug = none := by kernel_rfl
theorem Tryz.laidOut : laidOutB Tryz.prog = true := by kernel_rfl
section
variable {H : Type} {enc : TypeId × Value -> H} {P : Program} {w : World} {base : Nat} {held : Bool}
def Fits (P : Program) (t : TypeId) (d : DataW H) : Prop := ∀ k ∈ d.weights P t, k <= 140737488351232
theorem weightsAll_mem {t : TypeId} : ∀ {ds : List (DataW H)} {d : DataW H}, d ∈ ds -> ∀ k ∈ d.weights P t, k ∈ DataW.weightsAll P t ds
 | [], _, h, _, _ => by cases h
 | d0 :: ds, d, h, k, hk => by
  unfold DataW.weightsAll;rw [List.mem_append];rcases List.mem_cons.1 h with h | h
  . subst h; exact .inl hk
  . exact .inr (weightsAll_mem h k hk)
theorem Fits.elem {t e : TypeId} {els sp : List (DataW H)} {d : DataW H} (ht : P.underlying t = some (.slice e)) (h : Fits P t (.slice els sp)) (hd : d ∈ els) : Fits P e d := fun k hk => h k (by
 simp only [DataW.weights, ht, List.mem_cons, List.mem_append];exact .inr (.inl (weightsAll_mem hd k hk)))
theorem Fits.size {t e : TypeId} {els sp : List (DataW H)} (ht : P.underlying t = some (.slice e)) (h : Fits P t (.slice els sp)) : (els.length + sp.length) * P.bytesOf e <= 140737488351232 := h _ (by
 simp only [DataW.weights, ht, List.mem_cons];exact .inl trivial)
theorem Fits.field {t : TypeId} {fs : Array Field} {parts : List (DataW H)} {j : Nat} {f : Field} {d : DataW H} (ht : P.underlying t = some (.struct fs)) (h : Fits P t (.agg parts)) (hj : fs[j]? = some f) (hd : parts[j]? = some d) : Fits P f.type d := fun k hk => h k (by
 simp only [DataW.weights, ht];exact DataW.weights_mem_each (j := j) (t := f.type) (by simp [hj]) hd k hk)
theorem fits_of {ts : List TypeId} {ds : List (DataW H)} (h : (DataW.weightsEach P ts ds).all (· <= reachBytes) = true) {j : Nat} {t : TypeId} {d : DataW H} (ht : ts[j]? = some t) (hd : ds[j]? = some d) : Fits P t d := fun k hk => by
 have := List.all_eq_true.1 h _ (DataW.weights_mem_each ht hd k hk);exact of_decide_eq_true this
theorem open_rows {T : Type} {cells : T -> List Value} {wf : T -> Prop} {t e size bytes fuel : Nat} {v : Value} {x : DataW H × List MemPlace} (ht : P.underlying t = some (.slice e)) (hC : P.cellsOf e = size) (h0 : 0 < size) (hB : P.bytesOf e = bytes)
 (hel : ∀ n cs (y : DataW H × List MemPlace), DataW.trod enc P w base (fun _ => true) held n e cs = some y -> Fits P e y.1 -> ∃ b : T, cs = cells b /\ wf b)
 (h : DataW.trod enc P w base (fun _ => true) held fuel t [v] = some x) (hf : Fits P t x.1) :
 ∃ (A : Option Addr) (l : List T) (c : Nat), v = .slice A l.length c /\ Rd w w.heap.size size A (l.map cells) /\ (∀ b ∈ l, wf b) /\ l.length * bytes <= 140737488351232 /\ l.length <= c := by
 rcases open_slice ht h with ⟨hcs, hx⟩ | ⟨a, len, cap, m, n, D, Pl, hcs, hb, hl, hm, hmm, hx, hi⟩
 . injection hcs with hv _;subst hv;exact ⟨none, [], 0, rfl, Rd.nil _ _ _ _, by simp, by simp, by simp⟩
 . injection hcs with hv _;subst hv;subst hx;simp only [if_true] at hmm;subst hmm;have hsz := Fits.size ht hf;rw [hB] at hsz;simp only [List.length_map, List.length_range] at hsz;have key : ∀ i, i < len -> ∃ b : T, wf b /\ (cells b).length = size /\ ∀ j u, (cells b)[j]? = some u -> w.cell? ((a.add (i * size)).add j) = some u := fun i hlt => by
    obtain ⟨cs, hc, ht'⟩ := hi i (by omega);obtain ⟨b, rfl, hw⟩ := hel n cs (D i, Pl i) ht' (Fits.elem ht hf (List.mem_map_of_mem (List.mem_range.2 hlt)));obtain ⟨_, hcl, hat⟩ := World.cells?_some hc;rw [hC] at hcl hat hc;refine ⟨b, hw, hcl, fun j u hu => ?_⟩;rw [hat j (by rw [<- hcl]; exact (List.getElem?_eq_some_iff.1 hu).1)];exact hu
   obtain ⟨l, hll, hp⟩ := list_of len key;subst hll;refine ⟨some a, l, m, rfl, fun k cs hk => ?_, fun b hb' => ?_, Nat.le_trans (Nat.mul_le_mul_right bytes (by omega)) hsz, by omega⟩
   . rw [List.getElem?_map] at hk;obtain ⟨b, hbk, rfl⟩ := Option.map_eq_some_iff.1 hk;have hkl : k < l.length := (List.getElem?_eq_some_iff.1 hbk).1;obtain ⟨_, hcl, hc⟩ := hp k hkl;have hbe : l[k] = b := by rw [List.getElem?_eq_getElem hkl] at hbk; injection hbk
     rw [hbe] at hcl hc;have hu0 : (cells b)[0]? = some ((cells b)[0]'(by omega)) := List.getElem?_eq_getElem (by omega);have hc0 := hc 0 _ hu0;have hlt := block_lt_of_cell hc0;obtain ⟨_, hcl0, hcz⟩ := hp 0 (by omega);have hsp := World.cell?_spot (hcz 0 _ (List.getElem?_eq_getElem (by omega)));obtain ⟨ab, ao, asp⟩ := a;have has : asp = none := by simpa [Addr.add] using hsp
     subst has;refine ⟨ab, ao, rfl, by simpa [Addr.add_lit] using hlt, hcl, fun j u hu => ?_⟩;have := hc j u hu;rwa [Addr.add_lit, Addr.add_lit] at this
   . obtain ⟨k, hk, rfl⟩ := List.mem_iff_getElem.1 hb';exact (hp k hk).1
end
section
variable {H : Type} {enc : TypeId × Value -> H} {w : World} {base : Nat} {spare : Nat -> Bool} {held : Bool}
end
end Go.Proofs.YtfdjcakgolenbaaGreat
