/-
  What the types of places, drops and numbers bring.
-/
import Derived.Test.YtfdjcakgolenbaaGreatMu46
set_option linter.unusedVariables false
set_option linter.unusedSimpArgs false
namespace Go.Proofs.YtfdjcakgolenbaaGreat
open Go.RowKit
theorem lit_wf {k : IntKind} {n : Int} (h : (Lit.int k n).wf = true) : k.min ≤ n ∧ n ≤ k.max := by
 simpa [Lit.wf] using h
theorem plc_wf {p : Plc} (h : ∀ x ∈ cellsAV false .plc (fun _ => p), WfAV 3 x) : plcOk p := by
 have h1 := h (.int .u8 fun _ => p.bay) (by simp [cellsAV])
 have h2 := h (.int .u8 fun _ => p.row) (by simp [cellsAV])
 have h3 := h (.int .u8 fun _ => p.tiers) (by simp [cellsAV])
 exact ⟨lit_wf h1, lit_wf h2, lit_wf h3⟩
theorem drp_wf {d : Drp} (h : ∀ x ∈ cellsAV false .drp (fun _ => d), WfAV 3 x) : drpOk d := by
 have h1 := h (.int .u8 fun _ => d.col) (by simp [cellsAV])
 have h2 := h (.int .u8 fun _ => d.kilos) (by simp [cellsAV])
 exact ⟨lit_wf h1, lit_wf h2⟩
theorem made_wf {l : List Plc} {n : Int} {d : List Drp} (h0 : WfAV 4 (.sl false .plc fun _ => l)) (h1 : (Lit.int .u32 n).wf = true) (h2 : WfAV 4 (.sl false .drp fun _ => d)) : ((∀ p ∈ l, plcOk p) ∧ l.length ≤ 140737488351232) ∧ (0 ≤ n ∧ n ≤ 4294967295) ∧ (∀ x ∈ d, drpOk x) ∧ d.length ≤ 140737488351232 :=
 ⟨⟨fun p hp => plc_wf (h0.2 p hp), h0.1⟩, lit_wf h1, fun x hx => drp_wf (h2.2 x hx), h2.1⟩
def underF (bs : List Box) (l : List Stowed) (c a t : Int) : Int := heightF bs (l.filter fun x => decide (x.tier < t)) c a
def halfA (h : Int) : Int := cond (decide (h = 2)) 2 1
theorem halfA_hs (h : Int) : (hsOf h).headD 0 = halfA h := by
 unfold hsOf halfA
 by_cases h1 : h = 1
 · subst h1; rfl
 · by_cases h2 : h = 2
   · subst h2; rfl
   · simp [h1, h2]
theorem halfA_two (h : Int) : halfA h = 1 ∨ halfA h = 2 := by
 unfold halfA
 cases decide (h = 2) <;> simp
theorem heightF_perm {bs : List Box} {l m : List Stowed} (h : l.Perm m) (c a : Int) : heightF bs l c a = heightF bs m c a := by
 unfold heightF
 induction h with
 | nil => rfl
 | cons x _ ih => rw [List.map_cons, List.map_cons, List.sum_cons, List.sum_cons, ih]
 | swap x y l => simp only [List.map_cons, List.sum_cons]; omega
 | trans _ _ ih1 ih2 => exact ih1.trans ih2
theorem heightF_app {bs : List Box} (l m : List Stowed) (c a : Int) : heightF bs (l ++ m) c a = heightF bs l c a + heightF bs m c a := by
 unfold heightF
 rw [List.map_append, List.sum_append]
theorem heightF_part {bs : List Box} {c a : Int} (p : Stowed → Bool) : ∀ (l : List Stowed), (∀ x ∈ l, p x = false → hAt bs c a x = 0) → heightF bs (l.filter p) c a = heightF bs l c a
 | [], _ => rfl
 | x :: l, h => by
  have ih := heightF_part (bs := bs) (c := c) (a := a) p l fun y hy => h y (.tail _ hy)
  unfold heightF at ih ⊢
  rw [List.filter_cons]
  cases hp : p x with
  | true => simp only [if_true, List.map_cons, List.sum_cons, ih]
  | false =>
   rw [List.map_cons, List.sum_cons, h x (.head _) hp, Int.zero_add]
   simpa using ih
theorem stow_lt {s : Shp} {bs : List Box} {l : List Stowed} (h : stowB s bs l = true) : ∀ i k, i < k → k < l.length → (l.getD i Tc.stowed.dflt).box < (l.getD k Tc.stowed.dflt).box := by
 intro i k hik hk
 induction k with
 | zero => omega
 | succ k ih =>
  have h1 := stow_row h hk
  unfold stowAt at h1
  simp only [Bool.and_eq_true, Bool.or_eq_true, decide_eq_true_eq] at h1
  have h2 : (l.getD k Tc.stowed.dflt).box < (l.getD (k + 1) Tc.stowed.dflt).box := by
   rcases h1.1.2 with h2 | h2
   · omega
   · simpa using h2
  by_cases he : i = k
  · subst he; exact h2
  · have := ih (by omega) (by omega)
    omega
theorem stow_id {s : Shp} {bs : List Box} {l : List Stowed} (h : stowB s bs l = true) {x y : Stowed} (hx : x ∈ l) (hy : y ∈ l) (he : x.box = y.box) : x = y := by
 obtain ⟨i, hi, rfl⟩ := List.getElem_of_mem hx
 obtain ⟨k, hk, rfl⟩ := List.getElem_of_mem hy
 have g : ∀ j (hj : j < l.length), l.getD j Tc.stowed.dflt = l[j] := fun j hj => by rw [List.getD_eq_getElem?_getD, List.getElem?_eq_getElem hj]; rfl
 rcases Nat.lt_trichotomy i k with h1 | h1 | h1
 · have := stow_lt h i k h1 hk
   rw [g i hi, g k hk, he] at this
   omega
 · subst h1; rfl
 · have := stow_lt h k i h1 hi
   rw [g i hi, g k hk, he] at this
   omega
theorem prefix_under {s : Shp} {bs : List Box} {l : List Stowed} (h : stowB s bs l = true) {j : Nat} (hj : j < (sortT l).length) {a : Int} (ha : ((sortT l)[j]).half = 0 ∨ a = ((sortT l)[j]).half) : heightF bs ((sortT l).take j) ((sortT l)[j]).col a = underF bs l ((sortT l)[j]).col a ((sortT l)[j]).tier := by
 have hperm := sortT_perm l
 have hlen := hperm.length_eq
 have hnd : (sortT l).Nodup := hperm.nodup_iff.2 (stow_nodup h)
 obtain ⟨X, hX⟩ : ∃ X, X = (sortT l)[j] := ⟨_, rfl⟩
 have hXl : X ∈ l := hperm.mem_iff.1 (by rw [hX]; exact List.getElem_mem hj)
 rw [← hX] at ha ⊢
 have hsrt : ∀ i k, (hik : i < k) → (hk : k < (sortT l).length) → ((sortT l)[i]'(by omega)).tier ≤ ((sortT l)[k]).tier := fun i k hik hk => by
  have := sortT_sorted l hik (by omega)
  unfold tAt at this
  rw [List.getD_eq_getElem?_getD, List.getElem?_eq_getElem (show i < (sortT l).length by omega), List.getD_eq_getElem?_getD, List.getElem?_eq_getElem hk] at this
  exact this
 unfold underF
 rw [← heightF_perm (hperm.filter fun x => decide (x.tier < X.tier))]
 have hsplit : sortT l = (sortT l).take j ++ (sortT l).drop j := (List.take_append_drop j _).symm
 rw [congrArg (List.filter fun x => decide (x.tier < X.tier)) hsplit, List.filter_append, heightF_app]
 have h2 : ((sortT l).drop j).filter (fun x => decide (x.tier < X.tier)) = [] := by
  rw [List.filter_eq_nil_iff]
  intro y hy
  obtain ⟨i, hi, rfl⟩ := List.getElem_of_mem hy
  rw [List.length_drop] at hi
  rw [List.getElem_drop, decide_eq_true_eq, hX]
  by_cases he : i = 0
  · subst he; simp
  · have := hsrt j (j + i) (by omega) (by omega)
    omega
 rw [h2, heightF_part]
 · simp [heightF]
 · intro y hy hn
   obtain ⟨i, hi, rfl⟩ := List.getElem_of_mem hy
   rw [List.length_take] at hi
   have hij : i < j := by omega
   rw [List.getElem_take] at hn ⊢
   simp only [decide_eq_false_iff_not] at hn
   have h1 := hsrt i j hij hj
   rw [← hX] at h1
   unfold hAt
   rw [if_neg]
   rintro ⟨hc, hh⟩
   have hyl : (sortT l)[i]'(by omega) ∈ l := hperm.mem_iff.1 (List.getElem_mem _)
   have := stow_alone h hyl hXl (by
    unfold meetB sharesB slotOf
    have : ((sortT l)[i]'(by omega)).tier = X.tier := by omega
    simp only [hc, this, decide_true, Bool.true_and]
    rcases ha with ha | ha
    · simp [ha]
    · rcases hh with hh | hh
      · simp [hh, ha]
      · simp [hh])
   rw [hX] at this
   exact (List.pairwise_iff_getElem.1 hnd) i j (by omega) hj hij this
theorem cargo_stow {s : Shp} {bs : List Box} {l : List Stowed} (h : cargoB s bs l = true) : stowB s bs l = true := by
 unfold cargoB at h
 simp only [Bool.and_eq_true] at h
 exact h.2
def placeF (s : Shp) (bs : List Box) (l : List Stowed) (e : Stowed) : Int × Int × Int :=
 (midX (s.cols.getD e.col.toNat Tc.col.dflt) e.half, (s.cols.getD e.col.toNat Tc.col.dflt).y, 2 * ((s.cols.getD e.col.toNat Tc.col.dflt).z + underF bs l e.col (halfA e.half) e.tier) + tallB (findV bs e.box).1)
theorem mid_place {s : Shp} {bs : List Box} {l : List Stowed} (h : stowB s bs l = true) {j : Nat} (hj : j < (sortT l).length) : midOf s.cols bs (topsM bs ((sortT l).take j)) ((sortT l)[j]) = ⟨(findV bs ((sortT l)[j]).box).1, (placeF s bs l ((sortT l)[j])).1, (placeF s bs l ((sortT l)[j])).2.1, (placeF s bs l ((sortT l)[j])).2.2⟩ := by
 have hperm := sortT_perm l
 have hM : ∀ x ∈ (sortT l).take j, x ∈ l := fun x hx => hperm.mem_iff.1 (List.mem_of_mem_take hx)
 have hX := stow_three h _ (hperm.mem_iff.1 (List.getElem_mem hj))
 unfold midOf placeF
 rw [halfA_hs, tops_sum (fun x hx => stow_three h x (hM x hx)) _ (halfA_two _), prefix_under h hj]
 rcases hX.2 with h0 | h0 | h0
 · exact .inl h0
 · exact .inr (by rw [h0]; rfl)
 · exact .inr (by rw [h0]; rfl)
theorem middle_there {s : Shp} {bs : List Box} {l : List Stowed} (h : cargoB s bs l = true) {e : Stowed} (he : e ∈ l) : middleF s bs l e.box = ((placeF s bs l e).1, (placeF s bs l e).2.1, (placeF s bs l e).2.2, 0) := by
 have hs := cargo_stow h
 have hf := stow_found hs e he
 have hlen : (midsL s.cols bs (sortT l)).length = (sortT l).length := by unfold midsL; rw [midsK_len]
 have hget : ∀ (j : Nat) (hj : j < (sortT l).length), (midsL s.cols bs (sortT l)).getD j Tc.mid.dflt = midOf s.cols bs (topsM bs ((sortT l).take j)) ((sortT l)[j]) := fun j hj => by
  unfold midsL midsK
  rw [getD_map (fun j => midOf s.cols bs (topsM bs ((sortT l).take j)) ((sortT l).getD j Tc.stowed.dflt)) _ 0 Tc.mid.dflt (by simpa using hj)]
  have hr : (List.range (sortT l).length).getD j 0 = j := by rw [List.getD_eq_getElem?_getD, List.getElem?_range hj]; rfl
  rw [hr, List.getD_eq_getElem?_getD, List.getElem?_eq_getElem hj]
  rfl
 obtain ⟨j, hj, hej⟩ := List.getElem_of_mem ((sortT_perm l).mem_iff.2 he)
 rcases idx_cases (midIs e.box) (midsL s.cols bs (sortT l)) with ⟨_, hn⟩ | ⟨k, hk, h1, h2, _⟩
 · exfalso
   have hm : midOf s.cols bs (topsM bs ((sortT l).take j)) ((sortT l).getD j Tc.stowed.dflt) ∈ midsL s.cols bs (sortT l) := List.mem_map.2 ⟨j, List.mem_range.2 hj, rfl⟩
   have h2 := hn _ hm
   unfold midIs midOf at h2
   rw [List.getD_eq_getElem?_getD, List.getElem?_eq_getElem hj, Option.getD_some, hej, (found_id hf).1] at h2
   simp at h2
 · rw [hlen] at hk
   have hgk := hget k hk
   have hmk : (midsL s.cols bs (sortT l))[k]'(by omega) = midOf s.cols bs (topsM bs ((sortT l).take k)) ((sortT l)[k]) := by
    rw [← hgk, List.getD_eq_getElem?_getD, List.getElem?_eq_getElem (by omega)]
    rfl
   rw [hmk, mid_place hs hk] at h2
   have hxl : (sortT l)[k] ∈ l := (sortT_perm l).mem_iff.1 (List.getElem_mem hk)
   have hid : ((sortT l)[k]).box = e.box := by
    unfold midIs at h2
    simp only [decide_eq_true_eq] at h2
    rw [(found_id (stow_found hs _ hxl)).1] at h2
    exact h2
   have hx := stow_id hs hxl he hid
   unfold middleF
   rw [h, h1, cond_true, decide_eq_false (by omega), cond_false]
   unfold midAt
   rw [show ((k : Int)).toNat = k by omega, hgk, mid_place hs hk, hx]
theorem under_bottom {s : Shp} {bs : List Box} {l : List Stowed} (h : stowB s bs l = true) (c a : Int) {t : Int} (ht : t ≤ 0) : underF bs l c a t = 0 := by
 unfold underF
 have : l.filter (fun x => decide (x.tier < t)) = [] := by
  rw [List.filter_eq_nil_iff]
  intro x hx
  have := (stow_held h hx).2.1
  rw [decide_eq_true_eq]
  omega
 rw [this]
 rfl
theorem under_step {s : Shp} {bs : List Box} {l : List Stowed} (h : stowB s bs l = true) {q : Stowed} (hq : q ∈ l) {a : Int} (ha : q.half = a ∨ q.half = 0) : underF bs l q.col a (q.tier + 1) = underF bs l q.col a q.tier + tallB (findV bs q.box).1 := by
 have hnd := stow_nodup h
 have hf := stow_found h q hq
 unfold underF
 have key : ∀ (m : List Stowed), (∀ x ∈ m, x ∈ l) → m.Nodup → heightF bs (m.filter fun x => decide (x.tier < q.tier + 1)) q.col a = heightF bs (m.filter fun x => decide (x.tier < q.tier)) q.col a + (if q ∈ m then tallB (findV bs q.box).1 else 0) := by
  intro m
  induction m with
  | nil => intro _ _; rfl
  | cons x m ih =>
   intro hm hn
   have hx := hm x (.head _)
   rw [List.nodup_cons] at hn
   have ih := ih (fun y hy => hm y (.tail _ hy)) hn.2
   rw [List.filter_cons, List.filter_cons]
   by_cases hxq : x = q
   · subst hxq
     have e1 : decide (x.tier < x.tier + 1) = true := by rw [decide_eq_true_eq]; omega
     have e2 : decide (x.tier < x.tier) = false := by simp
     rw [e1, e2, if_pos (show true = true from rfl), if_neg (show ¬ (false = true) by simp)]
     rw [if_neg hn.1] at ih
     rw [if_pos (List.mem_cons_self ..)]
     have : heightF bs (x :: List.filter (fun y => decide (y.tier < x.tier + 1)) m) x.col a = hAt bs x.col a x + heightF bs (List.filter (fun y => decide (y.tier < x.tier + 1)) m) x.col a := by
      unfold heightF
      rw [List.map_cons, List.sum_cons]
     rw [this, ih]
     unfold hAt
     rw [if_pos ⟨rfl, ha⟩, hf]
     simp only [if_true]
     omega
   · have hmem : (q ∈ x :: m) ↔ q ∈ m := by
      rw [List.mem_cons]
      exact ⟨fun e => e.resolve_left (fun e => hxq e.symm), .inr⟩
     have hgo : (if q ∈ x :: m then tallB (findV bs q.box).1 else 0) = if q ∈ m then tallB (findV bs q.box).1 else 0 := by
      by_cases hqm : q ∈ m
      · rw [if_pos hqm, if_pos (hmem.2 hqm)]
      · rw [if_neg hqm, if_neg (fun e => hqm (hmem.1 e))]
     rw [hgo]
     have hcons : ∀ r : List Stowed, heightF bs (x :: r) q.col a = hAt bs q.col a x + heightF bs r q.col a := fun r => by
      unfold heightF
      rw [List.map_cons, List.sum_cons]
     by_cases h1 : x.tier < q.tier
     · have e1 : decide (x.tier < q.tier + 1) = true := by rw [decide_eq_true_eq]; omega
       have e2 : decide (x.tier < q.tier) = true := by rw [decide_eq_true_eq]; exact h1
       rw [e1, e2, if_pos (show true = true from rfl), if_pos (show true = true from rfl), hcons, hcons, ih]
       omega
     · have e2 : decide (x.tier < q.tier) = false := by rw [decide_eq_false_iff_not]; exact h1
       rw [e2, if_neg (show ¬ (false = true) by simp)]
       by_cases h2 : x.tier = q.tier
       · have e1 : decide (x.tier < q.tier + 1) = true := by rw [decide_eq_true_eq]; omega
         rw [e1, if_pos (show true = true from rfl), hcons, ih]
         have : hAt bs q.col a x = 0 := by
          unfold hAt
          rw [if_neg]
          rintro ⟨hc, hh⟩
          refine hxq (stow_alone h hx hq ?_)
          unfold meetB sharesB slotOf
          simp only [hc, h2, decide_true, Bool.true_and]
          rcases ha with ha | ha
          · rcases hh with hh | hh
            · simp [hh, ha]
            · simp [hh]
          · simp [ha]
         omega
       · have e1 : decide (x.tier < q.tier + 1) = false := by rw [decide_eq_false_iff_not]; omega
         rw [e1, if_neg (show ¬ (false = true) by simp), ih]
 have := key l (fun _ h => h) hnd
 rw [if_pos hq] at this
 exact this
theorem under_even {s : Shp} {bs : List Box} {l : List Stowed} (h : stowB s bs l = true) (hb : ∀ x ∈ l, x.half ≠ 0 → tallB (findV bs x.box).1 = 2591) {p : Stowed} (hp : p ∈ l) (h0 : p.half = 0) : underF bs l p.col 1 p.tier = underF bs l p.col 2 p.tier := by
 obtain ⟨j, hj, rfl⟩ := List.getElem_of_mem ((sortT_perm l).mem_iff.2 hp)
 rw [← prefix_under h hj (.inl h0), ← prefix_under h hj (.inl h0)]
 exact whole_even h hb hj h0
theorem stands_upon {s : Shp} {bs : List Box} {l : List Stowed} (h : stowB s bs l = true) (hb : ∀ x ∈ l, x.half ≠ 0 → tallB (findV bs x.box).1 = 2591) {p q : Stowed} (hp : p ∈ l) (hq : q ∈ l) (hc : q.col = p.col) (ht : q.tier = p.tier - 1) (hh : q.half = p.half ∨ p.half = 0) : underF bs l p.col (halfA p.half) p.tier = underF bs l q.col (halfA q.half) q.tier + tallB (findV bs q.box).1 := by
 have htp : p.tier = q.tier + 1 := by omega
 have h3 := (stow_three h q hq).2
 have hcov : q.half = halfA q.half ∨ q.half = 0 := by
  rcases h3 with e | e | e
  · exact .inr e
  · exact .inl (by rw [e]; rfl)
  · exact .inl (by rw [e]; rfl)
 have hs := under_step h hq hcov
 rw [hc] at hs ⊢
 rw [← hs, ← htp]
 rcases hh with hh | hh
 · rw [hh]
 · have he := under_even h hb hp hh
   rw [show halfA p.half = 1 by rw [hh]; rfl]
   rcases halfA_two q.half with e | e <;> rw [e]
   exact he
theorem stow_of {s : Shp} {bs : List Box} {l : List Stowed} (hs : shipB s = true) (h1 : l.Pairwise fun x y => x.box < y.box) (h2 : ∀ x ∈ l, (findV bs x.box).2 = true ∧ slotOk s.cols (slotOf x) (findV bs x.box).1.size = true ∧ heldB (slotOf x) (l.map slotOf) = true) (h3 : l.Pairwise fun x y => meetB (slotOf y) (slotOf x) = false) (h4 : ∀ c, c < s.cols.length → fitsB s.cols bs l (c : Int) = true) : stowB s bs l = true := by
 unfold stowB
 simp only [Bool.and_eq_true, decide_eq_true_eq]
 refine ⟨hs, fun k hk => ?_, h4⟩
 have g : ∀ j (hj : j < l.length), l.getD j Tc.stowed.dflt = l[j] := fun j hj => by rw [List.getD_eq_getElem?_getD, List.getElem?_eq_getElem hj]; rfl
 obtain ⟨q1, q2, q3⟩ := h2 _ (List.getElem_mem hk)
 unfold stowAt
 simp only [Bool.and_eq_true, Bool.or_eq_true, decide_eq_true_eq]
 rw [g k hk]
 refine ⟨⟨q1, ?_⟩, ⟨q2, q3⟩, fun j hj => ?_⟩
 · by_cases h0 : k = 0
   · exact .inl h0
   · right
     rw [g (k - 1) (by omega)]
     exact (List.pairwise_iff_getElem.1 h1) (k - 1) k (by omega) hk (by omega)
 · have hjl : j < l.length := by omega
   have hm : (l.map slotOf).getD j Tc.slot.dflt = slotOf l[j] := by
    rw [getD_map slotOf l Tc.stowed.dflt _ hjl, g j hjl]
   rw [hm]
   exact (List.pairwise_iff_getElem.1 h3) j k hjl hk hj
theorem stow_all {s : Shp} {bs : List Box} {l : List Stowed} (h : stowB s bs l = true) : shipB s = true ∧ (l.Pairwise fun x y => x.box < y.box) ∧ (∀ x ∈ l, (findV bs x.box).2 = true ∧ slotOk s.cols (slotOf x) (findV bs x.box).1.size = true ∧ heldB (slotOf x) (l.map slotOf) = true) ∧ (l.Pairwise fun x y => meetB (slotOf y) (slotOf x) = false) ∧ ∀ c, c < s.cols.length → fitsB s.cols bs l (c : Int) = true := by
 have h0 := h
 unfold stowB at h0
 simp only [Bool.and_eq_true, decide_eq_true_eq] at h0
 refine ⟨h0.1, ?_, fun x hx => ?_, ?_, h0.2.2⟩
 · rw [List.pairwise_iff_getElem]
   intro i k hi hk hik
   have := stow_lt h i k hik hk
   rwa [List.getD_eq_getElem?_getD, List.getElem?_eq_getElem hi, List.getD_eq_getElem?_getD, List.getElem?_eq_getElem hk] at this
 · obtain ⟨i, hi, rfl⟩ := List.getElem_of_mem hx
   have := h0.2.1 i hi
   unfold stowAt at this
   simp only [Bool.and_eq_true, Bool.or_eq_true, decide_eq_true_eq] at this
   rw [show l.getD i Tc.stowed.dflt = l[i] by rw [List.getD_eq_getElem?_getD, List.getElem?_eq_getElem hi]; rfl] at this
   exact ⟨this.1.1, this.2.1.1, this.2.1.2⟩
 · rw [List.pairwise_iff_getElem]
   intro i k hi hk hik
   exact stow_apart h hik hk
def restF (l : List Stowed) (p : Stowed) : List Stowed := l.filter fun q => (!decide (q.col = p.col)) || decide (q.tier ≤ p.tier)
theorem rest_stow {s : Shp} {bs : List Box} {l : List Stowed} (h : stowB s bs l = true) (h0 : ∀ c ∈ s.cols, c.height = 0) (p : Stowed) : stowB s bs (restF l p) = true := by
 obtain ⟨a1, a2, a3, a4, a5⟩ := stow_all h
 refine stow_of a1 (a2.sublist List.filter_sublist) (fun x hx => ?_) (a4.sublist List.filter_sublist) fun c hc => ?_
 · obtain ⟨hx1, hx2⟩ := List.mem_filter.1 hx
   obtain ⟨b1, b2, b3⟩ := a3 x hx1
   refine ⟨b1, b2, ?_⟩
   have hb : ∀ a, belowB (slotOf x) (l.map slotOf) a = true → belowB (slotOf x) ((restF l p).map slotOf) a = true := fun a ha => by
    unfold belowB at ha ⊢
    rw [List.any_eq_true] at ha ⊢
    obtain ⟨y, hy, e⟩ := ha
    obtain ⟨z, hz, rfl⟩ := List.mem_map.1 hy
    refine ⟨_, List.mem_map.2 ⟨z, List.mem_filter.2 ⟨hz, ?_⟩, rfl⟩, e⟩
    simp only [decide_eq_true_eq] at e
    unfold slotOf at e
    simp only [Slot.mk.injEq] at e
    simp only [Bool.or_eq_true, Bool.not_eq_true', decide_eq_false_iff_not, decide_eq_true_eq] at hx2 ⊢
    omega
   unfold heldB at b3 ⊢
   split at b3
   · rename_i h1; rw [if_pos h1]
   · rename_i h1
     rw [if_neg h1]
     simp only [Bool.or_eq_true, Bool.and_eq_true, decide_eq_true_eq] at b3 ⊢
     rcases b3 with b3 | ⟨b3, b4, b5⟩
     · exact .inl (hb _ b3)
     · exact .inr ⟨b3, hb _ b4, hb _ b5⟩
 · unfold fitsB
   rw [h0 _ (getD_mem Tc.col.dflt (by simpa using hc))]
   simp
theorem rest_under {bs : List Box} {l : List Stowed} (p : Stowed) (a : Int) : underF bs (restF l p) p.col a p.tier = underF bs l p.col a p.tier := by
 unfold underF restF
 rw [List.filter_filter]
 congr 1
 refine List.filter_congr fun x _ => ?_
 by_cases h : x.tier < p.tier
 · have : x.tier ≤ p.tier := by omega
   simp [h, this]
 · simp [h]
theorem rest_place {s : Shp} {bs : List Box} {l : List Stowed} (p : Stowed) : placeF s bs (restF l p) p = placeF s bs l p := by
 unfold placeF
 rw [rest_under]
theorem rest_mem {l : List Stowed} {p : Stowed} (h : p ∈ l) : p ∈ restF l p := List.mem_filter.2 ⟨h, by simp⟩
theorem rest_cargo {s : Shp} {bs : List Box} {l : List Stowed} (h : cargoB s bs l = true) (h0 : ∀ c ∈ s.cols, c.height = 0) (p : Stowed) : cargoB s bs (restF l p) = true := by
 have hs := cargo_stow h
 unfold cargoB at h ⊢
 simp only [Bool.and_eq_true] at h ⊢
 exact ⟨h.1, rest_stow hs h0 p⟩
def AV.toPBs : AV → Option (Unit → List Box)
 | .pto [.sl false .box l] 0 => some l
 | _ => none
theorem AV.toPBs_ {x : AV} {n : Unit → List Box} (h : x.toPBs = some n) : x = .pto [.sl false .box n] 0 := by
 unfold AV.toPBs at h
 split at h <;> first | (cases h; rfl) | cases h
def conHeightOf : Con := ⟨16, [.int .i64, .pto [.sl .box]], fun
 | [x0, x1] => (x0.toI).bind fun id => (x1.toPBs).bind fun bs => some ⟨fun _ => (bs ()).length ≤ 1000000000000, .int .i64 fun _ => tallB (findV (bs ()) (id ())).1⟩
 | _ => none⟩
set_option maxRecDepth 100000 in
set_option maxHeartbeats 4000000 in
theorem conHeightOf_ok : ConOk Tryz.prog conHeightOf := by
 refine fnOk [conStowFind] ⟨conStowFind_ok, trivial⟩ Tryz.func16 (by kernel_rfl) fun avs res h hp => ?_
 simp only [conHeightOf] at h
 split at h
 case h_2 => cases h
 rename_i x0 x1
 simp only [Option.bind_eq_some_iff, Option.some.injEq] at h
 obtain ⟨id, e0, bs, e1, rfl⟩ := h
 obtain rfl := AV.toI_ e0
 obtain rfl := AV.toPBs_ e1
 clear e0 e1
 obtain ⟨id, rfl⟩ := eta (α := Int) id
 obtain ⟨bs, rfl⟩ := eta (α := List Box) bs
 have hl : bs.length ≤ 1000000000000 := hp
 refine ⟨[], ?_⟩
 conv => arg 1; cbv
 simp (maxSteps := 4000000) only [P_vc, P_br, P_and, P_fin, V_nil, V_one, V_cons, T_self, castK, succK, Int.toNat_natCast, predK, decide_eq_true_eq, decide_eq_false_iff_not, List.map_cons, List.map_nil, cond_true, cond_false, true_and, and_true, eq_self]
 refine ⟨hl, fun g => ?_, fun g => ?_⟩ <;> unfold tallB <;> rw [g] <;> rfl
theorem rest_step {l : List Stowed} {p : Stowed} {k : Nat} (h : k < l.length) : restF (l.take (k + 1)) p = restF (l.take k) p ++ (if ((l.getD k Tc.stowed.dflt).col ≠ p.col ∨ (l.getD k Tc.stowed.dflt).tier ≤ p.tier) then [l.getD k Tc.stowed.dflt] else []) := by
 unfold restF
 rw [take_getD Tc.stowed.dflt h, List.filter_append]
 congr 1
 by_cases hc : (l.getD k Tc.stowed.dflt).col ≠ p.col ∨ (l.getD k Tc.stowed.dflt).tier ≤ p.tier
 · rw [if_pos hc, List.filter_cons, if_pos]
   · rfl
   · simpa using hc
 · rw [if_neg hc, List.filter_cons, if_neg]
   · rfl
   · simpa using hc
def lpStd1 (n : Nat) : Lp where
 X := Nat
 ov k := [(44, .int .i64 fun _ => (k : Int))]
 oe k := []
 I k := k ≤ n
 μ k _ := n - k
 x0 := 0
 nx := some fun k => k + 1
theorem height_few (bs : List Box) (c a : Int) : ∀ (l : List Stowed), 0 ≤ heightF bs l c a ∧ heightF bs l c a ≤ 2896 * (l.length : Int)
 | [] => by simp [heightF]
 | x :: l => by
  have ih := height_few bs c a l
  have hx : 0 ≤ hAt bs c a x ∧ hAt bs c a x ≤ 2896 := by
   unfold hAt
   split
   · split
     · exact tallB_bound _
     · omega
   · omega
  unfold heightF at ih ⊢
  rw [List.map_cons, List.sum_cons, List.length_cons]
  omega
theorem under_few (bs : List Box) (l : List Stowed) (c a t : Int) : 0 ≤ underF bs l c a t ∧ underF bs l c a t ≤ 2896 * (l.length : Int) := by
 have h := height_few bs c a (l.filter fun x => decide (x.tier < t))
 have h2 := List.length_filter_le (fun x : Stowed => decide (x.tier < t)) l
 unfold underF
 omega
def lpStd2 (n : Nat) : Lp where
 X := Nat
 ov k := [(87, .int .i64 fun _ => (k : Int))]
 oe k := []
 I k := k ≤ n
 μ k _ := n - k
 x0 := 0
 nx := some fun k => k + 1
def lpStd3 (st : List Stowed) (p : Stowed) (n : Nat) : Lp where
 X := Nat
 ov k := [(157, .int .i64 fun _ => (k : Int)), (24, .own 3)]
 oe k := [(3, .row true .stowed 42 fun _ => restF (st.take k) p)]
 I k := k ≤ n
 μ k _ := n - k
 x0 := 0
 nx := some fun k => k + 1
def conMomentStands : Con := ⟨6, [.sl .plc, .int .u32, .sl .drp], fun
 | [x0, x1, x2] => (x0.toPlcs).bind fun l => (x1.toU32).bind fun n => (x2.toDrps).bind fun d => some ⟨fun _ => ((∀ p ∈ l (), plcOk p) ∧ (l ()).length ≤ 140737488351232) ∧ (0 ≤ n () ∧ n () ≤ 4294967295) ∧ (∀ x ∈ d (), drpOk x) ∧ (d ()).length ≤ 140737488351232, .bool fun _ => true⟩
 | _ => none⟩
set_option maxRecDepth 100000 in
set_option maxHeartbeats 4000000 in
theorem conMomentStands_ok : ConOk Tryz.prog conMomentStands := by
 refine fnOkO { kp := [(0, [0, 1, 2]), (1, [0, 1, 2]), (2, []), (3, [0, 1, 2]), (4, [7, 8, 9]), (5, [7, 8, 9, 10]), (6, [7, 8, 9, 10, 42, 43, 44]), (7, [7, 8, 9, 10, 42, 43, 44]), (8, [7, 8, 9, 10, 12, 42, 43, 44]), (9, [7, 8, 9, 10, 12, 15, 16, 42, 43, 44]), (10, []), (11, [7, 8, 9, 10, 12, 15, 42, 43, 44]), (12, [7, 8, 9, 10, 12, 15, 42, 43, 44, 85, 86, 87]), (13, [7, 8, 9, 10, 12, 15, 42, 43, 44, 85, 86, 87]), (14, [7, 8, 9, 10, 12, 15, 18, 42, 43, 44, 85, 86, 87]), (15, [7, 8, 9, 10, 12, 15, 18, 19, 42, 43, 44, 85, 86, 87]), (16, [7, 8, 9, 10, 12, 15, 18, 19, 22, 23, 42, 43, 44, 85, 86, 87]), (17, []), (18, [7, 8, 9, 10, 12, 15, 42, 43, 44, 85, 86, 87]), (19, [7, 8, 9, 10, 12, 15, 42, 43, 44]), (20, [7, 8, 9, 10, 12, 15, 24, 42, 43, 44]), (21, [7, 8, 9, 10, 12, 15, 24, 42, 43, 44, 155, 156, 157]), (22, [7, 8, 9, 10, 12, 15, 24, 42, 43, 44, 155, 156, 157]), (23, [7, 8, 9, 10, 12, 15, 24, 26, 42, 43, 44, 155, 156, 157]), (24, [7, 8, 9, 10, 12, 15, 24, 26, 42, 43, 44, 155, 156, 157]), (25, [7, 8, 9, 10, 12, 15, 24, 42, 43, 44, 155, 156, 157]), (26, [7, 8, 9, 10, 12, 15, 24, 42, 43, 44]), (27, [7, 8, 9, 10, 15, 29, 30, 42, 43, 44]), (28, []), (29, [7, 8, 9, 10, 42, 43, 44]), (30, [])], lt := [(9, ⟨[0, 1, 2, 3, 4, 5, 6, 7, 8, 9, 10, 11, 12, 13, 14, 15, 16, 17, 18, 19, 20, 21, 22, 23, 24, 25], [0, 1, 2, 3, 4, 5, 6, 7, 8, 9, 10, 11, 12, 13, 14, 15, 16, 17, 18, 19, 20, 21, 22, 23, 24, 25], [], []⟩), (16, ⟨[0, 1, 2, 3, 4, 5, 6, 7, 8, 9, 10, 11, 12, 13, 14, 15, 16, 17, 18, 19], [0, 1, 2, 3, 4, 5, 6, 7, 8, 9, 10, 11, 12, 13, 14, 15, 16, 17, 18, 19], [], []⟩)] } [conAwake, conMade, conMiddle, conHeightOf] ⟨conAwake_ok, conMade_ok, conMiddle_ok, conHeightOf_ok, trivial⟩ [] trivial Tryz.func6 (by kernel_rfl) fun avs res h hp => ?_
 simp only [conMomentStands] at h
 split at h
 case h_2 => cases h
 rename_i x0 x1 x2
 simp only [Option.bind_eq_some_iff, Option.some.injEq] at h
 obtain ⟨l, e0, n, e1, d, e2, rfl⟩ := h
 obtain rfl := AV.toPlcs_ e0
 obtain rfl := AV.toU32_ e1
 obtain rfl := AV.toDrps_ e2
 clear e0 e1 e2
 obtain ⟨l, rfl⟩ := eta (α := List Plc) l
 obtain ⟨n, rfl⟩ := eta (α := Int) n
 obtain ⟨d, rfl⟩ := eta (α := List Drp) d
 have hm : ((∀ p ∈ l, plcOk p) ∧ l.length ≤ 140737488351232) ∧ (0 ≤ n ∧ n ≤ 4294967295) ∧ (∀ x ∈ d, drpOk x) ∧ d.length ≤ 140737488351232 := hp
 refine nameIt (madeS l n) fun S hS => ?_
 refine nameIt (madeT l n d) fun st hst => ?_
 refine nameIt st.length fun q hq => ?_
 refine ⟨[(6, lpStd1 q)], ?_⟩
 conv => arg 1; cbv
 simp (maxSteps := 4000000) only [P_vc, P_br, P_and, P_fin, V_nil, V_one, V_cons, T_self, castK, succK, Int.toNat_natCast, predK, decide_eq_true_eq, decide_eq_false_iff_not, List.map_cons, List.map_nil, cond_true, cond_false, true_and, and_true, eq_self]
 obtain ⟨⟨p1, p2⟩, p3, p4, p5⟩ := hm
 simp only [hS, hst]
 and_intros
 any_goals (first | assumption | trivial | omega | (simp only [List.length_nil]; omega) | rfl)
 intro k hk
 have hk1 : k ≤ q := hk
 have hstl := madeT_len l n d
 rw [hst] at hstl
 conv => arg 1; cbv
 simp (maxSteps := 4000000) only [P_vc, P_br, P_and, P_fin, V_nil, V_one, V_cons, T_self, castK, succK, Int.toNat_natCast, predK, decide_eq_true_eq, decide_eq_false_iff_not, List.map_cons, List.map_nil, cond_true, cond_false, true_and, and_true, eq_self]
 have hsm : Small S (madeB d) st := by rw [← hS, ← hst]; exact made_small p1 p4
 have hpS : shipPre S := by rw [← hS]; exact built_pre p1
 have hbp := madeB_pre d
 have hhb : ∀ x ∈ st, x.half ≠ 0 → tallB (findV (madeB d) x.box).1 = 2591 := by rw [← hst]; exact made_halves p1
 have hcol : ∀ c ∈ S.cols, madeCol c := by rw [← hS]; exact fun c hc => colsF_made p1 c hc
 have hh0 : ∀ c ∈ S.cols, c.height = 0 := fun c hc => (hcol c hc).2.2.2.1.1
 generalize madeB d = bs at *
 have hcg := hsm.cargo
 have hsw := hsm.stow
 have E0 : (⟨S.cols, S.covs, S.lk, S.lx, S.ly, S.lz, S.rows, S.frms, S.tnks, S.m1, S.m2, S.m3, S.m4⟩ : Shp) = S := rfl
 refine ⟨fun g => ?_, fun g => trivial⟩
 have hlt : k < st.length := by omega
 have hpm := getD_mem Tc.stowed.dflt hlt
 simp only [E0]
 generalize st.getD k Tc.stowed.dflt = p at hpm ⊢
 simp only [middle_there hcg hpm]
 have hpc := stow_col hsw hpm
 have hc := hcol _ (getD_mem Tc.col.dflt (show p.col.toNat < S.cols.length by omega))
 have htl := tallB_bound (findV bs p.box).1
 have hbl := hbp.1
 have hz0 : p.tier = 0 → (placeF S bs st p).2.2 = 2 * (S.cols.getD p.col.toNat Tc.col.dflt).z + tallB (findV bs p.box).1 := fun ht => by
  show 2 * ((S.cols.getD p.col.toNat Tc.col.dflt).z + underF bs st p.col (halfA p.half) p.tier) + _ = _
  rw [under_bottom hsw _ _ (by omega)]
  omega
 obtain ⟨_, _, _, _, _, _, cz⟩ := hc
 refine ⟨⟨by omega, by omega⟩, ⟨hpS, hbp, by omega⟩, by simp, fun _ => ⟨fun ht => ⟨⟨by omega, by omega⟩, by simp only [inI64]; omega, hbl, by simp only [inI64]; omega, fun hz => absurd (hz0 ht) (by simpa using hz), fun _ => ?_⟩, fun _ => ?_⟩⟩
 all_goals
  refine ⟨lpStd2 q, ?_⟩
  conv => arg 1; cbv
  simp (maxSteps := 4000000) only [P_vc, P_br, P_and, P_fin, V_nil, V_one, V_cons, T_self, castK, succK, Int.toNat_natCast, predK, decide_eq_true_eq, decide_eq_false_iff_not, List.map_cons, List.map_nil, cond_true, cond_false, true_and, and_true, eq_self]
  refine ⟨by omega, fun k2 hk2 => ?_⟩
  have hk3 : k2 ≤ q := hk2
  conv => arg 1; cbv
  simp (maxSteps := 4000000) only [P_vc, P_br, P_and, P_fin, V_nil, V_one, V_cons, T_self, castK, succK, Int.toNat_natCast, predK, decide_eq_true_eq, decide_eq_false_iff_not, List.map_cons, List.map_nil, cond_true, cond_false, true_and, and_true, eq_self]
  refine ⟨fun g2 => ?_, fun g2 => ?_⟩
  · have hlt2 : k2 < st.length := by omega
    have hqm := getD_mem Tc.stowed.dflt hlt2
    simp only [E0]
    generalize st.getD k2 Tc.stowed.dflt = r at hqm ⊢
    simp only [middle_there hcg hqm]
    have hrc := stow_col hsw hqm
    obtain ⟨_, _, _, _, _, _, dz⟩ := hcol _ (getD_mem Tc.col.dflt (show r.col.toNat < S.cols.length by omega))
    have htr := tallB_bound (findV bs r.box).1
    have u1 := under_few bs st p.col (halfA p.half) p.tier
    have u2 := under_few bs st r.col (halfA r.half) r.tier
    have z1 : (placeF S bs st p).2.2 = 2 * ((S.cols.getD p.col.toNat Tc.col.dflt).z + underF bs st p.col (halfA p.half) p.tier) + tallB (findV bs p.box).1 := rfl
    have z2 : (placeF S bs st r).2.2 = 2 * ((S.cols.getD r.col.toNat Tc.col.dflt).z + underF bs st r.col (halfA r.half) r.tier) + tallB (findV bs r.box).1 := rfl
    have hup : ¬ (r.col = p.col ∧ r.tier = p.tier - 1 ∧ (r.half = p.half ∨ p.half = 0)) ∨ (placeF S bs st p).2.2 - (placeF S bs st r).2.2 = tallB (findV bs p.box).1 + tallB (findV bs r.box).1 := by
     by_cases hc : r.col = p.col ∧ r.tier = p.tier - 1 ∧ (r.half = p.half ∨ p.half = 0)
     · right
       have h1 := stands_upon hsw hhb hpm hqm hc.1 hc.2.1 hc.2.2
       rw [z1, z2, h1, hc.1]
       omega
     · exact .inl hc
    have htp := (stow_held hsw hpm).2.1
    have htt : p.tier ≤ 1000 := by
     have h1 := ((stow_all hsw).2.2.1 p hpm).2.1
     have h2 := (hcol _ (getD_mem Tc.col.dflt (show p.col.toNat < S.cols.length by omega))).2.2.1
     unfold slotOk at h1
     simp only [Bool.and_eq_true, decide_eq_true_eq] at h1
     have h3 : p.tier < (S.cols.getD p.col.toNat Tc.col.dflt).tiers := h1.2.2.2.1
     omega
    generalize tallB (findV bs p.box).1 = tp at *
    generalize tallB (findV bs r.box).1 = tr at *
    generalize (placeF S bs st p).2.2 = zp at *
    generalize (placeF S bs st r).2.2 = zr at *
    have hr2 : st.length ≤ 20 := by omega
    have hl1 : (st.length : Int) ≤ 16 := by omega
    simp only [hpS, hbp, hbl, hr2, and_self, true_and, and_true, decide_true, Bool.not_true, Bool.false_eq_true, Bool.true_eq_false, false_implies, true_implies, forall_const, implies_true, inI64, eq_self]
    simp only [Bool.not_eq_true', decide_eq_false_iff_not]
    omega
  · refine ⟨lpStd3 st p q, ?_⟩
    conv => arg 1; cbv
    simp (maxSteps := 4000000) only [P_vc, P_br, P_and, P_fin, V_nil, V_one, V_cons, T_self, castK, succK, Int.toNat_natCast, predK, decide_eq_true_eq, decide_eq_false_iff_not, List.map_cons, List.map_nil, cond_true, cond_false, true_and, and_true, eq_self]
    refine ⟨⟨Nat.zero_le _, rfl, rfl⟩, fun k3 hk3 => ?_⟩
    have hk4 : k3 ≤ q := hk3
    conv => arg 1; cbv
    simp (maxSteps := 4000000) only [P_vc, P_br, P_and, P_fin, V_nil, V_one, V_cons, T_self, castK, succK, Int.toNat_natCast, predK, decide_eq_true_eq, decide_eq_false_iff_not, List.map_cons, List.map_nil, cond_true, cond_false, true_and, and_true, eq_self]
    have hrl : (restF (st.take k3) p).length ≤ 16 := by
     have h1 := List.length_filter_le (fun x : Stowed => (!decide (x.col = p.col)) || decide (x.tier ≤ p.tier)) (st.take k3)
     have h2 : (st.take k3).length ≤ st.length := by rw [List.length_take]; omega
     unfold restF
     omega
    refine ⟨fun g3 => ?_, fun g3 => ?_⟩
    · have hlt3 : k3 < st.length := by omega
      have hst3 := rest_step (p := p) hlt3
      have hin : ((st.getD k3 Tc.stowed.dflt).col ≠ p.col ∨ (st.getD k3 Tc.stowed.dflt).tier ≤ p.tier) → restF (st.take k3) p ++ [st.getD k3 Tc.stowed.dflt] = restF (st.take (k3 + 1)) p := fun h => by rw [hst3, if_pos h]
      have hout : ¬ ((st.getD k3 Tc.stowed.dflt).col ≠ p.col ∨ (st.getD k3 Tc.stowed.dflt).tier ≤ p.tier) → restF (st.take k3) p = restF (st.take (k3 + 1)) p := fun h => by rw [hst3, if_neg h, List.append_nil]
      clear hst3
      simp only [List.length_cons, List.length_nil]
      refine ⟨⟨by omega, by omega⟩, fun hc => ⟨by omega, by simp only [inI64]; omega, by omega, by omega, hin (.inl (by simpa using hc))⟩, fun hc => ⟨fun ht => ⟨by omega, by simp only [inI64]; omega, by omega, by omega, hin (.inr ht)⟩, fun ht => ⟨by simp only [inI64]; omega, by omega, by omega, hout (by simp only [Bool.not_eq_false', decide_eq_true_eq] at hc; omega)⟩⟩⟩
    · have hk5 : k3 = st.length := by omega
      rw [hk5, List.take_length] at hrl ⊢
      have hmr := middle_there (rest_cargo hcg hh0 p) (rest_mem hpm)
      rw [rest_place] at hmr
      simp only [E0, hmr]
      have hr2 : (restF st p).length ≤ 20 := by omega
      simp only [hpS, hbp, hr2, and_self, true_and, and_true, decide_true, Bool.not_true, Bool.false_eq_true, Bool.true_eq_false, false_implies, true_implies, forall_const, implies_true, inI64, eq_self]
      omega
end Go.Proofs.YtfdjcakgolenbaaGreat
