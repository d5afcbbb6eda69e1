/-
  Plain laws: under a whole box both halves are as high; ships that are mirrored and turned round.
-/
import Derived.Test.YtfdjcakgolenbaaGreatMu44
set_option linter.unusedVariables false
set_option linter.unusedSimpArgs false
namespace Go.Proofs.YtfdjcakgolenbaaGreat
open Go.RowKit
theorem stow_nodup {s : Shp} {bs : List Box} {l : List Stowed} (h : stowB s bs l = true) : l.Nodup := by
 have hlt : ∀ i k, i < k → k < l.length → (l.getD i Tc.stowed.dflt).box < (l.getD k Tc.stowed.dflt).box := by
  intro i k hik hk
  induction k with
  | zero => omega
  | succ k ih =>
   have h1 := stow_row h hk
   unfold stowAt at h1
   simp only [Bool.and_eq_true, Bool.or_eq_true, decide_eq_true_eq] at h1
   have h2 : (l.getD k Tc.stowed.dflt).box < (l.getD (k + 1) Tc.stowed.dflt).box := by
    rcases h1.1.2 with h2 | h2
    · omega
    · simpa using h2
   by_cases he : i = k
   · subst he; exact h2
   · have := ih (by omega) (by omega)
     omega
 unfold List.Nodup
 rw [List.pairwise_iff_getElem]
 intro i k hi hk hik e
 have := hlt i k hik hk
 rw [List.getD_eq_getElem?_getD, List.getElem?_eq_getElem hi, List.getD_eq_getElem?_getD, List.getElem?_eq_getElem hk] at this
 simp only [Option.getD_some] at this
 rw [e] at this
 omega
def inHalf (c a : Int) (x : Stowed) : Bool := decide (x.col = c) && decide (x.half = a)
theorem height_split {bs : List Box} {c a : Int} (ha : a = 1 ∨ a = 2) : ∀ (M : List Stowed), (∀ x ∈ M, (findV bs x.box).2 = true ∧ (x.half = 0 ∨ ((x.half = 1 ∨ x.half = 2) ∧ tallB (findV bs x.box).1 = 2591))) → heightF bs M c a = heightF bs (M.filter (inHalf c 0)) c a + 2591 * ((M.filter (inHalf c a)).length : Int)
 | [], _ => by simp [heightF]
 | x :: M, h => by
  have ih := height_split (bs := bs) (c := c) ha M fun y hy => h y (.tail _ hy)
  have hx := h x (.head _)
  unfold heightF at ih ⊢
  rw [List.map_cons, List.sum_cons, ih, List.filter_cons, List.filter_cons]
  unfold inHalf hAt
  by_cases hc : x.col = c
  · rcases hx.2 with h0 | ⟨h0, ht⟩
    · rcases ha with rfl | rfl <;> simp [hc, h0, hx.1] <;> omega
    · rcases ha with rfl | rfl <;> rcases h0 with h0 | h0 <;> simp [hc, h0, hx.1, ht] <;> omega
  · simp [hc]
theorem whole_even {s : Shp} {bs : List Box} {l : List Stowed} (h : stowB s bs l = true) (hb : ∀ x ∈ l, x.half ≠ 0 → tallB (findV bs x.box).1 = 2591) {j : Nat} (hj : j < (sortT l).length) (hw : ((sortT l)[j]).half = 0) : heightF bs ((sortT l).take j) ((sortT l)[j]).col 1 = heightF bs ((sortT l).take j) ((sortT l)[j]).col 2 := by
 have hperm := sortT_perm l
 have hlen := hperm.length_eq
 have hnd : (sortT l).Nodup := hperm.nodup_iff.2 (stow_nodup h)
 obtain ⟨X, hX⟩ : ∃ X, X = (sortT l)[j] := ⟨_, rfl⟩
 have hXl : X ∈ l := hperm.mem_iff.1 (by rw [hX]; exact List.getElem_mem hj)
 rw [← hX] at hw ⊢
 have hsrt : ∀ i k, (hik : i < k) → (hk : k < (sortT l).length) → ((sortT l)[i]'(by omega)).tier ≤ ((sortT l)[k]).tier := fun i k hik hk => by
  have := sortT_sorted l hik (by omega)
  unfold tAt at this
  rw [List.getD_eq_getElem?_getD, List.getElem?_eq_getElem (show i < (sortT l).length by omega), List.getD_eq_getElem?_getD, List.getElem?_eq_getElem hk] at this
  exact this
 have hM : ∀ x ∈ (sortT l).take j, x ∈ l := fun x hx => hperm.mem_iff.1 (List.mem_of_mem_take hx)
 -- who comes ahead in the column lies lower
 have hlow : ∀ x ∈ (sortT l).take j, x.col = X.col → x.tier < X.tier := fun x hx hc => by
  obtain ⟨i, hi, rfl⟩ := List.getElem_of_mem hx
  rw [List.length_take] at hi
  have hi2 : i < j := by omega
  rw [List.getElem_take] at hc ⊢
  have h1 := hsrt i j hi2 hj
  rw [← hX] at h1
  by_cases he : ((sortT l)[i]'(by omega)).tier = X.tier
  · exfalso
    have hxl : (sortT l)[i]'(by omega) ∈ l := hperm.mem_iff.1 (List.getElem_mem _)
    have := stow_alone h hxl hXl (by unfold meetB sharesB slotOf; simp [hc, he, hw])
    rw [hX] at this
    have h2 := (List.pairwise_iff_getElem.1 hnd) i j (by omega) hj hi2
    exact h2 this
  · omega
 have hall : ∀ y ∈ l, y.tier < X.tier → y ∈ (sortT l).take j := fun y hy ht => by
  obtain ⟨i, hi, rfl⟩ := List.getElem_of_mem (hperm.mem_iff.2 hy)
  by_cases hij : i < j
  · exact List.mem_take_iff_getElem.2 ⟨i, by omega, rfl⟩
  · exfalso
    by_cases he : i = j
    · subst he; rw [hX] at ht; omega
    · have := hsrt j i (by omega) hi
      rw [← hX] at this
      omega
 have hh := fun x (hx : x ∈ (sortT l).take j) => (show (findV bs x.box).2 = true ∧ (x.half = 0 ∨ ((x.half = 1 ∨ x.half = 2) ∧ tallB (findV bs x.box).1 = 2591)) from ⟨stow_found h x (hM x hx), by
  rcases stow_half h (hM x hx) with h1 | h1
  · exact .inl h1.1
  · exact .inr ⟨h1.1, hb x (hM x hx) (by rcases h1.1 with e | e <;> rw [e] <;> decide)⟩⟩)
 rw [height_split (.inl rfl) _ hh, height_split (.inr rfl) _ hh]
 -- the same number of both halves
 have hcount : ∀ a b : Int, (a = 1 ∧ b = 2) ∨ (a = 2 ∧ b = 1) → (((sortT l).take j).filter (inHalf X.col a)).length ≤ (((sortT l).take j).filter (inHalf X.col b)).length := fun a b hab => by
  have ha0 : a ≠ 0 := by omega
  have e1 : (((sortT l).take j).filter (inHalf X.col a)).length = ((((sortT l).take j).filter (inHalf X.col a)).map (·.tier)).length := by rw [List.length_map]
  have e2 : (((sortT l).take j).filter (inHalf X.col b)).length = ((((sortT l).take j).filter (inHalf X.col b)).map (·.tier)).length := by rw [List.length_map]
  rw [e1, e2]
  refine List.Nodup.length_le_of_subset ?_ fun t ht => ?_
  · unfold List.Nodup
    rw [List.pairwise_map]
    refine List.Pairwise.imp_of_mem ?_ ((hnd.sublist (List.take_sublist _ _)).sublist List.filter_sublist)
    intro x y hx hy hne ht
    obtain ⟨hx1, hx2⟩ := List.mem_filter.1 hx
    obtain ⟨hy1, hy2⟩ := List.mem_filter.1 hy
    unfold inHalf at hx2 hy2
    simp only [Bool.and_eq_true, decide_eq_true_eq] at hx2 hy2
    exact hne (stow_alone h (hM x hx1) (hM y hy1) (by unfold meetB sharesB slotOf; simp [hx2.1, hy2.1, hx2.2, hy2.2, ht]))
  · obtain ⟨x, hx, rfl⟩ := List.mem_map.1 ht
    obtain ⟨hx1, hx2⟩ := List.mem_filter.1 hx
    unfold inHalf at hx2
    simp only [Bool.and_eq_true, decide_eq_true_eq] at hx2
    have hlt := hlow x hx1 hx2.1
    have h0 := (stow_held h (hM x hx1)).2.1
    obtain ⟨n, hn⟩ : ∃ n : Nat, X.tier = x.tier + n + 1 := ⟨(X.tier - x.tier - 1).toNat, by omega⟩
    have hat : At l X.col (x.tier + n + 1) 0 := ⟨X, hXl, rfl, hn, hw⟩
    have hAtb : At l X.col x.tier b := by
     rcases at_whole h n x.tier hat h0 with ⟨y, hy, y1, y2, y3⟩ | ⟨q1, q2⟩
     · exfalso
       have := stow_alone h (hM x hx1) hy (by unfold meetB sharesB slotOf; simp [hx2.1, y1, y2, y3])
       rw [this] at hx2
       omega
     · rcases hab with ⟨_, rfl⟩ | ⟨_, rfl⟩
       · exact q2
       · exact q1
    obtain ⟨y, hy, y1, y2, y3⟩ := hAtb
    refine List.mem_map.2 ⟨y, List.mem_filter.2 ⟨hall y hy (by omega), ?_⟩, y2⟩
    unfold inHalf
    simp [y1, y3]
 have hlen2 := Nat.le_antisymm (hcount 1 2 (.inl ⟨rfl, rfl⟩)) (hcount 2 1 (.inr ⟨rfl, rfl⟩))
 rw [hlen2]
 congr 1
 unfold heightF
 congr 1
 refine List.map_congr_left fun x hx => ?_
 have hx2 := (List.mem_filter.1 hx).2
 unfold inHalf at hx2
 simp only [Bool.and_eq_true, decide_eq_true_eq] at hx2
 unfold hAt
 simp [hx2.1, hx2.2]
def swpI (h : Int) : Int := cond (decide (h = 1)) 2 (cond (decide (h = 2)) 1 h)
def swpX (x : Slot) : Slot := ⟨x.col, x.tier, swpI x.half⟩
def swpS (x : Stowed) : Stowed := ⟨x.box, x.col, x.tier, swpI x.half⟩
def mirC (c : Col) : Col := { c with y := -c.y }
def rotC (c : Col) : Col := { c with x := -c.x }
def mirM (m : Mid) : Mid := ⟨m.box, m.x, -m.y, m.h⟩
def rotM (m : Mid) : Mid := ⟨m.box, -m.x, m.y, m.h⟩
def mirS (s : Shp) : Shp := { s with cols := s.cols.map mirC }
def rotS (s : Shp) : Shp := { s with cols := s.cols.map rotC }
theorem swpI_inv (h : Int) : swpI (swpI h) = h := by
 unfold swpI
 by_cases h1 : h = 1
 · subst h1; rfl
 · by_cases h2 : h = 2
   · subst h2; rfl
   · simp [h1, h2]
theorem swpI_inj {a b : Int} (h : swpI a = swpI b) : a = b := by rw [← swpI_inv a, h, swpI_inv]
theorem swpI_zero {a : Int} : swpI a = 0 ↔ a = 0 := ⟨fun h => swpI_inj (h.trans rfl), fun h => by rw [h]; rfl⟩
theorem swpX_inj {a b : Slot} (h : swpX a = swpX b) : a = b := by
 obtain ⟨a1, a2, a3⟩ := a
 obtain ⟨b1, b2, b3⟩ := b
 unfold swpX at h
 injection h with h1 h2 h3
 simp only at h1 h2 h3
 rw [h1, h2, swpI_inj h3]
theorem below_swp (x : Slot) (l : List Slot) (a : Int) : belowB (swpX x) (l.map swpX) (swpI a) = belowB x l a := by
 unfold belowB
 rw [List.any_map]
 congr 1
 funext y
 simp only [Function.comp]
 have e : (⟨(swpX x).col, (swpX x).tier - 1, swpI a⟩ : Slot) = swpX ⟨x.col, x.tier - 1, a⟩ := rfl
 rw [e]
 by_cases h : (⟨x.col, x.tier - 1, a⟩ : Slot) = y
 · rw [decide_eq_true h, decide_eq_true (by rw [h])]
 · rw [decide_eq_false h, decide_eq_false (fun e => h (swpX_inj e))]
theorem held_swp (x : Slot) (l : List Slot) : heldB (swpX x) (l.map swpX) = heldB x l := by
 unfold heldB
 have e0 : (swpX x).tier = x.tier := rfl
 have e1 := below_swp x l x.half
 have e2 := below_swp x l 2
 have e3 := below_swp x l 1
 rw [show swpI 2 = 1 from rfl] at e2
 rw [show swpI 1 = 2 from rfl] at e3
 rw [e0, show (swpX x).half = swpI x.half from rfl, e1, e2, e3]
 by_cases h : x.half = 0
 · rw [decide_eq_true h, decide_eq_true (swpI_zero.2 h), Bool.and_comm (belowB x l 2)]
 · rw [decide_eq_false h, decide_eq_false (fun e => h (swpI_zero.1 e)), Bool.false_and, Bool.false_and]
theorem meet_swp (a b : Slot) : meetB (swpX a) (swpX b) = meetB a b := by
 unfold meetB sharesB
 have e1 : decide ((swpX a).half = (swpX b).half) = decide (a.half = b.half) := decide_eq_decide.2 ⟨fun e => swpI_inj e, fun h => by show swpI _ = swpI _; rw [h]⟩
 have e2 : ∀ x : Slot, decide ((swpX x).half = 0) = decide (x.half = 0) := fun x => decide_eq_decide.2 swpI_zero
 rw [e1, e2, e2]
 rfl
theorem any_swp (z h : Int) : ((halvesF z).any fun y => decide (swpI h = y)) = ((halvesF z).any fun y => decide (h = y)) := by
 unfold halvesF
 by_cases h4 : z = 40
 · rw [if_pos h4]
   simp only [List.any_cons, List.any_nil, Bool.or_false]
   by_cases h0 : h = 0
   · rw [decide_eq_true h0, decide_eq_true (swpI_zero.2 h0)]
   · rw [decide_eq_false h0, decide_eq_false (fun e => h0 (swpI_zero.1 e))]
 · rw [if_neg h4]
   by_cases h2 : z = 20
   · rw [if_pos h2]
     simp only [List.any_cons, List.any_nil, Bool.or_false]
     unfold swpI
     by_cases e1 : h = 1
     · subst e1; rfl
     · by_cases e2 : h = 2
       · subst e2; rfl
       · simp [e1, e2]
   · rw [if_neg h2]
     rfl
theorem dflt_swp : swpS Tc.stowed.dflt = Tc.stowed.dflt := rfl
theorem slot_swp (l : List Stowed) : (l.map swpS).map slotOf = (l.map slotOf).map swpX := by
 rw [List.map_map, List.map_map]
 rfl
theorem stow_rot {s : Shp} {bs : List Box} {l : List Stowed} (hs : shipB (rotS s) = true) (h0 : ∀ c ∈ s.cols, c.height = 0) (h : stowB s bs l = true) : stowB (rotS s) bs (l.map swpS) = true := by
 unfold stowB at h ⊢
 simp only [Bool.and_eq_true, decide_eq_true_eq] at h ⊢
 refine ⟨hs, fun k hk => ?_, fun c hc => ?_⟩
 · rw [List.length_map] at hk
   have h1 := h.2.1 k hk
   unfold stowAt slotOk at h1 ⊢
   rw [getD_mapf swpS _ dflt_swp, getD_mapf swpS _ dflt_swp, slot_swp, show slotOf (swpS (l.getD k Tc.stowed.dflt)) = swpX (slotOf (l.getD k Tc.stowed.dflt)) from rfl, held_swp]
   simp only [Bool.and_eq_true, decide_eq_true_eq] at h1
   have hlen : (rotS s).cols.length = s.cols.length := by unfold rotS; rw [List.length_map]
   have hcol : (rotS s).cols.getD (swpX (slotOf (l.getD k Tc.stowed.dflt))).col.toNat Tc.col.dflt = rotC (s.cols.getD (slotOf (l.getD k Tc.stowed.dflt)).col.toNat Tc.col.dflt) := getD_map rotC s.cols Tc.col.dflt _ (by have := h1.2.1.1.1; have := h1.2.1.1.2.1; show (slotOf (l.getD k Tc.stowed.dflt)).col.toNat < _; omega)
   rw [hlen, hcol]
   simp only [Bool.and_eq_true, decide_eq_true_eq]
   refine ⟨h1.1, ⟨⟨h1.2.1.1.1, h1.2.1.1.2.1, h1.2.1.1.2.2.1, ?_, ?_⟩, h1.2.1.2⟩, fun j hj => ?_⟩
   · have h2 := h1.2.1.1.2.2.2.1
     exact h2
   · have h2 := h1.2.1.1.2.2.2.2
     rw [show (swpX (slotOf (l.getD k Tc.stowed.dflt))).half = swpI (slotOf (l.getD k Tc.stowed.dflt)).half from rfl, show (swpS (l.getD k Tc.stowed.dflt)).box = (l.getD k Tc.stowed.dflt).box from rfl, any_swp]
     exact h2
   · have h2 := h1.2.2 j hj
     rw [getD_mapf swpX Tc.slot.dflt rfl, meet_swp]
     exact h2
 · unfold rotS at hc ⊢
   rw [List.length_map] at hc
   unfold fitsB
   rw [getD_map rotC s.cols Tc.col.dflt _ (by simpa using hc), show (rotC (s.cols.getD ((c : Int)).toNat Tc.col.dflt)).height = (s.cols.getD ((c : Int)).toNat Tc.col.dflt).height from rfl, h0 _ (getD_mem Tc.col.dflt (by simpa using hc))]
   rfl
theorem height_swp {bs : List Box} (M : List Stowed) (hM : ∀ x ∈ M, x.half = 0 ∨ x.half = 1 ∨ x.half = 2) (c : Int) {a : Int} (ha : a = 1 ∨ a = 2) : heightF bs (M.map swpS) c a = heightF bs M c (swpI a) := by
 unfold heightF
 rw [List.map_map]
 congr 1
 refine List.map_congr_left fun x hx => ?_
 simp only [Function.comp, hAt, swpS]
 by_cases hc : x.col = c <;> rcases hM x hx with h | h | h <;> rcases ha with ha | ha <;> subst ha <;> simp [h, swpI, hc] <;> rfl
theorem mids_rot {s : Shp} {bs : List Box} {l : List Stowed} (h : Small s bs l) (hb : ∀ x ∈ l, x.half ≠ 0 → tallB (findV bs x.box).1 = 2591) : midsL (rotS s).cols bs ((sortT l).map swpS) = (midsL s.cols bs (sortT l)).map rotM := by
 unfold midsL midsK
 rw [List.map_map, List.length_map]
 refine List.map_congr_left fun j hj => ?_
 have hj' := List.mem_range.1 hj
 have hperm := sortT_perm l
 have hst := h.stow
 have hthree := stow_three hst
 have hM : ∀ x ∈ (sortT l).take j, x ∈ l := fun x hx => hperm.mem_iff.1 (List.mem_of_mem_take hx)
 have hX : (sortT l).getD j Tc.stowed.dflt = (sortT l)[j] := by rw [List.getD_eq_getElem?_getD, List.getElem?_eq_getElem hj', Option.getD_some]
 have hXl : (sortT l)[j] ∈ l := hperm.mem_iff.1 (List.getElem_mem hj')
 have hc := h.col (getD_mem Tc.stowed.dflt hj')
 have hw := whole_even hst hb hj'
 simp only [Function.comp, rotS]
 rw [getD_mapf swpS _ dflt_swp, ← List.map_take]
 unfold midOf rotM
 rw [hX] at hc ⊢
 generalize (sortT l)[j] = X at hw hXl hc ⊢
 rw [show (swpS X).col = X.col from rfl, show (swpS X).box = X.box from rfl, show (swpS X).half = swpI X.half from rfl, getD_map rotC s.cols Tc.col.dflt _ hc.1]
 have ht : ∀ a, (a = 1 ∨ a = 2) → (topsM bs (((sortT l).take j).map swpS) (topKey X.col a)).getD 0 = heightF bs ((sortT l).take j) X.col (swpI a) := fun a ha => by
  rw [tops_sum (fun x hx => by
   obtain ⟨y, hy, rfl⟩ := List.mem_map.1 hx
   have := hthree y (hM y hy)
   refine ⟨this.1, ?_⟩
   show swpI y.half = 0 ∨ swpI y.half = 1 ∨ swpI y.half = 2
   rcases this.2 with e | e | e <;> rw [e] <;> decide) X.col ha, height_swp _ (fun x hx => (hthree x (hM x hx)).2) _ ha]
 have ht2 : ∀ a, (a = 1 ∨ a = 2) → (topsM bs ((sortT l).take j) (topKey X.col a)).getD 0 = heightF bs ((sortT l).take j) X.col a := fun a ha => tops_sum (fun x hx => hthree x (hM x hx)) X.col ha
 rcases (hthree X hXl).2 with e | e | e
 · rw [e] at hw ⊢
   have e1 := ht 1 (.inl rfl)
   have e2 := ht2 1 (.inl rfl)
   have e3 := hw rfl
   rw [show swpI 1 = 2 from rfl] at e1
   simp only [show swpI 0 = 0 from rfl, show (hsOf 0).headD 0 = 1 from rfl, e1, e2, ← e3]
   rfl
 · rw [e] at ⊢
   have e1 := ht 2 (.inr rfl)
   have e2 := ht2 1 (.inl rfl)
   rw [show swpI 2 = 1 from rfl] at e1
   simp only [show swpI 1 = 2 from rfl, show (hsOf 2).headD 0 = 2 from rfl, show (hsOf 1).headD 0 = 1 from rfl, e1, e2]
   congr 1
   show -(_ : Int) - 3050 = -(_ + 3050)
   omega
 · rw [e] at ⊢
   have e1 := ht 1 (.inl rfl)
   have e2 := ht2 2 (.inr rfl)
   rw [show swpI 1 = 2 from rfl] at e1
   simp only [show swpI 2 = 1 from rfl, show (hsOf 2).headD 0 = 2 from rfl, show (hsOf 1).headD 0 = 1 from rfl, e1, e2]
   congr 1
   show -(_ : Int) + 3050 = -(_ - 3050)
   omega
theorem mids_mir {s : Shp} {bs : List Box} {l : List Stowed} (h : Small s bs l) : midsL (mirS s).cols bs (sortT l) = (midsL s.cols bs (sortT l)).map mirM := by
 unfold midsL midsK
 rw [List.map_map]
 refine List.map_congr_left fun j hj => ?_
 have hc := h.col (getD_mem Tc.stowed.dflt (List.mem_range.1 hj))
 simp only [Function.comp, midOf, mirM, mirS]
 rw [getD_map mirC s.cols Tc.col.dflt _ hc.1]
 rfl
theorem sum_mir : ∀ (ms : List Mid), sumW ((ms.map mirM).map rawP) = ⟨(sumW (ms.map rawP)).kilos, (sumW (ms.map rawP)).x, -(sumW (ms.map rawP)).y, (sumW (ms.map rawP)).z⟩
 | [] => by simp [sumW, ld0]
 | m :: ms => by
  have ih := sum_mir ms
  rw [List.map_cons, List.map_cons, sumW_cons, ih, List.map_cons, sumW_cons]
  generalize sumW (ms.map rawP) = s
  unfold Ld.add rawP mirM
  apply Ld.ext' <;> simp only <;> grind
theorem sum_rot : ∀ (ms : List Mid), sumW ((ms.map rotM).map rawP) = ⟨(sumW (ms.map rawP)).kilos, -(sumW (ms.map rawP)).x, (sumW (ms.map rawP)).y, (sumW (ms.map rawP)).z⟩
 | [] => by simp [sumW, ld0]
 | m :: ms => by
  have ih := sum_rot ms
  rw [List.map_cons, List.map_cons, sumW_cons, ih, List.map_cons, sumW_cons]
  generalize sumW (ms.map rawP) = s
  unfold Ld.add rawP rotM
  apply Ld.ext' <;> simp only <;> grind
theorem made_flat {d : List Drp} : ∀ b ∈ madeB d, b.size = 20 → tallB b = 2591 := by
 intro b hb hs
 unfold madeB boxesK at hb
 obtain ⟨i, _, rfl⟩ := List.mem_map.1 hb
 unfold dropB tallB at *
 cases hsm : (d.getD i Tc.drp.dflt).small with
 | true => simp
 | false => rw [hsm] at hs; simp at hs
theorem made_halves {l : List Plc} {n : Int} {d : List Drp} (hw : ∀ p ∈ l, plcOk p) : ∀ x ∈ madeT l n d, x.half ≠ 0 → tallB (findV (madeB d) x.box).1 = 2591 := by
 intro x hx h0
 have hst := made_stow (n := n) (d := d) hw
 have hf := found_id (stow_found hst x hx)
 rcases stow_half hst hx with h1 | h1
 · exact absurd h1.1 h0
 · exact made_flat _ hf.2 h1.2
theorem turn_ship {l : List Plc} {n : Int} (hw : ∀ p ∈ l, plcOk p) (f : Col → Col) (hk : ∀ c, colKey (f c) = colKey c) (hc : ∀ c, madeCol c → colB (f c) = true) : shipB { madeS l n with cols := (madeS l n).cols.map f } = true := by
 have h := built_shipB (n := n) hw
 unfold shipB at h ⊢
 simp only [Bool.and_eq_true, decide_eq_true_eq] at h ⊢
 have e1 : shipKeys { madeS l n with cols := (madeS l n).cols.map f } = shipKeys (builtF l n) := by
  unfold shipKeys madeS
  simp only [List.map_map]
  congr 1
  exact List.map_congr_left fun c _ => hk c
 refine ⟨by simpa [madeS] using h.1, ?_, h.2.2.1, by rw [e1]; exact h.2.2.2⟩
 refine List.all_eq_true.2 fun c' hc' => ?_
 obtain ⟨c, hcm, rfl⟩ := List.mem_map.1 hc'
 exact hc c (colsF_made hw c hcm)
theorem mir_ship {l : List Plc} {n : Int} (hw : ∀ p ∈ l, plcOk p) : shipB (mirS (madeS l n)) = true := turn_ship hw mirC (fun _ => rfl) fun c hc => by
 obtain ⟨h1, h2, h3, ⟨h4, h5, h6, h7, h8⟩, h9, h10, h11⟩ := hc
 unfold colB risesB colSpans mirC
 simp only [h4, h5, h6, h7, h8]
 simp [spnB]
 omega
theorem rot_ship {l : List Plc} {n : Int} (hw : ∀ p ∈ l, plcOk p) : shipB (rotS (madeS l n)) = true := turn_ship hw rotC (fun _ => rfl) fun c hc => by
 obtain ⟨h1, h2, h3, ⟨h4, h5, h6, h7, h8⟩, h9, h10, h11⟩ := hc
 unfold colB risesB colSpans rotC
 simp only [h4, h5, h6, h7, h8]
 simp [spnB]
 omega
theorem mir_small {l : List Plc} {n : Int} {d : List Drp} (hw : ∀ p ∈ l, plcOk p) (hd : ∀ x ∈ d, drpOk x) : Small (mirS (madeS l n)) (madeB d) (madeT l n d) := by
 have h := made_small (n := n) hw hd
 refine ⟨?_, h.kilos, h.few, fun c' hc' => ?_⟩
 · have hc := h.cargo
   unfold cargoB at hc ⊢
   simp only [Bool.and_eq_true] at hc ⊢
   exact ⟨hc.1, stow_cols (f := mirC) (mir_ship hw) (fun _ => rfl) (fun _ => rfl) hc.2⟩
 · obtain ⟨c, hc, rfl⟩ := List.mem_map.1 hc'
   have := h.cols c hc
   simp only [mirC]
   omega
theorem rot_small {l : List Plc} {n : Int} {d : List Drp} (hw : ∀ p ∈ l, plcOk p) (hd : ∀ x ∈ d, drpOk x) : Small (rotS (madeS l n)) (madeB d) ((madeT l n d).map swpS) := by
 have h := made_small (n := n) hw hd
 refine ⟨?_, h.kilos, by rw [List.length_map]; exact h.few, fun c' hc' => ?_⟩
 · have hc := h.cargo
   unfold cargoB at hc ⊢
   simp only [Bool.and_eq_true] at hc ⊢
   exact ⟨hc.1, stow_rot (rot_ship hw) (fun c hc => (colsF_made hw c hc).2.2.2.1.1) hc.2⟩
 · obtain ⟨c, hc, rfl⟩ := List.mem_map.1 hc'
   have := h.cols c hc
   simp only [rotC]
   omega
theorem mir_cargo {l : List Plc} {n : Int} {d : List Drp} (hw : ∀ p ∈ l, plcOk p) (hd : ∀ x ∈ d, drpOk x) : cargoF (mirS (madeS l n)) (madeB d) (madeT l n d) = (⟨(cargoF (madeS l n) (madeB d) (madeT l n d)).1.kilos, (cargoF (madeS l n) (madeB d) (madeT l n d)).1.x, -(cargoF (madeS l n) (madeB d) (madeT l n d)).1.y, (cargoF (madeS l n) (madeB d) (madeT l n d)).1.z⟩, 0) := by
 have h := made_small (n := n) hw hd
 rw [(mir_small hw hd).sum, h.sum, mids_mir h, sum_mir]
theorem rot_cargo {l : List Plc} {n : Int} {d : List Drp} (hw : ∀ p ∈ l, plcOk p) (hd : ∀ x ∈ d, drpOk x) : cargoF (rotS (madeS l n)) (madeB d) ((madeT l n d).map swpS) = (⟨(cargoF (madeS l n) (madeB d) (madeT l n d)).1.kilos, -(cargoF (madeS l n) (madeB d) (madeT l n d)).1.x, (cargoF (madeS l n) (madeB d) (madeT l n d)).1.y, (cargoF (madeS l n) (madeB d) (madeT l n d)).1.z⟩, 0) := by
 have h := made_small (n := n) hw hd
 rw [(rot_small hw hd).sum, h.sum, sortT_map swpS dflt_swp (fun _ => rfl), mids_rot h (made_halves hw), sum_rot]
theorem Small.nums {s : Shp} {bs : List Box} {l : List Stowed} (h : Small s bs l) : (0 ≤ (cargoF s bs l).1.kilos ∧ (cargoF s bs l).1.kilos ≤ 500000000) ∧ (-550000000000000 ≤ (cargoF s bs l).1.x ∧ (cargoF s bs l).1.x ≤ 550000000000000) ∧ (-550000000000000 ≤ (cargoF s bs l).1.y ∧ (cargoF s bs l).1.y ≤ 550000000000000) ∧ -550000000000000 ≤ (cargoF s bs l).1.z ∧ (cargoF s bs l).1.z ≤ 550000000000000 := by
 rw [h.sum]
 have hm := h.mid
 have hlen : (midsL s.cols bs (sortT l)).length ≤ 16 := by unfold midsL; rw [midsK_len, (sortT_perm l).length_eq]; exact h.few
 have hk := raw_kilos _ fun m hx => (hm m hx).1
 have h1 := (sumW_ok ((midsL s.cols bs (sortT l)).map rawP) (fun x hx => by
  obtain ⟨m, hm2, rfl⟩ := List.mem_map.1 hx
  exact (pointOf_raw (hm m hm2)).2) (by omega)).1
 have h2 := ldOk_nums h1
 simp only at h2 ⊢
 omega
end Go.Proofs.YtfdjcakgolenbaaGreat
