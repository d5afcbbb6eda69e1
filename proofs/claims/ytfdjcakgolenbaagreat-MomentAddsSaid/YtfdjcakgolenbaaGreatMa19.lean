/-
  The library's stable sort, at Stowed by tiers: at most 20 of them.
-/
import Derived.Test.YtfdjcakgolenbaaGreatMa18
set_option linter.unusedVariables false
set_option linter.unusedSimpArgs false
namespace Go.Proofs.YtfdjcakgolenbaaGreat
open Go.RowKit
theorem insSort_len {α : Type} (lt : α -> α -> Bool) (d : α) (a b : Nat) (l : List α) : (insSort lt d a b l).length = l.length := by
 unfold insSort;rw [insUpto_len]
theorem insSort_none {α : Type} (lt : α -> α -> Bool) (d : α) (a b : Nat) (l : List α) (h : b <= a + 1) : insSort lt d a b l = l := by
 unfold insSort;rw [show b - (a + 1) = 0 by omega];rfl
def sortT (l : List Stowed) : List Stowed := insSort lessT Tc.stowed.dflt 0 l.length l
def fonStable : Fon := ⟨130, [.ownr .stowed, .int .i64, .fn []], 1, fun avs es => match avs, es with
 | [.own 0, .int .i64 n, .fn f []], [(0, .row false .stowed T l)] => if f = 86 then some ⟨fun _ => n () = ((l ()).length : Int) /\ (l ()).length <= 20, .tup [], [(0, .row false .stowed T fun _ => sortT (l ()))]⟩ else none
 | _, _ => none, true⟩
def stBlk (l : List Stowed) (q : Nat) : List Stowed := cond (decide (q = 0)) l (insSort lessT Tc.stowed.dflt 0 20 l)
theorem stBlk_len (l : List Stowed) (q : Nat) : (stBlk l q).length = l.length := by
 unfold stBlk;cases decide (q = 0)
 . rw [cond_false, insSort_len]
 . rw [cond_true]
theorem stBlk_one (l : List Stowed) : stBlk l 1 = insSort lessT Tc.stowed.dflt (20 * ((0 : Nat) : Int)).toNat (20 * ((0 : Nat) : Int) + 20).toNat (stBlk l 0) := by
 have h1 : (20 * ((0 : Nat) : Int)).toNat = 0 := by omega
 have h2 : (20 * ((0 : Nat) : Int) + 20).toNat = 20 := by omega
 rw [h1, h2];unfold stBlk;rw [show decide ((1 : Nat) = 0) = false by decide, show decide ((0 : Nat) = 0) = true by decide, cond_false, cond_true]
theorem stBlk_zero (l : List Stowed) : insSort lessT Tc.stowed.dflt (20 * ((0 : Nat) : Int)).toNat l.length (stBlk l 0) = sortT l := by
 have h1 : (20 * ((0 : Nat) : Int)).toNat = 0 := by omega
 rw [h1];unfold stBlk sortT;rw [show decide ((0 : Nat) = 0) = true by decide, cond_true]
theorem stBlk_end (l : List Stowed) (h : l.length = 20) : insSort lessT Tc.stowed.dflt (20 * ((1 : Nat) : Int)).toNat l.length (stBlk l 1) = sortT l := by
 have h1 : (20 * ((1 : Nat) : Int)).toNat = 20 := by omega
 rw [h1, insSort_none _ _ _ _ _ (by omega)];unfold stBlk sortT;rw [show decide ((1 : Nat) = 0) = false by decide, cond_false, h]
def lpBlk (T : Nat) (l : List Stowed) : Lp where
 X := Nat
 ov q := [(7, .int .i64 fun _ => 20 * (q : Int)), (8, .int .i64 fun _ => 20 * (q : Int) + 20), (0, .own 0)]
 oe q := [(0, .row false .stowed T fun _ => stBlk l q)]
 I q := q = 0 \/ (q = 1 /\ l.length = 20)
 μ q _ := 1 - q
 x0 := 0
 nx := none
def lpDead : Lp where
 X := Unit
 ov _ := [(6, .int .i64 fun _ => 20)]
 oe _ := []
 I _ := True
 μ _ _ := 0
 x0 := ()
 nx := none
set_option maxRecDepth 100000 in
set_option maxHeartbeats 4000000 in
theorem fonStable_ok : FonOk Tryz.prog fonStable := by
 refine fonOk [] trivial [fonIns] ⟨fonIns_ok, trivial⟩ Tryz.func130 (by kernel_rfl) fun avs es res h hp => ?_;simp only [fonStable] at h;split at h
 case h_2 => cases h
 split at h
 case isFalse => cases h
 rename_i n f T l hf;subst hf;cases h;obtain ⟨l, rfl⟩ := eta (α := List Stowed) l;obtain ⟨n, rfl⟩ := eta (α := Int) n;have hZh1 : n = (l.length : Int) /\ l.length <= 20 := hp;have h1 := hZh1.1;have h2 := hZh1.2;refine ⟨[(2, lpBlk T l), (7, lpDead)], ?_⟩
 conv => arg 1; cbv
 refine ⟨?_, fun (q : Nat) hq => ?_⟩
 . simp (maxSteps := 4000000) only [P_vc, P_br, P_and, P_fin, V_nil, V_one, V_cons, T_self, castK, succK, Int.toNat_natCast, predK, decide_eq_true_eq, decide_eq_false_iff_not, List.map_cons, List.map_nil, cond_true, cond_false];exact ⟨by simp, by simp, by simp, rfl⟩
 have hq' : q = 0 \/ (q = 1 /\ l.length = 20) := hq;have hlen := stBlk_len l q
 conv => arg 1; cbv
 simp (maxSteps := 4000000) only [P_vc, P_br, P_and, P_fin, V_nil, V_one, V_cons, T_self, castK, succK, Int.toNat_natCast, predK, decide_eq_true_eq, decide_eq_false_iff_not, List.map_cons, List.map_nil, cond_true, cond_false];refine ⟨fun g1 => ?_, fun g1 => ?_⟩
 . have hq0 : q = 0 := by omega
   refine ⟨⟨by omega, by omega, by omega, by omega⟩, ⟨by omega, by omega⟩, ⟨1, ⟨⟨.inr ⟨rfl, by omega⟩, by omega⟩, ?_⟩⟩⟩
   conv => arg 1; cbv
   simp (maxSteps := 4000000) only [P_vc, P_br, P_and, P_fin, V_nil, V_one, V_cons, T_self, castK, succK, Int.toNat_natCast, predK, decide_eq_true_eq, decide_eq_false_iff_not, List.map_cons, List.map_nil, cond_true, cond_false];refine ⟨by omega, by omega, ?_⟩;rw [hq0];exact (stBlk_one l).symm
 . refine ⟨⟨by omega, by omega, by omega, by omega⟩, ⟨trivial, trivial⟩, fun (u : Unit) hu => ?_⟩
   conv => arg 1; cbv
   refine ⟨fun g2 => ?_, fun g2 => ?_⟩
   . simp only [decide_eq_true_eq] at g2;omega
   . simp (maxSteps := 4000000) only [P_vc, P_br, P_and, P_fin, V_nil, V_one, V_cons, T_self, castK, succK, Int.toNat_natCast, predK, decide_eq_true_eq, decide_eq_false_iff_not, List.map_cons, List.map_nil, cond_true, cond_false];rw [h1, Int.toNat_natCast];rcases hq' with h3 | ⟨h3, h4⟩
     . rw [h3];exact stBlk_zero l
     . rw [h3];exact stBlk_end l h4
def fonSort : Fon := ⟨85, [.ownr .stowed, .fn []], 1, fun avs es => match avs, es with
 | [.own 0, .fn f []], [(0, .row false .stowed T l)] => if f = 86 then some ⟨fun _ => (l ()).length <= 20, .tup [], [(0, .row false .stowed T fun _ => sortT (l ()))]⟩ else none
 | _, _ => none, true⟩
set_option maxRecDepth 100000 in
set_option maxHeartbeats 4000000 in
theorem fonSort_ok : FonOk Tryz.prog fonSort := by
 refine fonOk [] trivial [fonStable] ⟨fonStable_ok, trivial⟩ Tryz.func85 (by kernel_rfl) fun avs es res h hp => ?_;simp only [fonSort] at h;split at h
 case h_2 => cases h
 split at h
 case isFalse => cases h
 rename_i f T l hf;subst hf;cases h;obtain ⟨l, rfl⟩ := eta (α := List Stowed) l;have hp' : l.length <= 20 := hp;refine ⟨[], ?_⟩
 conv => arg 1; cbv
 simp (maxSteps := 4000000) only [P_vc, P_br, P_and, P_fin, V_nil, V_one, V_cons, T_self, castK, succK, Int.toNat_natCast, predK, decide_eq_true_eq, decide_eq_false_iff_not, List.map_cons, List.map_nil, cond_true, cond_false];exact ⟨⟨trivial, hp'⟩, trivial⟩
/- sorting changes the order only -/
theorem swapAt_perm {α : Type} (d : α) (l : List α) (j : Nat) (h : j + 1 < l.length) : (swapAt d l j).Perm l := by
 unfold swapAt;have e1 : l.getD j d = l[j] := by rw [List.getD_eq_getElem?_getD, List.getElem?_eq_getElem (by omega), Option.getD_some]
 have e2 : l.getD (j + 1) d = l[j + 1] := by rw [List.getD_eq_getElem?_getD, List.getElem?_eq_getElem h, Option.getD_some]
 rw [e1, e2];have : l = l.take j ++ l[j] :: l[j + 1] :: l.drop (j + 2) := by
  rw [List.getElem_cons_drop, List.getElem_cons_drop, List.take_append_drop]
 have h3 : (l.set (j + 1) l[j]).set j l[j + 1] = l.take j ++ l[j + 1] :: l[j] :: l.drop (j + 2) := by
  apply List.ext_getElem?;intro i;rw [List.getElem?_set, List.getElem?_set, List.getElem?_append];simp only [List.length_set, List.length_take];grind
 rw [h3]
 conv => rhs; rw [this]
 exact List.Perm.append_left _ (List.Perm.swap _ _ _)
theorem insDown_perm {α : Type} (lt : α -> α -> Bool) (d : α) (a : Nat) : ∀ (j : Nat) (l : List α), j < l.length -> (insDown lt d a j l).Perm l
 | 0, l, _ => List.Perm.refl _
 | j + 1, l, h => by
  unfold insDown
  cases decide (a < j + 1) && lt (l.getD (j + 1) d) (l.getD j d) with
  | true =>
   rw [cond_true];exact (insDown_perm lt d a j _ (by rw [swapAt_len]; omega)).trans (swapAt_perm d l j h)
  | false => exact List.Perm.refl _
theorem insUpto_perm {α : Type} (lt : α -> α -> Bool) (d : α) (a : Nat) (l : List α) : ∀ n, a + 1 + n <= l.length \/ n = 0 -> (insUpto lt d a l n).Perm l
 | 0, _ => List.Perm.refl _
 | n + 1, h => by
  unfold insUpto;exact (insDown_perm lt d a _ _ (by rw [insUpto_len]; omega)).trans (insUpto_perm lt d a l n (by omega))
theorem sortT_perm (l : List Stowed) : (sortT l).Perm l := insUpto_perm _ _ _ _ _ (by omega)
def conBoxValid : Con := ⟨83, [.sl .box], fun
 | [x0] => (x0.toBoxes).bind fun l => some ⟨fun _ => (l ()).length <= 1000000000000 /\ ∀ b ∈ l (), b.num.size <= 140737488351232, .tup [.int .i64 fun _ => (boxValid (l ())).1, .int .i64 fun _ => (boxValid (l ())).2]⟩
 | _ => none⟩
def seenM (l : List Box) : Nat -> List Kx -> Option Int
 | 0 => fun _ => none
 | k + 1 => cond (decide (((l.getD k Tc.box.dflt).num) = noText)) (seenM l k) (setM (seenM l k) [.s (l.getD k Tc.box.dflt).num] (k : Int))
def lpV (l : List Box) : Lp where
 X := Nat
 ov k := [(16, .int .i64 fun _ => (k : Int)), (5, .int .i64 fun _ => lastId l k)]
 oe k := [(0, .map true false (.one .str) .int 211 fun _ => seenM l k)]
 I k := k <= l.length /\ ∀ j, j < k -> boxBad l j = false
 μ k _ := l.length - k
 x0 := 0
 nx := some fun k => k + 1
theorem seenM_seenN (l : List Box) (s : ByteArray) : ∀ k, k <= l.length -> (seenM l k [.s s]).isSome = seenN l k s
 | 0, _ => by rw [seenN_zero]; rfl
 | k + 1, hk => by
  have ih := seenM_seenN l s k (by omega);have hnn : noNum = noText := rfl;rw [seenN_succ l k s (by omega), <- ih, hnn];have e : l.getD k Tc.box.dflt = l[k] := by simp [List.getD_eq_getElem?_getD, List.getElem?_eq_getElem (show k < l.length by omega)]
  have hu : seenM l (k + 1) = cond (decide ((l.getD k Tc.box.dflt).num = noText)) (seenM l k) (setM (seenM l k) [.s (l.getD k Tc.box.dflt).num] (k : Int)) := rfl;rw [hu, e];by_cases hn : l[k].num = noText
  . simp only [hn, decide_true, cond_true, Bool.not_true, Bool.false_and, Bool.or_false]
  . simp only [hn, decide_false, cond_false, Bool.not_false, Bool.true_and];unfold setM;by_cases hs : l[k].num = s
    . simp only [hs, if_true, Option.isSome_some, decide_true, Bool.or_true]
    . have : ¬ [Kx.s s] = [Kx.s l[k].num] := by simpa using fun e => hs e.symm
      simp only [hs, this, if_false, decide_false, Bool.or_false]
set_option maxRecDepth 100000 in
set_option maxHeartbeats 4000000 in
theorem conBoxValid_ok : ConOk Tryz.prog conBoxValid := by
 refine fnOk [conBoxRight] ⟨conBoxRight_ok, trivial⟩ Tryz.func83 (by kernel_rfl) fun avs res h hp => ?_;simp only [conBoxValid] at h;split at h
 case h_2 => cases h
 rename_i x0;simp only [Option.bind_eq_some_iff, Option.some.injEq] at h;obtain ⟨l, e0, rfl⟩ := h;obtain rfl := AV.toBoxes_ e0;clear e0;obtain ⟨l, rfl⟩ := eta (α := List Box) l;have hZhp1 : l.length <= 1000000000000 /\ ∀ b ∈ l, b.num.size <= 140737488351232 := hp;have hp1 := hZhp1.1;have hp2 := hZhp1.2;refine ⟨[(5, lpV l)], ?_⟩
 conv => arg 1; cbv
 refine ⟨fun h1 => ?_, fun h1 => ⟨?_, fun (k : Nat) hk => ?_⟩⟩
 . simp only [decide_eq_true_eq, castK] at h1;have h2 : boxValid l = (-1, 5) := by unfold boxValid; rw [if_pos (by omega)]
   simp only [P_fin, V_cons, V_one, h2, and_self]
 . refine ⟨⟨Nat.zero_le _, fun j hj => absurd hj (Nat.not_lt_zero j)⟩, ?_⟩;simp only [P_fin, V_cons, V_one, T_self];exact ⟨rfl, (lastId_zero l).symm, rfl⟩
 . conv => arg 1; cbv
   have hZhk1 : k <= l.length /\ ∀ j, j < k -> boxBad l j = false := hk;have hk1 := hZhk1.1;have hk2 := hZhk1.2;have h5 : l.length <= 2000 := by simp only [decide_eq_false_iff_not, castK] at h1; omega
   simp only [P_vc, P_br, P_fin, V_one, V_cons, T_self, castK, succK, Int.toNat_natCast, decide_eq_true_eq, decide_eq_false_iff_not, seenM_seenN l _ k hk1];refine ⟨fun h2 => ⟨by omega, ?_⟩, fun h2 => ?_⟩
   . have hlt : k < l.length := by omega
     have e : l.getD k Tc.box.dflt = l[k] := by simp [List.getD_eq_getElem?_getD, List.getElem?_eq_getElem hlt]
     have hbad : boxBad l k = (seenN l k l[k].num || decide (l[k].id <= lastId l k) || !boxB l[k]) := by unfold boxBad; rw [List.getElem?_eq_getElem hlt]
     simp only [e];have hf : boxBad l k = true -> (k : Int) = (boxValid l).1 /\ 60 = (boxValid l).2 := fun h => by rw [boxValid_found h5 hlt hk2 h]; exact ⟨rfl, rfl⟩
     refine ⟨fun h3 => hf (by rw [hbad, h3]; rfl), fun h3 => ⟨fun h4 => hf (by rw [hbad, h3]; simp [h4]), fun h4 => ⟨hp2 _ (List.getElem_mem hlt), fun h6 => hf ?_, fun h6 => ?_⟩⟩⟩
     . rw [hbad];have h6' : (!boxB l[k]) = true := h6;rw [h6'];simp
     . have h6' : (!boxB l[k]) = false := h6;have hgood : boxBad l k = false := by rw [hbad, h3, h6']; simp [h4]
       have hI : k + 1 <= l.length /\ ∀ j, j < k + 1 -> boxBad l j = false := ⟨hlt, fun j hj => by
        rcases Nat.lt_or_ge j k with h | h
        . exact hk2 j h
        . rw [show j = k by omega]; exact hgood⟩
       have hM : seenM l (k + 1) = cond (decide (l[k].num = noText)) (seenM l k) (setM (seenM l k) [.s l[k].num] (k : Int)) := by
        show cond _ _ _ = _
        rw [e]
       have hrest : inI64 ((k : Int) + 1) /\ ((k + 1 <= l.length /\ ∀ j, j < k + 1 -> boxBad l j = false) /\ l.length - (k + 1) < l.length - k) /\ (k : Int) + 1 = ((k + 1 : Nat) : Int) /\ l[k].id = lastId l (k + 1) := ⟨⟨by omega, by omega⟩, ⟨hI, by omega⟩, by omega, (lastId_succ l k hlt).symm⟩
       refine ⟨fun h7 => ⟨hrest.1, hrest.2.1, hrest.2.2.1, hrest.2.2.2, ?_⟩, fun h7 => ⟨hrest.1, hrest.2.1, hrest.2.2.1, hrest.2.2.2, ?_⟩⟩
       . have h8 : (!decide (l[k].num = noText)) = true := h7;have h7' : decide (l[k].num = noText) = false := by simpa using h8
         rw [hM, h7'];rfl
       . have h8 : (!decide (l[k].num = noText)) = false := h7;have h7' : decide (l[k].num = noText) = true := by simpa using h8
         rw [hM, h7'];rfl
   . have : k = l.length := by omega
     subst this;rw [boxValid_none h5 hk2];exact ⟨rfl, rfl⟩
def hsOf (h : Int) : List Int := cond (decide (h = 1)) [1] (cond (decide (h = 2)) [2] [1, 2])
def topKey (c h : Int) : List Kx := [.i .i64 c, .i .i64 h]
def bump (t c : Int) (m : List Kx -> Option Int) (hs : List Int) : List Kx -> Option Int := hs.foldl (fun m h => setM m (topKey c h) ((m (topKey c h)).getD 0 + t)) m
def topStep (bs : List Box) (m : List Kx -> Option Int) (x : Stowed) : List Kx -> Option Int := bump (tallB (findV bs x.box).1) x.col m (hsOf x.half)
def topsM (bs : List Box) (l : List Stowed) : List Kx -> Option Int := l.foldl (topStep bs) fun _ => none
def midX (c : Col) (h : Int) : Int := cond (decide (h = 1)) (c.x + 3050) (cond (decide (h = 2)) (c.x - 3050) c.x)
def midOf (cs : List Col) (bs : List Box) (m : List Kx -> Option Int) (x : Stowed) : Mid :=
 ⟨(findV bs x.box).1, midX (cs.getD x.col.toNat Tc.col.dflt) x.half, (cs.getD x.col.toNat Tc.col.dflt).y, 2 * ((cs.getD x.col.toNat Tc.col.dflt).z + (m (topKey x.col ((hsOf x.half).headD 0))).getD 0) + tallB (findV bs x.box).1⟩
def midsK (cs : List Col) (bs : List Box) (l : List Stowed) (k : Nat) : List Mid := (List.range k).map fun j => midOf cs bs (topsM bs (l.take j)) (l.getD j Tc.stowed.dflt)
def midsL (cs : List Col) (bs : List Box) (l : List Stowed) : List Mid := midsK cs bs l l.length
theorem midsK_succ (cs : List Col) (bs : List Box) (l : List Stowed) (k : Nat) : midsK cs bs l (k + 1) = midsK cs bs l k ++ [midOf cs bs (topsM bs (l.take k)) (l.getD k Tc.stowed.dflt)] := by
 unfold midsK;rw [List.range_succ, List.map_append];rfl
theorem midsK_len (cs : List Col) (bs : List Box) (l : List Stowed) (k : Nat) : (midsK cs bs l k).length = k := by unfold midsK; simp
theorem topsM_more {bs : List Box} {l : List Stowed} {k : Nat} (h : k < l.length) : topsM bs (l.take (k + 1)) = topStep bs (topsM bs (l.take k)) (l.getD k Tc.stowed.dflt) := by
 unfold topsM;rw [take_getD Tc.stowed.dflt h, List.foldl_append];rfl
theorem bump_bound {t c B : Int} (ht : 0 <= t /\ t <= 2896) : ∀ (hs : List Int) (m : List Kx -> Option Int), (∀ k, 0 <= (m k).getD 0 /\ (m k).getD 0 <= B) -> ∀ k, 0 <= ((bump t c m hs) k).getD 0 /\ ((bump t c m hs) k).getD 0 <= B + 2896 * (hs.length : Int)
 | [], m, h, k => by have := h k; simpa [bump] using this
 | x :: hs, m, h, k => by
  have h2 : ∀ k, 0 <= ((setM m (topKey c x) ((m (topKey c x)).getD 0 + t)) k).getD 0 /\ ((setM m (topKey c x) ((m (topKey c x)).getD 0 + t)) k).getD 0 <= B + 2896 := fun k => by
   have h3 := h k;have h4 := h (topKey c x);unfold setM;split
   . simp only [Option.getD_some]; omega
   . omega
  have h5 := bump_bound (c := c) (B := B + 2896) ht hs _ h2 k;have e : bump t c m (x :: hs) = bump t c (setM m (topKey c x) ((m (topKey c x)).getD 0 + t)) hs := rfl;rw [e];simp only [List.length_cons];omega
theorem hsOf_len (h : Int) : (hsOf h).length <= 2 /\ 1 <= (hsOf h).length := by
 unfold hsOf;cases decide (h = 1) <;> cases decide (h = 2) <;> simp
theorem tops_bound (bs : List Box) (l : List Stowed) (k : List Kx) : 0 <= (topsM bs l k).getD 0 /\ (topsM bs l k).getD 0 <= 5792 * (l.length : Int) := by
 have : ∀ (l : List Stowed) (m : List Kx -> Option Int) (B : Int), (∀ k, 0 <= (m k).getD 0 /\ (m k).getD 0 <= B) -> ∀ k, 0 <= (l.foldl (topStep bs) m k).getD 0 /\ (l.foldl (topStep bs) m k).getD 0 <= B + 5792 * (l.length : Int) := by
  intro l
  induction l with
  | nil => intro m B h k; simpa using h k
  | cons x l ih =>
   intro m B h k;have h1 := bump_bound (c := x.col) (tallB_bound (findV bs x.box).1) (hsOf x.half) m h;have h2 := hsOf_len x.half;have h3 := ih (topStep bs m x) (B + 5792) (fun k => by
    have := h1 k;unfold topStep
    omega) k
   simp only [List.foldl_cons, List.length_cons];omega
 have := this l (fun _ => none) 0 (fun k => by simp) k;unfold topsM;omega
theorem stow_col {s : Shp} {bs : List Box} {l : List Stowed} {x : Stowed} (h : stowB s bs l = true) (hx : x ∈ l) : 0 <= x.col /\ x.col < (s.cols.length : Int) := by
 obtain ⟨k, hk, rfl⟩ := List.getElem_of_mem hx;unfold stowB at h;simp only [Bool.and_eq_true, decide_eq_true_eq] at h;have h1 := h.2.1 k hk;unfold stowAt slotOk at h1;have e : l.getD k Tc.stowed.dflt = l[k] := by rw [List.getD_eq_getElem?_getD, List.getElem?_eq_getElem hk, Option.getD_some]
 rw [e] at h1;simp only [Bool.and_eq_true, decide_eq_true_eq] at h1;exact ⟨h1.2.1.1.1, h1.2.1.1.2.1⟩
theorem ship_col {s : Shp} (h : shipB s = true) {k : Nat} (hk : k < s.cols.length) : (-500000 <= (s.cols.getD k Tc.col.dflt).x /\ (s.cols.getD k Tc.col.dflt).x <= 500000) /\ (-500000 <= (s.cols.getD k Tc.col.dflt).y /\ (s.cols.getD k Tc.col.dflt).y <= 500000) /\ (-500000 <= (s.cols.getD k Tc.col.dflt).z /\ (s.cols.getD k Tc.col.dflt).z <= 500000) := by
 unfold shipB at h;simp only [Bool.and_eq_true] at h;have h6 := List.all_eq_true.1 h.2.1 _ (getD_mem Tc.col.dflt hk);generalize s.cols.getD k Tc.col.dflt = c at *
 unfold colB at h6;simp only [Bool.and_eq_true] at h6;have hx := List.all_eq_true.1 h6.2 ⟨c.x, -500000, 500000⟩ (by simp [colSpans]);have hy := List.all_eq_true.1 h6.2 ⟨c.y, -500000, 500000⟩ (by simp [colSpans]);have hz := List.all_eq_true.1 h6.2 ⟨c.z, -500000, 500000⟩ (by simp [colSpans]);unfold spnB at hx hy hz;simp only [Bool.and_eq_true, decide_eq_true_eq] at hx hy hz;exact ⟨hx, hy, hz⟩
def cargoB (s : Shp) (bs : List Box) (l : List Stowed) : Bool := decide ((boxValid bs).2 = 0) && stowB s bs l
def boxesPre (bs : List Box) : Prop := bs.length <= 1000000000000 /\ ∀ b ∈ bs, b.num.size <= 140737488351232
def conMiddles : Con := ⟨44, [.agg shipSg, .sl .box, .sl .stowed], fun
 | [x0, x1, x2] => (x0.toShip).bind fun s => (x1.toBoxes).bind fun bs => (x2.toStos).bind fun l => some ⟨fun _ => shipPre (s ()) /\ boxesPre (bs ()) /\ (l ()).length <= 20, .tup [.sl true .mid fun _ => cond (cargoB (s ()) (bs ()) (l ())) (midsL (s ()).cols (bs ()) (sortT (l ()))) [], .bool fun _ => cargoB (s ()) (bs ()) (l ())]⟩
 | _ => none⟩
def lpMid (cs : List Col) (bs : List Box) (L : Unit -> List Stowed) : Lp where
 X := Nat
 ov k := [(42, .int .i64 fun _ => (k : Int)), (11, .own 3)]
 oe k := [(2, .map true false (.arr 2 (.int .i64)) .int 168 fun _ => topsM bs ((L ()).take k)), (3, .row true .mid 112 fun _ => midsK cs bs (L ()) k)]
 I k := k <= (L ()).length
 μ k _ := (L ()).length - k
 x0 := 0
 nx := some fun k => k + 1
def lpTop (t c : Unit -> Int) (m : Unit -> List Kx -> Option Int) (hs : Unit -> List Int) : Lp where
 X := Nat
 ov j := [(106, .int .i64 fun _ => (j : Int))]
 oe j := [(2, .map true false (.arr 2 (.int .i64)) .int 168 fun _ => bump (t ()) (c ()) (m ()) ((hs ()).take j))]
 I j := j <= (hs ()).length
 μ j _ := (hs ()).length - j
 x0 := 0
 nx := some fun j => j + 1
theorem box_eta (b : Box) : (⟨b.id, b.num, b.size, b.high, b.kilos, b.load, b.dis, b.cls, b.reefer⟩ : Box) = b := rfl
theorem bump_more {t c : Int} {m : List Kx -> Option Int} {hs : List Int} {j : Nat} (h : j < hs.length) : setM (bump t c m (hs.take j)) [Kx.i .i64 c, Kx.i .i64 (hs.getD j Tc.u8.dflt)] ((bump t c m (hs.take j) [Kx.i .i64 c, Kx.i .i64 (hs.getD j Tc.u8.dflt)]).getD Tc.int.dflt + t) = bump t c m (hs.take (j + 1)) := by
 unfold bump;rw [take_getD (Tc.u8.dflt) h, List.foldl_append];rfl
theorem all_true {A B C D E : Prop} (hA : A) (hB : B) (hC : C) (hD : D) (hE : E) : A = True /\ B = True /\ C = True /\ D = True /\ E = True := ⟨eq_true hA, eq_true hB, eq_true hC, eq_true hD, eq_true hE⟩
set_option maxRecDepth 100000 in
set_option maxHeartbeats 4000000 in
theorem conMiddles_ok : ConOk Tryz.prog conMiddles := by
 refine fnOkK [] [(8, [1, 2, 3, 10, 11]), (22, [1, 3, 10, 11, 13, 14, 17, 18, 40, 41, 42]), (27, [10, 11, 17, 42])] [(21, schList [0, 1, 2, 3, 4, 5, 6, 7, 8, 9, 10, 11, 12, 13, 14, 15, 16, 17, 18] .nil), (25, schList [0, 1, 2, 4, 5] (.alt (.op 3 (.alt (.op 6 (.alt (schList [7, 8, 9, 10, 11, 12, 13] .nil) (.op 8 (.alt (schList [7, 9, 10, 11, 12, 13] .nil) (.op 9 (.alt (schList [7, 10, 11, 12, 13] .nil) (schList [11, 12, 7, 10, 13] .nil))))))) (.op 8 (.alt (.op 6 (.alt (schList [7, 9, 10, 11, 12, 13] .nil) (.op 9 (.alt (schList [7, 10, 11, 12, 13] .nil) (schList [11, 12, 7, 10, 13] .nil))))) (schList [9, 6] (.alt (schList [7, 10, 11, 12, 13] .nil) (schList [11, 12, 7, 10, 13] .nil))))))) (.op 8 (.alt (.op 3 (.alt (.op 6 (.alt (schList [7, 9, 10, 11, 12, 13] .nil) (.op 9 (.alt (schList [7, 10, 11, 12, 13] .nil) (schList [11, 12, 7, 10, 13] .nil))))) (schList [9, 6] (.alt (schList [7, 10, 11, 12, 13] .nil) (schList [11, 12, 7, 10, 13] .nil))))) (schList [9, 3, 6] (.alt (schList [7, 10, 11, 12, 13] .nil) (schList [11, 12, 7, 10, 13] .nil)))))))] [conBoxValid, conStowRight, conBoxFind, conBoxHeight] ⟨conBoxValid_ok, conStowRight_ok, conBoxFind_ok, conBoxHeight_ok, trivial⟩ [fonClone, fonSort] ⟨fonClone_ok, fonSort_ok, trivial⟩ Tryz.func44 (by kernel_rfl) fun avs res h hp => ?_;simp only [conMiddles] at h;split at h
 case h_2 => cases h
 rename_i x0 x1 x2;simp only [Option.bind_eq_some_iff, Option.some.injEq] at h;obtain ⟨s, e0, bs, e1, l, e2, rfl⟩ := h;obtain rfl := AV.toShip_ e0;obtain rfl := AV.toBoxes_ e1;obtain rfl := AV.toStos_ e2;clear e0 e1 e2;obtain ⟨s, rfl⟩ := eta (α := Shp) s;obtain ⟨bs, rfl⟩ := eta (α := List Box) bs;obtain ⟨l, rfl⟩ := eta (α := List Stowed) l;have hp' : shipPre s /\ boxesPre bs /\ l.length <= 20 := hp;have h1 := hp'.1;have h2 := hp'.2.1;have h3 := hp'.2.2;have hsl : (sortT l).length = l.length := (sortT_perm l).length_eq;clear hp hp';refine ⟨[(9, lpMid s.cols bs fun _ => sortT l)], ?_⟩
 conv => arg 1; cbv
 refine ⟨h2, fun g1 => ?_, fun g1 => ⟨⟨h1, h2.1, Nat.le_trans h3 (by decide)⟩, fun g2 => ?_, fun g2 => ⟨Nat.le_trans h3 (by decide), h3, ?_, fun (k : Nat) hk => ?_⟩⟩⟩
 . have g1' : (!decide ((boxValid bs).2 = 0)) = true := g1;have hc : cargoB s bs l = false := by
    unfold cargoB;simp only [Bool.not_eq_true'] at g1';rw [g1'];rfl
   simp (maxSteps := 4000000) only [P_vc, P_br, P_and, P_fin, V_nil, V_one, V_cons, T_self, castK, succK, Int.toNat_natCast, predK, decide_eq_true_eq, decide_eq_false_iff_not, List.map_cons, List.map_nil, cond_true, cond_false];rw [hc];exact ⟨rfl, rfl⟩
 . have g2' : (!stowB s bs l) = true := g2;have hc : cargoB s bs l = false := by
    unfold cargoB;simp only [Bool.not_eq_true'] at g2';rw [g2', Bool.and_false]
   simp (maxSteps := 4000000) only [P_vc, P_br, P_and, P_fin, V_nil, V_one, V_cons, T_self, castK, succK, Int.toNat_natCast, predK, decide_eq_true_eq, decide_eq_false_iff_not, List.map_cons, List.map_nil, cond_true, cond_false];rw [hc];exact ⟨rfl, rfl⟩
 . simp (maxSteps := 4000000) only [P_vc, P_br, P_and, P_fin, V_nil, V_one, V_cons, T_self, castK, succK, Int.toNat_natCast, predK, decide_eq_true_eq, decide_eq_false_iff_not, List.map_cons, List.map_nil, cond_true, cond_false];exact ⟨Nat.zero_le _, rfl, rfl, rfl⟩
 have g1' : (!decide ((boxValid bs).2 = 0)) = false := g1;have g2' : (!stowB s bs l) = false := g2;simp only [Bool.not_eq_false'] at g1' g2';have hc : cargoB s bs l = true := by
  unfold cargoB;rw [g1', g2'];rfl
 have hk' : k <= (sortT l).length := hk;have hsB : shipB s = true := by
  unfold stowB at g2';simp only [Bool.and_eq_true] at g2';exact g2'.1
 clear hk g1 g2
 conv => arg 1; cbv
 refine ⟨fun g3 => ?_, fun g3 => ?_⟩
 . have hlt : k < (sortT l).length := by
    have g3' : decide ((k : Int) < ((sortT l).length : Int)) = true := g3;simp only [decide_eq_true_eq] at g3';omega
   have hcol := stow_col g2' ((sortT_perm l).mem_iff.1 (getD_mem Tc.stowed.dflt hlt));have hcc := ship_col hsB (k := ((sortT l).getD k Tc.stowed.dflt).col.toNat) (by omega);have htop := tops_bound bs ((sortT l).take k);have htk : ((sortT l).take k).length <= 20 := by rw [List.length_take]; omega
   refine ⟨⟨Int.natCast_nonneg k, of_decide_eq_true g3⟩, h2.1, hcol, fun g4 => ?_, fun g4 => ⟨fun g5 => ?_, fun g5 => ?_⟩⟩
   . have gh : ((sortT l).getD k Tc.stowed.dflt).half = 1 := of_decide_eq_true g4;refine ⟨⟨by simp only [castK, Int.toNat_natCast]; omega, by simp only [castK, Int.toNat_natCast]; omega⟩, ?_⟩;have hd0 : (Tc.int.dflt : Int) = 0 := rfl;have h9 := htop [Kx.i .i64 ((sortT l).getD k Tc.stowed.dflt).col, Kx.i .i64 (([((sortT l).getD k Tc.stowed.dflt).half]).getD (Int.toNat 0) Tc.u8.dflt)];have ht := tallB_bound (findV bs ((sortT l).getD k Tc.stowed.dflt).box).1;refine ⟨⟨Int.le_refl 0, by simp⟩, (show inI64 (([((sortT l).getD k Tc.stowed.dflt).half]).getD (Int.toNat 0) Tc.u8.dflt) from by rw [show [((sortT l).getD k Tc.stowed.dflt).half].getD (Int.toNat 0) Tc.u8.dflt = ((sortT l).getD k Tc.stowed.dflt).half from rfl, gh]; exact ⟨by omega, by omega⟩), ?_, ?_, trivial, ?_, ?_⟩
     . simp only [V_one, castK, Int.toNat_natCast, List.map_cons, List.map_nil, hd0];exact ⟨by omega, by omega⟩
     . simp only [V_one, castK, Int.toNat_natCast, List.map_cons, List.map_nil, hd0];exact ⟨by omega, by omega⟩
     . simp only [V_one, castK, Int.toNat_natCast, List.map_cons, List.map_nil, hd0, box_eta];exact ⟨by omega, by omega⟩
     refine ⟨lpTop (fun _ => tallB (findV bs ((sortT l).getD k Tc.stowed.dflt).box).1) (fun _ => ((sortT l).getD k Tc.stowed.dflt).col) (fun _ => topsM bs ((sortT l).take k)) (fun _ => [((sortT l).getD k Tc.stowed.dflt).half]), ?_⟩
     conv => arg 1; cbv
     refine ⟨?_, fun (j : Nat) hj => ?_⟩
     . simp (maxSteps := 4000000) only [P_vc, P_br, P_and, P_fin, V_nil, V_one, V_cons, T_self, castK, succK, Int.toNat_natCast, predK, decide_eq_true_eq, decide_eq_false_iff_not, List.map_cons, List.map_nil, cond_true, cond_false];exact ⟨Nat.zero_le _, rfl, rfl⟩
     have hj' : j <= ([((sortT l).getD k Tc.stowed.dflt).half]).length := hj
     conv => arg 1; cbv
     simp (maxSteps := 4000000) only [P_vc, P_br, P_and, P_fin, V_nil, V_one, V_cons, T_self, castK, succK, Int.toNat_natCast, predK, decide_eq_true_eq, decide_eq_false_iff_not, List.map_cons, List.map_nil, cond_true, cond_false];clear g3 g4 hj h9;have hb1 := fun key => bump_bound (c := ((sortT l).getD k Tc.stowed.dflt).col) (tallB_bound (findV bs ((sortT l).getD k Tc.stowed.dflt).box).1) (([((sortT l).getD k Tc.stowed.dflt).half]).take j) (topsM bs ((sortT l).take k)) htop key;have hmor := fun h => bump_more (t := tallB (findV bs ((sortT l).getD k Tc.stowed.dflt).box).1) (c := ((sortT l).getD k Tc.stowed.dflt).col) (m := topsM bs ((sortT l).take k)) (hs := [((sortT l).getD k Tc.stowed.dflt).half]) (j := j) h;have hmids := midsK_succ s.cols bs (sortT l) k;have htops := topsM_more (bs := bs) hlt;unfold midOf at hmids;unfold topStep at htops;simp only [box_eta];generalize hX : (sortT l).getD k Tc.stowed.dflt = x at *
     generalize hM : topsM bs ((sortT l).take k) = M0 at *
     generalize (findV bs x.box).1 = b at *
     simp only [setM_twice, setM_at, Option.getD_some];refine ⟨fun g6 => ?_, fun g6 => ?_⟩
     . have hs0 : ∀ y ∈ [x.half], 1 <= y /\ y <= 2 := by simp [gh]
       have hs3 : ([x.half]).length <= 2 := by simp
       generalize [x.half] = hs at *
       have h6 : j < hs.length := by omega
       have h7 := hmor h6;have hs1 := hs0 _ (getD_mem Tc.u8.dflt h6);have hs2 : inI64 (hs.getD j Tc.u8.dflt) := ⟨by omega, by omega⟩
       have hs4 : (hs.take j).length <= 2 := by rw [List.length_take]; omega
       have hb2 := hb1 [Kx.i .i64 x.col, Kx.i .i64 (hs.getD j Tc.u8.dflt)];have hb3 : inI64 ((bump (tallB b) x.col M0 (hs.take j) [Kx.i .i64 x.col, Kx.i .i64 (hs.getD j Tc.u8.dflt)]).getD Tc.int.dflt + tallB b) := by
        rw [hd0];exact ⟨by omega, by omega⟩
       obtain ⟨e1, e2, e3, e4, e5⟩ := all_true hb3 (show inI64 ((j : Int) + 1) from ⟨by omega, by omega⟩) (show j + 1 <= hs.length /\ hs.length - (j + 1) < hs.length - j from ⟨by omega, by omega⟩) (show (j : Int) + 1 = ((j + 1 : Nat) : Int) by omega) hs2;simp only [h7, e1, e2, e3, e4, e5, and_self, and_true, true_and];exact ⟨by omega, by omega⟩
     . have hT : ([x.half]).take j = [x.half] := List.take_of_length_le (by omega);have hof : hsOf x.half = [x.half] := by
        unfold hsOf;simp [gh]
       have hmx : midX (s.cols.getD x.col.toNat Tc.col.dflt) x.half = (s.cols.getD x.col.toNat Tc.col.dflt).x + 3050 := by
        unfold midX;simp [gh]
       rw [hT, htops, hmids, hof, hmx];refine ⟨by rw [midsK_len]; simp only [List.length_cons, List.length_nil]; omega, ⟨by omega, by omega⟩, ⟨by omega, by omega⟩, by omega, rfl, rfl⟩
   . have gh : ((sortT l).getD k Tc.stowed.dflt).half = 2 := of_decide_eq_true g5;refine ⟨⟨by simp only [castK, Int.toNat_natCast]; omega, by simp only [castK, Int.toNat_natCast]; omega⟩, ?_⟩;clear g4;have g4 := g5;clear g5;have hd0 : (Tc.int.dflt : Int) = 0 := rfl;have h9 := htop [Kx.i .i64 ((sortT l).getD k Tc.stowed.dflt).col, Kx.i .i64 (([((sortT l).getD k Tc.stowed.dflt).half]).getD (Int.toNat 0) Tc.u8.dflt)];have ht := tallB_bound (findV bs ((sortT l).getD k Tc.stowed.dflt).box).1;refine ⟨⟨Int.le_refl 0, by simp⟩, (show inI64 (([((sortT l).getD k Tc.stowed.dflt).half]).getD (Int.toNat 0) Tc.u8.dflt) from by rw [show [((sortT l).getD k Tc.stowed.dflt).half].getD (Int.toNat 0) Tc.u8.dflt = ((sortT l).getD k Tc.stowed.dflt).half from rfl, gh]; exact ⟨by omega, by omega⟩), ?_, ?_, trivial, ?_, ?_⟩
     . simp only [V_one, castK, Int.toNat_natCast, List.map_cons, List.map_nil, hd0];exact ⟨by omega, by omega⟩
     . simp only [V_one, castK, Int.toNat_natCast, List.map_cons, List.map_nil, hd0];exact ⟨by omega, by omega⟩
     . simp only [V_one, castK, Int.toNat_natCast, List.map_cons, List.map_nil, hd0, box_eta];exact ⟨by omega, by omega⟩
     refine ⟨lpTop (fun _ => tallB (findV bs ((sortT l).getD k Tc.stowed.dflt).box).1) (fun _ => ((sortT l).getD k Tc.stowed.dflt).col) (fun _ => topsM bs ((sortT l).take k)) (fun _ => [((sortT l).getD k Tc.stowed.dflt).half]), ?_⟩
     conv => arg 1; cbv
     refine ⟨?_, fun (j : Nat) hj => ?_⟩
     . simp (maxSteps := 4000000) only [P_vc, P_br, P_and, P_fin, V_nil, V_one, V_cons, T_self, castK, succK, Int.toNat_natCast, predK, decide_eq_true_eq, decide_eq_false_iff_not, List.map_cons, List.map_nil, cond_true, cond_false];exact ⟨Nat.zero_le _, rfl, rfl⟩
     have hj' : j <= ([((sortT l).getD k Tc.stowed.dflt).half]).length := hj
     conv => arg 1; cbv
     simp (maxSteps := 4000000) only [P_vc, P_br, P_and, P_fin, V_nil, V_one, V_cons, T_self, castK, succK, Int.toNat_natCast, predK, decide_eq_true_eq, decide_eq_false_iff_not, List.map_cons, List.map_nil, cond_true, cond_false];clear g3 g4 hj h9;have hb1 := fun key => bump_bound (c := ((sortT l).getD k Tc.stowed.dflt).col) (tallB_bound (findV bs ((sortT l).getD k Tc.stowed.dflt).box).1) (([((sortT l).getD k Tc.stowed.dflt).half]).take j) (topsM bs ((sortT l).take k)) htop key;have hmor := fun h => bump_more (t := tallB (findV bs ((sortT l).getD k Tc.stowed.dflt).box).1) (c := ((sortT l).getD k Tc.stowed.dflt).col) (m := topsM bs ((sortT l).take k)) (hs := [((sortT l).getD k Tc.stowed.dflt).half]) (j := j) h;have hmids := midsK_succ s.cols bs (sortT l) k;have htops := topsM_more (bs := bs) hlt;unfold midOf at hmids;unfold topStep at htops;simp only [box_eta];generalize hX : (sortT l).getD k Tc.stowed.dflt = x at *
     generalize hM : topsM bs ((sortT l).take k) = M0 at *
     generalize (findV bs x.box).1 = b at *
     simp only [setM_twice, setM_at, Option.getD_some];refine ⟨fun g6 => ?_, fun g6 => ?_⟩
     . have hs0 : ∀ y ∈ [x.half], 1 <= y /\ y <= 2 := by simp [gh]
       have hs3 : ([x.half]).length <= 2 := by simp
       generalize [x.half] = hs at *
       have h6 : j < hs.length := by omega
       have h7 := hmor h6;have hs1 := hs0 _ (getD_mem Tc.u8.dflt h6);have hs2 : inI64 (hs.getD j Tc.u8.dflt) := ⟨by omega, by omega⟩
       have hs4 : (hs.take j).length <= 2 := by rw [List.length_take]; omega
       have hb2 := hb1 [Kx.i .i64 x.col, Kx.i .i64 (hs.getD j Tc.u8.dflt)];have hb3 : inI64 ((bump (tallB b) x.col M0 (hs.take j) [Kx.i .i64 x.col, Kx.i .i64 (hs.getD j Tc.u8.dflt)]).getD Tc.int.dflt + tallB b) := by
        rw [hd0];exact ⟨by omega, by omega⟩
       obtain ⟨e1, e2, e3, e4, e5⟩ := all_true hb3 (show inI64 ((j : Int) + 1) from ⟨by omega, by omega⟩) (show j + 1 <= hs.length /\ hs.length - (j + 1) < hs.length - j from ⟨by omega, by omega⟩) (show (j : Int) + 1 = ((j + 1 : Nat) : Int) by omega) hs2;simp only [h7, e1, e2, e3, e4, e5, and_self, and_true, true_and];exact ⟨by omega, by omega⟩
     . have hT : ([x.half]).take j = [x.half] := List.take_of_length_le (by omega);have hof : hsOf x.half = [x.half] := by
        unfold hsOf;simp [gh]
       have hmx : midX (s.cols.getD x.col.toNat Tc.col.dflt) x.half = (s.cols.getD x.col.toNat Tc.col.dflt).x - 3050 := by
        unfold midX;simp [gh]
       rw [hT, htops, hmids, hof, hmx];refine ⟨by rw [midsK_len]; simp only [List.length_cons, List.length_nil]; omega, ⟨by omega, by omega⟩, ⟨by omega, by omega⟩, by omega, rfl, rfl⟩
   . have gh : ¬ ((sortT l).getD k Tc.stowed.dflt).half = 1 /\ ¬ ((sortT l).getD k Tc.stowed.dflt).half = 2 := ⟨of_decide_eq_false g4, of_decide_eq_false g5⟩
     clear g4;have g4 := g5;clear g5;have hd0 : (Tc.int.dflt : Int) = 0 := rfl;have h9 := htop [Kx.i .i64 ((sortT l).getD k Tc.stowed.dflt).col, Kx.i .i64 (([(1 : Int), 2]).getD (Int.toNat 0) Tc.u8.dflt)];have ht := tallB_bound (findV bs ((sortT l).getD k Tc.stowed.dflt).box).1;refine ⟨⟨Int.le_refl 0, by simp⟩, (show inI64 (([(1 : Int), 2]).getD (Int.toNat 0) Tc.u8.dflt) from ⟨by decide, by decide⟩), ?_, ?_, trivial, ?_, ?_⟩
     . simp only [V_one, castK, Int.toNat_natCast, List.map_cons, List.map_nil, hd0];exact ⟨by omega, by omega⟩
     . simp only [V_one, castK, Int.toNat_natCast, List.map_cons, List.map_nil, hd0];exact ⟨by omega, by omega⟩
     . simp only [V_one, castK, Int.toNat_natCast, List.map_cons, List.map_nil, hd0, box_eta];exact ⟨by omega, by omega⟩
     refine ⟨lpTop (fun _ => tallB (findV bs ((sortT l).getD k Tc.stowed.dflt).box).1) (fun _ => ((sortT l).getD k Tc.stowed.dflt).col) (fun _ => topsM bs ((sortT l).take k)) (fun _ => [(1 : Int), 2]), ?_⟩
     conv => arg 1; cbv
     refine ⟨?_, fun (j : Nat) hj => ?_⟩
     . simp (maxSteps := 4000000) only [P_vc, P_br, P_and, P_fin, V_nil, V_one, V_cons, T_self, castK, succK, Int.toNat_natCast, predK, decide_eq_true_eq, decide_eq_false_iff_not, List.map_cons, List.map_nil, cond_true, cond_false];exact ⟨Nat.zero_le _, rfl, rfl⟩
     have hj' : j <= ([(1 : Int), 2]).length := hj
     conv => arg 1; cbv
     simp (maxSteps := 4000000) only [P_vc, P_br, P_and, P_fin, V_nil, V_one, V_cons, T_self, castK, succK, Int.toNat_natCast, predK, decide_eq_true_eq, decide_eq_false_iff_not, List.map_cons, List.map_nil, cond_true, cond_false];clear g3 g4 hj h9;have hb1 := fun key => bump_bound (c := ((sortT l).getD k Tc.stowed.dflt).col) (tallB_bound (findV bs ((sortT l).getD k Tc.stowed.dflt).box).1) (([(1 : Int), 2]).take j) (topsM bs ((sortT l).take k)) htop key;have hmor := fun h => bump_more (t := tallB (findV bs ((sortT l).getD k Tc.stowed.dflt).box).1) (c := ((sortT l).getD k Tc.stowed.dflt).col) (m := topsM bs ((sortT l).take k)) (hs := [(1 : Int), 2]) (j := j) h;have hmids := midsK_succ s.cols bs (sortT l) k;have htops := topsM_more (bs := bs) hlt;unfold midOf at hmids;unfold topStep at htops;simp only [box_eta];generalize hX : (sortT l).getD k Tc.stowed.dflt = x at *
     generalize hM : topsM bs ((sortT l).take k) = M0 at *
     generalize (findV bs x.box).1 = b at *
     simp only [setM_twice, setM_at, Option.getD_some];refine ⟨fun g6 => ?_, fun g6 => ?_⟩
     . have hs0 : ∀ y ∈ [(1 : Int), 2], 1 <= y /\ y <= 2 := by simp [gh]
       have hs3 : ([(1 : Int), 2]).length <= 2 := by simp
       generalize [(1 : Int), 2] = hs at *
       have h6 : j < hs.length := by omega
       have h7 := hmor h6;have hs1 := hs0 _ (getD_mem Tc.u8.dflt h6);have hs2 : inI64 (hs.getD j Tc.u8.dflt) := ⟨by omega, by omega⟩
       have hs4 : (hs.take j).length <= 2 := by rw [List.length_take]; omega
       have hb2 := hb1 [Kx.i .i64 x.col, Kx.i .i64 (hs.getD j Tc.u8.dflt)];have hb3 : inI64 ((bump (tallB b) x.col M0 (hs.take j) [Kx.i .i64 x.col, Kx.i .i64 (hs.getD j Tc.u8.dflt)]).getD Tc.int.dflt + tallB b) := by
        rw [hd0];exact ⟨by omega, by omega⟩
       obtain ⟨e1, e2, e3, e4, e5⟩ := all_true hb3 (show inI64 ((j : Int) + 1) from ⟨by omega, by omega⟩) (show j + 1 <= hs.length /\ hs.length - (j + 1) < hs.length - j from ⟨by omega, by omega⟩) (show (j : Int) + 1 = ((j + 1 : Nat) : Int) by omega) hs2;simp only [h7, e1, e2, e3, e4, e5, and_self, and_true, true_and];exact ⟨by omega, by omega⟩
     . have hT : ([(1 : Int), 2]).take j = [(1 : Int), 2] := List.take_of_length_le (by omega);have hof : hsOf x.half = [(1 : Int), 2] := by
        unfold hsOf;simp [gh]
       have hmx : midX (s.cols.getD x.col.toNat Tc.col.dflt) x.half = (s.cols.getD x.col.toNat Tc.col.dflt).x := by
        unfold midX;simp [gh]
       rw [hT, htops, hmids, hof, hmx];refine ⟨by rw [midsK_len]; simp only [List.length_cons, List.length_nil]; omega, ⟨by omega, by omega⟩, ⟨by omega, by omega⟩, by omega, rfl, rfl⟩
 . have hge : (sortT l).length <= k := by
    have g3' : decide ((k : Int) < ((sortT l).length : Int)) = false := g3;simp only [decide_eq_false_iff_not] at g3';omega
   have hkk : k = (sortT l).length := by omega
   simp (maxSteps := 4000000) only [P_vc, P_br, P_and, P_fin, V_nil, V_one, V_cons, T_self, castK, succK, Int.toNat_natCast, predK, decide_eq_true_eq, decide_eq_false_iff_not, List.map_cons, List.map_nil, cond_true, cond_false];rw [hc, hkk];exact ⟨rfl, rfl⟩
def midIs (id : Int) (m : Mid) : Bool := decide (m.box.id = id)
def conMidIs : Con := ⟨48, [.agg midSg, .pto [.int .i64]], fun
 | [x0, x1] => (x0.toMid).bind fun m => (x1.toPI).bind fun id => some ⟨fun _ => True, .bool fun _ => midIs (id ()) (m ())⟩
 | _ => none⟩
set_option maxRecDepth 100000 in
set_option maxHeartbeats 4000000 in
theorem conMidIs_ok : ConOk Tryz.prog conMidIs := by
 refine fnOk [] trivial Tryz.func48 (by kernel_rfl) fun avs res h hp => ?_;simp only [conMidIs] at h;split at h
 case h_2 => cases h
 rename_i x0 x1;simp only [Option.bind_eq_some_iff, Option.some.injEq] at h;obtain ⟨m, e0, id, e1, rfl⟩ := h;obtain rfl := AV.toMid_ e0;obtain rfl := AV.toPI_ e1;clear e0 e1;obtain ⟨m, rfl⟩ := eta (α := Mid) m;obtain ⟨id, rfl⟩ := eta (α := Int) id;refine ⟨[], ?_⟩
 conv => arg 1; cbv
 simp (maxSteps := 4000000) only [P_vc, P_br, P_and, P_fin, V_nil, V_one, V_cons, T_self, castK, succK, Int.toNat_natCast, predK, decide_eq_true_eq, decide_eq_false_iff_not, List.map_cons, List.map_nil, cond_true, cond_false];rfl
def conIdxMid : Con := ⟨47, [.sl .mid, .fn [.pto [.int .i64]]], fun
 | [x0, x1] => (x0.toMids).bind fun l => (x1.toFPI 48).bind fun id => some ⟨fun _ => (l ()).length <= 1000000, .int .i64 fun _ => idx (midIs (id ())) (l ())⟩
 | _ => none⟩
def lpIdxMid (l : List Mid) (id : Int) : Lp where
 X := Nat
 ov k := [(8, .int .i64 fun _ => (k : Int))]
 oe _ := []
 I k := k <= l.length /\ ∀ j, j < k -> midIs id (l.getD j Tc.mid.dflt) = false
 μ k _ := l.length - k
 x0 := 0
 nx := some fun k => k + 1
set_option maxRecDepth 100000 in
set_option maxHeartbeats 4000000 in
theorem conIdxMid_ok : ConOk Tryz.prog conIdxMid := by
 refine fnOk [conMidIs] ⟨conMidIs_ok, trivial⟩ Tryz.func47 (by kernel_rfl) fun avs res h hp => ?_;simp only [conIdxMid] at h;split at h
 case h_2 => cases h
 rename_i x0 x1;simp only [Option.bind_eq_some_iff, Option.some.injEq] at h;obtain ⟨l, e0, id, e1, rfl⟩ := h;obtain rfl := AV.toMids_ e0;obtain rfl := AV.toFPI_ e1;clear e0 e1;obtain ⟨l, rfl⟩ := eta (α := List Mid) l;obtain ⟨id, rfl⟩ := eta (α := Int) id;have hl : l.length <= 1000000 := hp;refine ⟨[(2, lpIdxMid l id)], ?_⟩
 conv => arg 1; cbv
 refine ⟨?_, fun (k : Nat) hk => ?_⟩
 . simp (maxSteps := 4000000) only [P_vc, P_br, P_and, P_fin, V_nil, V_one, V_cons, T_self, castK, succK, Int.toNat_natCast, predK, decide_eq_true_eq, decide_eq_false_iff_not, List.map_cons, List.map_nil, cond_true, cond_false];simp
 have hZhk1 : k <= l.length /\ ∀ j, j < k -> midIs id (l.getD j Tc.mid.dflt) = false := hk;have hk1 := hZhk1.1;have hk2 := hZhk1.2
 conv => arg 1; cbv
 simp (maxSteps := 4000000) only [P_vc, P_br, P_and, P_fin, V_nil, V_one, V_cons, T_self, castK, succK, Int.toNat_natCast, predK, decide_eq_true_eq, decide_eq_false_iff_not, List.map_cons, List.map_nil, cond_true, cond_false];refine ⟨fun g => ?_, fun g => (idx_no hk2 (by omega)).symm⟩;have hlt : k < l.length := by omega
 exact ⟨by omega, trivial, fun h => (idx_at hk2 hlt h).symm, fun h => ⟨⟨by omega, by omega⟩, ⟨⟨hlt, upto_more hk2 h⟩, by omega⟩, by omega⟩⟩
def midAt (l : List Mid) (i : Int) : Mid := l.getD i.toNat Tc.mid.dflt
def middleF (s : Shp) (bs : List Box) (l : List Stowed) (id : Int) : Int × Int × Int × Int :=
 cond (cargoB s bs l) (cond (decide (idx (midIs id) (midsL s.cols bs (sortT l)) < 0)) (0, 0, 0, 6)
  ((midAt (midsL s.cols bs (sortT l)) (idx (midIs id) (midsL s.cols bs (sortT l)))).x, (midAt (midsL s.cols bs (sortT l)) (idx (midIs id) (midsL s.cols bs (sortT l)))).y, (midAt (midsL s.cols bs (sortT l)) (idx (midIs id) (midsL s.cols bs (sortT l)))).h, 0)) (0, 0, 0, 2)
def conMiddle : Con := ⟨18, [.agg shipSg, .sl .box, .sl .stowed, .int .i64], fun
 | [x0, x1, x2, x3] => (x0.toShip).bind fun s => (x1.toBoxes).bind fun bs => (x2.toStos).bind fun l => (x3.toI).bind fun id => some ⟨fun _ => shipPre (s ()) /\ boxesPre (bs ()) /\ (l ()).length <= 20, .tup [.int .i64 fun _ => (middleF (s ()) (bs ()) (l ()) (id ())).1, .int .i64 fun _ => (middleF (s ()) (bs ()) (l ()) (id ())).2.1, .int .i64 fun _ => (middleF (s ()) (bs ()) (l ()) (id ())).2.2.1, .int .i64 fun _ => (middleF (s ()) (bs ()) (l ()) (id ())).2.2.2]⟩
 | _ => none⟩
set_option maxRecDepth 100000 in
set_option maxHeartbeats 4000000 in
theorem conMiddle_ok : ConOk Tryz.prog conMiddle := by
 refine fnOk [conMiddles, conIdxMid] ⟨conMiddles_ok, conIdxMid_ok, trivial⟩ Tryz.func18 (by kernel_rfl) fun avs res h hp => ?_;simp only [conMiddle] at h;split at h
 case h_2 => cases h
 rename_i x0 x1 x2 x3;simp only [Option.bind_eq_some_iff, Option.some.injEq] at h;obtain ⟨s, e0, bs, e1, l, e2, id, e3, rfl⟩ := h;obtain rfl := AV.toShip_ e0;obtain rfl := AV.toBoxes_ e1;obtain rfl := AV.toStos_ e2;obtain rfl := AV.toI_ e3;clear e0 e1 e2 e3;obtain ⟨s, rfl⟩ := eta (α := Shp) s;obtain ⟨bs, rfl⟩ := eta (α := List Box) bs;obtain ⟨l, rfl⟩ := eta (α := List Stowed) l;obtain ⟨id, rfl⟩ := eta (α := Int) id;have hZh1 : shipPre s /\ boxesPre bs /\ l.length <= 20 := hp;have h1 := hZh1.1;have h2 := hZh1.2.1;have h3 := hZh1.2.2;refine ⟨[], ?_⟩
 conv => arg 1; cbv
 unfold middleF;have hlen : (midsL s.cols bs (sortT l)).length = l.length := by unfold midsL; rw [midsK_len]; exact (sortT_perm l).length_eq
 have hi := idx_cases (midIs id) (midsL s.cols bs (sortT l));generalize midsL s.cols bs (sortT l) = ms at *
 generalize cargoB s bs l = c at *
 simp (maxSteps := 4000000) only [P_vc, P_br, P_and, P_fin, V_nil, V_one, V_cons, T_self, castK, succK, Int.toNat_natCast, predK, decide_eq_true_eq, decide_eq_false_iff_not, List.map_cons, List.map_nil, cond_true, cond_false];unfold midAt;have e0 : idx (midIs id) ([] : List Mid) = -1 := idx_none fun j h => absurd h (by simp);refine ⟨⟨h1, h2, h3⟩, ?_⟩;clear h1 h2 hp hZh1;have hl6 : ms.length <= 1000000 := by omega
 have hix : idx (midIs id) ms < 0 \/ (0 <= idx (midIs id) ms /\ idx (midIs id) ms < (ms.length : Int)) := by
  rcases hi with ⟨h1, _⟩ | ⟨k, h, h1, _⟩ <;> omega
 cases c with
 | false => simp
 | true =>
  rcases hix with h4 | h4
  . have h5 : ¬ 0 <= idx (midIs id) ms := by omega
    simp [h4, h5, hl6]
  . have h5 : ¬ idx (midIs id) ms < 0 := by omega
    simp [h4, h5, hl6]
def colIs (bay row : Int) (deck : Bool) (c : Col) : Bool := decide (c.bay = bay) && (decide (c.row = row) && decide (c.deck = deck))
def toFBIB (f : FuncId) : AV -> Option (Unit -> Int × Int × Bool)
 | .fn g [.pto [.int .i64 a] 0, .pto [.int .i64 b] 0, .pto [.bool c] 0] => if g = f then some fun _ => (a (), b (), c ()) else none
 | _ => none
def conColIs : Con := ⟨121, [.agg colSg, .pto [.int .i64], .pto [.int .i64], .pto [.bool]], fun
 | [x0, x1, x2, x3] => (x0.toCol).bind fun c => (x1.toPI).bind fun a => (x2.toPI).bind fun b => (x3.toPB).bind fun d => some ⟨fun _ => True, .bool fun _ => colIs (a ()) (b ()) (d ()) (c ())⟩
 | _ => none⟩
set_option maxRecDepth 100000 in
set_option maxHeartbeats 4000000 in
theorem conColIs_ok : ConOk Tryz.prog conColIs := by
 refine fnOk [] trivial Tryz.func121 (by kernel_rfl) fun avs res h hp => ?_;simp only [conColIs] at h;split at h
 case h_2 => cases h
 rename_i x0 x1 x2 x3;simp only [Option.bind_eq_some_iff, Option.some.injEq] at h;obtain ⟨c, e0, a, e1, b, e2, d, e3, rfl⟩ := h;obtain rfl := AV.toCol_ e0;obtain rfl := AV.toPI_ e1;obtain rfl := AV.toPI_ e2;obtain rfl := AV.toPB_ e3;clear e0 e1 e2 e3;obtain ⟨c, rfl⟩ := eta (α := Col) c;obtain ⟨a, rfl⟩ := eta (α := Int) a;obtain ⟨b, rfl⟩ := eta (α := Int) b;obtain ⟨d, rfl⟩ := eta (α := Bool) d;refine ⟨[], ?_⟩
 conv => arg 1; cbv
 simp (maxSteps := 4000000) only [P_vc, P_br, P_and, P_fin, V_nil, V_one, V_cons, T_self, castK, succK, Int.toNat_natCast, predK, decide_eq_true_eq, decide_eq_false_iff_not, List.map_cons, List.map_nil, cond_true, cond_false];unfold colIs;grind
def placesK {α : Type} (p : α -> Bool) (d : α) (l : List α) (k : Nat) : List Int := ((List.range k).filter fun j => p (l.getD j d)).map fun (j : Nat) => (j : Int)
theorem placesK_succ {α : Type} (p : α -> Bool) (d : α) (l : List α) (k : Nat) : placesK p d l (k + 1) = placesK p d l k ++ cond (p (l.getD k d)) [(k : Int)] [] := by
 unfold placesK;rw [List.range_succ, List.filter_append, List.map_append];congr 1;cases h : p (l.getD k d) <;> simp [h, -List.getD_eq_getElem?_getD]
theorem placesK_len {α : Type} (p : α -> Bool) (d : α) (l : List α) (k : Nat) : (placesK p d l k).length <= k := by
 unfold placesK;rw [List.length_map];exact Nat.le_trans (List.length_filter_le _ _) (by simp)
def conChosen : Con := ⟨120, [.sl .col, .fn [.pto [.int .i64], .pto [.int .i64], .pto [.bool]]], fun
 | [x0, .fn g [.pto [.int .i64 a] 0, .pto [.int .i64 b] 0, .pto [.bool d] 0]] => (x0.toCols).bind fun l => if g = 121 then some ⟨fun _ => (l ()).length <= 1000000, .sl true .int fun _ => placesK (colIs (a ()) (b ()) (d ())) Tc.col.dflt (l ()) (l ()).length⟩ else none
 | _ => none⟩
def lpChosen (l : List Col) (p : Col -> Bool) : Lp where
 X := Nat
 ov k := [(10, .int .i64 fun _ => (k : Int)), (5, .own 0)]
 oe k := [(0, .row true .int 3 fun _ => placesK p Tc.col.dflt l k)]
 I k := k <= l.length
 μ k _ := l.length - k
 x0 := 0
 nx := some fun k => k + 1
set_option maxRecDepth 100000 in
set_option maxHeartbeats 4000000 in
theorem conChosen_ok : ConOk Tryz.prog conChosen := by
 refine fnOk [conColIs] ⟨conColIs_ok, trivial⟩ Tryz.func120 (by kernel_rfl) fun avs res h hp => ?_;simp only [conChosen] at h;split at h
 case h_2 => cases h
 rename_i x0 g a b d;simp only [Option.bind_eq_some_iff] at h;obtain ⟨l, e0, h⟩ := h;split at h
 case isFalse => cases h
 rename_i hg;subst hg;cases h;obtain rfl := AV.toCols_ e0;clear e0;obtain ⟨l, rfl⟩ := eta (α := List Col) l;obtain ⟨a, rfl⟩ := eta (α := Int) a;obtain ⟨b, rfl⟩ := eta (α := Int) b;obtain ⟨d, rfl⟩ := eta (α := Bool) d;have hl : l.length <= 1000000 := hp;refine nameIt (colIs a b d) fun p hpp => ?_;refine ⟨[(3, lpChosen l p)], ?_⟩
 conv => arg 1; cbv
 refine ⟨?_, fun (k : Nat) hk => ?_⟩
 . simp (maxSteps := 4000000) only [P_vc, P_br, P_and, P_fin, V_nil, V_one, V_cons, T_self, castK, succK, Int.toNat_natCast, predK, decide_eq_true_eq, decide_eq_false_iff_not, List.map_cons, List.map_nil, cond_true, cond_false];exact ⟨Nat.zero_le _, rfl, rfl⟩
 have hk' : k <= l.length := hk
 conv => arg 1; cbv
 simp (maxSteps := 4000000) only [P_vc, P_br, P_and, P_fin, V_nil, V_one, V_cons, T_self, castK, succK, Int.toNat_natCast, predK, decide_eq_true_eq, decide_eq_false_iff_not, List.map_cons, List.map_nil, cond_true, cond_false];simp only [hpp, col_eta];have hlen := placesK_len p Tc.col.dflt l k;have hsu := placesK_succ p Tc.col.dflt l k;refine ⟨fun g1 => ?_, fun g1 => ?_⟩
 . have hlt : k < l.length := by omega
   refine ⟨by omega, trivial, fun h => ?_, fun h => ?_⟩
   . rw [h, cond_true] at hsu;exact ⟨by simp only [List.length_cons, List.length_nil]; omega, ⟨by omega, by omega⟩, ⟨hlt, by omega⟩, by omega, hsu.symm⟩
   . rw [h, cond_false, List.append_nil] at hsu;exact ⟨⟨by omega, by omega⟩, ⟨hlt, by omega⟩, by omega, hsu.symm⟩
 . rw [show k = l.length by omega]
def findC (cs : List Col) (a b : Int) (d : Bool) : List Int := placesK (colIs a b d) Tc.col.dflt cs cs.length
def conFindCol : Con := ⟨80, [.agg shipSg, .int .i64, .int .i64, .bool], fun
 | [x0, x1, x2, x3] => (x0.toShip).bind fun s => (x1.toI).bind fun a => (x2.toI).bind fun b => (x3.toB).bind fun d => some ⟨fun _ => (s ()).cols.length <= 1000000, .tup [.int .i64 fun _ => (findC (s ()).cols (a ()) (b ()) (d ())).headD 0, .bool fun _ => !(findC (s ()).cols (a ()) (b ()) (d ())).isEmpty]⟩
 | _ => none⟩
set_option maxRecDepth 100000 in
set_option maxHeartbeats 4000000 in
theorem conFindCol_ok : ConOk Tryz.prog conFindCol := by
 refine fnOk [conChosen] ⟨conChosen_ok, trivial⟩ Tryz.func80 (by kernel_rfl) fun avs res h hp => ?_;simp only [conFindCol] at h;split at h
 case h_2 => cases h
 rename_i x0 x1 x2 x3;simp only [Option.bind_eq_some_iff, Option.some.injEq] at h;obtain ⟨s, e0, a, e1, b, e2, d, e3, rfl⟩ := h;obtain rfl := AV.toShip_ e0;obtain rfl := AV.toI_ e1;obtain rfl := AV.toI_ e2;obtain rfl := AV.toB_ e3;clear e0 e1 e2 e3;obtain ⟨s, rfl⟩ := eta (α := Shp) s;obtain ⟨a, rfl⟩ := eta (α := Int) a;obtain ⟨b, rfl⟩ := eta (α := Int) b;obtain ⟨d, rfl⟩ := eta (α := Bool) d;have hl : s.cols.length <= 1000000 := hp;refine ⟨[], ?_⟩
 conv => arg 1; cbv
 refine nameIt (findC s.cols a b d) fun L hL => ?_;simp (maxSteps := 4000000) only [P_vc, P_br, P_and, P_fin, V_nil, V_one, V_cons, T_self, castK, succK, Int.toNat_natCast, predK, decide_eq_true_eq, decide_eq_false_iff_not, List.map_cons, List.map_nil, cond_true, cond_false];have hL' : placesK (colIs a b d) Tc.col.dflt s.cols s.cols.length = L := hL;simp only [hL', hL]
 cases L with
 | nil => simp [hl]
 | cons x L => simp [hl]; omega
def hvL (c t : Nat) (sz : Int) : List Slot := (halvesF sz).map fun h => ⟨(c : Int), (t : Int), h⟩
def tierL (c : Nat) (sz : Int) : Nat -> List Slot
 | 0 => []
 | t + 1 => tierL c sz t ++ hvL c t sz
def slotL (ts : List Int) (sz : Int) : Nat -> List Slot
 | 0 => []
 | c + 1 => slotL ts sz c ++ tierL c sz (ts.getD c 0).toNat
theorem hvL_len (c t : Nat) (sz : Int) : (hvL c t sz).length = (halvesF sz).length := by simp [hvL]
theorem tierL_len (c : Nat) (sz : Int) : ∀ t, (tierL c sz t).length <= 2 * t
 | 0 => Nat.le_refl _
 | t + 1 => by
  unfold tierL;rw [List.length_append, hvL_len];have := tierL_len c sz t;have := halvesF_len sz;omega
theorem slotL_len (ts : List Int) (sz : Int) (hts : ∀ t ∈ ts, t <= 1000) : ∀ c, (slotL ts sz c).length <= 2000 * c
 | 0 => Nat.le_refl _
 | c + 1 => by
  unfold slotL;rw [List.length_append];have h1 := slotL_len ts sz hts c;have h2 := tierL_len c sz (ts.getD c 0).toNat;have h3 : (ts.getD c 0).toNat <= 1000 := by
   by_cases hc : c < ts.length
   . have := hts _ (getD_mem 0 hc);omega
   . rw [List.getD_eq_getElem?_getD, List.getElem?_eq_none (by omega)];simp
  omega
theorem tierL_more (c t : Nat) (sz : Int) {h : Nat} (hh : h < (halvesF sz).length) : tierL c sz t ++ (hvL c t sz).take h ++ [⟨(c : Int), (t : Int), (halvesF sz).getD h 0⟩] = tierL c sz t ++ (hvL c t sz).take (h + 1) := by
 rw [List.append_assoc];congr 1;rw [List.take_add_one, hvL, List.getElem?_map, List.getElem?_eq_getElem hh, List.getD_eq_getElem?_getD, List.getElem?_eq_getElem hh];rfl
theorem slot_halvesB (size : Int) (w : World) : Calls Tryz.prog 152 #[.int .u8 size] w fun e w' => ∃ A c, e = .returned (.slice A (halvesF size).length c) /\ Rd w' w'.heap.size 1 A ((halvesF size).map u8Row) /\ (∀ a, A = some a -> ∃ cur, w'.heap[a.block]? = some (.cells cur 5 (0, 0))) /\ From w w' := by
 by_cases h4 : size = 40
 . subst h4
   go_enter Tryz.func152, Tryz.ntmps152
   go_wp2
   go_ret
   exact ⟨_, _, rfl, Rd.rows (css := [[.int .u8 0]]) (heap_alloc_new w _) rfl (by simp), fun a e => by cases e; exact ⟨_, heap_alloc_new w _⟩, (Below.refl _ _).alloc (Nat.le_refl _) _⟩
 . by_cases h2 : size = 20
   . subst h2
     go_enter Tryz.func152, Tryz.ntmps152
     go_wp2
     go_ret
     exact ⟨_, _, rfl, Rd.rows (css := [[.int .u8 1], [.int .u8 2]]) (heap_alloc_new w _) rfl (by simp), fun a e => by cases e; exact ⟨_, heap_alloc_new w _⟩, (Below.refl _ _).alloc (Nat.le_refl _) _⟩
   . have e : halvesF size = [] := by unfold halvesF; rw [if_neg h4, if_neg h2]
     have h4' : (size == 40) = false := by simpa using h4
     have h2' : (size == 20) = false := by simpa using h2
     rw [e]
     go_enter Tryz.func152, Tryz.ntmps152
     go_wp2
     go_ret
     exact ⟨none, 0, rfl, Rd.nil _ _ _ _, (fun a e => nomatch e), Below.refl _ _⟩
theorem slots_in (v : Value) (vs : Array Value) (hv : v = .agg vs) (sz : Int) (w : World) : Calls Tryz.prog 122 #[v, .int .u8 sz] w fun e w' => e = .returned (.func (.func 151) #[] #[.pointer (some ⟨w.heap.size, 0, none⟩), .pointer (some ⟨w.heap.size + 1, 0, none⟩)]) /\ w' = (w.alloc (.cells vs 32 (0, 0))).alloc (.cells #[.int .u8 sz] 5 (0, 0)) := by
 subst hv
 go_enter Tryz.func122, Tryz.ntmps122
 go_wp2
 go_ret
 exact ⟨rfl, rfl⟩
open Go.Shelf
attribute [local go_sem] Oper.semAt_some
def sloVals (x : Slot) : Array Value := #[x.val]
def SloKp (n0 : Nat) (W W' : World) : Prop := Below n0 W W' /\ ∀ (b : Nat) cur, W.heap[b]? = some (.cells cur 5 (0, 0)) -> W'.heap[b]? = some (.cells cur 5 (0, 0))
theorem SloKp.trans {n0 : Nat} {A B C : World} (h : SloKp n0 A B) (k : SloKp n0 B C) : SloKp n0 A C := ⟨h.1.trans k.1, fun b cur hb => k.2 b cur (h.2 b cur hb)⟩
theorem SloKp.from {n0 : Nat} {A B : World} (h : From A B) (hn : n0 <= A.heap.size) : SloKp n0 A B := ⟨h.mono hn, fun b cur hb => (h.block b (Array.getElem?_eq_some_iff.1 hb).1).trans hb⟩
theorem colRow12 : IsRow Tryz.prog 47 12 := ⟨_, Tryz.underlying47, by kernel_rfl, by kernel_rfl⟩
theorem col_size12 : (Tryz.prog.info? 47).map (·.size) = some 12 := by kernel_rfl
theorem grow_of_from {A B : World} (h : From A B) : A.grownBy B none := ⟨h.os, h.tape, h.output, h.size, fun k hk _ => h.block k hk⟩
set_option maxRecDepth 100000 in
set_option maxHeartbeats 2000000 in
theorem slots_told (n0 Bs Bz nc cc : Nat) (A : Option Addr) (sz : Int) (css : List (List Value)) (ts : List Int) (w : World) (hn0 : n0 <= w.heap.size) (hs : w.cell? ⟨Bs, 0, none⟩ = some (.slice A nc cc)) (hbs : Bs < w.heap.size) (hz : w.heap[Bz]? = some (.cells #[.int .u8 sz] 5 (0, 0)))
 (hrd : Rd w n0 12 A css) (hlc : css.length = nc) (hlt : ts.length = nc) (hnc : nc <= 1000) (hts : ∀ t ∈ ts, 0 <= t /\ t <= 1000) (hone : ∀ cs ∈ css, ∀ u ∈ cs, u.oneCell' = true) (hcs : ∀ k cs, css[k]? = some cs -> ∃ v0 v1 v2 v4 v5 v6 v7 v8 v9 v10 v11 : Value, cs = [v0, v1, v2, .int .i64 (ts.getD k 0), v4, v5, v6, v7, v8, v9, v10, v11]) :
 SeqStopsK Fence.wide 2 Tryz.prog 151 #[.pointer (some ⟨Bs, 0, none⟩), .pointer (some ⟨Bz, 0, none⟩)] sloVals (SloKp n0) (fun xs => xs = slotL ts sz nc) (fun _ => True) 3000000 w := fun lp J Jx W hW hJ hJx hY h0 => by
 refine callsIn_of_wp Tryz.func151 rfl trivial ?_ rfl;simp only [Tryz.ntmps151, List.size_toArray, List.length_cons, List.length_nil, Nat.reduceAdd, Nat.reduceSub, Array.replicate_succ, Array.replicate_zero, List.push_toArray, List.append_toArray, List.nil_append, List.cons_append];have hJF : ∀ pre W1 W2, J pre W1 -> From W1 W2 -> J pre W2 := fun pre W1 W2 h1 h2 => hJ pre W1 W2 none h1 (grow_of_from h2) (fun r e => nomatch e);have hs1 : W.cell? ⟨Bs, 0, none⟩ = some (.slice A nc cc) := (hW.cell (p := ⟨Bs, 0, none⟩) hbs).trans hs;have hz1 : W.heap[Bz]? = some (.cells #[.int .u8 sz] 5 (0, 0)) := (hW.block Bz (Array.getElem?_eq_some_iff.1 hz).1).trans hz;have hrd1 : Rd W n0 12 A css := hrd.below (hW.mono hn0) (Nat.le_refl _);have hn1 : n0 <= W.heap.size := Nat.le_trans hn0 hW.size;clear hs hz hrd hW;refine wpIn_wide.2 ?_
 go_wp2
 go_loopw [12] (fun cv wr => ∃ c : Nat, c <= nc /\ cv = .int .i64 c /\ J (slotL ts sz c) wr /\ SloKp n0 W wr /\ W.heap.size <= wr.heap.size) (fun cv _ => nc - (intOf cv).toNat)
 case atStart => exact ⟨0, Nat.zero_le _, rfl, h0, ⟨Below.refl _ _, fun b cur h => h⟩, Nat.le_refl _⟩
 case round =>
  obtain ⟨c, hc, rfl, hJc, hK, hsz⟩ := hrel;by_cases hlt1 : c = nc
  . subst hlt1;clear hY
    go_wp2
    go_end0
    exact ⟨⟨_, rfl⟩, .inl ⟨_, rfl, hJc⟩⟩
  . have hlt2 : (c : Int) < (nc : Int) := by omega
    have hcc : c < css.length := by omega
    obtain ⟨v0, v1, v2, v4, v5, v6, v7, v8, v9, v10, v11, hcv⟩ := hcs c css[c] (List.getElem?_eq_getElem hcc);obtain ⟨g, off, rfl, hg, HLD0⟩ := Rd.ld colRow12 hrd1 (List.getElem?_eq_getElem hcc);have HLD := HLD0 wr hK.1;rw [hcv] at HLD;have htc := hts (ts.getD c 0) (getD_mem 0 (by omega));have hsu : slotL ts sz (c + 1) = slotL ts sz c ++ tierL c sz (ts.getD c 0).toNat := rfl;obtain ⟨T, hT⟩ : ∃ T : Nat, ts.getD c 0 = (T : Int) := ⟨(ts.getD c 0).toNat, by omega⟩
    rw [hT] at HLD hsu htc;clear hcs HLD0;have HM0 := Lib.hid ((Mem.nil wr).alloc 47 [.int .i64 0, .int .i64 0, .bool false, .int .i64 0, .int .i64 0, .int .i64 0, .int .i64 0, .int .i64 0, .slice none 0 0, .int .i64 0, .int .i64 0, .int .i64 0]);have h1c := hone _ (List.getElem_mem hcc);rw [hcv] at h1c;rw [hT] at h1c
    go_wp2_with (first
     | ((with_reducible refine g_ld 47 ?_); refine wpList_ld rfl _ _ rfl _ rfl _ HLD ?_)
     | ((with_reducible refine g_st 47 ?_); refine wpList_stB (cs' := [v0, v1, v2, .int .i64 T, v4, v5, v6, v7, v8, v9, v10, v11]) rfl _ _ rfl HM0.out 0 rfl rfl rfl col_size12 rfl rfl rfl h1c ?_; intro w6 h6; have HM1 := Lib.hid h6; clear h6)
     | ((with_reducible refine g_ld 3 ?_); refine wpList_ld rfl _ _ rfl _ rfl _ (HM1.out.ldc ct3 (i := 0) rfl rfl _ (Below.refl _ _)) ?_))
    have hf1 : From wr w6 := HM1.out.from_;have hJ6 := hJF _ _ _ hJc hf1;have hK6 := hK.trans (SloKp.from hf1 (Nat.le_trans hn1 hsz));have hs6 : W.heap.size <= w6.heap.size := Nat.le_trans hsz hf1.size;clear HM1 HM0 HLD h1c hf1 hone hrd1
    go_loopw [20] (fun tv wq => ∃ t : Nat, t <= T /\ tv = .int .i64 t /\ J (slotL ts sz c ++ tierL c sz t) wq /\ SloKp n0 W wq /\ W.heap.size <= wq.heap.size) (fun tv _ => T - (intOf tv).toNat)
    case atStart => exact ⟨0, Nat.zero_le _, rfl, by rw [show tierL c sz 0 = [] from rfl, List.append_nil]; exact hJ6, hK6, hs6⟩
    case round =>
     obtain ⟨t, ht, rfl, hJt, hKt, hst⟩ := hrel;by_cases hlt3 : t = T
     . subst hlt3;clear hY
       go_wp2
       go_roundw
       case rel => exact ⟨c + 1, by omega, by simp, by rw [hsu]; simpa using hJt, hKt, hst⟩
       case measure => simp [intOf]; omega
     . have hlt4 : (t : Int) < (T : Int) := by omega
       have hzc : wr.cell? ⟨Bz, 0, none⟩ = some (.int .u8 sz) := by
        have := hKt.2 Bz _ hz1;simp [World.cell?, this]
       have hsv : tierL c sz (t + 1) = tierL c sz t ++ hvL c t sz := rfl
       go_wp2_with (go_at_call 152; refine (slot_halvesB sz _).mono ?_; rintro e w7 ⟨A2, c2, rfl, hr7, hb7, hf7⟩)
       have hJ7 := hJF _ _ _ hJt hf7;have hn2 : n0 <= wr.heap.size := Nat.le_trans hn1 hst;have hK7 := hKt.trans (SloKp.from hf7 hn2);have hs7 : W.heap.size <= w7.heap.size := Nat.le_trans hst hf7.size;obtain ⟨H, hH⟩ : ∃ H, H = (halvesF sz).length := ⟨_, rfl⟩
       have hH2 : H <= 2 := by rw [hH]; exact halvesF_len sz
       rw [<- hH];have hcl := slotL_len ts sz (fun t h => (hts t h).2) c;have htl := tierL_len c sz t;clear hzc hKt hJt hf7 hst hn2
       go_loopw [26] (fun hv wh => ∃ h : Nat, h <= H /\ hv = .int .i64 h /\ J (slotL ts sz c ++ (tierL c sz t ++ (hvL c t sz).take h)) wh /\ SloKp n0 W wh /\ W.heap.size <= wh.heap.size /\ SloKp n0 w7 wh) (fun hv _ => H - (intOf hv).toNat)
       case atStart => exact ⟨0, Nat.zero_le _, rfl, by rw [List.take_zero, List.append_nil]; exact hJ7, hK7, hs7, ⟨Below.refl _ _, fun b cur h => h⟩⟩
       case round =>
        obtain ⟨h, hh, rfl, hJh, hKh, hsh, hk7⟩ := hrel;by_cases hlt5 : h = H
        . have hfull : (hvL c t sz).take h = hvL c t sz := List.take_of_length_le (by rw [hvL_len]; omega);rw [hfull, <- hsv] at hJh;subst hlt5;clear hY
          go_wp2
          go_roundw
          case rel => exact ⟨t + 1, by omega, by simp, hJh, hKh, hsh⟩
          case measure => simp [intOf]; omega
        . have hlt6 : (h : Int) < (H : Int) := by omega
          have hhl : h < (halvesF sz).length := by omega
          obtain ⟨g2, o2, hA2, hg2, _, hcell⟩ := hr7 h _ (by rw [List.getElem?_map, List.getElem?_eq_getElem hhl]; rfl);obtain ⟨x, hx⟩ : ∃ x, x = (halvesF sz).getD h 0 := ⟨_, rfl⟩
          subst hA2;obtain ⟨cur, hcur⟩ := hb7 _ rfl;have hcx : wr.cell? ⟨g2, o2 + h, none⟩ = some (.int .u8 x) := by
           have h1 := hcell 0 _ rfl;have h2 := hk7.2 g2 cur hcur;rw [cell_same (w := w7) (w' := wr) (by rw [h2]; exact hcur.symm)];rw [hx, List.getD_eq_getElem?_getD, List.getElem?_eq_getElem hhl];simpa using h1
          have hmore := tierL_more c t sz hhl;rw [<- hx] at hmore;obtain ⟨fn, tmps, assign, body, hy, hR⟩ := hY _ ⟨(c : Int), (t : Int), x⟩ wr hJh (by
           rw [List.length_append, List.length_append, List.length_take, hvL_len]
           omega)
          unfold sloVals Slot.val at hy;clear hY hJF hcell hr7 hb7 hx hH
          go_upto_region 9 with fail
          refine (wpIn_wide (n := 2)).1 ?_
          gi_wp2
          refine hR.mono ?_
          rintro e W3 (⟨rfl, hJ3, hk3⟩ | ⟨rfl, hJx3⟩)
          . rw [List.append_assoc, hmore] at hJ3;clear hJx hJ hJh hR hy
            gi_wp2
            go_wp2
            go_roundw
            case rel => exact ⟨h + 1, by omega, by simp, hJ3, hKh.trans hk3, Nat.le_trans hsh hk3.1.size, hk7.trans hk3⟩
            case measure => simp [intOf]; omega
          . clear hJx hJ hJh hR hy
            gi_wp2
            go_wp2
            refine bodyPost_ret (results_none rfl _ _ _) rfl ?_;exact ⟨⟨_, rfl⟩, .inr ⟨_, trivial, hJx3⟩⟩
end Go.Proofs.YtfdjcakgolenbaaGreat
