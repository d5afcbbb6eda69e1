/-
  twistlocklaw09.Loaded: boxes that are dropped into a ship.
-/
import Derived.Test.YtfdjcakgolenbaaGreatMu42
set_option linter.unusedVariables false
set_option linter.unusedSimpArgs false
namespace Go.Proofs.YtfdjcakgolenbaaGreat
open Go.RowKit
def drpOk (d : Drp) : Prop := (0 ≤ d.col ∧ d.col ≤ 255) ∧ 0 ≤ d.kilos ∧ d.kilos ≤ 255
def dropB (i : Nat) (d : Drp) : Box := ⟨5 * ((i : Int) + 1), noText, cond d.small 20 40, cond d.small false d.high, 1000 + 100 * d.kilos, 0, 1, 0, false⟩
def boxesK (l : List Drp) (k : Nat) : List Box := (List.range k).map fun i => dropB i (l.getD i Tc.drp.dflt)
def stoAt (id : Int) (x : Slot) : Stowed := ⟨id, x.col, x.tier, x.half⟩
def dropOk (s : Shp) (bs : List Box) (st : List Stowed) (id c : Int) (x : Slot) : Bool := decide (x.col = c.tmod (s.cols.length : Int)) && stowB s bs (st ++ [stoAt id x])
def stateK (s : Shp) (l : List Drp) : Nat → List Stowed
 | 0 => []
 | k + 1 => match (allF s.cols (dropB k (l.getD k Tc.drp.dflt)).size).find? (dropOk s (boxesK l (k + 1)) (stateK s l k) (5 * ((k : Int) + 1)) (l.getD k Tc.drp.dflt).col) with
  | some x => stateK s l k ++ [stoAt (5 * ((k : Int) + 1)) x]
  | none => stateK s l k
theorem boxesK_succ (l : List Drp) (k : Nat) : boxesK l (k + 1) = boxesK l k ++ [dropB k (l.getD k Tc.drp.dflt)] := by
 unfold boxesK
 rw [List.range_succ, List.map_append]
 rfl
theorem boxesK_len (l : List Drp) (k : Nat) : (boxesK l k).length = k := by simp [boxesK]
theorem stateK_len (s : Shp) (l : List Drp) : ∀ k, (stateK s l k).length ≤ k
 | 0 => Nat.le_refl _
 | k + 1 => by
  unfold stateK
  have := stateK_len s l k
  split
  · rw [List.length_append]
    simp only [List.length_cons, List.length_nil]
    omega
  · omega
theorem allF_len {cs : List Col} {sz : Int} (h1 : cs.length ≤ 1000) (h2 : ∀ c ∈ cs, 0 ≤ c.tiers ∧ c.tiers ≤ 1000) : (allF cs sz).length ≤ 2000000 := by
 have := slotL_len (cs.map (·.tiers)) sz (fun t ht => by
  obtain ⟨c, hc, rfl⟩ := List.mem_map.1 ht
  exact (h2 c hc).2) cs.length
 unfold allF
 omega
theorem find_at {α : Type} {p : α → Bool} {l : List α} {j : Nat} (d : α) (h : (l.take j).all (fun x => !p x) = true) (hj : j < l.length) (hp : p (l.getD j d) = true) : l.find? p = some (l.getD j d) := by
 have e : l.getD j d = l[j] := by rw [List.getD_eq_getElem?_getD, List.getElem?_eq_getElem hj]; rfl
 rw [e] at hp ⊢
 have h1 : (l.take j).find? p = none := by
  rw [List.find?_eq_none]
  intro x hx hpx
  have := List.all_eq_true.1 h x hx
  rw [hpx] at this
  cases this
 rw [show l.find? p = (l.take j ++ l.drop j).find? p from by rw [List.take_append_drop], List.find?_append, h1, List.drop_eq_getElem_cons hj, List.find?_cons, hp]
 rfl
theorem find_end {α : Type} {p : α → Bool} {l : List α} {j : Nat} (h : (l.take j).all (fun x => !p x) = true) (hj : l.length ≤ j) : l.find? p = none := by
 rw [List.take_of_length_le hj] at h
 rw [List.find?_eq_none]
 intro x hx hpx
 have := List.all_eq_true.1 h x hx
 rw [hpx] at this
 cases this
theorem shp_eta (s : Shp) : (⟨s.cols, s.covs, s.lk, s.lx, s.ly, s.lz, s.rows, s.frms, s.tnks, s.m1, s.m2, s.m3, s.m4⟩ : Shp) = s := rfl
def lpLd1 (s : Shp) (l : List Drp) (m : Nat) : Lp where
 X := Nat
 ov k := [(23, .int .i64 fun _ => (k : Int)), (8, .own 1), (9, .sl true .stowed fun _ => stateK s l k)]
 oe k := [(1, .row true .box 44 fun _ => boxesK l k)]
 I k := k ≤ m
 μ k _ := m - k
 x0 := 0
 nx := some fun k => k + 1
def lpLd2 (xs : List Slot) (st : List Stowed) (p : Slot → Bool) : Lp where
 X := Nat
 ov j := [(52, .int .i64 fun _ => (j : Int)), (9, .sl true .stowed fun _ => st)]
 oe j := []
 I j := j ≤ xs.length ∧ (xs.take j).all (fun x => !p x) = true
 μ j _ := xs.length - j
 x0 := 0
 nx := some fun j => j + 1
def conLoaded : Con := ⟨43, [.agg shipSg, .sl .drp, .int .i64], fun
 | [x0, x1, x2] => (x0.toShip).bind fun s => (x1.toDrps).bind fun l => (x2.toI).bind fun most => some ⟨fun _ => (shipPre (s ()) ∧ (s ()).cols ≠ [] ∧ (s ()).cols.length ≤ 1000 ∧ ∀ c ∈ (s ()).cols, 0 ≤ c.tiers ∧ c.tiers ≤ 1000) ∧ (∀ d ∈ l (), drpOk d) ∧ (0 ≤ most () ∧ most () ≤ 1000) ∧ (l ()).length ≤ 140737488351232, .tup [.sl true .box fun _ => boxesK (l ()) (min (l ()).length (most ()).toNat), .sl true .stowed fun _ => stateK (s ()) (l ()) (min (l ()).length (most ()).toNat)]⟩
 | _ => none⟩
set_option maxRecDepth 100000 in
set_option maxHeartbeats 4000000 in
theorem conLoaded_ok : ConOk Tryz.prog conLoaded := by
 refine fnOkO { fz := [(15, [6, 7])], kp := [(10, [23, 8, 9, 11, 12]), (13, [52, 9, 14]), (14, [52, 9, 14, 15]), (15, [15])], sc := [(13, schList [1, 3] (.alt (.op 0 (.alt (.op 2 (.alt (schList [4, 5, 6, 7, 8, 9] .nil) (schList [5, 4, 6, 7, 8, 9] .nil))) (.alt (.op 4 (.alt (schList [2, 5, 6, 7, 8, 9] .nil) (.op 5 (.alt (schList [2, 6, 7, 8, 9] .nil) (.op 6 (.alt (schList [2, 7, 8, 9] .nil) (schList [7, 2, 8, 9] .nil))))))) (.op 5 (.alt (schList [2, 4, 6, 7, 8, 9] .nil) (.op 4 (.alt (schList [2, 6, 7, 8, 9] .nil) (.op 6 (.alt (schList [2, 7, 8, 9] .nil) (schList [7, 2, 8, 9] .nil)))))))))) (.alt (.op 4 (.alt (.op 0 (.alt (schList [2, 5, 6, 7, 8, 9] .nil) (.op 5 (.alt (schList [2, 6, 7, 8, 9] .nil) (.op 6 (.alt (schList [2, 7, 8, 9] .nil) (schList [7, 2, 8, 9] .nil))))))) (.op 5 (.alt (.op 0 (.alt (schList [2, 6, 7, 8, 9] .nil) (.op 6 (.alt (schList [2, 7, 8, 9] .nil) (schList [7, 2, 8, 9] .nil))))) (.op 6 (.alt (.op 0 (.alt (schList [2, 7, 8, 9] .nil) (schList [7, 2, 8, 9] .nil))) (schList [7, 0, 2, 8, 9] .nil))))))) (.op 5 (.alt (.op 0 (.alt (schList [2, 4, 6, 7, 8, 9] .nil) (.op 4 (.alt (schList [2, 6, 7, 8, 9] .nil) (.op 6 (.alt (schList [2, 7, 8, 9] .nil) (schList [7, 2, 8, 9] .nil))))))) (.op 4 (.alt (.op 0 (.alt (schList [2, 6, 7, 8, 9] .nil) (.op 6 (.alt (schList [2, 7, 8, 9] .nil) (schList [7, 2, 8, 9] .nil))))) (.op 6 (.alt (.op 0 (.alt (schList [2, 7, 8, 9] .nil) (schList [7, 2, 8, 9] .nil))) (schList [7, 0, 2, 8, 9] .nil)))))))))), (14, schList [0, 1, 2, 3, 4, 5, 6, 7, 8, 9, 10, 11, 12, 13, 14, 15] .nil)] } [conAll, conStowRight] ⟨conAll_ok, conStowRight_ok, trivial⟩ [] trivial Tryz.func43 (by kernel_rfl) fun avs res h hp => ?_
 simp only [conLoaded] at h
 split at h
 case h_2 => cases h
 rename_i x0 x1 x2
 simp only [Option.bind_eq_some_iff, Option.some.injEq] at h
 obtain ⟨s, e0, l, e1, most, e2, rfl⟩ := h
 obtain rfl := AV.toShip_ e0
 obtain rfl := AV.toDrps_ e1
 obtain rfl := AV.toI_ e2
 clear e0 e1 e2
 obtain ⟨s, rfl⟩ := eta (α := Shp) s
 obtain ⟨l, rfl⟩ := eta (α := List Drp) l
 obtain ⟨most, rfl⟩ := eta (α := Int) most
 have hZhs : (shipPre s ∧ s.cols ≠ [] ∧ s.cols.length ≤ 1000 ∧ ∀ c ∈ s.cols, 0 ≤ c.tiers ∧ c.tiers ≤ 1000) ∧ (∀ d ∈ l, drpOk d) ∧ (0 ≤ most ∧ most ≤ 1000) ∧ l.length ≤ 140737488351232 := hp
 have hs := hZhs.1
 have hw := hZhs.2.1
 have hm0 := hZhs.2.2.1
 have hl := hZhs.2.2.2
 refine nameIt (min l.length most.toNat) fun m hm => ?_
 refine ⟨[(4, lpLd1 s l m)], ?_⟩
 have hmin : (bif decide (most < (l.length : Int)) then most else (l.length : Int)) = (m : Int) := by
  by_cases h : most < (l.length : Int)
  · rw [decide_eq_true h, cond_true]; omega
  · rw [decide_eq_false h, cond_false]; omega
 conv => arg 1; cbv
 simp (maxSteps := 4000000) only [P_vc, P_br, P_and, P_fin, V_nil, V_one, V_cons, T_self, castK, succK, Int.toNat_natCast, predK, decide_eq_true_eq, decide_eq_false_iff_not, List.map_cons, List.map_nil, cond_true, cond_false]
 refine ⟨by rw [hmin]; omega, ⟨Nat.zero_le _, rfl, rfl, rfl⟩, fun (k : Nat) hk => ?_⟩
 have hk' : k ≤ m := hk
 conv => arg 1; cbv
 simp (maxSteps := 4000000) only [P_vc, P_br, P_and, P_fin, V_nil, V_one, V_cons, T_self, castK, succK, Int.toNat_natCast, predK, decide_eq_true_eq, decide_eq_false_iff_not, List.map_cons, List.map_nil, cond_true, cond_false]
 simp only [hmin, Int.toNat_natCast]
 refine ⟨fun g => ?_, fun g => ?_⟩
 · have hkm : k < m := by omega
   have hq := hw _ (getD_mem Tc.drp.dflt (show k < l.length by omega))
   have hbs := boxesK_succ l k
   have hbl := boxesK_len l k
   have hsl := stateK_len s l k
   have hss : stateK s l (k + 1) = match (allF s.cols (dropB k (l.getD k Tc.drp.dflt)).size).find? (dropOk s (boxesK l (k + 1)) (stateK s l k) (5 * ((k : Int) + 1)) (l.getD k Tc.drp.dflt).col) with
    | some x => stateK s l k ++ [stoAt (5 * ((k : Int) + 1)) x]
    | none => stateK s l k := rfl
   generalize l.getD k Tc.drp.dflt = d at hq hbs hss ⊢
   obtain ⟨dc, dk, dsm, dhi⟩ := d
   obtain ⟨⟨hc1, hc2⟩, hk1, hk2⟩ : (0 ≤ dc ∧ dc ≤ 255) ∧ 0 ≤ dk ∧ dk ≤ 255 := hq
   refine ⟨⟨by omega, by omega⟩, by simp only [inI64]; omega, by simp only [inI64]; omega, by simp only [inI64]; omega, by simp only [inI64]; omega, by simp only [inI64]; omega, fun hsm => ?_, fun hsm => ?_⟩
   · simp only at hsm
     subst hsm
     simp only [dropB, cond_true, cond_false] at hbs hss
     refine ⟨by rw [hbl]; simp only [List.length_cons, List.length_nil]; omega, ⟨hs.2.2.1, hs.2.2.2⟩, ?_⟩
     simp only [← hbs]
     have hbl2 := boxesK_len l (k + 1)
     clear hbs hbl
     generalize hB : boxesK l (k + 1) = bs at hbl2 hss ⊢
     generalize hS : stateK s l k = st at hsl hss ⊢
     generalize hX : allF s.cols 20 = xs at hss ⊢
     generalize hI : 5 * ((k : Int) + 1) = id at hss ⊢
     generalize hP : dropOk s bs st id dc = p at hss
     refine ⟨lpLd2 xs st p, ?_⟩
     conv => arg 1; cbv
     simp (maxSteps := 4000000) only [P_vc, P_br, P_and, P_fin, V_nil, V_one, V_cons, T_self, castK, succK, Int.toNat_natCast, predK, decide_eq_true_eq, decide_eq_false_iff_not, List.map_cons, List.map_nil, cond_true, cond_false]
     refine ⟨⟨⟨Nat.zero_le _, rfl⟩, rfl, trivial⟩, fun (j : Nat) hj => ?_⟩
     have hZhj1 : j ≤ xs.length ∧ (xs.take j).all (fun x => !p x) = true := hj
     have hj1 := hZhj1.1
     have hj2 := hZhj1.2
     conv => arg 1; cbv
     simp (maxSteps := 4000000) only [P_vc, P_br, P_and, P_fin, V_nil, V_one, V_cons, T_self, castK, succK, Int.toNat_natCast, predK, decide_eq_true_eq, decide_eq_false_iff_not, List.map_cons, List.map_nil, cond_true, cond_false]
     have z1 : (0 + st.length) * 32 ≤ 140737488355328 := by omega
     have z2 : (st.length + (0 + 1)) * 32 ≤ 140737488355328 := by omega
     simp only [List.nil_append, List.length_nil, List.length_cons, z1, z2, and_self, and_true, true_and, shp_eta]
     have hpx : p (xs.getD j Tc.slot.dflt) = (decide ((xs.getD j Tc.slot.dflt).col = dc.tmod (s.cols.length : Int)) && stowB s bs (st ++ [stoAt id (xs.getD j Tc.slot.dflt)])) := by rw [← hP]; rfl
     have hkk : k + 1 ≤ m ∧ m - (k + 1) < m - k := by omega
     have hki : inI64 ((k : Int) + 1) := by simp only [inI64]; omega
     have hxl : xs.length ≤ 2000000 := by rw [← hX]; exact allF_len hs.2.2.1 hs.2.2.2
     refine ⟨fun g1 => ?_, fun g1 => ?_⟩
     · have hlt : j < xs.length := by omega
       have hji : inI64 ((j : Int) + 1) := by simp only [inI64]; omega
       have hjj : xs.length - (j + 1) < xs.length - j := by omega
       have hmore := fun h => all_more (p := fun x => !p x) (d := Tc.slot.dflt) hj2 hlt h
       refine ⟨⟨by omega, by omega⟩, by simp only [inI64]; omega, ?_, fun hc => ⟨⟨hs.1, by omega, by rw [List.length_append]; simp only [List.length_cons, List.length_nil]; omega⟩, fun h1 => ⟨hki, hkk, by omega, ?_⟩, fun h1 => ⟨hji, ⟨⟨by omega, hmore ?_⟩, hjj⟩, by omega⟩⟩, fun hc => ⟨hji, ⟨⟨by omega, hmore ?_⟩, hjj⟩, by omega⟩⟩
       · intro h0
         exact hs.2.1 (List.eq_nil_of_length_eq_zero (by omega))
       · have hpt : p (xs.getD j Tc.slot.dflt) = true := by rw [hpx, decide_eq_true hc]; exact h1
         rw [hss, find_at Tc.slot.dflt hj2 hlt hpt]
         rfl
       · have hpf : p (xs.getD j Tc.slot.dflt) = false := by rw [hpx, decide_eq_true hc]; exact h1
         show (!p (xs.getD j Tc.slot.dflt)) = true
         rw [hpf]
         rfl
       · have hpf : p (xs.getD j Tc.slot.dflt) = false := by rw [hpx, decide_eq_false hc]; rfl
         show (!p (xs.getD j Tc.slot.dflt)) = true
         rw [hpf]
         rfl
     · refine ⟨hki, hkk, by omega, ?_⟩
       rw [hss, find_end hj2 (by omega)]
   · simp only at hsm
     subst hsm
     simp only [dropB, cond_true, cond_false] at hbs hss
     refine ⟨by rw [hbl]; simp only [List.length_cons, List.length_nil]; omega, ⟨hs.2.2.1, hs.2.2.2⟩, ?_⟩
     simp only [← hbs]
     have hbl2 := boxesK_len l (k + 1)
     clear hbs hbl
     generalize hB : boxesK l (k + 1) = bs at hbl2 hss ⊢
     generalize hS : stateK s l k = st at hsl hss ⊢
     generalize hX : allF s.cols 40 = xs at hss ⊢
     generalize hI : 5 * ((k : Int) + 1) = id at hss ⊢
     generalize hP : dropOk s bs st id dc = p at hss
     refine ⟨lpLd2 xs st p, ?_⟩
     conv => arg 1; cbv
     simp (maxSteps := 4000000) only [P_vc, P_br, P_and, P_fin, V_nil, V_one, V_cons, T_self, castK, succK, Int.toNat_natCast, predK, decide_eq_true_eq, decide_eq_false_iff_not, List.map_cons, List.map_nil, cond_true, cond_false]
     refine ⟨⟨⟨Nat.zero_le _, rfl⟩, rfl, trivial⟩, fun (j : Nat) hj => ?_⟩
     have hZhj1 : j ≤ xs.length ∧ (xs.take j).all (fun x => !p x) = true := hj
     have hj1 := hZhj1.1
     have hj2 := hZhj1.2
     conv => arg 1; cbv
     simp (maxSteps := 4000000) only [P_vc, P_br, P_and, P_fin, V_nil, V_one, V_cons, T_self, castK, succK, Int.toNat_natCast, predK, decide_eq_true_eq, decide_eq_false_iff_not, List.map_cons, List.map_nil, cond_true, cond_false]
     have z1 : (0 + st.length) * 32 ≤ 140737488355328 := by omega
     have z2 : (st.length + (0 + 1)) * 32 ≤ 140737488355328 := by omega
     simp only [List.nil_append, List.length_nil, List.length_cons, z1, z2, and_self, and_true, true_and, shp_eta]
     have hpx : p (xs.getD j Tc.slot.dflt) = (decide ((xs.getD j Tc.slot.dflt).col = dc.tmod (s.cols.length : Int)) && stowB s bs (st ++ [stoAt id (xs.getD j Tc.slot.dflt)])) := by rw [← hP]; rfl
     have hkk : k + 1 ≤ m ∧ m - (k + 1) < m - k := by omega
     have hki : inI64 ((k : Int) + 1) := by simp only [inI64]; omega
     have hxl : xs.length ≤ 2000000 := by rw [← hX]; exact allF_len hs.2.2.1 hs.2.2.2
     refine ⟨fun g1 => ?_, fun g1 => ?_⟩
     · have hlt : j < xs.length := by omega
       have hji : inI64 ((j : Int) + 1) := by simp only [inI64]; omega
       have hjj : xs.length - (j + 1) < xs.length - j := by omega
       have hmore := fun h => all_more (p := fun x => !p x) (d := Tc.slot.dflt) hj2 hlt h
       refine ⟨⟨by omega, by omega⟩, by simp only [inI64]; omega, ?_, fun hc => ⟨⟨hs.1, by omega, by rw [List.length_append]; simp only [List.length_cons, List.length_nil]; omega⟩, fun h1 => ⟨hki, hkk, by omega, ?_⟩, fun h1 => ⟨hji, ⟨⟨by omega, hmore ?_⟩, hjj⟩, by omega⟩⟩, fun hc => ⟨hji, ⟨⟨by omega, hmore ?_⟩, hjj⟩, by omega⟩⟩
       · intro h0
         exact hs.2.1 (List.eq_nil_of_length_eq_zero (by omega))
       · have hpt : p (xs.getD j Tc.slot.dflt) = true := by rw [hpx, decide_eq_true hc]; exact h1
         rw [hss, find_at Tc.slot.dflt hj2 hlt hpt]
         rfl
       · have hpf : p (xs.getD j Tc.slot.dflt) = false := by rw [hpx, decide_eq_true hc]; exact h1
         show (!p (xs.getD j Tc.slot.dflt)) = true
         rw [hpf]
         rfl
       · have hpf : p (xs.getD j Tc.slot.dflt) = false := by rw [hpx, decide_eq_false hc]; rfl
         show (!p (xs.getD j Tc.slot.dflt)) = true
         rw [hpf]
         rfl
     · refine ⟨hki, hkk, by omega, ?_⟩
       rw [hss, find_end hj2 (by omega)]
 · rw [hm, show k = m by omega]
   exact ⟨rfl, rfl⟩
theorem colsK_mem {l : List Plc} (hw : ∀ p ∈ l, plcOk p) : ∀ {k : Nat}, k ≤ l.length → ∀ c ∈ colsK l k, ∃ p, plcOk p ∧ c = colP p
 | 0, _, c, h => by cases h
 | k + 1, hk, c, h => by
  unfold colsK at h
  have hq := hw _ (getD_mem Tc.plc.dflt (show k < l.length by omega))
  cases hE : (findC (colsK l k) (colP (l.getD k Tc.plc.dflt)).bay (colP (l.getD k Tc.plc.dflt)).row (l.getD k Tc.plc.dflt).deck).isEmpty with
  | true =>
   rw [hE, cond_true, List.mem_append] at h
   rcases h with h | h
   · exact colsK_mem hw (by omega) c h
   · rw [List.mem_singleton] at h
     exact ⟨_, hq, h⟩
  | false =>
   rw [hE, cond_false] at h
   exact colsK_mem hw (by omega) c h
theorem findC_none {cs : List Col} {a b : Int} {d : Bool} (h : (findC cs a b d).isEmpty = true) : ∀ c ∈ cs, colIs a b d c = false := by
 intro c hc
 obtain ⟨j, hj⟩ := List.mem_iff_getElem?.1 hc
 obtain ⟨hlt, he⟩ := List.getElem?_eq_some_iff.1 hj
 cases hb : colIs a b d c with
 | false => rfl
 | true =>
  exfalso
  have : (j : Int) ∈ findC cs a b d := by
   unfold findC placesK
   refine List.mem_map.2 ⟨j, List.mem_filter.2 ⟨List.mem_range.2 hlt, ?_⟩, rfl⟩
   rw [List.getD_eq_getElem?_getD, hj]
   exact hb
  rw [List.isEmpty_iff.1 h] at this
  cases this
theorem colKey_is {a b : Int} {d : Bool} {c c' : Col} (h : colIs a b d c = false) (h1 : c'.bay = a) (h2 : c'.row = b) (h3 : c'.deck = d) : colKey c ≠ colKey c' := by
 intro e
 unfold colKey at e
 rw [h1, h2, h3] at e
 simp only [List.cons.injEq, Kx.i.injEq, true_and, and_true] at e
 obtain ⟨e1, e2, e3⟩ := e
 have e4 : c.deck = d := by cases hc : c.deck <;> cases d <;> simp_all
 unfold colIs at h
 rw [e1, e2, e4] at h
 simp at h
theorem colsK_nodup (l : List Plc) : ∀ k, ((colsK l k).map colKey).Nodup
 | 0 => List.nodup_nil
 | k + 1 => by
  unfold colsK
  have ih := colsK_nodup l k
  cases hE : (findC (colsK l k) (colP (l.getD k Tc.plc.dflt)).bay (colP (l.getD k Tc.plc.dflt)).row (l.getD k Tc.plc.dflt).deck).isEmpty with
  | true =>
   rw [cond_true, List.map_append, List.nodup_append]
   refine ⟨ih, by simp, fun a ha b hb => ?_⟩
   obtain ⟨c, hc, rfl⟩ := List.mem_map.1 ha
   rw [List.map_singleton, List.mem_singleton] at hb
   subst hb
   exact colKey_is (findC_none hE c hc) rfl rfl rfl
  | false => exact ih
theorem covsK_mem (n : Int) : ∀ k, ∀ x ∈ covsK n k, ∃ j : Nat, j < k ∧ x.bay = (j : Int) ∧ (x.rows = [0, 1] ∨ x.rows = [2, 3, 4])
 | 0, x, h => by cases h
 | k + 1, x, h => by
  unfold covsK at h
  rw [List.mem_append, List.mem_append] at h
  rcases h with (h | h) | h
  · obtain ⟨j, h1, h2⟩ := covsK_mem n k x h
    exact ⟨j, by omega, h2⟩
  · cases hb : bitB n (2 * (k : Int)) with
    | true => rw [hb, cond_true, List.mem_singleton] at h; subst h; exact ⟨k, by omega, rfl, .inl rfl⟩
    | false => rw [hb, cond_false] at h; cases h
  · cases hb : bitB n (2 * (k : Int) + 1) with
    | true => rw [hb, cond_true, List.mem_singleton] at h; subst h; exact ⟨k, by omega, rfl, .inr rfl⟩
    | false => rw [hb, cond_false] at h; cases h
theorem covKeys_mem {x : Cov} {key : List Kx} (h : key ∈ covKeys x) : ∃ r ∈ x.rows, key = [.i .i64 x.bay, .i .i64 r, .i .i64 2] := by
 obtain ⟨r, h1, h2⟩ := List.mem_map.1 h
 exact ⟨r, h1, h2.symm⟩
theorem covsK_nodup (n : Int) : ∀ k, ((covsK n k).flatMap covKeys).Nodup
 | 0 => List.nodup_nil
 | k + 1 => by
  unfold covsK
  have ih := covsK_nodup n k
  have hold : ∀ a ∈ (covsK n k).flatMap covKeys, ∃ (j : Nat) (r : Int), j < k ∧ a = [.i .i64 (j : Int), .i .i64 r, .i .i64 2] := fun a ha => by
   obtain ⟨x, hx, hax⟩ := List.mem_flatMap.1 ha
   obtain ⟨j, hj, hb, _⟩ := covsK_mem n k x hx
   obtain ⟨r, _, e⟩ := covKeys_mem hax
   exact ⟨j, r, hj, by rw [e, hb]⟩
  have hdis : ∀ (rs : List Int), ∀ a ∈ (covsK n k).flatMap covKeys, ∀ b ∈ rs.map (fun r => [Kx.i .i64 (k : Int), Kx.i .i64 r, Kx.i .i64 2]), a ≠ b := fun rs a ha b hb e => by
   obtain ⟨j, r, hj, rfl⟩ := hold a ha
   obtain ⟨r', _, rfl⟩ := List.mem_map.1 hb
   simp only [List.cons.injEq, Kx.i.injEq, true_and, and_true] at e
   omega
  cases bitB n (2 * (k : Int)) <;> cases bitB n (2 * (k : Int) + 1) <;> simp only [cond_true, cond_false, List.append_nil]
  · exact ih
  · rw [List.flatMap_append, List.nodup_append]
    exact ⟨ih, by simp [covKeys], fun a ha b hb => hdis [2, 3, 4] a ha b (by simpa [covKeys] using hb)⟩
  · rw [List.flatMap_append, List.nodup_append]
    exact ⟨ih, by simp [covKeys], fun a ha b hb => hdis [0, 1] a ha b (by simpa [covKeys] using hb)⟩
  · rw [List.append_assoc, List.flatMap_append, List.nodup_append]
    exact ⟨ih, by simp [covKeys], fun a ha b hb => hdis [0, 1, 2, 3, 4] a ha b (by simpa [covKeys] using hb)⟩
theorem colsF_cases (l : List Plc) : colsF l = [bareCol] ∨ (colsF l = colsK l (min l.length 12) ∧ colsK l (min l.length 12) ≠ []) := by
 unfold colsF
 cases hE : colsK l (min l.length 12) with
 | nil => exact .inl rfl
 | cons x xs => exact .inr ⟨rfl, by simp⟩
theorem colsF_len (l : List Plc) : 1 ≤ (colsF l).length ∧ (colsF l).length ≤ 12 := by
 rcases colsF_cases l with h | ⟨h, h2⟩
 · rw [h]; simp
 · rw [h]
   have := colsK_len l (min l.length 12)
   have := List.length_pos_iff.2 h2
   omega
def madeCol (c : Col) : Prop := (0 ≤ c.bay ∧ c.bay ≤ 4) ∧ (0 ≤ c.row ∧ c.row ≤ 4) ∧ (2 ≤ c.tiers ∧ c.tiers ≤ 5) ∧ (c.height = 0 ∧ c.k20 = 500000000 ∧ c.k40 = 500000000 ∧ c.lash = 0 ∧ c.plugs = []) ∧ (-26000 ≤ c.x ∧ c.x ≤ 26000) ∧ (-5000 ≤ c.y ∧ c.y ≤ 5000) ∧ 2000 ≤ c.z ∧ c.z ≤ 20000
theorem colsF_made {l : List Plc} (hw : ∀ p ∈ l, plcOk p) : ∀ c ∈ colsF l, madeCol c := by
 intro c hc
 rcases colsF_cases l with h | ⟨h, _⟩
 · rw [h, List.mem_singleton] at hc
   subst hc
   simp [madeCol, bareCol]
 · rw [h] at hc
   obtain ⟨p, ⟨⟨a1, a2⟩, ⟨b1, b2⟩, c1, c2⟩, rfl⟩ := colsK_mem hw (Nat.min_le_left _ _) c hc
   simp only [madeCol, colP, true_and, and_true]
   cases p.deck <;> simp only [cond_true, cond_false] <;> omega
theorem made_colB {c : Col} (h : madeCol c) : colB c = true := by
 obtain ⟨h1, h2, h3, ⟨h4, h5, h6, h7, h8⟩, h9, h10, h11⟩ := h
 unfold colB risesB colSpans
 rw [h8, h4, h5, h6, h7]
 simp [spnB]
 omega
theorem colsF_nodup (l : List Plc) : ((colsF l).map colKey).Nodup := by
 rcases colsF_cases l with h | ⟨h, _⟩
 · rw [h]; simp
 · rw [h]; exact colsK_nodup _ _
theorem built_shipB {l : List Plc} {n : Int} (hw : ∀ p ∈ l, plcOk p) : shipB (builtF l n) = true := by
 have h1 := colsF_len l
 have h2 := covsK_len n 5
 have hk : (shipKeys (builtF l n)).Nodup := by
  unfold shipKeys builtF
  rw [List.nodup_append]
  refine ⟨colsF_nodup l, covsK_nodup n 5, fun a ha b hb e => ?_⟩
  obtain ⟨c, _, rfl⟩ := List.mem_map.1 ha
  obtain ⟨x, _, hx⟩ := List.mem_flatMap.1 hb
  obtain ⟨r, _, rfl⟩ := covKeys_mem hx
  unfold colKey at e
  simp only [List.cons.injEq, Kx.i.injEq, true_and, and_true] at e
  have e3 := e.2.2
  cases hd : c.deck <;> rw [hd] at e3 <;> simp at e3
 have hc : (builtF l n).cols.all colB = true := List.all_eq_true.2 fun c hc => made_colB (colsF_made hw c hc)
 have hv : (builtF l n).covs.all covB = true := List.all_eq_true.2 fun x hx => by
  obtain ⟨j, hj, hb, hr⟩ := covsK_mem n 5 x hx
  unfold covB
  rw [hb]
  have r1 : risesB 30 [0, 1] = true := by decide
  have r2 : risesB 30 [2, 3, 4] = true := by decide
  have r3 : (0 : Int) ≤ (j : Int) ∧ (j : Int) < 40 := by omega
  rcases hr with hr | hr <;> rw [hr] <;> simp [r1, r2, r3]
 unfold shipB
 rw [hc, hv, decide_eq_true hk]
 simp only [Bool.and_true, Bool.true_and, Bool.and_eq_true, decide_eq_true_eq]
 exact ⟨h1.1, by show (colsF l).length ≤ 200; omega, by show (covsK n 5).length ≤ 40; omega⟩
theorem built_pre {l : List Plc} {n : Int} (hw : ∀ p ∈ l, plcOk p) : shipPre (builtF l n) := by
 refine ⟨fun c hc => ?_, fun x hx => ?_⟩
 · obtain ⟨h1, h2, h3, ⟨h4, h5, h6, h7, h8⟩, _⟩ := colsF_made hw c hc
   rw [h8]
   exact ⟨by simp, by simp only [inI64]; omega⟩
 · obtain ⟨j, hj, hb, hr⟩ := covsK_mem n 5 x hx
   rcases hr with hr | hr <;> rw [hr] <;> simp
theorem dropB_ok {d : Drp} (h : drpOk d) {i : Nat} (hi : i ≤ 1000) : boxB (dropB i d) = true := by
 obtain ⟨h1, h2⟩ := h
 unfold boxB bRule dropB
 cases d.small <;> cases d.high <;> simp [bWithin, kMost, noNum, noText] <;> omega
theorem boxesK_get {l : List Drp} {k i : Nat} (hi : i < k) : (boxesK l k)[i]? = some (dropB i (l.getD i Tc.drp.dflt)) := by
 unfold boxesK
 rw [List.getElem?_map, List.getElem?_range hi]
 rfl
theorem dropB_num (i : Nat) (d : Drp) : (dropB i d).num = noNum := rfl
theorem boxesK_bad {l : List Drp} {k : Nat} (hw : ∀ d ∈ l, drpOk d) (hk : k ≤ l.length) (hk2 : k ≤ 1000) (i : Nat) (hi : i < k) : boxBad (boxesK l k) i = false := by
 have hs : seenN (boxesK l k) i (dropB i (l.getD i Tc.drp.dflt)).num = false := by
  unfold seenN
  rw [List.any_eq_false]
  intro b hb
  have hb' := List.mem_of_mem_take hb
  unfold boxesK at hb'
  obtain ⟨j, _, rfl⟩ := List.mem_map.1 hb'
  simp [dropB_num]
 have hb := dropB_ok (hw _ (getD_mem Tc.drp.dflt (show i < l.length by omega))) (show i ≤ 1000 by omega)
 have hid : decide ((dropB i (l.getD i Tc.drp.dflt)).id ≤ lastId (boxesK l k) i) = false := by
  rw [decide_eq_false_iff_not]
  unfold lastId
  by_cases h0 : i = 0
  · rw [if_pos h0]
    show ¬ (5 * ((i : Int) + 1) ≤ 0)
    omega
  · rw [if_neg h0, boxesK_get (show i - 1 < k by omega)]
    show ¬ (5 * ((i : Int) + 1) ≤ 5 * (((i - 1 : Nat) : Int) + 1))
    omega
 unfold boxBad
 rw [boxesK_get hi]
 simp only [hs, hid, hb, Bool.or_false, Bool.not_true]
theorem boxesK_valid {l : List Drp} {k : Nat} (hw : ∀ d ∈ l, drpOk d) (hk : k ≤ l.length) (hk2 : k ≤ 1000) : boxValid (boxesK l k) = (-1, 0) := by
 unfold boxValid
 rw [boxesK_len, if_neg (by omega)]
 have : (List.range k).find? (boxBad (boxesK l k)) = none := by
  rw [List.find?_eq_none]
  intro i hi
  rw [boxesK_bad hw hk hk2 i (List.mem_range.1 hi)]
  simp
 rw [this]
theorem findV_more {bs : List Box} {b : Box} {id : Int} (h : (findV bs id).2 = true) : findV (bs ++ [b]) id = findV bs id := by
 unfold findV at h ⊢
 rw [List.find?_append]
 cases hf : bs.find? (isId id) with
 | none => rw [hf] at h; cases h
 | some x => rfl
theorem stowAt_found {cs : List Col} {bs : List Box} {st : List Stowed} {k : Nat} (h : stowAt cs bs st k = true) : (findV bs (st.getD k Tc.stowed.dflt).box).2 = true := by
 unfold stowAt at h
 simp only [Bool.and_eq_true] at h
 exact h.1.1
theorem stow_found {s : Shp} {bs : List Box} {st : List Stowed} (h : stowB s bs st = true) : ∀ x ∈ st, (findV bs x.box).2 = true := by
 intro x hx
 unfold stowB at h
 simp only [Bool.and_eq_true, decide_eq_true_eq] at h
 obtain ⟨j, hj⟩ := List.mem_iff_getElem?.1 hx
 obtain ⟨hlt, he⟩ := List.getElem?_eq_some_iff.1 hj
 have := stowAt_found (h.2.1 j hlt)
 rwa [List.getD_eq_getElem?_getD, hj] at this
theorem heightF_more {bs : List Box} {b : Box} {st : List Stowed} (h : ∀ x ∈ st, (findV bs x.box).2 = true) (c z : Int) : heightF (bs ++ [b]) st c z = heightF bs st c z := by
 unfold heightF
 congr 1
 refine List.map_congr_left fun x hx => ?_
 unfold hAt
 rw [findV_more (h x hx)]
theorem stow_more {s : Shp} {bs : List Box} {b : Box} {st : List Stowed} (h : stowB s bs st = true) : stowB s (bs ++ [b]) st = true := by
 have hf := stow_found h
 unfold stowB at h ⊢
 simp only [Bool.and_eq_true, decide_eq_true_eq] at h ⊢
 refine ⟨h.1, fun k hk => ?_, fun c hc => ?_⟩
 · have h1 := h.2.1 k hk
   have h2 := findV_more (b := b) (stowAt_found h1)
   unfold stowAt at h1 ⊢
   rw [h2]
   exact h1
 · have h1 := h.2.2 c hc
   unfold fitsB at h1 ⊢
   rw [heightF_more hf, heightF_more hf]
   exact h1
theorem stow_nil {s : Shp} (h : shipB s = true) (h0 : ∀ c ∈ s.cols, c.height = 0) : stowB s [] [] = true := by
 unfold stowB
 simp only [h, Bool.true_and, Bool.and_eq_true, decide_eq_true_eq]
 refine ⟨fun k hk => absurd hk (by simp), fun c hc => ?_⟩
 unfold fitsB
 rw [h0 _ (getD_mem Tc.col.dflt (show ((c : Int)).toNat < s.cols.length by simpa using hc))]
 rfl
theorem stateK_stow {s : Shp} {l : List Drp} (h : shipB s = true) (h0 : ∀ c ∈ s.cols, c.height = 0) : ∀ k, stowB s (boxesK l k) (stateK s l k) = true
 | 0 => stow_nil h h0
 | k + 1 => by
  have ih := stow_more (b := dropB k (l.getD k Tc.drp.dflt)) (stateK_stow (l := l) h h0 k)
  rw [← boxesK_succ] at ih
  unfold stateK
  split
  · rename_i x hx
    have := List.find?_some hx
    unfold dropOk at this
    simp only [Bool.and_eq_true] at this
    exact this.2
  · exact ih
/- Made -/
def madeS (l : List Plc) (n : Int) : Shp := builtF l n
def madeB (d : List Drp) : List Box := boxesK d (min d.length 16)
def madeT (l : List Plc) (n : Int) (d : List Drp) : List Stowed := stateK (builtF l n) d (min d.length 16)
theorem made_stow {l : List Plc} {n : Int} {d : List Drp} (hw : ∀ p ∈ l, plcOk p) : stowB (madeS l n) (madeB d) (madeT l n d) = true :=
 stateK_stow (built_shipB hw) (fun c hc => (colsF_made hw c hc).2.2.2.1.1) _
theorem made_cargo {l : List Plc} {n : Int} {d : List Drp} (hw : ∀ p ∈ l, plcOk p) (hd : ∀ x ∈ d, drpOk x) : cargoB (madeS l n) (madeB d) (madeT l n d) = true := by
 unfold cargoB
 rw [made_stow hw, show (boxValid (madeB d)).2 = 0 by unfold madeB; rw [boxesK_valid hd (Nat.min_le_left _ _) (by omega)]]
 rfl
theorem madeT_len (l : List Plc) (n : Int) (d : List Drp) : (madeT l n d).length ≤ 16 := by
 have := stateK_len (builtF l n) d (min d.length 16)
 unfold madeT
 omega
theorem madeB_pre (d : List Drp) : boxesPre (madeB d) := by
 refine ⟨by unfold madeB; rw [boxesK_len]; omega, fun b hb => ?_⟩
 unfold madeB boxesK at hb
 obtain ⟨i, _, rfl⟩ := List.mem_map.1 hb
 show (0 : Nat) ≤ _
 omega
def conMade : Con := ⟨13, [.sl .plc, .int .u32, .sl .drp], fun
 | [x0, x1, x2] => (x0.toPlcs).bind fun l => (x1.toU32).bind fun n => (x2.toDrps).bind fun d => some ⟨fun _ => ((∀ p ∈ l (), plcOk p) ∧ (l ()).length ≤ 140737488351232) ∧ (0 ≤ n () ∧ n () ≤ 4294967295) ∧ (∀ x ∈ d (), drpOk x) ∧ (d ()).length ≤ 140737488351232, .tup [.agg (shipL fun _ => madeS (l ()) (n ())), .sl true .box fun _ => madeB (d ()), .sl true .stowed fun _ => madeT (l ()) (n ()) (d ())]⟩
 | _ => none⟩
set_option maxRecDepth 100000 in
set_option maxHeartbeats 4000000 in
theorem conMade_ok : ConOk Tryz.prog conMade := by
 refine fnOk [conBuilt, conLoaded] ⟨conBuilt_ok, conLoaded_ok, trivial⟩ Tryz.func13 (by kernel_rfl) fun avs res h hp => ?_
 simp only [conMade] at h
 split at h
 case h_2 => cases h
 rename_i x0 x1 x2
 simp only [Option.bind_eq_some_iff, Option.some.injEq] at h
 obtain ⟨l, e0, n, e1, d, e2, rfl⟩ := h
 obtain rfl := AV.toPlcs_ e0
 obtain rfl := AV.toU32_ e1
 obtain rfl := AV.toDrps_ e2
 clear e0 e1 e2
 obtain ⟨l, rfl⟩ := eta (α := List Plc) l
 obtain ⟨n, rfl⟩ := eta (α := Int) n
 obtain ⟨d, rfl⟩ := eta (α := List Drp) d
 obtain ⟨⟨h1, h2⟩, h3, h4, h5⟩ : ((∀ p ∈ l, plcOk p) ∧ l.length ≤ 140737488351232) ∧ (0 ≤ n ∧ n ≤ 4294967295) ∧ (∀ x ∈ d, drpOk x) ∧ d.length ≤ 140737488351232 := hp
 refine ⟨[], ?_⟩
 conv => arg 1; cbv
 simp (maxSteps := 4000000) only [P_vc, P_br, P_and, P_fin, V_nil, V_one, V_cons, T_self, castK, succK, Int.toNat_natCast, predK, decide_eq_true_eq, decide_eq_false_iff_not, List.map_cons, List.map_nil, cond_true, cond_false]
 have hc := colsF_len l
 have hcm := colsF_made h1
 refine ⟨⟨h1, h3, h2⟩, ⟨⟨built_pre h1, fun h0 => ?_, ?_, fun c hx => ?_⟩, h4, by omega, h5⟩, rfl, rfl, rfl, rfl, rfl, rfl, rfl, rfl, rfl, rfl, rfl, rfl, rfl, rfl, rfl⟩
 · have h6 : colsF l = [] := h0
   rw [h6] at hc
   simp at hc
 · show (colsF l).length ≤ 1000
   omega
 · have := (hcm c hx).2.2.1
   omega
theorem ldOk_add {s x : Ld} (hs : ldOk s = true) (hx : ldOk x = true) (h : s.kilos + x.kilos ≤ 500000000) : ldOk (s.add x) = true := by
 unfold ldOk wOk inArm Ld.add at *
 simp only [Bool.and_eq_true, decide_eq_true_eq] at *
 omega
theorem ldOk_in {s : Ld} (hs : ldOk s = true) : (0 ≤ s.kilos ∧ s.kilos ≤ 500000000) ∧ (-550000000000000 ≤ s.x ∧ s.x ≤ 550000000000000) ∧ (-550000000000000 ≤ s.y ∧ s.y ≤ 550000000000000) ∧ (-550000000000000 ≤ s.z ∧ s.z ≤ 550000000000000) := by
 unfold ldOk wOk inArm at hs
 simp only [Bool.and_eq_true, decide_eq_true_eq] at hs
 omega
theorem ld_eta (l : Ld) : (⟨l.kilos, l.x, l.y, l.z⟩ : Ld) = l := rfl
end Go.Proofs.YtfdjcakgolenbaaGreat
