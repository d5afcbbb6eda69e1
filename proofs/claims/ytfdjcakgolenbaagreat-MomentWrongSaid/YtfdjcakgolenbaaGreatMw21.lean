/-
  Built, Loaded and Made hand back rows of the caller's own.
-/
import Derived.Test.YtfdjcakgolenbaaGreatMw20
import Derived.ProofKit
import Derived.SizedLaws
set_option linter.unusedVariables false
set_option linter.unusedSimpArgs false
namespace Go.Proofs.YtfdjcakgolenbaaGreat
open Go.RowKit
def shipN (o : Nat) (b : Unit -> Shp) : List AV := [.own o, .sl true .cov fun _ => (b ()).covs, .int .i64 fun _ => (b ()).lk, .int .i64 fun _ => (b ()).lx, .int .i64 fun _ => (b ()).ly, .int .i64 fun _ => (b ()).lz, .sl true .hrow fun _ => (b ()).rows, .sl true .frm fun _ => (b ()).frms, .sl true .tnk fun _ => (b ()).tnks, .int .i64 fun _ => (b ()).m1, .int .i64 fun _ => (b ()).m2, .int .i64 fun _ => (b ()).m3, .int .i64 fun _ => (b ()).m4]
def fonBuilt : Fon := ⟨42, [.sl .plc, .int .u32], 0, fun avs es => match avs, es with
 | [.sl false .plc l, .int .u32 n], [] => some ⟨fun _ => (∀ p ∈ l (), plcOk p) /\ (0 <= n () /\ n () <= 4294967295) /\ (l ()).length <= 140737488351232, .agg (shipN 0 fun _ => builtF (l ()) (n ())), [(0, .row true .col 47 fun _ => colsF (l ()))]⟩
 | _, _ => none, false⟩
set_option maxRecDepth 100000 in
set_option maxHeartbeats 4000000 in
theorem fonBuilt_ok : FonOk Tryz.prog fonBuilt := by
 refine fonOkO { jn := [] } [conFindCol] ⟨conFindCol_ok, trivial⟩ [] trivial Tryz.func42 (by kernel_rfl) fun avs es res h hp => ?_;simp only [fonBuilt] at h;split at h
 case h_2 => cases h
 rename_i l n;cases h;obtain ⟨l, rfl⟩ := eta (α := List Plc) l;obtain ⟨n, rfl⟩ := eta (α := Int) n;have hZhw : (∀ p ∈ l, plcOk p) /\ (0 <= n /\ n <= 4294967295) /\ l.length <= 140737488351232 := hp;have hw := hZhw.1;have hn := hZhw.2.1;have hl := hZhw.2.2;refine nameIt (min l.length 12) fun m hm => ?_;refine ⟨[(3, lpB1 l m)], ?_⟩;have hmin : (bif decide ((12 : Int) < (l.length : Int)) then (12 : Int) else (l.length : Int)) = (m : Int) := by
  by_cases h : (12 : Int) < (l.length : Int)
  . rw [decide_eq_true h, cond_true]; omega
  . rw [decide_eq_false h, cond_false]; omega
 conv => arg 1; cbv
 simp (maxSteps := 4000000) only [P_vc, P_br, P_and, P_fin, V_nil, V_one, V_cons, T_self, castK, succK, Int.toNat_natCast, predK, decide_eq_true_eq, decide_eq_false_iff_not, List.map_cons, List.map_nil, cond_true, cond_false];refine ⟨by rw [hmin]; omega, ⟨Nat.zero_le _, rfl, rfl⟩, fun (k : Nat) hk => ?_⟩;have hk' : k <= m := hk
 conv => arg 1; cbv
 simp (maxSteps := 4000000) only [P_vc, P_br, P_and, P_fin, V_nil, V_one, V_cons, T_self, castK, succK, Int.toNat_natCast, predK, decide_eq_true_eq, decide_eq_false_iff_not, List.map_cons, List.map_nil, cond_true, cond_false];refine ⟨fun g => ?_, fun g => ⟨fun h0 => ?_, fun h0 => ?_⟩⟩
 . have hkm : k < m := by omega
   have hkl : k < l.length := by omega
   have hq : plcOk (l.getD k Tc.plc.dflt) := hw _ (by
    rw [List.getD_eq_getElem?_getD, List.getElem?_eq_getElem hkl];exact List.getElem_mem _)
   have hlen := colsK_len l k;have hsu : colsK l (k + 1) = cond (findC (colsK l k) (colP (l.getD k Tc.plc.dflt)).bay (colP (l.getD k Tc.plc.dflt)).row (l.getD k Tc.plc.dflt).deck).isEmpty (colsK l k ++ [colP (l.getD k Tc.plc.dflt)]) (colsK l k) := rfl;generalize l.getD k Tc.plc.dflt = p at hq hsu ⊢;obtain ⟨bay, row, tiers, deck⟩ := p;simp only [colP] at hsu;simp only [plcOk] at hq;have t1 : bay.tmod 5 = bay % 5 := Int.tmod_eq_emod_of_nonneg hq.1.1;have t2 : row.tmod 5 = row % 5 := Int.tmod_eq_emod_of_nonneg hq.2.1.1;have t3 : tiers.tmod 4 = tiers % 4 := Int.tmod_eq_emod_of_nonneg hq.2.2.1;simp only [t1, t2, t3, hsu, List.length_cons, List.length_nil];generalize colsK l k = cs at hlen ⊢;cases deck <;> cases (findC cs (bay % 5) (row % 5) _).isEmpty <;> simp only [cond_true, cond_false, Bool.not_true, Bool.not_false, Bool.false_eq_true, Bool.true_eq_false, reduceCtorEq, false_implies, true_implies, and_true, true_and, forall_const, inI64] <;> omega
 . have hcf : colsF l = [bareCol] := by
    unfold colsF;rw [hm, <- (show k = m by omega), List.eq_nil_of_length_eq_zero (show (colsK l k).length = 0 by omega)];rfl
   refine ⟨lpB2 n 3 4, ?_⟩
   conv => arg 1; cbv
   simp (maxSteps := 4000000) only [P_vc, P_br, P_and, P_fin, V_nil, V_one, V_cons, T_self, castK, succK, Int.toNat_natCast, predK, decide_eq_true_eq, decide_eq_false_iff_not, List.map_cons, List.map_nil, cond_true, cond_false];refine ⟨⟨by omega, rfl, rfl⟩, fun (j : Nat) hj => ?_⟩;have hj1 : j <= 5 := hj
   conv => arg 1; cbv
   simp (maxSteps := 4000000) only [P_vc, P_br, P_and, P_fin, V_nil, V_one, V_cons, T_self, castK, succK, Int.toNat_natCast, predK, decide_eq_true_eq, decide_eq_false_iff_not, List.map_cons, List.map_nil, cond_true, cond_false];have hlen := covsK_len n j;have hsu : covsK n (j + 1) = covsK n j ++ cond (bitB n (2 * j)) [⟨(j : Int), [0, 1]⟩] [] ++ cond (bitB n (2 * j + 1)) [⟨(j : Int), [2, 3, 4]⟩] [] := rfl;refine ⟨fun g1 => ?_, fun g1 => ?_⟩
   . rw [hsu];unfold bitB;generalize covsK n j = cs at hlen ⊢;generalize bitF BinOp.and IntKind.u32 (shF BinOp.shr IntKind.u32 n (2 * ↑j)) 1 = b1;generalize bitF BinOp.and IntKind.u32 (shF BinOp.shr IntKind.u32 n (2 * ↑j + 1)) 1 = b2;by_cases e1 : b1 = 1 <;> by_cases e2 : b2 = 1 <;> simp only [e1, e2, decide_true, decide_false, cond_true, cond_false, not_true_eq_false, not_false_eq_true, false_implies, true_implies, and_true, true_and, forall_const, inI64, List.length_append, List.length_cons, List.length_nil, List.append_nil] <;> omega
   . have hj5 : j = 5 := by omega
     subst hj5
     and_intros <;> first | rfl | exact hcf.symm
 . have hcf : colsF l = colsK l k := by
    unfold colsF;rw [hm, <- (show k = m by omega)]
    cases hE : colsK l k with
    | nil => rw [hE] at h0; exact absurd rfl h0
    | cons x xs => rfl
   refine ⟨lpB2 n 2 3, ?_⟩
   conv => arg 1; cbv
   simp (maxSteps := 4000000) only [P_vc, P_br, P_and, P_fin, V_nil, V_one, V_cons, T_self, castK, succK, Int.toNat_natCast, predK, decide_eq_true_eq, decide_eq_false_iff_not, List.map_cons, List.map_nil, cond_true, cond_false];refine ⟨⟨by omega, rfl, rfl⟩, fun (j : Nat) hj => ?_⟩;have hj1 : j <= 5 := hj
   conv => arg 1; cbv
   simp (maxSteps := 4000000) only [P_vc, P_br, P_and, P_fin, V_nil, V_one, V_cons, T_self, castK, succK, Int.toNat_natCast, predK, decide_eq_true_eq, decide_eq_false_iff_not, List.map_cons, List.map_nil, cond_true, cond_false];have hlen := covsK_len n j;have hsu : covsK n (j + 1) = covsK n j ++ cond (bitB n (2 * j)) [⟨(j : Int), [0, 1]⟩] [] ++ cond (bitB n (2 * j + 1)) [⟨(j : Int), [2, 3, 4]⟩] [] := rfl;refine ⟨fun g1 => ?_, fun g1 => ?_⟩
   . rw [hsu];unfold bitB;generalize covsK n j = cs at hlen ⊢;generalize bitF BinOp.and IntKind.u32 (shF BinOp.shr IntKind.u32 n (2 * ↑j)) 1 = b1;generalize bitF BinOp.and IntKind.u32 (shF BinOp.shr IntKind.u32 n (2 * ↑j + 1)) 1 = b2;by_cases e1 : b1 = 1 <;> by_cases e2 : b2 = 1 <;> simp only [e1, e2, decide_true, decide_false, cond_true, cond_false, not_true_eq_false, not_false_eq_true, false_implies, true_implies, and_true, true_and, forall_const, inI64, List.length_append, List.length_cons, List.length_nil, List.append_nil] <;> omega
   . have hj5 : j = 5 := by omega
     subst hj5
     and_intros <;> first | rfl | exact hcf.symm
def lpLdF1 (s : Shp) (l : List Drp) (m : Nat) : Lp where
 X := Nat
 ov k := [(23, .int .i64 fun _ => (k : Int)), (8, .own 1), (9, .own 2)]
 oe k := [(1, .row true .box 44 fun _ => boxesK l k), (2, .row true .stowed 42 fun _ => stateK s l k)]
 I k := k <= m
 μ k _ := m - k
 x0 := 0
 nx := some fun k => k + 1
def lpLdF2 (xs : List Slot) (p : Slot -> Bool) : Lp where
 X := Nat
 ov j := [(52, .int .i64 fun _ => (j : Int)), (9, .own 2)]
 oe j := []
 I j := j <= xs.length /\ (xs.take j).all (fun x => !p x) = true
 μ j _ := xs.length - j
 x0 := 0
 nx := some fun j => j + 1
def fonLoaded : Fon := ⟨43, [.agg shipSg, .sl .drp, .int .i64], 0, fun avs es => match avs, es with
 | [x, .sl false .drp l, .int .i64 most], [] => match x.toShip with
  | some s => some ⟨fun _ => (shipPre (s ()) /\ (s ()).cols ≠ [] /\ (s ()).cols.length <= 1000 /\ ∀ c ∈ (s ()).cols, 0 <= c.tiers /\ c.tiers <= 1000) /\ (∀ d ∈ l (), drpOk d) /\ (0 <= most () /\ most () <= 1000) /\ (l ()).length <= 140737488351232, .tup [.own 0, .own 1], [(0, .row true .box 44 fun _ => boxesK (l ()) (min (l ()).length (most ()).toNat)), (1, .row true .stowed 42 fun _ => stateK (s ()) (l ()) (min (l ()).length (most ()).toNat))]⟩
  | none => none
 | _, _ => none, false⟩
set_option maxRecDepth 100000 in
set_option maxHeartbeats 4000000 in
theorem fonLoaded_ok : FonOk Tryz.prog fonLoaded := by
 refine fonOkO { kp := [(10, [23, 8, 9, 11, 12]), (13, [52, 9, 14]), (14, [52, 9, 14, 15]), (15, [15])], sc := [(13, schList [1, 3] (.alt (.op 0 (.alt (.op 2 (.alt (schList [4, 5, 6, 7, 8, 9] .nil) (schList [5, 4, 6, 7, 8, 9] .nil))) (.alt (.op 4 (.alt (schList [2, 5, 6, 7, 8, 9] .nil) (.op 5 (.alt (schList [2, 6, 7, 8, 9] .nil) (.op 6 (.alt (schList [2, 7, 8, 9] .nil) (schList [7, 2, 8, 9] .nil))))))) (.op 5 (.alt (schList [2, 4, 6, 7, 8, 9] .nil) (.op 4 (.alt (schList [2, 6, 7, 8, 9] .nil) (.op 6 (.alt (schList [2, 7, 8, 9] .nil) (schList [7, 2, 8, 9] .nil)))))))))) (.alt (.op 4 (.alt (.op 0 (.alt (schList [2, 5, 6, 7, 8, 9] .nil) (.op 5 (.alt (schList [2, 6, 7, 8, 9] .nil) (.op 6 (.alt (schList [2, 7, 8, 9] .nil) (schList [7, 2, 8, 9] .nil))))))) (.op 5 (.alt (.op 0 (.alt (schList [2, 6, 7, 8, 9] .nil) (.op 6 (.alt (schList [2, 7, 8, 9] .nil) (schList [7, 2, 8, 9] .nil))))) (.op 6 (.alt (.op 0 (.alt (schList [2, 7, 8, 9] .nil) (schList [7, 2, 8, 9] .nil))) (schList [7, 0, 2, 8, 9] .nil))))))) (.op 5 (.alt (.op 0 (.alt (schList [2, 4, 6, 7, 8, 9] .nil) (.op 4 (.alt (schList [2, 6, 7, 8, 9] .nil) (.op 6 (.alt (schList [2, 7, 8, 9] .nil) (schList [7, 2, 8, 9] .nil))))))) (.op 4 (.alt (.op 0 (.alt (schList [2, 6, 7, 8, 9] .nil) (.op 6 (.alt (schList [2, 7, 8, 9] .nil) (schList [7, 2, 8, 9] .nil))))) (.op 6 (.alt (.op 0 (.alt (schList [2, 7, 8, 9] .nil) (schList [7, 2, 8, 9] .nil))) (schList [7, 0, 2, 8, 9] .nil)))))))))), (14, schList [0, 1, 2, 3, 4, 5, 6, 7, 8, 9, 10, 11, 12, 13, 14, 15] .nil)] } [conAll, conStowRight] ⟨conAll_ok, conStowRight_ok, trivial⟩ [] trivial Tryz.func43 (by kernel_rfl) fun avs es res h hp => ?_;simp only [fonLoaded] at h;split at h
 case h_2 => cases h
 split at h
 case h_2 => cases h
 rename_i x l most _ s hx;obtain rfl := AV.toShip_ hx;cases h;obtain ⟨s, rfl⟩ := eta (α := Shp) s;obtain ⟨l, rfl⟩ := eta (α := List Drp) l;obtain ⟨most, rfl⟩ := eta (α := Int) most;have hZhs : (shipPre s /\ s.cols ≠ [] /\ s.cols.length <= 1000 /\ ∀ c ∈ s.cols, 0 <= c.tiers /\ c.tiers <= 1000) /\ (∀ d ∈ l, drpOk d) /\ (0 <= most /\ most <= 1000) /\ l.length <= 140737488351232 := hp;have hs := hZhs.1;have hw := hZhs.2.1;have hm0 := hZhs.2.2.1;have hl := hZhs.2.2.2;refine nameIt (min l.length most.toNat) fun m hm => ?_;refine ⟨[(4, lpLdF1 s l m)], ?_⟩;have hmin : (bif decide (most < (l.length : Int)) then most else (l.length : Int)) = (m : Int) := by
  by_cases h : most < (l.length : Int)
  . rw [decide_eq_true h, cond_true]; omega
  . rw [decide_eq_false h, cond_false]; omega
 conv => arg 1; cbv
 simp (maxSteps := 4000000) only [P_vc, P_br, P_and, P_fin, V_nil, V_one, V_cons, T_self, castK, succK, Int.toNat_natCast, predK, decide_eq_true_eq, decide_eq_false_iff_not, List.map_cons, List.map_nil, cond_true, cond_false];refine ⟨by rw [hmin]; omega, ⟨Nat.zero_le _, rfl, rfl, rfl⟩, fun (k : Nat) hk => ?_⟩;have hk' : k <= m := hk
 conv => arg 1; cbv
 simp (maxSteps := 4000000) only [P_vc, P_br, P_and, P_fin, V_nil, V_one, V_cons, T_self, castK, succK, Int.toNat_natCast, predK, decide_eq_true_eq, decide_eq_false_iff_not, List.map_cons, List.map_nil, cond_true, cond_false];simp only [hmin, Int.toNat_natCast];refine ⟨fun g => ?_, fun g => ?_⟩
 . have hkm : k < m := by omega
   have hq := hw _ (getD_mem Tc.drp.dflt (show k < l.length by omega));have hbs := boxesK_succ l k;have hbl := boxesK_len l k;have hsl := stateK_len s l k;have hss : stateK s l (k + 1) = match (allF s.cols (dropB k (l.getD k Tc.drp.dflt)).size).find? (dropOk s (boxesK l (k + 1)) (stateK s l k) (5 * ((k : Int) + 1)) (l.getD k Tc.drp.dflt).col) with
    | some x => stateK s l k ++ [stoAt (5 * ((k : Int) + 1)) x]
    | none => stateK s l k := rfl
   generalize l.getD k Tc.drp.dflt = d at hq hbs hss ⊢;obtain ⟨dc, dk, dsm, dhi⟩ := d;obtain ⟨⟨hc1, hc2⟩, hk1, hk2⟩ : (0 <= dc /\ dc <= 255) /\ 0 <= dk /\ dk <= 255 := hq;refine ⟨⟨by omega, by omega⟩, by simp only [inI64]; omega, by simp only [inI64]; omega, by simp only [inI64]; omega, by simp only [inI64]; omega, by simp only [inI64]; omega, fun hsm => ?_, fun hsm => ?_⟩
   . simp only at hsm;subst hsm;simp only [dropB, cond_true, cond_false] at hbs hss;refine ⟨by rw [hbl]; simp only [List.length_cons, List.length_nil]; omega, ⟨hs.2.2.1, hs.2.2.2⟩, ?_⟩;simp only [<- hbs];have hbl2 := boxesK_len l (k + 1);clear hbs hbl;generalize hB : boxesK l (k + 1) = bs at hbl2 hss ⊢;generalize hS : stateK s l k = st at hsl hss ⊢;generalize hX : allF s.cols 20 = xs at hss ⊢;generalize hI : 5 * ((k : Int) + 1) = id at hss ⊢;generalize hP : dropOk s bs st id dc = p at hss;refine ⟨lpLdF2 xs p, ?_⟩
     conv => arg 1; cbv
     simp (maxSteps := 4000000) only [P_vc, P_br, P_and, P_fin, V_nil, V_one, V_cons, T_self, castK, succK, Int.toNat_natCast, predK, decide_eq_true_eq, decide_eq_false_iff_not, List.map_cons, List.map_nil, cond_true, cond_false];refine ⟨⟨⟨Nat.zero_le _, rfl⟩, rfl⟩, fun (j : Nat) hj => ?_⟩;have hZhj1 : j <= xs.length /\ (xs.take j).all (fun x => !p x) = true := hj;have hj1 := hZhj1.1;have hj2 := hZhj1.2
     conv => arg 1; cbv
     simp (maxSteps := 4000000) only [P_vc, P_br, P_and, P_fin, V_nil, V_one, V_cons, T_self, castK, succK, Int.toNat_natCast, predK, decide_eq_true_eq, decide_eq_false_iff_not, List.map_cons, List.map_nil, cond_true, cond_false];have z1 : (0 + st.length) * 32 <= 140737488355328 := by omega
     have z2 : (st.length + (0 + 1)) * 32 <= 140737488355328 := by omega
     simp only [List.nil_append, List.length_nil, List.length_cons, z1, z2, and_self, and_true, true_and, shp_eta];have hpx : p (xs.getD j Tc.slot.dflt) = (decide ((xs.getD j Tc.slot.dflt).col = dc.tmod (s.cols.length : Int)) && stowB s bs (st ++ [stoAt id (xs.getD j Tc.slot.dflt)])) := by rw [<- hP]; rfl
     have hkk : k + 1 <= m /\ m - (k + 1) < m - k := by omega
     have hki : inI64 ((k : Int) + 1) := by simp only [inI64]; omega
     have hxl : xs.length <= 2000000 := by rw [<- hX]; exact allF_len hs.2.2.1 hs.2.2.2
     refine ⟨fun g1 => ?_, fun g1 => ?_⟩
     . have hlt : j < xs.length := by omega
       have hji : inI64 ((j : Int) + 1) := by simp only [inI64]; omega
       have hjj : xs.length - (j + 1) < xs.length - j := by omega
       have hmore := fun h => all_more (p := fun x => !p x) (d := Tc.slot.dflt) hj2 hlt h;refine ⟨⟨by omega, by omega⟩, by simp only [inI64]; omega, ?_, fun hc => ⟨⟨hs.1, by omega, by rw [List.length_append]; simp only [List.length_cons, List.length_nil]; omega⟩, fun h1 => ⟨hki, hkk, by omega, ?_⟩, fun h1 => ⟨hji, ⟨⟨by omega, hmore ?_⟩, hjj⟩, by omega⟩⟩, fun hc => ⟨hji, ⟨⟨by omega, hmore ?_⟩, hjj⟩, by omega⟩⟩
       . intro h0;exact hs.2.1 (List.eq_nil_of_length_eq_zero (by omega))
       . have hpt : p (xs.getD j Tc.slot.dflt) = true := by rw [hpx, decide_eq_true hc]; exact h1
         rw [hss, find_at Tc.slot.dflt hj2 hlt hpt];rfl
       . have hpf : p (xs.getD j Tc.slot.dflt) = false := by rw [hpx, decide_eq_true hc]; exact h1
         show (!p (xs.getD j Tc.slot.dflt)) = true
         rw [hpf];rfl
       . have hpf : p (xs.getD j Tc.slot.dflt) = false := by rw [hpx, decide_eq_false hc]; rfl
         show (!p (xs.getD j Tc.slot.dflt)) = true
         rw [hpf];rfl
     . refine ⟨hki, hkk, by omega, ?_⟩;rw [hss, find_end hj2 (by omega)]
   . simp only at hsm;subst hsm;simp only [dropB, cond_true, cond_false] at hbs hss;refine ⟨by rw [hbl]; simp only [List.length_cons, List.length_nil]; omega, ⟨hs.2.2.1, hs.2.2.2⟩, ?_⟩;simp only [<- hbs];have hbl2 := boxesK_len l (k + 1);clear hbs hbl;generalize hB : boxesK l (k + 1) = bs at hbl2 hss ⊢;generalize hS : stateK s l k = st at hsl hss ⊢;generalize hX : allF s.cols 40 = xs at hss ⊢;generalize hI : 5 * ((k : Int) + 1) = id at hss ⊢;generalize hP : dropOk s bs st id dc = p at hss;refine ⟨lpLdF2 xs p, ?_⟩
     conv => arg 1; cbv
     simp (maxSteps := 4000000) only [P_vc, P_br, P_and, P_fin, V_nil, V_one, V_cons, T_self, castK, succK, Int.toNat_natCast, predK, decide_eq_true_eq, decide_eq_false_iff_not, List.map_cons, List.map_nil, cond_true, cond_false];refine ⟨⟨⟨Nat.zero_le _, rfl⟩, rfl⟩, fun (j : Nat) hj => ?_⟩;have hZhj1 : j <= xs.length /\ (xs.take j).all (fun x => !p x) = true := hj;have hj1 := hZhj1.1;have hj2 := hZhj1.2
     conv => arg 1; cbv
     simp (maxSteps := 4000000) only [P_vc, P_br, P_and, P_fin, V_nil, V_one, V_cons, T_self, castK, succK, Int.toNat_natCast, predK, decide_eq_true_eq, decide_eq_false_iff_not, List.map_cons, List.map_nil, cond_true, cond_false];have z1 : (0 + st.length) * 32 <= 140737488355328 := by omega
     have z2 : (st.length + (0 + 1)) * 32 <= 140737488355328 := by omega
     simp only [List.nil_append, List.length_nil, List.length_cons, z1, z2, and_self, and_true, true_and, shp_eta];have hpx : p (xs.getD j Tc.slot.dflt) = (decide ((xs.getD j Tc.slot.dflt).col = dc.tmod (s.cols.length : Int)) && stowB s bs (st ++ [stoAt id (xs.getD j Tc.slot.dflt)])) := by rw [<- hP]; rfl
     have hkk : k + 1 <= m /\ m - (k + 1) < m - k := by omega
     have hki : inI64 ((k : Int) + 1) := by simp only [inI64]; omega
     have hxl : xs.length <= 2000000 := by rw [<- hX]; exact allF_len hs.2.2.1 hs.2.2.2
     refine ⟨fun g1 => ?_, fun g1 => ?_⟩
     . have hlt : j < xs.length := by omega
       have hji : inI64 ((j : Int) + 1) := by simp only [inI64]; omega
       have hjj : xs.length - (j + 1) < xs.length - j := by omega
       have hmore := fun h => all_more (p := fun x => !p x) (d := Tc.slot.dflt) hj2 hlt h;refine ⟨⟨by omega, by omega⟩, by simp only [inI64]; omega, ?_, fun hc => ⟨⟨hs.1, by omega, by rw [List.length_append]; simp only [List.length_cons, List.length_nil]; omega⟩, fun h1 => ⟨hki, hkk, by omega, ?_⟩, fun h1 => ⟨hji, ⟨⟨by omega, hmore ?_⟩, hjj⟩, by omega⟩⟩, fun hc => ⟨hji, ⟨⟨by omega, hmore ?_⟩, hjj⟩, by omega⟩⟩
       . intro h0;exact hs.2.1 (List.eq_nil_of_length_eq_zero (by omega))
       . have hpt : p (xs.getD j Tc.slot.dflt) = true := by rw [hpx, decide_eq_true hc]; exact h1
         rw [hss, find_at Tc.slot.dflt hj2 hlt hpt];rfl
       . have hpf : p (xs.getD j Tc.slot.dflt) = false := by rw [hpx, decide_eq_true hc]; exact h1
         show (!p (xs.getD j Tc.slot.dflt)) = true
         rw [hpf];rfl
       . have hpf : p (xs.getD j Tc.slot.dflt) = false := by rw [hpx, decide_eq_false hc]; rfl
         show (!p (xs.getD j Tc.slot.dflt)) = true
         rw [hpf];rfl
     . refine ⟨hki, hkk, by omega, ?_⟩;rw [hss, find_end hj2 (by omega)]
 . rw [hm, show k = m by omega];exact ⟨rfl, rfl⟩
def fonMade : Fon := ⟨13, [.sl .plc, .int .u32, .sl .drp], 0, fun avs es => match avs, es with
 | [.sl false .plc l, .int .u32 n, .sl false .drp d], [] => some ⟨fun _ => ((∀ p ∈ l (), plcOk p) /\ (l ()).length <= 140737488351232) /\ (0 <= n () /\ n () <= 4294967295) /\ (∀ x ∈ d (), drpOk x) /\ (d ()).length <= 140737488351232, .tup [.agg (shipN 0 fun _ => madeS (l ()) (n ())), .own 1, .own 2], [(0, .row true .col 47 fun _ => (madeS (l ()) (n ())).cols), (1, .row true .box 44 fun _ => madeB (d ())), (2, .row true .stowed 42 fun _ => madeT (l ()) (n ()) (d ()))]⟩
 | _, _ => none, false⟩
set_option maxRecDepth 100000 in
set_option maxHeartbeats 4000000 in
theorem fonMade_ok : FonOk Tryz.prog fonMade := by
 refine fonOkO { } [] trivial [fonBuilt, fonLoaded] ⟨fonBuilt_ok, fonLoaded_ok, trivial⟩ Tryz.func13 (by kernel_rfl) fun avs es res h hp => ?_;simp only [fonMade] at h;split at h
 case h_2 => cases h
 rename_i l n d;cases h;obtain ⟨l, rfl⟩ := eta (α := List Plc) l;obtain ⟨n, rfl⟩ := eta (α := Int) n;obtain ⟨d, rfl⟩ := eta (α := List Drp) d;obtain ⟨⟨h1, h2⟩, h3, h4, h5⟩ : ((∀ p ∈ l, plcOk p) /\ l.length <= 140737488351232) /\ (0 <= n /\ n <= 4294967295) /\ (∀ x ∈ d, drpOk x) /\ d.length <= 140737488351232 := hp;refine ⟨[], ?_⟩
 conv => arg 1; cbv
 simp (maxSteps := 4000000) only [P_vc, P_br, P_and, P_fin, V_nil, V_one, V_cons, T_self, castK, succK, Int.toNat_natCast, predK, decide_eq_true_eq, decide_eq_false_iff_not, List.map_cons, List.map_nil, cond_true, cond_false];have hc := colsF_len l;have hcm := colsF_made h1;refine ⟨⟨h1, h3, h2⟩, ⟨⟨built_pre h1, fun h0 => ?_, ?_, fun c hx => ?_⟩, h4, by omega, h5⟩, ?_⟩
 rotate_right
 . and_intros <;> rfl
 . have h6 : colsF l = [] := h0;rw [h6] at hc;simp at hc
 . show (colsF l).length <= 1000
   omega
 . have := (hcm c hx).2.2.1;omega
theorem ld_eta (l : Ld) : (⟨l.kilos, l.x, l.y, l.z⟩ : Ld) = l := rfl
def pointOf (m : Mid) : Ld := (pointF m.box.kilos m.x m.y m.h).1
def cargoF (s : Shp) (bs : List Box) (l : List Stowed) : Ld × Int := cond (cargoB s bs l) (addF ((midsL s.cols bs (sortT l)).map pointOf)) (ld0, 2)
def conCargo : Con := ⟨14, [.agg shipSg, .sl .box, .sl .stowed], fun
 | [x0, x1, x2] => (x0.toShip).bind fun s => (x1.toBoxes).bind fun bs => (x2.toStos).bind fun l => some ⟨fun _ => shipPre (s ()) /\ boxesPre (bs ()) /\ (l ()).length <= 20, .tup [.agg (ldL fun _ => (cargoF (s ()) (bs ()) (l ())).1), .int .i64 fun _ => (cargoF (s ()) (bs ()) (l ())).2]⟩
 | _ => none⟩
def lpCargo (ms : Unit -> List Mid) : Lp where
 X := Nat
 ov k := [(27, .int .i64 fun _ => (k : Int)), (10, .own 2)]
 oe k := [(2, .row true .ld 48 fun _ => ((ms ()).take k).map pointOf)]
 I k := k <= (ms ()).length
 μ k _ := (ms ()).length - k
 x0 := 0
 nx := some fun k => k + 1
set_option maxRecDepth 100000 in
set_option maxHeartbeats 4000000 in
theorem conCargo_ok : ConOk Tryz.prog conCargo := by
 refine fnOk [conMiddles, conMPoint, conMAdd] ⟨conMiddles_ok, conMPoint_ok, conMAdd_ok, trivial⟩ Tryz.func14 (by kernel_rfl) fun avs res h hp => ?_;simp only [conCargo] at h;split at h
 case h_2 => cases h
 rename_i x0 x1 x2;simp only [Option.bind_eq_some_iff, Option.some.injEq] at h;obtain ⟨s, e0, bs, e1, l, e2, rfl⟩ := h;obtain rfl := AV.toShip_ e0;obtain rfl := AV.toBoxes_ e1;obtain rfl := AV.toStos_ e2;clear e0 e1 e2;obtain ⟨s, rfl⟩ := eta (α := Shp) s;obtain ⟨bs, rfl⟩ := eta (α := List Box) bs;obtain ⟨l, rfl⟩ := eta (α := List Stowed) l;have hZh1 : shipPre s /\ boxesPre bs /\ l.length <= 20 := hp;have h1 := hZh1.1;have h2 := hZh1.2.1;have h3 := hZh1.2.2;refine nameIt (midsL s.cols bs (sortT l)) fun ms hms => ?_;have hlen : ms.length <= 20 := by
  rw [<- hms];unfold midsL;rw [midsK_len];have := (sortT_perm l).length_eq;omega
 refine ⟨[(6, lpCargo fun _ => ms)], ?_⟩
 conv => arg 1; cbv
 refine ⟨⟨h1, h2, h3⟩, fun g => ?_, fun g => ?_⟩
 . have g' : (!cargoB s bs l) = true := g;simp only [Bool.not_eq_true'] at g';have hc : cargoF s bs l = (ld0, 2) := by unfold cargoF; rw [g']; rfl
   simp (maxSteps := 4000000) only [P_vc, P_br, P_and, P_fin, V_nil, V_one, V_cons, T_self, castK, succK, Int.toNat_natCast, predK, decide_eq_true_eq, decide_eq_false_iff_not, List.map_cons, List.map_nil, cond_true, cond_false];rw [hc];simp [ld0]
 have g' : (!cargoB s bs l) = false := g;simp only [Bool.not_eq_false'] at g';have hc : cargoF s bs l = addF (ms.map pointOf) := by unfold cargoF; rw [g', hms]; rfl
 clear g;refine ⟨?_, fun (k : Nat) hk => ?_⟩
 . simp (maxSteps := 4000000) only [P_vc, P_br, P_and, P_fin, V_nil, V_one, V_cons, T_self, castK, succK, Int.toNat_natCast, predK, decide_eq_true_eq, decide_eq_false_iff_not, List.map_cons, List.map_nil, cond_true, cond_false];exact ⟨Nat.zero_le _, rfl, rfl⟩
 have hk' : k <= ms.length := hk
 conv => arg 1; cbv
 simp (maxSteps := 4000000) only [P_vc, P_br, P_and, P_fin, V_nil, V_one, V_cons, T_self, castK, succK, Int.toNat_natCast, predK, decide_eq_true_eq, decide_eq_false_iff_not, List.map_cons, List.map_nil, cond_true, cond_false];simp only [hms, g', cond_true, ld_eta, box_eta];refine ⟨fun g1 => ?_, fun g1 => ?_⟩
 . have hlt : k < ms.length := by omega
   have e1 : (ms.take (k + 1)).map pointOf = (ms.take k).map pointOf ++ [pointOf (ms.getD k Tc.mid.dflt)] := by rw [take_getD Tc.mid.dflt hlt, List.map_append]; rfl
   rw [e1];refine ⟨by omega, trivial, ?_, ⟨by omega, by omega⟩, ⟨by omega, by omega⟩, by omega, ?_⟩
   . simp only [List.length_map, List.length_take, List.length_cons, List.length_nil]; omega
   . rfl
 . have hge : ms.length <= k := by omega
   rw [List.take_of_length_le hge, hc];refine ⟨by rw [List.length_map]; omega, ?_⟩;simp
def conMWithin : Con := ⟨53, [.int .i64, .int .i64], fun
 | [x0, x1] => (x0.toI).bind fun n => (x1.toI).bind fun m => some ⟨fun _ => inI64 (-(m ())), .bool fun _ => inArm (n ()) (m ())⟩
 | _ => none⟩
def ship15 : Shp := ⟨cols15, covs07, 0, 0, 0, 0, [], [], [], 0, 0, 0, 0⟩
theorem ship15_pre : shipPre ship15 := by
 unfold shipPre ship15 cols15 covs07 inI64;simp
theorem boxes15_pre : boxesPre boxes15 := by
 unfold boxesPre boxes15 noText;simp;decide
set_option maxRecDepth 100000 in
set_option maxHeartbeats 4000000 in
theorem mid15_1 : middleF ship15 boxes15 state15 1 = (4050, -500, 6591, 0) := by kernel_rfl
set_option maxRecDepth 100000 in
set_option maxHeartbeats 4000000 in
theorem mid15_3 : middleF ship15 boxes15 state15 3 = (1000, -500, 12078, 0) := by kernel_rfl
set_option maxRecDepth 100000 in
set_option maxHeartbeats 4000000 in
theorem cargo15 : cargoF ship15 boxes15 state15 = (⟨23000, 13850000, -11500000, 206463000⟩, 0) := by kernel_rfl
set_option maxRecDepth 100000 in
set_option maxHeartbeats 4000000 in
theorem find15 : findF ⟨23000, 13850000, -11500000, 206463000⟩ = (⟨(ratioL 13850 23).1, (ratioL (-500) 1).1, (ratioL 206463 46).1⟩, 0) := by kernel_rfl
def conLRatio : Con := ⟨26, [.int .i64, .int .i64], fun
 | [x0, x1] => (x0.toI).bind fun a => (x1.toI).bind fun b => some ⟨fun _ => inI64 (a ()) /\ inI64 (b ()), .agg (fracL fun _ => (ratioL (a ()) (b ())).1)⟩
 | _ => none⟩
set_option maxRecDepth 100000 in
set_option maxHeartbeats 4000000 in
theorem conLRatio_ok : ConOk Tryz.prog conLRatio := by
 refine fnOk [conRatio] ⟨conRatio_ok, trivial⟩ Tryz.func26 (by kernel_rfl) fun avs res h hp => ?_;simp only [conLRatio] at h;split at h
 case h_2 => cases h
 rename_i x0 x1;simp only [Option.bind_eq_some_iff, Option.some.injEq] at h;obtain ⟨a, e0, b, e1, rfl⟩ := h;obtain rfl := AV.toI_ e0;obtain rfl := AV.toI_ e1;clear e0 e1;obtain ⟨a, rfl⟩ := eta (α := Int) a;obtain ⟨b, rfl⟩ := eta (α := Int) b;refine ⟨[], ?_⟩
 conv => arg 1; cbv
 simp (maxSteps := 4000000) only [P_vc, P_br, P_and, P_fin, V_nil, V_one, V_cons, T_self, castK, succK, Int.toNat_natCast, predK, decide_eq_true_eq, decide_eq_false_iff_not, List.map_cons, List.map_nil, cond_true, cond_false];have hp' : inI64 a /\ inI64 b := hp;simp [hp']
def conAwake : Con := ⟨10, [], fun
 | [] => some ⟨fun _ => True, .blit true⟩
 | _ => none⟩
set_option maxRecDepth 100000 in
set_option maxHeartbeats 4000000 in
theorem conAwake_ok : ConOk Tryz.prog conAwake := by
 refine fnOkO {} [conMiddle, conCargo, conFind, conLRatio] ⟨conMiddle_ok, conCargo_ok, conFind_ok, conLRatio_ok, trivial⟩ [fonEx15] ⟨fonEx15_ok, trivial⟩ Tryz.func10 (by kernel_rfl) fun avs res h hp => ?_;simp only [conAwake] at h;split at h
 case h_2 => cases h
 cases h;refine ⟨[], ?_⟩
 conv => arg 1; cbv
 simp (maxSteps := 4000000) only [P_vc, P_br, P_and, P_fin, V_nil, V_one, V_cons, T_self, castK, succK, Int.toNat_natCast, predK, decide_eq_true_eq, decide_eq_false_iff_not, List.map_cons, List.map_nil, cond_true, cond_false];simp only [show (⟨cols15, covs07, 0, 0, 0, 0, [], [], [], 0, 0, 0, 0⟩ : Shp) = ship15 from rfl, mid15_1, mid15_3, cargo15, ld_eta, find15];have h3 : state15.length <= 20 := by decide
 simp [ship15_pre, boxes15_pre, h3, inI64]
theorem found_id {bs : List Box} {id : Int} (h : (findV bs id).2 = true) : (findV bs id).1.id = id /\ (findV bs id).1 ∈ bs := by
 unfold findV at h ⊢
 cases hf : bs.find? (isId id) with
 | none => rw [hf] at h; cases h
 | some b =>
  have := List.find?_some hf;unfold isId at this;exact ⟨by simpa using this, List.mem_of_find?_eq_some hf⟩
theorem cargo_stow {s : Shp} {bs : List Box} {l : List Stowed} (h : cargoB s bs l = true) : stowB s bs l = true := by
 unfold cargoB at h;simp only [Bool.and_eq_true] at h;exact h.2
theorem middle_none {s : Shp} {bs : List Box} {l : List Stowed} (h : cargoB s bs l = true) {id : Int} (hn : ∀ e ∈ l, e.box ≠ id) : middleF s bs l id = (0, 0, 0, 6) := by
 have hs := cargo_stow h;rcases idx_cases (midIs id) (midsL s.cols bs (sortT l)) with ⟨h1, _⟩ | ⟨k, hk, h1, h2, _⟩
 . unfold middleF;rw [h, h1];rfl
 . exfalso;have hlen : (midsL s.cols bs (sortT l)).length = (sortT l).length := by unfold midsL; rw [midsK_len]
   have hm := List.getElem_mem hk;obtain ⟨j, hj, he⟩ := List.mem_map.1 hm;rw [List.mem_range] at hj;rw [<- he] at h2;unfold midIs midOf at h2;simp only [decide_eq_true_eq] at h2;rw [List.getD_eq_getElem?_getD, List.getElem?_eq_getElem hj, Option.getD_some] at h2;have hxl : (sortT l)[j] ∈ l := (sortT_perm l).mem_iff.1 (List.getElem_mem hj);rw [(found_id (stow_found hs _ hxl)).1] at h2;exact hn _ hxl h2
theorem made_far (d : List Drp) : ∀ b ∈ madeB d, b.id ≠ 999 := fun b hb => by
 unfold madeB boxesK at hb;obtain ⟨i, _, rfl⟩ := List.mem_map.1 hb;show 5 * ((i : Int) + 1) ≠ 999
 omega
theorem made_far0 (d : List Drp) : (findV (madeB d) 999).2 = false := by
 unfold findV;rw [List.find?_eq_none.2 fun b hb => by have := made_far d b hb; simp [isId, this]]
theorem last_at {α : Type} (l : List α) (x d : α) : (l ++ [x]).getD l.length d = x := by simp [List.getD_eq_getElem?_getD]
theorem wrong_state (s : Shp) (d : List Drp) (st : List Stowed) : cargoB s (madeB d) (st ++ [⟨999, 0, 0, 0⟩]) = false := by
 have h : stowB s (madeB d) (st ++ [⟨999, 0, 0, 0⟩]) = false := stow_bad (k := st.length) (by simp) (by
  unfold stowAt;rw [last_at, made_far0]
  rfl)
 unfold cargoB;rw [h, Bool.and_false]
theorem boxBad_valid {l : List Box} {k : Nat} (hk : k < l.length) (h : boxBad l k = true) : (boxValid l).2 ≠ 0 := by
 unfold boxValid;split
 . decide
 . cases hf : (List.range l.length).find? (boxBad l) with
   | some k => simp
   | none =>
    have := List.find?_eq_none.1 hf k (List.mem_range.2 hk);exact absurd h this
theorem wrong_box (s : Shp) (bs : List Box) (st : List Stowed) : cargoB s (bs ++ [⟨999, noText, 20, false, 0, 0, 1, 0, false⟩]) st = false := by
 have h := boxBad_valid (l := bs ++ [⟨999, noText, 20, false, 0, 0, 1, 0, false⟩]) (k := bs.length) (by simp) (by
  unfold boxBad;rw [List.getElem?_append_right (Nat.le_refl _), Nat.sub_self];have : boxB ⟨999, noText, 20, false, 0, 0, 1, 0, false⟩ = false := by simp [boxB, bRule, bWithin]
  simp [this])
 unfold cargoB;rw [decide_eq_false h, Bool.false_and]
theorem wrong_cols {s : Shp} (bs : List Box) (st : List Stowed) {c : Col} (hc : c ∈ s.cols) : cargoB { s with cols := s.cols ++ [c] } bs st = false := by
 have h : shipB { s with cols := s.cols ++ [c] } = false := by
  unfold shipB;have : ¬ (shipKeys { s with cols := s.cols ++ [c] }).Nodup := by
   unfold shipKeys;intro h;have h1 := (List.nodup_append.1 h).1;rw [List.map_append] at h1;have h2 := (List.nodup_append.1 h1).2.2;exact h2 (colKey c) (List.mem_map.2 ⟨c, hc, rfl⟩) (colKey c) (by simp) rfl
  rw [decide_eq_false this];simp
 unfold cargoB stowB;rw [h];simp
theorem wrong_slot {s : Shp} (bs : List Box) (st : List Stowed) (b : Box) (h : ∀ c ∈ s.cols, c.tiers <= 99) : cargoB s bs (st ++ [⟨999, 0, 99, 0⟩]) = false := by
 have hs : stowB s bs (st ++ [⟨999, 0, 99, 0⟩]) = false := stow_bad (k := st.length) (by simp) (by
  unfold stowAt;rw [last_at];have : ∀ z, slotOk s.cols (slotOf ⟨999, 0, 99, 0⟩) z = false := fun z => by
   unfold slotOk slotOf;by_cases h0 : (0 : Int) < (s.cols.length : Int)
   . have := h _ (getD_mem Tc.col.dflt (show 0 < s.cols.length by omega));have h1 : ¬ (99 : Int) < (s.cols.getD 0 Tc.col.dflt).tiers := by omega
     have h2 : decide ((99 : Int) < (s.cols.getD (Int.toNat 0) Tc.col.dflt).tiers) = false := decide_eq_false h1;simp only [h2, Bool.false_and, Bool.and_false]
   . simp only [decide_eq_false h0, Bool.false_and, Bool.and_false]
  rw [this]
  simp)
 unfold cargoB;rw [hs, Bool.and_false]
theorem wrong_cargo {s : Shp} {bs : List Box} {st : List Stowed} (h : cargoB s bs st = false) (id : Int) : (cargoF s bs st).2 = 2 /\ (middleF s bs st id).2.2.2 = 2 := by
 unfold cargoF middleF;rw [h];exact ⟨rfl, rfl⟩
theorem made_none {l : List Plc} {n : Int} {d : List Drp} (hw : ∀ p ∈ l, plcOk p) (hd : ∀ x ∈ d, drpOk x) : (middleF (madeS l n) (madeB d) (madeT l n d) 999).2.2.2 = 6 := by
 rw [middle_none (made_cargo hw hd) fun e he h => ?_];have h1 := stow_found (made_stow (d := d) (n := n) hw) e he;rw [h, made_far0] at h1;cases h1
/- loads -/
theorem add_bad {x : Ld} (h : ldOk x = false) (y : Ld) : (addF [y, x]).2 = 2 := by
 unfold addF;have : [y, x].any ldBad = true := by simp [ldBad, h]
 rw [if_pos this]
theorem find_bad {x : Ld} (h : ldOk x = false) : (findF x).2 = 2 := by
 unfold findF;rw [h];rfl
theorem point_bad {k x y z : Int} (h : k > 500000000 \/ x > 1100000 \/ z < -1100000) : (pointF k x y z).2 = 2 := by
 unfold pointF;rw [if_neg];intro h1;simp only [Bool.and_eq_true] at h1;have a := wOk_iff.1 h1.1;have b := inArm_iff.1 h1.2.1;have c := inArm_iff.1 h1.2.2.2;omega
def badLd (k : Int) (r : Int) : Ld := cond (decide (r = 0)) ⟨-1, 0, 0, 0⟩ (cond (decide (r = 1)) ⟨500000001, 0, 0, 0⟩ (cond (decide (r = 2)) ⟨k, k * 1100000 + 1, 0, 0⟩ (cond (decide (r = 3)) ⟨k, 0, -k * 1100000 - 1, 0⟩ (cond (decide (r = 4)) ⟨k, 0, 0, k * 1100000 + 1⟩ ⟨0, 1, 0, 0⟩))))
theorem bad_bad (k r : Int) : ldOk (badLd k r) = false := by
 cases h : ldOk (badLd k r) with
 | false => rfl
 | true =>
  obtain ⟨⟨h1, h2⟩, ⟨h3, h4⟩, ⟨h5, h6⟩, h7, h8⟩ := ldOk_nums h;unfold badLd at *
  by_cases e0 : r = 0
  . simp only [decide_eq_true e0, cond_true] at h1; omega
  by_cases e1 : r = 1
  . simp only [decide_eq_false e0, decide_eq_true e1, cond_true, cond_false] at h2; omega
  by_cases e2 : r = 2
  . simp only [decide_eq_false e0, decide_eq_false e1, decide_eq_true e2, cond_true, cond_false] at h4; omega
  by_cases e3 : r = 3
  . simp only [decide_eq_false e0, decide_eq_false e1, decide_eq_false e2, decide_eq_true e3, cond_true, cond_false] at h5; omega
  by_cases e4 : r = 4
  . simp only [decide_eq_false e0, decide_eq_false e1, decide_eq_false e2, decide_eq_false e3, decide_eq_true e4, cond_true, cond_false] at h8; omega
  . simp only [decide_eq_false e0, decide_eq_false e1, decide_eq_false e2, decide_eq_false e3, decide_eq_false e4, cond_true, cond_false] at h4; omega
theorem bad_eq (k r : Int) : (⟨bif decide (r = ((0 : Nat) : Int)) then -1 else bif decide (r = ((1 : Nat) : Int)) then 500000001 else bif decide (r = ((2 : Nat) : Int)) then k else bif decide (r = ((3 : Nat) : Int)) then k else bif decide (r = ((4 : Nat) : Int)) then k else 0, bif decide (r = ((0 : Nat) : Int)) then 0 else bif decide (r = ((1 : Nat) : Int)) then 0 else bif decide (r = ((2 : Nat) : Int)) then k * 1100000 + 1 else bif decide (r = ((3 : Nat) : Int)) then 0 else bif decide (r = ((4 : Nat) : Int)) then 0 else 1, bif decide (r = ((0 : Nat) : Int)) then 0 else bif decide (r = ((1 : Nat) : Int)) then 0 else bif decide (r = ((2 : Nat) : Int)) then 0 else bif decide (r = ((3 : Nat) : Int)) then -k * 1100000 - 1 else bif decide (r = ((4 : Nat) : Int)) then 0 else 0, bif decide (r = ((0 : Nat) : Int)) then 0 else bif decide (r = ((1 : Nat) : Int)) then 0 else bif decide (r = ((2 : Nat) : Int)) then 0 else bif decide (r = ((3 : Nat) : Int)) then 0 else bif decide (r = ((4 : Nat) : Int)) then k * 1100000 + 1 else 0⟩ : Ld) = badLd k r := by
 unfold badLd;have e : ((0 : Nat) : Int) = 0 /\ ((1 : Nat) : Int) = 1 /\ ((2 : Nat) : Int) = 2 /\ ((3 : Nat) : Int) = 3 /\ ((4 : Nat) : Int) = 4 := ⟨rfl, rfl, rfl, rfl, rfl⟩
 simp only [e.1, e.2.1, e.2.2.1, e.2.2.2.1, e.2.2.2.2];cases decide (r = 0) <;> cases decide (r = 1) <;> cases decide (r = 2) <;> cases decide (r = 3) <;> cases decide (r = 4) <;> rfl
theorem wrong_end {s : Shp} {bs : List Box} {st : List Stowed} (hp : shipPre s) (hb : boxesPre bs) (hl : st.length <= 20) (h : cargoB s bs st = false) : (shipPre s /\ boxesPre bs /\ st.length <= 20) /\ (shipPre s /\ boxesPre bs /\ st.length <= 20) /\ (((cargoF s bs st).2 = 2 -> (middleF s bs st 5).2.2.2 = 2) /\ (¬ (cargoF s bs st).2 = 2 -> false = true)) :=
 ⟨⟨hp, hb, hl⟩, ⟨hp, hb, hl⟩, fun _ => (wrong_cargo h 5).2, fun g => absurd (wrong_cargo h 5).1 g⟩
def conMomentWrong : Con := ⟨7, [.sl .plc, .int .u32, .sl .drp, .int .u16, .int .u8], fun
 | [x0, x1, x2, x3, x4] => (x0.toPlcs).bind fun l => (x1.toU32).bind fun n => (x2.toDrps).bind fun d => (x3.toU16).bind fun kilos => (x4.toU8).bind fun way => some ⟨fun _ => (((∀ p ∈ l (), plcOk p) /\ (l ()).length <= 140737488351232) /\ (0 <= n () /\ n () <= 4294967295) /\ (∀ x ∈ d (), drpOk x) /\ (d ()).length <= 140737488351232) /\ (0 <= kilos () /\ kilos () <= 65535) /\ (0 <= way () /\ way () <= 255), .bool fun _ => true⟩
 | _ => none⟩
set_option maxRecDepth 100000 in
set_option maxHeartbeats 4000000 in
theorem conMomentWrong_ok : ConOk Tryz.prog conMomentWrong := by
 refine fnOkO { kp := [(0, [0, 1, 2, 3, 4]), (1, [0, 1, 2, 3, 4]), (2, []), (3, [0, 1, 2, 3, 4]), (4, [0, 1, 2, 4, 11]), (5, [0, 1, 2, 4, 11, 12]), (6, [0, 1, 2, 4, 11, 12, 14]), (7, [0, 1, 2, 4, 11, 12, 14, 16]), (8, [0, 1, 2, 4, 11, 12, 14, 16, 18]), (9, [0, 1, 2, 4, 11, 12, 14, 16, 18, 20]), (10, [0, 1, 2, 4, 12, 14, 16, 18, 20, 22]), (11, [4, 12, 14, 16, 18, 20, 22, 23, 24, 25]), (12, [4, 12, 14, 16, 18, 20, 22, 23, 24, 25, 29]), (13, []), (14, [4, 23, 24, 25]), (15, [23, 24, 25]), (16, [23, 24, 25]), (17, [23, 24, 25, 127]), (18, [23, 24, 25]), (19, [23, 24, 25, 127]), (20, [23, 24, 25]), (21, [23, 24, 25, 127]), (22, [23, 24, 25]), (23, [23, 24, 25]), (24, [14, 23, 24, 25]), (25, [14, 16])], lt := [(22, ⟨[0, 2, 1, 3, 4, 5, 6, 7, 8, 9], [0, 2], [3, 4, 5], [⟨[0, 1, 3, 4, 5], [23, 24, 25, 151, 152, 156, 157, 158, 159], (0, 5), [(2, 1, 1), (6, 6, 2)]⟩, ⟨[0, 1, 2, 3, 4, 5], [23, 24, 25, 152, 156, 157, 158, 159], (0, 1), [(6, 6, 3)]⟩, ⟨[0, 1, 3, 4, 5, 6], [23, 24, 25, 151, 152, 157, 158, 159], (0, 6), [(2, 1, 3)]⟩, ⟨[0, 1, 2, 3, 4, 5, 6], [23, 24, 25, 152, 157, 158, 159], (1, 6), []⟩], [7, 8, 9]⟩)], ct := [10, 14] } [conAwake, conMAdd, conFind, conMPoint, conMiddle, conMRight, conCargo] ⟨conAwake_ok, conMAdd_ok, conFind_ok, conMPoint_ok, conMiddle_ok, conMRight_ok, conCargo_ok, trivial⟩ [fonMade] ⟨fonMade_ok, trivial⟩ Tryz.func7 (by kernel_rfl) fun avs res h hp => ?_;simp only [conMomentWrong] at h;split at h
 case h_2 => cases h
 rename_i x0 x1 x2 x3 x4;simp only [Option.bind_eq_some_iff, Option.some.injEq] at h;obtain ⟨l, e0, n, e1, d, e2, kilos, e3, way, e4, rfl⟩ := h;obtain rfl := AV.toPlcs_ e0;obtain rfl := AV.toU32_ e1;obtain rfl := AV.toDrps_ e2;obtain rfl := AV.toU16_ e3;obtain rfl := AV.toU8_ e4;clear e0 e1 e2 e3 e4;obtain ⟨l, rfl⟩ := eta (α := List Plc) l;obtain ⟨n, rfl⟩ := eta (α := Int) n;obtain ⟨d, rfl⟩ := eta (α := List Drp) d;obtain ⟨kilos, rfl⟩ := eta (α := Int) kilos;obtain ⟨way, rfl⟩ := eta (α := Int) way;have hZhm : (((∀ p ∈ l, plcOk p) /\ l.length <= 140737488351232) /\ (0 <= n /\ n <= 4294967295) /\ (∀ x ∈ d, drpOk x) /\ d.length <= 140737488351232) /\ (0 <= kilos /\ kilos <= 65535) /\ (0 <= way /\ way <= 255) := hp;have hm := hZhm.1;have hk := hZhm.2.1;have hy := hZhm.2.2;refine ⟨[], ?_⟩
 conv => arg 1; cbv
 simp (maxSteps := 4000000) only [P_vc, P_br, P_and, P_fin, V_nil, V_one, V_cons, T_self, castK, succK, Int.toNat_natCast, predK, decide_eq_true_eq, decide_eq_false_iff_not, List.map_cons, List.map_nil, cond_true, cond_false, true_and, and_true, eq_self];have hb := bad_bad kilos (way.tmod 6);simp only [bad_eq];refine ⟨by simp only [inI64]; omega, by simp only [inI64]; omega, by simp only [inI64]; omega, by simp only [inI64]; omega, by simp only [inI64]; omega, by simp only [inI64]; omega, by simp only [inI64]; omega, by simp only [inI64]; omega, by decide, ⟨Int.tmod_nonneg _ hy.1, Int.tmod_lt_of_pos _ (by omega)⟩, by simp, fun _ _ => ?_⟩
 conv => arg 1; cbv
 simp (maxSteps := 4000000) only [P_vc, P_br, P_and, P_fin, V_nil, V_one, V_cons, T_self, castK, succK, Int.toNat_natCast, predK, decide_eq_true_eq, decide_eq_false_iff_not, List.map_cons, List.map_nil, cond_true, cond_false, true_and, and_true, eq_self];simp only [bad_eq];have e1 := add_bad hb ⟨0, 0, 0, 0⟩;have e2 := find_bad hb;have e3 : (pointF kilos 1100001 0 0).2 = 2 := point_bad (by omega);have e4 : (pointF 500000001 0 0 0).2 = 2 := point_bad (by omega);have e5 : (pointF kilos 0 0 (-1100001)).2 = 2 := point_bad (by omega);have e6 := made_none (n := n) hm.1.1 hm.2.2.1;have htl := madeT_len l n d;refine ⟨hm, ⟨built_pre hm.1.1, madeB_pre d, by omega⟩, fun h => absurd h (by rw [hb]; decide), fun _ => ⟨fun h => absurd h (by rw [e1]; decide), fun _ => ⟨fun h => absurd h (by rw [e2]; decide), fun _ => ⟨fun h => absurd h (by rw [e3]; decide), fun _ => ⟨fun h => absurd h (by rw [e4]; decide), fun _ => ⟨fun h => absurd h (by rw [e5]; decide), fun _ => ⟨fun h => absurd h (by rw [shp_eta, e6]; decide), fun _ => fun _ _ => ?_⟩⟩⟩⟩⟩⟩⟩
 conv => arg 1; cbv
 simp (maxSteps := 4000000) only [P_vc, P_br, P_and, P_fin, V_nil, V_one, V_cons, T_self, castK, succK, Int.toNat_natCast, predK, decide_eq_true_eq, decide_eq_false_iff_not, List.map_cons, List.map_nil, cond_true, cond_false, true_and, and_true, eq_self];have hS := built_pre (n := n) hm.1.1;have hB := madeB_pre d;have hbl : (madeB d).length <= 16 := by unfold madeB; rw [boxesK_len]; omega
 have hcl := colsF_len l;have hcm := colsF_made hm.1.1;have hbm : ∀ b : Box, b.num = noText -> boxesPre (madeB d ++ [b]) := fun b hb => ⟨by rw [List.length_append]; simp only [List.length_cons, List.length_nil]; omega, fun x hx => by
  rcases List.mem_append.1 hx with h | h
  . exact hB.2 x h
  . rw [List.mem_singleton.1 h, hb]
    decide⟩
 have hst : ∀ x : Stowed, (madeT l n d ++ [x]).length <= 20 := fun x => by rw [List.length_append]; simp only [List.length_cons, List.length_nil]; omega
 refine ⟨by decide, fun _ => ⟨by simp only [List.length_cons, List.length_nil]; omega, wrong_end hS hB (hst _) (wrong_state _ d _)⟩, fun _ => ⟨fun _ => ⟨by simp only [List.length_cons, List.length_nil]; omega, wrong_end hS (hbm _ rfl) (by omega) (wrong_box _ _ _)⟩, fun _ => ⟨fun _ => ?_, fun _ => ?_⟩⟩⟩
 . have hc0 : (madeS l n).cols.getD (Int.toNat 0) Tc.col.dflt ∈ (madeS l n).cols := getD_mem Tc.col.dflt (show 0 < (colsF l).length by omega);exact ⟨⟨by omega, by have : (madeS l n).cols.length = (colsF l).length := rfl; omega⟩, by have : (madeS l n).cols.length = (colsF l).length := rfl; simp only [List.length_cons, List.length_nil]; omega, wrong_end (s := { madeS l n with cols := (madeS l n).cols ++ [(madeS l n).cols.getD (Int.toNat 0) Tc.col.dflt] }) ⟨fun c hc => (List.mem_append.1 hc).elim (hS.1 c) fun h => by rw [List.mem_singleton.1 h]; exact hS.1 _ hc0, hS.2⟩ hB (by omega) (wrong_cols _ _ hc0)⟩
 . exact ⟨by simp only [List.length_cons, List.length_nil]; omega, by simp only [List.length_cons, List.length_nil]; omega, wrong_end hS (hbm _ rfl) (hst _) (wrong_slot _ _ ⟨0, noText, 0, false, 0, 0, 0, 0, false⟩ fun c hc => by have := (hcm c hc).2.2.1; omega)⟩
open Go.ChangeShapes Go.Deep Go.WideShapes
theorem list_of {T : Type} {p : Nat -> T -> Prop} : ∀ (n : Nat), (∀ i, i < n -> ∃ x, p i x) -> ∃ l : List T, l.length = n /\ ∀ i (h : i < l.length), p i l[i]
 | 0, _ => ⟨[], rfl, by simp⟩
 | n + 1, h => by
  obtain ⟨l, hl, hp⟩ := list_of n (fun i hi => h i (by omega));obtain ⟨x, hx⟩ := h n (by omega);refine ⟨l ++ [x], by simp [hl], fun i hi => ?_⟩;by_cases e : i < l.length
  . rw [List.getElem_append_left e];exact hp i e
  . have e2 : i = n := by simp at hi; omega
    subst e2;rw [List.getElem_append_right (by omega)];simpa using hx
theorem below_all {H : Type} {enc : TypeId × Value -> H} {P : Program} (hl : laidOutB P = true) {W W' : World} (hb : Below W.heap.size W W') : ∀ {ts : List TypeId} {vs : List Value} {ds : List (DataW H)} {ps : List MemPlace}, (ts.all fun t => P.readableRec t && decide (t < P.types.size)) = true ->
 DataW.TrodAll enc P W 0 (fun _ => true) true ts vs ds ps -> (∀ x ∈ ps, x.block < W.heap.size) -> DataW.TrodAll enc P W' 0 (fun b => decide (b < W.heap.size)) true ts vs ds ps
 | [], vs, ds, ps, _, h, _ => by
  obtain ⟨rfl, rfl, rfl⟩ := trodAll_nil h;exact trodAll_mk0
 | t :: ts, vs, ds, ps, ht, h, hlt => by
  obtain ⟨v, vs', d, ds', p, q, rfl, rfl, rfl, hd, hr⟩ := trodAll_cons h;simp only [List.all_cons, Bool.and_eq_true, decide_eq_true_eq] at ht;exact ⟨p, q, Below.trod hl ht.1.1 ht.1.2 hd hb (fun x hx => hlt x (List.mem_append_left _ hx)), below_all hl hb (by simpa using ht.2) hr (fun x hx => hlt x (List.mem_append_right _ hx)), rfl⟩
theorem Tryz.own : ownKnob Tryz.prog.godebug = none := by kernel_rfl
theorem Tryz.laidOut : laidOutB Tryz.prog = true := by kernel_rfl
section
variable {H : Type} {enc : TypeId × Value -> H} {P : Program} {w : World} {base : Nat} {held : Bool}
def Fits (P : Program) (t : TypeId) (d : DataW H) : Prop := ∀ k ∈ d.weights P t, k <= 140737488351232
theorem weightsAll_mem {t : TypeId} : ∀ {ds : List (DataW H)} {d : DataW H}, d ∈ ds -> ∀ k ∈ d.weights P t, k ∈ DataW.weightsAll P t ds
 | [], _, h, _, _ => by cases h
 | d0 :: ds, d, h, k, hk => by
  unfold DataW.weightsAll;rw [List.mem_append];rcases List.mem_cons.1 h with h | h
  . subst h; exact .inl hk
  . exact .inr (weightsAll_mem h k hk)
theorem Fits.elem {t e : TypeId} {els sp : List (DataW H)} {d : DataW H} (ht : P.underlying t = some (.slice e)) (h : Fits P t (.slice els sp)) (hd : d ∈ els) : Fits P e d := fun k hk => h k (by
 simp only [DataW.weights, ht, List.mem_cons, List.mem_append];exact .inr (.inl (weightsAll_mem hd k hk)))
theorem Fits.size {t e : TypeId} {els sp : List (DataW H)} (ht : P.underlying t = some (.slice e)) (h : Fits P t (.slice els sp)) : (els.length + sp.length) * P.bytesOf e <= 140737488351232 := h _ (by
 simp only [DataW.weights, ht, List.mem_cons];exact .inl trivial)
theorem Fits.field {t : TypeId} {fs : Array Field} {parts : List (DataW H)} {j : Nat} {f : Field} {d : DataW H} (ht : P.underlying t = some (.struct fs)) (h : Fits P t (.agg parts)) (hj : fs[j]? = some f) (hd : parts[j]? = some d) : Fits P f.type d := fun k hk => h k (by
 simp only [DataW.weights, ht];exact DataW.weights_mem_each (j := j) (t := f.type) (by simp [hj]) hd k hk)
theorem fits_of {ts : List TypeId} {ds : List (DataW H)} (h : (DataW.weightsEach P ts ds).all (· <= reachBytes) = true) {j : Nat} {t : TypeId} {d : DataW H} (ht : ts[j]? = some t) (hd : ds[j]? = some d) : Fits P t d := fun k hk => by
 have := List.all_eq_true.1 h _ (DataW.weights_mem_each ht hd k hk);exact of_decide_eq_true this
theorem open_rows {T : Type} {cells : T -> List Value} {wf : T -> Prop} {t e size bytes fuel : Nat} {v : Value} {x : DataW H × List MemPlace} (ht : P.underlying t = some (.slice e)) (hC : P.cellsOf e = size) (h0 : 0 < size) (hB : P.bytesOf e = bytes)
 (hel : ∀ n cs (y : DataW H × List MemPlace), DataW.trod enc P w base (fun _ => true) held n e cs = some y -> Fits P e y.1 -> ∃ b : T, cs = cells b /\ wf b)
 (h : DataW.trod enc P w base (fun _ => true) held fuel t [v] = some x) (hf : Fits P t x.1) :
 ∃ (A : Option Addr) (l : List T) (c : Nat), v = .slice A l.length c /\ Rd w w.heap.size size A (l.map cells) /\ (∀ b ∈ l, wf b) /\ l.length * bytes <= 140737488351232 /\ l.length <= c := by
 rcases open_slice ht h with ⟨hcs, hx⟩ | ⟨a, len, cap, m, n, D, Pl, hcs, hb, hl, hm, hmm, hx, hi⟩
 . injection hcs with hv _;subst hv;exact ⟨none, [], 0, rfl, Rd.nil _ _ _ _, by simp, by simp, by simp⟩
 . injection hcs with hv _;subst hv;subst hx;simp only [if_true] at hmm;subst hmm;have hsz := Fits.size ht hf;rw [hB] at hsz;simp only [List.length_map, List.length_range] at hsz;have key : ∀ i, i < len -> ∃ b : T, wf b /\ (cells b).length = size /\ ∀ j u, (cells b)[j]? = some u -> w.cell? ((a.add (i * size)).add j) = some u := fun i hlt => by
    obtain ⟨cs, hc, ht'⟩ := hi i (by omega);obtain ⟨b, rfl, hw⟩ := hel n cs (D i, Pl i) ht' (Fits.elem ht hf (List.mem_map_of_mem (List.mem_range.2 hlt)));obtain ⟨_, hcl, hat⟩ := World.cells?_some hc;rw [hC] at hcl hat hc;refine ⟨b, hw, hcl, fun j u hu => ?_⟩;rw [hat j (by rw [<- hcl]; exact (List.getElem?_eq_some_iff.1 hu).1)];exact hu
   obtain ⟨l, hll, hp⟩ := list_of len key;subst hll;refine ⟨some a, l, m, rfl, fun k cs hk => ?_, fun b hb' => ?_, Nat.le_trans (Nat.mul_le_mul_right bytes (by omega)) hsz, by omega⟩
   . rw [List.getElem?_map] at hk;obtain ⟨b, hbk, rfl⟩ := Option.map_eq_some_iff.1 hk;have hkl : k < l.length := (List.getElem?_eq_some_iff.1 hbk).1;obtain ⟨_, hcl, hc⟩ := hp k hkl;have hbe : l[k] = b := by rw [List.getElem?_eq_getElem hkl] at hbk; injection hbk
     rw [hbe] at hcl hc;have hu0 : (cells b)[0]? = some ((cells b)[0]'(by omega)) := List.getElem?_eq_getElem (by omega);have hc0 := hc 0 _ hu0;have hlt := block_lt_of_cell hc0;obtain ⟨_, hcl0, hcz⟩ := hp 0 (by omega);have hsp := World.cell?_spot (hcz 0 _ (List.getElem?_eq_getElem (by omega)));obtain ⟨ab, ao, asp⟩ := a;have has : asp = none := by simpa [Addr.add] using hsp
     subst has;refine ⟨ab, ao, rfl, by simpa [Addr.add_lit] using hlt, hcl, fun j u hu => ?_⟩;have := hc j u hu;rwa [Addr.add_lit, Addr.add_lit] at this
   . obtain ⟨k, hk, rfl⟩ := List.mem_iff_getElem.1 hb';exact (hp k hk).1
end
section
variable {H : Type} {enc : TypeId × Value -> H} {w : World} {base : Nat} {spare : Nat -> Bool} {held : Bool}
end
def sgB : Sg -> Sg -> Bool
 | .int k, .int k' => decide (k = k')
 | .bool, .bool => true
 | .str, .str => true
 | .sl t, .sl t' => decide (t = t')
 | _, _ => false
def sgLB : List Sg -> List Sg -> Bool
 | [], [] => true
 | a :: l, b :: m => sgB a b && sgLB l m
 | _, _ => false
theorem sgB_eq {a b : Sg} (h : sgB a b = true) : a = b := by
 unfold sgB at h;split at h <;> first | rfl | (simp only [decide_eq_true_eq] at h; rw [h]) | cases h
theorem sgLB_eq : ∀ {a b : List Sg}, sgLB a b = true -> a = b
 | [], [], _ => rfl
 | a :: l, b :: m, h => by
  simp only [sgLB, Bool.and_eq_true] at h;rw [sgB_eq h.1, sgLB_eq h.2]
 | [], _ :: _, h => by cases h
 | _ :: _, [], h => by cases h
def opnFs (P : Program) (g : TypeId -> Option (List Sg)) : List Field -> Nat -> Option (List Sg)
 | [], _ => some []
 | f :: fs, o => match g f.type, opnFs P g fs (o + P.cellsOf f.type) with
  | some a, some b => if f.offset == o && a.length == P.cellsOf f.type then some (a ++ b) else none
  | _, _ => none
def opn (P : Program) (tc : List (Nat × Tc)) : Nat -> TypeId -> Option (List Sg)
 | 0, _ => none
 | n + 1, T => match P.underlying T with
  | some (.int k) => some [.int k]
  | some .bool => some [.bool]
  | some .string => some [.str]
  | some (.slice e) => match alook tc e with
   | some t => match opn P tc n e with
    | some ss => if sgLB ss (sgOf t) && P.cellsOf e == t.size && decide (0 < P.bytesOf e) then some [.sl t] else none
    | none => none
   | none => none
  | some (.struct fs) => match opnFs P (opn P tc n) fs.toList 0 with
   | some ss => if ss.length == P.cellsOf T then some ss else none
   | none => none
  | _ => none
def Sh : Sg -> AV -> Prop
 | .int k, x => ∃ n : Int, x = .int k fun _ => n
 | .bool, x => ∃ b : Bool, x = .bool fun _ => b
 | .str, x => ∃ s : ByteArray, x = .str fun _ => s
 | .sl t, x => ∃ l : List t.el, x = .sl false t fun _ => l
 | _, _ => False
def ShL : List Sg -> List AV -> Prop
 | [], l => l = []
 | s :: ss, l => ∃ x xs, l = x :: xs /\ Sh s x /\ ShL ss xs
def WfAV : Nat -> AV -> Prop
 | 0, _ => True
 | _ + 1, .int k n => (Lit.int k (n ())).wf = true
 | _ + 1, .str s => (s ()).size <= 140737488351232
 | d + 1, .sl _ t l => (l ()).length <= 140737488351232 /\ ∀ e ∈ l (), ∀ x ∈ cellsAV false t (fun _ => e), WfAV d x
 | _, _ => True
theorem WfAV.down : ∀ (d : Nat) (x : AV), WfAV (d + 1) x -> WfAV d x
 | 0, _, _ => trivial
 | d + 1, .int _ _, h => h
 | d + 1, .str _, h => h
 | d + 1, .sl _ _ _, h => ⟨h.1, fun e he x hx => WfAV.down d x (h.2 e he x hx)⟩
 | d + 1, .un, _ => trivial
 | d + 1, .lit _ _, _ => trivial
 | d + 1, .bool _, _ => trivial
 | d + 1, .blit _, _ => trivial
 | d + 1, .nil, _ => trivial
 | d + 1, .wide _ _ _ _, _ => trivial
 | d + 1, .pto _ _, _ => trivial
 | d + 1, .ptr _ _, _ => trivial
 | d + 1, .own _, _ => trivial
 | d + 1, .orp _ _ _ _, _ => trivial
 | d + 1, .mp _, _ => trivial
 | d + 1, .stamp _, _ => trivial
 | d + 1, .it _ _, _ => trivial
 | d + 1, .agg _, _ => trivial
 | d + 1, .tup _, _ => trivial
 | d + 1, .fn _ _, _ => trivial
theorem ShL.app : ∀ {a b : List Sg} {l m : List AV}, ShL a l -> ShL b m -> ShL (a ++ b) (l ++ m)
 | [], b, l, m, h, h2 => by
  rw [show l = [] from h];exact h2
 | s :: a, b, l, m, h, h2 => by
  obtain ⟨x, xs, rfl, h3, h4⟩ := h;exact ⟨x, xs ++ m, rfl, h3, h4.app h2⟩
set_option maxHeartbeats 1000000 in
theorem mk_of {t : Tc} {avs : List AV} (h : ShL (sgOf t) avs) (hq : (sgOf t).all (fun s => match s with | .wide _ => false | _ => true) = true) : ∃ e : t.el, avs = cellsAV false t fun _ => e := by
 cases t <;> first
  | (exact absurd hq (by decide))
  | (simp only [sgOf] at h
     repeat (obtain ⟨_, _, rfl, ⟨_, rfl⟩, h⟩ := h)
     first
      | exact ⟨(_ : Int), rfl⟩
      | exact ⟨⟨_, _⟩, rfl⟩
      | exact ⟨⟨_, _, _⟩, rfl⟩
      | exact ⟨⟨_, _, _, _⟩, rfl⟩
      | exact ⟨⟨_, _, _, _, _⟩, rfl⟩
      | exact ⟨⟨_, _, _, _, _, _⟩, rfl⟩
      | exact ⟨⟨_, _, _, _, _, _, _, _, _⟩, rfl⟩
      | exact ⟨⟨_, _, _, _, _, _, _, _, _, _, _, _⟩, rfl⟩
      | exact ⟨⟨⟨_, _, _, _, _, _, _, _, _⟩, _, _, _⟩, rfl⟩)
section
variable {H : Type} {enc : TypeId × Value -> H} {P : Program} {w : World} {held : Bool} {tc : List (Nat × Tc)}
def allRo (w : World) : Nat -> Prop := fun b => b < w.heap.size
theorem fs_ok {g : TypeId -> Option (List Sg)} {m : Nat} {cs : List Value} {T : TypeId} {fields : Array Field} {parts : List (DataW H × List MemPlace)} (hT : P.underlying T = some (.struct fields)) (hfit : Fits P T (.agg (parts.map (·.1))))
 (hg : ∀ (f : Field) (ss : List Sg) (cs : List Value) (y : DataW H × List MemPlace), g f.type = some ss -> DataW.trod enc P w 0 (fun _ => true) held m f.type cs = some y -> Fits P f.type y.1 -> ∃ avs, Each w (fun _ => none) 0 (allRo w) avs cs /\ ShL ss avs /\ ∀ x ∈ avs, WfAV 4 x)
 (hfield : ∀ (i : Nat) (f : Field), fields[i]? = some f -> DataW.trod enc P w 0 (fun _ => true) held m f.type ((cs.drop f.offset).take (P.cellsOf f.type)) = parts[i]?) (hpl : parts.length = fields.size) :
 ∀ (fs : List Field) (i o : Nat) (ss : List Sg), fields.toList.drop i = fs -> opnFs P g fs o = some ss -> ∃ avs, Each w (fun _ => none) 0 (allRo w) avs ((cs.drop o).take ss.length) /\ ShL ss avs /\ ∀ x ∈ avs, WfAV 4 x
 | [], i, o, ss, hi, h => by
  simp only [opnFs, Option.some.injEq] at h;subst h;exact ⟨[], by simpa using Each.nil, rfl, by simp⟩
 | f :: fs, i, o, ss, hi, h => by
  unfold opnFs at h;split at h
  . rename_i a b ha hb;split at h
    . rename_i hc;simp only [Bool.and_eq_true, beq_iff_eq] at hc;obtain ⟨hc1, hc2⟩ := hc;cases h;have hil : i < fields.toList.length := by
       rcases Nat.lt_or_ge i fields.toList.length with h | h
       . exact h
       . rw [List.drop_of_length_le h] at hi; cases hi
      rw [List.drop_eq_getElem_cons hil] at hi;injection hi with h1 h2;have hf : fields[i]? = some f := by rw [<- h1]; simp
      have hp := hfield i f hf;have hip : i < parts.length := by rw [hpl]; simpa using hil
      rw [List.getElem?_eq_getElem hip] at hp;obtain ⟨avs, q1, q2, q3⟩ := hg f a _ _ ha hp (Fits.field hT hfit hf (by simp [hip]));obtain ⟨bvs, r1, r2, r3⟩ := fs_ok hT hfit hg hfield hpl fs (i + 1) (o + P.cellsOf f.type) b h2 hb;refine ⟨avs ++ bvs, ?_, q2.app r2, fun x hx => ?_⟩
      . rw [hc1] at q1;have e : (cs.drop o).take (a ++ b).length = (cs.drop o).take (P.cellsOf f.type) ++ (cs.drop (o + P.cellsOf f.type)).take b.length := by
         rw [List.length_append, hc2, List.take_add, List.drop_drop]
        rw [e];exact q1.append r1
      . rcases List.mem_append.1 hx with h | h
        . exact q3 x h
        . exact r3 x h
    . cases h
  . cases h
theorem opn_ok : ∀ (n m : Nat) (T : TypeId) (ss : List Sg) (cs : List Value) (y : DataW H × List MemPlace), opn P tc n T = some ss -> DataW.trod enc P w 0 (fun _ => true) held m T cs = some y -> Fits P T y.1 -> ∃ avs, Each w (fun _ => none) 0 (allRo w) avs cs /\ ShL ss avs /\ ∀ x ∈ avs, WfAV 4 x
 | 0, _, _, _, _, _, h, _, _ => by cases h
 | n + 1, m, T, ss, cs, y, h, ht, hf => by
  unfold opn at h;split at h
  . rename_i k hu;cases h;obtain ⟨z, rfl, _, hw⟩ := DataW.trod_int hu ht;refine ⟨[.int k fun _ => z], .cons (.int k _) .nil, ⟨_, _, rfl, ⟨z, rfl⟩, rfl⟩, ?_⟩;intro x hx;rw [List.mem_singleton.1 hx];exact hw
  . rename_i hu;cases h;obtain ⟨z, rfl, _⟩ := DataW.trod_bool hu ht;refine ⟨[.bool fun _ => z], .cons (.bool _) .nil, ⟨_, _, rfl, ⟨z, rfl⟩, rfl⟩, ?_⟩;intro x hx;rw [List.mem_singleton.1 hx];trivial
  . rename_i hu;cases h;obtain ⟨z, rfl, hy, _⟩ := DataW.trod_string hu ht;refine ⟨[.str fun _ => z], .cons (.str _) .nil, ⟨_, _, rfl, ⟨z, rfl⟩, rfl⟩, ?_⟩;intro x hx;rw [List.mem_singleton.1 hx];exact hf z.size (by rw [hy]; simp [DataW.weights, hu])
  . rename_i e hu;split at h
    . rename_i t htc;split at h
      . rename_i se hse;split at h
        . rename_i hc;cases h;simp only [Bool.and_eq_true, beq_iff_eq, decide_eq_true_eq] at hc;obtain ⟨⟨hc1, hc2⟩, hc3⟩ := hc;have hss := sgLB_eq hc1;have hq : (sgOf t).all (fun s => match s with | .wide _ => false | _ => true) = true := by
           rw [<- hss, List.all_eq_true];intro s hs;have : ∀ {a b : List Sg}, sgLB a b = true -> ∀ s ∈ a, (match s with | .wide _ => false | _ => true) = true := by
            intro a
            induction a with
            | nil => intro b _ s hs; cases hs
            | cons x a ih =>
             intro b h s hs
             cases b with
             | nil => cases h
             | cons z b =>
              simp only [sgLB, Bool.and_eq_true] at h;rcases List.mem_cons.1 hs with rfl | hs
              . have h1 := h.1;unfold sgB at h1;split at h1 <;> first | rfl | cases h1
              . exact ih h.2 s hs
           exact this hc1 s hs
          have hone : ∃ v, cs = [v] := by
           rcases open_slice hu ht with ⟨hcs, _⟩ | ⟨a, len, cap, m', n', D, Pl, hcs, _⟩ <;> exact ⟨_, hcs⟩
          obtain ⟨v, rfl⟩ := hone;obtain ⟨A, l, c, hv, hr, hw, hby, hlc⟩ := open_rows (T := List Value × t.el) (cells := fun p => p.1) (wf := fun p => Each w (fun _ => none) 0 (allRo w) (cellsAV false t fun _ => p.2) p.1 /\ ∀ x ∈ cellsAV false t (fun _ => p.2), WfAV 4 x) (size := t.size) (bytes := P.bytesOf e) hu hc2 (tc_size t) rfl (fun n' cs' y' h1 h2 => by
           obtain ⟨avs, q1, q2, q3⟩ := opn_ok n n' e se cs' y' hse h1 h2;rw [hss] at q2;obtain ⟨el, rfl⟩ := mk_of q2 hq;exact ⟨(cs', el), rfl, q1, q3⟩) ht hf
          have hll : l.length <= 140737488351232 := by
           have : l.length * 1 <= l.length * P.bytesOf e := Nat.mul_le_mul_left _ hc3;omega
          refine ⟨[.sl false t fun _ => l.map (·.2)], .cons ?_ .nil, ⟨_, _, rfl, ⟨_, rfl⟩, rfl⟩, ?_⟩
          . rw [hv];have key : AVR w (fun _ => none) 0 (allRo w) (.sl false t fun _ => l.map (·.2)) (.slice A (l.map (·.2)).length c) := by
             refine AVR.sl (ro := allRo w) false t (fun _ => l.map (·.2)) A c (l.map (·.1)) (by simp) (by simpa using hlc) hr (fun a ha hne => Rd.bound hr hne a ha) (fun h => by cases h) fun k cs j x v h1 h2 h3 => ?_;rw [List.getElem?_map] at h1;obtain ⟨p, hp, rfl⟩ := Option.map_eq_some_iff.1 h1;have hpm := hw p (List.mem_of_getElem? hp);have e1 : (l.map (·.2)).getD k t.dflt = p.2 := by simp [List.getD_eq_getElem?_getD, hp]
             rw [e1] at h2;exact hpm.1.2 j x v h2 h3
            rwa [List.length_map] at key
          . intro x hx;rw [List.mem_singleton.1 hx];refine ⟨by rw [List.length_map]; exact hll, fun el hel z hz => ?_⟩;obtain ⟨p, hp, rfl⟩ := List.mem_map.1 hel;exact WfAV.down 3 z ((hw p hp).2 z hz)
        . cases h
      . cases h
    . cases h
  . rename_i fs hu;split at h
    . rename_i ss' hfs;split at h
      . rename_i hlen;cases h;simp only [beq_iff_eq] at hlen;obtain ⟨xs, n2, rfl, hx, hcl, hxl, hg⟩ := DataW.trod_struct hu ht;subst hx;obtain ⟨avs, q1, q2, q3⟩ := fs_ok (m := n2) hu hf (fun f ss cs y h1 h2 h3 => opn_ok n n2 f.type ss cs y h1 h2 h3) hg hxl fs.toList 0 0 ss rfl hfs;rw [List.drop_zero, List.take_of_length_le (by omega)] at q1;exact ⟨avs, q1, q2, q3⟩
      . cases h
    . cases h
  . cases h
section
variable {b0 m : Nat} {r : Reach} {T : TypeId} {v : Value} {y : DataW H × List MemPlace}
theorem open_int {k : IntKind} (hT : P.underlying T = some (.int k)) (hv : Value.okWide P w r b0 T v) (ht : DataW.trod enc P w 0 (fun _ => true) held m T v.cells.toList = some y) : ∃ n : Int, AVR w (fun _ => none) 0 (allRo w) (.int k fun _ => n) v /\ (Lit.int k n).wf = true := by
 obtain ⟨n, rfl⟩ := okWide_int hT hv;obtain ⟨z, e, _, hw⟩ := DataW.trod_int hT ht;have e2 : [Value.int k n] = [Value.int k z] := e;injection e2 with e2;injection e2 with _ e2;subst e2;exact ⟨n, .int k _, hw⟩
theorem open_sl {e : TypeId} {t : Tc} {n : Nat} (hT : P.underlying T = some (.slice e)) (ho : opn P tc n T = some [.sl t]) (hv : Value.okWide P w r b0 T v) (ht : DataW.trod enc P w 0 (fun _ => true) held m T v.cells.toList = some y) (hf : Fits P T y.1) : ∃ l : List t.el, AVR w (fun _ => none) 0 (allRo w) (.sl false t fun _ => l) v /\ WfAV 4 (.sl false t fun _ => l) := by
 obtain ⟨a, len, cap, rfl⟩ := okWide_slice hT hv;obtain ⟨avs, q1, q2, q3⟩ := opn_ok (tc := tc) n m T _ _ _ ho ht hf;obtain ⟨x, xs, rfl, ⟨l, rfl⟩, h⟩ := q2;rw [show xs = [] from h] at q1 q3;refine ⟨l, ?_, q3 _ (.head _)⟩;exact q1.2 0 _ _ rfl rfl
end
end
theorem law_of {c : Con} {res : Res} {avs : List AV} (hc : ConOk Tryz.prog c) (hgo : c.go avs = some res) (hav : res.av = .bool fun _ => true) {W : World} {vals : List Value} (hE : Each W (fun _ => none) 0 (allRo W) avs vals) (hpre : res.pre ()) : Calls Tryz.prog c.f vals.toArray W fun e w' => e = .returned (.bool true) /\ Below W.heap.size W w' :=
 (hc.2 avs res hgo W (allRo W) vals (fun _ h => h) hE hpre).mono fun e w' ⟨v, h1, h2, h3⟩ => by
  rw [hav] at h3;rw [h1, h3.bool_];exact ⟨rfl, h2⟩
end Go.Proofs.YtfdjcakgolenbaaGreat
namespace Go.Proofs.YtfdjcakgolenbaaGreat
open Go.RowKit
theorem lit_wf {k : IntKind} {n : Int} (h : (Lit.int k n).wf = true) : k.min <= n /\ n <= k.max := by
 simpa [Lit.wf] using h
theorem plc_wf {p : Plc} (h : ∀ x ∈ cellsAV false .plc (fun _ => p), WfAV 3 x) : plcOk p := by
 have h1 := h (.int .u8 fun _ => p.bay) (by simp [cellsAV]);have h2 := h (.int .u8 fun _ => p.row) (by simp [cellsAV]);have h3 := h (.int .u8 fun _ => p.tiers) (by simp [cellsAV]);exact ⟨lit_wf h1, lit_wf h2, lit_wf h3⟩
theorem drp_wf {d : Drp} (h : ∀ x ∈ cellsAV false .drp (fun _ => d), WfAV 3 x) : drpOk d := by
 have h1 := h (.int .u8 fun _ => d.col) (by simp [cellsAV]);have h2 := h (.int .u8 fun _ => d.kilos) (by simp [cellsAV]);exact ⟨lit_wf h1, lit_wf h2⟩
theorem made_wf {l : List Plc} {n : Int} {d : List Drp} (h0 : WfAV 4 (.sl false .plc fun _ => l)) (h1 : (Lit.int .u32 n).wf = true) (h2 : WfAV 4 (.sl false .drp fun _ => d)) : ((∀ p ∈ l, plcOk p) /\ l.length <= 140737488351232) /\ (0 <= n /\ n <= 4294967295) /\ (∀ x ∈ d, drpOk x) /\ d.length <= 140737488351232 :=
 ⟨⟨fun p hp => plc_wf (h0.2 p hp), h0.1⟩, lit_wf h1, fun x hx => drp_wf (h2.2 x hx), h2.1⟩
end Go.Proofs.YtfdjcakgolenbaaGreat
