/-
  MomentTurns: the law's function tells true.
-/
import Derived.Test.YtfdjcakgolenbaaGreatMu45
import Derived.ProofKit
import Derived.SizedLaws
set_option linter.unusedVariables false
set_option linter.unusedSimpArgs false
namespace Go.Proofs.YtfdjcakgolenbaaGreat
open Go.RowKit
def mapK {α : Type} (f : α → α) (cs : List α) (k : Nat) : List α := (cs.take k).map f ++ cs.drop k
theorem mapK_len {α : Type} (f : α → α) (cs : List α) (k : Nat) (h : k ≤ cs.length) : (mapK f cs k).length = cs.length := by
 unfold mapK
 rw [List.length_append, List.length_map, List.length_take, List.length_drop]
 omega
theorem mapK_get {α : Type} {f : α → α} {cs : List α} {d : α} {k : Nat} (h : k < cs.length) : (mapK f cs k).getD k d = cs.getD k d := by
 unfold mapK
 rw [List.getD_eq_getElem?_getD, List.getElem?_append_right (by rw [List.length_map, List.length_take]; omega), List.length_map, List.length_take, List.getElem?_drop, List.getD_eq_getElem?_getD]
 congr 2
 omega
theorem mapK_set {α : Type} {f : α → α} {cs : List α} {d : α} {k : Nat} (h : k < cs.length) : (mapK f cs k).set k (f (cs.getD k d)) = mapK f cs (k + 1) := by
 unfold mapK
 have hl : ((cs.take k).map f).length = k := by rw [List.length_map, List.length_take]; omega
 rw [List.set_append_right _ _ (by omega), hl, Nat.sub_self, List.drop_eq_getElem_cons h, List.set_cons_zero, List.take_add_one, List.map_append, List.append_assoc, List.getD_eq_getElem?_getD, List.getElem?_eq_getElem h]
 rfl
theorem mapK_all {α : Type} (f : α → α) (cs : List α) : mapK f cs cs.length = cs.map f := by
 unfold mapK
 rw [List.take_length, List.drop_length, List.append_nil]
theorem mapK_none {α : Type} (f : α → α) (cs : List α) : mapK f cs 0 = cs := by
 simp only [mapK, List.take_zero, List.map_nil, List.nil_append, List.drop_zero]
def lpTrn1 (S : Shp) (cs : List Col) : Lp where
 X := Nat
 ov k := [(47, .int .i64 fun _ => (k : Int))]
 oe k := [(1, .box 32 (.own 3 :: (shipL fun _ => S).tail)), (2, .box 32 (.own 4 :: (shipL fun _ => S).tail)), (3, .row false .col 47 fun _ => mapK mirC cs k), (4, .row false .col 47 fun _ => mapK rotC cs k)]
 I k := k ≤ cs.length
 μ k _ := cs.length - k
 x0 := 0
 nx := some fun k => k + 1
def lpTrn2 (st : List Stowed) : Lp where
 X := Nat
 ov k := [(80, .int .i64 fun _ => (k : Int)), (13, .own 5), (78, .own 5)]
 oe k := [(5, .row true .stowed 42 fun _ => mapK swpS st k)]
 I k := k ≤ st.length
 μ k _ := st.length - k
 x0 := 0
 nx := some fun k => k + 1
def conMomentTurns : Con := ⟨5, [.sl .plc, .int .u32, .sl .drp], fun
 | [x0, x1, x2] => (x0.toPlcs).bind fun l => (x1.toU32).bind fun n => (x2.toDrps).bind fun d => some ⟨fun _ => ((∀ p ∈ l (), plcOk p) ∧ (l ()).length ≤ 140737488351232) ∧ (0 ≤ n () ∧ n () ≤ 4294967295) ∧ (∀ x ∈ d (), drpOk x) ∧ (d ()).length ≤ 140737488351232, .bool fun _ => true⟩
 | _ => none⟩
set_option maxRecDepth 100000 in
set_option maxHeartbeats 4000000 in
theorem conMomentTurns_ok : ConOk Tryz.prog conMomentTurns := by
 refine fnOkO { kp := [(0, [0, 1, 2]), (1, [0, 1, 2]), (2, []), (3, [0, 1, 2]), (4, [7, 8, 9]), (5, [7, 8, 9, 10, 11]), (6, [7, 8, 9, 10, 11]), (7, [7, 8, 9, 10, 11, 46, 47]), (8, [7, 8, 9, 10, 11, 46, 47]), (9, [7, 8, 9, 10, 11, 12, 46, 47]), (10, [7, 8, 9, 10, 11, 46, 47]), (11, [7, 8, 9, 10, 11]), (12, [7, 8, 9, 10, 11, 13]), (13, [7, 8, 9, 10, 11, 13, 78, 79, 80]), (14, [7, 8, 9, 10, 11, 13, 78, 79, 80]), (15, [7, 8, 9, 10, 11, 13, 14, 15, 78, 79, 80]), (16, [7, 8, 9, 10, 11, 13, 78, 79, 80]), (17, [7, 8, 9, 10, 11, 13]), (18, [8, 9, 10, 11, 13, 16, 17]), (19, [8, 11, 13, 16, 17, 18, 19]), (20, [16, 17, 18, 19, 20, 21])], lt := [(4, ⟨[0, 1, 2, 3, 4, 5], [], [], [⟨[], [7, 8, 9, 10, 11, 32, 33], (0, 0), [(0, 0, 1), (1, 1, 2), (2, 2, 3), (3, 3, 4)]⟩, ⟨[0], [7, 8, 9, 10, 11, 32, 33], (0, 0), [(1, 1, 5), (2, 2, 6), (3, 3, 7)]⟩, ⟨[1], [7, 8, 9, 10, 11, 32, 33], (0, 1), [(0, 0, 5), (2, 2, 8), (3, 3, 9)]⟩, ⟨[2], [7, 8, 9, 10, 11, 32, 33], (0, 2), [(0, 0, 6), (1, 1, 8), (3, 3, 10)]⟩, ⟨[3], [7, 8, 9, 10, 11, 32, 33], (0, 3), [(0, 0, 7), (1, 1, 9), (2, 2, 10)]⟩, ⟨[0, 1], [7, 8, 9, 10, 11, 32, 33], (1, 1), [(2, 2, 11), (3, 3, 12)]⟩, ⟨[0, 2], [7, 8, 9, 10, 11, 32, 33], (1, 2), [(1, 1, 11), (3, 3, 13)]⟩, ⟨[0, 3], [7, 8, 9, 10, 11, 32, 33], (1, 3), [(1, 1, 12), (2, 2, 13)]⟩, ⟨[1, 2], [7, 8, 9, 10, 11, 32, 33], (2, 2), [(0, 0, 11), (3, 3, 14)]⟩, ⟨[1, 3], [7, 8, 9, 10, 11, 32, 33], (2, 3), [(0, 0, 12), (2, 2, 14)]⟩, ⟨[2, 3], [7, 8, 9, 10, 11, 32, 33], (3, 3), [(0, 0, 13)]⟩, ⟨[0, 1, 2], [7, 8, 9, 10, 11, 32, 33], (5, 2), [(3, 3, 15)]⟩, ⟨[0, 1, 3], [7, 8, 9, 10, 11, 32, 33], (5, 3), [(2, 2, 15)]⟩, ⟨[0, 2, 3], [7, 8, 9, 10, 11, 32, 33], (6, 3), [(1, 1, 15), (4, 4, 16)]⟩, ⟨[1, 2, 3], [7, 8, 9, 10, 11, 32, 33], (8, 3), [(0, 0, 15)]⟩, ⟨[0, 1, 2, 3], [7, 8, 9, 10, 11, 32, 33], (11, 3), [(4, 4, 17)]⟩, ⟨[0, 2, 3, 4], [7, 8, 9, 10, 11, 33], (13, 4), [(1, 1, 17)]⟩, ⟨[0, 1, 2, 3, 4], [7, 8, 9, 10, 11, 33], (15, 4), [(5, 5, 18)]⟩, ⟨[0, 1, 2, 3, 4, 5], [7, 8, 9, 10, 11], (17, 5), []⟩]⟩), (5, ⟨[1, 5, 0, 2, 3, 4, 6, 7, 8, 9, 10, 11], [1, 5], [], [⟨[0, 1], [7, 8, 9, 10, 11, 34, 35, 36, 37, 38, 39, 40, 41, 42, 43], (0, 0), [(2, 0, 1), (3, 2, 2), (5, 4, 3), (6, 6, 4)]⟩, ⟨[0, 1, 2], [7, 8, 9, 10, 11, 34, 35, 36, 37, 38, 39, 40, 41, 42, 43], (0, 0), [(3, 2, 5), (5, 4, 6), (6, 6, 7)]⟩, ⟨[0, 1, 3], [7, 8, 9, 10, 11, 34, 36, 37, 38, 39, 40, 41, 42, 43], (0, 2), [(2, 0, 5), (5, 4, 8), (6, 6, 9)]⟩, ⟨[0, 1, 5], [7, 8, 9, 10, 11, 34, 35, 36, 37, 38, 39, 40, 41, 42, 43], (0, 4), [(2, 0, 6), (3, 2, 8), (6, 6, 10)]⟩, ⟨[0, 1, 6], [7, 8, 9, 10, 11, 34, 35, 36, 37, 38, 40, 41, 42, 43], (0, 6), [(2, 0, 7), (3, 2, 9), (5, 4, 10)]⟩, ⟨[0, 1, 2, 3], [7, 8, 9, 10, 11, 34, 36, 37, 38, 39, 40, 41, 42, 43], (1, 2), [(4, 3, 11), (5, 4, 12), (6, 6, 13)]⟩, ⟨[0, 1, 2, 5], [7, 8, 9, 10, 11, 34, 35, 36, 37, 38, 39, 40, 41, 42, 43], (1, 4), [(3, 2, 12)]⟩, ⟨[0, 1, 2, 6], [7, 8, 9, 10, 11, 34, 35, 36, 37, 38, 40, 41, 42, 43], (1, 6), [(3, 2, 13), (5, 4, 14)]⟩, ⟨[0, 1, 3, 5], [7, 8, 9, 10, 11, 34, 36, 37, 38, 39, 40, 41, 42, 43], (2, 4), [(2, 0, 12), (6, 6, 15)]⟩, ⟨[0, 1, 3, 6], [7, 8, 9, 10, 11, 34, 36, 37, 38, 40, 41, 42, 43], (2, 6), [(2, 0, 13), (5, 4, 15)]⟩, ⟨[0, 1, 5, 6], [7, 8, 9, 10, 11, 34, 35, 36, 37, 38, 40, 41, 42, 43], (3, 6), [(2, 0, 14), (3, 2, 15)]⟩, ⟨[0, 1, 2, 3, 4], [7, 8, 9, 10, 11, 37, 38, 39, 40, 41, 42, 43], (5, 3), [(8, 8, 16)]⟩, ⟨[0, 1, 2, 3, 5], [7, 8, 9, 10, 11, 34, 36, 37, 38, 39, 40, 41, 42, 43], (5, 4), [(4, 3, 17), (6, 6, 18)]⟩, ⟨[0, 1, 2, 3, 6], [7, 8, 9, 10, 11, 34, 36, 37, 38, 40, 41, 42, 43], (5, 6), [(4, 3, 19), (5, 4, 18)]⟩, ⟨[0, 1, 2, 5, 6], [7, 8, 9, 10, 11, 34, 35, 36, 37, 38, 40, 41, 42, 43], (7, 4), [(3, 2, 18)]⟩, ⟨[0, 1, 3, 5, 6], [7, 8, 9, 10, 11, 34, 36, 37, 38, 40, 41, 42, 43], (8, 6), [(2, 0, 18)]⟩, ⟨[0, 1, 2, 3, 4, 8], [7, 8, 9, 10, 11, 37, 38, 39, 40, 41, 42, 43], (11, 8), [(5, 4, 20), (6, 6, 21)]⟩, ⟨[0, 1, 2, 3, 4, 5], [7, 8, 9, 10, 11, 37, 38, 39, 40, 41, 42, 43], (12, 3), [(8, 8, 20)]⟩, ⟨[0, 1, 2, 3, 5, 6], [7, 8, 9, 10, 11, 34, 36, 37, 38, 40, 41, 42, 43], (12, 6), [(4, 3, 22)]⟩, ⟨[0, 1, 2, 3, 4, 6], [7, 8, 9, 10, 11, 37, 38, 40, 41, 42, 43], (13, 3), [(8, 8, 21)]⟩, ⟨[0, 1, 2, 3, 4, 5, 8], [7, 8, 9, 10, 11, 37, 38, 39, 40, 41, 42, 43], (16, 4), [(6, 6, 23)]⟩, ⟨[0, 1, 2, 3, 4, 6, 8], [7, 8, 9, 10, 11, 37, 38, 40, 41, 42, 43], (16, 6), [(5, 4, 23)]⟩, ⟨[0, 1, 2, 3, 4, 5, 6], [7, 8, 9, 10, 11, 37, 38, 40, 41, 42, 43], (18, 3), [(8, 8, 23)]⟩, ⟨[0, 1, 2, 3, 4, 5, 6, 8], [7, 8, 9, 10, 11, 37, 38, 40, 41, 42, 43], (20, 6), [(7, 7, 24)]⟩, ⟨[0, 1, 2, 3, 4, 5, 6, 7, 8], [7, 8, 9, 10, 11, 37, 41, 42, 43], (23, 7), [(9, 9, 25)]⟩, ⟨[0, 1, 2, 3, 4, 5, 6, 7, 8, 9], [7, 8, 9, 10, 11, 41, 43], (24, 9), [(10, 10, 26)]⟩, ⟨[0, 1, 2, 3, 4, 5, 6, 7, 8, 9, 10], [7, 8, 9, 10, 11, 41, 43], (25, 10), [(11, 11, 27)]⟩, ⟨[0, 1, 2, 3, 4, 5, 6, 7, 8, 9, 10, 11], [7, 8, 9, 10, 11], (26, 11), []⟩]⟩), (9, ⟨[0, 2, 3, 5, 6, 8, 13, 15, 1, 4, 7, 9, 10, 11, 12, 14, 16, 17, 18, 19, 20, 21, 22, 23, 24, 25], [0, 2, 3, 5, 6, 8, 13, 15], [1, 7, 9, 10, 11, 12, 14, 16, 17, 18, 19, 20, 21], [⟨[0, 1, 2, 3, 4, 5, 6, 7, 8, 10, 11, 12, 13, 14, 15, 16, 17, 18, 19, 20, 21], [7, 8, 9, 10, 11, 46, 47, 53, 54, 55, 62, 69, 71, 72, 73], (0, 21), [(9, 4, 1), (22, 22, 2)]⟩, ⟨[0, 1, 2, 3, 4, 5, 6, 7, 8, 9, 10, 11, 12, 13, 14, 15, 16, 17, 18, 19, 20, 21], [7, 8, 9, 10, 11, 46, 47, 54, 55, 62, 69, 71, 72, 73], (0, 4), [(22, 22, 3)]⟩, ⟨[0, 1, 2, 3, 4, 5, 6, 7, 8, 10, 11, 12, 13, 14, 15, 16, 17, 18, 19, 20, 21, 22], [7, 8, 9, 10, 11, 46, 47, 53, 54, 55, 69, 72, 73], (0, 22), [(9, 4, 3)]⟩, ⟨[0, 1, 2, 3, 4, 5, 6, 7, 8, 9, 10, 11, 12, 13, 14, 15, 16, 17, 18, 19, 20, 21, 22], [7, 8, 9, 10, 11, 46, 47, 54, 55, 69, 72, 73], (1, 22), [(23, 23, 4)]⟩, ⟨[0, 1, 2, 3, 4, 5, 6, 7, 8, 9, 10, 11, 12, 13, 14, 15, 16, 17, 18, 19, 20, 21, 22, 23], [7, 8, 9, 10, 11, 46, 47, 69, 72, 73], (3, 23), [(24, 24, 5)]⟩, ⟨[0, 1, 2, 3, 4, 5, 6, 7, 8, 9, 10, 11, 12, 13, 14, 15, 16, 17, 18, 19, 20, 21, 22, 23, 24], [7, 8, 9, 10, 11, 46, 47, 69, 73], (4, 24), [(25, 25, 6)]⟩, ⟨[0, 1, 2, 3, 4, 5, 6, 7, 8, 9, 10, 11, 12, 13, 14, 15, 16, 17, 18, 19, 20, 21, 22, 23, 24, 25], [7, 8, 9, 10, 11, 46, 47], (5, 25), []⟩]⟩)] } [conAwake, conMade, conCargo, conNone] ⟨conAwake_ok, conMade_ok, conCargo_ok, conNone_ok, trivial⟩ [] trivial Tryz.func5 (by kernel_rfl) fun avs res h hp => ?_
 simp only [conMomentTurns] at h
 split at h
 case h_2 => cases h
 rename_i x0 x1 x2
 simp only [Option.bind_eq_some_iff, Option.some.injEq] at h
 obtain ⟨l, e0, n, e1, d, e2, rfl⟩ := h
 obtain rfl := AV.toPlcs_ e0
 obtain rfl := AV.toU32_ e1
 obtain rfl := AV.toDrps_ e2
 clear e0 e1 e2
 obtain ⟨l, rfl⟩ := eta (α := List Plc) l
 obtain ⟨n, rfl⟩ := eta (α := Int) n
 obtain ⟨d, rfl⟩ := eta (α := List Drp) d
 have hm : ((∀ p ∈ l, plcOk p) ∧ l.length ≤ 140737488351232) ∧ (0 ≤ n ∧ n ≤ 4294967295) ∧ (∀ x ∈ d, drpOk x) ∧ d.length ≤ 140737488351232 := hp
 refine nameIt (madeS l n) fun S hS => ?_
 refine nameIt (madeS l n).cols fun cs hcs => ?_
 refine nameIt (madeT l n d) fun st hst => ?_
 refine ⟨[(7, lpTrn1 S cs), (13, lpTrn2 st)], ?_⟩
 conv => arg 1; cbv
 simp (maxSteps := 4000000) only [P_vc, P_br, P_and, P_fin, V_nil, V_one, V_cons, T_self, castK, succK, Int.toNat_natCast, predK, decide_eq_true_eq, decide_eq_false_iff_not, List.map_cons, List.map_nil, cond_true, cond_false, true_and, and_true, eq_self]
 have hc12 := colsF_len l
 have hcl : cs.length ≤ 12 := by rw [← hcs]; exact hc12.2
 have hcl0 : (madeS l n).cols.length = cs.length := by rw [hcs]
 have hstl := madeT_len l n d
 rw [hst] at hstl
 have hcsS : S.cols = cs := by rw [← hS]; exact hcs
 simp only [hS, hcsS, hst, List.nil_append, mapK_none]
 obtain ⟨⟨p1, p2⟩, p3, p4, p5⟩ := hm
 and_intros
 any_goals (first | assumption | trivial | omega | (simp only [List.length_nil]; omega) | rfl)
 intro k hk
 have hk1 : k ≤ cs.length := hk
 conv => arg 1; cbv
 simp (maxSteps := 4000000) only [P_vc, P_br, P_and, P_fin, V_nil, V_one, V_cons, T_self, castK, succK, Int.toNat_natCast, predK, decide_eq_true_eq, decide_eq_false_iff_not, List.map_cons, List.map_nil, cond_true, cond_false, true_and, and_true, eq_self]
 have hml := mapK_len mirC cs k hk1
 have hml2 := mapK_len rotC cs k hk1
 refine ⟨fun g => ?_, fun g => ?_⟩
 · have hlt : k < cs.length := by omega
   have hmg := mapK_get (f := mirC) (d := Tc.col.dflt) hlt
   have hrg := mapK_get (f := rotC) (d := Tc.col.dflt) hlt
   have hms := mapK_set (f := mirC) (d := Tc.col.dflt) hlt
   have hrs := mapK_set (f := rotC) (d := Tc.col.dflt) hlt
   have hmade := colsF_made p1 _ (show cs.getD k Tc.col.dflt ∈ colsF l from by rw [show colsF l = cs from hcs]; exact getD_mem _ hlt)
   simp only [hmg, hrg]
   generalize cs.getD k Tc.col.dflt = c at hms hrs hmade ⊢
   simp only [mirC] at hms
   simp only [rotC] at hrs
   rw [hms, hrs]
   obtain ⟨_, _, _, _, b1, b2, b3⟩ := hmade
   refine ⟨⟨by omega, by omega⟩, by simp only [inI64]; omega, ⟨by omega, by omega⟩, by simp only [inI64]; omega, ⟨by omega, by omega⟩, ⟨by omega, by omega⟩, by simp only [inI64]; omega, ⟨by omega, by omega⟩, by omega, rfl, rfl⟩
 · have hkc : k = cs.length := by omega
   refine ⟨by simp only [List.length_nil]; omega, ⟨Nat.zero_le _, rfl, by rw [mapK_none]; rfl⟩, fun (k2 : Nat) hk2 => ?_⟩
   have hk3 : k2 ≤ st.length := hk2
   have hsl := mapK_len swpS st k2 hk3
   conv => arg 1; cbv
   simp (maxSteps := 4000000) only [P_vc, P_br, P_and, P_fin, V_nil, V_one, V_cons, T_self, castK, succK, Int.toNat_natCast, predK, decide_eq_true_eq, decide_eq_false_iff_not, List.map_cons, List.map_nil, cond_true, cond_false, true_and, and_true, eq_self]
   refine ⟨fun g2 => ?_, fun g2 => ?_⟩
   · have hlt2 : k2 < st.length := by simpa using g2
     have hsg := mapK_get (f := swpS) (d := Tc.stowed.dflt) hlt2
     have hss := mapK_set (f := swpS) (d := Tc.stowed.dflt) hlt2
     have hth := (stow_three (made_stow (d := d) (n := n) p1) _ (by rw [hst]; exact getD_mem Tc.stowed.dflt hlt2)).2
     simp only [hsg]
     generalize st.getD k2 Tc.stowed.dflt = x at hss hth ⊢
     have hx : (⟨x.box, x.col, x.tier, bif decide (x.half = ((0 : Nat) : Int)) then 0 else bif decide (x.half = ((1 : Nat) : Int)) then 2 else 1⟩ : Stowed) = swpS x := by
      unfold swpS swpI
      rcases hth with e | e | e <;> rw [e] <;> rfl
     rw [hx, hss]
     refine ⟨⟨by omega, by omega⟩, ⟨by omega, by omega⟩, ⟨by omega, by omega⟩, by simp only [inI64]; omega, ⟨by omega, by omega⟩, by omega, rfl⟩
   · have hk2c : k2 = st.length := by simp only [List.nil_append] at g2; omega
     have E0 : (⟨cs, S.covs, S.lk, S.lx, S.ly, S.lz, S.rows, S.frms, S.tnks, S.m1, S.m2, S.m3, S.m4⟩ : Shp) = S := by rw [← hcsS]
     have E1 : (⟨mapK mirC cs k, S.covs, S.lk, S.lx, S.ly, S.lz, S.rows, S.frms, S.tnks, S.m1, S.m2, S.m3, S.m4⟩ : Shp) = mirS S := by
      rw [hkc, mapK_all, ← hcsS]
      rfl
     have E2 : (⟨mapK rotC cs k, S.covs, S.lk, S.lx, S.ly, S.lz, S.rows, S.frms, S.tnks, S.m1, S.m2, S.m3, S.m4⟩ : Shp) = rotS S := by
      rw [hkc, mapK_all, ← hcsS]
      rfl
     have E3 : mapK swpS st k2 = st.map swpS := by rw [hk2c, mapK_all]
     have hpS : shipPre S := by rw [← hS]; exact built_pre p1
     have hpM : shipPre (mirS S) := by
      refine ⟨fun c' hc' => ?_, hpS.2⟩
      obtain ⟨c, hc, rfl⟩ := List.mem_map.1 hc'
      exact hpS.1 c hc
     have hpR : shipPre (rotS S) := by
      refine ⟨fun c' hc' => ?_, hpS.2⟩
      obtain ⟨c, hc, rfl⟩ := List.mem_map.1 hc'
      exact hpS.1 c hc
     have hbp := madeB_pre d
     have hsm : Small S (madeB d) st := by rw [← hS, ← hst]; exact made_small p1 p4
     have hc1 := mir_cargo (n := n) p1 p4
     have hc2 := rot_cargo (n := n) p1 p4
     rw [hS, hst] at hc1 hc2
     have hc0 : (cargoF S (madeB d) st).2 = 0 := by rw [hsm.sum]
     have hnum := hsm.nums
     simp only [E0, E1, E2, E3, hc1, hc2, hc0, List.length_map]
     generalize (cargoF S (madeB d) st).1 = a at hnum ⊢
     obtain ⟨n1, n2, n3, n4⟩ := hnum
     simp only [List.length_cons, List.length_nil, List.all_cons, List.all_nil, decide_true, Bool.and_true, Bool.not_true, Bool.false_eq_true, Bool.true_eq_false, false_implies, true_implies, forall_const, implies_true, not_true_eq_false, true_and, and_true, eq_self, inI64]
     refine ⟨⟨hpS, hbp, by omega⟩, ⟨hpM, hbp, by omega⟩, ⟨hpR, hbp, by omega⟩, by decide, ?_⟩
     omega
open Go.ChangeShapes Go.Deep Go.WideShapes
theorem list_of {T : Type} {p : Nat → T → Prop} : ∀ (n : Nat), (∀ i, i < n → ∃ x, p i x) → ∃ l : List T, l.length = n ∧ ∀ i (h : i < l.length), p i l[i]
 | 0, _ => ⟨[], rfl, by simp⟩
 | n + 1, h => by
  obtain ⟨l, hl, hp⟩ := list_of n (fun i hi => h i (by omega))
  obtain ⟨x, hx⟩ := h n (by omega)
  refine ⟨l ++ [x], by simp [hl], fun i hi => ?_⟩
  by_cases e : i < l.length
  · rw [List.getElem_append_left e]
    exact hp i e
  · have e2 : i = n := by simp at hi; omega
    subst e2
    rw [List.getElem_append_right (by omega)]
    simpa using hx
theorem below_all {H : Type} {enc : TypeId × Value → H} {P : Program} (hl : laidOutB P = true) {W W' : World} (hb : Below W.heap.size W W') : ∀ {ts : List TypeId} {vs : List Value} {ds : List (DataW H)} {ps : List MemPlace}, (ts.all fun t => P.readableRec t && decide (t < P.types.size)) = true →
 DataW.TrodAll enc P W 0 (fun _ => true) true ts vs ds ps → (∀ x ∈ ps, x.block < W.heap.size) → DataW.TrodAll enc P W' 0 (fun b => decide (b < W.heap.size)) true ts vs ds ps
 | [], vs, ds, ps, _, h, _ => by
  obtain ⟨rfl, rfl, rfl⟩ := trodAll_nil h
  exact trodAll_mk0
 | t :: ts, vs, ds, ps, ht, h, hlt => by
  obtain ⟨v, vs', d, ds', p, q, rfl, rfl, rfl, hd, hr⟩ := trodAll_cons h
  simp only [List.all_cons, Bool.and_eq_true, decide_eq_true_eq] at ht
  exact ⟨p, q, Below.trod hl ht.1.1 ht.1.2 hd hb (fun x hx => hlt x (List.mem_append_left _ hx)), below_all hl hb (by simpa using ht.2) hr (fun x hx => hlt x (List.mem_append_right _ hx)), rfl⟩
theorem Tryz.own : ownKnob Tryz.prog.godebug = none := by kernel_rfl
theorem Tryz.laidOut : laidOutB Tryz.prog = true := by kernel_rfl
section
variable {H : Type} {enc : TypeId × Value → H} {P : Program} {w : World} {base : Nat} {held : Bool}
def Fits (P : Program) (t : TypeId) (d : DataW H) : Prop := ∀ k ∈ d.weights P t, k ≤ 140737488351232
theorem weightsAll_mem {t : TypeId} : ∀ {ds : List (DataW H)} {d : DataW H}, d ∈ ds → ∀ k ∈ d.weights P t, k ∈ DataW.weightsAll P t ds
 | [], _, h, _, _ => by cases h
 | d0 :: ds, d, h, k, hk => by
  unfold DataW.weightsAll
  rw [List.mem_append]
  rcases List.mem_cons.1 h with h | h
  · subst h; exact .inl hk
  · exact .inr (weightsAll_mem h k hk)
theorem Fits.elem {t e : TypeId} {els sp : List (DataW H)} {d : DataW H} (ht : P.underlying t = some (.slice e)) (h : Fits P t (.slice els sp)) (hd : d ∈ els) : Fits P e d := fun k hk => h k (by
 simp only [DataW.weights, ht, List.mem_cons, List.mem_append]
 exact .inr (.inl (weightsAll_mem hd k hk)))
theorem Fits.size {t e : TypeId} {els sp : List (DataW H)} (ht : P.underlying t = some (.slice e)) (h : Fits P t (.slice els sp)) : (els.length + sp.length) * P.bytesOf e ≤ 140737488351232 := h _ (by
 simp only [DataW.weights, ht, List.mem_cons]
 exact .inl trivial)
theorem Fits.field {t : TypeId} {fs : Array Field} {parts : List (DataW H)} {j : Nat} {f : Field} {d : DataW H} (ht : P.underlying t = some (.struct fs)) (h : Fits P t (.agg parts)) (hj : fs[j]? = some f) (hd : parts[j]? = some d) : Fits P f.type d := fun k hk => h k (by
 simp only [DataW.weights, ht]
 exact DataW.weights_mem_each (j := j) (t := f.type) (by simp [hj]) hd k hk)
theorem fits_of {ts : List TypeId} {ds : List (DataW H)} (h : (DataW.weightsEach P ts ds).all (· ≤ reachBytes) = true) {j : Nat} {t : TypeId} {d : DataW H} (ht : ts[j]? = some t) (hd : ds[j]? = some d) : Fits P t d := fun k hk => by
 have := List.all_eq_true.1 h _ (DataW.weights_mem_each ht hd k hk)
 exact of_decide_eq_true this
theorem open_rows {T : Type} {cells : T → List Value} {wf : T → Prop} {t e size bytes fuel : Nat} {v : Value} {x : DataW H × List MemPlace} (ht : P.underlying t = some (.slice e)) (hC : P.cellsOf e = size) (h0 : 0 < size) (hB : P.bytesOf e = bytes)
 (hel : ∀ n cs (y : DataW H × List MemPlace), DataW.trod enc P w base (fun _ => true) held n e cs = some y → Fits P e y.1 → ∃ b : T, cs = cells b ∧ wf b)
 (h : DataW.trod enc P w base (fun _ => true) held fuel t [v] = some x) (hf : Fits P t x.1) :
 ∃ (A : Option Addr) (l : List T) (c : Nat), v = .slice A l.length c ∧ Rd w w.heap.size size A (l.map cells) ∧ (∀ b ∈ l, wf b) ∧ l.length * bytes ≤ 140737488351232 ∧ l.length ≤ c := by
 rcases open_slice ht h with ⟨hcs, hx⟩ | ⟨a, len, cap, m, n, D, Pl, hcs, hb, hl, hm, hmm, hx, hi⟩
 · injection hcs with hv _
   subst hv
   exact ⟨none, [], 0, rfl, Rd.nil _ _ _ _, by simp, by simp, by simp⟩
 · injection hcs with hv _
   subst hv
   subst hx
   simp only [if_true] at hmm
   subst hmm
   have hsz := Fits.size ht hf
   rw [hB] at hsz
   simp only [List.length_map, List.length_range] at hsz
   have key : ∀ i, i < len → ∃ b : T, wf b ∧ (cells b).length = size ∧ ∀ j u, (cells b)[j]? = some u → w.cell? ((a.add (i * size)).add j) = some u := fun i hlt => by
    obtain ⟨cs, hc, ht'⟩ := hi i (by omega)
    obtain ⟨b, rfl, hw⟩ := hel n cs (D i, Pl i) ht' (Fits.elem ht hf (List.mem_map_of_mem (List.mem_range.2 hlt)))
    obtain ⟨_, hcl, hat⟩ := World.cells?_some hc
    rw [hC] at hcl hat hc
    refine ⟨b, hw, hcl, fun j u hu => ?_⟩
    rw [hat j (by rw [← hcl]; exact (List.getElem?_eq_some_iff.1 hu).1)]
    exact hu
   obtain ⟨l, hll, hp⟩ := list_of len key
   subst hll
   refine ⟨some a, l, m, rfl, fun k cs hk => ?_, fun b hb' => ?_, Nat.le_trans (Nat.mul_le_mul_right bytes (by omega)) hsz, by omega⟩
   · rw [List.getElem?_map] at hk
     obtain ⟨b, hbk, rfl⟩ := Option.map_eq_some_iff.1 hk
     have hkl : k < l.length := (List.getElem?_eq_some_iff.1 hbk).1
     obtain ⟨_, hcl, hc⟩ := hp k hkl
     have hbe : l[k] = b := by rw [List.getElem?_eq_getElem hkl] at hbk; injection hbk
     rw [hbe] at hcl hc
     have hu0 : (cells b)[0]? = some ((cells b)[0]'(by omega)) := List.getElem?_eq_getElem (by omega)
     have hc0 := hc 0 _ hu0
     have hlt := block_lt_of_cell hc0
     obtain ⟨_, hcl0, hcz⟩ := hp 0 (by omega)
     have hsp := World.cell?_spot (hcz 0 _ (List.getElem?_eq_getElem (by omega)))
     obtain ⟨ab, ao, asp⟩ := a
     have has : asp = none := by simpa [Addr.add] using hsp
     subst has
     refine ⟨ab, ao, rfl, by simpa [Addr.add_lit] using hlt, hcl, fun j u hu => ?_⟩
     have := hc j u hu
     rwa [Addr.add_lit, Addr.add_lit] at this
   · obtain ⟨k, hk, rfl⟩ := List.mem_iff_getElem.1 hb'
     exact (hp k hk).1
end
section
variable {H : Type} {enc : TypeId × Value → H} {w : World} {base : Nat} {spare : Nat → Bool} {held : Bool}
end
def sgB : Sg → Sg → Bool
 | .int k, .int k' => decide (k = k')
 | .bool, .bool => true
 | .str, .str => true
 | .sl t, .sl t' => decide (t = t')
 | _, _ => false
def sgLB : List Sg → List Sg → Bool
 | [], [] => true
 | a :: l, b :: m => sgB a b && sgLB l m
 | _, _ => false
theorem sgB_eq {a b : Sg} (h : sgB a b = true) : a = b := by
 unfold sgB at h
 split at h <;> first | rfl | (simp only [decide_eq_true_eq] at h; rw [h]) | cases h
theorem sgLB_eq : ∀ {a b : List Sg}, sgLB a b = true → a = b
 | [], [], _ => rfl
 | a :: l, b :: m, h => by
  simp only [sgLB, Bool.and_eq_true] at h
  rw [sgB_eq h.1, sgLB_eq h.2]
 | [], _ :: _, h => by cases h
 | _ :: _, [], h => by cases h
def opnFs (P : Program) (g : TypeId → Option (List Sg)) : List Field → Nat → Option (List Sg)
 | [], _ => some []
 | f :: fs, o => match g f.type, opnFs P g fs (o + P.cellsOf f.type) with
  | some a, some b => if f.offset == o && a.length == P.cellsOf f.type then some (a ++ b) else none
  | _, _ => none
def opn (P : Program) (tc : List (Nat × Tc)) : Nat → TypeId → Option (List Sg)
 | 0, _ => none
 | n + 1, T => match P.underlying T with
  | some (.int k) => some [.int k]
  | some .bool => some [.bool]
  | some .string => some [.str]
  | some (.slice e) => match alook tc e with
   | some t => match opn P tc n e with
    | some ss => if sgLB ss (sgOf t) && P.cellsOf e == t.size && decide (0 < P.bytesOf e) then some [.sl t] else none
    | none => none
   | none => none
  | some (.struct fs) => match opnFs P (opn P tc n) fs.toList 0 with
   | some ss => if ss.length == P.cellsOf T then some ss else none
   | none => none
  | _ => none
def Sh : Sg → AV → Prop
 | .int k, x => ∃ n : Int, x = .int k fun _ => n
 | .bool, x => ∃ b : Bool, x = .bool fun _ => b
 | .str, x => ∃ s : ByteArray, x = .str fun _ => s
 | .sl t, x => ∃ l : List t.el, x = .sl false t fun _ => l
 | _, _ => False
def ShL : List Sg → List AV → Prop
 | [], l => l = []
 | s :: ss, l => ∃ x xs, l = x :: xs ∧ Sh s x ∧ ShL ss xs
def WfAV : Nat → AV → Prop
 | 0, _ => True
 | _ + 1, .int k n => (Lit.int k (n ())).wf = true
 | _ + 1, .str s => (s ()).size ≤ 140737488351232
 | d + 1, .sl _ t l => (l ()).length ≤ 140737488351232 ∧ ∀ e ∈ l (), ∀ x ∈ cellsAV false t (fun _ => e), WfAV d x
 | _, _ => True
theorem WfAV.down : ∀ (d : Nat) (x : AV), WfAV (d + 1) x → WfAV d x
 | 0, _, _ => trivial
 | d + 1, .int _ _, h => h
 | d + 1, .str _, h => h
 | d + 1, .sl _ _ _, h => ⟨h.1, fun e he x hx => WfAV.down d x (h.2 e he x hx)⟩
 | d + 1, .un, _ => trivial
 | d + 1, .lit _ _, _ => trivial
 | d + 1, .bool _, _ => trivial
 | d + 1, .blit _, _ => trivial
 | d + 1, .nil, _ => trivial
 | d + 1, .wide _ _ _ _, _ => trivial
 | d + 1, .pto _ _, _ => trivial
 | d + 1, .ptr _ _, _ => trivial
 | d + 1, .own _, _ => trivial
 | d + 1, .orp _ _ _ _, _ => trivial
 | d + 1, .mp _, _ => trivial
 | d + 1, .stamp _, _ => trivial
 | d + 1, .it _ _, _ => trivial
 | d + 1, .agg _, _ => trivial
 | d + 1, .tup _, _ => trivial
 | d + 1, .fn _ _, _ => trivial
theorem ShL.app : ∀ {a b : List Sg} {l m : List AV}, ShL a l → ShL b m → ShL (a ++ b) (l ++ m)
 | [], b, l, m, h, h2 => by
  rw [show l = [] from h]
  exact h2
 | s :: a, b, l, m, h, h2 => by
  obtain ⟨x, xs, rfl, h3, h4⟩ := h
  exact ⟨x, xs ++ m, rfl, h3, h4.app h2⟩
set_option maxHeartbeats 1000000 in
theorem mk_of {t : Tc} {avs : List AV} (h : ShL (sgOf t) avs) (hq : (sgOf t).all (fun s => match s with | .wide _ => false | _ => true) = true) : ∃ e : t.el, avs = cellsAV false t fun _ => e := by
 cases t <;> first
  | (exact absurd hq (by decide))
  | (simp only [sgOf] at h
     repeat (obtain ⟨_, _, rfl, ⟨_, rfl⟩, h⟩ := h)
     first
      | exact ⟨(_ : Int), rfl⟩
      | exact ⟨⟨_, _⟩, rfl⟩
      | exact ⟨⟨_, _, _⟩, rfl⟩
      | exact ⟨⟨_, _, _, _⟩, rfl⟩
      | exact ⟨⟨_, _, _, _, _⟩, rfl⟩
      | exact ⟨⟨_, _, _, _, _, _⟩, rfl⟩
      | exact ⟨⟨_, _, _, _, _, _, _, _, _⟩, rfl⟩
      | exact ⟨⟨_, _, _, _, _, _, _, _, _, _, _, _⟩, rfl⟩
      | exact ⟨⟨⟨_, _, _, _, _, _, _, _, _⟩, _, _, _⟩, rfl⟩)
section
variable {H : Type} {enc : TypeId × Value → H} {P : Program} {w : World} {held : Bool} {tc : List (Nat × Tc)}
def allRo (w : World) : Nat → Prop := fun b => b < w.heap.size
theorem fs_ok {g : TypeId → Option (List Sg)} {m : Nat} {cs : List Value} {T : TypeId} {fields : Array Field} {parts : List (DataW H × List MemPlace)} (hT : P.underlying T = some (.struct fields)) (hfit : Fits P T (.agg (parts.map (·.1))))
 (hg : ∀ (f : Field) (ss : List Sg) (cs : List Value) (y : DataW H × List MemPlace), g f.type = some ss → DataW.trod enc P w 0 (fun _ => true) held m f.type cs = some y → Fits P f.type y.1 → ∃ avs, Each w (fun _ => none) 0 (allRo w) avs cs ∧ ShL ss avs ∧ ∀ x ∈ avs, WfAV 4 x)
 (hfield : ∀ (i : Nat) (f : Field), fields[i]? = some f → DataW.trod enc P w 0 (fun _ => true) held m f.type ((cs.drop f.offset).take (P.cellsOf f.type)) = parts[i]?) (hpl : parts.length = fields.size) :
 ∀ (fs : List Field) (i o : Nat) (ss : List Sg), fields.toList.drop i = fs → opnFs P g fs o = some ss → ∃ avs, Each w (fun _ => none) 0 (allRo w) avs ((cs.drop o).take ss.length) ∧ ShL ss avs ∧ ∀ x ∈ avs, WfAV 4 x
 | [], i, o, ss, hi, h => by
  simp only [opnFs, Option.some.injEq] at h
  subst h
  exact ⟨[], by simpa using Each.nil, rfl, by simp⟩
 | f :: fs, i, o, ss, hi, h => by
  unfold opnFs at h
  split at h
  · rename_i a b ha hb
    split at h
    · rename_i hc
      simp only [Bool.and_eq_true, beq_iff_eq] at hc
      obtain ⟨hc1, hc2⟩ := hc
      cases h
      have hil : i < fields.toList.length := by
       rcases Nat.lt_or_ge i fields.toList.length with h | h
       · exact h
       · rw [List.drop_of_length_le h] at hi; cases hi
      rw [List.drop_eq_getElem_cons hil] at hi
      injection hi with h1 h2
      have hf : fields[i]? = some f := by rw [← h1]; simp
      have hp := hfield i f hf
      have hip : i < parts.length := by rw [hpl]; simpa using hil
      rw [List.getElem?_eq_getElem hip] at hp
      obtain ⟨avs, q1, q2, q3⟩ := hg f a _ _ ha hp (Fits.field hT hfit hf (by simp [hip]))
      obtain ⟨bvs, r1, r2, r3⟩ := fs_ok hT hfit hg hfield hpl fs (i + 1) (o + P.cellsOf f.type) b h2 hb
      refine ⟨avs ++ bvs, ?_, q2.app r2, fun x hx => ?_⟩
      · rw [hc1] at q1
        have e : (cs.drop o).take (a ++ b).length = (cs.drop o).take (P.cellsOf f.type) ++ (cs.drop (o + P.cellsOf f.type)).take b.length := by
         rw [List.length_append, hc2, List.take_add, List.drop_drop]
        rw [e]
        exact q1.append r1
      · rcases List.mem_append.1 hx with h | h
        · exact q3 x h
        · exact r3 x h
    · cases h
  · cases h
theorem opn_ok : ∀ (n m : Nat) (T : TypeId) (ss : List Sg) (cs : List Value) (y : DataW H × List MemPlace), opn P tc n T = some ss → DataW.trod enc P w 0 (fun _ => true) held m T cs = some y → Fits P T y.1 → ∃ avs, Each w (fun _ => none) 0 (allRo w) avs cs ∧ ShL ss avs ∧ ∀ x ∈ avs, WfAV 4 x
 | 0, _, _, _, _, _, h, _, _ => by cases h
 | n + 1, m, T, ss, cs, y, h, ht, hf => by
  unfold opn at h
  split at h
  · rename_i k hu
    cases h
    obtain ⟨z, rfl, _, hw⟩ := DataW.trod_int hu ht
    refine ⟨[.int k fun _ => z], .cons (.int k _) .nil, ⟨_, _, rfl, ⟨z, rfl⟩, rfl⟩, ?_⟩
    intro x hx
    rw [List.mem_singleton.1 hx]
    exact hw
  · rename_i hu
    cases h
    obtain ⟨z, rfl, _⟩ := DataW.trod_bool hu ht
    refine ⟨[.bool fun _ => z], .cons (.bool _) .nil, ⟨_, _, rfl, ⟨z, rfl⟩, rfl⟩, ?_⟩
    intro x hx
    rw [List.mem_singleton.1 hx]
    trivial
  · rename_i hu
    cases h
    obtain ⟨z, rfl, hy, _⟩ := DataW.trod_string hu ht
    refine ⟨[.str fun _ => z], .cons (.str _) .nil, ⟨_, _, rfl, ⟨z, rfl⟩, rfl⟩, ?_⟩
    intro x hx
    rw [List.mem_singleton.1 hx]
    exact hf z.size (by rw [hy]; simp [DataW.weights, hu])
  · rename_i e hu
    split at h
    · rename_i t htc
      split at h
      · rename_i se hse
        split at h
        · rename_i hc
          cases h
          simp only [Bool.and_eq_true, beq_iff_eq, decide_eq_true_eq] at hc
          obtain ⟨⟨hc1, hc2⟩, hc3⟩ := hc
          have hss := sgLB_eq hc1
          have hq : (sgOf t).all (fun s => match s with | .wide _ => false | _ => true) = true := by
           rw [← hss, List.all_eq_true]
           intro s hs
           have : ∀ {a b : List Sg}, sgLB a b = true → ∀ s ∈ a, (match s with | .wide _ => false | _ => true) = true := by
            intro a
            induction a with
            | nil => intro b _ s hs; cases hs
            | cons x a ih =>
             intro b h s hs
             cases b with
             | nil => cases h
             | cons z b =>
              simp only [sgLB, Bool.and_eq_true] at h
              rcases List.mem_cons.1 hs with rfl | hs
              · have h1 := h.1
                unfold sgB at h1
                split at h1 <;> first | rfl | cases h1
              · exact ih h.2 s hs
           exact this hc1 s hs
          have hone : ∃ v, cs = [v] := by
           rcases open_slice hu ht with ⟨hcs, _⟩ | ⟨a, len, cap, m', n', D, Pl, hcs, _⟩ <;> exact ⟨_, hcs⟩
          obtain ⟨v, rfl⟩ := hone
          obtain ⟨A, l, c, hv, hr, hw, hby, hlc⟩ := open_rows (T := List Value × t.el) (cells := fun p => p.1) (wf := fun p => Each w (fun _ => none) 0 (allRo w) (cellsAV false t fun _ => p.2) p.1 ∧ ∀ x ∈ cellsAV false t (fun _ => p.2), WfAV 4 x) (size := t.size) (bytes := P.bytesOf e) hu hc2 (tc_size t) rfl (fun n' cs' y' h1 h2 => by
           obtain ⟨avs, q1, q2, q3⟩ := opn_ok n n' e se cs' y' hse h1 h2
           rw [hss] at q2
           obtain ⟨el, rfl⟩ := mk_of q2 hq
           exact ⟨(cs', el), rfl, q1, q3⟩) ht hf
          have hll : l.length ≤ 140737488351232 := by
           have : l.length * 1 ≤ l.length * P.bytesOf e := Nat.mul_le_mul_left _ hc3
           omega
          refine ⟨[.sl false t fun _ => l.map (·.2)], .cons ?_ .nil, ⟨_, _, rfl, ⟨_, rfl⟩, rfl⟩, ?_⟩
          · rw [hv]
            have key : AVR w (fun _ => none) 0 (allRo w) (.sl false t fun _ => l.map (·.2)) (.slice A (l.map (·.2)).length c) := by
             refine AVR.sl (ro := allRo w) false t (fun _ => l.map (·.2)) A c (l.map (·.1)) (by simp) (by simpa using hlc) hr (fun a ha hne => Rd.bound hr hne a ha) (fun h => by cases h) fun k cs j x v h1 h2 h3 => ?_
             rw [List.getElem?_map] at h1
             obtain ⟨p, hp, rfl⟩ := Option.map_eq_some_iff.1 h1
             have hpm := hw p (List.mem_of_getElem? hp)
             have e1 : (l.map (·.2)).getD k t.dflt = p.2 := by simp [List.getD_eq_getElem?_getD, hp]
             rw [e1] at h2
             exact hpm.1.2 j x v h2 h3
            rwa [List.length_map] at key
          · intro x hx
            rw [List.mem_singleton.1 hx]
            refine ⟨by rw [List.length_map]; exact hll, fun el hel z hz => ?_⟩
            obtain ⟨p, hp, rfl⟩ := List.mem_map.1 hel
            exact WfAV.down 3 z ((hw p hp).2 z hz)
        · cases h
      · cases h
    · cases h
  · rename_i fs hu
    split at h
    · rename_i ss' hfs
      split at h
      · rename_i hlen
        cases h
        simp only [beq_iff_eq] at hlen
        obtain ⟨xs, n2, rfl, hx, hcl, hxl, hg⟩ := DataW.trod_struct hu ht
        subst hx
        obtain ⟨avs, q1, q2, q3⟩ := fs_ok (m := n2) hu hf (fun f ss cs y h1 h2 h3 => opn_ok n n2 f.type ss cs y h1 h2 h3) hg hxl fs.toList 0 0 ss rfl hfs
        rw [List.drop_zero, List.take_of_length_le (by omega)] at q1
        exact ⟨avs, q1, q2, q3⟩
      · cases h
    · cases h
  · cases h
section
variable {b0 m : Nat} {r : Reach} {T : TypeId} {v : Value} {y : DataW H × List MemPlace}
theorem open_int {k : IntKind} (hT : P.underlying T = some (.int k)) (hv : Value.okWide P w r b0 T v) (ht : DataW.trod enc P w 0 (fun _ => true) held m T v.cells.toList = some y) : ∃ n : Int, AVR w (fun _ => none) 0 (allRo w) (.int k fun _ => n) v ∧ (Lit.int k n).wf = true := by
 obtain ⟨n, rfl⟩ := okWide_int hT hv
 obtain ⟨z, e, _, hw⟩ := DataW.trod_int hT ht
 have e2 : [Value.int k n] = [Value.int k z] := e
 injection e2 with e2
 injection e2 with _ e2
 subst e2
 exact ⟨n, .int k _, hw⟩
theorem open_sl {e : TypeId} {t : Tc} {n : Nat} (hT : P.underlying T = some (.slice e)) (ho : opn P tc n T = some [.sl t]) (hv : Value.okWide P w r b0 T v) (ht : DataW.trod enc P w 0 (fun _ => true) held m T v.cells.toList = some y) (hf : Fits P T y.1) : ∃ l : List t.el, AVR w (fun _ => none) 0 (allRo w) (.sl false t fun _ => l) v ∧ WfAV 4 (.sl false t fun _ => l) := by
 obtain ⟨a, len, cap, rfl⟩ := okWide_slice hT hv
 obtain ⟨avs, q1, q2, q3⟩ := opn_ok (tc := tc) n m T _ _ _ ho ht hf
 obtain ⟨x, xs, rfl, ⟨l, rfl⟩, h⟩ := q2
 rw [show xs = [] from h] at q1 q3
 refine ⟨l, ?_, q3 _ (.head _)⟩
 exact q1.2 0 _ _ rfl rfl
end
end
theorem law_of {c : Con} {res : Res} {avs : List AV} (hc : ConOk Tryz.prog c) (hgo : c.go avs = some res) (hav : res.av = .bool fun _ => true) {W : World} {vals : List Value} (hE : Each W (fun _ => none) 0 (allRo W) avs vals) (hpre : res.pre ()) : Calls Tryz.prog c.f vals.toArray W fun e w' => e = .returned (.bool true) ∧ Below W.heap.size W w' :=
 (hc.2 avs res hgo W (allRo W) vals (fun _ h => h) hE hpre).mono fun e w' ⟨v, h1, h2, h3⟩ => by
  rw [hav] at h3
  rw [h1, h3.bool_]
  exact ⟨rfl, h2⟩
end Go.Proofs.YtfdjcakgolenbaaGreat
