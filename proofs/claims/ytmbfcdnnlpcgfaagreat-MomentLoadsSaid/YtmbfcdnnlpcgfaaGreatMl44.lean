/-
  The examples of the chapters 7 and 15.
-/
import Derived.Test.YtmbfcdnnlpcgfaaGreatMl43
set_option linter.unusedVariables false
set_option linter.unusedSimpArgs false
namespace Go.Proofs.YtmbfcdnnlpcgfaaGreat
open Go.RowKit
def cols07 : List Col := [⟨0, 0, false, 2, 0, 0, 0, 0, [], 0, 0, 0⟩, ⟨0, 1, false, 2, 0, 0, 0, 0, [], 0, 0, 0⟩, ⟨0, 0, true, 3, 0, 0, 0, 0, [], 0, 0, 0⟩, ⟨0, 1, true, 3, 0, 0, 0, 0, [], 0, 0, 0⟩, ⟨1, 1, true, 4, 0, 0, 0, 0, [], 0, 0, 0⟩]
def covs07 : List Cov := [⟨0, [0, 1]⟩]
def cols15 : List Col := [⟨0, 0, false, 2, 0, 0, 0, 0, [], 1000, -500, 2000⟩, ⟨0, 1, false, 2, 0, 0, 0, 0, [], 0, 0, 0⟩, ⟨0, 0, true, 3, 0, 0, 0, 0, [], 0, 0, 0⟩, ⟨0, 1, true, 3, 0, 0, 0, 0, [], 0, 0, 0⟩, ⟨1, 1, true, 4, 0, 0, 0, 0, [], 0, 0, 0⟩]
def boxes15 : List Box := [⟨1, noText, 20, false, 5000, 0, 1, 0, false⟩, ⟨2, noText, 20, false, 8000, 0, 1, 0, false⟩, ⟨3, noText, 40, true, 10000, 0, 1, 0, false⟩]
def state15 : List Stowed := [⟨1, 0, 0, 1⟩, ⟨2, 0, 0, 2⟩, ⟨3, 0, 1, 0⟩]
def exShipAV (loc : Nat) : AV := .agg [.own loc, .sl true .cov fun _ => covs07, .lit .i64 0, .lit .i64 0, .lit .i64 0, .lit .i64 0, .nil, .nil, .nil, .lit .i64 0, .lit .i64 0, .lit .i64 0, .lit .i64 0]
def fonEx07 : Fon := ⟨43, [], 0, fun avs es => match avs, es with
 | [], [] => some ⟨fun _ => True, exShipAV 1, [(1, .row true .col 49 fun _ => cols07)]⟩
 | _, _ => none, false⟩
def fonEx15 : Fon := ⟨14, [], 0, fun avs es => match avs, es with
 | [], [] => some ⟨fun _ => True, .tup [exShipAV 2, .own 4, .own 5], [(2, .row true .col 49 fun _ => cols15), (4, .row true .box 46 fun _ => boxes15), (5, .row true .stowed 44 fun _ => state15)]⟩
 | _, _ => none, false⟩
set_option maxRecDepth 100000 in
set_option maxHeartbeats 4000000 in
theorem fonEx07_ok : FonOk Tryz.prog fonEx07 := by
 refine fonOk [] trivial [] trivial Tryz.func43 (by kernel_rfl) fun avs es res h hp => ?_
 simp only [fonEx07] at h
 split at h
 case h_2 => cases h
 cases h
 refine ⟨[], ?_⟩
 conv => arg 1; cbv
 simp (maxSteps := 4000000) only [P_vc, P_br, P_and, P_fin, V_nil, V_one, V_cons, T_self, castK, succK, Int.toNat_natCast, predK, decide_eq_true_eq, decide_eq_false_iff_not, List.map_cons, List.map_nil, cond_true, cond_false]
 first | trivial | exact ⟨rfl, rfl⟩ | rfl
set_option maxRecDepth 100000 in
set_option maxHeartbeats 4000000 in
theorem fonEx15_ok : FonOk Tryz.prog fonEx15 := by
 refine fonOkO { jn := [(2, [0, 1, 2, 3])], sc := [(2, schList [0, 2, 4] (.alt (schList [1, 6, 7] (.alt (.op 3 (.alt (schList [5, 8, 9, 10, 11, 12, 13, 14] .nil) (schList [8, 9, 10] (.alt (schList [5, 11, 12, 13, 14] .nil) (schList [11, 5, 12, 13, 14] .nil))))) (.alt (.op 5 (.alt (schList [3, 8, 9, 10, 11, 12, 13, 14] .nil) (schList [8, 3, 9, 10, 11, 12, 13, 14] .nil))) (.op 8 (.alt (schList [3, 9, 10] (.alt (schList [5, 11, 12, 13, 14] .nil) (schList [11, 5, 12, 13, 14] .nil))) (schList [5, 3, 9, 10, 11, 12, 13, 14] .nil)))))) (.alt (.op 3 (.alt (schList [1, 6, 7] (.alt (schList [5, 8, 9, 10, 11, 12, 13, 14] .nil) (schList [8, 9, 10] (.alt (schList [5, 11, 12, 13, 14] .nil) (schList [11, 5, 12, 13, 14] .nil))))) (schList [5, 1, 6, 7, 8, 9, 10, 11, 12, 13, 14] .nil))) (.op 5 (.alt (schList [1, 6, 7] (.alt (schList [3, 8, 9, 10, 11, 12, 13, 14] .nil) (schList [8, 3, 9, 10, 11, 12, 13, 14] .nil))) (schList [3, 1, 6, 7, 8, 9, 10, 11, 12, 13, 14] .nil))))))] } [] trivial [fonEx07] ⟨fonEx07_ok, trivial⟩ Tryz.func14 (by kernel_rfl) fun avs es res h hp => ?_
 simp only [fonEx15] at h
 split at h
 case h_2 => cases h
 cases h
 refine ⟨[], ?_⟩
 conv => arg 1; cbv
 simp (maxSteps := 4000000) only [P_vc, P_br, P_and, P_fin, V_nil, V_one, V_cons, T_self, castK, succK, Int.toNat_natCast, predK, decide_eq_true_eq, decide_eq_false_iff_not, List.map_cons, List.map_nil, cond_true, cond_false]
 first | trivial | exact ⟨rfl, rfl⟩ | rfl
def conIn15 : Con := ⟨63, [.int .i64, .int .i64, .int .i64], fun
 | [x0, x1, x2] => (x0.toI).bind fun n => (x1.toI).bind fun a => (x2.toI).bind fun b => some ⟨fun _ => True, .bool fun _ => decide (a () ≤ n ()) && decide (n () ≤ b ())⟩
 | _ => none⟩
set_option maxRecDepth 100000 in
set_option maxHeartbeats 4000000 in
theorem conIn15_ok : ConOk Tryz.prog conIn15 := by
 refine fnOk [] trivial Tryz.func63 (by kernel_rfl) fun avs res h hp => ?_
 simp only [conIn15] at h
 split at h
 case h_2 => cases h
 rename_i x0 x1 x2
 simp only [Option.bind_eq_some_iff, Option.some.injEq] at h
 obtain ⟨n, e0, a, e1, b, e2, rfl⟩ := h
 obtain rfl := AV.toI_ e0
 obtain rfl := AV.toI_ e1
 obtain rfl := AV.toI_ e2
 clear e0 e1 e2
 obtain ⟨n, rfl⟩ := eta (α := Int) n
 obtain ⟨a, rfl⟩ := eta (α := Int) a
 obtain ⟨b, rfl⟩ := eta (α := Int) b
 refine ⟨[], ?_⟩
 conv => arg 1; cbv
 simp (maxSteps := 4000000) only [P_vc, P_br, P_and, P_fin, V_nil, V_one, V_cons, T_self, castK, succK, Int.toNat_natCast, predK, decide_eq_true_eq, decide_eq_false_iff_not, List.map_cons, List.map_nil, cond_true, cond_false]
 grind
def conRight15 : Con := ⟨64, [.agg ldSg], fun
 | [x0] => (x0.toLd).bind fun x => some ⟨fun _ => True, .bool fun _ => ldOk (x ())⟩
 | _ => none⟩
set_option maxRecDepth 100000 in
set_option maxHeartbeats 4000000 in
theorem conRight15_ok : ConOk Tryz.prog conRight15 := by
 refine fnOk [conIn15] ⟨conIn15_ok, trivial⟩ Tryz.func64 (by kernel_rfl) fun avs res h hp => ?_
 simp only [conRight15] at h
 split at h
 case h_2 => cases h
 rename_i x0
 simp only [Option.bind_eq_some_iff, Option.some.injEq] at h
 obtain ⟨x, e0, rfl⟩ := h
 obtain rfl := AV.toLd_ e0
 clear e0
 obtain ⟨x, rfl⟩ := eta (α := Ld) x
 refine ⟨[], ?_⟩
 conv => arg 1; cbv
 simp (maxSteps := 4000000) only [P_vc, P_br, P_and, P_fin, V_nil, V_one, V_cons, T_self, castK, succK, Int.toNat_natCast, predK, decide_eq_true_eq, decide_eq_false_iff_not, List.map_cons, List.map_nil, cond_true, cond_false]
 unfold ldOk wOk inArm
 clear hp
 (repeat' (first | apply And.intro | intro _)) <;> first | trivial | omega | (simp only [inI64, Bool.and_eq_true, Bool.or_eq_true, Bool.not_eq_true', Bool.not_eq_false', Bool.and_eq_false_iff, Bool.or_eq_false_iff, decide_eq_true_eq, decide_eq_false_iff_not, Bool.not_eq_true, Bool.not_eq_false, Bool.and_true, Bool.true_and, Bool.and_false, Bool.false_and, Bool.or_true, Bool.or_false, Bool.true_or, Bool.false_or, Bool.false_eq_true, Bool.true_eq_false, beq_iff_eq, bne_iff_ne, false_or, or_false, true_and, and_true, not_true_eq_false, not_false_eq_true, true_iff, iff_true, false_iff, iff_false, eq_self, reduceCtorEq, bne_self_eq_false, ne_eq] at *; first | done | trivial | omega) | (rw [Bool.eq_iff_iff]; simp only [inI64, Bool.and_eq_true, Bool.or_eq_true, Bool.not_eq_true', Bool.not_eq_false', Bool.and_eq_false_iff, Bool.or_eq_false_iff, decide_eq_true_eq, decide_eq_false_iff_not, Bool.not_eq_true, Bool.not_eq_false, Bool.and_true, Bool.true_and, Bool.and_false, Bool.false_and, Bool.or_true, Bool.or_false, Bool.true_or, Bool.false_or, Bool.false_eq_true, Bool.true_eq_false, beq_iff_eq, bne_iff_ne, false_or, or_false, true_and, and_true, not_true_eq_false, not_false_eq_true, true_iff, iff_true, false_iff, iff_false, eq_self, reduceCtorEq, bne_self_eq_false, ne_eq] at *; first | done | trivial | omega)
def conPoint15 : Con := ⟨29, [.int .i64, .int .i64, .int .i64, .int .i64], fun
 | [x0, x1, x2, x3] => (x0.toI).bind fun k => (x1.toI).bind fun x => (x2.toI).bind fun y => (x3.toI).bind fun z => some ⟨fun _ => True, .tup [.agg (ldL fun _ => (pointF (k ()) (x ()) (y ()) (z ())).1), .int .i64 fun _ => (pointF (k ()) (x ()) (y ()) (z ())).2]⟩
 | _ => none⟩
theorem mul_in64 {k x : Int} (h1 : 0 ≤ k) (h2 : k ≤ 500000000) (h3 : -1100000 ≤ x) (h4 : x ≤ 1100000) : inI64 (k * x) := by
 have h5 : k * x ≤ k * 1100000 := Int.mul_le_mul_of_nonneg_left h4 h1
 have h6 : k * (-1100000) ≤ k * x := Int.mul_le_mul_of_nonneg_left h3 h1
 exact ⟨by omega, by omega⟩
set_option maxRecDepth 100000 in
set_option maxHeartbeats 4000000 in
theorem conPoint15_ok : ConOk Tryz.prog conPoint15 := by
 refine fnOk [conIn15] ⟨conIn15_ok, trivial⟩ Tryz.func29 (by kernel_rfl) fun avs res h hp => ?_
 simp only [conPoint15] at h
 split at h
 case h_2 => cases h
 rename_i x0 x1 x2 x3
 simp only [Option.bind_eq_some_iff, Option.some.injEq] at h
 obtain ⟨k, e0, x, e1, y, e2, z, e3, rfl⟩ := h
 obtain rfl := AV.toI_ e0
 obtain rfl := AV.toI_ e1
 obtain rfl := AV.toI_ e2
 obtain rfl := AV.toI_ e3
 clear e0 e1 e2 e3
 obtain ⟨k, rfl⟩ := eta (α := Int) k
 obtain ⟨x, rfl⟩ := eta (α := Int) x
 obtain ⟨y, rfl⟩ := eta (α := Int) y
 obtain ⟨z, rfl⟩ := eta (α := Int) z
 refine ⟨[], ?_⟩
 conv => arg 1; cbv
 have hx := fun h1 h2 => mul_in64 (k := k) (x := x) h1 h2
 have hy := fun h1 h2 => mul_in64 (k := k) (x := y) h1 h2
 have hz := fun h1 h2 => mul_in64 (k := k) (x := z) h1 h2
 simp (maxSteps := 4000000) only [P_vc, P_br, P_and, P_fin, V_nil, V_one, V_cons, T_self, castK, succK, Int.toNat_natCast, predK, decide_eq_true_eq, decide_eq_false_iff_not, List.map_cons, List.map_nil, cond_true, cond_false]
 unfold pointF wOk inArm ld0
 generalize k * x = kx at *
 generalize k * y = ky at *
 generalize k * z = kz at *
 grind
theorem addFrom_step {s : Ld} {l : List Ld} {k : Nat} (h : k < l.length) : addFrom s (l.drop k) = if wOk (s.add (l.getD k Tc.ld.dflt)).kilos then addFrom (s.add (l.getD k Tc.ld.dflt)) (l.drop (k + 1)) else (ld0, 3) := by
 have e : l.getD k Tc.ld.dflt = l[k] := by rw [List.getD_eq_getElem?_getD, List.getElem?_eq_getElem h, Option.getD_some]
 rw [List.drop_eq_getElem_cons h, e]
 rfl
def conAdd15 : Con := ⟨30, [.sl .ld], fun
 | [x0] => (x0.toLds).bind fun l => some ⟨fun _ => (l ()).length ≤ 1000000, .tup [.agg (ldL fun _ => (addF (l ())).1), .int .i64 fun _ => (addF (l ())).2]⟩
 | _ => none⟩
def lpBad15 (l : List Ld) : Lp where
 X := Nat
 ov k := [(4, .int .i64 fun _ => (k : Int))]
 oe _ := [(0, .box 91 (ldL fun _ => ld0))]
 I k := k ≤ l.length ∧ ∀ j, j < k → ldOk (l.getD j Tc.ld.dflt) = true
 μ k _ := l.length - k
 x0 := 0
 nx := some fun k => k + 1
def lpAdd15 (l : List Ld) : Lp where
 X := Nat × Ld
 ov p := [(6, .int .i64 fun _ => (p.1 : Int))]
 oe p := [(0, .box 91 (ldL fun _ => ld0)), (1, .box 91 (ldL fun _ => p.2))]
 I p := p.1 ≤ l.length ∧ ldOk p.2 = true ∧ addFrom ld0 l = addFrom p.2 (l.drop p.1)
 μ p _ := l.length - p.1
 x0 := (0, ld0)
 nx := none
theorem ldOk_add {s x : Ld} (hs : ldOk s = true) (hx : ldOk x = true) (h : s.kilos + x.kilos ≤ 500000000) : ldOk (s.add x) = true := by
 unfold ldOk wOk inArm Ld.add at *
 simp only [Bool.and_eq_true, decide_eq_true_eq] at *
 omega
theorem ldOk_in {s : Ld} (hs : ldOk s = true) : (0 ≤ s.kilos ∧ s.kilos ≤ 500000000) ∧ (-550000000000000 ≤ s.x ∧ s.x ≤ 550000000000000) ∧ (-550000000000000 ≤ s.y ∧ s.y ≤ 550000000000000) ∧ (-550000000000000 ≤ s.z ∧ s.z ≤ 550000000000000) := by
 unfold ldOk wOk inArm at hs
 simp only [Bool.and_eq_true, decide_eq_true_eq] at hs
 omega
theorem ld_eta (l : Ld) : (⟨l.kilos, l.x, l.y, l.z⟩ : Ld) = l := rfl
set_option maxRecDepth 100000 in
set_option maxHeartbeats 4000000 in
theorem conAdd15_ok : ConOk Tryz.prog conAdd15 := by
 refine fnOk [conRight15] ⟨conRight15_ok, trivial⟩ Tryz.func30 (by kernel_rfl) fun avs res h hp => ?_
 simp only [conAdd15] at h
 split at h
 case h_2 => cases h
 rename_i x0
 simp only [Option.bind_eq_some_iff, Option.some.injEq] at h
 obtain ⟨l, e0, rfl⟩ := h
 obtain rfl := AV.toLds_ e0
 clear e0
 obtain ⟨l, rfl⟩ := eta (α := List Ld) l
 have hl : l.length ≤ 1000000 := hp
 refine ⟨[(2, lpBad15 l), (8, lpAdd15 l)], ?_⟩
 conv => arg 1; cbv
 refine ⟨?_, fun (k : Nat) hk => ?_⟩
 · simp (maxSteps := 4000000) only [P_vc, P_br, P_and, P_fin, V_nil, V_one, V_cons, T_self, castK, succK, Int.toNat_natCast, predK, decide_eq_true_eq, decide_eq_false_iff_not, List.map_cons, List.map_nil, cond_true, cond_false]
   simp [ld0]
 have hZhk1 : k ≤ l.length ∧ ∀ j, j < k → ldOk (l.getD j Tc.ld.dflt) = true := hk
 have hk1 := hZhk1.1
 have hk2 := hZhk1.2
 conv => arg 1; cbv
 refine ⟨fun g1 => ?_, fun g1 => ?_⟩
 · have hlt : k < l.length := by simp only [decide_eq_true_eq, castK] at g1; omega
   simp (maxSteps := 4000000) only [P_vc, P_br, P_and, P_fin, V_nil, V_one, V_cons, T_self, castK, succK, Int.toNat_natCast, predK, decide_eq_true_eq, decide_eq_false_iff_not, List.map_cons, List.map_nil, cond_true, cond_false]
   simp only [ld_eta]
   refine ⟨by omega, trivial, fun h => ?_, fun h => ?_⟩
   · have : addF l = (ld0, 2) := by
      unfold addF
      rw [if_pos]
      rw [List.any_eq_true]
      exact ⟨_, getD_mem Tc.ld.dflt hlt, by unfold ldBad; exact h⟩
     rw [this]
     simp [ld0]
   · have h' : ldOk (l.getD k Tc.ld.dflt) = true := by simpa using h
     have h2 := upto_more hk2 h'
     refine ⟨⟨by omega, by omega⟩, ⟨⟨hlt, h2⟩, by omega⟩, by omega, ?_⟩
     first | done | trivial | exact ⟨rfl, rfl, rfl, rfl⟩ | simp [ld0]
 have hkk : l.length ≤ k := by simp only [decide_eq_false_iff_not, castK] at g1; omega
 have hall : ∀ j, j < l.length → ldOk (l.getD j Tc.ld.dflt) = true := fun j hj => hk2 j (by omega)
 have haF : addF l = addFrom ld0 l := by
  unfold addF
  rw [if_neg]
  rw [Bool.not_eq_true, List.any_eq_false]
  intro x hx
  obtain ⟨j, hj, rfl⟩ := List.getElem_of_mem hx
  have := hall j hj
  rw [List.getD_eq_getElem?_getD, List.getElem?_eq_getElem hj, Option.getD_some] at this
  unfold ldBad
  rw [this]
  simp
 clear g1
 refine ⟨?_, fun (p : Nat × Ld) hp => ?_⟩
 · simp (maxSteps := 4000000) only [P_vc, P_br, P_and, P_fin, V_nil, V_one, V_cons, T_self, castK, succK, Int.toNat_natCast, predK, decide_eq_true_eq, decide_eq_false_iff_not, List.map_cons, List.map_nil, cond_true, cond_false]
   refine ⟨⟨Nat.zero_le _, by decide, rfl⟩, ?_⟩
   simp
 have hZhp1 : p.1 ≤ l.length ∧ ldOk p.2 = true ∧ addFrom ld0 l = addFrom p.2 (l.drop p.1) := hp
 have hp1 := hZhp1.1
 have hp2 := hZhp1.2.1
 have hp3 := hZhp1.2.2
 conv => arg 1; cbv
 refine ⟨fun g1 => ?_, fun g1 => ?_⟩
 · have hlt : p.1 < l.length := by simp only [decide_eq_true_eq, castK] at g1; omega
   have h1 := ldOk_in hp2
   have h2 := ldOk_in (hall _ hlt)
   have h3 := fun h => ldOk_add hp2 (hall _ hlt) h
   have h4 := addFrom_step (s := p.2) hlt
   refine nameIt (l.getD p.1 Tc.ld.dflt) fun x hx => ?_
   refine nameIt (p.2.add x) fun s2 hs2 => ?_
   rw [hx] at h2 h3 h4
   rw [hs2] at h3 h4
   have e1 : p.2.kilos + x.kilos = s2.kilos := by rw [← hs2]; rfl
   have e2 : p.2.x + x.x = s2.x := by rw [← hs2]; rfl
   have e3 : p.2.y + x.y = s2.y := by rw [← hs2]; rfl
   have e4 : p.2.z + x.z = s2.z := by rw [← hs2]; rfl
   simp (maxSteps := 4000000) only [P_vc, P_br, P_and, P_fin, V_nil, V_one, V_cons, T_self, castK, succK, Int.toNat_natCast, predK, decide_eq_true_eq, decide_eq_false_iff_not, List.map_cons, List.map_nil, cond_true, cond_false]
   simp only [hx, e1, e2, e3, e4]
   refine ⟨by omega, ⟨by omega, by omega⟩, fun h => ?_, fun h => ?_⟩
   · rw [haF, hp3, h4, if_neg (by rw [wOk_iff]; omega)]
     simp [ld0]
   · have h5 := h3 (by omega)
     have hw : wOk s2.kilos = true := by rw [wOk_iff]; omega
     rw [if_pos hw] at h4
     refine ⟨by omega, ⟨by omega, by omega⟩, by omega, ⟨by omega, by omega⟩, by omega, ⟨by omega, by omega⟩, by omega, ⟨by omega, by omega⟩, ⟨by omega, by omega⟩, ⟨(p.1 + 1, s2), ⟨⟨hlt, h5, by rw [hp3, h4]⟩, by simp only; omega⟩, ?_⟩⟩
     conv => arg 1; cbv
     simp (maxSteps := 4000000) only [P_vc, P_br, P_and, P_fin, V_nil, V_one, V_cons, T_self, castK, succK, Int.toNat_natCast, predK, decide_eq_true_eq, decide_eq_false_iff_not, List.map_cons, List.map_nil, cond_true, cond_false]
     simp
 · have hge : l.length ≤ p.1 := by simp only [decide_eq_false_iff_not, castK] at g1; omega
   simp (maxSteps := 4000000) only [P_vc, P_br, P_and, P_fin, V_nil, V_one, V_cons, T_self, castK, succK, Int.toNat_natCast, predK, decide_eq_true_eq, decide_eq_false_iff_not, List.map_cons, List.map_nil, cond_true, cond_false]
   rw [haF, hp3, List.drop_of_length_le hge]
   simp [addFrom]
def conFind15 : Con := ⟨65, [.agg ldSg], fun
 | [x0] => (x0.toLd).bind fun x => some ⟨fun _ => True, .tup [.agg (ctrL fun _ => (findF (x ())).1), .int .i64 fun _ => (findF (x ())).2]⟩
 | _ => none⟩
set_option maxRecDepth 100000 in
set_option maxHeartbeats 4000000 in
theorem conFind15_ok : ConOk Tryz.prog conFind15 := by
 refine fnOk [conRight15, conRatio1] ⟨conRight15_ok, conRatio1_ok, trivial⟩ Tryz.func65 (by kernel_rfl) fun avs res h hp => ?_
 simp only [conFind15] at h
 split at h
 case h_2 => cases h
 rename_i x0
 simp only [Option.bind_eq_some_iff, Option.some.injEq] at h
 obtain ⟨x, e0, rfl⟩ := h
 obtain rfl := AV.toLd_ e0
 clear e0
 obtain ⟨x, rfl⟩ := eta (α := Ld) x
 refine ⟨[], ?_⟩
 conv => arg 1; cbv
 have hin := fun h => ldOk_in (s := x) h
 simp (maxSteps := 4000000) only [P_vc, P_br, P_and, P_fin, V_nil, V_one, V_cons, T_self, castK, succK, Int.toNat_natCast, predK, decide_eq_true_eq, decide_eq_false_iff_not, List.map_cons, List.map_nil, cond_true, cond_false]
 simp only [ld_eta]
 cases hok : ldOk x with
 | false =>
  have hf : findF x = (ctr0, 2) := by unfold findF; rw [hok]; rfl
  rw [hf]
  simp only [Bool.not_false, Bool.true_eq_false, false_implies, and_true, true_implies, forall_const, implies_true]
  repeat' (first | apply And.intro | rfl | trivial)
 | true =>
  have h1 := hin hok
  by_cases hk : x.kilos = 0
  · have hf : findF x = (ctr0, 6) := by unfold findF; rw [hok, if_pos rfl, if_pos hk]
    rw [hf]
    simp only [Bool.not_true, Bool.false_eq_true, false_implies, true_and, true_implies, forall_const, implies_true, hk, not_true_eq_false, and_true]
    repeat' (first | apply And.intro | rfl | trivial)
  · have hf : findF x = (⟨(ratioL x.x x.kilos).1, (ratioL x.y x.kilos).1, (ratioL x.z (2 * x.kilos)).1⟩, 0) := by unfold findF; rw [hok, if_pos rfl, if_neg hk]
    have e2 : x.kilos + x.kilos = 2 * x.kilos := by omega
    rw [hf]
    simp only [Bool.not_true, Bool.false_eq_true, false_implies, true_and, true_implies, forall_const, implies_true, hk, not_false_eq_true, and_true, inI64, e2]
    omega
def pointOf (m : Mid) : Ld := (pointF m.box.kilos m.x m.y m.h).1
def cargoF (s : Shp) (bs : List Box) (l : List Stowed) : Ld × Int := cond (cargoB s bs l) (addF ((midsL s.cols bs (sortT l)).map pointOf)) (ld0, 2)
def conCargo : Con := ⟨16, [.agg shipSg, .sl .box, .sl .stowed], fun
 | [x0, x1, x2] => (x0.toShip).bind fun s => (x1.toBoxes).bind fun bs => (x2.toStos).bind fun l => some ⟨fun _ => shipPre (s ()) ∧ boxesPre (bs ()) ∧ (l ()).length ≤ 20, .tup [.agg (ldL fun _ => (cargoF (s ()) (bs ()) (l ())).1), .int .i64 fun _ => (cargoF (s ()) (bs ()) (l ())).2]⟩
 | _ => none⟩
def lpCargo (ms : Unit → List Mid) : Lp where
 X := Nat
 ov k := [(27, .int .i64 fun _ => (k : Int)), (10, .own 2)]
 oe k := [(2, .row true .ld 50 fun _ => ((ms ()).take k).map pointOf)]
 I k := k ≤ (ms ()).length
 μ k _ := (ms ()).length - k
 x0 := 0
 nx := some fun k => k + 1
set_option maxRecDepth 100000 in
set_option maxHeartbeats 4000000 in
theorem conCargo_ok : ConOk Tryz.prog conCargo := by
 refine fnOk [conMiddles, conMPoint, conMAdd] ⟨conMiddles_ok, conMPoint_ok, conMAdd_ok, trivial⟩ Tryz.func16 (by kernel_rfl) fun avs res h hp => ?_
 simp only [conCargo] at h
 split at h
 case h_2 => cases h
 rename_i x0 x1 x2
 simp only [Option.bind_eq_some_iff, Option.some.injEq] at h
 obtain ⟨s, e0, bs, e1, l, e2, rfl⟩ := h
 obtain rfl := AV.toShip_ e0
 obtain rfl := AV.toBoxes_ e1
 obtain rfl := AV.toStos_ e2
 clear e0 e1 e2
 obtain ⟨s, rfl⟩ := eta (α := Shp) s
 obtain ⟨bs, rfl⟩ := eta (α := List Box) bs
 obtain ⟨l, rfl⟩ := eta (α := List Stowed) l
 have hZh1 : shipPre s ∧ boxesPre bs ∧ l.length ≤ 20 := hp
 have h1 := hZh1.1
 have h2 := hZh1.2.1
 have h3 := hZh1.2.2
 refine nameIt (midsL s.cols bs (sortT l)) fun ms hms => ?_
 have hlen : ms.length ≤ 20 := by
  rw [← hms]
  unfold midsL
  rw [midsK_len]
  have := (sortT_perm l).length_eq
  omega
 refine ⟨[(6, lpCargo fun _ => ms)], ?_⟩
 conv => arg 1; cbv
 refine ⟨⟨h1, h2, h3⟩, fun g => ?_, fun g => ?_⟩
 · have g' : (!cargoB s bs l) = true := g
   simp only [Bool.not_eq_true'] at g'
   have hc : cargoF s bs l = (ld0, 2) := by unfold cargoF; rw [g']; rfl
   simp (maxSteps := 4000000) only [P_vc, P_br, P_and, P_fin, V_nil, V_one, V_cons, T_self, castK, succK, Int.toNat_natCast, predK, decide_eq_true_eq, decide_eq_false_iff_not, List.map_cons, List.map_nil, cond_true, cond_false]
   rw [hc]
   simp [ld0]
 have g' : (!cargoB s bs l) = false := g
 simp only [Bool.not_eq_false'] at g'
 have hc : cargoF s bs l = addF (ms.map pointOf) := by unfold cargoF; rw [g', hms]; rfl
 clear g
 refine ⟨?_, fun (k : Nat) hk => ?_⟩
 · simp (maxSteps := 4000000) only [P_vc, P_br, P_and, P_fin, V_nil, V_one, V_cons, T_self, castK, succK, Int.toNat_natCast, predK, decide_eq_true_eq, decide_eq_false_iff_not, List.map_cons, List.map_nil, cond_true, cond_false]
   exact ⟨Nat.zero_le _, rfl, rfl⟩
 have hk' : k ≤ ms.length := hk
 conv => arg 1; cbv
 simp (maxSteps := 4000000) only [P_vc, P_br, P_and, P_fin, V_nil, V_one, V_cons, T_self, castK, succK, Int.toNat_natCast, predK, decide_eq_true_eq, decide_eq_false_iff_not, List.map_cons, List.map_nil, cond_true, cond_false]
 simp only [hms, g', cond_true, ld_eta, box_eta]
 refine ⟨fun g1 => ?_, fun g1 => ?_⟩
 · have hlt : k < ms.length := by omega
   have e1 : (ms.take (k + 1)).map pointOf = (ms.take k).map pointOf ++ [pointOf (ms.getD k Tc.mid.dflt)] := by rw [take_getD Tc.mid.dflt hlt, List.map_append]; rfl
   rw [e1]
   refine ⟨by omega, trivial, ?_, ⟨by omega, by omega⟩, ⟨by omega, by omega⟩, by omega, ?_⟩
   · simp only [List.length_map, List.length_take, List.length_cons, List.length_nil]; omega
   · rfl
 · have hge : ms.length ≤ k := by omega
   rw [List.take_of_length_le hge, hc]
   refine ⟨by rw [List.length_map]; omega, ?_⟩
   simp
def conMWithin : Con := ⟨55, [.int .i64, .int .i64], fun
 | [x0, x1] => (x0.toI).bind fun n => (x1.toI).bind fun m => some ⟨fun _ => inI64 (-(m ())), .bool fun _ => inArm (n ()) (m ())⟩
 | _ => none⟩
def ship15 : Shp := ⟨cols15, covs07, 0, 0, 0, 0, [], [], [], 0, 0, 0, 0⟩
theorem ship15_pre : shipPre ship15 := by
 unfold shipPre ship15 cols15 covs07 inI64
 simp
theorem boxes15_pre : boxesPre boxes15 := by
 unfold boxesPre boxes15 noText
 simp
 decide
set_option maxRecDepth 100000 in
set_option maxHeartbeats 4000000 in
theorem mid15_1 : middleF ship15 boxes15 state15 1 = (4050, -500, 6591, 0) := by kernel_rfl
set_option maxRecDepth 100000 in
set_option maxHeartbeats 4000000 in
theorem mid15_3 : middleF ship15 boxes15 state15 3 = (1000, -500, 12078, 0) := by kernel_rfl
set_option maxRecDepth 100000 in
set_option maxHeartbeats 4000000 in
theorem cargo15 : cargoF ship15 boxes15 state15 = (⟨23000, 13850000, -11500000, 206463000⟩, 0) := by kernel_rfl
set_option maxRecDepth 100000 in
set_option maxHeartbeats 4000000 in
theorem find15 : findF ⟨23000, 13850000, -11500000, 206463000⟩ = (⟨(ratioL 13850 23).1, (ratioL (-500) 1).1, (ratioL 206463 46).1⟩, 0) := by kernel_rfl
def conLRatio : Con := ⟨28, [.int .i64, .int .i64], fun
 | [x0, x1] => (x0.toI).bind fun a => (x1.toI).bind fun b => some ⟨fun _ => inI64 (a ()) ∧ inI64 (b ()), .agg (fracL fun _ => (ratioL (a ()) (b ())).1)⟩
 | _ => none⟩
set_option maxRecDepth 100000 in
set_option maxHeartbeats 4000000 in
theorem conLRatio_ok : ConOk Tryz.prog conLRatio := by
 refine fnOk [conRatio] ⟨conRatio_ok, trivial⟩ Tryz.func28 (by kernel_rfl) fun avs res h hp => ?_
 simp only [conLRatio] at h
 split at h
 case h_2 => cases h
 rename_i x0 x1
 simp only [Option.bind_eq_some_iff, Option.some.injEq] at h
 obtain ⟨a, e0, b, e1, rfl⟩ := h
 obtain rfl := AV.toI_ e0
 obtain rfl := AV.toI_ e1
 clear e0 e1
 obtain ⟨a, rfl⟩ := eta (α := Int) a
 obtain ⟨b, rfl⟩ := eta (α := Int) b
 refine ⟨[], ?_⟩
 conv => arg 1; cbv
 simp (maxSteps := 4000000) only [P_vc, P_br, P_and, P_fin, V_nil, V_one, V_cons, T_self, castK, succK, Int.toNat_natCast, predK, decide_eq_true_eq, decide_eq_false_iff_not, List.map_cons, List.map_nil, cond_true, cond_false]
 have hp' : inI64 a ∧ inI64 b := hp
 simp [hp']
def conAwake : Con := ⟨12, [], fun
 | [] => some ⟨fun _ => True, .blit true⟩
 | _ => none⟩
set_option maxRecDepth 100000 in
set_option maxHeartbeats 4000000 in
theorem conAwake_ok : ConOk Tryz.prog conAwake := by
 refine fnOkO {} [conMiddle, conCargo, conFind, conLRatio] ⟨conMiddle_ok, conCargo_ok, conFind_ok, conLRatio_ok, trivial⟩ [fonEx15] ⟨fonEx15_ok, trivial⟩ Tryz.func12 (by kernel_rfl) fun avs res h hp => ?_
 simp only [conAwake] at h
 split at h
 case h_2 => cases h
 cases h
 refine ⟨[], ?_⟩
 conv => arg 1; cbv
 simp (maxSteps := 4000000) only [P_vc, P_br, P_and, P_fin, V_nil, V_one, V_cons, T_self, castK, succK, Int.toNat_natCast, predK, decide_eq_true_eq, decide_eq_false_iff_not, List.map_cons, List.map_nil, cond_true, cond_false]
 simp only [show (⟨cols15, covs07, 0, 0, 0, 0, [], [], [], 0, 0, 0, 0⟩ : Shp) = ship15 from rfl, mid15_1, mid15_3, cargo15, ld_eta, find15]
 have h3 : state15.length ≤ 20 := by decide
 simp [ship15_pre, boxes15_pre, h3, inI64]
def conFound : Con := ⟨31, [.agg ldSg], fun
 | [x0] => (x0.toLd).bind fun x => some ⟨fun _ => True, .blit true⟩
 | _ => none⟩
set_option maxRecDepth 100000 in
set_option maxHeartbeats 4000000 in
theorem conFound_ok : ConOk Tryz.prog conFound := by
 refine fnOk [conFind, conMRight, conFind15, conRight15] ⟨conFind_ok, conMRight_ok, conFind15_ok, conRight15_ok, trivial⟩ Tryz.func31 (by kernel_rfl) fun avs res h hp => ?_
 simp only [conFound] at h
 split at h
 case h_2 => cases h
 rename_i x0
 simp only [Option.bind_eq_some_iff, Option.some.injEq] at h
 obtain ⟨x, e0, rfl⟩ := h
 obtain rfl := AV.toLd_ e0
 clear e0
 obtain ⟨x, rfl⟩ := eta (α := Ld) x
 refine ⟨[], ?_⟩
 conv => arg 1; cbv
 simp (maxSteps := 4000000) only [P_vc, P_br, P_and, P_fin, V_nil, V_one, V_cons, T_self, castK, succK, Int.toNat_natCast, predK, decide_eq_true_eq, decide_eq_false_iff_not, List.map_cons, List.map_nil, cond_true, cond_false]
 simp [ld_eta]
def conLoads : Con := ⟨11, [.sl .ld, .int .i64, .int .i64, .int .i64, .int .i64], fun
 | [x0, x1, x2, x3, x4] => (x0.toLds).bind fun l => (x1.toI).bind fun k => (x2.toI).bind fun x => (x3.toI).bind fun y => (x4.toI).bind fun z => some ⟨fun _ => True, .blit true⟩
 | _ => none⟩
def lpGiven (l : List Ld) : Lp where
 X := Nat
 ov k := [(30, .int .i64 fun _ => (k : Int)), (11, .own 0)]
 oe k := [(0, .row true .ld 91 fun _ => l.take k)]
 I k := k ≤ l.length
 μ k _ := l.length - k
 x0 := 0
 nx := some fun k => k + 1
def lpEach (n : Nat) : Lp where
 X := Nat
 ov k := [(91, .int .i64 fun _ => (k : Int))]
 oe _ := []
 I k := k ≤ n
 μ k _ := n - k
 x0 := 0
 nx := some fun k => k + 1
theorem getD_app {α : Type} {l m : List α} {k : Nat} {d : α} (h : k < l.length) : (l ++ m).getD k d = l.getD k d := by
 rw [List.getD_eq_getElem?_getD, List.getD_eq_getElem?_getD, List.getElem?_append_left h]
set_option maxRecDepth 100000 in
set_option maxHeartbeats 4000000 in
theorem conLoads_ok : ConOk Tryz.prog conLoads := by
 refine fnOk [conMPoint, conPoint15, conMAdd, conAdd15, conFound] ⟨conMPoint_ok, conPoint15_ok, conMAdd_ok, conAdd15_ok, conFound_ok, trivial⟩ Tryz.func11 (by kernel_rfl) fun avs res h hp => ?_
 simp only [conLoads] at h
 split at h
 case h_2 => cases h
 rename_i x0 x1 x2 x3 x4
 simp only [Option.bind_eq_some_iff, Option.some.injEq] at h
 obtain ⟨l, e0, k, e1, x, e2, y, e3, z, e4, rfl⟩ := h
 obtain rfl := AV.toLds_ e0
 obtain rfl := AV.toI_ e1
 obtain rfl := AV.toI_ e2
 obtain rfl := AV.toI_ e3
 obtain rfl := AV.toI_ e4
 clear e0 e1 e2 e3 e4
 obtain ⟨l, rfl⟩ := eta (α := List Ld) l
 obtain ⟨k, rfl⟩ := eta (α := Int) k
 obtain ⟨x, rfl⟩ := eta (α := Int) x
 obtain ⟨y, rfl⟩ := eta (α := Int) y
 obtain ⟨z, rfl⟩ := eta (α := Int) z
 refine nameIt (l.length + 1) fun n hn => ?_
 refine ⟨[(5, lpGiven l), (17, lpEach n)], ?_⟩
 conv => arg 1; cbv
 refine ⟨fun g => ?_, fun g => ?_⟩
 · simp (maxSteps := 4000000) only [P_vc, P_br, P_and, P_fin, V_nil, V_one, V_cons, T_self, castK, succK, Int.toNat_natCast, predK, decide_eq_true_eq, decide_eq_false_iff_not, List.map_cons, List.map_nil, cond_true, cond_false]
 have hl : l.length ≤ 40 := by
  have g' : decide (40 < (l.length : Int)) = false := g
  simp only [decide_eq_false_iff_not] at g'
  omega
 clear g
 refine ⟨?_, fun (j : Nat) hj => ?_⟩
 · simp (maxSteps := 4000000) only [P_vc, P_br, P_and, P_fin, V_nil, V_one, V_cons, T_self, castK, succK, Int.toNat_natCast, predK, decide_eq_true_eq, decide_eq_false_iff_not, List.map_cons, List.map_nil, cond_true, cond_false]
   exact ⟨Nat.zero_le _, rfl, rfl⟩
 have hj' : j ≤ l.length := hj
 clear hj
 conv => arg 1; cbv
 refine ⟨fun g => ?_, fun g => ?_⟩
 · simp (maxSteps := 4000000) only [P_vc, P_br, P_and, P_fin, V_nil, V_one, V_cons, T_self, castK, succK, Int.toNat_natCast, predK, decide_eq_true_eq, decide_eq_false_iff_not, List.map_cons, List.map_nil, cond_true, cond_false]
   simp only [ld_eta]
   have hlt : j < l.length := by
    have g' : decide ((j : Int) < (l.length : Int)) = true := g
    simp only [decide_eq_true_eq] at g'
    omega
   rw [take_getD Tc.ld.dflt hlt]
   exact ⟨by omega, by simp; omega, ⟨by omega, by omega⟩, ⟨hlt, by omega⟩, by omega, rfl⟩
 have hge : l.length ≤ j := by
  have g' : decide ((j : Int) < (l.length : Int)) = false := g
  simp only [decide_eq_false_iff_not] at g'
  omega
 clear g
 have hT : l.take j = l := List.take_of_length_le hge
 refine nameIt (pointF k x y z).1 fun a ha => ?_
 simp (maxSteps := 4000000) only [P_vc, P_br, P_and, P_fin, V_nil, V_one, V_cons, T_self, castK, succK, Int.toNat_natCast, predK, decide_eq_true_eq, decide_eq_false_iff_not, List.map_cons, List.map_nil, cond_true, cond_false]
 simp only [hT, ld_eta, ha, List.nil_append, decide_true, Bool.not_true, Bool.false_eq_true, false_implies, true_implies, true_and]
 refine ⟨by simp; omega, by omega, by omega, by simp; omega, ⟨by omega, rfl⟩, fun (q : Nat) hq => ?_⟩
 have hq' : q ≤ n := hq
 clear hq
 conv => arg 1; cbv
 simp (maxSteps := 4000000) only [P_vc, P_br, P_and, P_fin, V_nil, V_one, V_cons, T_self, castK, succK, Int.toNat_natCast, predK, decide_eq_true_eq, decide_eq_false_iff_not, List.map_cons, List.map_nil, cond_true, cond_false]
 have hlen : (l ++ [a]).length = n := by rw [← hn]; simp
 rw [hlen]
 refine ⟨fun h1 => ⟨⟨by omega, h1⟩, fun h2 => ?_, fun h2 => ⟨trivial, ⟨by omega, by omega⟩, ⟨by omega, by omega⟩, by omega⟩⟩, fun _ => trivial⟩
 have hlt : q < l.length := by omega
 simp only [getD_app hlt, decide_true, Bool.not_true, Bool.false_eq_true, false_implies, true_implies, true_and]
 exact ⟨⟨by omega, h2⟩, ⟨by omega, by omega⟩, ⟨by omega, by omega⟩, by omega⟩
def conMomentLoads : Con := ⟨3, [.sl .ld, .int .i64, .int .i64, .int .i64, .int .i64], fun
 | [x0, x1, x2, x3, x4] => (x0.toLds).bind fun l => (x1.toI).bind fun k => (x2.toI).bind fun x => (x3.toI).bind fun y => (x4.toI).bind fun z => some ⟨fun _ => True, .bool fun _ => true⟩
 | _ => none⟩
set_option maxRecDepth 100000 in
set_option maxHeartbeats 4000000 in
theorem conMomentLoads_ok : ConOk Tryz.prog conMomentLoads := by
 refine fnOk [conLoads, conAwake] ⟨conLoads_ok, conAwake_ok, trivial⟩ Tryz.func3 (by kernel_rfl) fun avs res h hp => ?_
 simp only [conMomentLoads] at h
 split at h
 case h_2 => cases h
 rename_i x0 x1 x2 x3 x4
 simp only [Option.bind_eq_some_iff, Option.some.injEq] at h
 obtain ⟨l, e0, k, e1, x, e2, y, e3, z, e4, rfl⟩ := h
 obtain rfl := AV.toLds_ e0
 obtain rfl := AV.toI_ e1
 obtain rfl := AV.toI_ e2
 obtain rfl := AV.toI_ e3
 obtain rfl := AV.toI_ e4
 clear e0 e1 e2 e3 e4
 obtain ⟨l, rfl⟩ := eta (α := List Ld) l
 obtain ⟨k, rfl⟩ := eta (α := Int) k
 obtain ⟨x, rfl⟩ := eta (α := Int) x
 obtain ⟨y, rfl⟩ := eta (α := Int) y
 obtain ⟨z, rfl⟩ := eta (α := Int) z
 refine ⟨[], ?_⟩
 conv => arg 1; cbv
 simp (maxSteps := 4000000) only [P_vc, P_br, P_and, P_fin, V_nil, V_one, V_cons, T_self, castK, succK, Int.toNat_natCast, predK, decide_eq_true_eq, decide_eq_false_iff_not, List.map_cons, List.map_nil, cond_true, cond_false]
 first | done | trivial | simp
end Go.Proofs.YtmbfcdnnlpcgfaaGreat
