/-
  Fractions and centres as trees of cells; contracts of frac, moment.Find and of the reference's Ratio.
-/
import Derived.Test.YtmbfcdnnlpcgfaaMs39
set_option linter.unusedVariables false
set_option linter.unusedSimpArgs false
namespace Go.Proofs.Ytmbfcdnnlpcgfaa
open Go.RowKit
def limb (n i : Nat) : Int := (((pad B32 8 n).getD i 0 : Nat) : Int)
def fracL (f : Unit → FracV) : List AV := [.bool fun _ => (f ()).neg, .int .u32 fun _ => limb (f ()).num 0, .int .u32 fun _ => limb (f ()).num 1, .int .u32 fun _ => limb (f ()).num 2, .int .u32 fun _ => limb (f ()).num 3, .int .u32 fun _ => limb (f ()).num 4, .int .u32 fun _ => limb (f ()).num 5, .int .u32 fun _ => limb (f ()).num 6, .int .u32 fun _ => limb (f ()).num 7, .int .u32 fun _ => limb (f ()).den 0, .int .u32 fun _ => limb (f ()).den 1, .int .u32 fun _ => limb (f ()).den 2, .int .u32 fun _ => limb (f ()).den 3, .int .u32 fun _ => limb (f ()).den 4, .int .u32 fun _ => limb (f ()).den 5, .int .u32 fun _ => limb (f ()).den 6, .int .u32 fun _ => limb (f ()).den 7]
def ctrL (c : Unit → Ctr) : List AV := fracL (fun _ => (c ()).x) ++ (fracL (fun _ => (c ()).y) ++ fracL fun _ => (c ()).z)
theorem limbs_all (n : Nat) : [limb n 0, limb n 1, limb n 2, limb n 3, limb n 4, limb n 5, limb n 6, limb n 7] = (pad B32 8 n).map fun (k : Nat) => (k : Int) := by
 obtain ⟨a0, a1, a2, a3, a4, a5, a6, a7, h⟩ := list8 (pad_len B32 8 n)
 unfold limb
 rw [h]
 rfl
theorem fracL_val (f : Unit → FracV) : (fracL f).map AV.valOf = (f ()).cells := by
 unfold FracV.cells
 have e : ∀ n, (pad B32 8 n).map (fun (k : Nat) => Value.int .u32 (k : Int)) = [limb n 0, limb n 1, limb n 2, limb n 3, limb n 4, limb n 5, limb n 6, limb n 7].map (Value.int .u32) := fun n => by rw [limbs_all, List.map_map]; rfl
 rw [e, e]
 rfl
theorem ctrL_val (c : Unit → Ctr) : (ctrL c).map AV.valOf = (c ()).cells := by
 unfold ctrL Ctr.cells
 rw [List.map_append, List.map_append, fracL_val, fracL_val, fracL_val]
section
variable {w : World} {ρ : Nat → Option Rl} {base : Nat} {ro : Nat → Prop} {v : Value}
theorem avr_frac (f : Unit → FracV) : AVR w ρ base ro (.agg (fracL f)) (f ()).val := by
 have h := avr_aggF (w := w) (ρ := ρ) (base := base) (ro := ro) (l := fracL f) rfl
 rwa [fracL_val] at h
theorem avr_ctr (c : Unit → Ctr) : AVR w ρ base ro (.agg (ctrL c)) (c ()).val := by
 have h := avr_aggF (w := w) (ρ := ρ) (base := base) (ro := ro) (l := ctrL c) rfl
 rwa [ctrL_val] at h
end
theorem in_lo {n : Int} (h : inI64 n) : -9223372036854775808 ≤ n := h.1
theorem in_hi {n : Int} (h : inI64 n) : n ≤ 9223372036854775807 := h.2
def conRatio : Con := ⟨19, [.int .i64, .int .i64], fun
 | [x0, x1] => (x0.toI).bind fun a => (x1.toI).bind fun b => some ⟨fun _ => inI64 (a ()) ∧ inI64 (b ()), .tup [.agg (fracL fun _ => (ratioL (a ()) (b ())).1), .int .i64 fun _ => (ratioL (a ()) (b ())).2]⟩
 | _ => none⟩
theorem conRatio_ok : ConOk Try.prog conRatio := by
 refine oldOk Try.func19 (by kernel_rfl) fun avs res h w ra vals hE hp => ?_
 simp only [conRatio] at h
 split at h
 case h_2 => cases h
 rename_i x0 x1
 simp only [Option.bind_eq_some_iff, Option.some.injEq] at h
 obtain ⟨a, e0, b, e1, rfl⟩ := h
 obtain rfl := AV.toI_ e0
 obtain rfl := AV.toI_ e1
 clear e0 e1
 obtain ⟨a, rfl⟩ := eta (α := Int) a
 obtain ⟨b, rfl⟩ := eta (α := Int) b
 obtain ⟨v0, us0, rfl, hv0, h0⟩ := hE.head
 obtain ⟨v1, us1, rfl, hv1, h1⟩ := h0.head
 obtain rfl := h1.none
 obtain rfl := hv0.int_
 obtain rfl := hv1.int_
 exact (frac_Ratio a b (in_lo hp.1) (in_hi hp.1) (in_lo hp.2) (in_hi hp.2) w).mono fun e w' ⟨k1, k2⟩ => ⟨_, k1, k2, avr_tup2 (avr_frac _) (.int _ _)⟩
def conOf : Con := ⟨10, [.int .i64], fun
 | [x0] => (x0.toI).bind fun a => some ⟨fun _ => inI64 (a ()), .agg (fracL fun _ => ofL (a ()))⟩
 | _ => none⟩
theorem conOf_ok : ConOk Try.prog conOf := by
 refine oldOk Try.func10 (by kernel_rfl) fun avs res h w ra vals hE hp => ?_
 simp only [conOf] at h
 split at h
 case h_2 => cases h
 rename_i x0
 simp only [Option.bind_eq_some_iff, Option.some.injEq] at h
 obtain ⟨a, e0, rfl⟩ := h
 obtain rfl := AV.toI_ e0
 clear e0
 obtain ⟨a, rfl⟩ := eta (α := Int) a
 obtain ⟨v0, us0, rfl, hv0, h0⟩ := hE.head
 obtain rfl := h0.none
 obtain rfl := hv0.int_
 exact (frac_Of a (in_lo hp) (in_hi hp) w).mono fun e w' ⟨k1, k2⟩ => ⟨_, k1, k2, avr_frac fun _ => ofL a⟩
def conFind : Con := ⟨9, [.agg ldSg], fun
 | [x0] => (x0.toLd).bind fun x => some ⟨fun _ => True, .tup [.agg (ctrL fun _ => (findF (x ())).1), .int .i64 fun _ => (findF (x ())).2]⟩
 | _ => none⟩
theorem conFind_ok : ConOk Try.prog conFind := by
 refine oldOk Try.func9 (by kernel_rfl) fun avs res h w ra vals hE hp => ?_
 simp only [conFind] at h
 split at h
 case h_2 => cases h
 rename_i x0
 simp only [Option.bind_eq_some_iff, Option.some.injEq] at h
 obtain ⟨x, e0, rfl⟩ := h
 obtain rfl := AV.toLd_ e0
 clear e0
 obtain ⟨x, rfl⟩ := eta (α := Ld) x
 obtain ⟨v0, us0, rfl, hv0, h0⟩ := hE.head
 obtain rfl := h0.none
 obtain rfl := hv0.aggF rfl
 exact (m_Find x w).mono fun e w' ⟨k1, k2⟩ => ⟨_, k1, k2, avr_tup2 (avr_ctr _) (.int _ _)⟩
def cols07 : List Col := [⟨0, 0, false, 2, 0, 0, 0, 0, [], 0, 0, 0⟩, ⟨0, 1, false, 2, 0, 0, 0, 0, [], 0, 0, 0⟩, ⟨0, 0, true, 3, 0, 0, 0, 0, [], 0, 0, 0⟩, ⟨0, 1, true, 3, 0, 0, 0, 0, [], 0, 0, 0⟩, ⟨1, 1, true, 4, 0, 0, 0, 0, [], 0, 0, 0⟩]
def covs07 : List Cov := [⟨0, [0, 1]⟩]
def cols15 : List Col := [⟨0, 0, false, 2, 0, 0, 0, 0, [], 1000, -500, 2000⟩, ⟨0, 1, false, 2, 0, 0, 0, 0, [], 0, 0, 0⟩, ⟨0, 0, true, 3, 0, 0, 0, 0, [], 0, 0, 0⟩, ⟨0, 1, true, 3, 0, 0, 0, 0, [], 0, 0, 0⟩, ⟨1, 1, true, 4, 0, 0, 0, 0, [], 0, 0, 0⟩]
def boxes15 : List Box := [⟨1, noText, 20, false, 5000, 0, 1, 0, false⟩, ⟨2, noText, 20, false, 8000, 0, 1, 0, false⟩, ⟨3, noText, 40, true, 10000, 0, 1, 0, false⟩]
def state15 : List Stowed := [⟨1, 0, 0, 1⟩, ⟨2, 0, 0, 2⟩, ⟨3, 0, 1, 0⟩]
def exShipAV (loc : Nat) : AV := .agg [.own loc, .sl true .cov fun _ => covs07, .lit .i64 0, .lit .i64 0, .lit .i64 0, .lit .i64 0, .nil, .nil, .nil, .lit .i64 0, .lit .i64 0, .lit .i64 0, .lit .i64 0]
def fonEx07 : Fon := ⟨23, [], 0, fun avs es => match avs, es with
 | [], [] => some ⟨fun _ => True, exShipAV 1, [(1, .row true .col 80 fun _ => cols07)]⟩
 | _, _ => none, false⟩
def fonEx15 : Fon := ⟨11, [], 0, fun avs es => match avs, es with
 | [], [] => some ⟨fun _ => True, .tup [exShipAV 2, .own 4, .own 5], [(2, .row true .col 80 fun _ => cols15), (4, .row true .box 82 fun _ => boxes15), (5, .row true .stowed 86 fun _ => state15)]⟩
 | _, _ => none, false⟩
set_option maxRecDepth 100000 in
set_option maxHeartbeats 4000000 in
theorem fonEx07_ok : FonOk Try.prog fonEx07 := by
 refine fonOk [] trivial [] trivial Try.func23 (by kernel_rfl) fun avs es res h hp => ?_
 simp only [fonEx07] at h
 split at h
 case h_2 => cases h
 cases h
 refine ⟨[], ?_⟩
 conv => arg 1; cbv
 simp (maxSteps := 4000000) only [P_vc, P_br, P_and, P_fin, V_nil, V_one, V_cons, T_self, castK, succK, Int.toNat_natCast, predK, decide_eq_true_eq, decide_eq_false_iff_not, List.map_cons, List.map_nil, cond_true, cond_false]
 first | trivial | exact ⟨rfl, rfl⟩ | rfl
set_option maxRecDepth 100000 in
set_option maxHeartbeats 4000000 in
theorem fonEx15_ok : FonOk Try.prog fonEx15 := by
 refine fonOkO { jn := [(2, [0, 1, 2, 3])], sc := [(2, schList [0, 2, 4] (.alt (schList [1, 6, 7] (.alt (.op 3 (.alt (schList [5, 8, 9, 10, 11, 12, 13, 14] .nil) (schList [8, 9, 10] (.alt (schList [5, 11, 12, 13, 14] .nil) (schList [11, 5, 12, 13, 14] .nil))))) (.alt (.op 5 (.alt (schList [3, 8, 9, 10, 11, 12, 13, 14] .nil) (schList [8, 3, 9, 10, 11, 12, 13, 14] .nil))) (.op 8 (.alt (schList [3, 9, 10] (.alt (schList [5, 11, 12, 13, 14] .nil) (schList [11, 5, 12, 13, 14] .nil))) (schList [5, 3, 9, 10, 11, 12, 13, 14] .nil)))))) (.alt (.op 3 (.alt (schList [1, 6, 7] (.alt (schList [5, 8, 9, 10, 11, 12, 13, 14] .nil) (schList [8, 9, 10] (.alt (schList [5, 11, 12, 13, 14] .nil) (schList [11, 5, 12, 13, 14] .nil))))) (schList [5, 1, 6, 7, 8, 9, 10, 11, 12, 13, 14] .nil))) (.op 5 (.alt (schList [1, 6, 7] (.alt (schList [3, 8, 9, 10, 11, 12, 13, 14] .nil) (schList [8, 3, 9, 10, 11, 12, 13, 14] .nil))) (schList [3, 1, 6, 7, 8, 9, 10, 11, 12, 13, 14] .nil))))))] } [] trivial [fonEx07] ⟨fonEx07_ok, trivial⟩ Try.func11 (by kernel_rfl) fun avs es res h hp => ?_
 simp only [fonEx15] at h
 split at h
 case h_2 => cases h
 cases h
 refine ⟨[], ?_⟩
 conv => arg 1; cbv
 simp (maxSteps := 4000000) only [P_vc, P_br, P_and, P_fin, V_nil, V_one, V_cons, T_self, castK, succK, Int.toNat_natCast, predK, decide_eq_true_eq, decide_eq_false_iff_not, List.map_cons, List.map_nil, cond_true, cond_false]
 first | trivial | exact ⟨rfl, rfl⟩ | rfl
theorem ldOk_add {s x : Ld} (hs : ldOk s = true) (hx : ldOk x = true) (h : s.kilos + x.kilos ≤ 500000000) : ldOk (s.add x) = true := by
 unfold ldOk wOk inArm Ld.add at *
 simp only [Bool.and_eq_true, decide_eq_true_eq] at *
 omega
theorem ldOk_in {s : Ld} (hs : ldOk s = true) : (0 ≤ s.kilos ∧ s.kilos ≤ 500000000) ∧ (-550000000000000 ≤ s.x ∧ s.x ≤ 550000000000000) ∧ (-550000000000000 ≤ s.y ∧ s.y ≤ 550000000000000) ∧ (-550000000000000 ≤ s.z ∧ s.z ≤ 550000000000000) := by
 unfold ldOk wOk inArm at hs
 simp only [Bool.and_eq_true, decide_eq_true_eq] at hs
 omega
theorem ld_eta (l : Ld) : (⟨l.kilos, l.x, l.y, l.z⟩ : Ld) = l := rfl
def pointOf (m : Mid) : Ld := (pointF m.box.kilos m.x m.y m.h).1
def cargoF (s : Shp) (bs : List Box) (l : List Stowed) : Ld × Int := cond (cargoB s bs l) (addF ((midsL s.cols bs (sortT l)).map pointOf)) (ld0, 2)
def conCargo : Con := ⟨13, [.agg shipSg, .sl .box, .sl .stowed], fun
 | [x0, x1, x2] => (x0.toShip).bind fun s => (x1.toBoxes).bind fun bs => (x2.toStos).bind fun l => some ⟨fun _ => shipPre (s ()) ∧ boxesPre (bs ()) ∧ (l ()).length ≤ 20, .tup [.agg (ldL fun _ => (cargoF (s ()) (bs ()) (l ())).1), .int .i64 fun _ => (cargoF (s ()) (bs ()) (l ())).2]⟩
 | _ => none⟩
def lpCargo (ms : Unit → List Mid) : Lp where
 X := Nat
 ov k := [(27, .int .i64 fun _ => (k : Int)), (10, .own 2)]
 oe k := [(2, .row true .ld 30 fun _ => ((ms ()).take k).map pointOf)]
 I k := k ≤ (ms ()).length
 μ k _ := (ms ()).length - k
 x0 := 0
 nx := some fun k => k + 1
set_option maxRecDepth 100000 in
set_option maxHeartbeats 4000000 in
theorem conCargo_ok : ConOk Try.prog conCargo := by
 refine fnOk [conMiddles, conMPoint, conMAdd] ⟨conMiddles_ok, conMPoint_ok, conMAdd_ok, trivial⟩ Try.func13 (by kernel_rfl) fun avs res h hp => ?_
 simp only [conCargo] at h
 split at h
 case h_2 => cases h
 rename_i x0 x1 x2
 simp only [Option.bind_eq_some_iff, Option.some.injEq] at h
 obtain ⟨s, e0, bs, e1, l, e2, rfl⟩ := h
 obtain rfl := AV.toShip_ e0
 obtain rfl := AV.toBoxes_ e1
 obtain rfl := AV.toStos_ e2
 clear e0 e1 e2
 obtain ⟨s, rfl⟩ := eta (α := Shp) s
 obtain ⟨bs, rfl⟩ := eta (α := List Box) bs
 obtain ⟨l, rfl⟩ := eta (α := List Stowed) l
 have hZh1 : shipPre s ∧ boxesPre bs ∧ l.length ≤ 20 := hp
 have h1 := hZh1.1
 have h2 := hZh1.2.1
 have h3 := hZh1.2.2
 refine nameIt (midsL s.cols bs (sortT l)) fun ms hms => ?_
 have hlen : ms.length ≤ 20 := by
  rw [← hms]
  unfold midsL
  rw [midsK_len]
  have := (sortT_perm l).length_eq
  omega
 refine ⟨[(6, lpCargo fun _ => ms)], ?_⟩
 conv => arg 1; cbv
 refine ⟨⟨h1, h2, h3⟩, fun g => ?_, fun g => ?_⟩
 · have g' : (!cargoB s bs l) = true := g
   simp only [Bool.not_eq_true'] at g'
   have hc : cargoF s bs l = (ld0, 2) := by unfold cargoF; rw [g']; rfl
   simp (maxSteps := 4000000) only [P_vc, P_br, P_and, P_fin, V_nil, V_one, V_cons, T_self, castK, succK, Int.toNat_natCast, predK, decide_eq_true_eq, decide_eq_false_iff_not, List.map_cons, List.map_nil, cond_true, cond_false]
   rw [hc]
   simp [ld0]
 have g' : (!cargoB s bs l) = false := g
 simp only [Bool.not_eq_false'] at g'
 have hc : cargoF s bs l = addF (ms.map pointOf) := by unfold cargoF; rw [g', hms]; rfl
 clear g
 refine ⟨?_, fun (k : Nat) hk => ?_⟩
 · simp (maxSteps := 4000000) only [P_vc, P_br, P_and, P_fin, V_nil, V_one, V_cons, T_self, castK, succK, Int.toNat_natCast, predK, decide_eq_true_eq, decide_eq_false_iff_not, List.map_cons, List.map_nil, cond_true, cond_false]
   exact ⟨Nat.zero_le _, rfl, rfl⟩
 have hk' : k ≤ ms.length := hk
 conv => arg 1; cbv
 simp (maxSteps := 4000000) only [P_vc, P_br, P_and, P_fin, V_nil, V_one, V_cons, T_self, castK, succK, Int.toNat_natCast, predK, decide_eq_true_eq, decide_eq_false_iff_not, List.map_cons, List.map_nil, cond_true, cond_false]
 simp only [hms, g', cond_true, ld_eta, box_eta]
 refine ⟨fun g1 => ?_, fun g1 => ?_⟩
 · have hlt : k < ms.length := by omega
   have e1 : (ms.take (k + 1)).map pointOf = (ms.take k).map pointOf ++ [pointOf (ms.getD k Tc.mid.dflt)] := by rw [take_getD Tc.mid.dflt hlt, List.map_append]; rfl
   rw [e1]
   refine ⟨by omega, trivial, ?_, ⟨by omega, by omega⟩, ⟨by omega, by omega⟩, by omega, ?_⟩
   · simp only [List.length_map, List.length_take, List.length_cons, List.length_nil]; omega
   · rfl
 · have hge : ms.length ≤ k := by omega
   rw [List.take_of_length_le hge, hc]
   refine ⟨by rw [List.length_map]; omega, ?_⟩
   simp
def conMWithin : Con := ⟨16, [.int .i64, .int .i64], fun
 | [x0, x1] => (x0.toI).bind fun n => (x1.toI).bind fun m => some ⟨fun _ => inI64 (-(m ())), .bool fun _ => inArm (n ()) (m ())⟩
 | _ => none⟩
def ship15 : Shp := ⟨cols15, covs07, 0, 0, 0, 0, [], [], [], 0, 0, 0, 0⟩
theorem ship15_pre : shipPre ship15 := by
 unfold shipPre ship15 cols15 covs07 inI64
 simp
theorem boxes15_pre : boxesPre boxes15 := by
 unfold boxesPre boxes15 noText
 simp
 decide
set_option maxRecDepth 100000 in
set_option maxHeartbeats 4000000 in
theorem mid15_1 : middleF ship15 boxes15 state15 1 = (4050, -500, 6591, 0) := by kernel_rfl
set_option maxRecDepth 100000 in
set_option maxHeartbeats 4000000 in
theorem mid15_3 : middleF ship15 boxes15 state15 3 = (1000, -500, 12078, 0) := by kernel_rfl
set_option maxRecDepth 100000 in
set_option maxHeartbeats 4000000 in
theorem cargo15 : cargoF ship15 boxes15 state15 = (⟨23000, 13850000, -11500000, 206463000⟩, 0) := by kernel_rfl
set_option maxRecDepth 100000 in
set_option maxHeartbeats 4000000 in
theorem find15 : findF ⟨23000, 13850000, -11500000, 206463000⟩ = (⟨(ratioL 13850 23).1, (ratioL (-500) 1).1, (ratioL 206463 46).1⟩, 0) := by kernel_rfl
def conLRatio : Con := ⟨14, [.int .i64, .int .i64], fun
 | [x0, x1] => (x0.toI).bind fun a => (x1.toI).bind fun b => some ⟨fun _ => inI64 (a ()) ∧ inI64 (b ()), .agg (fracL fun _ => (ratioL (a ()) (b ())).1)⟩
 | _ => none⟩
set_option maxRecDepth 100000 in
set_option maxHeartbeats 4000000 in
theorem conLRatio_ok : ConOk Try.prog conLRatio := by
 refine fnOk [conRatio] ⟨conRatio_ok, trivial⟩ Try.func14 (by kernel_rfl) fun avs res h hp => ?_
 simp only [conLRatio] at h
 split at h
 case h_2 => cases h
 rename_i x0 x1
 simp only [Option.bind_eq_some_iff, Option.some.injEq] at h
 obtain ⟨a, e0, b, e1, rfl⟩ := h
 obtain rfl := AV.toI_ e0
 obtain rfl := AV.toI_ e1
 clear e0 e1
 obtain ⟨a, rfl⟩ := eta (α := Int) a
 obtain ⟨b, rfl⟩ := eta (α := Int) b
 refine ⟨[], ?_⟩
 conv => arg 1; cbv
 simp (maxSteps := 4000000) only [P_vc, P_br, P_and, P_fin, V_nil, V_one, V_cons, T_self, castK, succK, Int.toNat_natCast, predK, decide_eq_true_eq, decide_eq_false_iff_not, List.map_cons, List.map_nil, cond_true, cond_false]
 have hp' : inI64 a ∧ inI64 b := hp
 simp [hp']
def conAwake : Con := ⟨4, [], fun
 | [] => some ⟨fun _ => True, .blit true⟩
 | _ => none⟩
set_option maxRecDepth 100000 in
set_option maxHeartbeats 4000000 in
theorem conAwake_ok : ConOk Try.prog conAwake := by
 refine fnOkO {} [conMiddle, conCargo, conFind, conLRatio] ⟨conMiddle_ok, conCargo_ok, conFind_ok, conLRatio_ok, trivial⟩ [fonEx15] ⟨fonEx15_ok, trivial⟩ Try.func4 (by kernel_rfl) fun avs res h hp => ?_
 simp only [conAwake] at h
 split at h
 case h_2 => cases h
 cases h
 refine ⟨[], ?_⟩
 conv => arg 1; cbv
 simp (maxSteps := 4000000) only [P_vc, P_br, P_and, P_fin, V_nil, V_one, V_cons, T_self, castK, succK, Int.toNat_natCast, predK, decide_eq_true_eq, decide_eq_false_iff_not, List.map_cons, List.map_nil, cond_true, cond_false]
 simp only [show (⟨cols15, covs07, 0, 0, 0, 0, [], [], [], 0, 0, 0, 0⟩ : Shp) = ship15 from rfl, mid15_1, mid15_3, cargo15, ld_eta, find15]
 have h3 : state15.length ≤ 20 := by decide
 simp [ship15_pre, boxes15_pre, h3, inI64]
def conNone : Con := ⟨8, [.sl .int], fun
 | [x0] => (x0.toInts).bind fun l => some ⟨fun _ => (l ()).length ≤ 1000, .bool fun _ => (l ()).all fun e => decide (e = 0)⟩
 | _ => none⟩
def lpNone (l : List Int) : Lp where
 X := Nat
 ov k := [(7, .int .i64 fun _ => (k : Int))]
 oe _ := []
 I k := k ≤ l.length ∧ (l.take k).all (fun e => decide (e = 0)) = true
 μ k _ := l.length - k
 x0 := 0
 nx := some fun k => k + 1
set_option maxRecDepth 100000 in
set_option maxHeartbeats 4000000 in
theorem conNone_ok : ConOk Try.prog conNone := by
 refine fnOk [] trivial Try.func8 (by kernel_rfl) fun avs res h hp => ?_
 simp only [conNone] at h
 split at h
 case h_2 => cases h
 rename_i x0
 simp only [Option.bind_eq_some_iff, Option.some.injEq] at h
 obtain ⟨l, e0, rfl⟩ := h
 obtain rfl := AV.toInts_ e0
 clear e0
 obtain ⟨l, rfl⟩ := eta (α := List Int) l
 have hl : l.length ≤ 1000 := hp
 refine ⟨[(2, lpNone l)], ?_⟩
 conv => arg 1; cbv
 refine ⟨?_, fun (k : Nat) hk => ?_⟩
 · simp (maxSteps := 4000000) only [P_vc, P_br, P_and, P_fin, V_nil, V_one, V_cons, T_self, castK, succK, Int.toNat_natCast, predK, decide_eq_true_eq, decide_eq_false_iff_not, List.map_cons, List.map_nil, cond_true, cond_false]
   simp
 have hZhk1 : k ≤ l.length ∧ (l.take k).all (fun e => decide (e = 0)) = true := hk
 have hk1 := hZhk1.1
 have hk2 := hZhk1.2
 conv => arg 1; cbv
 simp (maxSteps := 4000000) only [P_vc, P_br, P_and, P_fin, V_nil, V_one, V_cons, T_self, castK, succK, Int.toNat_natCast, predK, decide_eq_true_eq, decide_eq_false_iff_not, List.map_cons, List.map_nil, cond_true, cond_false]
 refine ⟨fun g => ?_, fun g => (all_end hk2 (by omega)).symm⟩
 have hlt : k < l.length := by omega
 have ha := all_bad (p := fun e : Int => decide (e = 0)) (d := Tc.int.dflt) hlt
 have hb := all_more (d := Tc.int.dflt) hk2 hlt
 refine ⟨by omega, fun h => ?_, fun h => ⟨⟨by omega, by omega⟩, ⟨⟨hlt, hb (by simpa using h)⟩, by omega⟩, by omega⟩⟩
 exact (ha (by simpa using h)).symm
/- sums -/
def sumW (l : List Ld) : Ld := l.foldl Ld.add ld0
theorem Ld.ext' {a b : Ld} (h1 : a.kilos = b.kilos) (h2 : a.x = b.x) (h3 : a.y = b.y) (h4 : a.z = b.z) : a = b := by
 cases a; cases b; simp only at h1 h2 h3 h4; subst h1; subst h2; subst h3; subst h4; rfl
theorem add_assoc' (a b c : Ld) : (a.add b).add c = a.add (b.add c) := by unfold Ld.add; apply Ld.ext' <;> simp only <;> omega
theorem add_comm' (a b : Ld) : a.add b = b.add a := by unfold Ld.add; apply Ld.ext' <;> simp only <;> omega
theorem add_zero' (a : Ld) : a.add ld0 = a := by unfold Ld.add ld0; apply Ld.ext' <;> simp only <;> omega
theorem zero_add' (a : Ld) : ld0.add a = a := by rw [add_comm', add_zero']
theorem foldl_add : ∀ (l : List Ld) (s : Ld), l.foldl Ld.add s = s.add (sumW l)
 | [], s => (add_zero' s).symm
 | x :: l, s => by
  unfold sumW
  simp only [List.foldl_cons]
  rw [foldl_add l, foldl_add l (ld0.add x), zero_add', add_assoc']
theorem sumW_cons (x : Ld) (l : List Ld) : sumW (x :: l) = x.add (sumW l) := by
 show l.foldl Ld.add (ld0.add x) = _
 rw [foldl_add, zero_add']
theorem sumW_app (l m : List Ld) : sumW (l ++ m) = (sumW l).add (sumW m) := by
 unfold sumW
 rw [List.foldl_append, foldl_add]
 rfl
theorem sumW_rev : ∀ (l : List Ld), sumW l.reverse = sumW l
 | [] => rfl
 | x :: l => by rw [List.reverse_cons, sumW_app, sumW_rev l, sumW_cons, sumW_cons, add_comm', show sumW [] = ld0 from rfl, add_zero']
theorem sumW_ok : ∀ (l : List Ld), (∀ x ∈ l, ldOk x = true) → (sumW l).kilos ≤ 500000000 → ldOk (sumW l) = true ∧ ∀ k, 0 ≤ (sumW (l.take k)).kilos ∧ (sumW (l.take k)).kilos ≤ (sumW l).kilos
 | [], _, _ => ⟨by decide, fun k => by simp [sumW, ld0]⟩
 | x :: l, h, hs => by
  rw [sumW_cons] at hs ⊢
  have hx := ldOk_in (h x (.head _))
  have hkk : (x.add (sumW l)).kilos = x.kilos + (sumW l).kilos := rfl
  have hl : (sumW l).kilos ≤ 500000000 := by omega
  obtain ⟨h1, h2⟩ := sumW_ok l (fun y hy => h y (.tail _ hy)) hl
  refine ⟨ldOk_add (h x (.head _)) h1 (by omega), fun k => ?_⟩
  cases k with
  | zero =>
   have := ldOk_in h1
   simp only [List.take_zero]
   show 0 ≤ (0 : Int) ∧ (0 : Int) ≤ _
   omega
  | succ k =>
   rw [List.take_succ_cons, sumW_cons]
   have h3 := h2 k
   show 0 ≤ x.kilos + _ ∧ x.kilos + _ ≤ x.kilos + _
   omega
theorem addFrom_sum : ∀ (l : List Ld) (s : Ld), (∀ k, 0 ≤ (s.add (sumW (l.take k))).kilos ∧ (s.add (sumW (l.take k))).kilos ≤ 500000000) → addFrom s l = (s.add (sumW l), 0)
 | [], s, _ => by rw [show sumW [] = ld0 from rfl, add_zero']; rfl
 | x :: l, s, h => by
  unfold addFrom
  have h1 := h 1
  rw [List.take_succ_cons, List.take_zero, sumW_cons, show sumW [] = ld0 from rfl, add_zero'] at h1
  have h1' : 0 ≤ s.kilos + x.kilos ∧ s.kilos + x.kilos ≤ 500000000 := h1
  rw [if_pos (wOk_iff.2 h1'), addFrom_sum l (s.add x) (fun k => by
   have h2 := h (k + 1)
   rw [List.take_succ_cons, sumW_cons, ← add_assoc'] at h2
   exact h2), sumW_cons, add_assoc']
theorem addF_sum {l : List Ld} (h : ∀ x ∈ l, ldOk x = true) (hs : (sumW l).kilos ≤ 500000000) : addF l = (sumW l, 0) := by
 unfold addF
 have h0 : l.any ldBad = false := by
  rw [List.any_eq_false]
  intro x hx
  unfold ldBad
  rw [h x hx]
  simp
 rw [if_neg (by rw [h0]; simp), addFrom_sum l ld0 (fun k => by
  rw [zero_add']
  have := (sumW_ok l h hs).2 k
  omega), zero_add']
def wOne (w : Wgt) : Ld := ⟨w.kilos, w.kilos * w.x, w.kilos * w.y, w.kilos * w.z⟩
def wgtOk (w : Wgt) : Prop := (0 ≤ w.kilos ∧ w.kilos ≤ 65535) ∧ (-32768 ≤ w.x ∧ w.x ≤ 32767) ∧ (-32768 ≤ w.y ∧ w.y ≤ 32767) ∧ (-32768 ≤ w.z ∧ w.z ≤ 32767)
theorem mul_arm {k x : Int} (h1 : 0 ≤ k) (h3 : -32768 ≤ x) (h4 : x ≤ 32767) : -(k * 1100000) ≤ k * x ∧ k * x ≤ k * 1100000 := by
 have h5 : k * x ≤ k * 1100000 := Int.mul_le_mul_of_nonneg_left (by omega) h1
 have h6 : k * (-1100000) ≤ k * x := Int.mul_le_mul_of_nonneg_left (by omega) h1
 omega
theorem wOne_ok {w : Wgt} (h : wgtOk w) : ldOk (wOne w) = true := by
 obtain ⟨h1, h2, h3, h4⟩ := h
 exact ldOk_of ⟨⟨h1.1, by show w.kilos ≤ _; omega⟩, mul_arm h1.1 h2.1 h2.2, mul_arm h1.1 h3.1 h3.2, mul_arm h1.1 h4.1 h4.2⟩
theorem point_one {w : Wgt} (h : wgtOk w) : pointF w.kilos w.x w.y w.z = (wOne w, 0) := by
 obtain ⟨h1, h2, h3, h4⟩ := h
 unfold pointF
 rw [if_pos]
 · rfl
 · simp only [Bool.and_eq_true]
   exact ⟨wOk_iff.2 (by omega), inArm_iff.2 (by omega), inArm_iff.2 (by omega), inArm_iff.2 (by omega)⟩
theorem ones_kilos : ∀ (l : List Wgt), (∀ w ∈ l, wgtOk w) → 0 ≤ (sumW (l.map wOne)).kilos ∧ (sumW (l.map wOne)).kilos ≤ 65535 * (l.length : Int)
 | [], _ => by simp [sumW, ld0]
 | w :: l, h => by
  have h1 := ones_kilos l fun w hw => h w (.tail _ hw)
  have h2 := (h w (.head _)).1
  rw [List.map_cons, sumW_cons]
  show 0 ≤ w.kilos + _ ∧ w.kilos + _ ≤ _
  simp only [List.length_cons]
  omega
theorem neg_ok {s : Ld} (h : ldOk s = true) : ldOk ⟨s.kilos, -s.x, -s.y, -s.z⟩ = true := by
 have := ldOk_nums h
 exact ldOk_of (by simp only; omega)
theorem rest_ok {k : Int} (h : 0 ≤ k ∧ k ≤ 500000000) : ldOk ⟨k, 0, 0, 0⟩ = true := ldOk_of (by simp only; omega)
theorem addF_two {a b : Ld} (ha : ldOk a = true) (hb : ldOk b = true) (h : a.kilos + b.kilos ≤ 500000000) : addF [a, b] = (a.add b, 0) := by
 have e : sumW [a, b] = a.add b := by rw [sumW_cons, sumW_cons, show sumW [] = ld0 from rfl, add_zero']
 rw [addF_sum (by intro x hx; simp only [List.mem_cons, List.not_mem_nil, or_false] at hx; rcases hx with rfl | rfl <;> assumption) (by rw [e]; exact h), e]
theorem addF_over {a b c : Ld} (ha : ldOk a = true) (hb : ldOk b = true) (hc : ldOk c = true) (h : a.kilos + b.kilos = 500000000) (h1 : 0 < c.kilos) : addF [a, b, c] = (ld0, 3) := by
 have e1 := (ldOk_in ha).1
 have e2 := (ldOk_in hb).1
 unfold addF
 have h0 : [a, b, c].any ldBad = false := by simp [ldBad, ha, hb, hc]
 rw [if_neg (by rw [h0]; simp)]
 unfold addFrom
 rw [if_pos (wOk_iff.2 (by show 0 ≤ 0 + a.kilos ∧ 0 + a.kilos ≤ _; omega)), zero_add']
 unfold addFrom
 rw [if_pos (wOk_iff.2 (by omega))]
 unfold addFrom
 rw [if_neg]
 intro h2
 have := wOk_iff.1 h2
 have e3 : (a.add b).kilos = a.kilos + b.kilos := rfl
 omega
theorem ratio_zero {n : Int} (h : 0 < n) : (ratioL 0 n).1 = ofL 0 := by
 unfold ratioL
 rw [if_neg (by omega)]
 unfold fitL ofL
 have e : Nat.gcd (Int.natAbs 0) n.natAbs = n.natAbs := Nat.gcd_zero_left _
 rw [e, Nat.div_self (by omega)]
 simp
 rw [if_pos (by decide)]
def lpOnes (l : List Wgt) (m : Nat) : Lp where
 X := Nat
 ov k := [(38, .int .i64 fun _ => (k : Int)), (5, .own 0), (6, .sl true .ld fun _ => ((l.take k).map wOne).reverse)]
 oe k := [(0, .row true .ld 30 fun _ => (l.take k).map wOne)]
 I k := k ≤ m
 μ k _ := m - k
 x0 := 0
 nx := some fun k => k + 1
def conMomentSums : Con := ⟨3, [.sl .wgt, .int .u8], fun
 | [x0, x1] => (x0.toWgts).bind fun l => (x1.toU8).bind fun cut => some ⟨fun _ => (∀ w ∈ l (), wgtOk w) ∧ (0 ≤ cut () ∧ cut () ≤ 255) ∧ (l ()).length ≤ 140737488351232, .bool fun _ => true⟩
 | _ => none⟩
set_option maxRecDepth 100000 in
set_option maxHeartbeats 4000000 in
theorem conMomentSums_ok : ConOk Try.prog conMomentSums := by
 refine fnOkO { fz := [(11, [3, 4]), (12, [0])], jn := [], sc := [(10, schList [0, 6] (.alt (.op 1 (.alt (.op 2 (.alt (schList [3, 4, 5, 7, 8, 9] .nil) (.op 4 (.alt (schList [3, 5, 7, 8, 9] .nil) (schList [5, 3, 7, 8, 9] .nil))))) (.op 4 (.alt (.op 2 (.alt (schList [3, 5, 7, 8, 9] .nil) (schList [5, 3, 7, 8, 9] .nil))) (schList [5, 2, 3, 7, 8, 9] .nil))))) (.op 4 (.alt (.op 1 (.alt (.op 2 (.alt (schList [3, 5, 7, 8, 9] .nil) (schList [5, 3, 7, 8, 9] .nil))) (schList [5, 2, 3, 7, 8, 9] .nil))) (schList [5, 1, 2, 3, 7, 8, 9] .nil))))), (26, schList [0, 1, 2, 3, 4, 5, 6, 7, 8, 9, 10] .nil)] } [conAwake, conMPoint, conMRight, conMAdd, conNone, conFind, conOf] ⟨conAwake_ok, conMPoint_ok, conMRight_ok, conMAdd_ok, conNone_ok, conFind_ok, conOf_ok, trivial⟩ [] trivial Try.func3 (by kernel_rfl) fun avs res h hp => ?_
 simp only [conMomentSums] at h
 split at h
 case h_2 => cases h
 rename_i x0 x1
 simp only [Option.bind_eq_some_iff, Option.some.injEq] at h
 obtain ⟨l, e0, cut, e1, rfl⟩ := h
 obtain rfl := AV.toWgts_ e0
 obtain rfl := AV.toU8_ e1
 clear e0 e1
 obtain ⟨l, rfl⟩ := eta (α := List Wgt) l
 obtain ⟨cut, rfl⟩ := eta (α := Int) cut
 have hZhw : (∀ w ∈ l, wgtOk w) ∧ (0 ≤ cut ∧ cut ≤ 255) ∧ l.length ≤ 140737488351232 := hp
 have hw := hZhw.1
 have hc0 := hZhw.2.1
 have hl := hZhw.2.2
 have hc : 0 ≤ cut := hc0.1
 have hc2 : cut ≤ 255 := hc0.2
 refine nameIt (min l.length 30) fun m hm => ?_
 refine ⟨[(5, lpOnes l m)], ?_⟩
 have hmin : (bif decide ((30 : Int) < (l.length : Int)) then (30 : Int) else (l.length : Int)) = (m : Int) := by
  by_cases h : (30 : Int) < (l.length : Int)
  · rw [decide_eq_true h, cond_true]; omega
  · rw [decide_eq_false h, cond_false]; omega
 conv => arg 1; cbv
 simp (maxSteps := 4000000) only [P_vc, P_br, P_and, P_fin, V_nil, V_one, V_cons, T_self, castK, succK, Int.toNat_natCast, predK, decide_eq_true_eq, decide_eq_false_iff_not, List.map_cons, List.map_nil, cond_true, cond_false]
 simp only [hmin, Int.toNat_natCast]
 refine ⟨trivial, ⟨by omega, by omega⟩, ⟨Nat.zero_le _, rfl, rfl, rfl⟩, fun (k : Nat) hk => ?_⟩
 have hk' : k ≤ m := hk
 conv => arg 1; cbv
 simp (maxSteps := 4000000) only [P_vc, P_br, P_and, P_fin, V_nil, V_one, V_cons, T_self, castK, succK, Int.toNat_natCast, predK, decide_eq_true_eq, decide_eq_false_iff_not, List.map_cons, List.map_nil, cond_true, cond_false]
 refine ⟨fun g => ?_, fun g => ?_⟩
 · have hlt : k < m := by omega
   have hkl : k < l.length := by omega
   have hmem : l.getD k Tc.wgt.dflt ∈ l := by
    rw [List.getD_eq_getElem?_getD, List.getElem?_eq_getElem hkl]
    exact List.getElem_mem _
   have e2 : List.map wOne (List.take k l) ++ [wOne (l.getD k Tc.wgt.dflt)] = List.map wOne (List.take (k + 1) l) := by
    rw [List.take_add_one, List.map_append, List.getD_eq_getElem?_getD, List.getElem?_eq_getElem hkl]
    rfl
   have e1 : [wOne (l.getD k Tc.wgt.dflt)] ++ (List.map wOne (List.take k l)).reverse = (List.map wOne (List.take (k + 1) l)).reverse := by
    rw [← e2, List.reverse_append]
    rfl
   have hq := hw _ hmem
   have hp1 := point_one hq
   have hok := wOne_ok hq
   have hlen : (List.map wOne (List.take k l)).length = k := by rw [List.length_map, List.length_take]; omega
   have hnum : inI64 (l.getD k Tc.wgt.dflt).kilos ∧ inI64 (l.getD k Tc.wgt.dflt).x ∧ inI64 (l.getD k Tc.wgt.dflt).y ∧ inI64 (l.getD k Tc.wgt.dflt).z := by
    obtain ⟨h1, h2, h3, h4⟩ := hq
    simp only [inI64]
    omega
   have hnn : inI64 ((k : Int) + 1) := by simp only [inI64]; omega
   obtain ⟨n1, n2, n3, n4⟩ := hnum
   simp only [hp1, ld_eta, hok, e1, e2, List.length_reverse, List.length_cons, List.length_nil, hlen, n1, n2, n3, n4, hnn, decide_true, Bool.not_true, Bool.and_eq_true, Bool.or_eq_true, Bool.not_eq_true', Bool.not_eq_false', Bool.and_eq_false_iff, Bool.or_eq_false_iff, decide_eq_true_eq, decide_eq_false_iff_not, Bool.not_eq_true, Bool.not_eq_false, Bool.and_true, Bool.true_and, Bool.and_false, Bool.false_and, Bool.or_true, Bool.or_false, Bool.true_or, Bool.false_or, Bool.false_eq_true, Bool.true_eq_false, beq_iff_eq, bne_iff_ne, false_or, or_false, true_and, and_true, not_true_eq_false, not_false_eq_true, true_iff, iff_true, false_iff, iff_false, eq_self, reduceCtorEq, bne_self_eq_false, ne_eq, forall_const, false_implies, true_implies, implies_true]
   have h32 : (k + (0 + 1)) * 32 ≤ 140737488355328 := by omega
   have h33 : (0 + 1 + k) * 32 ≤ 140737488355328 := by omega
   have hc1 : (k : Int) + 1 = ((k + 1 : Nat) : Int) := by omega
   have hm1 : k + 1 ≤ m ∧ m - (k + 1) < m - k := by omega
   have hz : (0 : Int) ≤ k ∧ (k : Int) < m := by omega
   simp only [h32, h33, hc1, hm1.1, hm1.2, hz.1, hz.2, and_self]
 · have hkm : k = m := by omega
   have hL1 : (List.map wOne (List.take k l)).length = m := by rw [List.length_map, List.length_take]; omega
   have hLk := ones_kilos (List.take k l) fun w h => hw w (List.mem_of_mem_take h)
   rw [List.length_take] at hLk
   have hLo : ∀ x ∈ List.map wOne (List.take k l), ldOk x = true := fun x hx => by
    obtain ⟨w, h1, rfl⟩ := List.mem_map.1 hx
    exact wOne_ok (hw w (List.mem_of_mem_take h1))
   generalize List.map wOne (List.take k l) = L at *
   have hm30 : m ≤ 30 := by omega
   have hLk2 : 0 ≤ (sumW L).kilos ∧ (sumW L).kilos ≤ 1966050 := by omega
   obtain ⟨t, ht, ht2⟩ : ∃ t : Nat, cut.tmod ((L.length : Int) + 1) = (t : Int) ∧ t ≤ L.length := by
    have h1 := Int.tmod_nonneg ((L.length : Int) + 1) hc
    have h2 := Int.tmod_lt_of_pos cut (show 0 < (L.length : Int) + 1 by omega)
    exact ⟨(cut.tmod ((L.length : Int) + 1)).toNat, by omega, by omega⟩
   have a1 : addF L = (sumW L, 0) := addF_sum hLo (by omega)
   have a2 : addF L.reverse = (sumW L, 0) := by rw [addF_sum (fun x hx => hLo x (List.mem_reverse.1 hx)) (by rw [sumW_rev]; omega), sumW_rev]
   have hsp : sumW L = (sumW (L.take t)).add (sumW (L.drop t)) := by rw [← sumW_app, List.take_append_drop]
   have hk1 := sumW_ok (L.take t) (fun x hx => hLo x (List.mem_of_mem_take hx))
   have hk2 := sumW_ok (L.drop t) (fun x hx => hLo x (List.mem_of_mem_drop hx))
   have ho := sumW_ok L hLo (by omega)
   have hkk : (sumW L).kilos = (sumW (L.take t)).kilos + (sumW (L.drop t)).kilos := by rw [hsp]; rfl
   have hk3 : 0 ≤ (sumW (L.take t)).kilos ∧ (sumW (L.take t)).kilos ≤ (sumW L).kilos := ho.2 t
   have h1 := hk1 (by omega)
   have h2 := hk2 (by omega)
   have a3 : addF (L.take t) = (sumW (L.take t), 0) := addF_sum (fun x hx => hLo x (List.mem_of_mem_take hx)) (by omega)
   have a4 : addF (L.drop t) = (sumW (L.drop t), 0) := addF_sum (fun x hx => hLo x (List.mem_of_mem_drop hx)) (by omega)
   have a5 : addF [sumW (L.take t), sumW (L.drop t)] = (sumW L, 0) := by rw [addF_two h1.1 h2.1 (by omega), ← hsp]
   have hn := ldOk_nums ho.1
   generalize sumW L = s at *
   have a6 : addF [s, ⟨s.kilos, -s.x, -s.y, -s.z⟩] = (⟨s.kilos + s.kilos, 0, 0, 0⟩, 0) := by
    rw [addF_two ho.1 (neg_ok ho.1) (by simp only; omega)]
    congr 1
    unfold Ld.add
    apply Ld.ext' <;> simp only <;> omega
   have a7 : addF [s, ⟨500000000 - s.kilos, 0, 0, 0⟩] = (s.add ⟨500000000 - s.kilos, 0, 0, 0⟩, 0) := addF_two ho.1 (rest_ok (by omega)) (by simp only; omega)
   have a8 : addF [s, ⟨500000000 - s.kilos, 0, 0, 0⟩, ⟨1, 0, 0, 0⟩] = (ld0, 3) := addF_over ho.1 (rest_ok (by omega)) (rest_ok (by omega)) (by simp only; omega) (by simp only; omega)
   simp only [ht, Int.toNat_natCast, List.take_length, a1, a2, a3, a4, ld_eta, a5, a6, a7, a8, List.length_cons, List.length_nil, List.all_cons, List.all_nil, decide_true, Bool.and_true, Bool.not_true, Bool.and_eq_true, Bool.or_eq_true, Bool.not_eq_true', Bool.not_eq_false', Bool.and_eq_false_iff, Bool.or_eq_false_iff, decide_eq_true_eq, decide_eq_false_iff_not, Bool.not_eq_true, Bool.not_eq_false, Bool.and_true, Bool.true_and, Bool.and_false, Bool.false_and, Bool.or_true, Bool.or_false, Bool.true_or, Bool.false_or, Bool.false_eq_true, Bool.true_eq_false, beq_iff_eq, bne_iff_ne, false_or, or_false, true_and, and_true, not_true_eq_false, not_false_eq_true, true_iff, iff_true, false_iff, iff_false, eq_self, reduceCtorEq, bne_self_eq_false, ne_eq, forall_const, false_implies, true_implies, implies_true]
   refine ⟨by simp only [inI64]; omega, by simp only [inI64]; omega, by omega, by omega, by rw [List.length_reverse]; omega, ⟨by omega, by omega⟩, by rw [List.length_take]; omega, ⟨by omega, by omega, by omega⟩, by rw [List.length_drop]; omega, by decide, by simp only [inI64]; omega, by simp only [inI64]; omega, by simp only [inI64]; omega, by decide, by simp only [inI64]; omega, by decide, by simp only [inI64]; omega, by decide, by decide, fun g0 => ?_, fun g0 => ?_⟩
   · have e0 : findF ⟨s.kilos + s.kilos, 0, 0, 0⟩ = (ctr0, 6) := by
      unfold findF
      rw [rest_ok (by omega), if_pos rfl, if_pos (by show s.kilos + s.kilos = 0; omega)]
     simp only [e0]
     exact ⟨fun _ => rfl, fun h => h trivial⟩
   · have hp2 : 0 < s.kilos + s.kilos := by omega
     have e0 : findF ⟨s.kilos + s.kilos, 0, 0, 0⟩ = (⟨ofL 0, ofL 0, ofL 0⟩, 0) := by
      unfold findF
      rw [rest_ok (by omega), if_pos rfl, if_neg (by show ¬ s.kilos + s.kilos = 0; omega)]
      simp only
      rw [ratio_zero hp2, ratio_zero (show 0 < 2 * (s.kilos + s.kilos) by omega)]
     simp only [e0]
     exact ⟨fun _ => ⟨by simp only [inI64]; omega, by simp only [inI64]; omega, by simp only [inI64]; omega, trivial⟩, fun h => h trivial⟩
end Go.Proofs.Ytmbfcdnnlpcgfaa
