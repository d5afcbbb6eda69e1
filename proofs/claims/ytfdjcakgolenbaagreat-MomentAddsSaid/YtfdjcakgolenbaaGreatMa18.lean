/-
  Contracts of slot, stow and ship by the abstract run.
-/
import Derived.Test.YtfdjcakgolenbaaGreatMa17
set_option linter.unusedVariables false
set_option linter.unusedSimpArgs false
namespace Go.Proofs.YtfdjcakgolenbaaGreat
open Go.RowKit
theorem take_getD {α : Type} {l : List α} {k : Nat} (d : α) (h : k < l.length) : l.take (k + 1) = l.take k ++ [l.getD k d] := by
 rw [List.take_succ_eq_append_getElem h, List.getD_eq_getElem?_getD, List.getElem?_eq_getElem h, Option.getD_some]
theorem getD_mem {α : Type} {l : List α} {k : Nat} (d : α) (h : k < l.length) : l.getD k d ∈ l := by
 rw [List.getD_eq_getElem?_getD, List.getElem?_eq_getElem h, Option.getD_some];exact List.getElem_mem h
theorem all_bad {α : Type} {p : α -> Bool} {l : List α} {k : Nat} {d : α} (hk : k < l.length) (h : p (l.getD k d) = false) : l.all p = false := by
 rw [List.all_eq_false];exact ⟨_, getD_mem d hk, by rw [h]; simp⟩
theorem all_more {α : Type} {p : α -> Bool} {l : List α} {k : Nat} {d : α} (h0 : (l.take k).all p = true) (hk : k < l.length) (h : p (l.getD k d) = true) : (l.take (k + 1)).all p = true := by
 rw [take_getD d hk, List.all_append, h0];simp [h, -List.getD_eq_getElem?_getD]
theorem all_end {α : Type} {p : α -> Bool} {l : List α} {k : Nat} (h0 : (l.take k).all p = true) (hk : l.length <= k) : l.all p = true := by rwa [List.take_of_length_le hk] at h0
def conHalves : Con := ⟨152, [.int .u8], fun
 | [x0] => (x0.toU8).bind fun s => some ⟨fun _ => True, .sl true .u8 fun _ => halvesF (s ())⟩
 | _ => none⟩
set_option maxRecDepth 100000 in
set_option maxHeartbeats 4000000 in
theorem conHalves_ok : ConOk Tryz.prog conHalves := by
 refine fnOk [] trivial Tryz.func152 (by kernel_rfl) fun avs res h hp => ?_;simp only [conHalves] at h;split at h
 case h_2 => cases h
 rename_i x0;simp only [Option.bind_eq_some_iff, Option.some.injEq] at h;obtain ⟨s, e0, rfl⟩ := h;obtain rfl := AV.toU8_ e0;clear e0;obtain ⟨s, rfl⟩ := eta (α := Int) s;refine ⟨[], ?_⟩
 conv => arg 1; cbv
 simp (maxSteps := 4000000) only [P_vc, P_br, P_and, P_fin, V_nil, V_one, V_cons, T_self, castK, succK, Int.toNat_natCast, predK, decide_eq_true_eq, decide_eq_false_iff_not, List.map_cons, List.map_nil, cond_true, cond_false];unfold halvesF;grind
def conTaken : Con := ⟨124, [.sl .stowed], fun
 | [x0] => (x0.toStos).bind fun l => some ⟨fun _ => (l ()).length <= 1000000, .sl true .slot fun _ => (l ()).map slotOf⟩
 | _ => none⟩
def lpTaken (l : List Stowed) : Lp where
 X := Nat
 ov k := [(8, .int .i64 fun _ => (k : Int)), (3, .own 0)]
 oe k := [(0, .row true .slot 40 fun _ => (l.take k).map slotOf)]
 I k := k <= l.length
 μ k _ := l.length - k
 x0 := 0
 nx := some fun k => k + 1
set_option maxRecDepth 100000 in
set_option maxHeartbeats 4000000 in
theorem conTaken_ok : ConOk Tryz.prog conTaken := by
 refine fnOk [] trivial Tryz.func124 (by kernel_rfl) fun avs res h hp => ?_;simp only [conTaken] at h;split at h
 case h_2 => cases h
 rename_i x0;simp only [Option.bind_eq_some_iff, Option.some.injEq] at h;obtain ⟨l, e0, rfl⟩ := h;obtain rfl := AV.toStos_ e0;clear e0;obtain ⟨l, rfl⟩ := eta (α := List Stowed) l;have hl : l.length <= 1000000 := hp;refine ⟨[(3, lpTaken l)], ?_⟩
 conv => arg 1; cbv
 refine ⟨?_, fun (k : Nat) hk => ?_⟩
 . simp (maxSteps := 4000000) only [P_vc, P_br, P_and, P_fin, V_nil, V_one, V_cons, T_self, castK, succK, Int.toNat_natCast, predK, decide_eq_true_eq, decide_eq_false_iff_not, List.map_cons, List.map_nil, cond_true, cond_false];exact ⟨Nat.zero_le _, rfl, rfl⟩
 . conv => arg 1; cbv
   have hk' : k <= l.length := hk;simp (maxSteps := 4000000) only [P_vc, P_br, P_and, P_fin, V_nil, V_one, V_cons, T_self, castK, succK, Int.toNat_natCast, predK, decide_eq_true_eq, decide_eq_false_iff_not, List.map_cons, List.map_nil, cond_true, cond_false];refine ⟨fun h => ?_, fun h => by rw [List.take_of_length_le (by omega)]⟩;have h2 : k < l.length := by omega
   refine ⟨by omega, by simp; omega, ⟨by omega, by omega⟩, ⟨by omega, by omega⟩, by omega, ?_⟩;rw [take_getD Tc.stowed.dflt h2, List.map_append];rfl
def fitsB (cs : List Col) (bs : List Box) (l : List Stowed) (c : Int) : Bool := decide ((cs.getD c.toNat Tc.col.dflt).height <= 0) || (decide (heightF bs l c 1 <= (cs.getD c.toNat Tc.col.dflt).height) && decide (heightF bs l c 2 <= (cs.getD c.toNat Tc.col.dflt).height))
def conFits : Con := ⟨128, [.agg shipSg, .sl .box, .sl .stowed, .int .i64], fun
 | [x0, x1, x2, x3] => (x0.toShip).bind fun s => (x1.toBoxes).bind fun bs => (x2.toStos).bind fun l => (x3.toI).bind fun c => some ⟨fun _ => (bs ()).length <= 1000000000000 /\ (l ()).length <= 1000000 /\ 0 <= c () /\ c () < ((s ()).cols.length : Int), .bool fun _ => fitsB (s ()).cols (bs ()) (l ()) (c ())⟩
 | _ => none⟩
set_option maxRecDepth 100000 in
set_option maxHeartbeats 4000000 in
theorem conFits_ok : ConOk Tryz.prog conFits := by
 refine fnOk [conStowHeight] ⟨conStowHeight_ok, trivial⟩ Tryz.func128 (by kernel_rfl) fun avs res h hp => ?_;simp only [conFits] at h;split at h
 case h_2 => cases h
 rename_i x0 x1 x2 x3;simp only [Option.bind_eq_some_iff, Option.some.injEq] at h;obtain ⟨s, e0, bs, e1, l, e2, c, e3, rfl⟩ := h;obtain rfl := AV.toShip_ e0;obtain rfl := AV.toBoxes_ e1;obtain rfl := AV.toStos_ e2;obtain rfl := AV.toI_ e3;clear e0 e1 e2 e3;obtain ⟨s, rfl⟩ := eta (α := Shp) s;obtain ⟨bs, rfl⟩ := eta (α := List Box) bs;obtain ⟨l, rfl⟩ := eta (α := List Stowed) l;obtain ⟨c, rfl⟩ := eta (α := Int) c;have hZh1 : bs.length <= 1000000000000 /\ l.length <= 1000000 /\ 0 <= c /\ c < (s.cols.length : Int) := hp;have h1 := hZh1.1;have h2 := hZh1.2.1;have h3 := hZh1.2.2.1;have h4 := hZh1.2.2.2;refine ⟨[], ?_⟩
 conv => arg 1; cbv
 simp (maxSteps := 4000000) only [P_vc, P_br, P_and, P_fin, V_nil, V_one, V_cons, T_self, castK, succK, Int.toNat_natCast, predK, decide_eq_true_eq, decide_eq_false_iff_not, List.map_cons, List.map_nil, cond_true, cond_false];unfold fitsB;generalize s.cols.getD c.toNat Tc.col.dflt = x at *
 grind
def slotOk (cs : List Col) (x : Slot) (size : Int) : Bool := decide (0 <= x.col) && (decide (x.col < (cs.length : Int)) && (decide (0 <= x.tier) && (decide (x.tier < (cs.getD x.col.toNat Tc.col.dflt).tiers) && (halvesF size).any fun y => decide (x.half = y))))
theorem halvesF_len (s : Int) : (halvesF s).length <= 2 := by unfold halvesF; split <;> (try split) <;> simp
def conSlotRight : Con := ⟨125, [.agg shipSg, .agg sloSg, .int .u8], fun
 | [x0, x1, x2] => (x0.toShip).bind fun s => (x1.toSlo).bind fun x => (x2.toU8).bind fun z => some ⟨fun _ => True, .bool fun _ => slotOk (s ()).cols (x ()) (z ())⟩
 | _ => none⟩
set_option maxRecDepth 100000 in
set_option maxHeartbeats 4000000 in
theorem conSlotRight_ok : ConOk Tryz.prog conSlotRight := by
 refine fnOk [conHalves, conHasU8] ⟨conHalves_ok, conHasU8_ok, trivial⟩ Tryz.func125 (by kernel_rfl) fun avs res h hp => ?_;simp only [conSlotRight] at h;split at h
 case h_2 => cases h
 rename_i x0 x1 x2;simp only [Option.bind_eq_some_iff, Option.some.injEq] at h;obtain ⟨s, e0, x, e1, z, e2, rfl⟩ := h;obtain rfl := AV.toShip_ e0;obtain rfl := AV.toSlo_ e1;obtain rfl := AV.toU8_ e2;clear e0 e1 e2;obtain ⟨s, rfl⟩ := eta (α := Shp) s;obtain ⟨x, rfl⟩ := eta (α := Slot) x;obtain ⟨z, rfl⟩ := eta (α := Int) z;refine ⟨[], ?_⟩;have hh := halvesF_len z
 conv => arg 1; cbv
 simp (maxSteps := 4000000) only [P_vc, P_br, P_and, P_fin, V_nil, V_one, V_cons, T_self, castK, succK, Int.toNat_natCast, predK, decide_eq_true_eq, decide_eq_false_iff_not, List.map_cons, List.map_nil, cond_true, cond_false];unfold slotOk;generalize s.cols.getD x.col.toNat Tc.col.dflt = c at *
 generalize halvesF z = hs at *
 grind
def spnB (x : Spn) : Bool := decide (x.low <= x.n) && decide (x.n <= x.high)
def conSpans : Con := ⟨183, [.sl .spn], fun
 | [x0] => (x0.toSpns).bind fun l => some ⟨fun _ => (l ()).length <= 1000000000000, .bool fun _ => (l ()).all spnB⟩
 | _ => none⟩
def lpSpans (l : List Spn) : Lp where
 X := Nat
 ov k := [(7, .int .i64 fun _ => (k : Int))]
 oe _ := []
 I k := k <= l.length /\ (l.take k).all spnB = true
 μ k _ := l.length - k
 x0 := 0
 nx := some fun k => k + 1
set_option maxRecDepth 100000 in
set_option maxHeartbeats 4000000 in
theorem conSpans_ok : ConOk Tryz.prog conSpans := by
 refine fnOk [] trivial Tryz.func183 (by kernel_rfl) fun avs res h hp => ?_;simp only [conSpans] at h;split at h
 case h_2 => cases h
 rename_i x0;simp only [Option.bind_eq_some_iff, Option.some.injEq] at h;obtain ⟨l, e0, rfl⟩ := h;obtain rfl := AV.toSpns_ e0;clear e0;obtain ⟨l, rfl⟩ := eta (α := List Spn) l;have hl : l.length <= 1000000000000 := hp;refine ⟨[(2, lpSpans l)], ?_⟩
 conv => arg 1; cbv
 refine ⟨?_, fun (k : Nat) hk => ?_⟩
 . simp (maxSteps := 4000000) only [P_vc, P_br, P_and, P_fin, V_nil, V_one, V_cons, T_self, castK, succK, Int.toNat_natCast, predK, decide_eq_true_eq, decide_eq_false_iff_not, List.map_cons, List.map_nil, cond_true, cond_false];simp
 . conv => arg 1; cbv
   have hZhk1 : k <= l.length /\ (l.take k).all spnB = true := hk;have hk1 := hZhk1.1;have hk2 := hZhk1.2;simp (maxSteps := 4000000) only [P_vc, P_br, P_and, P_fin, V_nil, V_one, V_cons, T_self, castK, succK, Int.toNat_natCast, predK, decide_eq_true_eq, decide_eq_false_iff_not, List.map_cons, List.map_nil, cond_true, cond_false];refine ⟨fun h => ?_, fun h => (all_end hk2 (by omega)).symm⟩;have h2 : k < l.length := by omega
   have ha := all_bad (p := spnB) (d := Tc.spn.dflt) h2;have hb := all_more (d := Tc.spn.dflt) hk2 h2;generalize l.getD k Tc.spn.dflt = x at *
   unfold spnB at *
   simp only [inI64];grind
def colSpans (c : Col) : List Spn := [⟨c.bay, 0, 39⟩, ⟨c.row, 0, 30⟩, ⟨c.tiers, 1, 10⟩, ⟨c.height, 0, 40000⟩, ⟨c.k20, 0, 500000000⟩, ⟨c.k40, 0, 500000000⟩, ⟨c.lash, 0, 1000000000000⟩, ⟨c.x, -500000, 500000⟩, ⟨c.y, -500000, 500000⟩, ⟨c.z, -500000, 500000⟩]
def riseB (t : Int) (l : List Int) (i : Nat) : Bool := (decide (0 <= l.getD i 0) && decide (l.getD i 0 <= t)) && (decide (i = 0) || decide (l.getD (i - 1) 0 < l.getD i 0))
def risesB (t : Int) (l : List Int) : Bool := decide (∀ i, i < l.length -> riseB t l i = true)
def colB (c : Col) : Bool := risesB (c.tiers - 1) c.plugs && (colSpans c).all spnB
theorem rises_bad {t : Int} {l : List Int} {k : Nat} (hk : k < l.length) (h : riseB t l k = false) : risesB t l = false := by
 unfold risesB;rw [decide_eq_false_iff_not];intro h2;rw [h2 k hk] at h;cases h
theorem rises_end {t : Int} {l : List Int} {k : Nat} (hk : l.length <= k) (h : ∀ j, j < k -> riseB t l j = true) : risesB t l = true := by
 unfold risesB;rw [decide_eq_true_eq];exact fun i hi => h i (by omega)
def conColRight : Con := ⟨153, [.agg colSg], fun
 | [x0] => (x0.toCol).bind fun c => some ⟨fun _ => (c ()).plugs.length <= 1000000000000 /\ inI64 ((c ()).tiers - 1), .bool fun _ => colB (c ())⟩
 | _ => none⟩
def lpPlugs (c : Col) : Lp where
 X := Nat
 ov k := [(9, .int .i64 fun _ => (k : Int))]
 oe _ := []
 I k := k <= c.plugs.length /\ ∀ j, j < k -> riseB (c.tiers - 1) c.plugs j = true
 μ k _ := c.plugs.length - k
 x0 := 0
 nx := some fun k => k + 1
set_option maxRecDepth 100000 in
set_option maxHeartbeats 4000000 in
theorem conColRight_ok : ConOk Tryz.prog conColRight := by
 refine fnOk [conSpans] ⟨conSpans_ok, trivial⟩ Tryz.func153 (by kernel_rfl) fun avs res h hp => ?_;simp only [conColRight] at h;split at h
 case h_2 => cases h
 rename_i x0;simp only [Option.bind_eq_some_iff, Option.some.injEq] at h;obtain ⟨c, e0, rfl⟩ := h;obtain rfl := AV.toCol_ e0;clear e0;obtain ⟨c, rfl⟩ := eta (α := Col) c;have hZh1 : c.plugs.length <= 1000000000000 /\ inI64 (c.tiers - 1) := hp;have h1 := hZh1.1;have h2 := hZh1.2;refine ⟨[(3, lpPlugs c)], ?_⟩
 conv => arg 1; cbv
 refine ⟨?_, fun (k : Nat) hk => ?_⟩
 . simp (maxSteps := 4000000) only [P_vc, P_br, P_and, P_fin, V_nil, V_one, V_cons, T_self, castK, succK, Int.toNat_natCast, predK, decide_eq_true_eq, decide_eq_false_iff_not, List.map_cons, List.map_nil, cond_true, cond_false];simp
 . conv => arg 1; cbv
   have hZhk1 : k <= c.plugs.length /\ ∀ j, j < k -> riseB (c.tiers - 1) c.plugs j = true := hk;have hk1 := hZhk1.1;have hk2 := hZhk1.2;simp (maxSteps := 4000000) only [P_vc, P_br, P_and, P_fin, V_nil, V_one, V_cons, T_self, castK, succK, Int.toNat_natCast, predK, decide_eq_true_eq, decide_eq_false_iff_not, List.map_cons, List.map_nil, cond_true, cond_false];refine ⟨fun h => ?_, fun h => ?_⟩
   . have h3 : k < c.plugs.length := by omega
     have ha := rises_bad (t := c.tiers - 1) h3;have hb := upto_more (k := k) hk2;have hc : colB c = (risesB (c.tiers - 1) c.plugs && (colSpans c).all spnB) := rfl;have he : riseB (c.tiers - 1) c.plugs k = ((decide (0 <= c.plugs.getD k Tc.int.dflt) && decide (c.plugs.getD k Tc.int.dflt <= c.tiers - 1)) && (decide (k = 0) || decide (c.plugs.getD (k - 1) Tc.int.dflt < c.plugs.getD k Tc.int.dflt))) := rfl;generalize c.plugs.getD k Tc.int.dflt = x at *
     generalize c.plugs.getD (k - 1) Tc.int.dflt = y at *
     rw [hc];clear hc hk2;generalize riseB (c.tiers - 1) c.plugs = R at *
     generalize (colSpans c).all spnB = z at *
     simp only [inI64, spnB, List.all_cons, List.all_nil, Bool.and_true, List.length_cons, List.length_nil] at *
     grind
   . have hc : colB c = (colSpans c).all spnB := by unfold colB; rw [rises_end (by omega) hk2, Bool.true_and]
     rw [hc];exact ⟨by simp, rfl⟩
def metM (ks : List (List Kx)) : List Kx -> Option Int := fun k => if ks.count k = 0 then none else some (ks.count k : Int)
theorem metM_getD (ks : List (List Kx)) (k : List Kx) (d : Int) (h : d = 0) : (metM ks k).getD d = (ks.count k : Int) := by
 subst h;unfold metM;split
 . rename_i h; rw [h]; rfl
 . rfl
theorem metM_add (ks : List (List Kx)) (k : List Kx) : setM (metM ks) k ((ks.count k : Int) + 1) = metM (ks ++ [k]) := by
 funext k';unfold setM metM;rw [List.count_append];by_cases h : k' = k
 . subst h;simp
 . rw [if_neg h];have : List.count k' [k] = 0 := List.count_eq_zero.2 (by simpa using h);rw [this, Nat.add_zero]
theorem setM_twice {α : Type} (m : List Kx -> Option α) (k : List Kx) (x y : α) : setM (setM m k x) k y = setM m k y := by
 funext k';unfold setM;by_cases h : k' = k <;> simp [h]
theorem setM_at {α : Type} (m : List Kx -> Option α) (k : List Kx) (x : α) : setM m k x k = some x := by unfold setM; rw [if_pos rfl]
def colKey (c : Col) : List Kx := [.i .i64 c.bay, .i .i64 c.row, .i .i64 (cond c.deck 1 0)]
def covKeys (x : Cov) : List (List Kx) := x.rows.map fun r => [.i .i64 x.bay, .i .i64 r, .i .i64 2]
def covB (x : Cov) : Bool := (decide (0 <= x.bay) && decide (x.bay < 40)) && (!decide (x.rows.length = 0) && risesB 30 x.rows)
def shipKeys (s : Shp) : List (List Kx) := s.cols.map colKey ++ s.covs.flatMap covKeys
def shipB (s : Shp) : Bool := (decide (1 <= s.cols.length) && (decide (s.cols.length <= 200) && decide (s.covs.length <= 40))) && (s.cols.all colB && (s.covs.all covB && decide ((shipKeys s).Nodup)))
theorem col_eta (c : Col) : (⟨c.bay, c.row, c.deck, c.tiers, c.height, c.k20, c.k40, c.lash, c.plugs, c.x, c.y, c.z⟩ : Col) = c := rfl
theorem covKeys_more {x : Cov} {j : Nat} (h : j < x.rows.length) : (covKeys x).take (j + 1) = (covKeys x).take j ++ [[Kx.i IntKind.i64 x.bay, Kx.i IntKind.i64 (x.rows.getD j Tc.int.dflt), Kx.i IntKind.i64 2]] := by
 unfold covKeys;rw [<- List.map_take, <- List.map_take, take_getD Tc.int.dflt h, List.map_append];rfl
theorem flat_len' : ∀ (l : List Cov), (∀ y ∈ l, y.rows.length <= 1000000000000) -> (l.flatMap covKeys).length <= l.length * 1000000000000
 | [], _ => by simp
 | y :: l, h => by
  have e3 := h y (.head _);have e4 := flat_len' l fun z hz => h z (.tail _ hz);simp only [List.flatMap_cons, List.length_append, List.length_cons, covKeys, List.length_map] at e4 ⊢;omega
theorem count_in (key : List Kx) (l : List (List Kx)) (h : l.length <= 1000000000000000) : inI64 ((l.count key : Int) + 1) := by
 have := List.count_le_length (a := key) (l := l);unfold inI64;omega
theorem keys_fit {s : Shp} {key : List Kx} (h : key ∈ shipKeys s) : fitsL (Kc.arr 3 (Lk.int IntKind.i64)).ls key = true := by
 unfold shipKeys at h;rcases List.mem_append.1 h with h | h
 . obtain ⟨c, _, rfl⟩ := List.mem_map.1 h;rfl
 . obtain ⟨x, _, h⟩ := List.mem_flatMap.1 h;obtain ⟨r, _, rfl⟩ := List.mem_map.1 h;rfl
def conShipRight : Con := ⟨123, [.agg shipSg], fun
 | [x0] => (x0.toShip).bind fun s => some ⟨fun _ => (∀ c ∈ (s ()).cols, c.plugs.length <= 1000000000000 /\ inI64 (c.tiers - 1)) /\ ∀ x ∈ (s ()).covs, x.rows.length <= 1000000000000, .bool fun _ => shipB (s ())⟩
 | _ => none⟩
def lpCols (s : Shp) : Lp where
 X := Nat
 ov k := [(33, .int .i64 fun _ => (k : Int))]
 oe k := [(1, .map true false (.arr 3 (.int .i64)) .int 225 fun _ => metM ((s.cols.take k).map colKey))]
 I k := k <= s.cols.length /\ (s.cols.take k).all colB = true
 μ k _ := s.cols.length - k
 x0 := 0
 nx := some fun k => k + 1
def lpCovs (s : Shp) : Lp where
 X := Nat
 ov k := [(57, .int .i64 fun _ => (k : Int))]
 oe k := [(1, .map true false (.arr 3 (.int .i64)) .int 225 fun _ => metM (s.cols.map colKey ++ (s.covs.take k).flatMap covKeys))]
 I k := k <= s.covs.length /\ (s.covs.take k).all covB = true
 μ k _ := s.covs.length - k
 x0 := 0
 nx := some fun k => k + 1
def lpRows (s : Shp) (k : Nat) (x : Cov) : Lp where
 X := Nat
 ov j := [(78, .int .i64 fun _ => (j : Int))]
 oe j := [(1, .map true false (.arr 3 (.int .i64)) .int 225 fun _ => metM (s.cols.map colKey ++ (s.covs.take k).flatMap covKeys ++ (covKeys x).take j))]
 I j := j <= x.rows.length /\ ∀ i, i < j -> riseB 30 x.rows i = true
 μ j _ := x.rows.length - j
 x0 := 0
 nx := some fun j => j + 1
def lpMet (ks : List (List Kx)) (n : Nat) : Lp where
 X := List (List Kx) × Nat
 ov _ := []
 oe p := [(2, .iter 1 (.arr 3 (.int .i64)) (fun _ => p.1) fun _ => p.2)]
 I p := ∀ key ∈ p.1, ∀ x, metM ks key = some x -> x <= 1
 μ p _ := p.2
 x0 := ([], n)
 nx := none
set_option maxRecDepth 100000 in
set_option maxHeartbeats 4000000 in
theorem conShipRight_ok : ConOk Tryz.prog conShipRight := by
 refine fnOk [conColRight] ⟨conColRight_ok, trivial⟩ Tryz.func123 (by kernel_rfl) fun avs res h hp => ?_;simp only [conShipRight] at h;split at h
 case h_2 => cases h
 rename_i x0;simp only [Option.bind_eq_some_iff, Option.some.injEq] at h;obtain ⟨s, e0, rfl⟩ := h;obtain rfl := AV.toShip_ e0;clear e0;obtain ⟨s, rfl⟩ := eta (α := Shp) s;have hZh1 : (∀ c ∈ s.cols, c.plugs.length <= 1000000000000 /\ inI64 (c.tiers - 1)) /\ ∀ x ∈ s.covs, x.rows.length <= 1000000000000 := hp;have h1 := hZh1.1;have h2 := hZh1.2;refine ⟨[(5, lpCols s), (15, lpCovs s)], ?_⟩
 conv => arg 1; cbv
 refine ⟨fun g1 => ?_, fun g1 => ⟨fun g2 => ?_, fun g2 => ⟨fun g3 => ?_, fun g3 => ⟨?_, fun (k : Nat) hk => ?_⟩⟩⟩⟩
 . simp (maxSteps := 4000000) only [P_vc, P_br, P_and, P_fin, V_nil, V_one, V_cons, T_self, castK, succK, Int.toNat_natCast, predK, decide_eq_true_eq, decide_eq_false_iff_not, List.map_cons, List.map_nil, cond_true, cond_false];simp only [decide_eq_true_eq] at g1;unfold shipB;grind
 . simp (maxSteps := 4000000) only [P_vc, P_br, P_and, P_fin, V_nil, V_one, V_cons, T_self, castK, succK, Int.toNat_natCast, predK, decide_eq_true_eq, decide_eq_false_iff_not, List.map_cons, List.map_nil, cond_true, cond_false];simp only [decide_eq_true_eq] at g2;unfold shipB;grind
 . simp (maxSteps := 4000000) only [P_vc, P_br, P_and, P_fin, V_nil, V_one, V_cons, T_self, castK, succK, Int.toNat_natCast, predK, decide_eq_true_eq, decide_eq_false_iff_not, List.map_cons, List.map_nil, cond_true, cond_false];simp only [decide_eq_true_eq] at g3;unfold shipB;grind
 . simp (maxSteps := 4000000) only [P_vc, P_br, P_and, P_fin, V_nil, V_one, V_cons, T_self, castK, succK, Int.toNat_natCast, predK, decide_eq_true_eq, decide_eq_false_iff_not, List.map_cons, List.map_nil, cond_true, cond_false];exact ⟨⟨Nat.zero_le _, rfl⟩, rfl, rfl⟩
 simp only [decide_eq_false_iff_not, castK] at g1 g2 g3;have hZhk1 : k <= s.cols.length /\ (s.cols.take k).all colB = true := hk;have hk1 := hZhk1.1;have hk2 := hZhk1.2
 conv => arg 1; cbv
 refine ⟨fun g4 => ?_, fun g4 => ?_⟩
 . simp only [decide_eq_true_eq, castK] at g4;have hlt : k < s.cols.length := by omega
   have hmem := getD_mem Tc.col.dflt hlt;have hZp := h1 _ hmem;have hp1 := hZp.1;have hp2 := hZp.2;simp (maxSteps := 4000000) only [P_vc, P_br, P_and, P_fin, V_nil, V_one, V_cons, T_self, castK, succK, Int.toNat_natCast, predK, decide_eq_true_eq, decide_eq_false_iff_not, List.map_cons, List.map_nil, cond_true, cond_false];simp only [setM_at, setM_twice, Option.getD_some, metM_getD _ _ Tc.int.dflt rfl];simp only [col_eta];have hA := all_bad (p := colB) (d := Tc.col.dflt) hlt;have hB := all_more (d := Tc.col.dflt) hk2 hlt;have hS : s.cols.all colB = false -> shipB s = false := fun h => by unfold shipB; rw [h]; simp
   have hC : ∀ key, inI64 (((List.map colKey (List.take k s.cols)).count key : Int) + 1) := fun key => count_in key _ (by simp; omega);have hM : List.map colKey (List.take (k + 1) s.cols) = List.map colKey (List.take k s.cols) ++ [colKey (s.cols.getD k Tc.col.dflt)] := by rw [take_getD Tc.col.dflt hlt, List.map_append]; rfl
   rw [hM, <- metM_add];have hK1 : (s.cols.getD k Tc.col.dflt).deck = true -> colKey (s.cols.getD k Tc.col.dflt) = [Kx.i IntKind.i64 (s.cols.getD k Tc.col.dflt).bay, Kx.i IntKind.i64 (s.cols.getD k Tc.col.dflt).row, Kx.i IntKind.i64 1] := fun h => by unfold colKey; rw [h]; rfl
   have hK2 : (s.cols.getD k Tc.col.dflt).deck = false -> colKey (s.cols.getD k Tc.col.dflt) = [Kx.i IntKind.i64 (s.cols.getD k Tc.col.dflt).bay, Kx.i IntKind.i64 (s.cols.getD k Tc.col.dflt).row, Kx.i IntKind.i64 0] := fun h => by unfold colKey; rw [h]; rfl
   have hk1i : inI64 ((k : Int) + 1) := ⟨by omega, by omega⟩
   generalize s.cols.getD k Tc.col.dflt = c at *
   generalize List.map colKey (List.take k s.cols) = L at *
   refine ⟨⟨by omega, g4⟩, fun hd => ?_, fun hd => ?_⟩
   . have hk := hK1 hd;rw [<- hk];generalize colKey c = key at *
     clear hK1 hK2;grind
   . have hk := hK2 hd;rw [<- hk];generalize colKey c = key at *
     clear hK1 hK2;grind
 have hkk : s.cols.length <= k := by simp only [decide_eq_false_iff_not, castK] at g4; omega
 have hcols : s.cols.all colB = true := all_end hk2 hkk;have hkey : List.map colKey (List.take k s.cols) = s.cols.map colKey := by rw [List.take_of_length_le hkk]
 clear g4;refine ⟨?_, fun (m : Nat) hm => ?_⟩
 . simp (maxSteps := 4000000) only [P_vc, P_br, P_and, P_fin, V_nil, V_one, V_cons, T_self, castK, succK, Int.toNat_natCast, predK, decide_eq_true_eq, decide_eq_false_iff_not, List.map_cons, List.map_nil, cond_true, cond_false];rw [hkey];refine ⟨⟨Nat.zero_le _, rfl⟩, rfl, ?_⟩;simp
 have hZhm1 : m <= s.covs.length /\ (s.covs.take m).all covB = true := hm;have hm1 := hZhm1.1;have hm2 := hZhm1.2
 conv => arg 1; cbv
 refine ⟨fun g4 => ?_, fun g4 => ?_⟩
 . simp only [decide_eq_true_eq, castK] at g4;have hlt : m < s.covs.length := by omega
   have hmem := getD_mem Tc.cov.dflt hlt;have hp2 := h2 _ hmem;have hA := all_bad (p := covB) (d := Tc.cov.dflt) hlt;have hB := all_more (d := Tc.cov.dflt) hm2 hlt;have hS : s.covs.all covB = false -> shipB s = false := fun h => by unfold shipB; rw [h]; simp
   refine ⟨⟨Int.natCast_nonneg m, g4⟩, fun g5 => ?_, fun g5 => ⟨fun g6 => ?_, fun g6 => ⟨fun g7 => ?_, fun g7 => ?_⟩⟩⟩
   all_goals simp only [decide_eq_true_eq, decide_eq_false_iff_not, castK, Int.toNat_natCast] at *
   . simp (maxSteps := 4000000) only [P_vc, P_br, P_and, P_fin, V_nil, V_one, V_cons, T_self, castK, succK, Int.toNat_natCast, predK, decide_eq_true_eq, decide_eq_false_iff_not, List.map_cons, List.map_nil, cond_true, cond_false];refine (hS (hA ?_)).symm;unfold covB;generalize s.covs.getD m Tc.cov.dflt = x at *
     grind
   . simp (maxSteps := 4000000) only [P_vc, P_br, P_and, P_fin, V_nil, V_one, V_cons, T_self, castK, succK, Int.toNat_natCast, predK, decide_eq_true_eq, decide_eq_false_iff_not, List.map_cons, List.map_nil, cond_true, cond_false];refine (hS (hA ?_)).symm;unfold covB;generalize s.covs.getD m Tc.cov.dflt = x at *
     grind
   . simp (maxSteps := 4000000) only [P_vc, P_br, P_and, P_fin, V_nil, V_one, V_cons, T_self, castK, succK, Int.toNat_natCast, predK, decide_eq_true_eq, decide_eq_false_iff_not, List.map_cons, List.map_nil, cond_true, cond_false];refine (hS (hA ?_)).symm;unfold covB;generalize s.covs.getD m Tc.cov.dflt = x at *
     grind
   . refine nameIt (s.covs.getD m Tc.cov.dflt) fun x hx => ?_;refine ⟨lpRows s m x, ?_⟩
     conv => arg 1; cbv
     have hcv : covB (s.covs.getD m Tc.cov.dflt) = risesB 30 (s.covs.getD m Tc.cov.dflt).rows := by
      unfold covB;grind
     rw [hx] at hcv hA hB hp2 hmem;refine ⟨?_, fun (j : Nat) hj => ?_⟩
     . simp (maxSteps := 4000000) only [P_vc, P_br, P_and, P_fin, V_nil, V_one, V_cons, T_self, castK, succK, Int.toNat_natCast, predK, decide_eq_true_eq, decide_eq_false_iff_not, List.map_cons, List.map_nil, cond_true, cond_false];refine ⟨⟨Nat.zero_le _, by simp⟩, rfl, ?_⟩;simp
     have hZhj1 : j <= x.rows.length /\ ∀ i, i < j -> riseB 30 x.rows i = true := hj;have hj1 := hZhj1.1;have hj2 := hZhj1.2
     conv => arg 1; cbv
     simp (maxSteps := 4000000) only [P_vc, P_br, P_and, P_fin, V_nil, V_one, V_cons, T_self, castK, succK, Int.toNat_natCast, predK, decide_eq_true_eq, decide_eq_false_iff_not, List.map_cons, List.map_nil, cond_true, cond_false];rw [hx];simp only [setM_at, setM_twice, Option.getD_some, metM_getD _ _ Tc.int.dflt rfl];have hm1' : inI64 ((m : Int) + 1) := ⟨by omega, by omega⟩
     refine ⟨fun g8 => ?_, fun g8 => ?_⟩
     . have h8 : j < x.rows.length := by omega
       have hj1' : inI64 ((j : Int) + 1) := ⟨by omega, by omega⟩
       have hC : ∀ key, inI64 (((List.map colKey s.cols ++ List.flatMap covKeys (List.take m s.covs) ++ List.take j (covKeys x)).count key : Int) + 1) := fun key => by
        refine count_in key _ ?_;have e5 := flat_len' (List.take m s.covs) fun y hy => h2 y (List.mem_of_mem_take hy);have e6 : (List.take m s.covs).length <= 40 := by rw [List.length_take]; omega
        have e7 : (List.take j (covKeys x)).length <= 1000000000000 := by
         rw [List.length_take]; omega
        simp only [List.length_append, List.length_map];omega
       rw [covKeys_more h8, <- List.append_assoc, <- metM_add];have ha := rises_bad (t := 30) h8;have hb := upto_more (k := j) hj2;have he : riseB 30 x.rows j = ((decide (0 <= x.rows.getD j Tc.int.dflt) && decide (x.rows.getD j Tc.int.dflt <= 30)) && (decide (j = 0) || decide (x.rows.getD (j - 1) Tc.int.dflt < x.rows.getD j Tc.int.dflt))) := rfl;generalize x.rows.getD j Tc.int.dflt = u at *
       generalize x.rows.getD (j - 1) Tc.int.dflt = v at *
       generalize List.map colKey s.cols ++ List.flatMap covKeys (List.take m s.covs) ++ List.take j (covKeys x) = L at *
       generalize [Kx.i IntKind.i64 x.bay, Kx.i IntKind.i64 u, Kx.i IntKind.i64 2] = key at *
       generalize riseB 30 x.rows = R at *
       generalize risesB 30 x.rows = RR at *
       clear hmem hx hj2;have hjp : 0 < (j : Int) -> inI64 ((j : Int) - 1) := fun h => ⟨by omega, by omega⟩
       grind
     . have h8 : x.rows.length <= j := by omega
       have hr := rises_end h8 hj2;rw [<- hcv] at hr;have hT : (covKeys x).take j = covKeys x := List.take_of_length_le (by unfold covKeys; rw [List.length_map]; exact h8);have hU : List.flatMap covKeys (List.take (m + 1) s.covs) = List.flatMap covKeys (List.take m s.covs) ++ covKeys x := by
        rw [take_getD Tc.cov.dflt hlt, hx, List.flatMap_append];simp
       rw [hT, hU, <- List.append_assoc];exact ⟨hm1', ⟨⟨hlt, hB hr⟩, by omega⟩, by omega, rfl⟩
 . have hmm : s.covs.length <= m := by simp only [decide_eq_false_iff_not, castK] at g4; omega
   have hcovs : s.covs.all covB = true := all_end hm2 hmm;have hT : List.take m s.covs = s.covs := List.take_of_length_le hmm;clear g4;intro n _;refine nameIt (shipKeys s) fun ks hks => ?_
   conv => arg 1; cbv
   refine ⟨lpMet ks n, ?_⟩
   conv => arg 1; cbv
   refine ⟨?_, fun (p : List (List Kx) × Nat) hp => ?_⟩
   . simp (maxSteps := 4000000) only [P_vc, P_br, P_and, P_fin, V_nil, V_one, V_cons, T_self, castK, succK, Int.toNat_natCast, predK, decide_eq_true_eq, decide_eq_false_iff_not, List.map_cons, List.map_nil, cond_true, cond_false];simp
   have hp' : ∀ key ∈ p.1, ∀ x, metM ks key = some x -> x <= 1 := hp;have hmet : metM (List.map colKey s.cols ++ List.flatMap covKeys (List.take m s.covs)) = metM ks := by rw [hT, <- hks]; rfl
   conv => arg 1; cbv
   refine ⟨fun g5 => fun (u : Unit) hu => ?_, fun g5 => fun (q : List Kx × Nat) hq => ?_⟩
   . conv => arg 1; cbv
     simp (maxSteps := 4000000) only [P_vc, P_br, P_and, P_fin, V_nil, V_one, V_cons, T_self, castK, succK, Int.toNat_natCast, predK, decide_eq_true_eq, decide_eq_false_iff_not, List.map_cons, List.map_nil, cond_true, cond_false];have hu' : ∀ (key : List Kx) (x : Int), fitsL (Kc.arr 3 (Lk.int IntKind.i64)).ls key = true -> metM (List.map colKey s.cols ++ List.flatMap covKeys (List.take m s.covs)) key = some x -> key ∈ p.1 := hu;rw [hmet] at hu';have hnd : (shipKeys s).Nodup := by
      rw [List.nodup_iff_count];intro key;rcases Nat.eq_zero_or_pos (ks.count key) with h0 | h0
      . rw [hks, h0]; omega
      . have hin : key ∈ shipKeys s := by rw [hks]; exact List.count_pos_iff.1 h0
        have he : metM ks key = some (ks.count key : Int) := by unfold metM; rw [if_neg (by omega)]
        have := hp' key (hu' key _ (keys_fit hin) he) _ he;rw [hks];omega
     unfold shipB;rw [hcols, hcovs];simp only [hnd, decide_true, Bool.and_true];grind
   . have hq' : fitsL (Kc.arr 3 (Lk.int IntKind.i64)).ls q.1 = true /\ (metM (List.map colKey s.cols ++ List.flatMap covKeys (List.take m s.covs)) q.1).isSome = true /\ ¬ q.1 ∈ p.1 /\ q.2 < p.2 := hq;have q1 := hq'.1;have q2 := hq'.2.1;have q3 := hq'.2.2.1;have q4 := hq'.2.2.2;rw [hmet] at q2
     conv => arg 1; cbv
     simp (maxSteps := 4000000) only [P_vc, P_br, P_and, P_fin, V_nil, V_one, V_cons, T_self, castK, succK, Int.toNat_natCast, predK, decide_eq_true_eq, decide_eq_false_iff_not, List.map_cons, List.map_nil, cond_true, cond_false];simp only [hmet, List.headD_cons, metM_getD _ _ Tc.int.dflt rfl];refine ⟨by simp, fun h => ?_, fun h => ?_⟩
     . have hnd : ¬ (shipKeys s).Nodup := fun hn => by
        have := List.nodup_iff_count.1 hn q.1;rw [hks] at this;omega
       unfold shipB;simp [hnd]
     . refine ⟨(q.1 :: p.1, q.2), ⟨fun key' hk' x hx => ?_, q4⟩, ?_⟩
       . rcases List.mem_cons.1 hk' with rfl | hk'
         . unfold metM at hx;split at hx
           . cases hx
           . cases hx; omega
         . exact hp' key' hk' x hx
       . conv => arg 1; cbv
         simp (maxSteps := 4000000) only [P_vc, P_br, P_and, P_fin, V_nil, V_one, V_cons, T_self, castK, succK, Int.toNat_natCast, predK, decide_eq_true_eq, decide_eq_false_iff_not, List.map_cons, List.map_nil, cond_true, cond_false];simp
def stowAt (cs : List Col) (bs : List Box) (l : List Stowed) (k : Nat) : Bool :=
 ((findV bs (l.getD k Tc.stowed.dflt).box).2 && (decide (k = 0) || decide ((l.getD (k - 1) Tc.stowed.dflt).box < (l.getD k Tc.stowed.dflt).box))) &&
 ((slotOk cs (slotOf (l.getD k Tc.stowed.dflt)) (findV bs (l.getD k Tc.stowed.dflt).box).1.size && heldB (slotOf (l.getD k Tc.stowed.dflt)) (l.map slotOf)) &&
 decide (∀ j, j < k -> meetB (slotOf (l.getD k Tc.stowed.dflt)) ((l.map slotOf).getD j Tc.slot.dflt) = false))
def stowB (s : Shp) (bs : List Box) (l : List Stowed) : Bool :=
 shipB s && (decide (∀ k, k < l.length -> stowAt s.cols bs l k = true) && decide (∀ c, c < s.cols.length -> fitsB s.cols bs l (c : Int) = true))
theorem stow_bad {s : Shp} {bs : List Box} {l : List Stowed} {k : Nat} (hk : k < l.length) (h : stowAt s.cols bs l k = false) : stowB s bs l = false := by
 unfold stowB;have : decide (∀ k, k < l.length -> stowAt s.cols bs l k = true) = false := by
  rw [decide_eq_false_iff_not];intro h2;rw [h2 k hk] at h;cases h
 rw [this];simp
theorem tier_small {s : Shp} {x : Slot} {z : Int} (h : shipB s = true) (hx : slotOk s.cols x z = true) : x.tier <= 1000000 := by
 unfold slotOk at hx;simp only [Bool.and_eq_true, decide_eq_true_eq] at hx;obtain ⟨h1, h2, h3, h4, h5⟩ := hx;unfold shipB at h;simp only [Bool.and_eq_true] at h;have h6 := List.all_eq_true.1 h.2.1 _ (getD_mem Tc.col.dflt (show x.col.toNat < s.cols.length by omega));generalize s.cols.getD x.col.toNat Tc.col.dflt = c at *
 unfold colB at h6;simp only [Bool.and_eq_true] at h6;have h7 := List.all_eq_true.1 h6.2 ⟨c.tiers, 1, 10⟩ (by simp [colSpans]);unfold spnB at h7;simp only [Bool.and_eq_true, decide_eq_true_eq] at h7;omega
def shipPre (s : Shp) : Prop := (∀ c ∈ s.cols, c.plugs.length <= 1000000000000 /\ inI64 (c.tiers - 1)) /\ ∀ x ∈ s.covs, x.rows.length <= 1000000000000
def conStowRight : Con := ⟨82, [.agg shipSg, .sl .box, .sl .stowed], fun
 | [x0, x1, x2] => (x0.toShip).bind fun s => (x1.toBoxes).bind fun bs => (x2.toStos).bind fun l => some ⟨fun _ => shipPre (s ()) /\ (bs ()).length <= 1000000000000 /\ (l ()).length <= 1000000, .bool fun _ => stowB (s ()) (bs ()) (l ())⟩
 | _ => none⟩
def lpStow (s : Shp) (bs : List Box) (l : List Stowed) : Lp where
 X := Nat
 ov k := [(22, .int .i64 fun _ => (k : Int))]
 oe _ := []
 I k := k <= l.length /\ ∀ j, j < k -> stowAt s.cols bs l j = true
 μ k _ := l.length - k
 x0 := 0
 nx := some fun k => k + 1
def lpMeet (x : Slot) (all : List Slot) (k : Nat) : Lp where
 X := Nat
 ov j := [(71, .int .i64 fun _ => (j : Int))]
 oe _ := []
 I j := j <= k /\ ∀ i, i < j -> meetB x (all.getD i Tc.slot.dflt) = false
 μ j _ := k - j
 x0 := 0
 nx := some fun k => k + 1
def lpFits (s : Shp) (bs : List Box) (l : List Stowed) : Lp where
 X := Nat
 ov k := [(84, .int .i64 fun _ => (k : Int))]
 oe _ := []
 I k := k <= s.cols.length /\ ∀ j, j < k -> fitsB s.cols bs l (j : Int) = true
 μ k _ := s.cols.length - k
 x0 := 0
 nx := some fun k => k + 1
set_option maxRecDepth 100000 in
set_option maxHeartbeats 4000000 in
theorem conStowRight_ok : ConOk Tryz.prog conStowRight := by
 refine fnOk [conShipRight, conTaken, conStowFind, conSlotRight, conHeld, conMeet, conFits] ⟨conShipRight_ok, conTaken_ok, conStowFind_ok, conSlotRight_ok, conHeld_ok, conMeet_ok, conFits_ok, trivial⟩ Tryz.func82 (by kernel_rfl) fun avs res h hp => ?_;simp only [conStowRight] at h;split at h
 case h_2 => cases h
 rename_i x0 x1 x2;simp only [Option.bind_eq_some_iff, Option.some.injEq] at h;obtain ⟨s, e0, bs, e1, l, e2, rfl⟩ := h;obtain rfl := AV.toShip_ e0;obtain rfl := AV.toBoxes_ e1;obtain rfl := AV.toStos_ e2;clear e0 e1 e2;obtain ⟨s, rfl⟩ := eta (α := Shp) s;obtain ⟨bs, rfl⟩ := eta (α := List Box) bs;obtain ⟨l, rfl⟩ := eta (α := List Stowed) l;have hZhps : shipPre s /\ bs.length <= 1000000000000 /\ l.length <= 1000000 := hp;have hps := hZhps.1;have hbs := hZhps.2.1;have hl := hZhps.2.2;refine ⟨[(5, lpStow s bs l), (18, lpFits s bs l)], ?_⟩
 conv => arg 1; cbv
 refine ⟨hps, fun g1 => ?_, fun g1 => ⟨hl, ⟨?_, fun (k : Nat) hk => ?_⟩⟩⟩
 . simp (maxSteps := 4000000) only [P_vc, P_br, P_and, P_fin, V_nil, V_one, V_cons, T_self, castK, succK, Int.toNat_natCast, predK, decide_eq_true_eq, decide_eq_false_iff_not, List.map_cons, List.map_nil, cond_true, cond_false];unfold stowB;simp only [Bool.not_eq_true'] at g1;have g1' : shipB s = false := g1;rw [g1'];rfl
 . simp (maxSteps := 4000000) only [P_vc, P_br, P_and, P_fin, V_nil, V_one, V_cons, T_self, castK, succK, Int.toNat_natCast, predK, decide_eq_true_eq, decide_eq_false_iff_not, List.map_cons, List.map_nil, cond_true, cond_false];simp
 have hsB : shipB s = true := by
  have g1' : (!shipB s) = false := g1;simpa using g1'
 have hZhk1 : k <= l.length /\ ∀ j, j < k -> stowAt s.cols bs l j = true := hk;have hk1 := hZhk1.1;have hk2 := hZhk1.2
 conv => arg 1; cbv
 refine ⟨fun g2 => ?_, fun g2 => ?_⟩
 . have hlt : k < l.length := by simp only [decide_eq_true_eq, castK] at g2; omega
   refine nameIt (l.getD k Tc.stowed.dflt) fun x hx => ?_;refine nameIt (l.getD (k - 1) Tc.stowed.dflt) fun y hy => ?_;have hAt : stowAt s.cols bs l k = (((findV bs x.box).2 && (decide (k = 0) || decide (y.box < x.box))) && ((slotOk s.cols (slotOf x) (findV bs x.box).1.size && heldB (slotOf x) (l.map slotOf)) && decide (∀ j, j < k -> meetB (slotOf x) ((l.map slotOf).getD j Tc.slot.dflt) = false))) := by rw [<- hx, <- hy]; rfl
   have hbad := stow_bad (s := s) (bs := bs) hlt;have hgood := upto_more (k := k) hk2;refine ⟨⟨Int.natCast_nonneg k, of_decide_eq_true g2⟩, hbs, fun g3 => ?_, fun g3 => ⟨fun g4 => ⟨⟨by simp only [castK]; omega, by simp only [castK]; omega⟩, ⟨by simp only [decide_eq_true_eq, castK] at g4 ⊢; omega, by simp only [castK]; omega⟩, fun g5 => ?_, fun g5 => ?_⟩, fun g4 => ?_⟩⟩
   . simp (maxSteps := 4000000) only [P_vc, P_br, P_and, P_fin, V_nil, V_one, V_cons, T_self, castK, succK, Int.toNat_natCast, predK, decide_eq_true_eq, decide_eq_false_iff_not, List.map_cons, List.map_nil, cond_true, cond_false];refine (hbad ?_).symm;have g3' : (!(findV bs (l.getD k Tc.stowed.dflt).box).2) = true := g3;rw [hAt, <- hx];grind
   . simp (maxSteps := 4000000) only [P_vc, P_br, P_and, P_fin, V_nil, V_one, V_cons, T_self, castK, succK, Int.toNat_natCast, predK, decide_eq_true_eq, decide_eq_false_iff_not, List.map_cons, List.map_nil, cond_true, cond_false];refine (hbad ?_).symm;have g3' : (!(findV bs (l.getD k Tc.stowed.dflt).box).2) = false := g3;have g4' : decide (0 < (k : Int)) = true := g4;have g5' : decide ((l.getD k Tc.stowed.dflt).box <= (l.getD ((k : Int) - 1).toNat Tc.stowed.dflt).box) = true := g5;rw [predK, hx, hy] at g5';rw [hAt];grind
   . have ho : (decide (k = 0) || decide (y.box < x.box)) = true := by
      have g5' : decide ((l.getD k Tc.stowed.dflt).box <= (l.getD ((k : Int) - 1).toNat Tc.stowed.dflt).box) = false := g5;rw [predK, hx, hy] at g5';grind
     refine ⟨trivial, fun g6 => ?_, fun g6 => ?_⟩
     . simp (maxSteps := 4000000) only [P_vc, P_br, P_and, P_fin, V_nil, V_one, V_cons, T_self, castK, succK, Int.toNat_natCast, predK, decide_eq_true_eq, decide_eq_false_iff_not, List.map_cons, List.map_nil, cond_true, cond_false];refine (hbad ?_).symm;have g6' : (!slotOk s.cols (slotOf (l.getD k Tc.stowed.dflt)) (findV bs (l.getD k Tc.stowed.dflt).box).1.size) = true := g6;rw [hAt, <- hx];grind
     have g6' : (!slotOk s.cols (slotOf (l.getD k Tc.stowed.dflt)) (findV bs (l.getD k Tc.stowed.dflt).box).1.size) = false := g6;rw [hx, Bool.not_eq_false'] at g6';refine ⟨⟨by simp; omega, ?_⟩, fun g7 => ?_, fun g7 => ?_⟩
     . have := tier_small hsB g6';rw [<- hx] at this;exact this
     . simp (maxSteps := 4000000) only [P_vc, P_br, P_and, P_fin, V_nil, V_one, V_cons, T_self, castK, succK, Int.toNat_natCast, predK, decide_eq_true_eq, decide_eq_false_iff_not, List.map_cons, List.map_nil, cond_true, cond_false];refine (hbad ?_).symm;have g7' : (!heldB (slotOf (l.getD k Tc.stowed.dflt)) (l.map slotOf)) = true := g7;rw [hAt, <- hx];grind
     have g7' : (!heldB (slotOf (l.getD k Tc.stowed.dflt)) (l.map slotOf)) = false := g7;rw [hx, Bool.not_eq_false'] at g7';have g3' : (!(findV bs (l.getD k Tc.stowed.dflt).box).2) = false := g3;rw [hx, Bool.not_eq_false'] at g3';refine nameIt (l.map slotOf) fun all hall => ?_;have hlen : all.length = l.length := by rw [<- hall]; simp
     refine ⟨⟨Int.natCast_nonneg k, by simp only [castK, List.length_map]; omega⟩, ?_⟩;refine nameIt (slotOf x) fun z hz => ?_;refine ⟨lpMeet z all k, ?_⟩
     conv => arg 1; cbv
     refine ⟨?_, fun (j : Nat) hj => ?_⟩
     . simp (maxSteps := 4000000) only [P_vc, P_br, P_and, P_fin, V_nil, V_one, V_cons, T_self, castK, succK, Int.toNat_natCast, predK, decide_eq_true_eq, decide_eq_false_iff_not, List.map_cons, List.map_nil, cond_true, cond_false];simp
     have hZhj1 : j <= k /\ ∀ i, i < j -> meetB z (all.getD i Tc.slot.dflt) = false := hj;have hj1 := hZhj1.1;have hj2 := hZhj1.2
     conv => arg 1; cbv
     simp (maxSteps := 4000000) only [P_vc, P_br, P_and, P_fin, V_nil, V_one, V_cons, T_self, castK, succK, Int.toNat_natCast, predK, decide_eq_true_eq, decide_eq_false_iff_not, List.map_cons, List.map_nil, cond_true, cond_false];have e1 : ∀ u : Slot, (⟨u.col, u.tier, u.half⟩ : Slot) = u := fun _ => rfl;have e2 : (⟨(l.getD k Tc.stowed.dflt).col, (l.getD k Tc.stowed.dflt).tier, (l.getD k Tc.stowed.dflt).half⟩ : Slot) = z := by rw [hx, <- hz]; rfl
     simp only [hall, e1, e2];refine ⟨fun g8 => ?_, fun g8 => ?_⟩
     . have h8 : j < k := by omega
       refine ⟨⟨by omega, by omega⟩, trivial, fun g9 => (hbad ?_).symm, fun g9 => ⟨⟨by omega, by omega⟩, ⟨⟨h8, upto_more hj2 g9⟩, by omega⟩, by omega⟩⟩;have hd : decide (∀ j, j < k -> meetB z (all.getD j Tc.slot.dflt) = false) = false := by
        rw [decide_eq_false_iff_not];intro h;rw [h j h8] at g9;cases g9
       rw [hAt, hz, hall, hd];simp
     . have hd : decide (∀ j, j < k -> meetB z (all.getD j Tc.slot.dflt) = false) = true := by
        rw [decide_eq_true_eq];exact fun i hi => hj2 i (by omega)
       refine ⟨⟨by omega, by omega⟩, ⟨⟨hlt, hgood ?_⟩, by omega⟩, by omega⟩;rw [hAt, g3', ho, g6', g7', hz, hall, hd];rfl
   . have ho : (decide (k = 0) || decide (y.box < x.box)) = true := by
      have g4' : decide (0 < (k : Int)) = false := g4;grind
     refine ⟨trivial, fun g6 => ?_, fun g6 => ?_⟩
     . simp (maxSteps := 4000000) only [P_vc, P_br, P_and, P_fin, V_nil, V_one, V_cons, T_self, castK, succK, Int.toNat_natCast, predK, decide_eq_true_eq, decide_eq_false_iff_not, List.map_cons, List.map_nil, cond_true, cond_false];refine (hbad ?_).symm;have g6' : (!slotOk s.cols (slotOf (l.getD k Tc.stowed.dflt)) (findV bs (l.getD k Tc.stowed.dflt).box).1.size) = true := g6;rw [hAt, <- hx];grind
     have g6' : (!slotOk s.cols (slotOf (l.getD k Tc.stowed.dflt)) (findV bs (l.getD k Tc.stowed.dflt).box).1.size) = false := g6;rw [hx, Bool.not_eq_false'] at g6';refine ⟨⟨by simp; omega, ?_⟩, fun g7 => ?_, fun g7 => ?_⟩
     . have := tier_small hsB g6';rw [<- hx] at this;exact this
     . simp (maxSteps := 4000000) only [P_vc, P_br, P_and, P_fin, V_nil, V_one, V_cons, T_self, castK, succK, Int.toNat_natCast, predK, decide_eq_true_eq, decide_eq_false_iff_not, List.map_cons, List.map_nil, cond_true, cond_false];refine (hbad ?_).symm;have g7' : (!heldB (slotOf (l.getD k Tc.stowed.dflt)) (l.map slotOf)) = true := g7;rw [hAt, <- hx];grind
     have g7' : (!heldB (slotOf (l.getD k Tc.stowed.dflt)) (l.map slotOf)) = false := g7;rw [hx, Bool.not_eq_false'] at g7';have g3' : (!(findV bs (l.getD k Tc.stowed.dflt).box).2) = false := g3;rw [hx, Bool.not_eq_false'] at g3';refine nameIt (l.map slotOf) fun all hall => ?_;have hlen : all.length = l.length := by rw [<- hall]; simp
     refine ⟨⟨Int.natCast_nonneg k, by simp only [castK, List.length_map]; omega⟩, ?_⟩;refine nameIt (slotOf x) fun z hz => ?_;refine ⟨lpMeet z all k, ?_⟩
     conv => arg 1; cbv
     refine ⟨?_, fun (j : Nat) hj => ?_⟩
     . simp (maxSteps := 4000000) only [P_vc, P_br, P_and, P_fin, V_nil, V_one, V_cons, T_self, castK, succK, Int.toNat_natCast, predK, decide_eq_true_eq, decide_eq_false_iff_not, List.map_cons, List.map_nil, cond_true, cond_false];simp
     have hZhj1 : j <= k /\ ∀ i, i < j -> meetB z (all.getD i Tc.slot.dflt) = false := hj;have hj1 := hZhj1.1;have hj2 := hZhj1.2
     conv => arg 1; cbv
     simp (maxSteps := 4000000) only [P_vc, P_br, P_and, P_fin, V_nil, V_one, V_cons, T_self, castK, succK, Int.toNat_natCast, predK, decide_eq_true_eq, decide_eq_false_iff_not, List.map_cons, List.map_nil, cond_true, cond_false];have e1 : ∀ u : Slot, (⟨u.col, u.tier, u.half⟩ : Slot) = u := fun _ => rfl;have e2 : (⟨(l.getD k Tc.stowed.dflt).col, (l.getD k Tc.stowed.dflt).tier, (l.getD k Tc.stowed.dflt).half⟩ : Slot) = z := by rw [hx, <- hz]; rfl
     simp only [hall, e1, e2];refine ⟨fun g8 => ?_, fun g8 => ?_⟩
     . have h8 : j < k := by omega
       refine ⟨⟨by omega, by omega⟩, trivial, fun g9 => (hbad ?_).symm, fun g9 => ⟨⟨by omega, by omega⟩, ⟨⟨h8, upto_more hj2 g9⟩, by omega⟩, by omega⟩⟩;have hd : decide (∀ j, j < k -> meetB z (all.getD j Tc.slot.dflt) = false) = false := by
        rw [decide_eq_false_iff_not];intro h;rw [h j h8] at g9;cases g9
       rw [hAt, hz, hall, hd];simp
     . have hd : decide (∀ j, j < k -> meetB z (all.getD j Tc.slot.dflt) = false) = true := by
        rw [decide_eq_true_eq];exact fun i hi => hj2 i (by omega)
       refine ⟨⟨by omega, by omega⟩, ⟨⟨hlt, hgood ?_⟩, by omega⟩, by omega⟩;rw [hAt, g3', ho, g6', g7', hz, hall, hd];rfl
 . have hkk : l.length <= k := by simp only [decide_eq_false_iff_not, castK] at g2; omega
   refine ⟨?_, fun (c : Nat) hc => ?_⟩
   . simp (maxSteps := 4000000) only [P_vc, P_br, P_and, P_fin, V_nil, V_one, V_cons, T_self, castK, succK, Int.toNat_natCast, predK, decide_eq_true_eq, decide_eq_false_iff_not, List.map_cons, List.map_nil, cond_true, cond_false];simp
   have hZhc1 : c <= s.cols.length /\ ∀ j, j < c -> fitsB s.cols bs l (j : Int) = true := hc;have hc1 := hZhc1.1;have hc2 := hZhc1.2
   conv => arg 1; cbv
   simp (maxSteps := 4000000) only [P_vc, P_br, P_and, P_fin, V_nil, V_one, V_cons, T_self, castK, succK, Int.toNat_natCast, predK, decide_eq_true_eq, decide_eq_false_iff_not, List.map_cons, List.map_nil, cond_true, cond_false];have hlen : s.cols.length <= 200 := by
    unfold shipB at hsB;simp only [Bool.and_eq_true, decide_eq_true_eq] at hsB;exact hsB.1.2.1
   refine ⟨fun g3 => ?_, fun g3 => ?_⟩
   . have h3 : c < s.cols.length := by omega
     refine ⟨⟨hbs, hl, by omega, g3⟩, fun g4 => ?_, fun g4 => ⟨⟨by omega, by omega⟩, ⟨⟨h3, upto_more hc2 (by simpa using g4)⟩, by omega⟩, by omega⟩⟩;unfold stowB;have : decide (∀ c, c < s.cols.length -> fitsB s.cols bs l (c : Int) = true) = false := by
      rw [decide_eq_false_iff_not];intro h;rw [h c h3] at g4;cases g4
     rw [this];simp
   . unfold stowB;have e1 : decide (∀ k, k < l.length -> stowAt s.cols bs l k = true) = true := by
      rw [decide_eq_true_eq];exact fun i hi => hk2 i (by omega)
     have e2 : decide (∀ c, c < s.cols.length -> fitsB s.cols bs l (c : Int) = true) = true := by
      rw [decide_eq_true_eq];exact fun i hi => hc2 i (by omega)
     rw [hsB, e1, e2];rfl
theorem new_row {w w' : World} {ρ : Nat -> Option Rl} {ra : Nat -> Prop} {T : Nat} {t : Tc} {l : Unit -> List t.el} {A : Option Addr} {c : Nat} (f : t.el -> List Value) (ht : ∀ x : t.el, (cellsAV true t fun _ => x).all AV.flat = true) (hf : ∀ x : t.el, (cellsAV true t fun _ => x).map AV.valOf = f x)
 (hρ : ∀ l, ρ l = none) (hra : ∀ b, ra b -> b < w.heap.size) (hb : From w w') (ho : OwnS w' w.heap.size T t.size A c ((l ()).map f)) : ∃ ρ1 ra1, Left w w' ρ ρ1 ra ra1 [(0, .row true t T l)] false /\ AVR w' ρ1 w.heap.size ra1 (.own 0) (.slice A (l ()).length c) := by
 have hr : ∀ l' r, updR ρ 0 (.row A (l ()).length c) l' = some r -> l' = 0 /\ r = .row A (l ()).length c := by
  intro l' r h;unfold updR at h;split at h
  . rename_i e;cases h;exact ⟨e, rfl⟩
  . rw [hρ] at h;cases h
 have hblk : ∀ b, (Rl.row A (l ()).length c).blk = some b -> w.heap.size <= b /\ b < w'.heap.size := by
  intro b h;simp only [Rl.blk] at h;obtain ⟨a, ha, rfl⟩ := Option.map_eq_some_iff.1 h;exact ho.lt ha
 refine ⟨updR ρ 0 (.row A (l ()).length c), ra, ⟨?_, fun l' e he => ?_, fun l1 l2 r r' b hne h1 h2 _ _ => ?_, fun l' hl' => ?_, fun l' r b h hbk => ?_, fun b hb' => ?_, fun l' r h _ => by rw [hρ] at h; cases h⟩, .own 0 A _ c (updR_self _ _ _)⟩
 . exact ⟨hb.os, hb.tape, hb.output, hb.size, fun k hk _ => hb.block k hk⟩
 . simp only [alook] at he;split at he
   . rename_i e0;have : l' = 0 := by simpa using (beq_iff_eq.1 e0).symm
     subst this;cases he;refine ⟨A, c, (l ()).map f, updR_self _ _ _, ho, by simp, fun k cs j x v hk hx hv => ?_⟩;rw [List.getElem?_map] at hk
     cases hlk : (l ())[k]? with
     | none => rw [hlk] at hk; cases hk
     | some y =>
      rw [hlk] at hk;injection hk with hk;subst hk;have hy : (l ()).getD k t.dflt = y := by rw [List.getD_eq_getElem?_getD, hlk]; rfl
      rw [hy] at hx;have hE : Each w' (updR ρ 0 (.row A (l ()).length c)) w.heap.size ra (cellsAV true t fun _ => y) (f y) := by
       rw [<- hf];exact each_flat (ht y)
      exact hE.2 j x v hx hv
   . cases he
 . exact absurd ((hr _ _ h1).1.trans (hr _ _ h2).1.symm) hne
 . have : l' ≠ 0 := by
    rintro rfl
    simp [keysOf, memN] at hl'
   unfold updR;rw [if_neg this, hρ]
 . obtain ⟨rfl, rfl⟩ := hr _ _ h;have h3 := hblk b hbk;exact ⟨h3.2, fun h4 => by have := hra b h4; omega, .inl h3.1⟩
 . exact ⟨Nat.lt_of_lt_of_le (hra b hb') hb.size, fun _ => hb'⟩
set_option maxRecDepth 100000 in
theorem clone_sto (A : Option Addr) (c : Nat) (l : List Stowed) (n : Nat) (hn : n = l.length) (w : World) (hA : Rd w w.heap.size 4 A (l.map Stowed.cells)) (hl : l.length <= 1000000) :
 Calls Tryz.prog 84 #[.slice A n c] w fun e w' => ∃ A' c', e = .returned (.slice A' l.length c') /\ OwnS w' w.heap.size 42 4 A' c' (l.map Stowed.cells) /\ Below w.heap.size w w' := by
 subst hn
 cases A with
 | none =>
  have hl0 : l = [] := by
   rcases l with _ | ⟨x, l⟩
   . rfl
   . obtain ⟨_, _, h, _⟩ := hA 0 x.cells rfl;cases h
  subst hl0;have heq := fun w => Go.Lib.run_eql_slice_nil (P := Tryz.prog) w 34 42 none 0 c 0 0 Tryz.underlying34
  go_enter Tryz.func84, Tryz.ntmps84
  go_wp2
  go_ret
  exact ⟨none, 0, rfl, OwnS.nil _ _ _ _, Below.refl _ _⟩
 | some ad =>
  have heq := fun w => Go.Lib.run_eql_slice_nil (P := Tryz.prog) w 34 42 (some ad) l.length c 0 0 Tryz.underlying34;have hb1 : Below w.heap.size w (w.alloc (Obj.cells #[] 42)) := (Below.refl _ _).alloc (Nat.le_refl _) _;have HRD := Lib.hid ((hA.below hb1 (Nat.le_refl _)).more hb1.size);have HOW := Lib.hid (OwnS.empty_new w w.heap.size 42 4 (Nat.le_refl _));have HB1 := Lib.hid hb1;clear hA hb1
  go_enter Tryz.func84, Tryz.ntmps84
  go_wp2_with (first
   | (at_builtin; go_loud (refine wpList_append_n rfl _ _ rfl Stowed.ei 0 rfl rfl HOW.out rfl _ HRD.out (by simp) (Stowed.ones l) (by unfold maxLen; simp; omega) (by simp; omega) HB1.out.size ?_); intro A4 c4 w4 hown4 hg4 hb4))
  go_ret
  exact ⟨A4, c4, by simp, by simpa using hown4, HB1.out.trans hb4⟩
def fonClone : Fon := ⟨84, [.sl .stowed], 0, fun avs es => match avs, es with
 | [x], [] => x.toStos.bind fun l => some ⟨fun _ => (l ()).length <= 1000000, .own 0, [(0, .row true .stowed 42 l)]⟩
 | _, _ => none, false⟩
theorem fonClone_ok : FonOk Tryz.prog fonClone := by
 refine ⟨fun args w => callFunc_ok Tryz.func84 (by kernel_rfl) (by kernel_rfl) args w, fun avs es res h w ρ ra vals hra hE hen hap hfr hown hp => ?_⟩;simp only [fonClone] at h;split at h
 case h_2 => cases h
 rename_i x;simp only [Option.bind_eq_some_iff, Option.some.injEq] at h;obtain ⟨l, e0, rfl⟩ := h;obtain rfl := AV.toStos_ e0;obtain ⟨v0, us0, rfl, hv0, h0⟩ := hE.head;obtain rfl := h0.none;obtain ⟨A0, q0, rfl, hc0, hr0⟩ := hv0.stos;refine (clone_sto A0 q0 (l ()) _ rfl w hr0 hp).mono fun e w' ⟨A', c', k1, k2, k3⟩ => ?_;obtain ⟨ρ1, ra1, hL, hv⟩ := new_row (t := .stowed) (l := l) Stowed.cells (fun _ => rfl) (fun _ => rfl) (fun l => hfr l (Nat.zero_le _)) hra k3 k2;exact ⟨_, ρ1, ra1, k1, hL, hv⟩
section
variable {α : Type}
def swapAt (d : α) (l : List α) (j : Nat) : List α := (l.set (j + 1) (l.getD j d)).set j (l.getD (j + 1) d)
def insDown (lt : α -> α -> Bool) (d : α) (a : Nat) : Nat -> List α -> List α
 | 0, l => l
 | j + 1, l => cond (decide (a < j + 1) && lt (l.getD (j + 1) d) (l.getD j d)) (insDown lt d a j (swapAt d l j)) l
def insUpto (lt : α -> α -> Bool) (d : α) (a : Nat) (l : List α) : Nat -> List α
 | 0 => l
 | n + 1 => insDown lt d a (a + 1 + n) (insUpto lt d a l n)
def insSort (lt : α -> α -> Bool) (d : α) (a b : Nat) (l : List α) : List α := insUpto lt d a l (b - (a + 1))
theorem swapAt_len (d : α) (l : List α) (j : Nat) : (swapAt d l j).length = l.length := by unfold swapAt; simp
theorem insDown_len (lt : α -> α -> Bool) (d : α) (a : Nat) : ∀ (j : Nat) (l : List α), (insDown lt d a j l).length = l.length
 | 0, l => rfl
 | j + 1, l => by
  unfold insDown
  cases decide (a < j + 1) && lt (l.getD (j + 1) d) (l.getD j d) with
  | true => rw [cond_true, insDown_len lt d a j, swapAt_len]
  | false => rfl
theorem insUpto_len (lt : α -> α -> Bool) (d : α) (a : Nat) (l : List α) : ∀ n, (insUpto lt d a l n).length = l.length
 | 0 => rfl
 | n + 1 => by unfold insUpto; rw [insDown_len, insUpto_len lt d a l n]
end
def cmpI (a b : Int) : Int := cond (decide (a < b)) (-1) (cond (decide (b < a)) 1 0)
def conNan : Con := ⟨131, [.int .i64], fun
 | [x0] => (x0.toI).bind fun a => some ⟨fun _ => True, .blit false⟩
 | _ => none⟩
set_option maxRecDepth 100000 in
set_option maxHeartbeats 4000000 in
theorem conNan_ok : ConOk Tryz.prog conNan := by
 refine fnOk [] trivial Tryz.func131 (by kernel_rfl) fun avs res h hp => ?_;simp only [conNan] at h;split at h
 case h_2 => cases h
 rename_i x0;simp only [Option.bind_eq_some_iff, Option.some.injEq] at h;obtain ⟨a, e0, rfl⟩ := h;obtain rfl := AV.toI_ e0;clear e0;obtain ⟨a, rfl⟩ := eta (α := Int) a;refine ⟨[], ?_⟩
 conv => arg 1; cbv
 simp [P_fin, V_one]
def conCmp : Con := ⟨87, [.int .i64, .int .i64], fun
 | [x0, x1] => (x0.toI).bind fun a => (x1.toI).bind fun b => some ⟨fun _ => True, .int .i64 fun _ => cmpI (a ()) (b ())⟩
 | _ => none⟩
set_option maxRecDepth 100000 in
set_option maxHeartbeats 4000000 in
theorem conCmp_ok : ConOk Tryz.prog conCmp := by
 refine fnOk [conNan] ⟨conNan_ok, trivial⟩ Tryz.func87 (by kernel_rfl) fun avs res h hp => ?_;simp only [conCmp] at h;split at h
 case h_2 => cases h
 rename_i x0 x1;simp only [Option.bind_eq_some_iff, Option.some.injEq] at h;obtain ⟨a, e0, b, e1, rfl⟩ := h;obtain rfl := AV.toI_ e0;obtain rfl := AV.toI_ e1;clear e0 e1;obtain ⟨a, rfl⟩ := eta (α := Int) a;obtain ⟨b, rfl⟩ := eta (α := Int) b;refine ⟨[], ?_⟩
 conv => arg 1; cbv
 simp (maxSteps := 4000000) only [P_vc, P_br, P_and, P_fin, V_nil, V_one, V_cons, T_self, castK, succK, Int.toNat_natCast, predK, decide_eq_true_eq, decide_eq_false_iff_not, List.map_cons, List.map_nil, cond_true, cond_false];unfold cmpI;grind
def conLess : Con := ⟨86, [.agg stoSg, .agg stoSg], fun
 | [x0, x1] => (x0.toSto).bind fun x => (x1.toSto).bind fun y => some ⟨fun _ => True, .int .i64 fun _ => cmpI (x ()).tier (y ()).tier⟩
 | _ => none⟩
set_option maxRecDepth 100000 in
set_option maxHeartbeats 4000000 in
theorem conLess_ok : ConOk Tryz.prog conLess := by
 refine fnOk [conCmp] ⟨conCmp_ok, trivial⟩ Tryz.func86 (by kernel_rfl) fun avs res h hp => ?_;simp only [conLess] at h;split at h
 case h_2 => cases h
 rename_i x0 x1;simp only [Option.bind_eq_some_iff, Option.some.injEq] at h;obtain ⟨x, e0, y, e1, rfl⟩ := h;obtain rfl := AV.toSto_ e0;obtain rfl := AV.toSto_ e1;clear e0 e1;obtain ⟨x, rfl⟩ := eta (α := Stowed) x;obtain ⟨y, rfl⟩ := eta (α := Stowed) y;refine ⟨[], ?_⟩
 conv => arg 1; cbv
 simp (maxSteps := 4000000) only [P_vc, P_br, P_and, P_fin, V_nil, V_one, V_cons, T_self, castK, succK, Int.toNat_natCast, predK, decide_eq_true_eq, decide_eq_false_iff_not, List.map_cons, List.map_nil, cond_true, cond_false];exact ⟨trivial, trivial⟩
def lessT (a b : Stowed) : Bool := decide (cmpI a.tier b.tier < 0)
def fonIns : Fon := ⟨170, [.ownr .stowed, .int .i64, .int .i64, .fn []], 1, fun avs es => match avs, es with
 | [.own 0, .int .i64 a, .int .i64 b, .fn f []], [(0, .row false .stowed T l)] => if f = 86 then some ⟨fun _ => 0 <= a () /\ a () <= b () /\ b () <= ((l ()).length : Int) /\ (l ()).length <= 1000000, .tup [], [(0, .row false .stowed T fun _ => insSort lessT Tc.stowed.dflt (a ()).toNat (b ()).toNat (l ()))]⟩ else none
 | _, _ => none, true⟩
def lpIns (T : Nat) (l : List Stowed) (a b : Nat) : Lp where
 X := Nat
 ov n := [(8, .int .i64 fun _ => ((a + 1 + n : Nat) : Int)), (0, .own 0)]
 oe n := [(0, .row false .stowed T fun _ => insUpto lessT Tc.stowed.dflt a l n)]
 I n := n <= b - (a + 1)
 μ n _ := b - (a + 1) - n
 x0 := 0
 nx := some fun n => n + 1
def lpDown (T : Nat) (a i : Nat) (R L1 : List Stowed) : Lp where
 X := Nat × List Stowed
 ov p := [(9, .int .i64 fun _ => (p.1 : Int)), (0, .own 0)]
 oe p := [(0, .row false .stowed T fun _ => p.2)]
 I p := a <= p.1 /\ p.1 <= i /\ p.2.length = R.length /\ insDown lessT Tc.stowed.dflt a p.1 p.2 = R
 μ p _ := p.1
 x0 := (i, L1)
 nx := none
set_option maxRecDepth 100000 in
set_option maxHeartbeats 4000000 in
theorem fonIns_ok : FonOk Tryz.prog fonIns := by
 refine fonOk [conLess] ⟨conLess_ok, trivial⟩ [] trivial Tryz.func170 (by kernel_rfl) fun avs es res h hp => ?_;simp only [fonIns] at h;split at h
 case h_2 => cases h
 split at h
 case isFalse => cases h
 rename_i a b f T l hf;subst hf;cases h;obtain ⟨l, rfl⟩ := eta (α := List Stowed) l;obtain ⟨a, rfl⟩ := eta (α := Int) a;obtain ⟨b, rfl⟩ := eta (α := Int) b;have hZh1 : 0 <= a /\ a <= b /\ b <= (l.length : Int) /\ l.length <= 1000000 := hp;have h1 := hZh1.1;have h2 := hZh1.2.1;have h3 := hZh1.2.2.1;have h4 := hZh1.2.2.2;obtain ⟨a, rfl⟩ := Int.eq_ofNat_of_zero_le h1;obtain ⟨b, rfl⟩ := Int.eq_ofNat_of_zero_le (show 0 <= b by omega);refine ⟨[(1, lpIns T l a b)], ?_⟩
 conv => arg 1; cbv
 refine ⟨⟨by simp only [castK]; omega, by simp only [castK]; omega⟩, ⟨?_, fun (n : Nat) hn => ?_⟩⟩
 . simp (maxSteps := 4000000) only [P_vc, P_br, P_and, P_fin, V_nil, V_one, V_cons, T_self, castK, succK, Int.toNat_natCast, predK, decide_eq_true_eq, decide_eq_false_iff_not, List.map_cons, List.map_nil, cond_true, cond_false];exact ⟨Nat.zero_le _, by omega, rfl⟩
 have hn' : n <= b - (a + 1) := hn
 conv => arg 1; cbv
 refine ⟨fun g1 => ?_, fun g1 => ?_⟩
 . have g1' : a + 1 + n < b := by simp only [decide_eq_true_eq, castK] at g1; omega
   refine nameIt (insUpto lessT Tc.stowed.dflt a l n) fun L1 hL1 => ?_;refine nameIt (a + 1 + n) fun i hi => ?_;refine nameIt (insDown lessT Tc.stowed.dflt a i L1) fun R hR => ?_;have hlen1 : L1.length = l.length := by rw [<- hL1, insUpto_len]
   have hlenR : R.length = l.length := by rw [<- hR, insDown_len, hlen1]
   refine ⟨lpDown T a i R L1, ?_⟩
   conv => arg 1; cbv
   refine ⟨?_, fun (p : Nat × List Stowed) hp => ?_⟩
   . simp (maxSteps := 4000000) only [P_vc, P_br, P_and, P_fin, V_nil, V_one, V_cons, T_self, castK, succK, Int.toNat_natCast, predK, decide_eq_true_eq, decide_eq_false_iff_not, List.map_cons, List.map_nil, cond_true, cond_false];refine ⟨⟨by omega, Nat.le_refl _, by omega, hR⟩, by rw [hi], hL1⟩
   . have hp' : a <= p.1 /\ p.1 <= i /\ p.2.length = R.length /\ insDown lessT Tc.stowed.dflt a p.1 p.2 = R := hp;have p1 := hp'.1;have p2 := hp'.2.1;have p3 := hp'.2.2.1;have p4 := hp'.2.2.2;clear hn hp hp' hZh1;have hup : insUpto lessT Tc.stowed.dflt a l (n + 1) = R := by rw [<- hR, <- hi, <- hL1]; rfl
     have hlast : insDown lessT Tc.stowed.dflt a p.1 p.2 = p.2 -> inI64 (((a + 1 + n : Nat) : Int) + 1) /\ (n + 1 <= b - (a + 1) /\ b - (a + 1) - (n + 1) < b - (a + 1) - n) /\ ((a + 1 + n : Nat) : Int) + 1 = ((a + 1 + (n + 1) : Nat) : Int) /\ p.2 = insUpto lessT Tc.stowed.dflt a l (n + 1) := fun h => by
      rw [p4] at h;exact ⟨⟨by omega, by omega⟩, ⟨by omega, by omega⟩, by omega, by rw [hup, h]⟩
     conv => arg 1; cbv
     refine nameIt (p.1 - 1) fun j hj => ?_;refine nameIt (swapAt Tc.stowed.dflt p.2 j) fun L2 hL2 => ?_;have h5 : (p.2.length : Int) <= 1000000 := by omega
     have hdown : insDown lessT Tc.stowed.dflt a p.1 p.2 = cond (decide (p.1 = 0)) p.2 (cond (decide (a < p.1) && lessT (p.2.getD p.1 Tc.stowed.dflt) (p.2.getD j Tc.stowed.dflt)) (insDown lessT Tc.stowed.dflt a j L2) p.2) := by
      rw [<- hL2]
      cases hc : p.1 with
      | zero => rfl
      | succ m =>
       have : j = m := by omega
       subst this;rfl
     have hlt : p.1 < p.2.length := by omega
     simp (maxSteps := 4000000) only [P_vc, P_br, P_and, P_fin, V_nil, V_one, V_cons, T_self, castK, succK, Int.toNat_natCast, predK, decide_eq_true_eq, decide_eq_false_iff_not, List.map_cons, List.map_nil, cond_true, cond_false];refine ⟨fun g2 => ?_, fun g2 => hlast ?_⟩
     . have g2' : a < p.1 := by omega
       have hj2 : p.1 = j + 1 := by omega
       have hne : decide (p.1 = 0) = false := by simp; omega
       refine ⟨⟨by omega, by omega⟩, ⟨by omega, by omega⟩, ⟨by omega, by omega⟩, trivial, fun g3 => ?_, fun g3 => hlast ?_⟩
       . refine ⟨⟨by omega, by omega⟩, ⟨by omega, by omega⟩, ⟨by omega, by omega⟩, ⟨by omega, by omega⟩, ⟨by omega, by omega⟩, ⟨by omega, by rw [List.length_set]; omega⟩, ⟨by omega, by omega⟩, ⟨(j, L2), ⟨⟨by omega, by omega, ?_, ?_⟩, by omega⟩, ?_⟩⟩
         . rw [<- hL2, swapAt_len]; exact p3
         . rw [hne, cond_false, decide_eq_true g2', Bool.true_and] at hdown;have g3' : lessT (p.2.getD p.1 Tc.stowed.dflt) (p.2.getD j Tc.stowed.dflt) = true := by rw [<- hj]; exact decide_eq_true g3
           rw [g3', cond_true] at hdown;rw [<- hdown];exact p4
         . conv => arg 1; cbv
           simp (maxSteps := 4000000) only [P_vc, P_br, P_and, P_fin, V_nil, V_one, V_cons, T_self, castK, succK, Int.toNat_natCast, predK, decide_eq_true_eq, decide_eq_false_iff_not, List.map_cons, List.map_nil, cond_true, cond_false];refine ⟨by omega, ?_⟩;rw [<- hL2, hj, hj2];rfl
       . rw [hdown, hne, cond_false];have g3' : lessT (p.2.getD p.1 Tc.stowed.dflt) (p.2.getD j Tc.stowed.dflt) = false := by rw [<- hj]; exact decide_eq_false g3
         rw [g3', Bool.and_false, cond_false]
     . have g2' : decide (a < p.1) = false := by simp; omega
       rw [hdown, g2', Bool.false_and, cond_false];cases decide (p.1 = 0) <;> rfl
 . simp (maxSteps := 4000000) only [P_vc, P_br, P_and, P_fin, V_nil, V_one, V_cons, T_self, castK, succK, Int.toNat_natCast, predK, decide_eq_true_eq, decide_eq_false_iff_not, List.map_cons, List.map_nil, cond_true, cond_false];have g1' : ¬ a + 1 + n < b := by simp only [decide_eq_false_iff_not, castK] at g1; omega
   unfold insSort;rw [show b - (a + 1) = n by omega]
end Go.Proofs.YtfdjcakgolenbaaGreat
