/-
  slot.All: the slots of a ship.
-/
import Derived.Test.YtfdjcakgolenbaaGreatMu41
import Derived.Laws.Cover3
set_option linter.unusedVariables false
set_option linter.unusedSimpArgs false
namespace Go.Proofs.YtfdjcakgolenbaaGreat
open Go.RowKit Go.Shelf
attribute [local go_sem] Oper.semAt_some
set_option maxRecDepth 100000 in
set_option maxHeartbeats 2000000 in
theorem slot_All (nc cc : Nat) (A : Option Addr) (sz : Int) (css : List (List Value)) (ts : List Int) (w : World) (v1 v2 v3 v4 v5 v6 v7 v8 v9 v10 v11 v12 : Value)
 (hrd : Rd w w.heap.size 12 A css) (hlc : css.length = nc) (hlt : ts.length = nc) (hnc : nc ≤ 1000) (hts : ∀ t ∈ ts, 0 ≤ t ∧ t ≤ 1000) (hone : ∀ cs ∈ css, ∀ u ∈ cs, u.oneCell' = true) (hcs : ∀ k cs, css[k]? = some cs → ∃ v0 v1 v2 v4 v5 v6 v7 v8 v9 v10 v11 : Value, cs = [v0, v1, v2, .int .i64 (ts.getD k 0), v4, v5, v6, v7, v8, v9, v10, v11]) :
 Calls Tryz.prog 81 #[.agg #[.slice A nc cc, v1, v2, v3, v4, v5, v6, v7, v8, v9, v10, v11, v12], .int .u8 sz] w fun e w' => ∃ D d, e = .returned (.slice D (slotL ts sz nc).length d) ∧ OwnS w' w.heap.size 40 3 D d ((slotL ts sz nc).map Slot.cells) ∧ From w w' := by
 refine (callsIn_wide (n := 3)).1 ?_
 refine callsIn_of_wp_marks Tryz.func81 rfl trivial ?_ rfl
 simp only [Tryz.ntmps81, List.size_toArray, List.length_cons, List.length_nil, Nat.reduceAdd, Nat.reduceSub, Array.replicate_succ, Array.replicate_zero, List.push_toArray, List.append_toArray, List.nil_append, List.cons_append]
 have HRD := Lib.hid hrd
 have HCS := Lib.hid hcs
 have HONE := Lib.hid hone
 clear hrd hcs hone
 gi_wp2_with (refine ⟨trivial, ?_⟩; gi_at_call 122; refine (callsIn_wide.2 (slots_in _ _ rfl _ _)).mono ?_; rintro e w' ⟨rfl, rfl⟩)
 obtain ⟨sv, hsv⟩ : ∃ sv : Value, sv = .agg #[.slice A nc cc, v1, v2, v3, v4, v5, v6, v7, v8, v9, v10, v11, v12] := ⟨_, rfl⟩
 rw [← hsv]
 have HM := (((Mem.nil w).any (.cells #[.slice A nc cc, v1, v2, v3, v4, v5, v6, v7, v8, v9, v10, v11, v12] 32 (0, 0))).alloc 162 [.slice none 0 0]).none 40 3
 have HM2 := (HM.any (.cells #[.slice A nc cc, v1, v2, v3, v4, v5, v6, v7, v8, v9, v10, v11, v12] 32 (0, 0))).any (.cells #[.int .u8 sz] 5 (0, 0))
 rw [World.size_alloc] at HM2
 have hsA : (((w.alloc (.cells #[.slice A nc cc, v1, v2, v3, v4, v5, v6, v7, v8, v9, v10, v11, v12] 32 (0, 0))).alloc (.cells #[.slice none 0 0] 162)).alloc (.cells #[.slice A nc cc, v1, v2, v3, v4, v5, v6, v7, v8, v9, v10, v11, v12] 32 (0, 0))).heap[w.heap.size + 1 + 1]? = some (.cells #[.slice A nc cc, v1, v2, v3, v4, v5, v6, v7, v8, v9, v10, v11, v12] 32 (0, 0)) := by
  have := World.alloc_heap_new ((w.alloc (.cells #[.slice A nc cc, v1, v2, v3, v4, v5, v6, v7, v8, v9, v10, v11, v12] 32 (0, 0))).alloc (.cells #[.slice none 0 0] 162)) (.cells #[.slice A nc cc, v1, v2, v3, v4, v5, v6, v7, v8, v9, v10, v11, v12] 32 (0, 0))
  rwa [World.size_alloc, World.size_alloc] at this
 obtain ⟨wS, hwS⟩ : ∃ wS, wS = (((w.alloc (.cells #[.slice A nc cc, v1, v2, v3, v4, v5, v6, v7, v8, v9, v10, v11, v12] 32 (0, 0))).alloc (.cells #[.slice none 0 0] 162)).alloc (.cells #[.slice A nc cc, v1, v2, v3, v4, v5, v6, v7, v8, v9, v10, v11, v12] 32 (0, 0))).alloc (.cells #[.int .u8 sz] 5 (0, 0)) := ⟨_, rfl⟩
 have hszS : wS.heap.size = w.heap.size + 4 := by rw [hwS]; simp
 have hcS : wS.cell? ⟨w.heap.size + 1 + 1, 0, none⟩ = some (.slice A nc cc) := by
  have h1 : wS.heap[w.heap.size + 1 + 1]? = some (.cells #[.slice A nc cc, v1, v2, v3, v4, v5, v6, v7, v8, v9, v10, v11, v12] 32 (0, 0)) := by
   rw [hwS]
   exact (Below.heap_alloc _ _ _ (by simp)).trans hsA
  simp [World.cell?, h1]
 have hzS : wS.heap[w.heap.size + 1 + 1 + 1]? = some (.cells #[.int .u8 sz] 5 (0, 0)) := by
  have := World.alloc_heap_new (((w.alloc (.cells #[.slice A nc cc, v1, v2, v3, v4, v5, v6, v7, v8, v9, v10, v11, v12] 32 (0, 0))).alloc (.cells #[.slice none 0 0] 162)).alloc (.cells #[.slice A nc cc, v1, v2, v3, v4, v5, v6, v7, v8, v9, v10, v11, v12] 32 (0, 0))) (.cells #[.int .u8 sz] 5 (0, 0))
  rw [World.size_alloc, World.size_alloc, World.size_alloc] at this
  rw [hwS]
  exact this
 rw [← hwS] at HM2 ⊢
 clear hwS hsA HM
 have hrd2 : Rd wS w.heap.size 12 A css := HRD.out.below HM2.from_ (Nat.le_refl _)
 have hlen : (slotL ts sz nc).length ≤ 2000000 := by
  have := slotL_len ts sz (fun t h => (hts t h).2) nc
  omega
 refine range_box (F := Fence.wide) (n := 3) (ps := #[10]) (encs := sloVals) rfl (by decide) (gf := 151) (lb := #[.pointer (some ⟨w.heap.size + 1 + 1, 0, none⟩), .pointer (some ⟨w.heap.size + 1 + 1 + 1, 0, none⟩)]) rfl trivial (enters_of Tryz.func151 (by kernel_rfl) rfl)
  (slots_told w.heap.size _ _ nc cc A sz css ts wS (by omega) hcS (by omega) hzS hrd2 hlc hlt hnc hts HONE.out HCS.out) (fun h k => h.trans k) ?hKb (Below.refl _ _) (fun _ => rfl)
  (fun pre W => ∃ D d, Mem w W [.row 40 3 D d (pre.map Slot.cells), .box (w.heap.size + 1) 162 [.slice D pre.length d]]) ?hI ?hKf ⟨none, 0, HM2⟩ (fun x => .cells #[.int .i64 x.col, .int .i64 x.tier, .int .u8 x.half] 40 (0, 0))
  (fun b x => { tmps := #[sv, .int .u8 sz, .pointer (some ⟨w.heap.size, 0, none⟩), undef, .slice none 0 0, .pointer (some ⟨w.heap.size + 1, 0, none⟩), .pointer (some ⟨b, 0, none⟩), sv, .int .u8 sz, .func (.func 151) #[] #[.pointer (some ⟨w.heap.size + 1 + 1, 0, none⟩), .pointer (some ⟨w.heap.size + 1 + 1 + 1, 0, none⟩)], x.val, undef, undef, undef, undef, undef], defers := [] }) ?assign ?body ?done
 case hKb =>
  intro W l o o' hl ho hc
  refine ⟨(Below.refl _ W).grown (grownBy_putObj' W l o') (by have := (Array.getElem?_eq_some_iff.1 ho).1; omega) (fun k e => by cases e; omega), fun b cur hb => (World.putObj_heap_other (fun e => ?_)).trans hb⟩
  subst e
  rw [hb] at ho
  cases ho
  cases hc
 case hI =>
  rintro pre W W' row ⟨D, d, h⟩ hg hr
  exact ⟨D, d, h.grown (fun e he s A css h1 => by
   simp only [List.mem_cons, List.not_mem_nil, or_false] at he
   rcases he with rfl | rfl <;> cases h1) hg (fun r e => ⟨by have := (hr r e).1; omega, (hr r e).2⟩)⟩
 case hKf =>
  rintro pre W W1 ⟨D, d, h⟩ hb
  exact SloKp.from hb h.from_.size
 case assign =>
  intro l x W K hK
  have HMa := Lib.hid ((Mem.nil W).alloc 40 [.int .i64 0, .int .i64 0, .int .u8 0])
  subst hsv
  unfold sloVals Slot.val
  gi_wp2
  exact hK _ ((Below.refl _ W).alloc (Nat.le_refl _) _) (World.alloc_heap_new _ _)
 case body =>
  rintro l pre x b W ⟨D, d, h⟩ hlt1 hbx
  have hct : cellT Tryz.prog 162 = true := by kernel_rfl
  have hci : (Tryz.prog.info? 162).map (·.size) = some 1 := by kernel_rfl
  have HX : Hid ((loadVar 40 ⟨b, 0, none⟩).run Tryz.prog W = .ok x.val W) := run_load_cells Slot.row (cs := x.cells) rfl (fun j u hu => by
   rw [show (⟨b, 0, none⟩ : Addr).add j = ⟨b, j, none⟩ from by rw [add_none, Nat.zero_add]]
   simp only [World.cell?, hbx]
   simpa [Slot.cells] using hu)
  have HM := Lib.hid h
  have HA := Lib.hid (h.any (.cells #[.int .i64 x.col, .int .i64 x.tier, .int .u8 x.half] 40 (0, 0)))
  have hpl : (pre.map Slot.cells).length + 1 ≤ 3000000 := by rw [List.length_map]; omega
  clear h hbx hlt1
  gi_wp2_with (first
   | (refine wpListIn_ld rfl 162 _ rfl _ rfl _ (HM.out.ldc hct (i := 1) rfl rfl _ (Below.refl _ _)) ?_)
   | (refine wpListIn_ld rfl 40 _ rfl _ rfl _ HX.out ?_)
   | (refine wpListIn_append_M rfl _ _ rfl Slot.ei pre.length (by rw [List.length_map]) rfl HA.out 0 rfl rfl (Rd.rows (css := [x.cells]) (heap_alloc_new W _) rfl (by simp [Slot.cells])) rfl (by simp [Slot.cells, Value.oneCell']) (by unfold maxLen; omega) (by omega) ?_; intro A' c' w5 h5 hg5; have HB := Lib.hid h5; have HG5 := Lib.hid hg5; clear h5 hg5)
   | (refine wpListIn_stB (cs' := [.slice A' (pre.map Slot.cells ++ [x.cells]).length c']) rfl _ _ rfl HB.out 1 rfl rfl rfl hci rfl rfl rfl (by simp [Value.oneCell']) ?_; intro w6 h6 hg6))
  have s5 := HA.out.step (i := 0) rfl (fun s A css h => nomatch h) HG5.out
  have s6 := HB.out.step (i := 1) rfl (fun s A css h => nomatch h) hg6
  have hfr : From W (W.alloc (.cells #[.int .i64 x.col, .int .i64 x.tier, .int .u8 x.half] 40 (0, 0))) := (Below.refl _ W).alloc (Nat.le_refl _) _
  refine ⟨(KeepsOthers.alloc W _).trans (s5.1.trans s6.1), (SloKp.from hfr HM.out.from_.size).trans (SloKp.trans ⟨s5.2.1, fun b cur hb => s5.2.2 _ b cur (by simp [Ent.typ]) hb⟩ ⟨s6.2.1, fun b cur hb => s6.2.2 _ b cur (by simp [Ent.typ]) hb⟩), A', c', ?_⟩
  simpa using h6
 case done =>
  rintro D0 xs W hD rfl ⟨D, d, h⟩ hK
  have hct : cellT Tryz.prog 162 = true := by kernel_rfl
  have HM := Lib.hid h
  clear HRD HCS HONE hrd2 hcS hzS HM2
  gi_wp2_with (refine wpListIn_ld rfl 162 _ rfl _ rfl _ (HM.out.ldc hct (i := 1) rfl rfl _ (Below.refl _ _)) ?_)
  refine ⟨by simp, .inl ⟨_, _, rfl, run_takeDeferred hK, ?_⟩⟩
  have hM3 := HM.out.grown (fun e he s A css h1 => by
   simp only [List.mem_cons, List.not_mem_nil, or_false] at he
   rcases he with rfl | rfl <;> cases h1) (grownBy_putObj' W D0 (.deferred none)) (fun r e => by cases e; exact ⟨by omega, _, hK, rfl⟩)
  refine ⟨.slice D (slotL ts sz nc).length d, ?_, D, d, rfl, hM3.own (i := 0) rfl, hM3.from_⟩
  simp [results, Tryz.f81, go_sem]
end Go.Proofs.YtfdjcakgolenbaaGreat
namespace Go.Proofs.YtfdjcakgolenbaaGreat
open Go.RowKit
def plcOk (p : Plc) : Prop := (0 ≤ p.bay ∧ p.bay ≤ 255) ∧ (0 ≤ p.row ∧ p.row ≤ 255) ∧ 0 ≤ p.tiers ∧ p.tiers ≤ 255
def colP (p : Plc) : Col := ⟨p.bay % 5, p.row % 5, p.deck, 2 + p.tiers % 4, 0, 500000000, 500000000, 0, [], 13000 * (p.bay % 5) - 26000, 2500 * (p.row % 5) - 5000, cond p.deck 20000 2000⟩
def colsK (l : List Plc) : Nat → List Col
 | 0 => []
 | k + 1 => cond (findC (colsK l k) (colP (l.getD k Tc.plc.dflt)).bay (colP (l.getD k Tc.plc.dflt)).row (l.getD k Tc.plc.dflt).deck).isEmpty (colsK l k ++ [colP (l.getD k Tc.plc.dflt)]) (colsK l k)
theorem colsK_len (l : List Plc) : ∀ k, (colsK l k).length ≤ k
 | 0 => Nat.le_refl _
 | k + 1 => by
  unfold colsK
  have := colsK_len l k
  cases (findC (colsK l k) (colP (l.getD k Tc.plc.dflt)).bay (colP (l.getD k Tc.plc.dflt)).row (l.getD k Tc.plc.dflt).deck).isEmpty with
  | true => simp only [cond_true, List.length_append, List.length_cons, List.length_nil]; omega
  | false => simp only [cond_false]; omega
def bareCol : Col := ⟨0, 0, false, 3, 0, 500000000, 500000000, 0, [], 0, 0, 2000⟩
def colsF (l : List Plc) : List Col := cond (colsK l (min l.length 12)).isEmpty [bareCol] (colsK l (min l.length 12))
def bitB (n k : Int) : Bool := decide (bitF BinOp.and IntKind.u32 (shF BinOp.shr IntKind.u32 n k) 1 = 1)
def covsK (n : Int) : Nat → List Cov
 | 0 => []
 | k + 1 => covsK n k ++ cond (bitB n (2 * k)) [⟨(k : Int), [0, 1]⟩] [] ++ cond (bitB n (2 * k + 1)) [⟨(k : Int), [2, 3, 4]⟩] []
theorem covsK_len (n : Int) : ∀ k, (covsK n k).length ≤ 2 * k
 | 0 => Nat.le_refl _
 | k + 1 => by
  unfold covsK
  have := covsK_len n k
  cases bitB n (2 * k) <;> cases bitB n (2 * k + 1) <;> simp only [cond_true, cond_false, List.length_append, List.length_cons, List.length_nil] <;> omega
def builtF (l : List Plc) (n : Int) : Shp := ⟨colsF l, covsK n 5, 0, 0, 0, 0, [], [], [], 0, 0, 0, 0⟩
def shipC (x y : AV) : List AV := [x, y, .lit .i64 0, .lit .i64 0, .lit .i64 0, .lit .i64 0, .nil, .nil, .nil, .lit .i64 0, .lit .i64 0, .lit .i64 0, .lit .i64 0]
def lpB1 (l : List Plc) (m : Nat) : Lp where
 X := Nat
 ov k := [(18, .int .i64 fun _ => (k : Int))]
 oe k := [(1, .box 32 (shipC (.own 2) .nil)), (2, .row true .col 47 fun _ => colsK l k)]
 I k := k ≤ m
 μ k _ := m - k
 x0 := 0
 nx := some fun k => k + 1
def lpB2 (n : Int) (c d : Nat) : Lp where
 X := Nat
 ov j := [(11, .int .i64 fun _ => (j : Int))]
 oe j := [(1, .box 32 (shipC (.own c) (.own d))), (d, .row true .cov 134 fun _ => covsK n j)]
 I j := j ≤ 5
 μ j _ := 5 - j
 x0 := 0
 nx := some fun j => j + 1
def conBuilt : Con := ⟨42, [.sl .plc, .int .u32], fun
 | [x0, x1] => (x0.toPlcs).bind fun l => (x1.toU32).bind fun n => some ⟨fun _ => (∀ p ∈ l (), plcOk p) ∧ (0 ≤ n () ∧ n () ≤ 4294967295) ∧ (l ()).length ≤ 140737488351232, .agg (shipL fun _ => builtF (l ()) (n ()))⟩
 | _ => none⟩
set_option maxRecDepth 100000 in
set_option maxHeartbeats 4000000 in
theorem conBuilt_ok : ConOk Tryz.prog conBuilt := by
 refine fnOkO { jn := [] } [conFindCol] ⟨conFindCol_ok, trivial⟩ [] trivial Tryz.func42 (by kernel_rfl) fun avs res h hp => ?_
 simp only [conBuilt] at h
 split at h
 case h_2 => cases h
 rename_i x0 x1
 simp only [Option.bind_eq_some_iff, Option.some.injEq] at h
 obtain ⟨l, e0, n, e1, rfl⟩ := h
 obtain rfl := AV.toPlcs_ e0
 obtain rfl := AV.toU32_ e1
 clear e0 e1
 obtain ⟨l, rfl⟩ := eta (α := List Plc) l
 obtain ⟨n, rfl⟩ := eta (α := Int) n
 have hZhw : (∀ p ∈ l, plcOk p) ∧ (0 ≤ n ∧ n ≤ 4294967295) ∧ l.length ≤ 140737488351232 := hp
 have hw := hZhw.1
 have hn := hZhw.2.1
 have hl := hZhw.2.2
 refine nameIt (min l.length 12) fun m hm => ?_
 refine ⟨[(3, lpB1 l m)], ?_⟩
 have hmin : (bif decide ((12 : Int) < (l.length : Int)) then (12 : Int) else (l.length : Int)) = (m : Int) := by
  by_cases h : (12 : Int) < (l.length : Int)
  · rw [decide_eq_true h, cond_true]; omega
  · rw [decide_eq_false h, cond_false]; omega
 conv => arg 1; cbv
 simp (maxSteps := 4000000) only [P_vc, P_br, P_and, P_fin, V_nil, V_one, V_cons, T_self, castK, succK, Int.toNat_natCast, predK, decide_eq_true_eq, decide_eq_false_iff_not, List.map_cons, List.map_nil, cond_true, cond_false]
 refine ⟨by rw [hmin]; omega, ⟨Nat.zero_le _, rfl, rfl⟩, fun (k : Nat) hk => ?_⟩
 have hk' : k ≤ m := hk
 conv => arg 1; cbv
 simp (maxSteps := 4000000) only [P_vc, P_br, P_and, P_fin, V_nil, V_one, V_cons, T_self, castK, succK, Int.toNat_natCast, predK, decide_eq_true_eq, decide_eq_false_iff_not, List.map_cons, List.map_nil, cond_true, cond_false]
 refine ⟨fun g => ?_, fun g => ⟨fun h0 => ?_, fun h0 => ?_⟩⟩
 · have hkm : k < m := by omega
   have hkl : k < l.length := by omega
   have hq : plcOk (l.getD k Tc.plc.dflt) := hw _ (by
    rw [List.getD_eq_getElem?_getD, List.getElem?_eq_getElem hkl]
    exact List.getElem_mem _)
   have hlen := colsK_len l k
   have hsu : colsK l (k + 1) = cond (findC (colsK l k) (colP (l.getD k Tc.plc.dflt)).bay (colP (l.getD k Tc.plc.dflt)).row (l.getD k Tc.plc.dflt).deck).isEmpty (colsK l k ++ [colP (l.getD k Tc.plc.dflt)]) (colsK l k) := rfl
   generalize l.getD k Tc.plc.dflt = p at hq hsu ⊢
   obtain ⟨bay, row, tiers, deck⟩ := p
   simp only [colP] at hsu
   simp only [plcOk] at hq
   have t1 : bay.tmod 5 = bay % 5 := Int.tmod_eq_emod_of_nonneg hq.1.1
   have t2 : row.tmod 5 = row % 5 := Int.tmod_eq_emod_of_nonneg hq.2.1.1
   have t3 : tiers.tmod 4 = tiers % 4 := Int.tmod_eq_emod_of_nonneg hq.2.2.1
   simp only [t1, t2, t3, hsu, List.length_cons, List.length_nil]
   generalize colsK l k = cs at hlen ⊢
   cases deck <;> cases (findC cs (bay % 5) (row % 5) _).isEmpty <;> simp only [cond_true, cond_false, Bool.not_true, Bool.not_false, Bool.false_eq_true, Bool.true_eq_false, reduceCtorEq, false_implies, true_implies, and_true, true_and, forall_const, inI64] <;> omega
 · have hcf : colsF l = [bareCol] := by
    unfold colsF
    rw [hm, ← (show k = m by omega), List.eq_nil_of_length_eq_zero (show (colsK l k).length = 0 by omega)]
    rfl
   refine ⟨lpB2 n 3 4, ?_⟩
   conv => arg 1; cbv
   simp (maxSteps := 4000000) only [P_vc, P_br, P_and, P_fin, V_nil, V_one, V_cons, T_self, castK, succK, Int.toNat_natCast, predK, decide_eq_true_eq, decide_eq_false_iff_not, List.map_cons, List.map_nil, cond_true, cond_false]
   refine ⟨⟨by omega, rfl, rfl⟩, fun (j : Nat) hj => ?_⟩
   have hj1 : j ≤ 5 := hj
   conv => arg 1; cbv
   simp (maxSteps := 4000000) only [P_vc, P_br, P_and, P_fin, V_nil, V_one, V_cons, T_self, castK, succK, Int.toNat_natCast, predK, decide_eq_true_eq, decide_eq_false_iff_not, List.map_cons, List.map_nil, cond_true, cond_false]
   have hlen := covsK_len n j
   have hsu : covsK n (j + 1) = covsK n j ++ cond (bitB n (2 * j)) [⟨(j : Int), [0, 1]⟩] [] ++ cond (bitB n (2 * j + 1)) [⟨(j : Int), [2, 3, 4]⟩] [] := rfl
   refine ⟨fun g1 => ?_, fun g1 => ?_⟩
   · rw [hsu]
     unfold bitB
     generalize covsK n j = cs at hlen ⊢
     generalize bitF BinOp.and IntKind.u32 (shF BinOp.shr IntKind.u32 n (2 * ↑j)) 1 = b1
     generalize bitF BinOp.and IntKind.u32 (shF BinOp.shr IntKind.u32 n (2 * ↑j + 1)) 1 = b2
     by_cases e1 : b1 = 1 <;> by_cases e2 : b2 = 1 <;> simp only [e1, e2, decide_true, decide_false, cond_true, cond_false, not_true_eq_false, not_false_eq_true, false_implies, true_implies, and_true, true_and, forall_const, inI64, List.length_append, List.length_cons, List.length_nil, List.append_nil] <;> omega
   · have hj5 : j = 5 := by omega
     subst hj5
     exact ⟨hcf.symm, rfl, rfl, rfl, rfl, rfl, rfl, rfl, rfl, rfl, rfl, rfl, rfl⟩
 · have hcf : colsF l = colsK l k := by
    unfold colsF
    rw [hm, ← (show k = m by omega)]
    cases hE : colsK l k with
    | nil => rw [hE] at h0; exact absurd rfl h0
    | cons x xs => rfl
   refine ⟨lpB2 n 2 3, ?_⟩
   conv => arg 1; cbv
   simp (maxSteps := 4000000) only [P_vc, P_br, P_and, P_fin, V_nil, V_one, V_cons, T_self, castK, succK, Int.toNat_natCast, predK, decide_eq_true_eq, decide_eq_false_iff_not, List.map_cons, List.map_nil, cond_true, cond_false]
   refine ⟨⟨by omega, rfl, rfl⟩, fun (j : Nat) hj => ?_⟩
   have hj1 : j ≤ 5 := hj
   conv => arg 1; cbv
   simp (maxSteps := 4000000) only [P_vc, P_br, P_and, P_fin, V_nil, V_one, V_cons, T_self, castK, succK, Int.toNat_natCast, predK, decide_eq_true_eq, decide_eq_false_iff_not, List.map_cons, List.map_nil, cond_true, cond_false]
   have hlen := covsK_len n j
   have hsu : covsK n (j + 1) = covsK n j ++ cond (bitB n (2 * j)) [⟨(j : Int), [0, 1]⟩] [] ++ cond (bitB n (2 * j + 1)) [⟨(j : Int), [2, 3, 4]⟩] [] := rfl
   refine ⟨fun g1 => ?_, fun g1 => ?_⟩
   · rw [hsu]
     unfold bitB
     generalize covsK n j = cs at hlen ⊢
     generalize bitF BinOp.and IntKind.u32 (shF BinOp.shr IntKind.u32 n (2 * ↑j)) 1 = b1
     generalize bitF BinOp.and IntKind.u32 (shF BinOp.shr IntKind.u32 n (2 * ↑j + 1)) 1 = b2
     by_cases e1 : b1 = 1 <;> by_cases e2 : b2 = 1 <;> simp only [e1, e2, decide_true, decide_false, cond_true, cond_false, not_true_eq_false, not_false_eq_true, false_implies, true_implies, and_true, true_and, forall_const, inI64, List.length_append, List.length_cons, List.length_nil, List.append_nil] <;> omega
   · have hj5 : j = 5 := by omega
     subst hj5
     exact ⟨hcf.symm, rfl, rfl, rfl, rfl, rfl, rfl, rfl, rfl, rfl, rfl, rfl, rfl⟩
def allF (cs : List Col) (sz : Int) : List Slot := slotL (cs.map (·.tiers)) sz cs.length
theorem new_sl {w w' : World} {ρ : Nat → Option Rl} {ra : Nat → Prop} {T : Nat} {t : Tc} {l : Unit → List t.el} {A : Option Addr} {c : Nat} (f : t.el → List Value) (ht : ∀ x : t.el, (cellsAV true t fun _ => x).all AV.flat = true) (hf : ∀ x : t.el, (cellsAV true t fun _ => x).map AV.valOf = f x)
 (ho : OwnS w' w.heap.size T t.size A c ((l ()).map f)) : AVR w' ρ w.heap.size (fun b => ra b ∨ w.heap.size ≤ b) (.sl true t l) (.slice A (l ()).length c) := by
 refine .sl true t l A c ((l ()).map f) (by simp) ?_ ho.rd (fun a ha _ => .inr (ho.lt ha).1) (fun _ a ha _ => (ho.lt ha).1) fun k cs j x v hk hx hv => ?_
 · rcases ho.1.2 with ⟨h2, h3⟩ | ⟨g, cap, cur, h2, h3, _, h5, _⟩
   · rw [h3]
     exact Nat.zero_le _
   · injection h2 with _ _ h6
     rw [h6]
     exact h5
 · rw [List.getElem?_map] at hk
   cases hlk : (l ())[k]? with
   | none => rw [hlk] at hk; cases hk
   | some y =>
    rw [hlk] at hk
    injection hk with hk
    subst hk
    have hy : (l ()).getD k t.dflt = y := by rw [List.getD_eq_getElem?_getD, hlk]; rfl
    rw [hy] at hx
    have hE : Each w' ρ w.heap.size (fun b => ra b ∨ w.heap.size ≤ b) (cellsAV true t fun _ => y) (f y) := by
     rw [← hf]
     exact each_flat (ht y)
    exact hE.2 j x v hx hv
theorem AVR.colrows {w : World} {ρ : Nat → Option Rl} {base : Nat} {ro : Nat → Prop} {v : Value} {fr : Bool} {l : Unit → List Col} (h : AVR w ρ base ro (.sl fr .col l) v) : ∃ A c css, v = .slice A (l ()).length c ∧ css.length = (l ()).length ∧ Rd w w.heap.size 12 A css ∧ (∀ cs ∈ css, ∀ u ∈ cs, u.oneCell' = true) ∧
 ∀ k cs, css[k]? = some cs → ∃ v0 v1 v2 v4 v5 v6 v7 v8 v9 v10 v11 : Value, cs = [v0, v1, v2, .int .i64 (((l ()).map (·.tiers)).getD k 0), v4, v5, v6, v7, v8, v9, v10, v11] := by
 cases h with
 | sl _ _ _ A c css hl hc hr hro hfr h =>
  refine ⟨A, c, css, rfl, hl, hr, news_one hr h, fun k cs hk => ?_⟩
  have hlen : cs.length = 12 := hr.len cs (List.mem_of_getElem? hk)
  have hkl : k < (l ()).length := by have := (List.getElem?_eq_some_iff.1 hk).1; omega
  match cs, hlen with
  | [v0, v1, v2, v3, v4, v5, v6, v7, v8, v9, v10, v11], _ =>
   have h3 := h k _ 3 _ v3 hk rfl rfl
   have e3 := h3.int_
   refine ⟨v0, v1, v2, v4, v5, v6, v7, v8, v9, v10, v11, ?_⟩
   rw [e3]
   simp only [List.getD_eq_getElem?_getD, List.getElem?_map, List.getElem?_eq_getElem hkl, Option.map_some, Option.getD_some]
def conAll : Con := ⟨81, [.agg shipSg, .int .u8], fun
 | [x0, x1] => (x0.toShip).bind fun s => (x1.toU8).bind fun sz => some ⟨fun _ => (s ()).cols.length ≤ 1000 ∧ ∀ c ∈ (s ()).cols, 0 ≤ c.tiers ∧ c.tiers ≤ 1000, .sl true .slot fun _ => allF (s ()).cols (sz ())⟩
 | _ => none⟩
theorem conAll_ok : ConOk Tryz.prog conAll := by
 refine oldOk Tryz.func81 (by kernel_rfl) fun avs res h w ra vals hE hp => ?_
 simp only [conAll] at h
 split at h
 case h_2 => cases h
 rename_i x0 x1
 simp only [Option.bind_eq_some_iff, Option.some.injEq] at h
 obtain ⟨s, e0, sz, e1, rfl⟩ := h
 obtain rfl := AV.toShip_ e0
 obtain rfl := AV.toU8_ e1
 clear e0 e1
 obtain ⟨s, rfl⟩ := eta (α := Shp) s
 obtain ⟨sz, rfl⟩ := eta (α := Int) sz
 obtain ⟨v0, us0, rfl, hv0, h0⟩ := hE.head
 obtain ⟨v1, us1, rfl, hv1, h1⟩ := h0.head
 obtain rfl := h1.none
 obtain rfl := hv1.int_
 obtain ⟨vs, rfl, hvs⟩ := hv0.agg_
 have hZhp1 : s.cols.length ≤ 1000 ∧ ∀ c ∈ s.cols, 0 ≤ c.tiers ∧ c.tiers ≤ 1000 := hp
 have hp1 := hZhp1.1
 have hp2 := hZhp1.2
 have hl13 : vs.length = 13 := hvs.1.symm
 match vs, hl13 with
 | [w0, w1, w2, w3, w4, w5, w6, w7, w8, w9, w10, w11, w12], _ =>
  obtain ⟨A, c, css, e0, e1, e2, e3, e4⟩ := (hvs.2 0 _ w0 rfl rfl).colrows
  subst e0
  exact (slot_All _ c A sz css (s.cols.map (·.tiers)) w w1 w2 w3 w4 w5 w6 w7 w8 w9 w10 w11 w12 e2 e1 (by simp) hp1 (fun t ht => by
   obtain ⟨c, hc, rfl⟩ := List.mem_map.1 ht
   exact hp2 c hc) e3 e4).mono fun e w' ⟨D, d, k1, k2, k3⟩ => ⟨_, k1, k3, new_sl (t := .slot) (l := fun _ => allF s.cols sz) Slot.cells (fun _ => rfl) (fun _ => rfl) k2⟩
structure Sml where
 step : Int
 light : Int
 at_ : Int
 kilos : Int
 share : Int
deriving DecidableEq
def limb (n i : Nat) : Int := (((pad B32 8 n).getD i 0 : Nat) : Int)
def fracL (f : Unit → FracV) : List AV := [.bool fun _ => (f ()).neg, .int .u32 fun _ => limb (f ()).num 0, .int .u32 fun _ => limb (f ()).num 1, .int .u32 fun _ => limb (f ()).num 2, .int .u32 fun _ => limb (f ()).num 3, .int .u32 fun _ => limb (f ()).num 4, .int .u32 fun _ => limb (f ()).num 5, .int .u32 fun _ => limb (f ()).num 6, .int .u32 fun _ => limb (f ()).num 7, .int .u32 fun _ => limb (f ()).den 0, .int .u32 fun _ => limb (f ()).den 1, .int .u32 fun _ => limb (f ()).den 2, .int .u32 fun _ => limb (f ()).den 3, .int .u32 fun _ => limb (f ()).den 4, .int .u32 fun _ => limb (f ()).den 5, .int .u32 fun _ => limb (f ()).den 6, .int .u32 fun _ => limb (f ()).den 7]
def ctrL (c : Unit → Ctr) : List AV := fracL (fun _ => (c ()).x) ++ (fracL (fun _ => (c ()).y) ++ fracL fun _ => (c ()).z)
theorem limbs_all (n : Nat) : [limb n 0, limb n 1, limb n 2, limb n 3, limb n 4, limb n 5, limb n 6, limb n 7] = (pad B32 8 n).map fun (k : Nat) => (k : Int) := by
 obtain ⟨a0, a1, a2, a3, a4, a5, a6, a7, h⟩ := list8 (pad_len B32 8 n)
 unfold limb
 rw [h]
 rfl
theorem fracL_val (f : Unit → FracV) : (fracL f).map AV.valOf = (f ()).cells := by
 unfold FracV.cells
 have e : ∀ n, (pad B32 8 n).map (fun (k : Nat) => Value.int .u32 (k : Int)) = [limb n 0, limb n 1, limb n 2, limb n 3, limb n 4, limb n 5, limb n 6, limb n 7].map (Value.int .u32) := fun n => by rw [limbs_all, List.map_map]; rfl
 rw [e, e]
 rfl
theorem ctrL_val (c : Unit → Ctr) : (ctrL c).map AV.valOf = (c ()).cells := by
 unfold ctrL Ctr.cells
 rw [List.map_append, List.map_append, fracL_val, fracL_val, fracL_val]
section
variable {w : World} {ρ : Nat → Option Rl} {base : Nat} {ro : Nat → Prop} {v : Value}
theorem avr_frac (f : Unit → FracV) : AVR w ρ base ro (.agg (fracL f)) (f ()).val := by
 have h := avr_aggF (w := w) (ρ := ρ) (base := base) (ro := ro) (l := fracL f) rfl
 rwa [fracL_val] at h
theorem avr_ctr (c : Unit → Ctr) : AVR w ρ base ro (.agg (ctrL c)) (c ()).val := by
 have h := avr_aggF (w := w) (ρ := ρ) (base := base) (ro := ro) (l := ctrL c) rfl
 rwa [ctrL_val] at h
end
theorem in_lo {n : Int} (h : inI64 n) : -9223372036854775808 ≤ n := h.1
theorem in_hi {n : Int} (h : inI64 n) : n ≤ 9223372036854775807 := h.2
def conRatio : Con := ⟨52, [.int .i64, .int .i64], fun
 | [x0, x1] => (x0.toI).bind fun a => (x1.toI).bind fun b => some ⟨fun _ => inI64 (a ()) ∧ inI64 (b ()), .tup [.agg (fracL fun _ => (ratioL (a ()) (b ())).1), .int .i64 fun _ => (ratioL (a ()) (b ())).2]⟩
 | _ => none⟩
theorem conRatio_ok : ConOk Tryz.prog conRatio := by
 refine oldOk Tryz.func52 (by kernel_rfl) fun avs res h w ra vals hE hp => ?_
 simp only [conRatio] at h
 split at h
 case h_2 => cases h
 rename_i x0 x1
 simp only [Option.bind_eq_some_iff, Option.some.injEq] at h
 obtain ⟨a, e0, b, e1, rfl⟩ := h
 obtain rfl := AV.toI_ e0
 obtain rfl := AV.toI_ e1
 clear e0 e1
 obtain ⟨a, rfl⟩ := eta (α := Int) a
 obtain ⟨b, rfl⟩ := eta (α := Int) b
 obtain ⟨v0, us0, rfl, hv0, h0⟩ := hE.head
 obtain ⟨v1, us1, rfl, hv1, h1⟩ := h0.head
 obtain rfl := h1.none
 obtain rfl := hv0.int_
 obtain rfl := hv1.int_
 exact (frac_Ratio a b (in_lo hp.1) (in_hi hp.1) (in_lo hp.2) (in_hi hp.2) w).mono fun e w' ⟨k1, k2⟩ => ⟨_, k1, k2, avr_tup2 (avr_frac _) (.int _ _)⟩
def conOf : Con := ⟨24, [.int .i64], fun
 | [x0] => (x0.toI).bind fun a => some ⟨fun _ => inI64 (a ()), .agg (fracL fun _ => ofL (a ()))⟩
 | _ => none⟩
def conFind : Con := ⟨20, [.agg ldSg], fun
 | [x0] => (x0.toLd).bind fun x => some ⟨fun _ => True, .tup [.agg (ctrL fun _ => (findF (x ())).1), .int .i64 fun _ => (findF (x ())).2]⟩
 | _ => none⟩
theorem conFind_ok : ConOk Tryz.prog conFind := by
 refine oldOk Tryz.func20 (by kernel_rfl) fun avs res h w ra vals hE hp => ?_
 simp only [conFind] at h
 split at h
 case h_2 => cases h
 rename_i x0
 simp only [Option.bind_eq_some_iff, Option.some.injEq] at h
 obtain ⟨x, e0, rfl⟩ := h
 obtain rfl := AV.toLd_ e0
 clear e0
 obtain ⟨x, rfl⟩ := eta (α := Ld) x
 obtain ⟨v0, us0, rfl, hv0, h0⟩ := hE.head
 obtain rfl := h0.none
 obtain rfl := hv0.aggF rfl
 exact (m_Find x w).mono fun e w' ⟨k1, k2⟩ => ⟨_, k1, k2, avr_tup2 (avr_ctr _) (.int _ _)⟩
def cols07 : List Col := [⟨0, 0, false, 2, 0, 0, 0, 0, [], 0, 0, 0⟩, ⟨0, 1, false, 2, 0, 0, 0, 0, [], 0, 0, 0⟩, ⟨0, 0, true, 3, 0, 0, 0, 0, [], 0, 0, 0⟩, ⟨0, 1, true, 3, 0, 0, 0, 0, [], 0, 0, 0⟩, ⟨1, 1, true, 4, 0, 0, 0, 0, [], 0, 0, 0⟩]
def covs07 : List Cov := [⟨0, [0, 1]⟩]
def cols15 : List Col := [⟨0, 0, false, 2, 0, 0, 0, 0, [], 1000, -500, 2000⟩, ⟨0, 1, false, 2, 0, 0, 0, 0, [], 0, 0, 0⟩, ⟨0, 0, true, 3, 0, 0, 0, 0, [], 0, 0, 0⟩, ⟨0, 1, true, 3, 0, 0, 0, 0, [], 0, 0, 0⟩, ⟨1, 1, true, 4, 0, 0, 0, 0, [], 0, 0, 0⟩]
def boxes15 : List Box := [⟨1, noText, 20, false, 5000, 0, 1, 0, false⟩, ⟨2, noText, 20, false, 8000, 0, 1, 0, false⟩, ⟨3, noText, 40, true, 10000, 0, 1, 0, false⟩]
def state15 : List Stowed := [⟨1, 0, 0, 1⟩, ⟨2, 0, 0, 2⟩, ⟨3, 0, 1, 0⟩]
def exShipAV (loc : Nat) : AV := .agg [.own loc, .sl true .cov fun _ => covs07, .lit .i64 0, .lit .i64 0, .lit .i64 0, .lit .i64 0, .nil, .nil, .nil, .lit .i64 0, .lit .i64 0, .lit .i64 0, .lit .i64 0]
def fonEx07 : Fon := ⟨38, [], 0, fun avs es => match avs, es with
 | [], [] => some ⟨fun _ => True, exShipAV 1, [(1, .row true .col 47 fun _ => cols07)]⟩
 | _, _ => none, false⟩
def fonEx15 : Fon := ⟨11, [], 0, fun avs es => match avs, es with
 | [], [] => some ⟨fun _ => True, .tup [exShipAV 2, .own 4, .own 5], [(2, .row true .col 47 fun _ => cols15), (4, .row true .box 44 fun _ => boxes15), (5, .row true .stowed 42 fun _ => state15)]⟩
 | _, _ => none, false⟩
set_option maxRecDepth 100000 in
set_option maxHeartbeats 4000000 in
theorem fonEx07_ok : FonOk Tryz.prog fonEx07 := by
 refine fonOk [] trivial [] trivial Tryz.func38 (by kernel_rfl) fun avs es res h hp => ?_
 simp only [fonEx07] at h
 split at h
 case h_2 => cases h
 cases h
 refine ⟨[], ?_⟩
 conv => arg 1; cbv
 simp (maxSteps := 4000000) only [P_vc, P_br, P_and, P_fin, V_nil, V_one, V_cons, T_self, castK, succK, Int.toNat_natCast, predK, decide_eq_true_eq, decide_eq_false_iff_not, List.map_cons, List.map_nil, cond_true, cond_false]
 first | trivial | exact ⟨rfl, rfl⟩ | rfl
set_option maxRecDepth 100000 in
set_option maxHeartbeats 4000000 in
theorem fonEx15_ok : FonOk Tryz.prog fonEx15 := by
 refine fonOkO { jn := [(2, [0, 1, 2, 3])], sc := [(2, schList [0, 2, 4] (.alt (schList [1, 6, 7] (.alt (.op 3 (.alt (schList [5, 8, 9, 10, 11, 12, 13, 14] .nil) (schList [8, 9, 10] (.alt (schList [5, 11, 12, 13, 14] .nil) (schList [11, 5, 12, 13, 14] .nil))))) (.alt (.op 5 (.alt (schList [3, 8, 9, 10, 11, 12, 13, 14] .nil) (schList [8, 3, 9, 10, 11, 12, 13, 14] .nil))) (.op 8 (.alt (schList [3, 9, 10] (.alt (schList [5, 11, 12, 13, 14] .nil) (schList [11, 5, 12, 13, 14] .nil))) (schList [5, 3, 9, 10, 11, 12, 13, 14] .nil)))))) (.alt (.op 3 (.alt (schList [1, 6, 7] (.alt (schList [5, 8, 9, 10, 11, 12, 13, 14] .nil) (schList [8, 9, 10] (.alt (schList [5, 11, 12, 13, 14] .nil) (schList [11, 5, 12, 13, 14] .nil))))) (schList [5, 1, 6, 7, 8, 9, 10, 11, 12, 13, 14] .nil))) (.op 5 (.alt (schList [1, 6, 7] (.alt (schList [3, 8, 9, 10, 11, 12, 13, 14] .nil) (schList [8, 3, 9, 10, 11, 12, 13, 14] .nil))) (schList [3, 1, 6, 7, 8, 9, 10, 11, 12, 13, 14] .nil))))))] } [] trivial [fonEx07] ⟨fonEx07_ok, trivial⟩ Tryz.func11 (by kernel_rfl) fun avs es res h hp => ?_
 simp only [fonEx15] at h
 split at h
 case h_2 => cases h
 cases h
 refine ⟨[], ?_⟩
 conv => arg 1; cbv
 simp (maxSteps := 4000000) only [P_vc, P_br, P_and, P_fin, V_nil, V_one, V_cons, T_self, castK, succK, Int.toNat_natCast, predK, decide_eq_true_eq, decide_eq_false_iff_not, List.map_cons, List.map_nil, cond_true, cond_false]
 first | trivial | exact ⟨rfl, rfl⟩ | rfl
end Go.Proofs.YtfdjcakgolenbaaGreat
