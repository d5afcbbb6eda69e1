/-
  Contracts of ship: Find.
-/
import Derived.Test.YtfdjcakgolenbaaGreatMu40
set_option linter.unusedVariables false
set_option linter.unusedSimpArgs false
namespace Go.Proofs.YtfdjcakgolenbaaGreat
open Go.RowKit
def colIs (bay row : Int) (deck : Bool) (c : Col) : Bool := decide (c.bay = bay) && (decide (c.row = row) && decide (c.deck = deck))
def toFBIB (f : FuncId) : AV → Option (Unit → Int × Int × Bool)
 | .fn g [.pto [.int .i64 a] 0, .pto [.int .i64 b] 0, .pto [.bool c] 0] => if g = f then some fun _ => (a (), b (), c ()) else none
 | _ => none
def conColIs : Con := ⟨121, [.agg colSg, .pto [.int .i64], .pto [.int .i64], .pto [.bool]], fun
 | [x0, x1, x2, x3] => (x0.toCol).bind fun c => (x1.toPI).bind fun a => (x2.toPI).bind fun b => (x3.toPB).bind fun d => some ⟨fun _ => True, .bool fun _ => colIs (a ()) (b ()) (d ()) (c ())⟩
 | _ => none⟩
set_option maxRecDepth 100000 in
set_option maxHeartbeats 4000000 in
theorem conColIs_ok : ConOk Tryz.prog conColIs := by
 refine fnOk [] trivial Tryz.func121 (by kernel_rfl) fun avs res h hp => ?_
 simp only [conColIs] at h
 split at h
 case h_2 => cases h
 rename_i x0 x1 x2 x3
 simp only [Option.bind_eq_some_iff, Option.some.injEq] at h
 obtain ⟨c, e0, a, e1, b, e2, d, e3, rfl⟩ := h
 obtain rfl := AV.toCol_ e0
 obtain rfl := AV.toPI_ e1
 obtain rfl := AV.toPI_ e2
 obtain rfl := AV.toPB_ e3
 clear e0 e1 e2 e3
 obtain ⟨c, rfl⟩ := eta (α := Col) c
 obtain ⟨a, rfl⟩ := eta (α := Int) a
 obtain ⟨b, rfl⟩ := eta (α := Int) b
 obtain ⟨d, rfl⟩ := eta (α := Bool) d
 refine ⟨[], ?_⟩
 conv => arg 1; cbv
 simp (maxSteps := 4000000) only [P_vc, P_br, P_and, P_fin, V_nil, V_one, V_cons, T_self, castK, succK, Int.toNat_natCast, predK, decide_eq_true_eq, decide_eq_false_iff_not, List.map_cons, List.map_nil, cond_true, cond_false]
 unfold colIs
 grind
def placesK {α : Type} (p : α → Bool) (d : α) (l : List α) (k : Nat) : List Int := ((List.range k).filter fun j => p (l.getD j d)).map fun (j : Nat) => (j : Int)
theorem placesK_succ {α : Type} (p : α → Bool) (d : α) (l : List α) (k : Nat) : placesK p d l (k + 1) = placesK p d l k ++ cond (p (l.getD k d)) [(k : Int)] [] := by
 unfold placesK
 rw [List.range_succ, List.filter_append, List.map_append]
 congr 1
 cases h : p (l.getD k d) <;> simp [h, -List.getD_eq_getElem?_getD]
theorem placesK_len {α : Type} (p : α → Bool) (d : α) (l : List α) (k : Nat) : (placesK p d l k).length ≤ k := by
 unfold placesK
 rw [List.length_map]
 exact Nat.le_trans (List.length_filter_le _ _) (by simp)
def conChosen : Con := ⟨120, [.sl .col, .fn [.pto [.int .i64], .pto [.int .i64], .pto [.bool]]], fun
 | [x0, .fn g [.pto [.int .i64 a] 0, .pto [.int .i64 b] 0, .pto [.bool d] 0]] => (x0.toCols).bind fun l => if g = 121 then some ⟨fun _ => (l ()).length ≤ 1000000, .sl true .int fun _ => placesK (colIs (a ()) (b ()) (d ())) Tc.col.dflt (l ()) (l ()).length⟩ else none
 | _ => none⟩
def lpChosen (l : List Col) (p : Col → Bool) : Lp where
 X := Nat
 ov k := [(10, .int .i64 fun _ => (k : Int)), (5, .own 0)]
 oe k := [(0, .row true .int 3 fun _ => placesK p Tc.col.dflt l k)]
 I k := k ≤ l.length
 μ k _ := l.length - k
 x0 := 0
 nx := some fun k => k + 1
set_option maxRecDepth 100000 in
set_option maxHeartbeats 4000000 in
theorem conChosen_ok : ConOk Tryz.prog conChosen := by
 refine fnOk [conColIs] ⟨conColIs_ok, trivial⟩ Tryz.func120 (by kernel_rfl) fun avs res h hp => ?_
 simp only [conChosen] at h
 split at h
 case h_2 => cases h
 rename_i x0 g a b d
 simp only [Option.bind_eq_some_iff] at h
 obtain ⟨l, e0, h⟩ := h
 split at h
 case isFalse => cases h
 rename_i hg
 subst hg
 cases h
 obtain rfl := AV.toCols_ e0
 clear e0
 obtain ⟨l, rfl⟩ := eta (α := List Col) l
 obtain ⟨a, rfl⟩ := eta (α := Int) a
 obtain ⟨b, rfl⟩ := eta (α := Int) b
 obtain ⟨d, rfl⟩ := eta (α := Bool) d
 have hl : l.length ≤ 1000000 := hp
 refine nameIt (colIs a b d) fun p hpp => ?_
 refine ⟨[(3, lpChosen l p)], ?_⟩
 conv => arg 1; cbv
 refine ⟨?_, fun (k : Nat) hk => ?_⟩
 · simp (maxSteps := 4000000) only [P_vc, P_br, P_and, P_fin, V_nil, V_one, V_cons, T_self, castK, succK, Int.toNat_natCast, predK, decide_eq_true_eq, decide_eq_false_iff_not, List.map_cons, List.map_nil, cond_true, cond_false]
   exact ⟨Nat.zero_le _, rfl, rfl⟩
 have hk' : k ≤ l.length := hk
 conv => arg 1; cbv
 simp (maxSteps := 4000000) only [P_vc, P_br, P_and, P_fin, V_nil, V_one, V_cons, T_self, castK, succK, Int.toNat_natCast, predK, decide_eq_true_eq, decide_eq_false_iff_not, List.map_cons, List.map_nil, cond_true, cond_false]
 simp only [hpp, col_eta]
 have hlen := placesK_len p Tc.col.dflt l k
 have hsu := placesK_succ p Tc.col.dflt l k
 refine ⟨fun g1 => ?_, fun g1 => ?_⟩
 · have hlt : k < l.length := by omega
   refine ⟨by omega, trivial, fun h => ?_, fun h => ?_⟩
   · rw [h, cond_true] at hsu
     exact ⟨by simp only [List.length_cons, List.length_nil]; omega, ⟨by omega, by omega⟩, ⟨hlt, by omega⟩, by omega, hsu.symm⟩
   · rw [h, cond_false, List.append_nil] at hsu
     exact ⟨⟨by omega, by omega⟩, ⟨hlt, by omega⟩, by omega, hsu.symm⟩
 · rw [show k = l.length by omega]
def findC (cs : List Col) (a b : Int) (d : Bool) : List Int := placesK (colIs a b d) Tc.col.dflt cs cs.length
def conFindCol : Con := ⟨80, [.agg shipSg, .int .i64, .int .i64, .bool], fun
 | [x0, x1, x2, x3] => (x0.toShip).bind fun s => (x1.toI).bind fun a => (x2.toI).bind fun b => (x3.toB).bind fun d => some ⟨fun _ => (s ()).cols.length ≤ 1000000, .tup [.int .i64 fun _ => (findC (s ()).cols (a ()) (b ()) (d ())).headD 0, .bool fun _ => !(findC (s ()).cols (a ()) (b ()) (d ())).isEmpty]⟩
 | _ => none⟩
set_option maxRecDepth 100000 in
set_option maxHeartbeats 4000000 in
theorem conFindCol_ok : ConOk Tryz.prog conFindCol := by
 refine fnOk [conChosen] ⟨conChosen_ok, trivial⟩ Tryz.func80 (by kernel_rfl) fun avs res h hp => ?_
 simp only [conFindCol] at h
 split at h
 case h_2 => cases h
 rename_i x0 x1 x2 x3
 simp only [Option.bind_eq_some_iff, Option.some.injEq] at h
 obtain ⟨s, e0, a, e1, b, e2, d, e3, rfl⟩ := h
 obtain rfl := AV.toShip_ e0
 obtain rfl := AV.toI_ e1
 obtain rfl := AV.toI_ e2
 obtain rfl := AV.toB_ e3
 clear e0 e1 e2 e3
 obtain ⟨s, rfl⟩ := eta (α := Shp) s
 obtain ⟨a, rfl⟩ := eta (α := Int) a
 obtain ⟨b, rfl⟩ := eta (α := Int) b
 obtain ⟨d, rfl⟩ := eta (α := Bool) d
 have hl : s.cols.length ≤ 1000000 := hp
 refine ⟨[], ?_⟩
 conv => arg 1; cbv
 refine nameIt (findC s.cols a b d) fun L hL => ?_
 simp (maxSteps := 4000000) only [P_vc, P_br, P_and, P_fin, V_nil, V_one, V_cons, T_self, castK, succK, Int.toNat_natCast, predK, decide_eq_true_eq, decide_eq_false_iff_not, List.map_cons, List.map_nil, cond_true, cond_false]
 have hL' : placesK (colIs a b d) Tc.col.dflt s.cols s.cols.length = L := hL
 simp only [hL', hL]
 cases L with
 | nil => simp [hl]
 | cons x L => simp [hl]; omega
def hvL (c t : Nat) (sz : Int) : List Slot := (halvesF sz).map fun h => ⟨(c : Int), (t : Int), h⟩
def tierL (c : Nat) (sz : Int) : Nat → List Slot
 | 0 => []
 | t + 1 => tierL c sz t ++ hvL c t sz
def slotL (ts : List Int) (sz : Int) : Nat → List Slot
 | 0 => []
 | c + 1 => slotL ts sz c ++ tierL c sz (ts.getD c 0).toNat
theorem hvL_len (c t : Nat) (sz : Int) : (hvL c t sz).length = (halvesF sz).length := by simp [hvL]
theorem tierL_len (c : Nat) (sz : Int) : ∀ t, (tierL c sz t).length ≤ 2 * t
 | 0 => Nat.le_refl _
 | t + 1 => by
  unfold tierL
  rw [List.length_append, hvL_len]
  have := tierL_len c sz t
  have := halvesF_len sz
  omega
theorem slotL_len (ts : List Int) (sz : Int) (hts : ∀ t ∈ ts, t ≤ 1000) : ∀ c, (slotL ts sz c).length ≤ 2000 * c
 | 0 => Nat.le_refl _
 | c + 1 => by
  unfold slotL
  rw [List.length_append]
  have h1 := slotL_len ts sz hts c
  have h2 := tierL_len c sz (ts.getD c 0).toNat
  have h3 : (ts.getD c 0).toNat ≤ 1000 := by
   by_cases hc : c < ts.length
   · have := hts _ (getD_mem 0 hc)
     omega
   · rw [List.getD_eq_getElem?_getD, List.getElem?_eq_none (by omega)]
     simp
  omega
theorem tierL_more (c t : Nat) (sz : Int) {h : Nat} (hh : h < (halvesF sz).length) : tierL c sz t ++ (hvL c t sz).take h ++ [⟨(c : Int), (t : Int), (halvesF sz).getD h 0⟩] = tierL c sz t ++ (hvL c t sz).take (h + 1) := by
 rw [List.append_assoc]
 congr 1
 rw [List.take_add_one, hvL, List.getElem?_map, List.getElem?_eq_getElem hh, List.getD_eq_getElem?_getD, List.getElem?_eq_getElem hh]
 rfl
theorem slot_halvesB (size : Int) (w : World) : Calls Tryz.prog 152 #[.int .u8 size] w fun e w' => ∃ A c, e = .returned (.slice A (halvesF size).length c) ∧ Rd w' w'.heap.size 1 A ((halvesF size).map u8Row) ∧ (∀ a, A = some a → ∃ cur, w'.heap[a.block]? = some (.cells cur 5 (0, 0))) ∧ From w w' := by
 by_cases h4 : size = 40
 · subst h4
   go_enter Tryz.func152, Tryz.ntmps152
   go_wp2
   go_ret
   exact ⟨_, _, rfl, Rd.rows (css := [[.int .u8 0]]) (heap_alloc_new w _) rfl (by simp), fun a e => by cases e; exact ⟨_, heap_alloc_new w _⟩, (Below.refl _ _).alloc (Nat.le_refl _) _⟩
 · by_cases h2 : size = 20
   · subst h2
     go_enter Tryz.func152, Tryz.ntmps152
     go_wp2
     go_ret
     exact ⟨_, _, rfl, Rd.rows (css := [[.int .u8 1], [.int .u8 2]]) (heap_alloc_new w _) rfl (by simp), fun a e => by cases e; exact ⟨_, heap_alloc_new w _⟩, (Below.refl _ _).alloc (Nat.le_refl _) _⟩
   · have e : halvesF size = [] := by unfold halvesF; rw [if_neg h4, if_neg h2]
     have h4' : (size == 40) = false := by simpa using h4
     have h2' : (size == 20) = false := by simpa using h2
     rw [e]
     go_enter Tryz.func152, Tryz.ntmps152
     go_wp2
     go_ret
     exact ⟨none, 0, rfl, Rd.nil _ _ _ _, (fun a e => nomatch e), Below.refl _ _⟩
theorem slots_in (v : Value) (vs : Array Value) (hv : v = .agg vs) (sz : Int) (w : World) : Calls Tryz.prog 122 #[v, .int .u8 sz] w fun e w' => e = .returned (.func (.func 151) #[] #[.pointer (some ⟨w.heap.size, 0, none⟩), .pointer (some ⟨w.heap.size + 1, 0, none⟩)]) ∧ w' = (w.alloc (.cells vs 32 (0, 0))).alloc (.cells #[.int .u8 sz] 5 (0, 0)) := by
 subst hv
 go_enter Tryz.func122, Tryz.ntmps122
 go_wp2
 go_ret
 exact ⟨rfl, rfl⟩
open Go.Shelf
attribute [local go_sem] Oper.semAt_some
def sloVals (x : Slot) : Array Value := #[x.val]
def SloKp (n0 : Nat) (W W' : World) : Prop := Below n0 W W' ∧ ∀ (b : Nat) cur, W.heap[b]? = some (.cells cur 5 (0, 0)) → W'.heap[b]? = some (.cells cur 5 (0, 0))
theorem SloKp.trans {n0 : Nat} {A B C : World} (h : SloKp n0 A B) (k : SloKp n0 B C) : SloKp n0 A C := ⟨h.1.trans k.1, fun b cur hb => k.2 b cur (h.2 b cur hb)⟩
theorem SloKp.from {n0 : Nat} {A B : World} (h : From A B) (hn : n0 ≤ A.heap.size) : SloKp n0 A B := ⟨h.mono hn, fun b cur hb => (h.block b (Array.getElem?_eq_some_iff.1 hb).1).trans hb⟩
theorem colRow12 : IsRow Tryz.prog 47 12 := ⟨_, Tryz.underlying47, by kernel_rfl, by kernel_rfl⟩
theorem col_size12 : (Tryz.prog.info? 47).map (·.size) = some 12 := by kernel_rfl
theorem grow_of_from {A B : World} (h : From A B) : A.grownBy B none := ⟨h.os, h.tape, h.output, h.size, fun k hk _ => h.block k hk⟩
set_option maxRecDepth 100000 in
set_option maxHeartbeats 2000000 in
theorem slots_told (n0 Bs Bz nc cc : Nat) (A : Option Addr) (sz : Int) (css : List (List Value)) (ts : List Int) (w : World) (hn0 : n0 ≤ w.heap.size) (hs : w.cell? ⟨Bs, 0, none⟩ = some (.slice A nc cc)) (hbs : Bs < w.heap.size) (hz : w.heap[Bz]? = some (.cells #[.int .u8 sz] 5 (0, 0)))
 (hrd : Rd w n0 12 A css) (hlc : css.length = nc) (hlt : ts.length = nc) (hnc : nc ≤ 1000) (hts : ∀ t ∈ ts, 0 ≤ t ∧ t ≤ 1000) (hone : ∀ cs ∈ css, ∀ u ∈ cs, u.oneCell' = true) (hcs : ∀ k cs, css[k]? = some cs → ∃ v0 v1 v2 v4 v5 v6 v7 v8 v9 v10 v11 : Value, cs = [v0, v1, v2, .int .i64 (ts.getD k 0), v4, v5, v6, v7, v8, v9, v10, v11]) :
 SeqStopsK Fence.wide 2 Tryz.prog 151 #[.pointer (some ⟨Bs, 0, none⟩), .pointer (some ⟨Bz, 0, none⟩)] sloVals (SloKp n0) (fun xs => xs = slotL ts sz nc) (fun _ => True) 3000000 w := fun lp J Jx W hW hJ hJx hY h0 => by
 refine callsIn_of_wp Tryz.func151 rfl trivial ?_ rfl
 simp only [Tryz.ntmps151, List.size_toArray, List.length_cons, List.length_nil, Nat.reduceAdd, Nat.reduceSub, Array.replicate_succ, Array.replicate_zero, List.push_toArray, List.append_toArray, List.nil_append, List.cons_append]
 have hJF : ∀ pre W1 W2, J pre W1 → From W1 W2 → J pre W2 := fun pre W1 W2 h1 h2 => hJ pre W1 W2 none h1 (grow_of_from h2) (fun r e => nomatch e)
 have hs1 : W.cell? ⟨Bs, 0, none⟩ = some (.slice A nc cc) := (hW.cell (p := ⟨Bs, 0, none⟩) hbs).trans hs
 have hz1 : W.heap[Bz]? = some (.cells #[.int .u8 sz] 5 (0, 0)) := (hW.block Bz (Array.getElem?_eq_some_iff.1 hz).1).trans hz
 have hrd1 : Rd W n0 12 A css := hrd.below (hW.mono hn0) (Nat.le_refl _)
 have hn1 : n0 ≤ W.heap.size := Nat.le_trans hn0 hW.size
 clear hs hz hrd hW
 refine wpIn_wide.2 ?_
 go_wp2
 go_loopw [12] (fun cv wr => ∃ c : Nat, c ≤ nc ∧ cv = .int .i64 c ∧ J (slotL ts sz c) wr ∧ SloKp n0 W wr ∧ W.heap.size ≤ wr.heap.size) (fun cv _ => nc - (intOf cv).toNat)
 case atStart => exact ⟨0, Nat.zero_le _, rfl, h0, ⟨Below.refl _ _, fun b cur h => h⟩, Nat.le_refl _⟩
 case round =>
  obtain ⟨c, hc, rfl, hJc, hK, hsz⟩ := hrel
  by_cases hlt1 : c = nc
  · subst hlt1
    clear hY
    go_wp2
    go_end0
    exact ⟨⟨_, rfl⟩, .inl ⟨_, rfl, hJc⟩⟩
  · have hlt2 : (c : Int) < (nc : Int) := by omega
    have hcc : c < css.length := by omega
    obtain ⟨v0, v1, v2, v4, v5, v6, v7, v8, v9, v10, v11, hcv⟩ := hcs c css[c] (List.getElem?_eq_getElem hcc)
    obtain ⟨g, off, rfl, hg, HLD0⟩ := Rd.ld colRow12 hrd1 (List.getElem?_eq_getElem hcc)
    have HLD := HLD0 wr hK.1
    rw [hcv] at HLD
    have htc := hts (ts.getD c 0) (getD_mem 0 (by omega))
    have hsu : slotL ts sz (c + 1) = slotL ts sz c ++ tierL c sz (ts.getD c 0).toNat := rfl
    obtain ⟨T, hT⟩ : ∃ T : Nat, ts.getD c 0 = (T : Int) := ⟨(ts.getD c 0).toNat, by omega⟩
    rw [hT] at HLD hsu htc
    clear hcs HLD0
    have HM0 := Lib.hid ((Mem.nil wr).alloc 47 [.int .i64 0, .int .i64 0, .bool false, .int .i64 0, .int .i64 0, .int .i64 0, .int .i64 0, .int .i64 0, .slice none 0 0, .int .i64 0, .int .i64 0, .int .i64 0])
    have h1c := hone _ (List.getElem_mem hcc)
    rw [hcv] at h1c
    rw [hT] at h1c
    go_wp2_with (first
     | ((with_reducible refine g_ld 47 ?_); refine wpList_ld rfl _ _ rfl _ rfl _ HLD ?_)
     | ((with_reducible refine g_st 47 ?_); refine wpList_stB (cs' := [v0, v1, v2, .int .i64 T, v4, v5, v6, v7, v8, v9, v10, v11]) rfl _ _ rfl HM0.out 0 rfl rfl rfl col_size12 rfl rfl rfl h1c ?_; intro w6 h6; have HM1 := Lib.hid h6; clear h6)
     | ((with_reducible refine g_ld 3 ?_); refine wpList_ld rfl _ _ rfl _ rfl _ (HM1.out.ldc ct3 (i := 0) rfl rfl _ (Below.refl _ _)) ?_))
    have hf1 : From wr w6 := HM1.out.from_
    have hJ6 := hJF _ _ _ hJc hf1
    have hK6 := hK.trans (SloKp.from hf1 (Nat.le_trans hn1 hsz))
    have hs6 : W.heap.size ≤ w6.heap.size := Nat.le_trans hsz hf1.size
    clear HM1 HM0 HLD h1c hf1 hone hrd1
    go_loopw [20] (fun tv wq => ∃ t : Nat, t ≤ T ∧ tv = .int .i64 t ∧ J (slotL ts sz c ++ tierL c sz t) wq ∧ SloKp n0 W wq ∧ W.heap.size ≤ wq.heap.size) (fun tv _ => T - (intOf tv).toNat)
    case atStart => exact ⟨0, Nat.zero_le _, rfl, by rw [show tierL c sz 0 = [] from rfl, List.append_nil]; exact hJ6, hK6, hs6⟩
    case round =>
     obtain ⟨t, ht, rfl, hJt, hKt, hst⟩ := hrel
     by_cases hlt3 : t = T
     · subst hlt3
       clear hY
       go_wp2
       go_roundw
       case rel => exact ⟨c + 1, by omega, by simp, by rw [hsu]; simpa using hJt, hKt, hst⟩
       case measure => simp [intOf]; omega
     · have hlt4 : (t : Int) < (T : Int) := by omega
       have hzc : wr.cell? ⟨Bz, 0, none⟩ = some (.int .u8 sz) := by
        have := hKt.2 Bz _ hz1
        simp [World.cell?, this]
       have hsv : tierL c sz (t + 1) = tierL c sz t ++ hvL c t sz := rfl
       go_wp2_with (go_at_call 152; refine (slot_halvesB sz _).mono ?_; rintro e w7 ⟨A2, c2, rfl, hr7, hb7, hf7⟩)
       have hJ7 := hJF _ _ _ hJt hf7
       have hn2 : n0 ≤ wr.heap.size := Nat.le_trans hn1 hst
       have hK7 := hKt.trans (SloKp.from hf7 hn2)
       have hs7 : W.heap.size ≤ w7.heap.size := Nat.le_trans hst hf7.size
       obtain ⟨H, hH⟩ : ∃ H, H = (halvesF sz).length := ⟨_, rfl⟩
       have hH2 : H ≤ 2 := by rw [hH]; exact halvesF_len sz
       rw [← hH]
       have hcl := slotL_len ts sz (fun t h => (hts t h).2) c
       have htl := tierL_len c sz t
       clear hzc hKt hJt hf7 hst hn2
       go_loopw [26] (fun hv wh => ∃ h : Nat, h ≤ H ∧ hv = .int .i64 h ∧ J (slotL ts sz c ++ (tierL c sz t ++ (hvL c t sz).take h)) wh ∧ SloKp n0 W wh ∧ W.heap.size ≤ wh.heap.size ∧ SloKp n0 w7 wh) (fun hv _ => H - (intOf hv).toNat)
       case atStart => exact ⟨0, Nat.zero_le _, rfl, by rw [List.take_zero, List.append_nil]; exact hJ7, hK7, hs7, ⟨Below.refl _ _, fun b cur h => h⟩⟩
       case round =>
        obtain ⟨h, hh, rfl, hJh, hKh, hsh, hk7⟩ := hrel
        by_cases hlt5 : h = H
        · have hfull : (hvL c t sz).take h = hvL c t sz := List.take_of_length_le (by rw [hvL_len]; omega)
          rw [hfull, ← hsv] at hJh
          subst hlt5
          clear hY
          go_wp2
          go_roundw
          case rel => exact ⟨t + 1, by omega, by simp, hJh, hKh, hsh⟩
          case measure => simp [intOf]; omega
        · have hlt6 : (h : Int) < (H : Int) := by omega
          have hhl : h < (halvesF sz).length := by omega
          obtain ⟨g2, o2, hA2, hg2, _, hcell⟩ := hr7 h _ (by rw [List.getElem?_map, List.getElem?_eq_getElem hhl]; rfl)
          obtain ⟨x, hx⟩ : ∃ x, x = (halvesF sz).getD h 0 := ⟨_, rfl⟩
          subst hA2
          obtain ⟨cur, hcur⟩ := hb7 _ rfl
          have hcx : wr.cell? ⟨g2, o2 + h, none⟩ = some (.int .u8 x) := by
           have h1 := hcell 0 _ rfl
           have h2 := hk7.2 g2 cur hcur
           rw [cell_same (w := w7) (w' := wr) (by rw [h2]; exact hcur.symm)]
           rw [hx, List.getD_eq_getElem?_getD, List.getElem?_eq_getElem hhl]
           simpa using h1
          have hmore := tierL_more c t sz hhl
          rw [← hx] at hmore
          obtain ⟨fn, tmps, assign, body, hy, hR⟩ := hY _ ⟨(c : Int), (t : Int), x⟩ wr hJh (by
           rw [List.length_append, List.length_append, List.length_take, hvL_len]
           omega)
          unfold sloVals Slot.val at hy
          clear hY hJF hcell hr7 hb7 hx hH
          go_upto_region 9 with fail
          refine (wpIn_wide (n := 2)).1 ?_
          gi_wp2
          refine hR.mono ?_
          rintro e W3 (⟨rfl, hJ3, hk3⟩ | ⟨rfl, hJx3⟩)
          · rw [List.append_assoc, hmore] at hJ3
            clear hJx hJ hJh hR hy
            gi_wp2
            go_wp2
            go_roundw
            case rel => exact ⟨h + 1, by omega, by simp, hJ3, hKh.trans hk3, Nat.le_trans hsh hk3.1.size, hk7.trans hk3⟩
            case measure => simp [intOf]; omega
          · clear hJx hJ hJh hR hy
            gi_wp2
            go_wp2
            refine bodyPost_ret (results_none rfl _ _ _) rfl ?_
            exact ⟨⟨_, rfl⟩, .inr ⟨_, trivial, hJx3⟩⟩
end Go.Proofs.YtfdjcakgolenbaaGreat
namespace Go.Proofs.YtfdjcakgolenbaaGreat
open Go.RowKit
section
variable {F : Fence} {n : Nat} {P : Program} {w w' : World} {ops : Array Oper} {rest : List Oper} {o : Oper} {a : Act} {Q : Exit → Act → World → Prop} {v : Value}
theorem wpListIn_ld (hgd : o.guard = none) (T : Nat) (x : Operand) (ho : o.op = .load T x) (ad : Addr) (hx : a.eval x = .pointer (some ad)) (v : Value) (hld : (loadVar T ad).run P w = .ok v w)
 (h : wpListIn F n P ops Q rest (a.put o.dst v) w) : wpListIn F n P ops Q (o :: rest) a w := by
 refine wpListIn_plain hgd fun K hK => ?_
 unfold Oper.wpIn
 refine ⟨fun f hf => by simp [Oper.about, ho] at hf, ?_⟩
 rw [Oper.semAt_plain F _ _ (by rw [ho]; intro c hc; cases hc)]
 unfold execOp
 simp only [ho, hx, Instr.loadAt, Instr.sureAddr, Sem.run_bind, Sem.run_pure, Result.andThen_ok, hld]
 exact hK _ _ h
theorem wpListIn_stB {w0 : World} {M : List Ent} {T g m : Nat} {cs cs' : List Value} (hgd : o.guard = none) (x y : Operand) (ho : o.op = .store T x y) (H : Mem w0 w M) (i : Nat) (hi : M[i]? = some (.box g T cs))
 (hx : a.eval x = .pointer (some ⟨g, 0, .none⟩)) (hy : a.eval y = v) (hsz : (P.info? T).map (·.size) = some m) (hv : v.cells.toList = cs') (hl' : cs'.length = m) (hl : cs.length = m) (h1 : ∀ u ∈ cs', u.oneCell' = true)
 (h : ∀ w', Mem w0 w' (M.set i (.box g T cs')) → w.grownBy w' (some g) → wpListIn F n P ops Q rest (a.put o.dst undef) w') : wpListIn F n P ops Q (o :: rest) a w := by
 have hg := H.cells hi
 have hr := run_store_cells (P := P) (off := 0) hsz hv hl' hg (by simp [hl]) h1
 refine wpListIn_plain hgd fun K hK => ?_
 unfold Oper.wpIn
 refine ⟨fun f hf => by simp [Oper.about, ho] at hf, ?_⟩
 rw [Oper.semAt_plain F _ _ (by rw [ho]; intro c hc; cases hc)]
 unfold execOp
 simp only [ho, hx, hy, Instr.storeAt, Instr.sureAddr, Sem.run_bind, Sem.run_pure, Result.andThen_ok, hr]
 have hgr : w.grownBy (w.setRow g (List.take 0 cs.toArray.toList ++ cs' ++ List.drop (0 + m) cs.toArray.toList).toArray) (some g) := ⟨rfl, rfl, rfl, by simp, fun k _ hk => setRow_other w g k _ (fun e => hk (by simp [e]))⟩
 refine hK _ _ (h _ (H.put i _ hi hgr ⟨(H.boxlt hi).1, ?_⟩ (.inl rfl)) hgr)
 rw [setRow_heap w g _ _ T _ hg]
 simp [hl, hl']
theorem wpListIn_append_M {w0 : World} {M : List Ent} {t e size bytes c m cn : Nat} {A X : Option Addr} {css news : List (List Value)} (hgd : o.guard = none) (s x : Operand)
 (ho : o.op = .call { callee := .builtin .append, args := #[s, x], argTypes := #[t, t] })
 (hE : EI P t e size bytes) (n' : Nat) (hn : n' = css.length) (hs : a.eval s = .slice A n' c) (H : Mem w0 w M) (i : Nat) (hi : M[i]? = some (.row e size A c css)) (hx : a.eval x = .slice X m cn) (hr : Rd w w.heap.size size X news) (hm : m = news.length)
 (h1 : ∀ cs ∈ news, ∀ u ∈ cs, u.oneCell' = true) (h63 : css.length + m ≤ maxLen) (hbytes : (css.length + m) * bytes ≤ 140737488355328)
 (h : ∀ A' c' w', Mem w0 w' (M.set i (.row e size A' c' (css ++ news))) → w.grownBy w' (A.map (·.block)) → wpListIn F n P ops Q rest (a.put o.dst (.slice A' (css ++ news).length c')) w') : wpListIn F n P ops Q (o :: rest) a w := by
 subst hn
 obtain ⟨A', c', w', hrun, h2, h3, h5⟩ := run_append_at (P := P) (ty := o.type) (cn := cn) hE (H.own hi) w.heap.size hr hm h1 h63 hbytes H.from_.size
 refine wpListIn_plain hgd fun K hK => ?_
 unfold Oper.wpIn
 refine ⟨fun f hf => by simp [Oper.about, ho, resolve, Target.leads, Sem.run_pure] at hf, ?_⟩
 rw [Oper.semAt_plain F _ _ (by rw [ho]; intro c hc; cases hc)]
 unfold execOp
 simp only [ho, resolve, invoke, builtin, Sem.run_bind, Sem.run_pure, Result.andThen_ok, List.map_toArray, List.map_cons, List.map_nil, hs, hx, hrun]
 refine hK _ _ (h A' c' w' (H.put i _ hi h3 h2 ?_) h3)
 rcases h5 with h5 | h5
 · exact .inl h5
 · exact .inr fun b hb => by rw [show (Ent.row e size A' c' (css ++ news)).blk = A'.map (·.block) from rfl, h5.1] at hb; injection hb with hb; omega
end
theorem Ent.iscells {w : World} {base b : Nat} {e : Ent} (h : e.ok w base) (hb : e.blk = some b) (hro : ∀ s A css, e ≠ .ro s A css) : ∃ o : Obj, w.heap[b]? = some o ∧ o.isCells = true := by
 cases e with
 | row T size A c css =>
  obtain ⟨q, hq, rfl⟩ := Option.map_eq_some_iff.1 hb
  subst hq
  rcases h.1.2 with ⟨h2, _⟩ | ⟨g, cap, cur, h2, _, h4, _⟩
  · cases h2
  · injection h2 with h2
    injection h2 with h2
    subst h2
    exact ⟨_, h4, rfl⟩
 | box g T cs =>
  injection hb with hb
  subst hb
  exact ⟨_, h.2, rfl⟩
 | ro size A css => exact absurd rfl (hro size A css)
def Ent.typ : Ent → Nat
 | .row T _ _ _ _ => T
 | .box _ T _ => T
 | .ro _ _ _ => 0
theorem Ent.heap {w : World} {base b : Nat} {e : Ent} (h : e.ok w base) (hb : e.blk = some b) (hro : ∀ s A css, e ≠ .ro s A css) : ∃ cur, w.heap[b]? = some (.cells cur e.typ (0, 0)) := by
 cases e with
 | row T size A c css =>
  obtain ⟨q, hq, rfl⟩ := Option.map_eq_some_iff.1 hb
  subst hq
  rcases h.1.2 with ⟨h2, _⟩ | ⟨g, cap, cur, h2, _, h4, _⟩
  · cases h2
  · injection h2 with h2
    injection h2 with h2
    subst h2
    exact ⟨_, h4⟩
 | box g T cs =>
  injection hb with hb
  subst hb
  exact ⟨_, h.2⟩
 | ro size A css => exact absurd rfl (hro size A css)
theorem Mem.step {w0 w w' : World} {M : List Ent} (h : Mem w0 w M) {i : Nat} {e : Ent} (hi : M[i]? = some e) (hro : ∀ s A css, e ≠ .ro s A css) (hg : w.grownBy w' e.blk) :
 KeepsOthers w w' ∧ Below w0.heap.size w w' ∧ ∀ (T b : Nat) cur, T ≠ e.typ → w.heap[b]? = some (.cells cur T (0, 0)) → w'.heap[b]? = some (.cells cur T (0, 0)) := by
 have hok := h.ok _ (List.mem_of_getElem? hi)
 refine ⟨KeepsOthers.of_grownBy hg fun j o hj ho => ?_, (Below.refl _ _).grown hg h.from_.size fun k hk => (Ent.lt hok hk).1, fun T b cur hT hb => (hg.block b (Array.getElem?_eq_some_iff.1 hb).1 fun e1 => ?_).trans hb⟩
 · obtain ⟨o', ho', hc⟩ := Ent.iscells hok hj hro
   rw [ho] at ho'
   cases ho'
   exact hc
 · obtain ⟨cur', h1⟩ := Ent.heap hok e1.symm hro
   rw [hb] at h1
   cases h1
   exact hT rfl
theorem Mem.grown {w0 w w' : World} {M : List Ent} {row : Option Nat} (h : Mem w0 w M) (hro : ∀ e ∈ M, ∀ s A css, e ≠ .ro s A css) (hg : w.grownBy w' row) (hr : ∀ r, row = some r → w0.heap.size ≤ r ∧ ∃ o : Obj, w.heap[r]? = some o ∧ o.isCells = false) : Mem w0 w' M := by
 refine ⟨h.from_.grown hg h.from_.size fun k e => (hr k e).1, fun e he => Ent.keep (h.ok e he) fun b hb => ?_, h.apart⟩
 refine hg.block b (Ent.lt (h.ok e he) hb).2 fun e1 => ?_
 obtain ⟨o, ho, hc⟩ := (hr b e1.symm).2
 obtain ⟨o', ho', hc'⟩ := Ent.iscells (h.ok e he) hb (hro e he)
 rw [ho] at ho'
 cases ho'
 rw [hc] at hc'
 cases hc'
theorem grow_from {A B : World} (h : Below A.heap.size A B) : A.grownBy B none := ⟨h.os, h.tape, h.output, h.size, fun k hk _ => h.block k hk⟩
section
variable {F : Fence} {n : Nat} {P : Program} {α : Type}
theorem range_box {g : Operand} {ps : Array Tmp} {assign body : Code} {Q : Exit → Act → World → Prop} {a : Act} {w w0 : World} (hro : F.round = none) (h1 : 1 ≤ n) {gf : Nat} {lb : Array Value} (hg : a.eval g = .func (.func gf) #[] lb) (hFg : F.fn gf) (eg : ∀ args W, (callFunc gf args).run P W = .ok (.enter gf args) W)
 {encs : α → Array Value} {Kp : World → World → Prop} {S Sp : List α → Prop} {N : Nat} (hseq : SeqStopsK F (n - 1) P gf lb encs Kp S Sp N w0) (hKt : ∀ {A B C : World}, Kp A B → Kp B C → Kp A C)
 (hKb : ∀ (W : World) (l : Nat) (o o' : Obj), w.heap.size ≤ l → W.heap[l]? = some o → o.isCells = false → Kp W (W.putObj l o')) (hb0 : Below w0.heap.size w0 w) (hps : ∀ x, (encs x).size = ps.size)
 (I : List α → World → Prop) (hI : OwnFrom w.heap.size I) (hKf : ∀ pre W W1, I pre W → Below W.heap.size W W1 → Kp W W1) (h0 : I [] w) (box : α → Obj) (a₁ : Nat → α → Act)
 (hassign : ∀ (l : Nat) (x : α) (W : World) (K : Act → World → Prop), (∀ W1, Below W.heap.size W W1 → W1.heap[W.heap.size]? = some (box x) → K (a₁ W.heap.size x) W1) → assign.wpIn (F.inRound l) (n - 1 - 1) P (Exit.then K (fun _ _ _ => False)) { tmps := (ps.zip (encs x)).foldl (fun t (p, v) => t.setIfInBounds p v) a.tmps, defers := [] } W)
 (hbody : ∀ (l : Nat) (pre : List α) (x : α) (b : Nat) (W : World), I pre W → pre.length < N → W.heap[b]? = some (box x) → body.wpIn (F.inRound l) (n - 1 - 1) P (fun e _ W2 => e = .normal ∧ KeepsOthers W W2 ∧ Kp W W2 ∧ I (pre ++ [x]) W2) (a₁ b x) W)
 (hdone : ∀ (D : Nat) (xs : List α) (W : World), w.heap.size ≤ D → S xs → I xs W → W.heap[D]? = some (.deferred (some [])) → Q .normal { a with defers := { target := .collected D, args := #[] } :: a.defers } W) :
 (Code.rangeFunc g ps assign body).wpIn F n P Q a w := by
 refine wpIn_rangeFunc fun fn hfn => ?_
 rw [hro]
 obtain ⟨r, hr⟩ : ∃ r : Loop, r = { state := .ready, pending := none, fn := fn, tmps := a.tmps, params := ps, assign := assign, body := body, defers := w.heap.size } := ⟨_, rfl⟩
 have hent := run_enterLoop_outer (P := P) (w := w) fn a.tmps ps assign body
 rw [← hr] at hent
 have hl0 : ((w.alloc (.deferred (some []))).alloc (.loop r)).heap[w.heap.size + 1]? = some (.loop r) := by
  have := World.alloc_heap_new (w.alloc (.deferred (some []))) (.loop r)
  rwa [World.size_alloc] at this
 have hk0 : ((w.alloc (.deferred (some []))).alloc (.loop r)).heap[w.heap.size]? = some (.deferred (some [])) := (Below.heap_alloc _ _ _ (by simp)).trans (World.alloc_heap_new w _)
 have hi0 : I [] ((w.alloc (.deferred (some []))).alloc (.loop r)) := hI.alloc _ (hI.alloc _ h0)
 have hbw : Below w0.heap.size w0 ((w.alloc (.deferred (some []))).alloc (.loop r)) := hb0.trans ((((Below.refl _ w).alloc (Nat.le_refl _) _).alloc (by simp) _).mono hb0.size)
 have hsz0 : w.heap.size ≤ ((w.alloc (.deferred (some []))).alloc (.loop r)).heap.size := by simp; omega
 generalize (w.alloc (.deferred (some []))).alloc (.loop r) = W0 at *
 refine ⟨w.heap.size + 1, [{ target := .collected w.heap.size, args := #[] }], W0, { target := .fn (.func gf) lb, args := #[.func (.yield (w.heap.size + 1)) #[] #[]] }, W0, gf, #[.func (.yield (w.heap.size + 1)) #[] #[]] ++ lb, W0, hent, ?_, ?_, ?_, fun _ => h1, ?_⟩
 · simp only [resolve, hg]
   simp [go_sem]
 · intro f' hf'
   simp [Target.leads] at hf'
   rw [← hf']
   exact hFg
 · simp [invoke, go_sem, eg]
 · have hnw : ∀ {A B : World} {row : Option Nat}, (∀ r, row = some r → W0.heap.size ≤ r ∧ ∃ o : Obj, A.heap[r]? = some o ∧ o.isWalk = true) → (∀ r, row = some r → w.heap.size ≤ r ∧ ∃ o : Obj, A.heap[r]? = some o ∧ o.isCells = false) :=
    fun hr r e => by obtain ⟨hB, o, ho, hw⟩ := hr r e; exact ⟨by omega, o, ho, Obj.not_cells_of_walk hw⟩
   refine (hseq (w.heap.size + 1) (fun pre W => I pre W ∧ W.heap[w.heap.size + 1]? = some (.loop r) ∧ W.heap[w.heap.size]? = some (.deferred (some []))) (fun _ _ => False) W0 hbw
    (fun s A B row hs hg' hr' => ⟨hI s A B row hs.1 hg' (hnw (B := B) hr'), (grownBy_keeps hg' (fun r e => (hr' r e).2) hs.2.1 rfl).trans hs.2.1, (grownBy_keeps hg' (fun r e => (hr' r e).2) hs.2.2 rfl).trans hs.2.2⟩)
    (fun s A B row hs hg' hr' => hs) ?_ ⟨hi0, hl0, hk0⟩).mono ?_
   · rintro pre x W ⟨hi, hl, hk⟩ hlen
     have hlt : w.heap.size + 1 < W.heap.size := (Array.getElem?_eq_some_iff.1 hl).1
     have hy := run_yield (P := P) (args := encs x) hl (by rw [hr]; exact hps x)
     rw [hr] at hy
     refine ⟨fn, _, assign, body, hy, roundIn_of_wpIn hfn (hassign _ x W _ fun W1 hf hbx => ?_)⟩
     have hl1 : W1.heap[w.heap.size + 1]? = some (.loop r) := (hf.block _ hlt).trans hl
     have hk1 : W1.heap[w.heap.size]? = some (.deferred (some [])) := (hf.block _ (by omega)).trans hk
     have hi1 : I pre W1 := hI _ _ _ none hi (grow_from hf) (fun _ e => nomatch e)
     have hlt1 := (Array.getElem?_eq_some_iff.1 hl1).1
     refine ⟨_, run_beginRound hl1 (by rw [hr]), ?_⟩
     have hl2 : (W1.putObj (w.heap.size + 1) (.loop { r with state := .busy })).heap[w.heap.size + 1]? = some (.loop { r with state := .busy }) := World.putObj_heap_same hlt1
     have hk2 : (W1.putObj (w.heap.size + 1) (.loop { r with state := .busy })).heap[w.heap.size]? = some (.deferred (some [])) := (World.putObj_heap_other (by omega)).trans hk1
     have hb2 : (W1.putObj (w.heap.size + 1) (.loop { r with state := .busy })).heap[W.heap.size]? = some (box x) := (World.putObj_heap_other (by omega)).trans hbx
     have hkp : Kp W (W1.putObj (w.heap.size + 1) (.loop { r with state := .busy })) := hKt (hKf _ _ _ hi hf) (hKb _ _ _ _ (by omega) hl1 rfl)
     refine wpIn_mono (hbody _ pre x _ _ (hI.putObj _ hi1 (by omega) hl1 rfl) hlen hb2) ?_
     rintro e a3 W3 ⟨rfl, hk3, hkp3, hi3⟩
     have hl3 := hk3.same _ _ hl2 rfl
     have hlt3 := (Array.getElem?_eq_some_iff.1 hl3).1
     refine ⟨_, _, run_endRound (P := P) none hl3, .inl ⟨rfl, ⟨hI.putObj _ hi3 (by omega) hl3 rfl, ?_, ?_⟩, hKt (hKt hkp hkp3) (hKb _ _ _ _ (by omega) hl3 rfl)⟩⟩
     · rw [World.putObj_heap_same hlt3, hr]
       rfl
     · exact (World.putObj_heap_other (by omega)).trans (hk3.same _ _ hk2 rfl)
   · rintro e W2 ⟨⟨v, rfl⟩, ⟨xs, hS, hi, hl, hk⟩ | ⟨pre, _, h⟩⟩
     · have hpend : r.pending = none := by rw [hr]
       have hel := run_endLoop (P := P) hl (by rw [hr]; simp)
       rw [hpend] at hel
       exact ⟨none, _, hel, hdone _ xs _ (Nat.le_refl _) hS (hI.putObj _ hi (by omega) hl rfl) ((World.putObj_heap_other (by omega)).trans hk)⟩
     · exact h.elim
end
end Go.Proofs.YtfdjcakgolenbaaGreat
