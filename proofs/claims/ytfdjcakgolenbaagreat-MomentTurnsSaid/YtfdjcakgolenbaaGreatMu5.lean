/-
  slices.Backward over a number of frac: its contract, for every body that keeps what is still to come.
-/
import Derived.Test.YtfdjcakgolenbaaGreatMu4
import Derived.RangeFuncBound
import Derived.RangeFuncCalls
import Derived.RangeFuncLeaves
import Derived.Shelf.Abstract
import Derived.Shelf.RegionOpen
import Derived.OwnWalkIn
import Derived.TacticsInMore
import Derived.LoopNIn
import Derived.LoopIn
import Derived.Lib.SliceRun
set_option linter.unusedVariables false
set_option linter.unusedSimpArgs false
namespace Go.Proofs.YtfdjcakgolenbaaGreat
open Go.RowKit Go.Shelf
attribute [local go_sem] Oper.semAt_some
def BackAt (Bs : Nat) (A : Option Addr) (len cap : Nat) (l : List Nat) (k : Nat) (W : World) : Prop :=
 W.cell? ⟨Bs, 0, none⟩ = some (.slice A len cap) ∧ ∀ j, j + k + 1 = len → ∃ b off, A = some ⟨b, off, none⟩ ∧ W.cell? ⟨b, off + j, none⟩ = some (.int .u32 (l.getD j 0 : Nat))
def backOne (l : List Nat) (len k : Nat) : Nat × Nat := (len - 1 - k, l.getD (len - 1 - k) 0)
def backVals (x : Nat × Nat) : Array Value := #[Value.int .i64 (x.1 : Int), Value.int .u32 (x.2 : Int)]
set_option maxRecDepth 100000 in
set_option maxHeartbeats 2000000 in
theorem back_told (F : Fence) (n : Nat) (h1 : F.fn 138) (hro : F.round = none) (hn : 1 ≤ n) (Bs len cap : Nat) (A : Option Addr) (l : List Nat) (hreach : len ≤ 1000) (w0 : World) :
 SeqTold F n Tryz.prog 138 #[.pointer (some ⟨Bs, 0, none⟩)] backVals (fun pre W => BackAt Bs A len cap l pre.length W) (fun pre x => pre.length < len ∧ x = backOne l len pre.length) (fun xs => xs.length = len) (fun _ => True) w0 := fun lp J Jx W hW hG hY h0 => by
 refine callsIn_of_wp Tryz.func138 rfl h1 ?_ hro
 simp only [Tryz.ntmps138, List.size_toArray, List.length_cons, List.length_nil, Nat.reduceAdd, Nat.reduceSub, Array.replicate_succ, Array.replicate_zero, List.push_toArray, List.append_toArray, List.nil_append, List.cons_append]
 have hB0 := (hG _ _ h0).1
 gi_wp2
 gi_loopw [3] (fun i wr => ∃ pre : List (Nat × Nat), pre.length ≤ len ∧ i = .int .i64 ((len : Int) - 1 - pre.length) ∧ J pre wr)
  (fun i _ => (intOf i + 1).toNat)
 case atStart => exact ⟨[], Nat.zero_le _, by simp, h0⟩
 case round =>
  obtain ⟨pre, hk, rfl, hJs⟩ := hrel
  obtain ⟨hbx, hel⟩ := hG _ _ hJs
  by_cases hlt : pre.length < len
  · obtain ⟨j, hj⟩ : ∃ j, j + pre.length + 1 = len := ⟨len - 1 - pre.length, by omega⟩
    obtain ⟨b, off, rfl, hcx⟩ := hel j hj
    obtain ⟨fn, tmps, assign, body, hy, hR⟩ := hY _ (backOne l len pre.length) wr hJs ⟨hlt, rfl⟩
    have e1 : len - 1 - pre.length = j := by omega
    have e2 : (len : Int) - 1 - pre.length = (j : Int) := by omega
    unfold backVals backOne at hy
    rw [e1] at hy
    rw [e2]
    dsimp only at hy
    have hjl : j < len := by omega
    obtain ⟨d, hd⟩ : ∃ d, d = l.getD j 0 := ⟨_, rfl⟩
    rw [← hd] at hy hcx
    clear hel hd e1 e2 hG hY h0
    gi_wp2
    refine hR.mono ?_
    rintro e W3 (⟨rfl, hJ3⟩ | ⟨rfl, hJx3⟩)
    · gi_wp2
      go_roundw
      case rel => exact ⟨pre ++ [backOne l len pre.length], by simp <;> omega, by simp <;> omega, hJ3⟩
      case measure => simp [intOf] <;> omega
    · gi_wp2
      refine bodyPost_ret (results_none rfl _ _ _) rfl ?_
      exact ⟨⟨_, rfl⟩, .inr ⟨_, trivial, hJx3⟩⟩
  · have e2 : (len : Int) - 1 - pre.length = -1 := by omega
    rw [e2]
    gi_wp2
    go_end0
    exact ⟨⟨_, rfl⟩, .inl ⟨_, by omega, hJs⟩⟩
set_option maxHeartbeats 1000000 in
theorem back_in (F : Fence) (n : Nat) (h5 : F.fn 95) (hro : F.round = none) (a : Option Addr) (len cap : Nat) (w : World) :
 CallsIn F n Tryz.prog 95 #[.slice a len cap] w fun e w' => e = .returned (.func (.func 138) #[] #[.pointer (some ⟨w.heap.size, 0, none⟩)]) ∧ w' = w.alloc (.cells #[.slice a len cap] 124) := by
 refine callsIn_of_wp Tryz.func95 rfl h5 ?_ hro
 simp only [Tryz.ntmps95, List.size_toArray, List.length_cons, List.length_nil, Nat.reduceAdd, Nat.reduceSub, Array.replicate_succ, Array.replicate_zero, List.push_toArray, List.append_toArray, List.nil_append, List.cons_append]
 gi_wp2
 go_ret
 exact ⟨rfl, rfl⟩
attribute [local go_sem] Oper.semAt_some
theorem cmpNat_lt {x y : Nat} (h : x < y) : cmpNat x y = -1 := by unfold cmpNat; rw [if_pos h]
theorem cmpNat_gt {x y : Nat} (h : y < x) : cmpNat x y = 1 := by unfold cmpNat; rw [if_neg (by omega), if_pos h]
theorem cmpNat_eq (x : Nat) : cmpNat x x = 0 := by unfold cmpNat; rw [if_neg (by omega), if_neg (by omega)]
theorem rd_cell {w : World} {A : Option Addr} {k : IntKind} {l : List Nat} (h : Rd w w.heap.size 1 A (nums k l)) {j : Nat} (hj : j < l.length) : ∃ b off, A = some ⟨b, off, none⟩ ∧ b < w.heap.size ∧ w.cell? ⟨b, off + j, none⟩ = some (.int k (l.getD j 0 : Nat)) := by
 obtain ⟨b, off, hA, hb, _, hc⟩ := h j _ (nums_get hj)
 refine ⟨b, off, hA, hb, ?_⟩
 have := hc 0 _ rfl
 rw [Nat.mul_one, Nat.add_zero] at this
 rw [this, List.getD_eq_getElem?_getD, List.getElem?_eq_getElem hj]
 rfl
theorem drop_getD {l : List Nat} {j : Nat} (hj : j < l.length) : l.drop j = l.getD j 0 :: l.drop (j + 1) := by
 rw [List.drop_eq_getElem_cons hj, List.getD_eq_getElem?_getD, List.getElem?_eq_getElem hj]
 rfl
theorem dig_val_lt_of {x y j : Nat} (hl : len32 x = len32 y) (hj : j < len32 x) (hd : (dig B32 x).drop (j + 1) = (dig B32 y).drop (j + 1)) (hlt : (dig B32 x).getD j 0 < (dig B32 y).getD j 0) : x < y := by
 have hjy : j < (dig B32 y).length := by
  have : j < len32 y := by omega
  exact this
 have h := valB_lt_of_digit (B := B32) (a := dig B32 x) (b := dig B32 y) (Digs.dig hB32 x) hl hj (by
  rw [List.getD_eq_getElem?_getD, List.getElem?_eq_getElem hj, List.getD_eq_getElem?_getD, List.getElem?_eq_getElem hjy] at hlt
  exact hlt) hd
 rwa [val_dig hB32, val_dig hB32] at h
set_option maxRecDepth 100000 in
set_option maxHeartbeats 2000000 in
theorem frac_cmp (A D : Option Addr) (ca cd x y n m : Nat) (hn : n = len32 x) (hm : m = len32 y) (w : World) (h : Rd32 w A x) (h' : Rd32 w D y) (hx : len32 x ≤ 1000) (_hy : len32 y ≤ 1000) :
 Calls Tryz.prog 60 #[.slice A n ca, .slice D m cd] w fun e w' => e = .returned (.int .i64 (cmpNat x y)) ∧ Below w.heap.size w w' := by
 subst hn hm
 by_cases hlen : len32 x = len32 y
 · refine (callsIn_wide (n := 3)).1 ?_
   refine callsIn_of_wp_marks Tryz.func60 rfl trivial ?_ rfl
   simp only [Tryz.ntmps60, List.size_toArray, List.length_cons, List.length_nil, Nat.reduceAdd, Nat.reduceSub, Array.replicate_succ, Array.replicate_zero, List.push_toArray, List.append_toArray, List.nil_append, List.cons_append]
   obtain ⟨len, hlx'⟩ : ∃ len, len = len32 x := ⟨_, rfl⟩
   rw [← hlen, ← hlx']
   rw [← hlx'] at hlen hx
   have hlx := Lib.hid hlx'
   have hly := Lib.hid hlen
   have hle : len ≤ 1000 := hx
   clear _hy hlx' hlen hx
   gi_wp2_with (refine ⟨trivial, ?_⟩; gi_at_call 95; refine (back_in Fence.wide _ trivial rfl _ _ _ _).mono ?_; rintro e w' ⟨rfl, rfl⟩)
   have bB := (Boxed.new w 124 (.slice D len cd)).alloc (.cells #[.int .i64 0] 3)
   have bR := Boxed.new (w.alloc (.cells #[.slice D len cd] 124)) 3 (.int .i64 0)
   have bN := Boxed.new ((w.alloc (.cells #[.slice D len cd] 124)).alloc (.cells #[.int .i64 0] 3)) 124 (.slice A len ca)
   rw [World.size_alloc] at bR bN
   rw [World.size_alloc] at bN
   have hB0 : Below w.heap.size w (((w.alloc (.cells #[.slice D len cd] 124)).alloc (.cells #[.int .i64 0] 3)).alloc (.cells #[.slice A len ca] 124)) := (((Below.refl _ w).alloc (Nat.le_refl _) _).alloc (by simp) _).alloc (by simp; omega) _
   refine range_told (F := Fence.wide) (n := 3) (ps := #[19, 20]) (encs := backVals) rfl (by decide) (gf := 138) (lb := #[.pointer (some ⟨w.heap.size + 1 + 1, 0, none⟩)]) rfl trivial (enters_of Tryz.func138 (by kernel_rfl) rfl)
    (back_told Fence.wide 2 trivial rfl (by decide) (w.heap.size + 1 + 1) len ca A (dig B32 x) hle _) (Below.refl _ _) (fun _ => rfl)
    (fun pre W => ((W.cell? ⟨w.heap.size, 0, none⟩ = some (.slice D len cd) ∧ W.cell? ⟨w.heap.size + 1, 0, none⟩ = some (.int .i64 0) ∧ W.frozen? ⟨w.heap.size + 1, 0, none⟩ = false ∧ W.cell? ⟨w.heap.size + 1 + 1, 0, none⟩ = some (.slice A len ca)) ∧ pre.length ≤ len ∧ (dig B32 x).drop (len - pre.length) = (dig B32 y).drop (len - pre.length)) ∧ Below w.heap.size w W)
    (fun c _ W => (c = .ret ∧ W.cell? ⟨w.heap.size + 1, 0, none⟩ = some (.int .i64 (cmpNat x y))) ∧ Below w.heap.size w W)
    (fun pre W hI => ?hIG)
    (OwnFrom.and (Own.from (fun s A B row hs hg hr => ⟨⟨cell_kept hs.1.1 hg hr, cell_kept hs.1.2.1 hg hr, (frozen_kept hs.1.2.1 hg hr).trans hs.1.2.2.1, cell_kept hs.1.2.2.2 hg hr⟩, hs.2⟩) _) (ownFrom_below (Nat.le_refl _) (by simp; omega)))
    (fun c => OwnFrom.and (Own.from (fun s A B row hs hg hr => ⟨hs.1, cell_kept hs.2 hg hr⟩) _) (ownFrom_below (Nat.le_refl _) (by simp; omega)))
    ⟨⟨⟨(bB.alloc _).cell, (bR.alloc _).cell, (bR.alloc _).frozen, bN.cell⟩, Nat.zero_le _, ?hst⟩, hB0⟩
    (fun x => { tmps := #[.slice A len ca, .slice D len cd, undef, .pointer (some ⟨w.heap.size, 0, none⟩), .pointer (some ⟨w.heap.size + 1, 0, none⟩), .int .i64 (x.1 : Int), .int .u32 (x.2 : Int), .slice A len ca, .int .i64 (len : Int), .slice D len cd, .int .i64 (len : Int), .bool false, undef, undef, undef, undef, undef, .slice A len ca, .func (.func 138) #[] #[.pointer (some ⟨w.heap.size + 1 + 1, 0, none⟩)], .int .i64 (x.1 : Int), .int .u32 (x.2 : Int), undef, undef, undef, undef, undef, undef, undef, undef, undef, undef, undef, undef], defers := [] }) ?assign ?body ?done ?stop
   case hIG =>
    obtain ⟨⟨⟨_, _, _, hbx⟩, hpl, _⟩, hbw⟩ := hI
    refine ⟨hbx, fun j hj => ?_⟩
    obtain ⟨b, off, rfl, hb, hc⟩ := rd_cell h (j := j) (by have := hlx.out; show j < len32 x; omega)
    exact ⟨b, off, rfl, (hbw.cell (p := ⟨b, off + j, none⟩) hb).trans hc⟩
   case hst =>
    rw [List.length_nil, Nat.sub_zero, List.drop_eq_nil_of_le (by have := hlx.out; show len32 x ≤ len; omega), List.drop_eq_nil_of_le (by have := hly.out; show len32 y ≤ len; omega)]
   case assign =>
    intro l x W K hK
    unfold backVals
    gi_wp2
    exact hK
   case body =>
    rintro l pre x0 W ⟨⟨⟨hbB, hbR, hfR, hbN⟩, hpl, hdr⟩, hbw⟩ ⟨hlt, rfl⟩
    obtain ⟨j, hj⟩ : ∃ j, j + pre.length + 1 = len := ⟨len - 1 - pre.length, by omega⟩
    have e1 : len - 1 - pre.length = j := by omega
    have e3 : len - pre.length = j + 1 := by omega
    have e4 : len - (pre ++ [backOne (dig B32 x) len pre.length]).length = j := by simp; omega
    have e5 : (pre ++ [backOne (dig B32 x) len pre.length]).length ≤ len := by simp; omega
    have hjx : j < (dig B32 x).length := by have := hlx.out; show j < len32 x; omega
    have hjy : j < (dig B32 y).length := by have := hly.out; show j < len32 y; omega
    obtain ⟨b, off, rfl, hb, hc⟩ := rd_cell h' hjy
    have hcW := (hbw.cell (p := ⟨b, off + j, none⟩) hb).trans hc
    have hdx := drop_getD hjx
    have hdy := drop_getD hjy
    rw [e3] at hdr
    unfold backOne
    rw [e1]
    obtain ⟨d, hd⟩ : ∃ d, d = (dig B32 x).getD j 0 := ⟨_, rfl⟩
    obtain ⟨d', hd'⟩ : ∃ d', d' = (dig B32 y).getD j 0 := ⟨_, rfl⟩
    rw [← hd'] at hcW
    have hdl : d < 4294967296 := by rw [hd]; exact (Digs.dig hB32 x).getD (by decide) j
    have hdl' : d' < 4294967296 := by rw [hd']; exact (Digs.dig hB32 y).getD (by decide) j
    rw [← hd]
    rw [← hd] at hdx
    rw [← hd'] at hdy
    have hlt1 := Lib.hid (fun q : d < d' => cmpNat_lt (dig_val_lt_of (x := x) (y := y) (by rw [← hlx.out, ← hly.out]) hjx hdr (by rw [← hd, ← hd']; exact q)))
    have hgt1 := Lib.hid (fun q : d' < d => cmpNat_gt (dig_val_lt_of (x := y) (y := x) (by rw [← hlx.out, ← hly.out]) hjy hdr.symm (by rw [← hd, ← hd']; exact q)))
    have hnx := Lib.hid (fun q : d = d' => show (dig B32 x).drop j = (dig B32 y).drop j by rw [hdx, hdy, q, hdr])
    have E4 := Lib.hid e4
    have E5 := Lib.hid e5
    unfold backOne at E4 E5
    rw [e1, ← hd] at E4 E5
    have hjlen : j < len := by omega
    clear e1 e3 e4 e5 hd hd' hdx hdy hdr hjx hjy h h' hc bB bR bN hB0
    dsimp only
    gi_wp2
    · have hq : d < d' := by assumption
      exact ⟨KeepsOthers.setCell _ _ _, ⟨rfl, by rw [hlt1.out hq]; exact World.cell?_setCell_same' _ _ _ (by rw [hbR]; rfl)⟩, hbw.setCell (p := ⟨w.heap.size + 1, 0, none⟩) (Nat.le_succ _) _⟩
    · have hq : d' < d := by assumption
      exact ⟨KeepsOthers.setCell _ _ _, ⟨rfl, by rw [hgt1.out hq]; exact World.cell?_setCell_same' _ _ _ (by rw [hbR]; rfl)⟩, hbw.setCell (p := ⟨w.heap.size + 1, 0, none⟩) (Nat.le_succ _) _⟩
    · have hq : d = d' := by omega
      exact ⟨KeepsOthers.refl _, ⟨⟨hbB, hbR, hfR, hbN⟩, E5.out, by rw [E4.out]; exact hnx.out hq⟩, hbw⟩
   case done =>
    rintro D0 xs W hD hxs ⟨⟨⟨hbB, hbR, hfR, hbN⟩, hpl, hdr⟩, hbw⟩ hK
    have hxy : Hid (cmpNat x y = 0) := by
     rw [hxs, Nat.sub_self, List.drop_zero, List.drop_zero] at hdr
     have := dig_inj hB32 hdr
     subst this
     exact cmpNat_eq x
    clear bB bR bN hB0 h h' hdr
    gi_wp2
    have hK' := (KeepsOthers.setCell W ⟨w.heap.size + 1, 0, none⟩ (.int .i64 0)).same D0 _ hK rfl
    refine ⟨by simp, .inl ⟨_, _, rfl, run_takeDeferred hK', ?_⟩⟩
    have hc5 := cell_kept (World.cell?_setCell_same' W ⟨w.heap.size + 1, 0, none⟩ (.int .i64 0) (by rw [hbR]; rfl)) (grownBy_putObj' _ D0 (.deferred none)) (fun r e => by cases e; exact ⟨_, hK', rfl⟩)
    refine ⟨.int .i64 0, ?_, by rw [hxy.out], (hbw.setCell (p := ⟨w.heap.size + 1, 0, none⟩) (Nat.le_succ _) _).trans (belowK_b (w := w) (Nat.le_refl _) _ D0 _ _ (by simp at hD; omega) hK' rfl rfl)⟩
    simp [results, Tryz.f60, go_sem, hc5]
   case stop =>
    rintro D0 c pre W hD _ ⟨⟨rfl, hcr⟩, hbw⟩ hK
    clear bB bR bN hB0 h h'
    gi_wp2
    refine ⟨by simp, .inl ⟨_, _, rfl, run_takeDeferred hK, ?_⟩⟩
    have hc5 := cell_kept hcr (grownBy_putObj' _ D0 (.deferred none)) (fun r e => by cases e; exact ⟨_, hK, rfl⟩)
    refine ⟨.int .i64 (cmpNat x y), ?_, rfl, hbw.trans (belowK_b (w := w) (Nat.le_refl _) _ D0 _ _ (by simp at hD; omega) hK rfl rfl)⟩
    simp [results, Tryz.f60, go_sem, hc5]
 · go_enter Tryz.func60, Tryz.ntmps60
   by_cases hlt : len32 x < len32 y
   · have hxy : cmpNat x y = -1 := cmpNat_lt (lt_of_len_lt hB32 hlt)
     have hl1 : (((len32 x : Nat) : Int) < ((len32 y : Nat) : Int)) := by omega
     have hcell := (Boxed.new (w.alloc (.cells #[.slice D (len32 y) cd] 124)) 3 (.int .i64 (-1))).cell
     rw [World.size_alloc] at hcell
     have HX := Lib.hid hxy
     clear hxy
     go_wp2
     refine bodyPost_ret (v := .int .i64 (-1)) (by simp [results, Tryz.f60, go_sem, hcell]) rfl ?_
     exact ⟨by rw [HX.out], ((Below.refl _ w).alloc (Nat.le_refl _) _).alloc (by simp) _⟩
   · have hxy : cmpNat x y = 1 := cmpNat_gt (lt_of_len_lt hB32 (by show len32 y < len32 x; omega))
     have hl1 : ¬ (((len32 x : Nat) : Int) < ((len32 y : Nat) : Int)) := by omega
     have hcell := (Boxed.new (w.alloc (.cells #[.slice D (len32 y) cd] 124)) 3 (.int .i64 1)).cell
     rw [World.size_alloc] at hcell
     have HX := Lib.hid hxy
     clear hxy
     go_wp2
     refine bodyPost_ret (v := .int .i64 1) (by simp [results, Tryz.f60, go_sem, hcell]) rfl ?_
     exact ⟨by rw [HX.out], ((Below.refl _ w).alloc (Nat.le_refl _) _).alloc (by simp) _⟩
end Go.Proofs.YtfdjcakgolenbaaGreat
namespace Go.Proofs.YtfdjcakgolenbaaGreat
open Go.RowKit
def numCells (k : IntKind) (l : List Nat) : List Value := l.map fun (n : Nat) => Value.int k (n : Int)
def NBx (w : World) (g E : Nat) (k : IntKind) (l : List Nat) : Prop := ∃ rest : List Value, w.heap[g]? = some (.cells (numCells k l ++ rest).toArray E (0, 0))
theorem numCells_len (k : IntKind) (l : List Nat) : (numCells k l).length = l.length := by simp [numCells]
theorem numCells_get {k : IntKind} {l : List Nat} {i : Nat} (h : i < l.length) : (numCells k l)[i]? = some (.int k (l[i] : Int)) := by simp [numCells, h]
theorem NBx.lt {w : World} {g E : Nat} {k : IntKind} {l : List Nat} (h : NBx w g E k l) : g < w.heap.size := by
 obtain ⟨r, h⟩ := h
 exact (Array.getElem?_eq_some_iff.1 h).1
theorem NBx.keep {w w' : World} {g E : Nat} {k : IntKind} {l : List Nat} (h : NBx w g E k l) (hg : w'.heap[g]? = w.heap[g]?) : NBx w' g E k l := by
 obtain ⟨r, h⟩ := h
 exact ⟨r, hg.trans h⟩
theorem NBx.cell {w : World} {g E : Nat} {k : IntKind} {l : List Nat} (h : NBx w g E k l) {i : Nat} (hi : i < l.length) : w.cell? ⟨g, i, none⟩ = some (.int k (l[i] : Int)) := by
 obtain ⟨r, h⟩ := h
 have := cell_of_row w g i _ _ _ h
 rw [this]
 rw [List.getElem?_toArray, List.getElem?_append_left (by rw [numCells_len]; exact hi), numCells_get hi]
theorem NBx.frozen {w : World} {g E : Nat} {k : IntKind} {l : List Nat} (h : NBx w g E k l) (i : Nat) : w.frozen? ⟨g, i, none⟩ = false := by
 obtain ⟨r, h⟩ := h
 simp [World.frozen?, h]
theorem NBx.rd {w : World} {g E : Nat} {k : IntKind} {l : List Nat} (h : NBx w g E k l) : Rd w w.heap.size 1 (some ⟨g, 0, none⟩) (nums k l) := by
 intro i cs hi
 unfold nums at hi
 rw [List.getElem?_map] at hi
 obtain ⟨n, hn, rfl⟩ := Option.map_eq_some_iff.1 hi
 have hil := (List.getElem?_eq_some_iff.1 hn).1
 refine ⟨g, 0, rfl, h.lt, rfl, fun j u hu => ?_⟩
 match j, hu with
 | 0, hu =>
  simp at hu
  subst hu
  have := h.cell hil
  rw [List.getElem?_eq_getElem hil] at hn
  injection hn with hn
  rw [hn] at this
  rw [Nat.mul_one, Nat.add_zero, Nat.zero_add]
  exact this
theorem heap_setCell {w : World} {b : Nat} {c : Array Value} {t : TypeId} {fr : Nat × Nat} (h : w.heap[b]? = some (.cells c t fr)) (i : Nat) (u : Value) : (w.setCell ⟨b, i, none⟩ u).heap[b]? = some (.cells (c.setIfInBounds i u) t fr) := by
 have hlt := lt_of_block h
 have h' : w.heap[b] = .cells c t fr := by simpa [Array.getElem?_eq_getElem hlt] using h
 show (w.heap.modify b _)[b]? = _
 rw [Array.getElem?_eq_getElem (by simpa using hlt), Array.getElem_modify_self, h']
 rfl
theorem NBx.setCell {w : World} {g E : Nat} {k : IntKind} {l : List Nat} (h : NBx w g E k l) {i : Nat} (hi : i < l.length) (m : Nat) : NBx (w.setCell ⟨g, i, none⟩ (.int k (m : Int))) g E k (l.set i m) := by
 obtain ⟨r, hr⟩ := h
 refine ⟨r, ?_⟩
 rw [heap_setCell hr]
 congr 2
 apply Array.ext'
 rw [Array.toList_setIfInBounds, List.toList_toArray, List.toList_toArray]
 rw [List.set_append_left _ _ (by rw [numCells_len]; exact hi)]
 unfold numCells
 rw [List.map_set]
theorem NBx.other {w : World} {g E : Nat} {k : IntKind} {l : List Nat} (h : NBx w g E k l) {p : Addr} (hne : g ≠ p.block) (u : Value) : NBx (w.setCell p u) g E k l := h.keep (Below.heap_setCell _ _ _ _ hne)
theorem u32_ei : EI Tryz.prog 124 52 1 4 := EI.mk (z := .int .u32 0) Tryz.underlying124 (by kernel_rfl) rfl (by omega)
theorem OwnS.empty_new (w : World) (base e size : Nat) (hb : base ≤ w.heap.size) : OwnS (w.alloc (.cells #[] e)) base e size (some ⟨w.heap.size, 0, none⟩) 0 [] :=
 ⟨⟨by simp, .inr ⟨w.heap.size, 0, #[], rfl, hb, heap_alloc_new w _, Nat.le_refl _, Nat.zero_le _, by simp, by simp⟩⟩, by simp⟩
theorem OwnS.nbx {w : World} {base e c : Nat} {A : Option Addr} {k : IntKind} {l : List Nat} (h : OwnS w base e 1 A c (nums k l)) (hl : 0 < l.length) : ∃ g, A = some ⟨g, 0, none⟩ ∧ base ≤ g ∧ NBx w g e k l := by
 rcases h.1.2 with ⟨h1, h2⟩ | ⟨g, cap, cur, h1, hb, hg, _, _, hs, htk⟩
 · rw [nums_len] at h2
   omega
 · simp at h1
   obtain ⟨rfl, rfl⟩ := h1
   refine ⟨g, rfl, hb, cur.toList.drop l.length, ?_⟩
   rw [hg]
   congr 2
   apply Array.ext'
   rw [List.toList_toArray]
   rw [nums_len, Nat.mul_one, nums_flat] at htk
   unfold numCells
   rw [← htk, List.take_append_drop]
set_option maxRecDepth 100000 in
theorem clone_nat (A : Option Addr) (c x : Nat) (n : Nat) (hn : n = len32 x) (w : World) (hA : Rd32 w A x) (hl : len32 x ≤ 1000) :
 Calls Tryz.prog 133 #[.slice A n c] w fun e w' => ∃ A' c', e = .returned (.slice A' (len32 x) c') ∧ OwnS w' w.heap.size 52 1 A' c' (nums .u32 (dig B32 x)) ∧ len32 x ≤ c' ∧ Below w.heap.size w w' := by
 subst hn
 cases A with
 | none =>
  have hl0 : dig B32 x = [] := by
   rcases hd : dig B32 x with _ | ⟨d, l⟩
   · rfl
   · unfold Rd32 at hA
     rw [hd] at hA
     obtain ⟨_, _, h, _⟩ := hA 0 [.int .u32 (d : Int)] rfl
     cases h
  have hl1 : len32 x = 0 := by show (dig B32 x).length = 0; rw [hl0]; rfl
  rw [hl1, hl0]
  have heq := fun w => Go.Lib.run_eql_slice_nil (P := Tryz.prog) w 124 52 none 0 c 0 0 Tryz.underlying124
  go_enter Tryz.func133, Tryz.ntmps133
  go_wp2
  go_ret
  exact ⟨none, 0, rfl, OwnS.nil _ _ _ _, Nat.zero_le _, Below.refl _ _⟩
 | some ad =>
  obtain ⟨l, hld⟩ : ∃ l, l = dig B32 x := ⟨_, rfl⟩
  have hll : len32 x = l.length := by rw [hld]
  rw [hll] at hl
  rw [hll]
  unfold Rd32 at hA
  rw [← hld] at hA ⊢
  clear hll hld
  have heq := fun w => Go.Lib.run_eql_slice_nil (P := Tryz.prog) w 124 52 (some ad) l.length c 0 0 Tryz.underlying124
  have hb1 : Below w.heap.size w (w.alloc (Obj.cells #[] 52)) := (Below.refl _ _).alloc (Nat.le_refl _) _
  have HRD := Lib.hid ((hA.below hb1 (Nat.le_refl _)).more hb1.size)
  have HOW := Lib.hid (OwnS.empty_new w w.heap.size 52 1 (Nat.le_refl _))
  have HB1 := Lib.hid hb1
  clear hA hb1
  go_enter Tryz.func133, Tryz.ntmps133
  go_wp2_with (first
   | (at_builtin; go_loud (refine wpList_append_n rfl _ _ rfl u32_ei 0 rfl rfl HOW.out rfl _ HRD.out (by rw [nums_len]) (nums_ones _ l) (by unfold maxLen; simp; omega) (by simp; omega) HB1.out.size ?_); intro A4 c4 w4 hown4 hg4 hb4))
  go_ret
  have hcap := hown4.cap.1
  rw [List.nil_append, nums_len] at hcap
  exact ⟨A4, c4, by simp, by simpa using hown4, hcap, HB1.out.trans hb4⟩
end Go.Proofs.YtfdjcakgolenbaaGreat
