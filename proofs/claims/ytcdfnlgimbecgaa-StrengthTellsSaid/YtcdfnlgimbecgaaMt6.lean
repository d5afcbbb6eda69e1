/-
  frac: cmp.
-/
import Derived.Test.YtcdfnlgimbecgaaMt5
import Derived.Lib.SliceRun
namespace Go.Proofs.Ytcdfnlgimbecgaa
open Go.RowKit Go.Shelf
attribute [local go_sem] Oper.semAt_some
theorem cmpNat_lt {x y : Nat} (h : x < y) : cmpNat x y = -1 := by unfold cmpNat; rw [if_pos h]
theorem cmpNat_gt {x y : Nat} (h : y < x) : cmpNat x y = 1 := by unfold cmpNat; rw [if_neg (by omega), if_pos h]
theorem cmpNat_eq (x : Nat) : cmpNat x x = 0 := by unfold cmpNat; rw [if_neg (by omega), if_neg (by omega)]
theorem rd_cell {w : World} {A : Option Addr} {k : IntKind} {l : List Nat} (h : Rd w w.heap.size 1 A (nums k l)) {j : Nat} (hj : j < l.length) : ∃ b off, A = some ⟨b, off, none⟩ ∧ b < w.heap.size ∧ w.cell? ⟨b, off + j, none⟩ = some (.int k (l.getD j 0 : Nat)) := by
 obtain ⟨b, off, hA, hb, _, hc⟩ := h j _ (nums_get hj)
 refine ⟨b, off, hA, hb, ?_⟩
 have := hc 0 _ rfl
 rw [Nat.mul_one, Nat.add_zero] at this
 rw [this, List.getD_eq_getElem?_getD, List.getElem?_eq_getElem hj]
 rfl
theorem drop_getD {l : List Nat} {j : Nat} (hj : j < l.length) : l.drop j = l.getD j 0 :: l.drop (j + 1) := by
 rw [List.drop_eq_getElem_cons hj, List.getD_eq_getElem?_getD, List.getElem?_eq_getElem hj]
 rfl
theorem dig_val_lt_of {x y j : Nat} (hl : len32 x = len32 y) (hj : j < len32 x) (hd : (dig B32 x).drop (j + 1) = (dig B32 y).drop (j + 1)) (hlt : (dig B32 x).getD j 0 < (dig B32 y).getD j 0) : x < y := by
 have hjy : j < (dig B32 y).length := by
  have : j < len32 y := by omega
  exact this
 have h := valB_lt_of_digit (B := B32) (a := dig B32 x) (b := dig B32 y) (Digs.dig hB32 x) hl hj (by
  rw [List.getD_eq_getElem?_getD, List.getElem?_eq_getElem hj, List.getD_eq_getElem?_getD, List.getElem?_eq_getElem hjy] at hlt
  exact hlt) hd
 rwa [val_dig hB32, val_dig hB32] at h
set_option maxRecDepth 100000 in
set_option maxHeartbeats 2000000 in
theorem frac_cmp (A D : Option Addr) (ca cd x y n m : Nat) (hn : n = len32 x) (hm : m = len32 y) (w : World) (h : Rd32 w A x) (h' : Rd32 w D y) (hx : len32 x ≤ 1000) (_hy : len32 y ≤ 1000) :
 Calls Try.prog 87 #[.slice A n ca, .slice D m cd] w fun e w' => e = .returned (.int .i64 (cmpNat x y)) ∧ Below w.heap.size w w' := by
 subst hn hm
 by_cases hlen : len32 x = len32 y
 · refine (callsIn_wide (n := 3)).1 ?_
   refine callsIn_of_wp_marks Try.func87 rfl trivial ?_ rfl
   simp only [Try.ntmps87, List.size_toArray, List.length_cons, List.length_nil, Nat.reduceAdd, Nat.reduceSub, Array.replicate_succ, Array.replicate_zero, List.push_toArray, List.append_toArray, List.nil_append, List.cons_append]
   obtain ⟨len, hlx'⟩ : ∃ len, len = len32 x := ⟨_, rfl⟩
   rw [← hlen, ← hlx']
   rw [← hlx'] at hlen hx
   have hlx := Lib.hid hlx'
   have hly := Lib.hid hlen
   have hle : len ≤ 1000 := hx
   clear _hy hlx' hlen hx
   gi_wp2_with (refine ⟨trivial, ?_⟩; gi_at_call 110; refine (back_in Fence.wide _ trivial rfl _ _ _ _).mono ?_; rintro e w' ⟨rfl, rfl⟩)
   have bB := (Boxed.new w 108 (.slice D len cd)).alloc (.cells #[.int .i64 0] 3)
   have bR := Boxed.new (w.alloc (.cells #[.slice D len cd] 108)) 3 (.int .i64 0)
   have bN := Boxed.new ((w.alloc (.cells #[.slice D len cd] 108)).alloc (.cells #[.int .i64 0] 3)) 108 (.slice A len ca)
   rw [World.size_alloc] at bR bN
   rw [World.size_alloc] at bN
   have hB0 : Below w.heap.size w (((w.alloc (.cells #[.slice D len cd] 108)).alloc (.cells #[.int .i64 0] 3)).alloc (.cells #[.slice A len ca] 108)) := (((Below.refl _ w).alloc (Nat.le_refl _) _).alloc (by simp) _).alloc (by simp; omega) _
   refine range_told (F := Fence.wide) (n := 3) (ps := #[19, 20]) (encs := backVals) rfl (by decide) (gf := 129) (lb := #[.pointer (some ⟨w.heap.size + 1 + 1, 0, none⟩)]) rfl trivial (enters_of Try.func129 (by kernel_rfl) rfl)
    (back_told Fence.wide 2 trivial rfl (by decide) (w.heap.size + 1 + 1) len ca A (dig B32 x) hle _) (Below.refl _ _) (fun _ => rfl)
    (fun pre W => ((W.cell? ⟨w.heap.size, 0, none⟩ = some (.slice D len cd) ∧ W.cell? ⟨w.heap.size + 1, 0, none⟩ = some (.int .i64 0) ∧ W.frozen? ⟨w.heap.size + 1, 0, none⟩ = false ∧ W.cell? ⟨w.heap.size + 1 + 1, 0, none⟩ = some (.slice A len ca)) ∧ pre.length ≤ len ∧ (dig B32 x).drop (len - pre.length) = (dig B32 y).drop (len - pre.length)) ∧ Below w.heap.size w W)
    (fun c _ W => (c = .ret ∧ W.cell? ⟨w.heap.size + 1, 0, none⟩ = some (.int .i64 (cmpNat x y))) ∧ Below w.heap.size w W)
    (fun pre W hI => ?hIG)
    (OwnFrom.and (Own.from (fun s A B row hs hg hr => ⟨⟨cell_kept hs.1.1 hg hr, cell_kept hs.1.2.1 hg hr, (frozen_kept hs.1.2.1 hg hr).trans hs.1.2.2.1, cell_kept hs.1.2.2.2 hg hr⟩, hs.2⟩) _) (ownFrom_below (Nat.le_refl _) (by simp; omega)))
    (fun c => OwnFrom.and (Own.from (fun s A B row hs hg hr => ⟨hs.1, cell_kept hs.2 hg hr⟩) _) (ownFrom_below (Nat.le_refl _) (by simp; omega)))
    ⟨⟨⟨(bB.alloc _).cell, (bR.alloc _).cell, (bR.alloc _).frozen, bN.cell⟩, Nat.zero_le _, ?hst⟩, hB0⟩
    (fun x => { tmps := #[.slice A len ca, .slice D len cd, undef, .pointer (some ⟨w.heap.size, 0, none⟩), .pointer (some ⟨w.heap.size + 1, 0, none⟩), .int .i64 (x.1 : Int), .int .u32 (x.2 : Int), .slice A len ca, .int .i64 (len : Int), .slice D len cd, .int .i64 (len : Int), .bool false, undef, undef, undef, undef, undef, .slice A len ca, .func (.func 129) #[] #[.pointer (some ⟨w.heap.size + 1 + 1, 0, none⟩)], .int .i64 (x.1 : Int), .int .u32 (x.2 : Int), undef, undef, undef, undef, undef, undef, undef, undef, undef, undef, undef, undef], defers := [] }) ?assign ?body ?done ?stop
   case hIG =>
    obtain ⟨⟨⟨_, _, _, hbx⟩, hpl, _⟩, hbw⟩ := hI
    refine ⟨hbx, fun j hj => ?_⟩
    obtain ⟨b, off, rfl, hb, hc⟩ := rd_cell h (j := j) (by have := hlx.out; show j < len32 x; omega)
    exact ⟨b, off, rfl, (hbw.cell (p := ⟨b, off + j, none⟩) hb).trans hc⟩
   case hst =>
    rw [List.length_nil, Nat.sub_zero, List.drop_eq_nil_of_le (by have := hlx.out; show len32 x ≤ len; omega), List.drop_eq_nil_of_le (by have := hly.out; show len32 y ≤ len; omega)]
   case assign =>
    intro l x W K hK
    unfold backVals
    gi_wp2
    exact hK
   case body =>
    rintro l pre x0 W ⟨⟨⟨hbB, hbR, hfR, hbN⟩, hpl, hdr⟩, hbw⟩ ⟨hlt, rfl⟩
    obtain ⟨j, hj⟩ : ∃ j, j + pre.length + 1 = len := ⟨len - 1 - pre.length, by omega⟩
    have e1 : len - 1 - pre.length = j := by omega
    have e3 : len - pre.length = j + 1 := by omega
    have e4 : len - (pre ++ [backOne (dig B32 x) len pre.length]).length = j := by simp; omega
    have e5 : (pre ++ [backOne (dig B32 x) len pre.length]).length ≤ len := by simp; omega
    have hjx : j < (dig B32 x).length := by have := hlx.out; show j < len32 x; omega
    have hjy : j < (dig B32 y).length := by have := hly.out; show j < len32 y; omega
    obtain ⟨b, off, rfl, hb, hc⟩ := rd_cell h' hjy
    have hcW := (hbw.cell (p := ⟨b, off + j, none⟩) hb).trans hc
    have hdx := drop_getD hjx
    have hdy := drop_getD hjy
    rw [e3] at hdr
    unfold backOne
    rw [e1]
    obtain ⟨d, hd⟩ : ∃ d, d = (dig B32 x).getD j 0 := ⟨_, rfl⟩
    obtain ⟨d', hd'⟩ : ∃ d', d' = (dig B32 y).getD j 0 := ⟨_, rfl⟩
    rw [← hd'] at hcW
    have hdl : d < 4294967296 := by rw [hd]; exact (Digs.dig hB32 x).getD (by decide) j
    have hdl' : d' < 4294967296 := by rw [hd']; exact (Digs.dig hB32 y).getD (by decide) j
    rw [← hd]
    rw [← hd] at hdx
    rw [← hd'] at hdy
    have hlt1 := Lib.hid (fun q : d < d' => cmpNat_lt (dig_val_lt_of (x := x) (y := y) (by rw [← hlx.out, ← hly.out]) hjx hdr (by rw [← hd, ← hd']; exact q)))
    have hgt1 := Lib.hid (fun q : d' < d => cmpNat_gt (dig_val_lt_of (x := y) (y := x) (by rw [← hlx.out, ← hly.out]) hjy hdr.symm (by rw [← hd, ← hd']; exact q)))
    have hnx := Lib.hid (fun q : d = d' => show (dig B32 x).drop j = (dig B32 y).drop j by rw [hdx, hdy, q, hdr])
    have E4 := Lib.hid e4
    have E5 := Lib.hid e5
    unfold backOne at E4 E5
    rw [e1, ← hd] at E4 E5
    have hjlen : j < len := by omega
    clear e1 e3 e4 e5 hd hd' hdx hdy hdr hjx hjy h h' hc bB bR bN hB0
    dsimp only
    gi_wp2
    · have hq : d < d' := by assumption
      exact ⟨KeepsOthers.setCell _ _ _, ⟨rfl, by rw [hlt1.out hq]; exact World.cell?_setCell_same' _ _ _ (by rw [hbR]; rfl)⟩, hbw.setCell (p := ⟨w.heap.size + 1, 0, none⟩) (Nat.le_succ _) _⟩
    · have hq : d' < d := by assumption
      exact ⟨KeepsOthers.setCell _ _ _, ⟨rfl, by rw [hgt1.out hq]; exact World.cell?_setCell_same' _ _ _ (by rw [hbR]; rfl)⟩, hbw.setCell (p := ⟨w.heap.size + 1, 0, none⟩) (Nat.le_succ _) _⟩
    · have hq : d = d' := by omega
      exact ⟨KeepsOthers.refl _, ⟨⟨hbB, hbR, hfR, hbN⟩, E5.out, by rw [E4.out]; exact hnx.out hq⟩, hbw⟩
   case done =>
    rintro D0 xs W hD hxs ⟨⟨⟨hbB, hbR, hfR, hbN⟩, hpl, hdr⟩, hbw⟩ hK
    have hxy : Hid (cmpNat x y = 0) := by
     rw [hxs, Nat.sub_self, List.drop_zero, List.drop_zero] at hdr
     have := dig_inj hB32 hdr
     subst this
     exact cmpNat_eq x
    clear bB bR bN hB0 h h' hdr
    gi_wp2
    have hK' := (KeepsOthers.setCell W ⟨w.heap.size + 1, 0, none⟩ (.int .i64 0)).same D0 _ hK rfl
    refine ⟨by simp, .inl ⟨_, _, rfl, run_takeDeferred hK', ?_⟩⟩
    have hc5 := cell_kept (World.cell?_setCell_same' W ⟨w.heap.size + 1, 0, none⟩ (.int .i64 0) (by rw [hbR]; rfl)) (grownBy_putObj' _ D0 (.deferred none)) (fun r e => by cases e; exact ⟨_, hK', rfl⟩)
    refine ⟨.int .i64 0, ?_, by rw [hxy.out], (hbw.setCell (p := ⟨w.heap.size + 1, 0, none⟩) (Nat.le_succ _) _).trans (belowK_b (w := w) (Nat.le_refl _) _ D0 _ _ (by simp at hD; omega) hK' rfl rfl)⟩
    simp [results, Try.f87, go_sem, hc5]
   case stop =>
    rintro D0 c pre W hD _ ⟨⟨rfl, hcr⟩, hbw⟩ hK
    clear bB bR bN hB0 h h'
    gi_wp2
    refine ⟨by simp, .inl ⟨_, _, rfl, run_takeDeferred hK, ?_⟩⟩
    have hc5 := cell_kept hcr (grownBy_putObj' _ D0 (.deferred none)) (fun r e => by cases e; exact ⟨_, hK, rfl⟩)
    refine ⟨.int .i64 (cmpNat x y), ?_, rfl, hbw.trans (belowK_b (w := w) (Nat.le_refl _) _ D0 _ _ (by simp at hD; omega) hK rfl rfl)⟩
    simp [results, Try.f87, go_sem, hc5]
 · go_enter Try.func87, Try.ntmps87
   by_cases hlt : len32 x < len32 y
   · have hxy : cmpNat x y = -1 := cmpNat_lt (lt_of_len_lt hB32 hlt)
     have hl1 : (((len32 x : Nat) : Int) < ((len32 y : Nat) : Int)) := by omega
     have hcell := (Boxed.new (w.alloc (.cells #[.slice D (len32 y) cd] 108)) 3 (.int .i64 (-1))).cell
     rw [World.size_alloc] at hcell
     have HX := Lib.hid hxy
     clear hxy
     go_wp2
     refine bodyPost_ret (v := .int .i64 (-1)) (by simp [results, Try.f87, go_sem, hcell]) rfl ?_
     exact ⟨by rw [HX.out], ((Below.refl _ w).alloc (Nat.le_refl _) _).alloc (by simp) _⟩
   · have hxy : cmpNat x y = 1 := cmpNat_gt (lt_of_len_lt hB32 (by show len32 y < len32 x; omega))
     have hl1 : ¬ (((len32 x : Nat) : Int) < ((len32 y : Nat) : Int)) := by omega
     have hcell := (Boxed.new (w.alloc (.cells #[.slice D (len32 y) cd] 108)) 3 (.int .i64 1)).cell
     rw [World.size_alloc] at hcell
     have HX := Lib.hid hxy
     clear hxy
     go_wp2
     refine bodyPost_ret (v := .int .i64 1) (by simp [results, Try.f87, go_sem, hcell]) rfl ?_
     exact ⟨by rw [HX.out], ((Below.refl _ w).alloc (Nat.le_refl _) _).alloc (by simp) _⟩
end Go.Proofs.Ytcdfnlgimbecgaa
namespace Go.Proofs.Ytcdfnlgimbecgaa
open Go.RowKit
def numCells (k : IntKind) (l : List Nat) : List Value := l.map fun (n : Nat) => Value.int k (n : Int)
def NBx (w : World) (g E : Nat) (k : IntKind) (l : List Nat) : Prop := ∃ rest : List Value, w.heap[g]? = some (.cells (numCells k l ++ rest).toArray E (0, 0))
theorem numCells_len (k : IntKind) (l : List Nat) : (numCells k l).length = l.length := by simp [numCells]
theorem numCells_get {k : IntKind} {l : List Nat} {i : Nat} (h : i < l.length) : (numCells k l)[i]? = some (.int k (l[i] : Int)) := by simp [numCells, h]
theorem NBx.lt {w : World} {g E : Nat} {k : IntKind} {l : List Nat} (h : NBx w g E k l) : g < w.heap.size := by
 obtain ⟨r, h⟩ := h
 exact (Array.getElem?_eq_some_iff.1 h).1
theorem NBx.keep {w w' : World} {g E : Nat} {k : IntKind} {l : List Nat} (h : NBx w g E k l) (hg : w'.heap[g]? = w.heap[g]?) : NBx w' g E k l := by
 obtain ⟨r, h⟩ := h
 exact ⟨r, hg.trans h⟩
theorem NBx.cell {w : World} {g E : Nat} {k : IntKind} {l : List Nat} (h : NBx w g E k l) {i : Nat} (hi : i < l.length) : w.cell? ⟨g, i, none⟩ = some (.int k (l[i] : Int)) := by
 obtain ⟨r, h⟩ := h
 have := cell_of_row w g i _ _ _ h
 rw [this]
 rw [List.getElem?_toArray, List.getElem?_append_left (by rw [numCells_len]; exact hi), numCells_get hi]
theorem NBx.frozen {w : World} {g E : Nat} {k : IntKind} {l : List Nat} (h : NBx w g E k l) (i : Nat) : w.frozen? ⟨g, i, none⟩ = false := by
 obtain ⟨r, h⟩ := h
 simp [World.frozen?, h]
theorem NBx.rd {w : World} {g E : Nat} {k : IntKind} {l : List Nat} (h : NBx w g E k l) : Rd w w.heap.size 1 (some ⟨g, 0, none⟩) (nums k l) := by
 intro i cs hi
 unfold nums at hi
 rw [List.getElem?_map] at hi
 obtain ⟨n, hn, rfl⟩ := Option.map_eq_some_iff.1 hi
 have hil := (List.getElem?_eq_some_iff.1 hn).1
 refine ⟨g, 0, rfl, h.lt, rfl, fun j u hu => ?_⟩
 match j, hu with
 | 0, hu =>
  simp at hu
  subst hu
  have := h.cell hil
  rw [List.getElem?_eq_getElem hil] at hn
  injection hn with hn
  rw [hn] at this
  rw [Nat.mul_one, Nat.add_zero, Nat.zero_add]
  exact this
theorem NBx.ld {P : Program} {w : World} {T : Nat} {d : TypeDesc} (hT : P.underlying T = some d) (hd : (match d with | .struct _ | .array _ _ => false | _ => true) = true) {g E : Nat} {k : IntKind} {l : List Nat} (h : NBx w g E k l) {i : Nat} (hi : i < l.length) : (loadVar T ⟨g, i, none⟩).run P w = .ok (.int k (l[i] : Int)) w :=
 run_load_cell hT hd (h.cell hi)
theorem cells_set {k : IntKind} {l : List Nat} {r : List Value} {i : Nat} (hi : i < l.length) (m : Nat) : (numCells k l ++ r).take i ++ [Value.int k (m : Int)] ++ (numCells k l ++ r).drop (i + 1) = numCells k (l.set i m) ++ r := by
 have e : (numCells k l ++ r).set i (Value.int k (m : Int)) = numCells k (l.set i m) ++ r := by
  rw [List.set_append_left _ _ (by rw [numCells_len]; exact hi)]
  unfold numCells
  rw [List.map_set]
 rw [← e, List.set_eq_take_append_cons_drop, if_pos (by simp [numCells_len]; omega)]
 simp
theorem wpList_setx {P : Program} {w : World} {ops : Array Oper} {rest : List Oper} {o : Oper} {a : Act} {Q : Exit → Act → World → Prop} {T g E i : Nat} {k : IntKind} {l : List Nat} {v : Int} {m : Nat} (hgd : o.guard = none) (x y : Operand) (ho : o.op = .store T x y) (hx : a.eval x = .pointer (some ⟨g, i, none⟩)) (hy : a.eval y = .int k v) (hv : v = (m : Int)) (hi : (P.info? T).map (·.size) = some 1)
 (hnb : NBx w g E k l) (hil : i < l.length)
 (h : ∀ w', NBx w' g E k (l.set i m) → w.grownBy w' (some g) → wpList P ops Q rest (a.put o.dst undef) w') : wpList P ops Q (o :: rest) a w := by
 subst hv
 obtain ⟨r, hr⟩ := hnb
 refine wpList_st (cs := [.int k (m : Int)]) hgd x y ho hx hy hi rfl rfl hr (by simp [numCells_len]; omega) (by simp [Value.oneCell']) fun cur' w' hc hs hg hgr => h w' ⟨r, ?_⟩ hgr
 rw [hg]
 congr 2
 apply Array.ext'
 rw [hc]
 exact cells_set hil m
theorem heap_setCell {w : World} {b : Nat} {c : Array Value} {t : TypeId} {fr : Nat × Nat} (h : w.heap[b]? = some (.cells c t fr)) (i : Nat) (u : Value) : (w.setCell ⟨b, i, none⟩ u).heap[b]? = some (.cells (c.setIfInBounds i u) t fr) := by
 have hlt := lt_of_block h
 have h' : w.heap[b] = .cells c t fr := by simpa [Array.getElem?_eq_getElem hlt] using h
 show (w.heap.modify b _)[b]? = _
 rw [Array.getElem?_eq_getElem (by simpa using hlt), Array.getElem_modify_self, h']
 rfl
theorem NBx.setCell {w : World} {g E : Nat} {k : IntKind} {l : List Nat} (h : NBx w g E k l) {i : Nat} (hi : i < l.length) (m : Nat) : NBx (w.setCell ⟨g, i, none⟩ (.int k (m : Int))) g E k (l.set i m) := by
 obtain ⟨r, hr⟩ := h
 refine ⟨r, ?_⟩
 rw [heap_setCell hr]
 congr 2
 apply Array.ext'
 rw [Array.toList_setIfInBounds, List.toList_toArray, List.toList_toArray]
 rw [List.set_append_left _ _ (by rw [numCells_len]; exact hi)]
 unfold numCells
 rw [List.map_set]
theorem NBx.other {w : World} {g E : Nat} {k : IntKind} {l : List Nat} (h : NBx w g E k l) {p : Addr} (hne : g ≠ p.block) (u : Value) : NBx (w.setCell p u) g E k l := h.keep (Below.heap_setCell _ _ _ _ hne)
theorem u32_ei : EI Try.prog 108 34 1 4 := EI.mk (z := .int .u32 0) Try.underlying108 (by kernel_rfl) rfl (by omega)
theorem int_ei : EI Try.prog 42 3 1 8 := EI.mk (z := .int .i64 0) Try.underlying42 (by kernel_rfl) rfl (by omega)
theorem OwnS.empty_new (w : World) (base e size : Nat) (hb : base ≤ w.heap.size) : OwnS (w.alloc (.cells #[] e)) base e size (some ⟨w.heap.size, 0, none⟩) 0 [] :=
 ⟨⟨by simp, .inr ⟨w.heap.size, 0, #[], rfl, hb, heap_alloc_new w _, Nat.le_refl _, Nat.zero_le _, by simp, by simp⟩⟩, by simp⟩
theorem OwnS.nbx {w : World} {base e c : Nat} {A : Option Addr} {k : IntKind} {l : List Nat} (h : OwnS w base e 1 A c (nums k l)) (hl : 0 < l.length) : ∃ g, A = some ⟨g, 0, none⟩ ∧ base ≤ g ∧ NBx w g e k l := by
 rcases h.1.2 with ⟨h1, h2⟩ | ⟨g, cap, cur, h1, hb, hg, _, _, hs, htk⟩
 · rw [nums_len] at h2
   omega
 · simp at h1
   obtain ⟨rfl, rfl⟩ := h1
   refine ⟨g, rfl, hb, cur.toList.drop l.length, ?_⟩
   rw [hg]
   congr 2
   apply Array.ext'
   rw [List.toList_toArray]
   rw [nums_len, Nat.mul_one, nums_flat] at htk
   unfold numCells
   rw [← htk, List.take_append_drop]
set_option maxRecDepth 100000 in
theorem clone_nat (A : Option Addr) (c x : Nat) (n : Nat) (hn : n = len32 x) (w : World) (hA : Rd32 w A x) (hl : len32 x ≤ 1000) :
 Calls Try.prog 89 #[.slice A n c] w fun e w' => ∃ A' c', e = .returned (.slice A' (len32 x) c') ∧ OwnS w' w.heap.size 34 1 A' c' (nums .u32 (dig B32 x)) ∧ len32 x ≤ c' ∧ Below w.heap.size w w' := by
 subst hn
 cases A with
 | none =>
  have hl0 : dig B32 x = [] := by
   rcases hd : dig B32 x with _ | ⟨d, l⟩
   · rfl
   · unfold Rd32 at hA
     rw [hd] at hA
     obtain ⟨_, _, h, _⟩ := hA 0 [.int .u32 (d : Int)] rfl
     cases h
  have hl1 : len32 x = 0 := by show (dig B32 x).length = 0; rw [hl0]; rfl
  rw [hl1, hl0]
  have heq := fun w => Go.Lib.run_eql_slice_nil (P := Try.prog) w 108 34 none 0 c 0 0 Try.underlying108
  go_enter Try.func89, Try.ntmps89
  go_wp2
  go_ret
  exact ⟨none, 0, rfl, OwnS.nil _ _ _ _, Nat.zero_le _, Below.refl _ _⟩
 | some ad =>
  obtain ⟨l, hld⟩ : ∃ l, l = dig B32 x := ⟨_, rfl⟩
  have hll : len32 x = l.length := by rw [hld]
  rw [hll] at hl
  rw [hll]
  unfold Rd32 at hA
  rw [← hld] at hA ⊢
  clear hll hld
  have heq := fun w => Go.Lib.run_eql_slice_nil (P := Try.prog) w 108 34 (some ad) l.length c 0 0 Try.underlying108
  have hb1 : Below w.heap.size w (w.alloc (Obj.cells #[] 34)) := (Below.refl _ _).alloc (Nat.le_refl _) _
  have HRD := Lib.hid ((hA.below hb1 (Nat.le_refl _)).more hb1.size)
  have HOW := Lib.hid (OwnS.empty_new w w.heap.size 34 1 (Nat.le_refl _))
  have HB1 := Lib.hid hb1
  clear hA hb1
  go_enter Try.func89, Try.ntmps89
  go_wp2_with (first
   | (at_builtin; go_loud (refine wpList_append_n rfl _ _ rfl u32_ei 0 rfl rfl HOW.out rfl _ HRD.out (by rw [nums_len]) (nums_ones _ l) (by unfold maxLen; simp; omega) (by simp; omega) HB1.out.size ?_); intro A4 c4 w4 hown4 hg4 hb4))
  go_ret
  have hcap := hown4.cap.1
  rw [List.nil_append, nums_len] at hcap
  exact ⟨A4, c4, by simp, by simpa using hown4, hcap, HB1.out.trans hb4⟩
set_option maxRecDepth 100000 in
set_option maxHeartbeats 4000000 in
theorem frac_minus (A D : Option Addr) (ca cd x y n m : Nat) (hn : n = len32 x) (hm : m = len32 y) (w : World) (h : Rd32 w A x) (h' : Rd32 w D y) (hx : len32 x ≤ 1000) (hxy : y ≤ x) :
 Calls Try.prog 88 #[.slice A n ca, .slice D m cd] w fun e w' => ∃ A' c', e = .returned (.slice A' (len32 (x - y)) c') ∧ Rd32 w' A' (x - y) ∧ len32 (x - y) ≤ c' ∧ Below w.heap.size w w' := by
 subst hn hm
 obtain ⟨len, hlen⟩ : ∃ len, len = len32 x := ⟨_, rfl⟩
 have hly : len32 y ≤ len := by
  rw [hlen]
  exact dig_len_le hB32 (Nat.lt_of_le_of_lt hxy (lt_of_dig_len hB32 (Nat.le_refl _)))
 have HC := Lib.hid (clone_nat A ca x (len32 x) rfl w h hx)
 rw [← hlen] at HC hx ⊢
 have HDX : Hid ((dig B32 x).length = len) := by unfold Hid; exact hlen.symm
 have HXY := Lib.hid hxy
 have HA' := Lib.hid h'
 have HLX := Lib.hid hlen
 clear h hxy hlen h'
 go_enter Try.func88, Try.ntmps88
 go_wp2_with (go_at_call 89; refine (HC.out).mono ?_; rintro e w1 ⟨A1, c1, rfl, hown1, hc1, hb1⟩)
 have HB1 := Lib.hid hb1
 have HC1 : Hid (len ≤ c1) := Lib.hid hc1
 have HA1 : Hid (0 < len → ∃ g, A1 = some ⟨g, 0, none⟩ ∧ w.heap.size ≤ g ∧ NBx w1 g 34 .u32 (dig B32 x)) := by
  unfold Hid
  intro h0
  obtain ⟨g, h1, h2, h3⟩ := hown1.nbx (by have := HDX.out; omega)
  exact ⟨g, h1, h2, h3⟩
 clear hown1 hb1 hc1
 go_loopw [6, 13] (fun ov i wr => ∃ (k ow : Nat) (o : List Nat), k ≤ len ∧ i = .int .i64 k ∧ ov = .int .u64 ow ∧ ow ≤ 1 ∧ o.length = len ∧ Digs B32 o ∧ (0 < len → ∀ g, A1 = some ⟨g, 0, none⟩ → NBx wr g 34 .u32 o) ∧ Below w.heap.size w wr ∧ o.drop k = (dig B32 x).drop k ∧ valB B32 (o.take k) + valB B32 ((dig B32 y).take k) = valB B32 ((dig B32 x).take k) + B32 ^ k * ow) (fun _ i _ => len - (intOf i).toNat)
 case atStart =>
  refine ⟨0, 0, dig B32 x, Nat.zero_le _, rfl, rfl, by omega, HDX.out, Digs.dig hB32 x, fun h0 g hg => ?_, HB1.out, rfl, by simp [valB]⟩
  obtain ⟨g', h1, _, h3⟩ := HA1.out h0
  rw [hg] at h1
  injection h1 with h1
  injection h1 with h1
  rw [h1]
  exact h3
 case round =>
  obtain ⟨k, ow, o, hk, rfl, rfl, how, hol, hod, hown, hbw, hdr, hval⟩ := hrel
  have HV := Lib.hid hval
  have HNB := Lib.hid hown
  have HBW := Lib.hid hbw
  have HOD := Lib.hid hod
  have HDR := Lib.hid hdr
  clear hval hown hbw hod hdr
  by_cases hkm : k < len
  · have hko : k < o.length := by omega
    obtain ⟨g, rfl, hg0, _⟩ := HA1.out (by omega)
    have HNG := Lib.hid (HNB.out (by omega) g rfl)
    have hkx : k < (dig B32 x).length := by have := HDX.out; omega
    have hoU : o[k] = (dig B32 x)[k] := by
     have h1 := congrArg (fun l => l[0]?) HDR.out
     simpa [hko, hkx] using h1
    have HL1 : Hid ((loadVar 34 ⟨g, k, none⟩).run Try.prog wr = .ok (.int .u32 (o[k] : Int)) wr) := Lib.hid (HNG.out.ld (P := Try.prog) (i := k) Try.underlying34 rfl hko)
    have hxa : o[k] < 4294967296 := HOD.out.get hko
    have HXD : Hid ((dig B32 x).getD k 0 = o[k]) := by unfold Hid; rw [hoU]; simp [hkx]
    clear hoU hkx HNB
    generalize o[k] = xa at *
    obtain ⟨z1, hz1⟩ : ∃ z1, z1 = (xa + 18446744073709551616 - ow) % 18446744073709551616 := ⟨_, rfl⟩
    have wa := wrap_u64 (n := (xa : Int)) (by omega) (by omega)
    have w5' : IntKind.u64.wrap ((xa : Int) - (ow : Int)) = (z1 : Int) := by rw [wrap_u64_sub _ _ (by omega), hz1]
    by_cases hkl : k < len32 y
    · obtain ⟨b2, o2, rfl, hb2, hld2⟩ := num_ld Try.underlying34 rfl (HA'.out.from HBW.out) hkl
      have HL2 := Lib.hid (hld2 wr (Below.refl _ _))
      have hyb : (dig B32 y)[k] < 4294967296 := (Digs.dig hB32 y).get hkl
      have HYD : Hid ((dig B32 y).getD k 0 = (dig B32 y)[k]) := by unfold Hid; simp [show k < (dig B32 y).length from hkl]
      generalize (dig B32 y)[k] = yb at *
      clear hld2
      obtain ⟨zz, hzz⟩ : ∃ zz, zz = (z1 + 18446744073709551616 - yb) % 18446744073709551616 := ⟨_, rfl⟩
      have wb := wrap_u64 (n := (yb : Int)) (by omega) (by omega)
      have w6' : IntKind.u64.wrap ((z1 : Int) - (yb : Int)) = (zz : Int) := by rw [wrap_u64_sub _ _ (by omega), hzz]
      obtain ⟨r, hr⟩ : ∃ r, r = zz % 4294967296 := ⟨_, rfl⟩
      obtain ⟨ow2, how2⟩ : ∃ ow2, ow2 = zz / 9223372036854775808 := ⟨_, rfl⟩
      have w7' : IntKind.u32.wrap (zz : Int) = (r : Int) := by rw [wrap_u32, hr]
      have w8' : (zz : Int) / 9223372036854775808 = (ow2 : Int) := by omega
      have how3 : ow2 ≤ 1 := by omega
      have hr1 : r < 4294967296 := by omega
      have hrel2 : r + ow + yb = xa + 4294967296 * ow2 := by omega
      have HST := Lib.hid (minus_step (B := B32) (b := dig B32 y) (i := k) (owed' := ow2) (r := r) hko HV.out (by rw [HXD.out, HYD.out]; exact hrel2))
      clear hz1 hzz hr how2 hrel2
      go_wp2_with (first
       | ((with_reducible refine g_ld 34 ?_); refine wpList_ld rfl _ _ rfl _ rfl _ HL1.out ?_; have HL3 := HL2; clear HL1)
       | ((with_reducible refine g_ld 34 ?_); refine wpList_ld rfl _ _ rfl _ rfl _ HL3.out ?_; clear HL3)
       | ((with_reducible refine g_st 34 ?_); refine wpList_setx rfl _ _ rfl rfl rfl rfl size_u32 HNG.out hko ?_; intro w4 hnb4 hg4))
      go_roundw
      case rel => exact ⟨k + 1, ow2, o.set k r, by omega, by go_num, rfl, how3, by simp [hol], HOD.out.set _ _ hr1, fun _ g' e => by injection e with e; injection e with e; subst e; exact hnb4, HBW.out.grown hg4 HBW.out.size (fun k' e => by cases e; exact hg0), drop_set_next (i := 0) (by simpa using HDR.out) |> (fun h => by simpa using h), HST.out⟩
      case measure => simp [intOf]; omega
    · have hkl' : (dig B32 y).length ≤ k := Nat.le_of_not_lt hkl
      have HYD : Hid ((dig B32 y).getD k 0 = 0) := by unfold Hid; simp [hkl']
      obtain ⟨zz, hzz⟩ : ∃ zz, zz = z1 := ⟨_, rfl⟩
      rw [← hzz] at w5' hz1
      obtain ⟨r, hr⟩ : ∃ r, r = zz % 4294967296 := ⟨_, rfl⟩
      obtain ⟨ow2, how2⟩ : ∃ ow2, ow2 = zz / 9223372036854775808 := ⟨_, rfl⟩
      have w7' : IntKind.u32.wrap (zz : Int) = (r : Int) := by rw [wrap_u32, hr]
      have w8' : (zz : Int) / 9223372036854775808 = (ow2 : Int) := by omega
      have how3 : ow2 ≤ 1 := by omega
      have hr1 : r < 4294967296 := by omega
      have hrel2 : r + ow = xa + 4294967296 * ow2 := by omega
      have HST := Lib.hid (minus_step (B := B32) (b := dig B32 y) (i := k) (owed' := ow2) (r := r) hko HV.out (by rw [HXD.out, HYD.out]; exact hrel2))
      clear hz1 hzz hr how2 hrel2
      go_wp2_with (first
       | ((with_reducible refine g_ld 34 ?_); refine wpList_ld rfl _ _ rfl _ rfl _ HL1.out ?_; clear HL1)
       | ((with_reducible refine g_st 34 ?_); refine wpList_setx rfl _ _ rfl rfl rfl rfl size_u32 HNG.out hko ?_; intro w4 hnb4 hg4))
      go_roundw
      case rel => exact ⟨k + 1, ow2, o.set k r, by omega, by go_num, rfl, how3, by simp [hol], HOD.out.set _ _ hr1, fun _ g' e => by injection e with e; injection e with e; subst e; exact hnb4, HBW.out.grown hg4 HBW.out.size (fun k' e => by cases e; exact hg0), drop_set_next (i := 0) (by simpa using HDR.out) |> (fun h => by simpa using h), HST.out⟩
      case measure => simp [intOf]; omega
  · obtain rfl : k = len := by omega
    have hov : Hid (valB B32 o = x - y) := by
     unfold Hid
     have h1 := HV.out
     rw [List.take_of_length_le (Nat.le_of_eq hol), List.take_of_length_le (by show len32 y ≤ k; exact hly), List.take_of_length_le (Nat.le_of_eq HDX.out), val_dig hB32, val_dig hB32] at h1
     have h2 := valB_lt o HOD.out
     rw [hol] at h2
     have h3 := HXY.out
     have h4 : ow = 0 ∨ ow = 1 := by omega
     rcases h4 with rfl | rfl
     · rw [Nat.mul_zero] at h1; omega
     · rw [Nat.mul_one] at h1; omega
    have hrdo : Rd wr wr.heap.size 1 A1 (nums .u32 o) := by
     by_cases h0 : 0 < k
     · obtain ⟨g, hg, _, _⟩ := HA1.out h0
       have := HNB.out h0 g hg
       rw [hg]
       exact this.rd
     · have e : o = [] := List.eq_nil_of_length_eq_zero (by omega)
       rw [e]
       exact Rd.nil _ _ _ _
    have HT := Lib.hid (frac_trim A1 c1 k o hol.symm wr hrdo HOD.out (by omega) (by rw [hol]; exact HC1.out))
    have HRD := Lib.hid (rd_trim hB32 hrdo HOD.out)
    have HLEN := Lib.hid (dig_len_le hB32 (valB_lt _ HOD.out))
    rw [hov.out] at HT HRD HLEN
    rw [hol] at HLEN
    clear hrdo
    go_wp2_with (go_at_call 85; refine (HT.out).mono ?_; rintro e w5 ⟨rfl, rfl⟩)
    go_ret
    exact ⟨_, _, rfl, HRD.out, Nat.le_trans HLEN.out HC1.out, HBW.out⟩
end Go.Proofs.Ytcdfnlgimbecgaa
