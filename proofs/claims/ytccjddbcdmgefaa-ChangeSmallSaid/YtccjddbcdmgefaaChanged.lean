/-
  change.changed tells nextL.
-/
import Derived.Test.YtccjddbcdmgefaaRegion
namespace Go.Proofs.Ytccjddbcdmgefaa
open Go.RowKit

abbrev chgW (c : Chg) (w : World) : World := w.alloc (Obj.cells #[.int .u8 c.kind, .int .i64 c.call, .int .i64 c.box, .int .i64 c.kilos] 37)

theorem kind_bd (k : Int) : (kindV k).cells.size = 3 ∧ ∀ u ∈ (kindV k).cells.toList, u.oneCell' = true := by
  unfold kindV
  split
  · exact ⟨rfl, by simp [Value.cells, Value.oneCell']⟩
  · split
    · exact ⟨rfl, by simp [Value.cells, Value.oneCell']⟩
    · split
      · exact ⟨rfl, by simp [Value.cells, Value.oneCell']⟩
      · split
        · exact ⟨rfl, by simp [Value.cells, Value.oneCell']⟩
        · exact ⟨rfl, by simp [Value.cells, Value.oneCell']⟩

set_option maxRecDepth 100000 in
set_option maxHeartbeats 4000000 in
theorem changed_bad (A : Option Addr) (c : Nat) (l : List Box) (n : Nat) (hn : n = l.length) (calls now : Int) (x : Chg) (w : World) (hA : Rd w w.heap.size 9 A (l.map Box.cells)) (hl : l.length ≤ 1000000) (hk0 : 0 ≤ x.kind) (hk : x.kind ≤ 255) (hk1 : ¬ (1 ≤ x.kind ∧ x.kind ≤ 4)) :
    Calls Try.prog 37 #[.slice A n c, .int .i64 calls, .int .i64 now, .agg #[.int .u8 x.kind, .int .i64 x.call, .int .i64 x.box, .int .i64 x.kilos]] w fun e w' => e = .returned (.tuple #[.slice none 0 0, .int .i64 371]) ∧ Below w.heap.size w w' := by
  subst hn
  obtain ⟨W, hW⟩ : ∃ W, W = w.alloc (Obj.cells #[.int .u8 x.kind, .int .i64 x.call, .int .i64 x.box, .int .i64 x.kilos] 37) := ⟨_, rfl⟩
  have hb : Below w.heap.size w W := by rw [hW]; exact (Below.refl _ _).alloc (Nat.le_refl _) _
  have hc : W.heap[w.heap.size]? = some (.cells #[.int .u8 x.kind, .int .i64 x.call, .int .i64 x.box, .int .i64 x.kilos] 37 (0, 0)) := by rw [hW]; exact heap_alloc_new w _
  have hcl : w.heap.size < W.heap.size := (Array.getElem?_eq_some_iff.1 hc).1
  have HC : Hid (∀ w' j, From W w' → w'.cell? ⟨w.heap.size, j, none⟩ = (#[.int .u8 x.kind, .int .i64 x.call, .int .i64 x.box, .int .i64 x.kilos] : Array Value)[j]?) := fun w' j hb => by rw [cell_of_row w' w.heap.size j _ _ _ ((hb.block _ hcl).trans hc)]
  have HB := Lib.hid hb
  have HLD : Hid (∀ w', From W w' → (loadVar 5 ⟨w.heap.size, 0, none⟩).run Try.prog w' = .ok (.int .u8 x.kind) w') := fun w' hb => run_load_cell Try.underlying5 rfl (HC.out w' 0 hb)
  have HIX : Hid (∀ w2, From W w2 → Calls Try.prog 56 #[.slice A l.length c, .func (.func 57) #[] #[.pointer (some ⟨w.heap.size, 0, none⟩)]] w2 fun e w' => e = .returned (.int .i64 (idx (fun b : Box => b.id == x.box) l)) ∧ Below w2.heap.size w2 w') := fun w2 h2 =>
    indexBox A c l _ rfl 57 #[.pointer (some ⟨w.heap.size, 0, none⟩)] _ w2 ((hA.below (hb.trans (h2.mono hb.size)) (Nat.le_refl _)).more (Nat.le_trans hb.size h2.size)) (by omega) changed_cf (fun y _ w3 h3 => changed_fn y _ _ w3 (HC.out w3 2 (h2.trans (h3.mono h2.size))))
  clear hb hc
  have HOK : Hid (decide (1 ≤ x.kind ∧ x.kind ≤ 4) = false) := by unfold Hid; simp; omega
  go_enter Try.func37, Try.ntmps37
  go_wp2
  rw [← hW]
  clear hW
  refine region_kinds (F := 55) (h := w.heap.size) (k := .int .u8 x.kind) (V := kindV x.kind) (ok := decide (1 ≤ x.kind ∧ x.kind ≤ 4)) (z := .agg #[.bool false, .nilFunc, .nilFunc]) rfl (by kernel_rfl) (by kernel_rfl) (by kernel_rfl) ?_ ?_ ?_ HLD.out rfl (by simp) kindZero rfl (by kernel_rfl) (kind_bd _).1 (kind_bd _).2 ?_
  · intro a w
    go_simp
  · intro w1 h1
    exact (change_kinds w1).mono fun e w' ⟨b, h1, h2, h3⟩ => ⟨b, h1, fun w2 hb => h2 w2 hb _ hk0 hk, h3⟩
  · intro a w h
    unfold execOp
    simp only [h]
    go_simp
  rw [HOK.out]
  intro b g w1 hg hcell hb1
  unfold regFin
  simp only [Act.put, List.setIfInBounds_toArray, List.set_cons_succ, List.set_cons_zero]
  clear hcell
  go_wp2_with (go_at_call 56; refine (HIX.out _ hb1).mono ?_; rintro e w2 ⟨rfl, hb2⟩)
  go_ret2
  exact ⟨rfl, HB.out.trans ((hb1.trans (hb2.mono hb1.size)).mono HB.out.size)⟩

theorem fn_cf (f : FuncId) (h : f = 66 ∨ f = 68 ∨ f = 69 ∨ f = 70 ∨ f = 71 ∨ f = 67) (w : World) (args : Array Value) : (callFunc f args).run Try.prog w = .ok (.enter f args) w := by
  rcases h with rfl | rfl | rfl | rfl | rfl | rfl <;> go_simp

set_option maxRecDepth 100000 in
set_option maxHeartbeats 4000000 in
theorem changed_skip (A : Option Addr) (c : Nat) (l : List Box) (n : Nat) (hn : n = l.length) (calls now : Int) (x : Chg) (w : World) (hA : Rd w w.heap.size 9 A (l.map Box.cells)) (hl : l.length ≤ 1000000) (hk1 : x.kind = 1) (hc0 : 2 ≤ calls) (hc1 : calls ≤ 20) (hinv : InvB l) :
    Calls Try.prog 37 #[.slice A n c, .int .i64 calls, .int .i64 now, .agg #[.int .u8 x.kind, .int .i64 x.call, .int .i64 x.box, .int .i64 x.kilos]] w fun e w' => ∃ A' c', e = .returned (.tuple #[.slice A' (nextL l calls now x.kind x.call x.box x.kilos).1.length c', .int .i64 (nextL l calls now x.kind x.call x.box x.kilos).2]) ∧
      OwnS w' w.heap.size 73 9 A' c' ((nextL l calls now x.kind x.call x.box x.kilos).1.map Box.cells) ∧ Below w.heap.size w w' := by
  have hk0 : 0 ≤ x.kind := by omega
  have hk : x.kind ≤ 255 := by omega
  subst hn
  obtain ⟨W, hW⟩ : ∃ W, W = w.alloc (Obj.cells #[.int .u8 x.kind, .int .i64 x.call, .int .i64 x.box, .int .i64 x.kilos] 37) := ⟨_, rfl⟩
  have hb : Below w.heap.size w W := by rw [hW]; exact (Below.refl _ _).alloc (Nat.le_refl _) _
  have hc : W.heap[w.heap.size]? = some (.cells #[.int .u8 x.kind, .int .i64 x.call, .int .i64 x.box, .int .i64 x.kilos] 37 (0, 0)) := by rw [hW]; exact heap_alloc_new w _
  have hcl : w.heap.size < W.heap.size := (Array.getElem?_eq_some_iff.1 hc).1
  have HC : Hid (∀ w' j, From W w' → w'.cell? ⟨w.heap.size, j, none⟩ = (#[.int .u8 x.kind, .int .i64 x.call, .int .i64 x.box, .int .i64 x.kilos] : Array Value)[j]?) := fun w' j hb => by rw [cell_of_row w' w.heap.size j _ _ _ ((hb.block _ hcl).trans hc)]
  have HB := Lib.hid hb
  have HLD : Hid (∀ w', From W w' → (loadVar 5 ⟨w.heap.size, 0, none⟩).run Try.prog w' = .ok (.int .u8 x.kind) w') := fun w' hb => run_load_cell Try.underlying5 rfl (HC.out w' 0 hb)
  have HIX : Hid (∀ w2, From W w2 → Calls Try.prog 56 #[.slice A l.length c, .func (.func 57) #[] #[.pointer (some ⟨w.heap.size, 0, none⟩)]] w2 fun e w' => e = .returned (.int .i64 (idx (fun b : Box => b.id == x.box) l)) ∧ Below w2.heap.size w2 w') := fun w2 h2 =>
    indexBox A c l _ rfl 57 #[.pointer (some ⟨w.heap.size, 0, none⟩)] _ w2 ((hA.below (hb.trans (h2.mono hb.size)) (Nat.le_refl _)).more (Nat.le_trans hb.size h2.size)) (by omega) changed_cf (fun y _ w3 h3 => changed_fn y _ _ w3 (HC.out w3 2 (h2.trans (h3.mono h2.size))))
  clear hb hc
  have HOK : Hid (decide (1 ≤ x.kind ∧ x.kind ≤ 4) = true) := by unfold Hid; simp; omega
  have HK1 := Lib.hid hk1
  have HINV := Lib.hid hinv
  clear hinv hk1
  go_enter Try.func37, Try.ntmps37
  go_wp2
  rw [← hW]
  clear hW
  refine region_kinds (F := 55) (h := w.heap.size) (k := .int .u8 x.kind) (V := kindV x.kind) (ok := decide (1 ≤ x.kind ∧ x.kind ≤ 4)) (z := .agg #[.bool false, .nilFunc, .nilFunc]) rfl (by kernel_rfl) (by kernel_rfl) (by kernel_rfl) ?_ ?_ ?_ HLD.out rfl (by simp) kindZero rfl (by kernel_rfl) (kind_bd _).1 (kind_bd _).2 ?_
  · intro a w
    go_simp
  · intro w1 h1
    exact (change_kinds w1).mono fun e w' ⟨b, h1, h2, h3⟩ => ⟨b, h1, fun w2 hb => h2 w2 hb _ hk0 hk, h3⟩
  · intro a w h
    unfold execOp
    simp only [h]
    go_simp
  rw [HOK.out]
  intro b g w1 hg hcell hb1
  unfold regFin
  simp only [Act.put, List.setIfInBounds_toArray, List.set_cons_succ, List.set_cons_zero]
  rw [HK1.out] at hcell
  have hgl : g < w1.heap.size := (Array.getElem?_eq_some_iff.1 hcell).1
  have KC : Hid (∀ w' j, From w1 w' → w'.cell? ⟨g, j, none⟩ = (#[.bool true, .nilFunc, .func (.func 66) #[] #[]] : Array Value)[j]?) := fun w' j hb => by rw [cell_of_row w' g j _ _ _ ((hb.block _ hgl).trans hcell)]; rfl
  clear hcell hk0 hk
  by_cases h1 : x.call < 0
  · have HV : Hid (nextL l calls now x.kind x.call x.box x.kilos = ([], 6)) := by unfold Hid nextL; rw [HK1.out, if_neg (by omega), if_pos rfl, if_pos (.inl h1)]
    go_wp2_with (first
      | (go_at_call 56; refine (HIX.out _ hb1).mono ?_; rintro e w2 ⟨rfl, hb2⟩; have k0 : w2.cell? ⟨g, 0, none⟩ = some (.bool true) := KC.out w2 0 hb2; have d1 : w2.cell? ⟨w.heap.size, 1, none⟩ = some (.int .i64 x.call) := HC.out w2 1 (hb1.trans (hb2.mono hb1.size)))
      )
    go_ret2
    exact ⟨none, 0, by rw [HV.out]; rfl, by rw [HV.out]; exact OwnS.nil _ _ _ _, HB.out.trans ((hb1.trans (hb2.mono hb1.size)).mono HB.out.size)⟩
  by_cases h2 : calls - 1 ≤ x.call
  · have HV : Hid (nextL l calls now x.kind x.call x.box x.kilos = ([], 6)) := by unfold Hid nextL; rw [HK1.out, if_neg (by omega), if_pos rfl, if_pos (.inr (by omega))]
    go_wp2_with (first
      | (go_at_call 56; refine (HIX.out _ hb1).mono ?_; rintro e w2 ⟨rfl, hb2⟩; have k0 : w2.cell? ⟨g, 0, none⟩ = some (.bool true) := KC.out w2 0 hb2; have d1 : w2.cell? ⟨w.heap.size, 1, none⟩ = some (.int .i64 x.call) := HC.out w2 1 (hb1.trans (hb2.mono hb1.size)))
      )
    go_ret2
    exact ⟨none, 0, by rw [HV.out]; rfl, by rw [HV.out]; exact OwnS.nil _ _ _ _, HB.out.trans ((hb1.trans (hb2.mono hb1.size)).mono HB.out.size)⟩
  by_cases h3 : x.call < now
  · have HV : Hid (nextL l calls now x.kind x.call x.box x.kilos = ([], 370)) := by unfold Hid nextL; rw [HK1.out, if_neg (by omega), if_pos rfl, if_neg (by omega), if_pos h3]
    go_wp2_with (first
      | (go_at_call 56; refine (HIX.out _ hb1).mono ?_; rintro e w2 ⟨rfl, hb2⟩; have k0 : w2.cell? ⟨g, 0, none⟩ = some (.bool true) := KC.out w2 0 hb2; have d1 : w2.cell? ⟨w.heap.size, 1, none⟩ = some (.int .i64 x.call) := HC.out w2 1 (hb1.trans (hb2.mono hb1.size)))
      )
    go_ret2
    exact ⟨none, 0, by rw [HV.out]; rfl, by rw [HV.out]; exact OwnS.nil _ _ _ _, HB.out.trans ((hb1.trans (hb2.mono hb1.size)).mono HB.out.size)⟩
  have HV : Hid (nextL l calls now x.kind x.call x.box x.kilos = (skipL l x.call, 0)) := by unfold Hid nextL; rw [HK1.out, if_neg (by omega), if_pos rfl, if_neg (by omega), if_neg h3]
  go_wp2_with (first
    | (go_at_call 56; refine (HIX.out _ hb1).mono ?_; rintro e w2 ⟨rfl, hb2⟩; have k0 : w2.cell? ⟨g, 0, none⟩ = some (.bool true) := KC.out w2 0 hb2; have d1 : w2.cell? ⟨w.heap.size, 1, none⟩ = some (.int .i64 x.call) := HC.out w2 1 (hb1.trans (hb2.mono hb1.size)))
    )
  have HKL : Hid (∀ w', From w2 w' → (loadVar 4 ⟨g, 0, none⟩).run Try.prog w' = .ok (.bool true) w') := fun w' h => run_load_cell Try.underlying4 rfl (KC.out w' 0 (hb2.trans (h.mono hb2.size)))
  clear k0 d1
  refine wp_region_below (by kernel_rfl) (by kernel_rfl) w2.heap.size ?_
  repeat (first | go_big_quiet_skip | (go_big_quiet_want; refine quiet_ld 4 _ rfl _ rfl _ (fun w' hC => HKL.out w' hC) ?_; simp only [Act.put, List.setIfInBounds_toArray, List.set_cons_succ, List.set_cons_zero]; go_big_quiet_on) | go_big_quiet_step (first | (intro hC; rfl) | (intro hC; exact ⟨rfl, rfl⟩)))
  refine wpQuiet_nil ?_
  intro w3 hC3
  have hb3 : From w1 w3 := hb2.trans (hC3.mono hb2.size)
  have HBW : Hid (From W w3) := hb1.trans (hb3.mono hb1.size)
  have HBw : Hid (Below w.heap.size w w3) := HB.out.trans (HBW.out.mono HB.out.size)
  have HB3 := Lib.hid hb3
  have HA3 : Hid (Rd w3 w3.heap.size 9 A (l.map Box.cells)) := (hA.below HBw.out (Nat.le_refl _)).more HBw.out.size
  have hgl3 : g < w3.heap.size := Nat.lt_of_lt_of_le hgl hb3.size
  have hcl3 : w.heap.size < w3.heap.size := Nat.lt_of_lt_of_le hcl HBW.out.size
  have hcf := fn_cf 66 (.inl rfl)
  have HIXD : Hid True := trivial
  clear HIX hb1 hb2 hC3 hb3 hA HKL HLD HOK HB HIXD
  go_wp2
  go_loopw [13, 77] (fun v i wr => ∃ k : Nat, k ≤ l.length ∧ i = .int .i64 k ∧ (∃ D d, v = .slice D (skipL (l.take k) x.call).length d ∧ OwnS wr w3.heap.size 73 9 D d ((skipL (l.take k) x.call).map Box.cells)) ∧ From w3 wr) (fun _ i _ => l.length - (intOf i).toNat)
  case atStart => exact ⟨0, by omega, rfl, ⟨none, 0, rfl, OwnS.nil _ _ _ _⟩, Below.refl _ _⟩
  case round =>
    obtain ⟨kk, hkk, rfl, ⟨D, d, rfl, hown⟩, hbr⟩ := hrel
    have hlen := skipL_len (l.take kk) x.call
    rw [List.length_take_of_le hkk] at hlen
    by_cases hlt : kk < l.length
    · obtain ⟨bb, off, rfl, _, hld⟩ := Box.ld HA3.out (map_get Box.cells l kk hlt)
      have HL := Lib.hid (hld wr hbr)
      have hst := skipL_succ l x.call kk hlt
      rw [skipB_eq] at hst
      have HST := Lib.hid hst
      have hbs := hbr.size
      have hbi := HINV.out _ (List.getElem_mem hlt)
      have hgr : g < wr.heap.size := by omega
      have hcr : w.heap.size < wr.heap.size := by omega
      have k0 : wr.cell? ⟨g, 0, none⟩ = some (.bool true) := KC.out wr 0 (HB3.out.trans (hbr.mono HB3.out.size))
      have k2 : wr.cell? ⟨g, 2, none⟩ = some (.func (.func 66) #[] #[]) := KC.out wr 2 (HB3.out.trans (hbr.mono HB3.out.size))
      have d0 : wr.cell? ⟨w.heap.size, 0, none⟩ = some (.int .u8 x.kind) := HC.out wr 0 (HBW.out.trans (hbr.mono HBW.out.size))
      have d1 : wr.cell? ⟨w.heap.size, 1, none⟩ = some (.int .i64 x.call) := HC.out wr 1 (HBW.out.trans (hbr.mono HBW.out.size))
      have d2 : wr.cell? ⟨w.heap.size, 2, none⟩ = some (.int .i64 x.box) := HC.out wr 2 (HBW.out.trans (hbr.mono HBW.out.size))
      have d3 : wr.cell? ⟨w.heap.size, 3, none⟩ = some (.int .i64 x.kilos) := HC.out wr 3 (HBW.out.trans (hbr.mono HBW.out.size))
      have HBX : Hid (BoxAt (boxA l[kk] wr) wr.heap.size l[kk]) := heap_alloc_new wr _
      have HFX : Hid (From wr (boxA l[kk] wr)) := (Below.refl _ _).alloc (Nat.le_refl _) _
      clear hld hst
      by_cases hq : l[kk].load = x.call
      · have hq1 : (l[kk].load != x.call) = false := by simpa using hq
        have HS1 : Hid (skipL (l.take (kk + 1)) x.call = skipL (l.take kk) x.call) := by unfold Hid; rw [HST.out, if_pos hq, List.append_nil]
        clear hq
        go_wp2_with (first
          | ((with_reducible refine g_ld 73 ?_); refine wpList_ld rfl _ _ rfl _ rfl _ HL.out ?_)
          | (go_at_call 66; refine (kind_skip l[kk] wr.heap.size x _ HBX.out (by omega) (by omega)).mono ?_; rintro e w4 ⟨rfl, hbox4, hb4⟩; have hld4 := box_ldBlock (b := skip1 x.call l[kk]) hbox4; have hown4 := hown.below (HFX.out.trans hb4) (Nat.le_refl _); have hs4 := Nat.le_trans HFX.out.size hb4.size)
          )
        go_roundw
        case rel => exact ⟨kk + 1, by omega, by go_num, ⟨D, d, by rw [HS1.out], by rw [HS1.out]; exact hown4⟩, hbr.trans ((HFX.out.trans (hb4.mono (Nat.le_refl _))).mono hbs)⟩
        case measure => simp [intOf]; omega
      · have hq1 : (l[kk].load != x.call) = true := by simpa using hq
        have HS1 : Hid (skipL (l.take (kk + 1)) x.call = skipL (l.take kk) x.call ++ [skip1 x.call l[kk]]) := by unfold Hid; rw [HST.out, if_neg hq]
        clear hq
        go_wp2_with (first
          | ((with_reducible refine g_ld 73 ?_); refine wpList_ld rfl _ _ rfl _ rfl _ HL.out ?_)
          | (go_at_call 66; refine (kind_skip l[kk] wr.heap.size x _ HBX.out (by omega) (by omega)).mono ?_; rintro e w4 ⟨rfl, hbox4, hb4⟩; have hld4 := box_ldBlock (b := skip1 x.call l[kk]) hbox4; have hown4 := hown.below (HFX.out.trans hb4) (Nat.le_refl _); have hs4 := Nat.le_trans HFX.out.size hb4.size)
          | ((with_reducible refine g_ld 73 ?_); refine wpList_ld rfl _ _ rfl _ rfl _ hld4 ?_)
          | (at_builtin; go_loud (refine wpList_append_n rfl _ _ rfl Box.ei (skipL (l.take kk) x.call).length (by simp) rfl (hown4.alloc _) rfl _ (Rd.new2 _ 73 9 (Box.cells (skip1 x.call l[kk])) rfl) rfl (Box.ones [_]) (by unfold maxLen; simp; omega) (by simp; omega) (by simp; omega) ?_); intro A5 c5 w5 hown5 hg5 hb5))
        go_roundw
        case rel => exact ⟨kk + 1, by omega, by go_num, ⟨A5, c5, by rw [HS1.out]; simp, by rw [HS1.out]; simpa using hown5⟩, (hbr.trans ((HFX.out.trans (hb4.mono (Nat.le_refl _))).mono hbs)).trans (((Below.refl _ _).alloc (by omega) _).trans hb5)⟩
        case measure => simp [intOf]; omega
    · obtain rfl : kk = l.length := by omega
      rw [List.take_length] at hown hlen
      have HTL : Hid (l.take l.length = l) := List.take_length
      go_wp2
      go_ret2
      exact ⟨D, d, by rw [HV.out, HTL.out]; rfl, by rw [HV.out]; exact hown.base_le HBw.out.size, HBw.out.trans (hbr.mono HBw.out.size)⟩
end Go.Proofs.Ytccjddbcdmgefaa
