/-
  change.Boxes and change.All tell boxesL and allL; what All returns is the call's own.
-/
import Derived.Test.YtccjddbcdmgefaaChangedB
namespace Go.Proofs.Ytccjddbcdmgefaa
open Go.RowKit

theorem chg_ldBlock {b : Chg} {w : World} {g : Nat} (h : w.heap[g]? = some (.cells #[.int .u8 b.kind, .int .i64 b.call, .int .i64 b.box, .int .i64 b.kilos] 37 (0, 0))) :
    (loadVar 37 ⟨g, 0, none⟩).run Try.prog w = .ok b.val w :=
  run_load_cells (cs := b.cells) Chg.row rfl (fun j u hu => by
    rw [Addr.add_lit, cell_of_row w g (0 + j) _ _ _ h]
    simpa [Chg.cells] using hu)

set_option maxRecDepth 100000 in
set_option maxHeartbeats 2000000 in
theorem change_boxes (A : Option Addr) (c : Nat) (l : List Box) (n : Nat) (hn : n = l.length) (calls now : Int) (x : Chg) (w : World) (hA : Rd w w.heap.size 9 A (l.map Box.cells)) (hl : l.length ≤ 1000000) (hnum : ∀ b ∈ l, b.num.size ≤ 140737488351232) (hk0 : 0 ≤ x.kind) (hk : x.kind ≤ 255) :
    Calls Try.prog 18 #[.slice A n c, .int .i64 calls, .int .i64 now, .agg #[.int .u8 x.kind, .int .i64 x.call, .int .i64 x.box, .int .i64 x.kilos]] w fun e w' => ∃ A' c', e = .returned (.tuple #[.slice A' (boxesL l calls now x).1.length c', .int .i64 (boxesL l calls now x).2]) ∧
      OwnS w' w.heap.size 73 9 A' c' ((boxesL l calls now x).1.map Box.cells) ∧ Below w.heap.size w w' := by
  subst hn
  have hw1 : Below w.heap.size w (chgW x w) := (Below.refl _ _).alloc (Nat.le_refl _) _
  have hA1 := (hA.below hw1 (Nat.le_refl _)).more hw1.size
  have HC := Lib.hid (change_right A c l _ rfl calls now (chgW x w) hA1 (by omega) hnum)
  have HW1 := Lib.hid hw1
  clear hw1
  cases hr : rightB l calls now with
  | false =>
    have HV : Hid (boxesL l calls now x = ([], 2)) := by unfold Hid boxesL; rw [hr]; rfl
    go_enter Try.func18, Try.ntmps18
    go_wp2_with (go_at_call 35; refine (HC.out).mono ?_; rw [hr]; rintro e w2 ⟨rfl, hb2⟩)
    go_ret2
    exact ⟨none, 0, by rw [HV.out]; rfl, by rw [HV.out]; exact OwnS.nil _ _ _ _, HW1.out.trans (hb2.mono HW1.out.size)⟩
  | true =>
    have HV : Hid (boxesL l calls now x = nextL l calls now x.kind x.call x.box x.kilos) := by unfold Hid boxesL; rw [hr]; rfl
    obtain ⟨hc0, hc1, _, _, _, hinv⟩ := right_inv hr hnum
    have HN : Hid (∀ w2, From (chgW x w) w2 → (loadVar 37 ⟨w.heap.size, 0, none⟩).run Try.prog w2 = .ok x.val w2 ∧ Calls Try.prog 37 #[.slice A l.length c, .int .i64 calls, .int .i64 now, x.val] w2 fun e w' => ∃ A' c', e = .returned (.tuple #[.slice A' (nextL l calls now x.kind x.call x.box x.kilos).1.length c', .int .i64 (nextL l calls now x.kind x.call x.box x.kilos).2]) ∧
      OwnS w' w2.heap.size 73 9 A' c' ((nextL l calls now x.kind x.call x.box x.kilos).1.map Box.cells) ∧ Below w2.heap.size w2 w') := fun w2 h2 =>
      ⟨chg_ldBlock ((h2.block _ (by simp)).trans (heap_alloc_new w _)), change_changed A c l _ rfl calls now x w2 ((hA1.below h2 (Nat.le_refl _)).more h2.size) hl hk0 hk hc0 hc1 hinv⟩
    clear hinv hA1
    go_enter Try.func18, Try.ntmps18
    go_wp2_with (first
      | (go_at_call 35; refine (HC.out).mono ?_; rw [hr]; rintro e w2 ⟨rfl, hb2⟩)
      | ((with_reducible refine g_ld 37 ?_); refine wpList_ld rfl _ _ rfl _ rfl _ (HN.out _ hb2).1 ?_)
      | (go_at_call 37; refine ((HN.out _ hb2).2).mono ?_; rintro e w3 ⟨A3, c3, rfl, hown3, hb3⟩))
    go_ret2
    exact ⟨A3, c3, by rw [HV.out]; rfl, by rw [HV.out]; exact hown3.base_le (Nat.le_trans HW1.out.size hb2.size), HW1.out.trans ((hb2.trans (hb3.mono hb2.size)).mono HW1.out.size)⟩

set_option maxRecDepth 100000 in
set_option maxHeartbeats 4000000 in
theorem change_all (A X : Option Addr) (c cx : Nat) (l : List Box) (cs : List Chg) (n m : Nat) (hn : n = l.length) (hm : m = cs.length) (calls now : Int) (w : World) (hA : Rd w w.heap.size 9 A (l.map Box.cells)) (hX : Rd w w.heap.size 4 X (cs.map Chg.cells)) (hl : l.length ≤ 1000000) (hcs : cs.length ≤ 1000000) (hnum : ∀ b ∈ l, b.num.size ≤ 140737488351232) (hk : ∀ c ∈ cs, 0 ≤ c.kind ∧ c.kind ≤ 255) :
    Calls Try.prog 13 #[.slice A n c, .int .i64 calls, .int .i64 now, .slice X m cx] w fun e w' => ∃ A' c', e = .returned (.tuple #[.slice A' (allL l calls now cs).1.length c', .int .i64 (allL l calls now cs).2.1, .int .i64 (allL l calls now cs).2.2]) ∧
      OwnS w' w.heap.size 73 9 A' c' ((allL l calls now cs).1.map Box.cells) ∧ Below w.heap.size w w' := by
  subst hn
  subst hm
  have HC := Lib.hid (change_right A c l _ rfl calls now w hA (by omega) hnum)
  cases hr : rightB l calls now with
  | false =>
    have HV : Hid (allL l calls now cs = ([], 0, 2)) := by unfold Hid allL; rw [hr]; rfl
    go_enter Try.func13, Try.ntmps13
    go_wp2_with (go_at_call 35; refine (HC.out).mono ?_; rw [hr]; rintro e w2 ⟨rfl, hb2⟩)
    go_ret3
    exact ⟨none, 0, by rw [HV.out]; rfl, by rw [HV.out]; exact OwnS.nil _ _ _ _, hb2⟩
  | true =>
    have HV0 : Hid (allL l calls now cs = allGo calls now l (cs.drop 0) 0) := by unfold Hid allL; rw [hr]; rfl
    obtain ⟨hc0, hc1, _, _, _, hinv⟩ := right_inv hr hnum
    have HINV := Lib.hid hinv
    have HCL : Hid (∀ w2, From w w2 → Calls Try.prog 36 #[.slice A l.length c] w2 fun e w' => ∃ A' c', e = .returned (.slice A' l.length c') ∧ OwnS w' w2.heap.size 73 9 A' c' (l.map Box.cells) ∧ Below w2.heap.size w2 w') := fun w2 h2 => clone_boxes A c l _ rfl w2 ((hA.below h2 (Nat.le_refl _)).more h2.size) hl
    clear hinv hnum
    go_enter Try.func13, Try.ntmps13
    go_wp2_with (first
      | (go_at_call 35; refine (HC.out).mono ?_; rw [hr]; rintro e w2 ⟨rfl, hb2⟩)
      | (go_at_call 36; refine (HCL.out _ hb2).mono ?_; rintro e w3 ⟨A3, c3, rfl, hown3, hb3⟩))
    have hb03 : Below w.heap.size w w3 := hb2.trans (hb3.mono hb2.size)
    have HO3 := Lib.hid (hown3.base_le hb2.size)
    clear HC HCL hA hr hb2 hb3 hown3
    go_loopw [11, 25] (fun v i wr => ∃ (k : Nat) (cur : List Box) (D : Option Addr) (d : Nat), k ≤ cs.length ∧ i = .int .i64 k ∧ v = .slice D cur.length d ∧ Hid (OwnS wr w.heap.size 73 9 D d (cur.map Box.cells)) ∧ Hid (InvB cur) ∧ cur.length ≤ 1000000 ∧ Hid (allL l calls now cs = allGo calls now cur (cs.drop k) k) ∧ Below w.heap.size w wr) (fun _ i _ => cs.length - (intOf i).toNat)
    case atStart => exact ⟨0, l, A3, c3, by omega, rfl, rfl, HO3, HINV, hl, HV0, hb03⟩
    case round =>
      obtain ⟨k, cur, D, d, hkk, rfl, rfl, HR, HI, hcl, HG, hb⟩ := hrel
      by_cases hlt : k < cs.length
      · obtain ⟨bb, off, rfl, hb1, hld⟩ := Chg.ld (b := cs[k]) hX (by rw [List.getElem?_map, List.getElem?_eq_getElem hlt]; rfl)
        have HL := Lib.hid (hld wr hb)
        have hkd := hk _ (List.getElem_mem hlt)
        have hcw : From wr (chgW cs[k] wr) := (Below.refl _ _).alloc (Nat.le_refl _) _
        have HCW := Lib.hid hcw
        have HLD := Lib.hid (chg_ldBlock (b := cs[k]) (w := chgW cs[k] wr) (g := wr.heap.size) (heap_alloc_new wr _))
        have HN := Lib.hid (change_changed D d cur _ rfl calls now cs[k] (chgW cs[k] wr) ((HR.out.rd.below hcw (Nat.le_refl _)).more hcw.size) hcl hkd.1 hkd.2 hc0 hc1 HI.out)
        have hnl := next_inv (calls := calls) (now := now) (kind := cs[k].kind) (call := cs[k].call) (box := cs[k].box) (kilos := cs[k].kilos) HI.out hc1
        have HNI : Hid (InvB (nextL cur calls now cs[k].kind cs[k].call cs[k].box cs[k].kilos).1) := hnl.1
        have hnl2 := hnl.2
        have hbs := hb.size
        clear hld hnl hcw hkd hk
        by_cases h0 : (nextL cur calls now cs[k].kind cs[k].call cs[k].box cs[k].kilos).2 = 0
        · have HOK := Lib.hid (allGo_ok calls now cur cs k hlt h0)
          have HG2 : Hid (allL l calls now cs = allGo calls now (nextL cur calls now cs[k].kind cs[k].call cs[k].box cs[k].kilos).1 (cs.drop (k + 1)) (k + 1)) := by unfold Hid; rw [HG.out, HOK.out]
          generalize nextL cur calls now cs[k].kind cs[k].call cs[k].box cs[k].kilos = R at *
          obtain ⟨R1, R2⟩ := R
          simp only at h0 hnl2
          subst h0
          go_wp2_with (first
            | ((with_reducible refine g_ld 37 ?_); refine wpList_ld rfl _ _ rfl _ rfl _ HL.out ?_)
            | (go_at_call 37; refine (HN.out).mono ?_; rintro e w3 ⟨A3, c3, rfl, hown3, hb3⟩))
          go_roundw
          case rel => exact ⟨k + 1, R1, A3, c3, by omega, by go_num, rfl, hown3.base_le (Nat.le_trans hbs HCW.out.size), HNI, by omega, HG2, hb.trans ((HCW.out.trans (hb3.mono HCW.out.size)).mono hbs)⟩
          case measure => simp [intOf]; omega
        · have HV : Hid (allL l calls now cs = ([], (k : Int), (nextL cur calls now cs[k].kind cs[k].call cs[k].box cs[k].kilos).2)) := by unfold Hid; rw [HG.out, allGo_err calls now cur cs k hlt h0]
          generalize nextL cur calls now cs[k].kind cs[k].call cs[k].box cs[k].kilos = R at *
          obtain ⟨R1, R2⟩ := R
          simp only at h0 hnl2
          go_wp2_with (first
            | ((with_reducible refine g_ld 37 ?_); refine wpList_ld rfl _ _ rfl _ rfl _ HL.out ?_)
            | (go_at_call 37; refine (HN.out).mono ?_; rintro e w3 ⟨A3, c3, rfl, hown3, hb3⟩))
          go_ret3
          exact ⟨none, 0, by rw [HV.out]; rfl, by rw [HV.out]; exact OwnS.nil _ _ _ _, hb.trans ((HCW.out.trans (hb3.mono HCW.out.size)).mono hbs)⟩
      · obtain rfl : k = cs.length := by omega
        have HV : Hid (allL l calls now cs = (cur, 0, 0)) := by unfold Hid; rw [HG.out, allGo_end calls now cur cs _ (Nat.le_refl _)]
        go_wp2
        go_ret3
        exact ⟨D, d, by rw [HV.out]; rfl, by rw [HV.out]; exact HR.out, hb⟩
end Go.Proofs.Ytccjddbcdmgefaa
