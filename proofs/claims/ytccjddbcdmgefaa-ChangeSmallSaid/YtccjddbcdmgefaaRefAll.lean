/-
  The reference's Boxes and All, and what changes keep.
-/
import Derived.Test.YtccjddbcdmgefaaRefNext
namespace Go.Proofs.Ytccjddbcdmgefaa
open Go.RowKit

def InvB (l : List Box) : Prop := ∀ b ∈ l, b.num.size ≤ 140737488351232 ∧ 0 ≤ b.load ∧ b.load < b.dis ∧ b.dis ≤ 1000

theorem boxB_load {b : Box} (h : boxB b = true) : 0 ≤ b.load ∧ b.load < b.dis ∧ b.dis < 20 := by
  unfold boxB at h
  simp only [Bool.and_eq_true] at h
  have := h.1.2
  unfold bRule at this
  simp at this
  omega

theorem right_inv {l : List Box} {calls now : Int} (h : rightB l calls now = true) (hnum : ∀ b ∈ l, b.num.size ≤ 140737488351232) : 2 ≤ calls ∧ calls ≤ 20 ∧ 0 ≤ now ∧ now ≤ calls ∧ l.length ≤ 2000 ∧ InvB l := by
  unfold rightB at h
  simp only [Bool.and_eq_true, decide_eq_true_eq] at h
  obtain ⟨⟨h1, h2⟩, h3⟩ := h
  unfold cargoValid at h1
  by_cases hc : calls < 2 ∨ 20 < calls
  · rw [if_pos hc] at h1; simp at h1
  rw [if_neg hc] at h1
  by_cases hv : (boxValid l).2 = 0
  · have hl : l.length ≤ 2000 ∧ ∀ k, k < l.length → boxBad l k = false := by
      unfold boxValid at hv
      by_cases hm : l.length > 2000
      · rw [if_pos hm] at hv; simp at hv
      rw [if_neg hm] at hv
      refine ⟨by omega, fun k hk => ?_⟩
      cases hf : (List.range l.length).find? (boxBad l) with
      | some j => rw [hf] at hv; simp at hv
      | none =>
        rw [List.find?_eq_none] at hf
        have := hf k (by simpa using hk)
        simpa using this
    refine ⟨by omega, by omega, h2, h3, hl.1, fun b hb => ?_⟩
    obtain ⟨k, hk, rfl⟩ := List.mem_iff_getElem.1 hb
    have h9 := hl.2 k hk
    rw [boxBad_eq hk] at h9
    simp only [Bool.or_eq_false_iff] at h9
    have h10 : boxB l[k] = true := by have := h9.2; simpa using this
    have := boxB_load h10
    exact ⟨hnum _ hb, by omega, by omega, by omega⟩
  · rw [if_neg hv] at h1
    exact absurd h1 hv

theorem inv_skip {l : List Box} {call : Int} (h : InvB l) (hc : call ≤ 100) : InvB (skipL l call) := by
  intro b hb
  unfold skipL at hb
  obtain ⟨x, hx, hxb⟩ := List.mem_flatMap.1 hb
  have h1 := h x hx
  unfold skipB at hxb
  split at hxb
  · cases hxb
  · split at hxb
    · simp at hxb
      subst hxb
      refine ⟨h1.1, h1.2.1, ?_, ?_⟩ <;> simp only <;> omega
    · simp at hxb
      subst hxb
      exact h1

theorem inv_erase {l : List Box} {t : Nat} (h : InvB l) : InvB (l.eraseIdx t) := fun b hb => h b (List.mem_of_mem_eraseIdx hb)
theorem inv_set {l : List Box} {t : Nat} {x : Box} (h : InvB l) (hx : x.num.size ≤ 140737488351232 ∧ 0 ≤ x.load ∧ x.load < x.dis ∧ x.dis ≤ 1000) : InvB (l.set t x) := fun b hb => by
  rcases List.mem_or_eq_of_mem_set hb with h1 | h1
  · exact h b h1
  · rw [h1]; exact hx

theorem next_inv {l : List Box} {calls now kind call box kilos : Int} (h : InvB l) (hc : calls ≤ 20) : InvB (nextL l calls now kind call box kilos).1 ∧ (nextL l calls now kind call box kilos).1.length ≤ l.length := by
  have h0 : InvB ([] : List Box) ∧ ([] : List Box).length ≤ l.length := ⟨(fun b hb => by cases hb), by simp⟩
  unfold nextL
  split
  · exact h0
  · split
    · split
      · exact h0
      · split
        · exact h0
        · exact ⟨inv_skip h (by omega), skipL_len l call⟩
    · split
      · rename_i b hb
        split
        · exact h0
        · have hbm : b ∈ l := List.mem_of_getElem? hb
          have hbx := h b hbm
          unfold nextAt
          split
          · exact h0
          · split
            · exact ⟨inv_erase h, List.length_eraseIdx_le _ _⟩
            · split
              · exact ⟨inv_set h ⟨hbx.1, by simp only; omega, by simp only; omega, hbx.2.2.2⟩, by simp⟩
              · split
                · exact ⟨inv_set h ⟨hbx.1, hbx.2.1, hbx.2.2.1, hbx.2.2.2⟩, by simp⟩
                · exact h0
      · exact h0

theorem ref_next (A : Option Addr) (c : Nat) (l : List Box) (n : Nat) (hn : n = l.length) (calls now : Int) (x : RChg) (w : World) (hA : Rd w w.heap.size 9 A (l.map Box.cells)) (hl : l.length ≤ 1000000) (hc0 : 2 ≤ calls) (hc1 : calls ≤ 20) (hi : InvB l) :
    Calls Try.prog 39 #[.slice A n c, .int .i64 calls, .int .i64 now, x.val] w fun e w' => ∃ A' c', e = .returned (.tuple #[.slice A' (nextL l calls now x.kind x.call x.box x.kilos).1.length c', .int .i64 (nextL l calls now x.kind x.call x.box x.kilos).2]) ∧
      OwnS w' w.heap.size 73 9 A' c' ((nextL l calls now x.kind x.call x.box x.kilos).1.map Box.cells) ∧ Below w.heap.size w w' := by
  by_cases h1 : x.kind ≤ 1 ∨ 4 < x.kind
  · exact ref_next1 A c l n hn calls now x.kind x.call x.box x.kilos w hA hl h1 hc0 hc1
  · exact ref_next2 A c l n hn calls now x.kind x.call x.box x.kilos w hA hl (by omega) (by omega) (fun b hb => (hi b hb).1) (fun b hb => ⟨(hi b hb).2.1, by have := hi b hb; omega⟩)

def allGo (calls now : Int) : List Box → List Chg → Nat → List Box × Int × Int
  | l, [], _ => (l, 0, 0)
  | l, c :: cs, i => if (nextL l calls now c.kind c.call c.box c.kilos).2 = 0 then allGo calls now (nextL l calls now c.kind c.call c.box c.kilos).1 cs (i + 1) else ([], i, (nextL l calls now c.kind c.call c.box c.kilos).2)

def allL (l : List Box) (calls now : Int) (cs : List Chg) : List Box × Int × Int := if rightB l calls now then allGo calls now l cs 0 else ([], 0, 2)
def boxesL (l : List Box) (calls now : Int) (c : Chg) : List Box × Int := if rightB l calls now then nextL l calls now c.kind c.call c.box c.kilos else ([], 2)
def Chg.ref (c : Chg) : RChg := ⟨c.kind, c.call, c.box, c.kilos⟩

theorem allGo_end (calls now : Int) (l : List Box) (cs : List Chg) (k : Nat) (h : cs.length ≤ k) : allGo calls now l (cs.drop k) k = (l, 0, 0) := by
  rw [List.drop_eq_nil_of_le h]
  rfl
theorem allGo_ok (calls now : Int) (l : List Box) (cs : List Chg) (k : Nat) (h : k < cs.length) (h0 : (nextL l calls now cs[k].kind cs[k].call cs[k].box cs[k].kilos).2 = 0) : allGo calls now l (cs.drop k) k = allGo calls now (nextL l calls now cs[k].kind cs[k].call cs[k].box cs[k].kilos).1 (cs.drop (k + 1)) (k + 1) := by
  rw [List.drop_eq_getElem_cons h]
  unfold allGo
  rw [if_pos h0]
  cases cs.drop (k + 1) <;> rfl
theorem allGo_err (calls now : Int) (l : List Box) (cs : List Chg) (k : Nat) (h : k < cs.length) (h0 : ¬ (nextL l calls now cs[k].kind cs[k].call cs[k].box cs[k].kilos).2 = 0) : allGo calls now l (cs.drop k) k = ([], (k : Int), (nextL l calls now cs[k].kind cs[k].call cs[k].box cs[k].kilos).2) := by
  rw [List.drop_eq_getElem_cons h]
  unfold allGo
  rw [if_neg h0]

set_option maxRecDepth 100000 in
set_option maxHeartbeats 2000000 in
theorem ref_boxes (A : Option Addr) (c : Nat) (l : List Box) (n : Nat) (hn : n = l.length) (calls now : Int) (x : Chg) (w : World) (hA : Rd w w.heap.size 9 A (l.map Box.cells)) (hl : l.length ≤ 1000000) (hnum : ∀ b ∈ l, b.num.size ≤ 140737488351232) :
    Calls Try.prog 19 #[.slice A n c, .int .i64 calls, .int .i64 now, .agg #[.int .i64 x.kind, .int .i64 x.call, .int .i64 x.box, .int .i64 x.kilos]] w fun e w' => ∃ A' c', e = .returned (.tuple #[.slice A' (boxesL l calls now x).1.length c', .int .i64 (boxesL l calls now x).2]) ∧
      Rd w' w'.heap.size 9 A' ((boxesL l calls now x).1.map Box.cells) ∧ Below w.heap.size w w' := by
  subst hn
  have hw1 : Below w.heap.size w (rchgW x.kind x.call x.box x.kilos w) := (Below.refl _ _).alloc (Nat.le_refl _) _
  have hA1 := (hA.below hw1 (Nat.le_refl _)).more hw1.size
  have HC := Lib.hid (ref37_right A c l _ rfl calls now (rchgW x.kind x.call x.box x.kilos w) hA1 (by omega) hnum)
  have HW1 := Lib.hid hw1
  clear hw1
  cases hr : rightB l calls now with
  | false =>
    have HV : Hid (boxesL l calls now x = ([], 2)) := by unfold Hid boxesL; rw [hr]; rfl
    go_enter Try.func19, Try.ntmps19
    go_wp2_with (go_at_call 38; refine (HC.out).mono ?_; rw [hr]; rintro e w2 ⟨rfl, hb2⟩)
    go_ret2
    exact ⟨none, 0, by rw [HV.out]; rfl, by rw [HV.out]; exact Rd.nil _ _ _ _, HW1.out.trans (hb2.mono HW1.out.size)⟩
  | true =>
    have HV : Hid (boxesL l calls now x = nextL l calls now x.kind x.call x.box x.kilos) := by unfold Hid boxesL; rw [hr]; rfl
    obtain ⟨hc0, hc1, _, _, _, hinv⟩ := right_inv hr hnum
    have HN : Hid (∀ w2, From (rchgW x.kind x.call x.box x.kilos w) w2 → (loadVar 58 ⟨w.heap.size, 0, none⟩).run Try.prog w2 = .ok x.ref.val w2 ∧ Calls Try.prog 39 #[.slice A l.length c, .int .i64 calls, .int .i64 now, x.ref.val] w2 fun e w' => ∃ A' c', e = .returned (.tuple #[.slice A' (nextL l calls now x.kind x.call x.box x.kilos).1.length c', .int .i64 (nextL l calls now x.kind x.call x.box x.kilos).2]) ∧
      OwnS w' w2.heap.size 73 9 A' c' ((nextL l calls now x.kind x.call x.box x.kilos).1.map Box.cells) ∧ Below w2.heap.size w2 w') := fun w2 h2 => by
      refine ⟨run_load_cells (cs := x.ref.cells) RChg.row rfl (fun j u hu => ?_), ref_next A c l _ rfl calls now x.ref w2 ((hA1.below h2 (Nat.le_refl _)).more h2.size) hl hc0 hc1 hinv⟩
      rw [Addr.add_lit, cell_of_row w2 w.heap.size (0 + j) _ _ _ ((h2.block _ (by simp)).trans (heap_alloc_new w _))]
      simpa [RChg.cells, Chg.ref] using hu
    clear hinv hA1
    go_enter Try.func19, Try.ntmps19
    go_wp2_with (first
      | (go_at_call 38; refine (HC.out).mono ?_; rw [hr]; rintro e w2 ⟨rfl, hb2⟩)
      | ((with_reducible refine g_ld 58 ?_); refine wpList_ld rfl _ _ rfl _ rfl _ (HN.out _ hb2).1 ?_)
      | (go_at_call 39; refine ((HN.out _ hb2).2).mono ?_; rintro e w3 ⟨A3, c3, rfl, hown3, hb3⟩))
    go_ret2
    exact ⟨A3, c3, by rw [HV.out]; rfl, by rw [HV.out]; exact hown3.rd, HW1.out.trans ((hb2.trans (hb3.mono hb2.size)).mono HW1.out.size)⟩

set_option maxRecDepth 100000 in
set_option maxHeartbeats 4000000 in
theorem ref_all (A X : Option Addr) (c cx : Nat) (l : List Box) (cs : List Chg) (n m : Nat) (hn : n = l.length) (hm : m = cs.length) (calls now : Int) (w : World) (hA : Rd w w.heap.size 9 A (l.map Box.cells)) (hX : Rd w w.heap.size 4 X (cs.map fun c => c.ref.cells)) (hl : l.length ≤ 1000000) (hcs : cs.length ≤ 1000000) (hnum : ∀ b ∈ l, b.num.size ≤ 140737488351232) :
    Calls Try.prog 14 #[.slice A n c, .int .i64 calls, .int .i64 now, .slice X m cx] w fun e w' => ∃ A' c', e = .returned (.tuple #[.slice A' (allL l calls now cs).1.length c', .int .i64 (allL l calls now cs).2.1, .int .i64 (allL l calls now cs).2.2]) ∧
      Rd w' w'.heap.size 9 A' ((allL l calls now cs).1.map Box.cells) ∧ Below w.heap.size w w' := by
  subst hn
  subst hm
  have HC := Lib.hid (ref37_right A c l _ rfl calls now w hA (by omega) hnum)
  cases hr : rightB l calls now with
  | false =>
    have HV : Hid (allL l calls now cs = ([], 0, 2)) := by unfold Hid allL; rw [hr]; rfl
    go_enter Try.func14, Try.ntmps14
    go_wp2_with (go_at_call 38; refine (HC.out).mono ?_; rw [hr]; rintro e w2 ⟨rfl, hb2⟩)
    go_ret3
    exact ⟨none, 0, by rw [HV.out]; rfl, by rw [HV.out]; exact Rd.nil _ _ _ _, hb2⟩
  | true =>
    have HV0 : Hid (allL l calls now cs = allGo calls now l (cs.drop 0) 0) := by unfold Hid allL; rw [hr]; rfl
    obtain ⟨hc0, hc1, _, _, _, hinv⟩ := right_inv hr hnum
    have HINV := Lib.hid hinv
    clear hinv hnum
    go_enter Try.func14, Try.ntmps14
    go_wp2_with (go_at_call 38; refine (HC.out).mono ?_; rw [hr]; rintro e w2 ⟨rfl, hb2⟩)
    have HR2 := Lib.hid ((hA.below hb2 (Nat.le_refl _)).more hb2.size)
    clear HC hA hr
    go_loopw [0, 11] (fun v i wr => ∃ (k : Nat) (cur : List Box) (D : Option Addr) (d : Nat), k ≤ cs.length ∧ i = .int .i64 k ∧ v = .slice D cur.length d ∧ Hid (Rd wr wr.heap.size 9 D (cur.map Box.cells)) ∧ Hid (InvB cur) ∧ cur.length ≤ 1000000 ∧ Hid (allL l calls now cs = allGo calls now cur (cs.drop k) k) ∧ Below w.heap.size w wr) (fun _ i _ => cs.length - (intOf i).toNat)
    case atStart => exact ⟨0, l, A, c, by omega, rfl, rfl, HR2, HINV, hl, HV0, hb2⟩
    case round =>
      obtain ⟨k, cur, D, d, hk, rfl, rfl, HR, HI, hcl, HG, hb⟩ := hrel
      by_cases hlt : k < cs.length
      · obtain ⟨bb, off, rfl, hb1, hld⟩ := RChg.ld (b := cs[k].ref) hX (by rw [List.getElem?_map, List.getElem?_eq_getElem hlt]; rfl)
        have HL := Lib.hid hld
        have HN : Hid (Calls Try.prog 39 #[.slice D cur.length d, .int .i64 calls, .int .i64 now, cs[k].ref.val] wr fun e w' => ∃ A' c', e = .returned (.tuple #[.slice A' (nextL cur calls now cs[k].kind cs[k].call cs[k].box cs[k].kilos).1.length c', .int .i64 (nextL cur calls now cs[k].kind cs[k].call cs[k].box cs[k].kilos).2]) ∧
          OwnS w' wr.heap.size 73 9 A' c' ((nextL cur calls now cs[k].kind cs[k].call cs[k].box cs[k].kilos).1.map Box.cells) ∧ Below wr.heap.size wr w') := ref_next D d cur _ rfl calls now cs[k].ref wr HR.out hcl hc0 hc1 HI.out
        have hnl := next_inv (calls := calls) (now := now) (kind := cs[k].kind) (call := cs[k].call) (box := cs[k].box) (kilos := cs[k].kilos) HI.out hc1
        have HNI : Hid (InvB (nextL cur calls now cs[k].kind cs[k].call cs[k].box cs[k].kilos).1) := hnl.1
        have hnl2 := hnl.2
        clear hld hnl
        by_cases h0 : (nextL cur calls now cs[k].kind cs[k].call cs[k].box cs[k].kilos).2 = 0
        · have HOK := Lib.hid (allGo_ok calls now cur cs k hlt h0)
          have HG2 : Hid (allL l calls now cs = allGo calls now (nextL cur calls now cs[k].kind cs[k].call cs[k].box cs[k].kilos).1 (cs.drop (k + 1)) (k + 1)) := by unfold Hid; rw [HG.out, HOK.out]
          generalize nextL cur calls now cs[k].kind cs[k].call cs[k].box cs[k].kilos = R at *
          obtain ⟨R1, R2⟩ := R
          simp only at h0 hnl2
          subst h0
          go_wp2_with (first
            | ((with_reducible refine g_ld 58 ?_); refine wpList_ld rfl _ _ rfl _ rfl _ (HL.out _ hb) ?_)
            | (go_at_call 39; refine (HN.out).mono ?_; rintro e w3 ⟨A3, c3, rfl, hown3, hb3⟩))
          go_roundw
          case rel => exact ⟨k + 1, R1, A3, c3, by omega, by go_num, rfl, hown3.rd, HNI, by omega, HG2, hb.trans (hb3.mono hb.size)⟩
          case measure => simp [intOf]; omega
        · have HV : Hid (allL l calls now cs = ([], (k : Int), (nextL cur calls now cs[k].kind cs[k].call cs[k].box cs[k].kilos).2)) := by unfold Hid; rw [HG.out, allGo_err calls now cur cs k hlt h0]
          generalize nextL cur calls now cs[k].kind cs[k].call cs[k].box cs[k].kilos = R at *
          obtain ⟨R1, R2⟩ := R
          simp only at h0 hnl2
          go_wp2_with (first
            | ((with_reducible refine g_ld 58 ?_); refine wpList_ld rfl _ _ rfl _ rfl _ (HL.out _ hb) ?_)
            | (go_at_call 39; refine (HN.out).mono ?_; rintro e w3 ⟨A3, c3, rfl, hown3, hb3⟩))
          go_ret3
          exact ⟨none, 0, by rw [HV.out]; rfl, by rw [HV.out]; exact Rd.nil _ _ _ _, hb.trans (hb3.mono hb.size)⟩
      · obtain rfl : k = cs.length := by omega
        have HV : Hid (allL l calls now cs = (cur, 0, 0)) := by unfold Hid; rw [HG.out, allGo_end calls now cur cs _ (Nat.le_refl _)]
        go_wp2
        go_ret3
        exact ⟨D, d, by rw [HV.out]; rfl, by rw [HV.out]; exact HR.out, hb⟩
end Go.Proofs.Ytccjddbcdmgefaa
