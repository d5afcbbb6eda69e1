/-
  The reference's Next tells nextL.
-/
import Derived.Test.YtccjddbcdmgefaaNext
namespace Go.Proofs.Ytccjddbcdmgefaa
open Go.RowKit

abbrev rchgW (kind call box kilos : Int) (w : World) : World := w.alloc (Obj.cells #[.int .i64 kind, .int .i64 call, .int .i64 box, .int .i64 kilos] 58)

set_option maxRecDepth 100000 in
set_option maxHeartbeats 4000000 in
theorem ref_next1 (A : Option Addr) (c : Nat) (l : List Box) (n : Nat) (hn : n = l.length) (calls now kind call box kilos : Int) (w : World) (hA : Rd w w.heap.size 9 A (l.map Box.cells)) (hl : l.length ≤ 1000000) (hk : kind ≤ 1 ∨ 4 < kind) (hc0 : 2 ≤ calls) (hc1 : calls ≤ 20) :
    Calls Try.prog 39 #[.slice A n c, .int .i64 calls, .int .i64 now, .agg #[.int .i64 kind, .int .i64 call, .int .i64 box, .int .i64 kilos]] w fun e w' => ∃ A' c', e = .returned (.tuple #[.slice A' (nextL l calls now kind call box kilos).1.length c', .int .i64 (nextL l calls now kind call box kilos).2]) ∧
      OwnS w' w.heap.size 73 9 A' c' ((nextL l calls now kind call box kilos).1.map Box.cells) ∧ Below w.heap.size w w' := by
  subst hn
  have hw1 : Below w.heap.size w (rchgW kind call box kilos w) := (Below.refl _ _).alloc (Nat.le_refl _) _
  have HW1 := Lib.hid hw1
  clear hw1
  by_cases k1 : kind < 1
  · have HV : Hid (nextL l calls now kind call box kilos = ([], 371)) := by unfold Hid nextL; rw [if_pos (.inl k1)]
    go_enter Try.func39, Try.ntmps39
    go_wp2
    go_ret2
    exact ⟨none, 0, by rw [HV.out]; rfl, by rw [HV.out]; exact OwnS.nil _ _ _ _, HW1.out⟩
  by_cases k4 : 4 < kind
  · have HV : Hid (nextL l calls now kind call box kilos = ([], 371)) := by unfold Hid nextL; rw [if_pos (.inr k4)]
    go_enter Try.func39, Try.ntmps39
    go_wp2
    go_ret2
    exact ⟨none, 0, by rw [HV.out]; rfl, by rw [HV.out]; exact OwnS.nil _ _ _ _, HW1.out⟩
  obtain rfl : kind = 1 := by omega
  clear hk k1 k4
  by_cases h1 : call < 0
  · have HV : Hid (nextL l calls now 1 call box kilos = ([], 6)) := by unfold Hid nextL; rw [if_neg (by omega), if_pos rfl, if_pos (.inl h1)]
    go_enter Try.func39, Try.ntmps39
    go_wp2
    go_ret2
    exact ⟨none, 0, by rw [HV.out]; rfl, by rw [HV.out]; exact OwnS.nil _ _ _ _, HW1.out⟩
  by_cases h2 : calls - 2 < call
  · have HV : Hid (nextL l calls now 1 call box kilos = ([], 6)) := by unfold Hid nextL; rw [if_neg (by omega), if_pos rfl, if_pos (.inr h2)]
    go_enter Try.func39, Try.ntmps39
    go_wp2
    go_ret2
    exact ⟨none, 0, by rw [HV.out]; rfl, by rw [HV.out]; exact OwnS.nil _ _ _ _, HW1.out⟩
  by_cases h3 : call < now
  · have HV : Hid (nextL l calls now 1 call box kilos = ([], 370)) := by unfold Hid nextL; rw [if_neg (by omega), if_pos rfl, if_neg (by omega), if_pos h3]
    go_enter Try.func39, Try.ntmps39
    go_wp2
    go_ret2
    exact ⟨none, 0, by rw [HV.out]; rfl, by rw [HV.out]; exact OwnS.nil _ _ _ _, HW1.out⟩
  have HV : Hid (nextL l calls now 1 call box kilos = (skipL l call, 0)) := by unfold Hid nextL; rw [if_neg (by omega), if_pos rfl, if_neg (by omega), if_neg h3]
  have HC := Lib.hid (ref_skip A c l _ rfl call (by omega) (by omega) (rchgW 1 call box kilos w) ((hA.below HW1.out (Nat.le_refl _)).more HW1.out.size) hl)
  go_enter Try.func39, Try.ntmps39
  go_wp2_with (go_at_call 59; refine (HC.out).mono ?_; rintro e w2 ⟨A2, c2, rfl, hown2, hb2⟩)
  go_ret2
  exact ⟨A2, c2, by rw [HV.out]; rfl, by rw [HV.out]; exact hown2.base_le HW1.out.size, HW1.out.trans (hb2.mono HW1.out.size)⟩


theorem box_ldBlock {b : Box} {w : World} {g : Nat} (h : w.heap[g]? = some (.cells #[.int .i64 b.id, .string b.num, .int .u8 b.size, .bool b.high, .int .i64 b.kilos, .int .i64 b.load, .int .i64 b.dis, .int .u8 b.cls, .bool b.reefer] 73 (0, 0))) :
    (loadVar 73 ⟨g, 0, none⟩).run Try.prog w = .ok b.val w :=
  run_load_cells (cs := b.cells) Box.row rfl (fun j u hu => by
    rw [Addr.add_lit, cell_of_row w g (0 + j) _ _ _ h]
    simpa [Box.cells] using hu)

theorem heap_alloc3_mid (w : World) (o1 : Obj) (cs : Array Value) (t : TypeId) {o3 : Obj} : (((w.alloc o1).alloc (.cells cs t)).alloc o3).heap[w.heap.size + 1]? = some (.cells cs t (0, 0)) := by
  have h1 := heap_alloc_new (w.alloc o1) (.cells cs t)
  have e1 : (w.alloc o1).heap.size = w.heap.size + 1 := by simp
  rw [e1] at h1
  exact (Below.heap_alloc _ _ _ (by simp)).trans h1

theorem OwnS.some_ {w : World} {base e size c : Nat} {A : Option Addr} {css : List (List Value)} (h : OwnS w base e size A c css) (hp : 0 < css.length) : ∃ g, A = some ⟨g, 0, none⟩ ∧ base ≤ g ∧ g < w.heap.size := by
  rcases h.block with ⟨_, _, rfl⟩ | ⟨g, cur, h1, h2, h3, _⟩
  · simp at hp
  · exact ⟨g, h1, h2, (Array.getElem?_eq_some_iff.1 h3).1⟩

theorem next_facts {b : Box} {w W2 w3 : World} {A : Option Addr} {l : List Box} (hA : Rd w w.heap.size 9 A (l.map Box.cells)) (h2 : Below w.heap.size w W2) (hblk : W2.heap[w.heap.size + 1]? = some (.cells #[.int .i64 (b : Box).id, .string (b : Box).num, .int .u8 (b : Box).size, .bool (b : Box).high, .int .i64 (b : Box).kilos, .int .i64 (b : Box).load, .int .i64 (b : Box).dis, .int .u8 (b : Box).cls, .bool (b : Box).reefer] 73 (0, 0))) (h3 : From W2 w3) :
    Hid (Rd (w3.alloc (Obj.cells #[] 73)) (w3.alloc (Obj.cells #[] 73)).heap.size 9 A (l.map Box.cells)) ∧ Hid (Below w.heap.size w (w3.alloc (Obj.cells #[] 73))) ∧
    Hid (w.heap.size + 1 < (w3.alloc (Obj.cells #[] 73)).heap.size ∧ some (w.heap.size + 1) ≠ Value.ownBlock (.slice (some ⟨w3.heap.size, 0, none⟩) (List.length ([] : List (List Value))) 0) ∧ (w3.alloc (Obj.cells #[] 73)).heap[w.heap.size + 1]? = some (.cells #[.int .i64 (b : Box).id, .string (b : Box).num, .int .u8 (b : Box).size, .bool (b : Box).high, .int .i64 (b : Box).kilos, .int .i64 (b : Box).load, .int .i64 (b : Box).dis, .int .u8 (b : Box).cls, .bool (b : Box).reefer] 73 (0, 0))) ∧
    Hid (OwnS (w3.alloc (Obj.cells #[] 73)) w.heap.size 73 9 (some ⟨w3.heap.size, 0, none⟩) 0 []) := by
  have hlt : w.heap.size + 1 < W2.heap.size := (Array.getElem?_eq_some_iff.1 hblk).1
  have hs := h3.size
  have hb : Below w.heap.size w w3 := h2.trans (h3.mono h2.size)
  have hb3 : Below w.heap.size w (w3.alloc (Obj.cells #[] 73)) := hb.alloc hb.size _
  refine ⟨(hA.below hb3 (Nat.le_refl _)).more hb3.size, hb3, ⟨by simp; omega, by simp [Value.ownBlock]; omega, ?_⟩, OwnS.empty_new w3 w.heap.size _ 9 hb.size⟩
  exact (Below.heap_alloc _ _ _ (by omega)).trans ((h3.block _ hlt).trans hblk)

theorem heap_alloc2_mid (w : World) (o1 : Obj) (cs : Array Value) (t : TypeId) : ((w.alloc o1).alloc (.cells cs t)).heap[w.heap.size + 1]? = some (.cells cs t (0, 0)) := by
  have h1 := heap_alloc_new (w.alloc o1) (.cells cs t)
  have e1 : (w.alloc o1).heap.size = w.heap.size + 1 := by simp
  rw [e1] at h1
  exact h1

set_option maxRecDepth 100000 in
set_option maxHeartbeats 4000000 in
theorem ref_next2 (A : Option Addr) (c : Nat) (l : List Box) (n : Nat) (hn : n = l.length) (calls now kind call box kilos : Int) (w : World) (hA : Rd w w.heap.size 9 A (l.map Box.cells)) (hl : l.length ≤ 1000000) (hk : 1 < kind) (hk4 : kind ≤ 4) (hnum : ∀ b ∈ l, b.num.size ≤ 140737488351232) (hld : ∀ b ∈ l, 0 ≤ b.load ∧ b.load ≤ 1000) :
    Calls Try.prog 39 #[.slice A n c, .int .i64 calls, .int .i64 now, .agg #[.int .i64 kind, .int .i64 call, .int .i64 box, .int .i64 kilos]] w fun e w' => ∃ A' c', e = .returned (.tuple #[.slice A' (nextL l calls now kind call box kilos).1.length c', .int .i64 (nextL l calls now kind call box kilos).2]) ∧
      OwnS w' w.heap.size 73 9 A' c' ((nextL l calls now kind call box kilos).1.map Box.cells) ∧ Below w.heap.size w w' := by
  subst hn
  have hw1 : Below w.heap.size w (rchgW kind call box kilos w) := (Below.refl _ _).alloc (Nat.le_refl _) _
  have HW1 := Lib.hid hw1
  have HF := Lib.hid (ref_find A c l _ rfl box (rchgW kind call box kilos w) ((hA.below hw1 (Nat.le_refl _)).more hw1.size) (by omega))
  clear hw1
  rcases idx_cases (fun b : Box => b.id == box) l with ⟨hi, _⟩ | ⟨t, ht, hi, _, _⟩
  · have HV : Hid (nextL l calls now kind call box kilos = ([], 6)) := nextL_none hk hk4 hi
    go_enter Try.func39, Try.ntmps39
    go_wp2_with (go_at_call 60; refine (HF.out).mono ?_; rw [hi]; rintro e w2 ⟨rfl, rfl⟩)
    go_ret2
    exact ⟨none, 0, by rw [HV.out]; rfl, by rw [HV.out]; exact OwnS.nil _ _ _ _, HW1.out⟩
  have HVS := Lib.hid (nextL_some (calls := calls) (now := now) (call := call) (kilos := kilos) hk hk4 ht hi)
  obtain ⟨bb, off, rfl, hb1, hldx⟩ := Box.at_ hA t ht
  have hcs := hldx _ HW1.out
  have hbl := hld _ (List.getElem_mem ht)
  have hnm := hnum _ (List.getElem_mem ht)
  have hlb : t < 9223372036854775807 := by omega
  clear hldx hnum hld
  obtain ⟨x, hx⟩ : ∃ x, x = l[t] := ⟨_, rfl⟩
  rw [← hx] at HVS hcs hbl hnm
  have HX := Lib.hid hx
  clear hx hb1
  obtain ⟨d0, d1, d2, d3, d4, d5, d6, d7, d8⟩ := hcs
  rcases (by omega : kind = 2 ∨ kind = 3 ∨ kind = 4) with rfl | rfl | rfl
  · by_cases h1 : x.load < now
    · have HV : Hid (nextL l calls now 2 call box kilos = ([], 370)) := by unfold Hid nextAt at *; rw [HVS, if_pos (.inl ⟨by omega, h1⟩)]
      go_enter Try.func39, Try.ntmps39
      go_wp2_with (first
        | (go_at_call 60; refine (HF.out).mono ?_; rw [hi]; rintro e w2 ⟨rfl, rfl⟩)
        )
      go_ret2
      exact ⟨none, 0, by rw [HV.out]; rfl, by rw [HV.out]; exact OwnS.nil _ _ _ _, HW1.out.alloc HW1.out.size _⟩
    · by_cases h2 : x.load + 1 = x.dis
      · have HV : Hid (nextL l calls now 2 call box kilos = (l.eraseIdx t, 0)) := by unfold Hid nextAt at *; rw [HVS, if_neg (by omega), if_pos (.inr ⟨rfl, h2⟩)]
        have hb2 : Below w.heap.size w (boxA x (rchgW 2 call box kilos w)) := HW1.out.alloc HW1.out.size _
        have HC := Lib.hid (ref_without (some ⟨bb, off, none⟩) c l _ rfl t ht (boxA x (rchgW 2 call box kilos w)) ((hA.below hb2 (Nat.le_refl _)).more hb2.size) hl)
        have hq : (x.load + 1 == x.dis) = true := by simpa using h2
        have HB2 := Lib.hid hb2
        clear hb2 h2
        go_enter Try.func39, Try.ntmps39
        go_wp2_with (first
          | (go_at_call 60; refine (HF.out).mono ?_; rw [hi]; rintro e w2 ⟨rfl, rfl⟩)
          | (go_at_call 61; refine (HC.out).mono ?_; rintro e w2 ⟨A2, c2, rfl, hown2, hb2⟩))
        go_ret2
        exact ⟨A2, c2, by rw [HV.out]; rfl, by rw [HV.out]; exact hown2.base_le HB2.out.size, HB2.out.trans (hb2.mono HB2.out.size)⟩
      · have HV : Hid (nextL l calls now 2 call box kilos = (l.set t { x with load := x.load + 1 }, 0)) := by unfold Hid nextAt at *; rw [HVS, if_neg (by omega), if_neg (by omega), if_pos rfl]
        have hq : (x.load + 1 == x.dis) = false := by simpa using h2
        clear h2
        have hb2 : Below w.heap.size w (boxA { x with load := x.load + 1 } (rchgW 2 call box kilos w)) := HW1.out.alloc HW1.out.size _
        have hb3 : Below w.heap.size w ((boxA { x with load := x.load + 1 } (rchgW 2 call box kilos w)).alloc (Obj.cells #[] 73)) := hb2.alloc hb2.size _
        have e9 : (boxA { x with load := x.load + 1 } (rchgW 2 call box kilos w)).heap.size = w.heap.size + 1 + 1 := by simp
        have HRD := Lib.hid ((hA.below hb3 (Nat.le_refl _)).more hb3.size)
        have HB3 := Lib.hid hb3
        have HBK : Hid (w.heap.size + 1 < ((boxA { x with load := x.load + 1 } (rchgW 2 call box kilos w)).alloc (Obj.cells #[] 73)).heap.size ∧ some (w.heap.size + 1) ≠ Value.ownBlock (.slice (some ⟨w.heap.size + 1 + 1, 0, none⟩) (List.length ([] : List (List Value))) 0) ∧ ((boxA { x with load := x.load + 1 } (rchgW 2 call box kilos w)).alloc (Obj.cells #[] 73)).heap[w.heap.size + 1]? = some (.cells #[.int .i64 ({ x with load := x.load + 1 } : Box).id, .string ({ x with load := x.load + 1 } : Box).num, .int .u8 ({ x with load := x.load + 1 } : Box).size, .bool ({ x with load := x.load + 1 } : Box).high, .int .i64 ({ x with load := x.load + 1 } : Box).kilos, .int .i64 ({ x with load := x.load + 1 } : Box).load, .int .i64 ({ x with load := x.load + 1 } : Box).dis, .int .u8 ({ x with load := x.load + 1 } : Box).cls, .bool ({ x with load := x.load + 1 } : Box).reefer] 73 (0, 0))) :=
          ⟨by simp, by simp [Value.ownBlock], heap_alloc3_mid _ _ _ _⟩
        have HOW : Hid (OwnS ((boxA { x with load := x.load + 1 } (rchgW 2 call box kilos w)).alloc (Obj.cells #[] 73)) w.heap.size 73 9 (some ⟨w.heap.size + 1 + 1, 0, none⟩) 0 []) := by
          have h9 := OwnS.empty_new (boxA { x with load := x.load + 1 } (rchgW 2 call box kilos w)) w.heap.size 73 9 hb2.size
          rw [e9] at h9
          exact h9
        clear hb2 hb3 e9
        go_enter Try.func39, Try.ntmps39
        go_wp2_with (first
          | (go_at_call 60; refine (HF.out).mono ?_; rw [hi]; rintro e w2 ⟨rfl, rfl⟩)
          | (at_builtin; go_loud (refine wpList_append_n rfl _ _ rfl Box.ei 0 rfl rfl HOW.out rfl _ HRD.out (by simp) (Box.ones l) (by unfold maxLen; simp; omega) (by simp; omega) HB3.out.size ?_); intro A4 c4 w4 hown4 hg4 hb4; have hld4 := box_ldBlock (b := { x with load := x.load + 1 }) ((hg4.block _ HBK.out.1 HBK.out.2.1).trans HBK.out.2.2); obtain ⟨g4, hA4, hga, hgb⟩ := hown4.some_ (by simp; omega); subst hA4)
          | ((with_reducible refine g_ld 73 ?_); (refine wpList_ld rfl _ _ rfl _ rfl _ hld4 ?_))
          | ((with_reducible refine g_st 73 ?_); go_loud (refine wpList_st_own (v := Box.val { x with load := x.load + 1 }) (cs := Box.cells { x with load := x.load + 1 }) rfl _ _ rfl (t := t) rfl rfl (by kernel_rfl) rfl rfl hown4 (by simp; omega) (Box.one _) ?_); intro w5 hown5 hg5)
          )
        go_ret2
        exact ⟨some ⟨g4, 0, none⟩, c4, by rw [HV.out]; simp, by rw [HV.out]; simpa [List.map_set] using hown5, (HB3.out.trans hb4).grown hg5 (Nat.le_trans HB3.out.size hb4.size) (fun j hj => by injection hj with hj; omega)⟩
  · by_cases h1 : x.load < now
    · have HV : Hid (nextL l calls now 3 call box kilos = ([], 370)) := by unfold Hid nextAt at *; rw [HVS, if_pos (.inl ⟨by omega, h1⟩)]
      go_enter Try.func39, Try.ntmps39
      go_wp2_with (first
        | (go_at_call 60; refine (HF.out).mono ?_; rw [hi]; rintro e w2 ⟨rfl, rfl⟩)
        )
      go_ret2
      exact ⟨none, 0, by rw [HV.out]; rfl, by rw [HV.out]; exact OwnS.nil _ _ _ _, HW1.out.alloc HW1.out.size _⟩
    · have HV : Hid (nextL l calls now 3 call box kilos = (l.eraseIdx t, 0)) := by unfold Hid nextAt at *; rw [HVS, if_neg (by omega), if_pos (.inl rfl)]
      have hb2 : Below w.heap.size w (boxA x (rchgW 3 call box kilos w)) := HW1.out.alloc HW1.out.size _
      have HC := Lib.hid (ref_without (some ⟨bb, off, none⟩) c l _ rfl t ht (boxA x (rchgW 3 call box kilos w)) ((hA.below hb2 (Nat.le_refl _)).more hb2.size) hl)
      have HB2 := Lib.hid hb2
      clear hb2
      go_enter Try.func39, Try.ntmps39
      go_wp2_with (first
        | (go_at_call 60; refine (HF.out).mono ?_; rw [hi]; rintro e w2 ⟨rfl, rfl⟩)
        | (go_at_call 61; refine (HC.out).mono ?_; rintro e w2 ⟨A2, c2, rfl, hown2, hb2⟩))
      go_ret2
      exact ⟨A2, c2, by rw [HV.out]; rfl, by rw [HV.out]; exact hown2.base_le HB2.out.size, HB2.out.trans (hb2.mono HB2.out.size)⟩
  · by_cases h1 : x.dis < now
    · have HV : Hid (nextL l calls now 4 call box kilos = ([], 370)) := by unfold Hid nextAt at *; rw [HVS, if_pos (.inr ⟨rfl, h1⟩)]
      go_enter Try.func39, Try.ntmps39
      go_wp2_with (first
        | (go_at_call 60; refine (HF.out).mono ?_; rw [hi]; rintro e w2 ⟨rfl, rfl⟩)
        )
      go_ret2
      exact ⟨none, 0, by rw [HV.out]; rfl, by rw [HV.out]; exact OwnS.nil _ _ _ _, HW1.out.alloc HW1.out.size _⟩
    · have hb2 : Below w.heap.size w (boxA { x with kilos := kilos } (rchgW 4 call box kilos w)) := HW1.out.alloc HW1.out.size _
      have HB2 := Lib.hid hb2
      clear hb2
      cases hB : boxB { x with kilos := kilos } with
      | false =>
        have HV : Hid (nextL l calls now 4 call box kilos = ([], 372)) := by unfold Hid nextAt at *; rw [HVS, if_neg (by omega), if_neg (by omega), if_neg (by omega), hB]; rfl
        go_enter Try.func39, Try.ntmps39
        go_wp2_with (first
          | (go_at_call 60; refine (HF.out).mono ?_; rw [hi]; rintro e w2 ⟨rfl, rfl⟩)
          | (go_at_call 62; refine (ref_right { x with kilos := kilos } _ hnm).mono ?_; rw [hB]; rintro e w3 ⟨rfl, hb3⟩))
        go_ret2
        exact ⟨none, 0, by rw [HV.out]; rfl, by rw [HV.out]; exact OwnS.nil _ _ _ _, HB2.out.trans (hb3.mono HB2.out.size)⟩
      | true =>
        have HV : Hid (nextL l calls now 4 call box kilos = (l.set t { x with kilos := kilos }, 0)) := by unfold Hid nextAt at *; rw [HVS, if_neg (by omega), if_neg (by omega), if_neg (by omega), if_pos hB]
        go_enter Try.func39, Try.ntmps39
        go_wp2_with (first
          | (go_at_call 60; refine (HF.out).mono ?_; rw [hi]; rintro e w2 ⟨rfl, rfl⟩)
          | (go_at_call 62; refine (ref_right { x with kilos := kilos } _ hnm).mono ?_; rw [hB]; rintro e w3 ⟨rfl, hb3⟩; obtain ⟨HRD, HB3, HBK, HOW⟩ := next_facts (b := { x with kilos := kilos }) hA HB2.out (heap_alloc2_mid _ _ _ _) hb3)
          | (at_builtin; go_loud (refine wpList_append_n rfl _ _ rfl Box.ei 0 rfl rfl HOW.out rfl _ HRD.out (by simp) (Box.ones l) (by unfold maxLen; simp; omega) (by simp; omega) HB3.out.size ?_); intro A4 c4 w4 hown4 hg4 hb4; have hld4 := box_ldBlock (b := { x with kilos := kilos }) ((hg4.block _ HBK.out.1 HBK.out.2.1).trans HBK.out.2.2); obtain ⟨g4, hA4, hga, hgb⟩ := hown4.some_ (by simp; omega); subst hA4)
          | ((with_reducible refine g_ld 73 ?_); (refine wpList_ld rfl _ _ rfl _ rfl _ hld4 ?_))
          | ((with_reducible refine g_st 73 ?_); go_loud (refine wpList_st_own (v := Box.val { x with kilos := kilos }) (cs := Box.cells { x with kilos := kilos }) rfl _ _ rfl (t := t) rfl rfl (by kernel_rfl) rfl rfl hown4 (by simp; omega) (Box.one _) ?_); intro w5 hown5 hg5)
          )
        go_ret2
        exact ⟨some ⟨g4, 0, none⟩, c4, by rw [HV.out]; simp, by rw [HV.out]; simpa [List.map_set] using hown5, (HB3.out.trans hb4).grown hg5 (Nat.le_trans HB3.out.size hb4.size) (fun j hj => by injection hj with hj; omega)⟩

end Go.Proofs.Ytccjddbcdmgefaa
