/-
  What the statements' own helpers do: marks, lent slices, slices that are kept.
-/
import Derived.Test.YtccjddbcdmgefaaTypes
namespace Go.Proofs.Ytccjddbcdmgefaa
open Go.RowKit

theorem mark_any (k i : Int) (w : World) (hk : 0 ≤ k) (hk2 : k ≤ 10) (hi : 0 ≤ i) (hi2 : i ≤ 1000000000000000) :
    Calls Try.prog 53 #[.int .i64 k, .int .i64 i] w fun e w' => e = .returned (.int .i64 (1000003 * (k + 7) + i)) ∧ w = w' := by
  go_enter Try.func53, Try.ntmps53
  go_wp2
  go_ret
  exact ⟨rfl, rfl⟩


def mkBox (n : Int) : Box := ⟨n, ⟨#[]⟩, 0, false, 0, 0, 0, 0, false⟩

theorem markBox_any (k i m : Int) (hm : 1000003 * (k + 7) = m) (w : World) (hk : 0 ≤ k) (hk2 : k ≤ 10) (hi : 0 ≤ i) (hi2 : i ≤ 1000000000000000) :
    Calls Try.prog 34 #[.int .i64 k, .int .i64 i] w fun e w' => e = .returned (mkBox (m + i)).val ∧ Below w.heap.size w w' := by
  subst hm
  go_enter Try.func34, Try.ntmps34
  go_wp2_with (go_at_call 53; refine (mark_any _ _ _ (by omega) (by omega) (by omega) (by omega)).mono ?_; rintro e w' ⟨rfl, rfl⟩)
  exact bodyPost_ret (v := (mkBox (1000003 * (k + 7) + i)).val) (by simp [results, Try.results34, go_sem, mkBox]) rfl ⟨rfl, by
    exact (Below.refl _ w).alloc (Nat.le_refl _) _⟩


def marksBox (m : Int) (n : Nat) : List Box := (List.range n).map fun (i : Nat) => mkBox (m + (i : Int))

theorem marksBox_succ (m : Int) (n : Nat) : marksBox m (n + 1) = marksBox m n ++ [mkBox (m + (n : Int))] := by
  simp [marksBox, List.range_succ]

theorem marksBox_get (m : Int) (n k : Nat) (h : k < n) : (marksBox m n)[k]? = some (mkBox (m + (k : Int))) := by
  simp [marksBox, h]


set_option maxHeartbeats 1000000 in
theorem lentBoxes (A : Option Addr) (c : Nat) (l : List Box) (w : World) (hA : Rd w w.heap.size 9 A (l.map Box.cells)) (hl : l.length * 64 ≤ 140737488351232) :
    Calls Try.prog 12 #[.slice A l.length c] w fun e w' => ∃ g cap, e = .returned (.slice (some ⟨g, 0, none⟩) l.length cap) ∧ w.heap.size ≤ g ∧ l.length + 12 ≤ cap ∧
      Rd w' w'.heap.size 9 (some ⟨g, 0, none⟩) ((l ++ marksBox 8000024 12).map Box.cells) ∧ Below w.heap.size w w' := by
  go_enter Try.func12, Try.ntmps12
  go_wp2_with (first
    | (at_make; go_loud (refine wpList_make_S rfl _ _ rfl Box.ei (base := w.heap.size) (n := l.length + 12) rfl rfl (by simp) (by omega) (by unfold maxLen; omega) (Nat.le_refl _) ?_); intro w1 hown hb1 hlt1)
    | (at_builtin; go_loud (refine wpList_append_room rfl _ _ rfl Box.ei 0 rfl rfl hown rfl w.heap.size (hA.below hb1 (Nat.le_refl _)) (by simp) (Box.ones l) (by simp) hb1.size ?_); intro w2 hown2 hg2 hb2))
  have H2 : OwnS w2 w.heap.size 73 9 (some ⟨w.heap.size, 0, none⟩) (l.length + 12) ((l ++ marksBox 8000024 0).map Box.cells) := by simpa [marksBox] using hown2
  have B2 : Below w.heap.size w w2 := hb1.trans hb2
  clear hown hown2 hg2 hb2 hb1 hlt1 hA
  go_loopw [3, 4] (fun v i wr => ∃ k : Nat, k ≤ 12 ∧ i = .int .i64 k ∧ v = .slice (some ⟨w.heap.size, 0, none⟩) (l.length + k) (l.length + 12) ∧
     OwnS wr w.heap.size 73 9 (some ⟨w.heap.size, 0, none⟩) (l.length + 12) ((l ++ marksBox 8000024 k).map Box.cells) ∧ Below w.heap.size w wr) (fun _ i _ => 12 - (intOf i).toNat)
  case atStart => exact ⟨0, by omega, rfl, rfl, H2, B2⟩
  case round =>
    obtain ⟨k, hk, rfl, rfl, hown, hb⟩ := hrel
    clear H2 B2
    by_cases hlt : k < 12
    · have hbs := hb.size
      go_wp2_with (first
        | (go_at_call 34; refine (markBox_any _ _ 8000024 rfl _ (by omega) (by omega) (by omega) (by omega)).mono ?_; rintro e w' ⟨rfl, hb3⟩; have hbs3 := hb3.size; have hown3 := hown.below hb3 (Nat.le_refl _))
        | (at_builtin; go_loud (refine wpList_append_room rfl _ _ rfl Box.ei (l.length + k) (by simp [marksBox]) rfl (hown3.alloc _) rfl (w'.heap.size + 1) (Rd.new w' 73 9 (mkBox (8000024 + (k : Int))).cells rfl) rfl (Box.ones [_]) (by simp [marksBox]; omega) (by simp; omega) ?_); intro w4 hown4 hg4 hb4))
      go_roundw
      case rel => exact ⟨k + 1, by omega, by go_num, rfl, by rw [marksBox_succ]; simpa using hown4, hb.trans (((hb3.mono hbs).trans ((Below.refl _ _).alloc (by omega) _)).trans hb4)⟩
      case measure => simp [intOf]; omega
    · obtain rfl : k = 12 := by omega
      go_wp2
      go_ret
      exact ⟨w.heap.size, l.length + 12, rfl, Nat.le_refl _, Nat.le_refl _, hown.rd, hb⟩

set_option maxRecDepth 100000 in
set_option maxHeartbeats 1000000 in
theorem keptBoxes (A A' : Option Addr) (c c' : Nat) (l : List Box) (w : World) (hA : Rd w w.heap.size 9 A ((l ++ marksBox 8000024 12).map Box.cells)) (hc : l.length + 12 ≤ c) (hA' : Rd w w.heap.size 9 A' (l.map Box.cells)) (hl : l.length * 64 ≤ 140737488351232) :
    Calls Try.prog 20 #[.slice A l.length c, .slice A' l.length c'] w fun e w' => e = .returned (.bool true) ∧ Below w.heap.size w w' := by
  go_enter Try.func20, Try.ntmps20
  have h0 : ((l.length : Int) != (l.length : Int)) = false := by simp
  go_wp2
  clear h0
  go_loopw [6] (fun i wr => ∃ k : Nat, k ≤ l.length + 12 ∧ i = .int .i64 k ∧ Below w.heap.size w wr) (fun i _ => l.length + 12 - (intOf i).toNat)
  case atStart => exact ⟨0, by omega, rfl, Below.refl _ _⟩
  case round =>
    obtain ⟨k, hk, rfl, hb⟩ := hrel
    have hbs := hb.size
    by_cases hlt : k < l.length
    · obtain ⟨b, off, rfl, hb1, hld⟩ := Box.ld hA (app_get Box.cells l _ k hlt)
      obtain ⟨b', off', rfl, hb1', hld'⟩ := Box.ld hA' (map_get Box.cells l k hlt)
      have HL := Lib.hid hld
      have HL' := Lib.hid hld'
      clear hld hld' hA hA'
      have heq := Box.eql_ l[k] l[k]
      have hd : decide (l.length ≤ k) = false := by simp; omega
      go_wp2
      refine wp_region_below (by kernel_rfl) (by kernel_rfl) w.heap.size ?_
      repeat (first | go_big_quiet_skip | (go_big_quiet_want; refine quiet_ld _ _ rfl _ rfl _ (fun w' hC => HL.out w' (hb.trans hC)) ?_; simp only [Act.put, List.setIfInBounds_toArray, List.set_cons_succ, List.set_cons_zero]; go_big_quiet_on) | (go_big_quiet_want; refine quiet_ld _ _ rfl _ rfl _ (fun w' hC => HL'.out w' (hb.trans hC)) ?_; simp only [Act.put, List.setIfInBounds_toArray, List.set_cons_succ, List.set_cons_zero]; go_big_quiet_on) | go_big_quiet_step (first | (intro hC; rfl) | (intro hC; exact ⟨rfl, rfl⟩)))
      refine wpQuiet_nil ?_
      intro w' hC
      clear heq
      go_wp2
      go_roundw
      case rel => exact ⟨k + 1, by omega, by go_num, hb.trans hC⟩
      case measure => simp [intOf]; omega
    · by_cases hlt2 : k < l.length + 12
      · obtain ⟨b, off, rfl, hb1, hld⟩ := Box.ld hA (app_get' Box.cells l _ k _ (by omega) (marksBox_get 8000024 12 (k - l.length) (by omega)))
        have HL := Lib.hid hld
        clear hld hA hA'
        have e1 : ((k : Int) - (l.length : Int)) = ((k - l.length : Nat) : Int) := by omega
        have heq := Box.eql_ (mkBox (8000024 + ((k : Int) - (l.length : Int)))) (mkBox (8000024 + ((k : Int) - (l.length : Int))))
        rw [← e1] at HL
        clear e1
        have hd : decide (l.length ≤ k) = true := by simp; omega
        go_wp2
        refine wp_region_below (by kernel_rfl) (by kernel_rfl) w.heap.size ?_
        repeat (first | go_big_quiet_skip | (go_big_quiet_want; refine quiet_ld _ _ rfl _ rfl _ (fun w' hC => HL.out w' (hb.trans hC)) ?_; simp only [Act.put, List.setIfInBounds_toArray, List.set_cons_succ, List.set_cons_zero]; go_big_quiet_on) | go_big_quiet_step (first | (intro hC; rfl) | (intro hC; exact ⟨rfl, rfl⟩) | (intro hC; refine (markBox_any _ _ 8000024 rfl _ (by omega) (by omega) (by omega) (by omega)).mono ?_; rintro e w' ⟨rfl, hb3⟩; exact ⟨rfl, hC.trans (hb3.mono (Nat.le_trans hbs hC.size))⟩)))
        refine wpQuiet_nil ?_
        intro w' hC
        clear heq
        go_wp2
        go_roundw
        case rel => exact ⟨k + 1, by omega, by go_num, hb.trans hC⟩
        case measure => simp [intOf]; omega
      · obtain rfl : k = l.length + 12 := by omega
        go_wp2
        go_ret
        exact ⟨rfl, hb⟩


set_option maxHeartbeats 1000000 in
theorem overBoxes (base : Nat) (A : Option Addr) (c n : Nat) (css : List (List Value)) (hn : n = css.length) (w : World) (hA : OwnS w base 73 9 A c css) (hb0 : base ≤ w.heap.size) (hl : n * 64 ≤ 140737488351232) :
    Calls Try.prog 17 #[.slice A n c] w fun e w' => e = .returned (.tuple #[]) ∧ Below base w w' := by
  have hcap := hA.cap
  unfold maxLen at hcap
  rw [← hn] at hcap
  rcases hA.block with ⟨rfl, rfl, rfl⟩ | ⟨g, cur, rfl, hbg, hg, hsz⟩
  · simp at hn
    subst hn
    go_enter Try.func17, Try.ntmps17
    go_wp2
    refine wp_loop_rounds 1 ?_
    rw [rounds_succ]
    go_wp2
    go_end0
    exact ⟨rfl, Below.refl _ _⟩
  · clear hA hn css
    have key : ∃ m : Nat, m ≤ c ∧ m ≤ n + 12 ∧ (if (n : Int) + 12 < (c : Int) then (n : Int) + 12 else (c : Int)) = (m : Int) := ⟨min c (n + 12), by omega, by omega, by split <;> omega⟩
    obtain ⟨m, hm, hm2, hmin⟩ := key
    go_enter Try.func17, Try.ntmps17
    go_wp2
    have Hmin := Lib.hid hmin
    clear hmin
    go_loopw [3] (fun i wr => ∃ (k : Nat) (cur' : Array Value), k ≤ m ∧ i = .int .i64 k ∧ wr.heap[g]? = some (.cells cur' 73 (0, 0)) ∧ cur'.size = c * 9 ∧ Below base w wr) (fun i _ => m - (intOf i).toNat)
    case atStart => exact ⟨0, cur, by omega, rfl, hg, hsz, Below.refl _ _⟩
    case round =>
      obtain ⟨k, cur', hk, rfl, hg', hsz', hb⟩ := hrel
      have Hsz := Lib.hid hsz'
      have Hsz0 := Lib.hid hsz
      clear hsz' hg hsz
      by_cases hlt : k < m
      · have hbs := hb.size
        have hgl : g < wr.heap.size := (Array.getElem?_eq_some_iff.1 hg').1
        have HG := Lib.hid hg'
        clear hg'
        go_wp2_with (first
          | (go_at_call 34; refine (markBox_any _ _ 9000027 rfl _ (by omega) (by omega) (by omega) (by omega)).mono ?_; rintro e w' ⟨rfl, hb3⟩; have hbs3 := hb3.size)
          | (refine wpList_st rfl _ _ rfl rfl rfl (n := 9) (by kernel_rfl) rfl rfl ((hb3.block g hgl).trans HG.out) (by have := Hsz.out; omega) (Box.one _) ?_; intro cur2 w2 hl2 hs2 hg2 hgr2))
        go_roundw
        case rel => exact ⟨k + 1, cur2, by omega, by go_num, hg2, hs2.trans Hsz.out, (hb.trans (hb3.mono (Nat.le_trans hb0 hbs))).grown hgr2 (by omega) (fun j hj => by injection hj with hj; omega)⟩
        case measure => simp [intOf]; omega
      · obtain rfl : k = m := by omega
        go_wp2
        go_end0
        exact ⟨rfl, hb⟩
set_option maxRecDepth 100000 in
set_option maxHeartbeats 1000000 in
theorem sameBoxes (A A' : Option Addr) (c c' : Nat) (l : List Box) (n n' : Nat) (hn : n = l.length) (hn' : n' = l.length) (w : World) (hA : Rd w w.heap.size 9 A (l.map Box.cells)) (hA' : Rd w w.heap.size 9 A' (l.map Box.cells)) (hl : l.length * 64 ≤ 140737488355328) :
    Calls Try.prog 16 #[.slice A n c, .slice A' n' c'] w fun e w' => e = .returned (.bool true) ∧ Below w.heap.size w w' := by
  subst hn
  subst hn'
  go_enter Try.func16, Try.ntmps16
  have h0 : ((l.length : Int) != (l.length : Int)) = false := by simp
  go_wp2
  clear h0
  go_loopw [5] (fun i wr => ∃ k : Nat, k ≤ l.length ∧ i = .int .i64 k ∧ Below w.heap.size w wr) (fun i _ => l.length - (intOf i).toNat)
  case atStart => exact ⟨0, by omega, rfl, Below.refl _ _⟩
  case round =>
    obtain ⟨k, hk, rfl, hb⟩ := hrel
    by_cases hlt : k < l.length
    · obtain ⟨b, off, rfl, hb1, hld⟩ := Box.ld hA (map_get Box.cells l k hlt)
      obtain ⟨b', off', rfl, hb1', hld'⟩ := Box.ld hA' (map_get Box.cells l k hlt)
      have HL := Lib.hid hld
      have HL' := Lib.hid hld'
      clear hld hld' hA hA'
      have heq := Box.neq_ l[k] l[k]
      go_wp2
      refine wp_region_below (by kernel_rfl) (by kernel_rfl) w.heap.size ?_
      repeat (first | go_big_quiet_skip | (go_big_quiet_want; refine quiet_ld _ _ rfl _ rfl _ (fun w' hC => HL.out w' (hb.trans hC)) ?_; simp only [Act.put, List.setIfInBounds_toArray, List.set_cons_succ, List.set_cons_zero]; go_big_quiet_on) | (go_big_quiet_want; refine quiet_ld _ _ rfl _ rfl _ (fun w' hC => HL'.out w' (hb.trans hC)) ?_; simp only [Act.put, List.setIfInBounds_toArray, List.set_cons_succ, List.set_cons_zero]; go_big_quiet_on) | go_big_quiet_step (first | (intro hC; rfl) | (intro hC; exact ⟨rfl, rfl⟩)))
      refine wpQuiet_nil ?_
      intro w' hC
      clear heq
      go_wp2
      go_roundw
      case rel => exact ⟨k + 1, by omega, by go_num, hb.trans hC⟩
      case measure => simp [intOf]; omega
    · obtain rfl : k = l.length := by omega
      go_wp2
      go_ret
      exact ⟨rfl, hb⟩

def mkStowed (n : Int) : Stowed := ⟨n, 0, 0, 0⟩

theorem markStowed_any (k i m : Int) (hm : 1000003 * (k + 7) = m) (w : World) (hk : 0 ≤ k) (hk2 : k ≤ 10) (hi : 0 ≤ i) (hi2 : i ≤ 1000000000000000) :
    Calls Try.prog 63 #[.int .i64 k, .int .i64 i] w fun e w' => e = .returned (mkStowed (m + i)).val ∧ Below w.heap.size w w' := by
  subst hm
  go_enter Try.func63, Try.ntmps63
  go_wp2_with (go_at_call 53; refine (mark_any _ _ _ (by omega) (by omega) (by omega) (by omega)).mono ?_; rintro e w' ⟨rfl, rfl⟩)
  exact bodyPost_ret (v := (mkStowed (1000003 * (k + 7) + i)).val) (by simp [results, Try.results63, go_sem, mkStowed]) rfl ⟨rfl, by
    exact (Below.refl _ w).alloc (Nat.le_refl _) _⟩


def marksStowed (m : Int) (n : Nat) : List Stowed := (List.range n).map fun (i : Nat) => mkStowed (m + (i : Int))

theorem marksStowed_succ (m : Int) (n : Nat) : marksStowed m (n + 1) = marksStowed m n ++ [mkStowed (m + (n : Int))] := by
  simp [marksStowed, List.range_succ]

theorem marksStowed_get (m : Int) (n k : Nat) (h : k < n) : (marksStowed m n)[k]? = some (mkStowed (m + (k : Int))) := by
  simp [marksStowed, h]


set_option maxHeartbeats 1000000 in
theorem lentStoweds (A : Option Addr) (c : Nat) (l : List Stowed) (w : World) (hA : Rd w w.heap.size 4 A (l.map Stowed.cells)) (hl : l.length * 32 ≤ 140737488351232) :
    Calls Try.prog 40 #[.slice A l.length c] w fun e w' => ∃ g cap, e = .returned (.slice (some ⟨g, 0, none⟩) l.length cap) ∧ w.heap.size ≤ g ∧ l.length + 12 ≤ cap ∧
      Rd w' w'.heap.size 4 (some ⟨g, 0, none⟩) ((l ++ marksStowed 8000024 12).map Stowed.cells) ∧ Below w.heap.size w w' := by
  go_enter Try.func40, Try.ntmps40
  go_wp2_with (first
    | (at_make; go_loud (refine wpList_make_S rfl _ _ rfl Stowed.ei (base := w.heap.size) (n := l.length + 12) rfl rfl (by simp) (by omega) (by unfold maxLen; omega) (Nat.le_refl _) ?_); intro w1 hown hb1 hlt1)
    | (at_builtin; go_loud (refine wpList_append_room rfl _ _ rfl Stowed.ei 0 rfl rfl hown rfl w.heap.size (hA.below hb1 (Nat.le_refl _)) (by simp) (Stowed.ones l) (by simp) hb1.size ?_); intro w2 hown2 hg2 hb2))
  have H2 : OwnS w2 w.heap.size 42 4 (some ⟨w.heap.size, 0, none⟩) (l.length + 12) ((l ++ marksStowed 8000024 0).map Stowed.cells) := by simpa [marksStowed] using hown2
  have B2 : Below w.heap.size w w2 := hb1.trans hb2
  clear hown hown2 hg2 hb2 hb1 hlt1 hA
  go_loopw [3, 4] (fun v i wr => ∃ k : Nat, k ≤ 12 ∧ i = .int .i64 k ∧ v = .slice (some ⟨w.heap.size, 0, none⟩) (l.length + k) (l.length + 12) ∧
     OwnS wr w.heap.size 42 4 (some ⟨w.heap.size, 0, none⟩) (l.length + 12) ((l ++ marksStowed 8000024 k).map Stowed.cells) ∧ Below w.heap.size w wr) (fun _ i _ => 12 - (intOf i).toNat)
  case atStart => exact ⟨0, by omega, rfl, rfl, H2, B2⟩
  case round =>
    obtain ⟨k, hk, rfl, rfl, hown, hb⟩ := hrel
    clear H2 B2
    by_cases hlt : k < 12
    · have hbs := hb.size
      go_wp2_with (first
        | (go_at_call 63; refine (markStowed_any _ _ 8000024 rfl _ (by omega) (by omega) (by omega) (by omega)).mono ?_; rintro e w' ⟨rfl, hb3⟩; have hbs3 := hb3.size; have hown3 := hown.below hb3 (Nat.le_refl _))
        | (at_builtin; go_loud (refine wpList_append_room rfl _ _ rfl Stowed.ei (l.length + k) (by simp [marksStowed]) rfl (hown3.alloc _) rfl (w'.heap.size + 1) (Rd.new w' 42 4 (mkStowed (8000024 + (k : Int))).cells rfl) rfl (Stowed.ones [_]) (by simp [marksStowed]; omega) (by simp; omega) ?_); intro w4 hown4 hg4 hb4))
      go_roundw
      case rel => exact ⟨k + 1, by omega, by go_num, rfl, by rw [marksStowed_succ]; simpa using hown4, hb.trans (((hb3.mono hbs).trans ((Below.refl _ _).alloc (by omega) _)).trans hb4)⟩
      case measure => simp [intOf]; omega
    · obtain rfl : k = 12 := by omega
      go_wp2
      go_ret
      exact ⟨w.heap.size, l.length + 12, rfl, Nat.le_refl _, Nat.le_refl _, hown.rd, hb⟩

set_option maxRecDepth 100000 in
set_option maxHeartbeats 1000000 in
theorem keptStoweds (A A' : Option Addr) (c c' : Nat) (l : List Stowed) (w : World) (hA : Rd w w.heap.size 4 A ((l ++ marksStowed 8000024 12).map Stowed.cells)) (hc : l.length + 12 ≤ c) (hA' : Rd w w.heap.size 4 A' (l.map Stowed.cells)) (hl : l.length * 32 ≤ 140737488351232) :
    Calls Try.prog 49 #[.slice A l.length c, .slice A' l.length c'] w fun e w' => e = .returned (.bool true) ∧ Below w.heap.size w w' := by
  go_enter Try.func49, Try.ntmps49
  have h0 : ((l.length : Int) != (l.length : Int)) = false := by simp
  go_wp2
  clear h0
  go_loopw [6] (fun i wr => ∃ k : Nat, k ≤ l.length + 12 ∧ i = .int .i64 k ∧ Below w.heap.size w wr) (fun i _ => l.length + 12 - (intOf i).toNat)
  case atStart => exact ⟨0, by omega, rfl, Below.refl _ _⟩
  case round =>
    obtain ⟨k, hk, rfl, hb⟩ := hrel
    have hbs := hb.size
    by_cases hlt : k < l.length
    · obtain ⟨b, off, rfl, hb1, hld⟩ := Stowed.ld hA (app_get Stowed.cells l _ k hlt)
      obtain ⟨b', off', rfl, hb1', hld'⟩ := Stowed.ld hA' (map_get Stowed.cells l k hlt)
      have HL := Lib.hid hld
      have HL' := Lib.hid hld'
      clear hld hld' hA hA'
      have heq := Stowed.eql_ l[k] l[k]
      have hd : decide (l.length ≤ k) = false := by simp; omega
      go_wp2
      refine wp_region_below (by kernel_rfl) (by kernel_rfl) w.heap.size ?_
      repeat (first | go_big_quiet_skip | (go_big_quiet_want; refine quiet_ld _ _ rfl _ rfl _ (fun w' hC => HL.out w' (hb.trans hC)) ?_; simp only [Act.put, List.setIfInBounds_toArray, List.set_cons_succ, List.set_cons_zero]; go_big_quiet_on) | (go_big_quiet_want; refine quiet_ld _ _ rfl _ rfl _ (fun w' hC => HL'.out w' (hb.trans hC)) ?_; simp only [Act.put, List.setIfInBounds_toArray, List.set_cons_succ, List.set_cons_zero]; go_big_quiet_on) | go_big_quiet_step (first | (intro hC; rfl) | (intro hC; exact ⟨rfl, rfl⟩)))
      refine wpQuiet_nil ?_
      intro w' hC
      clear heq
      go_wp2
      go_roundw
      case rel => exact ⟨k + 1, by omega, by go_num, hb.trans hC⟩
      case measure => simp [intOf]; omega
    · by_cases hlt2 : k < l.length + 12
      · obtain ⟨b, off, rfl, hb1, hld⟩ := Stowed.ld hA (app_get' Stowed.cells l _ k _ (by omega) (marksStowed_get 8000024 12 (k - l.length) (by omega)))
        have HL := Lib.hid hld
        clear hld hA hA'
        have e1 : ((k : Int) - (l.length : Int)) = ((k - l.length : Nat) : Int) := by omega
        have heq := Stowed.eql_ (mkStowed (8000024 + ((k : Int) - (l.length : Int)))) (mkStowed (8000024 + ((k : Int) - (l.length : Int))))
        rw [← e1] at HL
        clear e1
        have hd : decide (l.length ≤ k) = true := by simp; omega
        go_wp2
        refine wp_region_below (by kernel_rfl) (by kernel_rfl) w.heap.size ?_
        repeat (first | go_big_quiet_skip | (go_big_quiet_want; refine quiet_ld _ _ rfl _ rfl _ (fun w' hC => HL.out w' (hb.trans hC)) ?_; simp only [Act.put, List.setIfInBounds_toArray, List.set_cons_succ, List.set_cons_zero]; go_big_quiet_on) | go_big_quiet_step (first | (intro hC; rfl) | (intro hC; exact ⟨rfl, rfl⟩) | (intro hC; refine (markStowed_any _ _ 8000024 rfl _ (by omega) (by omega) (by omega) (by omega)).mono ?_; rintro e w' ⟨rfl, hb3⟩; exact ⟨rfl, hC.trans (hb3.mono (Nat.le_trans hbs hC.size))⟩)))
        refine wpQuiet_nil ?_
        intro w' hC
        clear heq
        go_wp2
        go_roundw
        case rel => exact ⟨k + 1, by omega, by go_num, hb.trans hC⟩
        case measure => simp [intOf]; omega
      · obtain rfl : k = l.length + 12 := by omega
        go_wp2
        go_ret
        exact ⟨rfl, hb⟩


set_option maxRecDepth 100000 in
set_option maxHeartbeats 1000000 in
theorem sameStoweds (A A' : Option Addr) (c c' : Nat) (l : List Stowed) (n n' : Nat) (hn : n = l.length) (hn' : n' = l.length) (w : World) (hA : Rd w w.heap.size 4 A (l.map Stowed.cells)) (hA' : Rd w w.heap.size 4 A' (l.map Stowed.cells)) (hl : l.length * 32 ≤ 140737488355328) :
    Calls Try.prog 50 #[.slice A n c, .slice A' n' c'] w fun e w' => e = .returned (.bool true) ∧ Below w.heap.size w w' := by
  subst hn
  subst hn'
  go_enter Try.func50, Try.ntmps50
  have h0 : ((l.length : Int) != (l.length : Int)) = false := by simp
  go_wp2
  clear h0
  go_loopw [5] (fun i wr => ∃ k : Nat, k ≤ l.length ∧ i = .int .i64 k ∧ Below w.heap.size w wr) (fun i _ => l.length - (intOf i).toNat)
  case atStart => exact ⟨0, by omega, rfl, Below.refl _ _⟩
  case round =>
    obtain ⟨k, hk, rfl, hb⟩ := hrel
    by_cases hlt : k < l.length
    · obtain ⟨b, off, rfl, hb1, hld⟩ := Stowed.ld hA (map_get Stowed.cells l k hlt)
      obtain ⟨b', off', rfl, hb1', hld'⟩ := Stowed.ld hA' (map_get Stowed.cells l k hlt)
      have HL := Lib.hid hld
      have HL' := Lib.hid hld'
      clear hld hld' hA hA'
      have heq := Stowed.neq_ l[k] l[k]
      go_wp2
      refine wp_region_below (by kernel_rfl) (by kernel_rfl) w.heap.size ?_
      repeat (first | go_big_quiet_skip | (go_big_quiet_want; refine quiet_ld _ _ rfl _ rfl _ (fun w' hC => HL.out w' (hb.trans hC)) ?_; simp only [Act.put, List.setIfInBounds_toArray, List.set_cons_succ, List.set_cons_zero]; go_big_quiet_on) | (go_big_quiet_want; refine quiet_ld _ _ rfl _ rfl _ (fun w' hC => HL'.out w' (hb.trans hC)) ?_; simp only [Act.put, List.setIfInBounds_toArray, List.set_cons_succ, List.set_cons_zero]; go_big_quiet_on) | go_big_quiet_step (first | (intro hC; rfl) | (intro hC; exact ⟨rfl, rfl⟩)))
      refine wpQuiet_nil ?_
      intro w' hC
      clear heq
      go_wp2
      go_roundw
      case rel => exact ⟨k + 1, by omega, by go_num, hb.trans hC⟩
      case measure => simp [intOf]; omega
    · obtain rfl : k = l.length := by omega
      go_wp2
      go_ret
      exact ⟨rfl, hb⟩

def mkNum (n : Int) : Num := n

theorem markNum_any (k i m : Int) (hm : 1000003 * (k + 7) = m) (w : World) (hk : 0 ≤ k) (hk2 : k ≤ 10) (hi : 0 ≤ i) (hi2 : i ≤ 1000000000000000) :
    Calls Try.prog 53 #[.int .i64 k, .int .i64 i] w fun e w' => e = .returned (mkNum (m + i)).val ∧ Below w.heap.size w w' := by
  subst hm
  refine (mark_any k i w hk hk2 hi hi2).mono ?_
  rintro e w' ⟨rfl, rfl⟩
  exact ⟨rfl, Below.refl _ _⟩

def marksNum (m : Int) (n : Nat) : List Num := (List.range n).map fun (i : Nat) => mkNum (m + (i : Int))

theorem marksNum_succ (m : Int) (n : Nat) : marksNum m (n + 1) = marksNum m n ++ [mkNum (m + (n : Int))] := by
  simp [marksNum, List.range_succ]

theorem marksNum_get (m : Int) (n k : Nat) (h : k < n) : (marksNum m n)[k]? = some (mkNum (m + (k : Int))) := by
  simp [marksNum, h]


set_option maxHeartbeats 1000000 in
theorem lentInts (A : Option Addr) (c : Nat) (l : List Num) (w : World) (hA : Rd w w.heap.size 1 A (l.map Num.cells)) (hl : l.length * 8 ≤ 140737488351232) :
    Calls Try.prog 42 #[.slice A l.length c] w fun e w' => ∃ g cap, e = .returned (.slice (some ⟨g, 0, none⟩) l.length cap) ∧ w.heap.size ≤ g ∧ l.length + 12 ≤ cap ∧
      Rd w' w'.heap.size 1 (some ⟨g, 0, none⟩) ((l ++ marksNum 8000024 12).map Num.cells) ∧ Below w.heap.size w w' := by
  go_enter Try.func42, Try.ntmps42
  go_wp2_with (first
    | (at_make; go_loud (refine wpList_make_S rfl _ _ rfl Num.ei (base := w.heap.size) (n := l.length + 12) rfl rfl (by simp) (by omega) (by unfold maxLen; omega) (Nat.le_refl _) ?_); intro w1 hown hb1 hlt1)
    | (at_builtin; go_loud (refine wpList_append_room rfl _ _ rfl Num.ei 0 rfl rfl hown rfl w.heap.size (hA.below hb1 (Nat.le_refl _)) (by simp) (Num.ones l) (by simp) hb1.size ?_); intro w2 hown2 hg2 hb2))
  have H2 : OwnS w2 w.heap.size 3 1 (some ⟨w.heap.size, 0, none⟩) (l.length + 12) ((l ++ marksNum 8000024 0).map Num.cells) := by simpa [marksNum] using hown2
  have B2 : Below w.heap.size w w2 := hb1.trans hb2
  clear hown hown2 hg2 hb2 hb1 hlt1 hA
  go_loopw [3, 4] (fun v i wr => ∃ k : Nat, k ≤ 12 ∧ i = .int .i64 k ∧ v = .slice (some ⟨w.heap.size, 0, none⟩) (l.length + k) (l.length + 12) ∧
     OwnS wr w.heap.size 3 1 (some ⟨w.heap.size, 0, none⟩) (l.length + 12) ((l ++ marksNum 8000024 k).map Num.cells) ∧ Below w.heap.size w wr) (fun _ i _ => 12 - (intOf i).toNat)
  case atStart => exact ⟨0, by omega, rfl, rfl, H2, B2⟩
  case round =>
    obtain ⟨k, hk, rfl, rfl, hown, hb⟩ := hrel
    clear H2 B2
    by_cases hlt : k < 12
    · have hbs := hb.size
      go_wp2_with (first
        | (go_at_call 53; refine (markNum_any _ _ 8000024 rfl _ (by omega) (by omega) (by omega) (by omega)).mono ?_; rintro e w' ⟨rfl, hb3⟩; have hbs3 := hb3.size; have hown3 := hown.below hb3 (Nat.le_refl _))
        | (at_builtin; go_loud (refine wpList_append_room rfl _ _ rfl Num.ei (l.length + k) (by simp [marksNum]) rfl (hown3.alloc _) rfl (w'.heap.size + 1) (Rd.new w' 3 1 (mkNum (8000024 + (k : Int))).cells rfl) rfl (Num.ones [_]) (by simp [marksNum]; omega) (by simp; omega) ?_); intro w4 hown4 hg4 hb4))
      go_roundw
      case rel => exact ⟨k + 1, by omega, by go_num, rfl, by rw [marksNum_succ]; simpa using hown4, hb.trans (((hb3.mono hbs).trans ((Below.refl _ _).alloc (by omega) _)).trans hb4)⟩
      case measure => simp [intOf]; omega
    · obtain rfl : k = 12 := by omega
      go_wp2
      go_ret
      exact ⟨w.heap.size, l.length + 12, rfl, Nat.le_refl _, Nat.le_refl _, hown.rd, hb⟩

set_option maxRecDepth 100000 in
set_option maxHeartbeats 1000000 in
theorem keptInts (A A' : Option Addr) (c c' : Nat) (l : List Num) (w : World) (hA : Rd w w.heap.size 1 A ((l ++ marksNum 8000024 12).map Num.cells)) (hc : l.length + 12 ≤ c) (hA' : Rd w w.heap.size 1 A' (l.map Num.cells)) (hl : l.length * 8 ≤ 140737488351232) :
    Calls Try.prog 51 #[.slice A l.length c, .slice A' l.length c'] w fun e w' => e = .returned (.bool true) ∧ Below w.heap.size w w' := by
  go_enter Try.func51, Try.ntmps51
  have h0 : ((l.length : Int) != (l.length : Int)) = false := by simp
  go_wp2
  clear h0
  go_loopw [6] (fun i wr => ∃ k : Nat, k ≤ l.length + 12 ∧ i = .int .i64 k ∧ Below w.heap.size w wr) (fun i _ => l.length + 12 - (intOf i).toNat)
  case atStart => exact ⟨0, by omega, rfl, Below.refl _ _⟩
  case round =>
    obtain ⟨k, hk, rfl, hb⟩ := hrel
    have hbs := hb.size
    by_cases hlt : k < l.length
    · obtain ⟨b, off, rfl, hb1, hld⟩ := Num.ld hA (app_get Num.cells l _ k hlt)
      obtain ⟨b', off', rfl, hb1', hld'⟩ := Num.ld hA' (map_get Num.cells l k hlt)
      have HL := Lib.hid hld
      have HL' := Lib.hid hld'
      clear hld hld' hA hA'
      have heq := Num.eql_ l[k] l[k]
      have hd : decide (l.length ≤ k) = false := by simp; omega
      go_wp2
      refine wp_region_below (by kernel_rfl) (by kernel_rfl) w.heap.size ?_
      repeat (first | go_big_quiet_skip | (go_big_quiet_want; refine quiet_ld _ _ rfl _ rfl _ (fun w' hC => HL.out w' (hb.trans hC)) ?_; simp only [Act.put, List.setIfInBounds_toArray, List.set_cons_succ, List.set_cons_zero]; go_big_quiet_on) | (go_big_quiet_want; refine quiet_ld _ _ rfl _ rfl _ (fun w' hC => HL'.out w' (hb.trans hC)) ?_; simp only [Act.put, List.setIfInBounds_toArray, List.set_cons_succ, List.set_cons_zero]; go_big_quiet_on) | go_big_quiet_step (first | (intro hC; rfl) | (intro hC; exact ⟨rfl, rfl⟩)))
      refine wpQuiet_nil ?_
      intro w' hC
      clear heq
      go_wp2
      go_roundw
      case rel => exact ⟨k + 1, by omega, by go_num, hb.trans hC⟩
      case measure => simp [intOf]; omega
    · by_cases hlt2 : k < l.length + 12
      · obtain ⟨b, off, rfl, hb1, hld⟩ := Num.ld hA (app_get' Num.cells l _ k _ (by omega) (marksNum_get 8000024 12 (k - l.length) (by omega)))
        have HL := Lib.hid hld
        clear hld hA hA'
        have e1 : ((k : Int) - (l.length : Int)) = ((k - l.length : Nat) : Int) := by omega
        have heq := Num.eql_ (mkNum (8000024 + ((k : Int) - (l.length : Int)))) (mkNum (8000024 + ((k : Int) - (l.length : Int))))
        rw [← e1] at HL
        clear e1
        have hd : decide (l.length ≤ k) = true := by simp; omega
        go_wp2
        refine wp_region_below (by kernel_rfl) (by kernel_rfl) w.heap.size ?_
        repeat (first | go_big_quiet_skip | (go_big_quiet_want; refine quiet_ld _ _ rfl _ rfl _ (fun w' hC => HL.out w' (hb.trans hC)) ?_; simp only [Act.put, List.setIfInBounds_toArray, List.set_cons_succ, List.set_cons_zero]; go_big_quiet_on) | go_big_quiet_step (first | (intro hC; rfl) | (intro hC; exact ⟨rfl, rfl⟩) | (intro hC; refine (markNum_any _ _ 8000024 rfl _ (by omega) (by omega) (by omega) (by omega)).mono ?_; rintro e w' ⟨rfl, hb3⟩; exact ⟨rfl, hC.trans (hb3.mono (Nat.le_trans hbs hC.size))⟩)))
        refine wpQuiet_nil ?_
        intro w' hC
        clear heq
        go_wp2
        go_roundw
        case rel => exact ⟨k + 1, by omega, by go_num, hb.trans hC⟩
        case measure => simp [intOf]; omega
      · obtain rfl : k = l.length + 12 := by omega
        go_wp2
        go_ret
        exact ⟨rfl, hb⟩


set_option maxRecDepth 100000 in
set_option maxHeartbeats 1000000 in
theorem sameInts (A A' : Option Addr) (c c' : Nat) (l : List Num) (n n' : Nat) (hn : n = l.length) (hn' : n' = l.length) (w : World) (hA : Rd w w.heap.size 1 A (l.map Num.cells)) (hA' : Rd w w.heap.size 1 A' (l.map Num.cells)) (hl : l.length * 8 ≤ 140737488355328) :
    Calls Try.prog 52 #[.slice A n c, .slice A' n' c'] w fun e w' => e = .returned (.bool true) ∧ Below w.heap.size w w' := by
  subst hn
  subst hn'
  go_enter Try.func52, Try.ntmps52
  have h0 : ((l.length : Int) != (l.length : Int)) = false := by simp
  go_wp2
  clear h0
  go_loopw [5] (fun i wr => ∃ k : Nat, k ≤ l.length ∧ i = .int .i64 k ∧ Below w.heap.size w wr) (fun i _ => l.length - (intOf i).toNat)
  case atStart => exact ⟨0, by omega, rfl, Below.refl _ _⟩
  case round =>
    obtain ⟨k, hk, rfl, hb⟩ := hrel
    by_cases hlt : k < l.length
    · obtain ⟨b, off, rfl, hb1, hld⟩ := Num.ld hA (map_get Num.cells l k hlt)
      obtain ⟨b', off', rfl, hb1', hld'⟩ := Num.ld hA' (map_get Num.cells l k hlt)
      have HL := Lib.hid hld
      have HL' := Lib.hid hld'
      clear hld hld' hA hA'
      have heq := Num.neq_ l[k] l[k]
      go_wp2
      refine wp_region_below (by kernel_rfl) (by kernel_rfl) w.heap.size ?_
      repeat (first | go_big_quiet_skip | (go_big_quiet_want; refine quiet_ld _ _ rfl _ rfl _ (fun w' hC => HL.out w' (hb.trans hC)) ?_; simp only [Act.put, List.setIfInBounds_toArray, List.set_cons_succ, List.set_cons_zero]; go_big_quiet_on) | (go_big_quiet_want; refine quiet_ld _ _ rfl _ rfl _ (fun w' hC => HL'.out w' (hb.trans hC)) ?_; simp only [Act.put, List.setIfInBounds_toArray, List.set_cons_succ, List.set_cons_zero]; go_big_quiet_on) | go_big_quiet_step (first | (intro hC; rfl) | (intro hC; exact ⟨rfl, rfl⟩)))
      refine wpQuiet_nil ?_
      intro w' hC
      clear heq
      go_wp2
      go_roundw
      case rel => exact ⟨k + 1, by omega, by go_num, hb.trans hC⟩
      case measure => simp [intOf]; omega
    · obtain rfl : k = l.length := by omega
      go_wp2
      go_ret
      exact ⟨rfl, hb⟩

end Go.Proofs.Ytccjddbcdmgefaa
