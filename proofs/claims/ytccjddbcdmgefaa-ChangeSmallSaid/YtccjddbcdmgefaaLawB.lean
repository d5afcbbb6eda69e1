/-
  fails and gives on the example of the chapter.
-/
import Derived.Test.YtccjddbcdmgefaaLawA
namespace Go.Proofs.Ytccjddbcdmgefaa
open Go.RowKit

theorem exL_num : ∀ b ∈ exL, b.num.size ≤ 140737488351232 := by
  intro b hb
  simp [exL, exBox] at hb
  rcases hb with rfl | rfl | rfl | rfl <;> exact Nat.zero_le _

set_option maxRecDepth 100000 in
set_option maxHeartbeats 2000000 in
theorem law_fails (X : Option Addr) (cx : Nat) (cs : List Chg) (m : Nat) (hm : m = cs.length) (want : Int) (w : World) (hX : Rd w w.heap.size 4 X (cs.map Chg.cells)) (hcs : cs.length ≤ 1000) (hkk : ∀ c ∈ cs, 0 ≤ c.kind ∧ c.kind ≤ 255) (hall : allL exL 4 1 cs = ([], (cs.length : Int) - 1, want)) :
    Calls Try.prog 23 #[.int .i64 want, .slice X m cx] w fun e w' => e = .returned (.bool true) ∧ Below w.heap.size w w' := by
  subst hm
  have HEX := Lib.hid (law_example w)
  have HAL : Hid (∀ w2 A c, Rd w2 w2.heap.size 9 A (exL.map Box.cells) → Below w.heap.size w w2 → Calls Try.prog 13 #[.slice A exL.length c, .int .i64 4, .int .i64 1, .slice X cs.length cx] w2 fun e w' => ∃ A' c', e = .returned (.tuple #[.slice A' 0 c', .int .i64 ((cs.length : Int) - 1), .int .i64 want]) ∧ Below w2.heap.size w2 w') := fun w2 A c hA hb => by
    have h1 := change_all A X c cx exL cs _ _ rfl rfl 4 1 w2 hA ((hX.below hb (Nat.le_refl _)).more hb.size) (by simp [exL]) (by omega) exL_num hkk
    rw [hall] at h1
    exact h1.mono fun e w' ⟨A', c', h2, _, h3⟩ => ⟨A', c', h2, h3⟩
  clear hX hkk hall
  go_enter Try.func23, Try.ntmps23
  go_wp2_with (first
    | (go_at_call 11; refine (HEX.out).mono ?_; rintro e w2 ⟨A2, c2, rfl, hown2, hb2⟩)
    | (go_at_call 13; refine (HAL.out _ _ _ hown2.rd hb2).mono ?_; rintro e w3 ⟨A3, c3, rfl, hb3⟩))
  go_ret
  exact ⟨rfl, hb2.trans (hb3.mono hb2.size)⟩

def Box.trip (b : Box) : List Value := [.int .i64 b.id, .int .i64 b.load, .int .i64 b.dis]

set_option maxRecDepth 100000 in
set_option maxHeartbeats 4000000 in
theorem law_gives (X Y : Option Addr) (cx cy : Nat) (cs : List Chg) (l' : List Box) (m my : Nat) (hm : m = cs.length) (hmy : my = l'.length) (w : World) (hX : Rd w w.heap.size 4 X (cs.map Chg.cells)) (hY : Rd w w.heap.size 3 Y (l'.map Box.trip)) (hcs : cs.length ≤ 1000) (hl' : l'.length ≤ 1000) (hkk : ∀ c ∈ cs, 0 ≤ c.kind ∧ c.kind ≤ 255) (hall : allL exL 4 1 cs = (l', 0, 0)) :
    Calls Try.prog 21 #[.slice X m cx, .slice Y my cy] w fun e w' => e = .returned (.bool true) ∧ Below w.heap.size w w' := by
  subst hm
  subst hmy
  have HEX := Lib.hid (law_example w)
  have HAL : Hid (∀ w2 A c, Rd w2 w2.heap.size 9 A (exL.map Box.cells) → Below w.heap.size w w2 → Calls Try.prog 13 #[.slice A exL.length c, .int .i64 4, .int .i64 1, .slice X cs.length cx] w2 fun e w' => ∃ A' c', e = .returned (.tuple #[.slice A' l'.length c', .int .i64 0, .int .i64 0]) ∧ OwnS w' w2.heap.size 73 9 A' c' (l'.map Box.cells) ∧ Below w2.heap.size w2 w') := fun w2 A c hA hb => by
    have h1 := change_all A X c cx exL cs _ _ rfl rfl 4 1 w2 hA ((hX.below hb (Nat.le_refl _)).more hb.size) (by simp [exL]) (by omega) exL_num hkk
    rw [hall] at h1
    exact h1
  clear hX hkk hall
  go_enter Try.func21, Try.ntmps21
  go_wp2_with (first
    | (go_at_call 11; refine (HEX.out).mono ?_; rintro e w2 ⟨A2, c2, rfl, hown2, hb2⟩)
    | (go_at_call 13; refine (HAL.out _ _ _ hown2.rd hb2).mono ?_; rintro e w3 ⟨A3, c3, rfl, hown3, hb3⟩))
  have HB3 : Hid (Below w.heap.size w w3) := hb2.trans (hb3.mono hb2.size)
  have HA3 := Lib.hid hown3.rd
  clear HEX HAL hown2 hown3 hb2 hb3
  go_loopw [32] (fun i wr => ∃ k : Nat, k ≤ l'.length ∧ i = .int .i64 k ∧ From w3 wr) (fun i _ => l'.length - (intOf i).toNat)
  case atStart => exact ⟨0, by omega, rfl, Below.refl _ _⟩
  case round =>
    obtain ⟨k, hk, rfl, hbr⟩ := hrel
    by_cases hlt : k < l'.length
    · obtain ⟨bb, off, rfl, _, hld⟩ := Box.ld HA3.out (map_get Box.cells l' k hlt)
      have HL := Lib.hid (hld wr hbr)
      obtain ⟨yb, yoff, rfl, hyb, hyl, hyc⟩ := hY k l'[k].trip (map_get Box.trip l' k hlt)
      have HBX : Hid (BoxAt (boxA l'[k] wr) wr.heap.size l'[k]) := heap_alloc_new wr _
      have hbw : Below w.heap.size w (boxA l'[k] wr) := (HB3.out.trans (hbr.mono HB3.out.size)).alloc (Nat.le_trans HB3.out.size hbr.size) _
      have HBR : Hid (From w3 (boxA l'[k] wr)) := hbr.alloc hbr.size _
      have HW0 : Hid (∀ w', From (boxA l'[k] wr) w' → (loadVar 3 ⟨yb, yoff + k * 3, none⟩).run Try.prog w' = .ok (.int .i64 l'[k].id) w') := fun w' h => run_load_cell Try.underlying3 rfl (((hbw.trans (h.mono hbw.size)).cell (p := ⟨yb, _, none⟩) (by simpa using hyb)).trans (hyc 0 _ rfl))
      have HW1 : Hid (∀ w', From (boxA l'[k] wr) w' → (loadVar 3 ⟨yb, yoff + k * 3 + 1, none⟩).run Try.prog w' = .ok (.int .i64 l'[k].load) w') := fun w' h => run_load_cell Try.underlying3 rfl (((hbw.trans (h.mono hbw.size)).cell (p := ⟨yb, _, none⟩) (by simpa using hyb)).trans (hyc 1 _ rfl))
      have HW2 : Hid (∀ w', From (boxA l'[k] wr) w' → (loadVar 3 ⟨yb, yoff + k * 3 + 2, none⟩).run Try.prog w' = .ok (.int .i64 l'[k].dis) w') := fun w' h => run_load_cell Try.underlying3 rfl (((hbw.trans (h.mono hbw.size)).cell (p := ⟨yb, _, none⟩) (by simpa using hyb)).trans (hyc 2 _ rfl))
      have HL0 : Hid (∀ w', From (boxA l'[k] wr) w' → (loadVar 3 ⟨wr.heap.size, 0, none⟩).run Try.prog w' = .ok (.int .i64 l'[k].id) w') := fun w' h => run_load_cell Try.underlying3 rfl ((HBX.out.below h HBX.out.lt).cell 0)
      have HL5 : Hid (∀ w', From (boxA l'[k] wr) w' → (loadVar 3 ⟨wr.heap.size, 5, none⟩).run Try.prog w' = .ok (.int .i64 l'[k].load) w') := fun w' h => run_load_cell Try.underlying3 rfl ((HBX.out.below h HBX.out.lt).cell 5)
      have HL6 : Hid (∀ w', From (boxA l'[k] wr) w' → (loadVar 3 ⟨wr.heap.size, 6, none⟩).run Try.prog w' = .ok (.int .i64 l'[k].dis) w') := fun w' h => run_load_cell Try.underlying3 rfl ((HBX.out.below h HBX.out.lt).cell 6)
      clear hld hyc hbw
      go_wp2_with (first
        | ((with_reducible refine g_ld 73 ?_); refine wpList_ld rfl _ _ rfl _ rfl _ HL.out ?_))
      refine wp_region_below (by kernel_rfl) (by kernel_rfl) (boxA l'[k] wr).heap.size ?_
      repeat (first | go_big_quiet_skip | (go_big_quiet_want; refine quiet_ld 3 _ rfl _ rfl _ (fun w' hC => HL0.out w' hC) ?_; simp only [Act.put, List.setIfInBounds_toArray, List.set_cons_succ, List.set_cons_zero]; go_big_quiet_on) | (go_big_quiet_want; refine quiet_ld 3 _ rfl _ rfl _ (fun w' hC => HW0.out w' hC) ?_; simp only [Act.put, List.setIfInBounds_toArray, List.set_cons_succ, List.set_cons_zero]; go_big_quiet_on) | (go_big_quiet_want; refine quiet_ld 3 _ rfl _ rfl _ (fun w' hC => HL5.out w' hC) ?_; simp only [Act.put, List.setIfInBounds_toArray, List.set_cons_succ, List.set_cons_zero]; go_big_quiet_on) | (go_big_quiet_want; refine quiet_ld 3 _ rfl _ rfl _ (fun w' hC => HW1.out w' hC) ?_; simp only [Act.put, List.setIfInBounds_toArray, List.set_cons_succ, List.set_cons_zero]; go_big_quiet_on) | (go_big_quiet_want; refine quiet_ld 3 _ rfl _ rfl _ (fun w' hC => HL6.out w' hC) ?_; simp only [Act.put, List.setIfInBounds_toArray, List.set_cons_succ, List.set_cons_zero]; go_big_quiet_on) | (go_big_quiet_want; refine quiet_ld 3 _ rfl _ rfl _ (fun w' hC => HW2.out w' hC) ?_; simp only [Act.put, List.setIfInBounds_toArray, List.set_cons_succ, List.set_cons_zero]; go_big_quiet_on) | go_big_quiet_step (first | (intro hC; rfl) | (intro hC; exact ⟨rfl, rfl⟩)))
      refine wpQuiet_nil ?_
      intro w4 hC
      go_wp2
      go_roundw
      case rel => exact ⟨k + 1, by omega, by go_num, HBR.out.trans (hC.mono HBR.out.size)⟩
      case measure => simp [intOf]; omega
    · obtain rfl : k = l'.length := by omega
      go_wp2
      go_ret
      exact ⟨rfl, HB3.out.trans (hbr.mono HB3.out.size)⟩
end Go.Proofs.Ytccjddbcdmgefaa
