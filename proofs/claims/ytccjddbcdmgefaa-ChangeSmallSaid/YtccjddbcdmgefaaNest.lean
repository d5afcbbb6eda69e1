/-
  Lent, kept, compared: slices of slices.
-/
import Derived.Test.YtccjddbcdmgefaaNestBase
import Derived.Test.YtccjddbcdmgefaaKit
namespace Go.Proofs.Ytccjddbcdmgefaa
open Go.RowKit


theorem states_ei : EI Try.prog 26 31 1 24 := EI.mk (z := .slice none 0 0) Try.underlying26 (by kernel_rfl) rfl (by omega)

theorem markStates_any (k i m : Int) (hm : 1000003 * (k + 7) = m) (w : World) (hk : 0 ≤ k) (hk2 : k ≤ 10) (hi : 0 ≤ i) (hi2 : i ≤ 1000000000000000) :
    Calls Try.prog 41 #[.int .i64 k, .int .i64 i] w fun e w' => ∃ g, e = .returned (.slice (some ⟨g, 0, none⟩) 1 1) ∧ w.heap.size ≤ g ∧ g < w'.heap.size ∧ Rd w' w'.heap.size 4 (some ⟨g, 0, none⟩) ([mkStowed (m + i)].map Stowed.cells) ∧ Below w.heap.size w w' := by
  go_enter Try.func41, Try.ntmps41
  go_wp2_with (go_at_call 63; refine (markStowed_any _ _ m hm _ (by omega) (by omega) (by omega) (by omega)).mono ?_; rintro e w' ⟨rfl, hb⟩)
  go_ret
  refine ⟨w'.heap.size, rfl, hb.size, by simp, ?_, hb.trans ((Below.refl _ _).alloc hb.size _)⟩
  exact Rd.new2 w' 42 4 (mkStowed (m + i)).cells rfl

def plainStates (ll : List (List Stowed)) : List (Nat × Nat × List (List Value)) := ll.map fun l => (l.length, l.length, l.map Stowed.cells)
def lentStates_of (l : List Stowed) : Nat × Nat × List (List Value) := (l.length, l.length + 12, (l ++ marksStowed 8000024 12).map Stowed.cells)
def marksStates (m : Int) (n : Nat) : List (Nat × Nat × List (List Value)) := (List.range n).map fun (i : Nat) => (1, 1, [mkStowed (m + (i : Int))].map Stowed.cells)
def lentStates (ll : List (List Stowed)) : List (Nat × Nat × List (List Value)) := ll.map lentStates_of ++ marksStates 8000024 12

theorem marksStates_succ (m : Int) (n : Nat) : marksStates m (n + 1) = marksStates m n ++ [(1, 1, [mkStowed (m + (n : Int))].map Stowed.cells)] := by
  simp [marksStates, List.range_succ]
theorem marksStates_get (m : Int) (n k : Nat) (h : k < n) : (marksStates m n)[k]? = some (1, 1, [mkStowed (m + (k : Int))].map Stowed.cells) := by
  simp [marksStates, h]
theorem plainStates_get (ll : List (List Stowed)) (k : Nat) (h : k < ll.length) : (plainStates ll)[k]? = some (ll[k].length, ll[k].length, ll[k].map Stowed.cells) := by
  simp [plainStates, h]
theorem lentStates_get (ll : List (List Stowed)) (k : Nat) (h : k < ll.length) : (lentStates ll)[k]? = some (lentStates_of ll[k]) := by
  unfold lentStates
  rw [List.getElem?_append_left (by simpa using h)]
  simp [h]
theorem lentStates_mark (ll : List (List Stowed)) (k : Nat) (h : ll.length ≤ k) (h2 : k < ll.length + 12) : (lentStates ll)[k]? = some (1, 1, [mkStowed (8000024 + ((k - ll.length : Nat) : Int))].map Stowed.cells) := by
  unfold lentStates
  rw [List.getElem?_append_right (by simpa using h)]
  simp only [List.length_map]
  exact marksStates_get _ _ _ (by omega)

theorem lentStates_plain {w : World} {B : Nat} {A : Option Addr} {ll : List (List Stowed)} (h : RdNN w B 4 A (lentStates ll)) : RdNN w B 4 A (plainStates ll) := by
  intro k x hk
  have hkl : k < ll.length := by have := (List.getElem?_eq_some_iff.1 hk).1; simpa [plainStates] using this
  rw [plainStates_get ll k hkl] at hk
  injection hk with hk
  subst hk
  obtain ⟨b, off, Ai, ci, e, hlt, hc, hci, hr⟩ := h k _ (lentStates_get ll k hkl)
  refine ⟨b, off, Ai, ci, e, hlt, hc, by simp only [lentStates_of] at hci; simp only []; omega, ?_⟩
  simp only [lentStates_of, List.map_append] at hr
  exact hr.pre

set_option maxHeartbeats 1000000 in
theorem lentStates_any (A : Option Addr) (c : Nat) (ll : List (List Stowed)) (w : World) (hA : RdNN w w.heap.size 4 A (plainStates ll)) (hl : ll.length * 24 ≤ 140737488351232) (hli : ∀ l ∈ ll, l.length * 32 ≤ 140737488351232) :
    Calls Try.prog 27 #[.slice A ll.length c] w fun e w' => ∃ g cap, e = .returned (.slice (some ⟨g, 0, none⟩) ll.length cap) ∧ w.heap.size ≤ g ∧ ll.length + 12 ≤ cap ∧
      OwnNN w' w.heap.size 31 4 g cap (lentStates ll) ∧ Below w.heap.size w w' := by
  go_enter Try.func27, Try.ntmps27
  go_wp2_with (at_make; refine wpList_make_S rfl _ _ rfl states_ei (base := w.heap.size) (n := ll.length + 12) rfl rfl (by simp) (by omega) (by unfold maxLen; omega) (Nat.le_refl _) ?_; intro w1 hown hb1 hlt1)
  have H1 : OwnNN w1 w.heap.size 31 4 w.heap.size (ll.length + 12) ((ll.take 0).map lentStates_of) := by simpa using OwnNN.nil_ hown
  clear hown hlt1
  go_loopw [3, 4, 5] (fun v i _ wr => ∃ k : Nat, k ≤ ll.length ∧ i = .int .i64 k ∧ v = .slice (some ⟨w.heap.size, 0, none⟩) k (ll.length + 12) ∧
     OwnNN wr w.heap.size 31 4 w.heap.size (ll.length + 12) ((ll.take k).map lentStates_of) ∧ Below w.heap.size w wr) (fun _ i _ _ => ll.length - (intOf i).toNat)
  case atStart => exact ⟨0, by omega, rfl, rfl, H1, hb1⟩
  case round =>
    obtain ⟨k, hk, rfl, rfl, hown, hb⟩ := hrel
    clear H1 hb1
    have hbs := hb.size
    by_cases hlt : k < ll.length
    · obtain ⟨b, off, Ai, ci, rfl, hblt, hci, hri, hld⟩ := hA.ld Try.underlying31 (plainStates_get ll k hlt)
      obtain ⟨css, hos, hcl⟩ := hown.len
      have hsl : css.length = k := by rw [hcl]; simp; omega
      have HS := Lib.hid hsl
      have HC := Lib.hid hcl
      have hgl := (hos.lt (a := ⟨w.heap.size, 0, none⟩) rfl).2
      clear hsl hcl hci
      have htk : (ll.take (k + 1)).map lentStates_of = (ll.take k).map lentStates_of ++ [lentStates_of ll[k]] := by rw [List.take_succ_eq_append_getElem hlt, List.map_append]; rfl
      have HT := Lib.hid htk
      clear htk
      have HL := Lib.hid hld
      clear hld
      go_wp2_with (first
        | (refine wpList_ld rfl _ _ rfl _ rfl _ (HL.out _ hb) ?_)
        | (go_at_call 40; refine (lentStoweds Ai ci ll[k] _ ((hri.below hb (Nat.le_refl _)).more hbs) (hli _ (List.getElem_mem hlt))).mono ?_; rintro e w' ⟨gi, cap, rfl, hgi, hcap, hrd, hb3⟩; have hbs3 := hb3.size; have hos3 := hos.below hb3 (Nat.le_refl _); have hown3 := hown.below hb3)
        | (at_builtin; refine wpList_append_room rfl _ _ rfl states_ei k HS.out.symm rfl (hos3.alloc _) rfl (w'.heap.size + 1) (Rd.new w' 31 1 [.slice (some ⟨gi, 0, none⟩) ll[k].length cap] rfl) rfl (by simp [Value.oneCell']) (by have := HS.out; omega) (by simp; omega) ?_; intro w4 hos4 hg4 hb4))
      go_roundw
      case rel =>
        refine ⟨k + 1, by omega, by go_num, rfl, ?_, hb.trans (((hb3.mono hbs).trans ((Below.refl _ _).alloc (by omega) _)).trans hb4)⟩
        rw [HT.out]
        have hal : Below w'.heap.size w' (w'.alloc (Obj.cells #[Value.slice (some ⟨gi, 0, none⟩) ll[k].length cap] 31)) := (Below.refl _ _).alloc (Nat.le_refl _) _
        exact (hown3.below hal).push (x := lentStates_of ll[k]) (hos3.alloc _) hos4 HC.out hg4 (by omega) hcap ((hrd.below hal (Nat.le_refl _)).more hal.size)
      case measure => simp [intOf]; omega
    · obtain rfl : k = ll.length := by omega
      have H2 : OwnNN wr w.heap.size 31 4 w.heap.size (ll.length + 12) (ll.map lentStates_of ++ marksStates 8000024 0) := by simpa [marksStates] using hown
      clear hown hlt hk
      go_wp2
      obtain ⟨wo, hwo⟩ : ∃ wo : World, wo = wr := ⟨_, rfl⟩
      subst hwo
      go_loopw [3, 6] (fun v i wr => ∃ k : Nat, k ≤ 12 ∧ i = .int .i64 k ∧ v = .slice (some ⟨w.heap.size, 0, none⟩) (ll.length + k) (ll.length + 12) ∧
         OwnNN wr w.heap.size 31 4 w.heap.size (ll.length + 12) (ll.map lentStates_of ++ marksStates 8000024 k) ∧ Below w.heap.size w wr) (fun _ i _ => 12 - (intOf i).toNat)
      case atStart => exact ⟨0, by omega, rfl, rfl, H2, hb⟩
      case round =>
        obtain ⟨k, hk, rfl, rfl, hown, hb⟩ := hrel
        clear H2
        have hbs := hb.size
        by_cases hlt : k < 12
        · obtain ⟨css, hos, hcl⟩ := hown.len
          have hsl : css.length = ll.length + k := by rw [hcl]; simp [marksStates]
          have HS := Lib.hid hsl
          have HC := Lib.hid hcl
          have hgl := (hos.lt (a := ⟨w.heap.size, 0, none⟩) rfl).2
          clear hsl hcl
          go_wp2_with (first
            | (go_at_call 41; refine (markStates_any _ _ 8000024 rfl _ (by omega) (by omega) (by omega) (by omega)).mono ?_; rintro e w' ⟨gi, rfl, hgi, hgi2, hrd, hb3⟩; have hbs3 := hb3.size; have hos3 := hos.below hb3 (Nat.le_refl _); have hown3 := hown.below hb3)
            | (at_builtin; refine wpList_append_room rfl _ _ rfl states_ei (ll.length + k) HS.out.symm rfl (hos3.alloc _) rfl (w'.heap.size + 1) (Rd.new w' 31 1 [.slice (some ⟨gi, 0, none⟩) 1 1] rfl) rfl (by simp [Value.oneCell']) (by have := HS.out; omega) (by simp; omega) ?_; intro w4 hos4 hg4 hb4))
          go_roundw
          case rel =>
            refine ⟨k + 1, by omega, by go_num, rfl, ?_, hb.trans (((hb3.mono hbs).trans ((Below.refl _ _).alloc (by omega) _)).trans hb4)⟩
            rw [marksStates_succ, ← List.append_assoc]
            have hal : Below w'.heap.size w' (w'.alloc (Obj.cells #[Value.slice (some ⟨gi, 0, none⟩) 1 1] 31)) := (Below.refl _ _).alloc (Nat.le_refl _) _
            exact (hown3.below hal).push (x := (1, 1, [mkStowed (8000024 + (k : Int))].map Stowed.cells)) (hos3.alloc _) hos4 HC.out hg4 (by omega) (Nat.le_refl _) ((hrd.below hal (Nat.le_refl _)).more hal.size)
          case measure => simp [intOf]; omega
        · obtain rfl : k = 12 := by omega
          go_wp2
          go_ret
          exact ⟨w.heap.size, ll.length + 12, rfl, Nat.le_refl _, Nat.le_refl _, hown, hb⟩

set_option maxRecDepth 100000 in
set_option maxHeartbeats 1000000 in
theorem sameStates (A A' : Option Addr) (c c' : Nat) (ll : List (List Stowed)) (n n' : Nat) (hn : n = ll.length) (hn' : n' = ll.length) (w : World) (hA : RdNN w w.heap.size 4 A (plainStates ll)) (hA' : RdNN w w.heap.size 4 A' (plainStates ll)) (hl : ll.length * 24 ≤ 140737488355328) (hli : ∀ l ∈ ll, l.length * 32 ≤ 140737488355328) :
    Calls Try.prog 47 #[.slice A n c, .slice A' n' c'] w fun e w' => e = .returned (.bool true) ∧ Below w.heap.size w w' := by
  subst hn
  subst hn'
  go_enter Try.func47, Try.ntmps47
  have h0 : ((ll.length : Int) != (ll.length : Int)) = false := by simp
  go_wp2
  clear h0
  go_loopw [5] (fun i wr => ∃ k : Nat, k ≤ ll.length ∧ i = .int .i64 k ∧ Below w.heap.size w wr) (fun i _ => ll.length - (intOf i).toNat)
  case atStart => exact ⟨0, by omega, rfl, Below.refl _ _⟩
  case round =>
    obtain ⟨k, hk, rfl, hb⟩ := hrel
    have hbs := hb.size
    by_cases hlt : k < ll.length
    · obtain ⟨b, off, Ai, ci, rfl, hb1, _, hri, hld⟩ := hA.ld Try.underlying31 (plainStates_get ll k hlt)
      obtain ⟨b', off', Aj, cj, rfl, hb1', _, hrj, hld'⟩ := hA'.ld Try.underlying31 (plainStates_get ll k hlt)
      have HL := Lib.hid hld
      have HL' := Lib.hid hld'
      have hlk := hli _ (List.getElem_mem hlt)
      clear hld hld' hA hA' hli
      go_wp2
      refine wp_region_below (by kernel_rfl) (by kernel_rfl) w.heap.size ?_
      repeat (first | go_big_quiet_skip | (go_big_quiet_want; refine quiet_ld _ _ rfl _ rfl _ (fun w' hC => HL.out w' (hb.trans hC)) ?_; simp only [Act.put, List.setIfInBounds_toArray, List.set_cons_succ, List.set_cons_zero]; go_big_quiet_on) | (go_big_quiet_want; refine quiet_ld _ _ rfl _ rfl _ (fun w' hC => HL'.out w' (hb.trans hC)) ?_; simp only [Act.put, List.setIfInBounds_toArray, List.set_cons_succ, List.set_cons_zero]; go_big_quiet_on) | go_big_quiet_step (first | (intro hC; rfl) | (intro hC; exact ⟨rfl, rfl⟩) | (intro hC; refine (sameStoweds Ai Aj ci cj ll[k] _ _ rfl rfl _ ((hri.below (hb.trans hC) (Nat.le_refl _)).more (hb.trans hC).size) ((hrj.below (hb.trans hC) (Nat.le_refl _)).more (hb.trans hC).size) hlk).mono ?_; rintro e w' ⟨rfl, hb3⟩; exact ⟨rfl, hC.trans (hb3.mono (Nat.le_trans hbs hC.size))⟩)))
      refine wpQuiet_nil ?_
      intro w' hC
      go_wp2
      go_roundw
      case rel => exact ⟨k + 1, by omega, by go_num, hb.trans hC⟩
      case measure => simp [intOf]; omega
    · obtain rfl : k = ll.length := by omega
      go_wp2
      go_ret
      exact ⟨rfl, hb⟩

set_option maxRecDepth 100000 in
set_option maxHeartbeats 1000000 in
theorem keptStates (A A' : Option Addr) (c c' : Nat) (ll : List (List Stowed)) (w : World) (hA : RdNN w w.heap.size 4 A (lentStates ll)) (hc : ll.length + 12 ≤ c) (hA' : RdNN w w.heap.size 4 A' (plainStates ll)) (hl : ll.length * 24 ≤ 140737488351232) (hli : ∀ l ∈ ll, l.length * 32 ≤ 140737488351232) :
    Calls Try.prog 32 #[.slice A ll.length c, .slice A' ll.length c'] w fun e w' => e = .returned (.bool true) ∧ Below w.heap.size w w' := by
  go_enter Try.func32, Try.ntmps32
  have h0 : ((ll.length : Int) != (ll.length : Int)) = false := by simp
  go_wp2
  clear h0
  go_loopw [6] (fun i wr => ∃ k : Nat, k ≤ ll.length + 12 ∧ i = .int .i64 k ∧ Below w.heap.size w wr) (fun i _ => ll.length + 12 - (intOf i).toNat)
  case atStart => exact ⟨0, by omega, rfl, Below.refl _ _⟩
  case round =>
    obtain ⟨k, hk, rfl, hb⟩ := hrel
    have hbs := hb.size
    by_cases hlt : k < ll.length
    · obtain ⟨b, off, Ai, ci, rfl, hb1, hci, hri, hld⟩ := hA.ld Try.underlying31 (lentStates_get ll k hlt)
      obtain ⟨b', off', Aj, cj, rfl, hb1', _, hrj, hld'⟩ := hA'.ld Try.underlying31 (plainStates_get ll k hlt)
      have HL := Lib.hid hld
      have HL' := Lib.hid hld'
      have hlk := hli _ (List.getElem_mem hlt)
      clear hld hld' hA hA' hli
      have hd : decide (ll.length ≤ k) = false := by simp; omega
      go_wp2
      refine wp_region_below (by kernel_rfl) (by kernel_rfl) w.heap.size ?_
      repeat (first | go_big_quiet_skip | (go_big_quiet_want; refine quiet_ld _ _ rfl _ rfl _ (fun w' hC => HL.out w' (hb.trans hC)) ?_; simp only [Act.put, List.setIfInBounds_toArray, List.set_cons_succ, List.set_cons_zero]; go_big_quiet_on) | (go_big_quiet_want; refine quiet_ld _ _ rfl _ rfl _ (fun w' hC => HL'.out w' (hb.trans hC)) ?_; simp only [Act.put, List.setIfInBounds_toArray, List.set_cons_succ, List.set_cons_zero]; go_big_quiet_on) | go_big_quiet_step (first | (intro hC; rfl) | (intro hC; exact ⟨rfl, rfl⟩) | (intro hC; refine (keptStoweds Ai Aj ci cj ll[k] _ ((hri.below (hb.trans hC) (Nat.le_refl _)).more (hb.trans hC).size) hci ((hrj.below (hb.trans hC) (Nat.le_refl _)).more (hb.trans hC).size) hlk).mono ?_; rintro e w' ⟨rfl, hb3⟩; exact ⟨rfl, hC.trans (hb3.mono (Nat.le_trans hbs hC.size))⟩)))
      refine wpQuiet_nil ?_
      intro w' hC
      go_wp2
      go_roundw
      case rel => exact ⟨k + 1, by omega, by go_num, hb.trans hC⟩
      case measure => simp [intOf]; omega
    · by_cases hlt2 : k < ll.length + 12
      · obtain ⟨b, off, Ai, ci, rfl, hb1, hci, hri, hld⟩ := hA.ld Try.underlying31 (lentStates_mark ll k (by omega) hlt2)
        have e1 : ((k - ll.length : Nat) : Int) = ((k : Int) - (ll.length : Int)) := by omega
        rw [e1] at hri
        clear e1
        have HL := Lib.hid hld
        clear hld hA hA' hli hci
        have hd : decide (ll.length ≤ k) = true := by simp; omega
        go_wp2
        refine wp_region_loose w.heap.size 30 _ rfl (by kernel_rfl) (by kernel_rfl) (fun v w2 => ∃ g, v = .slice (some ⟨g, 0, none⟩) 1 1 ∧ g < w2.heap.size ∧ Rd w2 w2.heap.size 4 (some ⟨g, 0, none⟩) ([mkStowed (8000024 + ((k : Int) - (ll.length : Int)))].map Stowed.cells)) hbs ?_
        simp only [List.take_succ_cons, List.take_zero, List.drop_succ_cons, List.drop_zero]
        repeat (first | go_big_quiet_skip | (go_big_quiet_want; refine quiet_ld _ _ rfl _ rfl _ (fun w' hC => HL.out w' (hb.trans hC)) ?_; simp only [Act.put, List.setIfInBounds_toArray, List.set_cons_succ, List.set_cons_zero]; go_big_quiet_on) | go_big_quiet_step (first | (intro hC; rfl) | (intro hC; exact ⟨rfl, rfl⟩)))
        refine wpQuiet_nil ?_
        refine ⟨⟨rfl, fun w' hC => ⟨41, #[.int .i64 1, .int .i64 ((k : Int) - (ll.length : Int))], by go_simp, ?_⟩⟩, ?_⟩
        · refine (markStates_any _ _ 8000024 rfl _ (by omega) (by omega) (by omega) (by omega)).mono ?_
          rintro e w2 ⟨g, rfl, hg1, hg2, hrd, hb3⟩
          exact ⟨_, rfl, hC.trans (hb3.mono (Nat.le_trans hbs hC.size)), g, rfl, hg2, hrd⟩
        · rintro v w2 hC2 ⟨g, rfl, hg2, hrd⟩
          have hb2 := hb.trans hC2
          have hri2 := (hri.below hb2 (Nat.le_refl _)).more hb2.size
          simp only [Act.put, List.setIfInBounds_toArray, List.set_cons_succ, List.set_cons_zero]
          repeat (first | go_big_quiet_skip | go_big_quiet_step (first | (intro hC; rfl) | (intro hC; exact ⟨rfl, rfl⟩) | (intro hC; refine (sameStoweds Ai _ ci _ [mkStowed (8000024 + ((k : Int) - (ll.length : Int)))] _ _ rfl rfl _ ((hri2.below hC (Nat.le_refl _)).more hC.size) ((hrd.below hC (Nat.le_refl _)).more hC.size) (by simp)).mono ?_; rintro e w' ⟨rfl, hb3⟩; exact ⟨rfl, hC.trans (hb3.mono hC.size)⟩)))
          refine wpQuiet_nil ?_
          intro w' hC
          go_wp2
          go_roundw
          case rel => exact ⟨k + 1, by omega, by go_num, hb.trans hC⟩
          case measure => simp [intOf]; omega
      · obtain rfl : k = ll.length + 12 := by omega
        go_wp2
        go_ret
        exact ⟨rfl, hb⟩


theorem waters_ei : EI Try.prog 27 35 1 24 := EI.mk (z := .slice none 0 0) Try.underlying27 (by kernel_rfl) rfl (by omega)

theorem markWaters_any (k i m : Int) (hm : 1000003 * (k + 7) = m) (w : World) (hk : 0 ≤ k) (hk2 : k ≤ 10) (hi : 0 ≤ i) (hi2 : i ≤ 1000000000000000) :
    Calls Try.prog 43 #[.int .i64 k, .int .i64 i] w fun e w' => ∃ g, e = .returned (.slice (some ⟨g, 0, none⟩) 1 1) ∧ w.heap.size ≤ g ∧ g < w'.heap.size ∧ Rd w' w'.heap.size 1 (some ⟨g, 0, none⟩) ([mkNum (m + i)].map Num.cells) ∧ Below w.heap.size w w' := by
  go_enter Try.func43, Try.ntmps43
  go_wp2_with (go_at_call 53; refine (markNum_any _ _ m hm _ (by omega) (by omega) (by omega) (by omega)).mono ?_; rintro e w' ⟨rfl, hb⟩)
  go_ret
  refine ⟨w'.heap.size, rfl, hb.size, by simp, ?_, hb.trans ((Below.refl _ _).alloc hb.size _)⟩
  exact Rd.new2 w' 3 1 (mkNum (m + i)).cells rfl

def plainWaters (ll : List (List Num)) : List (Nat × Nat × List (List Value)) := ll.map fun l => (l.length, l.length, l.map Num.cells)
def lentWaters_of (l : List Num) : Nat × Nat × List (List Value) := (l.length, l.length + 12, (l ++ marksNum 8000024 12).map Num.cells)
def marksWaters (m : Int) (n : Nat) : List (Nat × Nat × List (List Value)) := (List.range n).map fun (i : Nat) => (1, 1, [mkNum (m + (i : Int))].map Num.cells)
def lentWaters (ll : List (List Num)) : List (Nat × Nat × List (List Value)) := ll.map lentWaters_of ++ marksWaters 8000024 12

theorem marksWaters_succ (m : Int) (n : Nat) : marksWaters m (n + 1) = marksWaters m n ++ [(1, 1, [mkNum (m + (n : Int))].map Num.cells)] := by
  simp [marksWaters, List.range_succ]
theorem marksWaters_get (m : Int) (n k : Nat) (h : k < n) : (marksWaters m n)[k]? = some (1, 1, [mkNum (m + (k : Int))].map Num.cells) := by
  simp [marksWaters, h]
theorem plainWaters_get (ll : List (List Num)) (k : Nat) (h : k < ll.length) : (plainWaters ll)[k]? = some (ll[k].length, ll[k].length, ll[k].map Num.cells) := by
  simp [plainWaters, h]
theorem lentWaters_get (ll : List (List Num)) (k : Nat) (h : k < ll.length) : (lentWaters ll)[k]? = some (lentWaters_of ll[k]) := by
  unfold lentWaters
  rw [List.getElem?_append_left (by simpa using h)]
  simp [h]
theorem lentWaters_mark (ll : List (List Num)) (k : Nat) (h : ll.length ≤ k) (h2 : k < ll.length + 12) : (lentWaters ll)[k]? = some (1, 1, [mkNum (8000024 + ((k - ll.length : Nat) : Int))].map Num.cells) := by
  unfold lentWaters
  rw [List.getElem?_append_right (by simpa using h)]
  simp only [List.length_map]
  exact marksWaters_get _ _ _ (by omega)

theorem lentWaters_plain {w : World} {B : Nat} {A : Option Addr} {ll : List (List Num)} (h : RdNN w B 1 A (lentWaters ll)) : RdNN w B 1 A (plainWaters ll) := by
  intro k x hk
  have hkl : k < ll.length := by have := (List.getElem?_eq_some_iff.1 hk).1; simpa [plainWaters] using this
  rw [plainWaters_get ll k hkl] at hk
  injection hk with hk
  subst hk
  obtain ⟨b, off, Ai, ci, e, hlt, hc, hci, hr⟩ := h k _ (lentWaters_get ll k hkl)
  refine ⟨b, off, Ai, ci, e, hlt, hc, by simp only [lentWaters_of] at hci; simp only []; omega, ?_⟩
  simp only [lentWaters_of, List.map_append] at hr
  exact hr.pre

set_option maxHeartbeats 1000000 in
theorem lentWaters_any (A : Option Addr) (c : Nat) (ll : List (List Num)) (w : World) (hA : RdNN w w.heap.size 1 A (plainWaters ll)) (hl : ll.length * 24 ≤ 140737488351232) (hli : ∀ l ∈ ll, l.length * 8 ≤ 140737488351232) :
    Calls Try.prog 28 #[.slice A ll.length c] w fun e w' => ∃ g cap, e = .returned (.slice (some ⟨g, 0, none⟩) ll.length cap) ∧ w.heap.size ≤ g ∧ ll.length + 12 ≤ cap ∧
      OwnNN w' w.heap.size 35 1 g cap (lentWaters ll) ∧ Below w.heap.size w w' := by
  go_enter Try.func28, Try.ntmps28
  go_wp2_with (at_make; refine wpList_make_S rfl _ _ rfl waters_ei (base := w.heap.size) (n := ll.length + 12) rfl rfl (by simp) (by omega) (by unfold maxLen; omega) (Nat.le_refl _) ?_; intro w1 hown hb1 hlt1)
  have H1 : OwnNN w1 w.heap.size 35 1 w.heap.size (ll.length + 12) ((ll.take 0).map lentWaters_of) := by simpa using OwnNN.nil_ hown
  clear hown hlt1
  go_loopw [3, 4, 5] (fun v i _ wr => ∃ k : Nat, k ≤ ll.length ∧ i = .int .i64 k ∧ v = .slice (some ⟨w.heap.size, 0, none⟩) k (ll.length + 12) ∧
     OwnNN wr w.heap.size 35 1 w.heap.size (ll.length + 12) ((ll.take k).map lentWaters_of) ∧ Below w.heap.size w wr) (fun _ i _ _ => ll.length - (intOf i).toNat)
  case atStart => exact ⟨0, by omega, rfl, rfl, H1, hb1⟩
  case round =>
    obtain ⟨k, hk, rfl, rfl, hown, hb⟩ := hrel
    clear H1 hb1
    have hbs := hb.size
    by_cases hlt : k < ll.length
    · obtain ⟨b, off, Ai, ci, rfl, hblt, hci, hri, hld⟩ := hA.ld Try.underlying35 (plainWaters_get ll k hlt)
      obtain ⟨css, hos, hcl⟩ := hown.len
      have hsl : css.length = k := by rw [hcl]; simp; omega
      have HS := Lib.hid hsl
      have HC := Lib.hid hcl
      have hgl := (hos.lt (a := ⟨w.heap.size, 0, none⟩) rfl).2
      clear hsl hcl hci
      have htk : (ll.take (k + 1)).map lentWaters_of = (ll.take k).map lentWaters_of ++ [lentWaters_of ll[k]] := by rw [List.take_succ_eq_append_getElem hlt, List.map_append]; rfl
      have HT := Lib.hid htk
      clear htk
      have HL := Lib.hid hld
      clear hld
      go_wp2_with (first
        | (refine wpList_ld rfl _ _ rfl _ rfl _ (HL.out _ hb) ?_)
        | (go_at_call 42; refine (lentInts Ai ci ll[k] _ ((hri.below hb (Nat.le_refl _)).more hbs) (hli _ (List.getElem_mem hlt))).mono ?_; rintro e w' ⟨gi, cap, rfl, hgi, hcap, hrd, hb3⟩; have hbs3 := hb3.size; have hos3 := hos.below hb3 (Nat.le_refl _); have hown3 := hown.below hb3)
        | (at_builtin; refine wpList_append_room rfl _ _ rfl waters_ei k HS.out.symm rfl (hos3.alloc _) rfl (w'.heap.size + 1) (Rd.new w' 35 1 [.slice (some ⟨gi, 0, none⟩) ll[k].length cap] rfl) rfl (by simp [Value.oneCell']) (by have := HS.out; omega) (by simp; omega) ?_; intro w4 hos4 hg4 hb4))
      go_roundw
      case rel =>
        refine ⟨k + 1, by omega, by go_num, rfl, ?_, hb.trans (((hb3.mono hbs).trans ((Below.refl _ _).alloc (by omega) _)).trans hb4)⟩
        rw [HT.out]
        have hal : Below w'.heap.size w' (w'.alloc (Obj.cells #[Value.slice (some ⟨gi, 0, none⟩) ll[k].length cap] 35)) := (Below.refl _ _).alloc (Nat.le_refl _) _
        exact (hown3.below hal).push (x := lentWaters_of ll[k]) (hos3.alloc _) hos4 HC.out hg4 (by omega) hcap ((hrd.below hal (Nat.le_refl _)).more hal.size)
      case measure => simp [intOf]; omega
    · obtain rfl : k = ll.length := by omega
      have H2 : OwnNN wr w.heap.size 35 1 w.heap.size (ll.length + 12) (ll.map lentWaters_of ++ marksWaters 8000024 0) := by simpa [marksWaters] using hown
      clear hown hlt hk
      go_wp2
      obtain ⟨wo, hwo⟩ : ∃ wo : World, wo = wr := ⟨_, rfl⟩
      subst hwo
      go_loopw [3, 6] (fun v i wr => ∃ k : Nat, k ≤ 12 ∧ i = .int .i64 k ∧ v = .slice (some ⟨w.heap.size, 0, none⟩) (ll.length + k) (ll.length + 12) ∧
         OwnNN wr w.heap.size 35 1 w.heap.size (ll.length + 12) (ll.map lentWaters_of ++ marksWaters 8000024 k) ∧ Below w.heap.size w wr) (fun _ i _ => 12 - (intOf i).toNat)
      case atStart => exact ⟨0, by omega, rfl, rfl, H2, hb⟩
      case round =>
        obtain ⟨k, hk, rfl, rfl, hown, hb⟩ := hrel
        clear H2
        have hbs := hb.size
        by_cases hlt : k < 12
        · obtain ⟨css, hos, hcl⟩ := hown.len
          have hsl : css.length = ll.length + k := by rw [hcl]; simp [marksWaters]
          have HS := Lib.hid hsl
          have HC := Lib.hid hcl
          have hgl := (hos.lt (a := ⟨w.heap.size, 0, none⟩) rfl).2
          clear hsl hcl
          go_wp2_with (first
            | (go_at_call 43; refine (markWaters_any _ _ 8000024 rfl _ (by omega) (by omega) (by omega) (by omega)).mono ?_; rintro e w' ⟨gi, rfl, hgi, hgi2, hrd, hb3⟩; have hbs3 := hb3.size; have hos3 := hos.below hb3 (Nat.le_refl _); have hown3 := hown.below hb3)
            | (at_builtin; refine wpList_append_room rfl _ _ rfl waters_ei (ll.length + k) HS.out.symm rfl (hos3.alloc _) rfl (w'.heap.size + 1) (Rd.new w' 35 1 [.slice (some ⟨gi, 0, none⟩) 1 1] rfl) rfl (by simp [Value.oneCell']) (by have := HS.out; omega) (by simp; omega) ?_; intro w4 hos4 hg4 hb4))
          go_roundw
          case rel =>
            refine ⟨k + 1, by omega, by go_num, rfl, ?_, hb.trans (((hb3.mono hbs).trans ((Below.refl _ _).alloc (by omega) _)).trans hb4)⟩
            rw [marksWaters_succ, ← List.append_assoc]
            have hal : Below w'.heap.size w' (w'.alloc (Obj.cells #[Value.slice (some ⟨gi, 0, none⟩) 1 1] 35)) := (Below.refl _ _).alloc (Nat.le_refl _) _
            exact (hown3.below hal).push (x := (1, 1, [mkNum (8000024 + (k : Int))].map Num.cells)) (hos3.alloc _) hos4 HC.out hg4 (by omega) (Nat.le_refl _) ((hrd.below hal (Nat.le_refl _)).more hal.size)
          case measure => simp [intOf]; omega
        · obtain rfl : k = 12 := by omega
          go_wp2
          go_ret
          exact ⟨w.heap.size, ll.length + 12, rfl, Nat.le_refl _, Nat.le_refl _, hown, hb⟩

set_option maxRecDepth 100000 in
set_option maxHeartbeats 1000000 in
theorem sameWaters (A A' : Option Addr) (c c' : Nat) (ll : List (List Num)) (n n' : Nat) (hn : n = ll.length) (hn' : n' = ll.length) (w : World) (hA : RdNN w w.heap.size 1 A (plainWaters ll)) (hA' : RdNN w w.heap.size 1 A' (plainWaters ll)) (hl : ll.length * 24 ≤ 140737488355328) (hli : ∀ l ∈ ll, l.length * 8 ≤ 140737488355328) :
    Calls Try.prog 48 #[.slice A n c, .slice A' n' c'] w fun e w' => e = .returned (.bool true) ∧ Below w.heap.size w w' := by
  subst hn
  subst hn'
  go_enter Try.func48, Try.ntmps48
  have h0 : ((ll.length : Int) != (ll.length : Int)) = false := by simp
  go_wp2
  clear h0
  go_loopw [5] (fun i wr => ∃ k : Nat, k ≤ ll.length ∧ i = .int .i64 k ∧ Below w.heap.size w wr) (fun i _ => ll.length - (intOf i).toNat)
  case atStart => exact ⟨0, by omega, rfl, Below.refl _ _⟩
  case round =>
    obtain ⟨k, hk, rfl, hb⟩ := hrel
    have hbs := hb.size
    by_cases hlt : k < ll.length
    · obtain ⟨b, off, Ai, ci, rfl, hb1, _, hri, hld⟩ := hA.ld Try.underlying35 (plainWaters_get ll k hlt)
      obtain ⟨b', off', Aj, cj, rfl, hb1', _, hrj, hld'⟩ := hA'.ld Try.underlying35 (plainWaters_get ll k hlt)
      have HL := Lib.hid hld
      have HL' := Lib.hid hld'
      have hlk := hli _ (List.getElem_mem hlt)
      clear hld hld' hA hA' hli
      go_wp2
      refine wp_region_below (by kernel_rfl) (by kernel_rfl) w.heap.size ?_
      repeat (first | go_big_quiet_skip | (go_big_quiet_want; refine quiet_ld _ _ rfl _ rfl _ (fun w' hC => HL.out w' (hb.trans hC)) ?_; simp only [Act.put, List.setIfInBounds_toArray, List.set_cons_succ, List.set_cons_zero]; go_big_quiet_on) | (go_big_quiet_want; refine quiet_ld _ _ rfl _ rfl _ (fun w' hC => HL'.out w' (hb.trans hC)) ?_; simp only [Act.put, List.setIfInBounds_toArray, List.set_cons_succ, List.set_cons_zero]; go_big_quiet_on) | go_big_quiet_step (first | (intro hC; rfl) | (intro hC; exact ⟨rfl, rfl⟩) | (intro hC; refine (sameInts Ai Aj ci cj ll[k] _ _ rfl rfl _ ((hri.below (hb.trans hC) (Nat.le_refl _)).more (hb.trans hC).size) ((hrj.below (hb.trans hC) (Nat.le_refl _)).more (hb.trans hC).size) hlk).mono ?_; rintro e w' ⟨rfl, hb3⟩; exact ⟨rfl, hC.trans (hb3.mono (Nat.le_trans hbs hC.size))⟩)))
      refine wpQuiet_nil ?_
      intro w' hC
      go_wp2
      go_roundw
      case rel => exact ⟨k + 1, by omega, by go_num, hb.trans hC⟩
      case measure => simp [intOf]; omega
    · obtain rfl : k = ll.length := by omega
      go_wp2
      go_ret
      exact ⟨rfl, hb⟩

set_option maxRecDepth 100000 in
set_option maxHeartbeats 1000000 in
theorem keptWaters (A A' : Option Addr) (c c' : Nat) (ll : List (List Num)) (w : World) (hA : RdNN w w.heap.size 1 A (lentWaters ll)) (hc : ll.length + 12 ≤ c) (hA' : RdNN w w.heap.size 1 A' (plainWaters ll)) (hl : ll.length * 24 ≤ 140737488351232) (hli : ∀ l ∈ ll, l.length * 8 ≤ 140737488351232) :
    Calls Try.prog 33 #[.slice A ll.length c, .slice A' ll.length c'] w fun e w' => e = .returned (.bool true) ∧ Below w.heap.size w w' := by
  go_enter Try.func33, Try.ntmps33
  have h0 : ((ll.length : Int) != (ll.length : Int)) = false := by simp
  go_wp2
  clear h0
  go_loopw [6] (fun i wr => ∃ k : Nat, k ≤ ll.length + 12 ∧ i = .int .i64 k ∧ Below w.heap.size w wr) (fun i _ => ll.length + 12 - (intOf i).toNat)
  case atStart => exact ⟨0, by omega, rfl, Below.refl _ _⟩
  case round =>
    obtain ⟨k, hk, rfl, hb⟩ := hrel
    have hbs := hb.size
    by_cases hlt : k < ll.length
    · obtain ⟨b, off, Ai, ci, rfl, hb1, hci, hri, hld⟩ := hA.ld Try.underlying35 (lentWaters_get ll k hlt)
      obtain ⟨b', off', Aj, cj, rfl, hb1', _, hrj, hld'⟩ := hA'.ld Try.underlying35 (plainWaters_get ll k hlt)
      have HL := Lib.hid hld
      have HL' := Lib.hid hld'
      have hlk := hli _ (List.getElem_mem hlt)
      clear hld hld' hA hA' hli
      have hd : decide (ll.length ≤ k) = false := by simp; omega
      go_wp2
      refine wp_region_below (by kernel_rfl) (by kernel_rfl) w.heap.size ?_
      repeat (first | go_big_quiet_skip | (go_big_quiet_want; refine quiet_ld _ _ rfl _ rfl _ (fun w' hC => HL.out w' (hb.trans hC)) ?_; simp only [Act.put, List.setIfInBounds_toArray, List.set_cons_succ, List.set_cons_zero]; go_big_quiet_on) | (go_big_quiet_want; refine quiet_ld _ _ rfl _ rfl _ (fun w' hC => HL'.out w' (hb.trans hC)) ?_; simp only [Act.put, List.setIfInBounds_toArray, List.set_cons_succ, List.set_cons_zero]; go_big_quiet_on) | go_big_quiet_step (first | (intro hC; rfl) | (intro hC; exact ⟨rfl, rfl⟩) | (intro hC; refine (keptInts Ai Aj ci cj ll[k] _ ((hri.below (hb.trans hC) (Nat.le_refl _)).more (hb.trans hC).size) hci ((hrj.below (hb.trans hC) (Nat.le_refl _)).more (hb.trans hC).size) hlk).mono ?_; rintro e w' ⟨rfl, hb3⟩; exact ⟨rfl, hC.trans (hb3.mono (Nat.le_trans hbs hC.size))⟩)))
      refine wpQuiet_nil ?_
      intro w' hC
      go_wp2
      go_roundw
      case rel => exact ⟨k + 1, by omega, by go_num, hb.trans hC⟩
      case measure => simp [intOf]; omega
    · by_cases hlt2 : k < ll.length + 12
      · obtain ⟨b, off, Ai, ci, rfl, hb1, hci, hri, hld⟩ := hA.ld Try.underlying35 (lentWaters_mark ll k (by omega) hlt2)
        have e1 : ((k - ll.length : Nat) : Int) = ((k : Int) - (ll.length : Int)) := by omega
        rw [e1] at hri
        clear e1
        have HL := Lib.hid hld
        clear hld hA hA' hli hci
        have hd : decide (ll.length ≤ k) = true := by simp; omega
        go_wp2
        refine wp_region_loose w.heap.size 30 _ rfl (by kernel_rfl) (by kernel_rfl) (fun v w2 => ∃ g, v = .slice (some ⟨g, 0, none⟩) 1 1 ∧ g < w2.heap.size ∧ Rd w2 w2.heap.size 1 (some ⟨g, 0, none⟩) ([mkNum (8000024 + ((k : Int) - (ll.length : Int)))].map Num.cells)) hbs ?_
        simp only [List.take_succ_cons, List.take_zero, List.drop_succ_cons, List.drop_zero]
        repeat (first | go_big_quiet_skip | (go_big_quiet_want; refine quiet_ld _ _ rfl _ rfl _ (fun w' hC => HL.out w' (hb.trans hC)) ?_; simp only [Act.put, List.setIfInBounds_toArray, List.set_cons_succ, List.set_cons_zero]; go_big_quiet_on) | go_big_quiet_step (first | (intro hC; rfl) | (intro hC; exact ⟨rfl, rfl⟩)))
        refine wpQuiet_nil ?_
        refine ⟨⟨rfl, fun w' hC => ⟨43, #[.int .i64 1, .int .i64 ((k : Int) - (ll.length : Int))], by go_simp, ?_⟩⟩, ?_⟩
        · refine (markWaters_any _ _ 8000024 rfl _ (by omega) (by omega) (by omega) (by omega)).mono ?_
          rintro e w2 ⟨g, rfl, hg1, hg2, hrd, hb3⟩
          exact ⟨_, rfl, hC.trans (hb3.mono (Nat.le_trans hbs hC.size)), g, rfl, hg2, hrd⟩
        · rintro v w2 hC2 ⟨g, rfl, hg2, hrd⟩
          have hb2 := hb.trans hC2
          have hri2 := (hri.below hb2 (Nat.le_refl _)).more hb2.size
          simp only [Act.put, List.setIfInBounds_toArray, List.set_cons_succ, List.set_cons_zero]
          repeat (first | go_big_quiet_skip | go_big_quiet_step (first | (intro hC; rfl) | (intro hC; exact ⟨rfl, rfl⟩) | (intro hC; refine (sameInts Ai _ ci _ [mkNum (8000024 + ((k : Int) - (ll.length : Int)))] _ _ rfl rfl _ ((hri2.below hC (Nat.le_refl _)).more hC.size) ((hrd.below hC (Nat.le_refl _)).more hC.size) (by simp)).mono ?_; rintro e w' ⟨rfl, hb3⟩; exact ⟨rfl, hC.trans (hb3.mono hC.size)⟩)))
          refine wpQuiet_nil ?_
          intro w' hC
          go_wp2
          go_roundw
          case rel => exact ⟨k + 1, by omega, by go_num, hb.trans hC⟩
          case measure => simp [intOf]; omega
      · obtain rfl : k = ll.length + 12 := by omega
        go_wp2
        go_ret
        exact ⟨rfl, hb⟩

end Go.Proofs.Ytccjddbcdmgefaa
