/-
  tells returns true: Boxes and All are as the reference says, the boxes are not modified, no memory is shared.
-/
import Derived.Test.YtccjddbcdmgefaaAlike
namespace Go.Proofs.Ytccjddbcdmgefaa
open Go.RowKit

set_option maxRecDepth 100000 in
set_option maxHeartbeats 8000000 in
theorem law_tells (A X : Option Addr) (c cx : Nat) (l : List Box) (cs : List Chg) (n m : Nat) (hn : n = l.length) (hm : m = cs.length) (calls now : Int) (w : World) (hA : Rd w w.heap.size 9 A (l.map Box.cells)) (hX : Rd w w.heap.size 4 X (cs.map Chg.cells)) (hl : l.length ≤ 1000000) (hcs : cs.length ≤ 1000000) (hnum : ∀ b ∈ l, b.num.size ≤ 140737488351232) (hkk : ∀ c ∈ cs, 0 ≤ c.kind ∧ c.kind ≤ 255) :
    Calls Try.prog 6 #[.slice A n c, .int .i64 calls, .int .i64 now, .slice X m cx] w fun e w' => e = .returned (.bool true) ∧ Below w.heap.size w w' := by
  subst hn
  subst hm
  have hl64 : l.length * 64 ≤ 140737488351232 := by omega
  obtain ⟨R, r1, r2, hall⟩ : ∃ R r1 r2, allL l calls now cs = (R, r1, r2) := ⟨_, _, _, rfl⟩
  have hR : R.length ≤ l.length := by have := allL_len l calls now cs; rw [hall] at this; exact this
  have H1 := Lib.hid (lentBoxes A c l w hA hl64)
  have H2 : Hid (∀ (w2 : World) (g cap : Nat), Rd w2 w2.heap.size 9 (some ⟨g, 0, none⟩) ((l ++ marksBox 8000024 12).map Box.cells) → Below w.heap.size w w2 → Calls Try.prog 13 #[.slice (some ⟨g, 0, none⟩) l.length cap, .int .i64 calls, .int .i64 now, .slice X cs.length cx] w2 fun e w' => ∃ A' c', e = .returned (.tuple #[.slice A' R.length c', .int .i64 r1, .int .i64 r2]) ∧ OwnS w' w2.heap.size 73 9 A' c' (R.map Box.cells) ∧ Below w2.heap.size w2 w') := fun w2 g cap hg hb => by
    have h1 := change_all (some ⟨g, 0, none⟩) X cap cx l cs _ _ rfl rfl calls now w2 (by rw [List.map_append] at hg; exact hg.pre) ((hX.below hb (Nat.le_refl _)).more hb.size) hl hcs hnum hkk
    rw [hall] at h1
    exact h1
  have H3 : Hid (∀ w2, Below w.heap.size w w2 → Calls Try.prog 15 #[.slice X cs.length cx] w2 fun e w' => ∃ A' c', e = .returned (.slice A' cs.length c') ∧ Rd w' w'.heap.size 4 A' (cs.map fun c => c.ref.cells) ∧ Below w2.heap.size w2 w') := fun w2 hb =>
    (law_changes X cx cs _ rfl w2 ((hX.below hb (Nat.le_refl _)).more hb.size) hcs hkk).mono fun e w' ⟨A', c', h1, h2, h3⟩ => ⟨A', c', h1, h2.rd, h3⟩
  have H4 : Hid (∀ w2 X' cx', Rd w2 w2.heap.size 4 X' (cs.map fun c => c.ref.cells) → Below w.heap.size w w2 → Calls Try.prog 14 #[.slice A l.length c, .int .i64 calls, .int .i64 now, .slice X' cs.length cx'] w2 fun e w' => ∃ A' c', e = .returned (.tuple #[.slice A' R.length c', .int .i64 r1, .int .i64 r2]) ∧ Rd w' w'.heap.size 9 A' (R.map Box.cells) ∧ Below w2.heap.size w2 w') := fun w2 X' cx' hX' hb => by
    have h1 := ref_all A X' c cx' l cs _ _ rfl rfl calls now w2 ((hA.below hb (Nat.le_refl _)).more hb.size) hX' hl hcs hnum
    rw [hall] at h1
    exact h1
  have HS : Hid (∀ (R : List Box), R.length ≤ l.length → ∀ (w2 : World) A2 c2 A3 c3, Rd w2 w2.heap.size 9 A2 (R.map Box.cells) → Rd w2 w2.heap.size 9 A3 (R.map Box.cells) → Calls Try.prog 16 #[.slice A2 R.length c2, .slice A3 R.length c3] w2 fun e w' => e = .returned (.bool true) ∧ Below w2.heap.size w2 w') := fun R hR w2 A2 c2 A3 c3 h1 h2 =>
    sameBoxes A2 A3 c2 c3 R _ _ rfl rfl w2 h1 h2 (by omega)
  have HO : Hid (∀ (R : List Box), R.length ≤ l.length → ∀ (w2 : World) base A2 c2, OwnS w2 base 73 9 A2 c2 (R.map Box.cells) → base ≤ w2.heap.size → Calls Try.prog 17 #[.slice A2 R.length c2] w2 fun e w' => e = .returned (.tuple #[]) ∧ Below base w2 w') := fun R hR w2 base A2 c2 h1 h2 =>
    overBoxes base A2 c2 _ _ (by simp) w2 h1 h2 (by omega)
  have HBX : Hid (∀ (x : Chg) (R' : List Box) (f : Int), x ∈ cs → boxesL l calls now x = (R', f) → ∀ (w2 : World) (g cap : Nat), Rd w2 w2.heap.size 9 (some ⟨g, 0, none⟩) ((l ++ marksBox 8000024 12).map Box.cells) → Calls Try.prog 18 #[.slice (some ⟨g, 0, none⟩) l.length cap, .int .i64 calls, .int .i64 now, .agg #[.int .u8 x.kind, .int .i64 x.call, .int .i64 x.box, .int .i64 x.kilos]] w2 fun e w' => ∃ A' c', e = .returned (.tuple #[.slice A' R'.length c', .int .i64 f]) ∧ OwnS w' w2.heap.size 73 9 A' c' (R'.map Box.cells) ∧ Below w2.heap.size w2 w') := fun x R' f hx hbx w2 g cap hg => by
    have h1 := change_boxes (some ⟨g, 0, none⟩) cap l _ rfl calls now x w2 (by rw [List.map_append] at hg; exact hg.pre) hl hnum (hkk x hx).1 (hkk x hx).2
    rw [hbx] at h1
    exact h1
  have HCH : Hid (∀ (x : Chg), x ∈ cs → ∀ (w2 : World) A2 c2, Rd w2 w2.heap.size 4 A2 [x.cells] → Calls Try.prog 15 #[.slice A2 1 c2] w2 fun e w' => ∃ b off c', e = .returned (.slice (some ⟨b, off, none⟩) 1 c') ∧ (loadVar 58 ⟨b, off, none⟩).run Try.prog w' = .ok (.agg #[.int .i64 x.kind, .int .i64 x.call, .int .i64 x.box, .int .i64 x.kilos]) w' ∧ Below w2.heap.size w2 w') := fun x hx w2 A2 c2 h =>
    (law_changes A2 c2 [x] 1 rfl w2 h (by simp) (by simpa using hkk x hx)).mono fun e w' ⟨A', c', h1, h2, h3⟩ => by
      obtain ⟨b, off, rfl, _, hld⟩ := RChg.ld h2.rd (k := 0) (b := x.ref) rfl
      exact ⟨b, off, c', h1, by have h4 := hld w' (Below.refl _ _); simp only [Nat.zero_mul, Nat.add_zero] at h4; exact h4, h3⟩
  have HRF : Hid (∀ (x : Chg) (R' : List Box) (f : Int), boxesL l calls now x = (R', f) → ∀ (w2 : World), Below w.heap.size w w2 → Calls Try.prog 19 #[.slice A l.length c, .int .i64 calls, .int .i64 now, .agg #[.int .i64 x.kind, .int .i64 x.call, .int .i64 x.box, .int .i64 x.kilos]] w2 fun e w' => ∃ A' c', e = .returned (.tuple #[.slice A' R'.length c', .int .i64 f]) ∧ Rd w' w'.heap.size 9 A' (R'.map Box.cells) ∧ Below w2.heap.size w2 w') := fun x R' f hbx w2 hb => by
    have h1 := ref_boxes A c l _ rfl calls now x w2 ((hA.below hb (Nat.le_refl _)).more hb.size) hl hnum
    rw [hbx] at h1
    exact h1
  have HK : Hid (∀ (w2 : World) (g cap : Nat), l.length + 12 ≤ cap → Rd w2 w2.heap.size 9 (some ⟨g, 0, none⟩) ((l ++ marksBox 8000024 12).map Box.cells) → Below w.heap.size w w2 → Calls Try.prog 20 #[.slice (some ⟨g, 0, none⟩) l.length cap, .slice A l.length c] w2 fun e w' => e = .returned (.bool true) ∧ Below w2.heap.size w2 w') := fun w2 g cap hcap hg hb =>
    keptBoxes (some ⟨g, 0, none⟩) A cap c l w2 hg hcap ((hA.below hb (Nat.le_refl _)).more hb.size) hl64
  clear hall hA hnum hkk
  have HX := Lib.hid hX
  clear hX
  go_enter Try.func6, Try.ntmps6
  have e1 : (r1 != r1) = false := by simp
  have e2 : (r2 != r2) = false := by simp
  go_wp2_with (first
    | (go_at_call 12; refine (H1.out).mono ?_; rintro e w1 ⟨g, cap, rfl, hg, hcap, hrd1, hb1⟩)
    | (go_at_call 13; refine (H2.out _ g cap hrd1 hb1).mono ?_; rintro e w2 ⟨A2, c2, rfl, hown2, hb2⟩; have hbw2 := hb1.trans (hb2.mono hb1.size))
    | (go_at_call 15; refine (H3.out _ hbw2).mono ?_; rintro e w3 ⟨X3, cx3, rfl, hrd3, hb3⟩; have hbw3 := hbw2.trans (hb3.mono hbw2.size))
    | (go_at_call 14; refine (H4.out _ X3 cx3 hrd3 hbw3).mono ?_; rintro e w4 ⟨A4, c4, rfl, hrd4, hb4⟩; have hown4 := (hown2.below hb3 (Nat.le_refl _)).below hb4 (Nat.le_refl _))
    | (go_at_call 16; refine (HS.out R hR _ A2 c2 A4 c4 hown4.rd hrd4).mono ?_; rintro e w5 ⟨rfl, hb5⟩; have hbw5 := ((hb2.trans (hb3.mono hb2.size)).trans (hb4.mono (hb2.trans (hb3.mono hb2.size)).size)).trans (hb5.mono ((hb2.trans (hb3.mono hb2.size)).trans (hb4.mono (hb2.trans (hb3.mono hb2.size)).size)).size))
    | (go_at_call 17; refine (HO.out R hR _ w1.heap.size A2 c2 (hown4.below hb5 (Nat.le_refl _)) hbw5.size).mono ?_; rintro e w6 ⟨rfl, hb6⟩))
  have HB1 : Hid (Below w.heap.size w w1) := hb1
  have HB6 : Hid (From w1 w6) := hbw5.trans hb6
  have HR1 := Lib.hid hrd1
  clear H1 H2 H3 H4 hg hb1 hb2 hb3 hb4 hb5 hb6 hrd1 hrd3 hrd4 hown2 hown4 hbw2 hbw3 hbw5 e1 e2 hR
  go_loopw [61] (fun i wr => ∃ k : Nat, k ≤ cs.length ∧ i = .int .i64 k ∧ From w1 wr) (fun i _ => cs.length - (intOf i).toNat)
  case atStart => exact ⟨0, by omega, rfl, HB6.out⟩
  case round =>
    obtain ⟨k, hk, rfl, hbr⟩ := hrel
    by_cases hlt : k < cs.length
    · obtain ⟨xb, xoff, rfl, hxb, hld⟩ := Chg.ld HX.out (map_get Chg.cells cs k hlt)
      have HL := Lib.hid (hld wr (HB1.out.trans (hbr.mono HB1.out.size)))
      have hmem : cs[k] ∈ cs := List.getElem_mem hlt
      obtain ⟨R', f, hbx⟩ : ∃ R' f, boxesL l calls now cs[k] = (R', f) := ⟨_, _, rfl⟩
      have hR' : R'.length ≤ l.length := by have := boxesL_len l calls now cs[k]; rw [hbx] at this; exact this
      have HBX' := Lib.hid (HBX.out cs[k] R' f hmem hbx)
      have HCH' := Lib.hid (HCH.out cs[k] hmem)
      have HRF' := Lib.hid (HRF.out cs[k] R' f hbx)
      have hba : From w1 (chgW cs[k] wr) := hbr.alloc hbr.size _
      have hga : (chgW cs[k] wr).heap[wr.heap.size]? = some (.cells #[.int .u8 cs[k].kind, .int .i64 cs[k].call, .int .i64 cs[k].box, .int .i64 cs[k].kilos] 37 (0, 0)) := heap_alloc_new wr _
      have hla := (Array.getElem?_eq_some_iff.1 hga).1
      have HLC : Hid (∀ w', From (chgW cs[k] wr) w' → (loadVar 37 ⟨wr.heap.size, 0, none⟩).run Try.prog w' = .ok (.agg #[.int .u8 cs[k].kind, .int .i64 cs[k].call, .int .i64 cs[k].box, .int .i64 cs[k].kilos]) w') := fun w' hw => chg_ldBlock ((hw.block _ hla).trans hga)
      have HA0 := Lib.hid hba
      have HRA : Hid (∀ w', From w1 w' → Rd w' w'.heap.size 9 (some ⟨g, 0, none⟩) ((l ++ marksBox 8000024 12).map Box.cells)) := fun w' hw => (HR1.out.below hw (Nat.le_refl _)).more hw.size
      have ef : (f != f) = false := by simp
      have h0 := Lib.hid (Below.refl (chgW cs[k] wr).heap.size (chgW cs[k] wr))
      clear hld hbx hba hga hla hbr HBX HCH HRF
      go_wp2_with (first
        | ((with_reducible refine g_ld 37 ?_); refine wpList_ld rfl _ _ rfl _ rfl _ HL.out ?_; clear HL; have HC0 := h0; clear h0)
        | ((with_reducible refine g_ld 37 ?_); refine wpList_ld rfl _ _ rfl _ rfl _ (HLC.out _ HC0.out) ?_; clear HC0)
        | (go_at_call 18; refine (HBX'.out _ g cap (HRA.out _ HA0.out)).mono ?_; rintro e w2 ⟨A2, c2, rfl, hown2, hb2⟩; have HC1 := Lib.hid hb2; have HB2 : Hid (From w1 w2) := HA0.out.trans (hb2.mono HA0.out.size))
        | ((with_reducible refine g_ld 37 ?_); refine wpList_ld rfl _ _ rfl _ rfl _ (HLC.out _ HC1.out) ?_; clear HC1)
        | (go_at_call 15; refine (HCH'.out _ _ _ (Rd.new2 w2 37 4 cs[k].cells rfl)).mono ?_; rintro e w3 ⟨b3, off3, c3, rfl, hld3, hb3⟩; have HL3 := Lib.hid hld3; clear hld3; have HB3 : Hid (From w2 w3) := ((Below.refl w2.heap.size w2).alloc (Nat.le_refl _) _).trans (hb3.mono (by simp)); clear hb3)
        | ((with_reducible refine g_ld 58 ?_); refine wpList_ld rfl _ _ rfl _ rfl _ (by first | exact HL3.out | simpa using HL3.out) ?_; clear HL3)
        | (go_at_call 19; refine (HRF'.out _ ((HB1.out.trans (HB2.out.mono HB1.out.size)).trans (HB3.out.mono (HB1.out.trans (HB2.out.mono HB1.out.size)).size))).mono ?_; rintro e w4 ⟨A4, c4, rfl, hrd4, hb4⟩; have HO4 := Lib.hid ((hown2.below HB3.out (Nat.le_refl _)).below hb4 (Nat.le_refl _)); have HB4 : Hid (From w2 w4) := HB3.out.trans (hb4.mono HB3.out.size))
        | (go_at_call 16; refine (HS.out R' hR' _ A2 c2 A4 c4 HO4.out.rd hrd4).mono ?_; rintro e w5 ⟨rfl, hb5⟩; have HO5 := Lib.hid (HO4.out.below hb5 (Nat.le_refl _)); have HB5 : Hid (From w2 w5) := HB4.out.trans (hb5.mono HB4.out.size))
        | (go_at_call 17; refine (HO.out R' hR' _ (chgW cs[k] wr).heap.size A2 c2 HO5.out (Nat.le_trans hb2.size HB5.out.size)).mono ?_; rintro e w6 ⟨rfl, hb6⟩))
      go_roundw
      case rel => exact ⟨k + 1, by omega, by go_num, (HB2.out.trans (HB5.out.mono HB2.out.size)).trans (hb6.mono HA0.out.size)⟩
      case measure => simp [intOf]; omega
    · obtain rfl : k = cs.length := by omega
      go_wp2_with (go_at_call 20; refine (HK.out _ g cap hcap ((HR1.out.below hbr (Nat.le_refl _)).more hbr.size) (HB1.out.trans (hbr.mono HB1.out.size))).mono ?_; rintro e w7 ⟨rfl, hb7⟩)
      go_ret
      exact ⟨rfl, (HB1.out.trans (hbr.mono HB1.out.size)).trans (hb7.mono (HB1.out.trans (hbr.mono HB1.out.size)).size)⟩
end Go.Proofs.Ytccjddbcdmgefaa
