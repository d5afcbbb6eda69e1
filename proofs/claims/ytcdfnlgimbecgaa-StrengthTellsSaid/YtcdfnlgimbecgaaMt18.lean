/-
  frac: Cmp.
-/
import Derived.Test.YtcdfnlgimbecgaaMt17
namespace Go.Proofs.Ytcdfnlgimbecgaa
open Go.RowKit
theorem FB.ld_neg' {w : World} {g : Nat} {f : FracV} {b : Bool} (h : FB w g f) (e : f.neg = b) : (loadVar 4 ⟨g, 0, none⟩).run Try.prog w = .ok (.bool b) w := by
 rw [← e]
 exact h.ld_neg
theorem boxes2 (f g : FracV) (w : World) : ∃ W0, W0 = ((w.alloc (.cells f.cells.toArray 37)).alloc (.cells g.cells.toArray 37)) ∧ Below w.heap.size w W0 ∧ FB W0 w.heap.size f ∧ FB W0 (w.heap.size + 1) g := by
 obtain ⟨W0, hW0⟩ : ∃ W0, W0 = ((w.alloc (.cells f.cells.toArray 37)).alloc (.cells g.cells.toArray 37)) := ⟨_, rfl⟩
 have s1 : (w.alloc (.cells f.cells.toArray 37)).heap.size = w.heap.size + 1 := by simp
 have hb1 : Below w.heap.size w (w.alloc (.cells f.cells.toArray 37)) := (Below.refl _ _).alloc (Nat.le_refl _) _
 refine ⟨W0, hW0, ?_, ?_, ?_⟩
 · rw [hW0]; exact hb1.alloc (by omega) _
 · have h1 := FB.new w f
   rw [hW0]
   exact h1.below ((Below.refl _ _).alloc (Nat.le_refl _) _) h1.lt
 · have h1 := FB.new (w.alloc (.cells f.cells.toArray 37)) g
   rw [s1] at h1
   rw [hW0]
   exact h1
theorem cmpNat_neg (x y : Nat) : cmpNat y x = -cmpNat x y := by
 unfold cmpNat
 split <;> split <;> first | rfl | omega
theorem cmpNat_range (x y : Nat) : -1 ≤ cmpNat x y ∧ cmpNat x y ≤ 1 := by
 unfold cmpNat
 split
 · omega
 · split <;> omega
theorem cmpNat_same (x : Nat) : cmpNat x x = 0 := by
 unfold cmpNat
 rw [if_neg (by omega), if_neg (by omega)]
def CmpPost (w : World) (r : Int × Int) (e : Ending) (w' : World) : Prop := e = .returned (.tuple #[.int .i64 r.1, .int .i64 r.2]) ∧ Below w.heap.size w w'
set_option maxRecDepth 100000 in
set_option maxHeartbeats 8000000 in
theorem frac_Cmp (f g : FracV) (hf : f.fits) (hg : g.fits) (w : World) : Calls Try.prog 94 #[f.val, g.val] w (CmpPost w (cmpL f g)) := by
 obtain ⟨W0, hW0, hb0, hff, hfg⟩ := boxes2 f g w
 have HW0 := Lib.hid hW0
 have HB := Lib.hid hb0
 have HFF := Lib.hid hff
 have HFG := Lib.hid hfg
 clear hW0 hb0 hff hfg
 have heq := frac_eql f g hf hg
 have HT : Hid (∀ (x y n m : Nat) (w1 : World) (A D : Option Addr) (c d : Nat), n = len32 x → m = len32 y → Rd32 w1 A x → Rd32 w1 D y → len32 x ≤ 16 → len32 y ≤ 16 → ∀ z nz, z = x * y → nz = len32 z → Calls Try.prog 54 #[.slice A n c, .slice D m d] w1 fun e w' => ∃ A' c', e = .returned (.slice A' nz c') ∧ Rd32 w' A' z ∧ From w1 w') := by
  intro x y n m w1 A D c d hn hm h1 h2 h3 h4 z nz hz hnz
  refine (frac_times A D c d x y n m hn hm w1 h1 h2 (by omega) (by omega)).mono ?_
  rintro e w' ⟨A', c', rfl, hr, _, hb⟩
  rw [hnz, hz]
  exact ⟨A', c', rfl, hr, hb⟩
 obtain ⟨la, hla⟩ : ∃ la, la = len32 f.num := ⟨_, rfl⟩
 obtain ⟨lb, hlb⟩ : ∃ lb, lb = len32 f.den := ⟨_, rfl⟩
 obtain ⟨lc, hlc⟩ : ∃ lc, lc = len32 g.num := ⟨_, rfl⟩
 obtain ⟨ld, hld⟩ : ∃ ld, ld = len32 g.den := ⟨_, rfl⟩
 have HL := Lib.hid (And.intro hla (And.intro hlb (And.intro hlc hld)))
 have h16 : ∀ x, x < top256 → len32 x ≤ 16 := fun x hx => Nat.le_trans (len_top_le hx) (by omega)
 have HLL := Lib.hid (And.intro (h16 _ hf.1) (And.intro (h16 _ hf.2) (And.intro (h16 _ hg.1) (h16 _ hg.2))))
 obtain ⟨p1, hp1⟩ : ∃ p1, p1 = f.num * g.den := ⟨_, rfl⟩
 obtain ⟨p2, hp2⟩ : ∃ p2, p2 = g.num * f.den := ⟨_, rfl⟩
 obtain ⟨n1, hn1⟩ : ∃ n1, n1 = len32 p1 := ⟨_, rfl⟩
 obtain ⟨n2, hn2⟩ : ∃ n2, n2 = len32 p2 := ⟨_, rfl⟩
 have HP := Lib.hid (And.intro hp1 (And.intro hp2 (And.intro hn1 hn2)))
 have HM := Lib.hid (And.intro (mul_top hf.1 hg.2) (mul_top hg.1 hf.2))
 rw [← hp1, ← hp2] at HM
 obtain ⟨z, hz⟩ : ∃ z, z = cmpNat p1 p2 := ⟨_, rfl⟩
 have HZ : Hid (cmpNat p1 p2 = z) := hz.symm
 have hzr : -1 ≤ z ∧ z ≤ 1 := by rw [hz]; exact cmpNat_range _ _
 have wz : IntKind.i64.wrap (-z) = -z := wrap_i64 (by omega) (by omega)
 clear hla hlb hlc hld h16 hn1 hn2 hzr
 obtain ⟨r, hr⟩ : ∃ r, r = cmpL f g := ⟨_, rfl⟩
 rw [← hr]
 cases hf1 : f.right with
 | false =>
  have HV : Hid (r = (0, 2)) := by unfold Hid; rw [hr]; unfold cmpL; rw [hf1]; rfl
  clear hr hp1 hp2 hz heq
  have HR1 := Lib.hid (fun w1 => frac_Right f hf w1)
  have HRR := Lib.hid (fun w1 => frac_Right g hg w1)
  rw [hf1] at HR1
  try rw [hg1] at HRR
  have HP1 := Lib.hid (fun w1 => frac_parts f hf w1)
  have HPP := Lib.hid (fun w1 => frac_parts g hg w1)
  unfold FracV.val at HR1 HRR HP1 HPP ⊢
  go_enter Try.func94, Try.ntmps94
  go_upto_region 1 with fail
  rw [show ((w.alloc (.cells f.cells.toArray 37)).alloc (.cells g.cells.toArray 37)) = W0 from HW0.out.symm]
  go_wp2_with (first
   | ((with_reducible refine g_ld 37 ?_); refine wpList_ld rfl _ _ rfl _ rfl _ HFF.out.ld' ?_)
   | (go_at_call 50; refine (HR1.out W0).mono ?_; rintro e w1 ⟨rfl, hb1⟩; have C1 : Hid (From W0 w1) := hb1; have HR2 := HRR; clear hb1 HR1 HRR)
   | ((with_reducible refine g_ld 37 ?_); refine wpList_ldw rfl _ _ rfl _ rfl _ (HFG.out.below C1.out HFG.out.lt).ld' ?_)
   | (go_at_call 50; refine (HR2.out _).mono ?_; rintro e w2 ⟨rfl, hb2⟩; have C2 : Hid (From W0 w2) := C1.out.trans (hb2.mono C1.out.size); have HPA := HP1; clear hb2 HR2 HP1)
   | ((with_reducible refine g_ld 37 ?_); refine wpList_ld rfl _ _ rfl _ rfl _ (HFF.out.below C2.out HFF.out.lt).ld' ?_)
   | ((with_reducible refine g_ld 37 ?_); refine wpList_ld rfl _ _ rfl _ rfl _ (HFG.out.below C2.out HFG.out.lt).ld' ?_)
   | ((with_reducible refine g_ld 4 ?_); refine wpList_ld rfl _ _ rfl _ rfl _ ((HFF.out.below C2.out HFF.out.lt).ld_neg' e1) ?_)
   | ((with_reducible refine g_ld 4 ?_); refine wpList_ld rfl _ _ rfl _ rfl _ ((HFG.out.below C2.out HFG.out.lt).ld_neg' e2) ?_)
   | (go_at_call 53; refine (HPA.out _).mono ?_; rintro e w3 ⟨A1, c1, A2, c2, rfl, hr1, hr2, hb3⟩; have C3 : Hid (From W0 w3) := C2.out.trans (hb3.mono C2.out.size); have RA := Lib.hid hr1; have RB := Lib.hid hr2; rw [← HL.out.1, ← HL.out.2.1]; clear hr1 hr2 hb3 HPA; have HPB := HPP; clear HPP)
   | ((with_reducible refine g_ld 37 ?_); refine wpList_ld rfl _ _ rfl _ rfl _ (HFG.out.below C3.out HFG.out.lt).ld' ?_)
   | (go_at_call 53; refine (HPB.out _).mono ?_; rintro e w4 ⟨A3, c3, A4, c4, rfl, hr3, hr4, hb4⟩; have D4 : Hid (From w3 w4) := hb4; have C4 : Hid (From W0 w4) := C3.out.trans (hb4.mono C3.out.size); have RC := Lib.hid hr3; have RE := Lib.hid hr4; rw [← HL.out.2.2.1, ← HL.out.2.2.2]; have HTA := HT; clear hr3 hr4 hb4 HPB)
   | (go_at_call 54; refine (HTA.out f.num g.den la ld w4 A1 A4 c1 c4 HL.out.1 HL.out.2.2.2 (RA.out.from D4.out) RE.out HLL.out.1 HLL.out.2.2.2 p1 n1 HP.out.1 HP.out.2.2.1).mono ?_; rintro e w5 ⟨A5, c5, rfl, hr5, hb5⟩; have R5 := Lib.hid hr5; have D5 : Hid (From w4 w5) := hb5; have HTB := HT; clear hr5 hb5 HTA)
   | (go_at_call 54; refine (HTB.out g.num f.den lc lb w5 A3 A2 c3 c2 HL.out.2.2.1 HL.out.2.1 (RC.out.from D5.out) (RB.out.from (D4.out.trans (D5.out.mono D4.out.size))) HLL.out.2.2.1 HLL.out.2.1 p2 n2 HP.out.2.1 HP.out.2.2.2).mono ?_; rintro e w6 ⟨A6, c6, rfl, hr6, hb6⟩; have R6 := Lib.hid hr6; have R56 := Lib.hid (R5.out.from hb6); have C6 : Hid (From W0 w6) := C4.out.trans ((D5.out.trans (hb6.mono D5.out.size)).mono C4.out.size); clear hr6 hb6 HTB)
   | (go_at_call 87; refine (frac_cmp A5 A6 c5 c6 p1 p2 n1 n2 HP.out.2.2.1 HP.out.2.2.2 w6 R56.out R6.out (by have := HM.out; omega) (by have := HM.out; omega)).mono ?_; rintro e w7 ⟨rfl, hb7⟩; rw [HZ.out]; have C7 : Hid (From W0 w7) := C6.out.trans (hb7.mono C6.out.size); clear hb7)
   | ((with_reducible refine g_ld 4 ?_); refine wpList_ld rfl _ _ rfl _ rfl _ ((HFF.out.below C7.out HFF.out.lt).ld_neg' e1) ?_))
  go_ret2
  exact ⟨by rw [HV.out]; rfl, HB.out.trans (C1.out.mono HB.out.size)⟩
 | true =>
  cases hg1 : g.right with
  | false =>
   have HV : Hid (r = (0, 2)) := by unfold Hid; rw [hr]; unfold cmpL; rw [hf1, hg1]; rfl
   clear hr hp1 hp2 hz heq
   have HR1 := Lib.hid (fun w1 => frac_Right f hf w1)
   have HRR := Lib.hid (fun w1 => frac_Right g hg w1)
   rw [hf1] at HR1
   try rw [hg1] at HRR
   have HP1 := Lib.hid (fun w1 => frac_parts f hf w1)
   have HPP := Lib.hid (fun w1 => frac_parts g hg w1)
   unfold FracV.val at HR1 HRR HP1 HPP ⊢
   go_enter Try.func94, Try.ntmps94
   go_upto_region 1 with fail
   rw [show ((w.alloc (.cells f.cells.toArray 37)).alloc (.cells g.cells.toArray 37)) = W0 from HW0.out.symm]
   go_wp2_with (first
    | ((with_reducible refine g_ld 37 ?_); refine wpList_ld rfl _ _ rfl _ rfl _ HFF.out.ld' ?_)
    | (go_at_call 50; refine (HR1.out W0).mono ?_; rintro e w1 ⟨rfl, hb1⟩; have C1 : Hid (From W0 w1) := hb1; have HR2 := HRR; clear hb1 HR1 HRR)
    | ((with_reducible refine g_ld 37 ?_); refine wpList_ldw rfl _ _ rfl _ rfl _ (HFG.out.below C1.out HFG.out.lt).ld' ?_)
    | (go_at_call 50; refine (HR2.out _).mono ?_; rintro e w2 ⟨rfl, hb2⟩; have C2 : Hid (From W0 w2) := C1.out.trans (hb2.mono C1.out.size); have HPA := HP1; clear hb2 HR2 HP1)
    | ((with_reducible refine g_ld 37 ?_); refine wpList_ld rfl _ _ rfl _ rfl _ (HFF.out.below C2.out HFF.out.lt).ld' ?_)
    | ((with_reducible refine g_ld 37 ?_); refine wpList_ld rfl _ _ rfl _ rfl _ (HFG.out.below C2.out HFG.out.lt).ld' ?_)
    | ((with_reducible refine g_ld 4 ?_); refine wpList_ld rfl _ _ rfl _ rfl _ ((HFF.out.below C2.out HFF.out.lt).ld_neg' e1) ?_)
    | ((with_reducible refine g_ld 4 ?_); refine wpList_ld rfl _ _ rfl _ rfl _ ((HFG.out.below C2.out HFG.out.lt).ld_neg' e2) ?_)
    | (go_at_call 53; refine (HPA.out _).mono ?_; rintro e w3 ⟨A1, c1, A2, c2, rfl, hr1, hr2, hb3⟩; have C3 : Hid (From W0 w3) := C2.out.trans (hb3.mono C2.out.size); have RA := Lib.hid hr1; have RB := Lib.hid hr2; rw [← HL.out.1, ← HL.out.2.1]; clear hr1 hr2 hb3 HPA; have HPB := HPP; clear HPP)
    | ((with_reducible refine g_ld 37 ?_); refine wpList_ld rfl _ _ rfl _ rfl _ (HFG.out.below C3.out HFG.out.lt).ld' ?_)
    | (go_at_call 53; refine (HPB.out _).mono ?_; rintro e w4 ⟨A3, c3, A4, c4, rfl, hr3, hr4, hb4⟩; have D4 : Hid (From w3 w4) := hb4; have C4 : Hid (From W0 w4) := C3.out.trans (hb4.mono C3.out.size); have RC := Lib.hid hr3; have RE := Lib.hid hr4; rw [← HL.out.2.2.1, ← HL.out.2.2.2]; have HTA := HT; clear hr3 hr4 hb4 HPB)
    | (go_at_call 54; refine (HTA.out f.num g.den la ld w4 A1 A4 c1 c4 HL.out.1 HL.out.2.2.2 (RA.out.from D4.out) RE.out HLL.out.1 HLL.out.2.2.2 p1 n1 HP.out.1 HP.out.2.2.1).mono ?_; rintro e w5 ⟨A5, c5, rfl, hr5, hb5⟩; have R5 := Lib.hid hr5; have D5 : Hid (From w4 w5) := hb5; have HTB := HT; clear hr5 hb5 HTA)
    | (go_at_call 54; refine (HTB.out g.num f.den lc lb w5 A3 A2 c3 c2 HL.out.2.2.1 HL.out.2.1 (RC.out.from D5.out) (RB.out.from (D4.out.trans (D5.out.mono D4.out.size))) HLL.out.2.2.1 HLL.out.2.1 p2 n2 HP.out.2.1 HP.out.2.2.2).mono ?_; rintro e w6 ⟨A6, c6, rfl, hr6, hb6⟩; have R6 := Lib.hid hr6; have R56 := Lib.hid (R5.out.from hb6); have C6 : Hid (From W0 w6) := C4.out.trans ((D5.out.trans (hb6.mono D5.out.size)).mono C4.out.size); clear hr6 hb6 HTB)
    | (go_at_call 87; refine (frac_cmp A5 A6 c5 c6 p1 p2 n1 n2 HP.out.2.2.1 HP.out.2.2.2 w6 R56.out R6.out (by have := HM.out; omega) (by have := HM.out; omega)).mono ?_; rintro e w7 ⟨rfl, hb7⟩; rw [HZ.out]; have C7 : Hid (From W0 w7) := C6.out.trans (hb7.mono C6.out.size); clear hb7)
    | ((with_reducible refine g_ld 4 ?_); refine wpList_ld rfl _ _ rfl _ rfl _ ((HFF.out.below C7.out HFF.out.lt).ld_neg' e1) ?_))
   go_ret2
   exact ⟨by rw [HV.out]; rfl, HB.out.trans (C2.out.mono HB.out.size)⟩
  | true =>
   have hrr : r = (if f.neg && !g.neg then -1 else if g.neg && !f.neg then 1 else if f.neg then cmpNat (g.num * f.den) (f.num * g.den) else cmpNat (f.num * g.den) (g.num * f.den), 0) := by rw [hr]; unfold cmpL; rw [hf1, hg1]; rfl
   rw [← hp1, ← hp2, cmpNat_neg p1 p2, ← hz] at hrr
   by_cases hfg2 : f = g
   · have hz0 : z = 0 := by rw [hz, hp1, hp2, hfg2, cmpNat_same]
     have HV : Hid (r = (0, 0)) := by
      unfold Hid
      rw [hrr, hz0, hfg2]
      cases g.neg <;> rfl
     simp only [decide_eq_true hfg2] at heq
     clear hr hp1 hp2 hz hrr hfg2 hz0
     have HR1 := Lib.hid (fun w1 => frac_Right f hf w1)
     have HRR := Lib.hid (fun w1 => frac_Right g hg w1)
     rw [hf1] at HR1
     try rw [hg1] at HRR
     have HP1 := Lib.hid (fun w1 => frac_parts f hf w1)
     have HPP := Lib.hid (fun w1 => frac_parts g hg w1)
     unfold FracV.val at HR1 HRR HP1 HPP ⊢
     go_enter Try.func94, Try.ntmps94
     go_upto_region 1 with fail
     rw [show ((w.alloc (.cells f.cells.toArray 37)).alloc (.cells g.cells.toArray 37)) = W0 from HW0.out.symm]
     go_wp2_with (first
      | ((with_reducible refine g_ld 37 ?_); refine wpList_ld rfl _ _ rfl _ rfl _ HFF.out.ld' ?_)
      | (go_at_call 50; refine (HR1.out W0).mono ?_; rintro e w1 ⟨rfl, hb1⟩; have C1 : Hid (From W0 w1) := hb1; have HR2 := HRR; clear hb1 HR1 HRR)
      | ((with_reducible refine g_ld 37 ?_); refine wpList_ldw rfl _ _ rfl _ rfl _ (HFG.out.below C1.out HFG.out.lt).ld' ?_)
      | (go_at_call 50; refine (HR2.out _).mono ?_; rintro e w2 ⟨rfl, hb2⟩; have C2 : Hid (From W0 w2) := C1.out.trans (hb2.mono C1.out.size); have HPA := HP1; clear hb2 HR2 HP1)
      | ((with_reducible refine g_ld 37 ?_); refine wpList_ld rfl _ _ rfl _ rfl _ (HFF.out.below C2.out HFF.out.lt).ld' ?_)
      | ((with_reducible refine g_ld 37 ?_); refine wpList_ld rfl _ _ rfl _ rfl _ (HFG.out.below C2.out HFG.out.lt).ld' ?_)
      | ((with_reducible refine g_ld 4 ?_); refine wpList_ld rfl _ _ rfl _ rfl _ ((HFF.out.below C2.out HFF.out.lt).ld_neg' e1) ?_)
      | ((with_reducible refine g_ld 4 ?_); refine wpList_ld rfl _ _ rfl _ rfl _ ((HFG.out.below C2.out HFG.out.lt).ld_neg' e2) ?_)
      | (go_at_call 53; refine (HPA.out _).mono ?_; rintro e w3 ⟨A1, c1, A2, c2, rfl, hr1, hr2, hb3⟩; have C3 : Hid (From W0 w3) := C2.out.trans (hb3.mono C2.out.size); have RA := Lib.hid hr1; have RB := Lib.hid hr2; rw [← HL.out.1, ← HL.out.2.1]; clear hr1 hr2 hb3 HPA; have HPB := HPP; clear HPP)
      | ((with_reducible refine g_ld 37 ?_); refine wpList_ld rfl _ _ rfl _ rfl _ (HFG.out.below C3.out HFG.out.lt).ld' ?_)
      | (go_at_call 53; refine (HPB.out _).mono ?_; rintro e w4 ⟨A3, c3, A4, c4, rfl, hr3, hr4, hb4⟩; have D4 : Hid (From w3 w4) := hb4; have C4 : Hid (From W0 w4) := C3.out.trans (hb4.mono C3.out.size); have RC := Lib.hid hr3; have RE := Lib.hid hr4; rw [← HL.out.2.2.1, ← HL.out.2.2.2]; have HTA := HT; clear hr3 hr4 hb4 HPB)
      | (go_at_call 54; refine (HTA.out f.num g.den la ld w4 A1 A4 c1 c4 HL.out.1 HL.out.2.2.2 (RA.out.from D4.out) RE.out HLL.out.1 HLL.out.2.2.2 p1 n1 HP.out.1 HP.out.2.2.1).mono ?_; rintro e w5 ⟨A5, c5, rfl, hr5, hb5⟩; have R5 := Lib.hid hr5; have D5 : Hid (From w4 w5) := hb5; have HTB := HT; clear hr5 hb5 HTA)
      | (go_at_call 54; refine (HTB.out g.num f.den lc lb w5 A3 A2 c3 c2 HL.out.2.2.1 HL.out.2.1 (RC.out.from D5.out) (RB.out.from (D4.out.trans (D5.out.mono D4.out.size))) HLL.out.2.2.1 HLL.out.2.1 p2 n2 HP.out.2.1 HP.out.2.2.2).mono ?_; rintro e w6 ⟨A6, c6, rfl, hr6, hb6⟩; have R6 := Lib.hid hr6; have R56 := Lib.hid (R5.out.from hb6); have C6 : Hid (From W0 w6) := C4.out.trans ((D5.out.trans (hb6.mono D5.out.size)).mono C4.out.size); clear hr6 hb6 HTB)
      | (go_at_call 87; refine (frac_cmp A5 A6 c5 c6 p1 p2 n1 n2 HP.out.2.2.1 HP.out.2.2.2 w6 R56.out R6.out (by have := HM.out; omega) (by have := HM.out; omega)).mono ?_; rintro e w7 ⟨rfl, hb7⟩; rw [HZ.out]; have C7 : Hid (From W0 w7) := C6.out.trans (hb7.mono C6.out.size); clear hb7)
      | ((with_reducible refine g_ld 4 ?_); refine wpList_ld rfl _ _ rfl _ rfl _ ((HFF.out.below C7.out HFF.out.lt).ld_neg' e1) ?_))
     go_ret2
     exact ⟨by rw [HV.out]; rfl, HB.out.trans (C2.out.mono HB.out.size)⟩
   · simp only [decide_eq_false hfg2] at heq
     clear hr hp1 hp2 hz hfg2
     cases hnf : f.neg with
     | true =>
      cases hng : g.neg with
      | true =>
       have HV : Hid (r = (-z, 0)) := by unfold Hid; rw [hrr, hnf, hng]; rfl
       have HNF := Lib.hid hnf
       have e1 : f.neg = true := hnf
       have e2 : g.neg = true := hng
       clear hrr hnf hng
       have HR1 := Lib.hid (fun w1 => frac_Right f hf w1)
       have HRR := Lib.hid (fun w1 => frac_Right g hg w1)
       rw [hf1] at HR1
       try rw [hg1] at HRR
       have HP1 := Lib.hid (fun w1 => frac_parts f hf w1)
       have HPP := Lib.hid (fun w1 => frac_parts g hg w1)
       unfold FracV.val at HR1 HRR HP1 HPP ⊢
       go_enter Try.func94, Try.ntmps94
       go_upto_region 1 with fail
       rw [show ((w.alloc (.cells f.cells.toArray 37)).alloc (.cells g.cells.toArray 37)) = W0 from HW0.out.symm]
       go_wp2_with (first
        | ((with_reducible refine g_ld 37 ?_); refine wpList_ld rfl _ _ rfl _ rfl _ HFF.out.ld' ?_)
        | (go_at_call 50; refine (HR1.out W0).mono ?_; rintro e w1 ⟨rfl, hb1⟩; have C1 : Hid (From W0 w1) := hb1; have HR2 := HRR; clear hb1 HR1 HRR)
        | ((with_reducible refine g_ld 37 ?_); refine wpList_ldw rfl _ _ rfl _ rfl _ (HFG.out.below C1.out HFG.out.lt).ld' ?_)
        | (go_at_call 50; refine (HR2.out _).mono ?_; rintro e w2 ⟨rfl, hb2⟩; have C2 : Hid (From W0 w2) := C1.out.trans (hb2.mono C1.out.size); have HPA := HP1; clear hb2 HR2 HP1)
        | ((with_reducible refine g_ld 37 ?_); refine wpList_ld rfl _ _ rfl _ rfl _ (HFF.out.below C2.out HFF.out.lt).ld' ?_)
        | ((with_reducible refine g_ld 37 ?_); refine wpList_ld rfl _ _ rfl _ rfl _ (HFG.out.below C2.out HFG.out.lt).ld' ?_)
        | ((with_reducible refine g_ld 4 ?_); refine wpList_ld rfl _ _ rfl _ rfl _ ((HFF.out.below C2.out HFF.out.lt).ld_neg' e1) ?_)
        | ((with_reducible refine g_ld 4 ?_); refine wpList_ld rfl _ _ rfl _ rfl _ ((HFG.out.below C2.out HFG.out.lt).ld_neg' e2) ?_)
        | (go_at_call 53; refine (HPA.out _).mono ?_; rintro e w3 ⟨A1, c1, A2, c2, rfl, hr1, hr2, hb3⟩; have C3 : Hid (From W0 w3) := C2.out.trans (hb3.mono C2.out.size); have RA := Lib.hid hr1; have RB := Lib.hid hr2; rw [← HL.out.1, ← HL.out.2.1]; clear hr1 hr2 hb3 HPA; have HPB := HPP; clear HPP)
        | ((with_reducible refine g_ld 37 ?_); refine wpList_ld rfl _ _ rfl _ rfl _ (HFG.out.below C3.out HFG.out.lt).ld' ?_)
        | (go_at_call 53; refine (HPB.out _).mono ?_; rintro e w4 ⟨A3, c3, A4, c4, rfl, hr3, hr4, hb4⟩; have D4 : Hid (From w3 w4) := hb4; have C4 : Hid (From W0 w4) := C3.out.trans (hb4.mono C3.out.size); have RC := Lib.hid hr3; have RE := Lib.hid hr4; rw [← HL.out.2.2.1, ← HL.out.2.2.2]; have HTA := HT; clear hr3 hr4 hb4 HPB)
        | (go_at_call 54; refine (HTA.out f.num g.den la ld w4 A1 A4 c1 c4 HL.out.1 HL.out.2.2.2 (RA.out.from D4.out) RE.out HLL.out.1 HLL.out.2.2.2 p1 n1 HP.out.1 HP.out.2.2.1).mono ?_; rintro e w5 ⟨A5, c5, rfl, hr5, hb5⟩; have R5 := Lib.hid hr5; have D5 : Hid (From w4 w5) := hb5; have HTB := HT; clear hr5 hb5 HTA)
        | (go_at_call 54; refine (HTB.out g.num f.den lc lb w5 A3 A2 c3 c2 HL.out.2.2.1 HL.out.2.1 (RC.out.from D5.out) (RB.out.from (D4.out.trans (D5.out.mono D4.out.size))) HLL.out.2.2.1 HLL.out.2.1 p2 n2 HP.out.2.1 HP.out.2.2.2).mono ?_; rintro e w6 ⟨A6, c6, rfl, hr6, hb6⟩; have R6 := Lib.hid hr6; have R56 := Lib.hid (R5.out.from hb6); have C6 : Hid (From W0 w6) := C4.out.trans ((D5.out.trans (hb6.mono D5.out.size)).mono C4.out.size); clear hr6 hb6 HTB)
        | (go_at_call 87; refine (frac_cmp A5 A6 c5 c6 p1 p2 n1 n2 HP.out.2.2.1 HP.out.2.2.2 w6 R56.out R6.out (by have := HM.out; omega) (by have := HM.out; omega)).mono ?_; rintro e w7 ⟨rfl, hb7⟩; rw [HZ.out]; have C7 : Hid (From W0 w7) := C6.out.trans (hb7.mono C6.out.size); clear hb7)
        | ((with_reducible refine g_ld 4 ?_); refine wpList_ld rfl _ _ rfl _ rfl _ ((HFF.out.below C7.out HFF.out.lt).ld_neg' e1) ?_))
       go_ret2
       exact ⟨by rw [HV.out]; rfl, HB.out.trans (C7.out.mono HB.out.size)⟩
      | false =>
       have HV : Hid (r = (-1, 0)) := by unfold Hid; rw [hrr, hnf, hng]; rfl
       have e1 : f.neg = true := hnf
       have e2 : g.neg = false := hng
       clear hrr hnf hng
       have HR1 := Lib.hid (fun w1 => frac_Right f hf w1)
       have HRR := Lib.hid (fun w1 => frac_Right g hg w1)
       rw [hf1] at HR1
       try rw [hg1] at HRR
       have HP1 := Lib.hid (fun w1 => frac_parts f hf w1)
       have HPP := Lib.hid (fun w1 => frac_parts g hg w1)
       unfold FracV.val at HR1 HRR HP1 HPP ⊢
       go_enter Try.func94, Try.ntmps94
       go_upto_region 1 with fail
       rw [show ((w.alloc (.cells f.cells.toArray 37)).alloc (.cells g.cells.toArray 37)) = W0 from HW0.out.symm]
       go_wp2_with (first
        | ((with_reducible refine g_ld 37 ?_); refine wpList_ld rfl _ _ rfl _ rfl _ HFF.out.ld' ?_)
        | (go_at_call 50; refine (HR1.out W0).mono ?_; rintro e w1 ⟨rfl, hb1⟩; have C1 : Hid (From W0 w1) := hb1; have HR2 := HRR; clear hb1 HR1 HRR)
        | ((with_reducible refine g_ld 37 ?_); refine wpList_ldw rfl _ _ rfl _ rfl _ (HFG.out.below C1.out HFG.out.lt).ld' ?_)
        | (go_at_call 50; refine (HR2.out _).mono ?_; rintro e w2 ⟨rfl, hb2⟩; have C2 : Hid (From W0 w2) := C1.out.trans (hb2.mono C1.out.size); have HPA := HP1; clear hb2 HR2 HP1)
        | ((with_reducible refine g_ld 37 ?_); refine wpList_ld rfl _ _ rfl _ rfl _ (HFF.out.below C2.out HFF.out.lt).ld' ?_)
        | ((with_reducible refine g_ld 37 ?_); refine wpList_ld rfl _ _ rfl _ rfl _ (HFG.out.below C2.out HFG.out.lt).ld' ?_)
        | ((with_reducible refine g_ld 4 ?_); refine wpList_ld rfl _ _ rfl _ rfl _ ((HFF.out.below C2.out HFF.out.lt).ld_neg' e1) ?_)
        | ((with_reducible refine g_ld 4 ?_); refine wpList_ld rfl _ _ rfl _ rfl _ ((HFG.out.below C2.out HFG.out.lt).ld_neg' e2) ?_)
        | (go_at_call 53; refine (HPA.out _).mono ?_; rintro e w3 ⟨A1, c1, A2, c2, rfl, hr1, hr2, hb3⟩; have C3 : Hid (From W0 w3) := C2.out.trans (hb3.mono C2.out.size); have RA := Lib.hid hr1; have RB := Lib.hid hr2; rw [← HL.out.1, ← HL.out.2.1]; clear hr1 hr2 hb3 HPA; have HPB := HPP; clear HPP)
        | ((with_reducible refine g_ld 37 ?_); refine wpList_ld rfl _ _ rfl _ rfl _ (HFG.out.below C3.out HFG.out.lt).ld' ?_)
        | (go_at_call 53; refine (HPB.out _).mono ?_; rintro e w4 ⟨A3, c3, A4, c4, rfl, hr3, hr4, hb4⟩; have D4 : Hid (From w3 w4) := hb4; have C4 : Hid (From W0 w4) := C3.out.trans (hb4.mono C3.out.size); have RC := Lib.hid hr3; have RE := Lib.hid hr4; rw [← HL.out.2.2.1, ← HL.out.2.2.2]; have HTA := HT; clear hr3 hr4 hb4 HPB)
        | (go_at_call 54; refine (HTA.out f.num g.den la ld w4 A1 A4 c1 c4 HL.out.1 HL.out.2.2.2 (RA.out.from D4.out) RE.out HLL.out.1 HLL.out.2.2.2 p1 n1 HP.out.1 HP.out.2.2.1).mono ?_; rintro e w5 ⟨A5, c5, rfl, hr5, hb5⟩; have R5 := Lib.hid hr5; have D5 : Hid (From w4 w5) := hb5; have HTB := HT; clear hr5 hb5 HTA)
        | (go_at_call 54; refine (HTB.out g.num f.den lc lb w5 A3 A2 c3 c2 HL.out.2.2.1 HL.out.2.1 (RC.out.from D5.out) (RB.out.from (D4.out.trans (D5.out.mono D4.out.size))) HLL.out.2.2.1 HLL.out.2.1 p2 n2 HP.out.2.1 HP.out.2.2.2).mono ?_; rintro e w6 ⟨A6, c6, rfl, hr6, hb6⟩; have R6 := Lib.hid hr6; have R56 := Lib.hid (R5.out.from hb6); have C6 : Hid (From W0 w6) := C4.out.trans ((D5.out.trans (hb6.mono D5.out.size)).mono C4.out.size); clear hr6 hb6 HTB)
        | (go_at_call 87; refine (frac_cmp A5 A6 c5 c6 p1 p2 n1 n2 HP.out.2.2.1 HP.out.2.2.2 w6 R56.out R6.out (by have := HM.out; omega) (by have := HM.out; omega)).mono ?_; rintro e w7 ⟨rfl, hb7⟩; rw [HZ.out]; have C7 : Hid (From W0 w7) := C6.out.trans (hb7.mono C6.out.size); clear hb7)
        | ((with_reducible refine g_ld 4 ?_); refine wpList_ld rfl _ _ rfl _ rfl _ ((HFF.out.below C7.out HFF.out.lt).ld_neg' e1) ?_))
       go_ret2
       exact ⟨by rw [HV.out]; rfl, HB.out.trans (C2.out.mono HB.out.size)⟩
     | false =>
      cases hng : g.neg with
      | true =>
       have HV : Hid (r = (1, 0)) := by unfold Hid; rw [hrr, hnf, hng]; rfl
       have e1 : f.neg = false := hnf
       have e2 : g.neg = true := hng
       clear hrr hnf hng
       have HR1 := Lib.hid (fun w1 => frac_Right f hf w1)
       have HRR := Lib.hid (fun w1 => frac_Right g hg w1)
       rw [hf1] at HR1
       try rw [hg1] at HRR
       have HP1 := Lib.hid (fun w1 => frac_parts f hf w1)
       have HPP := Lib.hid (fun w1 => frac_parts g hg w1)
       unfold FracV.val at HR1 HRR HP1 HPP ⊢
       go_enter Try.func94, Try.ntmps94
       go_upto_region 1 with fail
       rw [show ((w.alloc (.cells f.cells.toArray 37)).alloc (.cells g.cells.toArray 37)) = W0 from HW0.out.symm]
       go_wp2_with (first
        | ((with_reducible refine g_ld 37 ?_); refine wpList_ld rfl _ _ rfl _ rfl _ HFF.out.ld' ?_)
        | (go_at_call 50; refine (HR1.out W0).mono ?_; rintro e w1 ⟨rfl, hb1⟩; have C1 : Hid (From W0 w1) := hb1; have HR2 := HRR; clear hb1 HR1 HRR)
        | ((with_reducible refine g_ld 37 ?_); refine wpList_ldw rfl _ _ rfl _ rfl _ (HFG.out.below C1.out HFG.out.lt).ld' ?_)
        | (go_at_call 50; refine (HR2.out _).mono ?_; rintro e w2 ⟨rfl, hb2⟩; have C2 : Hid (From W0 w2) := C1.out.trans (hb2.mono C1.out.size); have HPA := HP1; clear hb2 HR2 HP1)
        | ((with_reducible refine g_ld 37 ?_); refine wpList_ld rfl _ _ rfl _ rfl _ (HFF.out.below C2.out HFF.out.lt).ld' ?_)
        | ((with_reducible refine g_ld 37 ?_); refine wpList_ld rfl _ _ rfl _ rfl _ (HFG.out.below C2.out HFG.out.lt).ld' ?_)
        | ((with_reducible refine g_ld 4 ?_); refine wpList_ld rfl _ _ rfl _ rfl _ ((HFF.out.below C2.out HFF.out.lt).ld_neg' e1) ?_)
        | ((with_reducible refine g_ld 4 ?_); refine wpList_ld rfl _ _ rfl _ rfl _ ((HFG.out.below C2.out HFG.out.lt).ld_neg' e2) ?_)
        | (go_at_call 53; refine (HPA.out _).mono ?_; rintro e w3 ⟨A1, c1, A2, c2, rfl, hr1, hr2, hb3⟩; have C3 : Hid (From W0 w3) := C2.out.trans (hb3.mono C2.out.size); have RA := Lib.hid hr1; have RB := Lib.hid hr2; rw [← HL.out.1, ← HL.out.2.1]; clear hr1 hr2 hb3 HPA; have HPB := HPP; clear HPP)
        | ((with_reducible refine g_ld 37 ?_); refine wpList_ld rfl _ _ rfl _ rfl _ (HFG.out.below C3.out HFG.out.lt).ld' ?_)
        | (go_at_call 53; refine (HPB.out _).mono ?_; rintro e w4 ⟨A3, c3, A4, c4, rfl, hr3, hr4, hb4⟩; have D4 : Hid (From w3 w4) := hb4; have C4 : Hid (From W0 w4) := C3.out.trans (hb4.mono C3.out.size); have RC := Lib.hid hr3; have RE := Lib.hid hr4; rw [← HL.out.2.2.1, ← HL.out.2.2.2]; have HTA := HT; clear hr3 hr4 hb4 HPB)
        | (go_at_call 54; refine (HTA.out f.num g.den la ld w4 A1 A4 c1 c4 HL.out.1 HL.out.2.2.2 (RA.out.from D4.out) RE.out HLL.out.1 HLL.out.2.2.2 p1 n1 HP.out.1 HP.out.2.2.1).mono ?_; rintro e w5 ⟨A5, c5, rfl, hr5, hb5⟩; have R5 := Lib.hid hr5; have D5 : Hid (From w4 w5) := hb5; have HTB := HT; clear hr5 hb5 HTA)
        | (go_at_call 54; refine (HTB.out g.num f.den lc lb w5 A3 A2 c3 c2 HL.out.2.2.1 HL.out.2.1 (RC.out.from D5.out) (RB.out.from (D4.out.trans (D5.out.mono D4.out.size))) HLL.out.2.2.1 HLL.out.2.1 p2 n2 HP.out.2.1 HP.out.2.2.2).mono ?_; rintro e w6 ⟨A6, c6, rfl, hr6, hb6⟩; have R6 := Lib.hid hr6; have R56 := Lib.hid (R5.out.from hb6); have C6 : Hid (From W0 w6) := C4.out.trans ((D5.out.trans (hb6.mono D5.out.size)).mono C4.out.size); clear hr6 hb6 HTB)
        | (go_at_call 87; refine (frac_cmp A5 A6 c5 c6 p1 p2 n1 n2 HP.out.2.2.1 HP.out.2.2.2 w6 R56.out R6.out (by have := HM.out; omega) (by have := HM.out; omega)).mono ?_; rintro e w7 ⟨rfl, hb7⟩; rw [HZ.out]; have C7 : Hid (From W0 w7) := C6.out.trans (hb7.mono C6.out.size); clear hb7)
        | ((with_reducible refine g_ld 4 ?_); refine wpList_ld rfl _ _ rfl _ rfl _ ((HFF.out.below C7.out HFF.out.lt).ld_neg' e1) ?_))
       go_ret2
       exact ⟨by rw [HV.out]; rfl, HB.out.trans (C2.out.mono HB.out.size)⟩
      | false =>
       have HV : Hid (r = (z, 0)) := by unfold Hid; rw [hrr, hnf, hng]; rfl
       have e1 : f.neg = false := hnf
       have e2 : g.neg = false := hng
       clear hrr hnf hng
       have HR1 := Lib.hid (fun w1 => frac_Right f hf w1)
       have HRR := Lib.hid (fun w1 => frac_Right g hg w1)
       rw [hf1] at HR1
       try rw [hg1] at HRR
       have HP1 := Lib.hid (fun w1 => frac_parts f hf w1)
       have HPP := Lib.hid (fun w1 => frac_parts g hg w1)
       unfold FracV.val at HR1 HRR HP1 HPP ⊢
       go_enter Try.func94, Try.ntmps94
       go_upto_region 1 with fail
       rw [show ((w.alloc (.cells f.cells.toArray 37)).alloc (.cells g.cells.toArray 37)) = W0 from HW0.out.symm]
       go_wp2_with (first
        | ((with_reducible refine g_ld 37 ?_); refine wpList_ld rfl _ _ rfl _ rfl _ HFF.out.ld' ?_)
        | (go_at_call 50; refine (HR1.out W0).mono ?_; rintro e w1 ⟨rfl, hb1⟩; have C1 : Hid (From W0 w1) := hb1; have HR2 := HRR; clear hb1 HR1 HRR)
        | ((with_reducible refine g_ld 37 ?_); refine wpList_ldw rfl _ _ rfl _ rfl _ (HFG.out.below C1.out HFG.out.lt).ld' ?_)
        | (go_at_call 50; refine (HR2.out _).mono ?_; rintro e w2 ⟨rfl, hb2⟩; have C2 : Hid (From W0 w2) := C1.out.trans (hb2.mono C1.out.size); have HPA := HP1; clear hb2 HR2 HP1)
        | ((with_reducible refine g_ld 37 ?_); refine wpList_ld rfl _ _ rfl _ rfl _ (HFF.out.below C2.out HFF.out.lt).ld' ?_)
        | ((with_reducible refine g_ld 37 ?_); refine wpList_ld rfl _ _ rfl _ rfl _ (HFG.out.below C2.out HFG.out.lt).ld' ?_)
        | ((with_reducible refine g_ld 4 ?_); refine wpList_ld rfl _ _ rfl _ rfl _ ((HFF.out.below C2.out HFF.out.lt).ld_neg' e1) ?_)
        | ((with_reducible refine g_ld 4 ?_); refine wpList_ld rfl _ _ rfl _ rfl _ ((HFG.out.below C2.out HFG.out.lt).ld_neg' e2) ?_)
        | (go_at_call 53; refine (HPA.out _).mono ?_; rintro e w3 ⟨A1, c1, A2, c2, rfl, hr1, hr2, hb3⟩; have C3 : Hid (From W0 w3) := C2.out.trans (hb3.mono C2.out.size); have RA := Lib.hid hr1; have RB := Lib.hid hr2; rw [← HL.out.1, ← HL.out.2.1]; clear hr1 hr2 hb3 HPA; have HPB := HPP; clear HPP)
        | ((with_reducible refine g_ld 37 ?_); refine wpList_ld rfl _ _ rfl _ rfl _ (HFG.out.below C3.out HFG.out.lt).ld' ?_)
        | (go_at_call 53; refine (HPB.out _).mono ?_; rintro e w4 ⟨A3, c3, A4, c4, rfl, hr3, hr4, hb4⟩; have D4 : Hid (From w3 w4) := hb4; have C4 : Hid (From W0 w4) := C3.out.trans (hb4.mono C3.out.size); have RC := Lib.hid hr3; have RE := Lib.hid hr4; rw [← HL.out.2.2.1, ← HL.out.2.2.2]; have HTA := HT; clear hr3 hr4 hb4 HPB)
        | (go_at_call 54; refine (HTA.out f.num g.den la ld w4 A1 A4 c1 c4 HL.out.1 HL.out.2.2.2 (RA.out.from D4.out) RE.out HLL.out.1 HLL.out.2.2.2 p1 n1 HP.out.1 HP.out.2.2.1).mono ?_; rintro e w5 ⟨A5, c5, rfl, hr5, hb5⟩; have R5 := Lib.hid hr5; have D5 : Hid (From w4 w5) := hb5; have HTB := HT; clear hr5 hb5 HTA)
        | (go_at_call 54; refine (HTB.out g.num f.den lc lb w5 A3 A2 c3 c2 HL.out.2.2.1 HL.out.2.1 (RC.out.from D5.out) (RB.out.from (D4.out.trans (D5.out.mono D4.out.size))) HLL.out.2.2.1 HLL.out.2.1 p2 n2 HP.out.2.1 HP.out.2.2.2).mono ?_; rintro e w6 ⟨A6, c6, rfl, hr6, hb6⟩; have R6 := Lib.hid hr6; have R56 := Lib.hid (R5.out.from hb6); have C6 : Hid (From W0 w6) := C4.out.trans ((D5.out.trans (hb6.mono D5.out.size)).mono C4.out.size); clear hr6 hb6 HTB)
        | (go_at_call 87; refine (frac_cmp A5 A6 c5 c6 p1 p2 n1 n2 HP.out.2.2.1 HP.out.2.2.2 w6 R56.out R6.out (by have := HM.out; omega) (by have := HM.out; omega)).mono ?_; rintro e w7 ⟨rfl, hb7⟩; rw [HZ.out]; have C7 : Hid (From W0 w7) := C6.out.trans (hb7.mono C6.out.size); clear hb7)
        | ((with_reducible refine g_ld 4 ?_); refine wpList_ld rfl _ _ rfl _ rfl _ ((HFF.out.below C7.out HFF.out.lt).ld_neg' e1) ?_))
       go_ret2
       exact ⟨by rw [HV.out]; rfl, HB.out.trans (C7.out.mono HB.out.size)⟩
structure Frm where
 x : Int
 light : Int
 share : Int
 shear : Int
 bend : Int
deriving DecidableEq
def Frm.cells (b : Frm) : List Value := [.int .i64 b.x, .int .i64 b.light, .int .i64 b.share, .int .i64 b.shear, .int .i64 b.bend]
abbrev Frm.val (b : Frm) : Value := .agg #[.int .i64 b.x, .int .i64 b.light, .int .i64 b.share, .int .i64 b.shear, .int .i64 b.bend]
theorem Frm.one (b : Frm) : ∀ u ∈ b.cells, u.oneCell' = true := by simp [Frm.cells, Value.oneCell']
theorem Frm.ones (l : List Frm) : ∀ cs ∈ l.map Frm.cells, ∀ u ∈ cs, u.oneCell' = true := by
 intro cs h
 obtain ⟨b, _, rfl⟩ := List.mem_map.1 h
 exact b.one
theorem Frm.at_ {w : World} {B : Nat} {A : Option Addr} {l : List Frm} (h : Rd w B 5 A (l.map Frm.cells)) (k : Nat) (hk : k < l.length) :
 ∃ b off, A = some ⟨b, off, none⟩ ∧ b < B ∧ ∀ w', Below B w w' →
  w'.cell? ⟨b, off + k * 5, none⟩ = some (.int .i64 l[k].x) ∧
  w'.cell? ⟨b, off + k * 5 + 1, none⟩ = some (.int .i64 l[k].light) ∧
  w'.cell? ⟨b, off + k * 5 + 2, none⟩ = some (.int .i64 l[k].share) ∧
  w'.cell? ⟨b, off + k * 5 + 3, none⟩ = some (.int .i64 l[k].shear) ∧
  w'.cell? ⟨b, off + k * 5 + 4, none⟩ = some (.int .i64 l[k].bend) := by
 obtain ⟨b, off, e, hlt, _, hc⟩ := h k l[k].cells (by simp [hk])
 refine ⟨b, off, e, hlt, fun w' hb => ?_⟩
 have hq : ∀ j u, l[k].cells[j]? = some u → w'.cell? ⟨b, off + k * 5 + j, none⟩ = some u := fun j u hu => (hb.cell (p := ⟨b, _, none⟩) (by simpa using hlt)).trans (hc j u hu)
 exact ⟨hq 0 _ rfl, hq 1 _ rfl, hq 2 _ rfl, hq 3 _ rfl, hq 4 _ rfl⟩
theorem Frm.eql_ (x y : Frm) (w : World) : (binOp .eql 44 (.agg #[.int .i64 x.x, .int .i64 x.light, .int .i64 x.share, .int .i64 x.shear, .int .i64 x.bend]) (.agg #[.int .i64 y.x, .int .i64 y.light, .int .i64 y.share, .int .i64 y.shear, .int .i64 y.bend])).run Try.prog w = .ok (.bool (decide (x = y))) w := by
 go_simp
 rcases x with ⟨x0, x1, x2, x3, x4⟩
 rcases y with ⟨y0, y1, y2, y3, y4⟩
 simp only [Frm.mk.injEq]
 by_cases h0 : x0 = y0
 case neg => simp [h0]
 subst h0
 by_cases h1 : x1 = y1
 case neg => simp [h1]
 subst h1
 by_cases h2 : x2 = y2
 case neg => simp [h2]
 subst h2
 by_cases h3 : x3 = y3
 case neg => simp [h3]
 subst h3
 by_cases h4 : x4 = y4
 case neg => simp [h4]
 subst h4
 simp
theorem Frm.row : IsRow Try.prog 44 5 := ⟨_, Try.underlying44, by kernel_rfl, by kernel_rfl⟩
theorem Frm.ld {w : World} {B : Nat} {A : Option Addr} {css : List (List Value)} (h : Rd w B 5 A css) {k : Nat} {b : Frm} (hk : css[k]? = some b.cells) :
 ∃ g off, A = some ⟨g, off, none⟩ ∧ g < B ∧ ∀ w', Below B w w' → (loadVar 44 ⟨g, off + k * 5, none⟩).run Try.prog w' = .ok b.val w' := h.ld Frm.row hk
theorem Frm.ei : EI Try.prog 22 44 5 40 := EI.mk (z := .agg #[.int .i64 0, .int .i64 0, .int .i64 0, .int .i64 0, .int .i64 0]) Try.underlying22 (by kernel_rfl) rfl (by omega)
structure Wt where
 x : Int
 kilos : Int
deriving DecidableEq
def Wt.cells (b : Wt) : List Value := [.int .i64 b.x, .int .i64 b.kilos]
abbrev Wt.val (b : Wt) : Value := .agg #[.int .i64 b.x, .int .i64 b.kilos]
theorem Wt.one (b : Wt) : ∀ u ∈ b.cells, u.oneCell' = true := by simp [Wt.cells, Value.oneCell']
theorem Wt.ones (l : List Wt) : ∀ cs ∈ l.map Wt.cells, ∀ u ∈ cs, u.oneCell' = true := by
 intro cs h
 obtain ⟨b, _, rfl⟩ := List.mem_map.1 h
 exact b.one
theorem Wt.neq_ (x y : Wt) (w : World) : (binOp .neq 46 (.agg #[.int .i64 x.x, .int .i64 x.kilos]) (.agg #[.int .i64 y.x, .int .i64 y.kilos])).run Try.prog w = .ok (.bool (!decide (x = y))) w := by
 go_simp
 rcases x with ⟨x0, x1⟩
 rcases y with ⟨y0, y1⟩
 simp only [Wt.mk.injEq]
 by_cases h0 : x0 = y0
 case neg => simp [h0]
 subst h0
 by_cases h1 : x1 = y1
 case neg => simp [h1]
 subst h1
 simp
theorem Wt.row : IsRow Try.prog 46 2 := ⟨_, Try.underlying46, by kernel_rfl, by kernel_rfl⟩
theorem Wt.ld {w : World} {B : Nat} {A : Option Addr} {css : List (List Value)} (h : Rd w B 2 A css) {k : Nat} {b : Wt} (hk : css[k]? = some b.cells) :
 ∃ g off, A = some ⟨g, off, none⟩ ∧ g < B ∧ ∀ w', Below B w w' → (loadVar 46 ⟨g, off + k * 2, none⟩).run Try.prog w' = .ok b.val w' := h.ld Wt.row hk
end Go.Proofs.Ytcdfnlgimbecgaa
