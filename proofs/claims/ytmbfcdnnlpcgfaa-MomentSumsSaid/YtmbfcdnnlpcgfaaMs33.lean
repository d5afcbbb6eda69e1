/-
  moment: weighs, within, Right, Point.
-/
import Derived.Test.YtmbfcdnnlpcgfaaMs30
set_option linter.unusedVariables false
set_option linter.unusedSimpArgs false
namespace Go.Proofs.Ytmbfcdnnlpcgfaa
open Go.RowKit
def wOk (n : Int) : Bool := decide (0 ≤ n ∧ n ≤ 500000000)
def inArm (n m : Int) : Bool := decide (-m ≤ n ∧ n ≤ m)
def ldOk (l : Ld) : Bool := wOk l.kilos && (inArm l.x (l.kilos * 1100000) && (inArm l.y (l.kilos * 1100000) && inArm l.z (l.kilos * 1100000)))
def ld0 : Ld := ⟨0, 0, 0, 0⟩
def pointF (k x y z : Int) : Ld × Int := if wOk k && (inArm x 1100000 && (inArm y 1100000 && inArm z 1100000)) then (⟨k, k * x, k * y, k * z⟩, 0) else (ld0, 2)
theorem wOk_iff {n : Int} : wOk n = true ↔ 0 ≤ n ∧ n ≤ 500000000 := decide_eq_true_iff
theorem inArm_iff {n m : Int} : inArm n m = true ↔ -m ≤ n ∧ n ≤ m := decide_eq_true_iff
theorem m_weighs (n : Int) (w : World) : Calls Try.prog 15 #[.int .i64 n] w fun e w' => e = .returned (.bool (wOk n)) ∧ w' = w := by
 by_cases h1 : 0 ≤ n
 · by_cases h2 : n ≤ 500000000
   · have h3 : wOk n = true := by simp [wOk, h1, h2]
     rw [h3]
     clear h3
     go_enter Try.func15, Try.ntmps15
     go_wp2
     go_ret
     exact ⟨rfl, rfl⟩
   · have h3 : wOk n = false := by simp [wOk]; omega
     rw [h3]
     clear h3
     go_enter Try.func15, Try.ntmps15
     go_wp2
     go_ret
     exact ⟨rfl, rfl⟩
 · have h3 : wOk n = false := by simp [wOk]; omega
   rw [h3]
   clear h3
   go_enter Try.func15, Try.ntmps15
   go_wp2
   go_ret
   exact ⟨rfl, rfl⟩
theorem m_within (n m : Int) (hm0 : 0 ≤ m) (hm : m ≤ 4611686018427387904) (w : World) : Calls Try.prog 16 #[.int .i64 n, .int .i64 m] w fun e w' => e = .returned (.bool (inArm n m)) ∧ w' = w := by
 have wn : IntKind.i64.wrap (-m) = -m := wrap_i64 (by omega) (by omega)
 by_cases h1 : -m ≤ n
 · by_cases h2 : n ≤ m
   · have h3 : inArm n m = true := by simp [inArm, h1, h2]
     rw [h3]
     clear h3
     go_enter Try.func16, Try.ntmps16
     go_wp2
     go_ret
     exact ⟨rfl, rfl⟩
   · have h3 : inArm n m = false := by simp [inArm]; omega
     rw [h3]
     clear h3
     go_enter Try.func16, Try.ntmps16
     go_wp2
     go_ret
     exact ⟨rfl, rfl⟩
 · have h3 : inArm n m = false := by simp [inArm]; omega
   rw [h3]
   clear h3
   go_enter Try.func16, Try.ntmps16
   go_wp2
   go_ret
   exact ⟨rfl, rfl⟩
set_option maxHeartbeats 1000000 in
theorem m_Right (l : Ld) (w : World) : Calls Try.prog 6 #[.agg #[.int .i64 l.kilos, .int .i64 l.x, .int .i64 l.y, .int .i64 l.z]] w fun e w' => e = .returned (.bool (ldOk l)) ∧ From w w' := by
 obtain ⟨k, x, y, z⟩ := l
 dsimp only
 have HB : Hid (From w (w.alloc (.cells #[.int .i64 k, .int .i64 x, .int .i64 y, .int .i64 z] 30))) := (Below.refl _ _).alloc (Nat.le_refl _) _
 have HK := Lib.hid (fun w1 => m_weighs k w1)
 cases hk : wOk k with
 | false =>
  rw [hk] at HK
  have hr : ldOk ⟨k, x, y, z⟩ = false := by unfold ldOk; rw [hk]; rfl
  rw [hr]
  clear hr hk
  go_enter Try.func6, Try.ntmps6
  go_wp2_with (go_at_call 15; refine (HK.out _).mono ?_; rintro e wx ⟨rfl, hx⟩; rw [hx]; clear hx wx HK)
  go_ret
  exact ⟨rfl, HB.out⟩
 | true =>
  have h1 := wOk_iff.1 hk
  have wm : IntKind.i64.wrap (k * 1100000) = k * 1100000 := wrap_i64 (by omega) (by omega)
  obtain ⟨m, hm⟩ : ∃ m, m = k * 1100000 := ⟨_, rfl⟩
  have HX := Lib.hid (fun w1 => m_within x m (by omega) (by omega) w1)
  have HY := Lib.hid (fun w1 => m_within y m (by omega) (by omega) w1)
  have HZ := Lib.hid (fun w1 => m_within z m (by omega) (by omega) w1)
  have hr : ldOk ⟨k, x, y, z⟩ = (inArm x m && (inArm y m && inArm z m)) := by unfold ldOk; rw [hk, hm]; rfl
  rw [hk] at HK
  rw [hr]
  rw [← hm] at wm
  have wm2 : IntKind.i64.wrap (k * 1100000) = m := by rw [← hm]; exact wm
  clear hr hk h1 hm wm
  generalize inArm x m = bx at HX ⊢
  generalize inArm y m = by_ at HY ⊢
  generalize inArm z m = bz at HZ ⊢
  cases bx with
  | false =>
   go_enter Try.func6, Try.ntmps6
   go_wp2_with (first
    | (go_at_call 15; refine (HK.out _).mono ?_; rintro e wx ⟨rfl, hx⟩; rw [hx]; clear hx wx HK)
    | (go_at_call 16; refine (HX.out _).mono ?_; rintro e wx ⟨rfl, hx⟩; rw [hx]; clear hx wx HX)
    | (go_at_call 16; refine (HY.out _).mono ?_; rintro e wx ⟨rfl, hx⟩; rw [hx]; clear hx wx HY)
    | (go_at_call 16; refine (HZ.out _).mono ?_; rintro e wx ⟨rfl, hx⟩; rw [hx]; clear hx wx))
   go_ret
   exact ⟨rfl, HB.out⟩
  | true =>
   cases by_ with
   | false =>
    go_enter Try.func6, Try.ntmps6
    go_wp2_with (first
     | (go_at_call 15; refine (HK.out _).mono ?_; rintro e wx ⟨rfl, hx⟩; rw [hx]; clear hx wx HK)
     | (go_at_call 16; refine (HX.out _).mono ?_; rintro e wx ⟨rfl, hx⟩; rw [hx]; clear hx wx HX)
     | (go_at_call 16; refine (HY.out _).mono ?_; rintro e wx ⟨rfl, hx⟩; rw [hx]; clear hx wx HY)
     | (go_at_call 16; refine (HZ.out _).mono ?_; rintro e wx ⟨rfl, hx⟩; rw [hx]; clear hx wx))
    go_ret
    exact ⟨rfl, HB.out⟩
   | true =>
    go_enter Try.func6, Try.ntmps6
    go_wp2_with (first
     | (go_at_call 15; refine (HK.out _).mono ?_; rintro e wx ⟨rfl, hx⟩; rw [hx]; clear hx wx HK)
     | (go_at_call 16; refine (HX.out _).mono ?_; rintro e wx ⟨rfl, hx⟩; rw [hx]; clear hx wx HX)
     | (go_at_call 16; refine (HY.out _).mono ?_; rintro e wx ⟨rfl, hx⟩; rw [hx]; clear hx wx HY)
     | (go_at_call 16; refine (HZ.out _).mono ?_; rintro e wx ⟨rfl, hx⟩; rw [hx]; clear hx wx))
    go_ret
    exact ⟨rfl, HB.out⟩
theorem ld_row : IsRow Try.prog 30 4 := Ld.row
theorem ld_size : (Try.prog.info? 30).map (·.size) = some 4 := by kernel_rfl
def LdPost (w : World) (r : Ld × Int) (e : Ending) (w' : World) : Prop := e = .returned (.tuple #[r.1.val, .int .i64 r.2]) ∧ From w w'
set_option maxHeartbeats 2000000 in
theorem m_Point (k x y z : Int) (w : World) : Calls Try.prog 5 #[.int .i64 k, .int .i64 x, .int .i64 y, .int .i64 z] w (LdPost w (pointF k x y z)) := by
 have HM0 := Lib.hid ((Mem.nil w).alloc 30 ld0.cells)
 have HK := Lib.hid (fun w1 => m_weighs k w1)
 have HX := Lib.hid (fun w1 => m_within x 1100000 (by omega) (by omega) w1)
 have HY := Lib.hid (fun w1 => m_within y 1100000 (by omega) (by omega) w1)
 have HZ := Lib.hid (fun w1 => m_within z 1100000 (by omega) (by omega) w1)
 cases hk : wOk k with
 | false =>
  have HR : Hid (pointF k x y z = (ld0, 2)) := by unfold Hid pointF; rw [hk]; rfl
  rw [hk] at HK
  clear hk
  go_enter Try.func5, Try.ntmps5
  go_wp2_with (first
   | (go_at_call 15; refine (HK.out _).mono ?_; rintro e wx ⟨rfl, hx⟩; rw [hx]; clear hx wx HK)
   | (go_at_call 16; refine (HX.out _).mono ?_; rintro e wx ⟨rfl, hx⟩; rw [hx]; clear hx wx HX)
   | (go_at_call 16; refine (HY.out _).mono ?_; rintro e wx ⟨rfl, hx⟩; rw [hx]; clear hx wx HY)
   | (go_at_call 16; refine (HZ.out _).mono ?_; rintro e wx ⟨rfl, hx⟩; rw [hx]; clear hx wx)
   | ((with_reducible refine g_st 30 ?_); go_loud (refine wpList_stB (cs' := Ld.cells (ld0)) rfl _ _ rfl HM0.out 0 rfl rfl rfl ld_size rfl (Ld.len _) (Ld.len _) (Ld.one _) ?_); intro w6 h6))
  refine bodyPost_ret (results_box2 rfl _ rfl (h6.ldb ld_row (Ld.len _) (i := 0) rfl _ (Below.refl _ _))) rfl ⟨?_, h6.from_⟩
  rw [HR.out]
  rfl
 | true =>
  cases hx : inArm x 1100000 with
  | false =>
   have HR : Hid (pointF k x y z = (ld0, 2)) := by unfold Hid pointF; rw [hk, hx]; rfl
   rw [hk] at HK
   rw [hx] at HX
   clear hk hx
   go_enter Try.func5, Try.ntmps5
   go_wp2_with (first
    | (go_at_call 15; refine (HK.out _).mono ?_; rintro e wx ⟨rfl, hx⟩; rw [hx]; clear hx wx HK)
    | (go_at_call 16; refine (HX.out _).mono ?_; rintro e wx ⟨rfl, hx⟩; rw [hx]; clear hx wx HX)
    | (go_at_call 16; refine (HY.out _).mono ?_; rintro e wx ⟨rfl, hx⟩; rw [hx]; clear hx wx HY)
    | (go_at_call 16; refine (HZ.out _).mono ?_; rintro e wx ⟨rfl, hx⟩; rw [hx]; clear hx wx)
    | ((with_reducible refine g_st 30 ?_); go_loud (refine wpList_stB (cs' := Ld.cells (ld0)) rfl _ _ rfl HM0.out 0 rfl rfl rfl ld_size rfl (Ld.len _) (Ld.len _) (Ld.one _) ?_); intro w6 h6))
   refine bodyPost_ret (results_box2 rfl _ rfl (h6.ldb ld_row (Ld.len _) (i := 0) rfl _ (Below.refl _ _))) rfl ⟨?_, h6.from_⟩
   rw [HR.out]
   rfl
  | true =>
   cases hy : inArm y 1100000 with
   | false =>
    have HR : Hid (pointF k x y z = (ld0, 2)) := by unfold Hid pointF; rw [hk, hx, hy]; rfl
    rw [hk] at HK
    rw [hx] at HX
    rw [hy] at HY
    clear hk hx hy
    go_enter Try.func5, Try.ntmps5
    go_wp2_with (first
     | (go_at_call 15; refine (HK.out _).mono ?_; rintro e wx ⟨rfl, hx⟩; rw [hx]; clear hx wx HK)
     | (go_at_call 16; refine (HX.out _).mono ?_; rintro e wx ⟨rfl, hx⟩; rw [hx]; clear hx wx HX)
     | (go_at_call 16; refine (HY.out _).mono ?_; rintro e wx ⟨rfl, hx⟩; rw [hx]; clear hx wx HY)
     | (go_at_call 16; refine (HZ.out _).mono ?_; rintro e wx ⟨rfl, hx⟩; rw [hx]; clear hx wx)
     | ((with_reducible refine g_st 30 ?_); go_loud (refine wpList_stB (cs' := Ld.cells (ld0)) rfl _ _ rfl HM0.out 0 rfl rfl rfl ld_size rfl (Ld.len _) (Ld.len _) (Ld.one _) ?_); intro w6 h6))
    refine bodyPost_ret (results_box2 rfl _ rfl (h6.ldb ld_row (Ld.len _) (i := 0) rfl _ (Below.refl _ _))) rfl ⟨?_, h6.from_⟩
    rw [HR.out]
    rfl
   | true =>
    cases hz : inArm z 1100000 with
    | false =>
     have HR : Hid (pointF k x y z = (ld0, 2)) := by unfold Hid pointF; rw [hk, hx, hy, hz]; rfl
     rw [hk] at HK
     rw [hx] at HX
     rw [hy] at HY
     rw [hz] at HZ
     clear hk hx hy hz
     go_enter Try.func5, Try.ntmps5
     go_wp2_with (first
      | (go_at_call 15; refine (HK.out _).mono ?_; rintro e wx ⟨rfl, hx⟩; rw [hx]; clear hx wx HK)
      | (go_at_call 16; refine (HX.out _).mono ?_; rintro e wx ⟨rfl, hx⟩; rw [hx]; clear hx wx HX)
      | (go_at_call 16; refine (HY.out _).mono ?_; rintro e wx ⟨rfl, hx⟩; rw [hx]; clear hx wx HY)
      | (go_at_call 16; refine (HZ.out _).mono ?_; rintro e wx ⟨rfl, hx⟩; rw [hx]; clear hx wx)
      | ((with_reducible refine g_st 30 ?_); go_loud (refine wpList_stB (cs' := Ld.cells (ld0)) rfl _ _ rfl HM0.out 0 rfl rfl rfl ld_size rfl (Ld.len _) (Ld.len _) (Ld.one _) ?_); intro w6 h6))
     refine bodyPost_ret (results_box2 rfl _ rfl (h6.ldb ld_row (Ld.len _) (i := 0) rfl _ (Below.refl _ _))) rfl ⟨?_, h6.from_⟩
     rw [HR.out]
     rfl
    | true =>
     have HR : Hid (pointF k x y z = (⟨k, k * x, k * y, k * z⟩, 0)) := by unfold Hid pointF; rw [hk, hx, hy, hz]; rfl
     have hm : ∀ n : Int, inArm n 1100000 = true → IntKind.i64.wrap (k * n) = k * n := fun n hn => by
      have h1 := wOk_iff.1 hk
      have h2 := inArm_iff.1 hn
      have h3 : k * n ≤ k * 1100000 := Int.mul_le_mul_of_nonneg_left h2.2 h1.1
      have h4 : k * (-1100000) ≤ k * n := Int.mul_le_mul_of_nonneg_left h2.1 h1.1
      exact wrap_i64 (by omega) (by omega)
     have mx := hm x hx
     have my := hm y hy
     have mz := hm z hz
     rw [hk] at HK
     rw [hx] at HX
     rw [hy] at HY
     rw [hz] at HZ
     clear hk hx hy hz hm
     go_enter Try.func5, Try.ntmps5
     go_wp2_with (first
      | (go_at_call 15; refine (HK.out _).mono ?_; rintro e wx ⟨rfl, hx⟩; rw [hx]; clear hx wx HK)
      | (go_at_call 16; refine (HX.out _).mono ?_; rintro e wx ⟨rfl, hx⟩; rw [hx]; clear hx wx HX)
      | (go_at_call 16; refine (HY.out _).mono ?_; rintro e wx ⟨rfl, hx⟩; rw [hx]; clear hx wx HY)
      | (go_at_call 16; refine (HZ.out _).mono ?_; rintro e wx ⟨rfl, hx⟩; rw [hx]; clear hx wx)
      | ((with_reducible refine g_st 30 ?_); go_loud (refine wpList_stB (cs' := Ld.cells (⟨k, k * x, k * y, k * z⟩)) rfl _ _ rfl HM0.out 0 rfl rfl rfl ld_size rfl (Ld.len _) (Ld.len _) (Ld.one _) ?_); intro w6 h6))
     refine bodyPost_ret (results_box2 rfl _ rfl (h6.ldb ld_row (Ld.len _) (i := 0) rfl _ (Below.refl _ _))) rfl ⟨?_, h6.from_⟩
     rw [HR.out]
     rfl
theorem m_bad (l : Ld) (w : World) : Calls Try.prog 18 #[l.val] w fun e w' => e = .returned (.bool (!ldOk l)) ∧ From w w' := by
 have HR := Lib.hid (fun w1 => m_Right l w1)
 have HB : Hid (From w (w.alloc (.cells (Ld.cells l).toArray 30))) := (Below.refl _ _).alloc (Nat.le_refl _) _
 go_enter Try.func18, Try.ntmps18
 go_wp2_with (go_at_call 6; go_loud (refine (HR.out _).mono ?_); rintro e w2 ⟨rfl, hb⟩)
 go_ret
 exact ⟨rfl, HB.out.trans (hb.mono HB.out.size)⟩
def Ld.add (a b : Ld) : Ld := ⟨a.kilos + b.kilos, a.x + b.x, a.y + b.y, a.z + b.z⟩
def addFrom (s : Ld) : List Ld → Ld × Int
 | [] => (s, 0)
 | x :: l => if wOk (s.kilos + x.kilos) then addFrom (s.add x) l else (ld0, 3)
def ldBad (l : Ld) : Bool := !ldOk l
def addF (l : List Ld) : Ld × Int := if l.any ldBad then (ld0, 2) else addFrom ld0 l
theorem ldOk_nums {l : Ld} (h : ldOk l = true) : (0 ≤ l.kilos ∧ l.kilos ≤ 500000000) ∧ (-(l.kilos * 1100000) ≤ l.x ∧ l.x ≤ l.kilos * 1100000) ∧ (-(l.kilos * 1100000) ≤ l.y ∧ l.y ≤ l.kilos * 1100000) ∧ (-(l.kilos * 1100000) ≤ l.z ∧ l.z ≤ l.kilos * 1100000) := by
 unfold ldOk at h
 simp only [Bool.and_eq_true] at h
 exact ⟨wOk_iff.1 h.1, inArm_iff.1 h.2.1, inArm_iff.1 h.2.2.1, inArm_iff.1 h.2.2.2⟩
theorem ldOk_of {l : Ld} (h : (0 ≤ l.kilos ∧ l.kilos ≤ 500000000) ∧ (-(l.kilos * 1100000) ≤ l.x ∧ l.x ≤ l.kilos * 1100000) ∧ (-(l.kilos * 1100000) ≤ l.y ∧ l.y ≤ l.kilos * 1100000) ∧ (-(l.kilos * 1100000) ≤ l.z ∧ l.z ≤ l.kilos * 1100000)) : ldOk l = true := by
 unfold ldOk
 simp only [Bool.and_eq_true]
 exact ⟨wOk_iff.2 h.1, inArm_iff.2 h.2.1, inArm_iff.2 h.2.2.1, inArm_iff.2 h.2.2.2⟩
theorem ldOk_zero : ldOk ld0 = true := by decide
theorem cf18 (w : World) (args : Array Value) : (callFunc 18 args).run Try.prog w = .ok (.enter 18 args) w := by
 go_simp
set_option maxRecDepth 100000 in
set_option maxHeartbeats 2000000 in
theorem m_Add (A : Option Addr) (c n : Nat) (l : List Ld) (hn : n = l.length) (w : World) (h : Rd w w.heap.size 4 A (l.map Ld.cells)) (hl : l.length ≤ 1000000) :
 Calls Try.prog 7 #[.slice A n c] w (LdPost w (addF l)) := by
 have HC := Lib.hid (fun w1 (hb : From w w1) => containsLd A c l n hn 18 #[] ldBad w1 (h.from hb) (by omega) cf18 (fun x _ w' _ => m_bad x w'))
 have HM0 := Lib.hid ((Mem.nil w).alloc 30 ld0.cells)
 have HR := Lib.hid h
 have HN := Lib.hid hn
 have hn6 : n ≤ 1000000 := by omega
 obtain ⟨r, hr⟩ : ∃ r, r = addF l := ⟨_, rfl⟩
 rw [← hr]
 cases hany : l.any ldBad with
 | true =>
  rw [hany] at HC
  have HE : Hid (r = (ld0, 2)) := by unfold Hid addF at *; rw [hr, hany]; rfl
  clear hr hany h hn hl HR
  go_enter Try.func7, Try.ntmps7
  go_wp2_with (first
   | (go_at_call 17; go_loud (refine (HC.out _ HM0.out.from_).mono ?_); rintro e w1 ⟨rfl, hb⟩; have HM1 := Lib.hid (HM0.out.call hb); clear hb)
   | ((with_reducible refine g_st 30 ?_); go_loud (refine wpList_stB (cs' := ld0.cells) rfl _ _ rfl HM1.out 0 rfl rfl rfl ld_size rfl (Ld.len _) (Ld.len _) (Ld.one _) ?_); intro w6 h6))
  refine bodyPost_ret (results_box2 rfl _ rfl (h6.ldb ld_row (Ld.len _) (i := 0) rfl _ (Below.refl _ _))) rfl ⟨?_, h6.from_⟩
  rw [HE.out]
  rfl
 | false =>
  rw [hany] at HC
  have HE : Hid (addFrom ld0 (l.drop 0) = r) := by unfold Hid addF at *; rw [hr, hany]; rfl
  have HOK : Hid (∀ x ∈ l, ldOk x = true) := by
   intro x hx
   have h1 := List.any_eq_false.1 hany x hx
   unfold ldBad at h1
   simpa using h1
  clear hr hany h hn hl
  go_enter Try.func7, Try.ntmps7
  go_wp2_with (go_at_call 17; go_loud (refine (HC.out _ HM0.out.from_).mono ?_); rintro e w1 ⟨rfl, hb⟩; have HM1 := Lib.hid ((HM0.out.call hb).alloc 30 ld0.cells); clear hb HC HM0)
  go_loopw [12] (fun v wq => ∃ (k : Nat) (s : Ld), k ≤ n ∧ v = .int .i64 (k : Int) ∧ ldOk s = true ∧ addFrom s (l.drop k) = r ∧ Mem w wq [.box w1.heap.size 30 s.cells, .box w.heap.size 30 ld0.cells]) (fun v _ => n - (intOf v).toNat)
  case atStart => exact ⟨0, ld0, Nat.zero_le _, rfl, ldOk_zero, HE.out, HM1.out⟩
  case round =>
   clear HM1 HE
   obtain ⟨k, s, hk, rfl, hs, hle, hmem⟩ := hrel
   have HM2 := Lib.hid hmem
   have HLE := Lib.hid hle
   clear hmem hle
   by_cases hkn : k = n
   · have hlt : ¬ (k : Int) < (n : Int) := by omega
     have HE : Hid (r = (s, 0)) := by
      have h1 := HLE.out
      rw [List.drop_of_length_le (by rw [← HN.out, hkn]; exact Nat.le_refl _)] at h1
      exact h1.symm
     clear HLE hkn hk hs
     go_wp2_with (first
      | ((with_reducible refine g_ld 30 ?_); refine wpList_ld rfl _ _ rfl _ rfl _ (HM2.out.ldb ld_row (Ld.len _) (i := 0) rfl _ (Below.refl _ _)) ?_)
      | ((with_reducible refine g_st 30 ?_); go_loud (refine wpList_stB (cs' := Ld.cells s) rfl _ _ rfl HM2.out 1 rfl rfl rfl ld_size rfl (Ld.len _) (Ld.len _) (Ld.one _) ?_); intro w6 h6))
     refine bodyPost_ret (results_box2 rfl _ rfl (h6.ldb ld_row (Ld.len _) (i := 1) rfl _ (Below.refl _ _))) rfl ⟨?_, h6.from_⟩
     rw [HE.out]
     rfl
   · have hlt : (k : Int) < (n : Int) := by omega
     have hkl : k < l.length := by rw [← HN.out]; omega
     obtain ⟨g, off, rfl, hg, hld⟩ := Ld.ld HR.out (k := k) (b := l[k]) (map_get2 Ld.cells l k hkl)
     obtain ⟨x, hx⟩ : ∃ x, x = l[k] := ⟨_, rfl⟩
     rw [← hx] at hld
     have HLD := Lib.hid (hld wr HM2.out.from_)
     have hxo : ldOk x = true := HOK.out x (by rw [hx]; exact List.getElem_mem hkl)
     have HLE2 : Hid (addFrom s (x :: l.drop (k + 1)) = r) := by
      have h1 := HLE.out
      rw [List.drop_eq_getElem_cons hkl, ← hx] at h1
      exact h1
     have HM3 := Lib.hid (HM2.out.alloc 30 x.cells)
     have h1 := ldOk_nums hs
     have h2 := ldOk_nums hxo
     obtain ⟨k1, x1, y1, z1⟩ := s
     obtain ⟨k2, x2, y2, z2⟩ := x
     dsimp only at h1 h2
     have e1 : IntKind.i64.wrap (k1 + k2) = k1 + k2 := wrap_i64 (by omega) (by omega)
     have e2 : IntKind.i64.wrap (x1 + x2) = x1 + x2 := wrap_i64 (by omega) (by omega)
     have e3 : IntKind.i64.wrap (y1 + y2) = y1 + y2 := wrap_i64 (by omega) (by omega)
     have e4 : IntKind.i64.wrap (z1 + z2) = z1 + z2 := wrap_i64 (by omega) (by omega)
     have HSA : Hid (wOk (k1 + k2) = true → ldOk ⟨k1 + k2, x1 + x2, y1 + y2, z1 + z2⟩ = true) := by
      intro h3
      have h4 := wOk_iff.1 h3
      refine ldOk_of ?_
      dsimp only
      omega
     have HW := Lib.hid (fun w1 => m_weighs (k1 + k2) w1)
     clear h1 h2 hx hld HM2 hkl HLE hkn hs hxo
     cases hwo : wOk (k1 + k2) with
     | false =>
      rw [hwo] at HW
      have HE : Hid (r = (ld0, 3)) := by
       have h1 := HLE2.out
       unfold addFrom at h1
       rw [if_neg (by rw [hwo]; simp)] at h1
       exact h1.symm
      clear HLE2 HSA hwo
      go_wp2_with (first
       | ((with_reducible refine g_ld 30 ?_); refine wpList_ld rfl _ _ rfl _ rfl _ HLD.out ?_)
       | ((with_reducible refine g_ld 3 ?_); refine wpList_ld rfl _ _ rfl _ rfl _ (HM3.out.ldc ct3 (i := 1) rfl rfl _ (Below.refl _ _)) ?_)
       | ((with_reducible refine g_ld 3 ?_); refine wpList_ld rfl _ _ rfl _ rfl _ (HM4.out.ldc ct3 (i := 1) rfl rfl _ (Below.refl _ _)) ?_)
       | ((with_reducible refine g_st 30 ?_); refine wpList_stB (cs' := Ld.cells ⟨k1 + k2, x1 + x2, y1 + y2, z1 + z2⟩) rfl _ _ rfl HM3.out 1 rfl rfl rfl ld_size rfl (Ld.len _) (Ld.len _) (Ld.one _) ?_; intro w5 h5; have HM4 := Lib.hid h5; clear h5)
       | (go_at_call 15; refine (HW.out _).mono ?_; rintro e wx ⟨rfl, hx⟩; rw [hx]; clear hx wx)
       | ((with_reducible refine g_st 30 ?_); refine wpList_stB (cs' := ld0.cells) rfl _ _ rfl HM4.out 2 rfl rfl rfl ld_size rfl (Ld.len _) (Ld.len _) (Ld.one _) ?_; intro w6 h6))
      refine bodyPost_ret (results_box2 rfl _ rfl (h6.ldb ld_row (Ld.len _) (i := 2) rfl _ (Below.refl _ _))) rfl ⟨?_, h6.from_⟩
      rw [HE.out]
      rfl
     | true =>
      rw [hwo] at HW
      have HS2 := Lib.hid (HSA.out hwo)
      have HE : Hid (addFrom ⟨k1 + k2, x1 + x2, y1 + y2, z1 + z2⟩ (l.drop (k + 1)) = r) := by
       have h1 := HLE2.out
       unfold addFrom at h1
       rw [if_pos (by rw [hwo])] at h1
       exact h1
      clear HLE2 HSA hwo
      go_wp2_with (first
       | ((with_reducible refine g_ld 30 ?_); refine wpList_ld rfl _ _ rfl _ rfl _ HLD.out ?_)
       | ((with_reducible refine g_ld 3 ?_); refine wpList_ld rfl _ _ rfl _ rfl _ (HM3.out.ldc ct3 (i := 1) rfl rfl _ (Below.refl _ _)) ?_)
       | ((with_reducible refine g_ld 3 ?_); refine wpList_ld rfl _ _ rfl _ rfl _ (HM4.out.ldc ct3 (i := 1) rfl rfl _ (Below.refl _ _)) ?_)
       | ((with_reducible refine g_st 30 ?_); refine wpList_stB (cs' := Ld.cells ⟨k1 + k2, x1 + x2, y1 + y2, z1 + z2⟩) rfl _ _ rfl HM3.out 1 rfl rfl rfl ld_size rfl (Ld.len _) (Ld.len _) (Ld.one _) ?_; intro w5 h5; have HM4 := Lib.hid h5; clear h5)
       | (go_at_call 15; refine (HW.out _).mono ?_; rintro e wx ⟨rfl, hx⟩; rw [hx]; clear hx wx))
      go_roundw
      case rel => exact ⟨k + 1, _, by omega, by go_num, HS2.out, HE.out, HM4.out.tail⟩
      case measure => simp [intOf]; omega
end Go.Proofs.Ytmbfcdnnlpcgfaa
