/-
  twistlockkit: SameInts.
-/
import Derived.Test.YtcdfnlgimbecgaaMt40
namespace Go.Proofs.Ytcdfnlgimbecgaa
open Go.RowKit
set_option maxRecDepth 100000 in
set_option maxHeartbeats 1000000 in
theorem kit_SameInts (A D : Option Addr) (c d n m : Nat) (l q : List Int) (hn : n = l.length) (hm : m = q.length) (w : World) (h : Rd w w.heap.size 1 A (l.map intRow)) (h' : Rd w w.heap.size 1 D (q.map intRow)) (hl : l.length ≤ 1000000) :
 Calls Try.prog 34 #[.slice A n c, .slice D m d] w fun e w' => e = .returned (.bool (decide (l = q))) ∧ From w w' := by
 by_cases hnm : n = m
 · subst hnm
   have HR := Lib.hid h
   have HD := Lib.hid h'
   have HN := Lib.hid (And.intro hn hm)
   have hn6 : n ≤ 1000000 := by omega
   obtain ⟨r, hr⟩ : ∃ r, r = decide (l = q) := ⟨_, rfl⟩
   rw [← hr]
   have HRR := Lib.hid hr
   clear h h' hn hm hl hr
   go_enter Try.func34, Try.ntmps34
   go_wp2
   go_loopw [5] (fun v5 wq => ∃ k : Nat, k ≤ n ∧ v5 = .int .i64 (k : Int) ∧ l.take k = q.take k ∧ From w wq) (fun v _ => n - (intOf v).toNat)
   case atStart => exact ⟨0, Nat.zero_le _, rfl, rfl, Below.refl _ _⟩
   case round =>
    obtain ⟨k, hk, rfl, ht, hf⟩ := hrel
    have HT := Lib.hid ht
    have HF := Lib.hid hf
    clear ht hf
    by_cases hkn : k = n
    · subst hkn
      have hlt : ¬ (k : Int) < (k : Int) := by omega
      have HE : Hid (l = q) := by
       have h1 := HT.out
       rw [List.take_of_length_le (by rw [← HN.out.1]; exact Nat.le_refl _), List.take_of_length_le (by rw [← HN.out.2]; exact Nat.le_refl _)] at h1
       exact h1
      clear hk hn6
      go_wp2
      go_ret
      exact ⟨by rw [HRR.out, decide_eq_true HE.out]; rfl, HF.out⟩
    · have hkn : (k : Int) < (n : Int) := by omega
      have hkl : k < l.length := by rw [← HN.out.1]; omega
      have hkq : k < q.length := by rw [← HN.out.2]; omega
      obtain ⟨x, hx⟩ : ∃ x, x = l[k] := ⟨_, rfl⟩
      obtain ⟨y, hy⟩ : ∃ y, y = q[k] := ⟨_, rfl⟩
      have hlk : l[k]? = some x := by rw [List.getElem?_eq_getElem hkl, hx]
      have hqk : q[k]? = some y := by rw [List.getElem?_eq_getElem hkq, hy]
      have HK := Lib.hid (And.intro hlk hqk)
      have hA := Rd.addr HR.out (by rw [List.length_map]; omega)
      have hD := Rd.addr HD.out (by rw [List.length_map]; omega)
      obtain ⟨bA, oA, rfl⟩ := hA
      obtain ⟨bD, oD, rfl⟩ := hD
      have HX := Lib.hid (fun (w1 : World) (hb : From wr w1) => Rd.cell (P := Try.prog) (HR.out.from HF.out) hb ct3 (k := k) (cs := intRow x) (by simp [hlk]) (j := 0) (v := .int .i64 x) rfl (p := oA + k) (by omega))
      have HY := Lib.hid (fun (w1 : World) (hb : From wr w1) => Rd.cell (P := Try.prog) (HD.out.from HF.out) hb ct3 (k := k) (cs := intRow y) (by simp [hqk]) (j := 0) (v := .int .i64 y) rfl (p := oD + k) (by omega))
      clear hlk hqk hkl hkq hx hy
      by_cases hxy : x = y
      · have HS : Hid (l.take (k + 1) = q.take (k + 1)) := by
         unfold Hid
         rw [List.take_add_one, List.take_add_one, HT.out, HK.out.1, HK.out.2, hxy]
        go_wp2
        refine wp_region_run 9 [.val (Value.slice (some ⟨bA, oA, none⟩) n c), .val (Value.int .i64 ((k : Int))), .val (Value.pointer (some ⟨bA, oA + k, none⟩)), .val (Value.int .i64 (x)), .val (Value.slice (some ⟨bD, oD, none⟩) n d), .val (Value.int .i64 ((k : Int))), .val (Value.pointer (some ⟨bD, oD + k, none⟩)), .val (Value.int .i64 (y)), .val (Value.bool false)] (by kernel_rfl) (by kernel_rfl) (Nat.le_of_ble_eq_true (by kernel_rfl)) (by kernel_rfl) (by kernel_rfl) ?_ ?_ ?_
        · exact trivial
        · exact ⟨(fun _ _ => ok_move rfl), (fun _ _ => ok_move rfl), (fun _ _ => ok_index (k := k) rfl rfl el42 (hkn) (ptr1 _ _ _)), (fun w hb => ok_load rfl ((HX.out) w hb)), (fun _ _ => ok_move rfl), (fun _ _ => ok_move rfl), (fun _ _ => ok_index (k := k) rfl rfl el42 (hkn) (ptr1 _ _ _)), (fun w hb => ok_load rfl ((HY.out) w hb)), (fun _ _ => ok_cmp rfl rfl (congrArg some (bne_eq_false_iff_eq.2 (hxy))) rfl), trivial⟩
        intro w7 hb7
        simp only [contS, List.take_succ_cons, List.take_zero, List.drop_succ_cons, List.drop_zero]
        simp only [Act.put, List.setIfInBounds_toArray, List.set_cons_succ, List.set_cons_zero]
        have HF7 := Lib.hid (HF.out.trans (hb7.mono HF.out.size))
        clear hb7 hxy
        go_wp2
        go_roundw
        case rel => exact ⟨k + 1, by omega, by go_num, HS.out, HF7.out⟩
        case measure => simp [intOf]; omega
      · have HS : Hid (l ≠ q) := fun h => hxy (by
         have h1 := HK.out.1
         rw [h, HK.out.2] at h1
         injection h1 with h1
         exact h1.symm)
        go_wp2
        refine wp_region_run 9 [.val (Value.slice (some ⟨bA, oA, none⟩) n c), .val (Value.int .i64 ((k : Int))), .val (Value.pointer (some ⟨bA, oA + k, none⟩)), .val (Value.int .i64 (x)), .val (Value.slice (some ⟨bD, oD, none⟩) n d), .val (Value.int .i64 ((k : Int))), .val (Value.pointer (some ⟨bD, oD + k, none⟩)), .val (Value.int .i64 (y)), .val (Value.bool true)] (by kernel_rfl) (by kernel_rfl) (Nat.le_of_ble_eq_true (by kernel_rfl)) (by kernel_rfl) (by kernel_rfl) ?_ ?_ ?_
        · exact trivial
        · exact ⟨(fun _ _ => ok_move rfl), (fun _ _ => ok_move rfl), (fun _ _ => ok_index (k := k) rfl rfl el42 (hkn) (ptr1 _ _ _)), (fun w hb => ok_load rfl ((HX.out) w hb)), (fun _ _ => ok_move rfl), (fun _ _ => ok_move rfl), (fun _ _ => ok_index (k := k) rfl rfl el42 (hkn) (ptr1 _ _ _)), (fun w hb => ok_load rfl ((HY.out) w hb)), (fun _ _ => ok_cmp rfl rfl (congrArg some (bne_iff_ne.2 (hxy))) rfl), trivial⟩
        intro w7 hb7
        simp only [contS, List.take_succ_cons, List.take_zero, List.drop_succ_cons, List.drop_zero]
        simp only [Act.put, List.setIfInBounds_toArray, List.set_cons_succ, List.set_cons_zero]
        have HF7 := Lib.hid (HF.out.trans (hb7.mono HF.out.size))
        clear hb7 hxy
        go_wp2
        go_ret
        exact ⟨by rw [HRR.out, decide_eq_false HS.out]; rfl, HF7.out⟩
 · have HE : Hid (l ≠ q) := fun h => hnm (by rw [hn, hm, h])
   have hne : ((n : Int) != (m : Int)) = true := by simp; omega
   clear h h' hn hm
   go_enter Try.func34, Try.ntmps34
   go_wp2
   go_ret
   exact ⟨by rw [decide_eq_false HE.out]; rfl, Below.refl _ _⟩
theorem cf_add18 (w : World) (args : Array Value) : (callFunc 75 args).run Try.prog w = .ok (.enter 75 args) w := by
 go_simp
set_option maxRecDepth 100000 in
set_option maxHeartbeats 1000000 in
theorem r18_add (f g : FracV) (hf : f.fits) (hg : g.fits) (w : World) : Calls Try.prog 75 #[.agg f.cells.toArray, .agg g.cells.toArray] w fun e w' => e = .returned (.agg (addL f g).1.cells.toArray) ∧ From w w' := by
 have HM0 := Lib.hid (boxes01 f g w)
 obtain ⟨p, hp⟩ : ∃ p, p = addL f g := ⟨_, rfl⟩
 rw [← hp]
 have HR : Hid (∀ w1, Calls Try.prog 104 #[.agg f.cells.toArray, .agg g.cells.toArray] w1 fun e w' => e = .returned (.tuple #[.agg p.1.cells.toArray, .int .i64 p.2]) ∧ From w1 w') := by
  intro w1
  rw [hp]
  exact ref_Add f g hf hg w1
 clear hp hf hg
 go_enter Try.func75, Try.ntmps75
 go_wp2_with (first
  | ((with_reducible refine g_ld 91 ?_); refine wpList_ld rfl _ _ rfl _ rfl _ (HM0.out.ldb f01_row (FracV.cells_len _) (i := 2) rfl _ (Below.refl _ _)) ?_)
  | ((with_reducible refine g_ld 91 ?_); refine wpList_ld rfl _ _ rfl _ rfl _ (HM0.out.ldb f01_row (FracV.cells_len _) (i := 1) rfl _ (Below.refl _ _)) ?_)
  | (go_at_call 104; go_loud (refine (HR.out _).mono ?_); rintro e w3 ⟨rfl, hb⟩; have HM3 := Lib.hid ((HM0.out.call hb).alloc 91 zeroF.cells); clear hb HM0)
  | ((with_reducible refine g_st 91 ?_); refine wpList_stB (cs' := FracV.cells p.1) rfl _ _ rfl HM3.out 0 rfl rfl rfl f01_size rfl (FracV.cells_len _) (FracV.cells_len _) (FracV.ones _) ?_; intro w4 h4; have HM4 := Lib.hid h4; clear h4 HM3)
  | ((with_reducible refine g_ld 91 ?_); go_loud (refine wpList_ld rfl _ _ rfl _ rfl _ (HM4.out.ldb f01_row (FracV.cells_len _) (i := 0) rfl _ (Below.refl _ _)) ?_))
  | ((with_reducible refine g_st 91 ?_); go_loud (refine wpList_stB (cs' := FracV.cells p.1) rfl _ _ rfl HM4.out 1 rfl rfl rfl f01_size rfl (FracV.cells_len _) (FracV.cells_len _) (FracV.ones _) ?_); intro w6 h6))
 exact bodyPost_ret (results_box1 rfl _ rfl (h6.ldb f01_row (FracV.cells_len _) (i := 1) rfl _ (Below.refl _ _))) rfl ⟨rfl, h6.from_⟩
theorem cf_sub18 (w : World) (args : Array Value) : (callFunc 74 args).run Try.prog w = .ok (.enter 74 args) w := by
 go_simp
set_option maxRecDepth 100000 in
set_option maxHeartbeats 1000000 in
theorem r18_sub (f g : FracV) (hf : f.fits) (hg : g.fits) (w : World) : Calls Try.prog 74 #[.agg f.cells.toArray, .agg g.cells.toArray] w fun e w' => e = .returned (.agg (subL f g).1.cells.toArray) ∧ From w w' := by
 have HM0 := Lib.hid (boxes01 f g w)
 obtain ⟨p, hp⟩ : ∃ p, p = subL f g := ⟨_, rfl⟩
 rw [← hp]
 have HR : Hid (∀ w1, Calls Try.prog 103 #[.agg f.cells.toArray, .agg g.cells.toArray] w1 fun e w' => e = .returned (.tuple #[.agg p.1.cells.toArray, .int .i64 p.2]) ∧ From w1 w') := by
  intro w1
  rw [hp]
  exact ref_Sub f g hf hg w1
 clear hp hf hg
 go_enter Try.func74, Try.ntmps74
 go_wp2_with (first
  | ((with_reducible refine g_ld 91 ?_); refine wpList_ld rfl _ _ rfl _ rfl _ (HM0.out.ldb f01_row (FracV.cells_len _) (i := 2) rfl _ (Below.refl _ _)) ?_)
  | ((with_reducible refine g_ld 91 ?_); refine wpList_ld rfl _ _ rfl _ rfl _ (HM0.out.ldb f01_row (FracV.cells_len _) (i := 1) rfl _ (Below.refl _ _)) ?_)
  | (go_at_call 103; go_loud (refine (HR.out _).mono ?_); rintro e w3 ⟨rfl, hb⟩; have HM3 := Lib.hid ((HM0.out.call hb).alloc 91 zeroF.cells); clear hb HM0)
  | ((with_reducible refine g_st 91 ?_); refine wpList_stB (cs' := FracV.cells p.1) rfl _ _ rfl HM3.out 0 rfl rfl rfl f01_size rfl (FracV.cells_len _) (FracV.cells_len _) (FracV.ones _) ?_; intro w4 h4; have HM4 := Lib.hid h4; clear h4 HM3)
  | ((with_reducible refine g_ld 91 ?_); go_loud (refine wpList_ld rfl _ _ rfl _ rfl _ (HM4.out.ldb f01_row (FracV.cells_len _) (i := 0) rfl _ (Below.refl _ _)) ?_))
  | ((with_reducible refine g_st 91 ?_); go_loud (refine wpList_stB (cs' := FracV.cells p.1) rfl _ _ rfl HM4.out 1 rfl rfl rfl f01_size rfl (FracV.cells_len _) (FracV.cells_len _) (FracV.ones _) ?_); intro w6 h6))
 exact bodyPost_ret (results_box1 rfl _ rfl (h6.ldb f01_row (FracV.cells_len _) (i := 1) rfl _ (Below.refl _ _))) rfl ⟨rfl, h6.from_⟩
theorem cf_mul18 (w : World) (args : Array Value) : (callFunc 76 args).run Try.prog w = .ok (.enter 76 args) w := by
 go_simp
set_option maxRecDepth 100000 in
set_option maxHeartbeats 1000000 in
theorem r18_mul (f g : FracV) (hf : f.fits) (hg : g.fits) (w : World) : Calls Try.prog 76 #[.agg f.cells.toArray, .agg g.cells.toArray] w fun e w' => e = .returned (.agg (mulL f g).1.cells.toArray) ∧ From w w' := by
 have HM0 := Lib.hid (boxes01 f g w)
 obtain ⟨p, hp⟩ : ∃ p, p = mulL f g := ⟨_, rfl⟩
 rw [← hp]
 have HR : Hid (∀ w1, Calls Try.prog 105 #[.agg f.cells.toArray, .agg g.cells.toArray] w1 fun e w' => e = .returned (.tuple #[.agg p.1.cells.toArray, .int .i64 p.2]) ∧ From w1 w') := by
  intro w1
  rw [hp]
  exact ref_Mul f g hf hg w1
 clear hp hf hg
 go_enter Try.func76, Try.ntmps76
 go_wp2_with (first
  | ((with_reducible refine g_ld 91 ?_); refine wpList_ld rfl _ _ rfl _ rfl _ (HM0.out.ldb f01_row (FracV.cells_len _) (i := 2) rfl _ (Below.refl _ _)) ?_)
  | ((with_reducible refine g_ld 91 ?_); refine wpList_ld rfl _ _ rfl _ rfl _ (HM0.out.ldb f01_row (FracV.cells_len _) (i := 1) rfl _ (Below.refl _ _)) ?_)
  | (go_at_call 105; go_loud (refine (HR.out _).mono ?_); rintro e w3 ⟨rfl, hb⟩; have HM3 := Lib.hid ((HM0.out.call hb).alloc 91 zeroF.cells); clear hb HM0)
  | ((with_reducible refine g_st 91 ?_); refine wpList_stB (cs' := FracV.cells p.1) rfl _ _ rfl HM3.out 0 rfl rfl rfl f01_size rfl (FracV.cells_len _) (FracV.cells_len _) (FracV.ones _) ?_; intro w4 h4; have HM4 := Lib.hid h4; clear h4 HM3)
  | ((with_reducible refine g_ld 91 ?_); go_loud (refine wpList_ld rfl _ _ rfl _ rfl _ (HM4.out.ldb f01_row (FracV.cells_len _) (i := 0) rfl _ (Below.refl _ _)) ?_))
  | ((with_reducible refine g_st 91 ?_); go_loud (refine wpList_stB (cs' := FracV.cells p.1) rfl _ _ rfl HM4.out 1 rfl rfl rfl f01_size rfl (FracV.cells_len _) (FracV.cells_len _) (FracV.ones _) ?_); intro w6 h6))
 exact bodyPost_ret (results_box1 rfl _ rfl (h6.ldb f01_row (FracV.cells_len _) (i := 1) rfl _ (Below.refl _ _))) rfl ⟨rfl, h6.from_⟩
theorem cf_div18 (w : World) (args : Array Value) : (callFunc 101 args).run Try.prog w = .ok (.enter 101 args) w := by
 go_simp
set_option maxRecDepth 100000 in
set_option maxHeartbeats 1000000 in
theorem r18_div (f g : FracV) (hf : f.fits) (hg : g.fits) (w : World) : Calls Try.prog 101 #[.agg f.cells.toArray, .agg g.cells.toArray] w fun e w' => e = .returned (.agg (divL f g).1.cells.toArray) ∧ From w w' := by
 have HM0 := Lib.hid (boxes01 f g w)
 obtain ⟨p, hp⟩ : ∃ p, p = divL f g := ⟨_, rfl⟩
 rw [← hp]
 have HR : Hid (∀ w1, Calls Try.prog 119 #[.agg f.cells.toArray, .agg g.cells.toArray] w1 fun e w' => e = .returned (.tuple #[.agg p.1.cells.toArray, .int .i64 p.2]) ∧ From w1 w') := by
  intro w1
  rw [hp]
  exact ref_Div f g hf hg w1
 clear hp hf hg
 go_enter Try.func101, Try.ntmps101
 go_wp2_with (first
  | ((with_reducible refine g_ld 91 ?_); refine wpList_ld rfl _ _ rfl _ rfl _ (HM0.out.ldb f01_row (FracV.cells_len _) (i := 2) rfl _ (Below.refl _ _)) ?_)
  | ((with_reducible refine g_ld 91 ?_); refine wpList_ld rfl _ _ rfl _ rfl _ (HM0.out.ldb f01_row (FracV.cells_len _) (i := 1) rfl _ (Below.refl _ _)) ?_)
  | (go_at_call 119; go_loud (refine (HR.out _).mono ?_); rintro e w3 ⟨rfl, hb⟩; have HM3 := Lib.hid ((HM0.out.call hb).alloc 91 zeroF.cells); clear hb HM0)
  | ((with_reducible refine g_st 91 ?_); refine wpList_stB (cs' := FracV.cells p.1) rfl _ _ rfl HM3.out 0 rfl rfl rfl f01_size rfl (FracV.cells_len _) (FracV.cells_len _) (FracV.ones _) ?_; intro w4 h4; have HM4 := Lib.hid h4; clear h4 HM3)
  | ((with_reducible refine g_ld 91 ?_); go_loud (refine wpList_ld rfl _ _ rfl _ rfl _ (HM4.out.ldb f01_row (FracV.cells_len _) (i := 0) rfl _ (Below.refl _ _)) ?_))
  | ((with_reducible refine g_st 91 ?_); go_loud (refine wpList_stB (cs' := FracV.cells p.1) rfl _ _ rfl HM4.out 1 rfl rfl rfl f01_size rfl (FracV.cells_len _) (FracV.cells_len _) (FracV.ones _) ?_); intro w6 h6))
 exact bodyPost_ret (results_box1 rfl _ rfl (h6.ldb f01_row (FracV.cells_len _) (i := 1) rfl _ (Below.refl _ _))) rfl ⟨rfl, h6.from_⟩
def midV (l : List Frm) (i : Nat) : FracV := (divL (ofL (frmX l i + frmX l (i + 1))) (ofL 2)).1
theorem midV_fits (l : List Frm) (i : Nat) : (midV l i).fits := divL_fits _ _
theorem cf_middle18 (w : World) (args : Array Value) : (callFunc 77 args).run Try.prog w = .ok (.enter 77 args) w := by
 go_simp
set_option maxRecDepth 100000 in
set_option maxHeartbeats 1000000 in
theorem r18_middle (A : Option Addr) (c n i : Nat) (l : List Frm) (hn : n = l.length) (hi : i + 1 < n) (hok : ∀ f ∈ l, f.ok = true) (w : World) (h : Rd w w.heap.size 5 A (l.map Frm.cells)) (hl : l.length ≤ 1000000) :
 Calls Try.prog 77 #[.slice A n c, .int .i64 (i : Int)] w fun e w' => e = .returned (.agg (midV l i).cells.toArray) ∧ From w w' := by
 obtain ⟨bA, oA, rfl⟩ := Rd.addr h (by rw [List.length_map]; omega)
 have h0 : l[i]? = some (l.getD i frm0) := by rw [List.getD_eq_getElem?_getD, List.getElem?_eq_getElem (by omega)]; rfl
 have h1 : l[i + 1]? = some (l.getD (i + 1) frm0) := by rw [List.getD_eq_getElem?_getD, List.getElem?_eq_getElem (by omega)]; rfl
 have b0 := (Frm.ok_nums (hok _ (List.mem_of_getElem? h0))).1
 have b1 := (Frm.ok_nums (hok _ (List.mem_of_getElem? h1))).1
 obtain ⟨x, hx⟩ : ∃ x, x = (l.getD i frm0).x := ⟨_, rfl⟩
 obtain ⟨y, hy⟩ : ∃ y, y = (l.getD (i + 1) frm0).x := ⟨_, rfl⟩
 rw [← hx] at b0
 rw [← hy] at b1
 obtain ⟨s, hs⟩ : ∃ s, s = x + y := ⟨_, rfl⟩
 have hm : midV l i = (divL (ofL s) (ofL 2)).1 := by rw [hs, hx, hy]; rfl
 have ws : IntKind.i64.wrap (x + y) = s := by rw [wrap_i64 (by omega) (by omega)]; exact hs.symm
 have wi : IntKind.i64.wrap ((i : Int) + 1) = ((i + 1 : Nat) : Int) := by rw [wrap_i64 (by omega) (by omega)]; omega
 have hi1 : (i : Int) < (n : Int) := by omega
 have hi2 : ((i + 1 : Nat) : Int) < (n : Int) := by omega
 have hsb : -1000000 ≤ s ∧ s ≤ 1000000 := by omega
 have HO1 := Lib.hid (r18_of s (by omega) (by omega))
 have HO2 := Lib.hid (r18_of 2 (by decide) (by decide))
 have HD := Lib.hid (r18_div (ofL s) (ofL 2) (ofL_fits ⟨by omega, by omega⟩) (ofL_fits ⟨by decide, by decide⟩))
 rw [← hm] at HD
 have HM0 := Lib.hid ((Mem.nil w).alloc 91 zeroF.cells)
 have HX := Lib.hid (fun (w1 : World) (hb : From (w.alloc (.cells zeroF.cells.toArray 91)) w1) => Rd.cell (P := Try.prog) (h.from HM0.out.from_) hb ct3 (k := i) (cs := (l.getD i frm0).cells) (by rw [List.getElem?_map, h0]; rfl) (j := 0) (v := .int .i64 x) (by rw [hx]; rfl) (p := oA + i * 5) rfl)
 have HY := Lib.hid (fun (w1 : World) (hb : From (w.alloc (.cells zeroF.cells.toArray 91)) w1) => Rd.cell (P := Try.prog) (h.from HM0.out.from_) hb ct3 (k := i + 1) (cs := (l.getD (i + 1) frm0).cells) (by rw [List.getElem?_map, h1]; rfl) (j := 0) (v := .int .i64 y) (by rw [hy]; rfl) (p := oA + (i + 1) * 5) rfl)
 clear h0 h1 b0 b1 hx hy hs hm hsb hok h hn hl
 go_enter Try.func77, Try.ntmps77
 go_wp2
 refine wp_region_run 15 [.val (Value.slice (some ⟨bA, oA, none⟩) n c), .val (Value.int .i64 ((i : Int))), .val (Value.pointer (some ⟨bA, oA + i * 5, none⟩)), .val (Value.pointer (some ⟨bA, oA + i * 5, none⟩)), .val (Value.int .i64 (x)), .val (Value.slice (some ⟨bA, oA, none⟩) n c), .val (Value.int .i64 ((i : Int))), .val (Value.int .i64 (((i + 1 : Nat) : Int))), .val (Value.pointer (some ⟨bA, oA + (i + 1) * 5, none⟩)), .val (Value.pointer (some ⟨bA, oA + (i + 1) * 5, none⟩)), .val (Value.int .i64 (y)), .val (Value.int .i64 (s)), .call (Value.agg (ofL s).cells.toArray), .call (Value.agg (ofL 2).cells.toArray), .call (Value.agg (midV l i).cells.toArray)] (by kernel_rfl) (by kernel_rfl) (Nat.le_of_ble_eq_true (by kernel_rfl)) (by kernel_rfl) (by kernel_rfl) ?_ ?_ ?_
 · exact trivial
 · exact ⟨(fun _ _ => ok_move rfl), (fun _ _ => ok_move rfl), (fun _ _ => ok_index (k := i) rfl rfl el22 (hi1) (rfl)), (fun _ _ => ok_field (k := 0) rfl fl44_0 rfl), (fun w hb => ok_load rfl ((HX.out) w hb)), (fun _ _ => ok_move rfl), (fun _ _ => ok_move rfl), (fun _ _ => ok_add rfl rfl (wi) rfl), (fun _ _ => ok_index (k := (i + 1)) rfl rfl el22 (hi2) (rfl)), (fun _ _ => ok_field (k := 0) rfl fl44_0 rfl), (fun w hb => ok_load rfl ((HY.out) w hb)), (fun _ _ => ok_add rfl rfl (ws) rfl), (fun w hb => ok_call rfl rfl (cf_of18 _ _) (HO1.out w)), (fun w hb => ok_call rfl rfl (cf_of18 _ _) (HO2.out w)), (fun w hb => ok_call rfl rfl (cf_div18 _ _) (HD.out w)), trivial⟩
 intro w7 hb7
 simp only [contS, List.take_succ_cons, List.take_zero, List.drop_succ_cons, List.drop_zero]
 simp only [Act.put, List.setIfInBounds_toArray, List.set_cons_succ, List.set_cons_zero]
 have HM7 := Lib.hid (HM0.out.call hb7)
 clear hb7 HM0
 go_wp2_with ((with_reducible refine g_st 91 ?_); go_loud (refine wpList_stB (cs' := FracV.cells (midV l i)) rfl _ _ rfl HM7.out 0 rfl rfl rfl f01_size rfl (FracV.cells_len _) (FracV.cells_len _) (FracV.ones _) ?_); intro w6 h6)
 exact bodyPost_ret (results_box1 rfl _ rfl (h6.ldb f01_row (FracV.cells_len _) (i := 0) rfl _ (Below.refl _ _))) rfl ⟨rfl, h6.from_⟩
def frmL (l : List Frm) (i : Nat) : Int := (l.getD i frm0).light
def wt0 : Wt := ⟨0, 0⟩
def hullW (l : List Frm) : Nat → Int
 | 0 => 0
 | i + 1 => hullW l i + frmL l i
def hullM (l : List Frm) : Nat → FracV
 | 0 => ofL 0
 | i + 1 => (addL (hullM l i) (mulL (ofL (frmL l i)) (midV l i)).1).1
def loadW (a : Int) (ws : List Wt) : Nat → Int
 | 0 => a
 | i + 1 => loadW a ws i + (ws.getD i wt0).kilos
def loadM (m : FracV) (ws : List Wt) : Nat → FracV
 | 0 => m
 | i + 1 => (addL (loadM m ws i) (mulL (ofL (ws.getD i wt0).kilos) (ofL (ws.getD i wt0).x)).1).1
def totW (l : List Frm) (ws : List Wt) : Int := loadW (hullW l (l.length - 1)) ws ws.length
def totM (l : List Frm) (ws : List Wt) : FracV := loadM (hullM l (l.length - 1)) ws ws.length
theorem ofL_fits' {n : Int} (h : n.natAbs ≤ 9223372036854775807) : (ofL n).fits := ofL_fits ⟨by omega, by omega⟩
theorem hullM_fits (l : List Frm) : ∀ i, (hullM l i).fits
 | 0 => ofL_fits' (by decide)
 | _ + 1 => addL_fits _ _
theorem loadM_fits {m : FracV} (ws : List Wt) (h : m.fits) : ∀ i, (loadM m ws i).fits
 | 0 => h
 | _ + 1 => addL_fits _ _
theorem getD_some {α : Type} {l : List α} {i : Nat} (a : α) (h : i < l.length) : l[i]? = some (l.getD i a) := by
 rw [List.getD_eq_getElem?_getD, List.getElem?_eq_getElem h]
 rfl
theorem hullW_bound {l : List Frm} (hok : ∀ f ∈ l, f.ok = true) : ∀ i, i ≤ l.length → 0 ≤ hullW l i ∧ hullW l i ≤ 500000000 * (i : Int)
 | 0, _ => by unfold hullW; omega
 | i + 1, h => by
  have ih := hullW_bound hok i (by omega)
  have h1 := (Frm.ok_nums (hok _ (List.mem_of_getElem? (getD_some frm0 (show i < l.length by omega))))).2.1
  unfold hullW frmL
  omega
theorem loadW_bound {ws : List Wt} {a : Int} (hok : ∀ x ∈ ws, 0 ≤ x.kilos ∧ x.kilos ≤ 500000000) : ∀ i, i ≤ ws.length → a ≤ loadW a ws i ∧ loadW a ws i ≤ a + 500000000 * (i : Int)
 | 0, _ => by unfold loadW; omega
 | i + 1, h => by
  have ih := loadW_bound (a := a) hok i (by omega)
  have h1 := hok _ (List.mem_of_getElem? (getD_some wt0 (show i < ws.length by omega)))
  unfold loadW
  omega
theorem results_tmp_box {P : Program} {fn : Func} {p t : Tmp} {T g : Nat} {w : World} {cs : List Value} (h : fn.results = #[.tmp t, .cell p T]) (tmps : Array Value) (hp : tmps.getD p undef = .pointer (some ⟨g, 0, none⟩)) (hl : (loadVar T ⟨g, 0, none⟩).run P w = .ok (.agg cs.toArray) w) :
 (results fn tmps).run P w = .ok (.tuple #[tmps.getD t undef, .agg cs.toArray]) w := by
 have hp' : tmps[p]?.getD undef = .pointer (some ⟨g, 0, none⟩) := by simpa using hp
 simp [results, h, hp', asAddr, hl]
set_option maxRecDepth 100000 in
set_option maxHeartbeats 2000000 in
theorem r18_total (A D : Option Addr) (c d n m : Nat) (l : List Frm) (ws : List Wt) (hn : n = l.length) (hm : m = ws.length) (w : World) (h : Rd w w.heap.size 5 A (l.map Frm.cells)) (h' : Rd w w.heap.size 2 D (ws.map Wt.cells)) (hn3 : 3 ≤ n ∧ n ≤ 30) (hm3 : m ≤ 3000) (hok : ∀ f ∈ l, f.ok = true) (hwk : ∀ x ∈ ws, (0 ≤ x.kilos ∧ x.kilos ≤ 500000000) ∧ (-500000 ≤ x.x ∧ x.x ≤ 500000)) :
 Calls Try.prog 71 #[.slice A n c, .slice D m d] w fun e w' => e = .returned (.tuple #[.int .i64 (totW l ws), .agg (totM l ws).cells.toArray]) ∧ From w w' := by
 obtain ⟨bA, oA, rfl⟩ := Rd.addr h (by rw [List.length_map]; omega)
 have HR := Lib.hid h
 have HD := Lib.hid h'
 have HN := Lib.hid (And.intro hn hm)
 have HOK := Lib.hid hok
 have HWK := Lib.hid hwk
 have HMI := Lib.hid (fun (i : Nat) (hi : i + 1 < n) (w1 : World) (hb : From w w1) => r18_middle (some ⟨bA, oA, none⟩) c n i l hn hi hok w1 (h.from hb) (by omega))
 have HTW : Hid (totW l ws = loadW (hullW l (n - 1)) ws m) := by unfold Hid totW; rw [← hn, ← hm]
 have HTM : Hid (totM l ws = loadM (hullM l (n - 1)) ws m) := by unfold Hid totM; rw [← hn, ← hm]
 obtain ⟨tw, htw⟩ : ∃ t, t = totW l ws := ⟨_, rfl⟩
 obtain ⟨tm, htm⟩ : ∃ t, t = totM l ws := ⟨_, rfl⟩
 rw [← htw, ← htm]
 rw [← htw] at HTW
 rw [← htm] at HTM
 have HZ := Lib.hid (r18_of 0 (by decide) (by decide))
 have HM0 := Lib.hid ((Mem.nil w).alloc 91 zeroF.cells)
 have hn1 : 3 ≤ n := hn3.1
 have hn2 : n ≤ 30 := hn3.2
 clear h h' hn hm hok hwk htw htm hn3
 go_enter Try.func71, Try.ntmps71
 go_wp2_with (first
  | (go_at_call 73; go_loud (refine (HZ.out _).mono ?_); rintro e w3 ⟨rfl, hb⟩; have HM3 := Lib.hid ((HM0.out.call hb).alloc 91 zeroF.cells); clear hb HM0 HZ)
  | ((with_reducible refine g_st 91 ?_); go_loud (refine wpList_stB (cs' := FracV.cells (ofL 0)) rfl _ _ rfl HM3.out 0 rfl rfl rfl f01_size rfl (FracV.cells_len _) (FracV.cells_len _) (FracV.ones _) ?_); intro w4 h4; have HM4 := Lib.hid h4; clear h4 HM3))
 go_loopw [6, 8] (fun v6 v8 wq => ∃ i : Nat, i + 1 ≤ n ∧ v8 = .int .i64 (i : Int) ∧ v6 = .int .i64 (hullW l i) ∧ Mem w wq [.box w3.heap.size 91 (hullM l i).cells, .box w.heap.size 91 zeroF.cells]) (fun _ v _ => n - (intOf v).toNat)
 case atStart => exact ⟨0, by omega, rfl, rfl, HM4.out⟩
 case round =>
  clear HM4
  obtain ⟨i, hi, rfl, rfl, hmem⟩ := hrel
  have HM5 := Lib.hid hmem
  have wi : IntKind.i64.wrap ((i : Int) + 1) = ((i + 1 : Nat) : Int) := by rw [wrap_i64 (by omega) (by omega)]; omega
  have wi2 : IntKind.i64.wrap ((i : Int) + 1) = (i : Int) + 1 := by rw [wrap_i64 (by omega) (by omega)]
  clear hmem
  have hhb := hullW_bound HOK.out i (by rw [← HN.out.1]; omega)
  obtain ⟨a, ha⟩ : ∃ a, a = hullW l i := ⟨_, rfl⟩
  obtain ⟨M, hM⟩ : ∃ M, M = hullM l i := ⟨_, rfl⟩
  rw [← ha] at hhb ⊢
  rw [← hM] at HM5
  have HA := Lib.hid (And.intro ha hM)
  have HMF : Hid (M.fits) := by unfold Hid; rw [hM]; exact hullM_fits l i
  clear ha hM
  by_cases hin : i + 1 = n
  · have hlt : ¬ (i : Int) + 1 < (n : Int) := by omega
    have HE : Hid (hullW l (n - 1) = a ∧ hullM l (n - 1) = M) := by
     unfold Hid
     rw [show n - 1 = i by omega]
     exact ⟨HA.out.1.symm, HA.out.2.symm⟩
    rw [HE.out.1] at HTW
    rw [HE.out.2] at HTM
    have ha0 : 0 ≤ a ∧ a ≤ 15000000000 := by omega
    clear hin hi hhb HE HA wi
    go_wp2
    go_loopw [6, 9] (fun v6 v9 wq => ∃ k : Nat, k ≤ m ∧ v9 = .int .i64 (k : Int) ∧ v6 = .int .i64 (loadW a ws k) ∧ Mem w wq [.box w3.heap.size 91 (loadM M ws k).cells, .box w.heap.size 91 zeroF.cells]) (fun _ v _ => m - (intOf v).toNat)
    case atStart => exact ⟨0, Nat.zero_le _, rfl, rfl, HM5.out⟩
    case round =>
     clear HM5
     obtain ⟨k, hk, rfl, rfl, hmem⟩ := hrel
     have HM6 := Lib.hid hmem
     clear hmem
     have hlb := loadW_bound (a := a) (fun x hx => (HWK.out x hx).1) k (by rw [← HN.out.2]; exact hk)
     obtain ⟨b, hb⟩ : ∃ b, b = loadW a ws k := ⟨_, rfl⟩
     obtain ⟨L, hL⟩ : ∃ L, L = loadM M ws k := ⟨_, rfl⟩
     rw [← hb] at hlb ⊢
     rw [← hL] at HM6
     have HB := Lib.hid (And.intro hb hL)
     have HLF : Hid (L.fits) := by unfold Hid; rw [hL]; exact loadM_fits ws HMF.out k
     clear hb hL
     by_cases hkm : k = m
     · have hlt2 : ¬ (k : Int) < (m : Int) := by omega
       have HE : Hid (tw = b ∧ tm = L) := by
        unfold Hid
        rw [HTW.out, HTM.out, HB.out.1, HB.out.2, hkm]
        exact ⟨rfl, rfl⟩
       have HLL := Lib.hid (HM6.out.ldb f01_row (FracV.cells_len _) (i := 0) rfl)
       clear hkm hk hlb
       go_wp2
       refine wp_region_run 3 [.val (Value.int .i64 (b)), .val (Value.agg L.cells.toArray), .val (Value.int .i64 (b))] (by kernel_rfl) (by kernel_rfl) (Nat.le_of_ble_eq_true (by kernel_rfl)) (by kernel_rfl) (by kernel_rfl) ?_ ?_ ?_
       · exact trivial
       · exact ⟨(fun _ _ => ok_move rfl), (fun w hb => ok_load rfl ((HLL.out) w hb)), (fun _ _ => ok_assign rfl), trivial⟩
       intro w7 hb7
       simp only [contS, List.take_succ_cons, List.take_zero, List.drop_succ_cons, List.drop_zero]
       simp only [Act.put, List.setIfInBounds_toArray, List.set_cons_succ, List.set_cons_zero]
       have HM7 := Lib.hid (HM6.out.call hb7)
       clear hb7 HM6
       go_wp2_with ((with_reducible refine g_st 91 ?_); go_loud (refine wpList_stB (cs' := FracV.cells L) rfl _ _ rfl HM7.out 1 rfl rfl rfl f01_size rfl (FracV.cells_len _) (FracV.cells_len _) (FracV.ones _) ?_); intro w8 h8)
       refine bodyPost_ret (results_tmp_box rfl _ rfl (h8.ldb f01_row (FracV.cells_len _) (i := 1) rfl _ (Below.refl _ _))) rfl ⟨?_, h8.from_⟩
       rw [HE.out.1, HE.out.2]
       rfl
     · have hkm2 : (k : Int) < (m : Int) := by omega
       have hkl : k < ws.length := by rw [← HN.out.2]; omega
       obtain ⟨bD, oD, rfl⟩ := Rd.addr HD.out (by rw [List.length_map]; omega)
       have hsk := getD_some wt0 hkl
       obtain ⟨x, hx⟩ : ∃ x, x = ws.getD k wt0 := ⟨_, rfl⟩
       rw [← hx] at hsk
       have hxo := HWK.out x (List.mem_of_getElem? hsk)
       have wb : IntKind.i64.wrap (b + x.kilos) = b + x.kilos := wrap_i64 (by omega) (by omega)
       have wk : IntKind.i64.wrap ((k : Int) + 1) = (k : Int) + 1 := wrap_i64 (by omega) (by omega)
       have HKI := Lib.hid (fun (w1 : World) (hb : From wr w1) => Rd.cell (P := Try.prog) (HD.out.from HM6.out.from_) hb ct3 (k := k) (cs := x.cells) (by rw [List.getElem?_map, hsk]; rfl) (j := 1) (v := .int .i64 x.kilos) rfl (p := oD + k * 2 + 1) rfl)
       have HXI := Lib.hid (fun (w1 : World) (hb : From wr w1) => Rd.cell (P := Try.prog) (HD.out.from HM6.out.from_) hb ct3 (k := k) (cs := x.cells) (by rw [List.getElem?_map, hsk]; rfl) (j := 0) (v := .int .i64 x.x) rfl (p := oD + k * 2) rfl)
       have HLL := Lib.hid (HM6.out.ldb f01_row (FracV.cells_len _) (i := 0) rfl)
       have HO1 := Lib.hid (r18_of x.kilos (by omega) (by omega))
       have HO2 := Lib.hid (r18_of x.x (by omega) (by omega))
       have HMU := Lib.hid (r18_mul (ofL x.kilos) (ofL x.x) (ofL_fits ⟨by omega, by omega⟩) (ofL_fits ⟨by omega, by omega⟩))
       have HAD := Lib.hid (r18_add L (mulL (ofL x.kilos) (ofL x.x)).1 HLF.out (mulL_fits _ _))
       have HST : Hid (loadW a ws (k + 1) = b + x.kilos ∧ loadM M ws (k + 1) = (addL L (mulL (ofL x.kilos) (ofL x.x)).1).1) := by
        unfold Hid
        rw [hx, HB.out.1, HB.out.2]
        exact ⟨rfl, rfl⟩
       clear hkm hkl hsk hx hxo hlb
       go_wp2_with ((with_reducible refine g_ld 3 ?_); go_loud (refine wpList_ld rfl _ _ rfl _ rfl _ (HKI.out _ (Below.refl _ _)) ?_))
       refine wp_region_run 15 [.val (Value.agg L.cells.toArray), .val (Value.slice (some ⟨bD, oD, none⟩) m d), .val (Value.int .i64 ((k : Int))), .val (Value.pointer (some ⟨bD, oD + k * 2, none⟩)), .val (Value.pointer (some ⟨bD, oD + k * 2 + 1, none⟩)), .val (Value.int .i64 (x.kilos)), .call (Value.agg (ofL x.kilos).cells.toArray), .val (Value.slice (some ⟨bD, oD, none⟩) m d), .val (Value.int .i64 ((k : Int))), .val (Value.pointer (some ⟨bD, oD + k * 2, none⟩)), .val (Value.pointer (some ⟨bD, oD + k * 2, none⟩)), .val (Value.int .i64 (x.x)), .call (Value.agg (ofL x.x).cells.toArray), .call (Value.agg (mulL (ofL x.kilos) (ofL x.x)).1.cells.toArray), .call (Value.agg (addL L (mulL (ofL x.kilos) (ofL x.x)).1).1.cells.toArray)] (by kernel_rfl) (by kernel_rfl) (Nat.le_of_ble_eq_true (by kernel_rfl)) (by kernel_rfl) (by kernel_rfl) ?_ ?_ ?_
       · exact trivial
       · exact ⟨(fun w hb => ok_load rfl ((HLL.out) w hb)), (fun _ _ => ok_move rfl), (fun _ _ => ok_move rfl), (fun _ _ => ok_index (k := k) rfl rfl el78 (hkm2) (rfl)), (fun _ _ => ok_field (k := 1) rfl fl79_1 rfl), (fun w hb => ok_load rfl ((HKI.out) w hb)), (fun w hb => ok_call rfl rfl (cf_of18 _ _) (HO1.out w)), (fun _ _ => ok_move rfl), (fun _ _ => ok_move rfl), (fun _ _ => ok_index (k := k) rfl rfl el78 (hkm2) (rfl)), (fun _ _ => ok_field (k := 0) rfl fl79_0 rfl), (fun w hb => ok_load rfl ((HXI.out) w hb)), (fun w hb => ok_call rfl rfl (cf_of18 _ _) (HO2.out w)), (fun w hb => ok_call rfl rfl (cf_mul18 _ _) (HMU.out w)), (fun w hb => ok_call rfl rfl (cf_add18 _ _) (HAD.out w)), trivial⟩
       intro w7 hb7
       simp only [contS, List.take_succ_cons, List.take_zero, List.drop_succ_cons, List.drop_zero]
       simp only [Act.put, List.setIfInBounds_toArray, List.set_cons_succ, List.set_cons_zero]
       have HM7 := Lib.hid (HM6.out.call hb7)
       clear hb7 HM6
       go_wp2_with ((with_reducible refine g_st 91 ?_); go_loud (refine wpList_stB (cs' := FracV.cells (addL L (mulL (ofL x.kilos) (ofL x.x)).1).1) rfl _ _ rfl HM7.out 0 rfl rfl rfl f01_size rfl (FracV.cells_len _) (FracV.cells_len _) (FracV.ones _) ?_); intro w8 h8; have HM8 := Lib.hid h8; clear h8)
       go_roundw
       case rel => exact ⟨k + 1, by omega, by go_num, by rw [HST.out.1], by rw [HST.out.2]; exact HM8.out⟩
       case measure => simp [intOf]; omega
  · have hlt : (i : Int) + 1 < (n : Int) := by omega
    have hi1 : (i : Int) < (n : Int) := by omega
    have hil : i < l.length := by rw [← HN.out.1]; omega
    have hsi := getD_some frm0 hil
    obtain ⟨x, hx⟩ : ∃ x, x = l.getD i frm0 := ⟨_, rfl⟩
    rw [← hx] at hsi
    have hxo := Frm.ok_nums (HOK.out x (List.mem_of_getElem? hsi))
    have wa : IntKind.i64.wrap (a + x.light) = a + x.light := wrap_i64 (by omega) (by omega)
    have HLI := Lib.hid (fun (w1 : World) (hb : From wr w1) => Rd.cell (P := Try.prog) (HR.out.from HM5.out.from_) hb ct3 (k := i) (cs := x.cells) (by rw [List.getElem?_map, hsi]; rfl) (j := 1) (v := .int .i64 x.light) rfl (p := oA + i * 5 + 1) rfl)
    have HLL := Lib.hid (HM5.out.ldb f01_row (FracV.cells_len _) (i := 0) rfl)
    have HO1 := Lib.hid (r18_of x.light (by omega) (by omega))
    have HMD := Lib.hid (fun (w1 : World) (hb : From wr w1) => HMI.out i (by omega) w1 (HM5.out.from_.trans (hb.mono HM5.out.from_.size)))
    have HMU := Lib.hid (r18_mul (ofL x.light) (midV l i) (ofL_fits ⟨by omega, by omega⟩) (midV_fits l i))
    have HAD := Lib.hid (r18_add M (mulL (ofL x.light) (midV l i)).1 HMF.out (mulL_fits _ _))
    have HST : Hid (hullW l (i + 1) = a + x.light ∧ hullM l (i + 1) = (addL M (mulL (ofL x.light) (midV l i)).1).1) := by
     unfold Hid
     rw [hx, HA.out.1, HA.out.2]
     exact ⟨rfl, rfl⟩
    clear hin hil hsi hx hxo hhb wi
    go_wp2_with ((with_reducible refine g_ld 3 ?_); go_loud (refine wpList_ld rfl _ _ rfl _ rfl _ (HLI.out _ (Below.refl _ _)) ?_))
    refine wp_region_run 12 [.val (Value.agg M.cells.toArray), .val (Value.slice (some ⟨bA, oA, none⟩) n c), .val (Value.int .i64 ((i : Int))), .val (Value.pointer (some ⟨bA, oA + i * 5, none⟩)), .val (Value.pointer (some ⟨bA, oA + i * 5 + 1, none⟩)), .val (Value.int .i64 (x.light)), .call (Value.agg (ofL x.light).cells.toArray), .val (Value.slice (some ⟨bA, oA, none⟩) n c), .val (Value.int .i64 ((i : Int))), .call (Value.agg (midV l i).cells.toArray), .call (Value.agg (mulL (ofL x.light) (midV l i)).1.cells.toArray), .call (Value.agg (addL M (mulL (ofL x.light) (midV l i)).1).1.cells.toArray)] (by kernel_rfl) (by kernel_rfl) (Nat.le_of_ble_eq_true (by kernel_rfl)) (by kernel_rfl) (by kernel_rfl) ?_ ?_ ?_
    · exact trivial
    · exact ⟨(fun w hb => ok_load rfl ((HLL.out) w hb)), (fun _ _ => ok_move rfl), (fun _ _ => ok_move rfl), (fun _ _ => ok_index (k := i) rfl rfl el22 (hi1) (rfl)), (fun _ _ => ok_field (k := 1) rfl fl44_1 rfl), (fun w hb => ok_load rfl ((HLI.out) w hb)), (fun w hb => ok_call rfl rfl (cf_of18 _ _) (HO1.out w)), (fun _ _ => ok_move rfl), (fun _ _ => ok_move rfl), (fun w hb => ok_call rfl rfl (cf_middle18 _ _) (HMD.out w hb)), (fun w hb => ok_call rfl rfl (cf_mul18 _ _) (HMU.out w)), (fun w hb => ok_call rfl rfl (cf_add18 _ _) (HAD.out w)), trivial⟩
    intro w7 hb7
    simp only [contS, List.take_succ_cons, List.take_zero, List.drop_succ_cons, List.drop_zero]
    simp only [Act.put, List.setIfInBounds_toArray, List.set_cons_succ, List.set_cons_zero]
    have HM7 := Lib.hid (HM5.out.call hb7)
    clear hb7 HM5
    go_wp2_with ((with_reducible refine g_st 91 ?_); go_loud (refine wpList_stB (cs' := FracV.cells (addL M (mulL (ofL x.light) (midV l i)).1).1) rfl _ _ rfl HM7.out 0 rfl rfl rfl f01_size rfl (FracV.cells_len _) (FracV.cells_len _) (FracV.ones _) ?_); intro w8 h8; have HM8 := Lib.hid h8; clear h8)
    go_roundw
    case rel => exact ⟨i + 1, by omega, by go_num, by rw [HST.out.1], by rw [HST.out.2]; exact HM8.out⟩
    case measure => simp [intOf]; omega
end Go.Proofs.Ytcdfnlgimbecgaa
