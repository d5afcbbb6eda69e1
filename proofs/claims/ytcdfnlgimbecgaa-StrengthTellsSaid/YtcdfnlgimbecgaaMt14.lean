/-
  frac: turned.
-/
import Derived.Test.YtcdfnlgimbecgaaMt13
namespace Go.Proofs.Ytcdfnlgimbecgaa
open Go.RowKit
theorem bool_size : (Try.prog.info? 4).map (·.size) = some 1 := by kernel_rfl
theorem wpList_stNeg {w : World} {ops : Array Oper} {rest : List Oper} {o : Oper} {a : Act} {Q : Exit → Act → World → Prop} {g : Nat} {f : FracV} {b : Bool} (hgd : o.guard = none) (x y : Operand) (ho : o.op = .store 4 x y) (hx : a.eval x = .pointer (some ⟨g, 0, none⟩)) (hy : a.eval y = .bool b) (hfb : FB w g f)
 (h : ∀ w', FB w' g ⟨b, f.num, f.den⟩ → w.grownBy w' (some g) → wpList Try.prog ops Q rest (a.put o.dst undef) w') : wpList Try.prog ops Q (o :: rest) a w := by
 refine wpList_st (cs := [.bool b]) hgd x y ho hx hy bool_size rfl rfl hfb (by simp [f.cells_len]) (by simp [Value.oneCell']) fun cur' w' hc hs hg hgr => h w' ?_ hgr
 have e : cur' = (FracV.mk b f.num f.den).cells.toArray := by
  apply Array.ext'
  rw [hc]
  rfl
 rw [e] at hg
 exact hg
set_option maxRecDepth 100000 in
set_option maxHeartbeats 4000000 in
theorem frac_turned (f : FracV) (hf : f.fits) (w : World) : Calls Try.prog 52 #[f.val] w fun e w' => e = .returned (negL f).val ∧ Below w.heap.size w w' := by
 have hb1 : Below w.heap.size w (w.alloc (.cells f.cells.toArray 37)) := (Below.refl _ _).alloc (Nat.le_refl _) _
 have HB : Hid (Below w.heap.size w ((w.alloc (.cells f.cells.toArray 37)).alloc (.cells zeroF.cells.toArray 37))) := hb1.alloc (by simp) _
 have HF : Hid (FB ((w.alloc (.cells f.cells.toArray 37)).alloc (.cells zeroF.cells.toArray 37)) w.heap.size f) := (FB.new w f).below ((Below.refl _ _).alloc (Nat.le_refl _) _) (FB.new w f).lt
 have HR : Hid (FB ((w.alloc (.cells f.cells.toArray 37)).alloc (.cells zeroF.cells.toArray 37)) (w.heap.size + 1) zeroF) := by
  have h := FB.new (w.alloc (.cells f.cells.toArray 37)) zeroF
  have e : (w.alloc (.cells f.cells.toArray 37)).heap.size = w.heap.size + 1 := by simp
  rw [e] at h
  exact h
 have hneq := num_neq f.num hf.1
 clear hb1
 unfold FracV.val at *
 cases hn : f.neg with
 | true =>
  have hfn : f.neg = true := hn
  have HN := Lib.hid hn
  clear hn
  go_enter Try.func52, Try.ntmps52
  go_wp2_with (first
   | ((with_reducible refine g_ld 4 ?_); refine wpList_ld rfl _ _ rfl _ rfl _ HF.out.ld_neg ?_)
   | ((with_reducible refine g_ld 35 ?_); refine wpList_ldw rfl _ _ rfl _ rfl _ HF.out.ld_num ?_)
   | ((with_reducible refine g_st 4 ?_); refine wpList_stNeg (b := false) rfl _ _ rfl rfl rfl HF.out ?_; intro w4 hfb4 hgr4
      have F4 := Lib.hid hfb4; have R4 := Lib.hid (HR.out.keep (hgr4.block _ HR.out.lt (by intro e; injection e with e; omega)))
      have B4 := Lib.hid (HB.out.grown hgr4 HB.out.size (by intro q hq; injection hq with hq; omega)); clear hfb4 hgr4)
   | ((with_reducible refine g_ld 37 ?_); refine wpList_ld rfl _ _ rfl _ rfl _ F4.out.ld ?_)
   | ((with_reducible refine g_st 37 ?_); refine wpList_stF (f := ⟨false, f.num, f.den⟩) rfl _ _ rfl rfl rfl R4.out ?_; intro w5 hfb5 hgr5))
  refine bodyPost_ret (results_frac rfl _ rfl hfb5) rfl ⟨?_, B4.out.grown hgr5 B4.out.size (by intro q hq; injection hq with hq; omega)⟩
  unfold negL
  rw [HN.out]
  rfl
 | false =>
  have hfn : f.neg = false := hn
  have HN := Lib.hid hn
  clear hn
  by_cases h0 : f.num = 0
  · have H0 : Hid (decide (f.num ≠ 0) = false) := by unfold Hid; simp [h0]
    simp only [H0.out] at hneq
    clear h0
    go_enter Try.func52, Try.ntmps52
    go_wp2_with (first
     | ((with_reducible refine g_ld 4 ?_); refine wpList_ld rfl _ _ rfl _ rfl _ HF.out.ld_neg ?_)
     | ((with_reducible refine g_ld 35 ?_); refine wpList_ldw rfl _ _ rfl _ rfl _ HF.out.ld_num ?_)
     | ((with_reducible refine g_st 4 ?_); refine wpList_stNeg (b := false) rfl _ _ rfl rfl rfl HF.out ?_; intro w4 hfb4 hgr4
        have F4 := Lib.hid hfb4; have R4 := Lib.hid (HR.out.keep (hgr4.block _ HR.out.lt (by intro e; injection e with e; omega)))
        have B4 := Lib.hid (HB.out.grown hgr4 HB.out.size (by intro q hq; injection hq with hq; omega)); clear hfb4 hgr4)
     | ((with_reducible refine g_ld 37 ?_); refine wpList_ld rfl _ _ rfl _ rfl _ F4.out.ld ?_)
     | ((with_reducible refine g_st 37 ?_); refine wpList_stF (f := ⟨false, f.num, f.den⟩) rfl _ _ rfl rfl rfl R4.out ?_; intro w5 hfb5 hgr5))
    refine bodyPost_ret (results_frac rfl _ rfl hfb5) rfl ⟨?_, B4.out.grown hgr5 B4.out.size (by intro q hq; injection hq with hq; omega)⟩
    unfold negL
    rw [HN.out, H0.out]
    rfl
  · have H0 : Hid (decide (f.num ≠ 0) = true) := by unfold Hid; simp [h0]
    simp only [H0.out] at hneq
    clear h0
    go_enter Try.func52, Try.ntmps52
    go_wp2_with (first
     | ((with_reducible refine g_ld 4 ?_); refine wpList_ld rfl _ _ rfl _ rfl _ HF.out.ld_neg ?_)
     | ((with_reducible refine g_ld 35 ?_); refine wpList_ldw rfl _ _ rfl _ rfl _ HF.out.ld_num ?_)
     | ((with_reducible refine g_st 4 ?_); refine wpList_stNeg (b := true) rfl _ _ rfl rfl rfl HF.out ?_; intro w4 hfb4 hgr4
        have F4 := Lib.hid hfb4; have R4 := Lib.hid (HR.out.keep (hgr4.block _ HR.out.lt (by intro e; injection e with e; omega)))
        have B4 := Lib.hid (HB.out.grown hgr4 HB.out.size (by intro q hq; injection hq with hq; omega)); clear hfb4 hgr4)
     | ((with_reducible refine g_ld 37 ?_); refine wpList_ld rfl _ _ rfl _ rfl _ F4.out.ld ?_)
     | ((with_reducible refine g_st 37 ?_); refine wpList_stF (f := ⟨true, f.num, f.den⟩) rfl _ _ rfl rfl rfl R4.out ?_; intro w5 hfb5 hgr5))
    refine bodyPost_ret (results_frac rfl _ rfl hfb5) rfl ⟨?_, B4.out.grown hgr5 B4.out.size (by intro q hq; injection hq with hq; omega)⟩
    unfold negL
    rw [HN.out, H0.out]
    rfl
end Go.Proofs.Ytcdfnlgimbecgaa
