/-
  A fraction that lies in a block of its own: loads, stores, copies into its numbers, results.
-/
import Derived.Test.YtcdfnlgimbecgaaMt11
import Derived.Deep.Cut
namespace Go.Proofs.Ytcdfnlgimbecgaa
open Go.RowKit
def FB (w : World) (g : Nat) (f : FracV) : Prop := w.heap[g]? = some (.cells f.cells.toArray 37 (0, 0))
theorem FB.lt {w : World} {g : Nat} {f : FracV} (h : FB w g f) : g < w.heap.size := (Array.getElem?_eq_some_iff.1 h).1
theorem FB.keep {w w' : World} {g : Nat} {f : FracV} (h : FB w g f) (hg : w'.heap[g]? = w.heap[g]?) : FB w' g f := hg.trans h
theorem FB.below {w w' : World} {B g : Nat} {f : FracV} (h : FB w g f) (hb : Below B w w') (hg : g < B) : FB w' g f := h.keep (hb.block g hg)
theorem FB.new (w : World) (f : FracV) : FB (w.alloc (.cells f.cells.toArray 37)) w.heap.size f := heap_alloc_new w _
theorem frac_row : IsRow Try.prog 37 17 := ⟨_, Try.underlying37, by kernel_rfl, by kernel_rfl⟩
theorem frac_size : (Try.prog.info? 37).map (·.size) = some 17 := by kernel_rfl
theorem FB.ld {w : World} {g : Nat} {f : FracV} (h : FB w g f) : (loadVar 37 ⟨g, 0, none⟩).run Try.prog w = .ok f.val w :=
 run_load_cells (cs := f.cells) frac_row f.cells_len (fun j x hx => by
  rw [Addr.add_lit, cell_of_row w g (0 + j) _ _ _ h]
  simpa using hx)
theorem FB.ld_neg {w : World} {g : Nat} {f : FracV} (h : FB w g f) : (loadVar 4 ⟨g, 0, none⟩).run Try.prog w = .ok (.bool f.neg) w :=
 run_load_cell Try.underlying4 rfl (by rw [cell_of_row w g 0 _ _ _ h]; rfl)
theorem wpList_stF {w : World} {ops : Array Oper} {rest : List Oper} {o : Oper} {a : Act} {Q : Exit → Act → World → Prop} {g : Nat} {f f0 : FracV} (hgd : o.guard = none) (x y : Operand) (ho : o.op = .store 37 x y) (hx : a.eval x = .pointer (some ⟨g, 0, none⟩)) (hy : a.eval y = f.val) (hfb : FB w g f0)
 (h : ∀ w', FB w' g f → w.grownBy w' (some g) → wpList Try.prog ops Q rest (a.put o.dst undef) w') : wpList Try.prog ops Q (o :: rest) a w := by
 refine wpList_st (cs := f.cells) hgd x y ho hx hy frac_size rfl f.cells_len hfb (by simp [f0.cells_len]) f.ones fun cur' w' hc hs hg hgr => h w' ?_ hgr
 have e : cur' = f.cells.toArray := by
  apply Array.ext'
  rw [hc]
  simp [f0.cells_len]
 rw [e] at hg
 exact hg
theorem pad_cells {x : Nat} (h : len32 x ≤ 8) : (pad B32 8 x).map (fun (n : Nat) => Value.int .u32 (n : Int)) = (dig B32 x).map (fun (n : Nat) => Value.int .u32 (n : Int)) ++ ((pad B32 8 0).map fun (n : Nat) => Value.int .u32 (n : Int)).drop (len32 x) := by
 have hx : x < B32 ^ 8 := lt_of_dig_len hB32 h
 rw [pad_dig hB32 hx, pad_zero, List.map_append, ← List.map_drop, List.drop_replicate]
set_option maxRecDepth 100000 in
theorem wpList_copyF {w : World} {ops : Array Oper} {rest : List Oper} {o : Oper} {a : Act} {Q : Exit → Act → World → Prop} (hgd : o.guard = none) (d s : Operand) (dT sT : TypeId)
 (ho : o.op = .call { callee := .builtin .copy, args := #[d, s], argTypes := #[dT, sT] }) (elem : TypeId) (hu : Try.prog.underlying dT = some (.slice elem)) (hsz : (Try.prog.info? elem).map (·.size) = some 1)
 {g off x sl sc : Nat} {A : Option Addr} (f f' : FracV) (hd : a.eval d = .slice (some ⟨g, off, none⟩) 8 8) (hs : a.eval s = .slice A sl sc) (hsl : sl = len32 x) (hle : len32 x ≤ 8)
 (hoff : off + 8 ≤ 17) (hf : f'.cells = f.cells.take off ++ ((dig B32 x).map (fun (n : Nat) => Value.int .u32 (n : Int)) ++ f.cells.drop (off + len32 x))) (hfb : FB w g f) (hrd : Rd32 w A x)
 (h : ∀ w', FB w' g f' → w.grownBy w' (some g) → wpList Try.prog ops Q rest (a.put o.dst (.int .i64 (sl : Int))) w') : wpList Try.prog ops Q (o :: rest) a w := by
 have hcl : ((dig B32 x).map fun (n : Nat) => Value.int .u32 (n : Int)).length = len32 x := by simp
 by_cases h0 : len32 x = 0
 · have hd0 : dig B32 x = [] := List.eq_nil_of_length_eq_zero h0
   refine wpList_copy_nothing hgd d s dT sT ho elem hu hsz _ _ _ _ _ _ hd hs (by rw [hsl, h0]; rfl) ?_
   have e : f'.cells = f.cells := by
    rw [hf, hd0, h0]
    simp
   have h1 := h w (by unfold FB at *; rw [e]; exact hfb) ⟨rfl, rfl, rfl, Nat.le_refl _, fun _ _ _ => rfl⟩
   rw [hsl, h0] at h1
   exact h1
 · obtain ⟨b, off', rfl, _, _, _⟩ := hrd 0 _ (nums_get (k := .u32) (l := dig B32 x) (show 0 < len32 x by omega))
   refine wpList_copy_own hgd d s dT sT ho elem hu hsz g off 8 8 ⟨b, off', none⟩ sl sc hd hs _ _ hfb ((dig B32 x).map fun (n : Nat) => Value.int .u32 (n : Int)) (by rw [hcl, hsl]; exact (Nat.min_eq_left hle).symm) ?_ (by rw [hcl]; simp [f.cells_len]; omega) (by simp [Value.oneCell']) ?_
   · intro j v hv
     rw [List.getElem?_map] at hv
     obtain ⟨n, hn, rfl⟩ := Option.map_eq_some_iff.1 hv
     have hjl := (List.getElem?_eq_some_iff.1 hn).1
     obtain ⟨b', off2, e, _, _, hc⟩ := hrd j _ (nums_get (k := .u32) hjl)
     injection e with e
     injection e with e1 e2
     subst e1; subst e2
     have h1 := hc 0 _ rfl
     rw [Addr.add_lit]
     simp only [Nat.mul_one, Nat.add_zero] at h1
     rw [h1]
     have h2 := (List.getElem?_eq_some_iff.1 hn).2
     rw [h2]
   · have h1 := h (w.setRow g (f.cells.toArray.toList.take off ++ (((dig B32 x).map fun (n : Nat) => Value.int .u32 (n : Int)) ++ f.cells.toArray.toList.drop (off + ((dig B32 x).map fun (n : Nat) => Value.int .u32 (n : Int)).length))).toArray) ?_ ⟨rfl, rfl, rfl, by simp, fun q _ hq => setRow_other w g q _ (fun e => hq (by rw [e]))⟩
     · rw [hcl, ← hsl]
       rw [hcl, ← hsl] at h1
       exact h1
     · unfold FB
       rw [setRow_heap w g _ _ _ (0, 0) hfb, hcl, hf]
theorem num_cells (b : Bool) (x d : Nat) (h : len32 x ≤ 8) : (FracV.mk b x d).cells = (FracV.mk b 0 d).cells.take 1 ++ ((dig B32 x).map (fun (n : Nat) => Value.int .u32 (n : Int)) ++ (FracV.mk b 0 d).cells.drop (1 + len32 x)) := by
 unfold FracV.cells
 rw [pad_cells h]
 simp only [List.cons_append, List.nil_append, List.take_succ_cons, List.take_zero, List.append_assoc]
 rw [show 1 + len32 x = len32 x + 1 by omega, List.drop_succ_cons, List.drop_append_of_le_length (by rw [List.length_map, pad_len]; exact h)]
theorem den_cells (b : Bool) (x d : Nat) (h : len32 d ≤ 8) : (FracV.mk b x d).cells = (FracV.mk b x 0).cells.take 9 ++ ((dig B32 d).map (fun (n : Nat) => Value.int .u32 (n : Int)) ++ (FracV.mk b x 0).cells.drop (9 + len32 d)) := by
 unfold FracV.cells
 rw [pad_cells h]
 have hl : ([Value.bool b] ++ (pad B32 8 x).map (fun (n : Nat) => Value.int .u32 (n : Int))).length = 9 := by simp [pad_len]
 have e1 : ([Value.bool b] ++ (pad B32 8 x).map (fun (n : Nat) => Value.int .u32 (n : Int)) ++ (pad B32 8 0).map (fun (n : Nat) => Value.int .u32 (n : Int))).take 9 = [Value.bool b] ++ (pad B32 8 x).map (fun (n : Nat) => Value.int .u32 (n : Int)) := List.take_left' hl
 have e2 : ([Value.bool b] ++ (pad B32 8 x).map (fun (n : Nat) => Value.int .u32 (n : Int)) ++ (pad B32 8 0).map (fun (n : Nat) => Value.int .u32 (n : Int))).drop (9 + len32 d) = ((pad B32 8 0).map (fun (n : Nat) => Value.int .u32 (n : Int))).drop (len32 d) := by
  rw [← List.drop_drop, List.drop_left' hl]
 simp only [] at *
 rw [e1, e2]
theorem results_frac_err {fn : Func} {p t : Tmp} (h : fn.results = #[.cell p 37, .tmp t]) (tmps : Array Value) {w : World} {g : Nat} {f : FracV} (hp : tmps.getD p undef = .pointer (some ⟨g, 0, none⟩)) (hfb : FB w g f) :
 (results fn tmps).run Try.prog w = .ok (.tuple #[f.val, tmps.getD t undef]) w := by
 have hl := hfb.ld
 have hp' : tmps[p]?.getD undef = .pointer (some ⟨g, 0, none⟩) := by simpa using hp
 simp [results, h, hp', asAddr, hl]
theorem results_frac {fn : Func} {p : Tmp} (h : fn.results = #[.cell p 37]) (tmps : Array Value) {w : World} {g : Nat} {f : FracV} (hp : tmps.getD p undef = .pointer (some ⟨g, 0, none⟩)) (hfb : FB w g f) :
 (results fn tmps).run Try.prog w = .ok f.val w := by
 have hl := hfb.ld
 have hp' : tmps[p]?.getD undef = .pointer (some ⟨g, 0, none⟩) := by simpa using hp
 simp [results, h, hp', asAddr, hl]
def FitPost (w : World) (r : FracV × Int) (e : Ending) (w' : World) : Prop := e = .returned (.tuple #[r.1.val, .int .i64 r.2]) ∧ Below w.heap.size w w'
theorem len_top (x : Nat) : x < top256 ↔ len32 x ≤ 8 := by
 rw [← pow256]
 constructor
 · exact fun h => dig_len_le hB32 h
 · exact fun h => lt_of_dig_len hB32 h
theorem fitL_div {neg : Bool} {x y gc x1 y1 : Nat} (hgc : gc = Nat.gcd x y) (hx1 : x1 = x / gc) (hy1 : y1 = y / gc) : fitL neg x y = if x1 < top256 ∧ y1 < top256 then (⟨neg && decide (x1 ≠ 0), x1, y1⟩, 0) else (zeroF, 3) := by
 unfold fitL
 rw [hx1, hy1, hgc]
set_option maxRecDepth 100000 in
set_option maxHeartbeats 8000000 in
theorem frac_fit (neg : Bool) (A D : Option Addr) (ca cd x y n m : Nat) (hn : n = len32 x) (hm : m = len32 y) (w : World) (h : Rd32 w A x) (h' : Rd32 w D y) (hx : len32 x ≤ 900) (hy : len32 y ≤ 900) (hy0 : 0 < y) :
 Calls Try.prog 46 #[.bool neg, .slice A n ca, .slice D m cd] w (FitPost w (fitL neg x y)) := by
 obtain ⟨gc, hgc⟩ : ∃ gc, gc = Nat.gcd x y := ⟨_, rfl⟩
 obtain ⟨gl, hgl0⟩ : ∃ gl, gl = len32 gc := ⟨_, rfl⟩
 have hg0 : 0 < gc := by rw [hgc]; exact Nat.gcd_pos_of_pos_right _ hy0
 have hgy : gc ≤ y := by rw [hgc]; exact Nat.le_of_dvd hy0 (Nat.gcd_dvd_right x y)
 have hgl : len32 gc ≤ 900 := Nat.le_trans (dig_len_le hB32 (Nat.lt_of_le_of_lt hgy (lt_of_dig_len hB32 (Nat.le_refl _)))) hy
 have hfb0 := FB.new w zeroF
 have hb0 : Below w.heap.size w (w.alloc (.cells zeroF.cells.toArray 37)) := (Below.refl _ _).alloc (Nat.le_refl _) _
 have HC := Lib.hid (frac_common A D ca cd x y n m hn hm _ (h.from hb0) (h'.from hb0) hx hy)
 rw [← hgc, ← hgl0] at HC
 have HFB0 := Lib.hid hfb0
 have HB0 := Lib.hid hb0
 have HX := Lib.hid (fun w1 (hb : From w w1) => h.from hb)
 have HY := Lib.hid (fun w1 (hb : From w w1) => h'.from hb)
 have HLX := Lib.hid (And.intro hx (And.intro hy (And.intro hn (And.intro hm (And.intro hgl (And.intro hgl0 (And.intro hgc (And.intro hg0 hy0))))))))
 clear hfb0 hb0 h h' hx hy hgy hgl hgl0 hn hm hy0 hgc
 by_cases hg1 : gc = 1
 · have hd1 : decide (gc = 1) = true := by rw [hg1]; rfl
   have HO := Lib.hid (fun (G : Option Addr) (cg : Nat) (w1 : World) (hr : Rd32 w1 G gc) => frac_one G cg gl gc HLX.out.2.2.2.2.2.1 w1 hr (by have := HLX.out; omega))
   rw [hd1] at HO
   have HFIT := Lib.hid (fitL_div (neg := neg) (x1 := x) (y1 := y) HLX.out.2.2.2.2.2.2.1 (by rw [hg1, Nat.div_one]) (by rw [hg1, Nat.div_one]))
   clear hd1 hg1 hg0
   go_enter Try.func46, Try.ntmps46
   go_upto_region 5 with (first
    | (go_at_call 83; refine (HC.out).mono ?_; rintro e w1 ⟨G, cg, rfl, hrdG, hb1⟩; have HB := Lib.hid (HB0.out.trans (hb1.mono HB0.out.size)); have HFB := Lib.hid (HFB0.out.below hb1 HFB0.out.lt); have HG := Lib.hid hrdG; clear hrdG hb1 HC HB0 HFB0)
    | (go_at_call 84; refine (HO.out _ _ _ HG.out).mono ?_; rintro e w2 ⟨rfl, rfl⟩))
   have HX1 := Lib.hid (HX.out _ HB.out)
   have HY1 := Lib.hid (HY.out _ HB.out)
   have HN1 := Lib.hid HLX.out.2.2.1
   have HM1 := Lib.hid HLX.out.2.2.2.1
   clear HG HX HY HO
   by_cases hx8 : len32 x ≤ 8
   · by_cases hy8 : len32 y ≤ 8
     · have HL8 := Lib.hid hx8
       have HM8 := Lib.hid hy8
       have c1 : ¬ (8 : Int) < (n : Int) := by have := HN1.out; omega
       have c2 : ¬ (8 : Int) < (m : Int) := by have := HM1.out; omega
       clear hx8 hy8
       cases neg with
       | false =>
        have HFB9 := Lib.hid (FB.new w2 zeroF)
        have HA9 : Hid (From w2 (w2.alloc (.cells zeroF.cells.toArray 37))) := (Below.refl _ _).alloc (Nat.le_refl _) _
        go_wp2_with (first
         | ((with_reducible refine g_st 37 ?_); refine wpList_stF (f := ⟨false, 0, 0⟩) rfl _ _ rfl rfl rfl HFB9.out ?_; intro w5 hfb5 hgr5
            have C5 : Hid (From w2 w5) := HA9.out.grown hgr5 HA9.out.size (by intro q hq; injection hq with hq; omega)
            have F5 := Lib.hid hfb5; clear hfb5 hgr5 HFB9)
         | ((with_reducible refine g_copy ?_); refine wpList_copyF rfl _ _ _ _ rfl 34 Try.underlying107 size_u32 ⟨false, 0, 0⟩ ⟨false, x, 0⟩ rfl rfl HN1.out HL8.out (by decide) (num_cells _ _ _ HL8.out) F5.out (HX1.out.from C5.out) ?_; intro w6 hfb6 hgr6
            have C6 : Hid (From w2 w6) := C5.out.grown hgr6 C5.out.size (by intro q hq; injection hq with hq; omega)
            have F6 := Lib.hid hfb6; clear hfb6 hgr6 F5)
         | ((with_reducible refine g_copy ?_); refine wpList_copyF rfl _ _ _ _ rfl 34 Try.underlying107 size_u32 ⟨false, x, 0⟩ ⟨false, x, y⟩ rfl rfl HM1.out HM8.out (by decide) (den_cells _ _ _ HM8.out) F6.out (HY1.out.from C6.out) ?_; intro w7 hfb7 hgr7
            have C7 : Hid (From w2 w7) := C6.out.grown hgr7 C6.out.size (by intro q hq; injection hq with hq; omega)
            have F7 := Lib.hid hfb7; have R7 := Lib.hid (HFB.out.below C7.out HFB.out.lt); clear hfb7 hgr7 F6)
         | ((with_reducible refine g_ld 37 ?_); refine wpList_ld rfl _ _ rfl _ rfl _ F7.out.ld ?_)
         | ((with_reducible refine g_st 37 ?_); refine wpList_stF (f := ⟨false, x, y⟩) rfl _ _ rfl rfl rfl R7.out ?_; intro w8 hfb8 hgr8))
        refine bodyPost_ret (results_frac_err rfl _ rfl hfb8) rfl ?_
        refine ⟨?_, (HB.out.trans (C7.out.mono HB.out.size)).grown hgr8 (Nat.le_trans HB.out.size C7.out.size) (by intro q hq; injection hq with hq; omega)⟩
        rw [HFIT.out, if_pos ⟨(len_top _).2 HL8.out, (len_top _).2 HM8.out⟩]
        rfl
       | true =>
        by_cases hx0 : x = 0
        · have hn1 : (n : Int) = 0 := by rw [HN1.out, hx0]; rfl
          have HX0 := Lib.hid hx0
          clear hx0
          have HFB9 := Lib.hid (FB.new w2 zeroF)
          have HA9 : Hid (From w2 (w2.alloc (.cells zeroF.cells.toArray 37))) := (Below.refl _ _).alloc (Nat.le_refl _) _
          go_wp2_with (first
           | ((with_reducible refine g_st 37 ?_); refine wpList_stF (f := ⟨false, 0, 0⟩) rfl _ _ rfl rfl rfl HFB9.out ?_; intro w5 hfb5 hgr5
              have C5 : Hid (From w2 w5) := HA9.out.grown hgr5 HA9.out.size (by intro q hq; injection hq with hq; omega)
              have F5 := Lib.hid hfb5; clear hfb5 hgr5 HFB9)
           | ((with_reducible refine g_copy ?_); refine wpList_copyF rfl _ _ _ _ rfl 34 Try.underlying107 size_u32 ⟨false, 0, 0⟩ ⟨false, x, 0⟩ rfl rfl HN1.out HL8.out (by decide) (num_cells _ _ _ HL8.out) F5.out (HX1.out.from C5.out) ?_; intro w6 hfb6 hgr6
              have C6 : Hid (From w2 w6) := C5.out.grown hgr6 C5.out.size (by intro q hq; injection hq with hq; omega)
              have F6 := Lib.hid hfb6; clear hfb6 hgr6 F5)
           | ((with_reducible refine g_copy ?_); refine wpList_copyF rfl _ _ _ _ rfl 34 Try.underlying107 size_u32 ⟨false, x, 0⟩ ⟨false, x, y⟩ rfl rfl HM1.out HM8.out (by decide) (den_cells _ _ _ HM8.out) F6.out (HY1.out.from C6.out) ?_; intro w7 hfb7 hgr7
              have C7 : Hid (From w2 w7) := C6.out.grown hgr7 C6.out.size (by intro q hq; injection hq with hq; omega)
              have F7 := Lib.hid hfb7; have R7 := Lib.hid (HFB.out.below C7.out HFB.out.lt); clear hfb7 hgr7 F6)
           | ((with_reducible refine g_ld 37 ?_); refine wpList_ld rfl _ _ rfl _ rfl _ F7.out.ld ?_)
           | ((with_reducible refine g_st 37 ?_); refine wpList_stF (f := ⟨false, x, y⟩) rfl _ _ rfl rfl rfl R7.out ?_; intro w8 hfb8 hgr8))
          refine bodyPost_ret (results_frac_err rfl _ rfl hfb8) rfl ?_
          refine ⟨?_, (HB.out.trans (C7.out.mono HB.out.size)).grown hgr8 (Nat.le_trans HB.out.size C7.out.size) (by intro q hq; injection hq with hq; omega)⟩
          rw [HFIT.out, if_pos ⟨(len_top _).2 HL8.out, (len_top _).2 HM8.out⟩]
          simp [HX0.out]
        · have hn1 : (0 : Int) < (n : Int) := by rw [HN1.out]; have : 0 < len32 x := dig_len_pos hB32 hx0; omega
          have hn2 : 0 < n := by omega
          have HX0 := Lib.hid hx0
          clear hx0
          have HFB9 := Lib.hid (FB.new w2 zeroF)
          have HA9 : Hid (From w2 (w2.alloc (.cells zeroF.cells.toArray 37))) := (Below.refl _ _).alloc (Nat.le_refl _) _
          go_wp2_with (first
           | ((with_reducible refine g_st 37 ?_); refine wpList_stF (f := ⟨true, 0, 0⟩) rfl _ _ rfl rfl rfl HFB9.out ?_; intro w5 hfb5 hgr5
              have C5 : Hid (From w2 w5) := HA9.out.grown hgr5 HA9.out.size (by intro q hq; injection hq with hq; omega)
              have F5 := Lib.hid hfb5; clear hfb5 hgr5 HFB9)
           | ((with_reducible refine g_copy ?_); refine wpList_copyF rfl _ _ _ _ rfl 34 Try.underlying107 size_u32 ⟨true, 0, 0⟩ ⟨true, x, 0⟩ rfl rfl HN1.out HL8.out (by decide) (num_cells _ _ _ HL8.out) F5.out (HX1.out.from C5.out) ?_; intro w6 hfb6 hgr6
              have C6 : Hid (From w2 w6) := C5.out.grown hgr6 C5.out.size (by intro q hq; injection hq with hq; omega)
              have F6 := Lib.hid hfb6; clear hfb6 hgr6 F5)
           | ((with_reducible refine g_copy ?_); refine wpList_copyF rfl _ _ _ _ rfl 34 Try.underlying107 size_u32 ⟨true, x, 0⟩ ⟨true, x, y⟩ rfl rfl HM1.out HM8.out (by decide) (den_cells _ _ _ HM8.out) F6.out (HY1.out.from C6.out) ?_; intro w7 hfb7 hgr7
              have C7 : Hid (From w2 w7) := C6.out.grown hgr7 C6.out.size (by intro q hq; injection hq with hq; omega)
              have F7 := Lib.hid hfb7; have R7 := Lib.hid (HFB.out.below C7.out HFB.out.lt); clear hfb7 hgr7 F6)
           | ((with_reducible refine g_ld 37 ?_); refine wpList_ld rfl _ _ rfl _ rfl _ F7.out.ld ?_)
           | ((with_reducible refine g_st 37 ?_); refine wpList_stF (f := ⟨true, x, y⟩) rfl _ _ rfl rfl rfl R7.out ?_; intro w8 hfb8 hgr8))
          refine bodyPost_ret (results_frac_err rfl _ rfl hfb8) rfl ?_
          refine ⟨?_, (HB.out.trans (C7.out.mono HB.out.size)).grown hgr8 (Nat.le_trans HB.out.size C7.out.size) (by intro q hq; injection hq with hq; omega)⟩
          rw [HFIT.out, if_pos ⟨(len_top _).2 HL8.out, (len_top _).2 HM8.out⟩]
          simp [HX0.out]
     · have c1 : ¬ (8 : Int) < (n : Int) := by have := HN1.out; omega
       have c2 : (8 : Int) < (m : Int) := by have := HM1.out; omega
       have HE := Lib.hid hy8
       clear hx8 hy8
       go_wp2_with (first
        | ((with_reducible refine g_st 37 ?_); refine wpList_stF (f := zeroF) rfl _ _ rfl rfl rfl HFB.out ?_; intro w5 hfb5 hgr5))
       refine bodyPost_ret (results_frac_err rfl _ rfl hfb5) rfl ?_
       refine ⟨?_, HB.out.grown hgr5 HB.out.size (by intro q hq; injection hq with hq; omega)⟩
       rw [HFIT.out, if_neg (fun h => HE.out ((len_top _).1 h.2))]
       rfl
   · have c1 : (8 : Int) < (n : Int) := by have := HN1.out; omega
     have HE := Lib.hid hx8
     clear hx8
     go_wp2_with (first
      | ((with_reducible refine g_st 37 ?_); refine wpList_stF (f := zeroF) rfl _ _ rfl rfl rfl HFB.out ?_; intro w5 hfb5 hgr5))
     refine bodyPost_ret (results_frac_err rfl _ rfl hfb5) rfl ?_
     refine ⟨?_, HB.out.grown hgr5 HB.out.size (by intro q hq; injection hq with hq; omega)⟩
     rw [HFIT.out, if_neg (fun h => HE.out ((len_top _).1 h.1))]
     rfl
 · have hd1 : decide (gc = 1) = false := decide_eq_false hg1
   have HO := Lib.hid (fun (G : Option Addr) (cg : Nat) (w1 : World) (hr : Rd32 w1 G gc) => frac_one G cg gl gc HLX.out.2.2.2.2.2.1 w1 hr (by have := HLX.out; omega))
   rw [hd1] at HO
   obtain ⟨x1, hx1⟩ : ∃ x1, x1 = x / gc := ⟨_, rfl⟩
   obtain ⟨y1, hy1⟩ : ∃ y1, y1 = y / gc := ⟨_, rfl⟩
   obtain ⟨n1, hn1⟩ : ∃ n1, n1 = len32 x1 := ⟨_, rfl⟩
   obtain ⟨m1, hm1⟩ : ∃ m1, m1 = len32 y1 := ⟨_, rfl⟩
   have HFIT := Lib.hid (fitL_div (neg := neg) (x1 := x1) (y1 := y1) HLX.out.2.2.2.2.2.2.1 hx1 hy1)
   have HD1 : Hid (∀ (G : Option Addr) (cg : Nat) (w1 : World), From w w1 → Rd32 w1 G gc → Calls Try.prog 55 #[.slice A n ca, .slice G gl cg] w1 fun e w' => ∃ A1 c1 A2 n2 c2, e = .returned (.tuple #[.slice A1 n1 c1, .slice A2 n2 c2]) ∧ Rd32 w' A1 x1 ∧ From w1 w') := by
    intro G cg w1 hb hr
    obtain ⟨l1, l2, l3, l4, l5, l6, l7, l8, l9⟩ := HLX.out
    refine (frac_divide A G ca cg x gc n gl l3 l6 w1 (HX.out w1 hb) hr l1 l5 l8).mono ?_
    rintro e w' ⟨A1, c1, A2, c2, rfl, hr1, hr2, hl1, hl2, hb2⟩
    rw [← hx1] at hr1 ⊢
    rw [← hn1]
    exact ⟨A1, c1, A2, _, c2, rfl, hr1, hb2⟩
   have HD2 : Hid (∀ (G : Option Addr) (cg : Nat) (w1 : World), From w w1 → Rd32 w1 G gc → Calls Try.prog 55 #[.slice D m cd, .slice G gl cg] w1 fun e w' => ∃ A1 c1 A2 n2 c2, e = .returned (.tuple #[.slice A1 m1 c1, .slice A2 n2 c2]) ∧ Rd32 w' A1 y1 ∧ From w1 w') := by
    intro G cg w1 hb hr
    obtain ⟨l1, l2, l3, l4, l5, l6, l7, l8, l9⟩ := HLX.out
    refine (frac_divide D G cd cg y gc m gl l4 l6 w1 (HY.out w1 hb) hr l2 l5 l8).mono ?_
    rintro e w' ⟨A1, c1, A2, c2, rfl, hr1, hr2, hl1, hl2, hb2⟩
    rw [← hy1] at hr1 ⊢
    rw [← hm1]
    exact ⟨A1, c1, A2, _, c2, rfl, hr1, hb2⟩
   have HN1 := Lib.hid hn1
   have HM1 := Lib.hid hm1
   clear hd1 hg1 hg0 hn1 hm1 hx1 hy1
   go_enter Try.func46, Try.ntmps46
   go_upto_region 5 with (first
    | (go_at_call 83; refine (HC.out).mono ?_; rintro e w1 ⟨G, cg, rfl, hrdG, hb1⟩; have HB1 := Lib.hid (HB0.out.trans (hb1.mono HB0.out.size)); have HFB1 := Lib.hid (HFB0.out.below hb1 HFB0.out.lt); have HG := Lib.hid hrdG; clear hrdG hb1 HC HB0 HFB0)
    | (go_at_call 84; refine (HO.out _ _ _ HG.out).mono ?_; rintro e w2 ⟨rfl, hw2⟩; subst hw2)
    | (go_at_call 55; refine (HD1.out _ _ _ HB1.out HG.out).mono ?_; rintro e w3 ⟨A3, c3, A4, n4, c4, rfl, hr3, hb3⟩; have HB3 := Lib.hid (HB1.out.trans (hb3.mono HB1.out.size)); have HFB3 := Lib.hid (HFB1.out.below hb3 HFB1.out.lt); have HG3 := Lib.hid (HG.out.from hb3); have HX3 := Lib.hid hr3; clear hr3 hb3 HB1 HFB1 HG HD1)
    | (go_at_call 55; refine (HD2.out _ _ _ HB3.out HG3.out).mono ?_; rintro e wz ⟨A5, c5, A6, n6, c6, rfl, hr5, hb5⟩; have HB := Lib.hid (HB3.out.trans (hb5.mono HB3.out.size)); have HFB := Lib.hid (HFB3.out.below hb5 HFB3.out.lt); have HX1 := Lib.hid (HX3.out.from hb5); have HY1 := Lib.hid hr5; clear hr5 hb5 HB3 HFB3 HG3 HX3 HD2))
   clear HX HY HO
   by_cases hx8 : len32 x1 ≤ 8
   · by_cases hy8 : len32 y1 ≤ 8
     · have HL8 := Lib.hid hx8
       have HM8 := Lib.hid hy8
       have c1 : ¬ (8 : Int) < (n1 : Int) := by have := HN1.out; omega
       have c2 : ¬ (8 : Int) < (m1 : Int) := by have := HM1.out; omega
       clear hx8 hy8
       cases neg with
       | false =>
        have HFB9 := Lib.hid (FB.new wz zeroF)
        have HA9 : Hid (From wz (wz.alloc (.cells zeroF.cells.toArray 37))) := (Below.refl _ _).alloc (Nat.le_refl _) _
        go_wp2_with (first
         | ((with_reducible refine g_st 37 ?_); refine wpList_stF (f := ⟨false, 0, 0⟩) rfl _ _ rfl rfl rfl HFB9.out ?_; intro w5 hfb5 hgr5
            have C5 : Hid (From wz w5) := HA9.out.grown hgr5 HA9.out.size (by intro q hq; injection hq with hq; omega)
            have F5 := Lib.hid hfb5; clear hfb5 hgr5 HFB9)
         | ((with_reducible refine g_copy ?_); refine wpList_copyF rfl _ _ _ _ rfl 34 Try.underlying107 size_u32 ⟨false, 0, 0⟩ ⟨false, x1, 0⟩ rfl rfl HN1.out HL8.out (by decide) (num_cells _ _ _ HL8.out) F5.out (HX1.out.from C5.out) ?_; intro w6 hfb6 hgr6
            have C6 : Hid (From wz w6) := C5.out.grown hgr6 C5.out.size (by intro q hq; injection hq with hq; omega)
            have F6 := Lib.hid hfb6; clear hfb6 hgr6 F5)
         | ((with_reducible refine g_copy ?_); refine wpList_copyF rfl _ _ _ _ rfl 34 Try.underlying107 size_u32 ⟨false, x1, 0⟩ ⟨false, x1, y1⟩ rfl rfl HM1.out HM8.out (by decide) (den_cells _ _ _ HM8.out) F6.out (HY1.out.from C6.out) ?_; intro w7 hfb7 hgr7
            have C7 : Hid (From wz w7) := C6.out.grown hgr7 C6.out.size (by intro q hq; injection hq with hq; omega)
            have F7 := Lib.hid hfb7; have R7 := Lib.hid (HFB.out.below C7.out HFB.out.lt); clear hfb7 hgr7 F6)
         | ((with_reducible refine g_ld 37 ?_); refine wpList_ld rfl _ _ rfl _ rfl _ F7.out.ld ?_)
         | ((with_reducible refine g_st 37 ?_); refine wpList_stF (f := ⟨false, x1, y1⟩) rfl _ _ rfl rfl rfl R7.out ?_; intro w8 hfb8 hgr8))
        refine bodyPost_ret (results_frac_err rfl _ rfl hfb8) rfl ?_
        refine ⟨?_, (HB.out.trans (C7.out.mono HB.out.size)).grown hgr8 (Nat.le_trans HB.out.size C7.out.size) (by intro q hq; injection hq with hq; omega)⟩
        rw [HFIT.out, if_pos ⟨(len_top _).2 HL8.out, (len_top _).2 HM8.out⟩]
        rfl
       | true =>
        by_cases hx0 : x1 = 0
        · have hn1 : (n1 : Int) = 0 := by rw [HN1.out, hx0]; rfl
          have HX0 := Lib.hid hx0
          clear hx0
          have HFB9 := Lib.hid (FB.new wz zeroF)
          have HA9 : Hid (From wz (wz.alloc (.cells zeroF.cells.toArray 37))) := (Below.refl _ _).alloc (Nat.le_refl _) _
          go_wp2_with (first
           | ((with_reducible refine g_st 37 ?_); refine wpList_stF (f := ⟨false, 0, 0⟩) rfl _ _ rfl rfl rfl HFB9.out ?_; intro w5 hfb5 hgr5
              have C5 : Hid (From wz w5) := HA9.out.grown hgr5 HA9.out.size (by intro q hq; injection hq with hq; omega)
              have F5 := Lib.hid hfb5; clear hfb5 hgr5 HFB9)
           | ((with_reducible refine g_copy ?_); refine wpList_copyF rfl _ _ _ _ rfl 34 Try.underlying107 size_u32 ⟨false, 0, 0⟩ ⟨false, x1, 0⟩ rfl rfl HN1.out HL8.out (by decide) (num_cells _ _ _ HL8.out) F5.out (HX1.out.from C5.out) ?_; intro w6 hfb6 hgr6
              have C6 : Hid (From wz w6) := C5.out.grown hgr6 C5.out.size (by intro q hq; injection hq with hq; omega)
              have F6 := Lib.hid hfb6; clear hfb6 hgr6 F5)
           | ((with_reducible refine g_copy ?_); refine wpList_copyF rfl _ _ _ _ rfl 34 Try.underlying107 size_u32 ⟨false, x1, 0⟩ ⟨false, x1, y1⟩ rfl rfl HM1.out HM8.out (by decide) (den_cells _ _ _ HM8.out) F6.out (HY1.out.from C6.out) ?_; intro w7 hfb7 hgr7
              have C7 : Hid (From wz w7) := C6.out.grown hgr7 C6.out.size (by intro q hq; injection hq with hq; omega)
              have F7 := Lib.hid hfb7; have R7 := Lib.hid (HFB.out.below C7.out HFB.out.lt); clear hfb7 hgr7 F6)
           | ((with_reducible refine g_ld 37 ?_); refine wpList_ld rfl _ _ rfl _ rfl _ F7.out.ld ?_)
           | ((with_reducible refine g_st 37 ?_); refine wpList_stF (f := ⟨false, x1, y1⟩) rfl _ _ rfl rfl rfl R7.out ?_; intro w8 hfb8 hgr8))
          refine bodyPost_ret (results_frac_err rfl _ rfl hfb8) rfl ?_
          refine ⟨?_, (HB.out.trans (C7.out.mono HB.out.size)).grown hgr8 (Nat.le_trans HB.out.size C7.out.size) (by intro q hq; injection hq with hq; omega)⟩
          rw [HFIT.out, if_pos ⟨(len_top _).2 HL8.out, (len_top _).2 HM8.out⟩]
          simp [HX0.out]
        · have hn1 : (0 : Int) < (n1 : Int) := by rw [HN1.out]; have : 0 < len32 x1 := dig_len_pos hB32 hx0; omega
          have hn2 : 0 < n1 := by omega
          have HX0 := Lib.hid hx0
          clear hx0
          have HFB9 := Lib.hid (FB.new wz zeroF)
          have HA9 : Hid (From wz (wz.alloc (.cells zeroF.cells.toArray 37))) := (Below.refl _ _).alloc (Nat.le_refl _) _
          go_wp2_with (first
           | ((with_reducible refine g_st 37 ?_); refine wpList_stF (f := ⟨true, 0, 0⟩) rfl _ _ rfl rfl rfl HFB9.out ?_; intro w5 hfb5 hgr5
              have C5 : Hid (From wz w5) := HA9.out.grown hgr5 HA9.out.size (by intro q hq; injection hq with hq; omega)
              have F5 := Lib.hid hfb5; clear hfb5 hgr5 HFB9)
           | ((with_reducible refine g_copy ?_); refine wpList_copyF rfl _ _ _ _ rfl 34 Try.underlying107 size_u32 ⟨true, 0, 0⟩ ⟨true, x1, 0⟩ rfl rfl HN1.out HL8.out (by decide) (num_cells _ _ _ HL8.out) F5.out (HX1.out.from C5.out) ?_; intro w6 hfb6 hgr6
              have C6 : Hid (From wz w6) := C5.out.grown hgr6 C5.out.size (by intro q hq; injection hq with hq; omega)
              have F6 := Lib.hid hfb6; clear hfb6 hgr6 F5)
           | ((with_reducible refine g_copy ?_); refine wpList_copyF rfl _ _ _ _ rfl 34 Try.underlying107 size_u32 ⟨true, x1, 0⟩ ⟨true, x1, y1⟩ rfl rfl HM1.out HM8.out (by decide) (den_cells _ _ _ HM8.out) F6.out (HY1.out.from C6.out) ?_; intro w7 hfb7 hgr7
              have C7 : Hid (From wz w7) := C6.out.grown hgr7 C6.out.size (by intro q hq; injection hq with hq; omega)
              have F7 := Lib.hid hfb7; have R7 := Lib.hid (HFB.out.below C7.out HFB.out.lt); clear hfb7 hgr7 F6)
           | ((with_reducible refine g_ld 37 ?_); refine wpList_ld rfl _ _ rfl _ rfl _ F7.out.ld ?_)
           | ((with_reducible refine g_st 37 ?_); refine wpList_stF (f := ⟨true, x1, y1⟩) rfl _ _ rfl rfl rfl R7.out ?_; intro w8 hfb8 hgr8))
          refine bodyPost_ret (results_frac_err rfl _ rfl hfb8) rfl ?_
          refine ⟨?_, (HB.out.trans (C7.out.mono HB.out.size)).grown hgr8 (Nat.le_trans HB.out.size C7.out.size) (by intro q hq; injection hq with hq; omega)⟩
          rw [HFIT.out, if_pos ⟨(len_top _).2 HL8.out, (len_top _).2 HM8.out⟩]
          simp [HX0.out]
     · have c1 : ¬ (8 : Int) < (n1 : Int) := by have := HN1.out; omega
       have c2 : (8 : Int) < (m1 : Int) := by have := HM1.out; omega
       have HE := Lib.hid hy8
       clear hx8 hy8
       go_wp2_with (first
        | ((with_reducible refine g_st 37 ?_); refine wpList_stF (f := zeroF) rfl _ _ rfl rfl rfl HFB.out ?_; intro w5 hfb5 hgr5))
       refine bodyPost_ret (results_frac_err rfl _ rfl hfb5) rfl ?_
       refine ⟨?_, HB.out.grown hgr5 HB.out.size (by intro q hq; injection hq with hq; omega)⟩
       rw [HFIT.out, if_neg (fun h => HE.out ((len_top _).1 h.2))]
       rfl
   · have c1 : (8 : Int) < (n1 : Int) := by have := HN1.out; omega
     have HE := Lib.hid hx8
     clear hx8
     go_wp2_with (first
      | ((with_reducible refine g_st 37 ?_); refine wpList_stF (f := zeroF) rfl _ _ rfl rfl rfl HFB.out ?_; intro w5 hfb5 hgr5))
     refine bodyPost_ret (results_frac_err rfl _ rfl hfb5) rfl ?_
     refine ⟨?_, HB.out.grown hgr5 HB.out.size (by intro q hq; injection hq with hq; omega)⟩
     rw [HFIT.out, if_neg (fun h => HE.out ((len_top _).1 h.1))]
     rfl
end Go.Proofs.Ytcdfnlgimbecgaa
