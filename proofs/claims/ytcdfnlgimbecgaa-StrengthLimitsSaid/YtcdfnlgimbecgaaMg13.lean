/-
  A fraction that lies in a block of its own: loads, stores, copies into its numbers, results.
  strength: within, light.
-/
import Derived.Test.YtcdfnlgimbecgaaMg2
import Derived.Test.YtcdfnlgimbecgaaMg12

namespace Go.Proofs.Ytcdfnlgimbecgaa
open Go.RowKit

/-- the block at g holds the fraction f -/
def FB (w : World) (g : Nat) (f : FracV) : Prop := w.heap[g]? = some (.cells f.cells.toArray 37 (0, 0))

theorem FB.lt {w : World} {g : Nat} {f : FracV} (h : FB w g f) : g < w.heap.size := (Array.getElem?_eq_some_iff.1 h).1
theorem FB.keep {w w' : World} {g : Nat} {f : FracV} (h : FB w g f) (hg : w'.heap[g]? = w.heap[g]?) : FB w' g f := hg.trans h
theorem FB.below {w w' : World} {B g : Nat} {f : FracV} (h : FB w g f) (hb : Below B w w') (hg : g < B) : FB w' g f := h.keep (hb.block g hg)
theorem FB.new (w : World) (f : FracV) : FB (w.alloc (.cells f.cells.toArray 37)) w.heap.size f := heap_alloc_new w _
theorem frac_row : IsRow Try.prog 37 17 := ⟨_, Try.underlying37, by kernel_rfl, by kernel_rfl⟩
theorem frac_size : (Try.prog.info? 37).map (·.size) = some 17 := by kernel_rfl
theorem FB.ld {w : World} {g : Nat} {f : FracV} (h : FB w g f) : (loadVar 37 ⟨g, 0, none⟩).run Try.prog w = .ok f.val w :=
  run_load_cells (cs := f.cells) frac_row f.cells_len (fun j x hx => by
    rw [Addr.add_lit, cell_of_row w g (0 + j) _ _ _ h]
    simpa using hx)
theorem FB.ld_neg {w : World} {g : Nat} {f : FracV} (h : FB w g f) : (loadVar 4 ⟨g, 0, none⟩).run Try.prog w = .ok (.bool f.neg) w :=
  run_load_cell Try.underlying4 rfl (by rw [cell_of_row w g 0 _ _ _ h]; rfl)
theorem zeroF_cells : zeroF.cells.toArray = #[Value.bool false, .int .u32 0, .int .u32 0, .int .u32 0, .int .u32 0, .int .u32 0, .int .u32 0, .int .u32 0, .int .u32 0, .int .u32 0, .int .u32 0, .int .u32 0, .int .u32 0, .int .u32 0, .int .u32 0, .int .u32 0, .int .u32 0] := rfl

theorem wpList_stF {w : World} {ops : Array Oper} {rest : List Oper} {o : Oper} {a : Act} {Q : Exit → Act → World → Prop} {g : Nat} {f f0 : FracV} (hgd : o.guard = none) (x y : Operand) (ho : o.op = .store 37 x y) (hx : a.eval x = .pointer (some ⟨g, 0, none⟩)) (hy : a.eval y = f.val) (hfb : FB w g f0)
    (h : ∀ w', FB w' g f → w.grownBy w' (some g) → wpList Try.prog ops Q rest (a.put o.dst undef) w') : wpList Try.prog ops Q (o :: rest) a w := by
  refine wpList_st (cs := f.cells) hgd x y ho hx hy frac_size rfl f.cells_len hfb (by simp [f0.cells_len]) f.ones fun cur' w' hc hs hg hgr => h w' ?_ hgr
  have e : cur' = f.cells.toArray := by
    apply Array.ext'
    rw [hc]
    simp [f0.cells_len]
  rw [e] at hg
  exact hg

/-- the cells of a number that has been written over zeros -/
theorem pad_cells {x : Nat} (h : len32 x ≤ 8) : (pad B32 8 x).map (fun (n : Nat) => Value.int .u32 (n : Int)) = (dig B32 x).map (fun (n : Nat) => Value.int .u32 (n : Int)) ++ ((pad B32 8 0).map fun (n : Nat) => Value.int .u32 (n : Int)).drop (len32 x) := by
  have hx : x < B32 ^ 8 := lt_of_dig_len hB32 h
  rw [pad_dig hB32 hx, pad_zero, List.map_append, ← List.map_drop, List.drop_replicate]

set_option maxRecDepth 100000 in
theorem wpList_copyF {w : World} {ops : Array Oper} {rest : List Oper} {o : Oper} {a : Act} {Q : Exit → Act → World → Prop} (hgd : o.guard = none) (d s : Operand) (dT sT : TypeId)
    (ho : o.op = .call { callee := .builtin .copy, args := #[d, s], argTypes := #[dT, sT] }) (elem : TypeId) (hu : Try.prog.underlying dT = some (.slice elem)) (hsz : (Try.prog.info? elem).map (·.size) = some 1)
    {g off x sl sc : Nat} {A : Option Addr} (f f' : FracV) (hd : a.eval d = .slice (some ⟨g, off, none⟩) 8 8) (hs : a.eval s = .slice A sl sc) (hsl : sl = len32 x) (hle : len32 x ≤ 8)
    (hoff : off + 8 ≤ 17) (hf : f'.cells = f.cells.take off ++ ((dig B32 x).map (fun (n : Nat) => Value.int .u32 (n : Int)) ++ f.cells.drop (off + len32 x))) (hfb : FB w g f) (hrd : Rd32 w A x)
    (h : ∀ w', FB w' g f' → w.grownBy w' (some g) → wpList Try.prog ops Q rest (a.put o.dst (.int .i64 (sl : Int))) w') : wpList Try.prog ops Q (o :: rest) a w := by
  have hcl : ((dig B32 x).map fun (n : Nat) => Value.int .u32 (n : Int)).length = len32 x := by simp
  by_cases h0 : len32 x = 0
  · have hd0 : dig B32 x = [] := List.eq_nil_of_length_eq_zero h0
    refine wpList_copy_nothing hgd d s dT sT ho elem hu hsz _ _ _ _ _ _ hd hs (by rw [hsl, h0]; rfl) ?_
    have e : f'.cells = f.cells := by
      rw [hf, hd0, h0]
      simp
    have h1 := h w (by unfold FB at *; rw [e]; exact hfb) ⟨rfl, rfl, rfl, Nat.le_refl _, fun _ _ _ => rfl⟩
    rw [hsl, h0] at h1
    exact h1
  · obtain ⟨b, off', rfl, _, _, _⟩ := hrd 0 _ (nums_get (k := .u32) (l := dig B32 x) (show 0 < len32 x by omega))
    refine wpList_copy_own hgd d s dT sT ho elem hu hsz g off 8 8 ⟨b, off', none⟩ sl sc hd hs _ _ hfb ((dig B32 x).map fun (n : Nat) => Value.int .u32 (n : Int)) (by rw [hcl, hsl]; exact (Nat.min_eq_left hle).symm) ?_ (by rw [hcl]; simp [f.cells_len]; omega) (by simp [Value.oneCell']) ?_
    · intro j v hv
      rw [List.getElem?_map] at hv
      obtain ⟨n, hn, rfl⟩ := Option.map_eq_some_iff.1 hv
      have hjl := (List.getElem?_eq_some_iff.1 hn).1
      obtain ⟨b', off2, e, _, _, hc⟩ := hrd j _ (nums_get (k := .u32) hjl)
      injection e with e
      injection e with e1 e2
      subst e1; subst e2
      have h1 := hc 0 _ rfl
      rw [Addr.add_lit]
      simp only [Nat.mul_one, Nat.add_zero] at h1
      rw [h1]
      have h2 := (List.getElem?_eq_some_iff.1 hn).2
      rw [h2]
    · have h1 := h (w.setRow g (f.cells.toArray.toList.take off ++ (((dig B32 x).map fun (n : Nat) => Value.int .u32 (n : Int)) ++ f.cells.toArray.toList.drop (off + ((dig B32 x).map fun (n : Nat) => Value.int .u32 (n : Int)).length))).toArray) ?_ ⟨rfl, rfl, rfl, by simp, fun q _ hq => setRow_other w g q _ (fun e => hq (by rw [e]))⟩
      · rw [hcl, ← hsl]
        rw [hcl, ← hsl] at h1
        exact h1
      · unfold FB
        rw [setRow_heap w g _ _ _ (0, 0) hfb, hcl, hf]

/-- the numerator ¦ the denominator, written over a zero -/
theorem num_cells (b : Bool) (x d : Nat) (h : len32 x ≤ 8) : (FracV.mk b x d).cells = (FracV.mk b 0 d).cells.take 1 ++ ((dig B32 x).map (fun (n : Nat) => Value.int .u32 (n : Int)) ++ (FracV.mk b 0 d).cells.drop (1 + len32 x)) := by
  unfold FracV.cells
  rw [pad_cells h]
  simp only [List.cons_append, List.nil_append, List.take_succ_cons, List.take_zero, List.append_assoc]
  rw [show 1 + len32 x = len32 x + 1 by omega, List.drop_succ_cons, List.drop_append_of_le_length (by rw [List.length_map, pad_len]; exact h)]
theorem den_cells (b : Bool) (x d : Nat) (h : len32 d ≤ 8) : (FracV.mk b x d).cells = (FracV.mk b x 0).cells.take 9 ++ ((dig B32 d).map (fun (n : Nat) => Value.int .u32 (n : Int)) ++ (FracV.mk b x 0).cells.drop (9 + len32 d)) := by
  unfold FracV.cells
  rw [pad_cells h]
  have hl : ([Value.bool b] ++ (pad B32 8 x).map (fun (n : Nat) => Value.int .u32 (n : Int))).length = 9 := by simp [pad_len]
  have e1 : ([Value.bool b] ++ (pad B32 8 x).map (fun (n : Nat) => Value.int .u32 (n : Int)) ++ (pad B32 8 0).map (fun (n : Nat) => Value.int .u32 (n : Int))).take 9 = [Value.bool b] ++ (pad B32 8 x).map (fun (n : Nat) => Value.int .u32 (n : Int)) := List.take_left' hl
  have e2 : ([Value.bool b] ++ (pad B32 8 x).map (fun (n : Nat) => Value.int .u32 (n : Int)) ++ (pad B32 8 0).map (fun (n : Nat) => Value.int .u32 (n : Int))).drop (9 + len32 d) = ((pad B32 8 0).map (fun (n : Nat) => Value.int .u32 (n : Int))).drop (len32 d) := by
    rw [← List.drop_drop, List.drop_left' hl]
  simp only [] at *
  rw [e1, e2]

theorem results_frac_err {fn : Func} {p t : Tmp} (h : fn.results = #[.cell p 37, .tmp t]) (tmps : Array Value) {w : World} {g : Nat} {f : FracV} (hp : tmps.getD p undef = .pointer (some ⟨g, 0, none⟩)) (hfb : FB w g f) :
    (results fn tmps).run Try.prog w = .ok (.tuple #[f.val, tmps.getD t undef]) w := by
  have hl := hfb.ld
  have hp' : tmps[p]?.getD undef = .pointer (some ⟨g, 0, none⟩) := by simpa using hp
  simp [results, h, hp', asAddr, hl]
theorem results_frac {fn : Func} {p : Tmp} (h : fn.results = #[.cell p 37]) (tmps : Array Value) {w : World} {g : Nat} {f : FracV} (hp : tmps.getD p undef = .pointer (some ⟨g, 0, none⟩)) (hfb : FB w g f) :
    (results fn tmps).run Try.prog w = .ok f.val w := by
  have hl := hfb.ld
  have hp' : tmps[p]?.getD undef = .pointer (some ⟨g, 0, none⟩) := by simpa using hp
  simp [results, h, hp', asAddr, hl]
end Go.Proofs.Ytcdfnlgimbecgaa

namespace Go.Proofs.Ytcdfnlgimbecgaa
open Go.RowKit

theorem st_within (n low high : Int) (w : World) : Calls Try.prog 39 #[.int .i64 n, .int .i64 low, .int .i64 high] w fun e w' => e = .returned (.bool (decide (low ≤ n ∧ n ≤ high))) ∧ w' = w := by
  by_cases h1 : low ≤ n
  · by_cases h2 : n ≤ high
    · have h3 : decide (low ≤ n ∧ n ≤ high) = true := by simp [h1, h2]
      rw [h3]
      clear h3
      go_enter Try.func39, Try.ntmps39
      go_wp2
      go_ret
      exact ⟨rfl, rfl⟩
    · have h3 : decide (low ≤ n ∧ n ≤ high) = false := by simp; omega
      rw [h3]
      clear h3
      go_enter Try.func39, Try.ntmps39
      go_wp2
      go_ret
      exact ⟨rfl, rfl⟩
  · have h3 : decide (low ≤ n ∧ n ≤ high) = false := by simp; omega
    rw [h3]
    clear h3
    go_enter Try.func39, Try.ntmps39
    go_wp2
    go_ret
    exact ⟨rfl, rfl⟩

set_option maxRecDepth 100000 in
set_option maxHeartbeats 4000000 in
theorem st_light (A : Option Addr) (c n : Nat) (l : List Frm) (hn : n = l.length) (w : World) (h : Rd w w.heap.size 5 A (l.map Frm.cells)) (hl : l.length ≤ 1000) (hok : ∀ f ∈ l, f.ok = true) :
    Calls Try.prog 49 #[.slice A n c] w fun e w' => e = .returned (.int .i64 (lightF l)) ∧ Below w.heap.size w w' := by
  have HOK := Lib.hid hok
  have HN := Lib.hid hn
  have HR := Lib.hid h
  have hn1 : n ≤ 1000 := by omega
  obtain ⟨r, hr⟩ : ∃ r, r = lightF l := ⟨_, rfl⟩
  have HRR := Lib.hid hr
  rw [← hr]
  clear h hok hl hn hr
  go_enter Try.func49, Try.ntmps49
  go_wp2
  go_loopw [3, 8] (fun sv iv wr => ∃ (k : Nat) (s : Int), k ≤ n ∧ iv = .int .i64 k ∧ sv = .int .i64 s ∧ 0 ≤ s ∧ s ≤ 1000000000 ∧ lightFrom s (l.drop k) = r ∧ Below w.heap.size w wr) (fun _ iv _ => n - (intOf iv).toNat)
  case atStart => exact ⟨0, 0, Nat.zero_le _, rfl, rfl, by omega, by omega, HRR.out.symm, Below.refl _ _⟩
  case round =>
    obtain ⟨k, s, hk, rfl, rfl, hs0, hs1, hls, hb⟩ := hrel
    have HLS := Lib.hid hls
    have HB := Lib.hid hb
    clear hls hb
    by_cases hkn : k < n
    · have hkl : k < l.length := by rw [← HN.out]; exact hkn
      obtain ⟨g, off, rfl, hg, hld⟩ := Frm.ld HR.out (k := k) (b := l[k]) (by simp [hkl])
      obtain ⟨f, hf⟩ : ∃ f, f = l[k] := ⟨_, rfl⟩
      rw [← hf] at hld
      have HLD := Lib.hid (hld wr HB.out)
      have HF := Lib.hid (Frm.ok_nums (HOK.out f (by rw [hf]; exact List.getElem_mem hkl)))
      have HDR : Hid (l.drop k = f :: l.drop (k + 1)) := by unfold Hid; rw [hf]; exact List.drop_eq_getElem_cons hkl
      have hki : (k : Int) < (n : Int) := by omega
      have hw1 : IntKind.i64.wrap (s + f.light) = s + f.light := by have := HF.out; rw [wrap_i64 (by omega) (by omega)]
      clear hld hf hkl
      have HST : Hid (lightFrom (if s ≤ 500000000 then s + f.light else s) (l.drop (k + 1)) = r) := by
        unfold Hid
        rw [← HLS.out, HDR.out]
        rfl
      by_cases hs2 : s ≤ 500000000
      · have hst := HST.out
        rw [if_pos hs2] at hst
        have HST2 := Lib.hid hst
        clear hst HST
        go_wp2_with (first
          | ((with_reducible refine g_ld 44 ?_); refine wpList_ld rfl _ _ rfl _ rfl _ HLD.out ?_))
        go_roundw
        case rel => exact ⟨k + 1, s + f.light, by omega, by go_num, rfl, by have := HF.out; omega, by have := HF.out; omega, HST2.out, HB.out.alloc HB.out.size _⟩
        case measure => simp [intOf]; omega
      · have hst := HST.out
        rw [if_neg hs2] at hst
        have HST2 := Lib.hid hst
        clear hst HST
        go_wp2_with (first
          | ((with_reducible refine g_ld 44 ?_); refine wpList_ld rfl _ _ rfl _ rfl _ HLD.out ?_))
        go_roundw
        case rel => exact ⟨k + 1, s, by omega, by go_num, rfl, by omega, by omega, HST2.out, HB.out.alloc HB.out.size _⟩
        case measure => simp [intOf]; omega
    · obtain rfl : k = n := by omega
      have hfin : Hid (s = r) := by
        have h1 := HLS.out
        rw [List.drop_of_length_le (by rw [← HN.out]; exact Nat.le_refl _)] at h1
        exact h1
      have hkk : ¬ (k : Int) < (k : Int) := by omega
      clear HLS
      go_wp2
      go_ret
      exact ⟨by rw [← hfin.out]; rfl, HB.out⟩
end Go.Proofs.Ytcdfnlgimbecgaa
