/-
  strength: a Stress in a block of its own; beyond; is a stress not right (slices.ContainsFunc).
-/
import Derived.Test.YtcdfnlgimbecgaaMt25
import Derived.Test.YtcdfnlgimbecgaaMt26
namespace Go.Proofs.Ytcdfnlgimbecgaa
open Go.RowKit
abbrev Str.val (s : Str) : Value := .agg s.cells.toArray
theorem str_row : IsRow Try.prog 40 34 := ⟨_, Try.underlying40, by kernel_rfl, by kernel_rfl⟩
theorem str_size : (Try.prog.info? 40).map (·.size) = some 34 := by kernel_rfl
def SB (w : World) (g : Nat) (s : Str) : Prop := w.heap[g]? = some (.cells s.cells.toArray 40 (0, 0))
theorem SB.lt {w : World} {g : Nat} {s : Str} (h : SB w g s) : g < w.heap.size := (Array.getElem?_eq_some_iff.1 h).1
theorem SB.below {w w' : World} {B g : Nat} {s : Str} (h : SB w g s) (hb : Below B w w') (hg : g < B) : SB w' g s := (hb.block g hg).trans h
theorem SB.new (w : World) (s : Str) : SB (w.alloc (.cells s.cells.toArray 40)) w.heap.size s := heap_alloc_new w _
theorem SB.ldS {w : World} {g : Nat} {s : Str} (h : SB w g s) : (loadVar 37 ⟨g, 0, none⟩).run Try.prog w = .ok s.shear.val w :=
 run_load_cells (cs := s.shear.cells) frac_row s.shear.cells_len (fun j x hx => by
  rw [Addr.add_lit, cell_of_row w g (0 + j) _ _ _ h]
  have h1 := (List.getElem?_eq_some_iff.1 hx).1
  unfold Str.cells
  rw [Nat.zero_add, List.getElem?_toArray, List.getElem?_append_left h1]
  exact hx)
theorem SB.ldB {w : World} {g : Nat} {s : Str} (h : SB w g s) : (loadVar 37 ⟨g, 17, none⟩).run Try.prog w = .ok s.bend.val w :=
 run_load_cells (cs := s.bend.cells) frac_row s.bend.cells_len (fun j x hx => by
  rw [Addr.add_lit, cell_of_row w g (17 + j) _ _ _ h]
  unfold Str.cells
  rw [List.getElem?_toArray, List.getElem?_append_right (by rw [s.shear.cells_len]; omega), s.shear.cells_len, show 17 + j - 17 = j by omega]
  exact hx)
theorem wpList_stS {w : World} {ops : Array Oper} {rest : List Oper} {o : Oper} {a : Act} {Q : Exit → Act → World → Prop} {g : Nat} {s s0 : Str} (hgd : o.guard = none) (x y : Operand) (ho : o.op = .store 40 x y) (hx : a.eval x = .pointer (some ⟨g, 0, none⟩)) (hy : a.eval y = s.val) (hfb : SB w g s0)
 (h : ∀ w', SB w' g s → w.grownBy w' (some g) → wpList Try.prog ops Q rest (a.put o.dst undef) w') : wpList Try.prog ops Q (o :: rest) a w := by
 refine wpList_st (cs := s.cells) hgd x y ho hx hy str_size rfl s.cells_len hfb (by simp [s0.cells_len]) s.ones fun cur' w' hc hs hg hgr => h w' ?_ hgr
 have e : cur' = s.cells.toArray := by
  apply Array.ext'
  rw [hc]
  simp [s0.cells_len]
 rw [e] at hg
 exact hg
theorem Str.ld {w : World} {B : Nat} {A : Option Addr} {css : List (List Value)} (h : Rd w B 34 A css) {k : Nat} {b : Str} (hk : css[k]? = some b.cells) :
 ∃ g off, A = some ⟨g, off, none⟩ ∧ g < B ∧ ∀ w', Below B w w' → (loadVar 40 ⟨g, off + k * 34, none⟩).run Try.prog w' = .ok b.val w' := h.ld str_row hk
def Str.fits (s : Str) : Prop := s.shear.fits ∧ s.bend.fits
def beyondF (f : FracV) (n : Int) : Bool := decide (0 < (cmpL ⟨false, f.num, f.den⟩ (ofL n)).1)
set_option maxRecDepth 100000 in
set_option maxHeartbeats 4000000 in
theorem st_beyond (f : FracV) (n : Int) (hf : f.fits) (hn : inI n) (w : World) : Calls Try.prog 60 #[f.val, .int .i64 n] w fun e w' => e = .returned (.bool (beyondF f n)) ∧ Below w.heap.size w w' := by
 have hb0 : Below w.heap.size w (w.alloc (.cells f.cells.toArray 37)) := (Below.refl _ _).alloc (Nat.le_refl _) _
 have HB0 := Lib.hid hb0
 have HF := Lib.hid (FB.new w f)
 have HFF : Hid ((FracV.mk false f.num f.den).fits) := hf
 have HOF : Hid ((ofL n).fits) := ofL_fits hn
 have HN := Lib.hid hn
 obtain ⟨r1, hr1⟩ : ∃ r1, r1 = (cmpL ⟨false, f.num, f.den⟩ (ofL n)).1 := ⟨_, rfl⟩
 obtain ⟨r2, hr2⟩ : ∃ r2, r2 = (cmpL ⟨false, f.num, f.den⟩ (ofL n)).2 := ⟨_, rfl⟩
 have HV : Hid (beyondF f n = decide (0 < r1)) := by rw [hr1]; exact rfl
 have HC : Hid (∀ w1, Calls Try.prog 94 #[(FracV.mk false f.num f.den).val, (ofL n).val] w1 fun e w' => e = .returned (Value.tuple #[.int .i64 r1, .int .i64 r2]) ∧ Below w1.heap.size w1 w') := by
  intro w1
  rw [hr1, hr2]
  exact frac_Cmp _ _ HFF.out HOF.out w1
 clear hb0 hf hn hr1 hr2
 rw [HV.out]
 unfold FracV.val
 go_enter Try.func60, Try.ntmps60
 go_upto_region 2 with ((with_reducible refine g_st 4 ?_); refine wpList_stNeg (b := false) rfl _ _ rfl rfl rfl HF.out ?_; intro w2 hfb2 hgr2)
 have HF2 := Lib.hid hfb2
 have C2 : Hid (From w w2) := HB0.out.grown hgr2 HB0.out.size (by intro q hq; injection hq with hq; omega)
 clear hfb2 hgr2
 try simp only [Act.put]
 refine region_beyond (g2 := w.heap.size) (n := n) (r1 := r1) (r2 := r2) (fb := ⟨false, f.num, f.den⟩) (fo := ofL n) rfl (by kernel_rfl) (by kernel_rfl) (by kernel_rfl) rfl rfl
  (fun w1 hb => (HF2.out.below hb HF2.out.lt).ld) (fun w1 hb => frac_Of n HN.out.1 HN.out.2 w1) (fun w1 hb => HC.out w1) ?_
 intro w3 hb3
 have C3 : Hid (From w w3) := C2.out.trans (hb3.mono C2.out.size)
 clear hb3
 simp only [List.drop_succ_cons, List.drop_zero]
 simp only [Act.put, List.setIfInBounds_toArray, List.set_cons_succ, List.set_cons_zero]
 go_wp2
 go_ret
 exact ⟨rfl, C3.out⟩
def strBad (s : Str) : Bool := !s.shear.right || !s.bend.right
set_option maxRecDepth 100000 in
set_option maxHeartbeats 4000000 in
theorem st_strbad (s : Str) (hf : s.fits) (w : World) : Calls Try.prog 59 #[s.val] w fun e w' => e = .returned (.bool (strBad s)) ∧ Below w.heap.size w w' := by
 have hb0 : Below w.heap.size w (w.alloc (.cells s.cells.toArray 40)) := (Below.refl _ _).alloc (Nat.le_refl _) _
 have HB0 := Lib.hid hb0
 have HS := Lib.hid (SB.new w s)
 have HR1 := Lib.hid (fun w1 => frac_Right s.shear hf.1 w1)
 have HR2 := Lib.hid (fun w1 => frac_Right s.bend hf.2 w1)
 have HV : Hid (strBad s = (!s.shear.right || !s.bend.right)) := rfl
 clear hb0 hf
 rw [HV.out]
 clear HV
 unfold Str.val
 cases h1 : s.shear.right with
 | false =>
  rw [h1] at HR1
  clear h1 HR2
  go_enter Try.func59, Try.ntmps59
  go_wp2_with (first
   | ((with_reducible refine g_ld 37 ?_); refine wpList_ld rfl _ _ rfl _ rfl _ HS.out.ldS ?_)
   | (go_at_call 50; refine (HR1.out _).mono ?_; rintro e w1 ⟨rfl, hb1⟩; have C1 : Hid (From w w1) := HB0.out.trans (hb1.mono HB0.out.size); have HS1 := Lib.hid (HS.out.below hb1 HS.out.lt); clear hb1 HR1)
   | ((with_reducible refine g_ld 37 ?_); refine wpList_ldw rfl _ _ rfl _ rfl _ HS1.out.ldB ?_)
   | (go_at_call 50; refine (HR2.out _).mono ?_; rintro e w2 ⟨rfl, hb2⟩; have C2 : Hid (From w w2) := C1.out.trans (hb2.mono C1.out.size); clear hb2))
  go_ret
  exact ⟨rfl, C1.out⟩
 | true =>
  rw [h1] at HR1
  generalize s.bend.right = b2 at HR2 ⊢
  clear h1
  go_enter Try.func59, Try.ntmps59
  go_wp2_with (first
   | ((with_reducible refine g_ld 37 ?_); refine wpList_ld rfl _ _ rfl _ rfl _ HS.out.ldS ?_)
   | (go_at_call 50; refine (HR1.out _).mono ?_; rintro e w1 ⟨rfl, hb1⟩; have C1 : Hid (From w w1) := HB0.out.trans (hb1.mono HB0.out.size); have HS1 := Lib.hid (HS.out.below hb1 HS.out.lt); clear hb1 HR1)
   | ((with_reducible refine g_ld 37 ?_); refine wpList_ldw rfl _ _ rfl _ rfl _ HS1.out.ldB ?_)
   | (go_at_call 50; refine (HR2.out _).mono ?_; rintro e w2 ⟨rfl, hb2⟩; have C2 : Hid (From w w2) := C1.out.trans (hb2.mono C1.out.size); clear hb2))
  go_ret
  exact ⟨by simp, C2.out⟩
theorem cf59 (w : World) (args : Array Value) : (callFunc 59 args).run Try.prog w = .ok (.enter 59 args) w := by
 go_simp
set_option maxHeartbeats 1000000 in
theorem indexStr (A : Option Addr) (c : Nat) (l : List Str) (n : Nat) (hn : n = l.length) (fn : FuncId) (caps : Array Value) (p : Str → Bool) (w : World) (hA : Rd w w.heap.size 34 A (l.map Str.cells)) (hl : l.length ≤ 1000000000000) (hcf : ∀ w args, (callFunc fn args).run Try.prog w = .ok (.enter fn args) w) (hf : Tells Try.prog w fn caps Str.val p l) :
 Calls Try.prog 93 #[.slice A n c, .func (.func fn) #[] caps] w fun e w' => e = .returned (.int .i64 (idx p l)) ∧ Below w.heap.size w w' := by
 subst hn
 go_enter Try.func93, Try.ntmps93
 go_wp2
 have HF := Lib.hid hf
 clear hf
 go_loopw [5, 8] (fun _ i wr => ∃ k : Nat, k ≤ l.length ∧ i = .int .i64 k ∧ (∀ j, (h : j < k) → (h2 : j < l.length) → p l[j] = false) ∧ Below w.heap.size w wr) (fun _ i _ => l.length - (intOf i).toNat)
 case atStart => exact ⟨0, by omega, rfl, by omega, Below.refl _ _⟩
 case round =>
  obtain ⟨k, hk, rfl, hj, hb⟩ := hrel
  have HJ := Lib.hid hj
  clear hj
  by_cases hlt : k < l.length
  · obtain ⟨b, off, rfl, hb1, hld⟩ := Str.ld hA (k := k) (b := l[k]) (by simp [hlt])
    have HL := Lib.hid hld
    clear hld
    go_wp2_with (first
     | (refine wpList_ld rfl _ _ rfl _ rfl _ (HL.out _ hb) ?_)
     | (refine (HF.out l[k] (List.getElem_mem hlt) _ hb).mono ?_; rintro e w' ⟨rfl, hb3⟩))
    · have ht : p l[k] = true := by assumption
      go_ret
      exact ⟨by rw [idx_found hlt (fun j h => HJ.out j h (by omega)) ht]; rfl, hb.trans (hb3.mono hb.size)⟩
    · have hf' : p l[k] = false := by assumption
      go_roundw
      case rel =>
       refine ⟨k + 1, by omega, by go_num, fun j h h2 => ?_, hb.trans (hb3.mono hb.size)⟩
       rcases Nat.lt_or_ge j k with h3 | h3
       · exact HJ.out j h3 h2
       · obtain rfl : j = k := by omega
         exact hf'
      case measure => simp [intOf]; omega
  · obtain rfl : k = l.length := by omega
    have HI := Lib.hid (idx_none (fun j h => HJ.out j h h))
    go_wp2
    go_ret
    exact ⟨by rw [HI.out]; rfl, hb⟩
theorem st_containsS (A : Option Addr) (c n : Nat) (l : List Str) (hn : n = l.length) (hf : ∀ s ∈ l, s.fits) (w : World) (h : Rd w w.heap.size 34 A (l.map Str.cells)) (hl : l.length ≤ 1000000000000) :
 Calls Try.prog 58 #[.slice A n c, .func (.func 59) #[] #[]] w fun e w' => e = .returned (.bool (l.any strBad)) ∧ Below w.heap.size w w' := by
 have HI := Lib.hid (indexStr A c l n hn 59 #[] strBad w h hl cf59 (fun x hx w' _ => st_strbad x (hf x hx) w'))
 obtain ⟨z, hz⟩ : ∃ z, z = idx strBad l := ⟨_, rfl⟩
 rw [← hz] at HI
 have hv : l.any strBad = decide (0 ≤ z) := by
  rw [hz]
  rcases idx_cases strBad l with ⟨h1, h2⟩ | ⟨k, hk, h1, h2, _⟩
  · rw [h1]
    have h3 : l.any strBad = false := by
     rw [List.any_eq_false]
     intro x hx
     simp [h2 x hx]
    rw [h3]
    rfl
  · rw [h1]
    have h3 : l.any strBad = true := by
     rw [List.any_eq_true]
     exact ⟨_, List.getElem_mem hk, h2⟩
    rw [h3]
    simp
 rw [hv]
 clear h hn hz hv
 go_enter Try.func58, Try.ntmps58
 go_wp2_with (go_at_call 93; refine (HI.out).mono ?_; rintro e w2 ⟨rfl, hb2⟩)
 go_ret
 exact ⟨by first | rfl | simp, hb2⟩
def str0 : Str := ⟨zeroF, zeroF⟩
def overAt (l : List Frm) (ss : List Str) (i : Nat) : Bool := beyondF (ss.getD i str0).shear (l.getD i frm0).shear || beyondF (ss.getD i str0).bend (l.getD i frm0).bend
def overL (l : List Frm) (ss : List Str) (k : Nat) : List Nat := (List.range k).filter (overAt l ss)
def intRow (i : Int) : List Value := [.int .i64 i]
def overF (l : List Frm) (ss : List Str) : List Int × Int :=
 if !rightF l || decide (ss.length ≠ l.length) || ss.any strBad then ([], 2) else ((overL l ss ss.length).map (fun i : Nat => (i : Int)), 0)
def OverPost (w : World) (r : List Int × Int) (e : Ending) (w' : World) : Prop := ∃ A c, e = .returned (.tuple #[.slice A r.1.length c, .int .i64 r.2]) ∧ Rd w' w'.heap.size 1 A (r.1.map intRow) ∧ Below w.heap.size w w'
theorem OverPost.err {w w' : World} {e : Int} (hb : Below w.heap.size w w') : OverPost w ([], e) (.returned (.tuple #[.slice none 0 0, .int .i64 e])) w' := ⟨none, 0, rfl, Rd.nil _ _ _ _, hb⟩
theorem overL_succ (l : List Frm) (ss : List Str) (k : Nat) : overL l ss (k + 1) = if overAt l ss k then overL l ss k ++ [k] else overL l ss k := by
 unfold overL
 rw [List.range_succ, List.filter_append]
 cases h : overAt l ss k <;> simp [List.filter, h]
theorem overL_len (l : List Frm) (ss : List Str) (k : Nat) : (overL l ss k).length ≤ k := by
 have := List.length_filter_le (overAt l ss) (List.range k)
 simpa [overL] using this
set_option maxRecDepth 100000 in
set_option maxHeartbeats 8000000 in
theorem st_Over (A D : Option Addr) (c d n m : Nat) (l : List Frm) (ss : List Str) (hn : n = l.length) (hm : m = ss.length) (w : World) (h : Rd w w.heap.size 5 A (l.map Frm.cells)) (h' : Rd w w.heap.size 34 D (ss.map Str.cells)) (hl : l.length ≤ 1000000) (hss : ss.length ≤ 1000000) (hf : ∀ s ∈ ss, s.fits) :
 Calls Try.prog 22 #[.slice A n c, .slice D m d] w (OverPost w (overF l ss)) := by
 have hni : (n : Int) ≤ 1000000 := by omega
 have hmi : (m : Int) ≤ 1000000 := by omega
 have HRI := Lib.hid (st_Right A c n l hn w h hl)
 have HCO := Lib.hid (fun (w1 : World) (hb : From w w1) => st_containsS D d m ss hm hf w1 ((h'.below hb (Nat.le_refl _)).more hb.size) (by omega))
 obtain ⟨r, hr⟩ : ∃ r, r = overF l ss := ⟨_, rfl⟩
 rw [← hr]
 have HNM := Lib.hid (And.intro hn hm)
 have HR := Lib.hid h
 have HD := Lib.hid h'
 have HFI := Lib.hid hf
 have hcf := cf59
 cases hri : rightF l with
 | false =>
  have HV : Hid (r = ([], 2)) := by unfold Hid; rw [hr]; unfold overF; rw [hri]; rfl
  rw [hri] at HRI
  clear h h' hn hm hr hri hl hss hf
  go_enter Try.func22, Try.ntmps22
  go_wp2_with (first
   | (go_at_call 14; refine (HRI.out).mono ?_; rintro e w1 ⟨rfl, hb1⟩; have C1 : Hid (From w w1) := hb1; clear hb1 HRI)
   | (go_at_call 58; refine (HCO.out _ C1.out).mono ?_; rintro e w2 ⟨rfl, hb2⟩; have C2 : Hid (From w w2) := C1.out.trans (hb2.mono C1.out.size); clear hb2 HCO)
   )
  go_ret2
  rw [HV.out]
  exact OverPost.err C1.out
 | true =>
  rw [hri] at HRI
  by_cases hlen : ss.length = l.length
  · obtain rfl : m = n := by omega
    cases hsb : ss.any strBad with
    | true =>
     have HV : Hid (r = ([], 2)) := by unfold Hid; rw [hr]; unfold overF; rw [hri, hsb]; simp
     rw [hsb] at HCO
     clear h h' hn hm hr hri hl hss hf hlen hsb
     go_enter Try.func22, Try.ntmps22
     go_wp2_with (first
      | (go_at_call 14; refine (HRI.out).mono ?_; rintro e w1 ⟨rfl, hb1⟩; have C1 : Hid (From w w1) := hb1; clear hb1 HRI)
      | (go_at_call 58; refine (HCO.out _ C1.out).mono ?_; rintro e w2 ⟨rfl, hb2⟩; have C2 : Hid (From w w2) := C1.out.trans (hb2.mono C1.out.size); clear hb2 HCO)
      )
     go_ret2
     rw [HV.out]
     exact OverPost.err C2.out
    | false =>
     have HV : Hid (r = ((overL l ss m).map (fun i : Nat => (i : Int)), 0)) := by unfold Hid; rw [hr]; unfold overF; rw [hri, hsb, hm]; simp [hlen]
     rw [hsb] at HCO
     have HOK := Lib.hid (okFrom_ok none l (rightF_parts hri).2.2.1)
     clear h h' hn hm hr hri hl hss hf hlen hsb
     go_enter Try.func22, Try.ntmps22
     go_wp2_with (first
      | (go_at_call 14; refine (HRI.out).mono ?_; rintro e w1 ⟨rfl, hb1⟩; have C1 : Hid (From w w1) := hb1; clear hb1 HRI)
      | (go_at_call 58; refine (HCO.out _ C1.out).mono ?_; rintro e w2 ⟨rfl, hb2⟩; have C2 : Hid (From w w2) := C1.out.trans (hb2.mono C1.out.size); clear hb2 HCO)
      )
     have HOW0 : Hid (OwnS w2 w2.heap.size 3 1 none 0 ((overL l ss 0).map fun i : Nat => intRow (i : Int))) := OwnS.nil _ _ _ _
     go_loopw [6, 25] (fun ov kv wq => ∃ (k : Nat) (Ao : Option Addr) (co : Nat), k ≤ m ∧ kv = .int .i64 k ∧ ov = .slice Ao (overL l ss k).length co ∧ OwnS wq w2.heap.size 3 1 Ao co ((overL l ss k).map fun i : Nat => intRow (i : Int)) ∧ From w2 wq) (fun _ kv _ => m - (intOf kv).toNat)
     case atStart => exact ⟨0, none, 0, Nat.zero_le _, rfl, rfl, HOW0.out, Below.refl _ _⟩
     case round =>
      clear HOW0
      obtain ⟨k, Ao, co, hk, rfl, rfl, how, hbk⟩ := hrel
      have HOW := Lib.hid how
      have HBK := Lib.hid hbk
      clear how hbk
      by_cases hkm : k < m
      · have hkl : k < l.length := by have := HNM.out.1; omega
        have hks : k < ss.length := by have := HNM.out.2; omega
        have hki : (k : Int) < (m : Int) := by omega
        obtain ⟨gp, offp, rfl, hgp, hcp⟩ := Frm.at_ HR.out k hkl
        obtain ⟨gs, offs, rfl, hgs, hls⟩ := Str.ld HD.out (k := k) (b := ss[k]) (by simp [hks])
        obtain ⟨sk, hsk⟩ : ∃ sk, sk = ss[k] := ⟨_, rfl⟩
        obtain ⟨fk, hfk⟩ : ∃ fk, fk = l[k] := ⟨_, rfl⟩
        rw [← hsk] at hls
        simp only [← hfk] at hcp
        have CW : Hid (From w wr) := C2.out.trans (HBK.out.mono C2.out.size)
        have HLS := Lib.hid (hls wr CW.out)
        have HCP := Lib.hid (fun w1 (hb : From wr w1) => hcp w1 (CW.out.trans (hb.mono CW.out.size)))
        have HSF : Hid sk.fits := by unfold Hid; rw [hsk]; exact HFI.out _ (List.getElem_mem hks)
        have HNF := Lib.hid (Frm.ok_nums (HOK.out fk (by rw [hfk]; exact List.getElem_mem hkl)))
        have HI3 : Hid (inI fk.shear) := by have := HNF.out.2.2.2.1; unfold Hid inI; omega
        have HI4 : Hid (inI fk.bend) := by have := HNF.out.2.2.2.2; unfold Hid inI; omega
        have HATE : Hid (overAt l ss k = (beyondF sk.shear fk.shear || beyondF sk.bend fk.bend)) := by
         unfold Hid overAt
         rw [hsk, hfk]
         simp [hkl, hks]
        have HLK := Lib.hid (show (overL l ss k).length ≤ 1000000 from Nat.le_trans (overL_len l ss k) (by omega))
        have HBY1 := Lib.hid (fun w1 => st_beyond sk.shear fk.shear HSF.out.1 HI3.out w1)
        have HBY2 := Lib.hid (fun w1 => st_beyond sk.bend fk.bend HSF.out.2 HI4.out w1)
        clear hls hcp hkl hks hsk hfk hgp hgs
        go_upto_region 7 with (first
         | ((with_reducible refine g_ld 40 ?_); refine wpList_ld rfl _ _ rfl _ rfl _ HLS.out ?_)
         | ((with_reducible refine g_st 40 ?_); refine wpList_stS (s := sk) rfl _ _ rfl rfl rfl (SB.new wr str0) ?_; intro w7 hsb7 hgr7))
        have HS7 := Lib.hid hsb7
        have C7 : Hid (From wr w7) := ((Below.refl wr.heap.size wr).alloc (Nat.le_refl _) _).grown hgr7 (by simp) (by intro q hq; injection hq with hq; omega)
        clear hsb7 hgr7
        try simp only [Act.put]
        cases hb1 : beyondF sk.shear fk.shear with
        | true =>
         have HAT : Hid (overAt l ss k = true) := by unfold Hid; rw [HATE.out, hb1]; rfl
         rw [hb1] at HBY1
         clear hb1 HATE HBY2
         refine region_over_t (g8 := wr.heap.size) (gp := gp) (offp := offp) (np := m) (cp := c) (kk := k) (n3 := fk.shear) (fs := sk.shear) hki rfl (by kernel_rfl) (by kernel_rfl) (by kernel_rfl) rfl rfl rfl
          (fun w1 hb => (HS7.out.below hb HS7.out.lt).ldS) (fun w1 hb => run_load_cell Try.underlying3 rfl (HCP.out w1 (C7.out.trans (hb.mono C7.out.size))).2.2.2.1) (fun w1 hb => HBY1.out w1) ?_
         intro w8 hb8
         have C8 : Hid (From wr w8) := C7.out.trans (hb8.mono C7.out.size)
         clear hb8
         simp only [List.drop_succ_cons, List.drop_zero]
         simp only [Act.put, List.setIfInBounds_toArray, List.set_cons_succ, List.set_cons_zero]
         go_wp2_with (first
          | (at_builtin; go_loud (refine wpList_append_n rfl _ _ rfl int_ei (overL l ss k).length (by simp) rfl ((HOW.out.below C8.out (Nat.le_refl _)).alloc _) rfl _ (Rd.new2 _ 3 1 (intRow (k : Int)) rfl) rfl (by intro cs hc u hu; rw [List.mem_singleton] at hc; subst hc; simp [intRow] at hu; subst hu; rfl) (by rw [List.length_map]; have := HLK.out; unfold maxLen; omega) (by rw [List.length_map]; have := HLK.out; omega) (by have := HBK.out.size; have := C8.out.size; simp; omega) ?_); intro A5 c5 w5 how5 hg5 hb5))
         have HOW5 := Lib.hid how5
         have C9 : Hid (From wr (w8.alloc (.cells (intRow (k : Int)).toArray 3))) := C8.out.alloc C8.out.size _
         have C5 : Hid (From w2 w5) := (HBK.out.trans (C9.out.mono HBK.out.size)).trans hb5
         clear how5 hg5 hb5
         go_roundw
         case rel =>
          refine ⟨k + 1, A5, c5, by omega, by go_num, ?_, ?_, C5.out⟩
          · rw [overL_succ, HAT.out, if_pos rfl, List.length_append]; rfl
          · have h1 := HOW5.out
            rw [overL_succ, HAT.out, if_pos rfl, List.map_append]
            exact h1
         case measure => simp [intOf]; omega
        | false =>
         rw [hb1] at HBY1 HATE
         obtain ⟨b2, hb2⟩ : ∃ b2, b2 = beyondF sk.bend fk.bend := ⟨_, rfl⟩
         have HAT : Hid (overAt l ss k = b2) := by unfold Hid; rw [HATE.out, hb2]; rfl
         rw [← hb2] at HBY2
         clear hb1 HATE hb2
         refine region_over_f (g8 := wr.heap.size) (gp := gp) (offp := offp) (np := m) (cp := c) (kk := k) (n3 := fk.shear) (n4 := fk.bend) (fs := sk.shear) (fb := sk.bend) (b2 := b2) hki rfl (by kernel_rfl) (by kernel_rfl) (by kernel_rfl) rfl rfl rfl
          (fun w1 hb => (HS7.out.below hb HS7.out.lt).ldS) (fun w1 hb => run_load_cell Try.underlying3 rfl (HCP.out w1 (C7.out.trans (hb.mono C7.out.size))).2.2.2.1) (fun w1 hb => HBY1.out w1)
          (fun w1 hb => (HS7.out.below hb HS7.out.lt).ldB) (fun w1 hb => run_load_cell Try.underlying3 rfl (HCP.out w1 (C7.out.trans (hb.mono C7.out.size))).2.2.2.2) (fun w1 hb => HBY2.out w1) ?_
         intro w8 hb8
         have C8 : Hid (From wr w8) := C7.out.trans (hb8.mono C7.out.size)
         clear hb8
         simp only [List.drop_succ_cons, List.drop_zero]
         simp only [Act.put, List.setIfInBounds_toArray, List.set_cons_succ, List.set_cons_zero]
         cases b2 with
         | true =>
          go_wp2_with (first
           | (at_builtin; go_loud (refine wpList_append_n rfl _ _ rfl int_ei (overL l ss k).length (by simp) rfl ((HOW.out.below C8.out (Nat.le_refl _)).alloc _) rfl _ (Rd.new2 _ 3 1 (intRow (k : Int)) rfl) rfl (by intro cs hc u hu; rw [List.mem_singleton] at hc; subst hc; simp [intRow] at hu; subst hu; rfl) (by rw [List.length_map]; have := HLK.out; unfold maxLen; omega) (by rw [List.length_map]; have := HLK.out; omega) (by have := HBK.out.size; have := C8.out.size; simp; omega) ?_); intro A5 c5 w5 how5 hg5 hb5))
          have HOW5 := Lib.hid how5
          have C9 : Hid (From wr (w8.alloc (.cells (intRow (k : Int)).toArray 3))) := C8.out.alloc C8.out.size _
          have C5 : Hid (From w2 w5) := (HBK.out.trans (C9.out.mono HBK.out.size)).trans hb5
          clear how5 hg5 hb5
          go_roundw
          case rel =>
           refine ⟨k + 1, A5, c5, by omega, by go_num, ?_, ?_, C5.out⟩
           · rw [overL_succ, HAT.out, if_pos rfl, List.length_append]; rfl
           · have h1 := HOW5.out
             rw [overL_succ, HAT.out, if_pos rfl, List.map_append]
             exact h1
          case measure => simp [intOf]; omega
         | false =>
          go_wp2
          have HOW5 := Lib.hid (HOW.out.below C8.out (Nat.le_refl _))
          have C5 : Hid (From w2 w8) := HBK.out.trans (C8.out.mono HBK.out.size)
          go_roundw
          case rel =>
           refine ⟨k + 1, Ao, co, by omega, by go_num, ?_, ?_, C5.out⟩
           · rw [overL_succ, HAT.out]; rfl
           · have h1 := HOW5.out
             rw [overL_succ, HAT.out]
             exact h1
          case measure => simp [intOf]; omega
      · obtain rfl : k = m := by omega
        have hkk : ¬ (k : Int) < (k : Int) := by omega
        go_wp2
        go_ret2
        rw [HV.out]
        refine ⟨Ao, co, by rw [List.length_map]; rfl, ?_, C2.out.trans (HBK.out.mono C2.out.size)⟩
        rw [List.map_map]
        exact HOW.out.rd
  · have HV : Hid (r = ([], 2)) := by unfold Hid; rw [hr]; unfold overF; rw [hri]; simp [hlen]
    have hne : ¬ (m : Int) = (n : Int) := by omega
    clear h h' hn hm hr hri hl hss hf hlen
    go_enter Try.func22, Try.ntmps22
    go_wp2_with (first
     | (go_at_call 14; refine (HRI.out).mono ?_; rintro e w1 ⟨rfl, hb1⟩; have C1 : Hid (From w w1) := hb1; clear hb1 HRI)
     | (go_at_call 58; refine (HCO.out _ C1.out).mono ?_; rintro e w2 ⟨rfl, hb2⟩; have C2 : Hid (From w w2) := C1.out.trans (hb2.mono C1.out.size); clear hb2 HCO)
     )
    go_ret2
    rw [HV.out]
    exact OverPost.err C1.out
def exF : List Frm := [⟨0, 10, 2500, 100, 500⟩, ⟨100, 0, 2500, 9, 434⟩, ⟨200, 20, 5000, 5, 579⟩, ⟨400, 0, 0, 0, 0⟩]
def exC : List Str := [⟨ofL 0, ofL 0⟩, ⟨(ratioL (-165) 19).1, (ratioL (-8250) 19).1⟩, ⟨(ratioL 110 19).1, (ratioL (-11000) 19).1⟩, ⟨ofL 0, ofL 0⟩]
theorem ex_curve : curveF exF [⟨150, 30⟩] = (exC, 0) := by kernel_rfl
theorem ex_over : overF exF exC = ([1, 2], 0) := by kernel_rfl
set_option maxRecDepth 100000 in
theorem law_example (w : World) : Calls Try.prog 36 #[] w fun e w' => ∃ A c, e = .returned (.slice A 4 c) ∧ Rd w' w'.heap.size 5 A (exF.map Frm.cells) ∧ Below w.heap.size w w' := by
 go_enter Try.func36, Try.ntmps36
 go_wp2
 go_ret
 refine ⟨_, _, rfl, ?_, (Below.refl _ _).alloc (Nat.le_refl _) _⟩
 exact Rd.rows (css := exF.map Frm.cells) (heap_alloc_new w _) rfl (by simp [exF, Frm.cells])
set_option maxRecDepth 100000 in
set_option maxHeartbeats 4000000 in
theorem law_ratio (a b : Int) (ha : inI a) (hb : inI b) (w : World) : Calls Try.prog 19 #[.int .i64 a, .int .i64 b] w fun e w' => e = .returned (ratioL a b).1.val ∧ Below w.heap.size w w' := by
 obtain ⟨r, hr⟩ : ∃ r, r = ratioL a b := ⟨_, rfl⟩
 have HRA := Lib.hid (fun w1 => frac_Ratio a b ha.1 ha.2 hb.1 hb.2 w1)
 rw [← hr] at HRA ⊢
 have HB1 : Hid (Below w.heap.size w (w.alloc (.cells zeroF.cells.toArray 37))) := (Below.refl _ _).alloc (Nat.le_refl _) _
 have HF1 : Hid (FB (w.alloc (.cells zeroF.cells.toArray 37)) w.heap.size zeroF) := FB.new w zeroF
 clear hr ha hb
 go_enter Try.func19, Try.ntmps19
 go_wp2_with (first
  | (go_at_call 43; refine (HRA.out _).mono ?_; rintro e w2 ⟨rfl, hb2⟩; have C2 : Hid (From w w2) := HB1.out.trans (hb2.mono HB1.out.size); have HF2 := Lib.hid (HF1.out.below hb2 HF1.out.lt); clear hb2)
  | ((with_reducible refine g_st 37 ?_); refine wpList_stF (f := r.1) rfl _ _ rfl rfl rfl (FB.new w2 zeroF) ?_; intro w3 hfb3 hgr3; have HF3 := Lib.hid hfb3; have C23 : Hid (From w2 w3) := ((Below.refl w2.heap.size w2).alloc (Nat.le_refl _) _).grown hgr3 (by simp) (by intro q hq; injection hq with hq; omega); have HF4 := Lib.hid (HF2.out.below C23.out HF2.out.lt); clear hfb3 hgr3)
  | ((with_reducible refine g_ld 37 ?_); refine wpList_ld rfl _ _ rfl _ rfl _ HF3.out.ld ?_)
  | ((with_reducible refine g_st 37 ?_); refine wpList_stF (f := r.1) rfl _ _ rfl rfl rfl HF4.out ?_; intro w5 hfb5 hgr5))
 refine bodyPost_ret (results_frac rfl _ rfl hfb5) rfl ⟨rfl, (C2.out.trans (C23.out.mono C2.out.size)).grown hgr5 (Nat.le_trans C2.out.size C23.out.size) (by intro q hq; injection hq with hq; omega)⟩
end Go.Proofs.Ytcdfnlgimbecgaa
