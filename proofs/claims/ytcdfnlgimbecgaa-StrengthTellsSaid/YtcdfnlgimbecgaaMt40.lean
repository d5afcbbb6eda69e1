/-
  twistlockref18: of, inside.
-/
import Derived.Test.YtcdfnlgimbecgaaMt39
namespace Go.Proofs.Ytcdfnlgimbecgaa
open Go.RowKit
theorem cf_of18 (w : World) (args : Array Value) : (callFunc 73 args).run Try.prog w = .ok (.enter 73 args) w := by
 go_simp
theorem cf_Cmp01 (w : World) (args : Array Value) : (callFunc 109 args).run Try.prog w = .ok (.enter 109 args) w := by
 go_simp
theorem ok_negI {P : Program} {ρ : Operand → Value} {d : Option Nat} {ty : TypeId} {pos : String} {aft : Array Edge} {gd : Option (Nat × Bool)} {v : Value} {w : World} {k : IntKind} {m z : Int} {t : TypeId} {x : Operand} (hx : ρ x = .int k m) (hz : k.wrap (0 - m) = z) (hv : v = .int k z) : (execOp ρ ⟨d, .unOp .neg t x, ty, pos, aft, gd⟩).run P w = .ok (.value v) w := by
 subst hv hz
 unfold execOp
 simp only [hx, Op.unary, Op.intArith, Sem.run_bind, Sem.run_pure, Result.andThen_ok]
set_option maxRecDepth 100000 in
set_option maxHeartbeats 1000000 in
theorem r18_of (n : Int) (h1 : -9223372036854775808 ≤ n) (h2 : n < 9223372036854775808) (w : World) :
 Calls Try.prog 73 #[.int .i64 n] w fun e w' => e = .returned (.agg (ofL n).cells.toArray) ∧ From w w' := by
 have HM0 := Lib.hid ((Mem.nil w).alloc 91 zeroF.cells)
 have HR := Lib.hid (ref_Of n h1 h2)
 clear h1 h2
 go_enter Try.func73, Try.ntmps73
 go_wp2_with (first
  | (go_at_call 102; go_loud (refine (HR.out _).mono ?_); rintro e w3 ⟨rfl, hb⟩; have HM3 := Lib.hid (HM0.out.call hb); clear hb)
  | ((with_reducible refine g_st 91 ?_); go_loud (refine wpList_stB (cs' := FracV.cells (ofL n)) rfl _ _ rfl HM3.out 0 rfl rfl rfl f01_size rfl (FracV.cells_len _) (FracV.cells_len _) (FracV.ones _) ?_); intro w6 h6))
 exact bodyPost_ret (results_box1 rfl _ rfl (h6.ldb f01_row (FracV.cells_len _) (i := 0) rfl _ (Below.refl _ _))) rfl ⟨rfl, h6.from_⟩
def insideF (f : FracV) (n : Int) : Bool := decide ((cmpL f (ofL n)).1 ≤ 0) && decide (0 ≤ (cmpL f (ofL (-n))).1)
theorem cmpNat_le0 (x y : Nat) : decide (cmpNat x y ≤ 0) = decide (¬ y < x) := by
 unfold cmpNat
 by_cases h : x < y
 · rw [if_pos h, decide_eq_true (by omega), decide_eq_true (by omega)]
 · rw [if_neg h]
   by_cases h2 : y < x
   · rw [if_pos h2, decide_eq_false (by omega), decide_eq_false (by omega)]
   · rw [if_neg h2, decide_eq_true (by omega), decide_eq_true h2]
theorem inside_beyond {f : FracV} {n : Int} (hf : f.right = true) (hn : 0 ≤ n) : insideF f n = !beyondF f n := by
 cases f with
 | mk b x d =>
  have hr2 : (FracV.mk false x d).right = true := by
   unfold FracV.right at hf ⊢
   simp only [Bool.and_eq_true] at hf ⊢
   exact ⟨hf.1, by simp⟩
  have e1 : decide (n < 0) = false := decide_eq_false (by omega)
  have hb : beyondF ⟨b, x, d⟩ n = decide (0 < cmpNat (x * 1) (n.natAbs * d)) := by
   unfold beyondF cmpL
   rw [hr2, ofL_right]
   unfold ofL
   rw [e1]
   rfl
  have hlt : decide (0 < cmpNat (x * 1) (n.natAbs * d)) = decide (n.natAbs * d < x * 1) := by
   have h1 := cmpNat_le0 (x * 1) (n.natAbs * d)
   by_cases h : n.natAbs * d < x * 1
   · rw [decide_eq_true h, cmpNat_gt h]; rfl
   · rw [decide_eq_false h]
     rw [decide_eq_true h] at h1
     have := of_decide_eq_true h1
     exact decide_eq_false (by omega)
  rw [hb, hlt]
  unfold insideF cmpL
  rw [hf, ofL_right, ofL_right]
  cases b with
  | false =>
   unfold ofL
   rw [e1]
   have h3 : decide (0 ≤ (if (decide (-n < 0) && !false) = true then (1 : Int) else if (false : Bool) = true then cmpNat ((-n).natAbs * d) (x * 1) else cmpNat (x * 1) ((-n).natAbs * d))) = true := by
    by_cases h0 : n = 0
    · subst h0
      show decide (0 ≤ cmpNat (x * 1) (0 * d)) = true
      rw [Nat.zero_mul]
      rcases Nat.eq_zero_or_pos (x * 1) with h | h
      · rw [h]; rfl
      · rw [cmpNat_gt h]; rfl
    · rw [decide_eq_true (show -n < 0 by omega)]
      rfl
   show (decide (cmpNat (x * 1) (n.natAbs * d) ≤ 0) && decide (0 ≤ (if (decide (-n < 0) && !false) = true then (1 : Int) else if (false : Bool) = true then cmpNat ((-n).natAbs * d) (x * 1) else cmpNat (x * 1) ((-n).natAbs * d)))) = _
   rw [h3, Bool.and_true, cmpNat_le0, decide_not]
  | true =>
   have hx : 0 < x := by
    unfold FracV.right at hf
    simp only [Bool.and_eq_true, Bool.true_and, Bool.not_eq_true', decide_eq_false_iff_not] at hf
    omega
   unfold ofL
   rw [e1]
   by_cases h0 : n = 0
   · subst h0
     show (true && decide ((0 : Int) ≤ -1)) = !decide (0 * d < x * 1)
     rw [decide_eq_true (show 0 * d < x * 1 by rw [Nat.zero_mul]; omega)]
     rfl
   · have e2 : decide (-n < 0) = true := decide_eq_true (by omega)
     have e3 : (-n).natAbs = n.natAbs := Int.natAbs_neg n
     rw [e2, e3]
     show (true && decide (0 ≤ cmpNat (n.natAbs * d) (x * 1))) = _
     rw [Bool.true_and, cmpNat_neg, ← decide_not, ← cmpNat_le0]
     exact decide_eq_decide.2 (by omega)
set_option maxRecDepth 100000 in
set_option maxHeartbeats 1000000 in
theorem r18_inside (f : FracV) (n : Int) (hf : f.fits) (h0 : 0 ≤ n) (h1 : n ≤ 1000000000000000) (w : World) :
 Calls Try.prog 79 #[.agg f.cells.toArray, .int .i64 n] w fun e w' => e = .returned (.bool (insideF f n)) ∧ From w w' := by
 have HM0 := Lib.hid ((Mem.nil w).alloc 91 f.cells)
 have HO1 := Lib.hid (r18_of n (by omega) (by omega))
 have HO2 := Lib.hid (r18_of (-n) (by omega) (by omega))
 obtain ⟨c1, hc1⟩ : ∃ c, c = (cmpL f (ofL n)).1 := ⟨_, rfl⟩
 obtain ⟨d1, hd1⟩ : ∃ c, c = (cmpL f (ofL n)).2 := ⟨_, rfl⟩
 obtain ⟨c2, hc2⟩ : ∃ c, c = (cmpL f (ofL (-n))).1 := ⟨_, rfl⟩
 obtain ⟨d2, hd2⟩ : ∃ c, c = (cmpL f (ofL (-n))).2 := ⟨_, rfl⟩
 have HC1 : Hid (∀ w1, Calls Try.prog 109 #[.agg f.cells.toArray, .agg (ofL n).cells.toArray] w1 fun e w' => e = .returned (.tuple #[.int .i64 c1, .int .i64 d1]) ∧ From w1 w') := by
  intro w1
  rw [hc1, hd1]
  exact ref_Cmp f (ofL n) hf (ofL_fits ⟨by omega, by omega⟩) w1
 have HC2 : Hid (∀ w1, Calls Try.prog 109 #[.agg f.cells.toArray, .agg (ofL (-n)).cells.toArray] w1 fun e w' => e = .returned (.tuple #[.int .i64 c2, .int .i64 d2]) ∧ From w1 w') := by
  intro w1
  rw [hc2, hd2]
  exact ref_Cmp f (ofL (-n)) hf (ofL_fits ⟨by omega, by omega⟩) w1
 have HV : Hid (insideF f n = (decide (c1 ≤ 0) && decide (0 ≤ c2))) := by unfold Hid insideF; rw [hc1, hc2]
 have wN : IntKind.i64.wrap (0 - n) = -n := by rw [wrap_i64 (by omega) (by omega)]; omega
 have HLF := Lib.hid (HM0.out.ldb f01_row (FracV.cells_len _) (i := 0) rfl)
 clear hc1 hd1 hc2 hd2 hf h0 h1
 go_enter Try.func79, Try.ntmps79
 go_wp2
 refine wp_region_run 9 [.val (Value.agg f.cells.toArray), .val (Value.int .i64 (n)), .call (Value.agg (ofL n).cells.toArray), .call (Value.tuple #[Value.int .i64 c1, Value.int .i64 d1]), .val (Value.tuple #[Value.int .i64 c1, Value.int .i64 d1]), .val (Value.int .i64 c1), .val (Value.int .i64 d1), .val (Value.int .i64 c1), .val (Value.int .i64 d1)] (by kernel_rfl) (by kernel_rfl) (Nat.le_of_ble_eq_true (by kernel_rfl)) (by kernel_rfl) (by kernel_rfl) ?_ ?_ ?_
 · exact trivial
 · exact ⟨(fun w hb => ok_load rfl ((HLF.out) w hb)), (fun _ _ => ok_move rfl), (fun w hb => ok_call rfl rfl (cf_of18 _ _) (HO1.out w)), (fun w hb => ok_call rfl rfl (cf_Cmp01 _ _) (HC1.out w)), (fun _ _ => ok_move rfl), (fun _ _ => ok_extract rfl rfl), (fun _ _ => ok_extract rfl rfl), (fun _ _ => ok_assign rfl), (fun _ _ => ok_assign rfl), trivial⟩
 intro w5 hb5
 simp only [contS, List.take_succ_cons, List.take_zero, List.drop_succ_cons, List.drop_zero]
 simp only [Act.put, List.setIfInBounds_toArray, List.set_cons_succ, List.set_cons_zero]
 have HM5 := Lib.hid (HM0.out.call hb5)
 have HLF5 := Lib.hid (HM5.out.ldb f01_row (FracV.cells_len _) (i := 0) rfl)
 clear hb5 HLF HM0
 go_wp2
 refine wp_region_run 10 [.val (Value.agg f.cells.toArray), .val (Value.int .i64 (n)), .val (Value.int .i64 ((-n))), .call (Value.agg (ofL (-n)).cells.toArray), .call (Value.tuple #[Value.int .i64 c2, Value.int .i64 d2]), .val (Value.tuple #[Value.int .i64 c2, Value.int .i64 d2]), .val (Value.int .i64 c2), .val (Value.int .i64 d2), .val (Value.int .i64 c2), .val (Value.int .i64 d2)] (by kernel_rfl) (by kernel_rfl) (Nat.le_of_ble_eq_true (by kernel_rfl)) (by kernel_rfl) (by kernel_rfl) ?_ ?_ ?_
 · exact trivial
 · exact ⟨(fun w hb => ok_load rfl ((HLF5.out) w hb)), (fun _ _ => ok_move rfl), (fun _ _ => ok_negI rfl wN rfl), (fun w hb => ok_call rfl rfl (cf_of18 _ _) (HO2.out w)), (fun w hb => ok_call rfl rfl (cf_Cmp01 _ _) (HC2.out w)), (fun _ _ => ok_move rfl), (fun _ _ => ok_extract rfl rfl), (fun _ _ => ok_extract rfl rfl), (fun _ _ => ok_assign rfl), (fun _ _ => ok_assign rfl), trivial⟩
 intro w6 hb6
 simp only [contS, List.take_succ_cons, List.take_zero, List.drop_succ_cons, List.drop_zero]
 simp only [Act.put, List.setIfInBounds_toArray, List.set_cons_succ, List.set_cons_zero]
 have HM6 := Lib.hid (HM5.out.call hb6)
 clear hb6 HLF5 HM5
 by_cases q1 : c1 ≤ 0
 · by_cases q2 : 0 ≤ c2
   · have e1 := decide_eq_true q1
     have e2 := decide_eq_true q2
     go_wp2
     go_ret
     exact ⟨by rw [HV.out, e1, e2]; rfl, HM6.out.from_⟩
   · have e1 := decide_eq_true q1
     have e2 := decide_eq_false q2
     go_wp2
     go_ret
     exact ⟨by rw [HV.out, e1, e2]; rfl, HM6.out.from_⟩
 · have e1 := decide_eq_false q1
   go_wp2
   go_ret
   exact ⟨by rw [HV.out, e1]; rfl, HM6.out.from_⟩
theorem cf_inside18 (w : World) (args : Array Value) : (callFunc 79 args).run Try.prog w = .ok (.enter 79 args) w := by
 go_simp
theorem Rd.part {P : Program} {w w1 : World} {B g off size k T n j : Nat} {css : List (List Value)} {cs cs' : List Value} (h : Rd w B size (some ⟨g, off, none⟩) css) (hb : Below B w w1) (hT : IsRow P T n) (hn : cs'.length = n) (hk : css[k]? = some cs) (hj : (cs.drop j).take n = cs') {p : Nat} (hp : p = off + k * size + j) : (loadVar T ⟨g, p, none⟩).run P w1 = .ok (.agg cs'.toArray) w1 := by
 subst hp
 obtain ⟨b, off', e, hlt, _, hc⟩ := h k cs hk
 simp only [Option.some.injEq, Addr.mk.injEq, and_true] at e
 obtain ⟨rfl, rfl⟩ := e
 refine run_load_cells (cs := cs') hT hn fun q x hx => ?_
 rw [← hj] at hx
 have hq : q < n := by
  rcases Nat.lt_or_ge q n with h3 | h3
  · exact h3
  · rw [hj, List.getElem?_eq_none (by omega)] at hx; cases hx
 rw [List.getElem?_take, if_pos hq, List.getElem?_drop] at hx
 have h1 := hc (j + q) x hx
 rw [Addr.add_lit, show off + k * size + j + q = off + k * size + (j + q) by omega, cell_same (hb.block _ hlt)]
 exact h1
theorem str_shear (s : Str) : (s.cells.drop 0).take 17 = s.shear.cells := by
 unfold Str.cells
 rw [List.drop_zero]
 exact List.take_left' s.shear.cells_len
theorem str_bend (s : Str) : (s.cells.drop 17).take 17 = s.bend.cells := by
 unfold Str.cells
 rw [List.drop_left' s.shear.cells_len]
 exact List.take_of_length_le (by rw [s.bend.cells_len]; exact Nat.le_refl _)
theorem rightF_len {l : List Frm} (h : rightF l = true) : 3 ≤ l.length ∧ l.length ≤ 30 := by
 unfold rightF at h
 simp only [Bool.and_eq_true, decide_eq_true_eq] at h
 exact h.1.1.1.1.1
theorem rightF_ok {l : List Frm} (h : rightF l = true) : ∀ f ∈ l, f.ok = true := by
 unfold rightF at h
 simp only [Bool.and_eq_true, decide_eq_true_eq] at h
 exact okFrom_ok none l h.1.1.1.1.2
theorem any_succ {α : Type} {l : List α} {p : α → Bool} {k : Nat} {x : α} (h : l[k]? = some x) : (l.take (k + 1)).any p = ((l.take k).any p || p x) := by
 have hk := (List.getElem?_eq_some_iff.1 h).1
 rw [List.take_succ_eq_append_getElem hk, List.any_append, (List.getElem?_eq_some_iff.1 h).2]
 simp
theorem any_take {α : Type} {l : List α} {p : α → Bool} {k : Nat} {x : α} (h : l[k]? = some x) (hp : p x = true) : l.any p = true := by
 rw [List.any_eq_true]
 exact ⟨x, List.mem_of_getElem? h, hp⟩
set_option maxRecDepth 100000 in
set_option maxHeartbeats 2000000 in
theorem r18_Over (A D : Option Addr) (c d n m : Nat) (l : List Frm) (ss : List Str) (hn : n = l.length) (hm : m = ss.length) (w : World) (h : Rd w w.heap.size 5 A (l.map Frm.cells)) (h' : Rd w w.heap.size 34 D (ss.map Str.cells)) (hl : l.length ≤ 1000000) (hf : ∀ s ∈ ss, s.fits) :
 Calls Try.prog 33 #[.slice A n c, .slice D m d] w (OverPost w (overF l ss)) := by
 have HRI := Lib.hid (r18_Right A c n l hn w h hl)
 obtain ⟨r, hr⟩ : ∃ r, r = overF l ss := ⟨_, rfl⟩
 rw [← hr]
 have HRR := Lib.hid hr
 clear hr
 cases hri : rightF l with
 | false =>
  rw [hri] at HRI
  have HE : Hid (overF l ss = ([], 2)) := by unfold Hid overF; rw [hri]; rfl
  clear hri h h' hf hn hm hl
  go_enter Try.func33, Try.ntmps33
  go_wp2_with (go_at_call 31; go_loud (refine (HRI.out).mono ?_); rintro e w1 ⟨rfl, hb1⟩)
  go_ret2
  rw [HRR.out, HE.out]
  exact OverPost.err hb1
 | true =>
  rw [hri] at HRI
  by_cases hnm : m = n
  · subst hnm
    have hlen := rightF_len hri
    have hok := rightF_ok hri
    have hm30 : m ≤ 30 := by omega
    obtain ⟨bA, oA, rfl⟩ := Rd.addr h (by rw [List.length_map]; omega)
    obtain ⟨bD, oD, rfl⟩ := Rd.addr h' (by rw [List.length_map]; omega)
    have HV : Hid (overF l ss = if ss.any strBad then ([], 2) else ((overL l ss ss.length).map (fun i : Nat => (i : Int)), 0)) := by
     unfold Hid overF
     rw [hri, decide_eq_false (by rw [← hm, ← hn]; simp)]
     rfl
    have HR := Lib.hid h
    have HD := Lib.hid h'
    have HFI := Lib.hid hf
    have HN := Lib.hid (And.intro hn hm)
    have HOK := Lib.hid hok
    clear hri h h' hf hn hm hl hok hlen
    obtain ⟨n, hnn⟩ : ∃ n, n = m := ⟨_, rfl⟩
    subst hnn
    go_enter Try.func33, Try.ntmps33
    go_wp2_with (go_at_call 31; go_loud (refine (HRI.out).mono ?_); rintro e w1 ⟨rfl, hb1⟩; have HB1 : Hid (From w w1) := hb1; clear hb1)
    have HM1 := Lib.hid ((Mem.start HB1.out).none 3 1)
    go_loopw [6, 7] (fun v6 v7 wq => ∃ (k : Nat) (A6 : Option Addr) (c6 : Nat), k ≤ n ∧ v7 = .int .i64 (k : Int) ∧ v6 = .slice A6 (overL l ss k).length c6 ∧ Mem w wq [.row 3 1 A6 c6 (((overL l ss k).map (fun i : Nat => (i : Int))).map intRow)] ∧ (ss.take k).any strBad = false) (fun _ v _ => n - (intOf v).toNat)
    case atStart => exact ⟨0, none, 0, Nat.zero_le _, rfl, rfl, HM1.out, rfl⟩
    case round =>
     clear HM1 HB1
     obtain ⟨k, A6, c6, hk, rfl, rfl, hmem, hany⟩ := hrel
     have HM5 := Lib.hid hmem
     have HAY := Lib.hid hany
     have HLK := Lib.hid (Nat.le_trans (overL_len l ss k) (Nat.le_trans hk hm30))
     have HOL : Hid ((overL l ss k).length = (((overL l ss k).map (fun i : Nat => (i : Int))).map intRow).length) := by unfold Hid; simp
     clear hmem hany
     by_cases hkn : k = n
     · subst hkn
       have hlt : ¬ (k : Int) < (k : Int) := by omega
       have hV := HV.out
       have ht : ss.take k = ss := List.take_of_length_le (by rw [← HN.out.2]; exact Nat.le_refl _)
       have hay := HAY.out
       rw [ht] at hay
       rw [hay, ← HN.out.2] at hV
       have HV2 := Lib.hid (HRR.out.trans hV)
       clear hV ht hay hk hm30
       go_wp2
       go_ret2
       refine ⟨A6, c6, ?_, ?_, HM5.out.from_⟩
       · rw [HV2.out]; simp
       · rw [HV2.out]; exact HM5.out.rd (i := 0) rfl
     · have hkn : (k : Int) < (n : Int) := by omega
       have hkl : k < l.length := by rw [← HN.out.1]; omega
       have hks : k < ss.length := by rw [← HN.out.2]; omega
       obtain ⟨f, hfe⟩ : ∃ f, f = l[k] := ⟨_, rfl⟩
       obtain ⟨s, hse⟩ : ∃ s, s = ss[k] := ⟨_, rfl⟩
       have hlk : l[k]? = some f := by rw [List.getElem?_eq_getElem hkl, hfe]
       have hsk : ss[k]? = some s := by rw [List.getElem?_eq_getElem hks, hse]
       have hfo := Frm.ok_nums (HOK.out f (List.mem_of_getElem? hlk))
       have hsf := HFI.out s (List.mem_of_getElem? hsk)
       have HS1 := Lib.hid (fun (w1 : World) (hb : From wr w1) => Rd.part (P := Try.prog) (HD.out.from HM5.out.from_) hb f01_row (FracV.cells_len _) (k := k) (cs := s.cells) (by simp [hsk]) (str_shear s) (p := oD + k * 34) rfl)
       have HS2 := Lib.hid (fun (w1 : World) (hb : From wr w1) => Rd.part (P := Try.prog) (HD.out.from HM5.out.from_) hb f01_row (FracV.cells_len _) (k := k) (cs := s.cells) (by simp [hsk]) (str_bend s) (p := oD + k * 34 + 17) rfl)
       have HF1 := Lib.hid (fun (w1 : World) (hb : From wr w1) => Rd.cell (P := Try.prog) (HR.out.from HM5.out.from_) hb ct3 (k := k) (cs := f.cells) (by simp [hlk]) (j := 3) (v := .int .i64 f.shear) rfl (p := oA + k * 5 + 3) rfl)
       have HF2 := Lib.hid (fun (w1 : World) (hb : From wr w1) => Rd.cell (P := Try.prog) (HR.out.from HM5.out.from_) hb ct3 (k := k) (cs := f.cells) (by simp [hlk]) (j := 4) (v := .int .i64 f.bend) rfl (p := oA + k * 5 + 4) rfl)
       have HR1 := Lib.hid (ref_Right s.shear hsf.1)
       have HR2 := Lib.hid (ref_Right s.bend hsf.2)
       unfold FracV.val at HR1 HR2
       have HI1 := Lib.hid (fun w1 => r18_inside s.shear f.shear hsf.1 hfo.2.2.2.1.1 hfo.2.2.2.1.2 w1)
       have HI2 := Lib.hid (fun w1 => r18_inside s.bend f.bend hsf.2 hfo.2.2.2.2.1 hfo.2.2.2.2.2 w1)
       have HSB : Hid (strBad s = !(s.shear.right && s.bend.right)) := by unfold Hid strBad; cases s.shear.right <;> cases s.bend.right <;> rfl
       have hat : overAt l ss k = (beyondF s.shear f.shear || beyondF s.bend f.bend) := by
        unfold overAt
        rw [List.getD_eq_getElem?_getD, List.getD_eq_getElem?_getD, hlk, hsk]
        rfl
       have HAE := Lib.hid (And.intro hat (And.intro hfo.2.2.2.1.1 (And.intro hfo.2.2.2.2.1 hsk)))
       clear hfe hse hlk hkl hks hfo hsf hat hsk
       cases hr1 : s.shear.right with
       | false =>
        rw [hr1] at HR1
        have HBD : Hid (overF l ss = ([], 2)) := by
         unfold Hid
         rw [HV.out, any_take HAE.out.2.2.2 (by rw [HSB.out, hr1]; rfl)]
         rfl
        clear hr1
        go_wp2_with (first
         | ((with_reducible refine g_ld 91 ?_); go_loud (refine wpList_ld rfl _ _ rfl _ rfl _ (HS1.out _ (Below.refl _ _)) ?_))
         | (go_at_call 78; go_loud (refine (HR1.out _).mono ?_); rintro e w3 ⟨rfl, hb⟩; have HM6 := Lib.hid (HM5.out.call hb); clear hb))
        go_ret2
        rw [HRR.out, HBD.out]
        exact OverPost.err HM6.out.from_
       | true =>
        rw [hr1] at HR1
        cases hr2 : s.bend.right with
        | false =>
         rw [hr2] at HR2
         have HBD : Hid (overF l ss = ([], 2)) := by
          unfold Hid
          rw [HV.out, any_take HAE.out.2.2.2 (by rw [HSB.out, hr1, hr2]; rfl)]
          rfl
         clear hr1 hr2
         go_wp2_with (first
          | ((with_reducible refine g_ld 91 ?_); refine wpList_ld rfl _ _ rfl _ rfl _ (HS1.out _ (Below.refl _ _)) ?_)
          | (go_at_call 78; refine (HR1.out _).mono ?_; rintro e w3 ⟨rfl, hb⟩; have HM6 := Lib.hid (HM5.out.call hb); have HB6 := Lib.hid hb; clear hb HR1)
          | ((with_reducible refine g_ld 91 ?_); go_loud (refine wpList_ldw rfl _ _ rfl _ rfl _ (HS2.out _ HB6.out) ?_))
          | (go_at_call 78; go_loud (refine (HR2.out _).mono ?_); rintro e w4 ⟨rfl, hb⟩; have HM7 := Lib.hid (HM6.out.call hb); clear hb))
         go_ret2
         rw [HRR.out, HBD.out]
         exact OverPost.err HM7.out.from_
        | true =>
         rw [hr2] at HR2
         have HAN : Hid ((ss.take (k + 1)).any strBad = false) := by
          unfold Hid
          rw [any_succ HAE.out.2.2.2, HAY.out, HSB.out, hr1, hr2]
          rfl
         have e1 := inside_beyond hr1 HAE.out.2.1
         have e2 := inside_beyond hr2 HAE.out.2.2.1
         have HAO := Lib.hid HAE.out.1
         clear hr1 hr2
         rw [e1] at HI1
         rw [e2] at HI2
         clear e1 e2
         go_wp2_with (first
          | ((with_reducible refine g_ld 91 ?_); refine wpList_ld rfl _ _ rfl _ rfl _ (HS1.out _ (Below.refl _ _)) ?_)
          | (go_at_call 78; refine (HR1.out _).mono ?_; rintro e w3 ⟨rfl, hb⟩; have HB6 := Lib.hid hb; clear hb HR1)
          | ((with_reducible refine g_ld 91 ?_); go_loud (refine wpList_ldw rfl _ _ rfl _ rfl _ (HS2.out _ HB6.out) ?_))
          | (go_at_call 78; go_loud (refine (HR2.out _).mono ?_); rintro e w4 ⟨rfl, hb⟩; have HB7 := Lib.hid (HB6.out.trans (hb.mono HB6.out.size)); clear hb HB6))
         have HM5' := Lib.hid (HM5.out.call HB7.out)
         have HS1' := Lib.hid (fun (w1 : World) (hb : From w4 w1) => HS1.out w1 (HB7.out.trans (hb.mono HB7.out.size)))
         have HS2' := Lib.hid (fun (w1 : World) (hb : From w4 w1) => HS2.out w1 (HB7.out.trans (hb.mono HB7.out.size)))
         have HF1' := Lib.hid (fun (w1 : World) (hb : From w4 w1) => HF1.out w1 (HB7.out.trans (hb.mono HB7.out.size)))
         have HF2' := Lib.hid (fun (w1 : World) (hb : From w4 w1) => HF2.out w1 (HB7.out.trans (hb.mono HB7.out.size)))
         clear HM5 HS1 HS2 HF1 HF2
         have HM5 := HM5'
         have HS1 := HS1'
         have HS2 := HS2'
         have HF1 := HF1'
         have HF2 := HF2'
         clear HM5' HS1' HS2' HF1' HF2' HB7
         cases hb1 : beyondF s.shear f.shear with
         | true =>
          rw [hb1] at HI1
          have HAT : Hid (overAt l ss k = true) := by unfold Hid; rw [HAO.out, hb1]; rfl
          clear hb1
          refine wp_region_run 26 [.val (Value.slice (some ⟨bD, oD, none⟩) n d), .val (Value.int .i64 ((k : Int))), .val (Value.pointer (some ⟨bD, oD + k * 34, none⟩)), .val (Value.pointer (some ⟨bD, oD + k * 34, none⟩)), .val (Value.agg s.shear.cells.toArray), .val (Value.slice (some ⟨bA, oA, none⟩) n c), .val (Value.int .i64 ((k : Int))), .val (Value.pointer (some ⟨bA, oA + k * 5, none⟩)), .val (Value.pointer (some ⟨bA, oA + k * 5 + 3, none⟩)), .val (Value.int .i64 (f.shear)), .call (Value.bool false), .val (Value.bool true), .val (Value.bool true), .skip, .skip, .skip, .skip, .skip, .skip, .skip, .skip, .skip, .skip, .skip, .skip, .val (Value.bool true)] (by kernel_rfl) (by kernel_rfl) (Nat.le_of_ble_eq_true (by kernel_rfl)) (by kernel_rfl) (by kernel_rfl) ?_ ?_ ?_
          · exact trivial
          · exact ⟨(fun _ _ => ok_move rfl), (fun _ _ => ok_move rfl), (fun _ _ => ok_index (k := k) rfl rfl el81 (hkn) (rfl)), (fun _ _ => ok_field (k := 0) rfl fl93_0 rfl), (fun w hb => ok_load rfl ((HS1.out) w hb)), (fun _ _ => ok_move rfl), (fun _ _ => ok_move rfl), (fun _ _ => ok_index (k := k) rfl rfl el22 (hkn) (rfl)), (fun _ _ => ok_field (k := 3) rfl fl44_3 rfl), (fun w hb => ok_load rfl ((HF1.out) w hb)), (fun w hb => ok_call rfl rfl (cf_inside18 _ _) (HI1.out w)), (fun _ _ => ok_not rfl rfl), (fun _ _ => ok_move rfl), trivial, trivial, trivial, trivial, trivial, trivial, trivial, trivial, trivial, trivial, trivial, trivial, (fun _ _ => ok_pick rfl rfl), trivial⟩
          intro w7 hb7
          simp only [contS, List.take_succ_cons, List.take_zero, List.drop_succ_cons, List.drop_zero]
          simp only [Act.put, List.setIfInBounds_toArray, List.set_cons_succ, List.set_cons_zero]
          have HM7 := Lib.hid (HM5.out.call hb7)
          clear hb7 HM5
          go_wp2_with (at_builtin; go_loud (refine wpList_append_M rfl _ _ rfl int_ei (overL l ss k).length HOL.out rfl (HM7.out.any _) 0 rfl rfl (Rd.new2 w7 3 1 (intRow (k : Int)) rfl) rfl (by simp [Value.oneCell', intRow]) (by rw [← HOL.out]; have := HLK.out; unfold maxLen; omega) (by rw [← HOL.out]; have := HLK.out; omega) ?_); intro A5 c5 w8 h8; have HM8 := Lib.hid h8; clear h8)
          go_roundw
          case rel =>
           refine ⟨k + 1, A5, c5, by omega, by go_num, ?_, ?_, HAN.out⟩
           · rw [overL_succ, HAT.out, if_pos rfl, List.length_append]; rfl
           · have h1 := HM8.out
             rw [overL_succ, HAT.out, if_pos rfl, List.map_append, List.map_append]
             exact h1
          case measure => simp [intOf]; omega
         | false =>
          rw [hb1] at HI1
          cases hb2 : beyondF s.bend f.bend with
          | true =>
           rw [hb2] at HI2
           have HAT : Hid (overAt l ss k = true) := by unfold Hid; rw [HAO.out, hb1, hb2]; rfl
           clear hb1 hb2
           refine wp_region_run 26 [.val (Value.slice (some ⟨bD, oD, none⟩) n d), .val (Value.int .i64 ((k : Int))), .val (Value.pointer (some ⟨bD, oD + k * 34, none⟩)), .val (Value.pointer (some ⟨bD, oD + k * 34, none⟩)), .val (Value.agg s.shear.cells.toArray), .val (Value.slice (some ⟨bA, oA, none⟩) n c), .val (Value.int .i64 ((k : Int))), .val (Value.pointer (some ⟨bA, oA + k * 5, none⟩)), .val (Value.pointer (some ⟨bA, oA + k * 5 + 3, none⟩)), .val (Value.int .i64 (f.shear)), .call (Value.bool true), .val (Value.bool false), .val (Value.bool false), .val (Value.slice (some ⟨bD, oD, none⟩) n d), .val (Value.int .i64 ((k : Int))), .val (Value.pointer (some ⟨bD, oD + k * 34, none⟩)), .val (Value.pointer (some ⟨bD, oD + k * 34 + 17, none⟩)), .val (Value.agg s.bend.cells.toArray), .val (Value.slice (some ⟨bA, oA, none⟩) n c), .val (Value.int .i64 ((k : Int))), .val (Value.pointer (some ⟨bA, oA + k * 5, none⟩)), .val (Value.pointer (some ⟨bA, oA + k * 5 + 4, none⟩)), .val (Value.int .i64 (f.bend)), .call (Value.bool false), .val (Value.bool true), .val (Value.bool true)] (by kernel_rfl) (by kernel_rfl) (Nat.le_of_ble_eq_true (by kernel_rfl)) (by kernel_rfl) (by kernel_rfl) ?_ ?_ ?_
           · exact trivial
           · exact ⟨(fun _ _ => ok_move rfl), (fun _ _ => ok_move rfl), (fun _ _ => ok_index (k := k) rfl rfl el81 (hkn) (rfl)), (fun _ _ => ok_field (k := 0) rfl fl93_0 rfl), (fun w hb => ok_load rfl ((HS1.out) w hb)), (fun _ _ => ok_move rfl), (fun _ _ => ok_move rfl), (fun _ _ => ok_index (k := k) rfl rfl el22 (hkn) (rfl)), (fun _ _ => ok_field (k := 3) rfl fl44_3 rfl), (fun w hb => ok_load rfl ((HF1.out) w hb)), (fun w hb => ok_call rfl rfl (cf_inside18 _ _) (HI1.out w)), (fun _ _ => ok_not rfl rfl), (fun _ _ => ok_move rfl), (fun _ _ => ok_move rfl), (fun _ _ => ok_move rfl), (fun _ _ => ok_index (k := k) rfl rfl el81 (hkn) (rfl)), (fun _ _ => ok_field (k := 17) rfl fl93_1 rfl), (fun w hb => ok_load rfl ((HS2.out) w hb)), (fun _ _ => ok_move rfl), (fun _ _ => ok_move rfl), (fun _ _ => ok_index (k := k) rfl rfl el22 (hkn) (rfl)), (fun _ _ => ok_field (k := 4) rfl fl44_4 rfl), (fun w hb => ok_load rfl ((HF2.out) w hb)), (fun w hb => ok_call rfl rfl (cf_inside18 _ _) (HI2.out w)), (fun _ _ => ok_not rfl rfl), (fun _ _ => ok_pick rfl rfl), trivial⟩
           intro w7 hb7
           simp only [contS, List.take_succ_cons, List.take_zero, List.drop_succ_cons, List.drop_zero]
           simp only [Act.put, List.setIfInBounds_toArray, List.set_cons_succ, List.set_cons_zero]
           have HM7 := Lib.hid (HM5.out.call hb7)
           clear hb7 HM5
           go_wp2_with (at_builtin; go_loud (refine wpList_append_M rfl _ _ rfl int_ei (overL l ss k).length HOL.out rfl (HM7.out.any _) 0 rfl rfl (Rd.new2 w7 3 1 (intRow (k : Int)) rfl) rfl (by simp [Value.oneCell', intRow]) (by rw [← HOL.out]; have := HLK.out; unfold maxLen; omega) (by rw [← HOL.out]; have := HLK.out; omega) ?_); intro A5 c5 w8 h8; have HM8 := Lib.hid h8; clear h8)
           go_roundw
           case rel =>
            refine ⟨k + 1, A5, c5, by omega, by go_num, ?_, ?_, HAN.out⟩
            · rw [overL_succ, HAT.out, if_pos rfl, List.length_append]; rfl
            · have h1 := HM8.out
              rw [overL_succ, HAT.out, if_pos rfl, List.map_append, List.map_append]
              exact h1
           case measure => simp [intOf]; omega
          | false =>
           rw [hb2] at HI2
           have HAT : Hid (overAt l ss k = false) := by unfold Hid; rw [HAO.out, hb1, hb2]; rfl
           clear hb1 hb2
           refine wp_region_run 26 [.val (Value.slice (some ⟨bD, oD, none⟩) n d), .val (Value.int .i64 ((k : Int))), .val (Value.pointer (some ⟨bD, oD + k * 34, none⟩)), .val (Value.pointer (some ⟨bD, oD + k * 34, none⟩)), .val (Value.agg s.shear.cells.toArray), .val (Value.slice (some ⟨bA, oA, none⟩) n c), .val (Value.int .i64 ((k : Int))), .val (Value.pointer (some ⟨bA, oA + k * 5, none⟩)), .val (Value.pointer (some ⟨bA, oA + k * 5 + 3, none⟩)), .val (Value.int .i64 (f.shear)), .call (Value.bool true), .val (Value.bool false), .val (Value.bool false), .val (Value.slice (some ⟨bD, oD, none⟩) n d), .val (Value.int .i64 ((k : Int))), .val (Value.pointer (some ⟨bD, oD + k * 34, none⟩)), .val (Value.pointer (some ⟨bD, oD + k * 34 + 17, none⟩)), .val (Value.agg s.bend.cells.toArray), .val (Value.slice (some ⟨bA, oA, none⟩) n c), .val (Value.int .i64 ((k : Int))), .val (Value.pointer (some ⟨bA, oA + k * 5, none⟩)), .val (Value.pointer (some ⟨bA, oA + k * 5 + 4, none⟩)), .val (Value.int .i64 (f.bend)), .call (Value.bool true), .val (Value.bool false), .val (Value.bool false)] (by kernel_rfl) (by kernel_rfl) (Nat.le_of_ble_eq_true (by kernel_rfl)) (by kernel_rfl) (by kernel_rfl) ?_ ?_ ?_
           · exact trivial
           · exact ⟨(fun _ _ => ok_move rfl), (fun _ _ => ok_move rfl), (fun _ _ => ok_index (k := k) rfl rfl el81 (hkn) (rfl)), (fun _ _ => ok_field (k := 0) rfl fl93_0 rfl), (fun w hb => ok_load rfl ((HS1.out) w hb)), (fun _ _ => ok_move rfl), (fun _ _ => ok_move rfl), (fun _ _ => ok_index (k := k) rfl rfl el22 (hkn) (rfl)), (fun _ _ => ok_field (k := 3) rfl fl44_3 rfl), (fun w hb => ok_load rfl ((HF1.out) w hb)), (fun w hb => ok_call rfl rfl (cf_inside18 _ _) (HI1.out w)), (fun _ _ => ok_not rfl rfl), (fun _ _ => ok_move rfl), (fun _ _ => ok_move rfl), (fun _ _ => ok_move rfl), (fun _ _ => ok_index (k := k) rfl rfl el81 (hkn) (rfl)), (fun _ _ => ok_field (k := 17) rfl fl93_1 rfl), (fun w hb => ok_load rfl ((HS2.out) w hb)), (fun _ _ => ok_move rfl), (fun _ _ => ok_move rfl), (fun _ _ => ok_index (k := k) rfl rfl el22 (hkn) (rfl)), (fun _ _ => ok_field (k := 4) rfl fl44_4 rfl), (fun w hb => ok_load rfl ((HF2.out) w hb)), (fun w hb => ok_call rfl rfl (cf_inside18 _ _) (HI2.out w)), (fun _ _ => ok_not rfl rfl), (fun _ _ => ok_pick rfl rfl), trivial⟩
           intro w7 hb7
           simp only [contS, List.take_succ_cons, List.take_zero, List.drop_succ_cons, List.drop_zero]
           simp only [Act.put, List.setIfInBounds_toArray, List.set_cons_succ, List.set_cons_zero]
           have HM7 := Lib.hid (HM5.out.call hb7)
           clear hb7 HM5
           go_wp2
           go_roundw
           case rel =>
            refine ⟨k + 1, A6, c6, by omega, by go_num, ?_, ?_, HAN.out⟩
            · rw [overL_succ, HAT.out]; rfl
            · have h1 := HM7.out
              rw [overL_succ, HAT.out]
              exact h1
           case measure => simp [intOf]; omega
  · have HE : Hid (overF l ss = ([], 2)) := by unfold Hid overF; rw [hri, decide_eq_true (by rw [← hm, ← hn]; exact hnm)]; rfl
    have hne : ((m : Int) != (n : Int)) = true := by simp; omega
    clear hri h h' hf hn hm hl
    go_enter Try.func33, Try.ntmps33
    go_wp2_with (go_at_call 31; go_loud (refine (HRI.out).mono ?_); rintro e w1 ⟨rfl, hb1⟩)
    go_ret2
    rw [HRR.out, HE.out]
    exact OverPost.err hb1
end Go.Proofs.Ytcdfnlgimbecgaa
