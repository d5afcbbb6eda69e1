/-
  A Stress is equal to itself; fractions compared, at the operation.
  twistlocklaw18: over, StrengthOver.
-/
import Derived.Test.YtcdfnlgimbecgaaMo34
import Derived.Test.YtcdfnlgimbecgaaMo36
import Derived.Test.YtcdfnlgimbecgaaMo51

namespace Go.Proofs.Ytcdfnlgimbecgaa
open Go.RowKit

def frLits (f : FracV) : List Lit := [Lit.bool f.neg] ++ natLits (pad B32 8 f.num) ++ natLits (pad B32 8 f.den)
theorem frac_lits (f : FracV) : Try.prog.keyLits 6 37 f.cells = some (frLits f) := fr_lits f.neg (pad B32 8 f.num) (pad B32 8 f.den) (pad_len _ _ _) (pad_len _ _ _) (pad_digs (by decide) _ _) (pad_digs (by decide) _ _)
theorem cells_str40 : Try.prog.cellsOf 40 = 34 := by kernel_rfl
theorem str_key : Try.prog.keyTypeAt 5 40 = true := by kernel_rfl
theorem str_lits (s : Str) : Try.prog.keyLits 7 40 s.cells = some (frLits s.shear ++ frLits s.bend) := by
  have h1 := frac_lits s.shear
  have h2 := frac_lits s.bend
  have e1 : (s.cells.drop 0).take 17 = s.shear.cells := by
    unfold Str.cells
    rw [List.drop_zero]
    exact List.take_left' s.shear.cells_len
  have e2 : (s.cells.drop 17).take 17 = s.bend.cells := by
    unfold Str.cells
    rw [List.drop_left' s.shear.cells_len]
    exact List.take_of_length_le (by rw [s.bend.cells_len]; exact Nat.le_refl _)
  unfold Program.keyLits
  simp only [Try.underlying40, cells_str40]
  rw [if_pos ⟨s.cells_len, by kernel_rfl⟩]
  simp only [List.mapM_cons, List.mapM_nil, cells_frac, e1, e2, h1, h2]
  show some (frLits s.shear ++ (frLits s.bend ++ [])) = _
  rw [List.append_nil]
theorem str_formed (s : Str) : (Value.agg s.cells.toArray).formed Try.prog 40 = true := by
  obtain ⟨b, c, hf⟩ := frac_explicit s.shear
  obtain ⟨b', c', hg⟩ := frac_explicit s.bend
  unfold Str.cells
  rw [hf, hg]
  kernel_rfl
theorem str_equal (s : Str) (w : World) : (Op.equalIn 10000 40 (.agg s.cells.toArray) (.agg s.cells.toArray)).run Try.prog w = .ok true w := by
  obtain ⟨r, hr, hiff⟩ := run_equalIn_deep 9995 5 40 str_key w 7 7 _ _ _ _ (str_formed s) (str_formed s) (str_lits s) (str_lits s)
  have e : r = true := hiff.2 rfl
  rw [← e]
  exact hr
theorem str_neq (s : Str) (w : World) : (binOp .neq 40 s.val s.val).run Try.prog w = .ok (.bool false) w := by
  unfold Str.val
  rw [run_neq_struct, str_equal]
  rfl
/-- f == g, at the operation -/
theorem op_fr_eql (f : FracV) (hf : f.fits) {ρ : Operand → Value} {s t : Nat} {d : Option Nat} {T : TypeId} {ty : TypeId} {pos : String} {aft : Array Edge} {gd : Option (Nat × Bool)} (w : World) (hs : ρ (.tmp s) = f.val) (ht : ρ (.tmp t) = f.val) :
    (execOp ρ ⟨d, .binOp .eql 37 (.tmp s) (.tmp t) T, ty, pos, aft, gd⟩).run Try.prog w = .ok (.value (.bool true)) w := by
  have h1 : (eqGuard .eql 37 (.tmp s) (.tmp t) f.val f.val).run Try.prog w = .ok () w := run_eqGuard_agg (P := Try.prog) (w := w) .eql 37 (.tmp s) (.tmp t) _ _ (by kernel_rfl)
  have h2 : (binOp .eql 37 f.val f.val).run Try.prog w = .ok (.bool true) w := by
    have h3 := frac_eql f f hf hf w
    rw [decide_eq_true rfl] at h3
    exact h3
  unfold execOp
  simp only [hs, ht, Sem.run_bind, h1, Result.andThen_ok, h2, Sem.run_pure]
theorem op_fr_neq (f : FracV) {ρ : Operand → Value} {s t : Nat} {d : Option Nat} {T : TypeId} {ty : TypeId} {pos : String} {aft : Array Edge} {gd : Option (Nat × Bool)} (w : World) (hs : ρ (.tmp s) = f.val) (ht : ρ (.tmp t) = f.val) :
    (execOp ρ ⟨d, .binOp .neq 37 (.tmp s) (.tmp t) T, ty, pos, aft, gd⟩).run Try.prog w = .ok (.value (.bool false)) w := by
  have h1 : (eqGuard .neq 37 (.tmp s) (.tmp t) f.val f.val).run Try.prog w = .ok () w := run_eqGuard_agg (P := Try.prog) (w := w) .neq 37 (.tmp s) (.tmp t) _ _ (by kernel_rfl)
  have h3 : (binOp .neq 37 f.val f.val).run Try.prog w = .ok (.bool false) w := by
    have h4 : (Op.equalIn 10000 37 (.agg f.cells.toArray) (.agg f.cells.toArray)).run Try.prog w = .ok true w := by
      have h5 := fr_eql f.neg f.neg (pad B32 8 f.num) (pad B32 8 f.den) (pad B32 8 f.num) (pad B32 8 f.den) (pad_len _ _ _) (pad_len _ _ _) (pad_len _ _ _) (pad_len _ _ _) (pad_digs (by decide) _ _) (pad_digs (by decide) _ _) (pad_digs (by decide) _ _) (pad_digs (by decide) _ _) w
      rw [decide_eq_true ⟨rfl, rfl, rfl⟩] at h5
      exact h5
    unfold FracV.val
    rw [run_neq_struct, h4]
    rfl
  unfold execOp
  simp only [hs, ht, Sem.run_bind, h1, Result.andThen_ok, h3, Sem.run_pure]
theorem op_str_neq (f : Str) {ρ : Operand → Value} {s t : Nat} {d : Option Nat} {T : TypeId} {ty : TypeId} {pos : String} {aft : Array Edge} {gd : Option (Nat × Bool)} (w : World) (hs : ρ (.tmp s) = f.val) (ht : ρ (.tmp t) = f.val) :
    (execOp ρ ⟨d, .binOp .neq 40 (.tmp s) (.tmp t) T, ty, pos, aft, gd⟩).run Try.prog w = .ok (.value (.bool false)) w := by
  have h1 : (eqGuard .neq 40 (.tmp s) (.tmp t) f.val f.val).run Try.prog w = .ok () w := run_eqGuard_agg (P := Try.prog) (w := w) .neq 40 (.tmp s) (.tmp t) _ _ (by kernel_rfl)
  unfold execOp
  simp only [hs, ht, Sem.run_bind, h1, Result.andThen_ok, str_neq, Sem.run_pure]
end Go.Proofs.Ytcdfnlgimbecgaa

namespace Go.Proofs.Ytcdfnlgimbecgaa
open Go.RowKit

theorem g_bls {P : Program} {w : World} {ops : Array Oper} {rest : List Oper} {a : Act} {Q : Exit → Act → World → Prop} (T : Nat) {n : Nat} {ps : Array (Nat × Operand)} {d : Option Nat} {ty : TypeId} {pos : String} {aft : Array Edge} {gd : Option (Nat × Bool)}
    (h : wpList P ops Q (⟨d, .buildSlice T n ps, ty, pos, aft, gd⟩ :: rest) a w) : wpList P ops Q (⟨d, .buildSlice T n ps, ty, pos, aft, gd⟩ :: rest) a w := h
theorem strR_ei : EI Try.prog 81 93 34 136 := EI.mk (z := .agg (Str.cells ⟨zeroF, zeroF⟩).toArray) Try.underlying81 (by kernel_rfl) rfl (by omega)
theorem zfSR : (Try.prog.info? 93).bind (·.zero) = some (.agg (Str.cells ⟨zeroF, zeroF⟩).toArray) := by kernel_rfl
set_option maxRecDepth 100000 in
set_option maxHeartbeats 4000000 in
theorem build_stressR (f g : FracV) {a : Act} {s t : Nat} {d : Option Nat} {ty : TypeId} {pos : String} {aft : Array Edge} (w : World) (hx : a.eval (.tmp s) = .agg f.cells.toArray) (hy : a.eval (.tmp t) = .agg g.cells.toArray) :
    (execOp a.eval ⟨d, .build 93 #[(0, .tmp s), (1, .tmp t)], ty, pos, aft, none⟩).run Try.prog w = .ok (.value (.agg (f.cells ++ g.cells).toArray)) w := by
  obtain ⟨b, c, hf⟩ := frac_explicit f
  obtain ⟨b', c', hg⟩ := frac_explicit g
  rw [hf] at hx
  rw [hg] at hy
  rw [hf, hg]
  clear hf hg
  have hx' : a.tmps[s]?.getD undef = _ := (by simp [Act.eval] : a.tmps[s]?.getD undef = a.eval (.tmp s)).trans hx
  have hy' : a.tmps[t]?.getD undef = _ := (by simp [Act.eval] : a.tmps[t]?.getD undef = a.eval (.tmp t)).trans hy
  go_simp

set_option maxRecDepth 100000 in
set_option maxHeartbeats 2000000 in
theorem law_over (A D : Option Addr) (c d n m : Nat) (l : List Frm) (ss : List Str) (hn : n = l.length) (hm : m = ss.length) (w : World) (h : Rd w w.heap.size 5 A (l.map Frm.cells)) (h' : Rd w w.heap.size 34 D (ss.map Str.cells)) (hf : ∀ s ∈ ss, s.fits) :
    Calls Try.prog 10 #[.slice A n c, .slice D m d] w fun e w' => e = .returned (.bool true) ∧ From w w' := by
  by_cases hn4 : n ≤ 40
  · by_cases hm4 : m ≤ 40
    · have c1 : ¬ (40 : Int) < (n : Int) := by omega
      have c2 : ¬ (40 : Int) < (m : Int) := by omega
      have HR := Lib.hid h
      have HD := Lib.hid h'
      have HN := Lib.hid (And.intro hn hm)
      have HFI := Lib.hid hf
      obtain ⟨r, hr⟩ : ∃ r, r = overF l ss := ⟨_, rfl⟩
      have HRR := Lib.hid hr
      have HRL : Hid (r.1.length ≤ 1000000) := by
        unfold Hid
        rw [hr]
        unfold overF
        split
        · show 0 ≤ 1000000; omega
        · rw [List.length_map]; have := overL_len l ss ss.length; omega
      have HOV : Hid (∀ (A8 : Option Addr) (c8 : Nat) (w1 : World), From w w1 → Rd w1 w1.heap.size 34 A8 (ss.map Str.cells) → Calls Try.prog 22 #[.slice A n c, .slice A8 m c8] w1 (OverPost w1 r)) := by
        intro A8 c8 w1 hb hrd
        rw [hr]
        exact st_Over A A8 c c8 n m l ss hn hm w1 (HR.out.from hb) hrd (by omega) (by omega) hf
      have HOV2 : Hid (∀ (A8 : Option Addr) (c8 : Nat) (w1 : World), From w w1 → Rd w1 w1.heap.size 34 A8 (ss.map Str.cells) → Calls Try.prog 33 #[.slice A n c, .slice A8 m c8] w1 (OverPost w1 r)) := by
        intro A8 c8 w1 hb hrd
        rw [hr]
        exact r18_Over A A8 c c8 n m l ss hn hm w1 (HR.out.from hb) hrd (by omega) hf
      clear h h' hf hn hm hr
      have HM0 := Lib.hid ((Mem.nil w).none 93 34)
      go_enter Try.func10, Try.ntmps10
      go_wp2
      go_loopw [5, 24] (fun v5 v24 wq => ∃ (k : Nat) (A5 : Option Addr) (c5 : Nat), k ≤ m ∧ v24 = .int .i64 (k : Int) ∧ v5 = .slice A5 k c5 ∧ Mem w wq [.row 93 34 A5 c5 ((ss.take k).map Str.cells)]) (fun _ v _ => m - (intOf v).toNat)
      case atStart => exact ⟨0, none, 0, Nat.zero_le _, rfl, rfl, HM0.out⟩
      case round =>
        clear HM0
        obtain ⟨k, A5, c5, hk, rfl, rfl, hmem⟩ := hrel
        have HM1 := Lib.hid hmem
        clear hmem
        by_cases hkm : k = m
        · subst hkm
          have hlt : ¬ (k : Int) < (k : Int) := by omega
          have HG : Hid (Mem w wr [.row 93 34 A5 c5 (ss.map Str.cells)]) := by
            have h1 := HM1.out
            rw [List.take_of_length_le (by rw [← HN.out.2]; exact Nat.le_refl _)] at h1
            exact h1
          clear HM1 hk
          go_wp2_with (first
            | (at_builtin; go_loud (refine wpList_append_rd (css := []) rfl _ _ rfl stress_ei rfl (OwnS.empty_new wr wr.heap.size _ 34 (Nat.le_refl _)) rfl _ (HD.out.from (HG.out.from_.alloc HG.out.from_.size _)) (by rw [List.length_map]; exact HN.out.2) (by intro cs hc u hu; obtain ⟨s, _, rfl⟩ := List.mem_map.1 hc; exact s.ones u hu) (by simp only [List.length_nil]; unfold maxLen; omega) (by simp only [List.length_nil]; omega) (by simp) ?_); intro A8 c8 w8 h8 _ hb8; rw [show (([] : List (List Value)) ++ ss.map Str.cells).length = k by simp [HN.out.2]]; have HF8 : Hid (From wr w8) := ((Below.refl wr.heap.size wr).alloc (Nat.le_refl _) (.cells #[] 40)).trans hb8; have HM8 := Lib.hid (HG.out.add HF8.out (.row 40 34 A8 c8 (ss.map Str.cells)) h8); clear h8 hb8 HG)
            | (go_at_call 22; go_loud (refine (HOV.out _ _ _ HM8.out.from_ (HM8.out.rd (i := 0) rfl)).mono ?_); rintro e w9 ⟨Aa, ca, rfl, hra, hba⟩; have HB9 : Hid (From w8 w9) := hba; have HRA := Lib.hid hra; have HM9 := Lib.hid (HM8.out.call HB9.out); clear hra hba)
            | (go_at_call 33; go_loud (refine (HOV2.out _ _ _ HM9.out.from_ (HM9.out.rd (i := 1) rfl)).mono ?_); rintro e w10 ⟨Ab, cb, rfl, hrb, hbb⟩; have HB10 : Hid (From w9 w10) := hbb; have HRB := Lib.hid hrb; have HRA2 := Lib.hid (HRA.out.from HB10.out); have HM10 := Lib.hid (HM9.out.call HB10.out); clear hrb hbb HRA HM9 HM8))
          clear HOV HOV2 HFI HF8
          have HOWN := Lib.hid (HM10.out.rd (i := 0) rfl)
          have HF10 := Lib.hid HM10.out.from_
          obtain ⟨n1, hn1⟩ : ∃ n1, n1 = r.1.length := ⟨_, rfl⟩
          rw [← hn1]
          have HN1 := Lib.hid hn1
          obtain ⟨f1, hf1⟩ : ∃ f1, f1 = r.2 := ⟨_, rfl⟩
          rw [← hf1]
          clear HM10 hn1 hf1 HB9 HB10
          go_loopw [54] (fun v54 wq => ∃ i : Nat, i ≤ k ∧ v54 = .int .i64 (i : Int) ∧ From w10 wq) (fun v _ => k - (intOf v).toNat)
          case atStart => exact ⟨0, Nat.zero_le _, rfl, Below.refl _ _⟩
          case round =>
            obtain ⟨i, hi, rfl, hf⟩ := hrel
            have HF := Lib.hid hf
            clear hf
            by_cases hik : i = k
            · have hlt : ¬ (i : Int) < (k : Int) := by omega
              have HS := Lib.hid (kit_SameInts Aa Ab ca cb n1 n1 r.1 r.1 HN1.out HN1.out wr (HRA2.out.from HF.out) (HRB.out.from HF.out) HRL.out)
              have HS2 : Hid (decide (r.1 = r.1) = true) := decide_eq_true rfl
              clear hik hi
              go_wp2_with (go_at_call 34; go_loud (refine (HS.out).mono ?_); rintro e w12 ⟨rfl, hb⟩; rw [HS2.out])
              go_ret
              exact ⟨rfl, HF10.out.trans ((HF.out.trans (hb.mono HF.out.size)).mono HF10.out.size)⟩
            · have hik2 : (i : Int) < (k : Int) := by omega
              have his : i < ss.length := by rw [← HN.out.2]; omega
              obtain ⟨s, hse⟩ : ∃ s, s = ss[i] := ⟨_, rfl⟩
              have hsi : ss[i]? = some s := by rw [List.getElem?_eq_getElem his, hse]
              obtain ⟨bD, oD, rfl⟩ := Rd.addr HD.out (by rw [List.length_map]; omega)
              obtain ⟨bO, oO, rfl⟩ := Rd.addr HOWN.out (by rw [List.length_map]; omega)
              have HX := Lib.hid (fun (w1 : World) (hb : From wr w1) => Rd.row (P := Try.prog) (HOWN.out.from HF.out) hb str_row (k := i) (cs := s.cells) (by simp [hsi]) (p := oO + i * 34) rfl)
              have HY := Lib.hid (fun (w1 : World) (hb : From wr w1) => Rd.row (P := Try.prog) (HD.out.from (HF10.out.trans (HF.out.mono HF10.out.size))) hb str_row (k := i) (cs := s.cells) (by simp [hsi]) (p := oD + i * 34) rfl)
              clear his hse hsi hik
              go_wp2
              refine wp_region_run 9 [.val (Value.slice (some ⟨bO, oO, none⟩) k c8),
    .val (Value.int .i64 ((i : Int))),
    .val (Value.pointer (some ⟨bO, oO + i * 34, none⟩)),
    .val (Str.val s),
    .val (Value.slice (some ⟨bD, oD, none⟩) k d),
    .val (Value.int .i64 ((i : Int))),
    .val (Value.pointer (some ⟨bD, oD + i * 34, none⟩)),
    .val (Str.val s),
    .val (Value.bool false)] (by kernel_rfl) (by kernel_rfl) (Nat.le_of_ble_eq_true (by kernel_rfl)) (by kernel_rfl) (by kernel_rfl) ?_ ?_ ?_
              · exact trivial
              · exact ⟨(fun _ _ => ok_move rfl),
    (fun _ _ => ok_move rfl),
    (fun _ _ => ok_index (k := i) rfl rfl el26 (hik2) (rfl)),
    (fun w hb => ok_load rfl ((HX.out) w hb)),
    (fun _ _ => ok_move rfl),
    (fun _ _ => ok_move rfl),
    (fun _ _ => ok_index (k := i) rfl rfl el26 (hik2) (rfl)),
    (fun w hb => ok_load rfl ((HY.out) w hb)),
    (fun w _ => op_str_neq s w rfl rfl),
    trivial⟩
              intro w7 hb7
              simp only [contS, List.take_succ_cons, List.take_zero, List.drop_succ_cons, List.drop_zero]
              simp only [Act.put, List.setIfInBounds_toArray, List.set_cons_succ, List.set_cons_zero]
              have HF7 := Lib.hid (HF.out.trans (hb7.mono HF.out.size))
              clear hb7
              go_wp2
              go_roundw
              case rel => exact ⟨i + 1, by omega, by go_num, HF7.out⟩
              case measure => simp [intOf]; omega
        · have hlt : (k : Int) < (m : Int) := by omega
          have hks : k < ss.length := by rw [← HN.out.2]; omega
          obtain ⟨s, hse⟩ : ∃ s, s = ss[k] := ⟨_, rfl⟩
          have hsk : ss[k]? = some s := by rw [List.getElem?_eq_getElem hks, hse]
          obtain ⟨bD, oD, rfl⟩ := Rd.addr HD.out (by rw [List.length_map]; omega)
          have HL1 := Lib.hid (fun (w1 : World) (hb : From wr w1) => Rd.row (P := Try.prog) (HD.out.from HM1.out.from_) hb str_row (k := k) (cs := s.cells) (by simp [hsk]) rfl)
          have HST : Hid ((ss.take (k + 1)).map Str.cells = (ss.take k).map Str.cells ++ [s.cells]) := by
            unfold Hid
            rw [List.take_succ_eq_append_getElem hks, List.map_append, ← hse]
            rfl
          have HOL : Hid (k = ((ss.take k).map Str.cells).length) := by unfold Hid; rw [List.length_map, List.length_take]; omega
          have HMa := Lib.hid (HM1.out.alloc 40 (Str.cells ⟨zeroF, zeroF⟩))
          clear hse hsk hks HM1
          go_wp2_with (first
            | ((with_reducible refine g_ld 40 ?_); go_loud (refine wpList_ld rfl _ _ rfl _ rfl _ (HL1.out _ (Below.refl _ _)) ?_))
            | ((with_reducible refine g_st 40 ?_); go_loud (refine wpList_stB (cs' := s.cells) rfl _ _ rfl HMa.out 0 rfl rfl rfl str_size rfl s.cells_len (Str.cells_len _) s.ones ?_); intro w6 h6; have HM6 := Lib.hid h6; clear h6 HMa)
            | ((with_reducible refine g_ld 37 ?_); refine wpList_ld rfl _ _ rfl _ rfl _ (HM6.out.ldp frac_row (FracV.cells_len _) (i := 0) (j := 0) rfl (str_shear s) _ (Below.refl _ _)) ?_)
            | ((with_reducible refine g_ld 37 ?_); go_loud (refine wpList_ld rfl _ _ rfl _ rfl _ (HM6.out.ldp frac_row (FracV.cells_len _) (i := 0) (j := 17) rfl (str_bend s) _ (Below.refl _ _)) ?_))
            | ((with_reducible refine g_bld 93 ?_); go_loud (refine wpList_val rfl _ (build_stressR s.shear s.bend _ rfl rfl) ?_))
            | ((with_reducible refine g_bls 81 ?_); go_loud (refine wpList_run rfl (ok_slice1 (u := .agg s.cells.toArray) rfl el81 zfSR rfl (by show s.cells.toArray.size = 34; simp [Str.cells_len]) (by decide) (by decide)) ?_))
            | (at_builtin; go_loud (refine wpList_append_M rfl _ _ rfl strR_ei k HOL.out rfl (HM6.out.any _) 1 rfl rfl (Rd.new2 w6 93 34 s.cells s.cells_len) rfl (by intro cs hc u hu; rw [List.mem_singleton] at hc; subst hc; exact s.ones u hu) (by rw [← HOL.out]; unfold maxLen; omega) (by rw [← HOL.out]; omega) ?_); intro A9 c9 w9 h9; have HM9 := Lib.hid h9; clear h9))
          go_roundw
          case rel =>
            refine ⟨k + 1, A9, c9, by omega, by go_num, rfl, ?_⟩
            rw [HST.out]
            exact HM9.out.sub (List.sublist_cons_self _ _)
          case measure => simp [intOf]; omega
    · have c1 : ¬ (40 : Int) < (n : Int) := by omega
      have c2 : (40 : Int) < (m : Int) := by omega
      clear h h' hn hm hf hn4 hm4
      go_enter Try.func10, Try.ntmps10
      go_wp2
      go_ret
      exact ⟨rfl, Below.refl _ _⟩
  · have c1 : (40 : Int) < (n : Int) := by omega
    clear h h' hn hm hf hn4
    go_enter Try.func10, Try.ntmps10
    go_wp2
    go_ret
    exact ⟨rfl, Below.refl _ _⟩

set_option maxHeartbeats 1000000 in
theorem law_Over (A D : Option Addr) (c d n m : Nat) (l : List Frm) (ss : List Str) (hn : n = l.length) (hm : m = ss.length) (w : World) (h : Rd w w.heap.size 5 A (l.map Frm.cells)) (h' : Rd w w.heap.size 34 D (ss.map Str.cells)) (hf : ∀ s ∈ ss, s.fits) :
    Calls Try.prog 4 #[.slice A n c, .slice D m d] w fun e w' => e = .returned (.bool true) ∧ Below w.heap.size w w' := by
  have HO := Lib.hid (law_over A D c d n m l ss hn hm w h h' hf)
  clear hn hm h h' hf
  go_enter Try.func4, Try.ntmps4
  go_wp2_with (first
    | (go_at_call 10; go_loud (refine (HO.out).mono ?_); rintro e w3 ⟨rfl, hb⟩; have HB := Lib.hid hb; clear hb)
    | (go_at_call 9; go_loud (refine (law_awake _).mono ?_); rintro e w4 ⟨rfl, hb⟩; have HB4 : Hid (From w3 w4) := hb; clear hb))
  go_ret
  exact ⟨rfl, HB.out.trans (HB4.out.mono HB.out.size)⟩
end Go.Proofs.Ytcdfnlgimbecgaa
