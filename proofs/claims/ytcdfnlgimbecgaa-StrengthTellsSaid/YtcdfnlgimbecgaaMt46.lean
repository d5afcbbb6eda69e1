/-
  twistlockkit: LentFrames, KeptFrames.
-/
import Derived.Test.YtcdfnlgimbecgaaMt45
namespace Go.Proofs.Ytcdfnlgimbecgaa
open Go.RowKit
theorem mark_any (k i : Int) (w : World) (hk : 0 ≤ k) (hk2 : k ≤ 10) (hi : 0 ≤ i) (hi2 : i ≤ 1000000000000000) :
 Calls Try.prog 100 #[.int .i64 k, .int .i64 i] w fun e w' => e = .returned (.int .i64 (1000003 * (k + 7) + i)) ∧ w = w' := by
 go_enter Try.func100, Try.ntmps100
 go_wp2
 go_ret
 exact ⟨rfl, rfl⟩
def mkFrm (n : Int) : Frm := ⟨n, 0, 0, 0, 0⟩
theorem markFrm_any (k i m : Int) (hm : 1000003 * (k + 7) = m) (w : World) (hk : 0 ≤ k) (hk2 : k ≤ 10) (hi : 0 ≤ i) (hi2 : i ≤ 1000000000000000) :
 Calls Try.prog 69 #[.int .i64 k, .int .i64 i] w fun e w' => e = .returned (mkFrm (m + i)).val ∧ Below w.heap.size w w' := by
 subst hm
 go_enter Try.func69, Try.ntmps69
 go_wp2_with (go_at_call 100; refine (mark_any _ _ _ (by omega) (by omega) (by omega) (by omega)).mono ?_; rintro e w' ⟨rfl, rfl⟩)
 exact bodyPost_ret (v := (mkFrm (1000003 * (k + 7) + i)).val) (by simp [results, Try.results69, go_sem, mkFrm]) rfl ⟨rfl, by
  exact (Below.refl _ w).alloc (Nat.le_refl _) _⟩
def marksFrm (m : Int) (n : Nat) : List Frm := (List.range n).map fun (i : Nat) => mkFrm (m + (i : Int))
theorem marksFrm_succ (m : Int) (n : Nat) : marksFrm m (n + 1) = marksFrm m n ++ [mkFrm (m + (n : Int))] := by
 simp [marksFrm, List.range_succ]
theorem marksFrm_get (m : Int) (n k : Nat) (h : k < n) : (marksFrm m n)[k]? = some (mkFrm (m + (k : Int))) := by
 simp [marksFrm, h]
set_option maxHeartbeats 1000000 in
theorem lentFrames (A : Option Addr) (c : Nat) (l : List Frm) (w : World) (hA : Rd w w.heap.size 5 A (l.map Frm.cells)) (hl : l.length * 40 ≤ 140737488351232) :
 Calls Try.prog 29 #[.slice A l.length c] w fun e w' => ∃ g cap, e = .returned (.slice (some ⟨g, 0, none⟩) l.length cap) ∧ w.heap.size ≤ g ∧ l.length + 12 ≤ cap ∧
  Rd w' w'.heap.size 5 (some ⟨g, 0, none⟩) ((l ++ marksFrm 8000024 12).map Frm.cells) ∧ Below w.heap.size w w' := by
 go_enter Try.func29, Try.ntmps29
 go_wp2_with (first
  | (at_make; go_loud (refine wpList_make_S rfl _ _ rfl Frm.ei (base := w.heap.size) (n := l.length + 12) rfl rfl (by simp) (by omega) (by unfold maxLen; omega) (Nat.le_refl _) ?_); intro w1 hown hb1 hlt1)
  | (at_builtin; go_loud (refine wpList_append_room rfl _ _ rfl Frm.ei 0 rfl rfl hown rfl w.heap.size (hA.below hb1 (Nat.le_refl _)) (by simp) (Frm.ones l) (by simp) hb1.size ?_); intro w2 hown2 hg2 hb2))
 have H2 : OwnS w2 w.heap.size 44 5 (some ⟨w.heap.size, 0, none⟩) (l.length + 12) ((l ++ marksFrm 8000024 0).map Frm.cells) := by simpa [marksFrm] using hown2
 have B2 : Below w.heap.size w w2 := hb1.trans hb2
 clear hown hown2 hg2 hb2 hb1 hlt1 hA
 go_loopw [3, 4] (fun v i wr => ∃ k : Nat, k ≤ 12 ∧ i = .int .i64 k ∧ v = .slice (some ⟨w.heap.size, 0, none⟩) (l.length + k) (l.length + 12) ∧
  OwnS wr w.heap.size 44 5 (some ⟨w.heap.size, 0, none⟩) (l.length + 12) ((l ++ marksFrm 8000024 k).map Frm.cells) ∧ Below w.heap.size w wr) (fun _ i _ => 12 - (intOf i).toNat)
 case atStart => exact ⟨0, by omega, rfl, rfl, H2, B2⟩
 case round =>
  obtain ⟨k, hk, rfl, rfl, hown, hb⟩ := hrel
  clear H2 B2
  by_cases hlt : k < 12
  · have hbs := hb.size
    go_wp2_with (first
     | (go_at_call 69; refine (markFrm_any _ _ 8000024 rfl _ (by omega) (by omega) (by omega) (by omega)).mono ?_; rintro e w' ⟨rfl, hb3⟩; have hbs3 := hb3.size; have hown3 := hown.below hb3 (Nat.le_refl _))
     | (at_builtin; go_loud (refine wpList_append_room rfl _ _ rfl Frm.ei (l.length + k) (by simp [marksFrm]) rfl (hown3.alloc _) rfl (w'.heap.size + 1) (Rd.new w' 44 5 (mkFrm (8000024 + (k : Int))).cells rfl) rfl (Frm.ones [_]) (by simp [marksFrm]; omega) (by simp; omega) ?_); intro w4 hown4 hg4 hb4))
    go_roundw
    case rel => exact ⟨k + 1, by omega, by go_num, rfl, by rw [marksFrm_succ]; simpa using hown4, hb.trans (((hb3.mono hbs).trans ((Below.refl _ _).alloc (by omega) _)).trans hb4)⟩
    case measure => simp [intOf]; omega
  · obtain rfl : k = 12 := by omega
    go_wp2
    go_ret
    exact ⟨w.heap.size, l.length + 12, rfl, Nat.le_refl _, Nat.le_refl _, hown.rd, hb⟩
set_option maxRecDepth 100000 in
set_option maxHeartbeats 1000000 in
theorem keptFrames (A A' : Option Addr) (c c' : Nat) (l : List Frm) (w : World) (hA : Rd w w.heap.size 5 A ((l ++ marksFrm 8000024 12).map Frm.cells)) (hc : l.length + 12 ≤ c) (hA' : Rd w w.heap.size 5 A' (l.map Frm.cells)) (hl : l.length * 40 ≤ 140737488351232) :
 Calls Try.prog 35 #[.slice A l.length c, .slice A' l.length c'] w fun e w' => e = .returned (.bool true) ∧ Below w.heap.size w w' := by
 go_enter Try.func35, Try.ntmps35
 have h0 : ((l.length : Int) != (l.length : Int)) = false := by simp
 go_wp2
 clear h0
 go_loopw [6] (fun i wr => ∃ k : Nat, k ≤ l.length + 12 ∧ i = .int .i64 k ∧ Below w.heap.size w wr) (fun i _ => l.length + 12 - (intOf i).toNat)
 case atStart => exact ⟨0, by omega, rfl, Below.refl _ _⟩
 case round =>
  obtain ⟨k, hk, rfl, hb⟩ := hrel
  have hbs := hb.size
  by_cases hlt : k < l.length
  · obtain ⟨b, off, rfl, hb1, hld⟩ := Frm.ld hA (app_get Frm.cells l _ k hlt)
    obtain ⟨b', off', rfl, hb1', hld'⟩ := Frm.ld hA' (map_get Frm.cells l k hlt)
    have HL := Lib.hid hld
    have HL' := Lib.hid hld'
    clear hld hld' hA hA'
    have heq := Frm.eql_ l[k] l[k]
    have hd : decide (l.length ≤ k) = false := by simp; omega
    go_wp2
    refine wp_region_below (by kernel_rfl) (by kernel_rfl) w.heap.size ?_
    repeat (first | go_big_quiet_skip | (go_big_quiet_want; refine quiet_ld _ _ rfl _ rfl _ (fun w' hC => HL.out w' (hb.trans hC)) ?_; simp only [Act.put, List.setIfInBounds_toArray, List.set_cons_succ, List.set_cons_zero]; go_big_quiet_on) | (go_big_quiet_want; refine quiet_ld _ _ rfl _ rfl _ (fun w' hC => HL'.out w' (hb.trans hC)) ?_; simp only [Act.put, List.setIfInBounds_toArray, List.set_cons_succ, List.set_cons_zero]; go_big_quiet_on) | go_big_quiet_step (first | (intro hC; rfl) | (intro hC; exact ⟨rfl, rfl⟩)))
    refine wpQuiet_nil ?_
    intro w' hC
    clear heq
    go_wp2
    go_roundw
    case rel => exact ⟨k + 1, by omega, by go_num, hb.trans hC⟩
    case measure => simp [intOf]; omega
  · by_cases hlt2 : k < l.length + 12
    · obtain ⟨b, off, rfl, hb1, hld⟩ := Frm.ld hA (app_get' Frm.cells l _ k _ (by omega) (marksFrm_get 8000024 12 (k - l.length) (by omega)))
      have HL := Lib.hid hld
      clear hld hA hA'
      have e1 : ((k : Int) - (l.length : Int)) = ((k - l.length : Nat) : Int) := by omega
      have heq := Frm.eql_ (mkFrm (8000024 + ((k : Int) - (l.length : Int)))) (mkFrm (8000024 + ((k : Int) - (l.length : Int))))
      rw [← e1] at HL
      clear e1
      have hd : decide (l.length ≤ k) = true := by simp; omega
      go_wp2
      refine wp_region_below (by kernel_rfl) (by kernel_rfl) w.heap.size ?_
      repeat (first | go_big_quiet_skip | (go_big_quiet_want; refine quiet_ld _ _ rfl _ rfl _ (fun w' hC => HL.out w' (hb.trans hC)) ?_; simp only [Act.put, List.setIfInBounds_toArray, List.set_cons_succ, List.set_cons_zero]; go_big_quiet_on) | go_big_quiet_step (first | (intro hC; rfl) | (intro hC; exact ⟨rfl, rfl⟩) | (intro hC; refine (markFrm_any _ _ 8000024 rfl _ (by omega) (by omega) (by omega) (by omega)).mono ?_; rintro e w' ⟨rfl, hb3⟩; exact ⟨rfl, hC.trans (hb3.mono (Nat.le_trans hbs hC.size))⟩)))
      refine wpQuiet_nil ?_
      intro w' hC
      clear heq
      go_wp2
      go_roundw
      case rel => exact ⟨k + 1, by omega, by go_num, hb.trans hC⟩
      case measure => simp [intOf]; omega
    · obtain rfl : k = l.length + 12 := by omega
      go_wp2
      go_ret
      exact ⟨rfl, hb⟩
set_option maxRecDepth 100000 in
set_option maxHeartbeats 4000000 in
theorem build_strS (f g : FracV) {ρ : Operand → Value} {s t : Nat} {d : Option Nat} {ty : TypeId} {pos : String} {aft : Array Edge} {gd : Option (Nat × Bool)} (w : World) (hx : ρ (.tmp s) = .agg f.cells.toArray) (hy : ρ (.tmp t) = .agg g.cells.toArray) :
 (execOp ρ ⟨d, .build 40 #[(0, .tmp s), (1, .tmp t)], ty, pos, aft, gd⟩).run Try.prog w = .ok (.value (.agg (f.cells ++ g.cells).toArray)) w := by
 obtain ⟨b, c, hf⟩ := frac_explicit f
 obtain ⟨b', c', hg⟩ := frac_explicit g
 rw [hf] at hx
 rw [hg] at hy
 rw [hf, hg]
 clear hf hg
 unfold execOp
 simp only [List.map_toArray, List.map_cons, List.map_nil, hx, hy]
 go_simp
theorem op_wt_neq (x : Wt) {ρ : Operand → Value} {s t : Nat} {d : Option Nat} {T : TypeId} {ty : TypeId} {pos : String} {aft : Array Edge} {gd : Option (Nat × Bool)} (w : World) (hs : ρ (.tmp s) = .agg x.cells.toArray) (ht : ρ (.tmp t) = .agg x.cells.toArray) :
 (execOp ρ ⟨d, .binOp .neq 46 (.tmp s) (.tmp t) T, ty, pos, aft, gd⟩).run Try.prog w = .ok (.value (.bool false)) w := by
 have h1 : (eqGuard .neq 46 (.tmp s) (.tmp t) (.agg x.cells.toArray) (.agg x.cells.toArray)).run Try.prog w = .ok () w := run_eqGuard_agg (P := Try.prog) (w := w) .neq 46 (.tmp s) (.tmp t) _ _ (by kernel_rfl)
 have h2 := Wt.neq_ x x w
 rw [decide_eq_true rfl] at h2
 have h3 : (binOp .neq 46 (.agg x.cells.toArray) (.agg x.cells.toArray)).run Try.prog w = .ok (.bool false) w := h2
 unfold execOp
 simp only [hs, ht, Sem.run_bind, h1, Result.andThen_ok, h3, Sem.run_pure]
theorem wt_row18 : IsRow Try.prog 46 2 := ⟨_, Try.underlying46, by kernel_rfl, by kernel_rfl⟩
theorem strR_row : IsRow Try.prog 93 34 := ⟨_, Try.underlying93, by kernel_rfl, by kernel_rfl⟩
theorem strR_size : (Try.prog.info? 93).map (·.size) = some 34 := by kernel_rfl
theorem wt_ei18 : EI Try.prog 23 46 2 16 := EI.mk (z := .agg (Wt.cells ⟨0, 0⟩).toArray) Try.underlying23 (by kernel_rfl) rfl (by omega)
theorem wtR_ei : EI Try.prog 78 79 2 16 := EI.mk (z := .agg (Wt.cells ⟨0, 0⟩).toArray) Try.underlying78 (by kernel_rfl) rfl (by omega)
theorem zfWR : (Try.prog.info? 79).bind (·.zero) = some (.agg (Wt.cells ⟨0, 0⟩).toArray) := by kernel_rfl
theorem wt_size18 : (Try.prog.info? 46).map (·.size) = some 2 := by kernel_rfl
set_option maxRecDepth 100000 in
set_option maxHeartbeats 2000000 in
theorem law_curve (A D : Option Addr) (c d n : Nat) (ss : List Str) (e : Int) (hn : n = ss.length) (w : World) (h : Rd w w.heap.size 34 A (ss.map Str.cells)) (h' : Rd w w.heap.size 34 D (ss.map Str.cells)) (hss : ss.length ≤ 1000000) :
 Calls Try.prog 32 #[.slice A n c, .int .i64 e, .slice D n d, .int .i64 e] w fun e w' => e = .returned (.bool true) ∧ From w w' := by
 have HR := Lib.hid h
 have HD := Lib.hid h'
 have HN := Lib.hid hn
 have hn6 : n ≤ 1000000 := by omega
 clear h h' hn hss
 go_enter Try.func32, Try.ntmps32
 go_wp2
 go_loopw [23] (fun v23 wq => ∃ k : Nat, k ≤ n ∧ v23 = .int .i64 (k : Int) ∧ From w wq) (fun v _ => n - (intOf v).toNat)
 case atStart => exact ⟨0, Nat.zero_le _, rfl, Below.refl _ _⟩
 case round =>
  obtain ⟨k, hk, rfl, hf⟩ := hrel
  have HF := Lib.hid hf
  clear hf
  by_cases hkn : k = n
  · have hlt : ¬ (k : Int) < (n : Int) := by omega
    clear hkn hk
    go_wp2
    go_ret
    exact ⟨rfl, HF.out⟩
  · have hlt : (k : Int) < (n : Int) := by omega
    have hks : k < ss.length := by rw [← HN.out]; omega
    obtain ⟨s, hse⟩ : ∃ s, s = ss[k] := ⟨_, rfl⟩
    have hsk : ss[k]? = some s := by rw [List.getElem?_eq_getElem hks, hse]
    obtain ⟨bA, oA, rfl⟩ := Rd.addr HR.out (by rw [List.length_map]; omega)
    obtain ⟨bD, oD, rfl⟩ := Rd.addr HD.out (by rw [List.length_map]; omega)
    have HX := Lib.hid (fun (w1 : World) (hb : From wr w1) => Rd.row (P := Try.prog) (HR.out.from HF.out) hb str_row (k := k) (cs := s.cells) (by simp [hsk]) (p := oA + k * 34) rfl)
    have HY := Lib.hid (fun (w1 : World) (hb : From wr w1) => Rd.row (P := Try.prog) (HD.out.from HF.out) hb strR_row (k := k) (cs := s.cells) (by simp [hsk]) (p := oD + k * 34) rfl)
    have HM0 := Lib.hid ((Mem.nil wr).alloc 93 (Str.cells ⟨zeroF, zeroF⟩))
    clear hse hsk hks hkn
    go_wp2_with (first
     | ((with_reducible refine g_ld 93 ?_); go_loud (refine wpList_ld rfl _ _ rfl _ rfl _ (HY.out _ (Below.refl _ _)) ?_))
     | ((with_reducible refine g_st 93 ?_); go_loud (refine wpList_stB (cs' := s.cells) rfl _ _ rfl HM0.out 0 rfl rfl rfl strR_size rfl s.cells_len (Str.cells_len _) s.ones ?_); intro w6 h6; have HM6 := Lib.hid h6; clear h6))
    have HX6 := Lib.hid (fun (w1 : World) (hb : From w6 w1) => HX.out w1 (HM6.out.from_.trans (hb.mono HM6.out.from_.size)))
    have HL1 := Lib.hid (HM6.out.ldp f01_row (FracV.cells_len _) (i := 0) (j := 0) rfl (str_shear s))
    have HL2 := Lib.hid (HM6.out.ldp f01_row (FracV.cells_len _) (i := 0) (j := 17) rfl (str_bend s))
    refine wp_region_run 10 [.val (Value.slice (some ⟨bA, oA, none⟩) n c), .val (Value.int .i64 ((k : Int))), .val (Value.pointer (some ⟨bA, oA + k * 34, none⟩)), .val (Str.val s), .val (Value.pointer (some ⟨wr.heap.size, 0, none⟩)), .val (Value.agg s.shear.cells.toArray), .val (Value.pointer (some ⟨wr.heap.size, 17, none⟩)), .val (Value.agg s.bend.cells.toArray), .val (Str.val s), .val (Value.bool false)] (by kernel_rfl) (by kernel_rfl) (Nat.le_of_ble_eq_true (by kernel_rfl)) (by kernel_rfl) (by kernel_rfl) ?_ ?_ ?_
    · exact trivial
    · exact ⟨(fun _ _ => ok_move rfl), (fun _ _ => ok_move rfl), (fun _ _ => ok_index (k := k) rfl rfl el26 (hlt) (rfl)), (fun w hb => ok_load rfl ((HX6.out) w hb)), (fun _ _ => ok_field (k := 0) rfl fl93_0 rfl), (fun w hb => ok_load rfl ((HL1.out) w hb)), (fun _ _ => ok_field (k := 17) rfl fl93_1 rfl), (fun w hb => ok_load rfl ((HL2.out) w hb)), (fun w _ => build_strS s.shear s.bend w rfl rfl), (fun w _ => op_str_neq s w rfl rfl), trivial⟩
    intro w7 hb7
    simp only [contS, List.take_succ_cons, List.take_zero, List.drop_succ_cons, List.drop_zero]
    simp only [Act.put, List.setIfInBounds_toArray, List.set_cons_succ, List.set_cons_zero]
    have HF7 := Lib.hid (HF.out.trans ((HM6.out.from_.trans (hb7.mono HM6.out.from_.size)).mono HF.out.size))
    clear hb7 HM6 HX6 HL1 HL2
    go_wp2
    go_roundw
    case rel => exact ⟨k + 1, by omega, by go_num, HF7.out⟩
    case measure => simp [intOf]; omega
theorem curveF_fits (l : List Frm) (ws : List Wt) : ∀ s ∈ (curveF l ws).1, s.fits := by
 intro s hs
 unfold curveF at hs
 split at hs
 · cases hs
 · split at hs
   · cases hs
   · split at hs
     · cases hs
     · split at hs
       · cases hs
       · unfold curveS at hs
         obtain ⟨j, _, rfl⟩ := List.mem_map.1 hs
         exact ⟨subL_fits _ _, divL_fits _ _⟩
theorem curveF_len (l : List Frm) (ws : List Wt) : (curveF l ws).1.length ≤ l.length := by
 unfold curveF
 split
 · exact Nat.zero_le _
 · split
   · exact Nat.zero_le _
   · split
     · exact Nat.zero_le _
     · split
       · exact Nat.zero_le _
       · unfold curveS
         rw [List.length_map, List.length_range]
         exact Nat.le_refl _
theorem overF_len (l : List Frm) (ss : List Str) : (overF l ss).1.length ≤ ss.length := by
 unfold overF
 split
 · exact Nat.zero_le _
 · rw [List.length_map]
   exact overL_len l ss ss.length
set_option maxRecDepth 100000 in
set_option maxHeartbeats 3000000 in
theorem law_tells (A D : Option Addr) (c d n m : Nat) (l : List Frm) (ws : List Wt) (hn : n = l.length) (hm : m = ws.length) (w : World) (h : Rd w w.heap.size 5 A (l.map Frm.cells)) (h' : Rd w w.heap.size 2 D (ws.map Wt.cells)) (hq : refCurve l ws = curveF l ws) :
 Calls Try.prog 8 #[.slice A n c, .slice D m d] w fun e w' => e = .returned (.bool true) ∧ From w w' := by
 by_cases hn4 : n ≤ 40
 · by_cases hm4 : m ≤ 40
   · have c1 : ¬ (40 : Int) < (n : Int) := by omega
     have c2 : ¬ (40 : Int) < (m : Int) := by omega
     have HR := Lib.hid h
     have HD := Lib.hid h'
     have HN := Lib.hid (And.intro hn hm)
     obtain ⟨r, hr⟩ : ∃ r, r = curveF l ws := ⟨_, rfl⟩
     obtain ⟨o, ho⟩ : ∃ o, o = overF l r.1 := ⟨_, rfl⟩
     have HRL : Hid (r.1.length ≤ 40) := by unfold Hid; rw [hr]; have := curveF_len l ws; omega
     have HOLn : Hid (o.1.length ≤ 40) := by unfold Hid; rw [ho]; have := overF_len l r.1; have := HRL.out; omega
     have HRF : Hid (∀ s ∈ r.1, s.fits) := by unfold Hid; rw [hr]; exact curveF_fits l ws
     have HCU : Hid (∀ (A1 A2 : Option Addr) (c1 c2 : Nat) (w1 : World), Rd w1 w1.heap.size 5 A1 (l.map Frm.cells) → Rd w1 w1.heap.size 2 A2 (ws.map Wt.cells) → Calls Try.prog 12 #[.slice A1 n c1, .slice A2 m c2] w1 (CurPost w1 r)) := by
      intro A1 A2 c1 c2 w1 h1 h2
      rw [hr]
      exact st_Curve A1 A2 c1 c2 n m l ws hn hm w1 h1 h2 (by omega) (by omega)
     have HRC : Hid (∀ (A2 : Option Addr) (c2 : Nat) (w1 : World), From w w1 → Rd w1 w1.heap.size 2 A2 (ws.map Wt.cells) → Calls Try.prog 30 #[.slice A n c, .slice A2 m c2] w1 (RcPost w1 r)) := by
      intro A2 c2 w1 hb h2
      rw [hr, ← hq]
      exact r18_Curve A A2 c c2 n m l ws hn hm w1 (HR.out.from hb) h2 (by omega) (by omega)
     have HRT : Hid (∀ (A1 : Option Addr) (c1 : Nat) (w1 : World), Rd w1 w1.heap.size 5 A1 (l.map Frm.cells) → Calls Try.prog 14 #[.slice A1 n c1] w1 fun e w' => e = .returned (.bool (rightF l)) ∧ Below w1.heap.size w1 w') := fun A1 c1 w1 h1 => st_Right A1 c1 n l hn w1 h1 (by omega)
     have HRT2 : Hid (∀ (w1 : World), From w w1 → Calls Try.prog 31 #[.slice A n c] w1 fun e w' => e = .returned (.bool (rightF l)) ∧ From w1 w') := fun w1 hb => r18_Right A c n l hn w1 (HR.out.from hb) (by omega)
     have HOV : Hid (∀ (A1 A2 : Option Addr) (c1 c2 : Nat) (w1 : World), Rd w1 w1.heap.size 5 A1 (l.map Frm.cells) → Rd w1 w1.heap.size 34 A2 (r.1.map Str.cells) → Calls Try.prog 22 #[.slice A1 n c1, .slice A2 r.1.length c2] w1 (OverPost w1 o)) := by
      intro A1 A2 c1 c2 w1 h1 h2
      rw [ho]
      exact st_Over A1 A2 c1 c2 n r.1.length l r.1 hn rfl w1 h1 h2 (by omega) (by have := HRL.out; omega) HRF.out
     have HOV2 : Hid (∀ (A2 : Option Addr) (c2 : Nat) (w1 : World), From w w1 → Rd w1 w1.heap.size 34 A2 (r.1.map Str.cells) → Calls Try.prog 33 #[.slice A n c, .slice A2 r.1.length c2] w1 (OverPost w1 o)) := by
      intro A2 c2 w1 hb h2
      rw [ho]
      exact r18_Over A A2 c c2 n r.1.length l r.1 hn rfl w1 (HR.out.from hb) h2 (by omega) HRF.out
     have HLE : Hid (∀ (w1 : World), From w w1 → Calls Try.prog 29 #[.slice A n c] w1 fun e w' => ∃ g cap, e = .returned (.slice (some ⟨g, 0, none⟩) n cap) ∧ l.length + 12 ≤ cap ∧ Rd w' w'.heap.size 5 (some ⟨g, 0, none⟩) ((l ++ marksFrm 8000024 12).map Frm.cells) ∧ From w1 w') := by
      intro w1 hb
      rw [hn]
      refine (lentFrames A c l w1 (HR.out.from hb) (by omega)).mono ?_
      rintro e w' ⟨g, cap, rfl, _, h2, h3, h4⟩
      exact ⟨g, cap, rfl, h2, h3, h4⟩
     have HKE : Hid (∀ (g cap : Nat) (w1 : World), From w w1 → l.length + 12 ≤ cap → Rd w1 w1.heap.size 5 (some ⟨g, 0, none⟩) ((l ++ marksFrm 8000024 12).map Frm.cells) → Calls Try.prog 35 #[.slice (some ⟨g, 0, none⟩) n cap, .slice A n c] w1 fun e w' => e = .returned (.bool true) ∧ Below w1.heap.size w1 w') := by
      intro g cap w1 hb hc hrd
      rw [hn]
      exact keptFrames _ A cap c l w1 hrd hc (HR.out.from hb) (by omega)
     have HFL : Hid (∀ (g : Nat) (w1 : World), Rd w1 w1.heap.size 5 (some ⟨g, 0, none⟩) ((l ++ marksFrm 8000024 12).map Frm.cells) → Rd w1 w1.heap.size 5 (some ⟨g, 0, none⟩) (l.map Frm.cells)) := fun g w1 h => by
      have h1 := h.take l.length
      rw [List.map_append, List.take_left' (by simp)] at h1
      exact h1
     obtain ⟨rt, hrt⟩ : ∃ b, b = rightF l := ⟨_, rfl⟩
     rw [← hrt] at HRT HRT2
     clear h h' hn hm hr ho hq hrt
     have HM0 := Lib.hid ((Mem.nil w).none 79 2)
     go_enter Try.func8, Try.ntmps8
     go_wp2
     go_loopw [5, 29] (fun v5 v29 wq => ∃ (k : Nat) (A5 : Option Addr) (c5 : Nat), k ≤ m ∧ v29 = .int .i64 (k : Int) ∧ v5 = .slice A5 k c5 ∧ Mem w wq [.row 79 2 A5 c5 ((ws.take k).map Wt.cells)]) (fun _ v _ => m - (intOf v).toNat)
     case atStart => exact ⟨0, none, 0, Nat.zero_le _, rfl, rfl, HM0.out⟩
     case round =>
      clear HM0
      obtain ⟨k, A5, c5, hk, rfl, rfl, hmem⟩ := hrel
      have HM1 := Lib.hid hmem
      clear hmem
      by_cases hkm : k = m
      · subst hkm
        have hlt : ¬ (k : Int) < (k : Int) := by omega
        have HG : Hid (Mem w wr [.row 79 2 A5 c5 (ws.map Wt.cells)]) := by
         have h1 := HM1.out
         rw [List.take_of_length_le (by rw [← HN.out.2]; exact Nat.le_refl _)] at h1
         exact h1
        have HB0 := Lib.hid HG.out.from_
        have HGV := Lib.hid (HG.out.rd (i := 0) rfl)
        clear HM1 hk HG
        go_wp2_with (first
         | (go_at_call 29; go_loud (refine (HLE.out _ HB0.out).mono ?_); rintro e w1 ⟨g, cap, rfl, hc1, hrd, hb⟩; have HFA := Lib.hid (And.intro hc1 hrd); have HB1 := Lib.hid (HB0.out.trans (hb.mono HB0.out.size)); have HG1 := Lib.hid (HGV.out.from hb); clear hc1 hrd hb HGV HB0 HLE)
         | (at_builtin; go_loud (refine wpList_append_rd (css := []) rfl _ _ rfl wt_ei18 rfl (OwnS.empty_new w1 w1.heap.size _ 2 (Nat.le_refl _)) rfl _ (HD.out.from (HB1.out.alloc HB1.out.size _)) (by rw [List.length_map]; exact HN.out.2) (Wt.ones ws) (by simp only [List.length_nil]; unfold maxLen; omega) (by simp only [List.length_nil]; omega) (by simp) ?_); intro A8 c8 w2 h8 _ hb8; rw [show (([] : List (List Value)) ++ ws.map Wt.cells).length = k by simp [HN.out.2]]
            have HBa : Hid (From w1 w2) := ((Below.refl w1.heap.size w1).alloc (Nat.le_refl _) (.cells #[] 46)).trans hb8
            have HB2 := Lib.hid (HB1.out.trans (HBa.out.mono HB1.out.size)); have HW2 : Hid (Rd w2 w2.heap.size 2 A8 (ws.map Wt.cells)) := h8.rd; have HF2 := Lib.hid (HFA.out.2.from HBa.out); have HG2 := Lib.hid (HG1.out.from HBa.out); clear h8 hb8 HBa HG1)
         | (go_at_call 12; go_loud (refine (HCU.out _ _ _ _ _ (HFL.out _ _ HF2.out) HW2.out).mono ?_); rintro e w3 ⟨Aa, ca, rfl, hra, hba, _, _⟩
            have HBx : Hid (From w2 w3) := hba; have HB3 := Lib.hid (HB2.out.trans (HBx.out.mono HB2.out.size)); have HRA3 := Lib.hid hra; have HW3 := Lib.hid (HW2.out.from HBx.out); have HF3 := Lib.hid (HF2.out.from HBx.out); have HG3 := Lib.hid (HG2.out.from HBx.out); clear hra hba HBx HB2 HW2 HF2 HG2 HCU)
         | (go_at_call 30; go_loud (refine (HRC.out _ _ _ HB3.out HG3.out).mono ?_); rintro e w4 ⟨Ab, cb, rfl, hrb, hbb⟩
            have HBx : Hid (From w3 w4) := hbb; have HB4 := Lib.hid (HB3.out.trans (HBx.out.mono HB3.out.size)); have HRB4 := Lib.hid hrb; have HRA4 := Lib.hid (HRA3.out.from HBx.out); have HW4 := Lib.hid (HW3.out.from HBx.out); have HF4 := Lib.hid (HF3.out.from HBx.out); clear hrb hbb HBx HB3 HRA3 HW3 HF3 HG3 HRC)
         | (go_at_call 14; go_loud (refine (HRT.out _ _ _ (HFL.out _ _ HF4.out)).mono ?_); rintro e w5 ⟨rfl, hb⟩
            have HBx : Hid (From w4 w5) := hb; have HB5 := Lib.hid (HB4.out.trans (HBx.out.mono HB4.out.size)); clear hb HRT)
         | (go_at_call 31; go_loud (refine (HRT2.out _ HB5.out).mono ?_); rintro e w6 ⟨rfl, hb⟩
            have HBy : Hid (From w4 w6) := HBx.out.trans (hb.mono HBx.out.size); have HB6 := Lib.hid (HB4.out.trans (HBy.out.mono HB4.out.size)); clear hb HRT2 HBx HB5)
         | (go_at_call 32; go_loud (refine (law_curve Aa Ab ca cb _ r.1 r.2 rfl _ (HRA4.out.from HBy.out) (HRB4.out.from HBy.out) (by have := HRL.out; omega)).mono ?_); rintro e w7 ⟨rfl, hb⟩
            have HBz : Hid (From w4 w7) := HBy.out.trans (hb.mono HBy.out.size); have HB7 := Lib.hid (HB4.out.trans (HBz.out.mono HB4.out.size)); have HRA7 := Lib.hid (HRA4.out.from HBz.out); have HRB7 := Lib.hid (HRB4.out.from HBz.out); have HW7 := Lib.hid (HW4.out.from HBz.out); have HF7 := Lib.hid (HF4.out.from HBz.out); clear hb HBz HBy HB6 HB4 HRA4 HRB4 HW4 HF4)
         | (go_at_call 22; go_loud (refine (HOV.out _ _ _ _ _ (HFL.out _ _ HF7.out) HRA7.out).mono ?_); rintro e w8 ⟨Ac, cc, rfl, hrc, hbc⟩
            have HBx : Hid (From w7 w8) := hbc; have HB8 := Lib.hid (HB7.out.trans (HBx.out.mono HB7.out.size)); have HRC8 := Lib.hid hrc; have HRB8 := Lib.hid (HRB7.out.from HBx.out); have HW8 := Lib.hid (HW7.out.from HBx.out); have HF8 := Lib.hid (HF7.out.from HBx.out); clear hrc hbc HBx HB7 HRA7 HRB7 HW7 HF7 HOV)
         | (go_at_call 33; go_loud (refine (HOV2.out _ _ _ HB8.out HRB8.out).mono ?_); rintro e w9 ⟨Ad, cd, rfl, hrd, hbd⟩
            have HBx : Hid (From w8 w9) := hbd; have HB9 := Lib.hid (HB8.out.trans (HBx.out.mono HB8.out.size)); have HRD9 := Lib.hid hrd; have HRC9 := Lib.hid (HRC8.out.from HBx.out); have HW9 := Lib.hid (HW8.out.from HBx.out); have HF9 := Lib.hid (HF8.out.from HBx.out); clear hrd hbd HBx HB8 HRC8 HRB8 HW8 HF8 HOV2))
        obtain ⟨n1, hn1⟩ : ∃ n1, n1 = o.1.length := ⟨_, rfl⟩
        rw [← hn1]
        have HN1 := Lib.hid hn1
        obtain ⟨f1, hf1⟩ : ∃ f1, f1 = o.2 := ⟨_, rfl⟩
        rw [← hf1]
        clear hn1 hf1
        go_loopw [82] (fun v82 wq => ∃ i : Nat, i ≤ k ∧ v82 = .int .i64 (i : Int) ∧ From w9 wq) (fun v _ => k - (intOf v).toNat)
        case atStart => exact ⟨0, Nat.zero_le _, rfl, Below.refl _ _⟩
        case round =>
         obtain ⟨i, hi, rfl, hf⟩ := hrel
         have HF := Lib.hid hf
         clear hf
         by_cases hik : i = k
         · have hlt : ¬ (i : Int) < (k : Int) := by omega
           have HS := Lib.hid (kit_SameInts Ac Ad cc cd n1 n1 o.1 o.1 HN1.out HN1.out wr (HRC9.out.from HF.out) (HRD9.out.from HF.out) (by have := HOLn.out; omega))
           have HS2 : Hid (decide (o.1 = o.1) = true) := decide_eq_true rfl
           clear hik hi
           go_wp2_with (first
            | (go_at_call 34; go_loud (refine (HS.out).mono ?_); rintro e w12 ⟨rfl, hb⟩; rw [HS2.out]; have HB12 := Lib.hid (HF.out.trans (hb.mono HF.out.size)); clear hb)
            | (go_at_call 35; go_loud (refine (HKE.out _ _ _ (HB9.out.trans (HB12.out.mono HB9.out.size)) HFA.out.1 (HF9.out.from HB12.out)).mono ?_); rintro e w13 ⟨rfl, hb⟩; have HB13 : Hid (From w12 w13) := hb; clear hb))
           go_ret
           exact ⟨rfl, HB9.out.trans ((HB12.out.trans (HB13.out.mono HB12.out.size)).mono HB9.out.size)⟩
         · have hik2 : (i : Int) < (k : Int) := by omega
           have his : i < ws.length := by rw [← HN.out.2]; omega
           obtain ⟨s, hse⟩ : ∃ s, s = ws[i] := ⟨_, rfl⟩
           have hsi : ws[i]? = some s := by rw [List.getElem?_eq_getElem his, hse]
           obtain ⟨bD, oD, rfl⟩ := Rd.addr HD.out (by rw [List.length_map]; omega)
           obtain ⟨bO, oO, rfl⟩ := Rd.addr HW9.out (by rw [List.length_map]; omega)
           have HX := Lib.hid (fun (w1 : World) (hb : From wr w1) => Rd.row (P := Try.prog) (HW9.out.from HF.out) hb wt_row18 (k := i) (cs := s.cells) (by simp [hsi]) (p := oO + i * 2) rfl)
           have HY := Lib.hid (fun (w1 : World) (hb : From wr w1) => Rd.row (P := Try.prog) (HD.out.from (HB9.out.trans (HF.out.mono HB9.out.size))) hb wt_row18 (k := i) (cs := s.cells) (by simp [hsi]) (p := oD + i * 2) rfl)
           clear his hse hsi hik
           go_wp2
           refine wp_region_run 9 [.val (Value.slice (some ⟨bO, oO, none⟩) k c8), .val (Value.int .i64 ((i : Int))), .val (Value.pointer (some ⟨bO, oO + i * 2, none⟩)), .val (Value.agg s.cells.toArray), .val (Value.slice (some ⟨bD, oD, none⟩) k d), .val (Value.int .i64 ((i : Int))), .val (Value.pointer (some ⟨bD, oD + i * 2, none⟩)), .val (Value.agg s.cells.toArray), .val (Value.bool false)] (by kernel_rfl) (by kernel_rfl) (Nat.le_of_ble_eq_true (by kernel_rfl)) (by kernel_rfl) (by kernel_rfl) ?_ ?_ ?_
           · exact trivial
           · exact ⟨(fun _ _ => ok_move rfl), (fun _ _ => ok_move rfl), (fun _ _ => ok_index (k := i) rfl rfl el23 (hik2) (rfl)), (fun w hb => ok_load rfl ((HX.out) w hb)), (fun _ _ => ok_move rfl), (fun _ _ => ok_move rfl), (fun _ _ => ok_index (k := i) rfl rfl el23 (hik2) (rfl)), (fun w hb => ok_load rfl ((HY.out) w hb)), (fun w _ => op_wt_neq s w rfl rfl), trivial⟩
           intro w10 hb10
           simp only [contS, List.take_succ_cons, List.take_zero, List.drop_succ_cons, List.drop_zero]
           simp only [Act.put, List.setIfInBounds_toArray, List.set_cons_succ, List.set_cons_zero]
           have HF7 := Lib.hid (HF.out.trans (hb10.mono HF.out.size))
           clear hb10
           go_wp2
           go_roundw
           case rel => exact ⟨i + 1, by omega, by go_num, HF7.out⟩
           case measure => simp [intOf]; omega
      · have hlt : (k : Int) < (m : Int) := by omega
        have hks : k < ws.length := by rw [← HN.out.2]; omega
        obtain ⟨s, hse⟩ : ∃ s, s = ws[k] := ⟨_, rfl⟩
        have hsk : ws[k]? = some s := by rw [List.getElem?_eq_getElem hks, hse]
        obtain ⟨bD, oD, rfl⟩ := Rd.addr HD.out (by rw [List.length_map]; omega)
        have HL1 := Lib.hid (fun (w1 : World) (hb : From wr w1) => Rd.row (P := Try.prog) (HD.out.from HM1.out.from_) hb wt_row18 (k := k) (cs := s.cells) (by simp [hsk]) rfl)
        have HST : Hid ((ws.take (k + 1)).map Wt.cells = (ws.take k).map Wt.cells ++ [s.cells]) := by
         unfold Hid
         rw [List.take_succ_eq_append_getElem hks, List.map_append, ← hse]
         rfl
        have HOL : Hid (k = ((ws.take k).map Wt.cells).length) := by unfold Hid; rw [List.length_map, List.length_take]; omega
        have HMa := Lib.hid (HM1.out.alloc 46 (Wt.cells ⟨0, 0⟩))
        clear hse hsk hks HM1
        go_wp2_with (first
         | ((with_reducible refine g_ld 46 ?_); refine wpList_ld rfl _ _ rfl _ rfl _ (HL1.out _ (Below.refl _ _)) ?_)
         | ((with_reducible refine g_st 46 ?_); go_loud (refine wpList_stB (cs' := s.cells) rfl _ _ rfl HMa.out 0 rfl rfl rfl wt_size18 rfl rfl rfl s.one ?_); intro w6 h6; have HM6 := Lib.hid h6; clear h6 HMa)
         | ((with_reducible refine g_ld 46 ?_); go_loud (refine wpList_ld rfl _ _ rfl _ rfl _ (HM6.out.ldb wt_row18 rfl (i := 0) rfl _ (Below.refl _ _)) ?_))
         | ((with_reducible refine g_bls 78 ?_); go_loud (refine wpList_run rfl (ok_slice1 (u := .agg s.cells.toArray) rfl el78 zfWR rfl rfl (by decide) (by decide)) ?_))
         | (at_builtin; go_loud (refine wpList_append_M rfl _ _ rfl wtR_ei k HOL.out rfl (HM6.out.any _) 1 rfl rfl (Rd.new2 w6 79 2 s.cells rfl) rfl (by intro cs hc u hu; rw [List.mem_singleton] at hc; subst hc; exact s.one u hu) (by rw [← HOL.out]; unfold maxLen; omega) (by rw [← HOL.out]; omega) ?_); intro A9 c9 w9 h9; have HM9 := Lib.hid h9; clear h9))
        go_roundw
        case rel =>
         refine ⟨k + 1, A9, c9, by omega, by go_num, rfl, ?_⟩
         rw [HST.out]
         exact HM9.out.sub (List.sublist_cons_self _ _)
        case measure => simp [intOf]; omega
   · have c1 : ¬ (40 : Int) < (n : Int) := by omega
     have c2 : (40 : Int) < (m : Int) := by omega
     clear h h' hn hm hn4 hm4 hq
     go_enter Try.func8, Try.ntmps8
     go_wp2
     go_ret
     exact ⟨rfl, Below.refl _ _⟩
 · have c1 : (40 : Int) < (n : Int) := by omega
   clear h h' hn hm hn4 hq
   go_enter Try.func8, Try.ntmps8
   go_wp2
   go_ret
   exact ⟨rfl, Below.refl _ _⟩
set_option maxHeartbeats 1000000 in
theorem law_TellsOf (A D : Option Addr) (c d n m : Nat) (l : List Frm) (ws : List Wt) (hn : n = l.length) (hm : m = ws.length) (w : World) (h : Rd w w.heap.size 5 A (l.map Frm.cells)) (h' : Rd w w.heap.size 2 D (ws.map Wt.cells)) (hq : refCurve l ws = curveF l ws) :
 Calls Try.prog 3 #[.slice A n c, .slice D m d] w fun e w' => e = .returned (.bool true) ∧ Below w.heap.size w w' := by
 have HO := Lib.hid (law_tells A D c d n m l ws hn hm w h h' hq)
 clear hn hm h h' hq
 go_enter Try.func3, Try.ntmps3
 go_wp2_with (first
  | (go_at_call 8; go_loud (refine (HO.out).mono ?_); rintro e w3 ⟨rfl, hb⟩; have HB := Lib.hid hb; clear hb)
  | (go_at_call 9; go_loud (refine (law_awake _).mono ?_); rintro e w4 ⟨rfl, hb⟩; have HB4 : Hid (From w3 w4) := hb; clear hb))
 go_ret
 exact ⟨rfl, HB.out.trans (HB4.out.mono HB.out.size)⟩
end Go.Proofs.Ytcdfnlgimbecgaa
namespace Go.Proofs.Ytcdfnlgimbecgaa
theorem bound_rat {z : Int} {d : Nat} (hd : d ≠ 0) : (((z : Rat) / (d : Rat)).num.natAbs ≤ z.natAbs) ∧ ((z : Rat) / (d : Rat)).den ≤ d := by
 have h : (z : Rat) / (d : Rat) = Rat.normalize z d hd := by rw [Rat.normalize_eq_mkRat, Rat.mkRat_eq_div]
 rw [h, Rat.normalize_eq hd]
 constructor
 · show (z / ((z.natAbs.gcd d : Nat) : Int)).natAbs ≤ z.natAbs
   exact Int.natAbs_ediv_le_natAbs _ _
 · exact Nat.div_le_self _ _
end Go.Proofs.Ytcdfnlgimbecgaa
