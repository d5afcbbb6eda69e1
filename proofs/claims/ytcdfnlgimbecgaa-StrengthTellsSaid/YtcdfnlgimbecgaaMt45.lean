/-
  twistlockref18: Curve.
-/
import Derived.Test.YtcdfnlgimbecgaaMt43
import Derived.Test.YtcdfnlgimbecgaaMt44
namespace Go.Proofs.Ytcdfnlgimbecgaa
open Go.RowKit
def forceV (l : List Frm) (W : Int) (M : FracV) (i : Nat) : FracV := (subL (liftQ l W M i) (ofL (frmL l i))).1
def secShear (l : List Frm) (W : Int) (M : FracV) (j : Nat) : Nat → FracV
 | 0 => ofL 0
 | t + 1 => (addL (secShear l W M j t) (forceV l W M (j + t))).1
def secBend (l : List Frm) (W : Int) (M : FracV) (j : Nat) : Nat → FracV
 | 0 => ofL 0
 | t + 1 => (subL (secBend l W M j t) (mulL (forceV l W M (j + t)) (subL (midV l (j + t)) (ofL (frmX l j))).1).1).1
def ldShear (s : FracV) (ws : List Wt) (xj : Int) : Nat → FracV
 | 0 => s
 | k + 1 => if xj ≤ (ws.getD k wt0).x then (subL (ldShear s ws xj k) (ofL (ws.getD k wt0).kilos)).1 else ldShear s ws xj k
def ldBend (b : FracV) (ws : List Wt) (xj : Int) : Nat → FracV
 | 0 => b
 | k + 1 => if xj ≤ (ws.getD k wt0).x then (addL (ldBend b ws xj k) (mulL (ofL (ws.getD k wt0).kilos) (ofL ((ws.getD k wt0).x - xj))).1).1 else ldBend b ws xj k
def refStr (l : List Frm) (ws : List Wt) (W : Int) (M : FracV) (j : Nat) : Str :=
 ⟨ldShear (secShear l W M j (l.length - 1 - j)) ws (frmX l j) ws.length, ldBend (secBend l W M j (l.length - 1 - j)) ws (frmX l j) ws.length⟩
def outF (l : List Frm) (x : Wt) : Bool := decide (x.x < frmX l 0) || decide (frmX l (l.length - 1) ≤ x.x)
def refC4 (l : List Frm) (ws : List Wt) : List Str × Int := if 500000000 < totW l ws then ([], 3) else ((List.range l.length).map (refStr l ws (totW l ws) (totM l ws)), 0)
def refC3 (l : List Frm) (ws : List Wt) : List Str × Int := if ws.any (outF l) then ([], 6) else refC4 l ws
def refC2 (l : List Frm) (ws : List Wt) : List Str × Int := if 3000 < ws.length then ([], 5) else refC3 l ws
def refC1 (l : List Frm) (ws : List Wt) : List Str × Int := if ws.any wtBad then ([], 2) else refC2 l ws
def refCurve (l : List Frm) (ws : List Wt) : List Str × Int := if !rightF l then ([], 2) else refC1 l ws
theorem refC1_bad {l : List Frm} {ws : List Wt} (h : ws.any wtBad = true) : refC1 l ws = ([], 2) := if_pos h
theorem refC1_ok {l : List Frm} {ws : List Wt} (h : ws.any wtBad = false) : refC1 l ws = refC2 l ws := if_neg (by rw [h]; simp)
theorem refC2_bad {l : List Frm} {ws : List Wt} (h : 3000 < ws.length) : refC2 l ws = ([], 5) := if_pos h
theorem refC2_ok {l : List Frm} {ws : List Wt} (h : ¬ 3000 < ws.length) : refC2 l ws = refC3 l ws := if_neg h
theorem refC3_bad {l : List Frm} {ws : List Wt} (h : ws.any (outF l) = true) : refC3 l ws = ([], 6) := if_pos h
theorem refC3_ok {l : List Frm} {ws : List Wt} (h : ws.any (outF l) = false) : refC3 l ws = refC4 l ws := if_neg (by rw [h]; simp)
def RcPost (w : World) (r : List Str × Int) (e : Ending) (w' : World) : Prop := ∃ A c, e = .returned (.tuple #[.slice A r.1.length c, .int .i64 r.2]) ∧ Rd w' w'.heap.size 34 A (r.1.map Str.cells) ∧ From w w'
theorem RcPost.err {w w' : World} {e : Int} (hb : From w w') : RcPost w ([], e) (.returned (.tuple #[.slice none 0 0, .int .i64 e])) w' := ⟨none, 0, rfl, Rd.nil _ _ _ _, hb⟩
theorem secShear_fits (l : List Frm) (W : Int) (M : FracV) (j : Nat) : ∀ t, (secShear l W M j t).fits
 | 0 => ofL_fits' (by decide)
 | _ + 1 => addL_fits _ _
theorem secBend_fits (l : List Frm) (W : Int) (M : FracV) (j : Nat) : ∀ t, (secBend l W M j t).fits
 | 0 => ofL_fits' (by decide)
 | _ + 1 => subL_fits _ _
theorem ldShear_fits {s : FracV} (h : s.fits) (ws : List Wt) (xj : Int) : ∀ k, (ldShear s ws xj k).fits
 | 0 => h
 | k + 1 => by
  unfold ldShear
  split
  · exact subL_fits _ _
  · exact ldShear_fits h ws xj k
theorem ldBend_fits {s : FracV} (h : s.fits) (ws : List Wt) (xj : Int) : ∀ k, (ldBend s ws xj k).fits
 | 0 => h
 | k + 1 => by
  unfold ldBend
  split
  · exact addL_fits _ _
  · exact ldBend_fits h ws xj k
theorem boxes2on {w0 w : World} {M : List Ent} (h : Mem w0 w M) : Mem w0 ((w.alloc (.cells zeroF.cells.toArray 91)).alloc (.cells zeroF.cells.toArray 91)) (.box (w.heap.size + 1) 91 zeroF.cells :: .box w.heap.size 91 zeroF.cells :: M) := by
 have h := (h.alloc 91 zeroF.cells).alloc 91 zeroF.cells
 have e : (w.alloc (.cells zeroF.cells.toArray 91)).heap.size = w.heap.size + 1 := by simp
 rw [e] at h
 exact h
set_option maxRecDepth 100000 in
set_option maxHeartbeats 3000000 in
theorem r18_Curve (A D : Option Addr) (c d n m : Nat) (l : List Frm) (ws : List Wt) (hn : n = l.length) (hm : m = ws.length) (w : World) (h : Rd w w.heap.size 5 A (l.map Frm.cells)) (h' : Rd w w.heap.size 2 D (ws.map Wt.cells)) (hl : l.length ≤ 1000000) (hm6 : m ≤ 1000000) :
 Calls Try.prog 30 #[.slice A n c, .slice D m d] w (RcPost w (refCurve l ws)) := by
 have HRI := Lib.hid (r18_Right A c n l hn w h hl)
 obtain ⟨r, hr⟩ : ∃ r, r = refCurve l ws := ⟨_, rfl⟩
 rw [← hr]
 have HRR := Lib.hid hr
 clear hr
 cases hri : rightF l with
 | false =>
  rw [hri] at HRI
  have HE : Hid (refCurve l ws = ([], 2)) := by unfold Hid refCurve; rw [hri]; rfl
  clear hri h h' hn hm hl
  go_enter Try.func30, Try.ntmps30
  go_wp2_with (go_at_call 31; go_loud (refine (HRI.out).mono ?_); rintro e w1 ⟨rfl, hb1⟩)
  go_ret2
  rw [HRR.out, HE.out]
  exact RcPost.err hb1
 | true =>
  rw [hri] at HRI
  have hlen := rightF_len hri
  have hok := rightF_ok hri
  obtain ⟨bA, oA, rfl⟩ := Rd.addr h (by rw [List.length_map]; omega)
  obtain ⟨N, hN⟩ : ∃ N, n = N + 1 := ⟨n - 1, by omega⟩
  have hN1 : l.length - 1 = N := by omega
  have hn2 : N ≤ 29 := by omega
  have hn1 : 2 ≤ N := by omega
  have hn0 : ((0 : Nat) : Int) < (n : Int) := by omega
  have hNn : (N : Int) < (n : Int) := by omega
  have wN : IntKind.i64.wrap ((n : Int) - 1) = (N : Int) := by rw [wrap_i64 (by omega) (by omega)]; omega
  have HV : Hid (refCurve l ws = refC1 l ws) := by unfold Hid refCurve; rw [hri]; rfl
  have HR := Lib.hid h
  have HD := Lib.hid h'
  have HN := Lib.hid (And.intro hn (And.intro hm (And.intro hN hN1)))
  have HOK := Lib.hid hok
  have HLN := Lib.hid hlen
  clear hri h h' hn hm hl hok hlen hN hN1
  go_enter Try.func30, Try.ntmps30
  go_wp2_with (go_at_call 31; go_loud (refine (HRI.out).mono ?_); rintro e w1 ⟨rfl, hb1⟩; have HB1 : Hid (From w w1) := hb1; clear hb1 HRI)
  go_loopw [6] (fun v6 wq => ∃ k : Nat, k ≤ m ∧ v6 = .int .i64 (k : Int) ∧ (ws.take k).any wtBad = false ∧ From w wq) (fun v _ => m - (intOf v).toNat)
  case atStart => exact ⟨0, Nat.zero_le _, rfl, rfl, HB1.out⟩
  case round =>
   clear HB1
   obtain ⟨k, hk, rfl, hany, hf⟩ := hrel
   have HAY := Lib.hid hany
   have HB := Lib.hid hf
   clear hany hf
   by_cases hkm : k = m
   · subst hkm
     have hlt : ¬ (k : Int) < (k : Int) := by omega
     have HBD : Hid (ws.any wtBad = false) := by
      have h1 := HAY.out
      rw [List.take_of_length_le (by rw [← HN.out.2.1]; exact Nat.le_refl _)] at h1
      exact h1
     have HV2 := Lib.hid (HV.out.trans (refC1_ok HBD.out))
     clear HAY HV
     by_cases h3 : 3000 < k
     · have h3i : (3000 : Int) < (k : Int) := by omega
       have HE : Hid (refCurve l ws = ([], 5)) := HV2.out.trans (refC2_bad (by rw [← HN.out.2.1]; exact h3))
       clear h3 hk
       go_wp2
       go_ret2
       rw [HRR.out, HE.out]
       exact RcPost.err HB.out
     · have h3i : ¬ (3000 : Int) < (k : Int) := by omega
       have HV3 := Lib.hid (HV2.out.trans (refC2_ok (by rw [← HN.out.2.1]; exact h3)))
       have h3k : k ≤ 3000 := by omega
       clear h3 hk HV2
       obtain ⟨m, hmk⟩ : ∃ m, m = k := ⟨_, rfl⟩
       subst hmk
       obtain ⟨x0, hx0⟩ : ∃ x, x = frmX l 0 := ⟨_, rfl⟩
       obtain ⟨xl, hxl⟩ : ∃ x, x = frmX l N := ⟨_, rfl⟩
       have HX0' := Lib.hid (fun (w1 : World) (hb : From w w1) => Rd.cell (P := Try.prog) HR.out hb ct3 (k := 0) (cs := (l.getD 0 frm0).cells) (by rw [List.getElem?_map, getD_some frm0 (show 0 < l.length by have := HLN.out; omega)]; rfl) (j := 0) (v := .int .i64 x0) (by rw [hx0]; rfl) (p := oA) (by omega))
       have HXL' := Lib.hid (fun (w1 : World) (hb : From w w1) => Rd.cell (P := Try.prog) HR.out hb ct3 (k := N) (cs := (l.getD N frm0).cells) (by rw [List.getElem?_map, getD_some frm0 (show N < l.length by have := HN.out; omega)]; rfl) (j := 0) (v := .int .i64 xl) (by rw [hxl]; rfl) (p := oA + N * 5) rfl)
       have HOU : Hid (∀ x : Wt, outF l x = (decide (x.x < x0) || decide (xl ≤ x.x))) := by
        intro x
        unfold outF
        rw [HN.out.2.2.2, hx0, hxl]
       have HXB : Hid ((-500000 ≤ x0 ∧ x0 ≤ 500000) ∧ (-500000 ≤ xl ∧ xl ≤ 500000)) := by
        unfold Hid
        rw [hx0, hxl]
        exact ⟨frmX_bound HOK.out (by have := HLN.out; omega), frmX_bound HOK.out (by have := HN.out; omega)⟩
       clear hx0 hxl
       go_wp2
       go_loopw [7] (fun v7 wq => ∃ k : Nat, k ≤ m ∧ v7 = .int .i64 (k : Int) ∧ (ws.take k).any (outF l) = false ∧ From w wq) (fun v _ => m - (intOf v).toNat)
       case atStart => exact ⟨0, Nat.zero_le _, rfl, rfl, HB.out⟩
       case round =>
        clear HB
        obtain ⟨k, hk, rfl, hany, hf⟩ := hrel
        have HAY := Lib.hid hany
        have HB := Lib.hid hf
        clear hany hf
        by_cases hkm : k = m
        · have hlt : ¬ (k : Int) < (m : Int) := by omega
          have HOT : Hid (ws.any (outF l) = false) := by
           have h1 := HAY.out
           rw [List.take_of_length_le (by rw [← HN.out.2.1, hkm]; exact Nat.le_refl _)] at h1
           exact h1
          have HV4 := Lib.hid (HV3.out.trans (refC3_ok HOT.out))
          have HWK : Hid (∀ x ∈ ws, (0 ≤ x.kilos ∧ x.kilos ≤ 500000000) ∧ (-500000 ≤ x.x ∧ x.x ≤ 500000)) := by
           intro x hx
           have h1 := List.any_eq_false.1 HBD.out x hx
           have h2 := List.any_eq_false.1 HOT.out x hx
           rw [HOU.out] at h2
           unfold wtBad at h1
           have hb := HXB.out
           simp only [Bool.not_eq_true, Bool.not_eq_false', decide_eq_true_eq, Bool.or_eq_true, not_or] at h1 h2
           refine ⟨h1, ?_⟩
           omega
          have HTO := Lib.hid (fun (w1 : World) (hb : From w w1) => r18_total (some ⟨bA, oA, none⟩) D c d n m l ws HN.out.1 HN.out.2.1 w1 (HR.out.from hb) (HD.out.from hb) (by have := HN.out; omega) h3k HOK.out HWK.out)
          have HBU := Lib.hid (fun (w1 : World) (hb : From w w1) => r18_buoyancy (some ⟨bA, oA, none⟩) D c d n m l ws HN.out.1 HN.out.2.1 w1 (HR.out.from hb) (HD.out.from hb) (by have := HN.out; omega) h3k HOK.out HWK.out)
          have hn1' : n - 1 = N := by have := HN.out; omega
          rw [hn1'] at HBU
          obtain ⟨W, hW⟩ : ∃ W, W = totW l ws := ⟨_, rfl⟩
          obtain ⟨M, hM⟩ : ∃ M, M = totM l ws := ⟨_, rfl⟩
          have HV5 : Hid (refCurve l ws = if 500000000 < W then ([], 3) else ((List.range l.length).map (refStr l ws W M), 0)) := by unfold Hid; rw [HV4.out, hW, hM]; rfl
          rw [← hW, ← hM] at HTO HBU
          clear hkm hk HAY HV3 HV4 hn1' hW hM HX0' HXL' HOU
          by_cases hW5 : 500000000 < W
          · have HE := Lib.hid (HV5.out.trans (if_pos hW5))
            go_wp2_with (first
             | (go_at_call 71; go_loud (refine (HTO.out _ HB.out).mono ?_); rintro e w3 ⟨rfl, hb⟩; have HM3 := Lib.hid (((Mem.start HB.out).call hb).alloc 91 zeroF.cells); clear hb HTO)
             | ((with_reducible refine g_st 91 ?_); go_loud (refine wpList_stB (cs' := FracV.cells M) rfl _ _ rfl HM3.out 0 rfl rfl rfl f01_size rfl (FracV.cells_len _) (FracV.cells_len _) (FracV.ones _) ?_); intro w4 h4; have HM4 := Lib.hid h4; clear h4 HM3))
            go_ret2
            rw [HRR.out, HE.out]
            exact RcPost.err HM4.out.from_
          · have HE := Lib.hid (HV5.out.trans (if_neg hW5))
            go_wp2_with (first
             | (go_at_call 71; go_loud (refine (HTO.out _ HB.out).mono ?_); rintro e w3 ⟨rfl, hb⟩; have HM3 := Lib.hid (((Mem.start HB.out).call hb).alloc 91 zeroF.cells); clear hb HTO)
             | ((with_reducible refine g_st 91 ?_); go_loud (refine wpList_stB (cs' := FracV.cells M) rfl _ _ rfl HM3.out 0 rfl rfl rfl f01_size rfl (FracV.cells_len _) (FracV.cells_len _) (FracV.ones _) ?_); intro w4 h4; have HB4 : Hid (From w w4) := h4.from_; clear h4 HM3)
             | (go_at_call 72; go_loud (refine (HBU.out _ HB4.out).mono ?_); rintro e wb ⟨A10, c10, rfl, hrd, hb⟩; have HLF := Lib.hid hrd; have HBB := Lib.hid (HB4.out.trans (hb.mono HB4.out.size)); clear hrd hb HBU HB4))
            clear hW5 HV5 HB HXB HBD HOT
            have HM0 := Lib.hid ((Mem.nil wb).none 93 34)
            obtain ⟨bQ, oQ, rfl⟩ := Rd.addr HLF.out (by rw [List.length_map, List.length_range]; omega)
            go_loopw [11, 12] (fun v11 v12 wq => ∃ (j : Nat) (A11 : Option Addr) (c11 : Nat), j ≤ n ∧ v12 = .int .i64 (j : Int) ∧ v11 = .slice A11 j c11 ∧ Mem wb wq [.row 93 34 A11 c11 (((List.range j).map (refStr l ws W M)).map Str.cells)]) (fun _ v _ => n - (intOf v).toNat)
            case atStart => exact ⟨0, none, 0, Nat.zero_le _, rfl, rfl, HM0.out⟩
            case round =>
             clear HM0
             obtain ⟨j, A11, c11, hj, rfl, rfl, hmem⟩ := hrel
             have HM1 := Lib.hid hmem
             clear hmem
             by_cases hjn : j = n
             · have hlt3 : ¬ (j : Int) < (n : Int) := by omega
               have HE2 : Hid (r = ((List.range j).map (refStr l ws W M), 0)) := HRR.out.trans (HE.out.trans (by rw [← HN.out.1, hjn]))
               clear hjn hj
               go_wp2
               go_ret2
               refine ⟨A11, c11, ?_, ?_, HBB.out.trans (HM1.out.from_.mono HBB.out.size)⟩
               · rw [HE2.out]; simp
               · rw [HE2.out]; exact HM1.out.rd (i := 0) rfl
             · have hlt3 : (j : Int) < (n : Int) := by omega
               have hjN : j ≤ N := by have := HN.out; omega
               obtain ⟨xj, hxj⟩ : ∃ x, x = frmX l j := ⟨_, rfl⟩
               have hxb := frmX_bound HOK.out (i := j) (by have := HN.out; omega)
               rw [← hxj] at hxb
               have HXJ := Lib.hid (fun (w1 : World) (hb : From wb w1) => Rd.cell (P := Try.prog) (HR.out.from HBB.out) hb ct3 (k := j) (cs := (l.getD j frm0).cells) (by rw [List.getElem?_map, getD_some frm0 (show j < l.length by have := HN.out; omega)]; rfl) (j := 0) (v := .int .i64 xj) (by rw [hxj]; rfl) (p := oA + j * 5) rfl)
               have HOJ := Lib.hid (r18_of xj (by omega) (by omega))
               have HXE := Lib.hid hxj
               have HZ1 := Lib.hid (r18_of 0 (by decide) (by decide))
               have HZ2 := Lib.hid (r18_of 0 (by decide) (by decide))
               have HOL : Hid (j = (((List.range j).map (refStr l ws W M)).map Str.cells).length) := by unfold Hid; simp
               clear hjn hxj
               go_wp2_with (first
                | (go_at_call 73; refine (HZ1.out _).mono ?_; rintro e w5 ⟨rfl, hb⟩; have HM2 := Lib.hid (HM1.out.call hb); clear hb HZ1 HM1)
                | (go_at_call 73; go_loud (refine (HZ2.out _).mono ?_); rintro e w6 ⟨rfl, hb⟩; have HM3 := Lib.hid (boxes2on (HM2.out.call hb)); clear hb HZ2 HM2)
                | ((with_reducible refine g_st 91 ?_); refine wpList_stB (cs' := FracV.cells (ofL 0)) rfl _ _ rfl HM3.out 1 rfl rfl rfl f01_size rfl (FracV.cells_len _) (FracV.cells_len _) (FracV.ones _) ?_; intro w7 h7; have HM4 := Lib.hid h7; clear h7 HM3)
                | ((with_reducible refine g_st 91 ?_); go_loud (refine wpList_stB (cs' := FracV.cells (ofL 0)) rfl _ _ rfl HM4.out 0 rfl rfl rfl f01_size rfl (FracV.cells_len _) (FracV.cells_len _) (FracV.ones _) ?_); intro w8 h8; have HM5 := Lib.hid h8; clear h8 HM4))
               go_loopw [15] (fun v15 wq => ∃ i : Nat, j ≤ i ∧ i ≤ N ∧ v15 = .int .i64 (i : Int) ∧ Mem wb wq [.box (w6.heap.size + 1) 91 (secBend l W M j (i - j)).cells, .box w6.heap.size 91 (secShear l W M j (i - j)).cells, .row 93 34 A11 c11 (((List.range j).map (refStr l ws W M)).map Str.cells)]) (fun v _ => n - (intOf v).toNat)
               case atStart => exact ⟨j, Nat.le_refl _, hjN, rfl, by rw [Nat.sub_self]; exact HM5.out⟩
               case round =>
                clear HM5
                obtain ⟨i, hji, hi, rfl, hmem⟩ := hrel
                have HM6 := Lib.hid hmem
                clear hmem
                have wi : IntKind.i64.wrap ((i : Int) + 1) = (i : Int) + 1 := by rw [wrap_i64 (by omega) (by omega)]
                by_cases hiN : i = N
                · have hlt4 : ¬ (i : Int) + 1 < (n : Int) := by have := HN.out; omega
                  obtain ⟨S, hS⟩ : ∃ S, S = secShear l W M j (N - j) := ⟨_, rfl⟩
                  obtain ⟨B, hB⟩ : ∃ B, B = secBend l W M j (N - j) := ⟨_, rfl⟩
                  have HSF : Hid S.fits := by unfold Hid; rw [hS]; exact secShear_fits _ _ _ _ _
                  have HBF : Hid B.fits := by unfold Hid; rw [hB]; exact secBend_fits _ _ _ _ _
                  have HRS : Hid (refStr l ws W M j = ⟨ldShear S ws xj m, ldBend B ws xj m⟩) := by
                   unfold Hid refStr
                   rw [HN.out.2.2.2, ← HN.out.2.1, hS, hB, HXE.out]
                  have HM7 : Hid (Mem wb wr [.box (w6.heap.size + 1) 91 B.cells, .box w6.heap.size 91 S.cells, .row 93 34 A11 c11 (((List.range j).map (refStr l ws W M)).map Str.cells)]) := by
                   have h1 := HM6.out
                   rw [hiN, ← hS, ← hB] at h1
                   exact h1
                  clear hS hB hiN hi hji HM6
                  go_wp2
                  go_loopw [17] (fun v17 wq => ∃ k : Nat, k ≤ m ∧ v17 = .int .i64 (k : Int) ∧ Mem wb wq [.box (w6.heap.size + 1) 91 (ldBend B ws xj k).cells, .box w6.heap.size 91 (ldShear S ws xj k).cells, .row 93 34 A11 c11 (((List.range j).map (refStr l ws W M)).map Str.cells)]) (fun v _ => m - (intOf v).toNat)
                  case atStart => exact ⟨0, Nat.zero_le _, rfl, HM7.out⟩
                  case round =>
                   clear HM7
                   obtain ⟨k, hk, rfl, hmem⟩ := hrel
                   have HM8 := Lib.hid hmem
                   clear hmem
                   obtain ⟨s, hs⟩ : ∃ s, s = ldShear S ws xj k := ⟨_, rfl⟩
                   obtain ⟨b, hb⟩ : ∃ b, b = ldBend B ws xj k := ⟨_, rfl⟩
                   rw [← hs, ← hb] at HM8
                   have HSB := Lib.hid (And.intro hs hb)
                   have HSF2 : Hid s.fits := by unfold Hid; rw [hs]; exact ldShear_fits HSF.out _ _ _
                   have HBF2 : Hid b.fits := by unfold Hid; rw [hb]; exact ldBend_fits HBF.out _ _ _
                   clear hs hb
                   by_cases hkm : k = m
                   · have hlt5 : ¬ (k : Int) < (m : Int) := by omega
                     have HRS2 : Hid (refStr l ws W M j = ⟨s, b⟩) := by unfold Hid; rw [HRS.out, HSB.out.1, HSB.out.2, hkm]
                     clear hkm hk
                     go_wp2_with (first
                      | ((with_reducible refine g_ld 91 ?_); refine wpList_ld rfl _ _ rfl _ rfl _ (HM8.out.ldb f01_row (FracV.cells_len _) (i := 1) rfl _ (Below.refl _ _)) ?_)
                      | ((with_reducible refine g_ld 91 ?_); go_loud (refine wpList_ld rfl _ _ rfl _ rfl _ (HM8.out.ldb f01_row (FracV.cells_len _) (i := 0) rfl _ (Below.refl _ _)) ?_))
                      | ((with_reducible refine g_bld 93 ?_); go_loud (refine wpList_val rfl _ (build_stressR s b _ rfl rfl) ?_))
                      | ((with_reducible refine g_bls 81 ?_); go_loud (refine wpList_run rfl (ok_slice1 (u := .agg (Str.cells ⟨s, b⟩).toArray) rfl el81 zfSR rfl (by show (Str.cells ⟨s, b⟩).toArray.size = 34; simp [Str.cells_len]) (by decide) (by decide)) ?_))
                      | (at_builtin; go_loud (refine wpList_append_M rfl _ _ rfl strR_ei j HOL.out rfl (HM8.out.any _) 2 rfl rfl (Rd.new2 wr 93 34 (Str.cells ⟨s, b⟩) (Str.cells_len _)) rfl (by intro cs hc u hu; rw [List.mem_singleton] at hc; subst hc; exact Str.ones _ u hu) (by rw [← HOL.out]; unfold maxLen; omega) (by rw [← HOL.out]; omega) ?_); intro A9 c9 w9 h9; have HM9 := Lib.hid h9; clear h9))
                     go_roundw
                     case rel =>
                      refine ⟨j + 1, A9, c9, by omega, by go_num, rfl, ?_⟩
                      rw [range_map_succ, List.map_append, HRS2.out]
                      exact HM9.out.tail.tail
                     case measure => simp [intOf]; omega
                   · have hkm2 : (k : Int) < (m : Int) := by omega
                     have hkl : k < ws.length := by rw [← HN.out.2.1]; omega
                     obtain ⟨bD, oD, rfl⟩ := Rd.addr HD.out (by rw [List.length_map]; omega)
                     have hsk := getD_some wt0 hkl
                     obtain ⟨x, hx⟩ : ∃ x, x = ws.getD k wt0 := ⟨_, rfl⟩
                     rw [← hx] at hsk
                     have hxo := HWK.out x (List.mem_of_getElem? hsk)
                     have HKI := Lib.hid (fun (w1 : World) (hb : From wb w1) => Rd.cell (P := Try.prog) (HD.out.from HBB.out) hb ct3 (k := k) (cs := x.cells) (by rw [List.getElem?_map, hsk]; rfl) (j := 1) (v := .int .i64 x.kilos) rfl (p := oD + k * 2 + 1) rfl)
                     have HXI := Lib.hid (fun (w1 : World) (hb : From wb w1) => Rd.cell (P := Try.prog) (HD.out.from HBB.out) hb ct3 (k := k) (cs := x.cells) (by rw [List.getElem?_map, hsk]; rfl) (j := 0) (v := .int .i64 x.x) rfl (p := oD + k * 2) rfl)
                     have HX8 := Lib.hid (fun (w1 : World) (hb : From wr w1) => HXI.out w1 (HM8.out.from_.trans (hb.mono HM8.out.from_.size)))
                     have HJ8 := Lib.hid (fun (w1 : World) (hb : From wr w1) => HXJ.out w1 (HM8.out.from_.trans (hb.mono HM8.out.from_.size)))
                     have HXE2 := Lib.hid hx
                     clear hsk hx hkl hkm
                     by_cases hge : xj ≤ x.x
                     · have HGE : Hid (xj ≤ x.x) := hge
                       obtain ⟨dx, hdx⟩ : ∃ d, d = x.x - xj := ⟨_, rfl⟩
                       have wd : IntKind.i64.wrap (x.x - xj) = dx := by rw [wrap_i64 (by omega) (by omega)]; exact hdx.symm
                       have HO1 := Lib.hid (r18_of x.kilos (by omega) (by omega))
                       have HO2 := Lib.hid (r18_of dx (by omega) (by omega))
                       have HSU := Lib.hid (r18_sub s (ofL x.kilos) HSF2.out (ofL_fits ⟨by omega, by omega⟩))
                       have HMU := Lib.hid (r18_mul (ofL x.kilos) (ofL dx) (ofL_fits ⟨by omega, by omega⟩) (ofL_fits ⟨by omega, by omega⟩))
                       have HAD := Lib.hid (r18_add b (mulL (ofL x.kilos) (ofL dx)).1 HBF2.out (mulL_fits _ _))
                       have HST : Hid (ldShear S ws xj (k + 1) = (subL s (ofL x.kilos)).1 ∧ ldBend B ws xj (k + 1) = (addL b (mulL (ofL x.kilos) (ofL dx)).1).1) := by
                        unfold Hid ldShear ldBend
                        rw [← HXE2.out, if_pos hge, if_pos hge, ← HSB.out.1, ← HSB.out.2, hdx]
                        exact ⟨rfl, rfl⟩
                       clear hdx hge hxo
                       go_wp2
                       refine wp_region_run 11 [.val (Value.slice (some ⟨bD, oD, none⟩) m d), .val (Value.int .i64 ((k : Int))), .val (Value.pointer (some ⟨bD, oD + k * 2, none⟩)), .val (Value.pointer (some ⟨bD, oD + k * 2, none⟩)), .val (Value.int .i64 (x.x)), .val (Value.slice (some ⟨bA, oA, none⟩) n c), .val (Value.int .i64 ((j : Int))), .val (Value.pointer (some ⟨bA, oA + j * 5, none⟩)), .val (Value.pointer (some ⟨bA, oA + j * 5, none⟩)), .val (Value.int .i64 (xj)), .val (Value.bool true)] (by kernel_rfl) (by kernel_rfl) (Nat.le_of_ble_eq_true (by kernel_rfl)) (by kernel_rfl) (by kernel_rfl) ?_ ?_ ?_
                       · exact trivial
                       · exact ⟨(fun _ _ => ok_move rfl), (fun _ _ => ok_move rfl), (fun _ _ => ok_index (k := k) rfl rfl el78 (hkm2) (rfl)), (fun _ _ => ok_field (k := 0) rfl fl79_0 rfl), (fun w hb => ok_load rfl ((HX8.out) w hb)), (fun _ _ => ok_move rfl), (fun _ _ => ok_move rfl), (fun _ _ => ok_index (k := j) rfl rfl el22 (hlt3) (rfl)), (fun _ _ => ok_field (k := 0) rfl fl44_0 rfl), (fun w hb => ok_load rfl ((HJ8.out) w hb)), (fun _ _ => ok_cmp rfl rfl (congrArg some (decide_eq_true (HGE.out))) rfl), trivial⟩
                       intro w9 hb9
                       simp only [contS, List.take_succ_cons, List.take_zero, List.drop_succ_cons, List.drop_zero]
                       simp only [Act.put, List.setIfInBounds_toArray, List.set_cons_succ, List.set_cons_zero]
                       have HM9 := Lib.hid (HM8.out.call hb9)
                       clear hb9 HM8 HX8 HJ8
                       go_wp2
                       have HL1 := Lib.hid (HM9.out.ldb f01_row (FracV.cells_len _) (i := 1) rfl)
                       have HK9 := Lib.hid (fun (w1 : World) (hb : From w9 w1) => HKI.out w1 (HM9.out.from_.trans (hb.mono HM9.out.from_.size)))
                       refine wp_region_run 8 [.val (Value.agg s.cells.toArray), .val (Value.slice (some ⟨bD, oD, none⟩) m d), .val (Value.int .i64 ((k : Int))), .val (Value.pointer (some ⟨bD, oD + k * 2, none⟩)), .val (Value.pointer (some ⟨bD, oD + k * 2 + 1, none⟩)), .val (Value.int .i64 (x.kilos)), .call (Value.agg (ofL x.kilos).cells.toArray), .call (Value.agg (subL s (ofL x.kilos)).1.cells.toArray)] (by kernel_rfl) (by kernel_rfl) (Nat.le_of_ble_eq_true (by kernel_rfl)) (by kernel_rfl) (by kernel_rfl) ?_ ?_ ?_
                       · exact trivial
                       · exact ⟨(fun w hb => ok_load rfl ((HL1.out) w hb)), (fun _ _ => ok_move rfl), (fun _ _ => ok_move rfl), (fun _ _ => ok_index (k := k) rfl rfl el78 (hkm2) (rfl)), (fun _ _ => ok_field (k := 1) rfl fl79_1 rfl), (fun w hb => ok_load rfl ((HK9.out) w hb)), (fun w hb => ok_call rfl rfl (cf_of18 _ _) (HO1.out w)), (fun w hb => ok_call rfl rfl (cf_sub18 _ _) (HSU.out w)), trivial⟩
                       intro w10 hb10
                       simp only [contS, List.take_succ_cons, List.take_zero, List.drop_succ_cons, List.drop_zero]
                       simp only [Act.put, List.setIfInBounds_toArray, List.set_cons_succ, List.set_cons_zero]
                       have HM10 := Lib.hid (HM9.out.call hb10)
                       clear hb10 HM9 HL1 HK9
                       go_wp2_with ((with_reducible refine g_st 91 ?_); go_loud (refine wpList_stB (cs' := FracV.cells (subL s (ofL x.kilos)).1) rfl _ _ rfl HM10.out 1 rfl rfl rfl f01_size rfl (FracV.cells_len _) (FracV.cells_len _) (FracV.ones _) ?_); intro w11 h11; have HM11 := Lib.hid h11; clear h11 HM10)
                       have HL0 := Lib.hid (HM11.out.ldb f01_row (FracV.cells_len _) (i := 0) rfl)
                       have HK11 := Lib.hid (fun (w1 : World) (hb : From w11 w1) => HKI.out w1 (HM11.out.from_.trans (hb.mono HM11.out.from_.size)))
                       have HX11 := Lib.hid (fun (w1 : World) (hb : From w11 w1) => HXI.out w1 (HM11.out.from_.trans (hb.mono HM11.out.from_.size)))
                       have HJ11 := Lib.hid (fun (w1 : World) (hb : From w11 w1) => HXJ.out w1 (HM11.out.from_.trans (hb.mono HM11.out.from_.size)))
                       refine wp_region_run 21 [.val (Value.agg b.cells.toArray), .val (Value.slice (some ⟨bD, oD, none⟩) m d), .val (Value.int .i64 ((k : Int))), .val (Value.pointer (some ⟨bD, oD + k * 2, none⟩)), .val (Value.pointer (some ⟨bD, oD + k * 2 + 1, none⟩)), .val (Value.int .i64 (x.kilos)), .call (Value.agg (ofL x.kilos).cells.toArray), .val (Value.slice (some ⟨bD, oD, none⟩) m d), .val (Value.int .i64 ((k : Int))), .val (Value.pointer (some ⟨bD, oD + k * 2, none⟩)), .val (Value.pointer (some ⟨bD, oD + k * 2, none⟩)), .val (Value.int .i64 (x.x)), .val (Value.slice (some ⟨bA, oA, none⟩) n c), .val (Value.int .i64 ((j : Int))), .val (Value.pointer (some ⟨bA, oA + j * 5, none⟩)), .val (Value.pointer (some ⟨bA, oA + j * 5, none⟩)), .val (Value.int .i64 (xj)), .val (Value.int .i64 (dx)), .call (Value.agg (ofL dx).cells.toArray), .call (Value.agg (mulL (ofL x.kilos) (ofL dx)).1.cells.toArray), .call (Value.agg (addL b (mulL (ofL x.kilos) (ofL dx)).1).1.cells.toArray)] (by kernel_rfl) (by kernel_rfl) (Nat.le_of_ble_eq_true (by kernel_rfl)) (by kernel_rfl) (by kernel_rfl) ?_ ?_ ?_
                       · exact trivial
                       · exact ⟨(fun w hb => ok_load rfl ((HL0.out) w hb)), (fun _ _ => ok_move rfl), (fun _ _ => ok_move rfl), (fun _ _ => ok_index (k := k) rfl rfl el78 (hkm2) (rfl)), (fun _ _ => ok_field (k := 1) rfl fl79_1 rfl), (fun w hb => ok_load rfl ((HK11.out) w hb)), (fun w hb => ok_call rfl rfl (cf_of18 _ _) (HO1.out w)), (fun _ _ => ok_move rfl), (fun _ _ => ok_move rfl), (fun _ _ => ok_index (k := k) rfl rfl el78 (hkm2) (rfl)), (fun _ _ => ok_field (k := 0) rfl fl79_0 rfl), (fun w hb => ok_load rfl ((HX11.out) w hb)), (fun _ _ => ok_move rfl), (fun _ _ => ok_move rfl), (fun _ _ => ok_index (k := j) rfl rfl el22 (hlt3) (rfl)), (fun _ _ => ok_field (k := 0) rfl fl44_0 rfl), (fun w hb => ok_load rfl ((HJ11.out) w hb)), (fun _ _ => ok_sub rfl rfl (wd) rfl), (fun w hb => ok_call rfl rfl (cf_of18 _ _) (HO2.out w)), (fun w hb => ok_call rfl rfl (cf_mul18 _ _) (HMU.out w)), (fun w hb => ok_call rfl rfl (cf_add18 _ _) (HAD.out w)), trivial⟩
                       intro w12 hb12
                       simp only [contS, List.take_succ_cons, List.take_zero, List.drop_succ_cons, List.drop_zero]
                       simp only [Act.put, List.setIfInBounds_toArray, List.set_cons_succ, List.set_cons_zero]
                       have HM12 := Lib.hid (HM11.out.call hb12)
                       clear hb12 HM11 HL0 HK11 HX11 HJ11
                       go_wp2_with ((with_reducible refine g_st 91 ?_); go_loud (refine wpList_stB (cs' := FracV.cells (addL b (mulL (ofL x.kilos) (ofL dx)).1).1) rfl _ _ rfl HM12.out 0 rfl rfl rfl f01_size rfl (FracV.cells_len _) (FracV.cells_len _) (FracV.ones _) ?_); intro w13 h13; have HM13 := Lib.hid h13; clear h13 HM12)
                       go_roundw
                       case rel => exact ⟨k + 1, by omega, by go_num, by rw [HST.out.1, HST.out.2]; exact HM13.out⟩
                       case measure => simp [intOf]; omega
                     · have HGE : Hid (x.x < xj) := Int.not_le.1 hge
                       have HST : Hid (ldShear S ws xj (k + 1) = s ∧ ldBend B ws xj (k + 1) = b) := by
                        unfold Hid ldShear ldBend
                        rw [← HXE2.out, if_neg hge, if_neg hge, ← HSB.out.1, ← HSB.out.2]
                        exact ⟨rfl, rfl⟩
                       clear hge hxo
                       go_wp2
                       refine wp_region_run 11 [.val (Value.slice (some ⟨bD, oD, none⟩) m d), .val (Value.int .i64 ((k : Int))), .val (Value.pointer (some ⟨bD, oD + k * 2, none⟩)), .val (Value.pointer (some ⟨bD, oD + k * 2, none⟩)), .val (Value.int .i64 (x.x)), .val (Value.slice (some ⟨bA, oA, none⟩) n c), .val (Value.int .i64 ((j : Int))), .val (Value.pointer (some ⟨bA, oA + j * 5, none⟩)), .val (Value.pointer (some ⟨bA, oA + j * 5, none⟩)), .val (Value.int .i64 (xj)), .val (Value.bool false)] (by kernel_rfl) (by kernel_rfl) (Nat.le_of_ble_eq_true (by kernel_rfl)) (by kernel_rfl) (by kernel_rfl) ?_ ?_ ?_
                       · exact trivial
                       · exact ⟨(fun _ _ => ok_move rfl), (fun _ _ => ok_move rfl), (fun _ _ => ok_index (k := k) rfl rfl el78 (hkm2) (rfl)), (fun _ _ => ok_field (k := 0) rfl fl79_0 rfl), (fun w hb => ok_load rfl ((HX8.out) w hb)), (fun _ _ => ok_move rfl), (fun _ _ => ok_move rfl), (fun _ _ => ok_index (k := j) rfl rfl el22 (hlt3) (rfl)), (fun _ _ => ok_field (k := 0) rfl fl44_0 rfl), (fun w hb => ok_load rfl ((HJ8.out) w hb)), (fun _ _ => ok_cmp rfl rfl (congrArg some (decide_eq_false ((Int.not_le.2 HGE.out)))) rfl), trivial⟩
                       intro w9 hb9
                       simp only [contS, List.take_succ_cons, List.take_zero, List.drop_succ_cons, List.drop_zero]
                       simp only [Act.put, List.setIfInBounds_toArray, List.set_cons_succ, List.set_cons_zero]
                       have HM9 := Lib.hid (HM8.out.call hb9)
                       clear hb9 HM8 HX8 HJ8
                       go_wp2
                       go_roundw
                       case rel => exact ⟨k + 1, by omega, by go_num, by rw [HST.out.1, HST.out.2]; exact HM9.out⟩
                       case measure => simp [intOf]; omega
                · have hlt4 : (i : Int) + 1 < (n : Int) := by have := HN.out; omega
                  have hi1 : (i : Int) < (n : Int) := by omega
                  have hiN2 : (i : Int) < (N : Int) := by omega
                  obtain ⟨S, hS⟩ : ∃ S, S = secShear l W M j (i - j) := ⟨_, rfl⟩
                  obtain ⟨B, hB⟩ : ∃ B, B = secBend l W M j (i - j) := ⟨_, rfl⟩
                  rw [← hS, ← hB] at HM6
                  have HSF : Hid S.fits := by unfold Hid; rw [hS]; exact secShear_fits _ _ _ _ _
                  have HBF : Hid B.fits := by unfold Hid; rw [hB]; exact secBend_fits _ _ _ _ _
                  have hf0 := getD_some frm0 (show i < l.length by have := HN.out; omega)
                  obtain ⟨li, hli⟩ : ∃ x, x = frmL l i := ⟨_, rfl⟩
                  have hlb := (Frm.ok_nums (HOK.out _ (List.mem_of_getElem? hf0))).2.1
                  have hlb2 : 0 ≤ li ∧ li ≤ 500000000 := by rw [hli]; exact hlb
                  have HLQ := Lib.hid (fun (w1 : World) (hb : From wr w1) => Rd.row (P := Try.prog) (HLF.out.from HM6.out.from_) hb f01_row (k := i) (cs := (liftQ l W M i).cells) (by rw [List.getElem?_map, List.getElem?_range (by omega)]; rfl) (p := oQ + i * 17) rfl)
                  have HLI := Lib.hid (fun (w1 : World) (hb : From wr w1) => Rd.cell (P := Try.prog) (HR.out.from (HBB.out.trans (HM6.out.from_.mono HBB.out.size))) hb ct3 (k := i) (cs := (l.getD i frm0).cells) (by rw [List.getElem?_map, hf0]; rfl) (j := 1) (v := .int .i64 li) (by rw [hli]; rfl) (p := oA + i * 5 + 1) rfl)
                  have HO1 := Lib.hid (r18_of li (by omega) (by omega))
                  have HSU := Lib.hid (r18_sub (liftQ l W M i) (ofL li) (addL_fits _ _) (ofL_fits ⟨by omega, by omega⟩))
                  have HFO : Hid ((subL (liftQ l W M i) (ofL li)).1 = forceV l W M i) := by unfold Hid; rw [hli]; rfl
                  rw [HFO.out] at HSU
                  have HFF : Hid (forceV l W M i).fits := subL_fits _ _
                  have HMD := Lib.hid (fun (w1 : World) (hb : From wb w1) => r18_middle (some ⟨bA, oA, none⟩) c n i l HN.out.1 (by have := HN.out; omega) HOK.out w1 (HR.out.from (HBB.out.trans (hb.mono HBB.out.size))) (by have := HLN.out; omega))
                  have HAD := Lib.hid (r18_add S (forceV l W M i) HSF.out HFF.out)
                  have HS2 := Lib.hid (r18_sub (midV l i) (ofL xj) (midV_fits l i) (ofL_fits ⟨by omega, by omega⟩))
                  have HMU := Lib.hid (r18_mul (forceV l W M i) (subL (midV l i) (ofL xj)).1 HFF.out (subL_fits _ _))
                  have HS3 := Lib.hid (r18_sub B (mulL (forceV l W M i) (subL (midV l i) (ofL xj)).1).1 HBF.out (mulL_fits _ _))
                  have HST : Hid (secShear l W M j (i + 1 - j) = (addL S (forceV l W M i)).1 ∧ secBend l W M j (i + 1 - j) = (subL B (mulL (forceV l W M i) (subL (midV l i) (ofL xj)).1).1).1) := by
                   unfold Hid
                   rw [show i + 1 - j = (i - j) + 1 by omega]
                   unfold secShear secBend
                   rw [show j + (i - j) = i by omega, ← hS, ← hB, HXE.out]
                   exact ⟨rfl, rfl⟩
                  clear hS hB hf0 hli hlb hiN
                  go_wp2
                  refine wp_region_run 12 [.val (Value.slice (some ⟨bQ, oQ, none⟩) N c10), .val (Value.int .i64 ((i : Int))), .val (Value.pointer (some ⟨bQ, oQ + i * 17, none⟩)), .val (Value.agg (liftQ l W M i).cells.toArray), .val (Value.slice (some ⟨bA, oA, none⟩) n c), .val (Value.int .i64 ((i : Int))), .val (Value.pointer (some ⟨bA, oA + i * 5, none⟩)), .val (Value.pointer (some ⟨bA, oA + i * 5 + 1, none⟩)), .val (Value.int .i64 (li)), .call (Value.agg (ofL li).cells.toArray), .call (Value.agg (forceV l W M i).cells.toArray), .new (NewB wr.heap.size 91 zeroF.val.cells.toList)] (by kernel_rfl) (by kernel_rfl) (Nat.le_of_ble_eq_true (by kernel_rfl)) (by kernel_rfl) (by kernel_rfl) ?_ ?_ ?_
                  · exact ⟨NewB.stays, trivial⟩
                  · exact ⟨(fun _ _ => ok_move rfl), (fun _ _ => ok_move rfl), (fun _ _ => ok_index (k := i) rfl rfl el146 (hiN2) (rfl)), (fun w hb => ok_load rfl ((HLQ.out) w hb)), (fun _ _ => ok_move rfl), (fun _ _ => ok_move rfl), (fun _ _ => ok_index (k := i) rfl rfl el22 (hi1) (rfl)), (fun _ _ => ok_field (k := 1) rfl fl44_1 rfl), (fun w hb => ok_load rfl ((HLI.out) w hb)), (fun w hb => ok_call rfl rfl (cf_of18 _ _) (HO1.out w)), (fun w hb => ok_call rfl rfl (cf_sub18 _ _) (HSU.out w)), (fun _ hb => new_alloc zf01 hb.size), trivial⟩
                  intro w9 hb9
                  simp only [contS, List.take_succ_cons, List.take_zero, List.drop_succ_cons, List.drop_zero]
                  intro u16 hu16
                  simp only [Act.put, List.setIfInBounds_toArray, List.set_cons_succ, List.set_cons_zero]
                  obtain ⟨g16, rfl, hb16, hz16⟩ := hu16
                  have HM7 : Hid (Mem wb w9 (.box g16 91 zeroF.cells :: [.box (w6.heap.size + 1) 91 B.cells, .box w6.heap.size 91 S.cells, .row 93 34 A11 c11 (((List.range j).map (refStr l ws W M)).map Str.cells)])) := HM6.out.newB hb9 hb16 hz16
                  clear hb9 hb16 hz16 HM6 HLQ HLI HO1 HSU
                  go_wp2_with (first
                   | ((with_reducible refine g_st 91 ?_); refine wpList_stB (cs' := FracV.cells (forceV l W M i)) rfl _ _ rfl HM7.out 0 rfl rfl rfl f01_size rfl (FracV.cells_len _) (FracV.cells_len _) (FracV.ones _) ?_; intro w10 h10; have HM8 := Lib.hid h10; clear h10 HM7)
                   | ((with_reducible refine g_ld 91 ?_); refine wpList_ld rfl _ _ rfl _ rfl _ (HM8.out.ldb f01_row (FracV.cells_len _) (i := 2) rfl _ (Below.refl _ _)) ?_)
                   | ((with_reducible refine g_ld 91 ?_); go_loud (refine wpList_ld rfl _ _ rfl _ rfl _ (HM8.out.ldb f01_row (FracV.cells_len _) (i := 0) rfl _ (Below.refl _ _)) ?_))
                   | (go_at_call 75; go_loud (refine (HAD.out _).mono ?_); rintro e w11 ⟨rfl, hb⟩; have HM9 := Lib.hid (HM8.out.call hb); clear hb HM8 HAD)
                   | ((with_reducible refine g_st 91 ?_); go_loud (refine wpList_stB (cs' := FracV.cells (addL S (forceV l W M i)).1) rfl _ _ rfl HM9.out 2 rfl rfl rfl f01_size rfl (FracV.cells_len _) (FracV.cells_len _) (FracV.ones _) ?_); intro w12 h12; have HM10 := Lib.hid h12; clear h12 HM9))
                  have HL1 := Lib.hid (HM10.out.ldb f01_row (FracV.cells_len _) (i := 1) rfl)
                  have HL0 := Lib.hid (HM10.out.ldb f01_row (FracV.cells_len _) (i := 0) rfl)
                  have HMD2 := Lib.hid (fun (w1 : World) (hb : From w12 w1) => HMD.out w1 (HM10.out.from_.trans (hb.mono HM10.out.from_.size)))
                  have HJ12 := Lib.hid (fun (w1 : World) (hb : From w12 w1) => HXJ.out w1 (HM10.out.from_.trans (hb.mono HM10.out.from_.size)))
                  refine wp_region_run 14 [.val (Value.agg B.cells.toArray), .val (Value.agg (forceV l W M i).cells.toArray), .val (Value.slice (some ⟨bA, oA, none⟩) n c), .val (Value.int .i64 ((i : Int))), .call (Value.agg (midV l i).cells.toArray), .val (Value.slice (some ⟨bA, oA, none⟩) n c), .val (Value.int .i64 ((j : Int))), .val (Value.pointer (some ⟨bA, oA + j * 5, none⟩)), .val (Value.pointer (some ⟨bA, oA + j * 5, none⟩)), .val (Value.int .i64 (xj)), .call (Value.agg (ofL xj).cells.toArray), .call (Value.agg (subL (midV l i) (ofL xj)).1.cells.toArray), .call (Value.agg (mulL (forceV l W M i) (subL (midV l i) (ofL xj)).1).1.cells.toArray), .call (Value.agg (subL B (mulL (forceV l W M i) (subL (midV l i) (ofL xj)).1).1).1.cells.toArray)] (by kernel_rfl) (by kernel_rfl) (Nat.le_of_ble_eq_true (by kernel_rfl)) (by kernel_rfl) (by kernel_rfl) ?_ ?_ ?_
                  · exact trivial
                  · exact ⟨(fun w hb => ok_load rfl ((HL1.out) w hb)), (fun w hb => ok_load rfl ((HL0.out) w hb)), (fun _ _ => ok_move rfl), (fun _ _ => ok_move rfl), (fun w hb => ok_call rfl rfl (cf_middle18 _ _) (HMD2.out w hb)), (fun _ _ => ok_move rfl), (fun _ _ => ok_move rfl), (fun _ _ => ok_index (k := j) rfl rfl el22 (hlt3) (rfl)), (fun _ _ => ok_field (k := 0) rfl fl44_0 rfl), (fun w hb => ok_load rfl ((HJ12.out) w hb)), (fun w hb => ok_call rfl rfl (cf_of18 _ _) (HOJ.out w)), (fun w hb => ok_call rfl rfl (cf_sub18 _ _) (HS2.out w)), (fun w hb => ok_call rfl rfl (cf_mul18 _ _) (HMU.out w)), (fun w hb => ok_call rfl rfl (cf_sub18 _ _) (HS3.out w)), trivial⟩
                  intro w13 hb13
                  simp only [contS, List.take_succ_cons, List.take_zero, List.drop_succ_cons, List.drop_zero]
                  simp only [Act.put, List.setIfInBounds_toArray, List.set_cons_succ, List.set_cons_zero]
                  have HM11 := Lib.hid (HM10.out.call hb13)
                  clear hb13 HM10 HL1 HL0 HMD2 HJ12
                  go_wp2_with ((with_reducible refine g_st 91 ?_); go_loud (refine wpList_stB (cs' := FracV.cells (subL B (mulL (forceV l W M i) (subL (midV l i) (ofL xj)).1).1).1) rfl _ _ rfl HM11.out 1 rfl rfl rfl f01_size rfl (FracV.cells_len _) (FracV.cells_len _) (FracV.ones _) ?_); intro w14 h14; have HM12 := Lib.hid h14; clear h14 HM11)
                  go_roundw
                  case rel => exact ⟨i + 1, by omega, by omega, by go_num, by rw [HST.out.1, HST.out.2]; exact HM12.out.tail⟩
                  case measure => simp [intOf]; omega
        · have hkm : (k : Int) < (m : Int) := by omega
          have hkl : k < ws.length := by rw [← HN.out.2.1]; omega
          obtain ⟨bD, oD, rfl⟩ := Rd.addr HD.out (by rw [List.length_map]; omega)
          have hsk := getD_some wt0 hkl
          obtain ⟨x, hx⟩ : ∃ x, x = ws.getD k wt0 := ⟨_, rfl⟩
          rw [← hx] at hsk
          have HSK := Lib.hid hsk
          have HX := Lib.hid (fun (w1 : World) (hb : From wr w1) => Rd.cell (P := Try.prog) (HD.out.from HB.out) hb ct3 (k := k) (cs := x.cells) (by rw [List.getElem?_map, hsk]; rfl) (j := 0) (v := .int .i64 x.x) rfl (p := oD + k * 2) rfl)
          have HX0 := Lib.hid (fun (w1 : World) (hb : From wr w1) => HX0'.out w1 (HB.out.trans (hb.mono HB.out.size)))
          have HXL := Lib.hid (fun (w1 : World) (hb : From wr w1) => HXL'.out w1 (HB.out.trans (hb.mono HB.out.size)))
          clear hsk hx hkl
          by_cases h1 : x.x < x0
          · have HC1 : Hid (x.x < x0) := h1
            have HC2 := HC1
            have HE : Hid (refCurve l ws = ([], 6)) := by
             exact HV3.out.trans (refC3_bad (any_take HSK.out (by rw [HOU.out, decide_eq_true h1]; rfl)))
            clear h1
            go_wp2
            refine wp_region_run 25 [.val (Value.slice (some ⟨bD, oD, none⟩) m d), .val (Value.int .i64 ((k : Int))), .val (Value.pointer (some ⟨bD, oD + k * 2, none⟩)), .val (Value.pointer (some ⟨bD, oD + k * 2, none⟩)), .val (Value.int .i64 (x.x)), .val (Value.slice (some ⟨bA, oA, none⟩) n c), .val (Value.pointer (some ⟨bA, oA, none⟩)), .val (Value.pointer (some ⟨bA, oA, none⟩)), .val (Value.int .i64 (x0)), .val (Value.bool true), .val (Value.bool true), .skip, .skip, .skip, .skip, .skip, .skip, .skip, .skip, .skip, .skip, .skip, .skip, .skip, .val (Value.bool true)] (by kernel_rfl) (by kernel_rfl) (Nat.le_of_ble_eq_true (by kernel_rfl)) (by kernel_rfl) (by kernel_rfl) ?_ ?_ ?_
            · exact trivial
            · exact ⟨(fun _ _ => ok_move rfl), (fun _ _ => ok_move rfl), (fun _ _ => ok_index (k := k) rfl rfl el78 (hkm) (rfl)), (fun _ _ => ok_field (k := 0) rfl fl79_0 rfl), (fun w hb => ok_load rfl ((HX.out) w hb)), (fun _ _ => ok_move rfl), (fun _ _ => ok_index (k := 0) rfl rfl el22 (hn0) (rfl)), (fun _ _ => ok_field (k := 0) rfl fl44_0 rfl), (fun w hb => ok_load rfl ((HX0.out) w hb)), (fun _ _ => ok_cmp rfl rfl (congrArg some (decide_eq_true (HC1.out))) rfl), (fun _ _ => ok_move rfl), trivial, trivial, trivial, trivial, trivial, trivial, trivial, trivial, trivial, trivial, trivial, trivial, trivial, (fun _ _ => ok_pick rfl rfl), trivial⟩
            intro w7 hb7
            simp only [contS, List.take_succ_cons, List.take_zero, List.drop_succ_cons, List.drop_zero]
            simp only [Act.put, List.setIfInBounds_toArray, List.set_cons_succ, List.set_cons_zero]
            have HB7 := Lib.hid (HB.out.trans (hb7.mono HB.out.size))
            clear hb7
            go_wp2
            go_ret2
            rw [HRR.out, HE.out]
            exact RcPost.err HB7.out
          · have HC1 : Hid (x0 ≤ x.x) := Int.not_lt.1 h1
            by_cases h2 : xl ≤ x.x
            · have HC2 : Hid (xl ≤ x.x) := h2
              have HE : Hid (refCurve l ws = ([], 6)) := by
               exact HV3.out.trans (refC3_bad (any_take HSK.out (by rw [HOU.out, decide_eq_true h2]; simp)))
              clear h1 h2
              go_wp2
              refine wp_region_run 25 [.val (Value.slice (some ⟨bD, oD, none⟩) m d), .val (Value.int .i64 ((k : Int))), .val (Value.pointer (some ⟨bD, oD + k * 2, none⟩)), .val (Value.pointer (some ⟨bD, oD + k * 2, none⟩)), .val (Value.int .i64 (x.x)), .val (Value.slice (some ⟨bA, oA, none⟩) n c), .val (Value.pointer (some ⟨bA, oA, none⟩)), .val (Value.pointer (some ⟨bA, oA, none⟩)), .val (Value.int .i64 (x0)), .val (Value.bool false), .val (Value.bool false), .val (Value.slice (some ⟨bD, oD, none⟩) m d), .val (Value.int .i64 ((k : Int))), .val (Value.pointer (some ⟨bD, oD + k * 2, none⟩)), .val (Value.pointer (some ⟨bD, oD + k * 2, none⟩)), .val (Value.int .i64 (x.x)), .val (Value.slice (some ⟨bA, oA, none⟩) n c), .val (Value.slice (some ⟨bA, oA, none⟩) n c), .val (Value.int .i64 (n : Int)), .val (Value.int .i64 ((N : Int))), .val (Value.pointer (some ⟨bA, oA + N * 5, none⟩)), .val (Value.pointer (some ⟨bA, oA + N * 5, none⟩)), .val (Value.int .i64 (xl)), .val (Value.bool true), .val (Value.bool true)] (by kernel_rfl) (by kernel_rfl) (Nat.le_of_ble_eq_true (by kernel_rfl)) (by kernel_rfl) (by kernel_rfl) ?_ ?_ ?_
              · exact trivial
              · exact ⟨(fun _ _ => ok_move rfl), (fun _ _ => ok_move rfl), (fun _ _ => ok_index (k := k) rfl rfl el78 (hkm) (rfl)), (fun _ _ => ok_field (k := 0) rfl fl79_0 rfl), (fun w hb => ok_load rfl ((HX.out) w hb)), (fun _ _ => ok_move rfl), (fun _ _ => ok_index (k := 0) rfl rfl el22 (hn0) (rfl)), (fun _ _ => ok_field (k := 0) rfl fl44_0 rfl), (fun w hb => ok_load rfl ((HX0.out) w hb)), (fun _ _ => ok_cmp rfl rfl (congrArg some (decide_eq_false ((Int.not_lt.2 HC1.out)))) rfl), (fun _ _ => ok_move rfl), (fun _ _ => ok_move rfl), (fun _ _ => ok_move rfl), (fun _ _ => ok_index (k := k) rfl rfl el78 (hkm) (rfl)), (fun _ _ => ok_field (k := 0) rfl fl79_0 rfl), (fun w hb => ok_load rfl ((HX.out) w hb)), (fun _ _ => ok_move rfl), (fun _ _ => ok_move rfl), (fun _ _ => ok_len rfl Try.underlying22 rfl), (fun _ _ => ok_sub rfl rfl (wN) rfl), (fun _ _ => ok_index (k := N) rfl rfl el22 (hNn) (rfl)), (fun _ _ => ok_field (k := 0) rfl fl44_0 rfl), (fun w hb => ok_load rfl ((HXL.out) w hb)), (fun _ _ => ok_cmp rfl rfl (congrArg some (decide_eq_true (HC2.out))) rfl), (fun _ _ => ok_pick rfl rfl), trivial⟩
              intro w7 hb7
              simp only [contS, List.take_succ_cons, List.take_zero, List.drop_succ_cons, List.drop_zero]
              simp only [Act.put, List.setIfInBounds_toArray, List.set_cons_succ, List.set_cons_zero]
              have HB7 := Lib.hid (HB.out.trans (hb7.mono HB.out.size))
              clear hb7
              go_wp2
              go_ret2
              rw [HRR.out, HE.out]
              exact RcPost.err HB7.out
            · have HC2 : Hid (x.x < xl) := Int.not_le.1 h2
              have HAN : Hid ((ws.take (k + 1)).any (outF l) = false) := by
               unfold Hid
               rw [any_succ HSK.out, HAY.out, HOU.out, decide_eq_false h1, decide_eq_false h2]
               rfl
              clear h1 h2
              go_wp2
              refine wp_region_run 25 [.val (Value.slice (some ⟨bD, oD, none⟩) m d), .val (Value.int .i64 ((k : Int))), .val (Value.pointer (some ⟨bD, oD + k * 2, none⟩)), .val (Value.pointer (some ⟨bD, oD + k * 2, none⟩)), .val (Value.int .i64 (x.x)), .val (Value.slice (some ⟨bA, oA, none⟩) n c), .val (Value.pointer (some ⟨bA, oA, none⟩)), .val (Value.pointer (some ⟨bA, oA, none⟩)), .val (Value.int .i64 (x0)), .val (Value.bool false), .val (Value.bool false), .val (Value.slice (some ⟨bD, oD, none⟩) m d), .val (Value.int .i64 ((k : Int))), .val (Value.pointer (some ⟨bD, oD + k * 2, none⟩)), .val (Value.pointer (some ⟨bD, oD + k * 2, none⟩)), .val (Value.int .i64 (x.x)), .val (Value.slice (some ⟨bA, oA, none⟩) n c), .val (Value.slice (some ⟨bA, oA, none⟩) n c), .val (Value.int .i64 (n : Int)), .val (Value.int .i64 ((N : Int))), .val (Value.pointer (some ⟨bA, oA + N * 5, none⟩)), .val (Value.pointer (some ⟨bA, oA + N * 5, none⟩)), .val (Value.int .i64 (xl)), .val (Value.bool false), .val (Value.bool false)] (by kernel_rfl) (by kernel_rfl) (Nat.le_of_ble_eq_true (by kernel_rfl)) (by kernel_rfl) (by kernel_rfl) ?_ ?_ ?_
              · exact trivial
              · exact ⟨(fun _ _ => ok_move rfl), (fun _ _ => ok_move rfl), (fun _ _ => ok_index (k := k) rfl rfl el78 (hkm) (rfl)), (fun _ _ => ok_field (k := 0) rfl fl79_0 rfl), (fun w hb => ok_load rfl ((HX.out) w hb)), (fun _ _ => ok_move rfl), (fun _ _ => ok_index (k := 0) rfl rfl el22 (hn0) (rfl)), (fun _ _ => ok_field (k := 0) rfl fl44_0 rfl), (fun w hb => ok_load rfl ((HX0.out) w hb)), (fun _ _ => ok_cmp rfl rfl (congrArg some (decide_eq_false ((Int.not_lt.2 HC1.out)))) rfl), (fun _ _ => ok_move rfl), (fun _ _ => ok_move rfl), (fun _ _ => ok_move rfl), (fun _ _ => ok_index (k := k) rfl rfl el78 (hkm) (rfl)), (fun _ _ => ok_field (k := 0) rfl fl79_0 rfl), (fun w hb => ok_load rfl ((HX.out) w hb)), (fun _ _ => ok_move rfl), (fun _ _ => ok_move rfl), (fun _ _ => ok_len rfl Try.underlying22 rfl), (fun _ _ => ok_sub rfl rfl (wN) rfl), (fun _ _ => ok_index (k := N) rfl rfl el22 (hNn) (rfl)), (fun _ _ => ok_field (k := 0) rfl fl44_0 rfl), (fun w hb => ok_load rfl ((HXL.out) w hb)), (fun _ _ => ok_cmp rfl rfl (congrArg some (decide_eq_false ((Int.not_le.2 HC2.out)))) rfl), (fun _ _ => ok_pick rfl rfl), trivial⟩
              intro w7 hb7
              simp only [contS, List.take_succ_cons, List.take_zero, List.drop_succ_cons, List.drop_zero]
              simp only [Act.put, List.setIfInBounds_toArray, List.set_cons_succ, List.set_cons_zero]
              have HB7 := Lib.hid (HB.out.trans (hb7.mono HB.out.size))
              clear hb7 HB
              go_wp2
              go_roundw
              case rel => exact ⟨k + 1, by omega, by go_num, HAN.out, HB7.out⟩
              case measure => simp [intOf]; omega
   · have hlt : (k : Int) < (m : Int) := by omega
     have hkl : k < ws.length := by rw [← HN.out.2.1]; omega
     obtain ⟨bD, oD, rfl⟩ := Rd.addr HD.out (by rw [List.length_map]; omega)
     have hsk := getD_some wt0 hkl
     obtain ⟨x, hx⟩ : ∃ x, x = ws.getD k wt0 := ⟨_, rfl⟩
     rw [← hx] at hsk
     have HSK := Lib.hid hsk
     have HX := Lib.hid (fun (w1 : World) (hb : From wr w1) => Rd.cell (P := Try.prog) (HD.out.from HB.out) hb ct3 (k := k) (cs := x.cells) (by rw [List.getElem?_map, hsk]; rfl) (j := 1) (v := .int .i64 x.kilos) rfl (p := oD + k * 2 + 1) rfl)
     have HI := Lib.hid (fun w1 => r18_in x.kilos 0 500000000 w1)
     have HWB : Hid (wtBad x = !decide (0 ≤ x.kilos ∧ x.kilos ≤ 500000000)) := by unfold Hid wtBad; simp
     clear hsk hx hkl hkm
     by_cases h1 : 0 ≤ x.kilos ∧ x.kilos ≤ 500000000
     · rw [decide_eq_true h1] at HI
       have HAN : Hid ((ws.take (k + 1)).any wtBad = false) := by
        unfold Hid
        rw [any_succ HSK.out, HAY.out, HWB.out, decide_eq_true h1]
        rfl
       clear h1
       go_wp2_with (first
        | ((with_reducible refine g_ld 3 ?_); go_loud (refine wpList_ld rfl _ _ rfl _ rfl _ (HX.out _ (Below.refl _ _)) ?_))
        | (go_at_call 70; go_loud (refine (HI.out _).mono ?_); rintro e w3 ⟨rfl, hb⟩; have HB7 := Lib.hid (HB.out.trans (hb.mono HB.out.size)); clear hb HB))
       go_roundw
       case rel => exact ⟨k + 1, by omega, by go_num, HAN.out, HB7.out⟩
       case measure => simp [intOf]; omega
     · rw [decide_eq_false h1] at HI
       have HE : Hid (refCurve l ws = ([], 2)) := by
        exact HV.out.trans (refC1_bad (any_take HSK.out (by rw [HWB.out, decide_eq_false h1]; rfl)))
       clear h1
       go_wp2_with (first
        | ((with_reducible refine g_ld 3 ?_); go_loud (refine wpList_ld rfl _ _ rfl _ rfl _ (HX.out _ (Below.refl _ _)) ?_))
        | (go_at_call 70; go_loud (refine (HI.out _).mono ?_); rintro e w3 ⟨rfl, hb⟩; have HB7 := Lib.hid (HB.out.trans (hb.mono HB.out.size)); clear hb))
       go_ret2
       rw [HRR.out, HE.out]
       exact RcPost.err HB7.out
end Go.Proofs.Ytcdfnlgimbecgaa
