/-
  strength: Curve, walked (its errors; the sums; k; the loop).
-/
import Derived.Test.YtcdfnlgimbecgaaMt24
namespace Go.Proofs.Ytcdfnlgimbecgaa
open Go.RowKit
theorem fold_nonneg : ∀ (S : List Sec) (a : Sec), 0 ≤ a.a0 → (∀ b ∈ S, 0 ≤ b.a0) → 0 ≤ (S.foldl Sec.add a).a0
 | [], a, h, _ => h
 | b :: S, a, h, hS => by
  refine fold_nonneg S (a.add b) ?_ (fun c hc => hS c (by simp [hc]))
  have := hS b (by simp)
  show 0 ≤ a.a0 + b.a0
  omega
theorem addAll_ok {l : List Frm} {ws : List Wt} {S : List Sec} (hof : okFrom none l = true) (hl3 : 3 ≤ l.length) (hl : l.length ≤ 30) (hsh : shareF l = 10000) (hw : ws.length ≤ 3000) (hk : ∀ x ∈ ws, 0 ≤ x.kilos ∧ x.kilos ≤ 500000000) (h : sectionsF l ws = some S) (j : Nat) :
 (-2000000000000 ≤ (addAll (S.take j)).a0 ∧ (addAll (S.take j)).a0 ≤ 2000000000000) ∧ (-2000000000000000000 ≤ (addAll (S.take j)).a1 ∧ (addAll (S.take j)).a1 ≤ 2000000000000000000) ∧ (-10000 ≤ (addAll (S.take j)).a2 ∧ (addAll (S.take j)).a2 ≤ 10000) ∧ (-10000000000 ≤ (addAll (S.take j)).a3 ∧ (addAll (S.take j)).a3 ≤ 10000000000) ∧ (-1740000000 ≤ (addAll (S.take j)).a4 ∧ (addAll (S.take j)).a4 ≤ 1740000000) ∧ (-1740000000000000 ≤ (addAll (S.take j)).a5 ∧ (addAll (S.take j)).a5 ≤ 1740000000000000) := by
 obtain ⟨q0, q1, q2, q3, q4, q5⟩ := sections_sums hof hl3 hl hsh hk h
 have r0 := ahead_abs part0 S j
 have r1 := ahead_abs part1 S j
 have r2 := ahead_abs part2 S j
 have r3 := ahead_abs part3 S j
 have r4 := ahead_abs part4 S j
 have r5 := ahead_abs part5 S j
 omega
def NewS (base : Nat) (s : Str) (v : Value) (w : World) : Prop := ∃ g, v = .slice (some ⟨g, 0, none⟩) 1 1 ∧ base ≤ g ∧ RB w g 40 34 [s.cells]
theorem NewS.stays {base : Nat} {s : Str} : ∀ v w w', NewS base s v w → From w w' → NewS base s v w' := by
 rintro v w w' ⟨g, h1, h2, h3⟩ hb
 exact ⟨g, h1, h2, h3.below hb h3.lt⟩
theorem NewS.new {base : Nat} {s : Str} {w : World} (h : base ≤ w.heap.size) : NewS base s (.slice (some ⟨w.heap.size, 0, none⟩) 1 1) (w.alloc (.cells s.cells.toArray 40)) := by
 refine ⟨_, rfl, h, ?_, by intro cs hc; rw [List.mem_singleton] at hc; subst hc; exact s.cells_len⟩
 have h1 := heap_alloc_new w (.cells s.cells.toArray 40)
 rw [List.flatten_singleton]
 exact h1
set_option maxRecDepth 100000 in
set_option maxHeartbeats 8000000 in
theorem st_Curve (A D : Option Addr) (c d n m : Nat) (l : List Frm) (ws : List Wt) (hn : n = l.length) (hm : m = ws.length) (w : World) (h : Rd w w.heap.size 5 A (l.map Frm.cells)) (h' : Rd w w.heap.size 2 D (ws.map Wt.cells)) (hl : l.length ≤ 1000000) (hws : ws.length ≤ 1000000) :
 Calls Try.prog 12 #[.slice A n c, .slice D m d] w (CurPost w (curveF l ws)) := by
 have hmi : (m : Int) ≤ 1000000 := by omega
 have HRI := Lib.hid (st_Right A c n l hn w h hl)
 have HCO := Lib.hid (fun (w1 : World) (hb : From w w1) => st_contains D d m ws hm w1 ((h'.below hb (Nat.le_refl _)).more hb.size) (by omega))
 obtain ⟨r, hr⟩ : ∃ r, r = curveF l ws := ⟨_, rfl⟩
 rw [← hr]
 have HNM := Lib.hid (And.intro hn hm)
 have HR := Lib.hid h
 have HD := Lib.hid h'
 have hcf := cf38
 cases hri : rightF l with
 | false =>
  have HV : Hid (r = ([], 2)) := by unfold Hid; rw [hr]; unfold curveF; rw [hri]; rfl
  rw [hri] at HRI
  clear h h' hn hm hr hri hl hws
  go_enter Try.func12, Try.ntmps12
  go_wp2_with (first
   | (go_at_call 14; refine (HRI.out).mono ?_; rintro e w1 ⟨rfl, hb1⟩; have C1 : Hid (From w w1) := hb1; clear hb1 HRI)
   | (go_at_call 37; refine (HCO.out _ C1.out).mono ?_; rintro e w2 ⟨rfl, hb2⟩; have C2 : Hid (From w w2) := C1.out.trans (hb2.mono C1.out.size); clear hb2 HCO)
   )
  go_ret2
  rw [HV.out]
  exact CurPost.err C1.out
 | true =>
  rw [hri] at HRI
  cases hwb : ws.any wtBad with
  | true =>
   have HV : Hid (r = ([], 2)) := by unfold Hid; rw [hr]; unfold curveF; rw [hri, hwb]; rfl
   rw [hwb] at HCO
   clear h h' hn hm hr hri hl hws hwb
   go_enter Try.func12, Try.ntmps12
   go_wp2_with (first
    | (go_at_call 14; refine (HRI.out).mono ?_; rintro e w1 ⟨rfl, hb1⟩; have C1 : Hid (From w w1) := hb1; clear hb1 HRI)
    | (go_at_call 37; refine (HCO.out _ C1.out).mono ?_; rintro e w2 ⟨rfl, hb2⟩; have C2 : Hid (From w w2) := C1.out.trans (hb2.mono C1.out.size); clear hb2 HCO)
    )
   go_ret2
   rw [HV.out]
   exact CurPost.err C2.out
  | false =>
   rw [hwb] at HCO
   by_cases hm3 : 3000 < ws.length
   · have HV : Hid (r = ([], 5)) := by unfold Hid; rw [hr]; unfold curveF; rw [hri, hwb, if_pos hm3]; rfl
     have hmm : (3000 : Int) < (m : Int) := by omega
     clear h h' hn hm hr hri hl hws hwb hm3
     go_enter Try.func12, Try.ntmps12
     go_wp2_with (first
      | (go_at_call 14; refine (HRI.out).mono ?_; rintro e w1 ⟨rfl, hb1⟩; have C1 : Hid (From w w1) := hb1; clear hb1 HRI)
      | (go_at_call 37; refine (HCO.out _ C1.out).mono ?_; rintro e w2 ⟨rfl, hb2⟩; have C2 : Hid (From w w2) := C1.out.trans (hb2.mono C1.out.size); clear hb2 HCO)
      )
     go_ret2
     rw [HV.out]
     exact CurPost.err C2.out
   · obtain ⟨p1, p2, p3, p4⟩ := rightF_parts hri
     have hkil := anyBad_false hwb
     have hmm : ¬ (3000 : Int) < (m : Int) := by omega
     have HSE := Lib.hid (fun (w1 : World) (hb : From w w1) => st_sections A D c d n m l ws hn hm w1 ((h.below hb (Nat.le_refl _)).more hb.size) ((h'.below hb (Nat.le_refl _)).more hb.size) p1 p2 (by omega) p3 hkil)
     have hr2 : r = match sectionsF l ws with | none => ([], 6) | some S => if 500000000 < (addAll S).a0 then ([], 3) else (curveS l S, 0) := by
      rw [hr]
      unfold curveF
      rw [hri, hwb, if_neg hm3]
      rfl
     cases hsf : sectionsF l ws with
     | none =>
      have HV : Hid (r = ([], 6)) := by unfold Hid; rw [hr2, hsf]
      have HSF := Lib.hid hsf
      clear h h' hn hm hr hr2 hri hl hws hwb hm3 p1 p2 p3 p4 hkil hsf
      go_enter Try.func12, Try.ntmps12
      go_wp2_with (first
       | (go_at_call 14; refine (HRI.out).mono ?_; rintro e w1 ⟨rfl, hb1⟩; have C1 : Hid (From w w1) := hb1; clear hb1 HRI)
       | (go_at_call 37; refine (HCO.out _ C1.out).mono ?_; rintro e w2 ⟨rfl, hb2⟩; have C2 : Hid (From w w2) := C1.out.trans (hb2.mono C1.out.size); clear hb2 HCO)
       | (go_at_call 40; refine (HSE.out _ C2.out).mono ?_; rintro e w3 ⟨hor, hb3⟩; have C3 : Hid (From w w3) := C2.out.trans (hb3.mono C2.out.size); obtain ⟨S, A3, c3, hS, _⟩ | ⟨_, rfl⟩ := hor; · (rw [HSF.out] at hS; cases hS)))
      go_ret2
      rw [HV.out]
      exact CurPost.err C3.out
     | some S =>
      have hsum := addAll_ok p3 p1 p2 p4 (by omega) hkil hsf
      have hfit : ∀ j, (addAll (S.take j)).fits := by
       intro j
       have := hsum j
       unfold Sec.fits inI
       omega
      rw [hsf] at hr2
      have HSF := Lib.hid hsf
      have HSUM := Lib.hid hsum
      have HFIT := Lib.hid hfit
      have HRV : Hid (r = if 500000000 < (addAll S).a0 then ([], 3) else (curveS l S, 0)) := hr2
      have HL3 := Lib.hid (And.intro p1 p2)
      have HOK := Lib.hid (okFrom_ok none l p3)
      clear h h' hn hm hr hr2 hri hl hws hwb hm3 p1 p2 p3 p4 hkil hsf hsum hfit
      go_enter Try.func12, Try.ntmps12
      go_wp2_with (first
       | (go_at_call 14; refine (HRI.out).mono ?_; rintro e w1 ⟨rfl, hb1⟩; have C1 : Hid (From w w1) := hb1; clear hb1 HRI)
       | (go_at_call 37; refine (HCO.out _ C1.out).mono ?_; rintro e w2 ⟨rfl, hb2⟩; have C2 : Hid (From w w2) := C1.out.trans (hb2.mono C1.out.size); clear hb2 HCO)
       | (go_at_call 40; refine (HSE.out _ C2.out).mono ?_; rintro e w3 ⟨hor, hb3⟩; have C3 : Hid (From w w3) := C2.out.trans (hb3.mono C2.out.size); obtain ⟨S', A3, c3, hS, rfl, hrd3, hlen3, hso3⟩ | ⟨hS, _⟩ := hor; rotate_left; · (rw [HSF.out] at hS; cases hS)
          rw [HSF.out] at hS; injection hS with hS; subst hS; have RD3 := Lib.hid hrd3; have HLEN := Lib.hid hlen3; have HNN := Lib.hid (fold_nonneg S Sec.zero (Int.le_refl _) (fun b hb => (hso3 b hb).1.1)); clear hrd3 hlen3 hso3 HSE hb3))
      generalize hnp : l.length - 1 = np at HLEN ⊢
      have HNP := Lib.hid hnp
      have hnp29 : np ≤ 29 := by have := HL3.out; omega
      have hnp2 : 2 ≤ np := by have := HL3.out; omega
      have hlen : S.length = np := HLEN.out
      obtain ⟨gp, offp, rfl, hgp, hx9⟩ := RD3.out.ld Sec.row (k := 0) (cs := (S[0]'(by omega)).cells) (by rw [List.getElem?_map, List.getElem?_eq_getElem (by omega)]; rfl)
      have HLP : Hid (∀ k (hk : k < S.length) w1, From w3 w1 → (loadVar 103 ⟨gp, offp + k * 6, none⟩).run Try.prog w1 = .ok (S[k]).val w1) := by
       intro k hk w1 hb1
       obtain ⟨g5, off5, e5, _, hl5⟩ := RD3.out.ld Sec.row (k := k) (cs := (S[k]).cells) (by rw [List.getElem?_map, List.getElem?_eq_getElem hk]; rfl)
       injection e5 with e5
       injection e5 with e6 e7
       subst e6; subst e7
       exact hl5 w1 hb1
      have HA0 : Hid (From w3 (w3.alloc (.cells Sec.zero.cells.toArray 103))) := (Below.refl _ _).alloc (Nat.le_refl _) _
      have HRB0 : Hid (RB (w3.alloc (.cells Sec.zero.cells.toArray 103)) w3.heap.size 103 6 [(addAll (S.take 0)).cells]) := ⟨heap_alloc_new w3 _, by intro cs hcs; simp at hcs; rw [hcs]; rfl⟩
      clear hnp hx9 hlen
      go_loopw [44] (fun kv wr1 => ∃ k : Nat, k ≤ np ∧ kv = .int .i64 k ∧ RB wr1 w3.heap.size 103 6 [(addAll (S.take k)).cells] ∧ From w3 wr1) (fun kv _ => np - (intOf kv).toNat)
      case atStart => exact ⟨0, Nat.zero_le _, rfl, HRB0.out, HA0.out⟩
      case round =>
       clear HRB0 HA0
       obtain ⟨k, hk, rfl, hrb, hb⟩ := hrel
       have HRB := Lib.hid hrb
       have HB := Lib.hid hb
       clear hrb hb
       by_cases hkn : k < np
       · have hks : k < S.length := by rw [HLEN.out]; exact hkn
         obtain ⟨sk, hsk⟩ : ∃ sk, sk = S[k] := ⟨_, rfl⟩
         have hlp := HLP.out k hks wr HB.out
         rw [← hsk] at hlp
         have HLK := Lib.hid hlp
         have hsn := addAll_snoc S hks
         rw [← hsk] at hsn
         have hfk := HFIT.out (k + 1)
         rw [hsn] at hfk
         have HSN := Lib.hid hsn
         have HPL := Lib.hid (fun (w1 : World) => sec_plus (addAll (S.take k)) sk hfk w1)
         have hki : (k : Int) < (np : Int) := by omega
         have HAL : Hid (From wr (wr.alloc (.cells sk.cells.toArray 103))) := (Below.refl _ _).alloc (Nat.le_refl _) _
         have hrl := (HRB.out.below HAL.out HRB.out.lt).rd.ld Sec.row (k := 0) (cs := (addAll (S.take k)).cells) rfl
         have HL8 : Hid ((loadVar 103 ⟨w3.heap.size, 0, none⟩).run Try.prog (wr.alloc (.cells sk.cells.toArray 103)) = .ok (addAll (S.take k)).val (wr.alloc (.cells sk.cells.toArray 103))) := by
          obtain ⟨g5, off5, e5, _, hl5⟩ := hrl
          injection e5 with e5
          injection e5 with e6 e7
          subst e6; subst e7
          exact hl5 _ (Below.refl _ _)
         clear hlp hsn hfk hsk hks hrl
         go_wp2_with (first
          | ((with_reducible refine g_ld 103 ?_); refine wpList_ld rfl _ _ rfl _ rfl _ HLK.out ?_)
          | ((with_reducible refine g_ld 103 ?_); refine wpList_ld rfl _ _ rfl _ rfl _ HL8.out ?_)
          | (go_at_call 41; refine (HPL.out _).mono ?_; rintro e w5 ⟨rfl, hb5⟩; have C5 : Hid (From wr w5) := HAL.out.trans (hb5.mono HAL.out.size); have HRB5 := Lib.hid (HRB.out.below C5.out HRB.out.lt); clear hb5)
          | ((with_reducible refine g_st 103 ?_); refine wpList_stR (i := 0) (cs := Sec.cells ((addAll (S.take k)).add sk)) rfl _ _ rfl rfl rfl sec_size rfl rfl (Sec.one _) HRB5.out (by simp) rfl ?_; intro w7 hrb7 hgr7))
         have HRB7 : Hid (RB w7 w3.heap.size 103 6 [(addAll (S.take (k + 1))).cells]) := by unfold Hid; rw [HSN.out]; exact hrb7
         have HB7 : Hid (From w3 w7) := (HB.out.trans (C5.out.mono HB.out.size)).grown hgr7 (Nat.le_trans HB.out.size C5.out.size) (by intro q hq; injection hq with hq; omega)
         clear hrb7 hgr7
         go_roundw
         case rel => exact ⟨k + 1, by omega, by go_num, HRB7.out, HB7.out⟩
         case measure => simp [intOf]; omega
       · obtain rfl : k = np := by omega
         have hkk : ¬ (k : Int) < (k : Int) := by omega
         obtain ⟨wa, hwa⟩ : ∃ wa, wa = wr := ⟨_, rfl⟩
         subst hwa
         obtain ⟨all, hall⟩ : ∃ all, all = addAll S := ⟨_, rfl⟩
         have hts : S.take k = S := List.take_of_length_le (by rw [HLEN.out]; exact Nat.le_refl _)
         have HRA : Hid (RB wa w3.heap.size 103 6 [all.cells]) := by
          have h1 := HRB.out
          rw [hts, ← hall] at h1
          exact h1
         have hall0 := HSUM.out k
         rw [hts, ← hall] at hall0
         have HALL0 := Lib.hid hall0
         have HALL := Lib.hid hall
         have HRV2 : Hid (r = if 500000000 < all.a0 then ([], 3) else (curveS l S, 0)) := by unfold Hid; rw [hall]; exact HRV.out
         have HLI : Hid (∀ w1, From wa w1 → ∀ i v, all.cells[i]? = some (.int .i64 v) → (loadVar 3 ⟨w3.heap.size, i, none⟩).run Try.prog w1 = .ok (.int .i64 v) w1) := by
          intro w1 hb1 i v hv
          have h2 := HRA.out.below hb1 HRA.out.lt
          refine run_load_cell Try.underlying3 rfl ?_
          rw [cell_of_row w1 _ i _ _ _ h2.1]
          simpa using hv
         clear hall hts hall0 HRB HRV
         by_cases hW : 500000000 < all.a0
         · have HV : Hid (r = ([], 3)) := by unfold Hid; rw [HRV2.out, if_pos hW]
           go_wp2_with (first
            | ((with_reducible refine g_ld 3 ?_); refine wpList_ld rfl _ _ rfl _ rfl _ (HLI.out _ (Below.refl _ _) 0 all.a0 rfl) ?_))
           go_ret2
           rw [HV.out]
           exact CurPost.err ((C3.out.trans (HB.out.mono C3.out.size)).alloc (Nat.le_trans C3.out.size HB.out.size) _)
         · have HV : Hid (r = (curveS l S, 0)) := by unfold Hid; rw [HRV2.out, if_neg hW]
           have hW2 := eq_false hW
           have HW5 := Lib.hid (Int.not_lt.1 hW)
           have HOF0 := Lib.hid (fun (w1 : World) => frac_Of 0 (by omega) (by omega) w1)
           have HGW : Hid (From wa (wa.alloc (.cells #[.int .i64 all.a0] 3))) := (Below.refl _ _).alloc (Nat.le_refl _) _
           have HGW2 : Hid ((wa.alloc (.cells #[.int .i64 all.a0] 3)).heap[wa.heap.size]? = some (.cells #[.int .i64 all.a0] 3 (0, 0))) := heap_alloc_new wa _
           clear hW HRV2
           go_wp2_with (first
            | ((with_reducible refine g_ld 3 ?_); refine wpList_ld rfl _ _ rfl _ rfl _ (HLI.out _ (Below.refl _ _) 0 all.a0 rfl) ?_)
            | (go_at_call 13; refine (HOF0.out _).mono ?_; rintro e w5 ⟨rfl, hb5⟩; have C5 : Hid (From wa w5) := HGW.out.trans (hb5.mono HGW.out.size); have GW5 := Lib.hid ((hb5.block _ (Array.getElem?_eq_some_iff.1 HGW2.out).1).trans HGW2.out); clear hb5)
            | ((with_reducible refine g_st 37 ?_); refine wpList_stF (f := ofL 0) rfl _ _ rfl rfl rfl (FB.new w5 zeroF) ?_; intro w6 hfb6 hgr6))
           have C56 : Hid (From w5 w6) := ((Below.refl w5.heap.size w5).alloc (Nat.le_refl _) _).grown hgr6 (by simp) (by intro q hq; injection hq with hq; omega)
           have C6 : Hid (From wa w6) := C5.out.trans (C56.out.mono C5.out.size)
           have HK6 := Lib.hid hfb6
           have GW6 : Hid (w6.heap[wa.heap.size]? = some (.cells #[.int .i64 all.a0] 3 (0, 0))) := (C56.out.block _ (Array.getElem?_eq_some_iff.1 GW5.out).1).trans GW5.out
           clear hfb6 hgr6
           have hin : ∀ z : Int, -2000000000000000000 ≤ z → z ≤ 2000000000000000000 → inI z := fun z h1 h2 => by unfold inI; omega
           obtain ⟨b0, b1, b2, b3, b4, b5⟩ := HALL0.out
           have hw3 : inI (all.a0 * all.a3) := by
            have h0 : 0 ≤ all.a0 := by rw [HALL.out]; exact HNN.out
            have h5 := HW5.out
            have m := mul_in (a := all.a0) (A := 500000000) (b := all.a3) (B := 10000000000) (by omega) (by omega)
            unfold inI
            omega
           have HA1 := Lib.hid (hin all.a1 (by omega) (by omega))
           have HA5 := Lib.hid (hin all.a5 (by omega) (by omega))
           have HA3 := Lib.hid hw3
           clear b0 b1 b2 b3 b4 b5 hw3 hin
           refine region_k (g8 := w3.heap.size) (gw := wa.heap.size) (gk := w5.heap.size) (i1 := all.a1) (i3 := all.a3) (i5 := all.a5) (fo := ofL all.a1) (fl := liftV all.a0 (ofL 0) all.a3 0) (f5 := ofL all.a5) (r1 := subL (ofL all.a1) (liftV all.a0 (ofL 0) all.a3 0)) (r2 := divL (subL (ofL all.a1) (liftV all.a0 (ofL 0) all.a3 0)).1 (ofL all.a5)) rfl (by kernel_rfl) (by kernel_rfl) (by kernel_rfl) rfl rfl
            (fun w1 hb => HLI.out w1 (C6.out.trans (hb.mono C6.out.size)) 1 all.a1 rfl) (fun w1 hb => frac_Of all.a1 HA1.out.1 HA1.out.2 w1)
            (fun w1 hb => HLI.out w1 (C6.out.trans (hb.mono C6.out.size)) 3 all.a3 rfl) (fun w1 hb => st_lifts all.a0 all.a3 0 wa.heap.size w5.heap.size (ofL 0) (ofL_fits ⟨by omega, by omega⟩) HA3.out ⟨by omega, by omega⟩ w1 ((hb.block _ (Array.getElem?_eq_some_iff.1 GW6.out).1).trans GW6.out) (HK6.out.below hb HK6.out.lt))
            (fun w1 hb => frac_Sub _ _ (ofL_fits HA1.out) (addL_fits _ _) w1) (fun w1 hb => st_sure _ _ w1)
            (fun w1 hb => HLI.out w1 (C6.out.trans (hb.mono C6.out.size)) 5 all.a5 rfl) (fun w1 hb => frac_Of all.a5 HA5.out.1 HA5.out.2 w1)
            (fun w1 hb => frac_Div _ _ (subL_fits _ _) (ofL_fits HA5.out) w1) (fun w1 hb => st_sure _ _ w1) ?_
           intro w7 hb7
           have C7 : Hid (From wa w7) := C6.out.trans (hb7.mono C6.out.size)
           have HK7 := Lib.hid (HK6.out.below hb7 HK6.out.lt)
           have GW7 : Hid (w7.heap[wa.heap.size]? = some (.cells #[.int .i64 all.a0] 3 (0, 0))) := (hb7.block _ (Array.getElem?_eq_some_iff.1 GW6.out).1).trans GW6.out
           have HKF : Hid (kF S = (divL (subL (ofL all.a1) (liftV all.a0 (ofL 0) all.a3 0)).1 (ofL all.a5)).1) := by unfold Hid kF; rw [HALL.out]
           have HGK : Hid (wa.heap.size < w5.heap.size) := Nat.lt_of_lt_of_le (by simp : wa.heap.size < (wa.alloc (.cells #[.int .i64 all.a0] 3)).heap.size) (by have := GW5.out; exact Nat.le_of_lt_succ (by have h1 := (Array.getElem?_eq_some_iff.1 this).1; have h2 := C5.out.size; simp; omega))
           clear hb7
           simp only [List.drop_succ_cons, List.drop_zero]
           simp only [Act.put, List.setIfInBounds_toArray, List.set_cons_succ, List.set_cons_zero]
           go_wp2_with (first
            | ((with_reducible refine g_st 37 ?_); refine wpList_stF (f := (divL (subL (ofL all.a1) (liftV all.a0 (ofL 0) all.a3 0)).1 (ofL all.a5)).1) rfl _ _ rfl rfl rfl HK7.out ?_; intro w8 hfb8 hgr8))
           have HB8 : Hid (From wa w8) := C7.out.grown hgr8 C7.out.size (by intro q hq; injection hq with hq; have := HGK.out; omega)
           have GW8 : Hid (w8.heap[wa.heap.size]? = some (.cells #[.int .i64 all.a0] 3 (0, 0))) := (hgr8.block _ (Array.getElem?_eq_some_iff.1 GW7.out).1 (by intro e; injection e with e; have := HGK.out; omega)).trans GW7.out
           have HK8 : Hid (FB w8 w5.heap.size (kF S)) := by unfold Hid; rw [HKF.out]; exact hfb8
           have HA8 : Hid (From w8 (w8.alloc (.cells Sec.zero.cells.toArray 103))) := (Below.refl _ _).alloc (Nat.le_refl _) _
           have HRB8 : Hid (RB (w8.alloc (.cells Sec.zero.cells.toArray 103)) w8.heap.size 103 6 [(addAll (S.take 0)).cells]) := ⟨heap_alloc_new w8 _, by intro cs hcs; simp at hcs; rw [hcs]; rfl⟩
           have HOW8 : Hid (OwnS (w8.alloc (.cells Sec.zero.cells.toArray 103)) (w8.heap.size + 1) 40 34 none 0 (((List.range 0).map (strF l S all.a0 (kF S))).map Str.cells)) := OwnS.nil _ _ _ _
           clear hfb8 hgr8 HK7 GW7 HKF HRA HK6 GW6 GW5 HGW HGW2 HOF0 HLI
           go_loopw [14, 78] (fun ov jv wq => ∃ (j : Nat) (Ao : Option Addr) (co : Nat), j ≤ n ∧ jv = .int .i64 j ∧ ov = .slice Ao j co ∧ OwnS wq (w8.heap.size + 1) 40 34 Ao co (((List.range j).map (strF l S all.a0 (kF S))).map Str.cells) ∧ RB wq w8.heap.size 103 6 [(addAll (S.take (j - 1))).cells] ∧ From w8 wq ∧ w8.heap.size < wq.heap.size) (fun _ jv _ => n - (intOf jv).toNat)
           case atStart => exact ⟨0, none, 0, Nat.zero_le _, rfl, rfl, HOW8.out, HRB8.out, HA8.out, by simp⟩
           case round =>
            clear HA8 HRB8 HOW8
            obtain ⟨j, Ao, co, hj, rfl, rfl, how, hrbj, hbq, hltq⟩ := hrel
            have HOW := Lib.hid how
            have HRBJ := Lib.hid hrbj
            have HBQ := Lib.hid hbq
            have HLTQ := Lib.hid hltq
            clear how hrbj hbq hltq
            have hcf2 := cf42
            by_cases hjn : j < n
            · have hjl : j < l.length := by have := HNM.out.1; omega
              obtain ⟨g, off, rfl, hg, hld⟩ := Frm.ld HR.out (k := j) (b := l[j]) (by simp [hjl])
              obtain ⟨fj, hfj⟩ : ∃ fj, fj = l[j] := ⟨_, rfl⟩
              rw [← hfj] at hld
              have CWQ : Hid (From w wr) := (C3.out.trans (HB.out.mono C3.out.size)).trans ((HB8.out.trans (HBQ.out.mono HB8.out.size)).mono (Nat.le_trans C3.out.size HB.out.size))
              have HLDJ := Lib.hid (hld wr CWQ.out)
              have hjni : (j : Int) < (n : Int) := by omega
              have HFX : Hid (frmX l j = fj.x) := by unfold Hid; rw [frmX_get hjl, hfj]
              have HFJ := Lib.hid (Frm.ok_nums (HOK.out fj (by rw [hfj]; exact List.getElem_mem hjl)))
              clear hld hfj hjl
              by_cases hj0 : j = 0
              · subst hj0
                go_upto_region 27 with ((with_reducible refine g_ld 44 ?_); refine wpList_ld rfl _ _ rfl _ rfl _ HLDJ.out ?_)
                have HFN : Hid ((wr.alloc (.cells #[.int .i64 fj.x, .int .i64 fj.light, .int .i64 fj.share, .int .i64 fj.shear, .int .i64 fj.bend] 44)).heap[wr.heap.size]? = some (.cells #[.int .i64 fj.x, .int .i64 fj.light, .int .i64 fj.share, .int .i64 fj.shear, .int .i64 fj.bend] 44 (0, 0))) := heap_alloc_new wr _
                have CFN : Hid (From wr (wr.alloc (.cells #[.int .i64 fj.x, .int .i64 fj.light, .int .i64 fj.share, .int .i64 fj.shear, .int .i64 fj.bend] 44))) := (Below.refl _ _).alloc (Nat.le_refl _) _
                generalize wr.alloc (.cells #[.int .i64 fj.x, .int .i64 fj.light, .int .i64 fj.share, .int .i64 fj.shear, .int .i64 fj.bend] 44) = w11 at HFN CFN ⊢
                have HRM : Hid (RB w11 w8.heap.size 103 6 [(addAll (S.take 0)).cells]) := HRBJ.out.below CFN.out HRBJ.out.lt
                have CM : Hid (From w8 w11) := HBQ.out.trans (CFN.out.mono HBQ.out.size)
                have HOW11 := Lib.hid (HOW.out.below CFN.out (Nat.le_refl _))
                have HLX : Hid (∀ w1, From w11 w1 → (loadVar 3 ⟨wr.heap.size, 0, none⟩).run Try.prog w1 = .ok (.int .i64 fj.x) w1) := fun w1 hb1 => run_load_cell Try.underlying3 rfl (by rw [cell_of_row w1 _ 0 _ _ _ ((hb1.block _ (Array.getElem?_eq_some_iff.1 HFN.out).1).trans HFN.out)]; rfl)
                obtain ⟨ah, hah⟩ : ∃ ah, ah = addAll (S.take 0) := ⟨_, rfl⟩
                rw [← hah] at HRM
                have HAH := Lib.hid hah
                have hsb := HSUM.out 0
                rw [← hah] at hsb
                have HSB := Lib.hid hsb
                have HLA : Hid (∀ w1, From w11 w1 → ∀ i v, ah.cells[i]? = some (.int .i64 v) → (loadVar 3 ⟨w8.heap.size, i, none⟩).run Try.prog w1 = .ok (.int .i64 v) w1) := by
                 intro w1 hb1 i v hv
                 have h2 := HRM.out.below hb1 HRM.out.lt
                 refine run_load_cell Try.underlying3 rfl ?_
                 rw [cell_of_row w1 _ i _ _ _ h2.1]
                 simpa using hv
                have HLF : Hid (∀ (sh fa : Int) (w1 : World), From w11 w1 → inI (all.a0 * sh) → inI fa → Calls Try.prog 42 #[.int .i64 sh, .int .i64 fa, .pointer (some ⟨wa.heap.size, 0, none⟩), .pointer (some ⟨w5.heap.size, 0, none⟩)] w1 fun e w' => e = .returned (liftV all.a0 (kF S) sh fa).val ∧ Below w1.heap.size w1 w') := by
                 intro sh fa w1 hb1 h1 h2
                 have h3 := CM.out.trans (hb1.mono CM.out.size)
                 exact st_lifts all.a0 sh fa wa.heap.size w5.heap.size (kF S) (divL_fits _ _) h1 h2 w1 ((h3.block _ (Array.getElem?_eq_some_iff.1 GW8.out).1).trans GW8.out) (HK8.out.below h3 HK8.out.lt)
                have hwa2 : inI (all.a0 * ah.a2) := by
                 have h0 : 0 ≤ all.a0 := by rw [HALL.out]; exact HNN.out
                 have h5 := HW5.out
                 have m := mul_in (a := all.a0) (A := 500000000) (b := ah.a2) (B := 10000) (by omega) hsb.2.2.1
                 unfold inI
                 omega
                have hwa3 : inI (all.a0 * ah.a3) := by
                 have h0 : 0 ≤ all.a0 := by rw [HALL.out]; exact HNN.out
                 have h5 := HW5.out
                 have m := mul_in (a := all.a0) (A := 500000000) (b := ah.a3) (B := 10000000000) (by omega) hsb.2.2.2.1
                 unfold inI
                 omega
                have HWA2 := Lib.hid hwa2
                have HWA3 := Lib.hid hwa3
                clear hah hsb hwa2 hwa3
                try simp only [Act.put]
                go_upto_region 28 with (first
                 | ((with_reducible refine g_ld 3 ?_); refine wpList_ld rfl _ _ rfl _ rfl _ (HLA.out _ (Below.refl _ _) 2 ah.a2 rfl) ?_)
                 | ((with_reducible refine g_ld 3 ?_); refine wpList_ld rfl _ _ rfl _ rfl _ (HLA.out _ (Below.refl _ _) 4 ah.a4 rfl) ?_)
                 | (go_at_call 42; refine (HLF.out ah.a2 ah.a4 _ (Below.refl _ _) HWA2.out (by have := HSB.out; unfold inI; omega)).mono ?_; rintro e w12 ⟨rfl, hb12⟩)
                 | ((with_reducible refine g_st 37 ?_); refine wpList_stF (f := liftV all.a0 (kF S) ah.a2 ah.a4) rfl _ _ rfl rfl rfl (FB.new w12 zeroF) ?_; intro w13 hfb13 hgr13))
                have C12 : Hid (From w11 w12) := hb12
                have C1213 : Hid (From w12 w13) := ((Below.refl w12.heap.size w12).alloc (Nat.le_refl _) _).grown hgr13 (by simp) (by intro q hq; injection hq with hq; omega)
                have C13 : Hid (From w11 w13) := C12.out.trans (C1213.out.mono C12.out.size)
                have HU := Lib.hid hfb13
                have HFU : Hid ((liftV all.a0 (kF S) ah.a2 ah.a4).fits) := addL_fits _ _
                have HA0 : Hid (inI ah.a0) := by have := HSB.out; unfold Hid inI; omega
                clear hb12 hfb13 hgr13
                try simp only [Act.put]
                refine region_down (g15 := w8.heap.size) (g18 := w12.heap.size) (i0 := ah.a0) (fo := ofL ah.a0) (fu := liftV all.a0 (kF S) ah.a2 ah.a4) (r1 := subL (ofL ah.a0) (liftV all.a0 (kF S) ah.a2 ah.a4)) rfl (by kernel_rfl) (by kernel_rfl) (by kernel_rfl) rfl rfl (NewF w13.heap.size) NewF.stays
                 (fun w1 hb => HLA.out w1 (C13.out.trans (hb.mono C13.out.size)) 0 ah.a0 rfl) (fun w1 hb => frac_Of ah.a0 HA0.out.1 HA0.out.2 w1) (fun w1 hb => (HU.out.below hb HU.out.lt).ld) (fun w1 hb => frac_Sub _ _ (ofL_fits HA0.out) HFU.out w1) (fun w1 hb => st_sure _ _ w1) (fun w1 hb => NewF.new hb.size) ?_
                rintro u19 w14 hb14 ⟨g19, rfl, hg19, hf19⟩
                have C14 : Hid (From w11 w14) := C13.out.trans (hb14.mono C13.out.size)
                have hg19' : w11.heap.size ≤ g19 := Nat.le_trans C13.out.size hg19
                have HG19 := Lib.hid hg19'
                obtain ⟨fd, hfd⟩ : ∃ fd, fd = (subL (ofL ah.a0) (liftV all.a0 (kF S) ah.a2 ah.a4)).1 := ⟨_, rfl⟩
                have HFDV := Lib.hid hfd
                have HFDF : Hid fd.fits := by unfold Hid; rw [hfd]; exact subL_fits _ _
                have HF19 := Lib.hid hf19
                clear hb14 hg19 hg19' hf19 HU HFU
                simp only [List.drop_succ_cons, List.drop_zero]
                simp only [Act.put, List.setIfInBounds_toArray, List.set_cons_succ, List.set_cons_zero]
                rw [← hfd]
                clear hfd
                go_upto_region 29 with ((with_reducible refine g_st 37 ?_); refine wpList_stF (f := fd) rfl _ _ rfl rfl rfl HF19.out ?_; intro w15 hfb15 hgr15)
                have HD15 := Lib.hid hfb15
                have C15 : Hid (From w11 w15) := C14.out.grown hgr15 C14.out.size (by intro q hq; injection hq with hq; have := HG19.out; omega)
                clear hfb15 hgr15
                have HXB := HFJ.out.1
                have HOX : Hid (inI (2 * fj.x)) := by unfold Hid inI; omega
                have HWX : Hid (IntKind.i64.wrap (2 * fj.x) = 2 * fj.x) := wrap_i64 HOX.out.1 HOX.out.2
                clear HXB
                try simp only [Act.put]
                refine region_arm (g17 := wr.heap.size) (g19 := g19) (ix := fj.x) (dx := 2 * fj.x) (fd := fd) (fo := ofL (2 * fj.x)) (r1 := mulL fd (ofL (2 * fj.x))) HWX.out rfl (by kernel_rfl) (by kernel_rfl) (by kernel_rfl) rfl rfl (NewF w15.heap.size) NewF.stays
                 (fun w1 hb => (HD15.out.below hb HD15.out.lt).ld) (fun w1 hb => HLX.out w1 (C15.out.trans (hb.mono C15.out.size))) (fun w1 hb => frac_Of (2 * fj.x) HOX.out.1 HOX.out.2 w1) (fun w1 hb => frac_Mul _ _ HFDF.out (ofL_fits HOX.out) w1) (fun w1 hb => st_sure _ _ w1) (fun w1 hb => NewF.new hb.size) ?_
                rintro u20 w16 hb16 ⟨g20, rfl, hg20, hf20⟩
                have C16 : Hid (From w11 w16) := C15.out.trans (hb16.mono C15.out.size)
                have HD16 := Lib.hid (HD15.out.below hb16 HD15.out.lt)
                have HG20 : Hid (w11.heap.size ≤ g20) := Nat.le_trans C15.out.size hg20
                have HG1920 : Hid (g19 < g20) := Nat.lt_of_lt_of_le HD15.out.lt hg20
                have HF20 := Lib.hid hf20
                obtain ⟨fa, hfa⟩ : ∃ fa, fa = (mulL fd (ofL (2 * fj.x))).1 := ⟨_, rfl⟩
                have HFAV := Lib.hid hfa
                have HFAF : Hid fa.fits := by unfold Hid; rw [hfa]; exact mulL_fits _ _
                clear hb16 hg20 hf20 HD15
                simp only [List.drop_succ_cons, List.drop_zero]
                simp only [Act.put, List.setIfInBounds_toArray, List.set_cons_succ, List.set_cons_zero]
                rw [← hfa]
                clear hfa
                go_upto_region 30 with ((with_reducible refine g_st 37 ?_); refine wpList_stF (f := fa) rfl _ _ rfl rfl rfl HF20.out ?_; intro w17 hfb17 hgr17)
                have HA17 := Lib.hid hfb17
                have HD17 : Hid (FB w17 g19 fd) := HD16.out.keep (hgr17.block _ HD16.out.lt (by intro e; injection e with e; have := HG1920.out; omega))
                have C17 : Hid (From w11 w17) := C16.out.grown hgr17 C16.out.size (by intro q hq; injection hq with hq; have := HG20.out; omega)
                clear hfb17 hgr17 HD16
                have HI1 : Hid (inI ah.a1) := by have := HSB.out; unfold Hid inI; omega
                try simp only [Act.put]
                refine region_twice (g15 := w8.heap.size) (g20 := g20) (gw := wa.heap.size) (gk := w5.heap.size) (i1 := ah.a1) (i3 := ah.a3) (i5 := ah.a5) (fa := fa) (fl := liftV all.a0 (kF S) ah.a3 ah.a5) (fo := ofL ah.a1) (r1 := addL fa (liftV all.a0 (kF S) ah.a3 ah.a5)) (r2 := subL (addL fa (liftV all.a0 (kF S) ah.a3 ah.a5)).1 (ofL ah.a1)) rfl (by kernel_rfl) (by kernel_rfl) (by kernel_rfl) rfl rfl rfl (NewF w17.heap.size) NewF.stays
                 (fun w1 hb => (HA17.out.below hb HA17.out.lt).ld) (fun w1 hb => HLA.out w1 (C17.out.trans (hb.mono C17.out.size)) 3 ah.a3 rfl) (fun w1 hb => HLA.out w1 (C17.out.trans (hb.mono C17.out.size)) 5 ah.a5 rfl)
                 (fun w1 hb => HLF.out ah.a3 ah.a5 w1 (C17.out.trans (hb.mono C17.out.size)) HWA3.out (by have := HSB.out; unfold inI; omega)) (fun w1 hb => frac_Add _ _ HFAF.out (addL_fits _ _) w1) (fun w1 hb => st_sure _ _ w1)
                 (fun w1 hb => HLA.out w1 (C17.out.trans (hb.mono C17.out.size)) 1 ah.a1 rfl) (fun w1 hb => frac_Of ah.a1 HI1.out.1 HI1.out.2 w1) (fun w1 hb => frac_Sub _ _ (addL_fits _ _) (ofL_fits HI1.out) w1) (fun w1 hb => st_sure _ _ w1) (fun w1 hb => NewF.new hb.size) ?_
                rintro u21 w18 hb18 ⟨g21, rfl, hg21, hf21⟩
                have C18 : Hid (From w11 w18) := C17.out.trans (hb18.mono C17.out.size)
                have HD18 := Lib.hid (HD17.out.below hb18 HD17.out.lt)
                have HG21 : Hid (w11.heap.size ≤ g21) := Nat.le_trans C17.out.size hg21
                have HG1921 : Hid (g19 < g21) := Nat.lt_of_lt_of_le HD17.out.lt hg21
                have HF21 := Lib.hid hf21
                obtain ⟨ft, hft⟩ : ∃ ft, ft = (subL (addL fa (liftV all.a0 (kF S) ah.a3 ah.a5)).1 (ofL ah.a1)).1 := ⟨_, rfl⟩
                have HFTV := Lib.hid hft
                have HFTF : Hid ft.fits := by unfold Hid; rw [hft]; exact subL_fits _ _
                clear hb18 hg21 hf21 HD17 HA17
                simp only [List.drop_succ_cons, List.drop_zero]
                simp only [Act.put, List.setIfInBounds_toArray, List.set_cons_succ, List.set_cons_zero]
                rw [← hft]
                clear hft
                go_upto_region 31 with ((with_reducible refine g_st 37 ?_); refine wpList_stF (f := ft) rfl _ _ rfl rfl rfl HF21.out ?_; intro w19 hfb19 hgr19)
                have HT19 := Lib.hid hfb19
                have HD19 : Hid (FB w19 g19 fd) := HD18.out.keep (hgr19.block _ HD18.out.lt (by intro e; injection e with e; have := HG1921.out; omega))
                have C19 : Hid (From w11 w19) := C18.out.grown hgr19 C18.out.size (by intro q hq; injection hq with hq; have := HG21.out; omega)
                have HST : Hid (strF l S all.a0 (kF S) 0 = ⟨fd, (divL ft (ofL 2)).1⟩) := by unfold Hid strF twiceF armF downF; rw [← HAH.out, HFX.out, HFDV.out, HFTV.out, HFAV.out, HFDV.out]
                clear hfb19 hgr19 HD18
                try simp only [Act.put]
                refine region_out (g19 := g19) (g21 := g21) (fd := fd) (ft := ft) (fo := ofL 2) (r1 := divL ft (ofL 2)) rfl (by kernel_rfl) (by kernel_rfl) (by kernel_rfl) rfl rfl rfl (NewS w19.heap.size ⟨fd, (divL ft (ofL 2)).1⟩) NewS.stays
                 (fun w1 hb => (HD19.out.below hb HD19.out.lt).ld) (fun w1 hb => (HT19.out.below hb HT19.out.lt).ld) (fun w1 hb => frac_Of 2 (by omega) (by omega) w1) (fun w1 hb => frac_Div _ _ HFTF.out (ofL_fits ⟨by omega, by omega⟩) w1) (fun w1 hb => st_sure _ _ w1)
                 (fun a w1 h1 h2 => build_stress _ _ w1 h1 h2) (fun a w1 hb h1 => ⟨_, _, slice_stress _ w1 h1, (Below.refl _ _).alloc (Nat.le_refl _) _, NewS.new hb.size⟩) ?_
                rintro u22 w20 hb20 ⟨g22, rfl, hg22, hr22⟩
                have C20 : Hid (From w11 w20) := C19.out.trans (hb20.mono C19.out.size)
                have HOW20 := Lib.hid (HOW11.out.below C20.out (Nat.le_refl _))
                have HRM20 := Lib.hid (HRM.out.below C20.out HRM.out.lt)
                have HR22 := Lib.hid hr22.rd
                have HBS : Hid (w8.heap.size + 1 ≤ w20.heap.size) := Nat.le_trans HRM.out.lt C20.out.size
                clear hb20 hg22 hr22
                simp only [List.drop_succ_cons, List.drop_zero]
                simp only [Act.put, List.setIfInBounds_toArray, List.set_cons_succ, List.set_cons_zero]
                have HLN : Hid ((((List.range 0).map (strF l S all.a0 (kF S))).map Str.cells).length = 0) := by unfold Hid; simp
                have HN30 : Hid (0 + 1 ≤ 30) := by have h1 := HL3.out; have h2 := HNM.out.1; unfold Hid; omega
                go_wp2_with (first
                 | (at_builtin; go_loud (refine wpList_append_n rfl _ _ rfl stress_ei 0 HLN.out.symm rfl HOW20.out rfl _ HR22.out rfl (by intro cs hc u hu; rw [List.mem_singleton] at hc; subst hc; exact Str.ones _ u hu) (by rw [HLN.out]; have := HN30.out; unfold maxLen; omega) (by rw [HLN.out]; have := HN30.out; omega) HBS.out ?_); intro A2 c2 wz how2 hgr2 hb2))
                have HOW2 := Lib.hid how2
                have HB2 := Lib.hid hb2
                clear how2 hgr2 hb2
                go_roundw
                case rel =>
                 refine ⟨0 + 1, A2, c2, by omega, by go_num, rfl, ?_, ?_, ?_, ?_⟩
                 · have h1 := HOW2.out
                   rw [List.range_succ, List.map_append, List.map_append, List.map_singleton, List.map_singleton, HST.out]
                   exact h1
                 · have h1 := HRM20.out.below HB2.out (Nat.lt_succ_self _)
                   rw [HAH.out] at h1
                   exact h1
                 · exact (CM.out.trans (C20.out.mono CM.out.size)).trans ((HB2.out.mono (Nat.le_succ _)).mono (Nat.le_refl _))
                 · exact Nat.lt_of_lt_of_le HRM20.out.lt HB2.out.size
                case measure => simp [intOf]; omega
              · obtain ⟨jm, rfl⟩ : ∃ jm, j = jm + 1 := ⟨j - 1, by omega⟩
                have hjs : jm < S.length := by have h1 := HLEN.out; have h2 := HNP.out; have h3 := HNM.out.1; omega
                have hjk : jm < k := by rw [← HLEN.out]; exact hjs
                have hjmi : (jm : Int) < (k : Int) := by omega
                have hj1 : (0 : Int) < ((jm + 1 : Nat) : Int) := by omega
                have hj2 : (0 : Int) < (jm : Int) + 1 := by omega
                have wJ : IntKind.i64.wrap (((jm + 1 : Nat) : Int) - 1) = (jm : Int) := by rw [wrap_i64 (by have := HL3.out; omega) (by have := HL3.out; omega)]; omega
                obtain ⟨sk, hsk⟩ : ∃ sk, sk = S[jm] := ⟨_, rfl⟩
                have hlp := HLP.out jm hjs
                rw [← hsk] at hlp
                have HLPJ := Lib.hid hlp
                have hsn := addAll_snoc S hjs
                rw [← hsk] at hsn
                have hfk := HFIT.out (jm + 1)
                rw [hsn] at hfk
                have HSN := Lib.hid hsn
                have HFK := Lib.hid hfk
                have HRBJ2 : Hid (RB wr w8.heap.size 103 6 [(addAll (S.take jm)).cells]) := HRBJ.out
                have W38 : Hid (From w3 w8) := HB.out.trans (HB8.out.mono HB.out.size)
                clear hlp hsn hfk hsk hjs hj0 hjk
                go_upto_region 26 with ((with_reducible refine g_ld 44 ?_); refine wpList_ld rfl _ _ rfl _ rfl _ HLDJ.out ?_)
                have CA : Hid (From wr (wr.alloc (.cells #[.int .i64 fj.x, .int .i64 fj.light, .int .i64 fj.share, .int .i64 fj.shear, .int .i64 fj.bend] 44))) := (Below.refl _ _).alloc (Nat.le_refl _) _
                have HL15 : Hid (∀ w1, From wr w1 → (loadVar 103 ⟨w8.heap.size, 0, none⟩).run Try.prog w1 = .ok (addAll (S.take jm)).val w1) := by
                 intro w1 hb1
                 obtain ⟨g5, off5, e5, _, hl5⟩ := (HRBJ2.out.below hb1 HRBJ2.out.lt).rd.ld Sec.row (k := 0) (cs := (addAll (S.take jm)).cells) rfl
                 injection e5 with e5
                 injection e5 with e6 e7
                 subst e6; subst e7
                 exact hl5 w1 (Below.refl _ _)
                refine region_ahead (g15 := w8.heap.size) (gp := gp) (offp := offp) (np := k) (cp := c3) (jj := jm + 1) (jm := jm) (sa := addAll (S.take jm)) (sb := sk) (sc := (addAll (S.take jm)).add sk) wJ hjmi rfl (by kernel_rfl) (by kernel_rfl) (by kernel_rfl) rfl rfl rfl
                 (fun w1 hb => HL15.out w1 (CA.out.trans (hb.mono CA.out.size))) (fun w1 hb => HLPJ.out w1 (W38.out.trans ((HBQ.out.trans ((CA.out.trans (hb.mono CA.out.size)).mono HBQ.out.size)).mono W38.out.size))) (fun w1 hb => sec_plus _ _ HFK.out w1) ?_
                intro w10 hb10
                have C10 : Hid (From wr w10) := CA.out.trans (hb10.mono CA.out.size)
                have HRB10 := Lib.hid (HRBJ2.out.below C10.out HRBJ2.out.lt)
                have HFB10 := Lib.hid ((hb10.block _ (Array.getElem?_eq_some_iff.1 (heap_alloc_new wr (.cells #[.int .i64 fj.x, .int .i64 fj.light, .int .i64 fj.share, .int .i64 fj.shear, .int .i64 fj.bend] 44))).1).trans (heap_alloc_new wr _))
                have HOW10 := Lib.hid (HOW.out.below C10.out (Nat.le_refl _))
                clear hb10
                simp only [List.drop_succ_cons, List.drop_zero]
                simp only [Act.put, List.setIfInBounds_toArray, List.set_cons_succ, List.set_cons_zero]
                go_upto_region 27 with ((with_reducible refine g_st 103 ?_); refine wpList_stR (i := 0) (cs := Sec.cells ((addAll (S.take jm)).add sk)) rfl _ _ rfl rfl rfl sec_size rfl rfl (Sec.one _) HRB10.out (by simp) rfl ?_; intro w11 hrb11 hgr11)
                have HRM : Hid (RB w11 w8.heap.size 103 6 [(addAll (S.take (jm + 1))).cells]) := by unfold Hid; rw [HSN.out]; exact hrb11
                have CM : Hid (From w8 w11) := (HBQ.out.trans (C10.out.mono HBQ.out.size)).grown hgr11 (Nat.le_trans HBQ.out.size C10.out.size) (by intro q hq; injection hq with hq; omega)
                have HOW11 : Hid (OwnS w11 (w8.heap.size + 1) 40 34 Ao co (((List.range (jm + 1)).map (strF l S all.a0 (kF S))).map Str.cells)) := HOW10.out.keep fun a ha => hgr11.block _ (HOW10.out.lt ha).2 (by intro e; injection e with e; have := (HOW10.out.lt ha).1; omega)
                have HLX : Hid (∀ w1, From w11 w1 → (loadVar 3 ⟨wr.heap.size, 0, none⟩).run Try.prog w1 = .ok (.int .i64 fj.x) w1) := by
                 have h1 := (hgr11.block _ (Array.getElem?_eq_some_iff.1 HFB10.out).1 (by intro e; injection e with e; have := HLTQ.out; omega)).trans HFB10.out
                 exact fun w1 hb1 => run_load_cell Try.underlying3 rfl (by rw [cell_of_row w1 _ 0 _ _ _ ((hb1.block _ (Array.getElem?_eq_some_iff.1 h1).1).trans h1)]; rfl)
                clear hrb11 hgr11
                obtain ⟨ah, hah⟩ : ∃ ah, ah = addAll (S.take (jm + 1)) := ⟨_, rfl⟩
                rw [← hah] at HRM
                have HAH := Lib.hid hah
                have hsb := HSUM.out (jm + 1)
                rw [← hah] at hsb
                have HSB := Lib.hid hsb
                have HLA : Hid (∀ w1, From w11 w1 → ∀ i v, ah.cells[i]? = some (.int .i64 v) → (loadVar 3 ⟨w8.heap.size, i, none⟩).run Try.prog w1 = .ok (.int .i64 v) w1) := by
                 intro w1 hb1 i v hv
                 have h2 := HRM.out.below hb1 HRM.out.lt
                 refine run_load_cell Try.underlying3 rfl ?_
                 rw [cell_of_row w1 _ i _ _ _ h2.1]
                 simpa using hv
                have HLF : Hid (∀ (sh fa : Int) (w1 : World), From w11 w1 → inI (all.a0 * sh) → inI fa → Calls Try.prog 42 #[.int .i64 sh, .int .i64 fa, .pointer (some ⟨wa.heap.size, 0, none⟩), .pointer (some ⟨w5.heap.size, 0, none⟩)] w1 fun e w' => e = .returned (liftV all.a0 (kF S) sh fa).val ∧ Below w1.heap.size w1 w') := by
                 intro sh fa w1 hb1 h1 h2
                 have h3 := CM.out.trans (hb1.mono CM.out.size)
                 exact st_lifts all.a0 sh fa wa.heap.size w5.heap.size (kF S) (divL_fits _ _) h1 h2 w1 ((h3.block _ (Array.getElem?_eq_some_iff.1 GW8.out).1).trans GW8.out) (HK8.out.below h3 HK8.out.lt)
                have hwa2 : inI (all.a0 * ah.a2) := by
                 have h0 : 0 ≤ all.a0 := by rw [HALL.out]; exact HNN.out
                 have h5 := HW5.out
                 have m := mul_in (a := all.a0) (A := 500000000) (b := ah.a2) (B := 10000) (by omega) hsb.2.2.1
                 unfold inI
                 omega
                have hwa3 : inI (all.a0 * ah.a3) := by
                 have h0 : 0 ≤ all.a0 := by rw [HALL.out]; exact HNN.out
                 have h5 := HW5.out
                 have m := mul_in (a := all.a0) (A := 500000000) (b := ah.a3) (B := 10000000000) (by omega) hsb.2.2.2.1
                 unfold inI
                 omega
                have HWA2 := Lib.hid hwa2
                have HWA3 := Lib.hid hwa3
                clear hah hsb hwa2 hwa3
                try simp only [Act.put]
                go_upto_region 28 with (first
                 | ((with_reducible refine g_ld 3 ?_); refine wpList_ld rfl _ _ rfl _ rfl _ (HLA.out _ (Below.refl _ _) 2 ah.a2 rfl) ?_)
                 | ((with_reducible refine g_ld 3 ?_); refine wpList_ld rfl _ _ rfl _ rfl _ (HLA.out _ (Below.refl _ _) 4 ah.a4 rfl) ?_)
                 | (go_at_call 42; refine (HLF.out ah.a2 ah.a4 _ (Below.refl _ _) HWA2.out (by have := HSB.out; unfold inI; omega)).mono ?_; rintro e w12 ⟨rfl, hb12⟩)
                 | ((with_reducible refine g_st 37 ?_); refine wpList_stF (f := liftV all.a0 (kF S) ah.a2 ah.a4) rfl _ _ rfl rfl rfl (FB.new w12 zeroF) ?_; intro w13 hfb13 hgr13))
                have C12 : Hid (From w11 w12) := hb12
                have C1213 : Hid (From w12 w13) := ((Below.refl w12.heap.size w12).alloc (Nat.le_refl _) _).grown hgr13 (by simp) (by intro q hq; injection hq with hq; omega)
                have C13 : Hid (From w11 w13) := C12.out.trans (C1213.out.mono C12.out.size)
                have HU := Lib.hid hfb13
                have HFU : Hid ((liftV all.a0 (kF S) ah.a2 ah.a4).fits) := addL_fits _ _
                have HA0 : Hid (inI ah.a0) := by have := HSB.out; unfold Hid inI; omega
                clear hb12 hfb13 hgr13
                try simp only [Act.put]
                refine region_down (g15 := w8.heap.size) (g18 := w12.heap.size) (i0 := ah.a0) (fo := ofL ah.a0) (fu := liftV all.a0 (kF S) ah.a2 ah.a4) (r1 := subL (ofL ah.a0) (liftV all.a0 (kF S) ah.a2 ah.a4)) rfl (by kernel_rfl) (by kernel_rfl) (by kernel_rfl) rfl rfl (NewF w13.heap.size) NewF.stays
                 (fun w1 hb => HLA.out w1 (C13.out.trans (hb.mono C13.out.size)) 0 ah.a0 rfl) (fun w1 hb => frac_Of ah.a0 HA0.out.1 HA0.out.2 w1) (fun w1 hb => (HU.out.below hb HU.out.lt).ld) (fun w1 hb => frac_Sub _ _ (ofL_fits HA0.out) HFU.out w1) (fun w1 hb => st_sure _ _ w1) (fun w1 hb => NewF.new hb.size) ?_
                rintro u19 w14 hb14 ⟨g19, rfl, hg19, hf19⟩
                have C14 : Hid (From w11 w14) := C13.out.trans (hb14.mono C13.out.size)
                have hg19' : w11.heap.size ≤ g19 := Nat.le_trans C13.out.size hg19
                have HG19 := Lib.hid hg19'
                obtain ⟨fd, hfd⟩ : ∃ fd, fd = (subL (ofL ah.a0) (liftV all.a0 (kF S) ah.a2 ah.a4)).1 := ⟨_, rfl⟩
                have HFDV := Lib.hid hfd
                have HFDF : Hid fd.fits := by unfold Hid; rw [hfd]; exact subL_fits _ _
                have HF19 := Lib.hid hf19
                clear hb14 hg19 hg19' hf19 HU HFU
                simp only [List.drop_succ_cons, List.drop_zero]
                simp only [Act.put, List.setIfInBounds_toArray, List.set_cons_succ, List.set_cons_zero]
                rw [← hfd]
                clear hfd
                go_upto_region 29 with ((with_reducible refine g_st 37 ?_); refine wpList_stF (f := fd) rfl _ _ rfl rfl rfl HF19.out ?_; intro w15 hfb15 hgr15)
                have HD15 := Lib.hid hfb15
                have C15 : Hid (From w11 w15) := C14.out.grown hgr15 C14.out.size (by intro q hq; injection hq with hq; have := HG19.out; omega)
                clear hfb15 hgr15
                have HXB := HFJ.out.1
                have HOX : Hid (inI (2 * fj.x)) := by unfold Hid inI; omega
                have HWX : Hid (IntKind.i64.wrap (2 * fj.x) = 2 * fj.x) := wrap_i64 HOX.out.1 HOX.out.2
                clear HXB
                try simp only [Act.put]
                refine region_arm (g17 := wr.heap.size) (g19 := g19) (ix := fj.x) (dx := 2 * fj.x) (fd := fd) (fo := ofL (2 * fj.x)) (r1 := mulL fd (ofL (2 * fj.x))) HWX.out rfl (by kernel_rfl) (by kernel_rfl) (by kernel_rfl) rfl rfl (NewF w15.heap.size) NewF.stays
                 (fun w1 hb => (HD15.out.below hb HD15.out.lt).ld) (fun w1 hb => HLX.out w1 (C15.out.trans (hb.mono C15.out.size))) (fun w1 hb => frac_Of (2 * fj.x) HOX.out.1 HOX.out.2 w1) (fun w1 hb => frac_Mul _ _ HFDF.out (ofL_fits HOX.out) w1) (fun w1 hb => st_sure _ _ w1) (fun w1 hb => NewF.new hb.size) ?_
                rintro u20 w16 hb16 ⟨g20, rfl, hg20, hf20⟩
                have C16 : Hid (From w11 w16) := C15.out.trans (hb16.mono C15.out.size)
                have HD16 := Lib.hid (HD15.out.below hb16 HD15.out.lt)
                have HG20 : Hid (w11.heap.size ≤ g20) := Nat.le_trans C15.out.size hg20
                have HG1920 : Hid (g19 < g20) := Nat.lt_of_lt_of_le HD15.out.lt hg20
                have HF20 := Lib.hid hf20
                obtain ⟨fa, hfa⟩ : ∃ fa, fa = (mulL fd (ofL (2 * fj.x))).1 := ⟨_, rfl⟩
                have HFAV := Lib.hid hfa
                have HFAF : Hid fa.fits := by unfold Hid; rw [hfa]; exact mulL_fits _ _
                clear hb16 hg20 hf20 HD15
                simp only [List.drop_succ_cons, List.drop_zero]
                simp only [Act.put, List.setIfInBounds_toArray, List.set_cons_succ, List.set_cons_zero]
                rw [← hfa]
                clear hfa
                go_upto_region 30 with ((with_reducible refine g_st 37 ?_); refine wpList_stF (f := fa) rfl _ _ rfl rfl rfl HF20.out ?_; intro w17 hfb17 hgr17)
                have HA17 := Lib.hid hfb17
                have HD17 : Hid (FB w17 g19 fd) := HD16.out.keep (hgr17.block _ HD16.out.lt (by intro e; injection e with e; have := HG1920.out; omega))
                have C17 : Hid (From w11 w17) := C16.out.grown hgr17 C16.out.size (by intro q hq; injection hq with hq; have := HG20.out; omega)
                clear hfb17 hgr17 HD16
                have HI1 : Hid (inI ah.a1) := by have := HSB.out; unfold Hid inI; omega
                try simp only [Act.put]
                refine region_twice (g15 := w8.heap.size) (g20 := g20) (gw := wa.heap.size) (gk := w5.heap.size) (i1 := ah.a1) (i3 := ah.a3) (i5 := ah.a5) (fa := fa) (fl := liftV all.a0 (kF S) ah.a3 ah.a5) (fo := ofL ah.a1) (r1 := addL fa (liftV all.a0 (kF S) ah.a3 ah.a5)) (r2 := subL (addL fa (liftV all.a0 (kF S) ah.a3 ah.a5)).1 (ofL ah.a1)) rfl (by kernel_rfl) (by kernel_rfl) (by kernel_rfl) rfl rfl rfl (NewF w17.heap.size) NewF.stays
                 (fun w1 hb => (HA17.out.below hb HA17.out.lt).ld) (fun w1 hb => HLA.out w1 (C17.out.trans (hb.mono C17.out.size)) 3 ah.a3 rfl) (fun w1 hb => HLA.out w1 (C17.out.trans (hb.mono C17.out.size)) 5 ah.a5 rfl)
                 (fun w1 hb => HLF.out ah.a3 ah.a5 w1 (C17.out.trans (hb.mono C17.out.size)) HWA3.out (by have := HSB.out; unfold inI; omega)) (fun w1 hb => frac_Add _ _ HFAF.out (addL_fits _ _) w1) (fun w1 hb => st_sure _ _ w1)
                 (fun w1 hb => HLA.out w1 (C17.out.trans (hb.mono C17.out.size)) 1 ah.a1 rfl) (fun w1 hb => frac_Of ah.a1 HI1.out.1 HI1.out.2 w1) (fun w1 hb => frac_Sub _ _ (addL_fits _ _) (ofL_fits HI1.out) w1) (fun w1 hb => st_sure _ _ w1) (fun w1 hb => NewF.new hb.size) ?_
                rintro u21 w18 hb18 ⟨g21, rfl, hg21, hf21⟩
                have C18 : Hid (From w11 w18) := C17.out.trans (hb18.mono C17.out.size)
                have HD18 := Lib.hid (HD17.out.below hb18 HD17.out.lt)
                have HG21 : Hid (w11.heap.size ≤ g21) := Nat.le_trans C17.out.size hg21
                have HG1921 : Hid (g19 < g21) := Nat.lt_of_lt_of_le HD17.out.lt hg21
                have HF21 := Lib.hid hf21
                obtain ⟨ft, hft⟩ : ∃ ft, ft = (subL (addL fa (liftV all.a0 (kF S) ah.a3 ah.a5)).1 (ofL ah.a1)).1 := ⟨_, rfl⟩
                have HFTV := Lib.hid hft
                have HFTF : Hid ft.fits := by unfold Hid; rw [hft]; exact subL_fits _ _
                clear hb18 hg21 hf21 HD17 HA17
                simp only [List.drop_succ_cons, List.drop_zero]
                simp only [Act.put, List.setIfInBounds_toArray, List.set_cons_succ, List.set_cons_zero]
                rw [← hft]
                clear hft
                go_upto_region 31 with ((with_reducible refine g_st 37 ?_); refine wpList_stF (f := ft) rfl _ _ rfl rfl rfl HF21.out ?_; intro w19 hfb19 hgr19)
                have HT19 := Lib.hid hfb19
                have HD19 : Hid (FB w19 g19 fd) := HD18.out.keep (hgr19.block _ HD18.out.lt (by intro e; injection e with e; have := HG1921.out; omega))
                have C19 : Hid (From w11 w19) := C18.out.grown hgr19 C18.out.size (by intro q hq; injection hq with hq; have := HG21.out; omega)
                have HST : Hid (strF l S all.a0 (kF S) (jm + 1) = ⟨fd, (divL ft (ofL 2)).1⟩) := by unfold Hid strF twiceF armF downF; rw [← HAH.out, HFX.out, HFDV.out, HFTV.out, HFAV.out, HFDV.out]
                clear hfb19 hgr19 HD18
                try simp only [Act.put]
                refine region_out (g19 := g19) (g21 := g21) (fd := fd) (ft := ft) (fo := ofL 2) (r1 := divL ft (ofL 2)) rfl (by kernel_rfl) (by kernel_rfl) (by kernel_rfl) rfl rfl rfl (NewS w19.heap.size ⟨fd, (divL ft (ofL 2)).1⟩) NewS.stays
                 (fun w1 hb => (HD19.out.below hb HD19.out.lt).ld) (fun w1 hb => (HT19.out.below hb HT19.out.lt).ld) (fun w1 hb => frac_Of 2 (by omega) (by omega) w1) (fun w1 hb => frac_Div _ _ HFTF.out (ofL_fits ⟨by omega, by omega⟩) w1) (fun w1 hb => st_sure _ _ w1)
                 (fun a w1 h1 h2 => build_stress _ _ w1 h1 h2) (fun a w1 hb h1 => ⟨_, _, slice_stress _ w1 h1, (Below.refl _ _).alloc (Nat.le_refl _) _, NewS.new hb.size⟩) ?_
                rintro u22 w20 hb20 ⟨g22, rfl, hg22, hr22⟩
                have C20 : Hid (From w11 w20) := C19.out.trans (hb20.mono C19.out.size)
                have HOW20 := Lib.hid (HOW11.out.below C20.out (Nat.le_refl _))
                have HRM20 := Lib.hid (HRM.out.below C20.out HRM.out.lt)
                have HR22 := Lib.hid hr22.rd
                have HBS : Hid (w8.heap.size + 1 ≤ w20.heap.size) := Nat.le_trans HRM.out.lt C20.out.size
                clear hb20 hg22 hr22
                simp only [List.drop_succ_cons, List.drop_zero]
                simp only [Act.put, List.setIfInBounds_toArray, List.set_cons_succ, List.set_cons_zero]
                have HLN : Hid ((((List.range (jm + 1)).map (strF l S all.a0 (kF S))).map Str.cells).length = (jm + 1)) := by unfold Hid; simp
                have HN30 : Hid ((jm + 1) + 1 ≤ 30) := by have h1 := HL3.out; have h2 := HNM.out.1; unfold Hid; omega
                go_wp2_with (first
                 | (at_builtin; go_loud (refine wpList_append_n rfl _ _ rfl stress_ei (jm + 1) HLN.out.symm rfl HOW20.out rfl _ HR22.out rfl (by intro cs hc u hu; rw [List.mem_singleton] at hc; subst hc; exact Str.ones _ u hu) (by rw [HLN.out]; have := HN30.out; unfold maxLen; omega) (by rw [HLN.out]; have := HN30.out; omega) HBS.out ?_); intro A2 c2 wz how2 hgr2 hb2))
                have HOW2 := Lib.hid how2
                have HB2 := Lib.hid hb2
                clear how2 hgr2 hb2
                go_roundw
                case rel =>
                 refine ⟨(jm + 1) + 1, A2, c2, by omega, by go_num, rfl, ?_, ?_, ?_, ?_⟩
                 · have h1 := HOW2.out
                   rw [List.range_succ, List.map_append, List.map_append, List.map_singleton, List.map_singleton, HST.out]
                   exact h1
                 · have h1 := HRM20.out.below HB2.out (Nat.lt_succ_self _)
                   rw [HAH.out] at h1
                   exact h1
                 · exact (CM.out.trans (C20.out.mono CM.out.size)).trans ((HB2.out.mono (Nat.le_succ _)).mono (Nat.le_refl _))
                 · exact Nat.lt_of_lt_of_le HRM20.out.lt HB2.out.size
                case measure => simp [intOf]; omega
            · obtain rfl : j = n := by omega
              have hjnn : ¬ (j : Int) < (j : Int) := by omega
              have CZ : Hid (From w wr) := (C3.out.trans (HB.out.mono C3.out.size)).trans ((HB8.out.trans (HBQ.out.mono HB8.out.size)).mono (Nat.le_trans C3.out.size HB.out.size))
              go_wp2
              go_ret2
              rw [HV.out]
              have hcs : ((List.range j).map (strF l S all.a0 (kF S))) = curveS l S := by unfold curveS; rw [← HNM.out.1, HALL.out]
              have hcl : (curveS l S).length = j := by rw [← hcs]; simp
              refine ⟨Ao, co, by (show _ = Ending.returned (.tuple #[.slice Ao (curveS l S).length co, .int .i64 0])); rw [hcl]; rfl, ?_, CZ.out, by have h2 := HOW.out.cap.1; rw [hcs, List.length_map] at h2; exact h2, fun a ha => Nat.le_trans (Nat.le_trans (C3.out.trans (HB.out.mono C3.out.size)).size HB8.out.size) (Nat.le_trans (Nat.le_succ _) (HOW.out.lt ha).1)⟩
              have h1 := HOW.out.rd
              rw [hcs] at h1
              exact h1
end Go.Proofs.Ytcdfnlgimbecgaa
