/-
  twistlocklaw18: StrengthAdds, walked.
-/
import Derived.Test.YthlbcijlbgbooaaMg40
import Derived.Test.YthlbcijlbgbooaaMg42
import Derived.Test.YthlbcijlbgbooaaMg44
import Derived.Deep.Cut

namespace Go.Proofs.Ythlbcijlbgbooaa
open Go.RowKit

theorem str_fld {w : World} {B g o : Nat} {css : List (List Value)} (h : Rd w B 34 (some ⟨g, o, none⟩) css) {k : Nat} {s : Str} (hk : css[k]? = some s.cells) :
    ∀ w', Below B w w' → (loadVar 37 ⟨g, o + k * 34, none⟩).run Try.prog w' = .ok s.shear.val w' ∧ (loadVar 37 ⟨g, o + k * 34 + 17, none⟩).run Try.prog w' = .ok s.bend.val w' ∧ (loadVar 40 ⟨g, o + k * 34, none⟩).run Try.prog w' = .ok s.val w' := by
  intro w' hb
  obtain ⟨b, off, e, hlt, _, hc⟩ := h k s.cells hk
  simp only [Option.some.injEq, Addr.mk.injEq, and_true] at e
  obtain ⟨rfl, rfl⟩ := e
  have hq : ∀ j u, s.cells[j]? = some u → w'.cell? ⟨g, o + k * 34 + j, none⟩ = some u := fun j u hu => (hb.cell (p := ⟨g, _, none⟩) (by simpa using hlt)).trans (hc j u hu)
  refine ⟨run_load_cells (cs := s.shear.cells) frac_row s.shear.cells_len fun j x hx => ?_, run_load_cells (cs := s.bend.cells) frac_row s.bend.cells_len fun j x hx => ?_, run_load_cells (cs := s.cells) str_row s.cells_len fun j x hx => ?_⟩
  · rw [Addr.add_lit]
    refine hq j x ?_
    unfold Str.cells
    rw [List.getElem?_append_left (List.getElem?_eq_some_iff.1 hx).1]
    exact hx
  · rw [Addr.add_lit, Nat.add_assoc]
    refine hq (17 + j) x ?_
    unfold Str.cells
    rw [List.getElem?_append_right (by rw [s.shear.cells_len]; omega), s.shear.cells_len, show 17 + j - 17 = j by omega]
    exact hx
  · rw [Addr.add_lit]
    exact hq j x hx
theorem curveS_get (F : List Frm) (S : List Sec) {k : Nat} (hk : k < F.length) : ((curveS F S).map Str.cells)[k]? = some (strF F S (addAll S).a0 (kF S) k).cells := by
  unfold curveS
  rw [List.map_map, List.getElem?_map, List.getElem?_range hk]
  rfl
theorem curveS_some {w : World} {B : Nat} {A : Option Addr} {F : List Frm} {S : List Sec} (h : Rd w B 34 A ((curveS F S).map Str.cells)) (hF : 0 < F.length) : ∃ g o, A = some ⟨g, o, none⟩ := by
  obtain ⟨g, o, e, _⟩ := h 0 _ (curveS_get F S hF)
  exact ⟨g, o, e⟩
theorem rev_take {L : List Wt} {q k i : Nat} (hq : q = L.length) (hk : k < q) (hi : i + 1 + k = q) (hil : i < L.length) : L.reverse.take (k + 1) = L.reverse.take k ++ [L[i]] := by
  rw [List.take_succ_eq_append_getElem (by simp; omega), List.getElem_reverse]
  congr 3
  omega
/-- the weights from one on -/
theorem Rd.dropN {w : World} {B size g off : Nat} {css : List (List Value)} (h : Rd w B size (some ⟨g, off, none⟩) css) (n : Nat) : Rd w B size (some ⟨g, off + n * size, none⟩) (css.drop n) := by
  intro k cs hk
  rw [List.getElem?_drop] at hk
  obtain ⟨b, o, e, hlt, hl, hc⟩ := h (n + k) cs hk
  simp only [Option.some.injEq, Addr.mk.injEq, and_true] at e
  obtain ⟨rfl, rfl⟩ := e
  refine ⟨g, off + n * size, rfl, hlt, hl, fun j u hu => ?_⟩
  have h1 := hc j u hu
  have e2 : off + (n + k) * size + j = off + n * size + k * size + j := by rw [Nat.add_mul]; omega
  rw [e2] at h1
  exact h1

set_option maxRecDepth 100000 in
set_option maxHeartbeats 8000000 in
theorem law_Adds (A : Option Addr) (c n : Nat) (l : List Sml) (cut : Int) (hn : n = l.length) (hok : ∀ x ∈ l, x.ok) (hnc : n ≤ c) (hcu : 0 ≤ cut ∧ cut ≤ 255) (w : World) (h : Rd w w.heap.size 5 A (l.map Sml.cells)) (hl : l.length ≤ 20000000000000) :
    Calls Try.prog 6 #[.slice A n c, .int .u8 cut] w fun e w' => e = .returned (.bool true) ∧ Below w.heap.size w w' := by
  have HMA := Lib.hid (fun (w1 : World) (hb : From w w1) => law_Made A c n l hn hok hnc w1 ((h.below hb (Nat.le_refl _)).more hb.size) hl)
  obtain ⟨t, r0, M, _⟩ := madeF_is hok
  have hwt := made_wts hok
  have hL8 := madeL_len l
  obtain ⟨F, hF⟩ : ∃ F, F = madeF l := ⟨_, rfl⟩
  obtain ⟨L, hL⟩ : ∃ L, L = madeL l := ⟨_, rfl⟩
  obtain ⟨xl, hxl⟩ : ∃ xl, xl = madeW l - 20000 := ⟨_, rfl⟩
  rw [← hF, ← hxl] at M
  rw [← hL] at hL8
  rw [← hL, ← hxl] at hwt
  obtain ⟨m, hm⟩ : ∃ m, m = F.length := ⟨_, rfl⟩
  obtain ⟨q, hq⟩ : ∃ q, q = L.length := ⟨_, rfl⟩
  obtain ⟨q1, hq1⟩ : ∃ q1, q1 = q + 1 := ⟨_, rfl⟩
  have hlen : F.length = t.length + 3 := by rw [M.eq]; simp
  have hm3 : 3 ≤ m ∧ m ≤ 10 := by have := M.len; omega
  have hMP : ∀ w1, MadePost w1 l = fun e w' => ∃ g c D d, e = .returned (.tuple #[.slice (some ⟨g, 0, none⟩) m c, .slice D q d]) ∧ OwnS w' w1.heap.size 44 5 (some ⟨g, 0, none⟩) c (F.map Frm.cells) ∧
    OwnS w' w1.heap.size 46 2 D d (L.map Wt.cells) ∧ (∀ a, D = some a → a.block ≠ g) ∧ Below w1.heap.size w1 w' := by
    intro w1
    unfold MadePost
    rw [hm, hq, hF, hL]
  have HMP := Lib.hid hMP
  have HM := Lib.hid M
  have HWT := Lib.hid hwt
  obtain ⟨pa, hpa⟩ : ∃ pa : Nat, cut.tmod (q1 : Int) = (pa : Int) := ⟨(cut.tmod (q1 : Int)).toNat, by have := tmod_lt (a := cut) (b := (q1 : Int)) hcu.1 (by omega); omega⟩
  have hpaq : pa ≤ q := by have := tmod_lt (a := cut) (b := (q1 : Int)) hcu.1 (by omega); omega
  have HLN := Lib.hid (And.intro hm (And.intro hq (And.intro hq1 (And.intro hm3 (And.intro hL8 hpaq)))))
  have wC : IntKind.i64.wrap cut = cut := wrap_i64 (by omega) (by omega)
  have wQ : IntKind.i64.wrap ((q : Int) + 1) = (q1 : Int) := by rw [wrap_i64 (by omega) (by omega)]; omega
  have wQm : IntKind.i64.wrap ((q : Int) - 1) = (q : Int) - 1 := wrap_i64 (by omega) (by omega)
  have hq10 : ¬ (q1 : Int) = 0 := by omega
  have hc1 : curveF F L = (curveS F (secL F L), 0) := (sec_ok M L hwt (by omega)).2.2
  have hc2 : curveF F L.reverse = (curveS F (secL F L), 0) := by rw [(sec_ok M L.reverse (fun u hu => hwt u (List.mem_reverse.1 hu)) (by simp; omega)).2.2, secL_reverse]
  have hc3 : curveF F [] = (curveS F (secL F []), 0) := (sec_ok M [] (fun u hu => by cases hu) (by simp)).2.2
  have hc4 : curveF F (L.take pa) = (curveS F (secL F (L.take pa)), 0) := (sec_ok M (L.take pa) (fun u hu => hwt u (List.mem_of_mem_take hu)) (by simp; omega)).2.2
  have hc5 : curveF F (L.drop pa) = (curveS F (secL F (L.drop pa)), 0) := (sec_ok M (L.drop pa) (fun u hu => hwt u (List.mem_of_mem_drop hu)) (by simp; omega)).2.2
  have HC1 := Lib.hid hc1
  have HC2 := Lib.hid hc2
  have HC3 := Lib.hid hc3
  have HC4 := Lib.hid hc4
  have HC5 := Lib.hid hc5
  clear hMP hn hok hl M hwt hF hL hxl hL8 hlen hm hq hq1 hm3 h hc1 hc2 hc3 hc4 hc5
  go_enter Try.func6, Try.ntmps6
  go_wp2_with (first
    | (go_at_call 12; refine (law_awake _).mono ?_; rintro e w1 ⟨rfl, hb1⟩; have C1 : Hid (From w w1) := hb1; clear hb1)
    | (go_at_call 14; refine (HMA.out _ C1.out).mono ?_; rw [HMP.out]; rintro e w2 ⟨g, cf, D, d, rfl, hf2, hl2, hap2, hb2⟩; have HST2 : Hid (LawSt w w2 w1.heap.size g cf D d F L) := ⟨hf2, hl2, hap2, C1.out.trans (hb2.mono C1.out.size), hb2.size, C1.out.size⟩; clear hf2 hl2 hap2 hb2 HMA HMP))
  have HOW0 : Hid (OwnS w2 w2.heap.size 46 2 none 0 ((L.reverse.take 0).map Wt.cells)) := OwnS.nil _ _ _ _
  go_loopw [8, 9] (fun bv jv wq => ∃ (k : Nat) (z : Int) (Ao : Option Addr) (co : Nat), k ≤ q ∧ z = (q : Int) - 1 - k ∧ jv = .int .i64 z ∧ bv = .slice Ao k co ∧ OwnS wq w2.heap.size 46 2 Ao co ((L.reverse.take k).map Wt.cells) ∧ From w2 wq) (fun _ jv _ => (intOf jv + 1).toNat)
  case atStart => exact ⟨0, (q : Int) - 1, none, 0, Nat.zero_le _, by omega, rfl, rfl, HOW0.out, Below.refl _ _⟩
  case round =>
    clear HOW0
    obtain ⟨k, z, Ao, co, hk, hz, rfl, rfl, how, hb⟩ := hrel
    have HOW := Lib.hid how
    have HB := Lib.hid hb
    clear how hb
    by_cases hkq : k < q
    · obtain ⟨i, hi⟩ : ∃ i : Nat, z = (i : Int) := ⟨z.toNat, by omega⟩
      subst hi
      have hik : i + 1 + k = q := by omega
      have hil : i < L.length := by have := HLN.out; omega
      have hi0 : (0 : Int) ≤ (i : Int) := by omega
      have hiq : (i : Int) < (q : Int) := by omega
      have wI : IntKind.i64.wrap ((i : Int) - 1) = (i : Int) - 1 := by have := HLN.out; exact wrap_i64 (by omega) (by omega)
      obtain ⟨gd, od, rfl, hgd, hld⟩ := Wt.ld HST2.out.wt.rd (k := i) (b := L[i]) (by simp [hil])
      obtain ⟨u, hu⟩ : ∃ u, u = L[i] := ⟨_, rfl⟩
      have hrt := rev_take HLN.out.2.1 hkq hik hil
      rw [← hu] at hld hrt
      have HLD := Lib.hid (hld wr HB.out)
      have HRT := Lib.hid hrt
      have HLK : Hid (((L.reverse.take k).map Wt.cells).length = k) := by unfold Hid; simp; have := HLN.out; omega
      have HIK := Lib.hid (And.intro hik hz)
      have hk8 : k ≤ 8 := by have := HLN.out; omega
      clear hld hgd hu hrt hik hil hz
      go_wp2_with (first
        | ((with_reducible refine g_ld 46 ?_); refine wpList_ld rfl _ _ rfl _ rfl _ HLD.out ?_)
        | (at_builtin; go_loud (refine wpList_append_n rfl _ _ rfl Wt.ei k HLK.out.symm rfl (HOW.out.alloc _) rfl _ (Rd.new2 wr 46 2 u.cells rfl) rfl (by intro cs hc v hv; rw [List.mem_singleton] at hc; subst hc; exact Wt.one u v hv) (by rw [HLK.out]; unfold maxLen; omega) (by rw [HLK.out]; omega) (by have := HB.out.size; simp; omega) ?_); intro A5 c5 w5 how5 hg5 hb5))
      have HOW5 := Lib.hid how5
      have C5 : Hid (From w2 w5) := (HB.out.alloc HB.out.size _).trans hb5
      clear how5 hg5 hb5
      go_roundw
      case rel =>
        refine ⟨k + 1, (i : Int) - 1, A5, c5, by omega, by have := HIK.out; omega, rfl, rfl, ?_, C5.out⟩
        have h1 := HOW5.out
        rw [HRT.out, List.map_append]
        exact h1
      case measure => simp [intOf]
    · obtain rfl : k = q := by omega
      have hz1 : z = -1 := by omega
      subst hz1
      have hrv : L.reverse.take k = L.reverse := List.take_of_length_le (by rw [List.length_reverse]; have := HLN.out; omega)
      rw [hrv] at HOW
      have HST3 := Lib.hid (HST2.out.step HB.out)
      have hdc : k ≤ d := by have h1 := HST2.out.wt.cap.1; rw [List.length_map] at h1; have := HLN.out; omega
      have hpk : pa ≤ k := HLN.out.2.2.2.2.2
      have hpad : (pa : Int) ≤ (d : Int) := by omega
      have hpak : (pa : Int) ≤ (k : Int) := by omega
      have hkd : (k : Int) ≤ (d : Int) := by omega
      have hpa0 : (0 : Int) ≤ (pa : Int) := by omega
      have HPK := Lib.hid (And.intro hpk hdc)
      clear hrv hz hkq hdc hpk
      by_cases hdp : d = pa
      · have hkp : k - pa = 0 := by omega
        have HD5 : Hid (Rd w2 w2.heap.size 2 D ((L.drop pa).map Wt.cells)) := by
          have e : L.drop pa = [] := List.drop_eq_nil_of_le (by have := HLN.out; omega)
          unfold Hid
          rw [e]
          exact Rd.nil _ _ _ _
        subst hdp
        have HC00 : Hid (From wr wr) := Below.refl _ _
        go_wp2_with (first
            | (go_at_call 15; refine (curve_good HC1.out (some ⟨g, 0, none⟩) D cf _ m _ HLN.out.1 (by have := HLN.out; have := HPK.out; first | omega | (simp; done) | (simp; omega)) wr HST3.out.fr.rd (HST3.out.wt.rd) (by have := HLN.out; omega) (by have := HLN.out; first | omega | (simp; done) | (simp; omega))).mono ?_; rintro e x1 ⟨A1, c1, rfl, hr9, hb9, _, _⟩; have Hx1 := Lib.hid (HST3.out.step hb9); have Cx1 : Hid (From wr x1) := HC00.out.trans (hb9.mono HC00.out.size); have R1 := Lib.hid hr9; have Dx1 : Hid (From wr x1) := hb9; clear hr9 hb9 HC1)
            | (go_at_call 15; refine (curve_good HC2.out (some ⟨g, 0, none⟩) Ao cf _ m _ HLN.out.1 (by have := HLN.out; have := HPK.out; first | omega | (simp; done) | (simp; omega)) x1 Hx1.out.fr.rd ((HOW.out.rd.below Cx1.out (Nat.le_refl _)).more Cx1.out.size) (by have := HLN.out; omega) (by have := HLN.out; first | omega | (simp; done) | (simp; omega))).mono ?_; rintro e x2 ⟨A4, c4, rfl, hr9, hb9, _, _⟩; have Hx2 := Lib.hid (Hx1.out.step hb9); have Cx2 : Hid (From wr x2) := Cx1.out.trans (hb9.mono Cx1.out.size); have R4 := Lib.hid hr9; have Dx2 : Hid (From x1 x2) := hb9; clear hr9 hb9 HC2)
            | (go_at_call 15; refine (curve_good HC3.out (some ⟨g, 0, none⟩) none cf _ m _ HLN.out.1 (by have := HLN.out; have := HPK.out; first | omega | (simp; done) | (simp; omega)) x2 Hx2.out.fr.rd (Rd.nil _ _ _ _) (by have := HLN.out; omega) (by have := HLN.out; first | omega | (simp; done) | (simp; omega))).mono ?_; rintro e x3 ⟨A0, c0, rfl, hr9, hb9, _, _⟩; have Hx3 := Lib.hid (Hx2.out.step hb9); have Cx3 : Hid (From wr x3) := Cx2.out.trans (hb9.mono Cx2.out.size); have R0 := Lib.hid hr9; have Dx3 : Hid (From x2 x3) := hb9; clear hr9 hb9 HC3)
            | (go_at_call 15; refine (curve_good HC4.out (some ⟨g, 0, none⟩) D cf _ m _ HLN.out.1 (by have := HLN.out; have := HPK.out; first | omega | (simp; done) | (simp; omega)) x3 Hx3.out.fr.rd (by rw [List.map_take]; exact Hx3.out.wt.rd.take d) (by have := HLN.out; omega) (by have := HLN.out; first | omega | (simp; done) | (simp; omega))).mono ?_; rintro e x4 ⟨A2, c2, rfl, hr9, hb9, _, _⟩; have Hx4 := Lib.hid (Hx3.out.step hb9); have Cx4 : Hid (From wr x4) := Cx3.out.trans (hb9.mono Cx3.out.size); have R2 := Lib.hid hr9; have Dx4 : Hid (From x3 x4) := hb9; clear hr9 hb9 HC4)
            | (go_at_call 15; refine (curve_good HC5.out (some ⟨g, 0, none⟩) D cf _ m _ HLN.out.1 (by have := HLN.out; have := HPK.out; first | omega | (simp; done) | (simp; omega)) x4 Hx4.out.fr.rd ((HD5.out.below (HB.out.trans (Cx4.out.mono HB.out.size)) (Nat.le_refl _)).more (HB.out.trans (Cx4.out.mono HB.out.size)).size) (by have := HLN.out; omega) (by have := HLN.out; first | omega | (simp; done) | (simp; omega))).mono ?_; rintro e x5 ⟨A3, c3, rfl, hr9, hb9, _, _⟩; have Hx5 := Lib.hid (Hx4.out.step hb9); have Cx5 : Hid (From wr x5) := Cx4.out.trans (hb9.mono Cx4.out.size); have R3 := Lib.hid hr9; have Dx5 : Hid (From x4 x5) := hb9; clear hr9 hb9 HC5)
          )
        have hF0 : 0 < F.length := by have := HLN.out; omega
        obtain ⟨g1, o1, rfl⟩ := curveS_some R1.out hF0
        obtain ⟨g4, o4, rfl⟩ := curveS_some R4.out hF0
        obtain ⟨g0, o0, rfl⟩ := curveS_some R0.out hF0
        obtain ⟨g2, o2, rfl⟩ := curveS_some R2.out hF0
        obtain ⟨g3, o3, rfl⟩ := curveS_some R3.out hF0
        have E2 : Hid (From x4 x5) := Dx5.out
        have E0 : Hid (From x3 x5) := Dx4.out.trans (E2.out.mono Dx4.out.size)
        have E4 : Hid (From x2 x5) := Dx3.out.trans (E0.out.mono Dx3.out.size)
        have E1 : Hid (From x1 x5) := Dx2.out.trans (E4.out.mono Dx2.out.size)
        clear hF0 HC00 Cx1 Cx2 Cx3 Cx4 Cx5 Dx1 Dx2 Dx3 Dx4 Dx5 HOW HST3 Hx1 Hx2 Hx3 Hx4 HD5 HB
        go_loopw [95] (fun jv wq => ∃ j : Nat, j ≤ m ∧ jv = .int .i64 j ∧ From x5 wq) (fun jv _ => m - (intOf jv).toNat)
        case atStart => exact ⟨0, Nat.zero_le _, rfl, Below.refl _ _⟩
        case round =>
          obtain ⟨j, hj, rfl, hbj⟩ := hrel
          have HBJ := Lib.hid hbj
          clear hbj
          by_cases hjm : j < m
          · have hjF : j < F.length := by have := HLN.out; omega
            have hjmi : (j : Int) < (m : Int) := by omega
            have hm10 : m ≤ 10 := by have := HLN.out; omega
            obtain ⟨s1, hs1⟩ : ∃ s, s = strF F (secL F L) (addAll (secL F L)).a0 (kF (secL F L)) j := ⟨_, rfl⟩
            obtain ⟨s0, hs0⟩ : ∃ s, s = strF F (secL F []) (addAll (secL F [])).a0 (kF (secL F [])) j := ⟨_, rfl⟩
            obtain ⟨s2, hs2⟩ : ∃ s, s = strF F (secL F (L.take d)) (addAll (secL F (L.take d))).a0 (kF (secL F (L.take d))) j := ⟨_, rfl⟩
            obtain ⟨s3, hs3⟩ : ∃ s, s = strF F (secL F (L.drop d)) (addAll (secL F (L.drop d))).a0 (kF (secL F (L.drop d))) j := ⟨_, rfl⟩
            have HV1 := Lib.hid (fun w1 (hb : From wr w1) => str_fld R1.out (s := s1) (by rw [hs1]; exact curveS_get F _ hjF) w1 (E1.out.trans ((HBJ.out.trans (hb.mono HBJ.out.size)).mono E1.out.size)))
            have HV4 := Lib.hid (fun w1 (hb : From wr w1) => str_fld R4.out (s := s1) (by rw [hs1]; exact curveS_get F _ hjF) w1 (E4.out.trans ((HBJ.out.trans (hb.mono HBJ.out.size)).mono E4.out.size)))
            have HV0 := Lib.hid (fun w1 (hb : From wr w1) => str_fld R0.out (s := s0) (by rw [hs0]; exact curveS_get F _ hjF) w1 (E0.out.trans ((HBJ.out.trans (hb.mono HBJ.out.size)).mono E0.out.size)))
            have HV2 := Lib.hid (fun w1 (hb : From wr w1) => str_fld R2.out (s := s2) (by rw [hs2]; exact curveS_get F _ hjF) w1 (E2.out.trans ((HBJ.out.trans (hb.mono HBJ.out.size)).mono E2.out.size)))
            have HV3 := Lib.hid (fun w1 (hb : From wr w1) => str_fld R3.out (s := s3) (by rw [hs3]; exact curveS_get F _ hjF) w1 (HBJ.out.trans (hb.mono HBJ.out.size)))
            have HFI : Hid (s1.fits ∧ s0.fits ∧ s2.fits ∧ s3.fits) := by rw [hs1, hs0, hs2, hs3]; exact ⟨str_fits _ _ _ _ _, str_fits _ _ _ _ _, str_fits _ _ _ _ _, str_fits _ _ _ _ _⟩
            have HLAW := Lib.hid (adds_law HM.out (L.take d) (L.drop d) (fun u hu => HWT.out u (List.mem_of_mem_take hu)) (fun u hu => HWT.out u (List.mem_of_mem_drop hu)) (by simp; have := HLN.out; omega) j (s1 := s1) (by rw [List.take_append_drop]; exact hs1) hs0 hs2 hs3)
            have HCR : Hid (From wr wr) := Below.refl _ _
            clear hs1 hs0 hs2 hs3 hjF
            go_upto_region 20 with fail
            try simp only [Act.put]
            refine region_addsA (n := m) (kk := j) (g1 := g1) (o1 := o1) (c1 := c1) (g0 := g0) (o0 := o0) (c0 := c0) (g2 := g2) (o2 := o2) (c2 := c2) (g3 := g3) (o3 := o3) (c3 := c3) (f1 := s1.shear) (f0 := s0.shear) (f2 := s2.shear) (f3 := s3.shear) (r1 := addL s1.shear s0.shear) (r2 := addL s2.shear s3.shear) hjmi rfl (by kernel_rfl) (by kernel_rfl) (by kernel_rfl) rfl rfl rfl rfl rfl
              (fun w1 hb => (HV1.out w1 (HCR.out.trans (hb.mono HCR.out.size))).1) (fun w1 hb => (HV0.out w1 (HCR.out.trans (hb.mono HCR.out.size))).1) (fun w1 hb => frac_Add _ _ HFI.out.1.1 HFI.out.2.1.1 w1) (fun w1 hb => law_sure _ _ w1)
              (fun w1 hb => (HV2.out w1 (HCR.out.trans (hb.mono HCR.out.size))).1) (fun w1 hb => (HV3.out w1 (HCR.out.trans (hb.mono HCR.out.size))).1) (fun w1 hb => frac_Add _ _ HFI.out.2.2.1.1 HFI.out.2.2.2.1 w1) (fun w1 hb => law_sure _ _ w1)
              (fun a w1 h1 h2 => op_fr_eql (addL s1.shear s0.shear).1 (addL_fits _ _) w1 h1 (by rw [HLAW.out.1]; exact h2)) ?_
            intro w10 hb10
            have C10 : Hid (From wr w10) := hb10
            clear hb10
            simp only [List.drop_succ_cons, List.drop_zero]
            simp only [Act.put, List.setIfInBounds_toArray, List.set_cons_succ, List.set_cons_zero]
            go_upto_region 21 with fail
            try simp only [Act.put]
            refine region_addsB (n := m) (kk := j) (g1 := g1) (o1 := o1) (c1 := c1) (g0 := g0) (o0 := o0) (c0 := c0) (g2 := g2) (o2 := o2) (c2 := c2) (g3 := g3) (o3 := o3) (c3 := c3) (f1 := s1.bend) (f0 := s0.bend) (f2 := s2.bend) (f3 := s3.bend) (r1 := addL s1.bend s0.bend) (r2 := addL s2.bend s3.bend) hjmi rfl (by kernel_rfl) (by kernel_rfl) (by kernel_rfl) rfl rfl rfl rfl rfl
              (fun w1 hb => (HV1.out w1 (C10.out.trans (hb.mono C10.out.size))).2.1) (fun w1 hb => (HV0.out w1 (C10.out.trans (hb.mono C10.out.size))).2.1) (fun w1 hb => frac_Add _ _ HFI.out.1.2 HFI.out.2.1.2 w1) (fun w1 hb => law_sure _ _ w1)
              (fun w1 hb => (HV2.out w1 (C10.out.trans (hb.mono C10.out.size))).2.1) (fun w1 hb => (HV3.out w1 (C10.out.trans (hb.mono C10.out.size))).2.1) (fun w1 hb => frac_Add _ _ HFI.out.2.2.1.2 HFI.out.2.2.2.2 w1) (fun w1 hb => law_sure _ _ w1)
              (fun a w1 h1 h2 => op_fr_eql (addL s1.bend s0.bend).1 (addL_fits _ _) w1 h1 (by rw [HLAW.out.2]; exact h2)) ?_
            intro w11 hb11
            have C11 : Hid (From wr w11) := C10.out.trans (hb11.mono C10.out.size)
            clear hb11
            simp only [List.drop_succ_cons, List.drop_zero]
            simp only [Act.put, List.setIfInBounds_toArray, List.set_cons_succ, List.set_cons_zero]
            go_upto_region 22 with fail
            try simp only [Act.put]
            refine region_addsC (n := m) (kk := j) (g1 := g1) (o1 := o1) (c1 := c1) (g4 := g4) (o4 := o4) (c4 := c4) (s1 := s1) (s4 := s1) hjmi rfl (by kernel_rfl) (by kernel_rfl) (by kernel_rfl) rfl rfl rfl rfl rfl
              (fun w1 hb => (HV1.out w1 (C11.out.trans (hb.mono C11.out.size))).2.2) (fun w1 hb => (HV4.out w1 (C11.out.trans (hb.mono C11.out.size))).2.2) (fun a w1 h1 h2 => op_str_neq s1 w1 h1 h2) ?_
            intro w12 hb12
            have C12 : Hid (From wr w12) := C11.out.trans (hb12.mono C11.out.size)
            clear hb12
            simp only [List.drop_succ_cons, List.drop_zero]
            simp only [Act.put, List.setIfInBounds_toArray, List.set_cons_succ, List.set_cons_zero]
            go_wp2
            go_roundw
            case rel => exact ⟨j + 1, by omega, by go_num, HBJ.out.trans (C12.out.mono HBJ.out.size)⟩
            case measure => simp [intOf]; omega
          · obtain rfl : j = m := by omega
            have hjj : ¬ (j : Int) < (j : Int) := by omega
            go_wp2
            go_ret
            exact ⟨rfl, Hx5.out.from_.trans (HBJ.out.mono Hx5.out.from_.size)⟩
      · obtain ⟨gd, rfl⟩ : ∃ gd, D = some ⟨gd, 0, none⟩ := by
          rcases HST2.out.wt.block with ⟨_, h2, _⟩ | ⟨gd, _, h2, _⟩
          · have := HPK.out
            omega
          · exact ⟨gd, h2⟩
        have HD5 : Hid (Rd w2 w2.heap.size 2 (some ⟨gd, pa * 2, none⟩) ((L.drop pa).map Wt.cells)) := by
          have h1 := HST2.out.wt.rd.dropN pa
          rw [Nat.zero_add] at h1
          unfold Hid
          rw [List.map_drop]
          exact h1
        have HC00 : Hid (From wr wr) := Below.refl _ _
        go_wp2_with (first
            | (go_at_call 15; refine (curve_good HC1.out (some ⟨g, 0, none⟩) (some ⟨gd, 0, none⟩) cf _ m _ HLN.out.1 (by have := HLN.out; have := HPK.out; first | omega | (simp; done) | (simp; omega)) wr HST3.out.fr.rd (HST3.out.wt.rd) (by have := HLN.out; omega) (by have := HLN.out; first | omega | (simp; done) | (simp; omega))).mono ?_; rintro e x1 ⟨A1, c1, rfl, hr9, hb9, _, _⟩; have Hx1 := Lib.hid (HST3.out.step hb9); have Cx1 : Hid (From wr x1) := HC00.out.trans (hb9.mono HC00.out.size); have R1 := Lib.hid hr9; have Dx1 : Hid (From wr x1) := hb9; clear hr9 hb9 HC1)
            | (go_at_call 15; refine (curve_good HC2.out (some ⟨g, 0, none⟩) Ao cf _ m _ HLN.out.1 (by have := HLN.out; have := HPK.out; first | omega | (simp; done) | (simp; omega)) x1 Hx1.out.fr.rd ((HOW.out.rd.below Cx1.out (Nat.le_refl _)).more Cx1.out.size) (by have := HLN.out; omega) (by have := HLN.out; first | omega | (simp; done) | (simp; omega))).mono ?_; rintro e x2 ⟨A4, c4, rfl, hr9, hb9, _, _⟩; have Hx2 := Lib.hid (Hx1.out.step hb9); have Cx2 : Hid (From wr x2) := Cx1.out.trans (hb9.mono Cx1.out.size); have R4 := Lib.hid hr9; have Dx2 : Hid (From x1 x2) := hb9; clear hr9 hb9 HC2)
            | (go_at_call 15; refine (curve_good HC3.out (some ⟨g, 0, none⟩) none cf _ m _ HLN.out.1 (by have := HLN.out; have := HPK.out; first | omega | (simp; done) | (simp; omega)) x2 Hx2.out.fr.rd (Rd.nil _ _ _ _) (by have := HLN.out; omega) (by have := HLN.out; first | omega | (simp; done) | (simp; omega))).mono ?_; rintro e x3 ⟨A0, c0, rfl, hr9, hb9, _, _⟩; have Hx3 := Lib.hid (Hx2.out.step hb9); have Cx3 : Hid (From wr x3) := Cx2.out.trans (hb9.mono Cx2.out.size); have R0 := Lib.hid hr9; have Dx3 : Hid (From x2 x3) := hb9; clear hr9 hb9 HC3)
            | (go_at_call 15; refine (curve_good HC4.out (some ⟨g, 0, none⟩) (some ⟨gd, 0, none⟩) cf _ m _ HLN.out.1 (by have := HLN.out; have := HPK.out; first | omega | (simp; done) | (simp; omega)) x3 Hx3.out.fr.rd (by rw [List.map_take]; exact Hx3.out.wt.rd.take pa) (by have := HLN.out; omega) (by have := HLN.out; first | omega | (simp; done) | (simp; omega))).mono ?_; rintro e x4 ⟨A2, c2, rfl, hr9, hb9, _, _⟩; have Hx4 := Lib.hid (Hx3.out.step hb9); have Cx4 : Hid (From wr x4) := Cx3.out.trans (hb9.mono Cx3.out.size); have R2 := Lib.hid hr9; have Dx4 : Hid (From x3 x4) := hb9; clear hr9 hb9 HC4)
            | (go_at_call 15; refine (curve_good HC5.out (some ⟨g, 0, none⟩) (some ⟨gd, pa * 2, none⟩) cf _ m _ HLN.out.1 (by have := HLN.out; have := HPK.out; first | omega | (simp; done) | (simp; omega)) x4 Hx4.out.fr.rd ((HD5.out.below (HB.out.trans (Cx4.out.mono HB.out.size)) (Nat.le_refl _)).more (HB.out.trans (Cx4.out.mono HB.out.size)).size) (by have := HLN.out; omega) (by have := HLN.out; first | omega | (simp; done) | (simp; omega))).mono ?_; rintro e x5 ⟨A3, c3, rfl, hr9, hb9, _, _⟩; have Hx5 := Lib.hid (Hx4.out.step hb9); have Cx5 : Hid (From wr x5) := Cx4.out.trans (hb9.mono Cx4.out.size); have R3 := Lib.hid hr9; have Dx5 : Hid (From x4 x5) := hb9; clear hr9 hb9 HC5)
          )
        have hF0 : 0 < F.length := by have := HLN.out; omega
        obtain ⟨g1, o1, rfl⟩ := curveS_some R1.out hF0
        obtain ⟨g4, o4, rfl⟩ := curveS_some R4.out hF0
        obtain ⟨g0, o0, rfl⟩ := curveS_some R0.out hF0
        obtain ⟨g2, o2, rfl⟩ := curveS_some R2.out hF0
        obtain ⟨g3, o3, rfl⟩ := curveS_some R3.out hF0
        have E2 : Hid (From x4 x5) := Dx5.out
        have E0 : Hid (From x3 x5) := Dx4.out.trans (E2.out.mono Dx4.out.size)
        have E4 : Hid (From x2 x5) := Dx3.out.trans (E0.out.mono Dx3.out.size)
        have E1 : Hid (From x1 x5) := Dx2.out.trans (E4.out.mono Dx2.out.size)
        clear hF0 HC00 Cx1 Cx2 Cx3 Cx4 Cx5 Dx1 Dx2 Dx3 Dx4 Dx5 HOW HST3 Hx1 Hx2 Hx3 Hx4 HD5 HB
        go_loopw [95] (fun jv wq => ∃ j : Nat, j ≤ m ∧ jv = .int .i64 j ∧ From x5 wq) (fun jv _ => m - (intOf jv).toNat)
        case atStart => exact ⟨0, Nat.zero_le _, rfl, Below.refl _ _⟩
        case round =>
          obtain ⟨j, hj, rfl, hbj⟩ := hrel
          have HBJ := Lib.hid hbj
          clear hbj
          by_cases hjm : j < m
          · have hjF : j < F.length := by have := HLN.out; omega
            have hjmi : (j : Int) < (m : Int) := by omega
            have hm10 : m ≤ 10 := by have := HLN.out; omega
            obtain ⟨s1, hs1⟩ : ∃ s, s = strF F (secL F L) (addAll (secL F L)).a0 (kF (secL F L)) j := ⟨_, rfl⟩
            obtain ⟨s0, hs0⟩ : ∃ s, s = strF F (secL F []) (addAll (secL F [])).a0 (kF (secL F [])) j := ⟨_, rfl⟩
            obtain ⟨s2, hs2⟩ : ∃ s, s = strF F (secL F (L.take pa)) (addAll (secL F (L.take pa))).a0 (kF (secL F (L.take pa))) j := ⟨_, rfl⟩
            obtain ⟨s3, hs3⟩ : ∃ s, s = strF F (secL F (L.drop pa)) (addAll (secL F (L.drop pa))).a0 (kF (secL F (L.drop pa))) j := ⟨_, rfl⟩
            have HV1 := Lib.hid (fun w1 (hb : From wr w1) => str_fld R1.out (s := s1) (by rw [hs1]; exact curveS_get F _ hjF) w1 (E1.out.trans ((HBJ.out.trans (hb.mono HBJ.out.size)).mono E1.out.size)))
            have HV4 := Lib.hid (fun w1 (hb : From wr w1) => str_fld R4.out (s := s1) (by rw [hs1]; exact curveS_get F _ hjF) w1 (E4.out.trans ((HBJ.out.trans (hb.mono HBJ.out.size)).mono E4.out.size)))
            have HV0 := Lib.hid (fun w1 (hb : From wr w1) => str_fld R0.out (s := s0) (by rw [hs0]; exact curveS_get F _ hjF) w1 (E0.out.trans ((HBJ.out.trans (hb.mono HBJ.out.size)).mono E0.out.size)))
            have HV2 := Lib.hid (fun w1 (hb : From wr w1) => str_fld R2.out (s := s2) (by rw [hs2]; exact curveS_get F _ hjF) w1 (E2.out.trans ((HBJ.out.trans (hb.mono HBJ.out.size)).mono E2.out.size)))
            have HV3 := Lib.hid (fun w1 (hb : From wr w1) => str_fld R3.out (s := s3) (by rw [hs3]; exact curveS_get F _ hjF) w1 (HBJ.out.trans (hb.mono HBJ.out.size)))
            have HFI : Hid (s1.fits ∧ s0.fits ∧ s2.fits ∧ s3.fits) := by rw [hs1, hs0, hs2, hs3]; exact ⟨str_fits _ _ _ _ _, str_fits _ _ _ _ _, str_fits _ _ _ _ _, str_fits _ _ _ _ _⟩
            have HLAW := Lib.hid (adds_law HM.out (L.take pa) (L.drop pa) (fun u hu => HWT.out u (List.mem_of_mem_take hu)) (fun u hu => HWT.out u (List.mem_of_mem_drop hu)) (by simp; have := HLN.out; omega) j (s1 := s1) (by rw [List.take_append_drop]; exact hs1) hs0 hs2 hs3)
            have HCR : Hid (From wr wr) := Below.refl _ _
            clear hs1 hs0 hs2 hs3 hjF
            go_upto_region 20 with fail
            try simp only [Act.put]
            refine region_addsA (n := m) (kk := j) (g1 := g1) (o1 := o1) (c1 := c1) (g0 := g0) (o0 := o0) (c0 := c0) (g2 := g2) (o2 := o2) (c2 := c2) (g3 := g3) (o3 := o3) (c3 := c3) (f1 := s1.shear) (f0 := s0.shear) (f2 := s2.shear) (f3 := s3.shear) (r1 := addL s1.shear s0.shear) (r2 := addL s2.shear s3.shear) hjmi rfl (by kernel_rfl) (by kernel_rfl) (by kernel_rfl) rfl rfl rfl rfl rfl
              (fun w1 hb => (HV1.out w1 (HCR.out.trans (hb.mono HCR.out.size))).1) (fun w1 hb => (HV0.out w1 (HCR.out.trans (hb.mono HCR.out.size))).1) (fun w1 hb => frac_Add _ _ HFI.out.1.1 HFI.out.2.1.1 w1) (fun w1 hb => law_sure _ _ w1)
              (fun w1 hb => (HV2.out w1 (HCR.out.trans (hb.mono HCR.out.size))).1) (fun w1 hb => (HV3.out w1 (HCR.out.trans (hb.mono HCR.out.size))).1) (fun w1 hb => frac_Add _ _ HFI.out.2.2.1.1 HFI.out.2.2.2.1 w1) (fun w1 hb => law_sure _ _ w1)
              (fun a w1 h1 h2 => op_fr_eql (addL s1.shear s0.shear).1 (addL_fits _ _) w1 h1 (by rw [HLAW.out.1]; exact h2)) ?_
            intro w10 hb10
            have C10 : Hid (From wr w10) := hb10
            clear hb10
            simp only [List.drop_succ_cons, List.drop_zero]
            simp only [Act.put, List.setIfInBounds_toArray, List.set_cons_succ, List.set_cons_zero]
            go_upto_region 21 with fail
            try simp only [Act.put]
            refine region_addsB (n := m) (kk := j) (g1 := g1) (o1 := o1) (c1 := c1) (g0 := g0) (o0 := o0) (c0 := c0) (g2 := g2) (o2 := o2) (c2 := c2) (g3 := g3) (o3 := o3) (c3 := c3) (f1 := s1.bend) (f0 := s0.bend) (f2 := s2.bend) (f3 := s3.bend) (r1 := addL s1.bend s0.bend) (r2 := addL s2.bend s3.bend) hjmi rfl (by kernel_rfl) (by kernel_rfl) (by kernel_rfl) rfl rfl rfl rfl rfl
              (fun w1 hb => (HV1.out w1 (C10.out.trans (hb.mono C10.out.size))).2.1) (fun w1 hb => (HV0.out w1 (C10.out.trans (hb.mono C10.out.size))).2.1) (fun w1 hb => frac_Add _ _ HFI.out.1.2 HFI.out.2.1.2 w1) (fun w1 hb => law_sure _ _ w1)
              (fun w1 hb => (HV2.out w1 (C10.out.trans (hb.mono C10.out.size))).2.1) (fun w1 hb => (HV3.out w1 (C10.out.trans (hb.mono C10.out.size))).2.1) (fun w1 hb => frac_Add _ _ HFI.out.2.2.1.2 HFI.out.2.2.2.2 w1) (fun w1 hb => law_sure _ _ w1)
              (fun a w1 h1 h2 => op_fr_eql (addL s1.bend s0.bend).1 (addL_fits _ _) w1 h1 (by rw [HLAW.out.2]; exact h2)) ?_
            intro w11 hb11
            have C11 : Hid (From wr w11) := C10.out.trans (hb11.mono C10.out.size)
            clear hb11
            simp only [List.drop_succ_cons, List.drop_zero]
            simp only [Act.put, List.setIfInBounds_toArray, List.set_cons_succ, List.set_cons_zero]
            go_upto_region 22 with fail
            try simp only [Act.put]
            refine region_addsC (n := m) (kk := j) (g1 := g1) (o1 := o1) (c1 := c1) (g4 := g4) (o4 := o4) (c4 := c4) (s1 := s1) (s4 := s1) hjmi rfl (by kernel_rfl) (by kernel_rfl) (by kernel_rfl) rfl rfl rfl rfl rfl
              (fun w1 hb => (HV1.out w1 (C11.out.trans (hb.mono C11.out.size))).2.2) (fun w1 hb => (HV4.out w1 (C11.out.trans (hb.mono C11.out.size))).2.2) (fun a w1 h1 h2 => op_str_neq s1 w1 h1 h2) ?_
            intro w12 hb12
            have C12 : Hid (From wr w12) := C11.out.trans (hb12.mono C11.out.size)
            clear hb12
            simp only [List.drop_succ_cons, List.drop_zero]
            simp only [Act.put, List.setIfInBounds_toArray, List.set_cons_succ, List.set_cons_zero]
            go_wp2
            go_roundw
            case rel => exact ⟨j + 1, by omega, by go_num, HBJ.out.trans (C12.out.mono HBJ.out.size)⟩
            case measure => simp [intOf]; omega
          · obtain rfl : j = m := by omega
            have hjj : ¬ (j : Int) < (j : Int) := by omega
            go_wp2
            go_ret
            exact ⟨rfl, Hx5.out.from_.trans (HBJ.out.mono Hx5.out.from_.size)⟩
end Go.Proofs.Ythlbcijlbgbooaa
