/-
  twistlocklaw18: StrengthEnds, walked.
-/
import Derived.Test.YtcdfnlgimbecgaaMg42
import Derived.Test.YtcdfnlgimbecgaaMg44
import Derived.Test.YtcdfnlgimbecgaaMg46
import Derived.Deep.Cut
import Derived.RegionTactic
import Derived.BigRegion

namespace Go.Proofs.Ytcdfnlgimbecgaa
open Go.RowKit

theorem size_al (w : World) (o : Obj) : (w.alloc o).heap.size = w.heap.size + 1 := by simp
def kilL (S : List Sec) (i : Nat) : List (List Value) := (S.take i).map fun s => [Value.int .i64 s.a0]
def twiL (S : List Sec) (i : Nat) : List (List Value) := (S.take i).map fun s => [Value.int .i64 s.a1]
theorem take_map_succ {α β : Type} (f : α → β) {S : List α} {i : Nat} {s : α} (h : S[i]? = some s) : (S.take (i + 1)).map f = (S.take i).map f ++ [f s] := by
  obtain ⟨h1, rfl⟩ := List.getElem?_eq_some_iff.1 h
  rw [List.take_succ_eq_append_getElem h1, List.map_append]
  rfl
theorem take_get {α β : Type} (f : α → β) {S : List α} {i n : Nat} {s : α} (h : S[i]? = some s) (hi : i < n) : ((S.take n).map f)[i]? = some (f s) := by
  rw [List.getElem?_map, List.getElem?_take, if_pos hi, h]
  rfl
def moreL (S : List Sec) (i : Nat) : List (List Value) := (S.take i).map fun s => (moreFr S s).cells
def factL (S : List Sec) (i : Nat) : List (List Value) := (S.take i).map fun s => (ofL s.a4).cells
theorem Mem.at0 {w0 w : World} {M : List Ent} (h : Mem w0 w M) {i : Nat} {T size : Nat} {A : Option Addr} {c : Nat} {css : List (List Value)} (hi : M[i]? = some (.row T size A c css)) (hn : css ≠ []) : ∃ g, A = some ⟨g, 0, .none⟩ := by
  rcases (h.own hi).block with ⟨_, _, h3⟩ | ⟨g, _, h3, _⟩
  · exact (hn h3).elim
  · exact ⟨g, h3⟩
theorem take_ne {α β : Type} (f : α → β) {S : List α} {n : Nat} (h : 0 < n) (hS : 0 < S.length) : (S.take n).map f ≠ [] := by
  intro e
  have h1 := congrArg List.length e
  rw [List.length_map, List.length_take] at h1
  simp only [List.length_nil] at h1
  omega

set_option maxRecDepth 100000 in
set_option maxHeartbeats 8000000 in
theorem law_Ends (A : Option Addr) (c n : Nat) (l : List Sml) (hn : n = l.length) (hok : ∀ x ∈ l, x.ok) (hnc : n ≤ c) (w : World) (h : Rd w w.heap.size 5 A (l.map Sml.cells)) (hl : l.length ≤ 20000000000000) :
    Calls Try.prog 5 #[.slice A n c] w fun e w' => e = .returned (.bool true) ∧ Below w.heap.size w w' := by
  have HMA := Lib.hid (fun (w1 : World) (hb : From w w1) => law_Made A c n l hn hok hnc w1 ((h.below hb (Nat.le_refl _)).more hb.size) hl)
  obtain ⟨t, r0, M, _⟩ := madeF_is hok
  have hwt := made_wts hok
  have hL8 := madeL_len l
  obtain ⟨F, hF⟩ : ∃ F, F = madeF l := ⟨_, rfl⟩
  obtain ⟨L, hL⟩ : ∃ L, L = madeL l := ⟨_, rfl⟩
  obtain ⟨xl, hxl⟩ : ∃ xl, xl = madeW l - 20000 := ⟨_, rfl⟩
  rw [← hF, ← hxl] at M
  rw [← hL] at hL8
  rw [← hL, ← hxl] at hwt
  obtain ⟨m, hm⟩ : ∃ m, m = F.length := ⟨_, rfl⟩
  obtain ⟨q, hq⟩ : ∃ q, q = L.length := ⟨_, rfl⟩
  obtain ⟨nn, hnn⟩ : ∃ nn, nn = F.length - 1 := ⟨_, rfl⟩
  have hlen : F.length = t.length + 3 := by rw [M.eq]; simp
  have hm3 : 3 ≤ m ∧ m ≤ 10 := by have := M.len; omega
  have hMP : ∀ w1, MadePost w1 l = fun e w' => ∃ g c D d, e = .returned (.tuple #[.slice (some ⟨g, 0, none⟩) m c, .slice D q d]) ∧ OwnS w' w1.heap.size 44 5 (some ⟨g, 0, none⟩) c (F.map Frm.cells) ∧
    OwnS w' w1.heap.size 46 2 D d (L.map Wt.cells) ∧ (∀ a, D = some a → a.block ≠ g) ∧ Below w1.heap.size w1 w' := by
    intro w1
    unfold MadePost
    rw [hm, hq, hF, hL]
  have HMP := Lib.hid hMP
  have HM := Lib.hid M
  have HWT := Lib.hid hwt
  have HLN := Lib.hid (And.intro hm (And.intro hq (And.intro hnn (And.intro hm3 hL8))))
  have wN : IntKind.i64.wrap ((m : Int) - 1) = (nn : Int) := by rw [wrap_i64 (by omega) (by omega)]; omega
  clear hMP hn hok hl M hwt hF hL hxl hL8 hlen hm hq hnn hm3 h
  have hH : Hull F L := hull_made HM.out L HWT.out (by have := HLN.out; omega)
  have hLx : ∀ u ∈ L, (-20000 ≤ u.x ∧ u.x < 70000) ∧ (0 ≤ u.kilos ∧ u.kilos < 65536) := fun u hu => by have h1 := HWT.out u hu; have h2 := HM.out.x; omega
  obtain ⟨hO1, hO2, hO3⟩ := hull_ok hH
  obtain ⟨S, hS⟩ : ∃ S, S = secL F L := ⟨_, rfl⟩
  have HEA := Lib.hid (fun i (hi : i + 1 < F.length) => ends_at hH hLx hi)
  have HAL := Lib.hid (ends_all hH)
  have HEV := Lib.hid (fun i s s0 => ends_ev (i := i) (s := s) (s0 := s0) hH)
  have HSL : Hid (S.length = nn) := by unfold Hid; rw [hS, secL_len]; exact HLN.out.2.2.1.symm
  have HR := Lib.hid hH.right
  have HSB := Lib.hid hO2
  rw [← hS] at hO3 HEA HAL HEV HSB
  have HCV := Lib.hid hO3
  clear hH hLx hO1 hO2 hO3 hS
  have HCG := Lib.hid (fun g cf D d w1 => curve_good HCV.out (some ⟨g, 0, none⟩) D cf d m q HLN.out.1 HLN.out.2.1 w1)
  have HRT := Lib.hid (fun g cf w1 => st_Right (some ⟨g, 0, none⟩) cf m F HLN.out.1 w1)
  have HZ := Lib.hid (fun w1 => frac_Of 0 (by omega) (by omega) w1)
  have HZ2 := Lib.hid (fun w1 => frac_Of 0 (by omega) (by omega) w1)
  have hF0 : 0 < F.length := by have := HLN.out; omega
  have hCS : (curveS F S).map Str.cells ≠ [] := by
    intro e
    have h1 := congrArg List.length e
    unfold curveS at h1
    simp at h1
    subst h1
    cases hF0
  have HFX : Hid (∀ i, (frmX F i).natAbs ≤ 500000) := fun i => by
    have hok : ∀ f ∈ F, f.ok = true := fun f hf => by
      have h0 := HR.out
      by_cases hc : f.ok = true
      · exact hc
      · rw [not_ok hf (by simpa using hc)] at h0
        cases h0
    have := frmX_ok hok i
    omega
  have HCI : Hid (∀ i, i < m → ((curveS F S).map Str.cells)[i]? = some (Str.cells ⟨dnFr S i, bdFr F S i⟩)) := fun i hi => by
    rw [curveS_get F S (by have := HLN.out; omega), strFr HSB.out i (HFX.out i)]
  have HC0 : Hid (((curveS F S).map Str.cells)[0]? = some (Str.cells ⟨ofL 0, ofL 0⟩)) := by
    have h1 := HCI.out 0 (by have := HLN.out; omega)
    rw [HAL.out.1, HAL.out.2.1] at h1
    exact h1
  have HCN : Hid (((curveS F S).map Str.cells)[nn]? = some (Str.cells ⟨ofL 0, ofL 0⟩)) := by
    have h1 := HCI.out nn (by have := HLN.out; omega)
    have h2 : F.length - 1 = nn := HLN.out.2.2.1.symm
    rw [← h2, HAL.out.2.2.1, HAL.out.2.2.2.1, h2] at h1
    exact h1
  have wM : IntKind.i64.wrap ((nn : Int) + 1) = (m : Int) := by have := HLN.out; rw [wrap_i64 (by omega) (by omega)]; omega
  have hm0 : (0 : Int) < (m : Int) := by have := HLN.out; omega
  have hnm : (nn : Int) < (m : Int) := by have := HLN.out; omega
  go_enter Try.func5, Try.ntmps5
  go_upto_region 7 with (first
    | (go_at_call 9; refine (law_awake _).mono ?_; rintro e w1 ⟨rfl, hb1⟩; have C1 : Hid (From w w1) := hb1; clear hb1)
    | (go_at_call 11; refine (HMA.out _ C1.out).mono ?_; rw [HMP.out]; rintro e w2 ⟨g, cf, D, d, rfl, hf2, hl2, hap2, hb2⟩; have H2 := Lib.hid ((Mem.start C1.out).add2 hb2 (.row 44 5 (some ⟨g, 0, none⟩) cf (F.map Frm.cells)) (.row 46 2 D d (L.map Wt.cells)) hf2 hl2 (by intro b h1 h2; injection h1 with h1; obtain ⟨a, ha, hb⟩ := Option.map_eq_some_iff.1 h2; exact hap2 a ha (hb.trans h1.symm))); clear hf2 hl2 hap2 hb2 HMA HMP C1)
    | (go_at_call 12; refine (HCG.out g cf D d w2 (H2.out.rd (i := 0) rfl) (H2.out.rd (i := 1) rfl) (by have := HLN.out; omega) (by have := HLN.out; omega)).mono ?_; rintro e w3 ⟨Ac, cc, rfl, hr3, hb3, hc3, hn3⟩; obtain ⟨gc, oc, rfl⟩ := curveS_some hr3 hF0; have H3 := Lib.hid (H2.out.add hb3 (.ro 34 (some ⟨gc, oc, none⟩) ((curveS F S).map Str.cells)) ⟨hr3, fun a ha => ⟨hn3 a ha, Rd.bound hr3 hCS a ha⟩⟩); clear hr3 hb3 hc3 hn3 HCG)
    | (go_at_call 13; refine (HZ.out _).mono ?_; rintro e w4 ⟨rfl, hb4⟩; have HB4 := Lib.hid hb4; clear hb4 HZ)
    | (go_at_call 13; refine (HZ2.out _).mono ?_; rintro e w5 ⟨rfl, hb5⟩; have HB5 := Lib.hid hb5; have H5 := Lib.hid ((H3.out.call HB4.out).call HB5.out); clear hb5 HZ2)
    | ((with_reducible refine g_bld 40 ?_); refine wpList_val rfl _ (build_stress (ofL 0) (ofL 0) _ rfl rfl) ?_)
    | ((with_reducible refine g_st 40 ?_); go_loud (refine wpList_stB (n := 34) (cs' := Str.cells ⟨ofL 0, ofL 0⟩) rfl _ _ rfl (H5.out.alloc _ _) 0 rfl rfl rfl (by kernel_rfl) rfl (Str.cells_len _) rfl (Str.ones _) ?_); intro w6 h6; have H6 := Lib.hid h6; clear h6))
  have HRT6 : Hid (∀ w1, From w6 w1 → Calls Try.prog 14 #[.slice (some ⟨g, 0, none⟩) m cf] w1 fun e w' => e = .returned (.bool true) ∧ From w1 w') := fun w1 hb => by
    have h1 := HRT.out g cf w1 ((H6.out.call hb).rd (i := 2) rfl) (by have := HLN.out; omega)
    rw [HR.out] at h1
    exact h1
  clear HRT H2 H3 HB4 HB5 H5 hF0 hCS
  try simp only [Act.put]
  refine wp_region_run 29 [.val (Value.int .i64 0),
    .val (Value.bool false),
    .val (Value.bool false),
    .val (Value.slice (some ⟨g, 0, none⟩) m cf),
    .call (Value.bool true),
    .val (Value.bool false),
    .val (Value.bool false),
    .val (Value.bool false),
    .val (Value.slice (some ⟨gc, oc, none⟩) m cc),
    .val (Value.int .i64 (m : Int)),
    .val (Value.int .i64 ((nn : Int))),
    .val (Value.int .i64 ((m : Int))),
    .val (Value.bool false),
    .val (Value.bool false),
    .val (Value.bool false),
    .val (Value.slice (some ⟨gc, oc, none⟩) m cc),
    .val (Value.pointer (some ⟨gc, oc, none⟩)),
    .val (Str.val ⟨ofL 0, ofL 0⟩),
    .val (Str.val ⟨ofL 0, ofL 0⟩),
    .val (Value.bool false),
    .val (Value.bool false),
    .val (Value.bool false),
    .val (Value.slice (some ⟨gc, oc, none⟩) m cc),
    .val (Value.int .i64 ((nn : Int))),
    .val (Value.pointer (some ⟨gc, oc + nn * 34, none⟩)),
    .val (Str.val ⟨ofL 0, ofL 0⟩),
    .val (Str.val ⟨ofL 0, ofL 0⟩),
    .val (Value.bool false),
    .val (Value.bool false)] (by kernel_rfl) (by kernel_rfl) (Nat.le_of_ble_eq_true (by kernel_rfl)) (by kernel_rfl) (by kernel_rfl) ?_ ?_ ?_
  · exact trivial
  · exact ⟨(fun _ _ => ok_move rfl),
    (fun _ _ => ok_cmp rfl rfl (congrArg some (bne_eq_false_iff_eq.2 (rfl))) rfl),
    (fun _ _ => ok_move rfl),
    (fun _ _ => ok_move rfl),
    (fun w hb => ok_call rfl rfl (cf14 _ _) ((HRT6.out) w hb)),
    (fun _ _ => ok_not rfl rfl),
    (fun _ _ => ok_pick rfl rfl),
    (fun _ _ => ok_move rfl),
    (fun _ _ => ok_move rfl),
    (fun _ _ => ok_len rfl Try.underlying26 rfl),
    (fun _ _ => ok_move rfl),
    (fun _ _ => ok_add rfl rfl (wM) rfl),
    (fun _ _ => ok_cmp rfl rfl (congrArg some (bne_eq_false_iff_eq.2 (rfl))) rfl),
    (fun _ _ => ok_pick rfl rfl),
    (fun _ _ => ok_move rfl),
    (fun _ _ => ok_move rfl),
    (fun _ _ => ok_index (k := 0) rfl rfl el26 (hm0) (rfl)),
    (fun w hb => ok_load rfl ((fun w1 hb => Rd.row (H6.out.roB (i := 1) rfl) hb str_row HC0.out (by omega)) w hb)),
    (fun w hb => ok_load rfl ((H6.out.ldb str_row (Str.cells_len _) (i := 0) rfl) w hb)),
    (fun w _ => op_str_neq ⟨ofL 0, ofL 0⟩ w rfl rfl),
    (fun _ _ => ok_pick rfl rfl),
    (fun _ _ => ok_move rfl),
    (fun _ _ => ok_move rfl),
    (fun _ _ => ok_move rfl),
    (fun _ _ => ok_index (k := nn) rfl rfl el26 (hnm) (rfl)),
    (fun w hb => ok_load rfl ((fun w1 hb => Rd.row (H6.out.roB (i := 1) rfl) hb str_row HCN.out (by omega)) w hb)),
    (fun w hb => ok_load rfl ((H6.out.ldb str_row (Str.cells_len _) (i := 0) rfl) w hb)),
    (fun w _ => op_str_neq ⟨ofL 0, ofL 0⟩ w rfl rfl),
    (fun _ _ => ok_pick rfl rfl),
    trivial⟩
  intro w7 hb7
  simp only [contS, List.take_succ_cons, List.take_zero, List.drop_succ_cons, List.drop_zero]
  simp only [Act.put, List.setIfInBounds_toArray, List.set_cons_succ, List.set_cons_zero]
  have H7 := Lib.hid (((H6.out.call hb7).tail.none 3 1).none 3 1)
  clear H6 HRT6 hb7
  go_wp2
  go_loopw [9, 10, 11, 12, 13, 78] (fun v9 v10 v11 v12 v13 v78 wq => ∃ (i : Nat) (A1 : Option Addr) (c1 : Nat) (A2 : Option Addr) (c2 : Nat), i ≤ nn ∧ v9 = .int .i64 (addAll (S.take i)).a0 ∧ v10 = .int .i64 (addAll (S.take i)).a1 ∧ v11 = .slice A1 i c1 ∧ v12 = .slice A2 i c2 ∧ v13 = .int .i64 (allX F i) ∧ v78 = .int .i64 i ∧
    Mem w wq [.row 3 1 A1 c1 (kilL S i), .row 3 1 A2 c2 (twiL S i), .ro 34 (some ⟨gc, oc, none⟩) ((curveS F S).map Str.cells), .row 44 5 (some ⟨g, 0, none⟩) cf (F.map Frm.cells), .row 46 2 D d (L.map Wt.cells)]) (fun _ _ _ _ _ v _ => nn - (intOf v).toNat)
  case atStart => exact ⟨0, none, 0, none, 0, Nat.zero_le _, rfl, rfl, rfl, rfl, rfl, rfl, H7.out⟩
  case round =>
    clear H7
    obtain ⟨i, A1, c1, A2, c2, hin, rfl, rfl, rfl, rfl, rfl, rfl, hmem⟩ := hrel
    have HM1 := Lib.hid hmem
    clear hmem
    by_cases hi : i < nn
    ·
      have hii : (i : Int) < (nn : Int) := by omega
      obtain ⟨f0, f1, s, E⟩ := HEA.out i (by have := HLN.out; omega)
      have HE := Lib.hid E
      have b1 := E.x0
      have b2 := E.x1
      have b3 := E.lh
      have him : (i : Int) < (m : Int) := by omega
      have hjm : ((i + 1 : Nat) : Int) < (m : Int) := by omega
      have hi10 : i ≤ 10 := by have := HLN.out; omega
      have wI : IntKind.i64.wrap ((i : Int) + 1) = (i : Int) + 1 := wrap_i64 (by omega) (by omega)
      have wX : IntKind.i64.wrap (f0.x + f1.x) = f0.x + f1.x := wrap_i64 (by omega) (by omega)
      have wL : IntKind.i64.wrap (f0.light * (f0.x + f1.x)) = f0.light * (f0.x + f1.x) := wrap_i64 (by omega) (by omega)
      have HK0 : Hid ((F.map Frm.cells)[i]? = some f0.cells) := by unfold Hid; rw [List.getElem?_map, E.g0]; rfl
      have HK1 : Hid ((F.map Frm.cells)[i + 1]? = some f1.cells) := by unfold Hid; rw [List.getElem?_map, E.g1]; rfl
      clear E b1 b2 b3
      go_upto_region 15 with fail
      try simp only [Act.put]
      refine wp_region_run 13 [.val (Value.slice (some ⟨g, 0, none⟩) m cf),
    .val (Value.int .i64 ((i : Int))),
    .val (Value.pointer (some ⟨g, i * 5, none⟩)),
    .val (Value.pointer (some ⟨g, i * 5, none⟩)),
    .val (Value.int .i64 (f0.x)),
    .val (Value.slice (some ⟨g, 0, none⟩) m cf),
    .val (Value.int .i64 ((i : Int))),
    .val (Value.int .i64 ((i : Int) + 1)),
    .val (Value.pointer (some ⟨g, (i + 1) * 5, none⟩)),
    .val (Value.pointer (some ⟨g, (i + 1) * 5, none⟩)),
    .val (Value.int .i64 (f1.x)),
    .val (Value.int .i64 (f0.x + f1.x)),
    .val (Value.int .i64 (f0.x + f1.x))] (by kernel_rfl) (by kernel_rfl) (Nat.le_of_ble_eq_true (by kernel_rfl)) (by kernel_rfl) (by kernel_rfl) ?_ ?_ ?_
      · exact trivial
      · exact ⟨(fun _ _ => ok_move rfl),
    (fun _ _ => ok_move rfl),
    (fun _ _ => ok_index (k := i) rfl rfl el22 (him) (ptr0 _ _)),
    (fun _ _ => ok_field (k := 0) rfl fl44_0 rfl),
    (fun w hb => ok_load rfl ((HM1.out.lde ct3 (i := 3) (j := 0) rfl HK0.out rfl (by omega)) w hb)),
    (fun _ _ => ok_move rfl),
    (fun _ _ => ok_move rfl),
    (fun _ _ => ok_add rfl rfl (wI) rfl),
    (fun _ _ => ok_index (k := (i + 1)) rfl rfl el22 (hjm) (ptr0 _ _)),
    (fun _ _ => ok_field (k := 0) rfl fl44_0 rfl),
    (fun w hb => ok_load rfl ((HM1.out.lde ct3 (i := 3) (j := 0) rfl HK1.out rfl (by omega)) w hb)),
    (fun _ _ => ok_add rfl rfl (wX) rfl),
    (fun _ _ => ok_assign rfl),
    trivial⟩
      intro w8 hb8
      simp only [contS, List.take_succ_cons, List.take_zero, List.drop_succ_cons, List.drop_zero]
      simp only [Act.put, List.setIfInBounds_toArray, List.set_cons_succ, List.set_cons_zero]
      have HM2 := Lib.hid (HM1.out.call hb8)
      clear HM1 hb8
      go_upto_region 16 with fail
      try simp only [Act.put]
      refine wp_region_run 14 [.val (Value.slice (some ⟨g, 0, none⟩) m cf),
    .val (Value.int .i64 ((i : Int))),
    .val (Value.pointer (some ⟨g, i * 5, none⟩)),
    .val (Value.pointer (some ⟨g, i * 5 + 1, none⟩)),
    .val (Value.int .i64 (f0.light)),
    .val (Value.slice (some ⟨g, 0, none⟩) m cf),
    .val (Value.int .i64 ((i : Int))),
    .val (Value.pointer (some ⟨g, i * 5, none⟩)),
    .val (Value.pointer (some ⟨g, i * 5 + 1, none⟩)),
    .val (Value.int .i64 (f0.light)),
    .val (Value.int .i64 (f0.x + f1.x)),
    .val (Value.int .i64 (f0.light * (f0.x + f1.x))),
    .val (Value.int .i64 (f0.light)),
    .val (Value.int .i64 (f0.light * (f0.x + f1.x)))] (by kernel_rfl) (by kernel_rfl) (Nat.le_of_ble_eq_true (by kernel_rfl)) (by kernel_rfl) (by kernel_rfl) ?_ ?_ ?_
      · exact trivial
      · exact ⟨(fun _ _ => ok_move rfl),
    (fun _ _ => ok_move rfl),
    (fun _ _ => ok_index (k := i) rfl rfl el22 (him) (ptr0 _ _)),
    (fun _ _ => ok_field (k := 1) rfl fl44_1 rfl),
    (fun w hb => ok_load rfl ((HM2.out.lde ct3 (i := 3) (j := 1) rfl HK0.out rfl (by omega)) w hb)),
    (fun _ _ => ok_move rfl),
    (fun _ _ => ok_move rfl),
    (fun _ _ => ok_index (k := i) rfl rfl el22 (him) (ptr0 _ _)),
    (fun _ _ => ok_field (k := 1) rfl fl44_1 rfl),
    (fun w hb => ok_load rfl ((HM2.out.lde ct3 (i := 3) (j := 1) rfl HK0.out rfl (by omega)) w hb)),
    (fun _ _ => ok_move rfl),
    (fun _ _ => ok_mul rfl rfl (wL) rfl),
    (fun _ _ => ok_assign rfl),
    (fun _ _ => ok_assign rfl),
    trivial⟩
      intro w9 hb9
      simp only [contS, List.take_succ_cons, List.take_zero, List.drop_succ_cons, List.drop_zero]
      simp only [Act.put, List.setIfInBounds_toArray, List.set_cons_succ, List.set_cons_zero]
      have HM3 := Lib.hid (HM2.out.call hb9)
      clear HM2 hb9
      go_wp2
      go_loopw [16, 17, 107] (fun v16 v17 v107 wq => ∃ k : Nat, k ≤ q ∧ v16 = .int .i64 (wK F L i k) ∧ v17 = .int .i64 (mK F L i k) ∧ v107 = .int .i64 k ∧
        Mem w wq [.row 3 1 A1 c1 (kilL S i), .row 3 1 A2 c2 (twiL S i), .ro 34 (some ⟨gc, oc, none⟩) ((curveS F S).map Str.cells), .row 44 5 (some ⟨g, 0, none⟩) cf (F.map Frm.cells), .row 46 2 D d (L.map Wt.cells)]) (fun _ _ v _ => q - (intOf v).toNat)
      case atStart => exact ⟨0, Nat.zero_le _, by rw [HE.out.w0], by rw [HE.out.m0], rfl, HM3.out⟩
      case round =>
        clear HM3
        obtain ⟨k, hkq, rfl, rfl, rfl, hmem⟩ := hrel
        have HM4 := Lib.hid hmem
        clear hmem
        by_cases hk : k < q
        · have hkk : (k : Int) < (q : Int) := by omega
          have hk8 : k ≤ 8 := by have := HLN.out; omega
          obtain ⟨u, hu⟩ : ∃ u, u = L[k]'(by have := HLN.out; omega) := ⟨_, rfl⟩
          have HKU : Hid ((L.map Wt.cells)[k]? = some u.cells) := by unfold Hid; rw [List.getElem?_map, List.getElem?_eq_getElem (by have := HLN.out; omega), ← hu]; rfl
          have hux := HWT.out u (by rw [hu]; exact List.getElem_mem _)
          have hxl := HM.out.x
          have HIN : Hid (f0.x ≤ u.x → u.x < f1.x → wK F L i (k + 1) = wK F L i k + u.kilos ∧ mK F L i (k + 1) = mK F L i k + 2 * u.kilos * u.x) := by rw [hu]; exact HE.out.inn k (by have := HLN.out; omega)
          have HOUT : Hid (¬ (f0.x ≤ u.x ∧ u.x < f1.x) → wK F L i (k + 1) = wK F L i k ∧ mK F L i (k + 1) = mK F L i k) := by rw [hu]; exact HE.out.out k (by have := HLN.out; omega)
          obtain ⟨gd, hgd⟩ : ∃ gd, D = some ⟨gd, 0, none⟩ := by
            rcases (HM4.out.own (i := 4) rfl).block with ⟨_, _, h3⟩ | ⟨gd, _, h3, _⟩
            · have h4 := HKU.out
              rw [h3] at h4
              cases h4
            · exact ⟨gd, h3⟩
          subst hgd
          clear hu
          go_upto_region 20 with (first
            | ((with_reducible refine g_ld 46 ?_); go_loud (refine wpList_ld rfl _ _ rfl _ rfl (Wt.val u) (HM4.out.ldr Wt.row (i := 4) rfl HKU.out (by omega) _ (Below.refl _ _)) ?_))
            | ((with_reducible refine g_st 46 ?_); go_loud (refine wpList_stB (n := 2) (cs' := u.cells) rfl _ _ rfl (HM4.out.alloc _ _) 0 rfl rfl rfl (by kernel_rfl) rfl rfl rfl (Wt.one u) ?_); intro w10 h10; have HM5 := Lib.hid h10; clear h10 HM4))
          try simp only [Act.put]
          by_cases ha : f0.x ≤ u.x
          · by_cases hb : u.x < f1.x
            · have w5 := (HIN.out ha hb)
              have w6 := HE.out.wb k (by have := HLN.out; omega)
              have w7 := HE.out.mb k (by have := HLN.out; omega)
              have w8 := HE.out.wb (k + 1) (by have := HLN.out; omega)
              have w9 := HE.out.mb (k + 1) (by have := HLN.out; omega)
              have k1 : IntKind.i64.wrap (wK F L i k + u.kilos) = wK F L i (k + 1) := by rw [← w5.1]; exact wrap_i64 (by omega) (by omega)
              have k2 : IntKind.i64.wrap (2 * u.kilos) = 2 * u.kilos := wrap_i64 (by omega) (by omega)
              have k3 : IntKind.i64.wrap (2 * u.kilos * u.x) = 2 * u.kilos * u.x := by
                have := mul_bd (a := 2 * u.kilos) (b := u.x) (A := 200000) (B := 100000) (by omega) (by omega)
                exact wrap_i64 (by omega) (by omega)
              have k4 : IntKind.i64.wrap (mK F L i k + 2 * u.kilos * u.x) = mK F L i (k + 1) := by rw [← w5.2]; exact wrap_i64 (by omega) (by omega)
              clear w5 w6 w7 w8 w9 hux hxl
              refine wp_region_run 19 [.val (Value.pointer (some ⟨wr.heap.size, 0, none⟩)),
    .val (Value.int .i64 (u.x)),
    .val (Value.slice (some ⟨g, 0, none⟩) m cf),
    .val (Value.int .i64 ((i : Int))),
    .val (Value.pointer (some ⟨g, i * 5, none⟩)),
    .val (Value.pointer (some ⟨g, i * 5, none⟩)),
    .val (Value.int .i64 (f0.x)),
    .val (Value.bool true),
    .val (Value.bool true),
    .val (Value.pointer (some ⟨wr.heap.size, 0, none⟩)),
    .val (Value.int .i64 (u.x)),
    .val (Value.slice (some ⟨g, 0, none⟩) m cf),
    .val (Value.int .i64 ((i : Int))),
    .val (Value.int .i64 ((i : Int) + 1)),
    .val (Value.pointer (some ⟨g, (i + 1) * 5, none⟩)),
    .val (Value.pointer (some ⟨g, (i + 1) * 5, none⟩)),
    .val (Value.int .i64 (f1.x)),
    .val (Value.bool true),
    .val (Value.bool true)] (by kernel_rfl) (by kernel_rfl) (Nat.le_of_ble_eq_true (by kernel_rfl)) (by kernel_rfl) (by kernel_rfl) ?_ ?_ ?_
              · exact trivial
              · exact ⟨(fun _ _ => ok_field (k := 0) rfl fl46_0 rfl),
    (fun w hb => ok_load rfl ((HM5.out.ldc ct3 (i := 0) (j := 0) rfl rfl) w hb)),
    (fun _ _ => ok_move rfl),
    (fun _ _ => ok_move rfl),
    (fun _ _ => ok_index (k := i) rfl rfl el22 (him) (ptr0 _ _)),
    (fun _ _ => ok_field (k := 0) rfl fl44_0 rfl),
    (fun w hb => ok_load rfl ((HM5.out.lde ct3 (i := 4) (j := 0) rfl HK0.out rfl (by omega)) w hb)),
    (fun _ _ => ok_cmp rfl rfl (congrArg some (decide_eq_true (ha))) rfl),
    (fun _ _ => ok_move rfl),
    (fun _ _ => ok_field (k := 0) rfl fl46_0 rfl),
    (fun w hb => ok_load rfl ((HM5.out.ldc ct3 (i := 0) (j := 0) rfl rfl) w hb)),
    (fun _ _ => ok_move rfl),
    (fun _ _ => ok_move rfl),
    (fun _ _ => ok_add rfl rfl (wI) rfl),
    (fun _ _ => ok_index (k := (i + 1)) rfl rfl el22 (hjm) (ptr0 _ _)),
    (fun _ _ => ok_field (k := 0) rfl fl44_0 rfl),
    (fun w hb => ok_load rfl ((HM5.out.lde ct3 (i := 4) (j := 0) rfl HK1.out rfl (by omega)) w hb)),
    (fun _ _ => ok_cmp rfl rfl (congrArg some (decide_eq_true (hb))) rfl),
    (fun _ _ => ok_pick rfl rfl),
    trivial⟩
              intro w11 hb11
              simp only [contS, List.take_succ_cons, List.take_zero, List.drop_succ_cons, List.drop_zero]
              simp only [Act.put, List.setIfInBounds_toArray, List.set_cons_succ, List.set_cons_zero]
              have HM6 := Lib.hid (HM5.out.call hb11)
              clear HM5 hb11
              go_upto_region 21 with fail
              try simp only [Act.put]
              refine wp_region_run 14 [.val (Value.int .i64 (wK F L i k)),
    .val (Value.pointer (some ⟨wr.heap.size, 1, none⟩)),
    .val (Value.int .i64 (u.kilos)),
    .val (Value.int .i64 (wK F L i (k + 1))),
    .val (Value.int .i64 (mK F L i k)),
    .val (Value.pointer (some ⟨wr.heap.size, 1, none⟩)),
    .val (Value.int .i64 (u.kilos)),
    .val (Value.int .i64 (2 * u.kilos)),
    .val (Value.pointer (some ⟨wr.heap.size, 0, none⟩)),
    .val (Value.int .i64 (u.x)),
    .val (Value.int .i64 (2 * u.kilos * u.x)),
    .val (Value.int .i64 (mK F L i (k + 1))),
    .val (Value.int .i64 (wK F L i (k + 1))),
    .val (Value.int .i64 (mK F L i (k + 1)))] (by kernel_rfl) (by kernel_rfl) (Nat.le_of_ble_eq_true (by kernel_rfl)) (by kernel_rfl) (by kernel_rfl) ?_ ?_ ?_
              · exact trivial
              · exact ⟨(fun _ _ => ok_move rfl),
    (fun _ _ => ok_field (k := 1) rfl fl46_1 rfl),
    (fun w hb => ok_load rfl ((HM6.out.ldc ct3 (i := 0) (j := 1) rfl rfl) w hb)),
    (fun _ _ => ok_add rfl rfl (k1) rfl),
    (fun _ _ => ok_move rfl),
    (fun _ _ => ok_field (k := 1) rfl fl46_1 rfl),
    (fun w hb => ok_load rfl ((HM6.out.ldc ct3 (i := 0) (j := 1) rfl rfl) w hb)),
    (fun _ _ => ok_mul rfl rfl (k2) rfl),
    (fun _ _ => ok_field (k := 0) rfl fl46_0 rfl),
    (fun w hb => ok_load rfl ((HM6.out.ldc ct3 (i := 0) (j := 0) rfl rfl) w hb)),
    (fun _ _ => ok_mul rfl rfl (k3) rfl),
    (fun _ _ => ok_add rfl rfl (k4) rfl),
    (fun _ _ => ok_assign rfl),
    (fun _ _ => ok_assign rfl),
    trivial⟩
              intro w12 hb12
              simp only [contS, List.take_succ_cons, List.take_zero, List.drop_succ_cons, List.drop_zero]
              simp only [Act.put, List.setIfInBounds_toArray, List.set_cons_succ, List.set_cons_zero]
              have HM7 := Lib.hid ((HM6.out.call hb12).tail)
              clear HM6 hb12
              go_wp2
              go_roundw
              case rel => exact ⟨k + 1, by omega, rfl, rfl, by go_num, HM7.out⟩
              case measure => simp [intOf]; omega
            · have ho := HOUT.out (fun h => hb h.2)
              refine wp_region_run 19 [.val (Value.pointer (some ⟨wr.heap.size, 0, none⟩)),
    .val (Value.int .i64 (u.x)),
    .val (Value.slice (some ⟨g, 0, none⟩) m cf),
    .val (Value.int .i64 ((i : Int))),
    .val (Value.pointer (some ⟨g, i * 5, none⟩)),
    .val (Value.pointer (some ⟨g, i * 5, none⟩)),
    .val (Value.int .i64 (f0.x)),
    .val (Value.bool true),
    .val (Value.bool true),
    .val (Value.pointer (some ⟨wr.heap.size, 0, none⟩)),
    .val (Value.int .i64 (u.x)),
    .val (Value.slice (some ⟨g, 0, none⟩) m cf),
    .val (Value.int .i64 ((i : Int))),
    .val (Value.int .i64 ((i : Int) + 1)),
    .val (Value.pointer (some ⟨g, (i + 1) * 5, none⟩)),
    .val (Value.pointer (some ⟨g, (i + 1) * 5, none⟩)),
    .val (Value.int .i64 (f1.x)),
    .val (Value.bool false),
    .val (Value.bool false)] (by kernel_rfl) (by kernel_rfl) (Nat.le_of_ble_eq_true (by kernel_rfl)) (by kernel_rfl) (by kernel_rfl) ?_ ?_ ?_
              · exact trivial
              · exact ⟨(fun _ _ => ok_field (k := 0) rfl fl46_0 rfl),
    (fun w hb => ok_load rfl ((HM5.out.ldc ct3 (i := 0) (j := 0) rfl rfl) w hb)),
    (fun _ _ => ok_move rfl),
    (fun _ _ => ok_move rfl),
    (fun _ _ => ok_index (k := i) rfl rfl el22 (him) (ptr0 _ _)),
    (fun _ _ => ok_field (k := 0) rfl fl44_0 rfl),
    (fun w hb => ok_load rfl ((HM5.out.lde ct3 (i := 4) (j := 0) rfl HK0.out rfl (by omega)) w hb)),
    (fun _ _ => ok_cmp rfl rfl (congrArg some (decide_eq_true (ha))) rfl),
    (fun _ _ => ok_move rfl),
    (fun _ _ => ok_field (k := 0) rfl fl46_0 rfl),
    (fun w hb => ok_load rfl ((HM5.out.ldc ct3 (i := 0) (j := 0) rfl rfl) w hb)),
    (fun _ _ => ok_move rfl),
    (fun _ _ => ok_move rfl),
    (fun _ _ => ok_add rfl rfl (wI) rfl),
    (fun _ _ => ok_index (k := (i + 1)) rfl rfl el22 (hjm) (ptr0 _ _)),
    (fun _ _ => ok_field (k := 0) rfl fl44_0 rfl),
    (fun w hb => ok_load rfl ((HM5.out.lde ct3 (i := 4) (j := 0) rfl HK1.out rfl (by omega)) w hb)),
    (fun _ _ => ok_cmp rfl rfl (congrArg some (decide_eq_false (hb))) rfl),
    (fun _ _ => ok_pick rfl rfl),
    trivial⟩
              intro w11 hb11
              simp only [contS, List.take_succ_cons, List.take_zero, List.drop_succ_cons, List.drop_zero]
              simp only [Act.put, List.setIfInBounds_toArray, List.set_cons_succ, List.set_cons_zero]
              have HM6 := Lib.hid ((HM5.out.call hb11).tail)
              clear HM5 hb11
              go_wp2
              go_roundw
              case rel => exact ⟨k + 1, by omega, by rw [ho.1], by rw [ho.2], by go_num, HM6.out⟩
              case measure => simp [intOf]; omega
          · have ho := HOUT.out (fun h => ha h.1)
            refine wp_region_run 19 [.val (Value.pointer (some ⟨wr.heap.size, 0, none⟩)),
    .val (Value.int .i64 (u.x)),
    .val (Value.slice (some ⟨g, 0, none⟩) m cf),
    .val (Value.int .i64 ((i : Int))),
    .val (Value.pointer (some ⟨g, i * 5, none⟩)),
    .val (Value.pointer (some ⟨g, i * 5, none⟩)),
    .val (Value.int .i64 (f0.x)),
    .val (Value.bool false),
    .val (Value.bool false),
    .skip,
    .skip,
    .skip,
    .skip,
    .skip,
    .skip,
    .skip,
    .skip,
    .skip,
    .val (Value.bool false)] (by kernel_rfl) (by kernel_rfl) (Nat.le_of_ble_eq_true (by kernel_rfl)) (by kernel_rfl) (by kernel_rfl) ?_ ?_ ?_
            · exact trivial
            · exact ⟨(fun _ _ => ok_field (k := 0) rfl fl46_0 rfl),
    (fun w hb => ok_load rfl ((HM5.out.ldc ct3 (i := 0) (j := 0) rfl rfl) w hb)),
    (fun _ _ => ok_move rfl),
    (fun _ _ => ok_move rfl),
    (fun _ _ => ok_index (k := i) rfl rfl el22 (him) (ptr0 _ _)),
    (fun _ _ => ok_field (k := 0) rfl fl44_0 rfl),
    (fun w hb => ok_load rfl ((HM5.out.lde ct3 (i := 4) (j := 0) rfl HK0.out rfl (by omega)) w hb)),
    (fun _ _ => ok_cmp rfl rfl (congrArg some (decide_eq_false (ha))) rfl),
    (fun _ _ => ok_move rfl),
    trivial,
    trivial,
    trivial,
    trivial,
    trivial,
    trivial,
    trivial,
    trivial,
    trivial,
    (fun _ _ => ok_pick rfl rfl),
    trivial⟩
            intro w11 hb11
            simp only [contS, List.take_succ_cons, List.take_zero, List.drop_succ_cons, List.drop_zero]
            simp only [Act.put, List.setIfInBounds_toArray, List.set_cons_succ, List.set_cons_zero]
            have HM6 := Lib.hid ((HM5.out.call hb11).tail)
            clear HM5 hb11
            go_wp2
            go_roundw
            case rel => exact ⟨k + 1, by omega, by rw [ho.1], by rw [ho.2], by go_num, HM6.out⟩
            case measure => simp [intOf]; omega
        · obtain rfl : k = q := by omega
          have hkk : ¬ (k : Int) < (k : Int) := by omega
          have hkL : k = L.length := HLN.out.2.1
          have hwq : wK F L i k = s.a0 := by rw [hkL]; exact HE.out.wq
          have hmq : mK F L i k = s.a1 := by rw [hkL]; exact HE.out.mq
          rw [hwq, hmq]
          have g1 := HE.out.b0
          have g2 := HE.out.b1
          have g3 := HE.out.bt0
          have g4 := HE.out.bt1
          have g5 := HE.out.bah
          have g6 := HE.out.x0
          have g7 := HE.out.x1
          have k1 : IntKind.i64.wrap ((addAll (S.take i)).a0 + s.a0) = (addAll (S.take (i + 1))).a0 := by rw [HE.out.t0]; exact wrap_i64 (by omega) (by omega)
          have k2 : IntKind.i64.wrap ((addAll (S.take i)).a1 + s.a1) = (addAll (S.take (i + 1))).a1 := by rw [HE.out.t1]; exact wrap_i64 (by omega) (by omega)
          have k3 : IntKind.i64.wrap (allX F i + (f0.x + f1.x)) = allX F (i + 1) := by rw [HE.out.ah]; exact wrap_i64 (by omega) (by omega)
          have HL1 : Hid (i = (kilL S i).length) := by have h1 := HSL.out; unfold Hid kilL; simp; omega
          have HL2 : Hid (i = (twiL S i).length) := by have h1 := HSL.out; unfold Hid twiL; simp; omega
          clear g1 g2 g3 g4 g5 g6 g7 hwq hmq hkL wX wL
          go_wp2_with (first
            | (at_builtin; have HC := HL1; clear HL1; (refine wpList_append_M rfl _ _ rfl int_ei i HC.out rfl (HM4.out.any _) 0 rfl rfl (Rd.new2 wr 3 1 [.int .i64 s.a0] rfl) rfl (by simp [Value.oneCell']) (by rw [← HC.out]; unfold maxLen; omega) (by rw [← HC.out]; omega) ?_); intro A3 c3 w11 h11; have HM5 := Lib.hid h11; clear h11 HM4)
            | (at_builtin; (refine wpList_append_M rfl _ _ rfl int_ei i HL2.out rfl (HM5.out.any _) 1 rfl rfl (Rd.new2 w11 3 1 [.int .i64 s.a1] rfl) rfl (by simp [Value.oneCell']) (by rw [← HL2.out]; unfold maxLen; omega) (by rw [← HL2.out]; omega) ?_); intro A4 c4 w12 h12; have HM6 := Lib.hid h12; clear h12 HM5))
          go_roundw
          case rel =>
            refine ⟨i + 1, A3, c3, A4, c4, by omega, by go_num, by go_num, rfl, rfl, by go_num, by go_num, ?_⟩
            have h1 := HM6.out
            unfold kilL twiL at h1 ⊢
            rw [take_map_succ _ HE.out.gs, take_map_succ _ HE.out.gs]
            exact h1
          case measure => simp [intOf]; omega
    · obtain rfl : i = nn := by omega
      have hii : ¬ (i : Int) < (i : Int) := by omega
      have hn2 : 2 ≤ i := by have := HLN.out; omega
      have hT0 : addAll (S.take i) = addAll S := by rw [← HSL.out, List.take_length]
      obtain ⟨gk, rfl⟩ := HM1.out.at0 (i := 0) rfl (take_ne _ (by omega) (by have := HSL.out; omega))
      obtain ⟨gt, rfl⟩ := HM1.out.at0 (i := 1) rfl (take_ne _ (by omega) (by have := HSL.out; omega))
      rw [hT0]
      have HZ3 := Lib.hid (fun w1 => frac_Of 0 (by omega) (by omega) w1)
      have HZ4 := Lib.hid (fun w1 => frac_Of 0 (by omega) (by omega) w1)
      go_wp2_with (first
        | (go_at_call 13; refine (HZ3.out _).mono ?_; rintro e w13 ⟨rfl, hb13⟩; have HB13 := Lib.hid hb13; clear hb13 HZ3)
        | (go_at_call 13; refine (HZ4.out _).mono ?_; rintro e w14 ⟨rfl, hb14⟩; have HM2 := Lib.hid ((HM1.out.call HB13.out).call hb14); clear hb14 HZ4 HM1 HB13)
        | ((with_reducible refine g_st 37 ?_); (refine wpList_stB (n := 17) (cs' := (ofL 0).cells) rfl _ _ rfl ((HM2.out.alloc _ _).alloc _ _) 1 rfl rfl rfl frac_size rfl (FracV.cells_len _) rfl (FracV.ones _) ?_); intro w15 h15; rw [size_al] at h15; have HM3 := Lib.hid h15; clear h15 HM2)
        | ((with_reducible refine g_st 37 ?_); (refine wpList_stB (n := 17) (cs' := (ofL 0).cells) rfl _ _ rfl HM3.out 0 rfl rfl rfl frac_size rfl (FracV.cells_len _) rfl (FracV.ones _) ?_); intro w16 h16; have HM4 := Lib.hid h16; clear h16 HM3))
      obtain ⟨g20, hg20⟩ : ∃ g20, g20 = w14.heap.size := ⟨_, rfl⟩
      obtain ⟨g21, hg21⟩ : ∃ g21, g21 = g20 + 1 := ⟨_, rfl⟩
      have HM5 : Hid (Mem w w16 [.box g21 37 (ofL 0).cells, .box g20 37 (ofL 0).cells, .row 3 1 (some ⟨gk, 0, none⟩) c1 (kilL S i), .row 3 1 (some ⟨gt, 0, none⟩) c2 (twiL S i), .ro 34 (some ⟨gc, oc, none⟩) ((curveS F S).map Str.cells), .row 44 5 (some ⟨g, 0, none⟩) cf (F.map Frm.cells), .row 46 2 D d (L.map Wt.cells)]) := by
        have h1 := HM4.out
        rw [← hg20, ← hg21] at h1
        exact h1
      rw [← hg20, ← hg21]
      have HM6 := Lib.hid ((HM5.out.none 37 17).none 37 17)
      have HSF : Hid (∀ j, j ≤ i → (sumFr S j).fits ∧ (levFr S j).fits) := fun j hj => by
        cases j with
        | zero => rw [sumFr_zero, levFr_zero]; exact ⟨ofL_fits ⟨by decide, by decide⟩, ofL_fits ⟨by decide, by decide⟩⟩
        | succ j =>
          obtain ⟨_, _, s, E⟩ := HEA.out j (by have := HLN.out; omega)
          rw [← E.e2, ← E.e3]
          exact ⟨addL_fits _ _, addL_fits _ _⟩
      clear HM4 HM5 hg20 hg21
      go_wp2
      go_loopw [22, 23, 164] (fun v22 v23 v164 wq => ∃ (p : Nat) (A5 : Option Addr) (c5 : Nat) (A6 : Option Addr) (c6 : Nat), p ≤ i ∧ v22 = .slice A5 p c5 ∧ v23 = .slice A6 p c6 ∧ v164 = .int .i64 p ∧
        Mem w wq [.row 37 17 A5 c5 (moreL S p), .row 37 17 A6 c6 (factL S p), .box g21 37 (levFr S p).cells, .box g20 37 (sumFr S p).cells, .row 3 1 (some ⟨gk, 0, none⟩) c1 (kilL S i), .row 3 1 (some ⟨gt, 0, none⟩) c2 (twiL S i), .ro 34 (some ⟨gc, oc, none⟩) ((curveS F S).map Str.cells), .row 44 5 (some ⟨g, 0, none⟩) cf (F.map Frm.cells), .row 46 2 D d (L.map Wt.cells)]) (fun _ _ v _ => i - (intOf v).toNat)
      case atStart => exact ⟨0, none, 0, none, 0, Nat.zero_le _, rfl, rfl, rfl, by rw [sumFr_zero, levFr_zero]; exact HM6.out⟩
      case round =>
        clear HM6
        obtain ⟨p, A5, c5, A6, c6, hpi, rfl, rfl, rfl, hmem⟩ := hrel
        have HM1 := Lib.hid hmem
        clear hmem
        by_cases hp : p < i
        ·
          have hpp : (p : Int) < (i : Int) := by omega
          obtain ⟨f0, f1, s, E⟩ := HEA.out p (by have := HLN.out; omega)
          have HE := Lib.hid E
          have b1 := E.x0
          have b2 := E.x1
          have b3 := E.b0
          have b4 := E.b1
          have b5 := E.bx
          have b6 := E.bnh
          have b7 := E.ban
          have b8 := E.bws
          have b9 := E.a4
          have hF1 : F.length - 1 = i := HLN.out.2.2.1.symm
          rw [hF1] at b6 b7 b9
          have hpm : (p : Int) < (m : Int) := by omega
          have hqm : ((p + 1 : Nat) : Int) < (m : Int) := by omega
          have hp10 : p ≤ 10 := by have := HLN.out; omega
          have wP : IntKind.i64.wrap ((p : Int) + 1) = (p : Int) + 1 := wrap_i64 (by omega) (by omega)
          have wX : IntKind.i64.wrap (f0.x + f1.x) = f0.x + f1.x := wrap_i64 (by omega) (by omega)
          have wS : IntKind.i64.wrap ((addAll S).a0 * f0.share) = (addAll S).a0 * f0.share := wrap_i64 (by omega) (by omega)
          have wA : IntKind.i64.wrap ((i : Int) * (f0.x + f1.x)) = (i : Int) * (f0.x + f1.x) := wrap_i64 (by omega) (by omega)
          have wB : IntKind.i64.wrap ((i : Int) * (f0.x + f1.x) - allX F i) = s.a4 := by rw [b9]; exact wrap_i64 (by omega) (by omega)
          have wC : IntKind.i64.wrap (f1.x - f0.x) = f1.x - f0.x := wrap_i64 (by omega) (by omega)
          have wD : IntKind.i64.wrap (2 * (f1.x - f0.x)) = 2 * (f1.x - f0.x) := wrap_i64 (by omega) (by omega)
          have wE : IntKind.i64.wrap (2 * s.a0) = 2 * s.a0 := wrap_i64 (by omega) (by omega)
          have wF : IntKind.i64.wrap (2 * s.a0 * f1.x) = 2 * s.a0 * f1.x := wrap_i64 (by omega) (by omega)
          have wG : IntKind.i64.wrap (2 * s.a0 * f1.x - s.a1) = 2 * s.a0 * f1.x - s.a1 := wrap_i64 (by omega) (by omega)
          have wH : IntKind.i64.wrap (2 * f1.x) = 2 * f1.x := wrap_i64 (by omega) (by omega)
          have wI : IntKind.i64.wrap (2 * f1.x - (f0.x + f1.x)) = 2 * f1.x - (f0.x + f1.x) := wrap_i64 (by omega) (by omega)
          have HN1 : Hid (inI s.a0) := ⟨by omega, by omega⟩
          have HN2 : Hid (inI (f0.x + f1.x)) := ⟨by omega, by omega⟩
          have HN3 : Hid (inI s.a4) := by unfold Hid inI; omega
          have HN4 : Hid (inI (2 * (f1.x - f0.x))) := ⟨by omega, by omega⟩
          have HN5 : Hid (inI (2 * s.a0 * f1.x - s.a1)) := ⟨by omega, by omega⟩
          have HN6 : Hid (inI (2 * f1.x - (f0.x + f1.x))) := ⟨by omega, by omega⟩
          have HN7 : Hid (inI 2) := ⟨by decide, by decide⟩
          have HN8 : Hid (inI ((addAll S).a0 * f0.share)) := ⟨by omega, by omega⟩
          have HN9 : Hid (inI 10000) := ⟨by decide, by decide⟩
          have HK0 : Hid ((F.map Frm.cells)[p]? = some f0.cells) := by unfold Hid; rw [List.getElem?_map, E.g0]; rfl
          have HK1 : Hid ((F.map Frm.cells)[p + 1]? = some f1.cells) := by unfold Hid; rw [List.getElem?_map, E.g1]; rfl
          have HKK : Hid ((kilL S i)[p]? = some [.int .i64 s.a0]) := take_get _ E.gs hp
          have HKT : Hid ((twiL S i)[p]? = some [.int .i64 s.a1]) := take_get _ E.gs hp
          have HC1 := Lib.hid (HCI.out p (by omega))
          have HC2 := Lib.hid (HCI.out (p + 1) (by omega))
          have hf1 : (dnFr S p).fits ∧ (bdFr F S p).fits := by have h1 := str_fits F S (addAll S).a0 (kF S) p; rw [E.s0] at h1; exact h1
          have hf2 : (dnFr S (p + 1)).fits ∧ (bdFr F S (p + 1)).fits := by have h1 := str_fits F S (addAll S).a0 (kF S) (p + 1); rw [E.s1] at h1; exact h1
          have hf3 : (pieceFr S s).fits := by rw [← E.e1]; exact subL_fits _ _
          have hs := HSF.out p (by omega)
          obtain ⟨e1, h1⟩ := sub_is rfl hf2.1 hf1.1
          obtain ⟨e2, h2⟩ := sub_is E.e1 (ofL_fits HN1.out) (subL_fits _ _)
          obtain ⟨e3, h3⟩ := add_is E.e2 hs.1 hf3
          obtain ⟨e4, h4⟩ := mul_is rfl hf3 (ofL_fits HN2.out)
          obtain ⟨e5, h5⟩ := add_is E.e3 hs.2 (mulL_fits _ _)
          obtain ⟨e6, h6⟩ := sub_is E.e4 hf3 (ratioL_fits _ _)
          obtain ⟨e7, h7⟩ := mul_is rfl hf1.1 (ofL_fits HN4.out)
          obtain ⟨e8, h8⟩ := add_is rfl (mulL_fits (dnFr S p) (ofL (2 * (f1.x - f0.x)))) (ofL_fits HN5.out)
          obtain ⟨e9, h9⟩ := mul_is rfl hf3 (ofL_fits HN6.out)
          obtain ⟨e10, h10⟩ := sub_is E.e5 (addL_fits _ _) (mulL_fits _ _)
          obtain ⟨e11, h11⟩ := sub_is rfl hf2.2 hf1.2
          obtain ⟨e12, h12⟩ := mul_is rfl (subL_fits (bdFr F S (p + 1)) (bdFr F S p)) (ofL_fits HN7.out)
          have H1 := Lib.hid h1
          have H2 := Lib.hid h2
          have H3 := Lib.hid h3
          have H4 := Lib.hid h4
          have H5 := Lib.hid h5
          have H6 := Lib.hid h6
          have H7 := Lib.hid h7
          have H8 := Lib.hid h8
          have H9 := Lib.hid h9
          have H10 := Lib.hid h10
          have H11 := Lib.hid h11
          have H12 := Lib.hid h12
          clear h1 h2 h3 h4 h5 h6 h7 h8 h9 h10 h11 h12
          have HRA := Lib.hid (fun w1 => law_ratio ((addAll S).a0 * f0.share) 10000 HN8.out HN9.out w1)
          generalize subL (dnFr S (p + 1)) (dnFr S p) = r1 at *
          generalize subL (bdFr F S (p + 1)) (bdFr F S p) = r11 at *
          generalize mulL r11.1 (ofL 2) = r12 at *
          generalize mulL (pieceFr S s) (ofL (f0.x + f1.x)) = r4 at *
          generalize ratioL ((addAll S).a0 * f0.share) 10000 = rt at *
          generalize mulL (dnFr S p) (ofL (2 * (f1.x - f0.x))) = r7 at *
          generalize addL r7.1 (ofL (2 * s.a0 * f1.x - s.a1)) = r8 at *
          generalize mulL (pieceFr S s) (ofL (2 * f1.x - (f0.x + f1.x))) = r9 at *
          clear E b1 b2 b3 b4 b5 b6 b7 b8 b9 hF1 hf1 hf2 hf3 hs
          go_upto_region 31 with fail
          try simp only [Act.put]
          refine wp_region_run 13 [.val (Value.slice (some ⟨g, 0, none⟩) m cf),
    .val (Value.int .i64 ((p : Int))),
    .val (Value.pointer (some ⟨g, p * 5, none⟩)),
    .val (Value.pointer (some ⟨g, p * 5, none⟩)),
    .val (Value.int .i64 (f0.x)),
    .val (Value.slice (some ⟨g, 0, none⟩) m cf),
    .val (Value.int .i64 ((p : Int))),
    .val (Value.int .i64 ((p : Int) + 1)),
    .val (Value.pointer (some ⟨g, (p + 1) * 5, none⟩)),
    .val (Value.pointer (some ⟨g, (p + 1) * 5, none⟩)),
    .val (Value.int .i64 (f1.x)),
    .val (Value.int .i64 (f0.x + f1.x)),
    .val (Value.int .i64 (f0.x + f1.x))] (by kernel_rfl) (by kernel_rfl) (Nat.le_of_ble_eq_true (by kernel_rfl)) (by kernel_rfl) (by kernel_rfl) ?_ ?_ ?_
          · exact trivial
          · exact ⟨(fun _ _ => ok_move rfl),
    (fun _ _ => ok_move rfl),
    (fun _ _ => ok_index (k := p) rfl rfl el22 (hpm) (ptr0 _ _)),
    (fun _ _ => ok_field (k := 0) rfl fl44_0 rfl),
    (fun w hb => ok_load rfl ((HM1.out.lde ct3 (i := 7) (j := 0) rfl HK0.out rfl (by omega)) w hb)),
    (fun _ _ => ok_move rfl),
    (fun _ _ => ok_move rfl),
    (fun _ _ => ok_add rfl rfl (wP) rfl),
    (fun _ _ => ok_index (k := (p + 1)) rfl rfl el22 (hqm) (ptr0 _ _)),
    (fun _ _ => ok_field (k := 0) rfl fl44_0 rfl),
    (fun w hb => ok_load rfl ((HM1.out.lde ct3 (i := 7) (j := 0) rfl HK1.out rfl (by omega)) w hb)),
    (fun _ _ => ok_add rfl rfl (wX) rfl),
    (fun _ _ => ok_assign rfl),
    trivial⟩
          intro w1' hb1
          simp only [contS, List.take_succ_cons, List.take_zero, List.drop_succ_cons, List.drop_zero]
          simp only [Act.put, List.setIfInBounds_toArray, List.set_cons_succ, List.set_cons_zero]
          have HM2 := Lib.hid (HM1.out.call hb1)
          clear HM1 hb1
          go_upto_region 32 with fail
          try simp only [Act.put]
          refine wp_region_run 25 [.val (Value.slice (some ⟨gk, 0, none⟩) i c1),
    .val (Value.int .i64 ((p : Int))),
    .val (Value.pointer (some ⟨gk, p, none⟩)),
    .val (Value.int .i64 (s.a0)),
    .call ((ofL s.a0).val),
    .val (Value.slice (some ⟨gc, oc, none⟩) m cc),
    .val (Value.int .i64 ((p : Int))),
    .val (Value.int .i64 ((p : Int) + 1)),
    .val (Value.pointer (some ⟨gc, oc + (p + 1) * 34, none⟩)),
    .val (Value.pointer (some ⟨gc, oc + (p + 1) * 34, none⟩)),
    .val ((dnFr S (p + 1)).val),
    .val (Value.slice (some ⟨gc, oc, none⟩) m cc),
    .val (Value.int .i64 ((p : Int))),
    .val (Value.pointer (some ⟨gc, oc + p * 34, none⟩)),
    .val (Value.pointer (some ⟨gc, oc + p * 34, none⟩)),
    .val ((dnFr S p).val),
    .call (Value.tuple #[r1.1.val, .int .i64 e1]),
    .val (r1.1.val),
    .val (.int .i64 e1),
    .call (r1.1.val),
    .call (Value.tuple #[(pieceFr S s).val, .int .i64 e2]),
    .val ((pieceFr S s).val),
    .val (.int .i64 e2),
    .call ((pieceFr S s).val),
    .new (NewB w1'.heap.size 37 zeroF.val.cells.toList)] (by kernel_rfl) (by kernel_rfl) (Nat.le_of_ble_eq_true (by kernel_rfl)) (by kernel_rfl) (by kernel_rfl) ?_ ?_ ?_
          · exact ⟨NewB.stays, trivial⟩
          · exact ⟨(fun _ _ => ok_move rfl),
    (fun _ _ => ok_move rfl),
    (fun _ _ => ok_index (k := p) rfl rfl el42 (hpp) (ptr01 _ _)),
    (fun w hb => ok_load rfl ((HM2.out.lde ct3 (i := 4) (j := 0) rfl HKK.out rfl (by omega)) w hb)),
    (fun w hb => ok_call rfl rfl (cf13 _ _) ((fun w _ => of_is _ HN1.out w) w hb)),
    (fun _ _ => ok_move rfl),
    (fun _ _ => ok_move rfl),
    (fun _ _ => ok_add rfl rfl (wP) rfl),
    (fun _ _ => ok_index (k := (p + 1)) rfl rfl el26 (hqm) (rfl)),
    (fun _ _ => ok_field (k := 0) rfl fl40_0 rfl),
    (fun w hb => ok_load rfl ((fun _ hb => (HM2.out.roB (i := 6) rfl).shear HC2.out hb) w hb)),
    (fun _ _ => ok_move rfl),
    (fun _ _ => ok_move rfl),
    (fun _ _ => ok_index (k := p) rfl rfl el26 (hpm) (rfl)),
    (fun _ _ => ok_field (k := 0) rfl fl40_0 rfl),
    (fun w hb => ok_load rfl ((fun _ hb => (HM2.out.roB (i := 6) rfl).shear HC1.out hb) w hb)),
    (fun w hb => ok_call rfl rfl (cf16 _ _) ((fun w _ => H1.out w) w hb)),
    (fun _ _ => ok_extract rfl rfl),
    (fun _ _ => ok_extract rfl rfl),
    (fun w hb => ok_call rfl rfl (cf15 _ _) ((fun w _ => law_sure _ _ w) w hb)),
    (fun w hb => ok_call rfl rfl (cf16 _ _) ((fun w _ => H2.out w) w hb)),
    (fun _ _ => ok_extract rfl rfl),
    (fun _ _ => ok_extract rfl rfl),
    (fun w hb => ok_call rfl rfl (cf15 _ _) ((fun w _ => law_sure _ _ w) w hb)),
    (fun _ hb => new_alloc zfF hb.size),
    trivial⟩
          intro w2' hb2
          simp only [contS, List.take_succ_cons, List.take_zero, List.drop_succ_cons, List.drop_zero]
          intro u26 hu26
          simp only [Act.put, List.setIfInBounds_toArray, List.set_cons_succ, List.set_cons_zero]
          obtain ⟨g26, rfl, hg26, hz26⟩ := hu26
          have HM3 := Lib.hid (HM2.out.newB hb2 hg26 hz26)
          clear HM2 hb2 hg26 hz26
          go_upto_region 34 with (first
            | ((with_reducible refine g_st 37 ?_); (refine wpList_stB (n := 17) (cs' := (pieceFr S s).cells) rfl _ _ rfl HM3.out 0 rfl rfl rfl frac_size rfl (FracV.cells_len _) rfl (FracV.ones _) ?_); intro w3 h3; have HM4 := Lib.hid h3; clear h3 HM3)
            | ((with_reducible refine g_ld 37 ?_); (refine wpList_ld rfl _ _ rfl _ rfl (sumFr S p).val (HM4.out.ldb frac_row (FracV.cells_len _) (i := 4) rfl _ (Below.refl _ _)) ?_))
            | ((with_reducible refine g_ld 37 ?_); (refine wpList_ld rfl _ _ rfl _ rfl (pieceFr S s).val (HM4.out.ldb frac_row (FracV.cells_len _) (i := 0) rfl _ (Below.refl _ _)) ?_))
            | (go_at_call 17; refine (H3.out _).mono ?_; rintro e w4 ⟨rfl, hb4⟩; have HM5 := Lib.hid (HM4.out.call hb4); clear hb4 HM4)
            | (go_at_call 15; refine (law_sure _ _ _).mono ?_; rintro e w5 ⟨rfl, hb5⟩; have HM6 := Lib.hid (HM5.out.call hb5); clear hb5 HM5)
            | ((with_reducible refine g_st 37 ?_); (refine wpList_stB (n := 17) (cs' := (sumFr S (p + 1)).cells) rfl _ _ rfl HM6.out 4 rfl rfl rfl frac_size rfl (FracV.cells_len _) (FracV.cells_len _) (FracV.ones _) ?_); intro w6 h6; have HM7 := Lib.hid h6; clear h6 HM6))
          try simp only [Act.put]
          refine wp_region_run 12 [.val ((levFr S p).val),
    .val ((pieceFr S s).val),
    .val (Value.int .i64 (f0.x + f1.x)),
    .call ((ofL (f0.x + f1.x)).val),
    .call (Value.tuple #[r4.1.val, .int .i64 e4]),
    .val (r4.1.val),
    .val (.int .i64 e4),
    .call (r4.1.val),
    .call (Value.tuple #[(levFr S (p + 1)).val, .int .i64 e5]),
    .val ((levFr S (p + 1)).val),
    .val (.int .i64 e5),
    .call ((levFr S (p + 1)).val)] (by kernel_rfl) (by kernel_rfl) (Nat.le_of_ble_eq_true (by kernel_rfl)) (by kernel_rfl) (by kernel_rfl) ?_ ?_ ?_
          · exact trivial
          · exact ⟨(fun w hb => ok_load rfl ((HM7.out.ldb frac_row (FracV.cells_len _) (i := 3) rfl) w hb)),
    (fun w hb => ok_load rfl ((HM7.out.ldb frac_row (FracV.cells_len _) (i := 0) rfl) w hb)),
    (fun _ _ => ok_move rfl),
    (fun w hb => ok_call rfl rfl (cf13 _ _) ((fun w _ => of_is _ HN2.out w) w hb)),
    (fun w hb => ok_call rfl rfl (cf18 _ _) ((fun w _ => H4.out w) w hb)),
    (fun _ _ => ok_extract rfl rfl),
    (fun _ _ => ok_extract rfl rfl),
    (fun w hb => ok_call rfl rfl (cf15 _ _) ((fun w _ => law_sure _ _ w) w hb)),
    (fun w hb => ok_call rfl rfl (cf17 _ _) ((fun w _ => H5.out w) w hb)),
    (fun _ _ => ok_extract rfl rfl),
    (fun _ _ => ok_extract rfl rfl),
    (fun w hb => ok_call rfl rfl (cf15 _ _) ((fun w _ => law_sure _ _ w) w hb)),
    trivial⟩
          intro w7 hb7
          simp only [contS, List.take_succ_cons, List.take_zero, List.drop_succ_cons, List.drop_zero]
          simp only [Act.put, List.setIfInBounds_toArray, List.set_cons_succ, List.set_cons_zero]
          have HM8 := Lib.hid (HM7.out.call hb7)
          clear HM7 hb7
          go_upto_region 35 with (((with_reducible refine g_st 37 ?_); (refine wpList_stB (n := 17) (cs' := (levFr S (p + 1)).cells) rfl _ _ rfl HM8.out 3 rfl rfl rfl frac_size rfl (FracV.cells_len _) (FracV.cells_len _) (FracV.ones _) ?_); intro w8 h8; have HM9 := Lib.hid h8; clear h8 HM8))
          try simp only [Act.put]
          refine wp_region_run 15 [.val (Value.slice A5 p c5),
    .val ((pieceFr S s).val),
    .val (Value.int .i64 ((addAll S).a0)),
    .val (Value.slice (some ⟨g, 0, none⟩) m cf),
    .val (Value.int .i64 ((p : Int))),
    .val (Value.pointer (some ⟨g, p * 5, none⟩)),
    .val (Value.pointer (some ⟨g, p * 5 + 2, none⟩)),
    .val (Value.int .i64 (f0.share)),
    .val (Value.int .i64 ((addAll S).a0 * f0.share)),
    .call (rt.1.val),
    .call (Value.tuple #[(moreFr S s).val, .int .i64 e6]),
    .val ((moreFr S s).val),
    .val (.int .i64 e6),
    .call ((moreFr S s).val),
    .new (NewR w8.heap.size 37 (moreFr S s).cells)] (by kernel_rfl) (by kernel_rfl) (Nat.le_of_ble_eq_true (by kernel_rfl)) (by kernel_rfl) (by kernel_rfl) ?_ ?_ ?_
          · exact ⟨NewR.stays, trivial⟩
          · exact ⟨(fun _ _ => ok_move rfl),
    (fun w hb => ok_load rfl ((HM9.out.ldb frac_row (FracV.cells_len _) (i := 0) rfl) w hb)),
    (fun _ _ => ok_move rfl),
    (fun _ _ => ok_move rfl),
    (fun _ _ => ok_move rfl),
    (fun _ _ => ok_index (k := p) rfl rfl el22 (hpm) (ptr0 _ _)),
    (fun _ _ => ok_field (k := 2) rfl fl44_2 rfl),
    (fun w hb => ok_load rfl ((HM9.out.lde ct3 (i := 8) (j := 2) rfl HK0.out rfl (by omega)) w hb)),
    (fun _ _ => ok_mul rfl rfl (wS) rfl),
    (fun w hb => ok_call rfl rfl (cf19 _ _) ((fun w _ => HRA.out w) w hb)),
    (fun w hb => ok_call rfl rfl (cf16 _ _) ((fun w _ => H6.out w) w hb)),
    (fun _ _ => ok_extract rfl rfl),
    (fun _ _ => ok_extract rfl rfl),
    (fun w hb => ok_call rfl rfl (cf15 _ _) ((fun w _ => law_sure _ _ w) w hb)),
    (fun _ hb => new_slice1 rfl el47 zfF rfl rfl (FracV.cells_len _) (by decide) (by decide) hb.size),
    trivial⟩
          intro w9 hb9
          simp only [contS, List.take_succ_cons, List.take_zero, List.drop_succ_cons, List.drop_zero]
          intro u235 hu235
          simp only [Act.put, List.setIfInBounds_toArray, List.set_cons_succ, List.set_cons_zero]
          obtain ⟨g35, rfl, hg35, hz35⟩ := hu235
          have HM10 := Lib.hid (HM9.out.call hb9)
          have HR35 := Lib.hid (NewR.rd hz35 (FracV.cells_len _))
          have HLp : Hid (p = (moreL S p).length) := by have h1 := HSL.out; unfold Hid moreL; rw [List.length_map, List.length_take]; omega
          have HLq : Hid (p = (factL S p).length) := by have h1 := HSL.out; unfold Hid factL; rw [List.length_map, List.length_take]; omega
          clear HM9 hb9 hg35 hz35
          go_upto_region 36 with (at_builtin; (refine wpList_append_M rfl _ _ rfl FracV.ei p HLp.out rfl HM10.out 1 rfl rfl HR35.out rfl (by intro cs hc v hv; rw [List.mem_singleton] at hc; subst hc; exact FracV.ones _ v hv) (by rw [← HLp.out]; unfold maxLen; omega) (by rw [← HLp.out]; omega) ?_); intro A7 c7 w10 h10; have HM11 := Lib.hid h10; clear h10 HM10)
          go_upto_region 37 with (first
            | (go_at_call 13; refine (of_is _ HN3.out _).mono ?_; rintro e w11 ⟨rfl, hb11⟩; have HM12 := Lib.hid (HM11.out.call hb11); clear hb11 HM11)
            | ((with_reducible refine g_bsl 47 ?_); (refine wpList_slc rfl rfl rfl el47 zfF rfl (cs := (ofL s.a4).cells) rfl (FracV.cells_len _) (by decide) (by decide) ?_))
            | (at_builtin; (refine wpList_append_M rfl _ _ rfl FracV.ei p HLq.out rfl (HM12.out.any _) 2 rfl rfl (Rd.new2 w11 37 17 (ofL s.a4).cells (FracV.cells_len _)) rfl (by intro cs hc v hv; rw [List.mem_singleton] at hc; subst hc; exact FracV.ones _ v hv) (by rw [← HLq.out]; unfold maxLen; omega) (by rw [← HLq.out]; omega) ?_); intro A8 c8 w12 h12; have HM13 := Lib.hid h12; clear h12 HM12))
          try simp only [Act.put]
          refine wp_region_run 24 [.val (Value.slice (some ⟨gc, oc, none⟩) m cc),
    .val (Value.int .i64 ((p : Int))),
    .val (Value.pointer (some ⟨gc, oc + p * 34, none⟩)),
    .val (Value.pointer (some ⟨gc, oc + p * 34, none⟩)),
    .val ((dnFr S p).val),
    .val (Value.slice (some ⟨g, 0, none⟩) m cf),
    .val (Value.int .i64 ((p : Int))),
    .val (Value.int .i64 ((p : Int) + 1)),
    .val (Value.pointer (some ⟨g, (p + 1) * 5, none⟩)),
    .val (Value.pointer (some ⟨g, (p + 1) * 5, none⟩)),
    .val (Value.int .i64 (f1.x)),
    .val (Value.slice (some ⟨g, 0, none⟩) m cf),
    .val (Value.int .i64 ((p : Int))),
    .val (Value.pointer (some ⟨g, p * 5, none⟩)),
    .val (Value.pointer (some ⟨g, p * 5, none⟩)),
    .val (Value.int .i64 (f0.x)),
    .val (Value.int .i64 (f1.x - f0.x)),
    .val (Value.int .i64 (2 * (f1.x - f0.x))),
    .call ((ofL (2 * (f1.x - f0.x))).val),
    .call (Value.tuple #[r7.1.val, .int .i64 e7]),
    .val (r7.1.val),
    .val (.int .i64 e7),
    .call (r7.1.val),
    .new (NewB w12.heap.size 37 zeroF.val.cells.toList)] (by kernel_rfl) (by kernel_rfl) (Nat.le_of_ble_eq_true (by kernel_rfl)) (by kernel_rfl) (by kernel_rfl) ?_ ?_ ?_
          · exact ⟨NewB.stays, trivial⟩
          · exact ⟨(fun _ _ => ok_move rfl),
    (fun _ _ => ok_move rfl),
    (fun _ _ => ok_index (k := p) rfl rfl el26 (hpm) (rfl)),
    (fun _ _ => ok_field (k := 0) rfl fl40_0 rfl),
    (fun w hb => ok_load rfl ((fun _ hb => (HM13.out.roB (i := 7) rfl).shear HC1.out hb) w hb)),
    (fun _ _ => ok_move rfl),
    (fun _ _ => ok_move rfl),
    (fun _ _ => ok_add rfl rfl (wP) rfl),
    (fun _ _ => ok_index (k := (p + 1)) rfl rfl el22 (hqm) (ptr0 _ _)),
    (fun _ _ => ok_field (k := 0) rfl fl44_0 rfl),
    (fun w hb => ok_load rfl ((HM13.out.lde ct3 (i := 8) (j := 0) rfl HK1.out rfl (by omega)) w hb)),
    (fun _ _ => ok_move rfl),
    (fun _ _ => ok_move rfl),
    (fun _ _ => ok_index (k := p) rfl rfl el22 (hpm) (ptr0 _ _)),
    (fun _ _ => ok_field (k := 0) rfl fl44_0 rfl),
    (fun w hb => ok_load rfl ((HM13.out.lde ct3 (i := 8) (j := 0) rfl HK0.out rfl (by omega)) w hb)),
    (fun _ _ => ok_sub rfl rfl (wC) rfl),
    (fun _ _ => ok_mul rfl rfl (wD) rfl),
    (fun w hb => ok_call rfl rfl (cf13 _ _) ((fun w _ => of_is _ HN4.out w) w hb)),
    (fun w hb => ok_call rfl rfl (cf18 _ _) ((fun w _ => H7.out w) w hb)),
    (fun _ _ => ok_extract rfl rfl),
    (fun _ _ => ok_extract rfl rfl),
    (fun w hb => ok_call rfl rfl (cf15 _ _) ((fun w _ => law_sure _ _ w) w hb)),
    (fun _ hb => new_alloc zfF hb.size),
    trivial⟩
          intro w13' hb13
          simp only [contS, List.take_succ_cons, List.take_zero, List.drop_succ_cons, List.drop_zero]
          intro u27 hu27
          simp only [Act.put, List.setIfInBounds_toArray, List.set_cons_succ, List.set_cons_zero]
          obtain ⟨g27, rfl, hg27, hz27⟩ := hu27
          have HM14 := Lib.hid (HM13.out.newB hb13 hg27 hz27)
          clear HM13 hb13 hg27 hz27
          go_upto_region 38 with (((with_reducible refine g_st 37 ?_); (refine wpList_stB (n := 17) (cs' := r7.1.cells) rfl _ _ rfl HM14.out 0 rfl rfl rfl frac_size rfl (FracV.cells_len _) rfl (FracV.ones _) ?_); intro w14' h14; have HM15 := Lib.hid h14; clear h14 HM14))
          try simp only [Act.put]
          refine wp_region_run 23 [.val (r7.1.val),
    .val (Value.slice (some ⟨gk, 0, none⟩) i c1),
    .val (Value.int .i64 ((p : Int))),
    .val (Value.pointer (some ⟨gk, p, none⟩)),
    .val (Value.int .i64 (s.a0)),
    .val (Value.int .i64 (2 * s.a0)),
    .val (Value.slice (some ⟨g, 0, none⟩) m cf),
    .val (Value.int .i64 ((p : Int))),
    .val (Value.int .i64 ((p : Int) + 1)),
    .val (Value.pointer (some ⟨g, (p + 1) * 5, none⟩)),
    .val (Value.pointer (some ⟨g, (p + 1) * 5, none⟩)),
    .val (Value.int .i64 (f1.x)),
    .val (Value.int .i64 (2 * s.a0 * f1.x)),
    .val (Value.slice (some ⟨gt, 0, none⟩) i c2),
    .val (Value.int .i64 ((p : Int))),
    .val (Value.pointer (some ⟨gt, p, none⟩)),
    .val (Value.int .i64 (s.a1)),
    .val (Value.int .i64 (2 * s.a0 * f1.x - s.a1)),
    .call ((ofL (2 * s.a0 * f1.x - s.a1)).val),
    .call (Value.tuple #[r8.1.val, .int .i64 e8]),
    .val (r8.1.val),
    .val (.int .i64 e8),
    .call (r8.1.val)] (by kernel_rfl) (by kernel_rfl) (Nat.le_of_ble_eq_true (by kernel_rfl)) (by kernel_rfl) (by kernel_rfl) ?_ ?_ ?_
          · exact trivial
          · exact ⟨(fun w hb => ok_load rfl ((HM15.out.ldb frac_row (FracV.cells_len _) (i := 0) rfl) w hb)),
    (fun _ _ => ok_move rfl),
    (fun _ _ => ok_move rfl),
    (fun _ _ => ok_index (k := p) rfl rfl el42 (hpp) (ptr01 _ _)),
    (fun w hb => ok_load rfl ((HM15.out.lde ct3 (i := 6) (j := 0) rfl HKK.out rfl (by omega)) w hb)),
    (fun _ _ => ok_mul rfl rfl (wE) rfl),
    (fun _ _ => ok_move rfl),
    (fun _ _ => ok_move rfl),
    (fun _ _ => ok_add rfl rfl (wP) rfl),
    (fun _ _ => ok_index (k := (p + 1)) rfl rfl el22 (hqm) (ptr0 _ _)),
    (fun _ _ => ok_field (k := 0) rfl fl44_0 rfl),
    (fun w hb => ok_load rfl ((HM15.out.lde ct3 (i := 9) (j := 0) rfl HK1.out rfl (by omega)) w hb)),
    (fun _ _ => ok_mul rfl rfl (wF) rfl),
    (fun _ _ => ok_move rfl),
    (fun _ _ => ok_move rfl),
    (fun _ _ => ok_index (k := p) rfl rfl el42 (hpp) (ptr01 _ _)),
    (fun w hb => ok_load rfl ((HM15.out.lde ct3 (i := 7) (j := 0) rfl HKT.out rfl (by omega)) w hb)),
    (fun _ _ => ok_sub rfl rfl (wG) rfl),
    (fun w hb => ok_call rfl rfl (cf13 _ _) ((fun w _ => of_is _ HN5.out w) w hb)),
    (fun w hb => ok_call rfl rfl (cf17 _ _) ((fun w _ => H8.out w) w hb)),
    (fun _ _ => ok_extract rfl rfl),
    (fun _ _ => ok_extract rfl rfl),
    (fun w hb => ok_call rfl rfl (cf15 _ _) ((fun w _ => law_sure _ _ w) w hb)),
    trivial⟩
          intro w15' hb15
          simp only [contS, List.take_succ_cons, List.take_zero, List.drop_succ_cons, List.drop_zero]
          simp only [Act.put, List.setIfInBounds_toArray, List.set_cons_succ, List.set_cons_zero]
          have HM16 := Lib.hid (HM15.out.call hb15)
          clear HM15 hb15
          go_upto_region 39 with (((with_reducible refine g_st 37 ?_); (refine wpList_stB (n := 17) (cs' := r8.1.cells) rfl _ _ rfl HM16.out 0 rfl rfl rfl frac_size rfl (FracV.cells_len _) (FracV.cells_len _) (FracV.ones _) ?_); intro w16' h16; have HM17 := Lib.hid h16; clear h16 HM16))
          try simp only [Act.put]
          refine wp_region_run 20 [.val (r8.1.val),
    .val ((pieceFr S s).val),
    .val (Value.slice (some ⟨g, 0, none⟩) m cf),
    .val (Value.int .i64 ((p : Int))),
    .val (Value.int .i64 ((p : Int) + 1)),
    .val (Value.pointer (some ⟨g, (p + 1) * 5, none⟩)),
    .val (Value.pointer (some ⟨g, (p + 1) * 5, none⟩)),
    .val (Value.int .i64 (f1.x)),
    .val (Value.int .i64 (2 * f1.x)),
    .val (Value.int .i64 (f0.x + f1.x)),
    .val (Value.int .i64 (2 * f1.x - (f0.x + f1.x))),
    .call ((ofL (2 * f1.x - (f0.x + f1.x))).val),
    .call (Value.tuple #[r9.1.val, .int .i64 e9]),
    .val (r9.1.val),
    .val (.int .i64 e9),
    .call (r9.1.val),
    .call (Value.tuple #[r12.1.val, .int .i64 e10]),
    .val (r12.1.val),
    .val (.int .i64 e10),
    .call (r12.1.val)] (by kernel_rfl) (by kernel_rfl) (Nat.le_of_ble_eq_true (by kernel_rfl)) (by kernel_rfl) (by kernel_rfl) ?_ ?_ ?_
          · exact trivial
          · exact ⟨(fun w hb => ok_load rfl ((HM17.out.ldb frac_row (FracV.cells_len _) (i := 0) rfl) w hb)),
    (fun w hb => ok_load rfl ((HM17.out.ldb frac_row (FracV.cells_len _) (i := 1) rfl) w hb)),
    (fun _ _ => ok_move rfl),
    (fun _ _ => ok_move rfl),
    (fun _ _ => ok_add rfl rfl (wP) rfl),
    (fun _ _ => ok_index (k := (p + 1)) rfl rfl el22 (hqm) (ptr0 _ _)),
    (fun _ _ => ok_field (k := 0) rfl fl44_0 rfl),
    (fun w hb => ok_load rfl ((HM17.out.lde ct3 (i := 9) (j := 0) rfl HK1.out rfl (by omega)) w hb)),
    (fun _ _ => ok_mul rfl rfl (wH) rfl),
    (fun _ _ => ok_move rfl),
    (fun _ _ => ok_sub rfl rfl (wI) rfl),
    (fun w hb => ok_call rfl rfl (cf13 _ _) ((fun w _ => of_is _ HN6.out w) w hb)),
    (fun w hb => ok_call rfl rfl (cf18 _ _) ((fun w _ => H9.out w) w hb)),
    (fun _ _ => ok_extract rfl rfl),
    (fun _ _ => ok_extract rfl rfl),
    (fun w hb => ok_call rfl rfl (cf15 _ _) ((fun w _ => law_sure _ _ w) w hb)),
    (fun w hb => ok_call rfl rfl (cf16 _ _) ((fun w _ => H10.out w) w hb)),
    (fun _ _ => ok_extract rfl rfl),
    (fun _ _ => ok_extract rfl rfl),
    (fun w hb => ok_call rfl rfl (cf15 _ _) ((fun w _ => law_sure _ _ w) w hb)),
    trivial⟩
          intro w17 hb17
          simp only [contS, List.take_succ_cons, List.take_zero, List.drop_succ_cons, List.drop_zero]
          simp only [Act.put, List.setIfInBounds_toArray, List.set_cons_succ, List.set_cons_zero]
          have HM18 := Lib.hid (HM17.out.call hb17)
          clear HM17 hb17
          go_upto_region 40 with (((with_reducible refine g_st 37 ?_); (refine wpList_stB (n := 17) (cs' := r12.1.cells) rfl _ _ rfl HM18.out 0 rfl rfl rfl frac_size rfl (FracV.cells_len _) (FracV.cells_len _) (FracV.ones _) ?_); intro w18 h18; have HM19 := Lib.hid h18; clear h18 HM18))
          try simp only [Act.put]
          refine wp_region_run 22 [.val (r12.1.val),
    .val (Value.slice (some ⟨gc, oc, none⟩) m cc),
    .val (Value.int .i64 ((p : Int))),
    .val (Value.int .i64 ((p : Int) + 1)),
    .val (Value.pointer (some ⟨gc, oc + (p + 1) * 34, none⟩)),
    .val (Value.pointer (some ⟨gc, oc + (p + 1) * 34 + 17, none⟩)),
    .val ((bdFr F S (p + 1)).val),
    .val (Value.slice (some ⟨gc, oc, none⟩) m cc),
    .val (Value.int .i64 ((p : Int))),
    .val (Value.pointer (some ⟨gc, oc + p * 34, none⟩)),
    .val (Value.pointer (some ⟨gc, oc + p * 34 + 17, none⟩)),
    .val ((bdFr F S p).val),
    .call (Value.tuple #[r11.1.val, .int .i64 e11]),
    .val (r11.1.val),
    .val (.int .i64 e11),
    .call (r11.1.val),
    .call ((ofL 2).val),
    .call (Value.tuple #[r12.1.val, .int .i64 e12]),
    .val (r12.1.val),
    .val (.int .i64 e12),
    .call (r12.1.val),
    .val (Value.bool false)] (by kernel_rfl) (by kernel_rfl) (Nat.le_of_ble_eq_true (by kernel_rfl)) (by kernel_rfl) (by kernel_rfl) ?_ ?_ ?_
          · exact trivial
          · exact ⟨(fun w hb => ok_load rfl ((HM19.out.ldb frac_row (FracV.cells_len _) (i := 0) rfl) w hb)),
    (fun _ _ => ok_move rfl),
    (fun _ _ => ok_move rfl),
    (fun _ _ => ok_add rfl rfl (wP) rfl),
    (fun _ _ => ok_index (k := (p + 1)) rfl rfl el26 (hqm) (rfl)),
    (fun _ _ => ok_field (k := 17) rfl fl40_1 rfl),
    (fun w hb => ok_load rfl ((fun _ hb => (HM19.out.roB (i := 8) rfl).bend HC2.out hb) w hb)),
    (fun _ _ => ok_move rfl),
    (fun _ _ => ok_move rfl),
    (fun _ _ => ok_index (k := p) rfl rfl el26 (hpm) (rfl)),
    (fun _ _ => ok_field (k := 17) rfl fl40_1 rfl),
    (fun w hb => ok_load rfl ((fun _ hb => (HM19.out.roB (i := 8) rfl).bend HC1.out hb) w hb)),
    (fun w hb => ok_call rfl rfl (cf16 _ _) ((fun w _ => H11.out w) w hb)),
    (fun _ _ => ok_extract rfl rfl),
    (fun _ _ => ok_extract rfl rfl),
    (fun w hb => ok_call rfl rfl (cf15 _ _) ((fun w _ => law_sure _ _ w) w hb)),
    (fun w hb => ok_call rfl rfl (cf13 _ _) ((fun w _ => of_is _ HN7.out w) w hb)),
    (fun w hb => ok_call rfl rfl (cf18 _ _) ((fun w _ => H12.out w) w hb)),
    (fun _ _ => ok_extract rfl rfl),
    (fun _ _ => ok_extract rfl rfl),
    (fun w hb => ok_call rfl rfl (cf15 _ _) ((fun w _ => law_sure _ _ w) w hb)),
    (fun w _ => op_fr_neq r12.1 w rfl rfl),
    trivial⟩
          intro w19 hb19
          simp only [contS, List.take_succ_cons, List.take_zero, List.drop_succ_cons, List.drop_zero]
          simp only [Act.put, List.setIfInBounds_toArray, List.set_cons_succ, List.set_cons_zero]
          have HM20 := Lib.hid ((HM19.out.call hb19).tail.tail)
          clear HM19 hb19
          go_wp2
          go_roundw
          case rel =>
            refine ⟨p + 1, A7, c7, A8, c8, by omega, by go_num, by go_num, by go_num, ?_⟩
            have h1 := HM20.out
            unfold moreL factL at h1 ⊢
            rw [take_map_succ _ HE.out.gs, take_map_succ _ HE.out.gs]
            exact h1
          case measure => simp [intOf]; omega
        · obtain rfl : p = i := by omega
          have hpp : ¬ (p : Int) < (p : Int) := by omega
          have hS0 : 0 < S.length := by have := HSL.out; omega
          obtain ⟨gm, rfl⟩ := HM1.out.at0 (i := 0) rfl (take_ne _ (by omega) hS0)
          obtain ⟨gf, rfl⟩ := HM1.out.at0 (i := 1) rfl (take_ne _ (by omega) hS0)
          obtain ⟨f0, f1, s0, E0⟩ := HEA.out 0 (by have := HLN.out; omega)
          have hF1 : F.length - 1 = p := HLN.out.2.2.1.symm
          have HI4 : Hid (∀ k s, k < p → S[k]? = some s → inI s.a4 ∧ (moreFr S s).fits) := fun k s hk hs => by
            obtain ⟨g0, g1, s', E⟩ := HEA.out k (by have := HLN.out; omega)
            have e1 := E.gs
            rw [hs] at e1
            injection e1 with e1
            subst e1
            have b6 := E.bnh
            have b7 := E.ban
            have b9 := E.a4
            rw [← E.e4]
            exact ⟨by unfold inI; omega, subL_fits _ _⟩
          have HG0 := Lib.hid E0.gs
          have hz := HI4.out 0 s0 (by omega) E0.gs
          have HSUM : Hid (sumFr S p = ofL (addAll S).a0 ∧ levFr S p = ofL (addAll S).a1) := by
            have h1 := HAL.out.2.2.2.2
            rw [hF1, hT0] at h1
            exact h1
          have HZS := Lib.hid hz
          clear E0 hz
          go_wp2
          go_loopw [336] (fun v336 wq => ∃ k : Nat, k ≤ p ∧ v336 = .int .i64 k ∧
            Mem w wq [.row 37 17 (some ⟨gm, 0, none⟩) c5 (moreL S p), .row 37 17 (some ⟨gf, 0, none⟩) c6 (factL S p), .box g21 37 (levFr S p).cells, .box g20 37 (sumFr S p).cells]) (fun v _ => p - (intOf v).toNat)
          case atStart => exact ⟨0, Nat.zero_le _, rfl, HM1.out.sub (by repeat (first | exact List.Sublist.slnil | exact List.nil_sublist _ | apply List.Sublist.cons_cons))⟩
          case round =>
            clear HM1
            obtain ⟨k, hkp, rfl, hmem⟩ := hrel
            have HM1 := Lib.hid hmem
            clear hmem
            by_cases hk : k < p
            · have hkk : (k : Int) < (p : Int) := by omega
              have hz : ((0 : Nat) : Int) < (p : Int) := by omega
              have hp10 : p ≤ 10 := by have := HLN.out; omega
              obtain ⟨s, hs⟩ : ∃ s, S[k]? = some s := ⟨S[k]'(by have := HSL.out; omega), List.getElem?_eq_getElem _⟩
              have hk2 := HI4.out k s hk hs
              have hev := HEV.out k s s0 hs HG0.out
              obtain ⟨e1, h1⟩ := mul_is rfl hk2.2 (ofL_fits HZS.out.1)
              obtain ⟨e2, h2⟩ := mul_is hev.symm HZS.out.2 (ofL_fits hk2.1)
              have H1 := Lib.hid h1
              have H2 := Lib.hid h2
              have HA := Lib.hid (take_get (fun s => (moreFr S s).cells) hs hk)
              have HB := Lib.hid (take_get (fun s : Sec => (ofL s.a4).cells) hs hk)
              have HA0 := Lib.hid (take_get (fun s => (moreFr S s).cells) HG0.out (show 0 < p by omega))
              have HB0 := Lib.hid (take_get (fun s : Sec => (ofL s.a4).cells) HG0.out (show 0 < p by omega))
              clear h1 h2 hev hk2
              generalize mulL (moreFr S s) (ofL s0.a4) = r at *
              go_upto_region 46 with fail
              try simp only [Act.put]
              refine wp_region_run 23 [.val (Value.slice (some ⟨gm, 0, none⟩) p c5),
    .val (Value.int .i64 ((k : Int))),
    .val (Value.pointer (some ⟨gm, k * 17, none⟩)),
    .val ((moreFr S s).val),
    .val (Value.slice (some ⟨gf, 0, none⟩) p c6),
    .val (Value.pointer (some ⟨gf, 0, none⟩)),
    .val ((ofL s0.a4).val),
    .call (Value.tuple #[r.1.val, .int .i64 e1]),
    .val (r.1.val),
    .val (.int .i64 e1),
    .call (r.1.val),
    .val (Value.slice (some ⟨gm, 0, none⟩) p c5),
    .val (Value.pointer (some ⟨gm, 0, none⟩)),
    .val ((moreFr S s0).val),
    .val (Value.slice (some ⟨gf, 0, none⟩) p c6),
    .val (Value.int .i64 ((k : Int))),
    .val (Value.pointer (some ⟨gf, k * 17, none⟩)),
    .val ((ofL s.a4).val),
    .call (Value.tuple #[r.1.val, .int .i64 e2]),
    .val (r.1.val),
    .val (.int .i64 e2),
    .call (r.1.val),
    .val (Value.bool false)] (by kernel_rfl) (by kernel_rfl) (Nat.le_of_ble_eq_true (by kernel_rfl)) (by kernel_rfl) (by kernel_rfl) ?_ ?_ ?_
              · exact trivial
              · exact ⟨(fun _ _ => ok_move rfl),
    (fun _ _ => ok_move rfl),
    (fun _ _ => ok_index (k := k) rfl rfl el47 (hkk) (ptr0 _ _)),
    (fun w hb => ok_load rfl ((HM1.out.ldr frac_row (i := 0) rfl HA.out rfl) w hb)),
    (fun _ _ => ok_move rfl),
    (fun _ _ => ok_index (k := 0) rfl rfl el47 (hz) (rfl)),
    (fun w hb => ok_load rfl ((HM1.out.ldr frac_row (i := 1) (k := 0) rfl HB0.out rfl) w hb)),
    (fun w hb => ok_call rfl rfl (cf18 _ _) ((fun w _ => H1.out w) w hb)),
    (fun _ _ => ok_extract rfl rfl),
    (fun _ _ => ok_extract rfl rfl),
    (fun w hb => ok_call rfl rfl (cf15 _ _) ((fun w _ => law_sure _ _ w) w hb)),
    (fun _ _ => ok_move rfl),
    (fun _ _ => ok_index (k := 0) rfl rfl el47 (hz) (rfl)),
    (fun w hb => ok_load rfl ((HM1.out.ldr frac_row (i := 0) (k := 0) rfl HA0.out rfl) w hb)),
    (fun _ _ => ok_move rfl),
    (fun _ _ => ok_move rfl),
    (fun _ _ => ok_index (k := k) rfl rfl el47 (hkk) (ptr0 _ _)),
    (fun w hb => ok_load rfl ((HM1.out.ldr frac_row (i := 1) rfl HB.out rfl) w hb)),
    (fun w hb => ok_call rfl rfl (cf18 _ _) ((fun w _ => H2.out w) w hb)),
    (fun _ _ => ok_extract rfl rfl),
    (fun _ _ => ok_extract rfl rfl),
    (fun w hb => ok_call rfl rfl (cf15 _ _) ((fun w _ => law_sure _ _ w) w hb)),
    (fun w _ => op_fr_neq r.1 w rfl rfl),
    trivial⟩
              intro w1' hb1
              simp only [contS, List.take_succ_cons, List.take_zero, List.drop_succ_cons, List.drop_zero]
              simp only [Act.put, List.setIfInBounds_toArray, List.set_cons_succ, List.set_cons_zero]
              have HM2 := Lib.hid (HM1.out.call hb1)
              clear HM1 hb1
              go_wp2
              go_roundw
              case rel => exact ⟨k + 1, by omega, by go_num, HM2.out⟩
              case measure => simp [intOf]; omega
            · obtain rfl : k = p := by omega
              have hkk : ¬ (k : Int) < (k : Int) := by omega
              have hA := HSB.out.all
              have hw := HSB.out.w
              have HI0 : Hid (inI (addAll S).a0) := ⟨by omega, by omega⟩
              have HI1 : Hid (inI (addAll S).a1) := ⟨by omega, by omega⟩
              clear hA hw
              rw [HSUM.out.1, HSUM.out.2] at HM1
              go_upto_region 49 with fail
              try simp only [Act.put]
              refine wp_region_run 11 [.val ((ofL (addAll S).a0).val),
    .val (Value.int .i64 ((addAll S).a0)),
    .call ((ofL (addAll S).a0).val),
    .val (Value.bool true),
    .val (Value.bool true),
    .val ((ofL (addAll S).a1).val),
    .val (Value.int .i64 ((addAll S).a1)),
    .call ((ofL (addAll S).a1).val),
    .val (Value.bool true),
    .val (Value.bool true),
    .val (Value.bool true)] (by kernel_rfl) (by kernel_rfl) (Nat.le_of_ble_eq_true (by kernel_rfl)) (by kernel_rfl) (by kernel_rfl) ?_ ?_ ?_
              · exact trivial
              · exact ⟨(fun w hb => ok_load rfl ((HM1.out.ldb frac_row (FracV.cells_len _) (i := 3) rfl) w hb)),
    (fun _ _ => ok_move rfl),
    (fun w hb => ok_call rfl rfl (cf13 _ _) ((fun w _ => of_is _ HI0.out w) w hb)),
    (fun w _ => op_fr_eql _ (ofL_fits HI0.out) w rfl rfl),
    (fun _ _ => ok_move rfl),
    (fun w hb => ok_load rfl ((HM1.out.ldb frac_row (FracV.cells_len _) (i := 2) rfl) w hb)),
    (fun _ _ => ok_move rfl),
    (fun w hb => ok_call rfl rfl (cf13 _ _) ((fun w _ => of_is _ HI1.out w) w hb)),
    (fun w _ => op_fr_eql _ (ofL_fits HI1.out) w rfl rfl),
    (fun _ _ => ok_pick rfl rfl),
    (fun _ _ => ok_assign rfl),
    trivial⟩
              intro w1' hb1
              simp only [contS, List.take_succ_cons, List.take_zero, List.drop_succ_cons, List.drop_zero]
              simp only [Act.put, List.setIfInBounds_toArray, List.set_cons_succ, List.set_cons_zero]
              have HM2 := Lib.hid (HM1.out.call hb1)
              go_wp2
              go_ret
              exact ⟨rfl, HM2.out.from_⟩
end Go.Proofs.Ytcdfnlgimbecgaa
