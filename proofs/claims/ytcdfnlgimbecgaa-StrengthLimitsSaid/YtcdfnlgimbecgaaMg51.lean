/-
  twistlocklaw18: StrengthLimits, walked.
-/
import Derived.Test.YtcdfnlgimbecgaaMg46
import Derived.Test.YtcdfnlgimbecgaaMg50
import Derived.Deep.Cut
import Derived.RegionTactic
import Derived.BigRegion

namespace Go.Proofs.Ytcdfnlgimbecgaa
open Go.RowKit

theorem curveS_at (F : List Frm) (S : List Sec) {i : Nat} (h : i < F.length) : (curveS F S).getD i str0 = strF F S (addAll S).a0 (kF S) i := by
  unfold curveS
  simp [List.getD_eq_getElem?_getD, List.getElem?_range h]
theorem made_lim {F t : List Frm} {r x : Int} (M : MadeF F t r x) {L : List Wt} (hw : ∀ u ∈ L, (-20000 ≤ u.x ∧ u.x < x) ∧ (0 ≤ u.kilos ∧ u.kilos < 65536)) (hl : L.length ≤ 8) (hB : SecB (secL F L) (dF F)) : LimC F (curveS F (secL F L)) := by
  have hok : ∀ f ∈ F, f.ok = true := fun f hf => okFrom_ok _ _ M.okAll f hf
  have h5 := made_a5 M L
  have hz := fun i (hi : i < F.length) => made_z M hw hl (j := i) (by omega) (10000 * (addAll (secL F L)).a5).toNat (by omega)
  have he := fun i (hi : i < F.length) => (curveS_at F (secL F L) hi).trans (hB.str i (by have := frmX_ok hok i; omega))
  refine ⟨M.right, by unfold curveS; simp, fun i hi => ?_, fun i hi => ?_⟩
  · rw [he i hi]
    exact ⟨ofRat_right _, ofRat_right _⟩
  · rw [he i hi]
    exact ⟨bd_num (hz i hi).1 (by omega) (by omega), bd_num (hz i hi).2 (by omega) (by omega)⟩
/-- both limits of a frame are written -/
theorem lim_cells {F : List Frm} {C : List Str} {k : Nat} (hk : k < F.length) {a b : Value} (ha : a = .int .i64 (ceilN (C.getD k str0).shear : Int)) (hb : b = .int .i64 (ceilN (C.getD k str0).bend : Int)) (h1 : k < ((limTo F C k).map Frm.cells).length) (h2 : k < (((limTo F C k).map Frm.cells).set k ((((limTo F C k).map Frm.cells)[k]'h1).set 3 a)).length) :
    (((limTo F C k).map Frm.cells).set k ((((limTo F C k).map Frm.cells)[k]'h1).set 3 a)).set k (((((limTo F C k).map Frm.cells).set k ((((limTo F C k).map Frm.cells)[k]'h1).set 3 a))[k]'h2).set 4 b) = (limTo F C (k + 1)).map Frm.cells := by
  have e : ((limTo F C k).map Frm.cells)[k]'h1 = Frm.cells (F.getD k frm0) := by
    have h3 := limTo_get F C k hk
    rw [if_neg (by omega)] at h3
    have h4 : ((limTo F C k).map Frm.cells)[k]? = some (Frm.cells (F.getD k frm0)) := by rw [List.getElem?_map, h3]; rfl
    rw [List.getElem?_eq_getElem h1] at h4
    injection h4
  rw [List.getElem_set_self, List.set_set, e, ← limTo_set F C hk, List.map_set, ha, hb]
  rfl
theorem set_cellsL {F : List Frm} {i j : Nat} {v : Value} (hi : i < F.length) (h : i < (F.map Frm.cells).length) (f' : Frm) (hf : f'.cells = (F[i].cells).set j v) : (F.map Frm.cells).set i (((F.map Frm.cells)[i]'h).set j v) = (F.set i f').map Frm.cells := by
  rw [List.map_set, hf]
  simp
theorem over_none {F : List Frm} {C : List Str} (H : LimC F C) (hf : ∀ s ∈ C, s.fits) (hl : F.length ≤ 1000) (g cf gc oc cc n m : Nat) (hn : n = F.length) (hm : m = C.length) (w : World) (h : Rd w w.heap.size 5 (some ⟨g, 0, none⟩) ((limTo F C F.length).map Frm.cells)) (h' : Rd w w.heap.size 34 (some ⟨gc, oc, none⟩) (C.map Str.cells)) :
    Calls Try.prog 22 #[.slice (some ⟨g, 0, none⟩) n cf, .slice (some ⟨gc, oc, none⟩) m cc] w fun e w' => ∃ A c, e = .returned (.tuple #[.slice A 0 c, .int .i64 0]) ∧ From w w' := by
  have h1 := st_Over (some ⟨g, 0, none⟩) (some ⟨gc, oc, none⟩) cf cc n m (limTo F C F.length) C (by rw [limTo_len]; exact hn) hm w h h' (by rw [limTo_len]; omega) (by rw [H.len]; omega) hf
  rw [H.none.2] at h1
  refine h1.mono ?_
  rintro e w' ⟨A, c, rfl, _, hb⟩
  exact ⟨A, c, rfl, hb⟩
theorem over_one {F G : List Frm} {C : List Str} {i : Nat} (H : LimC F C) (hf : ∀ s ∈ C, s.fits) (hl : F.length ≤ 1000) (hG : G.length = F.length) (ho : overF G C = ([(i : Int)], 0)) (g cf gc oc cc n m : Nat) (hn : n = F.length) (hm : m = C.length) (w : World) (h : Rd w w.heap.size 5 (some ⟨g, 0, none⟩) (G.map Frm.cells)) (h' : Rd w w.heap.size 34 (some ⟨gc, oc, none⟩) (C.map Str.cells)) :
    Calls Try.prog 22 #[.slice (some ⟨g, 0, none⟩) n cf, .slice (some ⟨gc, oc, none⟩) m cc] w fun e w' => ∃ ga oa c, e = .returned (.tuple #[.slice (some ⟨ga, oa, none⟩) 1 c, .int .i64 0]) ∧ Rd w' w'.heap.size 1 (some ⟨ga, oa, none⟩) [[.int .i64 (i : Int)]] ∧ From w w' := by
  have h1 := st_Over (some ⟨g, 0, none⟩) (some ⟨gc, oc, none⟩) cf cc n m G C (by rw [hG]; exact hn) hm w h h' (by rw [hG]; omega) (by rw [H.len]; omega) hf
  rw [ho] at h1
  refine h1.mono ?_
  rintro e w' ⟨A, c, rfl, hr, hb⟩
  obtain ⟨ga, oa, ha, _⟩ := hr 0 _ rfl
  subst ha
  exact ⟨ga, oa, c, rfl, hr, hb⟩



set_option maxRecDepth 100000 in
set_option maxHeartbeats 8000000 in
theorem law_Limits (A : Option Addr) (c n : Nat) (l : List Sml) (which : Int) (bend : Bool) (hn : n = l.length) (hok : ∀ x ∈ l, x.ok) (hnc : n ≤ c) (hwh : 0 ≤ which ∧ which ≤ 255) (w : World) (h : Rd w w.heap.size 5 A (l.map Sml.cells)) (hl : l.length ≤ 20000000000000) :
    Calls Try.prog 6 #[.slice A n c, .int .u8 which, .bool bend] w fun e w' => e = .returned (.bool true) ∧ Below w.heap.size w w' := by
  have HMA := Lib.hid (fun (w1 : World) (hb : From w w1) => law_Made A c n l hn hok hnc w1 ((h.below hb (Nat.le_refl _)).more hb.size) hl)
  obtain ⟨t, r0, M, _⟩ := madeF_is hok
  have hwt := made_wts hok
  have hL8 := madeL_len l
  obtain ⟨F, hF⟩ : ∃ F, F = madeF l := ⟨_, rfl⟩
  obtain ⟨L, hL⟩ : ∃ L, L = madeL l := ⟨_, rfl⟩
  obtain ⟨xl, hxl⟩ : ∃ xl, xl = madeW l - 20000 := ⟨_, rfl⟩
  rw [← hF, ← hxl] at M
  rw [← hL] at hL8
  rw [← hL, ← hxl] at hwt
  obtain ⟨m, hm⟩ : ∃ m, m = F.length := ⟨_, rfl⟩
  obtain ⟨q, hq⟩ : ∃ q, q = L.length := ⟨_, rfl⟩
  obtain ⟨nn, hnn⟩ : ∃ nn, nn = F.length - 1 := ⟨_, rfl⟩
  have hlen : F.length = t.length + 3 := by rw [M.eq]; simp
  have hm3 : 3 ≤ m ∧ m ≤ 10 := by have := M.len; omega
  have hMP : ∀ w1, MadePost w1 l = fun e w' => ∃ g c D d, e = .returned (.tuple #[.slice (some ⟨g, 0, none⟩) m c, .slice D q d]) ∧ OwnS w' w1.heap.size 44 5 (some ⟨g, 0, none⟩) c (F.map Frm.cells) ∧
    OwnS w' w1.heap.size 46 2 D d (L.map Wt.cells) ∧ (∀ a, D = some a → a.block ≠ g) ∧ Below w1.heap.size w1 w' := by
    intro w1
    unfold MadePost
    rw [hm, hq, hF, hL]
  have HMP := Lib.hid hMP
  have HM := Lib.hid M
  have HWT := Lib.hid hwt
  have HLN := Lib.hid (And.intro hm (And.intro hq (And.intro hnn (And.intro hm3 hL8))))
  have wN : IntKind.i64.wrap ((m : Int) - 1) = (nn : Int) := by rw [wrap_i64 (by omega) (by omega)]; omega
  clear hMP hn hok hl M hwt hF hL hxl hL8 hlen hm hq hnn hm3 h
  have hH : Hull F L := hull_made HM.out L HWT.out (by have := HLN.out; omega)
  obtain ⟨hO1, hO2, hO3⟩ := hull_ok hH
  have hLC : LimC F (curveS F (secL F L)) := made_lim HM.out HWT.out (by have := HLN.out; omega) hO2
  obtain ⟨C, hC⟩ : ∃ C, C = curveS F (secL F L) := ⟨_, rfl⟩
  have hCf : ∀ s ∈ C, s.fits := by
    rw [hC]
    intro s hs
    unfold curveS at hs
    obtain ⟨i, _, rfl⟩ := List.mem_map.1 hs
    exact str_fits _ _ _ _ _
  have HCG := Lib.hid (fun g cf D d w1 => curve_good hO3 (some ⟨g, 0, none⟩) D cf d m q HLN.out.1 HLN.out.2.1 w1)
  rw [← hC] at hLC HCG
  have hCl : C.length = m := by rw [hLC.len]; exact HLN.out.1.symm
  have hF0 : 0 < F.length := by have := HLN.out; omega
  have hCS : C.map Str.cells ≠ [] := by
    intro e
    have h1 := congrArg List.length e
    rw [List.length_map, hCl] at h1
    have := HLN.out
    simp at h1
    omega
  have HCI : Hid (∀ i, i < m → (C.map Str.cells)[i]? = some (Str.cells (C.getD i str0))) := fun i hi => by
    rw [List.getElem?_map, List.getElem?_eq_getElem (by omega)]
    simp [show i < C.length by omega]
  have HUP : Hid (∀ i, i < m → ∀ w1, (Calls Try.prog 20 #[(C.getD i str0).shear.val] w1 fun e w' => e = .returned (.int .i64 (ceilN (C.getD i str0).shear : Int)) ∧ From w1 w') ∧ (Calls Try.prog 20 #[(C.getD i str0).bend.val] w1 fun e w' => e = .returned (.int .i64 (ceilN (C.getD i str0).bend : Int)) ∧ From w1 w')) := fun i hi w1 => by
    have hiF : i < F.length := by have := HLN.out; omega
    have h1 := hLC.sr i hiF
    have h2 := hLC.bd i hiF
    have h3 := hLC.le i hiF
    have h4 := hCf (C.getD i str0) (by rw [show C.getD i str0 = C[i]'(by omega) by simp [show i < C.length by omega]]; exact List.getElem_mem _)
    have e1 := upI_eq h1.1 h2.1
    have e2 := upI_eq h1.2 h2.2
    rw [← e1, ← e2]
    exact ⟨law_up _ h4.1 (by omega) w1, law_up _ h4.2 (by omega) w1⟩
  have HLC := Lib.hid hLC
  have HCF := Lib.hid hCf
  have HCL := Lib.hid hCl
  clear hH hO1 hO2 hO3 hLC hC hCf hCl
  have wWh : IntKind.i64.wrap which = which := wrap_i64 (by omega) (by omega)
  obtain ⟨ii, hii⟩ : ∃ ii : Nat, (ii : Int) = which.tmod (m : Int) := ⟨(which.tmod (m : Int)).toNat, by have := tmod_lt (a := which) (b := (m : Int)) hwh.1 (by have := HLN.out; omega); omega⟩
  have hiim : ii < m := by have := tmod_lt (a := which) (b := (m : Int)) hwh.1 (by have := HLN.out; omega); omega
  go_enter Try.func6, Try.ntmps6
  go_wp2_with (first
    | (go_at_call 9; refine (law_awake _).mono ?_; rintro e w1 ⟨rfl, hb1⟩; have C1 : Hid (From w w1) := hb1; clear hb1)
    | (go_at_call 11; refine (HMA.out _ C1.out).mono ?_; rw [HMP.out]; rintro e w2 ⟨g, cf, D, d, rfl, hf2, hl2, hap2, hb2⟩; have H2 := Lib.hid ((Mem.start C1.out).add2 hb2 (.row 44 5 (some ⟨g, 0, none⟩) cf (F.map Frm.cells)) (.row 46 2 D d (L.map Wt.cells)) hf2 hl2 (by intro b h1 h2; injection h1 with h1; obtain ⟨a, ha, hb⟩ := Option.map_eq_some_iff.1 h2; exact hap2 a ha (hb.trans h1.symm))); clear hf2 hl2 hap2 hb2 HMA HMP C1)
    | (go_at_call 12; refine (HCG.out g cf D d w2 (H2.out.rd (i := 0) rfl) (H2.out.rd (i := 1) rfl) (by have := HLN.out; omega) (by have := HLN.out; omega)).mono ?_; rintro e w3 ⟨Ac, cc, rfl, hr3, hb3, hc3, hn3⟩; obtain ⟨gc, oc, hac, _⟩ := hr3 0 _ (HCI.out 0 (by have := HLN.out; omega)); subst hac; have H3 := Lib.hid (H2.out.add hb3 (.ro 34 (some ⟨gc, oc, none⟩) (C.map Str.cells)) ⟨hr3, fun a ha => ⟨hn3 a ha, Rd.bound hr3 hCS a ha⟩⟩); clear hr3 hb3 hc3 hn3 HCG))
  go_loopw [36] (fun v36 wq => ∃ k : Nat, k ≤ m ∧ v36 = .int .i64 k ∧ Mem w wq [.ro 34 (some ⟨gc, oc, none⟩) (C.map Str.cells), .row 44 5 (some ⟨g, 0, none⟩) cf ((limTo F C k).map Frm.cells)]) (fun v _ => m - (intOf v).toNat)
  case atStart => exact ⟨0, Nat.zero_le _, rfl, by rw [limTo_zero]; exact H3.out.sub (by repeat (first | exact List.Sublist.slnil | exact List.nil_sublist _ | apply List.Sublist.cons_cons))⟩
  case round =>
    clear H2 H3
    obtain ⟨k, hkm, rfl, hmem⟩ := hrel
    have HM1 := Lib.hid hmem
    clear hmem
    by_cases hk : k < m
    · have hkk : (k : Int) < (m : Int) := by omega
      have hk10 : k ≤ 10 := by have := HLN.out; omega
      have HU := Lib.hid (HUP.out k hk)
      have HCK := Lib.hid (HCI.out k hk)
      have HKL : Hid (k < ((limTo F C k).map Frm.cells).length) := by unfold Hid; rw [List.length_map, limTo_len]; have := HLN.out; omega
      have HKF : Hid (k < F.length) := by have := HLN.out; unfold Hid; omega
      obtain ⟨s, hs⟩ : ∃ s, s = C.getD k str0 := ⟨_, rfl⟩
      rw [← hs] at HU HCK
      have HS := Lib.hid hs
      clear hs
      go_upto_region 11 with fail
      try simp only [Act.put]
      refine wp_region_any (by kernel_rfl) ?_
      change wpAny _ _ _ _ _ _ _ (World.drew _)
      refine take_first 2 41 (Value.slice (some ⟨g, 0, none⟩) m cf) (by kernel_rfl) (by kernel_rfl) (by kernel_rfl) (by kernel_rfl) (fun _ _ _ h => h) (fun _ h => by cases h; exact Or.inl ⟨by rfl, fun _ => rfl⟩) ?_
      refine take_first 3 42 (Value.int .i64 ((k : Int))) (by kernel_rfl) (by kernel_rfl) (by kernel_rfl) (by kernel_rfl) (fun _ _ _ h => h) (fun _ h => by cases h; exact Or.inl ⟨by rfl, fun _ => rfl⟩) ?_
      simp only [Act.put, List.setIfInBounds_toArray, List.set_cons_succ, List.set_cons_zero]
      refine wpAny_runZ 18 [2, 3] [.val (Value.slice (some ⟨g, 0, none⟩) m cf),
    .val (Value.int .i64 ((k : Int))),
    .val (Value.slice (some ⟨g, 0, none⟩) m cf),
    .val (Value.int .i64 ((k : Int))),
    .val (Value.func (.func 20) #[] #[]),
    .val (Value.slice (some ⟨gc, oc, none⟩) m cc),
    .val (Value.int .i64 ((k : Int))),
    .val (Value.pointer (some ⟨gc, oc + k * 34, none⟩)),
    .val (Value.pointer (some ⟨gc, oc + k * 34, none⟩)),
    .val (s.shear.val),
    .call (Value.int .i64 ((ceilN s.shear : Int))),
    .val (Value.func (.func 20) #[] #[]),
    .val (Value.slice (some ⟨gc, oc, none⟩) m cc),
    .val (Value.int .i64 ((k : Int))),
    .val (Value.pointer (some ⟨gc, oc + k * 34, none⟩)),
    .val (Value.pointer (some ⟨gc, oc + k * 34 + 17, none⟩)),
    .val (s.bend.val),
    .call (Value.int .i64 ((ceilN s.bend : Int)))] (by kernel_rfl) (by kernel_rfl) (Nat.le_of_ble_eq_true (by kernel_rfl)) (by kernel_rfl) (by kernel_rfl) (Nat.le_of_ble_eq_true (by kernel_rfl)) ?_ ?_ ?_ ?_
      · exact ⟨⟨rfl, fun _ _ ho hd => by cases ho; cases hd; rfl⟩, ⟨rfl, fun _ _ ho hd => by cases ho; cases hd; rfl⟩, trivial⟩
      · exact trivial
      · exact ⟨(fun _ _ => ok_move rfl),
    (fun _ _ => ok_move rfl),
    (fun _ _ => ok_move rfl),
    (fun _ _ => ok_move rfl),
    (fun _ _ => ok_move rfl),
    (fun _ _ => ok_move rfl),
    (fun _ _ => ok_move rfl),
    (fun _ _ => ok_index (k := k) rfl rfl el26 (hkk) (rfl)),
    (fun _ _ => ok_field (k := 0) rfl fl40_0 rfl),
    (fun w hb => ok_load rfl ((fun _ hb => (HM1.out.roB (i := 0) rfl).shear HCK.out hb) w hb)),
    (fun w hb => ok_call rfl rfl (cf20 _ _) ((fun w _ => (HU.out w).1) w hb)),
    (fun _ _ => ok_move rfl),
    (fun _ _ => ok_move rfl),
    (fun _ _ => ok_move rfl),
    (fun _ _ => ok_index (k := k) rfl rfl el26 (hkk) (rfl)),
    (fun _ _ => ok_field (k := 17) rfl fl40_1 rfl),
    (fun w hb => ok_load rfl ((fun _ hb => (HM1.out.roB (i := 0) rfl).bend HCK.out hb) w hb)),
    (fun w hb => ok_call rfl rfl (cf20 _ _) ((fun w _ => (HU.out w).2) w hb)),
    trivial⟩
      intro w4 hb4
      simp only [contS, List.take_succ_cons, List.take_zero, List.drop_succ_cons, List.drop_zero]
      simp only [Act.put, List.setIfInBounds_toArray, List.set_cons_succ, List.set_cons_zero]
      have HM2 := Lib.hid (HM1.out.call hb4)
      clear HM1 hb4
      go_wp2_with (first
        | ((with_reducible refine g_st 3 ?_); (refine wpList_st_M (size := 5) (k := k) (j := 3) (v := .int .i64 (ceilN s.shear : Int)) rfl _ _ rfl HM2.out 1 rfl rfl rfl (by kernel_rfl) rfl rfl HKL.out (by omega) ?_); intro w5 h5; have HM3 := Lib.hid h5; clear h5 HM2)
        | ((with_reducible refine g_st 3 ?_); (refine wpList_st_M (size := 5) (k := k) (j := 4) (v := .int .i64 (ceilN s.bend : Int)) rfl _ _ rfl HM3.out 1 rfl rfl rfl (by kernel_rfl) rfl rfl (by rw [List.length_set]; exact HKL.out) (by omega) ?_); intro w6 h6; rw [lim_cells HKF.out (by rw [HS.out]) (by rw [HS.out])] at h6; have HM4 : Hid (Mem w w6 [.ro 34 (some ⟨gc, oc, none⟩) (C.map Str.cells), .row 44 5 (some ⟨g, 0, none⟩) cf ((limTo F C (k + 1)).map Frm.cells)]) := h6; clear h6 HM3))
      go_roundw
      case rel => exact ⟨k + 1, by omega, by go_num, HM4.out⟩
      case measure => simp [intOf]; omega
    · obtain rfl : k = m := by omega
      have hkk : ¬ (k : Int) < (k : Int) := by omega
      obtain ⟨G0, hG0⟩ : ∃ G0, G0 = limTo F C F.length := ⟨_, rfl⟩
      have hkF : limTo F C k = G0 := by rw [hG0, HLN.out.1]
      rw [hkF] at HM1
      have HG0 := Lib.hid hG0
      have hk0 : ¬ (k : Int) = 0 := by have := HLN.out; omega
      have hir : which.tmod (k : Int) = (ii : Int) := hii.symm
      have hik : (ii : Int) < (k : Int) := by omega
      have wi : IntKind.i64.wrap (ii : Int) = (ii : Int) := by have := HLN.out; exact wrap_i64 (by omega) (by omega)
      clear hii hkF HUP
      go_upto_region 14 with (go_at_call 22; refine (over_none HLC.out HCF.out (by have := HLN.out; omega) g cf gc oc cc k k (by have := HLN.out; omega) HCL.out.symm _ (by rw [← HG0.out]; exact HM1.out.rd (i := 1) rfl) (HM1.out.roB (i := 0) rfl)).mono ?_; rintro e w5 ⟨A9, c9, rfl, hb5⟩; have HM2 := Lib.hid (HM1.out.call hb5); clear hb5 HM1)
      try simp only [Act.put]
      cases bend with
      | true =>
        obtain ⟨cN, hcN⟩ : ∃ cN, cN = ceilN (C.getD ii str0).bend := ⟨_, rfl⟩
        have hle := HLC.out.le ii (by have := HLN.out; omega)
        have HCN := Lib.hid hcN
        have HGI : Hid ((G0.map Frm.cells)[ii]? = some (limFr (F.getD ii frm0) (C.getD ii str0)).cells) := by unfold Hid; rw [List.getElem?_map, hG0, limTo_get F C F.length (show ii < F.length by have := HLN.out; omega), if_pos (by have := HLN.out; omega)]; rfl
        by_cases hz : cN = 0
        · have hz' : (cN : Int) = 0 := by omega
          clear hcN hle hG0
          go_wp2_with ((with_reducible refine g_ld 3 ?_); (refine wpList_ld rfl _ _ rfl _ rfl (.int .i64 (cN : Int)) (by rw [HCN.out]; exact HM2.out.lde ct3 (i := 1) (j := 4) rfl HGI.out rfl (by omega) _ (Below.refl _ _)) ?_))
          go_ret
          exact ⟨rfl, HM2.out.from_⟩
        · have hz' : ¬ (cN : Int) = 0 := by omega
          have wz : IntKind.i64.wrap ((cN : Int) - 1) = (cN : Int) - 1 := wrap_i64 (by omega) (by omega)
          obtain ⟨g', hg'⟩ : ∃ g' : Frm, g' = { limFr (F.getD ii frm0) (C.getD ii str0) with bend := (cN : Int) - 1 } := ⟨_, rfl⟩
          have hone := HLC.out.one (i := ii) (by have := HLN.out; omega) true (by simp only [if_true]; rw [← hcN]; exact hz) (g' := g') (by simp only [if_true]; rw [← hcN]; exact hg')
          rw [← hG0] at hone
          have hGl : G0.length = F.length := by rw [hG0]; exact limTo_len _ _ _
          have hgi : G0[ii]'(by have := HLN.out; omega) = limFr (F.getD ii frm0) (C.getD ii str0) := by
            have h1 := limTo_get F C F.length (show ii < F.length by have := HLN.out; omega)
            rw [if_pos (by have := HLN.out; omega), ← hG0, List.getElem?_eq_getElem (by have := HLN.out; omega)] at h1
            injection h1
          have HSC := Lib.hid (fun h => set_cellsL (F := G0) (i := ii) (j := 4) (v := .int .i64 ((cN : Int) - 1)) (by have := HLN.out; omega) h g' (by rw [hgi, hg']; rfl))
          have HON := Lib.hid hone.2
          have HGL : Hid (G0.length = F.length) := hGl
          have HKI : Hid (ii < (G0.map Frm.cells).length) := by unfold Hid; rw [List.length_map, hGl]; have := HLN.out; omega
          have h01 : (0 : Int) < 1 := by decide
          clear hcN hle hG0 hg' hone hGl hgi
          go_upto_region 21 with (first
            | ((with_reducible refine g_ld 3 ?_); (refine wpList_ld rfl _ _ rfl _ rfl (.int .i64 (cN : Int)) (by rw [HCN.out]; exact HM2.out.lde ct3 (i := 1) (j := 4) rfl HGI.out rfl (by omega) _ (Below.refl _ _)) ?_))
            | ((with_reducible refine g_st 3 ?_); (refine wpList_st_M (size := 5) (k := ii) (j := 4) (v := .int .i64 ((cN : Int) - 1)) rfl _ _ rfl HM2.out 1 rfl rfl rfl (by kernel_rfl) rfl rfl HKI.out (by omega) ?_); intro w6 h6; rw [HSC.out] at h6; have HM3 : Hid (Mem w w6 [.ro 34 (some ⟨gc, oc, none⟩) (C.map Str.cells), .row 44 5 (some ⟨g, 0, none⟩) cf ((G0.set ii g').map Frm.cells)]) := h6; clear h6))
          go_wp2_with (first
            | (go_at_call 22; refine (over_one HLC.out HCF.out (by have := HLN.out; omega) (by rw [List.length_set]; exact HGL.out) HON.out g cf gc oc cc k k (by have := HLN.out; omega) HCL.out.symm _ (HM3.out.rd (i := 1) rfl) (HM3.out.roB (i := 0) rfl)).mono ?_; rintro e w7 ⟨ga, oa, ca, rfl, hr7, hb7⟩; have HR7 := Lib.hid hr7; have HM4 := Lib.hid (HM3.out.call hb7); clear hr7 hb7)
            | ((with_reducible refine g_ld 3 ?_); (refine wpList_ldw rfl _ _ rfl _ rfl (.int .i64 (ii : Int)) (Rd.cell HR7.out (Below.refl _ _) ct3 (k := 0) (j := 0) rfl rfl (by omega)) ?_))
            | ((with_reducible refine g_ld 3 ?_); (refine wpList_ld rfl _ _ rfl _ rfl (.int .i64 (ii : Int)) (Rd.cell HR7.out (Below.refl _ _) ct3 (k := 0) (j := 0) rfl rfl (by omega)) ?_)))
          go_ret
          exact ⟨rfl, HM4.out.from_⟩
      | false =>
        obtain ⟨cN, hcN⟩ : ∃ cN, cN = ceilN (C.getD ii str0).shear := ⟨_, rfl⟩
        have hle := HLC.out.le ii (by have := HLN.out; omega)
        have HCN := Lib.hid hcN
        have HGI : Hid ((G0.map Frm.cells)[ii]? = some (limFr (F.getD ii frm0) (C.getD ii str0)).cells) := by unfold Hid; rw [List.getElem?_map, hG0, limTo_get F C F.length (show ii < F.length by have := HLN.out; omega), if_pos (by have := HLN.out; omega)]; rfl
        by_cases hz : cN = 0
        · have hz' : (cN : Int) = 0 := by omega
          clear hcN hle hG0
          go_wp2_with ((with_reducible refine g_ld 3 ?_); (refine wpList_ld rfl _ _ rfl _ rfl (.int .i64 (cN : Int)) (by rw [HCN.out]; exact HM2.out.lde ct3 (i := 1) (j := 3) rfl HGI.out rfl (by omega) _ (Below.refl _ _)) ?_))
          go_ret
          exact ⟨rfl, HM2.out.from_⟩
        · have hz' : ¬ (cN : Int) = 0 := by omega
          have wz : IntKind.i64.wrap ((cN : Int) - 1) = (cN : Int) - 1 := wrap_i64 (by omega) (by omega)
          obtain ⟨g', hg'⟩ : ∃ g' : Frm, g' = { limFr (F.getD ii frm0) (C.getD ii str0) with shear := (cN : Int) - 1 } := ⟨_, rfl⟩
          have hone := HLC.out.one (i := ii) (by have := HLN.out; omega) false (by simp only [Bool.false_eq_true, if_false]; rw [← hcN]; exact hz) (g' := g') (by simp only [Bool.false_eq_true, if_false]; rw [← hcN]; exact hg')
          rw [← hG0] at hone
          have hGl : G0.length = F.length := by rw [hG0]; exact limTo_len _ _ _
          have hgi : G0[ii]'(by have := HLN.out; omega) = limFr (F.getD ii frm0) (C.getD ii str0) := by
            have h1 := limTo_get F C F.length (show ii < F.length by have := HLN.out; omega)
            rw [if_pos (by have := HLN.out; omega), ← hG0, List.getElem?_eq_getElem (by have := HLN.out; omega)] at h1
            injection h1
          have HSC := Lib.hid (fun h => set_cellsL (F := G0) (i := ii) (j := 3) (v := .int .i64 ((cN : Int) - 1)) (by have := HLN.out; omega) h g' (by rw [hgi, hg']; rfl))
          have HON := Lib.hid hone.2
          have HGL : Hid (G0.length = F.length) := hGl
          have HKI : Hid (ii < (G0.map Frm.cells).length) := by unfold Hid; rw [List.length_map, hGl]; have := HLN.out; omega
          have h01 : (0 : Int) < 1 := by decide
          clear hcN hle hG0 hg' hone hGl hgi
          go_upto_region 21 with (first
            | ((with_reducible refine g_ld 3 ?_); (refine wpList_ld rfl _ _ rfl _ rfl (.int .i64 (cN : Int)) (by rw [HCN.out]; exact HM2.out.lde ct3 (i := 1) (j := 3) rfl HGI.out rfl (by omega) _ (Below.refl _ _)) ?_))
            | ((with_reducible refine g_st 3 ?_); (refine wpList_st_M (size := 5) (k := ii) (j := 3) (v := .int .i64 ((cN : Int) - 1)) rfl _ _ rfl HM2.out 1 rfl rfl rfl (by kernel_rfl) rfl rfl HKI.out (by omega) ?_); intro w6 h6; rw [HSC.out] at h6; have HM3 : Hid (Mem w w6 [.ro 34 (some ⟨gc, oc, none⟩) (C.map Str.cells), .row 44 5 (some ⟨g, 0, none⟩) cf ((G0.set ii g').map Frm.cells)]) := h6; clear h6))
          go_wp2_with (first
            | (go_at_call 22; refine (over_one HLC.out HCF.out (by have := HLN.out; omega) (by rw [List.length_set]; exact HGL.out) HON.out g cf gc oc cc k k (by have := HLN.out; omega) HCL.out.symm _ (HM3.out.rd (i := 1) rfl) (HM3.out.roB (i := 0) rfl)).mono ?_; rintro e w7 ⟨ga, oa, ca, rfl, hr7, hb7⟩; have HR7 := Lib.hid hr7; have HM4 := Lib.hid (HM3.out.call hb7); clear hr7 hb7)
            | ((with_reducible refine g_ld 3 ?_); (refine wpList_ldw rfl _ _ rfl _ rfl (.int .i64 (ii : Int)) (Rd.cell HR7.out (Below.refl _ _) ct3 (k := 0) (j := 0) rfl rfl (by omega)) ?_))
            | ((with_reducible refine g_ld 3 ?_); (refine wpList_ld rfl _ _ rfl _ rfl (.int .i64 (ii : Int)) (Rd.cell HR7.out (Below.refl _ _) ct3 (k := 0) (j := 0) rfl rfl (by omega)) ?_)))
          go_ret
          exact ⟨rfl, HM4.out.from_⟩
end Go.Proofs.Ytcdfnlgimbecgaa
