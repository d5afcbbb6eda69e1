/-
  twistlockref18: in, Right.
-/
import Derived.Test.YtcdfnlgimbecgaaMt38
namespace Go.Proofs.Ytcdfnlgimbecgaa
open Go.RowKit
theorem cf_in18 (w : World) (args : Array Value) : (callFunc 70 args).run Try.prog w = .ok (.enter 70 args) w := by
 go_simp
set_option maxHeartbeats 1000000 in
theorem r18_in (n a b : Int) (w : World) : Calls Try.prog 70 #[.int .i64 n, .int .i64 a, .int .i64 b] w fun e w' => e = .returned (.bool (decide (a ≤ n ∧ n ≤ b))) ∧ From w w' := by
 by_cases h1 : a ≤ n
 · by_cases h2 : n ≤ b
   · rw [decide_eq_true (And.intro h1 h2)]
     go_enter Try.func70, Try.ntmps70
     go_wp2
     go_ret
     exact ⟨rfl, Below.refl _ _⟩
   · rw [decide_eq_false (fun h => h2 h.2)]
     go_enter Try.func70, Try.ntmps70
     go_wp2
     go_ret
     exact ⟨rfl, Below.refl _ _⟩
 · rw [decide_eq_false (fun h => h1 h.1)]
   go_enter Try.func70, Try.ntmps70
   go_wp2
   go_ret
   exact ⟨rfl, Below.refl _ _⟩
def lightSum (l : List Frm) : Int := (l.map Frm.light).foldr (· + ·) 0
theorem lightSum_step {l : List Frm} {k : Nat} {f : Frm} (hf : l[k]? = some f) : lightSum (l.drop k) = f.light + lightSum (l.drop (k + 1)) := by
 have hk := (List.getElem?_eq_some_iff.1 hf).1
 have he := (List.getElem?_eq_some_iff.1 hf).2
 rw [List.drop_eq_getElem_cons hk, he]
 rfl
theorem lightSum_nn : ∀ (l : List Frm), (∀ f ∈ l, 0 ≤ f.light) → 0 ≤ lightSum l
 | [], _ => by decide
 | f :: l, h => by
  have h1 := h f (by simp)
  have h2 := lightSum_nn l (fun g hg => h g (by simp [hg]))
  show 0 ≤ f.light + lightSum l
  omega
theorem lightFrom_le : ∀ (l : List Frm) (s : Int), (∀ f ∈ l, 0 ≤ f.light) → (lightFrom s l ≤ 500000000 ↔ s + lightSum l ≤ 500000000)
 | [], s, _ => by show s ≤ 500000000 ↔ s + 0 ≤ 500000000; omega
 | f :: l, s, h => by
  have h1 := h f (by simp)
  have h2 := lightSum_nn l (fun g hg => h g (by simp [hg]))
  unfold lightFrom
  rw [lightFrom_le l _ (fun g hg => h g (by simp [hg]))]
  show _ ↔ s + (f.light + lightSum l) ≤ 500000000
  split <;> omega
theorem lightF_le {l : List Frm} (h : okFrom none l = true) : lightF l ≤ 500000000 ↔ lightSum l ≤ 500000000 := by
 have h1 := lightFrom_le l 0 (fun f hf => (Frm.ok_nums (okFrom_ok none l h f hf)).2.1.1)
 unfold lightF
 omega
theorem frm_row : IsRow Try.prog 44 5 := ⟨_, Try.underlying44, by kernel_rfl, by kernel_rfl⟩
theorem frm_size : (Try.prog.info? 44).map (·.size) = some 5 := by kernel_rfl
theorem lastF_get {l : List Frm} {n : Nat} (hn : n + 1 = l.length) : l[n]? = some (lastF l) := by
 unfold lastF
 have h : l ≠ [] := by intro h; subst h; simp at hn
 rw [List.getLastD_eq_getLast?, List.getLast?_eq_getElem?, ← hn, Nat.add_sub_cancel]
 have : n < l.length := by omega
 simp [List.getElem?_eq_getElem this]
def behind (p : Option Int) (f : Frm) : Bool := match p with | none => true | some x => decide (x < f.x)
theorem okFrom_at {l : List Frm} {k : Nat} {f : Frm} (hf : l[k]? = some f) : okFrom (prevX l k) (l.drop k) = (f.ok && behind (prevX l k) f && okFrom (prevX l (k + 1)) (l.drop (k + 1))) := okFrom_step hf
theorem behind_zero (l : List Frm) (f : Frm) : behind (prevX l 0) f = true := rfl
theorem behind_succ {l : List Frm} {j : Nat} {f0 f : Frm} (h : l[j]? = some f0) : behind (prevX l (j + 1)) f = decide (f0.x < f.x) := by
 unfold prevX
 rw [if_neg (by omega), Nat.add_sub_cancel, List.getD_eq_getElem?_getD, h]
 rfl
structure RI (l : List Frm) (k : Nat) (a b : Int) : Prop where
 ok : okFrom none l = okFrom (prevX l k) (l.drop k)
 light : a + lightSum (l.drop k) = lightSum l
 share : b + shareF (l.drop k) = shareF l
 a0 : 0 ≤ a
 a1 : a ≤ 500000000 * (k : Int)
 b0 : 0 ≤ b
 b1 : b ≤ 10000 * (k : Int)
theorem RI.start (l : List Frm) : RI l 0 0 0 := ⟨rfl, by simp, by simp, by omega, by omega, by omega, by omega⟩
theorem RI.step {l : List Frm} {k : Nat} {a b : Int} {f : Frm} (h : RI l k a b) (hf : l[k]? = some f) (ho : f.ok = true) (hp : behind (prevX l k) f = true) : RI l (k + 1) (a + f.light) (b + f.share) := by
 have h1 := h.ok
 have hn := Frm.ok_nums ho
 rw [okFrom_at hf, ho, hp, Bool.true_and, Bool.true_and] at h1
 refine ⟨h1, ?_, ?_, ?_, ?_, ?_, ?_⟩
 · have := h.light; rw [lightSum_step hf] at this; omega
 · have := h.share; rw [shareF_step hf] at this; omega
 · have := h.a0; omega
 · have := h.a1; omega
 · have := h.b0; omega
 · have := h.b1; omega
theorem RI.bad {l : List Frm} {k : Nat} {a b : Int} {f : Frm} (h : RI l k a b) (hf : l[k]? = some f) (ho : (f.ok && behind (prevX l k) f) = false) : rightF l = false := by
 have h1 := h.ok
 rw [okFrom_at hf, ho, Bool.false_and] at h1
 unfold rightF
 rw [h1]
 simp
theorem RI.done {l : List Frm} {a b : Int} (h : RI l l.length a b) (hl : 3 ≤ l.length ∧ l.length ≤ 30) : rightF l = (decide (a ≤ 500000000) && decide (b = 10000) && decide ((lastF l).light = 0) && decide ((lastF l).share = 0)) := by
 have h1 := h.ok
 have h2 := h.light
 have h3 := h.share
 rw [List.drop_length] at h1 h2 h3
 have e1 : okFrom none l = true := by rw [h1]; cases prevX l l.length <;> rfl
 have e2 : a = lightSum l := by rw [← h2]; show a = a + 0; omega
 have e3 : b = shareF l := by rw [← h3]; show b = b + 0; omega
 unfold rightF
 have e4 : decide (lightF l ≤ 500000000) = decide (a ≤ 500000000) := by
  rw [e2]
  exact decide_eq_decide.2 (lightF_le e1)
 rw [decide_eq_true hl, e1, e4, e3, Bool.true_and, Bool.true_and]
set_option maxRecDepth 100000 in
set_option maxHeartbeats 2000000 in
theorem r18_Right (A : Option Addr) (c n : Nat) (l : List Frm) (hn : n = l.length) (w : World) (h : Rd w w.heap.size 5 A (l.map Frm.cells)) (hl : l.length ≤ 1000000) :
 Calls Try.prog 31 #[.slice A n c] w fun e w' => e = .returned (.bool (rightF l)) ∧ From w w' := by
 have hni : n ≤ 1000000 := by omega
 by_cases hlen : 3 ≤ n ∧ n ≤ 30
 · have hs1 : ¬ (n : Int) < 3 := by omega
   have hs2 : ¬ (30 : Int) < (n : Int) := by omega
   obtain ⟨bA, oA, rfl, -⟩ := Frm.at_ h 0 (by omega)
   have HR := Lib.hid h
   have HN := Lib.hid hn
   have HLN := Lib.hid hlen
   have hn30 : n ≤ 30 := hlen.2
   obtain ⟨r, hr⟩ : ∃ r, r = rightF l := ⟨_, rfl⟩
   rw [← hr]
   have HRF := Lib.hid hr
   clear h hn hlen hr hl hni
   go_enter Try.func31, Try.ntmps31
   go_wp2
   go_loopw [3, 4, 5] (fun v3 v4 v5 wq => ∃ (k : Nat) (a b : Int), k ≤ n ∧ v5 = .int .i64 (k : Int) ∧ v3 = .int .i64 a ∧ v4 = .int .i64 b ∧ RI l k a b ∧ From w wq) (fun _ _ v _ => n - (intOf v).toNat)
   case atStart => exact ⟨0, 0, 0, Nat.zero_le _, rfl, rfl, rfl, RI.start l, Below.refl _ _⟩
   case round =>
    obtain ⟨k, a, b, hk, rfl, rfl, rfl, hri, hf⟩ := hrel
    have HRI := Lib.hid hri
    have HFR0 := Lib.hid hf
    clear hri hf
    by_cases hkn : k = n
    · subst hkn
      have hlt : ¬ (k : Int) < (k : Int) := by omega
      have HFR := HFR0
      obtain ⟨m, rfl⟩ : ∃ m, k = m + 1 := ⟨k - 1, by have := HLN.out; omega⟩
      have hD := (HN.out ▸ HRI.out : RI l l.length a b).done (by have := HLN.out; rw [← HN.out]; exact this)
      have hw : IntKind.i64.wrap (((m + 1 : Nat) : Int) - 1) = (m : Int) := by rw [wrap_i64 (by omega) (by omega)]; omega
      have hw2 : IntKind.i64.wrap ((m : Int) + 1 - 1) = (m : Int) := by rw [wrap_i64 (by omega) (by omega)]; omega
      have hw3 : IntKind.i64.wrap (m : Int) = (m : Int) := by rw [wrap_i64 (by omega) (by omega)]
      have hmi : (m : Int) < ((m + 1 : Nat) : Int) := by omega
      have hmi2 : (m : Int) < (m : Int) + 1 := by omega
      have hg := lastF_get HN.out
      obtain ⟨x, hx⟩ : ∃ x, x = (lastF l).light := ⟨_, rfl⟩
      obtain ⟨y, hy⟩ : ∃ y, y = (lastF l).share := ⟨_, rfl⟩
      have HLa := Lib.hid (fun (w1 : World) (hb : From wr w1) => Rd.cell (P := Try.prog) (HR.out.from HFR.out) hb ct3 (k := m) (cs := (lastF l).cells) (by simp [hg]) (j := 1) (v := .int .i64 x) (by rw [hx]; rfl) rfl)
      have HLb := Lib.hid (fun (w1 : World) (hb : From wr w1) => Rd.cell (P := Try.prog) (HR.out.from HFR.out) hb ct3 (k := m) (cs := (lastF l).cells) (by simp [hg]) (j := 2) (v := .int .i64 y) (by rw [hy]; rfl) rfl)
      rw [← hx, ← hy] at hD
      have HD := Lib.hid (HRF.out.trans hD)
      clear hD hg hx hy hk hn30
      by_cases h1 : a ≤ 500000000
      · by_cases h2 : b = 10000
        · subst h2
          by_cases h3 : x = 0
          · subst h3
            by_cases h4 : y = 0
            · subst h4
              have h5 := decide_eq_true h1
              go_wp2_with ((with_reducible refine g_ld 3 ?_); first
               | refine wpList_ldw rfl _ _ rfl _ rfl _ (HLa.out _ (Below.refl _ _)) ?_
               | refine wpList_ldw rfl _ _ rfl _ rfl _ (HLb.out _ (Below.refl _ _)) ?_)
              go_ret
              refine ⟨?_, HFR.out⟩
              rw [HD.out]
              rw [h5]
              rfl
            · have h4' : (y == 0) = false := by simp [h4]
              have h5 := decide_eq_true h1
              have h6 := decide_eq_false h4
              go_wp2_with ((with_reducible refine g_ld 3 ?_); first
               | refine wpList_ldw rfl _ _ rfl _ rfl _ (HLa.out _ (Below.refl _ _)) ?_
               | refine wpList_ldw rfl _ _ rfl _ rfl _ (HLb.out _ (Below.refl _ _)) ?_)
              go_ret
              refine ⟨?_, HFR.out⟩
              rw [HD.out]
              rw [h5, h6]
              rfl
          · have h3' : (x == 0) = false := by simp [h3]
            have h6 := decide_eq_false h3
            go_wp2_with ((with_reducible refine g_ld 3 ?_); first
             | refine wpList_ldw rfl _ _ rfl _ rfl _ (HLa.out _ (Below.refl _ _)) ?_
             | refine wpList_ldw rfl _ _ rfl _ rfl _ (HLb.out _ (Below.refl _ _)) ?_)
            go_ret
            refine ⟨?_, HFR.out⟩
            rw [HD.out]
            rw [h6]
            simp
        · have h2' : (b == 10000) = false := by simp [h2]
          have h6 := decide_eq_false h2
          go_wp2_with ((with_reducible refine g_ld 3 ?_); first
           | refine wpList_ldw rfl _ _ rfl _ rfl _ (HLa.out _ (Below.refl _ _)) ?_
           | refine wpList_ldw rfl _ _ rfl _ rfl _ (HLb.out _ (Below.refl _ _)) ?_)
          go_ret
          refine ⟨?_, HFR.out⟩
          rw [HD.out]
          rw [h6]
          simp
      · have h6 := decide_eq_false h1
        go_wp2_with ((with_reducible refine g_ld 3 ?_); first
         | refine wpList_ldw rfl _ _ rfl _ rfl _ (HLa.out _ (Below.refl _ _)) ?_
         | refine wpList_ldw rfl _ _ rfl _ rfl _ (HLb.out _ (Below.refl _ _)) ?_)
        go_ret
        refine ⟨?_, HFR.out⟩
        rw [HD.out]
        rw [h6]
        simp
    · have hlt : (k : Int) < (n : Int) := by omega
      have hkl : k < l.length := by rw [← HN.out]; omega
      obtain ⟨f, hf⟩ : ∃ f, f = l[k] := ⟨_, rfl⟩
      have hfk : l[k]? = some f := by rw [List.getElem?_eq_getElem hkl, hf]
      have HF := Lib.hid hfk
      have HK0 := Lib.hid ((Mem.nil wr).alloc 44 (Frm.cells ⟨0, 0, 0, 0, 0⟩))
      have HLD := Lib.hid (fun (w1 : World) (hb : From wr w1) => Rd.row (P := Try.prog) (HR.out.from HFR0.out) hb frm_row (k := k) (cs := f.cells) (by simp [hfk]) rfl)
      have hkp : k = 0 ∨ ∃ j f0, k = j + 1 ∧ l[j]? = some f0 := by
       rcases k with _ | j
       · exact .inl rfl
       · exact .inr ⟨j, l[j]'(by omega), rfl, List.getElem?_eq_getElem (by omega)⟩
      have HI1 := Lib.hid (fun w1 => r18_in f.x (-500000) 500000 w1)
      have HI2 := Lib.hid (fun w1 => r18_in f.light 0 500000000 w1)
      have HI3 := Lib.hid (fun w1 => r18_in f.share 0 10000 w1)
      have HI4 := Lib.hid (fun w1 => r18_in f.shear 0 1000000000000000 w1)
      have HI5 := Lib.hid (fun w1 => r18_in f.bend 0 1000000000000000 w1)
      clear hf hfk hkl
      go_wp2_with (first
       | ((with_reducible refine g_ld 44 ?_); go_loud (refine wpList_ld rfl _ _ rfl _ rfl _ (HLD.out _ (Below.refl _ _)) ?_))
       | ((with_reducible refine g_st 44 ?_); go_loud (refine wpList_stB (cs' := f.cells) rfl _ _ rfl HK0.out 0 rfl rfl rfl frm_size rfl rfl rfl (Frm.one f) ?_); intro w6 h6; have HM6 := Lib.hid h6; clear h6 HK0))
      have HFR6 := Lib.hid (HFR0.out.trans (HM6.out.from_.mono HFR0.out.size))
      have HL0 := Lib.hid (HM6.out.ldc ct3 (i := 0) (j := 0) (v := .int .i64 f.x) rfl rfl)
      have HL1 := Lib.hid (HM6.out.ldc ct3 (i := 0) (j := 1) (v := .int .i64 f.light) rfl rfl)
      have HL2 := Lib.hid (HM6.out.ldc ct3 (i := 0) (j := 2) (v := .int .i64 f.share) rfl rfl)
      have HL3 := Lib.hid (HM6.out.ldc ct3 (i := 0) (j := 3) (v := .int .i64 f.shear) rfl rfl)
      have HL4 := Lib.hid (HM6.out.ldc ct3 (i := 0) (j := 4) (v := .int .i64 f.bend) rfl rfl)
      clear HLD
      by_cases h1 : -500000 ≤ f.x ∧ f.x ≤ 500000
      · rw [decide_eq_true h1] at HI1
        by_cases h2 : 0 ≤ f.light ∧ f.light ≤ 500000000
        · rw [decide_eq_true h2] at HI2
          by_cases h3 : 0 ≤ f.share ∧ f.share ≤ 10000
          · rw [decide_eq_true h3] at HI3
            by_cases h4 : 0 ≤ f.shear ∧ f.shear ≤ 1000000000000000
            · rw [decide_eq_true h4] at HI4
              by_cases h5 : 0 ≤ f.bend ∧ f.bend ≤ 1000000000000000
              · rw [decide_eq_true h5] at HI5
                have HOK : Hid (f.ok = true) := by unfold Hid Frm.ok; rw [decide_eq_true h1, decide_eq_true h2, decide_eq_true h3, decide_eq_true h4, decide_eq_true h5]; rfl
                have hb := HRI.out
                have wa : IntKind.i64.wrap (a + f.light) = a + f.light := by have := hb.a0; have := hb.a1; exact wrap_i64 (by omega) (by omega)
                have wb : IntKind.i64.wrap (b + f.share) = b + f.share := by have := hb.b0; have := hb.b1; exact wrap_i64 (by omega) (by omega)
                have wk : IntKind.i64.wrap ((k : Int) + 1) = (k : Int) + 1 := wrap_i64 (by omega) (by omega)
                clear hb h1 h2 h3 h4 h5
                rcases hkp with hk0 | ⟨j, f0, hkj, hj⟩
                · have hpos : ¬ (k : Int) > 0 := by omega
                  have HB3 : Hid (behind (prevX l k) f = true) := by unfold Hid; rw [hk0]; exact behind_zero l f
                  clear hk0
                  refine wp_region_run 43 [.val (Value.pointer (some ⟨wr.heap.size, 0, none⟩)), .val (Value.int .i64 (f.x)), .call (Value.bool true), .val (Value.bool false), .val (Value.bool false), .val (Value.pointer (some ⟨wr.heap.size, 1, none⟩)), .val (Value.int .i64 (f.light)), .call (Value.bool true), .val (Value.bool false), .val (Value.bool false), .val (Value.bool false), .val (Value.pointer (some ⟨wr.heap.size, 2, none⟩)), .val (Value.int .i64 (f.share)), .call (Value.bool true), .val (Value.bool false), .val (Value.bool false), .val (Value.bool false), .val (Value.pointer (some ⟨wr.heap.size, 3, none⟩)), .val (Value.int .i64 (f.shear)), .call (Value.bool true), .val (Value.bool false), .val (Value.bool false), .val (Value.bool false), .val (Value.pointer (some ⟨wr.heap.size, 4, none⟩)), .val (Value.int .i64 (f.bend)), .call (Value.bool true), .val (Value.bool false), .val (Value.bool false), .val (Value.bool false), .val (Value.int .i64 ((k : Int))), .val (Value.bool false), .val (Value.bool false), .skip, .skip, .skip, .skip, .skip, .skip, .skip, .skip, .skip, .val (Value.bool false), .val (Value.bool false)] (by kernel_rfl) (by kernel_rfl) (Nat.le_of_ble_eq_true (by kernel_rfl)) (by kernel_rfl) (by kernel_rfl) ?_ ?_ ?_
                  · exact trivial
                  · exact ⟨(fun _ _ => ok_field (k := 0) rfl fl44_0 rfl), (fun w hb => ok_load rfl ((HL0.out) w hb)), (fun w _ => ok_call rfl rfl (cf_in18 _ _) (HI1.out w)), (fun _ _ => ok_not rfl rfl), (fun _ _ => ok_move rfl), (fun _ _ => ok_field (k := 1) rfl fl44_1 rfl), (fun w hb => ok_load rfl ((HL1.out) w hb)), (fun w _ => ok_call rfl rfl (cf_in18 _ _) (HI2.out w)), (fun _ _ => ok_not rfl rfl), (fun _ _ => ok_pick rfl rfl), (fun _ _ => ok_move rfl), (fun _ _ => ok_field (k := 2) rfl fl44_2 rfl), (fun w hb => ok_load rfl ((HL2.out) w hb)), (fun w _ => ok_call rfl rfl (cf_in18 _ _) (HI3.out w)), (fun _ _ => ok_not rfl rfl), (fun _ _ => ok_pick rfl rfl), (fun _ _ => ok_move rfl), (fun _ _ => ok_field (k := 3) rfl fl44_3 rfl), (fun w hb => ok_load rfl ((HL3.out) w hb)), (fun w _ => ok_call rfl rfl (cf_in18 _ _) (HI4.out w)), (fun _ _ => ok_not rfl rfl), (fun _ _ => ok_pick rfl rfl), (fun _ _ => ok_move rfl), (fun _ _ => ok_field (k := 4) rfl fl44_4 rfl), (fun w hb => ok_load rfl ((HL4.out) w hb)), (fun w _ => ok_call rfl rfl (cf_in18 _ _) (HI5.out w)), (fun _ _ => ok_not rfl rfl), (fun _ _ => ok_pick rfl rfl), (fun _ _ => ok_move rfl), (fun _ _ => ok_move rfl), (fun _ _ => ok_cmp rfl rfl (congrArg some (decide_eq_false (hpos))) rfl), (fun _ _ => ok_move rfl), trivial, trivial, trivial, trivial, trivial, trivial, trivial, trivial, trivial, (fun _ _ => ok_pick rfl rfl), (fun _ _ => ok_pick rfl rfl), trivial⟩
                  intro w7 hb7
                  simp only [contS, List.take_succ_cons, List.take_zero, List.drop_succ_cons, List.drop_zero]
                  simp only [Act.put, List.setIfInBounds_toArray, List.set_cons_succ, List.set_cons_zero]
                  have HM7 := Lib.hid (HM6.out.call hb7)
                  have HFR := Lib.hid (HFR6.out.trans (hb7.mono HFR6.out.size))
                  clear hb7
                  go_wp2_with ((with_reducible refine g_ld 3 ?_); first
                   | refine wpList_ld rfl _ _ rfl _ rfl _ (HM7.out.ldc ct3 (i := 0) (j := 1) (v := .int .i64 f.light) rfl rfl _ (Below.refl _ _)) ?_
                   | refine wpList_ld rfl _ _ rfl _ rfl _ (HM7.out.ldc ct3 (i := 0) (j := 2) (v := .int .i64 f.share) rfl rfl _ (Below.refl _ _)) ?_)
                  go_roundw
                  case rel => exact ⟨_, _, _, by omega, by go_num, rfl, rfl, HRI.out.step HF.out HOK.out HB3.out, HFR.out⟩
                  case measure => simp [intOf]; omega
                · have hpos : (k : Int) > 0 := by omega
                  have hsub : IntKind.i64.wrap ((k : Int) - 1) = (j : Int) := by rw [wrap_i64 (by omega) (by omega)]; omega
                  have hjn : (j : Int) < (n : Int) := by omega
                  have HLP := Lib.hid (fun (w1 : World) (hb : From w6 w1) => Rd.cell (P := Try.prog) (HR.out.from HFR6.out) hb ct3 (k := j) (cs := f0.cells) (by simp [hj]) (j := 0) (v := .int .i64 f0.x) rfl rfl)
                  have HB : Hid (behind (prevX l k) f = decide (f0.x < f.x)) := by unfold Hid; rw [hkj]; exact behind_succ hj
                  clear hj hkj
                  by_cases ho : f0.x < f.x
                  · have hord : ¬ f0.x ≥ f.x := by omega
                    have HB2 := HB.out
                    rw [decide_eq_true ho] at HB2
                    have HB3 := Lib.hid HB2
                    clear HB2 HB ho
                    refine wp_region_run 43 [.val (Value.pointer (some ⟨wr.heap.size, 0, none⟩)), .val (Value.int .i64 (f.x)), .call (Value.bool true), .val (Value.bool false), .val (Value.bool false), .val (Value.pointer (some ⟨wr.heap.size, 1, none⟩)), .val (Value.int .i64 (f.light)), .call (Value.bool true), .val (Value.bool false), .val (Value.bool false), .val (Value.bool false), .val (Value.pointer (some ⟨wr.heap.size, 2, none⟩)), .val (Value.int .i64 (f.share)), .call (Value.bool true), .val (Value.bool false), .val (Value.bool false), .val (Value.bool false), .val (Value.pointer (some ⟨wr.heap.size, 3, none⟩)), .val (Value.int .i64 (f.shear)), .call (Value.bool true), .val (Value.bool false), .val (Value.bool false), .val (Value.bool false), .val (Value.pointer (some ⟨wr.heap.size, 4, none⟩)), .val (Value.int .i64 (f.bend)), .call (Value.bool true), .val (Value.bool false), .val (Value.bool false), .val (Value.bool false), .val (Value.int .i64 ((k : Int))), .val (Value.bool true), .val (Value.bool true), .val (Value.slice (some ⟨bA, oA, none⟩) n c), .val (Value.int .i64 ((k : Int))), .val (Value.int .i64 ((j : Int))), .val (Value.pointer (some ⟨bA, oA + j * 5, none⟩)), .val (Value.pointer (some ⟨bA, oA + j * 5, none⟩)), .val (Value.int .i64 (f0.x)), .val (Value.pointer (some ⟨wr.heap.size, 0, none⟩)), .val (Value.int .i64 (f.x)), .val (Value.bool false), .val (Value.bool false), .val (Value.bool false)] (by kernel_rfl) (by kernel_rfl) (Nat.le_of_ble_eq_true (by kernel_rfl)) (by kernel_rfl) (by kernel_rfl) ?_ ?_ ?_
                    · exact trivial
                    · exact ⟨(fun _ _ => ok_field (k := 0) rfl fl44_0 rfl), (fun w hb => ok_load rfl ((HL0.out) w hb)), (fun w _ => ok_call rfl rfl (cf_in18 _ _) (HI1.out w)), (fun _ _ => ok_not rfl rfl), (fun _ _ => ok_move rfl), (fun _ _ => ok_field (k := 1) rfl fl44_1 rfl), (fun w hb => ok_load rfl ((HL1.out) w hb)), (fun w _ => ok_call rfl rfl (cf_in18 _ _) (HI2.out w)), (fun _ _ => ok_not rfl rfl), (fun _ _ => ok_pick rfl rfl), (fun _ _ => ok_move rfl), (fun _ _ => ok_field (k := 2) rfl fl44_2 rfl), (fun w hb => ok_load rfl ((HL2.out) w hb)), (fun w _ => ok_call rfl rfl (cf_in18 _ _) (HI3.out w)), (fun _ _ => ok_not rfl rfl), (fun _ _ => ok_pick rfl rfl), (fun _ _ => ok_move rfl), (fun _ _ => ok_field (k := 3) rfl fl44_3 rfl), (fun w hb => ok_load rfl ((HL3.out) w hb)), (fun w _ => ok_call rfl rfl (cf_in18 _ _) (HI4.out w)), (fun _ _ => ok_not rfl rfl), (fun _ _ => ok_pick rfl rfl), (fun _ _ => ok_move rfl), (fun _ _ => ok_field (k := 4) rfl fl44_4 rfl), (fun w hb => ok_load rfl ((HL4.out) w hb)), (fun w _ => ok_call rfl rfl (cf_in18 _ _) (HI5.out w)), (fun _ _ => ok_not rfl rfl), (fun _ _ => ok_pick rfl rfl), (fun _ _ => ok_move rfl), (fun _ _ => ok_move rfl), (fun _ _ => ok_cmp rfl rfl (congrArg some (decide_eq_true (hpos))) rfl), (fun _ _ => ok_move rfl), (fun _ _ => ok_move rfl), (fun _ _ => ok_move rfl), (fun _ _ => ok_sub rfl rfl (hsub) rfl), (fun _ _ => ok_index (k := j) rfl rfl el22 (hjn) (rfl)), (fun _ _ => ok_field (k := 0) rfl fl44_0 rfl), (fun w hb => ok_load rfl ((HLP.out) w hb)), (fun _ _ => ok_field (k := 0) rfl fl44_0 rfl), (fun w hb => ok_load rfl ((HL0.out) w hb)), (fun _ _ => ok_cmp rfl rfl (congrArg some (decide_eq_false (hord))) rfl), (fun _ _ => ok_pick rfl rfl), (fun _ _ => ok_pick rfl rfl), trivial⟩
                    intro w7 hb7
                    simp only [contS, List.take_succ_cons, List.take_zero, List.drop_succ_cons, List.drop_zero]
                    simp only [Act.put, List.setIfInBounds_toArray, List.set_cons_succ, List.set_cons_zero]
                    have HM7 := Lib.hid (HM6.out.call hb7)
                    have HFR := Lib.hid (HFR6.out.trans (hb7.mono HFR6.out.size))
                    clear hb7
                    go_wp2_with ((with_reducible refine g_ld 3 ?_); first
                     | refine wpList_ld rfl _ _ rfl _ rfl _ (HM7.out.ldc ct3 (i := 0) (j := 1) (v := .int .i64 f.light) rfl rfl _ (Below.refl _ _)) ?_
                     | refine wpList_ld rfl _ _ rfl _ rfl _ (HM7.out.ldc ct3 (i := 0) (j := 2) (v := .int .i64 f.share) rfl rfl _ (Below.refl _ _)) ?_)
                    go_roundw
                    case rel => exact ⟨_, _, _, by omega, by go_num, rfl, rfl, HRI.out.step HF.out HOK.out HB3.out, HFR.out⟩
                    case measure => simp [intOf]; omega
                  · have hord : f0.x ≥ f.x := by omega
                    have HB2 := HB.out
                    rw [decide_eq_false ho] at HB2
                    have HB3 := Lib.hid HB2
                    clear HB2 HB ho
                    refine wp_region_run 43 [.val (Value.pointer (some ⟨wr.heap.size, 0, none⟩)), .val (Value.int .i64 (f.x)), .call (Value.bool true), .val (Value.bool false), .val (Value.bool false), .val (Value.pointer (some ⟨wr.heap.size, 1, none⟩)), .val (Value.int .i64 (f.light)), .call (Value.bool true), .val (Value.bool false), .val (Value.bool false), .val (Value.bool false), .val (Value.pointer (some ⟨wr.heap.size, 2, none⟩)), .val (Value.int .i64 (f.share)), .call (Value.bool true), .val (Value.bool false), .val (Value.bool false), .val (Value.bool false), .val (Value.pointer (some ⟨wr.heap.size, 3, none⟩)), .val (Value.int .i64 (f.shear)), .call (Value.bool true), .val (Value.bool false), .val (Value.bool false), .val (Value.bool false), .val (Value.pointer (some ⟨wr.heap.size, 4, none⟩)), .val (Value.int .i64 (f.bend)), .call (Value.bool true), .val (Value.bool false), .val (Value.bool false), .val (Value.bool false), .val (Value.int .i64 ((k : Int))), .val (Value.bool true), .val (Value.bool true), .val (Value.slice (some ⟨bA, oA, none⟩) n c), .val (Value.int .i64 ((k : Int))), .val (Value.int .i64 ((j : Int))), .val (Value.pointer (some ⟨bA, oA + j * 5, none⟩)), .val (Value.pointer (some ⟨bA, oA + j * 5, none⟩)), .val (Value.int .i64 (f0.x)), .val (Value.pointer (some ⟨wr.heap.size, 0, none⟩)), .val (Value.int .i64 (f.x)), .val (Value.bool true), .val (Value.bool true), .val (Value.bool true)] (by kernel_rfl) (by kernel_rfl) (Nat.le_of_ble_eq_true (by kernel_rfl)) (by kernel_rfl) (by kernel_rfl) ?_ ?_ ?_
                    · exact trivial
                    · exact ⟨(fun _ _ => ok_field (k := 0) rfl fl44_0 rfl), (fun w hb => ok_load rfl ((HL0.out) w hb)), (fun w _ => ok_call rfl rfl (cf_in18 _ _) (HI1.out w)), (fun _ _ => ok_not rfl rfl), (fun _ _ => ok_move rfl), (fun _ _ => ok_field (k := 1) rfl fl44_1 rfl), (fun w hb => ok_load rfl ((HL1.out) w hb)), (fun w _ => ok_call rfl rfl (cf_in18 _ _) (HI2.out w)), (fun _ _ => ok_not rfl rfl), (fun _ _ => ok_pick rfl rfl), (fun _ _ => ok_move rfl), (fun _ _ => ok_field (k := 2) rfl fl44_2 rfl), (fun w hb => ok_load rfl ((HL2.out) w hb)), (fun w _ => ok_call rfl rfl (cf_in18 _ _) (HI3.out w)), (fun _ _ => ok_not rfl rfl), (fun _ _ => ok_pick rfl rfl), (fun _ _ => ok_move rfl), (fun _ _ => ok_field (k := 3) rfl fl44_3 rfl), (fun w hb => ok_load rfl ((HL3.out) w hb)), (fun w _ => ok_call rfl rfl (cf_in18 _ _) (HI4.out w)), (fun _ _ => ok_not rfl rfl), (fun _ _ => ok_pick rfl rfl), (fun _ _ => ok_move rfl), (fun _ _ => ok_field (k := 4) rfl fl44_4 rfl), (fun w hb => ok_load rfl ((HL4.out) w hb)), (fun w _ => ok_call rfl rfl (cf_in18 _ _) (HI5.out w)), (fun _ _ => ok_not rfl rfl), (fun _ _ => ok_pick rfl rfl), (fun _ _ => ok_move rfl), (fun _ _ => ok_move rfl), (fun _ _ => ok_cmp rfl rfl (congrArg some (decide_eq_true (hpos))) rfl), (fun _ _ => ok_move rfl), (fun _ _ => ok_move rfl), (fun _ _ => ok_move rfl), (fun _ _ => ok_sub rfl rfl (hsub) rfl), (fun _ _ => ok_index (k := j) rfl rfl el22 (hjn) (rfl)), (fun _ _ => ok_field (k := 0) rfl fl44_0 rfl), (fun w hb => ok_load rfl ((HLP.out) w hb)), (fun _ _ => ok_field (k := 0) rfl fl44_0 rfl), (fun w hb => ok_load rfl ((HL0.out) w hb)), (fun _ _ => ok_cmp rfl rfl (congrArg some (decide_eq_true (hord))) rfl), (fun _ _ => ok_pick rfl rfl), (fun _ _ => ok_pick rfl rfl), trivial⟩
                    intro w7 hb7
                    simp only [contS, List.take_succ_cons, List.take_zero, List.drop_succ_cons, List.drop_zero]
                    simp only [Act.put, List.setIfInBounds_toArray, List.set_cons_succ, List.set_cons_zero]
                    have HFR := Lib.hid (HFR6.out.trans (hb7.mono HFR6.out.size))
                    clear hb7
                    go_wp2
                    go_ret
                    exact ⟨by rw [HRF.out, HRI.out.bad HF.out (by rw [HB3.out]; simp)]; rfl, HFR.out⟩
              · rw [decide_eq_false h5] at HI5
                have HOK : Hid (f.ok = false) := by unfold Hid Frm.ok; rw [decide_eq_false h5]; simp
                clear h1 h2 h3 h4 h5 hkp
                refine wp_region_runG 43 [.val (Value.pointer (some ⟨wr.heap.size, 0, none⟩)), .val (Value.int .i64 (f.x)), .call (Value.bool true), .val (Value.bool false), .val (Value.bool false), .val (Value.pointer (some ⟨wr.heap.size, 1, none⟩)), .val (Value.int .i64 (f.light)), .call (Value.bool true), .val (Value.bool false), .val (Value.bool false), .val (Value.bool false), .val (Value.pointer (some ⟨wr.heap.size, 2, none⟩)), .val (Value.int .i64 (f.share)), .call (Value.bool true), .val (Value.bool false), .val (Value.bool false), .val (Value.bool false), .val (Value.pointer (some ⟨wr.heap.size, 3, none⟩)), .val (Value.int .i64 (f.shear)), .call (Value.bool true), .val (Value.bool false), .val (Value.bool false), .val (Value.bool false), .val (Value.pointer (some ⟨wr.heap.size, 4, none⟩)), .val (Value.int .i64 (f.bend)), .call (Value.bool false), .val (Value.bool true), .val (Value.bool true), .val (Value.bool true), .skip, .skip, .skip, .skip, .skip, .skip, .skip, .skip, .skip, .skip, .skip, .skip, .skip, .val (Value.bool true)] (by kernel_rfl) (by kernel_rfl) (Nat.le_of_ble_eq_true (by kernel_rfl)) (by kernel_rfl) (by kernel_rfl) ?_ ?_ ?_
                · exact trivial
                · exact ⟨(fun _ _ => ok_field (k := 0) rfl fl44_0 rfl), (fun w hb => ok_load rfl ((HL0.out) w hb)), (fun w _ => ok_call rfl rfl (cf_in18 _ _) (HI1.out w)), (fun _ _ => ok_not rfl rfl), (fun _ _ => ok_move rfl), (fun _ _ => ok_field (k := 1) rfl fl44_1 rfl), (fun w hb => ok_load rfl ((HL1.out) w hb)), (fun w _ => ok_call rfl rfl (cf_in18 _ _) (HI2.out w)), (fun _ _ => ok_not rfl rfl), (fun _ _ => ok_pick rfl rfl), (fun _ _ => ok_move rfl), (fun _ _ => ok_field (k := 2) rfl fl44_2 rfl), (fun w hb => ok_load rfl ((HL2.out) w hb)), (fun w _ => ok_call rfl rfl (cf_in18 _ _) (HI3.out w)), (fun _ _ => ok_not rfl rfl), (fun _ _ => ok_pick rfl rfl), (fun _ _ => ok_move rfl), (fun _ _ => ok_field (k := 3) rfl fl44_3 rfl), (fun w hb => ok_load rfl ((HL3.out) w hb)), (fun w _ => ok_call rfl rfl (cf_in18 _ _) (HI4.out w)), (fun _ _ => ok_not rfl rfl), (fun _ _ => ok_pick rfl rfl), (fun _ _ => ok_move rfl), (fun _ _ => ok_field (k := 4) rfl fl44_4 rfl), (fun w hb => ok_load rfl ((HL4.out) w hb)), (fun w _ => ok_call rfl rfl (cf_in18 _ _) (HI5.out w)), (fun _ _ => ok_not rfl rfl), (fun _ _ => ok_pick rfl rfl), (fun _ _ => ok_move rfl), trivial, trivial, trivial, trivial, trivial, trivial, trivial, trivial, trivial, trivial, trivial, trivial, trivial, (fun _ _ => ok_pick rfl rfl), trivial⟩
                intro w7 hb7
                simp only [contS, List.take_succ_cons, List.take_zero, List.drop_succ_cons, List.drop_zero]
                simp only [Act.put, List.setIfInBounds_toArray, List.set_cons_succ, List.set_cons_zero]
                have HFR := Lib.hid (HFR6.out.trans (hb7.mono HFR6.out.size))
                clear hb7
                go_wp2
                go_ret
                exact ⟨by rw [HRF.out, HRI.out.bad HF.out (by rw [HOK.out]; rfl)]; rfl, HFR.out⟩
            · rw [decide_eq_false h4] at HI4
              have HOK : Hid (f.ok = false) := by unfold Hid Frm.ok; rw [decide_eq_false h4]; simp
              clear h1 h2 h3 h4 hkp
              refine wp_region_runG 43 [.val (Value.pointer (some ⟨wr.heap.size, 0, none⟩)), .val (Value.int .i64 (f.x)), .call (Value.bool true), .val (Value.bool false), .val (Value.bool false), .val (Value.pointer (some ⟨wr.heap.size, 1, none⟩)), .val (Value.int .i64 (f.light)), .call (Value.bool true), .val (Value.bool false), .val (Value.bool false), .val (Value.bool false), .val (Value.pointer (some ⟨wr.heap.size, 2, none⟩)), .val (Value.int .i64 (f.share)), .call (Value.bool true), .val (Value.bool false), .val (Value.bool false), .val (Value.bool false), .val (Value.pointer (some ⟨wr.heap.size, 3, none⟩)), .val (Value.int .i64 (f.shear)), .call (Value.bool false), .val (Value.bool true), .val (Value.bool true), .val (Value.bool true), .skip, .skip, .skip, .skip, .val (Value.bool true), .val (Value.bool true), .skip, .skip, .skip, .skip, .skip, .skip, .skip, .skip, .skip, .skip, .skip, .skip, .skip, .val (Value.bool true)] (by kernel_rfl) (by kernel_rfl) (Nat.le_of_ble_eq_true (by kernel_rfl)) (by kernel_rfl) (by kernel_rfl) ?_ ?_ ?_
              · exact trivial
              · exact ⟨(fun _ _ => ok_field (k := 0) rfl fl44_0 rfl), (fun w hb => ok_load rfl ((HL0.out) w hb)), (fun w _ => ok_call rfl rfl (cf_in18 _ _) (HI1.out w)), (fun _ _ => ok_not rfl rfl), (fun _ _ => ok_move rfl), (fun _ _ => ok_field (k := 1) rfl fl44_1 rfl), (fun w hb => ok_load rfl ((HL1.out) w hb)), (fun w _ => ok_call rfl rfl (cf_in18 _ _) (HI2.out w)), (fun _ _ => ok_not rfl rfl), (fun _ _ => ok_pick rfl rfl), (fun _ _ => ok_move rfl), (fun _ _ => ok_field (k := 2) rfl fl44_2 rfl), (fun w hb => ok_load rfl ((HL2.out) w hb)), (fun w _ => ok_call rfl rfl (cf_in18 _ _) (HI3.out w)), (fun _ _ => ok_not rfl rfl), (fun _ _ => ok_pick rfl rfl), (fun _ _ => ok_move rfl), (fun _ _ => ok_field (k := 3) rfl fl44_3 rfl), (fun w hb => ok_load rfl ((HL3.out) w hb)), (fun w _ => ok_call rfl rfl (cf_in18 _ _) (HI4.out w)), (fun _ _ => ok_not rfl rfl), (fun _ _ => ok_pick rfl rfl), (fun _ _ => ok_move rfl), trivial, trivial, trivial, trivial, (fun _ _ => ok_pick rfl rfl), (fun _ _ => ok_move rfl), trivial, trivial, trivial, trivial, trivial, trivial, trivial, trivial, trivial, trivial, trivial, trivial, trivial, (fun _ _ => ok_pick rfl rfl), trivial⟩
              intro w7 hb7
              simp only [contS, List.take_succ_cons, List.take_zero, List.drop_succ_cons, List.drop_zero]
              simp only [Act.put, List.setIfInBounds_toArray, List.set_cons_succ, List.set_cons_zero]
              have HFR := Lib.hid (HFR6.out.trans (hb7.mono HFR6.out.size))
              clear hb7
              go_wp2
              go_ret
              exact ⟨by rw [HRF.out, HRI.out.bad HF.out (by rw [HOK.out]; rfl)]; rfl, HFR.out⟩
          · rw [decide_eq_false h3] at HI3
            have HOK : Hid (f.ok = false) := by unfold Hid Frm.ok; rw [decide_eq_false h3]; simp
            clear h1 h2 h3 hkp
            refine wp_region_runG 43 [.val (Value.pointer (some ⟨wr.heap.size, 0, none⟩)), .val (Value.int .i64 (f.x)), .call (Value.bool true), .val (Value.bool false), .val (Value.bool false), .val (Value.pointer (some ⟨wr.heap.size, 1, none⟩)), .val (Value.int .i64 (f.light)), .call (Value.bool true), .val (Value.bool false), .val (Value.bool false), .val (Value.bool false), .val (Value.pointer (some ⟨wr.heap.size, 2, none⟩)), .val (Value.int .i64 (f.share)), .call (Value.bool false), .val (Value.bool true), .val (Value.bool true), .val (Value.bool true), .skip, .skip, .skip, .skip, .val (Value.bool true), .val (Value.bool true), .skip, .skip, .skip, .skip, .val (Value.bool true), .val (Value.bool true), .skip, .skip, .skip, .skip, .skip, .skip, .skip, .skip, .skip, .skip, .skip, .skip, .skip, .val (Value.bool true)] (by kernel_rfl) (by kernel_rfl) (Nat.le_of_ble_eq_true (by kernel_rfl)) (by kernel_rfl) (by kernel_rfl) ?_ ?_ ?_
            · exact trivial
            · exact ⟨(fun _ _ => ok_field (k := 0) rfl fl44_0 rfl), (fun w hb => ok_load rfl ((HL0.out) w hb)), (fun w _ => ok_call rfl rfl (cf_in18 _ _) (HI1.out w)), (fun _ _ => ok_not rfl rfl), (fun _ _ => ok_move rfl), (fun _ _ => ok_field (k := 1) rfl fl44_1 rfl), (fun w hb => ok_load rfl ((HL1.out) w hb)), (fun w _ => ok_call rfl rfl (cf_in18 _ _) (HI2.out w)), (fun _ _ => ok_not rfl rfl), (fun _ _ => ok_pick rfl rfl), (fun _ _ => ok_move rfl), (fun _ _ => ok_field (k := 2) rfl fl44_2 rfl), (fun w hb => ok_load rfl ((HL2.out) w hb)), (fun w _ => ok_call rfl rfl (cf_in18 _ _) (HI3.out w)), (fun _ _ => ok_not rfl rfl), (fun _ _ => ok_pick rfl rfl), (fun _ _ => ok_move rfl), trivial, trivial, trivial, trivial, (fun _ _ => ok_pick rfl rfl), (fun _ _ => ok_move rfl), trivial, trivial, trivial, trivial, (fun _ _ => ok_pick rfl rfl), (fun _ _ => ok_move rfl), trivial, trivial, trivial, trivial, trivial, trivial, trivial, trivial, trivial, trivial, trivial, trivial, trivial, (fun _ _ => ok_pick rfl rfl), trivial⟩
            intro w7 hb7
            simp only [contS, List.take_succ_cons, List.take_zero, List.drop_succ_cons, List.drop_zero]
            simp only [Act.put, List.setIfInBounds_toArray, List.set_cons_succ, List.set_cons_zero]
            have HFR := Lib.hid (HFR6.out.trans (hb7.mono HFR6.out.size))
            clear hb7
            go_wp2
            go_ret
            exact ⟨by rw [HRF.out, HRI.out.bad HF.out (by rw [HOK.out]; rfl)]; rfl, HFR.out⟩
        · rw [decide_eq_false h2] at HI2
          have HOK : Hid (f.ok = false) := by unfold Hid Frm.ok; rw [decide_eq_false h2]; simp
          clear h1 h2 hkp
          refine wp_region_runG 43 [.val (Value.pointer (some ⟨wr.heap.size, 0, none⟩)), .val (Value.int .i64 (f.x)), .call (Value.bool true), .val (Value.bool false), .val (Value.bool false), .val (Value.pointer (some ⟨wr.heap.size, 1, none⟩)), .val (Value.int .i64 (f.light)), .call (Value.bool false), .val (Value.bool true), .val (Value.bool true), .val (Value.bool true), .skip, .skip, .skip, .skip, .val (Value.bool true), .val (Value.bool true), .skip, .skip, .skip, .skip, .val (Value.bool true), .val (Value.bool true), .skip, .skip, .skip, .skip, .val (Value.bool true), .val (Value.bool true), .skip, .skip, .skip, .skip, .skip, .skip, .skip, .skip, .skip, .skip, .skip, .skip, .skip, .val (Value.bool true)] (by kernel_rfl) (by kernel_rfl) (Nat.le_of_ble_eq_true (by kernel_rfl)) (by kernel_rfl) (by kernel_rfl) ?_ ?_ ?_
          · exact trivial
          · exact ⟨(fun _ _ => ok_field (k := 0) rfl fl44_0 rfl), (fun w hb => ok_load rfl ((HL0.out) w hb)), (fun w _ => ok_call rfl rfl (cf_in18 _ _) (HI1.out w)), (fun _ _ => ok_not rfl rfl), (fun _ _ => ok_move rfl), (fun _ _ => ok_field (k := 1) rfl fl44_1 rfl), (fun w hb => ok_load rfl ((HL1.out) w hb)), (fun w _ => ok_call rfl rfl (cf_in18 _ _) (HI2.out w)), (fun _ _ => ok_not rfl rfl), (fun _ _ => ok_pick rfl rfl), (fun _ _ => ok_move rfl), trivial, trivial, trivial, trivial, (fun _ _ => ok_pick rfl rfl), (fun _ _ => ok_move rfl), trivial, trivial, trivial, trivial, (fun _ _ => ok_pick rfl rfl), (fun _ _ => ok_move rfl), trivial, trivial, trivial, trivial, (fun _ _ => ok_pick rfl rfl), (fun _ _ => ok_move rfl), trivial, trivial, trivial, trivial, trivial, trivial, trivial, trivial, trivial, trivial, trivial, trivial, trivial, (fun _ _ => ok_pick rfl rfl), trivial⟩
          intro w7 hb7
          simp only [contS, List.take_succ_cons, List.take_zero, List.drop_succ_cons, List.drop_zero]
          simp only [Act.put, List.setIfInBounds_toArray, List.set_cons_succ, List.set_cons_zero]
          have HFR := Lib.hid (HFR6.out.trans (hb7.mono HFR6.out.size))
          clear hb7
          go_wp2
          go_ret
          exact ⟨by rw [HRF.out, HRI.out.bad HF.out (by rw [HOK.out]; rfl)]; rfl, HFR.out⟩
      · rw [decide_eq_false h1] at HI1
        have HOK : Hid (f.ok = false) := by unfold Hid Frm.ok; rw [decide_eq_false h1]; simp
        clear h1 hkp
        refine wp_region_runG 43 [.val (Value.pointer (some ⟨wr.heap.size, 0, none⟩)), .val (Value.int .i64 (f.x)), .call (Value.bool false), .val (Value.bool true), .val (Value.bool true), .skip, .skip, .skip, .skip, .val (Value.bool true), .val (Value.bool true), .skip, .skip, .skip, .skip, .val (Value.bool true), .val (Value.bool true), .skip, .skip, .skip, .skip, .val (Value.bool true), .val (Value.bool true), .skip, .skip, .skip, .skip, .val (Value.bool true), .val (Value.bool true), .skip, .skip, .skip, .skip, .skip, .skip, .skip, .skip, .skip, .skip, .skip, .skip, .skip, .val (Value.bool true)] (by kernel_rfl) (by kernel_rfl) (Nat.le_of_ble_eq_true (by kernel_rfl)) (by kernel_rfl) (by kernel_rfl) ?_ ?_ ?_
        · exact trivial
        · exact ⟨(fun _ _ => ok_field (k := 0) rfl fl44_0 rfl), (fun w hb => ok_load rfl ((HL0.out) w hb)), (fun w _ => ok_call rfl rfl (cf_in18 _ _) (HI1.out w)), (fun _ _ => ok_not rfl rfl), (fun _ _ => ok_move rfl), trivial, trivial, trivial, trivial, (fun _ _ => ok_pick rfl rfl), (fun _ _ => ok_move rfl), trivial, trivial, trivial, trivial, (fun _ _ => ok_pick rfl rfl), (fun _ _ => ok_move rfl), trivial, trivial, trivial, trivial, (fun _ _ => ok_pick rfl rfl), (fun _ _ => ok_move rfl), trivial, trivial, trivial, trivial, (fun _ _ => ok_pick rfl rfl), (fun _ _ => ok_move rfl), trivial, trivial, trivial, trivial, trivial, trivial, trivial, trivial, trivial, trivial, trivial, trivial, trivial, (fun _ _ => ok_pick rfl rfl), trivial⟩
        intro w7 hb7
        simp only [contS, List.take_succ_cons, List.take_zero, List.drop_succ_cons, List.drop_zero]
        simp only [Act.put, List.setIfInBounds_toArray, List.set_cons_succ, List.set_cons_zero]
        have HFR := Lib.hid (HFR6.out.trans (hb7.mono HFR6.out.size))
        clear hb7
        go_wp2
        go_ret
        exact ⟨by rw [HRF.out, HRI.out.bad HF.out (by rw [HOK.out]; rfl)]; rfl, HFR.out⟩
 · have hs : (n : Int) < 3 ∨ (30 : Int) < (n : Int) := by omega
   have HRF : Hid (rightF l = false) := by unfold Hid rightF; rw [decide_eq_false (by rw [← hn]; exact hlen)]; simp
   clear hlen hn h hl
   rcases hs with h1 | h1
   · go_enter Try.func31, Try.ntmps31
     go_wp2
     go_ret
     exact ⟨by rw [HRF.out]; rfl, Below.refl _ _⟩
   · have h2 : ¬ (n : Int) < 3 := by omega
     go_enter Try.func31, Try.ntmps31
     go_wp2
     go_ret
     exact ⟨by rw [HRF.out]; rfl, Below.refl _ _⟩
end Go.Proofs.Ytcdfnlgimbecgaa
