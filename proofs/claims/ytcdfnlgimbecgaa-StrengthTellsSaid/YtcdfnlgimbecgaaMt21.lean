/-
  strength: sections.
-/
import Derived.Test.YtcdfnlgimbecgaaMt20
namespace Go.Proofs.Ytcdfnlgimbecgaa
open Go.RowKit
theorem mul_in {a b A B : Int} (h1 : -A ≤ a ∧ a ≤ A) (h2 : -B ≤ b ∧ b ≤ B) : -(A * B) ≤ a * b ∧ a * b ≤ A * B := by
 have hA : a.natAbs ≤ A.natAbs := by omega
 have hB : b.natAbs ≤ B.natAbs := by omega
 have h3 : (a * b).natAbs ≤ (A * B).natAbs := by
  rw [Int.natAbs_mul, Int.natAbs_mul]
  exact Nat.mul_le_mul hA hB
 have h4 : 0 ≤ A * B := Int.mul_nonneg (by omega) (by omega)
 omega
theorem Sec.row : IsRow Try.prog 103 6 := ⟨_, Try.underlying103, by kernel_rfl, by kernel_rfl⟩
theorem sec_size : (Try.prog.info? 103).map (·.size) = some 6 := by kernel_rfl
theorem sec_info : (Try.prog.info? 103).map (fun i => (i.zero, i.size, i.bytes)) = some (some Sec.zero.val, 6, 48) := by kernel_rfl
theorem Sec.one (a : Sec) : ∀ u ∈ a.cells, u.oneCell' = true := by simp [Sec.cells, Value.oneCell']
def secOk (k : Nat) (a : Sec) : Prop := (0 ≤ a.a0 ∧ a.a0 ≤ 500000000 * (k + 1)) ∧ (-(500000000000000 * (k + 1)) ≤ a.a1 ∧ a.a1 ≤ 500000000000000 * (k + 1)) ∧ (0 ≤ a.a2 ∧ a.a2 ≤ 10000) ∧ (-10000000000 ≤ a.a3 ∧ a.a3 ≤ 10000000000) ∧ (-60000000 ≤ a.a4 ∧ a.a4 ≤ 60000000) ∧ (-60000000000000 ≤ a.a5 ∧ a.a5 ≤ 60000000000000)
theorem secBase_ok {l : List Frm} (hok : ∀ f ∈ l, f.ok = true) {n : Nat} (hn : n ≤ 29) {i : Nat} (hi : i < l.length) : secOk 0 (secBase l n (allX l n) i) := by
 have hf := Frm.ok_nums (hok l[i] (List.getElem_mem hi))
 have e : l.getD i frm0 = l[i] := by simp [hi]
 have hh := hX_ok hok i
 have ha := allX_ok hok n
 have m1 := mul_in (a := l[i].light) (A := 500000000) (b := hX l i) (B := 1000000) (by omega) hh
 have m2 := mul_in (a := l[i].share) (A := 10000) (b := hX l i) (B := 1000000) (by omega) hh
 have m3 := mul_in (a := (n : Int)) (A := 29) (b := hX l i) (B := 1000000) (by omega) hh
 have m4 := mul_in (a := (n : Int) * hX l i - allX l n) (A := 60000000) (b := hX l i) (B := 1000000) (by omega) hh
 unfold secOk secBase
 simp only [e]
 omega
theorem frm_cells {w : World} {A : Option Addr} {l : List Frm} (h : Rd w w.heap.size 5 A (l.map Frm.cells)) {i : Nat} (hi : i < l.length) : ∃ b off, A = some ⟨b, off, none⟩ ∧ b < w.heap.size ∧ ∀ w', From w w' →
 w'.cell? ⟨b, off + i * 5, none⟩ = some (.int .i64 (frmX l i)) := by
 obtain ⟨b, off, e, hb, hc⟩ := Frm.at_ h i hi
 refine ⟨b, off, e, hb, fun w' hw => ?_⟩
 rw [frmX_get hi]
 exact (hc w' hw).1
def SectPost (w : World) (l : List Frm) (ws : List Wt) (e : Ending) (w' : World) : Prop := ((∃ S A' c', sectionsF l ws = some S ∧ e = .returned (.tuple #[.slice A' (l.length - 1) c', .bool true]) ∧ Rd w' w'.heap.size 6 A' (S.map Sec.cells) ∧ S.length = l.length - 1 ∧ ∀ a ∈ S, secOk ws.length a) ∨ (sectionsF l ws = none ∧ e = .returned (.tuple #[.slice none 0 0, .bool false]))) ∧ Below w.heap.size w w'
def partS (l : List Frm) (k : Nat) (all : Int) (j : Nat) : List Sec := (List.range k).map fun i => if i < j then secBase l k all i else Sec.zero
theorem partS_len (l : List Frm) (k : Nat) (all : Int) (j : Nat) : (partS l k all j).length = k := by simp [partS]
theorem partS_zero (l : List Frm) (k : Nat) (all : Int) : partS l k all 0 = List.replicate k Sec.zero := by
 unfold partS
 apply List.ext_getElem
 · simp
 · intro i h1 h2
   simp
theorem partS_set (l : List Frm) (k : Nat) (all : Int) (j : Nat) : (partS l k all j).set j (secBase l k all j) = partS l k all (j + 1) := by
 unfold partS
 apply List.ext_getElem
 · simp
 · intro i h1 h2
   rw [List.getElem_set]
   simp only [List.getElem_map, List.getElem_range]
   by_cases e : j = i
   · subst e
     simp
   · rw [if_neg e]
     by_cases h3 : i < j
     · rw [if_pos h3, if_pos (by omega)]
     · rw [if_neg h3, if_neg (by omega)]
theorem partS_all (l : List Frm) (k : Nat) (all : Int) : partS l k all k = (List.range k).map (secBase l k all) := by
 unfold partS
 apply List.ext_getElem
 · simp
 · intro i h1 h2
   simp only [List.getElem_map, List.getElem_range]
   rw [if_pos (by simpa using h1)]
set_option maxRecDepth 100000 in
set_option maxHeartbeats 8000000 in
theorem st_sections (A D : Option Addr) (c d n m : Nat) (l : List Frm) (ws : List Wt) (hn : n = l.length) (hm : m = ws.length) (w : World) (h : Rd w w.heap.size 5 A (l.map Frm.cells)) (h' : Rd w w.heap.size 2 D (ws.map Wt.cells)) (hl3 : 3 ≤ l.length) (hl : l.length ≤ 30) (hws : ws.length ≤ 3000) (hof : okFrom none l = true) (hk : ∀ x ∈ ws, 0 ≤ x.kilos ∧ x.kilos ≤ 500000000) :
 Calls Try.prog 40 #[.slice A n c, .slice D m d] w (SectPost w l ws) := by
 have hok := okFrom_ok none l hof
 have hord := (okFrom_ord l none hof).1
 obtain ⟨n1, hn1⟩ : ∃ n1, n = n1 + 1 := ⟨n - 1, by omega⟩
 have wn1 : IntKind.i64.wrap ((n : Int) - 1) = (n1 : Int) := by rw [wrap_i64 (by omega) (by omega)]; omega
 have hn1b : n1 ≤ 29 := by omega
 have HN := Lib.hid (And.intro hn (And.intro hn1 hm))
 have HR := Lib.hid h
 have HD := Lib.hid h'
 have HOK := Lib.hid hok
 have HORD := Lib.hid hord
 have HK := Lib.hid hk
 have HW := Lib.hid hws
 have HOF := Lib.hid hof
 have HL30 := Lib.hid (And.intro hl3 hl)
 have hmo : Try.prog.follows .mixedOrders = true := by kernel_rfl
 clear h h' hl3 hl hof hk hok hord hn hm hn1 hws
 go_enter Try.func40, Try.ntmps40
 go_wp2
 go_loopw [7, 22] (fun sv iv wr => ∃ (k : Nat), k ≤ n1 ∧ iv = .int .i64 k ∧ sv = .int .i64 (allX l k) ∧ Below w.heap.size w wr) (fun _ iv _ => n1 - (intOf iv).toNat)
 case atStart => exact ⟨0, Nat.zero_le _, rfl, rfl, Below.refl _ _⟩
 case round =>
  obtain ⟨k, hk, rfl, rfl, hb⟩ := hrel
  have HB := Lib.hid hb
  clear hb
  by_cases hkn : k < n1
  · obtain ⟨g, off, rfl, hg, hc1⟩ := frm_cells HR.out (i := k) (by have := HN.out; omega)
    obtain ⟨g2, off2, e2, _, hc2⟩ := frm_cells HR.out (i := k + 1) (by have := HN.out; omega)
    injection e2 with e2
    injection e2 with e3 e4
    subst e3; subst e4
    have c1 := hc1 wr.drew HB.out.drew
    have c2 := hc2 wr.drew HB.out.drew
    have wk1 : IntKind.i64.wrap ((k : Int) + 1) = ((k + 1 : Nat) : Int) := by rw [wrap_i64 (by omega) (by omega)]; omega
    obtain ⟨k1, hk1⟩ : ∃ k1, k1 = k + 1 := ⟨_, rfl⟩
    rw [← hk1] at c2 wk1
    have hki : (k : Int) < (n1 : Int) := by omega
    have hkn0 : (k : Int) < (n : Int) := by have := HN.out; omega
    have hkn2 : (k1 : Int) < (n : Int) := by have := HN.out; omega
    have x1 := frmX_ok HOK.out k
    have x2 := frmX_ok HOK.out k1
    have xa := allX_ok HOK.out k
    have HX : Hid (allX l k1 = allX l k + (frmX l k + frmX l k1)) := by unfold Hid; rw [hk1]; rfl
    have HK1 := Lib.hid hk1
    generalize frmX l k = y1 at *
    generalize frmX l k1 = y2 at *
    generalize allX l k = sa at *
    have ww1 : IntKind.i64.wrap (y1 + y2) = y1 + y2 := wrap_i64 (by omega) (by omega)
    have ww2 : IntKind.i64.wrap (sa + (y1 + y2)) = sa + (y1 + y2) := wrap_i64 (by omega) (by omega)
    clear hc1 hc2 x1 x2 xa hk1
    go_wp2
    go_region
    go_wp2
    go_roundw
    case rel => exact ⟨k1, by have := HK1.out; omega, by first | rfl | go_num, by rw [HX.out], HB.out.drew⟩
    case measure => simp [intOf]; have := HK1.out; omega
  · obtain rfl : k = n1 := by omega
    have hkk : ¬ (k : Int) < (k : Int) := by omega
    go_wp2_with (first
     | (at_make; go_loud (refine wpList_make_R (n := k) (z := Sec.zero.val) rfl _ _ rfl Try.underlying99 sec_info rfl (by omega) rfl rfl (by simp) (by simp) (by omega) (by unfold maxLen; omega) ?_); intro w1 hrb1 hb1 hlt1))
    have HRB1 : Hid (RB w1 wr.heap.size 103 6 ((partS l k (allX l k) 0).map Sec.cells)) := by
     unfold Hid
     rw [partS_zero, List.map_replicate]
     exact hrb1
    have HB1 := Lib.hid (HB.out.trans (hb1.mono HB.out.size))
    have HGQ := Lib.hid HB.out.size
    have HLT1 := Lib.hid hlt1
    clear hrb1 hb1 hlt1 HB
    generalize wr.heap.size = gq at *
    obtain ⟨all, hall⟩ : ∃ all, all = allX l k := ⟨_, rfl⟩
    have HALL : Hid (all = allX l k ∧ -1000000 * (k : Int) ≤ all ∧ all ≤ 1000000 * (k : Int)) := by
     have := allX_ok HOK.out k
     rw [← hall] at this
     exact ⟨hall, this⟩
    rw [← hall] at HRB1 ⊢
    clear hall
    go_loopw [44] (fun jv wr2 => ∃ (j : Nat), j ≤ k ∧ jv = .int .i64 j ∧ RB wr2 gq 103 6 ((partS l k all j).map Sec.cells) ∧ Below w.heap.size w wr2 ∧ gq < wr2.heap.size) (fun jv _ => k - (intOf jv).toNat)
    case atStart => exact ⟨0, Nat.zero_le _, rfl, HRB1.out, HB1.out, HLT1.out⟩
    case round =>
     clear HRB1 HB1 HLT1
     obtain ⟨j, hj, rfl, hrb, hb, hlt⟩ := hrel
     have HRB := Lib.hid hrb
     have HB := Lib.hid hb
     have HLT := Lib.hid hlt
     clear hrb hb hlt
     by_cases hjk : j < k
     · obtain ⟨j1, hj1⟩ : ∃ j1, j1 = j + 1 := ⟨_, rfl⟩
       have hjl : j < l.length := by have := HN.out; omega
       obtain ⟨g, off, rfl, hg, hc1⟩ := Frm.at_ HR.out j hjl
       obtain ⟨g2, off2, e2, _, hc2⟩ := frm_cells HR.out (i := j1) (by have := HN.out; omega)
       injection e2 with e2
       injection e2 with e3 e4
       subst e3; subst e4
       obtain ⟨c1, c2, c3, c4, c5⟩ := hc1 wr.drew HB.out.drew
       have c6 := hc2 wr.drew HB.out.drew
       obtain ⟨d1, d2, d3, d4, d5⟩ := hc1 wr HB.out
       have d6 := hc2 wr HB.out
       obtain ⟨f, hf⟩ : ∃ f, f = l[j] := ⟨_, rfl⟩
       rw [← hf] at c1 c2 c3 c4 c5 d1 d2 d3 d4 d5
       have wk1 : IntKind.i64.wrap ((j : Int) + 1) = (j1 : Int) := by rw [wrap_i64 (by omega) (by omega)]; omega
       have hki : (j : Int) < (k : Int) := by omega
       have hkn0 : (j : Int) < (n : Int) := by have := HN.out; omega
       have hkn2 : (j1 : Int) < (n : Int) := by have := HN.out; omega
       have x2 := frmX_ok HOK.out j1
       have HF := Lib.hid (Frm.ok_nums (HOK.out f (by rw [hf]; exact List.getElem_mem hjl)))
       have HSEC : Hid (secBase l k all j = ⟨f.light, f.light * (f.x + frmX l j1), f.share, f.share * (f.x + frmX l j1), (k : Int) * (f.x + frmX l j1) - all, ((k : Int) * (f.x + frmX l j1) - all) * (f.x + frmX l j1)⟩) := by
        unfold Hid secBase hX
        rw [frmX_get hjl, ← hf, hj1]
        have e : l.getD j frm0 = f := by rw [hf]; simp [hjl]
        rw [e]
       have HJ1 := Lib.hid hj1
       obtain ⟨y2, hy2⟩ : ∃ y2, y2 = frmX l j1 := ⟨_, rfl⟩
       rw [← hy2] at HSEC c6 d6 x2
       obtain ⟨hh, hhe⟩ : ∃ hh, hh = f.x + y2 := ⟨_, rfl⟩
       rw [← hhe] at HSEC
       have hhr : -1000000 ≤ hh ∧ hh ≤ 1000000 := by have := HF.out; omega
       have wx1 : IntKind.i64.wrap (f.x + y2) = hh := by rw [← hhe]; exact wrap_i64 (by omega) (by omega)
       have wx2 : wrap64 (f.x + y2) = hh := by unfold wrap64; omega
       have hkr : -29 ≤ (k : Int) ∧ (k : Int) ≤ 29 := by omega
       have har := HALL.out
       have mA := mul_in (a := (k : Int)) (A := 29) (b := hh) (B := 1000000) hkr hhr
       have mB := mul_in (a := f.light) (A := 500000000) (b := hh) (B := 1000000) (by have := HF.out; omega) hhr
       have mC := mul_in (a := f.share) (A := 10000) (b := hh) (B := 1000000) (by have := HF.out; omega) hhr
       have mD := mul_in (a := (k : Int) * hh - all) (A := 60000000) (b := hh) (B := 1000000) (by omega) hhr
       obtain ⟨pA, hpA⟩ : ∃ pA, pA = (k : Int) * hh := ⟨_, rfl⟩
       obtain ⟨pB, hpB⟩ : ∃ pB, pB = f.light * hh := ⟨_, rfl⟩
       obtain ⟨pC, hpC⟩ : ∃ pC, pC = f.share * hh := ⟨_, rfl⟩
       rw [← hpA] at mA mD HSEC
       rw [← hpB] at mB HSEC
       rw [← hpC] at mC HSEC
       obtain ⟨pF, hpF⟩ : ∃ pF, pF = pA - all := ⟨_, rfl⟩
       rw [← hpF] at mD HSEC
       obtain ⟨pD, hpD⟩ : ∃ pD, pD = pF * hh := ⟨_, rfl⟩
       rw [← hpD] at mD HSEC
       have wA : IntKind.i64.wrap ((k : Int) * hh) = pA := by rw [← hpA]; exact wrap_i64 (by omega) (by omega)
       have wB : IntKind.i64.wrap (f.light * hh) = pB := by rw [← hpB]; exact wrap_i64 (by omega) (by omega)
       have wC : IntKind.i64.wrap (f.share * hh) = pC := by rw [← hpC]; exact wrap_i64 (by omega) (by omega)
       have wF : IntKind.i64.wrap (pA - all) = pF := by rw [← hpF]; exact wrap_i64 (by omega) (by omega)
       have wD : IntKind.i64.wrap (pF * hh) = pD := by rw [← hpD]; exact wrap_i64 (by omega) (by omega)
       have C2 : Hid (From wr (wr.alloc (.cells #[.int .i64 f.x, .int .i64 f.light, .int .i64 f.share, .int .i64 f.shear, .int .i64 f.bend] 44)).drew) := ((Below.refl _ _).alloc (Nat.le_refl _) _).drew
       clear hhe hhr hkr har mA mB mC mD hpA hpB hpC hpF hpD
       have hgs : g < wr.heap.size := Nat.lt_of_lt_of_le hg HB.out.size
       have hsz : wr.drew.heap.size = wr.heap.size := rfl
       clear hf hjl hj1 hc1 hc2 hy2
       go_wp2
       go_region
       have HRB2 := Lib.hid (HRB.out.below C2.out HRB.out.lt)
       have HB2 := Lib.hid (HB.out.trans (C2.out.mono HB.out.size))
       have HJL : Hid (j < ((partS l k all j).map Sec.cells).length) := by unfold Hid; rw [List.length_map, partS_len]; exact hjk
       go_wp2_with (first
        | ((with_reducible refine g_st 103 ?_); refine wpList_stR (i := j) (cs := Sec.cells ⟨f.light, pB, f.share, pC, pF, pD⟩) rfl _ _ rfl rfl rfl sec_size rfl rfl (Sec.one _) HRB2.out HJL.out (by simp) ?_; intro w7 hrb7 hgr7))
       have HRB7 : Hid (RB w7 gq 103 6 ((partS l k all j1).map Sec.cells)) := by
        unfold Hid
        rw [HJ1.out, ← partS_set, HSEC.out, List.map_set]
        exact hrb7
       have HB7 := Lib.hid (HB2.out.grown hgr7 HB2.out.size (by intro q hq; injection hq with hq; rw [← hq]; exact HGQ.out))
       have HLT7 := Lib.hid (Nat.lt_of_lt_of_le HLT.out (Nat.le_trans C2.out.size hgr7.size))
       clear hrb7 hgr7
       go_roundw
       case rel => exact ⟨j1, by have := HJ1.out; omega, rfl, HRB7.out, HB7.out, HLT7.out⟩
       case measure => simp [intOf]; have := HJ1.out; omega
     · obtain rfl : j = k := by omega
       have hjj : ¬ (j : Int) < (j : Int) := by omega
       have HST : Hid (putAllW l j (partS l j all j) (ws.drop 0) = sectionsF l ws) := by
        unfold Hid sectionsF baseS
        have e : l.length - 1 = j := by have := HN.out; omega
        rw [e, partS_all, HALL.out.1, List.drop_zero]
       have HSO : Hid (∀ a ∈ partS l j all j, secOk 0 a) := by
        intro a ha
        rw [partS_all] at ha
        obtain ⟨i, hi, rfl⟩ := List.mem_map.1 ha
        rw [HALL.out.1]
        exact secBase_ok HOK.out hn1b (by have := HN.out; have := List.mem_range.1 hi; omega)
       have HSL : Hid ((partS l j all j).length = j) := partS_len _ _ _ _
       have hm3 : m ≤ 3000 := by have := HN.out; have := HW.out; omega
       clear hkn hj hjk hn1b
       go_wp2
       go_loopw [91] (fun iv wr3 => ∃ (p : Nat) (S : List Sec), p ≤ m ∧ iv = .int .i64 p ∧ putAllW l j S (ws.drop p) = sectionsF l ws ∧ (∀ a ∈ S, secOk p a) ∧ S.length = j ∧ RB wr3 gq 103 6 (S.map Sec.cells) ∧ Below w.heap.size w wr3 ∧ gq < wr3.heap.size) (fun iv _ => m - (intOf iv).toNat)
       case atStart => exact ⟨0, _, Nat.zero_le _, rfl, HST.out, HSO.out, HSL.out, HRB.out, HB.out, HLT.out⟩
       case round =>
        clear HST HSO HSL HRB HB HLT
        obtain ⟨p, S, hp, rfl, hput, hso, hsl, hrb, hb, hlt⟩ := hrel
        have HPUT := Lib.hid hput
        have HSO := Lib.hid hso
        have HSL := Lib.hid hsl
        have HRB := Lib.hid hrb
        have HB := Lib.hid hb
        have HLT := Lib.hid hlt
        clear hput hso hsl hrb hb hlt
        by_cases hpm : p < m
        · have hpl : p < ws.length := by have := HN.out; omega
          obtain ⟨g, off, rfl, hg, hld⟩ := Wt.ld HD.out (k := p) (b := ws[p]) (by simp [hpl])
          obtain ⟨u, hu⟩ : ∃ u, u = ws[p] := ⟨_, rfl⟩
          rw [← hu] at hld
          have HLD := Lib.hid (hld wr HB.out)
          have HDR : Hid (ws.drop p = u :: ws.drop (p + 1)) := by unfold Hid; rw [hu]; exact List.drop_eq_getElem_cons hpl
          have HKU := Lib.hid (HK.out u (by rw [hu]; exact List.getElem_mem hpl))
          have hpi : (p : Int) < (m : Int) := by omega
          have HSEA := Lib.hid (fun (w1 : World) (hb : From w w1) => st_search A c n l HN.out.1 u.x w1 ((HR.out.below hb (Nat.le_refl _)).more hb.size) (by have := HL30.out; omega) HORD.out)
          have C1 : Hid (From wr (wr.alloc (.cells #[.int .i64 u.x, .int .i64 u.kilos] 46))) := (Below.refl _ _).alloc (Nat.le_refl _) _
          have HCB : Hid (∀ w1, From (wr.alloc (.cells #[.int .i64 u.x, .int .i64 u.kilos] 46)) w1 → (loadVar 3 ⟨wr.heap.size, 0, none⟩).run Try.prog w1 = .ok (.int .i64 u.x) w1 ∧ (loadVar 3 ⟨wr.heap.size, 1, none⟩).run Try.prog w1 = .ok (.int .i64 u.kilos) w1) := by
           intro w1 hb1
           have h1 := heap_alloc_new wr (.cells #[.int .i64 u.x, .int .i64 u.kilos] 46)
           have h2 := (hb1.block wr.heap.size (by simp)).trans h1
           exact ⟨run_load_cell Try.underlying3 rfl (by rw [cell_of_row w1 _ 0 _ _ _ h2]; rfl), run_load_cell Try.underlying3 rfl (by rw [cell_of_row w1 _ 1 _ _ _ h2]; rfl)⟩
          clear hld hu hpl
          go_upto_region 19 with (first
           | ((with_reducible refine g_ld 46 ?_); refine wpList_ld rfl _ _ rfl _ rfl _ HLD.out ?_)
           | (go_at_call 81; refine (HSEA.out _ (HB.out.trans (C1.out.mono HB.out.size))).mono ?_; rintro e w3 ⟨iw, hsp, rfl, hb3⟩; have HSP := Lib.hid hsp; have C3 := Lib.hid hb3; clear hsp hb3 HSEA))
          have HIX := Lib.hid (splits_idx HSP.out)
          have C4 : Hid (From wr w3) := C1.out.trans (C3.out.mono C1.out.size)
          by_cases hi0 : iw = 0
          · have HNONE : Hid (sectionsF l ws = none) := by
             unfold Hid
             rw [← HPUT.out, HDR.out]
             unfold putAllW putW
             rw [if_pos (.inl (by rw [← HIX.out]; exact hi0))]
            subst hi0
            clear HPUT HDR HKU
            go_wp2
            go_ret2
            exact ⟨.inr ⟨HNONE.out, rfl⟩, HB.out.trans (C4.out.mono HB.out.size)⟩
          · have hi1 : ((iw : Int) == 0) = false := by simp; omega
            by_cases hij : j < iw
            · have HNONE : Hid (sectionsF l ws = none) := by
               unfold Hid
               rw [← HPUT.out, HDR.out]
               unfold putAllW putW
               rw [if_pos (.inr (by rw [← HIX.out]; exact hij))]
              have hij2 : (j : Int) < (iw : Int) := by omega
              clear HPUT HDR HKU hi0
              go_wp2
              go_ret2
              exact ⟨.inr ⟨HNONE.out, rfl⟩, HB.out.trans (C4.out.mono HB.out.size)⟩
            · have hij2 : ¬ (j : Int) < (iw : Int) := by omega
              obtain ⟨im, him⟩ : ∃ im, iw = im + 1 := ⟨iw - 1, by omega⟩
              have himj : im < S.length := by rw [HSL.out]; omega
              obtain ⟨S0, hS0⟩ : ∃ S0, S0 = S[im] := ⟨_, rfl⟩
              have hxr := idxF_range HORD.out HSP.out hi0 (by have := HN.out; omega)
              have hx0 := frmX_ok HOK.out 0
              have hx9 := frmX_ok HOK.out (l.length - 1)
              have hku := HKU.out
              have hs0 := HSO.out S0 (by rw [hS0]; exact List.getElem_mem himj)
              obtain ⟨k2, hk2⟩ : ∃ k2, k2 = 2 * u.kilos := ⟨_, rfl⟩
              have m1 := mul_in (a := k2) (A := 1000000000) (b := u.x) (B := 500000) (by omega) (by omega)
              obtain ⟨px, hpx⟩ : ∃ px, px = k2 * u.x := ⟨_, rfl⟩
              rw [← hpx] at m1
              have HWT : Hid (wtSec u = ⟨u.kilos, px, 0, 0, 0, 0⟩) := by unfold Hid wtSec; rw [hpx, hk2]
              have wI : IntKind.i64.wrap ((iw : Int) - 1) = (im : Int) := by rw [wrap_i64 (by have := HN.out; have := HL30.out; omega) (by have := HN.out; have := HL30.out; omega)]; omega
              have wM : IntKind.i64.wrap (2 * u.kilos) = k2 := by rw [← hk2]; exact wrap_i64 (by omega) (by omega)
              have wP : IntKind.i64.wrap (k2 * u.x) = px := by rw [← hpx]; exact wrap_i64 (by omega) (by omega)
              have hik : (im : Int) < (j : Int) := by have := HSL.out; omega
              have hpz : (p : Int) ≤ 3000 := by omega
              have HS1 : Hid (secOk (p + 1) (S0.add (wtSec u))) := by
               rw [HWT.out]
               obtain ⟨q0, q1, q2, q3, q4, q5⟩ := hs0
               unfold Hid secOk Sec.add
               simp only [Int.natCast_add, Int.natCast_one, Int.add_zero]
               omega
              have HFIT : Hid ((S0.add ⟨u.kilos, px, 0, 0, 0, 0⟩).fits) := by
               obtain ⟨q0, q1, q2, q3, q4, q5⟩ := hs0
               unfold Hid Sec.fits Sec.add inI
               simp only [Int.add_zero]
               omega
              have HPUT2 : Hid (putAllW l j (S.set im (S0.add (wtSec u))) (ws.drop (p + 1)) = sectionsF l ws) := by
               unfold Hid
               rw [← HPUT.out, HDR.out]
               conv => rhs; unfold putAllW putW
               rw [if_neg (by rw [← HIX.out]; omega), ← HIX.out, him, Nat.add_sub_cancel]
               have e : S.getD im Sec.zero = S0 := by rw [hS0]; simp [himj]
               rw [e]
              have HLD0 : Hid (∀ w1, From w3 w1 → (loadVar 103 ⟨gq, im * 6, none⟩).run Try.prog w1 = .ok S0.val w1) := by
               intro w1 hb1
               have hrbw := HRB.out.below (C4.out.trans (hb1.mono C4.out.size)) HRB.out.lt
               obtain ⟨g5, off5, e5, _, hl5⟩ := hrbw.rd.ld Sec.row (k := im) (cs := S0.cells) (by rw [List.getElem?_map, List.getElem?_eq_getElem himj, hS0]; rfl)
               injection e5 with e5
               injection e5 with e6 e7
               subst e6; subst e7
               have := hl5 w1 (Below.refl _ _)
               rw [Nat.zero_add] at this
               exact this
              have HIML : Hid (im < (S.map Sec.cells).length) := by unfold Hid; rw [List.length_map]; exact himj
              have HRB3 := Lib.hid (HRB.out.below C4.out HRB.out.lt)
              have HB3 := Lib.hid (HB.out.trans (C4.out.mono HB.out.size))
              have HLT3 := Lib.hid (Nat.lt_of_lt_of_le HLT.out C4.out.size)
              clear hS0 hxr hx0 hx9 hku hs0 m1 hpx hk2 hi0 him himj HPUT HDR
              go_wp2
              refine region_put (gq := gq) (gw := wr.heap.size) (kk := j) (iw := iw) (im := im) (kil := u.kilos) (xx := u.x) (k2 := k2) (px := px) (S0 := S0) (S1 := S0.add ⟨u.kilos, px, 0, 0, 0, 0⟩) wI wM wP hik rfl (by kernel_rfl) (by kernel_rfl) (by kernel_rfl) rfl rfl rfl
               (fun w1 hb => HLD0.out w1 hb) (fun w1 hb => (HCB.out w1 (C3.out.trans (hb.mono C3.out.size))).2) (fun w1 hb => (HCB.out w1 (C3.out.trans (hb.mono C3.out.size))).2) (fun w1 hb => (HCB.out w1 (C3.out.trans (hb.mono C3.out.size))).1)
               (fun w1 hb => sec_plus S0 ⟨u.kilos, px, 0, 0, 0, 0⟩ HFIT.out w1) ?_
              intro w4 hb4
              have HRB4 := Lib.hid (HRB3.out.below hb4 HRB3.out.lt)
              have HB4 := Lib.hid (HB3.out.trans (hb4.mono HB3.out.size))
              have HLT4 := Lib.hid (Nat.lt_of_lt_of_le HLT3.out hb4.size)
              clear hb4
              simp only [List.drop_succ_cons, List.drop_zero]
              simp only [Act.put, List.setIfInBounds_toArray, List.set_cons_succ, List.set_cons_zero]
              go_wp2_with (first
               | ((with_reducible refine g_st 103 ?_); refine wpList_stR (i := im) (cs := Sec.cells (S0.add ⟨u.kilos, px, 0, 0, 0, 0⟩)) rfl _ _ rfl rfl rfl sec_size rfl rfl (Sec.one _) HRB4.out HIML.out rfl ?_; intro w7 hrb7 hgr7))
              have HRB7 : Hid (RB w7 gq 103 6 ((S.set im (S0.add (wtSec u))).map Sec.cells)) := by
               unfold Hid
               rw [HWT.out, List.map_set]
               exact hrb7
              have HB7 := Lib.hid (HB4.out.grown hgr7 HB4.out.size (by intro q hq; injection hq with hq; rw [← hq]; exact HGQ.out))
              have HLT7 := Lib.hid (Nat.lt_of_lt_of_le HLT4.out hgr7.size)
              clear hrb7 hgr7
              go_roundw
              case rel =>
               refine ⟨p + 1, _, by omega, by go_num, HPUT2.out, ?_, by rw [List.length_set]; exact HSL.out, HRB7.out, HB7.out, HLT7.out⟩
               intro a ha
               rcases List.mem_or_eq_of_mem_set ha with h1 | h1
               · have h2 := HSO.out a h1
                 unfold secOk at h2 ⊢
                 simp only [Int.natCast_add, Int.natCast_one]
                 omega
               · rw [h1]; exact HS1.out
              case measure => simp [intOf]; omega
        · obtain rfl : p = m := by omega
          have hpp : ¬ (p : Int) < (p : Int) := by omega
          have HSOME : Hid (sectionsF l ws = some S) := by
           unfold Hid
           rw [← HPUT.out, List.drop_of_length_le (by have := HN.out; omega)]
           rfl
          have HE : Hid (l.length - 1 = j) := by have := HN.out; unfold Hid; omega
          have HPW : Hid (p = ws.length) := HN.out.2.2
          clear HPUT
          go_wp2
          go_ret2
          exact ⟨.inl ⟨S, some ⟨gq, 0, none⟩, j, HSOME.out, by rw [HE.out]; rfl, HRB.out.rd, by rw [HE.out]; exact HSL.out, by rw [← HPW.out]; exact HSO.out⟩, HB.out⟩
end Go.Proofs.Ytcdfnlgimbecgaa
namespace Go.Proofs.Ytcdfnlgimbecgaa
def sumAbs (f : Sec → Int) : List Sec → Nat
 | [] => 0
 | a :: S => (f a).natAbs + sumAbs f S
structure Part (f : Sec → Int) : Prop where
 add : ∀ a b, f (a.add b) = f a + f b
 zero : f Sec.zero = 0
theorem part0 : Part Sec.a0 := ⟨fun _ _ => rfl, rfl⟩
theorem part1 : Part Sec.a1 := ⟨fun _ _ => rfl, rfl⟩
theorem part2 : Part Sec.a2 := ⟨fun _ _ => rfl, rfl⟩
theorem part3 : Part Sec.a3 := ⟨fun _ _ => rfl, rfl⟩
theorem part4 : Part Sec.a4 := ⟨fun _ _ => rfl, rfl⟩
theorem part5 : Part Sec.a5 := ⟨fun _ _ => rfl, rfl⟩
theorem sumAbs_put {f : Sec → Int} (hf : Part f) (c : Sec) : ∀ (S : List Sec) (i : Nat), sumAbs f (S.set i ((S.getD i Sec.zero).add c)) ≤ sumAbs f S + (f c).natAbs
 | [], i => by simp [sumAbs]
 | a :: S, 0 => by
  simp only [List.set_cons_zero, List.getD_cons_zero, sumAbs, hf.add]
  have := Int.natAbs_add_le (f a) (f c)
  omega
 | a :: S, i + 1 => by
  simp only [List.set_cons_succ, List.getD_cons_succ, sumAbs]
  have := sumAbs_put hf c S i
  omega
def addAll (S : List Sec) : Sec := S.foldl Sec.add Sec.zero
theorem fold_abs {f : Sec → Int} (hf : Part f) : ∀ (S : List Sec) (a : Sec), (f (S.foldl Sec.add a)).natAbs ≤ (f a).natAbs + sumAbs f S
 | [], a => by simp [sumAbs]
 | b :: S, a => by
  simp only [List.foldl_cons, sumAbs]
  have h1 := fold_abs hf S (a.add b)
  rw [hf.add] at h1
  have h2 := Int.natAbs_add_le (f a) (f b)
  omega
theorem sumAbs_take {f : Sec → Int} : ∀ (S : List Sec) (j : Nat), sumAbs f (S.take j) ≤ sumAbs f S
 | [], j => by simp [sumAbs]
 | a :: S, 0 => by simp [sumAbs]
 | a :: S, j + 1 => by
  simp only [List.take_succ_cons, sumAbs]
  have := sumAbs_take (f := f) S j
  omega
theorem ahead_abs {f : Sec → Int} (hf : Part f) (S : List Sec) (j : Nat) : (f (addAll (S.take j))).natAbs ≤ sumAbs f S := by
 have h1 := fold_abs hf (S.take j) Sec.zero
 rw [hf.zero] at h1
 have h2 := sumAbs_take (f := f) S j
 unfold addAll
 simp only [Int.natAbs_zero, Nat.zero_add] at h1
 omega
theorem addAll_snoc (S : List Sec) {j : Nat} (h : j < S.length) : addAll (S.take (j + 1)) = (addAll (S.take j)).add S[j] := by
 unfold addAll
 rw [List.take_succ_eq_append_getElem h, List.foldl_append]
 rfl
theorem sumAbs_map {f : Sec → Int} {g : Nat → Sec} {b : Nat → Nat} (hb : ∀ i, (f (g i)).natAbs ≤ b i) : ∀ is : List Nat, sumAbs f (is.map g) ≤ (is.map b).sum
 | [] => by simp [sumAbs]
 | i :: is => by
  simp only [List.map_cons, sumAbs, List.sum_cons]
  have := sumAbs_map hb is
  have := hb i
  omega
theorem putAll_abs {f : Sec → Int} (hf : Part f) {l : List Frm} {n : Nat} {B : Nat} : ∀ (ws : List Wt) (S S' : List Sec), (∀ u ∈ ws, idxF l u.x ≠ 0 → ¬ n < idxF l u.x → (f (wtSec u)).natAbs ≤ B) → putAllW l n S ws = some S' → sumAbs f S' ≤ sumAbs f S + B * ws.length
 | [], S, S', _, h => by
  unfold putAllW at h
  injection h with h
  subst h
  simp
 | u :: ws, S, S', hB, h => by
  unfold putAllW at h
  by_cases hc : idxF l u.x = 0 ∨ n < idxF l u.x
  · unfold putW at h
    rw [if_pos hc] at h
    cases h
  · unfold putW at h
    rw [if_neg hc] at h
    have h1 := putAll_abs hf ws _ S' (fun v hv => hB v (by simp [hv])) h
    have h2 := sumAbs_put hf (wtSec u) S (idxF l u.x - 1)
    have h3 := hB u (by simp) (fun e => hc (.inl e)) (fun e => hc (.inr e))
    simp only [List.length_cons, Nat.mul_add, Nat.mul_one]
    omega
theorem idxF_x {l : List Frm} (hok : ∀ f ∈ l, f.ok = true) {x : Int} (h0 : idxF l x ≠ 0) (hn : idxF l x < l.length) : -500000 ≤ x ∧ x ≤ 500000 := by
 unfold idxF at h0 hn
 constructor
 · have h1 : (l.filter fun f => decide (f.x ≤ x)) ≠ [] := by
    intro e
    rw [e] at h0
    exact h0 rfl
   obtain ⟨f, hf⟩ := List.exists_mem_of_ne_nil _ h1
   rw [List.mem_filter] at hf
   have h2 := (Frm.ok_nums (hok f hf.1)).1
   have h3 := of_decide_eq_true hf.2
   omega
 · rcases Int.lt_or_le 500000 x with h | h
   · exfalso
     have h1 : (l.filter fun f => decide (f.x ≤ x)) = l := by
      rw [List.filter_eq_self]
      intro f hf
      have h2 := (Frm.ok_nums (hok f hf)).1
      exact decide_eq_true (by omega)
     rw [h1] at hn
     omega
   · exact h
theorem shareF_nonneg {l : List Frm} (hok : ∀ f ∈ l, f.ok = true) : 0 ≤ shareF l := by
 induction l with
 | nil => exact Int.le_refl _
 | cons f l ih =>
  have h1 := ih (fun g hg => hok g (by simp [hg]))
  have h2 := (Frm.ok_nums (hok f (by simp))).2.2.1
  have e : shareF (f :: l) = f.share + shareF l := rfl
  omega
theorem share_sum {l : List Frm} (hok : ∀ f ∈ l, f.ok = true) : ∀ k, k ≤ l.length → ((((List.range k).map fun i => (l.getD i frm0).share.natAbs).sum : Nat) : Int) + shareF (l.drop k) = shareF l
 | 0, _ => by simp
 | k + 1, h => by
  have ih := share_sum hok k (by omega)
  have hk : k < l.length := by omega
  have e : l.getD k frm0 = l[k] := by simp [hk]
  have h2 := (Frm.ok_nums (hok l[k] (List.getElem_mem hk))).2.2.1
  rw [shareF_step (List.getElem?_eq_getElem hk)] at ih
  rw [List.range_succ, List.map_append, List.sum_append]
  simp only [List.map_cons, List.map_nil, List.sum_cons, List.sum_nil, Nat.add_zero, e]
  omega
theorem sum_const (n b : Nat) : ((List.range n).map fun _ => b).sum = b * n := by
 induction n with
 | zero => simp
 | succ n ih =>
  rw [List.range_succ, List.map_append, List.sum_append, ih]
  simp [Nat.mul_add]
theorem sum_scale (b : Nat → Nat) (c : Nat) : ∀ is : List Nat, (is.map fun i => c * b i).sum = c * (is.map b).sum
 | [] => by simp
 | i :: is => by
  simp only [List.map_cons, List.sum_cons, sum_scale b c is, Nat.mul_add]
theorem sections_sums {l : List Frm} {ws : List Wt} {S : List Sec} (hof : okFrom none l = true) (hl3 : 3 ≤ l.length) (hl : l.length ≤ 30) (hsh : shareF l = 10000) (hk : ∀ x ∈ ws, 0 ≤ x.kilos ∧ x.kilos ≤ 500000000) (h : sectionsF l ws = some S) :
 sumAbs Sec.a0 S ≤ 500000000 * (29 + ws.length) ∧ sumAbs Sec.a1 S ≤ 500000000000000 * (29 + ws.length) ∧ sumAbs Sec.a2 S ≤ 10000 ∧ sumAbs Sec.a3 S ≤ 10000000000 ∧ sumAbs Sec.a4 S ≤ 1740000000 ∧ sumAbs Sec.a5 S ≤ 1740000000000000 := by
 have hok := okFrom_ok none l hof
 obtain ⟨n, hn⟩ : ∃ n, n = l.length - 1 := ⟨_, rfl⟩
 unfold sectionsF baseS at h
 rw [← hn] at h
 have hb : ∀ i, secOk 0 (secBase l n (allX l n) i) := by
  intro i
  rcases Nat.lt_or_ge i l.length with hi | hi
  · exact secBase_ok hok (by omega) hi
  · have e : l.getD i frm0 = frm0 := by simp [hi]
    have hh := hX_ok hok i
    have ha := allX_ok hok n
    have m3 := mul_in (a := (n : Int)) (A := 29) (b := hX l i) (B := 1000000) (by omega) hh
    have m4 := mul_in (a := (n : Int) * hX l i - allX l n) (A := 60000000) (b := hX l i) (B := 1000000) (by omega) hh
    unfold secOk secBase
    simp only [e]
    simp only [frm0, Int.zero_mul]
    omega
 have hx : ∀ u ∈ ws, idxF l u.x ≠ 0 → ¬ n < idxF l u.x → -500000 ≤ u.x ∧ u.x ≤ 500000 := fun u _ h0 h1 => idxF_x hok h0 (by omega)
 have hs := share_sum hok n (by omega)
 have hs2 := shareF_nonneg (l := l.drop n) (fun f hf => hok f (List.mem_of_mem_drop hf))
 refine ⟨?_, ?_, ?_, ?_, ?_, ?_⟩
 · have h1 := putAll_abs part0 (B := 500000000) ws _ S (fun u hu _ _ => by have := hk u hu; show (u.kilos).natAbs ≤ _; omega) h
   have h2 := sumAbs_map (f := Sec.a0) (g := secBase l n (allX l n)) (b := fun _ => 500000000) (fun i => by have := (hb i).1; omega) (List.range n)
   rw [sum_const] at h2
   omega
 · have h1 := putAll_abs part1 (B := 500000000000000) ws _ S (fun u hu h0 h1 => by
    have h2 := hk u hu
    have h3 := hx u hu h0 h1
    have m := mul_in (a := 2 * u.kilos) (A := 1000000000) (b := u.x) (B := 500000) (by omega) (by omega)
    show (2 * u.kilos * u.x).natAbs ≤ _
    omega) h
   have h2 := sumAbs_map (f := Sec.a1) (g := secBase l n (allX l n)) (b := fun _ => 500000000000000) (fun i => by have := (hb i).2.1; omega) (List.range n)
   rw [sum_const] at h2
   omega
 · have h1 := putAll_abs part2 (B := 0) ws _ S (fun u hu _ _ => Nat.le_refl _) h
   have h2 := sumAbs_map (f := Sec.a2) (g := secBase l n (allX l n)) (b := fun i => (l.getD i frm0).share.natAbs) (fun i => Nat.le_refl _) (List.range n)
   omega
 · have h1 := putAll_abs part3 (B := 0) ws _ S (fun u hu _ _ => Nat.le_refl _) h
   have h2 := sumAbs_map (f := Sec.a3) (g := secBase l n (allX l n)) (b := fun i => 1000000 * (l.getD i frm0).share.natAbs) (fun i => by
    have hh := hX_ok hok i
    show ((l.getD i frm0).share * hX l i).natAbs ≤ _
    rw [Int.natAbs_mul, Nat.mul_comm]
    exact Nat.mul_le_mul_right _ (by omega)) (List.range n)
   rw [sum_scale] at h2
   omega
 · have h1 := putAll_abs part4 (B := 0) ws _ S (fun u hu _ _ => Nat.le_refl _) h
   have h2 := sumAbs_map (f := Sec.a4) (g := secBase l n (allX l n)) (b := fun _ => 60000000) (fun i => by have := (hb i).2.2.2.2.1; omega) (List.range n)
   rw [sum_const] at h2
   omega
 · have h1 := putAll_abs part5 (B := 0) ws _ S (fun u hu _ _ => Nat.le_refl _) h
   have h2 := sumAbs_map (f := Sec.a5) (g := secBase l n (allX l n)) (b := fun _ => 60000000000000) (fun i => by have := (hb i).2.2.2.2.2; omega) (List.range n)
   rw [sum_const] at h2
   omega
end Go.Proofs.Ytcdfnlgimbecgaa
