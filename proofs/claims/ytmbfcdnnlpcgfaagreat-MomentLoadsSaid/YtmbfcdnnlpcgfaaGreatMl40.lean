/-
  twistlockref01: sub, scale.
-/
import Derived.Test.YtmbfcdnnlpcgfaaGreatMl39
set_option linter.unusedVariables false
set_option linter.unusedSimpArgs false
namespace Go.Proofs.YtmbfcdnnlpcgfaaGreat
open Go.RowKit
theorem sub_step {B : Nat} {a b o : List Nat} {owed owed' r : Nat} (h : valB B o + valB B (b.take o.length) = valB B (a.take o.length) + B ^ o.length * owed) (hr : r + owed + b.getD o.length 0 = a.getD o.length 0 + B * owed') :
 valB B (o ++ [r]) + valB B (b.take (o.length + 1)) = valB B (a.take (o.length + 1)) + B ^ (o.length + 1) * owed' := by
 rw [valB_snoc, valB_take_getD, valB_take_getD, Nat.pow_succ]
 generalize a.getD o.length 0 = p at *
 generalize b.getD o.length 0 = q at *
 generalize B ^ o.length = P at *
 grind
theorem scale_step {B by_ : Nat} {a o : List Nat} {c : Nat} (h : valB B o + B ^ o.length * c = valB B (a.take o.length) * by_) :
 valB B (o ++ [(c + a.getD o.length 0 * by_) % B]) + B ^ (o.length + 1) * ((c + a.getD o.length 0 * by_) / B) = valB B (a.take (o.length + 1)) * by_ := by
 rw [valB_snoc, valB_take_getD, Nat.pow_succ]
 generalize a.getD o.length 0 = p at *
 generalize B ^ o.length = P at *
 have h1 := Nat.mod_add_div (c + p * by_) B
 generalize (c + p * by_) % B = r at *
 generalize (c + p * by_) / B = d at *
 grind
set_option maxRecDepth 100000 in
set_option maxHeartbeats 4000000 in
theorem ref_sub (A D : Option Addr) (ca cd : Nat) (x y n m : Nat) (hn : n = len16 x) (hm : m = len16 y) (w : World) (hA : Rd16 w A x) (hD : Rd16 w D y) (hx : len16 x ≤ 1000) (hxy : y ≤ x) :
 Calls Tryz.prog 195 #[.slice A n ca, .slice D m cd] w fun e w' => ∃ A' c', e = .returned (.slice A' (len16 (x - y)) c') ∧ Rd16 w' A' (x - y) ∧ len16 (x - y) ≤ c' ∧ From w w' := by
 have HA := Lib.hid hA
 have HD := Lib.hid hD
 have HX := Lib.hid (And.intro hn hm)
 have hn1 : n ≤ 1000 := by omega
 have hmn : m ≤ n := by
  rcases Nat.eq_zero_or_pos m with h0 | h0
  · omega
  · have h3 := (dig_len_lt_iff hB16 (n := y) (k := m - 1)).1 (by unfold len16 at hm; omega)
    have h4 := (dig_len_lt_iff hB16 (n := x) (k := m - 1)).2 (by omega)
    unfold len16 at hn
    omega
 have HXY := Lib.hid hxy
 clear hA hD hn hm hx hxy
 go_enter Tryz.func195, Tryz.ntmps195
 go_wp2
 have HM0 := Lib.hid ((Mem.nil w).none 3 1)
 go_loopw [5, 6, 7] (fun v5 v6 v7 wq => ∃ (i ow : Nat) (o : List Nat) (A1 : Option Addr) (c1 : Nat), i ≤ n ∧ v7 = .int .i64 i ∧ v6 = .int .i64 ow ∧ v5 = .slice A1 i c1 ∧ o.length = i ∧ Digs B16 o ∧ valB B16 o + valB B16 ((dig B16 y).take i) = valB B16 ((dig B16 x).take i) + B16 ^ i * ow ∧ ow ≤ 1 ∧ Mem w wq [.row 3 1 A1 c1 (nums .i64 o)]) (fun _ _ v7 _ => n - (intOf v7).toNat)
 case atStart => exact ⟨0, 0, [], none, 0, Nat.zero_le _, rfl, rfl, rfl, rfl, (fun _ h => by cases h), by simp [valB], by omega, HM0.out⟩
 case round =>
  clear HM0
  obtain ⟨i, ow, o, A1, c1, hi1, rfl, rfl, rfl, hol, hod, hval, how, hmem⟩ := hrel
  have HM := Lib.hid hmem
  have HOD := Lib.hid hod
  have HV := Lib.hid hval
  have HOL' : Hid (o.length = i) := hol
  have HOL : Hid (i = (nums .i64 o).length) := by unfold Hid; rw [nums_len, hol]
  clear hmem hod hval
  have hi10 : i ≤ 1002 := by omega
  have wI : IntKind.i64.wrap ((i : Int) + 1) = (i : Int) + 1 := wrap_i64 (by omega) (by omega)
  have hXn : (dig B16 x).length = n := HX.out.1.symm
  have hYm : (dig B16 y).length = m := HX.out.2.symm
  have HSS : Hid (∀ r ow', r + ow + (dig B16 y).getD i 0 = (dig B16 x).getD i 0 + B16 * ow' → valB B16 (o ++ [r]) + valB B16 ((dig B16 y).take (i + 1)) = valB B16 ((dig B16 x).take (i + 1)) + B16 ^ (i + 1) * ow') := fun r ow' hr => by
   have h1 := sub_step (B := B16) (a := dig B16 x) (b := dig B16 y) (o := o) (owed := ow) (owed' := ow') (r := r) (by rw [HOL'.out]; exact HV.out) (by rw [HOL'.out]; exact hr)
   rw [HOL'.out] at h1
   exact h1
  by_cases hin : i < n
  · have hini : (i : Int) < (n : Int) := by omega
    obtain ⟨b1, o1, rfl, _, hl1⟩ := num_ld Tryz.underlying3 rfl HA.out (show i < (dig B16 x).length by omega)
    have HL1 := Lib.hid (hl1 wr HM.out.from_)
    have ex : (dig B16 x).getD i 0 = (dig B16 x)[i]'(by omega) := by simp [show i < (dig B16 x).length by omega]
    rw [← ex] at HL1
    have xb := (Digs.dig hB16 x).getD (by decide) i
    have yb := (Digs.dig hB16 y).getD (by decide) i
    have eB : B16 = 65536 := rfl
    clear hl1
    by_cases him : i < m
    · have himi : (i : Int) < (m : Int) := by omega
      obtain ⟨b2, o2, rfl, _, hl2⟩ := num_ld Tryz.underlying3 rfl HD.out (show i < (dig B16 y).length by omega)
      have HL2 := Lib.hid (hl2 wr HM.out.from_)
      have ey : (dig B16 y).getD i 0 = (dig B16 y)[i]'(by omega) := by simp [show i < (dig B16 y).length by omega]
      rw [← ey] at HL2
      clear hl2 ey ex hXn hYm
      generalize (dig B16 x).getD i 0 = xa at *
      generalize (dig B16 y).getD i 0 = ya at *
      have w1' : IntKind.i64.wrap ((xa : Int) - (ow : Int)) = (xa : Int) - (ow : Int) := wrap_i64 (by omega) (by omega)
      have w2' : IntKind.i64.wrap ((xa : Int) - (ow : Int) - (ya : Int)) = (xa : Int) - (ow : Int) - (ya : Int) := wrap_i64 (by omega) (by omega)
      by_cases hs0 : xa < ow + ya
      · obtain ⟨r, hr⟩ : ∃ r, r = xa + 65536 - (ow + ya) := ⟨_, rfl⟩
        have hneg : (xa : Int) - (ow : Int) - (ya : Int) < 0 := by omega
        have HRB : Hid (r < B16) := by unfold Hid; omega
        have HST : Hid (valB B16 (o ++ [r]) + valB B16 ((dig B16 y).take (i + 1)) = valB B16 ((dig B16 x).take (i + 1)) + B16 ^ (i + 1) * 1) := HSS.out r 1 (by omega)
        have w5 : IntKind.i64.wrap ((xa : Int) - (ow : Int) - (ya : Int) + 65536) = (r : Int) := by rw [wrap_i64 (by omega) (by omega)]; omega
        clear hr xb yb eB
        go_wp2_with (first
         | ((with_reducible refine g_ld 3 ?_); refine wpList_ld rfl _ _ rfl _ rfl _ HL1.out ?_)
         | ((with_reducible refine g_ld 3 ?_); refine wpList_ld rfl _ _ rfl _ rfl _ HL2.out ?_)
         | (at_builtin; (refine wpList_append_M rfl _ _ rfl int_ei i HOL.out rfl (HM.out.any _) 0 rfl rfl (Rd.new2 wr 3 1 [.int .i64 (r : Int)] rfl) rfl (by simp [Value.oneCell']) (by rw [← HOL.out]; unfold maxLen; omega) (by rw [← HOL.out]; omega) ?_); intro A3 c3 w2 h2; have HM2 := Lib.hid h2; clear h2 HM))
        go_roundw
        case rel =>
         refine ⟨i + 1, 1, o ++ [r], A3, c3, by omega, by go_num, by go_num, by go_num, ?_, ?_, HST.out, by omega, ?_⟩
         · rw [List.length_append, HOL'.out]; rfl
         · exact HOD.out.append (fun d hd => by rw [List.mem_singleton] at hd; subst hd; exact HRB.out)
         · have h1 := HM2.out
           rw [nums_append]
           exact h1
        case measure => simp [intOf]; omega
      · obtain ⟨r, hr⟩ : ∃ r, r = xa - (ow + ya) := ⟨_, rfl⟩
        have hneg : ¬ (r : Int) < 0 := by omega
        have HRB : Hid (r < B16) := by unfold Hid; omega
        have HST : Hid (valB B16 (o ++ [r]) + valB B16 ((dig B16 y).take (i + 1)) = valB B16 ((dig B16 x).take (i + 1)) + B16 ^ (i + 1) * 0) := HSS.out r 0 (by omega)
        have w5 : IntKind.i64.wrap ((xa : Int) - (ow : Int) - (ya : Int)) = (r : Int) := by rw [w2']; omega
        clear hr w2' xb yb eB
        go_wp2_with (first
         | ((with_reducible refine g_ld 3 ?_); refine wpList_ld rfl _ _ rfl _ rfl _ HL1.out ?_)
         | ((with_reducible refine g_ld 3 ?_); refine wpList_ld rfl _ _ rfl _ rfl _ HL2.out ?_)
         | (at_builtin; (refine wpList_append_M rfl _ _ rfl int_ei i HOL.out rfl (HM.out.any _) 0 rfl rfl (Rd.new2 wr 3 1 [.int .i64 (r : Int)] rfl) rfl (by simp [Value.oneCell']) (by rw [← HOL.out]; unfold maxLen; omega) (by rw [← HOL.out]; omega) ?_); intro A3 c3 w2 h2; have HM2 := Lib.hid h2; clear h2 HM))
        go_roundw
        case rel =>
         refine ⟨i + 1, 0, o ++ [r], A3, c3, by omega, by go_num, by go_num, by go_num, ?_, ?_, HST.out, by omega, ?_⟩
         · rw [List.length_append, HOL'.out]; rfl
         · exact HOD.out.append (fun d hd => by rw [List.mem_singleton] at hd; subst hd; exact HRB.out)
         · have h1 := HM2.out
           rw [nums_append]
           exact h1
        case measure => simp [intOf]; omega
    · have himi : ¬ (i : Int) < (m : Int) := by omega
      have ey : (dig B16 y).getD i 0 = 0 := by simp [show (dig B16 y).length ≤ i by omega]
      rw [ey] at HSS
      clear ey ex hXn hYm yb
      generalize (dig B16 x).getD i 0 = xa at *
      obtain ⟨ya, hya⟩ : ∃ ya : Nat, ya = 0 := ⟨0, rfl⟩
      rw [← hya] at HSS
      have HL2 := HL1
      have w1' : IntKind.i64.wrap ((xa : Int) - (ow : Int)) = (xa : Int) - (ow : Int) := wrap_i64 (by omega) (by omega)
      by_cases hs0 : xa < ow + ya
      · obtain ⟨r, hr⟩ : ∃ r, r = xa + 65536 - (ow + ya) := ⟨_, rfl⟩
        have hneg : (xa : Int) - (ow : Int)  < 0 := by omega
        have HRB : Hid (r < B16) := by unfold Hid; omega
        have HST : Hid (valB B16 (o ++ [r]) + valB B16 ((dig B16 y).take (i + 1)) = valB B16 ((dig B16 x).take (i + 1)) + B16 ^ (i + 1) * 1) := HSS.out r 1 (by omega)
        have w5 : IntKind.i64.wrap ((xa : Int) - (ow : Int)  + 65536) = (r : Int) := by rw [wrap_i64 (by omega) (by omega)]; omega
        clear hr xb eB hya
        go_wp2_with (first
         | ((with_reducible refine g_ld 3 ?_); refine wpList_ld rfl _ _ rfl _ rfl _ HL1.out ?_)
         | ((with_reducible refine g_ld 3 ?_); refine wpList_ld rfl _ _ rfl _ rfl _ HL2.out ?_)
         | (at_builtin; (refine wpList_append_M rfl _ _ rfl int_ei i HOL.out rfl (HM.out.any _) 0 rfl rfl (Rd.new2 wr 3 1 [.int .i64 (r : Int)] rfl) rfl (by simp [Value.oneCell']) (by rw [← HOL.out]; unfold maxLen; omega) (by rw [← HOL.out]; omega) ?_); intro A3 c3 w2 h2; have HM2 := Lib.hid h2; clear h2 HM))
        go_roundw
        case rel =>
         refine ⟨i + 1, 1, o ++ [r], A3, c3, by omega, by go_num, by go_num, by go_num, ?_, ?_, HST.out, by omega, ?_⟩
         · rw [List.length_append, HOL'.out]; rfl
         · exact HOD.out.append (fun d hd => by rw [List.mem_singleton] at hd; subst hd; exact HRB.out)
         · have h1 := HM2.out
           rw [nums_append]
           exact h1
        case measure => simp [intOf]; omega
      · obtain ⟨r, hr⟩ : ∃ r, r = xa - (ow + ya) := ⟨_, rfl⟩
        have hneg : ¬ (r : Int) < 0 := by omega
        have HRB : Hid (r < B16) := by unfold Hid; omega
        have HST : Hid (valB B16 (o ++ [r]) + valB B16 ((dig B16 y).take (i + 1)) = valB B16 ((dig B16 x).take (i + 1)) + B16 ^ (i + 1) * 0) := HSS.out r 0 (by omega)
        have w5 : IntKind.i64.wrap ((xa : Int) - (ow : Int) ) = (r : Int) := by rw [w1']; omega
        clear hr w1' xb eB hya
        go_wp2_with (first
         | ((with_reducible refine g_ld 3 ?_); refine wpList_ld rfl _ _ rfl _ rfl _ HL1.out ?_)
         | ((with_reducible refine g_ld 3 ?_); refine wpList_ld rfl _ _ rfl _ rfl _ HL2.out ?_)
         | (at_builtin; (refine wpList_append_M rfl _ _ rfl int_ei i HOL.out rfl (HM.out.any _) 0 rfl rfl (Rd.new2 wr 3 1 [.int .i64 (r : Int)] rfl) rfl (by simp [Value.oneCell']) (by rw [← HOL.out]; unfold maxLen; omega) (by rw [← HOL.out]; omega) ?_); intro A3 c3 w2 h2; have HM2 := Lib.hid h2; clear h2 HM))
        go_roundw
        case rel =>
         refine ⟨i + 1, 0, o ++ [r], A3, c3, by omega, by go_num, by go_num, by go_num, ?_, ?_, HST.out, by omega, ?_⟩
         · rw [List.length_append, HOL'.out]; rfl
         · exact HOD.out.append (fun d hd => by rw [List.mem_singleton] at hd; subst hd; exact HRB.out)
         · have h1 := HM2.out
           rw [nums_append]
           exact h1
        case measure => simp [intOf]; omega
  · obtain rfl : i = n := by omega
    have hini : ¬ (i : Int) < (i : Int) := by omega
    have hfx : (dig B16 x).take i = dig B16 x := List.take_of_length_le (by omega)
    have hfy : (dig B16 y).take i = dig B16 y := List.take_of_length_le (by omega)
    have hv := HV.out
    rw [hfx, hfy, val_dig hB16, val_dig hB16] at hv
    have hlt := valB_lt o HOD.out
    rw [HOL'.out] at hlt
    have hxy := HXY.out
    have hw0 : valB B16 o = x - y := by
     have h01 : ow = 0 ∨ ow = 1 := by omega
     rcases h01 with h0 | h0
     · subst h0
       omega
     · subst h0
       omega
    have HW := Lib.hid hw0
    clear hfx hfy hv hlt hxy hw0 hXn hYm
    go_wp2_with (go_at_call 193; refine (ref_trim _ _ _ o HOL'.out.symm wr (HM.out.rd (i := 0) rfl) HOD.out (by rw [HOL'.out]; omega) (by have h1 := (HM.out.own (i := 0) rfl).cap; rw [nums_len] at h1; exact h1.1)).mono ?_; rintro e w5 ⟨rfl, rfl⟩)
    go_ret
    refine ⟨A1, c1, by rw [HW.out]; rfl, ?_, ?_, HM.out.from_⟩
    · have h1 := rd_trim hB16 (HM.out.rd (i := 0) rfl) HOD.out
      rw [HW.out] at h1
      exact h1
    · have h1 := (HM.out.own (i := 0) rfl).cap
      rw [nums_len] at h1
      have h2 := dig_len_le hB16 (valB_lt _ HOD.out)
      rw [HW.out] at h2
      exact Nat.le_trans h2 h1.1
set_option maxRecDepth 100000 in
set_option maxHeartbeats 4000000 in
theorem ref_scale (A : Option Addr) (ca : Nat) (x y n : Nat) (hn : n = len16 x) (w : World) (hA : Rd16 w A x) (hx : len16 x ≤ 1000) (hy : y < 65536) :
 Calls Tryz.prog 194 #[.slice A n ca, .int .i64 (y : Int)] w fun e w' => ∃ A' c', e = .returned (.slice A' (len16 (x * y)) c') ∧ Rd16 w' A' (x * y) ∧ len16 (x * y) ≤ c' ∧ From w w' := by
 have HA := Lib.hid hA
 have HX := Lib.hid hn
 have hn1 : n ≤ 1000 := by omega
 clear hA hn hx
 go_enter Tryz.func194, Tryz.ntmps194
 go_wp2
 have HM0 := Lib.hid ((Mem.nil w).none 3 1)
 go_loopw [5, 6, 7] (fun v5 v6 v7 wq => ∃ (i c : Nat) (o : List Nat) (A1 : Option Addr) (c1 : Nat), i ≤ n + 1 ∧ v7 = .int .i64 i ∧ v6 = .int .i64 c ∧ v5 = .slice A1 i c1 ∧ o.length = i ∧ Digs B16 o ∧ valB B16 o + B16 ^ i * c = valB B16 ((dig B16 x).take i) * y ∧ (c < 65536 ∧ (i ≤ n ∨ c = 0)) ∧ Mem w wq [.row 3 1 A1 c1 (nums .i64 o)]) (fun _ _ v7 _ => 2004 - (intOf v7).toNat)
 case atStart => exact ⟨0, 0, [], none, 0, by omega, rfl, rfl, rfl, rfl, (fun _ h => by cases h), by simp [valB], ⟨by omega, .inl (Nat.zero_le _)⟩, HM0.out⟩
 case round =>
  clear HM0
  obtain ⟨i, c, o, A1, c1, hi1, rfl, rfl, rfl, hol, hod, hval, hcc, hmem⟩ := hrel
  have HM := Lib.hid hmem
  have HOD := Lib.hid hod
  have HV := Lib.hid hval
  have HOL' : Hid (o.length = i) := hol
  have HOL : Hid (i = (nums .i64 o).length) := by unfold Hid; rw [nums_len, hol]
  clear hmem hod hval
  have hi10 : i ≤ 1002 := by omega
  have wI : IntKind.i64.wrap ((i : Int) + 1) = (i : Int) + 1 := wrap_i64 (by omega) (by omega)
  have hXn : (dig B16 x).length = n := HX.out.symm
  by_cases hin : i < n
  · have hini : (i : Int) < (n : Int) := by omega
    obtain ⟨b1, o1, rfl, _, hl1⟩ := num_ld Tryz.underlying3 rfl HA.out (show i < (dig B16 x).length by omega)
    have HL1 := Lib.hid (hl1 wr HM.out.from_)
    have ex : (dig B16 x).getD i 0 = (dig B16 x)[i]'(by omega) := by simp [show i < (dig B16 x).length by omega]
    rw [← ex] at HL1
    clear hl1
    obtain ⟨s, hs⟩ : ∃ s, s = c + (dig B16 x).getD i 0 * y := ⟨_, rfl⟩
    obtain ⟨r, hr⟩ : ∃ r, r = s % 65536 := ⟨_, rfl⟩
    obtain ⟨q, hq⟩ : ∃ q, q = s / 65536 := ⟨_, rfl⟩
    have hst := scale_step (B := B16) (a := dig B16 x) (by_ := y) (o := o) (c := c) (by rw [HOL'.out]; exact HV.out)
    rw [HOL'.out, ← hs] at hst
    have HST : Hid (valB B16 (o ++ [r]) + B16 ^ (i + 1) * q = valB B16 ((dig B16 x).take (i + 1)) * y) := by unfold Hid; rw [hr, hq]; exact hst
    have HRB : Hid (r < B16) := by unfold Hid; rw [hr]; exact Nat.mod_lt _ (by decide)
    have w3' : (s : Int).tmod 65536 = (r : Int) := by rw [hr]; rfl
    have w4' : (s : Int).tdiv 65536 = (q : Int) := by rw [hq]; rfl
    have xb := (Digs.dig hB16 x).getD (by decide) i
    have hp : (dig B16 x).getD i 0 * y ≤ 65535 * 65535 := Nat.mul_le_mul (by have e : B16 = 65536 := rfl; omega) (by omega)
    have hq1 : q < 65536 := by omega
    clear hst
    have HNX : Hid (q < 65536 ∧ (i + 1 ≤ n ∨ q = 0)) := ⟨hq1, .inl (by omega)⟩
    generalize (dig B16 x).getD i 0 = xa at *
    obtain ⟨p, hpe⟩ : ∃ p, p = xa * y := ⟨_, rfl⟩
    rw [← hpe] at hp hs
    have wM : IntKind.i64.wrap ((xa : Int) * (y : Int)) = (p : Int) := by rw [← Int.natCast_mul, ← hpe, wrap_i64 (by omega) (by omega)]
    have wS1 : IntKind.i64.wrap ((c : Int) + (p : Int)) = (s : Int) := by rw [wrap_i64 (by omega) (by omega)]; omega
    clear hs hr hq ex xb hXn hp hpe
    go_wp2_with (first
     | ((with_reducible refine g_ld 3 ?_); refine wpList_ld rfl _ _ rfl _ rfl _ HL1.out ?_)
     | (at_builtin; (refine wpList_append_M rfl _ _ rfl int_ei i HOL.out rfl (HM.out.any _) 0 rfl rfl (Rd.new2 wr 3 1 [.int .i64 (r : Int)] rfl) rfl (by simp [Value.oneCell']) (by rw [← HOL.out]; unfold maxLen; omega) (by rw [← HOL.out]; omega) ?_); intro A3 c3 w2 h2; have HM2 := Lib.hid h2; clear h2 HM))
    go_roundw
    case rel =>
     refine ⟨i + 1, q, o ++ [r], A3, c3, by omega, by go_num, by go_num, by go_num, ?_, ?_, HST.out, HNX.out, ?_⟩
     · rw [List.length_append, HOL'.out]; rfl
     · exact HOD.out.append (fun d hd => by rw [List.mem_singleton] at hd; subst hd; exact HRB.out)
     · have h1 := HM2.out
       rw [nums_append]
       exact h1
    case measure => simp [intOf]; omega
  · have hini : ¬ (i : Int) < (n : Int) := by omega
    have hfx : (dig B16 x).take i = dig B16 x := List.take_of_length_le (by omega)
    by_cases hc0 : c = 0
    · subst hc0
      have hcc0 : ¬ (0 : Int) < ((0 : Nat) : Int) := by decide
      have hv := HV.out
      rw [hfx, val_dig hB16, Nat.mul_zero, Nat.add_zero] at hv
      have HW := Lib.hid hv
      clear hfx hcc hv hXn
      go_wp2_with (go_at_call 193; refine (ref_trim _ _ _ o HOL'.out.symm wr (HM.out.rd (i := 0) rfl) HOD.out (by rw [HOL'.out]; omega) (by have h1 := (HM.out.own (i := 0) rfl).cap; rw [nums_len] at h1; exact h1.1)).mono ?_; rintro e w5 ⟨rfl, rfl⟩)
      go_ret
      refine ⟨A1, c1, by rw [HW.out]; rfl, ?_, ?_, HM.out.from_⟩
      · have h1 := rd_trim hB16 (HM.out.rd (i := 0) rfl) HOD.out
        rw [HW.out] at h1
        exact h1
      · have h1 := (HM.out.own (i := 0) rfl).cap
        rw [nums_len] at h1
        have h2 := dig_len_le hB16 (valB_lt _ HOD.out)
        rw [HW.out] at h2
        exact Nat.le_trans h2 h1.1
    · have hcc0 : (0 : Int) < (c : Int) := by omega
      obtain ⟨s, hs⟩ : ∃ s, s = c + (dig B16 x).getD i 0 * y := ⟨_, rfl⟩
      obtain ⟨r, hr⟩ : ∃ r, r = s % 65536 := ⟨_, rfl⟩
      obtain ⟨q, hq⟩ : ∃ q, q = s / 65536 := ⟨_, rfl⟩
      have hst := scale_step (B := B16) (a := dig B16 x) (by_ := y) (o := o) (c := c) (by rw [HOL'.out]; exact HV.out)
      rw [HOL'.out, ← hs] at hst
      have HST : Hid (valB B16 (o ++ [r]) + B16 ^ (i + 1) * q = valB B16 ((dig B16 x).take (i + 1)) * y) := by unfold Hid; rw [hr, hq]; exact hst
      have HRB : Hid (r < B16) := by unfold Hid; rw [hr]; exact Nat.mod_lt _ (by decide)
      have w3' : (s : Int).tmod 65536 = (r : Int) := by rw [hr]; rfl
      have w4' : (s : Int).tdiv 65536 = (q : Int) := by rw [hq]; rfl
      have xb := (Digs.dig hB16 x).getD (by decide) i
      have hp : (dig B16 x).getD i 0 * y ≤ 65535 * 65535 := Nat.mul_le_mul (by have e : B16 = 65536 := rfl; omega) (by omega)
      have hq1 : q < 65536 := by omega
      clear hst
      have ex : (dig B16 x).getD i 0 = 0 := by simp [show (dig B16 x).length ≤ i by omega]
      rw [ex, Nat.zero_mul, Nat.add_zero] at hs
      subst hs
      have HNX : Hid (q < 65536 ∧ (i + 1 ≤ n ∨ q = 0)) := ⟨hq1, .inr (by omega)⟩
      clear hr hq ex xb hXn hfx hp
      go_wp2_with (first
       | (at_builtin; (refine wpList_append_M rfl _ _ rfl int_ei i HOL.out rfl (HM.out.any _) 0 rfl rfl (Rd.new2 wr 3 1 [.int .i64 (r : Int)] rfl) rfl (by simp [Value.oneCell']) (by rw [← HOL.out]; unfold maxLen; omega) (by rw [← HOL.out]; omega) ?_); intro A3 c3 w2 h2; have HM2 := Lib.hid h2; clear h2 HM))
      go_roundw
      case rel =>
       refine ⟨i + 1, q, o ++ [r], A3, c3, by omega, by go_num, by go_num, by go_num, ?_, ?_, HST.out, HNX.out, ?_⟩
       · rw [List.length_append, HOL'.out]; rfl
       · exact HOD.out.append (fun d hd => by rw [List.mem_singleton] at hd; subst hd; exact HRB.out)
       · have h1 := HM2.out
         rw [nums_append]
         exact h1
      case measure => simp [intOf]; omega
theorem dig16_lt_of {x y j : Nat} (hl : len16 x = len16 y) (hj : j < len16 x) (hd : (dig B16 x).drop (j + 1) = (dig B16 y).drop (j + 1)) (hlt : (dig B16 x).getD j 0 < (dig B16 y).getD j 0) : x < y := by
 have hjy : j < (dig B16 y).length := by
  have : j < len16 y := by omega
  exact this
 have h := valB_lt_of_digit (B := B16) (a := dig B16 x) (b := dig B16 y) (Digs.dig hB16 x) hl hj (by
  rw [List.getD_eq_getElem?_getD, List.getElem?_eq_getElem hj, List.getD_eq_getElem?_getD, List.getElem?_eq_getElem hjy] at hlt
  exact hlt) hd
 rwa [val_dig hB16, val_dig hB16] at h
set_option maxRecDepth 100000 in
set_option maxHeartbeats 4000000 in
theorem ref_less (A D : Option Addr) (ca cd : Nat) (x y n m : Nat) (hn : n = len16 x) (hm : m = len16 y) (w : World) (h : Rd16 w A x) (h' : Rd16 w D y) (hx : len16 x ≤ 1000000) (hy : len16 y ≤ 1000000) :
 Calls Tryz.prog 192 #[.slice A n ca, .slice D m cd] w fun e w' => e = .returned (.bool (decide (x < y))) ∧ Below w.heap.size w w' := by
 have hn1 : n ≤ 1000000 := by omega
 have hm1 : m ≤ 1000000 := by omega
 obtain ⟨r, hr⟩ : ∃ r, r = decide (x < y) := ⟨_, rfl⟩
 rw [← hr]
 by_cases hnm : n = m
 · subst hnm
   have HN := Lib.hid hn
   have HM := Lib.hid hm
   have HR := Lib.hid hr
   clear hn hm hr hx hy
   have wN : IntKind.i64.wrap ((n : Int) - 1) = (n : Int) - 1 := wrap_i64 (by omega) (by omega)
   go_enter Tryz.func192, Tryz.ntmps192
   go_wp2
   go_loopw [5] (fun v wq => ∃ k : Nat, k ≤ n ∧ v = .int .i64 ((k : Int) - 1) ∧ Below w.heap.size w wq ∧ (dig B16 x).drop k = (dig B16 y).drop k) (fun v _ => (intOf v + 1).toNat)
   case atStart => exact ⟨n, Nat.le_refl _, rfl, Below.refl _ w, by rw [List.drop_eq_nil_of_le (by rw [HN.out]; exact Nat.le_refl _), List.drop_eq_nil_of_le (by rw [HM.out]; exact Nat.le_refl _)]⟩
   case round =>
    obtain ⟨k, hk, rfl, hb, htk⟩ := hrel
    have HB := Lib.hid hb
    have HTK := Lib.hid htk
    clear hb htk wN
    by_cases hk0 : k = 0
    · subst hk0
      have hfalse : Hid (r = false) := by
       unfold Hid
       rw [HR.out]
       apply decide_eq_false
       have h1 := HTK.out
       rw [List.drop_zero, List.drop_zero] at h1
       have := dig_inj hB16 h1
       omega
      have e0 : (((0 : Nat) : Int) - 1) = -1 := rfl
      rw [e0]
      clear HR HTK h h'
      go_wp2
      go_ret
      exact ⟨by rw [hfalse.out]; rfl, HB.out⟩
    · obtain ⟨j, rfl⟩ : ∃ j, k = j + 1 := ⟨k - 1, by omega⟩
      have e1 : (((j + 1 : Nat) : Int) - 1) = (j : Int) := by omega
      rw [e1]
      clear e1 hk0
      have hjx : j < (dig B16 x).length := by show j < len16 x; rw [← HN.out]; omega
      have hjy : j < (dig B16 y).length := by show j < len16 y; rw [← HM.out]; omega
      obtain ⟨b1, o1, rfl, hb1, hc1⟩ := num_cell h (i := j) hjx
      obtain ⟨b2, o2, rfl, hb2, hc2⟩ := num_cell h' (i := j) hjy
      have hdx := drop_getD hjx
      have hdy := drop_getD hjy
      obtain ⟨d1, hd1⟩ : ∃ d1, d1 = (dig B16 x).getD j 0 := ⟨_, rfl⟩
      obtain ⟨d2, hd2⟩ : ∃ d2, d2 = (dig B16 y).getD j 0 := ⟨_, rfl⟩
      rw [← hd1] at hc1 hdx
      rw [← hd2] at hc2 hdy
      have c1 := hc1 wr.drew HB.out.drew
      have c2 := hc2 wr.drew HB.out.drew
      have HD1 := Lib.hid hd1
      have HD2 := Lib.hid hd2
      have HB2 : Hid (Below w.heap.size w wr.drew) := HB.out.drew
      have hmo : Tryz.prog.follows .mixedOrders = true := by kernel_rfl
      have hki : (j : Int) < (n : Int) := by omega
      have wJ : IntKind.i64.wrap ((j : Int) - 1) = (j : Int) - 1 := wrap_i64 (by omega) (by omega)
      by_cases hdd : d1 = d2
      · have htk1 : Hid ((dig B16 x).drop j = (dig B16 y).drop j) := by
         unfold Hid
         rw [hdx, hdy, HTK.out, hdd]
        clear HD1 HD2 HTK HR hc1 hc2 hd1 hd2 hdx hdy h h' hb1 hb2 hjx hjy
        subst hdd
        go_wp2
        go_region
        go_wp2
        go_roundw
        case rel => exact ⟨j, by omega, rfl, HB2.out, htk1.out⟩
        case measure => simp [intOf]
      · have hddi : ((d1 : Int) == (d2 : Int)) = false := by simp; omega
        have c3 := hc1 wr.drew.drew HB.out.drew.drew
        have c4 := hc2 wr.drew.drew HB.out.drew.drew
        have HB3 : Hid (Below w.heap.size w wr.drew.drew) := HB.out.drew.drew
        by_cases hlt : d1 < d2
        · have hlti : (d1 : Int) < (d2 : Int) := by omega
          have htrue : Hid (r = true) := by
           unfold Hid
           rw [HR.out]
           exact decide_eq_true (dig16_lt_of (by rw [← HN.out, ← HM.out]) hjx HTK.out (by rw [← hd1, ← hd2]; exact hlt))
          clear HD1 HD2 HTK HR hc1 hc2 hd1 hd2 hdx hdy h h' hb1 hb2 hjx hjy
          go_wp2
          go_region
          go_wp2
          go_region
          go_wp2
          go_ret
          exact ⟨by rw [htrue.out]; rfl, HB3.out⟩
        · have hlti : ¬ (d1 : Int) < (d2 : Int) := by omega
          have hfalse : Hid (r = false) := by
           unfold Hid
           rw [HR.out]
           have h1 := dig16_lt_of (x := y) (y := x) (by rw [← HN.out, ← HM.out]) hjy HTK.out.symm (by rw [← hd1, ← hd2]; omega)
           exact decide_eq_false (by omega)
          clear HD1 HD2 HTK HR hc1 hc2 hd1 hd2 hdx hdy h h' hb1 hb2 hjx hjy
          go_wp2
          go_region
          go_wp2
          go_region
          go_wp2
          go_ret
          exact ⟨by rw [hfalse.out]; rfl, HB3.out⟩
 · have hnmi : ((n : Int) == (m : Int)) = false := by simp; omega
   by_cases hlt : n < m
   · have hlti : (n : Int) < (m : Int) := by omega
     have HT : Hid (r = true) := by unfold Hid; rw [hr]; exact decide_eq_true (lt_of_len_lt hB16 (by show len16 x < len16 y; omega))
     clear hn hm hr h h'
     go_enter Tryz.func192, Tryz.ntmps192
     go_wp2
     go_ret
     exact ⟨by rw [HT.out]; rfl, Below.refl _ w⟩
   · have hlti : ¬ (n : Int) < (m : Int) := by omega
     have HT : Hid (r = false) := by
      unfold Hid
      rw [hr]
      have h1 : y < x := lt_of_len_lt hB16 (by show len16 y < len16 x; omega)
      exact decide_eq_false (by omega)
     clear hn hm hr h h'
     go_enter Tryz.func192, Tryz.ntmps192
     go_wp2
     go_ret
     exact ⟨by rw [HT.out]; rfl, Below.refl _ w⟩
set_option maxRecDepth 100000 in
set_option maxHeartbeats 4000000 in
theorem ref_whole (n : Nat) (hn : n < 18446744073709551616) (w : World) :
 Calls Tryz.prog 177 #[.int .u64 n] w fun e w' => ∃ A' c', e = .returned (.slice A' (len16 n) c') ∧ Rd16 w' A' n ∧ len16 n ≤ c' ∧ From w w' := by
 have hlen : len16 n ≤ 4 := dig_len_le hB16 (by have e : B16 ^ 4 = 18446744073709551616 := rfl; omega)
 have HLN := Lib.hid hlen
 clear hlen
 go_enter Tryz.func177, Tryz.ntmps177
 go_wp2
 have HM0 := Lib.hid ((Mem.nil w).none 3 1)
 go_loopw [0, 3] (fun v0 v3 wq => ∃ (r : Nat) (o : List Nat) (A1 : Option Addr) (c1 : Nat), r < 18446744073709551616 ∧ v0 = .int .u64 r ∧ v3 = .slice A1 o.length c1 ∧ dig B16 n = o ++ dig B16 r ∧ Mem w wq [.row 3 1 A1 c1 (nums .i64 o)]) (fun v0 _ _ => (intOf v0).toNat)
 case atStart => exact ⟨n, [], none, 0, hn, rfl, rfl, rfl, HM0.out⟩
 case round =>
  clear HM0
  obtain ⟨r, o, A1, c1, hr, rfl, rfl, hdg, hmem⟩ := hrel
  have HM := Lib.hid hmem
  have HDG := Lib.hid hdg
  obtain ⟨i, hi⟩ : ∃ i, i = o.length := ⟨_, rfl⟩
  have hi4 : i ≤ 4 := by
   have h1 := HLN.out
   have h2 := congrArg List.length hdg
   rw [List.length_append] at h2
   unfold len16 at h1
   omega
  have HOL : Hid (i = (nums .i64 o).length) := by unfold Hid; rw [nums_len, hi]
  rw [← hi]
  have HI := Lib.hid hi
  clear hmem hdg hi
  by_cases hr0 : r = 0
  · subst hr0
    have h1 : dig B16 n = o := by rw [HDG.out, dig_zero hB16]; simp
    have HD := Lib.hid h1
    have hlt0 : ¬ (0 : Int) < ((0 : Nat) : Int) := by decide
    clear h1
    go_wp2
    go_ret
    refine ⟨A1, c1, by unfold len16; rw [HD.out, ← HI.out]; rfl, ?_, ?_, HM.out.from_⟩
    · show Rd _ _ _ _ _
      rw [HD.out]
      exact HM.out.rd (i := 0) rfl
    · have h1 := (HM.out.own (i := 0) rfl).cap
      rw [nums_len] at h1
      unfold len16
      rw [HD.out]
      exact h1.1
  · have hlt0 : (0 : Int) < (r : Int) := by omega
    obtain ⟨d, hd⟩ : ∃ d, d = r % 65536 := ⟨_, rfl⟩
    obtain ⟨q, hq⟩ : ∃ q, q = r / 65536 := ⟨_, rfl⟩
    have hstep : Hid (dig B16 n = (o ++ [d]) ++ dig B16 q) := by
     unfold Hid
     rw [HDG.out, dig_pos hB16 hr0, hd, hq]
     simp
    have hd1 : d < 65536 := by omega
    have hq1 : q < 18446744073709551616 := by omega
    have hqr : q < r := by omega
    have w3 : (r : Int).tmod 65536 = (d : Int) := by rw [hd]; rfl
    have w4 : (r : Int).tdiv 65536 = (q : Int) := by rw [hq]; rfl
    have w5 : (r : Int) % 65536 = (d : Int) := by omega
    have w6 : (r : Int) / 65536 = (q : Int) := by omega
    have w7 : IntKind.i64.wrap (d : Int) = (d : Int) := wrap_i64 (by omega) (by omega)
    clear hd hq
    go_wp2_with (first
     | (at_builtin; (refine wpList_append_M rfl _ _ rfl int_ei i HOL.out rfl (HM.out.any _) 0 rfl rfl (Rd.new2 wr 3 1 [.int .i64 (d : Int)] rfl) rfl (by simp [Value.oneCell']) (by rw [← HOL.out]; unfold maxLen; omega) (by rw [← HOL.out]; omega) ?_); intro A3 c3 w2 h2; have HM2 := Lib.hid h2; clear h2 HM))
    go_roundw
    case rel =>
     refine ⟨q, o ++ [d], A3, c3, hq1, by go_num, ?_, hstep.out, ?_⟩
     · rw [List.length_append, ← HI.out]; rfl
     · have h1 := HM2.out
       rw [nums_append]
       exact h1
    case measure => simp [intOf]; omega
theorem len16_mono {a b : Nat} (h : a ≤ b) : len16 a ≤ len16 b := dig_len_le hB16 (Nat.lt_of_le_of_lt h (lt_of_dig_len hB16 (Nat.le_refl _)))
theorem len16_mul (a b : Nat) : len16 (a * b) ≤ len16 a + len16 b := by
 refine dig_len_le hB16 ?_
 rw [Nat.pow_add]
 exact Nat.mul_lt_mul'' (lt_of_dig_len hB16 (Nat.le_refl _)) (lt_of_dig_len hB16 (Nat.le_refl _))
def Reads (l : List Nat) (v : Value) (w : World) : Prop := ∃ A c, v = .slice A l.length c ∧ Rd w w.heap.size 1 A (nums .i64 l) ∧ l.length ≤ c
theorem Reads.stays {l : List Nat} : ∀ v w w', Reads l v w → From w w' → Reads l v w' := by
 rintro v w w' ⟨A, c, h1, h2, h3⟩ hb
 exact ⟨A, c, h1, h2.from hb, h3⟩
theorem calls_scale {x y n ca : Nat} {A : Option Addr} {w : World} (hn : n = len16 x) (hA : Rd16 w A x) (hx : len16 x ≤ 1000) (hy : y < 65536) :
 Calls Tryz.prog 194 #[.slice A n ca, .int .i64 (y : Int)] w fun e w' => ∃ u, e = .returned u ∧ From w w' ∧ Reads (dig B16 (x * y)) u w' := by
 refine (ref_scale A ca x y n hn w hA hx hy).mono ?_
 rintro e w' ⟨A', c', rfl, h1, h2, h3⟩
 exact ⟨_, rfl, h3, A', c', rfl, h1, h2⟩
end Go.Proofs.YtmbfcdnnlpcgfaaGreat
namespace Go.Proofs.YtmbfcdnnlpcgfaaGreat
theorem rdiv_step {B : Nat} {a o : List Nat} {b R i : Nat} (hi : i < a.length) (ho : i < o.length) (h : valB B (a.drop (i + 1)) = valB B (o.drop (i + 1)) * b + R) :
 valB B (a.drop i) = valB B ((o.set i ((a[i] + B * R) / b)).drop i) * b + (a[i] + B * R) % b := by
 rw [valB_drop_getD B hi, valB_drop_set B ho, h]
 have h1 := Nat.div_add_mod (a[i] + B * R) b
 generalize a[i] = x at *
 generalize valB B (o.drop (i + 1)) = V at *
 generalize (x + B * R) / b = q at *
 generalize (x + B * R) % b = r at *
 grind
theorem rdiv_digit {B b R x : Nat} (hR : R < b) (hx : x < B) : (x + B * R) / b < B := by
 rw [Nat.div_lt_iff_lt_mul (by omega)]
 have h1 : B * R + B ≤ B * b := by
  have := Nat.mul_le_mul_left B (show R + 1 ≤ b by omega)
  rw [Nat.mul_add, Nat.mul_one] at this
  exact this
 omega
theorem rdiv_end {B a b R : Nat} {o : List Nat} (hR : R < b) (h : a = valB B o * b + R) : valB B o = a / b ∧ R = a % b := by
 have hb : 0 < b := by omega
 subst h
 constructor
 · rw [Nat.add_comm, Nat.add_mul_div_right _ _ hb, Nat.div_eq_of_lt hR, Nat.zero_add]
 · rw [Nat.add_comm, Nat.add_mul_mod_self_right, Nat.mod_eq_of_lt hR]
theorem top_digit {b n : Nat} (hn : n + 1 = len16 b) : 0 < (dig B16 b).getD n 0 ∧ b = valB B16 ((dig B16 b).take n) + B16 ^ n * (dig B16 b).getD n 0 ∧ valB B16 ((dig B16 b).take n) < B16 ^ n := by
 have hlen : (dig B16 b).length = n + 1 := hn.symm
 have hnl : n < (dig B16 b).length := by omega
 refine ⟨?_, ?_, ?_⟩
 · refine Nat.pos_of_ne_zero (dig_getLast hB16 (n := b) ?_)
   rw [List.getLast?_eq_getElem?, hlen, Nat.add_sub_cancel, List.getD_eq_getElem?_getD, List.getElem?_eq_getElem hnl]
   rfl
 · have h1 := valB_take_getD B16 (dig B16 b) n
   rw [List.take_of_length_le (by omega), val_dig hB16] at h1
   exact h1
 · have h1 := valB_lt ((dig B16 b).take n) ((Digs.dig hB16 b).take n)
   rwa [List.length_take, hlen, Nat.min_eq_left (by omega)] at h1
theorem split_at (W n : Nat) : W = valB B16 ((dig B16 W).take n) + B16 ^ n * valB B16 ((dig B16 W).drop n) ∧ valB B16 ((dig B16 W).take n) < B16 ^ n := by
 have h1 := valB_split B16 (dig B16 W) n
 have h2 := valB_lt ((dig B16 W).take n) ((Digs.dig hB16 W).take n)
 rw [val_dig hB16] at h1
 by_cases h : n ≤ (dig B16 W).length
 · rw [List.length_take, Nat.min_eq_left h] at h1 h2
   exact ⟨h1, h2⟩
 · rw [List.drop_eq_nil_of_le (by omega), valB_nil, Nat.mul_zero] at h1 ⊢
   exact ⟨h1, Nat.lt_of_lt_of_le h2 (Nat.pow_le_pow_right (by decide) (by rw [List.length_take]; omega))⟩
theorem rdiv_guess {W b n : Nat} (hn : n + 1 = len16 b) :
 valB B16 ((dig B16 W).drop n) / ((dig B16 b).getD n 0 + 1) ≤ W / b ∧ W / b ≤ valB B16 ((dig B16 W).drop n) / (dig B16 b).getD n 0 := by
 obtain ⟨h1, h2, h3⟩ := top_digit hn
 obtain ⟨h4, h5⟩ := split_at W n
 have hp : 0 < B16 ^ n := Nat.pow_pos (by decide)
 have hb : 0 < b := by
  rw [h2]
  have := Nat.mul_pos hp h1
  omega
 refine ⟨guess_le (B := B16) (n := n) ?_ h4 hb, guess_ge (by decide) h2 h4 h5 h1⟩
 rw [Nat.mul_add, Nat.mul_one]
 omega
theorem rdiv_top {W b n : Nat} (hn : n + 1 = len16 b) (h : W < B16 * b) : valB B16 ((dig B16 W).drop n) < 4294967296 := by
 obtain ⟨h4, _⟩ := split_at W n
 have hb := lt_of_dig_len hB16 (n := b) (k := n + 1) (Nat.le_of_eq hn.symm)
 have h1 : B16 ^ n * valB B16 ((dig B16 W).drop n) < B16 ^ n * 4294967296 := by
  have e : B16 ^ n * 4294967296 = B16 * B16 ^ (n + 1) := by
   rw [Nat.pow_succ]
   have : (4294967296 : Nat) = B16 * B16 := rfl
   rw [this]
   grind
  have := Nat.mul_lt_mul_of_pos_left hb (show 0 < B16 by decide)
  omega
 exact Nat.lt_of_mul_lt_mul_left h1
theorem halve_lt {q b W mid : Nat} (hb : 0 < b) (hq : q = W / b) (h : W < b * mid) : q ≤ mid - 1 ∧ 0 < mid := by
 have h1 : q < mid := by rw [hq, Nat.div_lt_iff_lt_mul hb, Nat.mul_comm]; exact h
 omega
theorem halve_ge {q b W mid : Nat} (hb : 0 < b) (hq : q = W / b) (h : ¬ W < b * mid) : mid ≤ q := by
 rw [hq, Nat.le_div_iff_mul_le hb, Nat.mul_comm]
 omega
end Go.Proofs.YtmbfcdnnlpcgfaaGreat
