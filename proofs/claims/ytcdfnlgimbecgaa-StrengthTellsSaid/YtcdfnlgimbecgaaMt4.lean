/-
  frac: trim, one, plus.
-/
import Derived.Test.YtcdfnlgimbecgaaMt3
namespace Go.Proofs.Ytcdfnlgimbecgaa
open Go.RowKit
def lenOf : Value → Nat
 | .slice _ n _ => n
 | _ => 0
set_option maxHeartbeats 1000000 in
theorem frac_trim (A : Option Addr) (c n : Nat) (l : List Nat) (hn : n = l.length) (w : World) (h : Rd w w.heap.size 1 A (nums .u32 l)) (hl : Digs B32 l) (hlen : l.length ≤ 1000000000) (hcap : l.length ≤ c) :
 Calls Try.prog 85 #[.slice A n c] w fun e w' => e = .returned (.slice A (len32 (valB B32 l)) c) ∧ w' = w := by
 subst hn
 go_enter Try.func85, Try.ntmps85
 go_wp2
 go_loop [0] (fun v => ∃ k : Nat, k ≤ l.length ∧ v = .slice A k c ∧ ∀ d ∈ l.drop k, d = 0) (fun v => lenOf v)
 case atStart => exact ⟨l.length, Nat.le_refl _, rfl, by simp⟩
 case round =>
  obtain ⟨k, hk, rfl, hz⟩ := hrel
  have HZ := Lib.hid hz
  clear hz
  by_cases hk0 : k = 0
  · subst hk0
    have HT : Hid (len32 (valB B32 l) = 0) := by unfold Hid len32; rw [trim_dig hB32 hl (Nat.zero_le _) HZ.out (.inl rfl)]; simp
    go_wp2
    go_ret
    exact ⟨by rw [HT.out]; rfl, rfl⟩
  · obtain ⟨j, rfl⟩ : ∃ j, k = j + 1 := ⟨k - 1, by omega⟩
    obtain ⟨b, off, rfl, hb, hld⟩ := num_ld Try.underlying34 rfl h (show j < l.length by omega)
    have HL := Lib.hid (hld w (Below.refl _ _))
    clear hld
    by_cases hz0 : l[j] = 0
    · have e0 : ((l[j] : Int) == 0) = true := by simp [hz0]
      have hcj : ¬ c < j := by omega
      go_wp2_with (first
       | ((with_reducible refine g_ld 34 ?_); (first | refine wpList_ld rfl _ _ rfl _ rfl _ HL.out ?_ | refine wpList_ldw rfl _ _ rfl _ rfl _ HL.out ?_)))
      go_round
      case rel =>
       refine ⟨j, by omega, by simp, fun d hd => ?_⟩
       rw [List.drop_eq_getElem_cons (show j < l.length by omega)] at hd
       rcases List.mem_cons.1 hd with h1 | h1
       · rw [h1, hz0]
       · exact HZ.out d h1
      case measure => simp [lenOf]
    · have HT : Hid (len32 (valB B32 l) = j + 1) := by
       unfold Hid len32
       rw [trim_dig hB32 hl hk HZ.out (.inr ⟨j, rfl, by simp [show j < l.length by omega]; exact hz0⟩)]
       simp
       omega
      have e0 : ((l[j] : Int) == 0) = false := by simp [hz0]
      go_wp2_with (first
       | ((with_reducible refine g_ld 34 ?_); (first | refine wpList_ld rfl _ _ rfl _ rfl _ HL.out ?_ | refine wpList_ldw rfl _ _ rfl _ rfl _ HL.out ?_)))
      go_ret
      exact ⟨by rw [HT.out]; rfl, rfl⟩
set_option maxRecDepth 100000 in
set_option maxHeartbeats 4000000 in
theorem frac_plus (A D : Option Addr) (ca cd : Nat) (x y n m : Nat) (hn : n = len32 x) (hm : m = len32 y) (w : World) (hA : Rd32 w A x) (hD : Rd32 w D y) (hx : len32 x ≤ 1000) (hy : len32 y ≤ 1000) :
 Calls Try.prog 56 #[.slice A n ca, .slice D m cd] w fun e w' => ∃ A' c', e = .returned (.slice A' (len32 (x + y)) c') ∧ Rd32 w' A' (x + y) ∧ len32 (x + y) ≤ c' ∧ Below w.heap.size w w' := by
 subst hn hm
 by_cases hsw : len32 x < len32 y
 · go_enter Try.func56, Try.ntmps56
   go_wp2_with (first
    | (at_make; go_loud (refine wpList_make_N (n := len32 y + 1) rfl _ _ rfl Try.underlying108 info_u32 rfl rfl (by simp) (by simp) (by omega) (by unfold maxLen; omega) ?_); intro w1 hnb1 hb1 hlt1))
   have HB1 := Lib.hid hb1
   have HNB1 := Lib.hid hnb1
   have HLT1 := Lib.hid hlt1
   clear hnb1 hb1 hlt1
   go_loopw [6, 22] (fun cv i wr => ∃ (k cc : Nat) (o : List Nat), k ≤ len32 y ∧ i = .int .i64 k ∧ cv = .int .u64 cc ∧ cc ≤ 1 ∧ o.length = len32 y + 1 ∧ Digs B32 o ∧ NB wr w.heap.size 34 .u32 o ∧ Below w.heap.size w wr ∧ w.heap.size < wr.heap.size ∧ valB B32 (o.take k) + B32 ^ k * cc = valB B32 ((dig B32 y).take k) + valB B32 ((dig B32 x).take k)) (fun _ i _ => len32 y - (intOf i).toNat)
   case atStart => exact ⟨0, 0, _, Nat.zero_le _, rfl, rfl, by omega, List.length_replicate, Digs.zeros (by decide) _, HNB1.out, HB1.out, HLT1.out, by simp [valB]⟩
   case round =>
    obtain ⟨k, cc, o, hk, rfl, rfl, hcc, hol, hod, hnb, hbr, hlt, hval⟩ := hrel
    have HV := Lib.hid hval
    have HNB := Lib.hid hnb
    have HBR := Lib.hid hbr
    have HOD := Lib.hid hod
    clear hval hnb hbr hod
    by_cases hkl : k < len32 y
    · obtain ⟨b1, o1, rfl, hb1, hld1⟩ := num_ld Try.underlying34 rfl hD hkl
      have HL1 := Lib.hid (hld1 wr HBR.out)
      have hxa : (dig B32 y)[k] < 4294967296 := (Digs.dig hB32 y).get hkl
      have hxd : (dig B32 y).getD k 0 = (dig B32 y)[k] := by simp [show k < (dig B32 y).length from hkl]
      have HXD := Lib.hid hxd
      clear hxd
      generalize (dig B32 y)[k] = xa at *
      clear hld1
      by_cases hkm : k < len32 x
      · obtain ⟨b2, o2, rfl, hb2, hld2⟩ := num_ld Try.underlying34 rfl hA hkm
        have HL2 := Lib.hid (hld2 wr HBR.out)
        have hyb : (dig B32 x)[k] < 4294967296 := (Digs.dig hB32 x).get hkm
        have hyd : (dig B32 x).getD k 0 = (dig B32 x)[k] := by simp [show k < (dig B32 x).length from hkm]
        have HYD := Lib.hid hyd
        clear hyd
        generalize (dig B32 x)[k] = yb at *
        clear hld2
        obtain ⟨s1, hs1⟩ : ∃ s1, s1 = cc + xa := ⟨_, rfl⟩
        obtain ⟨s2, hs2⟩ : ∃ s2, s2 = s1 + yb := ⟨_, rfl⟩
        obtain ⟨r, hr⟩ : ∃ r, r = s2 % 4294967296 := ⟨_, rfl⟩
        obtain ⟨q, hq⟩ : ∃ q, q = s2 / 4294967296 := ⟨_, rfl⟩
        have wa := wrap_u64 (n := (xa : Int)) (by omega) (by omega)
        have wb := wrap_u64 (n := (yb : Int)) (by omega) (by omega)
        have w1' : IntKind.u64.wrap ((cc : Int) + (xa : Int)) = (s1 : Int) := by rw [wrap_u64 (by omega) (by omega)]; omega
        have w2' : IntKind.u64.wrap ((s1 : Int) + (yb : Int)) = (s2 : Int) := by rw [wrap_u64 (by omega) (by omega)]; omega
        have w3' : IntKind.u32.wrap (s2 : Int) = (r : Int) := by rw [wrap_u32, hr]
        have w4' : (s2 : Int) / 4294967296 = (q : Int) := by omega
        have HST := Lib.hid (plus_step hB32 (i := k) (by omega) HV.out)
        rw [HXD.out, HYD.out] at HST
        have e5 : cc + xa + yb = s2 := by omega
        rw [e5, ← hr, ← hq] at HST
        have hq1 : q ≤ 1 := by omega
        have hr1 : r < B32 := by have : r < 4294967296 := by omega
                                 exact this
        clear hs1 hs2 hr hq e5
        go_wp2_with (first
         | ((with_reducible refine g_ld 34 ?_); refine wpList_ld rfl _ _ rfl _ rfl _ HL1.out ?_; have HL3 := HL2; clear HL1)
         | ((with_reducible refine g_ld 34 ?_); refine wpList_ld rfl _ _ rfl _ rfl _ HL3.out ?_; clear HL3)
         | ((with_reducible refine g_st 34 ?_); refine wpList_set rfl _ _ rfl rfl rfl rfl size_u32 HNB.out (by omega) ?_; intro w4 hnb4 hg4))
        go_roundw
        case rel => exact ⟨k + 1, q, o.set k r, by omega, by go_num, rfl, hq1, by simp [hol], HOD.out.set _ _ hr1, hnb4, HBR.out.grown hg4 HBR.out.size (fun j hj => by injection hj with hj; omega), Nat.lt_of_lt_of_le hlt hg4.size, HST.out⟩
        case measure => simp [intOf]; omega
      · have hkm' : (dig B32 x).length ≤ k := Nat.le_of_not_lt hkm
        have HYD : Hid ((dig B32 x).getD k 0 = 0) := by unfold Hid; simp [hkm']
        obtain ⟨s2, hs2⟩ : ∃ s2, s2 = cc + xa := ⟨_, rfl⟩
        obtain ⟨r, hr⟩ : ∃ r, r = s2 % 4294967296 := ⟨_, rfl⟩
        obtain ⟨q, hq⟩ : ∃ q, q = s2 / 4294967296 := ⟨_, rfl⟩
        have wa := wrap_u64 (n := (xa : Int)) (by omega) (by omega)
        have w1' : IntKind.u64.wrap ((cc : Int) + (xa : Int)) = (s2 : Int) := by rw [wrap_u64 (by omega) (by omega)]; omega
        have w3' : IntKind.u32.wrap (s2 : Int) = (r : Int) := by rw [wrap_u32, hr]
        have w4' : (s2 : Int) / 4294967296 = (q : Int) := by omega
        have HST := Lib.hid (plus_step hB32 (i := k) (by omega) HV.out)
        rw [HXD.out, HYD.out] at HST
        have e5 : cc + xa + 0 = s2 := by omega
        rw [e5, ← hr, ← hq] at HST
        have hq1 : q ≤ 1 := by omega
        have hr1 : r < B32 := by have : r < 4294967296 := by omega
                                 exact this
        clear hs2 hr hq e5
        go_wp2_with (first
         | ((with_reducible refine g_ld 34 ?_); refine wpList_ld rfl _ _ rfl _ rfl _ HL1.out ?_; clear HL1)
         | ((with_reducible refine g_st 34 ?_); refine wpList_set rfl _ _ rfl rfl rfl rfl size_u32 HNB.out (by omega) ?_; intro w4 hnb4 hg4))
        go_roundw
        case rel => exact ⟨k + 1, q, o.set k r, by omega, by go_num, rfl, hq1, by simp [hol], HOD.out.set _ _ hr1, hnb4, HBR.out.grown hg4 HBR.out.size (fun j hj => by injection hj with hj; omega), Nat.lt_of_lt_of_le hlt hg4.size, HST.out⟩
        case measure => simp [intOf]; omega
    · obtain rfl : k = len32 y := by omega
      have w3' : IntKind.u32.wrap (cc : Int) = (cc : Int) := by rw [wrap_u32, Nat.mod_eq_of_lt (by omega)]
      have HE := Lib.hid (plus_end (a := dig B32 y) (b := dig B32 x) hol (show len32 x ≤ len32 y by omega) HV.out)
      go_wp2_with (first
       | ((with_reducible refine g_st 34 ?_); refine wpList_set rfl _ _ rfl rfl rfl rfl size_u32 HNB.out (by omega) ?_; intro w4 hnb4 hg4)
       | (go_at_call 85; refine (frac_trim _ _ _ (o.set (len32 y) cc) (by simp [hol]) w4 hnb4.rd0 (HOD.out.set _ _ (Nat.lt_of_le_of_lt hcc (by decide))) (by simp [hol]; omega) (by simp [hol])).mono ?_; rintro e w5 ⟨rfl, rfl⟩))
      go_ret
      have hB4 : Below w.heap.size w w5 := HBR.out.grown hg4 HBR.out.size (fun j hj => by injection hj with hj; omega)
      have he : valB B32 (o.set (len32 y) cc) = x + y := by
       have h1 := HE.out
       rw [val_dig hB32, val_dig hB32] at h1
       first | exact h1 | exact h1.trans (Nat.add_comm _ _)
      have hds : Digs B32 (o.set (len32 y) cc) := HOD.out.set (len32 y) cc (Nat.lt_of_le_of_lt hcc (by decide))
      have hlen := dig_len_le hB32 (valB_lt _ hds)
      have hrd := rd_trim hB32 hnb4.rd0 hds
      rw [he] at hlen hrd
      rw [he]
      exact ⟨_, _, rfl, hrd, by simpa [hol] using hlen, hB4⟩
 · go_enter Try.func56, Try.ntmps56
   go_wp2_with (first
    | (at_make; go_loud (refine wpList_make_N (n := len32 x + 1) rfl _ _ rfl Try.underlying108 info_u32 rfl rfl (by simp) (by simp) (by omega) (by unfold maxLen; omega) ?_); intro w1 hnb1 hb1 hlt1))
   have HB1 := Lib.hid hb1
   have HNB1 := Lib.hid hnb1
   have HLT1 := Lib.hid hlt1
   clear hnb1 hb1 hlt1
   go_loopw [6, 22] (fun cv i wr => ∃ (k cc : Nat) (o : List Nat), k ≤ len32 x ∧ i = .int .i64 k ∧ cv = .int .u64 cc ∧ cc ≤ 1 ∧ o.length = len32 x + 1 ∧ Digs B32 o ∧ NB wr w.heap.size 34 .u32 o ∧ Below w.heap.size w wr ∧ w.heap.size < wr.heap.size ∧ valB B32 (o.take k) + B32 ^ k * cc = valB B32 ((dig B32 x).take k) + valB B32 ((dig B32 y).take k)) (fun _ i _ => len32 x - (intOf i).toNat)
   case atStart => exact ⟨0, 0, _, Nat.zero_le _, rfl, rfl, by omega, List.length_replicate, Digs.zeros (by decide) _, HNB1.out, HB1.out, HLT1.out, by simp [valB]⟩
   case round =>
    obtain ⟨k, cc, o, hk, rfl, rfl, hcc, hol, hod, hnb, hbr, hlt, hval⟩ := hrel
    have HV := Lib.hid hval
    have HNB := Lib.hid hnb
    have HBR := Lib.hid hbr
    have HOD := Lib.hid hod
    clear hval hnb hbr hod
    by_cases hkl : k < len32 x
    · obtain ⟨b1, o1, rfl, hb1, hld1⟩ := num_ld Try.underlying34 rfl hA hkl
      have HL1 := Lib.hid (hld1 wr HBR.out)
      have hxa : (dig B32 x)[k] < 4294967296 := (Digs.dig hB32 x).get hkl
      have hxd : (dig B32 x).getD k 0 = (dig B32 x)[k] := by simp [show k < (dig B32 x).length from hkl]
      have HXD := Lib.hid hxd
      clear hxd
      generalize (dig B32 x)[k] = xa at *
      clear hld1
      by_cases hkm : k < len32 y
      · obtain ⟨b2, o2, rfl, hb2, hld2⟩ := num_ld Try.underlying34 rfl hD hkm
        have HL2 := Lib.hid (hld2 wr HBR.out)
        have hyb : (dig B32 y)[k] < 4294967296 := (Digs.dig hB32 y).get hkm
        have hyd : (dig B32 y).getD k 0 = (dig B32 y)[k] := by simp [show k < (dig B32 y).length from hkm]
        have HYD := Lib.hid hyd
        clear hyd
        generalize (dig B32 y)[k] = yb at *
        clear hld2
        obtain ⟨s1, hs1⟩ : ∃ s1, s1 = cc + xa := ⟨_, rfl⟩
        obtain ⟨s2, hs2⟩ : ∃ s2, s2 = s1 + yb := ⟨_, rfl⟩
        obtain ⟨r, hr⟩ : ∃ r, r = s2 % 4294967296 := ⟨_, rfl⟩
        obtain ⟨q, hq⟩ : ∃ q, q = s2 / 4294967296 := ⟨_, rfl⟩
        have wa := wrap_u64 (n := (xa : Int)) (by omega) (by omega)
        have wb := wrap_u64 (n := (yb : Int)) (by omega) (by omega)
        have w1' : IntKind.u64.wrap ((cc : Int) + (xa : Int)) = (s1 : Int) := by rw [wrap_u64 (by omega) (by omega)]; omega
        have w2' : IntKind.u64.wrap ((s1 : Int) + (yb : Int)) = (s2 : Int) := by rw [wrap_u64 (by omega) (by omega)]; omega
        have w3' : IntKind.u32.wrap (s2 : Int) = (r : Int) := by rw [wrap_u32, hr]
        have w4' : (s2 : Int) / 4294967296 = (q : Int) := by omega
        have HST := Lib.hid (plus_step hB32 (i := k) (by omega) HV.out)
        rw [HXD.out, HYD.out] at HST
        have e5 : cc + xa + yb = s2 := by omega
        rw [e5, ← hr, ← hq] at HST
        have hq1 : q ≤ 1 := by omega
        have hr1 : r < B32 := by have : r < 4294967296 := by omega
                                 exact this
        clear hs1 hs2 hr hq e5
        go_wp2_with (first
         | ((with_reducible refine g_ld 34 ?_); refine wpList_ld rfl _ _ rfl _ rfl _ HL1.out ?_; have HL3 := HL2; clear HL1)
         | ((with_reducible refine g_ld 34 ?_); refine wpList_ld rfl _ _ rfl _ rfl _ HL3.out ?_; clear HL3)
         | ((with_reducible refine g_st 34 ?_); refine wpList_set rfl _ _ rfl rfl rfl rfl size_u32 HNB.out (by omega) ?_; intro w4 hnb4 hg4))
        go_roundw
        case rel => exact ⟨k + 1, q, o.set k r, by omega, by go_num, rfl, hq1, by simp [hol], HOD.out.set _ _ hr1, hnb4, HBR.out.grown hg4 HBR.out.size (fun j hj => by injection hj with hj; omega), Nat.lt_of_lt_of_le hlt hg4.size, HST.out⟩
        case measure => simp [intOf]; omega
      · have hkm' : (dig B32 y).length ≤ k := Nat.le_of_not_lt hkm
        have HYD : Hid ((dig B32 y).getD k 0 = 0) := by unfold Hid; simp [hkm']
        obtain ⟨s2, hs2⟩ : ∃ s2, s2 = cc + xa := ⟨_, rfl⟩
        obtain ⟨r, hr⟩ : ∃ r, r = s2 % 4294967296 := ⟨_, rfl⟩
        obtain ⟨q, hq⟩ : ∃ q, q = s2 / 4294967296 := ⟨_, rfl⟩
        have wa := wrap_u64 (n := (xa : Int)) (by omega) (by omega)
        have w1' : IntKind.u64.wrap ((cc : Int) + (xa : Int)) = (s2 : Int) := by rw [wrap_u64 (by omega) (by omega)]; omega
        have w3' : IntKind.u32.wrap (s2 : Int) = (r : Int) := by rw [wrap_u32, hr]
        have w4' : (s2 : Int) / 4294967296 = (q : Int) := by omega
        have HST := Lib.hid (plus_step hB32 (i := k) (by omega) HV.out)
        rw [HXD.out, HYD.out] at HST
        have e5 : cc + xa + 0 = s2 := by omega
        rw [e5, ← hr, ← hq] at HST
        have hq1 : q ≤ 1 := by omega
        have hr1 : r < B32 := by have : r < 4294967296 := by omega
                                 exact this
        clear hs2 hr hq e5
        go_wp2_with (first
         | ((with_reducible refine g_ld 34 ?_); refine wpList_ld rfl _ _ rfl _ rfl _ HL1.out ?_; clear HL1)
         | ((with_reducible refine g_st 34 ?_); refine wpList_set rfl _ _ rfl rfl rfl rfl size_u32 HNB.out (by omega) ?_; intro w4 hnb4 hg4))
        go_roundw
        case rel => exact ⟨k + 1, q, o.set k r, by omega, by go_num, rfl, hq1, by simp [hol], HOD.out.set _ _ hr1, hnb4, HBR.out.grown hg4 HBR.out.size (fun j hj => by injection hj with hj; omega), Nat.lt_of_lt_of_le hlt hg4.size, HST.out⟩
        case measure => simp [intOf]; omega
    · obtain rfl : k = len32 x := by omega
      have w3' : IntKind.u32.wrap (cc : Int) = (cc : Int) := by rw [wrap_u32, Nat.mod_eq_of_lt (by omega)]
      have HE := Lib.hid (plus_end (a := dig B32 x) (b := dig B32 y) hol (show len32 y ≤ len32 x by omega) HV.out)
      go_wp2_with (first
       | ((with_reducible refine g_st 34 ?_); refine wpList_set rfl _ _ rfl rfl rfl rfl size_u32 HNB.out (by omega) ?_; intro w4 hnb4 hg4)
       | (go_at_call 85; refine (frac_trim _ _ _ (o.set (len32 x) cc) (by simp [hol]) w4 hnb4.rd0 (HOD.out.set _ _ (Nat.lt_of_le_of_lt hcc (by decide))) (by simp [hol]; omega) (by simp [hol])).mono ?_; rintro e w5 ⟨rfl, rfl⟩))
      go_ret
      have hB4 : Below w.heap.size w w5 := HBR.out.grown hg4 HBR.out.size (fun j hj => by injection hj with hj; omega)
      have he : valB B32 (o.set (len32 x) cc) = x + y := by
       have h1 := HE.out
       rw [val_dig hB32, val_dig hB32] at h1
       first | exact h1 | exact h1.trans (Nat.add_comm _ _)
      have hds : Digs B32 (o.set (len32 x) cc) := HOD.out.set (len32 x) cc (Nat.lt_of_le_of_lt hcc (by decide))
      have hlen := dig_len_le hB32 (valB_lt _ hds)
      have hrd := rd_trim hB32 hnb4.rd0 hds
      rw [he] at hlen hrd
      rw [he]
      exact ⟨_, _, rfl, hrd, by simpa [hol] using hlen, hB4⟩
theorem drop_set_next {o O : List Nat} {i j r : Nat} (h : o.drop (i + j) = O.drop (i + j)) : (o.set (i + j) r).drop (i + (j + 1)) = O.drop (i + (j + 1)) := by
 have e : i + (j + 1) = (i + j) + 1 := by omega
 rw [e, drop_set]
 have h1 := congrArg (fun l => l.drop 1) h
 simpa [List.drop_drop] using h1
theorem times_row {B : Nat} {a b O o : List Nat} {i c : Nat} (hi : i < a.length) (hlen : i + b.length < o.length) (h0 : valB B (O.take (i + b.length)) = valB B (a.take i) * valB B b)
 (h : valB B (o.take (i + b.length)) + B ^ (i + b.length) * c = valB B (O.take (i + b.length)) + B ^ i * (a[i] * valB B (b.take b.length))) :
 valB B ((o.set (i + b.length) c).take (i + 1 + b.length)) = valB B (a.take (i + 1)) * valB B b := by
 have e : i + 1 + b.length = i + b.length + 1 := by omega
 rw [e, valB_set_take B hlen, h, h0, valB_take_succ hi, List.take_length]
 grind
set_option maxRecDepth 100000 in
set_option maxHeartbeats 4000000 in
theorem frac_times (A D : Option Addr) (ca cd : Nat) (x y n m : Nat) (hn : n = len32 x) (hm : m = len32 y) (w : World) (hA : Rd32 w A x) (hD : Rd32 w D y) (hx : len32 x ≤ 1000) (hy : len32 y ≤ 1000) :
 Calls Try.prog 54 #[.slice A n ca, .slice D m cd] w fun e w' => ∃ A' c', e = .returned (.slice A' (len32 (x * y)) c') ∧ Rd32 w' A' (x * y) ∧ len32 (x * y) ≤ c' ∧ Below w.heap.size w w' := by
 subst hn hm
 go_enter Try.func54, Try.ntmps54
 go_wp2_with (first
  | (at_make; go_loud (refine wpList_make_N (n := len32 x + len32 y) rfl _ _ rfl Try.underlying108 info_u32 rfl rfl (by simp) (by simp) (by omega) (by unfold maxLen; omega) ?_); intro w1 hnb1 hb1 hlt1))
 have HB1 := Lib.hid hb1
 have HNB1 := Lib.hid hnb1
 have HLT1 := Lib.hid hlt1
 clear hnb1 hb1 hlt1
 go_loopw [19] (fun i wr => ∃ (k : Nat) (o : List Nat), k ≤ len32 x ∧ i = .int .i64 k ∧ o.length = len32 x + len32 y ∧ Digs B32 o ∧ NB wr w.heap.size 34 .u32 o ∧ Below w.heap.size w wr ∧ w.heap.size < wr.heap.size ∧ valB B32 (o.take (k + len32 y)) = valB B32 ((dig B32 x).take k) * valB B32 (dig B32 y)) (fun i _ => len32 x - (intOf i).toNat)
 case atStart => exact ⟨0, _, Nat.zero_le _, rfl, List.length_replicate, Digs.zeros (by decide) _, HNB1.out, HB1.out, HLT1.out, by rw [List.take_replicate, valB_replicate]; simp [valB]⟩
 case round =>
  clear HB1 HNB1 HLT1
  obtain ⟨k, O, hk, rfl, hOl, hOd, hnb, hbr, hlt, hval⟩ := hrel
  have HV := Lib.hid hval
  have HNB := Lib.hid hnb
  have HBR := Lib.hid hbr
  have HOD := Lib.hid hOd
  have HLT := Lib.hid hlt
  clear hval hnb hbr hOd hlt
  by_cases hkl : k < len32 x
  · have HD := Lib.hid hD
    obtain ⟨b1, o1, rfl, hb1, hld1⟩ := num_ld Try.underlying34 rfl hA hkl
    have HL1 := Lib.hid (hld1 wr HBR.out)
    have hxa : (dig B32 x)[k] < 4294967296 := (Digs.dig hB32 x).get hkl
    have HXA : Hid (∃ xa, xa = (dig B32 x)[k]) := ⟨_, rfl⟩
    obtain ⟨xa, hxe⟩ := HXA.out
    have HXE := Lib.hid hxe
    rw [← hxe] at HL1 hxa
    clear hld1 HXA hxe
    have hkd : ((k : Int) < (len32 x : Int)) = True := by simp; omega
    go_wp2_with (first
     | ((with_reducible refine g_ld 34 ?_); refine wpList_ld rfl _ _ rfl _ rfl _ HL1.out ?_))
    go_loopw [8, 26] (fun cv i wr => ∃ (j c : Nat) (o : List Nat), j ≤ len32 y ∧ i = .int .i64 j ∧ cv = .int .u64 c ∧ c < 4294967296 ∧ o.length = len32 x + len32 y ∧ Digs B32 o ∧ NB wr w.heap.size 34 .u32 o ∧ Below w.heap.size w wr ∧ w.heap.size < wr.heap.size ∧ o.drop (k + j) = O.drop (k + j) ∧ valB B32 (o.take (k + j)) + B32 ^ (k + j) * c = valB B32 (O.take (k + j)) + B32 ^ k * (xa * valB B32 ((dig B32 y).take j))) (fun _ i _ => len32 y - (intOf i).toNat)
    case atStart => exact ⟨0, 0, O, Nat.zero_le _, rfl, rfl, by omega, hOl, HOD.out, HNB.out, HBR.out, HLT.out, rfl, by simp [valB]⟩
    case round =>
     clear HNB HBR HLT HL1
     obtain ⟨j, c, o, hj, rfl, rfl, hc, hol, hod, hnb, hbr, hlt, hdr, hval⟩ := hrel
     have HV2 := Lib.hid hval
     have HNB2 := Lib.hid hnb
     have HBR2 := Lib.hid hbr
     have HOD2 := Lib.hid hod
     have HDR2 := Lib.hid hdr
     have HLT2 := Lib.hid hlt
     clear hval hnb hbr hod hdr hlt
     by_cases hjl : j < len32 y
     · obtain ⟨b2, o2, rfl, hb2, hld2⟩ := num_ld Try.underlying34 rfl HD.out hjl
       have HL2 := Lib.hid (hld2 wr HBR2.out)
       have hyb : (dig B32 y)[j] < 4294967296 := (Digs.dig hB32 y).get hjl
       have HYD : Hid ((dig B32 y).getD j 0 = (dig B32 y)[j]) := by unfold Hid; simp [show j < (dig B32 y).length from hjl]
       generalize (dig B32 y)[j] = yb at *
       clear hld2
       have hko : k + j < o.length := by omega
       have HL3 := Lib.hid (HNB2.out.ld Try.underlying34 rfl hko)
       have hoc : o[k + j] < 4294967296 := HOD2.out.get hko
       have HOG : Hid (o.getD (k + j) 0 = o[k + j]) := by unfold Hid; simp [hko]
       generalize o[k + j] = oc at *
       have HST := Lib.hid (times_step (b := dig B32 y) (x := xa) (by omega) HDR2.out HV2.out)
       rw [HYD.out, HOG.out] at HST
       have hp := Nat.mul_le_mul (Nat.le_of_lt_succ hxa) (Nat.le_of_lt_succ hyb)
       obtain ⟨p, hpe⟩ : ∃ p, p = xa * yb := ⟨_, rfl⟩
       rw [← hpe] at hp HST
       obtain ⟨s1, hs1⟩ : ∃ s1, s1 = p + oc := ⟨_, rfl⟩
       obtain ⟨s2, hs2⟩ : ∃ s2, s2 = c + s1 := ⟨_, rfl⟩
       obtain ⟨r, hr⟩ : ∃ r, r = s2 % 4294967296 := ⟨_, rfl⟩
       obtain ⟨q, hq⟩ : ∃ q, q = s2 / 4294967296 := ⟨_, rfl⟩
       have wa := wrap_u64 (n := (xa : Int)) (by omega) (by omega)
       have wb := wrap_u64 (n := (yb : Int)) (by omega) (by omega)
       have wc := wrap_u64 (n := (oc : Int)) (by omega) (by omega)
       have w0' : IntKind.u64.wrap ((xa : Int) * (yb : Int)) = (p : Int) := by rw [← Int.natCast_mul, ← hpe, wrap_u64 (by omega) (by omega)]
       have w1' : IntKind.u64.wrap ((p : Int) + (oc : Int)) = (s1 : Int) := by rw [wrap_u64 (by omega) (by omega)]; omega
       have w2' : IntKind.u64.wrap ((c : Int) + (s1 : Int)) = (s2 : Int) := by rw [wrap_u64 (by omega) (by omega)]; omega
       have w3' : IntKind.u32.wrap (s2 : Int) = (r : Int) := by rw [wrap_u32, hr]
       have w4' : (s2 : Int) / 4294967296 = (q : Int) := by omega
       have e5 : c + (p + oc) = s2 := by omega
       rw [e5, ← hr, ← hq] at HST
       have hq1 : q < 4294967296 := by omega
       have hr1 : r < 4294967296 := by omega
       clear hs1 hs2 hr hq e5 hp hpe
       go_wp2_with (first
        | ((with_reducible refine g_ld 34 ?_); refine wpList_ld rfl _ _ rfl _ rfl _ HL2.out ?_; have HL4 := HL3; clear HL2)
        | ((with_reducible refine g_ld 34 ?_); refine wpList_ld rfl _ _ rfl _ rfl _ (by first | exact HL4.out | simpa using HL4.out) ?_; clear HL4)
        | ((with_reducible refine g_st 34 ?_); refine wpList_set rfl _ _ rfl rfl rfl rfl size_u32 HNB2.out hko ?_; intro w4 hnb4 hg4))
       go_roundw
       case rel => exact ⟨j + 1, q, o.set (k + j) r, by omega, by go_num, rfl, hq1, by simp [hol], HOD2.out.set _ _ hr1, hnb4, HBR2.out.grown hg4 HBR2.out.size (fun i hi => by injection hi with hi; omega), Nat.lt_of_lt_of_le HLT2.out hg4.size, drop_set_next HDR2.out, HST.out⟩
       case measure => simp [intOf]; omega
     · obtain rfl : j = len32 y := by omega
       have w3' : IntKind.u32.wrap (c : Int) = (c : Int) := by rw [wrap_u32, Nat.mod_eq_of_lt (by omega)]
       have hko : k + len32 y < o.length := by omega
       have HR := times_row (a := dig B32 x) (b := dig B32 y) (O := O) (o := o) (i := k) (c := c) hkl hko HV.out (by rw [← HXE.out]; exact HV2.out)
       have HR2 := Lib.hid HR
       clear HR
       go_wp2_with (first
        | ((with_reducible refine g_st 34 ?_); refine wpList_set rfl _ _ rfl rfl rfl rfl size_u32 HNB2.out hko ?_; intro w4 hnb4 hg4))
       go_roundw
       case rel => exact ⟨k + 1, o.set (k + len32 y) c, by omega, by go_num, by simp [hol], HOD2.out.set _ _ hc, hnb4, HBR2.out.grown hg4 HBR2.out.size (fun i hi => by injection hi with hi; omega), Nat.lt_of_lt_of_le HLT2.out hg4.size, HR2.out⟩
       case measure => simp [intOf]; omega
  · obtain rfl : k = len32 x := by omega
    go_wp2_with (first
     | (go_at_call 85; refine (frac_trim _ _ _ O (by simp [hOl]) wr HNB.out.rd0 HOD.out (by omega) (by omega)).mono ?_; rintro e w5 ⟨rfl, rfl⟩))
    go_ret
    have he : valB B32 O = x * y := by
     have h1 := HV.out
     rw [List.take_of_length_le (by omega), List.take_length, val_dig hB32, val_dig hB32] at h1
     exact h1
    have hlen := dig_len_le hB32 (valB_lt _ HOD.out)
    have hrd := rd_trim hB32 HNB.out.rd0 HOD.out
    rw [he] at hlen hrd
    rw [he]
    exact ⟨_, _, rfl, hrd, by rw [hOl] at hlen; exact hlen, HBR.out⟩
theorem seg_set {L o : List Nat} {j m i r : Nat} (ho : o.length = m) (hi : i < m) (hjm : j + m ≤ L.length) : (L.take j ++ o ++ L.drop (j + m)).set (j + i) r = L.take j ++ o.set i r ++ L.drop (j + m) := by
 have hl : (L.take j).length = j := List.length_take_of_le (by omega)
 rw [List.append_assoc, List.set_append, hl, if_neg (by omega), List.set_append, List.append_assoc]
 have e : j + i - j = i := by omega
 rw [e, if_pos (by omega)]
theorem seg_get {L o : List Nat} {j m i : Nat} (ho : o.length = m) (hi : i < m) (hjm : j + m ≤ L.length) : (L.take j ++ o ++ L.drop (j + m))[j + i]? = o[i]? := by
 have hl : (L.take j).length = j := List.length_take_of_le (by omega)
 rw [List.append_assoc, List.getElem?_append_right (by omega), hl, List.getElem?_append_left (by omega)]
 congr 1
 omega
theorem seg_len {L o : List Nat} {j m : Nat} (ho : o.length = m) (hjm : j + m ≤ L.length) : (L.take j ++ o ++ L.drop (j + m)).length = L.length := by
 simp
 omega
theorem seg_self (L : List Nat) (j m : Nat) : L.take j ++ (L.drop j).take m ++ L.drop (j + m) = L := by
 rw [List.append_assoc, ← List.drop_drop, List.take_append_drop, List.take_append_drop]
theorem Rd.apart {w w' : World} {size g : Nat} {A : Option Addr} {css : List (List Value)} (h : Rd w w.heap.size size A css) (hne : ∀ q, A = some q → q.block ≠ g) (hg : w.grownBy w' (some g)) : Rd w' w'.heap.size size A css := by
 intro k cs hk
 obtain ⟨b, off, e, hlt, hl, hc⟩ := h k cs hk
 refine ⟨b, off, e, Nat.lt_of_lt_of_le hlt hg.size, hl, fun j u hu => ?_⟩
 rw [← hc j u hu]
 exact World.cell?_of_block (hg.block b hlt (fun h => by injection h with h; exact hne _ e h))
theorem grown_trans {w w' w2 : World} {g : Nat} (h : w.grownBy w' (some g)) (h' : w'.grownBy w2 (some g)) : w.grownBy w2 (some g) :=
 ⟨h'.os.trans h.os, h'.tape.trans h.tape, h'.output.trans h.output, Nat.le_trans h.size h'.size, fun k hk hne => (h'.block k (Nat.lt_of_lt_of_le hk h.size) hne).trans (h.block k hk hne)⟩
set_option maxRecDepth 100000 in
set_option maxHeartbeats 4000000 in
theorem frac_give (g j m cu cd y n : Nat) (D : Option Addr) (L : List Nat) (hn : n = len32 y) (w : World) (hL : NB w g 34 .u32 L) (hd : Digs B32 L) (hjm : j + m ≤ L.length) (hm : m ≤ 1000) (hD : Rd32 w D y) (hne : ∀ q, D = some q → q.block ≠ g) (hy : len32 y ≤ m) :
 Calls Try.prog 92 #[.slice (some ⟨g, j, none⟩) m cu, .slice D n cd] w fun e w' => ∃ (o : List Nat) (c : Nat), e = .returned (.bool (decide (0 < c))) ∧ c ≤ 1 ∧ o.length = m ∧ Digs B32 o ∧ NB w' g 34 .u32 (L.take j ++ o ++ L.drop (j + m)) ∧ w.grownBy w' (some g) ∧
  valB B32 o + B32 ^ m * c = valB B32 ((L.drop j).take m) + y := by
 subst hn
 obtain ⟨U, hU⟩ : ∃ U, U = (L.drop j).take m := ⟨_, rfl⟩
 have hUl : U.length = m := by rw [hU]; simp; omega
 have hUd : Digs B32 U := by rw [hU]; exact (hd.drop j).take m
 have hUg : ∀ i, i < m → L[j + i]? = U[i]? := fun i hi => by rw [hU, List.getElem?_take, if_pos hi, List.getElem?_drop]
 have HUG := Lib.hid hUg
 rw [← hU]
 have HL := Lib.hid hL
 have HSELF : Hid (L.take j ++ U ++ L.drop (j + m) = L) := by unfold Hid; rw [hU]; exact seg_self L j m
 clear hL hUg hU
 go_enter Try.func92, Try.ntmps92
 go_wp2
 go_loopw [5, 9] (fun cv i wr => ∃ (k c : Nat) (o : List Nat), k ≤ m ∧ i = .int .i64 k ∧ cv = .int .u64 c ∧ c ≤ 1 ∧ o.length = m ∧ Digs B32 o ∧ NB wr g 34 .u32 (L.take j ++ o ++ L.drop (j + m)) ∧ w.grownBy wr (some g) ∧ o.drop k = U.drop k ∧ valB B32 (o.take k) + B32 ^ k * c = valB B32 (U.take k) + valB B32 ((dig B32 y).take k)) (fun _ i _ => m - (intOf i).toNat)
 case atStart => exact ⟨0, 0, U, Nat.zero_le _, rfl, rfl, by omega, hUl, hUd, by rw [HSELF.out]; exact HL.out, World.grownBy.refl w _, rfl, by simp [valB]⟩
 case round =>
  obtain ⟨k, c, o, hk, rfl, rfl, hc, hol, hod, hnb, hgr, hdr, hval⟩ := hrel
  have HV := Lib.hid hval
  have HNB := Lib.hid hnb
  have HGR := Lib.hid hgr
  have HOD := Lib.hid hod
  have HDR := Lib.hid hdr
  clear hval hnb hgr hod hdr
  by_cases hkm : k < m
  · have hko : k < o.length := by omega
    have hoU : o[k] = U[k]'(by omega) := by
     have h1 := congrArg (fun l => l[0]?) HDR.out
     simpa [hko, show k < U.length by omega] using h1
    have HL1 : Hid ((loadVar 34 ⟨g, j + k, none⟩).run Try.prog wr = .ok (.int .u32 (o[k] : Int)) wr) := by
     have h1 := HNB.out.ld (P := Try.prog) (i := j + k) Try.underlying34 rfl (by rw [seg_len hol hjm]; omega)
     have h2 := seg_get (L := L) (j := j) hol hkm hjm
     rw [List.getElem?_eq_getElem (by rw [seg_len hol hjm]; omega), List.getElem?_eq_getElem hko] at h2
     injection h2 with h2
     rw [h2] at h1
     exact h1
    have hxa : o[k] < 4294967296 := HOD.out.get hko
    have HXD : Hid (U.getD k 0 = o[k]) := by unfold Hid; rw [hoU]; simp [show k < U.length by omega]
    have hset := seg_set (L := L) (j := j) (i := k) (r := 0) hol hkm hjm
    clear hset hoU
    generalize o[k] = xa at *
    by_cases hkl : k < len32 y
    · obtain ⟨b2, o2, rfl, hb2, hld2⟩ := num_ld Try.underlying34 rfl (hD.apart hne HGR.out) hkl
      have HL2 := Lib.hid (hld2 wr (Below.refl _ _))
      have hyb : (dig B32 y)[k] < 4294967296 := (Digs.dig hB32 y).get hkl
      have HYD : Hid ((dig B32 y).getD k 0 = (dig B32 y)[k]) := by unfold Hid; simp [show k < (dig B32 y).length from hkl]
      generalize (dig B32 y)[k] = yb at *
      clear hld2
      obtain ⟨s1, hs1⟩ : ∃ s1, s1 = c + xa := ⟨_, rfl⟩
      obtain ⟨s2, hs2⟩ : ∃ s2, s2 = s1 + yb := ⟨_, rfl⟩
      obtain ⟨r, hr⟩ : ∃ r, r = s2 % 4294967296 := ⟨_, rfl⟩
      obtain ⟨q, hq⟩ : ∃ q, q = s2 / 4294967296 := ⟨_, rfl⟩
      have wa := wrap_u64 (n := (xa : Int)) (by omega) (by omega)
      have wb := wrap_u64 (n := (yb : Int)) (by omega) (by omega)
      have w1' : IntKind.u64.wrap ((c : Int) + (xa : Int)) = (s1 : Int) := by rw [wrap_u64 (by omega) (by omega)]; omega
      have w2' : IntKind.u64.wrap ((s1 : Int) + (yb : Int)) = (s2 : Int) := by rw [wrap_u64 (by omega) (by omega)]; omega
      have w3' : IntKind.u32.wrap (s2 : Int) = (r : Int) := by rw [wrap_u32, hr]
      have w4' : (s2 : Int) / 4294967296 = (q : Int) := by omega
      have HST := Lib.hid (plus_step hB32 (i := k) hko HV.out)
      rw [HXD.out, HYD.out] at HST
      have e5 : c + xa + yb = s2 := by omega
      rw [e5, ← hr, ← hq] at HST
      have hq1 : q ≤ 1 := by omega
      have hr1 : r < 4294967296 := by omega
      clear hs1 hs2 hr hq e5
      have hkA : j + k < (L.take j ++ o ++ L.drop (j + m)).length := by rw [seg_len hol hjm]; omega
      go_wp2_with (first
       | ((with_reducible refine g_ld 34 ?_); refine wpList_ld rfl _ _ rfl _ rfl _ HL1.out ?_; have HL3 := HL2; clear HL1)
       | ((with_reducible refine g_ld 34 ?_); refine wpList_ld rfl _ _ rfl _ rfl _ HL3.out ?_; clear HL3)
       | ((with_reducible refine g_st 34 ?_); refine wpList_set rfl _ _ rfl rfl rfl rfl size_u32 HNB.out hkA ?_; intro w4 hnb4 hg4))
      go_roundw
      case rel => exact ⟨k + 1, q, o.set k r, by omega, by go_num, rfl, hq1, by simp [hol], HOD.out.set _ _ hr1, by rw [← seg_set hol hkm hjm]; exact hnb4, grown_trans HGR.out hg4, drop_set_next (i := 0) (by simpa using HDR.out) |> (fun h => by simpa using h), HST.out⟩
      case measure => simp [intOf]; omega
    · have hkl' : (dig B32 y).length ≤ k := Nat.le_of_not_lt hkl
      have HYD : Hid ((dig B32 y).getD k 0 = 0) := by unfold Hid; simp [hkl']
      obtain ⟨s2, hs2⟩ : ∃ s2, s2 = c + xa := ⟨_, rfl⟩
      obtain ⟨r, hr⟩ : ∃ r, r = s2 % 4294967296 := ⟨_, rfl⟩
      obtain ⟨q, hq⟩ : ∃ q, q = s2 / 4294967296 := ⟨_, rfl⟩
      have wa := wrap_u64 (n := (xa : Int)) (by omega) (by omega)
      have w1' : IntKind.u64.wrap ((c : Int) + (xa : Int)) = (s2 : Int) := by rw [wrap_u64 (by omega) (by omega)]; omega
      have w3' : IntKind.u32.wrap (s2 : Int) = (r : Int) := by rw [wrap_u32, hr]
      have w4' : (s2 : Int) / 4294967296 = (q : Int) := by omega
      have HST := Lib.hid (plus_step hB32 (i := k) hko HV.out)
      rw [HXD.out, HYD.out] at HST
      have e5 : c + xa + 0 = s2 := by omega
      rw [e5, ← hr, ← hq] at HST
      have hq1 : q ≤ 1 := by omega
      have hr1 : r < 4294967296 := by omega
      clear hs2 hr hq e5
      have hkA : j + k < (L.take j ++ o ++ L.drop (j + m)).length := by rw [seg_len hol hjm]; omega
      go_wp2_with (first
       | ((with_reducible refine g_ld 34 ?_); refine wpList_ld rfl _ _ rfl _ rfl _ HL1.out ?_; clear HL1)
       | ((with_reducible refine g_st 34 ?_); refine wpList_set rfl _ _ rfl rfl rfl rfl size_u32 HNB.out hkA ?_; intro w4 hnb4 hg4))
      go_roundw
      case rel => exact ⟨k + 1, q, o.set k r, by omega, by go_num, rfl, hq1, by simp [hol], HOD.out.set _ _ hr1, by rw [← seg_set hol hkm hjm]; exact hnb4, grown_trans HGR.out hg4, drop_set_next (i := 0) (by simpa using HDR.out) |> (fun h => by simpa using h), HST.out⟩
      case measure => simp [intOf]; omega
  · obtain rfl : k = m := by omega
    have hv := HV.out
    rw [List.take_of_length_le (by omega), List.take_of_length_le (by omega), List.take_of_length_le (show (dig B32 y).length ≤ k from hy), val_dig hB32] at hv
    have HV2 := Lib.hid hv
    have hdec : ((0 : Int) < (c : Int)) = ((0 : Nat) < c) := by simp
    clear hv
    go_wp2
    go_ret
    exact ⟨o, c, by first | rfl | simp, hc, hol, HOD.out, HNB.out, HGR.out, HV2.out⟩
end Go.Proofs.Ytcdfnlgimbecgaa
