/-
  frac: take, in place.
-/
import Derived.Test.YtcdfnlgimbecgaaMt4
import Derived.RangeFuncFrom
import Derived.RangeFuncNested
import Derived.RangeFuncBound
import Derived.RangeFuncCalls
import Derived.RangeFuncLeaves
import Derived.Shelf.Abstract
import Derived.Shelf.RegionOpen
import Derived.OwnWalkIn
import Derived.TacticsInMore
import Derived.LoopNIn
import Derived.LoopIn
namespace Go.Proofs.Ytcdfnlgimbecgaa
open Go.RowKit
set_option maxRecDepth 100000 in
set_option maxHeartbeats 4000000 in
theorem frac_take (g j m cu cd y n t : Nat) (D : Option Addr) (L : List Nat) (hn : n = len32 y) (w : World) (hL : NB w g 34 .u32 L) (hd : Digs B32 L) (hjm : j + m ≤ L.length) (hm : m ≤ 1000) (hD : Rd32 w D y) (hne : ∀ q, D = some q → q.block ≠ g) (hy : len32 y < m) (ht : t < 4294967296) :
 Calls Try.prog 91 #[.slice (some ⟨g, j, none⟩) m cu, .slice D n cd, .int .u64 t] w fun e w' => ∃ (o : List Nat) (c : Nat), e = .returned (.bool (decide (0 < c))) ∧ c ≤ 1 ∧ o.length = m ∧ Digs B32 o ∧ NB w' g 34 .u32 (L.take j ++ o ++ L.drop (j + m)) ∧ w.grownBy w' (some g) ∧
  valB B32 o + t * y = valB B32 ((L.drop j).take m) + B32 ^ m * c := by
 subst hn
 obtain ⟨U, hU⟩ : ∃ U, U = (L.drop j).take m := ⟨_, rfl⟩
 have hUl : U.length = m := by rw [hU]; simp; omega
 have hUd : Digs B32 U := by rw [hU]; exact (hd.drop j).take m
 rw [← hU]
 have HL := Lib.hid hL
 have HSELF : Hid (L.take j ++ U ++ L.drop (j + m) = L) := by unfold Hid; rw [hU]; exact seg_self L j m
 clear hL hU
 go_enter Try.func91, Try.ntmps91
 go_wp2
 go_loopw [7, 8, 13] (fun cv ov i wr => ∃ (k cc ow : Nat) (o : List Nat), k ≤ m ∧ i = .int .i64 k ∧ cv = .int .u64 cc ∧ ov = .int .u64 ow ∧ ow ≤ 1 ∧ cc < 4294967296 ∧ (len32 y < k → cc = 0) ∧ o.length = m ∧ Digs B32 o ∧ NB wr g 34 .u32 (L.take j ++ o ++ L.drop (j + m)) ∧ w.grownBy wr (some g) ∧ o.drop k = U.drop k ∧ valB B32 (o.take k) + t * valB B32 ((dig B32 y).take k) = valB B32 (U.take k) + B32 ^ k * (cc + ow)) (fun _ _ i _ => m - (intOf i).toNat)
 case atStart => exact ⟨0, 0, 0, U, Nat.zero_le _, rfl, rfl, rfl, by omega, by omega, by omega, hUl, hUd, by rw [HSELF.out]; exact HL.out, World.grownBy.refl w _, rfl, by simp [valB]⟩
 case round =>
  obtain ⟨k, cc, ow, o, hk, rfl, rfl, rfl, how, hcc, hzc, hol, hod, hnb, hgr, hdr, hval⟩ := hrel
  have HV := Lib.hid hval
  have HNB := Lib.hid hnb
  have HGR := Lib.hid hgr
  have HOD := Lib.hid hod
  have HDR := Lib.hid hdr
  have HZC := Lib.hid hzc
  clear hval hnb hgr hod hdr hzc
  by_cases hkm : k < m
  · have hko : k < o.length := by omega
    have hoU : o[k] = U[k]'(by omega) := by
     have h1 := congrArg (fun l => l[0]?) HDR.out
     simpa [hko, show k < U.length by omega] using h1
    have HL1 : Hid ((loadVar 34 ⟨g, j + k, none⟩).run Try.prog wr = .ok (.int .u32 (o[k] : Int)) wr) := by
     have h1 := HNB.out.ld (P := Try.prog) (i := j + k) Try.underlying34 rfl (by rw [seg_len hol hjm]; omega)
     have h2 := seg_get (L := L) (j := j) hol hkm hjm
     rw [List.getElem?_eq_getElem (by rw [seg_len hol hjm]; omega), List.getElem?_eq_getElem hko] at h2
     injection h2 with h2
     rw [h2] at h1
     exact h1
    have hxa : o[k] < 4294967296 := HOD.out.get hko
    have HXD : Hid (U.getD k 0 = o[k]) := by unfold Hid; rw [hoU]; simp [show k < U.length by omega]
    clear hoU
    generalize o[k] = xa at *
    have hkA : j + k < (L.take j ++ o ++ L.drop (j + m)).length := by rw [seg_len hol hjm]; omega
    by_cases hkl : k < len32 y
    · obtain ⟨b2, o2, rfl, hb2, hld2⟩ := num_ld Try.underlying34 rfl (hD.apart hne HGR.out) hkl
      have HL2 := Lib.hid (hld2 wr (Below.refl _ _))
      have hyb : (dig B32 y)[k] < 4294967296 := (Digs.dig hB32 y).get hkl
      have HYD : Hid ((dig B32 y).getD k 0 = (dig B32 y)[k]) := by unfold Hid; simp [show k < (dig B32 y).length from hkl]
      generalize (dig B32 y)[k] = yb at *
      clear hld2
      have hp := Nat.mul_le_mul (Nat.le_of_lt_succ ht) (Nat.le_of_lt_succ hyb)
      obtain ⟨p, hpe⟩ : ∃ p, p = t * yb := ⟨_, rfl⟩
      rw [← hpe] at hp
      obtain ⟨cn, hcn⟩ : ∃ cn, cn = cc + p := ⟨_, rfl⟩
      have wb := wrap_u64 (n := (yb : Int)) (by omega) (by omega)
      have w1' : IntKind.u64.wrap ((t : Int) * (yb : Int)) = (p : Int) := by rw [← Int.natCast_mul, ← hpe, wrap_u64 (by omega) (by omega)]
      have w2' : IntKind.u64.wrap ((cc : Int) + (p : Int)) = (cn : Int) := by rw [wrap_u64 (by omega) (by omega)]; omega
      obtain ⟨low, hlow⟩ : ∃ low, low = cn % 4294967296 := ⟨_, rfl⟩
      obtain ⟨q, hq⟩ : ∃ q, q = cn / 4294967296 := ⟨_, rfl⟩
      obtain ⟨z1, hz1⟩ : ∃ z1, z1 = (xa + 18446744073709551616 - low) % 18446744073709551616 := ⟨_, rfl⟩
      obtain ⟨z2, hz2⟩ : ∃ z2, z2 = (z1 + 18446744073709551616 - ow) % 18446744073709551616 := ⟨_, rfl⟩
      obtain ⟨r, hr⟩ : ∃ r, r = z2 % 4294967296 := ⟨_, rfl⟩
      obtain ⟨ow2, how2⟩ : ∃ ow2, ow2 = z2 / 9223372036854775808 := ⟨_, rfl⟩
      have wa := wrap_u64 (n := (xa : Int)) (by omega) (by omega)
      have wl := wrap_u64 (n := (low : Int)) (by omega) (by omega)
      have w3' : IntKind.u32.wrap (cn : Int) = (low : Int) := by rw [wrap_u32, hlow]
      have w4' : (cn : Int) / 4294967296 = (q : Int) := by omega
      have w5' : IntKind.u64.wrap ((xa : Int) - (low : Int)) = (z1 : Int) := by rw [wrap_u64_sub _ _ (by omega), hz1]
      have w6' : IntKind.u64.wrap ((z1 : Int) - (ow : Int)) = (z2 : Int) := by rw [wrap_u64_sub _ _ (by omega), hz2]
      have w7' : IntKind.u32.wrap (z2 : Int) = (r : Int) := by rw [wrap_u32, hr]
      have w8' : (z2 : Int) / 9223372036854775808 = (ow2 : Int) := by omega
      have hrel2 : r + low + ow = xa + 4294967296 * ow2 := by omega
      have how3 : ow2 ≤ 1 := by omega
      have hr1 : r < 4294967296 := by omega
      have HST := Lib.hid (take_step (B := B32) (t := t) (v := dig B32 y) (i := k) (owed' := ow2) (r := r) hko HV.out (by rw [HXD.out, HYD.out, ← hpe, ← hcn]; have e : cn % B32 = low := hlow.symm; rw [e]; exact hrel2))
      rw [HYD.out, ← hpe, ← hcn] at HST
      have e6 : cn / B32 = q := hq.symm
      rw [e6] at HST
      have hq1 : q < 4294967296 := by omega
      clear hlow hq hz1 hz2 hr how2 hrel2 hcn hpe hp e6
      go_wp2_with (first
       | ((with_reducible refine g_ld 34 ?_); refine wpList_ld rfl _ _ rfl _ rfl _ HL2.out ?_; have HL3 := HL1; clear HL2)
       | ((with_reducible refine g_ld 34 ?_); refine wpList_ld rfl _ _ rfl _ rfl _ HL3.out ?_; clear HL3)
       | ((with_reducible refine g_st 34 ?_); refine wpList_set rfl _ _ rfl rfl rfl rfl size_u32 HNB.out hkA ?_; intro w4 hnb4 hg4))
      go_roundw
      case rel => exact ⟨k + 1, q, ow2, o.set k r, by omega, by go_num, rfl, rfl, how3, hq1, fun h => by omega, by simp [hol], HOD.out.set _ _ hr1, by rw [← seg_set hol hkm hjm]; exact hnb4, grown_trans HGR.out hg4, drop_set_next (i := 0) (by simpa using HDR.out) |> (fun h => by simpa using h), HST.out⟩
      case measure => simp [intOf]; omega
    · have hkl' : (dig B32 y).length ≤ k := Nat.le_of_not_lt hkl
      have HYD : Hid ((dig B32 y).getD k 0 = 0) := by unfold Hid; simp [hkl']
      obtain ⟨cn, hcn⟩ : ∃ cn, cn = cc := ⟨_, rfl⟩
      rw [← hcn] at hcc HV ⊢
      obtain ⟨low, hlow⟩ : ∃ low, low = cn % 4294967296 := ⟨_, rfl⟩
      obtain ⟨q, hq⟩ : ∃ q, q = cn / 4294967296 := ⟨_, rfl⟩
      obtain ⟨z1, hz1⟩ : ∃ z1, z1 = (xa + 18446744073709551616 - low) % 18446744073709551616 := ⟨_, rfl⟩
      obtain ⟨z2, hz2⟩ : ∃ z2, z2 = (z1 + 18446744073709551616 - ow) % 18446744073709551616 := ⟨_, rfl⟩
      obtain ⟨r, hr⟩ : ∃ r, r = z2 % 4294967296 := ⟨_, rfl⟩
      obtain ⟨ow2, how2⟩ : ∃ ow2, ow2 = z2 / 9223372036854775808 := ⟨_, rfl⟩
      have wa := wrap_u64 (n := (xa : Int)) (by omega) (by omega)
      have wl := wrap_u64 (n := (low : Int)) (by omega) (by omega)
      have w3' : IntKind.u32.wrap (cn : Int) = (low : Int) := by rw [wrap_u32, hlow]
      have w4' : (cn : Int) / 4294967296 = (q : Int) := by omega
      have w5' : IntKind.u64.wrap ((xa : Int) - (low : Int)) = (z1 : Int) := by rw [wrap_u64_sub _ _ (by omega), hz1]
      have w6' : IntKind.u64.wrap ((z1 : Int) - (ow : Int)) = (z2 : Int) := by rw [wrap_u64_sub _ _ (by omega), hz2]
      have w7' : IntKind.u32.wrap (z2 : Int) = (r : Int) := by rw [wrap_u32, hr]
      have w8' : (z2 : Int) / 9223372036854775808 = (ow2 : Int) := by omega
      have hrel2 : r + low + ow = xa + 4294967296 * ow2 := by omega
      have how3 : ow2 ≤ 1 := by omega
      have hr1 : r < 4294967296 := by omega
      have HST := Lib.hid (take_step (B := B32) (t := t) (v := dig B32 y) (i := k) (owed' := ow2) (r := r) hko HV.out (by rw [HXD.out, HYD.out, Nat.mul_zero, Nat.add_zero]; have e : cn % B32 = low := hlow.symm; rw [e]; exact hrel2))
      simp only [HYD.out, Nat.mul_zero, Nat.add_zero] at HST
      have e6 : cn / B32 = q := hq.symm
      rw [e6] at HST
      have hq1 : q < 4294967296 := by omega
      have HQ0 : Hid (q = 0) := by unfold Hid; omega
      clear hlow hq hz1 hz2 hr how2 hrel2 hcn e6
      go_wp2_with (first
       | ((with_reducible refine g_ld 34 ?_); refine wpList_ld rfl _ _ rfl _ rfl _ HL1.out ?_; clear HL1)
       | ((with_reducible refine g_st 34 ?_); refine wpList_set rfl _ _ rfl rfl rfl rfl size_u32 HNB.out hkA ?_; intro w4 hnb4 hg4))
      go_roundw
      case rel => exact ⟨k + 1, q, ow2, o.set k r, by omega, by go_num, rfl, rfl, how3, hq1, fun _ => HQ0.out, by simp [hol], HOD.out.set _ _ hr1, by rw [← seg_set hol hkm hjm]; exact hnb4, grown_trans HGR.out hg4, drop_set_next (i := 0) (by simpa using HDR.out) |> (fun h => by simpa using h), HST.out⟩
      case measure => simp [intOf]; omega
  · obtain rfl : k = m := by omega
    have hcz := HZC.out hy
    have hv := HV.out
    rw [List.take_of_length_le (by omega), List.take_of_length_le (show (dig B32 y).length ≤ k from Nat.le_of_lt hy), List.take_of_length_le (show U.length ≤ k by omega), val_dig hB32, hcz, Nat.zero_add] at hv
    have HV2 := Lib.hid hv
    have hdec : ((0 : Int) < (ow : Int)) = ((0 : Nat) < ow) := by simp
    clear hv
    go_wp2
    go_ret
    exact ⟨o, ow, by first | rfl | simp, how, hol, HOD.out, HNB.out, HGR.out, HV2.out⟩
theorem dig_single {x : Nat} (h : len32 x = 1) : dig B32 x = [x] := by
 have hlt := lt_of_dig_len hB32 (n := x) (k := 1) (Nat.le_of_eq h)
 rw [Nat.pow_one] at hlt
 have h0 : x ≠ 0 := by
  intro h0
  subst h0
  cases h
 rw [dig_pos hB32 h0, Nat.mod_eq_of_lt hlt, Nat.div_eq_of_lt hlt]
 rfl
set_option maxHeartbeats 1000000 in
theorem frac_one (A : Option Addr) (c n x : Nat) (hn : n = len32 x) (w : World) (h : Rd32 w A x) (hx : len32 x ≤ 1000) :
 Calls Try.prog 84 #[.slice A n c] w fun e w' => e = .returned (.bool (decide (x = 1))) ∧ w' = w := by
 subst hn
 by_cases h1 : len32 x = 1
 · have hdx := dig_single h1
   have hrd : Rd w w.heap.size 1 A (nums .u32 [x]) := by rw [← hdx]; exact h
   obtain ⟨b, off, rfl, hb, hld⟩ := num_ld Try.underlying34 rfl hrd (i := 0) (by simp)
   have HL : Hid ((loadVar 34 ⟨b, off, none⟩).run Try.prog w = .ok (.int .u32 (x : Int)) w) := by unfold Hid; simpa using hld w (Below.refl _ _)
   have HX : Hid (decide (x = 1) = ((x : Int) == 1)) := by
    unfold Hid
    by_cases hx1 : x = 1
    · subst hx1; rfl
    · have : ¬ (x : Int) = 1 := by omega
      simp [hx1, this]
   have h1' : (((len32 x : Nat) : Int) == 1) = true := by rw [h1]; rfl
   have h1z : (0 : Nat) < len32 x := by omega
   clear hld hdx hrd
   go_enter Try.func84, Try.ntmps84
   go_wp2_with (first
    | ((with_reducible refine g_ld 34 ?_); (first | refine wpList_ld rfl _ _ rfl _ rfl _ (by first | exact HL.out | simpa using HL.out) ?_ | refine wpList_ldw rfl _ _ rfl _ rfl _ (by first | exact HL.out | simpa using HL.out) ?_)))
   go_ret
   exact ⟨by rw [HX.out]; rfl, rfl⟩
 · have HX : Hid (decide (x = 1) = false) := by
    unfold Hid
    simp only [decide_eq_false_iff_not]
    intro hx1
    subst hx1
    exact h1 (by unfold len32; rw [dig_one hB32]; rfl)
   have h1' : (((len32 x : Nat) : Int) == 1) = false := by
    simp
    omega
   go_enter Try.func84, Try.ntmps84
   go_wp2
   go_ret
   exact ⟨by rw [HX.out]; rfl, rfl⟩
set_option maxHeartbeats 1000000 in
theorem frac_of (n : Nat) (hn : n < 18446744073709551616) (w : World) :
 Calls Try.prog 48 #[.int .u64 n] w fun e w' => ∃ A' c', e = .returned (.slice A' (len32 n) c') ∧ Rd32 w' A' n ∧ len32 n ≤ c' ∧ Below w.heap.size w w' := by
 obtain ⟨a, ha⟩ : ∃ a, a = n % 4294967296 := ⟨_, rfl⟩
 obtain ⟨b, hb⟩ : ∃ b, b = n / 4294967296 := ⟨_, rfl⟩
 have w1' : IntKind.u32.wrap (n : Int) = (a : Int) := by rw [wrap_u32, ha]
 have w2' : (n : Int) / 4294967296 = (b : Int) := by omega
 have hb2 : b < 4294967296 := by omega
 have w3' : IntKind.u32.wrap (b : Int) = (b : Int) := by rw [wrap_u32, Nat.mod_eq_of_lt hb2]
 have hds : Digs B32 [a, b] := by
  intro d hd
  simp at hd
  rcases hd with rfl | rfl
  · show d < 4294967296; omega
  · exact hb2
 have hv : valB B32 [a, b] = n := by
  simp only [valB_cons, valB_nil]
  show a + 4294967296 * (b + 4294967296 * 0) = n
  omega
 have hnb : NB (w.alloc (.cells #[.int .u32 (a : Int), .int .u32 (b : Int)] 34)) w.heap.size 34 .u32 [a, b] := heap_alloc_new w _
 have HT := Lib.hid (frac_trim (some ⟨w.heap.size, 0, none⟩) 2 2 [a, b] rfl (w.alloc (.cells #[.int .u32 (a : Int), .int .u32 (b : Int)] 34)) hnb.rd0 hds (by simp) (by simp))
 have hrd := rd_trim hB32 hnb.rd0 hds
 have hlen := dig_len_le hB32 (valB_lt _ hds)
 rw [hv] at HT hrd hlen
 have HRD := Lib.hid hrd
 have HLEN : Hid (len32 n ≤ 2) := hlen
 clear hrd hlen hv hds ha hb hnb
 go_enter Try.func48, Try.ntmps48
 go_wp2_with (go_at_call 85; refine (HT.out).mono ?_; rintro e w5 ⟨rfl, rfl⟩)
 go_ret
 exact ⟨_, _, rfl, HRD.out, HLEN.out, (Below.refl _ _).alloc (Nat.le_refl _) _⟩
theorem low_val (x : Nat) : valB B32 ((dig B32 x).take (min (len32 x) 2)) = x % 18446744073709551616 := by
 have hs := valB_split B32 (dig B32 x) (min (len32 x) 2)
 rw [val_dig hB32] at hs
 have hl : ((dig B32 x).take (min (len32 x) 2)).length = min (len32 x) 2 := by
  rw [List.length_take]
  show min _ (len32 x) = _
  omega
 have hlt := valB_lt ((dig B32 x).take (min (len32 x) 2)) ((Digs.dig hB32 x).take _)
 rw [hl] at hs hlt
 by_cases h : len32 x ≤ 2
 · have e : (dig B32 x).drop (min (len32 x) 2) = [] := by
    apply List.drop_eq_nil_of_le
    show len32 x ≤ _
    omega
   rw [e, valB_nil, Nat.mul_zero, Nat.add_zero] at hs
   have : B32 ^ min (len32 x) 2 ≤ B32 ^ 2 := Nat.pow_le_pow_right (by decide) (by omega)
   have h2 : B32 ^ 2 = 18446744073709551616 := by decide
   rw [← hs, Nat.mod_eq_of_lt (by omega)]
 · have e : min (len32 x) 2 = 2 := by omega
   rw [e] at hs hlt ⊢
   have h2 : B32 ^ 2 = 18446744073709551616 := by decide
   rw [h2] at hs hlt
   conv => rhs; rw [hs]
   rw [Nat.add_mul_mod_self_left, Nat.mod_eq_of_lt hlt]
theorem wrap_shl32 {a : Nat} (ha : a < 4294967296) : IntKind.u64.wrap ((a : Int) * 4294967296) = (a : Int) * 4294967296 := wrap_u64 (by omega) (by omega)
theorem or32 {a d : Nat} (ha : a < 4294967296) (hd : d < 4294967296) : bits .or .u64 ((a : Int) * 4294967296) (d : Int) = ((a * 4294967296 + d : Nat) : Int) := by
 have h := bits_join .u64 64 (by decide) (fun n h0 h1 => wrap_u64 h0 h1) 32 ((a : Int) * 4294967296) (d : Int) (by omega) (by omega) (by omega) (by omega) (by omega) (by omega)
 rw [h]
 omega
set_option maxHeartbeats 2000000 in
theorem frac_low (A : Option Addr) (c n x : Nat) (hn : n = len32 x) (w : World) (h : Rd32 w A x) (hx : len32 x ≤ 1000) :
 ∀ z, z = x % 18446744073709551616 → Calls Try.prog 57 #[.slice A n c] w fun e w' => e = .returned (.int .u64 (z : Int)) ∧ w' = w := by
 subst hn
 intro z hz
 obtain ⟨l, hldef⟩ : ∃ l, l = (dig B32 x).take (min (len32 x) 2) := ⟨_, rfl⟩
 have hlen : l.length = min (len32 x) 2 := by
  rw [hldef, List.length_take]
  show min _ (len32 x) = _
  omega
 have hds : Digs B32 l := by rw [hldef]; exact (Digs.dig hB32 x).take _
 have hrd : Rd w w.heap.size 1 A (nums .u32 l) := by rw [hldef, nums_take]; exact h.take _
 have hfin : Hid (valB B32 l = z) := by unfold Hid; rw [hldef, low_val, hz]
 clear hz
 have hmin : min ((len32 x : Nat) : Int) 2 = ((l.length : Nat) : Int) := by rw [hlen]; omega
 obtain ⟨m, hm⟩ : ∃ m, m = l.length := ⟨_, rfl⟩
 rw [← hm] at hmin
 have hm2 : m ≤ 2 := by omega
 have hif : (if (2 : Int) < ((len32 x : Nat) : Int) then (2 : Int) else ((len32 x : Nat) : Int)) = (m : Int) := by split <;> omega
 clear hmin
 go_enter Try.func57, Try.ntmps57
 go_wp2
 go_loop [3, 4] (fun v i => ∃ k : Nat, k ≤ m ∧ i = .int .i64 ((k : Int) - 1) ∧ v = .int .u64 (valB B32 (l.drop k) : Nat)) (fun _ i => (intOf i + 1).toNat)
 case atStart => exact ⟨m, Nat.le_refl _, by rw [hm, hlen], by rw [hm, List.drop_length]; rfl⟩
 case round =>
  obtain ⟨k, hk, rfl, rfl⟩ := hrel
  by_cases hk0 : k = 0
  · subst hk0
    clear hlen hldef hif
    go_wp2
    go_ret
    exact ⟨by rw [← hfin.out]; rfl, rfl⟩
  · obtain ⟨j, rfl⟩ : ∃ j, k = j + 1 := ⟨k - 1, by omega⟩
    have hjl : j < l.length := by omega
    obtain ⟨b, off, rfl, hb, hld⟩ := num_ld Try.underlying34 rfl hrd hjl
    have HL := Lib.hid (hld w (Below.refl _ _))
    obtain ⟨d, hd⟩ : ∃ d, d = l[j]'hjl := ⟨_, rfl⟩
    obtain ⟨hi, hhi⟩ : ∃ hi, hi = valB B32 (l.drop (j + 1)) := ⟨_, rfl⟩
    have hdlt : d < 4294967296 := by rw [hd]; exact hds.get hjl
    have hilt : hi < 4294967296 := by
     rw [hhi]
     have h1 := valB_lt (l.drop (j + 1)) (hds.drop _)
     rw [List.length_drop] at h1
     have h2 : B32 ^ (l.length - (j + 1)) ≤ B32 ^ 1 := Nat.pow_le_pow_right (by decide) (by omega)
     have h3 : B32 ^ 1 = 4294967296 := by decide
     omega
    have hnx : Hid (valB B32 (l.drop j) = hi * 4294967296 + d) := by
     unfold Hid
     rw [List.drop_eq_getElem_cons hjl, valB_cons, ← hd, ← hhi]
     show d + 4294967296 * hi = _
     omega
    have hor := Lib.hid (or32 hilt hdlt)
    obtain ⟨s, hs⟩ : ∃ s, s = hi * 4294967296 + d := ⟨_, rfl⟩
    rw [← hs] at hor hnx
    rw [← hd] at HL
    rw [← hhi]
    have hi64 : (j : Int) < 9223372036854775807 := by omega
    have hjx : (j : Int) < ((len32 x : Nat) : Int) := by omega
    clear hld hlen hldef hif hfin hhi hd hs hds h hrd
    go_wp2_with (first
     | ((with_reducible refine g_ld 34 ?_); refine wpList_ld rfl _ _ rfl _ rfl _ HL.out ?_))
    case roundEnd =>
     refine ⟨⟨j, by omega, rfl, by rw [hnx.out, hor.out]⟩, ?_⟩
     simp only [intOf]
     omega
def SeqTold {α : Type} (F : Fence) (n : Nat) (P : Program) (gf : Nat) (lb : Array Value) (encs : α → Array Value) (G : List α → World → Prop) (V : List α → α → Prop) (S Sp : List α → Prop) (w0 : World) : Prop :=
 ∀ (l : Nat) (J Jx : List α → World → Prop) (W : World), Below w0.heap.size w0 W → (∀ pre W1, J pre W1 → G pre W1) →
  (∀ pre x W1, J pre W1 → V pre x → YieldAt F (n - 1) P l (encs x) W1 fun e W2 => (e = .returned (.bool true) ∧ J (pre ++ [x]) W2) ∨ (e = .returned (.bool false) ∧ Jx (pre ++ [x]) W2)) →
  J [] W → CallsIn F n P gf (#[.func (.yield l) #[] #[]] ++ lb) W fun e W2 => (∃ v, e = .returned v) ∧ ((∃ xs, S xs ∧ J xs W2) ∨ (∃ pre, Sp pre ∧ Jx pre W2))
def toldPost {α : Type} (I : List α → World → Prop) (Ix : Code → List α → World → Prop) (xs : List α) (W : World) : Exit → Act → World → Prop := fun e _ W2 =>
 KeepsOthers W W2 ∧ match e with
  | .normal => I xs W2
  | .ret => Ix .ret xs W2
  | .exit id => Ix (.exit id) xs W2
  | .goto t => Ix (.goto t) xs W2
  | _ => False
section
variable {F : Fence} {n : Nat} {P : Program} {α : Type}
theorem told_round {ps : Array Tmp} {assign body : Code} {a : Act} {W : World} {fn : FuncId} {encs : α → Array Value} {I : List α → World → Prop} {Ix : Code → List α → World → Prop} {pre : List α} {x : α} (a₁ : α → Act) {l D B : Nat} {r : Loop}
 (hfn : F.fn fn) (hr : r = { state := .ready, pending := none, fn := fn, tmps := a.tmps, params := ps, assign := assign, body := body, defers := D }) (hB : B ≤ l) (hDl : D ≠ l)
 (hI : OwnFrom B I) (hIx : ∀ c, OwnFrom B (Ix c)) (hps : (encs x).size = ps.size)
 (hassign : ∀ K : Act → World → Prop, K (a₁ x) W → assign.wpIn (F.inRound l) (n - 1 - 1) P (Exit.then K (fun _ _ _ => False)) { tmps := (ps.zip (encs x)).foldl (fun t (p, v) => t.setIfInBounds p v) a.tmps, defers := [] } W)
 (hbody : ∀ W1, I pre W1 → body.wpIn (F.inRound l) (n - 1 - 1) P (toldPost I Ix (pre ++ [x]) W1) (a₁ x) W1)
 (hi : I pre W) (hl : W.heap[l]? = some (.loop r)) (hk : W.heap[D]? = some (.deferred (some []))) :
 YieldAt F (n - 1 - 1) P l (encs x) W fun e W2 =>
  (e = .returned (.bool true) ∧ I (pre ++ [x]) W2 ∧ W2.heap[l]? = some (.loop r) ∧ W2.heap[D]? = some (.deferred (some []))) ∨
  (e = .returned (.bool false) ∧ ∃ c, Ix c (pre ++ [x]) W2 ∧ W2.heap[l]? = some (.loop { r with state := .done, pending := some c }) ∧ W2.heap[D]? = some (.deferred (some []))) := by
 have hlt : l < W.heap.size := (Array.getElem?_eq_some_iff.1 hl).1
 have hy := run_yield (P := P) (args := encs x) hl (by rw [hr]; exact hps)
 rw [hr] at hy
 refine ⟨fn, _, assign, body, hy, roundIn_of_wpIn hfn (hassign _ ⟨_, run_beginRound hl (by rw [hr]), ?_⟩)⟩
 have hbusy : (W.putObj l (.loop { r with state := .busy })).heap[l]? = some (.loop { r with state := .busy }) := World.putObj_heap_same hlt
 have hkb : (W.putObj l (.loop { r with state := .busy })).heap[D]? = some (.deferred (some [])) := (World.putObj_heap_other hDl).trans hk
 refine wpIn_mono (hbody _ (hI.putObj _ hi hB hl rfl)) fun e a2 W3 hp => ?_
 obtain ⟨hkeep, hp⟩ := hp
 have hl3 := hkeep.same _ _ hbusy rfl
 have hlt3 := (Array.getElem?_eq_some_iff.1 hl3).1
 have hend := fun j : Option Code => run_endRound (P := P) j hl3
 have hD3 : ∀ o, (W3.putObj l o).heap[D]? = some (.deferred (some [])) := fun o => (World.putObj_heap_other hDl).trans (hkeep.same _ _ hkb rfl)
 cases e with
 | normal => exact ⟨_, _, hend none, .inl ⟨rfl, hI.putObj _ hp hB hl3 rfl, by rw [World.putObj_heap_same hlt3, hr]; rfl, hD3 _⟩⟩
 | ret => exact ⟨_, _, hend (some .ret), .inr ⟨rfl, .ret, (hIx _).putObj _ hp hB hl3 rfl, by rw [World.putObj_heap_same hlt3]; rfl, hD3 _⟩⟩
 | exit id => exact ⟨_, _, hend (some (.exit id)), .inr ⟨rfl, .exit id, (hIx _).putObj _ hp hB hl3 rfl, by rw [World.putObj_heap_same hlt3]; rfl, hD3 _⟩⟩
 | goto t => exact ⟨_, _, hend (some (.goto t)), .inr ⟨rfl, .goto t, (hIx _).putObj _ hp hB hl3 rfl, by rw [World.putObj_heap_same hlt3]; rfl, hD3 _⟩⟩
 | panic c => exact hp.elim
 | outgrown => exact hp.elim
theorem range_told {g : Operand} {ps : Array Tmp} {assign body : Code} {Q : Exit → Act → World → Prop} {a : Act} {w w0 : World} (hro : F.round = none) (h1 : 1 ≤ n) {gf : Nat} {lb : Array Value} (hg : a.eval g = .func (.func gf) #[] lb) (hFg : F.fn gf) (eg : ∀ args W, (callFunc gf args).run P W = .ok (.enter gf args) W)
 {encs : α → Array Value} {G : List α → World → Prop} {V : List α → α → Prop} {S Sp : List α → Prop} (hseq : SeqTold F (n - 1) P gf lb encs G V S Sp w0) (hb0 : Below w0.heap.size w0 w) (hps : ∀ x, (encs x).size = ps.size)
 (I : List α → World → Prop) (Ix : Code → List α → World → Prop) (hIG : ∀ pre W, I pre W → G pre W) (hI : OwnFrom w.heap.size I) (hIx : ∀ c, OwnFrom w.heap.size (Ix c)) (h0 : I [] w) (a₁ : α → Act)
 (hassign : ∀ (l : Nat) (x : α) (W : World) (K : Act → World → Prop), K (a₁ x) W → assign.wpIn (F.inRound l) (n - 1 - 1) P (Exit.then K (fun _ _ _ => False)) { tmps := (ps.zip (encs x)).foldl (fun t (p, v) => t.setIfInBounds p v) a.tmps, defers := [] } W)
 (hbody : ∀ (l : Nat) (pre : List α) (x : α) (W : World), I pre W → V pre x → body.wpIn (F.inRound l) (n - 1 - 1) P (toldPost I Ix (pre ++ [x]) W) (a₁ x) W)
 (hdone : ∀ (D : Nat) (xs : List α) (W : World), w.heap.size ≤ D → S xs → I xs W → W.heap[D]? = some (.deferred (some [])) → Q .normal { a with defers := { target := .collected D, args := #[] } :: a.defers } W)
 (hstop : ∀ (D : Nat) (c : Code) (pre : List α) (W : World), w.heap.size ≤ D → Sp pre → Ix c pre W → W.heap[D]? = some (.deferred (some [])) → c.wpIn F n P Q { a with defers := { target := .collected D, args := #[] } :: a.defers } W) :
 (Code.rangeFunc g ps assign body).wpIn F n P Q a w := by
 refine wpIn_rangeFunc fun fn hfn => ?_
 rw [hro]
 obtain ⟨r, hr⟩ : ∃ r : Loop, r = { state := .ready, pending := none, fn := fn, tmps := a.tmps, params := ps, assign := assign, body := body, defers := w.heap.size } := ⟨_, rfl⟩
 have hent := run_enterLoop_outer (P := P) (w := w) fn a.tmps ps assign body
 rw [← hr] at hent
 have hl0 : ((w.alloc (.deferred (some []))).alloc (.loop r)).heap[w.heap.size + 1]? = some (.loop r) := by
  have := World.alloc_heap_new (w.alloc (.deferred (some []))) (.loop r)
  rwa [World.size_alloc] at this
 have hk0 : ((w.alloc (.deferred (some []))).alloc (.loop r)).heap[w.heap.size]? = some (.deferred (some [])) := (Below.heap_alloc _ _ _ (by simp)).trans (World.alloc_heap_new w _)
 have hi0 : I [] ((w.alloc (.deferred (some []))).alloc (.loop r)) := hI.alloc _ (hI.alloc _ h0)
 have hbw : Below w0.heap.size w0 ((w.alloc (.deferred (some []))).alloc (.loop r)) := hb0.trans ((((Below.refl _ w).alloc (Nat.le_refl _) _).alloc (by simp) _).mono hb0.size)
 generalize (w.alloc (.deferred (some []))).alloc (.loop r) = W0 at *
 refine ⟨w.heap.size + 1, [{ target := .collected w.heap.size, args := #[] }], W0, { target := .fn (.func gf) lb, args := #[.func (.yield (w.heap.size + 1)) #[] #[]] }, W0, gf, #[.func (.yield (w.heap.size + 1)) #[] #[]] ++ lb, W0, hent, ?_, ?_, ?_, fun _ => h1, ?_⟩
 · simp only [resolve, hg]
   simp [go_sem]
 · intro f' hf'
   simp [Target.leads] at hf'
   rw [← hf']
   exact hFg
 · simp [invoke, go_sem, eg]
 · refine (hseq (w.heap.size + 1) (fun pre W => I pre W ∧ W.heap[w.heap.size + 1]? = some (.loop r) ∧ W.heap[w.heap.size]? = some (.deferred (some [])))
    (fun pre W => ∃ c, Ix c pre W ∧ W.heap[w.heap.size + 1]? = some (.loop { r with state := .done, pending := some c }) ∧ W.heap[w.heap.size]? = some (.deferred (some []))) W0 hbw (fun pre W1 h => hIG pre W1 h.1) ?_ ⟨hi0, hl0, hk0⟩).mono ?_
   · rintro pre x W ⟨hi, hl, hk⟩ hv
     exact told_round a₁ hfn hr (by omega) (by omega) hI hIx (hps x) (hassign _ x W) (fun W1 h => hbody _ pre x W1 h hv) hi hl hk
   · rintro e W2 ⟨⟨v, rfl⟩, ⟨xs, hs, hi, hl, hk⟩ | ⟨pre, hs, c, hi, hl, hk⟩⟩
     · have hpend : r.pending = none := by rw [hr]
       have hel := run_endLoop (P := P) hl (by rw [hr]; simp)
       rw [hpend] at hel
       exact ⟨none, _, hel, hdone _ xs _ (Nat.le_refl _) hs (hI.putObj _ hi (by omega) hl rfl) ((World.putObj_heap_other (by omega)).trans hk)⟩
     · exact ⟨some c, _, run_endLoop (P := P) hl (by simp), hstop _ c pre _ (Nat.le_refl _) hs ((hIx c).putObj _ hi (by omega) hl rfl) ((World.putObj_heap_other (by omega)).trans hk)⟩
end
open Go.Shelf
attribute [local go_sem] Oper.semAt_some
def BackAt (Bs : Nat) (A : Option Addr) (len cap : Nat) (l : List Nat) (k : Nat) (W : World) : Prop :=
 W.cell? ⟨Bs, 0, none⟩ = some (.slice A len cap) ∧ ∀ j, j + k + 1 = len → ∃ b off, A = some ⟨b, off, none⟩ ∧ W.cell? ⟨b, off + j, none⟩ = some (.int .u32 (l.getD j 0 : Nat))
def backOne (l : List Nat) (len k : Nat) : Nat × Nat := (len - 1 - k, l.getD (len - 1 - k) 0)
def backVals (x : Nat × Nat) : Array Value := #[Value.int .i64 (x.1 : Int), Value.int .u32 (x.2 : Int)]
set_option maxRecDepth 100000 in
set_option maxHeartbeats 2000000 in
theorem back_told (F : Fence) (n : Nat) (h1 : F.fn 129) (hro : F.round = none) (hn : 1 ≤ n) (Bs len cap : Nat) (A : Option Addr) (l : List Nat) (hreach : len ≤ 1000) (w0 : World) :
 SeqTold F n Try.prog 129 #[.pointer (some ⟨Bs, 0, none⟩)] backVals (fun pre W => BackAt Bs A len cap l pre.length W) (fun pre x => pre.length < len ∧ x = backOne l len pre.length) (fun xs => xs.length = len) (fun _ => True) w0 := fun lp J Jx W hW hG hY h0 => by
 refine callsIn_of_wp Try.func129 rfl h1 ?_ hro
 simp only [Try.ntmps129, List.size_toArray, List.length_cons, List.length_nil, Nat.reduceAdd, Nat.reduceSub, Array.replicate_succ, Array.replicate_zero, List.push_toArray, List.append_toArray, List.nil_append, List.cons_append]
 have hB0 := (hG _ _ h0).1
 gi_wp2
 gi_loopw [3] (fun i wr => ∃ pre : List (Nat × Nat), pre.length ≤ len ∧ i = .int .i64 ((len : Int) - 1 - pre.length) ∧ J pre wr)
  (fun i _ => (intOf i + 1).toNat)
 case atStart => exact ⟨[], Nat.zero_le _, by simp, h0⟩
 case round =>
  obtain ⟨pre, hk, rfl, hJs⟩ := hrel
  obtain ⟨hbx, hel⟩ := hG _ _ hJs
  by_cases hlt : pre.length < len
  · obtain ⟨j, hj⟩ : ∃ j, j + pre.length + 1 = len := ⟨len - 1 - pre.length, by omega⟩
    obtain ⟨b, off, rfl, hcx⟩ := hel j hj
    obtain ⟨fn, tmps, assign, body, hy, hR⟩ := hY _ (backOne l len pre.length) wr hJs ⟨hlt, rfl⟩
    have e1 : len - 1 - pre.length = j := by omega
    have e2 : (len : Int) - 1 - pre.length = (j : Int) := by omega
    unfold backVals backOne at hy
    rw [e1] at hy
    rw [e2]
    dsimp only at hy
    have hjl : j < len := by omega
    obtain ⟨d, hd⟩ : ∃ d, d = l.getD j 0 := ⟨_, rfl⟩
    rw [← hd] at hy hcx
    clear hel hd e1 e2 hG hY h0
    gi_wp2
    refine hR.mono ?_
    rintro e W3 (⟨rfl, hJ3⟩ | ⟨rfl, hJx3⟩)
    · gi_wp2
      go_roundw
      case rel => exact ⟨pre ++ [backOne l len pre.length], by simp <;> omega, by simp <;> omega, hJ3⟩
      case measure => simp [intOf] <;> omega
    · gi_wp2
      refine bodyPost_ret (results_none rfl _ _ _) rfl ?_
      exact ⟨⟨_, rfl⟩, .inr ⟨_, trivial, hJx3⟩⟩
  · have e2 : (len : Int) - 1 - pre.length = -1 := by omega
    rw [e2]
    gi_wp2
    go_end0
    exact ⟨⟨_, rfl⟩, .inl ⟨_, by omega, hJs⟩⟩
set_option maxHeartbeats 1000000 in
theorem back_in (F : Fence) (n : Nat) (h5 : F.fn 110) (hro : F.round = none) (a : Option Addr) (len cap : Nat) (w : World) :
 CallsIn F n Try.prog 110 #[.slice a len cap] w fun e w' => e = .returned (.func (.func 129) #[] #[.pointer (some ⟨w.heap.size, 0, none⟩)]) ∧ w' = w.alloc (.cells #[.slice a len cap] 108) := by
 refine callsIn_of_wp Try.func110 rfl h5 ?_ hro
 simp only [Try.ntmps110, List.size_toArray, List.length_cons, List.length_nil, Nat.reduceAdd, Nat.reduceSub, Array.replicate_succ, Array.replicate_zero, List.push_toArray, List.append_toArray, List.nil_append, List.cons_append]
 gi_wp2
 go_ret
 exact ⟨rfl, rfl⟩
end Go.Proofs.Ytcdfnlgimbecgaa
