/-
  twistlockref01: mul.
-/
import Derived.Test.YtcdfnlgimbecgaaMt30
namespace Go.Proofs.Ytcdfnlgimbecgaa
open Go.RowKit
theorem cf_trim (w : World) (args : Array Value) : (callFunc 127 args).run Try.prog w = .ok (.enter 127 args) w := by
 go_simp
theorem cf_scale (w : World) (args : Array Value) : (callFunc 143 args).run Try.prog w = .ok (.enter 143 args) w := by
 go_simp
theorem cf_add (w : World) (args : Array Value) : (callFunc 124 args).run Try.prog w = .ok (.enter 124 args) w := by
 go_simp
theorem zf_int : (Try.prog.info? 3).bind (·.zero) = some (.int .i64 0) := by kernel_rfl
theorem dep_app {ρ : Operand → Value} {d : Option Nat} {ty : TypeId} {pos : String} {aft : Array Edge} {gd : Option (Nat × Bool)} {s x : Operand} {t e bytes base T m cn dd : Nat} {X : Option Addr} {l : List Nat} {w : World} (hE : EI Try.prog t e 1 bytes) (hby : bytes = 8) (hs : NewR base T [.int .i64 (dd : Int)] (ρ s) w) (hx : ρ x = .slice X m cn) (hr : Rd w w.heap.size 1 X (nums .i64 l)) (hm : m = l.length) (hl : l.length ≤ 100000) :
 runsIn Try.prog ρ ⟨d, .call { callee := .builtin .append, args := #[s, x], argTypes := #[t, t] }, ty, pos, aft, gd⟩ w (Reads (dd :: l)) := by
 obtain ⟨g, h1, _, h3⟩ := hs
 obtain ⟨v', w', hrun, hf, hrd⟩ := run_append_one (ty := ty) (cn := cn) hE w h3 hr hm hl hby
 refine .inl ⟨v', w', ?_, hf, hrd⟩
 unfold execOp
 simp only [resolve, invoke, builtin, Sem.run_bind, Sem.run_pure, Result.andThen_ok, List.map_toArray, List.map_cons, List.map_nil, h1, hx, hrun]
theorem calls_trim {v : Value} {l : List Nat} {w : World} (h : Reads l v w) (hl : Digs B16 l) (hn : l.length ≤ 100000) :
 Calls Try.prog 127 #[v] w fun e w' => ∃ u, e = .returned u ∧ From w w' ∧ Reads (dig B16 (valB B16 l)) u w' := by
 obtain ⟨A, c, rfl, h2, h3⟩ := h
 refine (ref_trim A c _ l rfl w h2 hl (by omega) h3).mono ?_
 rintro e w' ⟨rfl, rfl⟩
 exact ⟨_, rfl, Below.refl _ _, A, c, rfl, rd_trim hB16 h2 hl, Nat.le_trans (dig_len_le hB16 (valB_lt _ hl)) h3⟩
theorem calls_scale {x y n ca : Nat} {A : Option Addr} {w : World} (hn : n = len16 x) (hA : Rd16 w A x) (hx : len16 x ≤ 1000) (hy : y < 65536) :
 Calls Try.prog 143 #[.slice A n ca, .int .i64 (y : Int)] w fun e w' => ∃ u, e = .returned u ∧ From w w' ∧ Reads (dig B16 (x * y)) u w' := by
 refine (ref_scale A ca x y n hn w hA hx hy).mono ?_
 rintro e w' ⟨A', c', rfl, h1, h2, h3⟩
 exact ⟨_, rfl, h3, A', c', rfl, h1, h2⟩
theorem calls_add {x y : Nat} {u v : Value} {w : World} (hu : Reads (dig B16 x) u w) (hv : Reads (dig B16 y) v w) (hx : len16 x ≤ 1000) (hy : len16 y ≤ 1000) :
 Calls Try.prog 124 #[u, v] w fun e w' => ∃ z, e = .returned z ∧ From w w' ∧ Reads (dig B16 (x + y)) z w' := by
 obtain ⟨A, c, rfl, h2, h3⟩ := hu
 obtain ⟨D, c2, rfl, h4, h5⟩ := hv
 refine (ref_add A D c c2 x y _ _ rfl rfl w h2 h4 hx hy).mono ?_
 rintro e w' ⟨A', c', rfl, h6, h7, h8⟩
 exact ⟨_, rfl, h8, A', c', rfl, h6, h7⟩
set_option maxRecDepth 100000 in
set_option maxHeartbeats 4000000 in
theorem ref_mul (A D : Option Addr) (ca cd : Nat) (x y n m : Nat) (hn : n = len16 x) (hm : m = len16 y) (w : World) (hA : Rd16 w A x) (hD : Rd16 w D y) (hx : len16 x ≤ 400) (hy : len16 y ≤ 400) :
 Calls Try.prog 122 #[.slice A n ca, .slice D m cd] w fun e w' => ∃ A' c', e = .returned (.slice A' (len16 (x * y)) c') ∧ Rd16 w' A' (x * y) ∧ len16 (x * y) ≤ c' ∧ From w w' := by
 have HA := Lib.hid hA
 have HD := Lib.hid hD
 have HX := Lib.hid (And.intro hn hm)
 have HS := Lib.hid (And.intro hx hy)
 have hm1 : m ≤ 400 := by omega
 have wN : IntKind.i64.wrap ((m : Int) - 1) = (m : Int) - 1 := wrap_i64 (by omega) (by omega)
 clear hA hD hn hm hx hy
 go_enter Try.func122, Try.ntmps122
 go_wp2
 go_loopw [5, 6] (fun v5 v6 wq => ∃ k : Nat, k ≤ m ∧ v6 = .int .i64 ((k : Int) - 1) ∧ Reads (dig B16 (x * valB B16 ((dig B16 y).drop k))) v5 wq ∧ From w wq) (fun _ v _ => (intOf v + 1).toNat)
 case atStart =>
  refine ⟨m, Nat.le_refl _, rfl, ⟨none, 0, ?_, ?_, ?_⟩, Below.refl _ w⟩
  all_goals rw [List.drop_eq_nil_of_le (by rw [HX.out.2]; exact Nat.le_refl _), valB_nil, Nat.mul_zero, dig_zero hB16]
  · rfl
  · intro k cs hk; cases hk
  · exact Nat.le_refl _
 case round =>
  obtain ⟨k, hk, rfl, ⟨A1, c1, rfl, hr1, hc1⟩, hf⟩ := hrel
  obtain ⟨z, hz⟩ : ∃ z, z = x * valB B16 ((dig B16 y).drop k) := ⟨_, rfl⟩
  rw [← hz] at hr1 hc1 ⊢
  obtain ⟨n1, hn1⟩ : ∃ n1, n1 = (dig B16 z).length := ⟨_, rfl⟩
  rw [← hn1] at hc1 ⊢
  have HR1 := Lib.hid hr1
  have HC1 := Lib.hid hc1
  have HN1 := Lib.hid hn1
  have HF := Lib.hid hf
  clear hr1 hc1 hn1 hf wN
  by_cases hk0 : k = 0
  · subst hk0
    have HZ : Hid (z = x * y) := by unfold Hid; rw [hz, List.drop_zero, val_dig hB16]
    have hlen : len16 (x * y) ≤ 800 := Nat.le_trans (len16_mul x y) (by have := HS.out; omega)
    have HL := Lib.hid hlen
    have e0 : (((0 : Nat) : Int) - 1) = -1 := rfl
    rw [e0]
    clear hz hlen
    go_wp2_with (go_at_call 127; refine (ref_trim _ _ _ (dig B16 z) HN1.out wr HR1.out (Digs.dig hB16 z) (by have h1 := HL.out; rw [← HZ.out] at h1; exact Nat.le_trans h1 (by decide)) (by rw [← HN1.out]; exact HC1.out)).mono ?_; rintro e w5 ⟨rfl, rfl⟩)
    go_ret
    refine ⟨A1, c1, by rw [val_dig hB16, HZ.out]; rfl, ?_, ?_, HF.out⟩
    · rw [← HZ.out]; exact HR1.out
    · rw [← HZ.out]; have h1 := HC1.out; rw [HN1.out] at h1; exact h1
  · obtain ⟨j, rfl⟩ : ∃ j, k = j + 1 := ⟨k - 1, by omega⟩
    have e1 : (((j + 1 : Nat) : Int) - 1) = (j : Int) := by omega
    rw [e1]
    clear e1 hk0
    have hjy : j < (dig B16 y).length := by show j < len16 y; rw [← HX.out.2]; omega
    obtain ⟨b, off, rfl, _, hl⟩ := num_ld Try.underlying3 rfl (HD.out.from HF.out) hjy
    have HL := Lib.hid hl
    obtain ⟨d, hd⟩ : ∃ d, d = (dig B16 y)[j] := ⟨_, rfl⟩
    rw [← hd] at HL
    have hdB : d < 65536 := by rw [hd]; exact (Digs.dig hB16 y).get hjy
    have HST : Hid (B16 * z + x * d = x * valB B16 ((dig B16 y).drop j)) := by
     unfold Hid
     rw [valB_drop_getD B16 hjy, ← hd, hz, Nat.mul_add, Nat.add_comm]
     congr 1
     exact Nat.mul_left_comm _ _ _
    have hle : B16 * z + x * d ≤ x * y := by
     rw [HST.out]
     refine Nat.mul_le_mul_left x ?_
     have h1 := valB_split B16 (dig B16 y) j
     rw [val_dig hB16] at h1
     have h2 : 1 ≤ B16 ^ ((dig B16 y).take j).length := Nat.one_le_pow _ _ (by decide)
     have h3 := Nat.mul_le_mul_right (valB B16 ((dig B16 y).drop j)) h2
     omega
    have hxy : len16 (x * y) ≤ 800 := Nat.le_trans (len16_mul x y) (by have := HS.out; omega)
    have HB1 : Hid (len16 (B16 * z) ≤ 1000) := Nat.le_trans (len16_mono (b := x * y) (by omega)) (by omega)
    have HB2 : Hid (len16 (x * d) ≤ 1000) := Nat.le_trans (len16_mono (b := x * y) (by omega)) (by omega)
    have HB3 : Hid ((dig B16 z).length ≤ 1000) := Nat.le_trans (len16_mono (a := z) (b := x * y) (by have h1 : z ≤ B16 * z := Nat.le_mul_of_pos_left z (by decide); omega)) (by omega)
    have hjm : (j : Int) < (m : Int) := by omega
    have wJ : IntKind.i64.wrap ((j : Int) - 1) = (j : Int) - 1 := wrap_i64 (by omega) (by omega)
    have hv0 : valB B16 (0 :: dig B16 z) = B16 * z := by rw [valB_cons, val_dig hB16, Nat.zero_add]
    have HD0 : Hid (Digs B16 (0 :: dig B16 z)) := by
     intro q hq
     rcases List.mem_cons.1 hq with h1 | h1
     · subst h1; decide
     · exact Digs.dig hB16 z q h1
    have HV0 := Lib.hid hv0
    clear hz hd hl hle hxy hv0 hjy
    go_wp2
    refine wp_region_run 11 [.new (NewR wr.heap.size 3 [.int .i64 ((0 : Nat) : Int)]), .val (Value.slice A1 n1 c1), .dep (Reads (0 :: dig B16 z)), .dep (Reads (dig B16 (B16 * z))), .val (Value.slice A n ca), .val (Value.slice (some ⟨b, off, none⟩) m cd), .val (Value.int .i64 ((j : Int))), .val (Value.pointer (some ⟨b, off + j, none⟩)), .val (Value.int .i64 ((d : Int))), .new (Reads (dig B16 (x * d))), .dep (Reads (dig B16 (B16 * z + x * d)))] (by kernel_rfl) (by kernel_rfl) (Nat.le_of_ble_eq_true (by kernel_rfl)) (by kernel_rfl) (by kernel_rfl) ?_ ?_ ?_
    · exact ⟨NewR.stays, Reads.stays, Reads.stays, Reads.stays, Reads.stays, trivial⟩
    · exact ⟨(fun _ hb => new_slice1 (u := .int .i64 0) rfl el42 zf_int rfl rfl rfl (by decide) (by decide) hb.size), (fun _ _ => ok_move rfl), (fun ρ w hb h => dep_app int_ei rfl (h (.tmp 14) (by simp [Op.operands, Call.operands])) (h (.tmp 15) (by simp [Op.operands, Call.operands])) (HR1.out.from hb) HN1.out (Nat.le_trans HB3.out (by decide))), (fun ρ w hb h => .inr (ok_call (h (.func 127) (by simp [Op.operands, Call.operands])) rfl (cf_trim _ _) (HV0.out ▸ calls_trim (h (.tmp 16) (by simp [Op.operands, Call.operands])) HD0.out (by rw [List.length_cons]; have := HB3.out; omega)))), (fun _ _ => ok_move rfl), (fun _ _ => ok_move rfl), (fun _ _ => ok_move rfl), (fun _ _ => ok_index (k := j) rfl rfl el42 (hjm) (ptr1 _ _ _)), (fun w hb => ok_load rfl ((HL.out) w hb)), (fun w hb => .inr (ok_call rfl rfl (cf_scale _ _) (calls_scale HX.out.1 (HA.out.from (HF.out.trans (hb.mono HF.out.size))) (by have := HS.out; omega) hdB))), (fun ρ w hb h => .inr (ok_call (h (.func 124) (by simp [Op.operands, Call.operands])) rfl (cf_add _ _) (calls_add (h (.tmp 17) (by simp [Op.operands, Call.operands])) (h (.tmp 23) (by simp [Op.operands, Call.operands])) HB1.out HB2.out))), trivial⟩
    intro w7 hb7
    simp only [contS, List.take_succ_cons, List.take_zero, List.drop_succ_cons, List.drop_zero]
    intro u14 hu14 u16 hu16 u17 hu17 u23 hu23 u24 hu24
    simp only [Act.put, List.setIfInBounds_toArray, List.set_cons_succ, List.set_cons_zero]
    have HF7 := Lib.hid (HF.out.trans (hb7.mono HF.out.size))
    have HU := Lib.hid hu24
    clear HF hb7 hu24
    go_wp2
    go_roundw
    case rel => exact ⟨j, by omega, rfl, by rw [← HST.out]; exact HU.out, HF7.out⟩
    case measure => simp [intOf]
end Go.Proofs.Ytcdfnlgimbecgaa
namespace Go.Proofs.Ytcdfnlgimbecgaa
theorem rdiv_step {B : Nat} {a o : List Nat} {b R i : Nat} (hi : i < a.length) (ho : i < o.length) (h : valB B (a.drop (i + 1)) = valB B (o.drop (i + 1)) * b + R) :
 valB B (a.drop i) = valB B ((o.set i ((a[i] + B * R) / b)).drop i) * b + (a[i] + B * R) % b := by
 rw [valB_drop_getD B hi, valB_drop_set B ho, h]
 have h1 := Nat.div_add_mod (a[i] + B * R) b
 generalize a[i] = x at *
 generalize valB B (o.drop (i + 1)) = V at *
 generalize (x + B * R) / b = q at *
 generalize (x + B * R) % b = r at *
 grind
theorem rdiv_digit {B b R x : Nat} (hR : R < b) (hx : x < B) : (x + B * R) / b < B := by
 rw [Nat.div_lt_iff_lt_mul (by omega)]
 have h1 : B * R + B ≤ B * b := by
  have := Nat.mul_le_mul_left B (show R + 1 ≤ b by omega)
  rw [Nat.mul_add, Nat.mul_one] at this
  exact this
 omega
theorem rdiv_end {B a b R : Nat} {o : List Nat} (hR : R < b) (h : a = valB B o * b + R) : valB B o = a / b ∧ R = a % b := by
 have hb : 0 < b := by omega
 subst h
 constructor
 · rw [Nat.add_comm, Nat.add_mul_div_right _ _ hb, Nat.div_eq_of_lt hR, Nat.zero_add]
 · rw [Nat.add_comm, Nat.add_mul_mod_self_right, Nat.mod_eq_of_lt hR]
theorem top_digit {b n : Nat} (hn : n + 1 = len16 b) : 0 < (dig B16 b).getD n 0 ∧ b = valB B16 ((dig B16 b).take n) + B16 ^ n * (dig B16 b).getD n 0 ∧ valB B16 ((dig B16 b).take n) < B16 ^ n := by
 have hlen : (dig B16 b).length = n + 1 := hn.symm
 have hnl : n < (dig B16 b).length := by omega
 refine ⟨?_, ?_, ?_⟩
 · refine Nat.pos_of_ne_zero (dig_getLast hB16 (n := b) ?_)
   rw [List.getLast?_eq_getElem?, hlen, Nat.add_sub_cancel, List.getD_eq_getElem?_getD, List.getElem?_eq_getElem hnl]
   rfl
 · have h1 := valB_take_getD B16 (dig B16 b) n
   rw [List.take_of_length_le (by omega), val_dig hB16] at h1
   exact h1
 · have h1 := valB_lt ((dig B16 b).take n) ((Digs.dig hB16 b).take n)
   rwa [List.length_take, hlen, Nat.min_eq_left (by omega)] at h1
theorem split_at (W n : Nat) : W = valB B16 ((dig B16 W).take n) + B16 ^ n * valB B16 ((dig B16 W).drop n) ∧ valB B16 ((dig B16 W).take n) < B16 ^ n := by
 have h1 := valB_split B16 (dig B16 W) n
 have h2 := valB_lt ((dig B16 W).take n) ((Digs.dig hB16 W).take n)
 rw [val_dig hB16] at h1
 by_cases h : n ≤ (dig B16 W).length
 · rw [List.length_take, Nat.min_eq_left h] at h1 h2
   exact ⟨h1, h2⟩
 · rw [List.drop_eq_nil_of_le (by omega), valB_nil, Nat.mul_zero] at h1 ⊢
   exact ⟨h1, Nat.lt_of_lt_of_le h2 (Nat.pow_le_pow_right (by decide) (by rw [List.length_take]; omega))⟩
theorem rdiv_guess {W b n : Nat} (hn : n + 1 = len16 b) :
 valB B16 ((dig B16 W).drop n) / ((dig B16 b).getD n 0 + 1) ≤ W / b ∧ W / b ≤ valB B16 ((dig B16 W).drop n) / (dig B16 b).getD n 0 := by
 obtain ⟨h1, h2, h3⟩ := top_digit hn
 obtain ⟨h4, h5⟩ := split_at W n
 have hp : 0 < B16 ^ n := Nat.pow_pos (by decide)
 have hb : 0 < b := by
  rw [h2]
  have := Nat.mul_pos hp h1
  omega
 refine ⟨guess_le (B := B16) (n := n) ?_ h4 hb, guess_ge (by decide) h2 h4 h5 h1⟩
 rw [Nat.mul_add, Nat.mul_one]
 omega
theorem rdiv_top {W b n : Nat} (hn : n + 1 = len16 b) (h : W < B16 * b) : valB B16 ((dig B16 W).drop n) < 4294967296 := by
 obtain ⟨h4, _⟩ := split_at W n
 have hb := lt_of_dig_len hB16 (n := b) (k := n + 1) (Nat.le_of_eq hn.symm)
 have h1 : B16 ^ n * valB B16 ((dig B16 W).drop n) < B16 ^ n * 4294967296 := by
  have e : B16 ^ n * 4294967296 = B16 * B16 ^ (n + 1) := by
   rw [Nat.pow_succ]
   have : (4294967296 : Nat) = B16 * B16 := rfl
   rw [this]
   grind
  have := Nat.mul_lt_mul_of_pos_left hb (show 0 < B16 by decide)
  omega
 exact Nat.lt_of_mul_lt_mul_left h1
theorem halve_lt {q b W mid : Nat} (hb : 0 < b) (hq : q = W / b) (h : W < b * mid) : q ≤ mid - 1 ∧ 0 < mid := by
 have h1 : q < mid := by rw [hq, Nat.div_lt_iff_lt_mul hb, Nat.mul_comm]; exact h
 omega
theorem halve_ge {q b W mid : Nat} (hb : 0 < b) (hq : q = W / b) (h : ¬ W < b * mid) : mid ≤ q := by
 rw [hq, Nat.le_div_iff_mul_le hb, Nat.mul_comm]
 omega
open Go.RowKit
theorem calls_less {x y : Nat} {u v : Value} {w : World} (hu : Reads (dig B16 x) u w) (hv : Reads (dig B16 y) v w) (hx : len16 x ≤ 1000000) (hy : len16 y ≤ 1000000) :
 Calls Try.prog 125 #[u, v] w fun e w' => e = .returned (.bool (decide (x < y))) ∧ From w w' := by
 obtain ⟨A, c, rfl, h2, _⟩ := hu
 obtain ⟨D, c2, rfl, h4, _⟩ := hv
 exact ref_less A D c c2 x y _ _ rfl rfl w h2 h4 hx hy
theorem calls_sub {x y : Nat} {u v : Value} {w : World} (hu : Reads (dig B16 x) u w) (hv : Reads (dig B16 y) v w) (hx : len16 x ≤ 1000) (hyx : y ≤ x) :
 Calls Try.prog 126 #[u, v] w fun e w' => ∃ z, e = .returned z ∧ From w w' ∧ Reads (dig B16 (x - y)) z w' := by
 obtain ⟨A, c, rfl, h2, h3⟩ := hu
 obtain ⟨D, c2, rfl, h4, h5⟩ := hv
 refine (ref_sub A D c c2 x y _ _ rfl rfl w h2 h4 hx hyx).mono ?_
 rintro e w' ⟨A', c', rfl, h6, h7, h8⟩
 exact ⟨_, rfl, h8, A', c', rfl, h6, h7⟩
set_option maxRecDepth 100000 in
set_option maxHeartbeats 4000000 in
theorem ref_div_less {x y : Nat} {u v : Value} {w : World} (hu : Reads (dig B16 x) u w) (hv : Reads (dig B16 y) v w) (hx : len16 x ≤ 400) (hy : len16 y ≤ 400) (hxy : x < y) :
 Calls Try.prog 128 #[u, v] w fun e w' => ∃ q r, e = .returned (.tuple #[q, r]) ∧ From w w' ∧ Reads (dig B16 (x / y)) q w' ∧ Reads (dig B16 (x % y)) r w' := by
 have hT : Hid (decide (x < y) = true) := decide_eq_true hxy
 have HU := Lib.hid hu
 have HV := Lib.hid hv
 have HS := Lib.hid (And.intro hx hy)
 have HD := Lib.hid (And.intro (Nat.div_eq_of_lt hxy) (Nat.mod_eq_of_lt hxy))
 clear hu hv hx hy hxy
 go_enter Try.func128, Try.ntmps128
 go_wp2_with (go_at_call 125; refine (calls_less HU.out HV.out (Nat.le_trans HS.out.1 (by decide)) (Nat.le_trans HS.out.2 (by decide))).mono ?_; rintro e w1 ⟨rfl, hb1⟩; rw [hT.out]; have HB1 := Lib.hid hb1; clear hb1)
 go_ret2
 refine ⟨.slice none 0 0, u, rfl, HB1.out, ?_, ?_⟩
 · rw [HD.out.1, dig_zero hB16]
   exact ⟨none, 0, rfl, fun k cs hk => (by cases hk), Nat.le_refl _⟩
 · rw [HD.out.2]
   exact Reads.stays _ _ _ HU.out HB1.out
end Go.Proofs.Ytcdfnlgimbecgaa
