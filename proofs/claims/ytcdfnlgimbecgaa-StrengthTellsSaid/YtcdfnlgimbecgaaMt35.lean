/-
  twistlockref01: size, Ratio, Of.
-/
import Derived.Test.YtcdfnlgimbecgaaMt34
namespace Go.Proofs.Ytcdfnlgimbecgaa
open Go.RowKit
theorem calls_whole (n : Nat) (hn : n < 18446744073709551616) (w : World) :
 Calls Try.prog 166 #[.int .u64 n] w fun e w' => ∃ z, e = .returned z ∧ From w w' ∧ Reads (dig B16 n) z w' := by
 refine (ref_whole n hn w).mono ?_
 rintro e w' ⟨A', c', rfl, h1, h2, h3⟩
 exact ⟨_, rfl, h3, A', c', rfl, h1, h2⟩
set_option maxRecDepth 100000 in
set_option maxHeartbeats 1000000 in
theorem ref_size (n : Int) (h1 : -9223372036854775808 ≤ n) (h2 : n < 9223372036854775808) (w : World) :
 Calls Try.prog 142 #[.int .i64 n] w fun e w' => ∃ z, e = .returned z ∧ From w w' ∧ Reads (dig B16 n.natAbs) z w' := by
 obtain ⟨m, hm⟩ : ∃ m, m = n.natAbs := ⟨_, rfl⟩
 rw [← hm]
 have HW := Lib.hid (calls_whole m (by omega) w)
 by_cases hn : n < 0
 · obtain ⟨p, hp⟩ : ∃ p : Nat, (p : Int) = -(n + 1) := ⟨(-(n + 1)).toNat, by omega⟩
   obtain ⟨n1, hn1⟩ : ∃ n1, n1 = n + 1 := ⟨_, rfl⟩
   have w1 : IntKind.i64.wrap (n + 1) = n1 := by rw [wrap_i64 (by omega) (by omega)]; exact hn1.symm
   have w2 : IntKind.i64.wrap (-n1) = (p : Int) := by rw [wrap_i64 (by omega) (by omega)]; omega
   have w3 : IntKind.u64.wrap (p : Int) = (p : Int) := wrap_u64 (by omega) (by omega)
   have w4 : IntKind.u64.wrap ((p : Int) + 1) = (m : Int) := by rw [wrap_u64 (by omega) (by omega)]; omega
   clear hp hn1 hm h1 h2
   go_enter Try.func142, Try.ntmps142
   go_wp2_with (go_at_call 166; go_loud (refine (HW.out).mono ?_); rintro e w5 ⟨z, rfl, hb, hz⟩)
   go_ret
   exact ⟨z, rfl, hb, hz⟩
 · have w3 : IntKind.u64.wrap n = (m : Int) := by rw [wrap_u64 (by omega) (by omega)]; omega
   clear hm h1 h2
   go_enter Try.func142, Try.ntmps142
   go_wp2_with (go_at_call 166; go_loud (refine (HW.out).mono ?_); rintro e w5 ⟨z, rfl, hb, hz⟩)
   go_ret
   exact ⟨z, rfl, hb, hz⟩
set_option maxRecDepth 100000 in
set_option maxHeartbeats 1000000 in
theorem ref_Ratio (a b : Int) (ha : -9223372036854775808 ≤ a) (ha2 : a < 9223372036854775808) (hb : 0 < b) (hb2 : b < 9223372036854775808) (w : World) :
 Calls Try.prog 120 #[.int .i64 a, .int .i64 b] w (FitPost w (ratioL a b)) := by
 have HM0 := Lib.hid ((Mem.nil w).alloc 91 zeroF.cells)
 have hl : ∀ n : Nat, n < 18446744073709551616 → len16 n ≤ 4 := fun n h => dig_len_le hB16 (by have e : B16 ^ 4 = 18446744073709551616 := rfl; omega)
 have HA := Lib.hid (ref_size a ha ha2)
 have HB := Lib.hid (ref_size b (by omega) hb2)
 have HS := Lib.hid (And.intro ha (And.intro ha2 (And.intro (show 0 < b.natAbs by omega) (And.intro (hl a.natAbs (by omega)) (hl b.natAbs (by omega))))))
 have HR : Hid (ratioL a b = fitL (decide (a < 0)) a.natAbs b.natAbs) := by
  unfold Hid ratioL
  rw [if_neg (by omega), decide_eq_false (show ¬ b < 0 by omega)]
  simp
 have hb0 : ¬ b = 0 := by omega
 have hb3 : ¬ b < 0 := by omega
 have hbe : (b == 0) = false := by simp; omega
 clear ha ha2 hb2 hl
 by_cases hn : a < 0
 · have HR2 := HR.out
   rw [decide_eq_true hn] at HR2
   have HR3 := Lib.hid HR2
   clear HR2 HR
   have hn2 : ¬ 0 < a := by omega
   go_enter Try.func120, Try.ntmps120
   go_wp2_with (first
    | (go_at_call 142; refine (HA.out _).mono ?_; rintro e w3 ⟨x, rfl, hb, hx⟩; have HM3 := Lib.hid (HM0.out.call hb); have HX3 := Lib.hid hx; clear hb hx HA)
    | (go_at_call 142; go_loud (refine (HB.out _).mono ?_); rintro e w4 ⟨y, rfl, hb, hy⟩; have HM4 := Lib.hid (HM3.out.call hb); have HX4 := Lib.hid (Reads.stays _ _ _ HX3.out hb); have HY4 := Lib.hid hy; clear hb hy HB HM3 HX3)
    | (go_at_call 123; go_loud (refine (ref_make0 true HX4.out HY4.out (Nat.le_trans HS.out.2.2.2.1 (by decide)) (Nat.le_trans HS.out.2.2.2.2 (by decide)) HS.out.2.2.1).mono ?_); rintro e w5 ⟨rfl, hb⟩; have HM5 := Lib.hid (HM4.out.call hb); clear hb)
    | ((with_reducible refine g_st 91 ?_); go_loud (refine wpList_stB (cs' := FracV.cells _) rfl _ _ rfl HM5.out 0 rfl rfl rfl f01_size rfl (FracV.cells_len _) (FracV.cells_len _) (FracV.ones _) ?_); intro w6 h6))
   refine bodyPost_ret (results_box2 rfl _ rfl (h6.ldb f01_row (FracV.cells_len _) (i := 0) rfl _ (Below.refl _ _))) rfl ⟨?_, h6.from_⟩
   rw [HR3.out]
   rfl
 · by_cases hp : 0 < a
   · have HR2 := HR.out
     rw [decide_eq_false hn] at HR2
     have HR3 := Lib.hid HR2
     clear HR2 HR
     go_enter Try.func120, Try.ntmps120
     go_wp2_with (first
      | (go_at_call 142; refine (HA.out _).mono ?_; rintro e w3 ⟨x, rfl, hb, hx⟩; have HM3 := Lib.hid (HM0.out.call hb); have HX3 := Lib.hid hx; clear hb hx HA)
      | (go_at_call 142; go_loud (refine (HB.out _).mono ?_); rintro e w4 ⟨y, rfl, hb, hy⟩; have HM4 := Lib.hid (HM3.out.call hb); have HX4 := Lib.hid (Reads.stays _ _ _ HX3.out hb); have HY4 := Lib.hid hy; clear hb hy HB HM3 HX3)
      | (go_at_call 123; go_loud (refine (ref_make0 false HX4.out HY4.out (Nat.le_trans HS.out.2.2.2.1 (by decide)) (Nat.le_trans HS.out.2.2.2.2 (by decide)) HS.out.2.2.1).mono ?_); rintro e w5 ⟨rfl, hb⟩; have HM5 := Lib.hid (HM4.out.call hb); clear hb)
      | ((with_reducible refine g_st 91 ?_); go_loud (refine wpList_stB (cs' := FracV.cells _) rfl _ _ rfl HM5.out 0 rfl rfl rfl f01_size rfl (FracV.cells_len _) (FracV.cells_len _) (FracV.ones _) ?_); intro w6 h6))
     refine bodyPost_ret (results_box2 rfl _ rfl (h6.ldb f01_row (FracV.cells_len _) (i := 0) rfl _ (Below.refl _ _))) rfl ⟨?_, h6.from_⟩
     rw [HR3.out]
     rfl
   · obtain rfl : a = 0 := by omega
     have HR2 := HR.out
     rw [decide_eq_false hn] at HR2
     have HR3 := Lib.hid HR2
     clear HR2 HR
     go_enter Try.func120, Try.ntmps120
     go_wp2_with (first
      | (go_at_call 142; refine (HA.out _).mono ?_; rintro e w3 ⟨x, rfl, hb, hx⟩; have HM3 := Lib.hid (HM0.out.call hb); have HX3 := Lib.hid hx; clear hb hx HA)
      | (go_at_call 142; go_loud (refine (HB.out _).mono ?_); rintro e w4 ⟨y, rfl, hb, hy⟩; have HM4 := Lib.hid (HM3.out.call hb); have HX4 := Lib.hid (Reads.stays _ _ _ HX3.out hb); have HY4 := Lib.hid hy; clear hb hy HB HM3 HX3)
      | (go_at_call 123; go_loud (refine (ref_make0 false HX4.out HY4.out (Nat.le_trans HS.out.2.2.2.1 (by decide)) (Nat.le_trans HS.out.2.2.2.2 (by decide)) HS.out.2.2.1).mono ?_); rintro e w5 ⟨rfl, hb⟩; have HM5 := Lib.hid (HM4.out.call hb); clear hb)
      | ((with_reducible refine g_st 91 ?_); go_loud (refine wpList_stB (cs' := FracV.cells _) rfl _ _ rfl HM5.out 0 rfl rfl rfl f01_size rfl (FracV.cells_len _) (FracV.cells_len _) (FracV.ones _) ?_); intro w6 h6))
     refine bodyPost_ret (results_box2 rfl _ rfl (h6.ldb f01_row (FracV.cells_len _) (i := 0) rfl _ (Below.refl _ _))) rfl ⟨?_, h6.from_⟩
     rw [HR3.out]
     rfl
set_option maxRecDepth 100000 in
set_option maxHeartbeats 1000000 in
theorem ref_Of (n : Int) (h1 : -9223372036854775808 ≤ n) (h2 : n < 9223372036854775808) (w : World) :
 Calls Try.prog 102 #[.int .i64 n] w fun e w' => e = .returned (ofL n).val ∧ From w w' := by
 have HM0 := Lib.hid ((Mem.nil w).alloc 91 zeroF.cells)
 have hr := fun w1 => ref_Ratio n 1 h1 h2 (by decide) (by decide) w1
 rw [ratioL_one n (by have : (9223372036854775808 : Nat) < top256 := by decide
                      omega)] at hr
 have HR := Lib.hid hr
 clear hr h1 h2
 go_enter Try.func102, Try.ntmps102
 go_wp2_with (first
  | (go_at_call 120; go_loud (refine (HR.out _).mono ?_); rintro e w3 ⟨rfl, hb⟩; have HM3 := Lib.hid ((HM0.out.call hb).alloc 91 zeroF.cells); clear hb)
  | ((with_reducible refine g_st 91 ?_); refine wpList_stB (cs' := FracV.cells (ofL n)) rfl _ _ rfl HM3.out 0 rfl rfl rfl f01_size rfl (FracV.cells_len _) (FracV.cells_len _) (FracV.ones _) ?_; intro w4 h4; have HM4 := Lib.hid h4; clear h4 HM3)
  | ((with_reducible refine g_ld 91 ?_); refine wpList_ld rfl _ _ rfl _ rfl _ (HM4.out.ldb f01_row (FracV.cells_len _) (i := 0) rfl _ (Below.refl _ _)) ?_)
  | ((with_reducible refine g_st 91 ?_); go_loud (refine wpList_stB (cs' := FracV.cells (ofL n)) rfl _ _ rfl HM4.out 1 rfl rfl rfl f01_size rfl (FracV.cells_len _) (FracV.cells_len _) (FracV.ones _) ?_); intro w6 h6))
 refine bodyPost_ret (results_box1 rfl _ rfl (h6.ldb f01_row (FracV.cells_len _) (i := 1) rfl _ (Below.refl _ _))) rfl ⟨rfl, h6.from_⟩
theorem cf_mul01 (w : World) (args : Array Value) : (callFunc 122 args).run Try.prog w = .ok (.enter 122 args) w := by
 go_simp
theorem cf_sub01 (w : World) (args : Array Value) : (callFunc 126 args).run Try.prog w = .ok (.enter 126 args) w := by
 go_simp
theorem cf_make0 (w : World) (args : Array Value) : (callFunc 123 args).run Try.prog w = .ok (.enter 123 args) w := by
 go_simp
theorem calls_mul {x y : Nat} {u v : Value} {w : World} (hu : Reads (dig B16 x) u w) (hv : Reads (dig B16 y) v w) (hx : len16 x ≤ 400) (hy : len16 y ≤ 400) :
 Calls Try.prog 122 #[u, v] w fun e w' => ∃ z, e = .returned z ∧ From w w' ∧ Reads (dig B16 (x * y)) z w' := by
 obtain ⟨A, c, rfl, h2, h3⟩ := hu
 obtain ⟨D, c2, rfl, h4, h5⟩ := hv
 refine (ref_mul A D c c2 x y _ _ rfl rfl w h2 h4 hx hy).mono ?_
 rintro e w' ⟨A', c', rfl, h6, h7, h8⟩
 exact ⟨_, rfl, h8, A', c', rfl, h6, h7⟩
def IsV (v0 v : Value) (_ : World) : Prop := v = v0
theorem IsV.stays {v0 : Value} : ∀ v w w', IsV v0 v w → From w w' → IsV v0 v w' := fun _ _ _ h _ => h
theorem calls_make0F {neg : Bool} {x y : Nat} {b u v : Value} {w : World} (hb : b = .bool neg) (hu : Reads (dig B16 x) u w) (hv : Reads (dig B16 y) v w) (hx : len16 x ≤ 400) (hy : len16 y ≤ 400) (hy0 : 0 < y) :
 Calls Try.prog 123 #[b, u, v] w fun e w' => ∃ z, e = .returned z ∧ From w w' ∧ IsV (.tuple #[(fitL neg x y).1.val, .int .i64 (fitL neg x y).2]) z w' := by
 subst hb
 refine (ref_make0 neg hu hv hx hy hy0).mono ?_
 rintro e w' ⟨rfl, h⟩
 exact ⟨_, rfl, h, rfl⟩
theorem dep_extract {P : Program} {ρ : Operand → Value} {d : Option Nat} {ty : TypeId} {pos : String} {aft : Array Edge} {gd : Option (Nat × Bool)} {w : World} {i : Nat} {x : Operand} {vs : Array Value} {v : Value} (hx : IsV (.tuple vs) (ρ x) w) (hv : vs[i]? = some v) : runsIn P ρ ⟨d, .extract x i, ty, pos, aft, gd⟩ w (IsV v) :=
 .inl ⟨v, w, ok_extract hx hv, Below.refl _ _, rfl⟩
theorem Reads.at {l : List Nat} {v v' : Value} {w : World} (h : Reads l v w) (e : v' = v) : Reads l v' w := e ▸ h
theorem bool_neq (p q : Bool) (w : World) : (binOp .neq 4 (.bool p) (.bool q)).run Try.prog w = .ok (.bool (p != q)) w := by
 cases p <;> cases q <;> go_simp
theorem ok_neqb {ρ : Operand → Value} {d : Option Nat} {ty : TypeId} {pos : String} {aft : Array Edge} {gd : Option (Nat × Bool)} {v : Value} {w : World} {p q : Bool} {x y : Operand} {t' : TypeId} (hx : ρ x = .bool p) (hy : ρ y = .bool q) (hv : v = .bool (p != q)) : (execOp ρ ⟨d, .binOp .neq 4 x y t', ty, pos, aft, gd⟩).run Try.prog w = .ok (.value v) w := by
 subst hv
 have h := bool_neq p q w
 have hg : (eqGuard .neq 4 x y (.bool p) (.bool q)).run Try.prog w = .ok () w := rfl
 unfold execOp
 simp only [hx, hy, Sem.run_bind, Sem.run_pure, Result.andThen_ok, hg, h]
def neg01 (f : FracV) : FracV := if f.num = 0 then f else ⟨!f.neg, f.num, f.den⟩
theorem neg01_right (f : FracV) : (neg01 f).right = f.right := by
 unfold neg01
 split
 · rfl
 · rename_i h
   unfold FracV.right
   simp [h]
theorem neg01_fits {f : FracV} (h : f.fits) : (neg01 f).fits := by
 unfold neg01
 split
 · exact h
 · exact h
theorem neg01_negL {f : FracV} (h : f.right = true) : neg01 f = negL f := by
 cases f with
 | mk n x y =>
  unfold neg01 negL
  unfold FracV.right at h
  by_cases hx : x = 0
  · subst hx
    cases n
    · simp
    · simp at h
  · simp [hx]
set_option maxRecDepth 100000 in
set_option maxHeartbeats 1000000 in
theorem ref_Neg (f : FracV) (hf : f.fits) (w : World) : Calls Try.prog 121 #[f.val] w fun e w' => e = .returned (neg01 f).val ∧ From w w' := by
 have HD1 := Lib.hid (ref_digits f.num hf.1)
 have HM0 : Hid (Mem w ((w.alloc (.cells f.cells.toArray 91)).alloc (.cells zeroF.cells.toArray 91)) [.box (w.heap.size + 1) 91 zeroF.cells, .box w.heap.size 91 f.cells]) := by
  have h := ((Mem.nil w).alloc 91 f.cells).alloc 91 zeroF.cells
  have e : (w.alloc (.cells f.cells.toArray 91)).heap.size = w.heap.size + 1 := by simp
  rw [e] at h
  exact h
 obtain ⟨n1, hn1⟩ : ∃ n1, n1 = (dig B16 f.num).length := ⟨_, rfl⟩
 have HL := Lib.hid hn1
 unfold FracV.val
 by_cases h0 : f.num = 0
 · have hz : n1 = 0 := by rw [hn1]; exact len16_zero.2 h0
   have HX : Hid (neg01 f = f) := if_pos h0
   clear h0 hn1
   subst hz
   go_enter Try.func121, Try.ntmps121
   go_wp2_with (first
    | ((with_reducible refine g_ld 35 ?_); refine wpList_ld rfl _ _ rfl _ rfl _ (HM0.out.ldp u8_row (by rw [u8s_len, pad_len]) (i := 1) rfl (cells_num f) _ (Below.refl _ _)) ?_)
    | (go_at_call 106; go_loud (refine (HD1.out _).mono ?_); rintro e w3 ⟨z, rfl, hb, A, c, rfl, _, _⟩; rw [← HL.out]; have HM3 := Lib.hid (HM0.out.call hb); clear hb)
    | ((with_reducible refine g_ld 91 ?_); refine wpList_ld rfl _ _ rfl _ rfl _ (HM3.out.ldb f01_row (FracV.cells_len _) (i := 1) rfl _ (Below.refl _ _)) ?_)
    | ((with_reducible refine g_st 91 ?_); go_loud (refine wpList_stB (cs' := FracV.cells f) rfl _ _ rfl HM3.out 0 rfl rfl rfl f01_size rfl (FracV.cells_len _) (FracV.cells_len _) (FracV.ones _) ?_); intro w6 h6))
   refine bodyPost_ret (results_box1 rfl _ rfl (h6.ldb f01_row (FracV.cells_len _) (i := 0) rfl _ (Below.refl _ _))) rfl ⟨?_, h6.from_⟩
   rw [HX.out]
 · have hz : n1 ≠ 0 := by rw [hn1]; exact fun h => h0 (len16_zero.1 h)
   have hz2 : (0 : Int) < (n1 : Int) := by omega
   have hz3 : 0 < n1 := by omega
   have HX : Hid (neg01 f = ⟨!f.neg, f.num, f.den⟩) := if_neg h0
   clear h0 hn1
   go_enter Try.func121, Try.ntmps121
   go_wp2_with (first
    | ((with_reducible refine g_ld 35 ?_); refine wpList_ld rfl _ _ rfl _ rfl _ (HM0.out.ldp u8_row (by rw [u8s_len, pad_len]) (i := 1) rfl (cells_num f) _ (Below.refl _ _)) ?_)
    | (go_at_call 106; go_loud (refine (HD1.out _).mono ?_); rintro e w3 ⟨z, rfl, hb, A, c, rfl, _, _⟩; rw [← HL.out]; have HM3 := Lib.hid (HM0.out.call hb); clear hb)
    | ((with_reducible refine g_ld 4 ?_); go_loud (refine wpList_ld rfl _ _ rfl _ rfl _ (HM3.out.ldc ct4 (i := 1) (j := 0) (v := .bool f.neg) rfl rfl _ (Below.refl _ _)) ?_))
    | ((with_reducible refine g_st 4 ?_); go_loud (refine wpList_stC (j := 0) (v := .bool (!f.neg)) rfl _ _ rfl HM3.out 1 rfl rfl rfl bool_size rfl rfl (by rw [FracV.cells_len]; decide) ?_); intro w5 h5
       have HM5 : Hid (Mem w w5 [.box (w.heap.size + 1) 91 zeroF.cells, .box w.heap.size 91 (FracV.mk (!f.neg) f.num f.den).cells]) := h5
       clear h5)
    | ((with_reducible refine g_ld 91 ?_); refine wpList_ld rfl _ _ rfl _ rfl _ (HM5.out.ldb f01_row (FracV.cells_len _) (i := 1) rfl _ (Below.refl _ _)) ?_)
    | ((with_reducible refine g_st 91 ?_); go_loud (refine wpList_stB (cs' := (FracV.mk (!f.neg) f.num f.den).cells) rfl _ _ rfl HM5.out 0 rfl rfl rfl f01_size rfl (FracV.cells_len _) (FracV.cells_len _) (FracV.ones _) ?_); intro w6 h6))
   refine bodyPost_ret (results_box1 rfl _ rfl (h6.ldb f01_row (FracV.cells_len _) (i := 0) rfl _ (Below.refl _ _))) rfl ⟨?_, h6.from_⟩
   rw [HX.out]
end Go.Proofs.Ytcdfnlgimbecgaa
