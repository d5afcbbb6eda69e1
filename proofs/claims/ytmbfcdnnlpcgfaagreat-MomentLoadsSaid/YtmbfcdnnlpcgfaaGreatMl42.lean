/-
  twistlockref01: digits to the base 65536 and limbs of 32 bits (plain).
-/
import Derived.Test.YtmbfcdnnlpcgfaaGreatMl41
set_option linter.unusedVariables false
set_option linter.unusedSimpArgs false
namespace Go.Proofs.YtmbfcdnnlpcgfaaGreat
theorem pad_get {B : Nat} (hB : 0 < B) : ∀ (k x j : Nat), j < k → (pad B k x)[j]? = some (x / B ^ j % B)
 | 0, _, _, h => by omega
 | k + 1, x, 0, _ => by simp [pad]
 | k + 1, x, j + 1, h => by
  have ih := pad_get hB k (x / B) j (by omega)
  unfold pad
  rw [List.getElem?_cons_succ, ih, Nat.div_div_eq_div_mul, Nat.pow_succ, Nat.mul_comm B]
theorem dig_getD {B : Nat} (hB : 2 ≤ B) (x : Nat) : ∀ j, (dig B x).getD j 0 = x / B ^ j % B := by
 induction x using Nat.strongRecOn with
 | ind x ih =>
  intro j
  by_cases h0 : x = 0
  · subst h0
    rw [dig_zero hB]
    simp
  · rw [dig_pos hB h0]
    cases j with
    | zero => simp
    | succ j =>
     have h1 := ih (x / B) (Nat.div_lt_self (by omega) (by omega)) j
     rw [List.getD_cons_succ, h1, Nat.div_div_eq_div_mul, Nat.pow_succ, Nat.mul_comm B]
def limbAt (D : List Nat) (i k : Nat) : Nat := (if 2 * k < i then D.getD (2 * k) 0 else 0) + 65536 * (if 2 * k + 1 < i then D.getD (2 * k + 1) 0 else 0)
def limbsAt (D : List Nat) (i : Nat) : List Nat := (List.range 8).map (limbAt D i)
theorem limbs_len (D : List Nat) (i : Nat) : (limbsAt D i).length = 8 := by simp [limbsAt]
theorem limbs_get (D : List Nat) (i : Nat) {k : Nat} (h : k < 8) : (limbsAt D i)[k]? = some (limbAt D i k) := by
 unfold limbsAt
 simp [List.getElem?_map, List.getElem?_range h]
theorem limbs_zero (D : List Nat) : limbsAt D 0 = pad B32 8 0 := by
 rw [pad_zero]
 rfl
theorem limbs_even {D : List Nat} {k : Nat} (hk : k < 8) : limbsAt D (2 * k + 1) = (limbsAt D (2 * k)).set k (D.getD (2 * k) 0) := by
 apply List.ext_getElem?
 intro j
 rw [List.getElem?_set, limbs_len]
 rcases Nat.lt_or_ge j 8 with h | h
 · rw [limbs_get D _ h, limbs_get D _ h]
   by_cases hj : k = j
   · subst hj
     rw [if_pos rfl, if_pos hk]
     unfold limbAt
     rw [if_pos (by omega), if_neg (by omega)]
     rfl
   · rw [if_neg hj]
     unfold limbAt
     congr 2
     · by_cases h1 : 2 * j < 2 * k
       · rw [if_pos h1, if_pos (by omega)]
       · rw [if_neg h1, if_neg (by omega)]
     · by_cases h1 : 2 * j + 1 < 2 * k
       · rw [if_pos h1, if_pos (by omega)]
       · rw [if_neg h1, if_neg (by omega)]
 · have h1 := limbs_len D (2 * k + 1)
   have h2 := limbs_len D (2 * k)
   rw [List.getElem?_eq_none (by omega), List.getElem?_eq_none (by omega), if_neg (by omega)]
theorem limbs_odd {D : List Nat} {k : Nat} (hk : k < 8) : limbAt D (2 * k + 1) k = D.getD (2 * k) 0 ∧ limbsAt D (2 * k + 1 + 1) = (limbsAt D (2 * k + 1)).set k (D.getD (2 * k) 0 + D.getD (2 * k + 1) 0 * 65536) := by
 constructor
 · unfold limbAt
   rw [if_pos (by omega), if_neg (by omega)]
   rfl
 · apply List.ext_getElem?
   intro j
   rw [List.getElem?_set, limbs_len]
   rcases Nat.lt_or_ge j 8 with h | h
   · rw [limbs_get D _ h, limbs_get D _ h]
     by_cases hj : k = j
     · subst hj
       rw [if_pos rfl, if_pos hk]
       unfold limbAt
       rw [if_pos (by omega), if_pos (by omega), Nat.mul_comm 65536]
     · rw [if_neg hj]
       unfold limbAt
       congr 2
       · by_cases h1 : 2 * j < 2 * k + 1
         · rw [if_pos h1, if_pos (by omega)]
         · rw [if_neg h1, if_neg (by omega)]
       · by_cases h1 : 2 * j + 1 < 2 * k + 1
         · rw [if_pos h1, if_pos (by omega)]
         · rw [if_neg h1, if_neg (by omega)]
   · have h1 := limbs_len D (2 * k + 1 + 1)
     have h2 := limbs_len D (2 * k + 1)
     rw [List.getElem?_eq_none (by omega), List.getElem?_eq_none (by omega), if_neg (by omega)]
theorem limbs_end {x n : Nat} (hn : (dig B16 x).length ≤ n) : limbsAt (dig B16 x) n = pad B32 8 x := by
 apply List.ext_getElem?
 intro j
 rcases Nat.lt_or_ge j 8 with h | h
 · rw [limbs_get _ _ h, pad_get (by decide) 8 x j h]
   congr 1
   have e : ∀ m, (if m < n then (dig B16 x).getD m 0 else 0) = (dig B16 x).getD m 0 := by
    intro m
    by_cases hm : m < n
    · rw [if_pos hm]
    · rw [if_neg hm, List.getD_eq_getElem?_getD, List.getElem?_eq_none (by omega)]
      rfl
   unfold limbAt
   rw [e, e, dig_getD hB16, dig_getD hB16]
   have e1 : B16 = 65536 := rfl
   have e2 : B32 = 4294967296 := rfl
   have e3 : B32 ^ j = B16 ^ (2 * j) := by
    rw [Nat.pow_mul, e1, e2]
   rw [e3, Nat.pow_succ, ← Nat.div_div_eq_div_mul]
   generalize x / B16 ^ (2 * j) = X
   rw [e1, e2]
   omega
 · have h1 := limbs_len (dig B16 x) n
   have h2 := pad_len B32 8 x
   rw [List.getElem?_eq_none (by omega), List.getElem?_eq_none (by omega)]
open Go.RowKit
def u8s (l : List Nat) : List Value := l.map fun (n : Nat) => Value.int .u32 (n : Int)
theorem u8s_len (l : List Nat) : (u8s l).length = l.length := by simp [u8s]
theorem u8s_set (l : List Nat) (i v : Nat) : (u8s l).set i (.int .u32 (v : Int)) = u8s (l.set i v) := by unfold u8s; rw [List.map_set]
theorem u8_row : IsRow Tryz.prog 72 8 := ⟨_, Tryz.underlying72, by kernel_rfl, by kernel_rfl⟩
theorem u8_size : (Tryz.prog.info? 72).map (·.size) = some 8 := by kernel_rfl
theorem u8s_ones (l : List Nat) : ∀ u ∈ u8s l, u.oneCell' = true := by
 intro u hu
 unfold u8s at hu
 obtain ⟨n, _, rfl⟩ := List.mem_map.1 hu
 rfl
set_option maxRecDepth 100000 in
set_option maxHeartbeats 4000000 in
theorem ref_limbs {x : Nat} {u : Value} {w : World} (hu : Reads (dig B16 x) u w) (hx : len16 x ≤ 400) :
 Calls Tryz.prog 176 #[u] w fun e w' => e = .returned (.tuple #[.agg (u8s (if len16 x ≤ 16 then pad B32 8 x else pad B32 8 0)).toArray, .bool (decide (len16 x ≤ 16))]) ∧ From w w' := by
 obtain ⟨A, c, rfl, hr, _⟩ := hu
 obtain ⟨n, hn⟩ : ∃ n, n = (dig B16 x).length := ⟨_, rfl⟩
 have hnl : n = len16 x := hn
 rw [← hnl] at hx ⊢
 rw [← hn]
 have HM0 : Hid (Mem w ((w.alloc (.cells (u8s (pad B32 8 0)).toArray 72)).alloc (.cells (u8s (pad B32 8 0)).toArray 72)) [.box (w.heap.size + 1) 72 (u8s (pad B32 8 0)), .box w.heap.size 72 (u8s (pad B32 8 0))]) := by
  have h := ((Mem.nil w).alloc 72 (u8s (pad B32 8 0))).alloc 72 (u8s (pad B32 8 0))
  have e : (w.alloc (.cells (u8s (pad B32 8 0)).toArray 72)).heap.size = w.heap.size + 1 := by simp
  rw [e] at h
  exact h
 have HR := Lib.hid hr
 have HN := Lib.hid hn
 clear hr hn hnl
 by_cases h16 : n ≤ 16
 · rw [if_pos h16, decide_eq_true h16]
   have hn16 : ¬ (16 : Int) < (n : Int) := by omega
   go_enter Tryz.func176, Tryz.ntmps176
   go_wp2
   go_loopw [5] (fun v5 wq => ∃ i : Nat, i ≤ n ∧ v5 = .int .i64 (i : Int) ∧ Mem w wq [.box (w.heap.size + 1) 72 (u8s (limbsAt (dig B16 x) i)), .box w.heap.size 72 (u8s (pad B32 8 0))]) (fun v _ => n - (intOf v).toNat)
   case atStart => exact ⟨0, Nat.zero_le _, rfl, by rw [limbs_zero]; exact HM0.out⟩
   case round =>
    clear HM0
    obtain ⟨i, hi, rfl, hm⟩ := hrel
    have HM := Lib.hid hm
    clear hm
    by_cases hin : i = n
    · subst hin
      have hE : Hid (limbsAt (dig B16 x) i = pad B32 8 x) := limbs_end (by rw [← HN.out]; exact Nat.le_refl _)
      have hnlt : ¬ (i : Int) < (i : Int) := by omega
      clear hi
      go_wp2_with (first
       | ((with_reducible refine g_ld 72 ?_); refine wpList_ld rfl _ _ rfl _ rfl _ (HM.out.ldb u8_row (by rw [u8s_len, limbs_len]) (i := 0) rfl _ (Below.refl _ _)) ?_)
       | ((with_reducible refine g_st 72 ?_); go_loud (refine wpList_stB (cs' := u8s (limbsAt (dig B16 x) i)) rfl _ _ rfl HM.out 1 rfl rfl rfl u8_size rfl (by rw [u8s_len, limbs_len]) (by rw [u8s_len, pad_len]) (u8s_ones _) ?_); intro w5 h5; have HM5 := Lib.hid h5; clear h5))
      refine bodyPost_ret (results_box2 rfl _ rfl (HM5.out.ldb u8_row (by rw [u8s_len, limbs_len]) (i := 1) rfl _ (Below.refl _ _))) rfl ⟨?_, HM5.out.from_⟩
      rw [hE.out]
      rfl
    · have hlt : (i : Int) < (n : Int) := by omega
      have hil : i < (dig B16 x).length := by rw [← HN.out]; omega
      have h8 : i < 16 := by omega
      obtain ⟨k, hk⟩ : ∃ k, k = i / 2 := ⟨_, rfl⟩
      have hk8 : k < 8 := by omega
      obtain ⟨d, hd⟩ : ∃ d, d = (dig B16 x).getD i 0 := ⟨_, rfl⟩
      have hdB : d < 65536 := by rw [hd]; exact (Digs.dig hB16 x).getD (by decide) i
      have hde : d = (dig B16 x)[i] := by rw [hd, List.getD_eq_getElem?_getD, List.getElem?_eq_getElem hil]; rfl
      have hq : IntKind.i64.wrap ((i : Int).tdiv 2) = (k : Int) := by
       have e : (i : Int).tdiv 2 = (k : Int) := by rw [hk]; exact (Int.ofNat_tdiv i 2).symm
       rw [e, wrap_i64 (by omega) (by omega)]
      have hq2 : (i : Int).tdiv 2 = (k : Int) := by rw [hk]; exact (Int.ofNat_tdiv i 2).symm
      have hq3 : IntKind.i64.wrap (k : Int) = (k : Int) := wrap_i64 (by omega) (by omega)
      have hk8i : (k : Int) < 8 := by omega
      have hk8n : (k : Int) < ((8 : Nat) : Int) := by omega
      have hcv : IntKind.u32.wrap (d : Int) = (d : Int) := by rw [wrap_u32, Nat.mod_eq_of_lt (by omega)]
      obtain ⟨b, off, rfl, _, hl⟩ := num_ld Tryz.underlying3 rfl (HR.out.from HM.out.from_) hil
      rw [← hde] at hl
      have HL := Lib.hid hl
      have HD := Lib.hid hd
      have w1 : IntKind.i64.wrap ((i : Int) + 1) = ((i + 1 : Nat) : Int) := by rw [wrap_i64 (by omega) (by omega)]; omega
      have hkl : k < (u8s (limbsAt (dig B16 x) i)).length := by rw [u8s_len, limbs_len]; exact hk8
      clear hl hd hde
      by_cases hp : i = 2 * k
      · have hrem : (i : Int).tmod 2 = 0 := by
         have e : (i : Int).tmod 2 = ((i % 2 : Nat) : Int) := (Int.ofNat_tmod i 2).symm
         rw [e]; omega
        have HST : Hid (limbsAt (dig B16 x) (i + 1) = (limbsAt (dig B16 x) i).set k d) := by
         unfold Hid
         rw [HD.out, hp]
         exact limbs_even hk8
        clear hp hk
        go_wp2_with (first
         | ((with_reducible refine g_ld 3 ?_); go_loud (refine wpList_ld rfl _ _ rfl _ rfl _ (HL.out _ (Below.refl _ _)) ?_))
         | ((with_reducible refine g_st 52 ?_); go_loud (refine wpList_stC (j := k) (v := .int .u32 (d : Int)) rfl _ _ rfl HM.out 0 rfl rfl rfl size_u32 rfl rfl hkl ?_); intro w5 h5; have HM5 := Lib.hid h5; clear h5))
        go_roundw
        case rel =>
         refine ⟨i + 1, by omega, by go_num, ?_⟩
         have h1 := HM5.out
         rw [u8s_set, ← HST.out] at h1
         exact h1
        case measure => simp [intOf]; omega
      · have hp1 : i = 2 * k + 1 := by omega
        have hrem : (i : Int).tmod 2 = 1 := by
         have e : (i : Int).tmod 2 = ((i % 2 : Nat) : Int) := (Int.ofNat_tmod i 2).symm
         rw [e]; omega
        obtain ⟨f, hf⟩ : ∃ f, f = (dig B16 x).getD (2 * k) 0 := ⟨_, rfl⟩
        have hfB : f < 65536 := by rw [hf]; exact (Digs.dig hB16 x).getD (by decide) _
        obtain ⟨m, hm⟩ : ∃ m, m = d * 65536 := ⟨_, rfl⟩
        obtain ⟨z, hz⟩ : ∃ z, z = f + m := ⟨_, rfl⟩
        have hmul : IntKind.u32.wrap ((d : Int) * 65536) = (m : Int) := by
         have e : (d : Int) * 65536 = (m : Int) := by omega
         rw [e, wrap_u32, Nat.mod_eq_of_lt (by omega)]
        have hadd : IntKind.u32.wrap ((f : Int) + (m : Int)) = (z : Int) := by
         have e : (f : Int) + (m : Int) = (z : Int) := by omega
         rw [e, wrap_u32, Nat.mod_eq_of_lt (by omega)]
        have HST : Hid (limbsAt (dig B16 x) (i + 1) = (limbsAt (dig B16 x) i).set k z) := by
         unfold Hid
         rw [hz, hm, HD.out, hp1, hf]
         exact (limbs_odd hk8).2
        have HLF := Lib.hid (HM.out.ldc (i := 0) (j := k) (v := .int .u32 (f : Int)) ct52 rfl (by
         have h1 := limbs_get (dig B16 x) i hk8
         have h2 : limbAt (dig B16 x) i k = f := by rw [hf, hp1]; exact (limbs_odd hk8).1
         unfold u8s
         rw [List.getElem?_map, h1, h2]
         rfl))
        clear hp hp1 hk hf hm hz
        go_wp2
        refine wp_region_run 14 [.val (Value.int .i64 ((i : Int))), .val (Value.int .i64 ((k : Int))), .val (Value.int .i64 ((i : Int))), .val (Value.int .i64 ((k : Int))), .val (Value.pointer (some ⟨w.heap.size + 1, k, none⟩)), .val (Value.int .u32 (f : Int)), .val (Value.slice (some ⟨b, off, none⟩) n c), .val (Value.int .i64 ((i : Int))), .val (Value.pointer (some ⟨b, off + i, none⟩)), .val (Value.int .i64 ((d : Int))), .val (Value.int .u32 (d : Int)), .val (Value.int .u32 (m : Int)), .val (Value.int .u32 (z : Int)), .val (Value.pointer (some ⟨w.heap.size + 1, k, none⟩))] (by kernel_rfl) (by kernel_rfl) (Nat.le_of_ble_eq_true (by kernel_rfl)) (by kernel_rfl) (by kernel_rfl) ?_ ?_ ?_
        · exact trivial
        · exact ⟨(fun _ _ => ok_move rfl), (fun _ _ => ok_quo rfl rfl (by decide) hq rfl), (fun _ _ => ok_move rfl), (fun _ _ => ok_quo rfl rfl (by decide) hq rfl), (fun _ _ => ok_indexP (k := k) rfl rfl Tryz.underlying72 size_u32 hk8n (ptr01 _ _)), (fun w hb => ok_load rfl ((HLF.out) w hb)), (fun _ _ => ok_move rfl), (fun _ _ => ok_move rfl), (fun _ _ => ok_index (k := i) rfl rfl el47 (hlt) (ptr1 _ _ _)), (fun w hb => ok_load rfl ((HL.out) w hb)), (fun _ _ => ok_conv rfl Tryz.underlying3 Tryz.underlying52 hcv rfl), (fun _ _ => ok_mul rfl rfl hmul rfl), (fun _ _ => ok_add rfl rfl hadd rfl), (fun _ _ => ok_indexP (k := k) rfl rfl Tryz.underlying72 size_u32 hk8n (ptr01 _ _)), trivial⟩
        intro w7 hb7
        simp only [contS, List.take_succ_cons, List.take_zero, List.drop_succ_cons, List.drop_zero]
        simp only [Act.put, List.setIfInBounds_toArray, List.set_cons_succ, List.set_cons_zero]
        have HM7 := Lib.hid (HM.out.call hb7)
        clear HM hb7 HLF HL
        go_wp2_with ((with_reducible refine g_st 52 ?_); go_loud (refine wpList_stC (j := k) (v := .int .u32 (z : Int)) rfl _ _ rfl HM7.out 0 rfl rfl rfl size_u32 rfl rfl hkl ?_); intro w5 h5; have HM5 := Lib.hid h5; clear h5)
        go_roundw
        case rel =>
         refine ⟨i + 1, by omega, by go_num, ?_⟩
         have h1 := HM5.out
         rw [u8s_set, ← HST.out] at h1
         exact h1
        case measure => simp [intOf]; omega
 · rw [if_neg h16, decide_eq_false h16]
   have hn16 : (16 : Int) < (n : Int) := by omega
   go_enter Tryz.func176, Tryz.ntmps176
   go_wp2_with (first
    | ((with_reducible refine g_ld 72 ?_); refine wpList_ld rfl _ _ rfl _ rfl _ (HM0.out.ldb u8_row (by rw [u8s_len, pad_len]) (i := 0) rfl _ (Below.refl _ _)) ?_)
    | ((with_reducible refine g_st 72 ?_); go_loud (refine wpList_stB (cs' := u8s (pad B32 8 0)) rfl _ _ rfl HM0.out 1 rfl rfl rfl u8_size rfl (by rw [u8s_len, pad_len]) (by rw [u8s_len, pad_len]) (u8s_ones _) ?_); intro w5 h5; have HM5 := Lib.hid h5; clear h5))
   refine bodyPost_ret (results_box2 rfl _ rfl (HM5.out.ldb u8_row (by rw [u8s_len, pad_len]) (i := 1) rfl _ (Below.refl _ _))) rfl ⟨rfl, HM5.out.from_⟩
end Go.Proofs.YtmbfcdnnlpcgfaaGreat
