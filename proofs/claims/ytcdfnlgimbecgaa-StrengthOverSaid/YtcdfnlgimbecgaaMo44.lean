/-
  twistlockref01: limbs.
-/
import Derived.Test.YtcdfnlgimbecgaaMo43

namespace Go.Proofs.Ytcdfnlgimbecgaa
open Go.RowKit

theorem u8_row : IsRow Try.prog 35 8 := ⟨_, Try.underlying35, by kernel_rfl, by kernel_rfl⟩
theorem u8_size : (Try.prog.info? 35).map (·.size) = some 8 := by kernel_rfl
theorem u8s_ones (l : List Nat) : ∀ u ∈ u8s l, u.oneCell' = true := by
  intro u hu
  unfold u8s at hu
  obtain ⟨n, _, rfl⟩ := List.mem_map.1 hu
  rfl
theorem results_box2 {P : Program} {fn : Func} {p t : Tmp} {T g : Nat} {w : World} {cs : List Value} (h : fn.results = #[.cell p T, .tmp t]) (tmps : Array Value) (hp : tmps.getD p undef = .pointer (some ⟨g, 0, none⟩)) (hl : (loadVar T ⟨g, 0, none⟩).run P w = .ok (.agg cs.toArray) w) :
    (results fn tmps).run P w = .ok (.tuple #[.agg cs.toArray, tmps.getD t undef]) w := by
  have hp' : tmps[p]?.getD undef = .pointer (some ⟨g, 0, none⟩) := by simpa using hp
  simp [results, h, hp', asAddr, hl]
theorem results_box1 {P : Program} {fn : Func} {p : Tmp} {T g : Nat} {w : World} {cs : List Value} (h : fn.results = #[.cell p T]) (tmps : Array Value) (hp : tmps.getD p undef = .pointer (some ⟨g, 0, none⟩)) (hl : (loadVar T ⟨g, 0, none⟩).run P w = .ok (.agg cs.toArray) w) :
    (results fn tmps).run P w = .ok (.agg cs.toArray) w := by
  have hp' : tmps[p]?.getD undef = .pointer (some ⟨g, 0, none⟩) := by simpa using hp
  simp [results, h, hp', asAddr, hl]
/-- a cell of a box of the list is written -/
theorem wpList_stC {w0 w : World} {M : List Ent} {ops : Array Oper} {rest : List Oper} {o : Oper} {a : Act} {Q : Exit → Act → World → Prop} {T T1 g j : Nat} {cs : List Value} {v : Value} (hgd : o.guard = none) (x y : Operand) (ho : o.op = .store T1 x y) (H : Mem w0 w M) (i : Nat) (hi : M[i]? = some (.box g T cs))
    (hx : a.eval x = .pointer (some ⟨g, j, .none⟩)) (hy : a.eval y = v) (hsz : (Try.prog.info? T1).map (·.size) = some 1) (hv : v.cells.toList = [v]) (h1 : v.oneCell' = true) (hj : j < cs.length)
    (h : ∀ w', Mem w0 w' (M.set i (.box g T (cs.set j v))) → wpList Try.prog ops Q rest (a.put o.dst undef) w') : wpList Try.prog ops Q (o :: rest) a w := by
  refine wpList_st (cs := [v]) hgd x y ho hx hy hsz hv rfl (H.cells hi) (by simp; omega) (by simpa using h1) fun cur' w' hc hs hg' hgr => h w' (H.put i (.box g T (cs.set j v)) hi hgr ⟨(H.boxlt hi).1, ?_⟩ (.inl rfl))
  have : cur' = (cs.set j v).toArray := by
    apply Array.ext'
    rw [hc, List.set_eq_take_append_cons_drop, if_pos hj]
    simp
  rw [← this]
  exact hg'

set_option maxRecDepth 100000 in
set_option maxHeartbeats 4000000 in
theorem ref_limbs {x : Nat} {u : Value} {w : World} (hu : Reads (dig B16 x) u w) (hx : len16 x ≤ 400) :
    Calls Try.prog 144 #[u] w fun e w' => e = .returned (.tuple #[.agg (u8s (if len16 x ≤ 16 then pad B32 8 x else pad B32 8 0)).toArray, .bool (decide (len16 x ≤ 16))]) ∧ From w w' := by
  obtain ⟨A, c, rfl, hr, _⟩ := hu
  obtain ⟨n, hn⟩ : ∃ n, n = (dig B16 x).length := ⟨_, rfl⟩
  have hnl : n = len16 x := hn
  rw [← hnl] at hx ⊢
  rw [← hn]
  have HM0 : Hid (Mem w ((w.alloc (.cells (u8s (pad B32 8 0)).toArray 35)).alloc (.cells (u8s (pad B32 8 0)).toArray 35)) [.box (w.heap.size + 1) 35 (u8s (pad B32 8 0)), .box w.heap.size 35 (u8s (pad B32 8 0))]) := by
    have h := ((Mem.nil w).alloc 35 (u8s (pad B32 8 0))).alloc 35 (u8s (pad B32 8 0))
    have e : (w.alloc (.cells (u8s (pad B32 8 0)).toArray 35)).heap.size = w.heap.size + 1 := by simp
    rw [e] at h
    exact h
  have HR := Lib.hid hr
  have HN := Lib.hid hn
  clear hr hn hnl
  by_cases h16 : n ≤ 16
  · rw [if_pos h16, decide_eq_true h16]
    have hn16 : ¬ (16 : Int) < (n : Int) := by omega
    go_enter Try.func144, Try.ntmps144
    go_wp2
    go_loopw [5] (fun v5 wq => ∃ i : Nat, i ≤ n ∧ v5 = .int .i64 (i : Int) ∧ Mem w wq [.box (w.heap.size + 1) 35 (u8s (limbsAt (dig B16 x) i)), .box w.heap.size 35 (u8s (pad B32 8 0))]) (fun v _ => n - (intOf v).toNat)
    case atStart => exact ⟨0, Nat.zero_le _, rfl, by rw [limbs_zero]; exact HM0.out⟩
    case round =>
      clear HM0
      obtain ⟨i, hi, rfl, hm⟩ := hrel
      have HM := Lib.hid hm
      clear hm
      by_cases hin : i = n
      · subst hin
        have hE : Hid (limbsAt (dig B16 x) i = pad B32 8 x) := limbs_end (by rw [← HN.out]; exact Nat.le_refl _)
        have hnlt : ¬ (i : Int) < (i : Int) := by omega
        clear hi
        go_wp2_with (first
          | ((with_reducible refine g_ld 35 ?_); refine wpList_ld rfl _ _ rfl _ rfl _ (HM.out.ldb u8_row (by rw [u8s_len, limbs_len]) (i := 0) rfl _ (Below.refl _ _)) ?_)
          | ((with_reducible refine g_st 35 ?_); go_loud (refine wpList_stB (cs' := u8s (limbsAt (dig B16 x) i)) rfl _ _ rfl HM.out 1 rfl rfl rfl u8_size rfl (by rw [u8s_len, limbs_len]) (by rw [u8s_len, pad_len]) (u8s_ones _) ?_); intro w5 h5; have HM5 := Lib.hid h5; clear h5))
        refine bodyPost_ret (results_box2 rfl _ rfl (HM5.out.ldb u8_row (by rw [u8s_len, limbs_len]) (i := 1) rfl _ (Below.refl _ _))) rfl ⟨?_, HM5.out.from_⟩
        rw [hE.out]
        rfl
      · have hlt : (i : Int) < (n : Int) := by omega
        have hil : i < (dig B16 x).length := by rw [← HN.out]; omega
        have h8 : i < 16 := by omega
        obtain ⟨k, hk⟩ : ∃ k, k = i / 2 := ⟨_, rfl⟩
        have hk8 : k < 8 := by omega
        obtain ⟨d, hd⟩ : ∃ d, d = (dig B16 x).getD i 0 := ⟨_, rfl⟩
        have hdB : d < 65536 := by rw [hd]; exact (Digs.dig hB16 x).getD (by decide) i
        have hde : d = (dig B16 x)[i] := by rw [hd, List.getD_eq_getElem?_getD, List.getElem?_eq_getElem hil]; rfl
        have hq : IntKind.i64.wrap ((i : Int).tdiv 2) = (k : Int) := by
          have e : (i : Int).tdiv 2 = (k : Int) := by rw [hk]; exact (Int.ofNat_tdiv i 2).symm
          rw [e, wrap_i64 (by omega) (by omega)]
        have hq2 : (i : Int).tdiv 2 = (k : Int) := by rw [hk]; exact (Int.ofNat_tdiv i 2).symm
        have hq3 : IntKind.i64.wrap (k : Int) = (k : Int) := wrap_i64 (by omega) (by omega)
        have hk8i : (k : Int) < 8 := by omega
        have hk8n : (k : Int) < ((8 : Nat) : Int) := by omega
        have hcv : IntKind.u32.wrap (d : Int) = (d : Int) := by rw [wrap_u32, Nat.mod_eq_of_lt (by omega)]
        obtain ⟨b, off, rfl, _, hl⟩ := num_ld Try.underlying3 rfl (HR.out.from HM.out.from_) hil
        rw [← hde] at hl
        have HL := Lib.hid hl
        have HD := Lib.hid hd
        have w1 : IntKind.i64.wrap ((i : Int) + 1) = ((i + 1 : Nat) : Int) := by rw [wrap_i64 (by omega) (by omega)]; omega
        have hkl : k < (u8s (limbsAt (dig B16 x) i)).length := by rw [u8s_len, limbs_len]; exact hk8
        clear hl hd hde
        by_cases hp : i = 2 * k
        · have hrem : (i : Int).tmod 2 = 0 := by
            have e : (i : Int).tmod 2 = ((i % 2 : Nat) : Int) := (Int.ofNat_tmod i 2).symm
            rw [e]; omega
          have HST : Hid (limbsAt (dig B16 x) (i + 1) = (limbsAt (dig B16 x) i).set k d) := by
            unfold Hid
            rw [HD.out, hp]
            exact limbs_even hk8
          clear hp hk
          go_wp2_with (first
            | ((with_reducible refine g_ld 3 ?_); go_loud (refine wpList_ld rfl _ _ rfl _ rfl _ (HL.out _ (Below.refl _ _)) ?_))
            | ((with_reducible refine g_st 34 ?_); go_loud (refine wpList_stC (j := k) (v := .int .u32 (d : Int)) rfl _ _ rfl HM.out 0 rfl rfl rfl size_u32 rfl rfl hkl ?_); intro w5 h5; have HM5 := Lib.hid h5; clear h5))
          go_roundw
          case rel =>
            refine ⟨i + 1, by omega, by go_num, ?_⟩
            have h1 := HM5.out
            rw [u8s_set, ← HST.out] at h1
            exact h1
          case measure => simp [intOf]; omega
        · have hp1 : i = 2 * k + 1 := by omega
          have hrem : (i : Int).tmod 2 = 1 := by
            have e : (i : Int).tmod 2 = ((i % 2 : Nat) : Int) := (Int.ofNat_tmod i 2).symm
            rw [e]; omega
          obtain ⟨f, hf⟩ : ∃ f, f = (dig B16 x).getD (2 * k) 0 := ⟨_, rfl⟩
          have hfB : f < 65536 := by rw [hf]; exact (Digs.dig hB16 x).getD (by decide) _
          obtain ⟨m, hm⟩ : ∃ m, m = d * 65536 := ⟨_, rfl⟩
          obtain ⟨z, hz⟩ : ∃ z, z = f + m := ⟨_, rfl⟩
          have hmul : IntKind.u32.wrap ((d : Int) * 65536) = (m : Int) := by
            have e : (d : Int) * 65536 = (m : Int) := by omega
            rw [e, wrap_u32, Nat.mod_eq_of_lt (by omega)]
          have hadd : IntKind.u32.wrap ((f : Int) + (m : Int)) = (z : Int) := by
            have e : (f : Int) + (m : Int) = (z : Int) := by omega
            rw [e, wrap_u32, Nat.mod_eq_of_lt (by omega)]
          have HST : Hid (limbsAt (dig B16 x) (i + 1) = (limbsAt (dig B16 x) i).set k z) := by
            unfold Hid
            rw [hz, hm, HD.out, hp1, hf]
            exact (limbs_odd hk8).2
          have HLF := Lib.hid (HM.out.ldc (i := 0) (j := k) (v := .int .u32 (f : Int)) ct34 rfl (by
            have h1 := limbs_get (dig B16 x) i hk8
            have h2 : limbAt (dig B16 x) i k = f := by rw [hf, hp1]; exact (limbs_odd hk8).1
            unfold u8s
            rw [List.getElem?_map, h1, h2]
            rfl))
          clear hp hp1 hk hf hm hz
          go_wp2
          refine wp_region_run 14 [.val (Value.int .i64 ((i : Int))),
    .val (Value.int .i64 ((k : Int))),
    .val (Value.int .i64 ((i : Int))),
    .val (Value.int .i64 ((k : Int))),
    .val (Value.pointer (some ⟨w.heap.size + 1, k, none⟩)),
    .val (Value.int .u32 (f : Int)),
    .val (Value.slice (some ⟨b, off, none⟩) n c),
    .val (Value.int .i64 ((i : Int))),
    .val (Value.pointer (some ⟨b, off + i, none⟩)),
    .val (Value.int .i64 ((d : Int))),
    .val (Value.int .u32 (d : Int)),
    .val (Value.int .u32 (m : Int)),
    .val (Value.int .u32 (z : Int)),
    .val (Value.pointer (some ⟨w.heap.size + 1, k, none⟩))] (by kernel_rfl) (by kernel_rfl) (Nat.le_of_ble_eq_true (by kernel_rfl)) (by kernel_rfl) (by kernel_rfl) ?_ ?_ ?_
          · exact trivial
          · exact ⟨(fun _ _ => ok_move rfl),
    (fun _ _ => ok_quo rfl rfl (by decide) hq rfl),
    (fun _ _ => ok_move rfl),
    (fun _ _ => ok_quo rfl rfl (by decide) hq rfl),
    (fun _ _ => ok_indexP (k := k) rfl rfl Try.underlying35 size_u32 hk8n (ptr01 _ _)),
    (fun w hb => ok_load rfl ((HLF.out) w hb)),
    (fun _ _ => ok_move rfl),
    (fun _ _ => ok_move rfl),
    (fun _ _ => ok_index (k := i) rfl rfl el42 (hlt) (ptr1 _ _ _)),
    (fun w hb => ok_load rfl ((HL.out) w hb)),
    (fun _ _ => ok_conv rfl Try.underlying3 Try.underlying34 hcv rfl),
    (fun _ _ => ok_mul rfl rfl hmul rfl),
    (fun _ _ => ok_add rfl rfl hadd rfl),
    (fun _ _ => ok_indexP (k := k) rfl rfl Try.underlying35 size_u32 hk8n (ptr01 _ _)),
    trivial⟩
          intro w7 hb7
          simp only [contS, List.take_succ_cons, List.take_zero, List.drop_succ_cons, List.drop_zero]
          simp only [Act.put, List.setIfInBounds_toArray, List.set_cons_succ, List.set_cons_zero]
          have HM7 := Lib.hid (HM.out.call hb7)
          clear HM hb7 HLF HL
          go_wp2_with ((with_reducible refine g_st 34 ?_); go_loud (refine wpList_stC (j := k) (v := .int .u32 (z : Int)) rfl _ _ rfl HM7.out 0 rfl rfl rfl size_u32 rfl rfl hkl ?_); intro w5 h5; have HM5 := Lib.hid h5; clear h5)
          go_roundw
          case rel =>
            refine ⟨i + 1, by omega, by go_num, ?_⟩
            have h1 := HM5.out
            rw [u8s_set, ← HST.out] at h1
            exact h1
          case measure => simp [intOf]; omega
  · rw [if_neg h16, decide_eq_false h16]
    have hn16 : (16 : Int) < (n : Int) := by omega
    go_enter Try.func144, Try.ntmps144
    go_wp2_with (first
      | ((with_reducible refine g_ld 35 ?_); refine wpList_ld rfl _ _ rfl _ rfl _ (HM0.out.ldb u8_row (by rw [u8s_len, pad_len]) (i := 0) rfl _ (Below.refl _ _)) ?_)
      | ((with_reducible refine g_st 35 ?_); go_loud (refine wpList_stB (cs' := u8s (pad B32 8 0)) rfl _ _ rfl HM0.out 1 rfl rfl rfl u8_size rfl (by rw [u8s_len, pad_len]) (by rw [u8s_len, pad_len]) (u8s_ones _) ?_); intro w5 h5; have HM5 := Lib.hid h5; clear h5))
    refine bodyPost_ret (results_box2 rfl _ rfl (HM5.out.ldb u8_row (by rw [u8s_len, pad_len]) (i := 1) rfl _ (Below.refl _ _))) rfl ⟨rfl, HM5.out.from_⟩
end Go.Proofs.Ytcdfnlgimbecgaa
