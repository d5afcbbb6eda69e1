/-
  change.Same counts as sameAcc says.
-/
import Derived.Test.YtccjddbcdmgefaaSame
namespace Go.Proofs.Ytccjddbcdmgefaa
open Go.RowKit

set_option maxRecDepth 100000 in
set_option maxHeartbeats 4000000 in
theorem change_same (v v' : PlanV) (p q : Plan) (frm : Int) (w : World) (hf1 : -9223372036854775808 ≤ frm) (hf2 : frm ≤ 9223372036854775807) (h : RdPlan w w.heap.size v p) (h' : RdPlan w w.heap.size v' q)
    (l1 : p.states.length ≤ 1000) (l2 : q.states.length ≤ 1000) (l3 : ∀ l ∈ p.states, l.length ≤ 1000) (l4 : ∀ l ∈ q.states, l.length ≤ 1000) :
    Calls Try.prog 29 #[v.val p.states.length p.water.length, v'.val q.states.length q.water.length, .int .i64 frm] w fun e w' =>
      e = .returned (.tuple #[.int .i64 (sameAcc p.states q.states frm (min p.states.length q.states.length)).1, .int .i64 (sameAcc p.states q.states frm (min p.states.length q.states.length)).2]) ∧ Below w.heap.size w w' := by
  obtain ⟨A, c, A', c'⟩ := v
  obtain ⟨D, d, D', d'⟩ := v'
  obtain ⟨P, PW⟩ := p
  obtain ⟨Q, QW⟩ := q
  simp only at *
  have hP := h.1
  have hQ := h'.1
  simp only at hP hQ
  clear h h'
  obtain ⟨M, hM1, hM2, hM3, hmin⟩ : ∃ M : Nat, M ≤ P.length ∧ M ≤ Q.length ∧ M = min P.length Q.length ∧ (if Q.length < P.length then (Q.length : Int) else (P.length : Int)) = (M : Int) :=
    ⟨min P.length Q.length, by omega, by omega, rfl, by split <;> omega⟩
  obtain ⟨k0, hk0, hmax⟩ : ∃ k0 : Nat, (((k0 : Int) ≤ frm ∨ k0 = 0) ∧ frm ≤ (k0 : Int)) ∧ (if frm < 0 then 0 else frm) = (k0 : Int) := ⟨frm.toNat, by omega, by split <;> omega⟩
  have hk0b : (k0 : Int) ≤ 9223372036854775807 := by omega
  rw [← hM3]
  clear hM3
  go_enter Try.func29, Try.ntmps29
  go_wp2
  obtain ⟨W0, hW⟩ : ∃ W0, W0 = ((w.alloc (Obj.cells #[Value.slice A P.length c, Value.slice A' PW.length c'] 29)).alloc (Obj.cells #[Value.slice D Q.length d, Value.slice D' QW.length d'] 29)) := ⟨_, rfl⟩
  rw [← hW]
  have hb0 : Below w.heap.size w W0 := by rw [hW]; exact ((Below.refl _ _).alloc (Nat.le_refl _) _).alloc (by simp) _
  have hs0 : W0.heap.size = w.heap.size + 2 := by rw [hW]; exact size_alloc2 _ _ _
  have kp : W0.heap[w.heap.size]? = some (.cells #[Value.slice A P.length c, Value.slice A' PW.length c'] 29 (0, 0)) := by rw [hW]; exact heap_alloc2_old w _ _
  have kq : W0.heap[w.heap.size + 1]? = some (.cells #[Value.slice D Q.length d, Value.slice D' QW.length d'] 29 (0, 0)) := by rw [hW]; exact heap_alloc2_new w _ _
  have hP0 := (hP.below hb0 (Nat.le_refl _)).more hb0.size
  have hQ0 := (hQ.below hb0 (Nat.le_refl _)).more hb0.size
  clear hW hP hQ
  have cp : ∀ w', From W0 w' → w'.cell? ⟨w.heap.size, 0, none⟩ = some (Value.slice A P.length c) := fun w' hb => by
    rw [cell_of_row w' w.heap.size 0 _ _ _ ((hb.block _ (by omega)).trans kp)]; rfl
  have cq : ∀ w', From W0 w' → w'.cell? ⟨w.heap.size + 1, 0, none⟩ = some (Value.slice D Q.length d) := fun w' hb => by
    rw [cell_of_row w' (w.heap.size + 1) 0 _ _ _ ((hb.block _ (by omega)).trans kq)]; rfl
  clear kp kq
  have HB0 := Lib.hid hb0
  have HS0 := Lib.hid hs0
  have CP := Lib.hid cp
  have CQ := Lib.hid cq
  have HK0 := Lib.hid hk0
  have HMIN := Lib.hid hmin
  clear hb0 hs0 cp cq hk0 hmin hmax
  go_loopw [8, 9, 10] (fun s b i wr => ∃ k : Nat, k0 ≤ k ∧ (k ≤ M ∨ k = k0) ∧ i = .int .i64 k ∧ s = .int .i64 (sameAcc P Q frm k).1 ∧ b = .int .i64 (sameAcc P Q frm k).2 ∧ From W0 wr) (fun _ _ i _ => M - (intOf i).toNat)
  case atStart => exact ⟨k0, Nat.le_refl _, .inr rfl, rfl, by rw [sameAcc_zero _ _ _ _ HK0.out.1]; rfl, by rw [sameAcc_zero _ _ _ _ HK0.out.1]; rfl, Below.refl _ _⟩
  case round =>
    obtain ⟨k, hkk, hkM, rfl, rfl, rfl, hb⟩ := hrel
    have cpr := CP.out wr hb
    have cqr := CQ.out wr hb
    have hmin := HMIN.out
    by_cases hlt : k < M
    · have hfk : frm ≤ (k : Int) := by have := HK0.out; omega
      obtain ⟨b, off, Ai, ci, rfl, hblt, _, hri, hld⟩ := hP0.ld Try.underlying31 (plainStates_get P k (by omega))
      obtain ⟨b', off', Aj, cj, rfl, hblt', _, hrj, hld'⟩ := hQ0.ld Try.underlying31 (plainStates_get Q k (by omega))
      have hle := sameAcc_le P Q frm l3 k
      have HLE := Lib.hid hle
      have hPk : P.getD k [] = P[k] := by simp [show k < P.length by omega]
      have hQk : Q.getD k [] = Q[k] := by simp [show k < Q.length by omega]
      have HPK := Lib.hid hPk
      have HQK := Lib.hid hQk
      have hla := l3 _ (List.getElem_mem (show k < P.length by omega))
      have hlb := l4 _ (List.getElem_mem (show k < Q.length by omega))
      clear hle hPk hQk l3 l4
      have HL := Lib.hid hld
      have HL' := Lib.hid hld'
      clear hld hld'
      have hldr := HL.out wr hb
      go_wp2_with (refine wpList_ld rfl _ _ rfl _ rfl _ (HL.out _ hb) ?_)
      obtain ⟨wo, hwo⟩ : ∃ wo : World, wo = wr := ⟨_, rfl⟩
      subst hwo
      clear cpr cqr hldr
      go_loopw [8, 9, 35] (fun s b i wr => ∃ t : Nat, t ≤ P[k].length ∧ i = .int .i64 t ∧ s = .int .i64 (rowAcc P[k] Q[k] t (sameAcc P Q frm k)).1 ∧ b = .int .i64 (rowAcc P[k] Q[k] t (sameAcc P Q frm k)).2 ∧ From W0 wr) (fun _ _ i _ => P[k].length - (intOf i).toNat)
      case atStart => exact ⟨0, by omega, rfl, rfl, rfl, hb⟩
      case round =>
        obtain ⟨t, ht, rfl, rfl, rfl, hbi⟩ := hrel
        have hacc := rowAcc_le P[k] Q[k] (sameAcc P Q frm k) (1000 * k) HLE.out.1 HLE.out.2 t ht
        obtain ⟨ha1, ha2⟩ := hacc
        by_cases hti : t < P[k].length
        · obtain ⟨bi, offi, rfl, hbi1, hldi⟩ := Stowed.ld hri (map_get Stowed.cells P[k] t hti)
          have HLI := Lib.hid hldi
          have hrs := rowAcc_succ P[k] Q[k] t (sameAcc P Q frm k) hti
          have HRS := Lib.hid hrs
          clear hldi hrs
          go_wp2_with (first
            | (refine wpList_ld rfl _ _ rfl _ rfl _ (HLI.out _ hbi) ?_))
          have hbx : From W0 (wr.alloc (Obj.cells #[Value.int IntKind.i64 P[k][t].box, Value.int IntKind.i64 P[k][t].col, Value.int IntKind.i64 P[k][t].tier, Value.int IntKind.u8 P[k][t].half] 42)) := hbi.alloc hbi.size _
          have kx := heap_alloc_new wr (Obj.cells #[Value.int IntKind.i64 P[k][t].box, Value.int IntKind.i64 P[k][t].col, Value.int IntKind.i64 P[k][t].tier, Value.int IntKind.u8 P[k][t].half] 42)
          have hsx : wr.heap.size < (wr.alloc (Obj.cells #[Value.int IntKind.i64 P[k][t].box, Value.int IntKind.i64 P[k][t].col, Value.int IntKind.i64 P[k][t].tier, Value.int IntKind.u8 P[k][t].half] 42)).heap.size := by simp
          generalize (wr.alloc (Obj.cells #[Value.int IntKind.i64 P[k][t].box, Value.int IntKind.i64 P[k][t].col, Value.int IntKind.i64 P[k][t].tier, Value.int IntKind.u8 P[k][t].half] 42)) = Wx at *
          have cx : ∀ w', From Wx w' → w'.cell? ⟨wr.heap.size, 0, none⟩ = some (Value.int IntKind.i64 P[k][t].box) := fun w' hb => by
            rw [cell_of_row w' wr.heap.size 0 _ _ _ ((hb.block _ hsx).trans kx)]; rfl
          have CX := Lib.hid cx
          clear cx kx HLI
          have hw0 : ∀ w', From Wx w' → From W0 w' := fun w' hC => hbx.trans (hC.mono hbx.size)
          have HW0 := Lib.hid hw0
          clear hw0
          refine wp_region_below (by kernel_rfl) (by kernel_rfl) Wx.heap.size ?_
          repeat (first | go_big_quiet_skip | (go_big_quiet_want; refine quiet_ld _ _ rfl _ rfl _ (fun w' hC => run_load_slice Try.underlying26 (CP.out w' (HW0.out w' hC))) ?_; simp only [Act.put, List.setIfInBounds_toArray, List.set_cons_succ, List.set_cons_zero]; go_big_quiet_on) | (go_big_quiet_want; refine quiet_ld _ _ rfl _ rfl _ (fun w' hC => run_load_slice Try.underlying26 (CQ.out w' (HW0.out w' hC))) ?_; simp only [Act.put, List.setIfInBounds_toArray, List.set_cons_succ, List.set_cons_zero]; go_big_quiet_on) | (go_big_quiet_want; refine quiet_ld _ _ rfl _ rfl _ (fun w' hC => HL.out w' (HW0.out w' hC)) ?_; simp only [Act.put, List.setIfInBounds_toArray, List.set_cons_succ, List.set_cons_zero]; go_big_quiet_on) | (go_big_quiet_want; refine quiet_ld _ _ rfl _ rfl _ (fun w' hC => HL'.out w' (HW0.out w' hC)) ?_; simp only [Act.put, List.setIfInBounds_toArray, List.set_cons_succ, List.set_cons_zero]; go_big_quiet_on) | go_big_quiet_step (first | (intro hC; rfl) | (intro hC; exact ⟨rfl, rfl⟩) | (intro hC; (with_reducible refine (indexStowed (some ⟨bi, offi, none⟩) ci P[k] _ rfl 44 #[.pointer (some ⟨wr.heap.size, 0, none⟩)] (fun y => y.box == P[k][t].box) _ ((hri.below (HW0.out _ hC) (Nat.le_refl _)).more (HW0.out _ hC).size) (by omega) sameFn_cf (same_tells CX.out hC _)).mono ?_); rintro e w' ⟨rfl, hb3⟩; exact ⟨rfl, hC.trans (hb3.mono hC.size)⟩) | (intro hC; (with_reducible refine (indexStowed Aj cj Q[k] _ rfl 44 #[.pointer (some ⟨wr.heap.size, 0, none⟩)] (fun y => y.box == P[k][t].box) _ ((hrj.below (HW0.out _ hC) (Nat.le_refl _)).more (HW0.out _ hC).size) (by omega) sameFn_cf (same_tells CX.out hC _)).mono ?_); rintro e w' ⟨rfl, hb3⟩; exact ⟨rfl, hC.trans (hb3.mono hC.size)⟩)))
          refine wpQuiet_nil ?_
          intro w1 hC1
          have hb1 := HW0.out w1 hC1
          clear CX HW0 hbx hsx
          obtain ⟨k1, hk1, e1, _, f1⟩ : ∃ k1, ∃ h : k1 < P[k].length, idx (fun y : Stowed => y.box == P[k][t].box) P[k] = k1 ∧ (P[k][k1].box == P[k][t].box) = true ∧ P[k].find? (fun y : Stowed => y.box == P[k][t].box) = some P[k][k1] := by
            rcases idx_cases (fun y : Stowed => y.box == P[k][t].box) P[k] with h2 | h2
            · have := h2.2 _ (List.getElem_mem hti)
              simp at this
            · exact h2
          simp only [e1]
          clear e1
          rcases idx_cases (fun y : Stowed => y.box == P[k][t].box) Q[k] with h2 | ⟨k2, hk2, e2, _, f2⟩
          · simp only [h2.1]
            have hst := rowStep_none (a := P[k]) (acc := rowAcc P[k] Q[k] t (sameAcc P Q frm k)) h2
            have HST := Lib.hid hst
            clear hst h2 f1
            go_wp2
            go_roundw
            case rel => exact ⟨t + 1, by omega, by go_num, by rw [HRS.out, HST.out], by rw [HRS.out, HST.out], hb1⟩
            case measure => simp [intOf]; omega
          · simp only [e2]
            have hst := rowStep_some (acc := rowAcc P[k] Q[k] t (sameAcc P Q frm k)) f1 f2
            have HST := Lib.hid hst
            clear hst e2 f1 f2
            obtain ⟨_, _, ea, _, hls⟩ := Stowed.ldSlot hri k1 hk1
            injection ea with ea
            injection ea with ea1 ea2
            subst ea1
            subst ea2
            obtain ⟨bq, offq, rfl, _, hls'⟩ := Stowed.ldSlot hrj k2 hk2
            have HS1 := Lib.hid hls
            have HS2 := Lib.hid hls'
            clear hls hls'
            have heq := Slot.eql_ P[k][k1].slot Q[k][k2].slot
            have HEQ := Lib.hid heq
            clear heq
            go_wp2
            have hw0 : ∀ w', From w1 w' → From W0 w' := fun w' hC => hb1.trans (hC.mono hb1.size)
            have HW0 := Lib.hid hw0
            clear hw0
            have heq := HEQ.out
            refine wp_region_below (by kernel_rfl) (by kernel_rfl) w1.heap.size ?_
            repeat (first | go_big_quiet_skip | (go_big_quiet_want; refine quiet_ld _ _ rfl _ rfl _ (fun w' hC => run_load_slice Try.underlying26 (CP.out w' (HW0.out w' hC))) ?_; simp only [Act.put, List.setIfInBounds_toArray, List.set_cons_succ, List.set_cons_zero]; go_big_quiet_on) | (go_big_quiet_want; refine quiet_ld _ _ rfl _ rfl _ (fun w' hC => run_load_slice Try.underlying26 (CQ.out w' (HW0.out w' hC))) ?_; simp only [Act.put, List.setIfInBounds_toArray, List.set_cons_succ, List.set_cons_zero]; go_big_quiet_on) | (go_big_quiet_want; refine quiet_ld _ _ rfl _ rfl _ (fun w' hC => HL.out w' (HW0.out w' hC)) ?_; simp only [Act.put, List.setIfInBounds_toArray, List.set_cons_succ, List.set_cons_zero]; go_big_quiet_on) | (go_big_quiet_want; refine quiet_ld _ _ rfl _ rfl _ (fun w' hC => HL'.out w' (HW0.out w' hC)) ?_; simp only [Act.put, List.setIfInBounds_toArray, List.set_cons_succ, List.set_cons_zero]; go_big_quiet_on) | (go_big_quiet_want; refine quiet_ld _ _ rfl _ rfl _ (fun w' hC => HS1.out w' (HW0.out w' hC)) ?_; simp only [Act.put, List.setIfInBounds_toArray, List.set_cons_succ, List.set_cons_zero]; go_big_quiet_on) | (go_big_quiet_want; refine quiet_ld _ _ rfl _ rfl _ (fun w' hC => HS2.out w' (HW0.out w' hC)) ?_; simp only [Act.put, List.setIfInBounds_toArray, List.set_cons_succ, List.set_cons_zero]; go_big_quiet_on) | go_big_quiet_step (first | (intro hC; rfl) | (intro hC; exact ⟨rfl, rfl⟩)))
            refine wpQuiet_nil ?_
            intro w2 hC2
            have hb2 := HW0.out w2 hC2
            clear heq
            by_cases hsl : P[k][k1].slot = Q[k][k2].slot
            · have hd : decide (P[k][k1].slot = Q[k][k2].slot) = true := by simp [hsl]
              have HSL := Lib.hid hsl
              clear hsl
              go_wp2
              go_roundw
              case rel => exact ⟨t + 1, by omega, by go_num, by rw [HRS.out, HST.out, if_pos HSL.out]; go_num, by rw [HRS.out, HST.out]; go_num, hb2⟩
              case measure => simp [intOf]; omega
            · have hd : decide (P[k][k1].slot = Q[k][k2].slot) = false := by simp [hsl]
              have HSL := Lib.hid hsl
              clear hsl
              go_wp2
              go_roundw
              case rel => exact ⟨t + 1, by omega, by go_num, by rw [HRS.out, HST.out, if_neg HSL.out]; go_num, by rw [HRS.out, HST.out]; go_num, hb2⟩
              case measure => simp [intOf]; omega
        · have het : t = P[k].length := by omega
          have hfin : sameAcc P Q frm (k + 1) = rowAcc P[k] Q[k] t (sameAcc P Q frm k) := by
            rw [het]
            show (if frm ≤ (k : Int) then rowAcc (P.getD k []) (Q.getD k []) (P.getD k []).length (sameAcc P Q frm k) else sameAcc P Q frm k) = _
            rw [if_pos hfk, HPK.out, HQK.out]
          have HF := Lib.hid hfin
          clear hfin het
          go_wp2
          go_roundw
          case rel => exact ⟨k + 1, by omega, .inl (by omega), by go_num, by rw [HF.out], by rw [HF.out], hbi⟩
          case measure => simp [intOf]; omega
    · have hfin : sameAcc P Q frm k = sameAcc P Q frm M := by
        have := HK0.out
        rcases hkM with h | h
        · obtain rfl : k = M := by omega
          rfl
        · rw [sameAcc_zero P Q frm k (by omega), sameAcc_zero P Q frm M (by omega)]
      have HF := Lib.hid hfin
      clear hfin
      go_wp2
      go_ret2
      exact ⟨by rw [← HF.out]; rfl, HB0.out.trans (hb.mono HB0.out.size)⟩
end Go.Proofs.Ytccjddbcdmgefaa
