/-
  The reference for Same counts as sameAcc says.
-/
import Derived.Test.YtccjddbcdmgefaaSame
namespace Go.Proofs.Ytccjddbcdmgefaa
open Go.RowKit

def atSlot : Option Slot → Slot
  | some s => s
  | none => ⟨0, 0, 0⟩
theorem atVal_eq (o : Option Slot) : atVal o = .tuple #[(atSlot o).val, .bool o.isSome] := by cases o <;> rfl

theorem at_any' (A : Option Addr) (c n : Nat) (l : List Stowed) (hn : n = l.length) (id : Int) (w : World) (hA : Rd w w.heap.size 4 A (l.map Stowed.cells)) (hl : l.length ≤ 1000000) :
    Calls Try.prog 46 #[.slice A n c, .int .i64 id] w fun e w' => e = .returned (.tuple #[(atSlot (atOpt l id)).val, .bool (atOpt l id).isSome]) ∧ From w w' := by
  subst hn
  refine (at_any A c l id w hA hl).mono ?_
  rintro e w' ⟨rfl, h⟩
  rw [atVal_eq]
  exact ⟨rfl, h⟩

theorem atOpt_self {a : List Stowed} {t : Nat} (h : t < a.length) : atOpt a a[t].box = some (atSlot (atOpt a a[t].box)) := by
  unfold atOpt
  cases hf : a.find? (fun y => y.box == a[t].box) with
  | none =>
    rw [List.find?_eq_none] at hf
    have := hf _ (List.getElem_mem h)
    simp at this
  | some y => rfl

theorem zero_slot (w : World) : (zeroValue 40).run Try.prog w = .ok (Slot.val ⟨0, 0, 0⟩) w := by kernel_rfl
theorem slot_size : (Try.prog.info? 40).map (·.size) = some 3 := by kernel_rfl

theorem Stowed.ldBox {w : World} {B : Nat} {A : Option Addr} {l : List Stowed} (h : Rd w B 4 A (l.map Stowed.cells)) (k : Nat) (hk : k < l.length) :
    ∃ b off, A = some ⟨b, off, none⟩ ∧ b < B ∧ ∀ w', Below B w w' → (loadVar 3 ⟨b, off + k * 4, none⟩).run Try.prog w' = .ok (.int .i64 l[k].box) w' := by
  obtain ⟨b, off, e, hlt, hc⟩ := Stowed.at_ h k hk
  refine ⟨b, off, e, hlt, fun w' hb => ?_⟩
  obtain ⟨h0, _, _, _⟩ := hc w' hb
  go_simp

set_option maxRecDepth 100000 in
set_option maxHeartbeats 4000000 in
theorem ref_same (v v' : PlanV) (p q : Plan) (frm : Int) (w : World) (h : RdPlan w w.heap.size v p) (h' : RdPlan w w.heap.size v' q)
    (l1 : p.states.length ≤ 1000) (l2 : q.states.length ≤ 1000) (l3 : ∀ l ∈ p.states, l.length ≤ 1000) (l4 : ∀ l ∈ q.states, l.length ≤ 1000) :
    Calls Try.prog 30 #[v.val p.states.length p.water.length, v'.val q.states.length q.water.length, .int .i64 frm] w fun e w' =>
      e = .returned (.tuple #[.int .i64 (sameAcc p.states q.states frm (min p.states.length q.states.length)).1, .int .i64 (sameAcc p.states q.states frm (min p.states.length q.states.length)).2]) ∧ Below w.heap.size w w' := by
  obtain ⟨A, c, A', c'⟩ := v
  obtain ⟨D, d, D', d'⟩ := v'
  obtain ⟨P, PW⟩ := p
  obtain ⟨Q, QW⟩ := q
  simp only at *
  have hP := h.1
  have hQ := h'.1
  simp only at hP hQ
  clear h h'
  obtain ⟨M, hM1, hM2, hM3⟩ : ∃ M : Nat, M ≤ P.length ∧ M ≤ Q.length ∧ M = min P.length Q.length := ⟨min P.length Q.length, by omega, by omega, rfl⟩
  have hM4 : P.length ≤ M ∨ Q.length ≤ M := by omega
  rw [← hM3]
  clear hM3
  go_enter Try.func30, Try.ntmps30
  go_wp2
  obtain ⟨W0, hW⟩ : ∃ W0, W0 = ((w.alloc (Obj.cells #[Value.slice A P.length c, Value.slice A' PW.length c'] 29)).alloc (Obj.cells #[Value.slice D Q.length d, Value.slice D' QW.length d'] 29)) := ⟨_, rfl⟩
  rw [← hW]
  have hb0 : Below w.heap.size w W0 := by rw [hW]; exact ((Below.refl _ _).alloc (Nat.le_refl _) _).alloc (by simp) _
  have hs0 : W0.heap.size = w.heap.size + 2 := by rw [hW]; exact size_alloc2 _ _ _
  have kp : W0.heap[w.heap.size]? = some (.cells #[Value.slice A P.length c, Value.slice A' PW.length c'] 29 (0, 0)) := by rw [hW]; exact heap_alloc2_old w _ _
  have kq : W0.heap[w.heap.size + 1]? = some (.cells #[Value.slice D Q.length d, Value.slice D' QW.length d'] 29 (0, 0)) := by rw [hW]; exact heap_alloc2_new w _ _
  have hP0 := (hP.below hb0 (Nat.le_refl _)).more hb0.size
  have hQ0 := (hQ.below hb0 (Nat.le_refl _)).more hb0.size
  clear hW hP hQ
  have cp : ∀ w', From W0 w' → w'.cell? ⟨w.heap.size, 0, none⟩ = some (Value.slice A P.length c) := fun w' hb => by
    rw [cell_of_row w' w.heap.size 0 _ _ _ ((hb.block _ (by omega)).trans kp)]; rfl
  have cq : ∀ w', From W0 w' → w'.cell? ⟨w.heap.size + 1, 0, none⟩ = some (Value.slice D Q.length d) := fun w' hb => by
    rw [cell_of_row w' (w.heap.size + 1) 0 _ _ _ ((hb.block _ (by omega)).trans kq)]; rfl
  clear kp kq
  have HB0 := Lib.hid hb0
  have HS0 := Lib.hid hs0
  have CP := Lib.hid cp
  have CQ := Lib.hid cq
  clear hb0 hs0 cp cq
  go_loopw [8, 9, 10] (fun s b i wr => ∃ k : Nat, k ≤ M ∧ i = .int .i64 k ∧ s = .int .i64 (sameAcc P Q frm k).1 ∧ b = .int .i64 (sameAcc P Q frm k).2 ∧ From W0 wr) (fun _ _ i _ => M - (intOf i).toNat)
  case atStart => exact ⟨0, by omega, rfl, rfl, rfl, Below.refl _ _⟩
  case round =>
    obtain ⟨k, hkM, rfl, rfl, rfl, hb⟩ := hrel
    have cpr := CP.out wr hb
    have cqr := CQ.out wr hb
    by_cases hlt : k < M
    · have hd1 : decide (k < P.length) = true := by simp; omega
      have hd2 : decide (k < Q.length) = true := by simp; omega
      go_wp2
      clear cpr cqr hd1 hd2
      obtain ⟨wo, hwo⟩ : ∃ wo : World, wo = wr := ⟨_, rfl⟩
      subst hwo
      obtain ⟨a, ha⟩ : ∃ a, P[k]? = some a := ⟨P[k], by simp⟩
      obtain ⟨a', ha'⟩ : ∃ a', Q[k]? = some a' := ⟨Q[k], by simp⟩
      have hPk : P.getD k [] = a := by simp [List.getD, ha]
      have hQk : Q.getD k [] = a' := by simp [List.getD, ha']
      have hla : a.length ≤ 1000 := l3 _ (List.mem_of_getElem? ha)
      have hlb : a'.length ≤ 1000 := l4 _ (List.mem_of_getElem? ha')
      have hpa : (plainStates P)[k]? = some (a.length, a.length, a.map Stowed.cells) := by simp [plainStates, ha]
      have hqa : (plainStates Q)[k]? = some (a'.length, a'.length, a'.map Stowed.cells) := by simp [plainStates, ha']
      obtain ⟨b, off, Ai, ci, rfl, hblt, _, hri, hld⟩ := hP0.ld Try.underlying31 hpa
      obtain ⟨b', off', Aj, cj, rfl, hblt', _, hrj, hld'⟩ := hQ0.ld Try.underlying31 hqa
      have hle := sameAcc_le P Q frm l3 k
      have HLE := Lib.hid hle
      have HPK := Lib.hid hPk
      have HQK := Lib.hid hQk
      clear hle hPk hQk l3 l4 ha ha' hpa hqa
      have HL := Lib.hid hld
      have HL' := Lib.hid hld'
      clear hld hld'
      by_cases hfk : frm ≤ (k : Int)
      · have hfin : sameAcc P Q frm (k + 1) = rowAcc a a' a.length (sameAcc P Q frm k) := by
          show (if frm ≤ (k : Int) then rowAcc (P.getD k []) (Q.getD k []) (P.getD k []).length (sameAcc P Q frm k) else sameAcc P Q frm k) = _
          rw [if_pos hfk, HPK.out, HQK.out]
        have HF := Lib.hid hfin
        clear hfin HPK HQK
        go_loopw [8, 9, 11] (fun s b i wr => ∃ t : Nat, t ≤ a.length ∧ i = .int .i64 t ∧ s = .int .i64 (rowAcc a a' t (sameAcc P Q frm k)).1 ∧ b = .int .i64 (rowAcc a a' t (sameAcc P Q frm k)).2 ∧ From W0 wr) (fun _ _ i _ => a.length - (intOf i).toNat)
        case atStart => exact ⟨0, by omega, rfl, rfl, rfl, hb⟩
        case round =>
          obtain ⟨t, ht, rfl, rfl, rfl, hbi⟩ := hrel
          have hacc := rowAcc_le a a' (sameAcc P Q frm k) (1000 * k) HLE.out.1 HLE.out.2 t ht
          obtain ⟨ha1, ha2⟩ := hacc
          have cpr := CP.out wr hbi
          have cqr := CQ.out wr hbi
          have hdk : decide (frm ≤ (k : Int)) = true := by simp [hfk]
          by_cases hti : t < a.length
          · have hdt : decide (t < a.length) = true := by simp [hti]
            obtain ⟨bi, offi, rfl, hbi1, hldi⟩ := Stowed.ldBox hri t hti
            have HLI := Lib.hid hldi
            have hrs := rowAcc_succ a a' t (sameAcc P Q frm k) hti
            have HRS := Lib.hid hrs
            clear hldi hrs
            go_wp2_with (first
              | (refine wpList_ld rfl _ _ rfl _ rfl _ (HL.out _ hbi) ?_))
            clear cpr cqr hdt
            refine wp_region_drawn 18 2 wr.heap.size (by kernel_rfl) (by kernel_rfl) (by decide) (Nat.le_refl _) ?_
            simp only [List.take_succ_cons, List.take_zero, List.drop_succ_cons, List.drop_zero]
            have hw0 : ∀ w', From wr w' → From W0 w' := fun w' hC => hbi.trans (hC.mono hbi.size)
            have HW0 := Lib.hid hw0
            clear hw0
            repeat (first | (refine wpG_skip rfl ?_; simp only [Act.put, List.setIfInBounds_toArray, List.set_cons_succ, List.set_cons_zero]) | (refine wpG_calm rfl rfl (fun K hK => ?_); refine quiet_ld _ _ rfl _ rfl _ (fun w' hC => run_load_slice Try.underlying26 (CP.out w' (HW0.out w' hC))) ?_; simp only [Act.put, List.setIfInBounds_toArray, List.set_cons_succ, List.set_cons_zero]; refine hK _ ?_; clear hK K) | (refine wpG_calm rfl rfl (fun K hK => ?_); refine quiet_ld _ _ rfl _ rfl _ (fun w' hC => HL.out w' (HW0.out w' hC)) ?_; simp only [Act.put, List.setIfInBounds_toArray, List.set_cons_succ, List.set_cons_zero]; refine hK _ ?_; clear hK K) | (refine wpG_calm rfl rfl (fun K hK => ?_); refine quiet_ld _ _ rfl _ rfl _ (fun w' hC => HLI.out w' (HW0.out w' hC)) ?_; simp only [Act.put, List.setIfInBounds_toArray, List.set_cons_succ, List.set_cons_zero]; refine hK _ ?_; clear hK K) | (refine wpG_calm rfl rfl (fun K hK => ?_); go_big_quiet_op; first | (refine hK _ ?_; clear hK K) | (apply Exists.intro; refine ⟨fun w' hC => ?_, hK _ ?_⟩; (first | rfl | exact ⟨rfl, rfl⟩); clear hK K)) | (apply wpG_call rfl; (intro w' hC; go_simp; exact ⟨rfl, rfl⟩); (intro w' hC; ((with_reducible refine (at_any' (some ⟨bi, offi, none⟩) ci a.length a rfl a[t].box _ ((hri.below (HW0.out _ hC) (Nat.le_refl _)).more (HW0.out _ hC).size) (by omega)).mono ?_); rintro e w' ⟨rfl, hb3⟩; exact ⟨rfl, hb3⟩)); simp only [Act.put, List.setIfInBounds_toArray, List.set_cons_succ, List.set_cons_zero]))
            refine wpG_nil ?_
            refine loose_var (T := 40) (n := 3) (z := Slot.val ⟨0, 0, 0⟩) (v := (atSlot (atOpt a a[t].box)).val) (Nat.le_refl _) rfl rfl zero_slot rfl slot_size (fun _ => rfl) rfl (fun _ => rfl) (fun _ => rfl) rfl (by simp [Value.oneCell', Value.cells]) ?_
            intro g w2 hg hg2 hcell hb2
            simp only [Act.put, List.setIfInBounds_toArray, List.set_cons_succ, List.set_cons_zero]
            repeat (first | go_big_quiet_skip | go_big_quiet_step (first | (intro hC; rfl) | (intro hC; exact ⟨rfl, rfl⟩)))
            refine wpQuiet_nil ?_
            intro w3 hb3
            have hb03 : From W0 w3 := hbi.trans ((hb2.trans (hb3.mono hb2.size)).mono hbi.size)
            have hg3 : w3.heap[g]? = some (.cells (atSlot (atOpt a a[t].box)).val.cells 40 (0, 0)) := (hb3.block _ hg2).trans hcell
            have hgl3 : g < w3.heap.size := Nat.lt_of_lt_of_le hg2 hb3.size
            have HG3 := Lib.hid hg3
            clear hb2 hb3 hcell hg3 hg2 HW0
            go_wp2
            refine wp_region_drawn 18 2 w3.heap.size (by kernel_rfl) (by kernel_rfl) (by decide) (Nat.le_refl _) ?_
            simp only [List.take_succ_cons, List.take_zero, List.drop_succ_cons, List.drop_zero]
            have hw0 : ∀ w', From w3 w' → From W0 w' := fun w' hC => hb03.trans (hC.mono hb03.size)
            have HW0 := Lib.hid hw0
            clear hw0
            repeat (first | (refine wpG_skip rfl ?_; simp only [Act.put, List.setIfInBounds_toArray, List.set_cons_succ, List.set_cons_zero]) | (refine wpG_calm rfl rfl (fun K hK => ?_); refine quiet_ld _ _ rfl _ rfl _ (fun w' hC => run_load_slice Try.underlying26 (CP.out w' (HW0.out w' hC))) ?_; simp only [Act.put, List.setIfInBounds_toArray, List.set_cons_succ, List.set_cons_zero]; refine hK _ ?_; clear hK K) | (refine wpG_calm rfl rfl (fun K hK => ?_); refine quiet_ld _ _ rfl _ rfl _ (fun w' hC => run_load_slice Try.underlying26 (CQ.out w' (HW0.out w' hC))) ?_; simp only [Act.put, List.setIfInBounds_toArray, List.set_cons_succ, List.set_cons_zero]; refine hK _ ?_; clear hK K) | (refine wpG_calm rfl rfl (fun K hK => ?_); refine quiet_ld _ _ rfl _ rfl _ (fun w' hC => HL.out w' (HW0.out w' hC)) ?_; simp only [Act.put, List.setIfInBounds_toArray, List.set_cons_succ, List.set_cons_zero]; refine hK _ ?_; clear hK K) | (refine wpG_calm rfl rfl (fun K hK => ?_); refine quiet_ld _ _ rfl _ rfl _ (fun w' hC => HL'.out w' (HW0.out w' hC)) ?_; simp only [Act.put, List.setIfInBounds_toArray, List.set_cons_succ, List.set_cons_zero]; refine hK _ ?_; clear hK K) | (refine wpG_calm rfl rfl (fun K hK => ?_); refine quiet_ld _ _ rfl _ rfl _ (fun w' hC => HLI.out w' (HW0.out w' hC)) ?_; simp only [Act.put, List.setIfInBounds_toArray, List.set_cons_succ, List.set_cons_zero]; refine hK _ ?_; clear hK K) | (refine wpG_calm rfl rfl (fun K hK => ?_); go_big_quiet_op; first | (refine hK _ ?_; clear hK K) | (apply Exists.intro; refine ⟨fun w' hC => ?_, hK _ ?_⟩; (first | rfl | exact ⟨rfl, rfl⟩); clear hK K)) | (apply wpG_call rfl; (intro w' hC; go_simp; exact ⟨rfl, rfl⟩); (intro w' hC; ((with_reducible refine (at_any' Aj cj a'.length a' rfl a[t].box _ ((hrj.below (HW0.out _ hC) (Nat.le_refl _)).more (HW0.out _ hC).size) (by omega)).mono ?_); rintro e w' ⟨rfl, hb3⟩; exact ⟨rfl, hb3⟩)); simp only [Act.put, List.setIfInBounds_toArray, List.set_cons_succ, List.set_cons_zero]))
            refine wpG_nil ?_
            refine loose_var (T := 40) (n := 3) (z := Slot.val ⟨0, 0, 0⟩) (v := (atSlot (atOpt a' a[t].box)).val) (Nat.le_refl _) rfl rfl zero_slot rfl slot_size (fun _ => rfl) rfl (fun _ => rfl) (fun _ => rfl) rfl (by simp [Value.oneCell', Value.cells]) ?_
            intro g2 w4 hg2 hg4 hcell4 hb4
            simp only [Act.put, List.setIfInBounds_toArray, List.set_cons_succ, List.set_cons_zero]
            repeat (first | go_big_quiet_skip | go_big_quiet_step (first | (intro hC; rfl) | (intro hC; exact ⟨rfl, rfl⟩)))
            refine wpQuiet_nil ?_
            intro w5 hb5
            have hb05 : From W0 w5 := hb03.trans ((hb4.trans (hb5.mono hb4.size)).mono hb03.size)
            have hg5 := (hb5.block _ hg4).trans hcell4
            have hg5' := ((hb4.trans (hb5.mono hb4.size)).block _ hgl3).trans HG3.out
            have hl1 : (loadVar 40 ⟨g, 0, none⟩).run Try.prog w5 = .ok (atSlot (atOpt a a[t].box)).val w5 := run_loadVar_row w5 g _ _ _ _ _ hg5' Try.underlying40 rfl slot_size
            have hl2 : (loadVar 40 ⟨g2, 0, none⟩).run Try.prog w5 = .ok (atSlot (atOpt a' a[t].box)).val w5 := run_loadVar_row w5 g2 _ _ _ _ _ hg5 Try.underlying40 rfl slot_size
            have HL1 := Lib.hid hl1
            have HL2 := Lib.hid hl2
            have HSELF := Lib.hid (atOpt_self hti)
            clear hb4 hb5 hcell4 hg5 hg5' HG3 HW0 hgl3 hg4 hl1 hl2
            have hstep : rowStep a a' (rowAcc a a' t (sameAcc P Q frm k)) a[t] = (match atOpt a' a[t].box with
              | none => rowAcc a a' t (sameAcc P Q frm k)
              | some s => ((rowAcc a a' t (sameAcc P Q frm k)).1 + (if atOpt a a[t].box = some s then 1 else 0), (rowAcc a a' t (sameAcc P Q frm k)).2 + 1)) := rfl
            have HST := Lib.hid hstep
            clear hstep
            cases ho : atOpt a' a[t].box with
            | none =>
              have HO := Lib.hid ho
              have hno : (none : Option Slot).isSome = false := rfl
              clear ho
              go_wp2
              go_roundw
              case rel => exact ⟨t + 1, by omega, by go_num, by rw [HRS.out, HST.out, HO.out], by rw [HRS.out, HST.out, HO.out], hb05⟩
              case measure => simp [intOf]; omega
            | some s2 =>
              have heq := Slot.eql_ (atSlot (atOpt a a[t].box)) s2
              have hl2 : (loadVar 40 ⟨g2, 0, none⟩).run Try.prog w5 = .ok s2.val w5 := by
                have := HL2.out
                rw [ho] at this
                exact this
              have HL3 := Lib.hid hl2
              clear hl2
              have HO := Lib.hid ho
              clear ho
              have hso : (some s2 : Option Slot).isSome = true := rfl
              by_cases hsl : atSlot (atOpt a a[t].box) = s2
              · have hd : decide (atSlot (atOpt a a[t].box) = s2) = true := by simp [hsl]
                have hif : atOpt a a[t].box = some s2 := by rw [HSELF.out, hsl]
                have HIF := Lib.hid hif
                clear hsl hif
                go_wp2_with (first | (refine wpList_ldw rfl _ _ rfl _ rfl _ HL1.out ?_) | (refine wpList_ldw rfl _ _ rfl _ rfl _ HL3.out ?_))
                go_roundw
                case rel => exact ⟨t + 1, by omega, by go_num, by rw [HRS.out, HST.out, HO.out]; simp only [HIF.out, if_true]; go_num, by rw [HRS.out, HST.out, HO.out]; go_num, hb05⟩
                case measure => simp [intOf]; omega
              · have hd : decide (atSlot (atOpt a a[t].box) = s2) = false := by simp [hsl]
                have hif : ¬ atOpt a a[t].box = some s2 := by rw [HSELF.out]; intro e; injection e with e; exact hsl e
                have HIF := Lib.hid hif
                clear hsl hif
                go_wp2_with (first | (refine wpList_ldw rfl _ _ rfl _ rfl _ HL1.out ?_) | (refine wpList_ldw rfl _ _ rfl _ rfl _ HL3.out ?_))
                go_roundw
                case rel => exact ⟨t + 1, by omega, by go_num, by rw [HRS.out, HST.out, HO.out]; simp only [if_neg HIF.out]; go_num, by rw [HRS.out, HST.out, HO.out]; go_num, hb05⟩
                case measure => simp [intOf]; omega
          · have hdt : decide (t < a.length) = false := by simp; omega
            have het : t = a.length := by omega
            have hfin : sameAcc P Q frm (k + 1) = rowAcc a a' t (sameAcc P Q frm k) := by rw [HF.out, het]
            have HF2 := Lib.hid hfin
            clear hfin het
            go_wp2_with (first | (refine wpList_ld rfl _ _ rfl _ rfl _ (HL.out _ hbi) ?_))
            go_roundw
            case rel => exact ⟨k + 1, by omega, by go_num, by rw [HF2.out], by rw [HF2.out], hbi⟩
            case measure => simp [intOf]; omega
      · have hfin : sameAcc P Q frm (k + 1) = sameAcc P Q frm k := by
          show (if frm ≤ (k : Int) then rowAcc (P.getD k []) (Q.getD k []) (P.getD k []).length (sameAcc P Q frm k) else sameAcc P Q frm k) = _
          rw [if_neg hfk]
        have HF := Lib.hid hfin
        have hdk : decide (frm ≤ (k : Int)) = false := by simp; omega
        have cpr := CP.out wo hb
        clear hfin
        refine wp_loop_rounds 1 ?_
        rw [rounds_succ]
        by_cases hta : 0 < a.length
        · have hdt : decide (0 < a.length) = true := by simp [hta]
          go_wp2_with (first | (refine wpList_ld rfl _ _ rfl _ rfl _ (HL.out _ hb) ?_))
          go_roundw
          case rel => exact ⟨k + 1, by omega, by go_num, by rw [HF.out], by rw [HF.out], hb⟩
          case measure => simp [intOf]; omega
        · have hdt : decide (0 < a.length) = false := decide_eq_false hta
          go_wp2_with (first | (refine wpList_ld rfl _ _ rfl _ rfl _ (HL.out _ hb) ?_))
          go_roundw
          case rel => exact ⟨k + 1, by omega, by go_num, by rw [HF.out], by rw [HF.out], hb⟩
          case measure => simp [intOf]; omega
    · obtain rfl : k = M := by omega
      by_cases hdp : k < P.length
      · have hd1 : decide (k < P.length) = true := by simp [hdp]
        have hd2 : decide (k < Q.length) = false := by simp; omega
        go_wp2
        go_ret2
        exact ⟨rfl, HB0.out.trans (hb.mono HB0.out.size)⟩
      · have hd1 : decide (k < P.length) = false := by simp; omega
        go_wp2
        go_ret2
        exact ⟨rfl, HB0.out.trans (hb.mono HB0.out.size)⟩
end Go.Proofs.Ytccjddbcdmgefaa
