/-
  The law ChangeSmall: a closed statement.
-/
import Derived.Test.YtccjddbcdmgefaaSmallR
import Derived.Test.YtccjddbcdmgefaaOwnP
import Derived.Test.YtccjddbcdmgefaaMainB
namespace Go.Proofs.Ytccjddbcdmgefaa
open Go.RowKit

theorem allC_len : allC.length = 36 := by simp [allC]
theorem allC_get (m : Nat) (h : m < 36) : allC[m]? = some (chgAt m) := by
  unfold allC
  rw [List.getElem?_map, List.getElem?_range h]
  rfl
theorem allC_take (m : Nat) (h : m < 36) : (allC.take (m + 1)).map Chg.cells = (allC.take m).map Chg.cells ++ [(chgAt m).cells] := by
  have h1 : m < allC.length := by rw [allC_len]; exact h
  rw [List.take_succ_eq_append_getElem h1, List.map_append]
  have h2 := allC_get m h
  rw [List.getElem?_eq_getElem h1] at h2
  injection h2 with h2
  rw [h2]
  rfl
theorem chgAt_kind (m : Nat) (h : m < 36) : 0 ≤ (chgAt m).kind ∧ (chgAt m).kind ≤ 255 := by
  unfold chgAt
  simp only
  omega
theorem chgAt_cells (k j : Nat) (hj : j < 6) : (chgAt (6 * k + j)).cells = [.int .u8 (k : Int), .int .i64 ((j : Int) - 1), .int .i64 (j : Int), .int .i64 (kil j)] := by
  unfold chgAt Chg.cells
  have e1 : (6 * k + j) / 6 = k := by omega
  have e2 : (6 * k + j) % 6 = j := by omega
  simp only [e1, e2]

set_option maxRecDepth 100000 in
set_option maxHeartbeats 8000000 in
theorem main_small (w : World) : Calls Try.prog 5 #[] w fun e w' => e = .returned (.bool true) ∧ Below w.heap.size w w' := by
  go_enter Try.func5, Try.ntmps5
  go_wp2
  go_loopw [1, 14] (fun v i wr => ∃ k : Nat, k ≤ 6 ∧ i = .int .i64 k ∧ (∃ D d, v = .slice D (6 * k) d ∧ OwnS wr w.heap.size 37 4 D d ((allC.take (6 * k)).map Chg.cells)) ∧ From w wr) (fun _ i _ => 6 - (intOf i).toNat)
  case atStart => exact ⟨0, by omega, rfl, ⟨none, 0, rfl, OwnS.nil _ _ _ _⟩, Below.refl _ _⟩
  case round =>
    obtain ⟨k, hk, rfl, ⟨D, d, rfl, hown⟩, hbr⟩ := hrel
    by_cases hlt : k < 6
    · have HOWN := Lib.hid hown
      have HBR := Lib.hid hbr
      have hd6 : ((k : Int) < 6) = True := by simp; omega
      clear hown hbr
      go_wp2
      go_loopw [1, 17] (fun v i wr => ∃ j : Nat, j ≤ 6 ∧ i = .int .i64 j ∧ (∃ D d, v = .slice D (6 * k + j) d ∧ OwnS wr w.heap.size 37 4 D d ((allC.take (6 * k + j)).map Chg.cells)) ∧ From w wr) (fun _ i _ => 6 - (intOf i).toNat)
      case atStart => exact ⟨0, by omega, rfl, ⟨D, d, rfl, HOWN.out⟩, HBR.out⟩
      case round =>
        clear HOWN HBR
        obtain ⟨j, hj, rfl, ⟨D, d, rfl, hown⟩, hbr⟩ := hrel
        by_cases hjt : j < 6
        · have HCE := Lib.hid (chgAt_cells k j hjt)
          have HST := Lib.hid (allC_take (6 * k + j) (by omega))
          have hlen : ((allC.take (6 * k + j)).map Chg.cells).length = 6 * k + j := by rw [List.length_map, List.length_take, allC_len]; omega
          have HLK : Hid ((loadVar 3 ⟨wr.heap.size, j, none⟩).run Try.prog (wr.alloc (Obj.cells #[.int .i64 (-1), .int .i64 0, .int .i64 1, .int .i64 40000, .int .i64 40001, .int .i64 9] 3)) = .ok (.int .i64 (kil j)) (wr.alloc (Obj.cells #[.int .i64 (-1), .int .i64 0, .int .i64 1, .int .i64 40000, .int .i64 40001, .int .i64 9] 3))) := by
            refine run_load_cell Try.underlying3 rfl ?_
            rw [cell_of_row _ wr.heap.size j _ _ _ (heap_alloc_new wr _)]
            rcases (by omega : j = 0 ∨ j = 1 ∨ j = 2 ∨ j = 3 ∨ j = 4 ∨ j = 5) with rfl | rfl | rfl | rfl | rfl | rfl <;> rfl
          have hbs := hbr.size
          have hwk : IntKind.u8.wrap (k : Int) = (k : Int) := by simp only [IntKind.wrap]; simp [IntKind.bits, IntKind.signed]; omega
          go_wp2_with (first
            | ((with_reducible refine g_ld 3 ?_); refine wpList_ld rfl _ _ rfl _ rfl _ HLK.out ?_)
            | (at_builtin; go_loud (refine wpList_append_n rfl _ _ rfl Chg.ei (6 * k + j) hlen.symm rfl ((hown.alloc _).alloc _) rfl _ (Rd.newS _ _ 37 4 [.int .u8 (k : Int), .int .i64 ((j : Int) - 1), .int .i64 (j : Int), .int .i64 (kil j)] rfl) rfl (by simp [Value.oneCell']) (by rw [hlen]; unfold maxLen; omega) (by rw [hlen]; omega) (by simp; omega) ?_); intro A4 c4 w4 hown4 hg4 hb4))
          go_roundw
          case rel => exact ⟨j + 1, by omega, by go_num, ⟨A4, c4, rfl, by rw [← HCE.out, ← HST.out] at hown4; exact hown4⟩, ((hbr.alloc hbs _).alloc (by simp; omega) _).trans hb4⟩
          case measure => simp [intOf]; omega
        · obtain rfl : j = 6 := by omega
          go_wp2
          go_roundw
          case rel => exact ⟨k + 1, by omega, by go_num, ⟨D, d, rfl, hown⟩, hbr⟩
          case measure => simp [intOf]; omega
    · obtain rfl : k = 6 := by omega
      have hrd := hown.rd
      rw [List.take_of_length_le (by rw [allC_len]; exact Nat.le_refl _)] at hrd
      obtain ⟨bL, oL, hD, _⟩ := hrd 0 (chgAt 0).cells (by rw [List.getElem?_map, allC_get 0 (by omega)]; rfl)
      subst hD
      have HAL : Hid (∀ w', From wr w' → ∀ m, m < 36 → (loadVar 37 ⟨bL, oL + m * 4, none⟩).run Try.prog w' = .ok (.agg #[.int .u8 (chgAt m).kind, .int .i64 (chgAt m).call, .int .i64 (chgAt m).box, .int .i64 (chgAt m).kilos]) w') := fun w' hb m hm => by
        obtain ⟨b', o', e, _, hld⟩ := Chg.ld hrd (b := chgAt m) (by rw [List.getElem?_map, allC_get m hm]; rfl)
        injection e with e
        injection e with e1 e2
        subst e1; subst e2
        exact hld w' hb
      have HB1 : Hid (From w wr) := hbr
      obtain ⟨W1, hW1⟩ : ∃ W1 : World, W1 = wr := ⟨_, rfl⟩
      subst hW1
      clear hown hrd hbr
      have e6 : ((6 : Nat) : Int) = 6 := rfl
      simp only [Nat.reduceMul, e6]
      clear e6
      go_wp2
      go_loopw [35] (fun i wr => ∃ n : Nat, n ≤ 5 ∧ i = .int .i64 n ∧ From W1 wr) (fun i _ => 5 - (intOf i).toNat)
      case atStart => exact ⟨0, by omega, rfl, Below.refl _ _⟩
      case round =>
        obtain ⟨n, hn, rfl, hb3⟩ := hrel
        have HB3 := Lib.hid hb3
        clear hb3
        by_cases hn5 : n < 5
        · have d5 : ((n : Int) < 5) = True := by simp; omega
          go_wp2
          go_loopw [5] (fun v wr => ∃ c : Nat, 1 ≤ c ∧ c ≤ 6 ∧ v = .int .i64 c ∧ From W1 wr) (fun v _ => 6 - (intOf v).toNat)
          case atStart => exact ⟨1, by omega, by omega, rfl, HB3.out⟩
          case round =>
            clear HB3
            obtain ⟨c, hc1, hc6, rfl, hb4⟩ := hrel
            have HB4 := Lib.hid hb4
            clear hb4
            by_cases hc : c < 6
            · have d6 : ((c : Int) < 6) = True := by simp; omega
              go_wp2
              go_loopw [6] (fun v wr => ∃ t : Nat, t ≤ c + 3 ∧ v = .int .i64 ((t : Int) - 1) ∧ From W1 wr) (fun v _ => c + 3 - (intOf v + 1).toNat)
              case atStart => exact ⟨0, by omega, rfl, HB4.out⟩
              case round =>
                clear HB4
                obtain ⟨t, ht, rfl, hb5⟩ := hrel
                have HB5 := Lib.hid hb5
                clear hb5
                by_cases htc : t < c + 3
                · have d7 : ((t : Int) - 1 ≤ (c : Int) + 1) = True := by simp; omega
                  go_wp2
                  go_loopw [50] (fun i wr => ∃ k : Nat, k ≤ 36 ∧ i = .int .i64 k ∧ From W1 wr) (fun i _ => 36 - (intOf i).toNat)
                  case atStart => exact ⟨0, by omega, rfl, HB5.out⟩
                  case round =>
                    clear HB5
                    obtain ⟨k, hk, rfl, hb6⟩ := hrel
                    have HB6 := Lib.hid hb6
                    clear hb6
                    by_cases hkt : k < 36
                    · have d8 : ((k : Int) < 36) = True := by simp; omega
                      have HLK := Lib.hid (HAL.out wr HB6.out k hkt)
                      go_wp2_with (first
                        | ((with_reducible refine g_ld 37 ?_); refine wpList_ld rfl _ _ rfl _ rfl _ HLK.out ?_))
                      have hba : From W1 (chgW (chgAt k) wr) := HB6.out.alloc HB6.out.size _
                      have HBA := Lib.hid hba
                      have hlx : ∀ w', From (chgW (chgAt k) wr) w' → (loadVar 37 ⟨wr.heap.size, 0, none⟩).run Try.prog w' = .ok (chgAt k).val w' := fun w' hw => chg_ldBlock ((hw.block _ (Array.getElem?_eq_some_iff.1 (heap_alloc_new wr _)).1).trans (heap_alloc_new wr _))
                      obtain ⟨k1, hk1, e1⟩ : ∃ k1 : Nat, k1 < 36 ∧ Int.tmod (7 * (k : Int) + ((t : Int) - 1) + 1) 36 = (k1 : Int) := ⟨(7 * k + t) % 36, Nat.mod_lt _ (by omega), by rw [Int.tmod_eq_emod_of_nonneg (by omega)]; omega⟩
                      obtain ⟨k2, hk2, e2⟩ : ∃ k2 : Nat, k2 < 36 ∧ Int.tmod (5 * (k : Int) + 3) 36 = (k2 : Int) := ⟨(5 * k + 3) % 36, Nat.mod_lt _ (by omega), by rw [Int.tmod_eq_emod_of_nonneg (by omega)]; omega⟩
                      have hl1 := fun w' (hw : From (chgW (chgAt k) wr) w') => HAL.out w' (hba.trans (hw.mono hba.size)) k1 hk1
                      have hl2 := fun w' (hw : From (chgW (chgAt k) wr) w') => HAL.out w' (hba.trans (hw.mono hba.size)) k2 hk2
                      have hkx : ∀ x ∈ [chgAt k, chgAt k1, chgAt k2], 0 ≤ x.kind ∧ x.kind ≤ 255 := fun x hx => by
                        simp only [List.mem_cons, List.not_mem_nil, or_false] at hx
                        rcases hx with rfl | rfl | rfl
                        · exact chgAt_kind _ hkt
                        · exact chgAt_kind _ hk1
                        · exact chgAt_kind _ hk2
                      by_cases h4 : c = 4
                      · subst h4
                        refine region_small4 (some ⟨bL, oL, none⟩) d n 4 ((t : Int) - 1) k k1 k2 bL oL wr.heap.size (chgAt k) (chgAt k1) (chgAt k2) rfl (by omega) hkt hk1 hk2 (by omega) rfl hkx e1 e2 hlx hl1 hl2 rfl rfl rfl rfl rfl rfl rfl ?_
                        intro val w2 hb2 hv
                        simp only [Act.put, List.setIfInBounds_toArray, List.set_cons_succ, List.set_cons_zero]
                        simp only [hv]
                        clear hlx hl1 hl2 hkx e1 e2 hv
                        go_wp2
                        go_roundw
                        case rel => exact ⟨k + 1, by omega, by go_num, HBA.out.trans (hb2.mono HBA.out.size)⟩
                        case measure => simp [intOf]; omega
                      · refine region_small (some ⟨bL, oL, none⟩) d n c ((t : Int) - 1) k k1 k2 bL oL wr.heap.size (chgAt k) (chgAt k1) (chgAt k2) rfl (by omega) hkt hk1 hk2 (by omega) (by simp; omega) hkx e1 e2 hlx hl1 hl2 rfl rfl rfl rfl rfl rfl rfl ?_
                        intro val w2 hb2 hv
                        simp only [Act.put, List.setIfInBounds_toArray, List.set_cons_succ, List.set_cons_zero]
                        simp only [hv]
                        clear hlx hl1 hl2 hkx e1 e2 hv
                        go_wp2
                        go_roundw
                        case rel => exact ⟨k + 1, by omega, by go_num, HBA.out.trans (hb2.mono HBA.out.size)⟩
                        case measure => simp [intOf]; omega
                    · obtain rfl : k = 36 := by omega
                      go_wp2
                      go_roundw
                      case rel => exact ⟨t + 1, by omega, by go_num, HB6.out⟩
                      case measure => simp [intOf]; omega
                · obtain rfl : t = c + 3 := by omega
                  have d7 : (((c + 3 : Nat) : Int) - 1 ≤ (c : Int) + 1) = False := by simp; omega
                  go_wp2
                  go_roundw
                  case rel => exact ⟨c + 1, by omega, by omega, by go_num, HB5.out⟩
                  case measure => simp [intOf]; omega
            · obtain rfl : c = 6 := by omega
              go_wp2
              go_roundw
              case rel => exact ⟨n + 1, by omega, by go_num, HB4.out⟩
              case measure => simp [intOf]; omega
        · obtain rfl : n = 5 := by omega
          have e5 : ((5 : Nat) : Int) = 5 := rfl
          simp only [e5]
          clear e5 HAL
          go_wp2
          go_loopw [101] (fun i wr => ∃ n : Nat, n ≤ 729 ∧ i = .int .i64 n ∧ From W1 wr) (fun i _ => 729 - (intOf i).toNat)
          case atStart => exact ⟨0, by omega, rfl, HB3.out⟩
          case round =>
            clear HB3
            obtain ⟨n, hn, rfl, hb3⟩ := hrel
            have HB3 := Lib.hid hb3
            clear hb3
            by_cases hn5 : n < 729
            · have d5 : ((n : Int) < 729) = True := by simp; omega
              obtain ⟨W7, hW7⟩ : ∃ W7 : World, W7 = wr := ⟨_, rfl⟩
              subst hW7
              go_wp2
              have hpq0 : PQ ((W7.alloc (.cells #[.slice none 0 0, .slice none 0 0] 29)).alloc (.cells #[.slice none 0 0, .slice none 0 0] 29)) (W7.heap.size + 2) W7.heap.size (W7.heap.size + 1) 0 0 none 0 none 0 [] [] (fun _ => False) (fun _ => False) :=
                ⟨rfl, rfl, by simp, by simp, heap_alloc2_old _ _ _, heap_alloc2_new _ _ _, OwnN.nil _ _ _ _, OwnN.nil _ _ _ _, fun _ h _ => h, fun _ h => h.elim, fun _ h => h.elim, by omega, by omega, by omega, by rw [size_alloc2]; exact Nat.le_refl _⟩
              have hb70 : Below W7.heap.size W7 ((W7.alloc (.cells #[.slice none 0 0, .slice none 0 0] 29)).alloc (.cells #[.slice none 0 0, .slice none 0 0] 29)) := ((Below.refl _ _).alloc (Nat.le_refl _) _).alloc (by simp) _
              have HPQ0 := Lib.hid hpq0
              have HB70 := Lib.hid hb70
              clear hpq0 hb70
              go_loopw [12, 13] (fun v x wr => ∃ i : Nat, i ≤ 3 ∧ v = .int .i64 i ∧ (∃ z : Int, 0 ≤ z ∧ z ≤ 729 ∧ x = .int .i64 z) ∧ (∃ A c A' c' xs ys FP FQ, PQ wr (W7.heap.size + 2) W7.heap.size (W7.heap.size + 1) i i A c A' c' xs ys FP FQ) ∧ Below W7.heap.size W7 wr) (fun v _ _ => 3 - (intOf v).toNat)
              case atStart => exact ⟨0, by omega, rfl, ⟨(n : Int), by omega, by omega, rfl⟩, ⟨_, _, _, _, _, _, _, _, HPQ0.out⟩, HB70.out⟩
              case round =>
                clear HPQ0 HB70
                obtain ⟨i, hi, rfl, ⟨z, hz0, hz1, rfl⟩, ⟨A, c, A', c', xs, ys, FP, FQ, hpq⟩, hb7⟩ := hrel
                have HB7 := Lib.hid hb7
                have HPQ := Lib.hid hpq
                clear hb7
                by_cases hi3 : i < 3
                · have d3 : ((i : Int) < 3) = True := by simp; omega
                  have q1 := cell_of_row wr W7.heap.size 0 _ _ _ hpq.kp
                  have z1 := frozen_of_row wr W7.heap.size 0 _ _ hpq.kp
                  simp at q1
                  clear hpq
                  obtain ⟨r1, hr1⟩ : ∃ r, r = Int.tmod z 3 := ⟨_, rfl⟩
                  have hr1a : 0 ≤ r1 ∧ r1 ≤ 2 := by rw [hr1, Int.tmod_eq_emod_of_nonneg hz0]; omega
                  have hr1' : Int.tmod z 3 = r1 := hr1.symm
                  clear hr1
                  obtain ⟨r2, hr2⟩ : ∃ r, r = z / 3 % 3 := ⟨_, rfl⟩
                  have hr2' : z / 3 % 3 = r2 := hr2.symm
                  clear hr2
                  obtain ⟨y, hy⟩ : ∃ y, y = z / 9 := ⟨_, rfl⟩
                  have hy1 : 0 ≤ y ∧ y ≤ 729 := by rw [hy]; omega
                  have hy' : z / 9 = y := hy.symm
                  clear hy
                  obtain ⟨css, hos, hcl, hst⟩ := HPQ.out.step ⟨1, 0, 0, 0⟩ ⟨2 + r1, 0, 1, 0⟩ #[.int .i64 1, .int .i64 0, .int .i64 0, .int .u8 0, .int .i64 (2 + r1), .int .i64 0, .int .i64 1, .int .u8 0] rfl
                  have HOS := Lib.hid hos
                  have HCL := Lib.hid hcl
                  have HST := Lib.hid hst
                  have HLE := Lib.hid HPQ.out.le
                  have HBP := Lib.hid HPQ.out.bp
                  have HBQ := Lib.hid HPQ.out.bq
                  have HSP := Lib.hid HPQ.out.ox.lt_
                  have HSQ := Lib.hid HPQ.out.oy.lt_
                  have HSZ : Hid (W7.heap.size ≤ wr.heap.size) := HB7.out.size
                  clear hos hcl hst HPQ
                  go_wp2_with (first
                    | (at_builtin; go_loud (refine wpList_append_o rfl _ _ rfl states_ei i HCL.out.symm rfl HOS.out rfl _ (Rd.newS wr (.cells #[.int .i64 1, .int .i64 0, .int .i64 0, .int .u8 0, .int .i64 (2 + r1), .int .i64 0, .int .i64 1, .int .u8 0] 42) 31 1 [.slice (some ⟨wr.heap.size, 0, none⟩) 2 2] rfl) rfl (by simp [Value.oneCell']) (by rw [HCL.out]; unfold maxLen; omega) (by rw [HCL.out]; omega) (by have := HLE.out; rw [size_alloc2]; omega) ?_); intro A1 c1 w3 ho3 hg3 hb3 hor3; obtain ⟨k3, ⟨FP1, hpq1⟩, hbel⟩ := HST.out A1 c1 w3 ho3 hg3 hor3; have HB4 := Lib.hid (hbel W7.heap.size (Nat.le_refl _) HSZ.out (fun b hb => by have := HBP.out b hb; omega)); have q3 := cell_of_row w3 W7.heap.size 0 _ _ _ k3; have z3 := frozen_of_row w3 W7.heap.size 0 _ _ k3; have q4 := cell_of_row _ (W7.heap.size + 1) 0 _ _ _ hpq1.kq; have z4 := frozen_of_row _ (W7.heap.size + 1) 0 _ _ hpq1.kq; simp at q3 q4; obtain ⟨css2, hos2, hcl2, hst2⟩ := hpq1.swap.step ⟨1, r2, 0, 0⟩ ⟨2, 0, 1, 0⟩ #[.int .i64 1, .int .i64 r2, .int .i64 0, .int .u8 0, .int .i64 2, .int .i64 0, .int .i64 1, .int .u8 0] rfl; have e4 : (w3.setCell ⟨W7.heap.size, 0, none⟩ (.slice A1 (i + 1) c1)).heap.size = w3.heap.size := (by simp [World.setCell]); have hrd2 := Rd.newS (w3.setCell ⟨W7.heap.size, 0, none⟩ (.slice A1 (i + 1) c1)) (.cells #[.int .i64 1, .int .i64 r2, .int .i64 0, .int .u8 0, .int .i64 2, .int .i64 0, .int .i64 1, .int .u8 0] 42) 31 1 [.slice (some ⟨w3.heap.size, 0, none⟩) 2 2] rfl; have hle4 := hpq1.le; rw [e4] at hos2 hst2 hrd2 hle4; have HOS2 := Lib.hid hos2; have HCL2 := Lib.hid hcl2; have HST2 := Lib.hid hst2; have HRD2 := Lib.hid hrd2; have HLE2 := Lib.hid hle4; have HBQ2 := Lib.hid hpq1.bq; have E4 := Lib.hid e4; clear hos2 hcl2 hst2 hrd2 hle4 e4 HOS HCL HST HLE HBP HBQ HSP HSQ hpq1 hbel k3 ho3 hg3 hb3 hor3 q1 z1)
                    | (at_builtin; go_loud (refine wpList_append_o rfl _ _ rfl states_ei i HCL2.out.symm rfl HOS2.out rfl _ HRD2.out rfl (by simp [Value.oneCell']) (by rw [HCL2.out]; unfold maxLen; omega) (by rw [HCL2.out]; omega) (by have := HLE2.out; have := E4.out; rw [size_alloc2]; omega) ?_); intro A2 c2 w5 ho5 hg5 hb5 hor5; obtain ⟨k5, ⟨FQ1, hpq2⟩, hbel2⟩ := HST2.out A2 c2 w5 ho5 hg5 (by simpa [E4.out] using hor5); have HB6 := Lib.hid (hbel2 W7.heap.size (by omega) (by have := HLE2.out; omega) (fun b hb => by have := HBQ2.out b hb; omega)); have q5 := cell_of_row w5 (W7.heap.size + 1) 0 _ _ _ k5; have z5 := frozen_of_row w5 (W7.heap.size + 1) 0 _ _ k5; simp at q5; have HPQ2 := Lib.hid hpq2; clear HOS2 HCL2 HST2 HRD2 HLE2 HBQ2 hpq2 hbel2 k5 ho5 hg5 hb5 hor5 q3 z3 q4 z4))
                  go_roundw
                  case rel => exact ⟨i + 1, by omega, by go_num, ⟨y, hy1.1, hy1.2, by go_num⟩, ⟨_, _, _, _, _, _, _, _, HPQ2.out.swap⟩, (HB7.out.trans (HB4.out)).trans (HB6.out)⟩
                  case measure => simp [intOf]; omega
                · obtain rfl : i = 3 := by omega
                  have hp0 := hpq.kp
                  have hq0 := hpq.kq
                  have hpl := (Array.getElem?_eq_some_iff.1 hp0).1
                  have hql := (Array.getElem?_eq_some_iff.1 hq0).1
                  have hli := hpq.li
                  have hlj := hpq.lj
                  have hrx : RdNN wr wr.heap.size 4 A (plainStates xs) := hpq.ox.rd
                  have hry : RdNN wr wr.heap.size 4 A' (plainStates ys) := hpq.oy.rd
                  have hcap : ¬ c < 2 := by
                    obtain ⟨css, ho, hl, _⟩ := hpq.ox
                    have h1 := ho.cap.1
                    have h2 : (plainStates xs).length = xs.length := by simp [plainStates]
                    omega
                  have hsx := hpq.sx
                  have hsy := hpq.sy
                  have hw0 : ∀ w', From wr w' → RdNN w' w'.heap.size 1 none (plainWaters []) := fun w' _ k x hk => by simp [plainWaters] at hk
                  have HLP : Hid (∀ w', From wr w' → (loadVar 29 ⟨W7.heap.size, 0, none⟩).run Try.prog w' = .ok (.agg #[.slice A 3 c, .slice none 0 0]) w') := fun w' h => plan_ld ((h.block _ hpl).trans hp0)
                  have HLQ : Hid (∀ w', From wr w' → (loadVar 29 ⟨W7.heap.size + 1, 0, none⟩).run Try.prog w' = .ok (.agg #[.slice A' 3 c', .slice none 0 0]) w') := fun w' h => plan_ld ((h.block _ hql).trans hq0)
                  have HLS : Hid (∀ w', From wr w' → (loadVar 26 ⟨W7.heap.size, 0, none⟩).run Try.prog w' = .ok (.slice A 3 c) w') := fun w' h => states_ld ((h.block _ hpl).trans hp0)
                  have HAL1 : Hid (∀ w', From wr w' → ∀ f : Int, -1 ≤ f → f ≤ 4 → Calls Try.prog 9 #[.agg #[.slice A 3 c, .slice none 0 0], .agg #[.slice A' 3 c', .slice none 0 0], .int .i64 f] w' fun e w2 => e = .returned (.bool true) ∧ Below w'.heap.size w' w2) := fun w' h f h1 h2 => by
                    have := law_alike ⟨A, c, none, 0⟩ ⟨A', c', none, 0⟩ ⟨xs, []⟩ ⟨ys, []⟩ f w' (by omega) (by omega) ⟨(hrx.below h (Nat.le_refl _)).more h.size, hw0 w' h⟩ ⟨(hry.below h (Nat.le_refl _)).more h.size, hw0 w' h⟩ (by simp only; omega) (by simp only; omega) (fun l hl => by have := hsx l hl; omega) (fun l hl => by have := hsy l hl; omega)
                    simp only [hli, hlj, List.length_nil] at this
                    exact this
                  have HAL2 : Hid (∀ w', From wr w' → Calls Try.prog 9 #[.agg #[.slice A' 3 c', .slice none 0 0], .agg #[.slice A 3 c, .slice none 0 0], .int .i64 0] w' fun e w2 => e = .returned (.bool true) ∧ Below w'.heap.size w' w2) := fun w' h => by
                    have := law_alike ⟨A', c', none, 0⟩ ⟨A, c, none, 0⟩ ⟨ys, []⟩ ⟨xs, []⟩ 0 w' (by omega) (by omega) ⟨(hry.below h (Nat.le_refl _)).more h.size, hw0 w' h⟩ ⟨(hrx.below h (Nat.le_refl _)).more h.size, hw0 w' h⟩ (by simp only; omega) (by simp only; omega) (fun l hl => by have := hsy l hl; omega) (fun l hl => by have := hsx l hl; omega)
                    simp only [hli, hlj, List.length_nil] at this
                    exact this
                  have HAL3 : Hid (∀ w', From wr w' → Calls Try.prog 9 #[.agg #[.slice A 2 c, .slice none 0 0], .agg #[.slice A' 3 c', .slice none 0 0], .int .i64 1] w' fun e w2 => e = .returned (.bool true) ∧ Below w'.heap.size w' w2) := fun w' h => by
                    have hpre : RdNN w' w'.heap.size 4 A (plainStates (xs.take 2)) := by
                      have h1 := (hrx.below h (Nat.le_refl _)).more h.size
                      have h2 : plainStates xs = plainStates (xs.take 2) ++ plainStates (xs.drop 2) := by unfold plainStates; rw [← List.map_append, List.take_append_drop]
                      rw [h2] at h1
                      exact h1.pre
                    have := law_alike ⟨A, c, none, 0⟩ ⟨A', c', none, 0⟩ ⟨xs.take 2, []⟩ ⟨ys, []⟩ 1 w' (by omega) (by omega) ⟨hpre, hw0 w' h⟩ ⟨(hry.below h (Nat.le_refl _)).more h.size, hw0 w' h⟩ (by simp only [List.length_take]; omega) (by simp only; omega) (fun l hl => by have := hsx l (List.mem_of_mem_take hl); omega) (fun l hl => by have := hsy l hl; omega)
                    simp only [List.length_take, hli, hlj, List.length_nil] at this
                    exact this
                  have hn5' : 0 ≤ (n : Int) % 5 ∧ (n : Int) % 5 ≤ 4 := by omega
                  clear hp0 hq0 hpl hql hli hlj hrx hry hsx hsy hw0 hpq HPQ
                  go_wp2
                  refine wp_region_below (by kernel_rfl) (by kernel_rfl) wr.heap.size ?_
                  repeat (first | go_big_quiet_skip | (go_big_quiet_want; refine quiet_ld 29 _ rfl _ rfl _ (fun w' hC => HLP.out w' hC) ?_; simp only [Act.put, List.setIfInBounds_toArray, List.set_cons_succ, List.set_cons_zero]; go_big_quiet_on) | (go_big_quiet_want; refine quiet_ld 29 _ rfl _ rfl _ (fun w' hC => HLQ.out w' hC) ?_; simp only [Act.put, List.setIfInBounds_toArray, List.set_cons_succ, List.set_cons_zero]; go_big_quiet_on) | (go_big_quiet_want; refine quiet_ld 26 _ rfl _ rfl _ (fun w' hC => HLS.out w' hC) ?_; simp only [Act.put, List.setIfInBounds_toArray, List.set_cons_succ, List.set_cons_zero]; go_big_quiet_on) | go_big_quiet_step (first | (intro hC; rfl) | (intro hC; exact ⟨rfl, rfl⟩) | (intro hC; (with_reducible refine (HAL1.out _ hC _ (by omega) (by omega)).mono ?_); rintro e w' ⟨rfl, h⟩; exact ⟨rfl, hC.trans (h.mono hC.size)⟩) | (intro hC; (with_reducible refine (HAL2.out _ hC).mono ?_); rintro e w' ⟨rfl, h⟩; exact ⟨rfl, hC.trans (h.mono hC.size)⟩) | (intro hC; (with_reducible refine (HAL3.out _ hC).mono ?_); rintro e w' ⟨rfl, h⟩; exact ⟨rfl, hC.trans (h.mono hC.size)⟩)))
                  refine wpQuiet_nil ?_
                  intro w4 hC
                  go_wp2
                  go_roundw
                  case rel => exact ⟨n + 1, by omega, by go_num, (HB3.out.trans (HB7.out.mono HB3.out.size)).trans (hC.mono (Nat.le_trans HB3.out.size HB7.out.size))⟩
                  case measure => simp [intOf]; omega
            · obtain rfl : n = 729 := by omega
              go_wp2_with (go_at_call 7; refine (law_awake _).mono ?_; rintro e w2 ⟨rfl, hb2⟩)
              go_ret
              exact ⟨rfl, (HB1.out.trans (HB3.out.mono HB1.out.size)).trans (hb2.mono (Nat.le_trans HB1.out.size HB3.out.size))⟩
end Go.Proofs.Ytccjddbcdmgefaa
