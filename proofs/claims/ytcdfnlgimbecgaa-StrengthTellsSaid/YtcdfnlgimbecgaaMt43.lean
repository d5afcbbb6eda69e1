/-
  twistlockref18: buoyancy.
-/
import Derived.Test.YtcdfnlgimbecgaaMt41
import Derived.Test.YtcdfnlgimbecgaaMt42
namespace Go.Proofs.Ytcdfnlgimbecgaa
open Go.RowKit
theorem el146 : elemOf Try.prog 146 = some (91, 17) := by kernel_rfl
theorem zf01 : (Try.prog.info? 91).bind (·.zero) = some zeroF.val := by kernel_rfl
theorem f01_ei : EI Try.prog 146 91 17 68 := EI.mk (z := zeroF.val) Try.underlying146 (by kernel_rfl) (by simp [FracV.val, FracV.cells_len, Value.cells]) (by omega)
theorem g_bls2 {P : Program} {w : World} {ops : Array Oper} {rest : List Oper} {a : Act} {Q : Exit → Act → World → Prop} (T : Nat) {n : Nat} {ps : Array (Nat × Operand)} {d : Option Nat} {ty : TypeId} {pos : String} {aft : Array Edge} {gd : Option (Nat × Bool)}
 (h : wpList P ops Q (⟨d, .buildSlice T n ps, ty, pos, aft, gd⟩ :: rest) a w) : wpList P ops Q (⟨d, .buildSlice T n ps, ty, pos, aft, gd⟩ :: rest) a w := h
def allXr (l : List Frm) : Nat → Int
 | 0 => 0
 | i + 1 => allXr l i + frmX l i + frmX l (i + 1)
def offX (l : List Frm) (i : Nat) : Int := ((l.length - 1 : Nat) : Int) * (frmX l i + frmX l (i + 1)) - allXr l (l.length - 1)
def shareV (l : List Frm) (W : Int) (i : Nat) : FracV := (divL (mulL (ofL W) (ofL (l.getD i frm0).share)).1 (ofL 10000)).1
def missV (l : List Frm) (W : Int) (M : FracV) : Nat → FracV
 | 0 => M
 | i + 1 => (subL (missV l W M i) (mulL (shareV l W i) (midV l i)).1).1
def factV (l : List Frm) : Nat → FracV
 | 0 => ofL 0
 | i + 1 => (addL (factV l i) (mulL (ofL (offX l i)) (midV l i)).1).1
def kV (l : List Frm) (W : Int) (M : FracV) : FracV := (divL (missV l W M (l.length - 1)) (factV l (l.length - 1))).1
def liftQ (l : List Frm) (W : Int) (M : FracV) (i : Nat) : FracV := (addL (shareV l W i) (mulL (kV l W M) (ofL (offX l i))).1).1
theorem missV_fits {l : List Frm} {W : Int} {M : FracV} (h : M.fits) : ∀ i, (missV l W M i).fits
 | 0 => h
 | _ + 1 => subL_fits _ _
theorem factV_fits (l : List Frm) : ∀ i, (factV l i).fits
 | 0 => ofL_fits' (by decide)
 | _ + 1 => addL_fits _ _
theorem frmX_bound {l : List Frm} (hok : ∀ f ∈ l, f.ok = true) {i : Nat} (h : i < l.length) : -500000 ≤ frmX l i ∧ frmX l i ≤ 500000 := (Frm.ok_nums (hok _ (List.mem_of_getElem? (getD_some frm0 h)))).1
theorem allXr_bound {l : List Frm} (hok : ∀ f ∈ l, f.ok = true) : ∀ i, i + 1 ≤ l.length → -1000000 * (i : Int) ≤ allXr l i ∧ allXr l i ≤ 1000000 * (i : Int)
 | 0, _ => by unfold allXr; omega
 | i + 1, h => by
  have ih := allXr_bound hok i (by omega)
  have h1 := frmX_bound hok (i := i) (by omega)
  have h2 := frmX_bound hok (i := i + 1) (by omega)
  unfold allXr
  omega
theorem range_map_succ {α : Type} (f : Nat → α) (i : Nat) : (List.range (i + 1)).map f = (List.range i).map f ++ [f i] := by rw [List.range_succ, List.map_append]; rfl
def partQ (l : List Frm) (W : Int) (M : FracV) (N i : Nat) : List (List Value) := (List.range N).map fun j => if j < i then (liftQ l W M j).cells else (shareV l W j).cells
theorem partQ_set {l : List Frm} {W : Int} {M : FracV} {N i : Nat} : (partQ l W M N i).set i (liftQ l W M i).cells = partQ l W M N (i + 1) := by
 unfold partQ
 apply List.ext_getElem?
 intro j
 rw [List.getElem?_set]
 simp only [List.length_map, List.length_range]
 by_cases hj : j < N
 · rw [List.getElem?_map, List.getElem?_map, List.getElem?_range hj]
   by_cases hij : i = j
   · subst hij
     rw [if_pos rfl, if_pos hj]
     simp
   · rw [if_neg hij]
     simp only [Option.map_some]
     by_cases h1 : j < i
     · rw [if_pos h1, if_pos (by omega)]
     · rw [if_neg h1, if_neg (by omega)]
 · by_cases hij : i = j
   · rw [if_pos hij, if_neg (by omega), List.getElem?_eq_none (by simp; omega)]
   · rw [if_neg hij, List.getElem?_eq_none (by simp; omega), List.getElem?_eq_none (by simp; omega)]
set_option maxRecDepth 100000 in
set_option maxHeartbeats 3000000 in
theorem r18_buoyancy (A D : Option Addr) (c d n m : Nat) (l : List Frm) (ws : List Wt) (hn : n = l.length) (hm : m = ws.length) (w : World) (h : Rd w w.heap.size 5 A (l.map Frm.cells)) (h' : Rd w w.heap.size 2 D (ws.map Wt.cells)) (hn3 : 3 ≤ n ∧ n ≤ 30) (hm3 : m ≤ 3000) (hok : ∀ f ∈ l, f.ok = true) (hwk : ∀ x ∈ ws, (0 ≤ x.kilos ∧ x.kilos ≤ 500000000) ∧ (-500000 ≤ x.x ∧ x.x ≤ 500000)) :
 Calls Try.prog 72 #[.slice A n c, .slice D m d] w fun e w' => ∃ A' c', e = .returned (.slice A' (n - 1) c') ∧ Rd w' w'.heap.size 17 A' ((List.range (n - 1)).map fun i => (liftQ l (totW l ws) (totM l ws) i).cells) ∧ From w w' := by
 have HTO := Lib.hid (r18_total A D c d n m l ws hn hm w h h' hn3 hm3 hok hwk)
 obtain ⟨W, hW⟩ : ∃ W, W = totW l ws := ⟨_, rfl⟩
 obtain ⟨M, hM⟩ : ∃ M, M = totM l ws := ⟨_, rfl⟩
 have HMF : Hid M.fits := by unfold Hid; rw [hM]; exact loadM_fits ws (hullM_fits l _) _
 have HWB : Hid (0 ≤ W ∧ W ≤ 1600000000000) := by
  unfold Hid
  have h1 := hullW_bound hok (l.length - 1) (by omega)
  have h2 := loadW_bound (a := hullW l (l.length - 1)) (fun x hx => (hwk x hx).1) ws.length (Nat.le_refl _)
  rw [hW]
  unfold totW
  omega
 rw [← hW, ← hM] at HTO ⊢
 obtain ⟨bA, oA, rfl⟩ := Rd.addr h (by rw [List.length_map]; omega)
 obtain ⟨N, hN⟩ : ∃ N, n = N + 1 := ⟨n - 1, by omega⟩
 have hN1 : l.length - 1 = N := by omega
 have HR := Lib.hid h
 have HN := Lib.hid (And.intro hn (And.intro hN hN1))
 have HOK := Lib.hid hok
 have HMI := Lib.hid (fun (i : Nat) (hi : i + 1 < n) (w1 : World) (hb : From w w1) => r18_middle (some ⟨bA, oA, none⟩) c n i l hn hi hok w1 (h.from hb) (by omega))
 have hn2 : N ≤ 29 := by omega
 have hn1 : 2 ≤ N := by omega
 have wN : IntKind.i64.wrap ((n : Int) - 1) = (N : Int) := by rw [wrap_i64 (by omega) (by omega)]; omega
 rw [show n - 1 = N by omega]
 clear hW hM h h' hn hm hok hwk hn3 hm3 hN hN1
 go_enter Try.func72, Try.ntmps72
 go_wp2_with (first
  | (go_at_call 71; go_loud (refine (HTO.out).mono ?_); rintro e w3 ⟨rfl, hb⟩; have HM3 := Lib.hid (((Mem.nil w).call hb).alloc 91 zeroF.cells); clear hb HTO)
  | ((with_reducible refine g_st 91 ?_); refine wpList_stB (cs' := FracV.cells M) rfl _ _ rfl HM3.out 0 rfl rfl rfl f01_size rfl (FracV.cells_len _) (FracV.cells_len _) (FracV.ones _) ?_; intro w4 h4; have HM4 := Lib.hid h4; clear h4 HM3))
 go_loopw [8, 9] (fun v8 v9 wq => ∃ i : Nat, i ≤ N ∧ v9 = .int .i64 (i : Int) ∧ v8 = .int .i64 (allXr l i) ∧ Mem w wq [.box w3.heap.size 91 M.cells]) (fun _ v _ => N - (intOf v).toNat)
 case atStart => exact ⟨0, by omega, rfl, rfl, HM4.out⟩
 case round =>
  clear HM4
  obtain ⟨i, hi, rfl, rfl, hmem⟩ := hrel
  have HM5 := Lib.hid hmem
  clear hmem
  have hab := allXr_bound HOK.out i (by rw [← HN.out.1]; have := HN.out.2.1; omega)
  obtain ⟨a, ha⟩ : ∃ a, a = allXr l i := ⟨_, rfl⟩
  rw [← ha] at hab ⊢
  have HA := Lib.hid ha
  clear ha
  by_cases hin : i = N
  · have hlt : ¬ (i : Int) < (N : Int) := by omega
    have HAL : Hid (allXr l (l.length - 1) = a) := by unfold Hid; rw [HN.out.2.2, HA.out, hin]
    have HZ := Lib.hid (r18_of 0 (by decide) (by decide))
    have HLM := Lib.hid (HM5.out.ldb f01_row (FracV.cells_len _) (i := 0) rfl)
    have hab2 : -29000000 ≤ a ∧ a ≤ 29000000 := by omega
    clear hin hi hab HA
    go_wp2
    refine wp_region_runD 4 [.val (Value.agg M.cells.toArray), .call (Value.agg (ofL 0).cells.toArray), .new (NewB wr.heap.size 91 zeroF.val.cells.toList), .new (NewB wr.heap.size 91 zeroF.val.cells.toList)] 2 3 11 12 (by kernel_rfl) (by kernel_rfl) (by decide) (by decide) (by decide) (fun _ => rfl) (fun _ => rfl) (by kernel_rfl) (by kernel_rfl) (Nat.le_of_ble_eq_true (by kernel_rfl)) (by kernel_rfl) (by kernel_rfl) ?_ ?_ ?_
    · exact ⟨NewB.stays, NewB.stays, trivial⟩
    · exact ⟨(fun w hb => ok_load rfl ((HLM.out) w hb)), (fun w hb => ok_call rfl rfl (cf_of18 _ _) (HZ.out w)), (fun _ hb => new_alloc zf01 hb.size), (fun _ hb => new_alloc zf01 hb.size), trivial⟩
    intro w7 hb7
    simp only [contS, List.take_succ_cons, List.take_zero, List.drop_succ_cons, List.drop_zero]
    intro u11 hu11 u12 hu12
    intro hap
    simp only [Act.put, List.setIfInBounds_toArray, List.set_cons_succ, List.set_cons_zero]
    obtain ⟨g11, rfl, hb11, hz11⟩ := hu11
    obtain ⟨g12, rfl, hb12, hz12⟩ := hu12
    have hne : g11 ≠ g12 := hap g11 g12 rfl rfl
    clear hap
    have HM7 : Hid (Mem w w7 [.box g11 91 zeroF.cells, .box g12 91 zeroF.cells, .box w3.heap.size 91 M.cells]) :=
     HM5.out.add2 hb7 (.box g11 91 zeroF.cells) (.box g12 91 zeroF.cells) ⟨hb11, hz11⟩ ⟨hb12, hz12⟩ (fun b h1 h2 => hne (by injection h1 with h1; injection h2 with h2; rw [h1, h2]))
    clear hb7 hz11 hz12 hb11 hb12 hne HM5 HLM
    go_wp2_with (first
     | ((with_reducible refine g_st 91 ?_); refine wpList_stB (cs' := FracV.cells M) rfl _ _ rfl HM7.out 0 rfl rfl rfl f01_size rfl (FracV.cells_len _) (FracV.cells_len _) (FracV.ones _) ?_; intro w8 h8; have HM8 := Lib.hid h8; clear h8 HM7)
     | ((with_reducible refine g_st 91 ?_); go_loud (refine wpList_stB (cs' := FracV.cells (ofL 0)) rfl _ _ rfl HM8.out 1 rfl rfl rfl f01_size rfl (FracV.cells_len _) (FracV.cells_len _) (FracV.ones _) ?_); intro w9 h9; have HM9 := Lib.hid (h9.none 91 17); clear h9 HM8))
    go_loopw [10, 13] (fun v10 v13 wq => ∃ (i : Nat) (A1 : Option Addr) (c1 : Nat), i ≤ N ∧ v13 = .int .i64 (i : Int) ∧ v10 = .slice A1 i c1 ∧ Mem w wq [.row 91 17 A1 c1 ((List.range i).map fun j => (shareV l W j).cells), .box g11 91 (missV l W M i).cells, .box g12 91 (factV l i).cells, .box w3.heap.size 91 M.cells]) (fun _ v _ => N - (intOf v).toNat)
    case atStart => exact ⟨0, none, 0, Nat.zero_le _, rfl, rfl, HM9.out⟩
    case round =>
     clear HM9
     obtain ⟨i, A1, c1, hi, rfl, rfl, hmem⟩ := hrel
     have HM1 := Lib.hid hmem
     clear hmem
     by_cases hin : i = N
     · subst hin
       have hlt2 : ¬ (i : Int) < (i : Int) := by omega
       obtain ⟨g10, rfl⟩ := (HM1.out.own (i := 0) rfl).some (by intro h; have := congrArg List.length h; simp at this; omega)
       have HLS := Lib.hid (HM1.out.ldb f01_row (FracV.cells_len _) (i := 1) rfl)
       have HLT := Lib.hid (HM1.out.ldb f01_row (FracV.cells_len _) (i := 2) rfl)
       have HDV := Lib.hid (r18_div (missV l W M i) (factV l i) (missV_fits HMF.out i) (factV_fits l i))
       have HK : Hid (kV l W M = (divL (missV l W M i) (factV l i)).1) := by unfold Hid kV; rw [HN.out.2.2]
       rw [← HK.out] at HDV
       have HKF : Hid (kV l W M).fits := divL_fits _ _
       have HP0 : Hid (((List.range i).map fun j => (shareV l W j).cells) = partQ l W M i 0) := by unfold Hid partQ; simp
       clear HK
       go_wp2_with (first
        | ((with_reducible refine g_ld 91 ?_); refine wpList_ld rfl _ _ rfl _ rfl _ (HLS.out _ (Below.refl _ _)) ?_)
        | ((with_reducible refine g_ld 91 ?_); refine wpList_ld rfl _ _ rfl _ rfl _ (HLT.out _ (Below.refl _ _)) ?_)
        | (go_at_call 101; go_loud (refine (HDV.out _).mono ?_); rintro e w5 ⟨rfl, hb⟩; have HM2 := Lib.hid ((HM1.out.call hb).alloc 91 zeroF.cells); clear hb HDV)
        | ((with_reducible refine g_st 91 ?_); go_loud (refine wpList_stB (cs' := FracV.cells (kV l W M)) rfl _ _ rfl HM2.out 0 rfl rfl rfl f01_size rfl (FracV.cells_len _) (FracV.cells_len _) (FracV.ones _) ?_); intro w6 h6; have HM3 := Lib.hid h6; clear h6 HM2))
       clear HM1 HLS HLT
       go_loopw [16] (fun v16 wq => ∃ k : Nat, k ≤ i ∧ v16 = .int .i64 (k : Int) ∧ Mem w wq [.box w5.heap.size 91 (kV l W M).cells, .row 91 17 (some ⟨g10, 0, none⟩) c1 (partQ l W M i k)]) (fun v _ => i - (intOf v).toNat)
       case atStart =>
        refine ⟨0, Nat.zero_le _, rfl, ?_⟩
        rw [← HP0.out]
        exact HM3.out.sub (by simp)
       case round =>
        clear HM3
        obtain ⟨k, hk, rfl, hmem⟩ := hrel
        have HM4 := Lib.hid hmem
        clear hmem
        by_cases hki : k = i
        · have hlt3 : ¬ (k : Int) < (i : Int) := by omega
          have HE : Hid (partQ l W M i k = (List.range i).map fun j => (liftQ l W M j).cells) := by
           unfold Hid partQ
           apply List.map_congr_left
           intro j hj
           rw [if_pos (by rw [List.mem_range] at hj; omega)]
          clear hki hk
          go_wp2
          go_ret
          have hrd := HM4.out.rd (i := 1) rfl
          rw [HE.out] at hrd
          first
           | exact ⟨hrd, HM4.out.from_⟩
           | exact ⟨_, rfl, hrd, HM4.out.from_⟩
           | exact ⟨_, ⟨_, rfl⟩, hrd, HM4.out.from_⟩
           | exact ⟨_, ⟨rfl, _, rfl⟩, hrd, HM4.out.from_⟩
        · have hlt3 : (k : Int) < (i : Int) := by omega
          have hkn : (k : Int) < (n : Int) := by have := HN.out; omega
          have hkn1 : ((k + 1 : Nat) : Int) < (n : Int) := by have := HN.out; omega
          have HI1 : Hid (k + 1 < n) := by unfold Hid; omega
          have HFI : Hid (l[k]? = some (l.getD k frm0)) := getD_some frm0 (by have := HN.out; omega)
          have HFJ : Hid (l[k + 1]? = some (l.getD (k + 1) frm0)) := getD_some frm0 (by have := HN.out; omega)
          have hb0 := frmX_bound HOK.out (i := k) (by have := HN.out; omega)
          have hb1 := frmX_bound HOK.out (i := k + 1) (by have := HN.out; omega)
          obtain ⟨x, hx⟩ : ∃ x, x = frmX l k := ⟨_, rfl⟩
          obtain ⟨y, hy⟩ : ∃ y, y = frmX l (k + 1) := ⟨_, rfl⟩
          rw [← hx] at hb0
          rw [← hy] at hb1
          obtain ⟨s, hs⟩ : ∃ s, s = x + y := ⟨_, rfl⟩
          obtain ⟨p, hp⟩ : ∃ p, p = (i : Int) * s := ⟨_, rfl⟩
          have hoff : offX l k = p - a := by unfold offX; rw [HAL.out, HN.out.2.2, hp, hs, hx, hy]
          have hpb : -29000000 ≤ p ∧ p ≤ 29000000 := by
           have e1 : p ≤ (i : Int) * 1000000 := by rw [hp]; exact Int.mul_le_mul_of_nonneg_left (by omega) (by omega)
           have e2 : (i : Int) * (-1000000) ≤ p := by rw [hp]; exact Int.mul_le_mul_of_nonneg_left (by omega) (by omega)
           omega
          have ws : IntKind.i64.wrap (x + y) = s := by rw [wrap_i64 (by omega) (by omega)]; exact hs.symm
          have wp : IntKind.i64.wrap ((i : Int) * s) = p := by rw [← hp, wrap_i64 (by omega) (by omega)]
          have wo : IntKind.i64.wrap (p - a) = offX l k := by rw [hoff, wrap_i64 (by omega) (by omega)]
          have wk1 : IntKind.i64.wrap ((k : Int) + 1) = ((k + 1 : Nat) : Int) := by rw [wrap_i64 (by omega) (by omega)]; omega
          have HOB : Hid (-58000000 ≤ offX l k ∧ offX l k ≤ 58000000) := by unfold Hid; rw [hoff]; omega
          have HOO := Lib.hid (r18_of (offX l k) (by have := HOB.out; omega) (by have := HOB.out; omega))
          have HXA := Lib.hid (fun (w1 : World) (hb : From w w1) => Rd.cell (P := Try.prog) HR.out hb ct3 (k := k) (cs := (l.getD k frm0).cells) (by rw [List.getElem?_map, HFI.out]; rfl) (j := 0) (v := .int .i64 x) (by rw [hx]; rfl) (p := oA + k * 5) rfl)
          have HXB := Lib.hid (fun (w1 : World) (hb : From w w1) => Rd.cell (P := Try.prog) HR.out hb ct3 (k := k + 1) (cs := (l.getD (k + 1) frm0).cells) (by rw [List.getElem?_map, HFJ.out]; rfl) (j := 0) (v := .int .i64 y) (by rw [hy]; rfl) (p := oA + (k + 1) * 5) rfl)
          clear hb0 hb1 hx hy hs hp hoff hpb
          have HLK := Lib.hid (HM4.out.ldb f01_row (FracV.cells_len _) (i := 0) rfl)
          have HLQ := Lib.hid (HM4.out.ldr (i := 1) (k := k) f01_row (cs := (shareV l W k).cells) rfl (by unfold partQ; rw [List.getElem?_map, List.getElem?_range (by omega)]; simp) (p := k * 17) rfl)
          have HMU := Lib.hid (r18_mul (kV l W M) (ofL (offX l k)) HKF.out (ofL_fits ⟨by have := HOB.out; omega, by have := HOB.out; omega⟩))
          have HAD := Lib.hid (r18_add (shareV l W k) (mulL (kV l W M) (ofL (offX l k))).1 (divL_fits _ _) (mulL_fits _ _))
          have HQL : Hid (k < (partQ l W M i k).length) := by unfold Hid partQ; simp; omega
          have HFX := Lib.hid (fun (w1 : World) (hb : From wr w1) => HXA.out w1 (HM4.out.from_.trans (hb.mono HM4.out.from_.size)))
          have HFY := Lib.hid (fun (w1 : World) (hb : From wr w1) => HXB.out w1 (HM4.out.from_.trans (hb.mono HM4.out.from_.size)))
          clear hki
          go_wp2
          refine wp_region_run 27 [.val (Value.slice (some ⟨g10, 0, none⟩) i c1), .val (Value.int .i64 ((k : Int))), .val (Value.slice (some ⟨g10, 0, none⟩) i c1), .val (Value.int .i64 ((k : Int))), .val (Value.pointer (some ⟨g10, k * 17, none⟩)), .val (Value.agg (shareV l W k).cells.toArray), .val (Value.agg (kV l W M).cells.toArray), .val (Value.int .i64 ((i : Int))), .val (Value.slice (some ⟨bA, oA, none⟩) n c), .val (Value.int .i64 ((k : Int))), .val (Value.pointer (some ⟨bA, oA + k * 5, none⟩)), .val (Value.pointer (some ⟨bA, oA + k * 5, none⟩)), .val (Value.int .i64 (x)), .val (Value.slice (some ⟨bA, oA, none⟩) n c), .val (Value.int .i64 ((k : Int))), .val (Value.int .i64 (((k + 1 : Nat) : Int))), .val (Value.pointer (some ⟨bA, oA + (k + 1) * 5, none⟩)), .val (Value.pointer (some ⟨bA, oA + (k + 1) * 5, none⟩)), .val (Value.int .i64 (y)), .val (Value.int .i64 (s)), .val (Value.int .i64 (p)), .val (Value.int .i64 (a)), .val (Value.int .i64 ((offX l k))), .call (Value.agg (ofL (offX l k)).cells.toArray), .call (Value.agg (mulL (kV l W M) (ofL (offX l k))).1.cells.toArray), .call (Value.agg (liftQ l W M k).cells.toArray), .val (Value.pointer (some ⟨g10, k * 17, none⟩))] (by kernel_rfl) (by kernel_rfl) (Nat.le_of_ble_eq_true (by kernel_rfl)) (by kernel_rfl) (by kernel_rfl) ?_ ?_ ?_
          · exact trivial
          · exact ⟨(fun _ _ => ok_move rfl), (fun _ _ => ok_move rfl), (fun _ _ => ok_move rfl), (fun _ _ => ok_move rfl), (fun _ _ => ok_index (k := k) rfl rfl el146 (hlt3) (ptr0 _ _)), (fun w hb => ok_load rfl ((HLQ.out) w hb)), (fun w hb => ok_load rfl ((HLK.out) w hb)), (fun _ _ => ok_move rfl), (fun _ _ => ok_move rfl), (fun _ _ => ok_move rfl), (fun _ _ => ok_index (k := k) rfl rfl el22 (hkn) (rfl)), (fun _ _ => ok_field (k := 0) rfl fl44_0 rfl), (fun w hb => ok_load rfl ((HFX.out) w hb)), (fun _ _ => ok_move rfl), (fun _ _ => ok_move rfl), (fun _ _ => ok_add rfl rfl (wk1) rfl), (fun _ _ => ok_index (k := (k + 1)) rfl rfl el22 (hkn1) (rfl)), (fun _ _ => ok_field (k := 0) rfl fl44_0 rfl), (fun w hb => ok_load rfl ((HFY.out) w hb)), (fun _ _ => ok_add rfl rfl (ws) rfl), (fun _ _ => ok_mul rfl rfl (wp) rfl), (fun _ _ => ok_move rfl), (fun _ _ => ok_sub rfl rfl (wo) rfl), (fun w hb => ok_call rfl rfl (cf_of18 _ _) (HOO.out w)), (fun w hb => ok_call rfl rfl (cf_mul18 _ _) (HMU.out w)), (fun w hb => ok_call rfl rfl (cf_add18 _ _) (HAD.out w)), (fun _ _ => ok_index (k := k) rfl rfl el146 (hlt3) (ptr0 _ _)), trivial⟩
          intro w7 hb7
          simp only [contS, List.take_succ_cons, List.take_zero, List.drop_succ_cons, List.drop_zero]
          simp only [Act.put, List.setIfInBounds_toArray, List.set_cons_succ, List.set_cons_zero]
          have HM5 := Lib.hid (HM4.out.call hb7)
          clear hb7 HM4
          go_wp2_with ((with_reducible refine g_st 91 ?_); go_loud (refine wpList_stRow (k := k) (cs := (liftQ l W M k).cells) rfl _ _ rfl HM5.out 1 rfl (by first | rfl | exact ptr0 _ _) rfl f01_size rfl (FracV.cells_len _) (FracV.ones _) HQL.out ?_); intro w8 h8; have HM6 := Lib.hid h8; clear h8)
          go_roundw
          case rel =>
           refine ⟨k + 1, by omega, by go_num, ?_⟩
           have h1 := HM6.out
           rw [← partQ_set]
           exact h1
          case measure => simp [intOf]; omega
     · have hlt2 : (i : Int) < (N : Int) := by omega
       have hkn : (i : Int) < (n : Int) := by have := HN.out; omega
       have hkn1 : ((i + 1 : Nat) : Int) < (n : Int) := by have := HN.out; omega
       have HI1 : Hid (i + 1 < n) := by unfold Hid; omega
       have HFI : Hid (l[i]? = some (l.getD i frm0)) := getD_some frm0 (by have := HN.out; omega)
       have HFJ : Hid (l[i + 1]? = some (l.getD (i + 1) frm0)) := getD_some frm0 (by have := HN.out; omega)
       have hb0 := frmX_bound HOK.out (i := i) (by have := HN.out; omega)
       have hb1 := frmX_bound HOK.out (i := i + 1) (by have := HN.out; omega)
       obtain ⟨x, hx⟩ : ∃ x, x = frmX l i := ⟨_, rfl⟩
       obtain ⟨y, hy⟩ : ∃ y, y = frmX l (i + 1) := ⟨_, rfl⟩
       rw [← hx] at hb0
       rw [← hy] at hb1
       obtain ⟨s, hs⟩ : ∃ s, s = x + y := ⟨_, rfl⟩
       obtain ⟨p, hp⟩ : ∃ p, p = (N : Int) * s := ⟨_, rfl⟩
       have hoff : offX l i = p - a := by unfold offX; rw [HAL.out, HN.out.2.2, hp, hs, hx, hy]
       have hpb : -29000000 ≤ p ∧ p ≤ 29000000 := by
        have e1 : p ≤ (N : Int) * 1000000 := by rw [hp]; exact Int.mul_le_mul_of_nonneg_left (by omega) (by omega)
        have e2 : (N : Int) * (-1000000) ≤ p := by rw [hp]; exact Int.mul_le_mul_of_nonneg_left (by omega) (by omega)
        omega
       have ws : IntKind.i64.wrap (x + y) = s := by rw [wrap_i64 (by omega) (by omega)]; exact hs.symm
       have wp : IntKind.i64.wrap ((N : Int) * s) = p := by rw [← hp, wrap_i64 (by omega) (by omega)]
       have wo : IntKind.i64.wrap (p - a) = offX l i := by rw [hoff, wrap_i64 (by omega) (by omega)]
       have wk1 : IntKind.i64.wrap ((i : Int) + 1) = ((i + 1 : Nat) : Int) := by rw [wrap_i64 (by omega) (by omega)]; omega
       have HOB : Hid (-58000000 ≤ offX l i ∧ offX l i ≤ 58000000) := by unfold Hid; rw [hoff]; omega
       have HOO := Lib.hid (r18_of (offX l i) (by have := HOB.out; omega) (by have := HOB.out; omega))
       have HXA := Lib.hid (fun (w1 : World) (hb : From w w1) => Rd.cell (P := Try.prog) HR.out hb ct3 (k := i) (cs := (l.getD i frm0).cells) (by rw [List.getElem?_map, HFI.out]; rfl) (j := 0) (v := .int .i64 x) (by rw [hx]; rfl) (p := oA + i * 5) rfl)
       have HXB := Lib.hid (fun (w1 : World) (hb : From w w1) => Rd.cell (P := Try.prog) HR.out hb ct3 (k := i + 1) (cs := (l.getD (i + 1) frm0).cells) (by rw [List.getElem?_map, HFJ.out]; rfl) (j := 0) (v := .int .i64 y) (by rw [hy]; rfl) (p := oA + (i + 1) * 5) rfl)
       clear hb0 hb1 hx hy hs hp hoff hpb
       have HSH := Lib.hid (fun (w1 : World) (hb : From w w1) => Rd.cell (P := Try.prog) HR.out hb ct3 (k := i) (cs := (l.getD i frm0).cells) (by rw [List.getElem?_map, HFI.out]; rfl) (j := 2) (v := .int .i64 (l.getD i frm0).share) rfl (p := oA + i * 5 + 2) rfl)
       obtain ⟨sh, hsh⟩ : ∃ sh, sh = (l.getD i frm0).share := ⟨_, rfl⟩
       rw [← hsh] at HSH
       have hsb : 0 ≤ sh ∧ sh ≤ 10000 := by rw [hsh]; exact (Frm.ok_nums (HOK.out _ (List.mem_of_getElem? HFI.out))).2.2.1
       have HO1 := Lib.hid (r18_of W (by have := HWB.out; omega) (by have := HWB.out; omega))
       have HO2 := Lib.hid (r18_of sh (by omega) (by omega))
       have HO3 := Lib.hid (r18_of 10000 (by decide) (by decide))
       have HMU1 := Lib.hid (r18_mul (ofL W) (ofL sh) (ofL_fits ⟨by have := HWB.out; omega, by have := HWB.out; omega⟩) (ofL_fits ⟨by omega, by omega⟩))
       have HDV := Lib.hid (r18_div (mulL (ofL W) (ofL sh)).1 (ofL 10000) (mulL_fits _ _) (ofL_fits' (by decide)))
       have HSV : Hid ((divL (mulL (ofL W) (ofL sh)).1 (ofL 10000)).1 = shareV l W i) := by unfold Hid; rw [hsh]; rfl
       rw [HSV.out] at HDV
       have HSF : Hid (shareV l W i).fits := divL_fits _ _
       have HLSH := Lib.hid (fun (w1 : World) (hb : From wr w1) => HSH.out w1 (HM1.out.from_.trans (hb.mono HM1.out.from_.size)))
       have HMD := Lib.hid (fun (w1 : World) (hb : From w w1) => HMI.out i HI1.out w1 hb)
       have HMU2 := Lib.hid (r18_mul (shareV l W i) (midV l i) HSF.out (midV_fits l i))
       have HSB := Lib.hid (r18_sub (missV l W M i) (mulL (shareV l W i) (midV l i)).1 (missV_fits HMF.out i) (mulL_fits _ _))
       have HMU3 := Lib.hid (r18_mul (ofL (offX l i)) (midV l i) (ofL_fits ⟨by have := HOB.out; omega, by have := HOB.out; omega⟩) (midV_fits l i))
       have HAD := Lib.hid (r18_add (factV l i) (mulL (ofL (offX l i)) (midV l i)).1 (factV_fits l i) (mulL_fits _ _))
       have HOL : Hid (i = ((List.range i).map fun j => (shareV l W j).cells).length) := by unfold Hid; simp
       clear hin hsh hsb HSH
       go_wp2
       refine wp_region_run 12 [.val (Value.int .i64 (W)), .call (Value.agg (ofL W).cells.toArray), .val (Value.slice (some ⟨bA, oA, none⟩) n c), .val (Value.int .i64 ((i : Int))), .val (Value.pointer (some ⟨bA, oA + i * 5, none⟩)), .val (Value.pointer (some ⟨bA, oA + i * 5 + 2, none⟩)), .val (Value.int .i64 (sh)), .call (Value.agg (ofL sh).cells.toArray), .call (Value.agg (mulL (ofL W) (ofL sh)).1.cells.toArray), .call (Value.agg (ofL 10000).cells.toArray), .call (Value.agg (shareV l W i).cells.toArray), .new (NewB wr.heap.size 91 zeroF.val.cells.toList)] (by kernel_rfl) (by kernel_rfl) (Nat.le_of_ble_eq_true (by kernel_rfl)) (by kernel_rfl) (by kernel_rfl) ?_ ?_ ?_
       · exact ⟨NewB.stays, trivial⟩
       · exact ⟨(fun _ _ => ok_move rfl), (fun w hb => ok_call rfl rfl (cf_of18 _ _) (HO1.out w)), (fun _ _ => ok_move rfl), (fun _ _ => ok_move rfl), (fun _ _ => ok_index (k := i) rfl rfl el22 (hkn) (rfl)), (fun _ _ => ok_field (k := 2) rfl fl44_2 rfl), (fun w hb => ok_load rfl ((HLSH.out) w hb)), (fun w hb => ok_call rfl rfl (cf_of18 _ _) (HO2.out w)), (fun w hb => ok_call rfl rfl (cf_mul18 _ _) (HMU1.out w)), (fun w hb => ok_call rfl rfl (cf_of18 _ _) (HO3.out w)), (fun w hb => ok_call rfl rfl (cf_div18 _ _) (HDV.out w)), (fun _ hb => new_alloc zf01 hb.size), trivial⟩
       intro w7 hb7
       simp only [contS, List.take_succ_cons, List.take_zero, List.drop_succ_cons, List.drop_zero]
       intro u14 hu14
       simp only [Act.put, List.setIfInBounds_toArray, List.set_cons_succ, List.set_cons_zero]
       obtain ⟨g14, rfl, hb14, hz14⟩ := hu14
       have HM2 : Hid (Mem w w7 (.box g14 91 zeroF.cells :: [.row 91 17 A1 c1 ((List.range i).map fun j => (shareV l W j).cells), .box g11 91 (missV l W M i).cells, .box g12 91 (factV l i).cells, .box w3.heap.size 91 M.cells])) := HM1.out.newB hb7 hb14 hz14
       clear hb7 hb14 hz14 HM1 HLSH HO1 HO2 HO3 HMU1 HDV
       go_wp2_with ((with_reducible refine g_st 91 ?_); go_loud (refine wpList_stB (cs' := FracV.cells (shareV l W i)) rfl _ _ rfl HM2.out 0 rfl rfl rfl f01_size rfl (FracV.cells_len _) (FracV.cells_len _) (FracV.ones _) ?_); intro w8 h8; have HM3 := Lib.hid h8; clear h8 HM2)
       have HL63 := Lib.hid (HM3.out.ldb f01_row (FracV.cells_len _) (i := 2) rfl)
       have HL64 := Lib.hid (HM3.out.ldb f01_row (FracV.cells_len _) (i := 0) rfl)
       have HMD3 := Lib.hid (fun (w1 : World) (hb : From w8 w1) => HMD.out w1 (HM3.out.from_.trans (hb.mono HM3.out.from_.size)))
       refine wp_region_run 7 [.val (Value.agg (missV l W M i).cells.toArray), .val (Value.agg (shareV l W i).cells.toArray), .val (Value.slice (some ⟨bA, oA, none⟩) n c), .val (Value.int .i64 ((i : Int))), .call (Value.agg (midV l i).cells.toArray), .call (Value.agg (mulL (shareV l W i) (midV l i)).1.cells.toArray), .call (Value.agg (missV l W M (i + 1)).cells.toArray)] (by kernel_rfl) (by kernel_rfl) (Nat.le_of_ble_eq_true (by kernel_rfl)) (by kernel_rfl) (by kernel_rfl) ?_ ?_ ?_
       · exact trivial
       · exact ⟨(fun w hb => ok_load rfl ((HL63.out) w hb)), (fun w hb => ok_load rfl ((HL64.out) w hb)), (fun _ _ => ok_move rfl), (fun _ _ => ok_move rfl), (fun w hb => ok_call rfl rfl (cf_middle18 _ _) (HMD3.out w hb)), (fun w hb => ok_call rfl rfl (cf_mul18 _ _) (HMU2.out w)), (fun w hb => ok_call rfl rfl (cf_sub18 _ _) (HSB.out w)), trivial⟩
       intro w9 hb9
       simp only [contS, List.take_succ_cons, List.take_zero, List.drop_succ_cons, List.drop_zero]
       simp only [Act.put, List.setIfInBounds_toArray, List.set_cons_succ, List.set_cons_zero]
       have HM4 := Lib.hid (HM3.out.call hb9)
       clear hb9 HM3 HL63 HL64 HMD3 HSB HMU2
       go_wp2_with ((with_reducible refine g_st 91 ?_); go_loud (refine wpList_stB (cs' := FracV.cells (missV l W M (i + 1))) rfl _ _ rfl HM4.out 2 rfl rfl rfl f01_size rfl (FracV.cells_len _) (FracV.cells_len _) (FracV.ones _) ?_); intro w10 h10; have HM5 := Lib.hid h10; clear h10 HM4)
       have HL70 := Lib.hid (HM5.out.ldb f01_row (FracV.cells_len _) (i := 3) rfl)
       have HFX := Lib.hid (fun (w1 : World) (hb : From w10 w1) => HXA.out w1 (HM5.out.from_.trans (hb.mono HM5.out.from_.size)))
       have HFY := Lib.hid (fun (w1 : World) (hb : From w10 w1) => HXB.out w1 (HM5.out.from_.trans (hb.mono HM5.out.from_.size)))
       have HMD5 := Lib.hid (fun (w1 : World) (hb : From w10 w1) => HMD.out w1 (HM5.out.from_.trans (hb.mono HM5.out.from_.size)))
       refine wp_region_run 23 [.val (Value.agg (factV l i).cells.toArray), .val (Value.int .i64 ((N : Int))), .val (Value.slice (some ⟨bA, oA, none⟩) n c), .val (Value.int .i64 ((i : Int))), .val (Value.pointer (some ⟨bA, oA + i * 5, none⟩)), .val (Value.pointer (some ⟨bA, oA + i * 5, none⟩)), .val (Value.int .i64 (x)), .val (Value.slice (some ⟨bA, oA, none⟩) n c), .val (Value.int .i64 ((i : Int))), .val (Value.int .i64 (((i + 1 : Nat) : Int))), .val (Value.pointer (some ⟨bA, oA + (i + 1) * 5, none⟩)), .val (Value.pointer (some ⟨bA, oA + (i + 1) * 5, none⟩)), .val (Value.int .i64 (y)), .val (Value.int .i64 (s)), .val (Value.int .i64 (p)), .val (Value.int .i64 (a)), .val (Value.int .i64 ((offX l i))), .call (Value.agg (ofL (offX l i)).cells.toArray), .val (Value.slice (some ⟨bA, oA, none⟩) n c), .val (Value.int .i64 ((i : Int))), .call (Value.agg (midV l i).cells.toArray), .call (Value.agg (mulL (ofL (offX l i)) (midV l i)).1.cells.toArray), .call (Value.agg (factV l (i + 1)).cells.toArray)] (by kernel_rfl) (by kernel_rfl) (Nat.le_of_ble_eq_true (by kernel_rfl)) (by kernel_rfl) (by kernel_rfl) ?_ ?_ ?_
       · exact trivial
       · exact ⟨(fun w hb => ok_load rfl ((HL70.out) w hb)), (fun _ _ => ok_move rfl), (fun _ _ => ok_move rfl), (fun _ _ => ok_move rfl), (fun _ _ => ok_index (k := i) rfl rfl el22 (hkn) (rfl)), (fun _ _ => ok_field (k := 0) rfl fl44_0 rfl), (fun w hb => ok_load rfl ((HFX.out) w hb)), (fun _ _ => ok_move rfl), (fun _ _ => ok_move rfl), (fun _ _ => ok_add rfl rfl (wk1) rfl), (fun _ _ => ok_index (k := (i + 1)) rfl rfl el22 (hkn1) (rfl)), (fun _ _ => ok_field (k := 0) rfl fl44_0 rfl), (fun w hb => ok_load rfl ((HFY.out) w hb)), (fun _ _ => ok_add rfl rfl (ws) rfl), (fun _ _ => ok_mul rfl rfl (wp) rfl), (fun _ _ => ok_move rfl), (fun _ _ => ok_sub rfl rfl (wo) rfl), (fun w hb => ok_call rfl rfl (cf_of18 _ _) (HOO.out w)), (fun _ _ => ok_move rfl), (fun _ _ => ok_move rfl), (fun w hb => ok_call rfl rfl (cf_middle18 _ _) (HMD5.out w hb)), (fun w hb => ok_call rfl rfl (cf_mul18 _ _) (HMU3.out w)), (fun w hb => ok_call rfl rfl (cf_add18 _ _) (HAD.out w)), trivial⟩
       intro w11 hb11
       simp only [contS, List.take_succ_cons, List.take_zero, List.drop_succ_cons, List.drop_zero]
       simp only [Act.put, List.setIfInBounds_toArray, List.set_cons_succ, List.set_cons_zero]
       have HM6 := Lib.hid (HM5.out.call hb11)
       clear hb11 HM5 HL70 HFX HFY HMD5 HAD HMU3
       go_wp2_with (first
        | ((with_reducible refine g_st 91 ?_); go_loud (refine wpList_stB (cs' := FracV.cells (factV l (i + 1))) rfl _ _ rfl HM6.out 3 rfl rfl rfl f01_size rfl (FracV.cells_len _) (FracV.cells_len _) (FracV.ones _) ?_); intro w12 h12; have HM7 := Lib.hid h12; clear h12 HM6)
        | ((with_reducible refine g_ld 91 ?_); go_loud (refine wpList_ld rfl _ _ rfl _ rfl _ (HM7.out.ldb f01_row (FracV.cells_len _) (i := 0) rfl _ (Below.refl _ _)) ?_))
        | ((with_reducible refine g_bls2 146 ?_); go_loud (refine wpList_run rfl (ok_slice1 (u := .agg (shareV l W i).cells.toArray) rfl el146 zf01 (by simp [FracV.val, FracV.cells_len, Value.cells]) (by simp [FracV.cells_len, Value.cells]) (by decide) (by decide)) ?_))
        | (at_builtin; go_loud (refine wpList_append_M rfl _ _ rfl f01_ei i HOL.out rfl (HM7.out.any _) 1 rfl rfl (Rd.new2 w12 91 17 (shareV l W i).cells (FracV.cells_len _)) rfl (by intro cs hc u hu; rw [List.mem_singleton] at hc; subst hc; exact FracV.ones _ u hu) (by rw [← HOL.out]; unfold maxLen; omega) (by rw [← HOL.out]; omega) ?_); intro A13 c13 w13 h13; have HM8 := Lib.hid h13; clear h13))
       go_roundw
       case rel =>
        refine ⟨i + 1, A13, c13, by omega, by go_num, rfl, ?_⟩
        rw [range_map_succ]
        exact HM8.out.tail
       case measure => simp [intOf]; omega
  · have hlt : (i : Int) < (N : Int) := by omega
    have hil : i + 1 < l.length := by have := HN.out; omega
    have hb0 := frmX_bound HOK.out (i := i) (by omega)
    have hb1 := frmX_bound HOK.out (i := i + 1) hil
    have hf0 := getD_some frm0 (show i < l.length by omega)
    have hf1 := getD_some frm0 hil
    obtain ⟨x, hx⟩ : ∃ x, x = frmX l i := ⟨_, rfl⟩
    obtain ⟨y, hy⟩ : ∃ y, y = frmX l (i + 1) := ⟨_, rfl⟩
    rw [← hx] at hb0
    rw [← hy] at hb1
    obtain ⟨b, hbe⟩ : ∃ b, b = a + x := ⟨_, rfl⟩
    obtain ⟨z, hz⟩ : ∃ z, z = b + y := ⟨_, rfl⟩
    have w1 : IntKind.i64.wrap (a + x) = b := by rw [wrap_i64 (by omega) (by omega)]; exact hbe.symm
    have w2 : IntKind.i64.wrap (b + y) = z := by rw [wrap_i64 (by omega) (by omega)]; exact hz.symm
    have wk1 : IntKind.i64.wrap ((i : Int) + 1) = ((i + 1 : Nat) : Int) := by rw [wrap_i64 (by omega) (by omega)]; omega
    have hkn : (i : Int) < (n : Int) := by have := HN.out; omega
    have hkn1 : ((i + 1 : Nat) : Int) < (n : Int) := by have := HN.out; omega
    have HST : Hid (allXr l (i + 1) = z) := by unfold Hid; rw [hz, hbe, hx, hy, HA.out]; rfl
    have HFX := Lib.hid (fun (w1 : World) (hb : From wr w1) => Rd.cell (P := Try.prog) (HR.out.from HM5.out.from_) hb ct3 (k := i) (cs := (l.getD i frm0).cells) (by rw [List.getElem?_map, hf0]; rfl) (j := 0) (v := .int .i64 x) (by rw [hx]; rfl) (p := oA + i * 5) rfl)
    have HFY := Lib.hid (fun (w1 : World) (hb : From wr w1) => Rd.cell (P := Try.prog) (HR.out.from HM5.out.from_) hb ct3 (k := i + 1) (cs := (l.getD (i + 1) frm0).cells) (by rw [List.getElem?_map, hf1]; rfl) (j := 0) (v := .int .i64 y) (by rw [hy]; rfl) (p := oA + (i + 1) * 5) rfl)
    clear hin hil hb0 hb1 hf0 hf1 hx hy hbe hz hab
    go_wp2
    refine wp_region_run 14 [.val (Value.int .i64 (a)), .val (Value.slice (some ⟨bA, oA, none⟩) n c), .val (Value.int .i64 ((i : Int))), .val (Value.pointer (some ⟨bA, oA + i * 5, none⟩)), .val (Value.pointer (some ⟨bA, oA + i * 5, none⟩)), .val (Value.int .i64 (x)), .val (Value.int .i64 (b)), .val (Value.slice (some ⟨bA, oA, none⟩) n c), .val (Value.int .i64 ((i : Int))), .val (Value.int .i64 (((i + 1 : Nat) : Int))), .val (Value.pointer (some ⟨bA, oA + (i + 1) * 5, none⟩)), .val (Value.pointer (some ⟨bA, oA + (i + 1) * 5, none⟩)), .val (Value.int .i64 (y)), .val (Value.int .i64 (z))] (by kernel_rfl) (by kernel_rfl) (Nat.le_of_ble_eq_true (by kernel_rfl)) (by kernel_rfl) (by kernel_rfl) ?_ ?_ ?_
    · exact trivial
    · exact ⟨(fun _ _ => ok_move rfl), (fun _ _ => ok_move rfl), (fun _ _ => ok_move rfl), (fun _ _ => ok_index (k := i) rfl rfl el22 (hkn) (rfl)), (fun _ _ => ok_field (k := 0) rfl fl44_0 rfl), (fun w hb => ok_load rfl ((HFX.out) w hb)), (fun _ _ => ok_add rfl rfl (w1) rfl), (fun _ _ => ok_move rfl), (fun _ _ => ok_move rfl), (fun _ _ => ok_add rfl rfl (wk1) rfl), (fun _ _ => ok_index (k := (i + 1)) rfl rfl el22 (hkn1) (rfl)), (fun _ _ => ok_field (k := 0) rfl fl44_0 rfl), (fun w hb => ok_load rfl ((HFY.out) w hb)), (fun _ _ => ok_add rfl rfl (w2) rfl), trivial⟩
    intro w7 hb7
    simp only [contS, List.take_succ_cons, List.take_zero, List.drop_succ_cons, List.drop_zero]
    simp only [Act.put, List.setIfInBounds_toArray, List.set_cons_succ, List.set_cons_zero]
    have HM7 := Lib.hid (HM5.out.call hb7)
    clear hb7 HM5
    go_wp2
    go_roundw
    case rel => exact ⟨i + 1, by omega, by go_num, by rw [HST.out], HM7.out⟩
    case measure => simp [intOf]; omega
end Go.Proofs.Ytcdfnlgimbecgaa
