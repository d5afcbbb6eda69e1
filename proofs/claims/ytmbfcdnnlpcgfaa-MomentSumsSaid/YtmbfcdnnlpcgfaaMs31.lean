/-
  slices.Index, Contains of slots; slot.Held.
-/
import Derived.Test.YtmbfcdnnlpcgfaaMs30
set_option linter.unusedVariables false
set_option linter.unusedSimpArgs false
namespace Go.Proofs.Ytmbfcdnnlpcgfaa
open Go.RowKit
theorem op_slot_eql (x y : Slot) {ρ : Operand → Value} {s t : Nat} {d : Option Nat} {T : TypeId} {ty : TypeId} {pos : String} {aft : Array Edge} {gd : Option (Nat × Bool)} (w : World) (hs : ρ (.tmp s) = x.val) (ht : ρ (.tmp t) = y.val) :
 (execOp ρ ⟨d, .binOp .eql 84 (.tmp s) (.tmp t) T, ty, pos, aft, gd⟩).run Try.prog w = .ok (.value (.bool (decide (x = y)))) w := by
 have h1 : (eqGuard .eql 84 (.tmp s) (.tmp t) x.val y.val).run Try.prog w = .ok () w := run_eqGuard_agg (P := Try.prog) (w := w) .eql 84 (.tmp s) (.tmp t) _ _ (by kernel_rfl)
 unfold execOp
 simp only [hs, ht, Sem.run_bind, h1, Result.andThen_ok, Slot.eql_, Sem.run_pure]
set_option maxRecDepth 10000 in
set_option maxHeartbeats 1000000 in
theorem indexSlot (A : Option Addr) (c : Nat) (l : List Slot) (n : Nat) (hn : n = l.length) (x : Slot) (w : World) (hA : Rd w w.heap.size 3 A (l.map Slot.cells)) (hl : l.length ≤ 1000000000000) :
 Calls Try.prog 86 #[.slice A n c, x.val] w fun e w' => e = .returned (.int .i64 (idxE x l)) ∧ From w w' := by
 have HN := Lib.hid hn
 have HR := Lib.hid hA
 have hl2 : n ≤ 1000000000000 := by omega
 have HM0 := Lib.hid ((Mem.nil w).alloc 84 x.cells)
 clear hA hn hl
 go_enter Try.func86, Try.ntmps86
 go_wp2
 go_loopw [5, 8] (fun _ i wr => ∃ k : Nat, k ≤ n ∧ i = .int .i64 k ∧ (∀ j, (h : j < k) → (h2 : j < l.length) → decide (x = l[j]) = false) ∧ Mem w wr [.box w.heap.size 84 x.cells]) (fun _ i _ => n - (intOf i).toNat)
 case atStart => exact ⟨0, by omega, rfl, by omega, HM0.out⟩
 case round =>
  clear HM0
  obtain ⟨k, hk, rfl, hj, hmem⟩ := hrel
  have HJ := Lib.hid hj
  have HM1 := Lib.hid hmem
  clear hj hmem
  by_cases hkn : k = n
  · have hlt : ¬ (k : Int) < (n : Int) := by omega
    have HI : Hid (idxE x l = -1) := idx_none (fun j h => HJ.out j (by have := HN.out; omega) h)
    clear hkn hk
    go_wp2
    go_ret
    exact ⟨by rw [HI.out]; rfl, HM1.out.from_⟩
  · have hlt : (k : Int) < (n : Int) := by omega
    have hkl : k < l.length := by have := HN.out; omega
    obtain ⟨b, off, rfl⟩ := Rd.addr HR.out (by rw [List.length_map]; omega)
    obtain ⟨y, hy⟩ : ∃ y, y = l[k] := ⟨_, rfl⟩
    have HL := Lib.hid (fun w1 (hb : From wr w1) => Rd.row (P := Try.prog) HR.out (HM1.out.from_.trans (hb.mono HM1.out.from_.size)) Slot.row (k := k) (cs := y.cells) (by rw [hy]; exact map_get2 Slot.cells l k hkl) (p := off + k * 3) rfl)
    by_cases hxy : x = y
    · have HI : Hid (idxE x l = k) := idx_found hkl (fun j h => HJ.out j h (by omega)) (by rw [← hy]; exact decide_eq_true hxy)
      have HXY : Hid (decide (x = y) = true) := decide_eq_true hxy
      clear hkn hk hy hxy
      go_upto_region 4 with fail
      refine wp_region_run 6 [.val (x.val), .val (Value.slice (some ⟨b, off, none⟩) n c), .val (Value.int .i64 ((k : Int))), .val (Value.pointer (some ⟨b, off + k * 3, none⟩)), .val (y.val), .val (Value.bool true)] (by kernel_rfl) (by kernel_rfl) (Nat.le_of_ble_eq_true (by kernel_rfl)) (by kernel_rfl) (by kernel_rfl) ?_ ?_ ?_
      · exact trivial
      · exact ⟨(fun w hb => ok_load rfl ((fun w1 hb => HM1.out.ldb Slot.row rfl (i := 0) rfl w1 hb) w hb)), (fun _ _ => ok_move rfl), (fun _ _ => ok_move rfl), (fun _ _ => ok_index (k := k) rfl rfl el125 (hlt) (rfl)), (fun w hb => ok_load rfl ((HL.out) w hb)), (fun w1 _ => (op_slot_eql x y w1 rfl rfl).trans (by rw [HXY.out])), trivial⟩
      intro w2 hb2
      simp only [contS, List.take_succ_cons, List.take_zero, List.drop_succ_cons, List.drop_zero]
      simp only [Act.put, List.setIfInBounds_toArray, List.set_cons_succ, List.set_cons_zero]
      go_wp2
      go_ret
      exact ⟨by rw [HI.out]; rfl, HM1.out.from_.trans (hb2.mono HM1.out.from_.size)⟩
    · have HJ2 : Hid (∀ j, (h : j < k + 1) → (h2 : j < l.length) → decide (x = l[j]) = false) := by
       intro j h h2
       rcases Nat.lt_or_ge j k with h3 | h3
       · exact HJ.out j h3 h2
       · obtain rfl : j = k := by omega
         rw [← hy]
         exact decide_eq_false hxy
      have HXY : Hid (decide (x = y) = false) := decide_eq_false hxy
      clear HJ hy hxy
      go_upto_region 4 with fail
      refine wp_region_run 6 [.val (x.val), .val (Value.slice (some ⟨b, off, none⟩) n c), .val (Value.int .i64 ((k : Int))), .val (Value.pointer (some ⟨b, off + k * 3, none⟩)), .val (y.val), .val (Value.bool false)] (by kernel_rfl) (by kernel_rfl) (Nat.le_of_ble_eq_true (by kernel_rfl)) (by kernel_rfl) (by kernel_rfl) ?_ ?_ ?_
      · exact trivial
      · exact ⟨(fun w hb => ok_load rfl ((fun w1 hb => HM1.out.ldb Slot.row rfl (i := 0) rfl w1 hb) w hb)), (fun _ _ => ok_move rfl), (fun _ _ => ok_move rfl), (fun _ _ => ok_index (k := k) rfl rfl el125 (hlt) (rfl)), (fun w hb => ok_load rfl ((HL.out) w hb)), (fun w1 _ => (op_slot_eql x y w1 rfl rfl).trans (by rw [HXY.out])), trivial⟩
      intro w2 hb2
      simp only [contS, List.take_succ_cons, List.take_zero, List.drop_succ_cons, List.drop_zero]
      simp only [Act.put, List.setIfInBounds_toArray, List.set_cons_succ, List.set_cons_zero]
      go_wp2
      go_roundw
      case rel => exact ⟨k + 1, by omega, by go_num, HJ2.out, HM1.out.call hb2⟩
      case measure => simp [intOf]; omega
theorem containsSlot (A : Option Addr) (c : Nat) (l : List Slot) (n : Nat) (hn : n = l.length) (x : Slot) (w : World) (hA : Rd w w.heap.size 3 A (l.map Slot.cells)) (hl : l.length ≤ 1000000000000) :
 Calls Try.prog 76 #[.slice A n c, x.val] w fun e w' => e = .returned (.bool (l.any fun y => decide (x = y))) ∧ From w w' := by
 have HI := Lib.hid (fun w1 (hb : From w w1) => indexSlot A c l n hn x w1 (hA.from hb) hl)
 have HB : Hid (From w (w.alloc (.cells x.cells.toArray 84))) := (Below.refl _ _).alloc (Nat.le_refl _) _
 rw [any_idx]
 unfold idxE at HI
 generalize idx (fun y => decide (x = y)) l = z at HI ⊢
 clear hA hn hl
 go_enter Try.func76, Try.ntmps76
 go_wp2_with (go_at_call 86; go_loud (refine (HI.out _ HB.out).mono ?_); rintro e w2 ⟨rfl, hb⟩)
 go_ret
 exact ⟨by first | rfl | simp, HB.out.trans (hb.mono HB.out.size)⟩
def belowB (x : Slot) (l : List Slot) (h : Int) : Bool := l.any fun y => decide ((⟨x.col, x.tier - 1, h⟩ : Slot) = y)
def heldB (x : Slot) (l : List Slot) : Bool := if x.tier ≤ 0 then true else belowB x l x.half || (decide (x.half = 0) && (belowB x l 1 && belowB x l 2))
theorem held1 (h : Int) (gl gx : Nat) (A : Option Addr) (c n : Nat) (l : List Slot) (hn : n = l.length) (x : Slot) (w0 w : World) (hA : Rd w w.heap.size 3 A (l.map Slot.cells)) (hl : l.length ≤ 1000000000000) (hm : Mem w0 w [.box gl 125 [.slice A n c], .box gx 84 x.cells]) (ht : 0 < x.tier) (ht2 : x.tier ≤ 1000000) :
 Calls Try.prog 75 #[.int .u8 h, .pointer (some ⟨gl, 0, none⟩), .pointer (some ⟨gx, 0, none⟩)] w fun e w' => e = .returned (.bool (belowB x l h)) ∧ From w w' := by
 have HI := Lib.hid (fun w1 (hb : From w w1) => containsSlot A c l n hn ⟨x.col, x.tier - 1, h⟩ w1 (hA.from hb) hl)
 have HM := Lib.hid hm
 have hw1 : IntKind.i64.wrap (x.tier - 1) = x.tier - 1 := wrap_i64 (by omega) (by omega)
 clear hA hm hn hl ht ht2
 unfold belowB
 obtain ⟨xc, xt, xh⟩ := x
 dsimp only at HI hw1 ⊢
 go_enter Try.func75, Try.ntmps75
 go_wp2_with (first
  | ((with_reducible refine g_ld 125 ?_); refine wpList_ld rfl _ _ rfl _ rfl _ (HM.out.ldc (by kernel_rfl) (i := 0) rfl rfl _ (Below.refl _ _)) ?_)
  | ((with_reducible refine g_ld 3 ?_); refine wpList_ld rfl _ _ rfl _ rfl _ (HM.out.ldc ct3 (i := 1) rfl rfl _ (Below.refl _ _)) ?_)
  | (go_at_call 76; go_loud (refine (HI.out _ (Below.refl _ _)).mono ?_); rintro e w2 ⟨rfl, hb⟩))
 go_ret
 exact ⟨rfl, hb⟩
set_option maxRecDepth 10000 in
set_option maxHeartbeats 1000000 in
theorem slot_Held (x : Slot) (A : Option Addr) (c n : Nat) (l : List Slot) (hn : n = l.length) (w : World) (hA : Rd w w.heap.size 3 A (l.map Slot.cells)) (hl : l.length ≤ 1000000000000) (ht2 : x.tier ≤ 1000000) :
 Calls Try.prog 52 #[x.val, .slice A n c] w fun e w' => e = .returned (.bool (heldB x l)) ∧ From w w' := by
 have HM0 := Lib.hid ((Mem.nil w).alloc2 84 x.cells 125 [.slice A n c])
 by_cases ht : x.tier ≤ 0
 · have HV : Hid (heldB x l = true) := if_pos ht
   clear hA hn hl
   obtain ⟨xc, xt, xh⟩ := x
   dsimp only at ht
   go_enter Try.func52, Try.ntmps52
   go_wp2_with ((with_reducible refine g_ld 3 ?_); refine wpList_ld rfl _ _ rfl _ rfl _ (HM0.out.ldc ct3 (i := 1) rfl rfl _ (Below.refl _ _)) ?_)
   go_ret
   exact ⟨by rw [HV.out]; rfl, HM0.out.from_⟩
 · have hh : ∀ h : Int, Hid (∀ w1, Mem w w1 [.box (w.heap.size + 1) 125 [.slice A n c], .box w.heap.size 84 x.cells] → Calls Try.prog 75 #[.int .u8 h, .pointer (some ⟨w.heap.size + 1, 0, none⟩), .pointer (some ⟨w.heap.size, 0, none⟩)] w1 fun e w' => e = .returned (.bool (belowB x l h)) ∧ From w1 w') :=
    fun h w1 hm => held1 h _ _ A c n l hn x w w1 (hA.from hm.from_) hl hm (by omega) ht2
   have H0 := hh x.half
   have H1 := hh 1
   have H2 := hh 2
   have HE : Hid (heldB x l = (belowB x l x.half || (decide (x.half = 0) && (belowB x l 1 && belowB x l 2)))) := if_neg ht
   clear hh hA hn hl ht2
   obtain ⟨b0, hb0⟩ : ∃ b, b = belowB x l x.half := ⟨_, rfl⟩
   obtain ⟨b1, hb1⟩ : ∃ b, b = belowB x l 1 := ⟨_, rfl⟩
   obtain ⟨b2, hb2⟩ : ∃ b, b = belowB x l 2 := ⟨_, rfl⟩
   have HB0 : Hid (belowB x l x.half = b0) := hb0.symm
   have HB1 : Hid (belowB x l 1 = b1) := hb1.symm
   have HB2 : Hid (belowB x l 2 = b2) := hb2.symm
   have HE2 : Hid (heldB x l = (b0 || (decide (x.half = 0) && (b1 && b2)))) := by unfold Hid; rw [HE.out, ← hb0, ← hb1, ← hb2]
   clear hb0 hb1 hb2 HE
   obtain ⟨xc, xt, xh⟩ := x
   dsimp only at ht HE2 H0 HB0
   cases b0 with
   | true =>
    have HV : Hid (heldB ⟨xc, xt, xh⟩ l = true) := by unfold Hid; rw [HE2.out]; rfl
    go_enter Try.func52, Try.ntmps52
    go_wp2_with (first
     | ((with_reducible refine g_ld 3 ?_); refine wpList_ld rfl _ _ rfl _ rfl _ (HM0.out.ldc ct3 (i := 1) rfl rfl _ (Below.refl _ _)) ?_)
     | (go_at_call 75; refine (H0.out _ HM0.out).mono ?_; rintro e w2 ⟨rfl, hb⟩; rw [HB0.out]; have HM1 := Lib.hid (HM0.out.call hb); clear hb H0 HB0)
     | (go_at_call 75; refine (H1.out _ HM1.out).mono ?_; rintro e w3 ⟨rfl, hb⟩; rw [HB1.out]; have HM2 := Lib.hid (HM1.out.call hb); clear hb H1 HB1)
     | (go_at_call 75; refine (H2.out _ HM2.out).mono ?_; rintro e w4 ⟨rfl, hb⟩; rw [HB2.out]; have HM3 := Lib.hid (HM2.out.call hb); clear hb H2 HB2)
     | ((with_reducible refine g_ld 5 ?_); refine wpList_ldw rfl _ _ rfl _ rfl _ (HM1.out.ldc ct5 (i := 1) rfl rfl _ (Below.refl _ _)) ?_)
     | ((with_reducible refine g_ld 5 ?_); refine wpList_ld rfl _ _ rfl _ rfl _ (HM0.out.ldc ct5 (i := 1) rfl rfl _ (Below.refl _ _)) ?_))
    go_ret
    exact ⟨by rw [HV.out]; rfl, HM1.out.from_⟩
   | false =>
    by_cases hx : xh = 0
    · subst hx
      have hx' : ((0 : Int) == 0) = true := rfl
      cases b1 with
      | false =>
       have HV : Hid (heldB ⟨xc, xt, 0⟩ l = false) := by unfold Hid; rw [HE2.out]; rfl
       go_enter Try.func52, Try.ntmps52
       go_wp2_with (first
        | ((with_reducible refine g_ld 3 ?_); refine wpList_ld rfl _ _ rfl _ rfl _ (HM0.out.ldc ct3 (i := 1) rfl rfl _ (Below.refl _ _)) ?_)
        | (go_at_call 75; refine (H0.out _ HM0.out).mono ?_; rintro e w2 ⟨rfl, hb⟩; rw [HB0.out]; have HM1 := Lib.hid (HM0.out.call hb); clear hb H0 HB0)
        | (go_at_call 75; refine (H1.out _ HM1.out).mono ?_; rintro e w3 ⟨rfl, hb⟩; rw [HB1.out]; have HM2 := Lib.hid (HM1.out.call hb); clear hb H1 HB1)
        | (go_at_call 75; refine (H2.out _ HM2.out).mono ?_; rintro e w4 ⟨rfl, hb⟩; rw [HB2.out]; have HM3 := Lib.hid (HM2.out.call hb); clear hb H2 HB2)
        | ((with_reducible refine g_ld 5 ?_); refine wpList_ldw rfl _ _ rfl _ rfl _ (HM1.out.ldc ct5 (i := 1) rfl rfl _ (Below.refl _ _)) ?_)
        | ((with_reducible refine g_ld 5 ?_); refine wpList_ld rfl _ _ rfl _ rfl _ (HM0.out.ldc ct5 (i := 1) rfl rfl _ (Below.refl _ _)) ?_))
       go_ret
       exact ⟨by rw [HV.out]; rfl, HM2.out.from_⟩
      | true =>
       have HV : Hid (heldB ⟨xc, xt, 0⟩ l = b2) := by unfold Hid; rw [HE2.out]; simp
       go_enter Try.func52, Try.ntmps52
       go_wp2_with (first
        | ((with_reducible refine g_ld 3 ?_); refine wpList_ld rfl _ _ rfl _ rfl _ (HM0.out.ldc ct3 (i := 1) rfl rfl _ (Below.refl _ _)) ?_)
        | (go_at_call 75; refine (H0.out _ HM0.out).mono ?_; rintro e w2 ⟨rfl, hb⟩; rw [HB0.out]; have HM1 := Lib.hid (HM0.out.call hb); clear hb H0 HB0)
        | (go_at_call 75; refine (H1.out _ HM1.out).mono ?_; rintro e w3 ⟨rfl, hb⟩; rw [HB1.out]; have HM2 := Lib.hid (HM1.out.call hb); clear hb H1 HB1)
        | (go_at_call 75; refine (H2.out _ HM2.out).mono ?_; rintro e w4 ⟨rfl, hb⟩; rw [HB2.out]; have HM3 := Lib.hid (HM2.out.call hb); clear hb H2 HB2)
        | ((with_reducible refine g_ld 5 ?_); refine wpList_ldw rfl _ _ rfl _ rfl _ (HM1.out.ldc ct5 (i := 1) rfl rfl _ (Below.refl _ _)) ?_)
        | ((with_reducible refine g_ld 5 ?_); refine wpList_ld rfl _ _ rfl _ rfl _ (HM0.out.ldc ct5 (i := 1) rfl rfl _ (Below.refl _ _)) ?_))
       go_ret
       exact ⟨by rw [HV.out]; rfl, HM3.out.from_⟩
    · have hx' : (xh == 0) = false := by simpa using hx
      have HV : Hid (heldB ⟨xc, xt, xh⟩ l = false) := by unfold Hid; rw [HE2.out]; simp [hx]
      go_enter Try.func52, Try.ntmps52
      go_wp2_with (first
       | ((with_reducible refine g_ld 3 ?_); refine wpList_ld rfl _ _ rfl _ rfl _ (HM0.out.ldc ct3 (i := 1) rfl rfl _ (Below.refl _ _)) ?_)
       | (go_at_call 75; refine (H0.out _ HM0.out).mono ?_; rintro e w2 ⟨rfl, hb⟩; rw [HB0.out]; have HM1 := Lib.hid (HM0.out.call hb); clear hb H0 HB0)
       | (go_at_call 75; refine (H1.out _ HM1.out).mono ?_; rintro e w3 ⟨rfl, hb⟩; rw [HB1.out]; have HM2 := Lib.hid (HM1.out.call hb); clear hb H1 HB1)
       | (go_at_call 75; refine (H2.out _ HM2.out).mono ?_; rintro e w4 ⟨rfl, hb⟩; rw [HB2.out]; have HM3 := Lib.hid (HM2.out.call hb); clear hb H2 HB2)
       | ((with_reducible refine g_ld 5 ?_); refine wpList_ldw rfl _ _ rfl _ rfl _ (HM1.out.ldc ct5 (i := 1) rfl rfl _ (Below.refl _ _)) ?_)
       | ((with_reducible refine g_ld 5 ?_); refine wpList_ld rfl _ _ rfl _ rfl _ (HM0.out.ldc ct5 (i := 1) rfl rfl _ (Below.refl _ _)) ?_))
      go_ret
      exact ⟨by rw [HV.out]; rfl, HM1.out.from_⟩
def letterB (b : Int) : Bool := decide (65 ≤ b) && decide (b ≤ 90)
def groupB (b : Int) : Bool := b == 85 || b == 74 || b == 90
def digitB (b : Int) : Bool := decide (48 ≤ b) && decide (b ≤ 57)
def mayB (i : Nat) (b : Int) : Bool := if i < 3 then letterB b else if i = 3 then groupB b else digitB b
def byteAt (s : ByteArray) (i : Nat) : Int := ((s.data[i]?.map fun c => (c.toNat : Int)).getD 0)
def okAt (s : ByteArray) (i : Nat) : Bool := decide (i < 11) && mayB i (byteAt s i)
def formedB (s : ByteArray) : Bool := decide (∀ i, i < s.size → okAt s i = true)
def valI (b : Int) : Int := if digitB b then b - 48 else if letterB b then 10 + (b - 65) + (b - 65 + 9) / 10 else 0
def isVB (b : Int) : Bool := digitB b || letterB b
def sumV (s : ByteArray) : Nat → Int
 | 0 => 0
 | n + 1 => sumV s n + valI (byteAt s n) * 2 ^ n
theorem byteAt_get {s : ByteArray} {i : Nat} (h : i < s.size) : byteAt s i = (s[i].toNat : Int) := by
 unfold byteAt
 have : s.data[i]? = some s[i] := Array.getElem?_eq_getElem h
 rw [this]
 rfl
theorem byteAt_bd (s : ByteArray) (i : Nat) : 0 ≤ byteAt s i ∧ byteAt s i ≤ 255 := by
 unfold byteAt
 cases s.data[i]? with
 | none => simp
 | some c => have := c.toNat_lt; simp; omega
theorem valI_bd {b : Int} (_h0 : 0 ≤ b) (h : b ≤ 255) : 0 ≤ valI b ∧ valI b ≤ 38 := by
 unfold valI digitB letterB
 split
 · rename_i hd
   simp at hd
   omega
 · split
   · rename_i hl
     simp at hl
     omega
   · omega
theorem iso_value (b : Int) (w : World) (h0 : 0 ≤ b) (h1 : b ≤ 255) :
 Calls Try.prog 93 #[.int .u8 b] w fun e w' => e = .returned (.tuple #[.int .i64 (valI b), .bool (isVB b)]) ∧ w = w' := by
 by_cases hd : 48 ≤ b ∧ b ≤ 57
 · obtain ⟨d1, d2⟩ := hd
   have e : valI b = b - 48 := by unfold valI digitB; simp [d1, d2]
   have e2 : isVB b = true := by unfold isVB digitB; simp [d1, d2]
   have E := Lib.hid e
   have E2 := Lib.hid e2
   clear e e2
   go_enter Try.func93, Try.ntmps93
   go_wp2
   go_ret2
   exact ⟨by rw [E.out, E2.out]; rfl, rfl⟩
 · by_cases hl : 65 ≤ b ∧ b ≤ 90
   · obtain ⟨d1, d2⟩ := hl
     have e : valI b = 10 + (b - 65) + (b - 65 + 9) / 10 := by
      unfold valI digitB letterB
      rw [if_neg (by simp; omega), if_pos (by simp; omega)]
     have e2 : isVB b = true := by unfold isVB digitB letterB; simp [d1, d2]
     have E := Lib.hid e
     have E2 := Lib.hid e2
     clear e e2 hd
     have hd : decide (b ≤ 57) = false := by simp; omega
     go_enter Try.func93, Try.ntmps93
     go_wp2
     go_ret2
     exact ⟨by rw [E.out, E2.out]; rfl, rfl⟩
   · have e : valI b = 0 := by
      unfold valI digitB letterB
      rw [if_neg (by simp; omega), if_neg (by simp; omega)]
     have e2 : isVB b = false := by unfold isVB digitB letterB; simp; omega
     have E := Lib.hid e
     have E2 := Lib.hid e2
     clear e e2
     rcases Int.lt_or_le b 48 with h48 | h48
     · clear hd hl
       go_enter Try.func93, Try.ntmps93
       go_wp2
       go_ret2
       exact ⟨by rw [E.out, E2.out]; rfl, rfl⟩
     · have h57 : 57 < b := by omega
       rcases Int.lt_or_le b 65 with h65 | h65
       · clear hd hl
         go_enter Try.func93, Try.ntmps93
         go_wp2
         go_ret2
         exact ⟨by rw [E.out, E2.out]; rfl, rfl⟩
       · have h90 : 90 < b := by omega
         clear hd hl
         go_enter Try.func93, Try.ntmps93
         go_wp2
         go_ret2
         exact ⟨by rw [E.out, E2.out]; rfl, rfl⟩
theorem may1 (b : Int) (w : World) (h0 : 0 ≤ b) (h1 : b ≤ 255) : Calls Try.prog 94 #[.int .u8 b] w fun e w' => e = .returned (.bool (letterB b)) ∧ w = w' := by
 have HL : Hid (letterB b = (decide (65 ≤ b) && decide (b ≤ 90))) := rfl
 go_enter Try.func94, Try.ntmps94
 rcases Int.lt_or_le b 65 with h | h
 · have hd : decide (65 ≤ b) = false := by simp; omega
   have HD := Lib.hid hd
   go_wp2
   go_ret
   exact ⟨by rw [HL.out, HD.out]; rfl, rfl⟩
 · have hd : decide (65 ≤ b) = true := by simp; omega
   have HD := Lib.hid hd
   go_wp2
   go_ret
   exact ⟨by rw [HL.out, HD.out]; rfl, rfl⟩
theorem may3 (b : Int) (w : World) (h0 : 0 ≤ b) (h1 : b ≤ 255) : Calls Try.prog 96 #[.int .u8 b] w fun e w' => e = .returned (.bool (digitB b)) ∧ w = w' := by
 have HL : Hid (digitB b = (decide (48 ≤ b) && decide (b ≤ 57))) := rfl
 go_enter Try.func96, Try.ntmps96
 rcases Int.lt_or_le b 48 with h | h
 · have hd : decide (48 ≤ b) = false := by simp; omega
   have HD := Lib.hid hd
   go_wp2
   go_ret
   exact ⟨by rw [HL.out, HD.out]; rfl, rfl⟩
 · have hd : decide (48 ≤ b) = true := by simp; omega
   have HD := Lib.hid hd
   go_wp2
   go_ret
   exact ⟨by rw [HL.out, HD.out]; rfl, rfl⟩
theorem may2 (b : Int) (w : World) (h0 : 0 ≤ b) (h1 : b ≤ 255) : Calls Try.prog 95 #[.int .u8 b] w fun e w' => e = .returned (.bool (groupB b)) ∧ w = w' := by
 have HL : Hid (groupB b = ((b == 85 || b == 74) || b == 90)) := rfl
 go_enter Try.func95, Try.ntmps95
 cases ha : (b == 85) with
 | true =>
  have HD := Lib.hid ha
  go_wp2
  go_ret
  exact ⟨by rw [HL.out, HD.out]; rfl, rfl⟩
 | false =>
  have HD := Lib.hid ha
  cases hb : (b == 74) with
  | true =>
   have HB := Lib.hid hb
   go_wp2
   go_ret
   exact ⟨by rw [HL.out, HD.out, HB.out]; rfl, rfl⟩
  | false =>
   have HB := Lib.hid hb
   go_wp2
   go_ret
   exact ⟨by rw [HL.out, HD.out, HB.out]; rfl, rfl⟩
def mayCells : List Value := [.func (.func 94) #[] #[], .func (.func 94) #[] #[], .func (.func 94) #[] #[], .func (.func 95) #[] #[], .func (.func 96) #[] #[], .func (.func 96) #[] #[], .func (.func 96) #[] #[], .func (.func 96) #[] #[], .func (.func 96) #[] #[], .func (.func 96) #[] #[], .func (.func 96) #[] #[]]
theorem may_one : ∀ u ∈ mayCells, u.oneCell' = true := by simp [mayCells, Value.oneCell']
theorem iso_may (w : World) : Calls Try.prog 92 #[] w fun e w' => e = .returned (.agg mayCells.toArray) ∧ Below w.heap.size w w' := by
 go_enter Try.func92, Try.ntmps92
 go_wp2_with (refine wpList_st rfl _ _ rfl rfl rfl (n := 11) (cs := mayCells) (by kernel_rfl) rfl rfl (heap_alloc_new w _) (by simp) may_one ?_; intro cur' w2 hl hs hg hgr)
 have hcur : cur' = mayCells.toArray := by
  apply Array.ext'
  rw [hl]
  rfl
 subst hcur
 refine bodyPost_ret (v := .agg mayCells.toArray) (results_cell_row rfl _ w2 w.heap.size _ _ _ _ rfl hg Try.underlying163 rfl (by kernel_rfl)) rfl ⟨rfl, ?_⟩
 exact ((Below.refl _ _).alloc (Nat.le_refl _) _).grown hgr (by simp) (fun k hk => by injection hk with hk; omega)
theorem may_cf1 (w : World) (args : Array Value) : (callFunc 94 args).run Try.prog w = .ok (.enter 94 args) w := by go_simp
theorem may_cf2 (w : World) (args : Array Value) : (callFunc 95 args).run Try.prog w = .ok (.enter 95 args) w := by go_simp
theorem may_cf3 (w : World) (args : Array Value) : (callFunc 96 args).run Try.prog w = .ok (.enter 96 args) w := by go_simp
theorem may_at (k : Nat) (h : k < 11) : ∃ f, mayCells[k]? = some (.func (.func f) #[] #[]) ∧ (∀ w args, (callFunc f args).run Try.prog w = .ok (.enter f args) w) ∧
 ∀ (b : Int) (w : World), 0 ≤ b → b ≤ 255 → Calls Try.prog f #[.int .u8 b] w fun e w' => e = .returned (.bool (mayB k b)) ∧ Below w.heap.size w w' := by
 have hk : k = 0 ∨ k = 1 ∨ k = 2 ∨ k = 3 ∨ k = 4 ∨ k = 5 ∨ k = 6 ∨ k = 7 ∨ k = 8 ∨ k = 9 ∨ k = 10 := by omega
 have c1 : ∀ (b : Int) (w : World), 0 ≤ b → b ≤ 255 → Calls Try.prog 94 #[.int .u8 b] w fun e w' => e = .returned (.bool (letterB b)) ∧ Below w.heap.size w w' := fun b w h0 h1 => (may1 b w h0 h1).mono fun e w' ⟨he, hw⟩ => ⟨he, hw ▸ Below.refl _ _⟩
 have c2 : ∀ (b : Int) (w : World), 0 ≤ b → b ≤ 255 → Calls Try.prog 95 #[.int .u8 b] w fun e w' => e = .returned (.bool (groupB b)) ∧ Below w.heap.size w w' := fun b w h0 h1 => (may2 b w h0 h1).mono fun e w' ⟨he, hw⟩ => ⟨he, hw ▸ Below.refl _ _⟩
 have c3 : ∀ (b : Int) (w : World), 0 ≤ b → b ≤ 255 → Calls Try.prog 96 #[.int .u8 b] w fun e w' => e = .returned (.bool (digitB b)) ∧ Below w.heap.size w w' := fun b w h0 h1 => (may3 b w h0 h1).mono fun e w' ⟨he, hw⟩ => ⟨he, hw ▸ Below.refl _ _⟩
 rcases hk with rfl | rfl | rfl | rfl | rfl | rfl | rfl | rfl | rfl | rfl | rfl
 · exact ⟨_, rfl, may_cf1, c1⟩
 · exact ⟨_, rfl, may_cf1, c1⟩
 · exact ⟨_, rfl, may_cf1, c1⟩
 · exact ⟨_, rfl, may_cf2, c2⟩
 all_goals exact ⟨_, rfl, may_cf3, c3⟩
theorem okAt_eq {s : ByteArray} {k : Nat} (h : k < s.size) : okAt s k = (decide (k < 11) && mayB k (s[k].toNat : Int)) := by
 unfold okAt
 rw [byteAt_get h]
set_option maxHeartbeats 1000000 in
theorem iso_formed (s : ByteArray) (w : World) (hs : s.size ≤ 140737488351232) :
 Calls Try.prog 89 #[.string s] w fun e w' => e = .returned (.bool (formedB s)) ∧ Below w.heap.size w w' := by
 have hfb : (∀ i, i < s.size → okAt s i = true) → formedB s = true := fun h => by unfold formedB; simp; exact h
 have hfn : ∀ i, i < s.size → okAt s i = false → formedB s = false := fun i h h2 => by
  unfold formedB
  rw [decide_eq_false_iff_not]
  intro hall
  rw [hall i h] at h2
  cases h2
 have HFB := Lib.hid hfb
 have HFN := Lib.hid hfn
 clear hfb hfn
 go_enter Try.func89, Try.ntmps89
 go_wp2_with (first
  | (go_at_call 92; refine (iso_may _).mono ?_; rintro e w1 ⟨rfl, hb1⟩)
  | (refine wpList_st rfl _ _ rfl rfl rfl (n := 11) (cs := mayCells) (by kernel_rfl) rfl rfl (heap_alloc_new w1 _) (by simp) may_one ?_; intro cur' w2 hl hs' hg hgr))
 have hcur : cur' = mayCells.toArray := by
  apply Array.ext'
  rw [hl]
  rfl
 subst hcur
 have hb2 : Below w.heap.size w w2 := (hb1.alloc hb1.size _).grown hgr (by simp; have := hb1.size; omega) (fun k hk => by injection hk with hk; have := hb1.size; omega)
 have hlt2 : w1.heap.size < w2.heap.size := (Array.getElem?_eq_some_iff.1 hg).1
 have hcell : ∀ w', From w2 w' → ∀ i v, mayCells[i]? = some v → w'.cell? ⟨w1.heap.size, i, none⟩ = some v := fun w' hb i v hv => by
  rw [cell_of_row w' w1.heap.size i _ _ _ ((hb.block _ hlt2).trans hg)]
  simpa using hv
 have HC := Lib.hid hcell
 have HB2 := Lib.hid hb2
 clear hl hs' hg hgr hcell hb2
 go_loopw [4, 8] (fun _ i wr => ∃ k : Nat, k ≤ s.size ∧ i = .int .i64 k ∧ (∀ j, j < k → okAt s j = true) ∧ From w2 wr) (fun _ i _ => s.size - (intOf i).toNat)
 case atStart => exact ⟨0, by omega, rfl, by omega, Below.refl _ _⟩
 case round =>
  obtain ⟨k, hk, rfl, hj, hb⟩ := hrel
  have HJ := Lib.hid hj
  clear hj
  by_cases hlt : k < s.size
  · have hok := okAt_eq hlt
    have HOK := Lib.hid hok
    clear hok
    by_cases h11 : k < 11
    · have hd : decide ((11 : Int) ≤ (k : Int)) = false := by simp; omega
      obtain ⟨f, hmf, hcf, hcall⟩ := may_at k h11
      have hle : okAt s k = mayB k (s[k].toNat : Int) := by rw [HOK.out]; simp [h11]
      have HLE := Lib.hid hle
      have HLD := Lib.hid (fun w' hb => HC.out w' hb k _ hmf)
      have HCALL := Lib.hid hcall
      have hbd : (s[k].toNat : Int) ≤ 255 := by have := s[k].toNat_lt; omega
      clear hle hmf hcall
      go_wp2
      refine wp_region_below (by kernel_rfl) (by kernel_rfl) wr.heap.size ?_
      repeat (first | go_big_quiet_skip | (go_big_quiet_want; refine quiet_ld _ _ rfl _ rfl _ (fun w' hC => run_load_cell Try.underlying148 rfl (HLD.out w' (hb.trans (hC.mono hb.size)))) ?_; simp only [Act.put, List.setIfInBounds_toArray, List.set_cons_succ, List.set_cons_zero]; go_big_quiet_on) | go_big_quiet_step (first | (intro hC; rfl) | (intro hC; exact ⟨rfl, rfl⟩) | (intro hC; refine (HCALL.out _ _ (by omega) hbd).mono ?_; rintro e w' ⟨rfl, hb3⟩; exact ⟨rfl, hC.trans (hb3.mono hC.size)⟩)))
      refine wpQuiet_nil ?_
      intro w' hC
      cases hm : mayB k (s[k].toNat : Int) with
      | true =>
       have hok1 : okAt s k = true := by rw [HLE.out, hm]
       have HOK1 := Lib.hid hok1
       clear hok1
       go_wp2
       go_roundw
       case rel =>
        refine ⟨k + 1, by omega, by go_num, fun j h => ?_, hb.trans (hC.mono hb.size)⟩
        rcases Nat.lt_or_ge j k with h3 | h3
        · exact HJ.out j h3
        · obtain rfl : j = k := by omega
          exact HOK1.out
       case measure => simp [intOf]; omega
      | false =>
       have hok1 : okAt s k = false := by rw [HLE.out, hm]
       have HBAD := Lib.hid (HFN.out k hlt hok1)
       clear hok1
       go_wp2
       go_ret
       exact ⟨by rw [HBAD.out]; rfl, HB2.out.trans ((hb.trans (hC.mono hb.size)).mono HB2.out.size)⟩
    · have hbad : okAt s k = false := by rw [HOK.out]; simp [h11]
      have HBAD := Lib.hid (HFN.out k hlt hbad)
      clear hbad
      have hd : decide ((11 : Int) ≤ (k : Int)) = true := by simp; omega
      go_wp2
      refine wp_region_below (by kernel_rfl) (by kernel_rfl) wr.heap.size ?_
      repeat (first | go_big_quiet_skip | go_big_quiet_step (first | (intro hC; rfl) | (intro hC; exact ⟨rfl, rfl⟩)))
      refine wpQuiet_nil ?_
      intro w' hC
      go_wp2
      go_ret
      exact ⟨by rw [HBAD.out]; rfl, HB2.out.trans ((hb.trans (hC.mono hb.size)).mono HB2.out.size)⟩
  · obtain rfl : k = s.size := by omega
    have HF := Lib.hid (HFB.out HJ.out)
    go_wp2
    go_ret
    exact ⟨by rw [HF.out]; rfl, HB2.out.trans (hb.mono HB2.out.size)⟩
theorem sumV_bd (s : ByteArray) : ∀ n, 0 ≤ sumV s n ∧ sumV s n ≤ 38 * (2 ^ n - 1)
 | 0 => by simp [sumV]
 | n + 1 => by
  have ih := sumV_bd s n
  have hb := byteAt_bd s n
  have hv := valI_bd hb.1 hb.2
  have hp : (0 : Int) < 2 ^ n := Int.pow_pos (by omega)
  have h1 : valI (byteAt s n) * 2 ^ n ≤ 38 * 2 ^ n := Int.mul_le_mul_of_nonneg_right hv.2 (by omega)
  have h0 : 0 ≤ valI (byteAt s n) * 2 ^ n := Int.mul_nonneg hv.1 (by omega)
  have e : (2 : Int) ^ (n + 1) = 2 * 2 ^ n := by rw [Int.pow_succ]; omega
  unfold sumV
  rw [e]
  omega
def digitV (s : ByteArray) : Int := 48 + sumV s s.size % 11 % 10
theorem pow_le {k : Nat} (h : k < 10) : (1 : Int) ≤ 2 ^ k ∧ (2 : Int) ^ k ≤ 512 := by
 have hk : k = 0 ∨ k = 1 ∨ k = 2 ∨ k = 3 ∨ k = 4 ∨ k = 5 ∨ k = 6 ∨ k = 7 ∨ k = 8 ∨ k = 9 := by omega
 rcases hk with rfl | rfl | rfl | rfl | rfl | rfl | rfl | rfl | rfl | rfl <;> decide
theorem digit_step {s : ByteArray} {k : Nat} (h : k < s.size) (hk : k < 10) : wrap64 (sumV s k + wrap64 (valI (s[k].toNat : Int) * 2 ^ k)) = sumV s (k + 1) := by
 have hb := byteAt_bd s k
 have hv := valI_bd hb.1 hb.2
 obtain ⟨p1, p2⟩ := pow_le hk
 have hs := sumV_bd s k
 have h1 : valI (byteAt s k) * 2 ^ k ≤ 38 * 2 ^ k := Int.mul_le_mul_of_nonneg_right hv.2 (by omega)
 have h0 : 0 ≤ valI (byteAt s k) * 2 ^ k := Int.mul_nonneg hv.1 (by omega)
 rw [← byteAt_get h]
 rw [IntWalk.wrap64_in (valI (byteAt s k) * 2 ^ k) ⟨by omega, by omega⟩, IntWalk.wrap64_in _ ⟨by omega, by omega⟩]
 rfl
set_option maxHeartbeats 1000000 in
theorem iso_digit (s : ByteArray) (w : World) (hs : s.size ≤ 10) :
 Calls Try.prog 90 #[.string s] w fun e w' => e = .returned (.int .u8 (digitV s)) ∧ w = w' := by
 go_enter Try.func90, Try.ntmps90
 go_wp2
 go_loop [3, 9] (fun u i => ∃ k : Nat, k ≤ s.size ∧ i = .int .i64 k ∧ u = .int .i64 (sumV s k)) (fun _ i => s.size - (intOf i).toNat)
 case atStart => exact ⟨0, by omega, rfl, rfl⟩
 case round =>
  obtain ⟨k, hk, rfl, rfl⟩ := hrel
  have hsb := sumV_bd s k
  obtain ⟨sb1, sb2⟩ := hsb
  by_cases hlt : k < s.size
  · have hbd : (s[k].toNat : Int) ≤ 255 := by have := s[k].toNat_lt; omega
    have hv := valI_bd (b := (s[k].toNat : Int)) (by omega) hbd
    obtain ⟨v1, v2⟩ := hv
    go_wp2_with (go_at_call 93; refine (iso_value _ _ (by omega) hbd).mono ?_; rintro e w' ⟨rfl, rfl⟩)
    go_round
    case rel => exact ⟨k + 1, by omega, by go_num, by rw [digit_step hlt (by omega)]⟩
    case measure => simp [intOf]; omega
  · obtain rfl : k = s.size := by omega
    go_wp2
    go_ret
    exact ⟨rfl, rfl⟩
theorem not_bne_int (x y : Int) : (!(x != y)) = decide (x = y) := by by_cases h : x = y <;> simp [h]
def isoB (s : ByteArray) : Bool := decide (s.size = 11) && formedB s && decide (48 + sumV s 10 % 11 % 10 = byteAt s 10)
theorem byteAt_extract (s : ByteArray) (i : Nat) (h : i < 10) (hs : 10 ≤ s.size) : byteAt (s.extract 0 10) i = byteAt s i := by
 have h1 : i < (s.extract 0 10).size := by simp; omega
 rw [byteAt_get h1, byteAt_get (by omega)]
 simp [ByteArray.getElem_extract]
theorem sumV_extract (s : ByteArray) (hs : 10 ≤ s.size) : ∀ n, n ≤ 10 → sumV (s.extract 0 10) n = sumV s n
 | 0, _ => rfl
 | n + 1, h => by
  unfold sumV
  rw [sumV_extract s hs n (by omega), byteAt_extract s n (by omega) hs]
set_option maxHeartbeats 1000000 in
theorem iso_check (s : ByteArray) (w : World) (hs : s.size ≤ 140737488351232) :
 Calls Try.prog 82 #[.string s] w fun e w' => ∃ n, e = .returned (.int .i64 n) ∧ (n == 0) = isoB s ∧ Below w.heap.size w w' := by
 by_cases h11 : s.size = 11
 · have hne : ((s.size : Int) != 11) = false := by simp [h11]
   have hle : s.size ≤ 11 := by omega
   have hge : 10 < s.size := by omega
   have H11 := Lib.hid h11
   clear h11
   cases hf : formedB s with
   | true =>
    have hx : (s.extract 0 10).size ≤ 10 := by simp; omega
    have hres : ∀ n : Int, (n == 0) = !(digitV (s.extract 0 10) != (s[10].toNat : Int)) → (n == 0) = isoB s := by
     intro n hn
     rw [hn]
     unfold isoB digitV
     have e1 : (s.extract 0 10).size = 10 := by simp; omega
     rw [e1, sumV_extract s (by omega) 10 (by omega), byteAt_get (s := s) (i := 10) (by omega), hf, decide_eq_true H11.out]
     rw [not_bne_int]
     simp
    have HR := Lib.hid hres
    clear hres
    have hix : ∀ w, (Instr.index 9 (.string s) (.int .i64 10)).run Try.prog w = .ok (.int .u8 (s[10].toNat : Int)) w := fun w => by
     simp [Instr.index, asIntOf, run_underlying Try.underlying9, hge]
    go_enter Try.func82, Try.ntmps82
    go_wp2_with (go_at_call 89; refine (iso_formed s _ hs).mono ?_; rintro e w1 ⟨rfl, hb1⟩)
    refine wp_region_below (by kernel_rfl) (by kernel_rfl) w1.heap.size ?_
    repeat (first | go_big_quiet_skip | go_big_quiet_step (first | (intro hC; rfl) | (intro hC; exact ⟨rfl, rfl⟩) | (intro hC; refine (iso_digit _ _ hx).mono ?_; rintro e w' ⟨rfl, rfl⟩; exact ⟨rfl, hC⟩)))
    refine wpQuiet_nil ?_
    intro w' hC
    cases hq : (digitV (s.extract 0 10) != (s[10].toNat : Int)) with
    | true =>
     have HQ := Lib.hid hq
     go_wp2
     go_ret
     exact ⟨31, rfl, HR.out 31 (by rw [HQ.out]; rfl), hb1.trans (hC.mono hb1.size)⟩
    | false =>
     have HQ := Lib.hid hq
     go_wp2
     go_ret
     exact ⟨0, rfl, HR.out 0 (by rw [HQ.out]; rfl), hb1.trans (hC.mono hb1.size)⟩
   | false =>
    have HI : Hid (isoB s = false) := by unfold Hid isoB; rw [hf]; simp
    go_enter Try.func82, Try.ntmps82
    go_wp2_with (go_at_call 89; refine (iso_formed s _ hs).mono ?_; rintro e w1 ⟨rfl, hb1⟩)
    go_ret
    exact ⟨30, rfl, by rw [HI.out]; rfl, hb1⟩
 · have hne : ((s.size : Int) != 11) = true := by simp; omega
   have HI : Hid (isoB s = false) := by unfold Hid isoB; simp [h11]
   go_enter Try.func82, Try.ntmps82
   go_wp2
   go_ret
   exact ⟨30, rfl, by rw [HI.out]; rfl, Below.refl _ _⟩
theorem iso_right (s : ByteArray) (w : World) (hs : s.size ≤ 140737488351232) :
 Calls Try.prog 63 #[.string s] w fun e w' => e = .returned (.bool (isoB s)) ∧ Below w.heap.size w w' := by
 go_enter Try.func63, Try.ntmps63
 go_wp2_with (go_at_call 82; refine (iso_check s _ hs).mono ?_; rintro e w' ⟨n, rfl, hn, hb⟩; have HN := Lib.hid hn; clear hn)
 go_ret
 exact ⟨by rw [← HN.out]; rfl, hb⟩
end Go.Proofs.Ytmbfcdnnlpcgfaa
