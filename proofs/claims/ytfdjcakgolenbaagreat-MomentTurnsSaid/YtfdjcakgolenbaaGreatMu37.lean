/-
  moment: Find.
-/
import Derived.Test.YtfdjcakgolenbaaGreatMu36
set_option linter.unusedVariables false
set_option linter.unusedSimpArgs false
namespace Go.Proofs.YtfdjcakgolenbaaGreat
open Go.RowKit
structure Ctr where
 x : FracV
 y : FracV
 z : FracV
def Ctr.cells (c : Ctr) : List Value := c.x.cells ++ (c.y.cells ++ c.z.cells)
def Ctr.val (c : Ctr) : Value := .agg c.cells.toArray
theorem Ctr.len (c : Ctr) : c.cells.length = 51 := by simp [Ctr.cells, FracV.cells_len]
theorem Ctr.one (c : Ctr) : ∀ u ∈ c.cells, u.oneCell' = true := by
 intro u hu
 rcases List.mem_append.1 hu with h | h
 · exact c.x.ones u h
 · rcases List.mem_append.1 h with h | h
   · exact c.y.ones u h
   · exact c.z.ones u h
def ctr0 : Ctr := ⟨zeroF, zeroF, zeroF⟩
theorem Ctr.row : IsRow Tryz.prog 73 51 := ⟨_, Tryz.underlying73, by kernel_rfl, by kernel_rfl⟩
theorem Ctr.size : (Tryz.prog.info? 73).map (·.size) = some 51 := by kernel_rfl
def findF (l : Ld) : Ctr × Int := if ldOk l then if l.kilos = 0 then (ctr0, 6) else (⟨(ratioL l.x l.kilos).1, (ratioL l.y l.kilos).1, (ratioL l.z (2 * l.kilos)).1⟩, 0) else (ctr0, 2)
def CtrPost (w : World) (r : Ctr × Int) (e : Ending) (w' : World) : Prop := e = .returned (.tuple #[r.1.val, .int .i64 r.2]) ∧ From w w'
set_option maxRecDepth 100000 in
set_option maxHeartbeats 4000000 in
theorem build_ctr (f g h : FracV) {a : Act} {s t u : Nat} {d : Option Nat} {ty : TypeId} {pos : String} {aft : Array Edge} {gd : Option (Nat × Bool)} (w : World) (hx : a.eval (.tmp s) = .agg f.cells.toArray) (hy : a.eval (.tmp t) = .agg g.cells.toArray) (hz : a.eval (.tmp u) = .agg h.cells.toArray) :
 (execOp a.eval ⟨d, .build 73 #[(0, .tmp s), (1, .tmp t), (2, .tmp u)], ty, pos, aft, gd⟩).run Tryz.prog w = .ok (.value (Ctr.val ⟨f, g, h⟩)) w := by
 obtain ⟨b, c, hf⟩ := frac_explicit f
 obtain ⟨b', c', hg⟩ := frac_explicit g
 obtain ⟨b2, c2, hh⟩ := frac_explicit h
 unfold Ctr.val Ctr.cells
 dsimp only
 rw [hf] at hx
 rw [hg] at hy
 rw [hh] at hz
 rw [hf, hg, hh]
 clear hf hg hh
 have hx' : a.tmps[s]?.getD undef = _ := (by simp [Act.eval] : a.tmps[s]?.getD undef = a.eval (.tmp s)).trans hx
 have hy' : a.tmps[t]?.getD undef = _ := (by simp [Act.eval] : a.tmps[t]?.getD undef = a.eval (.tmp t)).trans hy
 have hz' : a.tmps[u]?.getD undef = _ := (by simp [Act.eval] : a.tmps[u]?.getD undef = a.eval (.tmp u)).trans hz
 go_simp
set_option maxRecDepth 100000 in
set_option maxHeartbeats 4000000 in
theorem m_Find (l : Ld) (w : World) : Calls Tryz.prog 20 #[.agg #[.int .i64 l.kilos, .int .i64 l.x, .int .i64 l.y, .int .i64 l.z]] w (CtrPost w (findF l)) := by
 have HM0 := Lib.hid ((Mem.nil w).alloc2 48 l.cells 73 ctr0.cells)
 have HR := Lib.hid (fun w1 => m_Right l w1)
 obtain ⟨r, hr⟩ : ∃ r, r = findF l := ⟨_, rfl⟩
 rw [← hr]
 cases hok : ldOk l with
 | false =>
  rw [hok] at HR
  have HE : Hid (r = (ctr0, 2)) := by unfold Hid findF at *; rw [hr, if_neg (by rw [hok]; simp)]
  clear hr hok
  obtain ⟨k, x, y, z⟩ := l
  go_enter Tryz.func20, Tryz.ntmps20
  go_wp2_with (first
   | (go_at_call 22; go_loud (refine (HR.out _).mono ?_); rintro e w1 ⟨rfl, hb⟩; have HM1 := Lib.hid (HM0.out.call hb); clear hb)
   | ((with_reducible refine g_st 73 ?_); go_loud (refine wpList_stB (cs' := ctr0.cells) rfl _ _ rfl HM1.out 0 rfl rfl rfl Ctr.size rfl (Ctr.len _) (Ctr.len _) (Ctr.one _) ?_); intro w6 h6))
  refine bodyPost_ret (results_box2 rfl _ rfl (h6.ldb Ctr.row (Ctr.len _) (i := 0) rfl _ (Below.refl _ _))) rfl ⟨?_, h6.from_⟩
  rw [HE.out]
  rfl
 | true =>
  rw [hok] at HR
  have hnum := ldOk_nums hok
  by_cases hk0 : l.kilos = 0
  · have HE : Hid (r = (ctr0, 6)) := by unfold Hid findF at *; rw [hr, if_pos hok, if_pos hk0]
    clear hr hok hnum
    obtain ⟨k, x, y, z⟩ := l
    dsimp only at hk0
    subst hk0
    go_enter Tryz.func20, Tryz.ntmps20
    go_wp2_with (first
     | ((with_reducible refine g_ld 3 ?_); refine wpList_ld rfl _ _ rfl _ rfl _ (HM1.out.ldc ct3 (i := 1) rfl rfl _ (Below.refl _ _)) ?_)
     | (go_at_call 22; go_loud (refine (HR.out _).mono ?_); rintro e w1 ⟨rfl, hb⟩; have HM1 := Lib.hid (HM0.out.call hb); clear hb)
     | ((with_reducible refine g_st 73 ?_); go_loud (refine wpList_stB (cs' := ctr0.cells) rfl _ _ rfl HM1.out 0 rfl rfl rfl Ctr.size rfl (Ctr.len _) (Ctr.len _) (Ctr.one _) ?_); intro w6 h6))
    refine bodyPost_ret (results_box2 rfl _ rfl (h6.ldb Ctr.row (Ctr.len _) (i := 0) rfl _ (Below.refl _ _))) rfl ⟨?_, h6.from_⟩
    rw [HE.out]
    rfl
  · have HE : Hid (r = (⟨(ratioL l.x l.kilos).1, (ratioL l.y l.kilos).1, (ratioL l.z (2 * l.kilos)).1⟩, 0)) := by unfold Hid findF at *; rw [hr, if_pos hok, if_neg hk0]
    obtain ⟨k, x, y, z⟩ := l
    dsimp only at hnum hk0 HE
    have e1 : IntKind.i64.wrap (2 * k) = 2 * k := wrap_i64 (by omega) (by omega)
    have hke : (k == 0) = false := by simp; omega
    have HX := Lib.hid (fun w1 => frac_Ratio x k (by omega) (by omega) (by omega) (by omega) w1)
    have HY := Lib.hid (fun w1 => frac_Ratio y k (by omega) (by omega) (by omega) (by omega) w1)
    have HZ := Lib.hid (fun w1 => frac_Ratio z (2 * k) (by omega) (by omega) (by omega) (by omega) w1)
    generalize ratioL x k = rx at HX HE
    generalize ratioL y k = ry at HY HE
    generalize ratioL z (2 * k) = rz at HZ HE
    clear hr hok hnum
    go_enter Tryz.func20, Tryz.ntmps20
    go_wp2_with (first
     | ((with_reducible refine g_ld 3 ?_); refine wpList_ld rfl _ _ rfl _ rfl _ (HM1.out.ldc ct3 (i := 1) rfl rfl _ (Below.refl _ _)) ?_)
     | ((with_reducible refine g_ld 3 ?_); refine wpList_ld rfl _ _ rfl _ rfl _ (HM3.out.ldc ct3 (i := 2) rfl rfl _ (Below.refl _ _)) ?_)
     | ((with_reducible refine g_ld 3 ?_); refine wpList_ld rfl _ _ rfl _ rfl _ (HM5.out.ldc ct3 (i := 3) rfl rfl _ (Below.refl _ _)) ?_)
     | (go_at_call 22; go_loud (refine (HR.out _).mono ?_); rintro e w1 ⟨rfl, hb⟩; have HM1 := Lib.hid (HM0.out.call hb); clear hb)
     | (go_at_call 52; refine (HX.out _).mono ?_; rintro e w2 ⟨rfl, hb⟩; have HM2 := Lib.hid ((HM1.out.call hb).alloc 71 zeroF.cells); clear hb HX)
     | ((with_reducible refine g_st 71 ?_); refine wpList_stB (cs' := FracV.cells rx.1) rfl _ _ rfl HM2.out 0 rfl rfl rfl frac_size rfl (FracV.cells_len _) (FracV.cells_len _) (FracV.ones _) ?_; intro w3 h3; have HM3 := Lib.hid h3; clear h3 HM1 HM2)
     | (go_at_call 52; refine (HY.out _).mono ?_; rintro e w4 ⟨rfl, hb⟩; have HM4 := Lib.hid ((HM3.out.call hb).alloc 71 zeroF.cells); clear hb HY)
     | ((with_reducible refine g_st 71 ?_); refine wpList_stB (cs' := FracV.cells ry.1) rfl _ _ rfl HM4.out 0 rfl rfl rfl frac_size rfl (FracV.cells_len _) (FracV.cells_len _) (FracV.ones _) ?_; intro w5 h5; have HM5 := Lib.hid h5; clear h5 HM4 HM3)
     | (go_at_call 52; go_loud (refine (HZ.out _).mono ?_); rintro e w6 ⟨rfl, hb⟩; have HM6 := Lib.hid ((HM5.out.call hb).alloc 71 zeroF.cells); clear hb HZ)
     | ((with_reducible refine g_st 71 ?_); refine wpList_stB (cs' := FracV.cells rz.1) rfl _ _ rfl HM6.out 0 rfl rfl rfl frac_size rfl (FracV.cells_len _) (FracV.cells_len _) (FracV.ones _) ?_; intro w7 h7; have HM7 := Lib.hid h7; clear h7 HM6 HM5)
     | ((with_reducible refine g_ld 71 ?_); refine wpList_ld rfl _ _ rfl _ rfl _ (HM7.out.ldb frac_row (FracV.cells_len _) (i := 2) rfl _ (Below.refl _ _)) ?_)
     | ((with_reducible refine g_ld 71 ?_); refine wpList_ld rfl _ _ rfl _ rfl _ (HM7.out.ldb frac_row (FracV.cells_len _) (i := 1) rfl _ (Below.refl _ _)) ?_)
     | ((with_reducible refine g_ld 71 ?_); go_loud (refine wpList_ld rfl _ _ rfl _ rfl _ (HM7.out.ldb frac_row (FracV.cells_len _) (i := 0) rfl _ (Below.refl _ _)) ?_))
     | ((with_reducible refine g_bld 73 ?_); go_loud (refine wpList_val rfl _ (build_ctr rx.1 ry.1 rz.1 _ rfl rfl rfl) ?_))
     | ((with_reducible refine g_st 73 ?_); go_loud (refine wpList_stB (cs' := Ctr.cells ⟨rx.1, ry.1, rz.1⟩) rfl _ _ rfl HM7.out 3 rfl rfl rfl Ctr.size rfl (Ctr.len _) (Ctr.len _) (Ctr.one _) ?_); intro w8 h8))
    refine bodyPost_ret (results_box2 rfl _ rfl (h8.ldb Ctr.row (Ctr.len _) (i := 3) rfl _ (Below.refl _ _))) rfl ⟨?_, h8.from_⟩
    rw [HE.out]
    rfl
section
variable {w w' : World} {ρ : Nat → Option Rl} {base : Nat} {ro : Nat → Prop} {v : Value}
theorem avr_box (b : Unit → Box) : AVR w ρ base ro (.agg (boxL b)) (b ()).val := avr_aggF (l := boxL b) rfl
theorem avr_ld (b : Unit → Ld) : AVR w ρ base ro (.agg (ldL b)) (b ()).val := avr_aggF (l := ldL b) rfl
theorem AVR.boxes {fr : Bool} {l : Unit → List Box} (h : AVR w ρ base ro (.sl fr .box l) v) : ∃ A c, v = .slice A (l ()).length c ∧ (l ()).length ≤ c ∧ Rd w w.heap.size 9 A ((l ()).map Box.cells) := AVR.slF (t := .box) (l := l) Box.cells (fun _ => rfl) (fun _ => rfl) h
theorem AVR.stos {fr : Bool} {l : Unit → List Stowed} (h : AVR w ρ base ro (.sl fr .stowed l) v) : ∃ A c, v = .slice A (l ()).length c ∧ (l ()).length ≤ c ∧ Rd w w.heap.size 4 A ((l ()).map Stowed.cells) := AVR.slF (t := .stowed) (l := l) Stowed.cells (fun _ => rfl) (fun _ => rfl) h
theorem AVR.slos {fr : Bool} {l : Unit → List Slot} (h : AVR w ρ base ro (.sl fr .slot l) v) : ∃ A c, v = .slice A (l ()).length c ∧ (l ()).length ≤ c ∧ Rd w w.heap.size 3 A ((l ()).map Slot.cells) := AVR.slF (t := .slot) (l := l) Slot.cells (fun _ => rfl) (fun _ => rfl) h
theorem AVR.lds {fr : Bool} {l : Unit → List Ld} (h : AVR w ρ base ro (.sl fr .ld l) v) : ∃ A c, v = .slice A (l ()).length c ∧ (l ()).length ≤ c ∧ Rd w w.heap.size 4 A ((l ()).map Ld.cells) := AVR.slF (t := .ld) (l := l) Ld.cells (fun _ => rfl) (fun _ => rfl) h
theorem AVR.u8s {fr : Bool} {l : Unit → List Int} (h : AVR w ρ base ro (.sl fr .u8 l) v) : ∃ A c, v = .slice A (l ()).length c ∧ (l ()).length ≤ c ∧ Rd w w.heap.size 1 A ((l ()).map u8Row) := AVR.slF (t := .u8) (l := l) u8Row (fun _ => rfl) (fun _ => rfl) h
end
def conBoxRight : Con := ⟨129, [.agg boxSg], fun
 | [x0] => (x0.toBox).bind fun b => some ⟨fun _ => (b ()).num.size ≤ 140737488351232, .bool fun _ => boxB (b ())⟩
 | _ => none⟩
theorem conBoxRight_ok : ConOk Tryz.prog conBoxRight := by
 refine oldOk Tryz.func129 (by kernel_rfl) fun avs res h w ra vals hE hp => ?_
 simp only [conBoxRight] at h
 split at h
 case h_2 => cases h
 rename_i x0
 simp only [Option.bind_eq_some_iff, Option.some.injEq] at h
 obtain ⟨b, e0, rfl⟩ := h
 obtain rfl := AV.toBox_ e0
 clear e0
 obtain ⟨b, rfl⟩ := eta (α := Box) b
 obtain ⟨v0, us0, rfl, hv0, h0⟩ := hE.head
 obtain rfl := h0.none
 obtain rfl := hv0.aggF rfl
 exact (box_right b w hp).mono fun e w' ⟨k1, k2⟩ => ⟨_, k1, k2, .bool _⟩
def conBoxHeight : Con := ⟨89, [.agg boxSg], fun
 | [x0] => (x0.toBox).bind fun b => some ⟨fun _ => True, .int .i64 fun _ => tallB (b ())⟩
 | _ => none⟩
theorem conBoxHeight_ok : ConOk Tryz.prog conBoxHeight := by
 refine oldOk Tryz.func89 (by kernel_rfl) fun avs res h w ra vals hE hp => ?_
 simp only [conBoxHeight] at h
 split at h
 case h_2 => cases h
 rename_i x0
 simp only [Option.bind_eq_some_iff, Option.some.injEq] at h
 obtain ⟨b, e0, rfl⟩ := h
 obtain rfl := AV.toBox_ e0
 clear e0
 obtain ⟨b, rfl⟩ := eta (α := Box) b
 obtain ⟨v0, us0, rfl, hv0, h0⟩ := hE.head
 obtain rfl := h0.none
 obtain rfl := hv0.aggF rfl
 exact (box_Height b w).mono fun e w' ⟨k1, k2⟩ => ⟨_, k1, k2, .int _ _⟩
def conBoxFind : Con := ⟨88, [.sl .box, .int .i64], fun
 | [x0, x1] => (x0.toBoxes).bind fun l => (x1.toI).bind fun id => some ⟨fun _ => (l ()).length ≤ 1000000000000, .tup [.agg (boxL fun _ => (findV (l ()) (id ())).1), .bool fun _ => (findV (l ()) (id ())).2]⟩
 | _ => none⟩
theorem conBoxFind_ok : ConOk Tryz.prog conBoxFind := by
 refine oldOk Tryz.func88 (by kernel_rfl) fun avs res h w ra vals hE hp => ?_
 simp only [conBoxFind] at h
 split at h
 case h_2 => cases h
 rename_i x0 x1
 simp only [Option.bind_eq_some_iff, Option.some.injEq] at h
 obtain ⟨l, e0, id, e1, rfl⟩ := h
 obtain rfl := AV.toBoxes_ e0
 obtain rfl := AV.toI_ e1
 clear e0 e1
 obtain ⟨l, rfl⟩ := eta (α := List Box) l
 obtain ⟨id, rfl⟩ := eta (α := Int) id
 obtain ⟨v0, us0, rfl, hv0, h0⟩ := hE.head
 obtain ⟨v1, us1, rfl, hv1, h1⟩ := h0.head
 obtain rfl := h1.none
 obtain ⟨A0, q0, rfl, hc0, hr0⟩ := hv0.boxes
 obtain rfl := hv1.int_
 exact (box_Find A0 q0 _ l rfl id w hr0 hp).mono fun e w' ⟨k1, k2⟩ => ⟨_, k1, k2, avr_tup2 (avr_box _) (.bool _)⟩
def conStowFind : Con := ⟨17, [.sl .box, .int .i64], fun
 | [x0, x1] => (x0.toBoxes).bind fun l => (x1.toI).bind fun id => some ⟨fun _ => (l ()).length ≤ 1000000000000, .tup [.agg (boxL fun _ => (findV (l ()) (id ())).1), .bool fun _ => (findV (l ()) (id ())).2]⟩
 | _ => none⟩
theorem conStowFind_ok : ConOk Tryz.prog conStowFind := by
 refine oldOk Tryz.func17 (by kernel_rfl) fun avs res h w ra vals hE hp => ?_
 simp only [conStowFind] at h
 split at h
 case h_2 => cases h
 rename_i x0 x1
 simp only [Option.bind_eq_some_iff, Option.some.injEq] at h
 obtain ⟨l, e0, id, e1, rfl⟩ := h
 obtain rfl := AV.toBoxes_ e0
 obtain rfl := AV.toI_ e1
 clear e0 e1
 obtain ⟨l, rfl⟩ := eta (α := List Box) l
 obtain ⟨id, rfl⟩ := eta (α := Int) id
 obtain ⟨v0, us0, rfl, hv0, h0⟩ := hE.head
 obtain ⟨v1, us1, rfl, hv1, h1⟩ := h0.head
 obtain rfl := h1.none
 obtain ⟨A0, q0, rfl, hc0, hr0⟩ := hv0.boxes
 obtain rfl := hv1.int_
 exact (stow_Find A0 q0 _ l rfl id w hr0 hp).mono fun e w' ⟨k1, k2⟩ => ⟨_, k1, k2, avr_tup2 (avr_box _) (.bool _)⟩
def conStowHeight : Con := ⟨158, [.sl .box, .sl .stowed, .int .i64, .int .u8], fun
 | [x0, x1, x2, x3] => (x0.toBoxes).bind fun bs => (x1.toStos).bind fun l => (x2.toI).bind fun col => (x3.toU8).bind fun half => some ⟨fun _ => (bs ()).length ≤ 1000000000000 ∧ (l ()).length ≤ 1000000, .int .i64 fun _ => heightF (bs ()) (l ()) (col ()) (half ())⟩
 | _ => none⟩
theorem conStowHeight_ok : ConOk Tryz.prog conStowHeight := by
 refine oldOk Tryz.func158 (by kernel_rfl) fun avs res h w ra vals hE hp => ?_
 simp only [conStowHeight] at h
 split at h
 case h_2 => cases h
 rename_i x0 x1 x2 x3
 simp only [Option.bind_eq_some_iff, Option.some.injEq] at h
 obtain ⟨bs, e0, l, e1, col, e2, half, e3, rfl⟩ := h
 obtain rfl := AV.toBoxes_ e0
 obtain rfl := AV.toStos_ e1
 obtain rfl := AV.toI_ e2
 obtain rfl := AV.toU8_ e3
 clear e0 e1 e2 e3
 obtain ⟨bs, rfl⟩ := eta (α := List Box) bs
 obtain ⟨l, rfl⟩ := eta (α := List Stowed) l
 obtain ⟨col, rfl⟩ := eta (α := Int) col
 obtain ⟨half, rfl⟩ := eta (α := Int) half
 obtain ⟨v0, us0, rfl, hv0, h0⟩ := hE.head
 obtain ⟨v1, us1, rfl, hv1, h1⟩ := h0.head
 obtain ⟨v2, us2, rfl, hv2, h2⟩ := h1.head
 obtain ⟨v3, us3, rfl, hv3, h3⟩ := h2.head
 obtain rfl := h3.none
 obtain ⟨A0, q0, rfl, hc0, hr0⟩ := hv0.boxes
 obtain ⟨A1, q1, rfl, hc1, hr1⟩ := hv1.stos
 obtain rfl := hv2.int_
 obtain rfl := hv3.int_
 exact (stow_Height A0 A1 q0 q1 _ _ bs l rfl rfl col half w hr0 hr1 hp.1 hp.2).mono fun e w' ⟨k1, k2⟩ => ⟨_, k1, k2, .int _ _⟩
def conHasU8 : Con := ⟨154, [.sl .u8, .int .u8], fun
 | [x0, x1] => (x0.toU8s).bind fun l => (x1.toU8).bind fun x => some ⟨fun _ => (l ()).length ≤ 1000000000000, .bool fun _ => (l ()).any fun y => decide (x () = y)⟩
 | _ => none⟩
theorem conHasU8_ok : ConOk Tryz.prog conHasU8 := by
 refine oldOk Tryz.func154 (by kernel_rfl) fun avs res h w ra vals hE hp => ?_
 simp only [conHasU8] at h
 split at h
 case h_2 => cases h
 rename_i x0 x1
 simp only [Option.bind_eq_some_iff, Option.some.injEq] at h
 obtain ⟨l, e0, x, e1, rfl⟩ := h
 obtain rfl := AV.toU8s_ e0
 obtain rfl := AV.toU8_ e1
 clear e0 e1
 obtain ⟨l, rfl⟩ := eta (α := List Int) l
 obtain ⟨x, rfl⟩ := eta (α := Int) x
 obtain ⟨v0, us0, rfl, hv0, h0⟩ := hE.head
 obtain ⟨v1, us1, rfl, hv1, h1⟩ := h0.head
 obtain rfl := h1.none
 obtain ⟨A0, q0, rfl, hc0, hr0⟩ := hv0.u8s
 obtain rfl := hv1.int_
 exact (containsU8 A0 q0 l _ rfl x w hr0 hp).mono fun e w' ⟨k1, k2⟩ => ⟨_, k1, by rw [k2]; exact Below.refl _ _, .bool _⟩
def conMeet : Con := ⟨127, [.agg sloSg, .agg sloSg], fun
 | [x0, x1] => (x0.toSlo).bind fun x => (x1.toSlo).bind fun y => some ⟨fun _ => True, .bool fun _ => meetB (x ()) (y ())⟩
 | _ => none⟩
theorem conMeet_ok : ConOk Tryz.prog conMeet := by
 refine oldOk Tryz.func127 (by kernel_rfl) fun avs res h w ra vals hE hp => ?_
 simp only [conMeet] at h
 split at h
 case h_2 => cases h
 rename_i x0 x1
 simp only [Option.bind_eq_some_iff, Option.some.injEq] at h
 obtain ⟨x, e0, y, e1, rfl⟩ := h
 obtain rfl := AV.toSlo_ e0
 obtain rfl := AV.toSlo_ e1
 clear e0 e1
 obtain ⟨x, rfl⟩ := eta (α := Slot) x
 obtain ⟨y, rfl⟩ := eta (α := Slot) y
 obtain ⟨v0, us0, rfl, hv0, h0⟩ := hE.head
 obtain ⟨v1, us1, rfl, hv1, h1⟩ := h0.head
 obtain rfl := h1.none
 obtain rfl := hv0.aggF rfl
 obtain rfl := hv1.aggF rfl
 exact (slot_Meet x y w).mono fun e w' ⟨k1, k2⟩ => ⟨_, k1, k2, .bool _⟩
def conHeld : Con := ⟨126, [.agg sloSg, .sl .slot], fun
 | [x0, x1] => (x0.toSlo).bind fun x => (x1.toSlos).bind fun l => some ⟨fun _ => (l ()).length ≤ 1000000000000 ∧ (x ()).tier ≤ 1000000, .bool fun _ => heldB (x ()) (l ())⟩
 | _ => none⟩
theorem conHeld_ok : ConOk Tryz.prog conHeld := by
 refine oldOk Tryz.func126 (by kernel_rfl) fun avs res h w ra vals hE hp => ?_
 simp only [conHeld] at h
 split at h
 case h_2 => cases h
 rename_i x0 x1
 simp only [Option.bind_eq_some_iff, Option.some.injEq] at h
 obtain ⟨x, e0, l, e1, rfl⟩ := h
 obtain rfl := AV.toSlo_ e0
 obtain rfl := AV.toSlos_ e1
 clear e0 e1
 obtain ⟨x, rfl⟩ := eta (α := Slot) x
 obtain ⟨l, rfl⟩ := eta (α := List Slot) l
 obtain ⟨v0, us0, rfl, hv0, h0⟩ := hE.head
 obtain ⟨v1, us1, rfl, hv1, h1⟩ := h0.head
 obtain rfl := h1.none
 obtain rfl := hv0.aggF rfl
 obtain ⟨A1, q1, rfl, hc1, hr1⟩ := hv1.slos
 exact (slot_Held x A1 _ _ l rfl w hr1 hp.1 hp.2).mono fun e w' ⟨k1, k2⟩ => ⟨_, k1, k2, .bool _⟩
def conMPoint : Con := ⟨21, [.int .i64, .int .i64, .int .i64, .int .i64], fun
 | [x0, x1, x2, x3] => (x0.toI).bind fun a => (x1.toI).bind fun b => (x2.toI).bind fun c => (x3.toI).bind fun d => some ⟨fun _ => True, .tup [.agg (ldL fun _ => (pointF (a ()) (b ()) (c ()) (d ())).1), .int .i64 fun _ => (pointF (a ()) (b ()) (c ()) (d ())).2]⟩
 | _ => none⟩
theorem conMPoint_ok : ConOk Tryz.prog conMPoint := by
 refine oldOk Tryz.func21 (by kernel_rfl) fun avs res h w ra vals hE hp => ?_
 simp only [conMPoint] at h
 split at h
 case h_2 => cases h
 rename_i x0 x1 x2 x3
 simp only [Option.bind_eq_some_iff, Option.some.injEq] at h
 obtain ⟨a, e0, b, e1, c, e2, d, e3, rfl⟩ := h
 obtain rfl := AV.toI_ e0
 obtain rfl := AV.toI_ e1
 obtain rfl := AV.toI_ e2
 obtain rfl := AV.toI_ e3
 clear e0 e1 e2 e3
 obtain ⟨a, rfl⟩ := eta (α := Int) a
 obtain ⟨b, rfl⟩ := eta (α := Int) b
 obtain ⟨c, rfl⟩ := eta (α := Int) c
 obtain ⟨d, rfl⟩ := eta (α := Int) d
 obtain ⟨v0, us0, rfl, hv0, h0⟩ := hE.head
 obtain ⟨v1, us1, rfl, hv1, h1⟩ := h0.head
 obtain ⟨v2, us2, rfl, hv2, h2⟩ := h1.head
 obtain ⟨v3, us3, rfl, hv3, h3⟩ := h2.head
 obtain rfl := h3.none
 obtain rfl := hv0.int_
 obtain rfl := hv1.int_
 obtain rfl := hv2.int_
 obtain rfl := hv3.int_
 exact (m_Point a b c d w).mono fun e w' ⟨k1, k2⟩ => ⟨_, k1, k2, avr_tup2 (avr_ld _) (.int _ _)⟩
def conMAdd : Con := ⟨19, [.sl .ld], fun
 | [x0] => (x0.toLds).bind fun l => some ⟨fun _ => (l ()).length ≤ 1000000, .tup [.agg (ldL fun _ => (addF (l ())).1), .int .i64 fun _ => (addF (l ())).2]⟩
 | _ => none⟩
theorem conMAdd_ok : ConOk Tryz.prog conMAdd := by
 refine oldOk Tryz.func19 (by kernel_rfl) fun avs res h w ra vals hE hp => ?_
 simp only [conMAdd] at h
 split at h
 case h_2 => cases h
 rename_i x0
 simp only [Option.bind_eq_some_iff, Option.some.injEq] at h
 obtain ⟨l, e0, rfl⟩ := h
 obtain rfl := AV.toLds_ e0
 clear e0
 obtain ⟨l, rfl⟩ := eta (α := List Ld) l
 obtain ⟨v0, us0, rfl, hv0, h0⟩ := hE.head
 obtain rfl := h0.none
 obtain ⟨A0, q0, rfl, hc0, hr0⟩ := hv0.lds
 exact (m_Add A0 q0 _ l rfl w hr0 hp).mono fun e w' ⟨k1, k2⟩ => ⟨_, k1, k2, avr_tup2 (avr_ld _) (.int _ _)⟩
theorem take_getD {α : Type} {l : List α} {k : Nat} (d : α) (h : k < l.length) : l.take (k + 1) = l.take k ++ [l.getD k d] := by
 rw [List.take_succ_eq_append_getElem h, List.getD_eq_getElem?_getD, List.getElem?_eq_getElem h, Option.getD_some]
theorem getD_mem {α : Type} {l : List α} {k : Nat} (d : α) (h : k < l.length) : l.getD k d ∈ l := by
 rw [List.getD_eq_getElem?_getD, List.getElem?_eq_getElem h, Option.getD_some]
 exact List.getElem_mem h
theorem all_bad {α : Type} {p : α → Bool} {l : List α} {k : Nat} {d : α} (hk : k < l.length) (h : p (l.getD k d) = false) : l.all p = false := by
 rw [List.all_eq_false]
 exact ⟨_, getD_mem d hk, by rw [h]; simp⟩
theorem all_more {α : Type} {p : α → Bool} {l : List α} {k : Nat} {d : α} (h0 : (l.take k).all p = true) (hk : k < l.length) (h : p (l.getD k d) = true) : (l.take (k + 1)).all p = true := by
 rw [take_getD d hk, List.all_append, h0]
 simp [h, -List.getD_eq_getElem?_getD]
theorem all_end {α : Type} {p : α → Bool} {l : List α} {k : Nat} (h0 : (l.take k).all p = true) (hk : l.length ≤ k) : l.all p = true := by rwa [List.take_of_length_le hk] at h0
def conHalves : Con := ⟨152, [.int .u8], fun
 | [x0] => (x0.toU8).bind fun s => some ⟨fun _ => True, .sl true .u8 fun _ => halvesF (s ())⟩
 | _ => none⟩
set_option maxRecDepth 100000 in
set_option maxHeartbeats 4000000 in
theorem conHalves_ok : ConOk Tryz.prog conHalves := by
 refine fnOk [] trivial Tryz.func152 (by kernel_rfl) fun avs res h hp => ?_
 simp only [conHalves] at h
 split at h
 case h_2 => cases h
 rename_i x0
 simp only [Option.bind_eq_some_iff, Option.some.injEq] at h
 obtain ⟨s, e0, rfl⟩ := h
 obtain rfl := AV.toU8_ e0
 clear e0
 obtain ⟨s, rfl⟩ := eta (α := Int) s
 refine ⟨[], ?_⟩
 conv => arg 1; cbv
 simp (maxSteps := 4000000) only [P_vc, P_br, P_and, P_fin, V_nil, V_one, V_cons, T_self, castK, succK, Int.toNat_natCast, predK, decide_eq_true_eq, decide_eq_false_iff_not, List.map_cons, List.map_nil, cond_true, cond_false]
 unfold halvesF
 grind
def conTaken : Con := ⟨124, [.sl .stowed], fun
 | [x0] => (x0.toStos).bind fun l => some ⟨fun _ => (l ()).length ≤ 1000000, .sl true .slot fun _ => (l ()).map slotOf⟩
 | _ => none⟩
def lpTaken (l : List Stowed) : Lp where
 X := Nat
 ov k := [(8, .int .i64 fun _ => (k : Int)), (3, .own 0)]
 oe k := [(0, .row true .slot 40 fun _ => (l.take k).map slotOf)]
 I k := k ≤ l.length
 μ k _ := l.length - k
 x0 := 0
 nx := some fun k => k + 1
set_option maxRecDepth 100000 in
set_option maxHeartbeats 4000000 in
theorem conTaken_ok : ConOk Tryz.prog conTaken := by
 refine fnOk [] trivial Tryz.func124 (by kernel_rfl) fun avs res h hp => ?_
 simp only [conTaken] at h
 split at h
 case h_2 => cases h
 rename_i x0
 simp only [Option.bind_eq_some_iff, Option.some.injEq] at h
 obtain ⟨l, e0, rfl⟩ := h
 obtain rfl := AV.toStos_ e0
 clear e0
 obtain ⟨l, rfl⟩ := eta (α := List Stowed) l
 have hl : l.length ≤ 1000000 := hp
 refine ⟨[(3, lpTaken l)], ?_⟩
 conv => arg 1; cbv
 refine ⟨?_, fun (k : Nat) hk => ?_⟩
 · simp (maxSteps := 4000000) only [P_vc, P_br, P_and, P_fin, V_nil, V_one, V_cons, T_self, castK, succK, Int.toNat_natCast, predK, decide_eq_true_eq, decide_eq_false_iff_not, List.map_cons, List.map_nil, cond_true, cond_false]
   exact ⟨Nat.zero_le _, rfl, rfl⟩
 · conv => arg 1; cbv
   have hk' : k ≤ l.length := hk
   simp (maxSteps := 4000000) only [P_vc, P_br, P_and, P_fin, V_nil, V_one, V_cons, T_self, castK, succK, Int.toNat_natCast, predK, decide_eq_true_eq, decide_eq_false_iff_not, List.map_cons, List.map_nil, cond_true, cond_false]
   refine ⟨fun h => ?_, fun h => by rw [List.take_of_length_le (by omega)]⟩
   have h2 : k < l.length := by omega
   refine ⟨by omega, by simp; omega, ⟨by omega, by omega⟩, ⟨by omega, by omega⟩, by omega, ?_⟩
   rw [take_getD Tc.stowed.dflt h2, List.map_append]
   rfl
def fitsB (cs : List Col) (bs : List Box) (l : List Stowed) (c : Int) : Bool := decide ((cs.getD c.toNat Tc.col.dflt).height ≤ 0) || (decide (heightF bs l c 1 ≤ (cs.getD c.toNat Tc.col.dflt).height) && decide (heightF bs l c 2 ≤ (cs.getD c.toNat Tc.col.dflt).height))
def conFits : Con := ⟨128, [.agg shipSg, .sl .box, .sl .stowed, .int .i64], fun
 | [x0, x1, x2, x3] => (x0.toShip).bind fun s => (x1.toBoxes).bind fun bs => (x2.toStos).bind fun l => (x3.toI).bind fun c => some ⟨fun _ => (bs ()).length ≤ 1000000000000 ∧ (l ()).length ≤ 1000000 ∧ 0 ≤ c () ∧ c () < ((s ()).cols.length : Int), .bool fun _ => fitsB (s ()).cols (bs ()) (l ()) (c ())⟩
 | _ => none⟩
set_option maxRecDepth 100000 in
set_option maxHeartbeats 4000000 in
theorem conFits_ok : ConOk Tryz.prog conFits := by
 refine fnOk [conStowHeight] ⟨conStowHeight_ok, trivial⟩ Tryz.func128 (by kernel_rfl) fun avs res h hp => ?_
 simp only [conFits] at h
 split at h
 case h_2 => cases h
 rename_i x0 x1 x2 x3
 simp only [Option.bind_eq_some_iff, Option.some.injEq] at h
 obtain ⟨s, e0, bs, e1, l, e2, c, e3, rfl⟩ := h
 obtain rfl := AV.toShip_ e0
 obtain rfl := AV.toBoxes_ e1
 obtain rfl := AV.toStos_ e2
 obtain rfl := AV.toI_ e3
 clear e0 e1 e2 e3
 obtain ⟨s, rfl⟩ := eta (α := Shp) s
 obtain ⟨bs, rfl⟩ := eta (α := List Box) bs
 obtain ⟨l, rfl⟩ := eta (α := List Stowed) l
 obtain ⟨c, rfl⟩ := eta (α := Int) c
 have hZh1 : bs.length ≤ 1000000000000 ∧ l.length ≤ 1000000 ∧ 0 ≤ c ∧ c < (s.cols.length : Int) := hp
 have h1 := hZh1.1
 have h2 := hZh1.2.1
 have h3 := hZh1.2.2.1
 have h4 := hZh1.2.2.2
 refine ⟨[], ?_⟩
 conv => arg 1; cbv
 simp (maxSteps := 4000000) only [P_vc, P_br, P_and, P_fin, V_nil, V_one, V_cons, T_self, castK, succK, Int.toNat_natCast, predK, decide_eq_true_eq, decide_eq_false_iff_not, List.map_cons, List.map_nil, cond_true, cond_false]
 unfold fitsB
 generalize s.cols.getD c.toNat Tc.col.dflt = x at *
 grind
def slotOk (cs : List Col) (x : Slot) (size : Int) : Bool := decide (0 ≤ x.col) && (decide (x.col < (cs.length : Int)) && (decide (0 ≤ x.tier) && (decide (x.tier < (cs.getD x.col.toNat Tc.col.dflt).tiers) && (halvesF size).any fun y => decide (x.half = y))))
theorem halvesF_len (s : Int) : (halvesF s).length ≤ 2 := by unfold halvesF; split <;> (try split) <;> simp
def conSlotRight : Con := ⟨125, [.agg shipSg, .agg sloSg, .int .u8], fun
 | [x0, x1, x2] => (x0.toShip).bind fun s => (x1.toSlo).bind fun x => (x2.toU8).bind fun z => some ⟨fun _ => True, .bool fun _ => slotOk (s ()).cols (x ()) (z ())⟩
 | _ => none⟩
set_option maxRecDepth 100000 in
set_option maxHeartbeats 4000000 in
theorem conSlotRight_ok : ConOk Tryz.prog conSlotRight := by
 refine fnOk [conHalves, conHasU8] ⟨conHalves_ok, conHasU8_ok, trivial⟩ Tryz.func125 (by kernel_rfl) fun avs res h hp => ?_
 simp only [conSlotRight] at h
 split at h
 case h_2 => cases h
 rename_i x0 x1 x2
 simp only [Option.bind_eq_some_iff, Option.some.injEq] at h
 obtain ⟨s, e0, x, e1, z, e2, rfl⟩ := h
 obtain rfl := AV.toShip_ e0
 obtain rfl := AV.toSlo_ e1
 obtain rfl := AV.toU8_ e2
 clear e0 e1 e2
 obtain ⟨s, rfl⟩ := eta (α := Shp) s
 obtain ⟨x, rfl⟩ := eta (α := Slot) x
 obtain ⟨z, rfl⟩ := eta (α := Int) z
 refine ⟨[], ?_⟩
 have hh := halvesF_len z
 conv => arg 1; cbv
 simp (maxSteps := 4000000) only [P_vc, P_br, P_and, P_fin, V_nil, V_one, V_cons, T_self, castK, succK, Int.toNat_natCast, predK, decide_eq_true_eq, decide_eq_false_iff_not, List.map_cons, List.map_nil, cond_true, cond_false]
 unfold slotOk
 generalize s.cols.getD x.col.toNat Tc.col.dflt = c at *
 generalize halvesF z = hs at *
 grind
def spnB (x : Spn) : Bool := decide (x.low ≤ x.n) && decide (x.n ≤ x.high)
def conSpans : Con := ⟨183, [.sl .spn], fun
 | [x0] => (x0.toSpns).bind fun l => some ⟨fun _ => (l ()).length ≤ 1000000000000, .bool fun _ => (l ()).all spnB⟩
 | _ => none⟩
def lpSpans (l : List Spn) : Lp where
 X := Nat
 ov k := [(7, .int .i64 fun _ => (k : Int))]
 oe _ := []
 I k := k ≤ l.length ∧ (l.take k).all spnB = true
 μ k _ := l.length - k
 x0 := 0
 nx := some fun k => k + 1
set_option maxRecDepth 100000 in
set_option maxHeartbeats 4000000 in
theorem conSpans_ok : ConOk Tryz.prog conSpans := by
 refine fnOk [] trivial Tryz.func183 (by kernel_rfl) fun avs res h hp => ?_
 simp only [conSpans] at h
 split at h
 case h_2 => cases h
 rename_i x0
 simp only [Option.bind_eq_some_iff, Option.some.injEq] at h
 obtain ⟨l, e0, rfl⟩ := h
 obtain rfl := AV.toSpns_ e0
 clear e0
 obtain ⟨l, rfl⟩ := eta (α := List Spn) l
 have hl : l.length ≤ 1000000000000 := hp
 refine ⟨[(2, lpSpans l)], ?_⟩
 conv => arg 1; cbv
 refine ⟨?_, fun (k : Nat) hk => ?_⟩
 · simp (maxSteps := 4000000) only [P_vc, P_br, P_and, P_fin, V_nil, V_one, V_cons, T_self, castK, succK, Int.toNat_natCast, predK, decide_eq_true_eq, decide_eq_false_iff_not, List.map_cons, List.map_nil, cond_true, cond_false]
   simp
 · conv => arg 1; cbv
   have hZhk1 : k ≤ l.length ∧ (l.take k).all spnB = true := hk
   have hk1 := hZhk1.1
   have hk2 := hZhk1.2
   simp (maxSteps := 4000000) only [P_vc, P_br, P_and, P_fin, V_nil, V_one, V_cons, T_self, castK, succK, Int.toNat_natCast, predK, decide_eq_true_eq, decide_eq_false_iff_not, List.map_cons, List.map_nil, cond_true, cond_false]
   refine ⟨fun h => ?_, fun h => (all_end hk2 (by omega)).symm⟩
   have h2 : k < l.length := by omega
   have ha := all_bad (p := spnB) (d := Tc.spn.dflt) h2
   have hb := all_more (d := Tc.spn.dflt) hk2 h2
   generalize l.getD k Tc.spn.dflt = x at *
   unfold spnB at *
   simp only [inI64]
   grind
def colSpans (c : Col) : List Spn := [⟨c.bay, 0, 39⟩, ⟨c.row, 0, 30⟩, ⟨c.tiers, 1, 10⟩, ⟨c.height, 0, 40000⟩, ⟨c.k20, 0, 500000000⟩, ⟨c.k40, 0, 500000000⟩, ⟨c.lash, 0, 1000000000000⟩, ⟨c.x, -500000, 500000⟩, ⟨c.y, -500000, 500000⟩, ⟨c.z, -500000, 500000⟩]
def riseB (t : Int) (l : List Int) (i : Nat) : Bool := (decide (0 ≤ l.getD i 0) && decide (l.getD i 0 ≤ t)) && (decide (i = 0) || decide (l.getD (i - 1) 0 < l.getD i 0))
def risesB (t : Int) (l : List Int) : Bool := decide (∀ i, i < l.length → riseB t l i = true)
def colB (c : Col) : Bool := risesB (c.tiers - 1) c.plugs && (colSpans c).all spnB
theorem rises_bad {t : Int} {l : List Int} {k : Nat} (hk : k < l.length) (h : riseB t l k = false) : risesB t l = false := by
 unfold risesB
 rw [decide_eq_false_iff_not]
 intro h2
 rw [h2 k hk] at h
 cases h
theorem rises_end {t : Int} {l : List Int} {k : Nat} (hk : l.length ≤ k) (h : ∀ j, j < k → riseB t l j = true) : risesB t l = true := by
 unfold risesB
 rw [decide_eq_true_eq]
 exact fun i hi => h i (by omega)
theorem upto_more {p : Nat → Prop} {k : Nat} (h : ∀ j, j < k → p j) (hk : p k) : ∀ j, j < k + 1 → p j := fun j hj => by
 rcases Nat.lt_or_ge j k with h1 | h1
 · exact h j h1
 · rw [show j = k by omega]; exact hk
def conColRight : Con := ⟨153, [.agg colSg], fun
 | [x0] => (x0.toCol).bind fun c => some ⟨fun _ => (c ()).plugs.length ≤ 1000000000000 ∧ inI64 ((c ()).tiers - 1), .bool fun _ => colB (c ())⟩
 | _ => none⟩
def lpPlugs (c : Col) : Lp where
 X := Nat
 ov k := [(9, .int .i64 fun _ => (k : Int))]
 oe _ := []
 I k := k ≤ c.plugs.length ∧ ∀ j, j < k → riseB (c.tiers - 1) c.plugs j = true
 μ k _ := c.plugs.length - k
 x0 := 0
 nx := some fun k => k + 1
set_option maxRecDepth 100000 in
set_option maxHeartbeats 4000000 in
theorem conColRight_ok : ConOk Tryz.prog conColRight := by
 refine fnOk [conSpans] ⟨conSpans_ok, trivial⟩ Tryz.func153 (by kernel_rfl) fun avs res h hp => ?_
 simp only [conColRight] at h
 split at h
 case h_2 => cases h
 rename_i x0
 simp only [Option.bind_eq_some_iff, Option.some.injEq] at h
 obtain ⟨c, e0, rfl⟩ := h
 obtain rfl := AV.toCol_ e0
 clear e0
 obtain ⟨c, rfl⟩ := eta (α := Col) c
 have hZh1 : c.plugs.length ≤ 1000000000000 ∧ inI64 (c.tiers - 1) := hp
 have h1 := hZh1.1
 have h2 := hZh1.2
 refine ⟨[(3, lpPlugs c)], ?_⟩
 conv => arg 1; cbv
 refine ⟨?_, fun (k : Nat) hk => ?_⟩
 · simp (maxSteps := 4000000) only [P_vc, P_br, P_and, P_fin, V_nil, V_one, V_cons, T_self, castK, succK, Int.toNat_natCast, predK, decide_eq_true_eq, decide_eq_false_iff_not, List.map_cons, List.map_nil, cond_true, cond_false]
   simp
 · conv => arg 1; cbv
   have hZhk1 : k ≤ c.plugs.length ∧ ∀ j, j < k → riseB (c.tiers - 1) c.plugs j = true := hk
   have hk1 := hZhk1.1
   have hk2 := hZhk1.2
   simp (maxSteps := 4000000) only [P_vc, P_br, P_and, P_fin, V_nil, V_one, V_cons, T_self, castK, succK, Int.toNat_natCast, predK, decide_eq_true_eq, decide_eq_false_iff_not, List.map_cons, List.map_nil, cond_true, cond_false]
   refine ⟨fun h => ?_, fun h => ?_⟩
   · have h3 : k < c.plugs.length := by omega
     have ha := rises_bad (t := c.tiers - 1) h3
     have hb := upto_more (k := k) hk2
     have hc : colB c = (risesB (c.tiers - 1) c.plugs && (colSpans c).all spnB) := rfl
     have he : riseB (c.tiers - 1) c.plugs k = ((decide (0 ≤ c.plugs.getD k Tc.int.dflt) && decide (c.plugs.getD k Tc.int.dflt ≤ c.tiers - 1)) && (decide (k = 0) || decide (c.plugs.getD (k - 1) Tc.int.dflt < c.plugs.getD k Tc.int.dflt))) := rfl
     generalize c.plugs.getD k Tc.int.dflt = x at *
     generalize c.plugs.getD (k - 1) Tc.int.dflt = y at *
     rw [hc]
     clear hc hk2
     generalize riseB (c.tiers - 1) c.plugs = R at *
     generalize (colSpans c).all spnB = z at *
     simp only [inI64, spnB, List.all_cons, List.all_nil, Bool.and_true, List.length_cons, List.length_nil] at *
     grind
   · have hc : colB c = (colSpans c).all spnB := by unfold colB; rw [rises_end (by omega) hk2, Bool.true_and]
     rw [hc]
     exact ⟨by simp, rfl⟩
end Go.Proofs.YtfdjcakgolenbaaGreat
