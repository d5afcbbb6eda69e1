/-
  change.changed at a change of one box.
-/
import Derived.Test.YtccjddbcdmgefaaChanged
namespace Go.Proofs.Ytccjddbcdmgefaa
open Go.RowKit


/-- the boxes without one, or with another one in its place -/
def editL (l : List Box) (t : Nat) (stays : Bool) (b' : Box) (k : Nat) : List Box := if stays then (l.set t b').take k else (l.take k).eraseIdx t

def oneR (l : List Box) (t : Nat) (ov stays : Bool) (err : Int) (b' : Box) : List Box × Int := if ov then ([], 370) else if err = 0 then (editL l t stays b' l.length, 0) else ([], err)

theorem editL_ne (l : List Box) (t : Nat) (stays : Bool) (b' : Box) (k : Nat) (hk : k < l.length) (h : k ≠ t) : editL l t stays b' (k + 1) = editL l t stays b' k ++ [l[k]] := by
  unfold editL
  cases stays with
  | true =>
    simp only [if_true]
    rw [List.take_succ_eq_append_getElem (by simpa using hk), List.getElem_set_ne (Ne.symm h)]
  | false => exact erase_ne l t k hk h
theorem editL_eq (l : List Box) (t : Nat) (stays : Bool) (b' : Box) (hk : t < l.length) : editL l t stays b' (t + 1) = editL l t stays b' t ++ (if stays then [b'] else []) := by
  unfold editL
  cases stays with
  | true =>
    simp only [if_true]
    rw [List.take_succ_eq_append_getElem (by simpa using hk), List.getElem_set_self]
  | false =>
    simp only [Bool.false_eq_true, if_false, List.append_nil]
    exact erase_eq l t hk
theorem editL_len (l : List Box) (t : Nat) (stays : Bool) (b' : Box) (k : Nat) : (editL l t stays b' k).length ≤ k := by
  unfold editL
  cases stays with
  | true => simp; omega
  | false => exact erase_len l t k

set_option maxRecDepth 100000 in
set_option maxHeartbeats 4000000 in
theorem changed_one (A : Option Addr) (c : Nat) (l : List Box) (n : Nat) (hn : n = l.length) (calls now : Int) (x : Chg) (w : World) (hA : Rd w w.heap.size 9 A (l.map Box.cells)) (hl : l.length ≤ 1000000) (hk1 : 2 ≤ x.kind) (hk4 : x.kind ≤ 4)
    (F1 F2 : FuncId) (hkv : kindV x.kind = .agg #[.bool false, .func (.func F1) #[] #[], .func (.func F2) #[] #[]])
    (hcf1 : ∀ w args, (callFunc F1 args).run Try.prog w = .ok (.enter F1 args) w) (hcf2 : ∀ w args, (callFunc F2 args).run Try.prog w = .ok (.enter F2 args) w)
    (t : Nat) (ht : t < l.length) (hix : idx (fun b : Box => b.id == x.box) l = t) (ov stays : Bool) (err : Int) (b' : Box)
    (hov : ∀ w, Calls Try.prog F1 #[l[t].val, .int .i64 now] w fun e w' => e = .returned (.bool ov) ∧ Below w.heap.size w w')
    (hdo : ∀ w gb, BoxAt w gb l[t] → Calls Try.prog F2 #[.pointer (some ⟨gb, 0, none⟩), x.val] w fun e w' => e = .returned (.tuple #[.bool stays, .int .i64 err]) ∧ BoxAt w' gb b' ∧ Below gb w w') :
    Calls Try.prog 37 #[.slice A n c, .int .i64 calls, .int .i64 now, .agg #[.int .u8 x.kind, .int .i64 x.call, .int .i64 x.box, .int .i64 x.kilos]] w fun e w' => ∃ A' c' l' err', e = .returned (.tuple #[.slice A' l'.length c', .int .i64 err']) ∧
      OwnS w' w.heap.size 73 9 A' c' (l'.map Box.cells) ∧ Below w.heap.size w w' ∧ Hid ((l', err') = oneR l t ov stays err b') := by
  have hk0 : 0 ≤ x.kind := by omega
  have hk : x.kind ≤ 255 := by omega
  subst hn
  obtain ⟨W, hW⟩ : ∃ W, W = w.alloc (Obj.cells #[.int .u8 x.kind, .int .i64 x.call, .int .i64 x.box, .int .i64 x.kilos] 37) := ⟨_, rfl⟩
  have hb : Below w.heap.size w W := by rw [hW]; exact (Below.refl _ _).alloc (Nat.le_refl _) _
  have hc : W.heap[w.heap.size]? = some (.cells #[.int .u8 x.kind, .int .i64 x.call, .int .i64 x.box, .int .i64 x.kilos] 37 (0, 0)) := by rw [hW]; exact heap_alloc_new w _
  have hcl : w.heap.size < W.heap.size := (Array.getElem?_eq_some_iff.1 hc).1
  have HC : Hid (∀ w' j, From W w' → w'.cell? ⟨w.heap.size, j, none⟩ = (#[.int .u8 x.kind, .int .i64 x.call, .int .i64 x.box, .int .i64 x.kilos] : Array Value)[j]?) := fun w' j hb => by rw [cell_of_row w' w.heap.size j _ _ _ ((hb.block _ hcl).trans hc)]
  have HB := Lib.hid hb
  have HLD : Hid (∀ w', From W w' → (loadVar 5 ⟨w.heap.size, 0, none⟩).run Try.prog w' = .ok (.int .u8 x.kind) w') := fun w' hb => run_load_cell Try.underlying5 rfl (HC.out w' 0 hb)
  have HIX : Hid (∀ w2, From W w2 → Calls Try.prog 56 #[.slice A l.length c, .func (.func 57) #[] #[.pointer (some ⟨w.heap.size, 0, none⟩)]] w2 fun e w' => e = .returned (.int .i64 (idx (fun b : Box => b.id == x.box) l)) ∧ Below w2.heap.size w2 w') := fun w2 h2 =>
    indexBox A c l _ rfl 57 #[.pointer (some ⟨w.heap.size, 0, none⟩)] _ w2 ((hA.below (hb.trans (h2.mono hb.size)) (Nat.le_refl _)).more (Nat.le_trans hb.size h2.size)) (by omega) changed_cf (fun y _ w3 h3 => changed_fn y _ _ w3 (HC.out w3 2 (h2.trans (h3.mono h2.size))))
  clear hb hc
  have HOK : Hid (decide (1 ≤ x.kind ∧ x.kind ≤ 4) = true) := by unfold Hid; simp; omega
  have HKV := Lib.hid hkv
  have HIXE := Lib.hid hix
  have HOV := Lib.hid hov
  have HDO := Lib.hid hdo
  clear hkv hix hov hdo
  go_enter Try.func37, Try.ntmps37
  go_wp2
  rw [← hW]
  clear hW
  refine region_kinds (F := 55) (h := w.heap.size) (k := .int .u8 x.kind) (V := kindV x.kind) (ok := decide (1 ≤ x.kind ∧ x.kind ≤ 4)) (z := .agg #[.bool false, .nilFunc, .nilFunc]) rfl (by kernel_rfl) (by kernel_rfl) (by kernel_rfl) ?_ ?_ ?_ HLD.out rfl (by simp) kindZero rfl (by kernel_rfl) (kind_bd _).1 (kind_bd _).2 ?_
  · intro a w
    go_simp
  · intro w1 h1
    exact (change_kinds w1).mono fun e w' ⟨b, h1, h2, h3⟩ => ⟨b, h1, fun w2 hb => h2 w2 hb _ hk0 hk, h3⟩
  · intro a w h
    unfold execOp
    simp only [h]
    go_simp
  rw [HOK.out]
  intro b g w1 hg hcell hb1
  unfold regFin
  simp only [Act.put, List.setIfInBounds_toArray, List.set_cons_succ, List.set_cons_zero]
  rw [HKV.out] at hcell
  have hgl : g < w1.heap.size := (Array.getElem?_eq_some_iff.1 hcell).1
  have KC : Hid (∀ w' j, From w1 w' → w'.cell? ⟨g, j, none⟩ = (#[.bool false, .func (.func F1) #[] #[], .func (.func F2) #[] #[]] : Array Value)[j]?) := fun w' j hb => by rw [cell_of_row w' g j _ _ _ ((hb.block _ hgl).trans hcell)]; rfl
  clear hcell hk0 hk
  have HIX2 := HIX
  rw [HIXE.out] at HIX2
  go_wp2_with (first
    | (go_at_call 56; refine (HIX2.out _ hb1).mono ?_; rintro e w2 ⟨rfl, hb2⟩; have k0 : w2.cell? ⟨g, 0, none⟩ = some (.bool false) := KC.out w2 0 hb2; have d1 : w2.cell? ⟨w.heap.size, 1, none⟩ = some (.int .i64 x.call) := HC.out w2 1 (hb1.trans (hb2.mono hb1.size)))
    )
  have hb2' : Below w.heap.size w w2 := HB.out.trans ((hb1.trans (hb2.mono hb1.size)).mono HB.out.size)
  obtain ⟨bb, off, rfl, _, hld⟩ := Box.ld hA (map_get Box.cells l t ht)
  have HL9 : Hid (∀ w', From w2 w' → (loadVar 73 ⟨bb, off + t * 9, none⟩).run Try.prog w' = .ok l[t].val w') := fun w' h => hld w' (hb2'.trans (h.mono hb2'.size))
  have HKL : Hid (∀ w', From w2 w' → (loadVar 4 ⟨g, 0, none⟩).run Try.prog w' = .ok (.bool false) w') := fun w' h => run_load_cell Try.underlying4 rfl (KC.out w' 0 (hb2.trans (h.mono hb2.size)))
  have HKF : Hid (∀ w', From w2 w' → (loadVar 90 ⟨g, 1, none⟩).run Try.prog w' = .ok (.func (.func F1) #[] #[]) w') := fun w' h => run_load_cell Try.underlying90 rfl (KC.out w' 1 (hb2.trans (h.mono hb2.size)))
  clear k0 d1 hld
  have hti : (t : Int) < (l.length : Int) := by omega
  refine wp_region_below (by kernel_rfl) (by kernel_rfl) w2.heap.size ?_
  repeat (first | go_big_quiet_skip | (go_big_quiet_want; refine quiet_ld 4 _ rfl _ rfl _ (fun w' hC => HKL.out w' hC) ?_; simp only [Act.put, List.setIfInBounds_toArray, List.set_cons_succ, List.set_cons_zero]; go_big_quiet_on) | (go_big_quiet_want; refine quiet_ld 90 _ rfl _ rfl _ (fun w' hC => HKF.out w' hC) ?_; simp only [Act.put, List.setIfInBounds_toArray, List.set_cons_succ, List.set_cons_zero]; go_big_quiet_on) | (go_big_quiet_want; refine quiet_ld 73 _ rfl _ rfl _ (fun w' hC => HL9.out w' hC) ?_; simp only [Act.put, List.setIfInBounds_toArray, List.set_cons_succ, List.set_cons_zero]; go_big_quiet_on) | go_big_quiet_step (first | (intro hC; rfl) | (intro hC; exact ⟨rfl, rfl⟩) | (intro hC; (with_reducible refine (HOV.out _).mono ?_); rintro e w' ⟨rfl, hb3⟩; exact ⟨rfl, hC.trans (hb3.mono hC.size)⟩)))
  refine wpQuiet_nil ?_
  intro w3 hC3
  have hb3 : From w1 w3 := hb2.trans (hC3.mono hb2.size)
  have HBW : Hid (From W w3) := hb1.trans (hb3.mono hb1.size)
  have HBw : Hid (Below w.heap.size w w3) := HB.out.trans (HBW.out.mono HB.out.size)
  cases ov with
  | true =>
    go_wp2
    go_ret2
    exact ⟨none, 0, [], 370, rfl, OwnS.nil _ _ _ _, HBw.out, (rfl : (([] : List Box), (370 : Int)) = oneR l t true stays err b')⟩
  | false =>
    have HB3 := Lib.hid hb3
    have HA3 : Hid (Rd w3 w3.heap.size 9 (some ⟨bb, off, none⟩) (l.map Box.cells)) := (hA.below HBw.out (Nat.le_refl _)).more HBw.out.size
    have hgl3 : g < w3.heap.size := Nat.lt_of_lt_of_le hgl hb3.size
    have hcl3 : w.heap.size < w3.heap.size := Nat.lt_of_lt_of_le hcl HBW.out.size
    clear HIX HIX2 hb1 hb2 hb2' hC3 hb3 hA HKL HKF HL9 HLD HOK HB HOV hcf1
    go_wp2
    go_loopw [13, 77] (fun v i wr => ∃ k : Nat, k ≤ l.length ∧ i = .int .i64 k ∧ (∃ D d, v = .slice D (editL l t stays b' k).length d ∧ OwnS wr w3.heap.size 73 9 D d ((editL l t stays b' k).map Box.cells)) ∧ (t < k → err = 0) ∧ From w3 wr) (fun _ i _ => l.length - (intOf i).toNat)
    case atStart => exact ⟨0, by omega, rfl, ⟨none, 0, by simp [editL], by simp [editL]; exact OwnS.nil _ _ _ _⟩, by omega, Below.refl _ _⟩
    case round =>
      obtain ⟨kk, hkk, rfl, ⟨D, d, rfl, hown⟩, herr, hbr⟩ := hrel
      have HER := Lib.hid herr
      clear herr
      have hlen := editL_len l t stays b' kk
      by_cases hlt : kk < l.length
      · obtain ⟨bb2, off2, e2, _, hld⟩ := Box.ld HA3.out (map_get Box.cells l kk hlt)
        injection e2 with e2
        injection e2 with e2 e3
        subst e2
        subst e3
        have HL := Lib.hid (hld wr hbr)
        have hbs := hbr.size
        have hgr : g < wr.heap.size := by omega
        have hcr : w.heap.size < wr.heap.size := by omega
        have k0 : wr.cell? ⟨g, 0, none⟩ = some (.bool false) := KC.out wr 0 (HB3.out.trans (hbr.mono HB3.out.size))
        have k2 : wr.cell? ⟨g, 2, none⟩ = some (.func (.func F2) #[] #[]) := KC.out wr 2 (HB3.out.trans (hbr.mono HB3.out.size))
        have d0 : wr.cell? ⟨w.heap.size, 0, none⟩ = some (.int .u8 x.kind) := HC.out wr 0 (HBW.out.trans (hbr.mono HBW.out.size))
        have d1 : wr.cell? ⟨w.heap.size, 1, none⟩ = some (.int .i64 x.call) := HC.out wr 1 (HBW.out.trans (hbr.mono HBW.out.size))
        have d2 : wr.cell? ⟨w.heap.size, 2, none⟩ = some (.int .i64 x.box) := HC.out wr 2 (HBW.out.trans (hbr.mono HBW.out.size))
        have d3 : wr.cell? ⟨w.heap.size, 3, none⟩ = some (.int .i64 x.kilos) := HC.out wr 3 (HBW.out.trans (hbr.mono HBW.out.size))
        have HFX : Hid (From wr (boxA l[kk] wr)) := (Below.refl _ _).alloc (Nat.le_refl _) _
        have HBX : Hid (BoxAt (boxA l[kk] wr) wr.heap.size l[kk]) := heap_alloc_new wr _
        clear hld
        by_cases hkt : kk = t
        · subst hkt
          have HST := Lib.hid (editL_eq l kk stays b' hlt)
          by_cases he : err = 0
          · subst he
            cases stays with
            | true =>
              go_wp2_with (first
                | ((with_reducible refine g_ld 73 ?_); refine wpList_ld rfl _ _ rfl _ rfl _ HL.out ?_)
                | ((with_reducible refine (HDO.out (boxA l[kk] wr) wr.heap.size HBX.out).mono ?_); rintro e w4 ⟨rfl, hbox4, hb4⟩; have hld4 := box_ldBlock (b := b') hbox4; have hown4 := hown.below (HFX.out.trans hb4) (Nat.le_refl _); have hs4 := Nat.le_trans HFX.out.size hb4.size)
                | ((with_reducible refine g_ld 73 ?_); refine wpList_ld rfl _ _ rfl _ rfl _ hld4 ?_)
                | (at_builtin; go_loud (refine wpList_append_n rfl _ _ rfl Box.ei (editL l kk true b' kk).length (by simp) rfl (hown4.alloc _) rfl _ (Rd.new2 _ 73 9 (Box.cells b') rfl) rfl (Box.ones [_]) (by unfold maxLen; simp; omega) (by simp; omega) (by simp; omega) ?_); intro A5 c5 w5 hown5 hg5 hb5))
              go_roundw
              case rel => exact ⟨kk + 1, by omega, by go_num, ⟨A5, c5, by rw [HST.out]; simp, by rw [HST.out]; simpa using hown5⟩, by simp, (hbr.trans ((HFX.out.trans (hb4.mono (Nat.le_refl _))).mono hbs)).trans (((Below.refl _ _).alloc (by omega) _).trans hb5)⟩
              case measure => simp [intOf]; omega
            | false =>
              have HST2 : Hid (editL l kk false b' (kk + 1) = editL l kk false b' kk) := by unfold Hid; rw [HST.out]; simp
              go_wp2_with (first
                | ((with_reducible refine g_ld 73 ?_); refine wpList_ld rfl _ _ rfl _ rfl _ HL.out ?_)
                | ((with_reducible refine (HDO.out (boxA l[kk] wr) wr.heap.size HBX.out).mono ?_); rintro e w4 ⟨rfl, hbox4, hb4⟩; have hld4 := box_ldBlock (b := b') hbox4; have hown4 := hown.below (HFX.out.trans hb4) (Nat.le_refl _); have hs4 := Nat.le_trans HFX.out.size hb4.size)
                )
              go_roundw
              case rel => exact ⟨kk + 1, by omega, by go_num, ⟨D, d, by rw [HST2.out], by rw [HST2.out]; exact hown4⟩, by simp, (hbr.trans ((HFX.out.trans (hb4.mono (Nat.le_refl _))).mono hbs))⟩
              case measure => simp [intOf]; omega
          · have he2 : (err != 0) = true := by simpa using he
            have HE : Hid ((([] : List Box), err) = oneR l kk false stays err b') := by unfold Hid oneR; rw [if_neg (by simp), if_neg he]
            go_wp2_with (first
              | ((with_reducible refine g_ld 73 ?_); refine wpList_ld rfl _ _ rfl _ rfl _ HL.out ?_)
              | ((with_reducible refine (HDO.out (boxA l[kk] wr) wr.heap.size HBX.out).mono ?_); rintro e w4 ⟨rfl, hbox4, hb4⟩; have hld4 := box_ldBlock (b := b') hbox4; have hown4 := hown.below (HFX.out.trans hb4) (Nat.le_refl _); have hs4 := Nat.le_trans HFX.out.size hb4.size)
              )
            go_ret2
            exact ⟨none, 0, [], err, rfl, OwnS.nil _ _ _ _, HBw.out.trans ((hbr.trans ((HFX.out.trans (hb4.mono (Nat.le_refl _))).mono hbs)).mono HBw.out.size), HE⟩
        · have hkt2 : ((kk : Int) == (t : Int)) = false := by simp; omega
          have HST := Lib.hid (editL_ne l t stays b' kk hlt hkt)
          have HNE : Hid (t < kk + 1 → t < kk) := fun h => by omega
          clear hkt
          go_wp2_with (first
            | ((with_reducible refine g_ld 73 ?_); refine wpList_ld rfl _ _ rfl _ rfl _ HL.out ?_)
            | (at_builtin; go_loud (refine wpList_append_n rfl _ _ rfl Box.ei (editL l t stays b' kk).length (by simp) rfl ((hown.alloc _).alloc _) rfl _ (Rd.newS _ _ 73 9 l[kk].cells rfl) rfl (Box.ones [_]) (by unfold maxLen; simp; omega) (by simp; omega) (by simp; omega) ?_); intro A5 c5 w5 hown5 hg5 hb5))
          go_roundw
          case rel => exact ⟨kk + 1, by omega, by go_num, ⟨A5, c5, by rw [HST.out]; simp, by rw [HST.out]; simpa using hown5⟩, fun h => HER.out (HNE.out h), ((hbr.alloc hbr.size _).alloc (by simp; omega) _).trans hb5⟩
          case measure => simp [intOf]; omega
      · obtain rfl : kk = l.length := by omega
        have he := HER.out ht
        have HE : Hid ((editL l t stays b' l.length, (0 : Int)) = oneR l t false stays err b') := by unfold Hid oneR; rw [if_neg (by simp), if_pos he]
        go_wp2
        go_ret2
        exact ⟨D, d, _, 0, rfl, hown.base_le HBw.out.size, HBw.out.trans (hbr.mono HBw.out.size), HE⟩

set_option maxRecDepth 100000 in
set_option maxHeartbeats 4000000 in
theorem changed_none (A : Option Addr) (c : Nat) (l : List Box) (n : Nat) (hn : n = l.length) (calls now : Int) (x : Chg) (w : World) (hA : Rd w w.heap.size 9 A (l.map Box.cells)) (hl : l.length ≤ 1000000) (hk1 : 2 ≤ x.kind) (hk4 : x.kind ≤ 4)
    (F1 F2 : FuncId) (hkv : kindV x.kind = .agg #[.bool false, .func (.func F1) #[] #[], .func (.func F2) #[] #[]]) (hix : idx (fun b : Box => b.id == x.box) l = -1) :
    Calls Try.prog 37 #[.slice A n c, .int .i64 calls, .int .i64 now, .agg #[.int .u8 x.kind, .int .i64 x.call, .int .i64 x.box, .int .i64 x.kilos]] w fun e w' => e = .returned (.tuple #[.slice none 0 0, .int .i64 6]) ∧ Below w.heap.size w w' := by
  have hk0 : 0 ≤ x.kind := by omega
  have hk : x.kind ≤ 255 := by omega
  subst hn
  obtain ⟨W, hW⟩ : ∃ W, W = w.alloc (Obj.cells #[.int .u8 x.kind, .int .i64 x.call, .int .i64 x.box, .int .i64 x.kilos] 37) := ⟨_, rfl⟩
  have hb : Below w.heap.size w W := by rw [hW]; exact (Below.refl _ _).alloc (Nat.le_refl _) _
  have hc : W.heap[w.heap.size]? = some (.cells #[.int .u8 x.kind, .int .i64 x.call, .int .i64 x.box, .int .i64 x.kilos] 37 (0, 0)) := by rw [hW]; exact heap_alloc_new w _
  have hcl : w.heap.size < W.heap.size := (Array.getElem?_eq_some_iff.1 hc).1
  have HC : Hid (∀ w' j, From W w' → w'.cell? ⟨w.heap.size, j, none⟩ = (#[.int .u8 x.kind, .int .i64 x.call, .int .i64 x.box, .int .i64 x.kilos] : Array Value)[j]?) := fun w' j hb => by rw [cell_of_row w' w.heap.size j _ _ _ ((hb.block _ hcl).trans hc)]
  have HB := Lib.hid hb
  have HLD : Hid (∀ w', From W w' → (loadVar 5 ⟨w.heap.size, 0, none⟩).run Try.prog w' = .ok (.int .u8 x.kind) w') := fun w' hb => run_load_cell Try.underlying5 rfl (HC.out w' 0 hb)
  have HIX : Hid (∀ w2, From W w2 → Calls Try.prog 56 #[.slice A l.length c, .func (.func 57) #[] #[.pointer (some ⟨w.heap.size, 0, none⟩)]] w2 fun e w' => e = .returned (.int .i64 (idx (fun b : Box => b.id == x.box) l)) ∧ Below w2.heap.size w2 w') := fun w2 h2 =>
    indexBox A c l _ rfl 57 #[.pointer (some ⟨w.heap.size, 0, none⟩)] _ w2 ((hA.below (hb.trans (h2.mono hb.size)) (Nat.le_refl _)).more (Nat.le_trans hb.size h2.size)) (by omega) changed_cf (fun y _ w3 h3 => changed_fn y _ _ w3 (HC.out w3 2 (h2.trans (h3.mono h2.size))))
  clear hb hc
  have HOK : Hid (decide (1 ≤ x.kind ∧ x.kind ≤ 4) = true) := by unfold Hid; simp; omega
  have HKV := Lib.hid hkv
  have HIXE := Lib.hid hix
  clear hkv hix
  go_enter Try.func37, Try.ntmps37
  go_wp2
  rw [← hW]
  clear hW
  refine region_kinds (F := 55) (h := w.heap.size) (k := .int .u8 x.kind) (V := kindV x.kind) (ok := decide (1 ≤ x.kind ∧ x.kind ≤ 4)) (z := .agg #[.bool false, .nilFunc, .nilFunc]) rfl (by kernel_rfl) (by kernel_rfl) (by kernel_rfl) ?_ ?_ ?_ HLD.out rfl (by simp) kindZero rfl (by kernel_rfl) (kind_bd _).1 (kind_bd _).2 ?_
  · intro a w
    go_simp
  · intro w1 h1
    exact (change_kinds w1).mono fun e w' ⟨b, h1, h2, h3⟩ => ⟨b, h1, fun w2 hb => h2 w2 hb _ hk0 hk, h3⟩
  · intro a w h
    unfold execOp
    simp only [h]
    go_simp
  rw [HOK.out]
  intro b g w1 hg hcell hb1
  unfold regFin
  simp only [Act.put, List.setIfInBounds_toArray, List.set_cons_succ, List.set_cons_zero]
  rw [HKV.out] at hcell
  have hgl : g < w1.heap.size := (Array.getElem?_eq_some_iff.1 hcell).1
  have KC : Hid (∀ w' j, From w1 w' → w'.cell? ⟨g, j, none⟩ = (#[.bool false, .func (.func F1) #[] #[], .func (.func F2) #[] #[]] : Array Value)[j]?) := fun w' j hb => by rw [cell_of_row w' g j _ _ _ ((hb.block _ hgl).trans hcell)]; rfl
  clear hcell hk0 hk
  have HIX2 := HIX
  rw [HIXE.out] at HIX2
  go_wp2_with (first
    | (go_at_call 56; refine (HIX2.out _ hb1).mono ?_; rintro e w2 ⟨rfl, hb2⟩; have k0 : w2.cell? ⟨g, 0, none⟩ = some (.bool false) := KC.out w2 0 hb2; have d1 : w2.cell? ⟨w.heap.size, 1, none⟩ = some (.int .i64 x.call) := HC.out w2 1 (hb1.trans (hb2.mono hb1.size)))
    )
  go_ret2
  exact ⟨rfl, HB.out.trans ((hb1.trans (hb2.mono hb1.size)).mono HB.out.size)⟩

theorem editL_all (l : List Box) (t : Nat) (stays : Bool) (b' : Box) : editL l t stays b' l.length = if stays then l.set t b' else l.eraseIdx t := by
  unfold editL
  cases stays with
  | true => simp only [if_true]; exact List.take_of_length_le (by simp)
  | false => simp

/-- what a change of one box does -/
theorem change_changed (A : Option Addr) (c : Nat) (l : List Box) (n : Nat) (hn : n = l.length) (calls now : Int) (x : Chg) (w : World) (hA : Rd w w.heap.size 9 A (l.map Box.cells)) (hl : l.length ≤ 1000000) (hk0 : 0 ≤ x.kind) (hk : x.kind ≤ 255) (hc0 : 2 ≤ calls) (hc1 : calls ≤ 20) (hinv : InvB l) :
    Calls Try.prog 37 #[.slice A n c, .int .i64 calls, .int .i64 now, x.val] w fun e w' => ∃ A' c', e = .returned (.tuple #[.slice A' (nextL l calls now x.kind x.call x.box x.kilos).1.length c', .int .i64 (nextL l calls now x.kind x.call x.box x.kilos).2]) ∧
      OwnS w' w.heap.size 73 9 A' c' ((nextL l calls now x.kind x.call x.box x.kilos).1.map Box.cells) ∧ Below w.heap.size w w' := by
  by_cases hbad : ¬ (1 ≤ x.kind ∧ x.kind ≤ 4)
  · have HV : nextL l calls now x.kind x.call x.box x.kilos = ([], 371) := by unfold nextL; rw [if_pos (by omega)]
    rw [HV]
    exact (changed_bad A c l n hn calls now x w hA hl hk0 hk hbad).mono fun e w' ⟨h1, h2⟩ => ⟨none, 0, h1, OwnS.nil _ _ _ _, h2⟩
  by_cases h1 : x.kind = 1
  · exact changed_skip A c l n hn calls now x w hA hl h1 hc0 hc1 hinv
  have h2 : 2 ≤ x.kind := by omega
  have h4 : x.kind ≤ 4 := by omega
  have hkv : ∃ F1 F2, kindV x.kind = .agg #[.bool false, .func (.func F1) #[] #[], .func (.func F2) #[] #[]] := by
    rcases (by omega : x.kind = 2 ∨ x.kind = 3 ∨ x.kind = 4) with h | h | h <;> rw [h] <;> exact ⟨_, _, rfl⟩
  rcases idx_cases (fun b : Box => b.id == x.box) l with ⟨hi, _⟩ | ⟨t, ht, hi, _, _⟩
  · obtain ⟨F1, F2, hkv⟩ := hkv
    rw [nextL_none (by omega) h4 hi]
    exact (changed_none A c l n hn calls now x w hA hl h2 h4 F1 F2 hkv hi).mono fun e w' ⟨h1, h2⟩ => ⟨none, 0, h1, OwnS.nil _ _ _ _, h2⟩
  · rw [nextL_some (by omega) h4 ht hi]
    have hb := hinv _ (List.getElem_mem ht)
    have fin : ∀ (ov stays : Bool) (err : Int) (b' : Box), oneR l t ov stays err b' = nextAt l now x.kind x.kilos t l[t] →
        ∀ {e : Ending} {w' : World}, (∃ A' c' l' err', e = .returned (.tuple #[.slice A' (l' : List Box).length c', .int .i64 err']) ∧ OwnS w' w.heap.size 73 9 A' c' (l'.map Box.cells) ∧ Below w.heap.size w w' ∧ Hid ((l', err') = oneR l t ov stays err b')) →
        ∃ A' c', e = .returned (.tuple #[.slice A' (nextAt l now x.kind x.kilos t l[t]).1.length c', .int .i64 (nextAt l now x.kind x.kilos t l[t]).2]) ∧ OwnS w' w.heap.size 73 9 A' c' ((nextAt l now x.kind x.kilos t l[t]).1.map Box.cells) ∧ Below w.heap.size w w' := by
      rintro ov stays err b' he e w' ⟨A', c', l', err', h1, h2, h3, h4⟩
      rw [← he, ← h4.out]
      exact ⟨A', c', h1, h2, h3⟩
    rcases (by omega : x.kind = 2 ∨ x.kind = 3 ∨ x.kind = 4) with h | h | h
    · refine (changed_one A c l n hn calls now x w hA hl h2 h4 67 68 (by rw [h]; rfl) (fn_cf _ (by simp)) (fn_cf _ (by simp)) t ht hi (decide (l[t].load < now)) (decide (l[t].load + 1 < l[t].dis)) 0 { l[t] with load := l[t].load + 1 } (fun w => kind_loaded _ _ _) (fun w gb hg => kind_late _ _ _ _ hg (by omega) (by omega))).mono fun e w' hh => fin _ _ _ _ ?_ hh
      unfold oneR nextAt
      rw [editL_all, h]
      by_cases a1 : l[t].load < now
      · simp [a1]
      · by_cases a2 : l[t].load + 1 = l[t].dis
        · simp [a1, a2]
        · have : l[t].load + 1 < l[t].dis := by omega
          simp [a1, a2, this]
    · refine (changed_one A c l n hn calls now x w hA hl h2 h4 67 69 (by rw [h]; rfl) (fn_cf _ (by simp)) (fn_cf _ (by simp)) t ht hi (decide (l[t].load < now)) false 0 l[t] (fun w => kind_loaded _ _ _) (fun w gb hg => (kind_cancel gb x w).mono fun e w' ⟨h1, h2⟩ => ⟨h1, hg.below h2 hg.lt, h2.mono (Nat.le_of_lt hg.lt)⟩)).mono fun e w' hh => fin _ _ _ _ ?_ hh
      unfold oneR nextAt
      rw [editL_all, h]
      by_cases a1 : l[t].load < now
      · simp [a1]
      · simp [a1]
    · refine (changed_one A c l n hn calls now x w hA hl h2 h4 70 71 (by rw [h]; rfl) (fn_cf _ (by simp)) (fn_cf _ (by simp)) t ht hi (decide (l[t].dis < now)) (boxB { l[t] with kilos := x.kilos }) (if boxB { l[t] with kilos := x.kilos } then 0 else 372) { l[t] with kilos := x.kilos } (fun w => kind_gone _ _ _) (fun w gb hg => kind_weigh _ _ _ _ hg hb.1)).mono fun e w' hh => fin _ _ _ _ ?_ hh
      unfold oneR nextAt
      rw [editL_all, h]
      by_cases a1 : l[t].dis < now
      · simp [a1]
      · cases hB : boxB { l[t] with kilos := x.kilos } <;> simp [a1]
end Go.Proofs.Ytccjddbcdmgefaa
