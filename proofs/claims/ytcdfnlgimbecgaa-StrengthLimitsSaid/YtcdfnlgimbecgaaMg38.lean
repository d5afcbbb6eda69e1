/-
  twistlocklaw18: Made.
-/
import Derived.Test.YtcdfnlgimbecgaaMg37
import Derived.Deep.Cut

namespace Go.Proofs.Ytcdfnlgimbecgaa
open Go.RowKit

def MadePost (w : World) (l : List Sml) (e : Ending) (w' : World) : Prop :=
  ∃ g c D d, e = .returned (.tuple #[.slice (some ⟨g, 0, none⟩) (madeF l).length c, .slice D (madeL l).length d]) ∧ OwnS w' w.heap.size 44 5 (some ⟨g, 0, none⟩) c ((madeF l).map Frm.cells) ∧
    OwnS w' w.heap.size 46 2 D d ((madeL l).map Wt.cells) ∧ (∀ a, D = some a → a.block ≠ g) ∧ Below w.heap.size w w'

theorem OwnS.some {w : World} {base e size c : Nat} {A : Option Addr} {css : List (List Value)} (h : OwnS w base e size A c css) (hn : css ≠ []) : ∃ g, A = some ⟨g, 0, none⟩ := by
  rcases h.block with ⟨_, _, h3⟩ | ⟨g, cur, h3, _⟩
  · exact absurd h3 hn
  · exact ⟨g, h3⟩

theorem wpList_min {w : World} {ops : Array Oper} {rest : List Oper} {o : Oper} {a : Act} {Q : Exit → Act → World → Prop} (hgd : o.guard = none) (x y : Operand) (t1 t2 : TypeId) (ho : o.op = .call { callee := .builtin .min, args := #[x, y], argTypes := #[t1, t2] }) (p q r : Int) (hx : a.eval x = .int .i64 p) (hy : a.eval y = .int .i64 q) (hr : min p q = r)
    (h : wpList Try.prog ops Q rest (a.put o.dst (.int .i64 r)) w) : wpList Try.prog ops Q (o :: rest) a w := by
  have e : (if q < p then q else p) = r := by rw [← hr]; split <;> omega
  refine wpList_run hgd (v := .int .i64 r) (w' := w) ?_ h
  unfold execOp
  simp only [ho, resolve, invoke, builtin, Sem.run_bind, Sem.run_pure, Result.andThen_ok, List.map_toArray, List.map_cons, List.map_nil, hx, hy, run_min_int2, e]

theorem tmod_lt {a b : Int} (ha : 0 ≤ a) (hb : 0 < b) : 0 ≤ a.tmod b ∧ a.tmod b < b := by
  rw [Int.tmod_eq_emod_of_nonneg ha]
  exact ⟨Int.emod_nonneg _ (by omega), Int.emod_lt_of_pos _ hb⟩
theorem msAt_ok {l : List Sml} (hok : ∀ x ∈ l, x.ok) : ∀ k, k ≤ l.length → k ≤ 7 → (5000 ≤ (msAt l k).x ∧ (msAt l k).x ≤ 5000 + k * 9100) ∧ (0 ≤ (msAt l k).rest ∧ (msAt l k).rest ≤ 9000)
  | 0, _, _ => by refine ⟨⟨?_, ?_⟩, ?_, ?_⟩ <;> simp [msAt, ms0]
  | k + 1, h, h7 => by
    obtain ⟨⟨h1, h2⟩, h3, h4⟩ := msAt_ok hok k (by omega) (by omega)
    rw [msAt_succ l (by omega)]
    have hx := hok l[k] (List.getElem_mem (by omega))
    have hlen := msAt_len l k (by omega)
    have ht := tmod_lt (a := l[k].step) (b := 9000 + (((msAt l k).done.length : Int) - 2)) hx.1.1 (by omega)
    have hs := hx.2.2.2.2
    refine ⟨?_, ?_⟩
    · show _ ≤ (msAt l k).nextX _ ∧ (msAt l k).nextX _ ≤ _
      unfold MS.nextX
      rw [hlen] at ht ⊢
      omega
    · show _ ≤ (msAt l k).rest - (msAt l k).share _ ∧ (msAt l k).rest - (msAt l k).share _ ≤ _
      unfold MS.share
      omega
theorem set_last {L : List (List Value)} {row : List Value} {i j : Nat} {v : Value} (hi : i = L.length) (h : i < (L ++ [row]).length) : (L ++ [row]).set i (((L ++ [row])[i]).set j v) = L ++ [row.set j v] := by
  subst hi
  simp
theorem own_int {w : World} {base e size c g i j : Nat} {css : List (List Value)} {cs : List Value} {v : Int} (h : OwnS w base e size (some ⟨g, 0, none⟩) c css) (hi : css[i]? = some cs) (hj : cs[j]? = some (.int .i64 v)) {p : Nat} (hp : p = i * size + j) : ∀ w1, From w w1 → (loadVar 3 ⟨g, p, none⟩).run Try.prog w1 = .ok (.int .i64 v) w1 := by
  intro w1 hb
  subst hp
  obtain ⟨b, off, e, hlt, _, hc⟩ := h.rd i cs hi
  simp only [Option.some.injEq, Addr.mk.injEq, and_true] at e
  obtain ⟨rfl, rfl⟩ := e
  have h1 := (hb.cell (p := ⟨g, _, none⟩) (by simpa using hlt)).trans (hc j _ hj)
  refine run_load_cell Try.underlying3 rfl ?_
  simpa using h1

theorem msAt_head (l : List Sml) : ∀ k, k ≤ l.length → ∃ t, (msAt l k).done = [⟨-20000, 3000, 1000, 0, 0⟩, ⟨-10000, 2000, 0, 0, 0⟩] ++ t
  | 0, _ => ⟨[], rfl⟩
  | k + 1, h => by
    obtain ⟨t, ht⟩ := msAt_head l k (by omega)
    rw [msAt_succ l (by omega)]
    refine ⟨t ++ [⟨(msAt l k).x, l[k].light, (msAt l k).share l[k], 0, 0⟩], ?_⟩
    show (msAt l k).done ++ _ = _
    rw [ht, List.append_assoc]
theorem frames_len (s : MS) : s.frames.length = s.done.length + 1 := by simp [MS.frames]
theorem addRest_cells {F : List Frm} (h : 1 < F.length) (h2 : 1 < (F.map Frm.cells).length) (r : Int) : (F.map Frm.cells).set 1 (((F.map Frm.cells)[1]).set 2 (.int .i64 ((F.getD 1 frm0).share + r))) = (addRest F r).map Frm.cells := by
  unfold addRest
  rw [List.map_set]
  have e : F.getD 1 frm0 = F[1] := by simp [h]
  rw [e]
  congr 1
  simp [Frm.cells]

set_option maxRecDepth 100000 in
theorem slice_frm (z : Int) {a : Act} {t : Nat} {d : Option Nat} {ty : TypeId} {pos : String} {aft : Array Edge} (w : World) (hx : a.eval (.tmp t) = .agg #[.int .i64 z, .int .i64 0, .int .i64 0, .int .i64 0, .int .i64 0]) :
    (execOp a.eval ⟨d, .buildSlice 22 1 #[(0, .tmp t)], ty, pos, aft, none⟩).run Try.prog w = .ok (.value (.slice (some ⟨w.heap.size, 0, none⟩) 1 1)) (w.alloc (.cells #[.int .i64 z, .int .i64 0, .int .i64 0, .int .i64 0, .int .i64 0] 44)) := by
  have hx' : a.tmps[t]?.getD undef = _ := (by simp [Act.eval] : a.tmps[t]?.getD undef = a.eval (.tmp t)).trans hx
  go_simp
set_option maxRecDepth 100000 in
theorem slice_wt (y z : Int) {a : Act} {t : Nat} {d : Option Nat} {ty : TypeId} {pos : String} {aft : Array Edge} (w : World) (hx : a.eval (.tmp t) = .agg #[.int .i64 y, .int .i64 z]) :
    (execOp a.eval ⟨d, .buildSlice 23 1 #[(0, .tmp t)], ty, pos, aft, none⟩).run Try.prog w = .ok (.value (.slice (some ⟨w.heap.size, 0, none⟩) 1 1)) (w.alloc (.cells #[.int .i64 y, .int .i64 z] 46)) := by
  have hx' : a.tmps[t]?.getD undef = _ := (by simp [Act.eval] : a.tmps[t]?.getD undef = a.eval (.tmp t)).trans hx
  go_simp

set_option maxRecDepth 100000 in
/-- the frames that stand when the loop begins -/
theorem own_ms0 (w : World) : OwnS (w.alloc (.cells #[.int .i64 (-20000), .int .i64 3000, .int .i64 1000, .int .i64 0, .int .i64 0, .int .i64 (-10000), .int .i64 2000, .int .i64 0, .int .i64 0, .int .i64 0, .int .i64 5000, .int .i64 0, .int .i64 0, .int .i64 0, .int .i64 0] 44)) w.heap.size 44 5 (some ⟨w.heap.size, 0, none⟩) 3 (ms0.frames.map Frm.cells) := by
  refine ⟨⟨by kernel_rfl, .inr ⟨w.heap.size, 3, _, ?_, Nat.le_refl _, heap_alloc_new w _, ?_, ?_, ?_, ?_⟩⟩, Frm.lens _⟩
  · rfl
  · show 3 ≤ 3
    omega
  · unfold maxLen; omega
  · kernel_rfl
  · kernel_rfl

set_option maxRecDepth 100000 in
set_option maxHeartbeats 8000000 in
theorem law_Made (A : Option Addr) (c n : Nat) (l : List Sml) (hn : n = l.length) (hok : ∀ x ∈ l, x.ok) (hnc : n ≤ c) (w : World) (h : Rd w w.heap.size 5 A (l.map Sml.cells)) (hl : l.length ≤ 20000000000000) :
    Calls Try.prog 11 #[.slice A n c] w (MadePost w l) := by
  have HR := Lib.hid h
  have HN := Lib.hid hn
  have HOK := Lib.hid hok
  have hni : (n : Int) ≤ 20000000000000 := by omega
  have hnci : (n : Int) ≤ (c : Int) := by omega
  obtain ⟨k7, hk7⟩ : ∃ k7, k7 = min l.length 7 := ⟨_, rfl⟩
  have HK7 := Lib.hid hk7
  have h7 : min (n : Int) 7 = (k7 : Int) := by rw [hk7, hn]; omega
  have hk7i : (k7 : Int) ≤ (c : Int) := by omega
  have hk70 : (0 : Int) ≤ (k7 : Int) := by omega
  clear h hn hok hl hk7
  have HOW0 := Lib.hid (own_ms0 w)
  have HC0 : Hid (From w (w.alloc (.cells #[.int .i64 (-20000), .int .i64 3000, .int .i64 1000, .int .i64 0, .int .i64 0, .int .i64 (-10000), .int .i64 2000, .int .i64 0, .int .i64 0, .int .i64 0, .int .i64 5000, .int .i64 0, .int .i64 0, .int .i64 0, .int .i64 0] 44))) := (Below.refl _ _).alloc (Nat.le_refl _) _
  go_enter Try.func11, Try.ntmps11
  go_wp2_with (refine wpList_min rfl _ _ _ _ rfl _ _ _ rfl rfl h7 ?_)
  go_loopw [4, 5, 24] (fun fv rv kv wq => ∃ (k g cf : Nat), k ≤ k7 ∧ kv = .int .i64 k ∧ rv = .int .i64 (msAt l k).rest ∧ fv = .slice (some ⟨g, 0, none⟩) (k + 3) cf ∧ OwnS wq w.heap.size 44 5 (some ⟨g, 0, none⟩) cf ((msAt l k).frames.map Frm.cells) ∧ From w wq) (fun _ _ kv _ => k7 - (intOf kv).toNat)
  case atStart => exact ⟨0, w.heap.size, 3, Nat.zero_le _, rfl, rfl, rfl, HOW0.out, HC0.out⟩
  case round =>
    clear HOW0 HC0
    obtain ⟨k, g, cf, hk, rfl, rfl, rfl, how, hb⟩ := hrel
    have HOW := Lib.hid how
    have HB := Lib.hid hb
    clear how hb
    by_cases hk7k : k < k7
    · have hkl : k < l.length := by have := HK7.out; omega
      have hki : (k : Int) < (k7 : Int) := by omega
      obtain ⟨gx, ox, rfl, hgx, hld⟩ := Sml.ld HR.out (k := k) (b := l[k]) (by simp [hkl])
      obtain ⟨x, hx⟩ : ∃ x, x = l[k] := ⟨_, rfl⟩
      rw [← hx] at hld
      have HLD := Lib.hid (hld wr HB.out)
      have HX : Hid x.ok := by unfold Hid; rw [hx]; exact HOK.out _ (List.getElem_mem hkl)
      have hst := msAt_succ l hkl
      rw [← hx] at hst
      have HST := Lib.hid hst
      obtain ⟨s, hs⟩ : ∃ s, s = msAt l k := ⟨_, rfl⟩
      have hbd := msAt_ok HOK.out k (by omega) (by have := HK7.out; omega)
      have hlen := msAt_len l k (by omega)
      rw [← hs] at hbd hlen HST HOW ⊢
      have HBD := Lib.hid hbd
      have HS := Lib.hid hs
      have hx1 := HX.out
      have wS : IntKind.i64.wrap x.share = x.share := wrap_i64 (by have := hx1.2.2.2.2; omega) (by have := hx1.2.2.2.2; omega)
      have wM : IntKind.i64.wrap (20 * x.share) = 20 * x.share := wrap_i64 (by have := hx1.2.2.2.2; omega) (by have := hx1.2.2.2.2; omega)
      have wL : IntKind.i64.wrap x.light = x.light := wrap_i64 (by have := hx1.2.1; omega) (by have := hx1.2.1; omega)
      obtain ⟨sh, hsh⟩ : ∃ sh, sh = s.share x := ⟨_, rfl⟩
      have hmin : min s.rest (20 * x.share) = sh := hsh.symm
      have hshb : 0 ≤ sh ∧ sh ≤ 9000 := by rw [← hmin]; have := hx1.2.2.2.2; omega
      have wR : IntKind.i64.wrap (s.rest - sh) = s.rest - sh := wrap_i64 (by omega) (by omega)
      obtain ⟨m, hm⟩ : ∃ m, m = k + 3 := ⟨_, rfl⟩
      obtain ⟨nn, hnn⟩ : ∃ nn, nn = k + 2 := ⟨_, rfl⟩
      have wN : IntKind.i64.wrap ((m : Int) - 1) = (nn : Int) := by rw [wrap_i64 (by omega) (by omega)]; omega
      have hnk : (nn : Int) < (m : Int) := by omega
      rw [← hnn] at hlen
      rw [← hm]
      have HSH := Lib.hid (And.intro hsh hshb)
      have HLEN : Hid (s.done.length = nn) := hlen
      have HMN := Lib.hid (And.intro hm hnn)
      clear hm hnn
      clear hld hgx hx hst hkl hs hbd hlen hx1 hsh hshb
      go_upto_region 7 with (first
        | ((with_reducible refine g_ld 95 ?_); refine wpList_ld rfl _ _ rfl _ rfl _ HLD.out ?_))
      have HBX : Hid (((wr.alloc (.cells #[.int .u16 x.step, .int .u16 x.light, .int .u16 x.at_, .int .u16 x.kilos, .int .u8 x.share] 95))).heap[wr.heap.size]? = some (.cells #[.int .u16 x.step, .int .u16 x.light, .int .u16 x.at_, .int .u16 x.kilos, .int .u8 x.share] 95 (0, 0))) := heap_alloc_new wr _
      have CFN : Hid (From wr (wr.alloc (.cells #[.int .u16 x.step, .int .u16 x.light, .int .u16 x.at_, .int .u16 x.kilos, .int .u8 x.share] 95))) := (Below.refl _ _).alloc (Nat.le_refl _) _
      have HOW1 : Hid (OwnS (wr.alloc (.cells #[.int .u16 x.step, .int .u16 x.light, .int .u16 x.at_, .int .u16 x.kilos, .int .u8 x.share] 95)) w.heap.size 44 5 (some ⟨g, 0, none⟩) cf (s.done.map Frm.cells ++ [[.int .i64 s.x, .int .i64 0, .int .i64 0, .int .i64 0, .int .i64 0]])) := by
        have h1 := HOW.out.alloc (.cells #[.int .u16 x.step, .int .u16 x.light, .int .u16 x.at_, .int .u16 x.kilos, .int .u8 x.share] 95)
        unfold MS.frames at h1
        rw [List.map_append] at h1
        exact h1
      have HGL : Hid (g < wr.heap.size) := (HOW.out.lt rfl).2
      have HGW : Hid (w.heap.size ≤ g) := (HOW.out.lt rfl).1
      try simp only [Act.put]
      go_upto_region 10 with (first
        | (refine wpList_min rfl _ _ _ _ rfl _ _ _ rfl rfl hmin ?_)
        | ((with_reducible refine g_st 3 ?_); refine wpList_stO (i := nn) (j := 1) (v := .int .i64 x.light) rfl _ _ rfl rfl rfl (by kernel_rfl) rfl rfl HOW1.out (by simp [HLEN.out]) (by omega) ?_; intro w2 how2 hgr2; rw [set_last (by simp [HLEN.out])] at how2; have HOW2 := Lib.hid how2; have HBX2 := Lib.hid ((hgr2.block _ (Array.getElem?_eq_some_iff.1 HBX.out).1 (by intro e; injection e with e; have := HGL.out; omega)).trans HBX.out); have C2 : Hid (Below w.heap.size w w2) := (HB.out.trans (CFN.out.mono HB.out.size)).grown hgr2 (Nat.le_trans HB.out.size CFN.out.size) (by intro q hq; injection hq with hq; have := HGW.out; omega); have C2s : Hid (wr.heap.size < w2.heap.size) := Nat.lt_of_lt_of_le (Array.getElem?_eq_some_iff.1 HBX.out).1 hgr2.size; clear how2 hgr2 HOW1)
        | ((with_reducible refine g_st 3 ?_); refine wpList_stO (i := nn) (j := 2) (v := .int .i64 sh) rfl _ _ rfl rfl rfl (by kernel_rfl) rfl rfl HOW2.out (by simp [HLEN.out]) (by omega) ?_; intro w3 how3 hgr3; rw [set_last (by simp [HLEN.out])] at how3; have HOW3 := Lib.hid how3; have HBX3 := Lib.hid ((hgr3.block _ (Array.getElem?_eq_some_iff.1 HBX2.out).1 (by intro e; injection e with e; have := HGL.out; omega)).trans HBX2.out); have C3 : Hid (Below w.heap.size w w3) := C2.out.grown hgr3 C2.out.size (by intro q hq; injection hq with hq; have := HGW.out; omega); clear how3 hgr3 HOW2))
      have hx1 := HX.out
      have hbd := HBD.out
      have hst := tmod_lt (a := x.step) (b := 9000 + (k : Int)) hx1.1.1 (by omega)
      have hk7' : k < 7 := by have := HK7.out; omega
      have hnx : s.x + 1 + x.step.tmod (9000 + (k : Int)) = s.nextX x := by
        unfold MS.nextX
        rw [HLEN.out]
        have e : ((nn : Nat) : Int) - 2 = (k : Int) := by have := HMN.out; omega
        rw [e]
      have w1 : IntKind.i64.wrap (s.x + 1) = s.x + 1 := wrap_i64 (by omega) (by omega)
      have w2' : IntKind.i64.wrap x.step = x.step := wrap_i64 (by have := hx1.1; omega) (by have := hx1.1; omega)
      have w3' : IntKind.i64.wrap (9000 + (k : Int)) = 9000 + (k : Int) := wrap_i64 (by omega) (by omega)
      have hnb : 5000 ≤ s.nextX x ∧ s.nextX x ≤ 200000 := by
        rw [← hnx]
        have q1 := hst.1
        have q2 := hst.2
        generalize x.step.tmod (9000 + (k : Int)) = z at q1 q2 ⊢
        omega
      have w4 : IntKind.i64.wrap (s.x + 1 + x.step.tmod (9000 + (k : Int))) = s.nextX x := by rw [hnx, wrap_i64 (by omega) (by omega)]
      have hz : ¬ (9000 + (k : Int)) = 0 := by omega
      clear hx1 hbd hst hk7' hnx hnb
      try simp only [Act.put]
      refine region_made10 (gf := g) (nf := m) (cf := cf) (nn := nn) (ii := k) (gx := wr.heap.size) (xx := s.x) (st := x.step) (z59 := s.x + 1) (z64 := 9000 + (k : Int)) (z65 := x.step.tmod (9000 + (k : Int))) (z66 := s.nextX x) hnk w1 w2' w3' hz rfl w4 rfl (by kernel_rfl) (by kernel_rfl) (by kernel_rfl) rfl rfl rfl rfl
        (fun v w1 => ∃ gg, v = .slice (some ⟨gg, 0, none⟩) 1 1 ∧ RB w1 gg 44 5 [[.int .i64 (s.nextX x), .int .i64 0, .int .i64 0, .int .i64 0, .int .i64 0]])
        (by rintro v w1 w2 ⟨gg, h1, h2⟩ hb; exact ⟨gg, h1, h2.below hb h2.lt⟩)
        (fun w1 hb => own_int HOW3.out (i := nn) (j := 0) (cs := [.int .i64 s.x, .int .i64 x.light, .int .i64 sh, .int .i64 0, .int .i64 0]) (by rw [List.getElem?_append_right (by simp [HLEN.out])]; simp [HLEN.out]) rfl rfl w1 hb)
        (fun w1 hb => run_load_cell Try.underlying62 rfl (by rw [cell_of_row w1 _ 0 _ _ _ ((hb.block _ (Array.getElem?_eq_some_iff.1 HBX3.out).1).trans HBX3.out)]; rfl))
        (by intro a w1 hb h1; exact ⟨_, _, slice_frm (s.nextX x) w1 h1, (Below.refl _ _).alloc (Nat.le_refl _) _, _, rfl, heap_alloc_new w1 _, by simp⟩) ?_
      rintro u w4 hb4 ⟨gg, rfl, hrb⟩
      have HOW4 := Lib.hid (HOW3.out.below hb4 (Nat.le_refl _))
      have HRD4 := Lib.hid hrb.rd
      have C4 : Hid (Below w.heap.size w w4) := C3.out.trans (hb4.mono C3.out.size)
      have HLE : Hid ((s.done.map Frm.cells ++ [[Value.int .i64 s.x, .int .i64 x.light, .int .i64 sh, .int .i64 0, .int .i64 0]]).length = m) := by have := HMN.out; unfold Hid; simp [HLEN.out]; omega
      have HM10 : Hid (m ≤ 10) := by have h1 := HMN.out; have h2 := HK7.out; unfold Hid; omega
      clear hb4 hrb
      simp only [List.drop_succ_cons, List.drop_zero]
      simp only [Act.put, List.setIfInBounds_toArray, List.set_cons_succ, List.set_cons_zero]
      go_wp2_with (first
        | (at_builtin; go_loud (refine wpList_append_n rfl _ _ rfl Frm.ei m HLE.out.symm rfl HOW4.out rfl _ HRD4.out rfl (by simp [Value.oneCell']) (by rw [HLE.out]; have := HM10.out; unfold maxLen; omega) (by rw [HLE.out]; have := HM10.out; omega) C4.out.size ?_); intro A5 c5 w5 how5 hg5 hb5))
      obtain ⟨g5, rfl⟩ := how5.some (by simp)
      have HOW5 := Lib.hid how5
      have C5 : Hid (From w w5) := C4.out.trans hb5
      clear how5 hg5 hb5
      go_roundw
      case rel =>
        refine ⟨k + 1, g5, c5, by omega, by go_num, ?_, ?_, ?_, C5.out⟩
        · rw [HST.out, HSH.out.1]; rfl
        · rw [HMN.out.1]
        · have h1 := HOW5.out
          rw [HST.out]
          have e : (s.step x).frames.map Frm.cells = s.done.map Frm.cells ++ [[Value.int .i64 s.x, .int .i64 x.light, .int .i64 sh, .int .i64 0, .int .i64 0]] ++ [[.int .i64 (s.nextX x), .int .i64 0, .int .i64 0, .int .i64 0, .int .i64 0]] := by
            rw [HSH.out.1]
            simp [MS.frames, MS.step, Frm.cells]
          rw [e]
          exact h1
      case measure => simp [intOf]; omega
    · obtain rfl : k = k7 := by omega
      have hkk : ¬ (k : Int) < (k : Int) := by omega
      have hkl : k ≤ l.length := by have := HK7.out; omega
      obtain ⟨s, hs⟩ : ∃ s, s = msAt l k := ⟨_, rfl⟩
      have hbd := msAt_ok HOK.out k hkl (by have := HK7.out; omega)
      have hlen := msAt_len l k hkl
      obtain ⟨t, ht⟩ := msAt_head l k hkl
      have hmf : madeF l = addRest s.frames s.rest := by unfold madeF; rw [← HK7.out, hs]
      have hmw : madeW l = s.x + 20000 := by unfold madeW; rw [← HK7.out, hs]
      rw [← hs] at hbd hlen ht HOW ⊢
      have HBD := Lib.hid hbd
      obtain ⟨F, hF⟩ : ∃ F, F = s.frames := ⟨_, rfl⟩
      obtain ⟨m, hm⟩ : ∃ m, m = k + 3 := ⟨_, rfl⟩
      obtain ⟨nn, hnn⟩ : ∃ nn, nn = k + 2 := ⟨_, rfl⟩
      have hFl : F.length = m := by rw [hF, frames_len, hlen, hm]
      have hF0 : F[0]? = some ⟨-20000, 3000, 1000, 0, 0⟩ := by rw [hF]; unfold MS.frames; rw [ht]; rfl
      have hF1 : F[1]? = some ⟨-10000, 2000, 0, 0, 0⟩ := by rw [hF]; unfold MS.frames; rw [ht]; rfl
      have hF1d : F.getD 1 frm0 = ⟨-10000, 2000, 0, 0, 0⟩ := by rw [List.getD_eq_getElem?_getD, hF1]; rfl
      have hFn : F[nn]? = some ⟨s.x, 0, 0, 0, 0⟩ := by rw [hF]; unfold MS.frames; rw [List.getElem?_append_right (by omega)]; simp [hlen, hnn]
      rw [← hF] at hmf HOW
      rw [← hm]
      have HF := Lib.hid (And.intro hF0 (And.intro hF1 (And.intro hFn hF1d)))
      have HMN := Lib.hid (And.intro hm (And.intro hnn hFl))
      have HMF := Lib.hid (And.intro hmf hmw)
      have hm3 : (1 : Int) < (m : Int) := by omega
      have hm0 : (0 : Int) < (m : Int) := by omega
      have wZ : IntKind.i64.wrap (0 + s.rest) = s.rest := by rw [wrap_i64 (by omega) (by omega)]; omega
      have wZ2 : IntKind.i64.wrap s.rest = s.rest := wrap_i64 (by omega) (by omega)
      have wN : IntKind.i64.wrap ((m : Int) - 1) = (nn : Int) := by rw [wrap_i64 (by omega) (by omega)]; omega
      have hnm : (nn : Int) < (m : Int) := by omega
      have hnn0 : (0 : Int) ≤ (nn : Int) := by omega
      have wW : IntKind.i64.wrap (s.x - -20000) = s.x + 20000 := by rw [wrap_i64 (by omega) (by omega)]; omega
      have HI1 : Hid (∀ w1, From wr w1 → (loadVar 3 ⟨g, 7, none⟩).run Try.prog w1 = .ok (.int .i64 0) w1) := fun w1 hb => own_int HOW.out (i := 1) (j := 2) (cs := Frm.cells ⟨-10000, 2000, 0, 0, 0⟩) (by rw [List.getElem?_map, HF.out.2.1]; rfl) rfl rfl w1 hb
      have HGW : Hid (w.heap.size ≤ g) := (HOW.out.lt rfl).1
      have HSF : Hid (1 < (F.map Frm.cells).length) := by unfold Hid; rw [List.length_map, hFl]; omega
      clear hs hbd hlen ht hmf hmw hF hm hnn hFl hF0 hF1 hF1d hFn hkl
      go_upto_region 13 with (first
        | ((with_reducible refine g_ld 3 ?_); refine wpList_ld rfl _ _ rfl _ rfl _ (HI1.out _ (Below.refl _ _)) ?_)
        | ((with_reducible refine g_st 3 ?_); refine wpList_stO (i := 1) (j := 2) (v := .int .i64 s.rest) rfl _ _ rfl rfl rfl (by kernel_rfl) rfl rfl HOW.out HSF.out (by omega) ?_; intro w2 how2 hgr2; have HOW2 := Lib.hid how2; have C2 : Hid (From w w2) := HB.out.grown hgr2 HB.out.size (by intro q hq; injection hq with hq; have := HGW.out; omega); clear how2 hgr2 HOW))
      have HAF : Hid (OwnS w2 w.heap.size 44 5 (some ⟨g, 0, none⟩) cf ((addRest F s.rest).map Frm.cells)) := by
        have h1 := addRest_cells (F := F) (by have := HSF.out; simpa using this) HSF.out s.rest
        rw [HF.out.2.2.2, Int.zero_add] at h1
        unfold Hid
        rw [← h1]
        exact HOW2.out
      have hn1 : nn ≠ 1 := by have := HMN.out; omega
      have HA0 : Hid ((addRest F s.rest)[0]? = some ⟨-20000, 3000, 1000, 0, 0⟩) := by unfold Hid addRest; rw [List.getElem?_set_ne (by omega)]; exact HF.out.1
      have HAN : Hid ((addRest F s.rest)[nn]? = some ⟨s.x, 0, 0, 0, 0⟩) := by unfold Hid addRest; rw [List.getElem?_set_ne (by omega)]; exact HF.out.2.2.1
      have hm00 : ¬ m = 0 := by have := HMN.out; omega
      clear HOW2 hn1
      simp only [Act.put]
      refine region_made13 (gf := g) (nf := m) (cf := cf) (y1 := s.x) (y0 := -20000) (z82 := (nn : Int)) (z90 := s.x + 20000) wN hnn0 hnm hm00 wW rfl (by kernel_rfl) (by kernel_rfl) (by kernel_rfl) rfl
        (fun w1 hb => own_int HAF.out (i := nn) (j := 0) (cs := Frm.cells ⟨s.x, 0, 0, 0, 0⟩) (by rw [List.getElem?_map, HAN.out]; rfl) rfl (by simp) w1 hb)
        (fun w1 hb => own_int HAF.out (i := 0) (j := 0) (cs := Frm.cells ⟨-20000, 3000, 1000, 0, 0⟩) (by rw [List.getElem?_map, HA0.out]; rfl) rfl rfl w1 hb) ?_
      intro w3 hb3
      have C3 : Hid (From w w3) := C2.out.trans (hb3.mono C2.out.size)
      have HAF3 := Lib.hid (HAF.out.below hb3 (Nat.le_refl _))
      have HG3 : Hid (g < w3.heap.size) := (HAF3.out.lt rfl).2
      obtain ⟨k8, hk8⟩ : ∃ k8, k8 = min l.length 8 := ⟨_, rfl⟩
      have h8 : min (n : Int) 8 = (k8 : Int) := by rw [hk8, HN.out]; omega
      have hk8i : (k8 : Int) ≤ (c : Int) := by have := HN.out; omega
      have hk80 : (0 : Int) ≤ (k8 : Int) := by omega
      have HK8 := Lib.hid hk8
      have HOW0 : Hid (OwnS w3 w3.heap.size 46 2 none 0 (((l.take 0).map (wtAt (s.x + 20000))).map Wt.cells)) := OwnS.nil _ _ _ _
      clear hb3 HAF HA0 HAN hk8
      simp only [List.drop_succ_cons, List.drop_zero]
      simp only [Act.put, List.setIfInBounds_toArray, List.set_cons_succ, List.set_cons_zero]
      go_wp2_with (refine wpList_min rfl _ _ _ _ rfl _ _ _ rfl rfl h8 ?_)
      go_loopw [11, 97] (fun wv kv wq => ∃ (k : Nat) (D : Option Addr) (d : Nat), k ≤ k8 ∧ kv = .int .i64 k ∧ wv = .slice D k d ∧ OwnS wq w3.heap.size 46 2 D d (((l.take k).map (wtAt (s.x + 20000))).map Wt.cells) ∧ From w3 wq) (fun _ kv _ => k8 - (intOf kv).toNat)
      case atStart => exact ⟨0, none, 0, Nat.zero_le _, rfl, rfl, HOW0.out, Below.refl _ _⟩
      case round =>
        clear HOW0
        obtain ⟨q, D, d, hq, rfl, rfl, how, hb⟩ := hrel
        have HOW := Lib.hid how
        have HBQ := Lib.hid hb
        clear how hb
        by_cases hq8 : q < k8
        · have hql : q < l.length := by have := HK8.out; omega
          have hqi : (q : Int) < (k8 : Int) := by omega
          obtain ⟨gx, ox, rfl, hgx, hld⟩ := Sml.ld HR.out (k := q) (b := l[q]) (by simp [hql])
          obtain ⟨x, hx⟩ : ∃ x, x = l[q] := ⟨_, rfl⟩
          rw [← hx] at hld
          have HLD := Lib.hid (hld wr (C3.out.trans (HBQ.out.mono C3.out.size)))
          have HX : Hid x.ok := by unfold Hid; rw [hx]; exact HOK.out _ (List.getElem_mem hql)
          have htk : (l.take (q + 1)).map (wtAt (s.x + 20000)) = (l.take q).map (wtAt (s.x + 20000)) ++ [wtAt (s.x + 20000) x] := by rw [List.take_succ_eq_append_getElem hql, List.map_append, hx]; rfl
          have HTK := Lib.hid htk
          have HQL : Hid ((((l.take q).map (wtAt (s.x + 20000))).map Wt.cells).length = q) := by unfold Hid; simp; omega
          clear hld hgx hx htk hql
          go_upto_region 18 with (first
            | ((with_reducible refine g_ld 95 ?_); refine wpList_ld rfl _ _ rfl _ rfl _ HLD.out ?_))
          have HBX : Hid (((wr.alloc (.cells #[.int .u16 x.step, .int .u16 x.light, .int .u16 x.at_, .int .u16 x.kilos, .int .u8 x.share] 95))).heap[wr.heap.size]? = some (.cells #[.int .u16 x.step, .int .u16 x.light, .int .u16 x.at_, .int .u16 x.kilos, .int .u8 x.share] 95 (0, 0))) := heap_alloc_new wr _
          have CFN : Hid (From wr (wr.alloc (.cells #[.int .u16 x.step, .int .u16 x.light, .int .u16 x.at_, .int .u16 x.kilos, .int .u8 x.share] 95))) := (Below.refl _ _).alloc (Nat.le_refl _) _
          generalize wr.alloc (.cells #[.int .u16 x.step, .int .u16 x.light, .int .u16 x.at_, .int .u16 x.kilos, .int .u8 x.share] 95) = w11 at HBX CFN ⊢
          have C11 : Hid (From w3 w11) := HBQ.out.trans (CFN.out.mono HBQ.out.size)
          have HF11 := Lib.hid (HAF3.out.below C11.out (Nat.le_refl _))
          have HA0 : Hid ((addRest F s.rest)[0]? = some ⟨-20000, 3000, 1000, 0, 0⟩) := by unfold Hid addRest; rw [List.getElem?_set_ne (by omega)]; exact HF.out.1
          have hx1 := HX.out
          have hbd := HBD.out
          have ht := tmod_lt (a := x.at_ * 7) (b := s.x + 20000) (by have := hx1.2.2.1; omega) (by omega)
          obtain ⟨z, hz⟩ : ∃ z, z = (x.at_ * 7).tmod (s.x + 20000) := ⟨_, rfl⟩
          rw [← hz] at ht
          have hk7' := HK7.out
          have v1 : IntKind.i64.wrap x.at_ = x.at_ := wrap_i64 (by have := hx1.2.2.1; omega) (by have := hx1.2.2.1; omega)
          have v2 : IntKind.i64.wrap (x.at_ * 7) = x.at_ * 7 := wrap_i64 (by have := hx1.2.2.1; omega) (by have := hx1.2.2.1; omega)
          have v3 : ¬ s.x + 20000 = 0 := by omega
          have v4 : IntKind.i64.wrap (-20000 + z) = -20000 + z := wrap_i64 (by omega) (by omega)
          have v5 : IntKind.i64.wrap x.kilos = x.kilos := wrap_i64 (by have := hx1.2.2.2.1; omega) (by have := hx1.2.2.2.1; omega)
          have HZ : Hid (wtAt (s.x + 20000) x = ⟨-20000 + z, x.kilos⟩) := by unfold Hid wtAt; rw [hz]
          have hz' := hz.symm
          clear hx1 hbd ht hk7' hz
          try simp only [Act.put]
          refine region_made18 (gf := g) (nf := m) (cf := cf) (gx := wr.heap.size) (wv := .slice D q d) (y0 := -20000) (at_ := x.at_) (ki := x.kilos) (wd := s.x + 20000) (z109 := x.at_ * 7) (z111 := z) (z112 := -20000 + z) hm00 v1 v2 v3 hz' v4 v5 rfl (by kernel_rfl) (by kernel_rfl) (by kernel_rfl) rfl rfl rfl rfl
            (fun v w1 => ∃ gg, v = .slice (some ⟨gg, 0, none⟩) 1 1 ∧ RB w1 gg 46 2 [[.int .i64 (-20000 + z), .int .i64 x.kilos]])
            (by rintro v w1 w2 ⟨gg, h1, h2⟩ hb; exact ⟨gg, h1, h2.below hb h2.lt⟩)
            (fun w1 hb => own_int HF11.out (i := 0) (j := 0) (cs := Frm.cells ⟨-20000, 3000, 1000, 0, 0⟩) (by rw [List.getElem?_map, HA0.out]; rfl) rfl rfl w1 hb)
            (fun w1 hb => run_load_cell Try.underlying62 rfl (by rw [cell_of_row w1 _ 2 _ _ _ ((hb.block _ (Array.getElem?_eq_some_iff.1 HBX.out).1).trans HBX.out)]; rfl))
            (fun w1 hb => run_load_cell Try.underlying62 rfl (by rw [cell_of_row w1 _ 3 _ _ _ ((hb.block _ (Array.getElem?_eq_some_iff.1 HBX.out).1).trans HBX.out)]; rfl))
            (by intro a w1 hb h1; exact ⟨_, _, slice_wt (-20000 + z) x.kilos w1 h1, (Below.refl _ _).alloc (Nat.le_refl _) _, _, rfl, heap_alloc_new w1 _, by simp⟩) ?_
          rintro u w12 hb12 ⟨gg, rfl, hrb⟩
          have C12 : Hid (From w3 w12) := C11.out.trans (hb12.mono C11.out.size)
          have HOW12 := Lib.hid ((HOW.out.below CFN.out (Nat.le_refl _)).below hb12 (Nat.le_refl _))
          have HRD12 := Lib.hid hrb.rd
          have HQ8 : Hid (q ≤ 8) := by have h2 := HK8.out; unfold Hid; omega
          clear hb12 hrb
          simp only [List.drop_succ_cons, List.drop_zero]
          simp only [Act.put, List.setIfInBounds_toArray, List.set_cons_succ, List.set_cons_zero]
          go_wp2_with (first
            | (at_builtin; go_loud (refine wpList_append_n rfl _ _ rfl Wt.ei q HQL.out.symm rfl HOW12.out rfl _ HRD12.out rfl (by simp [Value.oneCell']) (by rw [HQL.out]; have := HQ8.out; unfold maxLen; omega) (by rw [HQL.out]; have := HQ8.out; omega) C12.out.size ?_); intro A5 c5 w5 how5 hg5 hb5))
          have HOW5 := Lib.hid how5
          have C5 : Hid (From w3 w5) := C12.out.trans hb5
          clear how5 hg5 hb5
          go_roundw
          case rel =>
            refine ⟨q + 1, A5, c5, by omega, by go_num, rfl, ?_, C5.out⟩
            have h1 := HOW5.out
            rw [HTK.out, List.map_append, HZ.out]
            exact h1
          case measure => simp [intOf]; omega
        · obtain rfl : q = k8 := by omega
          have hqq : ¬ (q : Int) < (q : Int) := by omega
          go_wp2
          go_ret2
          have hml : madeL l = (l.take q).map (wtAt (s.x + 20000)) := by unfold madeL; rw [HMF.out.2, ← HK8.out]
          have hmll : (madeL l).length = q := by rw [hml]; simp; have := HK8.out; omega
          have hmfl : (madeF l).length = m := by rw [HMF.out.1]; unfold addRest; rw [List.length_set]; exact HMN.out.2.2
          refine ⟨g, cf, D, d, by (show _ = Ending.returned (.tuple #[.slice (some ⟨g, 0, none⟩) (madeF l).length cf, .slice D (madeL l).length d])); rw [hmfl, hmll]; rfl, ?_, ?_, ?_, C3.out.trans (HBQ.out.mono C3.out.size)⟩
          · rw [HMF.out.1]; exact HAF3.out.below HBQ.out (Nat.le_refl _)
          · rw [hml]; exact HOW.out.base_le C3.out.size
          · intro ad had
            have h1 := (HOW.out.lt had).1
            have h2 := HG3.out
            omega
end Go.Proofs.Ytcdfnlgimbecgaa
