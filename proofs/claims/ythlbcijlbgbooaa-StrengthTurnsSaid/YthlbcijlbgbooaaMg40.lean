/-
  twistlocklaw18: StrengthWrong, walked.
-/
import Derived.Test.YthlbcijlbgbooaaMg39
import Derived.Deep.Cut

namespace Go.Proofs.Ythlbcijlbgbooaa
open Go.RowKit

theorem Rd.drop1 {w : World} {B size g off : Nat} {css : List (List Value)} (h : Rd w B size (some ⟨g, off, none⟩) css) : Rd w B size (some ⟨g, off + size, none⟩) (css.drop 1) := by
  intro k cs hk
  rw [List.getElem?_drop] at hk
  obtain ⟨b, o, e, hlt, hl, hc⟩ := h (1 + k) cs hk
  simp only [Option.some.injEq, Addr.mk.injEq, and_true] at e
  obtain ⟨rfl, rfl⟩ := e
  refine ⟨g, off + size, rfl, hlt, hl, fun j u hu => ?_⟩
  have h1 := hc j u hu
  have e2 : off + (1 + k) * size + j = off + size + k * size + j := by rw [Nat.add_mul, Nat.one_mul]; omega
  rw [e2] at h1
  exact h1
def ErrPost (w : World) (er : Int) (e : Ending) (w' : World) : Prop := ∃ A c, e = .returned (.tuple #[.slice A 0 c, .int .i64 er]) ∧ Below w.heap.size w w'
theorem CurPost.toErr {w : World} {er : Int} {e : Ending} {w' : World} (h : CurPost w ([], er) e w') : ErrPost w er e w' := by
  obtain ⟨A, c, h1, _, h2, _⟩ := h
  exact ⟨A, c, h1, h2⟩
theorem OverPost.toErr {w : World} {er : Int} {e : Ending} {w' : World} (h : OverPost w ([], er) e w') : ErrPost w er e w' := by
  obtain ⟨A, c, h1, _, h2⟩ := h
  exact ⟨A, c, h1, h2⟩
theorem str_fits (l : List Frm) (S : List Sec) (W : Int) (k : FracV) (j : Nat) : (strF l S W k j).fits := ⟨subL_fits _ _, divL_fits _ _⟩

/-- a call of Curve that fails -/
theorem curve_err {F : List Frm} {ws : List Wt} {er : Int} (hr : curveF F ws = ([], er)) (A D : Option Addr) (c d n m : Nat) (hn : n = F.length) (hm : m = ws.length) (w : World) (h : Rd w w.heap.size 5 A (F.map Frm.cells)) (h' : Rd w w.heap.size 2 D (ws.map Wt.cells)) (hl : F.length ≤ 1000000) (hws : ws.length ≤ 1000000) :
    Calls Try.prog 15 #[.slice A n c, .slice D m d] w (ErrPost w er) := by
  have h1 := st_Curve A D c d n m F ws hn hm w h h' hl hws
  rw [hr] at h1
  exact h1.mono fun e w' h2 => h2.toErr
theorem over_err {F : List Frm} {ss : List Str} {er : Int} (hr : overF F ss = ([], er)) (A D : Option Addr) (c d n m : Nat) (hn : n = F.length) (hm : m = ss.length) (w : World) (h : Rd w w.heap.size 5 A (F.map Frm.cells)) (h' : Rd w w.heap.size 34 D (ss.map Str.cells)) (hl : F.length ≤ 1000000) (hss : ss.length ≤ 1000000) (hf : ∀ s ∈ ss, s.fits) :
    Calls Try.prog 23 #[.slice A n c, .slice D m d] w (ErrPost w er) := by
  have h1 := st_Over A D c d n m F ss hn hm w h h' hl hss hf
  rw [hr] at h1
  exact h1.mono fun e w' h2 => h2.toErr

/-- the state of the law: its frames and weights -/
structure LawSt (w0 w : World) (base g cf : Nat) (D : Option Addr) (d : Nat) (F : List Frm) (L : List Wt) : Prop where
  fr : OwnS w base 44 5 (some ⟨g, 0, none⟩) cf (F.map Frm.cells)
  wt : OwnS w base 46 2 D d (L.map Wt.cells)
  apart : ∀ a, D = some a → a.block ≠ g
  from_ : Below w0.heap.size w0 w
  base_ : base ≤ w.heap.size
  w0b : w0.heap.size ≤ base
theorem LawSt.step {w0 w w' : World} {base g cf d : Nat} {D : Option Addr} {F : List Frm} {L : List Wt} (h : LawSt w0 w base g cf D d F L) (hb : From w w') : LawSt w0 w' base g cf D d F L :=
  ⟨h.fr.below hb (Nat.le_refl _), h.wt.below hb (Nat.le_refl _), h.apart, h.from_.trans (hb.mono h.from_.size), Nat.le_trans h.base_ hb.size, h.w0b⟩
theorem LawSt.append {w0 w w' : World} {base g cf d : Nat} {D : Option Addr} {F : List Frm} {L : List Wt} (h : LawSt w0 w base g cf D d F L) (h1 : OwnS w' base 46 2 D d (L.map Wt.cells)) (h2 : w.grownBy w' (D.map (·.block))) (h3 : Below base w w') : LawSt w0 w' base g cf D d F L := by
  refine ⟨h.fr.keep fun a ha => ?_, h1, h.apart, h.from_.trans (h3.mono h.w0b), Nat.le_trans h.base_ h2.size, h.w0b⟩
  refine h2.block _ (h.fr.lt ha).2 ?_
  injection ha with ha
  subst ha
  intro e
  cases D with
  | none => cases e
  | some q => injection e with e; exact h.apart q rfl e.symm
theorem LawSt.store {w0 w w' : World} {base g cf d : Nat} {D : Option Addr} {F F' : List Frm} {L : List Wt} (h : LawSt w0 w base g cf D d F L) (h1 : OwnS w' base 44 5 (some ⟨g, 0, none⟩) cf (F'.map Frm.cells)) (h2 : w.grownBy w' (some g)) : LawSt w0 w' base g cf D d F' L := by
  have hg := (h.fr.lt rfl).1
  refine ⟨h1, h.wt.keep fun a ha => h2.block _ (h.wt.lt ha).2 (fun e => ?_), h.apart, h.from_.grown h2 h.from_.size (fun q hq => ?_), Nat.le_trans h.base_ h2.size, h.w0b⟩
  · injection e with e
    exact h.apart a ha e
  · injection hq with hq
    have := h.w0b
    simp only at hg
    omega
theorem set_cells {F : List Frm} {i j : Nat} {v : Value} (hi : i < F.length) (h : i < (F.map Frm.cells).length) (f' : Frm) (hf : f'.cells = (F[i].cells).set j v) : (F.map Frm.cells).set i (((F.map Frm.cells)[i]'h).set j v) = (F.set i f').map Frm.cells := by
  rw [List.map_set, hf]
  simp
theorem Rd.grown {w w' : World} {g size : Nat} {A : Option Addr} {css : List (List Value)} (h : Rd w w.heap.size size A css) (h2 : w.grownBy w' (some g)) (hA : ∀ a, A = some a → a.block ≠ g) : Rd w' w'.heap.size size A css := by
  intro k cs hk
  obtain ⟨b, off, e, hlt, hl, hc⟩ := h k cs hk
  refine ⟨b, off, e, Nat.lt_of_lt_of_le hlt h2.size, hl, fun j u hu => ?_⟩
  have h3 := hc j u hu
  have h4 : w'.heap[b]? = w.heap[b]? := h2.block b hlt (fun e2 => by injection e2 with e2; exact hA _ e e2)
  rw [← h3]
  unfold World.cell?
  simp only [h4]

theorem wpList_stO0 {P : Program} {w : World} {ops : Array Oper} {rest : List Oper} {o : Oper} {a : Act} {Q : Exit → Act → World → Prop} {T base e size c g i : Nat} {css : List (List Value)} {v : Value} (hgd : o.guard = none) (x y : Operand) (ho : o.op = .store T x y)
    (hx : a.eval x = .pointer (some ⟨g, i * size, none⟩)) (hy : a.eval y = v) (hsz : (P.info? T).map (·.size) = some 1) (hv : v.cells.toList = [v]) (h1 : v.oneCell' = true) (hown : OwnS w base e size (some ⟨g, 0, none⟩) c css) (hi : i < css.length) (hj : 0 < size)
    (h : ∀ w', OwnS w' base e size (some ⟨g, 0, none⟩) c (css.set i ((css[i]).set 0 v)) → w.grownBy w' (some g) → wpList P ops Q rest (a.put o.dst undef) w') : wpList P ops Q (o :: rest) a w :=
  wpList_stO (i := i) (j := 0) hgd x y ho (by rw [hx, Nat.add_zero]) hy hsz hv h1 hown hi hj h
theorem bad_last2 {F : List Frm} {i j : Nat} (h : i + 1 = F.length) (hj : j + 1 = i) (f' : Frm) (hx : f'.x = (F[j]'(by omega)).x) : rightF (F.set i f') = false := by
  cases hr : rightF (F.set i f') with
  | false => rfl
  | true =>
    have h1 := (okFrom_ord _ none (rightF_parts hr).2.2.1).1 j i (by omega) (by simp; omega) (by simp; omega)
    rw [List.getElem_set_ne (by omega), List.getElem_set_self] at h1
    omega
theorem bad_lastlight2 {F : List Frm} {i : Nat} (h : i + 1 = F.length) (f' : Frm) (hx : f'.light = 1) : rightF (F.set i f') = false := by
  have e : lastF (F.set i f') = f' := by
    unfold lastF
    rw [List.getLastD_eq_getLast?, List.getLast?_eq_getElem?, List.length_set, ← h, Nat.add_sub_cancel, List.getElem?_set_self (by omega)]
    rfl
  unfold rightF
  rw [e, hx]
  simp

/-- a call of Curve that does not fail -/
theorem curve_good {F : List Frm} {ws : List Wt} {S : List Sec} (hr : curveF F ws = (curveS F S, 0)) (A D : Option Addr) (c d n m : Nat) (hn : n = F.length) (hm : m = ws.length) (w : World) (h : Rd w w.heap.size 5 A (F.map Frm.cells)) (h' : Rd w w.heap.size 2 D (ws.map Wt.cells)) (hl : F.length ≤ 1000000) (hws : ws.length ≤ 1000000) :
    Calls Try.prog 15 #[.slice A n c, .slice D m d] w fun e w' => ∃ A' c', e = .returned (.tuple #[.slice A' n c', .int .i64 0]) ∧ Rd w' w'.heap.size 34 A' ((curveS F S).map Str.cells) ∧ Below w.heap.size w w' ∧ n ≤ c' ∧ ∀ a, A' = some a → w.heap.size ≤ a.block := by
  have h1 := st_Curve A D c d n m F ws hn hm w h h' hl hws
  rw [hr] at h1
  have hlen : (curveS F S).length = n := by unfold curveS; simp [hn]
  refine h1.mono ?_
  rintro e w' ⟨A', c', rfl, h2, h3, h4, h5⟩
  refine ⟨A', c', ?_, h2, h3, ?_, h5⟩
  · show Ending.returned (.tuple #[.slice A' (curveS F S).length c', .int .i64 0]) = _
    rw [hlen]
  · rw [← hlen]
    exact h4

set_option maxRecDepth 100000 in
set_option maxHeartbeats 8000000 in
theorem law_Wrong (A : Option Addr) (c n : Nat) (l : List Sml) (which way : Int) (hn : n = l.length) (hok : ∀ x ∈ l, x.ok) (hnc : n ≤ c) (hwh : 0 ≤ which ∧ which ≤ 255) (hwy : 0 ≤ way ∧ way ≤ 255) (w : World) (h : Rd w w.heap.size 5 A (l.map Sml.cells)) (hl : l.length ≤ 20000000000000) :
    Calls Try.prog 8 #[.slice A n c, .int .u8 which, .int .u8 way] w fun e w' => e = .returned (.bool true) ∧ Below w.heap.size w w' := by
  have HMA := Lib.hid (fun (w1 : World) (hb : From w w1) => law_Made A c n l hn hok hnc w1 ((h.below hb (Nat.le_refl _)).more hb.size) hl)
  obtain ⟨t, r0, M, _⟩ := madeF_is hok
  obtain ⟨S, hS1, hS2, hS3⟩ := made_curve hok
  obtain ⟨F, hF⟩ : ∃ F, F = madeF l := ⟨_, rfl⟩
  obtain ⟨L, hL⟩ : ∃ L, L = madeL l := ⟨_, rfl⟩
  obtain ⟨xl, hxl⟩ : ∃ xl, xl = madeW l - 20000 := ⟨_, rfl⟩
  have hMX := M.x
  have hw1 := wrong1 hok
  have hw2 := wrong2 hok
  have hw3 := wrong3 hok
  have hw4 := wrong4 hok
  have hL8 := madeL_len l
  rw [← hF, ← hL] at hw1 hw2 hw3 hw4 hS3
  rw [← hxl] at hw2 hMX
  rw [← hF, ← hxl] at M
  rw [← hF] at hS2
  rw [← hL] at hL8
  have HC1 := Lib.hid hw1
  have HC2 := Lib.hid hw2
  have HC3 := Lib.hid hw3
  have HC4 := Lib.hid hw4
  have HC5 := Lib.hid hS3
  have HM := Lib.hid M
  obtain ⟨m, hm⟩ : ∃ m, m = F.length := ⟨_, rfl⟩
  obtain ⟨q, hq⟩ : ∃ q, q = L.length := ⟨_, rfl⟩
  obtain ⟨nn, hnn⟩ : ∃ nn, nn = F.length - 1 := ⟨_, rfl⟩
  have hlen : F.length = t.length + 3 := by rw [M.eq]; simp
  have hm3 : 3 ≤ m ∧ m ≤ 10 := by have := M.len; omega
  have hMP : ∀ w1, MadePost w1 l = fun e w' => ∃ g c D d, e = .returned (.tuple #[.slice (some ⟨g, 0, none⟩) m c, .slice D q d]) ∧ OwnS w' w1.heap.size 44 5 (some ⟨g, 0, none⟩) c (F.map Frm.cells) ∧
    OwnS w' w1.heap.size 46 2 D d (L.map Wt.cells) ∧ (∀ a, D = some a → a.block ≠ g) ∧ Below w1.heap.size w1 w' := by
    intro w1
    unfold MadePost
    rw [hm, hq, hF, hL]
  have HMP := Lib.hid hMP
  have hF0 : F[0]? = some ⟨-20000, 3000, 1000, 0, 0⟩ := by rw [M.eq]; rfl
  have hFN : F[nn]? = some ⟨xl, 0, 0, 0, 0⟩ := by
    rw [hnn, hlen]
    rw [M.eq]
    show (t ++ [(⟨xl, 0, 0, 0, 0⟩ : Frm)])[t.length]? = _
    rw [List.getElem?_append_right (Nat.le_refl _)]
    simp
  have HF0 := Lib.hid hF0
  have HFN := Lib.hid hFN
  have HLN := Lib.hid (And.intro hm (And.intro hq (And.intro hnn (And.intro hm3 hL8))))
  have wN : IntKind.i64.wrap ((m : Int) - 1) = (nn : Int) := by rw [wrap_i64 (by omega) (by omega)]; omega
  have hnm : (nn : Int) < (m : Int) := by omega
  have hm0 : (0 : Int) < (m : Int) := by omega
  have HXL := Lib.hid hMX
  clear hMP hn hok hl M hS1 hS2 hS3 hF hL hxl hMX hw1 hw2 hw3 hw4 hL8 hF0 hFN hlen hm hq hnn hm3 h
  go_enter Try.func8, Try.ntmps8
  go_upto_region 5 with (first
    | (go_at_call 12; refine (law_awake _).mono ?_; rintro e w1 ⟨rfl, hb1⟩; have C1 : Hid (From w w1) := hb1; clear hb1)
    | (go_at_call 14; refine (HMA.out _ C1.out).mono ?_; rw [HMP.out]; rintro e w2 ⟨g, cf, D, d, rfl, hf2, hl2, hap2, hb2⟩; have HST2 : Hid (LawSt w w2 w1.heap.size g cf D d F L) := ⟨hf2, hl2, hap2, C1.out.trans (hb2.mono C1.out.size), hb2.size, C1.out.size⟩; clear hf2 hl2 hap2 hb2 HMA HMP))
  go_upto_region 6 with (first
    | ((with_reducible refine g_ld 3 ?_); refine wpList_ld rfl _ _ rfl _ rfl _ (own_int HST2.out.fr (i := 0) (j := 0) (cs := Frm.cells ⟨-20000, 3000, 1000, 0, 0⟩) (by rw [List.getElem?_map, HF0.out]; rfl) rfl rfl _ (Below.refl _ _)) ?_)
    | ((with_reducible refine g_ld 3 ?_); refine wpList_ld rfl _ _ rfl _ rfl _ (own_int HST2.out.fr (i := nn) (j := 0) (cs := Frm.cells ⟨xl, 0, 0, 0, 0⟩) (by rw [List.getElem?_map, HFN.out]; rfl) rfl rfl _ (Below.refl _ _)) ?_)
    | (at_builtin; go_loud (refine wpList_append_both rfl _ _ rfl Wt.ei q (by rw [List.length_map]; exact HLN.out.2.1) rfl (HST2.out.wt.alloc _) rfl _ (Rd.new2 w2 46 2 [.int .i64 (-20001), .int .i64 0] rfl) rfl (by simp [Value.oneCell']) (by rw [List.length_map]; have := HLN.out; unfold maxLen; omega) (by rw [List.length_map]; have := HLN.out; omega) (by have := HST2.out.base_; simp; omega) ?_); intro Aa ca wa hA hB hg hb; have HSa : Hid (LawSt w wa w1.heap.size g cf D d F L) := (HST2.out.step ((Below.refl _ _).alloc (Nat.le_refl _) _)).append hB hg hb; have HAa := Lib.hid hA; clear hA hB hg hb)
    | (go_at_call 15; refine (curve_err HC1.out (some ⟨g, 0, none⟩) Aa cf ca m (q + 1) HLN.out.1 (by have := HLN.out; simp; omega) wa HSa.out.fr.rd (by have h1 := HAa.out.rd; rw [List.map_append]; exact h1) (by have := HLN.out; omega) (by have := HLN.out; simp; omega)).mono ?_; rintro e w3 ⟨Ae, ce, rfl, hbe⟩; have HST3 := Lib.hid (HSa.out.step hbe); clear hbe))
  clear HST2 HSa HAa HC1
  go_upto_region 7 with (first
    | ((with_reducible refine g_ld 3 ?_); refine wpList_ld rfl _ _ rfl _ rfl _ (own_int HST3.out.fr (i := 0) (j := 0) (cs := Frm.cells ⟨-20000, 3000, 1000, 0, 0⟩) (by rw [List.getElem?_map, HF0.out]; rfl) rfl rfl _ (Below.refl _ _)) ?_)
    | ((with_reducible refine g_ld 3 ?_); refine wpList_ld rfl _ _ rfl _ rfl _ (own_int HST3.out.fr (i := nn) (j := 0) (cs := Frm.cells ⟨xl, 0, 0, 0, 0⟩) (by rw [List.getElem?_map, HFN.out]; rfl) rfl rfl _ (Below.refl _ _)) ?_)
    | (at_builtin; go_loud (refine wpList_append_both rfl _ _ rfl Wt.ei q (by rw [List.length_map]; exact HLN.out.2.1) rfl (HST3.out.wt.alloc _) rfl _ (Rd.new2 w3 46 2 [.int .i64 xl, .int .i64 0] rfl) rfl (by simp [Value.oneCell']) (by rw [List.length_map]; have := HLN.out; unfold maxLen; omega) (by rw [List.length_map]; have := HLN.out; omega) (by have := HST3.out.base_; simp; omega) ?_); intro Aa ca wa hA hB hg hb; have HSa : Hid (LawSt w wa w1.heap.size g cf D d F L) := (HST3.out.step ((Below.refl _ _).alloc (Nat.le_refl _) _)).append hB hg hb; have HAa := Lib.hid hA; clear hA hB hg hb)
    | (go_at_call 15; refine (curve_err HC2.out (some ⟨g, 0, none⟩) Aa cf ca m (q + 1) HLN.out.1 (by have := HLN.out; simp; omega) wa HSa.out.fr.rd (by have h1 := HAa.out.rd; rw [List.map_append]; exact h1) (by have := HLN.out; omega) (by have := HLN.out; simp; omega)).mono ?_; rintro e w4 ⟨Ae, ce, rfl, hbe⟩; have HST4 := Lib.hid (HSa.out.step hbe); clear hbe))
  clear HST3 HSa HAa HC2
  go_upto_region 8 with (first
    | ((with_reducible refine g_ld 3 ?_); refine wpList_ld rfl _ _ rfl _ rfl _ (own_int HST4.out.fr (i := 0) (j := 0) (cs := Frm.cells ⟨-20000, 3000, 1000, 0, 0⟩) (by rw [List.getElem?_map, HF0.out]; rfl) rfl rfl _ (Below.refl _ _)) ?_)
    | ((with_reducible refine g_ld 3 ?_); refine wpList_ld rfl _ _ rfl _ rfl _ (own_int HST4.out.fr (i := nn) (j := 0) (cs := Frm.cells ⟨xl, 0, 0, 0, 0⟩) (by rw [List.getElem?_map, HFN.out]; rfl) rfl rfl _ (Below.refl _ _)) ?_)
    | (at_builtin; go_loud (refine wpList_append_both rfl _ _ rfl Wt.ei q (by rw [List.length_map]; exact HLN.out.2.1) rfl (HST4.out.wt.alloc _) rfl _ (Rd.new2 w4 46 2 [.int .i64 0, .int .i64 500000000] rfl) rfl (by simp [Value.oneCell']) (by rw [List.length_map]; have := HLN.out; unfold maxLen; omega) (by rw [List.length_map]; have := HLN.out; omega) (by have := HST4.out.base_; simp; omega) ?_); intro Aa ca wa hA hB hg hb; have HSa : Hid (LawSt w wa w1.heap.size g cf D d F L) := (HST4.out.step ((Below.refl _ _).alloc (Nat.le_refl _) _)).append hB hg hb; have HAa := Lib.hid hA; clear hA hB hg hb)
    | (go_at_call 15; refine (curve_err HC3.out (some ⟨g, 0, none⟩) Aa cf ca m (q + 1) HLN.out.1 (by have := HLN.out; simp; omega) wa HSa.out.fr.rd (by have h1 := HAa.out.rd; rw [List.map_append]; exact h1) (by have := HLN.out; omega) (by have := HLN.out; simp; omega)).mono ?_; rintro e w5 ⟨Ae, ce, rfl, hbe⟩; have HST5 := Lib.hid (HSa.out.step hbe); clear hbe))
  clear HST4 HSa HAa HC3
  go_upto_region 9 with (first
    | ((with_reducible refine g_ld 3 ?_); refine wpList_ld rfl _ _ rfl _ rfl _ (own_int HST5.out.fr (i := 0) (j := 0) (cs := Frm.cells ⟨-20000, 3000, 1000, 0, 0⟩) (by rw [List.getElem?_map, HF0.out]; rfl) rfl rfl _ (Below.refl _ _)) ?_)
    | ((with_reducible refine g_ld 3 ?_); refine wpList_ld rfl _ _ rfl _ rfl _ (own_int HST5.out.fr (i := nn) (j := 0) (cs := Frm.cells ⟨xl, 0, 0, 0, 0⟩) (by rw [List.getElem?_map, HFN.out]; rfl) rfl rfl _ (Below.refl _ _)) ?_)
    | (at_builtin; go_loud (refine wpList_append_both rfl _ _ rfl Wt.ei q (by rw [List.length_map]; exact HLN.out.2.1) rfl (HST5.out.wt.alloc _) rfl _ (Rd.new2 w5 46 2 [.int .i64 0, .int .i64 (-1)] rfl) rfl (by simp [Value.oneCell']) (by rw [List.length_map]; have := HLN.out; unfold maxLen; omega) (by rw [List.length_map]; have := HLN.out; omega) (by have := HST5.out.base_; simp; omega) ?_); intro Aa ca wa hA hB hg hb; have HSa : Hid (LawSt w wa w1.heap.size g cf D d F L) := (HST5.out.step ((Below.refl _ _).alloc (Nat.le_refl _) _)).append hB hg hb; have HAa := Lib.hid hA; clear hA hB hg hb)
    | (go_at_call 15; refine (curve_err HC4.out (some ⟨g, 0, none⟩) Aa cf ca m (q + 1) HLN.out.1 (by have := HLN.out; simp; omega) wa HSa.out.fr.rd (by have h1 := HAa.out.rd; rw [List.map_append]; exact h1) (by have := HLN.out; omega) (by have := HLN.out; simp; omega)).mono ?_; rintro e w6 ⟨Ae, ce, rfl, hbe⟩; have HST6 := Lib.hid (HSa.out.step hbe); clear hbe))
  clear HST5 HSa HAa HC4
  go_upto_region 12 with (first
    | (go_at_call 15; refine (curve_good HC5.out (some ⟨g, 0, none⟩) D cf d m q HLN.out.1 HLN.out.2.1 w6 HST6.out.fr.rd HST6.out.wt.rd (by have := HLN.out; omega) (by have := HLN.out; omega)).mono ?_; rintro e w7 ⟨A7, c7, rfl, hr7, hb7, hc7, hfr7⟩; have HFR7 : Hid (∀ a, A7 = some a → a.block ≠ g) := (by intro a ha e; have h1 := hfr7 a ha; have h2 := (HST6.out.fr.lt rfl).2; rw [e] at h1; simp only at h2; omega); have HST7 := Lib.hid (HST6.out.step hb7); have HR7 := Lib.hid hr7; have HC7 := Lib.hid hc7; clear hr7 hb7 hc7 hfr7 HST6))
  have hcl : (curveS F S).length = m := by unfold curveS; simp [HLN.out.1]
  obtain ⟨gc, oc, rfl⟩ : ∃ gc oc, A7 = some ⟨gc, oc, none⟩ := by
    obtain ⟨a, b, h1, _⟩ := HR7.out 0 ((curveS F S)[0]'(by have := HLN.out; omega)).cells (by rw [List.getElem?_map, List.getElem?_eq_getElem (by have := HLN.out; omega)]; rfl)
    exact ⟨a, b, h1⟩
  have HCL := Lib.hid hcl
  have HSF : Hid (∀ s ∈ curveS F S, s.fits) := by
    intro s hs
    unfold curveS at hs
    obtain ⟨j, _, rfl⟩ := List.mem_map.1 hs
    exact str_fits _ _ _ _ _
  obtain ⟨m1, hm1⟩ : ∃ m1, m1 = m - 1 := ⟨_, rfl⟩
  have hOV : overF F ((curveS F S).drop 1) = ([], 2) := over_short (by rw [List.length_drop, hcl, ← HLN.out.1]; have := HLN.out; omega)
  have HOV := Lib.hid hOV
  have hc7 : (m : Int) ≤ (c7 : Int) := by have := HC7.out; omega
  have hc71 : ¬ c7 = 1 := by have := HC7.out; have := HLN.out; omega
  have h1m : (1 : Int) ≤ (m : Int) := by have := HLN.out; omega
  have h1m' : 1 ≤ m := by have := HLN.out; omega
  have hm1i : IntKind.i64.wrap ((m : Int) - 1) = (m : Int) - 1 := by have := HLN.out; exact wrap_i64 (by omega) (by omega)
  have wWh : IntKind.i64.wrap which = which := wrap_i64 (by omega) (by omega)
  obtain ⟨ii, hii⟩ : ∃ ii : Nat, (ii : Int) = which.tmod (m : Int) := ⟨(which.tmod (m : Int)).toNat, by have := tmod_lt (a := which) (b := (m : Int)) hwh.1 (by omega); omega⟩
  have hiim : ii < m := by have := tmod_lt (a := which) (b := (m : Int)) hwh.1 (by omega); omega
  have hiimi : (ii : Int) < (m : Int) := by omega
  have hii' := hii.symm
  have HII := Lib.hid hiim
  have hm00 : ¬ (m : Int) = 0 := by omega
  clear hcl hOV hii hiim hm1i
  go_upto_region 15 with (first
    | (go_at_call 23; refine (over_err HOV.out (some ⟨g, 0, none⟩) (some ⟨gc, oc + 34, none⟩) cf _ m _ HLN.out.1 (by rw [List.length_drop, HCL.out]) w7 HST7.out.fr.rd (by rw [List.map_drop]; exact HR7.out.drop1) (by have := HLN.out; omega) (by rw [List.length_drop, HCL.out]; have := HLN.out; omega) (fun s hs => HSF.out s (List.mem_of_mem_drop hs))).mono ?_; rintro e w8 ⟨A8, c8, rfl, hb8⟩; have HST8 := Lib.hid (HST7.out.step hb8); have HR8 := Lib.hid ((HR7.out.below hb8 (Nat.le_refl _)).more hb8.size); clear hb8 HOV))
  obtain ⟨wy, hwy0⟩ : ∃ wy, way.tmod 10 = wy := ⟨_, rfl⟩
  have hwr : 0 ≤ wy ∧ wy < 10 := by have := tmod_lt (a := way) (b := 10) hwy.1 (by omega); omega
  have hwc : wy = 0 ∨ wy = 1 ∨ wy = 2 ∨ wy = 3 ∨ wy = 4 ∨ wy = 5 ∨ wy = 6 ∨ wy = 7 ∨ wy = 8 ∨ wy = 9 := by omega
  have hiF : ii < F.length := by have := HLN.out; have := HII.out; omega
  have h0F : 0 < F.length := by have := HLN.out; omega
  have hnF : nn < F.length := by have := HLN.out; omega
  have hF00 : F[0] = ⟨-20000, 3000, 1000, 0, 0⟩ := by have h1 := HF0.out; rw [List.getElem?_eq_getElem h0F] at h1; injection h1
  have hFNN : F[nn] = ⟨xl, 0, 0, 0, 0⟩ := by have h1 := HFN.out; rw [List.getElem?_eq_getElem hnF] at h1; injection h1
  have hF1 : F[1]? = some ⟨-10000, 2000, r0, 0, 0⟩ := by rw [HM.out.eq]; rfl
  obtain ⟨fi, hfi⟩ : ∃ fi, F[ii] = fi := ⟨_, rfl⟩
  have hfi2 : F[ii]? = some fi := by rw [List.getElem?_eq_getElem hiF, hfi]
  have hfb := (Frm.ok_nums (okFrom_ok none F HM.out.okAll fi (by rw [← hfi]; exact List.getElem_mem hiF))).2.2.1
  have wS1 : IntKind.i64.wrap (fi.share + 1) = fi.share + 1 := wrap_i64 (by omega) (by omega)
  have wS2 : IntKind.i64.wrap (fi.share - 1) = fi.share - 1 := wrap_i64 (by omega) (by omega)
  have hm1m : (1 : Int) < (m : Int) := by have := HLN.out; omega
  clear hwr hfb
  rcases hwc with rfl | rfl | rfl | rfl | rfl | rfl | rfl | rfl | rfl | rfl
  · have HLDX : Hid True := trivial
    go_upto_region 35 with (first
      | ((with_reducible refine g_ld 3 ?_); refine wpList_ld rfl _ _ rfl _ rfl _ HLDX.out ?_)
      | ((with_reducible refine g_st 3 ?_); refine wpList_stO (i := ii) (j := 1) (v := .int .i64 (-1)) rfl _ _ rfl rfl rfl (by kernel_rfl) rfl rfl HST8.out.fr (by rw [List.length_map]; exact hiF) (by omega) ?_; intro w9 how9 hgr9; rw [set_cells hiF _ ({ F[ii] with light := -1 }) rfl] at how9))
    obtain ⟨F9, HBAD, HM9, HST9⟩ : ∃ F9, Hid (rightF F9 = false) ∧ Hid (m = F9.length) ∧ Hid (LawSt w w9 w1.heap.size g cf D d F9 L) := ⟨_, bad_light F ii hiF, by unfold Hid; rw [List.length_set]; exact HLN.out.1, HST8.out.store how9 hgr9⟩
    have HR9 := Lib.hid (HR8.out.grown hgr9 HFR7.out)
    clear how9 hgr9
    try simp only [Act.put]
    clear HR7 HR8 HST7 HST8
    go_wp2_with (first
      | (go_at_call 15; refine (curve_err (curve_bad (ws := []) HBAD.out) (some ⟨g, 0, none⟩) none cf 0 _ 0 HM9.out rfl _ HST9.out.fr.rd (Rd.nil _ _ _ _) (by have := HM9.out; have := HLN.out; omega) (by simp)).mono ?_; rintro e w10 ⟨A10, c10, rfl, hb10⟩; have HST10 := Lib.hid (HST9.out.step hb10); have HR10 := Lib.hid ((HR9.out.below hb10 (Nat.le_refl _)).more hb10.size); clear hb10)
      | (go_at_call 23; refine (over_err (over_bad HBAD.out) (some ⟨g, 0, none⟩) (some ⟨gc, oc, none⟩) cf c7 _ m HM9.out HCL.out.symm _ HST10.out.fr.rd HR10.out (by have := HM9.out; have := HLN.out; omega) (by rw [HCL.out]; have := HLN.out; omega) HSF.out).mono ?_; rintro e w11 ⟨A11, c11, rfl, hb11⟩; have HST11 := Lib.hid (HST10.out.step hb11); clear hb11)
      | (go_at_call 17; refine (st_Right (some ⟨g, 0, none⟩) cf _ F9 HM9.out _ HST11.out.fr.rd (by have := HM9.out; have := HLN.out; omega)).mono ?_; rw [HBAD.out]; rintro e w12 ⟨rfl, hb12⟩; have HST12 := Lib.hid (HST11.out.step hb12); clear hb12))
    go_ret
    exact ⟨rfl, HST12.out.from_⟩
  · have HLDX : Hid ((loadVar 3 ⟨g, 6, none⟩).run Try.prog w8 = .ok (.int .i64 2000) w8) := own_int HST8.out.fr (i := 1) (j := 1) (cs := Frm.cells ⟨-10000, 2000, r0, 0, 0⟩) (by rw [List.getElem?_map, hF1]; rfl) rfl rfl _ (Below.refl _ _)
    go_upto_region 35 with (first
      | ((with_reducible refine g_ld 3 ?_); refine wpList_ld rfl _ _ rfl _ rfl _ HLDX.out ?_)
      | ((with_reducible refine g_st 3 ?_); refine wpList_stO (i := 0) (j := 1) (v := .int .i64 (499998001)) rfl _ _ rfl rfl rfl (by kernel_rfl) rfl rfl HST8.out.fr (by rw [List.length_map]; exact h0F) (by omega) ?_; intro w9 how9 hgr9; rw [set_cells h0F _ (⟨-20000, 499998001, 1000, 0, 0⟩) (by rw [hF00]; rfl)] at how9))
    obtain ⟨F9, HBAD, HM9, HST9⟩ : ∃ F9, Hid (rightF F9 = false) ∧ Hid (m = F9.length) ∧ Hid (LawSt w w9 w1.heap.size g cf D d F9 L) := ⟨_, (by unfold Hid; rw [HM.out.eq]; exact bad_lights ⟨-10000, 2000, r0, 0, 0⟩ _ (by show (2000 : Int) ≤ 500000000; omega) _ rfl (by show (0 : Int) < 2000; omega)), by unfold Hid; rw [List.length_set]; exact HLN.out.1, HST8.out.store how9 hgr9⟩
    have HR9 := Lib.hid (HR8.out.grown hgr9 HFR7.out)
    clear how9 hgr9
    try simp only [Act.put]
    clear HR7 HR8 HST7 HST8
    go_wp2_with (first
      | (go_at_call 15; refine (curve_err (curve_bad (ws := []) HBAD.out) (some ⟨g, 0, none⟩) none cf 0 _ 0 HM9.out rfl _ HST9.out.fr.rd (Rd.nil _ _ _ _) (by have := HM9.out; have := HLN.out; omega) (by simp)).mono ?_; rintro e w10 ⟨A10, c10, rfl, hb10⟩; have HST10 := Lib.hid (HST9.out.step hb10); have HR10 := Lib.hid ((HR9.out.below hb10 (Nat.le_refl _)).more hb10.size); clear hb10)
      | (go_at_call 23; refine (over_err (over_bad HBAD.out) (some ⟨g, 0, none⟩) (some ⟨gc, oc, none⟩) cf c7 _ m HM9.out HCL.out.symm _ HST10.out.fr.rd HR10.out (by have := HM9.out; have := HLN.out; omega) (by rw [HCL.out]; have := HLN.out; omega) HSF.out).mono ?_; rintro e w11 ⟨A11, c11, rfl, hb11⟩; have HST11 := Lib.hid (HST10.out.step hb11); clear hb11)
      | (go_at_call 17; refine (st_Right (some ⟨g, 0, none⟩) cf _ F9 HM9.out _ HST11.out.fr.rd (by have := HM9.out; have := HLN.out; omega)).mono ?_; rw [HBAD.out]; rintro e w12 ⟨rfl, hb12⟩; have HST12 := Lib.hid (HST11.out.step hb12); clear hb12))
    go_ret
    exact ⟨rfl, HST12.out.from_⟩
  · have HLDX : Hid ((loadVar 3 ⟨g, ii * 5 + 2, none⟩).run Try.prog w8 = .ok (.int .i64 fi.share) w8) := own_int HST8.out.fr (i := ii) (j := 2) (cs := fi.cells) (by rw [List.getElem?_map, hfi2]; rfl) rfl rfl _ (Below.refl _ _)
    go_upto_region 35 with (first
      | ((with_reducible refine g_ld 3 ?_); refine wpList_ld rfl _ _ rfl _ rfl _ HLDX.out ?_)
      | ((with_reducible refine g_st 3 ?_); refine wpList_stO (i := ii) (j := 2) (v := .int .i64 (fi.share + 1)) rfl _ _ rfl rfl rfl (by kernel_rfl) rfl rfl HST8.out.fr (by rw [List.length_map]; exact hiF) (by omega) ?_; intro w9 how9 hgr9; rw [set_cells hiF _ ({ fi with share := fi.share + 1 }) (by rw [hfi]; rfl)] at how9))
    obtain ⟨F9, HBAD, HM9, HST9⟩ : ∃ F9, Hid (rightF F9 = false) ∧ Hid (m = F9.length) ∧ Hid (LawSt w w9 w1.heap.size g cf D d F9 L) := ⟨_, (by have h1 := bad_share F ii hiF HM.out.right 1 (by omega); rw [hfi] at h1; exact h1), by unfold Hid; rw [List.length_set]; exact HLN.out.1, HST8.out.store how9 hgr9⟩
    have HR9 := Lib.hid (HR8.out.grown hgr9 HFR7.out)
    clear how9 hgr9
    try simp only [Act.put]
    clear HR7 HR8 HST7 HST8
    go_wp2_with (first
      | (go_at_call 15; refine (curve_err (curve_bad (ws := []) HBAD.out) (some ⟨g, 0, none⟩) none cf 0 _ 0 HM9.out rfl _ HST9.out.fr.rd (Rd.nil _ _ _ _) (by have := HM9.out; have := HLN.out; omega) (by simp)).mono ?_; rintro e w10 ⟨A10, c10, rfl, hb10⟩; have HST10 := Lib.hid (HST9.out.step hb10); have HR10 := Lib.hid ((HR9.out.below hb10 (Nat.le_refl _)).more hb10.size); clear hb10)
      | (go_at_call 23; refine (over_err (over_bad HBAD.out) (some ⟨g, 0, none⟩) (some ⟨gc, oc, none⟩) cf c7 _ m HM9.out HCL.out.symm _ HST10.out.fr.rd HR10.out (by have := HM9.out; have := HLN.out; omega) (by rw [HCL.out]; have := HLN.out; omega) HSF.out).mono ?_; rintro e w11 ⟨A11, c11, rfl, hb11⟩; have HST11 := Lib.hid (HST10.out.step hb11); clear hb11)
      | (go_at_call 17; refine (st_Right (some ⟨g, 0, none⟩) cf _ F9 HM9.out _ HST11.out.fr.rd (by have := HM9.out; have := HLN.out; omega)).mono ?_; rw [HBAD.out]; rintro e w12 ⟨rfl, hb12⟩; have HST12 := Lib.hid (HST11.out.step hb12); clear hb12))
    go_ret
    exact ⟨rfl, HST12.out.from_⟩
  · have HLDX : Hid ((loadVar 3 ⟨g, ii * 5 + 2, none⟩).run Try.prog w8 = .ok (.int .i64 fi.share) w8) := own_int HST8.out.fr (i := ii) (j := 2) (cs := fi.cells) (by rw [List.getElem?_map, hfi2]; rfl) rfl rfl _ (Below.refl _ _)
    go_upto_region 35 with (first
      | ((with_reducible refine g_ld 3 ?_); refine wpList_ld rfl _ _ rfl _ rfl _ HLDX.out ?_)
      | ((with_reducible refine g_st 3 ?_); refine wpList_stO (i := ii) (j := 2) (v := .int .i64 (fi.share - 1)) rfl _ _ rfl rfl rfl (by kernel_rfl) rfl rfl HST8.out.fr (by rw [List.length_map]; exact hiF) (by omega) ?_; intro w9 how9 hgr9; rw [set_cells hiF _ ({ fi with share := fi.share - 1 }) (by rw [hfi]; rfl)] at how9))
    obtain ⟨F9, HBAD, HM9, HST9⟩ : ∃ F9, Hid (rightF F9 = false) ∧ Hid (m = F9.length) ∧ Hid (LawSt w w9 w1.heap.size g cf D d F9 L) := ⟨_, (by have h1 := bad_share F ii hiF HM.out.right (-1) (by omega); rw [hfi] at h1; exact h1), by unfold Hid; rw [List.length_set]; exact HLN.out.1, HST8.out.store how9 hgr9⟩
    have HR9 := Lib.hid (HR8.out.grown hgr9 HFR7.out)
    clear how9 hgr9
    try simp only [Act.put]
    clear HR7 HR8 HST7 HST8
    go_wp2_with (first
      | (go_at_call 15; refine (curve_err (curve_bad (ws := []) HBAD.out) (some ⟨g, 0, none⟩) none cf 0 _ 0 HM9.out rfl _ HST9.out.fr.rd (Rd.nil _ _ _ _) (by have := HM9.out; have := HLN.out; omega) (by simp)).mono ?_; rintro e w10 ⟨A10, c10, rfl, hb10⟩; have HST10 := Lib.hid (HST9.out.step hb10); have HR10 := Lib.hid ((HR9.out.below hb10 (Nat.le_refl _)).more hb10.size); clear hb10)
      | (go_at_call 23; refine (over_err (over_bad HBAD.out) (some ⟨g, 0, none⟩) (some ⟨gc, oc, none⟩) cf c7 _ m HM9.out HCL.out.symm _ HST10.out.fr.rd HR10.out (by have := HM9.out; have := HLN.out; omega) (by rw [HCL.out]; have := HLN.out; omega) HSF.out).mono ?_; rintro e w11 ⟨A11, c11, rfl, hb11⟩; have HST11 := Lib.hid (HST10.out.step hb11); clear hb11)
      | (go_at_call 17; refine (st_Right (some ⟨g, 0, none⟩) cf _ F9 HM9.out _ HST11.out.fr.rd (by have := HM9.out; have := HLN.out; omega)).mono ?_; rw [HBAD.out]; rintro e w12 ⟨rfl, hb12⟩; have HST12 := Lib.hid (HST11.out.step hb12); clear hb12))
    go_ret
    exact ⟨rfl, HST12.out.from_⟩
  · have HLDX : Hid True := trivial
    go_upto_region 35 with (first
      | ((with_reducible refine g_ld 3 ?_); refine wpList_ld rfl _ _ rfl _ rfl _ HLDX.out ?_)
      | ((with_reducible refine g_st 3 ?_); refine wpList_stO (i := ii) (j := 3) (v := .int .i64 (-1)) rfl _ _ rfl rfl rfl (by kernel_rfl) rfl rfl HST8.out.fr (by rw [List.length_map]; exact hiF) (by omega) ?_; intro w9 how9 hgr9; rw [set_cells hiF _ ({ F[ii] with shear := -1 }) rfl] at how9))
    obtain ⟨F9, HBAD, HM9, HST9⟩ : ∃ F9, Hid (rightF F9 = false) ∧ Hid (m = F9.length) ∧ Hid (LawSt w w9 w1.heap.size g cf D d F9 L) := ⟨_, bad_shear F ii hiF, by unfold Hid; rw [List.length_set]; exact HLN.out.1, HST8.out.store how9 hgr9⟩
    have HR9 := Lib.hid (HR8.out.grown hgr9 HFR7.out)
    clear how9 hgr9
    try simp only [Act.put]
    clear HR7 HR8 HST7 HST8
    go_wp2_with (first
      | (go_at_call 15; refine (curve_err (curve_bad (ws := []) HBAD.out) (some ⟨g, 0, none⟩) none cf 0 _ 0 HM9.out rfl _ HST9.out.fr.rd (Rd.nil _ _ _ _) (by have := HM9.out; have := HLN.out; omega) (by simp)).mono ?_; rintro e w10 ⟨A10, c10, rfl, hb10⟩; have HST10 := Lib.hid (HST9.out.step hb10); have HR10 := Lib.hid ((HR9.out.below hb10 (Nat.le_refl _)).more hb10.size); clear hb10)
      | (go_at_call 23; refine (over_err (over_bad HBAD.out) (some ⟨g, 0, none⟩) (some ⟨gc, oc, none⟩) cf c7 _ m HM9.out HCL.out.symm _ HST10.out.fr.rd HR10.out (by have := HM9.out; have := HLN.out; omega) (by rw [HCL.out]; have := HLN.out; omega) HSF.out).mono ?_; rintro e w11 ⟨A11, c11, rfl, hb11⟩; have HST11 := Lib.hid (HST10.out.step hb11); clear hb11)
      | (go_at_call 17; refine (st_Right (some ⟨g, 0, none⟩) cf _ F9 HM9.out _ HST11.out.fr.rd (by have := HM9.out; have := HLN.out; omega)).mono ?_; rw [HBAD.out]; rintro e w12 ⟨rfl, hb12⟩; have HST12 := Lib.hid (HST11.out.step hb12); clear hb12))
    go_ret
    exact ⟨rfl, HST12.out.from_⟩
  · have HLDX : Hid True := trivial
    go_upto_region 35 with (first
      | ((with_reducible refine g_ld 3 ?_); refine wpList_ld rfl _ _ rfl _ rfl _ HLDX.out ?_)
      | ((with_reducible refine g_st 3 ?_); refine wpList_stO (i := ii) (j := 4) (v := .int .i64 (1000000000000001)) rfl _ _ rfl rfl rfl (by kernel_rfl) rfl rfl HST8.out.fr (by rw [List.length_map]; exact hiF) (by omega) ?_; intro w9 how9 hgr9; rw [set_cells hiF _ ({ F[ii] with bend := 1000000000000001 }) rfl] at how9))
    obtain ⟨F9, HBAD, HM9, HST9⟩ : ∃ F9, Hid (rightF F9 = false) ∧ Hid (m = F9.length) ∧ Hid (LawSt w w9 w1.heap.size g cf D d F9 L) := ⟨_, bad_bend F ii hiF, by unfold Hid; rw [List.length_set]; exact HLN.out.1, HST8.out.store how9 hgr9⟩
    have HR9 := Lib.hid (HR8.out.grown hgr9 HFR7.out)
    clear how9 hgr9
    try simp only [Act.put]
    clear HR7 HR8 HST7 HST8
    go_wp2_with (first
      | (go_at_call 15; refine (curve_err (curve_bad (ws := []) HBAD.out) (some ⟨g, 0, none⟩) none cf 0 _ 0 HM9.out rfl _ HST9.out.fr.rd (Rd.nil _ _ _ _) (by have := HM9.out; have := HLN.out; omega) (by simp)).mono ?_; rintro e w10 ⟨A10, c10, rfl, hb10⟩; have HST10 := Lib.hid (HST9.out.step hb10); have HR10 := Lib.hid ((HR9.out.below hb10 (Nat.le_refl _)).more hb10.size); clear hb10)
      | (go_at_call 23; refine (over_err (over_bad HBAD.out) (some ⟨g, 0, none⟩) (some ⟨gc, oc, none⟩) cf c7 _ m HM9.out HCL.out.symm _ HST10.out.fr.rd HR10.out (by have := HM9.out; have := HLN.out; omega) (by rw [HCL.out]; have := HLN.out; omega) HSF.out).mono ?_; rintro e w11 ⟨A11, c11, rfl, hb11⟩; have HST11 := Lib.hid (HST10.out.step hb11); clear hb11)
      | (go_at_call 17; refine (st_Right (some ⟨g, 0, none⟩) cf _ F9 HM9.out _ HST11.out.fr.rd (by have := HM9.out; have := HLN.out; omega)).mono ?_; rw [HBAD.out]; rintro e w12 ⟨rfl, hb12⟩; have HST12 := Lib.hid (HST11.out.step hb12); clear hb12))
    go_ret
    exact ⟨rfl, HST12.out.from_⟩
  · obtain ⟨n2, hn2⟩ : ∃ n2, n2 + 1 = nn := ⟨nn - 1, by have := HLN.out; omega⟩
    have hn2F : n2 < F.length := by omega
    obtain ⟨x2, hx2⟩ : ∃ x2, x2 = F[n2].x := ⟨_, rfl⟩
    have wN2 : IntKind.i64.wrap ((nn : Int) - 1) = (n2 : Int) := by have := HLN.out; rw [wrap_i64 (by omega) (by omega)]; omega
    have hn2m : (n2 : Int) < (m : Int) := by omega
    have HLDX : Hid ((loadVar 3 ⟨g, n2 * 5, none⟩).run Try.prog w8 = .ok (.int .i64 x2) w8) := own_int HST8.out.fr (i := n2) (j := 0) (cs := F[n2].cells) (by rw [List.getElem?_map, List.getElem?_eq_getElem hn2F]; rfl) (by rw [hx2]; rfl) rfl _ (Below.refl _ _)
    have HX2 := Lib.hid hx2
    have HN2 := Lib.hid hn2
    clear hx2 hn2
    go_upto_region 35 with (first
      | ((with_reducible refine g_ld 3 ?_); refine wpList_ld rfl _ _ rfl _ rfl _ HLDX.out ?_)
      | ((with_reducible refine g_st 3 ?_); refine wpList_stO0 (i := nn) (v := .int .i64 x2) rfl _ _ rfl rfl rfl (by kernel_rfl) rfl rfl HST8.out.fr (by rw [List.length_map]; exact hnF) (by omega) ?_; intro w9 how9 hgr9; rw [set_cells hnF _ ⟨x2, 0, 0, 0, 0⟩ (by rw [hFNN]; rfl)] at how9))
    obtain ⟨F9, HBAD, HM9, HST9⟩ : ∃ F9, Hid (rightF F9 = false) ∧ Hid (m = F9.length) ∧ Hid (LawSt w w9 w1.heap.size g cf D d F9 L) := ⟨_, bad_last2 (by have := HLN.out; omega) HN2.out ⟨x2, 0, 0, 0, 0⟩ HX2.out, by unfold Hid; rw [List.length_set]; exact HLN.out.1, HST8.out.store how9 hgr9⟩
    have HR9 := Lib.hid (HR8.out.grown hgr9 HFR7.out)
    clear how9 hgr9
    try simp only [Act.put]
    clear HR7 HR8 HST7 HST8
    go_wp2_with (first
      | (go_at_call 15; refine (curve_err (curve_bad (ws := []) HBAD.out) (some ⟨g, 0, none⟩) none cf 0 _ 0 HM9.out rfl _ HST9.out.fr.rd (Rd.nil _ _ _ _) (by have := HM9.out; have := HLN.out; omega) (by simp)).mono ?_; rintro e w10 ⟨A10, c10, rfl, hb10⟩; have HST10 := Lib.hid (HST9.out.step hb10); have HR10 := Lib.hid ((HR9.out.below hb10 (Nat.le_refl _)).more hb10.size); clear hb10)
      | (go_at_call 23; refine (over_err (over_bad HBAD.out) (some ⟨g, 0, none⟩) (some ⟨gc, oc, none⟩) cf c7 _ m HM9.out HCL.out.symm _ HST10.out.fr.rd HR10.out (by have := HM9.out; have := HLN.out; omega) (by rw [HCL.out]; have := HLN.out; omega) HSF.out).mono ?_; rintro e w11 ⟨A11, c11, rfl, hb11⟩; have HST11 := Lib.hid (HST10.out.step hb11); clear hb11)
      | (go_at_call 17; refine (st_Right (some ⟨g, 0, none⟩) cf _ F9 HM9.out _ HST11.out.fr.rd (by have := HM9.out; have := HLN.out; omega)).mono ?_; rw [HBAD.out]; rintro e w12 ⟨rfl, hb12⟩; have HST12 := Lib.hid (HST11.out.step hb12); clear hb12))
    go_ret
    exact ⟨rfl, HST12.out.from_⟩
  · have HLDX : Hid True := trivial
    go_upto_region 35 with (first
      | ((with_reducible refine g_ld 3 ?_); refine wpList_ld rfl _ _ rfl _ rfl _ HLDX.out ?_)
      | ((with_reducible refine g_st 3 ?_); refine wpList_stO (i := nn) (j := 1) (v := .int .i64 (1)) rfl _ _ rfl rfl rfl (by kernel_rfl) rfl rfl HST8.out.fr (by rw [List.length_map]; exact hnF) (by omega) ?_; intro w9 how9 hgr9; rw [set_cells hnF _ (⟨xl, 1, 0, 0, 0⟩) (by rw [hFNN]; rfl)] at how9))
    obtain ⟨F9, HBAD, HM9, HST9⟩ : ∃ F9, Hid (rightF F9 = false) ∧ Hid (m = F9.length) ∧ Hid (LawSt w w9 w1.heap.size g cf D d F9 L) := ⟨_, bad_lastlight2 (by have := HLN.out; omega) ⟨xl, 1, 0, 0, 0⟩ rfl, by unfold Hid; rw [List.length_set]; exact HLN.out.1, HST8.out.store how9 hgr9⟩
    have HR9 := Lib.hid (HR8.out.grown hgr9 HFR7.out)
    clear how9 hgr9
    try simp only [Act.put]
    clear HR7 HR8 HST7 HST8
    go_wp2_with (first
      | (go_at_call 15; refine (curve_err (curve_bad (ws := []) HBAD.out) (some ⟨g, 0, none⟩) none cf 0 _ 0 HM9.out rfl _ HST9.out.fr.rd (Rd.nil _ _ _ _) (by have := HM9.out; have := HLN.out; omega) (by simp)).mono ?_; rintro e w10 ⟨A10, c10, rfl, hb10⟩; have HST10 := Lib.hid (HST9.out.step hb10); have HR10 := Lib.hid ((HR9.out.below hb10 (Nat.le_refl _)).more hb10.size); clear hb10)
      | (go_at_call 23; refine (over_err (over_bad HBAD.out) (some ⟨g, 0, none⟩) (some ⟨gc, oc, none⟩) cf c7 _ m HM9.out HCL.out.symm _ HST10.out.fr.rd HR10.out (by have := HM9.out; have := HLN.out; omega) (by rw [HCL.out]; have := HLN.out; omega) HSF.out).mono ?_; rintro e w11 ⟨A11, c11, rfl, hb11⟩; have HST11 := Lib.hid (HST10.out.step hb11); clear hb11)
      | (go_at_call 17; refine (st_Right (some ⟨g, 0, none⟩) cf _ F9 HM9.out _ HST11.out.fr.rd (by have := HM9.out; have := HLN.out; omega)).mono ?_; rw [HBAD.out]; rintro e w12 ⟨rfl, hb12⟩; have HST12 := Lib.hid (HST11.out.step hb12); clear hb12))
    go_ret
    exact ⟨rfl, HST12.out.from_⟩
  · have HLDX : Hid True := trivial
    go_upto_region 35 with (first
      | ((with_reducible refine g_ld 3 ?_); refine wpList_ld rfl _ _ rfl _ rfl _ HLDX.out ?_)
      | ((with_reducible refine g_st 3 ?_); refine wpList_stO (i := 0) (j := 0) (v := .int .i64 (-500001)) rfl _ _ rfl rfl rfl (by kernel_rfl) rfl rfl HST8.out.fr (by rw [List.length_map]; exact h0F) (by omega) ?_; intro w9 how9 hgr9; rw [set_cells h0F _ (⟨-500001, 3000, 1000, 0, 0⟩) (by rw [hF00]; rfl)] at how9))
    obtain ⟨F9, HBAD, HM9, HST9⟩ : ∃ F9, Hid (rightF F9 = false) ∧ Hid (m = F9.length) ∧ Hid (LawSt w w9 w1.heap.size g cf D d F9 L) := ⟨_, not_ok (List.mem_set h0F _) (by decide), by unfold Hid; rw [List.length_set]; exact HLN.out.1, HST8.out.store how9 hgr9⟩
    have HR9 := Lib.hid (HR8.out.grown hgr9 HFR7.out)
    clear how9 hgr9
    try simp only [Act.put]
    clear HR7 HR8 HST7 HST8
    go_wp2_with (first
      | (go_at_call 15; refine (curve_err (curve_bad (ws := []) HBAD.out) (some ⟨g, 0, none⟩) none cf 0 _ 0 HM9.out rfl _ HST9.out.fr.rd (Rd.nil _ _ _ _) (by have := HM9.out; have := HLN.out; omega) (by simp)).mono ?_; rintro e w10 ⟨A10, c10, rfl, hb10⟩; have HST10 := Lib.hid (HST9.out.step hb10); have HR10 := Lib.hid ((HR9.out.below hb10 (Nat.le_refl _)).more hb10.size); clear hb10)
      | (go_at_call 23; refine (over_err (over_bad HBAD.out) (some ⟨g, 0, none⟩) (some ⟨gc, oc, none⟩) cf c7 _ m HM9.out HCL.out.symm _ HST10.out.fr.rd HR10.out (by have := HM9.out; have := HLN.out; omega) (by rw [HCL.out]; have := HLN.out; omega) HSF.out).mono ?_; rintro e w11 ⟨A11, c11, rfl, hb11⟩; have HST11 := Lib.hid (HST10.out.step hb11); clear hb11)
      | (go_at_call 17; refine (st_Right (some ⟨g, 0, none⟩) cf _ F9 HM9.out _ HST11.out.fr.rd (by have := HM9.out; have := HLN.out; omega)).mono ?_; rw [HBAD.out]; rintro e w12 ⟨rfl, hb12⟩; have HST12 := Lib.hid (HST11.out.step hb12); clear hb12))
    go_ret
    exact ⟨rfl, HST12.out.from_⟩
  · have hcf : m ≤ cf := by have h1 := HST8.out.fr.cap.1; rw [List.length_map] at h1; have := HLN.out; omega
    have hcf2 : (2 : Int) ≤ (cf : Int) := by have := HLN.out; omega
    go_upto_region 35 with fail
    have h2 : 2 ≤ F.length := by have := HLN.out; omega
    obtain ⟨F9, HBAD, HM9, HST9⟩ : ∃ F9, Hid (rightF F9 = false) ∧ Hid (2 = F9.length) ∧ Hid (LawSt w w8 w1.heap.size g cf D d F9 L) := ⟨F.take 2, bad_two F, by unfold Hid; rw [List.length_take]; omega, by
      have h := HST8.out
      have h1 := h.fr
      rw [← List.take_append_drop 2 F, List.map_append] at h1
      exact ⟨h1.front (by simp), h.wt, h.apart, h.from_, h.base_, h.w0b⟩⟩
    have HR9 := Lib.hid HR8.out
    try simp only [Act.put]
    clear HR7 HR8 HST7 HST8
    go_wp2_with (first
      | (go_at_call 15; refine (curve_err (curve_bad (ws := []) HBAD.out) (some ⟨g, 0, none⟩) none cf 0 _ 0 HM9.out rfl _ HST9.out.fr.rd (Rd.nil _ _ _ _) (by have := HM9.out; have := HLN.out; omega) (by simp)).mono ?_; rintro e w10 ⟨A10, c10, rfl, hb10⟩; have HST10 := Lib.hid (HST9.out.step hb10); have HR10 := Lib.hid ((HR9.out.below hb10 (Nat.le_refl _)).more hb10.size); clear hb10)
      | (go_at_call 23; refine (over_err (over_bad HBAD.out) (some ⟨g, 0, none⟩) (some ⟨gc, oc, none⟩) cf c7 _ m HM9.out HCL.out.symm _ HST10.out.fr.rd HR10.out (by have := HM9.out; have := HLN.out; omega) (by rw [HCL.out]; have := HLN.out; omega) HSF.out).mono ?_; rintro e w11 ⟨A11, c11, rfl, hb11⟩; have HST11 := Lib.hid (HST10.out.step hb11); clear hb11)
      | (go_at_call 17; refine (st_Right (some ⟨g, 0, none⟩) cf _ F9 HM9.out _ HST11.out.fr.rd (by have := HM9.out; have := HLN.out; omega)).mono ?_; rw [HBAD.out]; rintro e w12 ⟨rfl, hb12⟩; have HST12 := Lib.hid (HST11.out.step hb12); clear hb12))
    go_ret
    exact ⟨rfl, HST12.out.from_⟩
end Go.Proofs.Ythlbcijlbgbooaa
