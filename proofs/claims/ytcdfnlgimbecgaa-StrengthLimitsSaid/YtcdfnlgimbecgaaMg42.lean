/-
  twistlocklaw18: what the laws own behind Made; calls of Curve that do not fail; stresses read.
  StrengthEnds, plain: all that the law meets at a section, in one bundle.
  What single operations give: known operands, a known value.
-/
import Derived.Test.YtcdfnlgimbecgaaMg4
import Derived.Test.YtcdfnlgimbecgaaMg39
import Derived.Test.YtcdfnlgimbecgaaMg41

namespace Go.Proofs.Ytcdfnlgimbecgaa
open Go.RowKit

theorem Rd.drop1 {w : World} {B size g off : Nat} {css : List (List Value)} (h : Rd w B size (some ⟨g, off, none⟩) css) : Rd w B size (some ⟨g, off + size, none⟩) (css.drop 1) := by
  intro k cs hk
  rw [List.getElem?_drop] at hk
  obtain ⟨b, o, e, hlt, hl, hc⟩ := h (1 + k) cs hk
  simp only [Option.some.injEq, Addr.mk.injEq, and_true] at e
  obtain ⟨rfl, rfl⟩ := e
  refine ⟨g, off + size, rfl, hlt, hl, fun j u hu => ?_⟩
  have h1 := hc j u hu
  have e2 : off + (1 + k) * size + j = off + size + k * size + j := by rw [Nat.add_mul, Nat.one_mul]; omega
  rw [e2] at h1
  exact h1
theorem str_fits (l : List Frm) (S : List Sec) (W : Int) (k : FracV) (j : Nat) : (strF l S W k j).fits := ⟨subL_fits _ _, divL_fits _ _⟩

/-- the state of the law: its frames and weights -/
structure LawSt (w0 w : World) (base g cf : Nat) (D : Option Addr) (d : Nat) (F : List Frm) (L : List Wt) : Prop where
  fr : OwnS w base 44 5 (some ⟨g, 0, none⟩) cf (F.map Frm.cells)
  wt : OwnS w base 46 2 D d (L.map Wt.cells)
  apart : ∀ a, D = some a → a.block ≠ g
  from_ : Below w0.heap.size w0 w
  base_ : base ≤ w.heap.size
  w0b : w0.heap.size ≤ base
theorem LawSt.step {w0 w w' : World} {base g cf d : Nat} {D : Option Addr} {F : List Frm} {L : List Wt} (h : LawSt w0 w base g cf D d F L) (hb : From w w') : LawSt w0 w' base g cf D d F L :=
  ⟨h.fr.below hb (Nat.le_refl _), h.wt.below hb (Nat.le_refl _), h.apart, h.from_.trans (hb.mono h.from_.size), Nat.le_trans h.base_ hb.size, h.w0b⟩
theorem LawSt.append {w0 w w' : World} {base g cf d : Nat} {D : Option Addr} {F : List Frm} {L : List Wt} (h : LawSt w0 w base g cf D d F L) (h1 : OwnS w' base 46 2 D d (L.map Wt.cells)) (h2 : w.grownBy w' (D.map (·.block))) (h3 : Below base w w') : LawSt w0 w' base g cf D d F L := by
  refine ⟨h.fr.keep fun a ha => ?_, h1, h.apart, h.from_.trans (h3.mono h.w0b), Nat.le_trans h.base_ h2.size, h.w0b⟩
  refine h2.block _ (h.fr.lt ha).2 ?_
  injection ha with ha
  subst ha
  intro e
  cases D with
  | none => cases e
  | some q => injection e with e; exact h.apart q rfl e.symm
theorem LawSt.store {w0 w w' : World} {base g cf d : Nat} {D : Option Addr} {F F' : List Frm} {L : List Wt} (h : LawSt w0 w base g cf D d F L) (h1 : OwnS w' base 44 5 (some ⟨g, 0, none⟩) cf (F'.map Frm.cells)) (h2 : w.grownBy w' (some g)) : LawSt w0 w' base g cf D d F' L := by
  have hg := (h.fr.lt rfl).1
  refine ⟨h1, h.wt.keep fun a ha => h2.block _ (h.wt.lt ha).2 (fun e => ?_), h.apart, h.from_.grown h2 h.from_.size (fun q hq => ?_), Nat.le_trans h.base_ h2.size, h.w0b⟩
  · injection e with e
    exact h.apart a ha e
  · injection hq with hq
    have := h.w0b
    simp only at hg
    omega
theorem Rd.grown {w w' : World} {g size : Nat} {A : Option Addr} {css : List (List Value)} (h : Rd w w.heap.size size A css) (h2 : w.grownBy w' (some g)) (hA : ∀ a, A = some a → a.block ≠ g) : Rd w' w'.heap.size size A css := by
  intro k cs hk
  obtain ⟨b, off, e, hlt, hl, hc⟩ := h k cs hk
  refine ⟨b, off, e, Nat.lt_of_lt_of_le hlt h2.size, hl, fun j u hu => ?_⟩
  have h3 := hc j u hu
  have h4 : w'.heap[b]? = w.heap[b]? := h2.block b hlt (fun e2 => by injection e2 with e2; exact hA _ e e2)
  rw [← h3]
  unfold World.cell?
  simp only [h4]

theorem wpList_stO0 {P : Program} {w : World} {ops : Array Oper} {rest : List Oper} {o : Oper} {a : Act} {Q : Exit → Act → World → Prop} {T base e size c g i : Nat} {css : List (List Value)} {v : Value} (hgd : o.guard = none) (x y : Operand) (ho : o.op = .store T x y)
    (hx : a.eval x = .pointer (some ⟨g, i * size, none⟩)) (hy : a.eval y = v) (hsz : (P.info? T).map (·.size) = some 1) (hv : v.cells.toList = [v]) (h1 : v.oneCell' = true) (hown : OwnS w base e size (some ⟨g, 0, none⟩) c css) (hi : i < css.length) (hj : 0 < size)
    (h : ∀ w', OwnS w' base e size (some ⟨g, 0, none⟩) c (css.set i ((css[i]).set 0 v)) → w.grownBy w' (some g) → wpList P ops Q rest (a.put o.dst undef) w') : wpList P ops Q (o :: rest) a w :=
  wpList_stO (i := i) (j := 0) hgd x y ho (by rw [hx, Nat.add_zero]) hy hsz hv h1 hown hi hj h
/-- a call of Curve that does not fail -/
theorem curve_good {F : List Frm} {ws : List Wt} {S : List Sec} (hr : curveF F ws = (curveS F S, 0)) (A D : Option Addr) (c d n m : Nat) (hn : n = F.length) (hm : m = ws.length) (w : World) (h : Rd w w.heap.size 5 A (F.map Frm.cells)) (h' : Rd w w.heap.size 2 D (ws.map Wt.cells)) (hl : F.length ≤ 1000000) (hws : ws.length ≤ 1000000) :
    Calls Try.prog 12 #[.slice A n c, .slice D m d] w fun e w' => ∃ A' c', e = .returned (.tuple #[.slice A' n c', .int .i64 0]) ∧ Rd w' w'.heap.size 34 A' ((curveS F S).map Str.cells) ∧ Below w.heap.size w w' ∧ n ≤ c' ∧ ∀ a, A' = some a → w.heap.size ≤ a.block := by
  have h1 := st_Curve A D c d n m F ws hn hm w h h' hl hws
  rw [hr] at h1
  have hlen : (curveS F S).length = n := by unfold curveS; simp [hn]
  refine h1.mono ?_
  rintro e w' ⟨A', c', rfl, h2, h3, h4, h5⟩
  refine ⟨A', c', ?_, h2, h3, ?_, h5⟩
  · show Ending.returned (.tuple #[.slice A' (curveS F S).length c', .int .i64 0]) = _
    rw [hlen]
  · rw [← hlen]
    exact h4

theorem str_fld {w : World} {B g o : Nat} {css : List (List Value)} (h : Rd w B 34 (some ⟨g, o, none⟩) css) {k : Nat} {s : Str} (hk : css[k]? = some s.cells) :
    ∀ w', Below B w w' → (loadVar 37 ⟨g, o + k * 34, none⟩).run Try.prog w' = .ok s.shear.val w' ∧ (loadVar 37 ⟨g, o + k * 34 + 17, none⟩).run Try.prog w' = .ok s.bend.val w' ∧ (loadVar 40 ⟨g, o + k * 34, none⟩).run Try.prog w' = .ok s.val w' := by
  intro w' hb
  obtain ⟨b, off, e, hlt, _, hc⟩ := h k s.cells hk
  simp only [Option.some.injEq, Addr.mk.injEq, and_true] at e
  obtain ⟨rfl, rfl⟩ := e
  have hq : ∀ j u, s.cells[j]? = some u → w'.cell? ⟨g, o + k * 34 + j, none⟩ = some u := fun j u hu => (hb.cell (p := ⟨g, _, none⟩) (by simpa using hlt)).trans (hc j u hu)
  refine ⟨run_load_cells (cs := s.shear.cells) frac_row s.shear.cells_len fun j x hx => ?_, run_load_cells (cs := s.bend.cells) frac_row s.bend.cells_len fun j x hx => ?_, run_load_cells (cs := s.cells) str_row s.cells_len fun j x hx => ?_⟩
  · rw [Addr.add_lit]
    refine hq j x ?_
    unfold Str.cells
    rw [List.getElem?_append_left (List.getElem?_eq_some_iff.1 hx).1]
    exact hx
  · rw [Addr.add_lit, Nat.add_assoc]
    refine hq (17 + j) x ?_
    unfold Str.cells
    rw [List.getElem?_append_right (by rw [s.shear.cells_len]; omega), s.shear.cells_len, show 17 + j - 17 = j by omega]
    exact hx
  · rw [Addr.add_lit]
    exact hq j x hx
theorem curveS_get (F : List Frm) (S : List Sec) {k : Nat} (hk : k < F.length) : ((curveS F S).map Str.cells)[k]? = some (strF F S (addAll S).a0 (kF S) k).cells := by
  unfold curveS
  rw [List.map_map, List.getElem?_map, List.getElem?_range hk]
  rfl
theorem curveS_some {w : World} {B : Nat} {A : Option Addr} {F : List Frm} {S : List Sec} (h : Rd w B 34 A ((curveS F S).map Str.cells)) (hF : 0 < F.length) : ∃ g o, A = some ⟨g, o, none⟩ := by
  obtain ⟨g, o, e, _⟩ := h 0 _ (curveS_get F S hF)
  exact ⟨g, o, e⟩
/-- the weights from one on -/
theorem Rd.dropN {w : World} {B size g off : Nat} {css : List (List Value)} (h : Rd w B size (some ⟨g, off, none⟩) css) (n : Nat) : Rd w B size (some ⟨g, off + n * size, none⟩) (css.drop n) := by
  intro k cs hk
  rw [List.getElem?_drop] at hk
  obtain ⟨b, o, e, hlt, hl, hc⟩ := h (n + k) cs hk
  simp only [Option.some.injEq, Addr.mk.injEq, and_true] at e
  obtain ⟨rfl, rfl⟩ := e
  refine ⟨g, off + n * size, rfl, hlt, hl, fun j u hu => ?_⟩
  have h1 := hc j u hu
  have e2 : off + (n + k) * size + j = off + n * size + k * size + j := by rw [Nat.add_mul]; omega
  rw [e2] at h1
  exact h1

end Go.Proofs.Ytcdfnlgimbecgaa

namespace Go.Proofs.Ytcdfnlgimbecgaa

def sumFr (S : List Sec) (i : Nat) : FracV := ofRat (liftR S (addAll (S.take i)).a2 (addAll (S.take i)).a4)
def levFr (S : List Sec) (i : Nat) : FracV := ofRat (liftR S (addAll (S.take i)).a3 (addAll (S.take i)).a5)
def pieceFr (S : List Sec) (s : Sec) : FracV := ofRat (liftR S s.a2 s.a4)
def moreFr (S : List Sec) (s : Sec) : FracV := ofRat (kR S * (s.a4 : Rat))
def dnFr (S : List Sec) (i : Nat) : FracV := ofRat (downR S i)
def bdFr (F : List Frm) (S : List Sec) (i : Nat) : FracV := ofRat (bendR F S i)

theorem ofRat_int (n : Int) : ofRat (n : Rat) = ofL n := (ofL_rat n).symm
theorem sumFr_zero (S : List Sec) : sumFr S 0 = ofL 0 := by
  unfold sumFr
  show ofRat (liftR S 0 0) = _
  rw [liftR_zero, ofL_rat]
  rfl
theorem levFr_zero (S : List Sec) : levFr S 0 = ofL 0 := sumFr_zero S
theorem strFr {F : List Frm} {S : List Sec} {D : Nat} (h : SecB S D) (i : Nat) (hx : (frmX F i).natAbs ≤ 500000) : strF F S (addAll S).a0 (kF S) i = ⟨dnFr S i, bdFr F S i⟩ := h.str i hx

/-- what is met at a section -/
structure EndsAt (F : List Frm) (L : List Wt) (S : List Sec) (i : Nat) (f0 f1 : Frm) (s : Sec) : Prop where
  g0 : F[i]? = some f0
  g1 : F[i + 1]? = some f1
  gs : S[i]? = some s
  x0 : -500000 ≤ f0.x ∧ f0.x ≤ 500000
  x1 : -500000 ≤ f1.x ∧ f1.x ≤ 500000
  li : 0 ≤ f0.light ∧ f0.light ≤ 500000000
  sh : 0 ≤ f0.share ∧ f0.share ≤ 10000
  lh : -500000000000000 ≤ f0.light * (f0.x + f1.x) ∧ f0.light * (f0.x + f1.x) ≤ 500000000000000
  w0 : wK F L i 0 = f0.light
  m0 : mK F L i 0 = f0.light * (f0.x + f1.x)
  wq : wK F L i L.length = s.a0
  mq : mK F L i L.length = s.a1
  wb : ∀ k, k ≤ L.length → -1000000000 ≤ wK F L i k ∧ wK F L i k ≤ 1000000000
  mb : ∀ k, k ≤ L.length → -1000000000000000 ≤ mK F L i k ∧ mK F L i k ≤ 1000000000000000
  inn : ∀ k (h : k < L.length), f0.x ≤ (L[k]).x → (L[k]).x < f1.x → wK F L i (k + 1) = wK F L i k + (L[k]).kilos ∧ mK F L i (k + 1) = mK F L i k + 2 * (L[k]).kilos * (L[k]).x
  out : ∀ k (h : k < L.length), ¬ (f0.x ≤ (L[k]).x ∧ (L[k]).x < f1.x) → wK F L i (k + 1) = wK F L i k ∧ mK F L i (k + 1) = mK F L i k
  t0 : (addAll (S.take (i + 1))).a0 = (addAll (S.take i)).a0 + s.a0
  t1 : (addAll (S.take (i + 1))).a1 = (addAll (S.take i)).a1 + s.a1
  ah : allX F (i + 1) = allX F i + (f0.x + f1.x)
  a4 : s.a4 = ((F.length - 1 : Nat) : Int) * (f0.x + f1.x) - allX F (F.length - 1)
  shs : s.a2 = f0.share
  s0 : strF F S (addAll S).a0 (kF S) i = ⟨dnFr S i, bdFr F S i⟩
  s1 : strF F S (addAll S).a0 (kF S) (i + 1) = ⟨dnFr S (i + 1), bdFr F S (i + 1)⟩
  e1 : (subL (ofL s.a0) (subL (dnFr S (i + 1)) (dnFr S i)).1).1 = pieceFr S s
  e2 : (addL (sumFr S i) (pieceFr S s)).1 = sumFr S (i + 1)
  e3 : (addL (levFr S i) (mulL (pieceFr S s) (ofL (f0.x + f1.x))).1).1 = levFr S (i + 1)
  e4 : (subL (pieceFr S s) (ratioL ((addAll S).a0 * f0.share) 10000).1).1 = moreFr S s
  e5 : (subL (addL (mulL (dnFr S i) (ofL (2 * (f1.x - f0.x)))).1 (ofL (2 * s.a0 * f1.x - s.a1))).1 (mulL (pieceFr S s) (ofL (2 * f1.x - (f0.x + f1.x)))).1).1 = (mulL (subL (bdFr F S (i + 1)) (bdFr F S i)).1 (ofL 2)).1
  b0 : -1000000000 ≤ s.a0 ∧ s.a0 ≤ 1000000000
  b1 : -1000000000000000 ≤ s.a1 ∧ s.a1 ≤ 1000000000000000
  bx : -1000000000000000 ≤ 2 * s.a0 * f1.x ∧ 2 * s.a0 * f1.x ≤ 1000000000000000
  bt0 : -2000000000000 ≤ (addAll (S.take i)).a0 ∧ (addAll (S.take i)).a0 ≤ 2000000000000
  bt1 : -2000000000000000000 ≤ (addAll (S.take i)).a1 ∧ (addAll (S.take i)).a1 ≤ 2000000000000000000
  bah : -1000000 * (i : Int) ≤ allX F i ∧ allX F i ≤ 1000000 * (i : Int)
  ban : -30000000 ≤ allX F (F.length - 1) ∧ allX F (F.length - 1) ≤ 30000000
  bnh : -30000000 ≤ ((F.length - 1 : Nat) : Int) * (f0.x + f1.x) ∧ ((F.length - 1 : Nat) : Int) * (f0.x + f1.x) ≤ 30000000
  bws : 0 ≤ (addAll S).a0 * f0.share ∧ (addAll S).a0 * f0.share ≤ 5000000000000

theorem mul_bd {a b : Int} {A B : Nat} (ha : a.natAbs ≤ A) (hb : b.natAbs ≤ B) : (a * b).natAbs ≤ A * B := by
  rw [Int.natAbs_mul]
  exact Nat.mul_le_mul ha hb

theorem ends_at {F : List Frm} {L : List Wt} (H : Hull F L) (hL : ∀ u ∈ L, (-20000 ≤ u.x ∧ u.x < 70000) ∧ (0 ≤ u.kilos ∧ u.kilos < 65536)) {i : Nat} (hi : i + 1 < F.length) : ∃ f0 f1 s, EndsAt F L (secL F L) i f0 f1 s := by
  obtain ⟨hs, hB, _⟩ := hull_ok H
  obtain ⟨p1, p2, p3, p4⟩ := rightF_parts H.right
  have ho := okFrom_ordF p3
  have hok : ∀ f ∈ F, f.ok = true := fun f hf => by
    have h0 := H.right
    by_cases hc : f.ok = true
    · exact hc
    · rw [not_ok hf (by simpa using hc)] at h0
      cases h0
  have hlen := secL_len F L
  have hiS : i < (secL F L).length := by omega
  obtain ⟨S, hS⟩ : ∃ S, S = secL F L := ⟨_, rfl⟩
  have e0 : F[i]? = some (F[i]'(by omega)) := List.getElem?_eq_getElem (by omega)
  have e1 : F[i + 1]? = some (F[i + 1]'hi) := List.getElem?_eq_getElem hi
  have d0 : F.getD i frm0 = F[i]'(by omega) := by simp [show i < F.length by omega]
  have x0 : frmX F i = (F[i]'(by omega)).x := frmX_get (by omega)
  have x1 : frmX F (i + 1) = (F[i + 1]'hi).x := frmX_get hi
  have n0 := Frm.ok_nums (hok _ (List.getElem_mem (show i < F.length by omega)))
  have n1 := Frm.ok_nums (hok _ (List.getElem_mem hi))
  obtain ⟨r2, r4, r3, r5⟩ := sec_rest hiS
  obtain ⟨q0, q1⟩ := wmK_all hiS
  have z0 := wK_zero F L i
  have z1 := mK_zero F L i
  have hh : hX F i = (F[i]'(by omega)).x + (F[i + 1]'hi).x := by unfold hX; rw [x0, x1]
  rw [hh] at r4 r3 r5 z1
  rw [d0] at z0 z1 r2
  have hii := idx_iff ho (y := 0) hi
  have w1 : ∀ k, k ≤ L.length → (wsum F i (L.take k)).a0.natAbs ≤ 6553600 ∧ (wsum F i (L.take k)).a1.natAbs ≤ 1000000000000 := fun k hk => by
    have h1 := wsum_bd F i (L.take k) (fun u hu => hL u (List.mem_of_mem_take hu))
    have h2 : (L.take k).length ≤ 100 := by have := H.few; simp; omega
    omega
  have hl1 := mul_bd (a := (F[i]'(by omega)).light) (b := (F[i]'(by omega)).x + (F[i + 1]'hi).x) (A := 500000000) (B := 1000000) (by omega) (by omega)
  have t := take_add (secL F L) hiS
  have o := hB.one hiS
  have su := hB.sums i
  have ax := allX_ok hok i
  have an := allX_ok hok (F.length - 1)
  have wb : ∀ k, k ≤ L.length → -1000000000 ≤ wK F L i k ∧ wK F L i k ≤ 1000000000 := fun k hk => by
    have := w1 k hk
    unfold wK
    rw [d0]
    omega
  have mb : ∀ k, k ≤ L.length → -1000000000000000 ≤ mK F L i k ∧ mK F L i k ≤ 1000000000000000 := fun k hk => by
    have := w1 k hk
    unfold mK
    rw [d0, hh]
    omega
  have wl := wb L.length (Nat.le_refl _)
  have ml := mb L.length (Nat.le_refl _)
  rw [q0] at wl
  rw [q1] at ml
  have hbx := mul_bd (a := 2 * ((secL F L)[i]).a0) (b := (F[i + 1]'hi).x) (A := 2000000000) (B := 500000) (by omega) (by omega)
  have hnh := mul_bd (a := ((F.length - 1 : Nat) : Int)) (b := (F[i]'(by omega)).x + (F[i + 1]'hi).x) (A := 30) (B := 1000000) (by omega) (by omega)
  have hws := mul_bd (a := (addAll (secL F L)).a0) (b := (F[i]'(by omega)).share) (A := 500000000) (B := 10000) (by have := hB.w; omega) (by omega)
  have hws0 := Int.mul_nonneg hB.w.1 (show 0 ≤ (F[i]'(by omega)).share by omega)
  refine ⟨_, _, (secL F L)[i], e0, e1, List.getElem?_eq_getElem hiS, by omega, by omega, by omega, by omega, by omega, z0, z1, q0, q1, wb, mb, ?_, ?_, ?_, ?_, ?_, r4, r2, strFr hB i (by omega), strFr hB (i + 1) (by omega), ends_lift hB hiS, ends_sum hB hiS, ends_lever hB hiS _ (by omega) r3 r5, ?_, ?_, by omega, by omega, by omega, by omega, by omega, by omega, by omega, by omega, by omega⟩
  · intro k hk h1 h2
    exact wmK_in hk ((idx_iff ho hi).2 ⟨by rw [x0]; exact h1, by rw [x1]; exact h2⟩)
  · intro k hk h1
    refine wmK_out hk fun h2 => h1 ?_
    have h3 := (idx_iff ho hi).1 h2
    rw [x0, x1] at h3
    exact h3
  · rw [t]; rfl
  · rw [t]; rfl
  · show allX F i + hX F i = _
    rw [hh]
  · rw [← r2]
    exact ends_more hB hiS
  · have h1 := ends_bend (F := F) hB hiS _ (by omega) (by omega) (by omega) r3 r5
    rw [x0, x1] at h1
    exact h1

/-- at the aft end, and both sums -/
theorem ends_all {F : List Frm} {L : List Wt} (H : Hull F L) : dnFr (secL F L) 0 = ofL 0 ∧ bdFr F (secL F L) 0 = ofL 0 ∧ dnFr (secL F L) (F.length - 1) = ofL 0 ∧ bdFr F (secL F L) (F.length - 1) = ofL 0 ∧
    sumFr (secL F L) (F.length - 1) = ofL (addAll ((secL F L).take (F.length - 1))).a0 ∧ levFr (secL F L) (F.length - 1) = ofL (addAll ((secL F L).take (F.length - 1))).a1 := by
  obtain ⟨hs, hB, _⟩ := hull_ok H
  have h2 := a2_all H.right L
  have h4 := a4_all F L
  have h5 := hB.a5ne
  have hl := secL_len F L
  unfold dnFr bdFr sumFr levFr
  have ht : (secL F L).take (F.length - 1) = secL F L := by rw [← hl, List.take_length]
  have e3 := down_end h2 h4
  have e4 := bend_end F h2 h4 h5
  rw [hl] at e3 e4
  rw [down_zero, bend_zero, e3, e4, ht, h2, h4, lift_W, lift_all h5, ofL_rat, ofL_rat, ofL_rat]
  exact ⟨rfl, rfl, rfl, rfl, rfl, rfl⟩
theorem ends_ev {F : List Frm} {L : List Wt} (H : Hull F L) {i : Nat} {s s0 : Sec} (hs : (secL F L)[i]? = some s) (h0 : (secL F L)[0]? = some s0) : (mulL (moreFr (secL F L) s) (ofL s0.a4)).1 = (mulL (moreFr (secL F L) s0) (ofL s.a4)).1 := by
  obtain ⟨_, hB, _⟩ := hull_ok H
  obtain ⟨h1, rfl⟩ := List.getElem?_eq_some_iff.1 hs
  obtain ⟨h2, rfl⟩ := List.getElem?_eq_some_iff.1 h0
  exact ends_even hB h1 h2
end Go.Proofs.Ytcdfnlgimbecgaa

namespace Go.Proofs.Ytcdfnlgimbecgaa
open Go.RowKit

theorem ok_load {P : Program} {ρ : Operand → Value} {d : Option Nat} {T ty : TypeId} {x : Operand} {pos : String} {aft : Array Edge} {gd : Option (Nat × Bool)} {ad : Addr} {v : Value} {w : World} (hx : ρ x = .pointer (some ad)) (h : (loadVar T ad).run P w = .ok v w) :
    (execOp ρ ⟨d, .load T x, ty, pos, aft, gd⟩).run P w = .ok (.value v) w := by
  unfold execOp
  simp only [hx, Instr.loadAt, Instr.sureAddr, Sem.run_bind, Sem.run_pure, Result.andThen_ok, h]
theorem ok_call {P : Program} {ρ : Operand → Value} {d : Option Nat} {F : FuncId} {c : Operand} {xs : List Operand} {ts : Array TypeId} {ty : TypeId} {pos : String} {aft : Array Edge} {gd : Option (Nat × Bool)} {w : World} {args : List Value} {K : Ending → World → Prop} (hf : ρ c = .func (.func F) #[] #[]) (hx : xs.map ρ = args) (hcf : (callFunc F args.toArray).run P w = .ok (.enter F args.toArray) w) (hc : Calls P F args.toArray w K) :
    ∃ f vs, (execOp ρ ⟨d, .call { callee := .value c, args := xs.toArray, argTypes := ts }, ty, pos, aft, gd⟩).run P w = .ok (.enter f vs) w ∧ Calls P f vs w K := by
  refine ⟨F, args.toArray, ?_, hc⟩
  subst hx
  unfold execOp
  simp only [resolve, hf, Deferred.ofValue, Sem.run_bind, Sem.run_pure, Result.andThen_ok, invoke]
  simpa using hcf
theorem ok_move {P : Program} {ρ : Operand → Value} {d : Option Nat} {ty : TypeId} {x : Operand} {pos : String} {aft : Array Edge} {gd : Option (Nat × Bool)} {v : Value} {w : World} (hx : ρ x = v) : (execOp ρ ⟨d, .move x, ty, pos, aft, gd⟩).run P w = .ok (.value v) w := by
  subst hx; rfl
theorem ok_assign {P : Program} {ρ : Operand → Value} {d : Option Nat} {ty : TypeId} {x : Operand} {pos : String} {aft : Array Edge} {gd : Option (Nat × Bool)} {v : Value} {w : World} (hx : ρ x = v) : (execOp ρ ⟨d, .assign x, ty, pos, aft, gd⟩).run P w = .ok (.value v) w := by
  subst hx; rfl

section
variable {P : Program} {ρ : Operand → Value} {d : Option Nat} {ty : TypeId} {pos : String} {aft : Array Edge} {gd : Option (Nat × Bool)} {v : Value} {w : World}
def fieldOff (P : Program) (s f : Nat) : Option Nat :=
  match P.underlying s with
  | some (.struct fs) => match fs[f]? with
    | some fd => match P.info? fd.type with
      | some i => if i.size = 0 then none else some fd.offset
      | none => none
    | none => none
  | _ => none
theorem add_none (b o n : Nat) : (⟨b, o, none⟩ : Addr).add n = ⟨b, o + n, none⟩ := by
  unfold Addr.add
  split
  · rename_i h; subst h; rfl
  · rfl
theorem ptr0 (b n : Nat) : Value.pointer (some ⟨b, n, none⟩) = .pointer (some ⟨b, 0 + n, none⟩) := by rw [Nat.zero_add]
theorem ptr01 (b n : Nat) : Value.pointer (some ⟨b, n, none⟩) = .pointer (some ⟨b, 0 + n * 1, none⟩) := by rw [Nat.zero_add, Nat.mul_one]
theorem ptr1 (b o n : Nat) : Value.pointer (some ⟨b, o + n, none⟩) = .pointer (some ⟨b, o + n * 1, none⟩) := by rw [Nat.mul_one]
theorem ok_field {T f k b o : Nat} {x : Operand} (hx : ρ x = .pointer (some ⟨b, o, none⟩)) (hf : fieldOff P T f = some k) (hv : v = .pointer (some ⟨b, o + k, none⟩)) : (execOp ρ ⟨d, .fieldAddr T x f, ty, pos, aft, gd⟩).run P w = .ok (.value v) w := by
  subst hv
  unfold fieldOff at hf
  split at hf
  · rename_i fs hfs
    split at hf
    · rename_i fd hfd
      split at hf
      · rename_i i hi
        split at hf
        · cases hf
        · rename_i hsz
          injection hf with hf
          subst hf
          unfold execOp
          simp only [hx, Instr.fieldAt, underlying, Sem.run_bind, Sem.run_pure, Result.andThen_ok, hfs, run_program]
          simp only [hfd, Instr.sureAddr, fieldPlace, sizeOf, typeInfo, Sem.run_bind, Sem.run_pure, Result.andThen_ok, run_program, hi, hsz, if_false, add_none]
      · cases hf
    · cases hf
  · cases hf
/-- the element's size, and the type, of a slice -/
def elemOf (P : Program) (t : Nat) : Option (Nat × Nat) :=
  match P.underlying t with
  | some (.slice e) => (P.info? e).map fun i => (e, i.size)
  | _ => none
theorem elemOf_spec {t e sz : Nat} (h : elemOf P t = some (e, sz)) : P.underlying t = some (.slice e) ∧ ∃ i, P.info? e = some i ∧ i.size = sz := by
  unfold elemOf at h
  split at h
  · rename_i e' he
    cases hi : P.info? e' with
    | none => rw [hi] at h; cases h
    | some i => rw [hi] at h; simp only [Option.map_some, Option.some.injEq, Prod.mk.injEq] at h; obtain ⟨rfl, rfl⟩ := h; exact ⟨he, i, hi, rfl⟩
  · cases h
theorem ok_index {t e sz k n c b o : Nat} {kk : IntKind} {x y : Operand} (hx : ρ x = .slice (some ⟨b, o, none⟩) n c) (hy : ρ y = .int kk (k : Int)) (he : elemOf P t = some (e, sz)) (hk : (k : Int) < (n : Int)) (hv : v = .pointer (some ⟨b, o + k * sz, none⟩)) : (execOp ρ ⟨d, .indexAddr t x y, ty, pos, aft, gd⟩).run P w = .ok (.value v) w := by
  subst hv
  obtain ⟨h1, i, h2, rfl⟩ := elemOf_spec he
  have h3 : 0 ≤ (k : Int) ∧ (k : Int) < (n : Int) := ⟨by omega, hk⟩
  unfold execOp
  simp only [hx, hy, Instr.indexAt, asIntOf, underlying, Sem.run_bind, Sem.run_pure, Result.andThen_ok, h1, run_program]
  simp only [h3, and_self, if_true, sizeOf, typeInfo, Sem.run_bind, Sem.run_pure, Result.andThen_ok, run_program, h2, Int.toNat_natCast, add_none]
theorem ok_len {t n c : Nat} {e : TypeId} {A : Option Addr} {x : Operand} (hx : ρ x = .slice A n c) (ht : P.underlying t = some (.slice e)) (hv : v = .int .i64 (n : Int)) : (execOp ρ ⟨d, .call { callee := .builtin .len, args := #[x], argTypes := #[t] }, ty, pos, aft, gd⟩).run P w = .ok (.value v) w := by
  subst hv
  unfold execOp
  simp only [resolve, invoke, builtin, Builtin.len_, List.map_toArray, List.map_cons, List.map_nil, hx, underlying, Sem.run_bind, Sem.run_pure, Result.andThen_ok]
  simp only [ht, List.getElem?_toArray, List.getElem?_cons_zero, Sem.run_bind, Sem.run_pure, Result.andThen_ok, run_program]
  rfl
theorem ok_extract {i : Nat} {x : Operand} {vs : Array Value} (hx : ρ x = .tuple vs) (hv : vs[i]? = some v) : (execOp ρ ⟨d, .extract x i, ty, pos, aft, gd⟩).run P w = .ok (.value v) w := by
  unfold execOp
  simp only [hx, Instr.extract, hv, Sem.run_bind, Sem.run_pure, Result.andThen_ok]
theorem ok_pick {b : Bool} {c x y : Operand} (hc : ρ c = .bool b) (hv : (if b then ρ x else ρ y) = v) : (execOp ρ ⟨d, .pick c x y, ty, pos, aft, gd⟩).run P w = .ok (.value v) w := by
  unfold execOp
  simp only [hc, asBool, Sem.run_bind, Sem.run_pure, Result.andThen_ok, hv]
theorem ok_not {b : Bool} {t : TypeId} {x : Operand} (hx : ρ x = .bool b) (hv : v = .bool (!b)) : (execOp ρ ⟨d, .unOp .not t x, ty, pos, aft, gd⟩).run P w = .ok (.value v) w := by
  subst hv
  unfold execOp
  simp only [hx, Op.unary, Sem.run_bind, Sem.run_pure, Result.andThen_ok]
theorem ok_add {k : IntKind} {m n z : Int} {t t' : TypeId} {x y : Operand} (hx : ρ x = .int k m) (hy : ρ y = .int k n) (hz : k.wrap (m + n) = z) (hv : v = .int k z) : (execOp ρ ⟨d, .binOp .add t x y t', ty, pos, aft, gd⟩).run P w = .ok (.value v) w := by
  subst hv hz
  unfold execOp
  simp only [hx, hy, eqGuard, binOp, Op.intArith, ne_eq, not_true_eq_false, if_false, Sem.run_bind, Sem.run_pure]
  rfl
theorem ok_sub {k : IntKind} {m n z : Int} {t t' : TypeId} {x y : Operand} (hx : ρ x = .int k m) (hy : ρ y = .int k n) (hz : k.wrap (m - n) = z) (hv : v = .int k z) : (execOp ρ ⟨d, .binOp .sub t x y t', ty, pos, aft, gd⟩).run P w = .ok (.value v) w := by
  subst hv hz
  unfold execOp
  simp only [hx, hy, eqGuard, binOp, Op.intArith, ne_eq, not_true_eq_false, if_false, Sem.run_bind, Sem.run_pure]
  rfl
theorem ok_mul {k : IntKind} {m n z : Int} {t t' : TypeId} {x y : Operand} (hx : ρ x = .int k m) (hy : ρ y = .int k n) (hz : k.wrap (m * n) = z) (hv : v = .int k z) : (execOp ρ ⟨d, .binOp .mul t x y t', ty, pos, aft, gd⟩).run P w = .ok (.value v) w := by
  subst hv hz
  unfold execOp
  simp only [hx, hy, eqGuard, binOp, Op.intArith, ne_eq, not_true_eq_false, if_false, Sem.run_bind, Sem.run_pure]
  rfl
def cmpB (op : BinOp) (m n : Int) : Option Bool :=
  match op with
  | .eql => some (m == n)
  | .neq => some (m != n)
  | .lss => some (decide (m < n))
  | .leq => some (decide (m ≤ n))
  | .gtr => some (decide (m > n))
  | .geq => some (decide (m ≥ n))
  | _ => none
theorem ok_cmp {op : BinOp} {k : IntKind} {m n : Int} {b : Bool} {t t' : TypeId} {x y : Operand} (hx : ρ x = .int k m) (hy : ρ y = .int k n) (hb : cmpB op m n = some b) (hv : v = .bool b) : (execOp ρ ⟨d, .binOp op t x y t', ty, pos, aft, gd⟩).run P w = .ok (.value v) w := by
  subst hv
  cases op <;> simp only [cmpB] at hb <;> cases hb
  all_goals
    unfold execOp
    simp only [hx, hy, eqGuard, binOp, Op.intCmp, ne_eq, not_true_eq_false, if_false, Sem.run_bind, Sem.run_pure]
    rfl
end

theorem fill_all : ∀ (l pre z : List Value), z.length = l.length → (l.zipIdx pre.length).foldl (fun (cs : Array Value) (p : Value × Nat) => cs.setIfInBounds (0 + p.2) p.1) (pre ++ z).toArray = (pre ++ l).toArray
  | [], pre, z, h => by
    have : z = [] := List.eq_nil_of_length_eq_zero (by simpa using h)
    subst this
    rfl
  | x :: l, pre, [], h => by simp at h
  | x :: l, pre, y :: z, h => by
    have h1 := fill_all l (pre ++ [x]) z (by simpa using h)
    simp only [List.zipIdx_cons, List.foldl_cons, Nat.zero_add]
    have e : (pre ++ y :: z).toArray.setIfInBounds pre.length x = (pre ++ [x] ++ z).toArray := by
      apply Array.ext'
      simp
    rw [e]
    simp only [List.length_append, List.length_singleton, Nat.zero_add] at h1
    rw [h1]
    simp
/-- a slice literal of one element -/
theorem ok_slice1 {P : Program} {ρ : Operand → Value} {d : Option Nat} {ty : TypeId} {pos : String} {aft : Array Edge} {gd : Option (Nat × Bool)} {w : World} {t e sz : Nat} {x : Operand} {u z : Value} (hx : ρ x = u) (he : elemOf P t = some (e, sz)) (hz : (P.info? e).bind (·.zero) = some z) (hzs : z.cells.size = sz) (hu : u.cells.size = sz) (h0 : 0 < sz) (h24 : sz ≤ 2 ^ 24) :
    (execOp ρ ⟨d, .buildSlice t 1 #[(0, x)], ty, pos, aft, gd⟩).run P w = .ok (.value (.slice (some ⟨w.heap.size, 0, none⟩) 1 1)) (w.alloc (.cells u.cells e)) := by
  subst hx
  obtain ⟨h1, i, h2, rfl⟩ := elemOf_spec he
  have h3 : (zeroValue e).run P w = .ok z w := by
    rw [h2] at hz
    simp only [Option.bind_some] at hz
    unfold zeroValue
    simp only [typeInfo, Sem.run_bind, Sem.run_pure, Result.andThen_ok, run_program, h2, hz]
  have h4 : ((Array.range (1 * i.size)).map fun (k : Nat) => z.cells[k % z.cells.size]!) = z.cells := by
    apply Array.ext
    · simp [hzs]
    · intro k hk1 hk2
      simp only [Array.getElem_map, Array.getElem_range]
      rw [Nat.mod_eq_of_lt hk2, getElem!_pos z.cells k hk2]
  have h5 : Instr.fill (fun k => some (k * i.size, i.size)) z.cells [(0, ρ x)] = some (ρ x).cells := by
    unfold Instr.fill
    simp only [Nat.zero_mul, Nat.zero_add, hu, hzs, ne_eq, not_true_eq_false, decide_false, gt_iff_lt, Nat.lt_irrefl, Bool.or_self, Bool.false_eq_true, if_false]
    unfold Instr.fill
    have h6 := fill_all (ρ x).cells.toList [] z.cells.toList (by simp [hzs, hu])
    simp only [List.length_nil, List.nil_append] at h6
    congr 1
    rw [← Array.foldl_toList]
    simp only [Array.toList_zipIdx]
    simpa using h6
  unfold execOp
  simp only [Instr.buildSlice, List.map_toArray, List.map_cons, List.map_nil, underlying, sizeOf, typeInfo, Sem.run_bind, Sem.run_pure, Result.andThen_ok, run_program, h1, h2]
  simp only [show ¬ (1 * i.size > 2 ^ 24) by omega, show ¬ (1 * i.size = 0) by omega, if_false, Sem.run_bind, Sem.run_pure, Result.andThen_ok, h3, h4, h5]
  rfl
end Go.Proofs.Ytcdfnlgimbecgaa
