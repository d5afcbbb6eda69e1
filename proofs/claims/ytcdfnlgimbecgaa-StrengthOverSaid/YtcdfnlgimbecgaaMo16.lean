/-
  strength: the frame behind a place (slices.BinarySearchFunc).
  The sections of a hull with weights, plain.
  A block of rows of one size, known whole: make, load, store.
-/
import Derived.Test.YtcdfnlgimbecgaaMo11
import Derived.Test.YtcdfnlgimbecgaaMo15

namespace Go.Proofs.Ytcdfnlgimbecgaa
open Go.RowKit

def ordF (l : List Frm) : Prop := ∀ p q, p < q → ∀ (hq : q < l.length) (hp : p < l.length), l[p].x < l[q].x
theorem okFrom_ord : ∀ (l : List Frm) (p : Option Int), okFrom p l = true → ordF l ∧ ∀ x, p = some x → ∀ f ∈ l, x < f.x
  | [], p, _ => ⟨fun p q _ hq => by simp at hq, fun x _ f hf => by cases hf⟩
  | f :: l, p, h => by
    unfold okFrom at h
    simp only [Bool.and_eq_true] at h
    obtain ⟨⟨h1, h2⟩, h3⟩ := h
    obtain ⟨i1, i2⟩ := okFrom_ord l (some f.x) h3
    have hall := i2 f.x rfl
    refine ⟨fun p q hpq hq hp => ?_, fun x hx g hg => ?_⟩
    · cases q with
      | zero => omega
      | succ q =>
        cases p with
        | zero => exact hall _ (List.getElem_mem (by simpa using hq))
        | succ p => exact i1 p q (by omega) (by simpa using hq) (by simpa using hp)
    · subst hx
      have h4 : x < f.x := by simpa using h2
      rcases List.mem_cons.1 hg with rfl | h5
      · exact h4
      · have := hall g h5
        omega

theorem st_ahead (f : Frm) (x : Int) (w : World) : Calls Try.prog 82 #[f.val, .int .i64 x] w fun e w' => e = .returned (.int .i64 (if f.x ≤ x then -1 else 1)) ∧ Below w.heap.size w w' := by
  by_cases h : f.x ≤ x
  · rw [if_pos h]
    go_enter Try.func82, Try.ntmps82
    go_wp2
    go_ret
    exact ⟨rfl, (Below.refl _ _).alloc (Nat.le_refl _) _⟩
  · rw [if_neg h]
    have h2 := eq_false h
    clear h
    go_enter Try.func82, Try.ntmps82
    go_wp2
    go_ret
    exact ⟨rfl, (Below.refl _ _).alloc (Nat.le_refl _) _⟩
theorem cf82 (w : World) (args : Array Value) : (callFunc 82 args).run Try.prog w = .ok (.enter 82 args) w := by
  go_simp

/-- i: the first frame that is not ahead of the place, and not at it -/
def Splits (l : List Frm) (x : Int) (i : Nat) : Prop := i ≤ l.length ∧ (∀ p (h : p < l.length), p < i → l[p].x ≤ x) ∧ (∀ p (h : p < l.length), i ≤ p → x < l[p].x)

set_option maxRecDepth 100000 in
set_option maxHeartbeats 4000000 in
theorem st_search (A : Option Addr) (c n : Nat) (l : List Frm) (hn : n = l.length) (x : Int) (w : World) (h : Rd w w.heap.size 5 A (l.map Frm.cells)) (hl : l.length ≤ 1000) (ho : ordF l) :
    Calls Try.prog 81 #[.slice A n c, .int .i64 x, .func (.func 82) #[] #[]] w fun e w' => ∃ i, Splits l x i ∧ e = .returned (.tuple #[.int .i64 (i : Nat), .bool false]) ∧ Below w.heap.size w w' := by
  have HN := Lib.hid hn
  have HR := Lib.hid h
  have HO := Lib.hid ho
  have hn1 : n ≤ 1000 := by omega
  have hcf := cf82
  clear h ho hn hl
  go_enter Try.func81, Try.ntmps81
  go_wp2
  go_loopw [9, 10] (fun iv jv wr => ∃ (i j : Nat), i ≤ j ∧ j ≤ n ∧ iv = .int .i64 i ∧ jv = .int .i64 j ∧ (∀ p (h : p < l.length), p < i → l[p].x ≤ x) ∧ (∀ p (h : p < l.length), j ≤ p → x < l[p].x) ∧ Below w.heap.size w wr) (fun iv jv _ => ((intOf jv) - (intOf iv)).toNat)
  case atStart => exact ⟨0, n, Nat.zero_le _, Nat.le_refl _, rfl, rfl, fun p h hp => by omega, fun p h hp => by have := HN.out; omega, Below.refl _ _⟩
  case round =>
    obtain ⟨i, j, hij, hjn, rfl, rfl, h1, h2, hb⟩ := hrel
    have H1 := Lib.hid h1
    have H2 := Lib.hid h2
    have HB := Lib.hid hb
    clear h1 h2 hb
    by_cases hlt : i < j
    · obtain ⟨m, hm⟩ : ∃ m, m = (i + j) / 2 := ⟨_, rfl⟩
      obtain ⟨s, hs⟩ : ∃ s, s = i + j := ⟨_, rfl⟩
      have hml : m < l.length := by have := HN.out; omega
      have hmi : i ≤ m := by omega
      have hmj : m < j := by omega
      have w1 : IntKind.i64.wrap ((i : Int) + (j : Int)) = (s : Int) := by rw [wrap_i64 (by omega) (by omega)]; omega
      have w2 := wrap_u64 (n := (s : Int)) (by omega) (by omega)
      have w3 : (s : Int) / 2 = (m : Int) := by omega
      have w4 : IntKind.i64.wrap (m : Int) = (m : Int) := wrap_i64 (by omega) (by omega)
      have hiji : (i : Int) < (j : Int) := by omega
      have hmn : (m : Int) < (n : Int) := by omega
      obtain ⟨g, off, rfl, hg, hld⟩ := Frm.ld HR.out (k := m) (b := l[m]) (by simp [hml])
      obtain ⟨f, hf⟩ : ∃ f, f = l[m] := ⟨_, rfl⟩
      rw [← hf] at hld
      have HLD := Lib.hid (hld wr HB.out)
      have HF := Lib.hid hf
      have HA := Lib.hid (fun w1 => st_ahead f x w1)
      clear hld hf hm hs
      by_cases hx : f.x ≤ x
      · simp only [if_pos hx] at HA
        have HX := Lib.hid hx
        have w5 : IntKind.i64.wrap ((m : Int) + 1) = (m : Int) + 1 := wrap_i64 (by omega) (by omega)
        clear hx
        go_wp2_with (first
          | ((with_reducible refine g_ld 44 ?_); refine wpList_ld rfl _ _ rfl _ rfl _ HLD.out ?_)
          | (go_at_call 82; refine (HA.out _).mono ?_; rintro e w2 ⟨rfl, hb2⟩; have HB2 := Lib.hid (HB.out.trans (hb2.mono HB.out.size)); clear hb2))
        go_roundw
        case rel =>
          refine ⟨m + 1, j, by omega, hjn, by simp, rfl, fun p h hp => ?_, H2.out, HB2.out⟩
          by_cases hpm : p = m
          · subst hpm
            have := HX.out
            rw [HF.out] at this
            exact this
          · have h3 := HO.out p m (by omega) hml h
            have h4 := HX.out
            rw [HF.out] at h4
            omega
        case measure => simp [intOf]; omega
      · simp only [if_neg hx] at HA
        have HX := Lib.hid (show x < f.x by omega)
        clear hx
        go_wp2_with (first
          | ((with_reducible refine g_ld 44 ?_); refine wpList_ld rfl _ _ rfl _ rfl _ HLD.out ?_)
          | (go_at_call 82; refine (HA.out _).mono ?_; rintro e w2 ⟨rfl, hb2⟩; have HB2 := Lib.hid (HB.out.trans (hb2.mono HB.out.size)); clear hb2))
        go_roundw
        case rel =>
          refine ⟨i, m, hmi, by omega, rfl, rfl, H1.out, fun p h hp => ?_, HB2.out⟩
          by_cases hpm : p = m
          · subst hpm
            have := HX.out
            rw [HF.out] at this
            exact this
          · have h3 := HO.out m p (by omega) h hml
            have h4 := HX.out
            rw [HF.out] at h4
            omega
        case measure => simp [intOf]; omega
    · obtain rfl : i = j := by omega
      have HSP : Hid (Splits l x i) := ⟨by rw [← HN.out]; exact hjn, H1.out, H2.out⟩
      have hii : ¬ (i : Int) < (i : Int) := by omega
      by_cases hin : i < n
      · have hil : i < l.length := by rw [← HN.out]; exact hin
        obtain ⟨g, off, rfl, hg, hld⟩ := Frm.ld HR.out (k := i) (b := l[i]) (by simp [hil])
        obtain ⟨f, hf⟩ : ∃ f, f = l[i] := ⟨_, rfl⟩
        rw [← hf] at hld
        have HLD := Lib.hid (hld wr HB.out)
        have hx : ¬ f.x ≤ x := by
          have := H2.out i hil (Nat.le_refl _)
          rw [← hf] at this
          omega
        have HA := Lib.hid (fun w1 => st_ahead f x w1)
        simp only [if_neg hx] at HA
        have hini : (i : Int) < (n : Int) := by omega
        clear hld hf hx hil
        go_wp2_with (first
          | ((with_reducible refine g_ld 44 ?_); refine wpList_ldw rfl _ _ rfl _ rfl _ HLD.out ?_)
          | (go_at_call 82; refine (HA.out _).mono ?_; rintro e w2 ⟨rfl, hb2⟩; have HB2 := Lib.hid (HB.out.trans (hb2.mono HB.out.size)); clear hb2))
        go_ret2
        exact ⟨i, HSP.out, rfl, HB2.out⟩
      · have hini : ¬ (i : Int) < (n : Int) := by omega
        go_wp2
        go_ret2
        exact ⟨i, HSP.out, rfl, HB.out⟩
end Go.Proofs.Ytcdfnlgimbecgaa

namespace Go.Proofs.Ytcdfnlgimbecgaa

def frm0 : Frm := ⟨0, 0, 0, 0, 0⟩
def frmX (l : List Frm) (i : Nat) : Int := (l.getD i frm0).x
def hX (l : List Frm) (i : Nat) : Int := frmX l i + frmX l (i + 1)
def allX (l : List Frm) : Nat → Int
  | 0 => 0
  | k + 1 => allX l k + hX l k
def secBase (l : List Frm) (n : Nat) (all : Int) (i : Nat) : Sec :=
  ⟨(l.getD i frm0).light, (l.getD i frm0).light * hX l i, (l.getD i frm0).share, (l.getD i frm0).share * hX l i, (n : Int) * hX l i - all, ((n : Int) * hX l i - all) * hX l i⟩
def wtSec (w : Wt) : Sec := ⟨w.kilos, 2 * w.kilos * w.x, 0, 0, 0, 0⟩
/-- how many frames are ahead of a place, or at it -/
def idxF (l : List Frm) (x : Int) : Nat := (l.filter fun f => decide (f.x ≤ x)).length
def putW (l : List Frm) (n : Nat) (S : List Sec) (w : Wt) : Option (List Sec) :=
  if idxF l w.x = 0 ∨ n < idxF l w.x then none else some (S.set (idxF l w.x - 1) ((S.getD (idxF l w.x - 1) Sec.zero).add (wtSec w)))
def putAllW (l : List Frm) (n : Nat) : List Sec → List Wt → Option (List Sec)
  | S, [] => some S
  | S, w :: ws => match putW l n S w with | none => none | some S' => putAllW l n S' ws
def baseS (l : List Frm) : List Sec := (List.range (l.length - 1)).map (secBase l (l.length - 1) (allX l (l.length - 1)))
def sectionsF (l : List Frm) (ws : List Wt) : Option (List Sec) := putAllW l (l.length - 1) (baseS l) ws

theorem splits_idx {l : List Frm} {x : Int} {i : Nat} (h : Splits l x i) : i = idxF l x := by
  obtain ⟨h1, h2, h3⟩ := h
  unfold idxF
  have e : l = l.take i ++ l.drop i := (List.take_append_drop i l).symm
  have f1 : (l.take i).filter (fun f => decide (f.x ≤ x)) = l.take i := by
    rw [List.filter_eq_self]
    intro f hf
    obtain ⟨j, hj, rfl⟩ := List.mem_iff_getElem.1 hf
    have hji : j < i := by simp at hj; omega
    have hjl : j < l.length := by omega
    rw [List.getElem_take]
    exact decide_eq_true (h2 j hjl hji)
  have f2 : (l.drop i).filter (fun f => decide (f.x ≤ x)) = [] := by
    rw [List.filter_eq_nil_iff]
    intro f hf
    obtain ⟨j, hj, rfl⟩ := List.mem_iff_getElem.1 hf
    have hjl : i + j < l.length := by simp at hj; omega
    rw [List.getElem_drop]
    have := h3 (i + j) hjl (by omega)
    simp; omega
  conv => rhs; rw [e]
  rw [List.filter_append, f1, f2, List.append_nil, List.length_take]
  omega

theorem frmX_get {l : List Frm} {i : Nat} (h : i < l.length) : frmX l i = l[i].x := by
  unfold frmX
  simp [h]
theorem frmX_ok {l : List Frm} (hok : ∀ f ∈ l, f.ok = true) (i : Nat) : -500000 ≤ frmX l i ∧ frmX l i ≤ 500000 := by
  unfold frmX
  rcases Nat.lt_or_ge i l.length with h | h
  · have e : l.getD i frm0 = l[i] := by simp [h]
    rw [e]
    exact (Frm.ok_nums (hok _ (List.getElem_mem h))).1
  · have e : l.getD i frm0 = frm0 := by simp [h]
    rw [e]
    exact ⟨by decide, by decide⟩
theorem hX_ok {l : List Frm} (hok : ∀ f ∈ l, f.ok = true) (i : Nat) : -1000000 ≤ hX l i ∧ hX l i ≤ 1000000 := by
  have h1 := frmX_ok hok i
  have h2 := frmX_ok hok (i + 1)
  unfold hX
  omega
theorem allX_ok {l : List Frm} (hok : ∀ f ∈ l, f.ok = true) : ∀ k : Nat, -1000000 * (k : Int) ≤ allX l k ∧ allX l k ≤ 1000000 * (k : Int)
  | 0 => by simp [allX]
  | k + 1 => by
    have h1 := allX_ok hok k
    have h2 := hX_ok hok k
    unfold allX
    omega
/-- a weight that is put into a section lies within the hull -/
theorem idxF_range {l : List Frm} (_ho : ordF l) {x : Int} {i : Nat} (hs : Splits l x i) (h0 : i ≠ 0) (hn : i < l.length) : frmX l 0 ≤ x ∧ x < frmX l (l.length - 1) := by
  obtain ⟨h1, h2, h3⟩ := hs
  have a1 := h2 0 (by omega) (by omega)
  have a2 := h3 (l.length - 1) (by omega) (by omega)
  rw [frmX_get (by omega), frmX_get (by omega)]
  exact ⟨a1, a2⟩
end Go.Proofs.Ytcdfnlgimbecgaa

namespace Go.Proofs.Ytcdfnlgimbecgaa
open Go.RowKit

theorem flat_set0 {size : Nat} : ∀ (css : List (List Value)), (∀ cs ∈ css, cs.length = size) → ∀ t, t < css.length → ∀ cs : List Value, css.flatten.take (t * size) ++ cs ++ css.flatten.drop (t * size + size) = (css.set t cs).flatten
  | [], _, t, ht, _ => by simp at ht
  | c :: css, h, 0, _, cs => by
    have hc := h c (by simp)
    simp only [Nat.zero_mul, List.take_zero, List.nil_append, Nat.zero_add, List.flatten_cons, List.set_cons_zero]
    rw [← hc, List.drop_left]
  | c :: css, h, t + 1, ht, cs => by
    have hc := h c (by simp)
    have ih := flat_set0 css (fun x hx => h x (by simp [hx])) t (by simpa using ht) cs
    simp only [List.flatten_cons, List.set_cons_succ]
    rw [← ih]
    have e1 : (t + 1) * size = c.length + t * size := by rw [hc, Nat.add_mul, Nat.one_mul, Nat.add_comm]
    rw [e1, List.take_length_add_append, Nat.add_assoc, List.drop_length_add_append]
    simp

/-- the block at g holds just these rows -/
def RB (w : World) (g T size : Nat) (css : List (List Value)) : Prop := w.heap[g]? = some (.cells css.flatten.toArray T (0, 0)) ∧ ∀ cs ∈ css, cs.length = size

theorem RB.lt {w : World} {g T size : Nat} {css : List (List Value)} (h : RB w g T size css) : g < w.heap.size := (Array.getElem?_eq_some_iff.1 h.1).1
theorem RB.keep {w w' : World} {g T size : Nat} {css : List (List Value)} (h : RB w g T size css) (hg : w'.heap[g]? = w.heap[g]?) : RB w' g T size css := ⟨hg.trans h.1, h.2⟩
theorem RB.below {w w' : World} {B g T size : Nat} {css : List (List Value)} (h : RB w g T size css) (hb : Below B w w') (hg : g < B) : RB w' g T size css := h.keep (hb.block g hg)
theorem RB.rd {w : World} {g T size : Nat} {css : List (List Value)} (h : RB w g T size css) : Rd w w.heap.size size (some ⟨g, 0, none⟩) css := Rd.rows h.1 rfl h.2

theorem wpList_stR {P : Program} {w : World} {ops : Array Oper} {rest : List Oper} {o : Oper} {a : Act} {Q : Exit → Act → World → Prop} {T E g i off size : Nat} {v : Value} {cs : List Value} {css : List (List Value)} (hgd : o.guard = none) (x y : Operand) (ho : o.op = .store T x y) (hx : a.eval x = .pointer (some ⟨g, off, none⟩)) (hy : a.eval y = v)
    (hi : (P.info? T).map (·.size) = some size) (hv : v.cells.toList = cs) (hn : cs.length = size) (h1 : ∀ u ∈ cs, u.oneCell' = true) (hrb : RB w g E size css) (hil : i < css.length) (hoff : off = i * size)
    (h : ∀ w', RB w' g E size (css.set i cs) → w.grownBy w' (some g) → wpList P ops Q rest (a.put o.dst undef) w') : wpList P ops Q (o :: rest) a w := by
  subst hoff
  have hfl := flat_len css hrb.2
  have hfit : i * size + size ≤ css.length * size := by
    have : (i + 1) * size ≤ css.length * size := Nat.mul_le_mul_right _ hil
    rw [Nat.add_mul, Nat.one_mul] at this
    exact this
  refine wpList_st (cs := cs) hgd x y ho hx hy hi hv hn hrb.1 (by simp only [List.size_toArray]; omega) h1 fun cur' w' hc hs hg hgr => h w' ⟨?_, ?_⟩ hgr
  · have e : cur' = (css.set i cs).flatten.toArray := by
      apply Array.ext'
      rw [hc]
      simp only []
      rw [flat_set0 css hrb.2 i hil cs]
    rw [e] at hg
    exact hg
  · intro c hcm
    rcases List.mem_or_eq_of_mem_set hcm with h2 | h2
    · exact hrb.2 c h2
    · rw [h2]; exact hn

theorem made_rows {z : Value} {size : Nat} (hz : z.cells.size = size) (h0 : 0 < size) : ∀ n, (madeCells z.cells (n * size)).toList = (List.replicate n z.cells.toList).flatten := by
  intro n
  apply List.ext_getElem?
  intro j
  have hall : ∀ cs ∈ List.replicate n z.cells.toList, cs.length = size := by
    intro cs hcs
    rw [(List.mem_replicate.1 hcs).2]
    simpa using hz
  by_cases hj : j < n * size
  · have hdm := Nat.div_add_mod j size
    have hm := Nat.mod_lt j h0
    have hk : j / size < n := (Nat.div_lt_iff_lt_mul h0).2 hj
    have e : j = j / size * size + j % size := by rw [Nat.mul_comm]; exact hdm.symm
    have h1 := flat_get (List.replicate n z.cells.toList) hall (j / size) (j % size) hm
    rw [← e] at h1
    rw [h1]
    rw [List.getElem?_replicate, if_pos hk, Option.bind_some]
    simp only [madeCells, hz, Array.toList_map, Array.toList_range, List.getElem?_map, List.getElem?_range hj, Option.map_some]
    rw [Array.getElem!_eq_getD]
    have hm2 : j % size < z.cells.size := by omega
    simp [hm2]
  · have h1 : (madeCells z.cells (n * size)).toList.length = n * size := by simp [size_madeCells]
    have h2 : (List.replicate n z.cells.toList).flatten.length = n * size := by rw [flat_len _ hall, List.length_replicate]
    rw [List.getElem?_eq_none (by omega), List.getElem?_eq_none (by omega)]

/-- make([]T, n), of rows -/
theorem wpList_make_R {P : Program} {w : World} {ops : Array Oper} {rest : List Oper} {o : Oper} {a : Act} {Q : Exit → Act → World → Prop} {t e bytes n size : Nat} {z : Value} {kl kc : IntKind} {L C : Int} (hgd : o.guard = none) (l c : Operand) (ho : o.op = .makeSlice t l c) (ht : P.underlying t = some (.slice e)) (hz : (P.info? e).map (fun i => (i.zero, i.size, i.bytes)) = some (some z, size, bytes)) (hzs : z.cells.size = size) (h0 : 0 < size)
    (hl : a.eval l = .int kl L) (hc : a.eval c = .int kc C) (hL : L = (n : Int)) (hC : C = (n : Int)) (b2 : bytes * n ≤ 281474976710656) (b3 : n ≤ maxLen)
    (h : ∀ w', RB w' w.heap.size e size (List.replicate n z.cells.toList) → Below w.heap.size w w' → w.heap.size < w'.heap.size → wpList P ops Q rest (a.put o.dst (.slice (some ⟨w.heap.size, 0, none⟩) n n)) w') : wpList P ops Q (o :: rest) a w := by
  obtain ⟨i, hi, hz1, hz2, hz3⟩ := info_parts hz
  refine wpList_make_full w hgd l c t ho w.heap.size e i z size ht hi hz1 hz2 kl kc L C n hl hc hL hC (by rw [hz3]; exact b2) b3 (Nat.le_refl _) fun w' h1 h2 => ?_
  have hb : Below w.heap.size w w' := (Below.refl _ _).grown h2 (Nat.le_refl _) (by simp)
  rcases h1.2 with ⟨h3, _⟩ | ⟨g, cap, cur, h3, hbg, hg, hnc, _, hsz, htk⟩
  · injection h3 with h3 _ _
    cases h3
  · injection h3 with h3 _ h4
    injection h3 with h3
    injection h3 with h3
    subst h3
    subst h4
    refine h w' ⟨?_, ?_⟩ hb (Array.getElem?_eq_some_iff.1 hg).1
    · rw [hg]
      have e1 : cur.toList = (List.replicate n z.cells.toList).flatten := by
        have e2 : cur.toList.take (n * size) = cur.toList := List.take_of_length_le (by simp; omega)
        rw [← e2, htk, made_rows hzs h0]
      rw [← e1]
    · intro cs hcs
      rw [(List.mem_replicate.1 hcs).2]
      simpa using hzs
end Go.Proofs.Ytcdfnlgimbecgaa
