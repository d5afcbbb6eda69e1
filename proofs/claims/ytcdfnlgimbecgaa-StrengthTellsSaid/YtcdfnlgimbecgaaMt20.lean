/-
  strength: the frame behind a place (slices.BinarySearchFunc).
-/
import Derived.Test.YtcdfnlgimbecgaaMt19
namespace Go.Proofs.Ytcdfnlgimbecgaa
open Go.RowKit
def ordF (l : List Frm) : Prop := ∀ p q, p < q → ∀ (hq : q < l.length) (hp : p < l.length), l[p].x < l[q].x
theorem okFrom_ord : ∀ (l : List Frm) (p : Option Int), okFrom p l = true → ordF l ∧ ∀ x, p = some x → ∀ f ∈ l, x < f.x
 | [], p, _ => ⟨fun p q _ hq => by simp at hq, fun x _ f hf => by cases hf⟩
 | f :: l, p, h => by
  unfold okFrom at h
  simp only [Bool.and_eq_true] at h
  obtain ⟨⟨h1, h2⟩, h3⟩ := h
  obtain ⟨i1, i2⟩ := okFrom_ord l (some f.x) h3
  have hall := i2 f.x rfl
  refine ⟨fun p q hpq hq hp => ?_, fun x hx g hg => ?_⟩
  · cases q with
    | zero => omega
    | succ q =>
     cases p with
     | zero => exact hall _ (List.getElem_mem (by simpa using hq))
     | succ p => exact i1 p q (by omega) (by simpa using hq) (by simpa using hp)
  · subst hx
    have h4 : x < f.x := by simpa using h2
    rcases List.mem_cons.1 hg with rfl | h5
    · exact h4
    · have := hall g h5
      omega
theorem st_ahead (f : Frm) (x : Int) (w : World) : Calls Try.prog 82 #[f.val, .int .i64 x] w fun e w' => e = .returned (.int .i64 (if f.x ≤ x then -1 else 1)) ∧ Below w.heap.size w w' := by
 by_cases h : f.x ≤ x
 · rw [if_pos h]
   go_enter Try.func82, Try.ntmps82
   go_wp2
   go_ret
   exact ⟨rfl, (Below.refl _ _).alloc (Nat.le_refl _) _⟩
 · rw [if_neg h]
   have h2 := eq_false h
   clear h
   go_enter Try.func82, Try.ntmps82
   go_wp2
   go_ret
   exact ⟨rfl, (Below.refl _ _).alloc (Nat.le_refl _) _⟩
theorem cf82 (w : World) (args : Array Value) : (callFunc 82 args).run Try.prog w = .ok (.enter 82 args) w := by
 go_simp
def Splits (l : List Frm) (x : Int) (i : Nat) : Prop := i ≤ l.length ∧ (∀ p (h : p < l.length), p < i → l[p].x ≤ x) ∧ (∀ p (h : p < l.length), i ≤ p → x < l[p].x)
set_option maxRecDepth 100000 in
set_option maxHeartbeats 4000000 in
theorem st_search (A : Option Addr) (c n : Nat) (l : List Frm) (hn : n = l.length) (x : Int) (w : World) (h : Rd w w.heap.size 5 A (l.map Frm.cells)) (hl : l.length ≤ 1000) (ho : ordF l) :
 Calls Try.prog 81 #[.slice A n c, .int .i64 x, .func (.func 82) #[] #[]] w fun e w' => ∃ i, Splits l x i ∧ e = .returned (.tuple #[.int .i64 (i : Nat), .bool false]) ∧ Below w.heap.size w w' := by
 have HN := Lib.hid hn
 have HR := Lib.hid h
 have HO := Lib.hid ho
 have hn1 : n ≤ 1000 := by omega
 have hcf := cf82
 clear h ho hn hl
 go_enter Try.func81, Try.ntmps81
 go_wp2
 go_loopw [9, 10] (fun iv jv wr => ∃ (i j : Nat), i ≤ j ∧ j ≤ n ∧ iv = .int .i64 i ∧ jv = .int .i64 j ∧ (∀ p (h : p < l.length), p < i → l[p].x ≤ x) ∧ (∀ p (h : p < l.length), j ≤ p → x < l[p].x) ∧ Below w.heap.size w wr) (fun iv jv _ => ((intOf jv) - (intOf iv)).toNat)
 case atStart => exact ⟨0, n, Nat.zero_le _, Nat.le_refl _, rfl, rfl, fun p h hp => by omega, fun p h hp => by have := HN.out; omega, Below.refl _ _⟩
 case round =>
  obtain ⟨i, j, hij, hjn, rfl, rfl, h1, h2, hb⟩ := hrel
  have H1 := Lib.hid h1
  have H2 := Lib.hid h2
  have HB := Lib.hid hb
  clear h1 h2 hb
  by_cases hlt : i < j
  · obtain ⟨m, hm⟩ : ∃ m, m = (i + j) / 2 := ⟨_, rfl⟩
    obtain ⟨s, hs⟩ : ∃ s, s = i + j := ⟨_, rfl⟩
    have hml : m < l.length := by have := HN.out; omega
    have hmi : i ≤ m := by omega
    have hmj : m < j := by omega
    have w1 : IntKind.i64.wrap ((i : Int) + (j : Int)) = (s : Int) := by rw [wrap_i64 (by omega) (by omega)]; omega
    have w2 := wrap_u64 (n := (s : Int)) (by omega) (by omega)
    have w3 : (s : Int) / 2 = (m : Int) := by omega
    have w4 : IntKind.i64.wrap (m : Int) = (m : Int) := wrap_i64 (by omega) (by omega)
    have hiji : (i : Int) < (j : Int) := by omega
    have hmn : (m : Int) < (n : Int) := by omega
    obtain ⟨g, off, rfl, hg, hld⟩ := Frm.ld HR.out (k := m) (b := l[m]) (by simp [hml])
    obtain ⟨f, hf⟩ : ∃ f, f = l[m] := ⟨_, rfl⟩
    rw [← hf] at hld
    have HLD := Lib.hid (hld wr HB.out)
    have HF := Lib.hid hf
    have HA := Lib.hid (fun w1 => st_ahead f x w1)
    clear hld hf hm hs
    by_cases hx : f.x ≤ x
    · simp only [if_pos hx] at HA
      have HX := Lib.hid hx
      have w5 : IntKind.i64.wrap ((m : Int) + 1) = (m : Int) + 1 := wrap_i64 (by omega) (by omega)
      clear hx
      go_wp2_with (first
       | ((with_reducible refine g_ld 44 ?_); refine wpList_ld rfl _ _ rfl _ rfl _ HLD.out ?_)
       | (go_at_call 82; refine (HA.out _).mono ?_; rintro e w2 ⟨rfl, hb2⟩; have HB2 := Lib.hid (HB.out.trans (hb2.mono HB.out.size)); clear hb2))
      go_roundw
      case rel =>
       refine ⟨m + 1, j, by omega, hjn, by simp, rfl, fun p h hp => ?_, H2.out, HB2.out⟩
       by_cases hpm : p = m
       · subst hpm
         have := HX.out
         rw [HF.out] at this
         exact this
       · have h3 := HO.out p m (by omega) hml h
         have h4 := HX.out
         rw [HF.out] at h4
         omega
      case measure => simp [intOf]; omega
    · simp only [if_neg hx] at HA
      have HX := Lib.hid (show x < f.x by omega)
      clear hx
      go_wp2_with (first
       | ((with_reducible refine g_ld 44 ?_); refine wpList_ld rfl _ _ rfl _ rfl _ HLD.out ?_)
       | (go_at_call 82; refine (HA.out _).mono ?_; rintro e w2 ⟨rfl, hb2⟩; have HB2 := Lib.hid (HB.out.trans (hb2.mono HB.out.size)); clear hb2))
      go_roundw
      case rel =>
       refine ⟨i, m, hmi, by omega, rfl, rfl, H1.out, fun p h hp => ?_, HB2.out⟩
       by_cases hpm : p = m
       · subst hpm
         have := HX.out
         rw [HF.out] at this
         exact this
       · have h3 := HO.out m p (by omega) h hml
         have h4 := HX.out
         rw [HF.out] at h4
         omega
      case measure => simp [intOf]; omega
  · obtain rfl : i = j := by omega
    have HSP : Hid (Splits l x i) := ⟨by rw [← HN.out]; exact hjn, H1.out, H2.out⟩
    have hii : ¬ (i : Int) < (i : Int) := by omega
    by_cases hin : i < n
    · have hil : i < l.length := by rw [← HN.out]; exact hin
      obtain ⟨g, off, rfl, hg, hld⟩ := Frm.ld HR.out (k := i) (b := l[i]) (by simp [hil])
      obtain ⟨f, hf⟩ : ∃ f, f = l[i] := ⟨_, rfl⟩
      rw [← hf] at hld
      have HLD := Lib.hid (hld wr HB.out)
      have hx : ¬ f.x ≤ x := by
       have := H2.out i hil (Nat.le_refl _)
       rw [← hf] at this
       omega
      have HA := Lib.hid (fun w1 => st_ahead f x w1)
      simp only [if_neg hx] at HA
      have hini : (i : Int) < (n : Int) := by omega
      clear hld hf hx hil
      go_wp2_with (first
       | ((with_reducible refine g_ld 44 ?_); refine wpList_ldw rfl _ _ rfl _ rfl _ HLD.out ?_)
       | (go_at_call 82; refine (HA.out _).mono ?_; rintro e w2 ⟨rfl, hb2⟩; have HB2 := Lib.hid (HB.out.trans (hb2.mono HB.out.size)); clear hb2))
      go_ret2
      exact ⟨i, HSP.out, rfl, HB2.out⟩
    · have hini : ¬ (i : Int) < (n : Int) := by omega
      go_wp2
      go_ret2
      exact ⟨i, HSP.out, rfl, HB.out⟩
end Go.Proofs.Ytcdfnlgimbecgaa
namespace Go.Proofs.Ytcdfnlgimbecgaa
def frm0 : Frm := ⟨0, 0, 0, 0, 0⟩
def frmX (l : List Frm) (i : Nat) : Int := (l.getD i frm0).x
def hX (l : List Frm) (i : Nat) : Int := frmX l i + frmX l (i + 1)
def allX (l : List Frm) : Nat → Int
 | 0 => 0
 | k + 1 => allX l k + hX l k
def secBase (l : List Frm) (n : Nat) (all : Int) (i : Nat) : Sec :=
 ⟨(l.getD i frm0).light, (l.getD i frm0).light * hX l i, (l.getD i frm0).share, (l.getD i frm0).share * hX l i, (n : Int) * hX l i - all, ((n : Int) * hX l i - all) * hX l i⟩
def wtSec (w : Wt) : Sec := ⟨w.kilos, 2 * w.kilos * w.x, 0, 0, 0, 0⟩
def idxF (l : List Frm) (x : Int) : Nat := (l.filter fun f => decide (f.x ≤ x)).length
def putW (l : List Frm) (n : Nat) (S : List Sec) (w : Wt) : Option (List Sec) :=
 if idxF l w.x = 0 ∨ n < idxF l w.x then none else some (S.set (idxF l w.x - 1) ((S.getD (idxF l w.x - 1) Sec.zero).add (wtSec w)))
def putAllW (l : List Frm) (n : Nat) : List Sec → List Wt → Option (List Sec)
 | S, [] => some S
 | S, w :: ws => match putW l n S w with | none => none | some S' => putAllW l n S' ws
def baseS (l : List Frm) : List Sec := (List.range (l.length - 1)).map (secBase l (l.length - 1) (allX l (l.length - 1)))
def sectionsF (l : List Frm) (ws : List Wt) : Option (List Sec) := putAllW l (l.length - 1) (baseS l) ws
theorem splits_idx {l : List Frm} {x : Int} {i : Nat} (h : Splits l x i) : i = idxF l x := by
 obtain ⟨h1, h2, h3⟩ := h
 unfold idxF
 have e : l = l.take i ++ l.drop i := (List.take_append_drop i l).symm
 have f1 : (l.take i).filter (fun f => decide (f.x ≤ x)) = l.take i := by
  rw [List.filter_eq_self]
  intro f hf
  obtain ⟨j, hj, rfl⟩ := List.mem_iff_getElem.1 hf
  have hji : j < i := by simp at hj; omega
  have hjl : j < l.length := by omega
  rw [List.getElem_take]
  exact decide_eq_true (h2 j hjl hji)
 have f2 : (l.drop i).filter (fun f => decide (f.x ≤ x)) = [] := by
  rw [List.filter_eq_nil_iff]
  intro f hf
  obtain ⟨j, hj, rfl⟩ := List.mem_iff_getElem.1 hf
  have hjl : i + j < l.length := by simp at hj; omega
  rw [List.getElem_drop]
  have := h3 (i + j) hjl (by omega)
  simp; omega
 conv => rhs; rw [e]
 rw [List.filter_append, f1, f2, List.append_nil, List.length_take]
 omega
theorem frmX_get {l : List Frm} {i : Nat} (h : i < l.length) : frmX l i = l[i].x := by
 unfold frmX
 simp [h]
theorem frmX_ok {l : List Frm} (hok : ∀ f ∈ l, f.ok = true) (i : Nat) : -500000 ≤ frmX l i ∧ frmX l i ≤ 500000 := by
 unfold frmX
 rcases Nat.lt_or_ge i l.length with h | h
 · have e : l.getD i frm0 = l[i] := by simp [h]
   rw [e]
   exact (Frm.ok_nums (hok _ (List.getElem_mem h))).1
 · have e : l.getD i frm0 = frm0 := by simp [h]
   rw [e]
   exact ⟨by decide, by decide⟩
theorem hX_ok {l : List Frm} (hok : ∀ f ∈ l, f.ok = true) (i : Nat) : -1000000 ≤ hX l i ∧ hX l i ≤ 1000000 := by
 have h1 := frmX_ok hok i
 have h2 := frmX_ok hok (i + 1)
 unfold hX
 omega
theorem allX_ok {l : List Frm} (hok : ∀ f ∈ l, f.ok = true) : ∀ k : Nat, -1000000 * (k : Int) ≤ allX l k ∧ allX l k ≤ 1000000 * (k : Int)
 | 0 => by simp [allX]
 | k + 1 => by
  have h1 := allX_ok hok k
  have h2 := hX_ok hok k
  unfold allX
  omega
theorem idxF_range {l : List Frm} (_ho : ordF l) {x : Int} {i : Nat} (hs : Splits l x i) (h0 : i ≠ 0) (hn : i < l.length) : frmX l 0 ≤ x ∧ x < frmX l (l.length - 1) := by
 obtain ⟨h1, h2, h3⟩ := hs
 have a1 := h2 0 (by omega) (by omega)
 have a2 := h3 (l.length - 1) (by omega) (by omega)
 rw [frmX_get (by omega), frmX_get (by omega)]
 exact ⟨a1, a2⟩
open Go.RowKit
theorem flat_set0 {size : Nat} : ∀ (css : List (List Value)), (∀ cs ∈ css, cs.length = size) → ∀ t, t < css.length → ∀ cs : List Value, css.flatten.take (t * size) ++ cs ++ css.flatten.drop (t * size + size) = (css.set t cs).flatten
 | [], _, t, ht, _ => by simp at ht
 | c :: css, h, 0, _, cs => by
  have hc := h c (by simp)
  simp only [Nat.zero_mul, List.take_zero, List.nil_append, Nat.zero_add, List.flatten_cons, List.set_cons_zero]
  rw [← hc, List.drop_left]
 | c :: css, h, t + 1, ht, cs => by
  have hc := h c (by simp)
  have ih := flat_set0 css (fun x hx => h x (by simp [hx])) t (by simpa using ht) cs
  simp only [List.flatten_cons, List.set_cons_succ]
  rw [← ih]
  have e1 : (t + 1) * size = c.length + t * size := by rw [hc, Nat.add_mul, Nat.one_mul, Nat.add_comm]
  rw [e1, List.take_length_add_append, Nat.add_assoc, List.drop_length_add_append]
  simp
def RB (w : World) (g T size : Nat) (css : List (List Value)) : Prop := w.heap[g]? = some (.cells css.flatten.toArray T (0, 0)) ∧ ∀ cs ∈ css, cs.length = size
theorem RB.lt {w : World} {g T size : Nat} {css : List (List Value)} (h : RB w g T size css) : g < w.heap.size := (Array.getElem?_eq_some_iff.1 h.1).1
theorem RB.keep {w w' : World} {g T size : Nat} {css : List (List Value)} (h : RB w g T size css) (hg : w'.heap[g]? = w.heap[g]?) : RB w' g T size css := ⟨hg.trans h.1, h.2⟩
theorem RB.below {w w' : World} {B g T size : Nat} {css : List (List Value)} (h : RB w g T size css) (hb : Below B w w') (hg : g < B) : RB w' g T size css := h.keep (hb.block g hg)
theorem RB.rd {w : World} {g T size : Nat} {css : List (List Value)} (h : RB w g T size css) : Rd w w.heap.size size (some ⟨g, 0, none⟩) css := Rd.rows h.1 rfl h.2
theorem wpList_stR {P : Program} {w : World} {ops : Array Oper} {rest : List Oper} {o : Oper} {a : Act} {Q : Exit → Act → World → Prop} {T E g i off size : Nat} {v : Value} {cs : List Value} {css : List (List Value)} (hgd : o.guard = none) (x y : Operand) (ho : o.op = .store T x y) (hx : a.eval x = .pointer (some ⟨g, off, none⟩)) (hy : a.eval y = v)
 (hi : (P.info? T).map (·.size) = some size) (hv : v.cells.toList = cs) (hn : cs.length = size) (h1 : ∀ u ∈ cs, u.oneCell' = true) (hrb : RB w g E size css) (hil : i < css.length) (hoff : off = i * size)
 (h : ∀ w', RB w' g E size (css.set i cs) → w.grownBy w' (some g) → wpList P ops Q rest (a.put o.dst undef) w') : wpList P ops Q (o :: rest) a w := by
 subst hoff
 have hfl := flat_len css hrb.2
 have hfit : i * size + size ≤ css.length * size := by
  have : (i + 1) * size ≤ css.length * size := Nat.mul_le_mul_right _ hil
  rw [Nat.add_mul, Nat.one_mul] at this
  exact this
 refine wpList_st (cs := cs) hgd x y ho hx hy hi hv hn hrb.1 (by simp only [List.size_toArray]; omega) h1 fun cur' w' hc hs hg hgr => h w' ⟨?_, ?_⟩ hgr
 · have e : cur' = (css.set i cs).flatten.toArray := by
    apply Array.ext'
    rw [hc]
    simp only []
    rw [flat_set0 css hrb.2 i hil cs]
   rw [e] at hg
   exact hg
 · intro c hcm
   rcases List.mem_or_eq_of_mem_set hcm with h2 | h2
   · exact hrb.2 c h2
   · rw [h2]; exact hn
theorem made_rows {z : Value} {size : Nat} (hz : z.cells.size = size) (h0 : 0 < size) : ∀ n, (madeCells z.cells (n * size)).toList = (List.replicate n z.cells.toList).flatten := by
 intro n
 apply List.ext_getElem?
 intro j
 have hall : ∀ cs ∈ List.replicate n z.cells.toList, cs.length = size := by
  intro cs hcs
  rw [(List.mem_replicate.1 hcs).2]
  simpa using hz
 by_cases hj : j < n * size
 · have hdm := Nat.div_add_mod j size
   have hm := Nat.mod_lt j h0
   have hk : j / size < n := (Nat.div_lt_iff_lt_mul h0).2 hj
   have e : j = j / size * size + j % size := by rw [Nat.mul_comm]; exact hdm.symm
   have h1 := flat_get (List.replicate n z.cells.toList) hall (j / size) (j % size) hm
   rw [← e] at h1
   rw [h1]
   rw [List.getElem?_replicate, if_pos hk, Option.bind_some]
   simp only [madeCells, hz, Array.toList_map, Array.toList_range, List.getElem?_map, List.getElem?_range hj, Option.map_some]
   rw [Array.getElem!_eq_getD]
   have hm2 : j % size < z.cells.size := by omega
   simp [hm2]
 · have h1 : (madeCells z.cells (n * size)).toList.length = n * size := by simp [size_madeCells]
   have h2 : (List.replicate n z.cells.toList).flatten.length = n * size := by rw [flat_len _ hall, List.length_replicate]
   rw [List.getElem?_eq_none (by omega), List.getElem?_eq_none (by omega)]
theorem wpList_make_R {P : Program} {w : World} {ops : Array Oper} {rest : List Oper} {o : Oper} {a : Act} {Q : Exit → Act → World → Prop} {t e bytes n size : Nat} {z : Value} {kl kc : IntKind} {L C : Int} (hgd : o.guard = none) (l c : Operand) (ho : o.op = .makeSlice t l c) (ht : P.underlying t = some (.slice e)) (hz : (P.info? e).map (fun i => (i.zero, i.size, i.bytes)) = some (some z, size, bytes)) (hzs : z.cells.size = size) (h0 : 0 < size)
 (hl : a.eval l = .int kl L) (hc : a.eval c = .int kc C) (hL : L = (n : Int)) (hC : C = (n : Int)) (b2 : bytes * n ≤ 281474976710656) (b3 : n ≤ maxLen)
 (h : ∀ w', RB w' w.heap.size e size (List.replicate n z.cells.toList) → Below w.heap.size w w' → w.heap.size < w'.heap.size → wpList P ops Q rest (a.put o.dst (.slice (some ⟨w.heap.size, 0, none⟩) n n)) w') : wpList P ops Q (o :: rest) a w := by
 obtain ⟨i, hi, hz1, hz2, hz3⟩ := info_parts hz
 refine wpList_make_full w hgd l c t ho w.heap.size e i z size ht hi hz1 hz2 kl kc L C n hl hc hL hC (by rw [hz3]; exact b2) b3 (Nat.le_refl _) fun w' h1 h2 => ?_
 have hb : Below w.heap.size w w' := (Below.refl _ _).grown h2 (Nat.le_refl _) (by simp)
 rcases h1.2 with ⟨h3, _⟩ | ⟨g, cap, cur, h3, hbg, hg, hnc, _, hsz, htk⟩
 · injection h3 with h3 _ _
   cases h3
 · injection h3 with h3 _ h4
   injection h3 with h3
   injection h3 with h3
   subst h3
   subst h4
   refine h w' ⟨?_, ?_⟩ hb (Array.getElem?_eq_some_iff.1 hg).1
   · rw [hg]
     have e1 : cur.toList = (List.replicate n z.cells.toList).flatten := by
      have e2 : cur.toList.take (n * size) = cur.toList := List.take_of_length_le (by simp; omega)
      rw [← e2, htk, made_rows hzs h0]
     rw [← e1]
   · intro cs hcs
     rw [(List.mem_replicate.1 hcs).2]
     simpa using hzs
theorem cf41 (w : World) (args : Array Value) : (callFunc 41 args).run Try.prog w = .ok (.enter 41 args) w := by
 go_simp
set_option maxRecDepth 100000 in
set_option maxHeartbeats 4000000 in
theorem region_put {id : Nat} {Q : Exit → Act → World → Prop} {a0 : Act} {w0 : World} {l : List Oper} {gq gw kk iw im : Nat} {kil xx k2 px : Int} {S0 S1 : Sec} (wI : IntKind.i64.wrap ((iw : Int) - 1) = (im : Int)) (wM : IntKind.i64.wrap (2 * kil) = k2) (wP : IntKind.i64.wrap (k2 * xx) = px) (hik : (im : Int) < (kk : Int))
 {t0 t1 t2 t3 t4 t5 t6 t7 t8 t9 t10 t11 t12 t13 t14 t15 t16 t17 t18 t19 : TypeId} {x0 x1 x2 x3 x4 x5 x6 x7 x8 x9 x10 x11 x12 x13 x14 x15 x16 x17 x18 x19 : String} {e0 e1 e2 e3 e4 e5 e6 e7 e8 e9 e10 e11 e12 e13 e14 e15 e16 e17 e18 e19 : Array Edge}
 (hl : l = [⟨some 109, .move (.tmp 9), t0, x0, e0, none⟩, ⟨some 110, .move (.tmp 16), t1, x1, e1, none⟩, ⟨some 111, .binOp .sub 3 (.tmp 110) (.const (.int .i64 1)) 3, t2, x2, e2, none⟩, ⟨some 112, .move (.tmp 9), t3, x3, e3, none⟩, ⟨some 113, .move (.tmp 16), t4, x4, e4, none⟩, ⟨some 114, .binOp .sub 3 (.tmp 113) (.const (.int .i64 1)) 3, t5, x5, e5, none⟩, ⟨some 115, .indexAddr 99 (.tmp 112) (.tmp 114), t6, x6, e6, none⟩, ⟨some 116, .load 103 (.tmp 115), t7, x7, e7, none⟩, ⟨some 117, .fieldAddr 46 (.tmp 15) 1, t8, x8, e8, none⟩, ⟨some 118, .load 3 (.tmp 117), t9, x9, e9, none⟩, ⟨some 119, .fieldAddr 46 (.tmp 15) 1, t10, x10, e10, none⟩, ⟨some 120, .load 3 (.tmp 119), t11, x11, e11, none⟩, ⟨some 121, .binOp .mul 3 (.const (.int .i64 2)) (.tmp 120) 3, t12, x12, e12, none⟩, ⟨some 122, .fieldAddr 46 (.tmp 15) 0, t13, x13, e13, none⟩, ⟨some 123, .load 3 (.tmp 122), t14, x14, e14, none⟩, ⟨some 124, .binOp .mul 3 (.tmp 121) (.tmp 123) 3, t15, x15, e15, none⟩, ⟨some 125, .build 103 #[(0, .tmp 118), (1, .tmp 124)], t16, x16, e16, none⟩, ⟨some 126, .call { callee := .value (.func 41), args := #[.tmp 116, .tmp 125], argTypes := #[103, 103] }, t17, x17, e17, none⟩, ⟨some 127, .indexAddr 99 (.tmp 109) (.tmp 111), t18, x18, e18, none⟩, ⟨none, .store 103 (.tmp 127) (.tmp 126), t19, x19, e19, none⟩])
 (hO : orderB l 19 = true) (hd : dstsB l 19 a0.tmps.size = true) (hpre : preB l.toArray [(2, [1]), (5, [4]), (6, [3, 5]), (7, [6]), (9, [8]), (11, [10]), (12, [11]), (14, [13]), (15, [12, 14]), (16, [9, 15]), (17, [7, 16]), (18, [0, 2])] = true)
  (k9 : a0.tmps[9]? = some (Value.slice (some ⟨gq, 0, none⟩) kk kk)) (k15 : a0.tmps[15]? = some (Value.pointer (some ⟨gw, 0, none⟩))) (k16 : a0.tmps[16]? = some (Value.int .i64 (iw : Int)))
 (h7 : ∀ w, From w0 w → (loadVar 103 ⟨gq, im * 6, none⟩).run Try.prog w = .ok S0.val w)
 (h9 : ∀ w, From w0 w → (loadVar 3 ⟨gw, 1, none⟩).run Try.prog w = .ok (Value.int .i64 kil) w)
 (h11 : ∀ w, From w0 w → (loadVar 3 ⟨gw, 1, none⟩).run Try.prog w = .ok (Value.int .i64 kil) w)
 (h14 : ∀ w, From w0 w → (loadVar 3 ⟨gw, 0, none⟩).run Try.prog w = .ok (Value.int .i64 xx) w)
 (h17 : ∀ w , From w0 w → Calls Try.prog 41 #[S0.val, Sec.val ⟨kil, px, 0, 0, 0, 0⟩] w fun e w' => e = .returned (S1.val) ∧ From w w')
 (hK : ∀  w, From w0 w → wpList Try.prog l.toArray Q (l.drop 19) (((((((((((((((((((a0.put (some 109) (Value.slice (some ⟨gq, 0, none⟩) kk kk)).put (some 110) (Value.int .i64 (iw : Int))).put (some 111) (Value.int .i64 (im : Int))).put (some 112) (Value.slice (some ⟨gq, 0, none⟩) kk kk)).put (some 113) (Value.int .i64 (iw : Int))).put (some 114) (Value.int .i64 (im : Int))).put (some 115) (Value.pointer (some ⟨gq, im * 6, none⟩))).put (some 116) (S0.val)).put (some 117) (Value.pointer (some ⟨gw, 1, none⟩))).put (some 118) ((Value.int .i64 kil))).put (some 119) (Value.pointer (some ⟨gw, 1, none⟩))).put (some 120) ((Value.int .i64 kil))).put (some 121) (Value.int .i64 k2)).put (some 122) (Value.pointer (some ⟨gw, 0, none⟩))).put (some 123) ((Value.int .i64 xx))).put (some 124) (Value.int .i64 px)).put (some 125) (Sec.val ⟨kil, px, 0, 0, 0, 0⟩)).put (some 126) (S1.val)).put (some 127) (Value.pointer (some ⟨gq, im * 6, none⟩))) w) :
 (Code.region id l.toArray true).wp Try.prog Q a0 w0 := by
 have hlen : l.length = 20 := by rw [hl]; rfl
 have hpz := List.all_eq_true.1 hpre
 refine wp_region_keep 19 (fun i v w => match i with
  | 0 => v = (Value.slice (some ⟨gq, 0, none⟩) kk kk)
  | 1 => v = (Value.int .i64 (iw : Int))
  | 2 => v = (Value.int .i64 (im : Int))
  | 3 => v = (Value.slice (some ⟨gq, 0, none⟩) kk kk)
  | 4 => v = (Value.int .i64 (iw : Int))
  | 5 => v = (Value.int .i64 (im : Int))
  | 6 => v = (Value.pointer (some ⟨gq, im * 6, none⟩))
  | 7 => v = (S0.val)
  | 8 => v = (Value.pointer (some ⟨gw, 1, none⟩))
  | 9 => v = ((Value.int .i64 kil))
  | 10 => v = (Value.pointer (some ⟨gw, 1, none⟩))
  | 11 => v = ((Value.int .i64 kil))
  | 12 => v = (Value.int .i64 k2)
  | 13 => v = (Value.pointer (some ⟨gw, 0, none⟩))
  | 14 => v = ((Value.int .i64 xx))
  | 15 => v = (Value.int .i64 px)
  | 16 => v = (Sec.val ⟨kil, px, 0, 0, 0, 0⟩)
  | 17 => v = (S1.val)
  | 18 => v = (Value.pointer (some ⟨gq, im * 6, none⟩))
  | _ => True) ?_ (by kernel_rfl) hO (by omega) hd ?_ ?_
 · exact fun _ _ _ _ h _ => h
 · intro i o hi ho a w hb hval hold
   have ho' : l.toArray[i]? = some o := by simpa using ho
   have hedge : ∀ j, (∃ js, (i, js) ∈ ([(2, [1]), (5, [4]), (6, [3, 5]), (7, [6]), (9, [8]), (11, [10]), (12, [11]), (14, [13]), (15, [12, 14]), (16, [9, 15]), (17, [7, 16]), (18, [0, 2])] : List (Nat × List Nat)) ∧ j ∈ js) → (o.after.any fun e => Region.binds .any e && e.on == j) = true := fun j ⟨_, hm, hj⟩ => by
    have h1 := List.all_eq_true.1 (hpz _ hm) j hj
    rw [ho'] at h1
    simpa using h1
   have hcase : i = 0 ∨ i = 1 ∨ i = 2 ∨ i = 3 ∨ i = 4 ∨ i = 5 ∨ i = 6 ∨ i = 7 ∨ i = 8 ∨ i = 9 ∨ i = 10 ∨ i = 11 ∨ i = 12 ∨ i = 13 ∨ i = 14 ∨ i = 15 ∨ i = 16 ∨ i = 17 ∨ i = 18 := by omega
   rcases hcase with rfl | rfl | rfl | rfl | rfl | rfl | rfl | rfl | rfl | rfl | rfl | rfl | rfl | rfl | rfl | rfl | rfl | rfl | rfl
   all_goals (rw [hl] at ho; injection ho with ho; subst ho)
   · have b9 := eval_get ((hold 9 (by rw [hl]; rfl)).trans k9)
     exact wpOp_value ho' rfl (w' := w) (by go_simp) ⟨_, rfl, Below.refl _ _, rfl⟩
   · have b16 := eval_get ((hold 16 (by rw [hl]; rfl)).trans k16)
     exact wpOp_value ho' rfl (w' := w) (by go_simp) ⟨_, rfl, Below.refl _ _, rfl⟩
   · obtain ⟨_, hy1, rfl⟩ := hval 1 _ 110 (by omega) (by rw [hl]; rfl) rfl (hedge 1 (by simp))
     have b110 := eval_get hy1
     exact wpOp_value ho' rfl (w' := w) (by go_simp) ⟨_, rfl, Below.refl _ _, rfl⟩
   · have b9 := eval_get ((hold 9 (by rw [hl]; rfl)).trans k9)
     exact wpOp_value ho' rfl (w' := w) (by go_simp) ⟨_, rfl, Below.refl _ _, rfl⟩
   · have b16 := eval_get ((hold 16 (by rw [hl]; rfl)).trans k16)
     exact wpOp_value ho' rfl (w' := w) (by go_simp) ⟨_, rfl, Below.refl _ _, rfl⟩
   · obtain ⟨_, hy4, rfl⟩ := hval 4 _ 113 (by omega) (by rw [hl]; rfl) rfl (hedge 4 (by simp))
     have b113 := eval_get hy4
     exact wpOp_value ho' rfl (w' := w) (by go_simp) ⟨_, rfl, Below.refl _ _, rfl⟩
   · obtain ⟨_, hy3, rfl⟩ := hval 3 _ 112 (by omega) (by rw [hl]; rfl) rfl (hedge 3 (by simp))
     have b112 := eval_get hy3
     obtain ⟨_, hy5, rfl⟩ := hval 5 _ 114 (by omega) (by rw [hl]; rfl) rfl (hedge 5 (by simp))
     have b114 := eval_get hy5
     exact wpOp_value ho' rfl (w' := w) (by go_simp) ⟨_, rfl, Below.refl _ _, rfl⟩
   · obtain ⟨_, hy6, rfl⟩ := hval 6 _ 115 (by omega) (by rw [hl]; rfl) rfl (hedge 6 (by simp))
     have b115 := eval_get hy6
     exact wpOp_load ho' rfl rfl b115 (h7 w hb) ⟨_, rfl, Below.refl _ _, rfl⟩
   · have b15 := eval_get ((hold 15 (by rw [hl]; rfl)).trans k15)
     exact wpOp_value ho' rfl (w' := w) (by go_simp) ⟨_, rfl, Below.refl _ _, rfl⟩
   · obtain ⟨_, hy8, rfl⟩ := hval 8 _ 117 (by omega) (by rw [hl]; rfl) rfl (hedge 8 (by simp))
     have b117 := eval_get hy8
     exact wpOp_load ho' rfl rfl b117 (h9 w hb) ⟨_, rfl, Below.refl _ _, rfl⟩
   · have b15 := eval_get ((hold 15 (by rw [hl]; rfl)).trans k15)
     exact wpOp_value ho' rfl (w' := w) (by go_simp) ⟨_, rfl, Below.refl _ _, rfl⟩
   · obtain ⟨_, hy10, rfl⟩ := hval 10 _ 119 (by omega) (by rw [hl]; rfl) rfl (hedge 10 (by simp))
     have b119 := eval_get hy10
     exact wpOp_load ho' rfl rfl b119 (h11 w hb) ⟨_, rfl, Below.refl _ _, rfl⟩
   · obtain ⟨_, hy11, rfl⟩ := hval 11 _ 120 (by omega) (by rw [hl]; rfl) rfl (hedge 11 (by simp))
     have b120 := eval_get hy11
     exact wpOp_value ho' rfl (w' := w) (by go_simp) ⟨_, rfl, Below.refl _ _, rfl⟩
   · have b15 := eval_get ((hold 15 (by rw [hl]; rfl)).trans k15)
     exact wpOp_value ho' rfl (w' := w) (by go_simp) ⟨_, rfl, Below.refl _ _, rfl⟩
   · obtain ⟨_, hy13, rfl⟩ := hval 13 _ 122 (by omega) (by rw [hl]; rfl) rfl (hedge 13 (by simp))
     have b122 := eval_get hy13
     exact wpOp_load ho' rfl rfl b122 (h14 w hb) ⟨_, rfl, Below.refl _ _, rfl⟩
   · obtain ⟨_, hy12, rfl⟩ := hval 12 _ 121 (by omega) (by rw [hl]; rfl) rfl (hedge 12 (by simp))
     have b121 := eval_get hy12
     obtain ⟨_, hy14, rfl⟩ := hval 14 _ 123 (by omega) (by rw [hl]; rfl) rfl (hedge 14 (by simp))
     have b123 := eval_get hy14
     exact wpOp_value ho' rfl (w' := w) (by go_simp) ⟨_, rfl, Below.refl _ _, rfl⟩
   · obtain ⟨_, hy9, rfl⟩ := hval 9 _ 118 (by omega) (by rw [hl]; rfl) rfl (hedge 9 (by simp))
     have b118 := eval_get hy9
     obtain ⟨_, hy15, rfl⟩ := hval 15 _ 124 (by omega) (by rw [hl]; rfl) rfl (hedge 15 (by simp))
     have b124 := eval_get hy15
     exact wpOp_value ho' rfl (w' := w) (by go_simp) ⟨_, rfl, Below.refl _ _, rfl⟩
   · obtain ⟨_, hy7, rfl⟩ := hval 7 _ 116 (by omega) (by rw [hl]; rfl) rfl (hedge 7 (by simp))
     have b116 := eval_get hy7
     obtain ⟨_, hy16, rfl⟩ := hval 16 _ 125 (by omega) (by rw [hl]; rfl) rfl (hedge 16 (by simp))
     have b125 := eval_get hy16
     refine wpOp_call ho' rfl rfl (args := #[S0.val, Sec.val ⟨kil, px, 0, 0, 0, 0⟩]) (by simp [b116, b125]) (cf41 _ _) ((h17 w  hb ).mono ?_)
     rintro e w' ⟨rfl, hb2⟩
     exact ⟨_, rfl, _, rfl, hb2, rfl⟩
   · obtain ⟨_, hy0, rfl⟩ := hval 0 _ 109 (by omega) (by rw [hl]; rfl) rfl (hedge 0 (by simp))
     have b109 := eval_get hy0
     obtain ⟨_, hy2, rfl⟩ := hval 2 _ 111 (by omega) (by rw [hl]; rfl) rfl (hedge 2 (by simp))
     have b111 := eval_get hy2
     exact wpOp_value ho' rfl (w' := w) (by go_simp) ⟨_, rfl, Below.refl _ _, rfl⟩
 · intro val w hb hrows
   have hF := hK  w hb
   subst hl
   simp only [List.take_succ_cons, List.take_zero, putAll, Nat.zero_add, Nat.reduceAdd, show val 0 = _ from hrows 0 (by omega), show val 1 = _ from hrows 1 (by omega), show val 2 = _ from hrows 2 (by omega), show val 3 = _ from hrows 3 (by omega), show val 4 = _ from hrows 4 (by omega), show val 5 = _ from hrows 5 (by omega), show val 6 = _ from hrows 6 (by omega), show val 7 = _ from hrows 7 (by omega), show val 8 = _ from hrows 8 (by omega), show val 9 = _ from hrows 9 (by omega), show val 10 = _ from hrows 10 (by omega), show val 11 = _ from hrows 11 (by omega), show val 12 = _ from hrows 12 (by omega), show val 13 = _ from hrows 13 (by omega), show val 14 = _ from hrows 14 (by omega), show val 15 = _ from hrows 15 (by omega), show val 16 = _ from hrows 16 (by omega), show val 17 = _ from hrows 17 (by omega), show val 18 = _ from hrows 18 (by omega)]
   exact hF
end Go.Proofs.Ytcdfnlgimbecgaa
