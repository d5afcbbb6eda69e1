/-
  twistlocklaw18: what the laws own behind Made; calls of Curve that do not fail; stresses read.
  Calls of frac by what they give; fractions in slices; a slice literal of one element, in a list of operations.
  twistlockref01: trim, add.
-/
import Derived.Test.YtcdfnlgimbecgaaMo32
import Derived.Test.YtcdfnlgimbecgaaMo37
import Derived.Test.YtcdfnlgimbecgaaMo38
import Derived.Deep.Cut

namespace Go.Proofs.Ytcdfnlgimbecgaa
open Go.RowKit

theorem Rd.drop1 {w : World} {B size g off : Nat} {css : List (List Value)} (h : Rd w B size (some ⟨g, off, none⟩) css) : Rd w B size (some ⟨g, off + size, none⟩) (css.drop 1) := by
  intro k cs hk
  rw [List.getElem?_drop] at hk
  obtain ⟨b, o, e, hlt, hl, hc⟩ := h (1 + k) cs hk
  simp only [Option.some.injEq, Addr.mk.injEq, and_true] at e
  obtain ⟨rfl, rfl⟩ := e
  refine ⟨g, off + size, rfl, hlt, hl, fun j u hu => ?_⟩
  have h1 := hc j u hu
  have e2 : off + (1 + k) * size + j = off + size + k * size + j := by rw [Nat.add_mul, Nat.one_mul]; omega
  rw [e2] at h1
  exact h1
theorem str_fits (l : List Frm) (S : List Sec) (W : Int) (k : FracV) (j : Nat) : (strF l S W k j).fits := ⟨subL_fits _ _, divL_fits _ _⟩

/-- the state of the law: its frames and weights -/
structure LawSt (w0 w : World) (base g cf : Nat) (D : Option Addr) (d : Nat) (F : List Frm) (L : List Wt) : Prop where
  fr : OwnS w base 44 5 (some ⟨g, 0, none⟩) cf (F.map Frm.cells)
  wt : OwnS w base 46 2 D d (L.map Wt.cells)
  apart : ∀ a, D = some a → a.block ≠ g
  from_ : Below w0.heap.size w0 w
  base_ : base ≤ w.heap.size
  w0b : w0.heap.size ≤ base
theorem LawSt.step {w0 w w' : World} {base g cf d : Nat} {D : Option Addr} {F : List Frm} {L : List Wt} (h : LawSt w0 w base g cf D d F L) (hb : From w w') : LawSt w0 w' base g cf D d F L :=
  ⟨h.fr.below hb (Nat.le_refl _), h.wt.below hb (Nat.le_refl _), h.apart, h.from_.trans (hb.mono h.from_.size), Nat.le_trans h.base_ hb.size, h.w0b⟩
theorem LawSt.append {w0 w w' : World} {base g cf d : Nat} {D : Option Addr} {F : List Frm} {L : List Wt} (h : LawSt w0 w base g cf D d F L) (h1 : OwnS w' base 46 2 D d (L.map Wt.cells)) (h2 : w.grownBy w' (D.map (·.block))) (h3 : Below base w w') : LawSt w0 w' base g cf D d F L := by
  refine ⟨h.fr.keep fun a ha => ?_, h1, h.apart, h.from_.trans (h3.mono h.w0b), Nat.le_trans h.base_ h2.size, h.w0b⟩
  refine h2.block _ (h.fr.lt ha).2 ?_
  injection ha with ha
  subst ha
  intro e
  cases D with
  | none => cases e
  | some q => injection e with e; exact h.apart q rfl e.symm
theorem LawSt.store {w0 w w' : World} {base g cf d : Nat} {D : Option Addr} {F F' : List Frm} {L : List Wt} (h : LawSt w0 w base g cf D d F L) (h1 : OwnS w' base 44 5 (some ⟨g, 0, none⟩) cf (F'.map Frm.cells)) (h2 : w.grownBy w' (some g)) : LawSt w0 w' base g cf D d F' L := by
  have hg := (h.fr.lt rfl).1
  refine ⟨h1, h.wt.keep fun a ha => h2.block _ (h.wt.lt ha).2 (fun e => ?_), h.apart, h.from_.grown h2 h.from_.size (fun q hq => ?_), Nat.le_trans h.base_ h2.size, h.w0b⟩
  · injection e with e
    exact h.apart a ha e
  · injection hq with hq
    have := h.w0b
    simp only at hg
    omega
theorem Rd.grown {w w' : World} {g size : Nat} {A : Option Addr} {css : List (List Value)} (h : Rd w w.heap.size size A css) (h2 : w.grownBy w' (some g)) (hA : ∀ a, A = some a → a.block ≠ g) : Rd w' w'.heap.size size A css := by
  intro k cs hk
  obtain ⟨b, off, e, hlt, hl, hc⟩ := h k cs hk
  refine ⟨b, off, e, Nat.lt_of_lt_of_le hlt h2.size, hl, fun j u hu => ?_⟩
  have h3 := hc j u hu
  have h4 : w'.heap[b]? = w.heap[b]? := h2.block b hlt (fun e2 => by injection e2 with e2; exact hA _ e e2)
  rw [← h3]
  unfold World.cell?
  simp only [h4]

theorem wpList_stO0 {P : Program} {w : World} {ops : Array Oper} {rest : List Oper} {o : Oper} {a : Act} {Q : Exit → Act → World → Prop} {T base e size c g i : Nat} {css : List (List Value)} {v : Value} (hgd : o.guard = none) (x y : Operand) (ho : o.op = .store T x y)
    (hx : a.eval x = .pointer (some ⟨g, i * size, none⟩)) (hy : a.eval y = v) (hsz : (P.info? T).map (·.size) = some 1) (hv : v.cells.toList = [v]) (h1 : v.oneCell' = true) (hown : OwnS w base e size (some ⟨g, 0, none⟩) c css) (hi : i < css.length) (hj : 0 < size)
    (h : ∀ w', OwnS w' base e size (some ⟨g, 0, none⟩) c (css.set i ((css[i]).set 0 v)) → w.grownBy w' (some g) → wpList P ops Q rest (a.put o.dst undef) w') : wpList P ops Q (o :: rest) a w :=
  wpList_stO (i := i) (j := 0) hgd x y ho (by rw [hx, Nat.add_zero]) hy hsz hv h1 hown hi hj h
/-- a call of Curve that does not fail -/
theorem curve_good {F : List Frm} {ws : List Wt} {S : List Sec} (hr : curveF F ws = (curveS F S, 0)) (A D : Option Addr) (c d n m : Nat) (hn : n = F.length) (hm : m = ws.length) (w : World) (h : Rd w w.heap.size 5 A (F.map Frm.cells)) (h' : Rd w w.heap.size 2 D (ws.map Wt.cells)) (hl : F.length ≤ 1000000) (hws : ws.length ≤ 1000000) :
    Calls Try.prog 12 #[.slice A n c, .slice D m d] w fun e w' => ∃ A' c', e = .returned (.tuple #[.slice A' n c', .int .i64 0]) ∧ Rd w' w'.heap.size 34 A' ((curveS F S).map Str.cells) ∧ Below w.heap.size w w' ∧ n ≤ c' ∧ ∀ a, A' = some a → w.heap.size ≤ a.block := by
  have h1 := st_Curve A D c d n m F ws hn hm w h h' hl hws
  rw [hr] at h1
  have hlen : (curveS F S).length = n := by unfold curveS; simp [hn]
  refine h1.mono ?_
  rintro e w' ⟨A', c', rfl, h2, h3, h4, h5⟩
  refine ⟨A', c', ?_, h2, h3, ?_, h5⟩
  · show Ending.returned (.tuple #[.slice A' (curveS F S).length c', .int .i64 0]) = _
    rw [hlen]
  · rw [← hlen]
    exact h4

theorem str_fld {w : World} {B g o : Nat} {css : List (List Value)} (h : Rd w B 34 (some ⟨g, o, none⟩) css) {k : Nat} {s : Str} (hk : css[k]? = some s.cells) :
    ∀ w', Below B w w' → (loadVar 37 ⟨g, o + k * 34, none⟩).run Try.prog w' = .ok s.shear.val w' ∧ (loadVar 37 ⟨g, o + k * 34 + 17, none⟩).run Try.prog w' = .ok s.bend.val w' ∧ (loadVar 40 ⟨g, o + k * 34, none⟩).run Try.prog w' = .ok s.val w' := by
  intro w' hb
  obtain ⟨b, off, e, hlt, _, hc⟩ := h k s.cells hk
  simp only [Option.some.injEq, Addr.mk.injEq, and_true] at e
  obtain ⟨rfl, rfl⟩ := e
  have hq : ∀ j u, s.cells[j]? = some u → w'.cell? ⟨g, o + k * 34 + j, none⟩ = some u := fun j u hu => (hb.cell (p := ⟨g, _, none⟩) (by simpa using hlt)).trans (hc j u hu)
  refine ⟨run_load_cells (cs := s.shear.cells) frac_row s.shear.cells_len fun j x hx => ?_, run_load_cells (cs := s.bend.cells) frac_row s.bend.cells_len fun j x hx => ?_, run_load_cells (cs := s.cells) str_row s.cells_len fun j x hx => ?_⟩
  · rw [Addr.add_lit]
    refine hq j x ?_
    unfold Str.cells
    rw [List.getElem?_append_left (List.getElem?_eq_some_iff.1 hx).1]
    exact hx
  · rw [Addr.add_lit, Nat.add_assoc]
    refine hq (17 + j) x ?_
    unfold Str.cells
    rw [List.getElem?_append_right (by rw [s.shear.cells_len]; omega), s.shear.cells_len, show 17 + j - 17 = j by omega]
    exact hx
  · rw [Addr.add_lit]
    exact hq j x hx
theorem curveS_get (F : List Frm) (S : List Sec) {k : Nat} (hk : k < F.length) : ((curveS F S).map Str.cells)[k]? = some (strF F S (addAll S).a0 (kF S) k).cells := by
  unfold curveS
  rw [List.map_map, List.getElem?_map, List.getElem?_range hk]
  rfl
theorem curveS_some {w : World} {B : Nat} {A : Option Addr} {F : List Frm} {S : List Sec} (h : Rd w B 34 A ((curveS F S).map Str.cells)) (hF : 0 < F.length) : ∃ g o, A = some ⟨g, o, none⟩ := by
  obtain ⟨g, o, e, _⟩ := h 0 _ (curveS_get F S hF)
  exact ⟨g, o, e⟩
/-- the weights from one on -/
theorem Rd.dropN {w : World} {B size g off : Nat} {css : List (List Value)} (h : Rd w B size (some ⟨g, off, none⟩) css) (n : Nat) : Rd w B size (some ⟨g, off + n * size, none⟩) (css.drop n) := by
  intro k cs hk
  rw [List.getElem?_drop] at hk
  obtain ⟨b, o, e, hlt, hl, hc⟩ := h (n + k) cs hk
  simp only [Option.some.injEq, Addr.mk.injEq, and_true] at e
  obtain ⟨rfl, rfl⟩ := e
  refine ⟨g, off + n * size, rfl, hlt, hl, fun j u hu => ?_⟩
  have h1 := hc j u hu
  have e2 : off + (n + k) * size + j = off + n * size + k * size + j := by rw [Nat.add_mul]; omega
  rw [e2] at h1
  exact h1

end Go.Proofs.Ytcdfnlgimbecgaa

namespace Go.Proofs.Ytcdfnlgimbecgaa
open Go.RowKit

theorem sub_is {f g z : FracV} (h : (subL f g).1 = z) (hf : f.fits) (hg : g.fits) : ∃ e : Int, ∀ w, Calls Try.prog 16 #[f.val, g.val] w fun x w' => x = .returned (.tuple #[z.val, .int .i64 e]) ∧ From w w' :=
  ⟨(subL f g).2, fun w => by rw [← h]; exact frac_Sub f g hf hg w⟩
theorem add_is {f g z : FracV} (h : (addL f g).1 = z) (hf : f.fits) (hg : g.fits) : ∃ e : Int, ∀ w, Calls Try.prog 17 #[f.val, g.val] w fun x w' => x = .returned (.tuple #[z.val, .int .i64 e]) ∧ From w w' :=
  ⟨(addL f g).2, fun w => by rw [← h]; exact frac_Add f g hf hg w⟩
theorem mul_is {f g z : FracV} (h : (mulL f g).1 = z) (hf : f.fits) (hg : g.fits) : ∃ e : Int, ∀ w, Calls Try.prog 18 #[f.val, g.val] w fun x w' => x = .returned (.tuple #[z.val, .int .i64 e]) ∧ From w w' :=
  ⟨(mulL f g).2, fun w => by rw [← h]; exact frac_Mul f g hf hg w⟩
theorem of_is (n : Int) (h : inI n) (w : World) : Calls Try.prog 13 #[.int .i64 n] w fun x w' => x = .returned (ofL n).val ∧ From w w' := frac_Of n h.1 h.2 w
theorem zfF : (Try.prog.info? 37).bind (·.zero) = some zeroF.val := by kernel_rfl
theorem FracV.ei : EI Try.prog 47 37 17 68 := EI.mk (z := zeroF.val) Try.underlying47 (by kernel_rfl) rfl (by omega)
theorem g_bsl {P : Program} {w : World} {ops : Array Oper} {rest : List Oper} {a : Act} {Q : Exit → Act → World → Prop} (T : Nat) {n : Nat} {ps : Array (Nat × Operand)} {d : Option Nat} {ty : TypeId} {pos : String} {aft : Array Edge} {gd : Option (Nat × Bool)}
    (h : wpList P ops Q (⟨d, .buildSlice T n ps, ty, pos, aft, gd⟩ :: rest) a w) : wpList P ops Q (⟨d, .buildSlice T n ps, ty, pos, aft, gd⟩ :: rest) a w := h
theorem wpList_slc {P : Program} {w : World} {ops : Array Oper} {rest : List Oper} {o : Oper} {a : Act} {Q : Exit → Act → World → Prop} {t e sz : Nat} {x : Operand} {u z : Value} {cs : List Value} (hgd : o.guard = none) (ho : o.op = .buildSlice t 1 #[(0, x)]) (hx : a.eval x = u) (he : elemOf P t = some (e, sz)) (hz : (P.info? e).bind (·.zero) = some z) (hzs : z.cells.size = sz) (hu : u.cells = cs.toArray) (hl : cs.length = sz) (h0 : 0 < sz) (h24 : sz ≤ 2 ^ 24)
    (h : wpList P ops Q rest (a.put o.dst (.slice (some ⟨w.heap.size, 0, none⟩) 1 1)) (w.alloc (.cells cs.toArray e))) : wpList P ops Q (o :: rest) a w := by
  obtain ⟨d, op, ty, pos, aft, gd⟩ := o
  simp only at ho
  subst ho
  have h1 := ok_slice1 (P := P) (ρ := a.eval) (d := d) (ty := ty) (pos := pos) (aft := aft) (gd := gd) (w := w) hx he hz hzs (by rw [hu]; simp [hl]) h0 h24
  rw [hu] at h1
  refine wpList_plain hgd fun K hK => ?_
  unfold Oper.wp
  rw [h1]
  exact hK _ _ h
/-- a fraction of a stress that lies in a slice -/
theorem Rd.shear {w w1 : World} {g o : Nat} {css : List (List Value)} (h : Rd w w.heap.size 34 (some ⟨g, o, none⟩) css) {k : Nat} {s : Str} (hk : css[k]? = some s.cells) (hb : From w w1) : (loadVar 37 ⟨g, o + k * 34, none⟩).run Try.prog w1 = .ok s.shear.val w1 := (str_fld h hk w1 hb).1
theorem Rd.bend {w w1 : World} {g o : Nat} {css : List (List Value)} (h : Rd w w.heap.size 34 (some ⟨g, o, none⟩) css) {k : Nat} {s : Str} (hk : css[k]? = some s.cells) (hb : From w w1) : (loadVar 37 ⟨g, o + k * 34 + 17, none⟩).run Try.prog w1 = .ok s.bend.val w1 := (str_fld h hk w1 hb).2.1
end Go.Proofs.Ytcdfnlgimbecgaa

namespace Go.Proofs.Ytcdfnlgimbecgaa
open Go.RowKit

set_option maxHeartbeats 1000000 in
theorem ref_trim (A : Option Addr) (c n : Nat) (l : List Nat) (hn : n = l.length) (w : World) (h : Rd w w.heap.size 1 A (nums .i64 l)) (hl : Digs B16 l) (hlen : l.length ≤ 1000000000) (hcap : l.length ≤ c) :
    Calls Try.prog 127 #[.slice A n c] w fun e w' => e = .returned (.slice A (len16 (valB B16 l)) c) ∧ w' = w := by
  subst hn
  go_enter Try.func127, Try.ntmps127
  go_wp2
  go_loop [0] (fun v => ∃ k : Nat, k ≤ l.length ∧ v = .slice A k c ∧ ∀ d ∈ l.drop k, d = 0) (fun v => lenOf v)
  case atStart => exact ⟨l.length, Nat.le_refl _, rfl, by simp⟩
  case round =>
    obtain ⟨k, hk, rfl, hz⟩ := hrel
    have HZ := Lib.hid hz
    clear hz
    by_cases hk0 : k = 0
    · subst hk0
      have HT : Hid (len16 (valB B16 l) = 0) := by unfold Hid len16; rw [trim_dig hB16 hl (Nat.zero_le _) HZ.out (.inl rfl)]; simp
      go_wp2
      go_ret
      exact ⟨by rw [HT.out]; rfl, rfl⟩
    · obtain ⟨j, rfl⟩ : ∃ j, k = j + 1 := ⟨k - 1, by omega⟩
      obtain ⟨b, off, rfl, hb, hld⟩ := num_ld Try.underlying3 rfl h (show j < l.length by omega)
      have HL := Lib.hid (hld w (Below.refl _ _))
      clear hld
      by_cases hz0 : l[j] = 0
      · have e0 : ((l[j] : Int) == 0) = true := by simp [hz0]
        have hcj : ¬ c < j := by omega
        go_wp2_with (first
          | ((with_reducible refine g_ld 3 ?_); (first | refine wpList_ld rfl _ _ rfl _ rfl _ HL.out ?_ | refine wpList_ldw rfl _ _ rfl _ rfl _ HL.out ?_)))
        go_round
        case rel =>
          refine ⟨j, by omega, by simp, fun d hd => ?_⟩
          rw [List.drop_eq_getElem_cons (show j < l.length by omega)] at hd
          rcases List.mem_cons.1 hd with h1 | h1
          · rw [h1, hz0]
          · exact HZ.out d h1
        case measure => simp [lenOf]
      · have HT : Hid (len16 (valB B16 l) = j + 1) := by
          unfold Hid len16
          rw [trim_dig hB16 hl hk HZ.out (.inr ⟨j, rfl, by simp [show j < l.length by omega]; exact hz0⟩)]
          simp
          omega
        have e0 : ((l[j] : Int) == 0) = false := by simp [hz0]
        go_wp2_with (first
          | ((with_reducible refine g_ld 3 ?_); (first | refine wpList_ld rfl _ _ rfl _ rfl _ HL.out ?_ | refine wpList_ldw rfl _ _ rfl _ rfl _ HL.out ?_)))
        go_ret
        exact ⟨by rw [HT.out]; rfl, rfl⟩

/-- digits that are as many as those of their value -/
theorem dig_full {B : Nat} (hB : 2 ≤ B) {l : List Nat} (hl : Digs B l) (h : l.length ≤ (dig B (valB B l)).length) : dig B (valB B l) = l := by
  rw [dig_take hB hl, List.take_of_length_le h]
theorem add_step {B : Nat} {a b o : List Nat} {c : Nat} (hV : valB B o + B ^ o.length * c = valB B (a.take o.length) + valB B (b.take o.length)) :
    valB B (o ++ [(c + a.getD o.length 0 + b.getD o.length 0) % B]) + B ^ (o.length + 1) * ((c + a.getD o.length 0 + b.getD o.length 0) / B) = valB B (a.take (o.length + 1)) + valB B (b.take (o.length + 1)) := by
  rw [valB_snoc, valB_take_getD, valB_take_getD, Nat.pow_succ]
  generalize a.getD o.length 0 = p at *
  generalize b.getD o.length 0 = q at *
  generalize B ^ o.length = P at *
  have h := Nat.mod_add_div (c + p + q) B
  generalize (c + p + q) % B = r at *
  generalize (c + p + q) / B = d at *
  grind


set_option maxRecDepth 100000 in
set_option maxHeartbeats 4000000 in
theorem ref_add (A D : Option Addr) (ca cd : Nat) (x y n m : Nat) (hn : n = len16 x) (hm : m = len16 y) (w : World) (hA : Rd16 w A x) (hD : Rd16 w D y) (hx : len16 x ≤ 1000) (hy : len16 y ≤ 1000) :
    Calls Try.prog 124 #[.slice A n ca, .slice D m cd] w fun e w' => ∃ A' c', e = .returned (.slice A' (len16 (x + y)) c') ∧ Rd16 w' A' (x + y) ∧ len16 (x + y) ≤ c' ∧ From w w' := by
  have HA := Lib.hid hA
  have HD := Lib.hid hD
  have HX := Lib.hid (And.intro hn hm)
  have hn1 : n ≤ 1000 := by omega
  have hm1 : m ≤ 1000 := by omega
  clear hA hD hn hm hx hy
  go_enter Try.func124, Try.ntmps124
  go_wp2
  have HM0 := Lib.hid ((Mem.nil w).none 3 1)
  go_loopw [5, 6, 7] (fun v5 v6 v7 wq => ∃ (i c : Nat) (o : List Nat) (A1 : Option Addr) (c1 : Nat), i ≤ 1001 ∧ v7 = .int .i64 i ∧ v6 = .int .i64 c ∧ v5 = .slice A1 i c1 ∧ o.length = i ∧ Digs B16 o ∧ valB B16 o + B16 ^ i * c = valB B16 ((dig B16 x).take i) + valB B16 ((dig B16 y).take i) ∧ (c ≤ 1 ∧ (i ≤ n ∨ i ≤ m ∨ (c = 0 ∧ (i = n + 1 ∨ i = m + 1) ∧ B16 ^ (i - 1) ≤ x + y))) ∧ Mem w wq [.row 3 1 A1 c1 (nums .i64 o)]) (fun _ _ v7 _ => 2004 - (intOf v7).toNat)
  case atStart => exact ⟨0, 0, [], none, 0, by omega, rfl, rfl, rfl, rfl, (fun _ h => by cases h), by simp [valB], ⟨by omega, .inl (Nat.zero_le _)⟩, HM0.out⟩
  case round =>
    clear HM0
    obtain ⟨i, c, o, A1, c1, hi1, rfl, rfl, rfl, hol, hod, hval, hcc, hmem⟩ := hrel
    have HM := Lib.hid hmem
    have HOD := Lib.hid hod
    have HV := Lib.hid hval
    have HOL' : Hid (o.length = i) := hol
    have HOL : Hid (i = (nums .i64 o).length) := by unfold Hid; rw [nums_len, hol]
    clear hmem hod hval
    have hi10 : i ≤ 1002 := by omega
    have wI : IntKind.i64.wrap ((i : Int) + 1) = (i : Int) + 1 := wrap_i64 (by omega) (by omega)
    have hXn : (dig B16 x).length = n := HX.out.1.symm
    have hYm : (dig B16 y).length = m := HX.out.2.symm
    by_cases hin : i < n
    · have hini : (i : Int) < (n : Int) := by omega
      obtain ⟨b1, o1, rfl, _, hl1⟩ := num_ld Try.underlying3 rfl HA.out (show i < (dig B16 x).length by omega)
      have HL1 := Lib.hid (hl1 wr HM.out.from_)
      have ex : (dig B16 x).getD i 0 = (dig B16 x)[i]'(by omega) := by simp [show i < (dig B16 x).length by omega]
      rw [← ex] at HL1
      clear hl1
      by_cases him : i < m
      · have himi : (i : Int) < (m : Int) := by omega
        obtain ⟨b2, o2, rfl, _, hl2⟩ := num_ld Try.underlying3 rfl HD.out (show i < (dig B16 y).length by omega)
        have HL2 := Lib.hid (hl2 wr HM.out.from_)
        have ey : (dig B16 y).getD i 0 = (dig B16 y)[i]'(by omega) := by simp [show i < (dig B16 y).length by omega]
        rw [← ey] at HL2
        clear hl2
        obtain ⟨s, hs⟩ : ∃ s, s = c + (dig B16 x).getD i 0 + (dig B16 y).getD i 0 := ⟨_, rfl⟩
        obtain ⟨r, hr⟩ : ∃ r, r = s % 65536 := ⟨_, rfl⟩
        obtain ⟨q, hq⟩ : ∃ q, q = s / 65536 := ⟨_, rfl⟩
        have hst := add_step (B := B16) (a := dig B16 x) (b := dig B16 y) (o := o) (c := c) (by rw [HOL'.out]; exact HV.out)
        rw [HOL'.out, ← hs] at hst
        have HST : Hid (valB B16 (o ++ [r]) + B16 ^ (i + 1) * q = valB B16 ((dig B16 x).take (i + 1)) + valB B16 ((dig B16 y).take (i + 1))) := by unfold Hid; rw [hr, hq]; exact hst
        have HRB : Hid (r < B16) := by unfold Hid; rw [hr]; exact Nat.mod_lt _ (by decide)
        have w3' : (s : Int).tmod 65536 = (r : Int) := by rw [hr]; rfl
        have w4' : (s : Int).tdiv 65536 = (q : Int) := by rw [hq]; rfl
        have xb := (Digs.dig hB16 x).getD (by decide) i
        have yb := (Digs.dig hB16 y).getD (by decide) i
        have hq1 : q ≤ 1 := by have h1 : s ≤ 131071 := by { have e : B16 = 65536 := rfl; omega }; omega
        have wS3 : IntKind.i64.wrap (s : Int) = (s : Int) := by have e : B16 = 65536 := rfl; exact wrap_i64 (by omega) (by omega)
        clear hst
        have HNX : Hid (q ≤ 1 ∧ (i + 1 ≤ n ∨ i + 1 ≤ m ∨ (q = 0 ∧ (i + 1 = n + 1 ∨ i + 1 = m + 1) ∧ B16 ^ (i + 1 - 1) ≤ x + y))) := ⟨hq1, .inl (by omega)⟩
        generalize (dig B16 x).getD i 0 = xa at *
        generalize (dig B16 y).getD i 0 = ya at *
        have eB : B16 = 65536 := rfl
        obtain ⟨s1, hs1⟩ : ∃ s1, s1 = c + xa := ⟨_, rfl⟩
        have wS1 : IntKind.i64.wrap ((c : Int) + (xa : Int)) = (s1 : Int) := by rw [wrap_i64 (by omega) (by omega)]; omega
        have wS2 : IntKind.i64.wrap ((s1 : Int) + (ya : Int)) = (s : Int) := by rw [wrap_i64 (by omega) (by omega)]; omega
        clear hs hr hq hs1 ex ey xb yb hXn hYm eB
        go_wp2_with (first
          | ((with_reducible refine g_ld 3 ?_); refine wpList_ld rfl _ _ rfl _ rfl _ HL1.out ?_)
          | ((with_reducible refine g_ld 3 ?_); refine wpList_ld rfl _ _ rfl _ rfl _ HL2.out ?_)
          | (at_builtin; (refine wpList_append_M rfl _ _ rfl int_ei i HOL.out rfl (HM.out.any _) 0 rfl rfl (Rd.new2 wr 3 1 [.int .i64 (r : Int)] rfl) rfl (by simp [Value.oneCell']) (by rw [← HOL.out]; unfold maxLen; omega) (by rw [← HOL.out]; omega) ?_); intro A3 c3 w2 h2; have HM2 := Lib.hid h2; clear h2 HM))
        go_roundw
        case rel =>
          refine ⟨i + 1, q, o ++ [r], A3, c3, by omega, by go_num, by go_num, by go_num, ?_, ?_, HST.out, HNX.out, ?_⟩
          · rw [List.length_append, HOL'.out]; rfl
          · exact HOD.out.append (fun d hd => by rw [List.mem_singleton] at hd; subst hd; exact HRB.out)
          · have h1 := HM2.out
            rw [nums_append]
            exact h1
        case measure => simp [intOf]; omega
      · have himi : ¬ (i : Int) < (m : Int) := by omega
        obtain ⟨s, hs⟩ : ∃ s, s = c + (dig B16 x).getD i 0 + (dig B16 y).getD i 0 := ⟨_, rfl⟩
        obtain ⟨r, hr⟩ : ∃ r, r = s % 65536 := ⟨_, rfl⟩
        obtain ⟨q, hq⟩ : ∃ q, q = s / 65536 := ⟨_, rfl⟩
        have hst := add_step (B := B16) (a := dig B16 x) (b := dig B16 y) (o := o) (c := c) (by rw [HOL'.out]; exact HV.out)
        rw [HOL'.out, ← hs] at hst
        have HST : Hid (valB B16 (o ++ [r]) + B16 ^ (i + 1) * q = valB B16 ((dig B16 x).take (i + 1)) + valB B16 ((dig B16 y).take (i + 1))) := by unfold Hid; rw [hr, hq]; exact hst
        have HRB : Hid (r < B16) := by unfold Hid; rw [hr]; exact Nat.mod_lt _ (by decide)
        have w3' : (s : Int).tmod 65536 = (r : Int) := by rw [hr]; rfl
        have w4' : (s : Int).tdiv 65536 = (q : Int) := by rw [hq]; rfl
        have xb := (Digs.dig hB16 x).getD (by decide) i
        have yb := (Digs.dig hB16 y).getD (by decide) i
        have hq1 : q ≤ 1 := by have h1 : s ≤ 131071 := by { have e : B16 = 65536 := rfl; omega }; omega
        have wS3 : IntKind.i64.wrap (s : Int) = (s : Int) := by have e : B16 = 65536 := rfl; exact wrap_i64 (by omega) (by omega)
        clear hst
        have HNX : Hid (q ≤ 1 ∧ (i + 1 ≤ n ∨ i + 1 ≤ m ∨ (q = 0 ∧ (i + 1 = n + 1 ∨ i + 1 = m + 1) ∧ B16 ^ (i + 1 - 1) ≤ x + y))) := ⟨hq1, .inl (by omega)⟩
        have ey : (dig B16 y).getD i 0 = 0 := by simp [show (dig B16 y).length ≤ i by omega]
        rw [ey] at hs
        generalize (dig B16 x).getD i 0 = xa at *
        have eB : B16 = 65536 := rfl
        have wS1 : IntKind.i64.wrap ((c : Int) + (xa : Int)) = (s : Int) := by rw [wrap_i64 (by omega) (by omega)]; omega
        clear hs hr hq ex ey xb yb hXn hYm eB
        go_wp2_with (first
          | ((with_reducible refine g_ld 3 ?_); refine wpList_ld rfl _ _ rfl _ rfl _ HL1.out ?_)
          | (at_builtin; (refine wpList_append_M rfl _ _ rfl int_ei i HOL.out rfl (HM.out.any _) 0 rfl rfl (Rd.new2 wr 3 1 [.int .i64 (r : Int)] rfl) rfl (by simp [Value.oneCell']) (by rw [← HOL.out]; unfold maxLen; omega) (by rw [← HOL.out]; omega) ?_); intro A3 c3 w2 h2; have HM2 := Lib.hid h2; clear h2 HM))
        go_roundw
        case rel =>
          refine ⟨i + 1, q, o ++ [r], A3, c3, by omega, by go_num, by go_num, by go_num, ?_, ?_, HST.out, HNX.out, ?_⟩
          · rw [List.length_append, HOL'.out]; rfl
          · exact HOD.out.append (fun d hd => by rw [List.mem_singleton] at hd; subst hd; exact HRB.out)
          · have h1 := HM2.out
            rw [nums_append]
            exact h1
        case measure => simp [intOf]; omega
    · have hini : ¬ (i : Int) < (n : Int) := by omega
      by_cases him : i < m
      · have himi : (i : Int) < (m : Int) := by omega
        obtain ⟨b2, o2, rfl, _, hl2⟩ := num_ld Try.underlying3 rfl HD.out (show i < (dig B16 y).length by omega)
        have HL2 := Lib.hid (hl2 wr HM.out.from_)
        have ey : (dig B16 y).getD i 0 = (dig B16 y)[i]'(by omega) := by simp [show i < (dig B16 y).length by omega]
        rw [← ey] at HL2
        clear hl2
        obtain ⟨s, hs⟩ : ∃ s, s = c + (dig B16 x).getD i 0 + (dig B16 y).getD i 0 := ⟨_, rfl⟩
        obtain ⟨r, hr⟩ : ∃ r, r = s % 65536 := ⟨_, rfl⟩
        obtain ⟨q, hq⟩ : ∃ q, q = s / 65536 := ⟨_, rfl⟩
        have hst := add_step (B := B16) (a := dig B16 x) (b := dig B16 y) (o := o) (c := c) (by rw [HOL'.out]; exact HV.out)
        rw [HOL'.out, ← hs] at hst
        have HST : Hid (valB B16 (o ++ [r]) + B16 ^ (i + 1) * q = valB B16 ((dig B16 x).take (i + 1)) + valB B16 ((dig B16 y).take (i + 1))) := by unfold Hid; rw [hr, hq]; exact hst
        have HRB : Hid (r < B16) := by unfold Hid; rw [hr]; exact Nat.mod_lt _ (by decide)
        have w3' : (s : Int).tmod 65536 = (r : Int) := by rw [hr]; rfl
        have w4' : (s : Int).tdiv 65536 = (q : Int) := by rw [hq]; rfl
        have xb := (Digs.dig hB16 x).getD (by decide) i
        have yb := (Digs.dig hB16 y).getD (by decide) i
        have hq1 : q ≤ 1 := by have h1 : s ≤ 131071 := by { have e : B16 = 65536 := rfl; omega }; omega
        have wS3 : IntKind.i64.wrap (s : Int) = (s : Int) := by have e : B16 = 65536 := rfl; exact wrap_i64 (by omega) (by omega)
        clear hst
        have HNX : Hid (q ≤ 1 ∧ (i + 1 ≤ n ∨ i + 1 ≤ m ∨ (q = 0 ∧ (i + 1 = n + 1 ∨ i + 1 = m + 1) ∧ B16 ^ (i + 1 - 1) ≤ x + y))) := ⟨hq1, .inr (.inl (by omega))⟩
        have ex : (dig B16 x).getD i 0 = 0 := by simp [show (dig B16 x).length ≤ i by omega]
        rw [ex] at hs
        generalize (dig B16 y).getD i 0 = ya at *
        have eB : B16 = 65536 := rfl
        have wS1 : IntKind.i64.wrap ((c : Int) + (ya : Int)) = (s : Int) := by rw [wrap_i64 (by omega) (by omega)]; omega
        clear hs hr hq ex ey xb yb hXn hYm eB
        go_wp2_with (first
          | ((with_reducible refine g_ld 3 ?_); refine wpList_ld rfl _ _ rfl _ rfl _ HL2.out ?_)
          | (at_builtin; (refine wpList_append_M rfl _ _ rfl int_ei i HOL.out rfl (HM.out.any _) 0 rfl rfl (Rd.new2 wr 3 1 [.int .i64 (r : Int)] rfl) rfl (by simp [Value.oneCell']) (by rw [← HOL.out]; unfold maxLen; omega) (by rw [← HOL.out]; omega) ?_); intro A3 c3 w2 h2; have HM2 := Lib.hid h2; clear h2 HM))
        go_roundw
        case rel =>
          refine ⟨i + 1, q, o ++ [r], A3, c3, by omega, by go_num, by go_num, by go_num, ?_, ?_, HST.out, HNX.out, ?_⟩
          · rw [List.length_append, HOL'.out]; rfl
          · exact HOD.out.append (fun d hd => by rw [List.mem_singleton] at hd; subst hd; exact HRB.out)
          · have h1 := HM2.out
            rw [nums_append]
            exact h1
        case measure => simp [intOf]; omega
      · have himi : ¬ (i : Int) < (m : Int) := by omega
        have hfx : (dig B16 x).take i = dig B16 x := List.take_of_length_le (by omega)
        have hfy : (dig B16 y).take i = dig B16 y := List.take_of_length_le (by omega)
        by_cases hc0 : c = 0
        · subst hc0
          have hcc0 : ¬ (0 : Int) < ((0 : Nat) : Int) := by decide
          have hv := HV.out
          rw [hfx, hfy, val_dig hB16, val_dig hB16, Nat.mul_zero, Nat.add_zero] at hv
          have hle : i ≤ len16 (x + y) := by
            rcases hcc.2 with h1 | h1 | ⟨_, h1, h2⟩
            · rcases Nat.eq_zero_or_pos i with h0 | h0
              · omega
              · have h3 := (dig_len_lt_iff hB16 (n := x) (k := i - 1)).1 (by omega)
                have h4 := (dig_len_lt_iff hB16 (n := x + y) (k := i - 1)).2 (by omega)
                unfold len16
                omega
            · rcases Nat.eq_zero_or_pos i with h0 | h0
              · omega
              · have h3 := (dig_len_lt_iff hB16 (n := y) (k := i - 1)).1 (by omega)
                have h4 := (dig_len_lt_iff hB16 (n := x + y) (k := i - 1)).2 (by omega)
                unfold len16
                omega
            · have h4 := (dig_len_lt_iff hB16 (n := x + y) (k := i - 1)).2 h2
              unfold len16
              omega
          have hd : dig B16 (x + y) = o := by rw [← hv]; exact dig_full hB16 HOD.out (by rw [hv, HOL'.out]; exact hle)
          have HDD := Lib.hid hd
          clear hfx hfy hcc hv hle hd hXn hYm
          go_wp2
          go_ret
          have hl : len16 (x + y) = i := by unfold len16; rw [HDD.out]; exact HOL'.out
          refine ⟨A1, c1, by rw [hl]; rfl, ?_, ?_, HM.out.from_⟩
          · have h1 := HM.out.rd (i := 0) rfl
            show Rd wr wr.heap.size 1 A1 (nums .i64 (dig B16 (x + y)))
            rw [HDD.out]
            exact h1
          · have h1 := (HM.out.own (i := 0) rfl).cap
            rw [nums_len, HOL'.out] at h1
            rw [hl]
            exact h1.1
        · have hcc0 : (0 : Int) < (c : Int) := by omega
          obtain ⟨s, hs⟩ : ∃ s, s = c + (dig B16 x).getD i 0 + (dig B16 y).getD i 0 := ⟨_, rfl⟩
          obtain ⟨r, hr⟩ : ∃ r, r = s % 65536 := ⟨_, rfl⟩
          obtain ⟨q, hq⟩ : ∃ q, q = s / 65536 := ⟨_, rfl⟩
          have hst := add_step (B := B16) (a := dig B16 x) (b := dig B16 y) (o := o) (c := c) (by rw [HOL'.out]; exact HV.out)
          rw [HOL'.out, ← hs] at hst
          have HST : Hid (valB B16 (o ++ [r]) + B16 ^ (i + 1) * q = valB B16 ((dig B16 x).take (i + 1)) + valB B16 ((dig B16 y).take (i + 1))) := by unfold Hid; rw [hr, hq]; exact hst
          have HRB : Hid (r < B16) := by unfold Hid; rw [hr]; exact Nat.mod_lt _ (by decide)
          have w3' : (s : Int).tmod 65536 = (r : Int) := by rw [hr]; rfl
          have w4' : (s : Int).tdiv 65536 = (q : Int) := by rw [hq]; rfl
          have xb := (Digs.dig hB16 x).getD (by decide) i
          have yb := (Digs.dig hB16 y).getD (by decide) i
          have hq1 : q ≤ 1 := by have h1 : s ≤ 131071 := by { have e : B16 = 65536 := rfl; omega }; omega
          have wS3 : IntKind.i64.wrap (s : Int) = (s : Int) := by have e : B16 = 65536 := rfl; exact wrap_i64 (by omega) (by omega)
          clear hst
          have ex : (dig B16 x).getD i 0 = 0 := by simp [show (dig B16 x).length ≤ i by omega]
          have ey : (dig B16 y).getD i 0 = 0 := by simp [show (dig B16 y).length ≤ i by omega]
          rw [ex, ey] at hs
          have hc1 : c = 1 := by omega
          have hs1 : s = 1 := by omega
          subst hc1 hs1
          have hv := HV.out
          rw [hfx, hfy, val_dig hB16, val_dig hB16, Nat.mul_one] at hv
          have HNX : Hid (q ≤ 1 ∧ (i + 1 ≤ n ∨ i + 1 ≤ m ∨ (q = 0 ∧ (i + 1 = n + 1 ∨ i + 1 = m + 1) ∧ B16 ^ (i + 1 - 1) ≤ x + y))) := ⟨hq1, .inr (.inr ⟨by omega, by omega, by rw [Nat.add_sub_cancel, ← hv]; exact Nat.le_add_left _ _⟩)⟩
          have wT : (1 : Int).tmod 65536 = (r : Int) := w3'
          have wQ : (1 : Int).tdiv 65536 = (q : Int) := w4'
          clear hs hr hq ex ey xb yb hXn hYm hfx hfy hv
          go_wp2_with (first
            | (at_builtin; (refine wpList_append_M rfl _ _ rfl int_ei i HOL.out rfl (HM.out.any _) 0 rfl rfl (Rd.new2 wr 3 1 [.int .i64 (r : Int)] rfl) rfl (by simp [Value.oneCell']) (by rw [← HOL.out]; unfold maxLen; omega) (by rw [← HOL.out]; omega) ?_); intro A3 c3 w2 h2; have HM2 := Lib.hid h2; clear h2 HM))
          go_roundw
          case rel =>
            refine ⟨i + 1, q, o ++ [r], A3, c3, by omega, by go_num, by go_num, by go_num, ?_, ?_, HST.out, HNX.out, ?_⟩
            · rw [List.length_append, HOL'.out]; rfl
            · exact HOD.out.append (fun d hd => by rw [List.mem_singleton] at hd; subst hd; exact HRB.out)
            · have h1 := HM2.out
              rw [nums_append]
              exact h1
          case measure => simp [intOf]; omega
end Go.Proofs.Ytcdfnlgimbecgaa
