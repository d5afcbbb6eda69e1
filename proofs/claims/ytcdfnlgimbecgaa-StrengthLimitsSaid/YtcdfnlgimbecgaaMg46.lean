/-
  Calls of frac by what they give; fractions in slices; a slice literal of one element, in a list of operations.
-/
import Derived.Test.YtcdfnlgimbecgaaMg31
import Derived.Test.YtcdfnlgimbecgaaMg42
import Derived.Test.YtcdfnlgimbecgaaMg44

namespace Go.Proofs.Ytcdfnlgimbecgaa
open Go.RowKit

theorem sub_is {f g z : FracV} (h : (subL f g).1 = z) (hf : f.fits) (hg : g.fits) : ∃ e : Int, ∀ w, Calls Try.prog 16 #[f.val, g.val] w fun x w' => x = .returned (.tuple #[z.val, .int .i64 e]) ∧ From w w' :=
  ⟨(subL f g).2, fun w => by rw [← h]; exact frac_Sub f g hf hg w⟩
theorem add_is {f g z : FracV} (h : (addL f g).1 = z) (hf : f.fits) (hg : g.fits) : ∃ e : Int, ∀ w, Calls Try.prog 17 #[f.val, g.val] w fun x w' => x = .returned (.tuple #[z.val, .int .i64 e]) ∧ From w w' :=
  ⟨(addL f g).2, fun w => by rw [← h]; exact frac_Add f g hf hg w⟩
theorem mul_is {f g z : FracV} (h : (mulL f g).1 = z) (hf : f.fits) (hg : g.fits) : ∃ e : Int, ∀ w, Calls Try.prog 18 #[f.val, g.val] w fun x w' => x = .returned (.tuple #[z.val, .int .i64 e]) ∧ From w w' :=
  ⟨(mulL f g).2, fun w => by rw [← h]; exact frac_Mul f g hf hg w⟩
theorem of_is (n : Int) (h : inI n) (w : World) : Calls Try.prog 13 #[.int .i64 n] w fun x w' => x = .returned (ofL n).val ∧ From w w' := frac_Of n h.1 h.2 w
theorem zfF : (Try.prog.info? 37).bind (·.zero) = some zeroF.val := by kernel_rfl
theorem FracV.ei : EI Try.prog 47 37 17 68 := EI.mk (z := zeroF.val) Try.underlying47 (by kernel_rfl) rfl (by omega)
theorem g_bsl {P : Program} {w : World} {ops : Array Oper} {rest : List Oper} {a : Act} {Q : Exit → Act → World → Prop} (T : Nat) {n : Nat} {ps : Array (Nat × Operand)} {d : Option Nat} {ty : TypeId} {pos : String} {aft : Array Edge} {gd : Option (Nat × Bool)}
    (h : wpList P ops Q (⟨d, .buildSlice T n ps, ty, pos, aft, gd⟩ :: rest) a w) : wpList P ops Q (⟨d, .buildSlice T n ps, ty, pos, aft, gd⟩ :: rest) a w := h
theorem wpList_slc {P : Program} {w : World} {ops : Array Oper} {rest : List Oper} {o : Oper} {a : Act} {Q : Exit → Act → World → Prop} {t e sz : Nat} {x : Operand} {u z : Value} {cs : List Value} (hgd : o.guard = none) (ho : o.op = .buildSlice t 1 #[(0, x)]) (hx : a.eval x = u) (he : elemOf P t = some (e, sz)) (hz : (P.info? e).bind (·.zero) = some z) (hzs : z.cells.size = sz) (hu : u.cells = cs.toArray) (hl : cs.length = sz) (h0 : 0 < sz) (h24 : sz ≤ 2 ^ 24)
    (h : wpList P ops Q rest (a.put o.dst (.slice (some ⟨w.heap.size, 0, none⟩) 1 1)) (w.alloc (.cells cs.toArray e))) : wpList P ops Q (o :: rest) a w := by
  obtain ⟨d, op, ty, pos, aft, gd⟩ := o
  simp only at ho
  subst ho
  have h1 := ok_slice1 (P := P) (ρ := a.eval) (d := d) (ty := ty) (pos := pos) (aft := aft) (gd := gd) (w := w) hx he hz hzs (by rw [hu]; simp [hl]) h0 h24
  rw [hu] at h1
  refine wpList_plain hgd fun K hK => ?_
  unfold Oper.wp
  rw [h1]
  exact hK _ _ h
/-- a fraction of a stress that lies in a slice -/
theorem Rd.shear {w w1 : World} {g o : Nat} {css : List (List Value)} (h : Rd w w.heap.size 34 (some ⟨g, o, none⟩) css) {k : Nat} {s : Str} (hk : css[k]? = some s.cells) (hb : From w w1) : (loadVar 37 ⟨g, o + k * 34, none⟩).run Try.prog w1 = .ok s.shear.val w1 := (str_fld h hk w1 hb).1
theorem Rd.bend {w w1 : World} {g o : Nat} {css : List (List Value)} (h : Rd w w.heap.size 34 (some ⟨g, o, none⟩) css) {k : Nat} {s : Str} (hk : css[k]? = some s.cells) (hb : From w w1) : (loadVar 37 ⟨g, o + k * 34 + 17, none⟩).run Try.prog w1 = .ok s.bend.val w1 := (str_fld h hk w1 hb).2.1
end Go.Proofs.Ytcdfnlgimbecgaa
