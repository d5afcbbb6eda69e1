/-
  A Stress is equal to itself; fractions compared, at the operation.
-/
import Derived.Test.YthlbcijlbgbooaaMg33

namespace Go.Proofs.Ythlbcijlbgbooaa
open Go.RowKit

def frLits (f : FracV) : List Lit := [Lit.bool f.neg] ++ natLits (pad B32 8 f.num) ++ natLits (pad B32 8 f.den)
theorem frac_lits (f : FracV) : Try.prog.keyLits 6 37 f.cells = some (frLits f) := fr_lits f.neg (pad B32 8 f.num) (pad B32 8 f.den) (pad_len _ _ _) (pad_len _ _ _) (pad_digs (by decide) _ _) (pad_digs (by decide) _ _)
theorem cells_str40 : Try.prog.cellsOf 40 = 34 := by kernel_rfl
theorem str_key : Try.prog.keyTypeAt 5 40 = true := by kernel_rfl
theorem str_lits (s : Str) : Try.prog.keyLits 7 40 s.cells = some (frLits s.shear ++ frLits s.bend) := by
  have h1 := frac_lits s.shear
  have h2 := frac_lits s.bend
  have e1 : (s.cells.drop 0).take 17 = s.shear.cells := by
    unfold Str.cells
    rw [List.drop_zero]
    exact List.take_left' s.shear.cells_len
  have e2 : (s.cells.drop 17).take 17 = s.bend.cells := by
    unfold Str.cells
    rw [List.drop_left' s.shear.cells_len]
    exact List.take_of_length_le (by rw [s.bend.cells_len]; exact Nat.le_refl _)
  unfold Program.keyLits
  simp only [Try.underlying40, cells_str40]
  rw [if_pos ⟨s.cells_len, by kernel_rfl⟩]
  simp only [List.mapM_cons, List.mapM_nil, cells_frac, e1, e2, h1, h2]
  show some (frLits s.shear ++ (frLits s.bend ++ [])) = _
  rw [List.append_nil]
theorem str_formed (s : Str) : (Value.agg s.cells.toArray).formed Try.prog 40 = true := by
  obtain ⟨b, c, hf⟩ := frac_explicit s.shear
  obtain ⟨b', c', hg⟩ := frac_explicit s.bend
  unfold Str.cells
  rw [hf, hg]
  kernel_rfl
theorem str_equal (s : Str) (w : World) : (Op.equalIn 10000 40 (.agg s.cells.toArray) (.agg s.cells.toArray)).run Try.prog w = .ok true w := by
  obtain ⟨r, hr, hiff⟩ := run_equalIn_deep 9995 5 40 str_key w 7 7 _ _ _ _ (str_formed s) (str_formed s) (str_lits s) (str_lits s)
  have e : r = true := hiff.2 rfl
  rw [← e]
  exact hr
theorem str_neq (s : Str) (w : World) : (binOp .neq 40 s.val s.val).run Try.prog w = .ok (.bool false) w := by
  unfold Str.val
  rw [run_neq_struct, str_equal]
  rfl
/-- f == g, at the operation -/
theorem op_fr_eql (f : FracV) (hf : f.fits) {a : Act} {s t : Nat} {d : Option Nat} {T : TypeId} {ty : TypeId} {pos : String} {aft : Array Edge} {gd : Option (Nat × Bool)} (w : World) (hs : a.eval (.tmp s) = f.val) (ht : a.eval (.tmp t) = f.val) :
    (execOp a.eval ⟨d, .binOp .eql 37 (.tmp s) (.tmp t) T, ty, pos, aft, gd⟩).run Try.prog w = .ok (.value (.bool true)) w := by
  have h1 : (eqGuard .eql 37 (.tmp s) (.tmp t) f.val f.val).run Try.prog w = .ok () w := run_eqGuard_agg (P := Try.prog) (w := w) .eql 37 (.tmp s) (.tmp t) _ _ (by kernel_rfl)
  have h2 : (binOp .eql 37 f.val f.val).run Try.prog w = .ok (.bool true) w := by
    have h3 := frac_eql f f hf hf w
    rw [decide_eq_true rfl] at h3
    exact h3
  unfold execOp
  simp only [hs, ht, Sem.run_bind, h1, Result.andThen_ok, h2, Sem.run_pure]
theorem op_fr_neq (f : FracV) {a : Act} {s t : Nat} {d : Option Nat} {T : TypeId} {ty : TypeId} {pos : String} {aft : Array Edge} {gd : Option (Nat × Bool)} (w : World) (hs : a.eval (.tmp s) = f.val) (ht : a.eval (.tmp t) = f.val) :
    (execOp a.eval ⟨d, .binOp .neq 37 (.tmp s) (.tmp t) T, ty, pos, aft, gd⟩).run Try.prog w = .ok (.value (.bool false)) w := by
  have h1 : (eqGuard .neq 37 (.tmp s) (.tmp t) f.val f.val).run Try.prog w = .ok () w := run_eqGuard_agg (P := Try.prog) (w := w) .neq 37 (.tmp s) (.tmp t) _ _ (by kernel_rfl)
  have h3 : (binOp .neq 37 f.val f.val).run Try.prog w = .ok (.bool false) w := by
    have h4 : (Op.equalIn 10000 37 (.agg f.cells.toArray) (.agg f.cells.toArray)).run Try.prog w = .ok true w := by
      have h5 := fr_eql f.neg f.neg (pad B32 8 f.num) (pad B32 8 f.den) (pad B32 8 f.num) (pad B32 8 f.den) (pad_len _ _ _) (pad_len _ _ _) (pad_len _ _ _) (pad_len _ _ _) (pad_digs (by decide) _ _) (pad_digs (by decide) _ _) (pad_digs (by decide) _ _) (pad_digs (by decide) _ _) w
      rw [decide_eq_true ⟨rfl, rfl, rfl⟩] at h5
      exact h5
    unfold FracV.val
    rw [run_neq_struct, h4]
    rfl
  unfold execOp
  simp only [hs, ht, Sem.run_bind, h1, Result.andThen_ok, h3, Sem.run_pure]
theorem op_str_neq (f : Str) {a : Act} {s t : Nat} {d : Option Nat} {T : TypeId} {ty : TypeId} {pos : String} {aft : Array Edge} {gd : Option (Nat × Bool)} (w : World) (hs : a.eval (.tmp s) = f.val) (ht : a.eval (.tmp t) = f.val) :
    (execOp a.eval ⟨d, .binOp .neq 40 (.tmp s) (.tmp t) T, ty, pos, aft, gd⟩).run Try.prog w = .ok (.value (.bool false)) w := by
  have h1 : (eqGuard .neq 40 (.tmp s) (.tmp t) f.val f.val).run Try.prog w = .ok () w := run_eqGuard_agg (P := Try.prog) (w := w) .neq 40 (.tmp s) (.tmp t) _ _ (by kernel_rfl)
  unfold execOp
  simp only [hs, ht, Sem.run_bind, h1, Result.andThen_ok, str_neq, Sem.run_pure]
end Go.Proofs.Ythlbcijlbgbooaa
