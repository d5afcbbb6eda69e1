/-
  A Stress is equal to itself; fractions compared, at the operation.
-/
import Derived.Test.YtcdfnlgimbecgaaMt41
namespace Go.Proofs.Ytcdfnlgimbecgaa
open Go.RowKit
def frLits (f : FracV) : List Lit := [Lit.bool f.neg] ++ natLits (pad B32 8 f.num) ++ natLits (pad B32 8 f.den)
theorem frac_lits (f : FracV) : Try.prog.keyLits 6 37 f.cells = some (frLits f) := fr_lits f.neg (pad B32 8 f.num) (pad B32 8 f.den) (pad_len _ _ _) (pad_len _ _ _) (pad_digs (by decide) _ _) (pad_digs (by decide) _ _)
theorem cells_str40 : Try.prog.cellsOf 40 = 34 := by kernel_rfl
theorem str_key : Try.prog.keyTypeAt 5 40 = true := by kernel_rfl
theorem str_lits (s : Str) : Try.prog.keyLits 7 40 s.cells = some (frLits s.shear ++ frLits s.bend) := by
 have h1 := frac_lits s.shear
 have h2 := frac_lits s.bend
 have e1 : (s.cells.drop 0).take 17 = s.shear.cells := by
  unfold Str.cells
  rw [List.drop_zero]
  exact List.take_left' s.shear.cells_len
 have e2 : (s.cells.drop 17).take 17 = s.bend.cells := by
  unfold Str.cells
  rw [List.drop_left' s.shear.cells_len]
  exact List.take_of_length_le (by rw [s.bend.cells_len]; exact Nat.le_refl _)
 unfold Program.keyLits
 simp only [Try.underlying40, cells_str40]
 rw [if_pos ⟨s.cells_len, by kernel_rfl⟩]
 simp only [List.mapM_cons, List.mapM_nil, cells_frac, e1, e2, h1, h2]
 show some (frLits s.shear ++ (frLits s.bend ++ [])) = _
 rw [List.append_nil]
theorem str_formed (s : Str) : (Value.agg s.cells.toArray).formed Try.prog 40 = true := by
 obtain ⟨b, c, hf⟩ := frac_explicit s.shear
 obtain ⟨b', c', hg⟩ := frac_explicit s.bend
 unfold Str.cells
 rw [hf, hg]
 kernel_rfl
theorem str_equal (s : Str) (w : World) : (Op.equalIn 10000 40 (.agg s.cells.toArray) (.agg s.cells.toArray)).run Try.prog w = .ok true w := by
 obtain ⟨r, hr, hiff⟩ := run_equalIn_deep 9995 5 40 str_key w 7 7 _ _ _ _ (str_formed s) (str_formed s) (str_lits s) (str_lits s)
 have e : r = true := hiff.2 rfl
 rw [← e]
 exact hr
theorem str_neq (s : Str) (w : World) : (binOp .neq 40 s.val s.val).run Try.prog w = .ok (.bool false) w := by
 unfold Str.val
 rw [run_neq_struct, str_equal]
 rfl
theorem op_str_neq (f : Str) {ρ : Operand → Value} {s t : Nat} {d : Option Nat} {T : TypeId} {ty : TypeId} {pos : String} {aft : Array Edge} {gd : Option (Nat × Bool)} (w : World) (hs : ρ (.tmp s) = f.val) (ht : ρ (.tmp t) = f.val) :
 (execOp ρ ⟨d, .binOp .neq 40 (.tmp s) (.tmp t) T, ty, pos, aft, gd⟩).run Try.prog w = .ok (.value (.bool false)) w := by
 have h1 : (eqGuard .neq 40 (.tmp s) (.tmp t) f.val f.val).run Try.prog w = .ok () w := run_eqGuard_agg (P := Try.prog) (w := w) .neq 40 (.tmp s) (.tmp t) _ _ (by kernel_rfl)
 unfold execOp
 simp only [hs, ht, Sem.run_bind, h1, Result.andThen_ok, str_neq, Sem.run_pure]
theorem g_bls {P : Program} {w : World} {ops : Array Oper} {rest : List Oper} {a : Act} {Q : Exit → Act → World → Prop} (T : Nat) {n : Nat} {ps : Array (Nat × Operand)} {d : Option Nat} {ty : TypeId} {pos : String} {aft : Array Edge} {gd : Option (Nat × Bool)}
 (h : wpList P ops Q (⟨d, .buildSlice T n ps, ty, pos, aft, gd⟩ :: rest) a w) : wpList P ops Q (⟨d, .buildSlice T n ps, ty, pos, aft, gd⟩ :: rest) a w := h
theorem strR_ei : EI Try.prog 81 93 34 136 := EI.mk (z := .agg (Str.cells ⟨zeroF, zeroF⟩).toArray) Try.underlying81 (by kernel_rfl) rfl (by omega)
theorem zfSR : (Try.prog.info? 93).bind (·.zero) = some (.agg (Str.cells ⟨zeroF, zeroF⟩).toArray) := by kernel_rfl
set_option maxRecDepth 100000 in
set_option maxHeartbeats 4000000 in
theorem build_stressR (f g : FracV) {a : Act} {s t : Nat} {d : Option Nat} {ty : TypeId} {pos : String} {aft : Array Edge} (w : World) (hx : a.eval (.tmp s) = .agg f.cells.toArray) (hy : a.eval (.tmp t) = .agg g.cells.toArray) :
 (execOp a.eval ⟨d, .build 93 #[(0, .tmp s), (1, .tmp t)], ty, pos, aft, none⟩).run Try.prog w = .ok (.value (.agg (f.cells ++ g.cells).toArray)) w := by
 obtain ⟨b, c, hf⟩ := frac_explicit f
 obtain ⟨b', c', hg⟩ := frac_explicit g
 rw [hf] at hx
 rw [hg] at hy
 rw [hf, hg]
 clear hf hg
 have hx' : a.tmps[s]?.getD undef = _ := (by simp [Act.eval] : a.tmps[s]?.getD undef = a.eval (.tmp s)).trans hx
 have hy' : a.tmps[t]?.getD undef = _ := (by simp [Act.eval] : a.tmps[t]?.getD undef = a.eval (.tmp t)).trans hy
 go_simp
end Go.Proofs.Ytcdfnlgimbecgaa
