/-
  What single operations give: known operands, a known value.
-/
import Derived.Test.YtcdfnlgimbecgaaMo4

namespace Go.Proofs.Ytcdfnlgimbecgaa
open Go.RowKit

theorem ok_load {P : Program} {ρ : Operand → Value} {d : Option Nat} {T ty : TypeId} {x : Operand} {pos : String} {aft : Array Edge} {gd : Option (Nat × Bool)} {ad : Addr} {v : Value} {w : World} (hx : ρ x = .pointer (some ad)) (h : (loadVar T ad).run P w = .ok v w) :
    (execOp ρ ⟨d, .load T x, ty, pos, aft, gd⟩).run P w = .ok (.value v) w := by
  unfold execOp
  simp only [hx, Instr.loadAt, Instr.sureAddr, Sem.run_bind, Sem.run_pure, Result.andThen_ok, h]
theorem ok_call {P : Program} {ρ : Operand → Value} {d : Option Nat} {F : FuncId} {c : Operand} {xs : List Operand} {ts : Array TypeId} {ty : TypeId} {pos : String} {aft : Array Edge} {gd : Option (Nat × Bool)} {w : World} {args : List Value} {K : Ending → World → Prop} (hf : ρ c = .func (.func F) #[] #[]) (hx : xs.map ρ = args) (hcf : (callFunc F args.toArray).run P w = .ok (.enter F args.toArray) w) (hc : Calls P F args.toArray w K) :
    ∃ f vs, (execOp ρ ⟨d, .call { callee := .value c, args := xs.toArray, argTypes := ts }, ty, pos, aft, gd⟩).run P w = .ok (.enter f vs) w ∧ Calls P f vs w K := by
  refine ⟨F, args.toArray, ?_, hc⟩
  subst hx
  unfold execOp
  simp only [resolve, hf, Deferred.ofValue, Sem.run_bind, Sem.run_pure, Result.andThen_ok, invoke]
  simpa using hcf
theorem ok_move {P : Program} {ρ : Operand → Value} {d : Option Nat} {ty : TypeId} {x : Operand} {pos : String} {aft : Array Edge} {gd : Option (Nat × Bool)} {v : Value} {w : World} (hx : ρ x = v) : (execOp ρ ⟨d, .move x, ty, pos, aft, gd⟩).run P w = .ok (.value v) w := by
  subst hx; rfl
theorem ok_assign {P : Program} {ρ : Operand → Value} {d : Option Nat} {ty : TypeId} {x : Operand} {pos : String} {aft : Array Edge} {gd : Option (Nat × Bool)} {v : Value} {w : World} (hx : ρ x = v) : (execOp ρ ⟨d, .assign x, ty, pos, aft, gd⟩).run P w = .ok (.value v) w := by
  subst hx; rfl

section
variable {P : Program} {ρ : Operand → Value} {d : Option Nat} {ty : TypeId} {pos : String} {aft : Array Edge} {gd : Option (Nat × Bool)} {v : Value} {w : World}
def fieldOff (P : Program) (s f : Nat) : Option Nat :=
  match P.underlying s with
  | some (.struct fs) => match fs[f]? with
    | some fd => match P.info? fd.type with
      | some i => if i.size = 0 then none else some fd.offset
      | none => none
    | none => none
  | _ => none
theorem add_none (b o n : Nat) : (⟨b, o, none⟩ : Addr).add n = ⟨b, o + n, none⟩ := by
  unfold Addr.add
  split
  · rename_i h; subst h; rfl
  · rfl
theorem ptr0 (b n : Nat) : Value.pointer (some ⟨b, n, none⟩) = .pointer (some ⟨b, 0 + n, none⟩) := by rw [Nat.zero_add]
theorem ptr01 (b n : Nat) : Value.pointer (some ⟨b, n, none⟩) = .pointer (some ⟨b, 0 + n * 1, none⟩) := by rw [Nat.zero_add, Nat.mul_one]
theorem ptr1 (b o n : Nat) : Value.pointer (some ⟨b, o + n, none⟩) = .pointer (some ⟨b, o + n * 1, none⟩) := by rw [Nat.mul_one]
theorem ok_field {T f k b o : Nat} {x : Operand} (hx : ρ x = .pointer (some ⟨b, o, none⟩)) (hf : fieldOff P T f = some k) (hv : v = .pointer (some ⟨b, o + k, none⟩)) : (execOp ρ ⟨d, .fieldAddr T x f, ty, pos, aft, gd⟩).run P w = .ok (.value v) w := by
  subst hv
  unfold fieldOff at hf
  split at hf
  · rename_i fs hfs
    split at hf
    · rename_i fd hfd
      split at hf
      · rename_i i hi
        split at hf
        · cases hf
        · rename_i hsz
          injection hf with hf
          subst hf
          unfold execOp
          simp only [hx, Instr.fieldAt, underlying, Sem.run_bind, Sem.run_pure, Result.andThen_ok, hfs, run_program]
          simp only [hfd, Instr.sureAddr, fieldPlace, sizeOf, typeInfo, Sem.run_bind, Sem.run_pure, Result.andThen_ok, run_program, hi, hsz, if_false, add_none]
      · cases hf
    · cases hf
  · cases hf
/-- the element's size, and the type, of a slice -/
def elemOf (P : Program) (t : Nat) : Option (Nat × Nat) :=
  match P.underlying t with
  | some (.slice e) => (P.info? e).map fun i => (e, i.size)
  | _ => none
theorem elemOf_spec {t e sz : Nat} (h : elemOf P t = some (e, sz)) : P.underlying t = some (.slice e) ∧ ∃ i, P.info? e = some i ∧ i.size = sz := by
  unfold elemOf at h
  split at h
  · rename_i e' he
    cases hi : P.info? e' with
    | none => rw [hi] at h; cases h
    | some i => rw [hi] at h; simp only [Option.map_some, Option.some.injEq, Prod.mk.injEq] at h; obtain ⟨rfl, rfl⟩ := h; exact ⟨he, i, hi, rfl⟩
  · cases h
theorem ok_index {t e sz k n c b o : Nat} {kk : IntKind} {x y : Operand} (hx : ρ x = .slice (some ⟨b, o, none⟩) n c) (hy : ρ y = .int kk (k : Int)) (he : elemOf P t = some (e, sz)) (hk : (k : Int) < (n : Int)) (hv : v = .pointer (some ⟨b, o + k * sz, none⟩)) : (execOp ρ ⟨d, .indexAddr t x y, ty, pos, aft, gd⟩).run P w = .ok (.value v) w := by
  subst hv
  obtain ⟨h1, i, h2, rfl⟩ := elemOf_spec he
  have h3 : 0 ≤ (k : Int) ∧ (k : Int) < (n : Int) := ⟨by omega, hk⟩
  unfold execOp
  simp only [hx, hy, Instr.indexAt, asIntOf, underlying, Sem.run_bind, Sem.run_pure, Result.andThen_ok, h1, run_program]
  simp only [h3, and_self, if_true, sizeOf, typeInfo, Sem.run_bind, Sem.run_pure, Result.andThen_ok, run_program, h2, Int.toNat_natCast, add_none]
theorem ok_len {t n c : Nat} {e : TypeId} {A : Option Addr} {x : Operand} (hx : ρ x = .slice A n c) (ht : P.underlying t = some (.slice e)) (hv : v = .int .i64 (n : Int)) : (execOp ρ ⟨d, .call { callee := .builtin .len, args := #[x], argTypes := #[t] }, ty, pos, aft, gd⟩).run P w = .ok (.value v) w := by
  subst hv
  unfold execOp
  simp only [resolve, invoke, builtin, Builtin.len_, List.map_toArray, List.map_cons, List.map_nil, hx, underlying, Sem.run_bind, Sem.run_pure, Result.andThen_ok]
  simp only [ht, List.getElem?_toArray, List.getElem?_cons_zero, Sem.run_bind, Sem.run_pure, Result.andThen_ok, run_program]
  rfl
theorem ok_extract {i : Nat} {x : Operand} {vs : Array Value} (hx : ρ x = .tuple vs) (hv : vs[i]? = some v) : (execOp ρ ⟨d, .extract x i, ty, pos, aft, gd⟩).run P w = .ok (.value v) w := by
  unfold execOp
  simp only [hx, Instr.extract, hv, Sem.run_bind, Sem.run_pure, Result.andThen_ok]
theorem ok_pick {b : Bool} {c x y : Operand} (hc : ρ c = .bool b) (hv : (if b then ρ x else ρ y) = v) : (execOp ρ ⟨d, .pick c x y, ty, pos, aft, gd⟩).run P w = .ok (.value v) w := by
  unfold execOp
  simp only [hc, asBool, Sem.run_bind, Sem.run_pure, Result.andThen_ok, hv]
theorem ok_not {b : Bool} {t : TypeId} {x : Operand} (hx : ρ x = .bool b) (hv : v = .bool (!b)) : (execOp ρ ⟨d, .unOp .not t x, ty, pos, aft, gd⟩).run P w = .ok (.value v) w := by
  subst hv
  unfold execOp
  simp only [hx, Op.unary, Sem.run_bind, Sem.run_pure, Result.andThen_ok]
theorem ok_add {k : IntKind} {m n z : Int} {t t' : TypeId} {x y : Operand} (hx : ρ x = .int k m) (hy : ρ y = .int k n) (hz : k.wrap (m + n) = z) (hv : v = .int k z) : (execOp ρ ⟨d, .binOp .add t x y t', ty, pos, aft, gd⟩).run P w = .ok (.value v) w := by
  subst hv hz
  unfold execOp
  simp only [hx, hy, eqGuard, binOp, Op.intArith, ne_eq, not_true_eq_false, if_false, Sem.run_bind, Sem.run_pure]
  rfl
theorem ok_sub {k : IntKind} {m n z : Int} {t t' : TypeId} {x y : Operand} (hx : ρ x = .int k m) (hy : ρ y = .int k n) (hz : k.wrap (m - n) = z) (hv : v = .int k z) : (execOp ρ ⟨d, .binOp .sub t x y t', ty, pos, aft, gd⟩).run P w = .ok (.value v) w := by
  subst hv hz
  unfold execOp
  simp only [hx, hy, eqGuard, binOp, Op.intArith, ne_eq, not_true_eq_false, if_false, Sem.run_bind, Sem.run_pure]
  rfl
theorem ok_mul {k : IntKind} {m n z : Int} {t t' : TypeId} {x y : Operand} (hx : ρ x = .int k m) (hy : ρ y = .int k n) (hz : k.wrap (m * n) = z) (hv : v = .int k z) : (execOp ρ ⟨d, .binOp .mul t x y t', ty, pos, aft, gd⟩).run P w = .ok (.value v) w := by
  subst hv hz
  unfold execOp
  simp only [hx, hy, eqGuard, binOp, Op.intArith, ne_eq, not_true_eq_false, if_false, Sem.run_bind, Sem.run_pure]
  rfl
def cmpB (op : BinOp) (m n : Int) : Option Bool :=
  match op with
  | .eql => some (m == n)
  | .neq => some (m != n)
  | .lss => some (decide (m < n))
  | .leq => some (decide (m ≤ n))
  | .gtr => some (decide (m > n))
  | .geq => some (decide (m ≥ n))
  | _ => none
theorem ok_cmp {op : BinOp} {k : IntKind} {m n : Int} {b : Bool} {t t' : TypeId} {x y : Operand} (hx : ρ x = .int k m) (hy : ρ y = .int k n) (hb : cmpB op m n = some b) (hv : v = .bool b) : (execOp ρ ⟨d, .binOp op t x y t', ty, pos, aft, gd⟩).run P w = .ok (.value v) w := by
  subst hv
  cases op <;> simp only [cmpB] at hb <;> cases hb
  all_goals
    unfold execOp
    simp only [hx, hy, eqGuard, binOp, Op.intCmp, ne_eq, not_true_eq_false, if_false, Sem.run_bind, Sem.run_pure]
    rfl
end

theorem fill_all : ∀ (l pre z : List Value), z.length = l.length → (l.zipIdx pre.length).foldl (fun (cs : Array Value) (p : Value × Nat) => cs.setIfInBounds (0 + p.2) p.1) (pre ++ z).toArray = (pre ++ l).toArray
  | [], pre, z, h => by
    have : z = [] := List.eq_nil_of_length_eq_zero (by simpa using h)
    subst this
    rfl
  | x :: l, pre, [], h => by simp at h
  | x :: l, pre, y :: z, h => by
    have h1 := fill_all l (pre ++ [x]) z (by simpa using h)
    simp only [List.zipIdx_cons, List.foldl_cons, Nat.zero_add]
    have e : (pre ++ y :: z).toArray.setIfInBounds pre.length x = (pre ++ [x] ++ z).toArray := by
      apply Array.ext'
      simp
    rw [e]
    simp only [List.length_append, List.length_singleton, Nat.zero_add] at h1
    rw [h1]
    simp
/-- a slice literal of one element -/
theorem ok_slice1 {P : Program} {ρ : Operand → Value} {d : Option Nat} {ty : TypeId} {pos : String} {aft : Array Edge} {gd : Option (Nat × Bool)} {w : World} {t e sz : Nat} {x : Operand} {u z : Value} (hx : ρ x = u) (he : elemOf P t = some (e, sz)) (hz : (P.info? e).bind (·.zero) = some z) (hzs : z.cells.size = sz) (hu : u.cells.size = sz) (h0 : 0 < sz) (h24 : sz ≤ 2 ^ 24) :
    (execOp ρ ⟨d, .buildSlice t 1 #[(0, x)], ty, pos, aft, gd⟩).run P w = .ok (.value (.slice (some ⟨w.heap.size, 0, none⟩) 1 1)) (w.alloc (.cells u.cells e)) := by
  subst hx
  obtain ⟨h1, i, h2, rfl⟩ := elemOf_spec he
  have h3 : (zeroValue e).run P w = .ok z w := by
    rw [h2] at hz
    simp only [Option.bind_some] at hz
    unfold zeroValue
    simp only [typeInfo, Sem.run_bind, Sem.run_pure, Result.andThen_ok, run_program, h2, hz]
  have h4 : ((Array.range (1 * i.size)).map fun (k : Nat) => z.cells[k % z.cells.size]!) = z.cells := by
    apply Array.ext
    · simp [hzs]
    · intro k hk1 hk2
      simp only [Array.getElem_map, Array.getElem_range]
      rw [Nat.mod_eq_of_lt hk2, getElem!_pos z.cells k hk2]
  have h5 : Instr.fill (fun k => some (k * i.size, i.size)) z.cells [(0, ρ x)] = some (ρ x).cells := by
    unfold Instr.fill
    simp only [Nat.zero_mul, Nat.zero_add, hu, hzs, ne_eq, not_true_eq_false, decide_false, gt_iff_lt, Nat.lt_irrefl, Bool.or_self, Bool.false_eq_true, if_false]
    unfold Instr.fill
    have h6 := fill_all (ρ x).cells.toList [] z.cells.toList (by simp [hzs, hu])
    simp only [List.length_nil, List.nil_append] at h6
    congr 1
    rw [← Array.foldl_toList]
    simp only [Array.toList_zipIdx]
    simpa using h6
  unfold execOp
  simp only [Instr.buildSlice, List.map_toArray, List.map_cons, List.map_nil, underlying, sizeOf, typeInfo, Sem.run_bind, Sem.run_pure, Result.andThen_ok, run_program, h1, h2]
  simp only [show ¬ (1 * i.size > 2 ^ 24) by omega, show ¬ (1 * i.size = 0) by omega, if_false, Sem.run_bind, Sem.run_pure, Result.andThen_ok, h3, h4, h5]
  rfl
end Go.Proofs.Ytcdfnlgimbecgaa
