/-
  What single operations give is as the abstract run says: numbers, comparisons, fields, elements, loads.
-/
import Derived.Test.YtfdjcakgolenbaaGreatMu12
set_option linter.unusedVariables false
set_option linter.unusedSimpArgs false
namespace Go.Proofs.YtfdjcakgolenbaaGreat
open Go.RowKit
section
variable {w w' : World} {ρ ρ' : Nat → Option Rl} {base base' : Nat} {ro ro' : Nat → Prop} {v : Value}
theorem AVR.int_ {k : IntKind} {n : Unit → Int} (h : AVR w ρ base ro (.int k n) v) : v = .int k (n ()) := by cases h; rfl
theorem AVR.lit_ {k : IntKind} {n : Int} (h : AVR w ρ base ro (.lit k n) v) : v = .int k n := by cases h; rfl
theorem AVR.bool_ {b : Unit → Bool} (h : AVR w ρ base ro (.bool b) v) : v = .bool (b ()) := by cases h; rfl
theorem AVR.blit_ {b : Bool} (h : AVR w ρ base ro (.blit b) v) : v = .bool b := by cases h; rfl
theorem AVR.str_ {s : Unit → ByteArray} (h : AVR w ρ base ro (.str s) v) : v = .string (s ()) := by cases h; rfl
theorem AVR.nil_ (h : AVR w ρ base ro .nil v) : v = .slice none 0 0 := by cases h; rfl
theorem AVR.agg_ {l : List AV} (h : AVR w ρ base ro (.agg l) v) : ∃ vs : List Value, v = .agg vs.toArray ∧ Each w ρ base ro l vs := by
 cases h with
 | agg _ vs hl h => exact ⟨vs, rfl, hl, h⟩
theorem AVR.tup_ {l : List AV} (h : AVR w ρ base ro (.tup l) v) : ∃ vs : List Value, v = .tuple vs.toArray ∧ Each w ρ base ro l vs := by
 cases h with
 | tup _ vs hl h => exact ⟨vs, rfl, hl, h⟩
theorem AVR.fn_ {f : FuncId} {l : List AV} (h : AVR w ρ base ro (.fn f l) v) : ∃ vs : List Value, v = .func (.func f) #[] vs.toArray ∧ Each w ρ base ro l vs := by
 cases h with
 | fn _ _ vs hl h => exact ⟨vs, rfl, hl, h⟩
theorem AVR.ptr_ {loc off : Nat} (h : AVR w ρ base ro (.ptr loc off) v) : ∃ b, ρ loc = some (.box b) ∧ v = .pointer (some ⟨b, off, none⟩) := by
 cases h with
 | ptr _ _ b h => exact ⟨b, h, rfl⟩
theorem AVR.own_ {loc : Nat} (h : AVR w ρ base ro (.own loc) v) : ∃ A n c, ρ loc = some (.row A n c) ∧ v = .slice A n c := by
 cases h with
 | own _ A n c h => exact ⟨A, n, c, h, rfl⟩
theorem AVR.orp_ {t : Tc} {loc off : Nat} {k : Unit → Int} (h : AVR w ρ base ro (.orp t loc k off) v) : ∃ A, ∃ n : Nat, ∃ c b, ρ loc = some (.row A n c) ∧ A = some ⟨b, 0, none⟩ ∧ 0 ≤ k () ∧ k () < (n : Int) ∧ v = .pointer (some ⟨b, (k ()).toNat * t.size + off, none⟩) := by
 cases h with
 | orp _ _ _ _ A n c b h hA h0 hn => exact ⟨A, n, c, b, h, hA, h0, hn, rfl⟩
theorem AVR.pto_ {cells : List AV} {off : Nat} (h : AVR w ρ base ro (.pto cells off) v) : ∃ b o, ∃ cs : List Value, ro b ∧ b < w.heap.size ∧ (∀ (j : Nat) u, cs[j]? = some u → w.cell? ⟨b, o + j, none⟩ = some u) ∧ Each w ρ base ro cells cs ∧ v = .pointer (some ⟨b, o + off, none⟩) := by
 cases h with
 | pto _ _ b o cs hro hlt hl hc h => exact ⟨b, o, cs, hro, hlt, hc, ⟨hl, h⟩, rfl⟩
theorem AVR.sl_ {fr : Bool} {t : Tc} {l : Unit → List t.el} (h : AVR w ρ base ro (.sl fr t l) v) : ∃ A c, ∃ css : List (List Value), css.length = (l ()).length ∧ css.length ≤ c ∧ Rd w w.heap.size t.size A css ∧ (∀ a, A = some a → css ≠ [] → ro a.block) ∧ (fr = true → ∀ a, A = some a → css ≠ [] → base ≤ a.block) ∧
 (∀ (k : Nat) (cs : List Value) (j : Nat) (x : AV) (v : Value), css[k]? = some cs → (cellsAV fr t fun _ => (l ()).getD k t.dflt)[j]? = some x → cs[j]? = some v → AVR w ρ base ro x v) ∧ v = .slice A (l ()).length c := by
 cases h with
 | sl _ _ _ A c css hl hc hr hro hfr h => exact ⟨A, c, css, hl, hc, hr, hro, hfr, h, rfl⟩
theorem AVR.mp_ {loc : Nat} (h : AVR w ρ base ro (.mp loc) v) : ∃ b, ρ loc = some (.mp b) ∧ v = .map (some b) := by
 cases h with
 | mp _ b h => exact ⟨b, h, rfl⟩
theorem AVR.stamp_ {loc : Nat} (h : AVR w ρ base ro (.stamp loc) v) : ∃ s, ρ loc = some (.stamp s) ∧ v = goInt s := by
 cases h with
 | stamp _ s h => exact ⟨s, h, rfl⟩
theorem AVR.it_ {loc l2 : Nat} (h : AVR w ρ base ro (.it loc l2) v) : ∃ b, ρ l2 = some (.it b) ∧ v = .pointer (some ⟨b, 0, none⟩) := by
 cases h with
 | it _ _ b h => exact ⟨b, h, rfl⟩
theorem asInt_ {x : AV} {k : IntKind} {n : Unit → Int} (hx : x.asInt = some (k, n)) (h : AVR w ρ base ro x v) : v = .int k (n ()) := by
 cases x <;> simp only [AV.asInt] at hx <;> cases hx
 · exact h.int_
 · exact h.lit_
theorem asBool_ {x : AV} {b : Unit → Bool} (hx : x.asBool = some b) (h : AVR w ρ base ro x v) : v = .bool (b ()) := by
 cases x <;> simp only [AV.asBool] at hx <;> cases hx
 · exact h.bool_
 · exact h.blit_
theorem ofVal_ (u : Value) : AVR w ρ base ro (ofVal u) u := by
 unfold ofVal
 split
 · exact .lit _ _
 · exact .blit _
 · exact .str _
 · exact .nil
 · exact .un _
end
section
variable {P : Program} {r : Operand → Value} {d : Option Nat} {ty : TypeId} {pos : String} {aft : Array Edge} {gd : Option (Nat × Bool)} {u v : Value} {w : World}
variable {ρ : Nat → Option Rl} {base : Nat} {ro : Nat → Prop}
theorem wrap_in64 {n : Int} (h : inI64 n) : IntKind.i64.wrap n = n := wrap_i64 h.1 h.2
theorem arith_ok {op : BinOp} {k : IntKind} {a b : Unit → Int} {av : AV} {vcs : List VC} {t t' : TypeId} {x y : Operand} (h : arith op k a b = some (av, vcs)) (hv : ∀ c ∈ vcs, c ()) (hx : r x = .int k (a ())) (hy : r y = .int k (b ())) :
 ∃ v, (execOp r ⟨d, .binOp op t x y t', ty, pos, aft, gd⟩).run P w = .ok (.value v) w ∧ AVR w ρ base ro av v := by
 cases op <;> simp only [arith] at h
 case add =>
  split at h
  · rename_i hk
    subst hk
    cases h
    exact ⟨_, ok_add hx hy (wrap_in64 (hv _ (.head _))) rfl, .int _ _⟩
  · cases h
    exact ⟨_, ok_add hx hy rfl rfl, .int _ _⟩
 case sub =>
  split at h
  · rename_i hk
    subst hk
    cases h
    exact ⟨_, ok_sub hx hy (wrap_in64 (hv _ (.head _))) rfl, .int _ _⟩
  · cases h
    exact ⟨_, ok_sub hx hy rfl rfl, .int _ _⟩
 case mul =>
  split at h
  · rename_i hk
    subst hk
    cases h
    exact ⟨_, ok_mul hx hy (wrap_in64 (hv _ (.head _))) rfl, .int _ _⟩
  · cases h
    exact ⟨_, ok_mul hx hy rfl rfl, .int _ _⟩
 case quo =>
  cases h
  exact ⟨_, ok_quo hx hy (hv _ (.head _)) rfl rfl, .int _ _⟩
 case rem =>
  cases h
  exact ⟨_, ok_rem hx hy (hv _ (.head _)) rfl rfl, .int _ _⟩
 case eql => cases h; exact ⟨_, ok_cmp (op := .eql) hx hy rfl rfl, by rw [show (a () == b ()) = decide (a () = b ()) by rw [Bool.eq_iff_iff]; simp]; exact .bool _⟩
 case neq => cases h; exact ⟨_, ok_cmp (op := .neq) hx hy rfl rfl, by rw [show (a () != b ()) = !decide (a () = b ()) by rw [Bool.eq_iff_iff]; simp]; exact .bool _⟩
 case lss => cases h; exact ⟨_, ok_cmp (op := .lss) hx hy rfl rfl, .bool _⟩
 case leq => cases h; exact ⟨_, ok_cmp (op := .leq) hx hy rfl rfl, .bool _⟩
 case gtr => cases h; exact ⟨_, ok_cmp (op := .gtr) hx hy rfl rfl, .bool _⟩
 case geq => cases h; exact ⟨_, ok_cmp (op := .geq) hx hy rfl rfl, .bool _⟩
 case and =>
  cases h
  refine ⟨_, ?_, .int k _⟩
  unfold execOp
  simp only [hx, hy, eqGuard, binOp, Op.intBits, ne_eq, not_true_eq_false, if_false, Sem.run_bind, Sem.run_pure]
  rfl
 case or =>
  cases h
  refine ⟨_, ?_, .int k _⟩
  unfold execOp
  simp only [hx, hy, eqGuard, binOp, Op.intBits, ne_eq, not_true_eq_false, if_false, Sem.run_bind, Sem.run_pure]
  rfl
 case xor =>
  cases h
  refine ⟨_, ?_, .int k _⟩
  unfold execOp
  simp only [hx, hy, eqGuard, binOp, Op.intBits, ne_eq, not_true_eq_false, if_false, Sem.run_bind, Sem.run_pure]
  rfl
 case andNot =>
  cases h
  refine ⟨_, ?_, .int k _⟩
  unfold execOp
  simp only [hx, hy, eqGuard, binOp, Op.intBits, ne_eq, not_true_eq_false, if_false, Sem.run_bind, Sem.run_pure]
  rfl
 all_goals cases h
theorem fold_ok {op : BinOp} {k : IntKind} {m n : Int} {av : AV} {t t' : TypeId} {x y : Operand} (h : fold op k m n = some av) (hx : r x = .int k m) (hy : r y = .int k n) :
 ∃ v, (execOp r ⟨d, .binOp op t x y t', ty, pos, aft, gd⟩).run P w = .ok (.value v) w ∧ AVR w ρ base ro av v := by
 cases op <;> simp only [fold] at h <;> cases h
 · exact ⟨_, ok_add hx hy rfl rfl, .lit _ _⟩
 · exact ⟨_, ok_sub hx hy rfl rfl, .lit _ _⟩
 · exact ⟨_, ok_mul hx hy rfl rfl, .lit _ _⟩
 all_goals exact ⟨_, ok_cmp hx hy rfl rfl, .blit _⟩
theorem ok_str {op : BinOp} {a b : ByteArray} {t t' : TypeId} {x y : Operand} (hx : r x = .string a) (hy : r y = .string b) : (execOp r ⟨d, .binOp op t x y t', ty, pos, aft, gd⟩).run P w = ((Op.stringOp op a b).run P w).andThen fun v w => .ok (.value v) w := by
 unfold execOp
 have h1 : (eqGuard op t x y (r x) (r y)).run P w = .ok () w := by
  rw [hx, hy]
  cases op <;> rfl
 have h2 : binOp op t (r x) (r y) = Op.stringOp op a b := by
  rw [hx, hy]
  cases op <;> rfl
 simp only [Sem.run_bind, h1, h2, Result.andThen_ok]
 cases (Op.stringOp op a b).run P w <;> rfl
theorem strOp_ok {op : BinOp} {a b : Unit → ByteArray} {av : AV} {vcs : List VC} {t t' : TypeId} {x y : Operand} (h : strOp op a b = some (av, vcs)) (hx : r x = .string (a ())) (hy : r y = .string (b ())) :
 ∃ v, (execOp r ⟨d, .binOp op t x y t', ty, pos, aft, gd⟩).run P w = .ok (.value v) w ∧ AVR w ρ base ro av v := by
 cases op <;> simp only [strOp] at h <;> cases h
 · refine ⟨_, (ok_str hx hy).trans (by simp only [Op.stringOp, Sem.run_pure, Result.andThen_ok]; rfl), ?_⟩
   rw [toList_inj]
   exact .bool _
 · refine ⟨_, (ok_str hx hy).trans (by simp only [Op.stringOp, Sem.run_pure, Result.andThen_ok]; rfl), ?_⟩
   rw [toList_inj]
   exact .bool _
theorem tiOf_ {tb : Tab} {T : Nat} {ti : TI} (hty : TyOk P tb) (h : tiOf tb T = some ti) : ∃ i, alook tb T = some i ∧ i.ti = ti ∧ tyB P T i = true := by
 unfold tiOf at h
 cases hi : alook tb T with
 | none => rw [hi] at h; cases h
 | some i =>
  rw [hi] at h
  simp only [Option.map_some, Option.some.injEq] at h
  exact ⟨i, rfl, h, hty T i hi⟩
theorem tyB_desc {T : Nat} {i : TInf} (h : tyB P T i = true) : ∃ ds, P.underlying T = some ds ∧ descB P ds i.ti = true := by
 unfold tyB at h
 simp only [Bool.and_eq_true] at h
 have h2 := h.1.2
 cases hd : P.underlying T with
 | none => rw [hd] at h2; cases h2
 | some ds =>
  rw [hd] at h2
  exact ⟨ds, rfl, h2⟩
theorem tyB_bool {T : Nat} {i : TInf} (h : tyB P T i = true) (hi : i.ti = .bool) : P.underlying T = some .bool := by
 obtain ⟨ds, hd, hm⟩ := tyB_desc h
 rw [hi] at hm
 cases ds <;> first | exact hd | simp [descB] at hm
theorem tyB_int {T : Nat} {i : TInf} {k : IntKind} (h : tyB P T i = true) (hi : i.ti = .int k) : P.underlying T = some (.int k) := by
 obtain ⟨ds, hd, hm⟩ := tyB_desc h
 rw [hi] at hm
 cases ds <;> first | (simp [descB] at hm; done) | skip
 simp only [descB, decide_eq_true_eq] at hm
 rw [hd, hm]
theorem tyB_str {T : Nat} {i : TInf} (h : tyB P T i = true) (hi : i.ti = .str) : P.underlying T = some .string := by
 obtain ⟨ds, hd, hm⟩ := tyB_desc h
 rw [hi] at hm
 cases ds <;> first | exact hd | simp [descB] at hm
theorem equal_bool {T : Nat} {a b : Bool} (hT : P.underlying T = some .bool) : (Op.equal T (.bool a) (.bool b)).run P w = .ok (a == b) w := by
 unfold Op.equal
 rw [show Op.maxDepth = 9999 + 1 from rfl]
 unfold Op.equalIn
 simp only [underlying, Sem.run_bind, Sem.run_pure, Result.andThen_ok, run_program, hT]
theorem boolOp_ok {op : BinOp} {a b : Unit → Bool} {av : AV} {vcs : List VC} {T t' : TypeId} {x y : Operand} (hT : P.underlying T = some .bool) (h : boolOp op a b = some (av, vcs)) (hx : r x = .bool (a ())) (hy : r y = .bool (b ())) :
 ∃ v, (execOp r ⟨d, .binOp op T x y t', ty, pos, aft, gd⟩).run P w = .ok (.value v) w ∧ AVR w ρ base ro av v := by
 cases op <;> simp only [boolOp] at h <;> cases h
 all_goals
  refine ⟨_, ?_, .bool _⟩
  unfold execOp
  simp only [hx, hy, eqGuard, binOp, Sem.run_bind, Sem.run_pure, Result.andThen_ok, equal_bool hT]
  rfl
theorem shiftAV_ok {op : BinOp} (hop : op = .shl ∨ op = .shr) {a b av : AV} {vcs : List VC} {T t' : TypeId} {x y : Operand} (h : shiftAV op a b = some (av, vcs)) (hv : ∀ c ∈ vcs, c ()) (hx : AVR w ρ base ro a (r x)) (hy : AVR w ρ base ro b (r y)) :
 ∃ v, (execOp r ⟨d, .binOp op T x y t', ty, pos, aft, gd⟩).run P w = .ok (.value v) w ∧ AVR w ρ base ro av v := by
 unfold shiftAV at h
 split at h
 · rename_i k m k' n e1 e2
   cases h
   have h0 : 0 ≤ n () := hv _ (.head _)
   have h1 : ¬ n () < 0 := by omega
   refine ⟨_, ?_, .int k _⟩
   unfold execOp
   rcases hop with rfl | rfl
   · simp only [asInt_ e1 hx, asInt_ e2 hy, eqGuard, binOp, Op.shift, h1, if_false, Sem.run_bind, Sem.run_pure]
     rfl
   · simp only [asInt_ e1 hx, asInt_ e2 hy, eqGuard, binOp, Op.shift, h1, if_false, Sem.run_bind, Sem.run_pure]
     rfl
 · cases h
theorem binAV_ok {tb : Tab} (hty : TyOk P tb) {op : BinOp} {a b av : AV} {vcs : List VC} {T t' : TypeId} {x y : Operand} (h : binAV (tiOf tb T) op a b = some (av, vcs)) (hv : ∀ c ∈ vcs, c ()) (hx : AVR w ρ base ro a (r x)) (hy : AVR w ρ base ro b (r y)) :
 ∃ v, (execOp r ⟨d, .binOp op T x y t', ty, pos, aft, gd⟩).run P w = .ok (.value v) w ∧ AVR w ρ base ro av v := by
 unfold binAV at h
 split at h
 · exact shiftAV_ok (.inl rfl) h hv hx hy
 · exact shiftAV_ok (.inr rfl) h hv hx hy
 split at h
 · rename_i k m k' n
   split at h
   · rename_i hk
     subst hk
     split at h
     · rename_i av' hf
       cases h
       exact fold_ok hf hx.lit_ hy.lit_
     · exact arith_ok h hv hx.lit_ hy.lit_
   · cases h
 · exact strOp_ok h hx.str_ hy.str_
 · split at h
   · rename_i k m k' n e1 e2
     split at h
     · rename_i hk
       subst hk
       exact arith_ok h hv (asInt_ e1 hx) (asInt_ e2 hy)
     · cases h
   · split at h
     · rename_i m n e1 e2
       split at h
       · rename_i e3
         obtain ⟨i, _, hi, hb⟩ := tiOf_ hty e3
         exact boolOp_ok (tyB_bool hb hi) h (asBool_ e1 hx) (asBool_ e2 hy)
       · cases h
     · cases h
theorem pickAV_ok {a b c av : AV} {x y z : Operand} (h : pickAV c a b = some av) (hz : AVR w ρ base ro c (r z)) (hx : AVR w ρ base ro a (r x)) (hy : AVR w ρ base ro b (r y)) :
 ∃ v, (execOp r ⟨d, .pick z x y, ty, pos, aft, gd⟩).run P w = .ok (.value v) w ∧ AVR w ρ base ro av v := by
 unfold pickAV at h
 split at h
 · rename_i b'
   cases h
   refine ⟨_, ok_pick hz.blit_ rfl, ?_⟩
   cases b'
   · exact hy
   · exact hx
 · rename_i c'
   split at h
   · rename_i p q e1 e2
     cases h
     refine ⟨_, ok_pick hz.bool_ rfl, ?_⟩
     rw [asBool_ e1 hx, asBool_ e2 hy]
     rw [show (if c' () = true then Value.bool (p ()) else Value.bool (q ())) = Value.bool ((fun _ : Unit => cond (c' ()) (p ()) (q ())) ()) by cases h : c' () <;> simp]
     exact .bool _
   · split at h
     · rename_i k p k' q e1 e2
       split at h
       · rename_i hk
         subst hk
         cases h
         refine ⟨_, ok_pick hz.bool_ rfl, ?_⟩
         rw [asInt_ e1 hx, asInt_ e2 hy]
         rw [show (if c' () = true then Value.int k (p ()) else Value.int k (q ())) = Value.int k ((fun _ : Unit => cond (c' ()) (p ()) (q ())) ()) by cases h : c' () <;> simp]
         exact .int _ _
       · cases h
     · cases h
 · cases h
end
section
variable {P : Program} {r : Operand → Value} {d : Option Nat} {ty : TypeId} {pos : String} {aft : Array Edge} {gd : Option (Nat × Bool)} {u v : Value} {w : World}
variable {ρ : Nat → Option Rl} {base : Nat} {ro : Nat → Prop}
theorem tyB_info {T : Nat} {i : TInf} (h : tyB P T i = true) : ∃ j, P.info? T = some j ∧ j.size = i.sz ∧ (match j.zero with | some z => zeroB i.z z.cells.toList | none => i.z.isEmpty) = true := by
 unfold tyB at h
 simp only [Bool.and_eq_true] at h
 cases hj : P.info? T with
 | none => rw [hj] at h; simp at h
 | some j =>
  rw [hj] at h
  simp only [Bool.and_eq_true, beq_iff_eq] at h
  exact ⟨j, rfl, h.1.1.1, h.1.1.2⟩
theorem tyB_agg {T : Nat} {i : TInf} (h : tyB P T i = true) (ha : i.ti.agg = true) : IsRow P T i.sz := by
 obtain ⟨j, hj, hs, _⟩ := tyB_info h
 obtain ⟨ds, hd, hm⟩ := tyB_desc h
 refine ⟨ds, hd, ?_, by rw [hj]; simp [hs]⟩
 generalize i.ti = ti at hm ha
 cases ti <;> first | exact absurd ha Bool.false_ne_true | exact absurd ha.symm Bool.false_ne_true | (cases ds <;> first | rfl | simp [descB] at hm)
theorem tyB_cell {T : Nat} {i : TInf} (h : tyB P T i = true) (ha : i.ti.agg = false) : cellT P T = true := by
 obtain ⟨ds, hd, hm⟩ := tyB_desc h
 unfold cellT
 rw [hd]
 generalize i.ti = ti at hm ha
 cases ti <;> first | exact absurd ha Bool.false_ne_true | exact absurd ha.symm Bool.false_ne_true | (cases ds <;> first | rfl | simp [descB] at hm)
theorem Each.drop {l : List AV} {vs : List Value} (h : Each w ρ base ro l vs) (n : Nat) : Each w ρ base ro (l.drop n) (vs.drop n) :=
 ⟨by simp [h.1], fun j x v hx hv => h.2 (n + j) x v (by simpa using hx) (by simpa using hv)⟩
theorem Each.take {l : List AV} {vs : List Value} (h : Each w ρ base ro l vs) (n : Nat) : Each w ρ base ro (l.take n) (vs.take n) := by
 refine ⟨by simp [h.1], fun j x v hx hv => ?_⟩
 rw [List.getElem?_take] at hx hv
 split at hx
 · rename_i hj
   rw [if_pos hj] at hv
   exact h.2 j x v hx hv
 · cases hx
theorem Each.append {l m : List AV} {vs us : List Value} (h : Each w ρ base ro l vs) (h2 : Each w ρ base ro m us) : Each w ρ base ro (l ++ m) (vs ++ us) := by
 refine ⟨by simp [h.1, h2.1], fun j x v hx hv => ?_⟩
 rcases Nat.lt_or_ge j l.length with hj | hj
 · rw [List.getElem?_append_left hj] at hx
   rw [List.getElem?_append_left (by rw [← h.1]; exact hj)] at hv
   exact h.2 j x v hx hv
 · rw [List.getElem?_append_right hj] at hx
   rw [List.getElem?_append_right (by rw [← h.1]; exact hj), ← h.1] at hv
   exact h2.2 _ x v hx hv
theorem Each.set {l : List AV} {vs : List Value} {x : AV} {v : Value} (h : Each w ρ base ro l vs) (hv : AVR w ρ base ro x v) (n : Nat) : Each w ρ base ro (l.set n x) (vs.set n v) := by
 refine ⟨by simp [h.1], fun j y u hy hu => ?_⟩
 rw [List.getElem?_set] at hy hu
 split at hy
 · rename_i hj
   rw [if_pos hj] at hu
   split at hy
   · split at hu
     · cases hy; cases hu; exact hv
     · cases hu
   · cases hy
 · rename_i hj
   rw [if_neg hj] at hu
   exact h.2 j y u hy hu
theorem cut_ok {T b o off : Nat} {i : TInf} {cells : List AV} {cs : List Value} {av : AV} (ht : tyB P T i = true) (hc : ∀ (j : Nat) u, cs[j]? = some u → w.cell? ⟨b, o + j, none⟩ = some u) (hE : Each w ρ base ro cells cs) (h : cut i.ti.agg off i.sz cells = some av) :
 ∃ v, (loadVar T ⟨b, o + off, none⟩).run P w = .ok v w ∧ AVR w ρ base ro av v := by
 unfold cut at h
 cases ha : i.ti.agg with
 | true =>
  rw [ha, if_pos rfl] at h
  split at h
  · rename_i hlen
    cases h
    have hd := (hE.drop off).take i.sz
    refine ⟨_, run_load_cells (tyB_agg ht ha) (cs := (cs.drop off).take i.sz) (by rw [List.length_take, List.length_drop, ← hE.1]; omega) (fun j u hu => ?_), .agg _ _ hd.1 hd.2⟩
    rw [List.getElem?_take] at hu
    split at hu
    · rw [List.getElem?_drop] at hu
      rw [add_none, Nat.add_assoc]
      exact hc _ _ hu
    · cases hu
  · cases h
 | false =>
  rw [ha] at h
  simp only [Bool.false_eq_true, if_false] at h
  obtain ⟨v, hv, hr⟩ := hE.get h
  exact ⟨v, run_load_one (tyB_cell ht ha) (hc _ _ hv), hr⟩
theorem heap_cells {b T : Nat} {cs : List Value} (h : w.heap[b]? = some (.cells cs.toArray T (0, 0))) : ∀ (j : Nat) u, cs[j]? = some u → w.cell? ⟨b, 0 + j, none⟩ = some u := by
 intro j u hu
 rw [Nat.zero_add, cell_of_row w b j _ _ _ h]
 simpa using hu
theorem tc_size (t : Tc) : 0 < t.size := by cases t <;> decide
theorem row_each {fr : Bool} {t : Tc} {x : Unit → t.el} {cs : List Value} (hl : cs.length = t.size) (h : ∀ (j : Nat) (y : AV) (v : Value), (cellsAV fr t x)[j]? = some y → cs[j]? = some v → AVR w ρ base ro y v) : Each w ρ base ro (cellsAV fr t x) cs :=
 ⟨by rw [cellsAV_len, hl], h⟩
theorem load_ok {ge : Nat → Option En} (hge : ∀ loc e, ge loc = some e → EnR w ρ base ro loc e) {T : Nat} {i : TInf} {a av : AV} (ht : tyB P T i = true) (h : loadAV ge i.ti.agg i.sz a = some av) (ha : AVR w ρ base ro a u) :
 ∃ ad v, u = .pointer (some ad) ∧ (loadVar T ad).run P w = .ok v w ∧ AVR w ρ base ro av v := by
 unfold loadAV at h
 split at h
 · obtain ⟨b, o, cs, _, _, hc, hE, rfl⟩ := ha.pto_
   obtain ⟨v, h1, h2⟩ := cut_ok ht hc hE h
   exact ⟨_, v, rfl, h1, h2⟩
 · rename_i loc off
   split at h
   · rename_i T' cells he
     obtain ⟨b, cs, hb, hh, hE⟩ := hge _ _ he
     obtain ⟨b', hb', rfl⟩ := ha.ptr_
     rw [hb] at hb'
     injection hb' with hb'
     injection hb' with hb'
     subst hb'
     obtain ⟨v, h1, h2⟩ := cut_ok ht (heap_cells hh) hE h
     rw [Nat.zero_add] at h1
     exact ⟨_, v, rfl, h1, h2⟩
   · cases h
 · rename_i t loc k off
   split at h
   · rename_i fr t' T' l he
     split at h
     · rename_i htt
       subst htt
       obtain ⟨A, c, css, hA, hown, hlen, hcell⟩ := hge _ _ he
       obtain ⟨A', n, c', b, hA', rfl, h0, hn, rfl⟩ := ha.orp_
       rw [hA] at hA'
       injection hA' with hA'
       injection hA' with e1 e2 e3
       subst e1; subst e2; subst e3
       have hk : (k ()).toNat < css.length := by omega
       obtain ⟨b', o', e, hlt, hl, hcs⟩ := hown.rd _ _ (List.getElem?_eq_getElem hk)
       simp only [Option.some.injEq, Addr.mk.injEq, and_true] at e
       obtain ⟨rfl, rfl⟩ := e
       have hE : Each w ρ base ro (cellsAV fr t fun _ => (l ()).getD (k ()).toNat t.dflt) css[(k ()).toNat] := row_each hl fun j y v h1 h2 => hcell _ _ j y v (List.getElem?_eq_getElem hk) h1 h2
       obtain ⟨v, h1, h2⟩ := cut_ok ht (b := b) (o := (k ()).toNat * t.size) (fun j u hu => by have := hcs j u hu; rwa [Nat.zero_add] at this) hE h
       exact ⟨_, v, rfl, h1, h2⟩
     · cases h
   · cases h
 · cases h
theorem addOff_ok {a av : AV} {k : Nat} (h : addOff a k = some av) (ha : AVR w ρ base ro a u) : ∃ b o, u = .pointer (some ⟨b, o, none⟩) ∧ AVR w ρ base ro av (.pointer (some ⟨b, o + k, none⟩)) := by
 unfold addOff at h
 split at h <;> cases h
 · cases ha with
   | pto _ _ b o cs hro hlt hl hc h => exact ⟨b, _, rfl, by rw [Nat.add_assoc]; exact .pto _ _ b o cs hro hlt hl hc h⟩
 · cases ha with
   | ptr _ _ b h => exact ⟨b, _, rfl, .ptr _ _ b h⟩
 · cases ha with
   | orp _ _ _ _ A n c b h hA h0 hn => exact ⟨b, _, rfl, by rw [Nat.add_assoc]; exact .orp _ _ _ _ A n c b h hA h0 hn⟩
theorem fsB_get : ∀ {fs : List Field} {l : List (Nat × Nat × Bool)}, fsB P fs l = true → ∀ {k o s : Nat} {a : Bool}, l[k]? = some (o, s, a) → ∃ f, fs[k]? = some f ∧ f.offset = o ∧ (∃ i, P.info? f.type = some i ∧ i.size = s) ∧ aggB P f.type = a ∧ ∃ ds, P.underlying f.type = some ds
 | f :: fs, (o', s', a') :: l, h, 0, o, s, a, hk => by
  simp only [List.getElem?_cons_zero, Option.some.injEq, Prod.mk.injEq] at hk
  obtain ⟨rfl, rfl, rfl⟩ := hk
  unfold fsB at h
  simp only [Bool.and_eq_true, beq_iff_eq] at h
  refine ⟨f, rfl, h.1.1.1, ?_, h.1.2.1, Option.isSome_iff_exists.1 h.1.2.2⟩
  cases hi : P.info? f.type with
  | none => rw [hi] at h; simp at h
  | some i => rw [hi] at h; exact ⟨i, rfl, by simpa using h.1.1.2⟩
 | f :: fs, (o', s', a') :: l, h, k + 1, o, s, a, hk => by
  unfold fsB at h
  simp only [Bool.and_eq_true] at h
  obtain ⟨g, h1, h2⟩ := fsB_get h.2 (k := k) (by simpa using hk)
  exact ⟨g, by simpa using h1, h2⟩
 | [], [], _, k, o, s, a, hk => by simp at hk
 | [], _ :: _, h, _, _, _, _, _ => by cases h
 | _ :: _, [], h, _, _, _, _, _ => by cases h
theorem fieldAt_ok {T f o s : Nat} {a : Bool} {i : TInf} (ht : tyB P T i = true) (h : fieldAt i f = some (o, s, a)) : ∃ fs fd, P.underlying T = some (.struct fs) ∧ fs[f]? = some fd ∧ fd.offset = o ∧ (∃ j, P.info? fd.type = some j ∧ j.size = s) ∧ aggB P fd.type = a ∧ ∃ ds, P.underlying fd.type = some ds := by
 unfold fieldAt at h
 split at h
 · rename_i l hl
   obtain ⟨ds, hd, hm⟩ := tyB_desc ht
   rw [hl] at hm
   cases ds <;> first | (simp [descB] at hm; done) | skip
   rename_i fs
   obtain ⟨fd, h1, h2, h3, h4⟩ := fsB_get hm h
   exact ⟨fs, fd, hd, by simpa using h1, h2, h3, h4⟩
 · cases h
theorem fieldOff_of {T f o s : Nat} {a : Bool} {i : TInf} (ht : tyB P T i = true) (h : fieldAt i f = some (o, s, a)) (hs : (s == 0) = false) : fieldOff P T f = some o := by
 obtain ⟨fs, fd, h1, h2, rfl, ⟨j, h3, rfl⟩, _⟩ := fieldAt_ok ht h
 have hs' : ¬ j.size = 0 := by simpa using hs
 unfold fieldOff
 simp only [h1, h2, h3, if_neg hs']
theorem part_ok {T o s : Nat} {vs : List Value} (ha : ∃ j, P.info? T = some j ∧ j.size = s) (hd : ∃ ds, P.underlying T = some ds) (hlen : aggB P T = true → o + s ≤ vs.length) {v : Value} (hv : aggB P T = false → vs[o]? = some v) (hv2 : aggB P T = true → v = .agg ((vs.drop o).take s).toArray) : (part T vs.toArray o).run P w = .ok v w := by
 obtain ⟨j, hj, rfl⟩ := ha
 obtain ⟨ds, hd⟩ := hd
 unfold part
 have h1 : (isAgg T).run P w = .ok (aggB P T) w := by
  unfold isAgg aggB
  simp only [underlying, Sem.run_bind, Sem.run_pure, Result.andThen_ok, run_program, hd]
  cases ds <;> rfl
 simp only [Sem.run_bind, h1, Result.andThen_ok]
 cases hb : aggB P T with
 | true =>
  have := hlen hb
  rw [hv2 hb]
  simp only [if_true, sizeOf, typeInfo, Sem.run_bind, Sem.run_pure, Result.andThen_ok, run_program, hj]
  congr 2
  apply Array.ext'
  simp [List.extract_eq_take_drop, Nat.add_sub_cancel_left]
 | false =>
  simp only [Bool.false_eq_true, if_false, List.getElem?_toArray, hv hb, Sem.run_pure]
theorem field_ok {T f : Nat} {x : Operand} {i : TInf} {o s : Nat} {a : Bool} {cells : List AV} {av : AV} (ht : tyB P T i = true) (hf : fieldAt i f = some (o, s, a)) (hc : cut a o s cells = some av) (hx : AVR w ρ base ro (.agg cells) (r x)) :
 ∃ v, (execOp r ⟨d, .field T x f, ty, pos, aft, gd⟩).run P w = .ok (.value v) w ∧ AVR w ρ base ro av v := by
 obtain ⟨fs, fd, h1, h2, rfl, h3, h4, hT⟩ := fieldAt_ok ht hf
 obtain ⟨vs, hvs, hE⟩ := hx.agg_
 have hrun : ∀ v, (part fd.type vs.toArray fd.offset).run P w = .ok v w → (execOp r ⟨d, .field T x f, ty, pos, aft, gd⟩).run P w = .ok (.value v) w := by
  intro v hv
  unfold execOp
  simp only [hvs, Instr.field, underlying, asAgg, Sem.run_bind, Sem.run_pure, Result.andThen_ok, run_program, h1, h2, hv]
 unfold cut at hc
 cases hb : a with
 | true =>
  rw [hb, if_pos rfl] at hc
  split at hc
  · rename_i hlen
    cases hc
    have hd := (hE.drop fd.offset).take s
    exact ⟨_, hrun _ (part_ok h3 hT (fun _ => by rw [← hE.1]; exact hlen) (fun h => by rw [h4, hb] at h; cases h) (fun _ => rfl)), .agg _ _ hd.1 hd.2⟩
  · cases hc
 | false =>
  rw [hb] at hc
  simp only [Bool.false_eq_true, if_false] at hc
  obtain ⟨v, hv, hr⟩ := hE.get hc
  exact ⟨v, hrun _ (part_ok h3 hT (fun h => by rw [h4, hb] at h; cases h) (fun _ => hv) (fun h => by rw [h4, hb] at h; cases h)), hr⟩
end
end Go.Proofs.YtfdjcakgolenbaaGreat
