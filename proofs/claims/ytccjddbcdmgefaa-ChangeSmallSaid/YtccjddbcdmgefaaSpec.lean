/-
  A region that draws its order and makes new memory, told by what each operation gives: one value, or a slice that reads as rows.
-/
import Derived.Test.YtccjddbcdmgefaaMade
namespace Go.Proofs.Ytccjddbcdmgefaa
open Go.RowKit

inductive SpecV where
  | const (c : Value)
  | rows (n size : Nat) (css : List (List Value)) (m : Nat)

def SpecV.ok (s : SpecV) (v : Value) (w : World) : Prop :=
  match s with
  | .const c => v = c
  | .rows n size css m => ∃ A c, v = .slice A n c ∧ m ≤ c ∧ Rd w w.heap.size size A css

theorem SpecV.stays {s : SpecV} {v : Value} {w w' : World} (h : s.ok v w) (hb : From w w') : s.ok v w' := by
  cases s with
  | const c => exact h
  | rows n size css m =>
    obtain ⟨A, c, h1, h2, h3⟩ := h
    exact ⟨A, c, h1, h2, (h3.below hb (Nat.le_refl _)).more hb.size⟩

theorem wp_region_spec {P : Program} {id : Nat} {Q : Exit → Act → World → Prop} {a0 : Act} {w0 : World} {l : List Oper} (np : Nat) (S : Nat → SpecV) (hm : P.follows .mixedOrders = true) (hO : orderB l np = true) (hnp : np ≤ l.length) (hd : dstsB l np a0.tmps.size = true)
    (hstep : ∀ i o, i < np → l[i]? = some o → ∀ (a : Act) (w : World), From w0 w → (∀ j oj d, j < np → l[j]? = some oj → oj.dst = some d → (o.after.any fun e => Region.binds .any e && e.on == j) = true → ∃ v, a.tmps[d]? = some v ∧ (S j).ok v w) →
      (∀ s, ((l.take np).all fun o => o.dst != some s) = true → a.tmps[s]? = a0.tmps[s]?) → wpOp P l.toArray Q i (fun a' w' => ∃ v, a' = a.put o.dst v ∧ From w w' ∧ (S i).ok v w') a w)
    (hK : ∀ (val : Nat → Value) (w : World), From w0 w → (∀ i, i < np → (S i).ok (val i) w) → wpList P l.toArray Q (l.drop np) (putAll val 0 (l.take np) a0) w) :
    (Code.region id l.toArray true).wp P Q a0 w0 := by
  refine wp_region_made np (fun i v _ _ w => (S i).ok v w) hm hO hnp hd (fun i v lo hi w w' h _ hb => SpecV.stays h hb) ?_ ?_
  · intro i o hi ho L a w val lo hi' M haft
    refine hstep i o hi ho a w M.from0 (fun j oj d hj hoj hdj he => ?_) (fun s hs => M.old_ hs)
    rw [Array.any_eq_true'] at he
    obtain ⟨e, he, hb⟩ := he
    simp only [Bool.and_eq_true, beq_iff_eq] at hb
    have hL := haft e he hb.1
    rw [hb.2] at hL
    exact ⟨val j, M.slots j oj d hj hoj hdj hL, (M.rows j hj hL).2.2.2⟩
  · intro val lo hi w hb hrows _
    exact hK val w hb (fun i hi => (hrows i hi).2.2.2)

section
variable {P : Program} {ops : Array Oper} {Q : Exit → Act → World → Prop} {a : Act} {w : World} {K : Act → World → Prop} {i : Nat} {o : Oper}
theorem wpOp_valueW (ho : ops[i]? = some o) (hw : Region.wanted o (yielded ops a.tmps) = true) {v : Value} {w' : World} (hr : (execOp a.eval o).run P w = .ok (.value v) w') (hK : K (a.put o.dst v) w') : wpOp P ops Q i K a w := by
  unfold wpOp
  simp only [ho]
  rw [if_pos hw]
  refine .inl ?_
  unfold Oper.wp
  rw [hr]
  exact hK
theorem wpOp_enterW (ho : ops[i]? = some o) (hw : Region.wanted o (yielded ops a.tmps) = true) {f : FuncId} {args : Array Value} (hr : (execOp a.eval o).run P w = .ok (.enter f args) w) (hc : Calls P f args w fun e w' => ∃ v, e = .returned v ∧ K (a.put o.dst v) w') : wpOp P ops Q i K a w := by
  unfold wpOp
  simp only [ho]
  rw [if_pos hw]
  refine .inl ?_
  unfold Oper.wp
  rw [hr]
  refine hc.mono ?_
  rintro e w' ⟨v, rfl, h⟩
  exact h
theorem wpOp_not (ho : ops[i]? = some o) (hw : Region.wanted o (yielded ops a.tmps) = false) (hK : K (a.put o.dst undef) w) : wpOp P ops Q i K a w := by
  unfold wpOp
  simp only [ho]
  rw [if_neg (by rw [hw]; simp)]
  exact hK
theorem wpOp_loadW (ho : ops[i]? = some o) (hw : Region.wanted o (yielded ops a.tmps) = true) {T : Nat} {x : Operand} (hop : o.op = .load T x) {ad : Addr} (hx : a.eval x = .pointer (some ad)) {v : Value} (hld : (loadVar T ad).run P w = .ok v w) (hK : K (a.put o.dst v) w) : wpOp P ops Q i K a w :=
  wpOp_valueW ho hw (by unfold execOp; simp only [hop, hx, Instr.loadAt, Instr.sureAddr, Sem.run_bind, Sem.run_pure, Result.andThen_ok, hld]) hK
theorem wpOp_callW (ho : ops[i]? = some o) (hw : Region.wanted o (yielded ops a.tmps) = true) {F : FuncId} {xs : Array Operand} {ts : Array TypeId} (hop : o.op = .call { callee := .value (.func F), args := xs, argTypes := ts }) {args : Array Value} (hx : xs.map a.eval = args) (hcf : (callFunc F args).run P w = .ok (.enter F args) w) (hc : Calls P F args w fun e w' => ∃ v, e = .returned v ∧ K (a.put o.dst v) w') : wpOp P ops Q i K a w :=
  wpOp_enterW ho hw (by subst hx; unfold execOp; simp only [hop]; go_simp) hc
theorem wanted_none (h : o.guard = none) (f : Nat → Option Bool) : Region.wanted o f = true := by unfold Region.wanted; rw [h]
theorem wanted_some {j : Nat} {b c r : Bool} {oj : Oper} {d : Nat} (h : o.guard = some (j, b)) (hj : ops[j]? = some oj) (hd : oj.dst = some d) (hs : a.tmps[d]? = some (.bool c)) (hr : (c == b) = r) : Region.wanted o (yielded ops a.tmps) = r := by
  subst hr
  unfold Region.wanted yielded
  rw [h]
  simp only [hj, Option.bind_some, hd, hs]
  cases b <;> cases c <;> rfl
end
end Go.Proofs.Ytccjddbcdmgefaa
