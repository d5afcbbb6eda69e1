/-
  Regions that draw their order, as in the text ahead; two blocks that such a region makes are apart.
-/
import Derived.Test.YtcdfnlgimbecgaaMt38
namespace Go.Proofs.Ytcdfnlgimbecgaa
open Go.RowKit
def isAllocB : Op → Bool
 | .alloc _ => true
 | _ => false
def freshB (l : List Oper) (S : List St) (i : Nat) : Bool :=
 match l[i]?, S.getD i .skip with
 | some o, .new _ => isAllocB o.op
 | _, _ => false
def RelD (l : List Oper) (S : List St) (i : Nat) (v : Value) (lo hi : Nat) (w : World) : Prop :=
 (S.getD i .skip).Rel v w ∧ (freshB l S i = true → ∃ g, v = .pointer (some ⟨g, 0, none⟩) ∧ lo ≤ g ∧ g < hi)
theorem zero_run (P : Program) (T : TypeId) (w : World) : (∃ z, (zeroValue T).run P w = .ok z w) ∨ ∀ z w1, (zeroValue T).run P w ≠ .ok z w1 := by
 cases hi : P.info? T with
 | none =>
  right
  intro z w1 h
  unfold zeroValue at h
  simp only [typeInfo, Sem.run_bind, Result.andThen_ok, run_program, hi] at h
  cases h
 | some i =>
  cases hz : i.zero with
  | none =>
   right
   intro z w1 h
   unfold zeroValue at h
   simp only [typeInfo, Sem.run_bind, Sem.run_pure, Result.andThen_ok, run_program, hi, hz] at h
   cases h
  | some z =>
   left
   refine ⟨z, ?_⟩
   unfold zeroValue
   simp only [typeInfo, Sem.run_bind, Sem.run_pure, Result.andThen_ok, run_program, hi, hz]
theorem alloc_exec {P : Program} {ρ : Operand → Value} {d : Option Nat} {T ty : TypeId} {pos : String} {aft : Array Edge} {gd : Option (Nat × Bool)} {w w' : World} {n : Next} (h : (execOp ρ ⟨d, .alloc T, ty, pos, aft, gd⟩).run P w = .ok n w') : n = .value (.pointer (some ⟨w.heap.size, 0, none⟩)) ∧ w.heap.size < w'.heap.size := by
 rcases zero_run P T w with ⟨z, hz⟩ | hz
 · have h1 : (execOp ρ ⟨d, .alloc T, ty, pos, aft, gd⟩).run P w = .ok (.value (.pointer (some ⟨w.heap.size, 0, none⟩))) (w.alloc (.cells z.cells T)) := by
    unfold execOp
    simp only [Instr.alloc, Sem.run_bind, hz, Result.andThen_ok, newVar, newRow, Sem.run_pure]
    rfl
   rw [h1] at h
   injection h with h2 h3
   subst h2 h3
   exact ⟨rfl, by simp⟩
 · exfalso
   unfold execOp at h
   simp only [Instr.alloc, Sem.run_bind] at h
   cases hq : (zeroValue T).run P w with
   | ok z w1 => exact hz z w1 hq
   | _ => rw [hq] at h; cases h
theorem alloc_run {P : Program} {ρ : Operand → Value} {o : Oper} {w w' : World} {v : Value} (ha : isAllocB o.op = true) (h : (execOp ρ o).run P w = .ok (.value v) w') : ∃ g, v = .pointer (some ⟨g, 0, none⟩) ∧ w.heap.size ≤ g ∧ g < w'.heap.size := by
 obtain ⟨d, op, ty, pos, aft, gd⟩ := o
 cases op <;> simp only [isAllocB] at ha <;> try cases ha
 obtain ⟨h1, h2⟩ := alloc_exec h
 injection h1 with h1
 exact ⟨_, h1, Nat.le_refl _, h2⟩
theorem alloc_enter {P : Program} {ρ : Operand → Value} {o : Oper} {w w' : World} {f : FuncId} {args : Array Value} (ha : isAllocB o.op = true) (h : (execOp ρ o).run P w = .ok (.enter f args) w') : False := by
 obtain ⟨d, op, ty, pos, aft, gd⟩ := o
 cases op <;> simp only [isAllocB] at ha <;> try cases ha
 obtain ⟨h1, _⟩ := alloc_exec h
 cases h1
theorem run_stepD {P : Program} {Q : Exit → Act → World → Prop} {a0 : Act} {w0 : World} {l : List Oper} (np : Nat) (S : List St) (hback : ∀ j o, l[j]? = some o → ∀ e ∈ o.after, Region.binds .any e = true → e.on < j) (hnp : np ≤ l.length) (hd : dstsB l np a0.tmps.size = true) (hread : readsG l S np = true)
 (hstep : stepsS P w0 l S a0 0 (l.take np) S) :
 ∀ i o, i < np → l[i]? = some o → ∀ (L : Nat → Bool) (a : Act) (w : World) (val : Nat → Value) (lo hi : Nat → Nat), Made w0 a0 l np (RelD l S) L a w val lo hi → (∀ e ∈ o.after, Region.binds .any e = true → L e.on = true) → L i = false → (∀ j oj, L j = true → l[j]? = some oj → ∀ e ∈ oj.after, Region.binds .any e = true → L e.on = true) →
  wpOp P l.toArray Q i (fun a' w' => ∃ v, a' = a.put o.dst v ∧ From w w' ∧ RelD l S i v w.heap.size w'.heap.size w') a w := by
 intro i o hi ho L a w val lo hi' M haft hLi hLc
 have hb : From w0 w := M.from0
 have hval : ∀ j oj d, j < np → l[j]? = some oj → oj.dst = some d → (o.after.any fun e => Region.binds .any e && e.on == j) = true → ∃ v, a.tmps[d]? = some v ∧ (S.getD j .skip).Rel v w := fun j oj d hj hoj hdj he => by
  rw [Array.any_eq_true'] at he
  obtain ⟨e, he, hbd⟩ := he
  simp only [Bool.and_eq_true, beq_iff_eq] at hbd
  have hL := haft e he hbd.1
  rw [hbd.2] at hL
  exact ⟨val j, M.slots j oj d hj hoj hdj hL, (M.rows j hj hL).2.2.2.1⟩
 have hold : ∀ s, ((List.range np).all fun k => match l[k]? with | some ok => ok.dst != some s || ok.after.any (fun e => Region.binds .any e && e.on == i) | none => true) = true → a.tmps[s]? = a0.tmps[s]? := fun s hs => M.old s fun k ok hk hok hdk => by
  have h1 := List.all_eq_true.1 hs k (List.mem_range.2 hk)
  simp only [hok, hdk, bne_self_eq_false, Bool.false_or] at h1
  cases hLk : L k with
  | false => rfl
  | true =>
   rw [Array.any_eq_true'] at h1
   obtain ⟨e, he, hbd⟩ := h1
   simp only [Bool.and_eq_true, beq_iff_eq] at hbd
   have h2 := hLc k ok hLk hok e he hbd.1
   rw [hbd.2, hLi] at h2
   cases h2
 have hgo := stepsS_get hstep (i := i) (o := o) (by rw [List.getElem?_take_of_lt hi]; exact ho)
 rw [Nat.zero_add] at hgo
 have hrd := List.all_eq_true.1 hread i (List.mem_range.2 hi)
 simp only [ho, Bool.and_eq_true] at hrd
 obtain ⟨hgd, hrd⟩ := hrd
 have ho' : l.toArray[i]? = some o := by simpa using ho
 have hprod : ∀ j, (o.after.any fun e => Region.binds .any e && e.on == j) = true → ∀ oj d, j < np → l[j]? = some oj → oj.dst = some d → ∃ v, a.tmps[d]? = some v ∧ (S.getD j .skip).Rel v w := fun j he oj d hj hoj hdj => hval j oj d hj hoj hdj he
 -- the guard
 have hwant : Region.wanted o (yielded l.toArray a.tmps) = !(S.getD i .skip).isSkip := by
  unfold guardG at hgd
  cases hg : o.guard with
  | none =>
   rw [hg] at hgd
   simp only at hgd
   rw [hgd]
   exact wanted_none hg _
  | some p =>
   obtain ⟨j, b⟩ := p
   rw [hg] at hgd
   simp only [Bool.and_eq_true] at hgd
   obtain ⟨he, hgd⟩ := hgd
   have hji : j < i := by
    rw [Array.any_eq_true'] at he
    obtain ⟨e, he1, he2⟩ := he
    simp only [Bool.and_eq_true, beq_iff_eq] at he2
    have := hback i o ho e he1 he2.1
    omega
   obtain ⟨oj, hoj⟩ : ∃ oj, l[j]? = some oj := ⟨l[j]'(by omega), List.getElem?_eq_getElem (by omega)⟩
   obtain ⟨d, hdj, _, _⟩ := dstsB_spec hd (show j < np by omega) hoj
   obtain ⟨v, hv1, hv2⟩ := hprod j he oj d (by omega) hoj hdj
   by_cases hsk : (S.getD j .skip).isSkip = true
   · rw [if_pos hsk] at hgd
     rw [hgd]
     have hv3 : v = undef := by
      generalize S.getD j .skip = s at hsk hv2
      cases s with
      | skip => exact hv2
      | val _ => cases hsk
      | call _ => cases hsk
      | new _ => cases hsk
      | dep _ => cases hsk
     subst hv3
     have hy : yielded l.toArray a.tmps j = none := by
      unfold yielded
      have e1 : l.toArray[j]? = some oj := by simpa using hoj
      rw [e1, Option.bind_some, hdj, Option.bind_some, hv1]
      rfl
     unfold Region.wanted
     rw [hg]
     simp only [hy]
     rfl
   rw [if_neg hsk] at hgd
   have htold : ∀ c, (S.getD j .skip).told = some c → (S.getD j .skip).Rel v w → v = .bool c := by
    generalize S.getD j .skip = s
    intro c h1 h2
    cases s with
    | val c' => cases c' <;> simp only [St.told] at h1 <;> cases h1 <;> exact h2
    | call c' => cases c' <;> simp only [St.told] at h1 <;> cases h1 <;> exact h2
    | new R => cases h1
    | dep R => cases h1
    | skip => cases h1
   cases ht : (S.getD j .skip).told with
   | none => rw [ht] at hgd; cases hgd
   | some c =>
    rw [ht] at hgd
    have hvc := htold c ht hv2
    subst hvc
    exact wanted_some hg (by simpa using hoj) hdj hv1 (eq_of_beq hgd)
 -- the operands
 have hrel : (S.getD i .skip).isSkip = false → ∀ x, x ∈ o.op.operands → (envS l S a0 i x).Rel (a.eval x) w := by
  intro hns x hx
  rw [hns, Bool.false_or] at hrd
  simp only [Bool.and_eq_true] at hrd
  have h1 := List.all_eq_true.1 hrd.2 x (by simpa using hx)
  cases x with
  | const v => rfl
  | global g => rfl
  | func f => rfl
  | tmp s =>
   simp only [Bool.and_eq_true] at h1
   have h2 := h1.1
   unfold slotB at h2
   cases hp : prodOf l s i with
   | none =>
    rw [hp] at h2
    have h3 := hold s h2
    rw [envS_none hp]
    simp only [St.Rel, Act.eval]
    rw [Array.getD_eq_getD_getElem?, Array.getD_eq_getD_getElem?, h3]
   | some j =>
    rw [hp] at h2
    obtain ⟨h3, oj, h4, h5⟩ := prodOf_spec hp
    obtain ⟨v, h6, h7⟩ := hprod j h2 oj s (by omega) h4 h5
    rw [envS_some hp, eval_get h6]
    exact h7
 have hnosel : (S.getD i .skip).isSkip = false → ∀ cs b, o.op ≠ .select cs b := by
  intro hns cs b hop
  rw [hns, Bool.false_or, hop] at hrd
  simp [isSel] at hrd
 have hsame : (S.getD i .skip).isSkip = false → (∀ R, S.getD i .skip ≠ .dep R) → execOp a.eval o = execOp (fun x => (envS l S a0 i x).known) o := by
  intro hns hnd
  refine execOp_congr o (hnosel hns) fun x hx => ?_
  refine St.rel_known ?_ (hrel hns x hx)
  rw [hns, Bool.false_or] at hrd
  simp only [Bool.and_eq_true] at hrd
  have h1 := List.all_eq_true.1 hrd.2 x (by simpa using hx)
  cases x with
  | const v => rfl
  | global g => rfl
  | func f => rfl
  | tmp s =>
   simp only [Bool.and_eq_true] at h1
   have h2 := h1.2
   cases hp : prodOf l s i with
   | none => rw [envS_none hp]; rfl
   | some j =>
    rw [hp] at h2
    rw [envS_some hp]
    simp only at h2
    cases hs : S.getD i .skip with
    | dep R => exact (hnd R hs).elim
    | val v => exact h2
    | call v => exact h2
    | new v => exact h2
    | skip => exact h2
 have hrun : ∀ ρ, execOp a.eval o = execOp ρ o → ∀ R : Value → World → Prop, Region.wanted o (yielded l.toArray a.tmps) = true → runsIn P ρ o w R → wpOp P l.toArray Q i (fun a' w' => ∃ v, a' = a.put o.dst v ∧ From w w' ∧ R v w' ∧ (isAllocB o.op = true → ∃ g, v = .pointer (some ⟨g, 0, none⟩) ∧ w.heap.size ≤ g ∧ g < w'.heap.size)) a w := by
  intro ρ he R hw h
  rcases h with ⟨v, w', h1, h2, h3⟩ | ⟨f, args, h1, h2⟩
  · have h4 : isAllocB o.op = true → ∃ g, v = .pointer (some ⟨g, 0, none⟩) ∧ w.heap.size ≤ g ∧ g < w'.heap.size := fun ha => alloc_run ha h1
    rw [← he] at h1
    exact wpOp_valueW ho' hw h1 ⟨v, rfl, h2, h3, h4⟩
  · have h4 : ¬ isAllocB o.op = true := fun ha => alloc_enter ha h1
    rw [← he] at h1
    exact wpOp_enterW ho' hw h1 (h2.mono fun e w' ⟨v, h3, h5, h6⟩ => ⟨v, h3, v, rfl, h5, h6, fun ha => (h4 ha).elim⟩)
 unfold RelD freshB
 rw [ho]
 cases hs : S.getD i .skip with
 | skip =>
  rw [hs] at hwant
  exact wpOp_not ho' hwant ⟨_, rfl, Below.refl _ _, rfl, fun h => by cases h⟩
 | val v =>
  rw [hs] at hgo hwant hsame
  have h1 := hgo w hb
  exact wpOp_mono (fun a' w' ⟨u, h3, h4, h5, _⟩ => ⟨u, h3, h4, h5, fun h => by cases h⟩) (hrun _ (hsame rfl (fun R => by simp)) (fun u _ => u = v) hwant (.inl ⟨v, w, h1, Below.refl _ _, rfl⟩))
 | call v =>
  rw [hs] at hgo hwant hsame
  obtain ⟨f, args, h1, h2⟩ := hgo w hb
  exact wpOp_mono (fun a' w' ⟨u, h3, h4, h5, _⟩ => ⟨u, h3, h4, h5, fun h => by cases h⟩) (hrun _ (hsame rfl (fun R => by simp)) (fun u _ => u = v) hwant (.inr ⟨f, args, h1, h2.mono fun e w' ⟨h3, h4⟩ => ⟨v, h3, h4, rfl⟩⟩))
 | new R =>
  rw [hs] at hgo hwant hsame
  exact wpOp_mono (fun a' w' ⟨u, h3, h4, h5, h6⟩ => ⟨u, h3, h4, h5, h6⟩) (hrun _ (hsame rfl (fun R => by simp)) _ hwant (hgo w hb))
 | dep R =>
  rw [hs] at hgo hwant hrel
  exact wpOp_mono (fun a' w' ⟨u, h3, h4, h5, _⟩ => ⟨u, h3, h4, h5, fun h => by cases h⟩) (hrun _ rfl _ hwant (hgo a.eval w hb (hrel rfl)))
theorem wp_region_runD {P : Program} {id : Nat} {Q : Exit → Act → World → Prop} {a0 : Act} {w0 : World} {l : List Oper} (np : Nat) (S : List St) (i j di dj : Nat) (hi : freshB l S i = true) (hj : freshB l S j = true) (hij : i ≠ j) (hin : i < np) (hjn : j < np) (ei : ∀ val, (putAll val 0 (l.take np) a0).eval (.tmp di) = val i) (ej : ∀ val, (putAll val 0 (l.take np) a0).eval (.tmp dj) = val j)
 (hm : P.follows .mixedOrders = true) (hO : orderB l np = true) (hnp : np ≤ l.length) (hd : dstsB l np a0.tmps.size = true) (hread : readsG l S np = true)
 (hstab : stableS S) (hstep : stepsS P w0 l S a0 0 (l.take np) S)
 (hK : ∀ w, From w0 w → contS S (l.take np) a0 (fun a w => (∀ g g', a.eval (.tmp di) = .pointer (some ⟨g, 0, none⟩) → a.eval (.tmp dj) = .pointer (some ⟨g', 0, none⟩) → g ≠ g') → wpList P l.toArray Q (l.drop np) a w) w) :
 (Code.region id l.toArray true).wp P Q a0 w0 := by
 have hlen := stepsS_len hstep
 refine wp_region_made2 np (RelD l S) hm hO hnp hd (fun i v lo hi w w' h _ hb => ⟨stableS_get hstab i v w w' h.1 hb, h.2⟩) (run_stepD np S (fun j o ho => orderB_back hO ho) hnp hd hread hstep) ?_
 intro val lo hi' w hb hrows hap
 have h1 := contS_put (val := val) (k := 0) hlen (hK w hb) (fun i hi => by
  rw [Nat.zero_add]
  exact (hrows i (by simp at hi; omega)).2.2.2.1)
 refine h1 fun g g' hg hg' hgg => ?_
 rw [ei] at hg
 rw [ej] at hg'
 obtain ⟨g1, e1, l1, u1⟩ := (hrows i hin).2.2.2.2 hi
 obtain ⟨g2, e2, l2, u2⟩ := (hrows j hjn).2.2.2.2 hj
 rw [hg] at e1
 rw [hg'] at e2
 simp only [Value.pointer.injEq, Option.some.injEq, Addr.mk.injEq, and_true] at e1 e2
 rcases hap i j hin hjn hij with h | h <;> omega
theorem set_flat_row {size : Nat} {cs : List Value} : ∀ (css : List (List Value)), (∀ c ∈ css, c.length = size) → ∀ i, i < css.length → (css.set i cs).flatten = css.flatten.take (i * size) ++ cs ++ css.flatten.drop (i * size + size)
 | [], _, _, h => by simp at h
 | c :: css, hl, 0, _ => by
  have h1 : c.length = size := hl c (by simp)
  rw [List.set_cons_zero, List.flatten_cons, List.flatten_cons, Nat.zero_mul, Nat.zero_add, List.take_zero, List.nil_append, List.drop_left' h1]
 | c :: css, hl, i + 1, h => by
  have h1 : c.length = size := hl c (by simp)
  have ih := set_flat_row (cs := cs) css (fun x hx => hl x (by simp [hx])) i (by simpa using h)
  rw [List.set_cons_succ, List.flatten_cons, List.flatten_cons, ih]
  have e1 : (c ++ css.flatten).take ((i + 1) * size) = c ++ css.flatten.take (i * size) := by
   rw [List.take_append, List.take_of_length_le (by rw [h1, Nat.add_mul]; omega), h1, show (i + 1) * size - size = i * size by rw [Nat.add_mul]; omega]
  have e2 : (c ++ css.flatten).drop ((i + 1) * size + size) = css.flatten.drop (i * size + size) := by
   rw [List.drop_append, List.drop_of_length_le (by rw [h1, Nat.add_mul]; omega), List.nil_append, h1, show (i + 1) * size + size - size = i * size + size by rw [Nat.add_mul]; omega]
  rw [e1, e2]
  simp
theorem wpList_stRow {w0 w : World} {M : List Ent} {ops : Array Oper} {rest : List Oper} {o : Oper} {a : Act} {Q : Exit → Act → World → Prop} {T e size c g k : Nat} {css : List (List Value)} {cs : List Value} {v : Value} (hgd : o.guard = none) (x y : Operand) (ho : o.op = .store T x y) (H : Mem w0 w M) (i : Nat) (hi : M[i]? = some (.row e size (some ⟨g, 0, .none⟩) c css))
 (hx : a.eval x = .pointer (some ⟨g, k * size, .none⟩)) (hy : a.eval y = v) (hsz : (Try.prog.info? T).map (·.size) = some size) (hv : v.cells.toList = cs) (hl : cs.length = size) (h1 : ∀ u ∈ cs, u.oneCell' = true) (hk : k < css.length)
 (h : ∀ w', Mem w0 w' (M.set i (.row e size (some ⟨g, 0, .none⟩) c (css.set k cs))) → wpList Try.prog ops Q rest (a.put o.dst undef) w') : wpList Try.prog ops Q (o :: rest) a w := by
 have hown := H.own hi
 obtain ⟨h63, h0⟩ | ⟨g', cap, cur, he, hb, hg, hnc, hcm, hcs, htake⟩ := hown.1.2
 · cases h63
 · simp only [Value.slice.injEq, Option.some.injEq, Addr.mk.injEq, and_true, true_and] at he
   obtain ⟨rfl, rfl⟩ := he
   have hlt : k * size + size ≤ css.length * size := by
    have : (k + 1) * size ≤ css.length * size := Nat.mul_le_mul_right _ hk
    rw [Nat.add_mul] at this
    omega
   have hle : css.length * size ≤ c * size := Nat.mul_le_mul_right _ hnc
   refine wpList_st (cs := cs) hgd x y ho hx hy hsz hv hl hg (by omega) h1 fun cur' w' hc hs hg' hgr => h w' (H.put i _ hi hgr ?_ (.inl rfl))
   have hfl : (css.set k cs).flatten.length = css.length * size := by
    rw [flat_len (size := size) _ (fun x hx => by
     rcases List.mem_or_eq_of_mem_set hx with h | h
     · exact hown.2 x h
     · rw [h]; exact hl), List.length_set]
   refine ⟨⟨by rw [hfl, List.length_set], .inr ⟨g, c, cur', by simp, hb, hg', by simpa using hnc, hcm, by rw [hs, hcs], ?_⟩⟩, fun x hx => by
    rcases List.mem_or_eq_of_mem_set hx with h | h
    · exact hown.2 x h
    · rw [h]; exact hl⟩
   rw [hc, List.length_set]
   have hF : cur.toList = css.flatten ++ cur.toList.drop (css.length * size) := by rw [← htake, List.take_append_drop]
   have hFl : css.flatten.length = css.length * size := flat_len _ hown.2
   have e1 : cur.toList.take (k * size) = css.flatten.take (k * size) := by
    rw [hF, List.take_append_of_le_length (by omega)]
   have e2 : cur.toList.drop (k * size + size) = css.flatten.drop (k * size + size) ++ cur.toList.drop (css.length * size) := by
    rw [hF, List.drop_append_of_le_length (by omega), ← hF]
   rw [e1, e2, ← List.append_assoc, ← set_flat_row css hown.2 k hk, List.take_left' hfl]
end Go.Proofs.Ytcdfnlgimbecgaa
