/-
  A region that draws its order, in which one call hands back memory that it has made: what it hands back hangs on the world, so no one value serves every world.
-/
import Derived.Test.YtcdfnlgimbecgaaMo1

namespace Go.Proofs.Ytcdfnlgimbecgaa
open Go.RowKit

/-- an operation that calls no function -/
def calm : Op → Bool
  | .move _ | .assign _ | .pick .. | .load .. | .binOp .. | .unOp .. | .convert .. | .fieldAddr .. | .field .. | .indexAddr .. | .index .. | .extract .. | .slice .. => true
  | .call { callee := .builtin .len, .. } | .call { callee := .builtin .cap, .. } | .call { callee := .builtin .min, .. } | .call { callee := .builtin .max, .. } => true
  | _ => false

theorem value_only {P : Program} {w w' : World} {s : Sem Value} {f : FuncId} {args : Array Value} : ¬ (Sem.run P (do pure (Next.value (← s))) w = .ok (.enter f args) w') := by
  rw [Sem.run_bind]
  cases s.run P w <;> simp [Result.andThen]

theorem calm_spec {P : Program} {w w' : World} {o : Oper} (h : calm o.op = true) (ρ : Operand → Value) (f : FuncId) (args : Array Value) : ¬ ((execOp ρ o).run P w = .ok (.enter f args) w') := by
  unfold execOp
  cases hop : o.op <;> rw [hop] at h <;> simp only [calm] at h <;> first
    | exact value_only
    | (simp only [Sem.run_pure]; simp; done)
    | (simp only []; rw [Sem.run_bind]; cases (asBool _).run P w <;> simp [Result.andThen]; done)
    | cases h
    | skip
  rename_i c
  obtain ⟨callee, xs, ts⟩ := c
  cases callee with
  | value f => cases h
  | invoke r m => cases h
  | builtin b => cases b <;> first | exact value_only | cases h

section
variable {P : Program} {ops : Array Oper} {md : Region.Mode} {C : World → Prop} {io : Nat} {oo : Oper} {R : Value → World → Prop} {D : World → World → Prop} {Q : Value → World → Act → Prop}

/-- what is asked of the loose call in a state -/
def LooseAt (P : Program) (ops : Array Oper) (C : World → Prop) (R : Value → World → Prop) (oo : Oper) (a : Act) : Prop :=
  Region.wanted oo (yielded ops a.tmps) = true ∧ ∀ w, C w → ∃ f args, (execOp a.eval oo).run P w = .ok (.enter f args) w ∧ Calls P f args w fun e w2 => ∃ v, e = .returned v ∧ C w2 ∧ R v w2

def wpAnyL (P : Program) (md : Region.Mode) (ops : Array Oper) (C : World → Prop) (io : Nat) (oo : Oper) (R : Value → World → Prop) (D : World → World → Prop) (Q : Value → World → Act → Prop) : Nat → Array Bool → Act → Prop
  | 0, _, _ => False
  | fuel + 1, listed, a => Region.ready md ops listed ≠ [] ∧ ∀ i ∈ Region.ready md ops listed,
      (i = io → LooseAt P ops C R oo a ∧ ∀ v w2, C w2 → R v w2 → wpAnyQ P md ops (D w2) (Q v w2) fuel (listed.setIfInBounds i true) (a.put oo.dst v)) ∧
      (i ≠ io → qOp P ops C i (wpAnyL P md ops C io oo R D Q fuel (listed.setIfInBounds i true)) a)

theorem wpAny_of_loose (hio : ops[io]? = some oo) (hD : ∀ w, C w → D w w) {Q' : Exit → Act → World → Prop} (hQ : ∀ v w2 a w, C w2 → D w2 w → Q v w2 a → Q' .normal a w) : ∀ (fuel : Nat) (listed : Array Bool) (a : Act) (w : World), C w →
    wpAnyL P md ops C io oo R D Q fuel listed a → wpAny P md ops Q' fuel listed a w
  | 0, _, _, _, _, h => h.elim
  | fuel + 1, listed, a, w, hw, h => by
    refine ⟨fun h0 => (h.1 h0).elim, fun i hi => ?_⟩
    by_cases hii : i = io
    · obtain ⟨⟨hwant, hl⟩, hn⟩ := (h.2 i hi).1 hii
      subst hii
      unfold wpOp
      simp only [hio, hwant, if_true]
      obtain ⟨f, args, hrun, hc⟩ := hl w hw
      refine .inl ?_
      unfold Oper.wp
      rw [hrun]
      refine hc.mono ?_
      rintro e w2 ⟨v, rfl, hC2, hR⟩
      exact wpAny_of_quiet (fun a' w' hw' hq => hQ v w2 a' w' hC2 hw' hq) fuel _ _ w2 (hD w2 hC2) (hn v w2 hC2 hR)
    · exact wpOp_of_qOp hw (fun a' w' hw' => wpAny_of_loose hio hD hQ fuel _ a' w' hw') ((h.2 i hi).2 hii)

theorem LooseAt.put {a : Act} (h : LooseAt P ops C R oo a) {oj : Oper} (hap : oj.apart ops oo = true) (hso : ∀ cs b, oo.op ≠ .select cs b) (v : Value) : LooseAt P ops C R oo (a.put oj.dst v) := by
  obtain ⟨h1, h2, h3⟩ := Oper.apart_spec hap
  obtain ⟨hw, hl⟩ := h
  refine ⟨by rw [wanted_put oo a oj.dst v h1]; exact hw, fun w hC => ?_⟩
  obtain ⟨f, args, hr, hc⟩ := hl w hC
  exact ⟨f, args, by rw [execOp_put oo hso a oj.dst v h1]; exact hr, hc⟩

theorem LooseAt.unput {a : Act} {oj : Oper} {v : Value} (h : LooseAt P ops C R oo (a.put oj.dst v)) (hap : oj.apart ops oo = true) (hso : ∀ cs b, oo.op ≠ .select cs b) : LooseAt P ops C R oo a := by
  obtain ⟨h1, h2, h3⟩ := Oper.apart_spec hap
  obtain ⟨hw, hl⟩ := h
  refine ⟨by rw [wanted_put oo a oj.dst v h1] at hw; exact hw, fun w hC => ?_⟩
  obtain ⟨f, args, hr, hc⟩ := hl w hC
  exact ⟨f, args, by rw [execOp_put oo hso a oj.dst v h1] at hr; exact hr, hc⟩

/-- operation j comes behind operation i in every order -/
def waits (md : Region.Mode) (ops : Array Oper) : Nat → Nat → Nat → Bool
  | 0, _, _ => false
  | fuel + 1, j, i => match ops[j]? with
    | some o => o.after.any fun e => Region.binds md e && (e.on == i || waits md ops fuel e.on i)
    | none => false

def Closed (md : Region.Mode) (ops : Array Oper) (listed : Array Bool) : Prop :=
  ∀ j oj, ops[j]? = some oj → listed.getD j false = true → ∀ e ∈ oj.after, Region.binds md e = true → listed.getD e.on false = true

theorem waits_listed {listed : Array Bool} (hc : Closed md ops listed) : ∀ (fuel j i : Nat) (oj : Oper), ops[j]? = some oj → (∀ e ∈ oj.after, Region.binds md e = true → listed.getD e.on false = true) → waits md ops fuel j i = true → listed.getD i false = true
  | 0, _, _, _, _, _, h => by simp [waits] at h
  | fuel + 1, j, i, oj, hj, hall, h => by
    simp only [waits, hj] at h
    obtain ⟨e, he, hb⟩ := Array.any_eq_true'.1 h
    simp only [Bool.and_eq_true, Bool.or_eq_true, beq_iff_eq] at hb
    have h1 := hall e he hb.1
    rcases hb.2 with h2 | h2
    · rw [← h2]; exact h1
    · cases ho : ops[e.on]? with
      | none => cases fuel <;> simp [waits, ho] at h2
      | some oe => exact waits_listed hc fuel e.on i oe ho (hc e.on oe ho h1) h2

theorem Closed.set_ {listed : Array Bool} (hc : Closed md ops listed) {j : Nat} (hj : j ∈ Region.ready md ops listed) : Closed md ops (listed.setIfInBounds j true) := by
  intro k ok hk hl e he hb
  by_cases hjk : j = k
  · subst hjk
    obtain ⟨_, oj, hoj, hall⟩ := mem_ready.1 hj
    rw [hk] at hoj
    injection hoj with hoj
    subst hoj
    exact getD_set_true (hall e he hb)
  · rw [getD_set_ne false hjk] at hl
    exact getD_set_true (hc k ok hk hl e he hb)

/-- an operation that may come up now may be taken first -/
theorem wpAnyL_first {i : Nat} {oi : Oper} {v : Value} (hi : ops[i]? = some oi) (hio : ops[io]? = some oo) (hne : i ≠ io) (hsel : ∀ (j : Nat) (o : Oper) cs b, ops[j]? = some o → o.op ≠ .select cs b) :
    ∀ (fuel : Nat) (listed : Array Bool) (a : Act),
      (∀ j oj, ops[j]? = some oj → j ≠ i → listed.getD j true = false → (∀ e ∈ oj.after, Region.binds md e = true → e.on ≠ i) → oi.apart ops oj = true) →
      i ∈ Region.ready md ops listed → YieldsIn P ops C oi v a → Closed md ops listed → (waits md ops ops.size io i = false → ∀ w2, C w2 → YieldsIn P ops (D w2) oi v a) →
      wpAnyL P md ops C io oo R D Q fuel (listed.setIfInBounds i true) (a.put oi.dst v) → wpAnyL P md ops C io oo R D Q (fuel + 1) listed a := by
  intro fuel
  induction fuel with
  | zero => intro listed a _ _ _ _ _ H; exact H.elim
  | succ fuel ih =>
    intro listed a hfree hr hy hcl hy2 H
    have hnoton : ∀ j oj, ops[j]? = some oj → j ∈ Region.ready md ops listed → ∀ e ∈ oj.after, Region.binds md e = true → e.on ≠ i := fun j oj hoj hj e he hb heq => by
      obtain ⟨_, oj', hoj', hall⟩ := mem_ready.1 hj
      rw [hoj] at hoj'
      injection hoj' with hoj'
      subst hoj'
      have h1 := hall e he hb
      have h0 := (mem_ready.1 hr).1
      rw [heq] at h1
      rcases Nat.lt_or_ge i listed.size with h' | h'
      · simp [h'] at h0 h1; rw [h0] at h1; cases h1
      · simp [Array.getElem?_eq_none h'] at h1
    refine ⟨fun h => (by rw [h] at hr; cases hr), fun j hj => ⟨fun hjo => ?_, fun hjo => ?_⟩⟩
    · subst hjo
      have hno := hnoton j oo hio hj
      have hnw : waits md ops ops.size j i = false := by
        cases hww : waits md ops ops.size j i with
        | false => rfl
        | true =>
          obtain ⟨_, oj', hoj', hall⟩ := mem_ready.1 hj
          have h1 := waits_listed hcl _ j i oj' hoj' hall hww
          have h0 := (mem_ready.1 hr).1
          rcases Nat.lt_or_ge i listed.size with h' | h'
          · simp [h'] at h0 h1; rw [h0] at h1; cases h1
          · simp [Array.getElem?_eq_none h'] at h1
      have hju := (mem_ready.1 hj).1
      have hap := hfree j oo hio (Ne.symm hne) hju hno
      obtain ⟨h1, h2⟩ := (H.2 j (ready_mono hj (Ne.symm hne))).1 rfl
      obtain ⟨p1, p2, p3⟩ := Oper.apart_spec hap
      refine ⟨h1.unput hap (fun cs b => hsel j oo cs b hio), fun u w2 hC2 hR => ?_⟩
      have h3 := h2 u w2 hC2 hR
      rw [Array.setIfInBounds_comm _ _ hne, Act.put_comm a v u p2] at h3
      have hyi : YieldsIn P ops (D w2) oi v (a.put oo.dst u) :=
        (hy2 hnw w2 hC2).of_same (execOp_put oi (fun cs b => hsel i oi cs b hi) a oo.dst u p3) (wanted_put oi a oo.dst u p3)
      have hfree' : ∀ k ok, ops[k]? = some ok → k ≠ i → (listed.setIfInBounds j true).getD k true = false →
          (∀ e ∈ ok.after, Region.binds md e = true → e.on ≠ i) → oi.apart ops ok = true := fun k ok hk hki hun hno => by
        refine hfree k ok hk hki ?_ hno
        by_cases hjk : j = k
        · subst hjk; exact hju
        · rw [getD_set_ne true hjk] at hun; exact hun
      exact wpAnyQ_first hi hsel fuel (listed.setIfInBounds j true) (a.put oo.dst u) hfree' (ready_mono hr hne) hyi h3
    · by_cases hji : j = i
      · subst hji; exact hy.qOp hi H
      · have h1 := (H.2 j (ready_mono hj hji)).2 hjo
        obtain ⟨hjun, oj, hoj, hall⟩ := mem_ready.1 hj
        have hnot := hnoton j oj hoj hj
        have hap := hfree j oj hoj hji hjun hnot
        obtain ⟨p1, p2, p3⟩ := Oper.apart_spec hap
        have h2 := qOp_put hoj hap (fun cs b => hsel i oi cs b hi) (fun cs b => hsel j oj cs b hoj) hy h1
        have hfree' : ∀ k ok, ops[k]? = some ok → k ≠ i → (listed.setIfInBounds j true).getD k true = false →
            (∀ e ∈ ok.after, Region.binds md e = true → e.on ≠ i) → oi.apart ops ok = true := fun k ok hk hki hun hno => by
          refine hfree k ok hk hki ?_ hno
          by_cases hjk : j = k
          · subst hjk; exact hjun
          · rw [getD_set_ne true hjk] at hun; exact hun
        obtain ⟨u, hyj, h3⟩ := yieldsIn_of_qOp hoj h2
        refine hyj.qOp hoj (ih (listed.setIfInBounds j true) (a.put oj.dst u) hfree' (ready_mono hr (Ne.symm hji)) h3.1 (hcl.set_ hj) (fun hno w2 hC2 => ?_) ?_)
        · exact (hy2 hno w2 hC2).of_same (execOp_put oi (fun cs b => hsel i oi cs b hi) a oj.dst u p3) (wanted_put oi a oj.dst u p3)
        · rw [Array.setIfInBounds_comm _ _ hji]
          exact h3.2

/-- from operation 'io' on each waits for one from there on -/
def tailB (md : Region.Mode) (ops : Array Oper) (io : Nat) : Bool :=
  (List.range ops.size).all fun j => j ≤ io || (match ops[j]? with | some o => o.after.any (fun e => Region.binds md e && io ≤ e.on && e.on < j) | none => true)

/-- each call ahead of 'io' comes ahead of it in every order -/
def callsB (md : Region.Mode) (ops : Array Oper) (io : Nat) : Bool :=
  (List.range io).all fun j => match ops[j]? with
    | some o => calm o.op || waits md ops ops.size io j
    | none => true

def lexTo (md : Region.Mode) (ops : Array Oper) (io : Nat) : Nat → Nat → Array Bool → Bool
  | 0, k, listed => k == io && (Region.ready md ops listed).all (· == io) && (Region.ready md ops listed).contains io && Region.lexFrom md ops (ops.size - (io + 1)) (io + 1) (listed.setIfInBounds io true)
  | fuel + 1, k, listed => k != io && (Region.ready md ops listed).contains k && Region.free md ops listed k && lexTo md ops io fuel (k + 1) (listed.setIfInBounds k true)

def looseB (md : Region.Mode) (ops : Array Oper) (io : Nat) : Bool := Region.noSelect ops && callsB md ops io && lexTo md ops io io 0 (Array.replicate ops.size false)

theorem yields_calm {C' : World → Prop} {oi : Oper} {v : Value} {a : Act} (h : YieldsIn P ops C oi v a) (hc : calm oi.op = true) (hC : ∀ w, C' w → C w) : YieldsIn P ops C' oi v a := by
  rcases h with ⟨hw, h⟩ | h
  · refine .inl ⟨hw, fun w hw' => ?_⟩
    have h1 := h w (hC w hw')
    unfold Oper.quietAt at *
    generalize hr : (execOp a.eval oi).run P w = r at *
    cases r with
    | ok n w1 =>
      cases n <;> simp only [Oper.quietUpon] at h1 ⊢
      case enter f args => exact (calm_spec hc _ _ _ hr).elim
      all_goals exact h1
    | halt x w1 => simp only [Oper.quietUpon] at h1
  · exact .inr h

theorem wpAnyL_lex (hs : Region.noSelect ops = true) (hcb : callsB md ops io = true) (hio : ops[io]? = some oo) (hDC : ∀ w2 w, C w2 → D w2 w → C w) (post : List Oper) (hpost : ∀ j, post[j]? = ops[io + 1 + j]?) (hpl : post.length = ops.size - (io + 1)) : ∀ (l : List Oper) (k : Nat) (listed : Array Bool) (a : Act), (∀ j, j < l.length → l[j]? = ops[k + j]?) → k + l.length = io → Closed md ops listed →
    lexTo md ops io l.length k listed = true → wpQuiet P ops C (fun a1 => LooseAt P ops C R oo a1 ∧ ∀ v w2, C w2 → R v w2 → wpQuiet P ops (D w2) (Q v w2) post (a1.put oo.dst v)) l a →
    wpAnyL P md ops C io oo R D Q (l.length + (post.length + 1)) listed a
  | [], k, listed, a, _, _, _, hB, h => by
    simp only [List.length_nil, lexTo, Bool.and_eq_true] at hB
    obtain ⟨⟨⟨_, hall⟩, hin⟩, hlex⟩ := hB
    obtain ⟨h1, h2⟩ := h
    simp only [List.length_nil, Nat.zero_add]
    refine ⟨fun h0 => (by rw [h0] at hin; simp at hin), fun i hi => ⟨fun hii => ⟨h1, fun v w2 hC2 hR => ?_⟩, fun hii => ?_⟩⟩
    · subst hii
      rw [← hpl] at hlex
      exact wpAnyQ_lex hs post (i + 1) _ _ hpost hlex (h2 v w2 hC2 hR)
    · have := List.all_eq_true.1 hall i hi
      simp at this
      exact (hii this).elim
  | o :: l, k, listed, a, hl, hkl, hcl, hB, h => by
    have h0 : ops[k]? = some o := by simpa using (hl 0 (by simp)).symm
    simp only [List.length_cons] at hkl
    simp only [List.length_cons, lexTo, Bool.and_eq_true] at hB
    obtain ⟨⟨⟨hk, hr⟩, hf⟩, hB'⟩ := hB
    have hst : qOp P ops C k (wpQuiet P ops C (fun a1 => LooseAt P ops C R oo a1 ∧ ∀ v w2, C w2 → R v w2 → wpQuiet P ops (D w2) (Q v w2) post (a1.put oo.dst v)) l) a := by unfold qOp; simp only [h0]; exact h
    obtain ⟨v, hy, hK⟩ := yieldsIn_of_qOp h0 hst
    have hne : k ≠ io := by simpa using hk
    have e : (o :: l).length + (post.length + 1) = l.length + (post.length + 1) + 1 := by simp only [List.length_cons]; omega
    rw [e]
    refine wpAnyL_first h0 hio hne (Region.noSelect_spec hs) _ listed a (Region.free_spec h0 hf) (by simpa using hr) hy hcl (fun hno w2 hC2 => ?_)
      (wpAnyL_lex hs hcb hio hDC post hpost hpl l (k + 1) _ _ (fun j hj => by have := hl (j + 1) (by simpa using hj); simpa [Nat.add_assoc, Nat.add_comm 1 j] using this) (by omega) (hcl.set_ (by simpa using hr)) hB' hK)
    have hc := List.all_eq_true.1 hcb k (List.mem_range.2 (by omega))
    simp only [h0, Bool.or_eq_true] at hc
    rcases hc with hc | hc
    · exact yields_calm hy hc (fun w hw => hDC w2 w hC2 hw)
    · rw [hc] at hno
      cases hno
end

/-- a region that draws its order: old memory is read, calls make new memory alone; call number io hands back what it has made, and what comes behind it waits for it -/
theorem wp_region_loose {P : Program} {id : Nat} {Q : Exit → Act → World → Prop} {a : Act} {w : World} {l : List Oper} (N io : Nat) (oo : Oper) (hio : l[io]? = some oo) (hm : P.follows .mixedOrders = true) (hB : looseB .any l.toArray io = true)
    (R : Value → World → Prop) (hN : N ≤ w.heap.size)
    (h : wpQuiet P l.toArray (fun w' => Below N w w') (fun a1 => LooseAt P l.toArray (fun w' => Below N w w') R oo a1 ∧
      ∀ v w2, Below N w w2 → R v w2 → wpQuiet P l.toArray (fun w' => Below w2.heap.size w2 w') (fun a' => ∀ w', Below N w w' → Q .normal a' w') (l.drop (io + 1)) (a1.put oo.dst v)) (l.take io) a) :
    (Code.region id l.toArray true).wp P Q a w := by
  simp only [looseB, Bool.and_eq_true] at hB
  obtain ⟨⟨hs, hcb⟩, hlx⟩ := hB
  have hlt : io < l.length := (List.getElem?_eq_some_iff.1 hio).1
  have htl : (l.take io).length = io := by simp; omega
  refine wp_region_any hm (wpAny_of_loose (C := fun w' => Below N w w') (io := io) (oo := oo) (R := R) (D := fun w2 w' => Below w2.heap.size w2 w') (Q := fun _ _ a' => ∀ w', Below N w w' → Q .normal a' w') (by simpa using hio) (fun w' _ => Below.refl _ _) (fun v w2 a' w' h1 h2 hq => hq w' (h1.trans (h2.mono (Nat.le_trans hN h1.size)))) _ _ a _ (Below.refl _ _).drew ?_)
  have hsz : l.toArray.size = (l.take io).length + ((l.drop (io + 1)).length + 1) := by simp; omega
  rw [hsz]
  refine wpAnyL_lex hs hcb (by simpa using hio) (fun w2 w' h1 h2 => h1.trans (h2.mono (Nat.le_trans hN h1.size))) (l.drop (io + 1)) (fun j => by simp) (by simp) (l.take io) 0 _ a (fun j hj => by simp only [List.getElem?_toArray, Nat.zero_add]; rw [List.getElem?_take, if_pos (by omega)]) (by simpa using htl) (fun j oj _ hl => by simp [Array.getElem?_replicate] at hl; split at hl <;> simp at hl) ?_ h
  rw [← hsz, htl]
  exact hlx
end Go.Proofs.Ytcdfnlgimbecgaa
