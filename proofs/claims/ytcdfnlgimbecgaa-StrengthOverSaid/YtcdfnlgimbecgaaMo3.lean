/-
  A region that draws its order: reads and calls in whatever order, and a row of operations at its end that make or write memory of their own (a new variable, a store into it, a call that hands back what it has made).
-/
import Derived.Test.YtcdfnlgimbecgaaMo2

namespace Go.Proofs.Ytcdfnlgimbecgaa
open Go.RowKit

/-- from a world on -/
abbrev From (w : World) (w' : World) : Prop := Below w.heap.size w w'

section
variable {P : Program} {ops : Array Oper} {md : Region.Mode} {C0 C : World → Prop}

/-- one value in every world, whatever is made meanwhile -/
def YieldsG (P : Program) (ops : Array Oper) (C0 : World → Prop) (o : Oper) (v : Value) (a : Act) : Prop :=
  YieldsIn P ops C0 o v a ∧ ∀ wb, C0 wb → YieldsIn P ops (From wb) o v a

def quietG (P : Program) (o : Oper) (a : Act) (C0 : World → Prop) (K : Act → Prop) : Prop :=
  (calm o.op = true ∧ o.quiet P a C0 K) ∨
  (∃ v f args, (∀ w, C0 w → (execOp a.eval o).run P w = .ok (.enter f args) w) ∧ (∀ w, C0 w → Calls P f args w fun e w2 => e = .returned v ∧ From w w2) ∧ K (a.put o.dst v))

def wpG (P : Program) (ops : Array Oper) (C0 : World → Prop) (Q : Act → Prop) : List Oper → Act → Prop
  | [], a => Q a
  | o :: rest, a => if Region.wanted o (yielded ops a.tmps) then quietG P o a C0 (wpG P ops C0 Q rest) else wpG P ops C0 Q rest (a.put o.dst undef)

theorem wpG_nil {Q : Act → Prop} {a : Act} (h : Q a) : wpG P ops C0 Q [] a := h
theorem wpG_skip {Q : Act → Prop} {a : Act} {o : Oper} {rest : List Oper} (hw : Region.wanted o (yielded ops a.tmps) = false) (h : wpG P ops C0 Q rest (a.put o.dst undef)) : wpG P ops C0 Q (o :: rest) a := by
  unfold wpG
  rw [hw]
  exact h
theorem wpG_calm {Q : Act → Prop} {a : Act} {o : Oper} {rest : List Oper} (hw : Region.wanted o (yielded ops a.tmps) = true) (hc : calm o.op = true)
    (h : ∀ K : Act → Prop, (∀ a', wpG P ops C0 Q rest a' → K a') → o.quiet P a C0 K) : wpG P ops C0 Q (o :: rest) a := by
  unfold wpG
  rw [if_pos hw]
  exact .inl ⟨hc, h _ fun _ h => h⟩
theorem wpG_call {Q : Act → Prop} {a : Act} {o : Oper} {rest : List Oper} (hw : Region.wanted o (yielded ops a.tmps) = true) (v : Value) (f : FuncId) (args : Array Value)
    (hr : ∀ w, C0 w → (execOp a.eval o).run P w = .ok (.enter f args) w) (hc : ∀ w, C0 w → Calls P f args w fun e w2 => e = .returned v ∧ From w w2) (h : wpG P ops C0 Q rest (a.put o.dst v)) : wpG P ops C0 Q (o :: rest) a := by
  unfold wpG
  rw [if_pos hw]
  exact .inr ⟨v, f, args, hr, hc, h⟩

theorem yieldsG_of_quietG {o : Oper} {a : Act} {K : Act → Prop} (hg : ∀ w w', C0 w → From w w' → C0 w') (hw : Region.wanted o (yielded ops a.tmps) = true) (h : quietG P o a C0 K) : ∃ v, YieldsG P ops C0 o v a ∧ K (a.put o.dst v) := by
  rcases h with ⟨hc, v, h1, h2⟩ | ⟨v, f, args, hr, hcall, h2⟩
  · have hy : YieldsIn P ops C0 o v a := .inl ⟨hw, h1⟩
    exact ⟨v, ⟨hy, fun wb hb => yields_calm hy hc fun w' hw' => hg wb w' hb hw'⟩, h2⟩
  · refine ⟨v, ⟨.inl ⟨hw, fun w hC => ?_⟩, fun wb hb => .inl ⟨hw, fun w hC => ?_⟩⟩, h2⟩
    · unfold Oper.quietAt
      rw [hr w hC]
      exact ⟨rfl, (hcall w hC).mono fun e w2 h => ⟨h.1, hg w w2 hC h.2⟩⟩
    · unfold Oper.quietAt
      rw [hr w (hg wb w hb hC)]
      exact ⟨rfl, (hcall w (hg wb w hb hC)).mono fun e w2 h => ⟨h.1, hC.trans (h.2.mono hC.size)⟩⟩

theorem YieldsG.put {oi oj : Oper} {v u : Value} {a : Act} (h : YieldsG P ops C0 oi v a) (hap : oi.apart ops oj = true) (hsi : ∀ cs b, oi.op ≠ .select cs b) : YieldsG P ops C0 oi v (a.put oj.dst u) := by
  obtain ⟨p1, p2, p3⟩ := Oper.apart_spec hap
  exact ⟨h.1.of_same (execOp_put oi hsi a oj.dst u p3) (wanted_put oi a oj.dst u p3), fun wb hb => (h.2 wb hb).of_same (execOp_put oi hsi a oj.dst u p3) (wanted_put oi a oj.dst u p3)⟩

/-- what one operation comes to in a world -/
def runsTo (P : Program) (o : Oper) (a : Act) (w : World) (R : Value → World → Prop) : Prop :=
  match (execOp a.eval o).run P w with
  | .ok (.value v) w2 => R v w2
  | .ok .skip w2 => R undef w2
  | .ok (.enter f args) w1 => Calls P f args w1 fun e w2 => ∃ v, e = .returned v ∧ R v w2
  | _ => False

def LooseStep (P : Program) (ops : Array Oper) (C0 C : World → Prop) (oo : Oper) (a : Act) (cont : Value → World → Prop) : Prop :=
  Region.wanted oo (yielded ops a.tmps) = true ∧ ∃ R : Value → World → Prop, (∀ w, C w → runsTo P oo a w R) ∧ ∀ v w2, R v w2 → C0 w2 ∧ cont v w2

theorem LooseStep.mono {oo : Oper} {a : Act} {c c' : Value → World → Prop} (h : LooseStep P ops C0 C oo a c) (hc : ∀ v w2, C0 w2 → c v w2 → c' v w2) : LooseStep P ops C0 C oo a c' :=
  let ⟨hw, R, h1, h2⟩ := h
  ⟨hw, R, h1, fun v w2 hr => ⟨(h2 v w2 hr).1, hc v w2 (h2 v w2 hr).1 (h2 v w2 hr).2⟩⟩

theorem LooseStep.unput {oo oj : Oper} {v : Value} {a : Act} {c : Value → World → Prop} (h : LooseStep P ops C0 C oo (a.put oj.dst v) c) (hap : oj.apart ops oo = true) (hso : ∀ cs b, oo.op ≠ .select cs b) : LooseStep P ops C0 C oo a c := by
  obtain ⟨h1, h2, h3⟩ := Oper.apart_spec hap
  obtain ⟨hw, R, hr, hk⟩ := h
  refine ⟨by rw [wanted_put oo a oj.dst v h1] at hw; exact hw, R, fun w hC => ?_, hk⟩
  have := hr w hC
  unfold runsTo at *
  rw [execOp_put oo hso a oj.dst v h1] at this
  exact this

def anyM (P : Program) (md : Region.Mode) (ops : Array Oper) (C0 : World → Prop) (Q' : Act → World → Prop) : List Nat → (World → Prop) → Nat → Array Bool → Act → Prop
  | [], C, fuel, listed, a => wpAnyQ P md ops C (fun a' => ∀ w', C w' → Q' a' w') fuel listed a
  | _ :: _, _, 0, _, _ => False
  | io :: ios, C, fuel + 1, listed, a => Region.ready md ops listed ≠ [] ∧ ∀ i ∈ Region.ready md ops listed,
      (i = io → ∃ oo, ops[io]? = some oo ∧ LooseStep P ops C0 C oo a fun v w2 => anyM P md ops C0 Q' ios (From w2) fuel (listed.setIfInBounds i true) (a.put oo.dst v)) ∧
      (i ≠ io → qOp P ops C i (anyM P md ops C0 Q' (io :: ios) C fuel (listed.setIfInBounds i true)) a)

theorem wpAny_of_anyM {Q : Exit → Act → World → Prop} : ∀ (ios : List Nat) (C : World → Prop) (fuel : Nat) (listed : Array Bool) (a : Act) (w : World), C w →
    anyM P md ops C0 (fun a' w' => Q .normal a' w') ios C fuel listed a → wpAny P md ops Q fuel listed a w
  | [], C, fuel, listed, a, w, hw, h => wpAny_of_quiet (Q := fun a' => ∀ w', C w' → Q .normal a' w') (fun a' w' hw' hq => hq w' hw') fuel listed a w hw (by unfold anyM at h; exact h)
  | io :: ios, C, 0, listed, a, w, hw, h => by unfold anyM at h; exact h.elim
  | io :: ios, C, fuel + 1, listed, a, w, hw, h => by
    unfold anyM at h
    refine ⟨fun h0 => (h.1 h0).elim, fun i hi => ?_⟩
    by_cases hii : i = io
    · obtain ⟨oo, hoo, hwant, R, hr, hk⟩ := (h.2 i hi).1 hii
      subst hii
      unfold wpOp
      simp only [hoo, hwant, if_true]
      refine .inl ?_
      have h1 := hr w hw
      unfold runsTo at h1
      unfold Oper.wp
      have hcont : ∀ v w2, R v w2 → wpAny P md ops Q fuel (listed.setIfInBounds i true) (a.put oo.dst v) w2 := fun v w2 hR =>
        wpAny_of_anyM ios (From w2) fuel _ _ w2 (Below.refl _ _) (hk v w2 hR).2
      generalize (execOp a.eval oo).run P w = r at *
      cases r with
      | ok n w1 =>
        cases n <;> simp only at h1 <;> simp only [Oper.upon]
        case enter f args =>
          refine h1.mono ?_
          rintro e w2 ⟨v, rfl, hR⟩
          exact hcont v w2 hR
        all_goals exact hcont _ _ h1
      | halt x w1 => exact h1.elim
    · exact wpOp_of_qOp hw (fun a' w' hw' => wpAny_of_anyM (io :: ios) C fuel _ a' w' hw') ((h.2 i hi).2 hii)

/-- an operation that may come up now may be taken first -/
theorem anyM_first {i : Nat} {oi : Oper} {v : Value} {Q' : Act → World → Prop} (hi : ops[i]? = some oi) (hsel : ∀ (j : Nat) (o : Oper) cs b, ops[j]? = some o → o.op ≠ .select cs b) :
    ∀ (ios : List Nat) (C : World → Prop), i ∉ ios → (C = C0 ∨ ∃ wb, C0 wb ∧ C = From wb) → ∀ (fuel : Nat) (listed : Array Bool) (a : Act),
      (∀ j oj, ops[j]? = some oj → j ≠ i → listed.getD j true = false → (∀ e ∈ oj.after, Region.binds md e = true → e.on ≠ i) → oi.apart ops oj = true) →
      i ∈ Region.ready md ops listed → YieldsG P ops C0 oi v a →
      anyM P md ops C0 Q' ios C fuel (listed.setIfInBounds i true) (a.put oi.dst v) → anyM P md ops C0 Q' ios C (fuel + 1) listed a := by
  intro ios
  induction ios with
  | nil =>
    intro C hni hC fuel listed a hfree hr hy H
    unfold anyM at *
    refine wpAnyQ_first hi hsel fuel listed a hfree hr ?_ H
    rcases hC with rfl | ⟨wb, hb, rfl⟩
    · exact hy.1
    · exact hy.2 wb hb
  | cons io ios ihs =>
    intro C hni hC fuel
    have hne : i ≠ io := fun e => hni (by simp [e])
    have hni' : i ∉ ios := fun e => hni (by simp [e])
    induction fuel with
    | zero => intro listed a _ _ _ H; unfold anyM at H; exact H.elim
    | succ fuel ih =>
      intro listed a hfree hr hy H
      have hyC : YieldsIn P ops C oi v a := by
        rcases hC with rfl | ⟨wb, hb, rfl⟩
        · exact hy.1
        · exact hy.2 wb hb
      have hnoton : ∀ j oj, ops[j]? = some oj → j ∈ Region.ready md ops listed → ∀ e ∈ oj.after, Region.binds md e = true → e.on ≠ i := fun j oj hoj hj e he hb heq => by
        obtain ⟨_, oj', hoj', hall⟩ := mem_ready.1 hj
        rw [hoj] at hoj'
        injection hoj' with hoj'
        subst hoj'
        have h1 := hall e he hb
        have h0 := (mem_ready.1 hr).1
        rw [heq] at h1
        rcases Nat.lt_or_ge i listed.size with h' | h'
        · simp [h'] at h0 h1; rw [h0] at h1; cases h1
        · simp [Array.getElem?_eq_none h'] at h1
      have hfree' : ∀ j, listed.getD j true = false → ∀ k ok, ops[k]? = some ok → k ≠ i → (listed.setIfInBounds j true).getD k true = false →
          (∀ e ∈ ok.after, Region.binds md e = true → e.on ≠ i) → oi.apart ops ok = true := fun j hju k ok hk hki hun hno => by
        refine hfree k ok hk hki ?_ hno
        by_cases hjk : j = k
        · subst hjk; exact hju
        · rw [getD_set_ne true hjk] at hun; exact hun
      unfold anyM at H ⊢
      refine ⟨fun h => (by rw [h] at hr; cases hr), fun j hj => ⟨fun hjo => ?_, fun hjo => ?_⟩⟩
      · subst hjo
        obtain ⟨oo, hoo, hls⟩ := (H.2 j (ready_mono hj (Ne.symm hne))).1 rfl
        have hno := hnoton j oo hoo hj
        have hju := (mem_ready.1 hj).1
        have hap := hfree j oo hoo (Ne.symm hne) hju hno
        obtain ⟨p1, p2, p3⟩ := Oper.apart_spec hap
        refine ⟨oo, hoo, (hls.unput hap (fun cs b => hsel j oo cs b hoo)).mono fun u w2 hC2 h3 => ?_⟩
        rw [Array.setIfInBounds_comm _ _ hne, Act.put_comm a v u p2] at h3
        exact ihs (From w2) hni' (.inr ⟨w2, hC2, rfl⟩) fuel _ _ (hfree' j hju) (ready_mono hr hne) (hy.put hap (fun cs b => hsel i oi cs b hi)) h3
      · by_cases hji : j = i
        · subst hji; exact hyC.qOp hi H
        · have h1 := (H.2 j (ready_mono hj hji)).2 hjo
          obtain ⟨hjun, oj, hoj, hall⟩ := mem_ready.1 hj
          have hnot := hnoton j oj hoj hj
          have hap := hfree j oj hoj hji hjun hnot
          have h2 := qOp_put hoj hap (fun cs b => hsel i oi cs b hi) (fun cs b => hsel j oj cs b hoj) hyC h1
          obtain ⟨u, hyj, h3⟩ := yieldsIn_of_qOp hoj h2
          refine hyj.qOp hoj (ih (listed.setIfInBounds j true) (a.put oj.dst u) (hfree' j hjun) (ready_mono hr (Ne.symm hji)) (hy.put hap (fun cs b => hsel i oi cs b hi)) ?_)
          rw [Array.setIfInBounds_comm _ _ hji]
          exact h3.2

/-- the loose operations, one behind the other, and what comes behind them -/
def looseW (P : Program) (ops : Array Oper) (C0 : World → Prop) (Q' : Act → World → Prop) (post : List Oper) : List Oper → (World → Prop) → Act → Prop
  | [], C, a => wpQuiet P ops C (fun a' => ∀ w', C w' → Q' a' w') post a
  | oo :: more, C, a => LooseStep P ops C0 C oo a fun v w2 => looseW P ops C0 Q' post more (From w2) (a.put oo.dst v)

def lexL (md : Region.Mode) (ops : Array Oper) (np : Nat) : Nat → Nat → Array Bool → Bool
  | 0, k, listed => Region.lexFrom md ops np k listed
  | n + 1, k, listed => (Region.ready md ops listed).all (· == k) && (Region.ready md ops listed).contains k && lexL md ops np n (k + 1) (listed.setIfInBounds k true)

def lexG (md : Region.Mode) (ops : Array Oper) (nl np : Nat) : Nat → Nat → Array Bool → Bool
  | 0, k, listed => lexL md ops np nl k listed
  | n + 1, k, listed => (Region.ready md ops listed).contains k && Region.free md ops listed k && lexG md ops nl np n (k + 1) (listed.setIfInBounds k true)

theorem anyM_loose {Q' : Act → World → Prop} (hs : Region.noSelect ops = true) (post : List Oper) : ∀ (ls : List Oper) (k : Nat) (C : World → Prop) (listed : Array Bool) (a : Act), (∀ j, (ls ++ post)[j]? = ops[k + j]?) →
    lexL md ops post.length ls.length k listed = true → looseW P ops C0 Q' post ls C a → anyM P md ops C0 Q' (List.range' k ls.length) C (ls.length + post.length) listed a
  | [], k, C, listed, a, hl, hB, h => by
    simp only [List.length_nil, Nat.zero_add, List.range'_zero]
    unfold anyM
    exact wpAnyQ_lex hs post k listed a (by simpa using hl) (by simpa [lexL] using hB) h
  | oo :: ls, k, C, listed, a, hl, hB, h => by
    simp only [List.length_cons, lexL, Bool.and_eq_true] at hB
    obtain ⟨⟨hall, hin⟩, hB'⟩ := hB
    have h0 : ops[k]? = some oo := by simpa using (hl 0).symm
    have e : (oo :: ls).length + post.length = ls.length + post.length + 1 := by simp only [List.length_cons]; omega
    rw [e]
    simp only [List.length_cons, List.range'_succ]
    unfold anyM
    refine ⟨fun hn => by rw [hn] at hin; simp at hin, fun i hi => ⟨fun hii => ⟨oo, h0, ?_⟩, fun hii => ?_⟩⟩
    · subst hii
      unfold looseW at h
      exact h.mono fun v w2 _ h3 => anyM_loose hs post ls (i + 1) (From w2) _ _ (fun j => by have := hl (j + 1); simpa [Nat.add_assoc, Nat.add_comm 1 j] using this) hB' h3
    · have := List.all_eq_true.1 hall i hi
      simp at this
      exact (hii this).elim

theorem anyM_lex {Q' : Act → World → Prop} (hs : Region.noSelect ops = true) (hg : ∀ w w', C0 w → From w w' → C0 w') (ls post : List Oper) : ∀ (l : List Oper) (k : Nat) (listed : Array Bool) (a : Act), (∀ j, (l ++ (ls ++ post))[j]? = ops[k + j]?) →
    lexG md ops ls.length post.length l.length k listed = true → wpG P ops C0 (looseW P ops C0 Q' post ls C0) l a →
    anyM P md ops C0 Q' (List.range' (k + l.length) ls.length) C0 (l.length + (ls.length + post.length)) listed a
  | [], k, listed, a, hl, hB, h => by
    simp only [List.length_nil, Nat.zero_add, Nat.add_zero]
    exact anyM_loose hs post ls k C0 listed a (by simpa using hl) (by simpa [lexG] using hB) h
  | o :: l, k, listed, a, hl, hB, h => by
    have h0 : ops[k]? = some o := by simpa using (hl 0).symm
    simp only [List.length_cons, lexG, Bool.and_eq_true] at hB
    obtain ⟨⟨hr, hf⟩, hB'⟩ := hB
    have hrest : ∃ v, YieldsG P ops C0 o v a ∧ wpG P ops C0 (looseW P ops C0 Q' post ls C0) l (a.put o.dst v) := by
      unfold wpG at h
      by_cases hw : Region.wanted o (yielded ops a.tmps) = true
      · rw [if_pos hw] at h
        exact yieldsG_of_quietG hg hw h
      · rw [if_neg hw] at h
        have hw' : Region.wanted o (yielded ops a.tmps) = false := by simpa using hw
        exact ⟨undef, ⟨.inr ⟨hw', rfl⟩, fun _ _ => .inr ⟨hw', rfl⟩⟩, h⟩
    obtain ⟨v, hy, hK⟩ := hrest
    have e : (o :: l).length + (ls.length + post.length) = l.length + (ls.length + post.length) + 1 := by simp only [List.length_cons]; omega
    have e2 : k + (o :: l).length = k + 1 + l.length := by simp only [List.length_cons]; omega
    rw [e, e2]
    refine anyM_first h0 (Region.noSelect_spec hs) _ C0 (fun hm => by have := (List.mem_range'_1.1 hm).1; omega) (.inl rfl) _ listed a (Region.free_spec h0 hf) (by simpa using hr) hy
      (anyM_lex hs hg ls post l (k + 1) _ _ (fun j => by have := hl (j + 1); simpa [Nat.add_assoc, Nat.add_comm 1 j] using this) hB' hK)
end

def drawB (ops : Array Oper) (np nl : Nat) : Bool := Region.noSelect ops && lexG .any ops nl (ops.size - (np + nl)) np 0 (Array.replicate ops.size false)

/-- np operations that read or call, nl that make or write memory, then what only reads -/
theorem wp_region_drawn {P : Program} {id : Nat} {Q : Exit → Act → World → Prop} {a : Act} {w : World} {l : List Oper} (np nl N : Nat) (hm : P.follows .mixedOrders = true) (hB : drawB l.toArray np nl = true) (hlen : np + nl ≤ l.length) (hN : N ≤ w.heap.size)
    (h : wpG P l.toArray (fun w' => Below N w w') (looseW P l.toArray (fun w' => Below N w w') (fun a' w' => Q .normal a' w') (l.drop (np + nl)) ((l.drop np).take nl) (fun w' => Below N w w')) (l.take np) a) :
    (Code.region id l.toArray true).wp P Q a w := by
  simp only [drawB, Bool.and_eq_true] at hB
  obtain ⟨hs, hlx⟩ := hB
  refine wp_region_any hm (wpAny_of_anyM (C0 := fun w' => Below N w w') (List.range' np nl) (fun w' => Below N w w') _ _ a _ (Below.refl _ _).drew ?_)
  have h1 : (l.take np).length = np := by simp; omega
  have h2 : ((l.drop np).take nl).length = nl := by simp; omega
  have h3 : (l.drop (np + nl)).length = l.toArray.size - (np + nl) := by simp
  have key := anyM_lex (md := .any) (Q' := fun a' w' => Q .normal a' w') hs (fun w1 w2 hb1 hb2 => hb1.trans (hb2.mono (Nat.le_trans hN hb1.size))) ((l.drop np).take nl) (l.drop (np + nl)) (l.take np) 0 (Array.replicate l.toArray.size false) a
    (fun j => by
      have e : l.take np ++ ((l.drop np).take nl ++ l.drop (np + nl)) = l := by rw [← List.drop_drop, List.take_append_drop, List.take_append_drop]
      rw [e]; simp) (by rw [h1, h2, h3]; exact hlx) h
  rw [h1, h2, h3] at key
  have e4 : np + (nl + (l.toArray.size - (np + nl))) = l.toArray.size := by simp; omega
  rw [e4] at key
  simpa using key

/-- a new variable, and the store into it, at a drawn region's end -/
theorem loose_var {P : Program} {ops : Array Oper} {N : Nat} {wb : World} {Q' : Act → World → Prop} {post : List Oper} {o1 o2 : Oper} {a : Act} {T n : Nat} {z v : Value} {x y : Operand} (hN : N ≤ wb.heap.size)
    (h1 : Region.wanted o1 (yielded ops a.tmps) = true) (ho1 : o1.op = .alloc T) (hz : ∀ w, (zeroValue T).run P w = .ok z w) (hzn : z.cells.size = n) (hi : (P.info? T).map (·.size) = some n)
    (h2 : ∀ p, Region.wanted o2 (yielded ops (a.put o1.dst p).tmps) = true) (ho2 : o2.op = .store T x y) (hx : ∀ p, (a.put o1.dst p).eval x = p) (hy : ∀ p, (a.put o1.dst p).eval y = v)
    (hvn : v.cells.size = n) (hone : ∀ u ∈ v.cells.toList, u.oneCell' = true)
    (h : ∀ g w2, N ≤ g → g < w2.heap.size → w2.heap[g]? = some (.cells v.cells T (0, 0)) → Below N wb w2 → wpQuiet P ops (From w2) (fun a' => ∀ w', From w2 w' → Q' a' w') post ((a.put o1.dst (.pointer (some ⟨g, 0, none⟩))).put o2.dst undef)) :
    looseW P ops (fun w' => Below N wb w') Q' post [o1, o2] (fun w' => Below N wb w') a := by
  unfold looseW
  refine ⟨h1, fun p w2 => ∃ w1, Below N wb w1 ∧ p = .pointer (some ⟨w1.heap.size, 0, none⟩) ∧ w2 = w1.alloc (.cells z.cells T), fun w1 hw1 => ?_, ?_⟩
  · unfold runsTo execOp
    simp only [ho1, Instr.alloc, Sem.run_bind, hz, Result.andThen_ok, newVar, newRow, Sem.run_pure]
    exact ⟨w1, hw1, rfl, rfl⟩
  · rintro p w2 ⟨w1, hw1, rfl, rfl⟩
    refine ⟨hw1.alloc (Nat.le_trans hN hw1.size) _, ?_⟩
    unfold looseW
    have hsz : (w1.alloc (.cells z.cells T)).heap.size = w1.heap.size + 1 := by simp
    refine ⟨h2 _, fun u w3 => u = undef ∧ w3.heap[w1.heap.size]? = some (.cells v.cells T (0, 0)) ∧ Below N wb w3 ∧ w1.heap.size < w3.heap.size, fun w4 hw4 => ?_, ?_⟩
    · have hg : w4.heap[w1.heap.size]? = some (.cells z.cells T (0, 0)) := (hw4.block _ (by omega)).trans (heap_alloc_new w1 _)
      have hr := run_store_cells (P := P) (T := T) (n := n) (w := w4) (g := w1.heap.size) (off := 0) (v := v) hi rfl (by simpa using hvn) hg (by omega) hone
      unfold runsTo execOp
      simp only [ho2, hx, hy, Instr.storeAt, Instr.sureAddr, Sem.run_bind, Sem.run_pure, Result.andThen_ok, hr]
      have hgl := (Array.getElem?_eq_some_iff.1 hg).1
      refine ⟨trivial, ?_, ?_, by simpa using hgl⟩
      · rw [setRow_heap w4 _ _ _ T _ hg]
        have hlen : z.cells.toList.length ≤ n := by simp; omega
        simp [List.drop_of_length_le hlen]
      · have hb4 : Below N wb w4 := (hw1.alloc (Nat.le_trans hN hw1.size) (.cells z.cells T)).trans (hw4.mono (by have := hw1.size; omega))
        refine hb4.trans ⟨rfl, rfl, rfl, by simp, fun k hk => setRow_other w4 _ k _ (by have := hw1.size; omega)⟩
    · rintro u w3 ⟨rfl, hg3, hb3, hlt3⟩
      refine ⟨hb3, ?_⟩
      unfold looseW
      exact h _ w3 (Nat.le_trans hN hw1.size) hlt3 hg3 hb3
end Go.Proofs.Ytcdfnlgimbecgaa
