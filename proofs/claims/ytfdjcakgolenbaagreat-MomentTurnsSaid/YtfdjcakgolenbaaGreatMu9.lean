/-
  A law for a region that draws its order, of which each operation's outcome is told in a list: known values, calls that leave known values, and new memory of which a relation is known.
-/
import Derived.Test.YtfdjcakgolenbaaGreatMu8
set_option linter.unusedVariables false
set_option linter.unusedSimpArgs false
namespace Go.Proofs.YtfdjcakgolenbaaGreat
open Go.RowKit
theorem wp_region_made2 {P : Program} {id : Nat} {Q : Exit → Act → World → Prop} {a0 : Act} {w0 : World} {l : List Oper} (np : Nat) (R : Nat → Value → Nat → Nat → World → Prop) (hm : P.follows .mixedOrders = true) (hO : orderB l np = true) (hnp : np ≤ l.length) (hd : dstsB l np a0.tmps.size = true)
 (hR : ∀ i v lo hi w w', R i v lo hi w → hi ≤ w.heap.size → From w w' → R i v lo hi w')
 (hstep : ∀ i o, i < np → l[i]? = some o → ∀ (L : Nat → Bool) (a : Act) (w : World) (val : Nat → Value) (lo hi : Nat → Nat), Made w0 a0 l np R L a w val lo hi → (∀ e ∈ o.after, Region.binds .any e = true → L e.on = true) → L i = false → (∀ j oj, L j = true → l[j]? = some oj → ∀ e ∈ oj.after, Region.binds .any e = true → L e.on = true) →
  wpOp P l.toArray Q i (fun a' w' => ∃ v, a' = a.put o.dst v ∧ From w w' ∧ R i v w.heap.size w'.heap.size w') a w)
 (hK : ∀ (val : Nat → Value) (lo hi : Nat → Nat) (w : World), From w0 w → (∀ i, i < np → w0.heap.size ≤ lo i ∧ lo i ≤ hi i ∧ hi i ≤ w.heap.size ∧ R i (val i) (lo i) (hi i) w) → (∀ i j, i < np → j < np → i ≠ j → hi i ≤ lo j ∨ hi j ≤ lo i) → wpList P l.toArray Q (l.drop np) (putAll val 0 (l.take np) a0) w) :
 (Code.region id l.toArray true).wp P Q a0 w0 := by
 refine wp_region_any hm (wpAny_inv (fun listed a w => listed.size = l.length ∧ Closed .any l.toArray listed ∧ ((∃ val lo hi, Made w0 a0 l np R (LL listed) a w val lo hi ∧ ∀ j, np ≤ j → LL listed j = false) ∨ ∃ k, np ≤ k ∧ (∀ j, LL listed j = decide (j < k)) ∧ wpList P l.toArray Q (l.drop k) a w)) ?_ ?_ _ _ _ _ ?_ ?_)
 · rintro listed a w ⟨hsz, hcl, H⟩ hr
   have hall : ∀ j, j < l.length → LL listed j = true := by
    intro j
    induction j using Nat.strongRecOn with
    | ind j ih =>
     intro hj
     cases hq : LL listed j with
     | true => rfl
     | false =>
      exfalso
      have hmem : j ∈ Region.ready .any l.toArray listed := by
       rw [mem_ready]
       refine ⟨?_, l[j], by simp [hj], fun e he hb => ?_⟩
       · unfold LL at hq
         rw [Array.getD_eq_getD_getElem?, Array.getElem?_eq_getElem (by omega)] at hq ⊢
         exact hq
       · have h1 := orderB_back hO (List.getElem?_eq_getElem hj) e he hb
         exact ih e.on h1 (by omega)
      rw [hr] at hmem
      cases hmem
   rcases H with ⟨val, lo, hi, M, hpost⟩ | ⟨k, hk, hL, hw⟩
   · have hnl : np = l.length := by
      rcases Nat.lt_or_ge np l.length with h | h
      · have h1 := hall np h
        rw [hpost np (Nat.le_refl _)] at h1
        cases h1
      · omega
     have hact := M.act (fun i hi => hall i (by omega)) hd
     have h1 := hK val lo hi w M.from0 (fun i hi => M.rows i hi (hall i (by omega))) (fun i j hi hj hij => M.apart i j hi hj (hall i (by omega)) (hall j (by omega)) hij)
     rw [hnl, List.drop_length] at h1
     rw [hact, hnl]
     exact h1
   · have hk2 : l.length ≤ k := by
      rcases Nat.lt_or_ge k l.length with h | h
      · have h1 := hall k h
        rw [hL k] at h1
        simp at h1
      · exact h
     rw [List.drop_eq_nil_of_le hk2] at hw
     exact hw
 · rintro listed a w i ⟨hsz, hcl, H⟩ hr
   obtain ⟨hun, o, ho, haft⟩ := mem_ready.1 hr
   obtain ⟨hn, hlt⟩ := listed_false hun
   have ho' : l[i]? = some o := by simpa using ho
   have hL := LL_set (listed := listed) (i := i) hlt
   have post : ∀ k, np ≤ k → (∀ j, LL listed j = decide (j < k)) → wpList P l.toArray Q (l.drop k) a w → wpOp P l.toArray Q i (fun a w => (listed.setIfInBounds i true).size = l.length ∧ Closed .any l.toArray (listed.setIfInBounds i true) ∧ ((∃ val lo hi, Made w0 a0 l np R (LL (listed.setIfInBounds i true)) a w val lo hi ∧ ∀ j, np ≤ j → LL (listed.setIfInBounds i true) j = false) ∨ ∃ k, np ≤ k ∧ (∀ j, LL (listed.setIfInBounds i true) j = decide (j < k)) ∧ wpList P l.toArray Q (l.drop k) a w)) a w := by
    intro k hk hLk hw
    have hki : i = k := by
     have h1 : ¬ i < k := by
      intro h
      rw [hLk i] at hn
      simp [h] at hn
     rcases Nat.lt_or_ge k i with h | h
     · have h2 := waits_listed hcl _ i k o ho haft (orderB_all hO ho' (by omega) k h)
       have h3 := hLk k
       unfold LL at h3
       rw [h2] at h3
       simp at h3
     · omega
    subst hki
    have hlt' : i < l.length := (List.getElem?_eq_some_iff.1 ho').1
    rw [List.drop_eq_getElem_cons hlt'] at hw
    have hoi : l[i] = o := by rw [List.getElem?_eq_getElem hlt'] at ho'; injection ho'
    rw [hoi] at hw
    have hst : wpOp P l.toArray Q i (wpList P l.toArray Q (l.drop (i + 1))) a w := by
     unfold wpOp
     simp only [ho]
     exact hw
    refine wpOp_mono (fun a' w' h' => ⟨by simp [hsz], hcl.set_ hr, .inr ⟨i + 1, by omega, fun j => ?_, h'⟩⟩) hst
    rw [hL, hLk]
    by_cases e : j = i
    · simp [e]
    · rw [if_neg e]
      by_cases h : j < i
      · simp [h, show j < i + 1 by omega]
      · simp [h, show ¬ j < i + 1 by omega]
   rcases H with ⟨val, lo, hi, M, hpost⟩ | ⟨k, hk, hLk, hw⟩
   · rcases Nat.lt_or_ge i np with hinp | hinp
     · refine wpOp_mono (fun a' w' h' => ?_) (hstep i o hinp ho' (LL listed) a w val lo hi M (fun e he hb => by have := haft e he hb; unfold LL; exact this) hn (fun j oj hj hoj e he hb => hcl j oj (by simpa using hoj) hj e he hb))
       obtain ⟨v, rfl, hf, hv⟩ := h'
       refine ⟨by simp [hsz], hcl.set_ hr, .inl ⟨_, _, _, M.next hinp ho' hd hR hf hv hL hn, fun j hj => ?_⟩⟩
       rw [hL, if_neg (by omega)]
       exact hpost j hj
     · have hi0 : ∀ j, j < i → LL listed j = true := fun j hj => by
        exact waits_listed hcl _ i j o ho haft (orderB_all hO ho' hinp j hj)
       have hinp' : i = np := by
        rcases Nat.lt_or_ge np i with h | h
        · have h1 := hi0 np h
          rw [hpost np (Nat.le_refl _)] at h1
          cases h1
        · omega
       have hact := M.act (fun j hj => hi0 j (by omega)) hd
       have h1 := hK val lo hi w M.from0 (fun j hj => M.rows j hj (hi0 j (by omega))) (fun j k hj hk hjk => M.apart j k hj hk (hi0 j (by omega)) (hi0 k (by omega)) hjk)
       rw [← hact] at h1
       refine post np (Nat.le_refl _) (fun j => ?_) h1
       rcases Nat.lt_or_ge j np with h | h
       · rw [hi0 j (by omega)]; simp [h]
       · rw [hpost j h]; simp [Nat.not_lt.2 h]
   · exact post k hk hLk hw
 · simp
 · have h0 : ∀ j, LL (Array.replicate l.toArray.size false) j = false := fun j => by
    unfold LL
    rw [Array.getD_eq_getD_getElem?, Array.getElem?_replicate]
    split <;> rfl
   refine ⟨by simp, fun j oj _ hl => (by simp [Array.getElem?_replicate] at hl; split at hl <;> simp at hl), .inl ⟨fun _ => undef, fun _ => 0, fun _ => 0, ⟨rfl, rfl, (Below.refl _ _).drew, fun i _ h => ?_, fun i j _ _ h => ?_, fun i o d _ _ _ h => ?_, fun s _ => rfl⟩, fun j _ => ?_⟩⟩
   · rw [h0] at h; cases h
   · rw [h0] at h; cases h
   · rw [h0] at h; cases h
   · exact h0 j
def zB (l : List Oper) (np : Nat) (Z : List Nat) : Bool := Z.all fun i => decide (i < np) && match l[i]? with | some o => o.after.all fun e => !Region.binds .any e | none => true
inductive St where
 | val (v : Value)
 | call (v : Value)
 | new (R : Value → World → Prop)
 | dep (R : Value → World → Prop)
 | skip
def St.Rel : St → Value → World → Prop
 | .val c, v, _ => v = c
 | .call c, v, _ => v = c
 | .new R, v, w => R v w
 | .dep R, v, w => R v w
 | .skip, v, _ => v = undef
def St.known : St → Value
 | .val c => c
 | .call c => c
 | _ => undef
def St.isKnown : St → Bool
 | .new _ => false
 | .dep _ => false
 | _ => true
theorem St.rel_known {s : St} (h : s.isKnown = true) {v : Value} {w : World} (hr : s.Rel v w) : v = s.known := by
 cases s <;> first | exact hr | cases h
def prodOf (l : List Oper) (s : Nat) : Nat → Option Nat
 | 0 => none
 | i + 1 => if ((l[i]?).bind (·.dst)) == some s then some i else prodOf l s i
theorem prodOf_spec {l : List Oper} {s : Nat} : ∀ {i j : Nat}, prodOf l s i = some j → j < i ∧ ∃ o, l[j]? = some o ∧ o.dst = some s
 | 0, _, h => by cases h
 | i + 1, j, h => by
  unfold prodOf at h
  split at h
  · rename_i hb
    injection h with h
    subst h
    have h1 := eq_of_beq hb
    cases ho : l[i]? with
    | none => rw [ho] at h1; cases h1
    | some o => rw [ho] at h1; exact ⟨by omega, o, rfl, h1⟩
  · obtain ⟨h1, h2⟩ := prodOf_spec h
    exact ⟨by omega, h2⟩
def envS (l : List Oper) (S : List St) (a0 : Act) (i : Nat) : Operand → St
 | .tmp s => match prodOf l s i with
  | some j => S.getD j .skip
  | none => .val (a0.tmps.getD s undef)
 | x => .val (a0.eval x)
theorem envS_none {l : List Oper} {S : List St} {a0 : Act} {i s : Nat} (h : prodOf l s i = none) : envS l S a0 i (.tmp s) = .val (a0.tmps.getD s undef) := by simp [envS, h]
theorem envS_some {l : List Oper} {S : List St} {a0 : Act} {i s j : Nat} (h : prodOf l s i = some j) : envS l S a0 i (.tmp s) = S.getD j .skip := by simp [envS, h]
def slotB (l : List Oper) (np i : Nat) (o : Oper) (s : Nat) : Bool :=
 match prodOf l s i with
 | some j => o.after.any fun e => Region.binds .any e && e.on == j
 | none => (List.range np).all fun k => match l[k]? with
  | some ok => ok.dst != some s || ok.after.any fun e => Region.binds .any e && e.on == i
  | none => true
def isSel : Op → Bool
 | .select _ _ => true
 | _ => false
def St.isSkip : St → Bool
 | .skip => true
 | _ => false
def St.told : St → Option Bool
 | .val (.bool c) => some c
 | .call (.bool c) => some c
 | _ => none
def guardB (S : List St) (o : Oper) (st : St) : Bool :=
 match o.guard with
 | none => !st.isSkip
 | some (j, b) => (o.after.any fun e => Region.binds .any e && e.on == j) && match (S.getD j .skip).told with
  | some c => (c == b) == !st.isSkip
  | none => false
def readsB (l : List Oper) (S : List St) (np : Nat) : Bool :=
 (List.range np).all fun i => match l[i]? with
  | none => false
  | some o => let st := S.getD i .skip
   guardB S o st && (st.isSkip || (!isSel o.op && o.op.operands.toList.all fun x => match x with
    | .tmp s => slotB l np i o s && (match st with
     | .dep _ => true
     | _ => match prodOf l s i with
      | some j => (S.getD j .skip).isKnown
      | none => true)
    | _ => true))
def runsIn (P : Program) (ρ : Operand → Value) (o : Oper) (w : World) (R : Value → World → Prop) : Prop :=
 (∃ v w', (execOp ρ o).run P w = .ok (.value v) w' ∧ From w w' ∧ R v w') ∨
 ∃ f args, (execOp ρ o).run P w = .ok (.enter f args) w ∧ Calls P f args w fun e w' => ∃ v, e = .returned v ∧ From w w' ∧ R v w'
def StOk (P : Program) (w0 : World) (l : List Oper) (S : List St) (a0 : Act) (i : Nat) (o : Oper) : St → Prop
 | .val v => ∀ w, From w0 w → (execOp (fun x => (envS l S a0 i x).known) o).run P w = .ok (.value v) w
 | .call v => ∀ w, From w0 w → ∃ f args, (execOp (fun x => (envS l S a0 i x).known) o).run P w = .ok (.enter f args) w ∧ Calls P f args w fun e w' => e = .returned v ∧ From w w'
 | .new R => ∀ w, From w0 w → runsIn P (fun x => (envS l S a0 i x).known) o w R
 | .dep R => ∀ ρ w, From w0 w → (∀ x, x ∈ o.op.operands → (envS l S a0 i x).Rel (ρ x) w) → runsIn P ρ o w R
 | .skip => True
def stepsS (P : Program) (w0 : World) (l : List Oper) (S : List St) (a0 : Act) : Nat → List Oper → List St → Prop
 | i, o :: os, s :: ss => StOk P w0 l S a0 i o s ∧ stepsS P w0 l S a0 (i + 1) os ss
 | _, [], [] => True
 | _, _, _ => False
theorem stepsS_get {P : Program} {w0 : World} {l : List Oper} {S : List St} {a0 : Act} : ∀ {k : Nat} {os : List Oper} {ss : List St}, stepsS P w0 l S a0 k os ss → ∀ {i : Nat} {o : Oper}, os[i]? = some o → StOk P w0 l S a0 (k + i) o (ss.getD i .skip)
 | k, o :: os, s :: ss, h, 0, o', ho => by
  injection ho with ho
  subst ho
  exact h.1
 | k, o :: os, s :: ss, h, i + 1, o', ho => by
  have h1 := stepsS_get h.2 (i := i) (o := o') (by simpa using ho)
  rw [show k + (i + 1) = k + 1 + i by omega]
  simpa using h1
 | k, [], [], h, i, o', ho => by simp at ho
 | k, [], _ :: _, h, i, o', ho => h.elim
 | k, _ :: _, [], h, i, o', ho => h.elim
def stableS : List St → Prop
 | [] => True
 | .new R :: ss => (∀ v w w', R v w → From w w' → R v w') ∧ stableS ss
 | .dep R :: ss => (∀ v w w', R v w → From w w' → R v w') ∧ stableS ss
 | _ :: ss => stableS ss
theorem stableS_get : ∀ {ss : List St}, stableS ss → ∀ i v w w', (ss.getD i .skip).Rel v w → From w w' → (ss.getD i .skip).Rel v w'
 | [], _, i, v, w, w', hr, _ => by
  have h1 : v = undef := by simpa [St.Rel] using hr
  simpa [St.Rel] using h1
 | s :: ss, h, 0, v, w, w', hr, hb => by
  cases s with
  | new R => exact h.1 v w w' hr hb
  | dep R => exact h.1 v w w' hr hb
  | val c => exact hr
  | call c => exact hr
  | skip => exact hr
 | s :: ss, h, i + 1, v, w, w', hr, hb => by
  have h1 : stableS ss := by cases s <;> first | exact h.2 | exact h
  have := stableS_get h1 i v w w' (by simpa using hr) hb
  simpa using this
def contS : List St → List Oper → Act → (Act → World → Prop) → World → Prop
 | .val v :: ss, o :: os, a, K, w => contS ss os (a.put o.dst v) K w
 | .call v :: ss, o :: os, a, K, w => contS ss os (a.put o.dst v) K w
 | .skip :: ss, o :: os, a, K, w => contS ss os (a.put o.dst undef) K w
 | .new R :: ss, o :: os, a, K, w => ∀ u, R u w → contS ss os (a.put o.dst u) K w
 | .dep R :: ss, o :: os, a, K, w => ∀ u, R u w → contS ss os (a.put o.dst u) K w
 | _, _, a, K, w => K a w
theorem contS_put {K : Act → World → Prop} {w : World} {val : Nat → Value} : ∀ {ss : List St} {os : List Oper} {k : Nat} {a : Act}, ss.length = os.length → contS ss os a K w → (∀ i, i < os.length → (ss.getD i .skip).Rel (val (k + i)) w) → K (putAll val k os a) w
 | [], [], k, a, _, h, _ => h
 | s :: ss, o :: os, k, a, hl, h, hr => by
  have h0 := hr 0 (by simp)
  have hl' : ss.length = os.length := by simpa using hl
  have hr' : ∀ i, i < os.length → (ss.getD i .skip).Rel (val (k + 1 + i)) w := fun i hi => by
   have := hr (i + 1) (by simp; omega)
   rw [show k + (i + 1) = k + 1 + i by omega] at this
   simpa using this
  unfold putAll
  refine contS_put hl' ?_ hr'
  simp only [List.getD_cons_zero, Nat.add_zero] at h0
  cases s with
  | val c => have h0 : val k = c := h0; rw [h0]; exact h
  | call c => have h0 : val k = c := h0; rw [h0]; exact h
  | skip => have h0 : val k = undef := h0; rw [h0]; exact h
  | new R => exact h _ h0
  | dep R => exact h _ h0
 | [], _ :: _, _, _, hl, _, _ => by simp at hl
 | _ :: _, [], _, _, hl, _, _ => by simp at hl
theorem stepsS_len {P : Program} {w0 : World} {l : List Oper} {S : List St} {a0 : Act} : ∀ {k : Nat} {os : List Oper} {ss : List St}, stepsS P w0 l S a0 k os ss → ss.length = os.length
 | _, _ :: os, _ :: ss, h => by simp [stepsS_len h.2]
 | _, [], [], _ => rfl
 | _, [], _ :: _, h => h.elim
 | _, _ :: _, [], h => h.elim
theorem run_step {P : Program} {Q : Exit → Act → World → Prop} {a0 : Act} {w0 : World} {l : List Oper} (np : Nat) (S : List St) (hback : ∀ j o, l[j]? = some o → ∀ e ∈ o.after, Region.binds .any e = true → e.on < j) (hnp : np ≤ l.length) (hd : dstsB l np a0.tmps.size = true) (hread : readsB l S np = true)
 (hstep : stepsS P w0 l S a0 0 (l.take np) S) :
 ∀ i o, i < np → l[i]? = some o → ∀ (L : Nat → Bool) (a : Act) (w : World) (val : Nat → Value) (lo hi : Nat → Nat), Made w0 a0 l np (fun i v _ _ w => (S.getD i .skip).Rel v w) L a w val lo hi → (∀ e ∈ o.after, Region.binds .any e = true → L e.on = true) → L i = false → (∀ j oj, L j = true → l[j]? = some oj → ∀ e ∈ oj.after, Region.binds .any e = true → L e.on = true) →
  wpOp P l.toArray Q i (fun a' w' => ∃ v, a' = a.put o.dst v ∧ From w w' ∧ (S.getD i .skip).Rel v w') a w := by
 intro i o hi ho L a w val lo hi' M haft hLi hLc
 have hb : From w0 w := M.from0
 have hval : ∀ j oj d, j < np → l[j]? = some oj → oj.dst = some d → (o.after.any fun e => Region.binds .any e && e.on == j) = true → ∃ v, a.tmps[d]? = some v ∧ (S.getD j .skip).Rel v w := fun j oj d hj hoj hdj he => by
  rw [Array.any_eq_true'] at he
  obtain ⟨e, he, hbd⟩ := he
  simp only [Bool.and_eq_true, beq_iff_eq] at hbd
  have hL := haft e he hbd.1
  rw [hbd.2] at hL
  exact ⟨val j, M.slots j oj d hj hoj hdj hL, (M.rows j hj hL).2.2.2⟩
 have hold : ∀ s, ((List.range np).all fun k => match l[k]? with | some ok => ok.dst != some s || ok.after.any (fun e => Region.binds .any e && e.on == i) | none => true) = true → a.tmps[s]? = a0.tmps[s]? := fun s hs => M.old s fun k ok hk hok hdk => by
  have h1 := List.all_eq_true.1 hs k (List.mem_range.2 hk)
  simp only [hok, hdk, bne_self_eq_false, Bool.false_or] at h1
  cases hLk : L k with
  | false => rfl
  | true =>
   rw [Array.any_eq_true'] at h1
   obtain ⟨e, he, hbd⟩ := h1
   simp only [Bool.and_eq_true, beq_iff_eq] at hbd
   have h2 := hLc k ok hLk hok e he hbd.1
   rw [hbd.2, hLi] at h2
   cases h2
 have hgo := stepsS_get hstep (i := i) (o := o) (by rw [List.getElem?_take_of_lt hi]; exact ho)
 rw [Nat.zero_add] at hgo
 have hrd := List.all_eq_true.1 hread i (List.mem_range.2 hi)
 simp only [ho, Bool.and_eq_true] at hrd
 obtain ⟨hgd, hrd⟩ := hrd
 have ho' : l.toArray[i]? = some o := by simpa using ho
 have hprod : ∀ j, (o.after.any fun e => Region.binds .any e && e.on == j) = true → ∀ oj d, j < np → l[j]? = some oj → oj.dst = some d → ∃ v, a.tmps[d]? = some v ∧ (S.getD j .skip).Rel v w := fun j he oj d hj hoj hdj => hval j oj d hj hoj hdj he
 -- the guard
 have hwant : Region.wanted o (yielded l.toArray a.tmps) = !(S.getD i .skip).isSkip := by
  unfold guardB at hgd
  cases hg : o.guard with
  | none =>
   rw [hg] at hgd
   simp only at hgd
   rw [hgd]
   exact wanted_none hg _
  | some p =>
   obtain ⟨j, b⟩ := p
   rw [hg] at hgd
   simp only [Bool.and_eq_true] at hgd
   obtain ⟨he, hgd⟩ := hgd
   have hji : j < i := by
    rw [Array.any_eq_true'] at he
    obtain ⟨e, he1, he2⟩ := he
    simp only [Bool.and_eq_true, beq_iff_eq] at he2
    have := hback i o ho e he1 he2.1
    omega
   obtain ⟨oj, hoj⟩ : ∃ oj, l[j]? = some oj := ⟨l[j]'(by omega), List.getElem?_eq_getElem (by omega)⟩
   obtain ⟨d, hdj, _, _⟩ := dstsB_spec hd (show j < np by omega) hoj
   obtain ⟨v, hv1, hv2⟩ := hprod j he oj d (by omega) hoj hdj
   have htold : ∀ c, (S.getD j .skip).told = some c → (S.getD j .skip).Rel v w → v = .bool c := by
    generalize S.getD j .skip = s
    intro c h1 h2
    cases s with
    | val c' => cases c' <;> simp only [St.told] at h1 <;> cases h1 <;> exact h2
    | call c' => cases c' <;> simp only [St.told] at h1 <;> cases h1 <;> exact h2
    | new R => cases h1
    | dep R => cases h1
    | skip => cases h1
   cases ht : (S.getD j .skip).told with
   | none => rw [ht] at hgd; cases hgd
   | some c =>
    rw [ht] at hgd
    have hvc := htold c ht hv2
    subst hvc
    exact wanted_some hg (by simpa using hoj) hdj hv1 (eq_of_beq hgd)
 -- the operands
 have hrel : (S.getD i .skip).isSkip = false → ∀ x, x ∈ o.op.operands → (envS l S a0 i x).Rel (a.eval x) w := by
  intro hns x hx
  rw [hns, Bool.false_or] at hrd
  simp only [Bool.and_eq_true] at hrd
  have h1 := List.all_eq_true.1 hrd.2 x (by simpa using hx)
  cases x with
  | const v => rfl
  | global g => rfl
  | func f => rfl
  | tmp s =>
   simp only [Bool.and_eq_true] at h1
   have h2 := h1.1
   unfold slotB at h2
   cases hp : prodOf l s i with
   | none =>
    rw [hp] at h2
    have h3 := hold s h2
    rw [envS_none hp]
    simp only [St.Rel, Act.eval]
    rw [Array.getD_eq_getD_getElem?, Array.getD_eq_getD_getElem?, h3]
   | some j =>
    rw [hp] at h2
    obtain ⟨h3, oj, h4, h5⟩ := prodOf_spec hp
    obtain ⟨v, h6, h7⟩ := hprod j h2 oj s (by omega) h4 h5
    rw [envS_some hp, eval_get h6]
    exact h7
 have hnosel : (S.getD i .skip).isSkip = false → ∀ cs b, o.op ≠ .select cs b := by
  intro hns cs b hop
  rw [hns, Bool.false_or, hop] at hrd
  simp [isSel] at hrd
 have hsame : (S.getD i .skip).isSkip = false → (∀ R, S.getD i .skip ≠ .dep R) → execOp a.eval o = execOp (fun x => (envS l S a0 i x).known) o := by
  intro hns hnd
  refine execOp_congr o (hnosel hns) fun x hx => ?_
  refine St.rel_known ?_ (hrel hns x hx)
  rw [hns, Bool.false_or] at hrd
  simp only [Bool.and_eq_true] at hrd
  have h1 := List.all_eq_true.1 hrd.2 x (by simpa using hx)
  cases x with
  | const v => rfl
  | global g => rfl
  | func f => rfl
  | tmp s =>
   simp only [Bool.and_eq_true] at h1
   have h2 := h1.2
   cases hp : prodOf l s i with
   | none => rw [envS_none hp]; rfl
   | some j =>
    rw [hp] at h2
    rw [envS_some hp]
    simp only at h2
    cases hs : S.getD i .skip with
    | dep R => exact (hnd R hs).elim
    | val v => exact h2
    | call v => exact h2
    | new v => exact h2
    | skip => exact h2
 have hrun : ∀ ρ, execOp a.eval o = execOp ρ o → ∀ R : Value → World → Prop, Region.wanted o (yielded l.toArray a.tmps) = true → runsIn P ρ o w R → wpOp P l.toArray Q i (fun a' w' => ∃ v, a' = a.put o.dst v ∧ From w w' ∧ R v w') a w := by
  intro ρ he R hw h
  rcases h with ⟨v, w', h1, h2, h3⟩ | ⟨f, args, h1, h2⟩
  · rw [← he] at h1
    exact wpOp_valueW ho' hw h1 ⟨v, rfl, h2, h3⟩
  · rw [← he] at h1
    exact wpOp_enterW ho' hw h1 (h2.mono fun e w' ⟨v, h3, h4, h5⟩ => ⟨v, h3, v, rfl, h4, h5⟩)
 cases hs : S.getD i .skip with
 | skip =>
  rw [hs] at hwant
  exact wpOp_not ho' hwant ⟨_, rfl, Below.refl _ _, rfl⟩
 | val v =>
  rw [hs] at hgo hwant hsame
  have h1 := hgo w hb
  exact hrun _ (hsame rfl (fun R => by simp)) _ hwant (.inl ⟨v, w, h1, Below.refl _ _, rfl⟩)
 | call v =>
  rw [hs] at hgo hwant hsame
  obtain ⟨f, args, h1, h2⟩ := hgo w hb
  exact hrun _ (hsame rfl (fun R => by simp)) _ hwant (.inr ⟨f, args, h1, h2.mono fun e w' ⟨h3, h4⟩ => ⟨v, h3, h4, rfl⟩⟩)
 | new R =>
  rw [hs] at hgo hwant hsame
  exact hrun _ (hsame rfl (fun R => by simp)) _ hwant (hgo w hb)
 | dep R =>
  rw [hs] at hgo hwant hrel
  exact hrun _ rfl _ hwant (hgo a.eval w hb (hrel rfl))
theorem wp_region_run {P : Program} {id : Nat} {Q : Exit → Act → World → Prop} {a0 : Act} {w0 : World} {l : List Oper} (np : Nat) (S : List St) (hm : P.follows .mixedOrders = true) (hO : orderB l np = true) (hnp : np ≤ l.length) (hd : dstsB l np a0.tmps.size = true) (hread : readsB l S np = true)
 (hstab : stableS S) (hstep : stepsS P w0 l S a0 0 (l.take np) S)
 (hK : ∀ w, From w0 w → contS S (l.take np) a0 (fun a w => wpList P l.toArray Q (l.drop np) a w) w) :
 (Code.region id l.toArray true).wp P Q a0 w0 := by
 have hlen := stepsS_len hstep
 refine wp_region_made2 np (fun i v _ _ w => (S.getD i .skip).Rel v w) hm hO hnp hd (fun i v lo hi w w' h _ hb => stableS_get hstab i v w w' h hb) (run_step np S (fun j o ho => orderB_back hO ho) hnp hd hread hstep) ?_
 · intro val lo hi w hb hrows _
   have h1 := contS_put (val := val) (k := 0) hlen (hK w hb) (fun i hi => by
    rw [Nat.zero_add]
    exact (hrows i (by simp at hi; omega)).2.2.2)
   exact h1
theorem own_box {w : World} {base e size g : Nat} {cs : List Value} (h : w.heap[g]? = some (.cells cs.toArray e (0, 0))) (hl : cs.length = size) (hb : base ≤ g) : OwnS w base e size (some ⟨g, 0, none⟩) 1 [cs] :=
 ⟨⟨by simp [hl], .inr ⟨g, 1, cs.toArray, rfl, hb, h, Nat.le_refl _, by unfold maxLen; omega, by simp [hl], by simp; exact List.take_of_length_le (by omega)⟩⟩, by intro c hc; rw [List.mem_singleton] at hc; subst hc; exact hl⟩
theorem own_row {w : World} {base size c g i T : Nat} {css : List (List Value)} {cs : List Value} (hT : IsRow Tryz.prog T size) (h : OwnS w base T size (some ⟨g, 0, none⟩) c css) (hi : css[i]? = some cs) {p : Nat} (hp : p = i * size) : ∀ w1, From w w1 → (loadVar T ⟨g, p, none⟩).run Tryz.prog w1 = .ok (.agg cs.toArray) w1 := by
 intro w1 hb
 subst hp
 obtain ⟨b, off, e, _, hl⟩ := h.rd.ld hT hi
 simp only [Option.some.injEq, Addr.mk.injEq, and_true] at e
 obtain ⟨rfl, rfl⟩ := e
 have h1 := hl w1 hb
 rw [Nat.zero_add] at h1
 exact h1
theorem ownBlock_slice (A : Option Addr) (n c : Nat) : Value.ownBlock (.slice A n c) = A.map (·.block) := by cases A <;> rfl
end Go.Proofs.YtfdjcakgolenbaaGreat
