/-
  Laws on regions that draw their order and make new memory, and small laws on loads, stores and append; over any program.
-/
import Derived.Test.YtfdjcakgolenbaaGreatMu1
set_option linter.unusedVariables false
set_option linter.unusedSimpArgs false
namespace Go.Proofs.YtfdjcakgolenbaaGreat
open Go.RowKit
theorem g_ld {P : Program} {w : World} {ops : Array Oper} {rest : List Oper} {a : Act} {Q : Exit → Act → World → Prop} (T : Nat) {x : Operand} {d : Option Nat} {ty : TypeId} {pos : String} {aft : Array Edge} {gd : Option (Nat × Bool)}
 (h : wpList P ops Q (⟨d, .load T x, ty, pos, aft, gd⟩ :: rest) a w) : wpList P ops Q (⟨d, .load T x, ty, pos, aft, gd⟩ :: rest) a w := h
theorem g_st {P : Program} {w : World} {ops : Array Oper} {rest : List Oper} {a : Act} {Q : Exit → Act → World → Prop} (T : Nat) {x y : Operand} {d : Option Nat} {ty : TypeId} {pos : String} {aft : Array Edge} {gd : Option (Nat × Bool)}
 (h : wpList P ops Q (⟨d, .store T x y, ty, pos, aft, gd⟩ :: rest) a w) : wpList P ops Q (⟨d, .store T x y, ty, pos, aft, gd⟩ :: rest) a w := h
theorem wpList_append_n {P : Program} {w : World} {ops : Array Oper} {rest : List Oper} {o : Oper} {a : Act} {Q : Exit → Act → World → Prop} {t e size bytes base c m cn : Nat} {A X : Option Addr} {css news : List (List Value)} (hgd : o.guard = none) (s x : Operand)
 (ho : o.op = .call { callee := .builtin .append, args := #[s, x], argTypes := #[t, t] })
 (hE : EI P t e size bytes) (n : Nat) (hn : n = css.length) (hs : a.eval s = .slice A n c) (hown : OwnS w base e size A c css) (hx : a.eval x = .slice X m cn) (B : Nat) (hr : Rd w B size X news) (hm : m = news.length)
 (h1 : ∀ cs ∈ news, ∀ u ∈ cs, u.oneCell' = true) (h63 : css.length + m ≤ maxLen) (hbytes : (css.length + m) * bytes ≤ 140737488355328) (hbase : base ≤ w.heap.size)
 (h : ∀ A' c' w', OwnS w' base e size A' c' (css ++ news) → w.grownBy w' (Value.ownBlock (.slice A css.length c)) → Below base w w' → wpList P ops Q rest (a.put o.dst (.slice A' (n + m) c')) w') : wpList P ops Q (o :: rest) a w := by
 subst hn
 refine wpList_append_rd hgd s x ho hE hs hown hx B hr hm h1 h63 hbytes hbase fun A' c' w' h2 h3 h4 => ?_
 have := h A' c' w' h2 h3 h4
 rwa [List.length_append, ← hm]
theorem Rd.rows {w : World} {g size : Nat} {t : TypeId} {fr : Nat × Nat} {cur : Array Value} {css : List (List Value)} (hg : w.heap[g]? = some (.cells cur t fr)) (hcur : cur.toList = css.flatten) (hl : ∀ cs ∈ css, cs.length = size) : Rd w w.heap.size size (some ⟨g, 0, none⟩) css := by
 intro k cs hk
 have hlen := hl _ (List.mem_of_getElem? hk)
 refine ⟨g, 0, rfl, (Array.getElem?_eq_some_iff.1 hg).1, hlen, fun j u hu => ?_⟩
 have hj : j < size := by rw [← hlen]; exact (List.getElem?_eq_some_iff.1 hu).1
 rw [cell_of_row w g (0 + k * size + j) _ _ _ hg, ← Array.getElem?_toList, hcur, Nat.zero_add, flat_get css hl k j hj, hk]
 exact hu
section
variable {P : Program} {md : Region.Mode} {ops : Array Oper} {Q : Exit → Act → World → Prop}
theorem count_set_false : ∀ (l : List Bool) (i : Nat), l[i]? = some false → (l.set i true).count false + 1 = l.count false
 | [], i, h => by simp at h
 | b :: l, 0, h => by
  simp at h
  subst h
  simp
 | b :: l, i + 1, h => by
  have ih := count_set_false l i (by simpa using h)
  simp only [List.set_cons_succ, List.count_cons]
  omega
theorem wpAny_inv (Inv : Array Bool → Act → World → Prop) (hend : ∀ listed a w, Inv listed a w → Region.ready md ops listed = [] → Q .normal a w)
 (hstep : ∀ listed a w i, Inv listed a w → i ∈ Region.ready md ops listed → wpOp P ops Q i (Inv (listed.setIfInBounds i true)) a w) :
 ∀ (fuel : Nat) (listed : Array Bool) (a : Act) (w : World), listed.toList.count false ≤ fuel → Inv listed a w → wpAny P md ops Q fuel listed a w
 | 0, listed, a, w, hc, h => by
  have hr : Region.ready md ops listed = [] := by
   rw [List.eq_nil_iff_forall_not_mem]
   intro i hi
   have h1 := (mem_ready.1 hi).1
   have h2 : listed.toList[i]? = some false := by
    rcases Nat.lt_or_ge i listed.size with h' | h'
    · simp [h'] at h1
      simp [h', h1]
    · simp [Array.getElem?_eq_none h'] at h1
   have := List.count_pos_iff.2 (List.mem_of_getElem? h2)
   omega
  exact ⟨hr, hend listed a w h hr⟩
 | fuel + 1, listed, a, w, hc, h => by
  refine ⟨hend listed a w h, fun i hi => wpOp_mono (fun a' w' h' => ?_) (hstep listed a w i h hi)⟩
  refine wpAny_inv Inv hend hstep fuel _ a' w' ?_ h'
  have h1 := (mem_ready.1 hi).1
  have h2 : listed.toList[i]? = some false := by
   rcases Nat.lt_or_ge i listed.size with h'' | h''
   · simp [h''] at h1
     simp [h'', h1]
   · simp [Array.getElem?_eq_none h''] at h1
  have := count_set_false listed.toList i h2
  simp only [Array.toList_setIfInBounds]
  omega
end
def preB (ops : Array Oper) (pre : List (Nat × List Nat)) : Bool := pre.all fun p => p.2.all fun j => ((ops[p.1]?).map fun o => o.after.any fun e => Region.binds .any e && e.on == j).getD false
theorem pre_listed {ops : Array Oper} {pre : List (Nat × List Nat)} {listed : Array Bool} {i : Nat} {js : List Nat} (hp : preB ops pre = true) (hi : i ∈ Region.ready .any ops listed) (hm : (i, js) ∈ pre) : ∀ j ∈ js, listed.getD j false = true := by
 intro j hj
 unfold preB at hp
 rw [List.all_eq_true] at hp
 have h1 := hp _ hm
 rw [List.all_eq_true] at h1
 have h2 := h1 j hj
 obtain ⟨_, o, ho, hall⟩ := mem_ready.1 hi
 rw [ho] at h2
 simp only [Option.map_some, Option.getD_some] at h2
 rw [Array.any_eq_true'] at h2
 obtain ⟨e, he, hb⟩ := h2
 simp only [Bool.and_eq_true, beq_iff_eq] at hb
 have := hall e he hb.1
 rw [hb.2] at this
 exact this
def LL (listed : Array Bool) (j : Nat) : Bool := listed.getD j false
theorem LL_set {listed : Array Bool} {i : Nat} (h : i < listed.size) (j : Nat) : LL (listed.setIfInBounds i true) j = if j = i then true else LL listed j := by
 unfold LL
 rw [Array.getD_eq_getD_getElem?, Array.getD_eq_getD_getElem?, Array.getElem?_setIfInBounds]
 by_cases e : j = i
 · subst e
   simp [h]
 · rw [if_neg (fun h => e h.symm), if_neg e]
theorem put_get {a : Act} {d : Nat} {v : Value} (hd : d < a.tmps.size) (s : Nat) : (a.put (some d) v).tmps[s]? = if s = d then some v else a.tmps[s]? := by
 unfold Act.put
 simp only
 rw [Array.getElem?_setIfInBounds]
 by_cases e : s = d
 · subst e
   simp [hd]
 · rw [if_neg (fun h => e h.symm), if_neg e]
theorem eval_get {a : Act} {s : Nat} {v : Value} (h : a.tmps[s]? = some v) : a.eval (.tmp s) = v := by
 unfold Act.eval
 simp only
 rw [Array.getD_eq_getD_getElem?, h]
 rfl
section
variable {P : Program} {ops : Array Oper} {Q : Exit → Act → World → Prop} {a : Act} {w : World} {K : Act → World → Prop} {i : Nat} {o : Oper}
theorem wpOp_value (ho : ops[i]? = some o) (hg : o.guard = none) {v : Value} {w' : World} (hr : (execOp a.eval o).run P w = .ok (.value v) w') (hK : K (a.put o.dst v) w') : wpOp P ops Q i K a w := by
 unfold wpOp
 simp only [ho]
 have hw : Region.wanted o (yielded ops a.tmps) = true := by unfold Region.wanted; rw [hg]
 rw [if_pos hw]
 refine .inl ?_
 unfold Oper.wp
 rw [hr]
 exact hK
theorem wpOp_enter (ho : ops[i]? = some o) (hg : o.guard = none) {f : FuncId} {args : Array Value} (hr : (execOp a.eval o).run P w = .ok (.enter f args) w) (hc : Calls P f args w fun e w' => ∃ v, e = .returned v ∧ K (a.put o.dst v) w') : wpOp P ops Q i K a w := by
 unfold wpOp
 simp only [ho]
 have hw : Region.wanted o (yielded ops a.tmps) = true := by unfold Region.wanted; rw [hg]
 rw [if_pos hw]
 refine .inl ?_
 unfold Oper.wp
 rw [hr]
 refine hc.mono ?_
 rintro e w' ⟨v, rfl, h⟩
 exact h
end
theorem put_size (a : Act) (d : Nat) (v : Value) : (a.put (some d) v).tmps.size = a.tmps.size := by simp [Act.put]
structure Made (w0 : World) (a0 : Act) (l : List Oper) (np : Nat) (R : Nat → Value → Nat → Nat → World → Prop) (L : Nat → Bool) (a : Act) (w : World) (val : Nat → Value) (lo hi : Nat → Nat) : Prop where
 defers : a.defers = a0.defers
 tsize : a.tmps.size = a0.tmps.size
 from0 : From w0 w
 rows : ∀ i, i < np → L i = true → w0.heap.size ≤ lo i ∧ lo i ≤ hi i ∧ hi i ≤ w.heap.size ∧ R i (val i) (lo i) (hi i) w
 apart : ∀ i j, i < np → j < np → L i = true → L j = true → i ≠ j → hi i ≤ lo j ∨ hi j ≤ lo i
 slots : ∀ i o d, i < np → l[i]? = some o → o.dst = some d → L i = true → a.tmps[d]? = some (val i)
 old : ∀ s, (∀ i o, i < np → l[i]? = some o → o.dst = some s → L i = false) → a.tmps[s]? = a0.tmps[s]?
def dstsB (l : List Oper) (np n : Nat) : Bool :=
 (List.range np).all fun i => match l[i]? with
  | some o => match o.dst with
   | some d => decide (d < n) && (List.range np).all fun j => i == j || (match l[j]? with | some o' => o'.dst != some d | none => true)
   | none => false
  | none => false
def orderB (l : List Oper) (np : Nat) : Bool :=
 (List.range l.length).all fun j => match l[j]? with
  | some o => (o.after.all fun e => !Region.binds .any e || decide (e.on < j)) && (decide (j < np) || (List.range j).all fun i => waits .any l.toArray l.length j i)
  | none => false
theorem dstsB_spec {l : List Oper} {np n i : Nat} {o : Oper} (h : dstsB l np n = true) (hi : i < np) (ho : l[i]? = some o) : ∃ d, o.dst = some d ∧ d < n ∧ ∀ j o', j < np → l[j]? = some o' → o'.dst = some d → j = i := by
 unfold dstsB at h
 have h1 := List.all_eq_true.1 h i (List.mem_range.2 hi)
 rw [ho] at h1
 simp only at h1
 cases hd : o.dst with
 | none => rw [hd] at h1; cases h1
 | some d =>
  rw [hd] at h1
  simp only [Bool.and_eq_true, decide_eq_true_eq] at h1
  refine ⟨d, rfl, h1.1, fun j o' hj ho' hd' => ?_⟩
  have h2 := List.all_eq_true.1 h1.2 j (List.mem_range.2 hj)
  rw [ho'] at h2
  simp only [hd', bne_self_eq_false, Bool.or_false, beq_iff_eq] at h2
  exact h2.symm
theorem orderB_back {l : List Oper} {np j : Nat} {o : Oper} (h : orderB l np = true) (ho : l[j]? = some o) : ∀ e ∈ o.after, Region.binds .any e = true → e.on < j := by
 intro e he hb
 have hj := (List.getElem?_eq_some_iff.1 ho).1
 unfold orderB at h
 have h1 := List.all_eq_true.1 h j (List.mem_range.2 hj)
 rw [ho] at h1
 simp only [Bool.and_eq_true] at h1
 have h2 := (Array.all_eq_true_iff_forall_mem.1 h1.1) e he
 simpa [hb] using h2
theorem orderB_all {l : List Oper} {np j : Nat} {o : Oper} (h : orderB l np = true) (ho : l[j]? = some o) (hn : np ≤ j) : ∀ i, i < j → waits .any l.toArray l.length j i = true := by
 intro i hi
 have hj := (List.getElem?_eq_some_iff.1 ho).1
 unfold orderB at h
 have h1 := List.all_eq_true.1 h j (List.mem_range.2 hj)
 rw [ho] at h1
 simp only [Bool.and_eq_true, Bool.or_eq_true, decide_eq_true_eq] at h1
 rcases h1.2 with h2 | h2
 · omega
 · exact List.all_eq_true.1 h2 i (List.mem_range.2 hi)
def putAll (val : Nat → Value) : Nat → List Oper → Act → Act
 | _, [], a => a
 | k, o :: l, a => putAll val (k + 1) l (a.put o.dst (val k))
theorem act_put_size (a : Act) (d : Option Nat) (v : Value) : (a.put d v).tmps.size = a.tmps.size := by cases d <;> simp [Act.put]
theorem act_put_defers (a : Act) (d : Option Nat) (v : Value) : (a.put d v).defers = a.defers := by cases d <;> rfl
theorem putAll_size (val : Nat → Value) : ∀ (l : List Oper) (k : Nat) (a : Act), (putAll val k l a).tmps.size = a.tmps.size
 | [], _, _ => rfl
 | o :: l, k, a => by unfold putAll; rw [putAll_size val l, act_put_size]
theorem putAll_defers (val : Nat → Value) : ∀ (l : List Oper) (k : Nat) (a : Act), (putAll val k l a).defers = a.defers
 | [], _, _ => rfl
 | o :: l, k, a => by unfold putAll; rw [putAll_defers val l, act_put_defers]
theorem putAll_old (val : Nat → Value) (s : Nat) : ∀ (l : List Oper) (k : Nat) (a : Act), (∀ o ∈ l, o.dst ≠ some s) → (putAll val k l a).tmps[s]? = a.tmps[s]?
 | [], _, _, _ => rfl
 | o :: l, k, a, h => by
  unfold putAll
  rw [putAll_old val s l _ _ (fun o' ho' => h o' (List.mem_cons_of_mem _ ho'))]
  have h1 := h o (by simp)
  cases hd : o.dst with
  | none => rfl
  | some d =>
   rw [hd] at h1
   unfold Act.put
   simp only [Array.getElem?_setIfInBounds]
   rw [if_neg (fun e => h1 (by rw [e]))]
theorem putAll_new (val : Nat → Value) (s : Nat) : ∀ (l : List Oper) (k : Nat) (a : Act) (i : Nat) (o : Oper), l[i]? = some o → o.dst = some s → (∀ j o', l[j]? = some o' → o'.dst = some s → j = i) → s < a.tmps.size → (putAll val k l a).tmps[s]? = some (val (k + i))
 | [], _, _, i, o, h, _, _, _ => by simp at h
 | o :: l, k, a, 0, o1, h, hd, hu, hs => by
  simp at h
  subst h
  unfold putAll
  rw [putAll_old val s l _ _ (fun o' ho' hd' => by
   obtain ⟨j, hj⟩ := List.mem_iff_getElem?.1 ho'
   have := hu (j + 1) o' (by simpa using hj) hd'
   omega), hd, put_get hs]
  simp
 | o :: l, k, a, i + 1, o1, h, hd, hu, hs => by
  unfold putAll
  rw [putAll_new val s l (k + 1) _ i o1 (by simpa using h) hd (fun j o' ho' hd' => by have := hu (j + 1) o' (by simpa using ho') hd'; omega) (by rw [act_put_size]; exact hs)]
  congr 2
  omega
section
variable {w0 w : World} {a0 a : Act} {l : List Oper} {np : Nat} {R : Nat → Value → Nat → Nat → World → Prop} {L : Nat → Bool} {val : Nat → Value} {lo hi : Nat → Nat}
theorem Made.old_ (M : Made w0 a0 l np R L a w val lo hi) {s : Nat} (h : ((l.take np).all fun o => o.dst != some s) = true) : a.tmps[s]? = a0.tmps[s]? :=
 M.old s fun i o hi ho hd => by
  have h1 := List.all_eq_true.1 h o (List.mem_of_getElem? (i := i) (by rw [List.getElem?_take, if_pos hi]; exact ho))
  rw [hd] at h1
  simp at h1
theorem Made.act (M : Made w0 a0 l np R L a w val lo hi) (hall : ∀ i, i < np → L i = true) (hd : dstsB l np a0.tmps.size = true) : a = putAll val 0 (l.take np) a0 := by
 have e : a.tmps = (putAll val 0 (l.take np) a0).tmps := by
  apply Array.ext_getElem?
  intro s
  by_cases h : ∃ i o, i < np ∧ l[i]? = some o ∧ o.dst = some s
  · obtain ⟨i, o, hi, ho, hs⟩ := h
    obtain ⟨d, hd1, hd2, hd3⟩ := dstsB_spec hd hi ho
    rw [hs] at hd1
    injection hd1 with hd1
    subst hd1
    rw [M.slots i o s hi ho hs (hall i hi)]
    have := putAll_new val s (l.take np) 0 a0 i o (by rw [List.getElem?_take, if_pos hi]; exact ho) hs (fun j o' ho' hd' => by
     rw [List.getElem?_take] at ho'
     split at ho'
     · exact hd3 j o' (by assumption) ho' hd'
     · cases ho') hd2
    rw [this, Nat.zero_add]
  · rw [M.old s (fun i o hi ho hs => (h ⟨i, o, hi, ho, hs⟩).elim), putAll_old val s _ _ _ (fun o ho hs => by
     obtain ⟨i, hi⟩ := List.mem_iff_getElem?.1 ho
     rw [List.getElem?_take] at hi
     split at hi
     · exact h ⟨i, o, by assumption, hi, hs⟩
     · cases hi)]
 have e2 : a.defers = (putAll val 0 (l.take np) a0).defers := by rw [putAll_defers]; exact M.defers
 obtain ⟨t, d⟩ := a
 simp only at e e2
 rw [e, e2]
theorem Made.next (M : Made w0 a0 l np R L a w val lo hi) {i : Nat} {o : Oper} {v : Value} {w' : World} (hi' : i < np) (ho : l[i]? = some o) (hd : dstsB l np a0.tmps.size = true)
 (hR : ∀ i v lo hi w w', R i v lo hi w → hi ≤ w.heap.size → From w w' → R i v lo hi w') (hw : From w w') (hv : R i v w.heap.size w'.heap.size w')
 {L' : Nat → Bool} (hL : ∀ j, L' j = if j = i then true else L j) (hn : L i = false) :
 Made w0 a0 l np R L' (a.put o.dst v) w' (fun j => if j = i then v else val j) (fun j => if j = i then w.heap.size else lo j) (fun j => if j = i then w'.heap.size else hi j) := by
 obtain ⟨d, hd1, hd2, hd3⟩ := dstsB_spec hd hi' ho
 refine ⟨by rw [act_put_defers]; exact M.defers, by rw [act_put_size]; exact M.tsize, M.from0.trans (hw.mono M.from0.size), fun j hj hl => ?_, fun j k hj hk hlj hlk hjk => ?_, fun j oj dj hj hoj hdj hlj => ?_, fun s hs => ?_⟩
 · by_cases e : j = i
   · subst e
     simp only [if_true]
     exact ⟨M.from0.size, hw.size, Nat.le_refl _, hv⟩
   · simp only [e, if_false]
     rw [hL, if_neg e] at hl
     obtain ⟨h1, h2, h3, h4⟩ := M.rows j hj hl
     have hws := hw.size
     have h0 := M.from0.size
     exact ⟨h1, h2, by omega, hR j _ _ _ w w' h4 h3 hw⟩
 · rw [hL] at hlj hlk
   by_cases e1 : j = i
   · by_cases e2 : k = i
     · omega
     · simp only [e1, e2, if_true, if_false]
       rw [if_neg e2] at hlk
       exact .inr (M.rows k hk hlk).2.2.1
   · rw [if_neg e1] at hlj
     by_cases e2 : k = i
     · simp only [e1, e2, if_true, if_false]
       exact .inl (M.rows j hj hlj).2.2.1
     · simp only [e1, e2, if_false]
       rw [if_neg e2] at hlk
       exact M.apart j k hj hk hlj hlk hjk
 · rw [hd1]
   rw [put_get (by rw [M.tsize]; exact hd2)]
   by_cases e : j = i
   · subst e
     rw [ho] at hoj
     injection hoj with hoj
     subst hoj
     rw [hd1] at hdj
     injection hdj with hdj
     subst hdj
     simp
   · have hne : dj ≠ d := fun h => e (hd3 j oj hj hoj (by rw [hdj, h]))
     rw [hL, if_neg e] at hlj
     simp only [hne, e, if_false]
     exact M.slots j oj dj hj hoj hdj hlj
 · rw [hd1]
   rw [put_get (by rw [M.tsize]; exact hd2)]
   have hne : s ≠ d := fun h => by
    have := hs i o hi' ho (by rw [hd1, h])
    rw [hL, if_pos rfl] at this
    cases this
   rw [if_neg hne]
   refine M.old s (fun j oj hj hoj hdj => ?_)
   have := hs j oj hj hoj hdj
   rw [hL] at this
   by_cases e : j = i
   · rw [if_pos e] at this
     cases this
   · rw [if_neg e] at this
     exact this
end
section
variable {P : Program} {ops : Array Oper} {Q : Exit → Act → World → Prop} {a : Act} {w : World} {K : Act → World → Prop} {i : Nat} {o : Oper}
theorem wpOp_call (ho : ops[i]? = some o) (hg : o.guard = none) {F : FuncId} {xs : Array Operand} {ts : Array TypeId} (hop : o.op = .call { callee := .value (.func F), args := xs, argTypes := ts }) {args : Array Value} (hx : xs.map a.eval = args) (hcf : (callFunc F args).run P w = .ok (.enter F args) w) (hc : Calls P F args w fun e w' => ∃ v, e = .returned v ∧ K (a.put o.dst v) w') : wpOp P ops Q i K a w :=
 wpOp_enter ho hg (by subst hx; unfold execOp; simp only [hop]; go_simp) hc
end
theorem listed_false {listed : Array Bool} {i : Nat} (h : listed.getD i true = false) : LL listed i = false ∧ i < listed.size := by
 have hlt : i < listed.size := by
  rcases Nat.lt_or_ge i listed.size with h' | h'
  · exact h'
  · simp [Array.getElem?_eq_none h'] at h
 refine ⟨?_, hlt⟩
 unfold LL
 simp [hlt] at h ⊢
 exact h
theorem wp_region_made {P : Program} {id : Nat} {Q : Exit → Act → World → Prop} {a0 : Act} {w0 : World} {l : List Oper} (np : Nat) (R : Nat → Value → Nat → Nat → World → Prop) (hm : P.follows .mixedOrders = true) (hO : orderB l np = true) (hnp : np ≤ l.length) (hd : dstsB l np a0.tmps.size = true)
 (hR : ∀ i v lo hi w w', R i v lo hi w → hi ≤ w.heap.size → From w w' → R i v lo hi w')
 (hstep : ∀ i o, i < np → l[i]? = some o → ∀ (L : Nat → Bool) (a : Act) (w : World) (val : Nat → Value) (lo hi : Nat → Nat), Made w0 a0 l np R L a w val lo hi → (∀ e ∈ o.after, Region.binds .any e = true → L e.on = true) →
  wpOp P l.toArray Q i (fun a' w' => ∃ v, a' = a.put o.dst v ∧ From w w' ∧ R i v w.heap.size w'.heap.size w') a w)
 (hK : ∀ (val : Nat → Value) (lo hi : Nat → Nat) (w : World), From w0 w → (∀ i, i < np → w0.heap.size ≤ lo i ∧ lo i ≤ hi i ∧ hi i ≤ w.heap.size ∧ R i (val i) (lo i) (hi i) w) → (∀ i j, i < np → j < np → i ≠ j → hi i ≤ lo j ∨ hi j ≤ lo i) → wpList P l.toArray Q (l.drop np) (putAll val 0 (l.take np) a0) w) :
 (Code.region id l.toArray true).wp P Q a0 w0 := by
 refine wp_region_any hm (wpAny_inv (fun listed a w => listed.size = l.length ∧ Closed .any l.toArray listed ∧ ((∃ val lo hi, Made w0 a0 l np R (LL listed) a w val lo hi ∧ ∀ j, np ≤ j → LL listed j = false) ∨ ∃ k, np ≤ k ∧ (∀ j, LL listed j = decide (j < k)) ∧ wpList P l.toArray Q (l.drop k) a w)) ?_ ?_ _ _ _ _ ?_ ?_)
 · rintro listed a w ⟨hsz, hcl, H⟩ hr
   have hall : ∀ j, j < l.length → LL listed j = true := by
    intro j
    induction j using Nat.strongRecOn with
    | ind j ih =>
     intro hj
     cases hq : LL listed j with
     | true => rfl
     | false =>
      exfalso
      have hmem : j ∈ Region.ready .any l.toArray listed := by
       rw [mem_ready]
       refine ⟨?_, l[j], by simp [hj], fun e he hb => ?_⟩
       · unfold LL at hq
         rw [Array.getD_eq_getD_getElem?, Array.getElem?_eq_getElem (by omega)] at hq ⊢
         exact hq
       · have h1 := orderB_back hO (List.getElem?_eq_getElem hj) e he hb
         exact ih e.on h1 (by omega)
      rw [hr] at hmem
      cases hmem
   rcases H with ⟨val, lo, hi, M, hpost⟩ | ⟨k, hk, hL, hw⟩
   · have hnl : np = l.length := by
      rcases Nat.lt_or_ge np l.length with h | h
      · have h1 := hall np h
        rw [hpost np (Nat.le_refl _)] at h1
        cases h1
      · omega
     have hact := M.act (fun i hi => hall i (by omega)) hd
     have h1 := hK val lo hi w M.from0 (fun i hi => M.rows i hi (hall i (by omega))) (fun i j hi hj hij => M.apart i j hi hj (hall i (by omega)) (hall j (by omega)) hij)
     rw [hnl, List.drop_length] at h1
     rw [hact, hnl]
     exact h1
   · have hk2 : l.length ≤ k := by
      rcases Nat.lt_or_ge k l.length with h | h
      · have h1 := hall k h
        rw [hL k] at h1
        simp at h1
      · exact h
     rw [List.drop_eq_nil_of_le hk2] at hw
     exact hw
 · rintro listed a w i ⟨hsz, hcl, H⟩ hr
   obtain ⟨hun, o, ho, haft⟩ := mem_ready.1 hr
   obtain ⟨hn, hlt⟩ := listed_false hun
   have ho' : l[i]? = some o := by simpa using ho
   have hL := LL_set (listed := listed) (i := i) hlt
   have post : ∀ k, np ≤ k → (∀ j, LL listed j = decide (j < k)) → wpList P l.toArray Q (l.drop k) a w → wpOp P l.toArray Q i (fun a w => (listed.setIfInBounds i true).size = l.length ∧ Closed .any l.toArray (listed.setIfInBounds i true) ∧ ((∃ val lo hi, Made w0 a0 l np R (LL (listed.setIfInBounds i true)) a w val lo hi ∧ ∀ j, np ≤ j → LL (listed.setIfInBounds i true) j = false) ∨ ∃ k, np ≤ k ∧ (∀ j, LL (listed.setIfInBounds i true) j = decide (j < k)) ∧ wpList P l.toArray Q (l.drop k) a w)) a w := by
    intro k hk hLk hw
    have hki : i = k := by
     have h1 : ¬ i < k := by
      intro h
      rw [hLk i] at hn
      simp [h] at hn
     rcases Nat.lt_or_ge k i with h | h
     · have h2 := waits_listed hcl _ i k o ho haft (orderB_all hO ho' (by omega) k h)
       have h3 := hLk k
       unfold LL at h3
       rw [h2] at h3
       simp at h3
     · omega
    subst hki
    have hlt' : i < l.length := (List.getElem?_eq_some_iff.1 ho').1
    rw [List.drop_eq_getElem_cons hlt'] at hw
    have hoi : l[i] = o := by rw [List.getElem?_eq_getElem hlt'] at ho'; injection ho'
    rw [hoi] at hw
    have hst : wpOp P l.toArray Q i (wpList P l.toArray Q (l.drop (i + 1))) a w := by
     unfold wpOp
     simp only [ho]
     exact hw
    refine wpOp_mono (fun a' w' h' => ⟨by simp [hsz], hcl.set_ hr, .inr ⟨i + 1, by omega, fun j => ?_, h'⟩⟩) hst
    rw [hL, hLk]
    by_cases e : j = i
    · simp [e]
    · rw [if_neg e]
      by_cases h : j < i
      · simp [h, show j < i + 1 by omega]
      · simp [h, show ¬ j < i + 1 by omega]
   rcases H with ⟨val, lo, hi, M, hpost⟩ | ⟨k, hk, hLk, hw⟩
   · rcases Nat.lt_or_ge i np with hinp | hinp
     · refine wpOp_mono (fun a' w' h' => ?_) (hstep i o hinp ho' (LL listed) a w val lo hi M (fun e he hb => by have := haft e he hb; unfold LL; exact this))
       obtain ⟨v, rfl, hf, hv⟩ := h'
       refine ⟨by simp [hsz], hcl.set_ hr, .inl ⟨_, _, _, M.next hinp ho' hd hR hf hv hL hn, fun j hj => ?_⟩⟩
       rw [hL, if_neg (by omega)]
       exact hpost j hj
     · have hi0 : ∀ j, j < i → LL listed j = true := fun j hj => by
        exact waits_listed hcl _ i j o ho haft (orderB_all hO ho' hinp j hj)
       have hinp' : i = np := by
        rcases Nat.lt_or_ge np i with h | h
        · have h1 := hi0 np h
          rw [hpost np (Nat.le_refl _)] at h1
          cases h1
        · omega
       have hact := M.act (fun j hj => hi0 j (by omega)) hd
       have h1 := hK val lo hi w M.from0 (fun j hj => M.rows j hj (hi0 j (by omega))) (fun j k hj hk hjk => M.apart j k hj hk (hi0 j (by omega)) (hi0 k (by omega)) hjk)
       rw [← hact] at h1
       refine post np (Nat.le_refl _) (fun j => ?_) h1
       rcases Nat.lt_or_ge j np with h | h
       · rw [hi0 j (by omega)]; simp [h]
       · rw [hpost j h]; simp [Nat.not_lt.2 h]
   · exact post k hk hLk hw
 · simp
 · have h0 : ∀ j, LL (Array.replicate l.toArray.size false) j = false := fun j => by
    unfold LL
    rw [Array.getD_eq_getD_getElem?, Array.getElem?_replicate]
    split <;> rfl
   refine ⟨by simp, fun j oj _ hl => (by simp [Array.getElem?_replicate] at hl; split at hl <;> simp at hl), .inl ⟨fun _ => undef, fun _ => 0, fun _ => 0, ⟨rfl, rfl, (Below.refl _ _).drew, fun i _ h => ?_, fun i j _ _ h => ?_, fun i o d _ _ _ h => ?_, fun s _ => rfl⟩, fun j _ => ?_⟩⟩
   · rw [h0] at h; cases h
   · rw [h0] at h; cases h
   · rw [h0] at h; cases h
   · exact h0 j
section
variable {P : Program} {ops : Array Oper} {Q : Exit → Act → World → Prop} {a : Act} {w : World} {K : Act → World → Prop} {i : Nat} {o : Oper}
theorem wpOp_valueW (ho : ops[i]? = some o) (hw : Region.wanted o (yielded ops a.tmps) = true) {v : Value} {w' : World} (hr : (execOp a.eval o).run P w = .ok (.value v) w') (hK : K (a.put o.dst v) w') : wpOp P ops Q i K a w := by
 unfold wpOp
 simp only [ho]
 rw [if_pos hw]
 refine .inl ?_
 unfold Oper.wp
 rw [hr]
 exact hK
theorem wpOp_enterW (ho : ops[i]? = some o) (hw : Region.wanted o (yielded ops a.tmps) = true) {f : FuncId} {args : Array Value} (hr : (execOp a.eval o).run P w = .ok (.enter f args) w) (hc : Calls P f args w fun e w' => ∃ v, e = .returned v ∧ K (a.put o.dst v) w') : wpOp P ops Q i K a w := by
 unfold wpOp
 simp only [ho]
 rw [if_pos hw]
 refine .inl ?_
 unfold Oper.wp
 rw [hr]
 refine hc.mono ?_
 rintro e w' ⟨v, rfl, h⟩
 exact h
theorem wpOp_not (ho : ops[i]? = some o) (hw : Region.wanted o (yielded ops a.tmps) = false) (hK : K (a.put o.dst undef) w) : wpOp P ops Q i K a w := by
 unfold wpOp
 simp only [ho]
 rw [if_neg (by rw [hw]; simp)]
 exact hK
theorem wanted_none (h : o.guard = none) (f : Nat → Option Bool) : Region.wanted o f = true := by unfold Region.wanted; rw [h]
theorem wanted_some {j : Nat} {b c r : Bool} {oj : Oper} {d : Nat} (h : o.guard = some (j, b)) (hj : ops[j]? = some oj) (hd : oj.dst = some d) (hs : a.tmps[d]? = some (.bool c)) (hr : (c == b) = r) : Region.wanted o (yielded ops a.tmps) = r := by
 subst hr
 unfold Region.wanted yielded
 rw [h]
 simp only [hj, Option.bind_some, hd, hs]
 cases b <;> cases c <;> rfl
end
def nums (k : IntKind) (l : List Nat) : List (List Value) := l.map fun (n : Nat) => [Value.int k (n : Int)]
theorem nums_len (k : IntKind) (l : List Nat) : (nums k l).length = l.length := by simp [nums]
theorem nums_ones (k : IntKind) (l : List Nat) : ∀ cs ∈ nums k l, ∀ u ∈ cs, u.oneCell' = true := by
 intro cs h
 obtain ⟨n, _, rfl⟩ := List.mem_map.1 h
 simp [Value.oneCell']
theorem nums_get {k : IntKind} {l : List Nat} {i : Nat} (h : i < l.length) : (nums k l)[i]? = some [Value.int k (l[i] : Int)] := by
 unfold nums
 rw [List.getElem?_map, List.getElem?_eq_getElem h]
 rfl
theorem nums_take (k : IntKind) (l : List Nat) (n : Nat) : nums k (l.take n) = (nums k l).take n := by simp [nums, List.map_take]
theorem nums_flat (k : IntKind) (l : List Nat) : (nums k l).flatten = l.map fun (n : Nat) => Value.int k (n : Int) := by
 induction l with
 | nil => rfl
 | cons n l ih => simp only [nums, List.map_cons, List.flatten_cons] at *; rw [ih]; rfl
section
variable {P : Program} {w : World} {ops : Array Oper} {rest : List Oper} {o : Oper} {a : Act} {Q : Exit → Act → World → Prop}
theorem num_ld {T : Nat} {d : TypeDesc} (hT : P.underlying T = some d) (hd : (match d with | .struct _ | .array _ _ => false | _ => true) = true) {B : Nat} {A : Option Addr} {k : IntKind} {l : List Nat} (h : Rd w B 1 A (nums k l)) {i : Nat} (hi : i < l.length) :
 ∃ b off, A = some ⟨b, off, none⟩ ∧ b < B ∧ ∀ w', Below B w w' → (loadVar T ⟨b, off + i, none⟩).run P w' = .ok (.int k (l[i] : Int)) w' := by
 obtain ⟨b, off, e, hlt, hl, hc⟩ := h i _ (nums_get hi)
 refine ⟨b, off, e, hlt, fun w' hb => run_load_cell hT hd ?_⟩
 have h1 := hc 0 _ rfl
 simp only [Nat.mul_one, Nat.add_zero] at h1
 exact (hb.cell (p := ⟨b, _, none⟩) (by simpa using hlt)).trans h1
def NB (w : World) (g E : Nat) (k : IntKind) (l : List Nat) : Prop := w.heap[g]? = some (.cells (l.map fun (n : Nat) => Value.int k (n : Int)).toArray E (0, 0))
theorem NB.lt {g E : Nat} {k : IntKind} {l : List Nat} (h : NB w g E k l) : g < w.heap.size := (Array.getElem?_eq_some_iff.1 h).1
theorem NB.keep {w' : World} {g E : Nat} {k : IntKind} {l : List Nat} (h : NB w g E k l) (hg : w'.heap[g]? = w.heap[g]?) : NB w' g E k l := hg.trans h
theorem NB.below {w' : World} {B g E : Nat} {k : IntKind} {l : List Nat} (h : NB w g E k l) (hb : Below B w w') (hg : g < B) : NB w' g E k l := h.keep (hb.block g hg)
theorem NB.rd {g E off : Nat} {k : IntKind} {l m : List Nat} (h : NB w g E k l) (hm : ∀ i, i < m.length → l[off + i]? = m[i]?) : Rd w w.heap.size 1 (some ⟨g, off, none⟩) (nums k m) := by
 intro i cs hi
 unfold nums at hi
 rw [List.getElem?_map] at hi
 obtain ⟨n, hn, rfl⟩ := Option.map_eq_some_iff.1 hi
 refine ⟨g, off, rfl, h.lt, rfl, fun j u hu => ?_⟩
 match j, hu with
 | 0, hu =>
  simp at hu
  subst hu
  have hil : i < m.length := (List.getElem?_eq_some_iff.1 hn).1
  rw [cell_of_row w g _ _ _ _ h]
  simp [hm i hil, hn]
theorem NB.rd0 {g E : Nat} {k : IntKind} {l : List Nat} (h : NB w g E k l) : Rd w w.heap.size 1 (some ⟨g, 0, none⟩) (nums k l) := h.rd (fun i _ => by simp)
theorem NB.ld {T : Nat} {d : TypeDesc} (hT : P.underlying T = some d) (hd : (match d with | .struct _ | .array _ _ => false | _ => true) = true) {g E : Nat} {k : IntKind} {l : List Nat} (h : NB w g E k l) {i : Nat} (hi : i < l.length) : (loadVar T ⟨g, i, none⟩).run P w = .ok (.int k (l[i] : Int)) w := by
 refine run_load_cell hT hd ?_
 rw [cell_of_row w g i _ _ _ h]
 simp [hi]
theorem wpList_make_N {t e bytes n : Nat} {k kl kc : IntKind} {L C : Int} (hgd : o.guard = none) (l c : Operand) (ho : o.op = .makeSlice t l c) (ht : P.underlying t = some (.slice e)) (hz : (P.info? e).map (fun i => (i.zero, i.size, i.bytes)) = some (some (.int k 0), 1, bytes))
 (hl : a.eval l = .int kl L) (hc : a.eval c = .int kc C) (hL : L = (n : Int)) (hC : C = (n : Int)) (b2 : bytes * n ≤ 281474976710656) (b3 : n ≤ maxLen)
 (h : ∀ w', NB w' w.heap.size e k (List.replicate n 0) → Below w.heap.size w w' → w.heap.size < w'.heap.size → wpList P ops Q rest (a.put o.dst (.slice (some ⟨w.heap.size, 0, none⟩) n n)) w') : wpList P ops Q (o :: rest) a w := by
 obtain ⟨i, hi, hz1, hz2, hz3⟩ := info_parts hz
 refine wpList_make_full w hgd l c t ho w.heap.size e i (.int k 0) 1 ht hi hz1 hz2 kl kc L C n hl hc hL hC (by rw [hz3]; exact b2) b3 (Nat.le_refl _) fun w' h1 h2 => ?_
 have hb : Below w.heap.size w w' := (Below.refl _ _).grown h2 (Nat.le_refl _) (by simp)
 rcases h1.2 with ⟨h3, _⟩ | ⟨g, cap, cur, h3, hbg, hg, hnc, _, hsz, htk⟩
 · injection h3 with h3 _ _
   cases h3
 · injection h3 with h3 _ h4
   injection h3 with h3
   injection h3 with h3
   subst h3
   subst h4
   refine h w' ?_ hb (Array.getElem?_eq_some_iff.1 hg).1
   unfold NB
   rw [hg]
   have e1 : cur.toList = (List.replicate n 0).map fun (m : Nat) => Value.int k (m : Int) := by
    rw [Nat.mul_one] at hsz htk
    have e2 : cur.toList.take n = cur.toList := List.take_of_length_le (by simp; omega)
    rw [← e2, htk]
    simp [madeCells]
    apply List.ext_getElem?
    intro j
    by_cases hj : j < n
    · simp [hj, Value.cells, Nat.mod_one]
    · simp [hj]
   congr 2
   apply Array.ext'
   rw [e1]
theorem wpList_set {T g E i : Nat} {k : IntKind} {l : List Nat} {v : Int} {m : Nat} (hgd : o.guard = none) (x y : Operand) (ho : o.op = .store T x y) (hx : a.eval x = .pointer (some ⟨g, i, none⟩)) (hy : a.eval y = .int k v) (hv : v = (m : Int)) (hi : (P.info? T).map (·.size) = some 1)
 (hnb : NB w g E k l) (hil : i < l.length)
 (h : ∀ w', NB w' g E k (l.set i m) → w.grownBy w' (some g) → wpList P ops Q rest (a.put o.dst undef) w') : wpList P ops Q (o :: rest) a w := by
 subst hv
 refine wpList_st (cs := [.int k (m : Int)]) hgd x y ho hx hy hi rfl rfl hnb (by simp; omega) (by simp [Value.oneCell']) fun cur' w' hc hs hg hgr => h w' ?_ hgr
 unfold NB
 rw [hg]
 congr 2
 apply Array.ext'
 rw [hc]
 show (l.map fun (n : Nat) => Value.int k (n : Int)).take i ++ [Value.int k (m : Int)] ++ (l.map fun (n : Nat) => Value.int k (n : Int)).drop (i + 1) = (l.set i m).map fun (n : Nat) => Value.int k (n : Int)
 rw [List.map_set, List.set_eq_take_append_cons_drop, if_pos (by simpa using hil)]
 simp
end
end Go.Proofs.YtfdjcakgolenbaaGreat
