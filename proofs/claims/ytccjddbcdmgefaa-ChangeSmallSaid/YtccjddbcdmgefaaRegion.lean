/-
  A region that draws its order and holds two makers of new memory: the look-up in a map that a call returns, laid into a variable.
-/
import Derived.Test.YtccjddbcdmgefaaClone
namespace Go.Proofs.Ytccjddbcdmgefaa
open Go.RowKit

section
variable {P : Program} {md : Region.Mode} {ops : Array Oper} {Q : Exit → Act → World → Prop}

theorem count_set_false : ∀ (l : List Bool) (i : Nat), l[i]? = some false → (l.set i true).count false + 1 = l.count false
  | [], i, h => by simp at h
  | b :: l, 0, h => by
    simp at h
    subst h
    simp
  | b :: l, i + 1, h => by
    have ih := count_set_false l i (by simpa using h)
    simp only [List.set_cons_succ, List.count_cons]
    omega

/-- what each step keeps holds at the end, whatever the order -/
theorem wpAny_inv (Inv : Array Bool → Act → World → Prop) (hend : ∀ listed a w, Inv listed a w → Region.ready md ops listed = [] → Q .normal a w)
    (hstep : ∀ listed a w i, Inv listed a w → i ∈ Region.ready md ops listed → wpOp P ops Q i (Inv (listed.setIfInBounds i true)) a w) :
    ∀ (fuel : Nat) (listed : Array Bool) (a : Act) (w : World), listed.toList.count false ≤ fuel → Inv listed a w → wpAny P md ops Q fuel listed a w
  | 0, listed, a, w, hc, h => by
    have hr : Region.ready md ops listed = [] := by
      rw [List.eq_nil_iff_forall_not_mem]
      intro i hi
      have h1 := (mem_ready.1 hi).1
      have h2 : listed.toList[i]? = some false := by
        rcases Nat.lt_or_ge i listed.size with h' | h'
        · simp [h'] at h1
          simp [h', h1]
        · simp [Array.getElem?_eq_none h'] at h1
      have := List.count_pos_iff.2 (List.mem_of_getElem? h2)
      omega
    exact ⟨hr, hend listed a w h hr⟩
  | fuel + 1, listed, a, w, hc, h => by
    refine ⟨hend listed a w h, fun i hi => wpOp_mono (fun a' w' h' => ?_) (hstep listed a w i h hi)⟩
    refine wpAny_inv Inv hend hstep fuel _ a' w' ?_ h'
    have h1 := (mem_ready.1 hi).1
    have h2 : listed.toList[i]? = some false := by
      rcases Nat.lt_or_ge i listed.size with h'' | h''
      · simp [h''] at h1
        simp [h'', h1]
      · simp [Array.getElem?_eq_none h''] at h1
    have := count_set_false listed.toList i h2
    simp only [Array.toList_setIfInBounds]
    omega
end

/-- which operations each one waits for -/
def preB (ops : Array Oper) (pre : List (Nat × List Nat)) : Bool := pre.all fun p => p.2.all fun j => ((ops[p.1]?).map fun o => o.after.any fun e => Region.binds .any e && e.on == j).getD false

theorem pre_listed {ops : Array Oper} {pre : List (Nat × List Nat)} {listed : Array Bool} {i : Nat} {js : List Nat} (hp : preB ops pre = true) (hi : i ∈ Region.ready .any ops listed) (hm : (i, js) ∈ pre) : ∀ j ∈ js, listed.getD j false = true := by
  intro j hj
  unfold preB at hp
  rw [List.all_eq_true] at hp
  have h1 := hp _ hm
  rw [List.all_eq_true] at h1
  have h2 := h1 j hj
  obtain ⟨_, o, ho, hall⟩ := mem_ready.1 hi
  rw [ho] at h2
  simp only [Option.map_some, Option.getD_some] at h2
  rw [Array.any_eq_true'] at h2
  obtain ⟨e, he, hb⟩ := h2
  simp only [Bool.and_eq_true, beq_iff_eq] at hb
  have := hall e he hb.1
  rw [hb.2] at this
  exact this

def regG (L : Nat → Bool) (b g h : Nat) (k : Value) (V : Value) (ok : Bool) (old : Nat → Option Value) (s : Nat) : Option Value :=
  if s = 19 ∧ L 0 = true then some (.map (some b)) else
  if s = 20 ∧ L 1 = true then some (.pointer (some ⟨h, 0, none⟩)) else
  if s = 21 ∧ L 2 = true then some k else
  if s = 22 ∧ L 3 = true then some (.tuple #[V, .bool ok]) else
  if s = 18 ∧ L 4 = true then some (.tuple #[V, .bool ok]) else
  if s = 23 ∧ L 5 = true then some V else
  if s = 24 ∧ L 6 = true then some (.bool ok) else
  if s = 10 ∧ L 7 = true then some (.pointer (some ⟨g, 0, none⟩)) else
  if s = 11 ∧ L 9 = true then some (.bool ok) else old s

def LL (listed : Array Bool) (j : Nat) : Bool := listed.getD j false
theorem LL_set {listed : Array Bool} {i : Nat} (h : i < listed.size) (j : Nat) : LL (listed.setIfInBounds i true) j = if j = i then true else LL listed j := by
  unfold LL
  rw [Array.getD_eq_getD_getElem?, Array.getD_eq_getD_getElem?, Array.getElem?_setIfInBounds]
  by_cases e : j = i
  · subst e
    simp [h]
  · rw [if_neg (fun h => e h.symm), if_neg e]

theorem put_get {a : Act} {d : Nat} {v : Value} (hd : d < a.tmps.size) (s : Nat) : (a.put (some d) v).tmps[s]? = if s = d then some v else a.tmps[s]? := by
  unfold Act.put
  simp only
  rw [Array.getElem?_setIfInBounds]
  by_cases e : s = d
  · subst e
    simp [hd]
  · rw [if_neg (fun h => e h.symm), if_neg e]

theorem eval_get {a : Act} {s : Nat} {v : Value} (h : a.tmps[s]? = some v) : a.eval (.tmp s) = v := by
  unfold Act.eval
  simp only
  rw [Array.getD_eq_getD_getElem?, h]
  rfl

structure RegInv (P : Program) (T : TypeId) (tm : TypeId) (z V k : Value) (ok : Bool) (h : Nat) (a0 : Act) (w0 : World) (listed : Array Bool) (a : Act) (w : World) (b g : Nat) : Prop where
  size : listed.size = 10
  defers : a.defers = a0.defers
  tsize : a.tmps.size = a0.tmps.size
  slots : ∀ s, a.tmps[s]? = regG (LL listed) b g h k V ok (fun s => a0.tmps[s]?) s
  from0 : From w0 w
  look : LL listed 0 = true → LL listed 8 = false → ∀ w2, From w w2 → (Instr.lookup tm (.map (some b)) k true).run P w2 = .ok (.tuple #[V, .bool ok]) w2
  var : LL listed 7 = true → w0.heap.size ≤ g ∧ w.heap[g]? = some (.cells (if LL listed 8 then V.cells else z.cells) T (0, 0))
  late : LL listed 8 = true → ∀ j, j < 8 → j ≠ 6 → LL listed j = true

section
variable {P : Program} {ops : Array Oper} {Q : Exit → Act → World → Prop} {a : Act} {w : World} {K : Act → World → Prop} {i : Nat} {o : Oper}
theorem wpOp_value (ho : ops[i]? = some o) (hg : o.guard = none) {v : Value} {w' : World} (hr : (execOp a.eval o).run P w = .ok (.value v) w') (hK : K (a.put o.dst v) w') : wpOp P ops Q i K a w := by
  unfold wpOp
  simp only [ho]
  have hw : Region.wanted o (yielded ops a.tmps) = true := by unfold Region.wanted; rw [hg]
  rw [if_pos hw]
  refine .inl ?_
  unfold Oper.wp
  rw [hr]
  exact hK
theorem wpOp_skip (ho : ops[i]? = some o) (hg : o.guard = none) {w' : World} (hr : (execOp a.eval o).run P w = .ok .skip w') (hK : K (a.put o.dst undef) w') : wpOp P ops Q i K a w := by
  unfold wpOp
  simp only [ho]
  have hw : Region.wanted o (yielded ops a.tmps) = true := by unfold Region.wanted; rw [hg]
  rw [if_pos hw]
  refine .inl ?_
  unfold Oper.wp
  rw [hr]
  exact hK
theorem wpOp_enter (ho : ops[i]? = some o) (hg : o.guard = none) {f : FuncId} {args : Array Value} (hr : (execOp a.eval o).run P w = .ok (.enter f args) w) (hc : Calls P f args w fun e w' => ∃ v, e = .returned v ∧ K (a.put o.dst v) w') : wpOp P ops Q i K a w := by
  unfold wpOp
  simp only [ho]
  have hw : Region.wanted o (yielded ops a.tmps) = true := by unfold Region.wanted; rw [hg]
  rw [if_pos hw]
  refine .inl ?_
  unfold Oper.wp
  rw [hr]
  refine hc.mono ?_
  rintro e w' ⟨v, rfl, h⟩
  exact h
end

def regFin (a0 : Act) (b g h : Nat) (k V : Value) (ok : Bool) : Act :=
  ((((((((a0.put (some 10) (.pointer (some ⟨g, 0, none⟩))).put (some 11) (.bool ok)).put (some 18) (.tuple #[V, .bool ok])).put (some 19) (.map (some b))).put (some 20) (.pointer (some ⟨h, 0, none⟩))).put (some 21) k).put (some 22) (.tuple #[V, .bool ok])).put (some 23) V).put (some 24) (.bool ok)

theorem put_size (a : Act) (d : Nat) (v : Value) : (a.put (some d) v).tmps.size = a.tmps.size := by simp [Act.put]
theorem put_defers (a : Act) (d : Nat) (v : Value) : (a.put (some d) v).defers = a.defers := rfl

theorem regFin_eq {a a0 : Act} {L : Nat → Bool} {b g h : Nat} {k V : Value} {ok : Bool} (hL : ∀ j, j < 10 → L j = true) (hd : a.defers = a0.defers) (hs : 25 ≤ a0.tmps.size) (hG : ∀ s, a.tmps[s]? = regG L b g h k V ok (fun s => a0.tmps[s]?) s) : a = regFin a0 b g h k V ok := by
  have e : a.tmps = (regFin a0 b g h k V ok).tmps := by
    apply Array.ext_getElem?
    intro s
    rw [hG s]
    unfold regFin
    rw [put_get (by simp only [put_size]; omega), put_get (by simp only [put_size]; omega), put_get (by simp only [put_size]; omega), put_get (by simp only [put_size]; omega), put_get (by simp only [put_size]; omega), put_get (by simp only [put_size]; omega), put_get (by simp only [put_size]; omega), put_get (by simp only [put_size]; omega), put_get (by omega)]
    unfold regG
    simp only [hL 0 (by omega), hL 1 (by omega), hL 2 (by omega), hL 3 (by omega), hL 4 (by omega), hL 5 (by omega), hL 6 (by omega), hL 7 (by omega), hL 9 (by omega), and_true]
    by_cases h1 : s = 19
    · subst h1; rfl
    by_cases h2 : s = 20
    · subst h2; rfl
    by_cases h3 : s = 21
    · subst h3; rfl
    by_cases h4 : s = 22
    · subst h4; rfl
    by_cases h5 : s = 18
    · subst h5; rfl
    by_cases h6 : s = 23
    · subst h6; rfl
    by_cases h7 : s = 24
    · subst h7; rfl
    by_cases h8 : s = 10
    · subst h8; rfl
    by_cases h9 : s = 11
    · subst h9; rfl
    simp only [h1, h2, h3, h4, h5, h6, h7, h8, h9, if_false]
  have e2 : a.defers = (regFin a0 b g h k V ok).defers := by unfold regFin; simp only [put_defers]; exact hd
  obtain ⟨t, d⟩ := a
  simp only at e e2
  rw [e, e2]

theorem regG_put {L L' : Nat → Bool} {i : Nat} (hL : ∀ j, L' j = if j = i then true else L j) {b g h : Nat} {k V : Value} {ok : Bool} {old : Nat → Option Value} (b' g' : Nat) {d : Nat} {v : Value}
    (hi : (i = 0 ∧ d = 19 ∧ v = .map (some b') ∧ g' = g) ∨ (i = 1 ∧ d = 20 ∧ v = .pointer (some ⟨h, 0, none⟩) ∧ b' = b ∧ g' = g) ∨ (i = 2 ∧ d = 21 ∧ v = k ∧ b' = b ∧ g' = g) ∨ (i = 3 ∧ d = 22 ∧ v = .tuple #[V, .bool ok] ∧ b' = b ∧ g' = g) ∨ (i = 4 ∧ d = 18 ∧ v = .tuple #[V, .bool ok] ∧ b' = b ∧ g' = g) ∨
      (i = 5 ∧ d = 23 ∧ v = V ∧ b' = b ∧ g' = g) ∨ (i = 6 ∧ d = 24 ∧ v = .bool ok ∧ b' = b ∧ g' = g) ∨ (i = 7 ∧ d = 10 ∧ v = .pointer (some ⟨g', 0, none⟩) ∧ b' = b) ∨ (i = 9 ∧ d = 11 ∧ v = .bool ok ∧ b' = b ∧ g' = g)) (s : Nat) :
    (if s = d then some v else regG L b g h k V ok old s) = regG L' b' g' h k V ok old s := by
  unfold regG
  simp only [hL]
  by_cases hs : s = d
  · subst hs
    rcases hi with ⟨rfl, rfl, rfl, rfl⟩ | ⟨rfl, rfl, rfl, rfl, rfl⟩ | ⟨rfl, rfl, rfl, rfl, rfl⟩ | ⟨rfl, rfl, rfl, rfl, rfl⟩ | ⟨rfl, rfl, rfl, rfl, rfl⟩ | ⟨rfl, rfl, rfl, rfl, rfl⟩ | ⟨rfl, rfl, rfl, rfl, rfl⟩ | ⟨rfl, rfl, rfl, rfl⟩ | ⟨rfl, rfl, rfl, rfl, rfl⟩ <;> simp
  · rw [if_neg hs]
    rcases hi with ⟨rfl, rfl, rfl, rfl⟩ | ⟨rfl, rfl, rfl, rfl, rfl⟩ | ⟨rfl, rfl, rfl, rfl, rfl⟩ | ⟨rfl, rfl, rfl, rfl, rfl⟩ | ⟨rfl, rfl, rfl, rfl, rfl⟩ | ⟨rfl, rfl, rfl, rfl, rfl⟩ | ⟨rfl, rfl, rfl, rfl, rfl⟩ | ⟨rfl, rfl, rfl, rfl⟩ | ⟨rfl, rfl, rfl, rfl, rfl⟩ <;> simp [hs]

theorem regG_store {L L' : Nat → Bool} (hL : ∀ j, L' j = if j = 8 then true else L j) {b g h : Nat} {k V : Value} {ok : Bool} {old : Nat → Option Value} (s : Nat) : regG L b g h k V ok old s = regG L' b g h k V ok old s := by
  unfold regG
  simp [hL]

section
variable {P : Program} {T tm : TypeId} {z V k : Value} {ok : Bool} {h : Nat} {a0 : Act} {w0 : World} {listed : Array Bool} {a : Act} {w : World} {b g : Nat}

/-- an operation that gives a value: what was known goes on -/
theorem RegInv.next (I : RegInv P T tm z V k ok h a0 w0 listed a w b g) {i d : Nat} {v : Value} (hi : i < 10) (hd : d < 25) (hs : 25 ≤ a0.tmps.size) (hn : LL listed i = false) {b' g' : Nat} {w' : World} (hw : From w w')
    (hv : (i = 0 ∧ d = 19 ∧ v = .map (some b') ∧ g' = g) ∨ (i = 1 ∧ d = 20 ∧ v = .pointer (some ⟨h, 0, none⟩) ∧ b' = b ∧ g' = g) ∨ (i = 2 ∧ d = 21 ∧ v = k ∧ b' = b ∧ g' = g) ∨ (i = 3 ∧ d = 22 ∧ v = .tuple #[V, .bool ok] ∧ b' = b ∧ g' = g) ∨ (i = 4 ∧ d = 18 ∧ v = .tuple #[V, .bool ok] ∧ b' = b ∧ g' = g) ∨
      (i = 5 ∧ d = 23 ∧ v = V ∧ b' = b ∧ g' = g) ∨ (i = 6 ∧ d = 24 ∧ v = .bool ok ∧ b' = b ∧ g' = g) ∨ (i = 7 ∧ d = 10 ∧ v = .pointer (some ⟨g', 0, none⟩) ∧ b' = b) ∨ (i = 9 ∧ d = 11 ∧ v = .bool ok ∧ b' = b ∧ g' = g))
    (hlook : i = 0 → ∀ w2, From w' w2 → (Instr.lookup tm (.map (some b')) k true).run P w2 = .ok (.tuple #[V, .bool ok]) w2)
    (hvar : i = 7 → w0.heap.size ≤ g' ∧ w'.heap[g']? = some (.cells z.cells T (0, 0))) :
    RegInv P T tm z V k ok h a0 w0 (listed.setIfInBounds i true) (a.put (some d) v) w' b' g' := by
  have hL := LL_set (listed := listed) (i := i) (by rw [I.size]; exact hi)
  have h8 : LL listed 8 = true → i = 9 ∨ i = 8 ∨ i = 6 := fun h => by
    have := I.late h i
    rcases Nat.lt_or_ge i 8 with h9 | h9
    · by_cases h6 : i = 6
      · omega
      · rw [this h9 h6] at hn; cases hn
    · omega
  have hi8 : i ≠ 8 := by omega
  refine ⟨by simp [I.size], by rw [put_defers, I.defers], by rw [put_size, I.tsize], fun s => ?_, I.from0.trans (hw.mono I.from0.size), fun h0 h8' w2 h2 => ?_, fun h7 => ?_, fun h8' j hj hj6 => ?_⟩
  · rw [put_get (by rw [I.tsize]; omega), I.slots s]
    exact regG_put hL b' g' hv s
  · rw [hL] at h0 h8'
    rw [if_neg (Ne.symm hi8)] at h8'
    by_cases e : i = 0
    · exact hlook e w2 h2
    · rw [if_neg (Ne.symm e)] at h0
      have hb : b' = b := by omega
      rw [hb]
      exact I.look h0 h8' w2 (hw.trans (h2.mono hw.size))
  · rw [hL] at h7
    rw [hL, if_neg (Ne.symm hi8)]
    by_cases e : i = 7
    · have h88 : LL listed 8 = false := by
        cases hq : LL listed 8 with
        | false => rfl
        | true => have := h8 hq; omega
      rw [h88]
      exact hvar e
    · rw [if_neg (Ne.symm e)] at h7
      have hg : g' = g := by omega
      rw [hg]
      have hv1 := I.var h7
      exact ⟨hv1.1, (hw.block _ (Array.getElem?_eq_some_iff.1 hv1.2).1).trans hv1.2⟩
  · rw [hL, if_neg (Ne.symm hi8)] at h8'
    rw [hL]
    have := I.late h8' j hj hj6
    rw [this]
    simp
end

set_option maxHeartbeats 1000000 in
theorem region_kinds {P : Program} {id : Nat} {Q : Exit → Act → World → Prop} {a0 : Act} {w0 : World} {l : List Oper} {F : FuncId} {T T' tm t5 : TypeId} {z V k : Value} {ok : Bool} {h : Nat}
    {t0 t1 t2 t3 t4 t6 t7 t8 t9 t10 : TypeId} {p0 p1 p2 p3 p4 p5 p6 p7 p8 p9 : String} {e0 e1 e2 e3 e4 e5 e6 e7 e8 e9 : Array Edge}
    (hl : l = [⟨some 19, .call { callee := .value (.func F), args := #[], argTypes := #[] }, t0, p0, e0, none⟩, ⟨some 20, .fieldAddr T' (.tmp 7) 0, t1, p1, e1, none⟩, ⟨some 21, .load t5 (.tmp 20), t2, p2, e2, none⟩,
      ⟨some 22, .lookup tm (.tmp 19) (.tmp 21) true, t3, p3, e3, none⟩, ⟨some 18, .move (.tmp 22), t4, p4, e4, none⟩, ⟨some 23, .extract (.tmp 18) 0, t6, p5, e5, none⟩, ⟨some 24, .extract (.tmp 18) 1, t7, p6, e6, none⟩,
      ⟨some 10, .alloc T, t8, p7, e7, none⟩, ⟨none, .store T (.tmp 10) (.tmp 23), t9, p8, e8, none⟩, ⟨some 11, .assign (.tmp 24), t10, p9, e9, none⟩])
    (hm : P.follows .mixedOrders = true) (hpre : preB l.toArray [(2, [1]), (3, [0, 2]), (4, [3]), (5, [4]), (6, [4]), (8, [0, 1, 2, 3, 4, 5, 7]), (9, [0, 1, 2, 3, 4, 5, 6, 7, 8])] = true)
    (hedge : ((List.range 10).all fun j => ((l.toArray[j]?).map fun o => o.after.all fun e => !Region.binds .any e || decide (e.on < j)).getD true) = true)
    (hcall : ∀ (a : Act) w, (execOp a.eval ⟨some 19, .call { callee := .value (.func F), args := #[], argTypes := #[] }, t0, p0, e0, none⟩).run P w = .ok (.enter F #[]) w)
    (hF : ∀ w, From w0 w → Calls P F #[] w fun e w' => ∃ b, e = .returned (.map (some b)) ∧ (∀ w2, From w' w2 → (Instr.lookup tm (.map (some b)) k true).run P w2 = .ok (.tuple #[V, .bool ok]) w2) ∧ Below w.heap.size w w')
    (hfa : ∀ (a : Act) w, a.eval (.tmp 7) = .pointer (some ⟨h, 0, none⟩) → (execOp a.eval ⟨some 20, .fieldAddr T' (.tmp 7) 0, t1, p1, e1, none⟩).run P w = .ok (.value (.pointer (some ⟨h, 0, none⟩))) w)
    (hld : ∀ w', From w0 w' → (loadVar t5 ⟨h, 0, none⟩).run P w' = .ok k w')
    (s7 : a0.tmps[7]? = some (.pointer (some ⟨h, 0, none⟩))) (hs : 25 ≤ a0.tmps.size)
    (hz : ∀ w, (zeroValue T).run P w = .ok z w) (hzn : z.cells.size = 3) (hi : (P.info? T).map (·.size) = some 3) (hvn : V.cells.size = 3) (hone : ∀ u ∈ V.cells.toList, u.oneCell' = true)
    (hK : ∀ b g w', w0.heap.size ≤ g → w'.heap[g]? = some (.cells V.cells T (0, 0)) → From w0 w' → Q .normal (regFin a0 b g h k V ok) w') :
    (Code.region id l.toArray true).wp P Q a0 w0 := by
  refine wp_region_any hm (wpAny_inv (fun listed a w => ∃ b g, RegInv P T tm z V k ok h a0 w0 listed a w b g) ?_ ?_ _ _ _ _ ?_ ⟨0, 0, ?_⟩)
  · rintro listed a w ⟨b, g, I⟩ hr
    have hall : ∀ j, j < 10 → LL listed j = true := by
      intro j
      induction j using Nat.strongRecOn with
      | ind j ih =>
        intro hj
        cases hq : LL listed j with
        | true => rfl
        | false =>
          exfalso
          have hsz := I.size
          have hmem : j ∈ Region.ready .any l.toArray listed := by
            rw [mem_ready]
            have h1 := List.all_eq_true.1 hedge j (by simpa using hj)
            have hlen : l.toArray.size = 10 := by rw [hl]; rfl
            refine ⟨?_, l.toArray[j]'(by omega), by simp [Array.getElem?_eq_getElem], fun e he hb => ?_⟩
            · unfold LL at hq
              rw [Array.getD_eq_getD_getElem?, Array.getElem?_eq_getElem (by omega)] at hq ⊢
              exact hq
            · rw [Array.getElem?_eq_getElem (by omega)] at h1
              simp only [Option.map_some, Option.getD_some] at h1
              rw [Array.all_eq_true_iff_forall_mem] at h1
              have h2 := h1 e he
              simp only [hb, Bool.not_true, Bool.false_or, decide_eq_true_eq] at h2
              exact ih e.on h2 (by omega)
          rw [hr] at hmem
          cases hmem
    have hv := I.var (hall 7 (by omega))
    rw [hall 8 (by omega)] at hv
    have := regFin_eq hall I.defers hs I.slots
    rw [this]
    exact hK b g w hv.1 hv.2 I.from0
  · rintro listed a w i ⟨b, g, I⟩ hr
    have hsz := I.size
    have hi10 : i < 10 := by
      obtain ⟨_, o, ho, _⟩ := mem_ready.1 hr
      have := (Array.getElem?_eq_some_iff.1 ho).1
      rw [hl] at this
      simpa using this
    have hn : LL listed i = false := by
      have h1 := (mem_ready.1 hr).1
      unfold LL
      rw [Array.getD_eq_getD_getElem?, Array.getElem?_eq_getElem (by omega)] at h1 ⊢
      exact h1
    have hp := fun js hm => pre_listed (js := js) hpre hr hm
    have hnx := fun {d : Nat} {v : Value} {b' g' : Nat} {w' : World} (hd : d < 25) (hw : From w w') => I.next (i := i) (d := d) (v := v) (b' := b') (g' := g') (w' := w') hi10 hd hs hn hw
    have h88 : i < 6 → LL listed 8 = false := fun hlt => by
      cases hq : LL listed 8 with
      | false => rfl
      | true => have := I.late hq i (by omega) (by omega); rw [this] at hn; cases hn
    have o0 : l.toArray[0]? = some ⟨some 19, .call { callee := .value (.func F), args := #[], argTypes := #[] }, t0, p0, e0, none⟩ := by rw [hl]; rfl
    have o1 : l.toArray[1]? = some ⟨some 20, .fieldAddr T' (.tmp 7) 0, t1, p1, e1, none⟩ := by rw [hl]; rfl
    have o2 : l.toArray[2]? = some ⟨some 21, .load t5 (.tmp 20), t2, p2, e2, none⟩ := by rw [hl]; rfl
    have o3 : l.toArray[3]? = some ⟨some 22, .lookup tm (.tmp 19) (.tmp 21) true, t3, p3, e3, none⟩ := by rw [hl]; rfl
    have o4 : l.toArray[4]? = some ⟨some 18, .move (.tmp 22), t4, p4, e4, none⟩ := by rw [hl]; rfl
    have o5 : l.toArray[5]? = some ⟨some 23, .extract (.tmp 18) 0, t6, p5, e5, none⟩ := by rw [hl]; rfl
    have o6 : l.toArray[6]? = some ⟨some 24, .extract (.tmp 18) 1, t7, p6, e6, none⟩ := by rw [hl]; rfl
    have o7 : l.toArray[7]? = some ⟨some 10, .alloc T, t8, p7, e7, none⟩ := by rw [hl]; rfl
    have o8 : l.toArray[8]? = some ⟨none, .store T (.tmp 10) (.tmp 23), t9, p8, e8, none⟩ := by rw [hl]; rfl
    have o9 : l.toArray[9]? = some ⟨some 11, .assign (.tmp 24), t10, p9, e9, none⟩ := by rw [hl]; rfl
    have hsl := I.slots
    have hcase : i = 0 ∨ i = 1 ∨ i = 2 ∨ i = 3 ∨ i = 4 ∨ i = 5 ∨ i = 6 ∨ i = 7 ∨ i = 8 ∨ i = 9 := by omega
    rcases hcase with rfl | rfl | rfl | rfl | rfl | rfl | rfl | rfl | rfl | rfl
    · refine wpOp_enter o0 rfl (hcall _ _) ((hF w I.from0).mono ?_)
      rintro e w' ⟨b', rfl, hlk, hb⟩
      exact ⟨_, rfl, b', g, hnx (by omega) hb (.inl ⟨rfl, rfl, rfl, rfl⟩) (fun _ => hlk) (fun h => by omega)⟩
    · have h7 : a.tmps[7]? = some (.pointer (some ⟨h, 0, none⟩)) := by rw [hsl 7]; unfold regG; simpa using s7
      refine wpOp_value o1 rfl (hfa a w (eval_get h7)) ⟨b, g, hnx (by omega) (Below.refl _ _) (.inr (.inl ⟨rfl, rfl, rfl, rfl, rfl⟩)) (fun h => by omega) (fun h => by omega)⟩
    · have l1 : LL listed 1 = true := hp [1] (by simp) 1 (by simp)
      have h20 : a.tmps[20]? = some (.pointer (some ⟨h, 0, none⟩)) := by rw [hsl 20]; unfold regG; simp [l1]
      refine wpOp_value (v := k) (w' := w) o2 rfl ?_ ⟨b, g, hnx (by omega) (Below.refl _ _) (.inr (.inr (.inl ⟨rfl, rfl, rfl, rfl, rfl⟩))) (fun h => by omega) (fun h => by omega)⟩
      unfold execOp
      simp only [eval_get h20, Instr.loadAt, Instr.sureAddr, Sem.run_bind, Sem.run_pure, Result.andThen_ok, hld w I.from0]
    · have l0 : LL listed 0 = true := hp [0, 2] (by simp) 0 (by simp)
      have l2 : LL listed 2 = true := hp [0, 2] (by simp) 2 (by simp)
      have h19 : a.tmps[19]? = some (.map (some b)) := by rw [hsl 19]; unfold regG; simp [l0]
      have h21 : a.tmps[21]? = some k := by rw [hsl 21]; unfold regG; simp [l2]
      have hrun := I.look l0 (h88 (by omega)) w (Below.refl _ _)
      refine wpOp_value (v := .tuple #[V, .bool ok]) (w' := w) o3 rfl ?_ ⟨b, g, hnx (by omega) (Below.refl _ _) (.inr (.inr (.inr (.inl ⟨rfl, rfl, rfl, rfl, rfl⟩)))) (fun h => by omega) (fun h => by omega)⟩
      simp [execOp, eval_get h19, h19, eval_get h21, h21, hrun, Result.andThen]
    · have l3 : LL listed 3 = true := hp [3] (by simp) 3 (by simp)
      have h22 : a.tmps[22]? = some (.tuple #[V, .bool ok]) := by rw [hsl 22]; unfold regG; simp [l3]
      refine wpOp_value (v := .tuple #[V, .bool ok]) (w' := w) o4 rfl ?_ ⟨b, g, hnx (by omega) (Below.refl _ _) (.inr (.inr (.inr (.inr (.inl ⟨rfl, rfl, rfl, rfl, rfl⟩))))) (fun h => by omega) (fun h => by omega)⟩
      simp [execOp, eval_get h22, h22, Result.andThen]
    · have l4 : LL listed 4 = true := hp [4] (by simp) 4 (by simp)
      have h18 : a.tmps[18]? = some (.tuple #[V, .bool ok]) := by rw [hsl 18]; unfold regG; simp [l4]
      refine wpOp_value (v := V) (w' := w) o5 rfl ?_ ⟨b, g, hnx (by omega) (Below.refl _ _) (.inr (.inr (.inr (.inr (.inr (.inl ⟨rfl, rfl, rfl, rfl, rfl⟩)))))) (fun h => by omega) (fun h => by omega)⟩
      simp [execOp, eval_get h18, h18, Result.andThen, go_sem]
    · have l4 : LL listed 4 = true := hp [4] (by simp) 4 (by simp)
      have h18 : a.tmps[18]? = some (.tuple #[V, .bool ok]) := by rw [hsl 18]; unfold regG; simp [l4]
      refine wpOp_value (v := .bool ok) (w' := w) o6 rfl ?_ ⟨b, g, hnx (by omega) (Below.refl _ _) (.inr (.inr (.inr (.inr (.inr (.inr (.inl ⟨rfl, rfl, rfl, rfl, rfl⟩))))))) (fun h => by omega) (fun h => by omega)⟩
      simp [execOp, eval_get h18, h18, Result.andThen, go_sem]
    · have hfr : From w (w.alloc (.cells z.cells T)) := (Below.refl _ _).alloc (Nat.le_refl _) _
      refine wpOp_value (v := .pointer (some ⟨w.heap.size, 0, none⟩)) (w' := w.alloc (.cells z.cells T)) o7 rfl ?_ ⟨b, w.heap.size, hnx (by omega) hfr (.inr (.inr (.inr (.inr (.inr (.inr (.inr (.inl ⟨rfl, rfl, rfl, rfl⟩)))))))) (fun h => by omega) (fun _ => ⟨I.from0.size, heap_alloc_new w _⟩)⟩
      unfold execOp
      simp only [Instr.alloc, Sem.run_bind, hz, Result.andThen_ok, newVar, newRow, Sem.run_pure]
      rfl
    · have l5 : LL listed 5 = true := hp [0, 1, 2, 3, 4, 5, 7] (by simp) 5 (by simp)
      have l7 : LL listed 7 = true := hp [0, 1, 2, 3, 4, 5, 7] (by simp) 7 (by simp)
      have h23 : a.tmps[23]? = some V := by rw [hsl 23]; unfold regG; simp [l5]
      have h10 : a.tmps[10]? = some (.pointer (some ⟨g, 0, none⟩)) := by rw [hsl 10]; unfold regG; simp [l7]
      have hv := I.var l7
      rw [hn] at hv
      simp only [Bool.false_eq_true, if_false] at hv
      have hr := run_store_cells (P := P) (T := T) (n := 3) (w := w) (g := g) (off := 0) (v := V) hi rfl (by simpa using hvn) hv.2 (by omega) hone
      have hL := LL_set (listed := listed) (i := 8) (by omega)
      refine wpOp_skip (w' := w.setRow g (z.cells.toList.take 0 ++ V.cells.toList ++ z.cells.toList.drop (0 + 3)).toArray) o8 rfl ?_ ⟨b, g, ⟨by simp [hsz], I.defers, I.tsize, fun s => ?_, ?_, fun _ h8 => ?_, fun _ => ⟨hv.1, ?_⟩, fun _ j hj hj6 => ?_⟩⟩
      · unfold execOp
        simp only [eval_get h10, eval_get h23, Instr.storeAt, Instr.sureAddr, Sem.run_bind, Sem.run_pure, Result.andThen_ok, hr]
      · show a.tmps[s]? = _
        rw [hsl s]
        exact regG_store hL s
      · exact I.from0.trans ⟨rfl, rfl, rfl, by simp, fun k hk => setRow_other w g k _ (by have := hv.1; omega)⟩
      · rw [hL] at h8; simp at h8
      · rw [setRow_heap w g _ _ T _ hv.2, hL 8, if_pos rfl]
        have hlen : z.cells.toList.length ≤ 3 := by simp; omega
        simp [List.drop_of_length_le hlen]
      · have lj : LL listed j = true := hp [0, 1, 2, 3, 4, 5, 7] (by simp) j (by simp; omega)
        rw [hL, lj]
        simp
    · have l6 : LL listed 6 = true := hp [0, 1, 2, 3, 4, 5, 6, 7, 8] (by simp) 6 (by simp)
      have h24 : a.tmps[24]? = some (.bool ok) := by rw [hsl 24]; unfold regG; simp [l6]
      refine wpOp_value (v := .bool ok) (w' := w) o9 rfl ?_ ⟨b, g, hnx (by omega) (Below.refl _ _) (.inr (.inr (.inr (.inr (.inr (.inr (.inr (.inr ⟨rfl, rfl, rfl, rfl, rfl⟩)))))))) (fun h => by omega) (fun h => by omega)⟩
      simp [execOp, eval_get h24, h24, Result.andThen]
  · simp
  · refine ⟨by rw [hl]; rfl, rfl, rfl, fun s => ?_, ?_, ?_, ?_, ?_⟩
    · unfold regG LL
      simp [hl]
    · exact (Below.refl _ _).drew
    · intro h0; simp [LL, hl] at h0
    · intro h0; simp [LL, hl] at h0
    · intro h0; simp [LL, hl] at h0
end Go.Proofs.Ytccjddbcdmgefaa
