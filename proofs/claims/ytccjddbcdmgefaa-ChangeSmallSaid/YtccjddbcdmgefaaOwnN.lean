/-
  Slices of slices that the call builds by append, beside others: which blocks they lie in.
-/
import Derived.Test.YtccjddbcdmgefaaSpec
import Derived.Test.YtccjddbcdmgefaaPlan
namespace Go.Proofs.Ytccjddbcdmgefaa
open Go.RowKit

theorem ownBlock_slice (A : Option Addr) (n c : Nat) : (Value.slice A n c).ownBlock = A.map (·.block) := by cases A <;> rfl

/-- append, with what is known of where its result lies -/
theorem wpList_append_o {P : Program} {w : World} {ops : Array Oper} {rest : List Oper} {o : Oper} {a : Act} {Q : Exit → Act → World → Prop} {t e size bytes base c m cn : Nat} {A : Option Addr} {ad : Addr} {css news : List (List Value)} (hgd : o.guard = none) (s x : Operand)
    (ho : o.op = .call { callee := .builtin .append, args := #[s, x], argTypes := #[t, t] })
    (hE : EI P t e size bytes) (n : Nat) (hn : n = css.length) (hs : a.eval s = .slice A n c) (hown : OwnS w base e size A c css) (hx : a.eval x = .slice (some ad) m cn) (B : Nat) (hr : Rd w B size (some ad) news) (hm : m = news.length)
    (h1 : ∀ cs ∈ news, ∀ u ∈ cs, u.oneCell' = true) (h63 : css.length + m ≤ maxLen) (hbytes : (css.length + m) * bytes ≤ 140737488355328) (hbase : base ≤ w.heap.size)
    (h : ∀ A' c' w', OwnS w' base e size A' c' (css ++ news) → w.grownBy w' (A.map (·.block)) → Below base w w' → (A'.map (·.block) = A.map (·.block) ∨ A'.map (·.block) = some w.heap.size) → wpList P ops Q rest (a.put o.dst (.slice A' (n + m) c')) w') : wpList P ops Q (o :: rest) a w := by
  subst hn
  subst hm
  obtain ⟨ht, i, z, hi, hz, hs', hb, hzs, h0⟩ := hE
  have hlen : ∀ cs ∈ css ++ news, cs.length = size := fun cs hc => by
    rcases List.mem_append.1 hc with h | h
    · exact hown.2 cs h
    · exact hr.len cs h
  obtain ⟨v', w', hrun, h2, h3, _, h5⟩ := run_append_own_at (P := P) w base t o.type e i z size bytes ht hi hz hs' hb hzs h0 (.slice A css.length c) css.length css.flatten hown.1 ad news.length cn news.flatten (flat_len news hr.len)
    (fun j u hu => by obtain ⟨ad', h, hc⟩ := hr.flat j u hu; injection h with h; rw [h]; exact hc)
    (fun u hu => by obtain ⟨cs, hcs, hu'⟩ := List.mem_flatten.1 hu; exact h1 cs hcs u hu') h63 hbytes hbase
  obtain ⟨A', c', rfl, h4⟩ := OwnS.of (css := css ++ news) (by rw [List.flatten_append]; exact h2) (by simp) hlen
  rw [ownBlock_slice, ownBlock_slice] at h5
  rw [ownBlock_slice] at h3
  refine wpList_plain hgd fun K hK => ?_
  unfold Oper.wp execOp
  simp only [ho, resolve, invoke, builtin, Sem.run_bind, Sem.run_pure, Result.andThen_ok, List.map_toArray, List.map_cons, List.map_nil, hs, hx, hrun]
  have := h A' c' w' h4 h3 ((Below.refl _ _).grown h3 hbase (fun k hk => by
    cases A with
    | none => cases hk
    | some q => injection hk with hk; subst hk; exact (hown.lt rfl).1)) h5
  rw [List.length_append]
  exact hK _ _ this

/-- the call owns a slice of slices: its blocks are in F -/
def OwnN (w : World) (base : Nat) (F : Nat → Prop) (E isz : Nat) (A : Option Addr) (c : Nat) (xs : List (Nat × Nat × List (List Value))) : Prop :=
  ∃ css : List (List Value), OwnS w base E 1 A c css ∧ css.length = xs.length ∧ (∀ b, F b → b < w.heap.size) ∧ (∀ q, A = some q → F q.block) ∧
    ∀ (k : Nat) (x : Nat × Nat × List (List Value)), xs[k]? = some x → ∃ gi ci, css[k]? = some [Value.slice (some ⟨gi, 0, none⟩) x.1 ci] ∧ F gi ∧ (∀ q, A = some q → q.block ≠ gi) ∧ x.2.1 ≤ ci ∧ Rd w w.heap.size isz (some ⟨gi, 0, none⟩) x.2.2

section
variable {w w' : World} {base : Nat} {F : Nat → Prop} {E isz c : Nat} {A : Option Addr} {xs : List (Nat × Nat × List (List Value))}

theorem Rd.keep {gi B : Nat} {css : List (List Value)} (h : Rd w B isz (some ⟨gi, 0, none⟩) css) (hg : w'.heap[gi]? = w.heap[gi]?) {B' : Nat} (hB : B ≤ B') : Rd w' B' isz (some ⟨gi, 0, none⟩) css := by
  intro k cs hk
  obtain ⟨b, off, e, hlt, hl, hc⟩ := h k cs hk
  have e2 : b = gi := by injection e with e; injection e with e1 e2; exact e1.symm
  subst e2
  refine ⟨b, off, e, by omega, hl, fun j u hu => ?_⟩
  rw [← hc j u hu]
  exact World.cell?_of_block hg

theorem OwnN.nil (w : World) (base : Nat) (E isz : Nat) : OwnN w base (fun _ => False) E isz none 0 [] := by
  refine ⟨[], OwnS.nil _ _ _ _, rfl, fun _ h => h.elim, fun q h => ?_, fun k x h => ?_⟩
  · cases h
  · simp at h

theorem OwnN.keep (h : OwnN w base F E isz A c xs) (hF : ∀ b, F b → w'.heap[b]? = w.heap[b]?) (hs : w.heap.size ≤ w'.heap.size) : OwnN w' base F E isz A c xs := by
  obtain ⟨css, ho, hl, hlt, hA, hx⟩ := h
  refine ⟨css, ho.keep fun a ha => hF _ (hA a ha), hl, fun b hb => Nat.lt_of_lt_of_le (hlt b hb) hs, hA, fun k x hk => ?_⟩
  obtain ⟨gi, ci, h1, h2, h3, h4, h5⟩ := hx k x hk
  exact ⟨gi, ci, h1, h2, h3, h4, h5.keep (hF gi h2) hs⟩

theorem OwnN.rd (h : OwnN w base F E isz A c xs) : RdNN w w.heap.size isz A xs := by
  obtain ⟨css, ho, hl, hlt, hA, hx⟩ := h
  intro k x hk
  obtain ⟨gi, ci, hc, _, _, hci, hr⟩ := hx k x hk
  obtain ⟨b, off, e, hltb, _, hcell⟩ := ho.rd k _ hc
  have h0 := hcell 0 _ rfl
  simp only [Nat.mul_one, Nat.add_zero] at h0
  exact ⟨b, off, _, ci, e, hltb, h0, hci, hr⟩

/-- what an append of one more does -/
theorem OwnN.out (h : OwnN w base F E isz A c xs) : ∃ css : List (List Value), OwnS w base E 1 A c css ∧ css.length = xs.length ∧
    ∀ (A' : Option Addr) (c' : Nat) (w' : World) (gi ci : Nat) (x : Nat × Nat × List (List Value)), OwnS w' base E 1 A' c' (css ++ [[Value.slice (some ⟨gi, 0, none⟩) x.1 ci]]) → w.grownBy w' (A.map (·.block)) → (A'.map (·.block) = A.map (·.block) ∨ A'.map (·.block) = some w.heap.size) →
      ¬ F gi → gi < w.heap.size → x.2.1 ≤ ci → Rd w w.heap.size isz (some ⟨gi, 0, none⟩) x.2.2 → OwnN w' base (fun b => F b ∨ b = gi ∨ A'.map (·.block) = some b) E isz A' c' (xs ++ [x]) := by
  obtain ⟨css, ho, hl, hlt, hA, hx⟩ := h
  refine ⟨css, ho, hl, fun A' c' w' gi ci x ho' hg hA' hF hgi hci hr => ?_⟩
  have hsz := hg.size
  have hAb : ∀ b, A.map (·.block) = some b → F b := fun b hb => by
    cases A with
    | none => cases hb
    | some q => injection hb with hb; subst hb; exact hA q rfl
  have hAb' : ∀ q, A' = some q → F q.block ∧ A.map (·.block) = some q.block ∨ q.block = w.heap.size := fun q hq => by
    subst hq
    rcases hA' with h1 | h1
    · exact .inl ⟨hAb _ h1.symm, h1.symm⟩
    · injection h1 with h1
      exact .inr h1
  refine ⟨_, ho', by simp [hl], fun b hb => ?_, fun q hq => .inr (.inr (by rw [hq]; rfl)), fun k y hk => ?_⟩
  · rcases hb with h1 | h1 | h1
    · exact Nat.lt_of_lt_of_le (hlt b h1) hsz
    · omega
    · cases A' with
      | none => cases h1
      | some q =>
        injection h1 with h1
        subst h1
        exact (ho'.lt rfl).2
  · rcases Nat.lt_or_ge k xs.length with hlt' | hge
    · rw [List.getElem?_append_left hlt'] at hk
      obtain ⟨gj, cj, h1, h2, h3, h4, h5⟩ := hx k y hk
      refine ⟨gj, cj, by rw [List.getElem?_append_left (by omega)]; exact h1, .inl h2, fun q hq => ?_, h4, h5.keep (hg.block gj (hlt gj h2) (fun e => ?_)) hsz⟩
      · rcases hAb' q hq with ⟨_, h6⟩ | h6
        · cases A with
          | none => cases h6
          | some r =>
            injection h6 with h6
            rw [← h6]
            exact h3 r rfl
        · have := hlt gj h2
          omega
      · cases A with
        | none => cases e
        | some r =>
          injection e with e
          exact h3 r rfl e.symm
    · rw [List.getElem?_append_right hge] at hk
      have hk0 : k = xs.length := by
        have := (List.getElem?_eq_some_iff.1 hk).1
        simp at this
        omega
      subst hk0
      simp at hk
      subst hk
      refine ⟨gi, ci, by rw [List.getElem?_append_right (by omega)]; simp [hl], .inr (.inl rfl), fun q hq => ?_, hci, hr.keep (hg.block gi hgi (fun e => hF (hAb gi e.symm))) hsz⟩
      rcases hAb' q hq with ⟨h6, _⟩ | h6
      · exact fun e => hF (e ▸ h6)
      · omega
end
end Go.Proofs.Ytccjddbcdmgefaa
