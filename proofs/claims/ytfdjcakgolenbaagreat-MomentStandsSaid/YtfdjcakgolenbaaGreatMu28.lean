/-
  The abstract run: what a loop leaves as it is; what the code's ways end in.
-/
import Derived.Test.YtfdjcakgolenbaaGreatMu27
set_option linter.unusedVariables false
set_option linter.unusedSimpArgs false
namespace Go.Proofs.YtfdjcakgolenbaaGreat
open Go.RowKit
inductive Wf (ef : List Nat) (sc : List (Nat × Sch)) (lt : List (Nat × Lat)) (N : Nat) : Bs → List Kt → Prop
 | nil (B) : Wf ef sc lt N B []
 | code (B c K) (hc : codeOk ef sc lt N c = true) (h : Wf ef sc lt N B K) : Wf ef sc lt N B (.code c :: K)
 | block (B id K) (h : Wf ef sc lt N B K) : Wf ef sc lt N B (.block id :: K)
 | back (Bo K' f K) (hT : ∀ d x, alook Bo.t d = some x → alook K'.t d = none) (hE : ∀ l e, alook Bo.e l = some e → alook K'.e l = none) (h : Wf ef sc lt N Bo K) : Wf ef sc lt N (join K' Bo) (.back Bo K' f :: K)
 | again (B b K) (hc : codeOk ef sc lt N b = true) (h : Wf ef sc lt N B K) : Wf ef sc lt N B (.again b :: K)
section
variable {w w' w0 : World} {ρ ρ' ρ2 : Nat → Option Rl} {base n : Nat} {ro ro' : Nat → Prop} {S0 : Pm} {N : Nat} {B : Bs} {S : Sx} {a : Act} {F : Fx} {P : Program}
theorem underL_of {p : Nat → Bool} : ∀ {l : List AV}, (∀ (j : Nat) x, l[j]? = some x → AV.under p x = true) → AV.underL p l = true
 | [], _ => rfl
 | x :: l, h => by
  unfold AV.underL
  rw [h 0 x rfl, underL_of fun j y hy => h (j + 1) y (by simpa using hy)]
  rfl
theorem AVR.under_of {x : AV} {v : Value} (h : AVR w ρ base ro x v) (hn : ∀ l, n ≤ l → ρ l = none) : AV.under (ltB n) x = true := by
 have hlt : ∀ l r, ρ l = some r → l < n := fun l r h => by
  rcases Nat.lt_or_ge l n with h1 | h1
  · exact h1
  · rw [hn l h1] at h; cases h
 have hl : ∀ {l : List AV} {vs : List Value}, l.length = vs.length → (∀ (j : Nat) x v, l[j]? = some x → vs[j]? = some v → AV.under (ltB n) x = true) → AV.underL (ltB n) l = true := by
  intro l vs hlen h
  refine underL_of fun j x hx => ?_
  have hj := (List.getElem?_eq_some_iff.1 hx).1
  exact h j x _ hx (List.getElem?_eq_getElem (by rw [← hlen]; exact hj))
 induction h with
 | un => rfl
 | int => rfl
 | lit => rfl
 | bool => rfl
 | blit => rfl
 | str => rfl
 | nil => rfl
 | sl => rfl
 | wide => rfl
 | pto cells off b o cs hr hlt2 hlen hc h ih => exact hl hlen ih
 | ptr l off b h => simpa [AV.under, ltB] using hlt _ _ h
 | mp l b h => simpa [AV.under, ltB] using hlt _ _ h
 | stamp l b h => simpa [AV.under, ltB] using hlt _ _ h
 | it l l2 b h => simpa [AV.under, ltB] using hlt _ _ h
 | own l A n' c h => simpa [AV.under, ltB] using hlt _ _ h
 | orp t l k off A n' c b h hA h0 hn' => simpa [AV.under, ltB] using hlt _ _ h
 | agg l vs hlen h ih => exact hl hlen ih
 | tup l vs hlen h ih => exact hl hlen ih
 | fn f caps vs hlen h ih => exact hl hlen ih
theorem maxK_le : ∀ (l : List Nat) (n : Nat), n ≤ maxK n l
 | [], n => Nat.le_refl _
 | k :: l, n => by
  unfold maxK
  split
  · exact maxK_le l n
  · have := maxK_le l (k + 1); omega
theorem keepT_get {md locs : List Nat} {n d : Nat} {x : AV} : ∀ {l : List (Nat × AV)}, alook (keepT md locs n l) d = some x → (∃ y, alook l d = some y ∧ (x = y ∨ x = .un)) ∧ AV.under (ltB n) x = true
 | (k, y) :: l, h => by
  unfold keepT at h
  split at h
  · rename_i hm
    obtain ⟨⟨z, h1, h2⟩, h3⟩ := keepT_get h
    refine ⟨?_, h3⟩
    rw [alook_cons]
    split
    · exact absurd h (by
       rename_i e
       subst e
       have : ∀ l : List (Nat × AV), alook (keepT md locs n l) k = none := by
        intro l
        induction l with
        | nil => rfl
        | cons p l ih =>
         obtain ⟨k', y'⟩ := p
         unfold keepT
         split
         · exact ih
         · rename_i hm'
           rw [alook_cons, if_neg (by rintro rfl; exact hm' hm)]
           exact ih
       rw [this l]
       simp)
    · exact ⟨z, h1, h2⟩
  · rw [alook_cons] at h
    rw [alook_cons]
    split at h
    · rename_i e
      rw [if_pos e]
      injection h with h
      subst h
      split
      · exact ⟨⟨y, rfl, .inr rfl⟩, rfl⟩
      · rename_i hc
        simp only [Bool.or_eq_true, not_or, Bool.not_eq_true, Bool.not_eq_false'] at hc
        exact ⟨⟨y, rfl, .inl rfl⟩, by simpa using hc.2⟩
    · rename_i e
      rw [if_neg e]
      exact keepT_get h
 | [], h => by cases h
theorem keepT_none {md locs : List Nat} {n d : Nat} {l : List (Nat × AV)} (h : alook l d = none) : alook (keepT md locs n l) d = none := by
 cases hk : alook (keepT md locs n l) d with
 | none => rfl
 | some x =>
  obtain ⟨⟨y, h1, _⟩, _⟩ := keepT_get hk
  rw [h] at h1
  cases h1
theorem keepC_get {locs : List Nat} {n : Nat} : ∀ {l : List AV} {j : Nat} {x : AV}, (keepC locs n l)[j]? = some x → ∃ y, l[j]? = some y ∧ (x = y ∨ x = .un) ∧ AV.under (ltB n) x = true
 | [], j, x, h => by simp [keepC] at h
 | y :: l, 0, x, h => by
  simp only [keepC, List.getElem?_cons_zero, Option.some.injEq] at h
  subst h
  refine ⟨y, rfl, ?_⟩
  split
  · exact ⟨.inr rfl, rfl⟩
  · rename_i hc
    simp only [Bool.or_eq_true, not_or, Bool.not_eq_true, Bool.not_eq_false'] at hc
    exact ⟨.inl rfl, by simpa using hc.2⟩
 | y :: l, j + 1, x, h => by
  obtain ⟨z, h1, h2⟩ := keepC_get (l := l) (j := j) (x := x) (by simpa [keepC] using h)
  exact ⟨z, by simpa using h1, h2⟩
theorem keepC_len {locs : List Nat} {n : Nat} : ∀ (l : List AV), (keepC locs n l).length = l.length
 | [] => rfl
 | x :: l => by simp [keepC, keepC_len l]
theorem alook_keepE {locs : List Nat} {n k : Nat} : ∀ (l : List (Nat × En)), alook (keepE locs n l) k = if memN k locs || decide (n ≤ k) then none else (alook l k).map (keepEn locs n)
 | [] => by simp [keepE, alook]
 | (k', e') :: l => by
  unfold keepE
  by_cases e : k' = k
  · subst e
    split
    · rename_i hc
      rw [alook_keepE l, if_pos hc]
    · rw [alook_cons, if_pos rfl, alook_cons, if_pos rfl]
      rfl
  · rw [alook_cons, if_neg e]
    split
    · exact alook_keepE l
    · rw [alook_cons, if_neg e]; exact alook_keepE l
structure Kept (n : Nat) (B2 : Bs) : Prop where
 t : ∀ d x, alook B2.t d = some x → AV.under (ltB n) x = true
 e : ∀ l e, alook B2.e l = some e → l < n ∧ En.under (ltB n) e = true
theorem kept_of (H : SimR w0 S0 N B S a w ρ ro) {md locs : List Nat} (hn : S.n ≤ n) (B2 : Bs) (hB2 : B2 = join ⟨keepT md locs n S.t, keepE locs n S.e⟩ B) :
 Kept n B2 ∧ (∀ d x, alook B2.t d = some x → ∃ u, a.tmps[d]? = some u ∧ AVR w ρ w0.heap.size ro x u) ∧ (∀ l e, alook B2.e l = some e → EnR w ρ w0.heap.size ro l e) ∧ (∀ d x, alook B.t d = some x → alook (keepT md locs n S.t) d = none) ∧ ∀ l e, alook B.e l = some e → alook (keepE locs n S.e) l = none := by
 subst hB2
 have hfr : ∀ l, n ≤ l → ρ l = none := fun l hl => H.fresh l (Nat.le_trans hn hl)
 have hT : ∀ d x, alook (join ⟨keepT md locs n S.t, keepE locs n S.e⟩ B).t d = some x → (∃ u, a.tmps[d]? = some u ∧ AVR w ρ w0.heap.size ro x u) ∧ AV.under (ltB n) x = true := by
  intro d x hx
  unfold join at hx
  dsimp only at hx
  rw [alook_append] at hx
  split at hx
  · rename_i y hy
    cases hx
    obtain ⟨⟨z, h1, h2⟩, h3⟩ := keepT_get hy
    obtain ⟨u, h4, h5⟩ := H.tm d z (by unfold lookT; rw [h1])
    refine ⟨⟨u, h4, ?_⟩, h3⟩
    rcases h2 with rfl | rfl
    · exact h5
    · exact .un _
  · obtain ⟨u, h4, h5⟩ := H.tm d x (by unfold lookT; rw [H.disT d x hx]; exact hx)
    exact ⟨⟨u, h4, h5⟩, h5.under_of hfr⟩
 have hE : ∀ l e, alook (join ⟨keepT md locs n S.t, keepE locs n S.e⟩ B).e l = some e → EnR w ρ w0.heap.size ro l e ∧ l < n ∧ En.under (ltB n) e = true := by
  have hml : ∀ ml r, ρ ml = some r → ml < n := fun ml r hr => by
   rcases Nat.lt_or_ge ml n with h | h
   · exact h
   · rw [hfr ml h] at hr; cases hr
  intro l e he
  have hlt : ∀ e, EnR w ρ w0.heap.size ro l e → l < n := fun e he => by
   obtain ⟨r, hr⟩ := he.none
   rcases Nat.lt_or_ge l n with h | h
   · exact h
   · rw [hfr l h] at hr; cases hr
  unfold join at he
  dsimp only at he
  rw [alook_append] at he
  split at he
  · rename_i y hy
    cases he
    rw [alook_keepE] at hy
    split at hy
    · cases hy
    · cases hl : alook S.e l with
      | none => rw [hl] at hy; cases hy
      | some z =>
       rw [hl] at hy
       simp only [Option.map_some, Option.some.injEq] at hy
       subst hy
       have h1 := H.en l z (by unfold lookE; rw [hl])
       cases z with
       | row fr t T m => exact ⟨h1, hlt _ h1, rfl⟩
       | map fr ag c t T m => exact ⟨h1, hlt _ h1, rfl⟩
       | dead => exact ⟨h1, hlt _ h1, rfl⟩
       | stamp ml c key => exact ⟨h1.none, hlt _ h1, rfl⟩
       | iter ml c seen left =>
        unfold keepEn
        dsimp only
        split
        · exact ⟨h1.none, hlt _ h1, rfl⟩
        · rename_i hc
          simp only [Bool.or_eq_true, not_or, decide_eq_true_eq] at hc
          exact ⟨h1, hlt _ h1, by simp only [En.under, ltB, decide_eq_true_eq]; omega⟩
       | box T cs =>
        obtain ⟨b, us, k1, k4, k5⟩ := h1
        refine ⟨⟨b, us, k1, k4, by rw [keepC_len]; exact k5.1, fun j x v hx hv => ?_⟩, hml _ _ k1, underL_of fun j x hx => (keepC_get hx).elim fun y q => q.2.2⟩
        obtain ⟨y, q1, q2, _⟩ := keepC_get hx
        rcases q2 with rfl | rfl
        · exact k5.2 j _ v q1 hv
        · exact .un _
  · have h1 := H.en l e (by unfold lookE; rw [H.disE l e he]; exact he)
    refine ⟨h1, hlt e h1, ?_⟩
    cases e with
    | box T cs =>
     obtain ⟨b, us, k1, k4, k5⟩ := h1
     refine underL_of fun j x hx => ?_
     obtain ⟨v, hv, hr⟩ := k5.get hx
     exact hr.under_of hfr
    | row fr t T m => rfl
    | map fr ag c t T m => rfl
    | dead => rfl
    | iter ml c seen left =>
     obtain ⟨b, b2, es, clock, since, stamps, c0, k1, k2, k3⟩ := h1
     simpa [En.under, ltB] using hml _ _ k2
    | stamp ml c key =>
     obtain ⟨b, es, clock, s, e, k1, k2, k3⟩ := h1
     simpa [En.under, ltB] using hml _ _ k2
 refine ⟨⟨fun d x hx => (hT d x hx).2, fun l e he => (hE l e he).2⟩, fun d x hx => (hT d x hx).1, fun l e he => (hE l e he).1, fun d x hx => keepT_none (H.disT d x hx), fun l e he => ?_⟩
 rw [alook_keepE, H.disE l e he]
 split <;> rfl
theorem leave_ok {K' : Bs} (hT : ∀ d x, alook B.t d = some x → alook K'.t d = none) (hE : ∀ l e, alook B.e l = some e → alook K'.e l = none) (H : Sim w0 S0 N (join K' B) S a w) : Sim w0 S0 N B (leave K' S) a w := by
 obtain ⟨ρ, ro, H⟩ := H
 have hlT : ∀ d, lookT B (leave K' S) d = lookT (join K' B) S d := by
  intro d
  unfold lookT leave join
  dsimp only
  rw [alook_append, alook_append]
  cases alook S.t d <;> cases alook K'.t d <;> rfl
 have hlE : ∀ d, lookE B (leave K' S) d = lookE (join K' B) S d := by
  intro d
  unfold lookE leave join
  dsimp only
  rw [alook_append, alook_append]
  cases alook S.e d <;> cases alook K'.e d <;> rfl
 refine ⟨ρ, ro, H.from_, H.size, H.defers, H.roB, fun d x hx => H.tm d x (by rw [← hlT]; exact hx), fun l e he => H.en l e (by rw [← hlE]; exact he), H.apart, H.fresh, H.own, H.roS, H.solid, fun d x hx => ?_, fun l e he => ?_⟩
 · unfold leave
   dsimp only
   have h1 : alook S.t d = none := H.disT d x (by unfold join; dsimp only; rw [alook_append, hT d x hx]; exact hx)
   rw [alook_append, h1]
   exact hT d x hx
 · unfold leave
   dsimp only
   have h1 : alook S.e l = none := H.disE l e (by unfold join; dsimp only; rw [alook_append, hE l e he]; exact he)
   rw [alook_append, h1]
   exact hE l e he
def KQ (F : Fx) (w0 : World) (S0 : Pm) (n : Nat) (B : Bs) (K : List Kt) : Exit → Act → World → Prop
 | .normal, a, w => ∃ f S, f ≤ n ∧ Sim w0 S0 F.N B S a w ∧ (cont F f B S K).P
 | .exit id, a, w => ∃ f S, f ≤ n ∧ Sim w0 S0 F.N B S a w ∧ (exitTo F f id B S K).P
 | .ret, a, w => ∃ f S, f ≤ n ∧ Sim w0 S0 F.N B S a w ∧ (leaveAll F f B S K).P
 | _, _, _ => False
theorem KQ.more {m : Nat} {K : List Kt} {e : Exit} (h : KQ F w0 S0 n B K e a w) (hm : n ≤ m) : KQ F w0 S0 m B K e a w := by
 cases e with
 | normal => obtain ⟨f, S, h1, h2⟩ := h; exact ⟨f, S, Nat.le_trans h1 hm, h2⟩
 | exit id => obtain ⟨f, S, h1, h2⟩ := h; exact ⟨f, S, Nat.le_trans h1 hm, h2⟩
 | ret => obtain ⟨f, S, h1, h2⟩ := h; exact ⟨f, S, Nat.le_trans h1 hm, h2⟩
 | goto l => exact h.elim
 | panic c => exact h.elim
 | outgrown => exact h.elim
theorem eqS_ok {ov : List (Nat × AV)} {oe : List (Nat × En)} (h : (eqS B S ov oe).P) : ∃ ta tb, eqTs B S ov = some ta ∧ eqEs none B S oe = some tb ∧ ∀ c ∈ ta ++ tb, c () := by
 unfold eqS at h
 split at h
 · rename_i ta tb h1 h2
   exact ⟨ta, tb, h1, h2, allVC_mem h⟩
 · exact h.elim
theorem SimR.bare (H : SimR w0 S0 N B S a w ρ ro) : SimR w0 S0 N B ⟨[], [], S.n⟩ a w ρ ro := by
 refine ⟨H.from_, H.size, H.defers, H.roB, fun d x h => H.tm d x ?_, fun l e h => H.en l e ?_, H.apart, H.fresh, H.own, H.roS, H.solid, fun _ _ _ => rfl, fun _ _ _ => rfl⟩
 · have h' : alook B.t d = some x := h
   unfold lookT
   rw [H.disT d x h']
   exact h'
 · have h' : alook B.e l = some e := h
   unfold lookE
   rw [H.disE l e h']
   exact h'
end
section
variable {α β : Type}
def Rds (s : Sem α) : Prop := ∀ P w u w', s.run P w = .ok u w' → w' = w
def Nok (s : Sem α) : Prop := ∀ P w u w', s.run P w ≠ .ok u w'
theorem Rds.pure (a : α) : Rds (Pure.pure a : Sem α) := fun P w u w' h => by
 rw [Sem.run_pure] at h
 injection h with h1 h2
 exact h2.symm
theorem Rds.bind {s : Sem α} {f : α → Sem β} (hs : Rds s) (hf : ∀ a, Rds (f a)) : Rds (s >>= f) := fun P w u w' h => by
 rw [Sem.run_bind] at h
 cases hr : s.run P w with
 | ok a w1 =>
  rw [hr] at h
  have := hs P w a w1 hr
  subst this
  exact hf a P _ u w' h
 | halt x w1 => rw [hr] at h; cases h
theorem Nok.rds {s : Sem α} (h : Nok s) : Rds s := fun P w u w' hr => absurd hr (h P w u w')
theorem Nok.bind {s : Sem α} {f : α → Sem β} (hf : ∀ a, Nok (f a)) : Nok (s >>= f) := fun P w u w' h => by
 rw [Sem.run_bind] at h
 cases hr : s.run P w with
 | ok a w1 => rw [hr] at h; exact hf a P _ u w' h
 | halt x w1 => rw [hr] at h; cases h
theorem Nok.halt (x : Halt) : Nok (.halt x : Sem α) := fun P w u w' h => by cases h
theorem nok_goPanic (v : Value) : Nok (goPanic v : Sem α) := Nok.halt _
theorem nok_stuck (s : String) : Nok (stuck s : Sem α) := Nok.halt _
theorem nok_uns (u : Unsupported) : Nok (unsupported u : Sem α) := Nok.halt _
theorem Rds.program : Rds program := fun P w u w' h => by
 have h2 : Result.ok P w = Result.ok u w' := h
 injection h2 with _ h3
 exact h3.symm
theorem nok_rt (e : RuntimeError) : Nok (runtimePanic e : Sem α) := by
 unfold runtimePanic
 refine Nok.bind fun p => ?_
 dsimp only
 cases e <;> first
  | exact nok_goPanic _
  | (refine Nok.bind fun r => ?_; first | exact nok_goPanic _ | (refine Nok.bind fun r => ?_; exact nok_goPanic _))
theorem nok_bounds (k : IntKind) (x y : Int) (c : BoundsCode) : Nok (boundsPanic k x y c : Sem α) := by
 unfold boundsPanic
 dsimp only
 split
 · exact Nok.bind fun _ => nok_rt _
 · exact Nok.bind fun _ => nok_rt _
theorem rds_info (t : TypeId) : Rds (typeInfo t) := by
 unfold typeInfo
 refine Rds.program.bind fun p => ?_
 split
 · exact Rds.pure _
 · exact (nok_stuck _).rds
theorem rds_under (t : TypeId) : Rds (underlying t) := by
 unfold underlying
 refine Rds.program.bind fun p => ?_
 split
 · exact Rds.pure _
 · exact (nok_stuck _).rds
theorem rds_size (t : TypeId) : Rds (sizeOf t) := by
 unfold sizeOf
 exact (rds_info t).bind fun _ => Rds.pure _
theorem rds_agg (t : TypeId) : Rds (isAgg t) := by
 unfold isAgg
 refine (rds_under t).bind fun d => ?_
 split <;> exact Rds.pure _
theorem rds_load (a : Addr) : Rds (load a) := fun P w u w' h => by
 unfold load at h
 simp only [Sem.run] at h
 split at h
 · injection h with _ h2; exact h2.symm
 · split at h
   · injection h with _ h2; exact h2.symm
   · cases h
theorem rds_cells (a : Addr) : ∀ (n i : Nat) (acc : Array Value), Rds (loadCellsFrom a i n acc)
 | 0, _, _ => Rds.pure _
 | n + 1, i, acc => (rds_load _).bind fun v => rds_cells a n (i + 1) _
theorem rds_var (t : TypeId) (a : Addr) : Rds (loadVar t a) := by
 unfold loadVar
 refine (rds_agg t).bind fun b => ?_
 split
 · refine (rds_size t).bind fun n => ?_
   exact (rds_cells a n 0 _).bind fun _ => Rds.pure _
 · exact rds_load a
theorem rds_addr (v : Value) : Rds (Instr.sureAddr v) := by
 unfold Instr.sureAddr
 split
 · exact Rds.pure _
 · exact (nok_stuck _).rds
theorem rds_loadAt (t : TypeId) (v : Value) : Rds (Instr.loadAt t v) := (rds_addr v).bind fun a => rds_var t a
theorem rds_shape (r : Nat) : Rds (shape r) := fun P w u w' h => by
 have h2 : Result.ok (w.shape? r) w = Result.ok u w' := h
 injection h2 with _ h3
 exact h3.symm
theorem rds_int (v : Value) : Rds (asIntOf v) := by
 unfold asIntOf
 split
 · exact Rds.pure _
 · exact (nok_uns _).rds
 · exact (nok_stuck _).rds
theorem rds_indexAt (t : TypeId) (x i : Value) : Rds (Instr.indexAt t x i) := by
 unfold Instr.indexAt
 refine (rds_int i).bind fun p => ?_
 obtain ⟨k, n⟩ := p
 dsimp only
 refine (rds_under t).bind fun d => ?_
 have hb : ∀ (len : Nat) (y : Int), Rds (boundsPanic k y len .index : Sem Value) := fun _ _ => (nok_bounds _ _ _ _).rds
 have hc : ∀ (a : Addr) (len elem : Nat) (q : Bool), Rds (if 0 ≤ n ∧ n < len then do pure (Value.pointer (some (a.add (n.toNat * (← sizeOf elem))))) else if q = true then unsupported (.noEntry "op/indexAddr.an index out of range at an array of length 0 or 1 (ledger 616)") else boundsPanic k n len .index : Sem Value) := by
  intro a len elem q
  split
  · exact (rds_size _).bind fun _ => Rds.pure _
  · split
    · exact (nok_uns _).rds
    · exact hb _ _
 split
 · refine (rds_addr _).bind fun _ => (Rds.pure _).bind fun q => (rds_under _).bind fun d => ?_
   obtain ⟨base, len, elem⟩ := q
   cases base with
   | none => exact hb 0 _
   | some a => exact hc a len elem _
 · refine (Rds.pure _).bind fun q => (rds_under _).bind fun d => ?_
   obtain ⟨base, len, elem⟩ := q
   cases base with
   | none => exact hb 0 _
   | some a => exact hc a len elem _
 · refine ((nok_stuck _).rds).bind fun q => (rds_under _).bind fun d => ?_
   obtain ⟨base, len, elem⟩ := q
   cases base with
   | none => exact hb 0 _
   | some a => exact hc a len elem _
theorem rds_unary (op : UnOp) (x : Value) : Rds (Op.unary op x) := by
 unfold Op.unary
 split
 · exact Rds.pure _
 · unfold Op.intBits
   exact Rds.pure _
 · exact Rds.pure _
 · exact Rds.pure _
 · exact Rds.pure _
 · exact (nok_uns _).rds
 · exact (nok_uns _).rds
 · exact (nok_stuck _).rds
theorem rds_extract (v : Value) (i : Nat) : Rds (Instr.extract v i) := by
 unfold Instr.extract
 split
 · split
   · exact Rds.pure _
   · exact (nok_stuck _).rds
 · exact (nok_stuck _).rds
theorem rds_obj (r : Nat) : Rds (getObj r) := fun P w u w' h => by
 unfold getObj at h
 simp only [Sem.run] at h
 split at h
 · cases h
 · injection h with _ h2; exact h2.symm
 · cases h
theorem rds_noView (a : Addr) : Rds (noView a) := by
 unfold noView
 refine Rds.bind ?_ fun v => ?_
 · unfold viewAt
   refine (rds_shape _).bind fun q => ?_
   split
   · exact Rds.pure _
   · refine (rds_obj _).bind fun o => ?_
     split <;> exact Rds.pure _
 · split
   · exact (nok_uns _).rds
   · exact Rds.pure _
theorem rds_byteOf (a : Addr) : Rds (byteOf a) := by
 unfold byteOf
 have ht : ∀ (p : Program), Rds (do
  noView a
  let some (e, _) ← shape a.block | stuck "byteOf: no such block"
  let s := p.cellsOf e
  if s = 0 then return 0
  let some b := byteOfCell p p.depth e (a.off % s) | stuck "byteOf: no such cell"
  pure (a.off / s * p.bytesOf e + b)) := fun p => by
  refine (rds_noView a).bind fun _ => (rds_shape _).bind fun q => ?_
  split
  · dsimp only
    split
    · exact Rds.pure _
    · split
      · exact Rds.pure _
      · exact (nok_stuck _).rds
  · exact (nok_stuck _).rds
 split
 · exact Rds.pure _
 · exact Rds.program.bind ht
theorem rds_place (a : Addr) (f : Field) : Rds (fieldPlace a f) := by
 unfold fieldPlace partAt
 refine (rds_size _).bind fun n => ?_
 split
 · exact (rds_byteOf _).bind fun _ => (rds_byteOf _).bind fun _ => Rds.pure _
 · exact Rds.pure _
theorem rds_fieldAt (t : TypeId) (x : Value) (i : Nat) : Rds (Instr.fieldAt t x i) := by
 unfold Instr.fieldAt
 refine (rds_under t).bind fun d => ?_
 split
 · split
   · exact (rds_addr _).bind fun a => (rds_place _ _).bind fun _ => Rds.pure _
   · exact (nok_stuck _).rds
 · exact (nok_stuck _).rds
theorem still_ok {o : Oper} (h : isStill o.op = true) (r : Operand → Value) {P : Program} {w w' : World} {n : Next} (hr : (execOp r o).run P w = .ok n w') : w' = w ∧ ∃ v, n = .value v := by
 have hv : ∀ {s : Sem Value}, Rds s → (Sem.run P (do pure (Next.value (← s))) w = .ok n w') → w' = w ∧ ∃ v, n = .value v := by
  intro s hs h
  rw [Sem.run_bind] at h
  cases hr : s.run P w with
  | ok a w1 =>
   rw [hr] at h
   have h1 := hs P w a w1 hr
   subst h1
   have h2 : Result.ok (Next.value a) w1 = Result.ok n w' := h
   injection h2 with h3 h4
   exact ⟨h4.symm, a, h3.symm⟩
  | halt x w1 => rw [hr] at h; cases h
 unfold execOp at hr
 cases hop : o.op <;> rw [hop] at h hr <;> simp only [isStill, Bool.false_eq_true] at h
 · rw [Sem.run_pure] at hr; injection hr with h1 h2; exact ⟨h2.symm, _, h1.symm⟩
 · rw [Sem.run_pure] at hr; injection hr with h1 h2; exact ⟨h2.symm, _, h1.symm⟩
 · exact hv (rds_loadAt _ _) hr
 · exact hv (rds_unary _ _) hr
 · exact hv (rds_fieldAt _ _ _) hr
 · exact hv (rds_indexAt _ _ _) hr
 · exact hv (rds_extract _ _) hr
end
section
variable {P : Program} {ops : Array Oper} {Q : Exit → Act → World → Prop} {md : Region.Mode}
def YieldsAt (P : Program) (ops : Array Oper) (o : Oper) (v : Value) (a : Act) (w : World) : Prop :=
 (Region.wanted o (yielded ops a.tmps) = true ∧ (execOp a.eval o).run P w = .ok (.value v) w) ∨ (Region.wanted o (yielded ops a.tmps) = false ∧ v = undef)
theorem YieldsAt.wpOp {i : Nat} {o : Oper} {v : Value} {a : Act} {w : World} (hi : ops[i]? = some o) (hy : YieldsAt P ops o v a w) {K : Act → World → Prop} (h : K (a.put o.dst v) w) : wpOp P ops Q i K a w := by
 unfold Go.wpOp
 simp only [hi]
 rcases hy with ⟨hw, hv⟩ | ⟨hw, rfl⟩
 · simp only [hw, if_true, Oper.wp, hv, Oper.upon]; exact .inl h
 · simp only [hw, Bool.false_eq_true, if_false]; exact h
theorem YieldsAt.of_same {o : Oper} {v : Value} {a a' : Act} {w : World} (hy : YieldsAt P ops o v a w) (he : execOp a'.eval o = execOp a.eval o) (hw : Region.wanted o (yielded ops a'.tmps) = Region.wanted o (yielded ops a.tmps)) : YieldsAt P ops o v a' w := by
 unfold YieldsAt at *
 rw [he, hw]
 exact hy
theorem wpOp_still {j : Nat} {oi oj : Oper} {v : Value} (hj : ops[j]? = some oj) (hst : isStill oj.op = true) (hap : oi.apart ops oj = true)
 (hsi : ∀ cs b, oi.op ≠ .select cs b) (hsj : ∀ cs b, oj.op ≠ .select cs b) (hQ : ∀ c a w, ¬ Q (.panic c) a w) {K : Act → World → Prop} {a : Act} {w : World}
 (hy : YieldsAt P ops oi v a w) (h : wpOp P ops Q j K (a.put oi.dst v) w) :
 wpOp P ops Q j (fun a' w' => YieldsAt P ops oi v a' w' ∧ K (a'.put oi.dst v) w') a w := by
 obtain ⟨h1, h2, h3⟩ := Oper.apart_spec hap
 have keep : ∀ (a : Act), YieldsAt P ops oi v a w → ∀ u, YieldsAt P ops oi v (a.put oj.dst u) w := fun a hy u =>
  hy.of_same (execOp_put oi hsi a oj.dst u h3) (wanted_put oi a oj.dst u h3)
 unfold wpOp at *
 simp only [hj] at *
 rw [wanted_put oj a oi.dst v h1] at h
 split
 · rename_i hw
   simp only [hw, if_true] at h
   rcases h with h | ⟨hasks, hlets⟩
   case inr => exact .inr ⟨by unfold Oper.asks at *; rw [execOp_put oj hsj a oi.dst v h1] at hasks; exact hasks, hlets⟩
   refine .inl ?_
   unfold Oper.wp at *
   rw [execOp_put oj hsj a oi.dst v h1] at h
   cases hr : (execOp a.eval oj).run P w with
   | ok n w' =>
    obtain ⟨rfl, u, rfl⟩ := still_ok hst _ hr
    rw [hr] at h
    simp only [Oper.upon] at h ⊢
    exact ⟨keep a hy u, by rw [← Act.put_comm a v u h2]; exact h⟩
   | halt x w' =>
    rw [hr] at h
    cases x <;> simp only [Oper.upon] at h ⊢
    case panic u => exact (hQ _ _ _ h).elim
 · rename_i hw
   simp only [hw] at h
   exact ⟨keep a hy _, by rw [← Act.put_comm a v undef h2]; exact h⟩
theorem wpOp_gives {i : Nat} {oi : Oper} {K : Act → World → Prop} {a : Act} {w : World} (hi : ops[i]? = some oi) (hst : isStill oi.op = true) (hQ : ∀ c a w, ¬ Q (.panic c) a w) (hO : ¬ LetsOut Q) (h : wpOp P ops Q i K a w) : ∃ v, YieldsAt P ops oi v a w ∧ K (a.put oi.dst v) w := by
 unfold wpOp at h
 simp only [hi] at h
 split at h
 · rename_i hw
   rcases h with h | ⟨_, h⟩
   · unfold Oper.wp at h
     cases hr : (execOp a.eval oi).run P w with
     | ok n w' =>
      obtain ⟨rfl, u, rfl⟩ := still_ok hst _ hr
      rw [hr] at h
      exact ⟨u, .inl ⟨hw, hr⟩, h⟩
     | halt x w' =>
      rw [hr] at h
      cases x <;> simp only [Oper.upon] at h
      case panic u => exact (hQ _ _ _ h).elim
   · exact absurd h hO
 · rename_i hw
   exact ⟨undef, .inr ⟨by simpa using hw, rfl⟩, h⟩
theorem wpAny_still {i : Nat} {oi : Oper} {v : Value} (hi : ops[i]? = some oi) (hsel : ∀ (j : Nat) (o : Oper) cs b, ops[j]? = some o → o.op ≠ .select cs b) (hQ : ∀ c a w, ¬ Q (.panic c) a w) :
 ∀ (fuel : Nat) (listed : Array Bool) (a : Act) (w : World), Closed md ops listed →
  (∀ (j : Nat) oj, ops[j]? = some oj → j ≠ i → listed.getD j true = false → waits md ops ops.size j i = false → oi.apart ops oj = true ∧ isStill oj.op = true) →
  i ∈ Region.ready md ops listed → YieldsAt P ops oi v a w →
  wpAny P md ops Q fuel (listed.setIfInBounds i true) (a.put oi.dst v) w → wpAny P md ops Q (fuel + 1) listed a w := by
 intro fuel
 induction fuel with
 | zero =>
  intro listed a w _ _ hr hy H
  refine ⟨fun h => (by rw [h] at hr; cases hr), fun j hj => ?_⟩
  by_cases hji : j = i
  · subst hji; exact hy.wpOp hi H
  · have := ready_mono hj hji
    rw [H.1] at this
    cases this
 | succ fuel ih =>
  intro listed a w hcl hfree hr hy H
  refine ⟨fun h => (by rw [h] at hr; cases hr), fun j hj => ?_⟩
  by_cases hji : j = i
  · subst hji; exact hy.wpOp hi H
  · have h1 := H.2 j (ready_mono hj hji)
    obtain ⟨hjun, oj, hoj, hall⟩ := mem_ready.1 hj
    have hnw : waits md ops ops.size j i = false := by
     cases hww : waits md ops ops.size j i with
     | false => rfl
     | true =>
      have h1 := waits_listed hcl _ j i oj hoj hall hww
      have h0 := (mem_ready.1 hr).1
      rcases Nat.lt_or_ge i listed.size with h' | h'
      · simp [h'] at h0 h1; rw [h0] at h1; cases h1
      · simp [Array.getElem?_eq_none h'] at h1
    obtain ⟨hap, hst⟩ := hfree j oj hoj hji hjun hnw
    have h2 := wpOp_still hoj hst hap (fun cs b => hsel i oi cs b hi) (fun cs b => hsel j oj cs b hoj) hQ hy h1
    refine wpOp_mono (fun a' w' h3 => ?_) h2
    refine ih (listed.setIfInBounds j true) a' w' (hcl.set_ hj) (fun k ok hk hki hun hno => ?_) (ready_mono hr (Ne.symm hji)) h3.1 ?_
    · refine hfree k ok hk hki ?_ hno
      by_cases hjk : j = k
      · subst hjk; exact hjun
      · rw [getD_set_ne true hjk] at hun; exact hun
    · rw [Array.setIfInBounds_comm _ _ hji]
      exact h3.2
end
end Go.Proofs.YtfdjcakgolenbaaGreat
