/-
  The abstract run is sound: what is shown of plain data makes a function's contract.
-/
import Derived.Test.YtmbfcdnnlpcgfaaGreatMv27
set_option linter.unusedVariables false
set_option linter.unusedSimpArgs false
namespace Go.Proofs.YtmbfcdnnlpcgfaaGreat
open Go.RowKit
inductive Wf (ef : List Nat) (sc : List (Nat × Sch)) (N : Nat) : Bs → List Kt → Prop
 | nil (B) : Wf ef sc N B []
 | code (B c K) (hc : codeOk ef sc N c = true) (h : Wf ef sc N B K) : Wf ef sc N B (.code c :: K)
 | block (B id K) (h : Wf ef sc N B K) : Wf ef sc N B (.block id :: K)
 | back (Bo K' f K) (hT : ∀ d x, alook Bo.t d = some x → alook K'.t d = none) (hE : ∀ l e, alook Bo.e l = some e → alook K'.e l = none) (h : Wf ef sc N Bo K) : Wf ef sc N (join K' Bo) (.back Bo K' f :: K)
 | again (B b K) (hc : codeOk ef sc N b = true) (h : Wf ef sc N B K) : Wf ef sc N B (.again b :: K)
section
variable {w w' w0 : World} {ρ ρ' ρ2 : Nat → Option Rl} {base n : Nat} {ro ro' : Nat → Prop} {S0 : Pm} {N : Nat} {B : Bs} {S : Sx} {a : Act} {F : Fx} {P : Program}
theorem underL_of {p : Nat → Bool} : ∀ {l : List AV}, (∀ (j : Nat) x, l[j]? = some x → AV.under p x = true) → AV.underL p l = true
 | [], _ => rfl
 | x :: l, h => by
  unfold AV.underL
  rw [h 0 x rfl, underL_of fun j y hy => h (j + 1) y (by simpa using hy)]
  rfl
theorem AVR.under_of {x : AV} {v : Value} (h : AVR w ρ base ro x v) (hn : ∀ l, n ≤ l → ρ l = none) : AV.under (ltB n) x = true := by
 have hlt : ∀ l r, ρ l = some r → l < n := fun l r h => by
  rcases Nat.lt_or_ge l n with h1 | h1
  · exact h1
  · rw [hn l h1] at h; cases h
 have hl : ∀ {l : List AV} {vs : List Value}, l.length = vs.length → (∀ (j : Nat) x v, l[j]? = some x → vs[j]? = some v → AV.under (ltB n) x = true) → AV.underL (ltB n) l = true := by
  intro l vs hlen h
  refine underL_of fun j x hx => ?_
  have hj := (List.getElem?_eq_some_iff.1 hx).1
  exact h j x _ hx (List.getElem?_eq_getElem (by rw [← hlen]; exact hj))
 induction h with
 | un => rfl
 | int => rfl
 | lit => rfl
 | bool => rfl
 | blit => rfl
 | str => rfl
 | nil => rfl
 | sl => rfl
 | wide => rfl
 | pto cells off b o cs hr hlt2 hlen hc h ih => exact hl hlen ih
 | ptr l off b h => simpa [AV.under, ltB] using hlt _ _ h
 | mp l b h => simpa [AV.under, ltB] using hlt _ _ h
 | stamp l b h => simpa [AV.under, ltB] using hlt _ _ h
 | it l l2 b h => simpa [AV.under, ltB] using hlt _ _ h
 | own l A n' c h => simpa [AV.under, ltB] using hlt _ _ h
 | orp t l k off A n' c b h hA h0 hn' => simpa [AV.under, ltB] using hlt _ _ h
 | agg l vs hlen h ih => exact hl hlen ih
 | tup l vs hlen h ih => exact hl hlen ih
 | fn f caps vs hlen h ih => exact hl hlen ih
theorem maxK_le : ∀ (l : List Nat) (n : Nat), n ≤ maxK n l
 | [], n => Nat.le_refl _
 | k :: l, n => by
  unfold maxK
  split
  · exact maxK_le l n
  · have := maxK_le l (k + 1); omega
theorem keepT_get {md locs : List Nat} {n d : Nat} {x : AV} : ∀ {l : List (Nat × AV)}, alook (keepT md locs n l) d = some x → (∃ y, alook l d = some y ∧ (x = y ∨ x = .un)) ∧ AV.under (ltB n) x = true
 | (k, y) :: l, h => by
  unfold keepT at h
  split at h
  · rename_i hm
    obtain ⟨⟨z, h1, h2⟩, h3⟩ := keepT_get h
    refine ⟨?_, h3⟩
    rw [alook_cons]
    split
    · exact absurd h (by
       rename_i e
       subst e
       have : ∀ l : List (Nat × AV), alook (keepT md locs n l) k = none := by
        intro l
        induction l with
        | nil => rfl
        | cons p l ih =>
         obtain ⟨k', y'⟩ := p
         unfold keepT
         split
         · exact ih
         · rename_i hm'
           rw [alook_cons, if_neg (by rintro rfl; exact hm' hm)]
           exact ih
       rw [this l]
       simp)
    · exact ⟨z, h1, h2⟩
  · rw [alook_cons] at h
    rw [alook_cons]
    split at h
    · rename_i e
      rw [if_pos e]
      injection h with h
      subst h
      split
      · exact ⟨⟨y, rfl, .inr rfl⟩, rfl⟩
      · rename_i hc
        simp only [Bool.or_eq_true, not_or, Bool.not_eq_true, Bool.not_eq_false'] at hc
        exact ⟨⟨y, rfl, .inl rfl⟩, by simpa using hc.2⟩
    · rename_i e
      rw [if_neg e]
      exact keepT_get h
 | [], h => by cases h
theorem keepT_none {md locs : List Nat} {n d : Nat} {l : List (Nat × AV)} (h : alook l d = none) : alook (keepT md locs n l) d = none := by
 cases hk : alook (keepT md locs n l) d with
 | none => rfl
 | some x =>
  obtain ⟨⟨y, h1, _⟩, _⟩ := keepT_get hk
  rw [h] at h1
  cases h1
theorem keepC_get {locs : List Nat} {n : Nat} : ∀ {l : List AV} {j : Nat} {x : AV}, (keepC locs n l)[j]? = some x → ∃ y, l[j]? = some y ∧ (x = y ∨ x = .un) ∧ AV.under (ltB n) x = true
 | [], j, x, h => by simp [keepC] at h
 | y :: l, 0, x, h => by
  simp only [keepC, List.getElem?_cons_zero, Option.some.injEq] at h
  subst h
  refine ⟨y, rfl, ?_⟩
  split
  · exact ⟨.inr rfl, rfl⟩
  · rename_i hc
    simp only [Bool.or_eq_true, not_or, Bool.not_eq_true, Bool.not_eq_false'] at hc
    exact ⟨.inl rfl, by simpa using hc.2⟩
 | y :: l, j + 1, x, h => by
  obtain ⟨z, h1, h2⟩ := keepC_get (l := l) (j := j) (x := x) (by simpa [keepC] using h)
  exact ⟨z, by simpa using h1, h2⟩
theorem keepC_len {locs : List Nat} {n : Nat} : ∀ (l : List AV), (keepC locs n l).length = l.length
 | [] => rfl
 | x :: l => by simp [keepC, keepC_len l]
theorem alook_keepE {locs : List Nat} {n k : Nat} : ∀ (l : List (Nat × En)), alook (keepE locs n l) k = if memN k locs || decide (n ≤ k) then none else (alook l k).map (keepEn locs n)
 | [] => by simp [keepE, alook]
 | (k', e') :: l => by
  unfold keepE
  by_cases e : k' = k
  · subst e
    split
    · rename_i hc
      rw [alook_keepE l, if_pos hc]
    · rw [alook_cons, if_pos rfl, alook_cons, if_pos rfl]
      rfl
  · rw [alook_cons, if_neg e]
    split
    · exact alook_keepE l
    · rw [alook_cons, if_neg e]; exact alook_keepE l
structure Kept (n : Nat) (B2 : Bs) : Prop where
 t : ∀ d x, alook B2.t d = some x → AV.under (ltB n) x = true
 e : ∀ l e, alook B2.e l = some e → l < n ∧ En.under (ltB n) e = true
theorem kept_of (H : SimR w0 S0 N B S a w ρ ro) {md locs : List Nat} (hn : S.n ≤ n) (B2 : Bs) (hB2 : B2 = join ⟨keepT md locs n S.t, keepE locs n S.e⟩ B) :
 Kept n B2 ∧ (∀ d x, alook B2.t d = some x → ∃ u, a.tmps[d]? = some u ∧ AVR w ρ w0.heap.size ro x u) ∧ (∀ l e, alook B2.e l = some e → EnR w ρ w0.heap.size ro l e) ∧ (∀ d x, alook B.t d = some x → alook (keepT md locs n S.t) d = none) ∧ ∀ l e, alook B.e l = some e → alook (keepE locs n S.e) l = none := by
 subst hB2
 have hfr : ∀ l, n ≤ l → ρ l = none := fun l hl => H.fresh l (Nat.le_trans hn hl)
 have hT : ∀ d x, alook (join ⟨keepT md locs n S.t, keepE locs n S.e⟩ B).t d = some x → (∃ u, a.tmps[d]? = some u ∧ AVR w ρ w0.heap.size ro x u) ∧ AV.under (ltB n) x = true := by
  intro d x hx
  unfold join at hx
  dsimp only at hx
  rw [alook_append] at hx
  split at hx
  · rename_i y hy
    cases hx
    obtain ⟨⟨z, h1, h2⟩, h3⟩ := keepT_get hy
    obtain ⟨u, h4, h5⟩ := H.tm d z (by unfold lookT; rw [h1])
    refine ⟨⟨u, h4, ?_⟩, h3⟩
    rcases h2 with rfl | rfl
    · exact h5
    · exact .un _
  · obtain ⟨u, h4, h5⟩ := H.tm d x (by unfold lookT; rw [H.disT d x hx]; exact hx)
    exact ⟨⟨u, h4, h5⟩, h5.under_of hfr⟩
 have hE : ∀ l e, alook (join ⟨keepT md locs n S.t, keepE locs n S.e⟩ B).e l = some e → EnR w ρ w0.heap.size ro l e ∧ l < n ∧ En.under (ltB n) e = true := by
  have hml : ∀ ml r, ρ ml = some r → ml < n := fun ml r hr => by
   rcases Nat.lt_or_ge ml n with h | h
   · exact h
   · rw [hfr ml h] at hr; cases hr
  intro l e he
  have hlt : ∀ e, EnR w ρ w0.heap.size ro l e → l < n := fun e he => by
   obtain ⟨r, hr⟩ := he.none
   rcases Nat.lt_or_ge l n with h | h
   · exact h
   · rw [hfr l h] at hr; cases hr
  unfold join at he
  dsimp only at he
  rw [alook_append] at he
  split at he
  · rename_i y hy
    cases he
    rw [alook_keepE] at hy
    split at hy
    · cases hy
    · cases hl : alook S.e l with
      | none => rw [hl] at hy; cases hy
      | some z =>
       rw [hl] at hy
       simp only [Option.map_some, Option.some.injEq] at hy
       subst hy
       have h1 := H.en l z (by unfold lookE; rw [hl])
       cases z with
       | row fr t T m => exact ⟨h1, hlt _ h1, rfl⟩
       | map fr ag c t T m => exact ⟨h1, hlt _ h1, rfl⟩
       | dead => exact ⟨h1, hlt _ h1, rfl⟩
       | stamp ml c key => exact ⟨h1.none, hlt _ h1, rfl⟩
       | iter ml c seen left =>
        unfold keepEn
        dsimp only
        split
        · exact ⟨h1.none, hlt _ h1, rfl⟩
        · rename_i hc
          simp only [Bool.or_eq_true, not_or, decide_eq_true_eq] at hc
          exact ⟨h1, hlt _ h1, by simp only [En.under, ltB, decide_eq_true_eq]; omega⟩
       | box T cs =>
        obtain ⟨b, us, k1, k4, k5⟩ := h1
        refine ⟨⟨b, us, k1, k4, by rw [keepC_len]; exact k5.1, fun j x v hx hv => ?_⟩, hml _ _ k1, underL_of fun j x hx => (keepC_get hx).elim fun y q => q.2.2⟩
        obtain ⟨y, q1, q2, _⟩ := keepC_get hx
        rcases q2 with rfl | rfl
        · exact k5.2 j _ v q1 hv
        · exact .un _
  · have h1 := H.en l e (by unfold lookE; rw [H.disE l e he]; exact he)
    refine ⟨h1, hlt e h1, ?_⟩
    cases e with
    | box T cs =>
     obtain ⟨b, us, k1, k4, k5⟩ := h1
     refine underL_of fun j x hx => ?_
     obtain ⟨v, hv, hr⟩ := k5.get hx
     exact hr.under_of hfr
    | row fr t T m => rfl
    | map fr ag c t T m => rfl
    | dead => rfl
    | iter ml c seen left =>
     obtain ⟨b, b2, es, clock, since, stamps, c0, k1, k2, k3⟩ := h1
     simpa [En.under, ltB] using hml _ _ k2
    | stamp ml c key =>
     obtain ⟨b, es, clock, s, e, k1, k2, k3⟩ := h1
     simpa [En.under, ltB] using hml _ _ k2
 refine ⟨⟨fun d x hx => (hT d x hx).2, fun l e he => (hE l e he).2⟩, fun d x hx => (hT d x hx).1, fun l e he => (hE l e he).1, fun d x hx => keepT_none (H.disT d x hx), fun l e he => ?_⟩
 rw [alook_keepE, H.disE l e he]
 split <;> rfl
theorem leave_ok {K' : Bs} (hT : ∀ d x, alook B.t d = some x → alook K'.t d = none) (hE : ∀ l e, alook B.e l = some e → alook K'.e l = none) (H : Sim w0 S0 N (join K' B) S a w) : Sim w0 S0 N B (leave K' S) a w := by
 obtain ⟨ρ, ro, H⟩ := H
 have hlT : ∀ d, lookT B (leave K' S) d = lookT (join K' B) S d := by
  intro d
  unfold lookT leave join
  dsimp only
  rw [alook_append, alook_append]
  cases alook S.t d <;> cases alook K'.t d <;> rfl
 have hlE : ∀ d, lookE B (leave K' S) d = lookE (join K' B) S d := by
  intro d
  unfold lookE leave join
  dsimp only
  rw [alook_append, alook_append]
  cases alook S.e d <;> cases alook K'.e d <;> rfl
 refine ⟨ρ, ro, H.from_, H.size, H.defers, H.roB, fun d x hx => H.tm d x (by rw [← hlT]; exact hx), fun l e he => H.en l e (by rw [← hlE]; exact he), H.apart, H.fresh, H.own, H.roS, H.solid, fun d x hx => ?_, fun l e he => ?_⟩
 · unfold leave
   dsimp only
   have h1 : alook S.t d = none := H.disT d x (by unfold join; dsimp only; rw [alook_append, hT d x hx]; exact hx)
   rw [alook_append, h1]
   exact hT d x hx
 · unfold leave
   dsimp only
   have h1 : alook S.e l = none := H.disE l e (by unfold join; dsimp only; rw [alook_append, hE l e he]; exact he)
   rw [alook_append, h1]
   exact hE l e he
def KQ (F : Fx) (w0 : World) (S0 : Pm) (n : Nat) (B : Bs) (K : List Kt) : Exit → Act → World → Prop
 | .normal, a, w => ∃ f S, f ≤ n ∧ Sim w0 S0 F.N B S a w ∧ (cont F f B S K).P
 | .exit id, a, w => ∃ f S, f ≤ n ∧ Sim w0 S0 F.N B S a w ∧ (exitTo F f id B S K).P
 | .ret, a, w => ∃ f S, f ≤ n ∧ Sim w0 S0 F.N B S a w ∧ (leaveAll F f B S K).P
 | _, _, _ => False
theorem KQ.more {m : Nat} {K : List Kt} {e : Exit} (h : KQ F w0 S0 n B K e a w) (hm : n ≤ m) : KQ F w0 S0 m B K e a w := by
 cases e with
 | normal => obtain ⟨f, S, h1, h2⟩ := h; exact ⟨f, S, Nat.le_trans h1 hm, h2⟩
 | exit id => obtain ⟨f, S, h1, h2⟩ := h; exact ⟨f, S, Nat.le_trans h1 hm, h2⟩
 | ret => obtain ⟨f, S, h1, h2⟩ := h; exact ⟨f, S, Nat.le_trans h1 hm, h2⟩
 | goto l => exact h.elim
 | panic c => exact h.elim
 | outgrown => exact h.elim
theorem eqS_ok {ov : List (Nat × AV)} {oe : List (Nat × En)} (h : (eqS B S ov oe).P) : ∃ ta tb, eqTs B S ov = some ta ∧ eqEs none B S oe = some tb ∧ ∀ c ∈ ta ++ tb, c () := by
 unfold eqS at h
 split at h
 · rename_i ta tb h1 h2
   exact ⟨ta, tb, h1, h2, allVC_mem h⟩
 · exact h.elim
theorem SimR.bare (H : SimR w0 S0 N B S a w ρ ro) : SimR w0 S0 N B ⟨[], [], S.n⟩ a w ρ ro := by
 refine ⟨H.from_, H.size, H.defers, H.roB, fun d x h => H.tm d x ?_, fun l e h => H.en l e ?_, H.apart, H.fresh, H.own, H.roS, H.solid, fun _ _ _ => rfl, fun _ _ _ => rfl⟩
 · have h' : alook B.t d = some x := h
   unfold lookT
   rw [H.disT d x h']
   exact h'
 · have h' : alook B.e l = some e := h
   unfold lookE
   rw [H.disE l e h']
   exact h'
theorem reg_ok (hty : TyOk P F.C.ty) (hcs : CxOk P F.C S0) (hmix : P.follows .mixedOrders = true) {id : Nat} {ops : Array Oper} {k : Sx → Fm} {Q : Exit → Act → World → Prop} (hQ : ∀ c a w, ¬ Q (.panic c) a w) (hok : codeOk (efs F.C.fs) F.C.sc F.N (.region id ops true) = true) (hk : ∀ S' a' w', Sim w0 S0 F.N B S' a' w' → (k S').P → Q .normal a' w') (h : (goReg F.C F.N B id ops.toList S k).P) (H : Sim w0 S0 F.N B S a w) : (Code.region id ops true).wp P Q a w := by
 simp only [codeOk, Bool.not_true, Bool.false_or, Bool.and_eq_true] at hok
 have hops : ops.toList.toArray = ops := by simp
 rw [← hops]
 refine draw_ok hty hcs hmix hQ hok.1 hk ?_ H
 have hs := hok.2
 unfold goReg at h
 cases hsc : schAt F.C.sc id with
 | none => rw [hsc] at h; exact h
 | some s =>
  rw [hsc] at h hs
  dsimp only at h hs
  simp only [decide_eq_true_eq] at hs
  have hp := hok.1
  unfold drawOk at hp
  simp only [Bool.and_eq_true] at hp
  rw [hs] at h
  exact sch_ok hp.1 h
theorem join_ok {l : List Oper} {ks : List Nat} {go : (Sx → Fm) → Fm} {k : Sx → Fm} (h : (joinF F.C F.N B l ks S go k).P) : ∃ S2 : Sx, (k S2).P ∧ ∃ k' : Sx → Fm, (go k').P ∧ ∀ S' a' w', Sim w0 S0 F.N B S' a' w' → (k' S').P → Sim w0 S0 F.N B S2 a' w' := by
 unfold joinF at h
 split at h
 · exact h.elim
 · rename_i S1 hS1
   split at h
   · rename_i hc
     simp only [Bool.and_eq_true] at hc
     refine ⟨_, h.2, _, h.1, fun S' a' w' H' hk' => ?_⟩
     split at hk'
     · rename_i hn
       obtain ⟨ρ, ro, HR⟩ := H'
       obtain ⟨ta, tb, e1, e2, e3⟩ := eqS_ok hk'
       have HB := HR.bare
       obtain ⟨hkept, hkT, hkE, _, _⟩ := kept_of HB (md := []) (locs := []) (Nat.le_refl _) B rfl
       rw [← hn] at hc
       rw [← hn]
       refine HR.rebase (fun l r q1 q2 => ?_) e1 e2 e3 hc.1 hc.2.1 hc.2.2.1 hc.2.2.2 (fun d y hy => ?_) (fun l e he => ?_)
       · have q3 := HR.solid l r q1 q2
         rcases Nat.lt_or_ge l S'.n with h | h
         · exact h
         · rw [HR.fresh l h] at q3; cases q3
       · obtain ⟨u, q1, q2⟩ := hkT d y hy
         exact ⟨u, q1, q2, hkept.t d y hy⟩
       · exact ⟨hkE l e he, hkept.e l e he⟩
     · exact hk'.elim
   · exact h.elim
theorem rounds_more {P : Program} {c : Code} {Q : Exit → Act → World → Prop} : ∀ {n m : Nat} {a : Act} {w : World}, Code.rounds P c Q n a w → n ≤ m → Code.rounds P c Q m a w
 | 0, _, _, _, h, _ => h.elim
 | n + 1, 0, _, _, _, hm => by omega
 | n + 1, m + 1, a, w, h, hm => by
  rw [rounds_succ] at h ⊢
  refine wp_mono h fun e a w q => ?_
  cases e with
  | normal => exact rounds_more q (by omega)
  | exit id => exact q
  | ret => exact q
  | goto l => exact q
  | panic c => exact q
  | outgrown => exact q
theorem go_ex {go : Lp → Fm} {o : Option Lp} (h : (match o with
 | some lp => go lp
 | none => .exl go : Fm).P) : ∃ lp, (go lp).P := by
 cases o with
 | some lp => exact ⟨lp, h⟩
 | none => exact h
theorem run_ok (hty : TyOk P F.C.ty) (hcs : CxOk P F.C S0) (hmix : P.follows .mixedOrders = true) : ∀ (f : Nat) (c : Code) (B : Bs) (S : Sx) (K : List Kt) (a : Act) (w : World), (run F f c B S K).P → Sim w0 S0 F.N B S a w → Wf (efs F.C.fs) F.C.sc F.N B K → codeOk (efs F.C.fs) F.C.sc F.N c = true → c.wp P (KQ F w0 S0 f B K) a w := by
 intro f
 induction f using Nat.strongRecOn with
 | ind f ih =>
 intro c B S K a w h H hwf hok
 cases f with
 | zero => unfold run at h; exact h.elim
 | succ f =>
  cases c with
  | skip => unfold run at h; exact wp_skip ⟨f, S, by omega, H, h⟩
  | label l => unfold run at h; exact wp_label ⟨f, S, by omega, H, h⟩
  | goto l => unfold run at h; exact h.elim
  | scope b => unfold run at h; exact h.elim
  | refuse why => unfold run at h; exact h.elim
  | rangeFunc g ps x y => unfold run at h; exact h.elim
  | ret => unfold run at h; exact wp_ret ⟨f, S, by omega, H, h⟩
  | exit id => unfold run at h; exact wp_exit ⟨f, S, by omega, H, h⟩
  | region id ops draw =>
   have H : Sim w0 S0 F.N B (cond F.C.fx S (frzAll B (fzAt F.C.fz id) S)) a w := by
    cases hc : F.C.fx with
    | true => exact H
    | false => exact frzAll_ok (by rw [hcs.fx, hc]) H
   have H := pickS_ok F.C id H
   unfold run at h
   have hk : ∀ S' a' w', Sim w0 S0 F.N B S' a' w' → (cont F f B S' K).P → KQ F w0 S0 (f + 1) B K .normal a' w' := fun S' a' w' H' h' => ⟨f, S', by omega, H', h'⟩
   have hops : ops.toList.toArray = ops := by simp
   cases draw with
   | false => exact wp_region_list (by rw [← hops]; simpa using goOps_seq hty hcs hk h H)
   | true =>
    dsimp only at h
    cases hj : kpAt F.C.jn id with
    | none =>
     rw [hj] at h
     exact reg_ok hty hcs hmix (fun _ _ _ hq => hq.elim) hok hk h H
    | some ks =>
     rw [hj] at h
     obtain ⟨S2, h2, k', h3, h4⟩ := join_ok (w0 := w0) (S0 := S0) h
     exact reg_ok hty hcs hmix (fun _ _ _ hq => hq.elim) hok (fun S' a' w' H' hk' => hk S2 a' w' (h4 S' a' w' H' hk') h2) h3 H
  | seq x y =>
   unfold run at h
   simp only [codeOk, Bool.and_eq_true] at hok
   refine wp_seq (wp_mono (ih f (by omega) x B S (.code y :: K) a w h H (.code _ _ _ hok.2 hwf) hok.1) fun e a' w' hq => ?_)
   cases e with
   | normal =>
    obtain ⟨g, S', hg, H', hc⟩ := hq
    cases g with
    | zero => unfold cont at hc; exact hc.elim
    | succ g =>
     unfold cont at hc
     exact wp_mono (ih g (by omega) y B S' K a' w' hc H' hwf hok.2) fun e a w q => q.more (by omega)
   | exit id =>
    obtain ⟨g, S', hg, H', hc⟩ := hq
    cases g with
    | zero => unfold exitTo at hc; exact hc.elim
    | succ g => unfold exitTo at hc; exact ⟨g, S', by omega, H', hc⟩
   | ret =>
    obtain ⟨g, S', hg, H', hc⟩ := hq
    cases g with
    | zero => unfold leaveAll at hc; exact hc.elim
    | succ g => unfold leaveAll at hc; exact ⟨g, S', by omega, H', hc⟩
   | goto l => exact hq.elim
   | panic c => exact hq.elim
   | outgrown => exact hq.elim
  | cond x c1 c2 =>
   unfold run at h
   dsimp only at h
   simp only [codeOk, Bool.and_eq_true] at hok
   obtain ⟨ρ, ro, HR⟩ := H
   have hx := HR.get x
   split at h
   · rename_i hg
     rw [hg] at hx
     exact wp_cond_true hx.blit_ (wp_mono (ih f (by omega) c1 B S K a w h ⟨ρ, ro, HR⟩ hwf hok.1) fun e a w q => q.more (by omega))
   · rename_i hg
     rw [hg] at hx
     exact wp_cond_false hx.blit_ (wp_mono (ih f (by omega) c2 B S K a w h ⟨ρ, ro, HR⟩ hwf hok.2) fun e a w q => q.more (by omega))
   · rename_i t hg
     rw [hg] at hx
     exact wp_cond_split hx.bool_ (fun ht => wp_mono (ih f (by omega) c1 B S K a w (h.1 ht) ⟨ρ, ro, HR⟩ hwf hok.1) fun e a w q => q.more (by omega)) fun ht => wp_mono (ih f (by omega) c2 B S K a w (h.2 ht) ⟨ρ, ro, HR⟩ hwf hok.2) fun e a w q => q.more (by omega)
   · exact h.elim
  | block id b =>
   unfold run at h
   refine wp_block (wp_mono (ih f (by omega) b B S (.block id :: K) a w h H (.block _ _ _ hwf) hok) fun e a' w' hq => ?_)
   cases e with
   | normal =>
    obtain ⟨g, S', hg, H', hc⟩ := hq
    cases g with
    | zero => unfold cont at hc; exact hc.elim
    | succ g => unfold cont at hc; exact ⟨g, S', by omega, H', hc⟩
   | exit id' =>
    obtain ⟨g, S', hg, H', hc⟩ := hq
    cases g with
    | zero => unfold exitTo at hc; exact hc.elim
    | succ g =>
     unfold exitTo at hc
     dsimp only at hc
     show if id' = id then _ else _
     by_cases e : id = id'
     · subst e
       rw [if_pos rfl] at hc ⊢
       exact ⟨g, S', by omega, H', hc⟩
     · rw [if_neg e] at hc
       rw [if_neg (fun h => e h.symm)]
       exact ⟨g, S', by omega, H', hc⟩
   | ret =>
    obtain ⟨g, S', hg, H', hc⟩ := hq
    cases g with
    | zero => unfold leaveAll at hc; exact hc.elim
    | succ g => unfold leaveAll at hc; exact ⟨g, S', by omega, H', hc⟩
   | goto l => exact hq.elim
   | panic c => exact hq.elim
   | outgrown => exact hq.elim
  | loop b =>
   unfold run at h
   dsimp only at h
   split at h
   · rename_i k hkey
     cases hul : memN k F.C.ul with
     | true =>
      have hrounds : ∀ g, g ≤ f + 1 → ∀ (S : Sx) (a : Act) (w : World), (run F g (.loop b) B S K).P → Sim w0 S0 F.N B S a w → Code.rounds P b (KQ F w0 S0 (f + 1) B K) g a w := by
       intro g
       induction g using Nat.strongRecOn with
       | ind g ihg =>
       intro hg S a w h H
       cases g with
       | zero => unfold run at h; exact h.elim
       | succ g =>
        unfold run at h
        dsimp only at h
        rw [hkey] at h
        dsimp only at h
        rw [hul] at h
        dsimp only at h
        rw [rounds_succ]
        refine wp_mono (ih g (by omega) b B S (.again b :: K) a w h H (.again _ _ _ hok hwf) hok) fun e a' w' hq => ?_
        cases e with
        | normal =>
         obtain ⟨g', S', hg', H', hc⟩ := hq
         cases g' with
         | zero => unfold cont at hc; exact hc.elim
         | succ g' =>
          unfold cont at hc
          exact rounds_more (ihg g' (by omega) (by omega) S' a' w' hc H') (by omega)
        | exit id =>
         obtain ⟨g', S', hg', H', hc⟩ := hq
         cases g' with
         | zero => unfold exitTo at hc; exact hc.elim
         | succ g' => unfold exitTo at hc; exact ⟨g', S', by omega, H', hc⟩
        | ret =>
         obtain ⟨g', S', hg', H', hc⟩ := hq
         cases g' with
         | zero => unfold leaveAll at hc; exact hc.elim
         | succ g' => unfold leaveAll at hc; exact ⟨g', S', by omega, H', hc⟩
        | goto l => exact hq.elim
        | panic c => exact hq.elim
        | outgrown => exact hq.elim
      refine wp_loop_rounds (f + 1) (hrounds (f + 1) (Nat.le_refl _) S a w ?_ H)
      unfold run
      dsimp only
      rw [hkey]
      exact h
     | false =>
      rw [hul] at h
      dsimp only at h
      obtain ⟨lp, ⟨hI0, heq0⟩, hall⟩ := go_ex h
      generalize hn : maxK S.n (keysOf (lp.oe lp.x0)) = n at hall
      generalize hK' : (⟨keepT (modsU b (keysOf (lp.oe lp.x0)) n S.t) (keysOf (lp.oe lp.x0)) n S.t, keepE (keysOf (lp.oe lp.x0)) n S.e⟩ : Bs) = K' at hall
      have hcond : ∀ x, lp.I x → (sameN (keysOf (lp.oe x)) (keysOf (lp.oe lp.x0)) && belowT (ltB n) (lp.ov x) && belowE (ltB n) (lp.oe x) && apartK (join K' B).t (lp.ov x) && apartK (join K' B).e (lp.oe x)) = true ∧ (run F f b (join K' B) ⟨lp.ov x, lp.oe x, n⟩ (.back B K' (fun Bi S' => if n ≤ S'.n then (match lp.nx with
       | some nx => .vc [fun _ => lp.I (nx x) ∧ lp.μ (nx x) () < lp.μ x ()] (eqS Bi S' (lp.ov (nx x)) (lp.oe (nx x)))
       | none => .ex lp.X (fun y => lp.I y ∧ lp.μ y () < lp.μ x ()) fun y => eqS Bi S' (lp.ov y) (lp.oe y)) else .ff 17) :: K)).P := by
       intro x hx
       have h1 := hall x hx
       dsimp only at h1
       by_cases hc : (sameN (keysOf (lp.oe x)) (keysOf (lp.oe lp.x0)) && belowT (ltB n) (lp.ov x) && belowE (ltB n) (lp.oe x) && apartK (join K' B).t (lp.ov x) && apartK (join K' B).e (lp.oe x)) = true
       · rw [if_pos hc] at h1
         exact ⟨hc, h1⟩
       · rw [if_neg hc] at h1
         exact h1.elim
      obtain ⟨ρ, ro, HR⟩ := H
      have hSn : S.n ≤ n := by rw [← hn]; exact maxK_le _ _
      obtain ⟨hkept, hkT, hkE, hdT, hdE⟩ := kept_of HR (md := modsU b (keysOf (lp.oe lp.x0)) n S.t) (locs := keysOf (lp.oe lp.x0)) hSn (join K' B) (by rw [hK'])
      have hdT' : ∀ d x, alook B.t d = some x → alook K'.t d = none := by rw [← hK']; exact hdT
      have hdE' : ∀ l e, alook B.e l = some e → alook K'.e l = none := by rw [← hK']; exact hdE
      have hsol : ∀ l r, S0.pl l = some r → (r.solid || S0.fx) = true → l < n := fun l r q1 q2 => by
       have q3 := HR.solid l r q1 q2
       rcases Nat.lt_or_ge l n with h | h
       · exact h
       · rw [HR.fresh l (Nat.le_trans hSn h)] at q3; cases q3
      have hbase : ∀ x {B1 : Bs} {S1 : Sx} {a1 : Act} {w1 : World} {ρ1 : Nat → Option Rl} {ro1 : Nat → Prop}, SimR w0 S0 F.N B1 S1 a1 w1 ρ1 ro1 → lp.I x → (eqS B1 S1 (lp.ov x) (lp.oe x)).P → (∀ d y, alook (join K' B).t d = some y → ∃ u, a1.tmps[d]? = some u ∧ AVR w1 ρ1 w0.heap.size ro1 y u) → (∀ l e, alook (join K' B).e l = some e → EnR w1 ρ1 w0.heap.size ro1 l e) → Sim w0 S0 F.N (join K' B) ⟨lp.ov x, lp.oe x, n⟩ a1 w1 := by
       intro x B1 S1 a1 w1 ρ1 ro1 H1 hx heq hT1 hE1
       obtain ⟨ta, tb, e1, e2, e3⟩ := eqS_ok heq
       have hc := (hcond x hx).1
       simp only [Bool.and_eq_true] at hc
       exact H1.rebase hsol e1 e2 e3 hc.1.1.1.2 hc.1.1.2 hc.1.2 hc.2 (fun d y hy => by obtain ⟨u, q1, q2⟩ := hT1 d y hy; exact ⟨u, q1, q2, hkept.t d y hy⟩) fun l e he => ⟨hE1 l e he, hkept.e l e he⟩
      refine wp_loop_ghost (fun m a w => ∃ x, lp.I x ∧ lp.μ x () = m ∧ Sim w0 S0 F.N (join K' B) ⟨lp.ov x, lp.oe x, n⟩ a w) (lp.μ lp.x0 ()) ⟨lp.x0, hI0, rfl, hbase lp.x0 HR hI0 heq0 hkT hkE⟩ ?_
      rintro m a1 w1 ⟨x, hx, rfl, H1⟩
      have hrun := (hcond x hx).2
      refine wp_mono (ih f (by omega) b (join K' B) _ _ a1 w1 hrun H1 (.back _ _ _ _ hdT' hdE' hwf) hok) fun e a' w' hq => ?_
      cases e with
      | normal =>
       obtain ⟨g, S', hg, H', hc⟩ := hq
       cases g with
       | zero => unfold cont at hc; exact hc.elim
       | succ g =>
        unfold cont at hc
        dsimp only at hc
        obtain ⟨ρ', ro', HR'⟩ := H'
        split at hc
        · have hfin : ∀ y, lp.I y → lp.μ y () < lp.μ x () → (eqS (join K' B) S' (lp.ov y) (lp.oe y)).P → ∃ n', n' < lp.μ x () ∧ ∃ x', lp.I x' ∧ lp.μ x' () = n' ∧ Sim w0 S0 F.N (join K' B) ⟨lp.ov x', lp.oe x', n⟩ a' w' := by
           intro y hy hlt heq
           exact ⟨_, hlt, y, hy, rfl, hbase y HR' hy heq (fun d z hz => HR'.tm d z (by unfold lookT; rw [HR'.disT d z hz]; exact hz)) fun l e he => HR'.en l e (by unfold lookE; rw [HR'.disE l e he]; exact he)⟩
          split at hc
          · rename_i nx hnx
            obtain ⟨⟨q1, q2⟩, q3⟩ := hc
            exact hfin _ q1 q2 q3
          · obtain ⟨y, ⟨q1, q2⟩, q3⟩ := hc
            exact hfin y q1 q2 q3
        · exact hc.elim
      | exit id =>
       obtain ⟨g, S', hg, H', hc⟩ := hq
       cases g with
       | zero => unfold exitTo at hc; exact hc.elim
       | succ g => unfold exitTo at hc; exact ⟨g, _, by omega, leave_ok hdT' hdE' H', hc⟩
      | ret =>
       obtain ⟨g, S', hg, H', hc⟩ := hq
       cases g with
       | zero => unfold leaveAll at hc; exact hc.elim
       | succ g => unfold leaveAll at hc; exact ⟨g, _, by omega, leave_ok hdT' hdE' H', hc⟩
      | goto l => exact hq.elim
      | panic c => exact hq.elim
      | outgrown => exact hq.elim
   · exact h.elim
end
end Go.Proofs.YtmbfcdnnlpcgfaaGreat
