/-
  The abstract run is sound: what is shown of plain data makes a function's contract.
-/
import Derived.Test.YtfdjcakgolenbaaGreatMu29
set_option linter.unusedVariables false
set_option linter.unusedSimpArgs false
namespace Go.Proofs.YtfdjcakgolenbaaGreat
open Go.RowKit
section
variable {w w' w0 : World} {ρ ρ' ρ2 : Nat → Option Rl} {base n : Nat} {ro ro' : Nat → Prop} {S0 : Pm} {N : Nat} {B : Bs} {S : Sx} {a : Act} {F : Fx} {P : Program}
theorem reg_ok (hty : TyOk P F.C.ty) (hcs : CxOk P F.C S0) (hmix : P.follows .mixedOrders = true) {id : Nat} {ops : Array Oper} {k : Sx → Fm} {Q : Exit → Act → World → Prop} (hQ : ∀ c a w, ¬ Q (.panic c) a w) (hQo : ¬ LetsOut Q) (hok : codeOk (efs F.C.fs) F.C.sc F.C.lt F.N (.region id ops true) = true) (hk : ∀ S' a' w', Sim w0 S0 F.N B S' a' w' → (k S').P → Q .normal a' w') (h : (goReg F.C F.N B id ops.toList S k).P) (H : Sim w0 S0 F.N B S a w) : (Code.region id ops true).wp P Q a w := by
 simp only [codeOk, Bool.not_true, Bool.false_or] at hok
 have hops : ops.toList.toArray = ops := by simp
 rw [← hops]
 unfold goReg at h
 cases hlt : latAt F.C.lt id with
 | some t =>
  rw [hlt] at h hok
  exact lat_reg hty hcs hmix hQ hQo hok hk h H
 | none =>
  rw [hlt] at h hok
  dsimp only at h hok
  simp only [Bool.and_eq_true] at hok
  have hs := hok.2
  have hp := hok.1
  unfold drawOk at hp
  simp only [Bool.and_eq_true] at hp
  refine draw_ok hty hcs hmix hQ hok.1 hk ?_ H
  cases hsc : schAt F.C.sc id with
  | none => rw [hsc] at h; exact h
  | some s =>
   rw [hsc] at h hs
   dsimp only at h hs
   simp only [decide_eq_true_eq] at hs
   rw [hs] at h
   exact sch_ok hp.1 h
theorem join_ok {l : List Oper} {ks : List Nat} {go : (Sx → Fm) → Fm} {k : Sx → Fm} (h : (joinF F.C F.N B l ks S go k).P) : ∃ S2 : Sx, (k S2).P ∧ ∃ k' : Sx → Fm, (go k').P ∧ ∀ S' a' w', Sim w0 S0 F.N B S' a' w' → (k' S').P → Sim w0 S0 F.N B S2 a' w' := by
 unfold joinF at h
 split at h
 · exact h.elim
 · rename_i S1 hS1
   split at h
   · rename_i hc
     simp only [Bool.and_eq_true] at hc
     refine ⟨_, h.2, _, h.1, fun S' a' w' H' hk' => ?_⟩
     split at hk'
     · rename_i hn
       obtain ⟨ρ, ro, HR⟩ := H'
       obtain ⟨ta, tb, e1, e2, e3⟩ := eqS_ok hk'
       have HB := HR.bare
       obtain ⟨hkept, hkT, hkE, _, _⟩ := kept_of HB (md := []) (locs := []) (Nat.le_refl _) B rfl
       rw [← hn] at hc
       rw [← hn]
       refine HR.rebase (fun l r q1 q2 => ?_) e1 e2 e3 hc.1 hc.2.1 hc.2.2.1 hc.2.2.2 (fun d y hy => ?_) (fun l e he => ?_)
       · have q3 := HR.solid l r q1 q2
         rcases Nat.lt_or_ge l S'.n with h | h
         · exact h
         · rw [HR.fresh l h] at q3; cases q3
       · obtain ⟨u, q1, q2⟩ := hkT d y hy
         exact ⟨u, q1, q2, hkept.t d y hy⟩
       · exact ⟨hkE l e he, hkept.e l e he⟩
     · exact hk'.elim
   · exact h.elim
theorem rounds_more {P : Program} {c : Code} {Q : Exit → Act → World → Prop} : ∀ {n m : Nat} {a : Act} {w : World}, Code.rounds P c Q n a w → n ≤ m → Code.rounds P c Q m a w
 | 0, _, _, _, h, _ => h.elim
 | n + 1, 0, _, _, _, hm => by omega
 | n + 1, m + 1, a, w, h, hm => by
  rw [rounds_succ] at h ⊢
  refine wp_mono h fun e a w q => ?_
  cases e with
  | normal => exact rounds_more q (by omega)
  | exit id => exact q
  | ret => exact q
  | goto l => exact q
  | panic c => exact q
  | outgrown => exact q
theorem go_ex {go : Lp → Fm} {o : Option Lp} (h : (match o with
 | some lp => go lp
 | none => .exl go : Fm).P) : ∃ lp, (go lp).P := by
 cases o with
 | some lp => exact ⟨lp, h⟩
 | none => exact h
theorem run_ok (hty : TyOk P F.C.ty) (hcs : CxOk P F.C S0) (hmix : P.follows .mixedOrders = true) : ∀ (f : Nat) (c : Code) (B : Bs) (S : Sx) (K : List Kt) (a : Act) (w : World), (run F f c B S K).P → Sim w0 S0 F.N B S a w → Wf (efs F.C.fs) F.C.sc F.C.lt F.N B K → codeOk (efs F.C.fs) F.C.sc F.C.lt F.N c = true → c.wp P (KQ F w0 S0 f B K) a w := by
 intro f
 induction f using Nat.strongRecOn with
 | ind f ih =>
 intro c B S K a w h H hwf hok
 cases f with
 | zero => unfold run at h; exact h.elim
 | succ f =>
  cases c with
  | skip => unfold run at h; exact wp_skip ⟨f, S, by omega, H, h⟩
  | label l => unfold run at h; exact wp_label ⟨f, S, by omega, H, h⟩
  | goto l => unfold run at h; exact h.elim
  | scope b => unfold run at h; exact h.elim
  | refuse why => unfold run at h; exact h.elim
  | rangeFunc g ps x y => unfold run at h; exact h.elim
  | ret => unfold run at h; exact wp_ret ⟨f, S, by omega, H, h⟩
  | exit id => unfold run at h; exact wp_exit ⟨f, S, by omega, H, h⟩
  | region id ops draw =>
   have H : Sim w0 S0 F.N B (cond F.C.fx S (frzAll B (fzAt F.C.fz id) S)) a w := by
    cases hc : F.C.fx with
    | true => exact H
    | false => exact frzAll_ok (by rw [hcs.fx, hc]) H
   have H := pickS_ok F.C id H
   unfold run at h
   have hk : ∀ S' a' w', Sim w0 S0 F.N B S' a' w' → (cont F f B S' K).P → KQ F w0 S0 (f + 1) B K .normal a' w' := fun S' a' w' H' h' => ⟨f, S', by omega, H', h'⟩
   have hops : ops.toList.toArray = ops := by simp
   cases draw with
   | false => exact wp_region_list (by rw [← hops]; simpa using goOps_seq hty hcs hk h H)
   | true =>
    dsimp only at h
    cases hj : kpAt F.C.jn id with
    | none =>
     rw [hj] at h
     exact reg_ok hty hcs hmix (fun _ _ _ hq => hq.elim) (fun ⟨_, _, hq⟩ => hq.elim) hok hk h H
    | some ks =>
     rw [hj] at h
     obtain ⟨S2, h2, k', h3, h4⟩ := join_ok (w0 := w0) (S0 := S0) h
     exact reg_ok hty hcs hmix (fun _ _ _ hq => hq.elim) (fun ⟨_, _, hq⟩ => hq.elim) hok (fun S' a' w' H' hk' => hk S2 a' w' (h4 S' a' w' H' hk') h2) h3 H
  | seq x y =>
   unfold run at h
   simp only [codeOk, Bool.and_eq_true] at hok
   refine wp_seq (wp_mono (ih f (by omega) x B S (.code y :: K) a w h H (.code _ _ _ hok.2 hwf) hok.1) fun e a' w' hq => ?_)
   cases e with
   | normal =>
    obtain ⟨g, S', hg, H', hc⟩ := hq
    cases g with
    | zero => unfold cont at hc; exact hc.elim
    | succ g =>
     unfold cont at hc
     exact wp_mono (ih g (by omega) y B S' K a' w' hc H' hwf hok.2) fun e a w q => q.more (by omega)
   | exit id =>
    obtain ⟨g, S', hg, H', hc⟩ := hq
    cases g with
    | zero => unfold exitTo at hc; exact hc.elim
    | succ g => unfold exitTo at hc; exact ⟨g, S', by omega, H', hc⟩
   | ret =>
    obtain ⟨g, S', hg, H', hc⟩ := hq
    cases g with
    | zero => unfold leaveAll at hc; exact hc.elim
    | succ g => unfold leaveAll at hc; exact ⟨g, S', by omega, H', hc⟩
   | goto l => exact hq.elim
   | panic c => exact hq.elim
   | outgrown => exact hq.elim
  | cond x c1 c2 =>
   unfold run at h
   dsimp only at h
   simp only [codeOk, Bool.and_eq_true] at hok
   obtain ⟨ρ, ro, HR⟩ := H
   have hx := HR.get x
   split at h
   · rename_i hg
     rw [hg] at hx
     exact wp_cond_true hx.blit_ (wp_mono (ih f (by omega) c1 B S K a w h ⟨ρ, ro, HR⟩ hwf hok.1) fun e a w q => q.more (by omega))
   · rename_i hg
     rw [hg] at hx
     exact wp_cond_false hx.blit_ (wp_mono (ih f (by omega) c2 B S K a w h ⟨ρ, ro, HR⟩ hwf hok.2) fun e a w q => q.more (by omega))
   · rename_i t hg
     rw [hg] at hx
     exact wp_cond_split hx.bool_ (fun ht => wp_mono (ih f (by omega) c1 B S K a w (h.1 ht) ⟨ρ, ro, HR⟩ hwf hok.1) fun e a w q => q.more (by omega)) fun ht => wp_mono (ih f (by omega) c2 B S K a w (h.2 ht) ⟨ρ, ro, HR⟩ hwf hok.2) fun e a w q => q.more (by omega)
   · exact h.elim
  | block id b =>
   unfold run at h
   refine wp_block (wp_mono (ih f (by omega) b B S (.block id :: K) a w h H (.block _ _ _ hwf) hok) fun e a' w' hq => ?_)
   cases e with
   | normal =>
    obtain ⟨g, S', hg, H', hc⟩ := hq
    cases g with
    | zero => unfold cont at hc; exact hc.elim
    | succ g => unfold cont at hc; exact ⟨g, S', by omega, H', hc⟩
   | exit id' =>
    obtain ⟨g, S', hg, H', hc⟩ := hq
    cases g with
    | zero => unfold exitTo at hc; exact hc.elim
    | succ g =>
     unfold exitTo at hc
     dsimp only at hc
     show if id' = id then _ else _
     by_cases e : id = id'
     · subst e
       rw [if_pos rfl] at hc ⊢
       exact ⟨g, S', by omega, H', hc⟩
     · rw [if_neg e] at hc
       rw [if_neg (fun h => e h.symm)]
       exact ⟨g, S', by omega, H', hc⟩
   | ret =>
    obtain ⟨g, S', hg, H', hc⟩ := hq
    cases g with
    | zero => unfold leaveAll at hc; exact hc.elim
    | succ g => unfold leaveAll at hc; exact ⟨g, S', by omega, H', hc⟩
   | goto l => exact hq.elim
   | panic c => exact hq.elim
   | outgrown => exact hq.elim
  | loop b =>
   unfold run at h
   dsimp only at h
   split at h
   · rename_i k hkey
     cases hul : memN k F.C.ul with
     | true =>
      have hrounds : ∀ g, g ≤ f + 1 → ∀ (S : Sx) (a : Act) (w : World), (run F g (.loop b) B S K).P → Sim w0 S0 F.N B S a w → Code.rounds P b (KQ F w0 S0 (f + 1) B K) g a w := by
       intro g
       induction g using Nat.strongRecOn with
       | ind g ihg =>
       intro hg S a w h H
       cases g with
       | zero => unfold run at h; exact h.elim
       | succ g =>
        unfold run at h
        dsimp only at h
        rw [hkey] at h
        dsimp only at h
        rw [hul] at h
        dsimp only at h
        rw [rounds_succ]
        refine wp_mono (ih g (by omega) b B S (.again b :: K) a w h H (.again _ _ _ hok hwf) hok) fun e a' w' hq => ?_
        cases e with
        | normal =>
         obtain ⟨g', S', hg', H', hc⟩ := hq
         cases g' with
         | zero => unfold cont at hc; exact hc.elim
         | succ g' =>
          unfold cont at hc
          exact rounds_more (ihg g' (by omega) (by omega) S' a' w' hc H') (by omega)
        | exit id =>
         obtain ⟨g', S', hg', H', hc⟩ := hq
         cases g' with
         | zero => unfold exitTo at hc; exact hc.elim
         | succ g' => unfold exitTo at hc; exact ⟨g', S', by omega, H', hc⟩
        | ret =>
         obtain ⟨g', S', hg', H', hc⟩ := hq
         cases g' with
         | zero => unfold leaveAll at hc; exact hc.elim
         | succ g' => unfold leaveAll at hc; exact ⟨g', S', by omega, H', hc⟩
        | goto l => exact hq.elim
        | panic c => exact hq.elim
        | outgrown => exact hq.elim
      refine wp_loop_rounds (f + 1) (hrounds (f + 1) (Nat.le_refl _) S a w ?_ H)
      unfold run
      dsimp only
      rw [hkey]
      exact h
     | false =>
      rw [hul] at h
      dsimp only at h
      obtain ⟨lp, ⟨hI0, heq0⟩, hall⟩ := go_ex h
      generalize hn : maxK S.n (keysOf (lp.oe lp.x0)) = n at hall
      generalize hK' : (⟨keepT (modsU b (keysOf (lp.oe lp.x0)) n S.t) (keysOf (lp.oe lp.x0)) n S.t, keepE (keysOf (lp.oe lp.x0)) n S.e⟩ : Bs) = K' at hall
      have hcond : ∀ x, lp.I x → (sameN (keysOf (lp.oe x)) (keysOf (lp.oe lp.x0)) && belowT (ltB n) (lp.ov x) && belowE (ltB n) (lp.oe x) && apartK (join K' B).t (lp.ov x) && apartK (join K' B).e (lp.oe x)) = true ∧ (run F f b (join K' B) ⟨lp.ov x, lp.oe x, n⟩ (.back B K' (fun Bi S' => if n ≤ S'.n then (match lp.nx with
       | some nx => .vc [fun _ => lp.I (nx x) ∧ lp.μ (nx x) () < lp.μ x ()] (eqS Bi S' (lp.ov (nx x)) (lp.oe (nx x)))
       | none => .ex lp.X (fun y => lp.I y ∧ lp.μ y () < lp.μ x ()) fun y => eqS Bi S' (lp.ov y) (lp.oe y)) else .ff 17) :: K)).P := by
       intro x hx
       have h1 := hall x hx
       dsimp only at h1
       by_cases hc : (sameN (keysOf (lp.oe x)) (keysOf (lp.oe lp.x0)) && belowT (ltB n) (lp.ov x) && belowE (ltB n) (lp.oe x) && apartK (join K' B).t (lp.ov x) && apartK (join K' B).e (lp.oe x)) = true
       · rw [if_pos hc] at h1
         exact ⟨hc, h1⟩
       · rw [if_neg hc] at h1
         exact h1.elim
      obtain ⟨ρ, ro, HR⟩ := H
      have hSn : S.n ≤ n := by rw [← hn]; exact maxK_le _ _
      obtain ⟨hkept, hkT, hkE, hdT, hdE⟩ := kept_of HR (md := modsU b (keysOf (lp.oe lp.x0)) n S.t) (locs := keysOf (lp.oe lp.x0)) hSn (join K' B) (by rw [hK'])
      have hdT' : ∀ d x, alook B.t d = some x → alook K'.t d = none := by rw [← hK']; exact hdT
      have hdE' : ∀ l e, alook B.e l = some e → alook K'.e l = none := by rw [← hK']; exact hdE
      have hsol : ∀ l r, S0.pl l = some r → (r.solid || S0.fx) = true → l < n := fun l r q1 q2 => by
       have q3 := HR.solid l r q1 q2
       rcases Nat.lt_or_ge l n with h | h
       · exact h
       · rw [HR.fresh l (Nat.le_trans hSn h)] at q3; cases q3
      have hbase : ∀ x {B1 : Bs} {S1 : Sx} {a1 : Act} {w1 : World} {ρ1 : Nat → Option Rl} {ro1 : Nat → Prop}, SimR w0 S0 F.N B1 S1 a1 w1 ρ1 ro1 → lp.I x → (eqS B1 S1 (lp.ov x) (lp.oe x)).P → (∀ d y, alook (join K' B).t d = some y → ∃ u, a1.tmps[d]? = some u ∧ AVR w1 ρ1 w0.heap.size ro1 y u) → (∀ l e, alook (join K' B).e l = some e → EnR w1 ρ1 w0.heap.size ro1 l e) → Sim w0 S0 F.N (join K' B) ⟨lp.ov x, lp.oe x, n⟩ a1 w1 := by
       intro x B1 S1 a1 w1 ρ1 ro1 H1 hx heq hT1 hE1
       obtain ⟨ta, tb, e1, e2, e3⟩ := eqS_ok heq
       have hc := (hcond x hx).1
       simp only [Bool.and_eq_true] at hc
       exact H1.rebase hsol e1 e2 e3 hc.1.1.1.2 hc.1.1.2 hc.1.2 hc.2 (fun d y hy => by obtain ⟨u, q1, q2⟩ := hT1 d y hy; exact ⟨u, q1, q2, hkept.t d y hy⟩) fun l e he => ⟨hE1 l e he, hkept.e l e he⟩
      refine wp_loop_ghost (fun m a w => ∃ x, lp.I x ∧ lp.μ x () = m ∧ Sim w0 S0 F.N (join K' B) ⟨lp.ov x, lp.oe x, n⟩ a w) (lp.μ lp.x0 ()) ⟨lp.x0, hI0, rfl, hbase lp.x0 HR hI0 heq0 hkT hkE⟩ ?_
      rintro m a1 w1 ⟨x, hx, rfl, H1⟩
      have hrun := (hcond x hx).2
      refine wp_mono (ih f (by omega) b (join K' B) _ _ a1 w1 hrun H1 (.back _ _ _ _ hdT' hdE' hwf) hok) fun e a' w' hq => ?_
      cases e with
      | normal =>
       obtain ⟨g, S', hg, H', hc⟩ := hq
       cases g with
       | zero => unfold cont at hc; exact hc.elim
       | succ g =>
        unfold cont at hc
        dsimp only at hc
        obtain ⟨ρ', ro', HR'⟩ := H'
        split at hc
        · have hfin : ∀ y, lp.I y → lp.μ y () < lp.μ x () → (eqS (join K' B) S' (lp.ov y) (lp.oe y)).P → ∃ n', n' < lp.μ x () ∧ ∃ x', lp.I x' ∧ lp.μ x' () = n' ∧ Sim w0 S0 F.N (join K' B) ⟨lp.ov x', lp.oe x', n⟩ a' w' := by
           intro y hy hlt heq
           exact ⟨_, hlt, y, hy, rfl, hbase y HR' hy heq (fun d z hz => HR'.tm d z (by unfold lookT; rw [HR'.disT d z hz]; exact hz)) fun l e he => HR'.en l e (by unfold lookE; rw [HR'.disE l e he]; exact he)⟩
          split at hc
          · rename_i nx hnx
            obtain ⟨⟨q1, q2⟩, q3⟩ := hc
            exact hfin _ q1 q2 q3
          · obtain ⟨y, ⟨q1, q2⟩, q3⟩ := hc
            exact hfin y q1 q2 q3
        · exact hc.elim
      | exit id =>
       obtain ⟨g, S', hg, H', hc⟩ := hq
       cases g with
       | zero => unfold exitTo at hc; exact hc.elim
       | succ g => unfold exitTo at hc; exact ⟨g, _, by omega, leave_ok hdT' hdE' H', hc⟩
      | ret =>
       obtain ⟨g, S', hg, H', hc⟩ := hq
       cases g with
       | zero => unfold leaveAll at hc; exact hc.elim
       | succ g => unfold leaveAll at hc; exact ⟨g, _, by omega, leave_ok hdT' hdE' H', hc⟩
      | goto l => exact hq.elim
      | panic c => exact hq.elim
      | outgrown => exact hq.elim
   · exact h.elim
end
def resOne (tmps : Array Value) : ResultVar → Sem Value
 | .tmp t => pure (tmps.getD t undef)
 | .cell p t => do loadVar t (← asAddr (tmps.getD p undef))
def oneOr : List Value → Value
 | [v] => v
 | vs => .tuple vs.toArray
section
variable {w w' w0 : World} {ρ ρ' ρ2 : Nat → Option Rl} {base base' n : Nat} {ro ro' : Nat → Prop} {S0 : Pm} {N : Nat} {B : Bs} {S : Sx} {a : Act} {F : Fx} {P : Program}
theorem noFrL_get : ∀ {l : List AV} {j : Nat} {x : AV}, AV.noFrL l = true → l[j]? = some x → AV.noFr x = true
 | y :: l, 0, x, h, hx => by
  simp only [List.getElem?_cons_zero, Option.some.injEq] at hx
  subst hx
  simp only [AV.noFrL, Bool.and_eq_true] at h
  exact h.1
 | y :: l, j + 1, x, h, hx => by
  simp only [AV.noFrL, Bool.and_eq_true] at h
  exact noFrL_get h.2 (by simpa using hx)
 | [], j, x, _, hx => by simp at hx
theorem cellsAV_noFr (t : Tc) (x : Unit → t.el) : AV.noFrL (cellsAV false t x) = true := by cases t <;> rfl
theorem AVR.anew {x : AV} {v : Value} (h : AVR w ρ base ro x v) (hx : AV.noFr x = true) : AVR w ρ base' ro x v := by
 induction h with
 | un => exact .un _
 | int => exact .int _ _
 | lit => exact .lit _ _
 | bool => exact .bool _
 | blit => exact .blit _
 | str => exact .str _
 | nil => exact .nil
 | sl fr t l A c css hl hc hr hro1 hfr h ih =>
  have hfr0 : fr = false := by simpa [AV.noFr] using hx
  subst hfr0
  exact .sl false t l A c css hl hc hr hro1 (fun h => by cases h) fun k cs j y v h1 h2 h3 => ih k cs j y v h1 h2 h3 (noFrL_get (cellsAV_noFr _ _) h2)
 | wide fr t l n A c hn h ih => exact .wide fr t l n A c hn (ih (by simpa only [AV.noFr] using hx))
 | pto cells off b o cs hr hlt hl hc h ih => exact .pto cells off b o cs hr hlt hl hc fun j y v h1 h2 => ih j y v h1 h2 (noFrL_get (by simpa only [AV.noFr] using hx) h1)
 | ptr l off b h => exact .ptr _ _ _ h
 | own l A n c h => exact .own _ _ _ _ h
 | orp t l k off A n c b h hA h0 hn => exact .orp _ _ _ _ _ _ _ _ h hA h0 hn
 | mp l b h => exact .mp _ _ h
 | stamp l b h => exact .stamp _ _ h
 | it l l2 b h => exact .it _ _ _ h
 | agg l vs hl h ih => exact .agg _ _ hl fun j y v h1 h2 => ih j y v h1 h2 (noFrL_get (by simpa only [AV.noFr] using hx) h1)
 | tup l vs hl h ih => exact .tup _ _ hl fun j y v h1 h2 => ih j y v h1 h2 (noFrL_get (by simpa only [AV.noFr] using hx) h1)
 | fn f caps vs hl h ih => exact .fn _ _ _ hl fun j y v h1 h2 => ih j y v h1 h2 (noFrL_get (by simpa only [AV.noFr] using hx) h1)
theorem resAV_ok {C : Cx} (hty : TyOk P C.ty) (H : SimR w0 S0 N B S a w ρ ro) : ∀ {rs : List ResultVar} {l : List AV}, resAV C B S rs = some l →
 ∃ vs : List Value, (rs.mapM (resOne a.tmps) : Sem (List Value)).run P w = .ok vs w ∧ Each w ρ w0.heap.size ro l vs
 | [], l, h => by
  simp only [resAV, Option.some.injEq] at h
  subst h
  exact ⟨[], rfl, .nil⟩
 | .tmp t :: rs, l, h => by
  unfold resAV at h
  cases hr : resAV C B S rs with
  | none => rw [hr] at h; cases h
  | some r =>
   rw [hr] at h
   simp only [Option.map_some, Option.some.injEq] at h
   subst h
   obtain ⟨vs, h1, h2⟩ := resAV_ok hty H hr
   have h3 := H.get (.tmp t)
   refine ⟨a.eval (.tmp t) :: vs, ?_, .cons h3 h2⟩
   have hO : (resOne a.tmps (.tmp t)).run P w = .ok (a.eval (.tmp t)) w := rfl
   rw [List.mapM_cons]
   simp only [Sem.run_bind, Sem.run_pure, Result.andThen_ok, hO, h1]
 | .cell p T :: rs, l, h => by
  unfold resAV at h
  split at h
  · rename_i i hi
    split at h
    · rename_i x r hx hr
      cases h
      obtain ⟨vs, h1, h2⟩ := resAV_ok hty H hr
      obtain ⟨ad, v, h3, h4, h5⟩ := load_ok (fun l e he => H.en l e he) (hty T i hi) hx (H.get (.tmp p))
      refine ⟨v :: vs, ?_, .cons h5 h2⟩
      have h3' : a.tmps.getD p undef = .pointer (some ad) := h3
      have hA : (asAddr (a.tmps.getD p undef)).run P w = .ok ad w := by rw [h3']; rfl
      have hO : (resOne a.tmps (.cell p T)).run P w = .ok v w := by
       unfold resOne
       simp only [Sem.run_bind, hA, Result.andThen_ok, h4]
      rw [List.mapM_cons]
      simp only [Sem.run_bind, Sem.run_pure, Result.andThen_ok, hO, h1]
    · cases h
  · cases h
theorem results_of {fn : Func} {vs : List Value} (h : (fn.results.toList.mapM (resOne a.tmps) : Sem (List Value)).run P w = .ok vs w) : (results fn a.tmps).run P w = .ok (oneOr vs) w := by
 show (do
  let vs ← fn.results.mapM (resOne a.tmps)
  pure (if h : vs.size = 1 then vs[0] else .tuple vs) : Sem Value).run P w = _
 rw [Array.mapM_eq_mapM_toList]
 simp only [Sem.run_bind, Sem.run_map, h, Result.andThen_ok, Sem.run_pure]
 match vs with
 | [] => rfl
 | [v] => rfl
 | u :: v :: l => simp [oneOr]
theorem tup_each {l : List AV} {vs : List Value} (h : Each w ρ base ro l vs) : AVR w ρ base ro (tupOf l) (oneOr vs) := by
 match l, vs, h with
 | [], [], h => exact .tup [] [] h.1 h.2
 | [x], [v], h => exact h.2 0 x v rfl rfl
 | x :: y :: l, u :: v :: vs, h => exact .tup (x :: y :: l) (u :: v :: vs) h.1 h.2
 | [], _ :: _, h => exact absurd h.1 (by simp)
 | _ :: _, [], h => exact absurd h.1 (by simp)
 | [x], u :: v :: vs, h => exact absurd h.1 (by simp)
 | x :: y :: l, [v], h => exact absurd h.1 (by simp)
theorem alook_zip : ∀ (l : List AV) (k d : Nat) (x : AV), alook (zipT k l) d = some x → k ≤ d ∧ l[d - k]? = some x
 | [], k, d, x, h => by cases h
 | y :: l, k, d, x, h => by
  unfold zipT at h
  rw [alook_cons] at h
  split at h
  · rename_i e
    subst e
    cases h
    simp
  · obtain ⟨h1, h2⟩ := alook_zip l (k + 1) d x h
    refine ⟨by omega, ?_⟩
    rw [show d - k = (d - (k + 1)) + 1 by omega]
    simpa using h2
end
theorem callFunc_ok {P : Program} {f : FuncId} {fn : Func} (hf : P.funcs[f]? = some fn) (hb : fn.body.isNone = false) (hn : (fn.name == "runtime.NumGoroutine") = false) (args : Array Value) (w : World) : (callFunc f args).run P w = .ok (.enter f args) w := by
 unfold callFunc
 simp only [Sem.run_bind, run_program, Result.andThen_ok, hf, hn, hb, Bool.false_eq_true, if_false, Sem.run_pure]
section
variable {w w' w0 : World} {ρ ρ' ρ2 : Nat → Option Rl} {base base' n : Nat} {ro ro' : Nat → Prop}
theorem elAV_noFr (ag : Bool) (t : Tc) (x : Unit → t.el) : AV.noFr (elAV ag false t x) = true := by
 unfold elAV
 have h := cellsAV_noFr t x
 cases ag with
 | true => exact h
 | false =>
  simp only [Bool.false_eq_true, if_false]
  cases hc : cellsAV false t x with
  | nil => rfl
  | cons c l =>
   rw [hc] at h
   cases l with
   | nil => simpa [AV.noFrL] using h
   | cons c2 l => rfl
theorem EnR.anew {l : Nat} {e : En} (h : EnR w ρ base ro l e) (hx : En.noFr e = true) : EnR w ρ base' ro l e := by
 cases e with
 | box T cells =>
  obtain ⟨b, cs, h1, h4, h5⟩ := h
  exact ⟨b, cs, h1, h4, h5.1, fun j x v hx' hv => (h5.2 j x v hx' hv).anew (noFrL_get (by simpa [En.noFr] using hx) hx')⟩
 | row fr t T m =>
  obtain ⟨A, c, css, h1, h2, h3, h5⟩ := h
  have hf : fr = false := by simpa [En.noFr] using hx
  subst hf
  exact ⟨A, c, css, h1, h2, h3, fun k cs j x v k1 k2 k3 => (h5 k cs j x v k1 k2 k3).anew (noFrL_get (cellsAV_noFr _ _) k2)⟩
 | map fr ag c t T m =>
  obtain ⟨b, es, clock, h1, h2, h3, h4⟩ := h
  have hf : fr = false := by simpa [En.noFr] using hx
  subst hf
  exact ⟨b, es, clock, h1, h2, h3, h4.map_ fun x v hx => hx.anew (elAV_noFr _ _ _)⟩
 | iter ml c seen left => exact h
 | stamp ml c key => exact h
 | dead => exact h
theorem noFrE_get : ∀ {l : List (Nat × En)} {k : Nat} {e : En}, noFrE l = true → alook l k = some e → En.noFr e = true
 | (j, y) :: l, k, e, h, he => by
  unfold noFrE at h
  simp only [Bool.and_eq_true] at h
  rw [alook_cons] at he
  split at he
  · cases he; exact h.1
  · exact noFrE_get h.2 he
 | [], _, _, _, he => by cases he
theorem allK_get {ks : List Nat} : ∀ {n l : Nat}, allK ks n = true → l < n → memN l ks = true
 | n + 1, l, h, hl => by
  simp only [allK, Bool.and_eq_true] at h
  rcases Nat.lt_or_ge l n with h1 | h1
  · exact allK_get h.2 h1
  · rw [show l = n by omega]; exact h.1
 | 0, _, _, hl => by omega
end
theorem fnG_ok {P : Program} {C : Cx} {f : FuncId} {fn : Func} {Ls : List (Nat × Lp)} {avs : List AV} {es0 es : List (Nat × En)} {n0 : Nat} {want : AV} (hty : TyOk P C.ty) (hcs : (∀ c ∈ C.cs, ConOk P c) ∧ ∀ c ∈ C.fs, FonOk P c) (hmix : P.follows .mixedOrders = true) (hf : P.funcs[f]? = some fn) (hb : fn.body.isNone = false) (hok : codeOk (efs C.fs) C.sc C.lt fn.ntmps (bodyOf fn) = true)
 (hP : (fnG C Ls fn avs es0 n0 want es).P) {w : World} {ρ : Nat → Option Rl} {ra : Nat → Prop} {vals : List Value} (hra : ∀ b, ra b → b < w.heap.size) (hE : Each w ρ 0 ra avs vals) (hen : ∀ l e, alook es0 l = some e → EnR w ρ 0 ra l e) (hap : ∀ l l' r r' b, l ≠ l' → ρ l = some r → ρ l' = some r' → r.blk = some b → r'.blk ≠ some b) (hfr : ∀ l, n0 ≤ l → ρ l = none) (hown : ∀ l r b, ρ l = some r → r.blk = some b → b < w.heap.size ∧ ¬ ra b) :
 Calls P f vals.toArray w fun e w' => ∃ v ρ1 ra1, e = .returned v ∧ Left w w' ρ ρ1 ra ra1 es C.fx ∧ AVR w' ρ1 w.heap.size ra1 want v := by
 unfold fnG at hP
 split at hP
 · rename_i hcond
   simp only [Bool.and_eq_true, decide_eq_true_eq] at hcond
   obtain ⟨⟨⟨⟨⟨⟨hnb, hlen⟩, hnf⟩, hne⟩, hpl⟩, hple⟩, hall⟩ := hcond
   obtain ⟨code, hcode⟩ : ∃ code, fn.body = some code := by
    cases hbo : fn.body with
    | none => rw [hbo] at hb; cases hb
    | some code => exact ⟨code, rfl⟩
   have hbody : bodyOf fn = code := by unfold bodyOf; rw [hcode]; rfl
   rw [hbody] at hP hok
   have hvl : vals.length ≤ fn.ntmps := by rw [← hE.1]; exact hlen
   refine calls_of_wp hf hcode ?_
   have hsim : Sim w ⟨ra, ρ, C.fx⟩ fn.ntmps ⟨[], []⟩ ⟨zipT 0 avs, es0, n0⟩ ⟨vals.toArray ++ Array.replicate (fn.ntmps - vals.toArray.size) undef, []⟩ w := by
    refine ⟨ρ, ra, FromG.refl _ _, by simp; omega, rfl, hra, fun d x hx => ?_, fun l e he => ?_, hap, hfr, fun l r b h1 h2 => ⟨(hown l r b h1 h2).1, (hown l r b h1 h2).2, .inr ⟨r, h1, h2⟩⟩, fun b hb _ => hb, fun l r h _ => h, fun d x h => by simp [alook] at h, fun l e h => by simp [alook] at h⟩
    · have h1 : alook (zipT 0 avs) d = some x := by
       unfold lookT at hx
       dsimp only at hx
       split at hx
       · rename_i y hy; rw [hy, hx]
       · simp [alook] at hx
      obtain ⟨_, h2⟩ := alook_zip avs 0 d x h1
      rw [Nat.sub_zero] at h2
      obtain ⟨v, h3, h4⟩ := hE.get h2
      refine ⟨v, ?_, h4.anew (noFrL_get hnf h2)⟩
      have hd := (List.getElem?_eq_some_iff.1 h3).1
      rw [Array.getElem?_append_left (by simpa using hd)]
      simpa using h3
    · have h1 : alook es0 l = some e := by
       unfold lookE at he
       dsimp only at he
       split at he
       · rename_i y hy; rw [hy, he]
       · simp [alook] at he
      exact (hen l e h1).anew (noFrE_get hne h1)
   refine wp_mono (run_ok (F := ⟨C, fn.ntmps, Ls, retF C fn.results.toList want es⟩) (w0 := w) (S0 := ⟨ra, ρ, C.fx⟩) hty ⟨hcs.1, hcs.2, rfl, fun l r h => by
    rcases Nat.lt_or_ge l n0 with h1 | h1
    · show l < C.nb
      omega
    · have h2 : ρ l = some r := h
      rw [hfr l h1] at h2; cases h2⟩ hmix 100000 code ⟨[], []⟩ _ [] _ w hP hsim (.nil _) hok) fun e a' w' hq => ?_
   have hfin : ∀ S, Sim w ⟨ra, ρ, C.fx⟩ fn.ntmps ⟨[], []⟩ S a' w' → (retF C fn.results.toList want es ⟨[], []⟩ S).P → a'.defers = [] ∧ ∃ v, (results fn a'.tmps).run P w' = .ok v w' ∧ ∃ u ρ1 ra1, Ending.returned v = .returned u ∧ Left w w' ρ ρ1 ra ra1 es C.fx ∧ AVR w' ρ1 w.heap.size ra1 want u := by
    intro S H hr
    obtain ⟨ρ', ro, H⟩ := H
    unfold retF at hr
    split at hr
    · rename_i l hl
      split at hr
      · rename_i va vb hva hvb
        obtain ⟨vs, h1, h2⟩ := resAV_ok (P := P) hty H hl
        have hv := mem_app (allVC_mem hr)
        generalize hks : keysOf es = ks at hva hvb hpl hple hall
        obtain ⟨ρ1, hρ1⟩ : ∃ ρ1 : Nat → Option Rl, ρ1 = fun l => if memN l ks then ρ' l else none := ⟨_, rfl⟩
        obtain ⟨ra1, hra1⟩ : ∃ ra1 : Nat → Prop, ra1 = fun b => (ra b ∨ w.heap.size ≤ b) ∧ b < w'.heap.size ∧ ∀ l r, ρ1 l = some r → r.blk ≠ some b := ⟨_, rfl⟩
        have hback : ∀ l r, ρ1 l = some r → ρ' l = some r ∧ memN l ks = true := by
         intro l r h
         rw [hρ1] at h
         simp only at h
         split at h
         · rename_i hm; exact ⟨h, hm⟩
         · cases h
        have hro : ∀ b, ro b → ra1 b := by
         intro b hb
         rw [hra1]
         refine ⟨?_, H.roB b hb, fun l r h1 h2 => (H.own l r b (hback l r h1).1 h2).2.1 hb⟩
         rcases Nat.lt_or_ge b w.heap.size with h | h
         · exact .inl (H.roS b hb h)
         · exact .inr h
        have M : Anew w ρ' ρ1 ro ra1 (inK ks) (some ks) := by
         refine ⟨fun l r h hm => ?_, hro, (fun h => by cases h), fun ks' hk loc A n c h hm ad ha => ?_⟩
         · rw [hρ1]
           have hm' : memN l ks = true := hm
           simp only [hm', if_true]
           exact h
         · injection hk with hk
           subst hk
           have hbk : (Rl.row A n c).blk = some ad.block := by simp [Rl.blk, ha]
           have h3 := H.own loc _ ad.block h hbk
           have h4 : w.heap.size ≤ ad.block := by
            rcases h3.2.2 with h4 | ⟨r0, h4, _⟩
            · exact h4
            · have h4' : ρ loc = some r0 := h4
              rcases Nat.lt_or_ge loc n0 with h5 | h5
              · rw [allK_get hall h5] at hm; cases hm
              · rw [hfr loc h5] at h4'; cases h4'
           refine ⟨h4, ?_⟩
           rw [hra1]
           exact ⟨.inr h4, h3.1, fun l r h5 h6 => H.apart l loc r _ ad.block (fun e => by subst e; rw [(hback _ _ h5).2] at hm; cases hm) (hback l r h5).1 h h6 hbk⟩
        refine ⟨H.defers, _, results_of h1, _, ρ1, ra1, rfl, ⟨H.from_, fun l e he => eqEs_ok H M hvb hv.2 hple l e he, fun l l' r r' b hne k1 k2 k3 k4 => H.apart l l' r r' b hne (hback l r k1).1 (hback l' r' k2).1 k3 k4, fun l hl => ?_, fun l r b k1 k2 => ?_, fun b hb => ?_, fun l r k1 k2 => ?_⟩, eqAV_ok H M _ _ va _ hva hv.1 (tup_each h2) hpl⟩
        · rw [hks] at hl
          rw [hρ1]
          simp only [hl, Bool.false_eq_true, if_false]
        · have h3 := H.own l r b (hback l r k1).1 k2
          refine ⟨h3.1, fun hb => ?_, h3.2.2⟩
          rw [hra1] at hb
          exact hb.2.2 l r k1 k2
        · rw [hra1] at hb
          exact ⟨hb.2.1, fun hlt => hb.1.resolve_right (by omega)⟩
        · have h3 := H.solid l r k1 k2
          rw [hρ1]
          have hm : memN l ks = true := by
           rcases Nat.lt_or_ge l n0 with h5 | h5
           · exact allK_get hall h5
           · rw [hfr l h5] at k1; cases k1
          simp only [hm, if_true]
          exact h3
      · exact hr.elim
    · exact hr.elim
   cases e with
   | normal =>
    obtain ⟨g, S, _, H, hc⟩ := hq
    cases g with
    | zero => unfold cont at hc; exact hc.elim
    | succ g => unfold cont at hc; exact hfin S H hc
   | ret =>
    obtain ⟨g, S, _, H, hc⟩ := hq
    cases g with
    | zero => unfold leaveAll at hc; exact hc.elim
    | succ g => unfold leaveAll at hc; exact hfin S H hc
   | exit id =>
    obtain ⟨g, S, _, H, hc⟩ := hq
    cases g with
    | zero => unfold exitTo at hc; exact hc.elim
    | succ g => unfold exitTo at hc; exact hc.elim
   | goto l => exact hq.elim
   | panic c => exact hq.elim
   | outgrown => exact hq.elim
 · exact hP.elim
theorem conOk_of {P : Program} {C : Cx} {c : Con} {fn : Func} (hty : TyOk P C.ty) (hcs : (∀ c ∈ C.cs, ConOk P c) ∧ ∀ c ∈ C.fs, FonOk P c) (hmix : P.follows .mixedOrders = true) (hf : P.funcs[c.f]? = some fn) (hb : fn.body.isNone = false) (hn : (fn.name == "runtime.NumGoroutine") = false) (hok : codeOk (efs C.fs) C.sc C.lt fn.ntmps (bodyOf fn) = true)
 (h : ∀ avs res, c.go avs = some res → res.pre () → ∃ Ls, (fnF C Ls fn avs res.av).P) : ConOk P c := by
 refine ⟨fun args w => callFunc_ok hf hb hn args w, fun avs res hgo w ra vals hra hE hpre => ?_⟩
 obtain ⟨Ls, hP⟩ := h avs res hgo hpre
 refine (fnG_ok hty hcs hmix hf hb hok hP (ρ := fun _ => none) hra hE (fun l e h => by cases h) (fun _ _ _ _ _ _ h => by cases h) (fun _ _ => rfl) (fun _ _ _ h => by cases h)).mono fun e w' hq => ?_
 obtain ⟨v, ρ1, ra1, rfl, hL, hv⟩ := hq
 have hρ : ρ1 = fun _ => none := funext fun l => hL.fresh l rfl
 subst hρ
 refine ⟨v, rfl, hL.from_.none_, hv.mono (fun _ _ _ => rfl) (Ext.refl _) (Nat.le_refl _) fun b hb => ?_⟩
 rcases Nat.lt_or_ge b w.heap.size with h | h
 · exact .inl ((hL.rd b hb).2 h)
 · exact .inr h
theorem fonOk_of {P : Program} {C : Cx} {c : Fon} {fn : Func} (hfx : C.fx = c.fix) (hty : TyOk P C.ty) (hcs : (∀ c ∈ C.cs, ConOk P c) ∧ ∀ c ∈ C.fs, FonOk P c) (hmix : P.follows .mixedOrders = true) (hf : P.funcs[c.f]? = some fn) (hb : fn.body.isNone = false) (hn : (fn.name == "runtime.NumGoroutine") = false) (hok : codeOk (efs C.fs) C.sc C.lt fn.ntmps (bodyOf fn) = true)
 (h : ∀ avs es res, c.go avs es = some res → res.pre () → ∃ Ls, (fnG C Ls fn avs es c.n res.av res.es).P) : FonOk P c := by
 refine ⟨fun args w => callFunc_ok hf hb hn args w, fun avs es res hgo w ρ ra vals hra hE hen hap hfr hown hpre => ?_⟩
 obtain ⟨Ls, hP⟩ := h avs es res hgo hpre
 rw [← hfx]
 exact fnG_ok hty hcs hmix hf hb hok hP hra hE hen hap hfr hown
end Go.Proofs.YtfdjcakgolenbaaGreat
