/-
  The abstract run: regions of operations are sound, in their order and in any order.
-/
import Derived.Test.YtfdjcakgolenbaaGreatMu23
set_option linter.unusedVariables false
set_option linter.unusedSimpArgs false
namespace Go.Proofs.YtfdjcakgolenbaaGreat
open Go.RowKit
theorem allVC_mem : ∀ {l : List VC}, allVC l → ∀ c ∈ l, c ()
 | [], _, c, hc => by cases hc
 | [c], h, c', hc => by rw [List.mem_singleton] at hc; subst hc; exact h
 | c :: d :: l, h, c', hc => by
  rcases List.mem_cons.1 hc with rfl | hc
  · exact h.1
  · exact allVC_mem h.2 c' hc
section
variable {P : Program} {w w' w0 : World} {ρ ρ' : Nat → Option Rl} {base : Nat} {ro ro' : Nat → Prop} {S0 : Pm} {N : Nat} {B : Bs} {S : Sx} {a a0 : Act} {C : Cx} {Q : Exit → Act → World → Prop}
theorem put_self {d : Nat} {v : Value} (h : a.tmps[d]? = some v) : a.put (some d) v = a := by
 unfold Act.put
 have hlt := (Array.getElem?_eq_some_iff.1 h).1
 have : a.tmps.setIfInBounds d v = a.tmps := by
  apply Array.ext_getElem?
  intro i
  rw [Array.getElem?_setIfInBounds]
  split
  · rename_i e
    subst e
    rw [h]
  · rfl
 simp only [this]
theorem getT_some {d : Nat} {x : AV} (h : getT B S d = x) (hx : x ≠ .un) : lookT B S d = some x := by
 unfold getT at h
 cases hl : lookT B S d with
 | none => rw [hl] at h; exact absurd h.symm hx
 | some y =>
  rw [hl] at h
  have h' : y = x := h
  rw [h']
theorem Sim.refine_ (H : Sim w0 S0 N B S a w) {d : Nat} {c : Unit → Bool} {S' : Sx} (hd : getT B S d = .bool c) (hp : putT B S N d (.blit (c ())) = some S') : a.tmps[d]? = some (.bool (c ())) ∧ Sim w0 S0 N B S' a w := by
 obtain ⟨ρ, ro, H⟩ := H
 obtain ⟨u, h1, h2⟩ := H.tm d _ (getT_some hd (by simp))
 have h3 := h2.bool_
 subst h3
 refine ⟨h1, ρ, ro, ?_⟩
 have H2 := H.put hp (.blit (c ()))
 rwa [put_self h1] at H2
inductive Dec (B : Bs) (N : Nat) (l : List Oper) (S : Sx) (o : Oper) : Bool → Sx → Prop
 | free (h : o.guard = none) : Dec B N l S o true S
 | lit (j d : Nat) (b c : Bool) (oj : Oper) (h : o.guard = some (j, b)) (hj : l[j]? = some oj) (hd : oj.dst = some d) (hc : getT B S d = .blit c) : Dec B N l S o (c == b) S
 | gone (j d : Nat) (b : Bool) (oj : Oper) (h : o.guard = some (j, b)) (hj : l[j]? = some oj) (hd : oj.dst = some d) (hc : getT B S d = .tup []) : Dec B N l S o false S
 | ask (j d : Nat) (b : Bool) (c : Unit → Bool) (oj : Oper) (S' : Sx) (h : o.guard = some (j, b)) (hj : l[j]? = some oj) (hd : oj.dst = some d) (hc : getT B S d = .bool c) (hp : putT B S N d (.blit (c ())) = some S') : Dec B N l S o (c () == b) S'
theorem wanted_undef {l : List Oper} {o oj : Oper} {j d : Nat} {b : Bool} (h : o.guard = some (j, b)) (hj : l[j]? = some oj) (hd : oj.dst = some d) (hu : a.tmps[d]? = some undef) : Region.wanted o (yielded l.toArray a.tmps) = false := by
 have h1 : yielded l.toArray a.tmps j = none := by
  unfold yielded
  have h2 : ((l.toArray[j]?).bind (·.dst)).bind (a.tmps[·]?) = some undef := by simp [hj, hd, hu]
  rw [h2]
  rfl
 unfold Region.wanted
 rw [h]
 simp only [h1]
 rfl
theorem undef_of {v : Value} (h : AVR w ρ base ro (.tup []) v) : v = undef := by
 obtain ⟨vs, rfl, hE⟩ := h.tup_
 rw [hE.none]
 rfl
theorem Dec.seq {l : List Oper} {o : Oper} {r : Bool} {S' : Sx} (h : Dec B N l S o r S') (H : Sim w0 S0 N B S a w) : Region.wanted o (yielded l.toArray a.tmps) = r ∧ Sim w0 S0 N B S' a w := by
 cases h with
 | free h => exact ⟨wanted_none h _, H⟩
 | lit j d b c oj h hj hd hc =>
  obtain ⟨ρ, ro, HR⟩ := H
  obtain ⟨u, h1, h2⟩ := HR.tm d _ (getT_some hc (by simp))
  rw [h2.blit_] at h1
  exact ⟨wanted_some h (by simpa using hj) hd h1 rfl, ρ, ro, HR⟩
 | gone j d b oj h hj hd hc =>
  obtain ⟨ρ, ro, HR⟩ := H
  obtain ⟨u, h1, h2⟩ := HR.tm d _ (getT_some hc (by simp))
  rw [undef_of h2] at h1
  exact ⟨wanted_undef h hj hd h1, ρ, ro, HR⟩
 | ask j d b c oj S' h hj hd hc hp =>
  obtain ⟨h1, h2⟩ := H.refine_ hc hp
  exact ⟨wanted_some h (by simpa using hj) hd h1 rfl, h2⟩
theorem goOps_way {l rest : List Oper} {o : Oper} {k : Sx → Fm} (h : (goOps C N B l (o :: rest) S k).P) : ∃ r S1, Dec B N l S o r S1 ∧
 ((r = true ∧ ((∃ S2 vcs, stepOp C N B S1 o = some (S2, vcs) ∧ (∀ c ∈ vcs, c ()) ∧ (goOps C N B l rest S2 k).P) ∨ ∃ f, splitOp C N B S1 o = some f ∧ (f fun S' => goOps C N B l rest S' k).P)) ∨ (r = false ∧ ∃ S2, skipOp N B S1 o = some S2 ∧ (goOps C N B l rest S2 k).P)) := by
 have hgo : ∀ S1, (match splitOp C N B S1 o with
  | some f => f fun S' => goOps C N B l rest S' k
  | none => match stepOp C N B S1 o with
   | some (S', []) => goOps C N B l rest S' k
   | some (S', vcs) => .vc vcs (goOps C N B l rest S' k)
   | none => .ff (1000 + rest.length) : Fm).P → (∃ S2 vcs, stepOp C N B S1 o = some (S2, vcs) ∧ (∀ c ∈ vcs, c ()) ∧ (goOps C N B l rest S2 k).P) ∨ ∃ f, splitOp C N B S1 o = some f ∧ (f fun S' => goOps C N B l rest S' k).P := by
  intro S1 h
  cases hsp : splitOp C N B S1 o with
  | some f =>
   rw [hsp] at h
   exact .inr ⟨f, rfl, h⟩
  | none =>
   rw [hsp] at h
   dsimp only at h
   left
   split at h
   · rename_i S2 hs
     exact ⟨S2, [], hs, (fun c hc => by cases hc), h⟩
   · rename_i S2 vcs _ hs
     exact ⟨S2, vcs, hs, allVC_mem h.1, h.2⟩
   · exact h.elim
 have hno : ∀ S1, (match skipOp N B S1 o with
  | some S' => goOps C N B l rest S' k
  | none => .ff 3 : Fm).P → ∃ S2, skipOp N B S1 o = some S2 ∧ (goOps C N B l rest S2 k).P := by
  intro S1 h
  split at h
  · rename_i S2 hs
    exact ⟨S2, hs, h⟩
  · exact h.elim
 unfold goOps at h
 dsimp only at h
 split at h
 · rename_i hw
   unfold wantedAV at hw
   split at hw
   · rename_i hg
     exact ⟨true, S, .free hg, .inl ⟨rfl, hgo S h⟩⟩
   · rename_i j b hg
     split at hw
     · rename_i d hd
       obtain ⟨oj, hoj, hdj⟩ := Option.bind_eq_some_iff.1 hd
       split at hw
       · rename_i c hc
         split at hw
         · rename_i hcb
           exact ⟨_, S, .lit j d b c oj hg hoj hdj hc, .inl ⟨by rw [hcb]; simp, hgo S h⟩⟩
         · cases hw
       · cases hw
       · cases hw
       · cases hw
     · cases hw
 · rename_i hw
   unfold wantedAV at hw
   split at hw
   · cases hw
   · rename_i j b hg
     split at hw
     · rename_i d hd
       obtain ⟨oj, hoj, hdj⟩ := Option.bind_eq_some_iff.1 hd
       split at hw
       · rename_i c hc
         split at hw
         · cases hw
         · rename_i hcb
           exact ⟨_, S, .lit j d b c oj hg hoj hdj hc, .inr ⟨by simpa using hcb, hno S h⟩⟩
       · cases hw
       · rename_i hc
         exact ⟨false, S, .gone j d b oj hg hoj hdj hc, .inr ⟨rfl, hno S h⟩⟩
       · cases hw
     · cases hw
 · rename_i d c b hw
   unfold wantedAV at hw
   split at hw
   · cases hw
   · rename_i j b' hg
     split at hw
     · rename_i d' hd
       obtain ⟨oj, hoj, hdj⟩ := Option.bind_eq_some_iff.1 hd
       split at hw
       · split at hw <;> cases hw
       · rename_i c' hc
         injection hw with e1 e2 e3
         subst e1; subst e2; subst e3
         split at h
         · rename_i S1 S2 h1 h2
           have hdec : ∀ S', putT B S N d' (.blit (c' ())) = some S' → Dec B N l S o (c' () == b') S' := fun S' hp => .ask j d' b' c' oj S' hg hoj hdj hc hp
           obtain ⟨ht, hf⟩ := h
           cases hcv : c' () with
           | true =>
            rw [hcv] at hdec
            refine ⟨_, S1, hdec S1 h1, ?_⟩
            have h3 := ht hcv
            cases b' with
            | true => exact .inl ⟨rfl, hgo S1 h3⟩
            | false => exact .inr ⟨rfl, hno S1 h3⟩
           | false =>
            rw [hcv] at hdec
            refine ⟨_, S2, hdec S2 h2, ?_⟩
            have h3 := hf hcv
            cases b' with
            | true => exact .inr ⟨rfl, hno S2 h3⟩
            | false => exact .inl ⟨rfl, hgo S2 h3⟩
         · exact h.elim
       · cases hw
       · cases hw
     · cases hw
 · exact h.elim
theorem goOps_seq (hty : TyOk P C.ty) (hcs : CxOk P C S0) {l : List Oper} {k : Sx → Fm} (hk : ∀ S' a' w', Sim w0 S0 N B S' a' w' → (k S').P → Q .normal a' w') : ∀ {rest : List Oper} {S : Sx} {a : Act} {w : World}, (goOps C N B l rest S k).P → Sim w0 S0 N B S a w → wpList P l.toArray Q rest a w
 | [], S, a, w, h, H => hk S a w H h
 | o :: rest, S, a, w, h, H => by
  obtain ⟨r, S1, hdec, hway⟩ := goOps_way h
  obtain ⟨hw, H1⟩ := hdec.seq H
  unfold wpList
  rcases hway with ⟨rfl, ⟨S2, vcs, hs, hv, h2⟩ | ⟨f, hs, h2⟩⟩ | ⟨rfl, S2, hs, h2⟩
  · rw [if_pos hw]
    exact .inl ((stepOp_ok hty hcs H1 hs hv).wp fun a' w' H2 => goOps_seq hty hcs hk h2 H2)
  · rw [if_pos hw]
    exact .inl ((splitOp_ok hty H1 hs h2).wp fun a' w' ⟨S', H2, h3⟩ => goOps_seq hty hcs hk h3 H2)
  · rw [if_neg (by rw [hw]; simp)]
    exact goOps_seq hty hcs hk h2 (skipOp_ok H1 hs)
/- a region that draws its order -/
inductive Path (C : Cx) (N : Nat) (B : Bs) (l : List Oper) : Sx → List Oper → List (Option AV) → Sx → Prop
 | nil (S0 : Sx) : Path C N B l S0 [] [] S0
 | go {S0 S1 S2 S' : Sx} {o : Oper} {rest : List Oper} {av : AV} {vcs : List VC} {avs : List (Option AV)} {d : Nat} (hw : Dec B N l S0 o true S1) (hp : pureOp C.ty C.cs (lookE B S1) (getO B S1) o.op = some (av, vcs)) (hv : ∀ c ∈ vcs, c ()) (hd : o.dst = some d) (hput : putT B S1 N d av = some S2) (h : Path C N B l S2 rest avs S') : Path C N B l S0 (o :: rest) (some av :: avs) S'
 | no {S0 S1 S2 S' : Sx} {o : Oper} {rest : List Oper} {avs : List (Option AV)} {d : Nat} (hw : Dec B N l S0 o false S1) (hd : o.dst = some d) (hput : putT B S1 N d (.tup []) = some S2) (h : Path C N B l S2 rest avs S') : Path C N B l S0 (o :: rest) (none :: avs) S'
theorem isPure_mem {o : Oper} (h : isPure (efs C.fs) o.op = true) : memOp C N B S o = none := by
 obtain ⟨dst, op, ty, pos, aft, gd⟩ := o
 cases op <;> first | rfl | (cases h; done) | skip
 rename_i c
 obtain ⟨callee, cargs, cts⟩ := c
 cases callee with
 | value f => rfl
 | invoke r m => rfl
 | builtin b => cases b <;> first | rfl | cases h
theorem efs_find {f : Nat} : ∀ {cs : List Fon}, memN f (efs cs) = false → findFon cs f = none
 | [], _ => rfl
 | c :: cs, h => by
  simp only [efs, memN, Bool.or_eq_false_iff] at h
  unfold findFon
  rw [if_neg (by rw [h.1]; simp)]
  exact efs_find h.2
theorem isPure_call {o : Oper} (h : isPure (efs C.fs) o.op = true) : callOp C N B S o = none := by
 obtain ⟨dst, op, ty, pos, aft, gd⟩ := o
 cases op <;> first | rfl | skip
 rename_i c
 obtain ⟨callee, cargs, cts⟩ := c
 cases callee with
 | value x =>
  cases x with
  | func f =>
   have hm : memN f (efs C.fs) = false := by simpa [isPure] using h
   unfold callOp
   dsimp only
   rw [efs_find hm]
  | tmp d => rfl
  | const v => rfl
  | global g => rfl
 | invoke r m => rfl
 | builtin b => rfl
theorem isPure_split {o : Oper} (h : isPure (efs C.fs) o.op = true) : splitOp C N B S o = none := by
 obtain ⟨dst, op, ty, pos, aft, gd⟩ := o
 cases op <;> first | rfl | cases h
theorem goOps_path {l : List Oper} {k : Sx → Fm} : ∀ {pre tail : List Oper} {S : Sx}, (∀ o ∈ pre, isPure (efs C.fs) o.op = true ∧ ∃ d, o.dst = some d) → (goOps C N B l (pre ++ tail) S k).P → ∃ avs S', Path C N B l S pre avs S' ∧ (goOps C N B l tail S' k).P
 | [], tail, S, _, h => ⟨[], S, .nil S, h⟩
 | o :: pre, tail, S, hp, h => by
  obtain ⟨r, S1, hdec, hway⟩ := goOps_way h
  obtain ⟨hpo, d, hd⟩ := hp o (.head _)
  have hp' : ∀ o ∈ pre, isPure (efs C.fs) o.op = true ∧ ∃ d, o.dst = some d := fun o ho => hp o (.tail _ ho)
  rcases hway with ⟨rfl, ⟨S2, vcs, hs, hv, h2⟩ | ⟨f, hs, h2⟩⟩ | ⟨rfl, S2, hs, h2⟩
  rotate_left
  · rw [isPure_split hpo] at hs
    cases hs
  rotate_left
  · unfold stepOp at hs
    split at hs
    · rename_i av vcs' hpu
      rw [hd] at hs
      dsimp only at hs
      cases hput : putT B S1 N d av with
      | none => rw [hput] at hs; cases hs
      | some S3 =>
       rw [hput] at hs
       cases hs
       obtain ⟨avs, S', h3, h4⟩ := goOps_path hp' h2
       exact ⟨_, S', .go hdec hpu hv hd hput h3, h4⟩
    · rw [isPure_mem hpo] at hs
      dsimp only at hs
      rw [isPure_call hpo] at hs
      cases hs
  · unfold skipOp at hs
    rw [hd] at hs
    obtain ⟨avs, S', h3, h4⟩ := goOps_path hp' h2
    exact ⟨_, S', .no hdec hd hs h3, h4⟩
theorem putT_look {S' : Sx} {d s : Nat} {x : AV} (h : putT B S N d x = some S') : S'.e = S.e ∧ S'.n = S.n ∧ (∀ y, lookT B S' s = some y → (s = d ∧ y = x) ∨ (s ≠ d ∧ lookT B S s = some y)) := by
 unfold putT at h
 split at h
 · cases h
 · cases h
   refine ⟨rfl, rfl, fun y hy => ?_⟩
   unfold lookT at hy ⊢
   rw [alook_cons] at hy
   by_cases e : d = s
   · rw [if_pos e] at hy
     injection hy with hy
     exact .inl ⟨e.symm, hy.symm⟩
   · rw [if_neg e] at hy
     exact .inr ⟨fun e' => e e'.symm, hy⟩
def Claim (B : Bs) (l : List Oper) (a0 : Act) (w : World) (ρ : Nat → Option Rl) (base : Nat) (ro : Nat → Prop) (L : Nat → Bool) (val : Nat → Value) (i : Nat) (S : Sx) : Prop :=
 ∀ s x, lookT B S s = some x → match prodOf l s i with
  | none => ∃ u, a0.tmps[s]? = some u ∧ AVR w ρ base ro x u
  | some j => L j = true → AVR w ρ base ro x (val j)
theorem Claim.dec {l : List Oper} {L : Nat → Bool} {val : Nat → Value} {i : Nat} {o : Oper} {r : Bool} {S' : Sx} (h : Claim B l a0 w ρ base ro L val i S) (hd : Dec B N l S o r S') : Claim B l a0 w ρ base ro L val i S' ∧ S'.e = S.e ∧ S'.n = S.n := by
 cases hd with
 | free => exact ⟨h, rfl, rfl⟩
 | lit => exact ⟨h, rfl, rfl⟩
 | gone => exact ⟨h, rfl, rfl⟩
 | ask j d b c oj S' hg hj hdj hc hp =>
  refine ⟨fun s x hx => ?_, (putT_look (s := 0) hp).1, (putT_look (s := 0) hp).2.1⟩
  rcases (putT_look (s := s) hp).2.2 x hx with ⟨rfl, rfl⟩ | ⟨_, h2⟩
  · have h3 := h s _ (getT_some hc (by simp))
    split
    · rename_i hpr
      rw [hpr] at h3
      obtain ⟨u, h4, h5⟩ := h3
      exact ⟨u, h4, by rw [h5.bool_]; exact .blit _⟩
    · rename_i j' hpr
      rw [hpr] at h3
      intro hL
      rw [(h3 hL).bool_]
      exact .blit _
  · exact h s x h2
theorem prodOf_succ {l : List Oper} {s i : Nat} : prodOf l s (i + 1) = if ((l[i]?).bind (·.dst)) == some s then some i else prodOf l s i := rfl
theorem Claim.put {l : List Oper} {L : Nat → Bool} {val : Nat → Value} {i d : Nat} {o : Oper} {av : AV} {S' : Sx} (h : Claim B l a0 w ρ base ro L val i S) (ho : l[i]? = some o) (hd : o.dst = some d) (hp : putT B S N d av = some S') (hv : L i = true → AVR w ρ base ro av (val i)) : Claim B l a0 w ρ base ro L val (i + 1) S' := by
 intro s x hx
 rw [prodOf_succ, ho]
 simp only [Option.bind_some, hd]
 rcases (putT_look (s := s) hp).2.2 x hx with ⟨rfl, rfl⟩ | ⟨h1, h2⟩
 · rw [if_pos (by simp)]
   exact hv
 · rw [if_neg (by simpa using fun e => h1 e.symm)]
   exact h s x h2
theorem Path.stage {l : List Oper} {L : Nat → Bool} {val : Nat → Value} : ∀ {rest : List Oper} {S S' : Sx} {avs : List (Option AV)} {i : Nat}, Path C N B l S rest avs S' → (∀ j o, rest[j]? = some o → l[i + j]? = some o) → Claim B l a0 w ρ base ro L val i S → (∀ j av, avs[j]? = some (some av) → L (i + j) = true → AVR w ρ base ro av (val (i + j))) → (∀ j, avs[j]? = some none → L (i + j) = true → val (i + j) = undef) →
 (∀ m o, rest[m]? = some o → ∃ S0 S1 r, Claim B l a0 w ρ base ro L val (i + m) S0 ∧ Claim B l a0 w ρ base ro L val (i + m) S1 ∧ S1.e = S.e ∧ Dec B N l S0 o r S1 ∧ ((r = true ∧ ∃ av vcs, avs[m]? = some (some av) ∧ pureOp C.ty C.cs (lookE B S1) (getO B S1) o.op = some (av, vcs) ∧ ∀ c ∈ vcs, c ()) ∨ (r = false ∧ avs[m]? = some none))) ∧ Claim B l a0 w ρ base ro L val (i + rest.length) S' ∧ S'.e = S.e ∧ S'.n = S.n ∧ avs.length = rest.length
 | [], S, S', avs, i, h, _, hc, _, _ => by
  cases h
  exact ⟨fun m o hm => by simp at hm, hc, rfl, rfl, rfl⟩
 | o :: rest, S, S', avs, i, h, hl, hc, hav, hnv => by
  cases h with
  | @go _ S1 S2 _ _ _ av vcs avs d hw hp hv hd hput h =>
   obtain ⟨hc1, he1, hn1⟩ := hc.dec hw
   have ho : l[i]? = some o := by simpa using hl 0 o rfl
   have hc2 : Claim B l a0 w ρ base ro L val (i + 1) S2 := hc1.put ho hd hput (fun hL => by simpa using hav 0 av rfl (by simpa using hL))
   obtain ⟨q1, q2, q3, q4, q5⟩ := Path.stage (i := i + 1) h (fun j o' hj => by rw [show i + 1 + j = i + (j + 1) by omega]; exact hl (j + 1) o' (by simpa using hj)) hc2 (fun j av' hj hL => by rw [show i + 1 + j = i + (j + 1) by omega] at hL ⊢; exact hav (j + 1) av' (by simpa using hj) hL) (fun j hj hL => by rw [show i + 1 + j = i + (j + 1) by omega] at hL ⊢; exact hnv (j + 1) (by simpa using hj) hL)
   have hp2 := putT_look (s := 0) hput
   refine ⟨fun m o' hm => ?_, by rw [List.length_cons, show i + (rest.length + 1) = i + 1 + rest.length by omega]; exact q2, by rw [q3, hp2.1, he1], by rw [q4, hp2.2.1, hn1], by simp [q5]⟩
   cases m with
   | zero =>
    simp only [List.getElem?_cons_zero, Option.some.injEq] at hm
    subst hm
    exact ⟨S, S1, true, hc, hc1, he1, hw, .inl ⟨rfl, av, vcs, rfl, hp, hv⟩⟩
   | succ m =>
    obtain ⟨S0, S3, r, k1, k2, k3, k4, k5⟩ := q1 m o' (by simpa using hm)
    rw [show i + 1 + m = i + (m + 1) by omega] at k1 k2
    exact ⟨S0, S3, r, k1, k2, by rw [k3, hp2.1, he1], k4, by simpa using k5⟩
  | @no _ S1 S2 _ _ _ avs d hw hd hput h =>
   obtain ⟨hc1, he1, hn1⟩ := hc.dec hw
   have ho : l[i]? = some o := by simpa using hl 0 o rfl
   have hc2 : Claim B l a0 w ρ base ro L val (i + 1) S2 := hc1.put ho hd hput (fun hL => by rw [show val i = undef by simpa using hnv 0 rfl (by simpa using hL)]; exact undef_ok)
   obtain ⟨q1, q2, q3, q4, q5⟩ := Path.stage (i := i + 1) h (fun j o' hj => by rw [show i + 1 + j = i + (j + 1) by omega]; exact hl (j + 1) o' (by simpa using hj)) hc2 (fun j av' hj hL => by rw [show i + 1 + j = i + (j + 1) by omega] at hL ⊢; exact hav (j + 1) av' (by simpa using hj) hL) (fun j hj hL => by rw [show i + 1 + j = i + (j + 1) by omega] at hL ⊢; exact hnv (j + 1) (by simpa using hj) hL)
   have hp2 := putT_look (s := 0) hput
   refine ⟨fun m o' hm => ?_, by rw [List.length_cons, show i + (rest.length + 1) = i + 1 + rest.length by omega]; exact q2, by rw [q3, hp2.1, he1], by rw [q4, hp2.2.1, hn1], by simp [q5]⟩
   cases m with
   | zero =>
    simp only [List.getElem?_cons_zero, Option.some.injEq] at hm
    subst hm
    exact ⟨S, S1, false, hc, hc1, he1, hw, .inr ⟨rfl, rfl⟩⟩
   | succ m =>
    obtain ⟨S0, S3, r, k1, k2, k3, k4, k5⟩ := q1 m o' (by simpa using hm)
    rw [show i + 1 + m = i + (m + 1) by omega] at k1 k2
    exact ⟨S0, S3, r, k1, k2, by rw [k3, hp2.1, he1], k4, by simpa using k5⟩
theorem putT_dis {S' : Sx} {d : Nat} {x : AV} (h : putT B S N d x = some S') (hd : ∀ d x, alook B.t d = some x → alook S.t d = none) : ∀ d x, alook B.t d = some x → alook S'.t d = none := by
 unfold putT at h
 split at h
 · cases h
 · rename_i hc
   simp only [Bool.or_eq_true, not_or, Bool.not_eq_true, Option.isSome_eq_false_iff, Option.isNone_iff_eq_none] at hc
   cases h
   intro s y hy
   rw [alook_cons, if_neg (by rintro rfl; rw [hc.1] at hy; cases hy)]
   exact hd s y hy
theorem Dec.dis {l : List Oper} {o : Oper} {r : Bool} {S' : Sx} (h : Dec B N l S o r S') (hd : ∀ d x, alook B.t d = some x → alook S.t d = none) : ∀ d x, alook B.t d = some x → alook S'.t d = none := by
 cases h with
 | free => exact hd
 | lit => exact hd
 | gone => exact hd
 | ask j d b c oj S2 hg hj hdj hc hp => exact putT_dis hp hd
theorem Path.dis {l : List Oper} : ∀ {rest : List Oper} {S S' : Sx} {avs : List (Option AV)}, Path C N B l S rest avs S' → (∀ d x, alook B.t d = some x → alook S.t d = none) → ∀ d x, alook B.t d = some x → alook S'.t d = none := by
 intro rest S S' avs h
 induction h with
 | nil => exact id
 | go hw hp hv hd hput h ih =>
  intro hd0
  exact ih (putT_dis hput (hw.dis hd0))
 | no hw hd hput h ih =>
  intro hd0
  exact ih (putT_dis hput (hw.dis hd0))
end
theorem apartB_spec {l : List Oper} {i j : Nat} {oi oj : Oper} (h : apartB l i = true) (hi : l[i]? = some oi) (hj : l[j]? = some oj) (hne : j ≠ i) : (∃ e ∈ oi.after, Region.binds .any e = true ∧ e.on = j) ∨ (∃ e ∈ oj.after, Region.binds .any e = true ∧ e.on = i) ∨ oi.apart l.toArray oj = true := by
 unfold apartB at h
 rw [hi] at h
 have hlt := (List.getElem?_eq_some_iff.1 hj).1
 have h1 := List.all_eq_true.1 h j (List.mem_range.2 hlt)
 rw [hj] at h1
 simp only [Bool.or_eq_true, beq_iff_eq] at h1
 have hany : ∀ {es : Array Edge} {k : Nat}, (es.any fun e => Region.binds .any e && e.on == k) = true → ∃ e ∈ es, Region.binds .any e = true ∧ e.on = k := by
  intro es k h
  rw [Array.any_eq_true'] at h
  obtain ⟨e, he, h2⟩ := h
  simp only [Bool.and_eq_true, beq_iff_eq] at h2
  exact ⟨e, he, h2⟩
 rcases h1 with ((h1 | h1) | h1) | h1
 · exact absurd h1.symm hne
 · exact .inl (hany h1)
 · exact .inr (.inl (hany h1))
 · exact .inr (.inr h1)
theorem wpAny_eag {P : Program} {Q : Exit → Act → World → Prop} {l : List Oper} (reg : Nat → Bool) (hsel : ∀ (j : Nat) (o : Oper) cs b, l.toArray[j]? = some o → o.op ≠ .select cs b) (hQ : ∀ c a w, ¬ Q (.panic c) a w) (hap : ∀ i, reg i = true → apartB l i = true)
 (Inv : Array Bool → Act → World → Prop) (hend : ∀ listed a w, Inv listed a w → Region.ready .any l.toArray listed = [] → Q .normal a w)
 (hreg : ∀ listed a w i o, Inv listed a w → i ∈ Region.ready .any l.toArray listed → reg i = true → l[i]? = some o → ∃ v, Yields P l.toArray o v a ∧ Inv (listed.setIfInBounds i true) (a.put o.dst v) w)
 (hstep : ∀ listed a w i, Inv listed a w → i ∈ Region.ready .any l.toArray listed → (∀ j ∈ Region.ready .any l.toArray listed, reg j = false) → wpOp P l.toArray Q i (Inv (listed.setIfInBounds i true)) a w) :
 ∀ (fuel : Nat) (listed : Array Bool) (a : Act) (w : World), listed.toList.count false ≤ fuel → Inv listed a w → wpAny P .any l.toArray Q fuel listed a w := by
 have hcount : ∀ (listed : Array Bool) (i : Nat), i ∈ Region.ready .any l.toArray listed → (listed.setIfInBounds i true).toList.count false + 1 = listed.toList.count false := by
  intro listed i hi
  obtain ⟨h1, _⟩ := mem_ready.1 hi
  obtain ⟨_, hlt⟩ := listed_false h1
  have h2 : listed.toList[i]'(by simpa using hlt) = false := by
   rw [Array.getD_eq_getD_getElem?, Array.getElem?_eq_getElem hlt] at h1
   simpa using h1
  rw [Array.toList_setIfInBounds]
  have h3 := List.count_set (l := listed.toList) (i := i) (a := true) (b := false) (by simpa using hlt)
  have h4 : 0 < listed.toList.count false := List.count_pos_iff.2 (h2 ▸ List.getElem_mem _)
  have e1 : ((listed.toList[i]'(by simpa using hlt)) == false) = true := by rw [h2]; rfl
  have e2 : (true == false) = false := rfl
  rw [h3]
  simp only [e1, e2, if_true, Bool.false_eq_true, if_false]
  omega
 intro fuel
 induction fuel with
 | zero =>
  intro listed a w hc h
  have hr : Region.ready .any l.toArray listed = [] := by
   rw [List.eq_nil_iff_forall_not_mem]
   intro i hi
   have := hcount listed i hi
   omega
  exact ⟨hr, hend listed a w h hr⟩
 | succ fuel ih =>
  intro listed a w hc h
  by_cases hex : ∃ i, i ∈ Region.ready .any l.toArray listed ∧ reg i = true
  · obtain ⟨i, hi, hri⟩ := hex
    obtain ⟨hun, o, ho, haft⟩ := mem_ready.1 hi
    have ho' : l[i]? = some o := by simpa using ho
    obtain ⟨v, hy, h2⟩ := hreg listed a w i o h hi hri ho'
    refine wpAny_first ho hsel (fun c a w hq => (hQ c _ w hq).elim) fuel listed a w (fun j oj hoj hne hjl hno => ?_) hi hy (ih _ _ _ (by have := hcount listed i hi; omega) h2)
    rcases apartB_spec (hap i hri) ho' (by simpa using hoj) hne with ⟨e, he, hb, hon⟩ | ⟨e, he, hb, hon⟩ | h3
    · have h4 := haft e he hb
      rw [hon] at h4
      rw [Array.getD_eq_getD_getElem?] at h4 hjl
      cases hq : listed[j]? with
      | none => rw [hq] at h4; cases h4
      | some q => rw [hq] at h4 hjl; simp only [Option.getD_some] at h4 hjl; rw [h4] at hjl; cases hjl
    · exact absurd hon (hno e he hb)
    · exact h3
  · refine ⟨fun hr => hend listed a w h hr, fun i hi => ?_⟩
    have hall : ∀ j ∈ Region.ready .any l.toArray listed, reg j = false := fun j hj => by
     cases hq : reg j with
     | false => rfl
     | true => exact (hex ⟨j, hj, hq⟩).elim
    exact wpOp_mono (fun a' w' h' => ih _ _ _ (by have := hcount listed i hi; omega) h') (hstep listed a w i h hi hall)
theorem posN_none {σ : List Nat} {j : Nat} (h : j ∉ σ) : posN σ j = σ.length := by
 induction σ with
 | nil => rfl
 | cons k l ih =>
  unfold posN
  rw [if_neg (by rintro rfl; exact h (by simp)), ih fun hm => h (by simp [hm])]
  rfl
section
variable {P : Program} {Q : Exit → Act → World → Prop} {l : List Oper} {σ : List Nat}
theorem perm_len (h : permB σ l.length = true) : σ.length = l.length := by
 simp only [permB, Bool.and_eq_true, beq_iff_eq] at h
 exact h.1.1
theorem perm_pos (h : permB σ l.length = true) {j : Nat} (hj : j < l.length) : σ[posN σ j]? = some j := by
 simp only [permB, Bool.and_eq_true, beq_iff_eq] at h
 have := List.all_eq_true.1 h.1.2 j (List.mem_range.2 hj)
 simpa using this
theorem perm_at (h : permB σ l.length = true) {k i : Nat} (hk : σ[k]? = some i) : i < l.length ∧ posN σ i = k := by
 have hlt := (List.getElem?_eq_some_iff.1 hk).1
 rw [perm_len h] at hlt
 simp only [permB, Bool.and_eq_true, beq_iff_eq] at h
 have := List.all_eq_true.1 h.2 k (List.mem_range.2 hlt)
 rw [hk] at this
 simpa using this
theorem perm_out (h : permB σ l.length = true) {j : Nat} (hj : l.length ≤ j) : posN σ j = l.length := by
 rw [posN_none, perm_len h]
 intro hm
 obtain ⟨k, hk⟩ := List.mem_iff_getElem?.1 hm
 have := (perm_at h hk).1
 omega
theorem permL_get (h : permB σ l.length = true) (j : Nat) : (permL σ l)[posN σ j]? = (l[j]?).map (remapO σ) := by
 rcases Nat.lt_or_ge j l.length with hj | hj
 · unfold permL
   rw [List.getElem?_map, perm_pos h hj, List.getElem?_eq_getElem hj]
   simp [hj]
 · rw [perm_out h hj, List.getElem?_eq_none hj, List.getElem?_eq_none (by unfold permL; simp [perm_len h])]
   rfl
def SameL (σ : List Nat) (n : Nat) (listed listed' : Array Bool) : Prop := listed.size = n ∧ listed'.size = n ∧ ∀ j, j < n → listed'[posN σ j]? = listed[j]?
theorem SameL.getD (h : permB σ l.length = true) {L L' : Array Bool} (hs : SameL σ l.length L L') (j : Nat) (d : Bool) : L'.getD (posN σ j) d = L.getD j d := by
 rw [Array.getD_eq_getD_getElem?, Array.getD_eq_getD_getElem?]
 rcases Nat.lt_or_ge j l.length with hj | hj
 · rw [hs.2.2 j hj]
 · rw [perm_out h hj, Array.getElem?_eq_none (by rw [hs.2.1]; exact Nat.le_refl _), Array.getElem?_eq_none (by rw [hs.1]; exact hj)]
theorem SameL.set (h : permB σ l.length = true) {L L' : Array Bool} (hs : SameL σ l.length L L') {i : Nat} (hi : i < l.length) : SameL σ l.length (L.setIfInBounds i true) (L'.setIfInBounds (posN σ i) true) := by
 refine ⟨by simp [hs.1], by simp [hs.2.1], fun j hj => ?_⟩
 rw [Array.getElem?_setIfInBounds, Array.getElem?_setIfInBounds, hs.2.2 j hj]
 have hp := (List.getElem?_eq_some_iff.1 (perm_pos h hi)).1
 rw [perm_len h] at hp
 by_cases e : i = j
 · subst e
   rw [if_pos rfl, if_pos rfl, if_pos (by rw [hs.2.1]; exact hp), if_pos (by rw [hs.1]; exact hi)]
 · rw [if_neg e, if_neg]
   intro e2
   have h1 := perm_pos h hi
   have h2 := perm_pos h hj
   rw [e2, h2] at h1
   injection h1 with h1
   exact e h1.symm
theorem ready_perm (h : permB σ l.length = true) {L L' : Array Bool} (hs : SameL σ l.length L L') (i : Nat) : posN σ i ∈ Region.ready .any (permL σ l).toArray L' ↔ i ∈ Region.ready .any l.toArray L := by
 rw [mem_ready, mem_ready, hs.getD h]
 have hg : (permL σ l).toArray[posN σ i]? = (l.toArray[i]?).map (remapO σ) := by simpa using permL_get h i
 constructor
 · rintro ⟨h1, o', ho', h2⟩
   rw [hg] at ho'
   cases ho : l.toArray[i]? with
   | none => rw [ho] at ho'; cases ho'
   | some o =>
    rw [ho] at ho'
    simp only [Option.map_some, Option.some.injEq] at ho'
    subst ho'
    refine ⟨h1, o, rfl, fun e he hb => ?_⟩
    have h3 := h2 (remapE σ e) (Array.mem_map.2 ⟨e, he, rfl⟩) hb
    rwa [show (remapE σ e).on = posN σ e.on from rfl, hs.getD h] at h3
 · rintro ⟨h1, o, ho, h2⟩
   refine ⟨h1, remapO σ o, by rw [hg, ho]; rfl, fun e' he' hb => ?_⟩
   obtain ⟨e, he, rfl⟩ := Array.mem_map.1 he'
   have h3 := h2 e he hb
   rw [show (remapE σ e).on = posN σ e.on from rfl, hs.getD h]
   exact h3
theorem wanted_perm (h : permB σ l.length = true) (o : Oper) (t : Array Value) : Region.wanted (remapO σ o) (yielded (permL σ l).toArray t) = Region.wanted o (yielded l.toArray t) := by
 unfold Region.wanted remapO
 cases hg : o.guard with
 | none => rfl
 | some gb =>
  obtain ⟨g, b⟩ := gb
  have hy : yielded (permL σ l).toArray t (posN σ g) = yielded l.toArray t g := by
   unfold yielded
   have hg2 : (permL σ l).toArray[posN σ g]? = (l.toArray[g]?).map (remapO σ) := by simpa using permL_get h g
   rw [hg2]
   cases l.toArray[g]? <;> rfl
  simp only [hy]
theorem wpOp_perm (h : permB σ l.length = true) {i : Nat} {K : Act → World → Prop} {a : Act} {w : World} (hw : wpOp P (permL σ l).toArray Q (posN σ i) K a w) : wpOp P l.toArray Q i K a w := by
 unfold wpOp at hw ⊢
 have hg : (permL σ l).toArray[posN σ i]? = (l.toArray[i]?).map (remapO σ) := by simpa using permL_get h i
 rw [hg] at hw
 cases ho : l.toArray[i]? with
 | none => rw [ho] at hw; exact hw
 | some o =>
  rw [ho] at hw
  simp only [Option.map_some, wanted_perm h] at hw
  exact hw
theorem wpAny_perm (h : permB σ l.length = true) : ∀ (fuel : Nat) (L L' : Array Bool) (a : Act) (w : World), SameL σ l.length L L' → wpAny P .any (permL σ l).toArray Q fuel L' a w → wpAny P .any l.toArray Q fuel L a w := by
 have hnone : ∀ {L L' : Array Bool}, SameL σ l.length L L' → Region.ready .any l.toArray L = [] → Region.ready .any (permL σ l).toArray L' = [] := by
  intro L L' hs hr
  rw [List.eq_nil_iff_forall_not_mem]
  intro k hk
  obtain ⟨_, o, ho, _⟩ := mem_ready.1 hk
  have hlt : k < σ.length := by
   have := (Array.getElem?_eq_some_iff.1 ho).1
   simpa [permL] using this
  obtain ⟨_, hp⟩ := perm_at h (List.getElem?_eq_getElem hlt)
  rw [← hp] at hk
  have := (ready_perm h hs _).1 hk
  rw [hr] at this
  cases this
 have hsome : ∀ {L L' : Array Bool}, SameL σ l.length L L' → Region.ready .any (permL σ l).toArray L' = [] → Region.ready .any l.toArray L = [] := by
  intro L L' hs hr
  rw [List.eq_nil_iff_forall_not_mem]
  intro i hi
  have := (ready_perm h hs i).2 hi
  rw [hr] at this
  cases this
 intro fuel
 induction fuel with
 | zero => intro L L' a w hs hw; exact ⟨hsome hs hw.1, hw.2⟩
 | succ fuel ih =>
  intro L L' a w hs hw
  refine ⟨fun hr => hw.1 (hnone hs hr), fun i hi => ?_⟩
  obtain ⟨_, o, ho, _⟩ := mem_ready.1 hi
  have hlt : i < l.length := by simpa using (Array.getElem?_eq_some_iff.1 ho).1
  exact wpOp_perm h (wpOp_mono (fun a' w' h' => ih _ _ a' w' (hs.set h hlt) h') (hw.2 (posN σ i) ((ready_perm h hs i).2 hi)))
theorem wp_region_perm (h : permB σ l.length = true) (hm : P.follows .mixedOrders = true) {id : Nat} {a : Act} {w : World} (hw : wpAny P .any (permL σ l).toArray Q l.length (Array.replicate l.length false) a { w with drawn := w.drawn + 1 }) : (Code.region id l.toArray true).wp P Q a w := by
 refine wp_region_any hm ?_
 have hs : SameL σ l.length (Array.replicate l.length false) (Array.replicate l.length false) := by
  refine ⟨by simp, by simp, fun j hj => ?_⟩
  have hp := (List.getElem?_eq_some_iff.1 (perm_pos h hj)).1
  rw [perm_len h] at hp
  rw [Array.getElem?_replicate, Array.getElem?_replicate, if_pos hp, if_pos hj]
 have := wpAny_perm (P := P) (Q := Q) h l.length _ _ a _ hs hw
 simpa using this
end
end Go.Proofs.YtfdjcakgolenbaaGreat
