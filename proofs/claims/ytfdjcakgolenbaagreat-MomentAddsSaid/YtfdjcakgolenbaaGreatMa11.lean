/-
  The abstract run: regions of operations are sound, in their order and in any order.
-/
import Derived.Test.YtfdjcakgolenbaaGreatMa10
namespace Go.Proofs.YtfdjcakgolenbaaGreat
open Go.RowKit
theorem allVC_mem : ∀ {l : List VC}, allVC l -> ∀ c ∈ l, c ()
 | [], _, c, hc => by cases hc
 | [c], h, c', hc => by rw [List.mem_singleton] at hc; subst hc; exact h
 | c :: d :: l, h, c', hc => by
  rcases List.mem_cons.1 hc with rfl | hc
  . exact h.1
  . exact allVC_mem h.2 c' hc
section
variable {P : Program} {w w' w0 : World} {ρ ρ' : Nat -> Option Rl} {base : Nat} {ro ro' : Nat -> Prop} {S0 : Pm} {N : Nat} {B : Bs} {S : Sx} {a a0 : Act} {C : Cx} {Q : Exit -> Act -> World -> Prop}
theorem put_self {d : Nat} {v : Value} (h : a.tmps[d]? = some v) : a.put (some d) v = a := by
 unfold Act.put;have hlt := (Array.getElem?_eq_some_iff.1 h).1;have : a.tmps.setIfInBounds d v = a.tmps := by
  apply Array.ext_getElem?;intro i;rw [Array.getElem?_setIfInBounds];split
  . rename_i e;subst e;rw [h]
  . rfl
 simp only [this]
theorem getT_some {d : Nat} {x : AV} (h : getT B S d = x) (hx : x ≠ .un) : lookT B S d = some x := by
 unfold getT at h
 cases hl : lookT B S d with
 | none => rw [hl] at h; exact absurd h.symm hx
 | some y =>
  rw [hl] at h;have h' : y = x := h;rw [h']
theorem Sim.refine_ (H : Sim w0 S0 N B S a w) {d : Nat} {c : Unit -> Bool} {S' : Sx} (hd : getT B S d = .bool c) (hp : putT B S N d (.blit (c ())) = some S') : a.tmps[d]? = some (.bool (c ())) /\ Sim w0 S0 N B S' a w := by
 obtain ⟨ρ, ro, H⟩ := H;obtain ⟨u, h1, h2⟩ := H.tm d _ (getT_some hd (by simp));have h3 := h2.bool_;subst h3;refine ⟨h1, ρ, ro, ?_⟩;have H2 := H.put hp (.blit (c ()));rwa [put_self h1] at H2
inductive Dec (B : Bs) (N : Nat) (l : List Oper) (S : Sx) (o : Oper) : Bool -> Sx -> Prop
 | free (h : o.guard = none) : Dec B N l S o true S
 | lit (j d : Nat) (b c : Bool) (oj : Oper) (h : o.guard = some (j, b)) (hj : l[j]? = some oj) (hd : oj.dst = some d) (hc : getT B S d = .blit c) : Dec B N l S o (c == b) S
 | gone (j d : Nat) (b : Bool) (oj : Oper) (h : o.guard = some (j, b)) (hj : l[j]? = some oj) (hd : oj.dst = some d) (hc : getT B S d = .tup []) : Dec B N l S o false S
 | ask (j d : Nat) (b : Bool) (c : Unit -> Bool) (oj : Oper) (S' : Sx) (h : o.guard = some (j, b)) (hj : l[j]? = some oj) (hd : oj.dst = some d) (hc : getT B S d = .bool c) (hp : putT B S N d (.blit (c ())) = some S') : Dec B N l S o (c () == b) S'
theorem wanted_undef {l : List Oper} {o oj : Oper} {j d : Nat} {b : Bool} (h : o.guard = some (j, b)) (hj : l[j]? = some oj) (hd : oj.dst = some d) (hu : a.tmps[d]? = some undef) : Region.wanted o (yielded l.toArray a.tmps) = false := by
 have h1 : yielded l.toArray a.tmps j = none := by
  unfold yielded;have h2 : ((l.toArray[j]?).bind (·.dst)).bind (a.tmps[·]?) = some undef := by simp [hj, hd, hu]
  rw [h2];rfl
 unfold Region.wanted;rw [h];simp only [h1];rfl
theorem undef_of {v : Value} (h : AVR w ρ base ro (.tup []) v) : v = undef := by
 obtain ⟨vs, rfl, hE⟩ := h.tup_;rw [hE.none];rfl
theorem Dec.seq {l : List Oper} {o : Oper} {r : Bool} {S' : Sx} (h : Dec B N l S o r S') (H : Sim w0 S0 N B S a w) : Region.wanted o (yielded l.toArray a.tmps) = r /\ Sim w0 S0 N B S' a w := by
 cases h with
 | free h => exact ⟨wanted_none h _, H⟩
 | lit j d b c oj h hj hd hc =>
  obtain ⟨ρ, ro, HR⟩ := H;obtain ⟨u, h1, h2⟩ := HR.tm d _ (getT_some hc (by simp));rw [h2.blit_] at h1;exact ⟨wanted_some h (by simpa using hj) hd h1 rfl, ρ, ro, HR⟩
 | gone j d b oj h hj hd hc =>
  obtain ⟨ρ, ro, HR⟩ := H;obtain ⟨u, h1, h2⟩ := HR.tm d _ (getT_some hc (by simp));rw [undef_of h2] at h1;exact ⟨wanted_undef h hj hd h1, ρ, ro, HR⟩
 | ask j d b c oj S' h hj hd hc hp =>
  obtain ⟨h1, h2⟩ := H.refine_ hc hp;exact ⟨wanted_some h (by simpa using hj) hd h1 rfl, h2⟩
theorem goOps_way {l rest : List Oper} {o : Oper} {k : Sx -> Fm} (h : (goOps C N B l (o :: rest) S k).P) : ∃ r S1, Dec B N l S o r S1 /\
 ((r = true /\ ((∃ S2 vcs, stepOp C N B S1 o = some (S2, vcs) /\ (∀ c ∈ vcs, c ()) /\ (goOps C N B l rest S2 k).P) \/ ∃ f, splitOp C N B S1 o = some f /\ (f fun S' => goOps C N B l rest S' k).P)) \/ (r = false /\ ∃ S2, skipOp N B S1 o = some S2 /\ (goOps C N B l rest S2 k).P)) := by
 have hgo : ∀ S1, (match splitOp C N B S1 o with
  | some f => f fun S' => goOps C N B l rest S' k
  | none => match stepOp C N B S1 o with
   | some (S', []) => goOps C N B l rest S' k
   | some (S', vcs) => .vc vcs (goOps C N B l rest S' k)
   | none => .ff (1000 + rest.length) : Fm).P -> (∃ S2 vcs, stepOp C N B S1 o = some (S2, vcs) /\ (∀ c ∈ vcs, c ()) /\ (goOps C N B l rest S2 k).P) \/ ∃ f, splitOp C N B S1 o = some f /\ (f fun S' => goOps C N B l rest S' k).P := by
  intro S1 h
  cases hsp : splitOp C N B S1 o with
  | some f =>
   rw [hsp] at h;exact .inr ⟨f, rfl, h⟩
  | none =>
   rw [hsp] at h;dsimp only at h;left;split at h
   . rename_i S2 hs;exact ⟨S2, [], hs, (fun c hc => by cases hc), h⟩
   . rename_i S2 vcs _ hs;exact ⟨S2, vcs, hs, allVC_mem h.1, h.2⟩
   . exact h.elim
 have hno : ∀ S1, (match skipOp N B S1 o with
  | some S' => goOps C N B l rest S' k
  | none => .ff 3 : Fm).P -> ∃ S2, skipOp N B S1 o = some S2 /\ (goOps C N B l rest S2 k).P := by
  intro S1 h;split at h
  . rename_i S2 hs;exact ⟨S2, hs, h⟩
  . exact h.elim
 unfold goOps at h;dsimp only at h;split at h
 . rename_i hw;unfold wantedAV at hw;split at hw
   . rename_i hg;exact ⟨true, S, .free hg, .inl ⟨rfl, hgo S h⟩⟩
   . rename_i j b hg;split at hw
     . rename_i d hd;obtain ⟨oj, hoj, hdj⟩ := Option.bind_eq_some_iff.1 hd;split at hw
       . rename_i c hc;split at hw
         . rename_i hcb;exact ⟨_, S, .lit j d b c oj hg hoj hdj hc, .inl ⟨by rw [hcb]; simp, hgo S h⟩⟩
         . cases hw
       . cases hw
       . cases hw
       . cases hw
     . cases hw
 . rename_i hw;unfold wantedAV at hw;split at hw
   . cases hw
   . rename_i j b hg;split at hw
     . rename_i d hd;obtain ⟨oj, hoj, hdj⟩ := Option.bind_eq_some_iff.1 hd;split at hw
       . rename_i c hc;split at hw
         . cases hw
         . rename_i hcb;exact ⟨_, S, .lit j d b c oj hg hoj hdj hc, .inr ⟨by simpa using hcb, hno S h⟩⟩
       . cases hw
       . rename_i hc;exact ⟨false, S, .gone j d b oj hg hoj hdj hc, .inr ⟨rfl, hno S h⟩⟩
       . cases hw
     . cases hw
 . rename_i d c b hw;unfold wantedAV at hw;split at hw
   . cases hw
   . rename_i j b' hg;split at hw
     . rename_i d' hd;obtain ⟨oj, hoj, hdj⟩ := Option.bind_eq_some_iff.1 hd;split at hw
       . split at hw <;> cases hw
       . rename_i c' hc;injection hw with e1 e2 e3;subst e1; subst e2; subst e3;split at h
         . rename_i S1 S2 h1 h2;have hdec : ∀ S', putT B S N d' (.blit (c' ())) = some S' -> Dec B N l S o (c' () == b') S' := fun S' hp => .ask j d' b' c' oj S' hg hoj hdj hc hp;obtain ⟨ht, hf⟩ := h
           cases hcv : c' () with
           | true =>
            rw [hcv] at hdec;refine ⟨_, S1, hdec S1 h1, ?_⟩;have h3 := ht hcv
            cases b' with
            | true => exact .inl ⟨rfl, hgo S1 h3⟩
            | false => exact .inr ⟨rfl, hno S1 h3⟩
           | false =>
            rw [hcv] at hdec;refine ⟨_, S2, hdec S2 h2, ?_⟩;have h3 := hf hcv
            cases b' with
            | true => exact .inr ⟨rfl, hno S2 h3⟩
            | false => exact .inl ⟨rfl, hgo S2 h3⟩
         . exact h.elim
       . cases hw
       . cases hw
     . cases hw
 . exact h.elim
theorem goOps_seq (hty : TyOk P C.ty) (hcs : CxOk P C S0) {l : List Oper} {k : Sx -> Fm} (hk : ∀ S' a' w', Sim w0 S0 N B S' a' w' -> (k S').P -> Q .normal a' w') : ∀ {rest : List Oper} {S : Sx} {a : Act} {w : World}, (goOps C N B l rest S k).P -> Sim w0 S0 N B S a w -> wpList P l.toArray Q rest a w
 | [], S, a, w, h, H => hk S a w H h
 | o :: rest, S, a, w, h, H => by
  obtain ⟨r, S1, hdec, hway⟩ := goOps_way h;obtain ⟨hw, H1⟩ := hdec.seq H;unfold wpList;rcases hway with ⟨rfl, ⟨S2, vcs, hs, hv, h2⟩ | ⟨f, hs, h2⟩⟩ | ⟨rfl, S2, hs, h2⟩
  . rw [if_pos hw];exact .inl ((stepOp_ok hty hcs H1 hs hv).wp fun a' w' H2 => goOps_seq hty hcs hk h2 H2)
  . rw [if_pos hw];exact .inl ((splitOp_ok hty H1 hs h2).wp fun a' w' ⟨S', H2, h3⟩ => goOps_seq hty hcs hk h3 H2)
  . rw [if_neg (by rw [hw]; simp)];exact goOps_seq hty hcs hk h2 (skipOp_ok H1 hs)
/- a region that draws its order -/
inductive Path (C : Cx) (N : Nat) (B : Bs) (l : List Oper) : Sx -> List Oper -> List (Option AV) -> Sx -> Prop
 | nil (S0 : Sx) : Path C N B l S0 [] [] S0
 | go {S0 S1 S2 S' : Sx} {o : Oper} {rest : List Oper} {av : AV} {vcs : List VC} {avs : List (Option AV)} {d : Nat} (hw : Dec B N l S0 o true S1) (hp : pureOp C.ty C.cs (lookE B S1) (getO B S1) o.op = some (av, vcs)) (hv : ∀ c ∈ vcs, c ()) (hd : o.dst = some d) (hput : putT B S1 N d av = some S2) (h : Path C N B l S2 rest avs S') : Path C N B l S0 (o :: rest) (some av :: avs) S'
 | no {S0 S1 S2 S' : Sx} {o : Oper} {rest : List Oper} {avs : List (Option AV)} {d : Nat} (hw : Dec B N l S0 o false S1) (hd : o.dst = some d) (hput : putT B S1 N d (.tup []) = some S2) (h : Path C N B l S2 rest avs S') : Path C N B l S0 (o :: rest) (none :: avs) S'
theorem isPure_mem {o : Oper} (h : isPure (efs C.fs) o.op = true) : memOp C N B S o = none := by
 obtain ⟨dst, op, ty, pos, aft, gd⟩ := o;cases op <;> first | rfl | (cases h; done) | skip
 rename_i c;obtain ⟨callee, cargs, cts⟩ := c
 cases callee with
 | value f => rfl
 | invoke r m => rfl
 | builtin b => cases b <;> first | rfl | cases h
theorem efs_find {f : Nat} : ∀ {cs : List Fon}, memN f (efs cs) = false -> findFon cs f = none
 | [], _ => rfl
 | c :: cs, h => by
  simp only [efs, memN, Bool.or_eq_false_iff] at h;unfold findFon;rw [if_neg (by rw [h.1]; simp)];exact efs_find h.2
theorem isPure_call {o : Oper} (h : isPure (efs C.fs) o.op = true) : callOp C N B S o = none := by
 obtain ⟨dst, op, ty, pos, aft, gd⟩ := o;cases op <;> first | rfl | skip
 rename_i c;obtain ⟨callee, cargs, cts⟩ := c
 cases callee with
 | value x =>
  cases x with
  | func f =>
   have hm : memN f (efs C.fs) = false := by simpa [isPure] using h
   unfold callOp;dsimp only;rw [efs_find hm]
  | tmp d => rfl
  | const v => rfl
  | global g => rfl
 | invoke r m => rfl
 | builtin b => rfl
theorem isPure_split {o : Oper} (h : isPure (efs C.fs) o.op = true) : splitOp C N B S o = none := by
 obtain ⟨dst, op, ty, pos, aft, gd⟩ := o;cases op <;> first | rfl | cases h
theorem goOps_path {l : List Oper} {k : Sx -> Fm} : ∀ {pre tail : List Oper} {S : Sx}, (∀ o ∈ pre, isPure (efs C.fs) o.op = true /\ ∃ d, o.dst = some d) -> (goOps C N B l (pre ++ tail) S k).P -> ∃ avs S', Path C N B l S pre avs S' /\ (goOps C N B l tail S' k).P
 | [], tail, S, _, h => ⟨[], S, .nil S, h⟩
 | o :: pre, tail, S, hp, h => by
  obtain ⟨r, S1, hdec, hway⟩ := goOps_way h;obtain ⟨hpo, d, hd⟩ := hp o (.head _);have hp' : ∀ o ∈ pre, isPure (efs C.fs) o.op = true /\ ∃ d, o.dst = some d := fun o ho => hp o (.tail _ ho);rcases hway with ⟨rfl, ⟨S2, vcs, hs, hv, h2⟩ | ⟨f, hs, h2⟩⟩ | ⟨rfl, S2, hs, h2⟩
  rotate_left
  . rw [isPure_split hpo] at hs;cases hs
  rotate_left
  . unfold stepOp at hs;split at hs
    . rename_i av vcs' hpu;rw [hd] at hs;dsimp only at hs
      cases hput : putT B S1 N d av with
      | none => rw [hput] at hs; cases hs
      | some S3 =>
       rw [hput] at hs;cases hs;obtain ⟨avs, S', h3, h4⟩ := goOps_path hp' h2;exact ⟨_, S', .go hdec hpu hv hd hput h3, h4⟩
    . rw [isPure_mem hpo] at hs;dsimp only at hs;rw [isPure_call hpo] at hs;cases hs
  . unfold skipOp at hs;rw [hd] at hs;obtain ⟨avs, S', h3, h4⟩ := goOps_path hp' h2;exact ⟨_, S', .no hdec hd hs h3, h4⟩
theorem putT_look {S' : Sx} {d s : Nat} {x : AV} (h : putT B S N d x = some S') : S'.e = S.e /\ S'.n = S.n /\ (∀ y, lookT B S' s = some y -> (s = d /\ y = x) \/ (s ≠ d /\ lookT B S s = some y)) := by
 unfold putT at h;split at h
 . cases h
 . cases h;refine ⟨rfl, rfl, fun y hy => ?_⟩;unfold lookT at hy ⊢;rw [alook_cons] at hy;by_cases e : d = s
   . rw [if_pos e] at hy;injection hy with hy;exact .inl ⟨e.symm, hy.symm⟩
   . rw [if_neg e] at hy;exact .inr ⟨fun e' => e e'.symm, hy⟩
def Claim (B : Bs) (l : List Oper) (a0 : Act) (w : World) (ρ : Nat -> Option Rl) (base : Nat) (ro : Nat -> Prop) (L : Nat -> Bool) (val : Nat -> Value) (i : Nat) (S : Sx) : Prop :=
 ∀ s x, lookT B S s = some x -> match prodOf l s i with
  | none => ∃ u, a0.tmps[s]? = some u /\ AVR w ρ base ro x u
  | some j => L j = true -> AVR w ρ base ro x (val j)
theorem Claim.dec {l : List Oper} {L : Nat -> Bool} {val : Nat -> Value} {i : Nat} {o : Oper} {r : Bool} {S' : Sx} (h : Claim B l a0 w ρ base ro L val i S) (hd : Dec B N l S o r S') : Claim B l a0 w ρ base ro L val i S' /\ S'.e = S.e /\ S'.n = S.n := by
 cases hd with
 | free => exact ⟨h, rfl, rfl⟩
 | lit => exact ⟨h, rfl, rfl⟩
 | gone => exact ⟨h, rfl, rfl⟩
 | ask j d b c oj S' hg hj hdj hc hp =>
  refine ⟨fun s x hx => ?_, (putT_look (s := 0) hp).1, (putT_look (s := 0) hp).2.1⟩;rcases (putT_look (s := s) hp).2.2 x hx with ⟨rfl, rfl⟩ | ⟨_, h2⟩
  . have h3 := h s _ (getT_some hc (by simp));split
    . rename_i hpr;rw [hpr] at h3;obtain ⟨u, h4, h5⟩ := h3;exact ⟨u, h4, by rw [h5.bool_]; exact .blit _⟩
    . rename_i j' hpr;rw [hpr] at h3;intro hL;rw [(h3 hL).bool_];exact .blit _
  . exact h s x h2
theorem prodOf_succ {l : List Oper} {s i : Nat} : prodOf l s (i + 1) = if ((l[i]?).bind (·.dst)) == some s then some i else prodOf l s i := rfl
theorem Claim.put {l : List Oper} {L : Nat -> Bool} {val : Nat -> Value} {i d : Nat} {o : Oper} {av : AV} {S' : Sx} (h : Claim B l a0 w ρ base ro L val i S) (ho : l[i]? = some o) (hd : o.dst = some d) (hp : putT B S N d av = some S') (hv : L i = true -> AVR w ρ base ro av (val i)) : Claim B l a0 w ρ base ro L val (i + 1) S' := by
 intro s x hx;rw [prodOf_succ, ho];simp only [Option.bind_some, hd];rcases (putT_look (s := s) hp).2.2 x hx with ⟨rfl, rfl⟩ | ⟨h1, h2⟩
 . rw [if_pos (by simp)];exact hv
 . rw [if_neg (by simpa using fun e => h1 e.symm)];exact h s x h2
theorem Path.stage {l : List Oper} {L : Nat -> Bool} {val : Nat -> Value} : ∀ {rest : List Oper} {S S' : Sx} {avs : List (Option AV)} {i : Nat}, Path C N B l S rest avs S' -> (∀ j o, rest[j]? = some o -> l[i + j]? = some o) -> Claim B l a0 w ρ base ro L val i S -> (∀ j av, avs[j]? = some (some av) -> L (i + j) = true -> AVR w ρ base ro av (val (i + j))) -> (∀ j, avs[j]? = some none -> L (i + j) = true -> val (i + j) = undef) ->
 (∀ m o, rest[m]? = some o -> ∃ S0 S1 r, Claim B l a0 w ρ base ro L val (i + m) S0 /\ Claim B l a0 w ρ base ro L val (i + m) S1 /\ S1.e = S.e /\ Dec B N l S0 o r S1 /\ ((r = true /\ ∃ av vcs, avs[m]? = some (some av) /\ pureOp C.ty C.cs (lookE B S1) (getO B S1) o.op = some (av, vcs) /\ ∀ c ∈ vcs, c ()) \/ (r = false /\ avs[m]? = some none))) /\ Claim B l a0 w ρ base ro L val (i + rest.length) S' /\ S'.e = S.e /\ S'.n = S.n /\ avs.length = rest.length
 | [], S, S', avs, i, h, _, hc, _, _ => by
  cases h;exact ⟨fun m o hm => by simp at hm, hc, rfl, rfl, rfl⟩
 | o :: rest, S, S', avs, i, h, hl, hc, hav, hnv => by
  cases h with
  | @go _ S1 S2 _ _ _ av vcs avs d hw hp hv hd hput h =>
   obtain ⟨hc1, he1, hn1⟩ := hc.dec hw;have ho : l[i]? = some o := by simpa using hl 0 o rfl
   have hc2 : Claim B l a0 w ρ base ro L val (i + 1) S2 := hc1.put ho hd hput (fun hL => by simpa using hav 0 av rfl (by simpa using hL));obtain ⟨q1, q2, q3, q4, q5⟩ := Path.stage (i := i + 1) h (fun j o' hj => by rw [show i + 1 + j = i + (j + 1) by omega]; exact hl (j + 1) o' (by simpa using hj)) hc2 (fun j av' hj hL => by rw [show i + 1 + j = i + (j + 1) by omega] at hL ⊢; exact hav (j + 1) av' (by simpa using hj) hL) (fun j hj hL => by rw [show i + 1 + j = i + (j + 1) by omega] at hL ⊢; exact hnv (j + 1) (by simpa using hj) hL);have hp2 := putT_look (s := 0) hput;refine ⟨fun m o' hm => ?_, by rw [List.length_cons, show i + (rest.length + 1) = i + 1 + rest.length by omega]; exact q2, by rw [q3, hp2.1, he1], by rw [q4, hp2.2.1, hn1], by simp [q5]⟩
   cases m with
   | zero =>
    simp only [List.getElem?_cons_zero, Option.some.injEq] at hm;subst hm;exact ⟨S, S1, true, hc, hc1, he1, hw, .inl ⟨rfl, av, vcs, rfl, hp, hv⟩⟩
   | succ m =>
    obtain ⟨S0, S3, r, k1, k2, k3, k4, k5⟩ := q1 m o' (by simpa using hm);rw [show i + 1 + m = i + (m + 1) by omega] at k1 k2;exact ⟨S0, S3, r, k1, k2, by rw [k3, hp2.1, he1], k4, by simpa using k5⟩
  | @no _ S1 S2 _ _ _ avs d hw hd hput h =>
   obtain ⟨hc1, he1, hn1⟩ := hc.dec hw;have ho : l[i]? = some o := by simpa using hl 0 o rfl
   have hc2 : Claim B l a0 w ρ base ro L val (i + 1) S2 := hc1.put ho hd hput (fun hL => by rw [show val i = undef by simpa using hnv 0 rfl (by simpa using hL)]; exact undef_ok);obtain ⟨q1, q2, q3, q4, q5⟩ := Path.stage (i := i + 1) h (fun j o' hj => by rw [show i + 1 + j = i + (j + 1) by omega]; exact hl (j + 1) o' (by simpa using hj)) hc2 (fun j av' hj hL => by rw [show i + 1 + j = i + (j + 1) by omega] at hL ⊢; exact hav (j + 1) av' (by simpa using hj) hL) (fun j hj hL => by rw [show i + 1 + j = i + (j + 1) by omega] at hL ⊢; exact hnv (j + 1) (by simpa using hj) hL);have hp2 := putT_look (s := 0) hput;refine ⟨fun m o' hm => ?_, by rw [List.length_cons, show i + (rest.length + 1) = i + 1 + rest.length by omega]; exact q2, by rw [q3, hp2.1, he1], by rw [q4, hp2.2.1, hn1], by simp [q5]⟩
   cases m with
   | zero =>
    simp only [List.getElem?_cons_zero, Option.some.injEq] at hm;subst hm;exact ⟨S, S1, false, hc, hc1, he1, hw, .inr ⟨rfl, rfl⟩⟩
   | succ m =>
    obtain ⟨S0, S3, r, k1, k2, k3, k4, k5⟩ := q1 m o' (by simpa using hm);rw [show i + 1 + m = i + (m + 1) by omega] at k1 k2;exact ⟨S0, S3, r, k1, k2, by rw [k3, hp2.1, he1], k4, by simpa using k5⟩
theorem putT_dis {S' : Sx} {d : Nat} {x : AV} (h : putT B S N d x = some S') (hd : ∀ d x, alook B.t d = some x -> alook S.t d = none) : ∀ d x, alook B.t d = some x -> alook S'.t d = none := by
 unfold putT at h;split at h
 . cases h
 . rename_i hc;simp only [Bool.or_eq_true, not_or, Bool.not_eq_true, Option.isSome_eq_false_iff, Option.isNone_iff_eq_none] at hc;cases h;intro s y hy;rw [alook_cons, if_neg (by rintro rfl; rw [hc.1] at hy; cases hy)];exact hd s y hy
theorem Dec.dis {l : List Oper} {o : Oper} {r : Bool} {S' : Sx} (h : Dec B N l S o r S') (hd : ∀ d x, alook B.t d = some x -> alook S.t d = none) : ∀ d x, alook B.t d = some x -> alook S'.t d = none := by
 cases h with
 | free => exact hd
 | lit => exact hd
 | gone => exact hd
 | ask j d b c oj S2 hg hj hdj hc hp => exact putT_dis hp hd
theorem Path.dis {l : List Oper} : ∀ {rest : List Oper} {S S' : Sx} {avs : List (Option AV)}, Path C N B l S rest avs S' -> (∀ d x, alook B.t d = some x -> alook S.t d = none) -> ∀ d x, alook B.t d = some x -> alook S'.t d = none := by
 intro rest S S' avs h
 induction h with
 | nil => exact id
 | go hw hp hv hd hput h ih =>
  intro hd0;exact ih (putT_dis hput (hw.dis hd0))
 | no hw hd hput h ih =>
  intro hd0;exact ih (putT_dis hput (hw.dis hd0))
end
theorem apartB_spec {l : List Oper} {i j : Nat} {oi oj : Oper} (h : apartB l i = true) (hi : l[i]? = some oi) (hj : l[j]? = some oj) (hne : j ≠ i) : (∃ e ∈ oi.after, Region.binds .any e = true /\ e.on = j) \/ (∃ e ∈ oj.after, Region.binds .any e = true /\ e.on = i) \/ oi.apart l.toArray oj = true := by
 unfold apartB at h;rw [hi] at h;have hlt := (List.getElem?_eq_some_iff.1 hj).1;have h1 := List.all_eq_true.1 h j (List.mem_range.2 hlt);rw [hj] at h1;simp only [Bool.or_eq_true, beq_iff_eq] at h1;have hany : ∀ {es : Array Edge} {k : Nat}, (es.any fun e => Region.binds .any e && e.on == k) = true -> ∃ e ∈ es, Region.binds .any e = true /\ e.on = k := by
  intro es k h;rw [Array.any_eq_true'] at h;obtain ⟨e, he, h2⟩ := h;simp only [Bool.and_eq_true, beq_iff_eq] at h2;exact ⟨e, he, h2⟩
 rcases h1 with ((h1 | h1) | h1) | h1
 . exact absurd h1.symm hne
 . exact .inl (hany h1)
 . exact .inr (.inl (hany h1))
 . exact .inr (.inr h1)
theorem wpAny_eag {P : Program} {Q : Exit -> Act -> World -> Prop} {l : List Oper} (reg : Nat -> Bool) (hsel : ∀ (j : Nat) (o : Oper) cs b, l.toArray[j]? = some o -> o.op ≠ .select cs b) (hQ : ∀ c a w, ¬ Q (.panic c) a w) (hap : ∀ i, reg i = true -> apartB l i = true)
 (Inv : Array Bool -> Act -> World -> Prop) (hend : ∀ listed a w, Inv listed a w -> Region.ready .any l.toArray listed = [] -> Q .normal a w)
 (hreg : ∀ listed a w i o, Inv listed a w -> i ∈ Region.ready .any l.toArray listed -> reg i = true -> l[i]? = some o -> ∃ v, Yields P l.toArray o v a /\ Inv (listed.setIfInBounds i true) (a.put o.dst v) w)
 (hstep : ∀ listed a w i, Inv listed a w -> i ∈ Region.ready .any l.toArray listed -> (∀ j ∈ Region.ready .any l.toArray listed, reg j = false) -> wpOp P l.toArray Q i (Inv (listed.setIfInBounds i true)) a w) :
 ∀ (fuel : Nat) (listed : Array Bool) (a : Act) (w : World), listed.toList.count false <= fuel -> Inv listed a w -> wpAny P .any l.toArray Q fuel listed a w := by
 have hcount : ∀ (listed : Array Bool) (i : Nat), i ∈ Region.ready .any l.toArray listed -> (listed.setIfInBounds i true).toList.count false + 1 = listed.toList.count false := by
  intro listed i hi;obtain ⟨h1, _⟩ := mem_ready.1 hi;obtain ⟨_, hlt⟩ := listed_false h1;have h2 : listed.toList[i]'(by simpa using hlt) = false := by
   rw [Array.getD_eq_getD_getElem?, Array.getElem?_eq_getElem hlt] at h1;simpa using h1
  rw [Array.toList_setIfInBounds];have h3 := List.count_set (l := listed.toList) (i := i) (a := true) (b := false) (by simpa using hlt);have h4 : 0 < listed.toList.count false := List.count_pos_iff.2 (h2 ▸ List.getElem_mem _);have e1 : ((listed.toList[i]'(by simpa using hlt)) == false) = true := by rw [h2]; rfl
  have e2 : (true == false) = false := rfl;rw [h3];simp only [e1, e2, if_true, Bool.false_eq_true, if_false];omega
 intro fuel
 induction fuel with
 | zero =>
  intro listed a w hc h;have hr : Region.ready .any l.toArray listed = [] := by
   rw [List.eq_nil_iff_forall_not_mem];intro i hi;have := hcount listed i hi;omega
  exact ⟨hr, hend listed a w h hr⟩
 | succ fuel ih =>
  intro listed a w hc h;by_cases hex : ∃ i, i ∈ Region.ready .any l.toArray listed /\ reg i = true
  . obtain ⟨i, hi, hri⟩ := hex;obtain ⟨hun, o, ho, haft⟩ := mem_ready.1 hi;have ho' : l[i]? = some o := by simpa using ho
    obtain ⟨v, hy, h2⟩ := hreg listed a w i o h hi hri ho';refine wpAny_first ho hsel (fun c a w hq => (hQ c _ w hq).elim) fuel listed a w (fun j oj hoj hne hjl hno => ?_) hi hy (ih _ _ _ (by have := hcount listed i hi; omega) h2);rcases apartB_spec (hap i hri) ho' (by simpa using hoj) hne with ⟨e, he, hb, hon⟩ | ⟨e, he, hb, hon⟩ | h3
    . have h4 := haft e he hb;rw [hon] at h4;rw [Array.getD_eq_getD_getElem?] at h4 hjl
      cases hq : listed[j]? with
      | none => rw [hq] at h4; cases h4
      | some q => rw [hq] at h4 hjl; simp only [Option.getD_some] at h4 hjl; rw [h4] at hjl; cases hjl
    . exact absurd hon (hno e he hb)
    . exact h3
  . refine ⟨fun hr => hend listed a w h hr, fun i hi => ?_⟩;have hall : ∀ j ∈ Region.ready .any l.toArray listed, reg j = false := fun j hj => by
     cases hq : reg j with
     | false => rfl
     | true => exact (hex ⟨j, hj, hq⟩).elim
    exact wpOp_mono (fun a' w' h' => ih _ _ _ (by have := hcount listed i hi; omega) h') (hstep listed a w i h hi hall)
theorem posN_none {σ : List Nat} {j : Nat} (h : j ∉ σ) : posN σ j = σ.length := by
 induction σ with
 | nil => rfl
 | cons k l ih =>
  unfold posN;rw [if_neg (by rintro rfl; exact h (by simp)), ih fun hm => h (by simp [hm])];rfl
section
variable {P : Program} {Q : Exit -> Act -> World -> Prop} {l : List Oper} {σ : List Nat}
theorem perm_len (h : permB σ l.length = true) : σ.length = l.length := by
 simp only [permB, Bool.and_eq_true, beq_iff_eq] at h;exact h.1.1
theorem perm_pos (h : permB σ l.length = true) {j : Nat} (hj : j < l.length) : σ[posN σ j]? = some j := by
 simp only [permB, Bool.and_eq_true, beq_iff_eq] at h;have := List.all_eq_true.1 h.1.2 j (List.mem_range.2 hj);simpa using this
theorem perm_at (h : permB σ l.length = true) {k i : Nat} (hk : σ[k]? = some i) : i < l.length /\ posN σ i = k := by
 have hlt := (List.getElem?_eq_some_iff.1 hk).1;rw [perm_len h] at hlt;simp only [permB, Bool.and_eq_true, beq_iff_eq] at h;have := List.all_eq_true.1 h.2 k (List.mem_range.2 hlt);rw [hk] at this;simpa using this
theorem perm_out (h : permB σ l.length = true) {j : Nat} (hj : l.length <= j) : posN σ j = l.length := by
 rw [posN_none, perm_len h];intro hm;obtain ⟨k, hk⟩ := List.mem_iff_getElem?.1 hm;have := (perm_at h hk).1;omega
theorem permL_get (h : permB σ l.length = true) (j : Nat) : (permL σ l)[posN σ j]? = (l[j]?).map (remapO σ) := by
 rcases Nat.lt_or_ge j l.length with hj | hj
 . unfold permL;rw [List.getElem?_map, perm_pos h hj, List.getElem?_eq_getElem hj];simp [hj]
 . rw [perm_out h hj, List.getElem?_eq_none hj, List.getElem?_eq_none (by unfold permL; simp [perm_len h])];rfl
def SameL (σ : List Nat) (n : Nat) (listed listed' : Array Bool) : Prop := listed.size = n /\ listed'.size = n /\ ∀ j, j < n -> listed'[posN σ j]? = listed[j]?
theorem SameL.getD (h : permB σ l.length = true) {L L' : Array Bool} (hs : SameL σ l.length L L') (j : Nat) (d : Bool) : L'.getD (posN σ j) d = L.getD j d := by
 rw [Array.getD_eq_getD_getElem?, Array.getD_eq_getD_getElem?];rcases Nat.lt_or_ge j l.length with hj | hj
 . rw [hs.2.2 j hj]
 . rw [perm_out h hj, Array.getElem?_eq_none (by rw [hs.2.1]; exact Nat.le_refl _), Array.getElem?_eq_none (by rw [hs.1]; exact hj)]
theorem SameL.set (h : permB σ l.length = true) {L L' : Array Bool} (hs : SameL σ l.length L L') {i : Nat} (hi : i < l.length) : SameL σ l.length (L.setIfInBounds i true) (L'.setIfInBounds (posN σ i) true) := by
 refine ⟨by simp [hs.1], by simp [hs.2.1], fun j hj => ?_⟩;rw [Array.getElem?_setIfInBounds, Array.getElem?_setIfInBounds, hs.2.2 j hj];have hp := (List.getElem?_eq_some_iff.1 (perm_pos h hi)).1;rw [perm_len h] at hp;by_cases e : i = j
 . subst e;rw [if_pos rfl, if_pos rfl, if_pos (by rw [hs.2.1]; exact hp), if_pos (by rw [hs.1]; exact hi)]
 . rw [if_neg e, if_neg];intro e2;have h1 := perm_pos h hi;have h2 := perm_pos h hj;rw [e2, h2] at h1;injection h1 with h1;exact e h1.symm
theorem ready_perm (h : permB σ l.length = true) {L L' : Array Bool} (hs : SameL σ l.length L L') (i : Nat) : posN σ i ∈ Region.ready .any (permL σ l).toArray L' ↔ i ∈ Region.ready .any l.toArray L := by
 rw [mem_ready, mem_ready, hs.getD h];have hg : (permL σ l).toArray[posN σ i]? = (l.toArray[i]?).map (remapO σ) := by simpa using permL_get h i
 constructor
 . rintro ⟨h1, o', ho', h2⟩
   rw [hg] at ho'
   cases ho : l.toArray[i]? with
   | none => rw [ho] at ho'; cases ho'
   | some o =>
    rw [ho] at ho';simp only [Option.map_some, Option.some.injEq] at ho';subst ho';refine ⟨h1, o, rfl, fun e he hb => ?_⟩;have h3 := h2 (remapE σ e) (Array.mem_map.2 ⟨e, he, rfl⟩) hb;rwa [show (remapE σ e).on = posN σ e.on from rfl, hs.getD h] at h3
 . rintro ⟨h1, o, ho, h2⟩
   refine ⟨h1, remapO σ o, by rw [hg, ho]; rfl, fun e' he' hb => ?_⟩;obtain ⟨e, he, rfl⟩ := Array.mem_map.1 he';have h3 := h2 e he hb;rw [show (remapE σ e).on = posN σ e.on from rfl, hs.getD h];exact h3
theorem wanted_perm (h : permB σ l.length = true) (o : Oper) (t : Array Value) : Region.wanted (remapO σ o) (yielded (permL σ l).toArray t) = Region.wanted o (yielded l.toArray t) := by
 unfold Region.wanted remapO
 cases hg : o.guard with
 | none => rfl
 | some gb =>
  obtain ⟨g, b⟩ := gb;have hy : yielded (permL σ l).toArray t (posN σ g) = yielded l.toArray t g := by
   unfold yielded;have hg2 : (permL σ l).toArray[posN σ g]? = (l.toArray[g]?).map (remapO σ) := by simpa using permL_get h g
   rw [hg2];cases l.toArray[g]? <;> rfl
  simp only [hy]
theorem wpOp_perm (h : permB σ l.length = true) {i : Nat} {K : Act -> World -> Prop} {a : Act} {w : World} (hw : wpOp P (permL σ l).toArray Q (posN σ i) K a w) : wpOp P l.toArray Q i K a w := by
 unfold wpOp at hw ⊢;have hg : (permL σ l).toArray[posN σ i]? = (l.toArray[i]?).map (remapO σ) := by simpa using permL_get h i
 rw [hg] at hw
 cases ho : l.toArray[i]? with
 | none => rw [ho] at hw; exact hw
 | some o =>
  rw [ho] at hw;simp only [Option.map_some, wanted_perm h] at hw;exact hw
theorem wpAny_perm (h : permB σ l.length = true) : ∀ (fuel : Nat) (L L' : Array Bool) (a : Act) (w : World), SameL σ l.length L L' -> wpAny P .any (permL σ l).toArray Q fuel L' a w -> wpAny P .any l.toArray Q fuel L a w := by
 have hnone : ∀ {L L' : Array Bool}, SameL σ l.length L L' -> Region.ready .any l.toArray L = [] -> Region.ready .any (permL σ l).toArray L' = [] := by
  intro L L' hs hr;rw [List.eq_nil_iff_forall_not_mem];intro k hk;obtain ⟨_, o, ho, _⟩ := mem_ready.1 hk;have hlt : k < σ.length := by
   have := (Array.getElem?_eq_some_iff.1 ho).1;simpa [permL] using this
  obtain ⟨_, hp⟩ := perm_at h (List.getElem?_eq_getElem hlt);rw [<- hp] at hk;have := (ready_perm h hs _).1 hk;rw [hr] at this;cases this
 have hsome : ∀ {L L' : Array Bool}, SameL σ l.length L L' -> Region.ready .any (permL σ l).toArray L' = [] -> Region.ready .any l.toArray L = [] := by
  intro L L' hs hr;rw [List.eq_nil_iff_forall_not_mem];intro i hi;have := (ready_perm h hs i).2 hi;rw [hr] at this;cases this
 intro fuel
 induction fuel with
 | zero => intro L L' a w hs hw; exact ⟨hsome hs hw.1, hw.2⟩
 | succ fuel ih =>
  intro L L' a w hs hw;refine ⟨fun hr => hw.1 (hnone hs hr), fun i hi => ?_⟩;obtain ⟨_, o, ho, _⟩ := mem_ready.1 hi;have hlt : i < l.length := by simpa using (Array.getElem?_eq_some_iff.1 ho).1
  exact wpOp_perm h (wpOp_mono (fun a' w' h' => ih _ _ a' w' (hs.set h hlt) h') (hw.2 (posN σ i) ((ready_perm h hs i).2 hi)))
theorem wp_region_perm (h : permB σ l.length = true) (hm : P.follows .mixedOrders = true) {id : Nat} {a : Act} {w : World} (hw : wpAny P .any (permL σ l).toArray Q l.length (Array.replicate l.length false) a { w with drawn := w.drawn + 1 }) : (Code.region id l.toArray true).wp P Q a w := by
 refine wp_region_any hm ?_;have hs : SameL σ l.length (Array.replicate l.length false) (Array.replicate l.length false) := by
  refine ⟨by simp, by simp, fun j hj => ?_⟩;have hp := (List.getElem?_eq_some_iff.1 (perm_pos h hj)).1;rw [perm_len h] at hp;rw [Array.getElem?_replicate, Array.getElem?_replicate, if_pos hp, if_pos hj]
 have := wpAny_perm (P := P) (Q := Q) h l.length _ _ a _ hs hw;simpa using this
end
theorem orderR_back {l : List Oper} {np j : Nat} {reg : Nat -> Bool} {o : Oper} (h : orderR l np reg = true) (ho : l[j]? = some o) : ∀ e ∈ o.after, Region.binds .any e = true -> e.on < j := by
 intro e he hb;have hj := (List.getElem?_eq_some_iff.1 ho).1;unfold orderR at h;have h1 := List.all_eq_true.1 h j (List.mem_range.2 hj);rw [ho] at h1;simp only [Bool.and_eq_true] at h1;have h2 := (Array.all_eq_true_iff_forall_mem.1 h1.1) e he;simpa [hb] using h2
theorem orderR_all {l : List Oper} {np j : Nat} {reg : Nat -> Bool} {o : Oper} (h : orderR l np reg = true) (ho : l[j]? = some o) (hn : np <= j) : ∀ i, i < np -> reg i = true \/ waits .any l.toArray l.length j i = true := by
 intro i hi;have hj := (List.getElem?_eq_some_iff.1 ho).1;unfold orderR at h;have h1 := List.all_eq_true.1 h j (List.mem_range.2 hj);rw [ho] at h1;simp only [Bool.and_eq_true, Bool.or_eq_true, decide_eq_true_eq] at h1;rcases h1.2 with h2 | h2
 . omega
 . have h3 := List.all_eq_true.1 h2 i (List.mem_range.2 hi);simpa using h3
theorem _root_.Go.wpAny.ended {P : Program} {Q : Exit -> Act -> World -> Prop} {ops : Array Oper} {n : Nat} {listed : Array Bool} {a : Act} {w : World} (h : wpAny P .any ops Q n listed a w) (hr : Region.ready .any ops listed = []) : Q .normal a w := by
 cases n with
 | zero => exact h.2
 | succ n => exact h.1 hr
theorem _root_.Go.wpAny.step {P : Program} {Q : Exit -> Act -> World -> Prop} {ops : Array Oper} {n : Nat} {listed : Array Bool} {a : Act} {w : World} (h : wpAny P .any ops Q n listed a w) {i : Nat} (hr : i ∈ Region.ready .any ops listed) : wpOp P ops Q i (fun a w => ∃ n, wpAny P .any ops Q n (listed.setIfInBounds i true) a w) a w := by
 cases n with
 | zero => rw [h.1] at hr; cases hr
 | succ n => exact wpOp_mono (fun a w h => ⟨n, h⟩) (h.2 i hr)
theorem wp_any_made4 {P : Program} {Q : Exit -> Act -> World -> Prop} {a0 : Act} {w0 : World} {l : List Oper} (np : Nat) (reg : Nat -> Bool) (R : Nat -> Value -> Nat -> Nat -> World -> Prop) (hO : orderR l np reg = true) (hnp : np <= l.length) (hd : dstsB l np a0.tmps.size = true) (hrn : ∀ i, reg i = true -> i < np)
 (hsel : ∀ (j : Nat) (o : Oper) cs b, l.toArray[j]? = some o -> o.op ≠ .select cs b) (hQ : ∀ c a w, ¬ Q (.panic c) a w) (hap : ∀ i, reg i = true -> apartB l i = true)
 (hR : ∀ i v lo hi w w', R i v lo hi w -> hi <= w.heap.size -> From w w' -> R i v lo hi w')
 (hstepR : ∀ i o, i < np -> reg i = true -> l[i]? = some o -> ∀ (L : Nat -> Bool) (a : Act) (w : World) (val : Nat -> Value) (lo hi : Nat -> Nat), Made w0 a0 l np R L a w val lo hi -> (∀ e ∈ o.after, Region.binds .any e = true -> L e.on = true) -> L i = false -> (∀ j oj, L j = true -> l[j]? = some oj -> ∀ e ∈ oj.after, Region.binds .any e = true -> L e.on = true) ->
  ∃ v, Yields P l.toArray o v a /\ R i v w.heap.size w.heap.size w)
 (hstep : ∀ i o, i < np -> l[i]? = some o -> ∀ (L : Nat -> Bool) (a : Act) (w : World) (val : Nat -> Value) (lo hi : Nat -> Nat), Made w0 a0 l np R L a w val lo hi -> (∀ e ∈ o.after, Region.binds .any e = true -> L e.on = true) -> L i = false -> (∀ j oj, L j = true -> l[j]? = some oj -> ∀ e ∈ oj.after, Region.binds .any e = true -> L e.on = true) ->
  wpOp P l.toArray Q i (fun a' w' => ∃ v, a' = a.put o.dst v /\ From w w' /\ R i v w.heap.size w'.heap.size w') a w)
 (hK : ∀ (val : Nat -> Value) (lo hi : Nat -> Nat) (w : World), From w0 w -> (∀ i, i < np -> w0.heap.size <= lo i /\ lo i <= hi i /\ hi i <= w.heap.size /\ R i (val i) (lo i) (hi i) w) -> (∀ i j, i < np -> j < np -> i ≠ j -> hi i <= lo j \/ hi j <= lo i) -> ∀ listed : Array Bool, listed.size = l.length -> (∀ j, LL listed j = decide (j < np)) -> ∃ n, wpAny P .any l.toArray Q n listed (putAll val 0 (l.take np) a0) w) :
 wpAny P .any l.toArray Q l.length (Array.replicate l.length false) a0 w0.drew := by
 refine wpAny_eag reg hsel hQ hap (fun listed a w => listed.size = l.length /\ Closed .any l.toArray listed /\ ((∃ val lo hi, Made w0 a0 l np R (LL listed) a w val lo hi /\ ∀ j, np <= j -> LL listed j = false) \/ ((∀ j, j < np -> LL listed j = true) /\ ∃ n, wpAny P .any l.toArray Q n listed a w))) ?_ ?_ ?_ _ _ _ _ ?_ ?_
 . rintro listed a w ⟨hsz, hcl, H⟩ hr
   have hall : ∀ j, j < l.length -> LL listed j = true := by
    intro j
    induction j using Nat.strongRecOn with
    | ind j ih =>
     intro hj
     cases hq : LL listed j with
     | true => rfl
     | false =>
      exfalso;have hmem : j ∈ Region.ready .any l.toArray listed := by
       rw [mem_ready];refine ⟨?_, l[j], by simp [hj], fun e he hb => ?_⟩
       . unfold LL at hq;rw [Array.getD_eq_getD_getElem?, Array.getElem?_eq_getElem (by omega)] at hq ⊢;exact hq
       . have h1 := orderR_back hO (List.getElem?_eq_getElem hj) e he hb;exact ih e.on h1 (by omega)
      rw [hr] at hmem;cases hmem
   rcases H with ⟨val, lo, hi, M, hpost⟩ | ⟨_, n, hw⟩
   . have hnl : np = l.length := by
      rcases Nat.lt_or_ge np l.length with h | h
      . have h1 := hall np h;rw [hpost np (Nat.le_refl _)] at h1;cases h1
      . omega
     have hact := M.act (fun i hi => hall i (by omega)) hd;obtain ⟨n, h1⟩ := hK val lo hi w M.from0 (fun i hi => M.rows i hi (hall i (by omega))) (fun i j hi hj hij => M.apart i j hi hj (hall i (by omega)) (hall j (by omega)) hij) listed hsz fun j => by
      rcases Nat.lt_or_ge j np with h | h
      . rw [hall j (by omega)]; simp [h]
      . rw [hpost j h]; simp [Nat.not_lt.2 h]
     rw [<- hact] at h1;exact h1.ended hr
   . exact hw.ended hr
 . rintro listed a w i o ⟨hsz, hcl, H⟩ hr hri ho'
   obtain ⟨hun, o2, ho, haft⟩ := mem_ready.1 hr;have hoo : o2 = o := by
    have : l.toArray[i]? = some o := by simpa using ho'
    rw [this] at ho;injection ho with ho;exact ho.symm
   subst hoo;obtain ⟨hn, hlt⟩ := listed_false hun;have hL := LL_set (listed := listed) (i := i) hlt;have hinp := hrn i hri;rcases H with ⟨val, lo, hi, M, hpost⟩ | ⟨hLk, _⟩
   . obtain ⟨v, hy, hv⟩ := hstepR i o2 hinp hri ho' (LL listed) a w val lo hi M (fun e he hb => by have := haft e he hb; unfold LL; exact this) hn (fun j oj hj hoj e he hb => hcl j oj (by simpa using hoj) hj e he hb);refine ⟨v, hy, by simp [hsz], hcl.set_ hr, .inl ⟨_, _, _, M.next hinp ho' hd hR (Below.refl _ _) hv hL hn, fun j hj => ?_⟩⟩;rw [hL, if_neg (by omega)];exact hpost j hj
   . rw [hLk i hinp] at hn;cases hn
 . rintro listed a w i ⟨hsz, hcl, H⟩ hr hnoreg
   obtain ⟨hun, o, ho, haft⟩ := mem_ready.1 hr;obtain ⟨hn, hlt⟩ := listed_false hun;have ho' : l[i]? = some o := by simpa using ho
   have hL := LL_set (listed := listed) (i := i) hlt
   -- the first part is done ahead of a late operation
   have hdone : np <= i -> ∀ j, j < np -> LL listed j = true := by
    intro hinp j
    induction j using Nat.strongRecOn with
    | ind j ih =>
     intro hj;rcases orderR_all hO ho' hinp j hj with hrj | hw
     . cases hq : LL listed j with
       | true => rfl
       | false =>
        exfalso;have hjl : j < l.length := by omega
        have hmem : j ∈ Region.ready .any l.toArray listed := by
         rw [mem_ready];refine ⟨?_, l[j], by simp [hjl], fun e he hb => ?_⟩
         . unfold LL at hq;rw [Array.getD_eq_getD_getElem?, Array.getElem?_eq_getElem (by omega)] at hq ⊢;exact hq
         . have h1 := orderR_back hO (List.getElem?_eq_getElem hjl) e he hb;exact ih e.on h1 (by omega)
        rw [hnoreg j hmem] at hrj;cases hrj
     . exact waits_listed hcl _ i j o ho haft hw
   have post : (∀ j, j < np -> LL listed j = true) -> ∀ n, wpAny P .any l.toArray Q n listed a w -> wpOp P l.toArray Q i (fun a w => (listed.setIfInBounds i true).size = l.length /\ Closed .any l.toArray (listed.setIfInBounds i true) /\ ((∃ val lo hi, Made w0 a0 l np R (LL (listed.setIfInBounds i true)) a w val lo hi /\ ∀ j, np <= j -> LL (listed.setIfInBounds i true) j = false) \/ ((∀ j, j < np -> LL (listed.setIfInBounds i true) j = true) /\ ∃ n, wpAny P .any l.toArray Q n (listed.setIfInBounds i true) a w))) a w := by
    intro hLk n hw;refine wpOp_mono (fun a' w' h' => ⟨by simp [hsz], hcl.set_ hr, .inr ⟨fun j hj => ?_, h'⟩⟩) (hw.step hr);rw [hL];split
    . rfl
    . exact hLk j hj
   rcases H with ⟨val, lo, hi, M, hpost⟩ | ⟨hLk, n, hw⟩
   . rcases Nat.lt_or_ge i np with hinp | hinp
     . refine wpOp_mono (fun a' w' h' => ?_) (hstep i o hinp ho' (LL listed) a w val lo hi M (fun e he hb => by have := haft e he hb; unfold LL; exact this) hn (fun j oj hj hoj e he hb => hcl j oj (by simpa using hoj) hj e he hb));obtain ⟨v, rfl, hf, hv⟩ := h';refine ⟨by simp [hsz], hcl.set_ hr, .inl ⟨_, _, _, M.next hinp ho' hd hR hf hv hL hn, fun j hj => ?_⟩⟩;rw [hL, if_neg (by omega)];exact hpost j hj
     . have hi0 : ∀ j, j < np -> LL listed j = true := hdone hinp;have hact := M.act (fun j hj => hi0 j hj) hd;obtain ⟨n, h1⟩ := hK val lo hi w M.from0 (fun j hj => M.rows j hj (hi0 j hj)) (fun j k hj hk hjk => M.apart j k hj hk (hi0 j hj) (hi0 k hk) hjk) listed hsz fun j => by
        rcases Nat.lt_or_ge j np with h | h
        . rw [hi0 j h]; simp [h]
        . rw [hpost j h]; simp [Nat.not_lt.2 h]
       rw [<- hact] at h1;exact post hi0 n h1
   . exact post hLk n hw
 . simp
 . have h0 : ∀ j, LL (Array.replicate l.length false) j = false := fun j => by
    unfold LL;rw [Array.getD_eq_getD_getElem?, Array.getElem?_replicate];split <;> rfl
   refine ⟨by simp, fun j oj _ hl => (by simp [Array.getElem?_replicate] at hl; split at hl <;> simp at hl), .inl ⟨fun _ => undef, fun _ => 0, fun _ => 0, ⟨rfl, rfl, (Below.refl _ _).drew, fun i _ h => ?_, fun i j _ _ h => ?_, fun i o d _ _ _ h => ?_, fun s _ => rfl⟩, fun j _ => ?_⟩⟩
   . rw [h0] at h; cases h
   . rw [h0] at h; cases h
   . rw [h0] at h; cases h
   . exact h0 j
def AV.scal : AV -> Bool
 | .int _ _ => true
 | .lit _ _ => true
 | .bool _ => true
 | .blit _ => true
 | .str _ => true
 | _ => false
section
variable {P : Program} {r : Operand -> Value} {d : Option Nat} {ty : TypeId} {pos : String} {aft : Array Edge} {gd : Option (Nat × Bool)} {u v : Value} {w w' : World}
variable {ρ ρ' : Nat -> Option Rl} {base base' : Nat} {ro ro' : Nat -> Prop} {ge : Nat -> Option En}
theorem AVR.scal_ {x : AV} (h : AVR w ρ base ro x v) (hx : x.scal = true) : AVR w' ρ' base' ro' x v := by
 cases h <;> first | exact .int _ _ | exact .lit _ _ | exact .bool _ | exact .blit _ | exact .str _ | cases hx
theorem AVR.scal_det {x : AV} (h : AVR w ρ base ro x v) (h' : AVR w' ρ' base' ro' x u) (hx : x.scal = true) : v = u := by
 cases h <;> first | (cases h'; rfl) | cases hx
theorem asInt_scal {x : AV} {k : IntKind} {n : Unit -> Int} (h : x.asInt = some (k, n)) : x.scal = true := by
 cases x <;> first | rfl | cases h
theorem asBool_scal {x : AV} {n : Unit -> Bool} (h : x.asBool = some n) : x.scal = true := by
 cases x <;> first | rfl | cases h
theorem arith_scal {op : BinOp} {k : IntKind} {a b : Unit -> Int} {av : AV} {vcs : List VC} (h : arith op k a b = some (av, vcs)) : av.scal = true := by
 unfold arith at h;split at h <;> first | (split at h <;> (cases h; rfl)) | (cases h; rfl) | cases h
theorem binAV_scal {ti : Option TI} {op : BinOp} {a b av : AV} {vcs : List VC} (h : binAV ti op a b = some (av, vcs)) : a.scal = true /\ b.scal = true /\ av.scal = true := by
 have hsh : ∀ op, shiftAV op a b = some (av, vcs) -> a.scal = true /\ b.scal = true /\ av.scal = true := by
  intro op h;unfold shiftAV at h;split at h
  . rename_i k m k' n e1 e2;cases h;exact ⟨asInt_scal e1, asInt_scal e2, rfl⟩
  . cases h
 unfold binAV at h;split at h
 . exact hsh _ h
 . exact hsh _ h
 split at h
 . split at h
   . rename_i k m k' n _;split at h
     . rename_i q hf;cases h;refine ⟨rfl, rfl, ?_⟩;unfold fold at hf;split at hf <;> first | (cases hf; rfl) | cases hf
     . exact ⟨rfl, rfl, arith_scal h⟩
   . cases h
 . unfold strOp at h;split at h <;> first | (cases h; exact ⟨rfl, rfl, rfl⟩) | cases h
 . split at h
   . rename_i k a' k' b' h1 h2;split at h
     . exact ⟨asInt_scal h1, asInt_scal h2, arith_scal h⟩
     . cases h
   . split at h
     . rename_i a' b' h1 h2;split at h
       . unfold boolOp at h;split at h <;> first | (cases h; exact ⟨asBool_scal h1, asBool_scal h2, rfl⟩) | cases h
       . cases h
     . cases h
theorem regOp_ok {tb : Tab} {cs : List Con} {g : Operand -> AV} {op : Op} {av : AV} {vcs : List VC} (hreg : isReg op = true) (hty : TyOk P tb) (hge : ∀ loc e, ge loc = some e -> EnR w ρ base ro loc e) (hg : ∀ x ∈ op.operands, AVR w ρ base ro (g x) (r x))
 (h : pureOp tb cs ge g op = some (av, vcs)) (hv : ∀ c ∈ vcs, c ()) : ∃ v, (∀ w', (execOp r ⟨d, op, ty, pos, aft, gd⟩).run P w' = .ok (.value v) w') /\ AVR w ρ base ro av v := by
 cases op <;> simp only [isReg, Bool.false_eq_true] at hreg
 case move x =>
  simp only [pureOp, Option.some.injEq, Prod.mk.injEq] at h;obtain ⟨rfl, rfl⟩ := h;exact ⟨r x, fun w' => ok_move rfl, hg _ (by simp [Op.operands])⟩
 case assign x =>
  simp only [pureOp, Option.some.injEq, Prod.mk.injEq] at h;obtain ⟨rfl, rfl⟩ := h;exact ⟨r x, fun w' => ok_assign rfl, hg _ (by simp [Op.operands])⟩
 case binOp op T x y t' =>
  simp only [pureOp] at h;have hx := hg x (by simp [Op.operands]);have hy := hg y (by simp [Op.operands]);by_cases hag : (∃ cs, g x = .agg cs) /\ ∃ ds, g y = .agg ds
  . obtain ⟨⟨cs, h1⟩, ds, h2⟩ := hag;rw [h1, h2] at h;rw [h1] at hx;rw [h2] at hy;exact eqlAV_agg (d := d) (ty := ty) (pos := pos) (aft := aft) (gd := gd) hty h hx hy
  replace h : binAV (tiOf tb T) op (g x) (g y) = some (av, vcs) := by
   unfold eqlAV at h;split at h
   . rename_i cs ds h1 h2;exact (hag ⟨⟨cs, h1⟩, ds, h2⟩).elim
   . exact h
  obtain ⟨h1, h2, h3⟩ := binAV_scal h;obtain ⟨v, k1, k2⟩ := binAV_ok (d := d) (ty := ty) (pos := pos) (aft := aft) (gd := gd) (t' := t') hty h hv hx hy;refine ⟨v, fun w' => ?_, k2⟩;obtain ⟨v', k3, k4⟩ := binAV_ok (w := w') (ρ := ρ) (base := base) (ro := ro) (d := d) (ty := ty) (pos := pos) (aft := aft) (gd := gd) (t' := t') hty h hv (hx.scal_ h1) (hy.scal_ h2);rw [k2.scal_det k4 h3];exact k3
 case unOp op T x =>
  have hx := hg x (by simp [Op.operands]);have hn : ∀ k n w', r x = .int k n -> (execOp r ⟨d, .unOp .neg T x, ty, pos, aft, gd⟩).run P w' = .ok (.value (.int k (k.wrap (-n)))) w' := by
   intro k n w' he;unfold execOp;simp only [he, Op.unary, Op.intArith, Sem.run_bind, Sem.run_pure, Result.andThen_ok, Int.zero_sub]
  cases op <;> simp only [pureOp] at h
  all_goals first | cases h | skip
  all_goals (split at h <;> try cases h)
  . rename_i k n he;rw [he] at hx;exact ⟨_, fun w' => hn _ _ w' hx.lit_, .lit _ _⟩
  . rename_i n he;rw [he] at hx;refine ⟨_, fun w' => hn _ _ w' hx.int_, ?_⟩;rw [wrap_in64 (hv _ (.head _))];exact .int _ fun _ => -n ()
  . rename_i b he;rw [he] at hx;exact ⟨_, fun w' => ok_not hx.blit_ rfl, .blit _⟩
  . rename_i b he;rw [he] at hx;exact ⟨_, fun w' => ok_not hx.bool_ rfl, .bool _⟩
 case convert s t x =>
  have hx := hg x (by simp [Op.operands]);simp only [pureOp] at h;split at h
  . rename_i k0 k kk n e1 e2 he;cases h;rw [he] at hx;obtain ⟨i1, _, h1, h2⟩ := tiOf_ hty e1;obtain ⟨i2, _, h3, h4⟩ := tiOf_ hty e2;obtain ⟨ds1, hd1, _⟩ := tyB_desc h2;exact ⟨_, fun w' => ok_conv hx.lit_ hd1 (tyB_int h4 h3) rfl rfl, .lit _ _⟩
  . rename_i k0 k kk n e1 e2 he;rw [he] at hx;obtain ⟨i1, _, h1, h2⟩ := tiOf_ hty e1;obtain ⟨i2, _, h3, h4⟩ := tiOf_ hty e2;obtain ⟨ds1, hd1, _⟩ := tyB_desc h2;split at h
    . rename_i hk;subst hk;cases h;exact ⟨_, fun w' => ok_conv hx.int_ hd1 (tyB_int h4 h3) (wrap_in64 (hv _ (.head _))) rfl, .int _ _⟩
    . cases h;exact ⟨_, fun w' => ok_conv hx.int_ hd1 (tyB_int h4 h3) rfl rfl, .int _ fun _ => k.wrap (n ())⟩
  . cases h
 case fieldAddr T x f =>
  have hx := hg x (by simp [Op.operands]);simp only [pureOp] at h
  cases hT : alook tb T with
  | none => rw [hT] at h; cases h
  | some i =>
   rw [hT] at h;simp only [Option.bind_some] at h;split at h
   . rename_i off sz a hf;split at h
     . cases h
     . rename_i hsz
       cases ha : addOff (g x) off with
       | none => rw [ha] at h; cases h
       | some av' =>
        rw [ha] at h;cases h;obtain ⟨b, o, h1, h2⟩ := addOff_ok ha hx;exact ⟨_, fun w' => ok_field h1 (fieldOff_of (hty T i hT) hf (by simpa using hsz)) rfl, h2⟩
   . cases h
 case extract x i =>
  have hx := hg x (by simp [Op.operands]);simp only [pureOp] at h;split at h
  . rename_i l he
    cases hl : l[i]? with
    | none => rw [hl] at h; cases h
    | some av' =>
     rw [hl] at h;cases h;rw [he] at hx;obtain ⟨vs, h1, hE⟩ := hx.tup_;obtain ⟨v, h2, h3⟩ := hE.get hl;exact ⟨v, fun w' => ok_extract h1 (by simpa using h2), h3⟩
  . cases h
 case indexAddr T x y =>
  have hx := hg x (by simp [Op.operands]);have hy := hg y (by simp [Op.operands]);simp only [pureOp] at h;split at h
  . rename_i e sz b fr t l kk k e1 e2 e3;split at h
    . rename_i hs;cases h;rw [e2] at hx;obtain ⟨i, _, h1, h2⟩ := tiOf_ hty e1;obtain ⟨v, k1, k2⟩ := index_ok (d := d) (ty := ty) (pos := pos) (aft := aft) (gd := gd) h2 h1 (eq_of_beq hs) hx (asInt_ e3 hy) (hv _ (.head _));exact ⟨v, k1, k2⟩
    . cases h
  . rename_i e sz b fr t l n kk k e1 e2 e3;split at h
    . rename_i hs;cases h;rw [e2] at hx;obtain ⟨i, _, h1, h2⟩ := tiOf_ hty e1;obtain ⟨v, k1, k2⟩ := indexW_ok (d := d) (ty := ty) (pos := pos) (aft := aft) (gd := gd) h2 h1 (eq_of_beq hs) hx (asInt_ e3 hy) (hv _ (.head _));exact ⟨v, k1, k2⟩
    . cases h
  . rename_i e sz b loc kk k e1 e2 e3;split at h
    . rename_i fr t T' l he;split at h
      . rename_i hs;cases h;rw [e2] at hx;obtain ⟨i, _, h1, h2⟩ := tiOf_ hty e1;obtain ⟨v, k1, k2⟩ := indexO_ok (d := d) (ty := ty) (pos := pos) (aft := aft) (gd := gd) hge h2 h1 (eq_of_beq hs) he hx (asInt_ e3 hy) (hv _ (.head _));exact ⟨v, k1, k2⟩
      . cases h
    . cases h
  . exact arrAddr_ok (d := d) (ty := ty) (pos := pos) (aft := aft) (gd := gd) hty h hx hy
end
section
variable {P : Program} {w w' w0 : World} {S0 : Pm} {N : Nat} {B : Bs} {S : Sx} {a a0 : Act} {C : Cx} {Q : Exit -> Act -> World -> Prop}
theorem goOps_one (hty : TyOk P C.ty) (hcs : CxOk P C S0) {l : List Oper} {o : Oper} {i : Nat} (ho : l[i]? = some o) {k : Sx -> Fm} {K : Act -> World -> Prop} (hk : ∀ S' a' w', Sim w0 S0 N B S' a' w' -> (k S').P -> K a' w') (h : (goOps C N B l [o] S k).P) (H : Sim w0 S0 N B S a w) : wpOp P l.toArray Q i K a w := by
 obtain ⟨r, S1, hdec, hway⟩ := goOps_way h;obtain ⟨hw, H1⟩ := hdec.seq H;unfold wpOp;simp only [List.getElem?_toArray, ho];rcases hway with ⟨rfl, ⟨S2, vcs, hs, hv, h2⟩ | ⟨f, hs, h2⟩⟩ | ⟨rfl, S2, hs, h2⟩
 . rw [if_pos hw];exact .inl ((stepOp_ok hty hcs H1 hs hv).wp fun a' w' H2 => hk _ _ _ H2 h2)
 . rw [if_pos hw];exact .inl ((splitOp_ok hty H1 hs h2).wp fun a' w' ⟨S', H2, h3⟩ => hk _ _ _ H2 h3)
 . rw [if_neg (by rw [hw]; simp)];exact hk _ _ _ (skipOp_ok H1 hs) h2
theorem isReg_pure {ef : List Nat} {op : Op} (h : isReg op = true) : isPure ef op = true := by cases op <;> first | rfl | cases h
theorem goOps_reg (hty : TyOk P C.ty) {l : List Oper} {o : Oper} {d : Nat} (hreg : isReg o.op = true) (hd : o.dst = some d) {k : Sx -> Fm} (h : (goOps C N B l [o] S k).P) (H : Sim w0 S0 N B S a w) : ∃ v S', Yields P l.toArray o v a /\ Sim w0 S0 N B S' (a.put o.dst v) w /\ (k S').P := by
 obtain ⟨r, S1, hdec, hway⟩ := goOps_way h;obtain ⟨hw, H1⟩ := hdec.seq H;have hp : isPure (efs C.fs) o.op = true := isReg_pure hreg;rcases hway with ⟨rfl, ⟨S2, vcs, hs, hv, h2⟩ | ⟨f, hs, h2⟩⟩ | ⟨rfl, S2, hs, h2⟩
 . unfold stepOp at hs;split at hs
   . rename_i av vcs' hpu;rw [hd] at hs;dsimp only at hs
     cases hput : putT B S1 N d av with
     | none => rw [hput] at hs; cases hs
     | some S3 =>
      rw [hput] at hs;cases hs;obtain ⟨ρ, ro, H1⟩ := H1;obtain ⟨dst, op, ty, pos, aft, gd⟩ := o;obtain ⟨v, h8, h9⟩ := regOp_ok (P := P) (d := dst) (ty := ty) (pos := pos) (aft := aft) (gd := gd) (r := a.eval) hreg hty (fun q e he => H1.en q e he) (fun x _ => H1.get x) hpu hv;refine ⟨v, S2, .inl ⟨hw, h8⟩, ⟨ρ, ro, ?_⟩, h2⟩;have hd' : dst = some d := hd;subst hd';exact H1.put hput h9
   . rw [isPure_mem hp] at hs;dsimp only at hs;rw [isPure_call hp] at hs;cases hs
 . rw [isPure_split hp] at hs;cases hs
 . exact ⟨undef, S2, .inr ⟨hw, rfl⟩, skipOp_ok H1 hs, h2⟩
theorem memN_cons {d k : Nat} {l : List Nat} : memN d (k :: l) = (k == d || memN d l) := rfl
theorem readyN_iff {l : List Oper} {done : List Nat} {listed : Array Bool} (hsz : listed.size = l.length) (hL : ∀ j, LL listed j = memN j done) (i : Nat) : i ∈ readyN l done ↔ i ∈ Region.ready .any l.toArray listed := by
 unfold readyN;rw [List.mem_filter, List.mem_range, mem_ready];have hg : ∀ j, listed.getD j false = memN j done := fun j => hL j;constructor
 . rintro ⟨hi, h⟩
   rw [List.getElem?_eq_getElem hi] at h;simp only [Bool.and_eq_true, Bool.not_eq_true', Array.all_eq_true_iff_forall_mem, Bool.or_eq_true] at h;refine ⟨?_, l[i], by simp [hi], fun e he hb => ?_⟩
   . have h1 := hg i;rw [h.1, Array.getD_eq_getD_getElem?, Array.getElem?_eq_getElem (by omega)] at h1;rw [Array.getD_eq_getD_getElem?, Array.getElem?_eq_getElem (by omega)];exact h1
   . rw [hg];rcases h.2 e he with h2 | h2
     . rw [hb] at h2; cases h2
     . exact h2
 . rintro ⟨h1, o, ho, h2⟩
   have ho' : l[i]? = some o := by simpa using ho
   have hi := (List.getElem?_eq_some_iff.1 ho').1;refine ⟨hi, ?_⟩;rw [ho'];simp only [Bool.and_eq_true, Bool.not_eq_true', Array.all_eq_true_iff_forall_mem, Bool.or_eq_true];refine ⟨?_, fun e he => ?_⟩
   . rw [<- hg, Array.getD_eq_getD_getElem?, Array.getElem?_eq_getElem (by omega)];rw [Array.getD_eq_getD_getElem?, Array.getElem?_eq_getElem (by omega)] at h1;exact h1
   . cases hb : Region.binds .any e with
     | false => exact .inl rfl
     | true => exact .inr (by rw [<- hg]; exact h2 e he hb)
theorem andAll_mem {f : Nat -> Fm} : ∀ {is : List Nat}, (andAll is f).P -> ∀ i ∈ is, (f i).P
 | [], h, _, _ => h.elim
 | [i], h, j, hj => by rw [List.mem_singleton] at hj; subst hj; exact h
 | i :: k :: is, h, j, hj => by
  rcases List.mem_cons.1 hj with rfl | hj
  . exact h.1
  . exact andAll_mem h.2 j hj
theorem firstReg_ok {l : List Oper} : ∀ {is : List Nat} {i : Nat}, firstReg l is = some i -> i ∈ is /\ ∃ o d, l[i]? = some o /\ isReg o.op = true /\ o.dst = some d /\ apartB l i = true
 | [], i, h => by cases h
 | j :: is, i, h => by
  unfold firstReg at h
  cases ho : l[j]? with
  | none =>
   rw [ho] at h;dsimp only at h;rw [if_neg (by simp)] at h;obtain ⟨h1, h2⟩ := firstReg_ok h;exact ⟨.tail _ h1, h2⟩
  | some o =>
   rw [ho] at h;dsimp only at h;split at h
   . rename_i hc;injection h with h;subst h;simp only [Bool.and_eq_true, Option.isSome_iff_exists] at hc;obtain ⟨⟨h1, d, h2⟩, h3⟩ := hc;exact ⟨.head _, o, d, ho, h1, h2, h3⟩
   . obtain ⟨h1, h2⟩ := firstReg_ok h;exact ⟨.tail _ h1, h2⟩
theorem goLate_ok (hty : TyOk P C.ty) (hcs : CxOk P C S0) {l : List Oper} {k : Sx -> Fm} (hsel : ∀ (j : Nat) (o : Oper) cs b, l.toArray[j]? = some o -> o.op ≠ .select cs b) (hQ : ∀ c a w, ¬ Q (.panic c) a w) (hk : ∀ S' a' w', Sim w0 S0 N B S' a' w' -> (k S').P -> Q .normal a' w') :
 ∀ (fuel : Nat) (done : List Nat) (S : Sx) (a : Act) (w : World) (listed : Array Bool), (goLate C N B l fuel done S k).P -> Sim w0 S0 N B S a w -> listed.size = l.length -> (∀ j, LL listed j = memN j done) -> wpAny P .any l.toArray Q fuel listed a w
 | 0, done, S, a, w, listed, h, H, hsz, hL => by
  have hr := readyN_iff (l := l) hsz hL;unfold goLate at h;split at h
  . rename_i he;rw [he] at hr;exact ⟨List.eq_nil_iff_forall_not_mem.2 fun i hi => (by have := (hr i).2 hi; cases this), hk _ _ _ H h⟩
  . exact h.elim
 | fuel + 1, done, S, a, w, listed, h, H, hsz, hL => by
  have hr := readyN_iff (l := l) hsz hL;have hone : ∀ i, i ∈ readyN l done -> (match l[i]? with
   | some o => goOps C N B l [o] S fun S' => goLate C N B l fuel (i :: done) S' k
   | none => .ff 19 : Fm).P -> wpOp P l.toArray Q i (wpAny P .any l.toArray Q fuel (listed.setIfInBounds i true)) a w := by
   intro i hi h;obtain ⟨hun, o, ho, _⟩ := mem_ready.1 ((hr i).1 hi);have ho' : l[i]? = some o := by simpa using ho
   rw [ho'] at h;have hlt := (List.getElem?_eq_some_iff.1 ho').1;exact goOps_one hty hcs ho' (fun S' a' w' H' h' => goLate_ok hty hcs hsel hQ hk fuel _ _ _ _ _ h' H' (by simp [hsz]) fun j => by
    rw [LL_set (by omega), hL, memN_cons];by_cases e : j = i
    . subst e; simp
    . rw [if_neg e];have : (i == j) = false := by simpa using fun h => e h.symm
      rw [this, Bool.false_or]) h H
  unfold goLate at h;dsimp only at h;split at h
  . rename_i he;rw [he] at hr;have hnil : Region.ready .any l.toArray listed = [] := List.eq_nil_iff_forall_not_mem.2 fun i hi => by have := (hr i).2 hi; cases this
    exact ⟨fun _ => hk _ _ _ H h, fun i hi => by rw [hnil] at hi; cases hi⟩
  . rename_i i he;have hmem : i ∈ readyN l done := by rw [he]; exact .head _
    refine ⟨fun hn => ?_, fun j hj => ?_⟩
    . have := (hr i).1 hmem;rw [hn] at this;cases this
    . have := (hr j).2 hj;rw [he, List.mem_singleton] at this;subst this;exact hone _ hmem h
  . have hne : ∀ (P : Prop), Region.ready .any l.toArray listed = [] -> (∃ i, i ∈ readyN l done) -> P := fun P hn ⟨i, hi⟩ => by
     have := (hr i).1 hi;rw [hn] at this;cases this
    split at h
    . rename_i i hf;obtain ⟨hmem, o, d, ho, hreg, hd, hap⟩ := firstReg_ok hf;rw [ho] at h;obtain ⟨v, S', hy, H', h'⟩ := goOps_reg hty hreg hd h H;have hi := (hr i).1 hmem;obtain ⟨_, o2, ho2, haft⟩ := mem_ready.1 hi;have hlt := (List.getElem?_eq_some_iff.1 ho).1;have heq : o2 = o := by
       have h1 : l[i]? = some o2 := by simpa using ho2
       rw [ho] at h1;injection h1 with h1;exact h1.symm
      subst heq;refine wpAny_first ho2 hsel (fun c a w hq => (hQ c _ w hq).elim) fuel listed a w (fun j oj hoj hne hjl hno => ?_) hi hy ?_
      . rcases apartB_spec hap ho (by simpa using hoj) hne with ⟨e, he, hb, hon⟩ | ⟨e, he, hb, hon⟩ | h3
        . have h4 := haft e he hb;rw [hon] at h4;rw [Array.getD_eq_getD_getElem?] at h4 hjl
          cases hq : listed[j]? with
          | none => rw [hq] at h4; cases h4
          | some q => rw [hq] at h4 hjl; simp only [Option.getD_some] at h4 hjl; rw [h4] at hjl; cases hjl
        . exact absurd hon (hno e he hb)
        . exact h3
      . exact goLate_ok hty hcs hsel hQ hk fuel _ _ _ _ _ h' H' (by simp [hsz]) fun j => by
         rw [LL_set (by omega), hL, memN_cons];by_cases e : j = i
         . subst e; simp
         . rw [if_neg e];have : (i == j) = false := by simpa using fun h => e h.symm
           rw [this, Bool.false_or]
    . refine ⟨fun hn => hne _ hn ?_, fun j hj => hone j ((hr j).2 hj) (andAll_mem h j ((hr j).2 hj))⟩;rename_i hx _ _ _
      cases he : readyN l done with
      | nil => exact (hx he).elim
      | cons i is => exact ⟨i, .head _⟩
theorem chain_any {l : List Oper} {np : Nat} (hch : chainB l np = true) (hback : ∀ (j : Nat) (o : Oper), l[j]? = some o -> ∀ e ∈ o.after, Region.binds .any e = true -> e.on < j) :
 ∀ (m k : Nat) (a : Act) (w : World) (listed : Array Bool), k + m = l.length -> np <= k -> listed.size = l.length -> (∀ j, LL listed j = decide (j < k)) -> wpList P l.toArray Q (l.drop k) a w -> wpAny P .any l.toArray Q m listed a w
 | m, k, a, w, listed, hm, hn, hsz, hL, hw => by
  have hg : ∀ j, listed.getD j false = decide (j < k) := fun j => hL j;have hready : ∀ i ∈ Region.ready .any l.toArray listed, i = k := by
   intro i hi;obtain ⟨hun, o, ho, haft⟩ := mem_ready.1 hi;have ho' : l[i]? = some o := by simpa using ho
   have hlt := (List.getElem?_eq_some_iff.1 ho').1;have h1 : ¬ i < k := fun h => by
    have h2 := hg i;rw [Array.getD_eq_getD_getElem?, Array.getElem?_eq_getElem (by omega)] at h2 hun;simp only [Option.getD_some] at h2 hun;rw [hun] at h2;simp [h] at h2
   have hc := List.all_eq_true.1 hch i (List.mem_range.2 hlt);rw [ho'] at hc;simp only [Bool.or_eq_true, decide_eq_true_eq, Array.any_eq_true', Bool.and_eq_true, beq_iff_eq] at hc;rcases Nat.lt_or_ge k i with h | h
   . rcases hc with hc | ⟨e, he, hb, hon⟩
     . omega
     . have h3 := haft e he hb;rw [hg, decide_eq_true_eq] at h3;omega
   . omega
  match m with
  | 0 =>
   rw [List.drop_eq_nil_of_le (by omega)] at hw;refine ⟨List.eq_nil_iff_forall_not_mem.2 fun i hi => ?_, hw⟩;have h1 := hready i hi;obtain ⟨_, o, ho, _⟩ := mem_ready.1 hi;have ho' : l[i]? = some o := by simpa using ho
   have hlt := (List.getElem?_eq_some_iff.1 ho').1;omega
  | m + 1 =>
   have hlt : k < l.length := by omega
   have hk : k ∈ Region.ready .any l.toArray listed := by
    rw [mem_ready];refine ⟨?_, l[k], by simp [hlt], fun e he hb => ?_⟩
    . have h2 := hg k;rw [Array.getD_eq_getD_getElem?, Array.getElem?_eq_getElem (by omega)] at h2 ⊢;simpa using h2
    . rw [hg, decide_eq_true_eq];exact hback k _ (List.getElem?_eq_getElem hlt) e he hb
   refine ⟨fun h => (by rw [h] at hk; cases hk), fun i hi => ?_⟩;obtain rfl := hready i hi;rw [List.drop_eq_getElem_cons hlt] at hw;have hst : wpOp P l.toArray Q i (wpList P l.toArray Q (l.drop (i + 1))) a w := by
    unfold wpOp;simp only [List.getElem?_toArray, List.getElem?_eq_getElem hlt];exact hw
   refine wpOp_mono (fun a' w' h' => ?_) hst;refine chain_any hch hback m (i + 1) a' w' _ (by omega) (by omega) (by simp [hsz]) (fun j => ?_) h';rw [LL_set (by omega), hL];by_cases e : j = i
   . simp [e]
   . rw [if_neg e];by_cases h : j < i
     . simp [h, show j < i + 1 by omega]
     . simp [h, show ¬ j < i + 1 by omega]
theorem memN_range {j n : Nat} : memN j (List.range n) = decide (j < n) := by
 have h : ∀ (l : List Nat), memN j l = decide (j ∈ l) := by
  intro l
  induction l with
  | nil => rfl
  | cons k l ih =>
   rw [memN_cons, ih];by_cases e : j = k
   . subst e; simp
   . have : (k == j) = false := by simpa using fun h => e h.symm
     rw [this, Bool.false_or];simp [e]
 rw [h];simp
end
end Go.Proofs.YtfdjcakgolenbaaGreat
