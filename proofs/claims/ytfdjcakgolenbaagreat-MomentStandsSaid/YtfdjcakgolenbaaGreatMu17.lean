/-
  The abstract run's state, and when a frame and a world are as it says; how it changes.
-/
import Derived.Test.YtfdjcakgolenbaaGreatMu16
set_option linter.unusedVariables false
set_option linter.unusedSimpArgs false
namespace Go.Proofs.YtfdjcakgolenbaaGreat
open Go.RowKit
structure Sx where
 t : List (Nat × AV)
 e : List (Nat × En)
 n : Nat
structure Bs where
 t : List (Nat × AV)
 e : List (Nat × En)
def lookT (B : Bs) (S : Sx) (d : Nat) : Option AV := match alook S.t d with
 | some x => some x
 | none => alook B.t d
def lookE (B : Bs) (S : Sx) (l : Nat) : Option En := match alook S.e l with
 | some x => some x
 | none => alook B.e l
def getT (B : Bs) (S : Sx) (d : Nat) : AV := match lookT B S d with
 | some x => x
 | none => .un
def getO (B : Bs) (S : Sx) : Operand → AV
 | .tmp d => getT B S d
 | .const v => ofVal v
 | .func f => .fn f []
 | .global _ => .un
structure Pm where
 rd : Nat → Prop
 pl : Nat → Option Rl
 fx : Bool
structure FromG (pl : Nat → Option Rl) (w w' : World) : Prop where
 os : w'.os = w.os
 tape : w'.tape = w.tape
 output : w'.output = w.output
 size : w.heap.size ≤ w'.heap.size
 block : ∀ k, k < w.heap.size → (∀ l r, pl l = some r → r.blk ≠ some k) → w'.heap[k]? = w.heap[k]?
theorem FromG.refl (pl : Nat → Option Rl) (w : World) : FromG pl w w := ⟨rfl, rfl, rfl, Nat.le_refl _, fun _ _ _ => rfl⟩
theorem FromG.grown {pl : Nat → Option Rl} {w0 w w' : World} {row : Option Nat} (h : FromG pl w0 w) (hg : w.grownBy w' row) (hr : ∀ k, row = some k → w0.heap.size ≤ k ∨ ∃ l r, pl l = some r ∧ r.blk = some k) : FromG pl w0 w' :=
 ⟨hg.os.trans h.os, hg.tape.trans h.tape, hg.output.trans h.output, Nat.le_trans h.size hg.size, fun k hk hn => (hg.block k (Nat.lt_of_lt_of_le hk h.size) fun e => by
  rcases hr k e.symm with h1 | ⟨l, r, h1, h2⟩
  · omega
  · exact hn l r h1 h2).trans (h.block k hk hn)⟩
theorem grown_from {w w' : World} (h : From w w') : w.grownBy w' none := ⟨h.os, h.tape, h.output, h.size, fun i hi _ => h.block i hi⟩
theorem FromG.andThen {pl : Nat → Option Rl} {w0 w w' : World} (h : FromG pl w0 w) (hb : From w w') : FromG pl w0 w' := h.grown (grown_from hb) fun k hk => by cases hk
theorem FromG.alloc {pl : Nat → Option Rl} {w0 w : World} (h : FromG pl w0 w) (o : Obj) : FromG pl w0 (w.alloc o) := h.grown (World.grownBy_alloc w o none) fun k hk => by cases hk
theorem FromG.none_ {w w' : World} (h : FromG (fun _ => none) w w') : From w w' := ⟨h.os, h.tape, h.output, h.size, fun k hk => h.block k hk fun _ _ h => by cases h⟩
structure SimR (w0 : World) (S0 : Pm) (N : Nat) (B : Bs) (S : Sx) (a : Act) (w : World) (ρ : Nat → Option Rl) (ro : Nat → Prop) : Prop where
 from_ : FromG S0.pl w0 w
 size : a.tmps.size = N
 defers : a.defers = []
 roB : ∀ b, ro b → b < w.heap.size
 tm : ∀ d x, lookT B S d = some x → ∃ u, a.tmps[d]? = some u ∧ AVR w ρ w0.heap.size ro x u
 en : ∀ l e, lookE B S l = some e → EnR w ρ w0.heap.size ro l e
 apart : ∀ l l' r r' b, l ≠ l' → ρ l = some r → ρ l' = some r' → r.blk = some b → r'.blk ≠ some b
 fresh : ∀ l, S.n ≤ l → ρ l = none
 own : ∀ l r b, ρ l = some r → r.blk = some b → b < w.heap.size ∧ ¬ ro b ∧ (w0.heap.size ≤ b ∨ ∃ r0, S0.pl l = some r0 ∧ r0.blk = some b)
 roS : ∀ b, ro b → b < w0.heap.size → S0.rd b
 solid : ∀ l r, S0.pl l = some r → (r.solid || S0.fx) = true → ρ l = some r
 disT : ∀ d x, alook B.t d = some x → alook S.t d = none
 disE : ∀ l e, alook B.e l = some e → alook S.e l = none
def Sim (w0 : World) (S0 : Pm) (N : Nat) (B : Bs) (S : Sx) (a : Act) (w : World) : Prop := ∃ ρ ro, SimR w0 S0 N B S a w ρ ro
section
variable {w w' w0 : World} {ρ ρ' : Nat → Option Rl} {base : Nat} {ro ro' : Nat → Prop} {S0 : Pm} {N : Nat} {B : Bs} {S : Sx} {a : Act}
theorem SimR.get (H : SimR w0 S0 N B S a w ρ ro) (x : Operand) : AVR w ρ w0.heap.size ro (getO B S x) (a.eval x) := by
 cases x with
 | tmp d =>
  show AVR w ρ w0.heap.size ro (getT B S d) _
  unfold getT
  cases h : lookT B S d with
  | none => exact .un _
  | some y =>
   obtain ⟨u, h1, h2⟩ := H.tm d y h
   rw [eval_get h1]
   exact h2
 | const v => exact ofVal_ v
 | func f => exact .fn f [] [] rfl fun j x v h => by simp at h
 | global g => exact .un _
theorem AVR.bound {x : AV} {v : Value} (h : AVR w ρ base ro x v) : AVR w ρ base (fun b => ro b ∧ b < w.heap.size) x v := by
 induction h with
 | un => exact .un _
 | int => exact .int _ _
 | lit => exact .lit _ _
 | bool => exact .bool _
 | blit => exact .blit _
 | str => exact .str _
 | nil => exact .nil
 | sl fr t l A c css hl hc hr hro hfr h ih => exact .sl fr t l A c css hl hc hr (fun a ha hn => ⟨hro a ha hn, Rd.bound hr hn a ha⟩) hfr ih
 | wide fr t l n A c hn h ih => exact .wide fr t l n A c hn ih
 | pto cells off b o cs hro hlt hl hc h ih => exact .pto cells off b o cs ⟨hro, hlt⟩ hlt hl hc ih
 | ptr loc off b h => exact .ptr _ _ _ h
 | own loc A n c h => exact .own _ _ _ _ h
 | orp t loc k off A n c b h hA h0 hn => exact .orp _ _ _ _ _ _ _ _ h hA h0 hn
 | mp l b h => exact .mp _ _ h
 | stamp l s h => exact .stamp _ _ h
 | it l l2 b h => exact .it _ _ _ h
 | agg l vs hl h ih => exact .agg _ _ hl ih
 | tup l vs hl h ih => exact .tup _ _ hl ih
 | fn f caps vs hl h ih => exact .fn _ _ _ hl ih
theorem MapR.map_ {fr ag : Bool} {c : Kc} {t : Tc} {m : List Kx → Option t.el} {es : Array MapEntry} {ρ ρ' : Nat → Option Rl} {base base' : Nat} {ro ro' : Nat → Prop} (h : MapR w ρ base ro fr ag c t m es) (hav : ∀ x v, AVR w ρ base ro (elAV ag fr t fun _ => x) v → AVR w' ρ' base' ro' (elAV ag fr t fun _ => x) v) : MapR w' ρ' base' ro' fr ag c t m es :=
 ⟨fun e he => by obtain ⟨key, x, h1, h2, h3⟩ := h.1 e he; exact ⟨key, x, h1, h2, hav x _ h3⟩, h.2⟩
theorem EnR.mono {l : Nat} {e : En} (h : EnR w ρ base ro l e) (hw : ∀ b, ro b → b < w.heap.size → w'.heap[b]? = w.heap[b]?) (hown : ∀ l r b, ρ l = some r → r.blk = some b → w'.heap[b]? = w.heap[b]?) (hρ : Ext ρ ρ') (hro : ∀ b, ro b → ro' b) : EnR w' ρ' base ro' l e := by
 cases e with
 | box T cells =>
  obtain ⟨b, cs, h1, h4, h5⟩ := h
  exact ⟨b, cs, hρ _ _ h1, (hown _ _ b h1 rfl).trans h4, h5.mono hw hρ (Nat.le_refl _) hro⟩
 | row fr t T m =>
  obtain ⟨A, c, css, h1, h2, h3, h5⟩ := h
  refine ⟨A, c, css, hρ _ _ h1, h2.keep fun a ha => hown _ _ a.block h1 (by simp [Rl.blk, ha]), h3, fun k cs j x v k1 k2 k3 => (h5 k cs j x v k1 k2 k3).mono hw hρ (Nat.le_refl _) hro⟩
 | map fr ag c t T m =>
  obtain ⟨b, es, clock, h1, h2, h3, h4⟩ := h
  exact ⟨b, es, clock, hρ _ _ h1, (hown _ _ b h1 rfl).trans h2, h3, h4.map_ fun x v hx => hx.mono hw hρ (Nat.le_refl _) hro⟩
 | iter ml c seen left =>
  obtain ⟨b, b2, es, clock, since, stamps, c0, h1, h2, h3, h4, h5⟩ := h
  exact ⟨b, b2, es, clock, since, stamps, c0, hρ _ _ h1, hρ _ _ h2, (hown _ _ b h2 rfl).trans h3, (hown _ _ b2 h1 rfl).trans h4, h5⟩
 | stamp ml c key =>
  obtain ⟨b, es, clock, s, e, h1, h2, h3, h4⟩ := h
  exact ⟨b, es, clock, s, e, hρ _ _ h1, hρ _ _ h2, (hown _ _ b h2 rfl).trans h3, h4⟩
 | dead => obtain ⟨r, h⟩ := h; exact ⟨r, hρ _ _ h⟩
theorem EnR.none {l : Nat} {e : En} (h : EnR w ρ base ro l e) : ∃ r, ρ l = some r := by
 cases e with
 | box T cells => obtain ⟨b, cs, h1, _⟩ := h; exact ⟨_, h1⟩
 | row fr t T m => obtain ⟨A, c, css, h1, _⟩ := h; exact ⟨_, h1⟩
 | map fr ag c t T m => obtain ⟨b, es, clock, h1, _⟩ := h; exact ⟨_, h1⟩
 | iter ml c seen left => obtain ⟨b, b2, es, clock, since, stamps, c0, h1, _⟩ := h; exact ⟨_, h1⟩
 | stamp ml c key => obtain ⟨b, es, clock, s, e, h1, _⟩ := h; exact ⟨_, h1⟩
 | dead => exact h
theorem SimR.calm (H : SimR w0 S0 N B S a w ρ ro) (hb : From w w') : SimR w0 S0 N B S a w' ρ (fun b => (ro b ∨ w.heap.size ≤ b) ∧ b < w'.heap.size) := by
 have hw : ∀ b, ro b → b < w.heap.size → w'.heap[b]? = w.heap[b]? := fun b _ h => hb.block b h
 have hro : ∀ b, ro b → (ro b ∨ w.heap.size ≤ b) ∧ b < w'.heap.size := fun b h => ⟨.inl h, Nat.lt_of_lt_of_le (H.roB b h) hb.size⟩
 have hown : ∀ l r b, ρ l = some r → r.blk = some b → w'.heap[b]? = w.heap[b]? ∧ ¬ ((ro b ∨ w.heap.size ≤ b) ∧ b < w'.heap.size) := by
  intro l r b h1 h2
  have h3 := H.own l r b h1 h2
  refine ⟨hb.block b h3.1, ?_⟩
  rintro ⟨h4 | h4, _⟩
  · exact h3.2.1 h4
  · omega
 refine ⟨H.from_.andThen hb, H.size, H.defers, fun b h => h.2, fun d x h => ?_, fun l e h => (H.en l e h).mono hw (fun l r b h1 h2 => (hown l r b h1 h2).1) (Ext.refl _) hro, H.apart, H.fresh, fun l r b h1 h2 => ?_, fun b h hlt => H.roS b (h.1.resolve_right fun h => by have := H.from_.size; omega) hlt, H.solid, H.disT, H.disE⟩
 · obtain ⟨u, h1, h2⟩ := H.tm d x h
   exact ⟨u, h1, h2.mono hw (Ext.refl _) (Nat.le_refl _) hro⟩
 · have h3 := H.own l r b h1 h2
   exact ⟨Nat.lt_of_lt_of_le h3.1 hb.size, (hown l r b h1 h2).2, h3.2.2⟩
theorem AVR.calm {x : AV} {v : Value} (h : AVR w' ρ base (fun b => ro b ∨ w.heap.size ≤ b) x v) : AVR w' ρ base (fun b => (ro b ∨ w.heap.size ≤ b) ∧ b < w'.heap.size) x v := h.bound
def putT (B : Bs) (S : Sx) (N d : Nat) (x : AV) : Option Sx :=
 if (alook B.t d).isSome || decide (N ≤ d) then none else some ⟨(d, x) :: S.t, S.e, S.n⟩
theorem alook_cons {α : Type} (k : Nat) (v : α) (l : List (Nat × α)) (d : Nat) : alook ((k, v) :: l) d = if k = d then some v else alook l d := by
 show (if k == d then some v else alook l d) = _
 by_cases h : k = d
 · simp [h]
 · simp [h]
theorem SimR.put (H : SimR w0 S0 N B S a w ρ ro) {d : Nat} {x : AV} {S' : Sx} {v : Value} (hp : putT B S N d x = some S') (hv : AVR w ρ w0.heap.size ro x v) : SimR w0 S0 N B S' (a.put (some d) v) w ρ ro := by
 unfold putT at hp
 split at hp
 · cases hp
 · rename_i hc
   simp only [Bool.or_eq_true, decide_eq_true_eq, not_or, Bool.not_eq_true, Option.isSome_eq_false_iff, Option.isNone_iff_eq_none] at hc
   cases hp
   have hlt : d < a.tmps.size := by rw [H.size]; omega
   refine ⟨H.from_, by rw [put_size]; exact H.size, H.defers, H.roB, fun s y h => ?_, H.en, H.apart, H.fresh, H.own, H.roS, H.solid, fun s y h => ?_, H.disE⟩
   · unfold lookT at h
     rw [alook_cons] at h
     rw [put_get hlt]
     by_cases hs : d = s
     · rw [if_pos hs] at h
       rw [if_pos hs.symm]
       simp only [Option.some.injEq] at h
       subst h
       exact ⟨v, rfl, hv⟩
     · rw [if_neg hs] at h
       rw [if_neg (fun e => hs e.symm)]
       exact H.tm s y h
   · rw [alook_cons, if_neg]
     · exact H.disT s y h
     · rintro rfl
       rw [hc.1] at h
       cases h
/- no slot and no entry names a location -/
def quietT (loc : Nat) : List (Nat × AV) → Bool
 | [] => true
 | (_, x) :: l => !AV.has loc x && quietT loc l
def quietEn (loc : Nat) : En → Bool
 | .box _ cs => !AV.hasL loc cs
 | _ => true
def quietE (loc : Nat) : List (Nat × En) → Bool
 | [] => true
 | (_, e) :: l => quietEn loc e && quietE loc l
def quiet (loc : Nat) (B : Bs) : Bool := quietT loc B.t && quietE loc B.e
def killT (loc : Nat) : List (Nat × AV) → List (Nat × AV)
 | [] => []
 | (d, x) :: l => (d, if AV.has loc x then .un else x) :: killT loc l
def killL (loc : Nat) : List AV → List AV
 | [] => []
 | x :: l => (if AV.has loc x then .un else x) :: killL loc l
def killEn (loc : Nat) : En → En
 | .box T cs => .box T (killL loc cs)
 | e => e
def killE (loc : Nat) : List (Nat × En) → List (Nat × En)
 | [] => []
 | (k, e) :: l => (k, killEn loc e) :: killE loc l
def kill (loc : Nat) (S : Sx) : Sx := ⟨killT loc S.t, killE loc S.e, S.n⟩
theorem quietT_get {loc d : Nat} {x : AV} : ∀ {l : List (Nat × AV)}, quietT loc l = true → alook l d = some x → AV.has loc x = false
 | (k, y) :: l, h, hx => by
  unfold quietT at h
  simp only [Bool.and_eq_true, Bool.not_eq_true'] at h
  rw [alook_cons] at hx
  split at hx
  · cases hx; exact h.1
  · exact quietT_get h.2 hx
 | [], _, hx => by cases hx
theorem quietE_get {loc d T : Nat} {cs : List AV} : ∀ {l : List (Nat × En)}, quietE loc l = true → alook l d = some (.box T cs) → AV.hasL loc cs = false
 | (k, e) :: l, h, hx => by
  unfold quietE at h
  simp only [Bool.and_eq_true] at h
  rw [alook_cons] at hx
  split at hx
  · cases hx; simpa [quietEn] using h.1
  · exact quietE_get h.2 hx
 | [], _, hx => by cases hx
theorem alook_killT {loc d : Nat} : ∀ (l : List (Nat × AV)), alook (killT loc l) d = (alook l d).map fun x => if AV.has loc x then .un else x
 | [] => rfl
 | (k, y) :: l => by
  unfold killT
  rw [alook_cons, alook_cons, alook_killT l]
  split <;> rfl
theorem alook_killE {loc d : Nat} : ∀ (l : List (Nat × En)), alook (killE loc l) d = (alook l d).map (killEn loc)
 | [] => rfl
 | (k, e) :: l => by
  unfold killE
  rw [alook_cons, alook_cons, alook_killE l]
  split <;> rfl
theorem killL_get {loc : Nat} : ∀ (l : List AV) (j : Nat), (killL loc l)[j]? = (l[j]?).map fun x => if AV.has loc x then .un else x
 | [], j => by simp [killL]
 | x :: l, 0 => by simp [killL]
 | x :: l, j + 1 => by simpa [killL] using killL_get l j
theorem killL_len {loc : Nat} : ∀ (l : List AV), (killL loc l).length = l.length
 | [] => rfl
 | x :: l => by simp [killL, killL_len l]
theorem killed_has {loc : Nat} {x : AV} : AV.has loc (if AV.has loc x = true then .un else x) = false := by
 split
 · rfl
 · rename_i h; simpa using h
theorem hasL_of {loc : Nat} : ∀ {l : List AV}, (∀ (j : Nat) x, l[j]? = some x → AV.has loc x = false) → AV.hasL loc l = false
 | [], _ => rfl
 | x :: l, h => by
  unfold AV.hasL
  rw [h 0 x rfl, hasL_of fun j y hy => h (j + 1) y (by simpa using hy)]
  rfl
theorem SimR.killed (H : SimR w0 S0 N B S a w ρ ro) (loc : Nat) : SimR w0 S0 N B (kill loc S) a w ρ ro := by
 refine ⟨H.from_, H.size, H.defers, H.roB, fun d x h => ?_, fun l e h => ?_, H.apart, H.fresh, H.own, H.roS, H.solid, fun d x h => by unfold kill; rw [alook_killT, H.disT d x h]; rfl, fun l e h => by unfold kill; rw [alook_killE, H.disE l e h]; rfl⟩
 · unfold lookT kill at h
   rw [alook_killT] at h
   cases hd : alook S.t d with
   | none =>
    rw [hd] at h
    exact H.tm d x (by unfold lookT; rw [hd]; exact h)
   | some y =>
    rw [hd] at h
    simp only [Option.map_some, Option.some.injEq] at h
    obtain ⟨u, h1, h2⟩ := H.tm d y (by unfold lookT; rw [hd])
    refine ⟨u, h1, ?_⟩
    rw [← h]
    split
    · exact .un _
    · exact h2
 · unfold lookE kill at h
   rw [alook_killE] at h
   cases hd : alook S.e l with
   | none =>
    rw [hd] at h
    exact H.en l e (by unfold lookE; rw [hd]; exact h)
   | some y =>
    rw [hd] at h
    simp only [Option.map_some, Option.some.injEq] at h
    have h1 := H.en l y (by unfold lookE; rw [hd])
    rw [← h]
    cases y with
    | row fr t T m => exact h1
    | map fr ag c t T m => exact h1
    | iter ml c seen left => exact h1
    | stamp ml c key => exact h1
    | dead => exact h1
    | box T cs =>
     obtain ⟨b, us, k1, k4, k5⟩ := h1
     refine ⟨b, us, k1, k4, by rw [killL_len]; exact k5.1, fun j x v hx hv => ?_⟩
     rw [killL_get] at hx
     cases hj : cs[j]? with
     | none => rw [hj] at hx; cases hx
     | some z =>
      rw [hj] at hx
      simp only [Option.map_some, Option.some.injEq] at hx
      rw [← hx]
      split
      · exact .un _
      · exact k5.2 j z v hj hv
theorem kill_quiet {loc : Nat} (hq : quiet loc B = true) : (∀ d x, lookT B (kill loc S) d = some x → AV.has loc x = false) ∧ ∀ l T cs, lookE B (kill loc S) l = some (.box T cs) → AV.hasL loc cs = false := by
 unfold quiet at hq
 simp only [Bool.and_eq_true] at hq
 refine ⟨fun d x h => ?_, fun l T cs h => ?_⟩
 · unfold lookT kill at h
   rw [alook_killT] at h
   cases hd : alook S.t d with
   | none => rw [hd] at h; exact quietT_get hq.1 h
   | some y =>
    rw [hd] at h
    simp only [Option.map_some, Option.some.injEq] at h
    rw [← h]
    exact killed_has
 · unfold lookE kill at h
   rw [alook_killE] at h
   cases hd : alook S.e l with
   | none => rw [hd] at h; exact quietE_get hq.2 h
   | some y =>
    rw [hd] at h
    simp only [Option.map_some, Option.some.injEq] at h
    cases y with
    | row fr t T' m => cases h
    | map fr ag c t T' m => cases h
    | iter ml c seen left => cases h
    | stamp ml c key => cases h
    | dead => cases h
    | box T' cs' =>
     cases h
     refine hasL_of fun j x hx => ?_
     rw [killL_get] at hx
     cases hj : cs'[j]? with
     | none => rw [hj] at hx; cases hx
     | some z =>
      rw [hj] at hx
      simp only [Option.map_some, Option.some.injEq] at hx
      rw [← hx]
      exact killed_has
/- what tells of a map is forgotten as the map changes -/
def refTo (loc : Nat) : En → Bool
 | .iter ml _ _ _ => ml == loc
 | .stamp ml _ _ => ml == loc
 | _ => false
def noRef (loc : Nat) : List (Nat × En) → Bool
 | [] => true
 | (_, e) :: l => !refTo loc e && noRef loc l
def dropRef (loc : Nat) : List (Nat × En) → List (Nat × En)
 | [] => []
 | (k, e) :: l => (k, if refTo loc e then .dead else e) :: dropRef loc l
theorem alook_dropRef {loc d : Nat} : ∀ (l : List (Nat × En)), alook (dropRef loc l) d = (alook l d).map fun e => if refTo loc e then .dead else e
 | [] => rfl
 | (k, e) :: l => by
  unfold dropRef
  rw [alook_cons, alook_cons, alook_dropRef l]
  split <;> rfl
theorem noRef_get {loc d : Nat} {e : En} : ∀ {l : List (Nat × En)}, noRef loc l = true → alook l d = some e → refTo loc e = false
 | (k, e') :: l, h, hx => by
  unfold noRef at h
  simp only [Bool.and_eq_true, Bool.not_eq_true'] at h
  rw [alook_cons] at hx
  split at hx
  · cases hx; exact h.1
  · exact noRef_get h.2 hx
 | [], _, hx => by cases hx
theorem SimR.dropped (H : SimR w0 S0 N B S a w ρ ro) {loc : Nat} (hB : noRef loc B.e = true) : SimR w0 S0 N B ⟨S.t, dropRef loc S.e, S.n⟩ a w ρ ro ∧ ∀ l e, lookE B ⟨S.t, dropRef loc S.e, S.n⟩ l = some e → refTo loc e = false := by
 have hl : ∀ l e, lookE B ⟨S.t, dropRef loc S.e, S.n⟩ l = some e → (lookE B S l = some e ∧ refTo loc e = false) ∨ (e = .dead ∧ ∃ e', lookE B S l = some e') := by
  intro l e h
  unfold lookE at h ⊢
  simp only [alook_dropRef] at h
  cases hd : alook S.e l with
  | none =>
   rw [hd] at h
   exact .inl ⟨h, noRef_get hB h⟩
  | some y =>
   rw [hd] at h
   simp only [Option.map_some, Option.some.injEq] at h
   split at h
   · exact .inr ⟨h.symm, y, rfl⟩
   · subst h
     rename_i hr
     exact .inl ⟨rfl, by simpa using hr⟩
 refine ⟨⟨H.from_, H.size, H.defers, H.roB, H.tm, fun l e h => ?_, H.apart, H.fresh, H.own, H.roS, H.solid, H.disT, fun l e h => ?_⟩, fun l e h => ?_⟩
 · rcases hl l e h with ⟨h1, _⟩ | ⟨rfl, e', h1⟩
   · exact H.en l e h1
   · exact (H.en l e' h1).none
 · show alook (dropRef loc S.e) l = none
   rw [alook_dropRef, H.disE l e h]
   rfl
 · rcases hl l e h with ⟨_, h2⟩ | ⟨rfl, _⟩
   · exact h2
   · rfl
theorem elAV_has (ag fr : Bool) (t : Tc) (x : Unit → t.el) (loc : Nat) : AV.has loc (elAV ag fr t x) = false := by
 unfold elAV
 have h := cellsAV_has fr t x loc
 cases ag with
 | true => exact h
 | false =>
  simp only [Bool.false_eq_true, if_false]
  cases hc : cellsAV fr t x with
  | nil => rfl
  | cons c l =>
   rw [hc] at h
   cases l with
   | nil => simpa [AV.hasL] using h
   | cons c2 l => rfl
def updR (ρ : Nat → Option Rl) (loc : Nat) (r : Rl) : Nat → Option Rl := fun l => if l = loc then some r else ρ l
theorem SimR.upd (H : SimR w0 S0 N B S a w ρ ro) {loc n : Nat} {r : Rl} {e : En} (hf : FromG S0.pl w0 w') (hle : w.heap.size ≤ w'.heap.size) (hkeep : ∀ b, b < w.heap.size → (∀ r', ρ loc = some r' → r'.blk ≠ some b) → w'.heap[b]? = w.heap[b]?)
 (hblk : ∀ b, r.blk = some b → (∃ r', ρ loc = some r' ∧ r'.blk = some b) ∨ (w.heap.size ≤ b ∧ b < w'.heap.size)) (hB : alook B.e loc = none) (hn : S.n ≤ n) (hln : loc < n)
 (hmov : Ext ρ (updR ρ loc r) ∨ ((∀ d x, lookT B S d = some x → AV.has loc x = false) ∧ (∀ l T cs, lookE B S l = some (.box T cs) → AV.hasL loc cs = false) ∧ ∀ r', ρ loc = some r' → (r'.solid || S0.fx) = false))
 (hmp : (∀ b, ρ loc ≠ some (.mp b)) ∨ ∀ l e, lookE B S l = some e → refTo loc e = false)
 (he : EnR w' (updR ρ loc r) w0.heap.size ro loc e) : SimR w0 S0 N B ⟨S.t, (loc, e) :: S.e, n⟩ a w' (updR ρ loc r) ro := by
 have hw : ∀ b, ro b → b < w.heap.size → w'.heap[b]? = w.heap[b]? := fun b hb hlt => hkeep b hlt fun r' h1 h2 => (H.own loc r' b h1 h2).2.1 hb
 have hold : ∀ l, l ≠ loc → updR ρ loc r l = ρ l := fun l hl => by unfold updR; rw [if_neg hl]
 have hav : ∀ x v, AVR w ρ w0.heap.size ro x v → (AV.has loc x = false ∨ Ext ρ (updR ρ loc r)) → (∀ r', ρ loc = some r' → r'.solid = false) ∨ Ext ρ (updR ρ loc r) → AVR w' (updR ρ loc r) w0.heap.size ro x v := by
  intro x v h h1 h2
  rcases h1 with h1 | h1
  · rcases h2 with h2 | h2
    · refine (h.move (ρ' := updR ρ loc r) h1 fun l r' hl hc => ?_).mono hw (Ext.refl _) (Nat.le_refl _) fun _ h => h
      by_cases hll : l = loc
      · subst hll
        rcases hc with hc | hc
        · exact absurd rfl hc
        · rw [h2 _ hl] at hc; cases hc
      · rw [hold l hll]; exact hl
    · exact h.mono hw h2 (Nat.le_refl _) fun _ h => h
  · exact h.mono hw h1 (Nat.le_refl _) fun _ h => h
 have hbx : (∀ r', ρ loc = some r' → r'.solid = false) ∨ Ext ρ (updR ρ loc r) := hmov.elim .inr fun h => .inl fun r' q => by have := h.2.2 r' q; simp only [Bool.or_eq_false_iff] at this; exact this.1
 have hkeep' : ∀ l r' b, ρ l = some r' → r'.blk = some b → l ≠ loc → w'.heap[b]? = w.heap[b]? := fun l r' b h1 h2 hne => hkeep b (H.own l r' b h1 h2).1 fun r2 h3 h4 => H.apart l loc r' r2 b hne h1 h3 h2 h4
 refine ⟨hf, H.size, H.defers, fun b hb => Nat.lt_of_lt_of_le (H.roB b hb) hle, fun d x h => ?_, fun l e' h => ?_, fun l l' r1 r2 b hne h1 h2 h3 h4 => ?_, fun l hl => ?_, fun l r1 b h1 h2 => ?_, H.roS, fun l r1 h1 h2 => ?_, H.disT, fun l e' h => by rw [alook_cons, if_neg (by rintro rfl; rw [hB] at h; cases h)]; exact H.disE l e' h⟩
 · obtain ⟨u, h1, h2⟩ := H.tm d x h
   exact ⟨u, h1, hav x u h2 (hmov.elim .inr fun hm => .inl (hm.1 d x h)) hbx⟩
 · unfold lookE at h
   rw [alook_cons] at h
   by_cases hl : loc = l
   · rw [if_pos hl] at h
     simp only [Option.some.injEq] at h
     subst h; subst hl
     exact he
   · rw [if_neg hl] at h
     have h0 : lookE B S l = some e' := h
     have h1 := H.en l e' h0
     cases e' with
     | box T cs =>
      obtain ⟨b, us, k1, k4, k5⟩ := h1
      refine ⟨b, us, by rw [hold l (fun e => hl e.symm)]; exact k1, ?_, k5.1, fun j x v hx hv => hav x v (k5.2 j x v hx hv) (hmov.elim .inr fun hm => .inl (hasL_get (hm.2.1 l T cs h0) hx)) hbx⟩
      rw [hkeep b (H.own l _ b k1 rfl).1 fun r' h3 h4 => H.apart l loc _ r' b (fun e => hl e.symm) k1 h3 rfl h4]
      exact k4
     | row fr t T m =>
      obtain ⟨A, c, css, k1, k2, k3, k5⟩ := h1
      refine ⟨A, c, css, by rw [hold l (fun e => hl e.symm)]; exact k1, k2.keep fun ad ha => ?_, k3, fun k cs j x v q1 q2 q3 => hav x v (k5 k cs j x v q1 q2 q3) (.inl (hasL_get (cellsAV_has fr t _ loc) q2)) hbx⟩
      have hbk : (Rl.row A (m ()).length c).blk = some ad.block := by simp [Rl.blk, ha]
      exact hkeep ad.block (H.own l _ _ k1 hbk).1 fun r' h3 h4 => H.apart l loc _ r' _ (fun e => hl e.symm) k1 h3 hbk h4
     | map fr ag c t T m =>
      obtain ⟨b, es, clock, k1, k2, k3, k4⟩ := h1
      refine ⟨b, es, clock, by rw [hold l (fun e => hl e.symm)]; exact k1, (hkeep' l _ b k1 rfl (fun e => hl e.symm)).trans k2, k3, k4.map_ fun x v hx => hav _ v hx (.inl (elAV_has _ _ _ _ _)) hbx⟩
     | iter ml c seen left =>
      obtain ⟨b, b2, es, clock, since, stamps, c0, k1, k2, k3, k4, k5⟩ := h1
      have hml : ml ≠ loc := by
       rintro rfl
       rcases hmp with hmp | hmp
       · exact hmp b k2
       · have := hmp l _ h0; simp [refTo] at this
      exact ⟨b, b2, es, clock, since, stamps, c0, by rw [hold l (fun e => hl e.symm)]; exact k1, by rw [hold ml hml]; exact k2, (hkeep' ml _ b k2 rfl hml).trans k3, (hkeep' l _ b2 k1 rfl (fun e => hl e.symm)).trans k4, k5⟩
     | stamp ml c key =>
      obtain ⟨b, es, clock, s, e, k1, k2, k3, k4⟩ := h1
      have hml : ml ≠ loc := by
       rintro rfl
       rcases hmp with hmp | hmp
       · exact hmp b k2
       · have := hmp l _ h0; simp [refTo] at this
      exact ⟨b, es, clock, s, e, by rw [hold l (fun e => hl e.symm)]; exact k1, by rw [hold ml hml]; exact k2, (hkeep' ml _ b k2 rfl hml).trans k3, k4⟩
     | dead => obtain ⟨r1, k1⟩ := h1; exact ⟨r1, by rw [hold l (fun e => hl e.symm)]; exact k1⟩
 · have hcase : ∀ l r1 b, updR ρ loc r l = some r1 → r1.blk = some b → (l = loc ∧ r1 = r) ∨ (l ≠ loc ∧ ρ l = some r1) := by
    intro l r1 b h1 _
    by_cases hll : l = loc
    · subst hll
      unfold updR at h1
      rw [if_pos rfl] at h1
      injection h1 with h1
      exact .inl ⟨rfl, h1.symm⟩
    · rw [hold l hll] at h1
      exact .inr ⟨hll, h1⟩
   rcases hcase l r1 b h1 h3 with ⟨rfl, rfl⟩ | ⟨k1, k2⟩
   · rcases hcase l' r2 b h2 h4 with ⟨rfl, rfl⟩ | ⟨k3, k4⟩
     · exact hne rfl
     · rcases hblk b h3 with ⟨r', q1, q2⟩ | q
       · exact H.apart l l' r' r2 b hne q1 k4 q2 h4
       · have := (H.own l' r2 b k4 h4).1; omega
   · rcases hcase l' r2 b h2 h4 with ⟨rfl, rfl⟩ | ⟨k3, k4⟩
     · rcases hblk b h4 with ⟨r', q1, q2⟩ | q
       · exact H.apart l l' r1 r' b hne k2 q1 h3 q2
       · have := (H.own l r1 b k2 h3).1; omega
     · exact H.apart l l' r1 r2 b hne k2 k4 h3 h4
 · rw [hold l (by simp only at hl; omega)]
   exact H.fresh l (by simp only at hl; omega)
 · by_cases hll : l = loc
   · subst hll
     unfold updR at h1
     rw [if_pos rfl] at h1
     injection h1 with h1
     subst h1
     rcases hblk b h2 with ⟨r', q1, q2⟩ | q
     · have h5 := H.own l r' b q1 q2
       exact ⟨Nat.lt_of_lt_of_le h5.1 hle, h5.2⟩
     · refine ⟨q.2, fun hb => ?_, .inl (Nat.le_trans H.from_.size q.1)⟩
       have := H.roB b hb
       omega
   · rw [hold l hll] at h1
     have h5 := H.own l r1 b h1 h2
     exact ⟨Nat.lt_of_lt_of_le h5.1 hle, h5.2⟩
 · have h3 := H.solid l r1 h1 h2
   rcases hmov with hm | hm
   · exact hm l r1 h3
   · rw [hold l (fun e => by subst e; rw [hm.2.2 _ h3] at h2; cases h2)]
     exact h3
end
end Go.Proofs.YtfdjcakgolenbaaGreat
