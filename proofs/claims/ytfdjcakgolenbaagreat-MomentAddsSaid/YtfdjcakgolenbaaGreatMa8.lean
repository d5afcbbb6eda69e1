/-
  The abstract run: a row of the run's own is given up: from then on it is only read, and may be shared.
-/
import Derived.Test.YtfdjcakgolenbaaGreatMa7
namespace Go.Proofs.YtfdjcakgolenbaaGreat
open Go.RowKit
/- a place's name is replaced by what it holds -/
mutual
def AV.frz (loc : Nat) (y : AV) : AV -> AV
 | .own l => cond (l == loc) y (.own l)
 | .orp t l k off => cond (l == loc) .un (.orp t l k off)
 | .pto cs off => .pto (AV.frzL loc y cs) off
 | .agg cs => .agg (AV.frzL loc y cs)
 | .tup cs => .tup (AV.frzL loc y cs)
 | .fn f cs => .fn f (AV.frzL loc y cs)
 | x => x
def AV.frzL (loc : Nat) (y : AV) : List AV -> List AV
 | [] => []
 | x :: l => AV.frz loc y x :: AV.frzL loc y l
end
def frzT (loc : Nat) (y : AV) : List (Nat × AV) -> List (Nat × AV)
 | [] => []
 | (d, x) :: l => (d, AV.frz loc y x) :: frzT loc y l
def frzEn (loc : Nat) (y : AV) : En -> En
 | .box T cs => .box T (AV.frzL loc y cs)
 | e => e
def frzE (loc : Nat) (y : AV) : List (Nat × En) -> List (Nat × En)
 | [] => []
 | (k, e) :: l => cond (k == loc) (frzE loc y l) ((k, frzEn loc y e) :: frzE loc y l)
def frz1 (B : Bs) (S : Sx) (loc : Nat) : Sx := match lookE B S loc with
 | some (.row true t _ l) => cond ((alook B.e loc).isNone && quiet loc B) ⟨frzT loc (.sl true t l) S.t, frzE loc (.sl true t l) S.e, S.n⟩ S
 | _ => S
def frzAll (B : Bs) : List Nat -> Sx -> Sx
 | [], S => S
 | l :: ls, S => frzAll B ls (frz1 B S l)
def AV.ownsL : List AV -> List Nat
 | [] => []
 | .own l :: r => l :: AV.ownsL r
 | _ :: r => AV.ownsL r
def AV.owns : AV -> List Nat
 | .own l => [l]
 | .agg cs => AV.ownsL cs
 | _ => []
def ownsAll : List AV -> List Nat
 | [] => []
 | x :: l => AV.owns x ++ ownsAll l
def pickT : List Nat -> List (Nat × AV) -> List (Nat × AV)
 | [], _ => []
 | d :: ds, l => match alook l d with
  | some x => (d, x) :: pickT ds l
  | none => pickT ds l
def kpAt : List (Nat × List Nat) -> Nat -> Option (List Nat)
 | [], _ => none
 | (k, l) :: m, id => cond (k == id) (some l) (kpAt m id)
def pickS (C : Cx) (id : Nat) (S : Sx) : Sx := match kpAt C.kp id with
 | none => S
 | some ks => ⟨pickT ks S.t, S.e, S.n⟩
def preS (B : Bs) (S : Sx) : Op -> Sx
 | .buildSlice _ _ parts => frzAll B (ownsAll (parts.toList.map fun p => getO B S p.2)) S
 | .store _ ad x => match getO B S ad with
  | .orp _ _ _ _ => frzAll B (AV.owns (getO B S x)) S
  | _ => S
 | .mapUpdate _ _ _ v => frzAll B (AV.owns (getO B S v)) S
 | .entryStore _ _ _ v => frzAll B (AV.owns (getO B S v)) S
 | _ => S
section
variable {w w0 : World} {ρ : Nat -> Option Rl} {base : Nat} {ro : Nat -> Prop} {S0 : Pm} {N : Nat} {B : Bs} {S : Sx} {a : Act}
theorem frzL_get (loc : Nat) (y : AV) : ∀ (l : List AV) (j : Nat), (AV.frzL loc y l)[j]? = (l[j]?).map (AV.frz loc y)
 | [], j => by simp [AV.frzL]
 | x :: l, 0 => by simp [AV.frzL]
 | x :: l, j + 1 => by simp only [AV.frzL, List.getElem?_cons_succ]; exact frzL_get loc y l j
theorem frzL_len (loc : Nat) (y : AV) : ∀ (l : List AV), (AV.frzL loc y l).length = l.length
 | [] => rfl
 | x :: l => by simp [AV.frzL, frzL_len loc y l]
theorem alook_frzT {loc d : Nat} {y : AV} : ∀ (l : List (Nat × AV)), alook (frzT loc y l) d = (alook l d).map (AV.frz loc y)
 | [] => rfl
 | (k, x) :: l => by
  simp only [frzT, alook];split
  . rfl
  . exact alook_frzT l
theorem alook_frzE {loc d : Nat} {y : AV} : ∀ (l : List (Nat × En)), alook (frzE loc y l) d = if d = loc then none else (alook l d).map (frzEn loc y)
 | [] => by simp [frzE, alook]
 | (k, e) :: l => by
  have ih := alook_frzE (loc := loc) (d := d) (y := y) l;simp only [frzE]
  cases hk : k == loc with
  | true =>
   have hk' : k = loc := by simpa using hk
   simp only [cond_true, alook];rw [ih];split
   . rfl
   . rename_i hd;have : (k == d) = false := by simp only [beq_eq_false_iff_ne]; omega
     simp only [this, Bool.false_eq_true, if_false]
  | false =>
   simp only [cond_false, alook];by_cases hkd : k = d
   . subst hkd;have : ¬ k = loc := by simpa using hk
     simp [this]
   . have hkd' : (k == d) = false := by simpa using hkd
     simp only [hkd', Bool.false_eq_true, if_false];exact ih
theorem pickT_get {d : Nat} {x : AV} {l : List (Nat × AV)} : ∀ {ds : List Nat}, alook (pickT ds l) d = some x -> alook l d = some x
 | [], h => by cases h
 | k :: ds, h => by
  unfold pickT at h;split at h
  . rename_i y hy;simp only [alook] at h;split at h
    . rename_i hk;have hk' : k = d := by simpa using hk
      subst hk';rw [hy];exact h
    . exact pickT_get h
  . exact pickT_get h
theorem pickS_ok (C : Cx) (id : Nat) (H : Sim w0 S0 N B S a w) : Sim w0 S0 N B (pickS C id S) a w := by
 unfold pickS;split
 . exact H
 . rename_i ks _;obtain ⟨ρ, ro, H⟩ := H;refine ⟨ρ, ro, H.from_, H.size, H.defers, H.roB, fun d x h => H.tm d x ?_, H.en, H.apart, H.fresh, H.own, H.roS, H.solid, fun d x h => ?_, H.disE⟩
   . unfold lookT at h ⊢;dsimp only at h
     cases hp : alook (pickT ks S.t) d with
     | some y =>
      rw [hp] at h;rw [pickT_get hp];exact h
     | none =>
      rw [hp] at h;rw [H.disT d x h];exact h
   . show alook (pickT ks S.t) d = none
     cases hp : alook (pickT ks S.t) d with
     | none => rfl
     | some y => have := pickT_get hp; rw [H.disT d x h] at this; cases this
theorem AVR.frz_ {x : AV} {v : Value} {loc n c : Nat} {A : Option Addr} {y : AV} (h : AVR w ρ base ro x v) (hr : ρ loc = some (.row A n c)) (hy : AVR w (fun l => if l = loc then none else ρ l) base (fun b => ro b \/ A.map (·.block) = some b) y (.slice A n c)) :
 AVR w (fun l => if l = loc then none else ρ l) base (fun b => ro b \/ A.map (·.block) = some b) (AV.frz loc y x) v := by
 have hρ : ∀ l r, ρ l = some r -> l ≠ loc -> (fun l => if l = loc then none else ρ l) l = some r := fun l r h hl => by simp only [if_neg hl]; exact h
 have hns : ∀ l r, ρ l = some r -> r.solid = true -> l ≠ loc := fun l r h h2 e => by subst e; rw [hr] at h; cases h; cases h2
 induction h with
 | un => exact .un _
 | int => exact .int _ _
 | lit => exact .lit _ _
 | bool => exact .bool _
 | blit => exact .blit _
 | str => exact .str _
 | nil => exact .nil
 | sl fr t l A' c' css hl hc hrd hro1 hfr h ih =>
  refine .sl fr t l A' c' css hl hc hrd (fun a ha hn => .inl (hro1 a ha hn)) hfr fun k cs j x v k1 k2 k3 => ?_;have h1 := h k cs j x v k1 k2 k3;have h2 := hasL_get (cellsAV_has fr t _ loc) k2;exact (h1.move (ρ' := fun l => if l = loc then none else ρ l) h2 fun l r q1 q2 => hρ l r q1 (q2.elim id (hns l r q1))).mono (fun _ _ _ => rfl) (Ext.refl _) (Nat.le_refl _) fun _ hb => .inl hb
 | wide fr t l n A' c' hn h ih => exact .wide fr t l n A' c' hn ih
 | pto cells off b o cs hro1 hlt hl hc h ih =>
  refine .pto _ off b o cs (.inl hro1) hlt (by rw [frzL_len]; exact hl) hc fun j x v k1 k2 => ?_;rw [frzL_get] at k1;obtain ⟨z, k3, rfl⟩ := Option.map_eq_some_iff.1 k1;exact ih j z v k3 k2
 | ptr l off b h => exact .ptr _ _ _ (hρ _ _ h (hns _ _ h rfl))
 | own l A' n' c' h =>
  unfold AV.frz
  cases hl : l == loc with
  | true =>
   have : l = loc := by simpa using hl
   subst this;rw [hr] at h;cases h;exact hy
  | false => exact .own _ _ _ _ (hρ _ _ h (by simpa using hl))
 | orp t l k off A' n' c' b h hA h0 hn =>
  unfold AV.frz
  cases hl : l == loc with
  | true => exact .un _
  | false => exact .orp _ _ _ _ _ _ _ _ (hρ _ _ h (by simpa using hl)) hA h0 hn
 | mp l b h => exact .mp _ _ (hρ _ _ h (hns _ _ h rfl))
 | stamp l s h => exact .stamp _ _ (hρ _ _ h (hns _ _ h rfl))
 | it l l2 b h => exact .it _ _ _ (hρ _ _ h (hns _ _ h rfl))
 | agg l vs hl h ih =>
  refine .agg _ _ (by rw [frzL_len]; exact hl) fun j x v k1 k2 => ?_;rw [frzL_get] at k1;obtain ⟨z, k3, rfl⟩ := Option.map_eq_some_iff.1 k1;exact ih j z v k3 k2
 | tup l vs hl h ih =>
  refine .tup _ _ (by rw [frzL_len]; exact hl) fun j x v k1 k2 => ?_;rw [frzL_get] at k1;obtain ⟨z, k3, rfl⟩ := Option.map_eq_some_iff.1 k1;exact ih j z v k3 k2
 | fn f caps vs hl h ih =>
  refine .fn f _ _ (by rw [frzL_len]; exact hl) fun j x v k1 k2 => ?_;rw [frzL_get] at k1;obtain ⟨z, k3, rfl⟩ := Option.map_eq_some_iff.1 k1;exact ih j z v k3 k2
theorem frz1_ok (hfx : S0.fx = false) (H : Sim w0 S0 N B S a w) (loc : Nat) : Sim w0 S0 N B (frz1 B S loc) a w := by
 obtain ⟨ρ, ro, H⟩ := H;unfold frz1;split
 case h_2 => exact ⟨ρ, ro, H⟩
 rename_i t T l he
 cases hc : (alook B.e loc).isNone && quiet loc B with
 | false => exact ⟨ρ, ro, H⟩
 | true =>
  rw [cond_true];simp only [Bool.and_eq_true, Option.isNone_iff_eq_none] at hc;obtain ⟨hB, hq⟩ := hc;unfold quiet at hq;simp only [Bool.and_eq_true] at hq;obtain ⟨A, c, css, hA, hown, hlen, hcell⟩ := H.en _ _ he;have hown' : OwnS w w0.heap.size T t.size A c css := hown;obtain ⟨y, hy⟩ : ∃ y, AV.sl true t l = y := ⟨_, rfl⟩
  obtain ⟨ρ', hρ'⟩ : ∃ ρ' : Nat -> Option Rl, ρ' = fun l => if l = loc then none else ρ l := ⟨_, rfl⟩
  obtain ⟨ro', hro'⟩ : ∃ ro' : Nat -> Prop, ro' = fun b => ro b \/ A.map (·.block) = some b := ⟨_, rfl⟩
  have hρ : ∀ l r, ρ l = some r -> l ≠ loc -> ρ' l = some r := fun l r h hl => by rw [hρ']; simp only [if_neg hl]; exact h
  have hns : ∀ l r, ρ l = some r -> r.solid = true -> l ≠ loc := fun l r h h2 e => by subst e; rw [hA] at h; cases h; cases h2
  have hback : ∀ l r, ρ' l = some r -> ρ l = some r /\ l ≠ loc := fun l r h => by
   rw [hρ'] at h;simp only at h;split at h
   . cases h
   . rename_i hl; exact ⟨h, hl⟩
  have hmv : ∀ x v, AVR w ρ w0.heap.size ro x v -> AV.has loc x = false -> AVR w ρ' w0.heap.size ro' x v := fun x v h hx => (h.move (ρ' := ρ') hx fun l r q1 q2 => hρ l r q1 (q2.elim id (hns l r q1))).mono (fun _ _ _ => rfl) (Ext.refl _) (Nat.le_refl _) fun _ hb => by rw [hro']; exact .inl hb
  have hbl : ∀ b, A.map (·.block) = some b -> w0.heap.size <= b /\ b < w.heap.size := fun b hb => by
   obtain ⟨ad, h1, h2⟩ := Option.map_eq_some_iff.1 hb;have h3 := hown'.lt h1;rw [h2] at h3;exact h3
  have hyv : AVR w ρ' w0.heap.size ro' y (.slice A (l ()).length c) := by
   rw [<- hy];refine .sl true t l A c css hlen hown'.cap.1 hown'.rd (fun ad ha _ => by rw [hro']; exact .inr (by rw [ha]; rfl)) (fun _ ad ha _ => (hown'.lt ha).1) fun k cs j x v k1 k2 k3 => hmv x v (hcell k cs j x v k1 k2 k3) (hasL_get (cellsAV_has true t _ loc) k2)
  have hall : ∀ x v, AVR w ρ w0.heap.size ro x v -> AVR w ρ' w0.heap.size ro' (AV.frz loc y x) v := fun x v h => by
   rw [hρ', hro'] at hyv ⊢;exact h.frz_ hA hyv
  have hen : ∀ k e, EnR w ρ w0.heap.size ro k e -> k ≠ loc -> (∀ T cs, e = .box T cs -> False) -> EnR w ρ' w0.heap.size ro' k e := fun k e h hk hb => by
   cases e with
   | box T cs => exact (hb T cs rfl).elim
   | row fr t T m =>
    obtain ⟨A1, c1, css1, k1, k2, k3, k4⟩ := h;exact ⟨A1, c1, css1, hρ _ _ k1 hk, k2, k3, fun i cs j x v q1 q2 q3 => hmv x v (k4 i cs j x v q1 q2 q3) (hasL_get (cellsAV_has fr t _ loc) q2)⟩
   | map fr ag c t T m =>
    obtain ⟨b, es, clock, k1, k2, k3, k4⟩ := h;exact ⟨b, es, clock, hρ _ _ k1 hk, k2, k3, k4.map_ fun x v hx => hmv _ v hx (elAV_has _ _ _ _ _)⟩
   | iter ml c seen left =>
    obtain ⟨b, b2, es, clock, since, stamps, c0, k1, k2, k3⟩ := h;exact ⟨b, b2, es, clock, since, stamps, c0, hρ _ _ k1 hk, hρ _ _ k2 (hns _ _ k2 rfl), k3⟩
   | stamp ml c key =>
    obtain ⟨b, es, clock, s, e, k1, k2, k3⟩ := h;exact ⟨b, es, clock, s, e, hρ _ _ k1 hk, hρ _ _ k2 (hns _ _ k2 rfl), k3⟩
   | dead =>
    obtain ⟨r, k1⟩ := h;exact ⟨r, hρ _ _ k1 hk⟩
  refine ⟨ρ', ro', H.from_, H.size, H.defers, fun b hb => ?_, fun d x h => ?_, fun k e h => ?_, fun k k' r r' b hne h1 h2 => H.apart k k' r r' b hne (hback _ _ h1).1 (hback _ _ h2).1, fun k hk => ?_, fun k r b h1 h2 => ?_, fun b hb hlt => ?_, fun k r h1 h2 => ?_, fun d x h => ?_, fun k e h => ?_⟩
  . rw [hro'] at hb;exact hb.elim (H.roB b) fun h => (hbl b h).2
  . unfold lookT at h;dsimp only at h;rw [alook_frzT] at h
    cases hd : alook S.t d with
    | none =>
     rw [hd] at h;obtain ⟨u, h1, h2⟩ := H.tm d x (by unfold lookT; rw [hd]; exact h);exact ⟨u, h1, hmv x u h2 (quietT_get hq.1 h)⟩
    | some z =>
     rw [hd] at h;simp only [Option.map_some, Option.some.injEq] at h;obtain ⟨u, h1, h2⟩ := H.tm d z (by unfold lookT; rw [hd]);refine ⟨u, h1, ?_⟩;rw [<- h, hy];exact hall z u h2
  . unfold lookE at h;dsimp only at h;rw [alook_frzE] at h;by_cases hk : k = loc
    . rw [if_pos hk, hk, hB] at h;cases h
    rw [if_neg hk] at h
    cases hd : alook S.e k with
    | none =>
     rw [hd] at h;have h1 := H.en k e (by unfold lookE; rw [hd]; exact h)
     cases e with
     | box T cs =>
      obtain ⟨b, us, k1, k4, k5⟩ := h1;exact ⟨b, us, hρ _ _ k1 hk, k4, k5.1, fun j x v hx hv => hmv x v (k5.2 j x v hx hv) (hasL_get (quietE_get hq.2 h) hx)⟩
     | row fr t T m => exact hen _ _ h1 hk (fun _ _ h => by cases h)
     | map fr ag c t T m => exact hen _ _ h1 hk (fun _ _ h => by cases h)
     | iter ml c seen left => exact hen _ _ h1 hk (fun _ _ h => by cases h)
     | stamp ml c key => exact hen _ _ h1 hk (fun _ _ h => by cases h)
     | dead => exact hen _ _ h1 hk (fun _ _ h => by cases h)
    | some z =>
     rw [hd] at h;simp only [Option.map_some, Option.some.injEq] at h;have h1 := H.en k z (by unfold lookE; rw [hd]);rw [<- h, hy]
     cases z with
     | box T cs =>
      obtain ⟨b, us, k1, k4, k5⟩ := h1;refine ⟨b, us, hρ _ _ k1 hk, k4, by rw [frzL_len]; exact k5.1, fun j x v hx hv => ?_⟩;rw [frzL_get] at hx;obtain ⟨z, k3, rfl⟩ := Option.map_eq_some_iff.1 hx;exact hall z v (k5.2 j z v k3 hv)
     | row fr t T m => exact hen _ _ h1 hk (fun _ _ h => by cases h)
     | map fr ag c t T m => exact hen _ _ h1 hk (fun _ _ h => by cases h)
     | iter ml c seen left => exact hen _ _ h1 hk (fun _ _ h => by cases h)
     | stamp ml c key => exact hen _ _ h1 hk (fun _ _ h => by cases h)
     | dead => exact hen _ _ h1 hk (fun _ _ h => by cases h)
  . have h1 := H.fresh k hk;rw [hρ'];simp only [h1];split <;> rfl
  . obtain ⟨h3, h4⟩ := hback _ _ h1;have h5 := H.own k r b h3 h2;refine ⟨h5.1, fun hb => ?_, h5.2.2⟩;rw [hro'] at hb;rcases hb with hb | hb
    . exact h5.2.1 hb
    . exact H.apart k loc r _ b h4 h3 hA h2 hb
  . rw [hro'] at hb;rcases hb with hb | hb
    . exact H.roS b hb hlt
    . have := (hbl b hb).1;omega
  . have h3 := H.solid k r h1 h2;rw [hfx, Bool.or_false] at h2;exact hρ _ _ h3 (hns _ _ h3 h2)
  . show alook (frzT loc _ S.t) d = none
    rw [alook_frzT, H.disT d x h];rfl
  . show alook (frzE loc _ S.e) k = none
    rw [alook_frzE, H.disE k e h];split <;> rfl
theorem frzAll_ok (hfx : S0.fx = false) : ∀ {ls : List Nat} {S : Sx}, Sim w0 S0 N B S a w -> Sim w0 S0 N B (frzAll B ls S) a w
 | [], _, H => H
 | l :: ls, _, H => frzAll_ok hfx (ls := ls) (frz1_ok hfx H l)
theorem preS_ok (hfx : S0.fx = false) (H : Sim w0 S0 N B S a w) (op : Op) : Sim w0 S0 N B (preS B S op) a w := by
 unfold preS;split
 . exact frzAll_ok hfx H
 . split
   . exact frzAll_ok hfx H
   . exact H
 . exact frzAll_ok hfx H
 . exact frzAll_ok hfx H
 . exact H
end
structure Lp where
 X : Type
 ov : X -> List (Nat × AV)
 oe : X -> List (Nat × En)
 I : X -> Prop
 μ : X -> Unit -> Nat
 x0 : X
 nx : Option (X -> X)
inductive Fm where
 | ff (why : Nat)
 | vc (l : List VC) (A : Fm)
 | br (c : Unit -> Bool) (A B : Fm)
 | fin (l : List VC)
 | and (A B : Fm)
 | all (X : Type) (I : X -> Prop) (f : X -> Fm)
 | ex (X : Type) (I : X -> Prop) (f : X -> Fm)
 | exl (f : Lp -> Fm)
def allVC : List VC -> Prop
 | [] => True
 | [c] => c ()
 | c :: l => c () /\ allVC l
def Fm.P : Fm -> Prop
 | .ff _ => False
 | .vc l A => allVC l /\ A.P
 | .br c A B => (c () = true -> A.P) /\ (c () = false -> B.P)
 | .fin l => allVC l
 | .and A B => A.P /\ B.P
 | .all _ I f => ∀ x, I x -> (f x).P
 | .ex _ I f => ∃ x, I x /\ (f x).P
 | .exl f => ∃ lp, (f lp).P
inductive Kt where
 | code (c : Code)
 | block (id : Nat)
 | back (Bo K : Bs) (f : Bs -> Sx -> Fm)
 | again (b : Code)
/- what a piece of code writes -/
def modsOps : List Oper -> List Nat
 | [] => []
 | o :: l => match o.dst with
  | some d => d :: modsOps l
  | none => modsOps l
def mods : Code -> List Nat
 | .region _ ops _ => modsOps ops.toList
 | .seq a b => mods a ++ mods b
 | .cond _ a b => mods a ++ mods b
 | .block _ b => mods b
 | .loop b => mods b
 | .scope b => mods b
 | _ => []
def keyOf : Code -> Option Nat
 | .region id _ _ => some id
 | .seq a b => match keyOf a with
  | some k => some k
  | none => keyOf b
 | .cond _ a b => match keyOf a with
  | some k => some k
  | none => keyOf b
 | .block _ b => keyOf b
 | .loop b => keyOf b
 | .scope b => keyOf b
 | _ => none
def ltB (n l : Nat) : Bool := decide (l < n)
/- the places that are named are such as p says -/
mutual
def AV.under (p : Nat -> Bool) : AV -> Bool
 | .own l => p l
 | .orp _ l _ _ => p l
 | .ptr l _ => p l
 | .mp l => p l
 | .stamp l => p l
 | .it _ l => p l
 | .pto cs _ => AV.underL p cs
 | .agg cs => AV.underL p cs
 | .tup cs => AV.underL p cs
 | .fn _ cs => AV.underL p cs
 | _ => true
def AV.underL (p : Nat -> Bool) : List AV -> Bool
 | [] => true
 | x :: l => AV.under p x && AV.underL p l
end
def hasAny (x : AV) : List Nat -> Bool
 | [] => false
 | l :: ls => AV.has l x || hasAny x ls
def keepT (md locs : List Nat) (n : Nat) : List (Nat × AV) -> List (Nat × AV)
 | [] => []
 | (d, x) :: l => if memN d md then keepT md locs n l else (d, if hasAny x locs || !AV.under (ltB n) x then .un else x) :: keepT md locs n l
def unSlots (locs : List Nat) (n : Nat) : List (Nat × AV) -> List Nat
 | [] => []
 | (d, x) :: l => match hasAny x locs || !AV.under (ltB n) x with
  | true => d :: unSlots locs n l
  | false => unSlots locs n l
def modsU (b : Code) (locs : List Nat) (n : Nat) (l : List (Nat × AV)) : List Nat := mods b ++ unSlots locs n l
def keepC (locs : List Nat) (n : Nat) : List AV -> List AV
 | [] => []
 | x :: l => (if hasAny x locs || !AV.under (ltB n) x then .un else x) :: keepC locs n l
def keepEn (locs : List Nat) (n : Nat) : En -> En
 | .box T cs => .box T (keepC locs n cs)
 | .iter ml c seen left => if memN ml locs || decide (n <= ml) then .dead else .iter ml c seen left
 | .stamp _ _ _ => .dead
 | e => e
def keepE (locs : List Nat) (n : Nat) : List (Nat × En) -> List (Nat × En)
 | [] => []
 | (k, e) :: l => if memN k locs || decide (n <= k) then keepE locs n l else (k, keepEn locs n e) :: keepE locs n l
def sameN : List Nat -> List Nat -> Bool
 | [], [] => true
 | a :: l, b :: m => a == b && sameN l m
 | _, _ => false
def belowT (p : Nat -> Bool) : List (Nat × AV) -> Bool
 | [] => true
 | (_, x) :: l => AV.under p x && belowT p l
def toT (F : Tc -> Type) {t t' : Tc} (h : t = t') (x : F t) : F t' := h ▸ x
/- is what is there as is wanted? -/
def eqInt (a b : Unit -> Int) : List VC := [fun _ => a () = b ()]
mutual
def eqAV (fz : Option (List Nat)) (B : Bs) (S : Sx) : AV -> AV -> Option (List VC)
 | _, .un => some []
 | .int k a, .int k' b => if k = k' then some (eqInt a b) else none
 | .lit k a, .int k' b => if k = k' then some [fun _ => a = b ()] else none
 | .int k a, .lit k' b => if k = k' then some [fun _ => a () = b] else none
 | .lit k a, .lit k' b => if k = k' /\ a = b then some [] else none
 | .bool a, .bool b => some [fun _ => a () = b ()]
 | .blit a, .bool b => some [fun _ => a = b ()]
 | .bool a, .blit b => some [fun _ => a () = b]
 | .blit a, .blit b => if a = b then some [] else none
 | .str a, .str b => some [fun _ => a () = b ()]
 | .nil, .nil => some []
 | .nil, .sl _ _ l => some [fun _ => l () = []]
 | .nil, .own loc => match fz with
  | none => if decide (S.n <= loc) then some [] else none
  | some _ => none
 | .sl fr t l, .sl fr' t' m => if h : t' = t then (if fr || !fr' then some [fun _ => l () = toT (fun t => List t.el) h (m ())] else none) else none
 | .own loc, .sl fr' t' m => match fz with
  | none => none
  | some ks => if memN loc ks then none else match lookE B S loc with
   | some (.row fr t _ l) => if h : t' = t then (if fr || !fr' then some [fun _ => l () = toT (fun t => List t.el) h (m ())] else none) else none
   | _ => none
 | .wide fr t l n, .sl fr' t' m => if h : t' = t then (if fr || !fr' then some [fun _ => (l ()).take (n ()) = toT (fun t => List t.el) h (m ())] else none) else none
 | .wide fr t l n, .wide fr' t' m k => if h : t' = t then (if fr || !fr' then some [fun _ => l () = toT (fun t => List t.el) h (m ()), fun _ => n () = k ()] else none) else none
 | .own loc, .own loc' => if loc = loc' then some [] else none
 | .ptr loc off, .ptr loc' off' => if loc = loc' /\ off = off' then some [] else none
 | .mp loc, .mp loc' => if loc = loc' then some [] else none
 | .it l l2, .it l' l2' => if l = l' /\ l2 = l2' then some [] else none
 | .agg l, .agg m => eqAVs fz B S l m
 | .tup l, .tup m => eqAVs fz B S l m
 | .fn f l, .fn g m => if f = g then eqAVs fz B S l m else none
 | _, _ => none
def eqAVs (fz : Option (List Nat)) (B : Bs) (S : Sx) : List AV -> List AV -> Option (List VC)
 | [], [] => some []
 | x :: l, y :: m => match eqAV fz B S x y, eqAVs fz B S l m with
  | some a, some b => some (a ++ b)
  | _, _ => none
 | _, _ => none
end
def eqTs (B : Bs) (S : Sx) : List (Nat × AV) -> Option (List VC)
 | [] => some []
 | (d, y) :: l => match lookT B S d, eqTs B S l with
  | some x, some b => (eqAV none B S x y).map fun a => a ++ b
  | _, _ => none
def eqEs (fz : Option (List Nat)) (B : Bs) (S : Sx) : List (Nat × En) -> Option (List VC)
 | [] => some []
 | (k, .box T cs) :: l => match lookE B S k with
  | some (.box T' cs') => if T = T' then (match eqAVs fz B S cs' cs, eqEs fz B S l with
   | some a, some b => some (a ++ b)
   | _, _ => none) else none
  | _ => none
 | (k, .row fr t T m) :: l => match eqEs fz B S l with
  | some b => match lookE B S k with
   | some (.row fr' t' T' m') => if h : t = t' then (if T = T' /\ (fr' || !fr) = true then some ((fun _ => m' () = toT (fun t => List t.el) h (m ())) :: b) else none) else none
   | some _ => none
   | none => match fz with
    | none => if S.n <= k then some ((fun _ => m () = []) :: b) else none
    | some _ => none
  | none => none
 | (k, .map fr ag c t T m) :: l => match eqEs fz B S l with
  | some b => match lookE B S k with
   | some (.map fr' ag' c' t' T' m') => if h : t = t' then (if T = T' /\ ag = ag' /\ c = c' /\ (fr' || !fr) = true then some ((fun _ => m' () = toT (fun t => List Kx -> Option t.el) h (m ())) :: b) else none) else none
   | _ => none
  | none => none
 | (k, .iter ml c seen left) :: l => match eqEs fz B S l with
  | some b => match lookE B S k with
   | some (.iter ml' c' seen' left') => if ml = ml' /\ c = c' then some ((fun _ => seen' () = seen ()) :: (fun _ => left' () = left ()) :: b) else none
   | _ => none
  | none => none
 | (_, .stamp _ _ _) :: _ => none
 | (_, .dead) :: _ => none
def En.under (p : Nat -> Bool) : En -> Bool
 | .box _ cs => AV.underL p cs
 | .iter ml _ _ _ => p ml
 | .stamp ml _ _ => p ml
 | _ => true
def belowE (p : Nat -> Bool) : List (Nat × En) -> Bool
 | [] => true
 | (k, e) :: l => p k && En.under p e && belowE p l
def apartK {α β : Type} (l : List (Nat × α)) : List (Nat × β) -> Bool
 | [] => true
 | (d, _) :: m => (alook l d).isNone && apartK l m
def eqS (B : Bs) (S : Sx) (ov : List (Nat × AV)) (oe : List (Nat × En)) : Fm :=
 match eqTs B S ov, eqEs none B S oe with
 | some a, some b => .fin (a ++ b)
 | _, _ => .ff 1
inductive Wd where
 | yes | no | ask (d : Nat) (c : Unit -> Bool) (b : Bool) | stuck
def wantedAV (B : Bs) (S : Sx) (ops : List Oper) (o : Oper) : Wd :=
 match o.guard with
 | none => .yes
 | some (j, b) => match (ops[j]?).bind (·.dst) with
  | some d => match getT B S d with
   | .blit c => if c = b then .yes else .no
   | .bool c => .ask d c b
   | .tup [] => .no
   | _ => .stuck
  | none => .stuck
def stepOp (C : Cx) (N : Nat) (B : Bs) (S : Sx) (o : Oper) : Option (Sx × List VC) :=
 match pureOp C.ty C.cs (lookE B S) (getO B S) o.op with
 | some (av, vcs) => match o.dst with
  | some d => (putT B S N d av).map fun S' => (S', vcs)
  | none => some (S, vcs)
 | none => match memOp C N B (cond C.fx S (preS B S o.op)) o with
  | some r => some r
  | none => callOp C N B S o
def splitOp (C : Cx) (N : Nat) (B : Bs) (S : Sx) (o : Oper) : Option ((Sx -> Fm) -> Fm) :=
 match o.op with
 | .range T x => match tiOf C.ty T, getO B S x, o.dst with
  | some (.map _ _ _ _ _), .mp loc, some d => match lookE B S loc with
   | some (.map _ _ c _ _ _) => match (alook B.e S.n).isNone, putT B ⟨S.t, S.e, S.n + 1⟩ N d (.it loc S.n) with
    | true, some S' => some fun K => .all Nat (fun _ => True) fun n => K ⟨S'.t, (S.n, .iter loc c (fun _ => []) fun _ => n) :: S'.e, S'.n⟩
    | _, _ => none
   | _ => none
  | _, _, _ => none
 | .next x false => match getO B S x, o.dst with
  | .it loc l2, some d => match lookE B S loc, lookE B S l2 with
   | some (.map _ _ c _ _ m), some (.iter ml c' seen left) => if ml = loc /\ c' = c /\ (alook B.e l2).isNone = true then
    match putT B S N d (.tup [.blit false]), putT B S N d (.tup [.blit true, .un, .un]) with
    | some S1, some S2 => some fun K => .br (fun _ => left () == 0) (.all Unit (fun _ => ∀ key x, fitsL c.ls key = true -> m () key = some x -> key ∈ seen ()) fun _ => K S1) (.all (List Kx × Nat) (fun p => fitsL c.ls p.1 = true /\ (m () p.1).isSome = true /\ p.1 ∉ seen () /\ p.2 < left ()) fun p => K ⟨S2.t, (l2, .iter loc c (fun _ => p.1 :: seen ()) fun _ => p.2) :: S2.e, S2.n⟩)
    | _, _ => none
    else none
   | _, _ => none
  | _, _ => none
 | _ => none
def skipOp (N : Nat) (B : Bs) (S : Sx) (o : Oper) : Option Sx := match o.dst with
 | some d => putT B S N d (.tup [])
 | none => some S
def goOps (C : Cx) (N : Nat) (B : Bs) (ops : List Oper) : List Oper -> Sx -> (Sx -> Fm) -> Fm
 | [], S, k => k S
 | o :: rest, S, k =>
  let go (S : Sx) : Fm := match splitOp C N B S o with
   | some f => f fun S' => goOps C N B ops rest S' k
   | none => match stepOp C N B S o with
    | some (S', []) => goOps C N B ops rest S' k
    | some (S', vcs) => .vc vcs (goOps C N B ops rest S' k)
    | none => .ff (1000 + rest.length)
  let no (S : Sx) : Fm := match skipOp N B S o with
   | some S' => goOps C N B ops rest S' k
   | none => .ff 3
  match wantedAV B S ops o with
  | .yes => go S
  | .no => no S
  | .ask d c b => match putT B S N d (.blit true), putT B S N d (.blit false) with
   | some S1, some S2 => .br c (if b then go S1 else no S1) (if b then no S2 else go S2)
   | _, _ => .ff 4
  | .stuck => .ff 5
def isPure (ef : List Nat) : Op -> Bool
 | .alloc _ => false
 | .box _ _ => false
 | .store _ _ _ => false
 | .buildSlice _ _ _ => false
 | .makeSlice _ _ _ => false
 | .makeMap _ _ => false
 | .mapUpdate _ _ _ _ => false
 | .mapEntry _ _ _ => false
 | .entryStore _ _ _ _ => false
 | .insert _ _ _ _ => false
 | .range _ _ => false
 | .next _ _ => false
 | .call c => match c.callee with
  | .builtin .len => true
  | .builtin .min => true
  | .builtin .max => true
  | .builtin _ => false
  | .value (.func f) => !memN f ef
  | _ => true
 | _ => true
def isEntry : Op -> Bool
 | .mapEntry _ _ _ => true
 | _ => false
def isReg : Op -> Bool
 | .move _ => true
 | .assign _ => true
 | .binOp _ _ _ _ _ => true
 | .unOp _ _ _ => true
 | .convert _ _ _ => true
 | .fieldAddr _ _ _ => true
 | .indexAddr _ _ _ => true
 | .extract _ _ => true
 | _ => false
def isEarly (ef : List Nat) (me : Bool) (op : Op) : Bool := isPure ef op && (!me || isReg op)
def earlyGo (ef : List Nat) (me : Bool) : List Oper -> List Bool -> List Bool
 | [], acc => acc
 | o :: l, acc => earlyGo ef me l (acc ++ [isEarly ef me o.op && o.after.all fun e => !Region.binds .any e || acc.getD e.on false])
def ancGo (l : List Oper) : Nat -> List Nat -> List Nat
 | 0, acc => acc
 | j + 1, acc => ancGo l j (match memN j acc with
  | true => (match l[j]? with
   | some o => (o.after.toList.filter fun e => Region.binds .any e).map (fun e => e.on) ++ acc
   | none => acc)
  | false => acc)
def firstNo : Nat -> List Bool -> Option Nat
 | _, [] => none
 | i, b :: l => if b then firstNo (i + 1) l else some i
def freeB (l : List Oper) (f : List Bool) : Bool := match firstNo 0 f with
 | none => false
 | some j =>
  let an := ancGo l (j + 1) [j]
  (List.range l.length).any fun i => f.getD i false && !memN i an && match l[i]? with
   | some o => !isReg o.op
   | none => false
def modeOf (ef : List Nat) (l : List Oper) : Bool := (l.any fun o => isEntry o.op) || freeB l (earlyGo ef false l [])
def sigma (ef : List Nat) (l : List Oper) : List Nat :=
 let f := earlyGo ef (modeOf ef l) l []
 ((List.range l.length).filter fun i => f.getD i false) ++ (List.range l.length).filter fun i => !f.getD i false
def preLenM (ef : List Nat) (me : Bool) : List Oper -> Nat
 | [] => 0
 | o :: l => if isEarly ef me o.op then preLenM ef me l + 1 else 0
def preLen (ef : List Nat) (l : List Oper) : Nat := preLenM ef (modeOf ef l) l
def fzAt : List (Nat × List Nat) -> Nat -> List Nat
 | [], _ => []
 | (k, l) :: m, id => cond (k == id) l (fzAt m id)
def join (K B : Bs) : Bs := ⟨K.t ++ B.t, K.e ++ B.e⟩
def leave (K : Bs) (S : Sx) : Sx := ⟨S.t ++ K.t, S.e ++ K.e, S.n⟩
def readsC (l : List Oper) (np : Nat) : Bool := (List.range np).all fun i => match l[i]? with
 | some o => (match o.guard with
  | none => true
  | some (j, _) => decide (j < i) && o.after.any fun e => Region.binds .any e && e.on == j) && !isSel o.op && o.op.operands.toList.all fun x => match x with
  | .tmp s => slotB l np i o s
  | _ => true
 | none => false
def posN : List Nat -> Nat -> Nat
 | [], _ => 0
 | k :: l, j => if k = j then 0 else posN l j + 1
def remapE (σ : List Nat) (e : Edge) : Edge := { e with on := posN σ e.on }
def remapO (σ : List Nat) (o : Oper) : Oper := { o with after := o.after.map (remapE σ), guard := match o.guard with
 | some (g, b) => some (posN σ g, b)
 | none => none }
def dumO : Oper := ⟨none, .move (.const (.bool false)), 0, "", #[], none⟩
def permL (σ : List Nat) (l : List Oper) : List Oper := σ.map fun i => remapO σ (match l[i]? with
 | some o => o
 | none => dumO)
def permB (σ : List Nat) (n : Nat) : Bool := σ.length == n && ((List.range n).all fun j => σ[posN σ j]? == some j) && (List.range n).all fun k => match σ[k]? with
 | some i => decide (i < n) && posN σ i == k
 | none => false
def apartB (l : List Oper) (i : Nat) : Bool := match l[i]? with
 | some oi => (List.range l.length).all fun j => match l[j]? with
  | some oj => i == j || (oi.after.any fun e => Region.binds .any e && e.on == j) || (oj.after.any fun e => Region.binds .any e && e.on == i) || oi.apart l.toArray oj
  | none => true
 | none => true
def orderR (l : List Oper) (np : Nat) (reg : Nat -> Bool) : Bool :=
 (List.range l.length).all fun j => match l[j]? with
  | some o => (o.after.all fun e => !Region.binds .any e || decide (e.on < j)) && (decide (j < np) || (List.range np).all fun i => reg i || waits .any l.toArray l.length j i)
  | none => false
def laid (ef : List Nat) (l : List Oper) : List Oper := permL (sigma ef l) l
def regAt (l : List Oper) (np i : Nat) : Bool := decide (i < np) && match l[i]? with
 | some o => isReg o.op
 | none => false
def drawOk (ef : List Nat) (ops : List Oper) (N : Nat) : Bool :=
 let l := laid ef ops
 let np := preLen ef l
 permB (sigma ef ops) ops.length && (orderR l np (regAt l np) && (dstsB l np N && (readsC l np && ((List.range np).all (fun i => !regAt l np i || apartB l i) && l.all fun o => !isSel o.op))))
def drawOkG (ef : List Nat) (σ : List Nat) (np : Nat) (ops : List Oper) (N : Nat) : Bool :=
 let l := permL σ ops
 decide (np <= l.length) && ((l.take np).all (fun o => isPure ef o.op) && (permB σ ops.length && (orderR l np (regAt l np) && (dstsB l np N && (readsC l np && ((List.range np).all (fun i => !regAt l np i || apartB l i) && l.all fun o => !isSel o.op))))))
def chainB (l : List Oper) (np : Nat) : Bool := (List.range l.length).all fun j => decide (j <= np) || match l[j]? with
 | some o => o.after.any fun e => Region.binds .any e && e.on == j - 1
 | none => false
def readyN (l : List Oper) (done : List Nat) : List Nat := (List.range l.length).filter fun i => match l[i]? with
 | some o => !memN i done && o.after.all fun e => !Region.binds .any e || memN e.on done
 | none => false
def andAll : List Nat -> (Nat -> Fm) -> Fm
 | [], _ => .ff 19
 | [i], f => f i
 | i :: l, f => .and (f i) (andAll l f)
def firstReg (l : List Oper) : List Nat -> Option Nat
 | [] => none
 | i :: is => if (match l[i]? with
  | some o => isReg o.op && o.dst.isSome && apartB l i
  | none => false) then some i else firstReg l is
def isStill : Op -> Bool
 | .move _ => true
 | .assign _ => true
 | .load _ _ => true
 | .indexAddr _ _ _ => true
 | .unOp _ _ _ => true
 | .fieldAddr _ _ _ => true
 | .extract _ _ => true
 | _ => false
def stillOk (l : List Oper) (done : List Nat) (i : Nat) : Bool := match l[i]? with
 | some oi => isStill oi.op && (oi.dst.isSome && (List.range l.length).all fun j => j == i || (memN j done || (waits .any l.toArray l.toArray.size j i || match l[j]? with
  | some oj => oi.apart l.toArray oj && isStill oj.op
  | none => true)))
 | none => false
def firstStill (l : List Oper) (done : List Nat) : List Nat -> Option Nat
 | [] => none
 | i :: is => if stillOk l done i then some i else firstStill l done is
def goLate (C : Cx) (N : Nat) (B : Bs) (l : List Oper) : Nat -> List Nat -> Sx -> (Sx -> Fm) -> Fm
 | 0, done, S, k => match readyN l done with
  | [] => k S
  | _ => .ff 19
 | fuel + 1, done, S, k =>
  let one (i : Nat) : Fm := match l[i]? with
   | some o => goOps C N B l [o] S fun S' => goLate C N B l fuel (i :: done) S' k
   | none => .ff 19
  match readyN l done with
  | [] => k S
  | [i] => one i
  | is => match firstReg l is with
   | some i => one i
   | none => andAll is one
def goDrawN (C : Cx) (N : Nat) (B : Bs) (l : List Oper) (np : Nat) (S : Sx) (k : Sx -> Fm) : Fm :=
 goOps C N B l (l.take np) S fun S' => match chainB l np with
  | true => goOps C N B l (l.drop np) S' k
  | false => goLate C N B l (l.length - np) (List.range np) S' k
def goDraw (C : Cx) (N : Nat) (B : Bs) (l : List Oper) (S : Sx) (k : Sx -> Fm) : Fm := goDrawN C N B l (preLen (efs C.fs) l) S k
def goSch (C : Cx) (N : Nat) (B : Bs) (ops : List Oper) : Sch -> Sx -> (Sx -> Fm) -> Fm
 | .nil, S, k => k S
 | .bad, _, _ => .ff 20
 | .op i r, S, k => match ops[i]? with
  | some o => goOps C N B ops [o] S fun S' => goSch C N B ops r S' k
  | none => .ff 21
 | .alt a b, S, k => .and (goSch C N B ops a S k) (goSch C N B ops b S k)
def schAt : List (Nat × Sch) -> Nat -> Option Sch
 | [], _ => none
 | (k, s) :: m, id => cond (k == id) (some s) (schAt m id)
def latAt : List (Nat × Lat) -> Nat -> Option Lat
 | [], _ => none
 | (k, s) :: m, id => cond (k == id) (some s) (latAt m id)
def schList : List Nat -> Sch -> Sch
 | [], r => r
 | i :: is, r => .op i (schList is r)
def uniqE (ks : List Nat) : List (Nat × En) -> List (Nat × En)
 | [] => []
 | (k, e) :: l => match memN k ks, e with
  | true, _ => uniqE ks l
  | false, .stamp _ _ _ => uniqE (k :: ks) l
  | false, .dead => uniqE (k :: ks) l
  | false, e => (k, e) :: uniqE (k :: ks) l
def detOp (C : Cx) (N : Nat) (B : Bs) (ops : List Oper) (o : Oper) (S : Sx) : Option Sx := match wantedAV B S ops o with
 | .yes => match splitOp C N B S o with
  | some _ => none
  | none => match stepOp C N B S o with
   | some (S', _) => some S'
   | none => none
 | .no => skipOp N B S o
 | _ => none
def ndPick (ks : List Nat) (S : Sx) : Sx := ⟨pickT ks S.t, uniqE [] S.e, S.n⟩
def latSt (C : Cx) (N : Nat) (B : Bs) (ops : List Oper) : List Nd -> List (Sx × List Nat) -> Option (List (Sx × List Nat))
 | [], acc => some acc
 | nd :: nds, acc => match acc[nd.up.1]?, ops[nd.up.2]? with
  | some p, some o => match detOp C N B ops o p.1 with
   | some S' => latSt C N B ops nds (acc ++ [(ndPick nd.ks S', p.2 ++ List.replicate (S'.n - p.1.n) nd.up.2)])
   | none => none
  | _, _ => none
def cntN (x : Nat) : List Nat -> Nat
 | [] => 0
 | y :: l => cond (y == x) (cntN x l + 1) (cntN x l)
def nthN (x : Nat) : Nat -> List Nat -> Nat
 | _, [] => 0
 | k, y :: l => match y == x, k with
  | true, 0 => 0
  | true, k + 1 => nthN x k l + 1
  | false, k => nthN x k l + 1
def renOf (b : List Nat) : List Nat -> List Nat -> List Nat
 | _, [] => []
 | seen, x :: l => nthN x (cntN x seen) b :: renOf b (x :: seen) l
def gO (n0 : Nat) (σ : List Nat) (l : Nat) : Nat := match decide (l < n0) with
 | true => l
 | false => match σ[l - n0]? with
  | some k => n0 + k
  | none => l
def renT (g : Nat -> Nat) : List (Nat × AV) -> List (Nat × AV)
 | [] => []
 | (k, x) :: l => (k, AV.ren g x) :: renT g l
def toF (B : Bs) (n0 : Nat) (own : List Nat) (T : Sx × List Nat) (S' : Sx) : Fm := match S'.n == T.1.n with
 | true => match sameN (renOf T.2 [] own) (List.range own.length) with
  | true => eqS B S' T.1.t T.1.e
  | false => match permB (renOf T.2 [] own) own.length && decide (n0 + own.length <= S'.n) with
   | true => eqS B ⟨renT (gO n0 (renOf T.2 [] own)) S'.t, renE (gO n0 (renOf T.2 [] own)) S'.e, S'.n⟩ T.1.t T.1.e
   | false => .ff 26
 | false => .ff 27
def isUp (nds : List Nd) (t j oi : Nat) : Bool := match nds[t]? with
 | some nd => nd.up.1 == j && (nd.up.2 == oi && !(t == 0))
 | none => false
def edF (C : Cx) (N : Nat) (B : Bs) (ops : List Oper) (n0 : Nat) (nds : List Nd) (sts : List (Sx × List Nat)) (j : Nat) (Sj : Sx × List Nat) : List (Nat × Nat × Nat) -> Fm -> Fm
 | [], A => A
 | (_, oi, t) :: es, A => match ops[oi]?, sts[t]? with
  | some o, some T => .and (match isUp nds t j oi with
   | true => goOps C N B ops [o] Sj.1 fun _ => .fin []
   | false => goOps C N B ops [o] Sj.1 fun S' => toF B n0 (Sj.2 ++ List.replicate (S'.n - Sj.1.n) oi) T S') (edF C N B ops n0 nds sts j Sj es A)
  | _, _ => .ff 28
def okN (B : Bs) (S : Sx) : Bool := belowT (ltB S.n) S.t && (belowE (ltB S.n) S.e && (apartK B.t S.t && apartK B.e S.e))
def ndF (C : Cx) (N : Nat) (B : Bs) (ops : List Oper) (n0 : Nat) (nds : List Nd) (sts : List (Sx × List Nat)) (k : Sx -> Fm) : Nat -> List Nd -> Fm
 | _, [] => .ff 29
 | j, nd :: r => match sts[j]? with
  | some Sj => match okN B Sj.1 with
   | true => match nd.ed with
    | [] => k Sj.1
    | es => edF C N B ops n0 nds sts j Sj es (ndF C N B ops n0 nds sts k (j + 1) r)
   | false => .ff 24
  | none => .ff 30
def latF (C : Cx) (N : Nat) (B : Bs) (ops : List Oper) (nds : List Nd) (S : Sx) (k : Sx -> Fm) : Fm := match nds with
 | [] => k S
 | nd :: r => match decide (C.nb <= S.n) && (belowT (ltB S.n) B.t && belowE (ltB S.n) B.e) with
  | true => match latSt C N B ops r [(ndPick nd.ks S, [])] with
   | some sts => ndF C N B ops S.n (nd :: r) sts k 0 (nd :: r)
   | none => .ff 22
  | false => .ff 25
def goReg (C : Cx) (N : Nat) (B : Bs) (id : Nat) (ops : List Oper) (S : Sx) (k : Sx -> Fm) : Fm := match latAt C.lt id with
 | some t => goSch C N B ops (schList t.row .nil) S fun S' => goSch C N B ops (schList t.pre .nil) S' fun S' => latF C N B ops t.nds S' fun S' => goSch C N B ops (schList t.post .nil) S' k
 | none => match schAt C.sc id with
  | some s => goSch C N B ops s S k
  | none => goDraw C N B (laid (efs C.fs) ops) S k
def detRow (C : Cx) (N : Nat) (B : Bs) (ops : List Oper) : List Oper -> Sx -> Option Sx
 | [], S => some S
 | o :: l, S => match wantedAV B S ops o with
  | .yes => match stepOp C N B S o with
   | some (S', _) => detRow C N B ops l S'
   | none => none
  | .no => match skipOp N B S o with
   | some S' => detRow C N B ops l S'
   | none => none
  | _ => none
def joinF (C : Cx) (N : Nat) (B : Bs) (l : List Oper) (ks : List Nat) (S : Sx) (go : (Sx -> Fm) -> Fm) (k : Sx -> Fm) : Fm := match detRow C N B l l S with
 | none => .ff 22
 | some S1 => match belowT (ltB S1.n) (pickT ks S1.t) && (belowE (ltB S1.n) (uniqE [] S1.e) && (apartK B.t (pickT ks S1.t) && apartK B.e (uniqE [] S1.e))) with
  | true => .and (go fun S' => if S'.n = S1.n then eqS B S' (pickT ks S1.t) (uniqE [] S1.e) else .ff 23) (k ⟨pickT ks S1.t, uniqE [] S1.e, S1.n⟩)
  | false => .ff 24
def cutF (C : Cx) (id : Nat) (f : Unit -> Fm) : Fm := match memN id C.ct with
 | true => .all Unit (fun _ => True) f
 | false => f ()
structure Fx where
 C : Cx
 N : Nat
 Ls : List (Nat × Lp)
 R : Bs -> Sx -> Fm
def lookL : List (Nat × Lp) -> Nat -> Option Lp
 | [], _ => none
 | (k, v) :: l, d => if k == d then some v else lookL l d
mutual
def run (F : Fx) (fuel : Nat) (c : Code) (B : Bs) (S : Sx) (K : List Kt) : Fm :=
 match fuel with
 | 0 => .ff 6
 | fuel + 1 => match c with
  | .skip => cont F fuel B S K
  | .label _ => cont F fuel B S K
  | .region id ops draw => cutF F.C id fun _ => match draw with
   | true => match kpAt F.C.jn id with
    | some ks => joinF F.C F.N B (laid (efs F.C.fs) ops.toList) ks (pickS F.C id (cond F.C.fx S (frzAll B (fzAt F.C.fz id) S))) (goReg F.C F.N B id ops.toList (pickS F.C id (cond F.C.fx S (frzAll B (fzAt F.C.fz id) S)))) fun S' => cont F fuel B S' K
    | none => goReg F.C F.N B id ops.toList (pickS F.C id (cond F.C.fx S (frzAll B (fzAt F.C.fz id) S))) fun S' => cont F fuel B S' K
   | false => goOps F.C F.N B ops.toList ops.toList (pickS F.C id (cond F.C.fx S (frzAll B (fzAt F.C.fz id) S))) fun S' => cont F fuel B S' K
  | .seq a b => run F fuel a B S (.code b :: K)
  | .cond x a b => match getO B S x with
   | .blit true => run F fuel a B S K
   | .blit false => run F fuel b B S K
   | .bool t => .br t (run F fuel a B S K) (run F fuel b B S K)
   | _ => .ff 8
  | .block id b => run F fuel b B S (.block id :: K)
  | .loop b => match keyOf b with
   | some k =>
    let go (lp : Lp) : Fm :=
     let locs := keysOf (lp.oe lp.x0)
     let n := maxK S.n locs
     let K' : Bs := ⟨keepT (modsU b locs n S.t) locs n S.t, keepE locs n S.e⟩
     let B' := join K' B
     .and (.vc [fun _ => lp.I lp.x0] (eqS B S (lp.ov lp.x0) (lp.oe lp.x0))) (.all lp.X lp.I fun x =>
      if sameN (keysOf (lp.oe x)) locs && belowT (ltB n) (lp.ov x) && belowE (ltB n) (lp.oe x) && apartK B'.t (lp.ov x) && apartK B'.e (lp.oe x) then
      run F fuel b B' ⟨lp.ov x, lp.oe x, n⟩ (.back B K' (fun Bi S' => if n <= S'.n then (match lp.nx with
       | some nx => .vc [fun _ => lp.I (nx x) /\ lp.μ (nx x) () < lp.μ x ()] (eqS Bi S' (lp.ov (nx x)) (lp.oe (nx x)))
       | none => .ex lp.X (fun y => lp.I y /\ lp.μ y () < lp.μ x ()) fun y => eqS Bi S' (lp.ov y) (lp.oe y)) else .ff 17) :: K)
      else .ff 15)
    match memN k F.C.ul with
    | true => run F fuel b B S (.again b :: K)
    | false => match lookL F.Ls k with
     | some lp => go lp
     | none => .exl go
   | none => .ff 9
  | .exit id => exitTo F fuel id B S K
  | .ret => leaveAll F fuel B S K
  | _ => .ff 10
def cont (F : Fx) (fuel : Nat) (B : Bs) (S : Sx) (K : List Kt) : Fm :=
 match fuel with
 | 0 => .ff 6
 | fuel + 1 => match K with
  | [] => F.R B S
  | .code c :: K => run F fuel c B S K
  | .block _ :: K => cont F fuel B S K
  | .back _ _ f :: _ => f B S
  | .again b :: K => run F fuel (.loop b) B S K
def exitTo (F : Fx) (fuel : Nat) (id : Nat) (B : Bs) (S : Sx) (K : List Kt) : Fm :=
 match fuel with
 | 0 => .ff 6
 | fuel + 1 => match K with
  | [] => .ff 11
  | .code _ :: K => exitTo F fuel id B S K
  | .block id' :: K => if id' = id then cont F fuel B S K else exitTo F fuel id B S K
  | .back Bo K' _ :: K => exitTo F fuel id Bo (leave K' S) K
  | .again _ :: K => exitTo F fuel id B S K
def leaveAll (F : Fx) (fuel : Nat) (B : Bs) (S : Sx) (K : List Kt) : Fm :=
 match fuel with
 | 0 => .ff 6
 | fuel + 1 => match K with
  | [] => F.R B S
  | .code _ :: K => leaveAll F fuel B S K
  | .block _ :: K => leaveAll F fuel B S K
  | .back Bo K' _ :: K => leaveAll F fuel Bo (leave K' S) K
  | .again _ :: K => leaveAll F fuel B S K
end
def resAV (C : Cx) (B : Bs) (S : Sx) : List ResultVar -> Option (List AV)
 | [] => some []
 | .tmp t :: l => (resAV C B S l).map fun r => getT B S t :: r
 | .cell p T :: l => match alook C.ty T with
  | some i => match loadAV (lookE B S) i.ti.agg i.sz (getT B S p), resAV C B S l with
   | some x, some r => some (x :: r)
   | _, _ => none
  | none => none
def tupOf : List AV -> AV
 | [x] => x
 | l => .tup l
def retF (C : Cx) (rs : List ResultVar) (want : AV) (es : List (Nat × En)) (B : Bs) (S : Sx) : Fm :=
 match resAV C B S rs with
 | some l => match eqAV (some (keysOf es)) B S (tupOf l) want, eqEs (some (keysOf es)) B S es with
  | some a, some b => .fin (a ++ b)
  | _, _ => .ff 13
 | none => .ff 14
def zipT : Nat -> List AV -> List (Nat × AV)
 | _, [] => []
 | k, x :: l => (k, x) :: zipT (k + 1) l
def bodyOf (f : Func) : Code := f.body.getD .skip
/- nothing in it is called new -/
mutual
def AV.noFr : AV -> Bool
 | .sl fr _ _ => !fr
 | .wide fr _ _ _ => !fr
 | .pto cs _ => AV.noFrL cs
 | .agg cs => AV.noFrL cs
 | .tup cs => AV.noFrL cs
 | .fn _ cs => AV.noFrL cs
 | _ => true
def AV.noFrL : List AV -> Bool
 | [] => true
 | x :: l => AV.noFr x && AV.noFrL l
end
def En.noFr : En -> Bool
 | .box _ cs => AV.noFrL cs
 | .row fr _ _ _ => !fr
 | .map fr _ _ _ _ _ => !fr
 | _ => true
def noFrE : List (Nat × En) -> Bool
 | [] => true
 | (_, e) :: l => En.noFr e && noFrE l
def inK (ks : List Nat) (l : Nat) : Bool := memN l ks
def fnG (C : Cx) (Ls : List (Nat × Lp)) (fn : Func) (args : List AV) (es0 : List (Nat × En)) (n0 : Nat) (want : AV) (es : List (Nat × En)) : Fm :=
 if decide (n0 <= C.nb) && decide (args.length <= fn.ntmps) && AV.noFrL args && noFrE es0 && AV.under (inK (keysOf es)) want && belowE (inK (keysOf es)) es && allK (keysOf es) n0 then
 run ⟨C, fn.ntmps, Ls, retF C fn.results.toList want es⟩ 100000 (bodyOf fn) ⟨[], []⟩ ⟨zipT 0 args, es0, n0⟩ [] else .ff 18
def fnF (C : Cx) (Ls : List (Nat × Lp)) (fn : Func) (args : List AV) (want : AV) : Fm := fnG C Ls fn args [] 0 want []
def OpM (P : Program) (o : Oper) (a : Act) (w : World) (K : Act -> World -> Prop) : Prop :=
 (∃ v w', (execOp a.eval o).run P w = .ok (.value v) w' /\ K (a.put o.dst v) w') \/
 (∃ w', (execOp a.eval o).run P w = .ok .skip w' /\ K (a.put o.dst undef) w') \/
 ∃ f args, (execOp a.eval o).run P w = .ok (.enter f args) w /\ Calls P f args w fun e w' => ∃ v, e = .returned v /\ K (a.put o.dst v) w'
theorem OpM.wp {P : Program} {o : Oper} {a : Act} {w : World} {K K' : Act -> World -> Prop} {Q : Exit -> Act -> World -> Prop} (h : OpM P o a w K) (hK : ∀ a w, K a w -> K' a w) : o.wp P a w K' Q := by
 unfold Oper.wp;rcases h with ⟨v, w', h1, h2⟩ | ⟨w', h1, h2⟩ | ⟨f, args, h1, h2⟩
 . rw [h1]; exact hK _ _ h2
 . rw [h1]; exact hK _ _ h2
 . rw [h1];refine h2.mono fun e w' h3 => ?_;obtain ⟨v, rfl, h4⟩ := h3;exact hK _ _ h4
section
variable {P : Program} {w w' w0 : World} {ρ ρ' : Nat -> Option Rl} {base : Nat} {ro ro' : Nat -> Prop} {S0 : Pm} {N : Nat} {B : Bs} {S : Sx} {a : Act}
theorem cellsOf_ok {x : AV} {v : Value} {cs : List AV} (h : cellsOf x = some cs) (hx : AVR w ρ base ro x v) : ∃ vs : List Value, v.cells = vs.toArray /\ Each w ρ base ro cs vs := by
 unfold cellsOf at h;split at h
 . cases h;obtain ⟨vs, rfl, hE⟩ := hx.agg_;exact ⟨vs, rfl, hE⟩
 . cases h
 . cases h
 . rename_i h1 h2 h3;cases h;exact ⟨[v], cells_one hx (fun l e => h1 l e) (fun e => h2 e), .cons hx .nil⟩
theorem one_ok {x : AV} {v : Value} (h : AV.one x = true) (hx : AVR w ρ base ro x v) : v.oneCell' = true := by
 cases hx <;> first | rfl | cases h
theorem cellsAV_one (fr : Bool) (t : Tc) (x : Unit -> t.el) : (cellsAV fr t x).all AV.one = true := by cases t <;> rfl
theorem all_one {l : List AV} {vs : List Value} (h : l.all AV.one = true) (hE : Each w ρ base ro l vs) : ∀ u ∈ vs, u.oneCell' = true := by
 intro u hu;obtain ⟨j, hj⟩ := List.mem_iff_getElem?.1 hu;have hlt := (List.getElem?_eq_some_iff.1 hj).1;have hl : j < l.length := by rw [hE.1]; exact hlt
 exact one_ok (List.all_eq_true.1 h _ (List.getElem_mem hl)) (hE.2 j _ u (List.getElem?_eq_getElem hl) hj)
theorem norm_ok {s : Sg} {x y : AV} {v : Value} (h : norm s x = some y) (hx : AVR w ρ base ro x v) : AVR w ρ base ro y v := by
 unfold norm at h;split at h
 . split at h <;> cases h; exact hx
 . split at h <;> cases h
   rw [hx.lit_];exact .int _ _
 . cases h; exact hx
 . cases h;rw [hx.blit_];exact .bool _
 . cases h; exact hx
 . split at h <;> cases h; exact hx
 . cases h;rw [hx.nil_];exact .sl true _ _ none 0 [] rfl (Nat.le_refl _) (Rd.nil _ _ _ _) (fun _ h => by cases h) (fun _ _ h => by cases h) (fun k cs j x v h => by simp at h)
 . split at h <;> cases h
   exact wide_take hx
 . split at h <;> cases h
   exact hx
 . split at h <;> cases h
   obtain ⟨A, c, css, _, _, _, _, _, _, hrx⟩ := hx.sl_;rw [hrx] at hx ⊢;exact .wide _ _ _ _ A c (Nat.le_refl _) hx
 . cases h;rw [hx.nil_];exact .wide true _ (fun _ => []) (fun _ => 0) none 0 (Nat.le_refl _) (.sl true _ _ none 0 [] rfl (Nat.le_refl _) (Rd.nil _ _ _ _) (fun _ h => by cases h) (fun _ _ h => by cases h) (fun k cs j x v h => by simp at h))
 . cases h
theorem normL_ok : ∀ {ss : List Sg} {xs ys : List AV} {vs : List Value}, normL ss xs = some ys -> Each w ρ base ro xs vs -> Each w ρ base ro ys vs
 | [], [], ys, vs, h, hE => by cases h; exact hE
 | s :: ss, x :: xs, ys, vs, h, hE => by
  unfold normL at h;split at h
  . rename_i y ys' h1 h2;cases h;obtain ⟨v, us, rfl, hx, hE'⟩ := hE.head;exact .cons (norm_ok h1 hx) (normL_ok h2 hE')
  . cases h
 | [], _ :: _, _, _, h, _ => by cases h
 | _ :: _, [], _, _, h, _ => by cases h
theorem each_loose {l : List AV} {vs : List Value} (h : Each w ρ base ro l vs) : Each w ρ base ro (l.map AV.loose) vs := by
 refine ⟨by simp [h.1], fun j x v hx hv => ?_⟩;rw [List.getElem?_map] at hx
 cases hj : l[j]? with
 | none => rw [hj] at hx; cases hx
 | some y =>
  rw [hj] at hx;simp only [Option.map_some, Option.some.injEq] at hx;subst hx;exact (h.2 j y v hj hv).loose_
theorem elOf_ok {t : Tc} {x : AV} {v : Value} {f : Bool} {e : Unit -> t.el} (h : elOf t x = some (f, e)) (hx : AVR w ρ base ro x v) : ∃ vs : List Value, v.cells = vs.toArray /\ vs.length = t.size /\ Each w ρ base ro (cellsAV f t e) vs := by
 unfold elOf at h;split at h
 . rename_i cs hc;split at h
   . rename_i ys hn
     cases hm : mkEl t ys with
     | none => rw [hm] at h; cases h
     | some e' =>
      rw [hm] at h;simp only [Option.map_some, Option.some.injEq, Prod.mk.injEq] at h;obtain ⟨rfl, rfl⟩ := h;obtain ⟨vs, h1, hE⟩ := cellsOf_ok hc hx;have hE2 := normL_ok hn hE;have hmc := mkEl_cells hm;have h3 : Each w ρ base ro (cellsAV (AV.plainL true ys) t e') vs := by
       cases hp : AV.plainL true ys with
       | true => rw [hmc.2 hp]; exact hE2
       | false => rw [hmc.1]; exact each_loose hE2
      exact ⟨vs, h1, by rw [<- h3.1, cellsAV_len], h3⟩
   . cases h
 . cases h
theorem each_less {f g : Bool} {t : Tc} {x : Unit -> t.el} {vs : List Value} (h : Each w ρ base ro (cellsAV f t x) vs) (hfg : g = true -> f = true) : Each w ρ base ro (cellsAV g t x) vs := by
 cases g with
 | true => rw [hfg rfl] at h; exact h
 | false => rw [cellsAV_loose f]; exact each_loose h
theorem elsOf_ok {t : Tc} : ∀ {xs : List AV} {us : List Value} {f : Bool} {es : List (Unit -> t.el)}, elsOf t xs = some (f, es) -> Each w ρ base ro xs us -> ∃ css : List (List Value), us.map Value.cells = css.map List.toArray /\ css.length = es.length /\ ∀ (k : Nat) cs e, css[k]? = some cs -> es[k]? = some e -> cs.length = t.size /\ Each w ρ base ro (cellsAV f t e) cs
 | [], us, f, es, h, hE => by
  simp only [elsOf, Option.some.injEq, Prod.mk.injEq] at h;obtain ⟨rfl, rfl⟩ := h;rw [hE.none];exact ⟨[], rfl, rfl, fun k cs e hk => by simp at hk⟩
 | x :: xs, us, f, es, h, hE => by
  unfold elsOf at h;split at h
  . rename_i f1 e1 f2 es2 h1 h2;simp only [Option.some.injEq, Prod.mk.injEq] at h;obtain ⟨rfl, rfl⟩ := h;obtain ⟨v, us', rfl, hx, hE'⟩ := hE.head;obtain ⟨vs, k1, k2, k3⟩ := elOf_ok h1 hx;obtain ⟨css, q1, q2, q3⟩ := elsOf_ok h2 hE';refine ⟨vs :: css, by simp [k1, q1], by simp [q2], fun k cs e hk he => ?_⟩
    cases k with
    | zero =>
     simp only [List.getElem?_cons_zero, Option.some.injEq] at hk he;subst hk; subst he;exact ⟨k2, each_less k3 (by simp only [Bool.and_eq_true]; exact fun h => h.1)⟩
    | succ k =>
     obtain ⟨r1, r2⟩ := q3 k cs e (by simpa using hk) (by simpa using he);exact ⟨r1, each_less r2 (by simp only [Bool.and_eq_true]; exact fun h => h.2)⟩
  . cases h
theorem updR_self (ρ : Nat -> Option Rl) (loc : Nat) (r : Rl) : updR ρ loc r loc = some r := by unfold updR; rw [if_pos rfl]
theorem ext_new {loc : Nat} {r : Rl} (h : ρ loc = none) : Ext ρ (updR ρ loc r) := by
 intro l r' hl;unfold updR;split
 . rename_i e; subst e; rw [h] at hl; cases hl
 . exact hl
theorem updR_same {loc : Nat} {r : Rl} (h : ρ loc = some r) : updR ρ loc r = ρ := by
 funext l;unfold updR;split
 . rename_i e; subst e; exact h.symm
 . rfl
theorem SimR.alloc (H : SimR w0 S0 N B S a w ρ ro) {T : Nat} {cells : List AV} {cs : List Value} (hB : alook B.e S.n = none) (hE : Each w ρ w0.heap.size ro cells cs) :
 SimR w0 S0 N B ⟨S.t, (S.n, .box T cells) :: S.e, S.n + 1⟩ a (w.alloc (.cells cs.toArray T)) (updR ρ S.n (.box w.heap.size)) ro := by
 have hnone := H.fresh S.n (Nat.le_refl _);have hkeep : ∀ b, b < w.heap.size -> (w.alloc (.cells cs.toArray T)).heap[b]? = w.heap[b]? := fun b hb => Below.heap_alloc w _ b hb;refine H.upd (H.from_.alloc _) (by simp) (fun b hb _ => hkeep b hb) (fun b hb => ?_) hB (Nat.le_succ _) (Nat.lt_succ_self _) (.inl (ext_new hnone)) (.inl fun b hb => by rw [hnone] at hb; cases hb) ⟨w.heap.size, cs, updR_self _ _ _, heap_alloc_new w _, ?_⟩
 . injection hb with hb;subst hb;exact .inr ⟨Nat.le_refl _, by simp⟩
 . exact hE.mono (fun b _ hb => hkeep b hb) (ext_new hnone) (Nat.le_refl _) fun _ h => h
theorem AVR.ptr_new {loc b : Nat} : AVR w (updR ρ loc (.box b)) base ro (.ptr loc 0) (.pointer (some ⟨b, 0, none⟩)) := .ptr _ _ _ (updR_self _ _ _)
theorem run_zeroValue {T : Nat} {j : TypeInfo} {z : Value} (hj : P.info? T = some j) (hz : j.zero = some z) : (zeroValue T).run P w = .ok z w := by
 unfold zeroValue;simp only [typeInfo, Sem.run_bind, Sem.run_pure, Result.andThen_ok, run_program, hj, hz]
theorem alloc_ok {C : Cx} (hty : TyOk P C.ty) (H : Sim w0 S0 N B S a w) {T : Nat} {i : TInf} {d : Nat} {S' : Sx} {ty : TypeId} {pos : String} {aft : Array Edge} {gd : Option (Nat × Bool)} (hi : alook C.ty T = some i) (hz : i.z.isEmpty = false) (hB : alook B.e S.n = none) (hp : putT B ⟨S.t, (S.n, .box T i.z) :: S.e, S.n + 1⟩ N d (.ptr S.n 0) = some S') :
 OpM P ⟨some d, .alloc T, ty, pos, aft, gd⟩ a w (Sim w0 S0 N B S') := by
 obtain ⟨ρ, ro, H⟩ := H;obtain ⟨j, z, hj, hjz, hE⟩ := tyB_zero (w := w) (ρ := ρ) (base := w0.heap.size) (ro := ro) (hty T i hi) hz;have H2 := H.alloc (T := T) hB hE;refine .inl ⟨.pointer (some ⟨w.heap.size, 0, none⟩), _, ?_, _, _, H2.put hp .ptr_new⟩;unfold execOp;simp only [Instr.alloc, Sem.run_bind, run_zeroValue hj hjz, Result.andThen_ok, newVar, newRow, Sem.run_pure];rfl
theorem box_ok (H : Sim w0 S0 N B S a w) {T : Nat} {x : Operand} {cells : List AV} {d : Nat} {S' : Sx} {ty : TypeId} {pos : String} {aft : Array Edge} {gd : Option (Nat × Bool)} (hc : cellsOf (getO B S x) = some cells) (hB : alook B.e S.n = none) (hp : putT B ⟨S.t, (S.n, .box T cells) :: S.e, S.n + 1⟩ N d (.ptr S.n 0) = some S') :
 OpM P ⟨some d, .box T x, ty, pos, aft, gd⟩ a w (Sim w0 S0 N B S') := by
 obtain ⟨ρ, ro, H⟩ := H;obtain ⟨vs, hv, hE⟩ := cellsOf_ok hc (H.get x);have H2 := H.alloc (T := T) hB hE;refine .inl ⟨.pointer (some ⟨w.heap.size, 0, none⟩), _, ?_, _, _, H2.put hp .ptr_new⟩;unfold execOp;simp only [Instr.box, Sem.run_bind, newVar, newRow, Sem.run_pure, hv];rfl
theorem cells_toList {v : Value} {vs : List Value} (h : v.cells = vs.toArray) : v.cells.toList = vs := by rw [h]
theorem setRow_size (w : World) (g : Nat) (cs : Array Value) : (w.setRow g cs).heap.size = w.heap.size := by simp [World.setRow]
theorem setRow_grown (w : World) (g : Nat) (cs : Array Value) : w.grownBy (w.setRow g cs) (some g) :=
 ⟨rfl, rfl, rfl, by rw [setRow_size]; exact Nat.le_refl _, fun k _ hk => setRow_other w g k cs fun e => hk (by rw [e])⟩
theorem SimR.mine (H : SimR w0 S0 N B S a w ρ ro) {l g : Nat} {r : Rl} (h : ρ l = some r) (hb : r.blk = some g) : ∀ k, some g = some k -> w0.heap.size <= k \/ ∃ l r, S0.pl l = some r /\ r.blk = some k := by
 intro k hk;injection hk with hk;subst hk;rcases (H.own l r g h hb).2.2 with h1 | ⟨r0, h1, h2⟩
 . exact .inl h1
 . exact .inr ⟨l, r0, h1, h2⟩
theorem storeB_ok {C : Cx} (hty : TyOk P C.ty) (H : Sim w0 S0 N B S a w) {T : Nat} {i : TInf} {x y : Operand} {loc off T' : Nat} {cells cs : List AV} {ty : TypeId} {pos : String} {aft : Array Edge} {gd : Option (Nat × Bool)} (hi : alook C.ty T = some i) (hc : cellsOf (getO B S y) = some cs) (hx : getO B S x = .ptr loc off) (he : lookE B S loc = some (.box T' cells)) (hl : cs.length = i.sz) (hfit : off + i.sz <= cells.length) (h1 : cs.all AV.one = true) (hB : alook B.e loc = none) :
 OpM P ⟨none, .store T x y, ty, pos, aft, gd⟩ a w (Sim w0 S0 N B ⟨S.t, (loc, .box T' (cells.take off ++ cs ++ cells.drop (off + i.sz))) :: S.e, S.n⟩) := by
 obtain ⟨ρ, ro, H⟩ := H;have hax := H.get x;rw [hx] at hax;obtain ⟨b, hb, hxe⟩ := hax.ptr_;obtain ⟨b', us, hb', hh, hE⟩ := H.en _ _ he;rw [hb] at hb';injection hb' with hb';injection hb' with hb';subst hb';obtain ⟨vs, hv, hE2⟩ := cellsOf_ok hc (H.get y);obtain ⟨j, hj, hjs, _⟩ := tyB_info (hty T i hi);have hvl : vs.length = i.sz := by rw [<- hE2.1]; exact hl
 have hul : us.length = cells.length := hE.1.symm;have hrun := run_store_cells (P := P) (w := w) (T := T) (n := i.sz) (g := b) (off := off) (t := T') (cur := us.toArray) (v := a.eval y) (cs := vs) (by rw [hj]; simp [hjs]) (cells_toList hv) hvl hh (by simp [hul]; exact hfit) (all_one h1 hE2);have hlt := (Array.getElem?_eq_some_iff.1 hh).1;have hln : loc < S.n := by
  rcases Nat.lt_or_ge loc S.n with h | h
  . exact h
  . have := H.fresh loc h; rw [hb] at this; cases this
 have hexec : (execOp a.eval ⟨none, .store T x y, ty, pos, aft, gd⟩).run P w = .ok .skip (w.setRow b (us.toArray.toList.take off ++ vs ++ us.toArray.toList.drop (off + i.sz)).toArray) := by
  unfold execOp;simp only [Instr.storeAt, Instr.sureAddr, hxe, Sem.run_bind, Sem.run_pure, Result.andThen_ok, hrun]
 have hro : ¬ ro b := (H.own loc _ b hb rfl).2.1;have hw : ∀ b', ro b' -> b' < w.heap.size -> (w.setRow b (us.toArray.toList.take off ++ vs ++ us.toArray.toList.drop (off + i.sz)).toArray).heap[b']? = w.heap[b']? := fun b' hb' _ => setRow_other _ _ _ _ (fun e => hro (e ▸ hb'));have H2 := H.upd (w' := w.setRow b (us.toArray.toList.take off ++ vs ++ us.toArray.toList.drop (off + i.sz)).toArray) (loc := loc) (n := S.n) (r := .box b) (e := .box T' (cells.take off ++ cs ++ cells.drop (off + i.sz))) (H.from_.grown (setRow_grown _ _ _) (H.mine hb rfl)) (by rw [setRow_size]; exact Nat.le_refl _) (fun b' hb' hne => setRow_other _ _ _ _ (fun e => hne _ hb (by rw [e]; rfl))) (fun b' hb' => .inl ⟨_, hb, hb'⟩) hB (Nat.le_refl _) hln (.inl (by rw [updR_same hb]; exact Ext.refl _)) (.inl fun b' hb' => by rw [hb] at hb'; cases hb') (by
  refine ⟨b, _, updR_self _ _ _, setRow_heap w b _ _ T' _ hh, ?_⟩;rw [updR_same hb];exact (((hE.take off).append hE2).append (hE.drop (off + i.sz))).mono hw (Ext.refl _) (Nat.le_refl _) fun _ h => h)
 exact .inr (.inl ⟨_, hexec, _, _, H2⟩)
end
end Go.Proofs.YtfdjcakgolenbaaGreat
