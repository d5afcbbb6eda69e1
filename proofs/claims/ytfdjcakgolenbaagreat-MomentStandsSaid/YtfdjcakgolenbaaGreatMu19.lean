/-
  The abstract run of a function's code: what is to be shown of plain data, so that the code does what is said of it.
-/
import Derived.Test.YtfdjcakgolenbaaGreatMu18
set_option linter.unusedVariables false
set_option linter.unusedSimpArgs false
namespace Go.Proofs.YtfdjcakgolenbaaGreat
open Go.RowKit
structure Lp where
 X : Type
 ov : X → List (Nat × AV)
 oe : X → List (Nat × En)
 I : X → Prop
 μ : X → Unit → Nat
 x0 : X
 nx : Option (X → X)
inductive Fm where
 | ff (why : Nat)
 | vc (l : List VC) (A : Fm)
 | br (c : Unit → Bool) (A B : Fm)
 | fin (l : List VC)
 | and (A B : Fm)
 | all (X : Type) (I : X → Prop) (f : X → Fm)
 | ex (X : Type) (I : X → Prop) (f : X → Fm)
 | exl (f : Lp → Fm)
def allVC : List VC → Prop
 | [] => True
 | [c] => c ()
 | c :: l => c () ∧ allVC l
def Fm.P : Fm → Prop
 | .ff _ => False
 | .vc l A => allVC l ∧ A.P
 | .br c A B => (c () = true → A.P) ∧ (c () = false → B.P)
 | .fin l => allVC l
 | .and A B => A.P ∧ B.P
 | .all _ I f => ∀ x, I x → (f x).P
 | .ex _ I f => ∃ x, I x ∧ (f x).P
 | .exl f => ∃ lp, (f lp).P
inductive Kt where
 | code (c : Code)
 | block (id : Nat)
 | back (Bo K : Bs) (f : Bs → Sx → Fm)
 | again (b : Code)
/- what a piece of code writes -/
def modsOps : List Oper → List Nat
 | [] => []
 | o :: l => match o.dst with
  | some d => d :: modsOps l
  | none => modsOps l
def mods : Code → List Nat
 | .region _ ops _ => modsOps ops.toList
 | .seq a b => mods a ++ mods b
 | .cond _ a b => mods a ++ mods b
 | .block _ b => mods b
 | .loop b => mods b
 | .scope b => mods b
 | _ => []
def keyOf : Code → Option Nat
 | .region id _ _ => some id
 | .seq a b => match keyOf a with
  | some k => some k
  | none => keyOf b
 | .cond _ a b => match keyOf a with
  | some k => some k
  | none => keyOf b
 | .block _ b => keyOf b
 | .loop b => keyOf b
 | .scope b => keyOf b
 | _ => none
def ltB (n l : Nat) : Bool := decide (l < n)
/- the places that are named are such as p says -/
mutual
def AV.under (p : Nat → Bool) : AV → Bool
 | .own l => p l
 | .orp _ l _ _ => p l
 | .ptr l _ => p l
 | .mp l => p l
 | .stamp l => p l
 | .it _ l => p l
 | .pto cs _ => AV.underL p cs
 | .agg cs => AV.underL p cs
 | .tup cs => AV.underL p cs
 | .fn _ cs => AV.underL p cs
 | _ => true
def AV.underL (p : Nat → Bool) : List AV → Bool
 | [] => true
 | x :: l => AV.under p x && AV.underL p l
end
def hasAny (x : AV) : List Nat → Bool
 | [] => false
 | l :: ls => AV.has l x || hasAny x ls
def keepT (md locs : List Nat) (n : Nat) : List (Nat × AV) → List (Nat × AV)
 | [] => []
 | (d, x) :: l => if memN d md then keepT md locs n l else (d, if hasAny x locs || !AV.under (ltB n) x then .un else x) :: keepT md locs n l
def unSlots (locs : List Nat) (n : Nat) : List (Nat × AV) → List Nat
 | [] => []
 | (d, x) :: l => match hasAny x locs || !AV.under (ltB n) x with
  | true => d :: unSlots locs n l
  | false => unSlots locs n l
def modsU (b : Code) (locs : List Nat) (n : Nat) (l : List (Nat × AV)) : List Nat := mods b ++ unSlots locs n l
def keepC (locs : List Nat) (n : Nat) : List AV → List AV
 | [] => []
 | x :: l => (if hasAny x locs || !AV.under (ltB n) x then .un else x) :: keepC locs n l
def keepEn (locs : List Nat) (n : Nat) : En → En
 | .box T cs => .box T (keepC locs n cs)
 | .iter ml c seen left => if memN ml locs || decide (n ≤ ml) then .dead else .iter ml c seen left
 | .stamp _ _ _ => .dead
 | e => e
def keepE (locs : List Nat) (n : Nat) : List (Nat × En) → List (Nat × En)
 | [] => []
 | (k, e) :: l => if memN k locs || decide (n ≤ k) then keepE locs n l else (k, keepEn locs n e) :: keepE locs n l
def sameN : List Nat → List Nat → Bool
 | [], [] => true
 | a :: l, b :: m => a == b && sameN l m
 | _, _ => false
def belowT (p : Nat → Bool) : List (Nat × AV) → Bool
 | [] => true
 | (_, x) :: l => AV.under p x && belowT p l
def toT (F : Tc → Type) {t t' : Tc} (h : t = t') (x : F t) : F t' := h ▸ x
/- is what is there as is wanted? -/
def eqInt (a b : Unit → Int) : List VC := [fun _ => a () = b ()]
mutual
def eqAV (fz : Option (List Nat)) (B : Bs) (S : Sx) : AV → AV → Option (List VC)
 | _, .un => some []
 | .int k a, .int k' b => if k = k' then some (eqInt a b) else none
 | .lit k a, .int k' b => if k = k' then some [fun _ => a = b ()] else none
 | .int k a, .lit k' b => if k = k' then some [fun _ => a () = b] else none
 | .lit k a, .lit k' b => if k = k' ∧ a = b then some [] else none
 | .bool a, .bool b => some [fun _ => a () = b ()]
 | .blit a, .bool b => some [fun _ => a = b ()]
 | .bool a, .blit b => some [fun _ => a () = b]
 | .blit a, .blit b => if a = b then some [] else none
 | .str a, .str b => some [fun _ => a () = b ()]
 | .nil, .nil => some []
 | .nil, .sl _ _ l => some [fun _ => l () = []]
 | .nil, .own loc => match fz with
  | none => if decide (S.n ≤ loc) then some [] else none
  | some _ => none
 | .sl fr t l, .sl fr' t' m => if h : t' = t then (if fr || !fr' then some [fun _ => l () = toT (fun t => List t.el) h (m ())] else none) else none
 | .own loc, .sl fr' t' m => match fz with
  | none => none
  | some ks => if memN loc ks then none else match lookE B S loc with
   | some (.row fr t _ l) => if h : t' = t then (if fr || !fr' then some [fun _ => l () = toT (fun t => List t.el) h (m ())] else none) else none
   | _ => none
 | .wide fr t l n, .sl fr' t' m => if h : t' = t then (if fr || !fr' then some [fun _ => (l ()).take (n ()) = toT (fun t => List t.el) h (m ())] else none) else none
 | .wide fr t l n, .wide fr' t' m k => if h : t' = t then (if fr || !fr' then some [fun _ => l () = toT (fun t => List t.el) h (m ()), fun _ => n () = k ()] else none) else none
 | .own loc, .own loc' => if loc = loc' then some [] else none
 | .ptr loc off, .ptr loc' off' => if loc = loc' ∧ off = off' then some [] else none
 | .mp loc, .mp loc' => if loc = loc' then some [] else none
 | .it l l2, .it l' l2' => if l = l' ∧ l2 = l2' then some [] else none
 | .agg l, .agg m => eqAVs fz B S l m
 | .tup l, .tup m => eqAVs fz B S l m
 | .fn f l, .fn g m => if f = g then eqAVs fz B S l m else none
 | _, _ => none
def eqAVs (fz : Option (List Nat)) (B : Bs) (S : Sx) : List AV → List AV → Option (List VC)
 | [], [] => some []
 | x :: l, y :: m => match eqAV fz B S x y, eqAVs fz B S l m with
  | some a, some b => some (a ++ b)
  | _, _ => none
 | _, _ => none
end
def eqTs (B : Bs) (S : Sx) : List (Nat × AV) → Option (List VC)
 | [] => some []
 | (d, y) :: l => match lookT B S d, eqTs B S l with
  | some x, some b => (eqAV none B S x y).map fun a => a ++ b
  | _, _ => none
def eqEs (fz : Option (List Nat)) (B : Bs) (S : Sx) : List (Nat × En) → Option (List VC)
 | [] => some []
 | (k, .box T cs) :: l => match lookE B S k with
  | some (.box T' cs') => if T = T' then (match eqAVs fz B S cs' cs, eqEs fz B S l with
   | some a, some b => some (a ++ b)
   | _, _ => none) else none
  | _ => none
 | (k, .row fr t T m) :: l => match eqEs fz B S l with
  | some b => match lookE B S k with
   | some (.row fr' t' T' m') => if h : t = t' then (if T = T' ∧ (fr' || !fr) = true then some ((fun _ => m' () = toT (fun t => List t.el) h (m ())) :: b) else none) else none
   | some _ => none
   | none => match fz with
    | none => if S.n ≤ k then some ((fun _ => m () = []) :: b) else none
    | some _ => none
  | none => none
 | (k, .map fr ag c t T m) :: l => match eqEs fz B S l with
  | some b => match lookE B S k with
   | some (.map fr' ag' c' t' T' m') => if h : t = t' then (if T = T' ∧ ag = ag' ∧ c = c' ∧ (fr' || !fr) = true then some ((fun _ => m' () = toT (fun t => List Kx → Option t.el) h (m ())) :: b) else none) else none
   | _ => none
  | none => none
 | (k, .iter ml c seen left) :: l => match eqEs fz B S l with
  | some b => match lookE B S k with
   | some (.iter ml' c' seen' left') => if ml = ml' ∧ c = c' then some ((fun _ => seen' () = seen ()) :: (fun _ => left' () = left ()) :: b) else none
   | _ => none
  | none => none
 | (_, .stamp _ _ _) :: _ => none
 | (_, .dead) :: _ => none
def En.under (p : Nat → Bool) : En → Bool
 | .box _ cs => AV.underL p cs
 | .iter ml _ _ _ => p ml
 | .stamp ml _ _ => p ml
 | _ => true
def belowE (p : Nat → Bool) : List (Nat × En) → Bool
 | [] => true
 | (k, e) :: l => p k && En.under p e && belowE p l
def apartK {α β : Type} (l : List (Nat × α)) : List (Nat × β) → Bool
 | [] => true
 | (d, _) :: m => (alook l d).isNone && apartK l m
def eqS (B : Bs) (S : Sx) (ov : List (Nat × AV)) (oe : List (Nat × En)) : Fm :=
 match eqTs B S ov, eqEs none B S oe with
 | some a, some b => .fin (a ++ b)
 | _, _ => .ff 1
inductive Wd where
 | yes | no | ask (d : Nat) (c : Unit → Bool) (b : Bool) | stuck
def wantedAV (B : Bs) (S : Sx) (ops : List Oper) (o : Oper) : Wd :=
 match o.guard with
 | none => .yes
 | some (j, b) => match (ops[j]?).bind (·.dst) with
  | some d => match getT B S d with
   | .blit c => if c = b then .yes else .no
   | .bool c => .ask d c b
   | .tup [] => .no
   | _ => .stuck
  | none => .stuck
def stepOp (C : Cx) (N : Nat) (B : Bs) (S : Sx) (o : Oper) : Option (Sx × List VC) :=
 match pureOp C.ty C.cs (lookE B S) (getO B S) o.op with
 | some (av, vcs) => match o.dst with
  | some d => (putT B S N d av).map fun S' => (S', vcs)
  | none => some (S, vcs)
 | none => match memOp C N B (cond C.fx S (preS B S o.op)) o with
  | some r => some r
  | none => callOp C N B S o
def splitOp (C : Cx) (N : Nat) (B : Bs) (S : Sx) (o : Oper) : Option ((Sx → Fm) → Fm) :=
 match o.op with
 | .range T x => match tiOf C.ty T, getO B S x, o.dst with
  | some (.map _ _ _ _ _), .mp loc, some d => match lookE B S loc with
   | some (.map _ _ c _ _ _) => match (alook B.e S.n).isNone, putT B ⟨S.t, S.e, S.n + 1⟩ N d (.it loc S.n) with
    | true, some S' => some fun K => .all Nat (fun _ => True) fun n => K ⟨S'.t, (S.n, .iter loc c (fun _ => []) fun _ => n) :: S'.e, S'.n⟩
    | _, _ => none
   | _ => none
  | _, _, _ => none
 | .next x false => match getO B S x, o.dst with
  | .it loc l2, some d => match lookE B S loc, lookE B S l2 with
   | some (.map _ _ c _ _ m), some (.iter ml c' seen left) => if ml = loc ∧ c' = c ∧ (alook B.e l2).isNone = true then
    match putT B S N d (.tup [.blit false]), putT B S N d (.tup [.blit true, .un, .un]) with
    | some S1, some S2 => some fun K => .br (fun _ => left () == 0) (.all Unit (fun _ => ∀ key x, fitsL c.ls key = true → m () key = some x → key ∈ seen ()) fun _ => K S1) (.all (List Kx × Nat) (fun p => fitsL c.ls p.1 = true ∧ (m () p.1).isSome = true ∧ p.1 ∉ seen () ∧ p.2 < left ()) fun p => K ⟨S2.t, (l2, .iter loc c (fun _ => p.1 :: seen ()) fun _ => p.2) :: S2.e, S2.n⟩)
    | _, _ => none
    else none
   | _, _ => none
  | _, _ => none
 | _ => none
def skipOp (N : Nat) (B : Bs) (S : Sx) (o : Oper) : Option Sx := match o.dst with
 | some d => putT B S N d (.tup [])
 | none => some S
def goOps (C : Cx) (N : Nat) (B : Bs) (ops : List Oper) : List Oper → Sx → (Sx → Fm) → Fm
 | [], S, k => k S
 | o :: rest, S, k =>
  let go (S : Sx) : Fm := match splitOp C N B S o with
   | some f => f fun S' => goOps C N B ops rest S' k
   | none => match stepOp C N B S o with
    | some (S', []) => goOps C N B ops rest S' k
    | some (S', vcs) => .vc vcs (goOps C N B ops rest S' k)
    | none => .ff (1000 + rest.length)
  let no (S : Sx) : Fm := match skipOp N B S o with
   | some S' => goOps C N B ops rest S' k
   | none => .ff 3
  match wantedAV B S ops o with
  | .yes => go S
  | .no => no S
  | .ask d c b => match putT B S N d (.blit true), putT B S N d (.blit false) with
   | some S1, some S2 => .br c (if b then go S1 else no S1) (if b then no S2 else go S2)
   | _, _ => .ff 4
  | .stuck => .ff 5
def isPure (ef : List Nat) : Op → Bool
 | .alloc _ => false
 | .box _ _ => false
 | .store _ _ _ => false
 | .buildSlice _ _ _ => false
 | .makeSlice _ _ _ => false
 | .makeMap _ _ => false
 | .mapUpdate _ _ _ _ => false
 | .mapEntry _ _ _ => false
 | .entryStore _ _ _ _ => false
 | .insert _ _ _ _ => false
 | .range _ _ => false
 | .next _ _ => false
 | .call c => match c.callee with
  | .builtin .len => true
  | .builtin .min => true
  | .builtin .max => true
  | .builtin _ => false
  | .value (.func f) => !memN f ef
  | _ => true
 | _ => true
def isEntry : Op → Bool
 | .mapEntry _ _ _ => true
 | _ => false
def isReg : Op → Bool
 | .move _ => true
 | .assign _ => true
 | .binOp _ _ _ _ _ => true
 | .unOp _ _ _ => true
 | .convert _ _ _ => true
 | .fieldAddr _ _ _ => true
 | .indexAddr _ _ _ => true
 | .extract _ _ => true
 | _ => false
def isEarly (ef : List Nat) (me : Bool) (op : Op) : Bool := isPure ef op && (!me || isReg op)
def earlyGo (ef : List Nat) (me : Bool) : List Oper → List Bool → List Bool
 | [], acc => acc
 | o :: l, acc => earlyGo ef me l (acc ++ [isEarly ef me o.op && o.after.all fun e => !Region.binds .any e || acc.getD e.on false])
def ancGo (l : List Oper) : Nat → List Nat → List Nat
 | 0, acc => acc
 | j + 1, acc => ancGo l j (match memN j acc with
  | true => (match l[j]? with
   | some o => (o.after.toList.filter fun e => Region.binds .any e).map (fun e => e.on) ++ acc
   | none => acc)
  | false => acc)
def firstNo : Nat → List Bool → Option Nat
 | _, [] => none
 | i, b :: l => if b then firstNo (i + 1) l else some i
def freeB (l : List Oper) (f : List Bool) : Bool := match firstNo 0 f with
 | none => false
 | some j =>
  let an := ancGo l (j + 1) [j]
  (List.range l.length).any fun i => f.getD i false && !memN i an && match l[i]? with
   | some o => !isReg o.op
   | none => false
def modeOf (ef : List Nat) (l : List Oper) : Bool := (l.any fun o => isEntry o.op) || freeB l (earlyGo ef false l [])
def sigma (ef : List Nat) (l : List Oper) : List Nat :=
 let f := earlyGo ef (modeOf ef l) l []
 ((List.range l.length).filter fun i => f.getD i false) ++ (List.range l.length).filter fun i => !f.getD i false
def preLenM (ef : List Nat) (me : Bool) : List Oper → Nat
 | [] => 0
 | o :: l => if isEarly ef me o.op then preLenM ef me l + 1 else 0
def preLen (ef : List Nat) (l : List Oper) : Nat := preLenM ef (modeOf ef l) l
def fzAt : List (Nat × List Nat) → Nat → List Nat
 | [], _ => []
 | (k, l) :: m, id => cond (k == id) l (fzAt m id)
def join (K B : Bs) : Bs := ⟨K.t ++ B.t, K.e ++ B.e⟩
def leave (K : Bs) (S : Sx) : Sx := ⟨S.t ++ K.t, S.e ++ K.e, S.n⟩
def readsC (l : List Oper) (np : Nat) : Bool := (List.range np).all fun i => match l[i]? with
 | some o => (match o.guard with
  | none => true
  | some (j, _) => decide (j < i) && o.after.any fun e => Region.binds .any e && e.on == j) && !isSel o.op && o.op.operands.toList.all fun x => match x with
  | .tmp s => slotB l np i o s
  | _ => true
 | none => false
def posN : List Nat → Nat → Nat
 | [], _ => 0
 | k :: l, j => if k = j then 0 else posN l j + 1
def remapE (σ : List Nat) (e : Edge) : Edge := { e with on := posN σ e.on }
def remapO (σ : List Nat) (o : Oper) : Oper := { o with after := o.after.map (remapE σ), guard := match o.guard with
 | some (g, b) => some (posN σ g, b)
 | none => none }
def dumO : Oper := ⟨none, .move (.const (.bool false)), 0, "", #[], none⟩
def permL (σ : List Nat) (l : List Oper) : List Oper := σ.map fun i => remapO σ (match l[i]? with
 | some o => o
 | none => dumO)
def permB (σ : List Nat) (n : Nat) : Bool := σ.length == n && ((List.range n).all fun j => σ[posN σ j]? == some j) && (List.range n).all fun k => match σ[k]? with
 | some i => decide (i < n) && posN σ i == k
 | none => false
def apartB (l : List Oper) (i : Nat) : Bool := match l[i]? with
 | some oi => (List.range l.length).all fun j => match l[j]? with
  | some oj => i == j || (oi.after.any fun e => Region.binds .any e && e.on == j) || (oj.after.any fun e => Region.binds .any e && e.on == i) || oi.apart l.toArray oj
  | none => true
 | none => true
def orderR (l : List Oper) (np : Nat) (reg : Nat → Bool) : Bool :=
 (List.range l.length).all fun j => match l[j]? with
  | some o => (o.after.all fun e => !Region.binds .any e || decide (e.on < j)) && (decide (j < np) || (List.range np).all fun i => reg i || waits .any l.toArray l.length j i)
  | none => false
def laid (ef : List Nat) (l : List Oper) : List Oper := permL (sigma ef l) l
def regAt (l : List Oper) (np i : Nat) : Bool := decide (i < np) && match l[i]? with
 | some o => isReg o.op
 | none => false
def drawOk (ef : List Nat) (ops : List Oper) (N : Nat) : Bool :=
 let l := laid ef ops
 let np := preLen ef l
 permB (sigma ef ops) ops.length && (orderR l np (regAt l np) && (dstsB l np N && (readsC l np && ((List.range np).all (fun i => !regAt l np i || apartB l i) && l.all fun o => !isSel o.op))))
def drawOkG (ef : List Nat) (σ : List Nat) (np : Nat) (ops : List Oper) (N : Nat) : Bool :=
 let l := permL σ ops
 decide (np ≤ l.length) && ((l.take np).all (fun o => isPure ef o.op) && (permB σ ops.length && (orderR l np (regAt l np) && (dstsB l np N && (readsC l np && ((List.range np).all (fun i => !regAt l np i || apartB l i) && l.all fun o => !isSel o.op))))))
def chainB (l : List Oper) (np : Nat) : Bool := (List.range l.length).all fun j => decide (j ≤ np) || match l[j]? with
 | some o => o.after.any fun e => Region.binds .any e && e.on == j - 1
 | none => false
def readyN (l : List Oper) (done : List Nat) : List Nat := (List.range l.length).filter fun i => match l[i]? with
 | some o => !memN i done && o.after.all fun e => !Region.binds .any e || memN e.on done
 | none => false
def andAll : List Nat → (Nat → Fm) → Fm
 | [], _ => .ff 19
 | [i], f => f i
 | i :: l, f => .and (f i) (andAll l f)
def firstReg (l : List Oper) : List Nat → Option Nat
 | [] => none
 | i :: is => if (match l[i]? with
  | some o => isReg o.op && o.dst.isSome && apartB l i
  | none => false) then some i else firstReg l is
def isStill : Op → Bool
 | .move _ => true
 | .assign _ => true
 | .load _ _ => true
 | .indexAddr _ _ _ => true
 | .unOp _ _ _ => true
 | .fieldAddr _ _ _ => true
 | .extract _ _ => true
 | _ => false
def stillOk (l : List Oper) (done : List Nat) (i : Nat) : Bool := match l[i]? with
 | some oi => isStill oi.op && (oi.dst.isSome && (List.range l.length).all fun j => j == i || (memN j done || (waits .any l.toArray l.toArray.size j i || match l[j]? with
  | some oj => oi.apart l.toArray oj && isStill oj.op
  | none => true)))
 | none => false
def firstStill (l : List Oper) (done : List Nat) : List Nat → Option Nat
 | [] => none
 | i :: is => if stillOk l done i then some i else firstStill l done is
def goLate (C : Cx) (N : Nat) (B : Bs) (l : List Oper) : Nat → List Nat → Sx → (Sx → Fm) → Fm
 | 0, done, S, k => match readyN l done with
  | [] => k S
  | _ => .ff 19
 | fuel + 1, done, S, k =>
  let one (i : Nat) : Fm := match l[i]? with
   | some o => goOps C N B l [o] S fun S' => goLate C N B l fuel (i :: done) S' k
   | none => .ff 19
  match readyN l done with
  | [] => k S
  | [i] => one i
  | is => match firstReg l is with
   | some i => one i
   | none => andAll is one
def goDrawN (C : Cx) (N : Nat) (B : Bs) (l : List Oper) (np : Nat) (S : Sx) (k : Sx → Fm) : Fm :=
 goOps C N B l (l.take np) S fun S' => match chainB l np with
  | true => goOps C N B l (l.drop np) S' k
  | false => goLate C N B l (l.length - np) (List.range np) S' k
def goDraw (C : Cx) (N : Nat) (B : Bs) (l : List Oper) (S : Sx) (k : Sx → Fm) : Fm := goDrawN C N B l (preLen (efs C.fs) l) S k
def goSch (C : Cx) (N : Nat) (B : Bs) (ops : List Oper) : Sch → Sx → (Sx → Fm) → Fm
 | .nil, S, k => k S
 | .bad, _, _ => .ff 20
 | .op i r, S, k => match ops[i]? with
  | some o => goOps C N B ops [o] S fun S' => goSch C N B ops r S' k
  | none => .ff 21
 | .alt a b, S, k => .and (goSch C N B ops a S k) (goSch C N B ops b S k)
def schAt : List (Nat × Sch) → Nat → Option Sch
 | [], _ => none
 | (k, s) :: m, id => cond (k == id) (some s) (schAt m id)
def latAt : List (Nat × Lat) → Nat → Option Lat
 | [], _ => none
 | (k, s) :: m, id => cond (k == id) (some s) (latAt m id)
def schList : List Nat → Sch → Sch
 | [], r => r
 | i :: is, r => .op i (schList is r)
def uniqE (ks : List Nat) : List (Nat × En) → List (Nat × En)
 | [] => []
 | (k, e) :: l => match memN k ks, e with
  | true, _ => uniqE ks l
  | false, .stamp _ _ _ => uniqE (k :: ks) l
  | false, .dead => uniqE (k :: ks) l
  | false, e => (k, e) :: uniqE (k :: ks) l
def detOp (C : Cx) (N : Nat) (B : Bs) (ops : List Oper) (o : Oper) (S : Sx) : Option Sx := match wantedAV B S ops o with
 | .yes => match splitOp C N B S o with
  | some _ => none
  | none => match stepOp C N B S o with
   | some (S', _) => some S'
   | none => none
 | .no => skipOp N B S o
 | _ => none
def ndPick (ks : List Nat) (S : Sx) : Sx := ⟨pickT ks S.t, uniqE [] S.e, S.n⟩
def latSt (C : Cx) (N : Nat) (B : Bs) (ops : List Oper) : List Nd → List (Sx × List Nat) → Option (List (Sx × List Nat))
 | [], acc => some acc
 | nd :: nds, acc => match acc[nd.up.1]?, ops[nd.up.2]? with
  | some p, some o => match detOp C N B ops o p.1 with
   | some S' => latSt C N B ops nds (acc ++ [(ndPick nd.ks S', p.2 ++ List.replicate (S'.n - p.1.n) nd.up.2)])
   | none => none
  | _, _ => none
def cntN (x : Nat) : List Nat → Nat
 | [] => 0
 | y :: l => cond (y == x) (cntN x l + 1) (cntN x l)
def nthN (x : Nat) : Nat → List Nat → Nat
 | _, [] => 0
 | k, y :: l => match y == x, k with
  | true, 0 => 0
  | true, k + 1 => nthN x k l + 1
  | false, k => nthN x k l + 1
def renOf (b : List Nat) : List Nat → List Nat → List Nat
 | _, [] => []
 | seen, x :: l => nthN x (cntN x seen) b :: renOf b (x :: seen) l
def gO (n0 : Nat) (σ : List Nat) (l : Nat) : Nat := match decide (l < n0) with
 | true => l
 | false => match σ[l - n0]? with
  | some k => n0 + k
  | none => l
def renT (g : Nat → Nat) : List (Nat × AV) → List (Nat × AV)
 | [] => []
 | (k, x) :: l => (k, AV.ren g x) :: renT g l
def toF (B : Bs) (n0 : Nat) (own : List Nat) (T : Sx × List Nat) (S' : Sx) : Fm := match S'.n == T.1.n with
 | true => match sameN (renOf T.2 [] own) (List.range own.length) with
  | true => eqS B S' T.1.t T.1.e
  | false => match permB (renOf T.2 [] own) own.length && decide (n0 + own.length ≤ S'.n) with
   | true => eqS B ⟨renT (gO n0 (renOf T.2 [] own)) S'.t, renE (gO n0 (renOf T.2 [] own)) S'.e, S'.n⟩ T.1.t T.1.e
   | false => .ff 26
 | false => .ff 27
def isUp (nds : List Nd) (t j oi : Nat) : Bool := match nds[t]? with
 | some nd => nd.up.1 == j && (nd.up.2 == oi && !(t == 0))
 | none => false
def edF (C : Cx) (N : Nat) (B : Bs) (ops : List Oper) (n0 : Nat) (nds : List Nd) (sts : List (Sx × List Nat)) (j : Nat) (Sj : Sx × List Nat) : List (Nat × Nat × Nat) → Fm → Fm
 | [], A => A
 | (_, oi, t) :: es, A => match ops[oi]?, sts[t]? with
  | some o, some T => .and (match isUp nds t j oi with
   | true => goOps C N B ops [o] Sj.1 fun _ => .fin []
   | false => goOps C N B ops [o] Sj.1 fun S' => toF B n0 (Sj.2 ++ List.replicate (S'.n - Sj.1.n) oi) T S') (edF C N B ops n0 nds sts j Sj es A)
  | _, _ => .ff 28
def okN (B : Bs) (S : Sx) : Bool := belowT (ltB S.n) S.t && (belowE (ltB S.n) S.e && (apartK B.t S.t && apartK B.e S.e))
def ndF (C : Cx) (N : Nat) (B : Bs) (ops : List Oper) (n0 : Nat) (nds : List Nd) (sts : List (Sx × List Nat)) (k : Sx → Fm) : Nat → List Nd → Fm
 | _, [] => .ff 29
 | j, nd :: r => match sts[j]? with
  | some Sj => match okN B Sj.1 with
   | true => match nd.ed with
    | [] => k Sj.1
    | es => edF C N B ops n0 nds sts j Sj es (ndF C N B ops n0 nds sts k (j + 1) r)
   | false => .ff 24
  | none => .ff 30
def latF (C : Cx) (N : Nat) (B : Bs) (ops : List Oper) (nds : List Nd) (S : Sx) (k : Sx → Fm) : Fm := match nds with
 | [] => k S
 | nd :: r => match decide (C.nb ≤ S.n) && (belowT (ltB S.n) B.t && belowE (ltB S.n) B.e) with
  | true => match latSt C N B ops r [(ndPick nd.ks S, [])] with
   | some sts => ndF C N B ops S.n (nd :: r) sts k 0 (nd :: r)
   | none => .ff 22
  | false => .ff 25
def goReg (C : Cx) (N : Nat) (B : Bs) (id : Nat) (ops : List Oper) (S : Sx) (k : Sx → Fm) : Fm := match latAt C.lt id with
 | some t => goSch C N B ops (schList t.row .nil) S fun S' => goSch C N B ops (schList t.pre .nil) S' fun S' => latF C N B ops t.nds S' k
 | none => match schAt C.sc id with
  | some s => goSch C N B ops s S k
  | none => goDraw C N B (laid (efs C.fs) ops) S k
def detRow (C : Cx) (N : Nat) (B : Bs) (ops : List Oper) : List Oper → Sx → Option Sx
 | [], S => some S
 | o :: l, S => match wantedAV B S ops o with
  | .yes => match stepOp C N B S o with
   | some (S', _) => detRow C N B ops l S'
   | none => none
  | .no => match skipOp N B S o with
   | some S' => detRow C N B ops l S'
   | none => none
  | _ => none
def joinF (C : Cx) (N : Nat) (B : Bs) (l : List Oper) (ks : List Nat) (S : Sx) (go : (Sx → Fm) → Fm) (k : Sx → Fm) : Fm := match detRow C N B l l S with
 | none => .ff 22
 | some S1 => match belowT (ltB S1.n) (pickT ks S1.t) && (belowE (ltB S1.n) (uniqE [] S1.e) && (apartK B.t (pickT ks S1.t) && apartK B.e (uniqE [] S1.e))) with
  | true => .and (go fun S' => if S'.n = S1.n then eqS B S' (pickT ks S1.t) (uniqE [] S1.e) else .ff 23) (k ⟨pickT ks S1.t, uniqE [] S1.e, S1.n⟩)
  | false => .ff 24
structure Fx where
 C : Cx
 N : Nat
 Ls : List (Nat × Lp)
 R : Bs → Sx → Fm
def lookL : List (Nat × Lp) → Nat → Option Lp
 | [], _ => none
 | (k, v) :: l, d => if k == d then some v else lookL l d
mutual
def run (F : Fx) (fuel : Nat) (c : Code) (B : Bs) (S : Sx) (K : List Kt) : Fm :=
 match fuel with
 | 0 => .ff 6
 | fuel + 1 => match c with
  | .skip => cont F fuel B S K
  | .label _ => cont F fuel B S K
  | .region id ops draw => match draw with
   | true => match kpAt F.C.jn id with
    | some ks => joinF F.C F.N B (laid (efs F.C.fs) ops.toList) ks (pickS F.C id (cond F.C.fx S (frzAll B (fzAt F.C.fz id) S))) (goReg F.C F.N B id ops.toList (pickS F.C id (cond F.C.fx S (frzAll B (fzAt F.C.fz id) S)))) fun S' => cont F fuel B S' K
    | none => goReg F.C F.N B id ops.toList (pickS F.C id (cond F.C.fx S (frzAll B (fzAt F.C.fz id) S))) fun S' => cont F fuel B S' K
   | false => goOps F.C F.N B ops.toList ops.toList (pickS F.C id (cond F.C.fx S (frzAll B (fzAt F.C.fz id) S))) fun S' => cont F fuel B S' K
  | .seq a b => run F fuel a B S (.code b :: K)
  | .cond x a b => match getO B S x with
   | .blit true => run F fuel a B S K
   | .blit false => run F fuel b B S K
   | .bool t => .br t (run F fuel a B S K) (run F fuel b B S K)
   | _ => .ff 8
  | .block id b => run F fuel b B S (.block id :: K)
  | .loop b => match keyOf b with
   | some k =>
    let go (lp : Lp) : Fm :=
     let locs := keysOf (lp.oe lp.x0)
     let n := maxK S.n locs
     let K' : Bs := ⟨keepT (modsU b locs n S.t) locs n S.t, keepE locs n S.e⟩
     let B' := join K' B
     .and (.vc [fun _ => lp.I lp.x0] (eqS B S (lp.ov lp.x0) (lp.oe lp.x0))) (.all lp.X lp.I fun x =>
      if sameN (keysOf (lp.oe x)) locs && belowT (ltB n) (lp.ov x) && belowE (ltB n) (lp.oe x) && apartK B'.t (lp.ov x) && apartK B'.e (lp.oe x) then
      run F fuel b B' ⟨lp.ov x, lp.oe x, n⟩ (.back B K' (fun Bi S' => if n ≤ S'.n then (match lp.nx with
       | some nx => .vc [fun _ => lp.I (nx x) ∧ lp.μ (nx x) () < lp.μ x ()] (eqS Bi S' (lp.ov (nx x)) (lp.oe (nx x)))
       | none => .ex lp.X (fun y => lp.I y ∧ lp.μ y () < lp.μ x ()) fun y => eqS Bi S' (lp.ov y) (lp.oe y)) else .ff 17) :: K)
      else .ff 15)
    match memN k F.C.ul with
    | true => run F fuel b B S (.again b :: K)
    | false => match lookL F.Ls k with
     | some lp => go lp
     | none => .exl go
   | none => .ff 9
  | .exit id => exitTo F fuel id B S K
  | .ret => leaveAll F fuel B S K
  | _ => .ff 10
def cont (F : Fx) (fuel : Nat) (B : Bs) (S : Sx) (K : List Kt) : Fm :=
 match fuel with
 | 0 => .ff 6
 | fuel + 1 => match K with
  | [] => F.R B S
  | .code c :: K => run F fuel c B S K
  | .block _ :: K => cont F fuel B S K
  | .back _ _ f :: _ => f B S
  | .again b :: K => run F fuel (.loop b) B S K
def exitTo (F : Fx) (fuel : Nat) (id : Nat) (B : Bs) (S : Sx) (K : List Kt) : Fm :=
 match fuel with
 | 0 => .ff 6
 | fuel + 1 => match K with
  | [] => .ff 11
  | .code _ :: K => exitTo F fuel id B S K
  | .block id' :: K => if id' = id then cont F fuel B S K else exitTo F fuel id B S K
  | .back Bo K' _ :: K => exitTo F fuel id Bo (leave K' S) K
  | .again _ :: K => exitTo F fuel id B S K
def leaveAll (F : Fx) (fuel : Nat) (B : Bs) (S : Sx) (K : List Kt) : Fm :=
 match fuel with
 | 0 => .ff 6
 | fuel + 1 => match K with
  | [] => F.R B S
  | .code _ :: K => leaveAll F fuel B S K
  | .block _ :: K => leaveAll F fuel B S K
  | .back Bo K' _ :: K => leaveAll F fuel Bo (leave K' S) K
  | .again _ :: K => leaveAll F fuel B S K
end
def resAV (C : Cx) (B : Bs) (S : Sx) : List ResultVar → Option (List AV)
 | [] => some []
 | .tmp t :: l => (resAV C B S l).map fun r => getT B S t :: r
 | .cell p T :: l => match alook C.ty T with
  | some i => match loadAV (lookE B S) i.ti.agg i.sz (getT B S p), resAV C B S l with
   | some x, some r => some (x :: r)
   | _, _ => none
  | none => none
def tupOf : List AV → AV
 | [x] => x
 | l => .tup l
def retF (C : Cx) (rs : List ResultVar) (want : AV) (es : List (Nat × En)) (B : Bs) (S : Sx) : Fm :=
 match resAV C B S rs with
 | some l => match eqAV (some (keysOf es)) B S (tupOf l) want, eqEs (some (keysOf es)) B S es with
  | some a, some b => .fin (a ++ b)
  | _, _ => .ff 13
 | none => .ff 14
def zipT : Nat → List AV → List (Nat × AV)
 | _, [] => []
 | k, x :: l => (k, x) :: zipT (k + 1) l
def bodyOf (f : Func) : Code := f.body.getD .skip
/- nothing in it is called new -/
mutual
def AV.noFr : AV → Bool
 | .sl fr _ _ => !fr
 | .wide fr _ _ _ => !fr
 | .pto cs _ => AV.noFrL cs
 | .agg cs => AV.noFrL cs
 | .tup cs => AV.noFrL cs
 | .fn _ cs => AV.noFrL cs
 | _ => true
def AV.noFrL : List AV → Bool
 | [] => true
 | x :: l => AV.noFr x && AV.noFrL l
end
def En.noFr : En → Bool
 | .box _ cs => AV.noFrL cs
 | .row fr _ _ _ => !fr
 | .map fr _ _ _ _ _ => !fr
 | _ => true
def noFrE : List (Nat × En) → Bool
 | [] => true
 | (_, e) :: l => En.noFr e && noFrE l
def inK (ks : List Nat) (l : Nat) : Bool := memN l ks
def fnG (C : Cx) (Ls : List (Nat × Lp)) (fn : Func) (args : List AV) (es0 : List (Nat × En)) (n0 : Nat) (want : AV) (es : List (Nat × En)) : Fm :=
 if decide (n0 ≤ C.nb) && decide (args.length ≤ fn.ntmps) && AV.noFrL args && noFrE es0 && AV.under (inK (keysOf es)) want && belowE (inK (keysOf es)) es && allK (keysOf es) n0 then
 run ⟨C, fn.ntmps, Ls, retF C fn.results.toList want es⟩ 100000 (bodyOf fn) ⟨[], []⟩ ⟨zipT 0 args, es0, n0⟩ [] else .ff 18
def fnF (C : Cx) (Ls : List (Nat × Lp)) (fn : Func) (args : List AV) (want : AV) : Fm := fnG C Ls fn args [] 0 want []
end Go.Proofs.YtfdjcakgolenbaaGreat
