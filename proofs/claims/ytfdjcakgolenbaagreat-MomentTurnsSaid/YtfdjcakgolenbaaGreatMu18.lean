/-
  The abstract run: operations that make a place, write one, or let one grow; they are sound.
-/
import Derived.Test.YtfdjcakgolenbaaGreatMu17
set_option linter.unusedVariables false
set_option linter.unusedSimpArgs false
namespace Go.Proofs.YtfdjcakgolenbaaGreat
open Go.RowKit
-- CELLS
def sgOf : Tc → List Sg
 | .int => [.int .i64]
 | .u8 => [.int .u8]
 | .u32 => [.int .u32]
 | .box => [.int .i64, .str, .int .u8, .bool, .int .i64, .int .i64, .int .i64, .int .u8, .bool]
 | .stowed => [.int .i64, .int .i64, .int .i64, .int .u8]
 | .slot => [.int .i64, .int .i64, .int .u8]
 | .ld => [.int .i64, .int .i64, .int .i64, .int .i64]
 | .spn => [.int .i64, .int .i64, .int .i64]
 | .col => [.int .i64, .int .i64, .bool, .int .i64, .int .i64, .int .i64, .int .i64, .int .i64, .sl .int, .int .i64, .int .i64, .int .i64]
 | .cov => [.int .i64, .sl .int]
 | .mid => [.int .i64, .str, .int .u8, .bool, .int .i64, .int .i64, .int .i64, .int .u8, .bool, .int .i64, .int .i64, .int .i64]
 | .hrow => [.int .i64, .int .i64, .int .i64, .int .i64, .int .i64]
 | .frm => [.int .i64, .int .i64, .int .i64, .int .i64, .int .i64]
 | .tnk => [.int .i64, .int .i64, .int .i64, .int .i64, .int .i64, .sl .int]
 | .colq => [.int .i64, .int .i64, .bool, .int .i64, .int .i64, .int .i64, .int .i64, .int .i64, .wide .int, .int .i64, .int .i64, .int .i64]
 | .covq => [.int .i64, .wide .int]
 | .tnkq => [.int .i64, .int .i64, .int .i64, .int .i64, .int .i64, .wide .int]
 | .plc => [.int .u8, .int .u8, .int .u8, .bool]
 | .drp => [.int .u8, .int .u8, .bool, .bool]
 | .wgt => [.int .u16, .int .i16, .int .i16, .int .i16]
def mkEl : (t : Tc) → List AV → Option (Unit → t.el)
 | .int, [.int .i64 a0] => some fun _ => a0 ()
 | .u8, [.int .u8 a0] => some fun _ => a0 ()
 | .u32, [.int .u32 a0] => some fun _ => a0 ()
 | .box, [.int .i64 a0, .str a1, .int .u8 a2, .bool a3, .int .i64 a4, .int .i64 a5, .int .i64 a6, .int .u8 a7, .bool a8] => some fun _ => ⟨a0 (), a1 (), a2 (), a3 (), a4 (), a5 (), a6 (), a7 (), a8 ()⟩
 | .stowed, [.int .i64 a0, .int .i64 a1, .int .i64 a2, .int .u8 a3] => some fun _ => ⟨a0 (), a1 (), a2 (), a3 ()⟩
 | .slot, [.int .i64 a0, .int .i64 a1, .int .u8 a2] => some fun _ => ⟨a0 (), a1 (), a2 ()⟩
 | .ld, [.int .i64 a0, .int .i64 a1, .int .i64 a2, .int .i64 a3] => some fun _ => ⟨a0 (), a1 (), a2 (), a3 ()⟩
 | .spn, [.int .i64 a0, .int .i64 a1, .int .i64 a2] => some fun _ => ⟨a0 (), a1 (), a2 ()⟩
 | .col, [.int .i64 a0, .int .i64 a1, .bool a2, .int .i64 a3, .int .i64 a4, .int .i64 a5, .int .i64 a6, .int .i64 a7, .sl _ .int a8, .int .i64 a9, .int .i64 a10, .int .i64 a11] => some fun _ => ⟨a0 (), a1 (), a2 (), a3 (), a4 (), a5 (), a6 (), a7 (), a8 (), a9 (), a10 (), a11 ()⟩
 | .cov, [.int .i64 a0, .sl _ .int a1] => some fun _ => ⟨a0 (), a1 ()⟩
 | .mid, [.int .i64 a0, .str a1, .int .u8 a2, .bool a3, .int .i64 a4, .int .i64 a5, .int .i64 a6, .int .u8 a7, .bool a8, .int .i64 a9, .int .i64 a10, .int .i64 a11] => some fun _ => ⟨⟨a0 (), a1 (), a2 (), a3 (), a4 (), a5 (), a6 (), a7 (), a8 ()⟩, a9 (), a10 (), a11 ()⟩
 | .hrow, [.int .i64 a0, .int .i64 a1, .int .i64 a2, .int .i64 a3, .int .i64 a4] => some fun _ => ⟨a0 (), a1 (), a2 (), a3 (), a4 ()⟩
 | .frm, [.int .i64 a0, .int .i64 a1, .int .i64 a2, .int .i64 a3, .int .i64 a4] => some fun _ => ⟨a0 (), a1 (), a2 (), a3 (), a4 ()⟩
 | .tnk, [.int .i64 a0, .int .i64 a1, .int .i64 a2, .int .i64 a3, .int .i64 a4, .sl _ .int a5] => some fun _ => ⟨a0 (), a1 (), a2 (), a3 (), a4 (), a5 ()⟩
 | .colq, [.int .i64 a0, .int .i64 a1, .bool a2, .int .i64 a3, .int .i64 a4, .int .i64 a5, .int .i64 a6, .int .i64 a7, .wide _ .int a8 a8N, .int .i64 a9, .int .i64 a10, .int .i64 a11] => some fun _ => ⟨a0 (), a1 (), a2 (), a3 (), a4 (), a5 (), a6 (), a7 (), a8 (), a8N (), a9 (), a10 (), a11 ()⟩
 | .covq, [.int .i64 a0, .wide _ .int a1 a1N] => some fun _ => ⟨a0 (), a1 (), a1N ()⟩
 | .tnkq, [.int .i64 a0, .int .i64 a1, .int .i64 a2, .int .i64 a3, .int .i64 a4, .wide _ .int a5 a5N] => some fun _ => ⟨a0 (), a1 (), a2 (), a3 (), a4 (), a5 (), a5N ()⟩
 | .plc, [.int .u8 a0, .int .u8 a1, .int .u8 a2, .bool a3] => some fun _ => ⟨a0 (), a1 (), a2 (), a3 ()⟩
 | .drp, [.int .u8 a0, .int .u8 a1, .bool a2, .bool a3] => some fun _ => ⟨a0 (), a1 (), a2 (), a3 ()⟩
 | .wgt, [.int .u16 a0, .int .i16 a1, .int .i16 a2, .int .i16 a3] => some fun _ => ⟨a0 (), a1 (), a2 (), a3 ()⟩
 | _, _ => none
theorem mkEl_cells {t : Tc} {l : List AV} {x : Unit → t.el} (h : mkEl t l = some x) : cellsAV false t x = l.map AV.loose ∧ (AV.plainL true l = true → cellsAV true t x = l) := by
 unfold mkEl at h
 split at h <;> first | (cases h; done) | (injection h with h; subst h; refine ⟨rfl, fun hp => ?_⟩; simp only [AV.plainL, AV.plain, Bool.not_true, Bool.and_true, Bool.true_and, Bool.or_false] at hp; first | rfl | (subst hp; rfl) | simp_all)
-- END CELLS
def norm : Sg → AV → Option AV
 | .int k, .int k' n => if k = k' then some (.int k' n) else none
 | .int k, .lit k' n => if k = k' then some (.int k' fun _ => n) else none
 | .bool, .bool b => some (.bool b)
 | .bool, .blit b => some (.bool fun _ => b)
 | .str, .str s => some (.str s)
 | .sl t, .sl fr t' l => if t = t' then some (.sl fr t' l) else none
 | .sl t, .nil => some (.sl true t fun _ => [])
 | .sl t, .wide fr t' l n => if t = t' then some (.sl fr t' fun _ => (l ()).take (n ())) else none
 | .wide t, .wide fr t' l n => if t = t' then some (.wide fr t' l n) else none
 | .wide t, .sl fr t' l => if t = t' then some (.wide fr t' l fun _ => (l ()).length) else none
 | .wide t, .nil => some (.wide true t (fun _ => []) fun _ => 0)
 | _, _ => none
def normL : List Sg → List AV → Option (List AV)
 | [], [] => some []
 | s :: ss, x :: xs => match norm s x, normL ss xs with
  | some y, some ys => some (y :: ys)
  | _, _ => none
 | _, _ => none
def cellsOf : AV → Option (List AV)
 | .agg cs => some cs
 | .un => none
 | .tup _ => none
 | x => some [x]
def AV.one : AV → Bool
 | .un => false
 | .agg _ => false
 | .tup _ => false
 | _ => true
def memN (d : Nat) : List Nat → Bool
 | [] => false
 | k :: l => k == d || memN d l
def keysOf {α : Type} : List (Nat × α) → List Nat
 | [] => []
 | (k, _) :: l => k :: keysOf l
def maxK (n : Nat) : List Nat → Nat
 | [] => n
 | k :: l => if k < n then maxK n l else maxK (k + 1) l
def allK (ks : List Nat) : Nat → Bool
 | 0 => true
 | n + 1 => memN n ks && allK ks n
structure Left (w w' : World) (ρ ρ1 : Nat → Option Rl) (ra ra1 : Nat → Prop) (es : List (Nat × En)) (fx : Bool) : Prop where
 from_ : FromG ρ w w'
 en : ∀ l e, alook es l = some e → EnR w' ρ1 w.heap.size ra1 l e
 apart : ∀ l l' r r' b, l ≠ l' → ρ1 l = some r → ρ1 l' = some r' → r.blk = some b → r'.blk ≠ some b
 fresh : ∀ l, memN l (keysOf es) = false → ρ1 l = none
 own : ∀ l r b, ρ1 l = some r → r.blk = some b → b < w'.heap.size ∧ ¬ ra1 b ∧ (w.heap.size ≤ b ∨ ∃ r0, ρ l = some r0 ∧ r0.blk = some b)
 rd : ∀ b, ra1 b → b < w'.heap.size ∧ (b < w.heap.size → ra b)
 solid : ∀ l r, ρ l = some r → (r.solid || fx) = true → ρ1 l = some r
structure Rez where
 pre : Unit → Prop
 av : AV
 es : List (Nat × En)
structure Fon where
 f : FuncId
 sig : List Sg
 n : Nat
 go : List AV → List (Nat × En) → Option Rez
 fix : Bool := false
def FonOk (P : Program) (c : Fon) : Prop :=
 (∀ args w, (callFunc c.f args).run P w = .ok (.enter c.f args) w) ∧
 ∀ avs es res, c.go avs es = some res → ∀ (w : World) (ρ : Nat → Option Rl) (ra : Nat → Prop) (vals : List Value), (∀ b, ra b → b < w.heap.size) → Each w ρ 0 ra avs vals → (∀ l e, alook es l = some e → EnR w ρ 0 ra l e) →
  (∀ l l' r r' b, l ≠ l' → ρ l = some r → ρ l' = some r' → r.blk = some b → r'.blk ≠ some b) → (∀ l, c.n ≤ l → ρ l = none) → (∀ l r b, ρ l = some r → r.blk = some b → b < w.heap.size ∧ ¬ ra b) → res.pre () →
  Calls P c.f vals.toArray w fun e w' => ∃ v ρ1 ra1, e = .returned v ∧ Left w w' ρ ρ1 ra ra1 res.es c.fix ∧ AVR w' ρ1 w.heap.size ra1 res.av v
def findFon : List Fon → FuncId → Option Fon
 | [], _ => none
 | c :: cs, f => if c.f == f then some c else findFon cs f
def efs : List Fon → List Nat
 | [] => []
 | c :: cs => c.f :: efs cs
inductive Sch where
 | nil
 | bad
 | op (i : Nat) (r : Sch)
 | alt (a b : Sch)
deriving DecidableEq
structure Nd where
 dn : List Nat
 ks : List Nat
 up : Nat × Nat
 ed : List (Nat × Nat × Nat)
structure Lat where
 sg : List Nat
 row : List Nat
 pre : List Nat
 nds : List Nd
structure Cx where
 ty : Tab
 cs : List Con
 tc : List (Nat × Tc)
 fs : List Fon
 fz : List (Nat × List Nat) := []
 fx : Bool := false
 kp : List (Nat × List Nat) := []
 sc : List (Nat × Sch) := []
 ul : List Nat := []
 jn : List (Nat × List Nat) := []
 lt : List (Nat × Lat) := []
 nb : Nat := 0
/- the arguments, the places numbered anew -/
structure Pst where
 locs : List Nat
 es : List (Nat × En)
mutual
def coerceP (ge : Nat → Option En) : Sg → AV → Pst → Option (AV × Pst)
 | .any, _, st => some (.un, st)
 | .ownr t, .own loc, st => match ge loc with
  | some (.row _ t' T l) => if t = t' ∧ memN loc st.locs = false then some (.own st.locs.length, ⟨st.locs ++ [loc], (st.locs.length, .row false t' T l) :: st.es⟩) else none
  | _ => none
 | .mapp c t, .mp loc, st => match ge loc with
  | some (.map _ ag c' t' T m) => if c = c' ∧ t = t' ∧ memN loc st.locs = false then some (.mp st.locs.length, ⟨st.locs ++ [loc], (st.locs.length, .map false ag c' t' T m) :: st.es⟩) else none
  | _ => none
 | .boxp l, .ptr loc 0, st => match ge loc with
  | some (.box T cells) => if memN loc st.locs then none else match coercePs ge l cells ⟨st.locs ++ [loc], st.es⟩ with
   | some (ys, st') => some (.ptr st.locs.length 0, ⟨st'.locs, (st.locs.length, .box T ys) :: st'.es⟩)
   | none => none
  | _ => none
 | s, x, st => if AV.plain false x then (coerce ge s x).map fun y => (y, st) else none
def coercePs (ge : Nat → Option En) : List Sg → List AV → Pst → Option (List AV × Pst)
 | [], [], st => some ([], st)
 | s :: ss, x :: xs, st => match coerceP ge s x st with
  | some (y, st1) => match coercePs ge ss xs st1 with
   | some (ys, st2) => some (y :: ys, st2)
   | none => none
  | none => none
 | _, _, _ => none
end
/- places are named anew -/
mutual
def AV.ren (g : Nat → Nat) : AV → AV
 | .own l => .own (g l)
 | .orp t l k off => .orp t (g l) k off
 | .ptr l off => .ptr (g l) off
 | .mp l => .mp (g l)
 | .stamp l => .stamp (g l)
 | .it l l2 => .it (g l) (g l2)
 | .pto cs off => .pto (AV.renL g cs) off
 | .agg cs => .agg (AV.renL g cs)
 | .tup cs => .tup (AV.renL g cs)
 | .fn f cs => .fn f (AV.renL g cs)
 | x => x
def AV.renL (g : Nat → Nat) : List AV → List AV
 | [] => []
 | x :: l => AV.ren g x :: AV.renL g l
end
def En.ren (g : Nat → Nat) : En → En
 | .box T cs => .box T (AV.renL g cs)
 | .iter ml c seen left => .iter (g ml) c seen left
 | .stamp ml c key => .stamp (g ml) c key
 | e => e
def renE (g : Nat → Nat) : List (Nat × En) → List (Nat × En)
 | [] => []
 | (k, e) :: l => (g k, En.ren g e) :: renE g l
def renN (locs : List Nat) (n k : Nat) : Nat := match locs[k]? with
 | some l => l
 | none => n + (k - locs.length)
def killAll : List Nat → Sx → Sx
 | [], S => S
 | l :: ls, S => killAll ls ⟨(kill l S).t, dropRef l (kill l S).e, S.n⟩
def dropAll : List Nat → Sx → Sx
 | [], S => S
 | l :: ls, S => dropAll ls ⟨S.t, dropRef l S.e, S.n⟩
def forget (fx : Bool) (ls : List Nat) (S : Sx) : Sx := cond fx (dropAll ls S) (killAll ls S)
def freeAll (B : Bs) : List Nat → Bool
 | [] => true
 | l :: ls => (alook B.e l).isNone && quiet l B && noRef l B.e && freeAll B ls
def newFree (B : Bs) (g : Nat → Nat) (n : Nat) : List Nat → Bool
 | [] => true
 | k :: ks => (decide (k < n) || (alook B.e (g k)).isNone) && newFree B g n ks
def elOf (t : Tc) (x : AV) : Option (Bool × (Unit → t.el)) :=
 match cellsOf x with
 | some cs => match normL (sgOf t) cs with
  | some ys => (mkEl t ys).map fun e => (AV.plainL true ys, e)
  | none => none
 | none => none
def elsOf (t : Tc) : List AV → Option (Bool × List (Unit → t.el))
 | [] => some (true, [])
 | x :: l => match elOf t x, elsOf t l with
  | some (f, e), some (g, es) => some (f && g, e :: es)
  | _, _ => none
def inOrder : Nat → List (Nat × AV) → Option (List AV)
 | _, [] => some []
 | k, (i, x) :: l => if i == k then (inOrder (k + 1) l).map fun r => x :: r else none
def newsOf (B : Bs) (S : Sx) (t : Tc) : AV → Option (Bool × (Unit → List t.el))
 | .nil => some (true, fun _ => [])
 | .sl fr t' l => if h : t' = t then some (fr, h ▸ l) else none
 | .wide fr t' l n => if h : t' = t then some (fr, fun _ => (h ▸ l ()).take (n ())) else none
 | .own loc => match lookE B S loc with
  | some (.row fr t' _ l) => if h : t' = t then some (fr, h ▸ l) else none
  | _ => none
 | _ => none
def setM {α : Type} (m : List Kx → Option α) (k : List Kx) (x : α) : List Kx → Option α := fun k' => if k' = k then some x else m k'
def agOk (ag : Bool) : AV → Bool
 | .agg _ => ag
 | _ => !ag
def elOfA (ag : Bool) (t : Tc) (x : AV) : Option (Bool × (Unit → t.el)) :=
 if (ag || t.size == 1) && agOk ag x then elOf t x else none
def appendVC (n m : Unit → Nat) (b : Nat) : List VC := [fun _ => (n () + m ()) * b ≤ 140737488355328]
def memOp (C : Cx) (N : Nat) (B : Bs) (S : Sx) (o : Oper) : Option (Sx × List VC) :=
 match o.op with
 | .alloc T => match alook C.ty T, o.dst with
  | some i, some d => if i.z.isEmpty || (alook B.e S.n).isSome then none else (putT B ⟨S.t, (S.n, .box T i.z) :: S.e, S.n + 1⟩ N d (.ptr S.n 0)).map fun S' => (S', [])
  | _, _ => none
 | .box T x => match cellsOf (getO B S x), o.dst with
  | some cs, some d => if (alook B.e S.n).isSome then none else (putT B ⟨S.t, (S.n, .box T cs) :: S.e, S.n + 1⟩ N d (.ptr S.n 0)).map fun S' => (S', [])
  | _, _ => none
 | .store T ad x => match alook C.ty T, cellsOf (getO B S x), getO B S ad, o.dst with
  | some i, some cs, .ptr loc off, none => match lookE B S loc with
   | some (.box T' cells) => if cs.length == i.sz && decide (off + i.sz ≤ cells.length) && cs.all AV.one && (alook B.e loc).isNone then some (⟨S.t, (loc, .box T' (cells.take off ++ cs ++ cells.drop (off + i.sz))) :: S.e, S.n⟩, []) else none
   | _ => none
  | some i, some cs, .orp t loc k off, none => match lookE B S loc with
   | some (.row fr t' T' l) => if t = t' then
    if cs.length == i.sz && decide (off + i.sz ≤ t'.size) && cs.all AV.one && (alook B.e loc).isNone then
     let old := cellsAV fr t' fun _ => (l ()).getD (k ()).toNat t'.dflt
     match elOf t' (.agg (old.take off ++ cs ++ old.drop (off + i.sz))) with
     | some (f, e) => if f || !fr then some (⟨S.t, (loc, .row fr t' T' fun _ => (l ()).set (k ()).toNat (e ())) :: S.e, S.n⟩, []) else none
     | none => none
    else none
    else none
   | _ => none
  | _, _, _, _ => none
 | .buildSlice T len parts => match tiOf C.ty T, o.dst with
  | some (.slice e sz _), some d => match alook C.tc e with
   | some t => match inOrder 0 (parts.toList.map fun p => (p.1, getO B S p.2)) with
    | some xs => match elsOf t xs with
     | some (f, es) => if t.size == sz && es.length == len && decide (len * sz ≤ 16777216) && (alook B.e S.n).isNone then (putT B ⟨S.t, (S.n, .row f t e fun _ => es.map fun g => g ()) :: S.e, S.n + 1⟩ N d (.own S.n)).map fun S' => (S', []) else none
     | none => none
    | none => none
   | none => none
  | _, _ => none
 | .makeSlice T l c => match tiOf C.ty T, o.dst with
  | some (.slice e sz b), some d => match alook C.tc e with
   | some t => match getO B S l, (getO B S c).asInt with
    | .lit _ 0, some (_, k) => if t.size == sz && (alook B.e S.n).isNone then (putT B ⟨S.t, (S.n, .row true t e fun _ => []) :: S.e, S.n + 1⟩ N d (.own S.n)).map fun S' => (S', [fun _ => 0 ≤ k () ∧ k () * b ≤ 281474976710656]) else none
    | .int _ n, some (_, k) => match alook C.ty e with
     | some ie => match elOf t (.agg ie.z) with
      | some (f, x) => if t.size == sz && (alook B.e S.n).isNone && !ie.z.isEmpty then (putT B ⟨S.t, (S.n, .row f t e fun _ => List.replicate (n ()).toNat (x ())) :: S.e, S.n + 1⟩ N d (.own S.n)).map fun S' => (S', [fun _ => 0 ≤ n () ∧ n () = k () ∧ n () * b ≤ 281474976710656]) else none
      | none => none
     | none => none
    | _, _ => none
   | none => none
  | _, _ => none
 | .makeMap T none => match tiOf C.ty T, o.dst with
  | some (.map _ _ c t ag), some d => if (alook B.e S.n).isSome then none else (putT B ⟨S.t, (S.n, .map true ag c t T fun _ _ => none) :: S.e, S.n + 1⟩ N d (.mp S.n)).map fun S' => (S', [])
  | _, _ => none
 | .mapUpdate T x i v => match tiOf C.ty T, getO B S x, o.dst with
  | some (.map _ _ c t ag), .mp loc, none => match lookE B S loc, keyAV c (getO B S i) with
   | some (.map fr ag' c' t' T' m), some k => if c' = c ∧ t' = t ∧ ag' = ag then (match elOfA ag' t' (getO B S v) with
    | some (f, e) => if (alook B.e loc).isNone && noRef loc B.e then some (⟨S.t, (loc, .map (fr && f) ag' c' t' T' fun _ => setM (m ()) (k ()) (e ())) :: dropRef loc S.e, S.n⟩, []) else none
    | none => none) else none
   | _, _ => none
  | _, _, _ => none
 | .mapEntry T x i => match tiOf C.ty T, getO B S x, o.dst with
  | some (.map _ _ c t ag), .mp loc, some d => match lookE B S loc, keyAV c (getO B S i) with
   | some (.map fr ag' c' t' T' m), some k => if c' = c ∧ t' = t ∧ ag' = ag then (if (alook B.e loc).isNone && noRef loc B.e && (alook B.e S.n).isNone then
    (putT B ⟨S.t, (S.n, .stamp loc c' k) :: (loc, .map fr ag' c' t' T' fun _ => setM (m ()) (k ()) ((m () (k ())).getD t'.dflt)) :: dropRef loc S.e, S.n + 1⟩ N d (.tup [elAV ag' fr t' fun _ => (m () (k ())).getD t'.dflt, .stamp S.n])).map fun S' => (S', []) else none) else none
   | _, _ => none
  | _, _, _ => none
 | .entryStore _ x s v => match getO B S x, getO B S s, o.dst with
  | .mp loc, .stamp l2, none => match lookE B S loc, lookE B S l2 with
   | some (.map fr ag c t T' m), some (.stamp ml c' key) => if ml = loc ∧ c' = c then (match elOfA ag t (getO B S v) with
    | some (f, e) => if (alook B.e loc).isNone && noRef loc B.e then some (⟨S.t, (loc, .map (fr && f) ag c t T' fun _ => setM (m ()) (key ()) (e ())) :: dropRef loc S.e, S.n⟩, []) else none
    | none => none) else none
   | _, _ => none
  | _, _, _ => none
 | .call c => match c.callee, c.args.toList, c.argTypes.toList, o.dst with
  | .builtin .append, [s, x], [T, T2], some d => if T == T2 then match tiOf C.ty T with
   | some (.slice e sz b) => match getO B S s with
    | .own loc => match lookE B S loc with
     | some (.row fr t e' l) => if e' == e && t.size == sz && (alook B.e loc).isNone && quiet loc B && !C.fx then match newsOf B S t (getO B S x) with
      | some (f, m) => if AV.has loc (getO B S x) then none else (putT B ⟨(kill loc S).t, (loc, .row (fr && f) t e' fun _ => l () ++ m ()) :: (kill loc S).e, S.n⟩ N d (.own loc)).map fun S' => (S', appendVC (fun _ => (l ()).length) (fun _ => (m ()).length) b)
      | none => none
      else none
     | _ => none
    | .nil => match alook C.tc e with
     | some t => if t.size == sz && (alook B.e S.n).isNone then match newsOf B S t (getO B S x) with
      | some (f, m) => (putT B ⟨S.t, (S.n, .row f t e m) :: S.e, S.n + 1⟩ N d (.own S.n)).map fun S' => (S', appendVC (fun _ => 0) (fun _ => (m ()).length) b)
      | none => none
      else none
     | none => none
    | _ => none
   | _ => none
   else none
  | _, _, _, _ => none
 | _ => none
def callOp (C : Cx) (N : Nat) (B : Bs) (S : Sx) (o : Oper) : Option (Sx × List VC) :=
 match o.op with
 | .call c => match c.callee with
  | .value (.func f) => match findFon C.fs f with
   | some fo => match coercePs (lookE B S) fo.sig (c.args.toList.map (getO B S)) ⟨[], []⟩ with
    | some (avs, st) => match fo.go avs st.es with
     | some res => if st.locs.length == fo.n && freeAll B st.locs && allK (keysOf res.es) fo.n && newFree B (renN st.locs S.n) fo.n (keysOf res.es) && (fo.fix || !C.fx) then
      let S2 : Sx := ⟨(forget fo.fix st.locs S).t, renE (renN st.locs S.n) res.es ++ (forget fo.fix st.locs S).e, S.n + (maxK fo.n (keysOf res.es) - fo.n)⟩
      match o.dst with
      | some d => (putT B S2 N d (AV.ren (renN st.locs S.n) res.av)).map fun S' => (S', [res.pre])
      | none => none
      else none
     | none => none
    | none => none
   | none => none
  | _ => none
 | _ => none
/- a place's name is replaced by what it holds -/
mutual
def AV.frz (loc : Nat) (y : AV) : AV → AV
 | .own l => cond (l == loc) y (.own l)
 | .orp t l k off => cond (l == loc) .un (.orp t l k off)
 | .pto cs off => .pto (AV.frzL loc y cs) off
 | .agg cs => .agg (AV.frzL loc y cs)
 | .tup cs => .tup (AV.frzL loc y cs)
 | .fn f cs => .fn f (AV.frzL loc y cs)
 | x => x
def AV.frzL (loc : Nat) (y : AV) : List AV → List AV
 | [] => []
 | x :: l => AV.frz loc y x :: AV.frzL loc y l
end
def frzT (loc : Nat) (y : AV) : List (Nat × AV) → List (Nat × AV)
 | [] => []
 | (d, x) :: l => (d, AV.frz loc y x) :: frzT loc y l
def frzEn (loc : Nat) (y : AV) : En → En
 | .box T cs => .box T (AV.frzL loc y cs)
 | e => e
def frzE (loc : Nat) (y : AV) : List (Nat × En) → List (Nat × En)
 | [] => []
 | (k, e) :: l => cond (k == loc) (frzE loc y l) ((k, frzEn loc y e) :: frzE loc y l)
def frz1 (B : Bs) (S : Sx) (loc : Nat) : Sx := match lookE B S loc with
 | some (.row true t _ l) => cond ((alook B.e loc).isNone && quiet loc B) ⟨frzT loc (.sl true t l) S.t, frzE loc (.sl true t l) S.e, S.n⟩ S
 | _ => S
def frzAll (B : Bs) : List Nat → Sx → Sx
 | [], S => S
 | l :: ls, S => frzAll B ls (frz1 B S l)
def AV.ownsL : List AV → List Nat
 | [] => []
 | .own l :: r => l :: AV.ownsL r
 | _ :: r => AV.ownsL r
def AV.owns : AV → List Nat
 | .own l => [l]
 | .agg cs => AV.ownsL cs
 | _ => []
def ownsAll : List AV → List Nat
 | [] => []
 | x :: l => AV.owns x ++ ownsAll l
def pickT : List Nat → List (Nat × AV) → List (Nat × AV)
 | [], _ => []
 | d :: ds, l => match alook l d with
  | some x => (d, x) :: pickT ds l
  | none => pickT ds l
def kpAt : List (Nat × List Nat) → Nat → Option (List Nat)
 | [], _ => none
 | (k, l) :: m, id => cond (k == id) (some l) (kpAt m id)
def pickS (C : Cx) (id : Nat) (S : Sx) : Sx := match kpAt C.kp id with
 | none => S
 | some ks => ⟨pickT ks S.t, S.e, S.n⟩
def preS (B : Bs) (S : Sx) : Op → Sx
 | .buildSlice _ _ parts => frzAll B (ownsAll (parts.toList.map fun p => getO B S p.2)) S
 | .store _ ad x => match getO B S ad with
  | .orp _ _ _ _ => frzAll B (AV.owns (getO B S x)) S
  | _ => S
 | .mapUpdate _ _ _ v => frzAll B (AV.owns (getO B S v)) S
 | .entryStore _ _ _ v => frzAll B (AV.owns (getO B S v)) S
 | _ => S
section
variable {w w0 : World} {ρ : Nat → Option Rl} {base : Nat} {ro : Nat → Prop} {S0 : Pm} {N : Nat} {B : Bs} {S : Sx} {a : Act}
theorem frzL_get (loc : Nat) (y : AV) : ∀ (l : List AV) (j : Nat), (AV.frzL loc y l)[j]? = (l[j]?).map (AV.frz loc y)
 | [], j => by simp [AV.frzL]
 | x :: l, 0 => by simp [AV.frzL]
 | x :: l, j + 1 => by simp only [AV.frzL, List.getElem?_cons_succ]; exact frzL_get loc y l j
theorem frzL_len (loc : Nat) (y : AV) : ∀ (l : List AV), (AV.frzL loc y l).length = l.length
 | [] => rfl
 | x :: l => by simp [AV.frzL, frzL_len loc y l]
theorem alook_frzT {loc d : Nat} {y : AV} : ∀ (l : List (Nat × AV)), alook (frzT loc y l) d = (alook l d).map (AV.frz loc y)
 | [] => rfl
 | (k, x) :: l => by
  simp only [frzT, alook]
  split
  · rfl
  · exact alook_frzT l
theorem alook_frzE {loc d : Nat} {y : AV} : ∀ (l : List (Nat × En)), alook (frzE loc y l) d = if d = loc then none else (alook l d).map (frzEn loc y)
 | [] => by simp [frzE, alook]
 | (k, e) :: l => by
  have ih := alook_frzE (loc := loc) (d := d) (y := y) l
  simp only [frzE]
  cases hk : k == loc with
  | true =>
   have hk' : k = loc := by simpa using hk
   simp only [cond_true, alook]
   rw [ih]
   split
   · rfl
   · rename_i hd
     have : (k == d) = false := by simp only [beq_eq_false_iff_ne]; omega
     simp only [this, Bool.false_eq_true, if_false]
  | false =>
   simp only [cond_false, alook]
   by_cases hkd : k = d
   · subst hkd
     have : ¬ k = loc := by simpa using hk
     simp [this]
   · have hkd' : (k == d) = false := by simpa using hkd
     simp only [hkd', Bool.false_eq_true, if_false]
     exact ih
theorem pickT_get {d : Nat} {x : AV} {l : List (Nat × AV)} : ∀ {ds : List Nat}, alook (pickT ds l) d = some x → alook l d = some x
 | [], h => by cases h
 | k :: ds, h => by
  unfold pickT at h
  split at h
  · rename_i y hy
    simp only [alook] at h
    split at h
    · rename_i hk
      have hk' : k = d := by simpa using hk
      subst hk'
      rw [hy]
      exact h
    · exact pickT_get h
  · exact pickT_get h
theorem pickS_ok (C : Cx) (id : Nat) (H : Sim w0 S0 N B S a w) : Sim w0 S0 N B (pickS C id S) a w := by
 unfold pickS
 split
 · exact H
 · rename_i ks _
   obtain ⟨ρ, ro, H⟩ := H
   refine ⟨ρ, ro, H.from_, H.size, H.defers, H.roB, fun d x h => H.tm d x ?_, H.en, H.apart, H.fresh, H.own, H.roS, H.solid, fun d x h => ?_, H.disE⟩
   · unfold lookT at h ⊢
     dsimp only at h
     cases hp : alook (pickT ks S.t) d with
     | some y =>
      rw [hp] at h
      rw [pickT_get hp]
      exact h
     | none =>
      rw [hp] at h
      rw [H.disT d x h]
      exact h
   · show alook (pickT ks S.t) d = none
     cases hp : alook (pickT ks S.t) d with
     | none => rfl
     | some y => have := pickT_get hp; rw [H.disT d x h] at this; cases this
theorem AVR.frz_ {x : AV} {v : Value} {loc n c : Nat} {A : Option Addr} {y : AV} (h : AVR w ρ base ro x v) (hr : ρ loc = some (.row A n c)) (hy : AVR w (fun l => if l = loc then none else ρ l) base (fun b => ro b ∨ A.map (·.block) = some b) y (.slice A n c)) :
 AVR w (fun l => if l = loc then none else ρ l) base (fun b => ro b ∨ A.map (·.block) = some b) (AV.frz loc y x) v := by
 have hρ : ∀ l r, ρ l = some r → l ≠ loc → (fun l => if l = loc then none else ρ l) l = some r := fun l r h hl => by simp only [if_neg hl]; exact h
 have hns : ∀ l r, ρ l = some r → r.solid = true → l ≠ loc := fun l r h h2 e => by subst e; rw [hr] at h; cases h; cases h2
 induction h with
 | un => exact .un _
 | int => exact .int _ _
 | lit => exact .lit _ _
 | bool => exact .bool _
 | blit => exact .blit _
 | str => exact .str _
 | nil => exact .nil
 | sl fr t l A' c' css hl hc hrd hro1 hfr h ih =>
  refine .sl fr t l A' c' css hl hc hrd (fun a ha hn => .inl (hro1 a ha hn)) hfr fun k cs j x v k1 k2 k3 => ?_
  have h1 := h k cs j x v k1 k2 k3
  have h2 := hasL_get (cellsAV_has fr t _ loc) k2
  exact (h1.move (ρ' := fun l => if l = loc then none else ρ l) h2 fun l r q1 q2 => hρ l r q1 (q2.elim id (hns l r q1))).mono (fun _ _ _ => rfl) (Ext.refl _) (Nat.le_refl _) fun _ hb => .inl hb
 | wide fr t l n A' c' hn h ih => exact .wide fr t l n A' c' hn ih
 | pto cells off b o cs hro1 hlt hl hc h ih =>
  refine .pto _ off b o cs (.inl hro1) hlt (by rw [frzL_len]; exact hl) hc fun j x v k1 k2 => ?_
  rw [frzL_get] at k1
  obtain ⟨z, k3, rfl⟩ := Option.map_eq_some_iff.1 k1
  exact ih j z v k3 k2
 | ptr l off b h => exact .ptr _ _ _ (hρ _ _ h (hns _ _ h rfl))
 | own l A' n' c' h =>
  unfold AV.frz
  cases hl : l == loc with
  | true =>
   have : l = loc := by simpa using hl
   subst this
   rw [hr] at h
   cases h
   exact hy
  | false => exact .own _ _ _ _ (hρ _ _ h (by simpa using hl))
 | orp t l k off A' n' c' b h hA h0 hn =>
  unfold AV.frz
  cases hl : l == loc with
  | true => exact .un _
  | false => exact .orp _ _ _ _ _ _ _ _ (hρ _ _ h (by simpa using hl)) hA h0 hn
 | mp l b h => exact .mp _ _ (hρ _ _ h (hns _ _ h rfl))
 | stamp l s h => exact .stamp _ _ (hρ _ _ h (hns _ _ h rfl))
 | it l l2 b h => exact .it _ _ _ (hρ _ _ h (hns _ _ h rfl))
 | agg l vs hl h ih =>
  refine .agg _ _ (by rw [frzL_len]; exact hl) fun j x v k1 k2 => ?_
  rw [frzL_get] at k1
  obtain ⟨z, k3, rfl⟩ := Option.map_eq_some_iff.1 k1
  exact ih j z v k3 k2
 | tup l vs hl h ih =>
  refine .tup _ _ (by rw [frzL_len]; exact hl) fun j x v k1 k2 => ?_
  rw [frzL_get] at k1
  obtain ⟨z, k3, rfl⟩ := Option.map_eq_some_iff.1 k1
  exact ih j z v k3 k2
 | fn f caps vs hl h ih =>
  refine .fn f _ _ (by rw [frzL_len]; exact hl) fun j x v k1 k2 => ?_
  rw [frzL_get] at k1
  obtain ⟨z, k3, rfl⟩ := Option.map_eq_some_iff.1 k1
  exact ih j z v k3 k2
theorem frz1_ok (hfx : S0.fx = false) (H : Sim w0 S0 N B S a w) (loc : Nat) : Sim w0 S0 N B (frz1 B S loc) a w := by
 obtain ⟨ρ, ro, H⟩ := H
 unfold frz1
 split
 case h_2 => exact ⟨ρ, ro, H⟩
 rename_i t T l he
 cases hc : (alook B.e loc).isNone && quiet loc B with
 | false => exact ⟨ρ, ro, H⟩
 | true =>
  rw [cond_true]
  simp only [Bool.and_eq_true, Option.isNone_iff_eq_none] at hc
  obtain ⟨hB, hq⟩ := hc
  unfold quiet at hq
  simp only [Bool.and_eq_true] at hq
  obtain ⟨A, c, css, hA, hown, hlen, hcell⟩ := H.en _ _ he
  have hown' : OwnS w w0.heap.size T t.size A c css := hown
  obtain ⟨y, hy⟩ : ∃ y, AV.sl true t l = y := ⟨_, rfl⟩
  obtain ⟨ρ', hρ'⟩ : ∃ ρ' : Nat → Option Rl, ρ' = fun l => if l = loc then none else ρ l := ⟨_, rfl⟩
  obtain ⟨ro', hro'⟩ : ∃ ro' : Nat → Prop, ro' = fun b => ro b ∨ A.map (·.block) = some b := ⟨_, rfl⟩
  have hρ : ∀ l r, ρ l = some r → l ≠ loc → ρ' l = some r := fun l r h hl => by rw [hρ']; simp only [if_neg hl]; exact h
  have hns : ∀ l r, ρ l = some r → r.solid = true → l ≠ loc := fun l r h h2 e => by subst e; rw [hA] at h; cases h; cases h2
  have hback : ∀ l r, ρ' l = some r → ρ l = some r ∧ l ≠ loc := fun l r h => by
   rw [hρ'] at h
   simp only at h
   split at h
   · cases h
   · rename_i hl; exact ⟨h, hl⟩
  have hmv : ∀ x v, AVR w ρ w0.heap.size ro x v → AV.has loc x = false → AVR w ρ' w0.heap.size ro' x v := fun x v h hx => (h.move (ρ' := ρ') hx fun l r q1 q2 => hρ l r q1 (q2.elim id (hns l r q1))).mono (fun _ _ _ => rfl) (Ext.refl _) (Nat.le_refl _) fun _ hb => by rw [hro']; exact .inl hb
  have hbl : ∀ b, A.map (·.block) = some b → w0.heap.size ≤ b ∧ b < w.heap.size := fun b hb => by
   obtain ⟨ad, h1, h2⟩ := Option.map_eq_some_iff.1 hb
   have h3 := hown'.lt h1
   rw [h2] at h3
   exact h3
  have hyv : AVR w ρ' w0.heap.size ro' y (.slice A (l ()).length c) := by
   rw [← hy]
   refine .sl true t l A c css hlen hown'.cap.1 hown'.rd (fun ad ha _ => by rw [hro']; exact .inr (by rw [ha]; rfl)) (fun _ ad ha _ => (hown'.lt ha).1) fun k cs j x v k1 k2 k3 => hmv x v (hcell k cs j x v k1 k2 k3) (hasL_get (cellsAV_has true t _ loc) k2)
  have hall : ∀ x v, AVR w ρ w0.heap.size ro x v → AVR w ρ' w0.heap.size ro' (AV.frz loc y x) v := fun x v h => by
   rw [hρ', hro'] at hyv ⊢
   exact h.frz_ hA hyv
  have hen : ∀ k e, EnR w ρ w0.heap.size ro k e → k ≠ loc → (∀ T cs, e = .box T cs → False) → EnR w ρ' w0.heap.size ro' k e := fun k e h hk hb => by
   cases e with
   | box T cs => exact (hb T cs rfl).elim
   | row fr t T m =>
    obtain ⟨A1, c1, css1, k1, k2, k3, k4⟩ := h
    exact ⟨A1, c1, css1, hρ _ _ k1 hk, k2, k3, fun i cs j x v q1 q2 q3 => hmv x v (k4 i cs j x v q1 q2 q3) (hasL_get (cellsAV_has fr t _ loc) q2)⟩
   | map fr ag c t T m =>
    obtain ⟨b, es, clock, k1, k2, k3, k4⟩ := h
    exact ⟨b, es, clock, hρ _ _ k1 hk, k2, k3, k4.map_ fun x v hx => hmv _ v hx (elAV_has _ _ _ _ _)⟩
   | iter ml c seen left =>
    obtain ⟨b, b2, es, clock, since, stamps, c0, k1, k2, k3⟩ := h
    exact ⟨b, b2, es, clock, since, stamps, c0, hρ _ _ k1 hk, hρ _ _ k2 (hns _ _ k2 rfl), k3⟩
   | stamp ml c key =>
    obtain ⟨b, es, clock, s, e, k1, k2, k3⟩ := h
    exact ⟨b, es, clock, s, e, hρ _ _ k1 hk, hρ _ _ k2 (hns _ _ k2 rfl), k3⟩
   | dead =>
    obtain ⟨r, k1⟩ := h
    exact ⟨r, hρ _ _ k1 hk⟩
  refine ⟨ρ', ro', H.from_, H.size, H.defers, fun b hb => ?_, fun d x h => ?_, fun k e h => ?_, fun k k' r r' b hne h1 h2 => H.apart k k' r r' b hne (hback _ _ h1).1 (hback _ _ h2).1, fun k hk => ?_, fun k r b h1 h2 => ?_, fun b hb hlt => ?_, fun k r h1 h2 => ?_, fun d x h => ?_, fun k e h => ?_⟩
  · rw [hro'] at hb
    exact hb.elim (H.roB b) fun h => (hbl b h).2
  · unfold lookT at h
    dsimp only at h
    rw [alook_frzT] at h
    cases hd : alook S.t d with
    | none =>
     rw [hd] at h
     obtain ⟨u, h1, h2⟩ := H.tm d x (by unfold lookT; rw [hd]; exact h)
     exact ⟨u, h1, hmv x u h2 (quietT_get hq.1 h)⟩
    | some z =>
     rw [hd] at h
     simp only [Option.map_some, Option.some.injEq] at h
     obtain ⟨u, h1, h2⟩ := H.tm d z (by unfold lookT; rw [hd])
     refine ⟨u, h1, ?_⟩
     rw [← h, hy]
     exact hall z u h2
  · unfold lookE at h
    dsimp only at h
    rw [alook_frzE] at h
    by_cases hk : k = loc
    · rw [if_pos hk, hk, hB] at h
      cases h
    rw [if_neg hk] at h
    cases hd : alook S.e k with
    | none =>
     rw [hd] at h
     have h1 := H.en k e (by unfold lookE; rw [hd]; exact h)
     cases e with
     | box T cs =>
      obtain ⟨b, us, k1, k4, k5⟩ := h1
      exact ⟨b, us, hρ _ _ k1 hk, k4, k5.1, fun j x v hx hv => hmv x v (k5.2 j x v hx hv) (hasL_get (quietE_get hq.2 h) hx)⟩
     | row fr t T m => exact hen _ _ h1 hk (fun _ _ h => by cases h)
     | map fr ag c t T m => exact hen _ _ h1 hk (fun _ _ h => by cases h)
     | iter ml c seen left => exact hen _ _ h1 hk (fun _ _ h => by cases h)
     | stamp ml c key => exact hen _ _ h1 hk (fun _ _ h => by cases h)
     | dead => exact hen _ _ h1 hk (fun _ _ h => by cases h)
    | some z =>
     rw [hd] at h
     simp only [Option.map_some, Option.some.injEq] at h
     have h1 := H.en k z (by unfold lookE; rw [hd])
     rw [← h, hy]
     cases z with
     | box T cs =>
      obtain ⟨b, us, k1, k4, k5⟩ := h1
      refine ⟨b, us, hρ _ _ k1 hk, k4, by rw [frzL_len]; exact k5.1, fun j x v hx hv => ?_⟩
      rw [frzL_get] at hx
      obtain ⟨z, k3, rfl⟩ := Option.map_eq_some_iff.1 hx
      exact hall z v (k5.2 j z v k3 hv)
     | row fr t T m => exact hen _ _ h1 hk (fun _ _ h => by cases h)
     | map fr ag c t T m => exact hen _ _ h1 hk (fun _ _ h => by cases h)
     | iter ml c seen left => exact hen _ _ h1 hk (fun _ _ h => by cases h)
     | stamp ml c key => exact hen _ _ h1 hk (fun _ _ h => by cases h)
     | dead => exact hen _ _ h1 hk (fun _ _ h => by cases h)
  · have h1 := H.fresh k hk
    rw [hρ']
    simp only [h1]
    split <;> rfl
  · obtain ⟨h3, h4⟩ := hback _ _ h1
    have h5 := H.own k r b h3 h2
    refine ⟨h5.1, fun hb => ?_, h5.2.2⟩
    rw [hro'] at hb
    rcases hb with hb | hb
    · exact h5.2.1 hb
    · exact H.apart k loc r _ b h4 h3 hA h2 hb
  · rw [hro'] at hb
    rcases hb with hb | hb
    · exact H.roS b hb hlt
    · have := (hbl b hb).1
      omega
  · have h3 := H.solid k r h1 h2
    rw [hfx, Bool.or_false] at h2
    exact hρ _ _ h3 (hns _ _ h3 h2)
  · show alook (frzT loc _ S.t) d = none
    rw [alook_frzT, H.disT d x h]
    rfl
  · show alook (frzE loc _ S.e) k = none
    rw [alook_frzE, H.disE k e h]
    split <;> rfl
theorem frzAll_ok (hfx : S0.fx = false) : ∀ {ls : List Nat} {S : Sx}, Sim w0 S0 N B S a w → Sim w0 S0 N B (frzAll B ls S) a w
 | [], _, H => H
 | l :: ls, _, H => frzAll_ok hfx (ls := ls) (frz1_ok hfx H l)
theorem preS_ok (hfx : S0.fx = false) (H : Sim w0 S0 N B S a w) (op : Op) : Sim w0 S0 N B (preS B S op) a w := by
 unfold preS
 split
 · exact frzAll_ok hfx H
 · split
   · exact frzAll_ok hfx H
   · exact H
 · exact frzAll_ok hfx H
 · exact frzAll_ok hfx H
 · exact H
end
end Go.Proofs.YtfdjcakgolenbaaGreat
