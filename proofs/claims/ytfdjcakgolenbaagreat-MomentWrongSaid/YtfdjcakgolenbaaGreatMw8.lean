/-
  The abstract run: operations that make a place, write one, or let one grow; they are sound.
-/
import Derived.Test.YtfdjcakgolenbaaGreatMw7
set_option linter.unusedVariables false
set_option linter.unusedSimpArgs false
namespace Go.Proofs.YtfdjcakgolenbaaGreat
open Go.RowKit
-- CELLS
def sgOf : Tc -> List Sg
 | .int => [.int .i64]
 | .u8 => [.int .u8]
 | .u32 => [.int .u32]
 | .box => [.int .i64, .str, .int .u8, .bool, .int .i64, .int .i64, .int .i64, .int .u8, .bool]
 | .stowed => [.int .i64, .int .i64, .int .i64, .int .u8]
 | .slot => [.int .i64, .int .i64, .int .u8]
 | .ld => [.int .i64, .int .i64, .int .i64, .int .i64]
 | .spn => [.int .i64, .int .i64, .int .i64]
 | .col => [.int .i64, .int .i64, .bool, .int .i64, .int .i64, .int .i64, .int .i64, .int .i64, .sl .int, .int .i64, .int .i64, .int .i64]
 | .cov => [.int .i64, .sl .int]
 | .mid => [.int .i64, .str, .int .u8, .bool, .int .i64, .int .i64, .int .i64, .int .u8, .bool, .int .i64, .int .i64, .int .i64]
 | .hrow => [.int .i64, .int .i64, .int .i64, .int .i64, .int .i64]
 | .frm => [.int .i64, .int .i64, .int .i64, .int .i64, .int .i64]
 | .tnk => [.int .i64, .int .i64, .int .i64, .int .i64, .int .i64, .sl .int]
 | .colq => [.int .i64, .int .i64, .bool, .int .i64, .int .i64, .int .i64, .int .i64, .int .i64, .wide .int, .int .i64, .int .i64, .int .i64]
 | .covq => [.int .i64, .wide .int]
 | .tnkq => [.int .i64, .int .i64, .int .i64, .int .i64, .int .i64, .wide .int]
 | .plc => [.int .u8, .int .u8, .int .u8, .bool]
 | .drp => [.int .u8, .int .u8, .bool, .bool]
 | .wgt => [.int .u16, .int .i16, .int .i16, .int .i16]
def mkEl : (t : Tc) -> List AV -> Option (Unit -> t.el)
 | .int, [.int .i64 a0] => some fun _ => a0 ()
 | .u8, [.int .u8 a0] => some fun _ => a0 ()
 | .u32, [.int .u32 a0] => some fun _ => a0 ()
 | .box, [.int .i64 a0, .str a1, .int .u8 a2, .bool a3, .int .i64 a4, .int .i64 a5, .int .i64 a6, .int .u8 a7, .bool a8] => some fun _ => ⟨a0 (), a1 (), a2 (), a3 (), a4 (), a5 (), a6 (), a7 (), a8 ()⟩
 | .stowed, [.int .i64 a0, .int .i64 a1, .int .i64 a2, .int .u8 a3] => some fun _ => ⟨a0 (), a1 (), a2 (), a3 ()⟩
 | .slot, [.int .i64 a0, .int .i64 a1, .int .u8 a2] => some fun _ => ⟨a0 (), a1 (), a2 ()⟩
 | .ld, [.int .i64 a0, .int .i64 a1, .int .i64 a2, .int .i64 a3] => some fun _ => ⟨a0 (), a1 (), a2 (), a3 ()⟩
 | .spn, [.int .i64 a0, .int .i64 a1, .int .i64 a2] => some fun _ => ⟨a0 (), a1 (), a2 ()⟩
 | .col, [.int .i64 a0, .int .i64 a1, .bool a2, .int .i64 a3, .int .i64 a4, .int .i64 a5, .int .i64 a6, .int .i64 a7, .sl _ .int a8, .int .i64 a9, .int .i64 a10, .int .i64 a11] => some fun _ => ⟨a0 (), a1 (), a2 (), a3 (), a4 (), a5 (), a6 (), a7 (), a8 (), a9 (), a10 (), a11 ()⟩
 | .cov, [.int .i64 a0, .sl _ .int a1] => some fun _ => ⟨a0 (), a1 ()⟩
 | .mid, [.int .i64 a0, .str a1, .int .u8 a2, .bool a3, .int .i64 a4, .int .i64 a5, .int .i64 a6, .int .u8 a7, .bool a8, .int .i64 a9, .int .i64 a10, .int .i64 a11] => some fun _ => ⟨⟨a0 (), a1 (), a2 (), a3 (), a4 (), a5 (), a6 (), a7 (), a8 ()⟩, a9 (), a10 (), a11 ()⟩
 | .hrow, [.int .i64 a0, .int .i64 a1, .int .i64 a2, .int .i64 a3, .int .i64 a4] => some fun _ => ⟨a0 (), a1 (), a2 (), a3 (), a4 ()⟩
 | .frm, [.int .i64 a0, .int .i64 a1, .int .i64 a2, .int .i64 a3, .int .i64 a4] => some fun _ => ⟨a0 (), a1 (), a2 (), a3 (), a4 ()⟩
 | .tnk, [.int .i64 a0, .int .i64 a1, .int .i64 a2, .int .i64 a3, .int .i64 a4, .sl _ .int a5] => some fun _ => ⟨a0 (), a1 (), a2 (), a3 (), a4 (), a5 ()⟩
 | .colq, [.int .i64 a0, .int .i64 a1, .bool a2, .int .i64 a3, .int .i64 a4, .int .i64 a5, .int .i64 a6, .int .i64 a7, .wide _ .int a8 a8N, .int .i64 a9, .int .i64 a10, .int .i64 a11] => some fun _ => ⟨a0 (), a1 (), a2 (), a3 (), a4 (), a5 (), a6 (), a7 (), a8 (), a8N (), a9 (), a10 (), a11 ()⟩
 | .covq, [.int .i64 a0, .wide _ .int a1 a1N] => some fun _ => ⟨a0 (), a1 (), a1N ()⟩
 | .tnkq, [.int .i64 a0, .int .i64 a1, .int .i64 a2, .int .i64 a3, .int .i64 a4, .wide _ .int a5 a5N] => some fun _ => ⟨a0 (), a1 (), a2 (), a3 (), a4 (), a5 (), a5N ()⟩
 | .plc, [.int .u8 a0, .int .u8 a1, .int .u8 a2, .bool a3] => some fun _ => ⟨a0 (), a1 (), a2 (), a3 ()⟩
 | .drp, [.int .u8 a0, .int .u8 a1, .bool a2, .bool a3] => some fun _ => ⟨a0 (), a1 (), a2 (), a3 ()⟩
 | .wgt, [.int .u16 a0, .int .i16 a1, .int .i16 a2, .int .i16 a3] => some fun _ => ⟨a0 (), a1 (), a2 (), a3 ()⟩
 | _, _ => none
theorem mkEl_cells {t : Tc} {l : List AV} {x : Unit -> t.el} (h : mkEl t l = some x) : cellsAV false t x = l.map AV.loose /\ (AV.plainL true l = true -> cellsAV true t x = l) := by
 unfold mkEl at h;split at h <;> first | (cases h; done) | (injection h with h; subst h; refine ⟨rfl, fun hp => ?_⟩; simp only [AV.plainL, AV.plain, Bool.not_true, Bool.and_true, Bool.true_and, Bool.or_false] at hp; first | rfl | (subst hp; rfl) | simp_all)
-- END CELLS
def norm : Sg -> AV -> Option AV
 | .int k, .int k' n => if k = k' then some (.int k' n) else none
 | .int k, .lit k' n => if k = k' then some (.int k' fun _ => n) else none
 | .bool, .bool b => some (.bool b)
 | .bool, .blit b => some (.bool fun _ => b)
 | .str, .str s => some (.str s)
 | .sl t, .sl fr t' l => if t = t' then some (.sl fr t' l) else none
 | .sl t, .nil => some (.sl true t fun _ => [])
 | .sl t, .wide fr t' l n => if t = t' then some (.sl fr t' fun _ => (l ()).take (n ())) else none
 | .wide t, .wide fr t' l n => if t = t' then some (.wide fr t' l n) else none
 | .wide t, .sl fr t' l => if t = t' then some (.wide fr t' l fun _ => (l ()).length) else none
 | .wide t, .nil => some (.wide true t (fun _ => []) fun _ => 0)
 | _, _ => none
def normL : List Sg -> List AV -> Option (List AV)
 | [], [] => some []
 | s :: ss, x :: xs => match norm s x, normL ss xs with
  | some y, some ys => some (y :: ys)
  | _, _ => none
 | _, _ => none
def cellsOf : AV -> Option (List AV)
 | .agg cs => some cs
 | .un => none
 | .tup _ => none
 | x => some [x]
def AV.one : AV -> Bool
 | .un => false
 | .agg _ => false
 | .tup _ => false
 | _ => true
def memN (d : Nat) : List Nat -> Bool
 | [] => false
 | k :: l => k == d || memN d l
def keysOf {α : Type} : List (Nat × α) -> List Nat
 | [] => []
 | (k, _) :: l => k :: keysOf l
def maxK (n : Nat) : List Nat -> Nat
 | [] => n
 | k :: l => if k < n then maxK n l else maxK (k + 1) l
def allK (ks : List Nat) : Nat -> Bool
 | 0 => true
 | n + 1 => memN n ks && allK ks n
structure Left (w w' : World) (ρ ρ1 : Nat -> Option Rl) (ra ra1 : Nat -> Prop) (es : List (Nat × En)) (fx : Bool) : Prop where
 from_ : FromG ρ w w'
 en : ∀ l e, alook es l = some e -> EnR w' ρ1 w.heap.size ra1 l e
 apart : ∀ l l' r r' b, l ≠ l' -> ρ1 l = some r -> ρ1 l' = some r' -> r.blk = some b -> r'.blk ≠ some b
 fresh : ∀ l, memN l (keysOf es) = false -> ρ1 l = none
 own : ∀ l r b, ρ1 l = some r -> r.blk = some b -> b < w'.heap.size /\ ¬ ra1 b /\ (w.heap.size <= b \/ ∃ r0, ρ l = some r0 /\ r0.blk = some b)
 rd : ∀ b, ra1 b -> b < w'.heap.size /\ (b < w.heap.size -> ra b)
 solid : ∀ l r, ρ l = some r -> (r.solid || fx) = true -> ρ1 l = some r
structure Rez where
 pre : Unit -> Prop
 av : AV
 es : List (Nat × En)
structure Fon where
 f : FuncId
 sig : List Sg
 n : Nat
 go : List AV -> List (Nat × En) -> Option Rez
 fix : Bool := false
def FonOk (P : Program) (c : Fon) : Prop :=
 (∀ args w, (callFunc c.f args).run P w = .ok (.enter c.f args) w) /\
 ∀ avs es res, c.go avs es = some res -> ∀ (w : World) (ρ : Nat -> Option Rl) (ra : Nat -> Prop) (vals : List Value), (∀ b, ra b -> b < w.heap.size) -> Each w ρ 0 ra avs vals -> (∀ l e, alook es l = some e -> EnR w ρ 0 ra l e) ->
  (∀ l l' r r' b, l ≠ l' -> ρ l = some r -> ρ l' = some r' -> r.blk = some b -> r'.blk ≠ some b) -> (∀ l, c.n <= l -> ρ l = none) -> (∀ l r b, ρ l = some r -> r.blk = some b -> b < w.heap.size /\ ¬ ra b) -> res.pre () ->
  Calls P c.f vals.toArray w fun e w' => ∃ v ρ1 ra1, e = .returned v /\ Left w w' ρ ρ1 ra ra1 res.es c.fix /\ AVR w' ρ1 w.heap.size ra1 res.av v
def findFon : List Fon -> FuncId -> Option Fon
 | [], _ => none
 | c :: cs, f => if c.f == f then some c else findFon cs f
def efs : List Fon -> List Nat
 | [] => []
 | c :: cs => c.f :: efs cs
inductive Sch where
 | nil
 | bad
 | op (i : Nat) (r : Sch)
 | alt (a b : Sch)
deriving DecidableEq
structure Nd where
 dn : List Nat
 ks : List Nat
 up : Nat × Nat
 ed : List (Nat × Nat × Nat)
structure Lat where
 sg : List Nat
 row : List Nat
 pre : List Nat
 nds : List Nd
 post : List Nat
structure Cx where
 ty : Tab
 cs : List Con
 tc : List (Nat × Tc)
 fs : List Fon
 fz : List (Nat × List Nat) := []
 fx : Bool := false
 kp : List (Nat × List Nat) := []
 sc : List (Nat × Sch) := []
 ul : List Nat := []
 jn : List (Nat × List Nat) := []
 lt : List (Nat × Lat) := []
 nb : Nat := 0
 ct : List Nat := []
/- the arguments, the places numbered anew -/
structure Pst where
 locs : List Nat
 es : List (Nat × En)
mutual
def coerceP (ge : Nat -> Option En) : Sg -> AV -> Pst -> Option (AV × Pst)
 | .any, _, st => some (.un, st)
 | .ownr t, .own loc, st => match ge loc with
  | some (.row _ t' T l) => if t = t' /\ memN loc st.locs = false then some (.own st.locs.length, ⟨st.locs ++ [loc], (st.locs.length, .row false t' T l) :: st.es⟩) else none
  | _ => none
 | .mapp c t, .mp loc, st => match ge loc with
  | some (.map _ ag c' t' T m) => if c = c' /\ t = t' /\ memN loc st.locs = false then some (.mp st.locs.length, ⟨st.locs ++ [loc], (st.locs.length, .map false ag c' t' T m) :: st.es⟩) else none
  | _ => none
 | .boxp l, .ptr loc 0, st => match ge loc with
  | some (.box T cells) => if memN loc st.locs then none else match coercePs ge l cells ⟨st.locs ++ [loc], st.es⟩ with
   | some (ys, st') => some (.ptr st.locs.length 0, ⟨st'.locs, (st.locs.length, .box T ys) :: st'.es⟩)
   | none => none
  | _ => none
 | s, x, st => if AV.plain false x then (coerce ge s x).map fun y => (y, st) else none
def coercePs (ge : Nat -> Option En) : List Sg -> List AV -> Pst -> Option (List AV × Pst)
 | [], [], st => some ([], st)
 | s :: ss, x :: xs, st => match coerceP ge s x st with
  | some (y, st1) => match coercePs ge ss xs st1 with
   | some (ys, st2) => some (y :: ys, st2)
   | none => none
  | none => none
 | _, _, _ => none
end
/- places are named anew -/
mutual
def AV.ren (g : Nat -> Nat) : AV -> AV
 | .own l => .own (g l)
 | .orp t l k off => .orp t (g l) k off
 | .ptr l off => .ptr (g l) off
 | .mp l => .mp (g l)
 | .stamp l => .stamp (g l)
 | .it l l2 => .it (g l) (g l2)
 | .pto cs off => .pto (AV.renL g cs) off
 | .agg cs => .agg (AV.renL g cs)
 | .tup cs => .tup (AV.renL g cs)
 | .fn f cs => .fn f (AV.renL g cs)
 | x => x
def AV.renL (g : Nat -> Nat) : List AV -> List AV
 | [] => []
 | x :: l => AV.ren g x :: AV.renL g l
end
def En.ren (g : Nat -> Nat) : En -> En
 | .box T cs => .box T (AV.renL g cs)
 | .iter ml c seen left => .iter (g ml) c seen left
 | .stamp ml c key => .stamp (g ml) c key
 | e => e
def renE (g : Nat -> Nat) : List (Nat × En) -> List (Nat × En)
 | [] => []
 | (k, e) :: l => (g k, En.ren g e) :: renE g l
def renN (locs : List Nat) (n k : Nat) : Nat := match locs[k]? with
 | some l => l
 | none => n + (k - locs.length)
def killAll : List Nat -> Sx -> Sx
 | [], S => S
 | l :: ls, S => killAll ls ⟨(kill l S).t, dropRef l (kill l S).e, S.n⟩
def dropAll : List Nat -> Sx -> Sx
 | [], S => S
 | l :: ls, S => dropAll ls ⟨S.t, dropRef l S.e, S.n⟩
def forget (fx : Bool) (ls : List Nat) (S : Sx) : Sx := cond fx (dropAll ls S) (killAll ls S)
def freeAll (B : Bs) : List Nat -> Bool
 | [] => true
 | l :: ls => (alook B.e l).isNone && quiet l B && noRef l B.e && freeAll B ls
def newFree (B : Bs) (g : Nat -> Nat) (n : Nat) : List Nat -> Bool
 | [] => true
 | k :: ks => (decide (k < n) || (alook B.e (g k)).isNone) && newFree B g n ks
def elOf (t : Tc) (x : AV) : Option (Bool × (Unit -> t.el)) :=
 match cellsOf x with
 | some cs => match normL (sgOf t) cs with
  | some ys => (mkEl t ys).map fun e => (AV.plainL true ys, e)
  | none => none
 | none => none
def elsOf (t : Tc) : List AV -> Option (Bool × List (Unit -> t.el))
 | [] => some (true, [])
 | x :: l => match elOf t x, elsOf t l with
  | some (f, e), some (g, es) => some (f && g, e :: es)
  | _, _ => none
def inOrder : Nat -> List (Nat × AV) -> Option (List AV)
 | _, [] => some []
 | k, (i, x) :: l => if i == k then (inOrder (k + 1) l).map fun r => x :: r else none
def newsOf (B : Bs) (S : Sx) (t : Tc) : AV -> Option (Bool × (Unit -> List t.el))
 | .nil => some (true, fun _ => [])
 | .sl fr t' l => if h : t' = t then some (fr, h ▸ l) else none
 | .wide fr t' l n => if h : t' = t then some (fr, fun _ => (h ▸ l ()).take (n ())) else none
 | .own loc => match lookE B S loc with
  | some (.row fr t' _ l) => if h : t' = t then some (fr, h ▸ l) else none
  | _ => none
 | _ => none
def setM {α : Type} (m : List Kx -> Option α) (k : List Kx) (x : α) : List Kx -> Option α := fun k' => if k' = k then some x else m k'
def agOk (ag : Bool) : AV -> Bool
 | .agg _ => ag
 | _ => !ag
def elOfA (ag : Bool) (t : Tc) (x : AV) : Option (Bool × (Unit -> t.el)) :=
 if (ag || t.size == 1) && agOk ag x then elOf t x else none
def appendVC (n m : Unit -> Nat) (b : Nat) : List VC := [fun _ => (n () + m ()) * b <= 140737488355328]
def memOp (C : Cx) (N : Nat) (B : Bs) (S : Sx) (o : Oper) : Option (Sx × List VC) :=
 match o.op with
 | .alloc T => match alook C.ty T, o.dst with
  | some i, some d => if i.z.isEmpty || (alook B.e S.n).isSome then none else (putT B ⟨S.t, (S.n, .box T i.z) :: S.e, S.n + 1⟩ N d (.ptr S.n 0)).map fun S' => (S', [])
  | _, _ => none
 | .box T x => match cellsOf (getO B S x), o.dst with
  | some cs, some d => if (alook B.e S.n).isSome then none else (putT B ⟨S.t, (S.n, .box T cs) :: S.e, S.n + 1⟩ N d (.ptr S.n 0)).map fun S' => (S', [])
  | _, _ => none
 | .store T ad x => match alook C.ty T, cellsOf (getO B S x), getO B S ad, o.dst with
  | some i, some cs, .ptr loc off, none => match lookE B S loc with
   | some (.box T' cells) => if cs.length == i.sz && decide (off + i.sz <= cells.length) && cs.all AV.one && (alook B.e loc).isNone then some (⟨S.t, (loc, .box T' (cells.take off ++ cs ++ cells.drop (off + i.sz))) :: S.e, S.n⟩, []) else none
   | _ => none
  | some i, some cs, .orp t loc k off, none => match lookE B S loc with
   | some (.row fr t' T' l) => if t = t' then
    if cs.length == i.sz && decide (off + i.sz <= t'.size) && cs.all AV.one && (alook B.e loc).isNone then
     let old := cellsAV fr t' fun _ => (l ()).getD (k ()).toNat t'.dflt
     match elOf t' (.agg (old.take off ++ cs ++ old.drop (off + i.sz))) with
     | some (f, e) => if f || !fr then some (⟨S.t, (loc, .row fr t' T' fun _ => (l ()).set (k ()).toNat (e ())) :: S.e, S.n⟩, []) else none
     | none => none
    else none
    else none
   | _ => none
  | _, _, _, _ => none
 | .buildSlice T len parts => match tiOf C.ty T, o.dst with
  | some (.slice e sz _), some d => match alook C.tc e with
   | some t => match inOrder 0 (parts.toList.map fun p => (p.1, getO B S p.2)) with
    | some xs => match elsOf t xs with
     | some (f, es) => if t.size == sz && es.length == len && decide (len * sz <= 16777216) && (alook B.e S.n).isNone then (putT B ⟨S.t, (S.n, .row f t e fun _ => es.map fun g => g ()) :: S.e, S.n + 1⟩ N d (.own S.n)).map fun S' => (S', []) else none
     | none => none
    | none => none
   | none => none
  | _, _ => none
 | .makeSlice T l c => match tiOf C.ty T, o.dst with
  | some (.slice e sz b), some d => match alook C.tc e with
   | some t => match getO B S l, (getO B S c).asInt with
    | .lit _ 0, some (_, k) => if t.size == sz && (alook B.e S.n).isNone then (putT B ⟨S.t, (S.n, .row true t e fun _ => []) :: S.e, S.n + 1⟩ N d (.own S.n)).map fun S' => (S', [fun _ => 0 <= k () /\ k () * b <= 281474976710656]) else none
    | .int _ n, some (_, k) => match alook C.ty e with
     | some ie => match elOf t (.agg ie.z) with
      | some (f, x) => if t.size == sz && (alook B.e S.n).isNone && !ie.z.isEmpty then (putT B ⟨S.t, (S.n, .row f t e fun _ => List.replicate (n ()).toNat (x ())) :: S.e, S.n + 1⟩ N d (.own S.n)).map fun S' => (S', [fun _ => 0 <= n () /\ n () = k () /\ n () * b <= 281474976710656]) else none
      | none => none
     | none => none
    | _, _ => none
   | none => none
  | _, _ => none
 | .makeMap T none => match tiOf C.ty T, o.dst with
  | some (.map _ _ c t ag), some d => if (alook B.e S.n).isSome then none else (putT B ⟨S.t, (S.n, .map true ag c t T fun _ _ => none) :: S.e, S.n + 1⟩ N d (.mp S.n)).map fun S' => (S', [])
  | _, _ => none
 | .mapUpdate T x i v => match tiOf C.ty T, getO B S x, o.dst with
  | some (.map _ _ c t ag), .mp loc, none => match lookE B S loc, keyAV c (getO B S i) with
   | some (.map fr ag' c' t' T' m), some k => if c' = c /\ t' = t /\ ag' = ag then (match elOfA ag' t' (getO B S v) with
    | some (f, e) => if (alook B.e loc).isNone && noRef loc B.e then some (⟨S.t, (loc, .map (fr && f) ag' c' t' T' fun _ => setM (m ()) (k ()) (e ())) :: dropRef loc S.e, S.n⟩, []) else none
    | none => none) else none
   | _, _ => none
  | _, _, _ => none
 | .mapEntry T x i => match tiOf C.ty T, getO B S x, o.dst with
  | some (.map _ _ c t ag), .mp loc, some d => match lookE B S loc, keyAV c (getO B S i) with
   | some (.map fr ag' c' t' T' m), some k => if c' = c /\ t' = t /\ ag' = ag then (if (alook B.e loc).isNone && noRef loc B.e && (alook B.e S.n).isNone then
    (putT B ⟨S.t, (S.n, .stamp loc c' k) :: (loc, .map fr ag' c' t' T' fun _ => setM (m ()) (k ()) ((m () (k ())).getD t'.dflt)) :: dropRef loc S.e, S.n + 1⟩ N d (.tup [elAV ag' fr t' fun _ => (m () (k ())).getD t'.dflt, .stamp S.n])).map fun S' => (S', []) else none) else none
   | _, _ => none
  | _, _, _ => none
 | .entryStore _ x s v => match getO B S x, getO B S s, o.dst with
  | .mp loc, .stamp l2, none => match lookE B S loc, lookE B S l2 with
   | some (.map fr ag c t T' m), some (.stamp ml c' key) => if ml = loc /\ c' = c then (match elOfA ag t (getO B S v) with
    | some (f, e) => if (alook B.e loc).isNone && noRef loc B.e then some (⟨S.t, (loc, .map (fr && f) ag c t T' fun _ => setM (m ()) (key ()) (e ())) :: dropRef loc S.e, S.n⟩, []) else none
    | none => none) else none
   | _, _ => none
  | _, _, _ => none
 | .call c => match c.callee, c.args.toList, c.argTypes.toList, o.dst with
  | .builtin .append, [s, x], [T, T2], some d => if T == T2 then match tiOf C.ty T with
   | some (.slice e sz b) => match getO B S s with
    | .own loc => match lookE B S loc with
     | some (.row fr t e' l) => if e' == e && t.size == sz && (alook B.e loc).isNone && quiet loc B && !C.fx then match newsOf B S t (getO B S x) with
      | some (f, m) => if AV.has loc (getO B S x) then none else (putT B ⟨(kill loc S).t, (loc, .row (fr && f) t e' fun _ => l () ++ m ()) :: (kill loc S).e, S.n⟩ N d (.own loc)).map fun S' => (S', appendVC (fun _ => (l ()).length) (fun _ => (m ()).length) b)
      | none => none
      else none
     | _ => none
    | .nil => match alook C.tc e with
     | some t => if t.size == sz && (alook B.e S.n).isNone then match newsOf B S t (getO B S x) with
      | some (f, m) => (putT B ⟨S.t, (S.n, .row f t e m) :: S.e, S.n + 1⟩ N d (.own S.n)).map fun S' => (S', appendVC (fun _ => 0) (fun _ => (m ()).length) b)
      | none => none
      else none
     | none => none
    | _ => none
   | _ => none
   else none
  | _, _, _, _ => none
 | _ => none
def callOp (C : Cx) (N : Nat) (B : Bs) (S : Sx) (o : Oper) : Option (Sx × List VC) :=
 match o.op with
 | .call c => match c.callee with
  | .value (.func f) => match findFon C.fs f with
   | some fo => match coercePs (lookE B S) fo.sig (c.args.toList.map (getO B S)) ⟨[], []⟩ with
    | some (avs, st) => match fo.go avs st.es with
     | some res => if st.locs.length == fo.n && freeAll B st.locs && allK (keysOf res.es) fo.n && newFree B (renN st.locs S.n) fo.n (keysOf res.es) && (fo.fix || !C.fx) then
      let S2 : Sx := ⟨(forget fo.fix st.locs S).t, renE (renN st.locs S.n) res.es ++ (forget fo.fix st.locs S).e, S.n + (maxK fo.n (keysOf res.es) - fo.n)⟩
      match o.dst with
      | some d => (putT B S2 N d (AV.ren (renN st.locs S.n) res.av)).map fun S' => (S', [res.pre])
      | none => none
      else none
     | none => none
    | none => none
   | none => none
  | _ => none
 | _ => none
/- what is new, or lies at a place -/
mutual
def AV.nova : AV -> Bool
 | .sl fr _ _ => fr
 | .wide fr _ _ _ => fr
 | .pto _ _ => false
 | .agg cs => AV.novaL cs
 | .tup cs => AV.novaL cs
 | .fn _ cs => AV.novaL cs
 | _ => true
def AV.novaL : List AV -> Bool
 | [] => true
 | x :: l => AV.nova x && AV.novaL l
end
def En.nova : En -> Bool
 | .box _ cs => AV.novaL cs
 | .row fr _ _ _ => fr
 | .map fr _ _ _ _ _ => fr
 | _ => false
def novaE : List (Nat × En) -> Bool
 | [] => true
 | (_, e) :: l => En.nova e && novaE l
def makeOp (C : Cx) (N : Nat) (B : Bs) (S : Sx) (o : Oper) : Option (Sx × List VC) :=
 match o.op with
 | .call c => match c.callee with
  | .value (.func f) => match findFon C.fs f with
   | some fo => match coerceL (lookE B S) fo.sig (c.args.toList.map (getO B S)) with
    | some avs => match fo.go avs [] with
     | some res => if fo.n == 0 && AV.nova res.av && novaE res.es && newFree B (renN [] S.n) 0 (keysOf res.es) && (fo.fix || !C.fx) then
      match o.dst with
      | some d => (putT B ⟨(forget fo.fix [] S).t, renE (renN [] S.n) res.es ++ (forget fo.fix [] S).e, S.n + (maxK 0 (keysOf res.es) - 0)⟩ N d (AV.ren (renN [] S.n) res.av)).map fun S' => (S', [res.pre])
      | none => none
      else none
     | none => none
    | none => none
   | none => none
  | _ => none
 | _ => none
/- a place's name is replaced by what it holds -/
mutual
def AV.frz (loc : Nat) (y : AV) : AV -> AV
 | .own l => cond (l == loc) y (.own l)
 | .orp t l k off => cond (l == loc) .un (.orp t l k off)
 | .pto cs off => .pto (AV.frzL loc y cs) off
 | .agg cs => .agg (AV.frzL loc y cs)
 | .tup cs => .tup (AV.frzL loc y cs)
 | .fn f cs => .fn f (AV.frzL loc y cs)
 | x => x
def AV.frzL (loc : Nat) (y : AV) : List AV -> List AV
 | [] => []
 | x :: l => AV.frz loc y x :: AV.frzL loc y l
end
def frzT (loc : Nat) (y : AV) : List (Nat × AV) -> List (Nat × AV)
 | [] => []
 | (d, x) :: l => (d, AV.frz loc y x) :: frzT loc y l
def frzEn (loc : Nat) (y : AV) : En -> En
 | .box T cs => .box T (AV.frzL loc y cs)
 | e => e
def frzE (loc : Nat) (y : AV) : List (Nat × En) -> List (Nat × En)
 | [] => []
 | (k, e) :: l => cond (k == loc) (frzE loc y l) ((k, frzEn loc y e) :: frzE loc y l)
def frz1 (B : Bs) (S : Sx) (loc : Nat) : Sx := match lookE B S loc with
 | some (.row true t _ l) => cond ((alook B.e loc).isNone && quiet loc B) ⟨frzT loc (.sl true t l) S.t, frzE loc (.sl true t l) S.e, S.n⟩ S
 | _ => S
def frzAll (B : Bs) : List Nat -> Sx -> Sx
 | [], S => S
 | l :: ls, S => frzAll B ls (frz1 B S l)
def AV.ownsL : List AV -> List Nat
 | [] => []
 | .own l :: r => l :: AV.ownsL r
 | _ :: r => AV.ownsL r
def AV.owns : AV -> List Nat
 | .own l => [l]
 | .agg cs => AV.ownsL cs
 | _ => []
def ownsAll : List AV -> List Nat
 | [] => []
 | x :: l => AV.owns x ++ ownsAll l
def pickT : List Nat -> List (Nat × AV) -> List (Nat × AV)
 | [], _ => []
 | d :: ds, l => match alook l d with
  | some x => (d, x) :: pickT ds l
  | none => pickT ds l
def kpAt : List (Nat × List Nat) -> Nat -> Option (List Nat)
 | [], _ => none
 | (k, l) :: m, id => cond (k == id) (some l) (kpAt m id)
def pickS (C : Cx) (id : Nat) (S : Sx) : Sx := match kpAt C.kp id with
 | none => S
 | some ks => ⟨pickT ks S.t, S.e, S.n⟩
def preS (B : Bs) (S : Sx) : Op -> Sx
 | .buildSlice _ _ parts => frzAll B (ownsAll (parts.toList.map fun p => getO B S p.2)) S
 | .store _ ad x => match getO B S ad with
  | .orp _ _ _ _ => frzAll B (AV.owns (getO B S x)) S
  | _ => S
 | .mapUpdate _ _ _ v => frzAll B (AV.owns (getO B S v)) S
 | .entryStore _ _ _ v => frzAll B (AV.owns (getO B S v)) S
 | _ => S
section
variable {w w0 : World} {ρ : Nat -> Option Rl} {base : Nat} {ro : Nat -> Prop} {S0 : Pm} {N : Nat} {B : Bs} {S : Sx} {a : Act}
theorem frzL_get (loc : Nat) (y : AV) : ∀ (l : List AV) (j : Nat), (AV.frzL loc y l)[j]? = (l[j]?).map (AV.frz loc y)
 | [], j => by simp [AV.frzL]
 | x :: l, 0 => by simp [AV.frzL]
 | x :: l, j + 1 => by simp only [AV.frzL, List.getElem?_cons_succ]; exact frzL_get loc y l j
theorem frzL_len (loc : Nat) (y : AV) : ∀ (l : List AV), (AV.frzL loc y l).length = l.length
 | [] => rfl
 | x :: l => by simp [AV.frzL, frzL_len loc y l]
theorem alook_frzT {loc d : Nat} {y : AV} : ∀ (l : List (Nat × AV)), alook (frzT loc y l) d = (alook l d).map (AV.frz loc y)
 | [] => rfl
 | (k, x) :: l => by
  simp only [frzT, alook];split
  . rfl
  . exact alook_frzT l
theorem alook_frzE {loc d : Nat} {y : AV} : ∀ (l : List (Nat × En)), alook (frzE loc y l) d = if d = loc then none else (alook l d).map (frzEn loc y)
 | [] => by simp [frzE, alook]
 | (k, e) :: l => by
  have ih := alook_frzE (loc := loc) (d := d) (y := y) l;simp only [frzE]
  cases hk : k == loc with
  | true =>
   have hk' : k = loc := by simpa using hk
   simp only [cond_true, alook];rw [ih];split
   . rfl
   . rename_i hd;have : (k == d) = false := by simp only [beq_eq_false_iff_ne]; omega
     simp only [this, Bool.false_eq_true, if_false]
  | false =>
   simp only [cond_false, alook];by_cases hkd : k = d
   . subst hkd;have : ¬ k = loc := by simpa using hk
     simp [this]
   . have hkd' : (k == d) = false := by simpa using hkd
     simp only [hkd', Bool.false_eq_true, if_false];exact ih
theorem pickT_get {d : Nat} {x : AV} {l : List (Nat × AV)} : ∀ {ds : List Nat}, alook (pickT ds l) d = some x -> alook l d = some x
 | [], h => by cases h
 | k :: ds, h => by
  unfold pickT at h;split at h
  . rename_i y hy;simp only [alook] at h;split at h
    . rename_i hk;have hk' : k = d := by simpa using hk
      subst hk';rw [hy];exact h
    . exact pickT_get h
  . exact pickT_get h
theorem pickS_ok (C : Cx) (id : Nat) (H : Sim w0 S0 N B S a w) : Sim w0 S0 N B (pickS C id S) a w := by
 unfold pickS;split
 . exact H
 . rename_i ks _;obtain ⟨ρ, ro, H⟩ := H;refine ⟨ρ, ro, H.from_, H.size, H.defers, H.roB, fun d x h => H.tm d x ?_, H.en, H.apart, H.fresh, H.own, H.roS, H.solid, fun d x h => ?_, H.disE⟩
   . unfold lookT at h ⊢;dsimp only at h
     cases hp : alook (pickT ks S.t) d with
     | some y =>
      rw [hp] at h;rw [pickT_get hp];exact h
     | none =>
      rw [hp] at h;rw [H.disT d x h];exact h
   . show alook (pickT ks S.t) d = none
     cases hp : alook (pickT ks S.t) d with
     | none => rfl
     | some y => have := pickT_get hp; rw [H.disT d x h] at this; cases this
theorem AVR.frz_ {x : AV} {v : Value} {loc n c : Nat} {A : Option Addr} {y : AV} (h : AVR w ρ base ro x v) (hr : ρ loc = some (.row A n c)) (hy : AVR w (fun l => if l = loc then none else ρ l) base (fun b => ro b \/ A.map (·.block) = some b) y (.slice A n c)) :
 AVR w (fun l => if l = loc then none else ρ l) base (fun b => ro b \/ A.map (·.block) = some b) (AV.frz loc y x) v := by
 have hρ : ∀ l r, ρ l = some r -> l ≠ loc -> (fun l => if l = loc then none else ρ l) l = some r := fun l r h hl => by simp only [if_neg hl]; exact h
 have hns : ∀ l r, ρ l = some r -> r.solid = true -> l ≠ loc := fun l r h h2 e => by subst e; rw [hr] at h; cases h; cases h2
 induction h with
 | un => exact .un _
 | int => exact .int _ _
 | lit => exact .lit _ _
 | bool => exact .bool _
 | blit => exact .blit _
 | str => exact .str _
 | nil => exact .nil
 | sl fr t l A' c' css hl hc hrd hro1 hfr h ih =>
  refine .sl fr t l A' c' css hl hc hrd (fun a ha hn => .inl (hro1 a ha hn)) hfr fun k cs j x v k1 k2 k3 => ?_;have h1 := h k cs j x v k1 k2 k3;have h2 := hasL_get (cellsAV_has fr t _ loc) k2;exact (h1.move (ρ' := fun l => if l = loc then none else ρ l) h2 fun l r q1 q2 => hρ l r q1 (q2.elim id (hns l r q1))).mono (fun _ _ _ => rfl) (Ext.refl _) (Nat.le_refl _) fun _ hb => .inl hb
 | wide fr t l n A' c' hn h ih => exact .wide fr t l n A' c' hn ih
 | pto cells off b o cs hro1 hlt hl hc h ih =>
  refine .pto _ off b o cs (.inl hro1) hlt (by rw [frzL_len]; exact hl) hc fun j x v k1 k2 => ?_;rw [frzL_get] at k1;obtain ⟨z, k3, rfl⟩ := Option.map_eq_some_iff.1 k1;exact ih j z v k3 k2
 | ptr l off b h => exact .ptr _ _ _ (hρ _ _ h (hns _ _ h rfl))
 | own l A' n' c' h =>
  unfold AV.frz
  cases hl : l == loc with
  | true =>
   have : l = loc := by simpa using hl
   subst this;rw [hr] at h;cases h;exact hy
  | false => exact .own _ _ _ _ (hρ _ _ h (by simpa using hl))
 | orp t l k off A' n' c' b h hA h0 hn =>
  unfold AV.frz
  cases hl : l == loc with
  | true => exact .un _
  | false => exact .orp _ _ _ _ _ _ _ _ (hρ _ _ h (by simpa using hl)) hA h0 hn
 | mp l b h => exact .mp _ _ (hρ _ _ h (hns _ _ h rfl))
 | stamp l s h => exact .stamp _ _ (hρ _ _ h (hns _ _ h rfl))
 | it l l2 b h => exact .it _ _ _ (hρ _ _ h (hns _ _ h rfl))
 | agg l vs hl h ih =>
  refine .agg _ _ (by rw [frzL_len]; exact hl) fun j x v k1 k2 => ?_;rw [frzL_get] at k1;obtain ⟨z, k3, rfl⟩ := Option.map_eq_some_iff.1 k1;exact ih j z v k3 k2
 | tup l vs hl h ih =>
  refine .tup _ _ (by rw [frzL_len]; exact hl) fun j x v k1 k2 => ?_;rw [frzL_get] at k1;obtain ⟨z, k3, rfl⟩ := Option.map_eq_some_iff.1 k1;exact ih j z v k3 k2
 | fn f caps vs hl h ih =>
  refine .fn f _ _ (by rw [frzL_len]; exact hl) fun j x v k1 k2 => ?_;rw [frzL_get] at k1;obtain ⟨z, k3, rfl⟩ := Option.map_eq_some_iff.1 k1;exact ih j z v k3 k2
theorem frz1_ok (hfx : S0.fx = false) (H : Sim w0 S0 N B S a w) (loc : Nat) : Sim w0 S0 N B (frz1 B S loc) a w := by
 obtain ⟨ρ, ro, H⟩ := H;unfold frz1;split
 case h_2 => exact ⟨ρ, ro, H⟩
 rename_i t T l he
 cases hc : (alook B.e loc).isNone && quiet loc B with
 | false => exact ⟨ρ, ro, H⟩
 | true =>
  rw [cond_true];simp only [Bool.and_eq_true, Option.isNone_iff_eq_none] at hc;obtain ⟨hB, hq⟩ := hc;unfold quiet at hq;simp only [Bool.and_eq_true] at hq;obtain ⟨A, c, css, hA, hown, hlen, hcell⟩ := H.en _ _ he;have hown' : OwnS w w0.heap.size T t.size A c css := hown;obtain ⟨y, hy⟩ : ∃ y, AV.sl true t l = y := ⟨_, rfl⟩
  obtain ⟨ρ', hρ'⟩ : ∃ ρ' : Nat -> Option Rl, ρ' = fun l => if l = loc then none else ρ l := ⟨_, rfl⟩
  obtain ⟨ro', hro'⟩ : ∃ ro' : Nat -> Prop, ro' = fun b => ro b \/ A.map (·.block) = some b := ⟨_, rfl⟩
  have hρ : ∀ l r, ρ l = some r -> l ≠ loc -> ρ' l = some r := fun l r h hl => by rw [hρ']; simp only [if_neg hl]; exact h
  have hns : ∀ l r, ρ l = some r -> r.solid = true -> l ≠ loc := fun l r h h2 e => by subst e; rw [hA] at h; cases h; cases h2
  have hback : ∀ l r, ρ' l = some r -> ρ l = some r /\ l ≠ loc := fun l r h => by
   rw [hρ'] at h;simp only at h;split at h
   . cases h
   . rename_i hl; exact ⟨h, hl⟩
  have hmv : ∀ x v, AVR w ρ w0.heap.size ro x v -> AV.has loc x = false -> AVR w ρ' w0.heap.size ro' x v := fun x v h hx => (h.move (ρ' := ρ') hx fun l r q1 q2 => hρ l r q1 (q2.elim id (hns l r q1))).mono (fun _ _ _ => rfl) (Ext.refl _) (Nat.le_refl _) fun _ hb => by rw [hro']; exact .inl hb
  have hbl : ∀ b, A.map (·.block) = some b -> w0.heap.size <= b /\ b < w.heap.size := fun b hb => by
   obtain ⟨ad, h1, h2⟩ := Option.map_eq_some_iff.1 hb;have h3 := hown'.lt h1;rw [h2] at h3;exact h3
  have hyv : AVR w ρ' w0.heap.size ro' y (.slice A (l ()).length c) := by
   rw [<- hy];refine .sl true t l A c css hlen hown'.cap.1 hown'.rd (fun ad ha _ => by rw [hro']; exact .inr (by rw [ha]; rfl)) (fun _ ad ha _ => (hown'.lt ha).1) fun k cs j x v k1 k2 k3 => hmv x v (hcell k cs j x v k1 k2 k3) (hasL_get (cellsAV_has true t _ loc) k2)
  have hall : ∀ x v, AVR w ρ w0.heap.size ro x v -> AVR w ρ' w0.heap.size ro' (AV.frz loc y x) v := fun x v h => by
   rw [hρ', hro'] at hyv ⊢;exact h.frz_ hA hyv
  have hen : ∀ k e, EnR w ρ w0.heap.size ro k e -> k ≠ loc -> (∀ T cs, e = .box T cs -> False) -> EnR w ρ' w0.heap.size ro' k e := fun k e h hk hb => by
   cases e with
   | box T cs => exact (hb T cs rfl).elim
   | row fr t T m =>
    obtain ⟨A1, c1, css1, k1, k2, k3, k4⟩ := h;exact ⟨A1, c1, css1, hρ _ _ k1 hk, k2, k3, fun i cs j x v q1 q2 q3 => hmv x v (k4 i cs j x v q1 q2 q3) (hasL_get (cellsAV_has fr t _ loc) q2)⟩
   | map fr ag c t T m =>
    obtain ⟨b, es, clock, k1, k2, k3, k4⟩ := h;exact ⟨b, es, clock, hρ _ _ k1 hk, k2, k3, k4.map_ fun x v hx => hmv _ v hx (elAV_has _ _ _ _ _)⟩
   | iter ml c seen left =>
    obtain ⟨b, b2, es, clock, since, stamps, c0, k1, k2, k3⟩ := h;exact ⟨b, b2, es, clock, since, stamps, c0, hρ _ _ k1 hk, hρ _ _ k2 (hns _ _ k2 rfl), k3⟩
   | stamp ml c key =>
    obtain ⟨b, es, clock, s, e, k1, k2, k3⟩ := h;exact ⟨b, es, clock, s, e, hρ _ _ k1 hk, hρ _ _ k2 (hns _ _ k2 rfl), k3⟩
   | dead =>
    obtain ⟨r, k1⟩ := h;exact ⟨r, hρ _ _ k1 hk⟩
  refine ⟨ρ', ro', H.from_, H.size, H.defers, fun b hb => ?_, fun d x h => ?_, fun k e h => ?_, fun k k' r r' b hne h1 h2 => H.apart k k' r r' b hne (hback _ _ h1).1 (hback _ _ h2).1, fun k hk => ?_, fun k r b h1 h2 => ?_, fun b hb hlt => ?_, fun k r h1 h2 => ?_, fun d x h => ?_, fun k e h => ?_⟩
  . rw [hro'] at hb;exact hb.elim (H.roB b) fun h => (hbl b h).2
  . unfold lookT at h;dsimp only at h;rw [alook_frzT] at h
    cases hd : alook S.t d with
    | none =>
     rw [hd] at h;obtain ⟨u, h1, h2⟩ := H.tm d x (by unfold lookT; rw [hd]; exact h);exact ⟨u, h1, hmv x u h2 (quietT_get hq.1 h)⟩
    | some z =>
     rw [hd] at h;simp only [Option.map_some, Option.some.injEq] at h;obtain ⟨u, h1, h2⟩ := H.tm d z (by unfold lookT; rw [hd]);refine ⟨u, h1, ?_⟩;rw [<- h, hy];exact hall z u h2
  . unfold lookE at h;dsimp only at h;rw [alook_frzE] at h;by_cases hk : k = loc
    . rw [if_pos hk, hk, hB] at h;cases h
    rw [if_neg hk] at h
    cases hd : alook S.e k with
    | none =>
     rw [hd] at h;have h1 := H.en k e (by unfold lookE; rw [hd]; exact h)
     cases e with
     | box T cs =>
      obtain ⟨b, us, k1, k4, k5⟩ := h1;exact ⟨b, us, hρ _ _ k1 hk, k4, k5.1, fun j x v hx hv => hmv x v (k5.2 j x v hx hv) (hasL_get (quietE_get hq.2 h) hx)⟩
     | row fr t T m => exact hen _ _ h1 hk (fun _ _ h => by cases h)
     | map fr ag c t T m => exact hen _ _ h1 hk (fun _ _ h => by cases h)
     | iter ml c seen left => exact hen _ _ h1 hk (fun _ _ h => by cases h)
     | stamp ml c key => exact hen _ _ h1 hk (fun _ _ h => by cases h)
     | dead => exact hen _ _ h1 hk (fun _ _ h => by cases h)
    | some z =>
     rw [hd] at h;simp only [Option.map_some, Option.some.injEq] at h;have h1 := H.en k z (by unfold lookE; rw [hd]);rw [<- h, hy]
     cases z with
     | box T cs =>
      obtain ⟨b, us, k1, k4, k5⟩ := h1;refine ⟨b, us, hρ _ _ k1 hk, k4, by rw [frzL_len]; exact k5.1, fun j x v hx hv => ?_⟩;rw [frzL_get] at hx;obtain ⟨z, k3, rfl⟩ := Option.map_eq_some_iff.1 hx;exact hall z v (k5.2 j z v k3 hv)
     | row fr t T m => exact hen _ _ h1 hk (fun _ _ h => by cases h)
     | map fr ag c t T m => exact hen _ _ h1 hk (fun _ _ h => by cases h)
     | iter ml c seen left => exact hen _ _ h1 hk (fun _ _ h => by cases h)
     | stamp ml c key => exact hen _ _ h1 hk (fun _ _ h => by cases h)
     | dead => exact hen _ _ h1 hk (fun _ _ h => by cases h)
  . have h1 := H.fresh k hk;rw [hρ'];simp only [h1];split <;> rfl
  . obtain ⟨h3, h4⟩ := hback _ _ h1;have h5 := H.own k r b h3 h2;refine ⟨h5.1, fun hb => ?_, h5.2.2⟩;rw [hro'] at hb;rcases hb with hb | hb
    . exact h5.2.1 hb
    . exact H.apart k loc r _ b h4 h3 hA h2 hb
  . rw [hro'] at hb;rcases hb with hb | hb
    . exact H.roS b hb hlt
    . have := (hbl b hb).1;omega
  . have h3 := H.solid k r h1 h2;rw [hfx, Bool.or_false] at h2;exact hρ _ _ h3 (hns _ _ h3 h2)
  . show alook (frzT loc _ S.t) d = none
    rw [alook_frzT, H.disT d x h];rfl
  . show alook (frzE loc _ S.e) k = none
    rw [alook_frzE, H.disE k e h];split <;> rfl
theorem frzAll_ok (hfx : S0.fx = false) : ∀ {ls : List Nat} {S : Sx}, Sim w0 S0 N B S a w -> Sim w0 S0 N B (frzAll B ls S) a w
 | [], _, H => H
 | l :: ls, _, H => frzAll_ok hfx (ls := ls) (frz1_ok hfx H l)
theorem preS_ok (hfx : S0.fx = false) (H : Sim w0 S0 N B S a w) (op : Op) : Sim w0 S0 N B (preS B S op) a w := by
 unfold preS;split
 . exact frzAll_ok hfx H
 . split
   . exact frzAll_ok hfx H
   . exact H
 . exact frzAll_ok hfx H
 . exact frzAll_ok hfx H
 . exact H
end
structure Lp where
 X : Type
 ov : X -> List (Nat × AV)
 oe : X -> List (Nat × En)
 I : X -> Prop
 μ : X -> Unit -> Nat
 x0 : X
 nx : Option (X -> X)
inductive Fm where
 | ff (why : Nat)
 | vc (l : List VC) (A : Fm)
 | br (c : Unit -> Bool) (A B : Fm)
 | fin (l : List VC)
 | and (A B : Fm)
 | all (X : Type) (I : X -> Prop) (f : X -> Fm)
 | ex (X : Type) (I : X -> Prop) (f : X -> Fm)
 | exl (f : Lp -> Fm)
def allVC : List VC -> Prop
 | [] => True
 | [c] => c ()
 | c :: l => c () /\ allVC l
def Fm.P : Fm -> Prop
 | .ff _ => False
 | .vc l A => allVC l /\ A.P
 | .br c A B => (c () = true -> A.P) /\ (c () = false -> B.P)
 | .fin l => allVC l
 | .and A B => A.P /\ B.P
 | .all _ I f => ∀ x, I x -> (f x).P
 | .ex _ I f => ∃ x, I x /\ (f x).P
 | .exl f => ∃ lp, (f lp).P
inductive Kt where
 | code (c : Code)
 | block (id : Nat)
 | back (Bo K : Bs) (f : Bs -> Sx -> Fm)
 | again (b : Code)
/- what a piece of code writes -/
def modsOps : List Oper -> List Nat
 | [] => []
 | o :: l => match o.dst with
  | some d => d :: modsOps l
  | none => modsOps l
def mods : Code -> List Nat
 | .region _ ops _ => modsOps ops.toList
 | .seq a b => mods a ++ mods b
 | .cond _ a b => mods a ++ mods b
 | .block _ b => mods b
 | .loop b => mods b
 | .scope b => mods b
 | _ => []
def keyOf : Code -> Option Nat
 | .region id _ _ => some id
 | .seq a b => match keyOf a with
  | some k => some k
  | none => keyOf b
 | .cond _ a b => match keyOf a with
  | some k => some k
  | none => keyOf b
 | .block _ b => keyOf b
 | .loop b => keyOf b
 | .scope b => keyOf b
 | _ => none
def ltB (n l : Nat) : Bool := decide (l < n)
/- the places that are named are such as p says -/
mutual
def AV.under (p : Nat -> Bool) : AV -> Bool
 | .own l => p l
 | .orp _ l _ _ => p l
 | .ptr l _ => p l
 | .mp l => p l
 | .stamp l => p l
 | .it _ l => p l
 | .pto cs _ => AV.underL p cs
 | .agg cs => AV.underL p cs
 | .tup cs => AV.underL p cs
 | .fn _ cs => AV.underL p cs
 | _ => true
def AV.underL (p : Nat -> Bool) : List AV -> Bool
 | [] => true
 | x :: l => AV.under p x && AV.underL p l
end
def hasAny (x : AV) : List Nat -> Bool
 | [] => false
 | l :: ls => AV.has l x || hasAny x ls
def keepT (md locs : List Nat) (n : Nat) : List (Nat × AV) -> List (Nat × AV)
 | [] => []
 | (d, x) :: l => if memN d md then keepT md locs n l else (d, if hasAny x locs || !AV.under (ltB n) x then .un else x) :: keepT md locs n l
def unSlots (locs : List Nat) (n : Nat) : List (Nat × AV) -> List Nat
 | [] => []
 | (d, x) :: l => match hasAny x locs || !AV.under (ltB n) x with
  | true => d :: unSlots locs n l
  | false => unSlots locs n l
def modsU (b : Code) (locs : List Nat) (n : Nat) (l : List (Nat × AV)) : List Nat := mods b ++ unSlots locs n l
def keepC (locs : List Nat) (n : Nat) : List AV -> List AV
 | [] => []
 | x :: l => (if hasAny x locs || !AV.under (ltB n) x then .un else x) :: keepC locs n l
def keepEn (locs : List Nat) (n : Nat) : En -> En
 | .box T cs => .box T (keepC locs n cs)
 | .iter ml c seen left => if memN ml locs || decide (n <= ml) then .dead else .iter ml c seen left
 | .stamp _ _ _ => .dead
 | e => e
def keepE (locs : List Nat) (n : Nat) : List (Nat × En) -> List (Nat × En)
 | [] => []
 | (k, e) :: l => if memN k locs || decide (n <= k) then keepE locs n l else (k, keepEn locs n e) :: keepE locs n l
def sameN : List Nat -> List Nat -> Bool
 | [], [] => true
 | a :: l, b :: m => a == b && sameN l m
 | _, _ => false
def belowT (p : Nat -> Bool) : List (Nat × AV) -> Bool
 | [] => true
 | (_, x) :: l => AV.under p x && belowT p l
def toT (F : Tc -> Type) {t t' : Tc} (h : t = t') (x : F t) : F t' := h ▸ x
/- is what is there as is wanted? -/
def eqInt (a b : Unit -> Int) : List VC := [fun _ => a () = b ()]
mutual
def eqAV (fz : Option (List Nat)) (B : Bs) (S : Sx) : AV -> AV -> Option (List VC)
 | _, .un => some []
 | .int k a, .int k' b => if k = k' then some (eqInt a b) else none
 | .lit k a, .int k' b => if k = k' then some [fun _ => a = b ()] else none
 | .int k a, .lit k' b => if k = k' then some [fun _ => a () = b] else none
 | .lit k a, .lit k' b => if k = k' /\ a = b then some [] else none
 | .bool a, .bool b => some [fun _ => a () = b ()]
 | .blit a, .bool b => some [fun _ => a = b ()]
 | .bool a, .blit b => some [fun _ => a () = b]
 | .blit a, .blit b => if a = b then some [] else none
 | .str a, .str b => some [fun _ => a () = b ()]
 | .nil, .nil => some []
 | .nil, .sl _ _ l => some [fun _ => l () = []]
 | .nil, .own loc => match fz with
  | none => if decide (S.n <= loc) then some [] else none
  | some _ => none
 | .sl fr t l, .sl fr' t' m => if h : t' = t then (if fr || !fr' then some [fun _ => l () = toT (fun t => List t.el) h (m ())] else none) else none
 | .own loc, .sl fr' t' m => match fz with
  | none => none
  | some ks => if memN loc ks then none else match lookE B S loc with
   | some (.row fr t _ l) => if h : t' = t then (if fr || !fr' then some [fun _ => l () = toT (fun t => List t.el) h (m ())] else none) else none
   | _ => none
 | .wide fr t l n, .sl fr' t' m => if h : t' = t then (if fr || !fr' then some [fun _ => (l ()).take (n ()) = toT (fun t => List t.el) h (m ())] else none) else none
 | .wide fr t l n, .wide fr' t' m k => if h : t' = t then (if fr || !fr' then some [fun _ => l () = toT (fun t => List t.el) h (m ()), fun _ => n () = k ()] else none) else none
 | .own loc, .own loc' => if loc = loc' then some [] else none
 | .ptr loc off, .ptr loc' off' => if loc = loc' /\ off = off' then some [] else none
 | .mp loc, .mp loc' => if loc = loc' then some [] else none
 | .it l l2, .it l' l2' => if l = l' /\ l2 = l2' then some [] else none
 | .agg l, .agg m => eqAVs fz B S l m
 | .tup l, .tup m => eqAVs fz B S l m
 | .fn f l, .fn g m => if f = g then eqAVs fz B S l m else none
 | _, _ => none
def eqAVs (fz : Option (List Nat)) (B : Bs) (S : Sx) : List AV -> List AV -> Option (List VC)
 | [], [] => some []
 | x :: l, y :: m => match eqAV fz B S x y, eqAVs fz B S l m with
  | some a, some b => some (a ++ b)
  | _, _ => none
 | _, _ => none
end
def eqTs (B : Bs) (S : Sx) : List (Nat × AV) -> Option (List VC)
 | [] => some []
 | (d, y) :: l => match lookT B S d, eqTs B S l with
  | some x, some b => (eqAV none B S x y).map fun a => a ++ b
  | _, _ => none
def eqEs (fz : Option (List Nat)) (B : Bs) (S : Sx) : List (Nat × En) -> Option (List VC)
 | [] => some []
 | (k, .box T cs) :: l => match lookE B S k with
  | some (.box T' cs') => if T = T' then (match eqAVs fz B S cs' cs, eqEs fz B S l with
   | some a, some b => some (a ++ b)
   | _, _ => none) else none
  | _ => none
 | (k, .row fr t T m) :: l => match eqEs fz B S l with
  | some b => match lookE B S k with
   | some (.row fr' t' T' m') => if h : t = t' then (if T = T' /\ (fr' || !fr) = true then some ((fun _ => m' () = toT (fun t => List t.el) h (m ())) :: b) else none) else none
   | some _ => none
   | none => match fz with
    | none => if S.n <= k then some ((fun _ => m () = []) :: b) else none
    | some _ => none
  | none => none
 | (k, .map fr ag c t T m) :: l => match eqEs fz B S l with
  | some b => match lookE B S k with
   | some (.map fr' ag' c' t' T' m') => if h : t = t' then (if T = T' /\ ag = ag' /\ c = c' /\ (fr' || !fr) = true then some ((fun _ => m' () = toT (fun t => List Kx -> Option t.el) h (m ())) :: b) else none) else none
   | _ => none
  | none => none
 | (k, .iter ml c seen left) :: l => match eqEs fz B S l with
  | some b => match lookE B S k with
   | some (.iter ml' c' seen' left') => if ml = ml' /\ c = c' then some ((fun _ => seen' () = seen ()) :: (fun _ => left' () = left ()) :: b) else none
   | _ => none
  | none => none
 | (_, .stamp _ _ _) :: _ => none
 | (_, .dead) :: _ => none
def En.under (p : Nat -> Bool) : En -> Bool
 | .box _ cs => AV.underL p cs
 | .iter ml _ _ _ => p ml
 | .stamp ml _ _ => p ml
 | _ => true
def belowE (p : Nat -> Bool) : List (Nat × En) -> Bool
 | [] => true
 | (k, e) :: l => p k && En.under p e && belowE p l
def apartK {α β : Type} (l : List (Nat × α)) : List (Nat × β) -> Bool
 | [] => true
 | (d, _) :: m => (alook l d).isNone && apartK l m
def eqS (B : Bs) (S : Sx) (ov : List (Nat × AV)) (oe : List (Nat × En)) : Fm :=
 match eqTs B S ov, eqEs none B S oe with
 | some a, some b => .fin (a ++ b)
 | _, _ => .ff 1
inductive Wd where
 | yes | no | ask (d : Nat) (c : Unit -> Bool) (b : Bool) | stuck
def wantedAV (B : Bs) (S : Sx) (ops : List Oper) (o : Oper) : Wd :=
 match o.guard with
 | none => .yes
 | some (j, b) => match (ops[j]?).bind (·.dst) with
  | some d => match getT B S d with
   | .blit c => if c = b then .yes else .no
   | .bool c => .ask d c b
   | .tup [] => .no
   | _ => .stuck
  | none => .stuck
def stepOp (C : Cx) (N : Nat) (B : Bs) (S : Sx) (o : Oper) : Option (Sx × List VC) :=
 match pureOp C.ty C.cs (lookE B S) (getO B S) o.op with
 | some (av, vcs) => match o.dst with
  | some d => (putT B S N d av).map fun S' => (S', vcs)
  | none => some (S, vcs)
 | none => match memOp C N B (cond C.fx S (preS B S o.op)) o with
  | some r => some r
  | none => match callOp C N B S o with
   | some r => some r
   | none => makeOp C N B S o
def splitOp (C : Cx) (N : Nat) (B : Bs) (S : Sx) (o : Oper) : Option ((Sx -> Fm) -> Fm) :=
 match o.op with
 | .range T x => match tiOf C.ty T, getO B S x, o.dst with
  | some (.map _ _ _ _ _), .mp loc, some d => match lookE B S loc with
   | some (.map _ _ c _ _ _) => match (alook B.e S.n).isNone, putT B ⟨S.t, S.e, S.n + 1⟩ N d (.it loc S.n) with
    | true, some S' => some fun K => .all Nat (fun _ => True) fun n => K ⟨S'.t, (S.n, .iter loc c (fun _ => []) fun _ => n) :: S'.e, S'.n⟩
    | _, _ => none
   | _ => none
  | _, _, _ => none
 | .next x false => match getO B S x, o.dst with
  | .it loc l2, some d => match lookE B S loc, lookE B S l2 with
   | some (.map _ _ c _ _ m), some (.iter ml c' seen left) => if ml = loc /\ c' = c /\ (alook B.e l2).isNone = true then
    match putT B S N d (.tup [.blit false]), putT B S N d (.tup [.blit true, .un, .un]) with
    | some S1, some S2 => some fun K => .br (fun _ => left () == 0) (.all Unit (fun _ => ∀ key x, fitsL c.ls key = true -> m () key = some x -> key ∈ seen ()) fun _ => K S1) (.all (List Kx × Nat) (fun p => fitsL c.ls p.1 = true /\ (m () p.1).isSome = true /\ p.1 ∉ seen () /\ p.2 < left ()) fun p => K ⟨S2.t, (l2, .iter loc c (fun _ => p.1 :: seen ()) fun _ => p.2) :: S2.e, S2.n⟩)
    | _, _ => none
    else none
   | _, _ => none
  | _, _ => none
 | _ => none
def skipOp (N : Nat) (B : Bs) (S : Sx) (o : Oper) : Option Sx := match o.dst with
 | some d => putT B S N d (.tup [])
 | none => some S
def goOps (C : Cx) (N : Nat) (B : Bs) (ops : List Oper) : List Oper -> Sx -> (Sx -> Fm) -> Fm
 | [], S, k => k S
 | o :: rest, S, k =>
  let go (S : Sx) : Fm := match splitOp C N B S o with
   | some f => f fun S' => goOps C N B ops rest S' k
   | none => match stepOp C N B S o with
    | some (S', []) => goOps C N B ops rest S' k
    | some (S', vcs) => .vc vcs (goOps C N B ops rest S' k)
    | none => .ff (1000 + rest.length)
  let no (S : Sx) : Fm := match skipOp N B S o with
   | some S' => goOps C N B ops rest S' k
   | none => .ff 3
  match wantedAV B S ops o with
  | .yes => go S
  | .no => no S
  | .ask d c b => match putT B S N d (.blit true), putT B S N d (.blit false) with
   | some S1, some S2 => .br c (if b then go S1 else no S1) (if b then no S2 else go S2)
   | _, _ => .ff 4
  | .stuck => .ff 5
def isPure (ef : List Nat) : Op -> Bool
 | .alloc _ => false
 | .box _ _ => false
 | .store _ _ _ => false
 | .buildSlice _ _ _ => false
 | .makeSlice _ _ _ => false
 | .makeMap _ _ => false
 | .mapUpdate _ _ _ _ => false
 | .mapEntry _ _ _ => false
 | .entryStore _ _ _ _ => false
 | .insert _ _ _ _ => false
 | .range _ _ => false
 | .next _ _ => false
 | .call c => match c.callee with
  | .builtin .len => true
  | .builtin .min => true
  | .builtin .max => true
  | .builtin _ => false
  | .value (.func f) => !memN f ef
  | _ => true
 | _ => true
def isEntry : Op -> Bool
 | .mapEntry _ _ _ => true
 | _ => false
def isReg : Op -> Bool
 | .move _ => true
 | .assign _ => true
 | .binOp _ _ _ _ _ => true
 | .unOp _ _ _ => true
 | .convert _ _ _ => true
 | .fieldAddr _ _ _ => true
 | .indexAddr _ _ _ => true
 | .extract _ _ => true
 | _ => false
def isEarly (ef : List Nat) (me : Bool) (op : Op) : Bool := isPure ef op && (!me || isReg op)
def earlyGo (ef : List Nat) (me : Bool) : List Oper -> List Bool -> List Bool
 | [], acc => acc
 | o :: l, acc => earlyGo ef me l (acc ++ [isEarly ef me o.op && o.after.all fun e => !Region.binds .any e || acc.getD e.on false])
def ancGo (l : List Oper) : Nat -> List Nat -> List Nat
 | 0, acc => acc
 | j + 1, acc => ancGo l j (match memN j acc with
  | true => (match l[j]? with
   | some o => (o.after.toList.filter fun e => Region.binds .any e).map (fun e => e.on) ++ acc
   | none => acc)
  | false => acc)
def firstNo : Nat -> List Bool -> Option Nat
 | _, [] => none
 | i, b :: l => if b then firstNo (i + 1) l else some i
def freeB (l : List Oper) (f : List Bool) : Bool := match firstNo 0 f with
 | none => false
 | some j =>
  let an := ancGo l (j + 1) [j]
  (List.range l.length).any fun i => f.getD i false && !memN i an && match l[i]? with
   | some o => !isReg o.op
   | none => false
def modeOf (ef : List Nat) (l : List Oper) : Bool := (l.any fun o => isEntry o.op) || freeB l (earlyGo ef false l [])
def sigma (ef : List Nat) (l : List Oper) : List Nat :=
 let f := earlyGo ef (modeOf ef l) l []
 ((List.range l.length).filter fun i => f.getD i false) ++ (List.range l.length).filter fun i => !f.getD i false
def preLenM (ef : List Nat) (me : Bool) : List Oper -> Nat
 | [] => 0
 | o :: l => if isEarly ef me o.op then preLenM ef me l + 1 else 0
def preLen (ef : List Nat) (l : List Oper) : Nat := preLenM ef (modeOf ef l) l
def fzAt : List (Nat × List Nat) -> Nat -> List Nat
 | [], _ => []
 | (k, l) :: m, id => cond (k == id) l (fzAt m id)
def join (K B : Bs) : Bs := ⟨K.t ++ B.t, K.e ++ B.e⟩
def leave (K : Bs) (S : Sx) : Sx := ⟨S.t ++ K.t, S.e ++ K.e, S.n⟩
def readsC (l : List Oper) (np : Nat) : Bool := (List.range np).all fun i => match l[i]? with
 | some o => (match o.guard with
  | none => true
  | some (j, _) => decide (j < i) && o.after.any fun e => Region.binds .any e && e.on == j) && !isSel o.op && o.op.operands.toList.all fun x => match x with
  | .tmp s => slotB l np i o s
  | _ => true
 | none => false
def posN : List Nat -> Nat -> Nat
 | [], _ => 0
 | k :: l, j => if k = j then 0 else posN l j + 1
def remapE (σ : List Nat) (e : Edge) : Edge := { e with on := posN σ e.on }
def remapO (σ : List Nat) (o : Oper) : Oper := { o with after := o.after.map (remapE σ), guard := match o.guard with
 | some (g, b) => some (posN σ g, b)
 | none => none }
def dumO : Oper := ⟨none, .move (.const (.bool false)), 0, "", #[], none⟩
def permL (σ : List Nat) (l : List Oper) : List Oper := σ.map fun i => remapO σ (match l[i]? with
 | some o => o
 | none => dumO)
def permB (σ : List Nat) (n : Nat) : Bool := σ.length == n && ((List.range n).all fun j => σ[posN σ j]? == some j) && (List.range n).all fun k => match σ[k]? with
 | some i => decide (i < n) && posN σ i == k
 | none => false
def apartB (l : List Oper) (i : Nat) : Bool := match l[i]? with
 | some oi => (List.range l.length).all fun j => match l[j]? with
  | some oj => i == j || (oi.after.any fun e => Region.binds .any e && e.on == j) || (oj.after.any fun e => Region.binds .any e && e.on == i) || oi.apart l.toArray oj
  | none => true
 | none => true
def orderR (l : List Oper) (np : Nat) (reg : Nat -> Bool) : Bool :=
 (List.range l.length).all fun j => match l[j]? with
  | some o => (o.after.all fun e => !Region.binds .any e || decide (e.on < j)) && (decide (j < np) || (List.range np).all fun i => reg i || waits .any l.toArray l.length j i)
  | none => false
def laid (ef : List Nat) (l : List Oper) : List Oper := permL (sigma ef l) l
def regAt (l : List Oper) (np i : Nat) : Bool := decide (i < np) && match l[i]? with
 | some o => isReg o.op
 | none => false
def drawOk (ef : List Nat) (ops : List Oper) (N : Nat) : Bool :=
 let l := laid ef ops
 let np := preLen ef l
 permB (sigma ef ops) ops.length && (orderR l np (regAt l np) && (dstsB l np N && (readsC l np && ((List.range np).all (fun i => !regAt l np i || apartB l i) && l.all fun o => !isSel o.op))))
def drawOkG (ef : List Nat) (σ : List Nat) (np : Nat) (ops : List Oper) (N : Nat) : Bool :=
 let l := permL σ ops
 decide (np <= l.length) && ((l.take np).all (fun o => isPure ef o.op) && (permB σ ops.length && (orderR l np (regAt l np) && (dstsB l np N && (readsC l np && ((List.range np).all (fun i => !regAt l np i || apartB l i) && l.all fun o => !isSel o.op))))))
def chainB (l : List Oper) (np : Nat) : Bool := (List.range l.length).all fun j => decide (j <= np) || match l[j]? with
 | some o => o.after.any fun e => Region.binds .any e && e.on == j - 1
 | none => false
def readyN (l : List Oper) (done : List Nat) : List Nat := (List.range l.length).filter fun i => match l[i]? with
 | some o => !memN i done && o.after.all fun e => !Region.binds .any e || memN e.on done
 | none => false
def andAll : List Nat -> (Nat -> Fm) -> Fm
 | [], _ => .ff 19
 | [i], f => f i
 | i :: l, f => .and (f i) (andAll l f)
def firstReg (l : List Oper) : List Nat -> Option Nat
 | [] => none
 | i :: is => if (match l[i]? with
  | some o => isReg o.op && o.dst.isSome && apartB l i
  | none => false) then some i else firstReg l is
def isStill : Op -> Bool
 | .move _ => true
 | .assign _ => true
 | .load _ _ => true
 | .indexAddr _ _ _ => true
 | .unOp _ _ _ => true
 | .fieldAddr _ _ _ => true
 | .extract _ _ => true
 | _ => false
def stillOk (l : List Oper) (done : List Nat) (i : Nat) : Bool := match l[i]? with
 | some oi => isStill oi.op && (oi.dst.isSome && (List.range l.length).all fun j => j == i || (memN j done || (waits .any l.toArray l.toArray.size j i || match l[j]? with
  | some oj => oi.apart l.toArray oj && isStill oj.op
  | none => true)))
 | none => false
def firstStill (l : List Oper) (done : List Nat) : List Nat -> Option Nat
 | [] => none
 | i :: is => if stillOk l done i then some i else firstStill l done is
def goLate (C : Cx) (N : Nat) (B : Bs) (l : List Oper) : Nat -> List Nat -> Sx -> (Sx -> Fm) -> Fm
 | 0, done, S, k => match readyN l done with
  | [] => k S
  | _ => .ff 19
 | fuel + 1, done, S, k =>
  let one (i : Nat) : Fm := match l[i]? with
   | some o => goOps C N B l [o] S fun S' => goLate C N B l fuel (i :: done) S' k
   | none => .ff 19
  match readyN l done with
  | [] => k S
  | [i] => one i
  | is => match firstReg l is with
   | some i => one i
   | none => andAll is one
def goDrawN (C : Cx) (N : Nat) (B : Bs) (l : List Oper) (np : Nat) (S : Sx) (k : Sx -> Fm) : Fm :=
 goOps C N B l (l.take np) S fun S' => match chainB l np with
  | true => goOps C N B l (l.drop np) S' k
  | false => goLate C N B l (l.length - np) (List.range np) S' k
def goDraw (C : Cx) (N : Nat) (B : Bs) (l : List Oper) (S : Sx) (k : Sx -> Fm) : Fm := goDrawN C N B l (preLen (efs C.fs) l) S k
def goSch (C : Cx) (N : Nat) (B : Bs) (ops : List Oper) : Sch -> Sx -> (Sx -> Fm) -> Fm
 | .nil, S, k => k S
 | .bad, _, _ => .ff 20
 | .op i r, S, k => match ops[i]? with
  | some o => goOps C N B ops [o] S fun S' => goSch C N B ops r S' k
  | none => .ff 21
 | .alt a b, S, k => .and (goSch C N B ops a S k) (goSch C N B ops b S k)
def schAt : List (Nat × Sch) -> Nat -> Option Sch
 | [], _ => none
 | (k, s) :: m, id => cond (k == id) (some s) (schAt m id)
def latAt : List (Nat × Lat) -> Nat -> Option Lat
 | [], _ => none
 | (k, s) :: m, id => cond (k == id) (some s) (latAt m id)
def schList : List Nat -> Sch -> Sch
 | [], r => r
 | i :: is, r => .op i (schList is r)
def uniqE (ks : List Nat) : List (Nat × En) -> List (Nat × En)
 | [] => []
 | (k, e) :: l => match memN k ks, e with
  | true, _ => uniqE ks l
  | false, .stamp _ _ _ => uniqE (k :: ks) l
  | false, .dead => uniqE (k :: ks) l
  | false, e => (k, e) :: uniqE (k :: ks) l
def detOp (C : Cx) (N : Nat) (B : Bs) (ops : List Oper) (o : Oper) (S : Sx) : Option Sx := match wantedAV B S ops o with
 | .yes => match splitOp C N B S o with
  | some _ => none
  | none => match stepOp C N B S o with
   | some (S', _) => some S'
   | none => none
 | .no => skipOp N B S o
 | _ => none
def ndPick (ks : List Nat) (S : Sx) : Sx := ⟨pickT ks S.t, uniqE [] S.e, S.n⟩
def latSt (C : Cx) (N : Nat) (B : Bs) (ops : List Oper) : List Nd -> List (Sx × List Nat) -> Option (List (Sx × List Nat))
 | [], acc => some acc
 | nd :: nds, acc => match acc[nd.up.1]?, ops[nd.up.2]? with
  | some p, some o => match detOp C N B ops o p.1 with
   | some S' => latSt C N B ops nds (acc ++ [(ndPick nd.ks S', p.2 ++ List.replicate (S'.n - p.1.n) nd.up.2)])
   | none => none
  | _, _ => none
def cntN (x : Nat) : List Nat -> Nat
 | [] => 0
 | y :: l => cond (y == x) (cntN x l + 1) (cntN x l)
def nthN (x : Nat) : Nat -> List Nat -> Nat
 | _, [] => 0
 | k, y :: l => match y == x, k with
  | true, 0 => 0
  | true, k + 1 => nthN x k l + 1
  | false, k => nthN x k l + 1
def renOf (b : List Nat) : List Nat -> List Nat -> List Nat
 | _, [] => []
 | seen, x :: l => nthN x (cntN x seen) b :: renOf b (x :: seen) l
def gO (n0 : Nat) (σ : List Nat) (l : Nat) : Nat := match decide (l < n0) with
 | true => l
 | false => match σ[l - n0]? with
  | some k => n0 + k
  | none => l
def renT (g : Nat -> Nat) : List (Nat × AV) -> List (Nat × AV)
 | [] => []
 | (k, x) :: l => (k, AV.ren g x) :: renT g l
def toF (B : Bs) (n0 : Nat) (own : List Nat) (T : Sx × List Nat) (S' : Sx) : Fm := match S'.n == T.1.n with
 | true => match sameN (renOf T.2 [] own) (List.range own.length) with
  | true => eqS B S' T.1.t T.1.e
  | false => match permB (renOf T.2 [] own) own.length && decide (n0 + own.length <= S'.n) with
   | true => eqS B ⟨renT (gO n0 (renOf T.2 [] own)) S'.t, renE (gO n0 (renOf T.2 [] own)) S'.e, S'.n⟩ T.1.t T.1.e
   | false => .ff 26
 | false => .ff 27
def isUp (nds : List Nd) (t j oi : Nat) : Bool := match nds[t]? with
 | some nd => nd.up.1 == j && (nd.up.2 == oi && !(t == 0))
 | none => false
def edF (C : Cx) (N : Nat) (B : Bs) (ops : List Oper) (n0 : Nat) (nds : List Nd) (sts : List (Sx × List Nat)) (j : Nat) (Sj : Sx × List Nat) : List (Nat × Nat × Nat) -> Fm -> Fm
 | [], A => A
 | (_, oi, t) :: es, A => match ops[oi]?, sts[t]? with
  | some o, some T => .and (match isUp nds t j oi with
   | true => goOps C N B ops [o] Sj.1 fun _ => .fin []
   | false => goOps C N B ops [o] Sj.1 fun S' => toF B n0 (Sj.2 ++ List.replicate (S'.n - Sj.1.n) oi) T S') (edF C N B ops n0 nds sts j Sj es A)
  | _, _ => .ff 28
def okN (B : Bs) (S : Sx) : Bool := belowT (ltB S.n) S.t && (belowE (ltB S.n) S.e && (apartK B.t S.t && apartK B.e S.e))
def ndF (C : Cx) (N : Nat) (B : Bs) (ops : List Oper) (n0 : Nat) (nds : List Nd) (sts : List (Sx × List Nat)) (k : Sx -> Fm) : Nat -> List Nd -> Fm
 | _, [] => .ff 29
 | j, nd :: r => match sts[j]? with
  | some Sj => match okN B Sj.1 with
   | true => match nd.ed with
    | [] => k Sj.1
    | es => edF C N B ops n0 nds sts j Sj es (ndF C N B ops n0 nds sts k (j + 1) r)
   | false => .ff 24
  | none => .ff 30
def latF (C : Cx) (N : Nat) (B : Bs) (ops : List Oper) (nds : List Nd) (S : Sx) (k : Sx -> Fm) : Fm := match nds with
 | [] => k S
 | nd :: r => match decide (C.nb <= S.n) && (belowT (ltB S.n) B.t && belowE (ltB S.n) B.e) with
  | true => match latSt C N B ops r [(ndPick nd.ks S, [])] with
   | some sts => ndF C N B ops S.n (nd :: r) sts k 0 (nd :: r)
   | none => .ff 22
  | false => .ff 25
def goReg (C : Cx) (N : Nat) (B : Bs) (id : Nat) (ops : List Oper) (S : Sx) (k : Sx -> Fm) : Fm := match latAt C.lt id with
 | some t => goSch C N B ops (schList t.row .nil) S fun S' => goSch C N B ops (schList t.pre .nil) S' fun S' => latF C N B ops t.nds S' fun S' => goSch C N B ops (schList t.post .nil) S' k
 | none => match schAt C.sc id with
  | some s => goSch C N B ops s S k
  | none => goDraw C N B (laid (efs C.fs) ops) S k
def detRow (C : Cx) (N : Nat) (B : Bs) (ops : List Oper) : List Oper -> Sx -> Option Sx
 | [], S => some S
 | o :: l, S => match wantedAV B S ops o with
  | .yes => match stepOp C N B S o with
   | some (S', _) => detRow C N B ops l S'
   | none => none
  | .no => match skipOp N B S o with
   | some S' => detRow C N B ops l S'
   | none => none
  | _ => none
def joinF (C : Cx) (N : Nat) (B : Bs) (l : List Oper) (ks : List Nat) (S : Sx) (go : (Sx -> Fm) -> Fm) (k : Sx -> Fm) : Fm := match detRow C N B l l S with
 | none => .ff 22
 | some S1 => match belowT (ltB S1.n) (pickT ks S1.t) && (belowE (ltB S1.n) (uniqE [] S1.e) && (apartK B.t (pickT ks S1.t) && apartK B.e (uniqE [] S1.e))) with
  | true => .and (go fun S' => if S'.n = S1.n then eqS B S' (pickT ks S1.t) (uniqE [] S1.e) else .ff 23) (k ⟨pickT ks S1.t, uniqE [] S1.e, S1.n⟩)
  | false => .ff 24
def cutF (C : Cx) (id : Nat) (f : Unit -> Fm) : Fm := match memN id C.ct with
 | true => .all Unit (fun _ => True) f
 | false => f ()
/- two places change their names -/
def swp (p q l : Nat) : Nat := cond (l == p) q (cond (l == q) p l)
def notPQ (p q l : Nat) : Bool := !(l == p || l == q)
def swapS (nb : Nat) (B : Bs) (p q : Nat) (S : Sx) : Sx := cond (decide (nb <= p) && (decide (nb <= q) && (decide (p < S.n) && (decide (q < S.n) && (belowT (notPQ p q) B.t && belowE (notPQ p q) B.e))))) ⟨renT (swp p q) S.t, renE (swp p q) S.e, S.n⟩ S
mutual
def prsAV : AV -> AV -> List (Nat × Nat)
 | .own p, .own q => cond (p == q) [] [(p, q)]
 | .agg l, .agg m => prsAVs l m
 | .tup l, .tup m => prsAVs l m
 | _, _ => []
def prsAVs : List AV -> List AV -> List (Nat × Nat)
 | x :: l, y :: m => prsAV x y ++ prsAVs l m
 | _, _ => []
end
def prsT (B : Bs) (S : Sx) : List (Nat × AV) -> List (Nat × Nat)
 | [] => []
 | (d, y) :: l => match lookT B S d with
  | some x => prsAV x y ++ prsT B S l
  | none => prsT B S l
def prsE (B : Bs) (S : Sx) : List (Nat × En) -> List (Nat × Nat)
 | [] => []
 | (k, .box _ cs) :: l => match lookE B S k with
  | some (.box _ cs') => prsAVs cs' cs ++ prsE B S l
  | _ => prsE B S l
 | _ :: l => prsE B S l
def alignS (nb : Nat) (B : Bs) (prs : Sx -> List (Nat × Nat)) : Nat -> Sx -> Sx
 | 0, S => S
 | n + 1, S => match prs S with
  | [] => S
  | (p, q) :: _ => alignS nb B prs n (swapS nb B p q S)
def alignL (nb : Nat) (B : Bs) (S : Sx) (ov : List (Nat × AV)) (oe : List (Nat × En)) : Sx := alignS nb B (fun S => prsT B S ov ++ prsE B S oe) 3 S
structure Fx where
 C : Cx
 N : Nat
 Ls : List (Nat × Lp)
 R : Bs -> Sx -> Fm
def lookL : List (Nat × Lp) -> Nat -> Option Lp
 | [], _ => none
 | (k, v) :: l, d => if k == d then some v else lookL l d
mutual
def run (F : Fx) (fuel : Nat) (c : Code) (B : Bs) (S : Sx) (K : List Kt) : Fm :=
 match fuel with
 | 0 => .ff 6
 | fuel + 1 => match c with
  | .skip => cont F fuel B S K
  | .label _ => cont F fuel B S K
  | .region id ops draw => cutF F.C id fun _ => match draw with
   | true => match kpAt F.C.jn id with
    | some ks => joinF F.C F.N B (laid (efs F.C.fs) ops.toList) ks (pickS F.C id (cond F.C.fx S (frzAll B (fzAt F.C.fz id) S))) (goReg F.C F.N B id ops.toList (pickS F.C id (cond F.C.fx S (frzAll B (fzAt F.C.fz id) S)))) fun S' => cont F fuel B S' K
    | none => goReg F.C F.N B id ops.toList (pickS F.C id (cond F.C.fx S (frzAll B (fzAt F.C.fz id) S))) fun S' => cont F fuel B S' K
   | false => goOps F.C F.N B ops.toList ops.toList (pickS F.C id (cond F.C.fx S (frzAll B (fzAt F.C.fz id) S))) fun S' => cont F fuel B S' K
  | .seq a b => run F fuel a B S (.code b :: K)
  | .cond x a b => match getO B S x with
   | .blit true => run F fuel a B S K
   | .blit false => run F fuel b B S K
   | .bool t => .br t (run F fuel a B S K) (run F fuel b B S K)
   | _ => .ff 8
  | .block id b => run F fuel b B S (.block id :: K)
  | .loop b => match keyOf b with
   | some k =>
    let go (lp : Lp) : Fm :=
     let locs := keysOf (lp.oe lp.x0)
     let n := maxK S.n locs
     let K' : Bs := ⟨keepT (modsU b locs n S.t) locs n S.t, keepE locs n S.e⟩
     let B' := join K' B
     .and (.vc [fun _ => lp.I lp.x0] (eqS B S (lp.ov lp.x0) (lp.oe lp.x0))) (.all lp.X lp.I fun x =>
      if sameN (keysOf (lp.oe x)) locs && belowT (ltB n) (lp.ov x) && belowE (ltB n) (lp.oe x) && apartK B'.t (lp.ov x) && apartK B'.e (lp.oe x) then
      run F fuel b B' ⟨lp.ov x, lp.oe x, n⟩ (.back B K' (fun Bi S' => if n <= S'.n then (match lp.nx with
       | some nx => .vc [fun _ => lp.I (nx x) /\ lp.μ (nx x) () < lp.μ x ()] (eqS Bi (alignL F.C.nb Bi S' (lp.ov (nx x)) (lp.oe (nx x))) (lp.ov (nx x)) (lp.oe (nx x)))
       | none => .ex lp.X (fun y => lp.I y /\ lp.μ y () < lp.μ x ()) fun y => eqS Bi (alignL F.C.nb Bi S' (lp.ov y) (lp.oe y)) (lp.ov y) (lp.oe y)) else .ff 17) :: K)
      else .ff 15)
    match memN k F.C.ul with
    | true => run F fuel b B S (.again b :: K)
    | false => match lookL F.Ls k with
     | some lp => go lp
     | none => .exl go
   | none => .ff 9
  | .exit id => exitTo F fuel id B S K
  | .ret => leaveAll F fuel B S K
  | _ => .ff 10
def cont (F : Fx) (fuel : Nat) (B : Bs) (S : Sx) (K : List Kt) : Fm :=
 match fuel with
 | 0 => .ff 6
 | fuel + 1 => match K with
  | [] => F.R B S
  | .code c :: K => run F fuel c B S K
  | .block _ :: K => cont F fuel B S K
  | .back _ _ f :: _ => f B S
  | .again b :: K => run F fuel (.loop b) B S K
def exitTo (F : Fx) (fuel : Nat) (id : Nat) (B : Bs) (S : Sx) (K : List Kt) : Fm :=
 match fuel with
 | 0 => .ff 6
 | fuel + 1 => match K with
  | [] => .ff 11
  | .code _ :: K => exitTo F fuel id B S K
  | .block id' :: K => if id' = id then cont F fuel B S K else exitTo F fuel id B S K
  | .back Bo K' _ :: K => exitTo F fuel id Bo (leave K' S) K
  | .again _ :: K => exitTo F fuel id B S K
def leaveAll (F : Fx) (fuel : Nat) (B : Bs) (S : Sx) (K : List Kt) : Fm :=
 match fuel with
 | 0 => .ff 6
 | fuel + 1 => match K with
  | [] => F.R B S
  | .code _ :: K => leaveAll F fuel B S K
  | .block _ :: K => leaveAll F fuel B S K
  | .back Bo K' _ :: K => leaveAll F fuel Bo (leave K' S) K
  | .again _ :: K => leaveAll F fuel B S K
end
def resAV (C : Cx) (B : Bs) (S : Sx) : List ResultVar -> Option (List AV)
 | [] => some []
 | .tmp t :: l => (resAV C B S l).map fun r => getT B S t :: r
 | .cell p T :: l => match alook C.ty T with
  | some i => match loadAV (lookE B S) i.ti.agg i.sz (getT B S p), resAV C B S l with
   | some x, some r => some (x :: r)
   | _, _ => none
  | none => none
def tupOf : List AV -> AV
 | [x] => x
 | l => .tup l
def retF0 (C : Cx) (rs : List ResultVar) (want : AV) (es : List (Nat × En)) (B : Bs) (S : Sx) : Fm :=
 match resAV C B S rs with
 | some l => match eqAV (some (keysOf es)) B S (tupOf l) want, eqEs (some (keysOf es)) B S es with
  | some a, some b => .fin (a ++ b)
  | _, _ => .ff 13
 | none => .ff 14
def alignR (C : Cx) (rs : List ResultVar) (want : AV) (B : Bs) (S : Sx) : Sx := alignS C.nb B (fun S => match resAV C B S rs with
 | some l => prsAV (tupOf l) want
 | none => []) 3 S
def retF (C : Cx) (rs : List ResultVar) (want : AV) (es : List (Nat × En)) (B : Bs) (S : Sx) : Fm := retF0 C rs want es B (alignR C rs want B S)
def zipT : Nat -> List AV -> List (Nat × AV)
 | _, [] => []
 | k, x :: l => (k, x) :: zipT (k + 1) l
def bodyOf (f : Func) : Code := f.body.getD .skip
/- nothing in it is called new -/
mutual
def AV.noFr : AV -> Bool
 | .sl fr _ _ => !fr
 | .wide fr _ _ _ => !fr
 | .pto cs _ => AV.noFrL cs
 | .agg cs => AV.noFrL cs
 | .tup cs => AV.noFrL cs
 | .fn _ cs => AV.noFrL cs
 | _ => true
def AV.noFrL : List AV -> Bool
 | [] => true
 | x :: l => AV.noFr x && AV.noFrL l
end
def En.noFr : En -> Bool
 | .box _ cs => AV.noFrL cs
 | .row fr _ _ _ => !fr
 | .map fr _ _ _ _ _ => !fr
 | _ => true
def noFrE : List (Nat × En) -> Bool
 | [] => true
 | (_, e) :: l => En.noFr e && noFrE l
def inK (ks : List Nat) (l : Nat) : Bool := memN l ks
def fnG (C : Cx) (Ls : List (Nat × Lp)) (fn : Func) (args : List AV) (es0 : List (Nat × En)) (n0 : Nat) (want : AV) (es : List (Nat × En)) : Fm :=
 if decide (n0 <= C.nb) && decide (args.length <= fn.ntmps) && AV.noFrL args && noFrE es0 && AV.under (inK (keysOf es)) want && belowE (inK (keysOf es)) es && allK (keysOf es) n0 then
 run ⟨C, fn.ntmps, Ls, retF C fn.results.toList want es⟩ 100000 (bodyOf fn) ⟨[], []⟩ ⟨zipT 0 args, es0, n0⟩ [] else .ff 18
def fnF (C : Cx) (Ls : List (Nat × Lp)) (fn : Func) (args : List AV) (want : AV) : Fm := fnG C Ls fn args [] 0 want []
end Go.Proofs.YtfdjcakgolenbaaGreat
