/-
  The abstract run: types, entries, contracts of calls, what operations give that neither store nor make a place of the run's own.
-/
import Derived.Test.YtfdjcakgolenbaaGreatMu11
set_option linter.unusedVariables false
set_option linter.unusedSimpArgs false
namespace Go.Proofs.YtfdjcakgolenbaaGreat
open Go.RowKit
def alook {α : Type} : List (Nat × α) → Nat → Option α
 | [], _ => none
 | (k, v) :: l, d => if k == d then some v else alook l d
inductive TI where
 | int (k : IntKind) | bool | str | other
 | slice (e esz ebytes : Nat)
 | struct (fs : List (Nat × Nat × Bool))
 | array (n e esz : Nat) (agg : Bool)
 | map (k e : Nat) (c : Kc) (t : Tc) (agg : Bool)
structure TInf where
 sz : Nat
 ti : TI
 z : List AV
 eq : List Lk := []
def TI.agg : TI → Bool
 | .struct _ => true
 | .array _ _ _ _ => true
 | _ => false
abbrev Tab := List (Nat × TInf)
def zeroB1 : AV → Value → Bool
 | .lit k n, .int k' n' => decide (k = k') && n == n'
 | .blit b, .bool b' => b == b'
 | .str s, .string s' => (s ()).data == s'.data
 | .nil, .slice none 0 0 => true
 | .int k n, .int k' n' => decide (k = k') && n () == n'
 | .bool b, .bool b' => b () == b'
 | .sl _ _ l, .slice none 0 0 => (l ()).isEmpty
 | .un, _ => true
 | _, _ => false
def zeroB : List AV → List Value → Bool
 | [], [] => true
 | x :: l, v :: vs => zeroB1 x v && zeroB l vs
 | _, _ => false
def fsB (P : Program) : List Field → List (Nat × Nat × Bool) → Bool
 | [], [] => true
 | f :: fs, (o, s, a) :: l => f.offset == o && (match P.info? f.type with | some i => i.size == s | none => false) && (aggB P f.type == a && (P.underlying f.type).isSome) && fsB P fs l
 | _, _ => false
def zShape (ag : Bool) : Value → Bool
 | .agg _ => ag
 | .tuple _ => false
 | _ => !ag
def descB (P : Program) : TypeDesc → TI → Bool
 | .int k, .int k' => decide (k = k')
 | .bool, .bool => true
 | .string, .str => true
 | .slice e, .slice e' sz b => e == e' && (decide (0 < sz) && decide (0 < b)) && (match P.info? e with | some j => j.size == sz && j.bytes == b && (match j.zero with | some z => z.cells.size == sz | none => false) | none => false)
 | .struct fs, .struct l => fsB P fs.toList l
 | .array n e, .array n' e' sz a => n == n' && e == e' && (match P.info? e with | some j => j.size == sz | none => false) && (aggB P e == a && (P.underlying e).isSome)
 | .map k e, .map k' e' c t a => k == k' && e == e' && (kcB P k c && aggB P e == a) && (a || t.size == 1) && (match P.info? e with | some j => (match j.zero with | some z => zeroB (cellsAV true t fun _ => t.dflt) z.cells.toList && zShape a z | none => false) | none => false)
 | .struct _, _ => false
 | .array _ _, _ => false
 | _, .other => true
 | _, _ => false
def eqTyB (P : Program) (T : TypeId) (ls : List Lk) : Bool := ls.isEmpty || (aggB P T && flB P 20 T ls && !P.eqGuardType P.depth T)
def tyB (P : Program) (T : TypeId) (i : TInf) : Bool :=
 ((match P.info? T with
 | some j => j.size == i.sz && (match j.zero with | some z => zeroB i.z z.cells.toList | none => i.z.isEmpty)
 | none => false) &&
 match P.underlying T with
 | some ds => descB P ds i.ti
 | none => false) && eqTyB P T i.eq
def TyOk (P : Program) (ty : Tab) : Prop := ∀ T i, alook ty T = some i → tyB P T i = true
inductive En where
 | box (T : TypeId) (cells : List AV)
 | row (fr : Bool) (t : Tc) (T : TypeId) (l : Unit → List t.el)
 | map (fr ag : Bool) (c : Kc) (t : Tc) (T : TypeId) (m : Unit → List Kx → Option t.el)
 | iter (ml : Nat) (c : Kc) (seen : Unit → List (List Kx)) (left : Unit → Nat)
 | stamp (ml : Nat) (c : Kc) (key : Unit → List Kx)
 | dead
def MapR (w : World) (ρ : Nat → Option Rl) (base : Nat) (ro : Nat → Prop) (fr ag : Bool) (c : Kc) (t : Tc) (m : List Kx → Option t.el) (es : Array MapEntry) : Prop :=
 (∀ e ∈ es.toList, ∃ key x, keyIs c e.key key ∧ m key = some x ∧ AVR w ρ base ro (elAV ag fr t fun _ => x) e.val) ∧ ∀ key x, fitsL c.ls key = true → m key = some x → ∃ e ∈ es.toList, keyIs c e.key key
def rb (fr : Bool) (base : Nat) : Nat := cond fr base 0
theorem rb_le (fr : Bool) (base : Nat) : rb fr base ≤ base := by cases fr <;> simp [rb]
theorem rb_and (f g : Bool) (base : Nat) : rb (f && g) base ≤ rb f base := by cases f <;> cases g <;> simp [rb]
theorem rb_mono {f g : Bool} (base : Nat) (h : g = true → f = true) : rb g base ≤ rb f base := by cases f <;> cases g <;> simp_all [rb]
theorem rb_more {b b' : Nat} (fr : Bool) (h : b' ≤ b) : rb fr b' ≤ rb fr b := by cases fr <;> simp [rb, h]
def EnR (w : World) (ρ : Nat → Option Rl) (base : Nat) (ro : Nat → Prop) (loc : Nat) : En → Prop
 | .box T cells => ∃ b, ∃ cs : List Value, ρ loc = some (.box b) ∧ w.heap[b]? = some (.cells cs.toArray T (0, 0)) ∧ Each w ρ base ro cells cs
 | .row fr t T l => ∃ A c, ∃ css : List (List Value), ρ loc = some (.row A (l ()).length c) ∧ OwnS w (rb fr base) T t.size A c css ∧ css.length = (l ()).length ∧
  ∀ (k : Nat) (cs : List Value) (j : Nat) (x : AV) (v : Value), css[k]? = some cs → (cellsAV fr t fun _ => (l ()).getD k t.dflt)[j]? = some x → cs[j]? = some v → AVR w ρ base ro x v
 | .map fr ag c t _ m => ∃ b es clock, ρ loc = some (.mp b) ∧ w.heap[b]? = some (.map es clock) ∧ MapKept.Stamped es clock ∧ MapR w ρ base ro fr ag c t (m ()) es
 | .iter ml c seen left => ∃ b b2 es clock since stamps c0, ρ loc = some (.it b2) ∧ ρ ml = some (.mp b) ∧ w.heap[b]? = some (.map es clock) ∧ w.heap[b2]? = some (.mapIter (some b) since stamps c0) ∧ (∀ e ∈ es.toList, e.born < since) ∧ (since ≤ c0 ∧ c0 ≤ clock) ∧ left () = (Go.leftOf es stamps).size ∧ (∀ e ∈ es.toList, stamps.contains e.born = true ↔ ∃ key ∈ seen (), keyIs c e.key key) ∧ ∀ key r, seen () = key :: r → c0 = clock ∧ ∃ e ∈ es.toList, stamps.back? = some e.born ∧ keyIs c e.key key
 | .stamp ml c key => ∃ b es clock s e, ρ loc = some (.stamp s) ∧ ρ ml = some (.mp b) ∧ w.heap[b]? = some (.map es clock) ∧ e ∈ es.toList ∧ keyIs c e.key (key ()) ∧ e.born = s
 | .dead => ∃ r, ρ loc = some r
abbrev VC := Unit → Prop
inductive Sg where
 | int (k : IntKind) | bool | str | sl (t : Tc) | any
 | wide (t : Tc)
 | agg (l : List Sg)
 | pto (l : List Sg)
 | fn (l : List Sg)
 | ownr (t : Tc)
 | mapp (c : Kc) (t : Tc)
 | boxp (l : List Sg)
def cvW (t t' : Tc) (l : Unit → List t.el) (n : Unit → Nat) : Option AV := match cvT t t' with
 | some f => some (.sl false t' fun _ => ((l ()).take (n ())).map f)
 | none => none
mutual
def coerce (ge : Nat → Option En) : Sg → AV → Option AV
 | .int k, .int k' n => if k = k' then some (.int k n) else none
 | .int k, .lit k' n => if k = k' then some (.int k fun _ => n) else none
 | .bool, .bool b => some (.bool b)
 | .bool, .blit b => some (.bool fun _ => b)
 | .str, .str s => some (.str s)
 | .sl t, .sl _ t' l => if t = t' then some (.sl false t' l) else none
 | .sl t, .nil => some (.sl false t fun _ => [])
 | .sl t, .wide _ t' l n => if t = t' then some (.sl false t' fun _ => (l ()).take (n ())) else cvW t' t l n
 | .wide t, .wide _ t' l n => if t = t' then some (.wide false t' l n) else none
 | .sl t, .own loc => match ge loc with
  | some (.row _ t' _ l) => if t = t' then some (.sl false t' l) else none
  | _ => none
 | .agg l, .agg cs => (coerceL ge l cs).map .agg
 | .pto l, .pto cs 0 => (coerceL ge l cs).map fun cs' => .pto cs' 0
 | .pto l, .ptr loc 0 => match ge loc with
  | some (.box _ cs) => (coerceL ge l cs).map fun cs' => .pto cs' 0
  | _ => none
 | .fn l, .fn f cs => (coerceL ge l cs).map fun cs' => .fn f cs'
 | .any, _ => some .un
 | _, _ => none
def coerceL (ge : Nat → Option En) : List Sg → List AV → Option (List AV)
 | [], [] => some []
 | s :: ss, x :: xs => match coerce ge s x, coerceL ge ss xs with
  | some y, some ys => some (y :: ys)
  | _, _ => none
 | _, _ => none
end
structure Res where
 pre : Unit → Prop
 av : AV
structure Con where
 f : FuncId
 sig : List Sg
 go : List AV → Option Res
def findCon : List Con → FuncId → Option Con
 | [], _ => none
 | c :: cs, f => if c.f == f then some c else findCon cs f
def ConOk (P : Program) (c : Con) : Prop :=
 (∀ args w, (callFunc c.f args).run P w = .ok (.enter c.f args) w) ∧
 ∀ avs res, c.go avs = some res → ∀ (w : World) (ra : Nat → Prop) (vals : List Value), (∀ b, ra b → b < w.heap.size) → Each w (fun _ => none) 0 ra avs vals → res.pre () →
  Calls P c.f vals.toArray w fun e w' => ∃ v, e = .returned v ∧ From w w' ∧ AVR w' (fun _ => none) w.heap.size (fun b => ra b ∨ w.heap.size ≤ b) res.av v
def ofVal : Value → AV
 | .int k n => .lit k n
 | .bool b => .blit b
 | .string s => .str fun _ => s
 | .slice none 0 0 => .nil
 | _ => .un
def AV.asInt : AV → Option (IntKind × (Unit → Int))
 | .int k n => some (k, n)
 | .lit k n => some (k, fun _ => n)
 | _ => none
def AV.asBool : AV → Option (Unit → Bool)
 | .bool b => some b
 | .blit b => some fun _ => b
 | _ => none
def inI64 (n : Int) : Prop := -9223372036854775808 ≤ n ∧ n ≤ 9223372036854775807
def bitF (op : BinOp) (k : IntKind) (a b : Int) : Int := match op with
 | .and => k.wrap (BitVec.ofInt k.bits a &&& BitVec.ofInt k.bits b).toNat
 | .or => k.wrap (BitVec.ofInt k.bits a ||| BitVec.ofInt k.bits b).toNat
 | .xor => k.wrap (BitVec.ofInt k.bits a ^^^ BitVec.ofInt k.bits b).toNat
 | _ => k.wrap (BitVec.ofInt k.bits a &&& ~~~BitVec.ofInt k.bits b).toNat
def shF (op : BinOp) (k : IntKind) (a b : Int) : Int := match op with
 | .shl => k.wrap (a * 2 ^ (min b.toNat k.bits))
 | _ => a.fdiv (2 ^ (min b.toNat k.bits))
def arith (op : BinOp) (k : IntKind) (a b : Unit → Int) : Option (AV × List VC) :=
 match op with
 | .add => if k = .i64 then some (.int k fun _ => a () + b (), [fun _ => inI64 (a () + b ())]) else some (.int k fun _ => k.wrap (a () + b ()), [])
 | .sub => if k = .i64 then some (.int k fun _ => a () - b (), [fun _ => inI64 (a () - b ())]) else some (.int k fun _ => k.wrap (a () - b ()), [])
 | .mul => if k = .i64 then some (.int k fun _ => a () * b (), [fun _ => inI64 (a () * b ())]) else some (.int k fun _ => k.wrap (a () * b ()), [])
 | .quo => some (.int k fun _ => k.wrap ((a ()).tdiv (b ())), [fun _ => b () ≠ 0])
 | .rem => some (.int k fun _ => (a ()).tmod (b ()), [fun _ => b () ≠ 0])
 | .eql => some (.bool fun _ => decide (a () = b ()), [])
 | .neq => some (.bool fun _ => !decide (a () = b ()), [])
 | .lss => some (.bool fun _ => decide (a () < b ()), [])
 | .leq => some (.bool fun _ => decide (a () ≤ b ()), [])
 | .gtr => some (.bool fun _ => decide (b () < a ()), [])
 | .geq => some (.bool fun _ => decide (b () ≤ a ()), [])
 | .and => some (.int k fun _ => bitF .and k (a ()) (b ()), [])
 | .or => some (.int k fun _ => bitF .or k (a ()) (b ()), [])
 | .xor => some (.int k fun _ => bitF .xor k (a ()) (b ()), [])
 | .andNot => some (.int k fun _ => bitF .andNot k (a ()) (b ()), [])
 | _ => none
def fold (op : BinOp) (k : IntKind) (m n : Int) : Option AV :=
 match op with
 | .add => some (.lit k (k.wrap (m + n)))
 | .sub => some (.lit k (k.wrap (m - n)))
 | .mul => some (.lit k (k.wrap (m * n)))
 | .eql => some (.blit (m == n))
 | .neq => some (.blit (m != n))
 | .lss => some (.blit (decide (m < n)))
 | .leq => some (.blit (decide (m ≤ n)))
 | .gtr => some (.blit (decide (m > n)))
 | .geq => some (.blit (decide (m ≥ n)))
 | _ => none
def strOp (op : BinOp) (a b : Unit → ByteArray) : Option (AV × List VC) :=
 match op with
 | .eql => some (.bool fun _ => decide (a () = b ()), [])
 | .neq => some (.bool fun _ => !decide (a () = b ()), [])
 | _ => none
def boolOp (op : BinOp) (a b : Unit → Bool) : Option (AV × List VC) :=
 match op with
 | .eql => some (.bool fun _ => a () == b (), [])
 | .neq => some (.bool fun _ => a () != b (), [])
 | _ => none
def shiftAV (op : BinOp) (x y : AV) : Option (AV × List VC) := match x.asInt, y.asInt with
 | some (k, a), some (_, b) => some (.int k fun _ => shF op k (a ()) (b ()), [fun _ => 0 ≤ b ()])
 | _, _ => none
def binAV (ti : Option TI) (op : BinOp) (x y : AV) : Option (AV × List VC) :=
 match op with
 | .shl => shiftAV .shl x y
 | .shr => shiftAV .shr x y
 | op => match x, y with
 | .lit k m, .lit k' n => if k = k' then (match fold op k m n with
  | some r => some (r, [])
  | none => arith op k (fun _ => m) (fun _ => n)) else none
 | .str a, .str b => strOp op a b
 | x, y => match x.asInt, y.asInt with
  | some (k, a), some (k', b) => if k = k' then arith op k a b else none
  | _, _ => match x.asBool, y.asBool with
   | some a, some b => match ti with
    | some .bool => boolOp op a b
    | _ => none
   | _, _ => none
def pickAV (c x y : AV) : Option AV :=
 match c with
 | .blit b => some (if b then x else y)
 | .bool c => match x.asBool, y.asBool with
  | some a, some b => some (.bool fun _ => cond (c ()) (a ()) (b ()))
  | _, _ => match x.asInt, y.asInt with
   | some (k, a), some (k', b) => if k = k' then some (.int k fun _ => cond (c ()) (a ()) (b ())) else none
   | _, _ => none
 | _ => none
def cut (agg : Bool) (off n : Nat) (cells : List AV) : Option AV :=
 if agg then (if off + n ≤ cells.length then some (.agg ((cells.drop off).take n)) else none) else cells[off]?
def tiOf (ty : Tab) (T : Nat) : Option TI := (alook ty T).map fun i => i.ti
def fieldAt (i : TInf) (f : Nat) : Option (Nat × Nat × Bool) :=
 match i.ti with
 | .struct fs => fs[f]?
 | _ => none
def fillAV (place : Nat → Option (Nat × Nat)) (cells : List AV) : List (Nat × AV) → Option (List AV)
 | [] => some cells
 | (i, x) :: rest => match place i with
  | none => none
  | some (off, size) => match x with
   | .agg cs => if cs.length == size && decide (off + size ≤ cells.length) then fillAV place (cells.take off ++ cs ++ cells.drop (off + size)) rest else none
   | .un => none
   | .tup _ => none
   | x => if size == 1 && decide (off + 1 ≤ cells.length) then fillAV place (cells.set off x) rest else none
def idxVC (i : Unit → Int) (n : Unit → Int) : List VC := [fun _ => 0 ≤ i () ∧ i () < n ()]
def loadAV (ge : Nat → Option En) (agg : Bool) (n : Nat) : AV → Option AV
 | .pto cells off => cut agg off n cells
 | .ptr loc off => match ge loc with
  | some (.box _ cells) => cut agg off n cells
  | _ => none
 | .orp t loc k off => match ge loc with
  | some (.row fr t' _ l) => if t = t' then cut agg off n (cellsAV fr t' fun _ => (l ()).getD (k ()).toNat t'.dflt) else none
  | _ => none
 | _ => none
def addOff : AV → Nat → Option AV
 | .pto cells off, k => some (.pto cells (off + k))
 | .ptr loc off, k => some (.ptr loc (off + k))
 | .orp t loc i off, k => some (.orp t loc i (off + k))
 | _, _ => none
def lenAV (ge : Nat → Option En) : AV → Option AV
 | .nil => some (.lit .i64 0)
 | .sl _ _ l => some (.int .i64 fun _ => ((l ()).length : Int))
 | .wide _ _ _ n => some (.int .i64 fun _ => (n () : Int))
 | .own loc => match ge loc with
  | some (.row _ _ _ l) => some (.int .i64 fun _ => ((l ()).length : Int))
  | _ => none
 | .str s => some (.int .i64 fun _ => ((s ()).size : Int))
 | _ => none
/- keys of maps -/
def kxAV : Lk → AV → Option (Unit → Kx)
 | .int k, .int k' n => if k = k' then some fun _ => .i k (n ()) else none
 | .int k, .lit k' n => if k = k' then some fun _ => .i k n else none
 | .bool, .bool b => some fun _ => .f (b ())
 | .bool, .blit b => some fun _ => .f b
 | .str, .str s => some fun _ => .s (s ())
 | _, _ => none
def kxL : List Lk → List AV → Option (Unit → List Kx)
 | [], [] => some fun _ => []
 | l :: ls, x :: xs => match kxAV l x, kxL ls xs with
  | some a, some b => some fun _ => a () :: b ()
  | _, _ => none
 | _, _ => none
def keyAV (c : Kc) (x : AV) : Option (Unit → List Kx) := match c with
 | .one l => (kxAV l x).map fun a => fun _ => [a ()]
 | .arr n l => match x with
  | .agg cs => kxL (List.replicate n l) cs
  | _ => none
 | .st ls => match x with
  | .agg cs => kxL ls cs
  | _ => none
def Kx.num : Kx → Int
 | .i _ n => n
 | _ => 0
def Kx.flag : Kx → Bool
 | .f p => p
 | _ => false
def Kx.txt : Kx → ByteArray
 | .s x => x
 | _ => noText
def leafOut : Lk → (Unit → Kx) → AV
 | .int k, x => .int k fun _ => (x ()).num
 | .bool, x => .bool fun _ => (x ()).flag
 | .str, x => .str fun _ => (x ()).txt
def leafOuts : List Lk → Nat → (Unit → List Kx) → List AV
 | [], _, _ => []
 | l :: ls, n, k => leafOut l (fun _ => (k ()).getD n (.i .i64 0)) :: leafOuts ls (n + 1) k
def keyOut (c : Kc) (k : Unit → List Kx) : AV := match c with
 | .one l => leafOut l fun _ => (k ()).getD 0 (.i .i64 0)
 | .arr n l => .agg (leafOuts (List.replicate n l) 0 k)
 | .st ls => .agg (leafOuts ls 0 k)
def lookAV (ag fr : Bool) (t : Tc) (x : Unit → Option t.el) (ok : Bool) : AV :=
 if ok then .tup [elAV ag fr t fun _ => (x ()).getD t.dflt, .bool fun _ => (x ()).isSome] else elAV ag fr t fun _ => (x ()).getD t.dflt
def eqlAV (i : Option TInf) (op : BinOp) (x y : AV) : Option (AV × List VC) := match x, y with
 | .agg cs, .agg ds => match i with
  | some i => if i.eq.isEmpty then none else match kxL i.eq cs, kxL i.eq ds with
   | some a, some b => match op with
    | .eql => some (.bool fun _ => decide (a () = b ()), [])
    | .neq => some (.bool fun _ => !decide (a () = b ()), [])
    | _ => none
   | _, _ => none
  | none => none
 | x, y => binAV (i.map fun i => i.ti) op x y
def boundAV (g : Operand → AV) (d : Unit → Int) : Option Operand → Option (Unit → Int)
 | none => some d
 | some o => (g o).asInt.map fun p => p.2
/- one of some values, as an index says -/
def selI (kk : IntKind) (k : Unit → Int) : Nat → List AV → Option (Unit → Int)
 | _, [] => none
 | j, x :: l => match x.asInt with
  | some (k', a) => if k' = kk then (match l with
   | [] => some a
   | _ => (selI kk k (j + 1) l).map fun f => fun _ => cond (decide (k () = (j : Int))) (a ()) (f ())) else none
  | none => none
def selB (k : Unit → Int) : Nat → List AV → Option (Unit → Bool)
 | _, [] => none
 | j, x :: l => match x.asBool with
  | some a => match l with
   | [] => some a
   | _ => (selB k (j + 1) l).map fun f => fun _ => cond (decide (k () = (j : Int))) (a ()) (f ())
  | none => none
def selAV (k : Unit → Int) (l : List AV) : Option AV := match l with
 | .int kk _ :: _ => (selI kk k 0 l).map (.int kk)
 | .lit kk _ :: _ => (selI kk k 0 l).map (.int kk)
 | .bool _ :: _ => (selB k 0 l).map .bool
 | .blit _ :: _ => (selB k 0 l).map .bool
 | _ => none
def stride (cells : List AV) (n esz c : Nat) : List AV := (List.range n).map fun m => cells.getD (m * esz + c) .un
def selCells (k : Unit → Int) (cells : List AV) (n esz : Nat) : List Nat → Option (List AV)
 | [] => some []
 | c :: cs => match selAV k (stride cells n esz c), selCells k cells n esz cs with
  | some x, some l => some (x :: l)
  | _, _ => none
def byteIn (s : ByteArray) (i : Nat) : Int := (s.data[i]?.map fun c => (c.toNat : Int)).getD 0
def indexAV (ti : Option TI) (x i : AV) : Option (AV × List VC) := match ti, x with
 | some (.array n _ esz ag), .agg cells => match i with
  | .lit _ m => if decide (0 ≤ m) && decide (m < (n : Int)) then (cut ag (m.toNat * esz) esz cells).map fun r => (r, []) else none
  | .int _ k => if cells.length == n * esz then
   (match ag with
   | true => (selCells k cells n esz (List.range esz)).map fun l => (.agg l, idxVC k fun _ => (n : Int))
   | false => if esz == 1 then (selAV k cells).map fun r => (r, idxVC k fun _ => (n : Int)) else none) else none
  | _ => none
 | some .str, .str s => match i.asInt with
  | some (_, k) => some (.int .u8 fun _ => byteIn (s ()) (k ()).toNat, idxVC k fun _ => ((s ()).size : Int))
  | none => none
 | _, _ => none
def arrAddr (ti : Option TI) (x i : AV) : Option (AV × List VC) := match ti, i with
 | some (.array n _ esz _), .lit _ m => if decide (0 ≤ m) && decide (m < (n : Int)) then (addOff x (m.toNat * esz)).map fun r => (r, []) else none
 | _, _ => none
def pureOp (ty : Tab) (cs : List Con) (ge : Nat → Option En) (g : Operand → AV) : Op → Option (AV × List VC)
 | .move x => some (g x, [])
 | .assign x => some (g x, [])
 | .pick c a b => (pickAV (g c) (g a) (g b)).map fun r => (r, [])
 | .nilCheck x => match g x with
  | .ptr l o => some (.ptr l o, [])
  | .pto l o => some (.pto l o, [])
  | .orp t l k o => some (.orp t l k o, [])
  | _ => none
 | .binOp op T x y _ => eqlAV (alook ty T) op (g x) (g y)
 | .unOp .not _ x => match g x with
  | .blit b => some (.blit (!b), [])
  | .bool b => some (.bool fun _ => !b (), [])
  | _ => none
 | .unOp .neg _ x => match g x with
  | .lit k n => some (.lit k (k.wrap (-n)), [])
  | .int .i64 n => some (.int .i64 fun _ => -n (), [fun _ => inI64 (-n ())])
  | _ => none
 | .convert s t x => match tiOf ty s, tiOf ty t, g x with
  | some (.int _), some (.int k), .lit _ n => some (.lit k (k.wrap n), [])
  | some (.int _), some (.int k), .int _ n => if k = .i64 then some (.int k n, [fun _ => inI64 (n ())]) else some (.int k fun _ => k.wrap (n ()), [])
  | _, _, _ => none
 | .fieldAddr T x f => match (alook ty T).bind (fieldAt · f) with
  | some (off, sz, _) => if sz == 0 then none else (addOff (g x) off).map fun r => (r, [])
  | none => none
 | .field T x f => match (alook ty T).bind (fieldAt · f), g x with
  | some (off, sz, a), .agg cells => (cut a off sz cells).map fun r => (r, [])
  | _, _ => none
 | .indexAddr T x i => match tiOf ty T, g x, (g i).asInt with
  | some (.slice _ sz _), .sl fr t l, some (_, k) => if t.size == sz then some (.pto (cellsAV fr t fun _ => (l ()).getD (k ()).toNat t.dflt) 0, idxVC k fun _ => ((l ()).length : Int)) else none
  | some (.slice _ sz _), .wide fr t l n, some (_, k) => if t.size == sz then some (.pto (cellsAV fr t fun _ => (l ()).getD (k ()).toNat t.dflt) 0, idxVC k fun _ => (n () : Int)) else none
  | some (.slice _ sz _), .own loc, some (_, k) => match ge loc with
   | some (.row _ t _ l) => if t.size == sz then some (.orp t loc k 0, idxVC k fun _ => ((l ()).length : Int)) else none
   | _ => none
  | ti, y, _ => arrAddr ti y (g i)
 | .index T x i => indexAV (tiOf ty T) (g x) (g i)
 | .lookup T x i ok => match tiOf ty T, g x with
  | some (.map _ _ c t ag), .mp loc => match ge loc, keyAV c (g i) with
   | some (.map fr ag' c' t' _ m), some k => if c' = c ∧ t' = t ∧ ag' = ag then some (lookAV ag' fr t' (fun _ => m () (k ())) ok, []) else none
   | _, _ => none
  | _, _ => none
 | .entry x => match g x with
  | .it ml l2 => match ge ml, ge l2 with
   | some (.map fr ag c t _ m), some (.iter ml' c' seen _) => if ml' = ml ∧ c' = c then some (.tup [keyOut c fun _ => (seen ()).headD [], elAV ag fr t fun _ => (m () ((seen ()).headD [])).getD t.dflt], [fun _ => seen () ≠ []]) else none
   | _, _ => none
  | _ => none
 | .slice T x none (some hi) none => match tiOf ty T, g x with
  | some (.slice _ sz _), .sl fr t l => if t.size == sz then (match (g hi).asInt with
   | some (_, b) => some (.wide fr t l fun _ => (b ()).toNat, [fun _ => 0 ≤ b () ∧ b () ≤ ((l ()).length : Int)])
   | none => none) else none
  | some (.slice _ sz _), .wide fr t l _ => if t.size == sz then (match (g hi).asInt with
   | some (_, b) => some (.wide fr t l fun _ => (b ()).toNat, [fun _ => 0 ≤ b () ∧ b () ≤ ((l ()).length : Int)])
   | none => none) else none
  | _, _ => none
 | .slice T x lo hi none => match tiOf ty T, g x with
  | some (.slice _ sz _), .sl fr t l => if t.size == sz then (match boundAV g (fun _ => 0) lo, boundAV g (fun _ => ((l ()).length : Int)) hi with
   | some a, some b => some (.sl fr t fun _ => ((l ()).take (b ()).toNat).drop (a ()).toNat, [fun _ => 0 ≤ a () ∧ a () ≤ b () ∧ b () ≤ ((l ()).length : Int)])
   | _, _ => none) else none
  | _, _ => none
 | .extract x i => match g x with
  | .tup l => (l[i]?).map fun r => (r, [])
  | _ => none
 | .makeFunc (.func f) first caps => if first.isEmpty then some (.fn f (caps.toList.map g), []) else none
 | .load T x => match alook ty T with
  | some i => (loadAV ge i.ti.agg i.sz (g x)).map fun r => (r, [])
  | none => none
 | .build T parts => match alook ty T with
  | some i => match i.ti with
   | .struct fs => if i.z.isEmpty then none else (fillAV (fun k => (fs[k]?).map fun f => (f.1, f.2.1)) i.z (parts.toList.map fun p => (p.1, g p.2))).map fun r => (.agg r, [])
   | .array _ _ esz _ => if i.z.isEmpty then none else (fillAV (fun k => some (k * esz, esz)) i.z (parts.toList.map fun p => (p.1, g p.2))).map fun r => (.agg r, [])
   | _ => none
  | none => none
 | .call c => match c.callee with
  | .builtin .min => match c.args.toList with
   | [x, y] => match (g x).asInt, (g y).asInt with
    | some (k, a), some (k', b) => if k = k' then some (.int k fun _ => cond (decide (b () < a ())) (b ()) (a ()), []) else none
    | _, _ => none
   | _ => none
  | .builtin .max => match c.args.toList with
   | [x, y] => match (g x).asInt, (g y).asInt with
    | some (k, a), some (k', b) => if k = k' then some (.int k fun _ => cond (decide (a () < b ())) (b ()) (a ()), []) else none
    | _, _ => none
   | _ => none
  | .builtin .len => match c.args.toList, c.argTypes.toList with
   | [x], [T] => match tiOf ty T, g x with
    | some (.slice _ _ _), .str _ => none
    | some (.slice _ _ _), y => (lenAV ge y).map fun r => (r, [])
    | some .str, .str s => (lenAV ge (.str s)).map fun r => (r, [])
    | _, _ => none
   | _, _ => none
  | .value fo => match g fo with
   | .fn f caps => match findCon cs f with
    | some con => match coerceL ge con.sig (c.args.toList.map g ++ caps) with
     | some avs => match con.go avs with
      | some res => if AV.plain true res.av || (AV.plainL false (c.args.toList.map g ++ caps) && AV.plain false res.av) then some (res.av, [res.pre]) else none
      | none => none
     | none => none
    | none => none
   | _ => none
  | _ => none
 | _ => none
end Go.Proofs.YtfdjcakgolenbaaGreat
