/-
  The abstract run: types, entries, contracts of calls, what operations give that neither store nor make a place of the run's own.
-/
import Derived.Test.YthfpdbjemfhieaaGreatMt5
set_option linter.unusedVariables false
set_option linter.unusedSimpArgs false
namespace Go.Proofs.YthfpdbjemfhieaaGreat
open Go.RowKit
def alook {α:Type}:List (Nat × α)->Nat->Option α
 | [],_=>none
 | (k,v)::l,d=>if k==d then some v else alook l d
inductive TI where
 | int (k:IntKind)|bool|str|other
 | slice (e esz ebytes:Nat)
 | struct (fs:List (Nat×Nat×Bool))
 | array (n e esz:Nat) (agg:Bool)
 | map (k e:Nat) (c:Kc) (t:Tc) (agg:Bool)
structure TInf where
 sz:Nat
 ti:TI
 z:List AV
 eq:List Lk := []
def TI.agg:TI->Bool
 | .struct _=>true
 | .array _ _ _ _=>true
 | _=>false
abbrev Tab:=List (Nat×TInf)
def zeroB1:AV->Value->Bool
 | .lit k n,.int k' n'=>decide (k=k')&&n==n'
 | .blit b,.bool b'=>b==b'
 | .str s,.string s'=>(s ()).data==s'.data
 | .nil,.slice none 0 0=>true
 | .int k n,.int k' n'=>decide (k=k')&&n ()==n'
 | .bool b,.bool b'=>b ()==b'
 | .sl _ _ l,.slice none 0 0=>(l ()).isEmpty
 | .un,_=>true
 | _,_=>false
def zeroB:List AV->List Value->Bool
 | [],[]=>true
 | x::l,v::vs=>zeroB1 x v&&zeroB l vs
 | _,_=>false
def fsB (P:Program):List Field->List (Nat×Nat×Bool)->Bool
 | [],[]=>true
 | f::fs,(o,s,a)::l=>f.offset==o&&(match P.info? f.type with|some i=>i.size==s|none=>false)&&(aggB P f.type==a&&(P.underlying f.type).isSome)&&fsB P fs l
 | _,_=>false
def zShape (ag:Bool):Value->Bool
 | .agg _=>ag
 | .tuple _=>false
 | _ => !ag
def descB (P:Program):TypeDesc->TI->Bool
 | .int k,.int k'=>decide (k=k')
 | .bool,.bool=>true
 | .string,.str=>true
 | .slice e,.slice e' sz b=>e==e'&&(decide (0<sz)&&decide (0<b))&&(match P.info? e with|some j=>j.size==sz&&j.bytes==b&&(match j.zero with|some z=>z.cells.size==sz|none=>false)|none=>false)
 | .struct fs,.struct l=>fsB P fs.toList l
 | .array n e,.array n' e' sz a=>n==n'&&e==e'&&(match P.info? e with|some j=>j.size==sz|none=>false)&&(aggB P e==a&&(P.underlying e).isSome)
 | .map k e,.map k' e' c t a=>k==k'&&e==e'&&(kcB P k c&&aggB P e==a)&&(a||t.size==1)&&(match P.info? e with|some j=>(match j.zero with|some z=>zeroB (cellsAV true t fun _=>t.dflt) z.cells.toList&&zShape a z|none=>false)|none=>false)
 | .struct _,_=>false
 | .array _ _,_=>false
 | _,.other=>true
 | _,_=>false
def eqTyB (P:Program) (T:TypeId) (ls:List Lk):Bool:=ls.isEmpty||(aggB P T&&flB P 20 T ls && !P.eqGuardType P.depth T)
def tyB (P:Program) (T:TypeId) (i:TInf):Bool :=
 ((match P.info? T with
 | some j=>j.size==i.sz&&(match j.zero with|some z=>zeroB i.z z.cells.toList|none=>i.z.isEmpty)
 | none=>false) &&
 match P.underlying T with
 | some ds=>descB P ds i.ti
 | none=>false)&&eqTyB P T i.eq
def TyOk (P:Program) (ty:Tab):Prop:=∀ T i,alook ty T=some i->tyB P T i=true
inductive En where
 | box (T:TypeId) (cells:List AV)
 | row (fr:Bool) (t:Tc) (T:TypeId) (l:Unit->List t.el)
 | map (fr ag:Bool) (c:Kc) (t:Tc) (T:TypeId) (m:Unit->List Kx->Option t.el)
 | iter (ml:Nat) (c:Kc) (seen:Unit->List (List Kx)) (left:Unit->Nat)
 | stamp (ml:Nat) (c:Kc) (key:Unit->List Kx)
 | dead
def MapR (w:World) (ρ:Nat->Option Rl) (base:Nat) (ro:Nat->Prop) (fr ag:Bool) (c:Kc) (t:Tc) (m:List Kx->Option t.el) (es:Array MapEntry):Prop :=
 (∀ e∈es.toList,∃ key x,keyIs c e.key key/\m key=some x/\AVR w ρ base ro (elAV ag fr t fun _=>x) e.val)/\∀ key x,fitsL c.ls key=true->m key=some x->∃ e∈es.toList,keyIs c e.key key
def rb (fr:Bool) (base:Nat):Nat:=cond fr base 0
theorem rb_le (fr:Bool) (base:Nat):rb fr base<=base:=by cases fr<;>simp [rb]
theorem rb_and (f g:Bool) (base:Nat):rb (f&&g) base<=rb f base:=by cases f<;>cases g<;>simp [rb]
theorem rb_mono {f g:Bool} (base:Nat) (h:g=true->f=true):rb g base<=rb f base:=by cases f<;>cases g<;>simp_all [rb]
theorem rb_more {b b':Nat} (fr:Bool) (h:b'<=b):rb fr b'<=rb fr b:=by cases fr<;>simp [rb,h]
def EnR (w:World) (ρ:Nat->Option Rl) (base:Nat) (ro:Nat->Prop) (loc:Nat):En->Prop
 | .box T cells=>∃ b,∃ cs:List Value,ρ loc=some (.box b)/\w.heap[b]? = some (.cells cs.toArray T (0,0))/\Each w ρ base ro cells cs
 | .row fr t T l=>∃ A c,∃ css:List (List Value),ρ loc=some (.row A (l ()).length c)/\OwnS w (rb fr base) T t.size A c css/\css.length=(l ()).length /\
  ∀ (k:Nat) (cs:List Value) (j:Nat) (x:AV) (v:Value),css[k]? = some cs->(cellsAV fr t fun _=>(l ()).getD k t.dflt)[j]? = some x->cs[j]? = some v->AVR w ρ base ro x v
 | .map fr ag c t _ m=>∃ b es clock,ρ loc=some (.mp b)/\w.heap[b]? = some (.map es clock)/\MapKept.Stamped es clock/\MapR w ρ base ro fr ag c t (m ()) es
 | .iter ml c seen left=>∃ b b2 es clock since stamps c0,ρ loc=some (.it b2) /\ ρ ml=some (.mp b)/\w.heap[b]? = some (.map es clock)/\w.heap[b2]? = some (.mapIter (some b) since stamps c0)/\(∀ e∈es.toList,e.born<since)/\(since<=c0/\c0<=clock)/\left ()=(Go.leftOf es stamps).size/\(∀ e∈es.toList,stamps.contains e.born=true↔∃ key∈seen (),keyIs c e.key key)/\∀ key r,seen ()=key::r->c0=clock/\∃ e∈es.toList,stamps.back? = some e.born/\keyIs c e.key key
 | .stamp ml c key=>∃ b es clock s e,ρ loc=some (.stamp s) /\ ρ ml=some (.mp b)/\w.heap[b]? = some (.map es clock)/\e∈es.toList/\keyIs c e.key (key ())/\e.born=s
 | .dead=>∃ r,ρ loc=some r
abbrev VC:=Unit->Prop
inductive Sg where
 | int (k:IntKind)|bool|str|sl (t:Tc)|any
 | wide (t:Tc)
 | agg (l:List Sg)
 | pto (l:List Sg)
 | fn (l:List Sg)
 | ownr (t:Tc)
 | mapp (c:Kc) (t:Tc)
 | boxp (l:List Sg)
def cvW (t t':Tc) (l:Unit->List t.el) (n:Unit->Nat):Option AV:=match cvT t t' with
 | some f=>some (.sl false t' fun _=>((l ()).take (n ())).map f)
 | none=>none
mutual
def coerce (ge:Nat->Option En):Sg->AV->Option AV
 | .int k,.int k' n=>if k=k' then some (.int k n) else none
 | .int k,.lit k' n=>if k=k' then some (.int k fun _=>n) else none
 | .bool,.bool b=>some (.bool b)
 | .bool,.blit b=>some (.bool fun _=>b)
 | .str,.str s=>some (.str s)
 | .sl t,.sl _ t' l=>if t=t' then some (.sl false t' l) else none
 | .sl t,.nil=>some (.sl false t fun _ => [])
 | .sl t,.wide _ t' l n=>if t=t' then some (.sl false t' fun _=>(l ()).take (n ())) else cvW t' t l n
 | .wide t,.wide _ t' l n=>if t=t' then some (.wide false t' l n) else none
 | .sl t,.own loc=>match ge loc with
  | some (.row _ t' _ l)=>if t=t' then some (.sl false t' l) else none
  | _=>none
 | .agg l,.agg cs=>(coerceL ge l cs).map .agg
 | .pto l,.pto cs 0=>(coerceL ge l cs).map fun cs' => .pto cs' 0
 | .pto l,.ptr loc 0=>match ge loc with
  | some (.box _ cs)=>(coerceL ge l cs).map fun cs' => .pto cs' 0
  | _=>none
 | .fn l,.fn f cs=>(coerceL ge l cs).map fun cs' => .fn f cs'
 | .any,_=>some .un
 | _,_=>none
def coerceL (ge:Nat->Option En):List Sg->List AV->Option (List AV)
 | [],[]=>some []
 | s::ss,x::xs=>match coerce ge s x,coerceL ge ss xs with
  | some y,some ys=>some (y::ys)
  | _,_=>none
 | _,_=>none
end
structure Res where
 pre:Unit->Prop
 av:AV
structure Con where
 f:FuncId
 sig:List Sg
 go:List AV->Option Res
def findCon:List Con->FuncId->Option Con
 | [],_=>none
 | c::cs,f=>if c.f==f then some c else findCon cs f
def ConOk (P:Program) (c:Con):Prop :=
 (∀ args w,(callFunc c.f args).run P w = .ok (.enter c.f args) w) /\
 ∀ avs res,c.go avs=some res->∀ (w:World) (ra:Nat->Prop) (vals:List Value),(∀ b,ra b->b<w.heap.size)->Each w (fun _=>none) 0 ra avs vals->res.pre () ->
  Calls P c.f vals.toArray w fun e w'=>∃ v,e = .returned v/\From w w'/\AVR w' (fun _=>none) w.heap.size (fun b=>ra b\/w.heap.size<=b) res.av v
def ofVal:Value->AV
 | .int k n => .lit k n
 | .bool b => .blit b
 | .string s => .str fun _=>s
 | .slice none 0 0 => .nil
 | _ => .un
def AV.asInt:AV->Option (IntKind×(Unit->Int))
 | .int k n=>some (k,n)
 | .lit k n=>some (k,fun _=>n)
 | _=>none
def AV.asBool:AV->Option (Unit->Bool)
 | .bool b=>some b
 | .blit b=>some fun _=>b
 | _=>none
def inI64 (n:Int):Prop := -9223372036854775808<=n/\n<=9223372036854775807
def bitF (op:BinOp) (k:IntKind) (a b:Int):Int:=match op with
 | .and=>k.wrap (BitVec.ofInt k.bits a &&& BitVec.ofInt k.bits b).toNat
 | .or=>k.wrap (BitVec.ofInt k.bits a ||| BitVec.ofInt k.bits b).toNat
 | .xor=>k.wrap (BitVec.ofInt k.bits a ^^^ BitVec.ofInt k.bits b).toNat
 | _=>k.wrap (BitVec.ofInt k.bits a &&& ~~~BitVec.ofInt k.bits b).toNat
def shF (op:BinOp) (k:IntKind) (a b:Int):Int:=match op with
 | .shl=>k.wrap (a*2^(min b.toNat k.bits))
 | _=>a.fdiv (2^(min b.toNat k.bits))
def arith (op:BinOp) (k:IntKind) (a b:Unit->Int):Option (AV×List VC) :=
 match op with
 | .add=>if k = .i64 then some (.int k fun _=>a ()+b (),[fun _=>inI64 (a ()+b ())]) else some (.int k fun _=>k.wrap (a ()+b ()),[])
 | .sub=>if k = .i64 then some (.int k fun _=>a () - b (),[fun _=>inI64 (a () - b ())]) else some (.int k fun _=>k.wrap (a () - b ()),[])
 | .mul=>if k = .i64 then some (.int k fun _=>a ()*b (),[fun _=>inI64 (a ()*b ())]) else some (.int k fun _=>k.wrap (a ()*b ()),[])
 | .quo=>some (.int k fun _=>k.wrap ((a ()).tdiv (b ())),[fun _=>b ()≠0])
 | .rem=>some (.int k fun _=>(a ()).tmod (b ()),[fun _=>b ()≠0])
 | .eql=>some (.bool fun _=>decide (a ()=b ()),[])
 | .neq=>some (.bool fun _ => !decide (a ()=b ()),[])
 | .lss=>some (.bool fun _=>decide (a ()<b ()),[])
 | .leq=>some (.bool fun _=>decide (a ()<=b ()),[])
 | .gtr=>some (.bool fun _=>decide (b ()<a ()),[])
 | .geq=>some (.bool fun _=>decide (b ()<=a ()),[])
 | .and=>some (.int k fun _=>bitF .and k (a ()) (b ()),[])
 | .or=>some (.int k fun _=>bitF .or k (a ()) (b ()),[])
 | .xor=>some (.int k fun _=>bitF .xor k (a ()) (b ()),[])
 | .andNot=>some (.int k fun _=>bitF .andNot k (a ()) (b ()),[])
 | _=>none
def fold (op:BinOp) (k:IntKind) (m n:Int):Option AV :=
 match op with
 | .add=>some (.lit k (k.wrap (m+n)))
 | .sub=>some (.lit k (k.wrap (m - n)))
 | .mul=>some (.lit k (k.wrap (m*n)))
 | .eql=>some (.blit (m==n))
 | .neq=>some (.blit (m != n))
 | .lss=>some (.blit (decide (m<n)))
 | .leq=>some (.blit (decide (m<=n)))
 | .gtr=>some (.blit (decide (m>n)))
 | .geq=>some (.blit (decide (m≥n)))
 | _=>none
def strOp (op:BinOp) (a b:Unit->ByteArray):Option (AV×List VC) :=
 match op with
 | .eql=>some (.bool fun _=>decide (a ()=b ()),[])
 | .neq=>some (.bool fun _ => !decide (a ()=b ()),[])
 | _=>none
def boolOp (op:BinOp) (a b:Unit->Bool):Option (AV×List VC) :=
 match op with
 | .eql=>some (.bool fun _=>a ()==b (),[])
 | .neq=>some (.bool fun _=>a () != b (),[])
 | _=>none
def shiftAV (op:BinOp) (x y:AV):Option (AV×List VC):=match x.asInt,y.asInt with
 | some (k,a),some (_,b)=>some (.int k fun _=>shF op k (a ()) (b ()),[fun _=>0<=b ()])
 | _,_=>none
def binAV (ti:Option TI) (op:BinOp) (x y:AV):Option (AV×List VC) :=
 match op with
 | .shl=>shiftAV .shl x y
 | .shr=>shiftAV .shr x y
 | op=>match x,y with
 | .lit k m,.lit k' n=>if k=k' then (match fold op k m n with
  | some r=>some (r,[])
  | none=>arith op k (fun _=>m) (fun _=>n)) else none
 | .str a,.str b=>strOp op a b
 | x,y=>match x.asInt,y.asInt with
  | some (k,a),some (k',b)=>if k=k' then arith op k a b else none
  | _,_=>match x.asBool,y.asBool with
   | some a,some b=>match ti with
    | some .bool=>boolOp op a b
    | _=>none
   | _,_=>none
def pickAV (c x y:AV):Option AV :=
 match c with
 | .blit b=>some (if b then x else y)
 | .bool c=>match x.asBool,y.asBool with
  | some a,some b=>some (.bool fun _=>cond (c ()) (a ()) (b ()))
  | _,_=>match x.asInt,y.asInt with
   | some (k,a),some (k',b)=>if k=k' then some (.int k fun _=>cond (c ()) (a ()) (b ())) else none
   | _,_=>none
 | _=>none
def cut (agg:Bool) (off n:Nat) (cells:List AV):Option AV :=
 if agg then (if off+n<=cells.length then some (.agg ((cells.drop off).take n)) else none) else cells[off]?
def tiOf (ty:Tab) (T:Nat):Option TI:=(alook ty T).map fun i=>i.ti
def fieldAt (i:TInf) (f:Nat):Option (Nat×Nat×Bool) :=
 match i.ti with
 | .struct fs=>fs[f]?
 | _=>none
def fillAV (place:Nat->Option (Nat×Nat)) (cells:List AV):List (Nat×AV)->Option (List AV)
 | []=>some cells
 | (i,x)::rest=>match place i with
  | none=>none
  | some (off,size)=>match x with
   | .agg cs=>if cs.length==size&&decide (off+size<=cells.length) then fillAV place (cells.take off++cs++cells.drop (off+size)) rest else none
   | .un=>none
   | .tup _=>none
   | x=>if size==1&&decide (off+1<=cells.length) then fillAV place (cells.set off x) rest else none
def idxVC (i:Unit->Int) (n:Unit->Int):List VC := [fun _=>0<=i ()/\i ()<n ()]
def loadAV (ge:Nat->Option En) (agg:Bool) (n:Nat):AV->Option AV
 | .pto cells off=>cut agg off n cells
 | .ptr loc off=>match ge loc with
  | some (.box _ cells)=>cut agg off n cells
  | _=>none
 | .orp t loc k off=>match ge loc with
  | some (.row fr t' _ l)=>if t=t' then cut agg off n (cellsAV fr t' fun _=>(l ()).getD (k ()).toNat t'.dflt) else none
  | _=>none
 | _=>none
def addOff:AV->Nat->Option AV
 | .pto cells off,k=>some (.pto cells (off+k))
 | .ptr loc off,k=>some (.ptr loc (off+k))
 | .orp t loc i off,k=>some (.orp t loc i (off+k))
 | _,_=>none
def lenAV (ge:Nat->Option En):AV->Option AV
 | .nil=>some (.lit .i64 0)
 | .sl _ _ l=>some (.int .i64 fun _=>((l ()).length:Int))
 | .wide _ _ _ n=>some (.int .i64 fun _=>(n ():Int))
 | .own loc=>match ge loc with
  | some (.row _ _ _ l)=>some (.int .i64 fun _=>((l ()).length:Int))
  | _=>none
 | .str s=>some (.int .i64 fun _=>((s ()).size:Int))
 | _=>none
/- keys of maps -/
def kxAV:Lk->AV->Option (Unit->Kx)
 | .int k,.int k' n=>if k=k' then some fun _ => .i k (n ()) else none
 | .int k,.lit k' n=>if k=k' then some fun _ => .i k n else none
 | .bool,.bool b=>some fun _ => .f (b ())
 | .bool,.blit b=>some fun _ => .f b
 | .str,.str s=>some fun _ => .s (s ())
 | _,_=>none
def kxL:List Lk->List AV->Option (Unit->List Kx)
 | [],[]=>some fun _ => []
 | l::ls,x::xs=>match kxAV l x,kxL ls xs with
  | some a,some b=>some fun _=>a ()::b ()
  | _,_=>none
 | _,_=>none
def keyAV (c:Kc) (x:AV):Option (Unit->List Kx):=match c with
 | .one l=>(kxAV l x).map fun a=>fun _ => [a ()]
 | .arr n l=>match x with
  | .agg cs=>kxL (List.replicate n l) cs
  | _=>none
 | .st ls=>match x with
  | .agg cs=>kxL ls cs
  | _=>none
def Kx.num:Kx->Int
 | .i _ n=>n
 | _=>0
def Kx.flag:Kx->Bool
 | .f p=>p
 | _=>false
def Kx.txt:Kx->ByteArray
 | .s x=>x
 | _=>noText
def leafOut:Lk->(Unit->Kx)->AV
 | .int k,x => .int k fun _=>(x ()).num
 | .bool,x => .bool fun _=>(x ()).flag
 | .str,x => .str fun _=>(x ()).txt
def leafOuts:List Lk->Nat->(Unit->List Kx)->List AV
 | [],_,_ => []
 | l::ls,n,k=>leafOut l (fun _=>(k ()).getD n (.i .i64 0))::leafOuts ls (n+1) k
def keyOut (c:Kc) (k:Unit->List Kx):AV:=match c with
 | .one l=>leafOut l fun _=>(k ()).getD 0 (.i .i64 0)
 | .arr n l => .agg (leafOuts (List.replicate n l) 0 k)
 | .st ls => .agg (leafOuts ls 0 k)
def lookAV (ag fr:Bool) (t:Tc) (x:Unit->Option t.el) (ok:Bool):AV :=
 if ok then .tup [elAV ag fr t fun _=>(x ()).getD t.dflt,.bool fun _=>(x ()).isSome] else elAV ag fr t fun _=>(x ()).getD t.dflt
def eqlAV (i:Option TInf) (op:BinOp) (x y:AV):Option (AV×List VC):=match x,y with
 | .agg cs,.agg ds=>match i with
  | some i=>if i.eq.isEmpty then none else match kxL i.eq cs,kxL i.eq ds with
   | some a,some b=>match op with
    | .eql=>some (.bool fun _=>decide (a ()=b ()),[])
    | .neq=>some (.bool fun _ => !decide (a ()=b ()),[])
    | _=>none
   | _,_=>none
  | none=>none
 | x,y=>binAV (i.map fun i=>i.ti) op x y
def boundAV (g:Operand->AV) (d:Unit->Int):Option Operand->Option (Unit->Int)
 | none=>some d
 | some o=>(g o).asInt.map fun p=>p.2
/- one of some values,as an index says -/
def selI (kk:IntKind) (k:Unit->Int):Nat->List AV->Option (Unit->Int)
 | _,[]=>none
 | j,x::l=>match x.asInt with
  | some (k',a)=>if k'=kk then (match l with
   | []=>some a
   | _=>(selI kk k (j+1) l).map fun f=>fun _=>cond (decide (k ()=(j:Int))) (a ()) (f ())) else none
  | none=>none
def selB (k:Unit->Int):Nat->List AV->Option (Unit->Bool)
 | _,[]=>none
 | j,x::l=>match x.asBool with
  | some a=>match l with
   | []=>some a
   | _=>(selB k (j+1) l).map fun f=>fun _=>cond (decide (k ()=(j:Int))) (a ()) (f ())
  | none=>none
def selAV (k:Unit->Int) (l:List AV):Option AV:=match l with
 | .int kk _::_=>(selI kk k 0 l).map (.int kk)
 | .lit kk _::_=>(selI kk k 0 l).map (.int kk)
 | .bool _::_=>(selB k 0 l).map .bool
 | .blit _::_=>(selB k 0 l).map .bool
 | _=>none
def stride (cells:List AV) (n esz c:Nat):List AV:=(List.range n).map fun m=>cells.getD (m*esz+c) .un
def selCells (k:Unit->Int) (cells:List AV) (n esz:Nat):List Nat->Option (List AV)
 | []=>some []
 | c::cs=>match selAV k (stride cells n esz c),selCells k cells n esz cs with
  | some x,some l=>some (x::l)
  | _,_=>none
def byteIn (s:ByteArray) (i:Nat):Int:=(s.data[i]?.map fun c=>(c.toNat:Int)).getD 0
def indexAV (ti:Option TI) (x i:AV):Option (AV×List VC):=match ti,x with
 | some (.array n _ esz ag),.agg cells=>match i with
  | .lit _ m=>if decide (0<=m)&&decide (m<(n:Int)) then (cut ag (m.toNat*esz) esz cells).map fun r=>(r,[]) else none
  | .int _ k=>if cells.length==n*esz then
   (match ag with
   | true=>(selCells k cells n esz (List.range esz)).map fun l=>(.agg l,idxVC k fun _=>(n:Int))
   | false=>if esz==1 then (selAV k cells).map fun r=>(r,idxVC k fun _=>(n:Int)) else none) else none
  | _=>none
 | some .str,.str s=>match i.asInt with
  | some (_,k)=>some (.int .u8 fun _=>byteIn (s ()) (k ()).toNat,idxVC k fun _=>((s ()).size:Int))
  | none=>none
 | _,_=>none
def arrAddr (ti:Option TI) (x i:AV):Option (AV×List VC):=match ti,i with
 | some (.array n _ esz _),.lit _ m=>if decide (0<=m)&&decide (m<(n:Int)) then (addOff x (m.toNat*esz)).map fun r=>(r,[]) else none
 | _,_=>none
def pureOp (ty:Tab) (cs:List Con) (ge:Nat->Option En) (g:Operand->AV):Op->Option (AV×List VC)
 | .move x=>some (g x,[])
 | .assign x=>some (g x,[])
 | .pick c a b=>(pickAV (g c) (g a) (g b)).map fun r=>(r,[])
 | .nilCheck x=>match g x with
  | .ptr l o=>some (.ptr l o,[])
  | .pto l o=>some (.pto l o,[])
  | .orp t l k o=>some (.orp t l k o,[])
  | _=>none
 | .binOp op T x y _=>eqlAV (alook ty T) op (g x) (g y)
 | .unOp .not _ x=>match g x with
  | .blit b=>some (.blit (!b),[])
  | .bool b=>some (.bool fun _ => !b (),[])
  | _=>none
 | .unOp .neg _ x=>match g x with
  | .lit k n=>some (.lit k (k.wrap (-n)),[])
  | .int .i64 n=>some (.int .i64 fun _ => -n (),[fun _=>inI64 (-n ())])
  | _=>none
 | .convert s t x=>match tiOf ty s,tiOf ty t,g x with
  | some (.int _),some (.int k),.lit _ n=>some (.lit k (k.wrap n),[])
  | some (.int _),some (.int k),.int _ n=>if k = .i64 then some (.int k n,[fun _=>inI64 (n ())]) else some (.int k fun _=>k.wrap (n ()),[])
  | _,_,_=>none
 | .fieldAddr T x f=>match (alook ty T).bind (fieldAt · f) with
  | some (off,sz,_)=>if sz==0 then none else (addOff (g x) off).map fun r=>(r,[])
  | none=>none
 | .field T x f=>match (alook ty T).bind (fieldAt · f),g x with
  | some (off,sz,a),.agg cells=>(cut a off sz cells).map fun r=>(r,[])
  | _,_=>none
 | .indexAddr T x i=>match tiOf ty T,g x,(g i).asInt with
  | some (.slice _ sz _),.sl fr t l,some (_,k)=>if t.size==sz then some (.pto (cellsAV fr t fun _=>(l ()).getD (k ()).toNat t.dflt) 0,idxVC k fun _=>((l ()).length:Int)) else none
  | some (.slice _ sz _),.wide fr t l n,some (_,k)=>if t.size==sz then some (.pto (cellsAV fr t fun _=>(l ()).getD (k ()).toNat t.dflt) 0,idxVC k fun _=>(n ():Int)) else none
  | some (.slice _ sz _),.own loc,some (_,k)=>match ge loc with
   | some (.row _ t _ l)=>if t.size==sz then some (.orp t loc k 0,idxVC k fun _=>((l ()).length:Int)) else none
   | _=>none
  | ti,y,_=>arrAddr ti y (g i)
 | .index T x i=>indexAV (tiOf ty T) (g x) (g i)
 | .lookup T x i ok=>match tiOf ty T,g x with
  | some (.map _ _ c t ag),.mp loc=>match ge loc,keyAV c (g i) with
   | some (.map fr ag' c' t' _ m),some k=>if c'=c/\t'=t/\ag'=ag then some (lookAV ag' fr t' (fun _=>m () (k ())) ok,[]) else none
   | _,_=>none
  | _,_=>none
 | .entry x=>match g x with
  | .it ml l2=>match ge ml,ge l2 with
   | some (.map fr ag c t _ m),some (.iter ml' c' seen _)=>if ml'=ml/\c'=c then some (.tup [keyOut c fun _=>(seen ()).headD [],elAV ag fr t fun _=>(m () ((seen ()).headD [])).getD t.dflt],[fun _=>seen () ≠ []]) else none
   | _,_=>none
  | _=>none
 | .slice T x none (some hi) none=>match tiOf ty T,g x with
  | some (.slice _ sz _),.sl fr t l=>if t.size==sz then (match (g hi).asInt with
   | some (_,b)=>some (.wide fr t l fun _=>(b ()).toNat,[fun _=>0<=b ()/\b ()<=((l ()).length:Int)])
   | none=>none) else none
  | some (.slice _ sz _),.wide fr t l _=>if t.size==sz then (match (g hi).asInt with
   | some (_,b)=>some (.wide fr t l fun _=>(b ()).toNat,[fun _=>0<=b ()/\b ()<=((l ()).length:Int)])
   | none=>none) else none
  | _,_=>none
 | .slice T x lo hi none=>match tiOf ty T,g x with
  | some (.slice _ sz _),.sl fr t l=>if t.size==sz then (match boundAV g (fun _=>0) lo,boundAV g (fun _=>((l ()).length:Int)) hi with
   | some a,some b=>some (.sl fr t fun _=>((l ()).take (b ()).toNat).drop (a ()).toNat,[fun _=>0<=a ()/\a ()<=b ()/\b ()<=((l ()).length:Int)])
   | _,_=>none) else none
  | _,_=>none
 | .extract x i=>match g x with
  | .tup l=>(l[i]?).map fun r=>(r,[])
  | _=>none
 | .makeFunc (.func f) first caps=>if first.isEmpty then some (.fn f (caps.toList.map g),[]) else none
 | .load T x=>match alook ty T with
  | some i=>(loadAV ge i.ti.agg i.sz (g x)).map fun r=>(r,[])
  | none=>none
 | .build T parts=>match alook ty T with
  | some i=>match i.ti with
   | .struct fs=>if i.z.isEmpty then none else (fillAV (fun k=>(fs[k]?).map fun f=>(f.1,f.2.1)) i.z (parts.toList.map fun p=>(p.1,g p.2))).map fun r=>(.agg r,[])
   | .array _ _ esz _=>if i.z.isEmpty then none else (fillAV (fun k=>some (k*esz,esz)) i.z (parts.toList.map fun p=>(p.1,g p.2))).map fun r=>(.agg r,[])
   | _=>none
  | none=>none
 | .call c=>match c.callee with
  | .builtin .min=>match c.args.toList with
   | [x,y]=>match (g x).asInt,(g y).asInt with
    | some (k,a),some (k',b)=>if k=k' then some (.int k fun _=>cond (decide (b ()<a ())) (b ()) (a ()),[]) else none
    | _,_=>none
   | _=>none
  | .builtin .max=>match c.args.toList with
   | [x,y]=>match (g x).asInt,(g y).asInt with
    | some (k,a),some (k',b)=>if k=k' then some (.int k fun _=>cond (decide (a ()<b ())) (b ()) (a ()),[]) else none
    | _,_=>none
   | _=>none
  | .builtin .len=>match c.args.toList,c.argTypes.toList with
   | [x],[T]=>match tiOf ty T,g x with
    | some (.slice _ _ _),.str _=>none
    | some (.slice _ _ _),y=>(lenAV ge y).map fun r=>(r,[])
    | some .str,.str s=>(lenAV ge (.str s)).map fun r=>(r,[])
    | _,_=>none
   | _,_=>none
  | .value fo=>match g fo with
   | .fn f caps=>match findCon cs f with
    | some con=>match coerceL ge con.sig (c.args.toList.map g++caps) with
     | some avs=>match con.go avs with
      | some res=>if AV.plain true res.av||(AV.plainL false (c.args.toList.map g++caps)&&AV.plain false res.av) then some (res.av,[res.pre]) else none
      | none=>none
     | none=>none
    | none=>none
   | _=>none
  | _=>none
 | _=>none
section
variable {w w':World} {ρ ρ':Nat->Option Rl} {base base':Nat} {ro ro':Nat->Prop} {v:Value}
theorem AVR.int_ {k:IntKind} {n:Unit->Int} (h:AVR w ρ base ro (.int k n) v):v = .int k (n ()):=by cases h; rfl
theorem AVR.lit_ {k:IntKind} {n:Int} (h:AVR w ρ base ro (.lit k n) v):v = .int k n:=by cases h; rfl
theorem AVR.bool_ {b:Unit->Bool} (h:AVR w ρ base ro (.bool b) v):v = .bool (b ()):=by cases h; rfl
theorem AVR.blit_ {b:Bool} (h:AVR w ρ base ro (.blit b) v):v = .bool b:=by cases h; rfl
theorem AVR.str_ {s:Unit->ByteArray} (h:AVR w ρ base ro (.str s) v):v = .string (s ()):=by cases h; rfl
theorem AVR.nil_ (h:AVR w ρ base ro .nil v):v = .slice none 0 0:=by cases h; rfl
theorem AVR.agg_ {l:List AV} (h:AVR w ρ base ro (.agg l) v):∃ vs:List Value,v = .agg vs.toArray/\Each w ρ base ro l vs:=by
 cases h with
 | agg _ vs hl h=>exact⟨vs,rfl,hl,h⟩
theorem AVR.tup_ {l:List AV} (h:AVR w ρ base ro (.tup l) v):∃ vs:List Value,v = .tuple vs.toArray/\Each w ρ base ro l vs:=by
 cases h with
 | tup _ vs hl h=>exact⟨vs,rfl,hl,h⟩
theorem AVR.fn_ {f:FuncId} {l:List AV} (h:AVR w ρ base ro (.fn f l) v):∃ vs:List Value,v = .func (.func f) #[] vs.toArray/\Each w ρ base ro l vs:=by
 cases h with
 | fn _ _ vs hl h=>exact⟨vs,rfl,hl,h⟩
theorem AVR.ptr_ {loc off:Nat} (h:AVR w ρ base ro (.ptr loc off) v):∃ b,ρ loc=some (.box b)/\v = .pointer (some ⟨b,off,none⟩):=by
 cases h with
 | ptr _ _ b h=>exact⟨b,h,rfl⟩
theorem AVR.own_ {loc:Nat} (h:AVR w ρ base ro (.own loc) v):∃ A n c,ρ loc=some (.row A n c)/\v = .slice A n c:=by
 cases h with
 | own _ A n c h=>exact⟨A,n,c,h,rfl⟩
theorem AVR.orp_ {t:Tc} {loc off:Nat} {k:Unit->Int} (h:AVR w ρ base ro (.orp t loc k off) v):∃ A,∃ n:Nat,∃ c b,ρ loc=some (.row A n c)/\A=some ⟨b,0,none⟩/\0<=k ()/\k ()<(n:Int)/\v = .pointer (some ⟨b,(k ()).toNat*t.size+off,none⟩):=by
 cases h with
 | orp _ _ _ _ A n c b h hA h0 hn=>exact⟨A,n,c,b,h,hA,h0,hn,rfl⟩
theorem AVR.pto_ {cells:List AV} {off:Nat} (h:AVR w ρ base ro (.pto cells off) v):∃ b o,∃ cs:List Value,ro b/\b<w.heap.size/\(∀ (j:Nat) u,cs[j]? = some u->w.cell? ⟨b,o+j,none⟩=some u)/\Each w ρ base ro cells cs/\v = .pointer (some ⟨b,o+off,none⟩):=by
 cases h with
 | pto _ _ b o cs hro hlt hl hc h=>exact⟨b,o,cs,hro,hlt,hc,⟨hl,h⟩,rfl⟩
theorem AVR.sl_ {fr:Bool} {t:Tc} {l:Unit->List t.el} (h:AVR w ρ base ro (.sl fr t l) v):∃ A c,∃ css:List (List Value),css.length=(l ()).length/\css.length<=c/\Rd w w.heap.size t.size A css/\(∀ a,A=some a->css ≠ []->ro a.block)/\(fr=true->∀ a,A=some a->css ≠ []->base<=a.block) /\
 (∀ (k:Nat) (cs:List Value) (j:Nat) (x:AV) (v:Value),css[k]? = some cs->(cellsAV fr t fun _=>(l ()).getD k t.dflt)[j]? = some x->cs[j]? = some v->AVR w ρ base ro x v)/\v = .slice A (l ()).length c:=by
 cases h with
 | sl _ _ _ A c css hl hc hr hro hfr h=>exact⟨A,c,css,hl,hc,hr,hro,hfr,h,rfl⟩
theorem AVR.mp_ {loc:Nat} (h:AVR w ρ base ro (.mp loc) v):∃ b,ρ loc=some (.mp b)/\v = .map (some b):=by
 cases h with
 | mp _ b h=>exact⟨b,h,rfl⟩
theorem AVR.stamp_ {loc:Nat} (h:AVR w ρ base ro (.stamp loc) v):∃ s,ρ loc=some (.stamp s)/\v=goInt s:=by
 cases h with
 | stamp _ s h=>exact⟨s,h,rfl⟩
theorem AVR.it_ {loc l2:Nat} (h:AVR w ρ base ro (.it loc l2) v):∃ b,ρ l2=some (.it b)/\v = .pointer (some ⟨b,0,none⟩):=by
 cases h with
 | it _ _ b h=>exact⟨b,h,rfl⟩
theorem asInt_ {x:AV} {k:IntKind} {n:Unit->Int} (hx:x.asInt=some (k,n)) (h:AVR w ρ base ro x v):v = .int k (n ()):=by
 cases x<;>simp only [AV.asInt] at hx<;>cases hx
 . exact h.int_
 . exact h.lit_
theorem asBool_ {x:AV} {b:Unit->Bool} (hx:x.asBool=some b) (h:AVR w ρ base ro x v):v = .bool (b ()):=by
 cases x<;>simp only [AV.asBool] at hx<;>cases hx
 . exact h.bool_
 . exact h.blit_
theorem ofVal_ (u:Value):AVR w ρ base ro (ofVal u) u:=by
 unfold ofVal;split
 . exact .lit _ _
 . exact .blit _
 . exact .str _
 . exact .nil
 . exact .un _
end
section
variable {P:Program} {r:Operand->Value} {d:Option Nat} {ty:TypeId} {pos:String} {aft:Array Edge} {gd:Option (Nat×Bool)} {u v:Value} {w:World}
variable {ρ:Nat->Option Rl} {base:Nat} {ro:Nat->Prop}
theorem wrap_in64 {n:Int} (h:inI64 n):IntKind.i64.wrap n=n:=wrap_i64 h.1 h.2
theorem arith_ok {op:BinOp} {k:IntKind} {a b:Unit->Int} {av:AV} {vcs:List VC} {t t':TypeId} {x y:Operand} (h:arith op k a b=some (av,vcs)) (hv:∀ c∈vcs,c ()) (hx:r x = .int k (a ())) (hy:r y = .int k (b ())) :
 ∃ v,(execOp r ⟨d,.binOp op t x y t',ty,pos,aft,gd⟩).run P w = .ok (.value v) w/\AVR w ρ base ro av v:=by
 cases op<;>simp only [arith] at h
 case add =>
  split at h
  . rename_i hk;subst hk;cases h;exact⟨_,ok_add hx hy (wrap_in64 (hv _ (.head _))) rfl,.int _ _⟩
  . cases h;exact⟨_,ok_add hx hy rfl rfl,.int _ _⟩
 case sub =>
  split at h
  . rename_i hk;subst hk;cases h;exact⟨_,ok_sub hx hy (wrap_in64 (hv _ (.head _))) rfl,.int _ _⟩
  . cases h;exact⟨_,ok_sub hx hy rfl rfl,.int _ _⟩
 case mul =>
  split at h
  . rename_i hk;subst hk;cases h;exact⟨_,ok_mul hx hy (wrap_in64 (hv _ (.head _))) rfl,.int _ _⟩
  . cases h;exact⟨_,ok_mul hx hy rfl rfl,.int _ _⟩
 case quo =>
  cases h;exact⟨_,ok_quo hx hy (hv _ (.head _)) rfl rfl,.int _ _⟩
 case rem =>
  cases h;exact⟨_,ok_rem hx hy (hv _ (.head _)) rfl rfl,.int _ _⟩
 case eql=>cases h; exact⟨_,ok_cmp (op := .eql) hx hy rfl rfl,by rw [show (a ()==b ())=decide (a ()=b ()) by rw [Bool.eq_iff_iff]; simp]; exact .bool _⟩
 case neq=>cases h; exact⟨_,ok_cmp (op := .neq) hx hy rfl rfl,by rw [show (a () != b ()) = !decide (a ()=b ()) by rw [Bool.eq_iff_iff]; simp]; exact .bool _⟩
 case lss=>cases h; exact⟨_,ok_cmp (op := .lss) hx hy rfl rfl,.bool _⟩
 case leq=>cases h; exact⟨_,ok_cmp (op := .leq) hx hy rfl rfl,.bool _⟩
 case gtr=>cases h; exact⟨_,ok_cmp (op := .gtr) hx hy rfl rfl,.bool _⟩
 case geq=>cases h; exact⟨_,ok_cmp (op := .geq) hx hy rfl rfl,.bool _⟩
 case and =>
  cases h;refine⟨_,?_,.int k _⟩;unfold execOp;simp only [hx,hy,eqGuard,binOp,Op.intBits,ne_eq,not_true_eq_false,if_false,Sem.run_bind,Sem.run_pure];rfl
 case or =>
  cases h;refine⟨_,?_,.int k _⟩;unfold execOp;simp only [hx,hy,eqGuard,binOp,Op.intBits,ne_eq,not_true_eq_false,if_false,Sem.run_bind,Sem.run_pure];rfl
 case xor =>
  cases h;refine⟨_,?_,.int k _⟩;unfold execOp;simp only [hx,hy,eqGuard,binOp,Op.intBits,ne_eq,not_true_eq_false,if_false,Sem.run_bind,Sem.run_pure];rfl
 case andNot =>
  cases h;refine⟨_,?_,.int k _⟩;unfold execOp;simp only [hx,hy,eqGuard,binOp,Op.intBits,ne_eq,not_true_eq_false,if_false,Sem.run_bind,Sem.run_pure];rfl
 all_goals cases h
theorem fold_ok {op:BinOp} {k:IntKind} {m n:Int} {av:AV} {t t':TypeId} {x y:Operand} (h:fold op k m n=some av) (hx:r x = .int k m) (hy:r y = .int k n) :
 ∃ v,(execOp r ⟨d,.binOp op t x y t',ty,pos,aft,gd⟩).run P w = .ok (.value v) w/\AVR w ρ base ro av v:=by
 cases op<;>simp only [fold] at h<;>cases h
 . exact⟨_,ok_add hx hy rfl rfl,.lit _ _⟩
 . exact⟨_,ok_sub hx hy rfl rfl,.lit _ _⟩
 . exact⟨_,ok_mul hx hy rfl rfl,.lit _ _⟩
 all_goals exact⟨_,ok_cmp hx hy rfl rfl,.blit _⟩
theorem ok_str {op:BinOp} {a b:ByteArray} {t t':TypeId} {x y:Operand} (hx:r x = .string a) (hy:r y = .string b):(execOp r ⟨d,.binOp op t x y t',ty,pos,aft,gd⟩).run P w=((Op.stringOp op a b).run P w).andThen fun v w => .ok (.value v) w:=by
 unfold execOp;have h1:(eqGuard op t x y (r x) (r y)).run P w = .ok () w:=by
  rw [hx,hy];cases op<;>rfl
 have h2:binOp op t (r x) (r y)=Op.stringOp op a b:=by
  rw [hx,hy];cases op<;>rfl
 simp only [Sem.run_bind,h1,h2,Result.andThen_ok];cases (Op.stringOp op a b).run P w<;>rfl
theorem strOp_ok {op:BinOp} {a b:Unit->ByteArray} {av:AV} {vcs:List VC} {t t':TypeId} {x y:Operand} (h:strOp op a b=some (av,vcs)) (hx:r x = .string (a ())) (hy:r y = .string (b ())) :
 ∃ v,(execOp r ⟨d,.binOp op t x y t',ty,pos,aft,gd⟩).run P w = .ok (.value v) w/\AVR w ρ base ro av v:=by
 cases op<;>simp only [strOp] at h<;>cases h
 . refine⟨_,(ok_str hx hy).trans (by simp only [Op.stringOp,Sem.run_pure,Result.andThen_ok]; rfl),?_⟩;rw [toList_inj];exact .bool _
 . refine⟨_,(ok_str hx hy).trans (by simp only [Op.stringOp,Sem.run_pure,Result.andThen_ok]; rfl),?_⟩;rw [toList_inj];exact .bool _
theorem tiOf_ {tb:Tab} {T:Nat} {ti:TI} (hty:TyOk P tb) (h:tiOf tb T=some ti):∃ i,alook tb T=some i/\i.ti=ti/\tyB P T i=true:=by
 unfold tiOf at h
 cases hi:alook tb T with
 | none=>rw [hi] at h; cases h
 | some i =>
  rw [hi] at h;simp only [Option.map_some,Option.some.injEq] at h;exact⟨i,rfl,h,hty T i hi⟩
theorem tyB_desc {T:Nat} {i:TInf} (h:tyB P T i=true):∃ ds,P.underlying T=some ds/\descB P ds i.ti=true:=by
 unfold tyB at h;simp only [Bool.and_eq_true] at h;have h2:=h.1.2
 cases hd:P.underlying T with
 | none=>rw [hd] at h2; cases h2
 | some ds =>
  rw [hd] at h2;exact⟨ds,rfl,h2⟩
theorem tyB_bool {T:Nat} {i:TInf} (h:tyB P T i=true) (hi:i.ti = .bool):P.underlying T=some .bool:=by
 obtain⟨ds,hd,hm⟩:=tyB_desc h;rw [hi] at hm;cases ds<;>first|exact hd|simp [descB] at hm
theorem tyB_int {T:Nat} {i:TInf} {k:IntKind} (h:tyB P T i=true) (hi:i.ti = .int k):P.underlying T=some (.int k):=by
 obtain⟨ds,hd,hm⟩:=tyB_desc h;rw [hi] at hm;cases ds<;>first|(simp [descB] at hm; done)|skip
 simp only [descB,decide_eq_true_eq] at hm;rw [hd,hm]
theorem tyB_str {T:Nat} {i:TInf} (h:tyB P T i=true) (hi:i.ti = .str):P.underlying T=some .string:=by
 obtain⟨ds,hd,hm⟩:=tyB_desc h;rw [hi] at hm;cases ds<;>first|exact hd|simp [descB] at hm
theorem equal_bool {T:Nat} {a b:Bool} (hT:P.underlying T=some .bool):(Op.equal T (.bool a) (.bool b)).run P w = .ok (a==b) w:=by
 unfold Op.equal;rw [show Op.maxDepth=9999+1 from rfl];unfold Op.equalIn;simp only [underlying,Sem.run_bind,Sem.run_pure,Result.andThen_ok,run_program,hT]
theorem boolOp_ok {op:BinOp} {a b:Unit->Bool} {av:AV} {vcs:List VC} {T t':TypeId} {x y:Operand} (hT:P.underlying T=some .bool) (h:boolOp op a b=some (av,vcs)) (hx:r x = .bool (a ())) (hy:r y = .bool (b ())) :
 ∃ v,(execOp r ⟨d,.binOp op T x y t',ty,pos,aft,gd⟩).run P w = .ok (.value v) w/\AVR w ρ base ro av v:=by
 cases op<;>simp only [boolOp] at h<;>cases h
 all_goals
  refine⟨_,?_,.bool _⟩;unfold execOp;simp only [hx,hy,eqGuard,binOp,Sem.run_bind,Sem.run_pure,Result.andThen_ok,equal_bool hT];rfl
theorem shiftAV_ok {op:BinOp} (hop:op = .shl\/op = .shr) {a b av:AV} {vcs:List VC} {T t':TypeId} {x y:Operand} (h:shiftAV op a b=some (av,vcs)) (hv:∀ c∈vcs,c ()) (hx:AVR w ρ base ro a (r x)) (hy:AVR w ρ base ro b (r y)) :
 ∃ v,(execOp r ⟨d,.binOp op T x y t',ty,pos,aft,gd⟩).run P w = .ok (.value v) w/\AVR w ρ base ro av v:=by
 unfold shiftAV at h;split at h
 . rename_i k m k' n e1 e2;cases h;have h0:0<=n ():=hv _ (.head _);have h1:¬ n ()<0:=by omega
   refine⟨_,?_,.int k _⟩;unfold execOp;rcases hop with rfl|rfl
   . simp only [asInt_ e1 hx,asInt_ e2 hy,eqGuard,binOp,Op.shift,h1,if_false,Sem.run_bind,Sem.run_pure];rfl
   . simp only [asInt_ e1 hx,asInt_ e2 hy,eqGuard,binOp,Op.shift,h1,if_false,Sem.run_bind,Sem.run_pure];rfl
 . cases h
theorem binAV_ok {tb:Tab} (hty:TyOk P tb) {op:BinOp} {a b av:AV} {vcs:List VC} {T t':TypeId} {x y:Operand} (h:binAV (tiOf tb T) op a b=some (av,vcs)) (hv:∀ c∈vcs,c ()) (hx:AVR w ρ base ro a (r x)) (hy:AVR w ρ base ro b (r y)) :
 ∃ v,(execOp r ⟨d,.binOp op T x y t',ty,pos,aft,gd⟩).run P w = .ok (.value v) w/\AVR w ρ base ro av v:=by
 unfold binAV at h;split at h
 . exact shiftAV_ok (.inl rfl) h hv hx hy
 . exact shiftAV_ok (.inr rfl) h hv hx hy
 split at h
 . rename_i k m k' n;split at h
   . rename_i hk;subst hk;split at h
     . rename_i av' hf;cases h;exact fold_ok hf hx.lit_ hy.lit_
     . exact arith_ok h hv hx.lit_ hy.lit_
   . cases h
 . exact strOp_ok h hx.str_ hy.str_
 . split at h
   . rename_i k m k' n e1 e2;split at h
     . rename_i hk;subst hk;exact arith_ok h hv (asInt_ e1 hx) (asInt_ e2 hy)
     . cases h
   . split at h
     . rename_i m n e1 e2;split at h
       . rename_i e3;obtain⟨i,_,hi,hb⟩:=tiOf_ hty e3;exact boolOp_ok (tyB_bool hb hi) h (asBool_ e1 hx) (asBool_ e2 hy)
       . cases h
     . cases h
theorem pickAV_ok {a b c av:AV} {x y z:Operand} (h:pickAV c a b=some av) (hz:AVR w ρ base ro c (r z)) (hx:AVR w ρ base ro a (r x)) (hy:AVR w ρ base ro b (r y)) :
 ∃ v,(execOp r ⟨d,.pick z x y,ty,pos,aft,gd⟩).run P w = .ok (.value v) w/\AVR w ρ base ro av v:=by
 unfold pickAV at h;split at h
 . rename_i b';cases h;refine⟨_,ok_pick hz.blit_ rfl,?_⟩;cases b'
   . exact hy
   . exact hx
 . rename_i c';split at h
   . rename_i p q e1 e2;cases h;refine⟨_,ok_pick hz.bool_ rfl,?_⟩;rw [asBool_ e1 hx,asBool_ e2 hy];rw [show (if c' ()=true then Value.bool (p ()) else Value.bool (q ()))=Value.bool ((fun _:Unit=>cond (c' ()) (p ()) (q ())) ()) by cases h:c' ()<;>simp];exact .bool _
   . split at h
     . rename_i k p k' q e1 e2;split at h
       . rename_i hk;subst hk;cases h;refine⟨_,ok_pick hz.bool_ rfl,?_⟩;rw [asInt_ e1 hx,asInt_ e2 hy];rw [show (if c' ()=true then Value.int k (p ()) else Value.int k (q ()))=Value.int k ((fun _:Unit=>cond (c' ()) (p ()) (q ())) ()) by cases h:c' ()<;>simp];exact .int _ _
       . cases h
     . cases h
 . cases h
end
section
variable {P:Program} {r:Operand->Value} {d:Option Nat} {ty:TypeId} {pos:String} {aft:Array Edge} {gd:Option (Nat×Bool)} {u v:Value} {w:World}
variable {ρ:Nat->Option Rl} {base:Nat} {ro:Nat->Prop}
theorem tyB_info {T:Nat} {i:TInf} (h:tyB P T i=true):∃ j,P.info? T=some j/\j.size=i.sz/\(match j.zero with|some z=>zeroB i.z z.cells.toList|none=>i.z.isEmpty)=true:=by
 unfold tyB at h;simp only [Bool.and_eq_true] at h
 cases hj:P.info? T with
 | none=>rw [hj] at h; simp at h
 | some j =>
  rw [hj] at h;simp only [Bool.and_eq_true,beq_iff_eq] at h;exact⟨j,rfl,h.1.1.1,h.1.1.2⟩
theorem tyB_agg {T:Nat} {i:TInf} (h:tyB P T i=true) (ha:i.ti.agg=true):IsRow P T i.sz:=by
 obtain⟨j,hj,hs,_⟩:=tyB_info h;obtain⟨ds,hd,hm⟩:=tyB_desc h;refine⟨ds,hd,?_,by rw [hj]; simp [hs]⟩;generalize i.ti=ti at hm ha;cases ti<;>first|exact absurd ha Bool.false_ne_true|exact absurd ha.symm Bool.false_ne_true|(cases ds<;>first|rfl|simp [descB] at hm)
theorem tyB_cell {T:Nat} {i:TInf} (h:tyB P T i=true) (ha:i.ti.agg=false):cellT P T=true:=by
 obtain⟨ds,hd,hm⟩:=tyB_desc h;unfold cellT;rw [hd];generalize i.ti=ti at hm ha;cases ti<;>first|exact absurd ha Bool.false_ne_true|exact absurd ha.symm Bool.false_ne_true|(cases ds<;>first|rfl|simp [descB] at hm)
theorem Each.drop {l:List AV} {vs:List Value} (h:Each w ρ base ro l vs) (n:Nat):Each w ρ base ro (l.drop n) (vs.drop n) :=
 ⟨by simp [h.1],fun j x v hx hv=>h.2 (n+j) x v (by simpa using hx) (by simpa using hv)⟩
theorem Each.take {l:List AV} {vs:List Value} (h:Each w ρ base ro l vs) (n:Nat):Each w ρ base ro (l.take n) (vs.take n):=by
 refine⟨by simp [h.1],fun j x v hx hv => ?_⟩;rw [List.getElem?_take] at hx hv;split at hx
 . rename_i hj;rw [if_pos hj] at hv;exact h.2 j x v hx hv
 . cases hx
theorem Each.append {l m:List AV} {vs us:List Value} (h:Each w ρ base ro l vs) (h2:Each w ρ base ro m us):Each w ρ base ro (l++m) (vs++us):=by
 refine⟨by simp [h.1,h2.1],fun j x v hx hv => ?_⟩;rcases Nat.lt_or_ge j l.length with hj|hj
 . rw [List.getElem?_append_left hj] at hx;rw [List.getElem?_append_left (by rw [<- h.1]; exact hj)] at hv;exact h.2 j x v hx hv
 . rw [List.getElem?_append_right hj] at hx;rw [List.getElem?_append_right (by rw [<- h.1]; exact hj),<- h.1] at hv;exact h2.2 _ x v hx hv
theorem Each.set {l:List AV} {vs:List Value} {x:AV} {v:Value} (h:Each w ρ base ro l vs) (hv:AVR w ρ base ro x v) (n:Nat):Each w ρ base ro (l.set n x) (vs.set n v):=by
 refine⟨by simp [h.1],fun j y u hy hu => ?_⟩;rw [List.getElem?_set] at hy hu;split at hy
 . rename_i hj;rw [if_pos hj] at hu;split at hy
   . split at hu
     . cases hy; cases hu; exact hv
     . cases hu
   . cases hy
 . rename_i hj;rw [if_neg hj] at hu;exact h.2 j y u hy hu
theorem cut_ok {T b o off:Nat} {i:TInf} {cells:List AV} {cs:List Value} {av:AV} (ht:tyB P T i=true) (hc:∀ (j:Nat) u,cs[j]? = some u->w.cell? ⟨b,o+j,none⟩=some u) (hE:Each w ρ base ro cells cs) (h:cut i.ti.agg off i.sz cells=some av) :
 ∃ v,(loadVar T ⟨b,o+off,none⟩).run P w = .ok v w/\AVR w ρ base ro av v:=by
 unfold cut at h
 cases ha:i.ti.agg with
 | true =>
  rw [ha,if_pos rfl] at h;split at h
  . rename_i hlen;cases h;have hd:=(hE.drop off).take i.sz;refine⟨_,run_load_cells (tyB_agg ht ha) (cs:=(cs.drop off).take i.sz) (by rw [List.length_take,List.length_drop,<- hE.1]; omega) (fun j u hu => ?_),.agg _ _ hd.1 hd.2⟩;rw [List.getElem?_take] at hu;split at hu
    . rw [List.getElem?_drop] at hu;rw [add_none,Nat.add_assoc];exact hc _ _ hu
    . cases hu
  . cases h
 | false =>
  rw [ha] at h;simp only [Bool.false_eq_true,if_false] at h;obtain⟨v,hv,hr⟩:=hE.get h;exact⟨v,run_load_one (tyB_cell ht ha) (hc _ _ hv),hr⟩
theorem heap_cells {b T:Nat} {cs:List Value} (h:w.heap[b]? = some (.cells cs.toArray T (0,0))):∀ (j:Nat) u,cs[j]? = some u->w.cell? ⟨b,0+j,none⟩=some u:=by
 intro j u hu;rw [Nat.zero_add,cell_of_row w b j _ _ _ h];simpa using hu
theorem tc_size (t:Tc):0<t.size:=by cases t<;>decide
theorem row_each {fr:Bool} {t:Tc} {x:Unit->t.el} {cs:List Value} (hl:cs.length=t.size) (h:∀ (j:Nat) (y:AV) (v:Value),(cellsAV fr t x)[j]? = some y->cs[j]? = some v->AVR w ρ base ro y v):Each w ρ base ro (cellsAV fr t x) cs :=
 ⟨by rw [cellsAV_len,hl],h⟩
theorem load_ok {ge:Nat->Option En} (hge:∀ loc e,ge loc=some e->EnR w ρ base ro loc e) {T:Nat} {i:TInf} {a av:AV} (ht:tyB P T i=true) (h:loadAV ge i.ti.agg i.sz a=some av) (ha:AVR w ρ base ro a u) :
 ∃ ad v,u = .pointer (some ad)/\(loadVar T ad).run P w = .ok v w/\AVR w ρ base ro av v:=by
 unfold loadAV at h;split at h
 . obtain⟨b,o,cs,_,_,hc,hE,rfl⟩:=ha.pto_;obtain⟨v,h1,h2⟩:=cut_ok ht hc hE h;exact⟨_,v,rfl,h1,h2⟩
 . rename_i loc off;split at h
   . rename_i T' cells he;obtain⟨b,cs,hb,hh,hE⟩:=hge _ _ he;obtain⟨b',hb',rfl⟩:=ha.ptr_;rw [hb] at hb';injection hb' with hb';injection hb' with hb';subst hb';obtain⟨v,h1,h2⟩:=cut_ok ht (heap_cells hh) hE h;rw [Nat.zero_add] at h1;exact⟨_,v,rfl,h1,h2⟩
   . cases h
 . rename_i t loc k off;split at h
   . rename_i fr t' T' l he;split at h
     . rename_i htt;subst htt;obtain⟨A,c,css,hA,hown,hlen,hcell⟩:=hge _ _ he;obtain⟨A',n,c',b,hA',rfl,h0,hn,rfl⟩:=ha.orp_;rw [hA] at hA';injection hA' with hA';injection hA' with e1 e2 e3;subst e1; subst e2; subst e3;have hk:(k ()).toNat<css.length:=by omega
       obtain⟨b',o',e,hlt,hl,hcs⟩:=hown.rd _ _ (List.getElem?_eq_getElem hk);simp only [Option.some.injEq,Addr.mk.injEq,and_true] at e;obtain⟨rfl,rfl⟩:=e;have hE:Each w ρ base ro (cellsAV fr t fun _=>(l ()).getD (k ()).toNat t.dflt) css[(k ()).toNat]:=row_each hl fun j y v h1 h2=>hcell _ _ j y v (List.getElem?_eq_getElem hk) h1 h2;obtain⟨v,h1,h2⟩:=cut_ok ht (b:=b) (o:=(k ()).toNat*t.size) (fun j u hu=>by have:=hcs j u hu; rwa [Nat.zero_add] at this) hE h;exact⟨_,v,rfl,h1,h2⟩
     . cases h
   . cases h
 . cases h
theorem addOff_ok {a av:AV} {k:Nat} (h:addOff a k=some av) (ha:AVR w ρ base ro a u):∃ b o,u = .pointer (some ⟨b,o,none⟩)/\AVR w ρ base ro av (.pointer (some ⟨b,o+k,none⟩)):=by
 unfold addOff at h;split at h<;>cases h
 . cases ha with
   | pto _ _ b o cs hro hlt hl hc h=>exact⟨b,_,rfl,by rw [Nat.add_assoc]; exact .pto _ _ b o cs hro hlt hl hc h⟩
 . cases ha with
   | ptr _ _ b h=>exact⟨b,_,rfl,.ptr _ _ b h⟩
 . cases ha with
   | orp _ _ _ _ A n c b h hA h0 hn=>exact⟨b,_,rfl,by rw [Nat.add_assoc]; exact .orp _ _ _ _ A n c b h hA h0 hn⟩
theorem fsB_get:∀ {fs:List Field} {l:List (Nat×Nat×Bool)},fsB P fs l=true->∀ {k o s:Nat} {a:Bool},l[k]? = some (o,s,a)->∃ f,fs[k]? = some f/\f.offset=o/\(∃ i,P.info? f.type=some i/\i.size=s)/\aggB P f.type=a/\∃ ds,P.underlying f.type=some ds
 | f::fs,(o',s',a')::l,h,0,o,s,a,hk=>by
  simp only [List.getElem?_cons_zero,Option.some.injEq,Prod.mk.injEq] at hk;obtain⟨rfl,rfl,rfl⟩:=hk;unfold fsB at h;simp only [Bool.and_eq_true,beq_iff_eq] at h;refine⟨f,rfl,h.1.1.1,?_,h.1.2.1,Option.isSome_iff_exists.1 h.1.2.2⟩
  cases hi:P.info? f.type with
  | none=>rw [hi] at h; simp at h
  | some i=>rw [hi] at h; exact⟨i,rfl,by simpa using h.1.1.2⟩
 | f::fs,(o',s',a')::l,h,k+1,o,s,a,hk=>by
  unfold fsB at h;simp only [Bool.and_eq_true] at h;obtain⟨g,h1,h2⟩:=fsB_get h.2 (k:=k) (by simpa using hk);exact⟨g,by simpa using h1,h2⟩
 | [],[],_,k,o,s,a,hk=>by simp at hk
 | [],_::_,h,_,_,_,_,_=>by cases h
 | _::_,[],h,_,_,_,_,_=>by cases h
theorem fieldAt_ok {T f o s:Nat} {a:Bool} {i:TInf} (ht:tyB P T i=true) (h:fieldAt i f=some (o,s,a)):∃ fs fd,P.underlying T=some (.struct fs)/\fs[f]? = some fd/\fd.offset=o/\(∃ j,P.info? fd.type=some j/\j.size=s)/\aggB P fd.type=a/\∃ ds,P.underlying fd.type=some ds:=by
 unfold fieldAt at h;split at h
 . rename_i l hl;obtain⟨ds,hd,hm⟩:=tyB_desc ht;rw [hl] at hm;cases ds<;>first|(simp [descB] at hm; done)|skip
   rename_i fs;obtain⟨fd,h1,h2,h3,h4⟩:=fsB_get hm h;exact⟨fs,fd,hd,by simpa using h1,h2,h3,h4⟩
 . cases h
theorem fieldOff_of {T f o s:Nat} {a:Bool} {i:TInf} (ht:tyB P T i=true) (h:fieldAt i f=some (o,s,a)) (hs:(s==0)=false):fieldOff P T f=some o:=by
 obtain⟨fs,fd,h1,h2,rfl,⟨j,h3,rfl⟩,_⟩:=fieldAt_ok ht h;have hs':¬ j.size=0:=by simpa using hs
 unfold fieldOff;simp only [h1,h2,h3,if_neg hs']
theorem part_ok {T o s:Nat} {vs:List Value} (ha:∃ j,P.info? T=some j/\j.size=s) (hd:∃ ds,P.underlying T=some ds) (hlen:aggB P T=true->o+s<=vs.length) {v:Value} (hv:aggB P T=false->vs[o]? = some v) (hv2:aggB P T=true->v = .agg ((vs.drop o).take s).toArray):(part T vs.toArray o).run P w = .ok v w:=by
 obtain⟨j,hj,rfl⟩:=ha;obtain⟨ds,hd⟩:=hd;unfold part;have h1:(isAgg T).run P w = .ok (aggB P T) w:=by
  unfold isAgg aggB;simp only [underlying,Sem.run_bind,Sem.run_pure,Result.andThen_ok,run_program,hd];cases ds<;>rfl
 simp only [Sem.run_bind,h1,Result.andThen_ok]
 cases hb:aggB P T with
 | true =>
  have:=hlen hb;rw [hv2 hb];simp only [if_true,sizeOf,typeInfo,Sem.run_bind,Sem.run_pure,Result.andThen_ok,run_program,hj];congr 2;apply Array.ext';simp [List.extract_eq_take_drop,Nat.add_sub_cancel_left]
 | false =>
  simp only [Bool.false_eq_true,if_false,List.getElem?_toArray,hv hb,Sem.run_pure]
theorem field_ok {T f:Nat} {x:Operand} {i:TInf} {o s:Nat} {a:Bool} {cells:List AV} {av:AV} (ht:tyB P T i=true) (hf:fieldAt i f=some (o,s,a)) (hc:cut a o s cells=some av) (hx:AVR w ρ base ro (.agg cells) (r x)) :
 ∃ v,(execOp r ⟨d,.field T x f,ty,pos,aft,gd⟩).run P w = .ok (.value v) w/\AVR w ρ base ro av v:=by
 obtain⟨fs,fd,h1,h2,rfl,h3,h4,hT⟩:=fieldAt_ok ht hf;obtain⟨vs,hvs,hE⟩:=hx.agg_;have hrun:∀ v,(part fd.type vs.toArray fd.offset).run P w = .ok v w->(execOp r ⟨d,.field T x f,ty,pos,aft,gd⟩).run P w = .ok (.value v) w:=by
  intro v hv;unfold execOp;simp only [hvs,Instr.field,underlying,asAgg,Sem.run_bind,Sem.run_pure,Result.andThen_ok,run_program,h1,h2,hv]
 unfold cut at hc
 cases hb:a with
 | true =>
  rw [hb,if_pos rfl] at hc;split at hc
  . rename_i hlen;cases hc;have hd:=(hE.drop fd.offset).take s;exact⟨_,hrun _ (part_ok h3 hT (fun _=>by rw [<- hE.1]; exact hlen) (fun h=>by rw [h4,hb] at h; cases h) (fun _=>rfl)),.agg _ _ hd.1 hd.2⟩
  . cases hc
 | false =>
  rw [hb] at hc;simp only [Bool.false_eq_true,if_false] at hc;obtain⟨v,hv,hr⟩:=hE.get hc;exact⟨v,hrun _ (part_ok h3 hT (fun h=>by rw [h4,hb] at h; cases h) (fun _=>hv) (fun h=>by rw [h4,hb] at h; cases h)),hr⟩
end
section
variable {P:Program} {r:Operand->Value} {d:Option Nat} {ty:TypeId} {pos:String} {aft:Array Edge} {gd:Option (Nat×Bool)} {u v:Value} {w:World}
variable {ρ:Nat->Option Rl} {base:Nat} {ro ra:Nat->Prop}
theorem zeroB1_ok {x:AV} {v:Value} (h:zeroB1 x v=true):AVR w ρ base ro x v:=by
 unfold zeroB1 at h;split at h
 . simp only [Bool.and_eq_true,decide_eq_true_eq,beq_iff_eq] at h;obtain⟨rfl,rfl⟩:=h;exact .lit _ _
 . rw [eq_of_beq h];exact .blit _
 . rename_i s s';have h1:s ()=s':=by
    have h2:=eq_of_beq h
    cases hs:s () with
    | mk a =>
     rw [hs] at h2;cases s';simp only at h2;rw [h2]
   rw [<- h1];exact .str _
 . exact .nil
 . simp only [Bool.and_eq_true,decide_eq_true_eq,beq_iff_eq] at h;obtain⟨rfl,rfl⟩:=h;exact .int _ _
 . rw [<- eq_of_beq h];exact .bool _
 . rename_i fr t l;have e:Value.slice none 0 0=Value.slice none (l ()).length 0:=by rw [List.isEmpty_iff.1 h]; rfl
   rw [e];exact .sl _ _ _ none 0 [] (by rw [List.isEmpty_iff.1 h]; rfl) (Nat.le_refl _) (Rd.nil _ _ _ _) (fun _ h=>by cases h) (fun _ _ h=>by cases h) (fun k cs j x v h=>by simp at h)
 . exact .un _
 . cases h
theorem zeroB_ok:∀ {l:List AV} {vs:List Value},zeroB l vs=true->Each w ρ base ro l vs
 | [],[],_ => .nil
 | x::l,v::vs,h=>by
  simp only [zeroB,Bool.and_eq_true] at h;exact .cons (zeroB1_ok h.1) (zeroB_ok h.2)
 | [],_::_,h=>by cases h
 | _::_,[],h=>by cases h
theorem foldl_fill (off:Nat):∀ (l pre z post:List Value) (k:Nat),z.length=l.length->pre.length=off+k->(l.zipIdx k).foldl (fun (cs:Array Value) (p:Value×Nat)=>cs.setIfInBounds (off+p.2) p.1) (pre++z++post).toArray=(pre++l++post).toArray
 | [],pre,z,post,k,h,_=>by
  have:z = []:=List.eq_nil_of_length_eq_zero (by simpa using h);subst this;rfl
 | x::l,pre,[],post,k,h,_=>by simp at h
 | x::l,pre,y::z,post,k,h,hp=>by
  have h1:=foldl_fill off l (pre ++ [x]) z post (k+1) (by simpa using h) (by simp; omega);simp only [List.zipIdx_cons,List.foldl_cons];have e:(pre++y::z++post).toArray.setIfInBounds (off+k) x=(pre ++ [x]++z++post).toArray:=by
   apply Array.ext';rw [<- hp];simp
  rw [e];rw [h1];simp
theorem cells_one {x:AV} {v:Value} (h:AVR w ρ base ro x v) (h1:∀ l,x ≠ .agg l) (h2:x ≠ .un):v.cells = #[v]:=by
 cases h<;>first|rfl|exact absurd rfl h2|exact absurd rfl (h1 _)
theorem fill_put {place:Nat->Option (Nat×Nat)} {cs vs:List Value} {i off:Nat} {v:Value} {rest:List (Nat×Value)} (hp:place i=some (off,vs.length)) (hv:v.cells=vs.toArray) (hl:off+vs.length<=cs.length) :
 Instr.fill place cs.toArray ((i,v)::rest)=Instr.fill place (cs.take off++vs++cs.drop (off+vs.length)).toArray rest:=by
 rw [Instr.fill];simp only [hp,hv,List.size_toArray,ne_eq,not_true_eq_false,decide_false,Bool.false_or,gt_iff_lt,decide_eq_true_eq];rw [if_neg (by omega)];have h1:=foldl_fill off vs (cs.take off) ((cs.drop off).take vs.length) (cs.drop (off+vs.length)) 0 (by simp; omega) (by simp; omega);have e:cs.take off++(cs.drop off).take vs.length++cs.drop (off+vs.length)=cs:=by
  rw [List.append_assoc,<- List.drop_drop,List.take_append_drop,List.take_append_drop]
 rw [e] at h1;rw [<- h1,<- Array.foldl_toList];simp only [Array.toList_zipIdx]
theorem set_cut (x:Value) (l:List Value) (n:Nat) (h:n<l.length):l.set n x=l.take n ++ [x]++l.drop (n+1):=by
 rw [List.set_eq_take_append_cons_drop,if_pos h];simp
theorem fillAV_ok {place:Nat->Option (Nat×Nat)}:∀ {ps:List (Nat×AV)} {qs:List (Nat×Value)} {cells:List AV} {cs:List Value} {out:List AV},Each w ρ base ro cells cs->ps.map (·.1)=qs.map (·.1)->Each w ρ base ro (ps.map (·.2)) (qs.map (·.2))->fillAV place cells ps=some out ->
 ∃ cs':List Value,Instr.fill place cs.toArray qs=some cs'.toArray/\Each w ρ base ro out cs'
 | [],[],cells,cs,out,hE,_,_,h=>by
  simp only [fillAV,Option.some.injEq] at h;subst h;exact⟨cs,rfl,hE⟩
 | (i,x)::ps,(i',v)::qs,cells,cs,out,hE,hi,hp,h=>by
  simp only [List.map_cons,List.cons.injEq] at hi;obtain⟨rfl,hi⟩:=hi;obtain⟨v',us,e,hx,hp'⟩:=hp.head;simp only [List.map_cons,List.cons.injEq] at e;obtain⟨rfl,rfl⟩:=e;unfold fillAV at h;split at h
  . cases h
  . rename_i off size hpl;split at h
    . rename_i l;split at h
      . rename_i hs;simp only [Bool.and_eq_true,beq_iff_eq,decide_eq_true_eq] at hs;obtain⟨hs1,hs2⟩:=hs;obtain⟨vs,rfl,hl⟩:=hx.agg_;subst hs1;obtain⟨cs',h1,h2⟩:=fillAV_ok (((hE.take off).append hl).append (hE.drop (off+l.length))) hi hp' h;refine⟨cs',?_,h2⟩;rw [hl.1] at h1 hpl hs2;rw [fill_put hpl rfl (by rw [<- hE.1]; exact hs2)];exact h1
      . cases h
    . cases h
    . cases h
    . rename_i hx1 hx2 hx3;split at h
      . rename_i hs;simp only [Bool.and_eq_true,beq_iff_eq,decide_eq_true_eq] at hs;obtain⟨rfl,hs2⟩:=hs;have hc:=cells_one hx (fun l e=>hx1 l e) hx2;obtain⟨cs',h1,h2⟩:=fillAV_ok (hE.set hx off) hi hp' h;refine⟨cs',?_,h2⟩;have hlt:off<cs.length:=by rw [<- hE.1]; omega
        rw [fill_put (vs := [v]) hpl hc (by simp; omega)];rw [set_cut _ _ _ hlt] at h1;exact h1
      . cases h
 | [],_::_,_,_,_,_,hi,_,_=>by simp at hi
 | _::_,[],_,_,_,_,hi,_,_=>by simp at hi
theorem tyB_zero {T:Nat} {i:TInf} (h:tyB P T i=true) (hz:i.z.isEmpty=false):∃ j z,P.info? T=some j/\j.zero=some z/\Each w ρ base ro i.z z.cells.toList:=by
 obtain⟨j,hj,_,h2⟩:=tyB_info h
 cases hjz:j.zero with
 | none=>rw [hjz] at h2; simp only at h2; rw [hz] at h2; cases h2
 | some z=>rw [hjz] at h2; exact⟨j,z,hj,hjz,zeroB_ok h2⟩
theorem each_map {α:Type} {f : α->AV} {h : α->Value} {l:List α} (hl:∀ x∈l,AVR w ρ base ro (f x) (h x)):Each w ρ base ro (l.map f) (l.map h):=by
 refine⟨by simp,fun j x v hx hv => ?_⟩;rw [List.getElem?_map] at hx hv
 cases hj:l[j]? with
 | none=>rw [hj] at hx; cases hx
 | some y =>
  rw [hj] at hx hv;simp only [Option.map_some,Option.some.injEq] at hx hv;subst hx; subst hv;exact hl y (List.mem_of_getElem? hj)
theorem places_get:∀ {fs:List Field} {l:List (Nat×Nat×Bool)},fsB P fs l=true->fs.mapM (fun f=>(P.info? f.type).map fun i=>(f.offset,i.size))=some (l.map fun f=>(f.1,f.2.1))
 | [],[],_=>rfl
 | f::fs,(o,s,a)::l,h=>by
  unfold fsB at h;simp only [Bool.and_eq_true,beq_iff_eq] at h;have h1:=places_get h.2;have h2:=h.1.1.2
  cases hi:P.info? f.type with
  | none=>rw [hi] at h2; simp at h2
  | some i =>
   rw [hi] at h2;simp only [beq_iff_eq] at h2;simp [List.mapM_cons,hi,h1,h.1.1.1,h2]
 | [],_::_,h=>by cases h
 | _::_,[],h=>by cases h
theorem build_ok {g:Operand->AV} {T:Nat} {parts:Array (Nat×Operand)} {i:TInf} {av:AV} {place:Nat->Option (Nat×Nat)} {out:List AV} (ht:tyB P T i=true) (hg:∀ p∈parts.toList,AVR w ρ base ro (g p.2) (r p.2)) (hz:i.z.isEmpty=false) (hpl:(∃ fs,i.ti = .struct fs/\place=fun k=>(fs[k]?).map fun f=>(f.1,f.2.1))\/∃ n e esz a,i.ti = .array n e esz a/\place=fun k=>some (k*esz,esz)) (h:fillAV place i.z (parts.toList.map fun p=>(p.1,g p.2))=some out) (hav:av = .agg out) :
 ∃ v,(execOp r ⟨d,.build T parts,ty,pos,aft,gd⟩).run P w = .ok (.value v) w/\AVR w ρ base ro av v:=by
 subst hav;obtain⟨j,z,hj,hjz,hE⟩:=tyB_zero (w:=w) (ρ := ρ) (base:=base) (ro:=ro) ht hz;obtain⟨cs',h1,h2⟩:=fillAV_ok (qs:=parts.toList.map fun p=>(p.1,r p.2)) hE (by simp) (by simp only [List.map_map]; exact each_map hg) h;have hb:P.built T (parts.map fun (i,x)=>(i,r x)).toList=some cs'.toArray:=by
  obtain⟨ds,hd,hm⟩:=tyB_desc ht;have e:(parts.map fun (i,x)=>(i,r x)).toList=parts.toList.map fun p=>(p.1,r p.2):=by simp
  rw [e];rcases hpl with ⟨fs,hti,rfl⟩|⟨n,e',esz,a,hti,rfl⟩
  . rw [hti] at hm;cases ds<;>first|(simp [descB] at hm; done)|skip
    rename_i fields;have hm':fsB P fields.toList fs=true:=hm;unfold Program.built;simp only [hj,hd,hjz,places_get hm'];rw [<- h1];congr 1;funext k;simp
  . rw [hti] at hm;cases ds<;>first|(simp [descB] at hm; done)|skip
    rename_i n' e'';simp only [descB,Bool.and_eq_true,beq_iff_eq] at hm;obtain⟨⟨⟨_,he⟩,hi⟩,_⟩:=hm
    cases hie:P.info? e'' with
    | none=>rw [hie] at hi; simp at hi
    | some ie =>
     rw [hie] at hi;simp only [beq_iff_eq] at hi;unfold Program.built;simp only [hj,hd,hjz,hie,hi];exact h1
 refine⟨.agg cs'.toArray,?_,.agg _ _ h2.1 h2.2⟩;unfold execOp;simp only [Sem.run_bind,run_build w T _ _ hb,Result.andThen_ok,Sem.run_pure]
theorem elemOf_of {T e sz b:Nat} {i:TInf} (ht:tyB P T i=true) (hi:i.ti = .slice e sz b):elemOf P T=some (e,sz):=by
 obtain⟨ds,hd,hm⟩:=tyB_desc ht;rw [hi] at hm;cases ds<;>first|(simp [descB] at hm; done)|skip
 rename_i e';simp only [descB,Bool.and_eq_true,beq_iff_eq] at hm;obtain⟨⟨he,_⟩,h3⟩:=hm;unfold elemOf;rw [hd];subst he
 cases hj:P.info? e' with
 | none=>rw [hj] at h3; simp at h3
 | some j =>
  rw [hj] at h3;simp only [Bool.and_eq_true,beq_iff_eq] at h3;simp [hj,h3.1.1]
theorem index_ok {T e sz b:Nat} {i:TInf} {x y:Operand} {fr:Bool} {t:Tc} {l:Unit->List t.el} {kk:IntKind} {k:Unit->Int} (ht:tyB P T i=true) (hi:i.ti = .slice e sz b) (hs:t.size=sz) (hx:AVR w ρ base ro (.sl fr t l) (r x)) (hy:r y = .int kk (k ())) (hk:0<=k ()/\k ()<((l ()).length:Int)) :
 ∃ v,(∀ w',(execOp r ⟨d,.indexAddr T x y,ty,pos,aft,gd⟩).run P w' = .ok (.value v) w')/\AVR w ρ base ro (.pto (cellsAV fr t fun _=>(l ()).getD (k ()).toNat t.dflt) 0) v:=by
 obtain⟨A,c,css,hl,hc,hr,hro,_,hcell,hv⟩:=hx.sl_;have hkk:(k ()).toNat<css.length:=by omega
 obtain⟨b',o,hA,hlt,hlen,hcs⟩:=hr _ _ (List.getElem?_eq_getElem hkk);have hne:css ≠ []:=by intro h; rw [h] at hkk; simp at hkk
 have hE:=row_each hlen fun j y v h1 h2=>hcell _ _ j y v (List.getElem?_eq_getElem hkk) h1 h2;subst hs;rw [hA] at hv;have e:(((k ()).toNat:Nat):Int)=k ():=by omega
 refine⟨_,fun w'=>ok_index hv (by rw [hy,e]) (elemOf_of ht hi) (by rw [e]; exact hk.2) rfl,?_⟩;exact .pto _ 0 b' (o+(k ()).toNat*t.size) _ (hro _ hA hne) hlt hE.1 hcs hE.2
theorem indexO_ok {ge:Nat->Option En} (hge:∀ loc e,ge loc=some e->EnR w ρ base ro loc e) {T e sz b loc T':Nat} {i:TInf} {x y:Operand} {fr:Bool} {t:Tc} {l:Unit->List t.el} {kk:IntKind} {k:Unit->Int} (ht:tyB P T i=true) (hi:i.ti = .slice e sz b) (hs:t.size=sz) (he:ge loc=some (.row fr t T' l)) (hx:AVR w ρ base ro (.own loc) (r x)) (hy:r y = .int kk (k ())) (hk:0<=k ()/\k ()<((l ()).length:Int)) :
 ∃ v,(∀ w',(execOp r ⟨d,.indexAddr T x y,ty,pos,aft,gd⟩).run P w' = .ok (.value v) w')/\AVR w ρ base ro (.orp t loc k 0) v:=by
 obtain⟨A,c,css,hA,hown,hlen,hcell⟩:=hge _ _ he;obtain⟨A',n,c',hA',hv⟩:=hx.own_;rw [hA] at hA';injection hA' with hA';injection hA' with e1 e2 e3;subst e1; subst e2; subst e3;have hkk:(k ()).toNat<css.length:=by omega
 rcases hown.block with ⟨_,_,h0⟩|⟨g,cur,rfl,_,_,_⟩
 . rw [h0] at hkk; simp at hkk
 . subst hs;have e:(((k ()).toNat:Nat):Int)=k ():=by omega
   refine⟨_,fun w'=>ok_index hv (by rw [hy,e]) (elemOf_of ht hi) (by rw [e]; exact hk.2) rfl,?_⟩;rw [Nat.zero_add];exact .orp t loc k 0 _ _ _ g hA rfl hk.1 hk.2
/- cells of what is not called new -/
def AV.loose:AV->AV
 | .sl _ t l => .sl false t l
 | .wide _ t l n => .wide false t l n
 | x=>x
theorem cellsAV_loose (fr:Bool) (t:Tc) (x:Unit->t.el):cellsAV false t x=(cellsAV fr t x).map AV.loose:=by cases t<;>rfl
theorem AVR.loose_ {x:AV} {v:Value} (h:AVR w ρ base ro x v):AVR w ρ base ro x.loose v:=by
 induction h with
 | sl fr t l A c css hl hc hr hro hfr h ih =>
  refine .sl false t l A c css hl hc hr hro (fun h=>by cases h) fun k cs j x v h1 h2 h3 => ?_;rw [cellsAV_loose fr,List.getElem?_map] at h2
  cases hj:(cellsAV fr t fun _=>(l ()).getD k t.dflt)[j]? with
  | none=>rw [hj] at h2; cases h2
  | some y =>
   rw [hj] at h2;simp only [Option.map_some,Option.some.injEq] at h2;subst h2;exact ih k cs j y v h1 hj h3
 | un=>exact .un _
 | int=>exact .int _ _
 | lit=>exact .lit _ _
 | bool=>exact .bool _
 | blit=>exact .blit _
 | str=>exact .str _
 | nil=>exact .nil
 | wide fr t l n A c hn h ih=>exact .wide false t l n A c hn ih
 | pto cells off b o cs hro hlt hl hc h _=>exact .pto cells off b o cs hro hlt hl hc h
 | ptr loc off b h=>exact .ptr _ _ _ h
 | own loc A n c h=>exact .own _ _ _ _ h
 | orp t loc k off A n c b h hA h0 hn=>exact .orp _ _ _ _ _ _ _ _ h hA h0 hn
 | mp l b h=>exact .mp _ _ h
 | stamp l s h=>exact .stamp _ _ h
 | it l l2 b h=>exact .it _ _ _ h
 | agg l vs hl h _=>exact .agg _ _ hl h
 | tup l vs hl h _=>exact .tup _ _ hl h
 | fn f caps vs hl h _=>exact .fn _ _ _ hl h
end
end Go.Proofs.YthfpdbjemfhieaaGreat
