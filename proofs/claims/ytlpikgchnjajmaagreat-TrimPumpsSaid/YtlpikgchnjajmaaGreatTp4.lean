/-
  The abstract run: types, entries, contracts of calls, what operations give that neither store nor make a place of the run's own.
-/
import Derived.Test.YtlpikgchnjajmaaGreatTp3
set_option linter.all false
namespace Go.Proofs.YtlpikgchnjajmaaGreat
open Go.RowKit
variable{op:BinOp}{a g:Bool}{k kk:IntKind}{cs us vs:List Value}{T b' e f i l2 loc o off sz:Nat}{place:Nat->Option (Nat×Nat)}{x y z:Operand}{t:Tc}{t':TypeId}{b:Unit->Bool}{n:Unit->Int}
def ak{α:Type}:List (Nat × α)->Nat->Option α
 | [],_=>none
 | (k,v)::l,d=>if k==d then some v else ak l d
inductive TI where
 | int (k:IntKind)|WR|bool|str|other
 | slice (e dP axg:Nat)
 | struct (fs:List (Nat×Nat×Bool))
 | array (n e dP:Nat) (agg:Bool)
 | map (k e:Nat) (c:Kc) (t:Tc) (agg:Bool)
structure eS where
 sz:Nat
 ti:TI
 z:List AV
 eq:List Lk := []
def TI.agg:TI->Bool
 | .struct _=>true
 | .array _ _ _ _=>true
 | _=>false
abbrev kd:=List (Nat×eS)
def Ow:AV->Value->Bool
 | .lit k n,.int k' n'=>decide (k=k')&&n==n'
 | .aG b,.bool b'=>b==b'
 | .str s,.string s'=>(s ()).data==s'.data
 | .nil,.slice none 0 0=>true
 | .int k n,.int k' n'=>decide (k=k')&&n ()==n'
 | .bool b,.bool b'=>b ()==b'
 | .sl _ _ l,.slice none 0 0=>(l ()).isEmpty
 | .un,_=>true
 | _,_=>false
def BU:List AV->List Value->Bool
 | [],[]=>true
 | x::l,v::vs=>Ow x v&&BU l vs
 | _,_=>false
def xR(P:Program):List Field->List (Nat×Nat×Bool)->Bool
 | [],[]=>true
 | f::fs,(o,s,a)::l=>f.offset==o&&(match P.info? f.type with|some i=>i.size==s|none=>false)&&(gF P f.type==a&&(P.underlying f.type).isSome)&&xR P fs l
 | _,_=>false
def Ox(ag:Bool):Value->Bool
 | .agg _=>ag
 | .tuple _=>false
 | _ => !ag
def jH(P:Program):TypeDesc->TI->Bool
 | .int k,.int k'=>decide (k=k')
 | .int k,.WR=>decide (k = .i64)
 | .bool,.bool=>true
 | .string,.str=>true
 | .slice e,.slice e' sz b=>e==e'&&(decide (0<sz)&&decide (0<b))&&(match P.info? e with|some j=>j.size==sz&&j.bytes==b&&(match j.zero with|some z=>z.cells.size==sz|none=>false)|none=>false)
 | .struct fs,.struct l=>xR P fs.toList l
 | .array n e,.array n' e' sz a=>n==n'&&e==e'&&(match P.info? e with|some j=>j.size==sz|none=>false)&&(gF P e==a&&(P.underlying e).isSome)
 | .map k e,.map k' e' c t a=>k==k'&&e==e'&&(uu P k c&&gF P e==a)&&(a||t.size==1)&&(match P.info? e with|some j=>(match j.zero with|some z=>BU (aO true t fun _=>t.aa) z.cells.toList&&Ox a z|none=>false)|none=>false)
 | .struct _,_=>false
 | .array _ _,_=>false
 | _,.other=>true
 | _,_=>false
def WS(P:Program)(T:TypeId)(ls:List Lk):Bool:=ls.isEmpty||gF P T&&Eh P 20 T ls && !P.eqGuardType P.depth T
def fT(P:Program)(T:TypeId)(i:eS):Bool :=
 ((match P.info? T with
 | some j=>j.size==i.sz&&match j.zero with|some z=>BU i.z z.cells.toList|none=>i.z.isEmpty
 | none=>false) &&
 match P.underlying T with
 | some ds=>jH P ds i.ti
 | none=>false)&&WS P T i.eq
def cS(P:Program)(ty:kd):Prop:=∀ T i,ak ty T=some i->fT P T i=true
inductive En where
 | box (T:TypeId) (cells:List AV)
 | row (fr:Bool) (t:Tc) (T:TypeId) (l:Unit->List t.el)
 | map (fr ag:Bool) (c:Kc) (t:Tc) (T:TypeId) (m:Unit->List Kx->Option t.el)
 | iter (ml:Nat) (c:Kc) (seen:Unit->List (List Kx)) (left:Unit->Nat)
 | bq (ml:Nat) (c:Kc) (key:Unit->List Kx)
 | fh (k:Unit->Nat)
 | dead
def lU(w:World)(ρ:Nat->Option Rl)(base:Nat)(ro:Nat->Prop)(fr ag:Bool)(c:Kc)(t:Tc)(m:List Kx->Option t.el)(es:Array MapEntry):Prop :=
 (∀ e∈es.toList,∃ key x,gE c e.key key/\m key=some x/\ah w ρ base ro (eD ag fr t fun _=>x) e.val)/\∀ key x,dG c.ls key=true->m key=some x->∃ e∈es.toList,gE c e.key key
def rb(fr:Bool)(base:Nat):Nat:=cond fr base 0
theorem IN(fr)(base):rb fr base<=base:=by cases fr<;>simp [rb]
theorem ai3(f g)(base):rb (f&&g) base<=rb f base:=by cases f<;>cases g<;>simp [rb]
theorem ai4{f:Bool}(base)(h:g=true->f=true):rb g base<=rb f base:=by cases f<;>cases g<;>simp_all [rb]
theorem ai5{b:Nat}(fr)(h:b'<=b):rb fr b'<=rb fr b:=by cases fr<;>simp [rb,h]
def c7(w:World)(ρ:Nat->Option Rl)(base:Nat)(ro:Nat->Prop)(loc:Nat):En->Prop
 | .box T cells=>∃ b,∃ cs:List Value,ρ loc=some (.box b)/\w.heap[b]? = some (.cells cs.toArray T (0,0))/\aQ w ρ base ro cells cs
 | .row fr t T l=>∃ A c,∃ css:List (List Value),ρ loc=some (.row A (l ()).length c)/\cy w (rb fr base) T t.size A c css/\css.length=(l ()).length /\
  ∀ (k:Nat) (cs:List Value) (j:Nat) (x:AV) (v:Value),css[k]? = some cs->(aO fr t fun _=>(l ()).getD k t.aa)[j]? = some x->cs[j]? = some v->ah w ρ base ro x v
 | .map fr ag c t _ m=>∃ b es clock,ρ loc=some (.mp b)/\w.heap[b]? = some (.map es clock)/\MapKept.Stamped es clock/\lU w ρ base ro fr ag c t (m ()) es
 | .iter ml c seen left=>∃ b b2 es clock since stamps c0,ρ loc=some (.it b2) /\ ρ ml=some (.mp b)/\w.heap[b]? = some (.map es clock)/\w.heap[b2]? = some (.mapIter (some b) since stamps c0)/\(∀ e∈es.toList,e.born<since)/\(since<=c0/\c0<=clock)/\left ()=(Go.leftOf es stamps).size/\(∀ e∈es.toList,stamps.contains e.born=true↔∃ key∈seen (),gE c e.key key)/\∀ key r,seen ()=key::r->c0=clock/\∃ e∈es.toList,stamps.back? = some e.born/\gE c e.key key
 | .bq ml c key=>∃ b es clock s e,ρ loc=some (.bq s) /\ ρ ml=some (.mp b)/\w.heap[b]? = some (.map es clock)/\e∈es.toList/\gE c e.key (key ())/\e.born=s
 | .fh k => ρ loc=some (.bq (k ()))
 | .dead=>∃ r,ρ loc=some r
abbrev VC:=Unit->Prop
inductive Sg where
 | int (k:IntKind)|bool|str|sl (t:Tc)|any
 | wide (t:Tc)
 | agg (l:List Sg)
 | bg (l:List Sg)
 | fn (l:List Sg)
 | zH (t:Tc)
 | El (t:Tc)
 | ai6 (c:Kc) (t:Tc)
 | Oy (l:List Sg)
def Oz(t t':Tc)(l:Unit->List t.el)(n:Unit->Nat):Option AV:=match Ef t t' with
 | some f=>some (.sl false t' fun _=>((l ()).take (n ())).map f)
 | none=>none
mutual
def coerce(ge:Nat->Option En):Sg->AV->Option AV
 | .int k,.int k' n=>if k=k' then some (.int k n) else none
 | .int k,.lit k' n=>if k=k' then some (.int k fun _=>n) else none
 | .bool,.bool b=>some (.bool b)
 | .bool,.aG b=>some (.bool fun _=>b)
 | .str,.str s=>some (.str s)
 | .sl t,.sl _ t' l=>if t=t' then some (.sl false t' l) else none
 | .sl t,.nil=>some (.sl false t fun _ => [])
 | .sl t,.wide _ t' l n=>if t=t' then some (.sl false t' fun _=>(l ()).take (n ())) else Oz t' t l n
 | .wide t,.wide _ t' l n=>if t=t' then some (.wide false t' l n) else none
 | .sl t,.own loc=>match ge loc with
  | some (.row _ t' _ l)=>if t=t' then some (.sl false t' l) else none
  | _=>none
 | .sl t,.cE t2 loc a b=>match ge loc with
  | some (.row _ t' _ l)=>if t=t'/\t2=t' then some (.sl false t' fun _=>((l ()).take (b ())).drop (a ())) else none
  | _=>none
 | .agg l,.agg cs=>(pF ge l cs).map .agg
 | .bg l,.bg cs 0=>(pF ge l cs).map fun cs' => .bg cs' 0
 | .bg l,.ptr loc 0=>match ge loc with
  | some (.box _ cs)=>(pF ge l cs).map fun cs' => .bg cs' 0
  | _=>none
 | .fn l,.fn f cs=>(pF ge l cs).map fun cs' => .fn f cs'
 | .any,_=>some .un
 | _,_=>none
def pF(ge:Nat->Option En):List Sg->List AV->Option (List AV)
 | [],[]=>some []
 | s::ss,x::xs=>match coerce ge s x,pF ge ss xs with
  | some y,some ys=>some (y::ys)
  | _,_=>none
 | _,_=>none
end
structure xS where
 pre:Unit->Prop
 av:AV
structure aH where
 f:FuncId
 sig:List Sg
 go:List AV->Option xS
def IP:List aH->FuncId->Option aH
 | [],_=>none
 | c::cs,f=>if c.f==f then some c else IP cs f
def aK(P:Program)(c:aH):Prop :=
 (∀ args w,(callFunc c.f args).run P w = .ok (.enter c.f args) w) /\
 ∀ ai res,c.go ai=some res->∀ (w) (ra) (dt),(∀ b,ra b->b<w.heap.size)->aQ w (fun _=>none) 0 ra ai dt->res.pre () ->
  Calls P c.f dt.toArray w fun e w'=>∃ v,e = .returned v/\cU w w'/\ah w' (fun _=>none) w.heap.size (fun b=>ra b\/w.heap.size<=b) res.av v
structure IQ where
 pre:Unit->Prop
 n:Unit->Nat
 el:(Unit->Nat)->List AV
structure It where
 f:FuncId
 sig:List Sg
 go:List AV->Option IQ
structure Yl where
 l:Unit->Nat
 n:Unit->Nat
 el:(Unit->Nat)->List AV
def IS:List It->FuncId->Option It
 | [],_=>none
 | c::cs,f=>if c.f==f then some c else IS cs f
def OA:Value->AV
 | .int k n => .lit k n
 | .bool b => .aG b
 | .string s => .str fun _=>s
 | .slice none 0 0 => .nil
 | _ => .un
def AV.asInt:AV->Option (IntKind×(Unit->Int))
 | .int k n=>some (k,n)
 | .lit k n=>some (k,fun _=>n)
 | _=>none
def AV.asBool:AV->Option (Unit->Bool)
 | .bool b=>some b
 | .aG b=>some fun _=>b
 | _=>none
def aY(n:Int):Prop := -9223372036854775808<=n/\n<=9223372036854775807
def sP(op:BinOp)(k:IntKind)(a b:Int):Int:=match op with
 | .and=>k.wrap (BitVec.ofInt k.bits a &&& BitVec.ofInt k.bits b).toNat
 | .or=>k.wrap (BitVec.ofInt k.bits a ||| BitVec.ofInt k.bits b).toNat
 | .xor=>k.wrap (BitVec.ofInt k.bits a ^^^ BitVec.ofInt k.bits b).toNat
 | _=>k.wrap (BitVec.ofInt k.bits a &&& ~~~BitVec.ofInt k.bits b).toNat
def lV(op:BinOp)(k:IntKind)(a b:Int):Int:=match op with
 | .shl=>k.wrap (a*2^min b.toNat k.bits)
 | _=>a.fdiv (2^min b.toNat k.bits)
def arith(op:BinOp)(k:IntKind)(a b:Unit->Int):Option (AV×List VC) :=
 match op with
 | .add=>if k = .i64 then some (.int k fun _=>a ()+b (),[fun _=>aY (a ()+b ())]) else some (.int k fun _=>k.wrap (a ()+b ()),[])
 | .sub=>if k = .i64 then some (.int k fun _=>a () - b (),[fun _=>aY (a () - b ())]) else some (.int k fun _=>k.wrap (a () - b ()),[])
 | .mul=>if k = .i64 then some (.int k fun _=>a ()*b (),[fun _=>aY (a ()*b ())]) else some (.int k fun _=>k.wrap (a ()*b ()),[])
 | .quo=>some (.int k fun _=>k.wrap ((a ()).tdiv (b ())),[fun _=>b ()≠0])
 | .rem=>some (.int k fun _=>(a ()).tmod (b ()),[fun _=>b ()≠0])
 | .eql=>some (.bool fun _=>decide (a ()=b ()),[])
 | .neq=>some (.bool fun _ => !decide (a ()=b ()),[])
 | .lss=>some (.bool fun _=>decide (a ()<b ()),[])
 | .leq=>some (.bool fun _=>decide (a ()<=b ()),[])
 | .gtr=>some (.bool fun _=>decide (b ()<a ()),[])
 | .geq=>some (.bool fun _=>decide (b ()<=a ()),[])
 | .and=>some (.int k fun _=>sP .and k (a ()) (b ()),[])
 | .or=>some (.int k fun _=>sP .or k (a ()) (b ()),[])
 | .xor=>some (.int k fun _=>sP .xor k (a ()) (b ()),[])
 | .andNot=>some (.int k fun _=>sP .andNot k (a ()) (b ()),[])
 | _=>none
def OB(op:BinOp)(k:IntKind)(a b:Unit->Int):Option (AV×List VC) :=
 match op with
 | .add=>some (.int k fun _=>k.wrap (a ()+b ()),[])
 | .sub=>some (.int k fun _=>k.wrap (a () - b ()),[])
 | .mul=>some (.int k fun _=>k.wrap (a ()*b ()),[])
 | op=>arith op k a b
def BV(ti:Option TI)(op:BinOp)(k:IntKind)(a b:Unit->Int):Option (AV×List VC) :=
 match ti with
 | some .WR=>OB op k a b
 | _=>arith op k a b
def fold(op:BinOp)(k:IntKind)(m n:Int):Option AV :=
 match op with
 | .add=>some (.lit k (k.wrap (m+n)))
 | .sub=>some (.lit k (k.wrap (m - n)))
 | .mul=>some (.lit k (k.wrap (m*n)))
 | .quo=>if n=0 then none else some (.lit k (k.wrap (m.tdiv n)))
 | .rem=>if n=0 then none else some (.lit k (m.tmod n))
 | .eql=>some (.aG (m==n))
 | .neq=>some (.aG (m != n))
 | .lss=>some (.aG (decide (m<n)))
 | .leq=>some (.aG (decide (m<=n)))
 | .gtr=>some (.aG (decide (m>n)))
 | .geq=>some (.aG (decide (m≥n)))
 | _=>none
def IT(op:BinOp)(a b:Unit->ByteArray):Option (AV×List VC) :=
 match op with
 | .eql=>some (.bool fun _=>decide (a ()=b ()),[])
 | .neq=>some (.bool fun _ => !decide (a ()=b ()),[])
 | _=>none
def IU(op:BinOp)(a b:Unit->Bool):Option (AV×List VC) :=
 match op with
 | .eql=>some (.bool fun _=>a ()==b (),[])
 | .neq=>some (.bool fun _=>a () != b (),[])
 | _=>none
def BW(op:BinOp)(x y:AV):Option (AV×List VC):=match x.asInt,y.asInt with
 | some (k,a),some (_,b)=>some (.int k fun _=>lV op k (a ()) (b ()),[fun _=>0<=b ()])
 | _,_=>none
def zI(ti:Option TI)(op:BinOp)(x y:AV):Option (AV×List VC) :=
 match op with
 | .shl=>BW .shl x y
 | .shr=>BW .shr x y
 | op=>match x,y with
 | .lit k m,.lit k' n=>if k=k' then match fold op k m n with
  | some r=>some (r,[])
  | none=>BV ti op k (fun _=>m) fun _=>n else none
 | .str a,.str b=>IT op a b
 | x,y=>match x.asInt,y.asInt with
  | some (k,a),some (k',b)=>if k=k' then BV ti op k a b else none
  | _,_=>match x.asBool,y.asBool with
   | some a,some b=>match ti with
    | some .bool=>IU op a b
    | _=>none
   | _,_=>none
def IV(c x y:AV):Option AV :=
 match c with
 | .aG b=>some (if b then x else y)
 | .bool c=>match x.asBool,y.asBool with
  | some a,some b=>some (.bool fun _=>cond (c ()) (a ()) (b ()))
  | _,_=>match x.asInt,y.asInt with
   | some (k,a),some (k',b)=>if k=k' then some (.int k fun _=>cond (c ()) (a ()) (b ())) else none
   | _,_=>none
 | _=>none
def cut(agg:Bool)(off n:Nat)(cells:List AV):Option AV :=
 if agg then if off+n<=cells.length then some (.agg ((cells.drop off).take n)) else none else cells[off]?
def fy(ty:kd)(T:Nat):Option TI:=(ak ty T).map fun i=>i.ti
def fieldAt(i:eS)(f:Nat):Option (Nat×Nat×Bool) :=
 match i.ti with
 | .struct fs=>fs[f]?
 | _=>none
def uw(place:Nat->Option (Nat×Nat))(cells:List AV):List (Nat×AV)->Option (List AV)
 | []=>some cells
 | (i,x)::rest=>match place i with
  | none=>none
  | some (off,size)=>match x with
   | .agg cs=>if cs.length==size&&decide (off+size<=cells.length) then uw place (cells.take off++cs++cells.drop (off+size)) rest else none
   | .un=>none
   | .aU _=>none
   | x=>if size==1&&decide (off+1<=cells.length) then uw place (cells.set off x) rest else none
def xT(i:Unit->Int)(n:Unit->Int):List VC := [fun _=>0<=i ()/\i ()<n ()]
def Em(ge:Nat->Option En)(agg:Bool)(n:Nat):AV->Option AV
 | .bg cells off=>cut agg off n cells
 | .ptr loc off=>match ge loc with
  | some (.box _ cells)=>cut agg off n cells
  | _=>none
 | .cY t loc k off=>match ge loc with
  | some (.row fr t' _ l)=>if t=t' then cut agg off n (aO fr t' fun _=>(l ()).getD (k ()).toNat t'.aa) else none
  | _=>none
 | _=>none
def zJ:AV->Nat->Option AV
 | .bg cells off,k=>some (.bg cells (off+k))
 | .ptr loc off,k=>some (.ptr loc (off+k))
 | .cY t loc i off,k=>some (.cY t loc i (off+k))
 | _,_=>none
def Eo(ge:Nat->Option En):AV->Option AV
 | .nil=>some (.lit .i64 0)
 | .sl _ _ l=>some (.int .i64 fun _=>((l ()).length:Int))
 | .wide _ _ _ n=>some (.int .i64 fun _=>(n ():Int))
 | .own loc=>match ge loc with
  | some (.row _ _ _ l)=>some (.int .i64 fun _=>((l ()).length:Int))
  | _=>none
 | .cE _ _ a b=>some (.int .i64 fun _=>((b () - a ():Nat):Int))
 | .str s=>some (.int .i64 fun _=>((s ()).size:Int))
 | _=>none
/- keys of maps -/
def Ep:Lk->AV->Option (Unit->Kx)
 | .int k,.int k' n=>if k=k' then some fun _ => .i k (n ()) else none
 | .int k,.lit k' n=>if k=k' then some fun _ => .i k n else none
 | .bool,.bool b=>some fun _ => .f (b ())
 | .bool,.aG b=>some fun _ => .f b
 | .str,.str s=>some fun _ => .s (s ())
 | _,_=>none
def wa:List Lk->List AV->Option (Unit->List Kx)
 | [],[]=>some fun _ => []
 | l::ls,x::xs=>match Ep l x,wa ls xs with
  | some a,some b=>some fun _=>a ()::b ()
  | _,_=>none
 | _,_=>none
def xU(c:Kc)(x:AV):Option (Unit->List Kx):=match c with
 | .one l=>(Ep l x).map fun a=>fun _ => [a ()]
 | .arr n l=>match x with
  | .agg cs=>wa (List.replicate n l) cs
  | _=>none
 | .st ls=>match x with
  | .agg cs=>wa ls cs
  | _=>none
def Kx.num:Kx->Int
 | .i _ n=>n
 | _=>0
def Kx.flag:Kx->Bool
 | .f p=>p
 | _=>false
def Kx.WT:Kx->ByteArray
 | .s x=>x
 | _=>ic
def IW:Lk->(Unit->Kx)->AV
 | .int k,x => .int k fun _=>(x ()).num
 | .bool,x => .bool fun _=>(x ()).flag
 | .str,x => .str fun _=>(x ()).WT
def IX:List Lk->Nat->(Unit->List Kx)->List AV
 | [],_,_ => []
 | l::ls,n,k=>IW l (fun _=>(k ()).getD n (.i .i64 0))::IX ls (n+1) k
def IY(c:Kc)(k:Unit->List Kx):AV:=match c with
 | .one l=>IW l fun _=>(k ()).getD 0 (.i .i64 0)
 | .arr n l => .agg (IX (List.replicate n l) 0 k)
 | .st ls => .agg (IX ls 0 k)
def IZ(ag fr:Bool)(t:Tc)(x:Unit->Option t.el)(ok:Bool):AV :=
 if ok then .aU [eD ag fr t fun _=>(x ()).getD t.aa,.bool fun _=>(x ()).isSome] else eD ag fr t fun _=>(x ()).getD t.aa
def Er(i:Option eS)(op:BinOp)(x y:AV):Option (AV×List VC):=match x,y with
 | .agg cs,.agg ds=>match i with
  | some i=>if i.eq.isEmpty then none else match wa i.eq cs,wa i.eq ds with
   | some a,some b=>match op with
    | .eql=>some (.bool fun _=>decide (a ()=b ()),[])
    | .neq=>some (.bool fun _ => !decide (a ()=b ()),[])
    | _=>none
   | _,_=>none
  | none=>none
 | x,y=>zI (i.map fun i=>i.ti) op x y
def pG(g:Operand->AV)(d:Unit->Int):Option Operand->Option (Unit->Int)
 | none=>some d
 | some o=>(g o).asInt.map fun p=>p.2
/- one of some values,as an index ai7 -/
def zK(kk:IntKind)(k:Unit->Int):Nat->List AV->Option (Unit->Int)
 | _,[]=>none
 | j,x::l=>match x.asInt with
  | some (k',a)=>if k'=kk then (match l with
   | []=>some a
   | _=>(zK kk k (j+1) l).map fun f=>fun _=>cond (decide (k ()=(j:Int))) (a ()) (f ())) else none
  | none=>none
def zL(k:Unit->Int):Nat->List AV->Option (Unit->Bool)
 | _,[]=>none
 | j,x::l=>match x.asBool with
  | some a=>match l with
   | []=>some a
   | _=>(zL k (j+1) l).map fun f=>fun _=>cond (decide (k ()=(j:Int))) (a ()) (f ())
  | none=>none
def Es(k:Unit->Int)(l:List AV):Option AV:=match l with
 | .int kk _::_=>(zK kk k 0 l).map (.int kk)
 | .lit kk _::_=>(zK kk k 0 l).map (.int kk)
 | .bool _::_=>(zL k 0 l).map .bool
 | .aG _::_=>(zL k 0 l).map .bool
 | _=>none
def I0(cells:List AV)(n dP c:Nat):List AV:=(List.range n).map fun m=>cells.getD (m*dP+c) .un
def BX(k:Unit->Int)(cells:List AV)(n dP:Nat):List Nat->Option (List AV)
 | []=>some []
 | c::cs=>match Es k (I0 cells n dP c),BX k cells n dP cs with
  | some x,some l=>some (x::l)
  | _,_=>none
def WU(s:ByteArray)(i:Nat):Int:=(s.data[i]?.map fun c=>c.toNat).getD 0
def OC(ti:Option TI)(x i:AV):Option (AV×List VC):=match ti,x with
 | some (.array n _ dP ag),.agg cells=>match i with
  | .lit _ m=>if decide (0<=m)&&decide (m<n) then (cut ag (m.toNat*dP) dP cells).map fun r=>(r,[]) else none
  | .int _ k=>if cells.length==n*dP then
   match ag with
   | true=>(BX k cells n dP (List.range dP)).map fun l=>(.agg l,xT k fun _=>n)
   | false=>if dP==1 then (Es k cells).map fun r=>(r,xT k fun _=>n) else none else none
  | _=>none
 | some .str,.str s=>match i.asInt with
  | some (_,k)=>some (.int .u8 fun _=>WU (s ()) (k ()).toNat,xT k fun _=>(s ()).size)
  | none=>none
 | _,_=>none
def OD(ti:Option TI)(x i:AV):Option (AV×List VC):=match ti,i with
 | some (.array n _ dP _),.lit _ m=>if decide (0<=m)&&decide (m<n) then (zJ x (m.toNat*dP)).map fun r=>(r,[]) else none
 | _,_=>none
def OE(ge:Nat->Option En)(sz:Nat)(k:Unit->Int):AV->Option (AV×List VC)
 | .own loc=>match ge loc with
  | some (.row _ t _ l)=>if t.size==sz then some (.cY t loc k 0,xT k fun _=>((l ()).length:Int)) else none
  | _=>none
 | .cE t loc a b=>match ge loc with
  | some (.row _ t' _ _)=>if t=t'/\t.size=sz then some (.cY t loc (fun _=>(a ():Int)+k ()) 0,xT k fun _=>((b () - a ():Nat):Int)) else none
  | _=>none
 | _=>none
def BY(fr:Bool)(t:Tc)(l:Unit->List t.el):Nat->List AV
 | 0 => []
 | n+1=>BY fr t l n++aO fr t fun _=>(l ()).getD n t.aa
def nX(ty:kd)(cs:List aH)(ge:Nat->Option En)(g:Operand->AV):Op->Option (AV×List VC)
 | .move x=>some (g x,[])
 | .assign x=>some (g x,[])
 | .pick c a b=>(IV (g c) (g a) (g b)).map fun r=>(r,[])
 | .nilCheck x=>match g x with
  | .ptr l o=>some (.ptr l o,[])
  | .bg l o=>some (.bg l o,[])
  | .cY t l k o=>some (.cY t l k o,[])
  | _=>none
 | .binOp op T x y _=>Er (ak ty T) op (g x) (g y)
 | .unOp .not _ x=>match g x with
  | .aG b=>some (.aG (!b),[])
  | .bool b=>some (.bool fun _ => !b (),[])
  | _=>none
 | .unOp .neg _ x=>match g x with
  | .lit k n=>some (.lit k (k.wrap (-n)),[])
  | .int .i64 n=>some (.int .i64 fun _ => -n (),[fun _=>aY (-n ())])
  | .int k n=>some (.int k fun _=>k.wrap (-n ()),[])
  | _=>none
 | .convert s t x=>match fy ty s,fy ty t,g x with
  | some (.int _),some (.int k),.lit _ n=>some (.lit k (k.wrap n),[])
  | some (.int _),some (.int k),.int _ n=>if k = .i64 then some (.int k n,[fun _=>aY (n ())]) else some (.int k fun _=>k.wrap (n ()),[])
  | _,_,_=>none
 | .fieldAddr T x f=>match (ak ty T).bind (fieldAt · f) with
  | some (off,sz,_)=>if sz==0 then none else (zJ (g x) off).map fun r=>(r,[])
  | none=>none
 | .field T x f=>match (ak ty T).bind (fieldAt · f),g x with
  | some (off,sz,a),.agg cells=>(cut a off sz cells).map fun r=>(r,[])
  | _,_=>none
 | .indexAddr T x i=>match fy ty T,g x,(g i).asInt with
  | some (.slice _ sz _),.sl fr t l,some (_,k)=>if t.size==sz then some (.bg (aO fr t fun _=>(l ()).getD (k ()).toNat t.aa) 0,xT k fun _=>((l ()).length:Int)) else none
  | some (.slice _ sz _),.wide fr t l n,some (_,k)=>if t.size==sz then some (.bg (aO fr t fun _=>(l ()).getD (k ()).toNat t.aa) 0,xT k fun _=>(n ():Int)) else none
  | some (.slice _ sz _),y,some (_,k)=>OE ge sz k y
  | ti,y,_=>OD ti y (g i)
 | .index T x i=>OC (fy ty T) (g x) (g i)
 | .sliceToArrayPointer T x=>match fy ty T,g x with
  | some (.array n _ _ _),.sl fr t l=>if n=0 then none else some (.bg (BY fr t l n) 0,[fun _=>n<=(l ()).length])
  | _,_=>none
 | .lookup T x i ok=>match fy ty T,g x with
  | some (.map _ _ c t ag),.mp loc=>match ge loc,xU c (g i) with
   | some (.map fr jI c' t' _ m),some k=>if c'=c/\t'=t/\jI=ag then some (IZ jI fr t' (fun _=>m () (k ())) ok,[]) else none
   | _,_=>none
  | _,_=>none
 | .entry x=>match g x with
  | .it ml l2=>match ge ml,ge l2 with
   | some (.map fr ag c t _ m),some (.iter Et c' seen _)=>if Et=ml/\c'=c then some (.aU [IY c fun _=>(seen ()).headD [],eD ag fr t fun _=>(m () ((seen ()).headD [])).getD t.aa],[fun _=>seen () ≠ []]) else none
   | _,_=>none
  | _=>none
 | .slice T x none (some hi) none=>match fy ty T,g x with
  | some (.slice _ sz _),.sl fr t l=>if t.size==sz then (match (g hi).asInt with
   | some (_,b)=>some (.wide fr t l fun _=>(b ()).toNat,[fun _=>0<=b ()/\b ()<=((l ()).length:Int)])
   | none=>none) else none
  | some (.slice _ sz _),.wide fr t l _=>if t.size==sz then (match (g hi).asInt with
   | some (_,b)=>some (.wide fr t l fun _=>(b ()).toNat,[fun _=>0<=b ()/\b ()<=((l ()).length:Int)])
   | none=>none) else none
  | some (.slice _ sz _),.own loc=>match ge loc with
   | some (.row _ t _ l)=>if t.size==sz then (match (g hi).asInt with
    | some (_,b)=>some (.cE t loc (fun _=>0) fun _=>(b ()).toNat,[fun _=>0<=b ()/\b ()<=((l ()).length:Int)])
    | none=>none) else none
   | _=>none
  | _,_=>none
 | .slice T x lo hi none=>match fy ty T,g x with
  | some (.slice _ sz _),.sl fr t l=>if t.size==sz then (match pG g (fun _=>0) lo,pG g (fun _=>((l ()).length:Int)) hi with
   | some a,some b=>some (.sl fr t fun _=>((l ()).take (b ()).toNat).drop (a ()).toNat,[fun _=>0<=a ()/\a ()<=b ()/\b ()<=((l ()).length:Int)])
   | _,_=>none) else none
  | some (.slice _ sz _),.own loc=>match ge loc with
   | some (.row _ t _ l)=>if t.size==sz then (match pG g (fun _=>0) lo,pG g (fun _=>((l ()).length:Int)) hi with
    | some a,some b=>some (.cE t loc (fun _=>(a ()).toNat) fun _=>(b ()).toNat,[fun _=>0<=a ()/\a ()<=b ()/\b ()<=((l ()).length:Int)])
    | _,_=>none) else none
   | _=>none
  | some (.array n _ dP _),.ptr loc off=>if lo.isNone&&hi.isNone&&dP==1 then some (.fw loc off n,[]) else none
  | _,_=>none
 | .extract x i=>match g x with
  | .aU l=>(l[i]?).map fun r=>(r,[])
  | _=>none
 | .makeFunc (.func f) first dw=>if first.isEmpty then some (.fn f (dw.toList.map g),[]) else none
 | .load T x=>match ak ty T with
  | some i=>(Em ge i.ti.agg i.sz (g x)).map fun r=>(r,[])
  | none=>none
 | .build T parts=>match ak ty T with
  | some i=>match i.ti with
   | .struct fs=>if i.z.isEmpty then none else (uw (fun k=>(fs[k]?).map fun f=>(f.1,f.2.1)) i.z (parts.toList.map fun p=>(p.1,g p.2))).map fun r=>(.agg r,[])
   | .array _ _ dP _=>if i.z.isEmpty then none else (uw (fun k=>some (k*dP,dP)) i.z (parts.toList.map fun p=>(p.1,g p.2))).map fun r=>(.agg r,[])
   | _=>none
  | none=>none
 | .call c=>match c.callee with
  | .builtin .min=>match c.args.toList with
   | [x,y]=>match (g x).asInt,(g y).asInt with
    | some (k,a),some (k',b)=>if k=k' then some (.int k fun _=>cond (decide (b ()<a ())) (b ()) (a ()),[]) else none
    | _,_=>none
   | _=>none
  | .builtin .max=>match c.args.toList with
   | [x,y]=>match (g x).asInt,(g y).asInt with
    | some (k,a),some (k',b)=>if k=k' then some (.int k fun _=>cond (decide (a ()<b ())) (b ()) (a ()),[]) else none
    | _,_=>none
   | _=>none
  | .builtin .len=>match c.args.toList,c.argTypes.toList with
   | [x],[T]=>match fy ty T,g x with
    | some (.slice _ _ _),.str _=>none
    | some (.slice _ _ _),y=>(Eo ge y).map fun r=>(r,[])
    | some .str,.str s=>(Eo ge (.str s)).map fun r=>(r,[])
    | _,_=>none
   | _,_=>none
  | .value fo=>match g fo with
   | .fn f dw=>match IP cs f with
    | some OF=>match pF ge OF.sig (c.args.toList.map g++dw) with
     | some ai=>match OF.go ai with
      | some res=>if AV.plain true res.av||(AV.dO false (c.args.toList.map g++dw)&&AV.plain false res.av) then some (res.av,[res.pre]) else none
      | none=>none
     | none=>none
    | none=>none
   | _=>none
  | _=>none
 | _=>none
section
variable{w w':World}{ρ ρ':Nat->Option Rl}{base kc:Nat}{ro ro':Nat->Prop}{v:Value}
theorem ah.iA(h:ah w ρ base ro (.int k n) v):v = .int k (n ()):=by cases h; rfl
theorem ah.mw{n:Int}(h:ah w ρ base ro (.lit k n) v):v = .int k n:=by cases h; rfl
theorem ah.oR(h:ah w ρ base ro (.bool b) v):v = .bool (b ()):=by cases h; rfl
theorem ah.pH{b:Bool}(h:ah w ρ base ro (.aG b) v):v = .bool b:=by cases h; rfl
theorem ah.zM{s:Unit->ByteArray}(h:ah w ρ base ro (.str s) v):v = .string (s ()):=by cases h; rfl
theorem ah.wb(h:ah w ρ base ro .nil v):v = .slice none 0 0:=by cases h; rfl
theorem ah.oS{l:List AV}(h:ah w ρ base ro (.agg l) v):∃ vs,v = .agg vs.toArray/\aQ w ρ base ro l vs:=by
 cases h with
 | agg _ vs hl h=>exact⟨vs,rfl,hl,h⟩
theorem ah.I1{l:List AV}(h:ah w ρ base ro (.aU l) v):∃ vs,v = .tuple vs.toArray/\aQ w ρ base ro l vs:=by
 cases h with
 | aU _ vs hl h=>exact⟨vs,rfl,hl,h⟩
theorem ah.Eu{f:FuncId}{l:List AV}(h:ah w ρ base ro (.fn f l) v):∃ vs,v = .func (.func f) #[] vs.toArray/\aQ w ρ base ro l vs:=by
 cases h with
 | fn _ _ vs hl h=>exact⟨vs,rfl,hl,h⟩
theorem ah.ai8{n:Nat}(h:ah w ρ base ro (.fw loc off n) v):∃ b,ρ loc=some (.box b)/\v = .slice (some ⟨b,off,none⟩) n n:=by
 cases h with
 | fw _ _ _ b h=>exact⟨b,h,rfl⟩
theorem ah.xV(h:ah w ρ base ro (.ptr loc off) v):∃ b,ρ loc=some (.box b)/\v = .pointer (some ⟨b,off,none⟩):=by
 cases h with
 | ptr _ _ b h=>exact⟨b,h,rfl⟩
theorem ah.sQ(h:ah w ρ base ro (.own loc) v):∃ A n c,ρ loc=some (.row A n c)/\v = .slice A n c:=by
 cases h with
 | own _ A n c h=>exact⟨A,n,c,h,rfl⟩
theorem ah.I2{k:Unit->Int}(h:ah w ρ base ro (.cY t loc k off) v):∃ A,∃ n,∃ c b,ρ loc=some (.row A n c)/\A=some ⟨b,0,none⟩/\0<=k ()/\k ()<n/\v = .pointer (some ⟨b,(k ()).toNat*t.size+off,none⟩):=by
 cases h with
 | cY _ _ _ _ A n c b h hA h0 hn=>exact⟨A,n,c,b,h,hA,h0,hn,rfl⟩
theorem ah.xW{a b:Unit->Nat}(h:ah w ρ base ro (.cE t loc a b) v):∃ A,∃ n,∃ c,ρ loc=some (.row A n c)/\a ()<=b ()/\b ()<=n/\v=sliced A (a ()) (b ()) c t.size:=by
 cases h with
 | cE _ _ _ _ A n c h bm=>exact⟨A,n,c,h,bm.1,bm.2,rfl⟩
theorem ah.I3{cells:List AV}(h:ah w ρ base ro (.bg cells off) v):∃ b o,∃ cs,ro b/\b<w.heap.size/\(∀ (j) u,cs[j]? = some u->w.cell? ⟨b,o+j,none⟩=some u)/\aQ w ρ base ro cells cs/\v = .pointer (some ⟨b,o+off,none⟩):=by
 cases h with
 | bg _ _ b o cs bB aj hl hc h=>exact⟨b,o,cs,bB,aj,hc,⟨hl,h⟩,rfl⟩
theorem ah.pI{fr:Bool}{l:Unit->List t.el}(h:ah w ρ base ro (.sl fr t l) v):∃ A c,∃ css,css.length=(l ()).length/\css.length<=c/\Rd w w.heap.size t.size A css/\(∀ a,A=some a->css ≠ []->ro a.block)/\(fr=true->∀ a,A=some a->css ≠ []->base<=a.block) /\
 (∀ (k) (cs) (j:Nat) (x) (v),css[k]? = some cs->(aO fr t fun _=>(l ()).getD k t.aa)[j]? = some x->cs[j]? = some v->ah w ρ base ro x v)/\v = .slice A (l ()).length c:=by
 cases h with
 | sl _ _ _ A c css hl hc hr bB cK h=>exact⟨A,c,css,hl,hc,hr,bB,cK,h,rfl⟩
theorem ah.zN(h:ah w ρ base ro (.mp loc) v):∃ b,ρ loc=some (.mp b)/\v = .map (some b):=by
 cases h with
 | mp _ b h=>exact⟨b,h,rfl⟩
theorem ah.ai9(h:ah w ρ base ro (.bq loc) v):∃ s,ρ loc=some (.bq s)/\v=goInt s:=by
 cases h with
 | bq _ s h=>exact⟨s,h,rfl⟩
theorem ah.OG(h:ah w ρ base ro (.it loc l2) v):∃ b,ρ l2=some (.it b)/\v = .pointer (some ⟨b,0,none⟩):=by
 cases h with
 | it _ _ b h=>exact⟨b,h,rfl⟩
theorem ji{x:AV}(hx:x.asInt=some (k,n))(h:ah w ρ base ro x v):v = .int k (n ()):=by
 cases x<;>simp only [AV.asInt] at hx<;>cases hx
 . exact h.iA
 . exact h.mw
theorem Ev{x:AV}(hx:x.asBool=some b)(h:ah w ρ base ro x v):v = .bool (b ()):=by
 cases x<;>simp only [AV.asBool] at hx<;>cases hx
 . exact h.oR
 . exact h.pH
theorem WV(u):ah w ρ base ro (OA u) u:=by
 unfold OA;split
 . exact .lit _ _
 . exact .aG _
 . exact .str _
 . exact .nil
 . exact .un _
end
section
variable{P:Program}{r:Operand->Value}{d:Option Nat}{ty:TypeId}{pos:String}{aft:Array Edge}{gd:Option (Nat×Bool)}{u v:Value}{w:World}
variable{ρ:Nat->Option Rl}{base:Nat}{ro:Nat->Prop}
theorem zO{n:Int}(h:aY n):IntKind.i64.wrap n=n:=wrap_i64 h.1 h.2
theorem WW{a b:Unit->Int}{av:AV}{vcs:List VC}{t:TypeId}(h:arith op k a b=some (av,vcs))(hv:∀ c∈vcs,c ())(hx:r x = .int k (a ()))(hy:r y = .int k (b ())) :
 ∃ v,(execOp r ⟨d,.binOp op t x y t',ty,pos,aft,gd⟩).run P w = .ok (.value v) w/\ah w ρ base ro av v:=by
 cases op<;>simp only [arith] at h
 case add =>
  split at h
  . rename_i hk;subst hk;cases h;exact⟨_,Iy hx hy (zO (hv _ (.head _))) rfl,.int _ _⟩
  . cases h;exact⟨_,Iy hx hy rfl rfl,.int _ _⟩
 case sub =>
  split at h
  . rename_i hk;subst hk;cases h;exact⟨_,Iz hx hy (zO (hv _ (.head _))) rfl,.int _ _⟩
  . cases h;exact⟨_,Iz hx hy rfl rfl,.int _ _⟩
 case mul =>
  split at h
  . rename_i hk;subst hk;cases h;exact⟨_,IA hx hy (zO (hv _ (.head _))) rfl,.int _ _⟩
  . cases h;exact⟨_,IA hx hy rfl rfl,.int _ _⟩
 case quo =>
  cases h;exact⟨_,WQ hx hy (hv _ (.head _)) rfl rfl,.int _ _⟩
 case rem =>
  cases h;exact⟨_,WN hx hy (hv _ (.head _)) rfl rfl,.int _ _⟩
 case eql=>cases h; exact⟨_,zC (op := .eql) hx hy rfl rfl,by rw [show (a ()==b ())=decide (a ()=b ()) by rw [sD]; simp]; exact .bool _⟩
 case neq=>cases h; exact⟨_,zC (op := .neq) hx hy rfl rfl,by rw [show (a () != b ()) = !decide (a ()=b ()) by rw [sD]; simp]; exact .bool _⟩
 case lss=>cases h; exact⟨_,zC (op := .lss) hx hy rfl rfl,.bool _⟩
 case leq=>cases h; exact⟨_,zC (op := .leq) hx hy rfl rfl,.bool _⟩
 case gtr=>cases h; exact⟨_,zC (op := .gtr) hx hy rfl rfl,.bool _⟩
 case geq=>cases h; exact⟨_,zC (op := .geq) hx hy rfl rfl,.bool _⟩
 case and =>
  exact I4
 case or =>
  exact I4
 case xor =>
  exact I4
 case andNot =>
  exact I4
 all_goals cases h
theorem aja{m n:Int}{av:AV}{t:TypeId}(h:fold op k m n=some av)(hx:r x = .int k m)(hy:r y = .int k n) :
 ∃ v,(execOp r ⟨d,.binOp op t x y t',ty,pos,aft,gd⟩).run P w = .ok (.value v) w/\ah w ρ base ro av v:=by
 by_cases hq:op = .quo\/op = .rem
 . rcases hq with rfl|rfl<;>simp only [fold] at h<;>split at h<;>cases h
   . rename_i h0;exact⟨_,WQ hx hy h0 rfl rfl,.lit _ _⟩
   . rename_i h0;exact⟨_,WN hx hy h0 rfl rfl,.lit _ _⟩
 cases op<;>simp only [fold] at h<;>first|cases h|exact (hq (.inl rfl)).elim|exact (hq (.inr rfl)).elim
 . exact⟨_,Iy hx hy rfl rfl,.lit _ _⟩
 . exact⟨_,Iz hx hy rfl rfl,.lit _ _⟩
 . exact⟨_,IA hx hy rfl rfl,.lit _ _⟩
 all_goals exact⟨_,zC hx hy rfl rfl,.aG _⟩
theorem ajb{a b:ByteArray}{t:TypeId}(hx:r x = .string a)(hy:r y = .string b):(execOp r ⟨d,.binOp op t x y t',ty,pos,aft,gd⟩).run P w=((Op.stringOp op a b).run P w).andThen fun v w => .ok (.value v) w:=by
 unfold execOp;have h1:(eqGuard op t x y (r x) (r y)).run P w = .ok () w:=by
  rw [hx,hy];cases op<;>rfl
 have h2:binOp op t (r x) (r y)=Op.stringOp op a b:=by
  rw [hx,hy];cases op<;>rfl
 simp only [bt,h1,h2,bM];cases (Op.stringOp op a b).run P w<;>rfl
theorem ajc{a b:Unit->ByteArray}{av:AV}{vcs:List VC}{t:TypeId}(h:IT op a b=some (av,vcs))(hx:r x = .string (a ()))(hy:r y = .string (b ())) :
 ∃ v,(execOp r ⟨d,.binOp op t x y t',ty,pos,aft,gd⟩).run P w = .ok (.value v) w/\ah w ρ base ro av v:=by
 cases op<;>simp only [IT] at h<;>cases h
 . exact WX
 . exact WX
theorem eU{tb:kd}{ti:TI}(aA:cS P tb)(h:fy tb T=some ti):∃ i,ak tb T=some i/\i.ti=ti/\fT P T i=true:=by
 unfold fy at h
 cases hi:ak tb T with
 | none=>rw [hi] at h; cases h
 | some i =>
  rw [hi] at h;simp only [dv,bI] at h;exact⟨i,rfl,h,aA T i hi⟩
theorem m9{i:eS}(h:fT P T i=true):∃ ds,P.underlying T=some ds/\jH P ds i.ti=true:=by
 unfold fT at h;simp only [au] at h;have h2:=h.1.2
 cases hd:P.underlying T with
 | none=>rw [hd] at h2; cases h2
 | some ds =>
  rw [hd] at h2;exact⟨ds,rfl,h2⟩
theorem ajd{i:eS}(h:fT P T i=true)(hi:i.ti = .bool):P.underlying T=some .bool:=by
 exact WY
theorem BZ{i:eS}(h:fT P T i=true)(hi:i.ti = .int k):P.underlying T=some (.int k):=by
 obtain⟨ds,hd,hm⟩:=m9 h;rw [hi] at hm;cases ds<;>first|(simp [jH] at hm; done)|skip
 simp only [jH,aI] at hm;rw [hd,hm]
theorem aje{i:eS}(h:fT P T i=true)(hi:i.ti = .str):P.underlying T=some .string:=by
 exact WY
theorem ajf{b:Bool}(hT:P.underlying T=some .bool):(Op.equal T (.bool a) (.bool b)).run P w = .ok (a==b) w:=by
 unfold Op.equal;rw [show Op.maxDepth=9999+1 from rfl];unfold Op.equalIn;simp only [underlying,bt,bU,bM,m5,hT]
theorem ajg{a:Unit->Bool}{av:AV}{vcs:List VC}{T:TypeId}(hT:P.underlying T=some .bool)(h:IU op a b=some (av,vcs))(hx:r x = .bool (a ()))(hy:r y = .bool (b ())) :
 ∃ v,(execOp r ⟨d,.binOp op T x y t',ty,pos,aft,gd⟩).run P w = .ok (.value v) w/\ah w ρ base ro av v:=by
 cases op<;>simp only [IU] at h<;>cases h
 all_goals
  refine⟨_,?_,.bool _⟩;unfold execOp;simp only [hx,hy,eqGuard,binOp,bt,bU,bM,ajf hT];rfl
theorem WZ(xX:op = .shl\/op = .shr){a b av:AV}{vcs:List VC}{T:TypeId}(h:BW op a b=some (av,vcs))(hv:∀ c∈vcs,c ())(hx:ah w ρ base ro a (r x))(hy:ah w ρ base ro b (r y)) :
 ∃ v,(execOp r ⟨d,.binOp op T x y t',ty,pos,aft,gd⟩).run P w = .ok (.value v) w/\ah w ρ base ro av v:=by
 unfold BW at h;split at h
 . rename_i k m k' n e1 e2;cases h;have h0:0<=n ():=hv _ (.head _);have h1:¬ n ()<0:=oo
   refine⟨_,?_,.int k _⟩;unfold execOp;rcases xX with rfl|rfl
   . exact W4
   . exact W4
 . cases h
theorem W5{ti:Option TI}{a b:Unit->Int}{av:AV}{vcs:List VC}{t:TypeId}(h:BV ti op k a b=some (av,vcs))(hv:∀ c∈vcs,c ())(hx:r x = .int k (a ()))(hy:r y = .int k (b ())) :
 ∃ v,(execOp r ⟨d,.binOp op t x y t',ty,pos,aft,gd⟩).run P w = .ok (.value v) w/\ah w ρ base ro av v:=by
 unfold BV at h;split at h
 . unfold OB at h;split at h
   . cases h;exact⟨_,Iy hx hy rfl rfl,.int _ _⟩
   . cases h;exact⟨_,Iz hx hy rfl rfl,.int _ _⟩
   . cases h;exact⟨_,IA hx hy rfl rfl,.int _ _⟩
   . exact WW h hv hx hy
 . exact WW h hv hx hy
theorem OH{tb:kd}(aA:cS P tb){a b av:AV}{vcs:List VC}{T:TypeId}(h:zI (fy tb T) op a b=some (av,vcs))(hv:∀ c∈vcs,c ())(hx:ah w ρ base ro a (r x))(hy:ah w ρ base ro b (r y)) :
 ∃ v,(execOp r ⟨d,.binOp op T x y t',ty,pos,aft,gd⟩).run P w = .ok (.value v) w/\ah w ρ base ro av v:=by
 unfold zI at h;split at h
 . exact WZ (.inl rfl) h hv hx hy
 . exact WZ (.inr rfl) h hv hx hy
 split at h
 . rename_i k m k' n;split at h
   . rename_i hk;subst hk;split at h
     . rename_i mA hf;cases h;exact aja hf hx.mw hy.mw
     . exact W5 h hv hx.mw hy.mw
   . cases h
 . exact ajc h hx.zM hy.zM
 . split at h
   . rename_i k m k' n e1 e2;split at h
     . rename_i hk;subst hk;exact W5 h hv (ji e1 hx) (ji e2 hy)
     . cases h
   . split at h
     . rename_i m n e1 e2;split at h
       . rename_i e3;obtain⟨i,_,hi,hb⟩:=eU aA e3;exact ajg (ajd hb hi) h (Ev e1 hx) (Ev e2 hy)
       . cases h
     . cases h
theorem ajh{a b c av:AV}(h:IV c a b=some av)(hz:ah w ρ base ro c (r z))(hx:ah w ρ base ro a (r x))(hy:ah w ρ base ro b (r y)) :
 ∃ v,(execOp r ⟨d,.pick z x y,ty,pos,aft,gd⟩).run P w = .ok (.value v) w/\ah w ρ base ro av v:=by
 unfold IV at h;split at h
 . rename_i b';cases h;refine⟨_,Oe hz.pH rfl,?_⟩;cases b'
   . exact hy
   . exact hx
 . rename_i c';split at h
   . rename_i p q e1 e2;cases h;refine⟨_,Oe hz.oR rfl,?_⟩;rw [Ev e1 hx,Ev e2 hy];rw [show (if c' ()=true then Value.bool (p ()) else Value.bool (q ()))=Value.bool ((fun _:Unit=>cond (c' ()) (p ()) (q ())) ()) by cases h:c' ()<;>simp];exact .bool _
   . split at h
     . rename_i k p k' q e1 e2;split at h
       . rename_i hk;subst hk;cases h;refine⟨_,Oe hz.oR rfl,?_⟩;rw [ji e1 hx,ji e2 hy];rw [show (if c' ()=true then Value.int k (p ()) else Value.int k (q ()))=Value.int k ((fun _:Unit=>cond (c' ()) (p ()) (q ())) ()) by cases h:c' ()<;>simp];exact .int _ _
       . cases h
     . cases h
 . cases h
end
section
variable{P:Program}{r:Operand->Value}{d:Option Nat}{ty:TypeId}{pos:String}{aft:Array Edge}{gd:Option (Nat×Bool)}{u v:Value}{w:World}
variable{ρ:Nat->Option Rl}{base:Nat}{ro:Nat->Prop}
theorem I5{i:eS}(h:fT P T i=true):∃ j,P.info? T=some j/\j.size=i.sz/\(match j.zero with|some z=>BU i.z z.cells.toList|none=>i.z.isEmpty)=true:=by
 unfold fT at h;simp only [au] at h
 cases hj:P.info? T with
 | none=>rw [hj] at h; simp at h
 | some j =>
  rw [hj] at h;simp only [au,b9] at h;exact⟨j,rfl,h.1.1.1,h.1.1.2⟩
theorem aji{i:eS}(h:fT P T i=true)(ha:i.ti.agg=true):vO P T i.sz:=by
 obtain⟨j,hj,hs,_⟩:=I5 h;obtain⟨ds,hd,hm⟩:=m9 h;refine⟨ds,hd,?_,by rw [hj]; simp [hs]⟩;exact W6
theorem ajj{i:eS}(h:fT P T i=true)(ha:i.ti.agg=false):ur P T=true:=by
 obtain⟨ds,hd,hm⟩:=m9 h;unfold ur;rw [hd];exact W6
theorem aQ.drop{l:List AV}(h:aQ w ρ base ro l vs)(n):aQ w ρ base ro (l.drop n) (vs.drop n) :=
 ⟨by simp [h.1],fun j x v hx hv=>h.2 (n+j) x v (by simpa using hx) (by simpa using hv)⟩
theorem aQ.take{l:List AV}(h:aQ w ρ base ro l vs)(n):aQ w ρ base ro (l.take n) (vs.take n):=by
 refine⟨by simp [h.1],fun j x v hx hv => ?_⟩;rw [eC] at hx hv;split at hx
 . rename_i hj;rw [aw hj] at hv;exact h.2 j x v hx hv
 . cases hx
theorem aQ.append{l m:List AV}(h:aQ w ρ base ro l vs)(h2:aQ w ρ base ro m us):aQ w ρ base ro (l++m) (vs++us):=by
 refine⟨by simp [h.1,h2.1],fun j x v hx hv => ?_⟩;rcases cw j l.length with hj|hj
 . rw [qh hj] at hx;rw [qh (by rw [<- h.1]; exact hj)] at hv;exact h.2 j x v hx hv
 . rw [rq hj] at hx;rw [rq (by rw [<- h.1]; exact hj),<- h.1] at hv;exact h2.2 _ x v hx hv
theorem aQ.set{l:List AV}{x:AV}(h:aQ w ρ base ro l vs)(hv:ah w ρ base ro x v)(n):aQ w ρ base ro (l.set n x) (vs.set n v):=by
 refine⟨by simp [h.1],fun j y u hy hu => ?_⟩;rw [ru] at hy hu;split at hy
 . rename_i hj;rw [aw hj] at hu;split at hy
   . split at hu
     . cases hy; cases hu; exact hv
     . cases hu
   . cases hy
 . rename_i hj;rw [ar hj] at hu;exact h.2 j y u hy hu
theorem OI{b:Nat}{i:eS}{cells:List AV}{av:AV}(ht:fT P T i=true)(hc:∀ (j) u,cs[j]? = some u->w.cell? ⟨b,o+j,none⟩=some u)(hE:aQ w ρ base ro cells cs)(h:cut i.ti.agg off i.sz cells=some av) :
 ∃ v,(loadVar T ⟨b,o+off,none⟩).run P w = .ok v w/\ah w ρ base ro av v:=by
 unfold cut at h
 cases ha:i.ti.agg with
 | true =>
  rw [ha,aw rfl] at h;split at h
  . rename_i hlen;cases h;have hd:=(hE.drop off).take i.sz;refine⟨_,NA (aji ht ha) (cs:=(cs.drop off).take i.sz) (by rw [c6,iH,<- hE.1]; omega) (fun j u hu => ?_),.agg _ _ hd.1 hd.2⟩;rw [eC] at hu;split at hu
    . rw [lM] at hu;rw [Ed,rA];exact hc _ _ hu
    . cases hu
  . cases h
 | false =>
  rw [ha] at h;simp only [dS,dB] at h;obtain⟨v,hv,hr⟩:=hE.get h;exact⟨v,Ok (ajj ht ha) (hc _ _ hv),hr⟩
theorem W7{b:Nat}(h:w.heap[b]? = some (.cells cs.toArray T (0,0))):∀ (j) u,cs[j]? = some u->w.cell? ⟨b,0+j,none⟩=some u:=by
 intro j u hu;rw [hZ,zt w b j _ _ _ h];simpa using hu
theorem ajk(t:Tc):0<t.size:=by cases t<;>decide
theorem ux{fr:Bool}{x:Unit->t.el}(hl:cs.length=t.size)(h:∀ (j:Nat) (y) (v),(aO fr t x)[j]? = some y->cs[j]? = some v->ah w ρ base ro y v):aQ w ρ base ro (aO fr t x) cs :=
 ⟨by rw [Oq,hl],h⟩
theorem W8{ge:Nat->Option En}(cF:∀ loc e,ge loc=some e->c7 w ρ base ro loc e){i:eS}{a av:AV}(ht:fT P T i=true)(h:Em ge i.ti.agg i.sz a=some av)(ha:ah w ρ base ro a u) :
 ∃ ad v,u = .pointer (some ad)/\(loadVar T ad).run P w = .ok v w/\ah w ρ base ro av v:=by
 unfold Em at h;split at h
 . obtain⟨b,o,cs,_,_,hc,hE,rfl⟩:=ha.I3;obtain⟨v,h1,h2⟩:=OI ht hc hE h;exact⟨_,v,rfl,h1,h2⟩
 . rename_i loc off;split at h
   . rename_i T' cells he;obtain⟨b,cs,hb,hh,hE⟩:=cF _ _ he;obtain⟨b',aW,rfl⟩:=ha.xV;rw [hb] at aW;injection aW with aW;injection aW with aW;subst aW;obtain⟨v,h1,h2⟩:=OI ht (W7 hh) hE h;rw [hZ] at h1;exact⟨_,v,rfl,h1,h2⟩
   . cases h
 . rename_i t loc k off;split at h
   . rename_i fr t' T' l he;split at h
     . rename_i htt;subst htt;obtain⟨A,c,css,hA,bC,hlen,du⟩:=cF _ _ he;obtain⟨A',n,c',b,bK,rfl,h0,hn,rfl⟩:=ha.I2;rw [hA] at bK;injection bK with bK;injection bK with e1 e2 e3;subst e1; subst e2; subst e3;have hk:(k ()).toNat<css.length:=oo
       obtain⟨b',o',e,aj,hl,aC⟩:=bC.rd _ _ (bp hk);simp only [bI,Addr.mk.injEq,aS] at e;obtain⟨rfl,rfl⟩:=e;have hE:aQ w ρ base ro (aO fr t fun _=>(l ()).getD (k ()).toNat t.aa) css[(k ()).toNat]:=ux hl fun j y v h1 h2=>du _ _ j y v (bp hk) h1 h2;obtain⟨v,h1,h2⟩:=OI ht (b:=b) (o:=(k ()).toNat*t.size) (fun j u hu=>by have:=aC j u hu; rwa [hZ] at this) hE h;exact⟨_,v,rfl,h1,h2⟩
     . cases h
   . cases h
 . cases h
theorem OJ{a av:AV}{k:Nat}(h:zJ a k=some av)(ha:ah w ρ base ro a u):∃ b o,u = .pointer (some ⟨b,o,none⟩)/\ah w ρ base ro av (.pointer (some ⟨b,o+k,none⟩)):=by
 unfold zJ at h;split at h<;>cases h
 . cases ha with
   | bg _ _ b o cs bB aj hl hc h=>exact⟨b,_,rfl,by rw [rA]; exact .bg _ _ b o cs bB aj hl hc h⟩
 . cases ha with
   | ptr _ _ b h=>exact⟨b,_,rfl,.ptr _ _ b h⟩
 . cases ha with
   | cY _ _ _ _ A n c b h hA h0 hn=>exact⟨b,_,rfl,by rw [rA]; exact .cY _ _ _ _ A n c b h hA h0 hn⟩
theorem W9:∀ {fs:List Field} {l:List (Nat×Nat×Bool)},xR P fs l=true->∀ {k o s:Nat} {a:Bool},l[k]? = some (o,s,a)->∃ f,fs[k]? = some f/\f.offset=o/\(∃ i,P.info? f.type=some i/\i.size=s)/\gF P f.type=a/\∃ ds,P.underlying f.type=some ds
 | f::fs,(o',s',a')::l,h,0,o,s,a,hk=>by
  simp only [oH,bI,rz] at hk;obtain⟨rfl,rfl,rfl⟩:=hk;unfold xR at h;simp only [au,b9] at h;refine⟨f,rfl,h.1.1.1,?_,h.1.2.1,Vk.1 h.1.2.2⟩
  cases hi:P.info? f.type with
  | none=>rw [hi] at h; simp at h
  | some i=>rw [hi] at h; exact⟨i,rfl,by simpa using h.1.1.2⟩
 | f::fs,(o',s',a')::l,h,k+1,o,s,a,hk=>by
  unfold xR at h;simp only [au] at h;obtain⟨g,h1,h2⟩:=W9 h.2 (k:=k) (by simpa using hk);exact⟨g,by simpa using h1,h2⟩
 | [],[],_,k,o,s,a,hk=>by simp at hk
 | [],_::_,h,_,_,_,_,_=>by cases h
 | _::_,[],h,_,_,_,_,_=>by cases h
theorem Xa{s:Nat}{i:eS}(ht:fT P T i=true)(h:fieldAt i f=some (o,s,a)):∃ fs fd,P.underlying T=some (.struct fs)/\fs[f]? = some fd/\fd.offset=o/\(∃ j,P.info? fd.type=some j/\j.size=s)/\gF P fd.type=a/\∃ ds,P.underlying fd.type=some ds:=by
 unfold fieldAt at h;split at h
 . rename_i l hl;obtain⟨ds,hd,hm⟩:=m9 ht;rw [hl] at hm;cases ds<;>first|(simp [jH] at hm; done)|skip
   rename_i fs;obtain⟨fd,h1,h2,h3,h4⟩:=W9 hm h;exact⟨fs,fd,hd,by simpa using h1,h2,h3,h4⟩
 . cases h
theorem Xb{s:Nat}{i:eS}(ht:fT P T i=true)(h:fieldAt i f=some (o,s,a))(hs:(s==0)=false):Iv P T f=some o:=by
 obtain⟨fs,fd,h1,h2,rfl,⟨j,h3,rfl⟩,_⟩:=Xa ht h;have zP:¬ j.size=0:=by simpa using hs
 unfold Iv;simp only [h1,h2,h3,ar zP]
theorem B3{s:Nat}(ha:∃ j,P.info? T=some j/\j.size=s)(hd:∃ ds,P.underlying T=some ds)(hlen:gF P T=true->o+s<=vs.length)(hv:gF P T=false->vs[o]? = some v)(rM:gF P T=true->v = .agg ((vs.drop o).take s).toArray):(part T vs.toArray o).run P w = .ok v w:=by
 exact WJ
theorem ajm{i:eS}{s:Nat}{cells:List AV}{av:AV}(ht:fT P T i=true)(hf:fieldAt i f=some (o,s,a))(hc:cut a o s cells=some av)(hx:ah w ρ base ro (.agg cells) (r x)) :
 ∃ v,(execOp r ⟨d,.field T x f,ty,pos,aft,gd⟩).run P w = .ok (.value v) w/\ah w ρ base ro av v:=by
 obtain⟨fs,fd,h1,h2,rfl,h3,h4,hT⟩:=Xa ht hf;obtain⟨vs,rO,hE⟩:=hx.oS;have cB:∀ v,(part fd.type vs.toArray fd.offset).run P w = .ok v w->(execOp r ⟨d,.field T x f,ty,pos,aft,gd⟩).run P w = .ok (.value v) w:=by
  intro v hv;unfold execOp;simp only [rO,Instr.field,underlying,asAgg,bt,bU,bM,m5,h1,h2,hv]
 unfold cut at hc
 cases hb:a with
 | true =>
  rw [hb,aw rfl] at hc;split at hc
  . rename_i hlen;cases hc;have hd:=(hE.drop fd.offset).take s;exact⟨_,cB _ (B3 h3 hT (fun _=>by rw [<- hE.1]; exact hlen) (fun h=>by rw [h4,hb] at h; cases h) (fun _=>rfl)),.agg _ _ hd.1 hd.2⟩
  . cases hc
 | false =>
  rw [hb] at hc;simp only [dS,dB] at hc;obtain⟨v,hv,hr⟩:=hE.get hc;exact⟨v,cB _ (B3 h3 hT (fun h=>by rw [h4,hb] at h; cases h) (fun _=>hv) (fun h=>by rw [h4,hb] at h; cases h)),hr⟩
end
section
variable{P:Program}{r:Operand->Value}{d:Option Nat}{ty:TypeId}{pos:String}{aft:Array Edge}{gd:Option (Nat×Bool)}{u v:Value}{w:World}
variable{ρ:Nat->Option Rl}{base:Nat}{ro ra:Nat->Prop}
theorem ajn{x:AV}(h:Ow x v=true):ah w ρ base ro x v:=by
 unfold Ow at h;split at h
 . simp only [au,aI,b9] at h;obtain⟨rfl,rfl⟩:=h;exact .lit _ _
 . rw [eq_of_beq h];exact .aG _
 . rename_i s s';have h1:s ()=s':=by
    have h2:=eq_of_beq h
    cases hs:s () with
    | mk a =>
     rw [hs] at h2;cases s';simp only at h2;rw [h2]
   rw [<- h1];exact .str _
 . exact .nil
 . simp only [au,aI,b9] at h;obtain⟨rfl,rfl⟩:=h;exact .int _ _
 . rw [<- eq_of_beq h];exact .bool _
 . rename_i fr t l;have e:Value.slice none 0 0=Value.slice none (l ()).length 0:=by rw [Bl.1 h]; rfl
   rw [e];exact .sl _ _ _ none 0 [] (by rw [Bl.1 h]; rfl) (az _) (Rd.nil _ _ _ _) (fun _ h=>by cases h) (fun _ _ h=>by cases h) (fun k cs j x v h=>by simp at h)
 . exact .un _
 . cases h
theorem OK:∀ {l:List AV} {vs:List Value},BU l vs=true->aQ w ρ base ro l vs
 | [],[],_ => .nil
 | x::l,v::vs,h=>by
  simp only [BU,au] at h;exact .cons (ajn h.1) (OK h.2)
 | [],_::_,h=>by cases h
 | _::_,[],h=>by cases h
theorem Xc(off):∀ (l pre z post:List Value) (k),z.length=l.length->pre.length=off+k->(l.zipIdx k).foldl (fun cs p=>cs.setIfInBounds (off+p.2) p.1) (pre++z++post).toArray=(pre++l++post).toArray
 | [],pre,z,post,k,h,_=>by
  have:z = []:=xp (by simpa using h);subst this;rfl
 | x::l,pre,[],post,k,h,_=>by simp at h
 | x::l,pre,y::z,post,k,h,hp=>by
  have h1:=Xc off l (pre ++ [x]) z post (k+1) (by simpa using h) (by simp; omega);simp only [List.zipIdx_cons,Nr];have e:(pre++y::z++post).toArray.setIfInBounds (off+k) x=(pre ++ [x]++z++post).toArray:=by
   apply xx;rw [<- hp];simp
  rw [e];rw [h1];simp
theorem OL{x:AV}(h:ah w ρ base ro x v)(h1:∀ l,x ≠ .agg l)(h2:x ≠ .un):v.cells = #[v]:=by
 cases h<;>first|rfl|exact absurd rfl h2|exact absurd rfl (h1 _)
theorem OM{rest:List (Nat×Value)}(hp:place i=some (off,vs.length))(hv:v.cells=vs.toArray)(hl:off+vs.length<=cs.length) :
 Instr.fill place cs.toArray ((i,v)::rest)=Instr.fill place (cs.take off++vs++cs.drop (off+vs.length)).toArray rest:=by
 rw [Instr.fill];simp only [hp,hv,xt,ne_eq,vC,tZ,rB,gt_iff_lt,aI];rw [ar oo];have h1:=Xc off vs (cs.take off) ((cs.drop off).take vs.length) (cs.drop (off+vs.length)) 0 (by simp; omega) (by simp; omega);have e:cs.take off++(cs.drop off).take vs.length++cs.drop (off+vs.length)=cs:=by
  exact V6
 rw [e] at h1;rw [<- h1,<- Array.foldl_toList];simp only [Array.toList_zipIdx]
theorem ajo(x)(l:List Value)(n)(h:n<l.length):l.set n x=l.take n ++ [x]++l.drop (n+1):=by
 rw [List.set_eq_take_append_cons_drop,aw h];simp
theorem ON{place:Nat->Option (Nat×Nat)}:∀ {ps:List (Nat×AV)} {qs:List (Nat×Value)} {cells:List AV} {cs:List Value} {out:List AV},aQ w ρ base ro cells cs->ps.map (·.1)=qs.map (·.1)->aQ w ρ base ro (ps.map (·.2)) (qs.map (·.2))->uw place cells ps=some out ->
 ∃ cs',Instr.fill place cs.toArray qs=some cs'.toArray/\aQ w ρ base ro out cs'
 | [],[],cells,cs,out,hE,_,_,h=>by
  simp only [uw,bI] at h;subst h;exact⟨cs,rfl,hE⟩
 | (i,x)::ps,(i',v)::qs,cells,cs,out,hE,hi,hp,h=>by
  simp only [kX,sB] at hi;obtain⟨rfl,hi⟩:=hi;obtain⟨v',us,e,hx,cf⟩:=hp.head;simp only [kX,sB] at e;obtain⟨rfl,rfl⟩:=e;unfold uw at h;split at h
  . cases h
  . rename_i off size cO;split at h
    . rename_i l;split at h
      . rename_i hs;simp only [au,b9,aI] at hs;obtain⟨nU,we⟩:=hs;obtain⟨vs,rfl,hl⟩:=hx.oS;subst nU;obtain⟨cs',h1,h2⟩:=ON (((hE.take off).append hl).append (hE.drop (off+l.length))) hi cf h;refine⟨cs',?_,h2⟩;rw [hl.1] at h1 cO we;rw [OM cO rfl (by rw [<- hE.1]; exact we)];exact h1
      . cases h
    . cases h
    . cases h
    . rename_i D7 hx2 hx3;split at h
      . rename_i hs;simp only [au,b9,aI] at hs;obtain⟨rfl,we⟩:=hs;have hc:=OL hx (fun l e=>D7 l e) hx2;obtain⟨cs',h1,h2⟩:=ON (hE.set hx off) hi cf h;refine⟨cs',?_,h2⟩;have aj:off<cs.length:=by rw [<- hE.1]; omega
        rw [OM (vs := [v]) cO hc (by simp; omega)];rw [ajo _ _ _ aj] at h1;exact h1
      . cases h
 | [],_::_,_,_,_,_,hi,_,_=>by simp at hi
 | _::_,[],_,_,_,_,hi,_,_=>by simp at hi
theorem OO{i:eS}(h:fT P T i=true)(hz:i.z.isEmpty=false):∃ j z,P.info? T=some j/\j.zero=some z/\aQ w ρ base ro i.z z.cells.toList:=by
 obtain⟨j,hj,_,h2⟩:=I5 h
 cases xY:j.zero with
 | none=>rw [xY] at h2; simp only at h2; rw [hz] at h2; cases h2
 | some z=>rw [xY] at h2; exact⟨j,z,hj,xY,OK h2⟩
theorem wg{α:Type}{f : α->AV}{h : α->Value}{l:List α}(hl:∀ x∈l,ah w ρ base ro (f x) (h x)):aQ w ρ base ro (l.map f) (l.map h):=by
 refine⟨by simp,fun j x v hx hv => ?_⟩;rw [gY] at hx hv
 cases hj:l[j]? with
 | none=>rw [hj] at hx; cases hx
 | some y =>
  rw [hj] at hx hv;simp only [dv,bI] at hx hv;subst hx; subst hv;exact hl y (gX hj)
theorem Xd:∀ {fs:List Field} {l:List (Nat×Nat×Bool)},xR P fs l=true->fs.mapM (fun f=>(P.info? f.type).map fun i=>(f.offset,i.size))=some (l.map fun f=>(f.1,f.2.1))
 | [],[],_=>rfl
 | f::fs,(o,s,a)::l,h=>by
  unfold xR at h;simp only [au,b9] at h;have h1:=Xd h.2;have h2:=h.1.1.2
  cases hi:P.info? f.type with
  | none=>rw [hi] at h2; simp at h2
  | some i =>
   rw [hi] at h2;simp only [b9] at h2;simp [List.mapM_cons,hi,h1,h.1.1.1,h2]
 | [],_::_,h=>by cases h
 | _::_,[],h=>by cases h
theorem Xe{g:Operand->AV}{parts:Array (Nat×Operand)}{i:eS}{av:AV}{out:List AV}(ht:fT P T i=true)(hg:∀ p∈parts.toList,ah w ρ base ro (g p.2) (r p.2))(hz:i.z.isEmpty=false)(cO:(∃ fs,i.ti = .struct fs/\place=fun k=>fs[k]?.map fun f=>(f.1,f.2.1))\/∃ n e dP a,i.ti = .array n e dP a/\place=fun k=>some (k*dP,dP))(h:uw place i.z (parts.toList.map fun p=>(p.1,g p.2))=some out)(er:av = .agg out) :
 ∃ v,(execOp r ⟨d,.build T parts,ty,pos,aft,gd⟩).run P w = .ok (.value v) w/\ah w ρ base ro av v:=by
 subst er;obtain⟨j,z,hj,xY,hE⟩:=OO (w:=w) (ρ := ρ) (base:=base) (ro:=ro) ht hz;obtain⟨cs',h1,h2⟩:=ON (qs:=parts.toList.map fun p=>(p.1,r p.2)) hE (by simp) (by simp only [DO]; exact wg hg) h;have hb:P.built T (parts.map fun (i,x)=>(i,r x)).toList=some cs'.toArray:=by
  obtain⟨ds,hd,hm⟩:=m9 ht;have e:(parts.map fun (i,x)=>(i,r x)).toList=parts.toList.map fun p=>(p.1,r p.2):=by simp
  rw [e];rcases cO with ⟨fs,zQ,rfl⟩|⟨n,e',dP,a,zQ,rfl⟩
  . rw [zQ] at hm;cases ds<;>first|(simp [jH] at hm; done)|skip
    rename_i fields;have pJ:xR P fields.toList fs=true:=hm;unfold Program.built;simp only [hj,hd,xY,Xd pJ];rw [<- h1];congr 1;funext k;simp
  . rw [zQ] at hm;cases ds<;>first|(simp [jH] at hm; done)|skip
    rename_i n' e'';simp only [jH,au,b9] at hm;obtain⟨⟨⟨_,he⟩,hi⟩,_⟩:=hm
    cases zR:P.info? e'' with
    | none=>rw [zR] at hi; simp at hi
    | some ie =>
     rw [zR] at hi;simp only [b9] at hi;unfold Program.built;simp only [hj,hd,xY,zR,hi];exact h1
 refine⟨.agg cs'.toArray,?_,.agg _ _ h2.1 h2.2⟩;unfold execOp;simp only [bt,run_build w T _ _ hb,bM,bU]
theorem I6{b:Nat}{i:eS}(ht:fT P T i=true)(hi:i.ti = .slice e sz b):elemOf P T=some (e,sz):=by
 obtain⟨ds,hd,hm⟩:=m9 ht;rw [hi] at hm;cases ds<;>first|(simp [jH] at hm; done)|skip
 rename_i e';simp only [jH,au,b9] at hm;obtain⟨⟨he,_⟩,h3⟩:=hm;unfold elemOf;rw [hd];subst he
 cases hj:P.info? e' with
 | none=>rw [hj] at h3; simp at h3
 | some j =>
  rw [hj] at h3;simp only [au,b9] at h3;simp [hj,h3.1.1]
theorem OP{b:Nat}{i:eS}{fr:Bool}{l:Unit->List t.el}{k:Unit->Int}(ht:fT P T i=true)(hi:i.ti = .slice e sz b)(hs:t.size=sz)(hx:ah w ρ base ro (.sl fr t l) (r x))(hy:r y = .int kk (k ()))(hk:0<=k ()/\k ()<(l ()).length) :
 ∃ v,(∀ w',(execOp r ⟨d,.indexAddr T x y,ty,pos,aft,gd⟩).run P w' = .ok (.value v) w')/\ah w ρ base ro (.bg (aO fr t fun _=>(l ()).getD (k ()).toNat t.aa) 0) v:=by
 obtain⟨A,c,css,hl,hc,hr,bB,_,du,hv⟩:=hx.pI;have jJ:(k ()).toNat<css.length:=oo
 obtain⟨b',o,hA,aj,hlen,aC⟩:=hr _ _ (bp jJ);have aT:css ≠ []:=by intro h; rw [h] at jJ; simp at jJ
 have hE:=ux hlen fun j y v h1 h2=>du _ _ j y v (bp jJ) h1 h2;subst hs;rw [hA] at hv;have e:(((k ()).toNat:Nat):Int)=k ():=oo
 refine⟨_,fun w'=>Od hv (by rw [hy,e]) (I6 ht hi) (by rw [e]; exact hk.2) rfl,?_⟩;exact .bg _ 0 b' (o+(k ()).toNat*t.size) _ (bB _ hA aT) aj hE.1 aC hE.2
theorem ajr{ge:Nat->Option En}(cF:∀ loc e,ge loc=some e->c7 w ρ base ro loc e){b T':Nat}{i:eS}{fr:Bool}{l:Unit->List t.el}{k:Unit->Int}(ht:fT P T i=true)(hi:i.ti = .slice e sz b)(hs:t.size=sz)(he:ge loc=some (.row fr t T' l))(hx:ah w ρ base ro (.own loc) (r x))(hy:r y = .int kk (k ()))(hk:0<=k ()/\k ()<(l ()).length) :
 ∃ v,(∀ w',(execOp r ⟨d,.indexAddr T x y,ty,pos,aft,gd⟩).run P w' = .ok (.value v) w')/\ah w ρ base ro (.cY t loc k 0) v:=by
 obtain⟨A,c,css,hA,bC,hlen,du⟩:=cF _ _ he;obtain⟨A',n,c',bK,hv⟩:=hx.sQ;rw [hA] at bK;injection bK with bK;injection bK with e1 e2 e3;subst e1; subst e2; subst e3;have jJ:(k ()).toNat<css.length:=oo
 rcases bC.block with ⟨_,_,h0⟩|⟨g,cur,rfl,_,_,_⟩
 . rw [h0] at jJ; simp at jJ
 . subst hs;have e:(((k ()).toNat:Nat):Int)=k ():=oo
   refine⟨_,fun w'=>Od hv (by rw [hy,e]) (I6 ht hi) (by rw [e]; exact hk.2) rfl,?_⟩;rw [hZ];exact .cY t loc k 0 _ _ _ g hA rfl hk.1 hk.2
theorem Xf{ge:Nat->Option En}(cF:∀ loc e,ge loc=some e->c7 w ρ base ro loc e){b:Nat}{i:eS}{z av:AV}{vcs:List VC}{k:Unit->Int}(ht:fT P T i=true)(hi:i.ti = .slice e sz b)(h:OE ge sz k z=some (av,vcs))(hx:ah w ρ base ro z (r x))(hy:r y = .int kk (k ()))(hv:∀ c∈vcs,c ()) :
 ∃ v,(∀ w',(execOp r ⟨d,.indexAddr T x y,ty,pos,aft,gd⟩).run P w' = .ok (.value v) w')/\ah w ρ base ro av v:=by
 unfold OE at h;split at h
 . split at h
   . rename_i fr t T' l he;split at h
     . rename_i hs;cases h;exact ajr cF ht hi (eq_of_beq hs) he hx hy (hv _ (.head _))
     . cases h
   . cases h
 . rename_i t loc a b';split at h
   . rename_i fr t' T' l he;split at h
     . rename_i hs;cases h;obtain⟨rfl,rfl⟩:=hs;have hk:0<=k ()/\k ()<((b' () - a ():Nat):Int):=hv _ (.head _);obtain⟨A,c,css,hA,bC,hlen,du⟩:=cF _ _ he;obtain⟨A',n,c',bK,bm,uy,hq⟩:=hx.xW;rw [hA] at bK;injection bK with bK;injection bK with e1 e2 e3;subst e1; subst e2; subst e3;have N4:=bC.cap.1;rcases bC.block with ⟨_,_,h0⟩|⟨g,cur,rfl,_,_,_⟩
       . rw [h0] at hlen;simp only [fE] at hlen;omega
       have e:(((k ()).toNat:Nat):Int)=k ():=oo
       have pK:r x = .slice (some ⟨g,a ()*t.size,none⟩) (b' () - a ()) (c - a ()):=by
        rw [hq];unfold sliced;rw [ar oo,dv,sE,hZ]
       refine⟨_,fun w'=>Od pK (by rw [hy,e]) (I6 ht hi) (by rw [e]; exact hk.2) rfl,?_⟩;have e2:((a ():Int)+k ()).toNat=a ()+(k ()).toNat:=oo
       have h7:ah w ρ base ro (.cY t loc (fun _=>(a ():Int)+k ()) 0) (.pointer (some ⟨g,((a ():Int)+k ()).toNat*t.size+0,none⟩)) := .cY t loc _ 0 _ _ _ g hA rfl (show 0<=(a ():Int)+k () from oo) (show (a ():Int)+k ()<_ from oo);rw [e2,xw,kY] at h7;exact h7
     . cases h
   . cases h
 . cases h
/- cells of xP is not called new -/
def AV.loose:AV->AV
 | .sl _ t l => .sl false t l
 | .wide _ t l n => .wide false t l n
 | x=>x
theorem B4(fr)(t)(x):aO false t x=(aO fr t x).map AV.loose:=by cases t<;>rfl
theorem ah.uz{x:AV}(h:ah w ρ base ro x v):ah w ρ base ro x.loose v:=by
 induction h with
 | sl fr t l A c css hl hc hr bB cK h ih =>
  refine .sl false t l A c css hl hc hr bB (fun h=>by cases h) fun k cs j x v h1 h2 h3 => ?_;rw [B4 fr,gY] at h2
  cases hj:(aO fr t fun _=>(l ()).getD k t.aa)[j]? with
  | none=>rw [hj] at h2; cases h2
  | some y =>
   rw [hj] at h2;simp only [dv,bI] at h2;subst h2;exact ih k cs j y v h1 hj h3
 | un=>exact .un _
 | fJ=>exact .fJ _
 | int=>exact .int _ _
 | lit=>exact .lit _ _
 | bool=>exact .bool _
 | aG=>exact .aG _
 | str=>exact .str _
 | nil=>exact .nil
 | wide fr t l n A c hn h ih=>exact .wide false t l n A c hn ih
 | bg cells off b o cs bB aj hl hc h _=>exact .bg cells off b o cs bB aj hl hc h
 | ptr loc off b h=>exact .ptr _ _ _ h
 | fw loc off n b h=>exact .fw _ _ _ _ h
 | own loc A n c h=>exact .own _ _ _ _ h
 | cY t loc k off A n c b h hA h0 hn=>exact .cY _ _ _ _ _ _ _ _ h hA h0 hn
 | cE t loc a b A n c h bm=>exact .cE _ _ _ _ _ _ _ h bm
 | mp l b h=>exact .mp _ _ h
 | bq l s h=>exact .bq _ _ h
 | it l l2 b h=>exact .it _ _ _ h
 | agg l vs hl h _=>exact .agg _ _ hl h
 | aU l vs hl h _=>exact .aU _ _ hl h
 | fn f dw vs hl h _=>exact .fn _ _ _ hl h
end
end Go.Proofs.YtlpikgchnjajmaaGreat
