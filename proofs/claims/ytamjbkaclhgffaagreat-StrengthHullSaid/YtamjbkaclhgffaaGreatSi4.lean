/-
  The abstract run: types, entries, contracts of calls, what operations give that neither store nor make a place of the run's own.
-/
import Derived.Test.YtamjbkaclhgffaaGreatSi3
set_option linter.all false
namespace Go.Proofs.YtamjbkaclhgffaaGreat
open Go.RowKit
variable{op:BinOp}{a fr g:Bool}{cs us vs:List Value}{T b' f l2 loc o off:Nat}{x y z:Operand}{t t':TypeId}{b:Unit->Bool}{n:Unit->Int}
def aj{α:Type}:List (Nat × α)->Nat->Option α
 | [],_=>none
 | (k,v)::l,d=>if k==d then some v else aj l d
inductive TI where
 | int (k:IntKind)|X1|bool|str|other
 | slice (e dK azt:Nat)
 | struct (fs:List (Nat×Nat×Bool))
 | array (n e dK:Nat) (agg:Bool)
 | map (k e:Nat) (c:Kc) (t:Tc) (agg:Bool)
structure eH where
 sz:Nat
 ti:TI
 z:List AV
 eq:List Lk := []
def TI.agg:TI->Bool
 | .struct _=>true
 | .array _ _ _ _=>true
 | _=>false
abbrev j9:=List (Nat×eH)
def O6:AV->Value->Bool
 | .lit k n,.int k' n'=>decide (k=k')&&n==n'
 | .aR b,.bool b'=>b==b'
 | .str s,.string s'=>(s ()).data==s'.data
 | .nil,.slice none 0 0=>true
 | .int k n,.int k' n'=>decide (k=k')&&n ()==n'
 | .bool b,.bool b'=>b ()==b'
 | .sl _ _ l,.slice none 0 0=>(l ()).isEmpty
 | .un,_=>true
 | _,_=>false
def Cz:List AV->List Value->Bool
 | [],[]=>true
 | x::l,v::vs=>O6 x v&&Cz l vs
 | _,_=>false
def xZ(P:Program):List Field->List (Nat×Nat×Bool)->Bool
 | [],[]=>true
 | f::fs,(o,s,a)::l=>f.offset==o&&(match P.info? f.type with|some i=>i.size==s|none=>false)&&(gI P f.type==a&&(P.underlying f.type).isSome)&&xZ P fs l
 | _,_=>false
def O7(ag:Bool):Value->Bool
 | .agg _=>ag
 | .tuple _=>false
 | _ => !ag
def jH(P:Program):TypeDesc->TI->Bool
 | .int k,.int k'=>decide (k=k')
 | .int k,.X1=>decide (k = .i64)
 | .bool,.bool=>true
 | .string,.str=>true
 | .slice e,.slice e' sz b=>e==e'&&(decide (0<sz)&&decide (0<b))&&(match P.info? e with|some j=>j.size==sz&&j.bytes==b&&(match j.zero with|some z=>z.cells.size==sz|none=>false)|none=>false)
 | .struct fs,.struct l=>xZ P fs.toList l
 | .array n e,.array n' e' sz a=>n==n'&&e==e'&&(match P.info? e with|some j=>j.size==sz|none=>false)&&(gI P e==a&&(P.underlying e).isSome)
 | .map k e,.map k' e' c t a=>k==k'&&e==e'&&(uE P k c&&gI P e==a)&&(a||t.size==1)&&(match P.info? e with|some j=>(match j.zero with|some z=>Cz (aP true t fun _=>t.aa) z.cells.toList&&O7 a z|none=>false)|none=>false)
 | .struct _,_=>false
 | .array _ _,_=>false
 | _,.other=>true
 | _,_=>false
def X2(P:Program)(T:TypeId)(ls:List Lk):Bool:=ls.isEmpty||gI P T&&EW P 20 T ls && !P.eqGuardType P.depth T
def fV(P:Program)(T:TypeId)(i:eH):Bool :=
 ((match P.info? T with
 | some j=>j.size==i.sz&&match j.zero with|some z=>Cz i.z z.cells.toList|none=>i.z.isEmpty
 | none=>false) &&
 match P.underlying T with
 | some ds=>jH P ds i.ti
 | none=>false)&&X2 P T i.eq
def cT(P:Program)(ty:j9):Prop:=∀ T i,aj ty T=some i->fV P T i=true
inductive En where
 | box (T:TypeId) (cells:List AV)
 | row (fr:Bool) (t:Tc) (T:TypeId) (l:Unit->List t.el)
 | map (fr ag:Bool) (c:Kc) (t:Tc) (T:TypeId) (m:Unit->List Kx->Option t.el)
 | iter (ml:Nat) (c:Kc) (seen:Unit->List (List Kx)) (left:Unit->Nat)
 | bo (ml:Nat) (c:Kc) (key:Unit->List Kx)
 | ft (k:Unit->Nat)
 | dead
def lM(w:World)(ρ:Nat->Option Rl)(base:Nat)(ro:Nat->Prop)(fr ag:Bool)(c:Kc)(t:Tc)(m:List Kx->Option t.el)(es:Array MapEntry):Prop :=
 (∀ e∈es.toList,∃ key x,gH c e.key key/\m key=some x/\af w ρ base ro (eo ag fr t fun _=>x) e.val)/\∀ key x,dC c.ls key=true->m key=some x->∃ e∈es.toList,gH c e.key key
def rb(fr:Bool)(base:Nat):Nat:=cond fr base 0
theorem Js(fr)(base):rb fr base<=base:=by cases fr<;>simp [rb]
theorem akP(f g)(base):rb (f&&g) base<=rb f base:=by cases f<;>cases g<;>simp [rb]
theorem akQ{f:Bool}(base)(h:g=true->f=true):rb g base<=rb f base:=by cases f<;>cases g<;>simp_all [rb]
theorem akR{b:Nat}(fr)(h:b'<=b):rb fr b'<=rb fr b:=by cases fr<;>simp [rb,h]
def c9(w:World)(ρ:Nat->Option Rl)(base:Nat)(ro:Nat->Prop)(loc:Nat):En->Prop
 | .box T cells=>∃ b,∃ cs:List Value,ρ loc=some (.box b)/\w.heap[b]? = some (.cells cs.toArray T (0,0))/\aV w ρ base ro cells cs
 | .row fr t T l=>∃ A c,∃ css:List (List Value),ρ loc=some (.row A (l ()).length c)/\cw w (rb fr base) T t.size A c css/\css.length=(l ()).length /\
  ∀ (k:Nat) (cs:List Value) (j:Nat) (x:AV) (v:Value),css[k]? = some cs->(aP fr t fun _=>(l ()).getD k t.aa)[j]? = some x->cs[j]? = some v->af w ρ base ro x v
 | .map fr ag c t _ m=>∃ b es clock,ρ loc=some (.mp b)/\w.heap[b]? = some (.map es clock)/\MapKept.Stamped es clock/\lM w ρ base ro fr ag c t (m ()) es
 | .iter ml c seen left=>∃ b b2 es clock since stamps c0,ρ loc=some (.it b2) /\ ρ ml=some (.mp b)/\w.heap[b]? = some (.map es clock)/\w.heap[b2]? = some (.mapIter (some b) since stamps c0)/\(∀ e∈es.toList,e.born<since)/\(since<=c0/\c0<=clock)/\left ()=(Go.leftOf es stamps).size/\(∀ e∈es.toList,stamps.contains e.born=true↔∃ key∈seen (),gH c e.key key)/\∀ key r,seen ()=key::r->c0=clock/\∃ e∈es.toList,stamps.back? = some e.born/\gH c e.key key
 | .bo ml c key=>∃ b es clock s e,ρ loc=some (.bo s) /\ ρ ml=some (.mp b)/\w.heap[b]? = some (.map es clock)/\e∈es.toList/\gH c e.key (key ())/\e.born=s
 | .ft k => ρ loc=some (.bo (k ()))
 | .dead=>∃ r,ρ loc=some r
abbrev VC:=Unit->Prop
inductive Sg where
 | int (k:IntKind)|bool|str|sl (t:Tc)|any
 | wide (t:Tc)
 | agg (l:List Sg)
 | bh (l:List Sg)
 | fn (l:List Sg)
 | zS (t:Tc)
 | E0 (t:Tc)
 | akS (c:Kc) (t:Tc)
 | akT (l:List Sg)
def O8(t t':Tc)(l:Unit->List t.el)(n:Unit->Nat):Option AV:=match EU t t' with
 | some f=>some (.sl false t' fun _=>((l ()).take (n ())).map f)
 | none=>none
mutual
def coerce(ge:Nat->Option En):Sg->AV->Option AV
 | .int k,.int k' n=>if k=k' then some (.int k n) else none
 | .int k,.lit k' n=>if k=k' then some (.int k fun _=>n) else none
 | .bool,.bool b=>some (.bool b)
 | .bool,.aR b=>some (.bool fun _=>b)
 | .str,.str s=>some (.str s)
 | .sl t,.sl _ t' l=>if t=t' then some (.sl false t' l) else none
 | .sl t,.nil=>some (.sl false t fun _ => [])
 | .sl t,.wide _ t' l n=>if t=t' then some (.sl false t' fun _=>(l ()).take (n ())) else O8 t' t l n
 | .wide t,.wide _ t' l n=>if t=t' then some (.wide false t' l n) else none
 | .sl t,.own loc=>match ge loc with
  | some (.row _ t' _ l)=>if t=t' then some (.sl false t' l) else none
  | _=>none
 | .sl t,.cG t2 loc a b=>match ge loc with
  | some (.row _ t' _ l)=>if t=t'/\t2=t' then some (.sl false t' fun _=>((l ()).take (b ())).drop (a ())) else none
  | _=>none
 | .agg l,.agg cs=>(pB ge l cs).map .agg
 | .bh l,.bh cs 0=>(pB ge l cs).map fun cs' => .bh cs' 0
 | .bh l,.ptr loc 0=>match ge loc with
  | some (.box _ cs)=>(pB ge l cs).map fun cs' => .bh cs' 0
  | _=>none
 | .fn l,.fn f cs=>(pB ge l cs).map fun cs' => .fn f cs'
 | .any,_=>some .un
 | _,_=>none
def pB(ge:Nat->Option En):List Sg->List AV->Option (List AV)
 | [],[]=>some []
 | s::ss,x::xs=>match coerce ge s x,pB ge ss xs with
  | some y,some ys=>some (y::ys)
  | _,_=>none
 | _,_=>none
end
structure x7 where
 pre:Unit->Prop
 av:AV
structure aN where
 f:FuncId
 sig:List Sg
 go:List AV->Option x7
def Jt:List aN->FuncId->Option aN
 | [],_=>none
 | c::cs,f=>if c.f==f then some c else Jt cs f
def aU(P:Program)(c:aN):Prop :=
 (∀ args w,(callFunc c.f args).run P w = .ok (.enter c.f args) w) /\
 ∀ ai res,c.go ai=some res->∀ (w) (ra) (dM),(∀ b,ra b->b<w.heap.size)->aV w (fun _=>none) 0 ra ai dM->res.pre () ->
  Calls P c.f dM.toArray w fun e w'=>∃ v,e = .returned v/\cW w w'/\af w' (fun _=>none) w.heap.size (fun b=>ra b\/w.heap.size<=b) res.av v
structure Ju where
 pre:Unit->Prop
 n:Unit->Nat
 el:(Unit->Nat)->List AV
structure It where
 f:FuncId
 sig:List Sg
 go:List AV->Option Ju
structure Yl where
 l:Unit->Nat
 n:Unit->Nat
 el:(Unit->Nat)->List AV
def Jv:List It->FuncId->Option It
 | [],_=>none
 | c::cs,f=>if c.f==f then some c else Jv cs f
def O9:Value->AV
 | .int k n => .lit k n
 | .bool b => .aR b
 | .string s => .str fun _=>s
 | .slice none 0 0 => .nil
 | _ => .un
def AV.asInt:AV->Option (IntKind×(Unit->Int))
 | .int k n=>some (k,n)
 | .lit k n=>some (k,fun _=>n)
 | _=>none
def AV.asBool:AV->Option (Unit->Bool)
 | .bool b=>some b
 | .aR b=>some fun _=>b
 | _=>none
def bq(n:Int):Prop := -9223372036854775808<=n/\n<=9223372036854775807
def te(op:BinOp)(k:IntKind)(a b:Int):Int:=match op with
 | .and=>k.wrap (BitVec.ofInt k.bits a &&& BitVec.ofInt k.bits b).toNat
 | .or=>k.wrap (BitVec.ofInt k.bits a ||| BitVec.ofInt k.bits b).toNat
 | .xor=>k.wrap (BitVec.ofInt k.bits a ^^^ BitVec.ofInt k.bits b).toNat
 | _=>k.wrap (BitVec.ofInt k.bits a &&& ~~~BitVec.ofInt k.bits b).toNat
def lN(op:BinOp)(k:IntKind)(a b:Int):Int:=match op with
 | .shl=>k.wrap (a*2^min b.toNat k.bits)
 | _=>a.fdiv (2^min b.toNat k.bits)
def arith(op:BinOp)(k:IntKind)(a b:Unit->Int):Option (AV×List VC) :=
 match op with
 | .add=>if k = .i64 then some (.int k fun _=>a ()+b (),[fun _=>bq (a ()+b ())]) else some (.int k fun _=>k.wrap (a ()+b ()),[])
 | .sub=>if k = .i64 then some (.int k fun _=>a () - b (),[fun _=>bq (a () - b ())]) else some (.int k fun _=>k.wrap (a () - b ()),[])
 | .mul=>if k = .i64 then some (.int k fun _=>a ()*b (),[fun _=>bq (a ()*b ())]) else some (.int k fun _=>k.wrap (a ()*b ()),[])
 | .quo=>some (.int k fun _=>k.wrap ((a ()).tdiv (b ())),[fun _=>b ()≠0])
 | .rem=>some (.int k fun _=>(a ()).tmod (b ()),[fun _=>b ()≠0])
 | .eql=>some (.bool fun _=>decide (a ()=b ()),[])
 | .neq=>some (.bool fun _ => !decide (a ()=b ()),[])
 | .lss=>some (.bool fun _=>decide (a ()<b ()),[])
 | .leq=>some (.bool fun _=>decide (a ()<=b ()),[])
 | .gtr=>some (.bool fun _=>decide (b ()<a ()),[])
 | .geq=>some (.bool fun _=>decide (b ()<=a ()),[])
 | .and=>some (.int k fun _=>te .and k (a ()) (b ()),[])
 | .or=>some (.int k fun _=>te .or k (a ()) (b ()),[])
 | .xor=>some (.int k fun _=>te .xor k (a ()) (b ()),[])
 | .andNot=>some (.int k fun _=>te .andNot k (a ()) (b ()),[])
 | _=>none
def Pa(op:BinOp)(k:IntKind)(a b:Unit->Int):Option (AV×List VC) :=
 match op with
 | .add=>some (.int k fun _=>k.wrap (a ()+b ()),[])
 | .sub=>some (.int k fun _=>k.wrap (a () - b ()),[])
 | .mul=>some (.int k fun _=>k.wrap (a ()*b ()),[])
 | op=>arith op k a b
def CA(ti:Option TI)(op:BinOp)(k:IntKind)(a b:Unit->Int):Option (AV×List VC) :=
 match ti with
 | some .X1=>Pa op k a b
 | _=>arith op k a b
def fold(op:BinOp)(k:IntKind)(m n:Int):Option AV :=
 match op with
 | .add=>some (.lit k (k.wrap (m+n)))
 | .sub=>some (.lit k (k.wrap (m - n)))
 | .mul=>some (.lit k (k.wrap (m*n)))
 | .quo=>if n=0 then none else some (.lit k (k.wrap (m.tdiv n)))
 | .rem=>if n=0 then none else some (.lit k (m.tmod n))
 | .eql=>some (.aR (m==n))
 | .neq=>some (.aR (m != n))
 | .lss=>some (.aR (decide (m<n)))
 | .leq=>some (.aR (decide (m<=n)))
 | .gtr=>some (.aR (decide (m>n)))
 | .geq=>some (.aR (decide (m≥n)))
 | _=>none
def Jw(op:BinOp)(a b:Unit->ByteArray):Option (AV×List VC) :=
 match op with
 | .eql=>some (.bool fun _=>decide (a ()=b ()),[])
 | .neq=>some (.bool fun _ => !decide (a ()=b ()),[])
 | _=>none
def Jy(op:BinOp)(a b:Unit->Bool):Option (AV×List VC) :=
 match op with
 | .eql=>some (.bool fun _=>a ()==b (),[])
 | .neq=>some (.bool fun _=>a () != b (),[])
 | _=>none
def CB(op:BinOp)(x y:AV):Option (AV×List VC):=match x.asInt,y.asInt with
 | some (k,a),some (_,b)=>some (.int k fun _=>lN op k (a ()) (b ()),[fun _=>0<=b ()])
 | _,_=>none
def zT(ti:Option TI)(op:BinOp)(x y:AV):Option (AV×List VC) :=
 match op with
 | .shl=>CB .shl x y
 | .shr=>CB .shr x y
 | op=>match x,y with
 | .lit k m,.lit k' n=>if k=k' then match fold op k m n with
  | some r=>some (r,[])
  | none=>CA ti op k (fun _=>m) fun _=>n else none
 | .str a,.str b=>Jw op a b
 | x,y=>match x.asInt,y.asInt with
  | some (k,a),some (k',b)=>if k=k' then CA ti op k a b else none
  | _,_=>match x.asBool,y.asBool with
   | some a,some b=>match ti with
    | some .bool=>Jy op a b
    | _=>none
   | _,_=>none
def Jz(c x y:AV):Option AV :=
 match c with
 | .aR b=>some (if b then x else y)
 | .bool c=>match x.asBool,y.asBool with
  | some a,some b=>some (.bool fun _=>cond (c ()) (a ()) (b ()))
  | _,_=>match x.asInt,y.asInt with
   | some (k,a),some (k',b)=>if k=k' then some (.int k fun _=>cond (c ()) (a ()) (b ())) else none
   | _,_=>none
 | _=>none
def cut(agg:Bool)(off n:Nat)(cells:List AV):Option AV :=
 if agg then if off+n<=cells.length then some (.agg ((cells.drop off).take n)) else none else cells[off]?
def fu(ty:j9)(T:Nat):Option TI:=(aj ty T).map fun i=>i.ti
def fieldAt(i:eH)(f:Nat):Option (Nat×Nat×Bool) :=
 match i.ti with
 | .struct fs=>fs[f]?
 | _=>none
def uG(place:Nat->Option (Nat×Nat))(cells:List AV):List (Nat×AV)->Option (List AV)
 | []=>some cells
 | (i,x)::rest=>match place i with
  | none=>none
  | some (off,size)=>match x with
   | .agg cs=>if cs.length==size&&decide (off+size<=cells.length) then uG place (cells.take off++cs++cells.drop (off+size)) rest else none
   | .un=>none
   | .ba _=>none
   | x=>if size==1&&decide (off+1<=cells.length) then uG place (cells.set off x) rest else none
def x8(i:Unit->Int)(n:Unit->Int):List VC := [fun _=>0<=i ()/\i ()<n ()]
def E3(ge:Nat->Option En)(agg:Bool)(n:Nat):AV->Option AV
 | .bh cells off=>cut agg off n cells
 | .ptr loc off=>match ge loc with
  | some (.box _ cells)=>cut agg off n cells
  | _=>none
 | .cZ t loc k off=>match ge loc with
  | some (.row fr t' _ l)=>if t=t' then cut agg off n (aP fr t' fun _=>(l ()).getD (k ()).toNat t'.aa) else none
  | _=>none
 | _=>none
def zU:AV->Nat->Option AV
 | .bh cells off,k=>some (.bh cells (off+k))
 | .ptr loc off,k=>some (.ptr loc (off+k))
 | .cZ t loc i off,k=>some (.cZ t loc i (off+k))
 | _,_=>none
def E4(ge:Nat->Option En):AV->Option AV
 | .nil=>some (.lit .i64 0)
 | .sl _ _ l=>some (.int .i64 fun _=>((l ()).length:Int))
 | .wide _ _ _ n=>some (.int .i64 fun _=>(n ():Int))
 | .own loc=>match ge loc with
  | some (.row _ _ _ l)=>some (.int .i64 fun _=>((l ()).length:Int))
  | _=>none
 | .cG _ _ a b=>some (.int .i64 fun _=>((b () - a ():Nat):Int))
 | .str s=>some (.int .i64 fun _=>((s ()).size:Int))
 | _=>none
/- keys of maps -/
def E5:Lk->AV->Option (Unit->Kx)
 | .int k,.int k' n=>if k=k' then some fun _ => .i k (n ()) else none
 | .int k,.lit k' n=>if k=k' then some fun _ => .i k n else none
 | .bool,.bool b=>some fun _ => .f (b ())
 | .bool,.aR b=>some fun _ => .f b
 | .str,.str s=>some fun _ => .s (s ())
 | _,_=>none
def wi:List Lk->List AV->Option (Unit->List Kx)
 | [],[]=>some fun _ => []
 | l::ls,x::xs=>match E5 l x,wi ls xs with
  | some a,some b=>some fun _=>a ()::b ()
  | _,_=>none
 | _,_=>none
def x9(c:Kc)(x:AV):Option (Unit->List Kx):=match c with
 | .one l=>(E5 l x).map fun a=>fun _ => [a ()]
 | .arr n l=>match x with
  | .agg cs=>wi (List.replicate n l) cs
  | _=>none
 | .st ls=>match x with
  | .agg cs=>wi ls cs
  | _=>none
def Kx.num:Kx->Int
 | .i _ n=>n
 | _=>0
def Kx.flag:Kx->Bool
 | .f p=>p
 | _=>false
def Kx.X3:Kx->ByteArray
 | .s x=>x
 | _=>j3
def JA:Lk->(Unit->Kx)->AV
 | .int k,x => .int k fun _=>(x ()).num
 | .bool,x => .bool fun _=>(x ()).flag
 | .str,x => .str fun _=>(x ()).X3
def JB:List Lk->Nat->(Unit->List Kx)->List AV
 | [],_,_ => []
 | l::ls,n,k=>JA l (fun _=>(k ()).getD n (.i .i64 0))::JB ls (n+1) k
def JC(c:Kc)(k:Unit->List Kx):AV:=match c with
 | .one l=>JA l fun _=>(k ()).getD 0 (.i .i64 0)
 | .arr n l => .agg (JB (List.replicate n l) 0 k)
 | .st ls => .agg (JB ls 0 k)
def JD(ag fr:Bool)(t:Tc)(x:Unit->Option t.el)(ok:Bool):AV :=
 if ok then .ba [eo ag fr t fun _=>(x ()).getD t.aa,.bool fun _=>(x ()).isSome] else eo ag fr t fun _=>(x ()).getD t.aa
def E6(i:Option eH)(op:BinOp)(x y:AV):Option (AV×List VC):=match x,y with
 | .agg cs,.agg ds=>match i with
  | some i=>if i.eq.isEmpty then none else match wi i.eq cs,wi i.eq ds with
   | some a,some b=>match op with
    | .eql=>some (.bool fun _=>decide (a ()=b ()),[])
    | .neq=>some (.bool fun _ => !decide (a ()=b ()),[])
    | _=>none
   | _,_=>none
  | none=>none
 | x,y=>zT (i.map fun i=>i.ti) op x y
def pC(g:Operand->AV)(d:Unit->Int):Option Operand->Option (Unit->Int)
 | none=>some d
 | some o=>(g o).asInt.map fun p=>p.2
/- one of some values,as an index akU -/
def zV(kk:IntKind)(k:Unit->Int):Nat->List AV->Option (Unit->Int)
 | _,[]=>none
 | j,x::l=>match x.asInt with
  | some (k',a)=>if k'=kk then (match l with
   | []=>some a
   | _=>(zV kk k (j+1) l).map fun f=>fun _=>cond (decide (k ()=(j:Int))) (a ()) (f ())) else none
  | none=>none
def zW(k:Unit->Int):Nat->List AV->Option (Unit->Bool)
 | _,[]=>none
 | j,x::l=>match x.asBool with
  | some a=>match l with
   | []=>some a
   | _=>(zW k (j+1) l).map fun f=>fun _=>cond (decide (k ()=(j:Int))) (a ()) (f ())
  | none=>none
def E7(k:Unit->Int)(l:List AV):Option AV:=match l with
 | .int kk _::_=>(zV kk k 0 l).map (.int kk)
 | .lit kk _::_=>(zV kk k 0 l).map (.int kk)
 | .bool _::_=>(zW k 0 l).map .bool
 | .aR _::_=>(zW k 0 l).map .bool
 | _=>none
def JE(cells:List AV)(n dK c:Nat):List AV:=(List.range n).map fun m=>cells.getD (m*dK+c) .un
def CC(k:Unit->Int)(cells:List AV)(n dK:Nat):List Nat->Option (List AV)
 | []=>some []
 | c::cs=>match E7 k (JE cells n dK c),CC k cells n dK cs with
  | some x,some l=>some (x::l)
  | _,_=>none
def X4(s:ByteArray)(i:Nat):Int:=(s.data[i]?.map fun c=>c.toNat).getD 0
def Pb(ti:Option TI)(x i:AV):Option (AV×List VC):=match ti,x with
 | some (.array n _ dK ag),.agg cells=>match i with
  | .lit _ m=>if decide (0<=m)&&decide (m<n) then (cut ag (m.toNat*dK) dK cells).map fun r=>(r,[]) else none
  | .int _ k=>if cells.length==n*dK then
   match ag with
   | true=>(CC k cells n dK (List.range dK)).map fun l=>(.agg l,x8 k fun _=>n)
   | false=>if dK==1 then (E7 k cells).map fun r=>(r,x8 k fun _=>n) else none else none
  | _=>none
 | some .str,.str s=>match i.asInt with
  | some (_,k)=>some (.int .u8 fun _=>X4 (s ()) (k ()).toNat,x8 k fun _=>(s ()).size)
  | none=>none
 | _,_=>none
def Pc(ti:Option TI)(x i:AV):Option (AV×List VC):=match ti,i with
 | some (.array n _ dK _),.lit _ m=>if decide (0<=m)&&decide (m<n) then (zU x (m.toNat*dK)).map fun r=>(r,[]) else none
 | _,_=>none
def Pf(ge:Nat->Option En)(sz:Nat)(k:Unit->Int):AV->Option (AV×List VC)
 | .own loc=>match ge loc with
  | some (.row _ t _ l)=>if t.size==sz then some (.cZ t loc k 0,x8 k fun _=>((l ()).length:Int)) else none
  | _=>none
 | .cG t loc a b=>match ge loc with
  | some (.row _ t' _ _)=>if t=t'/\t.size=sz then some (.cZ t loc (fun _=>(a ():Int)+k ()) 0,x8 k fun _=>((b () - a ():Nat):Int)) else none
  | _=>none
 | _=>none
def CD(fr:Bool)(t:Tc)(l:Unit->List t.el):Nat->List AV
 | 0 => []
 | n+1=>CD fr t l n++aP fr t fun _=>(l ()).getD n t.aa
def nM(ty:j9)(cs:List aN)(ge:Nat->Option En)(g:Operand->AV):Op->Option (AV×List VC)
 | .move x=>some (g x,[])
 | .assign x=>some (g x,[])
 | .pick c a b=>(Jz (g c) (g a) (g b)).map fun r=>(r,[])
 | .nilCheck x=>match g x with
  | .ptr l o=>some (.ptr l o,[])
  | .bh l o=>some (.bh l o,[])
  | .cZ t l k o=>some (.cZ t l k o,[])
  | _=>none
 | .binOp op T x y _=>E6 (aj ty T) op (g x) (g y)
 | .unOp .not _ x=>match g x with
  | .aR b=>some (.aR (!b),[])
  | .bool b=>some (.bool fun _ => !b (),[])
  | _=>none
 | .unOp .neg _ x=>match g x with
  | .lit k n=>some (.lit k (k.wrap (-n)),[])
  | .int .i64 n=>some (.int .i64 fun _ => -n (),[fun _=>bq (-n ())])
  | .int k n=>some (.int k fun _=>k.wrap (-n ()),[])
  | _=>none
 | .convert s t x=>match fu ty s,fu ty t,g x with
  | some (.int _),some (.int k),.lit _ n=>some (.lit k (k.wrap n),[])
  | some (.int _),some (.int k),.int _ n=>if k = .i64 then some (.int k n,[fun _=>bq (n ())]) else some (.int k fun _=>k.wrap (n ()),[])
  | _,_,_=>none
 | .fieldAddr T x f=>match (aj ty T).bind (fieldAt · f) with
  | some (off,sz,_)=>if sz==0 then none else (zU (g x) off).map fun r=>(r,[])
  | none=>none
 | .field T x f=>match (aj ty T).bind (fieldAt · f),g x with
  | some (off,sz,a),.agg cells=>(cut a off sz cells).map fun r=>(r,[])
  | _,_=>none
 | .indexAddr T x i=>match fu ty T,g x,(g i).asInt with
  | some (.slice _ sz _),.sl fr t l,some (_,k)=>if t.size==sz then some (.bh (aP fr t fun _=>(l ()).getD (k ()).toNat t.aa) 0,x8 k fun _=>((l ()).length:Int)) else none
  | some (.slice _ sz _),.wide fr t l n,some (_,k)=>if t.size==sz then some (.bh (aP fr t fun _=>(l ()).getD (k ()).toNat t.aa) 0,x8 k fun _=>(n ():Int)) else none
  | some (.slice _ sz _),y,some (_,k)=>Pf ge sz k y
  | ti,y,_=>Pc ti y (g i)
 | .index T x i=>Pb (fu ty T) (g x) (g i)
 | .sliceToArrayPointer T x=>match fu ty T,g x with
  | some (.array n _ _ _),.sl fr t l=>if n=0 then none else some (.bh (CD fr t l n) 0,[fun _=>n<=(l ()).length])
  | _,_=>none
 | .lookup T x i ok=>match fu ty T,g x with
  | some (.map _ _ c t ag),.mp loc=>match ge loc,x9 c (g i) with
   | some (.map fr jI c' t' _ m),some k=>if c'=c/\t'=t/\jI=ag then some (JD jI fr t' (fun _=>m () (k ())) ok,[]) else none
   | _,_=>none
  | _,_=>none
 | .entry x=>match g x with
  | .it ml l2=>match ge ml,ge l2 with
   | some (.map fr ag c t _ m),some (.iter E8 c' seen _)=>if E8=ml/\c'=c then some (.ba [JC c fun _=>(seen ()).headD [],eo ag fr t fun _=>(m () ((seen ()).headD [])).getD t.aa],[fun _=>seen () ≠ []]) else none
   | _,_=>none
  | _=>none
 | .slice T x none (some hi) none=>match fu ty T,g x with
  | some (.slice _ sz _),.sl fr t l=>if t.size==sz then (match (g hi).asInt with
   | some (_,b)=>some (.wide fr t l fun _=>(b ()).toNat,[fun _=>0<=b ()/\b ()<=((l ()).length:Int)])
   | none=>none) else none
  | some (.slice _ sz _),.wide fr t l _=>if t.size==sz then (match (g hi).asInt with
   | some (_,b)=>some (.wide fr t l fun _=>(b ()).toNat,[fun _=>0<=b ()/\b ()<=((l ()).length:Int)])
   | none=>none) else none
  | some (.slice _ sz _),.own loc=>match ge loc with
   | some (.row _ t _ l)=>if t.size==sz then (match (g hi).asInt with
    | some (_,b)=>some (.cG t loc (fun _=>0) fun _=>(b ()).toNat,[fun _=>0<=b ()/\b ()<=((l ()).length:Int)])
    | none=>none) else none
   | _=>none
  | _,_=>none
 | .slice T x lo hi none=>match fu ty T,g x with
  | some (.slice _ sz _),.sl fr t l=>if t.size==sz then (match pC g (fun _=>0) lo,pC g (fun _=>((l ()).length:Int)) hi with
   | some a,some b=>some (.sl fr t fun _=>((l ()).take (b ()).toNat).drop (a ()).toNat,[fun _=>0<=a ()/\a ()<=b ()/\b ()<=((l ()).length:Int)])
   | _,_=>none) else none
  | some (.slice _ sz _),.own loc=>match ge loc with
   | some (.row _ t _ l)=>if t.size==sz then (match pC g (fun _=>0) lo,pC g (fun _=>((l ()).length:Int)) hi with
    | some a,some b=>some (.cG t loc (fun _=>(a ()).toNat) fun _=>(b ()).toNat,[fun _=>0<=a ()/\a ()<=b ()/\b ()<=((l ()).length:Int)])
    | _,_=>none) else none
   | _=>none
  | some (.array n _ dK _),.ptr loc off=>if lo.isNone&&hi.isNone&&dK==1 then some (.fq loc off n,[]) else none
  | _,_=>none
 | .extract x i=>match g x with
  | .ba l=>(l[i]?).map fun r=>(r,[])
  | _=>none
 | .makeFunc (.func f) first dH=>if first.isEmpty then some (.fn f (dH.toList.map g),[]) else none
 | .load T x=>match aj ty T with
  | some i=>(E3 ge i.ti.agg i.sz (g x)).map fun r=>(r,[])
  | none=>none
 | .build T parts=>match aj ty T with
  | some i=>match i.ti with
   | .struct fs=>if i.z.isEmpty then none else (uG (fun k=>(fs[k]?).map fun f=>(f.1,f.2.1)) i.z (parts.toList.map fun p=>(p.1,g p.2))).map fun r=>(.agg r,[])
   | .array _ _ dK _=>if i.z.isEmpty then none else (uG (fun k=>some (k*dK,dK)) i.z (parts.toList.map fun p=>(p.1,g p.2))).map fun r=>(.agg r,[])
   | _=>none
  | none=>none
 | .call c=>match c.callee with
  | .builtin .min=>match c.args.toList with
   | [x,y]=>match (g x).asInt,(g y).asInt with
    | some (k,a),some (k',b)=>if k=k' then some (.int k fun _=>cond (decide (b ()<a ())) (b ()) (a ()),[]) else none
    | _,_=>none
   | _=>none
  | .builtin .max=>match c.args.toList with
   | [x,y]=>match (g x).asInt,(g y).asInt with
    | some (k,a),some (k',b)=>if k=k' then some (.int k fun _=>cond (decide (a ()<b ())) (b ()) (a ()),[]) else none
    | _,_=>none
   | _=>none
  | .builtin .len=>match c.args.toList,c.argTypes.toList with
   | [x],[T]=>match fu ty T,g x with
    | some (.slice _ _ _),.str _=>none
    | some (.slice _ _ _),y=>(E4 ge y).map fun r=>(r,[])
    | some .str,.str s=>(E4 ge (.str s)).map fun r=>(r,[])
    | _,_=>none
   | _,_=>none
  | .value fo=>match g fo with
   | .fn f dH=>match Jt cs f with
    | some Pg=>match pB ge Pg.sig (c.args.toList.map g++dH) with
     | some ai=>match Pg.go ai with
      | some res=>if AV.plain true res.av||(AV.dJ false (c.args.toList.map g++dH)&&AV.plain false res.av) then some (res.av,[res.pre]) else none
      | none=>none
     | none=>none
    | none=>none
   | _=>none
  | _=>none
 | _=>none
section
variable{w w':World}{ρ ρ':Nat->Option Rl}{base j7:Nat}{ro ro':Nat->Prop}{v:Value}
theorem af.iw{k:IntKind}(h:af w ρ base ro (.int k n) v):v = .int k (n ()):=by cases h; rfl
theorem af.mh{k:IntKind}{n:Int}(h:af w ρ base ro (.lit k n) v):v = .int k n:=by cases h; rfl
theorem af.oJ(h:af w ρ base ro (.bool b) v):v = .bool (b ()):=by cases h; rfl
theorem af.pD{b:Bool}(h:af w ρ base ro (.aR b) v):v = .bool b:=by cases h; rfl
theorem af.zX{s:Unit->ByteArray}(h:af w ρ base ro (.str s) v):v = .string (s ()):=by cases h; rfl
theorem af.wj(h:af w ρ base ro .nil v):v = .slice none 0 0:=by cases h; rfl
theorem af.oK{l:List AV}(h:af w ρ base ro (.agg l) v):∃ vs,v = .agg vs.toArray/\aV w ρ base ro l vs:=by
 cases h with
 | agg _ vs hl h=>exact⟨vs,rfl,hl,h⟩
theorem af.JF{l:List AV}(h:af w ρ base ro (.ba l) v):∃ vs,v = .tuple vs.toArray/\aV w ρ base ro l vs:=by
 cases h with
 | ba _ vs hl h=>exact⟨vs,rfl,hl,h⟩
theorem af.JG{f:FuncId}{l:List AV}(h:af w ρ base ro (.fn f l) v):∃ vs,v = .func (.func f) #[] vs.toArray/\aV w ρ base ro l vs:=by
 cases h with
 | fn _ _ vs hl h=>exact⟨vs,rfl,hl,h⟩
theorem af.akV{n:Nat}(h:af w ρ base ro (.fq loc off n) v):∃ b,ρ loc=some (.box b)/\v = .slice (some ⟨b,off,none⟩) n n:=by
 cases h with
 | fq _ _ _ b h=>exact⟨b,h,rfl⟩
theorem af.ya(h:af w ρ base ro (.ptr loc off) v):∃ b,ρ loc=some (.box b)/\v = .pointer (some ⟨b,off,none⟩):=by
 cases h with
 | ptr _ _ b h=>exact⟨b,h,rfl⟩
theorem af.tf(h:af w ρ base ro (.own loc) v):∃ A n c,ρ loc=some (.row A n c)/\v = .slice A n c:=by
 cases h with
 | own _ A n c h=>exact⟨A,n,c,h,rfl⟩
theorem af.JH{t:Tc}{k:Unit->Int}(h:af w ρ base ro (.cZ t loc k off) v):∃ A,∃ n,∃ c b,ρ loc=some (.row A n c)/\A=some ⟨b,0,none⟩/\0<=k ()/\k ()<n/\v = .pointer (some ⟨b,(k ()).toNat*t.size+off,none⟩):=by
 cases h with
 | cZ _ _ _ _ A n c b h hA h0 hn=>exact⟨A,n,c,b,h,hA,h0,hn,rfl⟩
theorem af.yb{t:Tc}{a b:Unit->Nat}(h:af w ρ base ro (.cG t loc a b) v):∃ A,∃ n,∃ c,ρ loc=some (.row A n c)/\a ()<=b ()/\b ()<=n/\v=sliced A (a ()) (b ()) c t.size:=by
 cases h with
 | cG _ _ _ _ A n c h bk=>exact⟨A,n,c,h,bk.1,bk.2,rfl⟩
theorem af.JI{cells:List AV}(h:af w ρ base ro (.bh cells off) v):∃ b o,∃ cs,ro b/\b<w.heap.size/\(∀ (j) u,cs[j]? = some u->w.cell? ⟨b,o+j,none⟩=some u)/\aV w ρ base ro cells cs/\v = .pointer (some ⟨b,o+off,none⟩):=by
 cases h with
 | bh _ _ b o cs bt ah hl hc h=>exact⟨b,o,cs,bt,ah,hc,⟨hl,h⟩,rfl⟩
theorem af.pE{t:Tc}{l:Unit->List t.el}(h:af w ρ base ro (.sl fr t l) v):∃ A c,∃ css,css.length=(l ()).length/\css.length<=c/\Rd w w.heap.size t.size A css/\(∀ a,A=some a->css ≠ []->ro a.block)/\(fr=true->∀ a,A=some a->css ≠ []->base<=a.block) /\
 (∀ (k) (cs) (j:Nat) (x) (v),css[k]? = some cs->(aP fr t fun _=>(l ()).getD k t.aa)[j]? = some x->cs[j]? = some v->af w ρ base ro x v)/\v = .slice A (l ()).length c:=by
 cases h with
 | sl _ _ _ A c css hl hc hr bt cP h=>exact⟨A,c,css,hl,hc,hr,bt,cP,h,rfl⟩
theorem af.zY(h:af w ρ base ro (.mp loc) v):∃ b,ρ loc=some (.mp b)/\v = .map (some b):=by
 cases h with
 | mp _ b h=>exact⟨b,h,rfl⟩
theorem af.akW(h:af w ρ base ro (.bo loc) v):∃ s,ρ loc=some (.bo s)/\v=goInt s:=by
 cases h with
 | bo _ s h=>exact⟨s,h,rfl⟩
theorem af.Ph(h:af w ρ base ro (.it loc l2) v):∃ b,ρ l2=some (.it b)/\v = .pointer (some ⟨b,0,none⟩):=by
 cases h with
 | it _ _ b h=>exact⟨b,h,rfl⟩
theorem jk{x:AV}{k:IntKind}(hx:x.asInt=some (k,n))(h:af w ρ base ro x v):v = .int k (n ()):=by
 cases x<;>simp only [AV.asInt] at hx<;>cases hx
 . exact h.iw
 . exact h.mh
theorem E9{x:AV}(hx:x.asBool=some b)(h:af w ρ base ro x v):v = .bool (b ()):=by
 cases x<;>simp only [AV.asBool] at hx<;>cases hx
 . exact h.oJ
 . exact h.pD
theorem X5(u):af w ρ base ro (O9 u) u:=by
 unfold O9;split
 . exact .lit _ _
 . exact .aR _
 . exact .str _
 . exact .nil
 . exact .un _
end
section
variable{P:Program}{r:Operand->Value}{d:Option Nat}{ty:TypeId}{pos:String}{aft:Array Edge}{gd:Option (Nat×Bool)}{u v:Value}{w:World}
variable{ρ:Nat->Option Rl}{base:Nat}{ro:Nat->Prop}
theorem zZ{n:Int}(h:bq n):IntKind.i64.wrap n=n:=wrap_i64 h.1 h.2
theorem X6{k:IntKind}{a b:Unit->Int}{av:AV}{vcs:List VC}(h:arith op k a b=some (av,vcs))(hv:∀ c∈vcs,c ())(hx:r x = .int k (a ()))(hy:r y = .int k (b ())) :
 ∃ v,(execOp r ⟨d,.binOp op t x y t',ty,pos,aft,gd⟩).run P w = .ok (.value v) w/\af w ρ base ro av v:=by
 cases op<;>simp only [arith] at h
 case add =>
  split at h
  . rename_i hk;subst hk;cases h;exact⟨_,Jc hx hy (zZ (hv _ (.head _))) rfl,.int _ _⟩
  . cases h;exact⟨_,Jc hx hy rfl rfl,.int _ _⟩
 case sub =>
  split at h
  . rename_i hk;subst hk;cases h;exact⟨_,Jd hx hy (zZ (hv _ (.head _))) rfl,.int _ _⟩
  . cases h;exact⟨_,Jd hx hy rfl rfl,.int _ _⟩
 case mul =>
  split at h
  . rename_i hk;subst hk;cases h;exact⟨_,Je hx hy (zZ (hv _ (.head _))) rfl,.int _ _⟩
  . cases h;exact⟨_,Je hx hy rfl rfl,.int _ _⟩
 case quo =>
  cases h;exact⟨_,X0 hx hy (hv _ (.head _)) rfl rfl,.int _ _⟩
 case rem =>
  cases h;exact⟨_,XY hx hy (hv _ (.head _)) rfl rfl,.int _ _⟩
 case eql=>cases h; exact⟨_,zM (op := .eql) hx hy rfl rfl,by rw [show (a ()==b ())=decide (a ()=b ()) by rw [vN]; simp]; exact .bool _⟩
 case neq=>cases h; exact⟨_,zM (op := .neq) hx hy rfl rfl,by rw [show (a () != b ()) = !decide (a ()=b ()) by rw [vN]; simp]; exact .bool _⟩
 case lss=>cases h; exact⟨_,zM (op := .lss) hx hy rfl rfl,.bool _⟩
 case leq=>cases h; exact⟨_,zM (op := .leq) hx hy rfl rfl,.bool _⟩
 case gtr=>cases h; exact⟨_,zM (op := .gtr) hx hy rfl rfl,.bool _⟩
 case geq=>cases h; exact⟨_,zM (op := .geq) hx hy rfl rfl,.bool _⟩
 case and =>
  exact JJ
 case or =>
  exact JJ
 case xor =>
  exact JJ
 case andNot =>
  exact JJ
 all_goals cases h
theorem akX{k:IntKind}{m n:Int}{av:AV}(h:fold op k m n=some av)(hx:r x = .int k m)(hy:r y = .int k n) :
 ∃ v,(execOp r ⟨d,.binOp op t x y t',ty,pos,aft,gd⟩).run P w = .ok (.value v) w/\af w ρ base ro av v:=by
 by_cases hq:op = .quo\/op = .rem
 . rcases hq with rfl|rfl<;>simp only [fold] at h<;>split at h<;>cases h
   . rename_i h0;exact⟨_,X0 hx hy h0 rfl rfl,.lit _ _⟩
   . rename_i h0;exact⟨_,XY hx hy h0 rfl rfl,.lit _ _⟩
 cases op<;>simp only [fold] at h<;>first|cases h|exact (hq (.inl rfl)).elim|exact (hq (.inr rfl)).elim
 . exact⟨_,Jc hx hy rfl rfl,.lit _ _⟩
 . exact⟨_,Jd hx hy rfl rfl,.lit _ _⟩
 . exact⟨_,Je hx hy rfl rfl,.lit _ _⟩
 all_goals exact⟨_,zM hx hy rfl rfl,.aR _⟩
theorem akY{a b:ByteArray}(hx:r x = .string a)(hy:r y = .string b):(execOp r ⟨d,.binOp op t x y t',ty,pos,aft,gd⟩).run P w=((Op.stringOp op a b).run P w).andThen fun v w => .ok (.value v) w:=by
 unfold execOp;have h1:(eqGuard op t x y (r x) (r y)).run P w = .ok () w:=by
  rw [hx,hy];cases op<;>rfl
 have h2:binOp op t (r x) (r y)=Op.stringOp op a b:=by
  rw [hx,hy];cases op<;>rfl
 simp only [bp,h1,h2,bI];cases (Op.stringOp op a b).run P w<;>rfl
theorem akZ{a b:Unit->ByteArray}{av:AV}{vcs:List VC}(h:Jw op a b=some (av,vcs))(hx:r x = .string (a ()))(hy:r y = .string (b ())) :
 ∃ v,(execOp r ⟨d,.binOp op t x y t',ty,pos,aft,gd⟩).run P w = .ok (.value v) w/\af w ρ base ro av v:=by
 cases op<;>simp only [Jw] at h<;>cases h
 . exact X7
 . exact X7
theorem eI{tb:j9}{ti:TI}(aE:cT P tb)(h:fu tb T=some ti):∃ i,aj tb T=some i/\i.ti=ti/\fV P T i=true:=by
 unfold fu at h
 cases hi:aj tb T with
 | none=>rw [hi] at h; cases h
 | some i =>
  rw [hi] at h;simp only [du,bF] at h;exact⟨i,rfl,h,aE T i hi⟩
theorem mZ{i:eH}(h:fV P T i=true):∃ ds,P.underlying T=some ds/\jH P ds i.ti=true:=by
 unfold fV at h;simp only [ax] at h;have h2:=h.1.2
 cases hd:P.underlying T with
 | none=>rw [hd] at h2; cases h2
 | some ds =>
  rw [hd] at h2;exact⟨ds,rfl,h2⟩
theorem ak0{i:eH}(h:fV P T i=true)(hi:i.ti = .bool):P.underlying T=some .bool:=by
 exact X8
theorem CE{i:eH}{k:IntKind}(h:fV P T i=true)(hi:i.ti = .int k):P.underlying T=some (.int k):=by
 obtain⟨ds,hd,hm⟩:=mZ h;rw [hi] at hm;cases ds<;>first|(simp [jH] at hm; done)|skip
 simp only [jH,aL] at hm;rw [hd,hm]
theorem ak1{i:eH}(h:fV P T i=true)(hi:i.ti = .str):P.underlying T=some .string:=by
 exact X8
theorem ak2{b:Bool}(hT:P.underlying T=some .bool):(Op.equal T (.bool a) (.bool b)).run P w = .ok (a==b) w:=by
 unfold Op.equal;rw [show Op.maxDepth=9999+1 from rfl];unfold Op.equalIn;simp only [underlying,bp,bL,bI,mR,hT]
theorem ak3{a:Unit->Bool}{av:AV}{vcs:List VC}{T:TypeId}(hT:P.underlying T=some .bool)(h:Jy op a b=some (av,vcs))(hx:r x = .bool (a ()))(hy:r y = .bool (b ())) :
 ∃ v,(execOp r ⟨d,.binOp op T x y t',ty,pos,aft,gd⟩).run P w = .ok (.value v) w/\af w ρ base ro av v:=by
 cases op<;>simp only [Jy] at h<;>cases h
 all_goals
  refine⟨_,?_,.bool _⟩;unfold execOp;simp only [hx,hy,eqGuard,binOp,bp,bL,bI,ak2 hT];rfl
theorem X9(yc:op = .shl\/op = .shr){a b av:AV}{vcs:List VC}{T:TypeId}(h:CB op a b=some (av,vcs))(hv:∀ c∈vcs,c ())(hx:af w ρ base ro a (r x))(hy:af w ρ base ro b (r y)) :
 ∃ v,(execOp r ⟨d,.binOp op T x y t',ty,pos,aft,gd⟩).run P w = .ok (.value v) w/\af w ρ base ro av v:=by
 unfold CB at h;split at h
 . rename_i k m k' n e1 e2;cases h;have h0:0<=n ():=hv _ (.head _);have h1:¬ n ()<0:=oo
   refine⟨_,?_,.int k _⟩;unfold execOp;rcases yc with rfl|rfl
   . exact Ya
   . exact Ya
 . cases h
theorem Yb{ti:Option TI}{k:IntKind}{a b:Unit->Int}{av:AV}{vcs:List VC}(h:CA ti op k a b=some (av,vcs))(hv:∀ c∈vcs,c ())(hx:r x = .int k (a ()))(hy:r y = .int k (b ())) :
 ∃ v,(execOp r ⟨d,.binOp op t x y t',ty,pos,aft,gd⟩).run P w = .ok (.value v) w/\af w ρ base ro av v:=by
 unfold CA at h;split at h
 . unfold Pa at h;split at h
   . cases h;exact⟨_,Jc hx hy rfl rfl,.int _ _⟩
   . cases h;exact⟨_,Jd hx hy rfl rfl,.int _ _⟩
   . cases h;exact⟨_,Je hx hy rfl rfl,.int _ _⟩
   . exact X6 h hv hx hy
 . exact X6 h hv hx hy
theorem Pj{tb:j9}(aE:cT P tb){a b av:AV}{vcs:List VC}{T:TypeId}(h:zT (fu tb T) op a b=some (av,vcs))(hv:∀ c∈vcs,c ())(hx:af w ρ base ro a (r x))(hy:af w ρ base ro b (r y)) :
 ∃ v,(execOp r ⟨d,.binOp op T x y t',ty,pos,aft,gd⟩).run P w = .ok (.value v) w/\af w ρ base ro av v:=by
 unfold zT at h;split at h
 . exact X9 (.inl rfl) h hv hx hy
 . exact X9 (.inr rfl) h hv hx hy
 split at h
 . rename_i k m k' n;split at h
   . rename_i hk;subst hk;split at h
     . rename_i mi hf;cases h;exact akX hf hx.mh hy.mh
     . exact Yb h hv hx.mh hy.mh
   . cases h
 . exact akZ h hx.zX hy.zX
 . split at h
   . rename_i k m k' n e1 e2;split at h
     . rename_i hk;subst hk;exact Yb h hv (jk e1 hx) (jk e2 hy)
     . cases h
   . split at h
     . rename_i m n e1 e2;split at h
       . rename_i e3;obtain⟨i,_,hi,hb⟩:=eI aE e3;exact ak3 (ak0 hb hi) h (E9 e1 hx) (E9 e2 hy)
       . cases h
     . cases h
theorem ak4{a b c av:AV}(h:Jz c a b=some av)(hz:af w ρ base ro c (r z))(hx:af w ρ base ro a (r x))(hy:af w ρ base ro b (r y)) :
 ∃ v,(execOp r ⟨d,.pick z x y,ty,pos,aft,gd⟩).run P w = .ok (.value v) w/\af w ρ base ro av v:=by
 unfold Jz at h;split at h
 . rename_i b';cases h;refine⟨_,OR hz.pD rfl,?_⟩;cases b'
   . exact hy
   . exact hx
 . rename_i c';split at h
   . rename_i p q e1 e2;cases h;refine⟨_,OR hz.oJ rfl,?_⟩;rw [E9 e1 hx,E9 e2 hy];rw [show (if c' ()=true then Value.bool (p ()) else Value.bool (q ()))=Value.bool ((fun _:Unit=>cond (c' ()) (p ()) (q ())) ()) by cases h:c' ()<;>simp];exact .bool _
   . split at h
     . rename_i k p k' q e1 e2;split at h
       . rename_i hk;subst hk;cases h;refine⟨_,OR hz.oJ rfl,?_⟩;rw [jk e1 hx,jk e2 hy];rw [show (if c' ()=true then Value.int k (p ()) else Value.int k (q ()))=Value.int k ((fun _:Unit=>cond (c' ()) (p ()) (q ())) ()) by cases h:c' ()<;>simp];exact .int _ _
       . cases h
     . cases h
 . cases h
end
section
variable{P:Program}{r:Operand->Value}{d:Option Nat}{ty:TypeId}{pos:String}{aft:Array Edge}{gd:Option (Nat×Bool)}{u v:Value}{w:World}
variable{ρ:Nat->Option Rl}{base:Nat}{ro:Nat->Prop}
theorem JK{i:eH}(h:fV P T i=true):∃ j,P.info? T=some j/\j.size=i.sz/\(match j.zero with|some z=>Cz i.z z.cells.toList|none=>i.z.isEmpty)=true:=by
 unfold fV at h;simp only [ax] at h
 cases hj:P.info? T with
 | none=>rw [hj] at h; simp at h
 | some j =>
  rw [hj] at h;simp only [ax,cb] at h;exact⟨j,rfl,h.1.1.1,h.1.1.2⟩
theorem ak5{i:eH}(h:fV P T i=true)(ha:i.ti.agg=true):vU P T i.sz:=by
 obtain⟨j,hj,hs,_⟩:=JK h;obtain⟨ds,hd,hm⟩:=mZ h;refine⟨ds,hd,?_,by rw [hj]; simp [hs]⟩;exact Yc
theorem ak6{i:eH}(h:fV P T i=true)(ha:i.ti.agg=false):uD P T=true:=by
 obtain⟨ds,hd,hm⟩:=mZ h;unfold uD;rw [hd];exact Yc
theorem aV.drop{l:List AV}(h:aV w ρ base ro l vs)(n):aV w ρ base ro (l.drop n) (vs.drop n) :=
 ⟨by simp [h.1],fun j x v hx hv=>h.2 (n+j) x v (by simpa using hx) (by simpa using hv)⟩
theorem aV.take{l:List AV}(h:aV w ρ base ro l vs)(n):aV w ρ base ro (l.take n) (vs.take n):=by
 refine⟨by simp [h.1],fun j x v hx hv => ?_⟩;rw [eh] at hx hv;split at hx
 . rename_i hj;rw [aC hj] at hv;exact h.2 j x v hx hv
 . cases hx
theorem aV.append{l m:List AV}(h:aV w ρ base ro l vs)(h2:aV w ρ base ro m us):aV w ρ base ro (l++m) (vs++us):=by
 refine⟨by simp [h.1,h2.1],fun j x v hx hv => ?_⟩;rcases b9 j l.length with hj|hj
 . rw [qj hj] at hx;rw [qj (by rw [<- h.1]; exact hj)] at hv;exact h.2 j x v hx hv
 . rw [rq hj] at hx;rw [rq (by rw [<- h.1]; exact hj),<- h.1] at hv;exact h2.2 _ x v hx hv
theorem aV.set{l:List AV}{x:AV}(h:aV w ρ base ro l vs)(hv:af w ρ base ro x v)(n):aV w ρ base ro (l.set n x) (vs.set n v):=by
 refine⟨by simp [h.1],fun j y u hy hu => ?_⟩;rw [ru] at hy hu;split at hy
 . rename_i hj;rw [aC hj] at hu;split at hy
   . split at hu
     . cases hy; cases hu; exact hv
     . cases hu
   . cases hy
 . rename_i hj;rw [aw hj] at hu;exact h.2 j y u hy hu
theorem Pk{b:Nat}{i:eH}{cells:List AV}{av:AV}(ht:fV P T i=true)(hc:∀ (j) u,cs[j]? = some u->w.cell? ⟨b,o+j,none⟩=some u)(hE:aV w ρ base ro cells cs)(h:cut i.ti.agg off i.sz cells=some av) :
 ∃ v,(loadVar T ⟨b,o+off,none⟩).run P w = .ok v w/\af w ρ base ro av v:=by
 unfold cut at h
 cases ha:i.ti.agg with
 | true =>
  rw [ha,aC rfl] at h;split at h
  . rename_i hlen;cases h;have hd:=(hE.drop off).take i.sz;refine⟨_,Od (ak5 ht ha) (cs:=(cs.drop off).take i.sz) (by rw [cL,iD,<- hE.1]; omega) (fun j u hu => ?_),.agg _ _ hd.1 hd.2⟩;rw [eh] at hu;split at hu
    . rw [lG] at hu;rw [ER,oA];exact hc _ _ hu
    . cases hu
  . cases h
 | false =>
  rw [ha] at h;simp only [dV,dw] at h;obtain⟨v,hv,hr⟩:=hE.get h;exact⟨v,OX (ak6 ht ha) (hc _ _ hv),hr⟩
theorem Yd{b:Nat}(h:w.heap[b]? = some (.cells cs.toArray T (0,0))):∀ (j) u,cs[j]? = some u->w.cell? ⟨b,0+j,none⟩=some u:=by
 intro j u hu;rw [gC,zD w b j _ _ _ h];simpa using hu
theorem ak7(t:Tc):0<t.size:=by cases t<;>decide
theorem uH{t:Tc}{x:Unit->t.el}(hl:cs.length=t.size)(h:∀ (j:Nat) (y) (v),(aP fr t x)[j]? = some y->cs[j]? = some v->af w ρ base ro y v):aV w ρ base ro (aP fr t x) cs :=
 ⟨by rw [O2,hl],h⟩
theorem Ye{ge:Nat->Option En}(cH:∀ loc e,ge loc=some e->c9 w ρ base ro loc e){i:eH}{a av:AV}(ht:fV P T i=true)(h:E3 ge i.ti.agg i.sz a=some av)(ha:af w ρ base ro a u) :
 ∃ ad v,u = .pointer (some ad)/\(loadVar T ad).run P w = .ok v w/\af w ρ base ro av v:=by
 unfold E3 at h;split at h
 . obtain⟨b,o,cs,_,_,hc,hE,rfl⟩:=ha.JI;obtain⟨v,h1,h2⟩:=Pk ht hc hE h;exact⟨_,v,rfl,h1,h2⟩
 . rename_i loc off;split at h
   . rename_i T' cells he;obtain⟨b,cs,hb,hh,hE⟩:=cH _ _ he;obtain⟨b',aW,rfl⟩:=ha.ya;rw [hb] at aW;injection aW with aW;injection aW with aW;subst aW;obtain⟨v,h1,h2⟩:=Pk ht (Yd hh) hE h;rw [gC] at h1;exact⟨_,v,rfl,h1,h2⟩
   . cases h
 . rename_i t loc k off;split at h
   . rename_i fr t' T' l he;split at h
     . rename_i htt;subst htt;obtain⟨A,c,css,hA,bw,hlen,dt⟩:=cH _ _ he;obtain⟨A',n,c',b,bG,rfl,h0,hn,rfl⟩:=ha.JH;rw [hA] at bG;injection bG with bG;injection bG with e1 e2 e3;subst e1; subst e2; subst e3;have hk:(k ()).toNat<css.length:=oo
       obtain⟨b',o',e,ah,hl,aF⟩:=bw.rd _ _ (bc hk);simp only [bF,Addr.mk.injEq,bn] at e;obtain⟨rfl,rfl⟩:=e;have hE:aV w ρ base ro (aP fr t fun _=>(l ()).getD (k ()).toNat t.aa) css[(k ()).toNat]:=uH hl fun j y v h1 h2=>dt _ _ j y v (bc hk) h1 h2;obtain⟨v,h1,h2⟩:=Pk ht (b:=b) (o:=(k ()).toNat*t.size) (fun j u hu=>by have:=aF j u hu; rwa [gC] at this) hE h;exact⟨_,v,rfl,h1,h2⟩
     . cases h
   . cases h
 . cases h
theorem Pn{a av:AV}{k:Nat}(h:zU a k=some av)(ha:af w ρ base ro a u):∃ b o,u = .pointer (some ⟨b,o,none⟩)/\af w ρ base ro av (.pointer (some ⟨b,o+k,none⟩)):=by
 unfold zU at h;split at h<;>cases h
 . cases ha with
   | bh _ _ b o cs bt ah hl hc h=>exact⟨b,_,rfl,by rw [oA]; exact .bh _ _ b o cs bt ah hl hc h⟩
 . cases ha with
   | ptr _ _ b h=>exact⟨b,_,rfl,.ptr _ _ b h⟩
 . cases ha with
   | cZ _ _ _ _ A n c b h hA h0 hn=>exact⟨b,_,rfl,by rw [oA]; exact .cZ _ _ _ _ A n c b h hA h0 hn⟩
theorem Yf:∀ {fs:List Field} {l:List (Nat×Nat×Bool)},xZ P fs l=true->∀ {k o s:Nat} {a:Bool},l[k]? = some (o,s,a)->∃ f,fs[k]? = some f/\f.offset=o/\(∃ i,P.info? f.type=some i/\i.size=s)/\gI P f.type=a/\∃ ds,P.underlying f.type=some ds
 | f::fs,(o',s',a')::l,h,0,o,s,a,hk=>by
  simp only [ox,bF,sU] at hk;obtain⟨rfl,rfl,rfl⟩:=hk;unfold xZ at h;simp only [ax,cb] at h;refine⟨f,rfl,h.1.1.1,?_,h.1.2.1,Ww.1 h.1.2.2⟩
  cases hi:P.info? f.type with
  | none=>rw [hi] at h; simp at h
  | some i=>rw [hi] at h; exact⟨i,rfl,by simpa using h.1.1.2⟩
 | f::fs,(o',s',a')::l,h,k+1,o,s,a,hk=>by
  unfold xZ at h;simp only [ax] at h;obtain⟨g,h1,h2⟩:=Yf h.2 (k:=k) (by simpa using hk);exact⟨g,by simpa using h1,h2⟩
 | [],[],_,k,o,s,a,hk=>by simp at hk
 | [],_::_,h,_,_,_,_,_=>by cases h
 | _::_,[],h,_,_,_,_,_=>by cases h
theorem Yg{s:Nat}{i:eH}(ht:fV P T i=true)(h:fieldAt i f=some (o,s,a)):∃ fs fd,P.underlying T=some (.struct fs)/\fs[f]? = some fd/\fd.offset=o/\(∃ j,P.info? fd.type=some j/\j.size=s)/\gI P fd.type=a/\∃ ds,P.underlying fd.type=some ds:=by
 unfold fieldAt at h;split at h
 . rename_i l hl;obtain⟨ds,hd,hm⟩:=mZ ht;rw [hl] at hm;cases ds<;>first|(simp [jH] at hm; done)|skip
   rename_i fs;obtain⟨fd,h1,h2,h3,h4⟩:=Yf hm h;exact⟨fs,fd,hd,by simpa using h1,h2,h3,h4⟩
 . cases h
theorem Yh{s:Nat}{i:eH}(ht:fV P T i=true)(h:fieldAt i f=some (o,s,a))(hs:(s==0)=false):Ja P T f=some o:=by
 obtain⟨fs,fd,h1,h2,rfl,⟨j,h3,rfl⟩,_⟩:=Yg ht h;have z6:¬ j.size=0:=by simpa using hs
 unfold Ja;simp only [h1,h2,h3,aw z6]
theorem CF{s:Nat}(ha:∃ j,P.info? T=some j/\j.size=s)(hd:∃ ds,P.underlying T=some ds)(hlen:gI P T=true->o+s<=vs.length)(hv:gI P T=false->vs[o]? = some v)(rN:gI P T=true->v = .agg ((vs.drop o).take s).toArray):(part T vs.toArray o).run P w = .ok v w:=by
 exact XU
theorem ak9{i:eH}{s:Nat}{cells:List AV}{av:AV}(ht:fV P T i=true)(hf:fieldAt i f=some (o,s,a))(hc:cut a o s cells=some av)(hx:af w ρ base ro (.agg cells) (r x)) :
 ∃ v,(execOp r ⟨d,.field T x f,ty,pos,aft,gd⟩).run P w = .ok (.value v) w/\af w ρ base ro av v:=by
 obtain⟨fs,fd,h1,h2,rfl,h3,h4,hT⟩:=Yg ht hf;obtain⟨vs,rP,hE⟩:=hx.oK;have cC:∀ v,(part fd.type vs.toArray fd.offset).run P w = .ok v w->(execOp r ⟨d,.field T x f,ty,pos,aft,gd⟩).run P w = .ok (.value v) w:=by
  intro v hv;unfold execOp;simp only [rP,Instr.field,underlying,asAgg,bp,bL,bI,mR,h1,h2,hv]
 unfold cut at hc
 cases hb:a with
 | true =>
  rw [hb,aC rfl] at hc;split at hc
  . rename_i hlen;cases hc;have hd:=(hE.drop fd.offset).take s;exact⟨_,cC _ (CF h3 hT (fun _=>by rw [<- hE.1]; exact hlen) (fun h=>by rw [h4,hb] at h; cases h) (fun _=>rfl)),.agg _ _ hd.1 hd.2⟩
  . cases hc
 | false =>
  rw [hb] at hc;simp only [dV,dw] at hc;obtain⟨v,hv,hr⟩:=hE.get hc;exact⟨v,cC _ (CF h3 hT (fun h=>by rw [h4,hb] at h; cases h) (fun _=>hv) (fun h=>by rw [h4,hb] at h; cases h)),hr⟩
end
end Go.Proofs.YtamjbkaclhgffaaGreat
