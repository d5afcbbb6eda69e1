/-
  The abstract run: types, entries, contracts of calls, what operations give that neither store nor make a place of the run's own.
-/
import Derived.Test.YtamjbkaclhgffaaGreatSh3
set_option linter.all false
namespace Go.Proofs.YtamjbkaclhgffaaGreat
open Go.RowKit
variable{op:BinOp}{a fr g:Bool}{cs us vs:List Value}{T b' f l2 loc o off:Nat}{x y z:Operand}{t t':TypeId}{b:Unit->Bool}{n:Unit->Int}
def al{α:Type}:List (Nat × α)->Nat->Option α
 | [],_=>none
 | (k,v)::l,d=>if k==d then some v else al l d
inductive TI where
 | int (k:IntKind)|Z4|bool|str|other
 | slice (e dZ aEe:Nat)
 | struct (fs:List (Nat×Nat×Bool))
 | array (n e dZ:Nat) (agg:Bool)
 | map (k e:Nat) (c:Kc) (t:Tc) (agg:Bool)
structure fC where
 sz:Nat
 ti:TI
 z:List AV
 eq:List Lk := []
def TI.agg:TI->Bool
 | .struct _=>true
 | .array _ _ _ _=>true
 | _=>false
abbrev lE:=List (Nat×fC)
def Q0:AV->Value->Bool
 | .lit k n,.int k' n'=>decide (k=k')&&n==n'
 | .aV b,.bool b'=>b==b'
 | .str s,.string s'=>(s ()).data==s'.data
 | .nil,.slice none 0 0=>true
 | .int k n,.int k' n'=>decide (k=k')&&n ()==n'
 | .bool b,.bool b'=>b ()==b'
 | .sl _ _ l,.slice none 0 0=>(l ()).isEmpty
 | .un,_=>true
 | _,_=>false
def DP:List AV->List Value->Bool
 | [],[]=>true
 | x::l,v::vs=>Q0 x v&&DP l vs
 | _,_=>false
def y4(P:Program):List Field->List (Nat×Nat×Bool)->Bool
 | [],[]=>true
 | f::fs,(o,s,a)::l=>f.offset==o&&(match P.info? f.type with|some i=>i.size==s|none=>false)&&(il P f.type==a&&(P.underlying f.type).isSome)&&y4 P fs l
 | _,_=>false
def Q1(ag:Bool):Value->Bool
 | .agg _=>ag
 | .tuple _=>false
 | _ => !ag
def kN(P:Program):TypeDesc->TI->Bool
 | .int k,.int k'=>decide (k=k')
 | .int k,.Z4=>decide (k = .i64)
 | .bool,.bool=>true
 | .string,.str=>true
 | .slice e,.slice e' sz b=>e==e'&&(decide (0<sz)&&decide (0<b))&&(match P.info? e with|some j=>j.size==sz&&j.bytes==b&&(match j.zero with|some z=>z.cells.size==sz|none=>false)|none=>false)
 | .struct fs,.struct l=>y4 P fs.toList l
 | .array n e,.array n' e' sz a=>n==n'&&e==e'&&(match P.info? e with|some j=>j.size==sz|none=>false)&&(il P e==a&&(P.underlying e).isSome)
 | .map k e,.map k' e' c t a=>k==k'&&e==e'&&(v7 P k c&&il P e==a)&&(a||t.size==1)&&(match P.info? e with|some j=>(match j.zero with|some z=>DP (bf true t fun _=>t.aa) z.cells.toList&&Q1 a z|none=>false)|none=>false)
 | .struct _,_=>false
 | .array _ _,_=>false
 | _,.other=>true
 | _,_=>false
def Z5(P:Program)(T:TypeId)(ls:List Lk):Bool:=ls.isEmpty||(il P T&&GA P 20 T ls && !P.eqGuardType P.depth T)
def gP(P:Program)(T:TypeId)(i:fC):Bool :=
 ((match P.info? T with
 | some j=>j.size==i.sz&&(match j.zero with|some z=>DP i.z z.cells.toList|none=>i.z.isEmpty)
 | none=>false) &&
 match P.underlying T with
 | some ds=>kN P ds i.ti
 | none=>false)&&Z5 P T i.eq
def dp(P:Program)(ty:lE):Prop:=∀ T i,al ty T=some i->gP P T i=true
inductive En where
 | box (T:TypeId) (cells:List AV)
 | row (fr:Bool) (t:Tc) (T:TypeId) (l:Unit->List t.el)
 | map (fr ag:Bool) (c:Kc) (t:Tc) (T:TypeId) (m:Unit->List Kx->Option t.el)
 | iter (ml:Nat) (c:Kc) (seen:Unit->List (List Kx)) (left:Unit->Nat)
 | bL (ml:Nat) (c:Kc) (key:Unit->List Kx)
 | fY (k:Unit->Nat)
 | dead
def na(w:World)(ρ:Nat->Option Rl)(base:Nat)(ro:Nat->Prop)(fr ag:Bool)(c:Kc)(t:Tc)(m:List Kx->Option t.el)(es:Array MapEntry):Prop :=
 (∀ e∈es.toList,∃ key x,ic c e.key key/\m key=some x/\aj w ρ base ro (fh ag fr t fun _=>x) e.val)/\∀ key x,dP c.ls key=true->m key=some x->∃ e∈es.toList,ic c e.key key
def rb(fr:Bool)(base:Nat):Nat:=cond fr base 0
theorem Lc(fr:Bool)(base:Nat):rb fr base<=base:=by cases fr<;>simp [rb]
theorem aoH(f g:Bool)(base:Nat):rb (f&&g) base<=rb f base:=by cases f<;>cases g<;>simp [rb]
theorem aoI{f:Bool}(base:Nat)(h:g=true->f=true):rb g base<=rb f base:=by cases f<;>cases g<;>simp_all [rb]
theorem aoJ{b:Nat}(fr:Bool)(h:b'<=b):rb fr b'<=rb fr b:=by cases fr<;>simp [rb,h]
def dz(w:World)(ρ:Nat->Option Rl)(base:Nat)(ro:Nat->Prop)(loc:Nat):En->Prop
 | .box T cells=>∃ b,∃ cs:List Value,ρ loc=some (.box b)/\w.heap[b]? = some (.cells cs.toArray T (0,0))/\bn w ρ base ro cells cs
 | .row fr t T l=>∃ A c,∃ css:List (List Value),ρ loc=some (.row A (l ()).length c)/\dc w (rb fr base) T t.size A c css/\css.length=(l ()).length /\
  ∀ (k:Nat) (cs:List Value) (j:Nat) (x:AV) (v:Value),css[k]? = some cs->(bf fr t fun _=>(l ()).getD k t.aa)[j]? = some x->cs[j]? = some v->aj w ρ base ro x v
 | .map fr ag c t _ m=>∃ b es clock,ρ loc=some (.mp b)/\w.heap[b]? = some (.map es clock)/\MapKept.Stamped es clock/\na w ρ base ro fr ag c t (m ()) es
 | .iter ml c seen left=>∃ b b2 es clock since stamps c0,ρ loc=some (.it b2) /\ ρ ml=some (.mp b)/\w.heap[b]? = some (.map es clock)/\w.heap[b2]? = some (.mapIter (some b) since stamps c0)/\(∀ e∈es.toList,e.born<since)/\(since<=c0/\c0<=clock)/\left ()=(Go.leftOf es stamps).size/\(∀ e∈es.toList,stamps.contains e.born=true↔∃ key∈seen (),ic c e.key key)/\∀ key r,seen ()=key::r->c0=clock/\∃ e∈es.toList,stamps.back? = some e.born/\ic c e.key key
 | .bL ml c key=>∃ b es clock s e,ρ loc=some (.bL s) /\ ρ ml=some (.mp b)/\w.heap[b]? = some (.map es clock)/\e∈es.toList/\ic c e.key (key ())/\e.born=s
 | .fY k => ρ loc=some (.bL (k ()))
 | .dead=>∃ r,ρ loc=some r
abbrev VC:=Unit->Prop
inductive Sg where
 | int (k:IntKind)|bool|str|sl (t:Tc)|any
 | wide (t:Tc)
 | agg (l:List Sg)
 | bP (l:List Sg)
 | fn (l:List Sg)
 | Bj (t:Tc)
 | GD (t:Tc)
 | aoK (c:Kc) (t:Tc)
 | aoL (l:List Sg)
def Q3(t t':Tc)(l:Unit->List t.el)(n:Unit->Nat):Option AV:=match Gy t t' with
 | some f=>some (.sl false t' fun _=>((l ()).take (n ())).map f)
 | none=>none
mutual
def coerce(ge:Nat->Option En):Sg->AV->Option AV
 | .int k,.int k' n=>if k=k' then some (.int k n) else none
 | .int k,.lit k' n=>if k=k' then some (.int k fun _=>n) else none
 | .bool,.bool b=>some (.bool b)
 | .bool,.aV b=>some (.bool fun _=>b)
 | .str,.str s=>some (.str s)
 | .sl t,.sl _ t' l=>if t=t' then some (.sl false t' l) else none
 | .sl t,.nil=>some (.sl false t fun _ => [])
 | .sl t,.wide _ t' l n=>if t=t' then some (.sl false t' fun _=>(l ()).take (n ())) else Q3 t' t l n
 | .wide t,.wide _ t' l n=>if t=t' then some (.wide false t' l n) else none
 | .sl t,.own loc=>match ge loc with
  | some (.row _ t' _ l)=>if t=t' then some (.sl false t' l) else none
  | _=>none
 | .sl t,.cW t2 loc a b=>match ge loc with
  | some (.row _ t' _ l)=>if t=t'/\t2=t' then some (.sl false t' fun _=>((l ()).take (b ())).drop (a ())) else none
  | _=>none
 | .agg l,.agg cs=>(qY ge l cs).map .agg
 | .bP l,.bP cs 0=>(qY ge l cs).map fun cs' => .bP cs' 0
 | .bP l,.ptr loc 0=>match ge loc with
  | some (.box _ cs)=>(qY ge l cs).map fun cs' => .bP cs' 0
  | _=>none
 | .fn l,.fn f cs=>(qY ge l cs).map fun cs' => .fn f cs'
 | .any,_=>some .un
 | _,_=>none
def qY(ge:Nat->Option En):List Sg->List AV->Option (List AV)
 | [],[]=>some []
 | s::ss,x::xs=>match coerce ge s x,qY ge ss xs with
  | some y,some ys=>some (y::ys)
  | _,_=>none
 | _,_=>none
end
structure Bk where
 pre:Unit->Prop
 av:AV
structure aC where
 f:FuncId
 sig:List Sg
 go:List AV->Option Bk
def Le:List aC->FuncId->Option aC
 | [],_=>none
 | c::cs,f=>if c.f==f then some c else Le cs f
def aE(P:Program)(c:aC):Prop :=
 (∀ args w,(callFunc c.f args).run P w = .ok (.enter c.f args) w) /\
 ∀ ah res,c.go ah=some res->∀ (w:World) (ra:Nat->Prop) (eu:List Value),(∀ b,ra b->b<w.heap.size)->bn w (fun _=>none) 0 ra ah eu->res.pre () ->
  Calls P c.f eu.toArray w fun e w'=>∃ v,e = .returned v/\dL w w'/\aj w' (fun _=>none) w.heap.size (fun b=>ra b\/w.heap.size<=b) res.av v
structure Lf where
 pre:Unit->Prop
 n:Unit->Nat
 el:(Unit->Nat)->List AV
structure It where
 f:FuncId
 sig:List Sg
 go:List AV->Option Lf
structure Yl where
 l:Unit->Nat
 n:Unit->Nat
 el:(Unit->Nat)->List AV
def Lg:List It->FuncId->Option It
 | [],_=>none
 | c::cs,f=>if c.f==f then some c else Lg cs f
def Q4:Value->AV
 | .int k n => .lit k n
 | .bool b => .aV b
 | .string s => .str fun _=>s
 | .slice none 0 0 => .nil
 | _ => .un
def AV.asInt:AV->Option (IntKind×(Unit->Int))
 | .int k n=>some (k,n)
 | .lit k n=>some (k,fun _=>n)
 | _=>none
def AV.asBool:AV->Option (Unit->Bool)
 | .bool b=>some b
 | .aV b=>some fun _=>b
 | _=>none
def aP(n:Int):Prop := -9223372036854775808<=n/\n<=9223372036854775807
def Bl(op:BinOp)(k:IntKind)(a b:Int):Int:=match op with
 | .and=>k.wrap (BitVec.ofInt k.bits a &&& BitVec.ofInt k.bits b).toNat
 | .or=>k.wrap (BitVec.ofInt k.bits a ||| BitVec.ofInt k.bits b).toNat
 | .xor=>k.wrap (BitVec.ofInt k.bits a ^^^ BitVec.ofInt k.bits b).toNat
 | _=>k.wrap (BitVec.ofInt k.bits a &&& ~~~BitVec.ofInt k.bits b).toNat
def qa(op:BinOp)(k:IntKind)(a b:Int):Int:=match op with
 | .shl=>k.wrap (a*2^(min b.toNat k.bits))
 | _=>a.fdiv (2^(min b.toNat k.bits))
def arith(op:BinOp)(k:IntKind)(a b:Unit->Int):Option (AV×List VC) :=
 match op with
 | .add=>if k = .i64 then some (.int k fun _=>a ()+b (),[fun _=>aP (a ()+b ())]) else some (.int k fun _=>k.wrap (a ()+b ()),[])
 | .sub=>if k = .i64 then some (.int k fun _=>a () - b (),[fun _=>aP (a () - b ())]) else some (.int k fun _=>k.wrap (a () - b ()),[])
 | .mul=>if k = .i64 then some (.int k fun _=>a ()*b (),[fun _=>aP (a ()*b ())]) else some (.int k fun _=>k.wrap (a ()*b ()),[])
 | .quo=>some (.int k fun _=>k.wrap ((a ()).tdiv (b ())),[fun _=>b ()≠0])
 | .rem=>some (.int k fun _=>(a ()).tmod (b ()),[fun _=>b ()≠0])
 | .eql=>some (.bool fun _=>decide (a ()=b ()),[])
 | .neq=>some (.bool fun _ => !decide (a ()=b ()),[])
 | .lss=>some (.bool fun _=>decide (a ()<b ()),[])
 | .leq=>some (.bool fun _=>decide (a ()<=b ()),[])
 | .gtr=>some (.bool fun _=>decide (b ()<a ()),[])
 | .geq=>some (.bool fun _=>decide (b ()<=a ()),[])
 | .and=>some (.int k fun _=>Bl .and k (a ()) (b ()),[])
 | .or=>some (.int k fun _=>Bl .or k (a ()) (b ()),[])
 | .xor=>some (.int k fun _=>Bl .xor k (a ()) (b ()),[])
 | .andNot=>some (.int k fun _=>Bl .andNot k (a ()) (b ()),[])
 | _=>none
def Q5(op:BinOp)(k:IntKind)(a b:Unit->Int):Option (AV×List VC) :=
 match op with
 | .add=>some (.int k fun _=>k.wrap (a ()+b ()),[])
 | .sub=>some (.int k fun _=>k.wrap (a () - b ()),[])
 | .mul=>some (.int k fun _=>k.wrap (a ()*b ()),[])
 | op=>arith op k a b
def DQ(ti:Option TI)(op:BinOp)(k:IntKind)(a b:Unit->Int):Option (AV×List VC) :=
 match ti with
 | some .Z4=>Q5 op k a b
 | _=>arith op k a b
def fold(op:BinOp)(k:IntKind)(m n:Int):Option AV :=
 match op with
 | .add=>some (.lit k (k.wrap (m+n)))
 | .sub=>some (.lit k (k.wrap (m - n)))
 | .mul=>some (.lit k (k.wrap (m*n)))
 | .quo=>if n=0 then none else some (.lit k (k.wrap (m.tdiv n)))
 | .rem=>if n=0 then none else some (.lit k (m.tmod n))
 | .eql=>some (.aV (m==n))
 | .neq=>some (.aV (m != n))
 | .lss=>some (.aV (decide (m<n)))
 | .leq=>some (.aV (decide (m<=n)))
 | .gtr=>some (.aV (decide (m>n)))
 | .geq=>some (.aV (decide (m≥n)))
 | _=>none
def Lh(op:BinOp)(a b:Unit->ByteArray):Option (AV×List VC) :=
 match op with
 | .eql=>some (.bool fun _=>decide (a ()=b ()),[])
 | .neq=>some (.bool fun _ => !decide (a ()=b ()),[])
 | _=>none
def Li(op:BinOp)(a b:Unit->Bool):Option (AV×List VC) :=
 match op with
 | .eql=>some (.bool fun _=>a ()==b (),[])
 | .neq=>some (.bool fun _=>a () != b (),[])
 | _=>none
def DR(op:BinOp)(x y:AV):Option (AV×List VC):=match x.asInt,y.asInt with
 | some (k,a),some (_,b)=>some (.int k fun _=>qa op k (a ()) (b ()),[fun _=>0<=b ()])
 | _,_=>none
def Bm(ti:Option TI)(op:BinOp)(x y:AV):Option (AV×List VC) :=
 match op with
 | .shl=>DR .shl x y
 | .shr=>DR .shr x y
 | op=>match x,y with
 | .lit k m,.lit k' n=>if k=k' then (match fold op k m n with
  | some r=>some (r,[])
  | none=>DQ ti op k (fun _=>m) (fun _=>n)) else none
 | .str a,.str b=>Lh op a b
 | x,y=>match x.asInt,y.asInt with
  | some (k,a),some (k',b)=>if k=k' then DQ ti op k a b else none
  | _,_=>match x.asBool,y.asBool with
   | some a,some b=>match ti with
    | some .bool=>Li op a b
    | _=>none
   | _,_=>none
def Lj(c x y:AV):Option AV :=
 match c with
 | .aV b=>some (if b then x else y)
 | .bool c=>match x.asBool,y.asBool with
  | some a,some b=>some (.bool fun _=>cond (c ()) (a ()) (b ()))
  | _,_=>match x.asInt,y.asInt with
   | some (k,a),some (k',b)=>if k=k' then some (.int k fun _=>cond (c ()) (a ()) (b ())) else none
   | _,_=>none
 | _=>none
def cut(agg:Bool)(off n:Nat)(cells:List AV):Option AV :=
 if agg then (if off+n<=cells.length then some (.agg ((cells.drop off).take n)) else none) else cells[off]?
def fZ(ty:lE)(T:Nat):Option TI:=(al ty T).map fun i=>i.ti
def fieldAt(i:fC)(f:Nat):Option (Nat×Nat×Bool) :=
 match i.ti with
 | .struct fs=>fs[f]?
 | _=>none
def v9(place:Nat->Option (Nat×Nat))(cells:List AV):List (Nat×AV)->Option (List AV)
 | []=>some cells
 | (i,x)::rest=>match place i with
  | none=>none
  | some (off,size)=>match x with
   | .agg cs=>if cs.length==size&&decide (off+size<=cells.length) then v9 place (cells.take off++cs++cells.drop (off+size)) rest else none
   | .un=>none
   | .bp _=>none
   | x=>if size==1&&decide (off+1<=cells.length) then v9 place (cells.set off x) rest else none
def y5(i:Unit->Int)(n:Unit->Int):List VC := [fun _=>0<=i ()/\i ()<n ()]
def GF(ge:Nat->Option En)(agg:Bool)(n:Nat):AV->Option AV
 | .bP cells off=>cut agg off n cells
 | .ptr loc off=>match ge loc with
  | some (.box _ cells)=>cut agg off n cells
  | _=>none
 | .dv t loc k off=>match ge loc with
  | some (.row fr t' _ l)=>if t=t' then cut agg off n (bf fr t' fun _=>(l ()).getD (k ()).toNat t'.aa) else none
  | _=>none
 | _=>none
def Bn:AV->Nat->Option AV
 | .bP cells off,k=>some (.bP cells (off+k))
 | .ptr loc off,k=>some (.ptr loc (off+k))
 | .dv t loc i off,k=>some (.dv t loc i (off+k))
 | _,_=>none
def GG(ge:Nat->Option En):AV->Option AV
 | .nil=>some (.lit .i64 0)
 | .sl _ _ l=>some (.int .i64 fun _=>((l ()).length:Int))
 | .wide _ _ _ n=>some (.int .i64 fun _=>(n ():Int))
 | .own loc=>match ge loc with
  | some (.row _ _ _ l)=>some (.int .i64 fun _=>((l ()).length:Int))
  | _=>none
 | .cW _ _ a b=>some (.int .i64 fun _=>((b () - a ():Nat):Int))
 | .str s=>some (.int .i64 fun _=>((s ()).size:Int))
 | _=>none
/- keys of maps -/
def GH:Lk->AV->Option (Unit->Kx)
 | .int k,.int k' n=>if k=k' then some fun _ => .i k (n ()) else none
 | .int k,.lit k' n=>if k=k' then some fun _ => .i k n else none
 | .bool,.bool b=>some fun _ => .f (b ())
 | .bool,.aV b=>some fun _ => .f b
 | .str,.str s=>some fun _ => .s (s ())
 | _,_=>none
def xF:List Lk->List AV->Option (Unit->List Kx)
 | [],[]=>some fun _ => []
 | l::ls,x::xs=>match GH l x,xF ls xs with
  | some a,some b=>some fun _=>a ()::b ()
  | _,_=>none
 | _,_=>none
def y6(c:Kc)(x:AV):Option (Unit->List Kx):=match c with
 | .one l=>(GH l x).map fun a=>fun _ => [a ()]
 | .arr n l=>match x with
  | .agg cs=>xF (List.replicate n l) cs
  | _=>none
 | .st ls=>match x with
  | .agg cs=>xF ls cs
  | _=>none
def Kx.num:Kx->Int
 | .i _ n=>n
 | _=>0
def Kx.flag:Kx->Bool
 | .f p=>p
 | _=>false
def Kx.Z6:Kx->ByteArray
 | .s x=>x
 | _=>jF
def Ll:Lk->(Unit->Kx)->AV
 | .int k,x => .int k fun _=>(x ()).num
 | .bool,x => .bool fun _=>(x ()).flag
 | .str,x => .str fun _=>(x ()).Z6
def Lm:List Lk->Nat->(Unit->List Kx)->List AV
 | [],_,_ => []
 | l::ls,n,k=>Ll l (fun _=>(k ()).getD n (.i .i64 0))::Lm ls (n+1) k
def Ln(c:Kc)(k:Unit->List Kx):AV:=match c with
 | .one l=>Ll l fun _=>(k ()).getD 0 (.i .i64 0)
 | .arr n l => .agg (Lm (List.replicate n l) 0 k)
 | .st ls => .agg (Lm ls 0 k)
def Lo(ag fr:Bool)(t:Tc)(x:Unit->Option t.el)(ok:Bool):AV :=
 if ok then .bp [fh ag fr t fun _=>(x ()).getD t.aa,.bool fun _=>(x ()).isSome] else fh ag fr t fun _=>(x ()).getD t.aa
def GI(i:Option fC)(op:BinOp)(x y:AV):Option (AV×List VC):=match x,y with
 | .agg cs,.agg ds=>match i with
  | some i=>if i.eq.isEmpty then none else match xF i.eq cs,xF i.eq ds with
   | some a,some b=>match op with
    | .eql=>some (.bool fun _=>decide (a ()=b ()),[])
    | .neq=>some (.bool fun _ => !decide (a ()=b ()),[])
    | _=>none
   | _,_=>none
  | none=>none
 | x,y=>Bm (i.map fun i=>i.ti) op x y
def qZ(g:Operand->AV)(d:Unit->Int):Option Operand->Option (Unit->Int)
 | none=>some d
 | some o=>(g o).asInt.map fun p=>p.2
/- one of some values,as an index aoM -/
def Bp(kk:IntKind)(k:Unit->Int):Nat->List AV->Option (Unit->Int)
 | _,[]=>none
 | j,x::l=>match x.asInt with
  | some (k',a)=>if k'=kk then (match l with
   | []=>some a
   | _=>(Bp kk k (j+1) l).map fun f=>fun _=>cond (decide (k ()=(j:Int))) (a ()) (f ())) else none
  | none=>none
def Bq(k:Unit->Int):Nat->List AV->Option (Unit->Bool)
 | _,[]=>none
 | j,x::l=>match x.asBool with
  | some a=>match l with
   | []=>some a
   | _=>(Bq k (j+1) l).map fun f=>fun _=>cond (decide (k ()=(j:Int))) (a ()) (f ())
  | none=>none
def GJ(k:Unit->Int)(l:List AV):Option AV:=match l with
 | .int kk _::_=>(Bp kk k 0 l).map (.int kk)
 | .lit kk _::_=>(Bp kk k 0 l).map (.int kk)
 | .bool _::_=>(Bq k 0 l).map .bool
 | .aV _::_=>(Bq k 0 l).map .bool
 | _=>none
def Lq(cells:List AV)(n dZ c:Nat):List AV:=(List.range n).map fun m=>cells.getD (m*dZ+c) .un
def DS(k:Unit->Int)(cells:List AV)(n dZ:Nat):List Nat->Option (List AV)
 | []=>some []
 | c::cs=>match GJ k (Lq cells n dZ c),DS k cells n dZ cs with
  | some x,some l=>some (x::l)
  | _,_=>none
def Z7(s:ByteArray)(i:Nat):Int:=(s.data[i]?.map fun c=>(c.toNat:Int)).getD 0
def Q6(ti:Option TI)(x i:AV):Option (AV×List VC):=match ti,x with
 | some (.array n _ dZ ag),.agg cells=>match i with
  | .lit _ m=>if decide (0<=m)&&decide (m<(n:Int)) then (cut ag (m.toNat*dZ) dZ cells).map fun r=>(r,[]) else none
  | .int _ k=>if cells.length==n*dZ then
   (match ag with
   | true=>(DS k cells n dZ (List.range dZ)).map fun l=>(.agg l,y5 k fun _=>(n:Int))
   | false=>if dZ==1 then (GJ k cells).map fun r=>(r,y5 k fun _=>(n:Int)) else none) else none
  | _=>none
 | some .str,.str s=>match i.asInt with
  | some (_,k)=>some (.int .u8 fun _=>Z7 (s ()) (k ()).toNat,y5 k fun _=>((s ()).size:Int))
  | none=>none
 | _,_=>none
def Q7(ti:Option TI)(x i:AV):Option (AV×List VC):=match ti,i with
 | some (.array n _ dZ _),.lit _ m=>if decide (0<=m)&&decide (m<(n:Int)) then (Bn x (m.toNat*dZ)).map fun r=>(r,[]) else none
 | _,_=>none
def Q8(ge:Nat->Option En)(sz:Nat)(k:Unit->Int):AV->Option (AV×List VC)
 | .own loc=>match ge loc with
  | some (.row _ t _ l)=>if t.size==sz then some (.dv t loc k 0,y5 k fun _=>((l ()).length:Int)) else none
  | _=>none
 | .cW t loc a b=>match ge loc with
  | some (.row _ t' _ _)=>if t=t'/\t.size=sz then some (.dv t loc (fun _=>(a ():Int)+k ()) 0,y5 k fun _=>((b () - a ():Nat):Int)) else none
  | _=>none
 | _=>none
def DT(fr:Bool)(t:Tc)(l:Unit->List t.el):Nat->List AV
 | 0 => []
 | n+1=>DT fr t l n++bf fr t fun _=>(l ()).getD n t.aa
def po(ty:lE)(cs:List aC)(ge:Nat->Option En)(g:Operand->AV):Op->Option (AV×List VC)
 | .move x=>some (g x,[])
 | .assign x=>some (g x,[])
 | .pick c a b=>(Lj (g c) (g a) (g b)).map fun r=>(r,[])
 | .nilCheck x=>match g x with
  | .ptr l o=>some (.ptr l o,[])
  | .bP l o=>some (.bP l o,[])
  | .dv t l k o=>some (.dv t l k o,[])
  | _=>none
 | .binOp op T x y _=>GI (al ty T) op (g x) (g y)
 | .unOp .not _ x=>match g x with
  | .aV b=>some (.aV (!b),[])
  | .bool b=>some (.bool fun _ => !b (),[])
  | _=>none
 | .unOp .neg _ x=>match g x with
  | .lit k n=>some (.lit k (k.wrap (-n)),[])
  | .int .i64 n=>some (.int .i64 fun _ => -n (),[fun _=>aP (-n ())])
  | .int k n=>some (.int k fun _=>k.wrap (-n ()),[])
  | _=>none
 | .convert s t x=>match fZ ty s,fZ ty t,g x with
  | some (.int _),some (.int k),.lit _ n=>some (.lit k (k.wrap n),[])
  | some (.int _),some (.int k),.int _ n=>if k = .i64 then some (.int k n,[fun _=>aP (n ())]) else some (.int k fun _=>k.wrap (n ()),[])
  | _,_,_=>none
 | .fieldAddr T x f=>match (al ty T).bind (fieldAt · f) with
  | some (off,sz,_)=>if sz==0 then none else (Bn (g x) off).map fun r=>(r,[])
  | none=>none
 | .field T x f=>match (al ty T).bind (fieldAt · f),g x with
  | some (off,sz,a),.agg cells=>(cut a off sz cells).map fun r=>(r,[])
  | _,_=>none
 | .indexAddr T x i=>match fZ ty T,g x,(g i).asInt with
  | some (.slice _ sz _),.sl fr t l,some (_,k)=>if t.size==sz then some (.bP (bf fr t fun _=>(l ()).getD (k ()).toNat t.aa) 0,y5 k fun _=>((l ()).length:Int)) else none
  | some (.slice _ sz _),.wide fr t l n,some (_,k)=>if t.size==sz then some (.bP (bf fr t fun _=>(l ()).getD (k ()).toNat t.aa) 0,y5 k fun _=>(n ():Int)) else none
  | some (.slice _ sz _),y,some (_,k)=>Q8 ge sz k y
  | ti,y,_=>Q7 ti y (g i)
 | .index T x i=>Q6 (fZ ty T) (g x) (g i)
 | .sliceToArrayPointer T x=>match fZ ty T,g x with
  | some (.array n _ _ _),.sl fr t l=>if n=0 then none else some (.bP (DT fr t l n) 0,[fun _=>n<=(l ()).length])
  | _,_=>none
 | .lookup T x i ok=>match fZ ty T,g x with
  | some (.map _ _ c t ag),.mp loc=>match ge loc,y6 c (g i) with
   | some (.map fr kO c' t' _ m),some k=>if c'=c/\t'=t/\kO=ag then some (Lo kO fr t' (fun _=>m () (k ())) ok,[]) else none
   | _,_=>none
  | _,_=>none
 | .entry x=>match g x with
  | .it ml l2=>match ge ml,ge l2 with
   | some (.map fr ag c t _ m),some (.iter GK c' seen _)=>if GK=ml/\c'=c then some (.bp [Ln c fun _=>(seen ()).headD [],fh ag fr t fun _=>(m () ((seen ()).headD [])).getD t.aa],[fun _=>seen () ≠ []]) else none
   | _,_=>none
  | _=>none
 | .slice T x none (some hi) none=>match fZ ty T,g x with
  | some (.slice _ sz _),.sl fr t l=>if t.size==sz then (match (g hi).asInt with
   | some (_,b)=>some (.wide fr t l fun _=>(b ()).toNat,[fun _=>0<=b ()/\b ()<=((l ()).length:Int)])
   | none=>none) else none
  | some (.slice _ sz _),.wide fr t l _=>if t.size==sz then (match (g hi).asInt with
   | some (_,b)=>some (.wide fr t l fun _=>(b ()).toNat,[fun _=>0<=b ()/\b ()<=((l ()).length:Int)])
   | none=>none) else none
  | some (.slice _ sz _),.own loc=>match ge loc with
   | some (.row _ t _ l)=>if t.size==sz then (match (g hi).asInt with
    | some (_,b)=>some (.cW t loc (fun _=>0) fun _=>(b ()).toNat,[fun _=>0<=b ()/\b ()<=((l ()).length:Int)])
    | none=>none) else none
   | _=>none
  | _,_=>none
 | .slice T x lo hi none=>match fZ ty T,g x with
  | some (.slice _ sz _),.sl fr t l=>if t.size==sz then (match qZ g (fun _=>0) lo,qZ g (fun _=>((l ()).length:Int)) hi with
   | some a,some b=>some (.sl fr t fun _=>((l ()).take (b ()).toNat).drop (a ()).toNat,[fun _=>0<=a ()/\a ()<=b ()/\b ()<=((l ()).length:Int)])
   | _,_=>none) else none
  | some (.slice _ sz _),.own loc=>match ge loc with
   | some (.row _ t _ l)=>if t.size==sz then (match qZ g (fun _=>0) lo,qZ g (fun _=>((l ()).length:Int)) hi with
    | some a,some b=>some (.cW t loc (fun _=>(a ()).toNat) fun _=>(b ()).toNat,[fun _=>0<=a ()/\a ()<=b ()/\b ()<=((l ()).length:Int)])
    | _,_=>none) else none
   | _=>none
  | some (.array n _ dZ _),.ptr loc off=>if lo.isNone&&hi.isNone&&dZ==1 then some (.fX loc off n,[]) else none
  | _,_=>none
 | .extract x i=>match g x with
  | .bp l=>(l[i]?).map fun r=>(r,[])
  | _=>none
 | .makeFunc (.func f) first dV=>if first.isEmpty then some (.fn f (dV.toList.map g),[]) else none
 | .load T x=>match al ty T with
  | some i=>(GF ge i.ti.agg i.sz (g x)).map fun r=>(r,[])
  | none=>none
 | .build T parts=>match al ty T with
  | some i=>match i.ti with
   | .struct fs=>if i.z.isEmpty then none else (v9 (fun k=>(fs[k]?).map fun f=>(f.1,f.2.1)) i.z (parts.toList.map fun p=>(p.1,g p.2))).map fun r=>(.agg r,[])
   | .array _ _ dZ _=>if i.z.isEmpty then none else (v9 (fun k=>some (k*dZ,dZ)) i.z (parts.toList.map fun p=>(p.1,g p.2))).map fun r=>(.agg r,[])
   | _=>none
  | none=>none
 | .call c=>match c.callee with
  | .builtin .min=>match c.args.toList with
   | [x,y]=>match (g x).asInt,(g y).asInt with
    | some (k,a),some (k',b)=>if k=k' then some (.int k fun _=>cond (decide (b ()<a ())) (b ()) (a ()),[]) else none
    | _,_=>none
   | _=>none
  | .builtin .max=>match c.args.toList with
   | [x,y]=>match (g x).asInt,(g y).asInt with
    | some (k,a),some (k',b)=>if k=k' then some (.int k fun _=>cond (decide (a ()<b ())) (b ()) (a ()),[]) else none
    | _,_=>none
   | _=>none
  | .builtin .len=>match c.args.toList,c.argTypes.toList with
   | [x],[T]=>match fZ ty T,g x with
    | some (.slice _ _ _),.str _=>none
    | some (.slice _ _ _),y=>(GG ge y).map fun r=>(r,[])
    | some .str,.str s=>(GG ge (.str s)).map fun r=>(r,[])
    | _,_=>none
   | _,_=>none
  | .value fo=>match g fo with
   | .fn f dV=>match Le cs f with
    | some Q9=>match qY ge Q9.sig (c.args.toList.map g++dV) with
     | some ah=>match Q9.go ah with
      | some res=>if AV.plain true res.av||(AV.eE false (c.args.toList.map g++dV)&&AV.plain false res.av) then some (res.av,[res.pre]) else none
      | none=>none
     | none=>none
    | none=>none
   | _=>none
  | _=>none
 | _=>none
section
variable{w w':World}{ρ ρ':Nat->Option Rl}{base lD:Nat}{ro ro':Nat->Prop}{v:Value}
theorem aj.jU{k:IntKind}(h:aj w ρ base ro (.int k n) v):v = .int k (n ()):=by cases h; rfl
theorem aj.nO{k:IntKind}{n:Int}(h:aj w ρ base ro (.lit k n) v):v = .int k n:=by cases h; rfl
theorem aj.qb(h:aj w ρ base ro (.bool b) v):v = .bool (b ()):=by cases h; rfl
theorem aj.re{b:Bool}(h:aj w ρ base ro (.aV b) v):v = .bool b:=by cases h; rfl
theorem aj.y7{s:Unit->ByteArray}(h:aj w ρ base ro (.str s) v):v = .string (s ()):=by cases h; rfl
theorem aj.xG(h:aj w ρ base ro .nil v):v = .slice none 0 0:=by cases h; rfl
theorem aj.rf{l:List AV}(h:aj w ρ base ro (.agg l) v):∃ vs:List Value,v = .agg vs.toArray/\bn w ρ base ro l vs:=by
 cases h with
 | agg _ vs hl h=>exact⟨vs,rfl,hl,h⟩
theorem aj.Lr{l:List AV}(h:aj w ρ base ro (.bp l) v):∃ vs:List Value,v = .tuple vs.toArray/\bn w ρ base ro l vs:=by
 cases h with
 | bp _ vs hl h=>exact⟨vs,rfl,hl,h⟩
theorem aj.Lt{f:FuncId}{l:List AV}(h:aj w ρ base ro (.fn f l) v):∃ vs:List Value,v = .func (.func f) #[] vs.toArray/\bn w ρ base ro l vs:=by
 cases h with
 | fn _ _ vs hl h=>exact⟨vs,rfl,hl,h⟩
theorem aj.aoN{n:Nat}(h:aj w ρ base ro (.fX loc off n) v):∃ b,ρ loc=some (.box b)/\v = .slice (some ⟨b,off,none⟩) n n:=by
 cases h with
 | fX _ _ _ b h=>exact⟨b,h,rfl⟩
theorem aj.y8(h:aj w ρ base ro (.ptr loc off) v):∃ b,ρ loc=some (.box b)/\v = .pointer (some ⟨b,off,none⟩):=by
 cases h with
 | ptr _ _ b h=>exact⟨b,h,rfl⟩
theorem aj.uI(h:aj w ρ base ro (.own loc) v):∃ A n c,ρ loc=some (.row A n c)/\v = .slice A n c:=by
 cases h with
 | own _ A n c h=>exact⟨A,n,c,h,rfl⟩
theorem aj.Lu{t:Tc}{k:Unit->Int}(h:aj w ρ base ro (.dv t loc k off) v):∃ A,∃ n:Nat,∃ c b,ρ loc=some (.row A n c)/\A=some ⟨b,0,none⟩/\0<=k ()/\k ()<(n:Int)/\v = .pointer (some ⟨b,(k ()).toNat*t.size+off,none⟩):=by
 cases h with
 | dv _ _ _ _ A n c b h hA h0 hn=>exact⟨A,n,c,b,h,hA,h0,hn,rfl⟩
theorem aj.y9{t:Tc}{a b:Unit->Nat}(h:aj w ρ base ro (.cW t loc a b) v):∃ A,∃ n:Nat,∃ c,ρ loc=some (.row A n c)/\a ()<=b ()/\b ()<=n/\v=sliced A (a ()) (b ()) c t.size:=by
 cases h with
 | cW _ _ _ _ A n c h bJ=>exact⟨A,n,c,h,bJ.1,bJ.2,rfl⟩
theorem aj.Lv{cells:List AV}(h:aj w ρ base ro (.bP cells off) v):∃ b o,∃ cs:List Value,ro b/\b<w.heap.size/\(∀ (j:Nat) u,cs[j]? = some u->w.cell? ⟨b,o+j,none⟩=some u)/\bn w ρ base ro cells cs/\v = .pointer (some ⟨b,o+off,none⟩):=by
 cases h with
 | bP _ _ b o cs ck af hl hc h=>exact⟨b,o,cs,ck,af,hc,⟨hl,h⟩,rfl⟩
theorem aj.rh{t:Tc}{l:Unit->List t.el}(h:aj w ρ base ro (.sl fr t l) v):∃ A c,∃ css:List (List Value),css.length=(l ()).length/\css.length<=c/\Rd w w.heap.size t.size A css/\(∀ a,A=some a->css ≠ []->ro a.block)/\(fr=true->∀ a,A=some a->css ≠ []->base<=a.block) /\
 (∀ (k:Nat) (cs:List Value) (j:Nat) (x:AV) (v:Value),css[k]? = some cs->(bf fr t fun _=>(l ()).getD k t.aa)[j]? = some x->cs[j]? = some v->aj w ρ base ro x v)/\v = .slice A (l ()).length c:=by
 cases h with
 | sl _ _ _ A c css hl hc hr ck df h=>exact⟨A,c,css,hl,hc,hr,ck,df,h,rfl⟩
theorem aj.Br(h:aj w ρ base ro (.mp loc) v):∃ b,ρ loc=some (.mp b)/\v = .map (some b):=by
 cases h with
 | mp _ b h=>exact⟨b,h,rfl⟩
theorem aj.aoO(h:aj w ρ base ro (.bL loc) v):∃ s,ρ loc=some (.bL s)/\v=goInt s:=by
 cases h with
 | bL _ s h=>exact⟨s,h,rfl⟩
theorem aj.Ra(h:aj w ρ base ro (.it loc l2) v):∃ b,ρ l2=some (.it b)/\v = .pointer (some ⟨b,0,none⟩):=by
 cases h with
 | it _ _ b h=>exact⟨b,h,rfl⟩
theorem kb{x:AV}{k:IntKind}(hx:x.asInt=some (k,n))(h:aj w ρ base ro x v):v = .int k (n ()):=by
 cases x<;>simp only [AV.asInt] at hx<;>cases hx
 . exact h.jU
 . exact h.nO
theorem GL{x:AV}(hx:x.asBool=some b)(h:aj w ρ base ro x v):v = .bool (b ()):=by
 cases x<;>simp only [AV.asBool] at hx<;>cases hx
 . exact h.qb
 . exact h.re
theorem Z8(u:Value):aj w ρ base ro (Q4 u) u:=by
 unfold Q4;split
 . exact .lit _ _
 . exact .aV _
 . exact .str _
 . exact .nil
 . exact .un _
end
section
variable{P:Program}{r:Operand->Value}{d:Option Nat}{ty:TypeId}{pos:String}{aft:Array Edge}{gd:Option (Nat×Bool)}{u v:Value}{w:World}
variable{ρ:Nat->Option Rl}{base:Nat}{ro:Nat->Prop}
theorem Bt{n:Int}(h:aP n):IntKind.i64.wrap n=n:=wrap_i64 h.1 h.2
theorem Z9{k:IntKind}{a b:Unit->Int}{av:AV}{vcs:List VC}(h:arith op k a b=some (av,vcs))(hv:∀ c∈vcs,c ())(hx:r x = .int k (a ()))(hy:r y = .int k (b ())) :
 ∃ v,(execOp r ⟨d,.binOp op t x y t',ty,pos,aft,gd⟩).run P w = .ok (.value v) w/\aj w ρ base ro av v:=by
 cases op<;>simp only [arith] at h
 case add =>
  split at h
  . rename_i hk;subst hk;cases h;exact⟨_,KV hx hy (Bt (hv _ (.head _))) rfl,.int _ _⟩
  . cases h;exact⟨_,KV hx hy rfl rfl,.int _ _⟩
 case sub =>
  split at h
  . rename_i hk;subst hk;cases h;exact⟨_,KW hx hy (Bt (hv _ (.head _))) rfl,.int _ _⟩
  . cases h;exact⟨_,KW hx hy rfl rfl,.int _ _⟩
 case mul =>
  split at h
  . rename_i hk;subst hk;cases h;exact⟨_,KX hx hy (Bt (hv _ (.head _))) rfl,.int _ _⟩
  . cases h;exact⟨_,KX hx hy rfl rfl,.int _ _⟩
 case quo =>
  cases h;exact⟨_,Z3 hx hy (hv _ (.head _)) rfl rfl,.int _ _⟩
 case rem =>
  cases h;exact⟨_,Z1 hx hy (hv _ (.head _)) rfl rfl,.int _ _⟩
 case eql=>cases h; exact⟨_,Bc (op := .eql) hx hy rfl rfl,by rw [show (a ()==b ())=decide (a ()=b ()) by rw [vO]; simp]; exact .bool _⟩
 case neq=>cases h; exact⟨_,Bc (op := .neq) hx hy rfl rfl,by rw [show (a () != b ()) = !decide (a ()=b ()) by rw [vO]; simp]; exact .bool _⟩
 case lss=>cases h; exact⟨_,Bc (op := .lss) hx hy rfl rfl,.bool _⟩
 case leq=>cases h; exact⟨_,Bc (op := .leq) hx hy rfl rfl,.bool _⟩
 case gtr=>cases h; exact⟨_,Bc (op := .gtr) hx hy rfl rfl,.bool _⟩
 case geq=>cases h; exact⟨_,Bc (op := .geq) hx hy rfl rfl,.bool _⟩
 case and =>
  exact Lw
 case or =>
  exact Lw
 case xor =>
  exact Lw
 case andNot =>
  exact Lw
 all_goals cases h
theorem aoP{k:IntKind}{m n:Int}{av:AV}(h:fold op k m n=some av)(hx:r x = .int k m)(hy:r y = .int k n) :
 ∃ v,(execOp r ⟨d,.binOp op t x y t',ty,pos,aft,gd⟩).run P w = .ok (.value v) w/\aj w ρ base ro av v:=by
 by_cases hq:op = .quo\/op = .rem
 . rcases hq with rfl|rfl<;>simp only [fold] at h<;>split at h<;>cases h
   . rename_i h0;exact⟨_,Z3 hx hy h0 rfl rfl,.lit _ _⟩
   . rename_i h0;exact⟨_,Z1 hx hy h0 rfl rfl,.lit _ _⟩
 cases op<;>simp only [fold] at h<;>first|cases h|exact (hq (.inl rfl)).elim|exact (hq (.inr rfl)).elim
 . exact⟨_,KV hx hy rfl rfl,.lit _ _⟩
 . exact⟨_,KW hx hy rfl rfl,.lit _ _⟩
 . exact⟨_,KX hx hy rfl rfl,.lit _ _⟩
 all_goals exact⟨_,Bc hx hy rfl rfl,.aV _⟩
theorem aoQ{a b:ByteArray}(hx:r x = .string a)(hy:r y = .string b):(execOp r ⟨d,.binOp op t x y t',ty,pos,aft,gd⟩).run P w=((Op.stringOp op a b).run P w).andThen fun v w => .ok (.value v) w:=by
 unfold execOp;have h1:(eqGuard op t x y (r x) (r y)).run P w = .ok () w:=by
  rw [hx,hy];cases op<;>rfl
 have h2:binOp op t (r x) (r y)=Op.stringOp op a b:=by
  rw [hx,hy];cases op<;>rfl
 simp only [bQ,h1,h2,cg];cases (Op.stringOp op a b).run P w<;>rfl
theorem aoR{a b:Unit->ByteArray}{av:AV}{vcs:List VC}(h:Lh op a b=some (av,vcs))(hx:r x = .string (a ()))(hy:r y = .string (b ())) :
 ∃ v,(execOp r ⟨d,.binOp op t x y t',ty,pos,aft,gd⟩).run P w = .ok (.value v) w/\aj w ρ base ro av v:=by
 cases op<;>simp only [Lh] at h<;>cases h
 . exact aaa
 . exact aaa
theorem fD{tb:lE}{ti:TI}(aQ:dp P tb)(h:fZ tb T=some ti):∃ i,al tb T=some i/\i.ti=ti/\gP P T i=true:=by
 unfold fZ at h
 cases hi:al tb T with
 | none=>rw [hi] at h; cases h
 | some i =>
  rw [hi] at h;simp only [dG,bU] at h;exact⟨i,rfl,h,aQ T i hi⟩
theorem oB{i:fC}(h:gP P T i=true):∃ ds,P.underlying T=some ds/\kN P ds i.ti=true:=by
 unfold gP at h;simp only [aD] at h;have h2:=h.1.2
 cases hd:P.underlying T with
 | none=>rw [hd] at h2; cases h2
 | some ds =>
  rw [hd] at h2;exact⟨ds,rfl,h2⟩
theorem aoS{i:fC}(h:gP P T i=true)(hi:i.ti = .bool):P.underlying T=some .bool:=by
 exact aab
theorem DU{i:fC}{k:IntKind}(h:gP P T i=true)(hi:i.ti = .int k):P.underlying T=some (.int k):=by
 obtain⟨ds,hd,hm⟩:=oB h;rw [hi] at hm;cases ds<;>first|(simp [kN] at hm; done)|skip
 simp only [kN,aU] at hm;rw [hd,hm]
theorem aoT{i:fC}(h:gP P T i=true)(hi:i.ti = .str):P.underlying T=some .string:=by
 exact aab
theorem aoU{b:Bool}(hT:P.underlying T=some .bool):(Op.equal T (.bool a) (.bool b)).run P w = .ok (a==b) w:=by
 unfold Op.equal;rw [show Op.maxDepth=9999+1 from rfl];unfold Op.equalIn;simp only [underlying,bQ,cq,cg,ou,hT]
theorem aoV{a:Unit->Bool}{av:AV}{vcs:List VC}{T:TypeId}(hT:P.underlying T=some .bool)(h:Li op a b=some (av,vcs))(hx:r x = .bool (a ()))(hy:r y = .bool (b ())) :
 ∃ v,(execOp r ⟨d,.binOp op T x y t',ty,pos,aft,gd⟩).run P w = .ok (.value v) w/\aj w ρ base ro av v:=by
 cases op<;>simp only [Li] at h<;>cases h
 all_goals
  refine⟨_,?_,.bool _⟩;unfold execOp;simp only [hx,hy,eqGuard,binOp,bQ,cq,cg,aoU hT];rfl
theorem aac(za:op = .shl\/op = .shr){a b av:AV}{vcs:List VC}{T:TypeId}(h:DR op a b=some (av,vcs))(hv:∀ c∈vcs,c ())(hx:aj w ρ base ro a (r x))(hy:aj w ρ base ro b (r y)) :
 ∃ v,(execOp r ⟨d,.binOp op T x y t',ty,pos,aft,gd⟩).run P w = .ok (.value v) w/\aj w ρ base ro av v:=by
 unfold DR at h;split at h
 . rename_i k m k' n e1 e2;cases h;have h0:0<=n ():=hv _ (.head _);have h1:¬ n ()<0:=oo
   refine⟨_,?_,.int k _⟩;unfold execOp;rcases za with rfl|rfl
   . exact aad
   . exact aad
 . cases h
theorem aae{ti:Option TI}{k:IntKind}{a b:Unit->Int}{av:AV}{vcs:List VC}(h:DQ ti op k a b=some (av,vcs))(hv:∀ c∈vcs,c ())(hx:r x = .int k (a ()))(hy:r y = .int k (b ())) :
 ∃ v,(execOp r ⟨d,.binOp op t x y t',ty,pos,aft,gd⟩).run P w = .ok (.value v) w/\aj w ρ base ro av v:=by
 unfold DQ at h;split at h
 . unfold Q5 at h;split at h
   . cases h;exact⟨_,KV hx hy rfl rfl,.int _ _⟩
   . cases h;exact⟨_,KW hx hy rfl rfl,.int _ _⟩
   . cases h;exact⟨_,KX hx hy rfl rfl,.int _ _⟩
   . exact Z9 h hv hx hy
 . exact Z9 h hv hx hy
theorem Rb{tb:lE}(aQ:dp P tb){a b av:AV}{vcs:List VC}{T:TypeId}(h:Bm (fZ tb T) op a b=some (av,vcs))(hv:∀ c∈vcs,c ())(hx:aj w ρ base ro a (r x))(hy:aj w ρ base ro b (r y)) :
 ∃ v,(execOp r ⟨d,.binOp op T x y t',ty,pos,aft,gd⟩).run P w = .ok (.value v) w/\aj w ρ base ro av v:=by
 unfold Bm at h;split at h
 . exact aac (.inl rfl) h hv hx hy
 . exact aac (.inr rfl) h hv hx hy
 split at h
 . rename_i k m k' n;split at h
   . rename_i hk;subst hk;split at h
     . rename_i nP hf;cases h;exact aoP hf hx.nO hy.nO
     . exact aae h hv hx.nO hy.nO
   . cases h
 . exact aoR h hx.y7 hy.y7
 . split at h
   . rename_i k m k' n e1 e2;split at h
     . rename_i hk;subst hk;exact aae h hv (kb e1 hx) (kb e2 hy)
     . cases h
   . split at h
     . rename_i m n e1 e2;split at h
       . rename_i e3;obtain⟨i,_,hi,hb⟩:=fD aQ e3;exact aoV (aoS hb hi) h (GL e1 hx) (GL e2 hy)
       . cases h
     . cases h
theorem aoW{a b c av:AV}(h:Lj c a b=some av)(hz:aj w ρ base ro c (r z))(hx:aj w ρ base ro a (r x))(hy:aj w ρ base ro b (r y)) :
 ∃ v,(execOp r ⟨d,.pick z x y,ty,pos,aft,gd⟩).run P w = .ok (.value v) w/\aj w ρ base ro av v:=by
 unfold Lj at h;split at h
 . rename_i b';cases h;refine⟨_,QL hz.re rfl,?_⟩;cases b'
   . exact hy
   . exact hx
 . rename_i c';split at h
   . rename_i p q e1 e2;cases h;refine⟨_,QL hz.qb rfl,?_⟩;rw [GL e1 hx,GL e2 hy];rw [show (if c' ()=true then Value.bool (p ()) else Value.bool (q ()))=Value.bool ((fun _:Unit=>cond (c' ()) (p ()) (q ())) ()) by cases h:c' ()<;>simp];exact .bool _
   . split at h
     . rename_i k p k' q e1 e2;split at h
       . rename_i hk;subst hk;cases h;refine⟨_,QL hz.qb rfl,?_⟩;rw [kb e1 hx,kb e2 hy];rw [show (if c' ()=true then Value.int k (p ()) else Value.int k (q ()))=Value.int k ((fun _:Unit=>cond (c' ()) (p ()) (q ())) ()) by cases h:c' ()<;>simp];exact .int _ _
       . cases h
     . cases h
 . cases h
end
section
variable{P:Program}{r:Operand->Value}{d:Option Nat}{ty:TypeId}{pos:String}{aft:Array Edge}{gd:Option (Nat×Bool)}{u v:Value}{w:World}
variable{ρ:Nat->Option Rl}{base:Nat}{ro:Nat->Prop}
theorem Lx{i:fC}(h:gP P T i=true):∃ j,P.info? T=some j/\j.size=i.sz/\(match j.zero with|some z=>DP i.z z.cells.toList|none=>i.z.isEmpty)=true:=by
 unfold gP at h;simp only [aD] at h
 cases hj:P.info? T with
 | none=>rw [hj] at h; simp at h
 | some j =>
  rw [hj] at h;simp only [aD,cC] at h;exact⟨j,rfl,h.1.1.1,h.1.1.2⟩
theorem aoX{i:fC}(h:gP P T i=true)(ha:i.ti.agg=true):AQ P T i.sz:=by
 obtain⟨j,hj,hs,_⟩:=Lx h;obtain⟨ds,hd,hm⟩:=oB h;refine⟨ds,hd,?_,by rw [hj]; simp [hs]⟩;exact aaf
theorem aoY{i:fC}(h:gP P T i=true)(ha:i.ti.agg=false):yZ P T=true:=by
 obtain⟨ds,hd,hm⟩:=oB h;unfold yZ;rw [hd];exact aaf
theorem bn.drop{l:List AV}(h:bn w ρ base ro l vs)(n:Nat):bn w ρ base ro (l.drop n) (vs.drop n) :=
 ⟨by simp [h.1],fun j x v hx hv=>h.2 (n+j) x v (by simpa using hx) (by simpa using hv)⟩
theorem bn.take{l:List AV}(h:bn w ρ base ro l vs)(n:Nat):bn w ρ base ro (l.take n) (vs.take n):=by
 refine⟨by simp [h.1],fun j x v hx hv => ?_⟩;rw [e9] at hx hv;split at hx
 . rename_i hj;rw [aG hj] at hv;exact h.2 j x v hx hv
 . cases hx
theorem bn.append{l m:List AV}(h:bn w ρ base ro l vs)(h2:bn w ρ base ro m us):bn w ρ base ro (l++m) (vs++us):=by
 refine⟨by simp [h.1,h2.1],fun j x v hx hv => ?_⟩;rcases cv j l.length with hj|hj
 . rw [r7 hj] at hx;rw [r7 (by rw [<- h.1]; exact hj)] at hv;exact h.2 j x v hx hv
 . rw [r6 hj] at hx;rw [r6 (by rw [<- h.1]; exact hj),<- h.1] at hv;exact h2.2 _ x v hx hv
theorem bn.set{l:List AV}{x:AV}(h:bn w ρ base ro l vs)(hv:aj w ρ base ro x v)(n:Nat):bn w ρ base ro (l.set n x) (vs.set n v):=by
 refine⟨by simp [h.1],fun j y u hy hu => ?_⟩;rw [te] at hy hu;split at hy
 . rename_i hj;rw [aG hj] at hu;split at hy
   . split at hu
     . cases hy; cases hu; exact hv
     . cases hu
   . cases hy
 . rename_i hj;rw [ax hj] at hu;exact h.2 j y u hy hu
theorem Rc{b:Nat}{i:fC}{cells:List AV}{av:AV}(ht:gP P T i=true)(hc:∀ (j:Nat) u,cs[j]? = some u->w.cell? ⟨b,o+j,none⟩=some u)(hE:bn w ρ base ro cells cs)(h:cut i.ti.agg off i.sz cells=some av) :
 ∃ v,(loadVar T ⟨b,o+off,none⟩).run P w = .ok v w/\aj w ρ base ro av v:=by
 unfold cut at h
 cases ha:i.ti.agg with
 | true =>
  rw [ha,aG rfl] at h;split at h
  . rename_i hlen;cases h;have hd:=(hE.drop off).take i.sz;refine⟨_,YZ (aoX ht ha) (cs:=(cs.drop off).take i.sz) (by rw [cy,iU,<- hE.1]; omega) (fun j u hu => ?_),.agg _ _ hd.1 hd.2⟩;rw [e9] at hu;split at hu
    . rw [mo] at hu;rw [KT,pZ];exact hc _ _ hu
    . cases hu
  . cases h
 | false =>
  rw [ha] at h;simp only [fk,dK] at h;obtain⟨v,hv,hr⟩:=hE.get h;exact⟨v,QR (aoY ht ha) (hc _ _ hv),hr⟩
theorem aag{b:Nat}(h:w.heap[b]? = some (.cells cs.toArray T (0,0))):∀ (j:Nat) u,cs[j]? = some u->w.cell? ⟨b,0+j,none⟩=some u:=by
 intro j u hu;rw [ia,Dp w b j _ _ _ h];simpa using hu
theorem aoZ(t:Tc):0<t.size:=by cases t<;>decide
theorem wa{t:Tc}{x:Unit->t.el}(hl:cs.length=t.size)(h:∀ (j:Nat) (y:AV) (v:Value),(bf fr t x)[j]? = some y->cs[j]? = some v->aj w ρ base ro y v):bn w ρ base ro (bf fr t x) cs :=
 ⟨by rw [QW,hl],h⟩
theorem aah{ge:Nat->Option En}(cR:∀ loc e,ge loc=some e->dz w ρ base ro loc e){i:fC}{a av:AV}(ht:gP P T i=true)(h:GF ge i.ti.agg i.sz a=some av)(ha:aj w ρ base ro a u) :
 ∃ ad v,u = .pointer (some ad)/\(loadVar T ad).run P w = .ok v w/\aj w ρ base ro av v:=by
 unfold GF at h;split at h
 . obtain⟨b,o,cs,_,_,hc,hE,rfl⟩:=ha.Lv;obtain⟨v,h1,h2⟩:=Rc ht hc hE h;exact⟨_,v,rfl,h1,h2⟩
 . rename_i loc off;split at h
   . rename_i T' cells he;obtain⟨b,cs,hb,hh,hE⟩:=cR _ _ he;obtain⟨b',bo,rfl⟩:=ha.y8;rw [hb] at bo;injection bo with bo;injection bo with bo;subst bo;obtain⟨v,h1,h2⟩:=Rc ht (aag hh) hE h;rw [ia] at h1;exact⟨_,v,rfl,h1,h2⟩
   . cases h
 . rename_i t loc k off;split at h
   . rename_i fr t' T' l he;split at h
     . rename_i htt;subst htt;obtain⟨A,c,css,hA,bS,hlen,dQ⟩:=cR _ _ he;obtain⟨A',n,c',b,bW,rfl,h0,hn,rfl⟩:=ha.Lu;rw [hA] at bW;injection bW with bW;injection bW with e1 e2 e3;subst e1; subst e2; subst e3;have hk:(k ()).toNat<css.length:=oo
       obtain⟨b',o',e,af,hl,aS⟩:=bS.rd _ _ (bq hk);simp only [bU,Addr.mk.injEq,aH] at e;obtain⟨rfl,rfl⟩:=e;have hE:bn w ρ base ro (bf fr t fun _=>(l ()).getD (k ()).toNat t.aa) css[(k ()).toNat]:=wa hl fun j y v h1 h2=>dQ _ _ j y v (bq hk) h1 h2;obtain⟨v,h1,h2⟩:=Rc ht (b:=b) (o:=(k ()).toNat*t.size) (fun j u hu=>by have:=aS j u hu; rwa [ia] at this) hE h;exact⟨_,v,rfl,h1,h2⟩
     . cases h
   . cases h
 . cases h
theorem Re{a av:AV}{k:Nat}(h:Bn a k=some av)(ha:aj w ρ base ro a u):∃ b o,u = .pointer (some ⟨b,o,none⟩)/\aj w ρ base ro av (.pointer (some ⟨b,o+k,none⟩)):=by
 unfold Bn at h;split at h<;>cases h
 . cases ha with
   | bP _ _ b o cs ck af hl hc h=>exact⟨b,_,rfl,by rw [pZ]; exact .bP _ _ b o cs ck af hl hc h⟩
 . cases ha with
   | ptr _ _ b h=>exact⟨b,_,rfl,.ptr _ _ b h⟩
 . cases ha with
   | dv _ _ _ _ A n c b h hA h0 hn=>exact⟨b,_,rfl,by rw [pZ]; exact .dv _ _ _ _ A n c b h hA h0 hn⟩
theorem aai:∀ {fs:List Field} {l:List (Nat×Nat×Bool)},y4 P fs l=true->∀ {k o s:Nat} {a:Bool},l[k]? = some (o,s,a)->∃ f,fs[k]? = some f/\f.offset=o/\(∃ i,P.info? f.type=some i/\i.size=s)/\il P f.type=a/\∃ ds,P.underlying f.type=some ds
 | f::fs,(o',s',a')::l,h,0,o,s,a,hk=>by
  simp only [pW,bU,um] at hk;obtain⟨rfl,rfl,rfl⟩:=hk;unfold y4 at h;simp only [aD,cC] at h;refine⟨f,rfl,h.1.1.1,?_,h.1.2.1,YB.1 h.1.2.2⟩
  cases hi:P.info? f.type with
  | none=>rw [hi] at h; simp at h
  | some i=>rw [hi] at h; exact⟨i,rfl,by simpa using h.1.1.2⟩
 | f::fs,(o',s',a')::l,h,k+1,o,s,a,hk=>by
  unfold y4 at h;simp only [aD] at h;obtain⟨g,h1,h2⟩:=aai h.2 (k:=k) (by simpa using hk);exact⟨g,by simpa using h1,h2⟩
 | [],[],_,k,o,s,a,hk=>by simp at hk
 | [],_::_,h,_,_,_,_,_=>by cases h
 | _::_,[],h,_,_,_,_,_=>by cases h
theorem aaj{s:Nat}{i:fC}(ht:gP P T i=true)(h:fieldAt i f=some (o,s,a)):∃ fs fd,P.underlying T=some (.struct fs)/\fs[f]? = some fd/\fd.offset=o/\(∃ j,P.info? fd.type=some j/\j.size=s)/\il P fd.type=a/\∃ ds,P.underlying fd.type=some ds:=by
 unfold fieldAt at h;split at h
 . rename_i l hl;obtain⟨ds,hd,hm⟩:=oB ht;rw [hl] at hm;cases ds<;>first|(simp [kN] at hm; done)|skip
   rename_i fs;obtain⟨fd,h1,h2,h3,h4⟩:=aai hm h;exact⟨fs,fd,hd,by simpa using h1,h2,h3,h4⟩
 . cases h
theorem aak{s:Nat}{i:fC}(ht:gP P T i=true)(h:fieldAt i f=some (o,s,a))(hs:(s==0)=false):KS P T f=some o:=by
 obtain⟨fs,fd,h1,h2,rfl,⟨j,h3,rfl⟩,_⟩:=aaj ht h;have Bu:¬ j.size=0:=by simpa using hs
 unfold KS;simp only [h1,h2,h3,ax Bu]
theorem DV{s:Nat}(ha:∃ j,P.info? T=some j/\j.size=s)(hd:∃ ds,P.underlying T=some ds)(hlen:il P T=true->o+s<=vs.length)(hv:il P T=false->vs[o]? = some v)(p8:il P T=true->v = .agg ((vs.drop o).take s).toArray):(part T vs.toArray o).run P w = .ok v w:=by
 exact ZW
theorem ao1{i:fC}{s:Nat}{cells:List AV}{av:AV}(ht:gP P T i=true)(hf:fieldAt i f=some (o,s,a))(hc:cut a o s cells=some av)(hx:aj w ρ base ro (.agg cells) (r x)) :
 ∃ v,(execOp r ⟨d,.field T x f,ty,pos,aft,gd⟩).run P w = .ok (.value v) w/\aj w ρ base ro av v:=by
 obtain⟨fs,fd,h1,h2,rfl,h3,h4,hT⟩:=aaj ht hf;obtain⟨vs,xH,hE⟩:=hx.rf;have cZ:∀ v,(part fd.type vs.toArray fd.offset).run P w = .ok v w->(execOp r ⟨d,.field T x f,ty,pos,aft,gd⟩).run P w = .ok (.value v) w:=by
  intro v hv;unfold execOp;simp only [xH,Instr.field,underlying,asAgg,bQ,cq,cg,ou,h1,h2,hv]
 unfold cut at hc
 cases hb:a with
 | true =>
  rw [hb,aG rfl] at hc;split at hc
  . rename_i hlen;cases hc;have hd:=(hE.drop fd.offset).take s;exact⟨_,cZ _ (DV h3 hT (fun _=>by rw [<- hE.1]; exact hlen) (fun h=>by rw [h4,hb] at h; cases h) (fun _=>rfl)),.agg _ _ hd.1 hd.2⟩
  . cases hc
 | false =>
  rw [hb] at hc;simp only [fk,dK] at hc;obtain⟨v,hv,hr⟩:=hE.get hc;exact⟨v,cZ _ (DV h3 hT (fun h=>by rw [h4,hb] at h; cases h) (fun _=>hv) (fun h=>by rw [h4,hb] at h; cases h)),hr⟩
end
end Go.Proofs.YtamjbkaclhgffaaGreat
