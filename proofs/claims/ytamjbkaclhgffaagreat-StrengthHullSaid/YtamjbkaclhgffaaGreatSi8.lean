/-
  The abstract run of a function's code: what is to be shown of plain data, so that the code does what is said of it.
-/
import Derived.Test.YtamjbkaclhgffaaGreatSi7
import Derived.OrdersIn
import Derived.TacticsIn
set_option linter.all false
namespace Go.Proofs.YtamjbkaclhgffaaGreat
open Go.RowKit
variable{a:Act}{K K':Act->World->Prop}{aft:Array Edge}{f g:Bool}{C:Cx}{Q:Exit->Act->World->Prop}{cs vs:List Value}{T T' b d l loc off:Nat}{o:Oper}{x y:Operand}{gd:Option (Nat×Bool)}{r:Rl}{pos:String}{S':Sx}{t t':Tc}{ty:TypeId}{v z:Value}{w:World}{i:eH}
structure Lp where
 X:Type
 ov:X->List (Nat×AV)
 oe:X->List (Nat×En)
 I:X->Prop
 μ:X->Unit->Nat
 x0:X
 nx:Option (X->X)
structure Rp where
 oe:Nat->List (Nat×En)
 I:Nat->Prop
inductive Fm where
 | ff (why:Nat)
 | vc (l:List VC) (A:Fm)
 | br (c:Unit->Bool) (A B:Fm)
 | fin (l:List VC)
 | and (A B:Fm)
 | all (X:Type) (I:X->Prop) (f:X->Fm)
 | ex (X:Type) (I:X->Prop) (f:X->Fm)
 | P0 (f:Lp->Fm)
 | Y6 (f:Rp->Fm)
def nS:List VC->Prop
 | []=>True
 | [c]=>c ()
 | c::l=>c ()/\nS l
def Fm.P:Fm->Prop
 | .ff _=>False
 | .vc l A=>nS l/\A.P
 | .br c A B=>(c ()=true->A.P)/\(c ()=false->B.P)
 | .fin l=>nS l
 | .and A B=>A.P/\B.P
 | .all _ I f=>∀ x,I x->(f x).P
 | .ex _ I f=>∃ x,I x/\(f x).P
 | .P0 f=>∃ lp,(f lp).P
 | .Y6 f=>∃ rp,(f rp).P
inductive Kt where
 | code (c:Code)
 | block (id:Nat)
 | back (Bo K:Bs) (f:Bs->Sx->Fm)
 | again (b:Code)
 | wB (f:Bs->Sx->Fm)
 | dS (f:Bs->Sx->Fm) (x:Nat->Sx->Fm) (l:Sx->Fm)
def CR:List Kt->Bool
 | []=>false
 | .wB _::_=>true
 | .dS _ _ _::_=>true
 | _::K=>CR K
/- xX a piece of code writes -/
def P2:List Oper->List Nat
 | [] => []
 | o::l=>match o.dst with
  | some d=>d::P2 l
  | none=>P2 l
def rU:Code->List Nat
 | .region _ ops _=>P2 ops.toList
 | .seq a b=>rU a++rU b
 | .cond _ a b=>rU a++rU b
 | .block _ b=>rU b
 | .loop b=>rU b
 | .scope b=>rU b
 | _ => []
def keyOf:Code->Option Nat
 | .region id _ _=>some id
 | .seq a b=>match keyOf a with
  | some k=>some k
  | none=>keyOf b
 | .cond _ a b=>match keyOf a with
  | some k=>some k
  | none=>keyOf b
 | .block _ b=>keyOf b
 | .loop b=>keyOf b
 | .scope b=>keyOf b
 | _=>none
def cN(n l:Nat):Bool:=decide (l<n)
/- zR PL Y7 Y2 named Y2 such as p akU -/
mutual
def AV.under(p:Nat->Bool):AV->Bool
 | .own l=>p l
 | .cZ _ l _ _=>p l
 | .cG _ l _ _=>p l
 | .ptr l _=>p l
 | .fq l _ _=>p l
 | .mp l=>p l
 | .bo l=>p l
 | .it _ l=>p l
 | .bh cs _=>AV.mn p cs
 | .agg cs=>AV.mn p cs
 | .ba cs=>AV.mn p cs
 | .fn _ cs=>AV.mn p cs
 | _=>true
def AV.mn(p:Nat->Bool):List AV->Bool
 | []=>true
 | x::l=>AV.under p x&&AV.mn p l
end
def Ke(x:AV):List Nat->Bool
 | []=>false
 | l::ls=>AV.has l x||Ke x ls
def nT(md aG:List Nat)(n:Nat):List (Nat×AV)->List (Nat×AV)
 | [] => []
 | (d,x)::l=>if bD d md then nT md aG n l else (d,if Ke x aG || !AV.under (cN n) x then .un else x)::nT md aG n l
def Fu(aG:List Nat)(n:Nat):List (Nat×AV)->List Nat
 | [] => []
 | (d,x)::l=>match Ke x aG || !AV.under (cN n) x with
  | true=>d::Fu aG n l
  | false=>Fu aG n l
def P3(b:Code)(aG:List Nat)(n:Nat)(l:List (Nat×AV)):List Nat:=rU b++Fu aG n l
def yw(aG:List Nat)(n:Nat):List AV->List AV
 | [] => []
 | x::l=>(if Ke x aG || !AV.under (cN n) x then .un else x)::yw aG n l
def P4(aG:List Nat)(n:Nat):En->En
 | .box T cs => .box T (yw aG n cs)
 | .iter ml c seen left=>if bD ml aG||decide (n<=ml) then .dead else .iter ml c seen left
 | .bo _ _ _ => .dead
 | e=>e
def qB(aG:List Nat)(n:Nat):List (Nat×En)->List (Nat×En)
 | [] => []
 | (k,e)::l=>if bD k aG||decide (n<=k) then qB aG n l else (k,P4 aG n e)::qB aG n l
def qC:List Nat->List Nat->Bool
 | [],[]=>true
 | a::l,b::m=>a==b&&qC l m
 | _,_=>false
def lR(p:Nat->Bool):List (Nat×AV)->Bool
 | []=>true
 | (_,x)::l=>AV.under p x&&lR p l
def yx(F:Tc->Type)(h:t=t')(x:F t):F t':=h▸x
/- is xX is there as is azB -/
def Y8(a b:Unit->Int):List VC := [fun _=>a ()=b ()]
mutual
def CS(fz:Option (List Nat))(B:Bs)(S:Sx):AV->AV->Option (List VC)
 | _,.un=>some []
 | .int k a,.int k' b=>if k=k' then some (Y8 a b) else none
 | .lit k a,.int k' b=>if k=k' then some [fun _=>a=b ()] else none
 | .int k a,.lit k' b=>if k=k' then some [fun _=>a ()=b] else none
 | .lit k a,.lit k' b=>if k=k'/\a=b then some [] else none
 | .bool a,.bool b=>some [fun _=>a ()=b ()]
 | .aR a,.bool b=>some [fun _=>a=b ()]
 | .bool a,.aR b=>some [fun _=>a ()=b]
 | .aR a,.aR b=>if a=b then some [] else none
 | .str a,.str b=>some [fun _=>a ()=b ()]
 | .nil,.nil=>some []
 | .nil,.sl _ _ l=>some [fun _=>l () = []]
 | .nil,.own loc=>match fz with
  | none=>if decide (S.n<=loc) then some [] else none
  | some _=>none
 | .sl fr t l,.sl fr' t' m=>if h:t'=t then (if fr || !fr' then some [fun _=>l ()=yx (fun t=>List t.el) h (m ())] else none) else none
 | .own loc,.sl fr' t' m=>match fz with
  | none=>none
  | some ks=>if bD loc ks then none else match bf B S loc with
   | some (.row fr t _ l)=>if h:t'=t then (if fr || !fr' then some [fun _=>l ()=yx (fun t=>List t.el) h (m ())] else none) else none
   | _=>none
 | .wide fr t l n,.sl fr' t' m=>if h:t'=t then (if fr || !fr' then some [fun _=>(l ()).take (n ())=yx (fun t=>List t.el) h (m ())] else none) else none
 | .wide fr t l n,.wide fr' t' m k=>if h:t'=t then (if fr || !fr' then some [fun _=>l ()=yx (fun t=>List t.el) h (m ()),fun _=>n ()=k ()] else none) else none
 | .own loc,.own pM=>if loc=pM then some [] else none
 | .cG t loc a b,.cG t' pM a' b'=>if t=t'/\loc=pM then some [fun _=>a ()=a' ()/\b ()=b' ()] else none
 | .ptr loc off,.ptr pM rM=>if loc=pM/\off=rM then some [] else none
 | .ptr loc off,.bh m rM=>match fz with
  | none=>none
  | some ks=>if bD loc ks then none else match bf B S loc with
   | some (.box _ cs)=>if off=rM then th fz B S cs m else none
   | _=>none
 | .mp loc,.mp pM=>if loc=pM then some [] else none
 | .it l l2,.it l' Y9=>if l=l'/\l2=Y9 then some [] else none
 | .bh l off,.bh m rM=>if off=rM then th fz B S l m else none
 | .cZ t loc k off,.cZ t' pM k' rM=>if t=t'/\(loc=pM/\off=rM) then some (Y8 k k') else none
 | .agg l,.agg m=>th fz B S l m
 | .ba l,.ba m=>th fz B S l m
 | .fn f l,.fn g m=>if f=g then th fz B S l m else none
 | _,_=>none
def th(fz:Option (List Nat))(B:Bs)(S:Sx):List AV->List AV->Option (List VC)
 | [],[]=>some []
 | x::l,y::m=>match CS fz B S x y,th fz B S l m with
  | some a,some b=>some (a++b)
  | _,_=>none
 | _,_=>none
end
def Ah(B:Bs)(S:Sx):List (Nat×AV)->Option (List VC)
 | []=>some []
 | (d,y)::l=>match dD B S d,Ah B S l with
  | some x,some b=>(CS none B S x y).map fun a=>a++b
  | _,_=>none
def mo(fz:Option (List Nat))(B:Bs)(S:Sx):List (Nat×En)->Option (List VC)
 | []=>some []
 | (k,.box T cs)::l=>match bf B S k with
  | some (.box T' cs')=>if T=T' then (match th fz B S cs' cs,mo fz B S l with
   | some a,some b=>some (a++b)
   | _,_=>none) else none
  | _=>none
 | (k,.row fr t T m)::l=>match mo fz B S l with
  | some b=>match bf B S k with
   | some (.row fr' t' T' m')=>if h:t=t' then (if T=T'/\(fr' || !fr)=true then some ((fun _=>m' ()=yx (fun t=>List t.el) h (m ()))::b) else none) else none
   | some _=>none
   | none=>match fz with
    | none=>if S.n<=k then some ((fun _=>m () = [])::b) else none
    | some _=>none
  | none=>none
 | (k,.map fr ag c t T m)::l=>match mo fz B S l with
  | some b=>match bf B S k with
   | some (.map fr' jI c' t' T' m')=>if h:t=t' then (if T=T'/\ag=jI/\c=c'/\(fr' || !fr)=true then some ((fun _=>m' ()=yx (fun t=>List Kx->Option t.el) h (m ()))::b) else none) else none
   | _=>none
  | none=>none
 | (k,.iter ml c seen left)::l=>match mo fz B S l with
  | some b=>match bf B S k with
   | some (.iter E8 c' P5 P6)=>if ml=E8/\c=c' then some ((fun _=>P5 ()=seen ())::(fun _=>P6 ()=left ())::b) else none
   | _=>none
  | none=>none
 | (k,.ft c)::l=>match mo fz B S l with
  | some b=>match bf B S k with
   | some (.ft c')=>some ((fun _=>c' ()=c ())::b)
   | _=>none
  | none=>none
 | (_,.bo _ _ _)::_=>none
 | (_,.dead)::_=>none
def En.under(p:Nat->Bool):En->Bool
 | .box _ cs=>AV.mn p cs
 | .iter ml _ _ _=>p ml
 | .bo ml _ _=>p ml
 | _=>true
def jv(p:Nat->Bool):List (Nat×En)->Bool
 | []=>true
 | (k,e)::l=>p k&&En.under p e&&jv p l
def lS{α β:Type}(l:List (Nat × α)):List (Nat × β)->Bool
 | []=>true
 | (d,_)::m=>(aj l d).isNone&&lS l m
def m8(B:Bs)(S:Sx)(ov:List (Nat×AV))(oe:List (Nat×En)):Fm :=
 match Ah B S ov,mo none B S oe with
 | some a,some b => .fin (a++b)
 | _,_ => .ff 1
inductive Wd where
 | yes|no|ask (d:Nat) (c:Unit->Bool) (b:Bool)|stuck
def nU(B:Bs)(S:Sx)(ops:List Oper)(o:Oper):Wd :=
 match o.guard with
 | none => .yes
 | some (j,b)=>match ops[j]?.bind (·.dst) with
  | some d=>match nQ B S d with
   | .aR c=>if c=b then .yes else .no
   | .bool c => .ask d c b
   | .ba [] => .no
   | _ => .stuck
  | none => .stuck
def Kf(C:Cx)(N:Nat)(B:Bs)(S:Sx)(o:Oper):Option (Sx×List VC) :=
 match nM C.ty C.cs (bf B S) (bM B S) o.op with
 | some (av,vcs)=>match o.dst with
  | some d=>(bJ B S N d av).map fun S'=>(S',vcs)
  | none=>some (S,vcs)
 | none=>none
def Kg(C:Cx)(N:Nat)(B:Bs)(S:Sx)(o:Oper):Option (Sx×List VC) :=
 match o.op with
 | .call c=>match c.callee with
  | .value (.func f)=>match bD f (ca C) && !C.fx with
   | true=>Kf C N B (rT C.nb B (PV (c.args.toList.map (bM B S))) S) o
   | false=>none
  | _=>none
 | _=>none
def nV(C:Cx)(N:Nat)(B:Bs)(S:Sx)(o:Oper):Option (Sx×List VC) :=
 match nM C.ty C.cs (bf B S) (bM B S) o.op with
 | some (av,vcs)=>match o.dst with
  | some d=>(bJ B S N d av).map fun S'=>(S',vcs)
  | none=>some (S,vcs)
 | none=>match J7 C N B (cond C.fx S (Ka C.nb B S o.op)) o with
  | some r=>some r
  | none=>match Fp C N B S o with
   | some r=>some r
   | none=>match Fq C N B S o with
    | some r=>some r
    | none=>Kg C N B S o
def nz(l:Nat):Bool := ! l==0
def Fv:List (Nat×En)->Bool
 | []=>true
 | (_,e)::l=>En.under nz e&&Fv l
def P7(B:Bs)(S:Sx):Bool:=(aj B.e 0).isNone&&(lR nz S.t&&(lR nz B.t&&(Fv S.e&&Fv B.e)))
def mq(C:Cx)(N:Nat)(B:Bs)(S:Sx)(o:Oper):Option ((Sx->Fm)->Fm) :=
 match o.op with
 | .range T x=>match fu C.ty T,bM B S x,o.dst with
  | some (.map _ _ _ _ _),.mp loc,some d=>match bf B S loc with
   | some (.map _ _ c _ _ _)=>match (aj B.e S.n).isNone,bJ B ⟨S.t,S.e,S.n+1⟩ N d (.it loc S.n) with
    | true,some S'=>some fun K => .all Nat (fun _=>True) fun n=>K ⟨S'.t,(S.n,.iter loc c (fun _ => []) fun _=>n)::S'.e,S'.n⟩
    | _,_=>none
   | _=>none
  | _,_,_=>none
 | .next x false=>match bM B S x,o.dst with
  | .it loc l2,some d=>match bf B S loc,bf B S l2 with
   | some (.map _ _ c _ _ m),some (.iter ml c' seen left)=>if ml=loc/\c'=c/\(aj B.e l2).isNone=true then
    match bJ B S N d (.ba [.aR false]),bJ B S N d (.ba [.aR true,.un,.un]) with
    | some S1,some S2=>some fun K => .br (fun _=>left ()==0) (.all Unit (fun _=>∀ key x,dC c.ls key=true->m () key=some x->key∈seen ()) fun _=>K S1) (.all (List Kx×Nat) (fun p=>dC c.ls p.1=true/\(m () p.1).isSome=true/\p.1∉seen ()/\p.2<left ()) fun p=>K ⟨S2.t,(l2,.iter loc c (fun _=>p.1::seen ()) fun _=>p.2)::S2.e,S2.n⟩)
    | _,_=>none
    else none
   | _,_=>none
  | _,_=>none
 | .call c=>match c.callee with
  | .value x=>match bM B S x,C.yl,bf B S 0,o.dst with
   | .fG l,some y,some (.ft k),some d=>match P7 B S&&AV.mn (fun _=>false) (y.el fun _=>k () - 1),th none B S (c.args.toList.map (bM B S)) (y.el fun _=>k () - 1),bJ B S N d (.aR true),bJ B S N d (.aR false) with
    | true,some vcs,some S1,some S2=>some fun K => .vc ((fun _=>l ()=y.l ()/\0<k ()/\k ()<=y.n ())::vcs) (.and (K ⟨S1.t,(0,.ft fun _=>k ()+1)::S1.e,S1.n⟩) (K ⟨S2.t,(0,.ft fun _=>0)::S2.e,S2.n⟩))
    | _,_,_,_=>none
   | _,_,_,_=>none
  | _=>none
 | _=>none
def pN(N:Nat)(B:Bs)(S:Sx)(o:Oper):Option Sx:=match o.dst with
 | some d=>bJ B S N d (.ba [])
 | none=>some S
def cd(C:Cx)(N:Nat)(B:Bs)(ops:List Oper):List Oper->Sx->(Sx->Fm)->Fm
 | [],S,k=>k S
 | o::rest,S,k =>
  let go (S:Sx):Fm:=match mq C N B S o with
   | some f=>f fun S'=>cd C N B ops rest S' k
   | none=>match nV C N B S o with
    | some (S',[])=>cd C N B ops rest S' k
    | some (S',vcs) => .vc vcs (cd C N B ops rest S' k)
    | none => .ff (1000+rest.length)
  let no (S:Sx):Fm:=match pN N B S o with
   | some S'=>cd C N B ops rest S' k
   | none => .ff 3
  match nU B S ops o with
  | .yes=>go S
  | .no=>no S
  | .ask d c b=>match bJ B S N d (.aR true),bJ B S N d (.aR false) with
   | some S1,some S2 => .br c (if b then go S1 else no S1) (if b then no S2 else go S2)
   | _,_ => .ff 4
  | .stuck => .ff 5
def lv(ef:List Nat):Op->Bool
 | .alloc _=>false
 | .box _ _=>false
 | .store _ _ _=>false
 | .buildSlice _ _ _=>false
 | .makeSlice _ _ _=>false
 | .makeMap _ _=>false
 | .mapUpdate _ _ _ _=>false
 | .mapEntry _ _ _=>false
 | .entryStore _ _ _ _=>false
 | .insert _ _ _ _=>false
 | .range _ _=>false
 | .next _ _=>false
 | .call c=>match c.callee with
  | .builtin .len=>true
  | .builtin .min=>true
  | .builtin .max=>true
  | .builtin _=>false
  | .value (.func f) => !bD f ef
  | _ => !bD 999999999 ef
 | _=>true
def alU:Op->Bool
 | .mapEntry _ _ _=>true
 | _=>false
def qD:Op->Bool
 | .move _=>true
 | .assign _=>true
 | .binOp _ _ _ _ _=>true
 | .unOp _ _ _=>true
 | .convert _ _ _=>true
 | .fieldAddr _ _ _=>true
 | .indexAddr _ _ _=>true
 | .extract _ _=>true
 | _=>false
def Za(ef:List Nat)(me:Bool)(op:Op):Bool:=lv ef op&&(!me||qD op)
def P8(ef:List Nat)(me:Bool):List Oper->List Bool->List Bool
 | [],acc=>acc
 | o::l,acc=>P8 ef me l (acc ++ [Za ef me o.op&&o.after.all fun e => !Region.binds .any e||acc.getD e.on false])
def Zb(l:List Oper):Nat->List Nat->List Nat
 | 0,acc=>acc
 | j+1,acc=>Zb l j (match bD j acc with
  | true=>(match l[j]? with
   | some o=>(o.after.toList.filter fun e=>Region.binds .any e).map (fun e=>e.on)++acc
   | none=>acc)
  | false=>acc)
def Zc:Nat->List Bool->Option Nat
 | _,[]=>none
 | i,b::l=>if b then Zc (i+1) l else some i
def alV(l:List Oper)(f:List Bool):Bool:=match Zc 0 f with
 | none=>false
 | some j =>
  let an:=Zb l (j+1) [j]
  (List.range l.length).any fun i=>f.getD i false && !bD i an&&match l[i]? with
   | some o => !qD o.op
   | none=>false
def Zd(ef:List Nat)(l:List Oper):Bool:=(l.any fun o=>alU o.op)||alV l (P8 ef false l [])
def yy(ef:List Nat)(l:List Oper):List Nat :=
 let f:=P8 ef (Zd ef l) l []
 ((List.range l.length).filter fun i=>f.getD i false)++(List.range l.length).filter fun i => !f.getD i false
def Ai(ef:List Nat)(me:Bool):List Oper->Nat
 | []=>0
 | o::l=>if Za ef me o.op then Ai ef me l+1 else 0
def rV(ef:List Nat)(l:List Oper):Nat:=Ai ef (Zd ef l) l
def CT:List (Nat×List Nat)->Nat->List Nat
 | [],_ => []
 | (k,l)::m,id=>cond (k==id) l (CT m id)
def join(K B:Bs):Bs:=⟨K.t++B.t,K.e++B.e⟩
def leave(K:Bs)(S:Sx):Sx:=⟨S.t++K.t,S.e++K.e,S.n⟩
def Ze(l:List Oper)(np:Nat):Bool:=(List.range np).all fun i=>match l[i]? with
 | some o=>(match o.guard with
  | none=>true
  | some (j,_)=>decide (j<i)&&o.after.any fun e=>Region.binds .any e&&e.on==j) && !OU o.op&&o.op.operands.toList.all fun x=>match x with
  | .tmp s=>OT l np i o s
  | _=>true
 | none=>false
def gV:List Nat->Nat->Nat
 | [],_=>0
 | k::l,j=>if k=j then 0 else gV l j+1
def Kh(σ:List Nat)(e:Edge):Edge := { e with on:=gV σ e.on }
def oS(σ:List Nat)(o:Oper):Oper := { o with after:=o.after.map (Kh σ),guard:=match o.guard with
 | some (g,b)=>some (gV σ g,b)
 | none=>none }
def Zf : Oper := ⟨none, .move (.const (.bool false)), 0, "", #[], none⟩
def cf(σ:List Nat)(l:List Oper):List Oper := σ.map fun i=>oS σ (match l[i]? with
 | some o=>o
 | none=>Zf)
def fe(σ:List Nat)(n:Nat):Bool := σ.length==n&&((List.range n).all fun j => σ[gV σ j]? == some j)&&(List.range n).all fun k=>match σ[k]? with
 | some i=>decide (i<n)&&gV σ i==k
 | none=>false
def wC(l:List Oper)(i:Nat):Bool:=match l[i]? with
 | some oi=>(List.range l.length).all fun j=>match l[j]? with
  | some oj=>i==j||(oi.after.any fun e=>Region.binds .any e&&e.on==j)||(oj.after.any fun e=>Region.binds .any e&&e.on==i)||oi.apart l.toArray oj
  | none=>true
 | none=>true
def Aj(l:List Oper)(np:Nat)(ku:Nat->Bool):Bool :=
 (List.range l.length).all fun j=>match l[j]? with
  | some o=>(o.after.all fun e => !Region.binds .any e||decide (e.on<j))&&(decide (j<np)||(List.range np).all fun i=>ku i||waits .any l.toArray l.length j i)
  | none=>false
def laid(ef:List Nat)(l:List Oper):List Oper:=cf (yy ef l) l
def uP(l:List Oper)(np i:Nat):Bool:=decide (i<np)&&match l[i]? with
 | some o=>qD o.op
 | none=>false
def Fw(ef:List Nat)(ops:List Oper)(N:Nat):Bool :=
 let l:=laid ef ops
 let np:=rV ef l
 fe (yy ef ops) ops.length&&(Aj l np (uP l np)&&(zI l np N&&(Ze l np&&((List.range np).all (fun i => !uP l np i||wC l i)&&l.all fun o => !OU o.op))))
def CU(ef:List Nat)(σ:List Nat)(np:Nat)(ops:List Oper)(N:Nat):Bool :=
 let l:=cf σ ops
 decide (np<=l.length)&&((l.take np).all (fun o=>lv ef o.op)&&(fe σ ops.length&&(Aj l np (uP l np)&&(zI l np N&&(Ze l np&&((List.range np).all (fun i => !uP l np i||wC l i)&&l.all fun o => !OU o.op))))))
def CV(l:List Oper)(np:Nat):Bool:=(List.range l.length).all fun j=>decide (j<=np)||match l[j]? with
 | some o=>o.after.any fun e=>Region.binds .any e&&e.on==j - 1
 | none=>false
def mr(l:List Oper)(done:List Nat):List Nat:=(List.range l.length).filter fun i=>match l[i]? with
 | some o => !bD i done&&o.after.all fun e => !Region.binds .any e||bD e.on done
 | none=>false
def Ki:List Nat->(Nat->Fm)->Fm
 | [],_ => .ff 19
 | [i],f=>f i
 | i::l,f => .and (f i) (Ki l f)
def yz(l:List Oper):List Nat->Option Nat
 | []=>none
 | i::is=>if (match l[i]? with
  | some o=>qD o.op&&o.dst.isSome&&wC l i
  | none=>false) then some i else yz l is
def Ak:Op->Bool
 | .move _=>true
 | .assign _=>true
 | .load _ _=>true
 | .indexAddr _ _ _=>true
 | .unOp _ _ _=>true
 | .fieldAddr _ _ _=>true
 | .extract _ _=>true
 | _=>false
def P9(l:List Oper)(done:List Nat)(i:Nat):Bool:=match l[i]? with
 | some oi=>Ak oi.op&&(oi.dst.isSome&&(List.range l.length).all fun j=>j==i||(bD j done||(waits .any l.toArray l.toArray.size j i||match l[j]? with
  | some oj=>oi.apart l.toArray oj&&Ak oj.op
  | none=>true)))
 | none=>false
def Fy(l:List Oper)(done:List Nat):List Nat->Option Nat
 | []=>none
 | i::is=>if P9 l done i then some i else Fy l done is
def tj(C:Cx)(N:Nat)(B:Bs)(l:List Oper):Nat->List Nat->Sx->(Sx->Fm)->Fm
 | 0,done,S,k=>match mr l done with
  | []=>k S
  | _ => .ff 19
 | fuel+1,done,S,k =>
  let one (i:Nat):Fm:=match l[i]? with
   | some o=>cd C N B l [o] S fun S'=>tj C N B l fuel (i::done) S' k
   | none => .ff 19
  match mr l done with
  | []=>k S
  | [i]=>one i
  | is=>match yz l is with
   | some i=>one i
   | none=>Ki is one
def Zg(C:Cx)(N:Nat)(B:Bs)(l:List Oper)(np:Nat)(S:Sx)(k:Sx->Fm):Fm :=
 cd C N B l (l.take np) S fun S'=>match CV l np with
  | true=>cd C N B l (l.drop np) S' k
  | false=>tj C N B l (l.length - np) (List.range np) S' k
def Kj(C:Cx)(N:Nat)(B:Bs)(l:List Oper)(S:Sx)(k:Sx->Fm):Fm:=Zg C N B l (rV (ca C) l) S k
def eC(C:Cx)(N:Nat)(B:Bs)(ops:List Oper):mm->Sx->(Sx->Fm)->Fm
 | .nil,S,k=>k S
 | .bad,_,_ => .ff 20
 | .op i r,S,k=>match ops[i]? with
  | some o=>cd C N B ops [o] S fun S'=>eC C N B ops r S' k
  | none => .ff 21
 | .alt a b,S,k => .and (eC C N B ops a S k) (eC C N B ops b S k)
def Kk:List (Nat×mm)->Nat->Option mm
 | [],_=>none
 | (k,s)::m,id=>cond (k==id) (some s) (Kk m id)
def Kl:List (Nat×yu)->Nat->Option yu
 | [],_=>none
 | (k,s)::m,id=>cond (k==id) (some s) (Kl m id)
def bQ:List Nat->mm->mm
 | [],r=>r
 | i::is,r => .op i (bQ is r)
def nW(ks:List Nat):List (Nat×En)->List (Nat×En)
 | [] => []
 | (k,e)::l=>match bD k ks,e with
  | true,_=>nW ks l
  | false,.bo _ _ _=>nW (k::ks) l
  | false,.dead=>nW (k::ks) l
  | false,e=>(k,e)::nW (k::ks) l
def Km(C:Cx)(N:Nat)(B:Bs)(ops:List Oper)(o:Oper)(S:Sx):Option Sx:=match nU B S ops o with
 | .yes=>match mq C N B S o with
  | some _=>none
  | none=>match nV C N B S o with
   | some (S',_)=>some S'
   | none=>none
 | .no=>pN N B S o
 | _=>none
def wD(ks:List Nat)(S:Sx):Sx:=⟨pK ks S.t,nW [] S.e,S.n⟩
def Fz(C:Cx)(N:Nat)(B:Bs)(ops:List Oper):List Nd->List (Sx×List Nat)->Option (List (Sx×List Nat))
 | [],acc=>some acc
 | nd::ez,acc=>match acc[nd.up.1]?,ops[nd.up.2]? with
  | some p,some o=>match Km C N B ops o p.1 with
   | some S'=>Fz C N B ops ez (acc ++ [(wD nd.ks S',p.2++List.replicate (S'.n - p.1.n) nd.up.2)])
   | none=>none
  | _,_=>none
def Qa(x:Nat):List Nat->Nat
 | []=>0
 | y::l=>cond (y==x) (Qa x l+1) (Qa x l)
def Qb(x:Nat):Nat->List Nat->Nat
 | _,[]=>0
 | k,y::l=>match y==x,k with
  | true,0=>0
  | true,k+1=>Qb x k l+1
  | false,k=>Qb x k l+1
def tk(b:List Nat):List Nat->List Nat->List Nat
 | _,[] => []
 | seen,x::l=>Qb x (Qa x seen) b::tk b (x::seen) l
def gO(n0:Nat)(σ:List Nat)(l:Nat):Nat:=match decide (l<n0) with
 | true=>l
 | false=>match σ[l - n0]? with
  | some k=>n0+k
  | none=>l
def yA(g:Nat->Nat):List (Nat×AV)->List (Nat×AV)
 | [] => []
 | (k,x)::l=>(k,AV.fW g x)::yA g l
def FA(B:Bs)(n0:Nat)(own:List Nat)(T:Sx×List Nat)(S':Sx):Fm:=match S'.n==T.1.n with
 | true=>match qC (tk T.2 [] own) (List.range own.length) with
  | true=>m8 B S' T.1.t T.1.e
  | false=>match fe (tk T.2 [] own) own.length&&decide (n0+own.length<=S'.n) with
   | true=>m8 B ⟨yA (gO n0 (tk T.2 [] own)) S'.t,ko (gO n0 (tk T.2 [] own)) S'.e,S'.n⟩ T.1.t T.1.e
   | false => .ff 26
 | false => .ff 27
def FB(ez:List Nd)(t j oi:Nat):Bool:=match ez[t]? with
 | some nd=>nd.up.1==j&&(nd.up.2==oi && ! t==0)
 | none=>false
def Kn(C:Cx)(N:Nat)(B:Bs)(ops:List Oper)(n0:Nat)(ez:List Nd)(cr:List (Sx×List Nat))(j:Nat)(Sj:Sx×List Nat):List (Nat×Nat×Nat)->Fm->Fm
 | [],A=>A
 | (_,oi,t)::es,A=>match ops[oi]?,cr[t]? with
  | some o,some T => .and (match FB ez t j oi with
   | true=>cd C N B ops [o] Sj.1 fun _ => .fin []
   | false=>cd C N B ops [o] Sj.1 fun S'=>FA B n0 (Sj.2++List.replicate (S'.n - Sj.1.n) oi) T S') (Kn C N B ops n0 ez cr j Sj es A)
  | _,_ => .ff 28
def FC(B:Bs)(S:Sx):Bool:=lR (cN S.n) S.t&&(jv (cN S.n) S.e&&(lS B.t S.t&&lS B.e S.e))
def FD(C:Cx)(N:Nat)(B:Bs)(ops:List Oper)(n0:Nat)(ez:List Nd)(cr:List (Sx×List Nat))(k:Sx->Fm):Nat->List Nd->Fm
 | _,[] => .ff 29
 | j,nd::r=>match cr[j]? with
  | some Sj=>match FC B Sj.1 with
   | true=>match nd.ed with
    | []=>k Sj.1
    | es=>Kn C N B ops n0 ez cr j Sj es (FD C N B ops n0 ez cr k (j+1) r)
   | false => .ff 24
  | none => .ff 30
def Ko(C:Cx)(N:Nat)(B:Bs)(ops:List Oper)(ez:List Nd)(S:Sx)(k:Sx->Fm):Fm:=match ez with
 | []=>k S
 | nd::r=>match decide (C.nb<=S.n)&&(lR (cN S.n) B.t&&jv (cN S.n) B.e) with
  | true=>match Fz C N B ops r [(wD nd.ks S,[])] with
   | some cr=>FD C N B ops S.n (nd::r) cr k 0 (nd::r)
   | none => .ff 22
  | false => .ff 25
def Kq(C:Cx)(N:Nat)(B:Bs)(id:Nat)(ops:List Oper)(S:Sx)(k:Sx->Fm):Fm:=match Kl C.lt id with
 | some t=>eC C N B ops (bQ t.row .nil) S fun S'=>eC C N B ops (bQ t.pre .nil) S' fun S'=>Ko C N B ops t.ez S' fun S'=>eC C N B ops (bQ t.post .nil) S' k
 | none=>match Kk C.sc id with
  | some s=>eC C N B ops s S k
  | none=>Kj C N B (laid (ca C) ops) S k
def Qc(C:Cx)(N:Nat)(B:Bs)(ops:List Oper):List Oper->Sx->Option Sx
 | [],S=>some S
 | o::l,S=>match nU B S ops o with
  | .yes=>match nV C N B S o with
   | some (S',_)=>Qc C N B ops l S'
   | none=>none
  | .no=>match pN N B S o with
   | some S'=>Qc C N B ops l S'
   | none=>none
  | _=>none
def Qd(C:Cx)(N:Nat)(B:Bs)(l:List Oper)(ks:List Nat)(S:Sx)(go:(Sx->Fm)->Fm)(k:Sx->Fm):Fm:=match Qc C N B l l S with
 | none => .ff 22
 | some S1=>match lR (cN S1.n) (pK ks S1.t)&&(jv (cN S1.n) (nW [] S1.e)&&(lS B.t (pK ks S1.t)&&lS B.e (nW [] S1.e))) with
  | true => .and (go fun S'=>if S'.n=S1.n then m8 B S' (pK ks S1.t) (nW [] S1.e) else .ff 23) (k ⟨pK ks S1.t,nW [] S1.e,S1.n⟩)
  | false => .ff 24
def Qe(C:Cx)(id:Nat)(f:Unit->Fm):Fm:=match bD id C.ct with
 | true => .all Unit (fun _=>True) f
 | false=>f ()
/- two PL change alo names -/
def yB(p q l:Nat):Nat:=cond (l==p) q (cond (l==q) p l)
def wE(p q l:Nat):Bool := !(l==p||l==q)
def Qf(nb:Nat)(B:Bs)(p q:Nat)(S:Sx):Sx:=cond (decide (nb<=p)&&(decide (nb<=q)&&(decide (p<S.n)&&(decide (q<S.n)&&(lR (wE p q) B.t&&jv (wE p q) B.e))))) ⟨yA (yB p q) S.t,ko (yB p q) S.e,S.n⟩ S
mutual
def Kr:AV->AV->List (Nat×Nat)
 | .own p,.own q=>cond (p==q) [] [(p,q)]
 | .agg l,.agg m=>Ks l m
 | .ba l,.ba m=>Ks l m
 | _,_ => []
def Ks:List AV->List AV->List (Nat×Nat)
 | x::l,y::m=>Kr x y++Ks l m
 | _,_ => []
end
def Qg(B:Bs)(S:Sx):List (Nat×AV)->List (Nat×Nat)
 | [] => []
 | (d,y)::l=>match dD B S d with
  | some x=>Kr x y++Qg B S l
  | none=>Qg B S l
def Ku(B:Bs)(S:Sx):List (Nat×En)->List (Nat×Nat)
 | [] => []
 | (k,.box _ cs)::l=>match bf B S k with
  | some (.box _ cs')=>Ks cs' cs++Ku B S l
  | _=>Ku B S l
 | _::l=>Ku B S l
def FE(nb:Nat)(B:Bs)(prs:Sx->List (Nat×Nat)):Nat->Sx->Sx
 | 0,S=>S
 | n+1,S=>match prs S with
  | []=>S
  | (p,q)::_=>FE nb B prs n (Qf nb B p q S)
def Al(nb:Nat)(B:Bs)(S:Sx)(ov:List (Nat×AV))(oe:List (Nat×En)):Sx:=FE nb B (fun S=>Qg B S ov++Ku B S oe) 3 S
/- nothing in it is called new -/
mutual
def AV.qE:AV->Bool
 | .sl fr _ _ => !fr
 | .wide fr _ _ _ => !fr
 | .bh cs _=>AV.nX cs
 | .agg cs=>AV.nX cs
 | .ba cs=>AV.nX cs
 | .fn _ cs=>AV.nX cs
 | _=>true
def AV.nX:List AV->Bool
 | []=>true
 | x::l=>AV.qE x&&AV.nX l
end
def FF(B:Bs)(N:Nat):List Nat->List AV->Sx->Option Sx
 | [],[],S=>some S
 | p::ps,x::xs,S=>match bJ B S N p x with
  | some S'=>FF B N ps xs S'
  | none=>none
 | _,_,_=>none
structure Fx where
 C:Cx
 N:Nat
 Ls:List (Nat×Lp)
 R:Bs->Sx->Fm
def Zh:List (Nat×Lp)->Nat->Option Lp
 | [],_=>none
 | (k,v)::l,d=>if k==d then some v else Zh l d
mutual
def run(F:Fx)(fuel:Nat)(c:Code)(B:Bs)(S:Sx)(K:List Kt):Fm :=
 match fuel with
 | 0 => .ff 6
 | fuel+1=>match c with
  | .skip=>cont F fuel B S K
  | .label _=>cont F fuel B S K
  | .region id ops draw=>Qe F.C id fun _=>match draw with
   | true=>match J9 F.C.jn id with
    | some ks=>Qd F.C F.N B (laid (ca F.C) ops.toList) ks (CO F.C id (cond F.C.fx S (rT F.C.nb B (CT F.C.fz id) S))) (Kq F.C F.N B id ops.toList (CO F.C id (cond F.C.fx S (rT F.C.nb B (CT F.C.fz id) S)))) fun S'=>cont F fuel B S' K
    | none=>Kq F.C F.N B id ops.toList (CO F.C id (cond F.C.fx S (rT F.C.nb B (CT F.C.fz id) S))) fun S'=>cont F fuel B S' K
   | false=>cd F.C F.N B ops.toList ops.toList (CO F.C id (cond F.C.fx S (rT F.C.nb B (CT F.C.fz id) S))) fun S'=>cont F fuel B S' K
  | .seq a b=>run F fuel a B S (.code b::K)
  | .cond x a b=>match bM B S x with
   | .aR true=>run F fuel a B S K
   | .aR false=>run F fuel b B S K
   | .bool t => .br t (run F fuel a B S K) (run F fuel b B S K)
   | _ => .ff 8
  | .block id b=>run F fuel b B S (.block id::K)
  | .loop b=>match keyOf b with
   | some k =>
    let go (lp:Lp):Fm :=
     let aG:=dE (lp.oe lp.x0)
     let n:=m7 S.n aG
     let K':Bs:=⟨nT (P3 b aG n S.t) aG n S.t,qB aG n S.e⟩
     let B':=join K' B
     .and (.vc [fun _=>lp.I lp.x0] (m8 B S (lp.ov lp.x0) (lp.oe lp.x0))) (.all lp.X lp.I fun x =>
      if qC (dE (lp.oe x)) aG&&lR (cN n) (lp.ov x)&&jv (cN n) (lp.oe x)&&lS B'.t (lp.ov x)&&lS B'.e (lp.oe x) then
      run F fuel b B' ⟨lp.ov x,lp.oe x,n⟩ (.back B K' (fun Bi S'=>if n<=S'.n then (match lp.nx with
       | some nx => .vc [fun _=>lp.I (nx x)/\lp.μ (nx x) ()<lp.μ x ()] (m8 Bi (Al F.C.nb Bi S' (lp.ov (nx x)) (lp.oe (nx x))) (lp.ov (nx x)) (lp.oe (nx x)))
       | none => .ex lp.X (fun y=>lp.I y/\lp.μ y ()<lp.μ x ()) fun y=>m8 Bi (Al F.C.nb Bi S' (lp.ov y) (lp.oe y)) (lp.ov y) (lp.oe y)) else .ff 17)::K)
      else .ff 15)
    match bD k F.C.ul with
    | true=>run F fuel b B S (.again b::K)
    | false=>match Zh F.Ls k with
     | some lp=>go lp
     | none => .P0 go
   | none => .ff 9
  | .exit id=>exitTo F fuel id B S K
  | .ret=>lA F fuel B S K
  | .rangeFunc g ps ag bd=>match CR K||F.C.yl.isSome,bM B S g with
   | false,.fn f dH=>match Jv F.C.lQ f with
    | some it=>match (match AV.dJ false dH with
     | true=>pB (bf B S) it.sig dH
     | false=>none) with
     | some ai=>match it.go ai with
      | some r => .Y6 fun rp =>
       let aG:=dE (rp.oe 0)
       let n:=m7 S.n aG
       let K':Bs:=⟨nT (rU ag++rU bd++ps.toList++Fu aG n S.t) aG n S.t,qB aG n S.e⟩
       let B':=join K' B
       .and (.vc [r.pre,fun _=>rp.I 0] (m8 B S [] (rp.oe 0))) (.all Nat (fun k=>rp.I k/\k<=r.n ()) fun k =>
        if qC (dE (rp.oe k)) aG&&jv (cN n) (rp.oe k)&&lS B'.e (rp.oe k)&&AV.nX (r.el fun _=>k) then
         match FF B' F.N ps.toList (r.el fun _=>k) ⟨[],rp.oe k,n⟩ with
         | some Sk => .and (.all Unit (fun _=>k<r.n ()) fun _=>run F fuel ag B' Sk [.wB fun B1 S1=>run F fuel bd B1 S1 [.dS (fun Bi S'=>if n<=S'.n then .vc [fun _=>rp.I (k+1)] (m8 Bi (Al F.C.nb Bi S' [] (rp.oe (k+1))) [] (rp.oe (k+1))) else .ff 17) (fun id S'=>exitTo F fuel id B ⟨K'.t,S'.e++K'.e,S'.n⟩ K) (fun S'=>lA F fuel B ⟨K'.t,S'.e++K'.e,S'.n⟩ K)]])
          (.all Unit (fun _=>k=r.n ()) fun _=>cont F fuel B ⟨K'.t,rp.oe k++K'.e,n⟩ K)
         | none => .ff 46
        else .ff 15)
      | none => .ff 42
     | none => .ff 43
    | none => .ff 44
   | _,_ => .ff 45
  | _ => .ff 10
def cont(F:Fx)(fuel:Nat)(B:Bs)(S:Sx)(K:List Kt):Fm :=
 match fuel with
 | 0 => .ff 6
 | fuel+1=>match K with
  | []=>F.R B S
  | .code c::K=>run F fuel c B S K
  | .block _::K=>cont F fuel B S K
  | .back _ _ f::_=>f B S
  | .again b::K=>run F fuel (.loop b) B S K
  | .wB f::_=>f B S
  | .dS f _ _::_=>f B S
def exitTo(F:Fx)(fuel:Nat)(id:Nat)(B:Bs)(S:Sx)(K:List Kt):Fm :=
 match fuel with
 | 0 => .ff 6
 | fuel+1=>match K with
  | [] => .ff 11
  | .code _::K=>exitTo F fuel id B S K
  | .block Kv::K=>if Kv=id then cont F fuel B S K else exitTo F fuel id B S K
  | .back Bo K' _::K=>exitTo F fuel id Bo (leave K' S) K
  | .again _::K=>exitTo F fuel id B S K
  | .wB _::_ => .ff 41
  | .dS _ x _::_=>x id S
def lA(F:Fx)(fuel:Nat)(B:Bs)(S:Sx)(K:List Kt):Fm :=
 match fuel with
 | 0 => .ff 6
 | fuel+1=>match K with
  | []=>F.R B S
  | .code _::K=>lA F fuel B S K
  | .block _::K=>lA F fuel B S K
  | .back Bo K' _::K=>lA F fuel Bo (leave K' S) K
  | .again _::K=>lA F fuel B S K
  | .wB _::_ => .ff 41
  | .dS _ _ l::_=>l S
end
def tl(C:Cx)(B:Bs)(S:Sx):List ResultVar->Option (List AV)
 | []=>some []
 | .tmp t::l=>(tl C B S l).map fun r=>nQ B S t::r
 | .cell p T::l=>match aj C.ty T with
  | some i=>match E3 (bf B S) i.ti.agg i.sz (nQ B S p),tl C B S l with
   | some x,some r=>some (x::r)
   | _,_=>none
  | none=>none
def Kw:List AV->AV
 | [x]=>x
 | l => .ba l
def Zi(C:Cx)(rs:List ResultVar)(want:AV)(es:List (Nat×En))(B:Bs)(S:Sx):Fm :=
 match tl C B S rs with
 | some l=>match CS (some (dE es)) B S (Kw l) want,mo (some (dE es)) B S es with
  | some a,some b => .fin (a++b)
  | _,_ => .ff 13
 | none => .ff 14
def Zj(C:Cx)(rs:List ResultVar)(want:AV)(B:Bs)(S:Sx):Sx:=FE C.nb B (fun S=>match tl C B S rs with
 | some l=>Kr (Kw l) want
 | none => []) 3 S
def CW(C:Cx)(rs:List ResultVar)(want:AV)(es:List (Nat×En))(B:Bs)(S:Sx):Fm:=Zi C rs want es B (Zj C rs want B S)
def wF:Nat->List AV->List (Nat×AV)
 | _,[] => []
 | k,x::l=>(k,x)::wF (k+1) l
def kx(f:Func):Code:=f.body.getD .skip
def En.qE:En->Bool
 | .box _ cs=>AV.nX cs
 | .row fr _ _ _ => !fr
 | .map fr _ _ _ _ _ => !fr
 | _=>true
def Ky:List (Nat×En)->Bool
 | []=>true
 | (_,e)::l=>En.qE e&&Ky l
def Qh(ks:List Nat)(l:Nat):Bool:=bD l ks
def Am(C:Cx)(Ls:List (Nat×Lp))(fn:Func)(args:List AV)(An:List (Nat×En))(n0:Nat)(want:AV)(es:List (Nat×En)):Fm :=
 if decide (n0<=C.nb)&&decide (args.length<=fn.ntmps)&&AV.nX args&&Ky An&&AV.under (Qh (dE es)) want&&jv (Qh (dE es)) es&&yr (dE es) n0 then
 run ⟨C,fn.ntmps,Ls,CW C fn.results.toList want es⟩ 100000 (kx fn) ⟨[],[]⟩ ⟨wF 0 args,An,n0⟩ [] else .ff 18
def FG(C:Cx)(rs:List ResultVar)(n:Unit->Nat)(B:Bs)(S:Sx):Fm:=match tl C B S rs,bf B S 0 with
 | some _,some (.ft k) => .fin [fun _=>k ()=n ()+1\/k ()=0]
 | _,_ => .ff 47
def Qi(C:Cx)(Ls:List (Nat×Lp))(fn:Func)(args:List AV)(l:Nat)(res:Ju):Fm :=
 if decide (1<=C.nb)&&decide (args.length+1<=fn.ntmps)&&AV.nX args then
 run ⟨{ C with yl:=some ⟨fun _=>l,res.n,res.el⟩ },fn.ntmps,Ls,FG C fn.results.toList res.n⟩ 100000 (kx fn) ⟨[],[]⟩ ⟨wF 0 (.fG (fun _=>l)::args),[(0,.ft fun _=>1)],1⟩ [] else .ff 18
def yC(C:Cx)(Ls:List (Nat×Lp))(fn:Func)(args:List AV)(want:AV):Fm:=Am C Ls fn args [] 0 want []
def gK(P:Program)(o:Oper)(a:Act)(w:World)(K:Act->World->Prop):Prop :=
 (∃ v w',(execOp a.eval o).run P w = .ok (.value v) w'/\K (a.put o.dst v) w') \/
 (∃ w',(execOp a.eval o).run P w = .ok .skip w'/\K (a.put o.dst undef) w') \/
 (∃ f args,(execOp a.eval o).run P w = .ok (.enter f args) w/\Calls P f args w fun e w'=>∃ v,e = .returned v/\K (a.put o.dst v) w') \/
 ∃ l f tmps x y,(execOp a.eval o).run P w = .ok (.round l f tmps x y) w/\RoundIn Fence.wide 0 P l f tmps x y w fun e w'=>∃ v,e = .returned v/\K (a.put o.dst v) w'
theorem Kz{P:Program}(h:o.uponIn Fence.wide 0 P a K Q ((execOp a.eval o).run P w)):o.wpIn Fence.wide 0 P a w K Q:=⟨fun _ _=>trivial,h⟩
theorem Qj{P:Program}(h:o.wpIn Fence.wide 0 P a w K Q):o.uponIn Fence.wide 0 P a K Q ((execOp a.eval o).run P w):=h.2
theorem gK.wp{P:Program}(h:gK P o a w K)(hK:∀ a w,K a w->K' a w):o.wpIn Fence.wide 0 P a w K' Q:=by
 refine Kz ?_;rcases h with ⟨v,w',h1,h2⟩|⟨w',h1,h2⟩|⟨f,args,h1,h2⟩|⟨l,f,tmps,x,y,h1,h2⟩
 . rw [h1]; exact hK _ _ h2
 . rw [h1]; exact hK _ _ h2
 . rw [h1];refine⟨fun h=>by simp [Fence.wide] at h,(callsIn_wide.2 h2).mono fun e w' h3 => ?_⟩;obtain⟨v,rfl,h4⟩:=h3;exact hK _ _ h4
 . rw [h1];refine⟨fun h=>by simp [Fence.wide] at h,h2.mono fun e w' h3 => ?_⟩;obtain⟨v,rfl,h4⟩:=h3;exact hK _ _ h4
section
variable{P:Program}{ops:Array Oper}{Q:Exit->Act->World->Prop}{K:Act->World->Prop}{i:Nat}{o:Oper}{a:Act}{w:World}
theorem Qk(ho:ops[i]? = some o)(hw:Region.wanted o (yielded ops a.tmps)=true)(h:o.wpIn Fence.wide 0 P a w K Q):wpOpIn Fence.wide 0 P ops Q i K a w:=by
 unfold wpOpIn;simp only [ho];rw [aC hw];exact h
theorem Zk(ho:ops[i]? = some o)(hw:Region.wanted o (yielded ops a.tmps)=false)(hK:K (a.put o.dst undef) w):wpOpIn Fence.wide 0 P ops Q i K a w:=by
 unfold wpOpIn;simp only [ho];rw [aw (by rw [hw]; simp)];exact⟨fun _ _=>trivial,hK⟩
abbrev wd(r:Option Nat):Fence := { Fence.wide with round:=r }
theorem Zl{r:Option Nat}(hd:∀ c,o.op ≠ .defer c)(h:o.wpIn Fence.wide 0 P a w K Q):o.wpIn (wd r) 0 P a w K Q:=by
 refine⟨fun _ _=>trivial,?_⟩;have h2:=Qj h;rw [Oper.semAt_eq _ _ _ hd];generalize (execOp a.eval o).run P w=R at h2 ⊢
 cases R with
 | ok x w'=>cases x<;>exact h2
 | halt x w'=>cases x<;>exact h2
theorem Ql{r:Option Nat}:∀ {l:List Oper} {a:Act} {w:World},(∀ o∈l,∀ c,o.op ≠ .defer c)->wpListIn Fence.wide 0 P ops Q l a w->wpListIn (wd r) 0 P ops Q l a w
 | [],_,_,_,h=>h
 | o::l,a,w,hd,h=>by
  unfold wpListIn at h ⊢;split
  . rename_i hw;rw [aC hw] at h;exact Zl (hd o (.head _)) (Oper.wpIn_mono (fun a w h=>Ql (fun o ho=>hd o (.tail _ ho)) h) h)
  . rename_i hw;rw [aw hw] at h;exact⟨fun _ _=>trivial,Ql (fun o ho=>hd o (.tail _ ho)) h.2⟩
theorem KA{r:Option Nat}{md:Region.Mode}(hd:∀ (j:Nat) o c,ops[j]? = some o->o.op ≠ .defer c):∀ (f) (listed) (a) (w),wpAnyIn Fence.wide 0 P md ops Q f listed a w->wpAnyIn (wd r) 0 P md ops Q f listed a w
 | 0,_,_,_,h=>h
 | f+1,listed,a,w,h=>by
  refine⟨h.1,fun i hi => ?_⟩;have h2:=h.2 i hi;unfold wpOpIn at h2 ⊢;split
  . rename_i ho;rw [ho] at h2;exact KA hd f _ _ _ h2
  . rename_i o ho;rw [ho] at h2;dsimp only at h2;split
    . rename_i hw;rw [aC hw] at h2;exact Zl (fun c=>hd i o c ho) (Oper.wpIn_mono (fun a w h=>KA hd f _ _ _ h) h2)
    . rename_i hw;rw [aw hw] at h2;exact⟨fun _ _=>trivial,KA hd f _ _ _ h2.2⟩
theorem Qm(h:qD o.op=true)(r)(w):o.about P w r=none:=by
 unfold Oper.about;cases ho:o.op<;>first|rfl|(rw [ho] at h; cases h)
end
section
variable{P:Program}{w w' w0:World}{ρ ρ':Nat->Option Rl}{base:Nat}{ro ro':Nat->Prop}{S0:Pm}{Φ : Pm->Prop}{N:Nat}{B:Bs}{S:Sx}{a:Act}
theorem KB{x:AV}{cs:List AV}(h:cellsOf x=some cs)(hx:af w ρ base ro x v):∃ vs,v.cells=vs.toArray/\aV w ρ base ro cs vs:=by
 unfold cellsOf at h;split at h
 . cases h;obtain⟨vs,rfl,hE⟩:=hx.oK;exact⟨vs,rfl,hE⟩
 . cases h
 . cases h
 . rename_i h1 h2 h3;cases h;exact⟨[v],Pp hx (fun l e=>h1 l e) (fun e=>h2 e),.cons hx .nil⟩
theorem alW{x:AV}(h:AV.one x=true)(hx:af w ρ base ro x v):v.oneCell'=true:=by
 cases hx<;>first|rfl|cases h
theorem alX(fr)(t)(x):(aP fr t x).all AV.one=true:=by cases t<;>rfl
theorem Qn{l:List AV}(h:l.all AV.one=true)(hE:aV w ρ base ro l vs):∀ u∈vs,u.oneCell'=true:=by
 intro u hu;obtain⟨j,hj⟩:=kT.1 hu;have ah:=(cF.1 hj).1;have hl:j<l.length:=by rw [hE.1]; exact ah
 exact alW (dL.1 h _ (iT hl)) (hE.2 j _ u (bc hl) hj)
theorem alY{s:Sg}{x y:AV}(h:norm s x=some y)(hx:af w ρ base ro x v):af w ρ base ro y v:=by
 unfold norm at h;split at h
 . split at h<;>cases h; exact hx
 . split at h<;>cases h
   rw [hx.mh];exact .int _ _
 . cases h; exact hx
 . cases h;rw [hx.pD];exact .bool _
 . cases h; exact hx
 . split at h<;>cases h; exact hx
 . cases h;rw [hx.wj];exact .sl true _ _ none 0 [] rfl (aA _) (Rd.nil _ _ _ _) (fun _ h=>by cases h) (fun _ _ h=>by cases h) (fun k cs j x v h=>by simp at h)
 . split at h<;>cases h
   exact z9 hx
 . split at h<;>cases h
   exact hx
 . split at h<;>cases h
   obtain⟨A,c,css,_,_,_,_,_,_,oM⟩:=hx.pE;rw [oM] at hx ⊢;exact .wide _ _ _ _ A c (aA _) hx
 . cases h;rw [hx.wj];exact .wide true _ (fun _ => []) (fun _=>0) none 0 (aA _) (.sl true _ _ none 0 [] rfl (aA _) (Rd.nil _ _ _ _) (fun _ h=>by cases h) (fun _ _ h=>by cases h) (fun k cs j x v h=>by simp at h))
 . cases h
theorem Zm:∀ {ss:List Sg} {xs ys:List AV} {vs:List Value},J5 ss xs=some ys->aV w ρ base ro xs vs->aV w ρ base ro ys vs
 | [],[],ys,vs,h,hE=>by cases h; exact hE
 | s::ss,x::xs,ys,vs,h,hE=>by
  unfold J5 at h;split at h
  . rename_i y JS h1 h2;cases h;obtain⟨v,us,rfl,hx,m5⟩:=hE.head;exact .cons (alY h1 hx) (Zm h2 m5)
  . cases h
 | [],_::_,_,_,h,_=>by cases h
 | _::_,[],_,_,h,_=>by cases h
theorem Zn{l:List AV}(h:aV w ρ base ro l vs):aV w ρ base ro (l.map AV.loose) vs:=by
 exact Yq
theorem KC{x:AV}{e:Unit->t.el}(h:wz t x=some (f,e))(hx:af w ρ base ro x v):∃ vs,v.cells=vs.toArray/\vs.length=t.size/\aV w ρ base ro (aP f t e) vs:=by
 unfold wz at h;split at h
 . rename_i cs hc;split at h
   . rename_i ys hn
     cases hm:J4 t ys with
     | none=>rw [hm] at h; cases h
     | some e' =>
      rw [hm] at h;simp only [du,bF,sU] at h;obtain⟨rfl,rfl⟩:=h;obtain⟨vs,h1,hE⟩:=KB hc hx;have pO:=Zm hn hE;have Zo:=alL hm;have h3:aV w ρ base ro (aP (AV.dJ true ys) t e') vs:=by
       cases hp:AV.dJ true ys with
       | true=>rw [Zo.2 hp]; exact pO
       | false=>rw [Zo.1]; exact Zn pO
      exact⟨vs,h1,by rw [<- h3.1,O2],h3⟩
   . cases h
 . cases h
theorem Ao{x:Unit->t.el}(h:aV w ρ base ro (aP f t x) vs)(Qo:g=true->f=true):aV w ρ base ro (aP g t x) vs:=by
 cases g with
 | true=>rw [Qo rfl] at h; exact h
 | false=>rw [CG f]; exact Zn h
theorem Zp{t:Tc}:∀ {xs:List AV} {us:List Value} {f:Bool} {es:List (Unit->t.el)},CM t xs=some (f,es)->aV w ρ base ro xs us->∃ css:List (List Value),us.map Value.cells=css.map List.toArray/\css.length=es.length/\∀ (k:Nat) cs e,css[k]? = some cs->es[k]? = some e->cs.length=t.size/\aV w ρ base ro (aP f t e) cs
 | [],us,f,es,h,hE=>by
  simp only [CM,bF,sU] at h;obtain⟨rfl,rfl⟩:=h;rw [hE.none];exact⟨[],rfl,rfl,fun k cs e hk=>by simp at hk⟩
 | x::xs,us,f,es,h,hE=>by
  unfold CM at h;split at h
  . rename_i f1 e1 f2 es2 h1 h2;simp only [bF,sU] at h;obtain⟨rfl,rfl⟩:=h;obtain⟨v,us',rfl,hx,m5⟩:=hE.head;obtain⟨vs,k1,k2,k3⟩:=KC h1 hx;obtain⟨css,q1,q2,q3⟩:=Zp h2 m5;refine⟨vs::css,by simp [k1,q1],by simp [q2],fun k cs e hk he => ?_⟩
    cases k with
    | zero =>
     simp only [ox,bF] at hk he;subst hk; subst he;exact⟨k2,Ao k3 KD⟩
    | succ k =>
     obtain⟨r1,r2⟩:=q3 k cs e (by simpa using hk) (by simpa using he);exact⟨r1,Ao r2 KE⟩
  . cases h
theorem iJ(ρ)(loc)(r):eR ρ loc r loc=some r:=by unfold eR; rw [aC rfl]
theorem qF(h : ρ loc=none):Ext ρ (eR ρ loc r):=by
 intro l r' hl;unfold eR;split
 . rename_i e; subst e; rw [h] at hl; cases hl
 . exact hl
theorem tn(h : ρ loc=some r):eR ρ loc r = ρ:=by
 funext l;unfold eR;split
 . rename_i e; subst e; exact h.symm
 . rfl
theorem bm.alloc(H:bm w0 S0 N B S a w ρ ro){cells:List AV}(hB:aj B.e S.n=none)(hE:aV w ρ w0.heap.size ro cells cs) :
 bm w0 S0 N B ⟨S.t,(S.n,.box T cells)::S.e,S.n+1⟩ a (w.alloc (.cells cs.toArray T)) (eR ρ S.n (.box w.heap.size)) ro:=by
 have fw:=H.fresh S.n (aA _);have gp:∀ b,b<w.heap.size->(w.alloc (.cells cs.toArray T)).heap[b]? = w.heap[b]? := fun b hb=>ql w _ b hb;refine H.oP (H.from_.alloc _) (by simp) (fun b hb _=>gp b hb) (fun b hb => ?_) hB (Cd _) (B3 _) (.inl (qF fw)) (.inl fun b hb=>by rw [fw] at hb; cases hb) ⟨w.heap.size,cs,iJ _ _ _,rA w _,?_⟩
 . injection hb with hb;subst hb;exact .inr ⟨aA _,by simp⟩
 . exact hE.mono (fun b _ hb=>gp b hb) (qF fw) (aA _) fun _ h=>h
theorem af.Zq:af w (eR ρ loc (.box b)) base ro (.ptr loc 0) (.pointer (some ⟨b,0,none⟩)) := .ptr _ _ _ (iJ _ _ _)
theorem Zr{j:TypeInfo}(hj:P.info? T=some j)(hz:j.zero=some z):(zeroValue T).run P w = .ok z w:=by
 exact Ys
theorem alZ(aE:cT P C.ty)(H:aS w0 Φ N B S a w)(hi:aj C.ty T=some i)(hz:i.z.isEmpty=false)(hB:aj B.e S.n=none)(hp:bJ B ⟨S.t,(S.n,.box T i.z)::S.e,S.n+1⟩ N d (.ptr S.n 0)=some S') :
 gK P ⟨some d,.alloc T,ty,pos,aft,gd⟩ a w (aS w0 Φ N B S'):=by
 obtain⟨S0,hS,ρ,ro,H⟩:=H;obtain⟨j,z,hj,yd,hE⟩:=Pu (w:=w) (ρ := ρ) (base:=w0.heap.size) (ro:=ro) (aE T i hi) hz;have H2:=H.alloc (T:=T) hB hE;refine .inl ⟨.pointer (some ⟨w.heap.size,0,none⟩),_,?_,S0,hS,_,_,H2.put hp .Zq⟩;unfold execOp;simp only [Instr.alloc,bp,Zr hj yd,bI,newVar,newRow,bL];rfl
theorem al0(H:aS w0 Φ N B S a w){cells:List AV}(hc:cellsOf (bM B S x)=some cells)(hB:aj B.e S.n=none)(hp:bJ B ⟨S.t,(S.n,.box T cells)::S.e,S.n+1⟩ N d (.ptr S.n 0)=some S') :
 gK P ⟨some d,.box T x,ty,pos,aft,gd⟩ a w (aS w0 Φ N B S'):=by
 obtain⟨S0,hS,ρ,ro,H⟩:=H;obtain⟨vs,hv,hE⟩:=KB hc (H.get x);have H2:=H.alloc (T:=T) hB hE;refine .inl ⟨.pointer (some ⟨w.heap.size,0,none⟩),_,?_,S0,hS,_,_,H2.put hp .Zq⟩;unfold execOp;simp only [Instr.box,bp,newVar,newRow,bL,hv];rfl
theorem Zs(h:v.cells=vs.toArray):v.cells.toList=vs:=by rw [h]
theorem setRow_size(w:World)(g)(cs):(w.setRow g cs).heap.size=w.heap.size:=by simp [World.setRow]
theorem Qp(w:World)(g)(cs):w.grownBy (w.setRow g cs) (some g) :=
 ⟨rfl,rfl,rfl,by rw [setRow_size]; exact aA _,fun k _ hk=>Eu w g k cs fun e=>hk (by rw [e])⟩
theorem bm.Ap(H:bm w0 S0 N B S a w ρ ro){g:Nat}(h : ρ l=some r)(hb:r.b8=some g):∀ k,some g=some k->S0.may w0 k:=by
 intro k hk;injection hk with hk;subst hk;have h0:=(H.own l r g h hb).2.2;refine⟨?_,h0.2⟩;rcases h0.1 with h1|⟨r0,h1,h2⟩
 . exact .inl h1
 . exact .inr ⟨l,r0,h1,h2⟩
theorem al1(aE:cT P C.ty)(H:aS w0 Φ N B S a w){cells cs:List AV}(hi:aj C.ty T=some i)(hc:cellsOf (bM B S y)=some cs)(hx:bM B S x = .ptr loc off)(he:bf B S loc=some (.box T' cells))(hl:cs.length=i.sz)(l8:off+i.sz<=cells.length)(h1:cs.all AV.one=true)(hB:aj B.e loc=none) :
 gK P ⟨none,.store T x y,ty,pos,aft,gd⟩ a w (aS w0 Φ N B ⟨S.t,(loc,.box T' (cells.take off++cs++cells.drop (off+i.sz)))::S.e,S.n⟩):=by
 obtain⟨S0,hS,ρ,ro,H⟩:=H;have kb:=H.get x;rw [hx] at kb;obtain⟨b,hb,mu⟩:=kb.ya;obtain⟨b',us,aW,hh,hE⟩:=H.en _ _ he;rw [hb] at aW;injection aW with aW;injection aW with aW;subst aW;obtain⟨vs,hv,pO⟩:=KB hc (H.get y);obtain⟨j,hj,wG,_⟩:=JK (aE T i hi);have mv:vs.length=i.sz:=by rw [<- pO.1]; exact hl
 have EL:us.length=cells.length:=hE.1.symm;have cC:=IU (P:=P) (w:=w) (T:=T) (n:=i.sz) (g:=b) (off:=off) (t:=T') (cur:=us.toArray) (v:=a.eval y) (cs:=vs) (by rw [hj]; simp [wG]) (Zs hv) mv hh (by simp [EL]; exact l8) (Qn h1 pO);have ah:=(jA.1 hh).1;have mj:loc<S.n:=by
  exact Zt
 have oT:(execOp a.eval ⟨none,.store T x y,ty,pos,aft,gd⟩).run P w = .ok .skip (w.setRow b (us.toArray.toList.take off++vs++us.toArray.toList.drop (off+i.sz)).toArray):=by
  exact Zu
 have bt:¬ ro b:=(H.own loc _ b hb rfl).2.1;have hw:∀ b',ro b'->b'<w.heap.size->(w.setRow b (us.toArray.toList.take off++vs++us.toArray.toList.drop (off+i.sz)).toArray).heap[b']? = w.heap[b']? := fun b' aW _=>Eu _ _ _ _ (fun e=>bt (e▸aW));have H2:=H.oP (w':=w.setRow b (us.toArray.toList.take off++vs++us.toArray.toList.drop (off+i.sz)).toArray) (loc:=loc) (n:=S.n) (r := .box b) (e := .box T' (cells.take off++cs++cells.drop (off+i.sz))) (H.from_.grown (Qp _ _ _) (H.Ap hb rfl)) (by rw [setRow_size]; exact aA _) (fun b' aW aT=>Eu _ _ _ _ (fun e=>aT _ hb (by rw [e]; rfl))) (fun b' aW => .inl ⟨_,hb,aW⟩) hB (aA _) mj (.inl Qq) (.inl fun b' aW=>by rw [hb] at aW; cases aW) (by
  refine⟨b,_,iJ _ _ _,Oc w b _ _ T' _ hh,?_⟩;rw [tn hb];exact (((hE.take off).append pO).append (hE.drop (off+i.sz))).mono hw (Ext.refl _) (aA _) fun _ h=>h)
 exact .inr (.inl ⟨_,oT,S0,hS,_,_,H2⟩)
end
end Go.Proofs.YtamjbkaclhgffaaGreat
