/-
  The abstract run of a function's code: what is to be shown of plain data, so that the code does what is said of it.
-/
import Derived.Test.YtamjbkaclhgffaaGreatSh7
import Derived.OrdersIn
import Derived.TacticsIn
set_option linter.all false
namespace Go.Proofs.YtamjbkaclhgffaaGreat
open Go.RowKit
variable{a:Act}{K K':Act->World->Prop}{aft:Array Edge}{f g:Bool}{C:Cx}{Q:Exit->Act->World->Prop}{cs vs:List Value}{T T' b d loc off:Nat}{o:Oper}{x y:Operand}{gd:Option (Nat×Bool)}{r:Rl}{pos:String}{S':Sx}{t t':Tc}{ty:TypeId}{v z:Value}{w:World}{i:fC}
structure Lp where
 X:Type
 ov:X->List (Nat×AV)
 oe:X->List (Nat×En)
 I:X->Prop
 μ:X->Unit->Nat
 x0:X
 nx:Option (X->X)
structure Rp where
 oe:Nat->List (Nat×En)
 I:Nat->Prop
inductive Fm where
 | ff (why:Nat)
 | vc (l:List VC) (A:Fm)
 | br (c:Unit->Bool) (A B:Fm)
 | fin (l:List VC)
 | and (A B:Fm)
 | all (X:Type) (I:X->Prop) (f:X->Fm)
 | ex (X:Type) (I:X->Prop) (f:X->Fm)
 | RS (f:Lp->Fm)
 | exr (f:Rp->Fm)
def pz:List VC->Prop
 | []=>True
 | [c]=>c ()
 | c::l=>c ()/\pz l
def Fm.P:Fm->Prop
 | .ff _=>False
 | .vc l A=>pz l/\A.P
 | .br c A B=>(c ()=true->A.P)/\(c ()=false->B.P)
 | .fin l=>pz l
 | .and A B=>A.P/\B.P
 | .all _ I f=>∀ x,I x->(f x).P
 | .ex _ I f=>∃ x,I x/\(f x).P
 | .RS f=>∃ lp,(f lp).P
 | .exr f=>∃ rp,(f rp).P
inductive Kt where
 | code (c:Code)
 | block (id:Nat)
 | back (Bo K:Bs) (f:Bs->Sx->Fm)
 | again (b:Code)
 | xO (f:Bs->Sx->Fm)
 | eG (f:Bs->Sx->Fm) (x:Nat->Sx->Fm) (l:Sx->Fm)
def D9:List Kt->Bool
 | []=>false
 | .xO _::_=>true
 | .eG _ _ _::_=>true
 | _::K=>D9 K
/- y0 a piece of code writes -/
def RT:List Oper->List Nat
 | [] => []
 | o::l=>match o.dst with
  | some d=>d::RT l
  | none=>RT l
def tA:Code->List Nat
 | .region _ ops _=>RT ops.toList
 | .seq a b=>tA a++tA b
 | .cond _ a b=>tA a++tA b
 | .block _ b=>tA b
 | .loop b=>tA b
 | .scope b=>tA b
 | _ => []
def keyOf:Code->Option Nat
 | .region id _ _=>some id
 | .seq a b=>match keyOf a with
  | some k=>some k
  | none=>keyOf b
 | .cond _ a b=>match keyOf a with
  | some k=>some k
  | none=>keyOf b
 | .block _ b=>keyOf b
 | .loop b=>keyOf b
 | .scope b=>keyOf b
 | _=>none
def de(n l:Nat):Bool:=decide (l<n)
/- Bh RD aa8 are named are such as p aoM -/
mutual
def AV.under(p:Nat->Bool):AV->Bool
 | .own l=>p l
 | .dv _ l _ _=>p l
 | .cW _ l _ _=>p l
 | .ptr l _=>p l
 | .fX l _ _=>p l
 | .mp l=>p l
 | .bL l=>p l
 | .it _ l=>p l
 | .bP cs _=>AV.nR p cs
 | .agg cs=>AV.nR p cs
 | .bp cs=>AV.nR p cs
 | .fn _ cs=>AV.nR p cs
 | _=>true
def AV.nR(p:Nat->Bool):List AV->Bool
 | []=>true
 | x::l=>AV.under p x&&AV.nR p l
end
def L5(x:AV):List Nat->Bool
 | []=>false
 | l::ls=>AV.has l x||L5 x ls
def pA(md aT:List Nat)(n:Nat):List (Nat×AV)->List (Nat×AV)
 | [] => []
 | (d,x)::l=>if bV d md then pA md aT n l else (d,if L5 x aT || !AV.under (de n) x then .un else x)::pA md aT n l
def G0(aT:List Nat)(n:Nat):List (Nat×AV)->List Nat
 | [] => []
 | (d,x)::l=>match L5 x aT || !AV.under (de n) x with
  | true=>d::G0 aT n l
  | false=>G0 aT n l
def RU(b:Code)(aT:List Nat)(n:Nat)(l:List (Nat×AV)):List Nat:=tA b++G0 aT n l
def zo(aT:List Nat)(n:Nat):List AV->List AV
 | [] => []
 | x::l=>(if L5 x aT || !AV.under (de n) x then .un else x)::zo aT n l
def RV(aT:List Nat)(n:Nat):En->En
 | .box T cs => .box T (zo aT n cs)
 | .iter ml c seen left=>if bV ml aT||decide (n<=ml) then .dead else .iter ml c seen left
 | .bL _ _ _ => .dead
 | e=>e
def sF(aT:List Nat)(n:Nat):List (Nat×En)->List (Nat×En)
 | [] => []
 | (k,e)::l=>if bV k aT||decide (n<=k) then sF aT n l else (k,RV aT n e)::sF aT n l
def sG:List Nat->List Nat->Bool
 | [],[]=>true
 | a::l,b::m=>a==b&&sG l m
 | _,_=>false
def nh(p:Nat->Bool):List (Nat×AV)->Bool
 | []=>true
 | (_,x)::l=>AV.under p x&&nh p l
def zp(F:Tc->Type)(h:t=t')(x:F t):F t':=h▸x
/- is y0 is there as is aEm -/
def aa9(a b:Unit->Int):List VC := [fun _=>a ()=b ()]
mutual
def Ea(fz:Option (List Nat))(B:Bs)(S:Sx):AV->AV->Option (List VC)
 | _,.un=>some []
 | .int k a,.int k' b=>if k=k' then some (aa9 a b) else none
 | .lit k a,.int k' b=>if k=k' then some [fun _=>a=b ()] else none
 | .int k a,.lit k' b=>if k=k' then some [fun _=>a ()=b] else none
 | .lit k a,.lit k' b=>if k=k'/\a=b then some [] else none
 | .bool a,.bool b=>some [fun _=>a ()=b ()]
 | .aV a,.bool b=>some [fun _=>a=b ()]
 | .bool a,.aV b=>some [fun _=>a ()=b]
 | .aV a,.aV b=>if a=b then some [] else none
 | .str a,.str b=>some [fun _=>a ()=b ()]
 | .nil,.nil=>some []
 | .nil,.sl _ _ l=>some [fun _=>l () = []]
 | .nil,.own loc=>match fz with
  | none=>if decide (S.n<=loc) then some [] else none
  | some _=>none
 | .sl fr t l,.sl fr' t' m=>if h:t'=t then (if fr || !fr' then some [fun _=>l ()=zp (fun t=>List t.el) h (m ())] else none) else none
 | .own loc,.sl fr' t' m=>match fz with
  | none=>none
  | some ks=>if bV loc ks then none else match bF B S loc with
   | some (.row fr t _ l)=>if h:t'=t then (if fr || !fr' then some [fun _=>l ()=zp (fun t=>List t.el) h (m ())] else none) else none
   | _=>none
 | .wide fr t l n,.sl fr' t' m=>if h:t'=t then (if fr || !fr' then some [fun _=>(l ()).take (n ())=zp (fun t=>List t.el) h (m ())] else none) else none
 | .wide fr t l n,.wide fr' t' m k=>if h:t'=t then (if fr || !fr' then some [fun _=>l ()=zp (fun t=>List t.el) h (m ()),fun _=>n ()=k ()] else none) else none
 | .own loc,.own rm=>if loc=rm then some [] else none
 | .cW t loc a b,.cW t' rm a' b'=>if t=t'/\loc=rm then some [fun _=>a ()=a' ()/\b ()=b' ()] else none
 | .ptr loc off,.ptr rm tr=>if loc=rm/\off=tr then some [] else none
 | .ptr loc off,.bP m tr=>match fz with
  | none=>none
  | some ks=>if bV loc ks then none else match bF B S loc with
   | some (.box _ cs)=>if off=tr then uL fz B S cs m else none
   | _=>none
 | .mp loc,.mp rm=>if loc=rm then some [] else none
 | .it l l2,.it l' l2'=>if l=l'/\l2=l2' then some [] else none
 | .bP l off,.bP m tr=>if off=tr then uL fz B S l m else none
 | .dv t loc k off,.dv t' rm k' tr=>if t=t'/\(loc=rm/\off=tr) then some (aa9 k k') else none
 | .agg l,.agg m=>uL fz B S l m
 | .bp l,.bp m=>uL fz B S l m
 | .fn f l,.fn g m=>if f=g then uL fz B S l m else none
 | _,_=>none
def uL(fz:Option (List Nat))(B:Bs)(S:Sx):List AV->List AV->Option (List VC)
 | [],[]=>some []
 | x::l,y::m=>match Ea fz B S x y,uL fz B S l m with
  | some a,some b=>some (a++b)
  | _,_=>none
 | _,_=>none
end
def BF(B:Bs)(S:Sx):List (Nat×AV)->Option (List VC)
 | []=>some []
 | (d,y)::l=>match dR B S d,BF B S l with
  | some x,some b=>(Ea none B S x y).map fun a=>a++b
  | _,_=>none
def nS(fz:Option (List Nat))(B:Bs)(S:Sx):List (Nat×En)->Option (List VC)
 | []=>some []
 | (k,.box T cs)::l=>match bF B S k with
  | some (.box T' cs')=>if T=T' then (match uL fz B S cs' cs,nS fz B S l with
   | some a,some b=>some (a++b)
   | _,_=>none) else none
  | _=>none
 | (k,.row fr t T m)::l=>match nS fz B S l with
  | some b=>match bF B S k with
   | some (.row fr' t' T' m')=>if h:t=t' then (if T=T'/\(fr' || !fr)=true then some ((fun _=>m' ()=zp (fun t=>List t.el) h (m ()))::b) else none) else none
   | some _=>none
   | none=>match fz with
    | none=>if S.n<=k then some ((fun _=>m () = [])::b) else none
    | some _=>none
  | none=>none
 | (k,.map fr ag c t T m)::l=>match nS fz B S l with
  | some b=>match bF B S k with
   | some (.map fr' kO c' t' T' m')=>if h:t=t' then (if T=T'/\ag=kO/\c=c'/\(fr' || !fr)=true then some ((fun _=>m' ()=zp (fun t=>List Kx->Option t.el) h (m ()))::b) else none) else none
   | _=>none
  | none=>none
 | (k,.iter ml c seen left)::l=>match nS fz B S l with
  | some b=>match bF B S k with
   | some (.iter GK c' RW RX)=>if ml=GK/\c=c' then some ((fun _=>RW ()=seen ())::(fun _=>RX ()=left ())::b) else none
   | _=>none
  | none=>none
 | (k,.fY c)::l=>match nS fz B S l with
  | some b=>match bF B S k with
   | some (.fY c')=>some ((fun _=>c' ()=c ())::b)
   | _=>none
  | none=>none
 | (_,.bL _ _ _)::_=>none
 | (_,.dead)::_=>none
def En.under(p:Nat->Bool):En->Bool
 | .box _ cs=>AV.nR p cs
 | .iter ml _ _ _=>p ml
 | .bL ml _ _=>p ml
 | _=>true
def ki(p:Nat->Bool):List (Nat×En)->Bool
 | []=>true
 | (k,e)::l=>p k&&En.under p e&&ki p l
def ni{α β:Type}(l:List (Nat × α)):List (Nat × β)->Bool
 | []=>true
 | (d,_)::m=>(al l d).isNone&&ni l m
def oG(B:Bs)(S:Sx)(ov:List (Nat×AV))(oe:List (Nat×En)):Fm :=
 match BF B S ov,nS none B S oe with
 | some a,some b => .fin (a++b)
 | _,_ => .ff 1
inductive Wd where
 | yes|no|ask (d:Nat) (c:Unit->Bool) (b:Bool)|stuck
def pB(B:Bs)(S:Sx)(ops:List Oper)(o:Oper):Wd :=
 match o.guard with
 | none => .yes
 | some (j,b)=>match (ops[j]?).bind (·.dst) with
  | some d=>match px B S d with
   | .aV c=>if c=b then .yes else .no
   | .bool c => .ask d c b
   | .bp [] => .no
   | _ => .stuck
  | none => .stuck
def L6(C:Cx)(N:Nat)(B:Bs)(S:Sx)(o:Oper):Option (Sx×List VC) :=
 match po C.ty C.cs (bF B S) (cm B S) o.op with
 | some (av,vcs)=>match o.dst with
  | some d=>(cb B S N d av).map fun S'=>(S',vcs)
  | none=>some (S,vcs)
 | none=>none
def L7(C:Cx)(N:Nat)(B:Bs)(S:Sx)(o:Oper):Option (Sx×List VC) :=
 match o.op with
 | .call c=>match c.callee with
  | .value (.func f)=>match bV f (cB C) && !C.fx with
   | true=>L6 C N B (tz C.nb B (RM (c.args.toList.map (cm B S))) S) o
   | false=>none
  | _=>none
 | _=>none
def pC(C:Cx)(N:Nat)(B:Bs)(S:Sx)(o:Oper):Option (Sx×List VC) :=
 match po C.ty C.cs (bF B S) (cm B S) o.op with
 | some (av,vcs)=>match o.dst with
  | some d=>(cb B S N d av).map fun S'=>(S',vcs)
  | none=>some (S,vcs)
 | none=>match LY C N B (cond C.fx S (L3 C.nb B S o.op)) o with
  | some r=>some r
  | none=>match GW C N B S o with
   | some r=>some r
   | none=>match GX C N B S o with
    | some r=>some r
    | none=>L7 C N B S o
def nz(l:Nat):Bool := !(l==0)
def G3:List (Nat×En)->Bool
 | []=>true
 | (_,e)::l=>En.under nz e&&G3 l
def RY(B:Bs)(S:Sx):Bool:=(al B.e 0).isNone&&(nh nz S.t&&(nh nz B.t&&(G3 S.e&&G3 B.e)))
def nT(C:Cx)(N:Nat)(B:Bs)(S:Sx)(o:Oper):Option ((Sx->Fm)->Fm) :=
 match o.op with
 | .range T x=>match fZ C.ty T,cm B S x,o.dst with
  | some (.map _ _ _ _ _),.mp loc,some d=>match bF B S loc with
   | some (.map _ _ c _ _ _)=>match (al B.e S.n).isNone,cb B ⟨S.t,S.e,S.n+1⟩ N d (.it loc S.n) with
    | true,some S'=>some fun K => .all Nat (fun _=>True) fun n=>K ⟨S'.t,(S.n,.iter loc c (fun _ => []) fun _=>n)::S'.e,S'.n⟩
    | _,_=>none
   | _=>none
  | _,_,_=>none
 | .next x false=>match cm B S x,o.dst with
  | .it loc l2,some d=>match bF B S loc,bF B S l2 with
   | some (.map _ _ c _ _ m),some (.iter ml c' seen left)=>if ml=loc/\c'=c/\(al B.e l2).isNone=true then
    match cb B S N d (.bp [.aV false]),cb B S N d (.bp [.aV true,.un,.un]) with
    | some S1,some S2=>some fun K => .br (fun _=>left ()==0) (.all Unit (fun _=>∀ key x,dP c.ls key=true->m () key=some x->key∈seen ()) fun _=>K S1) (.all (List Kx×Nat) (fun p=>dP c.ls p.1=true/\(m () p.1).isSome=true/\p.1∉seen ()/\p.2<left ()) fun p=>K ⟨S2.t,(l2,.iter loc c (fun _=>p.1::seen ()) fun _=>p.2)::S2.e,S2.n⟩)
    | _,_=>none
    else none
   | _,_=>none
  | _,_=>none
 | .call c=>match c.callee with
  | .value x=>match cm B S x,C.yl,bF B S 0,o.dst with
   | .gv l,some y,some (.fY k),some d=>match RY B S&&AV.nR (fun _=>false) (y.el fun _=>k () - 1),uL none B S (c.args.toList.map (cm B S)) (y.el fun _=>k () - 1),cb B S N d (.aV true),cb B S N d (.aV false) with
    | true,some vcs,some S1,some S2=>some fun K => .vc ((fun _=>l ()=y.l ()/\0<k ()/\k ()<=y.n ())::vcs) (.and (K ⟨S1.t,(0,.fY fun _=>k ()+1)::S1.e,S1.n⟩) (K ⟨S2.t,(0,.fY fun _=>0)::S2.e,S2.n⟩))
    | _,_,_,_=>none
   | _,_,_,_=>none
  | _=>none
 | _=>none
def rn(N:Nat)(B:Bs)(S:Sx)(o:Oper):Option Sx:=match o.dst with
 | some d=>cb B S N d (.bp [])
 | none=>some S
def cF(C:Cx)(N:Nat)(B:Bs)(ops:List Oper):List Oper->Sx->(Sx->Fm)->Fm
 | [],S,k=>k S
 | o::rest,S,k =>
  let go (S:Sx):Fm:=match nT C N B S o with
   | some f=>f fun S'=>cF C N B ops rest S' k
   | none=>match pC C N B S o with
    | some (S',[])=>cF C N B ops rest S' k
    | some (S',vcs) => .vc vcs (cF C N B ops rest S' k)
    | none => .ff (1000+rest.length)
  let no (S:Sx):Fm:=match rn N B S o with
   | some S'=>cF C N B ops rest S' k
   | none => .ff 3
  match pB B S ops o with
  | .yes=>go S
  | .no=>no S
  | .ask d c b=>match cb B S N d (.aV true),cb B S N d (.aV false) with
   | some S1,some S2 => .br c (if b then go S1 else no S1) (if b then no S2 else go S2)
   | _,_ => .ff 4
  | .stuck => .ff 5
def mH(ef:List Nat):Op->Bool
 | .alloc _=>false
 | .box _ _=>false
 | .store _ _ _=>false
 | .buildSlice _ _ _=>false
 | .makeSlice _ _ _=>false
 | .makeMap _ _=>false
 | .mapUpdate _ _ _ _=>false
 | .mapEntry _ _ _=>false
 | .entryStore _ _ _ _=>false
 | .insert _ _ _ _=>false
 | .range _ _=>false
 | .next _ _=>false
 | .call c=>match c.callee with
  | .builtin .len=>true
  | .builtin .min=>true
  | .builtin .max=>true
  | .builtin _=>false
  | .value (.func f) => !bV f ef
  | _ => !bV 999999999 ef
 | _=>true
def apL:Op->Bool
 | .mapEntry _ _ _=>true
 | _=>false
def sH:Op->Bool
 | .move _=>true
 | .assign _=>true
 | .binOp _ _ _ _ _=>true
 | .unOp _ _ _=>true
 | .convert _ _ _=>true
 | .fieldAddr _ _ _=>true
 | .indexAddr _ _ _=>true
 | .extract _ _=>true
 | _=>false
def abb(ef:List Nat)(me:Bool)(op:Op):Bool:=mH ef op&&(!me||sH op)
def RZ(ef:List Nat)(me:Bool):List Oper->List Bool->List Bool
 | [],acc=>acc
 | o::l,acc=>RZ ef me l (acc ++ [abb ef me o.op&&o.after.all fun e => !Region.binds .any e||acc.getD e.on false])
def abc(l:List Oper):Nat->List Nat->List Nat
 | 0,acc=>acc
 | j+1,acc=>abc l j (match bV j acc with
  | true=>(match l[j]? with
   | some o=>(o.after.toList.filter fun e=>Region.binds .any e).map (fun e=>e.on)++acc
   | none=>acc)
  | false=>acc)
def abd:Nat->List Bool->Option Nat
 | _,[]=>none
 | i,b::l=>if b then abd (i+1) l else some i
def apM(l:List Oper)(f:List Bool):Bool:=match abd 0 f with
 | none=>false
 | some j =>
  let an:=abc l (j+1) [j]
  (List.range l.length).any fun i=>f.getD i false && !bV i an&&match l[i]? with
   | some o => !sH o.op
   | none=>false
def abe(ef:List Nat)(l:List Oper):Bool:=(l.any fun o=>apL o.op)||apM l (RZ ef false l [])
def zq(ef:List Nat)(l:List Oper):List Nat :=
 let f:=RZ ef (abe ef l) l []
 ((List.range l.length).filter fun i=>f.getD i false)++(List.range l.length).filter fun i => !f.getD i false
def BG(ef:List Nat)(me:Bool):List Oper->Nat
 | []=>0
 | o::l=>if abb ef me o.op then BG ef me l+1 else 0
def tB(ef:List Nat)(l:List Oper):Nat:=BG ef (abe ef l) l
def Eb:List (Nat×List Nat)->Nat->List Nat
 | [],_ => []
 | (k,l)::m,id=>cond (k==id) l (Eb m id)
def join(K B:Bs):Bs:=⟨K.t++B.t,K.e++B.e⟩
def leave(K:Bs)(S:Sx):Sx:=⟨S.t++K.t,S.e++K.e,S.n⟩
def abf(l:List Oper)(np:Nat):Bool:=(List.range np).all fun i=>match l[i]? with
 | some o=>(match o.guard with
  | none=>true
  | some (j,_)=>decide (j<i)&&o.after.any fun e=>Region.binds .any e&&e.on==j) && !QO o.op&&o.op.operands.toList.all fun x=>match x with
  | .tmp s=>QN l np i o s
  | _=>true
 | none=>false
def iI:List Nat->Nat->Nat
 | [],_=>0
 | k::l,j=>if k=j then 0 else iI l j+1
def L8(σ:List Nat)(e:Edge):Edge := { e with on:=iI σ e.on }
def qj(σ:List Nat)(o:Oper):Oper := { o with after:=o.after.map (L8 σ),guard:=match o.guard with
 | some (g,b)=>some (iI σ g,b)
 | none=>none }
def abg : Oper := ⟨none, .move (.const (.bool false)), 0, "", #[], none⟩
def cG(σ:List Nat)(l:List Oper):List Oper := σ.map fun i=>qj σ (match l[i]? with
 | some o=>o
 | none=>abg)
def fQ(σ:List Nat)(n:Nat):Bool := σ.length==n&&((List.range n).all fun j => σ[iI σ j]? == some j)&&(List.range n).all fun k=>match σ[k]? with
 | some i=>decide (i<n)&&iI σ i==k
 | none=>false
def xP(l:List Oper)(i:Nat):Bool:=match l[i]? with
 | some oi=>(List.range l.length).all fun j=>match l[j]? with
  | some oj=>i==j||(oi.after.any fun e=>Region.binds .any e&&e.on==j)||(oj.after.any fun e=>Region.binds .any e&&e.on==i)||oi.apart l.toArray oj
  | none=>true
 | none=>true
def BH(l:List Oper)(np:Nat)(l4:Nat->Bool):Bool :=
 (List.range l.length).all fun j=>match l[j]? with
  | some o=>(o.after.all fun e => !Region.binds .any e||decide (e.on<j))&&(decide (j<np)||(List.range np).all fun i=>l4 i||waits .any l.toArray l.length j i)
  | none=>false
def laid(ef:List Nat)(l:List Oper):List Oper:=cG (zq ef l) l
def wv(l:List Oper)(np i:Nat):Bool:=decide (i<np)&&match l[i]? with
 | some o=>sH o.op
 | none=>false
def G4(ef:List Nat)(ops:List Oper)(N:Nat):Bool :=
 let l:=laid ef ops
 let np:=tB ef l
 fQ (zq ef ops) ops.length&&(BH l np (wv l np)&&(AW l np N&&(abf l np&&((List.range np).all (fun i => !wv l np i||xP l i)&&l.all fun o => !QO o.op))))
def Ec(ef:List Nat)(σ:List Nat)(np:Nat)(ops:List Oper)(N:Nat):Bool :=
 let l:=cG σ ops
 decide (np<=l.length)&&((l.take np).all (fun o=>mH ef o.op)&&(fQ σ ops.length&&(BH l np (wv l np)&&(AW l np N&&(abf l np&&((List.range np).all (fun i => !wv l np i||xP l i)&&l.all fun o => !QO o.op))))))
def Ed(l:List Oper)(np:Nat):Bool:=(List.range l.length).all fun j=>decide (j<=np)||match l[j]? with
 | some o=>o.after.any fun e=>Region.binds .any e&&e.on==j - 1
 | none=>false
def nU(l:List Oper)(done:List Nat):List Nat:=(List.range l.length).filter fun i=>match l[i]? with
 | some o => !bV i done&&o.after.all fun e => !Region.binds .any e||bV e.on done
 | none=>false
def L9:List Nat->(Nat->Fm)->Fm
 | [],_ => .ff 19
 | [i],f=>f i
 | i::l,f => .and (f i) (L9 l f)
def zr(l:List Oper):List Nat->Option Nat
 | []=>none
 | i::is=>if (match l[i]? with
  | some o=>sH o.op&&o.dst.isSome&&xP l i
  | none=>false) then some i else zr l is
def BI:Op->Bool
 | .move _=>true
 | .assign _=>true
 | .load _ _=>true
 | .indexAddr _ _ _=>true
 | .unOp _ _ _=>true
 | .fieldAddr _ _ _=>true
 | .extract _ _=>true
 | _=>false
def R0(l:List Oper)(done:List Nat)(i:Nat):Bool:=match l[i]? with
 | some oi=>BI oi.op&&(oi.dst.isSome&&(List.range l.length).all fun j=>j==i||(bV j done||(waits .any l.toArray l.toArray.size j i||match l[j]? with
  | some oj=>oi.apart l.toArray oj&&BI oj.op
  | none=>true)))
 | none=>false
def G5(l:List Oper)(done:List Nat):List Nat->Option Nat
 | []=>none
 | i::is=>if R0 l done i then some i else G5 l done is
def uM(C:Cx)(N:Nat)(B:Bs)(l:List Oper):Nat->List Nat->Sx->(Sx->Fm)->Fm
 | 0,done,S,k=>match nU l done with
  | []=>k S
  | _ => .ff 19
 | fuel+1,done,S,k =>
  let one (i:Nat):Fm:=match l[i]? with
   | some o=>cF C N B l [o] S fun S'=>uM C N B l fuel (i::done) S' k
   | none => .ff 19
  match nU l done with
  | []=>k S
  | [i]=>one i
  | is=>match zr l is with
   | some i=>one i
   | none=>L9 is one
def abh(C:Cx)(N:Nat)(B:Bs)(l:List Oper)(np:Nat)(S:Sx)(k:Sx->Fm):Fm :=
 cF C N B l (l.take np) S fun S'=>match Ed l np with
  | true=>cF C N B l (l.drop np) S' k
  | false=>uM C N B l (l.length - np) (List.range np) S' k
def Ma(C:Cx)(N:Nat)(B:Bs)(l:List Oper)(S:Sx)(k:Sx->Fm):Fm:=abh C N B l (tB (cB C) l) S k
def fu(C:Cx)(N:Nat)(B:Bs)(ops:List Oper):mF->Sx->(Sx->Fm)->Fm
 | .nil,S,k=>k S
 | .bad,_,_ => .ff 20
 | .op i r,S,k=>match ops[i]? with
  | some o=>cF C N B ops [o] S fun S'=>fu C N B ops r S' k
  | none => .ff 21
 | .alt a b,S,k => .and (fu C N B ops a S k) (fu C N B ops b S k)
def Mb:List (Nat×mF)->Nat->Option mF
 | [],_=>none
 | (k,s)::m,id=>cond (k==id) (some s) (Mb m id)
def Mc:List (Nat×zm)->Nat->Option zm
 | [],_=>none
 | (k,s)::m,id=>cond (k==id) (some s) (Mc m id)
def eH:List Nat->mF->mF
 | [],r=>r
 | i::is,r => .op i (eH is r)
def pD(ks:List Nat):List (Nat×En)->List (Nat×En)
 | [] => []
 | (k,e)::l=>match bV k ks,e with
  | true,_=>pD ks l
  | false,.bL _ _ _=>pD (k::ks) l
  | false,.dead=>pD (k::ks) l
  | false,e=>(k,e)::pD (k::ks) l
def Md(C:Cx)(N:Nat)(B:Bs)(ops:List Oper)(o:Oper)(S:Sx):Option Sx:=match pB B S ops o with
 | .yes=>match nT C N B S o with
  | some _=>none
  | none=>match pC C N B S o with
   | some (S',_)=>some S'
   | none=>none
 | .no=>rn N B S o
 | _=>none
def xQ(ks:List Nat)(S:Sx):Sx:=⟨rj ks S.t,pD [] S.e,S.n⟩
def G6(C:Cx)(N:Nat)(B:Bs)(ops:List Oper):List Nd->List (Sx×List Nat)->Option (List (Sx×List Nat))
 | [],acc=>some acc
 | nd::fq,acc=>match acc[nd.up.1]?,ops[nd.up.2]? with
  | some p,some o=>match Md C N B ops o p.1 with
   | some S'=>G6 C N B ops fq (acc ++ [(xQ nd.ks S',p.2++List.replicate (S'.n - p.1.n) nd.up.2)])
   | none=>none
  | _,_=>none
def R1(x:Nat):List Nat->Nat
 | []=>0
 | y::l=>cond (y==x) (R1 x l+1) (R1 x l)
def R2(x:Nat):Nat->List Nat->Nat
 | _,[]=>0
 | k,y::l=>match y==x,k with
  | true,0=>0
  | true,k+1=>R2 x k l+1
  | false,k=>R2 x k l+1
def uN(b:List Nat):List Nat->List Nat->List Nat
 | _,[] => []
 | seen,x::l=>R2 x (R1 x seen) b::uN b (x::seen) l
def gO(n0:Nat)(σ:List Nat)(l:Nat):Nat:=match decide (l<n0) with
 | true=>l
 | false=>match σ[l - n0]? with
  | some k=>n0+k
  | none=>l
def zs(g:Nat->Nat):List (Nat×AV)->List (Nat×AV)
 | [] => []
 | (k,x)::l=>(k,AV.gQ g x)::zs g l
def G7(B:Bs)(n0:Nat)(own:List Nat)(T:Sx×List Nat)(S':Sx):Fm:=match S'.n==T.1.n with
 | true=>match sG (uN T.2 [] own) (List.range own.length) with
  | true=>oG B S' T.1.t T.1.e
  | false=>match fQ (uN T.2 [] own) own.length&&decide (n0+own.length<=S'.n) with
   | true=>oG B ⟨zs (gO n0 (uN T.2 [] own)) S'.t,l0 (gO n0 (uN T.2 [] own)) S'.e,S'.n⟩ T.1.t T.1.e
   | false => .ff 26
 | false => .ff 27
def G8(fq:List Nd)(t j oi:Nat):Bool:=match fq[t]? with
 | some nd=>nd.up.1==j&&(nd.up.2==oi && !(t==0))
 | none=>false
def Me(C:Cx)(N:Nat)(B:Bs)(ops:List Oper)(n0:Nat)(fq:List Nd)(cE:List (Sx×List Nat))(j:Nat)(Sj:Sx×List Nat):List (Nat×Nat×Nat)->Fm->Fm
 | [],A=>A
 | (_,oi,t)::es,A=>match ops[oi]?,cE[t]? with
  | some o,some T => .and (match G8 fq t j oi with
   | true=>cF C N B ops [o] Sj.1 fun _ => .fin []
   | false=>cF C N B ops [o] Sj.1 fun S'=>G7 B n0 (Sj.2++List.replicate (S'.n - Sj.1.n) oi) T S') (Me C N B ops n0 fq cE j Sj es A)
  | _,_ => .ff 28
def G9(B:Bs)(S:Sx):Bool:=nh (de S.n) S.t&&(ki (de S.n) S.e&&(ni B.t S.t&&ni B.e S.e))
def Ha(C:Cx)(N:Nat)(B:Bs)(ops:List Oper)(n0:Nat)(fq:List Nd)(cE:List (Sx×List Nat))(k:Sx->Fm):Nat->List Nd->Fm
 | _,[] => .ff 29
 | j,nd::r=>match cE[j]? with
  | some Sj=>match G9 B Sj.1 with
   | true=>match nd.ed with
    | []=>k Sj.1
    | es=>Me C N B ops n0 fq cE j Sj es (Ha C N B ops n0 fq cE k (j+1) r)
   | false => .ff 24
  | none => .ff 30
def Mf(C:Cx)(N:Nat)(B:Bs)(ops:List Oper)(fq:List Nd)(S:Sx)(k:Sx->Fm):Fm:=match fq with
 | []=>k S
 | nd::r=>match decide (C.nb<=S.n)&&(nh (de S.n) B.t&&ki (de S.n) B.e) with
  | true=>match G6 C N B ops r [(xQ nd.ks S,[])] with
   | some cE=>Ha C N B ops S.n (nd::r) cE k 0 (nd::r)
   | none => .ff 22
  | false => .ff 25
def Mg(C:Cx)(N:Nat)(B:Bs)(id:Nat)(ops:List Oper)(S:Sx)(k:Sx->Fm):Fm:=match Mc C.lt id with
 | some t=>fu C N B ops (eH t.row .nil) S fun S'=>fu C N B ops (eH t.pre .nil) S' fun S'=>Mf C N B ops t.fq S' fun S'=>fu C N B ops (eH t.post .nil) S' k
 | none=>match Mb C.sc id with
  | some s=>fu C N B ops s S k
  | none=>Ma C N B (laid (cB C) ops) S k
def R3(C:Cx)(N:Nat)(B:Bs)(ops:List Oper):List Oper->Sx->Option Sx
 | [],S=>some S
 | o::l,S=>match pB B S ops o with
  | .yes=>match pC C N B S o with
   | some (S',_)=>R3 C N B ops l S'
   | none=>none
  | .no=>match rn N B S o with
   | some S'=>R3 C N B ops l S'
   | none=>none
  | _=>none
def R4(C:Cx)(N:Nat)(B:Bs)(l:List Oper)(ks:List Nat)(S:Sx)(go:(Sx->Fm)->Fm)(k:Sx->Fm):Fm:=match R3 C N B l l S with
 | none => .ff 22
 | some S1=>match nh (de S1.n) (rj ks S1.t)&&(ki (de S1.n) (pD [] S1.e)&&(ni B.t (rj ks S1.t)&&ni B.e (pD [] S1.e))) with
  | true => .and (go fun S'=>if S'.n=S1.n then oG B S' (rj ks S1.t) (pD [] S1.e) else .ff 23) (k ⟨rj ks S1.t,pD [] S1.e,S1.n⟩)
  | false => .ff 24
def R5(C:Cx)(id:Nat)(f:Unit->Fm):Fm:=match bV id C.ct with
 | true => .all Unit (fun _=>True) f
 | false=>f ()
/- two RD change apg names -/
def zt(p q l:Nat):Nat:=cond (l==p) q (cond (l==q) p l)
def xR(p q l:Nat):Bool := !(l==p||l==q)
def R6(nb:Nat)(B:Bs)(p q:Nat)(S:Sx):Sx:=cond (decide (nb<=p)&&(decide (nb<=q)&&(decide (p<S.n)&&(decide (q<S.n)&&(nh (xR p q) B.t&&ki (xR p q) B.e))))) ⟨zs (zt p q) S.t,l0 (zt p q) S.e,S.n⟩ S
mutual
def Mh:AV->AV->List (Nat×Nat)
 | .own p,.own q=>cond (p==q) [] [(p,q)]
 | .agg l,.agg m=>Mi l m
 | .bp l,.bp m=>Mi l m
 | _,_ => []
def Mi:List AV->List AV->List (Nat×Nat)
 | x::l,y::m=>Mh x y++Mi l m
 | _,_ => []
end
def R7(B:Bs)(S:Sx):List (Nat×AV)->List (Nat×Nat)
 | [] => []
 | (d,y)::l=>match dR B S d with
  | some x=>Mh x y++R7 B S l
  | none=>R7 B S l
def Mj(B:Bs)(S:Sx):List (Nat×En)->List (Nat×Nat)
 | [] => []
 | (k,.box _ cs)::l=>match bF B S k with
  | some (.box _ cs')=>Mi cs' cs++Mj B S l
  | _=>Mj B S l
 | _::l=>Mj B S l
def Hb(nb:Nat)(B:Bs)(prs:Sx->List (Nat×Nat)):Nat->Sx->Sx
 | 0,S=>S
 | n+1,S=>match prs S with
  | []=>S
  | (p,q)::_=>Hb nb B prs n (R6 nb B p q S)
def BJ(nb:Nat)(B:Bs)(S:Sx)(ov:List (Nat×AV))(oe:List (Nat×En)):Sx:=Hb nb B (fun S=>R7 B S ov++Mj B S oe) 3 S
/- nothing in it is called new -/
mutual
def AV.sI:AV->Bool
 | .sl fr _ _ => !fr
 | .wide fr _ _ _ => !fr
 | .bP cs _=>AV.pE cs
 | .agg cs=>AV.pE cs
 | .bp cs=>AV.pE cs
 | .fn _ cs=>AV.pE cs
 | _=>true
def AV.pE:List AV->Bool
 | []=>true
 | x::l=>AV.sI x&&AV.pE l
end
def Hc(B:Bs)(N:Nat):List Nat->List AV->Sx->Option Sx
 | [],[],S=>some S
 | p::ps,x::xs,S=>match cb B S N p x with
  | some S'=>Hc B N ps xs S'
  | none=>none
 | _,_,_=>none
structure Fx where
 C:Cx
 N:Nat
 Ls:List (Nat×Lp)
 R:Bs->Sx->Fm
def abi:List (Nat×Lp)->Nat->Option Lp
 | [],_=>none
 | (k,v)::l,d=>if k==d then some v else abi l d
mutual
def run(F:Fx)(fuel:Nat)(c:Code)(B:Bs)(S:Sx)(K:List Kt):Fm :=
 match fuel with
 | 0 => .ff 6
 | fuel+1=>match c with
  | .skip=>cont F fuel B S K
  | .label _=>cont F fuel B S K
  | .region id ops draw=>R5 F.C id fun _=>match draw with
   | true=>match L0 F.C.jn id with
    | some ks=>R4 F.C F.N B (laid (cB F.C) ops.toList) ks (D6 F.C id (cond F.C.fx S (tz F.C.nb B (Eb F.C.fz id) S))) (Mg F.C F.N B id ops.toList (D6 F.C id (cond F.C.fx S (tz F.C.nb B (Eb F.C.fz id) S)))) fun S'=>cont F fuel B S' K
    | none=>Mg F.C F.N B id ops.toList (D6 F.C id (cond F.C.fx S (tz F.C.nb B (Eb F.C.fz id) S))) fun S'=>cont F fuel B S' K
   | false=>cF F.C F.N B ops.toList ops.toList (D6 F.C id (cond F.C.fx S (tz F.C.nb B (Eb F.C.fz id) S))) fun S'=>cont F fuel B S' K
  | .seq a b=>run F fuel a B S (.code b::K)
  | .cond x a b=>match cm B S x with
   | .aV true=>run F fuel a B S K
   | .aV false=>run F fuel b B S K
   | .bool t => .br t (run F fuel a B S K) (run F fuel b B S K)
   | _ => .ff 8
  | .block id b=>run F fuel b B S (.block id::K)
  | .loop b=>match keyOf b with
   | some k =>
    let go (lp:Lp):Fm :=
     let aT:=dS (lp.oe lp.x0)
     let n:=oF S.n aT
     let K':Bs:=⟨pA (RU b aT n S.t) aT n S.t,sF aT n S.e⟩
     let B':=join K' B
     .and (.vc [fun _=>lp.I lp.x0] (oG B S (lp.ov lp.x0) (lp.oe lp.x0))) (.all lp.X lp.I fun x =>
      if sG (dS (lp.oe x)) aT&&nh (de n) (lp.ov x)&&ki (de n) (lp.oe x)&&ni B'.t (lp.ov x)&&ni B'.e (lp.oe x) then
      run F fuel b B' ⟨lp.ov x,lp.oe x,n⟩ (.back B K' (fun Bi S'=>if n<=S'.n then (match lp.nx with
       | some nx => .vc [fun _=>lp.I (nx x)/\lp.μ (nx x) ()<lp.μ x ()] (oG Bi (BJ F.C.nb Bi S' (lp.ov (nx x)) (lp.oe (nx x))) (lp.ov (nx x)) (lp.oe (nx x)))
       | none => .ex lp.X (fun y=>lp.I y/\lp.μ y ()<lp.μ x ()) fun y=>oG Bi (BJ F.C.nb Bi S' (lp.ov y) (lp.oe y)) (lp.ov y) (lp.oe y)) else .ff 17)::K)
      else .ff 15)
    match bV k F.C.ul with
    | true=>run F fuel b B S (.again b::K)
    | false=>match abi F.Ls k with
     | some lp=>go lp
     | none => .RS go
   | none => .ff 9
  | .exit id=>exitTo F fuel id B S K
  | .ret=>mI F fuel B S K
  | .rangeFunc g ps ag bd=>match D9 K||F.C.yl.isSome,cm B S g with
   | false,.fn f dV=>match Lg F.C.ng f with
    | some it=>match (match AV.eE false dV with
     | true=>qY (bF B S) it.sig dV
     | false=>none) with
     | some ah=>match it.go ah with
      | some r => .exr fun rp =>
       let aT:=dS (rp.oe 0)
       let n:=oF S.n aT
       let K':Bs:=⟨pA (tA ag++tA bd++ps.toList++G0 aT n S.t) aT n S.t,sF aT n S.e⟩
       let B':=join K' B
       .and (.vc [r.pre,fun _=>rp.I 0] (oG B S [] (rp.oe 0))) (.all Nat (fun k=>rp.I k/\k<=r.n ()) fun k =>
        if sG (dS (rp.oe k)) aT&&ki (de n) (rp.oe k)&&ni B'.e (rp.oe k)&&AV.pE (r.el fun _=>k) then
         match Hc B' F.N ps.toList (r.el fun _=>k) ⟨[],rp.oe k,n⟩ with
         | some Sk => .and (.all Unit (fun _=>k<r.n ()) fun _=>run F fuel ag B' Sk [.xO fun B1 S1=>run F fuel bd B1 S1 [.eG (fun Bi S'=>if n<=S'.n then .vc [fun _=>rp.I (k+1)] (oG Bi (BJ F.C.nb Bi S' [] (rp.oe (k+1))) [] (rp.oe (k+1))) else .ff 17) (fun id S'=>exitTo F fuel id B ⟨K'.t,S'.e++K'.e,S'.n⟩ K) (fun S'=>mI F fuel B ⟨K'.t,S'.e++K'.e,S'.n⟩ K)]])
          (.all Unit (fun _=>k=r.n ()) fun _=>cont F fuel B ⟨K'.t,rp.oe k++K'.e,n⟩ K)
         | none => .ff 46
        else .ff 15)
      | none => .ff 42
     | none => .ff 43
    | none => .ff 44
   | _,_ => .ff 45
  | _ => .ff 10
def cont(F:Fx)(fuel:Nat)(B:Bs)(S:Sx)(K:List Kt):Fm :=
 match fuel with
 | 0 => .ff 6
 | fuel+1=>match K with
  | []=>F.R B S
  | .code c::K=>run F fuel c B S K
  | .block _::K=>cont F fuel B S K
  | .back _ _ f::_=>f B S
  | .again b::K=>run F fuel (.loop b) B S K
  | .xO f::_=>f B S
  | .eG f _ _::_=>f B S
def exitTo(F:Fx)(fuel:Nat)(id:Nat)(B:Bs)(S:Sx)(K:List Kt):Fm :=
 match fuel with
 | 0 => .ff 6
 | fuel+1=>match K with
  | [] => .ff 11
  | .code _::K=>exitTo F fuel id B S K
  | .block Mk::K=>if Mk=id then cont F fuel B S K else exitTo F fuel id B S K
  | .back Bo K' _::K=>exitTo F fuel id Bo (leave K' S) K
  | .again _::K=>exitTo F fuel id B S K
  | .xO _::_ => .ff 41
  | .eG _ x _::_=>x id S
def mI(F:Fx)(fuel:Nat)(B:Bs)(S:Sx)(K:List Kt):Fm :=
 match fuel with
 | 0 => .ff 6
 | fuel+1=>match K with
  | []=>F.R B S
  | .code _::K=>mI F fuel B S K
  | .block _::K=>mI F fuel B S K
  | .back Bo K' _::K=>mI F fuel Bo (leave K' S) K
  | .again _::K=>mI F fuel B S K
  | .xO _::_ => .ff 41
  | .eG _ _ l::_=>l S
end
def uO(C:Cx)(B:Bs)(S:Sx):List ResultVar->Option (List AV)
 | []=>some []
 | .tmp t::l=>(uO C B S l).map fun r=>px B S t::r
 | .cell p T::l=>match al C.ty T with
  | some i=>match GF (bF B S) i.ti.agg i.sz (px B S p),uO C B S l with
   | some x,some r=>some (x::r)
   | _,_=>none
  | none=>none
def Ml:List AV->AV
 | [x]=>x
 | l => .bp l
def abj(C:Cx)(rs:List ResultVar)(want:AV)(es:List (Nat×En))(B:Bs)(S:Sx):Fm :=
 match uO C B S rs with
 | some l=>match Ea (some (dS es)) B S (Ml l) want,nS (some (dS es)) B S es with
  | some a,some b => .fin (a++b)
  | _,_ => .ff 13
 | none => .ff 14
def abk(C:Cx)(rs:List ResultVar)(want:AV)(B:Bs)(S:Sx):Sx:=Hb C.nb B (fun S=>match uO C B S rs with
 | some l=>Mh (Ml l) want
 | none => []) 3 S
def Ee(C:Cx)(rs:List ResultVar)(want:AV)(es:List (Nat×En))(B:Bs)(S:Sx):Fm:=abj C rs want es B (abk C rs want B S)
def xS:Nat->List AV->List (Nat×AV)
 | _,[] => []
 | k,x::l=>(k,x)::xS (k+1) l
def l5(f:Func):Code:=f.body.getD .skip
def En.sI:En->Bool
 | .box _ cs=>AV.pE cs
 | .row fr _ _ _ => !fr
 | .map fr _ _ _ _ _ => !fr
 | _=>true
def Mm:List (Nat×En)->Bool
 | []=>true
 | (_,e)::l=>En.sI e&&Mm l
def R8(ks:List Nat)(l:Nat):Bool:=bV l ks
def BK(C:Cx)(Ls:List (Nat×Lp))(fn:Func)(args:List AV)(BL:List (Nat×En))(n0:Nat)(want:AV)(es:List (Nat×En)):Fm :=
 if decide (n0<=C.nb)&&decide (args.length<=fn.ntmps)&&AV.pE args&&Mm BL&&AV.under (R8 (dS es)) want&&ki (R8 (dS es)) es&&zl (dS es) n0 then
 run ⟨C,fn.ntmps,Ls,Ee C fn.results.toList want es⟩ 100000 (l5 fn) ⟨[],[]⟩ ⟨xS 0 args,BL,n0⟩ [] else .ff 18
def Hd(C:Cx)(rs:List ResultVar)(n:Unit->Nat)(B:Bs)(S:Sx):Fm:=match uO C B S rs,bF B S 0 with
 | some _,some (.fY k) => .fin [fun _=>k ()=n ()+1\/k ()=0]
 | _,_ => .ff 47
def R9(C:Cx)(Ls:List (Nat×Lp))(fn:Func)(args:List AV)(l:Nat)(res:Lf):Fm :=
 if decide (1<=C.nb)&&decide (args.length+1<=fn.ntmps)&&AV.pE args then
 run ⟨{ C with yl:=some ⟨fun _=>l,res.n,res.el⟩ },fn.ntmps,Ls,Hd C fn.results.toList res.n⟩ 100000 (l5 fn) ⟨[],[]⟩ ⟨xS 0 (.gv (fun _=>l)::args),[(0,.fY fun _=>1)],1⟩ [] else .ff 18
def zu(C:Cx)(Ls:List (Nat×Lp))(fn:Func)(args:List AV)(want:AV):Fm:=BK C Ls fn args [] 0 want []
def iu(P:Program)(o:Oper)(a:Act)(w:World)(K:Act->World->Prop):Prop :=
 (∃ v w',(execOp a.eval o).run P w = .ok (.value v) w'/\K (a.put o.dst v) w') \/
 (∃ w',(execOp a.eval o).run P w = .ok .skip w'/\K (a.put o.dst undef) w') \/
 (∃ f args,(execOp a.eval o).run P w = .ok (.enter f args) w/\Calls P f args w fun e w'=>∃ v,e = .returned v/\K (a.put o.dst v) w') \/
 ∃ l f tmps x y,(execOp a.eval o).run P w = .ok (.round l f tmps x y) w/\RoundIn Fence.wide 0 P l f tmps x y w fun e w'=>∃ v,e = .returned v/\K (a.put o.dst v) w'
theorem Mn{P:Program}(h:o.uponIn Fence.wide 0 P a K Q ((execOp a.eval o).run P w)):o.wpIn Fence.wide 0 P a w K Q:=⟨fun _ _=>trivial,h⟩
theorem Sa{P:Program}(h:o.wpIn Fence.wide 0 P a w K Q):o.uponIn Fence.wide 0 P a K Q ((execOp a.eval o).run P w):=h.2
theorem iu.wp{P:Program}(h:iu P o a w K)(hK:∀ a w,K a w->K' a w):o.wpIn Fence.wide 0 P a w K' Q:=by
 refine Mn ?_;rcases h with ⟨v,w',h1,h2⟩|⟨w',h1,h2⟩|⟨f,args,h1,h2⟩|⟨l,f,tmps,x,y,h1,h2⟩
 . rw [h1]; exact hK _ _ h2
 . rw [h1]; exact hK _ _ h2
 . rw [h1];refine⟨fun h=>by simp [Fence.wide] at h,(callsIn_wide.2 h2).mono fun e w' h3 => ?_⟩;obtain⟨v,rfl,h4⟩:=h3;exact hK _ _ h4
 . rw [h1];refine⟨fun h=>by simp [Fence.wide] at h,h2.mono fun e w' h3 => ?_⟩;obtain⟨v,rfl,h4⟩:=h3;exact hK _ _ h4
section
variable{P:Program}{ops:Array Oper}{Q:Exit->Act->World->Prop}{K:Act->World->Prop}{i:Nat}{o:Oper}{a:Act}{w:World}
theorem Sc(ho:ops[i]? = some o)(hw:Region.wanted o (yielded ops a.tmps)=true)(h:o.wpIn Fence.wide 0 P a w K Q):wpOpIn Fence.wide 0 P ops Q i K a w:=by
 unfold wpOpIn;simp only [ho];rw [aG hw];exact h
theorem abl(ho:ops[i]? = some o)(hw:Region.wanted o (yielded ops a.tmps)=false)(hK:K (a.put o.dst undef) w):wpOpIn Fence.wide 0 P ops Q i K a w:=by
 unfold wpOpIn;simp only [ho];rw [ax (by rw [hw]; simp)];exact⟨fun _ _=>trivial,hK⟩
abbrev wd(r:Option Nat):Fence := { Fence.wide with round:=r }
theorem abm{r:Option Nat}(hd:∀ c,o.op ≠ .defer c)(h:o.wpIn Fence.wide 0 P a w K Q):o.wpIn (wd r) 0 P a w K Q:=by
 refine⟨fun _ _=>trivial,?_⟩;have h2:=Sa h;rw [Oper.semAt_eq _ _ _ hd];generalize (execOp a.eval o).run P w=R at h2 ⊢
 cases R with
 | ok x w'=>cases x<;>exact h2
 | halt x w'=>cases x<;>exact h2
theorem Sd{r:Option Nat}:∀ {l:List Oper} {a:Act} {w:World},(∀ o∈l,∀ c,o.op ≠ .defer c)->wpListIn Fence.wide 0 P ops Q l a w->wpListIn (wd r) 0 P ops Q l a w
 | [],_,_,_,h=>h
 | o::l,a,w,hd,h=>by
  unfold wpListIn at h ⊢;split
  . rename_i hw;rw [aG hw] at h;exact abm (hd o (.head _)) (Oper.wpIn_mono (fun a w h=>Sd (fun o ho=>hd o (.tail _ ho)) h) h)
  . rename_i hw;rw [ax hw] at h;exact⟨fun _ _=>trivial,Sd (fun o ho=>hd o (.tail _ ho)) h.2⟩
theorem Mo{r:Option Nat}{md:Region.Mode}(hd:∀ (j:Nat) o c,ops[j]? = some o->o.op ≠ .defer c):∀ (f:Nat) (listed:Array Bool) (a:Act) (w:World),wpAnyIn Fence.wide 0 P md ops Q f listed a w->wpAnyIn (wd r) 0 P md ops Q f listed a w
 | 0,_,_,_,h=>h
 | f+1,listed,a,w,h=>by
  refine⟨h.1,fun i hi => ?_⟩;have h2:=h.2 i hi;unfold wpOpIn at h2 ⊢;split
  . rename_i ho;rw [ho] at h2;exact Mo hd f _ _ _ h2
  . rename_i o ho;rw [ho] at h2;dsimp only at h2;split
    . rename_i hw;rw [aG hw] at h2;exact abm (fun c=>hd i o c ho) (Oper.wpIn_mono (fun a w h=>Mo hd f _ _ _ h) h2)
    . rename_i hw;rw [ax hw] at h2;exact⟨fun _ _=>trivial,Mo hd f _ _ _ h2.2⟩
theorem Se(h:sH o.op=true)(r:Operand->Value)(w:World):o.about P w r=none:=by
 unfold Oper.about;cases ho:o.op<;>first|rfl|(rw [ho] at h; cases h)
end
section
variable{P:Program}{w w' w0:World}{ρ ρ':Nat->Option Rl}{base:Nat}{ro ro':Nat->Prop}{S0:Pm}{Φ : Pm->Prop}{N:Nat}{B:Bs}{S:Sx}{a:Act}
theorem Mp{x:AV}{cs:List AV}(h:cellsOf x=some cs)(hx:aj w ρ base ro x v):∃ vs:List Value,v.cells=vs.toArray/\bn w ρ base ro cs vs:=by
 unfold cellsOf at h;split at h
 . cases h;obtain⟨vs,rfl,hE⟩:=hx.rf;exact⟨vs,rfl,hE⟩
 . cases h
 . cases h
 . rename_i h1 h2 h3;cases h;exact⟨[v],Rg hx (fun l e=>h1 l e) (fun e=>h2 e),.cons hx .nil⟩
theorem apN{x:AV}(h:AV.one x=true)(hx:aj w ρ base ro x v):v.oneCell'=true:=by
 cases hx<;>first|rfl|cases h
theorem apO(fr:Bool)(t:Tc)(x:Unit->t.el):(bf fr t x).all AV.one=true:=by cases t<;>rfl
theorem Sf{l:List AV}(h:l.all AV.one=true)(hE:bn w ρ base ro l vs):∀ u∈vs,u.oneCell'=true:=by
 intro u hu;obtain⟨j,hj⟩:=mn.1 hu;have af:=(c8.1 hj).1;have hl:j<l.length:=by rw [hE.1]; exact af
 exact apN (fc.1 h _ (lV hl)) (hE.2 j _ u (bq hl) hj)
theorem apP{s:Sg}{x y:AV}(h:norm s x=some y)(hx:aj w ρ base ro x v):aj w ρ base ro y v:=by
 unfold norm at h;split at h
 . split at h<;>cases h; exact hx
 . split at h<;>cases h
   rw [hx.nO];exact .int _ _
 . cases h; exact hx
 . cases h;rw [hx.re];exact .bool _
 . cases h; exact hx
 . split at h<;>cases h; exact hx
 . cases h;rw [hx.xG];exact .sl true _ _ none 0 [] rfl (aN _) (Rd.nil _ _ _ _) (fun _ h=>by cases h) (fun _ _ h=>by cases h) (fun k cs j x v h=>by simp at h)
 . split at h<;>cases h
   exact Bx hx
 . split at h<;>cases h
   exact hx
 . split at h<;>cases h
   obtain⟨A,c,css,_,_,_,_,_,_,qe⟩:=hx.rh;rw [qe] at hx ⊢;exact .wide _ _ _ _ A c (aN _) hx
 . cases h;rw [hx.xG];exact .wide true _ (fun _ => []) (fun _=>0) none 0 (aN _) (.sl true _ _ none 0 [] rfl (aN _) (Rd.nil _ _ _ _) (fun _ h=>by cases h) (fun _ _ h=>by cases h) (fun k cs j x v h=>by simp at h))
 . cases h
theorem abn:∀ {ss:List Sg} {xs ys:List AV} {vs:List Value},LW ss xs=some ys->bn w ρ base ro xs vs->bn w ρ base ro ys vs
 | [],[],ys,vs,h,hE=>by cases h; exact hE
 | s::ss,x::xs,ys,vs,h,hE=>by
  unfold LW at h;split at h
  . rename_i y LG h1 h2;cases h;obtain⟨v,us,rfl,hx,oC⟩:=hE.head;exact .cons (apP h1 hx) (abn h2 oC)
  . cases h
 | [],_::_,_,_,h,_=>by cases h
 | _::_,[],_,_,h,_=>by cases h
theorem abo{l:List AV}(h:bn w ρ base ro l vs):bn w ρ base ro (l.map AV.loose) vs:=by
 exact aas
theorem Mq{x:AV}{e:Unit->t.el}(h:xM t x=some (f,e))(hx:aj w ρ base ro x v):∃ vs:List Value,v.cells=vs.toArray/\vs.length=t.size/\bn w ρ base ro (bf f t e) vs:=by
 unfold xM at h;split at h
 . rename_i cs hc;split at h
   . rename_i ys hn
     cases hm:LV t ys with
     | none=>rw [hm] at h; cases h
     | some e' =>
      rw [hm] at h;simp only [dG,bU,um] at h;obtain⟨rfl,rfl⟩:=h;obtain⟨vs,h1,hE⟩:=Mp hc hx;have rq:=abn hn hE;have hmc:=apC hm;have h3:bn w ρ base ro (bf (AV.eE true ys) t e') vs:=by
       cases hp:AV.eE true ys with
       | true=>rw [hmc.2 hp]; exact rq
       | false=>rw [hmc.1]; exact abo rq
      exact⟨vs,h1,by rw [<- h3.1,QW],h3⟩
   . cases h
 . cases h
theorem BM{x:Unit->t.el}(h:bn w ρ base ro (bf f t x) vs)(Si:g=true->f=true):bn w ρ base ro (bf g t x) vs:=by
 cases g with
 | true=>rw [Si rfl] at h; exact h
 | false=>rw [DW f]; exact abo h
theorem abq{t:Tc}:∀ {xs:List AV} {us:List Value} {f:Bool} {es:List (Unit->t.el)},D4 t xs=some (f,es)->bn w ρ base ro xs us->∃ css:List (List Value),us.map Value.cells=css.map List.toArray/\css.length=es.length/\∀ (k:Nat) cs e,css[k]? = some cs->es[k]? = some e->cs.length=t.size/\bn w ρ base ro (bf f t e) cs
 | [],us,f,es,h,hE=>by
  simp only [D4,bU,um] at h;obtain⟨rfl,rfl⟩:=h;rw [hE.none];exact⟨[],rfl,rfl,fun k cs e hk=>by simp at hk⟩
 | x::xs,us,f,es,h,hE=>by
  unfold D4 at h;split at h
  . rename_i f1 e1 f2 es2 h1 h2;simp only [bU,um] at h;obtain⟨rfl,rfl⟩:=h;obtain⟨v,us',rfl,hx,oC⟩:=hE.head;obtain⟨vs,k1,k2,k3⟩:=Mq h1 hx;obtain⟨css,q1,q2,q3⟩:=abq h2 oC;refine⟨vs::css,by simp [k1,q1],by simp [q2],fun k cs e hk he => ?_⟩
    cases k with
    | zero =>
     simp only [pW,bU] at hk he;subst hk; subst he;exact⟨k2,BM k3 Mr⟩
    | succ k =>
     obtain⟨r1,r2⟩:=q3 k cs e (by simpa using hk) (by simpa using he);exact⟨r1,BM r2 Ms⟩
  . cases h
theorem jH(ρ:Nat->Option Rl)(loc:Nat)(r:Rl):fK ρ loc r loc=some r:=by unfold fK; rw [aG rfl]
theorem sJ(h : ρ loc=none):Ext ρ (fK ρ loc r):=by
 intro l r' hl;unfold fK;split
 . rename_i e; subst e; rw [h] at hl; cases hl
 . exact hl
theorem uP(h : ρ loc=some r):fK ρ loc r = ρ:=by
 funext l;unfold fK;split
 . rename_i e; subst e; exact h.symm
 . rfl
theorem bK.alloc(H:bK w0 S0 N B S a w ρ ro){cells:List AV}(hB:al B.e S.n=none)(hE:bn w ρ w0.heap.size ro cells cs) :
 bK w0 S0 N B ⟨S.t,(S.n,.box T cells)::S.e,S.n+1⟩ a (w.alloc (.cells cs.toArray T)) (fK ρ S.n (.box w.heap.size)) ro:=by
 have gg:=H.fresh S.n (aN _);have gW:∀ b,b<w.heap.size->(w.alloc (.cells cs.toArray T)).heap[b]? = w.heap[b]? := fun b hb=>uk w _ b hb;refine H.qg (H.from_.alloc _) (by simp) (fun b hb _=>gW b hb) (fun b hb => ?_) hB (Dq _) (Dj _) (.inl (sJ gg)) (.inl fun b hb=>by rw [gg] at hb; cases hb) ⟨w.heap.size,cs,jH _ _ _,AM w _,?_⟩
 . injection hb with hb;subst hb;exact .inr ⟨aN _,by simp⟩
 . exact hE.mono (fun b _ hb=>gW b hb) (sJ gg) (aN _) fun _ h=>h
theorem aj.abr:aj w (fK ρ loc (.box b)) base ro (.ptr loc 0) (.pointer (some ⟨b,0,none⟩)) := .ptr _ _ _ (jH _ _ _)
theorem abt{j:TypeInfo}(hj:P.info? T=some j)(hz:j.zero=some z):(zeroValue T).run P w = .ok z w:=by
 exact aau
theorem apQ(aQ:dp P C.ty)(H:bj w0 Φ N B S a w)(hi:al C.ty T=some i)(hz:i.z.isEmpty=false)(hB:al B.e S.n=none)(hp:cb B ⟨S.t,(S.n,.box T i.z)::S.e,S.n+1⟩ N d (.ptr S.n 0)=some S') :
 iu P ⟨some d,.alloc T,ty,pos,aft,gd⟩ a w (bj w0 Φ N B S'):=by
 obtain⟨S0,hS,ρ,ro,H⟩:=H;obtain⟨j,z,hj,zb,hE⟩:=Rk (w:=w) (ρ := ρ) (base:=w0.heap.size) (ro:=ro) (aQ T i hi) hz;have H2:=H.alloc (T:=T) hB hE;refine .inl ⟨.pointer (some ⟨w.heap.size,0,none⟩),_,?_,S0,hS,_,_,H2.put hp .abr⟩;unfold execOp;simp only [Instr.alloc,bQ,abt hj zb,cg,newVar,newRow,cq];rfl
theorem apR(H:bj w0 Φ N B S a w){cells:List AV}(hc:cellsOf (cm B S x)=some cells)(hB:al B.e S.n=none)(hp:cb B ⟨S.t,(S.n,.box T cells)::S.e,S.n+1⟩ N d (.ptr S.n 0)=some S') :
 iu P ⟨some d,.box T x,ty,pos,aft,gd⟩ a w (bj w0 Φ N B S'):=by
 obtain⟨S0,hS,ρ,ro,H⟩:=H;obtain⟨vs,hv,hE⟩:=Mp hc (H.get x);have H2:=H.alloc (T:=T) hB hE;refine .inl ⟨.pointer (some ⟨w.heap.size,0,none⟩),_,?_,S0,hS,_,_,H2.put hp .abr⟩;unfold execOp;simp only [Instr.box,bQ,newVar,newRow,cq,hv];rfl
theorem abu(h:v.cells=vs.toArray):v.cells.toList=vs:=by rw [h]
theorem setRow_size(w:World)(g:Nat)(cs:Array Value):(w.setRow g cs).heap.size=w.heap.size:=by simp [World.setRow]
theorem Sl(w:World)(g:Nat)(cs:Array Value):w.grownBy (w.setRow g cs) (some g) :=
 ⟨rfl,rfl,rfl,by rw [setRow_size]; exact aN _,fun k _ hk=>Kv w g k cs fun e=>hk (by rw [e])⟩
theorem bK.BN(H:bK w0 S0 N B S a w ρ ro){l g:Nat}(h : ρ l=some r)(hb:r.cH=some g):∀ k,some g=some k->S0.may w0 k:=by
 intro k hk;injection hk with hk;subst hk;have h0:=(H.own l r g h hb).2.2;refine⟨?_,h0.2⟩;rcases h0.1 with h1|⟨r0,h1,h2⟩
 . exact .inl h1
 . exact .inr ⟨l,r0,h1,h2⟩
theorem apS(aQ:dp P C.ty)(H:bj w0 Φ N B S a w){cells cs:List AV}(hi:al C.ty T=some i)(hc:cellsOf (cm B S y)=some cs)(hx:cm B S x = .ptr loc off)(he:bF B S loc=some (.box T' cells))(hl:cs.length=i.sz)(nL:off+i.sz<=cells.length)(h1:cs.all AV.one=true)(hB:al B.e loc=none) :
 iu P ⟨none,.store T x y,ty,pos,aft,gd⟩ a w (bj w0 Φ N B ⟨S.t,(loc,.box T' (cells.take off++cs++cells.drop (off+i.sz)))::S.e,S.n⟩):=by
 obtain⟨S0,hS,ρ,ro,H⟩:=H;have mJ:=H.get x;rw [hx] at mJ;obtain⟨b,hb,nV⟩:=mJ.y8;obtain⟨b',us,bo,hh,hE⟩:=H.en _ _ he;rw [hb] at bo;injection bo with bo;injection bo with bo;subst bo;obtain⟨vs,hv,rq⟩:=Mp hc (H.get y);obtain⟨j,hj,xT,_⟩:=Lx (aQ T i hi);have nW:vs.length=i.sz:=by rw [<- rq.1]; exact hl
 have Gs:us.length=cells.length:=hE.1.symm;have cZ:=Qf (P:=P) (w:=w) (T:=T) (n:=i.sz) (g:=b) (off:=off) (t:=T') (cur:=us.toArray) (v:=a.eval y) (cs:=vs) (by rw [hj]; simp [xT]) (abu hv) nW hh (by simp [Gs]; exact nL) (Sf h1 rq);have af:=(pV.1 hh).1;have oE:loc<S.n:=by
  exact abv
 have qk:(execOp a.eval ⟨none,.store T x y,ty,pos,aft,gd⟩).run P w = .ok .skip (w.setRow b (us.toArray.toList.take off++vs++us.toArray.toList.drop (off+i.sz)).toArray):=by
  exact abw
 have ck:¬ ro b:=(H.own loc _ b hb rfl).2.1;have hw:∀ b',ro b'->b'<w.heap.size->(w.setRow b (us.toArray.toList.take off++vs++us.toArray.toList.drop (off+i.sz)).toArray).heap[b']? = w.heap[b']? := fun b' bo _=>Kv _ _ _ _ (fun e=>ck (e▸bo));have H2:=H.qg (w':=w.setRow b (us.toArray.toList.take off++vs++us.toArray.toList.drop (off+i.sz)).toArray) (loc:=loc) (n:=S.n) (r := .box b) (e := .box T' (cells.take off++cs++cells.drop (off+i.sz))) (H.from_.grown (Sl _ _ _) (H.BN hb rfl)) (by rw [setRow_size]; exact aN _) (fun b' bo bg=>Kv _ _ _ _ (fun e=>bg _ hb (by rw [e]; rfl))) (fun b' bo => .inl ⟨_,hb,bo⟩) hB (aN _) oE (.inl Sm) (.inl fun b' bo=>by rw [hb] at bo; cases bo) (by
  refine⟨b,_,jH _ _ _,YX w b _ _ T' _ hh,?_⟩;rw [uP hb];exact (((hE.take off).append rq).append (hE.drop (off+i.sz))).mono hw (Ext.refl _) (aN _) fun _ h=>h)
 exact .inr (.inl ⟨_,qk,S0,hS,_,_,H2⟩)
end
end Go.Proofs.YtamjbkaclhgffaaGreat
