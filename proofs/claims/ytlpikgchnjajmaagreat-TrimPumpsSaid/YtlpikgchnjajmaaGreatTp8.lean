/-
  The abstract run of a function's code: what is to be shown of plain data, so that the code does what is said of it.
-/
import Derived.Test.YtlpikgchnjajmaaGreatTp7
import Derived.OrdersIn
import Derived.TacticsIn
set_option linter.all false
namespace Go.Proofs.YtlpikgchnjajmaaGreat
open Go.RowKit
variable{a:Act}{K K':Act->World->Prop}{aft:Array Edge}{f g:Bool}{C:Cx}{Q:Exit->Act->World->Prop}{cs vs:List Value}{T T' b d l loc off:Nat}{o:Oper}{x y:Operand}{gd:Option (Nat×Bool)}{r:Rl}{pos:String}{S':Sx}{t t':Tc}{ty:TypeId}{v z:Value}{w:World}{i:eS}
structure Lp where
 X:Type
 ov:X->List (Nat×AV)
 oe:X->List (Nat×En)
 I:X->Prop
 μ:X->Unit->Nat
 x0:X
 nx:Option (X->X)
structure Rp where
 oe:Nat->List (Nat×En)
 I:Nat->Prop
inductive Fm where
 | ff (why:Nat)
 | vc (l:List VC) (A:Fm)
 | br (c:Unit->Bool) (A B:Fm)
 | fin (l:List VC)
 | and (A B:Fm)
 | all (X:Type) (I:X->Prop) (f:X->Fm)
 | ex (X:Type) (I:X->Prop) (f:X->Fm)
 | Po (f:Lp->Fm)
 | XY (f:Rp->Fm)
def ob:List VC->Prop
 | []=>True
 | [c]=>c ()
 | c::l=>c ()/\ob l
def Fm.P:Fm->Prop
 | .ff _=>False
 | .vc l A=>ob l/\A.P
 | .br c A B=>(c ()=true->A.P)/\(c ()=false->B.P)
 | .fin l=>ob l
 | .and A B=>A.P/\B.P
 | .all _ I f=>∀ x,I x->(f x).P
 | .ex _ I f=>∃ x,I x/\(f x).P
 | .Po f=>∃ lp,(f lp).P
 | .XY f=>∃ rp,(f rp).P
inductive Kt where
 | code (c:Code)
 | block (id:Nat)
 | back (Bo K:Bs) (f:Bs->Sx->Fm)
 | again (b:Code)
 | wA (f:Bs->Sx->Fm)
 | dW (f:Bs->Sx->Fm) (x:Nat->Sx->Fm) (l:Sx->Fm)
def Cg:List Kt->Bool
 | []=>false
 | .wA _::_=>true
 | .dW _ _ _::_=>true
 | _::K=>Cg K
/- xP a piece of code writes -/
def Pp:List Oper->List Nat
 | [] => []
 | o::l=>match o.dst with
  | some d=>d::Pp l
  | none=>Pp l
def rV:Code->List Nat
 | .region _ ops _=>Pp ops.toList
 | .seq a b=>rV a++rV b
 | .cond _ a b=>rV a++rV b
 | .block _ b=>rV b
 | .loop b=>rV b
 | .scope b=>rV b
 | _ => []
def keyOf:Code->Option Nat
 | .region id _ _=>some id
 | .seq a b=>match keyOf a with
  | some k=>some k
  | none=>keyOf b
 | .cond _ a b=>match keyOf a with
  | some k=>some k
  | none=>keyOf b
 | .block _ b=>keyOf b
 | .loop b=>keyOf b
 | .scope b=>keyOf b
 | _=>none
def cP(n l:Nat):Bool:=decide (l<n)
/- zG cG XZ XU named XU such as p ai7 -/
mutual
def AV.under(p:Nat->Bool):AV->Bool
 | .own l=>p l
 | .cY _ l _ _=>p l
 | .cE _ l _ _=>p l
 | .ptr l _=>p l
 | .fw l _ _=>p l
 | .mp l=>p l
 | .bq l=>p l
 | .it _ l=>p l
 | .bg cs _=>AV.mC p cs
 | .agg cs=>AV.mC p cs
 | .aU cs=>AV.mC p cs
 | .fn _ cs=>AV.mC p cs
 | _=>true
def AV.mC(p:Nat->Bool):List AV->Bool
 | []=>true
 | x::l=>AV.under p x&&AV.mC p l
end
def Jw(x:AV):List Nat->Bool
 | []=>false
 | l::ls=>AV.has l x||Jw x ls
def oc(md aD:List Nat)(n:Nat):List (Nat×AV)->List (Nat×AV)
 | [] => []
 | (d,x)::l=>if bF d md then oc md aD n l else (d,if Jw x aD || !AV.under (cP n) x then .un else x)::oc md aD n l
def EO(aD:List Nat)(n:Nat):List (Nat×AV)->List Nat
 | [] => []
 | (d,x)::l=>match Jw x aD || !AV.under (cP n) x with
  | true=>d::EO aD n l
  | false=>EO aD n l
def Pr(b:Code)(aD:List Nat)(n:Nat)(l:List (Nat×AV)):List Nat:=rV b++EO aD n l
def yi(aD:List Nat)(n:Nat):List AV->List AV
 | [] => []
 | x::l=>(if Jw x aD || !AV.under (cP n) x then .un else x)::yi aD n l
def Ps(aD:List Nat)(n:Nat):En->En
 | .box T cs => .box T (yi aD n cs)
 | .iter ml c seen left=>if bF ml aD||decide (n<=ml) then .dead else .iter ml c seen left
 | .bq _ _ _ => .dead
 | e=>e
def qz(aD:List Nat)(n:Nat):List (Nat×En)->List (Nat×En)
 | [] => []
 | (k,e)::l=>if bF k aD||decide (n<=k) then qz aD n l else (k,Ps aD n e)::qz aD n l
def qA:List Nat->List Nat->Bool
 | [],[]=>true
 | a::l,b::m=>a==b&&qA l m
 | _,_=>false
def lZ(p:Nat->Bool):List (Nat×AV)->Bool
 | []=>true
 | (_,x)::l=>AV.under p x&&lZ p l
def yj(F:Tc->Type)(h:t=t')(x:F t):F t':=h▸x
/- is xP is there as is axp -/
def X0(a b:Unit->Int):List VC := [fun _=>a ()=b ()]
mutual
def Ch(fz:Option (List Nat))(B:Bs)(S:Sx):AV->AV->Option (List VC)
 | _,.un=>some []
 | .int k a,.int k' b=>if k=k' then some (X0 a b) else none
 | .lit k a,.int k' b=>if k=k' then some [fun _=>a=b ()] else none
 | .int k a,.lit k' b=>if k=k' then some [fun _=>a ()=b] else none
 | .lit k a,.lit k' b=>if k=k'/\a=b then some [] else none
 | .bool a,.bool b=>some [fun _=>a ()=b ()]
 | .aG a,.bool b=>some [fun _=>a=b ()]
 | .bool a,.aG b=>some [fun _=>a ()=b]
 | .aG a,.aG b=>if a=b then some [] else none
 | .str a,.str b=>some [fun _=>a ()=b ()]
 | .nil,.nil=>some []
 | .nil,.sl _ _ l=>some [fun _=>l () = []]
 | .nil,.own loc=>match fz with
  | none=>if decide (S.n<=loc) then some [] else none
  | some _=>none
 | .sl fr t l,.sl fr' t' m=>if h:t'=t then (if fr || !fr' then some [fun _=>l ()=yj (fun t=>List t.el) h (m ())] else none) else none
 | .own loc,.sl fr' t' m=>match fz with
  | none=>none
  | some ks=>if bF loc ks then none else match bc B S loc with
   | some (.row fr t _ l)=>if h:t'=t then (if fr || !fr' then some [fun _=>l ()=yj (fun t=>List t.el) h (m ())] else none) else none
   | _=>none
 | .wide fr t l n,.sl fr' t' m=>if h:t'=t then (if fr || !fr' then some [fun _=>(l ()).take (n ())=yj (fun t=>List t.el) h (m ())] else none) else none
 | .wide fr t l n,.wide fr' t' m k=>if h:t'=t then (if fr || !fr' then some [fun _=>l ()=yj (fun t=>List t.el) h (m ()),fun _=>n ()=k ()] else none) else none
 | .own loc,.own pP=>if loc=pP then some [] else none
 | .cE t loc a b,.cE t' pP a' b'=>if t=t'/\loc=pP then some [fun _=>a ()=a' ()/\b ()=b' ()] else none
 | .ptr loc off,.ptr pP rL=>if loc=pP/\off=rL then some [] else none
 | .ptr loc off,.bg m rL=>match fz with
  | none=>none
  | some ks=>if bF loc ks then none else match bc B S loc with
   | some (.box _ cs)=>if off=rL then sS fz B S cs m else none
   | _=>none
 | .mp loc,.mp pP=>if loc=pP then some [] else none
 | .it l l2,.it l' X1=>if l=l'/\l2=X1 then some [] else none
 | .bg l off,.bg m rL=>if off=rL then sS fz B S l m else none
 | .cY t loc k off,.cY t' pP k' rL=>if t=t'/\(loc=pP/\off=rL) then some (X0 k k') else none
 | .agg l,.agg m=>sS fz B S l m
 | .aU l,.aU m=>sS fz B S l m
 | .fn f l,.fn g m=>if f=g then sS fz B S l m else none
 | _,_=>none
def sS(fz:Option (List Nat))(B:Bs)(S:Sx):List AV->List AV->Option (List VC)
 | [],[]=>some []
 | x::l,y::m=>match Ch fz B S x y,sS fz B S l m with
  | some a,some b=>some (a++b)
  | _,_=>none
 | _,_=>none
end
def z0(B:Bs)(S:Sx):List (Nat×AV)->Option (List VC)
 | []=>some []
 | (d,y)::l=>match dH B S d,z0 B S l with
  | some x,some b=>(Ch none B S x y).map fun a=>a++b
  | _,_=>none
def mD(fz:Option (List Nat))(B:Bs)(S:Sx):List (Nat×En)->Option (List VC)
 | []=>some []
 | (k,.box T cs)::l=>match bc B S k with
  | some (.box T' cs')=>if T=T' then (match sS fz B S cs' cs,mD fz B S l with
   | some a,some b=>some (a++b)
   | _,_=>none) else none
  | _=>none
 | (k,.row fr t T m)::l=>match mD fz B S l with
  | some b=>match bc B S k with
   | some (.row fr' t' T' m')=>if h:t=t' then (if T=T'/\(fr' || !fr)=true then some ((fun _=>m' ()=yj (fun t=>List t.el) h (m ()))::b) else none) else none
   | some _=>none
   | none=>match fz with
    | none=>if S.n<=k then some ((fun _=>m () = [])::b) else none
    | some _=>none
  | none=>none
 | (k,.map fr ag c t T m)::l=>match mD fz B S l with
  | some b=>match bc B S k with
   | some (.map fr' jI c' t' T' m')=>if h:t=t' then (if T=T'/\ag=jI/\c=c'/\(fr' || !fr)=true then some ((fun _=>m' ()=yj (fun t=>List Kx->Option t.el) h (m ()))::b) else none) else none
   | _=>none
  | none=>none
 | (k,.iter ml c seen left)::l=>match mD fz B S l with
  | some b=>match bc B S k with
   | some (.iter Et c' Pt Pu)=>if ml=Et/\c=c' then some ((fun _=>Pt ()=seen ())::(fun _=>Pu ()=left ())::b) else none
   | _=>none
  | none=>none
 | (k,.fh c)::l=>match mD fz B S l with
  | some b=>match bc B S k with
   | some (.fh c')=>some ((fun _=>c' ()=c ())::b)
   | _=>none
  | none=>none
 | (_,.bq _ _ _)::_=>none
 | (_,.dead)::_=>none
def En.under(p:Nat->Bool):En->Bool
 | .box _ cs=>AV.mC p cs
 | .iter ml _ _ _=>p ml
 | .bq ml _ _=>p ml
 | _=>true
def jr(p:Nat->Bool):List (Nat×En)->Bool
 | []=>true
 | (k,e)::l=>p k&&En.under p e&&jr p l
def l0{α β:Type}(l:List (Nat × α)):List (Nat × β)->Bool
 | []=>true
 | (d,_)::m=>(ak l d).isNone&&l0 l m
def nj(B:Bs)(S:Sx)(ov:List (Nat×AV))(oe:List (Nat×En)):Fm :=
 match z0 B S ov,mD none B S oe with
 | some a,some b => .fin (a++b)
 | _,_ => .ff 1
inductive Wd where
 | yes|no|ask (d:Nat) (c:Unit->Bool) (b:Bool)|stuck
def od(B:Bs)(S:Sx)(ops:List Oper)(o:Oper):Wd :=
 match o.guard with
 | none => .yes
 | some (j,b)=>match ops[j]?.bind (·.dst) with
  | some d=>match n9 B S d with
   | .aG c=>if c=b then .yes else .no
   | .bool c => .ask d c b
   | .aU [] => .no
   | _ => .stuck
  | none => .stuck
def Jy(C:Cx)(N:Nat)(B:Bs)(S:Sx)(o:Oper):Option (Sx×List VC) :=
 match nX C.ty C.cs (bc B S) (bT B S) o.op with
 | some (av,vcs)=>match o.dst with
  | some d=>(bP B S N d av).map fun S'=>(S',vcs)
  | none=>some (S,vcs)
 | none=>none
def Jz(C:Cx)(N:Nat)(B:Bs)(S:Sx)(o:Oper):Option (Sx×List VC) :=
 match o.op with
 | .call c=>match c.callee with
  | .value (.func f)=>match bF f (cb C) && !C.fx with
   | true=>Jy C N B (rU C.nb B (Pg (c.args.toList.map (bT B S))) S) o
   | false=>none
  | _=>none
 | _=>none
def og(C:Cx)(N:Nat)(B:Bs)(S:Sx)(o:Oper):Option (Sx×List VC) :=
 match nX C.ty C.cs (bc B S) (bT B S) o.op with
 | some (av,vcs)=>match o.dst with
  | some d=>(bP B S N d av).map fun S'=>(S',vcs)
  | none=>some (S,vcs)
 | none=>match Jr C N B (cond C.fx S (Ju C.nb B S o.op)) o with
  | some r=>some r
  | none=>match Cc C N B S o with
   | some r=>some r
   | none=>match EL C N B S o with
    | some r=>some r
    | none=>Jz C N B S o
def nz(l:Nat):Bool := ! l==0
def EP:List (Nat×En)->Bool
 | []=>true
 | (_,e)::l=>En.under nz e&&EP l
def Pv(B:Bs)(S:Sx):Bool:=(ak B.e 0).isNone&&(lZ nz S.t&&(lZ nz B.t&&(EP S.e&&EP B.e)))
def mE(C:Cx)(N:Nat)(B:Bs)(S:Sx)(o:Oper):Option ((Sx->Fm)->Fm) :=
 match o.op with
 | .range T x=>match fy C.ty T,bT B S x,o.dst with
  | some (.map _ _ _ _ _),.mp loc,some d=>match bc B S loc with
   | some (.map _ _ c _ _ _)=>match (ak B.e S.n).isNone,bP B ⟨S.t,S.e,S.n+1⟩ N d (.it loc S.n) with
    | true,some S'=>some fun K => .all Nat (fun _=>True) fun n=>K ⟨S'.t,(S.n,.iter loc c (fun _ => []) fun _=>n)::S'.e,S'.n⟩
    | _,_=>none
   | _=>none
  | _,_,_=>none
 | .next x false=>match bT B S x,o.dst with
  | .it loc l2,some d=>match bc B S loc,bc B S l2 with
   | some (.map _ _ c _ _ m),some (.iter ml c' seen left)=>if ml=loc/\c'=c/\(ak B.e l2).isNone=true then
    match bP B S N d (.aU [.aG false]),bP B S N d (.aU [.aG true,.un,.un]) with
    | some S1,some S2=>some fun K => .br (fun _=>left ()==0) (.all Unit (fun _=>∀ key x,dG c.ls key=true->m () key=some x->key∈seen ()) fun _=>K S1) (.all (List Kx×Nat) (fun p=>dG c.ls p.1=true/\(m () p.1).isSome=true/\p.1∉seen ()/\p.2<left ()) fun p=>K ⟨S2.t,(l2,.iter loc c (fun _=>p.1::seen ()) fun _=>p.2)::S2.e,S2.n⟩)
    | _,_=>none
    else none
   | _,_=>none
  | _,_=>none
 | .call c=>match c.callee with
  | .value x=>match bT B S x,C.yl,bc B S 0,o.dst with
   | .fJ l,some y,some (.fh k),some d=>match Pv B S&&AV.mC (fun _=>false) (y.el fun _=>k () - 1),sS none B S (c.args.toList.map (bT B S)) (y.el fun _=>k () - 1),bP B S N d (.aG true),bP B S N d (.aG false) with
    | true,some vcs,some S1,some S2=>some fun K => .vc ((fun _=>l ()=y.l ()/\0<k ()/\k ()<=y.n ())::vcs) (.and (K ⟨S1.t,(0,.fh fun _=>k ()+1)::S1.e,S1.n⟩) (K ⟨S2.t,(0,.fh fun _=>0)::S2.e,S2.n⟩))
    | _,_,_,_=>none
   | _,_,_,_=>none
  | _=>none
 | _=>none
def pQ(N:Nat)(B:Bs)(S:Sx)(o:Oper):Option Sx:=match o.dst with
 | some d=>bP B S N d (.aU [])
 | none=>some S
def ch(C:Cx)(N:Nat)(B:Bs)(ops:List Oper):List Oper->Sx->(Sx->Fm)->Fm
 | [],S,k=>k S
 | o::rest,S,k =>
  let go (S:Sx):Fm:=match mE C N B S o with
   | some f=>f fun S'=>ch C N B ops rest S' k
   | none=>match og C N B S o with
    | some (S',[])=>ch C N B ops rest S' k
    | some (S',vcs) => .vc vcs (ch C N B ops rest S' k)
    | none => .ff (1000+rest.length)
  let no (S:Sx):Fm:=match pQ N B S o with
   | some S'=>ch C N B ops rest S' k
   | none => .ff 3
  match od B S ops o with
  | .yes=>go S
  | .no=>no S
  | .ask d c b=>match bP B S N d (.aG true),bP B S N d (.aG false) with
   | some S1,some S2 => .br c (if b then go S1 else no S1) (if b then no S2 else go S2)
   | _,_ => .ff 4
  | .stuck => .ff 5
def kD(ef:List Nat):Op->Bool
 | .alloc _=>false
 | .box _ _=>false
 | .store _ _ _=>false
 | .buildSlice _ _ _=>false
 | .makeSlice _ _ _=>false
 | .makeMap _ _=>false
 | .mapUpdate _ _ _ _=>false
 | .mapEntry _ _ _=>false
 | .entryStore _ _ _ _=>false
 | .insert _ _ _ _=>false
 | .range _ _=>false
 | .next _ _=>false
 | .call c=>match c.callee with
  | .builtin .len=>true
  | .builtin .min=>true
  | .builtin .max=>true
  | .builtin _=>false
  | .value (.func f) => !bF f ef
  | _ => !bF 999999999 ef
 | _=>true
def aj6:Op->Bool
 | .mapEntry _ _ _=>true
 | _=>false
def qB:Op->Bool
 | .move _=>true
 | .assign _=>true
 | .binOp _ _ _ _ _=>true
 | .unOp _ _ _=>true
 | .convert _ _ _=>true
 | .fieldAddr _ _ _=>true
 | .indexAddr _ _ _=>true
 | .extract _ _=>true
 | _=>false
def X2(ef:List Nat)(me:Bool)(op:Op):Bool:=kD ef op&&(!me||qB op)
def Pw(ef:List Nat)(me:Bool):List Oper->List Bool->List Bool
 | [],acc=>acc
 | o::l,acc=>Pw ef me l (acc ++ [X2 ef me o.op&&o.after.all fun e => !Region.binds .any e||acc.getD e.on false])
def X3(l:List Oper):Nat->List Nat->List Nat
 | 0,acc=>acc
 | j+1,acc=>X3 l j (match bF j acc with
  | true=>(match l[j]? with
   | some o=>(o.after.toList.filter fun e=>Region.binds .any e).map (fun e=>e.on)++acc
   | none=>acc)
  | false=>acc)
def X4:Nat->List Bool->Option Nat
 | _,[]=>none
 | i,b::l=>if b then X4 (i+1) l else some i
def aj7(l:List Oper)(f:List Bool):Bool:=match X4 0 f with
 | none=>false
 | some j =>
  let an:=X3 l (j+1) [j]
  (List.range l.length).any fun i=>f.getD i false && !bF i an&&match l[i]? with
   | some o => !qB o.op
   | none=>false
def X5(ef:List Nat)(l:List Oper):Bool:=(l.any fun o=>aj6 o.op)||aj7 l (Pw ef false l [])
def yk(ef:List Nat)(l:List Oper):List Nat :=
 let f:=Pw ef (X5 ef l) l []
 ((List.range l.length).filter fun i=>f.getD i false)++(List.range l.length).filter fun i => !f.getD i false
def z7(ef:List Nat)(me:Bool):List Oper->Nat
 | []=>0
 | o::l=>if X2 ef me o.op then z7 ef me l+1 else 0
def rW(ef:List Nat)(l:List Oper):Nat:=z7 ef (X5 ef l) l
def Ci:List (Nat×List Nat)->Nat->List Nat
 | [],_ => []
 | (k,l)::m,id=>cond (k==id) l (Ci m id)
def join(K B:Bs):Bs:=⟨K.t++B.t,K.e++B.e⟩
def leave(K:Bs)(S:Sx):Sx:=⟨S.t++K.t,S.e++K.e,S.n⟩
def X6(l:List Oper)(np:Nat):Bool:=(List.range np).all fun i=>match l[i]? with
 | some o=>(match o.guard with
  | none=>true
  | some (j,_)=>decide (j<i)&&o.after.any fun e=>Region.binds .any e&&e.on==j) && !Oh o.op&&o.op.operands.toList.all fun x=>match x with
  | .tmp s=>Og l np i o s
  | _=>true
 | none=>false
def gT:List Nat->Nat->Nat
 | [],_=>0
 | k::l,j=>if k=j then 0 else gT l j+1
def JA(σ:List Nat)(e:Edge):Edge := { e with on:=gT σ e.on }
def o5(σ:List Nat)(o:Oper):Oper := { o with after:=o.after.map (JA σ),guard:=match o.guard with
 | some (g,b)=>some (gT σ g,b)
 | none=>none }
def X7 : Oper := ⟨none, .move (.const (.bool false)), 0, "", #[], none⟩
def ck(σ:List Nat)(l:List Oper):List Oper := σ.map fun i=>o5 σ (match l[i]? with
 | some o=>o
 | none=>X7)
def fp(σ:List Nat)(n:Nat):Bool := σ.length==n&&((List.range n).all fun j => σ[gT σ j]? == some j)&&(List.range n).all fun k=>match σ[k]? with
 | some i=>decide (i<n)&&gT σ i==k
 | none=>false
def wB(l:List Oper)(i:Nat):Bool:=match l[i]? with
 | some oi=>(List.range l.length).all fun j=>match l[j]? with
  | some oj=>i==j||(oi.after.any fun e=>Region.binds .any e&&e.on==j)||(oj.after.any fun e=>Region.binds .any e&&e.on==i)||oi.apart l.toArray oj
  | none=>true
 | none=>true
def z8(l:List Oper)(np:Nat)(kE:Nat->Bool):Bool :=
 (List.range l.length).all fun j=>match l[j]? with
  | some o=>(o.after.all fun e => !Region.binds .any e||decide (e.on<j))&&(decide (j<np)||(List.range np).all fun i=>kE i||waits .any l.toArray l.length j i)
  | none=>false
def laid(ef:List Nat)(l:List Oper):List Oper:=ck (yk ef l) l
def uF(l:List Oper)(np i:Nat):Bool:=decide (i<np)&&match l[i]? with
 | some o=>qB o.op
 | none=>false
def ER(ef:List Nat)(ops:List Oper)(N:Nat):Bool :=
 let l:=laid ef ops
 let np:=rW ef l
 fp (yk ef ops) ops.length&&(z8 l np (uF l np)&&(zz l np N&&(X6 l np&&((List.range np).all (fun i => !uF l np i||wB l i)&&l.all fun o => !Oh o.op))))
def Cj(ef:List Nat)(σ:List Nat)(np:Nat)(ops:List Oper)(N:Nat):Bool :=
 let l:=ck σ ops
 decide (np<=l.length)&&((l.take np).all (fun o=>kD ef o.op)&&(fp σ ops.length&&(z8 l np (uF l np)&&(zz l np N&&(X6 l np&&((List.range np).all (fun i => !uF l np i||wB l i)&&l.all fun o => !Oh o.op))))))
def Ck(l:List Oper)(np:Nat):Bool:=(List.range l.length).all fun j=>decide (j<=np)||match l[j]? with
 | some o=>o.after.any fun e=>Region.binds .any e&&e.on==j - 1
 | none=>false
def mF(l:List Oper)(done:List Nat):List Nat:=(List.range l.length).filter fun i=>match l[i]? with
 | some o => !bF i done&&o.after.all fun e => !Region.binds .any e||bF e.on done
 | none=>false
def JB:List Nat->(Nat->Fm)->Fm
 | [],_ => .ff 19
 | [i],f=>f i
 | i::l,f => .and (f i) (JB l f)
def ym(l:List Oper):List Nat->Option Nat
 | []=>none
 | i::is=>if (match l[i]? with
  | some o=>qB o.op&&o.dst.isSome&&wB l i
  | none=>false) then some i else ym l is
def z9:Op->Bool
 | .move _=>true
 | .assign _=>true
 | .load _ _=>true
 | .indexAddr _ _ _=>true
 | .unOp _ _ _=>true
 | .fieldAddr _ _ _=>true
 | .extract _ _=>true
 | _=>false
def Px(l:List Oper)(done:List Nat)(i:Nat):Bool:=match l[i]? with
 | some oi=>z9 oi.op&&(oi.dst.isSome&&(List.range l.length).all fun j=>j==i||(bF j done||(waits .any l.toArray l.toArray.size j i||match l[j]? with
  | some oj=>oi.apart l.toArray oj&&z9 oj.op
  | none=>true)))
 | none=>false
def ES(l:List Oper)(done:List Nat):List Nat->Option Nat
 | []=>none
 | i::is=>if Px l done i then some i else ES l done is
def sU(C:Cx)(N:Nat)(B:Bs)(l:List Oper):Nat->List Nat->Sx->(Sx->Fm)->Fm
 | 0,done,S,k=>match mF l done with
  | []=>k S
  | _ => .ff 19
 | fuel+1,done,S,k =>
  let one (i:Nat):Fm:=match l[i]? with
   | some o=>ch C N B l [o] S fun S'=>sU C N B l fuel (i::done) S' k
   | none => .ff 19
  match mF l done with
  | []=>k S
  | [i]=>one i
  | is=>match ym l is with
   | some i=>one i
   | none=>JB is one
def X8(C:Cx)(N:Nat)(B:Bs)(l:List Oper)(np:Nat)(S:Sx)(k:Sx->Fm):Fm :=
 ch C N B l (l.take np) S fun S'=>match Ck l np with
  | true=>ch C N B l (l.drop np) S' k
  | false=>sU C N B l (l.length - np) (List.range np) S' k
def JC(C:Cx)(N:Nat)(B:Bs)(l:List Oper)(S:Sx)(k:Sx->Fm):Fm:=X8 C N B l (rW (cb C) l) S k
def eP(C:Cx)(N:Nat)(B:Bs)(ops:List Oper):mB->Sx->(Sx->Fm)->Fm
 | .nil,S,k=>k S
 | .bad,_,_ => .ff 20
 | .op i r,S,k=>match ops[i]? with
  | some o=>ch C N B ops [o] S fun S'=>eP C N B ops r S' k
  | none => .ff 21
 | .alt a b,S,k => .and (eP C N B ops a S k) (eP C N B ops b S k)
def JD:List (Nat×mB)->Nat->Option mB
 | [],_=>none
 | (k,s)::m,id=>cond (k==id) (some s) (JD m id)
def JE:List (Nat×yf)->Nat->Option yf
 | [],_=>none
 | (k,s)::m,id=>cond (k==id) (some s) (JE m id)
def bo:List Nat->mB->mB
 | [],r=>r
 | i::is,r => .op i (bo is r)
def oh(ks:List Nat):List (Nat×En)->List (Nat×En)
 | [] => []
 | (k,e)::l=>match bF k ks,e with
  | true,_=>oh ks l
  | false,.bq _ _ _=>oh (k::ks) l
  | false,.dead=>oh (k::ks) l
  | false,e=>(k,e)::oh (k::ks) l
def JF(C:Cx)(N:Nat)(B:Bs)(ops:List Oper)(o:Oper)(S:Sx):Option Sx:=match od B S ops o with
 | .yes=>match mE C N B S o with
  | some _=>none
  | none=>match og C N B S o with
   | some (S',_)=>some S'
   | none=>none
 | .no=>pQ N B S o
 | _=>none
def wC(ks:List Nat)(S:Sx):Sx:=⟨pN ks S.t,oh [] S.e,S.n⟩
def ET(C:Cx)(N:Nat)(B:Bs)(ops:List Oper):List Nd->List (Sx×List Nat)->Option (List (Sx×List Nat))
 | [],acc=>some acc
 | nd::eO,acc=>match acc[nd.up.1]?,ops[nd.up.2]? with
  | some p,some o=>match JF C N B ops o p.1 with
   | some S'=>ET C N B ops eO (acc ++ [(wC nd.ks S',p.2++List.replicate (S'.n - p.1.n) nd.up.2)])
   | none=>none
  | _,_=>none
def Py(x:Nat):List Nat->Nat
 | []=>0
 | y::l=>cond (y==x) (Py x l+1) (Py x l)
def Pz(x:Nat):Nat->List Nat->Nat
 | _,[]=>0
 | k,y::l=>match y==x,k with
  | true,0=>0
  | true,k+1=>Pz x k l+1
  | false,k=>Pz x k l+1
def sV(b:List Nat):List Nat->List Nat->List Nat
 | _,[] => []
 | seen,x::l=>Pz x (Py x seen) b::sV b (x::seen) l
def gO(n0:Nat)(σ:List Nat)(l:Nat):Nat:=match decide (l<n0) with
 | true=>l
 | false=>match σ[l - n0]? with
  | some k=>n0+k
  | none=>l
def yn(g:Nat->Nat):List (Nat×AV)->List (Nat×AV)
 | [] => []
 | (k,x)::l=>(k,AV.fU g x)::yn g l
def EU(B:Bs)(n0:Nat)(own:List Nat)(T:Sx×List Nat)(S':Sx):Fm:=match S'.n==T.1.n with
 | true=>match qA (sV T.2 [] own) (List.range own.length) with
  | true=>nj B S' T.1.t T.1.e
  | false=>match fp (sV T.2 [] own) own.length&&decide (n0+own.length<=S'.n) with
   | true=>nj B ⟨yn (gO n0 (sV T.2 [] own)) S'.t,kA (gO n0 (sV T.2 [] own)) S'.e,S'.n⟩ T.1.t T.1.e
   | false => .ff 26
 | false => .ff 27
def EV(eO:List Nd)(t j oi:Nat):Bool:=match eO[t]? with
 | some nd=>nd.up.1==j&&(nd.up.2==oi && ! t==0)
 | none=>false
def JG(C:Cx)(N:Nat)(B:Bs)(ops:List Oper)(n0:Nat)(eO:List Nd)(eJ:List (Sx×List Nat))(j:Nat)(Sj:Sx×List Nat):List (Nat×Nat×Nat)->Fm->Fm
 | [],A=>A
 | (_,oi,t)::es,A=>match ops[oi]?,eJ[t]? with
  | some o,some T => .and (match EV eO t j oi with
   | true=>ch C N B ops [o] Sj.1 fun _ => .fin []
   | false=>ch C N B ops [o] Sj.1 fun S'=>EU B n0 (Sj.2++List.replicate (S'.n - Sj.1.n) oi) T S') (JG C N B ops n0 eO eJ j Sj es A)
  | _,_ => .ff 28
def EW(B:Bs)(S:Sx):Bool:=lZ (cP S.n) S.t&&(jr (cP S.n) S.e&&(l0 B.t S.t&&l0 B.e S.e))
def EX(C:Cx)(N:Nat)(B:Bs)(ops:List Oper)(n0:Nat)(eO:List Nd)(eJ:List (Sx×List Nat))(k:Sx->Fm):Nat->List Nd->Fm
 | _,[] => .ff 29
 | j,nd::r=>match eJ[j]? with
  | some Sj=>match EW B Sj.1 with
   | true=>match nd.ed with
    | []=>k Sj.1
    | es=>JG C N B ops n0 eO eJ j Sj es (EX C N B ops n0 eO eJ k (j+1) r)
   | false => .ff 24
  | none => .ff 30
def JH(C:Cx)(N:Nat)(B:Bs)(ops:List Oper)(eO:List Nd)(S:Sx)(k:Sx->Fm):Fm:=match eO with
 | []=>k S
 | nd::r=>match decide (C.nb<=S.n)&&(lZ (cP S.n) B.t&&jr (cP S.n) B.e) with
  | true=>match ET C N B ops r [(wC nd.ks S,[])] with
   | some eJ=>EX C N B ops S.n (nd::r) eJ k 0 (nd::r)
   | none => .ff 22
  | false => .ff 25
def JI(C:Cx)(N:Nat)(B:Bs)(id:Nat)(ops:List Oper)(S:Sx)(k:Sx->Fm):Fm:=match JE C.lt id with
 | some t=>eP C N B ops (bo t.row .nil) S fun S'=>eP C N B ops (bo t.pre .nil) S' fun S'=>JH C N B ops t.eO S' fun S'=>eP C N B ops (bo t.post .nil) S' k
 | none=>match JD C.sc id with
  | some s=>eP C N B ops s S k
  | none=>JC C N B (laid (cb C) ops) S k
def PA(C:Cx)(N:Nat)(B:Bs)(ops:List Oper):List Oper->Sx->Option Sx
 | [],S=>some S
 | o::l,S=>match od B S ops o with
  | .yes=>match og C N B S o with
   | some (S',_)=>PA C N B ops l S'
   | none=>none
  | .no=>match pQ N B S o with
   | some S'=>PA C N B ops l S'
   | none=>none
  | _=>none
def PB(C:Cx)(N:Nat)(B:Bs)(l:List Oper)(ks:List Nat)(S:Sx)(go:(Sx->Fm)->Fm)(k:Sx->Fm):Fm:=match PA C N B l l S with
 | none => .ff 22
 | some S1=>match lZ (cP S1.n) (pN ks S1.t)&&(jr (cP S1.n) (oh [] S1.e)&&(l0 B.t (pN ks S1.t)&&l0 B.e (oh [] S1.e))) with
  | true => .and (go fun S'=>if S'.n=S1.n then nj B S' (pN ks S1.t) (oh [] S1.e) else .ff 23) (k ⟨pN ks S1.t,oh [] S1.e,S1.n⟩)
  | false => .ff 24
def PC(C:Cx)(id:Nat)(f:Unit->Fm):Fm:=match bF id C.ct with
 | true => .all Unit (fun _=>True) f
 | false=>f ()
/- two cG change ajB names -/
def yo(p q l:Nat):Nat:=cond (l==p) q (cond (l==q) p l)
def wD(p q l:Nat):Bool := !(l==p||l==q)
def PD(nb:Nat)(B:Bs)(p q:Nat)(S:Sx):Sx:=cond (decide (nb<=p)&&(decide (nb<=q)&&(decide (p<S.n)&&(decide (q<S.n)&&(lZ (wD p q) B.t&&jr (wD p q) B.e))))) ⟨yn (yo p q) S.t,kA (yo p q) S.e,S.n⟩ S
mutual
def JJ:AV->AV->List (Nat×Nat)
 | .own p,.own q=>cond (p==q) [] [(p,q)]
 | .agg l,.agg m=>JK l m
 | .aU l,.aU m=>JK l m
 | _,_ => []
def JK:List AV->List AV->List (Nat×Nat)
 | x::l,y::m=>JJ x y++JK l m
 | _,_ => []
end
def PE(B:Bs)(S:Sx):List (Nat×AV)->List (Nat×Nat)
 | [] => []
 | (d,y)::l=>match dH B S d with
  | some x=>JJ x y++PE B S l
  | none=>PE B S l
def JL(B:Bs)(S:Sx):List (Nat×En)->List (Nat×Nat)
 | [] => []
 | (k,.box _ cs)::l=>match bc B S k with
  | some (.box _ cs')=>JK cs' cs++JL B S l
  | _=>JL B S l
 | _::l=>JL B S l
def EY(nb:Nat)(B:Bs)(prs:Sx->List (Nat×Nat)):Nat->Sx->Sx
 | 0,S=>S
 | n+1,S=>match prs S with
  | []=>S
  | (p,q)::_=>EY nb B prs n (PD nb B p q S)
def Aa(nb:Nat)(B:Bs)(S:Sx)(ov:List (Nat×AV))(oe:List (Nat×En)):Sx:=EY nb B (fun S=>PE B S ov++JL B S oe) 3 S
/- nothing in it is called new -/
mutual
def AV.qC:AV->Bool
 | .sl fr _ _ => !fr
 | .wide fr _ _ _ => !fr
 | .bg cs _=>AV.om cs
 | .agg cs=>AV.om cs
 | .aU cs=>AV.om cs
 | .fn _ cs=>AV.om cs
 | _=>true
def AV.om:List AV->Bool
 | []=>true
 | x::l=>AV.qC x&&AV.om l
end
def EZ(B:Bs)(N:Nat):List Nat->List AV->Sx->Option Sx
 | [],[],S=>some S
 | p::ps,x::xs,S=>match bP B S N p x with
  | some S'=>EZ B N ps xs S'
  | none=>none
 | _,_,_=>none
structure Fx where
 C:Cx
 N:Nat
 Ls:List (Nat×Lp)
 R:Bs->Sx->Fm
def X9:List (Nat×Lp)->Nat->Option Lp
 | [],_=>none
 | (k,v)::l,d=>if k==d then some v else X9 l d
mutual
def run(F:Fx)(fuel:Nat)(c:Code)(B:Bs)(S:Sx)(K:List Kt):Fm :=
 match fuel with
 | 0 => .ff 6
 | fuel+1=>match c with
  | .skip=>cont F fuel B S K
  | .label _=>cont F fuel B S K
  | .region id ops draw=>PC F.C id fun _=>match draw with
   | true=>match Jt F.C.jn id with
    | some ks=>PB F.C F.N B (laid (cb F.C) ops.toList) ks (Cd F.C id (cond F.C.fx S (rU F.C.nb B (Ci F.C.fz id) S))) (JI F.C F.N B id ops.toList (Cd F.C id (cond F.C.fx S (rU F.C.nb B (Ci F.C.fz id) S)))) fun S'=>cont F fuel B S' K
    | none=>JI F.C F.N B id ops.toList (Cd F.C id (cond F.C.fx S (rU F.C.nb B (Ci F.C.fz id) S))) fun S'=>cont F fuel B S' K
   | false=>ch F.C F.N B ops.toList ops.toList (Cd F.C id (cond F.C.fx S (rU F.C.nb B (Ci F.C.fz id) S))) fun S'=>cont F fuel B S' K
  | .seq a b=>run F fuel a B S (.code b::K)
  | .cond x a b=>match bT B S x with
   | .aG true=>run F fuel a B S K
   | .aG false=>run F fuel b B S K
   | .bool t => .br t (run F fuel a B S K) (run F fuel b B S K)
   | _ => .ff 8
  | .block id b=>run F fuel b B S (.block id::K)
  | .loop b=>match keyOf b with
   | some k =>
    let go (lp:Lp):Fm :=
     let aD:=dI (lp.oe lp.x0)
     let n:=ni S.n aD
     let K':Bs:=⟨oc (Pr b aD n S.t) aD n S.t,qz aD n S.e⟩
     let B':=join K' B
     .and (.vc [fun _=>lp.I lp.x0] (nj B S (lp.ov lp.x0) (lp.oe lp.x0))) (.all lp.X lp.I fun x =>
      if qA (dI (lp.oe x)) aD&&lZ (cP n) (lp.ov x)&&jr (cP n) (lp.oe x)&&l0 B'.t (lp.ov x)&&l0 B'.e (lp.oe x) then
      run F fuel b B' ⟨lp.ov x,lp.oe x,n⟩ (.back B K' (fun Bi S'=>if n<=S'.n then (match lp.nx with
       | some nx => .vc [fun _=>lp.I (nx x)/\lp.μ (nx x) ()<lp.μ x ()] (nj Bi (Aa F.C.nb Bi S' (lp.ov (nx x)) (lp.oe (nx x))) (lp.ov (nx x)) (lp.oe (nx x)))
       | none => .ex lp.X (fun y=>lp.I y/\lp.μ y ()<lp.μ x ()) fun y=>nj Bi (Aa F.C.nb Bi S' (lp.ov y) (lp.oe y)) (lp.ov y) (lp.oe y)) else .ff 17)::K)
      else .ff 15)
    match bF k F.C.ul with
    | true=>run F fuel b B S (.again b::K)
    | false=>match X9 F.Ls k with
     | some lp=>go lp
     | none => .Po go
   | none => .ff 9
  | .exit id=>exitTo F fuel id B S K
  | .ret=>lB F fuel B S K
  | .rangeFunc g ps ag bd=>match Cg K||F.C.yl.isSome,bT B S g with
   | false,.fn f dw=>match IS F.C.lY f with
    | some it=>match (match AV.dO false dw with
     | true=>pF (bc B S) it.sig dw
     | false=>none) with
     | some ai=>match it.go ai with
      | some r => .XY fun rp =>
       let aD:=dI (rp.oe 0)
       let n:=ni S.n aD
       let K':Bs:=⟨oc (rV ag++rV bd++ps.toList++EO aD n S.t) aD n S.t,qz aD n S.e⟩
       let B':=join K' B
       .and (.vc [r.pre,fun _=>rp.I 0] (nj B S [] (rp.oe 0))) (.all Nat (fun k=>rp.I k/\k<=r.n ()) fun k =>
        if qA (dI (rp.oe k)) aD&&jr (cP n) (rp.oe k)&&l0 B'.e (rp.oe k)&&AV.om (r.el fun _=>k) then
         match EZ B' F.N ps.toList (r.el fun _=>k) ⟨[],rp.oe k,n⟩ with
         | some Sk => .and (.all Unit (fun _=>k<r.n ()) fun _=>run F fuel ag B' Sk [.wA fun B1 S1=>run F fuel bd B1 S1 [.dW (fun Bi S'=>if n<=S'.n then .vc [fun _=>rp.I (k+1)] (nj Bi (Aa F.C.nb Bi S' [] (rp.oe (k+1))) [] (rp.oe (k+1))) else .ff 17) (fun id S'=>exitTo F fuel id B ⟨K'.t,S'.e++K'.e,S'.n⟩ K) (fun S'=>lB F fuel B ⟨K'.t,S'.e++K'.e,S'.n⟩ K)]])
          (.all Unit (fun _=>k=r.n ()) fun _=>cont F fuel B ⟨K'.t,rp.oe k++K'.e,n⟩ K)
         | none => .ff 46
        else .ff 15)
      | none => .ff 42
     | none => .ff 43
    | none => .ff 44
   | _,_ => .ff 45
  | _ => .ff 10
def cont(F:Fx)(fuel:Nat)(B:Bs)(S:Sx)(K:List Kt):Fm :=
 match fuel with
 | 0 => .ff 6
 | fuel+1=>match K with
  | []=>F.R B S
  | .code c::K=>run F fuel c B S K
  | .block _::K=>cont F fuel B S K
  | .back _ _ f::_=>f B S
  | .again b::K=>run F fuel (.loop b) B S K
  | .wA f::_=>f B S
  | .dW f _ _::_=>f B S
def exitTo(F:Fx)(fuel:Nat)(id:Nat)(B:Bs)(S:Sx)(K:List Kt):Fm :=
 match fuel with
 | 0 => .ff 6
 | fuel+1=>match K with
  | [] => .ff 11
  | .code _::K=>exitTo F fuel id B S K
  | .block JM::K=>if JM=id then cont F fuel B S K else exitTo F fuel id B S K
  | .back Bo K' _::K=>exitTo F fuel id Bo (leave K' S) K
  | .again _::K=>exitTo F fuel id B S K
  | .wA _::_ => .ff 41
  | .dW _ x _::_=>x id S
def lB(F:Fx)(fuel:Nat)(B:Bs)(S:Sx)(K:List Kt):Fm :=
 match fuel with
 | 0 => .ff 6
 | fuel+1=>match K with
  | []=>F.R B S
  | .code _::K=>lB F fuel B S K
  | .block _::K=>lB F fuel B S K
  | .back Bo K' _::K=>lB F fuel Bo (leave K' S) K
  | .again _::K=>lB F fuel B S K
  | .wA _::_ => .ff 41
  | .dW _ _ l::_=>l S
end
def sW(C:Cx)(B:Bs)(S:Sx):List ResultVar->Option (List AV)
 | []=>some []
 | .tmp t::l=>(sW C B S l).map fun r=>n9 B S t::r
 | .cell p T::l=>match ak C.ty T with
  | some i=>match Em (bc B S) i.ti.agg i.sz (n9 B S p),sW C B S l with
   | some x,some r=>some (x::r)
   | _,_=>none
  | none=>none
def JN:List AV->AV
 | [x]=>x
 | l => .aU l
def Ya(C:Cx)(rs:List ResultVar)(want:AV)(es:List (Nat×En))(B:Bs)(S:Sx):Fm :=
 match sW C B S rs with
 | some l=>match Ch (some (dI es)) B S (JN l) want,mD (some (dI es)) B S es with
  | some a,some b => .fin (a++b)
  | _,_ => .ff 13
 | none => .ff 14
def Yb(C:Cx)(rs:List ResultVar)(want:AV)(B:Bs)(S:Sx):Sx:=EY C.nb B (fun S=>match sW C B S rs with
 | some l=>JJ (JN l) want
 | none => []) 3 S
def Cl(C:Cx)(rs:List ResultVar)(want:AV)(es:List (Nat×En))(B:Bs)(S:Sx):Fm:=Ya C rs want es B (Yb C rs want B S)
def wE:Nat->List AV->List (Nat×AV)
 | _,[] => []
 | k,x::l=>(k,x)::wE (k+1) l
def kF(f:Func):Code:=f.body.getD .skip
def En.qC:En->Bool
 | .box _ cs=>AV.om cs
 | .row fr _ _ _ => !fr
 | .map fr _ _ _ _ _ => !fr
 | _=>true
def JO:List (Nat×En)->Bool
 | []=>true
 | (_,e)::l=>En.qC e&&JO l
def PF(ks:List Nat)(l:Nat):Bool:=bF l ks
def Ab(C:Cx)(Ls:List (Nat×Lp))(fn:Func)(args:List AV)(Ac:List (Nat×En))(n0:Nat)(want:AV)(es:List (Nat×En)):Fm :=
 if decide (n0<=C.nb)&&decide (args.length<=fn.ntmps)&&AV.om args&&JO Ac&&AV.under (PF (dI es)) want&&jr (PF (dI es)) es&&ye (dI es) n0 then
 run ⟨C,fn.ntmps,Ls,Cl C fn.results.toList want es⟩ 100000 (kF fn) ⟨[],[]⟩ ⟨wE 0 args,Ac,n0⟩ [] else .ff 18
def E0(C:Cx)(rs:List ResultVar)(n:Unit->Nat)(B:Bs)(S:Sx):Fm:=match sW C B S rs,bc B S 0 with
 | some _,some (.fh k) => .fin [fun _=>k ()=n ()+1\/k ()=0]
 | _,_ => .ff 47
def PG(C:Cx)(Ls:List (Nat×Lp))(fn:Func)(args:List AV)(l:Nat)(res:IQ):Fm :=
 if decide (1<=C.nb)&&decide (args.length+1<=fn.ntmps)&&AV.om args then
 run ⟨{ C with yl:=some ⟨fun _=>l,res.n,res.el⟩ },fn.ntmps,Ls,E0 C fn.results.toList res.n⟩ 100000 (kF fn) ⟨[],[]⟩ ⟨wE 0 (.fJ (fun _=>l)::args),[(0,.fh fun _=>1)],1⟩ [] else .ff 18
def yp(C:Cx)(Ls:List (Nat×Lp))(fn:Func)(args:List AV)(want:AV):Fm:=Ab C Ls fn args [] 0 want []
def gq(P:Program)(o:Oper)(a:Act)(w:World)(K:Act->World->Prop):Prop :=
 (∃ v w',(execOp a.eval o).run P w = .ok (.value v) w'/\K (a.put o.dst v) w') \/
 (∃ w',(execOp a.eval o).run P w = .ok .skip w'/\K (a.put o.dst undef) w') \/
 (∃ f args,(execOp a.eval o).run P w = .ok (.enter f args) w/\Calls P f args w fun e w'=>∃ v,e = .returned v/\K (a.put o.dst v) w') \/
 ∃ l f tmps x y,(execOp a.eval o).run P w = .ok (.round l f tmps x y) w/\RoundIn Fence.wide 0 P l f tmps x y w fun e w'=>∃ v,e = .returned v/\K (a.put o.dst v) w'
theorem JP{P:Program}(h:o.uponIn Fence.wide 0 P a K Q ((execOp a.eval o).run P w)):o.wpIn Fence.wide 0 P a w K Q:=⟨fun _ _=>trivial,h⟩
theorem PH{P:Program}(h:o.wpIn Fence.wide 0 P a w K Q):o.uponIn Fence.wide 0 P a K Q ((execOp a.eval o).run P w):=h.2
theorem gq.wp{P:Program}(h:gq P o a w K)(hK:∀ a w,K a w->K' a w):o.wpIn Fence.wide 0 P a w K' Q:=by
 refine JP ?_;rcases h with ⟨v,w',h1,h2⟩|⟨w',h1,h2⟩|⟨f,args,h1,h2⟩|⟨l,f,tmps,x,y,h1,h2⟩
 . rw [h1]; exact hK _ _ h2
 . rw [h1]; exact hK _ _ h2
 . rw [h1];refine⟨fun h=>by simp [Fence.wide] at h,(callsIn_wide.2 h2).mono fun e w' h3 => ?_⟩;obtain⟨v,rfl,h4⟩:=h3;exact hK _ _ h4
 . rw [h1];refine⟨fun h=>by simp [Fence.wide] at h,h2.mono fun e w' h3 => ?_⟩;obtain⟨v,rfl,h4⟩:=h3;exact hK _ _ h4
section
variable{P:Program}{ops:Array Oper}{Q:Exit->Act->World->Prop}{K:Act->World->Prop}{i:Nat}{o:Oper}{a:Act}{w:World}
theorem PI(ho:ops[i]? = some o)(hw:Region.wanted o (yielded ops a.tmps)=true)(h:o.wpIn Fence.wide 0 P a w K Q):wpOpIn Fence.wide 0 P ops Q i K a w:=by
 unfold wpOpIn;simp only [ho];rw [aw hw];exact h
theorem Yc(ho:ops[i]? = some o)(hw:Region.wanted o (yielded ops a.tmps)=false)(hK:K (a.put o.dst undef) w):wpOpIn Fence.wide 0 P ops Q i K a w:=by
 unfold wpOpIn;simp only [ho];rw [ar (by rw [hw]; simp)];exact⟨fun _ _=>trivial,hK⟩
abbrev wd(r:Option Nat):Fence := { Fence.wide with round:=r }
theorem Yd{r:Option Nat}(hd:∀ c,o.op ≠ .defer c)(h:o.wpIn Fence.wide 0 P a w K Q):o.wpIn (wd r) 0 P a w K Q:=by
 refine⟨fun _ _=>trivial,?_⟩;have h2:=PH h;rw [Oper.semAt_eq _ _ _ hd];generalize (execOp a.eval o).run P w=R at h2 ⊢
 cases R with
 | ok x w'=>cases x<;>exact h2
 | halt x w'=>cases x<;>exact h2
theorem PJ{r:Option Nat}:∀ {l:List Oper} {a:Act} {w:World},(∀ o∈l,∀ c,o.op ≠ .defer c)->wpListIn Fence.wide 0 P ops Q l a w->wpListIn (wd r) 0 P ops Q l a w
 | [],_,_,_,h=>h
 | o::l,a,w,hd,h=>by
  unfold wpListIn at h ⊢;split
  . rename_i hw;rw [aw hw] at h;exact Yd (hd o (.head _)) (Oper.wpIn_mono (fun a w h=>PJ (fun o ho=>hd o (.tail _ ho)) h) h)
  . rename_i hw;rw [ar hw] at h;exact⟨fun _ _=>trivial,PJ (fun o ho=>hd o (.tail _ ho)) h.2⟩
theorem JQ{r:Option Nat}{md:Region.Mode}(hd:∀ (j:Nat) o c,ops[j]? = some o->o.op ≠ .defer c):∀ (f) (listed) (a) (w),wpAnyIn Fence.wide 0 P md ops Q f listed a w->wpAnyIn (wd r) 0 P md ops Q f listed a w
 | 0,_,_,_,h=>h
 | f+1,listed,a,w,h=>by
  refine⟨h.1,fun i hi => ?_⟩;have h2:=h.2 i hi;unfold wpOpIn at h2 ⊢;split
  . rename_i ho;rw [ho] at h2;exact JQ hd f _ _ _ h2
  . rename_i o ho;rw [ho] at h2;dsimp only at h2;split
    . rename_i hw;rw [aw hw] at h2;exact Yd (fun c=>hd i o c ho) (Oper.wpIn_mono (fun a w h=>JQ hd f _ _ _ h) h2)
    . rename_i hw;rw [ar hw] at h2;exact⟨fun _ _=>trivial,JQ hd f _ _ _ h2.2⟩
theorem PK(h:qB o.op=true)(r)(w):o.about P w r=none:=by
 unfold Oper.about;cases ho:o.op<;>first|rfl|(rw [ho] at h; cases h)
end
section
variable{P:Program}{w w' w0:World}{ρ ρ':Nat->Option Rl}{base:Nat}{ro ro':Nat->Prop}{S0:Pm}{Φ : Pm->Prop}{N:Nat}{B:Bs}{S:Sx}{a:Act}
theorem JR{x:AV}{cs:List AV}(h:cellsOf x=some cs)(hx:ah w ρ base ro x v):∃ vs,v.cells=vs.toArray/\aQ w ρ base ro cs vs:=by
 unfold cellsOf at h;split at h
 . cases h;obtain⟨vs,rfl,hE⟩:=hx.oS;exact⟨vs,rfl,hE⟩
 . cases h
 . cases h
 . rename_i h1 h2 h3;cases h;exact⟨[v],OL hx (fun l e=>h1 l e) (fun e=>h2 e),.cons hx .nil⟩
theorem aj8{x:AV}(h:AV.one x=true)(hx:ah w ρ base ro x v):v.oneCell'=true:=by
 cases hx<;>first|rfl|cases h
theorem aj9(fr)(t)(x):(aO fr t x).all AV.one=true:=by cases t<;>rfl
theorem PL{l:List AV}(h:l.all AV.one=true)(hE:aQ w ρ base ro l vs):∀ u∈vs,u.oneCell'=true:=by
 intro u hu;obtain⟨j,hj⟩:=kW.1 hu;have aj:=(cM.1 hj).1;have hl:j<l.length:=by rw [hE.1]; exact aj
 exact aj8 (dK.1 h _ (mj hl)) (hE.2 j _ u (bp hl) hj)
theorem aka{s:Sg}{x y:AV}(h:norm s x=some y)(hx:ah w ρ base ro x v):ah w ρ base ro y v:=by
 unfold norm at h;split at h
 . split at h<;>cases h; exact hx
 . split at h<;>cases h
   rw [hx.mw];exact .int _ _
 . cases h; exact hx
 . cases h;rw [hx.pH];exact .bool _
 . cases h; exact hx
 . split at h<;>cases h; exact hx
 . cases h;rw [hx.wb];exact .sl true _ _ none 0 [] rfl (az _) (Rd.nil _ _ _ _) (fun _ h=>by cases h) (fun _ _ h=>by cases h) (fun k cs j x v h=>by simp at h)
 . split at h<;>cases h
   exact zS hx
 . split at h<;>cases h
   exact hx
 . split at h<;>cases h
   obtain⟨A,c,css,_,_,_,_,_,_,oV⟩:=hx.pI;rw [oV] at hx ⊢;exact .wide _ _ _ _ A c (az _) hx
 . cases h;rw [hx.wb];exact .wide true _ (fun _ => []) (fun _=>0) none 0 (az _) (.sl true _ _ none 0 [] rfl (az _) (Rd.nil _ _ _ _) (fun _ h=>by cases h) (fun _ _ h=>by cases h) (fun k cs j x v h=>by simp at h))
 . cases h
theorem Ye:∀ {ss:List Sg} {xs ys:List AV} {vs:List Value},Jp ss xs=some ys->aQ w ρ base ro xs vs->aQ w ρ base ro ys vs
 | [],[],ys,vs,h,hE=>by cases h; exact hE
 | s::ss,x::xs,ys,vs,h,hE=>by
  unfold Jp at h;split at h
  . rename_i y Jd h1 h2;cases h;obtain⟨v,us,rfl,hx,na⟩:=hE.head;exact .cons (aka h1 hx) (Ye h2 na)
  . cases h
 | [],_::_,_,_,h,_=>by cases h
 | _::_,[],_,_,h,_=>by cases h
theorem Yf{l:List AV}(h:aQ w ρ base ro l vs):aQ w ρ base ro (l.map AV.loose) vs:=by
 exact Xj
theorem JS{x:AV}{e:Unit->t.el}(h:wy t x=some (f,e))(hx:ah w ρ base ro x v):∃ vs,v.cells=vs.toArray/\vs.length=t.size/\aQ w ρ base ro (aO f t e) vs:=by
 unfold wy at h;split at h
 . rename_i cs hc;split at h
   . rename_i ys hn
     cases hm:Jo t ys with
     | none=>rw [hm] at h; cases h
     | some e' =>
      rw [hm] at h;simp only [dv,bI,rz] at h;obtain⟨rfl,rfl⟩:=h;obtain⟨vs,h1,hE⟩:=JR hc hx;have pR:=Ye hn hE;have Yg:=ajX hm;have h3:aQ w ρ base ro (aO (AV.dO true ys) t e') vs:=by
       cases hp:AV.dO true ys with
       | true=>rw [Yg.2 hp]; exact pR
       | false=>rw [Yg.1]; exact Yf pR
      exact⟨vs,h1,by rw [<- h3.1,Oq],h3⟩
   . cases h
 . cases h
theorem Ad{x:Unit->t.el}(h:aQ w ρ base ro (aO f t x) vs)(PM:g=true->f=true):aQ w ρ base ro (aO g t x) vs:=by
 cases g with
 | true=>rw [PM rfl] at h; exact h
 | false=>rw [B4 f]; exact Yf h
theorem Yh{t:Tc}:∀ {xs:List AV} {us:List Value} {f:Bool} {es:List (Unit->t.el)},Ca t xs=some (f,es)->aQ w ρ base ro xs us->∃ css:List (List Value),us.map Value.cells=css.map List.toArray/\css.length=es.length/\∀ (k:Nat) cs e,css[k]? = some cs->es[k]? = some e->cs.length=t.size/\aQ w ρ base ro (aO f t e) cs
 | [],us,f,es,h,hE=>by
  simp only [Ca,bI,rz] at h;obtain⟨rfl,rfl⟩:=h;rw [hE.none];exact⟨[],rfl,rfl,fun k cs e hk=>by simp at hk⟩
 | x::xs,us,f,es,h,hE=>by
  unfold Ca at h;split at h
  . rename_i f1 e1 f2 es2 h1 h2;simp only [bI,rz] at h;obtain⟨rfl,rfl⟩:=h;obtain⟨v,us',rfl,hx,na⟩:=hE.head;obtain⟨vs,k1,k2,k3⟩:=JS h1 hx;obtain⟨css,q1,q2,q3⟩:=Yh h2 na;refine⟨vs::css,by simp [k1,q1],by simp [q2],fun k cs e hk he => ?_⟩
    cases k with
    | zero =>
     simp only [oH,bI] at hk he;subst hk; subst he;exact⟨k2,Ad k3 JT⟩
    | succ k =>
     obtain⟨r1,r2⟩:=q3 k cs e (by simpa using hk) (by simpa using he);exact⟨r1,Ad r2 JU⟩
  . cases h
theorem iL(ρ)(loc)(r):fe ρ loc r loc=some r:=by unfold fe; rw [aw rfl]
theorem qD(h : ρ loc=none):Ext ρ (fe ρ loc r):=by
 intro l r' hl;unfold fe;split
 . rename_i e; subst e; rw [h] at hl; cases hl
 . exact hl
theorem sX(h : ρ loc=some r):fe ρ loc r = ρ:=by
 funext l;unfold fe;split
 . rename_i e; subst e; exact h.symm
 . rfl
theorem bh.alloc(H:bh w0 S0 N B S a w ρ ro){cells:List AV}(hB:ak B.e S.n=none)(hE:aQ w ρ w0.heap.size ro cells cs) :
 bh w0 S0 N B ⟨S.t,(S.n,.box T cells)::S.e,S.n+1⟩ a (w.alloc (.cells cs.toArray T)) (fe ρ S.n (.box w.heap.size)) ro:=by
 have fq:=H.fresh S.n (az _);have gi:∀ b,b<w.heap.size->(w.alloc (.cells cs.toArray T)).heap[b]? = w.heap[b]? := fun b hb=>qj w _ b hb;refine H.oY (H.from_.alloc _) (by simp) (fun b hb _=>gi b hb) (fun b hb => ?_) hB (Bu _) (zp _) (.inl (qD fq)) (.inl fun b hb=>by rw [fq] at hb; cases hb) ⟨w.heap.size,cs,iL _ _ _,ry w _,?_⟩
 . injection hb with hb;subst hb;exact .inr ⟨az _,by simp⟩
 . exact hE.mono (fun b _ hb=>gi b hb) (qD fq) (az _) fun _ h=>h
theorem ah.Yi:ah w (fe ρ loc (.box b)) base ro (.ptr loc 0) (.pointer (some ⟨b,0,none⟩)) := .ptr _ _ _ (iL _ _ _)
theorem Yj{j:TypeInfo}(hj:P.info? T=some j)(hz:j.zero=some z):(zeroValue T).run P w = .ok z w:=by
 exact Xl
theorem akb(aA:cS P C.ty)(H:aP w0 Φ N B S a w)(hi:ak C.ty T=some i)(hz:i.z.isEmpty=false)(hB:ak B.e S.n=none)(hp:bP B ⟨S.t,(S.n,.box T i.z)::S.e,S.n+1⟩ N d (.ptr S.n 0)=some S') :
 gq P ⟨some d,.alloc T,ty,pos,aft,gd⟩ a w (aP w0 Φ N B S'):=by
 obtain⟨S0,hS,ρ,ro,H⟩:=H;obtain⟨j,z,hj,xY,hE⟩:=OO (w:=w) (ρ := ρ) (base:=w0.heap.size) (ro:=ro) (aA T i hi) hz;have H2:=H.alloc (T:=T) hB hE;refine .inl ⟨.pointer (some ⟨w.heap.size,0,none⟩),_,?_,S0,hS,_,_,H2.put hp .Yi⟩;unfold execOp;simp only [Instr.alloc,bt,Yj hj xY,bM,newVar,newRow,bU];rfl
theorem akc(H:aP w0 Φ N B S a w){cells:List AV}(hc:cellsOf (bT B S x)=some cells)(hB:ak B.e S.n=none)(hp:bP B ⟨S.t,(S.n,.box T cells)::S.e,S.n+1⟩ N d (.ptr S.n 0)=some S') :
 gq P ⟨some d,.box T x,ty,pos,aft,gd⟩ a w (aP w0 Φ N B S'):=by
 obtain⟨S0,hS,ρ,ro,H⟩:=H;obtain⟨vs,hv,hE⟩:=JR hc (H.get x);have H2:=H.alloc (T:=T) hB hE;refine .inl ⟨.pointer (some ⟨w.heap.size,0,none⟩),_,?_,S0,hS,_,_,H2.put hp .Yi⟩;unfold execOp;simp only [Instr.box,bt,newVar,newRow,bU,hv];rfl
theorem Yk(h:v.cells=vs.toArray):v.cells.toList=vs:=by rw [h]
theorem setRow_size(w:World)(g)(cs):(w.setRow g cs).heap.size=w.heap.size:=by simp [World.setRow]
theorem PN(w:World)(g)(cs):w.grownBy (w.setRow g cs) (some g) :=
 ⟨rfl,rfl,rfl,by rw [setRow_size]; exact az _,fun k _ hk=>DN w g k cs fun e=>hk (by rw [e])⟩
theorem bh.Ae(H:bh w0 S0 N B S a w ρ ro){g:Nat}(h : ρ l=some r)(hb:r.ca=some g):∀ k,some g=some k->S0.may w0 k:=by
 intro k hk;injection hk with hk;subst hk;have h0:=(H.own l r g h hb).2.2;refine⟨?_,h0.2⟩;rcases h0.1 with h1|⟨r0,h1,h2⟩
 . exact .inl h1
 . exact .inr ⟨l,r0,h1,h2⟩
theorem akd(aA:cS P C.ty)(H:aP w0 Φ N B S a w){cells cs:List AV}(hi:ak C.ty T=some i)(hc:cellsOf (bT B S y)=some cs)(hx:bT B S x = .ptr loc off)(he:bc B S loc=some (.box T' cells))(hl:cs.length=i.sz)(jB:off+i.sz<=cells.length)(h1:cs.all AV.one=true)(hB:ak B.e loc=none) :
 gq P ⟨none,.store T x y,ty,pos,aft,gd⟩ a w (aP w0 Φ N B ⟨S.t,(loc,.box T' (cells.take off++cs++cells.drop (off+i.sz)))::S.e,S.n⟩):=by
 obtain⟨S0,hS,ρ,ro,H⟩:=H;have ke:=H.get x;rw [hx] at ke;obtain⟨b,hb,mG⟩:=ke.xV;obtain⟨b',us,aW,hh,hE⟩:=H.en _ _ he;rw [hb] at aW;injection aW with aW;injection aW with aW;subst aW;obtain⟨vs,hv,pR⟩:=JR hc (H.get y);obtain⟨j,hj,wF,_⟩:=I5 (aA T i hi);have mH:vs.length=i.sz:=by rw [<- pR.1]; exact hl
 have D6:us.length=cells.length:=hE.1.symm;have cB:=Ic (P:=P) (w:=w) (T:=T) (n:=i.sz) (g:=b) (off:=off) (t:=T') (cur:=us.toArray) (v:=a.eval y) (cs:=vs) (by rw [hj]; simp [wF]) (Yk hv) mH hh (by simp [D6]; exact jB) (PL h1 pR);have aj:=(jz.1 hh).1;have ng:loc<S.n:=by
  exact Ym
 have o6:(execOp a.eval ⟨none,.store T x y,ty,pos,aft,gd⟩).run P w = .ok .skip (w.setRow b (us.toArray.toList.take off++vs++us.toArray.toList.drop (off+i.sz)).toArray):=by
  exact Yn
 have bB:¬ ro b:=(H.own loc _ b hb rfl).2.1;have hw:∀ b',ro b'->b'<w.heap.size->(w.setRow b (us.toArray.toList.take off++vs++us.toArray.toList.drop (off+i.sz)).toArray).heap[b']? = w.heap[b']? := fun b' aW _=>DN _ _ _ _ (fun e=>bB (e▸aW));have H2:=H.oY (w':=w.setRow b (us.toArray.toList.take off++vs++us.toArray.toList.drop (off+i.sz)).toArray) (loc:=loc) (n:=S.n) (r := .box b) (e := .box T' (cells.take off++cs++cells.drop (off+i.sz))) (H.from_.grown (PN _ _ _) (H.Ae hb rfl)) (by rw [setRow_size]; exact az _) (fun b' aW aT=>DN _ _ _ _ (fun e=>aT _ hb (by rw [e]; rfl))) (fun b' aW => .inl ⟨_,hb,aW⟩) hB (az _) ng (.inl PO) (.inl fun b' aW=>by rw [hb] at aW; cases aW) (by
  refine⟨b,_,iL _ _ _,Ny w b _ _ T' _ hh,?_⟩;rw [sX hb];exact (((hE.take off).append pR).append (hE.drop (off+i.sz))).mono hw (Ext.refl _) (az _) fun _ h=>h)
 exact .inr (.inl ⟨_,o6,S0,hS,_,_,H2⟩)
end
end Go.Proofs.YtlpikgchnjajmaaGreat
