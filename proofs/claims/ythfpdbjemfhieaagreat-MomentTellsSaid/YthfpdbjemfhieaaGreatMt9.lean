/-
  The abstract run of a function's code: what is to be shown of plain data, so that the code does what is said of it.
-/
import Derived.Test.YthfpdbjemfhieaaGreatMt8
set_option linter.unusedVariables false
set_option linter.unusedSimpArgs false
namespace Go.Proofs.YthfpdbjemfhieaaGreat
open Go.RowKit
structure Lp where
 X:Type
 ov:X->List (Nat×AV)
 oe:X->List (Nat×En)
 I:X->Prop
 μ:X->Unit->Nat
 x0:X
 nx:Option (X->X)
inductive Fm where
 | ff (why:Nat)
 | vc (l:List VC) (A:Fm)
 | br (c:Unit->Bool) (A B:Fm)
 | fin (l:List VC)
 | and (A B:Fm)
 | all (X:Type) (I:X->Prop) (f:X->Fm)
 | ex (X:Type) (I:X->Prop) (f:X->Fm)
 | exl (f:Lp->Fm)
def allVC:List VC->Prop
 | []=>True
 | [c]=>c ()
 | c::l=>c ()/\allVC l
def Fm.P:Fm->Prop
 | .ff _=>False
 | .vc l A=>allVC l/\A.P
 | .br c A B=>(c ()=true->A.P)/\(c ()=false->B.P)
 | .fin l=>allVC l
 | .and A B=>A.P/\B.P
 | .all _ I f=>∀ x,I x->(f x).P
 | .ex _ I f=>∃ x,I x/\(f x).P
 | .exl f=>∃ lp,(f lp).P
inductive Kt where
 | code (c:Code)
 | block (id:Nat)
 | back (Bo K:Bs) (f:Bs->Sx->Fm)
 | again (b:Code)
/- what a piece of code writes -/
def modsOps:List Oper->List Nat
 | [] => []
 | o::l=>match o.dst with
  | some d=>d::modsOps l
  | none=>modsOps l
def mods:Code->List Nat
 | .region _ ops _=>modsOps ops.toList
 | .seq a b=>mods a++mods b
 | .cond _ a b=>mods a++mods b
 | .block _ b=>mods b
 | .loop b=>mods b
 | .scope b=>mods b
 | _ => []
def keyOf:Code->Option Nat
 | .region id _ _=>some id
 | .seq a b=>match keyOf a with
  | some k=>some k
  | none=>keyOf b
 | .cond _ a b=>match keyOf a with
  | some k=>some k
  | none=>keyOf b
 | .block _ b=>keyOf b
 | .loop b=>keyOf b
 | .scope b=>keyOf b
 | _=>none
def ltB (n l:Nat):Bool:=decide (l<n)
/- the places that are named are such as p says -/
mutual
def AV.under (p:Nat->Bool):AV->Bool
 | .own l=>p l
 | .orp _ l _ _=>p l
 | .ptr l _=>p l
 | .mp l=>p l
 | .stamp l=>p l
 | .it _ l=>p l
 | .pto cs _=>AV.underL p cs
 | .agg cs=>AV.underL p cs
 | .tup cs=>AV.underL p cs
 | .fn _ cs=>AV.underL p cs
 | _=>true
def AV.underL (p:Nat->Bool):List AV->Bool
 | []=>true
 | x::l=>AV.under p x&&AV.underL p l
end
def hasAny (x:AV):List Nat->Bool
 | []=>false
 | l::ls=>AV.has l x||hasAny x ls
def keepT (md locs:List Nat) (n:Nat):List (Nat×AV)->List (Nat×AV)
 | [] => []
 | (d,x)::l=>if memN d md then keepT md locs n l else (d,if hasAny x locs || !AV.under (ltB n) x then .un else x)::keepT md locs n l
def unSlots (locs:List Nat) (n:Nat):List (Nat×AV)->List Nat
 | [] => []
 | (d,x)::l=>match hasAny x locs || !AV.under (ltB n) x with
  | true=>d::unSlots locs n l
  | false=>unSlots locs n l
def modsU (b:Code) (locs:List Nat) (n:Nat) (l:List (Nat×AV)):List Nat:=mods b++unSlots locs n l
def keepC (locs:List Nat) (n:Nat):List AV->List AV
 | [] => []
 | x::l=>(if hasAny x locs || !AV.under (ltB n) x then .un else x)::keepC locs n l
def keepEn (locs:List Nat) (n:Nat):En->En
 | .box T cs => .box T (keepC locs n cs)
 | .iter ml c seen left=>if memN ml locs||decide (n<=ml) then .dead else .iter ml c seen left
 | .stamp _ _ _ => .dead
 | e=>e
def keepE (locs:List Nat) (n:Nat):List (Nat×En)->List (Nat×En)
 | [] => []
 | (k,e)::l=>if memN k locs||decide (n<=k) then keepE locs n l else (k,keepEn locs n e)::keepE locs n l
def sameN:List Nat->List Nat->Bool
 | [],[]=>true
 | a::l,b::m=>a==b&&sameN l m
 | _,_=>false
def belowT (p:Nat->Bool):List (Nat×AV)->Bool
 | []=>true
 | (_,x)::l=>AV.under p x&&belowT p l
def toT (F:Tc->Type) {t t':Tc} (h:t=t') (x:F t):F t':=h▸x
/- is what is there as is wanted? -/
def eqInt (a b:Unit->Int):List VC := [fun _=>a ()=b ()]
mutual
def eqAV (fz:Option (List Nat)) (B:Bs) (S:Sx):AV->AV->Option (List VC)
 | _,.un=>some []
 | .int k a,.int k' b=>if k=k' then some (eqInt a b) else none
 | .lit k a,.int k' b=>if k=k' then some [fun _=>a=b ()] else none
 | .int k a,.lit k' b=>if k=k' then some [fun _=>a ()=b] else none
 | .lit k a,.lit k' b=>if k=k'/\a=b then some [] else none
 | .bool a,.bool b=>some [fun _=>a ()=b ()]
 | .blit a,.bool b=>some [fun _=>a=b ()]
 | .bool a,.blit b=>some [fun _=>a ()=b]
 | .blit a,.blit b=>if a=b then some [] else none
 | .str a,.str b=>some [fun _=>a ()=b ()]
 | .nil,.nil=>some []
 | .nil,.sl _ _ l=>some [fun _=>l () = []]
 | .nil,.own loc=>match fz with
  | none=>if decide (S.n<=loc) then some [] else none
  | some _=>none
 | .sl fr t l,.sl fr' t' m=>if h:t'=t then (if fr || !fr' then some [fun _=>l ()=toT (fun t=>List t.el) h (m ())] else none) else none
 | .own loc,.sl fr' t' m=>match fz with
  | none=>none
  | some ks=>if memN loc ks then none else match lookE B S loc with
   | some (.row fr t _ l)=>if h:t'=t then (if fr || !fr' then some [fun _=>l ()=toT (fun t=>List t.el) h (m ())] else none) else none
   | _=>none
 | .wide fr t l n,.sl fr' t' m=>if h:t'=t then (if fr || !fr' then some [fun _=>(l ()).take (n ())=toT (fun t=>List t.el) h (m ())] else none) else none
 | .wide fr t l n,.wide fr' t' m k=>if h:t'=t then (if fr || !fr' then some [fun _=>l ()=toT (fun t=>List t.el) h (m ()),fun _=>n ()=k ()] else none) else none
 | .own loc,.own loc'=>if loc=loc' then some [] else none
 | .ptr loc off,.ptr loc' off'=>if loc=loc'/\off=off' then some [] else none
 | .mp loc,.mp loc'=>if loc=loc' then some [] else none
 | .it l l2,.it l' l2'=>if l=l'/\l2=l2' then some [] else none
 | .agg l,.agg m=>eqAVs fz B S l m
 | .tup l,.tup m=>eqAVs fz B S l m
 | .fn f l,.fn g m=>if f=g then eqAVs fz B S l m else none
 | _,_=>none
def eqAVs (fz:Option (List Nat)) (B:Bs) (S:Sx):List AV->List AV->Option (List VC)
 | [],[]=>some []
 | x::l,y::m=>match eqAV fz B S x y,eqAVs fz B S l m with
  | some a,some b=>some (a++b)
  | _,_=>none
 | _,_=>none
end
def eqTs (B:Bs) (S:Sx):List (Nat×AV)->Option (List VC)
 | []=>some []
 | (d,y)::l=>match lookT B S d,eqTs B S l with
  | some x,some b=>(eqAV none B S x y).map fun a=>a++b
  | _,_=>none
def eqEs (fz:Option (List Nat)) (B:Bs) (S:Sx):List (Nat×En)->Option (List VC)
 | []=>some []
 | (k,.box T cs)::l=>match lookE B S k with
  | some (.box T' cs')=>if T=T' then (match eqAVs fz B S cs' cs,eqEs fz B S l with
   | some a,some b=>some (a++b)
   | _,_=>none) else none
  | _=>none
 | (k,.row fr t T m)::l=>match eqEs fz B S l with
  | some b=>match lookE B S k with
   | some (.row fr' t' T' m')=>if h:t=t' then (if T=T'/\(fr' || !fr)=true then some ((fun _=>m' ()=toT (fun t=>List t.el) h (m ()))::b) else none) else none
   | some _=>none
   | none=>match fz with
    | none=>if S.n<=k then some ((fun _=>m () = [])::b) else none
    | some _=>none
  | none=>none
 | (k,.map fr ag c t T m)::l=>match eqEs fz B S l with
  | some b=>match lookE B S k with
   | some (.map fr' ag' c' t' T' m')=>if h:t=t' then (if T=T'/\ag=ag'/\c=c'/\(fr' || !fr)=true then some ((fun _=>m' ()=toT (fun t=>List Kx->Option t.el) h (m ()))::b) else none) else none
   | _=>none
  | none=>none
 | (k,.iter ml c seen left)::l=>match eqEs fz B S l with
  | some b=>match lookE B S k with
   | some (.iter ml' c' seen' left')=>if ml=ml'/\c=c' then some ((fun _=>seen' ()=seen ())::(fun _=>left' ()=left ())::b) else none
   | _=>none
  | none=>none
 | (_,.stamp _ _ _)::_=>none
 | (_,.dead)::_=>none
def En.under (p:Nat->Bool):En->Bool
 | .box _ cs=>AV.underL p cs
 | .iter ml _ _ _=>p ml
 | .stamp ml _ _=>p ml
 | _=>true
def belowE (p:Nat->Bool):List (Nat×En)->Bool
 | []=>true
 | (k,e)::l=>p k&&En.under p e&&belowE p l
def apartK {α β:Type} (l:List (Nat × α)):List (Nat × β)->Bool
 | []=>true
 | (d,_)::m=>(alook l d).isNone&&apartK l m
def eqS (B:Bs) (S:Sx) (ov:List (Nat×AV)) (oe:List (Nat×En)):Fm :=
 match eqTs B S ov,eqEs none B S oe with
 | some a,some b => .fin (a++b)
 | _,_ => .ff 1
inductive Wd where
 | yes|no|ask (d:Nat) (c:Unit->Bool) (b:Bool)|stuck
def wantedAV (B:Bs) (S:Sx) (ops:List Oper) (o:Oper):Wd :=
 match o.guard with
 | none => .yes
 | some (j,b)=>match (ops[j]?).bind (·.dst) with
  | some d=>match getT B S d with
   | .blit c=>if c=b then .yes else .no
   | .bool c => .ask d c b
   | .tup [] => .no
   | _ => .stuck
  | none => .stuck
def stepOp (C:Cx) (N:Nat) (B:Bs) (S:Sx) (o:Oper):Option (Sx×List VC) :=
 match pureOp C.ty C.cs (lookE B S) (getO B S) o.op with
 | some (av,vcs)=>match o.dst with
  | some d=>(putT B S N d av).map fun S'=>(S',vcs)
  | none=>some (S,vcs)
 | none=>match memOp C N B (cond C.fx S (preS B S o.op)) o with
  | some r=>some r
  | none=>match callOp C N B S o with
   | some r=>some r
   | none=>makeOp C N B S o
def splitOp (C:Cx) (N:Nat) (B:Bs) (S:Sx) (o:Oper):Option ((Sx->Fm)->Fm) :=
 match o.op with
 | .range T x=>match tiOf C.ty T,getO B S x,o.dst with
  | some (.map _ _ _ _ _),.mp loc,some d=>match lookE B S loc with
   | some (.map _ _ c _ _ _)=>match (alook B.e S.n).isNone,putT B ⟨S.t,S.e,S.n+1⟩ N d (.it loc S.n) with
    | true,some S'=>some fun K => .all Nat (fun _=>True) fun n=>K ⟨S'.t,(S.n,.iter loc c (fun _ => []) fun _=>n)::S'.e,S'.n⟩
    | _,_=>none
   | _=>none
  | _,_,_=>none
 | .next x false=>match getO B S x,o.dst with
  | .it loc l2,some d=>match lookE B S loc,lookE B S l2 with
   | some (.map _ _ c _ _ m),some (.iter ml c' seen left)=>if ml=loc/\c'=c/\(alook B.e l2).isNone=true then
    match putT B S N d (.tup [.blit false]),putT B S N d (.tup [.blit true,.un,.un]) with
    | some S1,some S2=>some fun K => .br (fun _=>left ()==0) (.all Unit (fun _=>∀ key x,fitsL c.ls key=true->m () key=some x->key∈seen ()) fun _=>K S1) (.all (List Kx×Nat) (fun p=>fitsL c.ls p.1=true/\(m () p.1).isSome=true/\p.1∉seen ()/\p.2<left ()) fun p=>K ⟨S2.t,(l2,.iter loc c (fun _=>p.1::seen ()) fun _=>p.2)::S2.e,S2.n⟩)
    | _,_=>none
    else none
   | _,_=>none
  | _,_=>none
 | _=>none
def skipOp (N:Nat) (B:Bs) (S:Sx) (o:Oper):Option Sx:=match o.dst with
 | some d=>putT B S N d (.tup [])
 | none=>some S
def goOps (C:Cx) (N:Nat) (B:Bs) (ops:List Oper):List Oper->Sx->(Sx->Fm)->Fm
 | [],S,k=>k S
 | o::rest,S,k =>
  let go (S:Sx):Fm:=match splitOp C N B S o with
   | some f=>f fun S'=>goOps C N B ops rest S' k
   | none=>match stepOp C N B S o with
    | some (S',[])=>goOps C N B ops rest S' k
    | some (S',vcs) => .vc vcs (goOps C N B ops rest S' k)
    | none => .ff (1000+rest.length)
  let no (S:Sx):Fm:=match skipOp N B S o with
   | some S'=>goOps C N B ops rest S' k
   | none => .ff 3
  match wantedAV B S ops o with
  | .yes=>go S
  | .no=>no S
  | .ask d c b=>match putT B S N d (.blit true),putT B S N d (.blit false) with
   | some S1,some S2 => .br c (if b then go S1 else no S1) (if b then no S2 else go S2)
   | _,_ => .ff 4
  | .stuck => .ff 5
def isPure (ef:List Nat):Op->Bool
 | .alloc _=>false
 | .box _ _=>false
 | .store _ _ _=>false
 | .buildSlice _ _ _=>false
 | .makeSlice _ _ _=>false
 | .makeMap _ _=>false
 | .mapUpdate _ _ _ _=>false
 | .mapEntry _ _ _=>false
 | .entryStore _ _ _ _=>false
 | .insert _ _ _ _=>false
 | .range _ _=>false
 | .next _ _=>false
 | .call c=>match c.callee with
  | .builtin .len=>true
  | .builtin .min=>true
  | .builtin .max=>true
  | .builtin _=>false
  | .value (.func f) => !memN f ef
  | _=>true
 | _=>true
def isEntry:Op->Bool
 | .mapEntry _ _ _=>true
 | _=>false
def isReg:Op->Bool
 | .move _=>true
 | .assign _=>true
 | .binOp _ _ _ _ _=>true
 | .unOp _ _ _=>true
 | .convert _ _ _=>true
 | .fieldAddr _ _ _=>true
 | .indexAddr _ _ _=>true
 | .extract _ _=>true
 | _=>false
def isEarly (ef:List Nat) (me:Bool) (op:Op):Bool:=isPure ef op&&(!me||isReg op)
def earlyGo (ef:List Nat) (me:Bool):List Oper->List Bool->List Bool
 | [],acc=>acc
 | o::l,acc=>earlyGo ef me l (acc ++ [isEarly ef me o.op&&o.after.all fun e => !Region.binds .any e||acc.getD e.on false])
def ancGo (l:List Oper):Nat->List Nat->List Nat
 | 0,acc=>acc
 | j+1,acc=>ancGo l j (match memN j acc with
  | true=>(match l[j]? with
   | some o=>(o.after.toList.filter fun e=>Region.binds .any e).map (fun e=>e.on)++acc
   | none=>acc)
  | false=>acc)
def firstNo:Nat->List Bool->Option Nat
 | _,[]=>none
 | i,b::l=>if b then firstNo (i+1) l else some i
def freeB (l:List Oper) (f:List Bool):Bool:=match firstNo 0 f with
 | none=>false
 | some j =>
  let an:=ancGo l (j+1) [j]
  (List.range l.length).any fun i=>f.getD i false && !memN i an&&match l[i]? with
   | some o => !isReg o.op
   | none=>false
def modeOf (ef:List Nat) (l:List Oper):Bool:=(l.any fun o=>isEntry o.op)||freeB l (earlyGo ef false l [])
def sigma (ef:List Nat) (l:List Oper):List Nat :=
 let f:=earlyGo ef (modeOf ef l) l []
 ((List.range l.length).filter fun i=>f.getD i false)++(List.range l.length).filter fun i => !f.getD i false
def preLenM (ef:List Nat) (me:Bool):List Oper->Nat
 | []=>0
 | o::l=>if isEarly ef me o.op then preLenM ef me l+1 else 0
def preLen (ef:List Nat) (l:List Oper):Nat:=preLenM ef (modeOf ef l) l
def fzAt:List (Nat×List Nat)->Nat->List Nat
 | [],_ => []
 | (k,l)::m,id=>cond (k==id) l (fzAt m id)
def join (K B:Bs):Bs:=⟨K.t++B.t,K.e++B.e⟩
def leave (K:Bs) (S:Sx):Sx:=⟨S.t++K.t,S.e++K.e,S.n⟩
def readsC (l:List Oper) (np:Nat):Bool:=(List.range np).all fun i=>match l[i]? with
 | some o=>(match o.guard with
  | none=>true
  | some (j,_)=>decide (j<i)&&o.after.any fun e=>Region.binds .any e&&e.on==j) && !isSel o.op&&o.op.operands.toList.all fun x=>match x with
  | .tmp s=>slotB l np i o s
  | _=>true
 | none=>false
def posN:List Nat->Nat->Nat
 | [],_=>0
 | k::l,j=>if k=j then 0 else posN l j+1
def remapE (σ:List Nat) (e:Edge):Edge := { e with on:=posN σ e.on }
def remapO (σ:List Nat) (o:Oper):Oper := { o with after:=o.after.map (remapE σ),guard:=match o.guard with
 | some (g,b)=>some (posN σ g,b)
 | none=>none }
def dumO : Oper := ⟨none, .move (.const (.bool false)), 0, "", #[], none⟩
def permL (σ:List Nat) (l:List Oper):List Oper := σ.map fun i=>remapO σ (match l[i]? with
 | some o=>o
 | none=>dumO)
def permB (σ:List Nat) (n:Nat):Bool := σ.length==n&&((List.range n).all fun j => σ[posN σ j]? == some j)&&(List.range n).all fun k=>match σ[k]? with
 | some i=>decide (i<n)&&posN σ i==k
 | none=>false
def apartB (l:List Oper) (i:Nat):Bool:=match l[i]? with
 | some oi=>(List.range l.length).all fun j=>match l[j]? with
  | some oj=>i==j||(oi.after.any fun e=>Region.binds .any e&&e.on==j)||(oj.after.any fun e=>Region.binds .any e&&e.on==i)||oi.apart l.toArray oj
  | none=>true
 | none=>true
def orderR (l:List Oper) (np:Nat) (reg:Nat->Bool):Bool :=
 (List.range l.length).all fun j=>match l[j]? with
  | some o=>(o.after.all fun e => !Region.binds .any e||decide (e.on<j))&&(decide (j<np)||(List.range np).all fun i=>reg i||waits .any l.toArray l.length j i)
  | none=>false
def laid (ef:List Nat) (l:List Oper):List Oper:=permL (sigma ef l) l
def regAt (l:List Oper) (np i:Nat):Bool:=decide (i<np)&&match l[i]? with
 | some o=>isReg o.op
 | none=>false
def drawOk (ef:List Nat) (ops:List Oper) (N:Nat):Bool :=
 let l:=laid ef ops
 let np:=preLen ef l
 permB (sigma ef ops) ops.length&&(orderR l np (regAt l np)&&(dstsB l np N&&(readsC l np&&((List.range np).all (fun i => !regAt l np i||apartB l i)&&l.all fun o => !isSel o.op))))
def drawOkG (ef:List Nat) (σ:List Nat) (np:Nat) (ops:List Oper) (N:Nat):Bool :=
 let l:=permL σ ops
 decide (np<=l.length)&&((l.take np).all (fun o=>isPure ef o.op)&&(permB σ ops.length&&(orderR l np (regAt l np)&&(dstsB l np N&&(readsC l np&&((List.range np).all (fun i => !regAt l np i||apartB l i)&&l.all fun o => !isSel o.op))))))
def chainB (l:List Oper) (np:Nat):Bool:=(List.range l.length).all fun j=>decide (j<=np)||match l[j]? with
 | some o=>o.after.any fun e=>Region.binds .any e&&e.on==j - 1
 | none=>false
def readyN (l:List Oper) (done:List Nat):List Nat:=(List.range l.length).filter fun i=>match l[i]? with
 | some o => !memN i done&&o.after.all fun e => !Region.binds .any e||memN e.on done
 | none=>false
def andAll:List Nat->(Nat->Fm)->Fm
 | [],_ => .ff 19
 | [i],f=>f i
 | i::l,f => .and (f i) (andAll l f)
def firstReg (l:List Oper):List Nat->Option Nat
 | []=>none
 | i::is=>if (match l[i]? with
  | some o=>isReg o.op&&o.dst.isSome&&apartB l i
  | none=>false) then some i else firstReg l is
def isStill:Op->Bool
 | .move _=>true
 | .assign _=>true
 | .load _ _=>true
 | .indexAddr _ _ _=>true
 | .unOp _ _ _=>true
 | .fieldAddr _ _ _=>true
 | .extract _ _=>true
 | _=>false
def stillOk (l:List Oper) (done:List Nat) (i:Nat):Bool:=match l[i]? with
 | some oi=>isStill oi.op&&(oi.dst.isSome&&(List.range l.length).all fun j=>j==i||(memN j done||(waits .any l.toArray l.toArray.size j i||match l[j]? with
  | some oj=>oi.apart l.toArray oj&&isStill oj.op
  | none=>true)))
 | none=>false
def firstStill (l:List Oper) (done:List Nat):List Nat->Option Nat
 | []=>none
 | i::is=>if stillOk l done i then some i else firstStill l done is
def goLate (C:Cx) (N:Nat) (B:Bs) (l:List Oper):Nat->List Nat->Sx->(Sx->Fm)->Fm
 | 0,done,S,k=>match readyN l done with
  | []=>k S
  | _ => .ff 19
 | fuel+1,done,S,k =>
  let one (i:Nat):Fm:=match l[i]? with
   | some o=>goOps C N B l [o] S fun S'=>goLate C N B l fuel (i::done) S' k
   | none => .ff 19
  match readyN l done with
  | []=>k S
  | [i]=>one i
  | is=>match firstReg l is with
   | some i=>one i
   | none=>andAll is one
def goDrawN (C:Cx) (N:Nat) (B:Bs) (l:List Oper) (np:Nat) (S:Sx) (k:Sx->Fm):Fm :=
 goOps C N B l (l.take np) S fun S'=>match chainB l np with
  | true=>goOps C N B l (l.drop np) S' k
  | false=>goLate C N B l (l.length - np) (List.range np) S' k
def goDraw (C:Cx) (N:Nat) (B:Bs) (l:List Oper) (S:Sx) (k:Sx->Fm):Fm:=goDrawN C N B l (preLen (efs C.fs) l) S k
def goSch (C:Cx) (N:Nat) (B:Bs) (ops:List Oper):Sch->Sx->(Sx->Fm)->Fm
 | .nil,S,k=>k S
 | .bad,_,_ => .ff 20
 | .op i r,S,k=>match ops[i]? with
  | some o=>goOps C N B ops [o] S fun S'=>goSch C N B ops r S' k
  | none => .ff 21
 | .alt a b,S,k => .and (goSch C N B ops a S k) (goSch C N B ops b S k)
def schAt:List (Nat×Sch)->Nat->Option Sch
 | [],_=>none
 | (k,s)::m,id=>cond (k==id) (some s) (schAt m id)
def latAt:List (Nat×Lat)->Nat->Option Lat
 | [],_=>none
 | (k,s)::m,id=>cond (k==id) (some s) (latAt m id)
def schList:List Nat->Sch->Sch
 | [],r=>r
 | i::is,r => .op i (schList is r)
def uniqE (ks:List Nat):List (Nat×En)->List (Nat×En)
 | [] => []
 | (k,e)::l=>match memN k ks,e with
  | true,_=>uniqE ks l
  | false,.stamp _ _ _=>uniqE (k::ks) l
  | false,.dead=>uniqE (k::ks) l
  | false,e=>(k,e)::uniqE (k::ks) l
def detOp (C:Cx) (N:Nat) (B:Bs) (ops:List Oper) (o:Oper) (S:Sx):Option Sx:=match wantedAV B S ops o with
 | .yes=>match splitOp C N B S o with
  | some _=>none
  | none=>match stepOp C N B S o with
   | some (S',_)=>some S'
   | none=>none
 | .no=>skipOp N B S o
 | _=>none
def ndPick (ks:List Nat) (S:Sx):Sx:=⟨pickT ks S.t,uniqE [] S.e,S.n⟩
def latSt (C:Cx) (N:Nat) (B:Bs) (ops:List Oper):List Nd->List (Sx×List Nat)->Option (List (Sx×List Nat))
 | [],acc=>some acc
 | nd::nds,acc=>match acc[nd.up.1]?,ops[nd.up.2]? with
  | some p,some o=>match detOp C N B ops o p.1 with
   | some S'=>latSt C N B ops nds (acc ++ [(ndPick nd.ks S',p.2++List.replicate (S'.n - p.1.n) nd.up.2)])
   | none=>none
  | _,_=>none
def cntN (x:Nat):List Nat->Nat
 | []=>0
 | y::l=>cond (y==x) (cntN x l+1) (cntN x l)
def nthN (x:Nat):Nat->List Nat->Nat
 | _,[]=>0
 | k,y::l=>match y==x,k with
  | true,0=>0
  | true,k+1=>nthN x k l+1
  | false,k=>nthN x k l+1
def renOf (b:List Nat):List Nat->List Nat->List Nat
 | _,[] => []
 | seen,x::l=>nthN x (cntN x seen) b::renOf b (x::seen) l
def gO (n0:Nat) (σ:List Nat) (l:Nat):Nat:=match decide (l<n0) with
 | true=>l
 | false=>match σ[l - n0]? with
  | some k=>n0+k
  | none=>l
def renT (g:Nat->Nat):List (Nat×AV)->List (Nat×AV)
 | [] => []
 | (k,x)::l=>(k,AV.ren g x)::renT g l
def toF (B:Bs) (n0:Nat) (own:List Nat) (T:Sx×List Nat) (S':Sx):Fm:=match S'.n==T.1.n with
 | true=>match sameN (renOf T.2 [] own) (List.range own.length) with
  | true=>eqS B S' T.1.t T.1.e
  | false=>match permB (renOf T.2 [] own) own.length&&decide (n0+own.length<=S'.n) with
   | true=>eqS B ⟨renT (gO n0 (renOf T.2 [] own)) S'.t,renE (gO n0 (renOf T.2 [] own)) S'.e,S'.n⟩ T.1.t T.1.e
   | false => .ff 26
 | false => .ff 27
def isUp (nds:List Nd) (t j oi:Nat):Bool:=match nds[t]? with
 | some nd=>nd.up.1==j&&(nd.up.2==oi && !(t==0))
 | none=>false
def edF (C:Cx) (N:Nat) (B:Bs) (ops:List Oper) (n0:Nat) (nds:List Nd) (sts:List (Sx×List Nat)) (j:Nat) (Sj:Sx×List Nat):List (Nat×Nat×Nat)->Fm->Fm
 | [],A=>A
 | (_,oi,t)::es,A=>match ops[oi]?,sts[t]? with
  | some o,some T => .and (match isUp nds t j oi with
   | true=>goOps C N B ops [o] Sj.1 fun _ => .fin []
   | false=>goOps C N B ops [o] Sj.1 fun S'=>toF B n0 (Sj.2++List.replicate (S'.n - Sj.1.n) oi) T S') (edF C N B ops n0 nds sts j Sj es A)
  | _,_ => .ff 28
def okN (B:Bs) (S:Sx):Bool:=belowT (ltB S.n) S.t&&(belowE (ltB S.n) S.e&&(apartK B.t S.t&&apartK B.e S.e))
def ndF (C:Cx) (N:Nat) (B:Bs) (ops:List Oper) (n0:Nat) (nds:List Nd) (sts:List (Sx×List Nat)) (k:Sx->Fm):Nat->List Nd->Fm
 | _,[] => .ff 29
 | j,nd::r=>match sts[j]? with
  | some Sj=>match okN B Sj.1 with
   | true=>match nd.ed with
    | []=>k Sj.1
    | es=>edF C N B ops n0 nds sts j Sj es (ndF C N B ops n0 nds sts k (j+1) r)
   | false => .ff 24
  | none => .ff 30
def latF (C:Cx) (N:Nat) (B:Bs) (ops:List Oper) (nds:List Nd) (S:Sx) (k:Sx->Fm):Fm:=match nds with
 | []=>k S
 | nd::r=>match decide (C.nb<=S.n)&&(belowT (ltB S.n) B.t&&belowE (ltB S.n) B.e) with
  | true=>match latSt C N B ops r [(ndPick nd.ks S,[])] with
   | some sts=>ndF C N B ops S.n (nd::r) sts k 0 (nd::r)
   | none => .ff 22
  | false => .ff 25
def goReg (C:Cx) (N:Nat) (B:Bs) (id:Nat) (ops:List Oper) (S:Sx) (k:Sx->Fm):Fm:=match latAt C.lt id with
 | some t=>goSch C N B ops (schList t.row .nil) S fun S'=>goSch C N B ops (schList t.pre .nil) S' fun S'=>latF C N B ops t.nds S' fun S'=>goSch C N B ops (schList t.post .nil) S' k
 | none=>match schAt C.sc id with
  | some s=>goSch C N B ops s S k
  | none=>goDraw C N B (laid (efs C.fs) ops) S k
def detRow (C:Cx) (N:Nat) (B:Bs) (ops:List Oper):List Oper->Sx->Option Sx
 | [],S=>some S
 | o::l,S=>match wantedAV B S ops o with
  | .yes=>match stepOp C N B S o with
   | some (S',_)=>detRow C N B ops l S'
   | none=>none
  | .no=>match skipOp N B S o with
   | some S'=>detRow C N B ops l S'
   | none=>none
  | _=>none
def joinF (C:Cx) (N:Nat) (B:Bs) (l:List Oper) (ks:List Nat) (S:Sx) (go:(Sx->Fm)->Fm) (k:Sx->Fm):Fm:=match detRow C N B l l S with
 | none => .ff 22
 | some S1=>match belowT (ltB S1.n) (pickT ks S1.t)&&(belowE (ltB S1.n) (uniqE [] S1.e)&&(apartK B.t (pickT ks S1.t)&&apartK B.e (uniqE [] S1.e))) with
  | true => .and (go fun S'=>if S'.n=S1.n then eqS B S' (pickT ks S1.t) (uniqE [] S1.e) else .ff 23) (k ⟨pickT ks S1.t,uniqE [] S1.e,S1.n⟩)
  | false => .ff 24
def cutF (C:Cx) (id:Nat) (f:Unit->Fm):Fm:=match memN id C.ct with
 | true => .all Unit (fun _=>True) f
 | false=>f ()
/- two places change their names -/
def swp (p q l:Nat):Nat:=cond (l==p) q (cond (l==q) p l)
def notPQ (p q l:Nat):Bool := !(l==p||l==q)
def swapS (nb:Nat) (B:Bs) (p q:Nat) (S:Sx):Sx:=cond (decide (nb<=p)&&(decide (nb<=q)&&(decide (p<S.n)&&(decide (q<S.n)&&(belowT (notPQ p q) B.t&&belowE (notPQ p q) B.e))))) ⟨renT (swp p q) S.t,renE (swp p q) S.e,S.n⟩ S
mutual
def prsAV:AV->AV->List (Nat×Nat)
 | .own p,.own q=>cond (p==q) [] [(p,q)]
 | .agg l,.agg m=>prsAVs l m
 | .tup l,.tup m=>prsAVs l m
 | _,_ => []
def prsAVs:List AV->List AV->List (Nat×Nat)
 | x::l,y::m=>prsAV x y++prsAVs l m
 | _,_ => []
end
def prsT (B:Bs) (S:Sx):List (Nat×AV)->List (Nat×Nat)
 | [] => []
 | (d,y)::l=>match lookT B S d with
  | some x=>prsAV x y++prsT B S l
  | none=>prsT B S l
def prsE (B:Bs) (S:Sx):List (Nat×En)->List (Nat×Nat)
 | [] => []
 | (k,.box _ cs)::l=>match lookE B S k with
  | some (.box _ cs')=>prsAVs cs' cs++prsE B S l
  | _=>prsE B S l
 | _::l=>prsE B S l
def alignS (nb:Nat) (B:Bs) (prs:Sx->List (Nat×Nat)):Nat->Sx->Sx
 | 0,S=>S
 | n+1,S=>match prs S with
  | []=>S
  | (p,q)::_=>alignS nb B prs n (swapS nb B p q S)
def alignL (nb:Nat) (B:Bs) (S:Sx) (ov:List (Nat×AV)) (oe:List (Nat×En)):Sx:=alignS nb B (fun S=>prsT B S ov++prsE B S oe) 3 S
structure Fx where
 C:Cx
 N:Nat
 Ls:List (Nat×Lp)
 R:Bs->Sx->Fm
def lookL:List (Nat×Lp)->Nat->Option Lp
 | [],_=>none
 | (k,v)::l,d=>if k==d then some v else lookL l d
mutual
def run (F:Fx) (fuel:Nat) (c:Code) (B:Bs) (S:Sx) (K:List Kt):Fm :=
 match fuel with
 | 0 => .ff 6
 | fuel+1=>match c with
  | .skip=>cont F fuel B S K
  | .label _=>cont F fuel B S K
  | .region id ops draw=>cutF F.C id fun _=>match draw with
   | true=>match kpAt F.C.jn id with
    | some ks=>joinF F.C F.N B (laid (efs F.C.fs) ops.toList) ks (pickS F.C id (cond F.C.fx S (frzAll B (fzAt F.C.fz id) S))) (goReg F.C F.N B id ops.toList (pickS F.C id (cond F.C.fx S (frzAll B (fzAt F.C.fz id) S)))) fun S'=>cont F fuel B S' K
    | none=>goReg F.C F.N B id ops.toList (pickS F.C id (cond F.C.fx S (frzAll B (fzAt F.C.fz id) S))) fun S'=>cont F fuel B S' K
   | false=>goOps F.C F.N B ops.toList ops.toList (pickS F.C id (cond F.C.fx S (frzAll B (fzAt F.C.fz id) S))) fun S'=>cont F fuel B S' K
  | .seq a b=>run F fuel a B S (.code b::K)
  | .cond x a b=>match getO B S x with
   | .blit true=>run F fuel a B S K
   | .blit false=>run F fuel b B S K
   | .bool t => .br t (run F fuel a B S K) (run F fuel b B S K)
   | _ => .ff 8
  | .block id b=>run F fuel b B S (.block id::K)
  | .loop b=>match keyOf b with
   | some k =>
    let go (lp:Lp):Fm :=
     let locs:=keysOf (lp.oe lp.x0)
     let n:=maxK S.n locs
     let K':Bs:=⟨keepT (modsU b locs n S.t) locs n S.t,keepE locs n S.e⟩
     let B':=join K' B
     .and (.vc [fun _=>lp.I lp.x0] (eqS B S (lp.ov lp.x0) (lp.oe lp.x0))) (.all lp.X lp.I fun x =>
      if sameN (keysOf (lp.oe x)) locs&&belowT (ltB n) (lp.ov x)&&belowE (ltB n) (lp.oe x)&&apartK B'.t (lp.ov x)&&apartK B'.e (lp.oe x) then
      run F fuel b B' ⟨lp.ov x,lp.oe x,n⟩ (.back B K' (fun Bi S'=>if n<=S'.n then (match lp.nx with
       | some nx => .vc [fun _=>lp.I (nx x)/\lp.μ (nx x) ()<lp.μ x ()] (eqS Bi (alignL F.C.nb Bi S' (lp.ov (nx x)) (lp.oe (nx x))) (lp.ov (nx x)) (lp.oe (nx x)))
       | none => .ex lp.X (fun y=>lp.I y/\lp.μ y ()<lp.μ x ()) fun y=>eqS Bi (alignL F.C.nb Bi S' (lp.ov y) (lp.oe y)) (lp.ov y) (lp.oe y)) else .ff 17)::K)
      else .ff 15)
    match memN k F.C.ul with
    | true=>run F fuel b B S (.again b::K)
    | false=>match lookL F.Ls k with
     | some lp=>go lp
     | none => .exl go
   | none => .ff 9
  | .exit id=>exitTo F fuel id B S K
  | .ret=>leaveAll F fuel B S K
  | _ => .ff 10
def cont (F:Fx) (fuel:Nat) (B:Bs) (S:Sx) (K:List Kt):Fm :=
 match fuel with
 | 0 => .ff 6
 | fuel+1=>match K with
  | []=>F.R B S
  | .code c::K=>run F fuel c B S K
  | .block _::K=>cont F fuel B S K
  | .back _ _ f::_=>f B S
  | .again b::K=>run F fuel (.loop b) B S K
def exitTo (F:Fx) (fuel:Nat) (id:Nat) (B:Bs) (S:Sx) (K:List Kt):Fm :=
 match fuel with
 | 0 => .ff 6
 | fuel+1=>match K with
  | [] => .ff 11
  | .code _::K=>exitTo F fuel id B S K
  | .block id'::K=>if id'=id then cont F fuel B S K else exitTo F fuel id B S K
  | .back Bo K' _::K=>exitTo F fuel id Bo (leave K' S) K
  | .again _::K=>exitTo F fuel id B S K
def leaveAll (F:Fx) (fuel:Nat) (B:Bs) (S:Sx) (K:List Kt):Fm :=
 match fuel with
 | 0 => .ff 6
 | fuel+1=>match K with
  | []=>F.R B S
  | .code _::K=>leaveAll F fuel B S K
  | .block _::K=>leaveAll F fuel B S K
  | .back Bo K' _::K=>leaveAll F fuel Bo (leave K' S) K
  | .again _::K=>leaveAll F fuel B S K
end
def resAV (C:Cx) (B:Bs) (S:Sx):List ResultVar->Option (List AV)
 | []=>some []
 | .tmp t::l=>(resAV C B S l).map fun r=>getT B S t::r
 | .cell p T::l=>match alook C.ty T with
  | some i=>match loadAV (lookE B S) i.ti.agg i.sz (getT B S p),resAV C B S l with
   | some x,some r=>some (x::r)
   | _,_=>none
  | none=>none
def tupOf:List AV->AV
 | [x]=>x
 | l => .tup l
def retF0 (C:Cx) (rs:List ResultVar) (want:AV) (es:List (Nat×En)) (B:Bs) (S:Sx):Fm :=
 match resAV C B S rs with
 | some l=>match eqAV (some (keysOf es)) B S (tupOf l) want,eqEs (some (keysOf es)) B S es with
  | some a,some b => .fin (a++b)
  | _,_ => .ff 13
 | none => .ff 14
def alignR (C:Cx) (rs:List ResultVar) (want:AV) (B:Bs) (S:Sx):Sx:=alignS C.nb B (fun S=>match resAV C B S rs with
 | some l=>prsAV (tupOf l) want
 | none => []) 3 S
def retF (C:Cx) (rs:List ResultVar) (want:AV) (es:List (Nat×En)) (B:Bs) (S:Sx):Fm:=retF0 C rs want es B (alignR C rs want B S)
def zipT:Nat->List AV->List (Nat×AV)
 | _,[] => []
 | k,x::l=>(k,x)::zipT (k+1) l
def bodyOf (f:Func):Code:=f.body.getD .skip
/- nothing in it is called new -/
mutual
def AV.noFr:AV->Bool
 | .sl fr _ _ => !fr
 | .wide fr _ _ _ => !fr
 | .pto cs _=>AV.noFrL cs
 | .agg cs=>AV.noFrL cs
 | .tup cs=>AV.noFrL cs
 | .fn _ cs=>AV.noFrL cs
 | _=>true
def AV.noFrL:List AV->Bool
 | []=>true
 | x::l=>AV.noFr x&&AV.noFrL l
end
def En.noFr:En->Bool
 | .box _ cs=>AV.noFrL cs
 | .row fr _ _ _ => !fr
 | .map fr _ _ _ _ _ => !fr
 | _=>true
def noFrE:List (Nat×En)->Bool
 | []=>true
 | (_,e)::l=>En.noFr e&&noFrE l
def inK (ks:List Nat) (l:Nat):Bool:=memN l ks
def fnG (C:Cx) (Ls:List (Nat×Lp)) (fn:Func) (args:List AV) (es0:List (Nat×En)) (n0:Nat) (want:AV) (es:List (Nat×En)):Fm :=
 if decide (n0<=C.nb)&&decide (args.length<=fn.ntmps)&&AV.noFrL args&&noFrE es0&&AV.under (inK (keysOf es)) want&&belowE (inK (keysOf es)) es&&allK (keysOf es) n0 then
 run ⟨C,fn.ntmps,Ls,retF C fn.results.toList want es⟩ 100000 (bodyOf fn) ⟨[],[]⟩ ⟨zipT 0 args,es0,n0⟩ [] else .ff 18
def fnF (C:Cx) (Ls:List (Nat×Lp)) (fn:Func) (args:List AV) (want:AV):Fm:=fnG C Ls fn args [] 0 want []
def OpM (P:Program) (o:Oper) (a:Act) (w:World) (K:Act->World->Prop):Prop :=
 (∃ v w',(execOp a.eval o).run P w = .ok (.value v) w'/\K (a.put o.dst v) w') \/
 (∃ w',(execOp a.eval o).run P w = .ok .skip w'/\K (a.put o.dst undef) w') \/
 ∃ f args,(execOp a.eval o).run P w = .ok (.enter f args) w/\Calls P f args w fun e w'=>∃ v,e = .returned v/\K (a.put o.dst v) w'
theorem OpM.wp {P:Program} {o:Oper} {a:Act} {w:World} {K K':Act->World->Prop} {Q:Exit->Act->World->Prop} (h:OpM P o a w K) (hK:∀ a w,K a w->K' a w):o.wp P a w K' Q:=by
 unfold Oper.wp;rcases h with ⟨v,w',h1,h2⟩|⟨w',h1,h2⟩|⟨f,args,h1,h2⟩
 . rw [h1]; exact hK _ _ h2
 . rw [h1]; exact hK _ _ h2
 . rw [h1];refine h2.mono fun e w' h3 => ?_;obtain⟨v,rfl,h4⟩:=h3;exact hK _ _ h4
section
variable {P:Program} {w w' w0:World} {ρ ρ':Nat->Option Rl} {base:Nat} {ro ro':Nat->Prop} {S0:Pm} {N:Nat} {B:Bs} {S:Sx} {a:Act}
theorem cellsOf_ok {x:AV} {v:Value} {cs:List AV} (h:cellsOf x=some cs) (hx:AVR w ρ base ro x v):∃ vs:List Value,v.cells=vs.toArray/\Each w ρ base ro cs vs:=by
 unfold cellsOf at h;split at h
 . cases h;obtain⟨vs,rfl,hE⟩:=hx.agg_;exact⟨vs,rfl,hE⟩
 . cases h
 . cases h
 . rename_i h1 h2 h3;cases h;exact⟨[v],cells_one hx (fun l e=>h1 l e) (fun e=>h2 e),.cons hx .nil⟩
theorem one_ok {x:AV} {v:Value} (h:AV.one x=true) (hx:AVR w ρ base ro x v):v.oneCell'=true:=by
 cases hx<;>first|rfl|cases h
theorem cellsAV_one (fr:Bool) (t:Tc) (x:Unit->t.el):(cellsAV fr t x).all AV.one=true:=by cases t<;>rfl
theorem all_one {l:List AV} {vs:List Value} (h:l.all AV.one=true) (hE:Each w ρ base ro l vs):∀ u∈vs,u.oneCell'=true:=by
 intro u hu;obtain⟨j,hj⟩:=List.mem_iff_getElem?.1 hu;have hlt:=(List.getElem?_eq_some_iff.1 hj).1;have hl:j<l.length:=by rw [hE.1]; exact hlt
 exact one_ok (List.all_eq_true.1 h _ (List.getElem_mem hl)) (hE.2 j _ u (List.getElem?_eq_getElem hl) hj)
theorem norm_ok {s:Sg} {x y:AV} {v:Value} (h:norm s x=some y) (hx:AVR w ρ base ro x v):AVR w ρ base ro y v:=by
 unfold norm at h;split at h
 . split at h<;>cases h; exact hx
 . split at h<;>cases h
   rw [hx.lit_];exact .int _ _
 . cases h; exact hx
 . cases h;rw [hx.blit_];exact .bool _
 . cases h; exact hx
 . split at h<;>cases h; exact hx
 . cases h;rw [hx.nil_];exact .sl true _ _ none 0 [] rfl (Nat.le_refl _) (Rd.nil _ _ _ _) (fun _ h=>by cases h) (fun _ _ h=>by cases h) (fun k cs j x v h=>by simp at h)
 . split at h<;>cases h
   exact wide_take hx
 . split at h<;>cases h
   exact hx
 . split at h<;>cases h
   obtain⟨A,c,css,_,_,_,_,_,_,hrx⟩:=hx.sl_;rw [hrx] at hx ⊢;exact .wide _ _ _ _ A c (Nat.le_refl _) hx
 . cases h;rw [hx.nil_];exact .wide true _ (fun _ => []) (fun _=>0) none 0 (Nat.le_refl _) (.sl true _ _ none 0 [] rfl (Nat.le_refl _) (Rd.nil _ _ _ _) (fun _ h=>by cases h) (fun _ _ h=>by cases h) (fun k cs j x v h=>by simp at h))
 . cases h
theorem normL_ok:∀ {ss:List Sg} {xs ys:List AV} {vs:List Value},normL ss xs=some ys->Each w ρ base ro xs vs->Each w ρ base ro ys vs
 | [],[],ys,vs,h,hE=>by cases h; exact hE
 | s::ss,x::xs,ys,vs,h,hE=>by
  unfold normL at h;split at h
  . rename_i y ys' h1 h2;cases h;obtain⟨v,us,rfl,hx,hE'⟩:=hE.head;exact .cons (norm_ok h1 hx) (normL_ok h2 hE')
  . cases h
 | [],_::_,_,_,h,_=>by cases h
 | _::_,[],_,_,h,_=>by cases h
theorem each_loose {l:List AV} {vs:List Value} (h:Each w ρ base ro l vs):Each w ρ base ro (l.map AV.loose) vs:=by
 refine⟨by simp [h.1],fun j x v hx hv => ?_⟩;rw [List.getElem?_map] at hx
 cases hj:l[j]? with
 | none=>rw [hj] at hx; cases hx
 | some y =>
  rw [hj] at hx;simp only [Option.map_some,Option.some.injEq] at hx;subst hx;exact (h.2 j y v hj hv).loose_
theorem elOf_ok {t:Tc} {x:AV} {v:Value} {f:Bool} {e:Unit->t.el} (h:elOf t x=some (f,e)) (hx:AVR w ρ base ro x v):∃ vs:List Value,v.cells=vs.toArray/\vs.length=t.size/\Each w ρ base ro (cellsAV f t e) vs:=by
 unfold elOf at h;split at h
 . rename_i cs hc;split at h
   . rename_i ys hn
     cases hm:mkEl t ys with
     | none=>rw [hm] at h; cases h
     | some e' =>
      rw [hm] at h;simp only [Option.map_some,Option.some.injEq,Prod.mk.injEq] at h;obtain⟨rfl,rfl⟩:=h;obtain⟨vs,h1,hE⟩:=cellsOf_ok hc hx;have hE2:=normL_ok hn hE;have hmc:=mkEl_cells hm;have h3:Each w ρ base ro (cellsAV (AV.plainL true ys) t e') vs:=by
       cases hp:AV.plainL true ys with
       | true=>rw [hmc.2 hp]; exact hE2
       | false=>rw [hmc.1]; exact each_loose hE2
      exact⟨vs,h1,by rw [<- h3.1,cellsAV_len],h3⟩
   . cases h
 . cases h
theorem each_less {f g:Bool} {t:Tc} {x:Unit->t.el} {vs:List Value} (h:Each w ρ base ro (cellsAV f t x) vs) (hfg:g=true->f=true):Each w ρ base ro (cellsAV g t x) vs:=by
 cases g with
 | true=>rw [hfg rfl] at h; exact h
 | false=>rw [cellsAV_loose f]; exact each_loose h
theorem elsOf_ok {t:Tc}:∀ {xs:List AV} {us:List Value} {f:Bool} {es:List (Unit->t.el)},elsOf t xs=some (f,es)->Each w ρ base ro xs us->∃ css:List (List Value),us.map Value.cells=css.map List.toArray/\css.length=es.length/\∀ (k:Nat) cs e,css[k]? = some cs->es[k]? = some e->cs.length=t.size/\Each w ρ base ro (cellsAV f t e) cs
 | [],us,f,es,h,hE=>by
  simp only [elsOf,Option.some.injEq,Prod.mk.injEq] at h;obtain⟨rfl,rfl⟩:=h;rw [hE.none];exact⟨[],rfl,rfl,fun k cs e hk=>by simp at hk⟩
 | x::xs,us,f,es,h,hE=>by
  unfold elsOf at h;split at h
  . rename_i f1 e1 f2 es2 h1 h2;simp only [Option.some.injEq,Prod.mk.injEq] at h;obtain⟨rfl,rfl⟩:=h;obtain⟨v,us',rfl,hx,hE'⟩:=hE.head;obtain⟨vs,k1,k2,k3⟩:=elOf_ok h1 hx;obtain⟨css,q1,q2,q3⟩:=elsOf_ok h2 hE';refine⟨vs::css,by simp [k1,q1],by simp [q2],fun k cs e hk he => ?_⟩
    cases k with
    | zero =>
     simp only [List.getElem?_cons_zero,Option.some.injEq] at hk he;subst hk; subst he;exact⟨k2,each_less k3 (by simp only [Bool.and_eq_true]; exact fun h=>h.1)⟩
    | succ k =>
     obtain⟨r1,r2⟩:=q3 k cs e (by simpa using hk) (by simpa using he);exact⟨r1,each_less r2 (by simp only [Bool.and_eq_true]; exact fun h=>h.2)⟩
  . cases h
theorem updR_self (ρ:Nat->Option Rl) (loc:Nat) (r:Rl):updR ρ loc r loc=some r:=by unfold updR; rw [if_pos rfl]
theorem ext_new {loc:Nat} {r:Rl} (h : ρ loc=none):Ext ρ (updR ρ loc r):=by
 intro l r' hl;unfold updR;split
 . rename_i e; subst e; rw [h] at hl; cases hl
 . exact hl
theorem updR_same {loc:Nat} {r:Rl} (h : ρ loc=some r):updR ρ loc r = ρ:=by
 funext l;unfold updR;split
 . rename_i e; subst e; exact h.symm
 . rfl
theorem SimR.alloc (H:SimR w0 S0 N B S a w ρ ro) {T:Nat} {cells:List AV} {cs:List Value} (hB:alook B.e S.n=none) (hE:Each w ρ w0.heap.size ro cells cs) :
 SimR w0 S0 N B ⟨S.t,(S.n,.box T cells)::S.e,S.n+1⟩ a (w.alloc (.cells cs.toArray T)) (updR ρ S.n (.box w.heap.size)) ro:=by
 have hnone:=H.fresh S.n (Nat.le_refl _);have hkeep:∀ b,b<w.heap.size->(w.alloc (.cells cs.toArray T)).heap[b]? = w.heap[b]? := fun b hb=>Below.heap_alloc w _ b hb;refine H.upd (H.from_.alloc _) (by simp) (fun b hb _=>hkeep b hb) (fun b hb => ?_) hB (Nat.le_succ _) (Nat.lt_succ_self _) (.inl (ext_new hnone)) (.inl fun b hb=>by rw [hnone] at hb; cases hb) ⟨w.heap.size,cs,updR_self _ _ _,heap_alloc_new w _,?_⟩
 . injection hb with hb;subst hb;exact .inr ⟨Nat.le_refl _,by simp⟩
 . exact hE.mono (fun b _ hb=>hkeep b hb) (ext_new hnone) (Nat.le_refl _) fun _ h=>h
theorem AVR.ptr_new {loc b:Nat}:AVR w (updR ρ loc (.box b)) base ro (.ptr loc 0) (.pointer (some ⟨b,0,none⟩)) := .ptr _ _ _ (updR_self _ _ _)
theorem run_zeroValue {T:Nat} {j:TypeInfo} {z:Value} (hj:P.info? T=some j) (hz:j.zero=some z):(zeroValue T).run P w = .ok z w:=by
 unfold zeroValue;simp only [typeInfo,Sem.run_bind,Sem.run_pure,Result.andThen_ok,run_program,hj,hz]
theorem alloc_ok {C:Cx} (hty:TyOk P C.ty) (H:Sim w0 S0 N B S a w) {T:Nat} {i:TInf} {d:Nat} {S':Sx} {ty:TypeId} {pos:String} {aft:Array Edge} {gd:Option (Nat×Bool)} (hi:alook C.ty T=some i) (hz:i.z.isEmpty=false) (hB:alook B.e S.n=none) (hp:putT B ⟨S.t,(S.n,.box T i.z)::S.e,S.n+1⟩ N d (.ptr S.n 0)=some S') :
 OpM P ⟨some d,.alloc T,ty,pos,aft,gd⟩ a w (Sim w0 S0 N B S'):=by
 obtain⟨ρ,ro,H⟩:=H;obtain⟨j,z,hj,hjz,hE⟩:=tyB_zero (w:=w) (ρ := ρ) (base:=w0.heap.size) (ro:=ro) (hty T i hi) hz;have H2:=H.alloc (T:=T) hB hE;refine .inl ⟨.pointer (some ⟨w.heap.size,0,none⟩),_,?_,_,_,H2.put hp .ptr_new⟩;unfold execOp;simp only [Instr.alloc,Sem.run_bind,run_zeroValue hj hjz,Result.andThen_ok,newVar,newRow,Sem.run_pure];rfl
theorem box_ok (H:Sim w0 S0 N B S a w) {T:Nat} {x:Operand} {cells:List AV} {d:Nat} {S':Sx} {ty:TypeId} {pos:String} {aft:Array Edge} {gd:Option (Nat×Bool)} (hc:cellsOf (getO B S x)=some cells) (hB:alook B.e S.n=none) (hp:putT B ⟨S.t,(S.n,.box T cells)::S.e,S.n+1⟩ N d (.ptr S.n 0)=some S') :
 OpM P ⟨some d,.box T x,ty,pos,aft,gd⟩ a w (Sim w0 S0 N B S'):=by
 obtain⟨ρ,ro,H⟩:=H;obtain⟨vs,hv,hE⟩:=cellsOf_ok hc (H.get x);have H2:=H.alloc (T:=T) hB hE;refine .inl ⟨.pointer (some ⟨w.heap.size,0,none⟩),_,?_,_,_,H2.put hp .ptr_new⟩;unfold execOp;simp only [Instr.box,Sem.run_bind,newVar,newRow,Sem.run_pure,hv];rfl
theorem cells_toList {v:Value} {vs:List Value} (h:v.cells=vs.toArray):v.cells.toList=vs:=by rw [h]
theorem setRow_size (w:World) (g:Nat) (cs:Array Value):(w.setRow g cs).heap.size=w.heap.size:=by simp [World.setRow]
theorem setRow_grown (w:World) (g:Nat) (cs:Array Value):w.grownBy (w.setRow g cs) (some g) :=
 ⟨rfl,rfl,rfl,by rw [setRow_size]; exact Nat.le_refl _,fun k _ hk=>setRow_other w g k cs fun e=>hk (by rw [e])⟩
theorem SimR.mine (H:SimR w0 S0 N B S a w ρ ro) {l g:Nat} {r:Rl} (h : ρ l=some r) (hb:r.blk=some g):∀ k,some g=some k->w0.heap.size<=k\/∃ l r,S0.pl l=some r/\r.blk=some k:=by
 intro k hk;injection hk with hk;subst hk;rcases (H.own l r g h hb).2.2 with h1|⟨r0,h1,h2⟩
 . exact .inl h1
 . exact .inr ⟨l,r0,h1,h2⟩
theorem storeB_ok {C:Cx} (hty:TyOk P C.ty) (H:Sim w0 S0 N B S a w) {T:Nat} {i:TInf} {x y:Operand} {loc off T':Nat} {cells cs:List AV} {ty:TypeId} {pos:String} {aft:Array Edge} {gd:Option (Nat×Bool)} (hi:alook C.ty T=some i) (hc:cellsOf (getO B S y)=some cs) (hx:getO B S x = .ptr loc off) (he:lookE B S loc=some (.box T' cells)) (hl:cs.length=i.sz) (hfit:off+i.sz<=cells.length) (h1:cs.all AV.one=true) (hB:alook B.e loc=none) :
 OpM P ⟨none,.store T x y,ty,pos,aft,gd⟩ a w (Sim w0 S0 N B ⟨S.t,(loc,.box T' (cells.take off++cs++cells.drop (off+i.sz)))::S.e,S.n⟩):=by
 obtain⟨ρ,ro,H⟩:=H;have hax:=H.get x;rw [hx] at hax;obtain⟨b,hb,hxe⟩:=hax.ptr_;obtain⟨b',us,hb',hh,hE⟩:=H.en _ _ he;rw [hb] at hb';injection hb' with hb';injection hb' with hb';subst hb';obtain⟨vs,hv,hE2⟩:=cellsOf_ok hc (H.get y);obtain⟨j,hj,hjs,_⟩:=tyB_info (hty T i hi);have hvl:vs.length=i.sz:=by rw [<- hE2.1]; exact hl
 have hul:us.length=cells.length:=hE.1.symm;have hrun:=run_store_cells (P:=P) (w:=w) (T:=T) (n:=i.sz) (g:=b) (off:=off) (t:=T') (cur:=us.toArray) (v:=a.eval y) (cs:=vs) (by rw [hj]; simp [hjs]) (cells_toList hv) hvl hh (by simp [hul]; exact hfit) (all_one h1 hE2);have hlt:=(Array.getElem?_eq_some_iff.1 hh).1;have hln:loc<S.n:=by
  rcases Nat.lt_or_ge loc S.n with h|h
  . exact h
  . have:=H.fresh loc h; rw [hb] at this; cases this
 have hexec:(execOp a.eval ⟨none,.store T x y,ty,pos,aft,gd⟩).run P w = .ok .skip (w.setRow b (us.toArray.toList.take off++vs++us.toArray.toList.drop (off+i.sz)).toArray):=by
  unfold execOp;simp only [Instr.storeAt,Instr.sureAddr,hxe,Sem.run_bind,Sem.run_pure,Result.andThen_ok,hrun]
 have hro:¬ ro b:=(H.own loc _ b hb rfl).2.1;have hw:∀ b',ro b'->b'<w.heap.size->(w.setRow b (us.toArray.toList.take off++vs++us.toArray.toList.drop (off+i.sz)).toArray).heap[b']? = w.heap[b']? := fun b' hb' _=>setRow_other _ _ _ _ (fun e=>hro (e▸hb'));have H2:=H.upd (w':=w.setRow b (us.toArray.toList.take off++vs++us.toArray.toList.drop (off+i.sz)).toArray) (loc:=loc) (n:=S.n) (r := .box b) (e := .box T' (cells.take off++cs++cells.drop (off+i.sz))) (H.from_.grown (setRow_grown _ _ _) (H.mine hb rfl)) (by rw [setRow_size]; exact Nat.le_refl _) (fun b' hb' hne=>setRow_other _ _ _ _ (fun e=>hne _ hb (by rw [e]; rfl))) (fun b' hb' => .inl ⟨_,hb,hb'⟩) hB (Nat.le_refl _) hln (.inl (by rw [updR_same hb]; exact Ext.refl _)) (.inl fun b' hb'=>by rw [hb] at hb'; cases hb') (by
  refine⟨b,_,updR_self _ _ _,setRow_heap w b _ _ T' _ hh,?_⟩;rw [updR_same hb];exact (((hE.take off).append hE2).append (hE.drop (off+i.sz))).mono hw (Ext.refl _) (Nat.le_refl _) fun _ h=>h)
 exact .inr (.inl ⟨_,hexec,_,_,H2⟩)
end
theorem set_flatN {size:Nat}:∀ (css:List (List Value)),(∀ cs∈css,cs.length=size)->∀ (k off n:Nat) (vs:List Value) (hk:k<css.length),off+n<=size->vs.length=n ->
 css.flatten.take (k*size+off)++vs++css.flatten.drop (k*size+off+n)=(css.set k ((css[k]).take off++vs++(css[k]).drop (off+n))).flatten
 | [],_,k,_,_,_,hk,_,_=>by cases hk
 | cs::css,h,0,off,n,vs,_,hfit,hl=>by
  have hc:cs.length=size:=h cs (by simp);simp only [Nat.zero_mul,Nat.zero_add,List.flatten_cons,List.set_cons_zero,List.getElem_cons_zero];rw [List.take_append_of_le_length (by omega),List.drop_append_of_le_length (by omega),List.append_assoc,List.append_assoc,List.append_assoc]
 | cs::css,h,k+1,off,n,vs,hk,hfit,hl=>by
  have hc:cs.length=size:=h cs (by simp);have ih:=set_flatN css (fun c hc=>h c (by simp [hc])) k off n vs (by simpa using hk) hfit hl;simp only [List.flatten_cons,List.set_cons_succ,List.getElem_cons_succ];rw [<- ih];have e1:(k+1)*size+off=cs.length+(k*size+off):=by rw [hc,Nat.add_mul]; omega
  rw [e1,Nat.add_assoc cs.length,List.take_length_add_append,List.drop_length_add_append];simp
theorem own_rows {w:World} {base e size g:Nat} {css:List (List Value)} (h:w.heap[g]? = some (.cells css.flatten.toArray e (0,0))) (hl:∀ cs∈css,cs.length=size) (hb:base<=g) (hm:css.length<=maxLen):OwnS w base e size (some ⟨g,0,none⟩) css.length css:=by
 have hf:=flat_len css hl;refine⟨⟨hf,.inr ⟨g,css.length,css.flatten.toArray,rfl,hb,h,Nat.le_refl _,hm,by simpa using hf,?_⟩⟩,hl⟩;rw [<- hf];exact List.take_length
theorem inOrder_ok:∀ {l:List (Nat×AV)} {k:Nat} {xs:List AV},inOrder k l=some xs->l.map (·.2)=xs/\l.map (·.1)=List.range' k l.length
 | [],k,xs,h=>by
  simp only [inOrder,Option.some.injEq] at h;subst h;exact⟨rfl,rfl⟩
 | (i,x)::l,k,xs,h=>by
  unfold inOrder at h;split at h
  . rename_i hi
    cases hr:inOrder (k+1) l with
    | none=>rw [hr] at h; cases h
    | some ys =>
     rw [hr] at h;simp only [Option.map_some,Option.some.injEq] at h;subst h;obtain⟨h1,h2⟩:=inOrder_ok hr;exact⟨by simp [h1],by simp [h2,eq_of_beq hi,List.range'_succ]⟩
  . cases h
theorem fill_rows {size:Nat}:∀ (qs:List (Nat×Value)) (css:List (List Value)) (k:Nat) (pre z:List Value),(qs.map (·.2)).map Value.cells=css.map List.toArray->qs.map (·.1)=List.range' k qs.length->(∀ cs∈css,cs.length=size)->pre.length=k*size->z.length=qs.length*size ->
 Instr.fill (fun i=>some (i*size,size)) (pre++z).toArray qs=some (pre++css.flatten).toArray
 | [],[],k,pre,z,_,_,_,_,hz=>by
  have:z = []:=List.eq_nil_of_length_eq_zero (by simpa using hz);subst this;rfl
 | (i,v)::qs,cs::css,k,pre,z,hc,hi,hl,hp,hz=>by
  simp only [List.map_cons,List.cons.injEq,List.length_cons,List.range'_succ] at hc hi;obtain⟨rfl,hi⟩:=hi;have hcl:cs.length=size:=hl cs (by simp);have hz':z.length=qs.length*size+size:=by rw [hz,List.length_cons,Nat.add_mul]; omega
  rw [fill_put (vs:=cs) (by rw [hcl]) hc.1 (by rw [List.length_append]; omega)];have e:(pre++z).take (i*size)++cs++(pre++z).drop (i*size+cs.length)=(pre++cs)++z.drop size:=by
   rw [<- hp,List.take_left,List.drop_length_add_append,hcl]
  rw [e];have:=fill_rows qs css (i+1) (pre++cs) (z.drop size) hc.2 hi (fun c h=>hl c (by simp [h])) (by rw [List.length_append,hp,hcl,Nat.add_mul]; omega) (by rw [List.length_drop]; omega);rw [this];simp
 | [],_::_,_,_,_,hc,_,_,_,_=>by simp at hc
 | _::_,[],_,_,_,hc,_,_,_,_=>by simp at hc
theorem run_append_at {P:Program} {w:World} {t e size bytes base c m cn ty:Nat} {A X:Option Addr} {css news:List (List Value)} (hE:EI P t e size bytes) (hown:OwnS w base e size A c css) (B:Nat) (hr:Rd w B size X news) (hm:m=news.length)
 (h1:∀ cs∈news,∀ u∈cs,u.oneCell'=true) (h63:css.length+m<=maxLen) (hbytes:(css.length+m)*bytes<=140737488355328) (hbase:base<=w.heap.size) :
 ∃ A' c' w',(Builtin.append_ #[t,t] ty #[.slice A css.length c,.slice X m cn]).run P w = .ok (.slice A' (css++news).length c') w'/\OwnS w' base e size A' c' (css++news)/\w.grownBy w' (A.map (·.block))/\(A'.map (·.block)=A.map (·.block)\/(A'.map (·.block)=some w.heap.size/\w.heap.size<w'.heap.size)):=by
 rcases X with _|ad
 . have hn:news = []:=by
    rcases news with _|⟨x,l⟩
    . rfl
    . obtain⟨_,_,h,_⟩:=hr 0 x rfl;cases h
   subst hn;subst hm;obtain⟨ht,i,z,hi,hz,hs,hb,hzs,h0⟩:=hE;refine⟨A,c,w,?_,by simpa using hown,World.grownBy.refl w _,.inl rfl⟩;rw [List.append_nil];rcases hown.1.2 with ⟨h2,h3⟩|⟨g,cap,cur,h2,_,_,hnc,_⟩
   . rw [h2];simp [Builtin.append_,run_underlying ht,sizeOf,typeInfo,hi,Builtin.lenOf,Builtin.firstCells]
   . rw [h2];simp [Builtin.append_,run_underlying ht,sizeOf,typeInfo,hi,Builtin.lenOf,Builtin.firstCells,hnc,storeCells]
 . subst hm;obtain⟨ht,i,z,hi,hz,hs',hb,hzs,h0⟩:=hE;have hlen:∀ cs∈css++news,cs.length=size:=fun cs hc=>by
    rcases List.mem_append.1 hc with h|h
    . exact hown.2 cs h
    . exact hr.len cs h
   obtain⟨v',w',hrun,h2,h3,_,h5⟩:=run_append_own_at (P:=P) w base t ty e i z size bytes ht hi hz hs' hb hzs h0 (.slice A css.length c) css.length css.flatten hown.1 ad news.length cn news.flatten (flat_len news hr.len)
    (fun j u hu=>by obtain⟨ad',h,hc⟩:=hr.flat j u hu; injection h with h; rw [h]; exact hc)
    (fun u hu=>by obtain⟨cs,hcs,hu'⟩:=List.mem_flatten.1 hu; exact h1 cs hcs u hu') h63 hbytes hbase
   obtain⟨A',c',rfl,h4⟩:=OwnS.of (css:=css++news) (by rw [List.flatten_append]; exact h2) (by simp) hlen;rw [ownBlock_slice,ownBlock_slice] at h5;rw [ownBlock_slice] at h3;refine⟨A',c',w',hrun,h4,h3,h5.imp id fun h=>⟨h,?_⟩⟩;obtain⟨ad2,h6,h7⟩:=Option.map_eq_some_iff.1 h;have:=(h4.lt h6).2;omega
theorem ei_of {P:Program} {T e sz b:Nat} {i:TInf} (ht:tyB P T i=true) (hi:i.ti = .slice e sz b):EI P T e sz b/\0<b:=by
 obtain⟨ds,hd,hm⟩:=tyB_desc ht;rw [hi] at hm;cases ds<;>first|(simp [descB] at hm; done)|skip
 rename_i e';simp only [descB,Bool.and_eq_true,beq_iff_eq,decide_eq_true_eq] at hm;obtain⟨⟨he,h0,hb⟩,h3⟩:=hm;subst he
 cases hj:P.info? e' with
 | none=>rw [hj] at h3; simp at h3
 | some j =>
  rw [hj] at h3;simp only [Bool.and_eq_true,beq_iff_eq] at h3
  cases hz:j.zero with
  | none=>rw [hz] at h3; simp at h3
  | some z =>
   rw [hz] at h3;exact⟨⟨hd,j,z,hj,hz,h3.1.1,h3.1.2,by simpa using h3.2,h0⟩,hb⟩
theorem room_of {n m b:Nat} (hb:0<b) (h:(n+m)*b<=140737488355328):n+m<=maxLen:=by
 have:(n+m)*1<=(n+m)*b:=Nat.mul_le_mul_left _ hb;unfold maxLen;omega
section
variable {P:Program} {w w' w0:World} {ρ ρ':Nat->Option Rl} {base:Nat} {ro ro':Nat->Prop} {S0:Pm} {N:Nat} {B:Bs} {S:Sx} {a:Act}
theorem news0_ok (H:SimR w0 S0 N B S a w ρ ro) {t:Tc} {x:AV} {v:Value} {f:Bool} {m:Unit->List t.el} (h:news0 B S t x=some (f,m)) (hx:AVR w ρ w0.heap.size ro x v) :
 ∃ X c,∃ news:List (List Value),v = .slice X (m ()).length c/\news.length=(m ()).length/\Rd w w.heap.size t.size X news/\∀ (k:Nat) (cs:List Value) (j:Nat) (y:AV) (u:Value),news[k]? = some cs->(cellsAV f t fun _=>(m ()).getD k t.dflt)[j]? = some y->cs[j]? = some u->AVR w ρ w0.heap.size ro y u:=by
 unfold news0 at h;split at h
 . simp only [Option.some.injEq,Prod.mk.injEq] at h;obtain⟨rfl,rfl⟩:=h;exact⟨none,0,[],hx.nil_,rfl,Rd.nil _ _ _ _,fun k cs j y u h=>by simp at h⟩
 . split at h
   . rename_i ht;subst ht;simp only [Option.some.injEq,Prod.mk.injEq] at h;obtain⟨rfl,rfl⟩:=h;obtain⟨A,c,css,hl,hc,hr,_,_,hcell,rfl⟩:=hx.sl_;exact⟨A,c,css,rfl,hl,hr,hcell⟩
   . cases h
 . split at h
   . rename_i ht;subst ht;simp only [Option.some.injEq,Prod.mk.injEq] at h;obtain⟨rfl,rfl⟩:=h;obtain⟨A,c,css,hl,hc,hr,_,_,hcell,rfl⟩:=(wide_take hx).sl_;exact⟨A,c,css,rfl,hl,hr,hcell⟩
   . cases h
 . split at h
   . rename_i fr t' T l he;split at h
     . rename_i ht;subst ht;simp only [Option.some.injEq,Prod.mk.injEq] at h;obtain⟨rfl,rfl⟩:=h;obtain⟨A,c,css,hA,hown,hlen,hcell⟩:=H.en _ _ he;obtain⟨A',n,c',hA',rfl⟩:=hx.own_;rw [hA] at hA';injection hA' with hA';injection hA' with e1 e2 e3;subst e1; subst e2; subst e3;exact⟨A,c,css,rfl,hlen,hown.rd,hcell⟩
     . cases h
   . cases h
 . cases h
theorem cellsAV_flat {t:Tc} (h:t.flat=true) (f:Bool) (x:Unit->t.el):cellsAV (f||t.flat) t x=cellsAV f t x:=by cases t<;>first|rfl|cases h
theorem newsOf_ok (H:SimR w0 S0 N B S a w ρ ro) {t:Tc} {x:AV} {v:Value} {f:Bool} {m:Unit->List t.el} (h:newsOf B S t x=some (f,m)) (hx:AVR w ρ w0.heap.size ro x v) :
 ∃ X c,∃ news:List (List Value),v = .slice X (m ()).length c/\news.length=(m ()).length/\Rd w w.heap.size t.size X news/\∀ (k:Nat) (cs:List Value) (j:Nat) (y:AV) (u:Value),news[k]? = some cs->(cellsAV f t fun _=>(m ()).getD k t.dflt)[j]? = some y->cs[j]? = some u->AVR w ρ w0.heap.size ro y u:=by
 unfold newsOf at h;rw [Option.map_eq_some_iff] at h;obtain⟨⟨f0,m0⟩,h0,h1⟩:=h;simp only [Prod.mk.injEq] at h1;obtain⟨rfl,rfl⟩:=h1;obtain⟨X,c,news,q1,q2,q3,q4⟩:=news0_ok H h0 hx;refine⟨X,c,news,q1,q2,q3,?_⟩
 cases ht:t.flat with
 | false=>rw [Bool.or_false]; exact q4
 | true=>rw [<- ht]; intro k cs j y u hk hy hu; rw [cellsAV_flat ht] at hy; exact q4 k cs j y u hk hy hu
theorem news_one {f:Bool} {t:Tc} {m:Unit->List t.el} {news:List (List Value)} {B0:Nat} {X:Option Addr} (hr:Rd w B0 t.size X news) (hc:∀ (k:Nat) (cs:List Value) (j:Nat) (y:AV) (u:Value),news[k]? = some cs->(cellsAV f t fun _=>(m ()).getD k t.dflt)[j]? = some y->cs[j]? = some u->AVR w ρ base ro y u):∀ cs∈news,∀ u∈cs,u.oneCell'=true:=by
 intro cs hcs;obtain⟨k,hk⟩:=List.mem_iff_getElem?.1 hcs;exact all_one (cellsAV_one f t _) (row_each (hr.len cs hcs) fun j y v h1 h2=>hc k cs j y v hk h1 h2)
theorem cells_app {f g:Bool} {t:Tc} {l m:List t.el} {css news:List (List Value)} (hl:css.length=l.length) (hlen:∀ cs∈css++news,cs.length=t.size) (h1:∀ (k:Nat) (cs:List Value) (j:Nat) (y:AV) (u:Value),css[k]? = some cs->(cellsAV f t fun _=>l.getD k t.dflt)[j]? = some y->cs[j]? = some u->AVR w ρ base ro y u) (h2:∀ (k:Nat) (cs:List Value) (j:Nat) (y:AV) (u:Value),news[k]? = some cs->(cellsAV g t fun _=>m.getD k t.dflt)[j]? = some y->cs[j]? = some u->AVR w ρ base ro y u) :
 ∀ (k:Nat) (cs:List Value) (j:Nat) (y:AV) (u:Value),(css++news)[k]? = some cs->(cellsAV (f&&g) t fun _=>(l++m).getD k t.dflt)[j]? = some y->cs[j]? = some u->AVR w ρ base ro y u:=by
 intro k cs j y u hk hy hu;have hsz:=hlen cs (List.mem_of_getElem? hk);rcases Nat.lt_or_ge k css.length with h|h
 . rw [List.getElem?_append_left h] at hk;rw [show (l++m).getD k t.dflt=l.getD k t.dflt by simp [List.getD_eq_getElem?_getD,List.getElem?_append_left (show k<l.length by omega)]] at hy;exact (each_less (g:=f&&g) (row_each hsz fun j y v q1 q2=>h1 k cs j y v hk q1 q2) (by simp only [Bool.and_eq_true]; exact fun h=>h.1)).2 j y u hy hu
 . rw [List.getElem?_append_right h] at hk;rw [show (l++m).getD k t.dflt=m.getD (k - css.length) t.dflt by simp [List.getD_eq_getElem?_getD,List.getElem?_append_right (show l.length<=k by omega),hl]] at hy;exact (each_less (g:=f&&g) (row_each hsz fun j y v q1 q2=>h2 _ cs j y v hk q1 q2) (by simp only [Bool.and_eq_true]; exact fun h=>h.2)).2 j y u hy hu
theorem exec_append {T d:Nat} {s x:Operand} {ty:TypeId} {pos:String} {aft:Array Edge} {gd:Option (Nat×Bool)} (v:Value) (h:(Builtin.append_ #[T,T] ty #[a.eval s,a.eval x]).run P w = .ok v w'):(execOp a.eval ⟨some d,.call { callee := .builtin .append,args := #[s,x],argTypes := #[T,T] },ty,pos,aft,gd⟩).run P w = .ok (.value v) w':=by
 unfold execOp;simp only [resolve,invoke,builtin,Sem.run_bind,Sem.run_pure,Result.andThen_ok,List.map_toArray,List.map_cons,List.map_nil,h]
theorem append_ok {C:Cx} (hty:TyOk P C.ty) (H:Sim w0 S0 N B S a w) {T e sz b loc d:Nat} {s x:Operand} {fr f:Bool} {t:Tc} {l m:Unit->List t.el} {S':Sx} {ty:TypeId} {pos:String} {aft:Array Edge} {gd:Option (Nat×Bool)} (hT:tiOf C.ty T=some (.slice e sz b)) (hs:getO B S s = .own loc) (he:lookE B S loc=some (.row fr t e l)) (hsz:t.size=sz) (hB:alook B.e loc=none) (hq:quiet loc B=true) (hn:newsOf B S t (getO B S x)=some (f,m)) (hp:putT B ⟨(kill loc S).t,(loc,.row (fr&&f) t e fun _=>l ()++m ())::(kill loc S).e,S.n⟩ N d (.own loc)=some S') (hroom:((l ()).length+(m ()).length)*b<=140737488355328) (hfx:S0.fx=false) :
 OpM P ⟨some d,.call { callee := .builtin .append,args := #[s,x],argTypes := #[T,T] },ty,pos,aft,gd⟩ a w (Sim w0 S0 N B S'):=by
 obtain⟨ρ,ro,H⟩:=H;obtain⟨i,_,hi,htb⟩:=tiOf_ hty hT;obtain⟨hE,hb0⟩:=ei_of htb hi;subst hsz;have has:=H.get s;rw [hs] at has;obtain⟨A,c,css,hA,hown,hlen,hcell⟩:=H.en _ _ he;obtain⟨A',n,c',hA',hv⟩:=has.own_;rw [hA] at hA';injection hA' with hA';injection hA' with e1 e2 e3;subst e1; subst e2; subst e3;obtain⟨X,cn,news,hx,hnl,hr,hnc⟩:=newsOf_ok H hn (H.get x);obtain⟨A2,c2,w2,hrun,h2,h3,h4⟩:=run_append_at (P:=P) (ty:=ty) (cn:=cn) hE hown _ hr hnl.symm (news_one hr hnc) (by rw [hlen]; exact room_of hb0 hroom) (by rw [hlen]; exact hroom) (Nat.le_trans (rb_le _ _) H.from_.size);have hlen2:(css++news).length=(l ()++m ()).length:=by simp [hlen,hnl]
 rw [hlen] at hrun;have hexec:(execOp a.eval ⟨some d,.call { callee := .builtin .append,args := #[s,x],argTypes := #[T,T] },ty,pos,aft,gd⟩).run P w = .ok (.value (.slice A2 (l ()++m ()).length c2)) w2:=by
  refine exec_append _ ?_;rw [hv,hx,hrun,hlen2]
 have hold:∀ r',ρ loc=some r'->r' = .row A (l ()).length c:=fun r' h=>by rw [hA] at h; injection h with h; exact h.symm
 have hf:FromG S0.pl w0 w2:=H.from_.grown h3 fun k hk=>H.mine hA hk k rfl;have hkeep:∀ q,q<w.heap.size->(∀ r',ρ loc=some r'->r'.blk≠some q)->w2.heap[q]? = w.heap[q]? := fun q hq hne=>h3.block q hq fun hc=>hne _ hA hc.symm;have hro2:∀ q,ro q->q<w.heap.size->w2.heap[q]? = w.heap[q]? := fun q hq hlt=>hkeep q hlt fun r' h1 h2=>(H.own loc r' q h1 h2).2.1 hq;have hk:=kill_quiet (S:=S) hq;have hln:loc<S.n:=by
  rcases Nat.lt_or_ge loc S.n with h|h
  . exact h
  . have:=H.fresh loc h; rw [hA] at this; cases this
 have hmv:∀ y u,AVR w ρ w0.heap.size ro y u->AV.has loc y=false->AVR w2 (updR ρ loc (.row A2 (l ()++m ()).length c2)) w0.heap.size ro y u:=fun y u hyu hh=>(hyu.move (ρ':=updR ρ loc (.row A2 (l ()++m ()).length c2)) hh fun l' r' hl' hc=>by
  unfold updR;split
  . rename_i e0;subst e0;rcases hc with hc|hc
    . exact absurd rfl hc
    . rw [hold _ hl'] at hc; cases hc
  . exact hl').mono hro2 (Ext.refl _) (Nat.le_refl _) fun _ h=>h
 have hrows:=cells_app (w:=w) (ρ := ρ) (base:=w0.heap.size) (ro:=ro) (f:=fr) (g:=f) (l:=l ()) (m:=m ()) hlen (fun cs hc=>h2.2 cs hc) hcell hnc;have H2:=(H.killed loc).upd (loc:=loc) (n:=S.n) (r := .row A2 (l ()++m ()).length c2) (e := .row (fr&&f) t e fun _=>l ()++m ()) hf h3.size hkeep (fun q hq2=>by
  rcases h4 with h4|⟨h4,h5⟩
  . exact .inl ⟨_,hA,by rw [<- hq2]; exact h4.symm⟩
  . have hq3:A2.map (·.block)=some q:=hq2;rw [h4] at hq3;injection hq3 with hq3;subst hq3;exact .inr ⟨Nat.le_refl _,h5⟩) hB (Nat.le_refl _) hln (.inr ⟨hk.1,hk.2,fun r' hr'=>by rw [hold _ hr',hfx]; rfl⟩) (.inl fun b' hb'=>by cases hold _ hb') (by
  exact⟨A2,c2,css++news,updR_self _ _ _,h2.base_le (rb_and _ _ _),hlen2,fun k cs j y u q1 q2 q3=>hmv y u (hrows k cs j y u q1 q2 q3) (hasL_get (cellsAV_has _ t _ loc) q2)⟩)
 exact .inl ⟨_,_,hexec,_,_,H2.put hp (.own _ _ _ _ (updR_self _ _ _))⟩
theorem append0_ok {C:Cx} (hty:TyOk P C.ty) (H:Sim w0 S0 N B S a w) {T e sz b d:Nat} {s x:Operand} {f:Bool} {t:Tc} {m:Unit->List t.el} {S':Sx} {ty:TypeId} {pos:String} {aft:Array Edge} {gd:Option (Nat×Bool)} (hT:tiOf C.ty T=some (.slice e sz b)) (hs:getO B S s = .nil) (hsz:t.size=sz) (hB:alook B.e S.n=none) (hn:newsOf B S t (getO B S x)=some (f,m)) (hp:putT B ⟨S.t,(S.n,.row f t e m)::S.e,S.n+1⟩ N d (.own S.n)=some S') (hroom:(0+(m ()).length)*b<=140737488355328) :
 OpM P ⟨some d,.call { callee := .builtin .append,args := #[s,x],argTypes := #[T,T] },ty,pos,aft,gd⟩ a w (Sim w0 S0 N B S'):=by
 obtain⟨ρ,ro,H⟩:=H;obtain⟨i,_,hi,htb⟩:=tiOf_ hty hT;obtain⟨hE,hb0⟩:=ei_of htb hi;subst hsz;have has:=H.get s;rw [hs] at has;obtain⟨X,cn,news,hx,hnl,hr,hnc⟩:=newsOf_ok H hn (H.get x);obtain⟨A2,c2,w2,hrun,h2,h3,h4⟩:=run_append_at (P:=P) (ty:=ty) (cn:=cn) hE (OwnS.nil w (rb f w0.heap.size) e t.size) _ hr hnl.symm (news_one hr hnc) (by simpa using room_of hb0 hroom) (by simpa using hroom) (Nat.le_trans (rb_le _ _) H.from_.size);have hexec:(execOp a.eval ⟨some d,.call { callee := .builtin .append,args := #[s,x],argTypes := #[T,T] },ty,pos,aft,gd⟩).run P w = .ok (.value (.slice A2 (m ()).length c2)) w2:=by
  refine exec_append _ ?_;rw [has.nil_,hx];refine Eq.trans hrun ?_;rw [List.nil_append,hnl]
 have hnone:=H.fresh S.n (Nat.le_refl _);have hkeep:∀ q,q<w.heap.size->w2.heap[q]? = w.heap[q]? := fun q hq=>h3.block q hq (by simp);have hf:FromG S0.pl w0 w2:=H.from_.grown h3 fun k hk=>by cases hk
 have H2:=H.upd (loc:=S.n) (n:=S.n+1) (r := .row A2 (m ()).length c2) (e := .row f t e m) hf h3.size (fun q hq _=>hkeep q hq) (fun q hq2=>by
  have hq3:A2.map (·.block)=some q:=hq2;rcases h4 with h4|⟨h4,h5⟩
  . rw [h4] at hq3; cases hq3
  . rw [h4] at hq3;injection hq3 with hq3;subst hq3;exact .inr ⟨Nat.le_refl _,h5⟩) hB (Nat.le_succ _) (Nat.lt_succ_self _) (.inl (ext_new hnone)) (.inl fun b hb=>by rw [hnone] at hb; cases hb) (by
  exact⟨A2,c2,news,updR_self _ _ _,by simpa using h2,hnl,fun k cs j y u q1 q2 q3=>(hnc k cs j y u q1 q2 q3).mono (fun q _ hlt=>hkeep q hlt) (ext_new hnone) (Nat.le_refl _) fun _ h=>h⟩)
 exact .inl ⟨_,_,hexec,_,_,H2.put hp (.own _ _ _ _ (updR_self _ _ _))⟩
end
end Go.Proofs.YthfpdbjemfhieaaGreat
