/-
  The abstract run: operations that make a place, write one, or let one grow; they are sound.
-/
import Derived.Test.YtamjbkaclhgffaaGreatSh6
set_option linter.all false
namespace Go.Proofs.YtamjbkaclhgffaaGreat
open Go.RowKit
variable{c loc n nb:Nat}
-- QV
def DY:Tc->List Sg
 | .int => [.int .i64]
 | .u8 => [.int .u8]
 | .u32 => [.int .u32]
 | .box => [.int .i64,.str,.int .u8,.bool,.int .i64,.int .i64,.int .i64,.int .u8,.bool]
 | .ai => [.int .i64,.int .i64,.int .i64,.int .u8]
 | .slot => [.int .i64,.int .i64,.int .u8]
 | .ld => [.int .i64,.int .i64,.int .i64,.int .i64]
 | .qW => [.int .i64,.int .i64,.int .i64]
 | .ar => [.int .i64,.int .i64,.bool,.int .i64,.int .i64,.int .i64,.int .i64,.int .i64,.sl .int,.int .i64,.int .i64,.int .i64]
 | .cD => [.int .i64,.sl .int]
 | .mid => [.int .i64,.str,.int .u8,.bool,.int .i64,.int .i64,.int .i64,.int .u8,.bool,.int .i64,.int .i64,.int .i64]
 | .dO => [.int .i64,.int .i64,.int .i64,.int .i64,.int .i64]
 | .cu => [.int .i64,.int .i64,.int .i64,.int .i64,.int .i64]
 | .dW => [.int .i64,.int .i64,.int .i64,.int .i64,.int .i64,.sl .int]
 | .kK => [.int .i64,.int .i64,.bool,.int .i64,.int .i64,.int .i64,.int .i64,.int .i64,.wide .int,.int .i64,.int .i64,.int .i64]
 | .kL => [.int .i64,.wide .int]
 | .kM => [.int .i64,.int .i64,.int .i64,.int .i64,.int .i64,.wide .int]
 | .A9 => [.int .u8,.int .u8,.int .u8,.bool]
 | .Ba => [.int .u8,.int .u8,.bool,.bool]
 | .DG => [.int .u16,.int .i16,.int .i16,.int .i16]
 | .wx => [.int .i64,.int .i64]
 | .sy => [.int .i64,.int .i64,.int .i64,.int .i64,.int .i64,.int .i64]
 | .jm => [.bool,.int .u32,.int .u32,.int .u32,.int .u32,.int .u32,.int .u32,.int .u32,.int .u32,.int .u32,.int .u32,.int .u32,.int .u32,.int .u32,.int .u32,.int .u32,.int .u32]
 | .cE => [.bool,.int .u32,.int .u32,.int .u32,.int .u32,.int .u32,.int .u32,.int .u32,.int .u32,.int .u32,.int .u32,.int .u32,.int .u32,.int .u32,.int .u32,.int .u32,.int .u32,.bool,.int .u32,.int .u32,.int .u32,.int .u32,.int .u32,.int .u32,.int .u32,.int .u32,.int .u32,.int .u32,.int .u32,.int .u32,.int .u32,.int .u32,.int .u32,.int .u32]
def xK:List AV->Option (Unit->bh)
 | [.bool a0,.int .u32 a1,.int .u32 a2,.int .u32 a3,.int .u32 a4,.int .u32 a5,.int .u32 a6,.int .u32 a7,.int .u32 a8,.int .u32 a9,.int .u32 nc,.int .u32 nQ,.int .u32 DZ,.int .u32 a13,.int .u32 a14,.int .u32 a15,.int .u32 a16]=>some fun _=>⟨a0 (),a1 (),a2 (),a3 (),a4 (),a5 (),a6 (),a7 (),a8 (),a9 (),nc (),nQ (),DZ (),a13 (),a14 (),a15 (),a16 ()⟩
 | _=>none
theorem By{l:List AV}{x:Unit->bh}(h:xK l=some x):bf false .jm x=l/\bf true .jm x=l/\l.map AV.loose=l:=by
 unfold xK at h;split at h
 . injection h with h; subst h; exact⟨rfl,rfl,rfl⟩
 . cases h
def LV:(t:Tc)->List AV->Option (Unit->t.el)
 | .int,[.int .i64 a0]=>some fun _=>a0 ()
 | .u8,[.int .u8 a0]=>some fun _=>a0 ()
 | .u32,[.int .u32 a0]=>some fun _=>a0 ()
 | .box,[.int .i64 a0,.str a1,.int .u8 a2,.bool a3,.int .i64 a4,.int .i64 a5,.int .i64 a6,.int .u8 a7,.bool a8]=>some fun _=>⟨a0 (),a1 (),a2 (),a3 (),a4 (),a5 (),a6 (),a7 (),a8 ()⟩
 | .ai,[.int .i64 a0,.int .i64 a1,.int .i64 a2,.int .u8 a3]=>some fun _=>⟨a0 (),a1 (),a2 (),a3 ()⟩
 | .slot,[.int .i64 a0,.int .i64 a1,.int .u8 a2]=>some fun _=>⟨a0 (),a1 (),a2 ()⟩
 | .ld,[.int .i64 a0,.int .i64 a1,.int .i64 a2,.int .i64 a3]=>some fun _=>⟨a0 (),a1 (),a2 (),a3 ()⟩
 | .qW,[.int .i64 a0,.int .i64 a1,.int .i64 a2]=>some fun _=>⟨a0 (),a1 (),a2 ()⟩
 | .ar,[.int .i64 a0,.int .i64 a1,.bool a2,.int .i64 a3,.int .i64 a4,.int .i64 a5,.int .i64 a6,.int .i64 a7,.sl _ .int a8,.int .i64 a9,.int .i64 nc,.int .i64 nQ]=>some fun _=>⟨a0 (),a1 (),a2 (),a3 (),a4 (),a5 (),a6 (),a7 (),a8 (),a9 (),nc (),nQ ()⟩
 | .cD,[.int .i64 a0,.sl _ .int a1]=>some fun _=>⟨a0 (),a1 ()⟩
 | .mid,[.int .i64 a0,.str a1,.int .u8 a2,.bool a3,.int .i64 a4,.int .i64 a5,.int .i64 a6,.int .u8 a7,.bool a8,.int .i64 a9,.int .i64 nc,.int .i64 nQ]=>some fun _=>⟨⟨a0 (),a1 (),a2 (),a3 (),a4 (),a5 (),a6 (),a7 (),a8 ()⟩,a9 (),nc (),nQ ()⟩
 | .dO,[.int .i64 a0,.int .i64 a1,.int .i64 a2,.int .i64 a3,.int .i64 a4]=>some fun _=>⟨a0 (),a1 (),a2 (),a3 (),a4 ()⟩
 | .cu,[.int .i64 a0,.int .i64 a1,.int .i64 a2,.int .i64 a3,.int .i64 a4]=>some fun _=>⟨a0 (),a1 (),a2 (),a3 (),a4 ()⟩
 | .dW,[.int .i64 a0,.int .i64 a1,.int .i64 a2,.int .i64 a3,.int .i64 a4,.sl _ .int a5]=>some fun _=>⟨a0 (),a1 (),a2 (),a3 (),a4 (),a5 ()⟩
 | .kK,[.int .i64 a0,.int .i64 a1,.bool a2,.int .i64 a3,.int .i64 a4,.int .i64 a5,.int .i64 a6,.int .i64 a7,.wide _ .int a8 a8N,.int .i64 a9,.int .i64 nc,.int .i64 nQ]=>some fun _=>⟨a0 (),a1 (),a2 (),a3 (),a4 (),a5 (),a6 (),a7 (),a8 (),a8N (),a9 (),nc (),nQ ()⟩
 | .kL,[.int .i64 a0,.wide _ .int a1 a1N]=>some fun _=>⟨a0 (),a1 (),a1N ()⟩
 | .kM,[.int .i64 a0,.int .i64 a1,.int .i64 a2,.int .i64 a3,.int .i64 a4,.wide _ .int a5 a5N]=>some fun _=>⟨a0 (),a1 (),a2 (),a3 (),a4 (),a5 (),a5N ()⟩
 | .A9,[.int .u8 a0,.int .u8 a1,.int .u8 a2,.bool a3]=>some fun _=>⟨a0 (),a1 (),a2 (),a3 ()⟩
 | .Ba,[.int .u8 a0,.int .u8 a1,.bool a2,.bool a3]=>some fun _=>⟨a0 (),a1 (),a2 (),a3 ()⟩
 | .DG,[.int .u16 a0,.int .i16 a1,.int .i16 a2,.int .i16 a3]=>some fun _=>⟨a0 (),a1 (),a2 (),a3 ()⟩
 | .wx,[.int .i64 a0,.int .i64 a1]=>some fun _=>⟨a0 (),a1 ()⟩
 | .sy,[.int .i64 a0,.int .i64 a1,.int .i64 a2,.int .i64 a3,.int .i64 a4,.int .i64 a5]=>some fun _=>⟨a0 (),a1 (),a2 (),a3 (),a4 (),a5 ()⟩
 | .jm,l=>xK l
 | .cE,l=>match xK (l.take 17),xK (l.drop 17) with
  | some a,some b=>some fun _=>⟨a (),b ()⟩
  | _,_=>none
 | _,_=>none
theorem apC{t:Tc}{l:List AV}{x:Unit->t.el}(h:LV t l=some x):bf false t x=l.map AV.loose/\(AV.eE true l=true->bf true t x=l):=by
 unfold LV at h;split at h
 case _=>injection h with h; subst h; refine⟨rfl,fun hp => ?_⟩; simp only [AV.eE,AV.plain,jC,gU,fe,iY] at hp; first|rfl|(subst hp; rfl)|simp_all
 case _=>injection h with h; subst h; refine⟨rfl,fun hp => ?_⟩; simp only [AV.eE,AV.plain,jC,gU,fe,iY] at hp; first|rfl|(subst hp; rfl)|simp_all
 case _=>injection h with h; subst h; refine⟨rfl,fun hp => ?_⟩; simp only [AV.eE,AV.plain,jC,gU,fe,iY] at hp; first|rfl|(subst hp; rfl)|simp_all
 case _=>injection h with h; subst h; refine⟨rfl,fun hp => ?_⟩; simp only [AV.eE,AV.plain,jC,gU,fe,iY] at hp; first|rfl|(subst hp; rfl)|simp_all
 case _=>injection h with h; subst h; refine⟨rfl,fun hp => ?_⟩; simp only [AV.eE,AV.plain,jC,gU,fe,iY] at hp; first|rfl|(subst hp; rfl)|simp_all
 case _=>injection h with h; subst h; refine⟨rfl,fun hp => ?_⟩; simp only [AV.eE,AV.plain,jC,gU,fe,iY] at hp; first|rfl|(subst hp; rfl)|simp_all
 case _=>injection h with h; subst h; refine⟨rfl,fun hp => ?_⟩; simp only [AV.eE,AV.plain,jC,gU,fe,iY] at hp; first|rfl|(subst hp; rfl)|simp_all
 case _=>injection h with h; subst h; refine⟨rfl,fun hp => ?_⟩; simp only [AV.eE,AV.plain,jC,gU,fe,iY] at hp; first|rfl|(subst hp; rfl)|simp_all
 case _=>injection h with h; subst h; refine⟨rfl,fun hp => ?_⟩; simp only [AV.eE,AV.plain,jC,gU,fe,iY] at hp; first|rfl|(subst hp; rfl)|simp_all
 case _=>injection h with h; subst h; refine⟨rfl,fun hp => ?_⟩; simp only [AV.eE,AV.plain,jC,gU,fe,iY] at hp; first|rfl|(subst hp; rfl)|simp_all
 case _=>injection h with h; subst h; refine⟨rfl,fun hp => ?_⟩; simp only [AV.eE,AV.plain,jC,gU,fe,iY] at hp; first|rfl|(subst hp; rfl)|simp_all
 case _=>injection h with h; subst h; refine⟨rfl,fun hp => ?_⟩; simp only [AV.eE,AV.plain,jC,gU,fe,iY] at hp; first|rfl|(subst hp; rfl)|simp_all
 case _=>injection h with h; subst h; refine⟨rfl,fun hp => ?_⟩; simp only [AV.eE,AV.plain,jC,gU,fe,iY] at hp; first|rfl|(subst hp; rfl)|simp_all
 case _=>injection h with h; subst h; refine⟨rfl,fun hp => ?_⟩; simp only [AV.eE,AV.plain,jC,gU,fe,iY] at hp; first|rfl|(subst hp; rfl)|simp_all
 case _=>injection h with h; subst h; refine⟨rfl,fun hp => ?_⟩; simp only [AV.eE,AV.plain,jC,gU,fe,iY] at hp; first|rfl|(subst hp; rfl)|simp_all
 case _=>injection h with h; subst h; refine⟨rfl,fun hp => ?_⟩; simp only [AV.eE,AV.plain,jC,gU,fe,iY] at hp; first|rfl|(subst hp; rfl)|simp_all
 case _=>injection h with h; subst h; refine⟨rfl,fun hp => ?_⟩; simp only [AV.eE,AV.plain,jC,gU,fe,iY] at hp; first|rfl|(subst hp; rfl)|simp_all
 case _=>injection h with h; subst h; refine⟨rfl,fun hp => ?_⟩; simp only [AV.eE,AV.plain,jC,gU,fe,iY] at hp; first|rfl|(subst hp; rfl)|simp_all
 case _=>injection h with h; subst h; refine⟨rfl,fun hp => ?_⟩; simp only [AV.eE,AV.plain,jC,gU,fe,iY] at hp; first|rfl|(subst hp; rfl)|simp_all
 case _=>injection h with h; subst h; refine⟨rfl,fun hp => ?_⟩; simp only [AV.eE,AV.plain,jC,gU,fe,iY] at hp; first|rfl|(subst hp; rfl)|simp_all
 case _=>injection h with h; subst h; refine⟨rfl,fun hp => ?_⟩; simp only [AV.eE,AV.plain,jC,gU,fe,iY] at hp; first|rfl|(subst hp; rfl)|simp_all
 case _=>injection h with h; subst h; refine⟨rfl,fun hp => ?_⟩; simp only [AV.eE,AV.plain,jC,gU,fe,iY] at hp; first|rfl|(subst hp; rfl)|simp_all
 case _=>have:=By h; exact⟨by rw [this.1,this.2.2],fun _=>this.2.1⟩
 case _ =>
  split at h
  . rename_i a b ha hb;injection h with h;subst h;have h1:=By ha;have h2:=By hb;have e:∀ fr,bf fr .cE (fun _=>⟨a (),b ()⟩)=bf fr .jm a++bf fr .jm b:=fun fr=>rfl;refine⟨?_,fun _ => ?_⟩
    . rw [e,h1.1,h2.1,lT]
      conv=>lhs; rw [<- lT 17 l,<- h1.2.2,<- h2.2.2,<- ot,lT]
    . rw [e,h1.2.1,h2.2.1,lT]
  . cases h
 case _=>cases h
-- END QV
def norm:Sg->AV->Option AV
 | .int k,.int k' n=>if k=k' then some (.int k' n) else none
 | .int k,.lit k' n=>if k=k' then some (.int k' fun _=>n) else none
 | .bool,.bool b=>some (.bool b)
 | .bool,.aV b=>some (.bool fun _=>b)
 | .str,.str s=>some (.str s)
 | .sl t,.sl fr t' l=>if t=t' then some (.sl fr t' l) else none
 | .sl t,.nil=>some (.sl true t fun _ => [])
 | .sl t,.wide fr t' l n=>if t=t' then some (.sl fr t' fun _=>(l ()).take (n ())) else none
 | .wide t,.wide fr t' l n=>if t=t' then some (.wide fr t' l n) else none
 | .wide t,.sl fr t' l=>if t=t' then some (.wide fr t' l fun _=>(l ()).length) else none
 | .wide t,.nil=>some (.wide true t (fun _ => []) fun _=>0)
 | _,_=>none
def LW:List Sg->List AV->Option (List AV)
 | [],[]=>some []
 | s::ss,x::xs=>match norm s x,LW ss xs with
  | some y,some ys=>some (y::ys)
  | _,_=>none
 | _,_=>none
def cellsOf:AV->Option (List AV)
 | .agg cs=>some cs
 | .un=>none
 | .bp _=>none
 | x=>some [x]
def AV.one:AV->Bool
 | .un=>false
 | .agg _=>false
 | .bp _=>false
 | _=>true
def bV(d:Nat):List Nat->Bool
 | []=>false
 | k::l=>k==d||bV d l
def dS{α:Type}:List (Nat × α)->List Nat
 | [] => []
 | (k,_)::l=>k::dS l
def oF(n:Nat):List Nat->Nat
 | []=>n
 | k::l=>if k<n then oF n l else oF (k+1) l
def zl(ks:List Nat):Nat->Bool
 | 0=>true
 | n+1=>bV n ks&&zl ks n
structure Left (w w':World) (ρ ρ1:Nat->Option Rl) (ra fP:Nat->Prop) (es:List (Nat×En)) (fx:Bool):Prop where
 from_:Rw ρ w w'
 en:∀ l e,al es l=some e->dz w' ρ1 w.heap.size fP l e
 apart:∀ l l' r r' b,l≠l' -> ρ1 l=some r -> ρ1 l'=some r'->r.cH=some b->r'.cH≠some b
 fresh:∀ l,bV l (dS es)=false -> ρ1 l=none
 own:∀ l r b,ρ1 l=some r->r.cH=some b->b<w'.heap.size/\¬ fP b/\(w.heap.size<=b\/∃ r0,ρ l=some r0/\r0.cH=some b)
 rd:∀ b,fP b->b<w'.heap.size/\(b<w.heap.size->ra b)
 dH:∀ l r,ρ l=some r->(r.dH||fx)=true -> ρ1 l=some r
structure Rez where
 pre:Unit->Prop
 av:AV
 es:List (Nat×En)
structure fi where
 f:FuncId
 sig:List Sg
 n:Nat
 go:List AV->List (Nat×En)->Option Rez
 fix:Bool:=false
def jb(P:Program)(c:fi):Prop :=
 (∀ args w,(callFunc c.f args).run P w = .ok (.enter c.f args) w) /\
 ∀ ah es res,c.go ah es=some res->∀ (w:World) (ρ:Nat->Option Rl) (ra:Nat->Prop) (eu:List Value),(∀ b,ra b->b<w.heap.size)->bn w ρ 0 ra ah eu->(∀ l e,al es l=some e->dz w ρ 0 ra l e) ->
  (∀ l l' r r' b,l≠l' -> ρ l=some r -> ρ l'=some r'->r.cH=some b->r'.cH≠some b)->(∀ l,c.n<=l -> ρ l=none)->(∀ l r b,ρ l=some r->r.cH=some b->b<w.heap.size/\¬ ra b)->res.pre () ->
  Calls P c.f eu.toArray w fun e w'=>∃ v ρ1 fP,e = .returned v/\Left w w' ρ ρ1 ra fP res.es c.fix/\aj w' ρ1 w.heap.size fP res.av v
def Bz:List fi->FuncId->Option fi
 | [],_=>none
 | c::cs,f=>if c.f==f then some c else Bz cs f
def lZ:List fi->List Nat
 | [] => []
 | c::cs=>c.f::lZ cs
inductive mF where
 | nil
 | bad
 | op (i:Nat) (r:mF)
 | alt (a b:mF)
deriving DecidableEq
structure Nd where
 dn:List Nat
 ks:List Nat
 up:Nat×Nat
 ed:List (Nat×Nat×Nat)
structure zm where
 sg:List Nat
 row:List Nat
 pre:List Nat
 fq:List Nd
 post:List Nat
structure Cx where
 ty:lE
 cs:List aC
 tc:List (Nat×Tc)
 fs:List fi
 fz:List (Nat×List Nat) := []
 fx:Bool:=false
 kp:List (Nat×List Nat) := []
 sc:List (Nat×mF) := []
 ul:List Nat := []
 jn:List (Nat×List Nat) := []
 lt:List (Nat×zm) := []
 nb:Nat:=0
 ct:List Nat := []
 ng:List It := []
 yl:Option Yl:=none
def cB(C:Cx):List Nat:=match C.yl with
 | some _=>999999999::lZ C.fs
 | none=>lZ C.fs
/- Bh arguments,Bh RD aEj xL -/
structure wj where
 aT:List Nat
 es:List (Nat×En)
mutual
def RE(ge:Nat->Option En):Sg->AV->wj->Option (AV×wj)
 | .any,_,st=>some (.un,st)
 | .Bj t,.own loc,st=>match ge loc with
  | some (.row _ t' T l)=>if t=t'/\bV loc st.aT=false then some (.own st.aT.length,⟨st.aT ++ [loc],(st.aT.length,.row false t' T l)::st.es⟩) else none
  | _=>none
 | .GD t,.own loc,st=>match ge loc with
  | some (.row _ t' T l)=>if t=t'/\bV loc st.aT=false then some (.cW t st.aT.length (fun _=>0) (fun _=>(l ()).length),⟨st.aT ++ [loc],(st.aT.length,.row false t' T l)::st.es⟩) else none
  | _=>none
 | .GD t,.cW t2 loc a b,st=>match ge loc with
  | some (.row _ t' T l)=>if (t=t'/\t2=t)/\bV loc st.aT=false then some (.cW t2 st.aT.length a b,⟨st.aT ++ [loc],(st.aT.length,.row false t' T l)::st.es⟩) else none
  | _=>none
 | .aoK c t,.mp loc,st=>match ge loc with
  | some (.map _ ag c' t' T m)=>if c=c'/\t=t'/\bV loc st.aT=false then some (.mp st.aT.length,⟨st.aT ++ [loc],(st.aT.length,.map false ag c' t' T m)::st.es⟩) else none
  | _=>none
 | .aoL l,.ptr loc 0,st=>match ge loc with
  | some (.box T cells)=>if bV loc st.aT then none else match GV ge l cells ⟨st.aT ++ [loc],st.es⟩ with
   | some (ys,kg)=>some (.ptr st.aT.length 0,⟨kg.aT,(st.aT.length,.box T ys)::kg.es⟩)
   | none=>none
  | _=>none
 | s,x,st=>if AV.plain false x then (coerce ge s x).map fun y=>(y,st) else none
def GV(ge:Nat->Option En):List Sg->List AV->wj->Option (List AV×wj)
 | [],[],st=>some ([],st)
 | s::ss,x::xs,st=>match RE ge s x st with
  | some (y,st1)=>match GV ge ss xs st1 with
   | some (ys,RF)=>some (y::ys,RF)
   | none=>none
  | none=>none
 | _,_,_=>none
end
/- RD are named xL -/
mutual
def AV.gQ(g:Nat->Nat):AV->AV
 | .own l => .own (g l)
 | .dv t l k off => .dv t (g l) k off
 | .cW t l a b => .cW t (g l) a b
 | .ptr l off => .ptr (g l) off
 | .fX l off n => .fX (g l) off n
 | .mp l => .mp (g l)
 | .bL l => .bL (g l)
 | .it l l2 => .it (g l) (g l2)
 | .bP cs off => .bP (AV.qh g cs) off
 | .agg cs => .agg (AV.qh g cs)
 | .bp cs => .bp (AV.qh g cs)
 | .fn f cs => .fn f (AV.qh g cs)
 | x=>x
def AV.qh(g:Nat->Nat):List AV->List AV
 | [] => []
 | x::l=>AV.gQ g x::AV.qh g l
end
def En.gQ(g:Nat->Nat):En->En
 | .box T cs => .box T (AV.qh g cs)
 | .iter ml c seen left => .iter (g ml) c seen left
 | .bL ml c key => .bL (g ml) c key
 | e=>e
def l0(g:Nat->Nat):List (Nat×En)->List (Nat×En)
 | [] => []
 | (k,e)::l=>(g k,En.gQ g e)::l0 g l
def jX(aT:List Nat)(n k:Nat):Nat:=match aT[k]? with
 | some l=>l
 | none=>n+(k - aT.length)
def D1:List Nat->Sx->Sx
 | [],S=>S
 | l::ls,S=>D1 ls ⟨(kill l S).t,mE l (kill l S).e,S.n⟩
def D2:List Nat->Sx->Sx
 | [],S=>S
 | l::ls,S=>D2 ls ⟨S.t,mE l S.e,S.n⟩
def forget(fx:Bool)(ls:List Nat)(S:Sx):Sx:=cond fx (D2 ls S) (D1 ls S)
def wk(B:Bs):List Nat->Bool
 | []=>true
 | l::ls=>(al B.e l).isNone&&quiet l B&&tw l B.e&&wk B ls
def D3(B:Bs)(g:Nat->Nat)(n:Nat):List Nat->Bool
 | []=>true
 | k::ks=>(decide (k<n)||(al B.e (g k)).isNone)&&D3 B g n ks
def xM(t:Tc)(x:AV):Option (Bool×(Unit->t.el)) :=
 match cellsOf x with
 | some cs=>match LW (DY t) cs with
  | some ys=>(LV t ys).map fun e=>(AV.eE true ys,e)
  | none=>none
 | none=>none
def D4(t:Tc):List AV->Option (Bool×List (Unit->t.el))
 | []=>some (true,[])
 | x::l=>match xM t x,D4 t l with
  | some (f,e),some (g,es)=>some (f&&g,e::es)
  | _,_=>none
def BA:Nat->List (Nat×AV)->Option (List AV)
 | _,[]=>some []
 | k,(i,x)::l=>if i==k then (BA (k+1) l).map fun r=>x::r else none
def Tc.flat:Tc->Bool
 | .ar=>false
 | .cD=>false
 | .dW=>false
 | .kK=>false
 | .kL=>false
 | .kM=>false
 | _=>true
def RG(B:Bs)(S:Sx)(t:Tc):AV->Option (Bool×(Unit->List t.el))
 | .nil=>some (true,fun _ => [])
 | .sl fr t' l=>if h:t'=t then some (fr,h▸l) else none
 | .wide fr t' l n=>if h:t'=t then some (fr,fun _=>(h▸l ()).take (n ())) else none
 | .own loc=>match bF B S loc with
  | some (.row fr t' _ l)=>if h:t'=t then some (fr,h▸l) else none
  | _=>none
 | .cW t2 loc a b=>match bF B S loc with
  | some (.row fr t' _ l)=>if h:t'=t then (if t2.size==t.size then some (fr,fun _=>((h▸l ()).take (b ())).drop (a ())) else none) else none
  | _=>none
 | _=>none
def wo(B:Bs)(S:Sx)(t:Tc)(x:AV):Option (Bool×(Unit->List t.el)):=(RG B S t x).map fun p=>(p.1||t.flat,p.2)
def ft{α:Type}(m:List Kx->Option α)(k:List Kx)(x : α):List Kx->Option α:=fun k'=>if k'=k then some x else m k'
def RH(ag:Bool):AV->Bool
 | .agg _=>ag
 | _ => !ag
def D5(ag:Bool)(t:Tc)(x:AV):Option (Bool×(Unit->t.el)) :=
 if (ag||t.size==1)&&RH ag x then xM t x else none
def RI(n m:Unit->Nat)(b:Nat):List VC := [fun _=>(n ()+m ())*b<=140737488355328]
def LX(t:Tc)(l:Unit->List t.el):Nat->List AV->Option (List AV)
 | _,[]=>some []
 | k,x::os=>match bf false t (fun _=>(l ()).getD k t.aa),x.asInt,LX t l (k+1) os with
  | [.int kk z],some (k',o),some r=>if kk=k' then some (.int kk (fun _=>cond (decide (k<(l ()).length)) (z ()) (o ()))::r) else none
  | _,_,_=>none
def RJ(C:Cx)(N:Nat)(B:Bs)(S:Sx)(T d:Nat)(s x:AV):Option (Sx×List VC):=match fZ C.ty T,s with
 | some (.slice _ 1 _),.fX loc off n=>match bF B S loc,x with
  | some (.box T' cells),.sl _ t l=>if (al B.e loc).isNone&&decide (off+n<=cells.length)&&t.size==1 then match LX t l 0 ((cells.drop off).take n) with
   | some cs=>(cb B ⟨S.t,(loc,.box T' (cells.take off++cs++cells.drop (off+n)))::S.e,S.n⟩ N d .un).map fun S'=>(S',[])
   | none=>none
   else none
  | _,_=>none
 | some (.slice e 1 _),.own loc=>match bF B S loc with
  | some (.row fr t e' l)=>if e'==e&&t.size==1&&(al B.e loc).isNone then match wo B S t x with
   | some (f,m)=>if f || !fr then (cb B ⟨S.t,(loc,.row fr t e' fun _=>(m ()).take (l ()).length++(l ()).drop (m ()).length)::S.e,S.n⟩ N d .un).map fun S'=>(S',[]) else none
   | none=>none
   else none
  | _=>none
 | _,_=>none
def LY(C:Cx)(N:Nat)(B:Bs)(S:Sx)(o:Oper):Option (Sx×List VC) :=
 match o.op with
 | .alloc T=>match al C.ty T,o.dst with
  | some i,some d=>if i.z.isEmpty||(al B.e S.n).isSome then none else (cb B ⟨S.t,(S.n,.box T i.z)::S.e,S.n+1⟩ N d (.ptr S.n 0)).map fun S'=>(S',[])
  | _,_=>none
 | .box T x=>match cellsOf (cm B S x),o.dst with
  | some cs,some d=>if (al B.e S.n).isSome then none else (cb B ⟨S.t,(S.n,.box T cs)::S.e,S.n+1⟩ N d (.ptr S.n 0)).map fun S'=>(S',[])
  | _,_=>none
 | .store T ad x=>match al C.ty T,cellsOf (cm B S x),cm B S ad,o.dst with
  | some i,some cs,.ptr loc off,none=>match bF B S loc with
   | some (.box T' cells)=>if cs.length==i.sz&&decide (off+i.sz<=cells.length)&&cs.all AV.one&&(al B.e loc).isNone then some (⟨S.t,(loc,.box T' (cells.take off++cs++cells.drop (off+i.sz)))::S.e,S.n⟩,[]) else none
   | _=>none
  | some i,some cs,.dv t loc k off,none=>match bF B S loc with
   | some (.row fr t' T' l)=>if t=t' then
    if cs.length==i.sz&&decide (off+i.sz<=t'.size)&&cs.all AV.one&&(al B.e loc).isNone then
     let Dz:=bf fr t' fun _=>(l ()).getD (k ()).toNat t'.aa
     match xM t' (.agg (Dz.take off++cs++Dz.drop (off+i.sz))) with
     | some (f,e)=>if f || !fr then some (⟨S.t,(loc,.row fr t' T' fun _=>(l ()).set (k ()).toNat (e ()))::S.e,S.n⟩,[]) else none
     | none=>none
    else none
    else none
   | _=>none
  | _,_,_,_=>none
 | .buildSlice T len parts=>match fZ C.ty T,o.dst with
  | some (.slice e sz _),some d=>match al C.tc e with
   | some t=>match BA 0 (parts.toList.map fun p=>(p.1,cm B S p.2)) with
    | some xs=>match D4 t xs with
     | some (f,es)=>if t.size==sz&&es.length==len&&decide (len*sz<=16777216)&&(al B.e S.n).isNone then (cb B ⟨S.t,(S.n,.row f t e fun _=>es.map fun g=>g ())::S.e,S.n+1⟩ N d (.own S.n)).map fun S'=>(S',[]) else none
     | none=>none
    | none=>none
   | none=>none
  | _,_=>none
 | .makeSlice T l c=>match fZ C.ty T,o.dst with
  | some (.slice e sz b),some d=>match al C.tc e with
   | some t=>match cm B S l,(cm B S c).asInt with
    | .lit _ 0,some (_,k)=>if t.size==sz&&(al B.e S.n).isNone then (cb B ⟨S.t,(S.n,.row true t e fun _ => [])::S.e,S.n+1⟩ N d (.own S.n)).map fun S'=>(S',[fun _=>0<=k ()/\k ()*b<=281474976710656]) else none
    | .int _ n,some (_,k)=>match al C.ty e with
     | some ie=>match xM t (.agg ie.z) with
      | some (f,x)=>if t.size==sz&&(al B.e S.n).isNone && !ie.z.isEmpty then (cb B ⟨S.t,(S.n,.row f t e fun _=>List.replicate (n ()).toNat (x ()))::S.e,S.n+1⟩ N d (.own S.n)).map fun S'=>(S',[fun _=>0<=n ()/\n ()=k ()/\n ()*b<=281474976710656]) else none
      | none=>none
     | none=>none
    | _,_=>none
   | none=>none
  | _,_=>none
 | .makeMap T none=>match fZ C.ty T,o.dst with
  | some (.map _ _ c t ag),some d=>if (al B.e S.n).isSome then none else (cb B ⟨S.t,(S.n,.map true ag c t T fun _ _=>none)::S.e,S.n+1⟩ N d (.mp S.n)).map fun S'=>(S',[])
  | _,_=>none
 | .mapUpdate T x i v=>match fZ C.ty T,cm B S x,o.dst with
  | some (.map _ _ c t ag),.mp loc,none=>match bF B S loc,y6 c (cm B S i) with
   | some (.map fr kO c' t' T' m),some k=>if c'=c/\t'=t/\kO=ag then (match D5 kO t' (cm B S v) with
    | some (f,e)=>if (al B.e loc).isNone&&tw loc B.e then some (⟨S.t,(loc,.map (fr&&f) kO c' t' T' fun _=>ft (m ()) (k ()) (e ()))::mE loc S.e,S.n⟩,[]) else none
    | none=>none) else none
   | _,_=>none
  | _,_,_=>none
 | .mapEntry T x i=>match fZ C.ty T,cm B S x,o.dst with
  | some (.map _ _ c t ag),.mp loc,some d=>match bF B S loc,y6 c (cm B S i) with
   | some (.map fr kO c' t' T' m),some k=>if c'=c/\t'=t/\kO=ag then (if (al B.e loc).isNone&&tw loc B.e&&(al B.e S.n).isNone then
    (cb B ⟨S.t,(S.n,.bL loc c' k)::(loc,.map fr kO c' t' T' fun _=>ft (m ()) (k ()) ((m () (k ())).getD t'.aa))::mE loc S.e,S.n+1⟩ N d (.bp [fh kO fr t' fun _=>(m () (k ())).getD t'.aa,.bL S.n])).map fun S'=>(S',[]) else none) else none
   | _,_=>none
  | _,_,_=>none
 | .entryStore _ x s v=>match cm B S x,cm B S s,o.dst with
  | .mp loc,.bL l2,none=>match bF B S loc,bF B S l2 with
   | some (.map fr ag c t T' m),some (.bL ml c' key)=>if ml=loc/\c'=c then (match D5 ag t (cm B S v) with
    | some (f,e)=>if (al B.e loc).isNone&&tw loc B.e then some (⟨S.t,(loc,.map (fr&&f) ag c t T' fun _=>ft (m ()) (key ()) (e ()))::mE loc S.e,S.n⟩,[]) else none
    | none=>none) else none
   | _,_=>none
  | _,_,_=>none
 | .call c=>match c.callee,c.args.toList,c.argTypes.toList,o.dst with
  | .builtin .append,[s,x],[T,T2],some d=>if T==T2 then match fZ C.ty T with
   | some (.slice e sz b)=>match cm B S s with
    | .own loc=>match bF B S loc with
     | some (.row fr t e' l)=>if e'==e&&t.size==sz&&(al B.e loc).isNone&&quiet loc B && !C.fx then match wo B S t (cm B S x) with
      | some (f,m)=>if AV.has loc (cm B S x) then none else (cb B ⟨(kill loc S).t,(loc,.row (fr&&f) t e' fun _=>l ()++m ())::(kill loc S).e,S.n⟩ N d (.own loc)).map fun S'=>(S',RI (fun _=>(l ()).length) (fun _=>(m ()).length) b)
      | none=>none
      else none
     | _=>none
    | .cW _ loc a0 b0=>match bF B S loc with
     | some (.row fr t e' l)=>if e'==e&&t.size==sz&&(al B.e loc).isNone&&quiet loc B && !C.fx then match wo B S t (cm B S x) with
      | some (f,m)=>(cb B ⟨(kill loc S).t,(loc,.row (fr&&f) t e' fun _=>(l ()).take (b0 ())++m ())::(kill loc S).e,S.n⟩ N d (.own loc)).map fun S'=>(S',(fun _=>a0 ()=0)::RI b0 (fun _=>(m ()).length) b)
      | none=>none
      else none
     | _=>none
    | .nil=>match al C.tc e with
     | some t=>if t.size==sz&&(al B.e S.n).isNone then match wo B S t (cm B S x) with
      | some (f,m)=>(cb B ⟨S.t,(S.n,.row f t e m)::S.e,S.n+1⟩ N d (.own S.n)).map fun S'=>(S',RI (fun _=>0) (fun _=>(m ()).length) b)
      | none=>none
      else none
     | none=>none
    | _=>none
   | _=>none
   else none
  | .builtin .copy,[s,x],[T,_],some d=>RJ C N B S T d (cm B S s) (cm B S x)
  | _,_,_,_=>none
 | _=>none
def GW(C:Cx)(N:Nat)(B:Bs)(S:Sx)(o:Oper):Option (Sx×List VC) :=
 match o.op with
 | .call c=>match c.callee with
  | .value (.func f)=>match Bz C.fs f with
   | some fo=>match GV (bF B S) fo.sig (c.args.toList.map (cm B S)) ⟨[],[]⟩ with
    | some (ah,st)=>match fo.go ah st.es with
     | some res=>if st.aT.length==fo.n&&wk B st.aT&&zl (dS res.es) fo.n&&D3 B (jX st.aT S.n) fo.n (dS res.es)&&(fo.fix || !C.fx) then
      let S2:Sx:=⟨(forget fo.fix st.aT S).t,l0 (jX st.aT S.n) res.es++(forget fo.fix st.aT S).e,S.n+(oF fo.n (dS res.es) - fo.n)⟩
      match o.dst with
      | some d=>(cb B S2 N d (AV.gQ (jX st.aT S.n) res.av)).map fun S'=>(S',[res.pre])
      | none=>none
      else none
     | none=>none
    | none=>none
   | none=>none
  | _=>none
 | _=>none
/- y0 is new,or apf at a place -/
mutual
def AV.ri:AV->Bool
 | .sl fr _ _=>fr
 | .wide fr _ _ _=>fr
 | .bP _ _=>false
 | .agg cs=>AV.wu cs
 | .bp cs=>AV.wu cs
 | .fn _ cs=>AV.wu cs
 | _=>true
def AV.wu:List AV->Bool
 | []=>true
 | x::l=>AV.ri x&&AV.wu l
end
def En.ri:En->Bool
 | .box _ cs=>AV.wu cs
 | .row fr _ _ _=>fr
 | .map fr _ _ _ _ _=>fr
 | _=>false
def LZ:List (Nat×En)->Bool
 | []=>true
 | (_,e)::l=>En.ri e&&LZ l
def GX(C:Cx)(N:Nat)(B:Bs)(S:Sx)(o:Oper):Option (Sx×List VC) :=
 match o.op with
 | .call c=>match c.callee with
  | .value (.func f)=>match Bz C.fs f with
   | some fo=>match qY (bF B S) fo.sig (c.args.toList.map (cm B S)) with
    | some ah=>match fo.go ah [] with
     | some res=>if fo.n==0&&AV.ri res.av&&LZ res.es&&D3 B (jX [] S.n) 0 (dS res.es)&&(fo.fix || !C.fx) then
      match o.dst with
      | some d=>(cb B ⟨(forget fo.fix [] S).t,l0 (jX [] S.n) res.es++(forget fo.fix [] S).e,S.n+(oF 0 (dS res.es) - 0)⟩ N d (AV.gQ (jX [] S.n) res.av)).map fun S'=>(S',[res.pre])
      | none=>none
      else none
     | none=>none
    | none=>none
   | none=>none
  | _=>none
 | _=>none
/- a aEk name is aEl by y0 it holds -/
mutual
def AV.xN(loc:Nat)(y:AV):AV->AV
 | .own l=>cond (l==loc) y (.own l)
 | .dv t l k off=>cond (l==loc) .un (.dv t l k off)
 | .cW t l a b=>cond (l==loc) .un (.cW t l a b)
 | .bP cs off => .bP (AV.tx loc y cs) off
 | .agg cs => .agg (AV.tx loc y cs)
 | .bp cs => .bp (AV.tx loc y cs)
 | .fn f cs => .fn f (AV.tx loc y cs)
 | x=>x
def AV.tx(loc:Nat)(y:AV):List AV->List AV
 | [] => []
 | x::l=>AV.xN loc y x::AV.tx loc y l
end
def GY(loc:Nat)(y:AV):List (Nat×AV)->List (Nat×AV)
 | [] => []
 | (d,x)::l=>(d,AV.xN loc y x)::GY loc y l
def aa4(loc:Nat)(y:AV):En->En
 | .box T cs => .box T (AV.tx loc y cs)
 | e=>e
def BC(loc:Nat)(y:AV):List (Nat×En)->List (Nat×En)
 | [] => []
 | (k,e)::l=>cond (k==loc) (BC loc y l) ((k,aa4 loc y e)::BC loc y l)
def RK(nb:Nat)(B:Bs)(S:Sx)(loc:Nat):Sx:=match bF B S loc with
 | some (.row fr t _ l)=>cond ((fr||decide (nb<=loc))&&((al B.e loc).isNone&&quiet loc B)) ⟨GY loc (.sl fr t l) S.t,BC loc (.sl fr t l) S.e,S.n⟩ S
 | _=>S
def tz(nb:Nat)(B:Bs):List Nat->Sx->Sx
 | [],S=>S
 | l::ls,S=>tz nb B ls (RK nb B S l)
def AV.RL:List AV->List Nat
 | [] => []
 | .own l::r=>l::AV.RL r
 | _::r=>AV.RL r
def AV.owns:AV->List Nat
 | .own l => [l]
 | .agg cs=>AV.RL cs
 | _ => []
def RM:List AV->List Nat
 | [] => []
 | x::l=>AV.owns x++RM l
def rj:List Nat->List (Nat×AV)->List (Nat×AV)
 | [],_ => []
 | d::ds,l=>match al l d with
  | some x=>(d,x)::rj ds l
  | none=>rj ds l
def L0:List (Nat×List Nat)->Nat->Option (List Nat)
 | [],_=>none
 | (k,l)::m,id=>cond (k==id) (some l) (L0 m id)
def D6(C:Cx)(id:Nat)(S:Sx):Sx:=match L0 C.kp id with
 | none=>S
 | some ks=>⟨rj ks S.t,S.e,S.n⟩
def L3(nb:Nat)(B:Bs)(S:Sx):Op->Sx
 | .buildSlice _ _ parts=>tz nb B (RM (parts.toList.map fun p=>cm B S p.2)) S
 | .store _ ad x=>match cm B S ad with
  | .dv _ _ _ _=>tz nb B (AV.owns (cm B S x)) S
  | _=>S
 | .mapUpdate _ _ _ v=>tz nb B (AV.owns (cm B S v)) S
 | .entryStore _ _ _ v=>tz nb B (AV.owns (cm B S v)) S
 | _=>S
section
variable{w w0:World}{ρ:Nat->Option Rl}{base:Nat}{ro:Nat->Prop}{S0:Pm}{Φ : Pm->Prop}{N:Nat}{B:Bs}{S:Sx}{a:Act}
theorem D7(loc:Nat)(y:AV):∀ (l:List AV) (j:Nat),(AV.tx loc y l)[j]? = (l[j]?).map (AV.xN loc y)
 | [],j=>by simp [AV.tx]
 | x::l,0=>by simp [AV.tx]
 | x::l,j+1=>by simp only [AV.tx,PW]; exact D7 loc y l j
theorem RN(loc:Nat)(y:AV):∀ (l:List AV),(AV.tx loc y l).length=l.length
 | []=>rfl
 | x::l=>by simp [AV.tx,RN loc y l]
theorem RO{loc d:Nat}{y:AV}:∀ (l:List (Nat×AV)),al (GY loc y l) d=(al l d).map (AV.xN loc y)
 | []=>rfl
 | (k,x)::l=>by
  simp only [GY,al];split
  . rfl
  . exact RO l
theorem RP{loc d:Nat}{y:AV}:∀ (l:List (Nat×En)),al (BC loc y l) d=if d=loc then none else (al l d).map (aa4 loc y)
 | []=>by simp [BC,al]
 | (k,e)::l=>by
  have ih:=RP (loc:=loc) (d:=d) (y:=y) l;simp only [BC]
  cases hk:k==loc with
  | true =>
   have fO:k=loc:=by simpa using hk
   simp only [pg,al];rw [ih];split
   . rfl
   . rename_i hd;have:(k==d)=false:=by simp only [Kk]; omega
     simp only [this,fk,dK]
  | false =>
   simp only [qP,al];by_cases hkd:k=d
   . subst hkd;have:¬ k=loc:=by simpa using hk
     simp [this]
   . have apE:(k==d)=false:=by simpa using hkd
     simp only [apE,fk,dK];exact ih
theorem GZ{d:Nat}{x:AV}{l:List (Nat×AV)}:∀ {ds:List Nat},al (rj ds l) d=some x->al l d=some x
 | [],h=>by cases h
 | k::ds,h=>by
  unfold rj at h;split at h
  . rename_i y hy;simp only [al] at h;split at h
    . rename_i hk;have fO:k=d:=by simpa using hk
      subst fO;rw [hy];exact h
    . exact GZ h
  . exact GZ h
theorem apF(C:Cx)(id:Nat)(H:bj w0 Φ N B S a w):bj w0 Φ N B (D6 C id S) a w:=by
 unfold D6;split
 . exact H
 . rename_i ks _;obtain⟨S0,hS,ρ,ro,H⟩:=H;refine⟨S0,hS,ρ,ro,H.from_,H.size,H.defers,H.gX,fun d x h=>H.tm d x ?_,H.en,H.apart,H.fresh,H.own,H.fp,H.dH,fun d x h => ?_,H.kT,H.fm⟩
   . unfold dR at h ⊢;dsimp only at h
     cases hp:al (rj ks S.t) d with
     | some y =>
      rw [hp] at h;rw [GZ hp];exact h
     | none =>
      rw [hp] at h;rw [H.kQ d x h];exact h
   . exact aa6
theorem aj.apG{x:AV}{v:Value}{A:Option Addr}{y:AV}(h:aj w ρ base ro x v)(hr : ρ loc=some (.row A n c))(hy:aj w (fun l=>if l=loc then none else ρ l) base (fun b=>ro b\/A.map (·.block)=some b) y (.slice A n c)) :
 aj w (fun l=>if l=loc then none else ρ l) base (fun b=>ro b\/A.map (·.block)=some b) (AV.xN loc y x) v:=by
 have hρ:∀ l r,ρ l=some r->l≠loc->(fun l=>if l=loc then none else ρ l) l=some r:=fun l r h hl=>by simp only [ax hl]; exact h
 have qi:∀ l r,ρ l=some r->r.dH=true->l≠loc:=fun l r h h2 e=>by subst e; rw [hr] at h; cases h; cases h2
 induction h with
 | un=>exact .un _
 | gv=>exact .gv _
 | int=>exact .int _ _
 | lit=>exact .lit _ _
 | bool=>exact .bool _
 | aV=>exact .aV _
 | str=>exact .str _
 | nil=>exact .nil
 | sl fr t l A' c' css hl hc kU mC df h ih =>
  refine .sl fr t l A' c' css hl hc kU (fun a ha hn => .inl (mC a ha hn)) df fun k cs j x v k1 k2 k3 => ?_;have h1:=h k cs j x v k1 k2 k3;have h2:=nN (xE fr t _ loc) k2;exact (h1.move (ρ':=fun l=>if l=loc then none else ρ l) h2 fun l r q1 q2=>hρ l r q1 (q2.elim id (qi l r q1))).mono (fun _ _ _=>rfl) (Ext.refl _) (aN _) fun _ hb => .inl hb
 | wide fr t l n A' c' hn h ih=>exact .wide fr t l n A' c' hn ih
 | bP cells off b o cs mC af hl hc h ih =>
  refine .bP _ off b o cs (.inl mC) af L4 hc fun j x v k1 k2 => ?_;rw [D7] at k1;obtain⟨z,k3,rfl⟩:=nH.1 k1;exact ih j z v k3 k2
 | ptr l off b h=>exact .ptr _ _ _ (hρ _ _ h (qi _ _ h rfl))
 | fX l off n b h=>exact .fX _ _ _ _ (hρ _ _ h (qi _ _ h rfl))
 | own l A' n' c' h =>
  unfold AV.xN
  cases hl:l==loc with
  | true =>
   have:l=loc:=by simpa using hl
   subst this;rw [hr] at h;cases h;exact hy
  | false=>exact .own _ _ _ _ (hρ _ _ h (by simpa using hl))
 | dv t l k off A' n' c' b h hA h0 hn =>
  unfold AV.xN
  cases hl:l==loc with
  | true=>exact .un _
  | false=>exact .dv _ _ _ _ _ _ _ _ (hρ _ _ h (by simpa using hl)) hA h0 hn
 | cW t l a b A' n' c' h bJ =>
  unfold AV.xN
  cases hl:l==loc with
  | true=>exact .un _
  | false=>exact .cW _ _ _ _ _ _ _ (hρ _ _ h (by simpa using hl)) bJ
 | mp l b h=>exact .mp _ _ (hρ _ _ h (qi _ _ h rfl))
 | bL l s h=>exact .bL _ _ (hρ _ _ h (qi _ _ h rfl))
 | it l l2 b h=>exact .it _ _ _ (hρ _ _ h (qi _ _ h rfl))
 | agg l vs hl h ih =>
  refine .agg _ _ L4 fun j x v k1 k2 => ?_;rw [D7] at k1;obtain⟨z,k3,rfl⟩:=nH.1 k1;exact ih j z v k3 k2
 | bp l vs hl h ih =>
  refine .bp _ _ L4 fun j x v k1 k2 => ?_;rw [D7] at k1;obtain⟨z,k3,rfl⟩:=nH.1 k1;exact ih j z v k3 k2
 | fn f dV vs hl h ih =>
  refine .fn f _ _ L4 fun j x v k1 k2 => ?_;rw [D7] at k1;obtain⟨z,k3,rfl⟩:=nH.1 k1;exact ih j z v k3 k2
theorem apH(dh:∀ S0,Φ S0->∀ l r,S0.pl l=some r->l<nb)(jG:∀ S0,Φ S0->S0.fx=false)(H:bj w0 Φ N B S a w)(loc:Nat):bj w0 Φ N B (RK nb B S loc) a w:=by
 obtain⟨S0,hS,ρ,ro,H⟩:=H;unfold RK;split
 case h_2=>exact⟨S0,hS,ρ,ro,H⟩
 rename_i fr t T l he
 cases hc:(fr||decide (nb<=loc))&&((al B.e loc).isNone&&quiet loc B) with
 | false=>exact⟨S0,hS,ρ,ro,H⟩
 | true =>
  rw [pg];simp only [aD,jz] at hc;obtain⟨yX,hB,hq⟩:=hc;unfold quiet at hq;simp only [aD] at hq;obtain⟨A,c,css,hA,bS,hlen,dQ⟩:=H.en _ _ he;have rk:∀ ad,A=some ad->w0.heap.size<=ad.block:=fun ad ha=>by
   cases fr with
   | true=>exact (bS.lt ha).1
   | false =>
    rcases (H.own loc _ ad.block hA (by rw [ha]; rfl)).2.2.1 with h|⟨r0,h1,_⟩
    . exact h
    . have:=dh S0 hS loc r0 h1;simp only [uo,aU] at yX;omega
  have RQ:=bS;obtain⟨y,hy⟩:∃ y,AV.sl fr t l=y:=⟨_,rfl⟩
  obtain⟨ρ',zn⟩:∃ ρ':Nat->Option Rl,ρ'=fun l=>if l=loc then none else ρ l:=⟨_,rfl⟩
  obtain⟨ro',D8⟩:∃ ro':Nat->Prop,ro'=fun b=>ro b\/A.map (·.block)=some b:=⟨_,rfl⟩
  have hρ:∀ l r,ρ l=some r->l≠loc -> ρ' l=some r:=fun l r h hl=>by rw [zn]; simp only [ax hl]; exact h
  have qi:∀ l r,ρ l=some r->r.dH=true->l≠loc:=fun l r h h2 e=>by subst e; rw [hA] at h; cases h; cases h2
  have fN:∀ l r,ρ' l=some r -> ρ l=some r/\l≠loc:=fun l r h=>by
   rw [zn] at h;simp only at h;split at h
   . cases h
   . rename_i hl; exact⟨h,hl⟩
  have BD:∀ x v,aj w ρ w0.heap.size ro x v->AV.has loc x=false->aj w ρ' w0.heap.size ro' x v:=fun x v h hx=>(h.move (ρ' := ρ') hx fun l r q1 q2=>hρ l r q1 (q2.elim id (qi l r q1))).mono (fun _ _ _=>rfl) (Ext.refl _) (aN _) fun _ hb=>by rw [D8]; exact .inl hb
  have fJ:∀ b,A.map (·.block)=some b->w0.heap.size<=b/\b<w.heap.size:=fun b hb=>by
   obtain⟨ad,h1,h2⟩:=nH.1 hb;rw [<- h2];exact⟨rk ad h1,(RQ.lt h1).2⟩
  have LF:aj w ρ' w0.heap.size ro' y (.slice A (l ()).length c):=by
   rw [<- hy];refine .sl fr t l A c css hlen RQ.cap.1 RQ.rd (fun ad ha _=>by rw [D8]; exact .inr (by rw [ha]; rfl)) (fun _ ad ha _=>rk ad ha) fun k cs j x v k1 k2 k3=>BD x v (dQ k cs j x v k1 k2 k3) (nN (xE fr t _ loc) k2)
  have ch:∀ x v,aj w ρ w0.heap.size ro x v->aj w ρ' w0.heap.size ro' (AV.xN loc y x) v:=fun x v h=>by
   rw [zn,D8] at LF ⊢;exact h.apG hA LF
  have mG:∀ k e,dz w ρ w0.heap.size ro k e->k≠loc->(∀ T cs,e = .box T cs->False)->dz w ρ' w0.heap.size ro' k e:=fun k e h hk hb=>by
   cases e with
   | box T cs=>exact (hb T cs rfl).elim
   | row fr t T m =>
    obtain⟨A1,c1,apI,k1,k2,k3,k4⟩:=h;exact⟨A1,c1,apI,hρ _ _ k1 hk,k2,k3,fun i cs j x v q1 q2 q3=>BD x v (k4 i cs j x v q1 q2 q3) (nN (xE fr t _ loc) q2)⟩
   | map fr ag c t T m =>
    obtain⟨b,es,clock,k1,k2,k3,k4⟩:=h;exact⟨b,es,clock,hρ _ _ k1 hk,k2,k3,k4.tv fun x v hx=>BD _ v hx (RB _ _ _ _ _)⟩
   | iter ml c seen left =>
    obtain⟨b,b2,es,clock,since,stamps,c0,k1,k2,k3⟩:=h;exact⟨b,b2,es,clock,since,stamps,c0,hρ _ _ k1 hk,hρ _ _ k2 (qi _ _ k2 rfl),k3⟩
   | bL ml c key =>
    obtain⟨b,es,clock,s,e,k1,k2,k3⟩:=h;exact⟨b,es,clock,s,e,hρ _ _ k1 hk,hρ _ _ k2 (qi _ _ k2 rfl),k3⟩
   | fY k=>exact hρ _ _ h hk
   | dead =>
    obtain⟨r,k1⟩:=h;exact⟨r,hρ _ _ k1 hk⟩
  refine⟨S0,hS,ρ',ro',H.from_,H.size,H.defers,fun b hb => ?_,fun d x h => ?_,fun k e h => ?_,fun k k' r r' b bg h1 h2=>H.apart k k' r r' b bg (fN _ _ h1).1 (fN _ _ h2).1,fun k hk => ?_,fun k r b h1 h2 => ?_,fun b hb => ?_,fun k r h1 h2 => ?_,fun d x h => ?_,fun k e h => ?_,H.fm⟩
  . rw [D8] at hb;exact hb.elim (H.gX b) fun h=>(fJ b h).2
  . unfold dR at h;dsimp only at h;rw [RO] at h
    cases hd:al S.t d with
    | none =>
     rw [hd] at h;obtain⟨u,h1,h2⟩:=H.tm d x (by unfold dR; rw [hd]; exact h);exact⟨u,h1,BD x u h2 (Ry hq.1 h)⟩
    | some z =>
     rw [hd] at h;simp only [dG,bU] at h;obtain⟨u,h1,h2⟩:=H.tm d z (by unfold dR; rw [hd]);refine⟨u,h1,?_⟩;rw [<- h,hy];exact ch z u h2
  . unfold bF at h;dsimp only at h;rw [RP] at h;by_cases hk:k=loc
    . rw [aG hk,hk,hB] at h;cases h
    rw [ax hk] at h
    cases hd:al S.e k with
    | none =>
     rw [hd] at h;have h1:=H.en k e (by unfold bF; rw [hd]; exact h)
     cases e with
     | box T cs =>
      obtain⟨b,us,k1,k4,k5⟩:=h1;exact⟨b,us,hρ _ _ k1 hk,k4,k5.1,fun j x v hx hv=>BD x v (k5.2 j x v hx hv) (nN (Rz hq.2 h) hx)⟩
     | row fr t T m=>exact mG _ _ h1 hk (fun _ _ h=>by cases h)
     | map fr ag c t T m=>exact mG _ _ h1 hk (fun _ _ h=>by cases h)
     | iter ml c seen left=>exact mG _ _ h1 hk (fun _ _ h=>by cases h)
     | bL ml c key=>exact mG _ _ h1 hk (fun _ _ h=>by cases h)
     | fY k=>exact mG _ _ h1 hk (fun _ _ h=>by cases h)
     | dead=>exact mG _ _ h1 hk (fun _ _ h=>by cases h)
    | some z =>
     rw [hd] at h;simp only [dG,bU] at h;have h1:=H.en k z (by unfold bF; rw [hd]);rw [<- h,hy]
     cases z with
     | box T cs =>
      obtain⟨b,us,k1,k4,k5⟩:=h1;refine⟨b,us,hρ _ _ k1 hk,k4,by rw [RN]; exact k5.1,fun j x v hx hv => ?_⟩;rw [D7] at hx;obtain⟨z,k3,rfl⟩:=nH.1 hx;exact ch z v (k5.2 j z v k3 hv)
     | row fr t T m=>exact mG _ _ h1 hk (fun _ _ h=>by cases h)
     | map fr ag c t T m=>exact mG _ _ h1 hk (fun _ _ h=>by cases h)
     | iter ml c seen left=>exact mG _ _ h1 hk (fun _ _ h=>by cases h)
     | bL ml c key=>exact mG _ _ h1 hk (fun _ _ h=>by cases h)
     | fY k=>exact mG _ _ h1 hk (fun _ _ h=>by cases h)
     | dead=>exact mG _ _ h1 hk (fun _ _ h=>by cases h)
  . have h1:=H.fresh k hk;rw [zn];simp only [h1];split<;>rfl
  . obtain⟨h3,h4⟩:=fN _ _ h1;have h5:=H.own k r b h3 h2;refine⟨h5.1,fun hb => ?_,h5.2.2⟩;rw [D8] at hb;rcases hb with hb|hb
    . exact h5.2.1 hb
    . exact H.apart k loc r _ b h4 h3 hA h2 hb
  . rw [D8] at hb;rcases hb with hb|hb
    . exact H.fp b hb
    . exact⟨fun af=>by have:=(fJ b hb).1; omega,fun ho=>(H.own loc _ b hA hb).2.2.2 (S0.zj b ho)⟩
  . have h3:=H.dH k r h1 h2;rw [jG S0 hS,iY] at h2;exact hρ _ _ h3 (qi _ _ h3 h2)
  . show al (GY loc _ S.t) d=none
    rw [RO,H.kQ d x h];rfl
  . show al (BC loc _ S.e) k=none
    rw [RP,H.kT k e h];split<;>rfl
theorem BE{nb:Nat}(dh:∀ S0,Φ S0->∀ l r,S0.pl l=some r->l<nb)(jG:∀ S0,Φ S0->S0.fx=false):∀ {ls:List Nat} {S:Sx},bj w0 Φ N B S a w->bj w0 Φ N B (tz nb B ls S) a w
 | [],_,H=>H
 | l::ls,_,H=>BE dh jG (ls:=ls) (apH dh jG H l)
theorem apJ(dh:∀ S0,Φ S0->∀ l r,S0.pl l=some r->l<nb)(jG:∀ S0,Φ S0->S0.fx=false)(H:bj w0 Φ N B S a w)(op:Op):bj w0 Φ N B (L3 nb B S op) a w:=by
 unfold L3;split
 . exact BE dh jG H
 . split
   . exact BE dh jG H
   . exact H
 . exact BE dh jG H
 . exact BE dh jG H
 . exact H
end
end Go.Proofs.YtamjbkaclhgffaaGreat
