/-
  The abstract run: operations that make a place, write one, or let one grow; they are sound.
-/
import Derived.Test.YtlpikgchnjajmaaGreatTp6
set_option linter.all false
namespace Go.Proofs.YtlpikgchnjajmaaGreat
open Go.RowKit
variable{c loc n nb:Nat}
-- Oo
def B6:Tc->List Sg
 | .int => [.int .i64]
 | .u8 => [.int .u8]
 | .u32 => [.int .u32]
 | .box => [.int .i64,.str,.int .u8,.bool,.int .i64,.int .i64,.int .i64,.int .u8,.bool]
 | .aq => [.int .i64,.int .i64,.int .i64,.int .u8]
 | .slot => [.int .i64,.int .i64,.int .u8]
 | .ld => [.int .i64,.int .i64,.int .i64,.int .i64]
 | .pE => [.int .i64,.int .i64,.int .i64]
 | .ax => [.int .i64,.int .i64,.bool,.int .i64,.int .i64,.int .i64,.int .i64,.int .i64,.sl .int,.int .i64,.int .i64,.int .i64]
 | .e9 => [.int .i64,.sl .int]
 | .mid => [.int .i64,.str,.int .u8,.bool,.int .i64,.int .i64,.int .i64,.int .u8,.bool,.int .i64,.int .i64,.int .i64]
 | .bE => [.int .i64,.int .i64,.int .i64,.int .i64,.int .i64]
 | .sM => [.int .i64,.int .i64,.int .i64,.int .i64,.int .i64]
 | .bD => [.int .i64,.int .i64,.int .i64,.int .i64,.int .i64,.sl .int]
 | .xK => [.int .i64,.int .i64,.bool,.int .i64,.int .i64,.int .i64,.int .i64,.int .i64,.wide .int,.int .i64,.int .i64,.int .i64]
 | .xL => [.int .i64,.wide .int]
 | .xM => [.int .i64,.int .i64,.int .i64,.int .i64,.int .i64,.wide .int]
 | .fc => [.int .u8,.int .u8,.int .u8,.bool]
 | .fO => [.int .u8,.int .u8,.bool,.bool]
 | .BH => [.int .u16,.int .i16,.int .i16,.int .i16]
 | .wx => [.int .i64,.int .i64]
 | .BI => [.int .i64,.int .i64,.int .i64,.int .i64,.int .i64,.int .i64]
 | .iu => [.bool,.int .u32,.int .u32,.int .u32,.int .u32,.int .u32,.int .u32,.int .u32,.int .u32,.int .u32,.int .u32,.int .u32,.int .u32,.int .u32,.int .u32,.int .u32,.int .u32]
 | .eJ => [.bool,.int .u32,.int .u32,.int .u32,.int .u32,.int .u32,.int .u32,.int .u32,.int .u32,.int .u32,.int .u32,.int .u32,.int .u32,.int .u32,.int .u32,.int .u32,.int .u32,.bool,.int .u32,.int .u32,.int .u32,.int .u32,.int .u32,.int .u32,.int .u32,.int .u32,.int .u32,.int .u32,.int .u32,.int .u32,.int .u32,.int .u32,.int .u32,.int .u32]
 | .ij => [.int .u8,.int .u8,.int .i16,.int .i16,.int .i16,.int .u16]
 | .BJ => [.int .u16,.int .u16,.int .u16,.int .u16,.int .u8]
def rS:List AV->Option (Unit->bj)
 | [.bool a0,.int .u32 a1,.int .u32 a2,.int .u32 a3,.int .u32 a4,.int .u32 a5,.int .u32 a6,.int .u32 a7,.int .u32 a8,.int .u32 a9,.int .u32 zT,.int .u32 zU,.int .u32 a12,.int .u32 a13,.int .u32 a14,.int .u32 a15,.int .u32 a16]=>some fun _=>⟨a0 (),a1 (),a2 (),a3 (),a4 (),a5 (),a6 (),a7 (),a8 (),a9 (),zT (),zU (),a12 (),a13 (),a14 (),a15 (),a16 ()⟩
 | _=>none
theorem wo{l:List AV}{x:Unit->bj}(h:rS l=some x):aO false .iu x=l/\aO true .iu x=l/\l.map AV.loose=l:=by
 unfold rS at h;split at h
 . injection h with h; subst h; exact⟨rfl,rfl,rfl⟩
 . cases h
def Jo:(t:Tc)->List AV->Option (Unit->t.el)
 | .int,[.int .i64 a0]=>some fun _=>a0 ()
 | .u8,[.int .u8 a0]=>some fun _=>a0 ()
 | .u32,[.int .u32 a0]=>some fun _=>a0 ()
 | .box,[.int .i64 a0,.str a1,.int .u8 a2,.bool a3,.int .i64 a4,.int .i64 a5,.int .i64 a6,.int .u8 a7,.bool a8]=>some fun _=>⟨a0 (),a1 (),a2 (),a3 (),a4 (),a5 (),a6 (),a7 (),a8 ()⟩
 | .aq,[.int .i64 a0,.int .i64 a1,.int .i64 a2,.int .u8 a3]=>some fun _=>⟨a0 (),a1 (),a2 (),a3 ()⟩
 | .slot,[.int .i64 a0,.int .i64 a1,.int .u8 a2]=>some fun _=>⟨a0 (),a1 (),a2 ()⟩
 | .ld,[.int .i64 a0,.int .i64 a1,.int .i64 a2,.int .i64 a3]=>some fun _=>⟨a0 (),a1 (),a2 (),a3 ()⟩
 | .pE,[.int .i64 a0,.int .i64 a1,.int .i64 a2]=>some fun _=>⟨a0 (),a1 (),a2 ()⟩
 | .ax,[.int .i64 a0,.int .i64 a1,.bool a2,.int .i64 a3,.int .i64 a4,.int .i64 a5,.int .i64 a6,.int .i64 a7,.sl _ .int a8,.int .i64 a9,.int .i64 zT,.int .i64 zU]=>some fun _=>⟨a0 (),a1 (),a2 (),a3 (),a4 (),a5 (),a6 (),a7 (),a8 (),a9 (),zT (),zU ()⟩
 | .e9,[.int .i64 a0,.sl _ .int a1]=>some fun _=>⟨a0 (),a1 ()⟩
 | .mid,[.int .i64 a0,.str a1,.int .u8 a2,.bool a3,.int .i64 a4,.int .i64 a5,.int .i64 a6,.int .u8 a7,.bool a8,.int .i64 a9,.int .i64 zT,.int .i64 zU]=>some fun _=>⟨⟨a0 (),a1 (),a2 (),a3 (),a4 (),a5 (),a6 (),a7 (),a8 ()⟩,a9 (),zT (),zU ()⟩
 | .bE,[.int .i64 a0,.int .i64 a1,.int .i64 a2,.int .i64 a3,.int .i64 a4]=>some fun _=>⟨a0 (),a1 (),a2 (),a3 (),a4 ()⟩
 | .sM,[.int .i64 a0,.int .i64 a1,.int .i64 a2,.int .i64 a3,.int .i64 a4]=>some fun _=>⟨a0 (),a1 (),a2 (),a3 (),a4 ()⟩
 | .bD,[.int .i64 a0,.int .i64 a1,.int .i64 a2,.int .i64 a3,.int .i64 a4,.sl _ .int a5]=>some fun _=>⟨a0 (),a1 (),a2 (),a3 (),a4 (),a5 ()⟩
 | .xK,[.int .i64 a0,.int .i64 a1,.bool a2,.int .i64 a3,.int .i64 a4,.int .i64 a5,.int .i64 a6,.int .i64 a7,.wide _ .int a8 a8N,.int .i64 a9,.int .i64 zT,.int .i64 zU]=>some fun _=>⟨a0 (),a1 (),a2 (),a3 (),a4 (),a5 (),a6 (),a7 (),a8 (),a8N (),a9 (),zT (),zU ()⟩
 | .xL,[.int .i64 a0,.wide _ .int a1 a1N]=>some fun _=>⟨a0 (),a1 (),a1N ()⟩
 | .xM,[.int .i64 a0,.int .i64 a1,.int .i64 a2,.int .i64 a3,.int .i64 a4,.wide _ .int a5 a5N]=>some fun _=>⟨a0 (),a1 (),a2 (),a3 (),a4 (),a5 (),a5N ()⟩
 | .fc,[.int .u8 a0,.int .u8 a1,.int .u8 a2,.bool a3]=>some fun _=>⟨a0 (),a1 (),a2 (),a3 ()⟩
 | .fO,[.int .u8 a0,.int .u8 a1,.bool a2,.bool a3]=>some fun _=>⟨a0 (),a1 (),a2 (),a3 ()⟩
 | .BH,[.int .u16 a0,.int .i16 a1,.int .i16 a2,.int .i16 a3]=>some fun _=>⟨a0 (),a1 (),a2 (),a3 ()⟩
 | .wx,[.int .i64 a0,.int .i64 a1]=>some fun _=>⟨a0 (),a1 ()⟩
 | .BI,[.int .i64 a0,.int .i64 a1,.int .i64 a2,.int .i64 a3,.int .i64 a4,.int .i64 a5]=>some fun _=>⟨a0 (),a1 (),a2 (),a3 (),a4 (),a5 ()⟩
 | .iu,l=>rS l
 | .eJ,l=>match rS (l.take 17),rS (l.drop 17) with
  | some a,some b=>some fun _=>⟨a (),b ()⟩
  | _,_=>none
 | .ij,[.int .u8 a0,.int .u8 a1,.int .i16 a2,.int .i16 a3,.int .i16 a4,.int .u16 a5]=>some fun _=>⟨a0 (),a1 (),a2 (),a3 (),a4 (),a5 ()⟩
 | .BJ,[.int .u16 a0,.int .u16 a1,.int .u16 a2,.int .u16 a3,.int .u8 a4]=>some fun _=>⟨a0 (),a1 (),a2 (),a3 (),a4 ()⟩
 | _,_=>none
theorem ajX{t:Tc}{l:List AV}{x:Unit->t.el}(h:Jo t l=some x):aO false t x=l.map AV.loose/\(AV.dO true l=true->aO true t x=l):=by
 unfold Jo at h;split at h
 case _=>injection h with h; subst h; refine⟨rfl,fun hp => ?_⟩; simp only [AV.dO,AV.plain,gA,ga,dL,fM] at hp; first|rfl|(subst hp; rfl)|simp_all
 case _=>injection h with h; subst h; refine⟨rfl,fun hp => ?_⟩; simp only [AV.dO,AV.plain,gA,ga,dL,fM] at hp; first|rfl|(subst hp; rfl)|simp_all
 case _=>injection h with h; subst h; refine⟨rfl,fun hp => ?_⟩; simp only [AV.dO,AV.plain,gA,ga,dL,fM] at hp; first|rfl|(subst hp; rfl)|simp_all
 case _=>injection h with h; subst h; refine⟨rfl,fun hp => ?_⟩; simp only [AV.dO,AV.plain,gA,ga,dL,fM] at hp; first|rfl|(subst hp; rfl)|simp_all
 case _=>injection h with h; subst h; refine⟨rfl,fun hp => ?_⟩; simp only [AV.dO,AV.plain,gA,ga,dL,fM] at hp; first|rfl|(subst hp; rfl)|simp_all
 case _=>injection h with h; subst h; refine⟨rfl,fun hp => ?_⟩; simp only [AV.dO,AV.plain,gA,ga,dL,fM] at hp; first|rfl|(subst hp; rfl)|simp_all
 case _=>injection h with h; subst h; refine⟨rfl,fun hp => ?_⟩; simp only [AV.dO,AV.plain,gA,ga,dL,fM] at hp; first|rfl|(subst hp; rfl)|simp_all
 case _=>injection h with h; subst h; refine⟨rfl,fun hp => ?_⟩; simp only [AV.dO,AV.plain,gA,ga,dL,fM] at hp; first|rfl|(subst hp; rfl)|simp_all
 case _=>injection h with h; subst h; refine⟨rfl,fun hp => ?_⟩; simp only [AV.dO,AV.plain,gA,ga,dL,fM] at hp; first|rfl|(subst hp; rfl)|simp_all
 case _=>injection h with h; subst h; refine⟨rfl,fun hp => ?_⟩; simp only [AV.dO,AV.plain,gA,ga,dL,fM] at hp; first|rfl|(subst hp; rfl)|simp_all
 case _=>injection h with h; subst h; refine⟨rfl,fun hp => ?_⟩; simp only [AV.dO,AV.plain,gA,ga,dL,fM] at hp; first|rfl|(subst hp; rfl)|simp_all
 case _=>injection h with h; subst h; refine⟨rfl,fun hp => ?_⟩; simp only [AV.dO,AV.plain,gA,ga,dL,fM] at hp; first|rfl|(subst hp; rfl)|simp_all
 case _=>injection h with h; subst h; refine⟨rfl,fun hp => ?_⟩; simp only [AV.dO,AV.plain,gA,ga,dL,fM] at hp; first|rfl|(subst hp; rfl)|simp_all
 case _=>injection h with h; subst h; refine⟨rfl,fun hp => ?_⟩; simp only [AV.dO,AV.plain,gA,ga,dL,fM] at hp; first|rfl|(subst hp; rfl)|simp_all
 case _=>injection h with h; subst h; refine⟨rfl,fun hp => ?_⟩; simp only [AV.dO,AV.plain,gA,ga,dL,fM] at hp; first|rfl|(subst hp; rfl)|simp_all
 case _=>injection h with h; subst h; refine⟨rfl,fun hp => ?_⟩; simp only [AV.dO,AV.plain,gA,ga,dL,fM] at hp; first|rfl|(subst hp; rfl)|simp_all
 case _=>injection h with h; subst h; refine⟨rfl,fun hp => ?_⟩; simp only [AV.dO,AV.plain,gA,ga,dL,fM] at hp; first|rfl|(subst hp; rfl)|simp_all
 case _=>injection h with h; subst h; refine⟨rfl,fun hp => ?_⟩; simp only [AV.dO,AV.plain,gA,ga,dL,fM] at hp; first|rfl|(subst hp; rfl)|simp_all
 case _=>injection h with h; subst h; refine⟨rfl,fun hp => ?_⟩; simp only [AV.dO,AV.plain,gA,ga,dL,fM] at hp; first|rfl|(subst hp; rfl)|simp_all
 case _=>injection h with h; subst h; refine⟨rfl,fun hp => ?_⟩; simp only [AV.dO,AV.plain,gA,ga,dL,fM] at hp; first|rfl|(subst hp; rfl)|simp_all
 case _=>injection h with h; subst h; refine⟨rfl,fun hp => ?_⟩; simp only [AV.dO,AV.plain,gA,ga,dL,fM] at hp; first|rfl|(subst hp; rfl)|simp_all
 case _=>injection h with h; subst h; refine⟨rfl,fun hp => ?_⟩; simp only [AV.dO,AV.plain,gA,ga,dL,fM] at hp; first|rfl|(subst hp; rfl)|simp_all
 case _=>have:=wo h; exact⟨by rw [this.1,this.2.2],fun _=>this.2.1⟩
 case _ =>
  split at h
  . rename_i a b ha hb;injection h with h;subst h;have h1:=wo ha;have h2:=wo hb;have e:∀ fr,aO fr .eJ (fun _=>⟨a (),b ()⟩)=aO fr .iu a++aO fr .iu b:=fun fr=>rfl;refine⟨?_,fun _ => ?_⟩
    . rw [e,h1.1,h2.1,jg]
      conv=>lhs; rw [<- jg 17 l,<- h1.2.2,<- h2.2.2,<- sC,jg]
    . rw [e,h1.2.1,h2.2.1,jg]
  . cases h
 case _=>injection h with h; subst h; refine⟨rfl,fun hp => ?_⟩; simp only [AV.dO,AV.plain,gA,ga,dL,fM] at hp; first|rfl|(subst hp; rfl)|simp_all
 case _=>injection h with h; subst h; refine⟨rfl,fun hp => ?_⟩; simp only [AV.dO,AV.plain,gA,ga,dL,fM] at hp; first|rfl|(subst hp; rfl)|simp_all
 case _=>cases h
-- END Oo
def norm:Sg->AV->Option AV
 | .int k,.int k' n=>if k=k' then some (.int k' n) else none
 | .int k,.lit k' n=>if k=k' then some (.int k' fun _=>n) else none
 | .bool,.bool b=>some (.bool b)
 | .bool,.aG b=>some (.bool fun _=>b)
 | .str,.str s=>some (.str s)
 | .sl t,.sl fr t' l=>if t=t' then some (.sl fr t' l) else none
 | .sl t,.nil=>some (.sl true t fun _ => [])
 | .sl t,.wide fr t' l n=>if t=t' then some (.sl fr t' fun _=>(l ()).take (n ())) else none
 | .wide t,.wide fr t' l n=>if t=t' then some (.wide fr t' l n) else none
 | .wide t,.sl fr t' l=>if t=t' then some (.wide fr t' l fun _=>(l ()).length) else none
 | .wide t,.nil=>some (.wide true t (fun _ => []) fun _=>0)
 | _,_=>none
def Jp:List Sg->List AV->Option (List AV)
 | [],[]=>some []
 | s::ss,x::xs=>match norm s x,Jp ss xs with
  | some y,some ys=>some (y::ys)
  | _,_=>none
 | _,_=>none
def cellsOf:AV->Option (List AV)
 | .agg cs=>some cs
 | .un=>none
 | .aU _=>none
 | x=>some [x]
def AV.one:AV->Bool
 | .un=>false
 | .agg _=>false
 | .aU _=>false
 | _=>true
def bF(d:Nat):List Nat->Bool
 | []=>false
 | k::l=>k==d||bF d l
def dI{α:Type}:List (Nat × α)->List Nat
 | [] => []
 | (k,_)::l=>k::dI l
def ni(n:Nat):List Nat->Nat
 | []=>n
 | k::l=>if k<n then ni n l else ni (k+1) l
def ye(ks:List Nat):Nat->Bool
 | 0=>true
 | n+1=>bF n ks&&ye ks n
structure Left (w w':World) (ρ ρ1:Nat->Option Rl) (ra eV:Nat->Prop) (es:List (Nat×En)) (fx:Bool):Prop where
 from_:OY ρ w w'
 en:∀ l e,ak es l=some e->c7 w' ρ1 w.heap.size eV l e
 apart:∀ l l' r r' b,l≠l' -> ρ1 l=some r -> ρ1 l'=some r'->r.ca=some b->r'.ca≠some b
 fresh:∀ l,bF l (dI es)=false -> ρ1 l=none
 own:∀ l r b,ρ1 l=some r->r.ca=some b->b<w'.heap.size/\¬ eV b/\(w.heap.size<=b\/∃ r0,ρ l=some r0/\r0.ca=some b)
 rd:∀ b,eV b->b<w'.heap.size/\(b<w.heap.size->ra b)
 dC:∀ l r,ρ l=some r->(r.dC||fx)=true -> ρ1 l=some r
structure Rez where
 pre:Unit->Prop
 av:AV
 es:List (Nat×En)
structure fk where
 f:FuncId
 sig:List Sg
 n:Nat
 go:List AV->List (Nat×En)->Option Rez
 fix:Bool:=false
def gp(P:Program)(c:fk):Prop :=
 (∀ args w,(callFunc c.f args).run P w = .ok (.enter c.f args) w) /\
 ∀ ai es res,c.go ai es=some res->∀ (w) (ρ) (ra) (dt),(∀ b,ra b->b<w.heap.size)->aQ w ρ 0 ra ai dt->(∀ l e,ak es l=some e->c7 w ρ 0 ra l e) ->
  (∀ l l' r r' b,l≠l' -> ρ l=some r -> ρ l'=some r'->r.ca=some b->r'.ca≠some b)->(∀ l,c.n<=l -> ρ l=none)->(∀ l r b,ρ l=some r->r.ca=some b->b<w.heap.size/\¬ ra b)->res.pre () ->
  Calls P c.f dt.toArray w fun e w'=>∃ v ρ1 eV,e = .returned v/\Left w w' ρ ρ1 ra eV res.es c.fix/\ah w' ρ1 w.heap.size eV res.av v
def zV:List fk->FuncId->Option fk
 | [],_=>none
 | c::cs,f=>if c.f==f then some c else zV cs f
def O5:List Sg->Bool
 | []=>false
 | .Oy _::_=>true
 | _::l=>O5 l
def jo:List fk->List Nat
 | [] => []
 | c::cs=>cond (O5 c.sig) (999999999::c.f::jo cs) (c.f::jo cs)
inductive mB where
 | nil
 | bad
 | op (i:Nat) (r:mB)
 | alt (a b:mB)
deriving DecidableEq
structure Nd where
 dn:List Nat
 ks:List Nat
 up:Nat×Nat
 ed:List (Nat×Nat×Nat)
structure yf where
 sg:List Nat
 row:List Nat
 pre:List Nat
 eO:List Nd
 post:List Nat
structure Cx where
 ty:kd
 cs:List aH
 tc:List (Nat×Tc)
 fs:List fk
 fz:List (Nat×List Nat) := []
 fx:Bool:=false
 kp:List (Nat×List Nat) := []
 sc:List (Nat×mB) := []
 ul:List Nat := []
 jn:List (Nat×List Nat) := []
 lt:List (Nat×yf) := []
 nb:Nat:=0
 ct:List Nat := []
 lY:List It := []
 yl:Option Yl:=none
def cb(C:Cx):List Nat:=match C.yl with
 | some _=>999999999::jo C.fs
 | none=>jo C.fs
/- zG arguments,zG cG axm wu -/
structure wv where
 aD:List Nat
 es:List (Nat×En)
mutual
def O6(ge:Nat->Option En):Sg->AV->wv->Option (AV×wv)
 | .any,_,st=>some (.un,st)
 | .zH t,.own loc,st=>match ge loc with
  | some (.row _ t' T l)=>if t=t'/\bF loc st.aD=false then some (.own st.aD.length,⟨st.aD ++ [loc],(st.aD.length,.row false t' T l)::st.es⟩) else none
  | _=>none
 | .El t,.own loc,st=>match ge loc with
  | some (.row _ t' T l)=>if t=t'/\bF loc st.aD=false then some (.cE t st.aD.length (fun _=>0) (fun _=>(l ()).length),⟨st.aD ++ [loc],(st.aD.length,.row false t' T l)::st.es⟩) else none
  | _=>none
 | .El t,.cE t2 loc a b,st=>match ge loc with
  | some (.row _ t' T l)=>if (t=t'/\t2=t)/\bF loc st.aD=false then some (.cE t2 st.aD.length a b,⟨st.aD ++ [loc],(st.aD.length,.row false t' T l)::st.es⟩) else none
  | _=>none
 | .ai6 c t,.mp loc,st=>match ge loc with
  | some (.map _ ag c' t' T m)=>if c=c'/\t=t'/\bF loc st.aD=false then some (.mp st.aD.length,⟨st.aD ++ [loc],(st.aD.length,.map false ag c' t' T m)::st.es⟩) else none
  | _=>none
 | .Oy l,.ptr loc 0,st=>match ge loc with
  | some (.box T cells)=>if bF loc st.aD then none else match EJ ge l cells ⟨st.aD ++ [loc],st.es⟩ with
   | some (ys,jq)=>some (.ptr st.aD.length 0,⟨jq.aD,(st.aD.length,.box T ys)::jq.es⟩)
   | none=>none
  | _=>none
 | s,x,st=>if AV.plain false x then (coerce ge s x).map fun y=>(y,st) else none
def EJ(ge:Nat->Option En):List Sg->List AV->wv->Option (List AV×wv)
 | [],[],st=>some ([],st)
 | s::ss,x::xs,st=>match O6 ge s x st with
  | some (y,uB)=>match EJ ge ss xs uB with
   | some (ys,O7)=>some (y::ys,O7)
   | none=>none
  | none=>none
 | _,_,_=>none
end
/- cG XU named wu -/
mutual
def AV.fU(g:Nat->Nat):AV->AV
 | .own l => .own (g l)
 | .cY t l k off => .cY t (g l) k off
 | .cE t l a b => .cE t (g l) a b
 | .ptr l off => .ptr (g l) off
 | .fw l off n => .fw (g l) off n
 | .mp l => .mp (g l)
 | .bq l => .bq (g l)
 | .it l l2 => .it (g l) (g l2)
 | .bg cs off => .bg (AV.oZ g cs) off
 | .agg cs => .agg (AV.oZ g cs)
 | .aU cs => .aU (AV.oZ g cs)
 | .fn f cs => .fn f (AV.oZ g cs)
 | x=>x
def AV.oZ(g:Nat->Nat):List AV->List AV
 | [] => []
 | x::l=>AV.fU g x::AV.oZ g l
end
def En.fU(g:Nat->Nat):En->En
 | .box T cs => .box T (AV.oZ g cs)
 | .iter ml c seen left => .iter (g ml) c seen left
 | .bq ml c key => .bq (g ml) c key
 | e=>e
def kA(g:Nat->Nat):List (Nat×En)->List (Nat×En)
 | [] => []
 | (k,e)::l=>(g k,En.fU g e)::kA g l
def iZ(aD:List Nat)(n k:Nat):Nat:=match aD[k]? with
 | some l=>l
 | none=>n+(k - aD.length)
def B7:List Nat->Sx->Sx
 | [],S=>S
 | l::ls,S=>B7 ls ⟨(kill l S).t,lA l (kill l S).e,S.n⟩
def B8:List Nat->Sx->Sx
 | [],S=>S
 | l::ls,S=>B8 ls ⟨S.t,lA l S.e,S.n⟩
def forget(fx:Bool)(ls:List Nat)(S:Sx):Sx:=cond fx (B8 ls S) (B7 ls S)
def uC(B:Bs):List Nat->Bool
 | []=>true
 | l::ls=>(ak B.e l).isNone&&quiet l B&&rR l B.e&&uC B ls
def B9(B:Bs)(g:Nat->Nat)(n:Nat):List Nat->Bool
 | []=>true
 | k::ks=>(decide (k<n)||(ak B.e (g k)).isNone)&&B9 B g n ks
def wy(t:Tc)(x:AV):Option (Bool×(Unit->t.el)) :=
 match cellsOf x with
 | some cs=>match Jp (B6 t) cs with
  | some ys=>(Jo t ys).map fun e=>(AV.dO true ys,e)
  | none=>none
 | none=>none
def Ca(t:Tc):List AV->Option (Bool×List (Unit->t.el))
 | []=>some (true,[])
 | x::l=>match wy t x,Ca t l with
  | some (f,e),some (g,es)=>some (f&&g,e::es)
  | _,_=>none
def zW:Nat->List (Nat×AV)->Option (List AV)
 | _,[]=>some []
 | k,(i,x)::l=>if i==k then (zW (k+1) l).map fun r=>x::r else none
def Tc.flat:Tc->Bool
 | .ax=>false
 | .e9=>false
 | .bD=>false
 | .xK=>false
 | .xL=>false
 | .xM=>false
 | _=>true
def O8(B:Bs)(S:Sx)(t:Tc):AV->Option (Bool×(Unit->List t.el))
 | .nil=>some (true,fun _ => [])
 | .sl fr t' l=>if h:t'=t then some (fr,h▸l) else none
 | .wide fr t' l n=>if h:t'=t then some (fr,fun _=>(h▸l ()).take (n ())) else none
 | .own loc=>match bc B S loc with
  | some (.row fr t' _ l)=>if h:t'=t then some (fr,h▸l) else none
  | _=>none
 | .cE t2 loc a b=>match bc B S loc with
  | some (.row fr t' _ l)=>if h:t'=t then (if t2.size==t.size then some (fr,fun _=>((h▸l ()).take (b ())).drop (a ())) else none) else none
  | _=>none
 | _=>none
def uD(B:Bs)(S:Sx)(t:Tc)(x:AV):Option (Bool×(Unit->List t.el)):=(O8 B S t x).map fun p=>(p.1||t.flat,p.2)
def fl{α:Type}(m:List Kx->Option α)(k:List Kx)(x : α):List Kx->Option α:=fun k'=>if k'=k then some x else m k'
def O9(ag:Bool):AV->Bool
 | .agg _=>ag
 | _ => !ag
def Cb(ag:Bool)(t:Tc)(x:AV):Option (Bool×(Unit->t.el)) :=
 if (ag||t.size==1)&&O9 ag x then wy t x else none
def Pa(n m:Unit->Nat)(b:Nat):List VC := [fun _=>(n ()+m ())*b<=140737488355328]
def Jq(t:Tc)(l:Unit->List t.el):Nat->List AV->Option (List AV)
 | _,[]=>some []
 | k,x::os=>match aO false t (fun _=>(l ()).getD k t.aa),x.asInt,Jq t l (k+1) os with
  | [.int kk z],some (k',o),some r=>if kk=k' then some (.int kk (fun _=>cond (decide (k<(l ()).length)) (z ()) (o ()))::r) else none
  | _,_,_=>none
def Pb(C:Cx)(N:Nat)(B:Bs)(S:Sx)(T d:Nat)(s x:AV):Option (Sx×List VC):=match fy C.ty T,s with
 | some (.slice _ 1 _),.fw loc off n=>match bc B S loc,x with
  | some (.box T' cells),.sl _ t l=>if (ak B.e loc).isNone&&decide (off+n<=cells.length)&&t.size==1 then match Jq t l 0 ((cells.drop off).take n) with
   | some cs=>(bP B ⟨S.t,(loc,.box T' (cells.take off++cs++cells.drop (off+n)))::S.e,S.n⟩ N d .un).map fun S'=>(S',[])
   | none=>none
   else none
  | _,_=>none
 | some (.slice e 1 _),.own loc=>match bc B S loc with
  | some (.row fr t e' l)=>if e'==e&&t.size==1&&(ak B.e loc).isNone then match uD B S t x with
   | some (f,m)=>if f || !fr then (bP B ⟨S.t,(loc,.row fr t e' fun _=>(m ()).take (l ()).length++(l ()).drop (m ()).length)::S.e,S.n⟩ N d .un).map fun S'=>(S',[]) else none
   | none=>none
   else none
  | _=>none
 | _,_=>none
def Jr(C:Cx)(N:Nat)(B:Bs)(S:Sx)(o:Oper):Option (Sx×List VC) :=
 match o.op with
 | .alloc T=>match ak C.ty T,o.dst with
  | some i,some d=>if i.z.isEmpty||(ak B.e S.n).isSome then none else (bP B ⟨S.t,(S.n,.box T i.z)::S.e,S.n+1⟩ N d (.ptr S.n 0)).map fun S'=>(S',[])
  | _,_=>none
 | .box T x=>match cellsOf (bT B S x),o.dst with
  | some cs,some d=>if (ak B.e S.n).isSome then none else (bP B ⟨S.t,(S.n,.box T cs)::S.e,S.n+1⟩ N d (.ptr S.n 0)).map fun S'=>(S',[])
  | _,_=>none
 | .store T ad x=>match ak C.ty T,cellsOf (bT B S x),bT B S ad,o.dst with
  | some i,some cs,.ptr loc off,none=>match bc B S loc with
   | some (.box T' cells)=>if cs.length==i.sz&&decide (off+i.sz<=cells.length)&&cs.all AV.one&&(ak B.e loc).isNone then some (⟨S.t,(loc,.box T' (cells.take off++cs++cells.drop (off+i.sz)))::S.e,S.n⟩,[]) else none
   | _=>none
  | some i,some cs,.cY t loc k off,none=>match bc B S loc with
   | some (.row fr t' T' l)=>if t=t' then
    if cs.length==i.sz&&decide (off+i.sz<=t'.size)&&cs.all AV.one&&(ak B.e loc).isNone then
     let BD:=aO fr t' fun _=>(l ()).getD (k ()).toNat t'.aa
     match wy t' (.agg (BD.take off++cs++BD.drop (off+i.sz))) with
     | some (f,e)=>if f || !fr then some (⟨S.t,(loc,.row fr t' T' fun _=>(l ()).set (k ()).toNat (e ()))::S.e,S.n⟩,[]) else none
     | none=>none
    else none
    else none
   | _=>none
  | _,_,_,_=>none
 | .buildSlice T len parts=>match fy C.ty T,o.dst with
  | some (.slice e sz _),some d=>match ak C.tc e with
   | some t=>match zW 0 (parts.toList.map fun p=>(p.1,bT B S p.2)) with
    | some xs=>match Ca t xs with
     | some (f,es)=>if t.size==sz&&es.length==len&&decide (len*sz<=16777216)&&(ak B.e S.n).isNone then (bP B ⟨S.t,(S.n,.row f t e fun _=>es.map fun g=>g ())::S.e,S.n+1⟩ N d (.own S.n)).map fun S'=>(S',[]) else none
     | none=>none
    | none=>none
   | none=>none
  | _,_=>none
 | .makeSlice T l c=>match fy C.ty T,o.dst with
  | some (.slice e sz b),some d=>match ak C.tc e with
   | some t=>match bT B S l,(bT B S c).asInt with
    | .lit _ 0,some (_,k)=>if t.size==sz&&(ak B.e S.n).isNone then (bP B ⟨S.t,(S.n,.row true t e fun _ => [])::S.e,S.n+1⟩ N d (.own S.n)).map fun S'=>(S',[fun _=>0<=k ()/\k ()*b<=281474976710656]) else none
    | .int _ n,some (_,k)=>match ak C.ty e with
     | some ie=>match wy t (.agg ie.z) with
      | some (f,x)=>if t.size==sz&&(ak B.e S.n).isNone && !ie.z.isEmpty then (bP B ⟨S.t,(S.n,.row f t e fun _=>List.replicate (n ()).toNat (x ()))::S.e,S.n+1⟩ N d (.own S.n)).map fun S'=>(S',[fun _=>0<=n ()/\n ()=k ()/\n ()*b<=281474976710656]) else none
      | none=>none
     | none=>none
    | _,_=>none
   | none=>none
  | _,_=>none
 | .makeMap T none=>match fy C.ty T,o.dst with
  | some (.map _ _ c t ag),some d=>if (ak B.e S.n).isSome then none else (bP B ⟨S.t,(S.n,.map true ag c t T fun _ _=>none)::S.e,S.n+1⟩ N d (.mp S.n)).map fun S'=>(S',[])
  | _,_=>none
 | .mapUpdate T x i v=>match fy C.ty T,bT B S x,o.dst with
  | some (.map _ _ c t ag),.mp loc,none=>match bc B S loc,xU c (bT B S i) with
   | some (.map fr jI c' t' T' m),some k=>if c'=c/\t'=t/\jI=ag then match Cb jI t' (bT B S v) with
    | some (f,e)=>if (ak B.e loc).isNone&&rR loc B.e then some (⟨S.t,(loc,.map (fr&&f) jI c' t' T' fun _=>fl (m ()) (k ()) (e ()))::lA loc S.e,S.n⟩,[]) else none
    | none=>none else none
   | _,_=>none
  | _,_,_=>none
 | .mapEntry T x i=>match fy C.ty T,bT B S x,o.dst with
  | some (.map _ _ c t ag),.mp loc,some d=>match bc B S loc,xU c (bT B S i) with
   | some (.map fr jI c' t' T' m),some k=>if c'=c/\t'=t/\jI=ag then if (ak B.e loc).isNone&&rR loc B.e&&(ak B.e S.n).isNone then
    (bP B ⟨S.t,(S.n,.bq loc c' k)::(loc,.map fr jI c' t' T' fun _=>fl (m ()) (k ()) ((m () (k ())).getD t'.aa))::lA loc S.e,S.n+1⟩ N d (.aU [eD jI fr t' fun _=>(m () (k ())).getD t'.aa,.bq S.n])).map fun S'=>(S',[]) else none else none
   | _,_=>none
  | _,_,_=>none
 | .entryStore _ x s v=>match bT B S x,bT B S s,o.dst with
  | .mp loc,.bq l2,none=>match bc B S loc,bc B S l2 with
   | some (.map fr ag c t T' m),some (.bq ml c' key)=>if ml=loc/\c'=c then match Cb ag t (bT B S v) with
    | some (f,e)=>if (ak B.e loc).isNone&&rR loc B.e then some (⟨S.t,(loc,.map (fr&&f) ag c t T' fun _=>fl (m ()) (key ()) (e ()))::lA loc S.e,S.n⟩,[]) else none
    | none=>none else none
   | _,_=>none
  | _,_,_=>none
 | .call c=>match c.callee,c.args.toList,c.argTypes.toList,o.dst with
  | .builtin .append,[s,x],[T,T2],some d=>if T==T2 then match fy C.ty T with
   | some (.slice e sz b)=>match bT B S s with
    | .own loc=>match bc B S loc with
     | some (.row fr t e' l)=>if e'==e&&t.size==sz&&(ak B.e loc).isNone&&quiet loc B && !C.fx then match uD B S t (bT B S x) with
      | some (f,m)=>if AV.has loc (bT B S x) then none else (bP B ⟨(kill loc S).t,(loc,.row (fr&&f) t e' fun _=>l ()++m ())::(kill loc S).e,S.n⟩ N d (.own loc)).map fun S'=>(S',Pa (fun _=>(l ()).length) (fun _=>(m ()).length) b)
      | none=>none
      else none
     | _=>none
    | .cE _ loc a0 b0=>match bc B S loc with
     | some (.row fr t e' l)=>if e'==e&&t.size==sz&&(ak B.e loc).isNone&&quiet loc B && !C.fx then match uD B S t (bT B S x) with
      | some (f,m)=>(bP B ⟨(kill loc S).t,(loc,.row (fr&&f) t e' fun _=>(l ()).take (b0 ())++m ())::(kill loc S).e,S.n⟩ N d (.own loc)).map fun S'=>(S',(fun _=>a0 ()=0)::Pa b0 (fun _=>(m ()).length) b)
      | none=>none
      else none
     | _=>none
    | .nil=>match ak C.tc e with
     | some t=>if t.size==sz&&(ak B.e S.n).isNone then match uD B S t (bT B S x) with
      | some (f,m)=>(bP B ⟨S.t,(S.n,.row f t e m)::S.e,S.n+1⟩ N d (.own S.n)).map fun S'=>(S',Pa (fun _=>0) (fun _=>(m ()).length) b)
      | none=>none
      else none
     | none=>none
    | _=>none
   | _=>none
   else none
  | .builtin .copy,[s,x],[T,_],some d=>Pb C N B S T d (bT B S s) (bT B S x)
  | _,_,_,_=>none
 | _=>none
def EK(C:Cx)(N:Nat)(B:Bs)(S:Sx)(o:Oper)(f:FuncId)(xs:List AV):Option (Sx×List VC) :=
 match zV C.fs f with
 | some fo=>match EJ (bc B S) fo.sig xs ⟨[],[]⟩ with
  | some (ai,st)=>match fo.go ai st.es with
   | some res=>if st.aD.length==fo.n&&uC B st.aD&&ye (dI res.es) fo.n&&B9 B (iZ st.aD S.n) fo.n (dI res.es)&&(fo.fix || !C.fx) then
    let S2:Sx:=⟨(forget fo.fix st.aD S).t,kA (iZ st.aD S.n) res.es++(forget fo.fix st.aD S).e,S.n+(ni fo.n (dI res.es) - fo.n)⟩
    match o.dst with
    | some d=>(bP B S2 N d (AV.fU (iZ st.aD S.n) res.av)).map fun S'=>(S',[res.pre])
    | none=>none
    else none
   | none=>none
  | none=>none
 | none=>none
def Cc(C:Cx)(N:Nat)(B:Bs)(S:Sx)(o:Oper):Option (Sx×List VC) :=
 match o.op with
 | .call c=>match c.callee with
  | .value (.func f)=>EK C N B S o f (c.args.toList.map (bT B S))
  | .value x=>match bF 999999999 (jo C.fs) with
   | true=>match bT B S x with
    | .fn f dw=>EK C N B S o f (c.args.toList.map (bT B S)++dw)
    | _=>none
   | false=>none
  | _=>none
 | _=>none
/- xP is new,or ajA at a place -/
mutual
def AV.pM:AV->Bool
 | .sl fr _ _=>fr
 | .wide fr _ _ _=>fr
 | .bg _ _=>false
 | .agg cs=>AV.uE cs
 | .aU cs=>AV.uE cs
 | .fn _ cs=>AV.uE cs
 | _=>true
def AV.uE:List AV->Bool
 | []=>true
 | x::l=>AV.pM x&&AV.uE l
end
def En.pM:En->Bool
 | .box _ cs=>AV.uE cs
 | .row fr _ _ _=>fr
 | .map fr _ _ _ _ _=>fr
 | _=>false
def Js:List (Nat×En)->Bool
 | []=>true
 | (_,e)::l=>En.pM e&&Js l
def EL(C:Cx)(N:Nat)(B:Bs)(S:Sx)(o:Oper):Option (Sx×List VC) :=
 match o.op with
 | .call c=>match c.callee with
  | .value (.func f)=>match zV C.fs f with
   | some fo=>match pF (bc B S) fo.sig (c.args.toList.map (bT B S)) with
    | some ai=>match fo.go ai [] with
     | some res=>if fo.n==0&&AV.pM res.av&&Js res.es&&B9 B (iZ [] S.n) 0 (dI res.es)&&(fo.fix || !C.fx) then
      match o.dst with
      | some d=>(bP B ⟨(forget fo.fix [] S).t,kA (iZ [] S.n) res.es++(forget fo.fix [] S).e,S.n+(ni 0 (dI res.es) - 0)⟩ N d (AV.fU (iZ [] S.n) res.av)).map fun S'=>(S',[res.pre])
      | none=>none
      else none
     | none=>none
    | none=>none
   | none=>none
  | _=>none
 | _=>none
/- a axn name is axo by xP it holds -/
mutual
def AV.wz(loc:Nat)(y:AV):AV->AV
 | .own l=>cond (l==loc) y (.own l)
 | .cY t l k off=>cond (l==loc) .un (.cY t l k off)
 | .cE t l a b=>cond (l==loc) .un (.cE t l a b)
 | .bg cs off => .bg (AV.rT loc y cs) off
 | .agg cs => .agg (AV.rT loc y cs)
 | .aU cs => .aU (AV.rT loc y cs)
 | .fn f cs => .fn f (AV.rT loc y cs)
 | x=>x
def AV.rT(loc:Nat)(y:AV):List AV->List AV
 | [] => []
 | x::l=>AV.wz loc y x::AV.rT loc y l
end
def EM(loc:Nat)(y:AV):List (Nat×AV)->List (Nat×AV)
 | [] => []
 | (d,x)::l=>(d,AV.wz loc y x)::EM loc y l
def XV(loc:Nat)(y:AV):En->En
 | .box T cs => .box T (AV.rT loc y cs)
 | e=>e
def zX(loc:Nat)(y:AV):List (Nat×En)->List (Nat×En)
 | [] => []
 | (k,e)::l=>cond (k==loc) (zX loc y l) ((k,XV loc y e)::zX loc y l)
def Pc(nb:Nat)(B:Bs)(S:Sx)(loc:Nat):Sx:=match bc B S loc with
 | some (.row fr t _ l)=>cond ((fr||decide (nb<=loc))&&((ak B.e loc).isNone&&quiet loc B)) ⟨EM loc (.sl fr t l) S.t,zX loc (.sl fr t l) S.e,S.n⟩ S
 | _=>S
def rU(nb:Nat)(B:Bs):List Nat->Sx->Sx
 | [],S=>S
 | l::ls,S=>rU nb B ls (Pc nb B S l)
def AV.Pf:List AV->List Nat
 | [] => []
 | .own l::r=>l::AV.Pf r
 | _::r=>AV.Pf r
def AV.owns:AV->List Nat
 | .own l => [l]
 | .agg cs=>AV.Pf cs
 | _ => []
def Pg:List AV->List Nat
 | [] => []
 | x::l=>AV.owns x++Pg l
def pN:List Nat->List (Nat×AV)->List (Nat×AV)
 | [],_ => []
 | d::ds,l=>match ak l d with
  | some x=>(d,x)::pN ds l
  | none=>pN ds l
def Jt:List (Nat×List Nat)->Nat->Option (List Nat)
 | [],_=>none
 | (k,l)::m,id=>cond (k==id) (some l) (Jt m id)
def Cd(C:Cx)(id:Nat)(S:Sx):Sx:=match Jt C.kp id with
 | none=>S
 | some ks=>⟨pN ks S.t,S.e,S.n⟩
def Ju(nb:Nat)(B:Bs)(S:Sx):Op->Sx
 | .buildSlice _ _ parts=>rU nb B (Pg (parts.toList.map fun p=>bT B S p.2)) S
 | .store _ ad x=>match bT B S ad with
  | .cY _ _ _ _=>rU nb B (AV.owns (bT B S x)) S
  | _=>S
 | .mapUpdate _ _ _ v=>rU nb B (AV.owns (bT B S v)) S
 | .entryStore _ _ _ v=>rU nb B (AV.owns (bT B S v)) S
 | _=>S
section
variable{w w0:World}{ρ:Nat->Option Rl}{base:Nat}{ro:Nat->Prop}{S0:Pm}{Φ : Pm->Prop}{N:Nat}{B:Bs}{S:Sx}{a:Act}
theorem Ce(loc)(y):∀ (l) (j:Nat),(AV.rT loc y l)[j]? = l[j]?.map (AV.wz loc y)
 | [],j=>by simp [AV.rT]
 | x::l,0=>by simp [AV.rT]
 | x::l,j+1=>by simp only [AV.rT,M1]; exact Ce loc y l j
theorem Ph(loc)(y):∀ (l),(AV.rT loc y l).length=l.length
 | []=>rfl
 | x::l=>by simp [AV.rT,Ph loc y l]
theorem Pj{loc d:Nat}{y:AV}:∀ (l),ak (EM loc y l) d=(ak l d).map (AV.wz loc y)
 | []=>rfl
 | (k,x)::l=>by
  simp only [EM,ak];split
  . rfl
  . exact Pj l
theorem Pk{loc d:Nat}{y:AV}:∀ (l),ak (zX loc y l) d=if d=loc then none else (ak l d).map (XV loc y)
 | []=>by simp [zX,ak]
 | (k,e)::l=>by
  have ih:=Pk (loc:=loc) (d:=d) (y:=y) l;simp only [zX]
  cases hk:k==loc with
  | true =>
   have fP:k=loc:=by simpa using hk
   simp only [eG,ak];rw [ih];split
   . rfl
   . rename_i hd;have:(k==d)=false:=by simp only [Na]; omega
     simp only [this,dS,dB]
  | false =>
   simp only [fG,ak];by_cases XW:k=d
   . subst XW;have:¬ k=loc:=by simpa using hk
     simp [this]
   . have ajZ:(k==d)=false:=by simpa using XW
     simp only [ajZ,dS,dB];exact ih
theorem EN{d:Nat}{x:AV}{l:List (Nat×AV)}:∀ {ds:List Nat},ak (pN ds l) d=some x->ak l d=some x
 | [],h=>by cases h
 | k::ds,h=>by
  unfold pN at h;split at h
  . rename_i y hy;simp only [ak] at h;split at h
    . rename_i hk;have fP:k=d:=by simpa using hk
      subst fP;rw [hy];exact h
    . exact EN h
  . exact EN h
theorem aj0(C)(id)(H:aP w0 Φ N B S a w):aP w0 Φ N B (Cd C id S) a w:=by
 unfold Cd;split
 . exact H
 . rename_i ks _;obtain⟨S0,hS,ρ,ro,H⟩:=H;refine⟨S0,hS,ρ,ro,H.from_,H.size,H.defers,H.gn,fun d x h=>H.tm d x ?_,H.en,H.apart,H.fresh,H.own,H.eN,H.dC,fun d x h => ?_,H.jM,H.fm⟩
   . unfold dH at h ⊢;dsimp only at h
     cases hp:ak (pN ks S.t) d with
     | some y =>
      rw [hp] at h;rw [EN hp];exact h
     | none =>
      rw [hp] at h;rw [H.jL d x h];exact h
   . exact XX
theorem ah.aj1{x:AV}{v:Value}{A:Option Addr}{y:AV}(h:ah w ρ base ro x v)(hr : ρ loc=some (.row A n c))(hy:ah w (fun l=>if l=loc then none else ρ l) base (fun b=>ro b\/A.map (·.block)=some b) y (.slice A n c)) :
 ah w (fun l=>if l=loc then none else ρ l) base (fun b=>ro b\/A.map (·.block)=some b) (AV.wz loc y x) v:=by
 have hρ:∀ l r,ρ l=some r->l≠loc->(fun l=>if l=loc then none else ρ l) l=some r:=fun l r h hl=>by simp only [ar hl]; exact h
 have o4:∀ l r,ρ l=some r->r.dC=true->l≠loc:=fun l r h h2 e=>by subst e; rw [hr] at h; cases h; cases h2
 induction h with
 | un=>exact .un _
 | fJ=>exact .fJ _
 | int=>exact .int _ _
 | lit=>exact .lit _ _
 | bool=>exact .bool _
 | aG=>exact .aG _
 | str=>exact .str _
 | nil=>exact .nil
 | sl fr t l A' c' css hl hc gS lr cK h ih =>
  refine .sl fr t l A' c' css hl hc gS (fun a ha hn => .inl (lr a ha hn)) cK fun k cs j x v k1 k2 k3 => ?_;have h1:=h k cs j x v k1 k2 k3;have h2:=mv (vZ fr t _ loc) k2;exact (h1.move (ρ':=fun l=>if l=loc then none else ρ l) h2 fun l r q1 q2=>hρ l r q1 (q2.elim id (o4 l r q1))).mono (fun _ _ _=>rfl) (Ext.refl _) (az _) fun _ hb => .inl hb
 | wide fr t l n A' c' hn h ih=>exact .wide fr t l n A' c' hn ih
 | bg cells off b o cs lr aj hl hc h ih =>
  refine .bg _ off b o cs (.inl lr) aj Jv hc fun j x v k1 k2 => ?_;rw [Ce] at k1;obtain⟨z,k3,rfl⟩:=kV.1 k1;exact ih j z v k3 k2
 | ptr l off b h=>exact .ptr _ _ _ (hρ _ _ h (o4 _ _ h rfl))
 | fw l off n b h=>exact .fw _ _ _ _ (hρ _ _ h (o4 _ _ h rfl))
 | own l A' n' c' h =>
  unfold AV.wz
  cases hl:l==loc with
  | true =>
   have:l=loc:=by simpa using hl
   subst this;rw [hr] at h;cases h;exact hy
  | false=>exact .own _ _ _ _ (hρ _ _ h (by simpa using hl))
 | cY t l k off A' n' c' b h hA h0 hn =>
  unfold AV.wz
  cases hl:l==loc with
  | true=>exact .un _
  | false=>exact .cY _ _ _ _ _ _ _ _ (hρ _ _ h (by simpa using hl)) hA h0 hn
 | cE t l a b A' n' c' h bm =>
  unfold AV.wz
  cases hl:l==loc with
  | true=>exact .un _
  | false=>exact .cE _ _ _ _ _ _ _ (hρ _ _ h (by simpa using hl)) bm
 | mp l b h=>exact .mp _ _ (hρ _ _ h (o4 _ _ h rfl))
 | bq l s h=>exact .bq _ _ (hρ _ _ h (o4 _ _ h rfl))
 | it l l2 b h=>exact .it _ _ _ (hρ _ _ h (o4 _ _ h rfl))
 | agg l vs hl h ih =>
  refine .agg _ _ Jv fun j x v k1 k2 => ?_;rw [Ce] at k1;obtain⟨z,k3,rfl⟩:=kV.1 k1;exact ih j z v k3 k2
 | aU l vs hl h ih =>
  refine .aU _ _ Jv fun j x v k1 k2 => ?_;rw [Ce] at k1;obtain⟨z,k3,rfl⟩:=kV.1 k1;exact ih j z v k3 k2
 | fn f dw vs hl h ih =>
  refine .fn f _ _ Jv fun j x v k1 k2 => ?_;rw [Ce] at k1;obtain⟨z,k3,rfl⟩:=kV.1 k1;exact ih j z v k3 k2
theorem aj2(cO:∀ S0,Φ S0->∀ l r,S0.pl l=some r->l<nb)(iJ:∀ S0,Φ S0->S0.fx=false)(H:aP w0 Φ N B S a w)(loc):aP w0 Φ N B (Pc nb B S loc) a w:=by
 obtain⟨S0,hS,ρ,ro,H⟩:=H;unfold Pc;split
 case h_2=>exact⟨S0,hS,ρ,ro,H⟩
 rename_i fr t T l he
 cases hc:(fr||decide (nb<=loc))&&((ak B.e loc).isNone&&quiet loc B) with
 | false=>exact⟨S0,hS,ρ,ro,H⟩
 | true =>
  rw [eG];simp only [au,iF] at hc;obtain⟨uo,hB,hq⟩:=hc;unfold quiet at hq;simp only [au] at hq;obtain⟨A,c,css,hA,bC,hlen,du⟩:=H.en _ _ he;have pO:∀ ad,A=some ad->w0.heap.size<=ad.block:=fun ad ha=>by
   cases fr with
   | true=>exact (bC.lt ha).1
   | false =>
    rcases (H.own loc _ ad.block hA (by rw [ha]; rfl)).2.2.1 with h|⟨r0,h1,_⟩
    . exact h
    . have:=cO S0 hS loc r0 h1;simp only [rB,aI] at uo;omega
  have Pn:=bC;obtain⟨y,hy⟩:∃ y,AV.sl fr t l=y:=⟨_,rfl⟩
  obtain⟨ρ',yg⟩:∃ ρ':Nat->Option Rl,ρ'=fun l=>if l=loc then none else ρ l:=⟨_,rfl⟩
  obtain⟨ro',Cf⟩:∃ ro':Nat->Prop,ro'=fun b=>ro b\/A.map (·.block)=some b:=⟨_,rfl⟩
  have hρ:∀ l r,ρ l=some r->l≠loc -> ρ' l=some r:=fun l r h hl=>by rw [yg]; simp only [ar hl]; exact h
  have o4:∀ l r,ρ l=some r->r.dC=true->l≠loc:=fun l r h h2 e=>by subst e; rw [hA] at h; cases h; cases h2
  have fi:∀ l r,ρ' l=some r -> ρ l=some r/\l≠loc:=fun l r h=>by
   rw [yg] at h;simp only at h;split at h
   . cases h
   . rename_i hl; exact⟨h,hl⟩
  have zY:∀ x v,ah w ρ w0.heap.size ro x v->AV.has loc x=false->ah w ρ' w0.heap.size ro' x v:=fun x v h hx=>(h.move (ρ' := ρ') hx fun l r q1 q2=>hρ l r q1 (q2.elim id (o4 l r q1))).mono (fun _ _ _=>rfl) (Ext.refl _) (az _) fun _ hb=>by rw [Cf]; exact .inl hb
  have iV:∀ b,A.map (·.block)=some b->w0.heap.size<=b/\b<w.heap.size:=fun b hb=>by
   obtain⟨ad,h1,h2⟩:=kV.1 hb;rw [<- h2];exact⟨pO ad h1,(Pn.lt h1).2⟩
  have Jc:ah w ρ' w0.heap.size ro' y (.slice A (l ()).length c):=by
   rw [<- hy];refine .sl fr t l A c css hlen Pn.cap.1 Pn.rd (fun ad ha _=>by rw [Cf]; exact .inr (by rw [ha]; rfl)) (fun _ ad ha _=>pO ad ha) fun k cs j x v k1 k2 k3=>zY x v (du k cs j x v k1 k2 k3) (mv (vZ fr t _ loc) k2)
  have cr:∀ x v,ah w ρ w0.heap.size ro x v->ah w ρ' w0.heap.size ro' (AV.wz loc y x) v:=fun x v h=>by
   rw [yg,Cf] at Jc ⊢;exact h.aj1 hA Jc
  have kC:∀ k e,c7 w ρ w0.heap.size ro k e->k≠loc->(∀ T cs,e = .box T cs->False)->c7 w ρ' w0.heap.size ro' k e:=fun k e h hk hb=>by
   cases e with
   | box T cs=>exact (hb T cs rfl).elim
   | row fr t T m =>
    obtain⟨A1,c1,aj3,k1,k2,k3,k4⟩:=h;exact⟨A1,c1,aj3,hρ _ _ k1 hk,k2,k3,fun i cs j x v q1 q2 q3=>zY x v (k4 i cs j x v q1 q2 q3) (mv (vZ fr t _ loc) q2)⟩
   | map fr ag c t T m =>
    obtain⟨b,es,clock,k1,k2,k3,k4⟩:=h;exact⟨b,es,clock,hρ _ _ k1 hk,k2,k3,k4.rQ fun x v hx=>zY _ v hx (O3 _ _ _ _ _)⟩
   | iter ml c seen left =>
    obtain⟨b,b2,es,clock,since,stamps,c0,k1,k2,k3⟩:=h;exact⟨b,b2,es,clock,since,stamps,c0,hρ _ _ k1 hk,hρ _ _ k2 (o4 _ _ k2 rfl),k3⟩
   | bq ml c key =>
    obtain⟨b,es,clock,s,e,k1,k2,k3⟩:=h;exact⟨b,es,clock,s,e,hρ _ _ k1 hk,hρ _ _ k2 (o4 _ _ k2 rfl),k3⟩
   | fh k=>exact hρ _ _ h hk
   | dead =>
    obtain⟨r,k1⟩:=h;exact⟨r,hρ _ _ k1 hk⟩
  refine⟨S0,hS,ρ',ro',H.from_,H.size,H.defers,fun b hb => ?_,fun d x h => ?_,fun k e h => ?_,fun k k' r r' b aT h1 h2=>H.apart k k' r r' b aT (fi _ _ h1).1 (fi _ _ h2).1,fun k hk => ?_,fun k r b h1 h2 => ?_,fun b hb => ?_,fun k r h1 h2 => ?_,fun d x h => ?_,fun k e h => ?_,H.fm⟩
  . rw [Cf] at hb;exact hb.elim (H.gn b) fun h=>(iV b h).2
  . unfold dH at h;dsimp only at h;rw [Pj] at h
    cases hd:ak S.t d with
    | none =>
     rw [hd] at h;obtain⟨u,h1,h2⟩:=H.tm d x (by unfold dH; rw [hd]; exact h);exact⟨u,h1,zY x u h2 (O0 hq.1 h)⟩
    | some z =>
     rw [hd] at h;simp only [dv,bI] at h;obtain⟨u,h1,h2⟩:=H.tm d z (by unfold dH; rw [hd]);refine⟨u,h1,?_⟩;rw [<- h,hy];exact cr z u h2
  . unfold bc at h;dsimp only at h;rw [Pk] at h;by_cases hk:k=loc
    . rw [aw hk,hk,hB] at h;cases h
    rw [ar hk] at h
    cases hd:ak S.e k with
    | none =>
     rw [hd] at h;have h1:=H.en k e (by unfold bc; rw [hd]; exact h)
     cases e with
     | box T cs =>
      obtain⟨b,us,k1,k4,k5⟩:=h1;exact⟨b,us,hρ _ _ k1 hk,k4,k5.1,fun j x v hx hv=>zY x v (k5.2 j x v hx hv) (mv (O1 hq.2 h) hx)⟩
     | row fr t T m=>exact kC _ _ h1 hk (fun _ _ h=>by cases h)
     | map fr ag c t T m=>exact kC _ _ h1 hk (fun _ _ h=>by cases h)
     | iter ml c seen left=>exact kC _ _ h1 hk (fun _ _ h=>by cases h)
     | bq ml c key=>exact kC _ _ h1 hk (fun _ _ h=>by cases h)
     | fh k=>exact kC _ _ h1 hk (fun _ _ h=>by cases h)
     | dead=>exact kC _ _ h1 hk (fun _ _ h=>by cases h)
    | some z =>
     rw [hd] at h;simp only [dv,bI] at h;have h1:=H.en k z (by unfold bc; rw [hd]);rw [<- h,hy]
     cases z with
     | box T cs =>
      obtain⟨b,us,k1,k4,k5⟩:=h1;refine⟨b,us,hρ _ _ k1 hk,k4,by rw [Ph]; exact k5.1,fun j x v hx hv => ?_⟩;rw [Ce] at hx;obtain⟨z,k3,rfl⟩:=kV.1 hx;exact cr z v (k5.2 j z v k3 hv)
     | row fr t T m=>exact kC _ _ h1 hk (fun _ _ h=>by cases h)
     | map fr ag c t T m=>exact kC _ _ h1 hk (fun _ _ h=>by cases h)
     | iter ml c seen left=>exact kC _ _ h1 hk (fun _ _ h=>by cases h)
     | bq ml c key=>exact kC _ _ h1 hk (fun _ _ h=>by cases h)
     | fh k=>exact kC _ _ h1 hk (fun _ _ h=>by cases h)
     | dead=>exact kC _ _ h1 hk (fun _ _ h=>by cases h)
  . have h1:=H.fresh k hk;rw [yg];simp only [h1];split<;>rfl
  . obtain⟨h3,h4⟩:=fi _ _ h1;have h5:=H.own k r b h3 h2;refine⟨h5.1,fun hb => ?_,h5.2.2⟩;rw [Cf] at hb;rcases hb with hb|hb
    . exact h5.2.1 hb
    . exact H.apart k loc r _ b h4 h3 hA h2 hb
  . rw [Cf] at hb;rcases hb with hb|hb
    . exact H.eN b hb
    . exact⟨fun aj=>by have:=(iV b hb).1; omega,fun ho=>(H.own loc _ b hA hb).2.2.2 (S0.yc b ho)⟩
  . have h3:=H.dC k r h1 h2;rw [iJ S0 hS,fM] at h2;exact hρ _ _ h3 (o4 _ _ h3 h2)
  . show ak (EM loc _ S.t) d=none
    rw [Pj,H.jL d x h];rfl
  . show ak (zX loc _ S.e) k=none
    rw [Pk,H.jM k e h];split<;>rfl
theorem zZ{nb:Nat}(cO:∀ S0,Φ S0->∀ l r,S0.pl l=some r->l<nb)(iJ:∀ S0,Φ S0->S0.fx=false):∀ {ls:List Nat} {S:Sx},aP w0 Φ N B S a w->aP w0 Φ N B (rU nb B ls S) a w
 | [],_,H=>H
 | l::ls,_,H=>zZ cO iJ (ls:=ls) (aj2 cO iJ H l)
theorem aj4(cO:∀ S0,Φ S0->∀ l r,S0.pl l=some r->l<nb)(iJ:∀ S0,Φ S0->S0.fx=false)(H:aP w0 Φ N B S a w)(op):aP w0 Φ N B (Ju nb B S op) a w:=by
 unfold Ju;split
 . exact zZ cO iJ H
 . split
   . exact zZ cO iJ H
   . exact H
 . exact zZ cO iJ H
 . exact zZ cO iJ H
 . exact H
end
end Go.Proofs.YtlpikgchnjajmaaGreat
