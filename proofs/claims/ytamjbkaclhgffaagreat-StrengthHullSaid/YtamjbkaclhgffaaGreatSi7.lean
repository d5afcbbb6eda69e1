/-
  The abstract run: operations that make a place, write one, or let one grow; they are sound.
-/
import Derived.Test.YtamjbkaclhgffaaGreatSi6
set_option linter.all false
namespace Go.Proofs.YtamjbkaclhgffaaGreat
open Go.RowKit
variable{c loc n nb:Nat}
-- O1
def CI:Tc->List Sg
 | .int => [.int .i64]
 | .u8 => [.int .u8]
 | .u32 => [.int .u32]
 | .box => [.int .i64,.str,.int .u8,.bool,.int .i64,.int .i64,.int .i64,.int .u8,.bool]
 | .al => [.int .i64,.int .i64,.int .i64,.int .u8]
 | .slot => [.int .i64,.int .i64,.int .u8]
 | .ld => [.int .i64,.int .i64,.int .i64,.int .i64]
 | .pA => [.int .i64,.int .i64,.int .i64]
 | .au => [.int .i64,.int .i64,.bool,.int .i64,.int .i64,.int .i64,.int .i64,.int .i64,.sl .int,.int .i64,.int .i64,.int .i64]
 | .eQ => [.int .i64,.sl .int]
 | .mid => [.int .i64,.str,.int .u8,.bool,.int .i64,.int .i64,.int .i64,.int .u8,.bool,.int .i64,.int .i64,.int .i64]
 | .fU => [.int .i64,.int .i64,.int .i64,.int .i64,.int .i64]
 | .bZ => [.int .i64,.int .i64,.int .i64,.int .i64,.int .i64]
 | .di => [.int .i64,.int .i64,.int .i64,.int .i64,.int .i64,.sl .int]
 | .xT => [.int .i64,.int .i64,.bool,.int .i64,.int .i64,.int .i64,.int .i64,.int .i64,.wide .int,.int .i64,.int .i64,.int .i64]
 | .xU => [.int .i64,.wide .int]
 | .xV => [.int .i64,.int .i64,.int .i64,.int .i64,.int .i64,.wide .int]
 | .fp => [.int .u8,.int .u8,.int .u8,.bool]
 | .gq => [.int .u8,.int .u8,.bool,.bool]
 | .Cp => [.int .u16,.int .i16,.int .i16,.int .i16]
 | .wx => [.int .i64,.int .i64]
 | .qw => [.int .i64,.int .i64,.int .i64,.int .i64,.int .i64,.int .i64]
 | .kZ => [.bool,.int .u32,.int .u32,.int .u32,.int .u32,.int .u32,.int .u32,.int .u32,.int .u32,.int .u32,.int .u32,.int .u32,.int .u32,.int .u32,.int .u32,.int .u32,.int .u32]
 | .cr => [.bool,.int .u32,.int .u32,.int .u32,.int .u32,.int .u32,.int .u32,.int .u32,.int .u32,.int .u32,.int .u32,.int .u32,.int .u32,.int .u32,.int .u32,.int .u32,.int .u32,.bool,.int .u32,.int .u32,.int .u32,.int .u32,.int .u32,.int .u32,.int .u32,.int .u32,.int .u32,.int .u32,.int .u32,.int .u32,.int .u32,.int .u32,.int .u32,.int .u32]
 | .iF => [.int .u8,.int .u8,.int .i16,.int .i16,.int .i16,.int .u16]
 | .j5 => [.int .u16,.int .u16,.int .u16,.int .u16,.int .u8]
def wu:List AV->Option (Unit->bB)
 | [.bool a0,.int .u32 a1,.int .u32 a2,.int .u32 a3,.int .u32 a4,.int .u32 a5,.int .u32 a6,.int .u32 a7,.int .u32 a8,.int .u32 a9,.int .u32 yq,.int .u32 Aa,.int .u32 a12,.int .u32 a13,.int .u32 a14,.int .u32 a15,.int .u32 a16]=>some fun _=>⟨a0 (),a1 (),a2 (),a3 (),a4 (),a5 (),a6 (),a7 (),a8 (),a9 (),yq (),Aa (),a12 (),a13 (),a14 (),a15 (),a16 ()⟩
 | _=>none
theorem Ab{l:List AV}{x:Unit->bB}(h:wu l=some x):aP false .kZ x=l/\aP true .kZ x=l/\l.map AV.loose=l:=by
 unfold wu at h;split at h
 . injection h with h; subst h; exact⟨rfl,rfl,rfl⟩
 . cases h
def J4:(t:Tc)->List AV->Option (Unit->t.el)
 | .int,[.int .i64 a0]=>some fun _=>a0 ()
 | .u8,[.int .u8 a0]=>some fun _=>a0 ()
 | .u32,[.int .u32 a0]=>some fun _=>a0 ()
 | .box,[.int .i64 a0,.str a1,.int .u8 a2,.bool a3,.int .i64 a4,.int .i64 a5,.int .i64 a6,.int .u8 a7,.bool a8]=>some fun _=>⟨a0 (),a1 (),a2 (),a3 (),a4 (),a5 (),a6 (),a7 (),a8 ()⟩
 | .al,[.int .i64 a0,.int .i64 a1,.int .i64 a2,.int .u8 a3]=>some fun _=>⟨a0 (),a1 (),a2 (),a3 ()⟩
 | .slot,[.int .i64 a0,.int .i64 a1,.int .u8 a2]=>some fun _=>⟨a0 (),a1 (),a2 ()⟩
 | .ld,[.int .i64 a0,.int .i64 a1,.int .i64 a2,.int .i64 a3]=>some fun _=>⟨a0 (),a1 (),a2 (),a3 ()⟩
 | .pA,[.int .i64 a0,.int .i64 a1,.int .i64 a2]=>some fun _=>⟨a0 (),a1 (),a2 ()⟩
 | .au,[.int .i64 a0,.int .i64 a1,.bool a2,.int .i64 a3,.int .i64 a4,.int .i64 a5,.int .i64 a6,.int .i64 a7,.sl _ .int a8,.int .i64 a9,.int .i64 yq,.int .i64 Aa]=>some fun _=>⟨a0 (),a1 (),a2 (),a3 (),a4 (),a5 (),a6 (),a7 (),a8 (),a9 (),yq (),Aa ()⟩
 | .eQ,[.int .i64 a0,.sl _ .int a1]=>some fun _=>⟨a0 (),a1 ()⟩
 | .mid,[.int .i64 a0,.str a1,.int .u8 a2,.bool a3,.int .i64 a4,.int .i64 a5,.int .i64 a6,.int .u8 a7,.bool a8,.int .i64 a9,.int .i64 yq,.int .i64 Aa]=>some fun _=>⟨⟨a0 (),a1 (),a2 (),a3 (),a4 (),a5 (),a6 (),a7 (),a8 ()⟩,a9 (),yq (),Aa ()⟩
 | .fU,[.int .i64 a0,.int .i64 a1,.int .i64 a2,.int .i64 a3,.int .i64 a4]=>some fun _=>⟨a0 (),a1 (),a2 (),a3 (),a4 ()⟩
 | .bZ,[.int .i64 a0,.int .i64 a1,.int .i64 a2,.int .i64 a3,.int .i64 a4]=>some fun _=>⟨a0 (),a1 (),a2 (),a3 (),a4 ()⟩
 | .di,[.int .i64 a0,.int .i64 a1,.int .i64 a2,.int .i64 a3,.int .i64 a4,.sl _ .int a5]=>some fun _=>⟨a0 (),a1 (),a2 (),a3 (),a4 (),a5 ()⟩
 | .xT,[.int .i64 a0,.int .i64 a1,.bool a2,.int .i64 a3,.int .i64 a4,.int .i64 a5,.int .i64 a6,.int .i64 a7,.wide _ .int a8 a8N,.int .i64 a9,.int .i64 yq,.int .i64 Aa]=>some fun _=>⟨a0 (),a1 (),a2 (),a3 (),a4 (),a5 (),a6 (),a7 (),a8 (),a8N (),a9 (),yq (),Aa ()⟩
 | .xU,[.int .i64 a0,.wide _ .int a1 a1N]=>some fun _=>⟨a0 (),a1 (),a1N ()⟩
 | .xV,[.int .i64 a0,.int .i64 a1,.int .i64 a2,.int .i64 a3,.int .i64 a4,.wide _ .int a5 a5N]=>some fun _=>⟨a0 (),a1 (),a2 (),a3 (),a4 (),a5 (),a5N ()⟩
 | .fp,[.int .u8 a0,.int .u8 a1,.int .u8 a2,.bool a3]=>some fun _=>⟨a0 (),a1 (),a2 (),a3 ()⟩
 | .gq,[.int .u8 a0,.int .u8 a1,.bool a2,.bool a3]=>some fun _=>⟨a0 (),a1 (),a2 (),a3 ()⟩
 | .Cp,[.int .u16 a0,.int .i16 a1,.int .i16 a2,.int .i16 a3]=>some fun _=>⟨a0 (),a1 (),a2 (),a3 ()⟩
 | .wx,[.int .i64 a0,.int .i64 a1]=>some fun _=>⟨a0 (),a1 ()⟩
 | .qw,[.int .i64 a0,.int .i64 a1,.int .i64 a2,.int .i64 a3,.int .i64 a4,.int .i64 a5]=>some fun _=>⟨a0 (),a1 (),a2 (),a3 (),a4 (),a5 ()⟩
 | .kZ,l=>wu l
 | .cr,l=>match wu (l.take 17),wu (l.drop 17) with
  | some a,some b=>some fun _=>⟨a (),b ()⟩
  | _,_=>none
 | .iF,[.int .u8 a0,.int .u8 a1,.int .i16 a2,.int .i16 a3,.int .i16 a4,.int .u16 a5]=>some fun _=>⟨a0 (),a1 (),a2 (),a3 (),a4 (),a5 ()⟩
 | .j5,[.int .u16 a0,.int .u16 a1,.int .u16 a2,.int .u16 a3,.int .u8 a4]=>some fun _=>⟨a0 (),a1 (),a2 (),a3 (),a4 ()⟩
 | _,_=>none
theorem alL{t:Tc}{l:List AV}{x:Unit->t.el}(h:J4 t l=some x):aP false t x=l.map AV.loose/\(AV.dJ true l=true->aP true t x=l):=by
 unfold J4 at h;split at h
 case _=>injection h with h; subst h; refine⟨rfl,fun hp => ?_⟩; simp only [AV.dJ,AV.plain,gg,ib,eu,fS] at hp; first|rfl|(subst hp; rfl)|simp_all
 case _=>injection h with h; subst h; refine⟨rfl,fun hp => ?_⟩; simp only [AV.dJ,AV.plain,gg,ib,eu,fS] at hp; first|rfl|(subst hp; rfl)|simp_all
 case _=>injection h with h; subst h; refine⟨rfl,fun hp => ?_⟩; simp only [AV.dJ,AV.plain,gg,ib,eu,fS] at hp; first|rfl|(subst hp; rfl)|simp_all
 case _=>injection h with h; subst h; refine⟨rfl,fun hp => ?_⟩; simp only [AV.dJ,AV.plain,gg,ib,eu,fS] at hp; first|rfl|(subst hp; rfl)|simp_all
 case _=>injection h with h; subst h; refine⟨rfl,fun hp => ?_⟩; simp only [AV.dJ,AV.plain,gg,ib,eu,fS] at hp; first|rfl|(subst hp; rfl)|simp_all
 case _=>injection h with h; subst h; refine⟨rfl,fun hp => ?_⟩; simp only [AV.dJ,AV.plain,gg,ib,eu,fS] at hp; first|rfl|(subst hp; rfl)|simp_all
 case _=>injection h with h; subst h; refine⟨rfl,fun hp => ?_⟩; simp only [AV.dJ,AV.plain,gg,ib,eu,fS] at hp; first|rfl|(subst hp; rfl)|simp_all
 case _=>injection h with h; subst h; refine⟨rfl,fun hp => ?_⟩; simp only [AV.dJ,AV.plain,gg,ib,eu,fS] at hp; first|rfl|(subst hp; rfl)|simp_all
 case _=>injection h with h; subst h; refine⟨rfl,fun hp => ?_⟩; simp only [AV.dJ,AV.plain,gg,ib,eu,fS] at hp; first|rfl|(subst hp; rfl)|simp_all
 case _=>injection h with h; subst h; refine⟨rfl,fun hp => ?_⟩; simp only [AV.dJ,AV.plain,gg,ib,eu,fS] at hp; first|rfl|(subst hp; rfl)|simp_all
 case _=>injection h with h; subst h; refine⟨rfl,fun hp => ?_⟩; simp only [AV.dJ,AV.plain,gg,ib,eu,fS] at hp; first|rfl|(subst hp; rfl)|simp_all
 case _=>injection h with h; subst h; refine⟨rfl,fun hp => ?_⟩; simp only [AV.dJ,AV.plain,gg,ib,eu,fS] at hp; first|rfl|(subst hp; rfl)|simp_all
 case _=>injection h with h; subst h; refine⟨rfl,fun hp => ?_⟩; simp only [AV.dJ,AV.plain,gg,ib,eu,fS] at hp; first|rfl|(subst hp; rfl)|simp_all
 case _=>injection h with h; subst h; refine⟨rfl,fun hp => ?_⟩; simp only [AV.dJ,AV.plain,gg,ib,eu,fS] at hp; first|rfl|(subst hp; rfl)|simp_all
 case _=>injection h with h; subst h; refine⟨rfl,fun hp => ?_⟩; simp only [AV.dJ,AV.plain,gg,ib,eu,fS] at hp; first|rfl|(subst hp; rfl)|simp_all
 case _=>injection h with h; subst h; refine⟨rfl,fun hp => ?_⟩; simp only [AV.dJ,AV.plain,gg,ib,eu,fS] at hp; first|rfl|(subst hp; rfl)|simp_all
 case _=>injection h with h; subst h; refine⟨rfl,fun hp => ?_⟩; simp only [AV.dJ,AV.plain,gg,ib,eu,fS] at hp; first|rfl|(subst hp; rfl)|simp_all
 case _=>injection h with h; subst h; refine⟨rfl,fun hp => ?_⟩; simp only [AV.dJ,AV.plain,gg,ib,eu,fS] at hp; first|rfl|(subst hp; rfl)|simp_all
 case _=>injection h with h; subst h; refine⟨rfl,fun hp => ?_⟩; simp only [AV.dJ,AV.plain,gg,ib,eu,fS] at hp; first|rfl|(subst hp; rfl)|simp_all
 case _=>injection h with h; subst h; refine⟨rfl,fun hp => ?_⟩; simp only [AV.dJ,AV.plain,gg,ib,eu,fS] at hp; first|rfl|(subst hp; rfl)|simp_all
 case _=>injection h with h; subst h; refine⟨rfl,fun hp => ?_⟩; simp only [AV.dJ,AV.plain,gg,ib,eu,fS] at hp; first|rfl|(subst hp; rfl)|simp_all
 case _=>injection h with h; subst h; refine⟨rfl,fun hp => ?_⟩; simp only [AV.dJ,AV.plain,gg,ib,eu,fS] at hp; first|rfl|(subst hp; rfl)|simp_all
 case _=>have:=Ab h; exact⟨by rw [this.1,this.2.2],fun _=>this.2.1⟩
 case _ =>
  split at h
  . rename_i a b ha hb;injection h with h;subst h;have h1:=Ab ha;have h2:=Ab hb;have e:∀ fr,aP fr .cr (fun _=>⟨a (),b ()⟩)=aP fr .kZ a++aP fr .kZ b:=fun fr=>rfl;refine⟨?_,fun _ => ?_⟩
    . rw [e,h1.1,h2.1,jB]
      conv=>lhs; rw [<- jB 17 l,<- h1.2.2,<- h2.2.2,<- jg,jB]
    . rw [e,h1.2.1,h2.2.1,jB]
  . cases h
 case _=>injection h with h; subst h; refine⟨rfl,fun hp => ?_⟩; simp only [AV.dJ,AV.plain,gg,ib,eu,fS] at hp; first|rfl|(subst hp; rfl)|simp_all
 case _=>injection h with h; subst h; refine⟨rfl,fun hp => ?_⟩; simp only [AV.dJ,AV.plain,gg,ib,eu,fS] at hp; first|rfl|(subst hp; rfl)|simp_all
 case _=>cases h
-- END O1
def norm:Sg->AV->Option AV
 | .int k,.int k' n=>if k=k' then some (.int k' n) else none
 | .int k,.lit k' n=>if k=k' then some (.int k' fun _=>n) else none
 | .bool,.bool b=>some (.bool b)
 | .bool,.aR b=>some (.bool fun _=>b)
 | .str,.str s=>some (.str s)
 | .sl t,.sl fr t' l=>if t=t' then some (.sl fr t' l) else none
 | .sl t,.nil=>some (.sl true t fun _ => [])
 | .sl t,.wide fr t' l n=>if t=t' then some (.sl fr t' fun _=>(l ()).take (n ())) else none
 | .wide t,.wide fr t' l n=>if t=t' then some (.wide fr t' l n) else none
 | .wide t,.sl fr t' l=>if t=t' then some (.wide fr t' l fun _=>(l ()).length) else none
 | .wide t,.nil=>some (.wide true t (fun _ => []) fun _=>0)
 | _,_=>none
def J5:List Sg->List AV->Option (List AV)
 | [],[]=>some []
 | s::ss,x::xs=>match norm s x,J5 ss xs with
  | some y,some ys=>some (y::ys)
  | _,_=>none
 | _,_=>none
def cellsOf:AV->Option (List AV)
 | .agg cs=>some cs
 | .un=>none
 | .ba _=>none
 | x=>some [x]
def AV.one:AV->Bool
 | .un=>false
 | .agg _=>false
 | .ba _=>false
 | _=>true
def bD(d:Nat):List Nat->Bool
 | []=>false
 | k::l=>k==d||bD d l
def dE{α:Type}:List (Nat × α)->List Nat
 | [] => []
 | (k,_)::l=>k::dE l
def m7(n:Nat):List Nat->Nat
 | []=>n
 | k::l=>if k<n then m7 n l else m7 (k+1) l
def yr(ks:List Nat):Nat->Bool
 | 0=>true
 | n+1=>bD n ks&&yr ks n
structure Left (w w':World) (ρ ρ1:Nat->Option Rl) (ra fc:Nat->Prop) (es:List (Nat×En)) (fx:Bool):Prop where
 from_:PE ρ w w'
 en:∀ l e,aj es l=some e->c9 w' ρ1 w.heap.size fc l e
 apart:∀ l l' r r' b,l≠l' -> ρ1 l=some r -> ρ1 l'=some r'->r.b8=some b->r'.b8≠some b
 fresh:∀ l,bD l (dE es)=false -> ρ1 l=none
 own:∀ l r b,ρ1 l=some r->r.b8=some b->b<w'.heap.size/\¬ fc b/\(w.heap.size<=b\/∃ r0,ρ l=some r0/\r0.b8=some b)
 rd:∀ b,fc b->b<w'.heap.size/\(b<w.heap.size->ra b)
 dz:∀ l r,ρ l=some r->(r.dz||fx)=true -> ρ1 l=some r
structure Rez where
 pre:Unit->Prop
 av:AV
 es:List (Nat×En)
structure fO where
 f:FuncId
 sig:List Sg
 n:Nat
 go:List AV->List (Nat×En)->Option Rez
 fix:Bool:=false
def ij(P:Program)(c:fO):Prop :=
 (∀ args w,(callFunc c.f args).run P w = .ok (.enter c.f args) w) /\
 ∀ ai es res,c.go ai es=some res->∀ (w) (ρ) (ra) (dM),(∀ b,ra b->b<w.heap.size)->aV w ρ 0 ra ai dM->(∀ l e,aj es l=some e->c9 w ρ 0 ra l e) ->
  (∀ l l' r r' b,l≠l' -> ρ l=some r -> ρ l'=some r'->r.b8=some b->r'.b8≠some b)->(∀ l,c.n<=l -> ρ l=none)->(∀ l r b,ρ l=some r->r.b8=some b->b<w.heap.size/\¬ ra b)->res.pre () ->
  Calls P c.f dM.toArray w fun e w'=>∃ v ρ1 fc,e = .returned v/\Left w w' ρ ρ1 ra fc res.es c.fix/\af w' ρ1 w.heap.size fc res.av v
def Ac:List fO->FuncId->Option fO
 | [],_=>none
 | c::cs,f=>if c.f==f then some c else Ac cs f
def kn:List fO->List Nat
 | [] => []
 | c::cs=>c.f::kn cs
inductive mm where
 | nil
 | bad
 | op (i:Nat) (r:mm)
 | alt (a b:mm)
deriving DecidableEq
structure Nd where
 dn:List Nat
 ks:List Nat
 up:Nat×Nat
 ed:List (Nat×Nat×Nat)
structure yu where
 sg:List Nat
 row:List Nat
 pre:List Nat
 ez:List Nd
 post:List Nat
structure Cx where
 ty:j9
 cs:List aN
 tc:List (Nat×Tc)
 fs:List fO
 fz:List (Nat×List Nat) := []
 fx:Bool:=false
 kp:List (Nat×List Nat) := []
 sc:List (Nat×mm) := []
 ul:List Nat := []
 jn:List (Nat×List Nat) := []
 lt:List (Nat×yu) := []
 nb:Nat:=0
 ct:List Nat := []
 lQ:List It := []
 yl:Option Yl:=none
def ca(C:Cx):List Nat:=match C.yl with
 | some _=>999999999::kn C.fs
 | none=>kn C.fs
/- zR arguments,zR PL azy wv -/
structure wy where
 aG:List Nat
 es:List (Nat×En)
mutual
def PM(ge:Nat->Option En):Sg->AV->wy->Option (AV×wy)
 | .any,_,st=>some (.un,st)
 | .zS t,.own loc,st=>match ge loc with
  | some (.row _ t' T l)=>if t=t'/\bD loc st.aG=false then some (.own st.aG.length,⟨st.aG ++ [loc],(st.aG.length,.row false t' T l)::st.es⟩) else none
  | _=>none
 | .E0 t,.own loc,st=>match ge loc with
  | some (.row _ t' T l)=>if t=t'/\bD loc st.aG=false then some (.cG t st.aG.length (fun _=>0) (fun _=>(l ()).length),⟨st.aG ++ [loc],(st.aG.length,.row false t' T l)::st.es⟩) else none
  | _=>none
 | .E0 t,.cG t2 loc a b,st=>match ge loc with
  | some (.row _ t' T l)=>if (t=t'/\t2=t)/\bD loc st.aG=false then some (.cG t2 st.aG.length a b,⟨st.aG ++ [loc],(st.aG.length,.row false t' T l)::st.es⟩) else none
  | _=>none
 | .akS c t,.mp loc,st=>match ge loc with
  | some (.map _ ag c' t' T m)=>if c=c'/\t=t'/\bD loc st.aG=false then some (.mp st.aG.length,⟨st.aG ++ [loc],(st.aG.length,.map false ag c' t' T m)::st.es⟩) else none
  | _=>none
 | .akT l,.ptr loc 0,st=>match ge loc with
  | some (.box T cells)=>if bD loc st.aG then none else match Fo ge l cells ⟨st.aG ++ [loc],st.es⟩ with
   | some (ys,ju)=>some (.ptr st.aG.length 0,⟨ju.aG,(st.aG.length,.box T ys)::ju.es⟩)
   | none=>none
  | _=>none
 | s,x,st=>if AV.plain false x then (coerce ge s x).map fun y=>(y,st) else none
def Fo(ge:Nat->Option En):List Sg->List AV->wy->Option (List AV×wy)
 | [],[],st=>some ([],st)
 | s::ss,x::xs,st=>match PM ge s x st with
  | some (y,Y1)=>match Fo ge ss xs Y1 with
   | some (ys,PN)=>some (y::ys,PN)
   | none=>none
  | none=>none
 | _,_,_=>none
end
/- PL Y2 named wv -/
mutual
def AV.fW(g:Nat->Nat):AV->AV
 | .own l => .own (g l)
 | .cZ t l k off => .cZ t (g l) k off
 | .cG t l a b => .cG t (g l) a b
 | .ptr l off => .ptr (g l) off
 | .fq l off n => .fq (g l) off n
 | .mp l => .mp (g l)
 | .bo l => .bo (g l)
 | .it l l2 => .it (g l) (g l2)
 | .bh cs off => .bh (AV.oQ g cs) off
 | .agg cs => .agg (AV.oQ g cs)
 | .ba cs => .ba (AV.oQ g cs)
 | .fn f cs => .fn f (AV.oQ g cs)
 | x=>x
def AV.oQ(g:Nat->Nat):List AV->List AV
 | [] => []
 | x::l=>AV.fW g x::AV.oQ g l
end
def En.fW(g:Nat->Nat):En->En
 | .box T cs => .box T (AV.oQ g cs)
 | .iter ml c seen left => .iter (g ml) c seen left
 | .bo ml c key => .bo (g ml) c key
 | e=>e
def ko(g:Nat->Nat):List (Nat×En)->List (Nat×En)
 | [] => []
 | (k,e)::l=>(g k,En.fW g e)::ko g l
def iZ(aG:List Nat)(n k:Nat):Nat:=match aG[k]? with
 | some l=>l
 | none=>n+(k - aG.length)
def CJ:List Nat->Sx->Sx
 | [],S=>S
 | l::ls,S=>CJ ls ⟨(kill l S).t,lr l (kill l S).e,S.n⟩
def CK:List Nat->Sx->Sx
 | [],S=>S
 | l::ls,S=>CK ls ⟨S.t,lr l S.e,S.n⟩
def forget(fx:Bool)(ls:List Nat)(S:Sx):Sx:=cond fx (CK ls S) (CJ ls S)
def uM(B:Bs):List Nat->Bool
 | []=>true
 | l::ls=>(aj B.e l).isNone&&quiet l B&&rR l B.e&&uM B ls
def CL(B:Bs)(g:Nat->Nat)(n:Nat):List Nat->Bool
 | []=>true
 | k::ks=>(decide (k<n)||(aj B.e (g k)).isNone)&&CL B g n ks
def wz(t:Tc)(x:AV):Option (Bool×(Unit->t.el)) :=
 match cellsOf x with
 | some cs=>match J5 (CI t) cs with
  | some ys=>(J4 t ys).map fun e=>(AV.dJ true ys,e)
  | none=>none
 | none=>none
def CM(t:Tc):List AV->Option (Bool×List (Unit->t.el))
 | []=>some (true,[])
 | x::l=>match wz t x,CM t l with
  | some (f,e),some (g,es)=>some (f&&g,e::es)
  | _,_=>none
def Ad:Nat->List (Nat×AV)->Option (List AV)
 | _,[]=>some []
 | k,(i,x)::l=>if i==k then (Ad (k+1) l).map fun r=>x::r else none
def Tc.flat:Tc->Bool
 | .au=>false
 | .eQ=>false
 | .di=>false
 | .xT=>false
 | .xU=>false
 | .xV=>false
 | _=>true
def PO(B:Bs)(S:Sx)(t:Tc):AV->Option (Bool×(Unit->List t.el))
 | .nil=>some (true,fun _ => [])
 | .sl fr t' l=>if h:t'=t then some (fr,h▸l) else none
 | .wide fr t' l n=>if h:t'=t then some (fr,fun _=>(h▸l ()).take (n ())) else none
 | .own loc=>match bf B S loc with
  | some (.row fr t' _ l)=>if h:t'=t then some (fr,h▸l) else none
  | _=>none
 | .cG t2 loc a b=>match bf B S loc with
  | some (.row fr t' _ l)=>if h:t'=t then (if t2.size==t.size then some (fr,fun _=>((h▸l ()).take (b ())).drop (a ())) else none) else none
  | _=>none
 | _=>none
def uN(B:Bs)(S:Sx)(t:Tc)(x:AV):Option (Bool×(Unit->List t.el)):=(PO B S t x).map fun p=>(p.1||t.flat,p.2)
def eB{α:Type}(m:List Kx->Option α)(k:List Kx)(x : α):List Kx->Option α:=fun k'=>if k'=k then some x else m k'
def PQ(ag:Bool):AV->Bool
 | .agg _=>ag
 | _ => !ag
def CN(ag:Bool)(t:Tc)(x:AV):Option (Bool×(Unit->t.el)) :=
 if (ag||t.size==1)&&PQ ag x then wz t x else none
def PR(n m:Unit->Nat)(b:Nat):List VC := [fun _=>(n ()+m ())*b<=140737488355328]
def J6(t:Tc)(l:Unit->List t.el):Nat->List AV->Option (List AV)
 | _,[]=>some []
 | k,x::os=>match aP false t (fun _=>(l ()).getD k t.aa),x.asInt,J6 t l (k+1) os with
  | [.int kk z],some (k',o),some r=>if kk=k' then some (.int kk (fun _=>cond (decide (k<(l ()).length)) (z ()) (o ()))::r) else none
  | _,_,_=>none
def PS(C:Cx)(N:Nat)(B:Bs)(S:Sx)(T d:Nat)(s x:AV):Option (Sx×List VC):=match fu C.ty T,s with
 | some (.slice _ 1 _),.fq loc off n=>match bf B S loc,x with
  | some (.box T' cells),.sl _ t l=>if (aj B.e loc).isNone&&decide (off+n<=cells.length)&&t.size==1 then match J6 t l 0 ((cells.drop off).take n) with
   | some cs=>(bJ B ⟨S.t,(loc,.box T' (cells.take off++cs++cells.drop (off+n)))::S.e,S.n⟩ N d .un).map fun S'=>(S',[])
   | none=>none
   else none
  | _,_=>none
 | some (.slice e 1 _),.own loc=>match bf B S loc with
  | some (.row fr t e' l)=>if e'==e&&t.size==1&&(aj B.e loc).isNone then match uN B S t x with
   | some (f,m)=>if f || !fr then (bJ B ⟨S.t,(loc,.row fr t e' fun _=>(m ()).take (l ()).length++(l ()).drop (m ()).length)::S.e,S.n⟩ N d .un).map fun S'=>(S',[]) else none
   | none=>none
   else none
  | _=>none
 | _,_=>none
def J7(C:Cx)(N:Nat)(B:Bs)(S:Sx)(o:Oper):Option (Sx×List VC) :=
 match o.op with
 | .alloc T=>match aj C.ty T,o.dst with
  | some i,some d=>if i.z.isEmpty||(aj B.e S.n).isSome then none else (bJ B ⟨S.t,(S.n,.box T i.z)::S.e,S.n+1⟩ N d (.ptr S.n 0)).map fun S'=>(S',[])
  | _,_=>none
 | .box T x=>match cellsOf (bM B S x),o.dst with
  | some cs,some d=>if (aj B.e S.n).isSome then none else (bJ B ⟨S.t,(S.n,.box T cs)::S.e,S.n+1⟩ N d (.ptr S.n 0)).map fun S'=>(S',[])
  | _,_=>none
 | .store T ad x=>match aj C.ty T,cellsOf (bM B S x),bM B S ad,o.dst with
  | some i,some cs,.ptr loc off,none=>match bf B S loc with
   | some (.box T' cells)=>if cs.length==i.sz&&decide (off+i.sz<=cells.length)&&cs.all AV.one&&(aj B.e loc).isNone then some (⟨S.t,(loc,.box T' (cells.take off++cs++cells.drop (off+i.sz)))::S.e,S.n⟩,[]) else none
   | _=>none
  | some i,some cs,.cZ t loc k off,none=>match bf B S loc with
   | some (.row fr t' T' l)=>if t=t' then
    if cs.length==i.sz&&decide (off+i.sz<=t'.size)&&cs.all AV.one&&(aj B.e loc).isNone then
     let Cl:=aP fr t' fun _=>(l ()).getD (k ()).toNat t'.aa
     match wz t' (.agg (Cl.take off++cs++Cl.drop (off+i.sz))) with
     | some (f,e)=>if f || !fr then some (⟨S.t,(loc,.row fr t' T' fun _=>(l ()).set (k ()).toNat (e ()))::S.e,S.n⟩,[]) else none
     | none=>none
    else none
    else none
   | _=>none
  | _,_,_,_=>none
 | .buildSlice T len parts=>match fu C.ty T,o.dst with
  | some (.slice e sz _),some d=>match aj C.tc e with
   | some t=>match Ad 0 (parts.toList.map fun p=>(p.1,bM B S p.2)) with
    | some xs=>match CM t xs with
     | some (f,es)=>if t.size==sz&&es.length==len&&decide (len*sz<=16777216)&&(aj B.e S.n).isNone then (bJ B ⟨S.t,(S.n,.row f t e fun _=>es.map fun g=>g ())::S.e,S.n+1⟩ N d (.own S.n)).map fun S'=>(S',[]) else none
     | none=>none
    | none=>none
   | none=>none
  | _,_=>none
 | .makeSlice T l c=>match fu C.ty T,o.dst with
  | some (.slice e sz b),some d=>match aj C.tc e with
   | some t=>match bM B S l,(bM B S c).asInt with
    | .lit _ 0,some (_,k)=>if t.size==sz&&(aj B.e S.n).isNone then (bJ B ⟨S.t,(S.n,.row true t e fun _ => [])::S.e,S.n+1⟩ N d (.own S.n)).map fun S'=>(S',[fun _=>0<=k ()/\k ()*b<=281474976710656]) else none
    | .int _ n,some (_,k)=>match aj C.ty e with
     | some ie=>match wz t (.agg ie.z) with
      | some (f,x)=>if t.size==sz&&(aj B.e S.n).isNone && !ie.z.isEmpty then (bJ B ⟨S.t,(S.n,.row f t e fun _=>List.replicate (n ()).toNat (x ()))::S.e,S.n+1⟩ N d (.own S.n)).map fun S'=>(S',[fun _=>0<=n ()/\n ()=k ()/\n ()*b<=281474976710656]) else none
      | none=>none
     | none=>none
    | _,_=>none
   | none=>none
  | _,_=>none
 | .makeMap T none=>match fu C.ty T,o.dst with
  | some (.map _ _ c t ag),some d=>if (aj B.e S.n).isSome then none else (bJ B ⟨S.t,(S.n,.map true ag c t T fun _ _=>none)::S.e,S.n+1⟩ N d (.mp S.n)).map fun S'=>(S',[])
  | _,_=>none
 | .mapUpdate T x i v=>match fu C.ty T,bM B S x,o.dst with
  | some (.map _ _ c t ag),.mp loc,none=>match bf B S loc,x9 c (bM B S i) with
   | some (.map fr jI c' t' T' m),some k=>if c'=c/\t'=t/\jI=ag then match CN jI t' (bM B S v) with
    | some (f,e)=>if (aj B.e loc).isNone&&rR loc B.e then some (⟨S.t,(loc,.map (fr&&f) jI c' t' T' fun _=>eB (m ()) (k ()) (e ()))::lr loc S.e,S.n⟩,[]) else none
    | none=>none else none
   | _,_=>none
  | _,_,_=>none
 | .mapEntry T x i=>match fu C.ty T,bM B S x,o.dst with
  | some (.map _ _ c t ag),.mp loc,some d=>match bf B S loc,x9 c (bM B S i) with
   | some (.map fr jI c' t' T' m),some k=>if c'=c/\t'=t/\jI=ag then if (aj B.e loc).isNone&&rR loc B.e&&(aj B.e S.n).isNone then
    (bJ B ⟨S.t,(S.n,.bo loc c' k)::(loc,.map fr jI c' t' T' fun _=>eB (m ()) (k ()) ((m () (k ())).getD t'.aa))::lr loc S.e,S.n+1⟩ N d (.ba [eo jI fr t' fun _=>(m () (k ())).getD t'.aa,.bo S.n])).map fun S'=>(S',[]) else none else none
   | _,_=>none
  | _,_,_=>none
 | .entryStore _ x s v=>match bM B S x,bM B S s,o.dst with
  | .mp loc,.bo l2,none=>match bf B S loc,bf B S l2 with
   | some (.map fr ag c t T' m),some (.bo ml c' key)=>if ml=loc/\c'=c then match CN ag t (bM B S v) with
    | some (f,e)=>if (aj B.e loc).isNone&&rR loc B.e then some (⟨S.t,(loc,.map (fr&&f) ag c t T' fun _=>eB (m ()) (key ()) (e ()))::lr loc S.e,S.n⟩,[]) else none
    | none=>none else none
   | _,_=>none
  | _,_,_=>none
 | .call c=>match c.callee,c.args.toList,c.argTypes.toList,o.dst with
  | .builtin .append,[s,x],[T,T2],some d=>if T==T2 then match fu C.ty T with
   | some (.slice e sz b)=>match bM B S s with
    | .own loc=>match bf B S loc with
     | some (.row fr t e' l)=>if e'==e&&t.size==sz&&(aj B.e loc).isNone&&quiet loc B && !C.fx then match uN B S t (bM B S x) with
      | some (f,m)=>if AV.has loc (bM B S x) then none else (bJ B ⟨(kill loc S).t,(loc,.row (fr&&f) t e' fun _=>l ()++m ())::(kill loc S).e,S.n⟩ N d (.own loc)).map fun S'=>(S',PR (fun _=>(l ()).length) (fun _=>(m ()).length) b)
      | none=>none
      else none
     | _=>none
    | .cG _ loc a0 b0=>match bf B S loc with
     | some (.row fr t e' l)=>if e'==e&&t.size==sz&&(aj B.e loc).isNone&&quiet loc B && !C.fx then match uN B S t (bM B S x) with
      | some (f,m)=>(bJ B ⟨(kill loc S).t,(loc,.row (fr&&f) t e' fun _=>(l ()).take (b0 ())++m ())::(kill loc S).e,S.n⟩ N d (.own loc)).map fun S'=>(S',(fun _=>a0 ()=0)::PR b0 (fun _=>(m ()).length) b)
      | none=>none
      else none
     | _=>none
    | .nil=>match aj C.tc e with
     | some t=>if t.size==sz&&(aj B.e S.n).isNone then match uN B S t (bM B S x) with
      | some (f,m)=>(bJ B ⟨S.t,(S.n,.row f t e m)::S.e,S.n+1⟩ N d (.own S.n)).map fun S'=>(S',PR (fun _=>0) (fun _=>(m ()).length) b)
      | none=>none
      else none
     | none=>none
    | _=>none
   | _=>none
   else none
  | .builtin .copy,[s,x],[T,_],some d=>PS C N B S T d (bM B S s) (bM B S x)
  | _,_,_,_=>none
 | _=>none
def Fp(C:Cx)(N:Nat)(B:Bs)(S:Sx)(o:Oper):Option (Sx×List VC) :=
 match o.op with
 | .call c=>match c.callee with
  | .value (.func f)=>match Ac C.fs f with
   | some fo=>match Fo (bf B S) fo.sig (c.args.toList.map (bM B S)) ⟨[],[]⟩ with
    | some (ai,st)=>match fo.go ai st.es with
     | some res=>if st.aG.length==fo.n&&uM B st.aG&&yr (dE res.es) fo.n&&CL B (iZ st.aG S.n) fo.n (dE res.es)&&(fo.fix || !C.fx) then
      let S2:Sx:=⟨(forget fo.fix st.aG S).t,ko (iZ st.aG S.n) res.es++(forget fo.fix st.aG S).e,S.n+(m7 fo.n (dE res.es) - fo.n)⟩
      match o.dst with
      | some d=>(bJ B S2 N d (AV.fW (iZ st.aG S.n) res.av)).map fun S'=>(S',[res.pre])
      | none=>none
      else none
     | none=>none
    | none=>none
   | none=>none
  | _=>none
 | _=>none
/- xX is new,or aln at a place -/
mutual
def AV.pJ:AV->Bool
 | .sl fr _ _=>fr
 | .wide fr _ _ _=>fr
 | .bh _ _=>false
 | .agg cs=>AV.uO cs
 | .ba cs=>AV.uO cs
 | .fn _ cs=>AV.uO cs
 | _=>true
def AV.uO:List AV->Bool
 | []=>true
 | x::l=>AV.pJ x&&AV.uO l
end
def En.pJ:En->Bool
 | .box _ cs=>AV.uO cs
 | .row fr _ _ _=>fr
 | .map fr _ _ _ _ _=>fr
 | _=>false
def J8:List (Nat×En)->Bool
 | []=>true
 | (_,e)::l=>En.pJ e&&J8 l
def Fq(C:Cx)(N:Nat)(B:Bs)(S:Sx)(o:Oper):Option (Sx×List VC) :=
 match o.op with
 | .call c=>match c.callee with
  | .value (.func f)=>match Ac C.fs f with
   | some fo=>match pB (bf B S) fo.sig (c.args.toList.map (bM B S)) with
    | some ai=>match fo.go ai [] with
     | some res=>if fo.n==0&&AV.pJ res.av&&J8 res.es&&CL B (iZ [] S.n) 0 (dE res.es)&&(fo.fix || !C.fx) then
      match o.dst with
      | some d=>(bJ B ⟨(forget fo.fix [] S).t,ko (iZ [] S.n) res.es++(forget fo.fix [] S).e,S.n+(m7 0 (dE res.es) - 0)⟩ N d (AV.fW (iZ [] S.n) res.av)).map fun S'=>(S',[res.pre])
      | none=>none
      else none
     | none=>none
    | none=>none
   | none=>none
  | _=>none
 | _=>none
/- a azz name is azA by xX it holds -/
mutual
def AV.wA(loc:Nat)(y:AV):AV->AV
 | .own l=>cond (l==loc) y (.own l)
 | .cZ t l k off=>cond (l==loc) .un (.cZ t l k off)
 | .cG t l a b=>cond (l==loc) .un (.cG t l a b)
 | .bh cs off => .bh (AV.rS loc y cs) off
 | .agg cs => .agg (AV.rS loc y cs)
 | .ba cs => .ba (AV.rS loc y cs)
 | .fn f cs => .fn f (AV.rS loc y cs)
 | x=>x
def AV.rS(loc:Nat)(y:AV):List AV->List AV
 | [] => []
 | x::l=>AV.wA loc y x::AV.rS loc y l
end
def Fs(loc:Nat)(y:AV):List (Nat×AV)->List (Nat×AV)
 | [] => []
 | (d,x)::l=>(d,AV.wA loc y x)::Fs loc y l
def Y3(loc:Nat)(y:AV):En->En
 | .box T cs => .box T (AV.rS loc y cs)
 | e=>e
def Ae(loc:Nat)(y:AV):List (Nat×En)->List (Nat×En)
 | [] => []
 | (k,e)::l=>cond (k==loc) (Ae loc y l) ((k,Y3 loc y e)::Ae loc y l)
def PT(nb:Nat)(B:Bs)(S:Sx)(loc:Nat):Sx:=match bf B S loc with
 | some (.row fr t _ l)=>cond ((fr||decide (nb<=loc))&&((aj B.e loc).isNone&&quiet loc B)) ⟨Fs loc (.sl fr t l) S.t,Ae loc (.sl fr t l) S.e,S.n⟩ S
 | _=>S
def rT(nb:Nat)(B:Bs):List Nat->Sx->Sx
 | [],S=>S
 | l::ls,S=>rT nb B ls (PT nb B S l)
def AV.PU:List AV->List Nat
 | [] => []
 | .own l::r=>l::AV.PU r
 | _::r=>AV.PU r
def AV.owns:AV->List Nat
 | .own l => [l]
 | .agg cs=>AV.PU cs
 | _ => []
def PV:List AV->List Nat
 | [] => []
 | x::l=>AV.owns x++PV l
def pK:List Nat->List (Nat×AV)->List (Nat×AV)
 | [],_ => []
 | d::ds,l=>match aj l d with
  | some x=>(d,x)::pK ds l
  | none=>pK ds l
def J9:List (Nat×List Nat)->Nat->Option (List Nat)
 | [],_=>none
 | (k,l)::m,id=>cond (k==id) (some l) (J9 m id)
def CO(C:Cx)(id:Nat)(S:Sx):Sx:=match J9 C.kp id with
 | none=>S
 | some ks=>⟨pK ks S.t,S.e,S.n⟩
def Ka(nb:Nat)(B:Bs)(S:Sx):Op->Sx
 | .buildSlice _ _ parts=>rT nb B (PV (parts.toList.map fun p=>bM B S p.2)) S
 | .store _ ad x=>match bM B S ad with
  | .cZ _ _ _ _=>rT nb B (AV.owns (bM B S x)) S
  | _=>S
 | .mapUpdate _ _ _ v=>rT nb B (AV.owns (bM B S v)) S
 | .entryStore _ _ _ v=>rT nb B (AV.owns (bM B S v)) S
 | _=>S
section
variable{w w0:World}{ρ:Nat->Option Rl}{base:Nat}{ro:Nat->Prop}{S0:Pm}{Φ : Pm->Prop}{N:Nat}{B:Bs}{S:Sx}{a:Act}
theorem CP(loc)(y):∀ (l) (j:Nat),(AV.rS loc y l)[j]? = l[j]?.map (AV.wA loc y)
 | [],j=>by simp [AV.rS]
 | x::l,0=>by simp [AV.rS]
 | x::l,j+1=>by simp only [AV.rS,NN]; exact CP loc y l j
theorem PW(loc)(y):∀ (l),(AV.rS loc y l).length=l.length
 | []=>rfl
 | x::l=>by simp [AV.rS,PW loc y l]
theorem PX{loc d:Nat}{y:AV}:∀ (l),aj (Fs loc y l) d=(aj l d).map (AV.wA loc y)
 | []=>rfl
 | (k,x)::l=>by
  simp only [Fs,aj];split
  . rfl
  . exact PX l
theorem PY{loc d:Nat}{y:AV}:∀ (l),aj (Ae loc y l) d=if d=loc then none else (aj l d).map (Y3 loc y)
 | []=>by simp [Ae,aj]
 | (k,e)::l=>by
  have ih:=PY (loc:=loc) (d:=d) (y:=y) l;simp only [Ae]
  cases hk:k==loc with
  | true =>
   have e9:k=loc:=by simpa using hk
   simp only [eG,aj];rw [ih];split
   . rfl
   . rename_i hd;have:(k==d)=false:=by simp only [NV]; omega
     simp only [this,dV,dw]
  | false =>
   simp only [gj,aj];by_cases Y4:k=d
   . subst Y4;have:¬ k=loc:=by simpa using hk
     simp [this]
   . have alN:(k==d)=false:=by simpa using Y4
     simp only [alN,dV,dw];exact ih
theorem Ft{d:Nat}{x:AV}{l:List (Nat×AV)}:∀ {ds:List Nat},aj (pK ds l) d=some x->aj l d=some x
 | [],h=>by cases h
 | k::ds,h=>by
  unfold pK at h;split at h
  . rename_i y hy;simp only [aj] at h;split at h
    . rename_i hk;have e9:k=d:=by simpa using hk
      subst e9;rw [hy];exact h
    . exact Ft h
  . exact Ft h
theorem alO(C)(id)(H:aS w0 Φ N B S a w):aS w0 Φ N B (CO C id S) a w:=by
 unfold CO;split
 . exact H
 . rename_i ks _;obtain⟨S0,hS,ρ,ro,H⟩:=H;refine⟨S0,hS,ρ,ro,H.from_,H.size,H.defers,H.gu,fun d x h=>H.tm d x ?_,H.en,H.apart,H.fresh,H.own,H.ew,H.dz,fun d x h => ?_,H.jM,H.fm⟩
   . unfold dD at h ⊢;dsimp only at h
     cases hp:aj (pK ks S.t) d with
     | some y =>
      rw [hp] at h;rw [Ft hp];exact h
     | none =>
      rw [hp] at h;rw [H.jL d x h];exact h
   . exact Y5
theorem af.alP{x:AV}{v:Value}{A:Option Addr}{y:AV}(h:af w ρ base ro x v)(hr : ρ loc=some (.row A n c))(hy:af w (fun l=>if l=loc then none else ρ l) base (fun b=>ro b\/A.map (·.block)=some b) y (.slice A n c)) :
 af w (fun l=>if l=loc then none else ρ l) base (fun b=>ro b\/A.map (·.block)=some b) (AV.wA loc y x) v:=by
 have hρ:∀ l r,ρ l=some r->l≠loc->(fun l=>if l=loc then none else ρ l) l=some r:=fun l r h hl=>by simp only [aw hl]; exact h
 have oR:∀ l r,ρ l=some r->r.dz=true->l≠loc:=fun l r h h2 e=>by subst e; rw [hr] at h; cases h; cases h2
 induction h with
 | un=>exact .un _
 | fG=>exact .fG _
 | int=>exact .int _ _
 | lit=>exact .lit _ _
 | bool=>exact .bool _
 | aR=>exact .aR _
 | str=>exact .str _
 | nil=>exact .nil
 | sl fr t l A' c' css hl hc gU lh cP h ih =>
  refine .sl fr t l A' c' css hl hc gU (fun a ha hn => .inl (lh a ha hn)) cP fun k cs j x v k1 k2 k3 => ?_;have h1:=h k cs j x v k1 k2 k3;have h2:=mg (wg fr t _ loc) k2;exact (h1.move (ρ':=fun l=>if l=loc then none else ρ l) h2 fun l r q1 q2=>hρ l r q1 (q2.elim id (oR l r q1))).mono (fun _ _ _=>rfl) (Ext.refl _) (aA _) fun _ hb => .inl hb
 | wide fr t l n A' c' hn h ih=>exact .wide fr t l n A' c' hn ih
 | bh cells off b o cs lh ah hl hc h ih =>
  refine .bh _ off b o cs (.inl lh) ah Kb hc fun j x v k1 k2 => ?_;rw [CP] at k1;obtain⟨z,k3,rfl⟩:=kS.1 k1;exact ih j z v k3 k2
 | ptr l off b h=>exact .ptr _ _ _ (hρ _ _ h (oR _ _ h rfl))
 | fq l off n b h=>exact .fq _ _ _ _ (hρ _ _ h (oR _ _ h rfl))
 | own l A' n' c' h =>
  unfold AV.wA
  cases hl:l==loc with
  | true =>
   have:l=loc:=by simpa using hl
   subst this;rw [hr] at h;cases h;exact hy
  | false=>exact .own _ _ _ _ (hρ _ _ h (by simpa using hl))
 | cZ t l k off A' n' c' b h hA h0 hn =>
  unfold AV.wA
  cases hl:l==loc with
  | true=>exact .un _
  | false=>exact .cZ _ _ _ _ _ _ _ _ (hρ _ _ h (by simpa using hl)) hA h0 hn
 | cG t l a b A' n' c' h bk =>
  unfold AV.wA
  cases hl:l==loc with
  | true=>exact .un _
  | false=>exact .cG _ _ _ _ _ _ _ (hρ _ _ h (by simpa using hl)) bk
 | mp l b h=>exact .mp _ _ (hρ _ _ h (oR _ _ h rfl))
 | bo l s h=>exact .bo _ _ (hρ _ _ h (oR _ _ h rfl))
 | it l l2 b h=>exact .it _ _ _ (hρ _ _ h (oR _ _ h rfl))
 | agg l vs hl h ih =>
  refine .agg _ _ Kb fun j x v k1 k2 => ?_;rw [CP] at k1;obtain⟨z,k3,rfl⟩:=kS.1 k1;exact ih j z v k3 k2
 | ba l vs hl h ih =>
  refine .ba _ _ Kb fun j x v k1 k2 => ?_;rw [CP] at k1;obtain⟨z,k3,rfl⟩:=kS.1 k1;exact ih j z v k3 k2
 | fn f dH vs hl h ih =>
  refine .fn f _ _ Kb fun j x v k1 k2 => ?_;rw [CP] at k1;obtain⟨z,k3,rfl⟩:=kS.1 k1;exact ih j z v k3 k2
theorem alQ(cU:∀ S0,Φ S0->∀ l r,S0.pl l=some r->l<nb)(iH:∀ S0,Φ S0->S0.fx=false)(H:aS w0 Φ N B S a w)(loc):aS w0 Φ N B (PT nb B S loc) a w:=by
 obtain⟨S0,hS,ρ,ro,H⟩:=H;unfold PT;split
 case h_2=>exact⟨S0,hS,ρ,ro,H⟩
 rename_i fr t T l he
 cases hc:(fr||decide (nb<=loc))&&((aj B.e loc).isNone&&quiet loc B) with
 | false=>exact⟨S0,hS,ρ,ro,H⟩
 | true =>
  rw [eG];simp only [ax,iC] at hc;obtain⟨uA,hB,hq⟩:=hc;unfold quiet at hq;simp only [ax] at hq;obtain⟨A,c,css,hA,bw,hlen,dt⟩:=H.en _ _ he;have pL:∀ ad,A=some ad->w0.heap.size<=ad.block:=fun ad ha=>by
   cases fr with
   | true=>exact (bw.lt ha).1
   | false =>
    rcases (H.own loc _ ad.block hA (by rw [ha]; rfl)).2.2.1 with h|⟨r0,h1,_⟩
    . exact h
    . have:=cU S0 hS loc r0 h1;simp only [sV,aL] at uA;omega
  have PZ:=bw;obtain⟨y,hy⟩:∃ y,AV.sl fr t l=y:=⟨_,rfl⟩
  obtain⟨ρ',yv⟩:∃ ρ':Nat->Option Rl,ρ'=fun l=>if l=loc then none else ρ l:=⟨_,rfl⟩
  obtain⟨ro',CQ⟩:∃ ro':Nat->Prop,ro'=fun b=>ro b\/A.map (·.block)=some b:=⟨_,rfl⟩
  have hρ:∀ l r,ρ l=some r->l≠loc -> ρ' l=some r:=fun l r h hl=>by rw [yv]; simp only [aw hl]; exact h
  have oR:∀ l r,ρ l=some r->r.dz=true->l≠loc:=fun l r h h2 e=>by subst e; rw [hA] at h; cases h; cases h2
  have e8:∀ l r,ρ' l=some r -> ρ l=some r/\l≠loc:=fun l r h=>by
   rw [yv] at h;simp only at h;split at h
   . cases h
   . rename_i hl; exact⟨h,hl⟩
  have Af:∀ x v,af w ρ w0.heap.size ro x v->AV.has loc x=false->af w ρ' w0.heap.size ro' x v:=fun x v h hx=>(h.move (ρ' := ρ') hx fun l r q1 q2=>hρ l r q1 (q2.elim id (oR l r q1))).mono (fun _ _ _=>rfl) (Ext.refl _) (aA _) fun _ hb=>by rw [CQ]; exact .inl hb
  have iG:∀ b,A.map (·.block)=some b->w0.heap.size<=b/\b<w.heap.size:=fun b hb=>by
   obtain⟨ad,h1,h2⟩:=kS.1 hb;rw [<- h2];exact⟨pL ad h1,(PZ.lt h1).2⟩
  have JR:af w ρ' w0.heap.size ro' y (.slice A (l ()).length c):=by
   rw [<- hy];refine .sl fr t l A c css hlen PZ.cap.1 PZ.rd (fun ad ha _=>by rw [CQ]; exact .inr (by rw [ha]; rfl)) (fun _ ad ha _=>pL ad ha) fun k cs j x v k1 k2 k3=>Af x v (dt k cs j x v k1 k2 k3) (mg (wg fr t _ loc) k2)
  have bS:∀ x v,af w ρ w0.heap.size ro x v->af w ρ' w0.heap.size ro' (AV.wA loc y x) v:=fun x v h=>by
   rw [yv,CQ] at JR ⊢;exact h.alP hA JR
  have lu:∀ k e,c9 w ρ w0.heap.size ro k e->k≠loc->(∀ T cs,e = .box T cs->False)->c9 w ρ' w0.heap.size ro' k e:=fun k e h hk hb=>by
   cases e with
   | box T cs=>exact (hb T cs rfl).elim
   | row fr t T m =>
    obtain⟨A1,c1,alR,k1,k2,k3,k4⟩:=h;exact⟨A1,c1,alR,hρ _ _ k1 hk,k2,k3,fun i cs j x v q1 q2 q3=>Af x v (k4 i cs j x v q1 q2 q3) (mg (wg fr t _ loc) q2)⟩
   | map fr ag c t T m =>
    obtain⟨b,es,clock,k1,k2,k3,k4⟩:=h;exact⟨b,es,clock,hρ _ _ k1 hk,k2,k3,k4.rQ fun x v hx=>Af _ v hx (PJ _ _ _ _ _)⟩
   | iter ml c seen left =>
    obtain⟨b,b2,es,clock,since,stamps,c0,k1,k2,k3⟩:=h;exact⟨b,b2,es,clock,since,stamps,c0,hρ _ _ k1 hk,hρ _ _ k2 (oR _ _ k2 rfl),k3⟩
   | bo ml c key =>
    obtain⟨b,es,clock,s,e,k1,k2,k3⟩:=h;exact⟨b,es,clock,s,e,hρ _ _ k1 hk,hρ _ _ k2 (oR _ _ k2 rfl),k3⟩
   | ft k=>exact hρ _ _ h hk
   | dead =>
    obtain⟨r,k1⟩:=h;exact⟨r,hρ _ _ k1 hk⟩
  refine⟨S0,hS,ρ',ro',H.from_,H.size,H.defers,fun b hb => ?_,fun d x h => ?_,fun k e h => ?_,fun k k' r r' b aT h1 h2=>H.apart k k' r r' b aT (e8 _ _ h1).1 (e8 _ _ h2).1,fun k hk => ?_,fun k r b h1 h2 => ?_,fun b hb => ?_,fun k r h1 h2 => ?_,fun d x h => ?_,fun k e h => ?_,H.fm⟩
  . rw [CQ] at hb;exact hb.elim (H.gu b) fun h=>(iG b h).2
  . unfold dD at h;dsimp only at h;rw [PX] at h
    cases hd:aj S.t d with
    | none =>
     rw [hd] at h;obtain⟨u,h1,h2⟩:=H.tm d x (by unfold dD; rw [hd]; exact h);exact⟨u,h1,Af x u h2 (PG hq.1 h)⟩
    | some z =>
     rw [hd] at h;simp only [du,bF] at h;obtain⟨u,h1,h2⟩:=H.tm d z (by unfold dD; rw [hd]);refine⟨u,h1,?_⟩;rw [<- h,hy];exact bS z u h2
  . unfold bf at h;dsimp only at h;rw [PY] at h;by_cases hk:k=loc
    . rw [aC hk,hk,hB] at h;cases h
    rw [aw hk] at h
    cases hd:aj S.e k with
    | none =>
     rw [hd] at h;have h1:=H.en k e (by unfold bf; rw [hd]; exact h)
     cases e with
     | box T cs =>
      obtain⟨b,us,k1,k4,k5⟩:=h1;exact⟨b,us,hρ _ _ k1 hk,k4,k5.1,fun j x v hx hv=>Af x v (k5.2 j x v hx hv) (mg (PH hq.2 h) hx)⟩
     | row fr t T m=>exact lu _ _ h1 hk (fun _ _ h=>by cases h)
     | map fr ag c t T m=>exact lu _ _ h1 hk (fun _ _ h=>by cases h)
     | iter ml c seen left=>exact lu _ _ h1 hk (fun _ _ h=>by cases h)
     | bo ml c key=>exact lu _ _ h1 hk (fun _ _ h=>by cases h)
     | ft k=>exact lu _ _ h1 hk (fun _ _ h=>by cases h)
     | dead=>exact lu _ _ h1 hk (fun _ _ h=>by cases h)
    | some z =>
     rw [hd] at h;simp only [du,bF] at h;have h1:=H.en k z (by unfold bf; rw [hd]);rw [<- h,hy]
     cases z with
     | box T cs =>
      obtain⟨b,us,k1,k4,k5⟩:=h1;refine⟨b,us,hρ _ _ k1 hk,k4,by rw [PW]; exact k5.1,fun j x v hx hv => ?_⟩;rw [CP] at hx;obtain⟨z,k3,rfl⟩:=kS.1 hx;exact bS z v (k5.2 j z v k3 hv)
     | row fr t T m=>exact lu _ _ h1 hk (fun _ _ h=>by cases h)
     | map fr ag c t T m=>exact lu _ _ h1 hk (fun _ _ h=>by cases h)
     | iter ml c seen left=>exact lu _ _ h1 hk (fun _ _ h=>by cases h)
     | bo ml c key=>exact lu _ _ h1 hk (fun _ _ h=>by cases h)
     | ft k=>exact lu _ _ h1 hk (fun _ _ h=>by cases h)
     | dead=>exact lu _ _ h1 hk (fun _ _ h=>by cases h)
  . have h1:=H.fresh k hk;rw [yv];simp only [h1];split<;>rfl
  . obtain⟨h3,h4⟩:=e8 _ _ h1;have h5:=H.own k r b h3 h2;refine⟨h5.1,fun hb => ?_,h5.2.2⟩;rw [CQ] at hb;rcases hb with hb|hb
    . exact h5.2.1 hb
    . exact H.apart k loc r _ b h4 h3 hA h2 hb
  . rw [CQ] at hb;rcases hb with hb|hb
    . exact H.ew b hb
    . exact⟨fun ah=>by have:=(iG b hb).1; omega,fun ho=>(H.own loc _ b hA hb).2.2.2 (S0.yo b ho)⟩
  . have h3:=H.dz k r h1 h2;rw [iH S0 hS,fS] at h2;exact hρ _ _ h3 (oR _ _ h3 h2)
  . show aj (Fs loc _ S.t) d=none
    rw [PX,H.jL d x h];rfl
  . show aj (Ae loc _ S.e) k=none
    rw [PY,H.jM k e h];split<;>rfl
theorem Ag{nb:Nat}(cU:∀ S0,Φ S0->∀ l r,S0.pl l=some r->l<nb)(iH:∀ S0,Φ S0->S0.fx=false):∀ {ls:List Nat} {S:Sx},aS w0 Φ N B S a w->aS w0 Φ N B (rT nb B ls S) a w
 | [],_,H=>H
 | l::ls,_,H=>Ag cU iH (ls:=ls) (alQ cU iH H l)
theorem alS(cU:∀ S0,Φ S0->∀ l r,S0.pl l=some r->l<nb)(iH:∀ S0,Φ S0->S0.fx=false)(H:aS w0 Φ N B S a w)(op):aS w0 Φ N B (Ka nb B S op) a w:=by
 unfold Ka;split
 . exact Ag cU iH H
 . split
   . exact Ag cU iH H
   . exact H
 . exact Ag cU iH H
 . exact Ag cU iH H
 . exact H
end
end Go.Proofs.YtamjbkaclhgffaaGreat
