/-
  The abstract run: operations that make a place, write one, or let one grow; they are sound.
-/
import Derived.Test.YtffeegebohigdaaGreatMs8
set_option linter.unusedVariables false
set_option linter.unusedSimpArgs false
namespace Go.Proofs.YtffeegebohigdaaGreat
open Go.RowKit
-- CELLS
def Z9n:Tc->List Sg
 | .int => [.int .i64]
 | .u8 => [.int .u8]
 | .u32 => [.int .u32]
 | .box => [.int .i64,.str,.int .u8,.bool,.int .i64,.int .i64,.int .i64,.int .u8,.bool]
 | .stowed => [.int .i64,.int .i64,.int .i64,.int .u8]
 | .slot => [.int .i64,.int .i64,.int .u8]
 | .ld => [.int .i64,.int .i64,.int .i64,.int .i64]
 | .spn => [.int .i64,.int .i64,.int .i64]
 | .col => [.int .i64,.int .i64,.bool,.int .i64,.int .i64,.int .i64,.int .i64,.int .i64,.sl .int,.int .i64,.int .i64,.int .i64]
 | .cov => [.int .i64,.sl .int]
 | .mid => [.int .i64,.str,.int .u8,.bool,.int .i64,.int .i64,.int .i64,.int .u8,.bool,.int .i64,.int .i64,.int .i64]
 | .hrow => [.int .i64,.int .i64,.int .i64,.int .i64,.int .i64]
 | .frm => [.int .i64,.int .i64,.int .i64,.int .i64,.int .i64]
 | .tnk => [.int .i64,.int .i64,.int .i64,.int .i64,.int .i64,.sl .int]
 | .colq => [.int .i64,.int .i64,.bool,.int .i64,.int .i64,.int .i64,.int .i64,.int .i64,.wide .int,.int .i64,.int .i64,.int .i64]
 | .covq => [.int .i64,.wide .int]
 | .tnkq => [.int .i64,.int .i64,.int .i64,.int .i64,.int .i64,.wide .int]
 | .plc => [.int .u8,.int .u8,.int .u8,.bool]
 | .drp => [.int .u8,.int .u8,.bool,.bool]
 | .wgt => [.int .u16,.int .i16,.int .i16,.int .i16]
def Qyn:(t:Tc)->List AV->Option (Unit->t.el)
 | .int,[.int .i64 a0]=>some fun _=>a0 ()
 | .u8,[.int .u8 a0]=>some fun _=>a0 ()
 | .u32,[.int .u32 a0]=>some fun _=>a0 ()
 | .box,[.int .i64 a0,.str a1,.int .u8 a2,.bool a3,.int .i64 a4,.int .i64 a5,.int .i64 a6,.int .u8 a7,.bool a8]=>some fun _=>⟨a0 (),a1 (),a2 (),a3 (),a4 (),a5 (),a6 (),a7 (),a8 ()⟩
 | .stowed,[.int .i64 a0,.int .i64 a1,.int .i64 a2,.int .u8 a3]=>some fun _=>⟨a0 (),a1 (),a2 (),a3 ()⟩
 | .slot,[.int .i64 a0,.int .i64 a1,.int .u8 a2]=>some fun _=>⟨a0 (),a1 (),a2 ()⟩
 | .ld,[.int .i64 a0,.int .i64 a1,.int .i64 a2,.int .i64 a3]=>some fun _=>⟨a0 (),a1 (),a2 (),a3 ()⟩
 | .spn,[.int .i64 a0,.int .i64 a1,.int .i64 a2]=>some fun _=>⟨a0 (),a1 (),a2 ()⟩
 | .col,[.int .i64 a0,.int .i64 a1,.bool a2,.int .i64 a3,.int .i64 a4,.int .i64 a5,.int .i64 a6,.int .i64 a7,.sl _ .int a8,.int .i64 a9,.int .i64 a10,.int .i64 a11]=>some fun _=>⟨a0 (),a1 (),a2 (),a3 (),a4 (),a5 (),a6 (),a7 (),a8 (),a9 (),a10 (),a11 ()⟩
 | .cov,[.int .i64 a0,.sl _ .int a1]=>some fun _=>⟨a0 (),a1 ()⟩
 | .mid,[.int .i64 a0,.str a1,.int .u8 a2,.bool a3,.int .i64 a4,.int .i64 a5,.int .i64 a6,.int .u8 a7,.bool a8,.int .i64 a9,.int .i64 a10,.int .i64 a11]=>some fun _=>⟨⟨a0 (),a1 (),a2 (),a3 (),a4 (),a5 (),a6 (),a7 (),a8 ()⟩,a9 (),a10 (),a11 ()⟩
 | .hrow,[.int .i64 a0,.int .i64 a1,.int .i64 a2,.int .i64 a3,.int .i64 a4]=>some fun _=>⟨a0 (),a1 (),a2 (),a3 (),a4 ()⟩
 | .frm,[.int .i64 a0,.int .i64 a1,.int .i64 a2,.int .i64 a3,.int .i64 a4]=>some fun _=>⟨a0 (),a1 (),a2 (),a3 (),a4 ()⟩
 | .tnk,[.int .i64 a0,.int .i64 a1,.int .i64 a2,.int .i64 a3,.int .i64 a4,.sl _ .int a5]=>some fun _=>⟨a0 (),a1 (),a2 (),a3 (),a4 (),a5 ()⟩
 | .colq,[.int .i64 a0,.int .i64 a1,.bool a2,.int .i64 a3,.int .i64 a4,.int .i64 a5,.int .i64 a6,.int .i64 a7,.wide _ .int a8 a8N,.int .i64 a9,.int .i64 a10,.int .i64 a11]=>some fun _=>⟨a0 (),a1 (),a2 (),a3 (),a4 (),a5 (),a6 (),a7 (),a8 (),a8N (),a9 (),a10 (),a11 ()⟩
 | .covq,[.int .i64 a0,.wide _ .int a1 a1N]=>some fun _=>⟨a0 (),a1 (),a1N ()⟩
 | .tnkq,[.int .i64 a0,.int .i64 a1,.int .i64 a2,.int .i64 a3,.int .i64 a4,.wide _ .int a5 a5N]=>some fun _=>⟨a0 (),a1 (),a2 (),a3 (),a4 (),a5 (),a5N ()⟩
 | .plc,[.int .u8 a0,.int .u8 a1,.int .u8 a2,.bool a3]=>some fun _=>⟨a0 (),a1 (),a2 (),a3 ()⟩
 | .drp,[.int .u8 a0,.int .u8 a1,.bool a2,.bool a3]=>some fun _=>⟨a0 (),a1 (),a2 (),a3 ()⟩
 | .wgt,[.int .u16 a0,.int .i16 a1,.int .i16 a2,.int .i16 a3]=>some fun _=>⟨a0 (),a1 (),a2 (),a3 ()⟩
 | _,_=>none
theorem Qxc {t:Tc} {l:List AV} {x:Unit->t.el} (h:Qyn t l=some x):Q8 false t x=l.map AV.loose/\(AV.plainL true l=true->Q8 true t x=l):=by
 unfold Qyn at h;split at h<;>first|(cases h; done)|(injection h with h; subst h; refine⟨rfl,fun hp => ?_⟩; simp only [AV.plainL,AV.plain,Bool.not_true,Bool.and_true,Bool.true_and,Bool.or_false] at hp; first|rfl|(subst hp; rfl)|simp_all)
-- END CELLS
def Z3j:Sg->AV->Option AV
 | .int k,.int k' n=>if k=k' then some (.int k' n) else none
 | .int k,.lit k' n=>if k=k' then some (.int k' fun _=>n) else none
 | .bool,.bool b=>some (.bool b)
 | .bool,.blit b=>some (.bool fun _=>b)
 | .str,.str s=>some (.str s)
 | .sl t,.sl fr t' l=>if t=t' then some (.sl fr t' l) else none
 | .sl t,.nil=>some (.sl true t fun _ => [])
 | .sl t,.wide fr t' l n=>if t=t' then some (.sl fr t' fun _=>(l ()).take (n ())) else none
 | .wide t,.wide fr t' l n=>if t=t' then some (.wide fr t' l n) else none
 | .wide t,.sl fr t' l=>if t=t' then some (.wide fr t' l fun _=>(l ()).length) else none
 | .wide t,.nil=>some (.wide true t (fun _ => []) fun _=>0)
 | _,_=>none
def Qpp:List Sg->List AV->Option (List AV)
 | [],[]=>some []
 | s::ss,x::xs=>match Z3j s x,Qpp ss xs with
  | some y,some ys=>some (y::ys)
  | _,_=>none
 | _,_=>none
def cellsOf:AV->Option (List AV)
 | .agg cs=>some cs
 | .un=>none
 | .tup _=>none
 | x=>some [x]
def AV.one:AV->Bool
 | .un=>false
 | .agg _=>false
 | .tup _=>false
 | _=>true
def Qw (d:Nat):List Nat->Bool
 | []=>false
 | k::l=>k==d||Qw d l
def Zg {α:Type}:List (Nat × α)->List Nat
 | [] => []
 | (k,_)::l=>k::Zg l
def Q2k (n:Nat):List Nat->Nat
 | []=>n
 | k::l=>if k<n then Q2k n l else Q2k (k+1) l
def Qeg (ks:List Nat):Nat->Bool
 | 0=>true
 | n+1=>Qw n ks&&Qeg ks n
structure Qmt (w w':World) (ρ ρ1:Nat->Option Rl) (ra ra1:Nat->Prop) (es:List (Nat×En)) (fx:Bool):Prop where
 from_:Gi ρ w w'
 en:∀ l e,Q3 es l=some e->EnR w' ρ1 w.heap.size ra1 l e
 apart:∀ l l' r r' b,l≠l' -> ρ1 l=some r -> ρ1 l'=some r'->r.blk=some b->r'.blk≠some b
 fresh:∀ l,Qw l (Zg es)=false -> ρ1 l=none
 own:∀ l r b,ρ1 l=some r->r.blk=some b->b<w'.heap.size/\¬ ra1 b/\(w.heap.size<=b\/∃ r0,ρ l=some r0/\r0.blk=some b)
 rd:∀ b,ra1 b->b<w'.heap.size/\(b<w.heap.size->ra b)
 solid:∀ l r,ρ l=some r->(r.solid||fx)=true -> ρ1 l=some r
structure Rez where
 pre:Unit->Prop
 av:AV
 es:List (Nat×En)
structure Fon where
 f:FuncId
 sig:List Sg
 n:Nat
 go:List AV->List (Nat×En)->Option Rez
 fix:Bool:=false
def Vx (P:Program) (c:Fon):Prop :=
 (∀ args w,(callFunc c.f args).run P w = .ok (.enter c.f args) w) /\
 ∀ avs es res,c.go avs es=some res->∀ (w:World) (ρ:Nat->Option Rl) (ra:Nat->Prop) (vals:List Value),(∀ b,ra b->b<w.heap.size)->Qj w ρ 0 ra avs vals->(∀ l e,Q3 es l=some e->EnR w ρ 0 ra l e) ->
  (∀ l l' r r' b,l≠l' -> ρ l=some r -> ρ l'=some r'->r.blk=some b->r'.blk≠some b)->(∀ l,c.n<=l -> ρ l=none)->(∀ l r b,ρ l=some r->r.blk=some b->b<w.heap.size/\¬ ra b)->res.pre () ->
  Calls P c.f vals.toArray w fun e w'=>∃ v ρ1 ra1,e = .returned v/\Qmt w w' ρ ρ1 ra ra1 res.es c.fix/\AVR w' ρ1 w.heap.size ra1 res.av v
def Q4u:List Fon->FuncId->Option Fon
 | [],_=>none
 | c::cs,f=>if c.f==f then some c else Q4u cs f
def efs:List Fon->List Nat
 | [] => []
 | c::cs=>c.f::efs cs
inductive Sch where
 | nil
 | bad
 | op (i:Nat) (r:Sch)
 | alt (a b:Sch)
deriving DecidableEq
structure Nd where
 dn:List Nat
 ks:List Nat
 up:Nat×Nat
 ed:List (Nat×Nat×Nat)
structure Lat where
 sg:List Nat
 row:List Nat
 pre:List Nat
 nds:List Nd
 post:List Nat
structure Cx where
 ty:Tab
 cs:List Con
 tc:List (Nat×Tc)
 fs:List Fon
 fz:List (Nat×List Nat) := []
 fx:Bool:=false
 kp:List (Nat×List Nat) := []
 sc:List (Nat×Sch) := []
 ul:List Nat := []
 jn:List (Nat×List Nat) := []
 lt:List (Nat×Lat) := []
 nb:Nat:=0
 ct:List Nat := []
/- the arguments,the places numbered anew -/
structure Pst where
 locs:List Nat
 es:List (Nat×En)
mutual
def Qlf (ge:Nat->Option En):Sg->AV->Pst->Option (AV×Pst)
 | .any,_,st=>some (.un,st)
 | .ownr t,.own loc,st=>match ge loc with
  | some (.row _ t' T l)=>if t=t'/\Qw loc st.locs=false then some (.own st.locs.length,⟨st.locs ++ [loc],(st.locs.length,.row false t' T l)::st.es⟩) else none
  | _=>none
 | .mapp c t,.mp loc,st=>match ge loc with
  | some (.map _ ag c' t' T m)=>if c=c'/\t=t'/\Qw loc st.locs=false then some (.mp st.locs.length,⟨st.locs ++ [loc],(st.locs.length,.map false ag c' t' T m)::st.es⟩) else none
  | _=>none
 | .boxp l,.ptr loc 0,st=>match ge loc with
  | some (.box T cells)=>if Qw loc st.locs then none else match Q79 ge l cells ⟨st.locs ++ [loc],st.es⟩ with
   | some (ys,st')=>some (.ptr st.locs.length 0,⟨st'.locs,(st.locs.length,.box T ys)::st'.es⟩)
   | none=>none
  | _=>none
 | s,x,st=>if AV.plain false x then (Qdo ge s x).map fun y=>(y,st) else none
def Q79 (ge:Nat->Option En):List Sg->List AV->Pst->Option (List AV×Pst)
 | [],[],st=>some ([],st)
 | s::ss,x::xs,st=>match Qlf ge s x st with
  | some (y,st1)=>match Q79 ge ss xs st1 with
   | some (ys,st2)=>some (y::ys,st2)
   | none=>none
  | none=>none
 | _,_,_=>none
end
/- places are named anew -/
mutual
def AV.ren (g:Nat->Nat):AV->AV
 | .own l => .own (g l)
 | .orp t l k off => .orp t (g l) k off
 | .osl t l a b => .osl t (g l) a b
 | .ptr l off => .ptr (g l) off
 | .mp l => .mp (g l)
 | .stamp l => .stamp (g l)
 | .it l l2 => .it (g l) (g l2)
 | .pto cs off => .pto (AV.renL g cs) off
 | .agg cs => .agg (AV.renL g cs)
 | .tup cs => .tup (AV.renL g cs)
 | .fn f cs => .fn f (AV.renL g cs)
 | x=>x
def AV.renL (g:Nat->Nat):List AV->List AV
 | [] => []
 | x::l=>AV.ren g x::AV.renL g l
end
def En.ren (g:Nat->Nat):En->En
 | .box T cs => .box T (AV.renL g cs)
 | .iter ml c seen left => .iter (g ml) c seen left
 | .stamp ml c key => .stamp (g ml) c key
 | e=>e
def Jg (g:Nat->Nat):List (Nat×En)->List (Nat×En)
 | [] => []
 | (k,e)::l=>(g k,En.ren g e)::Jg g l
def Ga (locs:List Nat) (n k:Nat):Nat:=match locs[k]? with
 | some l=>l
 | none=>n+(k - locs.length)
def Q75:List Nat->Sx->Sx
 | [],S=>S
 | l::ls,S=>Q75 ls ⟨(Kh l S).t,Yz l (Kh l S).e,S.n⟩
def Q70:List Nat->Sx->Sx
 | [],S=>S
 | l::ls,S=>Q70 ls ⟨S.t,Yz l S.e,S.n⟩
def G0 (fx:Bool) (ls:List Nat) (S:Sx):Sx:=cond fx (Q70 ls S) (Q75 ls S)
def Q0l (B:Bs):List Nat->Bool
 | []=>true
 | l::ls=>(Q3 B.e l).isNone&&quiet l B&&Q2e l B.e&&Q0l B ls
def Q6u (B:Bs) (g:Nat->Nat) (n:Nat):List Nat->Bool
 | []=>true
 | k::ks=>(decide (k<n)||(Q3 B.e (g k)).isNone)&&Q6u B g n ks
def Qam (t:Tc) (x:AV):Option (Bool×(Unit->t.el)) :=
 match cellsOf x with
 | some cs=>match Qpp (Z9n t) cs with
  | some ys=>(Qyn t ys).map fun e=>(AV.plainL true ys,e)
  | none=>none
 | none=>none
def Qex (t:Tc):List AV->Option (Bool×List (Unit->t.el))
 | []=>some (true,[])
 | x::l=>match Qam t x,Qex t l with
  | some (f,e),some (g,es)=>some (f&&g,e::es)
  | _,_=>none
def Q4r:Nat->List (Nat×AV)->Option (List AV)
 | _,[]=>some []
 | k,(i,x)::l=>if i==k then (Q4r (k+1) l).map fun r=>x::r else none
def Tc.flat:Tc->Bool
 | .col=>false
 | .cov=>false
 | .tnk=>false
 | .colq=>false
 | .covq=>false
 | .tnkq=>false
 | _=>true
def Qwb (B:Bs) (S:Sx) (t:Tc):AV->Option (Bool×(Unit->List t.el))
 | .nil=>some (true,fun _ => [])
 | .sl fr t' l=>if h:t'=t then some (fr,h▸l) else none
 | .wide fr t' l n=>if h:t'=t then some (fr,fun _=>(h▸l ()).take (n ())) else none
 | .own loc=>match Qh B S loc with
  | some (.row fr t' _ l)=>if h:t'=t then some (fr,h▸l) else none
  | _=>none
 | .osl t2 loc a b=>match Qh B S loc with
  | some (.row fr t' _ l)=>if h:t'=t then (if t2.size==t.size then some (fr,fun _=>((h▸l ()).take (b ())).drop (a ())) else none) else none
  | _=>none
 | _=>none
def Q43 (B:Bs) (S:Sx) (t:Tc) (x:AV):Option (Bool×(Unit->List t.el)):=(Qwb B S t x).map fun p=>(p.1||t.flat,p.2)
def Yy {α:Type} (m:List Kx->Option α) (k:List Kx) (x : α):List Kx->Option α:=fun k'=>if k'=k then some x else m k'
def Z2l (ag:Bool):AV->Bool
 | .agg _=>ag
 | _ => !ag
def Qfb (ag:Bool) (t:Tc) (x:AV):Option (Bool×(Unit->t.el)) :=
 if (ag||t.size==1)&&Z2l ag x then Qam t x else none
def Qh4 (n m:Unit->Nat) (b:Nat):List VC := [fun _=>(n ()+m ())*b<=140737488355328]
def Qpr (C:Cx) (N:Nat) (B:Bs) (S:Sx) (o:Oper):Option (Sx×List VC) :=
 match o.op with
 | .alloc T=>match Q3 C.ty T,o.dst with
  | some i,some d=>if i.z.isEmpty||(Q3 B.e S.n).isSome then none else (Qy B ⟨S.t,(S.n,.box T i.z)::S.e,S.n+1⟩ N d (.ptr S.n 0)).map fun S'=>(S',[])
  | _,_=>none
 | .box T x=>match cellsOf (Z0 B S x),o.dst with
  | some cs,some d=>if (Q3 B.e S.n).isSome then none else (Qy B ⟨S.t,(S.n,.box T cs)::S.e,S.n+1⟩ N d (.ptr S.n 0)).map fun S'=>(S',[])
  | _,_=>none
 | .store T ad x=>match Q3 C.ty T,cellsOf (Z0 B S x),Z0 B S ad,o.dst with
  | some i,some cs,.ptr loc off,none=>match Qh B S loc with
   | some (.box T' cells)=>if cs.length==i.sz&&decide (off+i.sz<=cells.length)&&cs.all AV.one&&(Q3 B.e loc).isNone then some (⟨S.t,(loc,.box T' (cells.take off++cs++cells.drop (off+i.sz)))::S.e,S.n⟩,[]) else none
   | _=>none
  | some i,some cs,.orp t loc k off,none=>match Qh B S loc with
   | some (.row fr t' T' l)=>if t=t' then
    if cs.length==i.sz&&decide (off+i.sz<=t'.size)&&cs.all AV.one&&(Q3 B.e loc).isNone then
     let old:=Q8 fr t' fun _=>(l ()).getD (k ()).toNat t'.dflt
     match Qam t' (.agg (old.take off++cs++old.drop (off+i.sz))) with
     | some (f,e)=>if f || !fr then some (⟨S.t,(loc,.row fr t' T' fun _=>(l ()).set (k ()).toNat (e ()))::S.e,S.n⟩,[]) else none
     | none=>none
    else none
    else none
   | _=>none
  | _,_,_,_=>none
 | .buildSlice T len parts=>match Km C.ty T,o.dst with
  | some (.slice e sz _),some d=>match Q3 C.tc e with
   | some t=>match Q4r 0 (parts.toList.map fun p=>(p.1,Z0 B S p.2)) with
    | some xs=>match Qex t xs with
     | some (f,es)=>if t.size==sz&&es.length==len&&decide (len*sz<=16777216)&&(Q3 B.e S.n).isNone then (Qy B ⟨S.t,(S.n,.row f t e fun _=>es.map fun g=>g ())::S.e,S.n+1⟩ N d (.own S.n)).map fun S'=>(S',[]) else none
     | none=>none
    | none=>none
   | none=>none
  | _,_=>none
 | .makeSlice T l c=>match Km C.ty T,o.dst with
  | some (.slice e sz b),some d=>match Q3 C.tc e with
   | some t=>match Z0 B S l,(Z0 B S c).asInt with
    | .lit _ 0,some (_,k)=>if t.size==sz&&(Q3 B.e S.n).isNone then (Qy B ⟨S.t,(S.n,.row true t e fun _ => [])::S.e,S.n+1⟩ N d (.own S.n)).map fun S'=>(S',[fun _=>0<=k ()/\k ()*b<=281474976710656]) else none
    | .int _ n,some (_,k)=>match Q3 C.ty e with
     | some ie=>match Qam t (.agg ie.z) with
      | some (f,x)=>if t.size==sz&&(Q3 B.e S.n).isNone && !ie.z.isEmpty then (Qy B ⟨S.t,(S.n,.row f t e fun _=>List.replicate (n ()).toNat (x ()))::S.e,S.n+1⟩ N d (.own S.n)).map fun S'=>(S',[fun _=>0<=n ()/\n ()=k ()/\n ()*b<=281474976710656]) else none
      | none=>none
     | none=>none
    | _,_=>none
   | none=>none
  | _,_=>none
 | .makeMap T none=>match Km C.ty T,o.dst with
  | some (.map _ _ c t ag),some d=>if (Q3 B.e S.n).isSome then none else (Qy B ⟨S.t,(S.n,.map true ag c t T fun _ _=>none)::S.e,S.n+1⟩ N d (.mp S.n)).map fun S'=>(S',[])
  | _,_=>none
 | .mapUpdate T x i v=>match Km C.ty T,Z0 B S x,o.dst with
  | some (.map _ _ c t ag),.mp loc,none=>match Qh B S loc,Q6s c (Z0 B S i) with
   | some (.map fr ag' c' t' T' m),some k=>if c'=c/\t'=t/\ag'=ag then (match Qfb ag' t' (Z0 B S v) with
    | some (f,e)=>if (Q3 B.e loc).isNone&&Q2e loc B.e then some (⟨S.t,(loc,.map (fr&&f) ag' c' t' T' fun _=>Yy (m ()) (k ()) (e ()))::Yz loc S.e,S.n⟩,[]) else none
    | none=>none) else none
   | _,_=>none
  | _,_,_=>none
 | .mapEntry T x i=>match Km C.ty T,Z0 B S x,o.dst with
  | some (.map _ _ c t ag),.mp loc,some d=>match Qh B S loc,Q6s c (Z0 B S i) with
   | some (.map fr ag' c' t' T' m),some k=>if c'=c/\t'=t/\ag'=ag then (if (Q3 B.e loc).isNone&&Q2e loc B.e&&(Q3 B.e S.n).isNone then
    (Qy B ⟨S.t,(S.n,.stamp loc c' k)::(loc,.map fr ag' c' t' T' fun _=>Yy (m ()) (k ()) ((m () (k ())).getD t'.dflt))::Yz loc S.e,S.n+1⟩ N d (.tup [Yh ag' fr t' fun _=>(m () (k ())).getD t'.dflt,.stamp S.n])).map fun S'=>(S',[]) else none) else none
   | _,_=>none
  | _,_,_=>none
 | .entryStore _ x s v=>match Z0 B S x,Z0 B S s,o.dst with
  | .mp loc,.stamp l2,none=>match Qh B S loc,Qh B S l2 with
   | some (.map fr ag c t T' m),some (.stamp ml c' key)=>if ml=loc/\c'=c then (match Qfb ag t (Z0 B S v) with
    | some (f,e)=>if (Q3 B.e loc).isNone&&Q2e loc B.e then some (⟨S.t,(loc,.map (fr&&f) ag c t T' fun _=>Yy (m ()) (key ()) (e ()))::Yz loc S.e,S.n⟩,[]) else none
    | none=>none) else none
   | _,_=>none
  | _,_,_=>none
 | .call c=>match c.callee,c.args.toList,c.argTypes.toList,o.dst with
  | .builtin .append,[s,x],[T,T2],some d=>if T==T2 then match Km C.ty T with
   | some (.slice e sz b)=>match Z0 B S s with
    | .own loc=>match Qh B S loc with
     | some (.row fr t e' l)=>if e'==e&&t.size==sz&&(Q3 B.e loc).isNone&&quiet loc B && !C.fx then match Q43 B S t (Z0 B S x) with
      | some (f,m)=>if AV.has loc (Z0 B S x) then none else (Qy B ⟨(Kh loc S).t,(loc,.row (fr&&f) t e' fun _=>l ()++m ())::(Kh loc S).e,S.n⟩ N d (.own loc)).map fun S'=>(S',Qh4 (fun _=>(l ()).length) (fun _=>(m ()).length) b)
      | none=>none
      else none
     | _=>none
    | .osl _ loc a0 b0=>match Qh B S loc with
     | some (.row fr t e' l)=>if e'==e&&t.size==sz&&(Q3 B.e loc).isNone&&quiet loc B && !C.fx then match Q43 B S t (Z0 B S x) with
      | some (f,m)=>(Qy B ⟨(Kh loc S).t,(loc,.row (fr&&f) t e' fun _=>(l ()).take (b0 ())++m ())::(Kh loc S).e,S.n⟩ N d (.own loc)).map fun S'=>(S',(fun _=>a0 ()=0)::Qh4 b0 (fun _=>(m ()).length) b)
      | none=>none
      else none
     | _=>none
    | .nil=>match Q3 C.tc e with
     | some t=>if t.size==sz&&(Q3 B.e S.n).isNone then match Q43 B S t (Z0 B S x) with
      | some (f,m)=>(Qy B ⟨S.t,(S.n,.row f t e m)::S.e,S.n+1⟩ N d (.own S.n)).map fun S'=>(S',Qh4 (fun _=>0) (fun _=>(m ()).length) b)
      | none=>none
      else none
     | none=>none
    | _=>none
   | _=>none
   else none
  | _,_,_,_=>none
 | _=>none
def Qdq (C:Cx) (N:Nat) (B:Bs) (S:Sx) (o:Oper):Option (Sx×List VC) :=
 match o.op with
 | .call c=>match c.callee with
  | .value (.func f)=>match Q4u C.fs f with
   | some fo=>match Q79 (Qh B S) fo.sig (c.args.toList.map (Z0 B S)) ⟨[],[]⟩ with
    | some (avs,st)=>match fo.go avs st.es with
     | some res=>if st.locs.length==fo.n&&Q0l B st.locs&&Qeg (Zg res.es) fo.n&&Q6u B (Ga st.locs S.n) fo.n (Zg res.es)&&(fo.fix || !C.fx) then
      let S2:Sx:=⟨(G0 fo.fix st.locs S).t,Jg (Ga st.locs S.n) res.es++(G0 fo.fix st.locs S).e,S.n+(Q2k fo.n (Zg res.es) - fo.n)⟩
      match o.dst with
      | some d=>(Qy B S2 N d (AV.ren (Ga st.locs S.n) res.av)).map fun S'=>(S',[res.pre])
      | none=>none
      else none
     | none=>none
    | none=>none
   | none=>none
  | _=>none
 | _=>none
/- what is new,or lies at a place -/
mutual
def AV.nova:AV->Bool
 | .sl fr _ _=>fr
 | .wide fr _ _ _=>fr
 | .pto _ _=>false
 | .agg cs=>AV.novaL cs
 | .tup cs=>AV.novaL cs
 | .fn _ cs=>AV.novaL cs
 | _=>true
def AV.novaL:List AV->Bool
 | []=>true
 | x::l=>AV.nova x&&AV.novaL l
end
def En.nova:En->Bool
 | .box _ cs=>AV.novaL cs
 | .row fr _ _ _=>fr
 | .map fr _ _ _ _ _=>fr
 | _=>false
def Qpm:List (Nat×En)->Bool
 | []=>true
 | (_,e)::l=>En.nova e&&Qpm l
def Qce (C:Cx) (N:Nat) (B:Bs) (S:Sx) (o:Oper):Option (Sx×List VC) :=
 match o.op with
 | .call c=>match c.callee with
  | .value (.func f)=>match Q4u C.fs f with
   | some fo=>match Gt (Qh B S) fo.sig (c.args.toList.map (Z0 B S)) with
    | some avs=>match fo.go avs [] with
     | some res=>if fo.n==0&&AV.nova res.av&&Qpm res.es&&Q6u B (Ga [] S.n) 0 (Zg res.es)&&(fo.fix || !C.fx) then
      match o.dst with
      | some d=>(Qy B ⟨(G0 fo.fix [] S).t,Jg (Ga [] S.n) res.es++(G0 fo.fix [] S).e,S.n+(Q2k 0 (Zg res.es) - 0)⟩ N d (AV.ren (Ga [] S.n) res.av)).map fun S'=>(S',[res.pre])
      | none=>none
      else none
     | none=>none
    | none=>none
   | none=>none
  | _=>none
 | _=>none
/- a place's name is replaced by what it holds -/
mutual
def AV.frz (loc:Nat) (y:AV):AV->AV
 | .own l=>cond (l==loc) y (.own l)
 | .orp t l k off=>cond (l==loc) .un (.orp t l k off)
 | .osl t l a b=>cond (l==loc) .un (.osl t l a b)
 | .pto cs off => .pto (AV.frzL loc y cs) off
 | .agg cs => .agg (AV.frzL loc y cs)
 | .tup cs => .tup (AV.frzL loc y cs)
 | .fn f cs => .fn f (AV.frzL loc y cs)
 | x=>x
def AV.frzL (loc:Nat) (y:AV):List AV->List AV
 | [] => []
 | x::l=>AV.frz loc y x::AV.frzL loc y l
end
def Qqn (loc:Nat) (y:AV):List (Nat×AV)->List (Nat×AV)
 | [] => []
 | (d,x)::l=>(d,AV.frz loc y x)::Qqn loc y l
def Z4z (loc:Nat) (y:AV):En->En
 | .box T cs => .box T (AV.frzL loc y cs)
 | e=>e
def Qhe (loc:Nat) (y:AV):List (Nat×En)->List (Nat×En)
 | [] => []
 | (k,e)::l=>cond (k==loc) (Qhe loc y l) ((k,Z4z loc y e)::Qhe loc y l)
def Z3n (B:Bs) (S:Sx) (loc:Nat):Sx:=match Qh B S loc with
 | some (.row true t _ l)=>cond ((Q3 B.e loc).isNone&&quiet loc B) ⟨Qqn loc (.sl true t l) S.t,Qhe loc (.sl true t l) S.e,S.n⟩ S
 | _=>S
def Q11 (B:Bs):List Nat->Sx->Sx
 | [],S=>S
 | l::ls,S=>Q11 B ls (Z3n B S l)
def AV.ownsL:List AV->List Nat
 | [] => []
 | .own l::r=>l::AV.ownsL r
 | _::r=>AV.ownsL r
def AV.owns:AV->List Nat
 | .own l => [l]
 | .agg cs=>AV.ownsL cs
 | _ => []
def Qw3:List AV->List Nat
 | [] => []
 | x::l=>AV.owns x++Qw3 l
def Jp:List Nat->List (Nat×AV)->List (Nat×AV)
 | [],_ => []
 | d::ds,l=>match Q3 l d with
  | some x=>(d,x)::Jp ds l
  | none=>Jp ds l
def Qwq:List (Nat×List Nat)->Nat->Option (List Nat)
 | [],_=>none
 | (k,l)::m,id=>cond (k==id) (some l) (Qwq m id)
def Qf3 (C:Cx) (id:Nat) (S:Sx):Sx:=match Qwq C.kp id with
 | none=>S
 | some ks=>⟨Jp ks S.t,S.e,S.n⟩
def Qyc (B:Bs) (S:Sx):Op->Sx
 | .buildSlice _ _ parts=>Q11 B (Qw3 (parts.toList.map fun p=>Z0 B S p.2)) S
 | .store _ ad x=>match Z0 B S ad with
  | .orp _ _ _ _=>Q11 B (AV.owns (Z0 B S x)) S
  | _=>S
 | .mapUpdate _ _ _ v=>Q11 B (AV.owns (Z0 B S v)) S
 | .entryStore _ _ _ v=>Q11 B (AV.owns (Z0 B S v)) S
 | _=>S
section
variable {w w0:World} {ρ:Nat->Option Rl} {base:Nat} {ro:Nat->Prop} {S0:Pm} {N:Nat} {B:Bs} {S:Sx} {a:Act}
theorem Q4c (loc:Nat) (y:AV):∀ (l:List AV) (j:Nat),(AV.frzL loc y l)[j]? = (l[j]?).map (AV.frz loc y)
 | [],j=>by simp [AV.frzL]
 | x::l,0=>by simp [AV.frzL]
 | x::l,j+1=>by simp only [AV.frzL,List.getElem?_cons_succ]; exact Q4c loc y l j
theorem Q4l (loc:Nat) (y:AV):∀ (l:List AV),(AV.frzL loc y l).length=l.length
 | []=>rfl
 | x::l=>by simp [AV.frzL,Q4l loc y l]
theorem Qbd {loc d:Nat} {y:AV}:∀ (l:List (Nat×AV)),Q3 (Qqn loc y l) d=(Q3 l d).map (AV.frz loc y)
 | []=>rfl
 | (k,x)::l=>by
  simp only [Qqn,Q3];split
  . rfl
  . exact Qbd l
theorem Qaw {loc d:Nat} {y:AV}:∀ (l:List (Nat×En)),Q3 (Qhe loc y l) d=if d=loc then none else (Q3 l d).map (Z4z loc y)
 | []=>by simp [Qhe,Q3]
 | (k,e)::l=>by
  have ih:=Qaw (loc:=loc) (d:=d) (y:=y) l;simp only [Qhe]
  cases hk:k==loc with
  | true =>
   have hk':k=loc:=by simpa using hk
   simp only [cond_true,Q3];rw [ih];split
   . rfl
   . rename_i hd;have:(k==d)=false:=by simp only [beq_eq_false_iff_ne]; omega
     simp only [this,Bool.false_eq_true,if_false]
  | false =>
   simp only [cond_false,Q3];by_cases hkd:k=d
   . subst hkd;have:¬ k=loc:=by simpa using hk
     simp [this]
   . have hkd':(k==d)=false:=by simpa using hkd
     simp only [hkd',Bool.false_eq_true,if_false];exact ih
theorem Q34 {d:Nat} {x:AV} {l:List (Nat×AV)}:∀ {ds:List Nat},Q3 (Jp ds l) d=some x->Q3 l d=some x
 | [],h=>by cases h
 | k::ds,h=>by
  unfold Jp at h;split at h
  . rename_i y hy;simp only [Q3] at h;split at h
    . rename_i hk;have hk':k=d:=by simpa using hk
      subst hk';rw [hy];exact h
    . exact Q34 h
  . exact Q34 h
theorem Z3w (C:Cx) (id:Nat) (H:Sim w0 S0 N B S a w):Sim w0 S0 N B (Qf3 C id S) a w:=by
 unfold Qf3;split
 . exact H
 . rename_i ks _;obtain⟨ρ,ro,H⟩:=H;refine⟨ρ,ro,H.from_,H.size,H.defers,H.roB,fun d x h=>H.tm d x ?_,H.en,H.apart,H.fresh,H.own,H.roS,H.solid,fun d x h => ?_,H.disE⟩
   . unfold Zh at h ⊢;dsimp only at h
     cases hp:Q3 (Jp ks S.t) d with
     | some y =>
      rw [hp] at h;rw [Q34 hp];exact h
     | none =>
      rw [hp] at h;rw [H.disT d x h];exact h
   . show Q3 (Jp ks S.t) d=none
     cases hp:Q3 (Jp ks S.t) d with
     | none=>rfl
     | some y=>have:=Q34 hp; rw [H.disT d x h] at this; cases this
theorem AVR.frz_ {x:AV} {v:Value} {loc n c:Nat} {A:Option Addr} {y:AV} (h:AVR w ρ base ro x v) (hr : ρ loc=some (.row A n c)) (hy:AVR w (fun l=>if l=loc then none else ρ l) base (fun b=>ro b\/A.map (·.block)=some b) y (.slice A n c)) :
 AVR w (fun l=>if l=loc then none else ρ l) base (fun b=>ro b\/A.map (·.block)=some b) (AV.frz loc y x) v:=by
 have hρ:∀ l r,ρ l=some r->l≠loc->(fun l=>if l=loc then none else ρ l) l=some r:=fun l r h hl=>by simp only [if_neg hl]; exact h
 have hns:∀ l r,ρ l=some r->r.solid=true->l≠loc:=fun l r h h2 e=>by subst e; rw [hr] at h; cases h; cases h2
 induction h with
 | un=>exact .un _
 | int=>exact .int _ _
 | lit=>exact .lit _ _
 | bool=>exact .bool _
 | blit=>exact .blit _
 | str=>exact .str _
 | nil=>exact .nil
 | sl fr t l A' c' css hl hc hrd hro1 hfr h ih =>
  refine .sl fr t l A' c' css hl hc hrd (fun a ha hn => .inl (hro1 a ha hn)) hfr fun k cs j x v k1 k2 k3 => ?_;have h1:=h k cs j x v k1 k2 k3;have h2:=Yv (Vy fr t _ loc) k2;exact (h1.move (ρ':=fun l=>if l=loc then none else ρ l) h2 fun l r q1 q2=>hρ l r q1 (q2.elim id (hns l r q1))).mono (fun _ _ _=>rfl) (Ext.refl _) (Nat.le_refl _) fun _ hb => .inl hb
 | wide fr t l n A' c' hn h ih=>exact .wide fr t l n A' c' hn ih
 | pto cells off b o cs hro1 hlt hl hc h ih =>
  refine .pto _ off b o cs (.inl hro1) hlt (by rw [Q4l]; exact hl) hc fun j x v k1 k2 => ?_;rw [Q4c] at k1;obtain⟨z,k3,rfl⟩:=Option.map_eq_some_iff.1 k1;exact ih j z v k3 k2
 | ptr l off b h=>exact .ptr _ _ _ (hρ _ _ h (hns _ _ h rfl))
 | own l A' n' c' h =>
  unfold AV.frz
  cases hl:l==loc with
  | true =>
   have:l=loc:=by simpa using hl
   subst this;rw [hr] at h;cases h;exact hy
  | false=>exact .own _ _ _ _ (hρ _ _ h (by simpa using hl))
 | orp t l k off A' n' c' b h hA h0 hn =>
  unfold AV.frz
  cases hl:l==loc with
  | true=>exact .un _
  | false=>exact .orp _ _ _ _ _ _ _ _ (hρ _ _ h (by simpa using hl)) hA h0 hn
 | osl t l a b A' n' c' h hab =>
  unfold AV.frz
  cases hl:l==loc with
  | true=>exact .un _
  | false=>exact .osl _ _ _ _ _ _ _ (hρ _ _ h (by simpa using hl)) hab
 | mp l b h=>exact .mp _ _ (hρ _ _ h (hns _ _ h rfl))
 | stamp l s h=>exact .stamp _ _ (hρ _ _ h (hns _ _ h rfl))
 | it l l2 b h=>exact .it _ _ _ (hρ _ _ h (hns _ _ h rfl))
 | agg l vs hl h ih =>
  refine .agg _ _ (by rw [Q4l]; exact hl) fun j x v k1 k2 => ?_;rw [Q4c] at k1;obtain⟨z,k3,rfl⟩:=Option.map_eq_some_iff.1 k1;exact ih j z v k3 k2
 | tup l vs hl h ih =>
  refine .tup _ _ (by rw [Q4l]; exact hl) fun j x v k1 k2 => ?_;rw [Q4c] at k1;obtain⟨z,k3,rfl⟩:=Option.map_eq_some_iff.1 k1;exact ih j z v k3 k2
 | fn f caps vs hl h ih =>
  refine .fn f _ _ (by rw [Q4l]; exact hl) fun j x v k1 k2 => ?_;rw [Q4c] at k1;obtain⟨z,k3,rfl⟩:=Option.map_eq_some_iff.1 k1;exact ih j z v k3 k2
theorem Z6x (hfx:S0.fx=false) (H:Sim w0 S0 N B S a w) (loc:Nat):Sim w0 S0 N B (Z3n B S loc) a w:=by
 obtain⟨ρ,ro,H⟩:=H;unfold Z3n;split
 case h_2=>exact⟨ρ,ro,H⟩
 rename_i t T l he
 cases hc:(Q3 B.e loc).isNone&&quiet loc B with
 | false=>exact⟨ρ,ro,H⟩
 | true =>
  rw [cond_true];simp only [Bool.and_eq_true,Option.isNone_iff_eq_none] at hc;obtain⟨hB,hq⟩:=hc;unfold quiet at hq;simp only [Bool.and_eq_true] at hq;obtain⟨A,c,css,hA,hown,hlen,hcell⟩:=H.en _ _ he;have hown':Z1 w w0.heap.size T t.size A c css:=hown;obtain⟨y,hy⟩:∃ y,AV.sl true t l=y:=⟨_,rfl⟩
  obtain⟨ρ',hρ'⟩:∃ ρ':Nat->Option Rl,ρ'=fun l=>if l=loc then none else ρ l:=⟨_,rfl⟩
  obtain⟨ro',hro'⟩:∃ ro':Nat->Prop,ro'=fun b=>ro b\/A.map (·.block)=some b:=⟨_,rfl⟩
  have hρ:∀ l r,ρ l=some r->l≠loc -> ρ' l=some r:=fun l r h hl=>by rw [hρ']; simp only [if_neg hl]; exact h
  have hns:∀ l r,ρ l=some r->r.solid=true->l≠loc:=fun l r h h2 e=>by subst e; rw [hA] at h; cases h; cases h2
  have hback:∀ l r,ρ' l=some r -> ρ l=some r/\l≠loc:=fun l r h=>by
   rw [hρ'] at h;simp only at h;split at h
   . cases h
   . rename_i hl; exact⟨h,hl⟩
  have hmv:∀ x v,AVR w ρ w0.heap.size ro x v->AV.has loc x=false->AVR w ρ' w0.heap.size ro' x v:=fun x v h hx=>(h.move (ρ' := ρ') hx fun l r q1 q2=>hρ l r q1 (q2.elim id (hns l r q1))).mono (fun _ _ _=>rfl) (Ext.refl _) (Nat.le_refl _) fun _ hb=>by rw [hro']; exact .inl hb
  have hbl:∀ b,A.map (·.block)=some b->w0.heap.size<=b/\b<w.heap.size:=fun b hb=>by
   obtain⟨ad,h1,h2⟩:=Option.map_eq_some_iff.1 hb;have h3:=hown'.lt h1;rw [h2] at h3;exact h3
  have hyv:AVR w ρ' w0.heap.size ro' y (.slice A (l ()).length c):=by
   rw [<- hy];refine .sl true t l A c css hlen hown'.cap.1 hown'.rd (fun ad ha _=>by rw [hro']; exact .inr (by rw [ha]; rfl)) (fun _ ad ha _=>(hown'.lt ha).1) fun k cs j x v k1 k2 k3=>hmv x v (hcell k cs j x v k1 k2 k3) (Yv (Vy true t _ loc) k2)
  have hall:∀ x v,AVR w ρ w0.heap.size ro x v->AVR w ρ' w0.heap.size ro' (AV.frz loc y x) v:=fun x v h=>by
   rw [hρ',hro'] at hyv ⊢;exact h.frz_ hA hyv
  have hen:∀ k e,EnR w ρ w0.heap.size ro k e->k≠loc->(∀ T cs,e = .box T cs->False)->EnR w ρ' w0.heap.size ro' k e:=fun k e h hk hb=>by
   cases e with
   | box T cs=>exact (hb T cs rfl).elim
   | row fr t T m =>
    obtain⟨A1,c1,css1,k1,k2,k3,k4⟩:=h;exact⟨A1,c1,css1,hρ _ _ k1 hk,k2,k3,fun i cs j x v q1 q2 q3=>hmv x v (k4 i cs j x v q1 q2 q3) (Yv (Vy fr t _ loc) q2)⟩
   | map fr ag c t T m =>
    obtain⟨b,es,clock,k1,k2,k3,k4⟩:=h;exact⟨b,es,clock,hρ _ _ k1 hk,k2,k3,k4.map_ fun x v hx=>hmv _ v hx (Qi6 _ _ _ _ _)⟩
   | iter ml c seen left =>
    obtain⟨b,b2,es,clock,since,stamps,c0,k1,k2,k3⟩:=h;exact⟨b,b2,es,clock,since,stamps,c0,hρ _ _ k1 hk,hρ _ _ k2 (hns _ _ k2 rfl),k3⟩
   | stamp ml c key =>
    obtain⟨b,es,clock,s,e,k1,k2,k3⟩:=h;exact⟨b,es,clock,s,e,hρ _ _ k1 hk,hρ _ _ k2 (hns _ _ k2 rfl),k3⟩
   | dead =>
    obtain⟨r,k1⟩:=h;exact⟨r,hρ _ _ k1 hk⟩
  refine⟨ρ',ro',H.from_,H.size,H.defers,fun b hb => ?_,fun d x h => ?_,fun k e h => ?_,fun k k' r r' b hne h1 h2=>H.apart k k' r r' b hne (hback _ _ h1).1 (hback _ _ h2).1,fun k hk => ?_,fun k r b h1 h2 => ?_,fun b hb hlt => ?_,fun k r h1 h2 => ?_,fun d x h => ?_,fun k e h => ?_⟩
  . rw [hro'] at hb;exact hb.elim (H.roB b) fun h=>(hbl b h).2
  . unfold Zh at h;dsimp only at h;rw [Qbd] at h
    cases hd:Q3 S.t d with
    | none =>
     rw [hd] at h;obtain⟨u,h1,h2⟩:=H.tm d x (by unfold Zh; rw [hd]; exact h);exact⟨u,h1,hmv x u h2 (Qag hq.1 h)⟩
    | some z =>
     rw [hd] at h;simp only [Option.map_some,Option.some.injEq] at h;obtain⟨u,h1,h2⟩:=H.tm d z (by unfold Zh; rw [hd]);refine⟨u,h1,?_⟩;rw [<- h,hy];exact hall z u h2
  . unfold Qh at h;dsimp only at h;rw [Qaw] at h;by_cases hk:k=loc
    . rw [if_pos hk,hk,hB] at h;cases h
    rw [if_neg hk] at h
    cases hd:Q3 S.e k with
    | none =>
     rw [hd] at h;have h1:=H.en k e (by unfold Qh; rw [hd]; exact h)
     cases e with
     | box T cs =>
      obtain⟨b,us,k1,k4,k5⟩:=h1;exact⟨b,us,hρ _ _ k1 hk,k4,k5.1,fun j x v hx hv=>hmv x v (k5.2 j x v hx hv) (Yv (Qat hq.2 h) hx)⟩
     | row fr t T m=>exact hen _ _ h1 hk (fun _ _ h=>by cases h)
     | map fr ag c t T m=>exact hen _ _ h1 hk (fun _ _ h=>by cases h)
     | iter ml c seen left=>exact hen _ _ h1 hk (fun _ _ h=>by cases h)
     | stamp ml c key=>exact hen _ _ h1 hk (fun _ _ h=>by cases h)
     | dead=>exact hen _ _ h1 hk (fun _ _ h=>by cases h)
    | some z =>
     rw [hd] at h;simp only [Option.map_some,Option.some.injEq] at h;have h1:=H.en k z (by unfold Qh; rw [hd]);rw [<- h,hy]
     cases z with
     | box T cs =>
      obtain⟨b,us,k1,k4,k5⟩:=h1;refine⟨b,us,hρ _ _ k1 hk,k4,by rw [Q4l]; exact k5.1,fun j x v hx hv => ?_⟩;rw [Q4c] at hx;obtain⟨z,k3,rfl⟩:=Option.map_eq_some_iff.1 hx;exact hall z v (k5.2 j z v k3 hv)
     | row fr t T m=>exact hen _ _ h1 hk (fun _ _ h=>by cases h)
     | map fr ag c t T m=>exact hen _ _ h1 hk (fun _ _ h=>by cases h)
     | iter ml c seen left=>exact hen _ _ h1 hk (fun _ _ h=>by cases h)
     | stamp ml c key=>exact hen _ _ h1 hk (fun _ _ h=>by cases h)
     | dead=>exact hen _ _ h1 hk (fun _ _ h=>by cases h)
  . have h1:=H.fresh k hk;rw [hρ'];simp only [h1];split<;>rfl
  . obtain⟨h3,h4⟩:=hback _ _ h1;have h5:=H.own k r b h3 h2;refine⟨h5.1,fun hb => ?_,h5.2.2⟩;rw [hro'] at hb;rcases hb with hb|hb
    . exact h5.2.1 hb
    . exact H.apart k loc r _ b h4 h3 hA h2 hb
  . rw [hro'] at hb;rcases hb with hb|hb
    . exact H.roS b hb hlt
    . have:=(hbl b hb).1;omega
  . have h3:=H.solid k r h1 h2;rw [hfx,Bool.or_false] at h2;exact hρ _ _ h3 (hns _ _ h3 h2)
  . show Q3 (Qqn loc _ S.t) d=none
    rw [Qbd,H.disT d x h];rfl
  . show Q3 (Qhe loc _ S.e) k=none
    rw [Qaw,H.disE k e h];split<;>rfl
theorem Q2u (hfx:S0.fx=false):∀ {ls:List Nat} {S:Sx},Sim w0 S0 N B S a w->Sim w0 S0 N B (Q11 B ls S) a w
 | [],_,H=>H
 | l::ls,_,H=>Q2u hfx (ls:=ls) (Z6x hfx H l)
theorem Z5b (hfx:S0.fx=false) (H:Sim w0 S0 N B S a w) (op:Op):Sim w0 S0 N B (Qyc B S op) a w:=by
 unfold Qyc;split
 . exact Q2u hfx H
 . split
   . exact Q2u hfx H
   . exact H
 . exact Q2u hfx H
 . exact Q2u hfx H
 . exact H
end
structure Lp where
 X:Type
 ov:X->List (Nat×AV)
 oe:X->List (Nat×En)
 I:X->Prop
 μ:X->Unit->Nat
 x0:X
 nx:Option (X->X)
inductive Fm where
 | ff (why:Nat)
 | vc (l:List VC) (A:Fm)
 | br (c:Unit->Bool) (A B:Fm)
 | fin (l:List VC)
 | and (A B:Fm)
 | all (X:Type) (I:X->Prop) (f:X->Fm)
 | ex (X:Type) (I:X->Prop) (f:X->Fm)
 | exl (f:Lp->Fm)
def Jo:List VC->Prop
 | []=>True
 | [c]=>c ()
 | c::l=>c ()/\Jo l
def Fm.P:Fm->Prop
 | .ff _=>False
 | .vc l A=>Jo l/\A.P
 | .br c A B=>(c ()=true->A.P)/\(c ()=false->B.P)
 | .fin l=>Jo l
 | .and A B=>A.P/\B.P
 | .all _ I f=>∀ x,I x->(f x).P
 | .ex _ I f=>∃ x,I x/\(f x).P
 | .exl f=>∃ lp,(f lp).P
inductive Kt where
 | code (c:Code)
 | block (id:Nat)
 | back (Bo K:Bs) (f:Bs->Sx->Fm)
 | again (b:Code)
/- what a piece of code writes -/
def Qm5:List Oper->List Nat
 | [] => []
 | o::l=>match o.dst with
  | some d=>d::Qm5 l
  | none=>Qm5 l
def Qe1:Code->List Nat
 | .region _ ops _=>Qm5 ops.toList
 | .seq a b=>Qe1 a++Qe1 b
 | .cond _ a b=>Qe1 a++Qe1 b
 | .block _ b=>Qe1 b
 | .loop b=>Qe1 b
 | .scope b=>Qe1 b
 | _ => []
def Q82:Code->Option Nat
 | .region id _ _=>some id
 | .seq a b=>match Q82 a with
  | some k=>some k
  | none=>Q82 b
 | .cond _ a b=>match Q82 a with
  | some k=>some k
  | none=>Q82 b
 | .block _ b=>Q82 b
 | .loop b=>Q82 b
 | .scope b=>Q82 b
 | _=>none
def ltB (n l:Nat):Bool:=decide (l<n)
/- the places that are named are such as p says -/
mutual
def AV.under (p:Nat->Bool):AV->Bool
 | .own l=>p l
 | .orp _ l _ _=>p l
 | .osl _ l _ _=>p l
 | .ptr l _=>p l
 | .mp l=>p l
 | .stamp l=>p l
 | .it _ l=>p l
 | .pto cs _=>AV.underL p cs
 | .agg cs=>AV.underL p cs
 | .tup cs=>AV.underL p cs
 | .fn _ cs=>AV.underL p cs
 | _=>true
def AV.underL (p:Nat->Bool):List AV->Bool
 | []=>true
 | x::l=>AV.under p x&&AV.underL p l
end
def Ql9 (x:AV):List Nat->Bool
 | []=>false
 | l::ls=>AV.has l x||Ql9 x ls
def Q0o (md locs:List Nat) (n:Nat):List (Nat×AV)->List (Nat×AV)
 | [] => []
 | (d,x)::l=>if Qw d md then Q0o md locs n l else (d,if Ql9 x locs || !AV.under (ltB n) x then .un else x)::Q0o md locs n l
def Qlt (locs:List Nat) (n:Nat):List (Nat×AV)->List Nat
 | [] => []
 | (d,x)::l=>match Ql9 x locs || !AV.under (ltB n) x with
  | true=>d::Qlt locs n l
  | false=>Qlt locs n l
def Qyu (b:Code) (locs:List Nat) (n:Nat) (l:List (Nat×AV)):List Nat:=Qe1 b++Qlt locs n l
def Q8d (locs:List Nat) (n:Nat):List AV->List AV
 | [] => []
 | x::l=>(if Ql9 x locs || !AV.under (ltB n) x then .un else x)::Q8d locs n l
def Qrp (locs:List Nat) (n:Nat):En->En
 | .box T cs => .box T (Q8d locs n cs)
 | .iter ml c seen left=>if Qw ml locs||decide (n<=ml) then .dead else .iter ml c seen left
 | .stamp _ _ _ => .dead
 | e=>e
def Q3z (locs:List Nat) (n:Nat):List (Nat×En)->List (Nat×En)
 | [] => []
 | (k,e)::l=>if Qw k locs||decide (n<=k) then Q3z locs n l else (k,Qrp locs n e)::Q3z locs n l
def Q3p:List Nat->List Nat->Bool
 | [],[]=>true
 | a::l,b::m=>a==b&&Q3p l m
 | _,_=>false
def Gg (p:Nat->Bool):List (Nat×AV)->Bool
 | []=>true
 | (_,x)::l=>AV.under p x&&Gg p l
def toT (F:Tc->Type) {t t':Tc} (h:t=t') (x:F t):F t':=h▸x
/- is what is there as is wanted? -/
def Z8u (a b:Unit->Int):List VC := [fun _=>a ()=b ()]
mutual
def Qm2 (fz:Option (List Nat)) (B:Bs) (S:Sx):AV->AV->Option (List VC)
 | _,.un=>some []
 | .int k a,.int k' b=>if k=k' then some (Z8u a b) else none
 | .lit k a,.int k' b=>if k=k' then some [fun _=>a=b ()] else none
 | .int k a,.lit k' b=>if k=k' then some [fun _=>a ()=b] else none
 | .lit k a,.lit k' b=>if k=k'/\a=b then some [] else none
 | .bool a,.bool b=>some [fun _=>a ()=b ()]
 | .blit a,.bool b=>some [fun _=>a=b ()]
 | .bool a,.blit b=>some [fun _=>a ()=b]
 | .blit a,.blit b=>if a=b then some [] else none
 | .str a,.str b=>some [fun _=>a ()=b ()]
 | .nil,.nil=>some []
 | .nil,.sl _ _ l=>some [fun _=>l () = []]
 | .nil,.own loc=>match fz with
  | none=>if decide (S.n<=loc) then some [] else none
  | some _=>none
 | .sl fr t l,.sl fr' t' m=>if h:t'=t then (if fr || !fr' then some [fun _=>l ()=toT (fun t=>List t.el) h (m ())] else none) else none
 | .own loc,.sl fr' t' m=>match fz with
  | none=>none
  | some ks=>if Qw loc ks then none else match Qh B S loc with
   | some (.row fr t _ l)=>if h:t'=t then (if fr || !fr' then some [fun _=>l ()=toT (fun t=>List t.el) h (m ())] else none) else none
   | _=>none
 | .wide fr t l n,.sl fr' t' m=>if h:t'=t then (if fr || !fr' then some [fun _=>(l ()).take (n ())=toT (fun t=>List t.el) h (m ())] else none) else none
 | .wide fr t l n,.wide fr' t' m k=>if h:t'=t then (if fr || !fr' then some [fun _=>l ()=toT (fun t=>List t.el) h (m ()),fun _=>n ()=k ()] else none) else none
 | .own loc,.own loc'=>if loc=loc' then some [] else none
 | .ptr loc off,.ptr loc' off'=>if loc=loc'/\off=off' then some [] else none
 | .mp loc,.mp loc'=>if loc=loc' then some [] else none
 | .it l l2,.it l' l2'=>if l=l'/\l2=l2' then some [] else none
 | .agg l,.agg m=>Qbs fz B S l m
 | .tup l,.tup m=>Qbs fz B S l m
 | .fn f l,.fn g m=>if f=g then Qbs fz B S l m else none
 | _,_=>none
def Qbs (fz:Option (List Nat)) (B:Bs) (S:Sx):List AV->List AV->Option (List VC)
 | [],[]=>some []
 | x::l,y::m=>match Qm2 fz B S x y,Qbs fz B S l m with
  | some a,some b=>some (a++b)
  | _,_=>none
 | _,_=>none
end
def Qmh (B:Bs) (S:Sx):List (Nat×AV)->Option (List VC)
 | []=>some []
 | (d,y)::l=>match Zh B S d,Qmh B S l with
  | some x,some b=>(Qm2 none B S x y).map fun a=>a++b
  | _,_=>none
def Q2t (fz:Option (List Nat)) (B:Bs) (S:Sx):List (Nat×En)->Option (List VC)
 | []=>some []
 | (k,.box T cs)::l=>match Qh B S k with
  | some (.box T' cs')=>if T=T' then (match Qbs fz B S cs' cs,Q2t fz B S l with
   | some a,some b=>some (a++b)
   | _,_=>none) else none
  | _=>none
 | (k,.row fr t T m)::l=>match Q2t fz B S l with
  | some b=>match Qh B S k with
   | some (.row fr' t' T' m')=>if h:t=t' then (if T=T'/\(fr' || !fr)=true then some ((fun _=>m' ()=toT (fun t=>List t.el) h (m ()))::b) else none) else none
   | some _=>none
   | none=>match fz with
    | none=>if S.n<=k then some ((fun _=>m () = [])::b) else none
    | some _=>none
  | none=>none
 | (k,.map fr ag c t T m)::l=>match Q2t fz B S l with
  | some b=>match Qh B S k with
   | some (.map fr' ag' c' t' T' m')=>if h:t=t' then (if T=T'/\ag=ag'/\c=c'/\(fr' || !fr)=true then some ((fun _=>m' ()=toT (fun t=>List Kx->Option t.el) h (m ()))::b) else none) else none
   | _=>none
  | none=>none
 | (k,.iter ml c seen left)::l=>match Q2t fz B S l with
  | some b=>match Qh B S k with
   | some (.iter ml' c' seen' left')=>if ml=ml'/\c=c' then some ((fun _=>seen' ()=seen ())::(fun _=>left' ()=left ())::b) else none
   | _=>none
  | none=>none
 | (_,.stamp _ _ _)::_=>none
 | (_,.dead)::_=>none
def En.under (p:Nat->Bool):En->Bool
 | .box _ cs=>AV.underL p cs
 | .iter ml _ _ _=>p ml
 | .stamp ml _ _=>p ml
 | _=>true
def Kv (p:Nat->Bool):List (Nat×En)->Bool
 | []=>true
 | (k,e)::l=>p k&&En.under p e&&Kv p l
def J1 {α β:Type} (l:List (Nat × α)):List (Nat × β)->Bool
 | []=>true
 | (d,_)::m=>(Q3 l d).isNone&&J1 l m
def eqS (B:Bs) (S:Sx) (ov:List (Nat×AV)) (oe:List (Nat×En)):Fm :=
 match Qmh B S ov,Q2t none B S oe with
 | some a,some b => .fin (a++b)
 | _,_ => .ff 1
inductive Wd where
 | yes|no|ask (d:Nat) (c:Unit->Bool) (b:Bool)|stuck
def Kb (B:Bs) (S:Sx) (ops:List Oper) (o:Oper):Wd :=
 match o.guard with
 | none => .yes
 | some (j,b)=>match (ops[j]?).bind (·.dst) with
  | some d=>match Q24 B S d with
   | .blit c=>if c=b then .yes else .no
   | .bool c => .ask d c b
   | .tup [] => .no
   | _ => .stuck
  | none => .stuck
def Gd (C:Cx) (N:Nat) (B:Bs) (S:Sx) (o:Oper):Option (Sx×List VC) :=
 match Gz C.ty C.cs (Qh B S) (Z0 B S) o.op with
 | some (av,vcs)=>match o.dst with
  | some d=>(Qy B S N d av).map fun S'=>(S',vcs)
  | none=>some (S,vcs)
 | none=>match Qpr C N B (cond C.fx S (Qyc B S o.op)) o with
  | some r=>some r
  | none=>match Qdq C N B S o with
   | some r=>some r
   | none=>Qce C N B S o
def Kw (C:Cx) (N:Nat) (B:Bs) (S:Sx) (o:Oper):Option ((Sx->Fm)->Fm) :=
 match o.op with
 | .range T x=>match Km C.ty T,Z0 B S x,o.dst with
  | some (.map _ _ _ _ _),.mp loc,some d=>match Qh B S loc with
   | some (.map _ _ c _ _ _)=>match (Q3 B.e S.n).isNone,Qy B ⟨S.t,S.e,S.n+1⟩ N d (.it loc S.n) with
    | true,some S'=>some fun K => .all Nat (fun _=>True) fun n=>K ⟨S'.t,(S.n,.iter loc c (fun _ => []) fun _=>n)::S'.e,S'.n⟩
    | _,_=>none
   | _=>none
  | _,_,_=>none
 | .next x false=>match Z0 B S x,o.dst with
  | .it loc l2,some d=>match Qh B S loc,Qh B S l2 with
   | some (.map _ _ c _ _ m),some (.iter ml c' seen left)=>if ml=loc/\c'=c/\(Q3 B.e l2).isNone=true then
    match Qy B S N d (.tup [.blit false]),Qy B S N d (.tup [.blit true,.un,.un]) with
    | some S1,some S2=>some fun K => .br (fun _=>left ()==0) (.all Unit (fun _=>∀ key x,Zd c.ls key=true->m () key=some x->key∈seen ()) fun _=>K S1) (.all (List Kx×Nat) (fun p=>Zd c.ls p.1=true/\(m () p.1).isSome=true/\p.1∉seen ()/\p.2<left ()) fun p=>K ⟨S2.t,(l2,.iter loc c (fun _=>p.1::seen ()) fun _=>p.2)::S2.e,S2.n⟩)
    | _,_=>none
    else none
   | _,_=>none
  | _,_=>none
 | _=>none
def Jd (N:Nat) (B:Bs) (S:Sx) (o:Oper):Option Sx:=match o.dst with
 | some d=>Qy B S N d (.tup [])
 | none=>some S
def Qq (C:Cx) (N:Nat) (B:Bs) (ops:List Oper):List Oper->Sx->(Sx->Fm)->Fm
 | [],S,k=>k S
 | o::rest,S,k =>
  let go (S:Sx):Fm:=match Kw C N B S o with
   | some f=>f fun S'=>Qq C N B ops rest S' k
   | none=>match Gd C N B S o with
    | some (S',[])=>Qq C N B ops rest S' k
    | some (S',vcs) => .vc vcs (Qq C N B ops rest S' k)
    | none => .ff (1000+rest.length)
  let no (S:Sx):Fm:=match Jd N B S o with
   | some S'=>Qq C N B ops rest S' k
   | none => .ff 3
  match Kb B S ops o with
  | .yes=>go S
  | .no=>no S
  | .ask d c b=>match Qy B S N d (.blit true),Qy B S N d (.blit false) with
   | some S1,some S2 => .br c (if b then go S1 else no S1) (if b then no S2 else go S2)
   | _,_ => .ff 4
  | .stuck => .ff 5
def Gv (ef:List Nat):Op->Bool
 | .alloc _=>false
 | .box _ _=>false
 | .store _ _ _=>false
 | .buildSlice _ _ _=>false
 | .makeSlice _ _ _=>false
 | .makeMap _ _=>false
 | .mapUpdate _ _ _ _=>false
 | .mapEntry _ _ _=>false
 | .entryStore _ _ _ _=>false
 | .insert _ _ _ _=>false
 | .range _ _=>false
 | .next _ _=>false
 | .call c=>match c.callee with
  | .builtin .len=>true
  | .builtin .min=>true
  | .builtin .max=>true
  | .builtin _=>false
  | .value (.func f) => !Qw f ef
  | _=>true
 | _=>true
def Z5y:Op->Bool
 | .mapEntry _ _ _=>true
 | _=>false
def Q5i:Op->Bool
 | .move _=>true
 | .assign _=>true
 | .binOp _ _ _ _ _=>true
 | .unOp _ _ _=>true
 | .convert _ _ _=>true
 | .fieldAddr _ _ _=>true
 | .indexAddr _ _ _=>true
 | .extract _ _=>true
 | _=>false
def Qv1 (ef:List Nat) (me:Bool) (op:Op):Bool:=Gv ef op&&(!me||Q5i op)
def Qle (ef:List Nat) (me:Bool):List Oper->List Bool->List Bool
 | [],acc=>acc
 | o::l,acc=>Qle ef me l (acc ++ [Qv1 ef me o.op&&o.after.all fun e => !Region.binds .any e||acc.getD e.on false])
def Z4y (l:List Oper):Nat->List Nat->List Nat
 | 0,acc=>acc
 | j+1,acc=>Z4y l j (match Qw j acc with
  | true=>(match l[j]? with
   | some o=>(o.after.toList.filter fun e=>Region.binds .any e).map (fun e=>e.on)++acc
   | none=>acc)
  | false=>acc)
def Qva:Nat->List Bool->Option Nat
 | _,[]=>none
 | i,b::l=>if b then Qva (i+1) l else some i
def Z91 (l:List Oper) (f:List Bool):Bool:=match Qva 0 f with
 | none=>false
 | some j =>
  let an:=Z4y l (j+1) [j]
  (List.range l.length).any fun i=>f.getD i false && !Qw i an&&match l[i]? with
   | some o => !Q5i o.op
   | none=>false
def Z0o (ef:List Nat) (l:List Oper):Bool:=(l.any fun o=>Z5y o.op)||Z91 l (Qle ef false l [])
def Q81 (ef:List Nat) (l:List Oper):List Nat :=
 let f:=Qle ef (Z0o ef l) l []
 ((List.range l.length).filter fun i=>f.getD i false)++(List.range l.length).filter fun i => !f.getD i false
def Q4z (ef:List Nat) (me:Bool):List Oper->Nat
 | []=>0
 | o::l=>if Qv1 ef me o.op then Q4z ef me l+1 else 0
def Q0e (ef:List Nat) (l:List Oper):Nat:=Q4z ef (Z0o ef l) l
def Qmw:List (Nat×List Nat)->Nat->List Nat
 | [],_ => []
 | (k,l)::m,id=>cond (k==id) l (Qmw m id)
def Vn (K B:Bs):Bs:=⟨K.t++B.t,K.e++B.e⟩
def Q6k (K:Bs) (S:Sx):Sx:=⟨S.t++K.t,S.e++K.e,S.n⟩
def Qzj (l:List Oper) (np:Nat):Bool:=(List.range np).all fun i=>match l[i]? with
 | some o=>(match o.guard with
  | none=>true
  | some (j,_)=>decide (j<i)&&o.after.any fun e=>Region.binds .any e&&e.on==j) && !Qk7 o.op&&o.op.operands.toList.all fun x=>match x with
  | .tmp s=>Qit l np i o s
  | _=>true
 | none=>false
def V8:List Nat->Nat->Nat
 | [],_=>0
 | k::l,j=>if k=j then 0 else V8 l j+1
def Qij (σ:List Nat) (e:Edge):Edge := { e with on:=V8 σ e.on }
def Gx (σ:List Nat) (o:Oper):Oper := { o with after:=o.after.map (Qij σ),guard:=match o.guard with
 | some (g,b)=>some (V8 σ g,b)
 | none=>none }
def Z81 : Oper := ⟨none, .move (.const (.bool false)), 0, "", #[], none⟩
def Qr (σ:List Nat) (l:List Oper):List Oper := σ.map fun i=>Gx σ (match l[i]? with
 | some o=>o
 | none=>Z81)
def Y2 (σ:List Nat) (n:Nat):Bool := σ.length==n&&((List.range n).all fun j => σ[V8 σ j]? == some j)&&(List.range n).all fun k=>match σ[k]? with
 | some i=>decide (i<n)&&V8 σ i==k
 | none=>false
def Q3d (l:List Oper) (i:Nat):Bool:=match l[i]? with
 | some oi=>(List.range l.length).all fun j=>match l[j]? with
  | some oj=>i==j||(oi.after.any fun e=>Region.binds .any e&&e.on==j)||(oj.after.any fun e=>Region.binds .any e&&e.on==i)||oi.apart l.toArray oj
  | none=>true
 | none=>true
def Q7f (l:List Oper) (np:Nat) (reg:Nat->Bool):Bool :=
 (List.range l.length).all fun j=>match l[j]? with
  | some o=>(o.after.all fun e => !Region.binds .any e||decide (e.on<j))&&(decide (j<np)||(List.range np).all fun i=>reg i||Q1r .any l.toArray l.length j i)
  | none=>false
def Q03 (ef:List Nat) (l:List Oper):List Oper:=Qr (Q81 ef l) l
def Q6r (l:List Oper) (np i:Nat):Bool:=decide (i<np)&&match l[i]? with
 | some o=>Q5i o.op
 | none=>false
def Qdf (ef:List Nat) (ops:List Oper) (N:Nat):Bool :=
 let l:=Q03 ef ops
 let np:=Q0e ef l
 Y2 (Q81 ef ops) ops.length&&(Q7f l np (Q6r l np)&&(Q1l l np N&&(Qzj l np&&((List.range np).all (fun i => !Q6r l np i||Q3d l i)&&l.all fun o => !Qk7 o.op))))
def Q71 (ef:List Nat) (σ:List Nat) (np:Nat) (ops:List Oper) (N:Nat):Bool :=
 let l:=Qr σ ops
 decide (np<=l.length)&&((l.take np).all (fun o=>Gv ef o.op)&&(Y2 σ ops.length&&(Q7f l np (Q6r l np)&&(Q1l l np N&&(Qzj l np&&((List.range np).all (fun i => !Q6r l np i||Q3d l i)&&l.all fun o => !Qk7 o.op))))))
def Q9u (l:List Oper) (np:Nat):Bool:=(List.range l.length).all fun j=>decide (j<=np)||match l[j]? with
 | some o=>o.after.any fun e=>Region.binds .any e&&e.on==j - 1
 | none=>false
def Vq (l:List Oper) (done:List Nat):List Nat:=(List.range l.length).filter fun i=>match l[i]? with
 | some o => !Qw i done&&o.after.all fun e => !Region.binds .any e||Qw e.on done
 | none=>false
def Qid:List Nat->(Nat->Fm)->Fm
 | [],_ => .ff 19
 | [i],f=>f i
 | i::l,f => .and (f i) (Qid l f)
def Q10 (l:List Oper):List Nat->Option Nat
 | []=>none
 | i::is=>if (match l[i]? with
  | some o=>Q5i o.op&&o.dst.isSome&&Q3d l i
  | none=>false) then some i else Q10 l is
def Q4v:Op->Bool
 | .move _=>true
 | .assign _=>true
 | .load _ _=>true
 | .indexAddr _ _ _=>true
 | .unOp _ _ _=>true
 | .fieldAddr _ _ _=>true
 | .extract _ _=>true
 | _=>false
def Qlk (l:List Oper) (done:List Nat) (i:Nat):Bool:=match l[i]? with
 | some oi=>Q4v oi.op&&(oi.dst.isSome&&(List.range l.length).all fun j=>j==i||(Qw j done||(Q1r .any l.toArray l.toArray.size j i||match l[j]? with
  | some oj=>oi.apart l.toArray oj&&Q4v oj.op
  | none=>true)))
 | none=>false
def Q41 (l:List Oper) (done:List Nat):List Nat->Option Nat
 | []=>none
 | i::is=>if Qlk l done i then some i else Q41 l done is
def Q13 (C:Cx) (N:Nat) (B:Bs) (l:List Oper):Nat->List Nat->Sx->(Sx->Fm)->Fm
 | 0,done,S,k=>match Vq l done with
  | []=>k S
  | _ => .ff 19
 | fuel+1,done,S,k =>
  let one (i:Nat):Fm:=match l[i]? with
   | some o=>Qq C N B l [o] S fun S'=>Q13 C N B l fuel (i::done) S' k
   | none => .ff 19
  match Vq l done with
  | []=>k S
  | [i]=>one i
  | is=>match Q10 l is with
   | some i=>one i
   | none=>Qid is one
def Qvw (C:Cx) (N:Nat) (B:Bs) (l:List Oper) (np:Nat) (S:Sx) (k:Sx->Fm):Fm :=
 Qq C N B l (l.take np) S fun S'=>match Q9u l np with
  | true=>Qq C N B l (l.drop np) S' k
  | false=>Q13 C N B l (l.length - np) (List.range np) S' k
def Qkr (C:Cx) (N:Nat) (B:Bs) (l:List Oper) (S:Sx) (k:Sx->Fm):Fm:=Qvw C N B l (Q0e (efs C.fs) l) S k
def Zu (C:Cx) (N:Nat) (B:Bs) (ops:List Oper):Sch->Sx->(Sx->Fm)->Fm
 | .nil,S,k=>k S
 | .bad,_,_ => .ff 20
 | .op i r,S,k=>match ops[i]? with
  | some o=>Qq C N B ops [o] S fun S'=>Zu C N B ops r S' k
  | none => .ff 21
 | .alt a b,S,k => .and (Zu C N B ops a S k) (Zu C N B ops b S k)
def Qpk:List (Nat×Sch)->Nat->Option Sch
 | [],_=>none
 | (k,s)::m,id=>cond (k==id) (some s) (Qpk m id)
def Qpn:List (Nat×Lat)->Nat->Option Lat
 | [],_=>none
 | (k,s)::m,id=>cond (k==id) (some s) (Qpn m id)
def Qi:List Nat->Sch->Sch
 | [],r=>r
 | i::is,r => .op i (Qi is r)
def Jq (ks:List Nat):List (Nat×En)->List (Nat×En)
 | [] => []
 | (k,e)::l=>match Qw k ks,e with
  | true,_=>Jq ks l
  | false,.stamp _ _ _=>Jq (k::ks) l
  | false,.dead=>Jq (k::ks) l
  | false,e=>(k,e)::Jq (k::ks) l
def Qpi (C:Cx) (N:Nat) (B:Bs) (ops:List Oper) (o:Oper) (S:Sx):Option Sx:=match Kb B S ops o with
 | .yes=>match Kw C N B S o with
  | some _=>none
  | none=>match Gd C N B S o with
   | some (S',_)=>some S'
   | none=>none
 | .no=>Jd N B S o
 | _=>none
def Q3y (ks:List Nat) (S:Sx):Sx:=⟨Jp ks S.t,Jq [] S.e,S.n⟩
def Qiv (C:Cx) (N:Nat) (B:Bs) (ops:List Oper):List Nd->List (Sx×List Nat)->Option (List (Sx×List Nat))
 | [],acc=>some acc
 | nd::nds,acc=>match acc[nd.up.1]?,ops[nd.up.2]? with
  | some p,some o=>match Qpi C N B ops o p.1 with
   | some S'=>Qiv C N B ops nds (acc ++ [(Q3y nd.ks S',p.2++List.replicate (S'.n - p.1.n) nd.up.2)])
   | none=>none
  | _,_=>none
def Z22 (x:Nat):List Nat->Nat
 | []=>0
 | y::l=>cond (y==x) (Z22 x l+1) (Z22 x l)
def Z3u (x:Nat):Nat->List Nat->Nat
 | _,[]=>0
 | k,y::l=>match y==x,k with
  | true,0=>0
  | true,k+1=>Z3u x k l+1
  | false,k=>Z3u x k l+1
def Q3g (b:List Nat):List Nat->List Nat->List Nat
 | _,[] => []
 | seen,x::l=>Z3u x (Z22 x seen) b::Q3g b (x::seen) l
def gO (n0:Nat) (σ:List Nat) (l:Nat):Nat:=match decide (l<n0) with
 | true=>l
 | false=>match σ[l - n0]? with
  | some k=>n0+k
  | none=>l
def Qci (g:Nat->Nat):List (Nat×AV)->List (Nat×AV)
 | [] => []
 | (k,x)::l=>(k,AV.ren g x)::Qci g l
def toF (B:Bs) (n0:Nat) (own:List Nat) (T:Sx×List Nat) (S':Sx):Fm:=match S'.n==T.1.n with
 | true=>match Q3p (Q3g T.2 [] own) (List.range own.length) with
  | true=>eqS B S' T.1.t T.1.e
  | false=>match Y2 (Q3g T.2 [] own) own.length&&decide (n0+own.length<=S'.n) with
   | true=>eqS B ⟨Qci (gO n0 (Q3g T.2 [] own)) S'.t,Jg (gO n0 (Q3g T.2 [] own)) S'.e,S'.n⟩ T.1.t T.1.e
   | false => .ff 26
 | false => .ff 27
def Qrc (nds:List Nd) (t j oi:Nat):Bool:=match nds[t]? with
 | some nd=>nd.up.1==j&&(nd.up.2==oi && !(t==0))
 | none=>false
def edF (C:Cx) (N:Nat) (B:Bs) (ops:List Oper) (n0:Nat) (nds:List Nd) (sts:List (Sx×List Nat)) (j:Nat) (Sj:Sx×List Nat):List (Nat×Nat×Nat)->Fm->Fm
 | [],A=>A
 | (_,oi,t)::es,A=>match ops[oi]?,sts[t]? with
  | some o,some T => .and (match Qrc nds t j oi with
   | true=>Qq C N B ops [o] Sj.1 fun _ => .fin []
   | false=>Qq C N B ops [o] Sj.1 fun S'=>toF B n0 (Sj.2++List.replicate (S'.n - Sj.1.n) oi) T S') (edF C N B ops n0 nds sts j Sj es A)
  | _,_ => .ff 28
def okN (B:Bs) (S:Sx):Bool:=Gg (ltB S.n) S.t&&(Kv (ltB S.n) S.e&&(J1 B.t S.t&&J1 B.e S.e))
def ndF (C:Cx) (N:Nat) (B:Bs) (ops:List Oper) (n0:Nat) (nds:List Nd) (sts:List (Sx×List Nat)) (k:Sx->Fm):Nat->List Nd->Fm
 | _,[] => .ff 29
 | j,nd::r=>match sts[j]? with
  | some Sj=>match okN B Sj.1 with
   | true=>match nd.ed with
    | []=>k Sj.1
    | es=>edF C N B ops n0 nds sts j Sj es (ndF C N B ops n0 nds sts k (j+1) r)
   | false => .ff 24
  | none => .ff 30
def Qx1 (C:Cx) (N:Nat) (B:Bs) (ops:List Oper) (nds:List Nd) (S:Sx) (k:Sx->Fm):Fm:=match nds with
 | []=>k S
 | nd::r=>match decide (C.nb<=S.n)&&(Gg (ltB S.n) B.t&&Kv (ltB S.n) B.e) with
  | true=>match Qiv C N B ops r [(Q3y nd.ks S,[])] with
   | some sts=>ndF C N B ops S.n (nd::r) sts k 0 (nd::r)
   | none => .ff 22
  | false => .ff 25
def Qpu (C:Cx) (N:Nat) (B:Bs) (id:Nat) (ops:List Oper) (S:Sx) (k:Sx->Fm):Fm:=match Qpn C.lt id with
 | some t=>Zu C N B ops (Qi t.row .nil) S fun S'=>Zu C N B ops (Qi t.pre .nil) S' fun S'=>Qx1 C N B ops t.nds S' fun S'=>Zu C N B ops (Qi t.post .nil) S' k
 | none=>match Qpk C.sc id with
  | some s=>Zu C N B ops s S k
  | none=>Qkr C N B (Q03 (efs C.fs) ops) S k
def Qt2 (C:Cx) (N:Nat) (B:Bs) (ops:List Oper):List Oper->Sx->Option Sx
 | [],S=>some S
 | o::l,S=>match Kb B S ops o with
  | .yes=>match Gd C N B S o with
   | some (S',_)=>Qt2 C N B ops l S'
   | none=>none
  | .no=>match Jd N B S o with
   | some S'=>Qt2 C N B ops l S'
   | none=>none
  | _=>none
def Qz8 (C:Cx) (N:Nat) (B:Bs) (l:List Oper) (ks:List Nat) (S:Sx) (go:(Sx->Fm)->Fm) (k:Sx->Fm):Fm:=match Qt2 C N B l l S with
 | none => .ff 22
 | some S1=>match Gg (ltB S1.n) (Jp ks S1.t)&&(Kv (ltB S1.n) (Jq [] S1.e)&&(J1 B.t (Jp ks S1.t)&&J1 B.e (Jq [] S1.e))) with
  | true => .and (go fun S'=>if S'.n=S1.n then eqS B S' (Jp ks S1.t) (Jq [] S1.e) else .ff 23) (k ⟨Jp ks S1.t,Jq [] S1.e,S1.n⟩)
  | false => .ff 24
def Z2n (C:Cx) (id:Nat) (f:Unit->Fm):Fm:=match Qw id C.ct with
 | true => .all Unit (fun _=>True) f
 | false=>f ()
/- two places change their names -/
def swp (p q l:Nat):Nat:=cond (l==p) q (cond (l==q) p l)
def Q6l (p q l:Nat):Bool := !(l==p||l==q)
def Qwy (nb:Nat) (B:Bs) (p q:Nat) (S:Sx):Sx:=cond (decide (nb<=p)&&(decide (nb<=q)&&(decide (p<S.n)&&(decide (q<S.n)&&(Gg (Q6l p q) B.t&&Kv (Q6l p q) B.e))))) ⟨Qci (swp p q) S.t,Jg (swp p q) S.e,S.n⟩ S
mutual
def Qpg:AV->AV->List (Nat×Nat)
 | .own p,.own q=>cond (p==q) [] [(p,q)]
 | .agg l,.agg m=>Qia l m
 | .tup l,.tup m=>Qia l m
 | _,_ => []
def Qia:List AV->List AV->List (Nat×Nat)
 | x::l,y::m=>Qpg x y++Qia l m
 | _,_ => []
end
def Z2q (B:Bs) (S:Sx):List (Nat×AV)->List (Nat×Nat)
 | [] => []
 | (d,y)::l=>match Zh B S d with
  | some x=>Qpg x y++Z2q B S l
  | none=>Z2q B S l
def Qx8 (B:Bs) (S:Sx):List (Nat×En)->List (Nat×Nat)
 | [] => []
 | (k,.box _ cs)::l=>match Qh B S k with
  | some (.box _ cs')=>Qia cs' cs++Qx8 B S l
  | _=>Qx8 B S l
 | _::l=>Qx8 B S l
def Qcz (nb:Nat) (B:Bs) (prs:Sx->List (Nat×Nat)):Nat->Sx->Sx
 | 0,S=>S
 | n+1,S=>match prs S with
  | []=>S
  | (p,q)::_=>Qcz nb B prs n (Qwy nb B p q S)
def Qcs (nb:Nat) (B:Bs) (S:Sx) (ov:List (Nat×AV)) (oe:List (Nat×En)):Sx:=Qcz nb B (fun S=>Z2q B S ov++Qx8 B S oe) 3 S
structure Fx where
 C:Cx
 N:Nat
 Ls:List (Nat×Lp)
 R:Bs->Sx->Fm
def Z4w:List (Nat×Lp)->Nat->Option Lp
 | [],_=>none
 | (k,v)::l,d=>if k==d then some v else Z4w l d
mutual
def run (F:Fx) (fuel:Nat) (c:Code) (B:Bs) (S:Sx) (K:List Kt):Fm :=
 match fuel with
 | 0 => .ff 6
 | fuel+1=>match c with
  | .skip=>Q07 F fuel B S K
  | .label _=>Q07 F fuel B S K
  | .region id ops draw=>Z2n F.C id fun _=>match draw with
   | true=>match Qwq F.C.jn id with
    | some ks=>Qz8 F.C F.N B (Q03 (efs F.C.fs) ops.toList) ks (Qf3 F.C id (cond F.C.fx S (Q11 B (Qmw F.C.fz id) S))) (Qpu F.C F.N B id ops.toList (Qf3 F.C id (cond F.C.fx S (Q11 B (Qmw F.C.fz id) S)))) fun S'=>Q07 F fuel B S' K
    | none=>Qpu F.C F.N B id ops.toList (Qf3 F.C id (cond F.C.fx S (Q11 B (Qmw F.C.fz id) S))) fun S'=>Q07 F fuel B S' K
   | false=>Qq F.C F.N B ops.toList ops.toList (Qf3 F.C id (cond F.C.fx S (Q11 B (Qmw F.C.fz id) S))) fun S'=>Q07 F fuel B S' K
  | .seq a b=>run F fuel a B S (.code b::K)
  | .cond x a b=>match Z0 B S x with
   | .blit true=>run F fuel a B S K
   | .blit false=>run F fuel b B S K
   | .bool t => .br t (run F fuel a B S K) (run F fuel b B S K)
   | _ => .ff 8
  | .block id b=>run F fuel b B S (.block id::K)
  | .loop b=>match Q82 b with
   | some k =>
    let go (lp:Lp):Fm :=
     let locs:=Zg (lp.oe lp.x0)
     let n:=Q2k S.n locs
     let K':Bs:=⟨Q0o (Qyu b locs n S.t) locs n S.t,Q3z locs n S.e⟩
     let B':=Vn K' B
     .and (.vc [fun _=>lp.I lp.x0] (eqS B S (lp.ov lp.x0) (lp.oe lp.x0))) (.all lp.X lp.I fun x =>
      if Q3p (Zg (lp.oe x)) locs&&Gg (ltB n) (lp.ov x)&&Kv (ltB n) (lp.oe x)&&J1 B'.t (lp.ov x)&&J1 B'.e (lp.oe x) then
      run F fuel b B' ⟨lp.ov x,lp.oe x,n⟩ (.back B K' (fun Bi S'=>if n<=S'.n then (match lp.nx with
       | some nx => .vc [fun _=>lp.I (nx x)/\lp.μ (nx x) ()<lp.μ x ()] (eqS Bi (Qcs F.C.nb Bi S' (lp.ov (nx x)) (lp.oe (nx x))) (lp.ov (nx x)) (lp.oe (nx x)))
       | none => .ex lp.X (fun y=>lp.I y/\lp.μ y ()<lp.μ x ()) fun y=>eqS Bi (Qcs F.C.nb Bi S' (lp.ov y) (lp.oe y)) (lp.ov y) (lp.oe y)) else .ff 17)::K)
      else .ff 15)
    match Qw k F.C.ul with
    | true=>run F fuel b B S (.again b::K)
    | false=>match Z4w F.Ls k with
     | some lp=>go lp
     | none => .exl go
   | none => .ff 9
  | .exit id=>Gh F fuel id B S K
  | .ret=>Ke F fuel B S K
  | _ => .ff 10
def Q07 (F:Fx) (fuel:Nat) (B:Bs) (S:Sx) (K:List Kt):Fm :=
 match fuel with
 | 0 => .ff 6
 | fuel+1=>match K with
  | []=>F.R B S
  | .code c::K=>run F fuel c B S K
  | .block _::K=>Q07 F fuel B S K
  | .back _ _ f::_=>f B S
  | .again b::K=>run F fuel (.loop b) B S K
def Gh (F:Fx) (fuel:Nat) (id:Nat) (B:Bs) (S:Sx) (K:List Kt):Fm :=
 match fuel with
 | 0 => .ff 6
 | fuel+1=>match K with
  | [] => .ff 11
  | .code _::K=>Gh F fuel id B S K
  | .block id'::K=>if id'=id then Q07 F fuel B S K else Gh F fuel id B S K
  | .back Bo K' _::K=>Gh F fuel id Bo (Q6k K' S) K
  | .again _::K=>Gh F fuel id B S K
def Ke (F:Fx) (fuel:Nat) (B:Bs) (S:Sx) (K:List Kt):Fm :=
 match fuel with
 | 0 => .ff 6
 | fuel+1=>match K with
  | []=>F.R B S
  | .code _::K=>Ke F fuel B S K
  | .block _::K=>Ke F fuel B S K
  | .back Bo K' _::K=>Ke F fuel Bo (Q6k K' S) K
  | .again _::K=>Ke F fuel B S K
end
def Q53 (C:Cx) (B:Bs) (S:Sx):List ResultVar->Option (List AV)
 | []=>some []
 | .tmp t::l=>(Q53 C B S l).map fun r=>Q24 B S t::r
 | .cell p T::l=>match Q3 C.ty T with
  | some i=>match Qdu (Qh B S) i.ti.agg i.sz (Q24 B S p),Q53 C B S l with
   | some x,some r=>some (x::r)
   | _,_=>none
  | none=>none
def Qpj:List AV->AV
 | [x]=>x
 | l => .tup l
def Z53 (C:Cx) (rs:List ResultVar) (want:AV) (es:List (Nat×En)) (B:Bs) (S:Sx):Fm :=
 match Q53 C B S rs with
 | some l=>match Qm2 (some (Zg es)) B S (Qpj l) want,Q2t (some (Zg es)) B S es with
  | some a,some b => .fin (a++b)
  | _,_ => .ff 13
 | none => .ff 14
def Z1r (C:Cx) (rs:List ResultVar) (want:AV) (B:Bs) (S:Sx):Sx:=Qcz C.nb B (fun S=>match Q53 C B S rs with
 | some l=>Qpg (Qpj l) want
 | none => []) 3 S
def Qxq (C:Cx) (rs:List ResultVar) (want:AV) (es:List (Nat×En)) (B:Bs) (S:Sx):Fm:=Z53 C rs want es B (Z1r C rs want B S)
def Qlz:Nat->List AV->List (Nat×AV)
 | _,[] => []
 | k,x::l=>(k,x)::Qlz (k+1) l
def Gy (f:Func):Code:=f.body.getD .skip
/- nothing in it is called new -/
mutual
def AV.noFr:AV->Bool
 | .sl fr _ _ => !fr
 | .wide fr _ _ _ => !fr
 | .pto cs _=>AV.noFrL cs
 | .agg cs=>AV.noFrL cs
 | .tup cs=>AV.noFrL cs
 | .fn _ cs=>AV.noFrL cs
 | _=>true
def AV.noFrL:List AV->Bool
 | []=>true
 | x::l=>AV.noFr x&&AV.noFrL l
end
def En.noFr:En->Bool
 | .box _ cs=>AV.noFrL cs
 | .row fr _ _ _ => !fr
 | .map fr _ _ _ _ _ => !fr
 | _=>true
def Qpy:List (Nat×En)->Bool
 | []=>true
 | (_,e)::l=>En.noFr e&&Qpy l
def inK (ks:List Nat) (l:Nat):Bool:=Qw l ks
def fnG (C:Cx) (Ls:List (Nat×Lp)) (fn:Func) (args:List AV) (es0:List (Nat×En)) (n0:Nat) (want:AV) (es:List (Nat×En)):Fm :=
 if decide (n0<=C.nb)&&decide (args.length<=fn.ntmps)&&AV.noFrL args&&Qpy es0&&AV.under (inK (Zg es)) want&&Kv (inK (Zg es)) es&&Qeg (Zg es) n0 then
 run ⟨C,fn.ntmps,Ls,Qxq C fn.results.toList want es⟩ 100000 (Gy fn) ⟨[],[]⟩ ⟨Qlz 0 args,es0,n0⟩ [] else .ff 18
def fnF (C:Cx) (Ls:List (Nat×Lp)) (fn:Func) (args:List AV) (want:AV):Fm:=fnG C Ls fn args [] 0 want []
end Go.Proofs.YtffeegebohigdaaGreat
