/-
  The abstract run's state, and when a frame and a world are as it says; how it changes.
-/
import Derived.Test.YthfpdbjemfhieaaGreatMt7
set_option linter.unusedVariables false
set_option linter.unusedSimpArgs false
namespace Go.Proofs.YthfpdbjemfhieaaGreat
open Go.RowKit
structure Sx where
 t:List (Nat×AV)
 e:List (Nat×En)
 n:Nat
structure Bs where
 t:List (Nat×AV)
 e:List (Nat×En)
def lookT (B:Bs) (S:Sx) (d:Nat):Option AV:=match alook S.t d with
 | some x=>some x
 | none=>alook B.t d
def lookE (B:Bs) (S:Sx) (l:Nat):Option En:=match alook S.e l with
 | some x=>some x
 | none=>alook B.e l
def getT (B:Bs) (S:Sx) (d:Nat):AV:=match lookT B S d with
 | some x=>x
 | none => .un
def getO (B:Bs) (S:Sx):Operand->AV
 | .tmp d=>getT B S d
 | .const v=>ofVal v
 | .func f => .fn f []
 | .global _ => .un
structure Pm where
 rd:Nat->Prop
 pl:Nat->Option Rl
 fx:Bool
structure FromG (pl:Nat->Option Rl) (w w':World):Prop where
 os:w'.os=w.os
 tape:w'.tape=w.tape
 output:w'.output=w.output
 size:w.heap.size<=w'.heap.size
 block:∀ k,k<w.heap.size->(∀ l r,pl l=some r->r.blk≠some k)->w'.heap[k]? = w.heap[k]?
theorem FromG.refl (pl:Nat->Option Rl) (w:World):FromG pl w w:=⟨rfl,rfl,rfl,Nat.le_refl _,fun _ _ _=>rfl⟩
theorem FromG.grown {pl:Nat->Option Rl} {w0 w w':World} {row:Option Nat} (h:FromG pl w0 w) (hg:w.grownBy w' row) (hr:∀ k,row=some k->w0.heap.size<=k\/∃ l r,pl l=some r/\r.blk=some k):FromG pl w0 w' :=
 ⟨hg.os.trans h.os,hg.tape.trans h.tape,hg.output.trans h.output,Nat.le_trans h.size hg.size,fun k hk hn=>(hg.block k (Nat.lt_of_lt_of_le hk h.size) fun e=>by
  rcases hr k e.symm with h1|⟨l,r,h1,h2⟩
  . omega
  . exact hn l r h1 h2).trans (h.block k hk hn)⟩
theorem grown_from {w w':World} (h:From w w'):w.grownBy w' none:=⟨h.os,h.tape,h.output,h.size,fun i hi _=>h.block i hi⟩
theorem FromG.andThen {pl:Nat->Option Rl} {w0 w w':World} (h:FromG pl w0 w) (hb:From w w'):FromG pl w0 w':=h.grown (grown_from hb) fun k hk=>by cases hk
theorem FromG.alloc {pl:Nat->Option Rl} {w0 w:World} (h:FromG pl w0 w) (o:Obj):FromG pl w0 (w.alloc o):=h.grown (World.grownBy_alloc w o none) fun k hk=>by cases hk
theorem FromG.none_ {w w':World} (h:FromG (fun _=>none) w w'):From w w':=⟨h.os,h.tape,h.output,h.size,fun k hk=>h.block k hk fun _ _ h=>by cases h⟩
structure SimR (w0:World) (S0:Pm) (N:Nat) (B:Bs) (S:Sx) (a:Act) (w:World) (ρ:Nat->Option Rl) (ro:Nat->Prop):Prop where
 from_:FromG S0.pl w0 w
 size:a.tmps.size=N
 defers:a.defers = []
 roB:∀ b,ro b->b<w.heap.size
 tm:∀ d x,lookT B S d=some x->∃ u,a.tmps[d]? = some u/\AVR w ρ w0.heap.size ro x u
 en:∀ l e,lookE B S l=some e->EnR w ρ w0.heap.size ro l e
 apart:∀ l l' r r' b,l≠l' -> ρ l=some r -> ρ l'=some r'->r.blk=some b->r'.blk≠some b
 fresh:∀ l,S.n<=l -> ρ l=none
 own:∀ l r b,ρ l=some r->r.blk=some b->b<w.heap.size/\¬ ro b/\(w0.heap.size<=b\/∃ r0,S0.pl l=some r0/\r0.blk=some b)
 roS:∀ b,ro b->b<w0.heap.size->S0.rd b
 solid:∀ l r,S0.pl l=some r->(r.solid||S0.fx)=true -> ρ l=some r
 disT:∀ d x,alook B.t d=some x->alook S.t d=none
 disE:∀ l e,alook B.e l=some e->alook S.e l=none
def Sim (w0:World) (S0:Pm) (N:Nat) (B:Bs) (S:Sx) (a:Act) (w:World):Prop:=∃ ρ ro,SimR w0 S0 N B S a w ρ ro
section
variable {w w' w0:World} {ρ ρ':Nat->Option Rl} {base:Nat} {ro ro':Nat->Prop} {S0:Pm} {N:Nat} {B:Bs} {S:Sx} {a:Act}
theorem SimR.get (H:SimR w0 S0 N B S a w ρ ro) (x:Operand):AVR w ρ w0.heap.size ro (getO B S x) (a.eval x):=by
 cases x with
 | tmp d =>
  show AVR w ρ w0.heap.size ro (getT B S d) _
  unfold getT
  cases h:lookT B S d with
  | none=>exact .un _
  | some y =>
   obtain⟨u,h1,h2⟩:=H.tm d y h;rw [eval_get h1];exact h2
 | const v=>exact ofVal_ v
 | func f=>exact .fn f [] [] rfl fun j x v h=>by simp at h
 | global g=>exact .un _
theorem AVR.bound {x:AV} {v:Value} (h:AVR w ρ base ro x v):AVR w ρ base (fun b=>ro b/\b<w.heap.size) x v:=by
 induction h with
 | un=>exact .un _
 | int=>exact .int _ _
 | lit=>exact .lit _ _
 | bool=>exact .bool _
 | blit=>exact .blit _
 | str=>exact .str _
 | nil=>exact .nil
 | sl fr t l A c css hl hc hr hro hfr h ih=>exact .sl fr t l A c css hl hc hr (fun a ha hn=>⟨hro a ha hn,Rd.bound hr hn a ha⟩) hfr ih
 | wide fr t l n A c hn h ih=>exact .wide fr t l n A c hn ih
 | pto cells off b o cs hro hlt hl hc h ih=>exact .pto cells off b o cs ⟨hro,hlt⟩ hlt hl hc ih
 | ptr loc off b h=>exact .ptr _ _ _ h
 | own loc A n c h=>exact .own _ _ _ _ h
 | orp t loc k off A n c b h hA h0 hn=>exact .orp _ _ _ _ _ _ _ _ h hA h0 hn
 | mp l b h=>exact .mp _ _ h
 | stamp l s h=>exact .stamp _ _ h
 | it l l2 b h=>exact .it _ _ _ h
 | agg l vs hl h ih=>exact .agg _ _ hl ih
 | tup l vs hl h ih=>exact .tup _ _ hl ih
 | fn f caps vs hl h ih=>exact .fn _ _ _ hl ih
theorem MapR.map_ {fr ag:Bool} {c:Kc} {t:Tc} {m:List Kx->Option t.el} {es:Array MapEntry} {ρ ρ':Nat->Option Rl} {base base':Nat} {ro ro':Nat->Prop} (h:MapR w ρ base ro fr ag c t m es) (hav:∀ x v,AVR w ρ base ro (elAV ag fr t fun _=>x) v->AVR w' ρ' base' ro' (elAV ag fr t fun _=>x) v):MapR w' ρ' base' ro' fr ag c t m es :=
 ⟨fun e he=>by obtain⟨key,x,h1,h2,h3⟩:=h.1 e he; exact⟨key,x,h1,h2,hav x _ h3⟩,h.2⟩
theorem EnR.mono {l:Nat} {e:En} (h:EnR w ρ base ro l e) (hw:∀ b,ro b->b<w.heap.size->w'.heap[b]? = w.heap[b]?) (hown:∀ l r b,ρ l=some r->r.blk=some b->w'.heap[b]? = w.heap[b]?) (hρ:Ext ρ ρ') (hro:∀ b,ro b->ro' b):EnR w' ρ' base ro' l e:=by
 cases e with
 | box T cells =>
  obtain⟨b,cs,h1,h4,h5⟩:=h;exact⟨b,cs,hρ _ _ h1,(hown _ _ b h1 rfl).trans h4,h5.mono hw hρ (Nat.le_refl _) hro⟩
 | row fr t T m =>
  obtain⟨A,c,css,h1,h2,h3,h5⟩:=h;refine⟨A,c,css,hρ _ _ h1,h2.keep fun a ha=>hown _ _ a.block h1 (by simp [Rl.blk,ha]),h3,fun k cs j x v k1 k2 k3=>(h5 k cs j x v k1 k2 k3).mono hw hρ (Nat.le_refl _) hro⟩
 | map fr ag c t T m =>
  obtain⟨b,es,clock,h1,h2,h3,h4⟩:=h;exact⟨b,es,clock,hρ _ _ h1,(hown _ _ b h1 rfl).trans h2,h3,h4.map_ fun x v hx=>hx.mono hw hρ (Nat.le_refl _) hro⟩
 | iter ml c seen left =>
  obtain⟨b,b2,es,clock,since,stamps,c0,h1,h2,h3,h4,h5⟩:=h;exact⟨b,b2,es,clock,since,stamps,c0,hρ _ _ h1,hρ _ _ h2,(hown _ _ b h2 rfl).trans h3,(hown _ _ b2 h1 rfl).trans h4,h5⟩
 | stamp ml c key =>
  obtain⟨b,es,clock,s,e,h1,h2,h3,h4⟩:=h;exact⟨b,es,clock,s,e,hρ _ _ h1,hρ _ _ h2,(hown _ _ b h2 rfl).trans h3,h4⟩
 | dead=>obtain⟨r,h⟩:=h; exact⟨r,hρ _ _ h⟩
theorem EnR.none {l:Nat} {e:En} (h:EnR w ρ base ro l e):∃ r,ρ l=some r:=by
 cases e with
 | box T cells=>obtain⟨b,cs,h1,_⟩:=h; exact⟨_,h1⟩
 | row fr t T m=>obtain⟨A,c,css,h1,_⟩:=h; exact⟨_,h1⟩
 | map fr ag c t T m=>obtain⟨b,es,clock,h1,_⟩:=h; exact⟨_,h1⟩
 | iter ml c seen left=>obtain⟨b,b2,es,clock,since,stamps,c0,h1,_⟩:=h; exact⟨_,h1⟩
 | stamp ml c key=>obtain⟨b,es,clock,s,e,h1,_⟩:=h; exact⟨_,h1⟩
 | dead=>exact h
theorem SimR.calm (H:SimR w0 S0 N B S a w ρ ro) (hb:From w w'):SimR w0 S0 N B S a w' ρ (fun b=>(ro b\/w.heap.size<=b)/\b<w'.heap.size):=by
 have hw:∀ b,ro b->b<w.heap.size->w'.heap[b]? = w.heap[b]? := fun b _ h=>hb.block b h;have hro:∀ b,ro b->(ro b\/w.heap.size<=b)/\b<w'.heap.size:=fun b h=>⟨.inl h,Nat.lt_of_lt_of_le (H.roB b h) hb.size⟩
 have hown:∀ l r b,ρ l=some r->r.blk=some b->w'.heap[b]? = w.heap[b]? /\ ¬ ((ro b\/w.heap.size<=b)/\b<w'.heap.size):=by
  intro l r b h1 h2;have h3:=H.own l r b h1 h2;refine⟨hb.block b h3.1,?_⟩
  rintro⟨h4|h4,_⟩
  . exact h3.2.1 h4
  . omega
 refine⟨H.from_.andThen hb,H.size,H.defers,fun b h=>h.2,fun d x h => ?_,fun l e h=>(H.en l e h).mono hw (fun l r b h1 h2=>(hown l r b h1 h2).1) (Ext.refl _) hro,H.apart,H.fresh,fun l r b h1 h2 => ?_,fun b h hlt=>H.roS b (h.1.resolve_right fun h=>by have:=H.from_.size; omega) hlt,H.solid,H.disT,H.disE⟩
 . obtain⟨u,h1,h2⟩:=H.tm d x h;exact⟨u,h1,h2.mono hw (Ext.refl _) (Nat.le_refl _) hro⟩
 . have h3:=H.own l r b h1 h2;exact⟨Nat.lt_of_lt_of_le h3.1 hb.size,(hown l r b h1 h2).2,h3.2.2⟩
theorem AVR.calm {x:AV} {v:Value} (h:AVR w' ρ base (fun b=>ro b\/w.heap.size<=b) x v):AVR w' ρ base (fun b=>(ro b\/w.heap.size<=b)/\b<w'.heap.size) x v:=h.bound
def putT (B:Bs) (S:Sx) (N d:Nat) (x:AV):Option Sx :=
 if (alook B.t d).isSome||decide (N<=d) then none else some ⟨(d,x)::S.t,S.e,S.n⟩
theorem alook_cons {α:Type} (k:Nat) (v : α) (l:List (Nat × α)) (d:Nat):alook ((k,v)::l) d=if k=d then some v else alook l d:=by
 show (if k==d then some v else alook l d)=_
 by_cases h:k=d
 . simp [h]
 . simp [h]
theorem SimR.put (H:SimR w0 S0 N B S a w ρ ro) {d:Nat} {x:AV} {S':Sx} {v:Value} (hp:putT B S N d x=some S') (hv:AVR w ρ w0.heap.size ro x v):SimR w0 S0 N B S' (a.put (some d) v) w ρ ro:=by
 unfold putT at hp;split at hp
 . cases hp
 . rename_i hc;simp only [Bool.or_eq_true,decide_eq_true_eq,not_or,Bool.not_eq_true,Option.isSome_eq_false_iff,Option.isNone_iff_eq_none] at hc;cases hp;have hlt:d<a.tmps.size:=by rw [H.size]; omega
   refine⟨H.from_,by rw [put_size]; exact H.size,H.defers,H.roB,fun s y h => ?_,H.en,H.apart,H.fresh,H.own,H.roS,H.solid,fun s y h => ?_,H.disE⟩
   . unfold lookT at h;rw [alook_cons] at h;rw [put_get hlt];by_cases hs:d=s
     . rw [if_pos hs] at h;rw [if_pos hs.symm];simp only [Option.some.injEq] at h;subst h;exact⟨v,rfl,hv⟩
     . rw [if_neg hs] at h;rw [if_neg (fun e=>hs e.symm)];exact H.tm s y h
   . rw [alook_cons,if_neg]
     . exact H.disT s y h
     . rintro rfl
       rw [hc.1] at h;cases h
/- no slot and no entry names a location -/
def quietT (loc:Nat):List (Nat×AV)->Bool
 | []=>true
 | (_,x)::l => !AV.has loc x&&quietT loc l
def quietEn (loc:Nat):En->Bool
 | .box _ cs => !AV.hasL loc cs
 | _=>true
def quietE (loc:Nat):List (Nat×En)->Bool
 | []=>true
 | (_,e)::l=>quietEn loc e&&quietE loc l
def quiet (loc:Nat) (B:Bs):Bool:=quietT loc B.t&&quietE loc B.e
def killT (loc:Nat):List (Nat×AV)->List (Nat×AV)
 | [] => []
 | (d,x)::l=>(d,if AV.has loc x then .un else x)::killT loc l
def killL (loc:Nat):List AV->List AV
 | [] => []
 | x::l=>(if AV.has loc x then .un else x)::killL loc l
def killEn (loc:Nat):En->En
 | .box T cs => .box T (killL loc cs)
 | e=>e
def killE (loc:Nat):List (Nat×En)->List (Nat×En)
 | [] => []
 | (k,e)::l=>(k,killEn loc e)::killE loc l
def kill (loc:Nat) (S:Sx):Sx:=⟨killT loc S.t,killE loc S.e,S.n⟩
theorem quietT_get {loc d:Nat} {x:AV}:∀ {l:List (Nat×AV)},quietT loc l=true->alook l d=some x->AV.has loc x=false
 | (k,y)::l,h,hx=>by
  unfold quietT at h;simp only [Bool.and_eq_true,Bool.not_eq_true'] at h;rw [alook_cons] at hx;split at hx
  . cases hx; exact h.1
  . exact quietT_get h.2 hx
 | [],_,hx=>by cases hx
theorem quietE_get {loc d T:Nat} {cs:List AV}:∀ {l:List (Nat×En)},quietE loc l=true->alook l d=some (.box T cs)->AV.hasL loc cs=false
 | (k,e)::l,h,hx=>by
  unfold quietE at h;simp only [Bool.and_eq_true] at h;rw [alook_cons] at hx;split at hx
  . cases hx; simpa [quietEn] using h.1
  . exact quietE_get h.2 hx
 | [],_,hx=>by cases hx
theorem alook_killT {loc d:Nat}:∀ (l:List (Nat×AV)),alook (killT loc l) d=(alook l d).map fun x=>if AV.has loc x then .un else x
 | []=>rfl
 | (k,y)::l=>by
  unfold killT;rw [alook_cons,alook_cons,alook_killT l];split<;>rfl
theorem alook_killE {loc d:Nat}:∀ (l:List (Nat×En)),alook (killE loc l) d=(alook l d).map (killEn loc)
 | []=>rfl
 | (k,e)::l=>by
  unfold killE;rw [alook_cons,alook_cons,alook_killE l];split<;>rfl
theorem killL_get {loc:Nat}:∀ (l:List AV) (j:Nat),(killL loc l)[j]? = (l[j]?).map fun x=>if AV.has loc x then .un else x
 | [],j=>by simp [killL]
 | x::l,0=>by simp [killL]
 | x::l,j+1=>by simpa [killL] using killL_get l j
theorem killL_len {loc:Nat}:∀ (l:List AV),(killL loc l).length=l.length
 | []=>rfl
 | x::l=>by simp [killL,killL_len l]
theorem killed_has {loc:Nat} {x:AV}:AV.has loc (if AV.has loc x=true then .un else x)=false:=by
 split
 . rfl
 . rename_i h; simpa using h
theorem hasL_of {loc:Nat}:∀ {l:List AV},(∀ (j:Nat) x,l[j]? = some x->AV.has loc x=false)->AV.hasL loc l=false
 | [],_=>rfl
 | x::l,h=>by
  unfold AV.hasL;rw [h 0 x rfl,hasL_of fun j y hy=>h (j+1) y (by simpa using hy)];rfl
theorem SimR.killed (H:SimR w0 S0 N B S a w ρ ro) (loc:Nat):SimR w0 S0 N B (kill loc S) a w ρ ro:=by
 refine⟨H.from_,H.size,H.defers,H.roB,fun d x h => ?_,fun l e h => ?_,H.apart,H.fresh,H.own,H.roS,H.solid,fun d x h=>by unfold kill; rw [alook_killT,H.disT d x h]; rfl,fun l e h=>by unfold kill; rw [alook_killE,H.disE l e h]; rfl⟩
 . unfold lookT kill at h;rw [alook_killT] at h
   cases hd:alook S.t d with
   | none =>
    rw [hd] at h;exact H.tm d x (by unfold lookT; rw [hd]; exact h)
   | some y =>
    rw [hd] at h;simp only [Option.map_some,Option.some.injEq] at h;obtain⟨u,h1,h2⟩:=H.tm d y (by unfold lookT; rw [hd]);refine⟨u,h1,?_⟩;rw [<- h];split
    . exact .un _
    . exact h2
 . unfold lookE kill at h;rw [alook_killE] at h
   cases hd:alook S.e l with
   | none =>
    rw [hd] at h;exact H.en l e (by unfold lookE; rw [hd]; exact h)
   | some y =>
    rw [hd] at h;simp only [Option.map_some,Option.some.injEq] at h;have h1:=H.en l y (by unfold lookE; rw [hd]);rw [<- h]
    cases y with
    | row fr t T m=>exact h1
    | map fr ag c t T m=>exact h1
    | iter ml c seen left=>exact h1
    | stamp ml c key=>exact h1
    | dead=>exact h1
    | box T cs =>
     obtain⟨b,us,k1,k4,k5⟩:=h1;refine⟨b,us,k1,k4,by rw [killL_len]; exact k5.1,fun j x v hx hv => ?_⟩;rw [killL_get] at hx
     cases hj:cs[j]? with
     | none=>rw [hj] at hx; cases hx
     | some z =>
      rw [hj] at hx;simp only [Option.map_some,Option.some.injEq] at hx;rw [<- hx];split
      . exact .un _
      . exact k5.2 j z v hj hv
theorem kill_quiet {loc:Nat} (hq:quiet loc B=true):(∀ d x,lookT B (kill loc S) d=some x->AV.has loc x=false)/\∀ l T cs,lookE B (kill loc S) l=some (.box T cs)->AV.hasL loc cs=false:=by
 unfold quiet at hq;simp only [Bool.and_eq_true] at hq;refine⟨fun d x h => ?_,fun l T cs h => ?_⟩
 . unfold lookT kill at h;rw [alook_killT] at h
   cases hd:alook S.t d with
   | none=>rw [hd] at h; exact quietT_get hq.1 h
   | some y =>
    rw [hd] at h;simp only [Option.map_some,Option.some.injEq] at h;rw [<- h];exact killed_has
 . unfold lookE kill at h;rw [alook_killE] at h
   cases hd:alook S.e l with
   | none=>rw [hd] at h; exact quietE_get hq.2 h
   | some y =>
    rw [hd] at h;simp only [Option.map_some,Option.some.injEq] at h
    cases y with
    | row fr t T' m=>cases h
    | map fr ag c t T' m=>cases h
    | iter ml c seen left=>cases h
    | stamp ml c key=>cases h
    | dead=>cases h
    | box T' cs' =>
     cases h;refine hasL_of fun j x hx => ?_;rw [killL_get] at hx
     cases hj:cs'[j]? with
     | none=>rw [hj] at hx; cases hx
     | some z =>
      rw [hj] at hx;simp only [Option.map_some,Option.some.injEq] at hx;rw [<- hx];exact killed_has
/- what tells of a map is forgotten as the map changes -/
def refTo (loc:Nat):En->Bool
 | .iter ml _ _ _=>ml==loc
 | .stamp ml _ _=>ml==loc
 | _=>false
def noRef (loc:Nat):List (Nat×En)->Bool
 | []=>true
 | (_,e)::l => !refTo loc e&&noRef loc l
def dropRef (loc:Nat):List (Nat×En)->List (Nat×En)
 | [] => []
 | (k,e)::l=>(k,if refTo loc e then .dead else e)::dropRef loc l
theorem alook_dropRef {loc d:Nat}:∀ (l:List (Nat×En)),alook (dropRef loc l) d=(alook l d).map fun e=>if refTo loc e then .dead else e
 | []=>rfl
 | (k,e)::l=>by
  unfold dropRef;rw [alook_cons,alook_cons,alook_dropRef l];split<;>rfl
theorem noRef_get {loc d:Nat} {e:En}:∀ {l:List (Nat×En)},noRef loc l=true->alook l d=some e->refTo loc e=false
 | (k,e')::l,h,hx=>by
  unfold noRef at h;simp only [Bool.and_eq_true,Bool.not_eq_true'] at h;rw [alook_cons] at hx;split at hx
  . cases hx; exact h.1
  . exact noRef_get h.2 hx
 | [],_,hx=>by cases hx
theorem SimR.dropped (H:SimR w0 S0 N B S a w ρ ro) {loc:Nat} (hB:noRef loc B.e=true):SimR w0 S0 N B ⟨S.t,dropRef loc S.e,S.n⟩ a w ρ ro/\∀ l e,lookE B ⟨S.t,dropRef loc S.e,S.n⟩ l=some e->refTo loc e=false:=by
 have hl:∀ l e,lookE B ⟨S.t,dropRef loc S.e,S.n⟩ l=some e->(lookE B S l=some e/\refTo loc e=false)\/(e = .dead/\∃ e',lookE B S l=some e'):=by
  intro l e h;unfold lookE at h ⊢;simp only [alook_dropRef] at h
  cases hd:alook S.e l with
  | none =>
   rw [hd] at h;exact .inl ⟨h,noRef_get hB h⟩
  | some y =>
   rw [hd] at h;simp only [Option.map_some,Option.some.injEq] at h;split at h
   . exact .inr ⟨h.symm,y,rfl⟩
   . subst h;rename_i hr;exact .inl ⟨rfl,by simpa using hr⟩
 refine⟨⟨H.from_,H.size,H.defers,H.roB,H.tm,fun l e h => ?_,H.apart,H.fresh,H.own,H.roS,H.solid,H.disT,fun l e h => ?_⟩,fun l e h => ?_⟩
 . rcases hl l e h with ⟨h1,_⟩|⟨rfl,e',h1⟩
   . exact H.en l e h1
   . exact (H.en l e' h1).none
 . show alook (dropRef loc S.e) l=none
   rw [alook_dropRef,H.disE l e h];rfl
 . rcases hl l e h with ⟨_,h2⟩|⟨rfl,_⟩
   . exact h2
   . rfl
theorem elAV_has (ag fr:Bool) (t:Tc) (x:Unit->t.el) (loc:Nat):AV.has loc (elAV ag fr t x)=false:=by
 unfold elAV;have h:=cellsAV_has fr t x loc
 cases ag with
 | true=>exact h
 | false =>
  simp only [Bool.false_eq_true,if_false]
  cases hc:cellsAV fr t x with
  | nil=>rfl
  | cons c l =>
   rw [hc] at h
   cases l with
   | nil=>simpa [AV.hasL] using h
   | cons c2 l=>rfl
def updR (ρ:Nat->Option Rl) (loc:Nat) (r:Rl):Nat->Option Rl:=fun l=>if l=loc then some r else ρ l
theorem SimR.upd (H:SimR w0 S0 N B S a w ρ ro) {loc n:Nat} {r:Rl} {e:En} (hf:FromG S0.pl w0 w') (hle:w.heap.size<=w'.heap.size) (hkeep:∀ b,b<w.heap.size->(∀ r',ρ loc=some r'->r'.blk≠some b)->w'.heap[b]? = w.heap[b]?)
 (hblk:∀ b,r.blk=some b->(∃ r',ρ loc=some r'/\r'.blk=some b)\/(w.heap.size<=b/\b<w'.heap.size)) (hB:alook B.e loc=none) (hn:S.n<=n) (hln:loc<n)
 (hmov:Ext ρ (updR ρ loc r)\/((∀ d x,lookT B S d=some x->AV.has loc x=false)/\(∀ l T cs,lookE B S l=some (.box T cs)->AV.hasL loc cs=false)/\∀ r',ρ loc=some r'->(r'.solid||S0.fx)=false))
 (hmp:(∀ b,ρ loc≠some (.mp b))\/∀ l e,lookE B S l=some e->refTo loc e=false)
 (he:EnR w' (updR ρ loc r) w0.heap.size ro loc e):SimR w0 S0 N B ⟨S.t,(loc,e)::S.e,n⟩ a w' (updR ρ loc r) ro:=by
 have hw:∀ b,ro b->b<w.heap.size->w'.heap[b]? = w.heap[b]? := fun b hb hlt=>hkeep b hlt fun r' h1 h2=>(H.own loc r' b h1 h2).2.1 hb;have hold:∀ l,l≠loc->updR ρ loc r l = ρ l:=fun l hl=>by unfold updR; rw [if_neg hl]
 have hav:∀ x v,AVR w ρ w0.heap.size ro x v->(AV.has loc x=false\/Ext ρ (updR ρ loc r))->(∀ r',ρ loc=some r'->r'.solid=false)\/Ext ρ (updR ρ loc r)->AVR w' (updR ρ loc r) w0.heap.size ro x v:=by
  intro x v h h1 h2;rcases h1 with h1|h1
  . rcases h2 with h2|h2
    . refine (h.move (ρ':=updR ρ loc r) h1 fun l r' hl hc => ?_).mono hw (Ext.refl _) (Nat.le_refl _) fun _ h=>h;by_cases hll:l=loc
      . subst hll;rcases hc with hc|hc
        . exact absurd rfl hc
        . rw [h2 _ hl] at hc; cases hc
      . rw [hold l hll]; exact hl
    . exact h.mono hw h2 (Nat.le_refl _) fun _ h=>h
  . exact h.mono hw h1 (Nat.le_refl _) fun _ h=>h
 have hbx:(∀ r',ρ loc=some r'->r'.solid=false)\/Ext ρ (updR ρ loc r):=hmov.elim .inr fun h => .inl fun r' q=>by have:=h.2.2 r' q; simp only [Bool.or_eq_false_iff] at this; exact this.1
 have hkeep':∀ l r' b,ρ l=some r'->r'.blk=some b->l≠loc->w'.heap[b]? = w.heap[b]? := fun l r' b h1 h2 hne=>hkeep b (H.own l r' b h1 h2).1 fun r2 h3 h4=>H.apart l loc r' r2 b hne h1 h3 h2 h4;refine⟨hf,H.size,H.defers,fun b hb=>Nat.lt_of_lt_of_le (H.roB b hb) hle,fun d x h => ?_,fun l e' h => ?_,fun l l' r1 r2 b hne h1 h2 h3 h4 => ?_,fun l hl => ?_,fun l r1 b h1 h2 => ?_,H.roS,fun l r1 h1 h2 => ?_,H.disT,fun l e' h=>by rw [alook_cons,if_neg (by rintro rfl; rw [hB] at h; cases h)]; exact H.disE l e' h⟩
 . obtain⟨u,h1,h2⟩:=H.tm d x h;exact⟨u,h1,hav x u h2 (hmov.elim .inr fun hm => .inl (hm.1 d x h)) hbx⟩
 . unfold lookE at h;rw [alook_cons] at h;by_cases hl:loc=l
   . rw [if_pos hl] at h;simp only [Option.some.injEq] at h;subst h; subst hl;exact he
   . rw [if_neg hl] at h;have h0:lookE B S l=some e':=h;have h1:=H.en l e' h0
     cases e' with
     | box T cs =>
      obtain⟨b,us,k1,k4,k5⟩:=h1;refine⟨b,us,by rw [hold l (fun e=>hl e.symm)]; exact k1,?_,k5.1,fun j x v hx hv=>hav x v (k5.2 j x v hx hv) (hmov.elim .inr fun hm => .inl (hasL_get (hm.2.1 l T cs h0) hx)) hbx⟩;rw [hkeep b (H.own l _ b k1 rfl).1 fun r' h3 h4=>H.apart l loc _ r' b (fun e=>hl e.symm) k1 h3 rfl h4];exact k4
     | row fr t T m =>
      obtain⟨A,c,css,k1,k2,k3,k5⟩:=h1;refine⟨A,c,css,by rw [hold l (fun e=>hl e.symm)]; exact k1,k2.keep fun ad ha => ?_,k3,fun k cs j x v q1 q2 q3=>hav x v (k5 k cs j x v q1 q2 q3) (.inl (hasL_get (cellsAV_has fr t _ loc) q2)) hbx⟩;have hbk:(Rl.row A (m ()).length c).blk=some ad.block:=by simp [Rl.blk,ha]
      exact hkeep ad.block (H.own l _ _ k1 hbk).1 fun r' h3 h4=>H.apart l loc _ r' _ (fun e=>hl e.symm) k1 h3 hbk h4
     | map fr ag c t T m =>
      obtain⟨b,es,clock,k1,k2,k3,k4⟩:=h1;refine⟨b,es,clock,by rw [hold l (fun e=>hl e.symm)]; exact k1,(hkeep' l _ b k1 rfl (fun e=>hl e.symm)).trans k2,k3,k4.map_ fun x v hx=>hav _ v hx (.inl (elAV_has _ _ _ _ _)) hbx⟩
     | iter ml c seen left =>
      obtain⟨b,b2,es,clock,since,stamps,c0,k1,k2,k3,k4,k5⟩:=h1;have hml:ml≠loc:=by
       rintro rfl
       rcases hmp with hmp|hmp
       . exact hmp b k2
       . have:=hmp l _ h0; simp [refTo] at this
      exact⟨b,b2,es,clock,since,stamps,c0,by rw [hold l (fun e=>hl e.symm)]; exact k1,by rw [hold ml hml]; exact k2,(hkeep' ml _ b k2 rfl hml).trans k3,(hkeep' l _ b2 k1 rfl (fun e=>hl e.symm)).trans k4,k5⟩
     | stamp ml c key =>
      obtain⟨b,es,clock,s,e,k1,k2,k3,k4⟩:=h1;have hml:ml≠loc:=by
       rintro rfl
       rcases hmp with hmp|hmp
       . exact hmp b k2
       . have:=hmp l _ h0; simp [refTo] at this
      exact⟨b,es,clock,s,e,by rw [hold l (fun e=>hl e.symm)]; exact k1,by rw [hold ml hml]; exact k2,(hkeep' ml _ b k2 rfl hml).trans k3,k4⟩
     | dead=>obtain⟨r1,k1⟩:=h1; exact⟨r1,by rw [hold l (fun e=>hl e.symm)]; exact k1⟩
 . have hcase:∀ l r1 b,updR ρ loc r l=some r1->r1.blk=some b->(l=loc/\r1=r)\/(l≠loc /\ ρ l=some r1):=by
    intro l r1 b h1 _;by_cases hll:l=loc
    . subst hll;unfold updR at h1;rw [if_pos rfl] at h1;injection h1 with h1;exact .inl ⟨rfl,h1.symm⟩
    . rw [hold l hll] at h1;exact .inr ⟨hll,h1⟩
   rcases hcase l r1 b h1 h3 with ⟨rfl,rfl⟩|⟨k1,k2⟩
   . rcases hcase l' r2 b h2 h4 with ⟨rfl,rfl⟩|⟨k3,k4⟩
     . exact hne rfl
     . rcases hblk b h3 with ⟨r',q1,q2⟩|q
       . exact H.apart l l' r' r2 b hne q1 k4 q2 h4
       . have:=(H.own l' r2 b k4 h4).1; omega
   . rcases hcase l' r2 b h2 h4 with ⟨rfl,rfl⟩|⟨k3,k4⟩
     . rcases hblk b h4 with ⟨r',q1,q2⟩|q
       . exact H.apart l l' r1 r' b hne k2 q1 h3 q2
       . have:=(H.own l r1 b k2 h3).1; omega
     . exact H.apart l l' r1 r2 b hne k2 k4 h3 h4
 . rw [hold l (by simp only at hl; omega)];exact H.fresh l (by simp only at hl; omega)
 . by_cases hll:l=loc
   . subst hll;unfold updR at h1;rw [if_pos rfl] at h1;injection h1 with h1;subst h1;rcases hblk b h2 with ⟨r',q1,q2⟩|q
     . have h5:=H.own l r' b q1 q2;exact⟨Nat.lt_of_lt_of_le h5.1 hle,h5.2⟩
     . refine⟨q.2,fun hb => ?_,.inl (Nat.le_trans H.from_.size q.1)⟩;have:=H.roB b hb;omega
   . rw [hold l hll] at h1;have h5:=H.own l r1 b h1 h2;exact⟨Nat.lt_of_lt_of_le h5.1 hle,h5.2⟩
 . have h3:=H.solid l r1 h1 h2;rcases hmov with hm|hm
   . exact hm l r1 h3
   . rw [hold l (fun e=>by subst e; rw [hm.2.2 _ h3] at h2; cases h2)];exact h3
end
-- CELLS
def sgOf:Tc->List Sg
 | .int => [.int .i64]
 | .u8 => [.int .u8]
 | .u32 => [.int .u32]
 | .box => [.int .i64,.str,.int .u8,.bool,.int .i64,.int .i64,.int .i64,.int .u8,.bool]
 | .stowed => [.int .i64,.int .i64,.int .i64,.int .u8]
 | .slot => [.int .i64,.int .i64,.int .u8]
 | .ld => [.int .i64,.int .i64,.int .i64,.int .i64]
 | .spn => [.int .i64,.int .i64,.int .i64]
 | .col => [.int .i64,.int .i64,.bool,.int .i64,.int .i64,.int .i64,.int .i64,.int .i64,.sl .int,.int .i64,.int .i64,.int .i64]
 | .cov => [.int .i64,.sl .int]
 | .mid => [.int .i64,.str,.int .u8,.bool,.int .i64,.int .i64,.int .i64,.int .u8,.bool,.int .i64,.int .i64,.int .i64]
 | .hrow => [.int .i64,.int .i64,.int .i64,.int .i64,.int .i64]
 | .frm => [.int .i64,.int .i64,.int .i64,.int .i64,.int .i64]
 | .tnk => [.int .i64,.int .i64,.int .i64,.int .i64,.int .i64,.sl .int]
 | .colq => [.int .i64,.int .i64,.bool,.int .i64,.int .i64,.int .i64,.int .i64,.int .i64,.wide .int,.int .i64,.int .i64,.int .i64]
 | .covq => [.int .i64,.wide .int]
 | .tnkq => [.int .i64,.int .i64,.int .i64,.int .i64,.int .i64,.wide .int]
 | .plc => [.int .u8,.int .u8,.int .u8,.bool]
 | .drp => [.int .u8,.int .u8,.bool,.bool]
 | .wgt => [.int .u16,.int .i16,.int .i16,.int .i16]
def mkEl:(t:Tc)->List AV->Option (Unit->t.el)
 | .int,[.int .i64 a0]=>some fun _=>a0 ()
 | .u8,[.int .u8 a0]=>some fun _=>a0 ()
 | .u32,[.int .u32 a0]=>some fun _=>a0 ()
 | .box,[.int .i64 a0,.str a1,.int .u8 a2,.bool a3,.int .i64 a4,.int .i64 a5,.int .i64 a6,.int .u8 a7,.bool a8]=>some fun _=>⟨a0 (),a1 (),a2 (),a3 (),a4 (),a5 (),a6 (),a7 (),a8 ()⟩
 | .stowed,[.int .i64 a0,.int .i64 a1,.int .i64 a2,.int .u8 a3]=>some fun _=>⟨a0 (),a1 (),a2 (),a3 ()⟩
 | .slot,[.int .i64 a0,.int .i64 a1,.int .u8 a2]=>some fun _=>⟨a0 (),a1 (),a2 ()⟩
 | .ld,[.int .i64 a0,.int .i64 a1,.int .i64 a2,.int .i64 a3]=>some fun _=>⟨a0 (),a1 (),a2 (),a3 ()⟩
 | .spn,[.int .i64 a0,.int .i64 a1,.int .i64 a2]=>some fun _=>⟨a0 (),a1 (),a2 ()⟩
 | .col,[.int .i64 a0,.int .i64 a1,.bool a2,.int .i64 a3,.int .i64 a4,.int .i64 a5,.int .i64 a6,.int .i64 a7,.sl _ .int a8,.int .i64 a9,.int .i64 a10,.int .i64 a11]=>some fun _=>⟨a0 (),a1 (),a2 (),a3 (),a4 (),a5 (),a6 (),a7 (),a8 (),a9 (),a10 (),a11 ()⟩
 | .cov,[.int .i64 a0,.sl _ .int a1]=>some fun _=>⟨a0 (),a1 ()⟩
 | .mid,[.int .i64 a0,.str a1,.int .u8 a2,.bool a3,.int .i64 a4,.int .i64 a5,.int .i64 a6,.int .u8 a7,.bool a8,.int .i64 a9,.int .i64 a10,.int .i64 a11]=>some fun _=>⟨⟨a0 (),a1 (),a2 (),a3 (),a4 (),a5 (),a6 (),a7 (),a8 ()⟩,a9 (),a10 (),a11 ()⟩
 | .hrow,[.int .i64 a0,.int .i64 a1,.int .i64 a2,.int .i64 a3,.int .i64 a4]=>some fun _=>⟨a0 (),a1 (),a2 (),a3 (),a4 ()⟩
 | .frm,[.int .i64 a0,.int .i64 a1,.int .i64 a2,.int .i64 a3,.int .i64 a4]=>some fun _=>⟨a0 (),a1 (),a2 (),a3 (),a4 ()⟩
 | .tnk,[.int .i64 a0,.int .i64 a1,.int .i64 a2,.int .i64 a3,.int .i64 a4,.sl _ .int a5]=>some fun _=>⟨a0 (),a1 (),a2 (),a3 (),a4 (),a5 ()⟩
 | .colq,[.int .i64 a0,.int .i64 a1,.bool a2,.int .i64 a3,.int .i64 a4,.int .i64 a5,.int .i64 a6,.int .i64 a7,.wide _ .int a8 a8N,.int .i64 a9,.int .i64 a10,.int .i64 a11]=>some fun _=>⟨a0 (),a1 (),a2 (),a3 (),a4 (),a5 (),a6 (),a7 (),a8 (),a8N (),a9 (),a10 (),a11 ()⟩
 | .covq,[.int .i64 a0,.wide _ .int a1 a1N]=>some fun _=>⟨a0 (),a1 (),a1N ()⟩
 | .tnkq,[.int .i64 a0,.int .i64 a1,.int .i64 a2,.int .i64 a3,.int .i64 a4,.wide _ .int a5 a5N]=>some fun _=>⟨a0 (),a1 (),a2 (),a3 (),a4 (),a5 (),a5N ()⟩
 | .plc,[.int .u8 a0,.int .u8 a1,.int .u8 a2,.bool a3]=>some fun _=>⟨a0 (),a1 (),a2 (),a3 ()⟩
 | .drp,[.int .u8 a0,.int .u8 a1,.bool a2,.bool a3]=>some fun _=>⟨a0 (),a1 (),a2 (),a3 ()⟩
 | .wgt,[.int .u16 a0,.int .i16 a1,.int .i16 a2,.int .i16 a3]=>some fun _=>⟨a0 (),a1 (),a2 (),a3 ()⟩
 | _,_=>none
theorem mkEl_cells {t:Tc} {l:List AV} {x:Unit->t.el} (h:mkEl t l=some x):cellsAV false t x=l.map AV.loose/\(AV.plainL true l=true->cellsAV true t x=l):=by
 unfold mkEl at h;split at h<;>first|(cases h; done)|(injection h with h; subst h; refine⟨rfl,fun hp => ?_⟩; simp only [AV.plainL,AV.plain,Bool.not_true,Bool.and_true,Bool.true_and,Bool.or_false] at hp; first|rfl|(subst hp; rfl)|simp_all)
-- END CELLS
def norm:Sg->AV->Option AV
 | .int k,.int k' n=>if k=k' then some (.int k' n) else none
 | .int k,.lit k' n=>if k=k' then some (.int k' fun _=>n) else none
 | .bool,.bool b=>some (.bool b)
 | .bool,.blit b=>some (.bool fun _=>b)
 | .str,.str s=>some (.str s)
 | .sl t,.sl fr t' l=>if t=t' then some (.sl fr t' l) else none
 | .sl t,.nil=>some (.sl true t fun _ => [])
 | .sl t,.wide fr t' l n=>if t=t' then some (.sl fr t' fun _=>(l ()).take (n ())) else none
 | .wide t,.wide fr t' l n=>if t=t' then some (.wide fr t' l n) else none
 | .wide t,.sl fr t' l=>if t=t' then some (.wide fr t' l fun _=>(l ()).length) else none
 | .wide t,.nil=>some (.wide true t (fun _ => []) fun _=>0)
 | _,_=>none
def normL:List Sg->List AV->Option (List AV)
 | [],[]=>some []
 | s::ss,x::xs=>match norm s x,normL ss xs with
  | some y,some ys=>some (y::ys)
  | _,_=>none
 | _,_=>none
def cellsOf:AV->Option (List AV)
 | .agg cs=>some cs
 | .un=>none
 | .tup _=>none
 | x=>some [x]
def AV.one:AV->Bool
 | .un=>false
 | .agg _=>false
 | .tup _=>false
 | _=>true
def memN (d:Nat):List Nat->Bool
 | []=>false
 | k::l=>k==d||memN d l
def keysOf {α:Type}:List (Nat × α)->List Nat
 | [] => []
 | (k,_)::l=>k::keysOf l
def maxK (n:Nat):List Nat->Nat
 | []=>n
 | k::l=>if k<n then maxK n l else maxK (k+1) l
def allK (ks:List Nat):Nat->Bool
 | 0=>true
 | n+1=>memN n ks&&allK ks n
structure Left (w w':World) (ρ ρ1:Nat->Option Rl) (ra ra1:Nat->Prop) (es:List (Nat×En)) (fx:Bool):Prop where
 from_:FromG ρ w w'
 en:∀ l e,alook es l=some e->EnR w' ρ1 w.heap.size ra1 l e
 apart:∀ l l' r r' b,l≠l' -> ρ1 l=some r -> ρ1 l'=some r'->r.blk=some b->r'.blk≠some b
 fresh:∀ l,memN l (keysOf es)=false -> ρ1 l=none
 own:∀ l r b,ρ1 l=some r->r.blk=some b->b<w'.heap.size/\¬ ra1 b/\(w.heap.size<=b\/∃ r0,ρ l=some r0/\r0.blk=some b)
 rd:∀ b,ra1 b->b<w'.heap.size/\(b<w.heap.size->ra b)
 solid:∀ l r,ρ l=some r->(r.solid||fx)=true -> ρ1 l=some r
structure Rez where
 pre:Unit->Prop
 av:AV
 es:List (Nat×En)
structure Fon where
 f:FuncId
 sig:List Sg
 n:Nat
 go:List AV->List (Nat×En)->Option Rez
 fix:Bool:=false
def FonOk (P:Program) (c:Fon):Prop :=
 (∀ args w,(callFunc c.f args).run P w = .ok (.enter c.f args) w) /\
 ∀ avs es res,c.go avs es=some res->∀ (w:World) (ρ:Nat->Option Rl) (ra:Nat->Prop) (vals:List Value),(∀ b,ra b->b<w.heap.size)->Each w ρ 0 ra avs vals->(∀ l e,alook es l=some e->EnR w ρ 0 ra l e) ->
  (∀ l l' r r' b,l≠l' -> ρ l=some r -> ρ l'=some r'->r.blk=some b->r'.blk≠some b)->(∀ l,c.n<=l -> ρ l=none)->(∀ l r b,ρ l=some r->r.blk=some b->b<w.heap.size/\¬ ra b)->res.pre () ->
  Calls P c.f vals.toArray w fun e w'=>∃ v ρ1 ra1,e = .returned v/\Left w w' ρ ρ1 ra ra1 res.es c.fix/\AVR w' ρ1 w.heap.size ra1 res.av v
def findFon:List Fon->FuncId->Option Fon
 | [],_=>none
 | c::cs,f=>if c.f==f then some c else findFon cs f
def efs:List Fon->List Nat
 | [] => []
 | c::cs=>c.f::efs cs
inductive Sch where
 | nil
 | bad
 | op (i:Nat) (r:Sch)
 | alt (a b:Sch)
deriving DecidableEq
structure Nd where
 dn:List Nat
 ks:List Nat
 up:Nat×Nat
 ed:List (Nat×Nat×Nat)
structure Lat where
 sg:List Nat
 row:List Nat
 pre:List Nat
 nds:List Nd
 post:List Nat
structure Cx where
 ty:Tab
 cs:List Con
 tc:List (Nat×Tc)
 fs:List Fon
 fz:List (Nat×List Nat) := []
 fx:Bool:=false
 kp:List (Nat×List Nat) := []
 sc:List (Nat×Sch) := []
 ul:List Nat := []
 jn:List (Nat×List Nat) := []
 lt:List (Nat×Lat) := []
 nb:Nat:=0
 ct:List Nat := []
/- the arguments,the places numbered anew -/
structure Pst where
 locs:List Nat
 es:List (Nat×En)
mutual
def coerceP (ge:Nat->Option En):Sg->AV->Pst->Option (AV×Pst)
 | .any,_,st=>some (.un,st)
 | .ownr t,.own loc,st=>match ge loc with
  | some (.row _ t' T l)=>if t=t'/\memN loc st.locs=false then some (.own st.locs.length,⟨st.locs ++ [loc],(st.locs.length,.row false t' T l)::st.es⟩) else none
  | _=>none
 | .mapp c t,.mp loc,st=>match ge loc with
  | some (.map _ ag c' t' T m)=>if c=c'/\t=t'/\memN loc st.locs=false then some (.mp st.locs.length,⟨st.locs ++ [loc],(st.locs.length,.map false ag c' t' T m)::st.es⟩) else none
  | _=>none
 | .boxp l,.ptr loc 0,st=>match ge loc with
  | some (.box T cells)=>if memN loc st.locs then none else match coercePs ge l cells ⟨st.locs ++ [loc],st.es⟩ with
   | some (ys,st')=>some (.ptr st.locs.length 0,⟨st'.locs,(st.locs.length,.box T ys)::st'.es⟩)
   | none=>none
  | _=>none
 | s,x,st=>if AV.plain false x then (coerce ge s x).map fun y=>(y,st) else none
def coercePs (ge:Nat->Option En):List Sg->List AV->Pst->Option (List AV×Pst)
 | [],[],st=>some ([],st)
 | s::ss,x::xs,st=>match coerceP ge s x st with
  | some (y,st1)=>match coercePs ge ss xs st1 with
   | some (ys,st2)=>some (y::ys,st2)
   | none=>none
  | none=>none
 | _,_,_=>none
end
/- places are named anew -/
mutual
def AV.ren (g:Nat->Nat):AV->AV
 | .own l => .own (g l)
 | .orp t l k off => .orp t (g l) k off
 | .ptr l off => .ptr (g l) off
 | .mp l => .mp (g l)
 | .stamp l => .stamp (g l)
 | .it l l2 => .it (g l) (g l2)
 | .pto cs off => .pto (AV.renL g cs) off
 | .agg cs => .agg (AV.renL g cs)
 | .tup cs => .tup (AV.renL g cs)
 | .fn f cs => .fn f (AV.renL g cs)
 | x=>x
def AV.renL (g:Nat->Nat):List AV->List AV
 | [] => []
 | x::l=>AV.ren g x::AV.renL g l
end
def En.ren (g:Nat->Nat):En->En
 | .box T cs => .box T (AV.renL g cs)
 | .iter ml c seen left => .iter (g ml) c seen left
 | .stamp ml c key => .stamp (g ml) c key
 | e=>e
def renE (g:Nat->Nat):List (Nat×En)->List (Nat×En)
 | [] => []
 | (k,e)::l=>(g k,En.ren g e)::renE g l
def renN (locs:List Nat) (n k:Nat):Nat:=match locs[k]? with
 | some l=>l
 | none=>n+(k - locs.length)
def killAll:List Nat->Sx->Sx
 | [],S=>S
 | l::ls,S=>killAll ls ⟨(kill l S).t,dropRef l (kill l S).e,S.n⟩
def dropAll:List Nat->Sx->Sx
 | [],S=>S
 | l::ls,S=>dropAll ls ⟨S.t,dropRef l S.e,S.n⟩
def forget (fx:Bool) (ls:List Nat) (S:Sx):Sx:=cond fx (dropAll ls S) (killAll ls S)
def freeAll (B:Bs):List Nat->Bool
 | []=>true
 | l::ls=>(alook B.e l).isNone&&quiet l B&&noRef l B.e&&freeAll B ls
def newFree (B:Bs) (g:Nat->Nat) (n:Nat):List Nat->Bool
 | []=>true
 | k::ks=>(decide (k<n)||(alook B.e (g k)).isNone)&&newFree B g n ks
def elOf (t:Tc) (x:AV):Option (Bool×(Unit->t.el)) :=
 match cellsOf x with
 | some cs=>match normL (sgOf t) cs with
  | some ys=>(mkEl t ys).map fun e=>(AV.plainL true ys,e)
  | none=>none
 | none=>none
def elsOf (t:Tc):List AV->Option (Bool×List (Unit->t.el))
 | []=>some (true,[])
 | x::l=>match elOf t x,elsOf t l with
  | some (f,e),some (g,es)=>some (f&&g,e::es)
  | _,_=>none
def inOrder:Nat->List (Nat×AV)->Option (List AV)
 | _,[]=>some []
 | k,(i,x)::l=>if i==k then (inOrder (k+1) l).map fun r=>x::r else none
def Tc.flat:Tc->Bool
 | .col=>false
 | .cov=>false
 | .tnk=>false
 | .colq=>false
 | .covq=>false
 | .tnkq=>false
 | _=>true
def news0 (B:Bs) (S:Sx) (t:Tc):AV->Option (Bool×(Unit->List t.el))
 | .nil=>some (true,fun _ => [])
 | .sl fr t' l=>if h:t'=t then some (fr,h▸l) else none
 | .wide fr t' l n=>if h:t'=t then some (fr,fun _=>(h▸l ()).take (n ())) else none
 | .own loc=>match lookE B S loc with
  | some (.row fr t' _ l)=>if h:t'=t then some (fr,h▸l) else none
  | _=>none
 | _=>none
def newsOf (B:Bs) (S:Sx) (t:Tc) (x:AV):Option (Bool×(Unit->List t.el)):=(news0 B S t x).map fun p=>(p.1||t.flat,p.2)
def setM {α:Type} (m:List Kx->Option α) (k:List Kx) (x : α):List Kx->Option α:=fun k'=>if k'=k then some x else m k'
def agOk (ag:Bool):AV->Bool
 | .agg _=>ag
 | _ => !ag
def elOfA (ag:Bool) (t:Tc) (x:AV):Option (Bool×(Unit->t.el)) :=
 if (ag||t.size==1)&&agOk ag x then elOf t x else none
def appendVC (n m:Unit->Nat) (b:Nat):List VC := [fun _=>(n ()+m ())*b<=140737488355328]
def memOp (C:Cx) (N:Nat) (B:Bs) (S:Sx) (o:Oper):Option (Sx×List VC) :=
 match o.op with
 | .alloc T=>match alook C.ty T,o.dst with
  | some i,some d=>if i.z.isEmpty||(alook B.e S.n).isSome then none else (putT B ⟨S.t,(S.n,.box T i.z)::S.e,S.n+1⟩ N d (.ptr S.n 0)).map fun S'=>(S',[])
  | _,_=>none
 | .box T x=>match cellsOf (getO B S x),o.dst with
  | some cs,some d=>if (alook B.e S.n).isSome then none else (putT B ⟨S.t,(S.n,.box T cs)::S.e,S.n+1⟩ N d (.ptr S.n 0)).map fun S'=>(S',[])
  | _,_=>none
 | .store T ad x=>match alook C.ty T,cellsOf (getO B S x),getO B S ad,o.dst with
  | some i,some cs,.ptr loc off,none=>match lookE B S loc with
   | some (.box T' cells)=>if cs.length==i.sz&&decide (off+i.sz<=cells.length)&&cs.all AV.one&&(alook B.e loc).isNone then some (⟨S.t,(loc,.box T' (cells.take off++cs++cells.drop (off+i.sz)))::S.e,S.n⟩,[]) else none
   | _=>none
  | some i,some cs,.orp t loc k off,none=>match lookE B S loc with
   | some (.row fr t' T' l)=>if t=t' then
    if cs.length==i.sz&&decide (off+i.sz<=t'.size)&&cs.all AV.one&&(alook B.e loc).isNone then
     let old:=cellsAV fr t' fun _=>(l ()).getD (k ()).toNat t'.dflt
     match elOf t' (.agg (old.take off++cs++old.drop (off+i.sz))) with
     | some (f,e)=>if f || !fr then some (⟨S.t,(loc,.row fr t' T' fun _=>(l ()).set (k ()).toNat (e ()))::S.e,S.n⟩,[]) else none
     | none=>none
    else none
    else none
   | _=>none
  | _,_,_,_=>none
 | .buildSlice T len parts=>match tiOf C.ty T,o.dst with
  | some (.slice e sz _),some d=>match alook C.tc e with
   | some t=>match inOrder 0 (parts.toList.map fun p=>(p.1,getO B S p.2)) with
    | some xs=>match elsOf t xs with
     | some (f,es)=>if t.size==sz&&es.length==len&&decide (len*sz<=16777216)&&(alook B.e S.n).isNone then (putT B ⟨S.t,(S.n,.row f t e fun _=>es.map fun g=>g ())::S.e,S.n+1⟩ N d (.own S.n)).map fun S'=>(S',[]) else none
     | none=>none
    | none=>none
   | none=>none
  | _,_=>none
 | .makeSlice T l c=>match tiOf C.ty T,o.dst with
  | some (.slice e sz b),some d=>match alook C.tc e with
   | some t=>match getO B S l,(getO B S c).asInt with
    | .lit _ 0,some (_,k)=>if t.size==sz&&(alook B.e S.n).isNone then (putT B ⟨S.t,(S.n,.row true t e fun _ => [])::S.e,S.n+1⟩ N d (.own S.n)).map fun S'=>(S',[fun _=>0<=k ()/\k ()*b<=281474976710656]) else none
    | .int _ n,some (_,k)=>match alook C.ty e with
     | some ie=>match elOf t (.agg ie.z) with
      | some (f,x)=>if t.size==sz&&(alook B.e S.n).isNone && !ie.z.isEmpty then (putT B ⟨S.t,(S.n,.row f t e fun _=>List.replicate (n ()).toNat (x ()))::S.e,S.n+1⟩ N d (.own S.n)).map fun S'=>(S',[fun _=>0<=n ()/\n ()=k ()/\n ()*b<=281474976710656]) else none
      | none=>none
     | none=>none
    | _,_=>none
   | none=>none
  | _,_=>none
 | .makeMap T none=>match tiOf C.ty T,o.dst with
  | some (.map _ _ c t ag),some d=>if (alook B.e S.n).isSome then none else (putT B ⟨S.t,(S.n,.map true ag c t T fun _ _=>none)::S.e,S.n+1⟩ N d (.mp S.n)).map fun S'=>(S',[])
  | _,_=>none
 | .mapUpdate T x i v=>match tiOf C.ty T,getO B S x,o.dst with
  | some (.map _ _ c t ag),.mp loc,none=>match lookE B S loc,keyAV c (getO B S i) with
   | some (.map fr ag' c' t' T' m),some k=>if c'=c/\t'=t/\ag'=ag then (match elOfA ag' t' (getO B S v) with
    | some (f,e)=>if (alook B.e loc).isNone&&noRef loc B.e then some (⟨S.t,(loc,.map (fr&&f) ag' c' t' T' fun _=>setM (m ()) (k ()) (e ()))::dropRef loc S.e,S.n⟩,[]) else none
    | none=>none) else none
   | _,_=>none
  | _,_,_=>none
 | .mapEntry T x i=>match tiOf C.ty T,getO B S x,o.dst with
  | some (.map _ _ c t ag),.mp loc,some d=>match lookE B S loc,keyAV c (getO B S i) with
   | some (.map fr ag' c' t' T' m),some k=>if c'=c/\t'=t/\ag'=ag then (if (alook B.e loc).isNone&&noRef loc B.e&&(alook B.e S.n).isNone then
    (putT B ⟨S.t,(S.n,.stamp loc c' k)::(loc,.map fr ag' c' t' T' fun _=>setM (m ()) (k ()) ((m () (k ())).getD t'.dflt))::dropRef loc S.e,S.n+1⟩ N d (.tup [elAV ag' fr t' fun _=>(m () (k ())).getD t'.dflt,.stamp S.n])).map fun S'=>(S',[]) else none) else none
   | _,_=>none
  | _,_,_=>none
 | .entryStore _ x s v=>match getO B S x,getO B S s,o.dst with
  | .mp loc,.stamp l2,none=>match lookE B S loc,lookE B S l2 with
   | some (.map fr ag c t T' m),some (.stamp ml c' key)=>if ml=loc/\c'=c then (match elOfA ag t (getO B S v) with
    | some (f,e)=>if (alook B.e loc).isNone&&noRef loc B.e then some (⟨S.t,(loc,.map (fr&&f) ag c t T' fun _=>setM (m ()) (key ()) (e ()))::dropRef loc S.e,S.n⟩,[]) else none
    | none=>none) else none
   | _,_=>none
  | _,_,_=>none
 | .call c=>match c.callee,c.args.toList,c.argTypes.toList,o.dst with
  | .builtin .append,[s,x],[T,T2],some d=>if T==T2 then match tiOf C.ty T with
   | some (.slice e sz b)=>match getO B S s with
    | .own loc=>match lookE B S loc with
     | some (.row fr t e' l)=>if e'==e&&t.size==sz&&(alook B.e loc).isNone&&quiet loc B && !C.fx then match newsOf B S t (getO B S x) with
      | some (f,m)=>if AV.has loc (getO B S x) then none else (putT B ⟨(kill loc S).t,(loc,.row (fr&&f) t e' fun _=>l ()++m ())::(kill loc S).e,S.n⟩ N d (.own loc)).map fun S'=>(S',appendVC (fun _=>(l ()).length) (fun _=>(m ()).length) b)
      | none=>none
      else none
     | _=>none
    | .nil=>match alook C.tc e with
     | some t=>if t.size==sz&&(alook B.e S.n).isNone then match newsOf B S t (getO B S x) with
      | some (f,m)=>(putT B ⟨S.t,(S.n,.row f t e m)::S.e,S.n+1⟩ N d (.own S.n)).map fun S'=>(S',appendVC (fun _=>0) (fun _=>(m ()).length) b)
      | none=>none
      else none
     | none=>none
    | _=>none
   | _=>none
   else none
  | _,_,_,_=>none
 | _=>none
def callOp (C:Cx) (N:Nat) (B:Bs) (S:Sx) (o:Oper):Option (Sx×List VC) :=
 match o.op with
 | .call c=>match c.callee with
  | .value (.func f)=>match findFon C.fs f with
   | some fo=>match coercePs (lookE B S) fo.sig (c.args.toList.map (getO B S)) ⟨[],[]⟩ with
    | some (avs,st)=>match fo.go avs st.es with
     | some res=>if st.locs.length==fo.n&&freeAll B st.locs&&allK (keysOf res.es) fo.n&&newFree B (renN st.locs S.n) fo.n (keysOf res.es)&&(fo.fix || !C.fx) then
      let S2:Sx:=⟨(forget fo.fix st.locs S).t,renE (renN st.locs S.n) res.es++(forget fo.fix st.locs S).e,S.n+(maxK fo.n (keysOf res.es) - fo.n)⟩
      match o.dst with
      | some d=>(putT B S2 N d (AV.ren (renN st.locs S.n) res.av)).map fun S'=>(S',[res.pre])
      | none=>none
      else none
     | none=>none
    | none=>none
   | none=>none
  | _=>none
 | _=>none
/- what is new,or lies at a place -/
mutual
def AV.nova:AV->Bool
 | .sl fr _ _=>fr
 | .wide fr _ _ _=>fr
 | .pto _ _=>false
 | .agg cs=>AV.novaL cs
 | .tup cs=>AV.novaL cs
 | .fn _ cs=>AV.novaL cs
 | _=>true
def AV.novaL:List AV->Bool
 | []=>true
 | x::l=>AV.nova x&&AV.novaL l
end
def En.nova:En->Bool
 | .box _ cs=>AV.novaL cs
 | .row fr _ _ _=>fr
 | .map fr _ _ _ _ _=>fr
 | _=>false
def novaE:List (Nat×En)->Bool
 | []=>true
 | (_,e)::l=>En.nova e&&novaE l
def makeOp (C:Cx) (N:Nat) (B:Bs) (S:Sx) (o:Oper):Option (Sx×List VC) :=
 match o.op with
 | .call c=>match c.callee with
  | .value (.func f)=>match findFon C.fs f with
   | some fo=>match coerceL (lookE B S) fo.sig (c.args.toList.map (getO B S)) with
    | some avs=>match fo.go avs [] with
     | some res=>if fo.n==0&&AV.nova res.av&&novaE res.es&&newFree B (renN [] S.n) 0 (keysOf res.es)&&(fo.fix || !C.fx) then
      match o.dst with
      | some d=>(putT B ⟨(forget fo.fix [] S).t,renE (renN [] S.n) res.es++(forget fo.fix [] S).e,S.n+(maxK 0 (keysOf res.es) - 0)⟩ N d (AV.ren (renN [] S.n) res.av)).map fun S'=>(S',[res.pre])
      | none=>none
      else none
     | none=>none
    | none=>none
   | none=>none
  | _=>none
 | _=>none
/- a place's name is replaced by what it holds -/
mutual
def AV.frz (loc:Nat) (y:AV):AV->AV
 | .own l=>cond (l==loc) y (.own l)
 | .orp t l k off=>cond (l==loc) .un (.orp t l k off)
 | .pto cs off => .pto (AV.frzL loc y cs) off
 | .agg cs => .agg (AV.frzL loc y cs)
 | .tup cs => .tup (AV.frzL loc y cs)
 | .fn f cs => .fn f (AV.frzL loc y cs)
 | x=>x
def AV.frzL (loc:Nat) (y:AV):List AV->List AV
 | [] => []
 | x::l=>AV.frz loc y x::AV.frzL loc y l
end
def frzT (loc:Nat) (y:AV):List (Nat×AV)->List (Nat×AV)
 | [] => []
 | (d,x)::l=>(d,AV.frz loc y x)::frzT loc y l
def frzEn (loc:Nat) (y:AV):En->En
 | .box T cs => .box T (AV.frzL loc y cs)
 | e=>e
def frzE (loc:Nat) (y:AV):List (Nat×En)->List (Nat×En)
 | [] => []
 | (k,e)::l=>cond (k==loc) (frzE loc y l) ((k,frzEn loc y e)::frzE loc y l)
def frz1 (B:Bs) (S:Sx) (loc:Nat):Sx:=match lookE B S loc with
 | some (.row true t _ l)=>cond ((alook B.e loc).isNone&&quiet loc B) ⟨frzT loc (.sl true t l) S.t,frzE loc (.sl true t l) S.e,S.n⟩ S
 | _=>S
def frzAll (B:Bs):List Nat->Sx->Sx
 | [],S=>S
 | l::ls,S=>frzAll B ls (frz1 B S l)
def AV.ownsL:List AV->List Nat
 | [] => []
 | .own l::r=>l::AV.ownsL r
 | _::r=>AV.ownsL r
def AV.owns:AV->List Nat
 | .own l => [l]
 | .agg cs=>AV.ownsL cs
 | _ => []
def ownsAll:List AV->List Nat
 | [] => []
 | x::l=>AV.owns x++ownsAll l
def pickT:List Nat->List (Nat×AV)->List (Nat×AV)
 | [],_ => []
 | d::ds,l=>match alook l d with
  | some x=>(d,x)::pickT ds l
  | none=>pickT ds l
def kpAt:List (Nat×List Nat)->Nat->Option (List Nat)
 | [],_=>none
 | (k,l)::m,id=>cond (k==id) (some l) (kpAt m id)
def pickS (C:Cx) (id:Nat) (S:Sx):Sx:=match kpAt C.kp id with
 | none=>S
 | some ks=>⟨pickT ks S.t,S.e,S.n⟩
def preS (B:Bs) (S:Sx):Op->Sx
 | .buildSlice _ _ parts=>frzAll B (ownsAll (parts.toList.map fun p=>getO B S p.2)) S
 | .store _ ad x=>match getO B S ad with
  | .orp _ _ _ _=>frzAll B (AV.owns (getO B S x)) S
  | _=>S
 | .mapUpdate _ _ _ v=>frzAll B (AV.owns (getO B S v)) S
 | .entryStore _ _ _ v=>frzAll B (AV.owns (getO B S v)) S
 | _=>S
section
variable {w w0:World} {ρ:Nat->Option Rl} {base:Nat} {ro:Nat->Prop} {S0:Pm} {N:Nat} {B:Bs} {S:Sx} {a:Act}
theorem frzL_get (loc:Nat) (y:AV):∀ (l:List AV) (j:Nat),(AV.frzL loc y l)[j]? = (l[j]?).map (AV.frz loc y)
 | [],j=>by simp [AV.frzL]
 | x::l,0=>by simp [AV.frzL]
 | x::l,j+1=>by simp only [AV.frzL,List.getElem?_cons_succ]; exact frzL_get loc y l j
theorem frzL_len (loc:Nat) (y:AV):∀ (l:List AV),(AV.frzL loc y l).length=l.length
 | []=>rfl
 | x::l=>by simp [AV.frzL,frzL_len loc y l]
theorem alook_frzT {loc d:Nat} {y:AV}:∀ (l:List (Nat×AV)),alook (frzT loc y l) d=(alook l d).map (AV.frz loc y)
 | []=>rfl
 | (k,x)::l=>by
  simp only [frzT,alook];split
  . rfl
  . exact alook_frzT l
theorem alook_frzE {loc d:Nat} {y:AV}:∀ (l:List (Nat×En)),alook (frzE loc y l) d=if d=loc then none else (alook l d).map (frzEn loc y)
 | []=>by simp [frzE,alook]
 | (k,e)::l=>by
  have ih:=alook_frzE (loc:=loc) (d:=d) (y:=y) l;simp only [frzE]
  cases hk:k==loc with
  | true =>
   have hk':k=loc:=by simpa using hk
   simp only [cond_true,alook];rw [ih];split
   . rfl
   . rename_i hd;have:(k==d)=false:=by simp only [beq_eq_false_iff_ne]; omega
     simp only [this,Bool.false_eq_true,if_false]
  | false =>
   simp only [cond_false,alook];by_cases hkd:k=d
   . subst hkd;have:¬ k=loc:=by simpa using hk
     simp [this]
   . have hkd':(k==d)=false:=by simpa using hkd
     simp only [hkd',Bool.false_eq_true,if_false];exact ih
theorem pickT_get {d:Nat} {x:AV} {l:List (Nat×AV)}:∀ {ds:List Nat},alook (pickT ds l) d=some x->alook l d=some x
 | [],h=>by cases h
 | k::ds,h=>by
  unfold pickT at h;split at h
  . rename_i y hy;simp only [alook] at h;split at h
    . rename_i hk;have hk':k=d:=by simpa using hk
      subst hk';rw [hy];exact h
    . exact pickT_get h
  . exact pickT_get h
theorem pickS_ok (C:Cx) (id:Nat) (H:Sim w0 S0 N B S a w):Sim w0 S0 N B (pickS C id S) a w:=by
 unfold pickS;split
 . exact H
 . rename_i ks _;obtain⟨ρ,ro,H⟩:=H;refine⟨ρ,ro,H.from_,H.size,H.defers,H.roB,fun d x h=>H.tm d x ?_,H.en,H.apart,H.fresh,H.own,H.roS,H.solid,fun d x h => ?_,H.disE⟩
   . unfold lookT at h ⊢;dsimp only at h
     cases hp:alook (pickT ks S.t) d with
     | some y =>
      rw [hp] at h;rw [pickT_get hp];exact h
     | none =>
      rw [hp] at h;rw [H.disT d x h];exact h
   . show alook (pickT ks S.t) d=none
     cases hp:alook (pickT ks S.t) d with
     | none=>rfl
     | some y=>have:=pickT_get hp; rw [H.disT d x h] at this; cases this
theorem AVR.frz_ {x:AV} {v:Value} {loc n c:Nat} {A:Option Addr} {y:AV} (h:AVR w ρ base ro x v) (hr : ρ loc=some (.row A n c)) (hy:AVR w (fun l=>if l=loc then none else ρ l) base (fun b=>ro b\/A.map (·.block)=some b) y (.slice A n c)) :
 AVR w (fun l=>if l=loc then none else ρ l) base (fun b=>ro b\/A.map (·.block)=some b) (AV.frz loc y x) v:=by
 have hρ:∀ l r,ρ l=some r->l≠loc->(fun l=>if l=loc then none else ρ l) l=some r:=fun l r h hl=>by simp only [if_neg hl]; exact h
 have hns:∀ l r,ρ l=some r->r.solid=true->l≠loc:=fun l r h h2 e=>by subst e; rw [hr] at h; cases h; cases h2
 induction h with
 | un=>exact .un _
 | int=>exact .int _ _
 | lit=>exact .lit _ _
 | bool=>exact .bool _
 | blit=>exact .blit _
 | str=>exact .str _
 | nil=>exact .nil
 | sl fr t l A' c' css hl hc hrd hro1 hfr h ih =>
  refine .sl fr t l A' c' css hl hc hrd (fun a ha hn => .inl (hro1 a ha hn)) hfr fun k cs j x v k1 k2 k3 => ?_;have h1:=h k cs j x v k1 k2 k3;have h2:=hasL_get (cellsAV_has fr t _ loc) k2;exact (h1.move (ρ':=fun l=>if l=loc then none else ρ l) h2 fun l r q1 q2=>hρ l r q1 (q2.elim id (hns l r q1))).mono (fun _ _ _=>rfl) (Ext.refl _) (Nat.le_refl _) fun _ hb => .inl hb
 | wide fr t l n A' c' hn h ih=>exact .wide fr t l n A' c' hn ih
 | pto cells off b o cs hro1 hlt hl hc h ih =>
  refine .pto _ off b o cs (.inl hro1) hlt (by rw [frzL_len]; exact hl) hc fun j x v k1 k2 => ?_;rw [frzL_get] at k1;obtain⟨z,k3,rfl⟩:=Option.map_eq_some_iff.1 k1;exact ih j z v k3 k2
 | ptr l off b h=>exact .ptr _ _ _ (hρ _ _ h (hns _ _ h rfl))
 | own l A' n' c' h =>
  unfold AV.frz
  cases hl:l==loc with
  | true =>
   have:l=loc:=by simpa using hl
   subst this;rw [hr] at h;cases h;exact hy
  | false=>exact .own _ _ _ _ (hρ _ _ h (by simpa using hl))
 | orp t l k off A' n' c' b h hA h0 hn =>
  unfold AV.frz
  cases hl:l==loc with
  | true=>exact .un _
  | false=>exact .orp _ _ _ _ _ _ _ _ (hρ _ _ h (by simpa using hl)) hA h0 hn
 | mp l b h=>exact .mp _ _ (hρ _ _ h (hns _ _ h rfl))
 | stamp l s h=>exact .stamp _ _ (hρ _ _ h (hns _ _ h rfl))
 | it l l2 b h=>exact .it _ _ _ (hρ _ _ h (hns _ _ h rfl))
 | agg l vs hl h ih =>
  refine .agg _ _ (by rw [frzL_len]; exact hl) fun j x v k1 k2 => ?_;rw [frzL_get] at k1;obtain⟨z,k3,rfl⟩:=Option.map_eq_some_iff.1 k1;exact ih j z v k3 k2
 | tup l vs hl h ih =>
  refine .tup _ _ (by rw [frzL_len]; exact hl) fun j x v k1 k2 => ?_;rw [frzL_get] at k1;obtain⟨z,k3,rfl⟩:=Option.map_eq_some_iff.1 k1;exact ih j z v k3 k2
 | fn f caps vs hl h ih =>
  refine .fn f _ _ (by rw [frzL_len]; exact hl) fun j x v k1 k2 => ?_;rw [frzL_get] at k1;obtain⟨z,k3,rfl⟩:=Option.map_eq_some_iff.1 k1;exact ih j z v k3 k2
theorem frz1_ok (hfx:S0.fx=false) (H:Sim w0 S0 N B S a w) (loc:Nat):Sim w0 S0 N B (frz1 B S loc) a w:=by
 obtain⟨ρ,ro,H⟩:=H;unfold frz1;split
 case h_2=>exact⟨ρ,ro,H⟩
 rename_i t T l he
 cases hc:(alook B.e loc).isNone&&quiet loc B with
 | false=>exact⟨ρ,ro,H⟩
 | true =>
  rw [cond_true];simp only [Bool.and_eq_true,Option.isNone_iff_eq_none] at hc;obtain⟨hB,hq⟩:=hc;unfold quiet at hq;simp only [Bool.and_eq_true] at hq;obtain⟨A,c,css,hA,hown,hlen,hcell⟩:=H.en _ _ he;have hown':OwnS w w0.heap.size T t.size A c css:=hown;obtain⟨y,hy⟩:∃ y,AV.sl true t l=y:=⟨_,rfl⟩
  obtain⟨ρ',hρ'⟩:∃ ρ':Nat->Option Rl,ρ'=fun l=>if l=loc then none else ρ l:=⟨_,rfl⟩
  obtain⟨ro',hro'⟩:∃ ro':Nat->Prop,ro'=fun b=>ro b\/A.map (·.block)=some b:=⟨_,rfl⟩
  have hρ:∀ l r,ρ l=some r->l≠loc -> ρ' l=some r:=fun l r h hl=>by rw [hρ']; simp only [if_neg hl]; exact h
  have hns:∀ l r,ρ l=some r->r.solid=true->l≠loc:=fun l r h h2 e=>by subst e; rw [hA] at h; cases h; cases h2
  have hback:∀ l r,ρ' l=some r -> ρ l=some r/\l≠loc:=fun l r h=>by
   rw [hρ'] at h;simp only at h;split at h
   . cases h
   . rename_i hl; exact⟨h,hl⟩
  have hmv:∀ x v,AVR w ρ w0.heap.size ro x v->AV.has loc x=false->AVR w ρ' w0.heap.size ro' x v:=fun x v h hx=>(h.move (ρ' := ρ') hx fun l r q1 q2=>hρ l r q1 (q2.elim id (hns l r q1))).mono (fun _ _ _=>rfl) (Ext.refl _) (Nat.le_refl _) fun _ hb=>by rw [hro']; exact .inl hb
  have hbl:∀ b,A.map (·.block)=some b->w0.heap.size<=b/\b<w.heap.size:=fun b hb=>by
   obtain⟨ad,h1,h2⟩:=Option.map_eq_some_iff.1 hb;have h3:=hown'.lt h1;rw [h2] at h3;exact h3
  have hyv:AVR w ρ' w0.heap.size ro' y (.slice A (l ()).length c):=by
   rw [<- hy];refine .sl true t l A c css hlen hown'.cap.1 hown'.rd (fun ad ha _=>by rw [hro']; exact .inr (by rw [ha]; rfl)) (fun _ ad ha _=>(hown'.lt ha).1) fun k cs j x v k1 k2 k3=>hmv x v (hcell k cs j x v k1 k2 k3) (hasL_get (cellsAV_has true t _ loc) k2)
  have hall:∀ x v,AVR w ρ w0.heap.size ro x v->AVR w ρ' w0.heap.size ro' (AV.frz loc y x) v:=fun x v h=>by
   rw [hρ',hro'] at hyv ⊢;exact h.frz_ hA hyv
  have hen:∀ k e,EnR w ρ w0.heap.size ro k e->k≠loc->(∀ T cs,e = .box T cs->False)->EnR w ρ' w0.heap.size ro' k e:=fun k e h hk hb=>by
   cases e with
   | box T cs=>exact (hb T cs rfl).elim
   | row fr t T m =>
    obtain⟨A1,c1,css1,k1,k2,k3,k4⟩:=h;exact⟨A1,c1,css1,hρ _ _ k1 hk,k2,k3,fun i cs j x v q1 q2 q3=>hmv x v (k4 i cs j x v q1 q2 q3) (hasL_get (cellsAV_has fr t _ loc) q2)⟩
   | map fr ag c t T m =>
    obtain⟨b,es,clock,k1,k2,k3,k4⟩:=h;exact⟨b,es,clock,hρ _ _ k1 hk,k2,k3,k4.map_ fun x v hx=>hmv _ v hx (elAV_has _ _ _ _ _)⟩
   | iter ml c seen left =>
    obtain⟨b,b2,es,clock,since,stamps,c0,k1,k2,k3⟩:=h;exact⟨b,b2,es,clock,since,stamps,c0,hρ _ _ k1 hk,hρ _ _ k2 (hns _ _ k2 rfl),k3⟩
   | stamp ml c key =>
    obtain⟨b,es,clock,s,e,k1,k2,k3⟩:=h;exact⟨b,es,clock,s,e,hρ _ _ k1 hk,hρ _ _ k2 (hns _ _ k2 rfl),k3⟩
   | dead =>
    obtain⟨r,k1⟩:=h;exact⟨r,hρ _ _ k1 hk⟩
  refine⟨ρ',ro',H.from_,H.size,H.defers,fun b hb => ?_,fun d x h => ?_,fun k e h => ?_,fun k k' r r' b hne h1 h2=>H.apart k k' r r' b hne (hback _ _ h1).1 (hback _ _ h2).1,fun k hk => ?_,fun k r b h1 h2 => ?_,fun b hb hlt => ?_,fun k r h1 h2 => ?_,fun d x h => ?_,fun k e h => ?_⟩
  . rw [hro'] at hb;exact hb.elim (H.roB b) fun h=>(hbl b h).2
  . unfold lookT at h;dsimp only at h;rw [alook_frzT] at h
    cases hd:alook S.t d with
    | none =>
     rw [hd] at h;obtain⟨u,h1,h2⟩:=H.tm d x (by unfold lookT; rw [hd]; exact h);exact⟨u,h1,hmv x u h2 (quietT_get hq.1 h)⟩
    | some z =>
     rw [hd] at h;simp only [Option.map_some,Option.some.injEq] at h;obtain⟨u,h1,h2⟩:=H.tm d z (by unfold lookT; rw [hd]);refine⟨u,h1,?_⟩;rw [<- h,hy];exact hall z u h2
  . unfold lookE at h;dsimp only at h;rw [alook_frzE] at h;by_cases hk:k=loc
    . rw [if_pos hk,hk,hB] at h;cases h
    rw [if_neg hk] at h
    cases hd:alook S.e k with
    | none =>
     rw [hd] at h;have h1:=H.en k e (by unfold lookE; rw [hd]; exact h)
     cases e with
     | box T cs =>
      obtain⟨b,us,k1,k4,k5⟩:=h1;exact⟨b,us,hρ _ _ k1 hk,k4,k5.1,fun j x v hx hv=>hmv x v (k5.2 j x v hx hv) (hasL_get (quietE_get hq.2 h) hx)⟩
     | row fr t T m=>exact hen _ _ h1 hk (fun _ _ h=>by cases h)
     | map fr ag c t T m=>exact hen _ _ h1 hk (fun _ _ h=>by cases h)
     | iter ml c seen left=>exact hen _ _ h1 hk (fun _ _ h=>by cases h)
     | stamp ml c key=>exact hen _ _ h1 hk (fun _ _ h=>by cases h)
     | dead=>exact hen _ _ h1 hk (fun _ _ h=>by cases h)
    | some z =>
     rw [hd] at h;simp only [Option.map_some,Option.some.injEq] at h;have h1:=H.en k z (by unfold lookE; rw [hd]);rw [<- h,hy]
     cases z with
     | box T cs =>
      obtain⟨b,us,k1,k4,k5⟩:=h1;refine⟨b,us,hρ _ _ k1 hk,k4,by rw [frzL_len]; exact k5.1,fun j x v hx hv => ?_⟩;rw [frzL_get] at hx;obtain⟨z,k3,rfl⟩:=Option.map_eq_some_iff.1 hx;exact hall z v (k5.2 j z v k3 hv)
     | row fr t T m=>exact hen _ _ h1 hk (fun _ _ h=>by cases h)
     | map fr ag c t T m=>exact hen _ _ h1 hk (fun _ _ h=>by cases h)
     | iter ml c seen left=>exact hen _ _ h1 hk (fun _ _ h=>by cases h)
     | stamp ml c key=>exact hen _ _ h1 hk (fun _ _ h=>by cases h)
     | dead=>exact hen _ _ h1 hk (fun _ _ h=>by cases h)
  . have h1:=H.fresh k hk;rw [hρ'];simp only [h1];split<;>rfl
  . obtain⟨h3,h4⟩:=hback _ _ h1;have h5:=H.own k r b h3 h2;refine⟨h5.1,fun hb => ?_,h5.2.2⟩;rw [hro'] at hb;rcases hb with hb|hb
    . exact h5.2.1 hb
    . exact H.apart k loc r _ b h4 h3 hA h2 hb
  . rw [hro'] at hb;rcases hb with hb|hb
    . exact H.roS b hb hlt
    . have:=(hbl b hb).1;omega
  . have h3:=H.solid k r h1 h2;rw [hfx,Bool.or_false] at h2;exact hρ _ _ h3 (hns _ _ h3 h2)
  . show alook (frzT loc _ S.t) d=none
    rw [alook_frzT,H.disT d x h];rfl
  . show alook (frzE loc _ S.e) k=none
    rw [alook_frzE,H.disE k e h];split<;>rfl
theorem frzAll_ok (hfx:S0.fx=false):∀ {ls:List Nat} {S:Sx},Sim w0 S0 N B S a w->Sim w0 S0 N B (frzAll B ls S) a w
 | [],_,H=>H
 | l::ls,_,H=>frzAll_ok hfx (ls:=ls) (frz1_ok hfx H l)
theorem preS_ok (hfx:S0.fx=false) (H:Sim w0 S0 N B S a w) (op:Op):Sim w0 S0 N B (preS B S op) a w:=by
 unfold preS;split
 . exact frzAll_ok hfx H
 . split
   . exact frzAll_ok hfx H
   . exact H
 . exact frzAll_ok hfx H
 . exact frzAll_ok hfx H
 . exact H
end
end Go.Proofs.YthfpdbjemfhieaaGreat
