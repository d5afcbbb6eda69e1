/-
  The abstract run is sound: a function's contract, from what is shown of plain data.
-/
import Derived.Test.YtffeegebohigdaaGreatMs15
set_option linter.unusedVariables false
set_option linter.unusedSimpArgs false
set_option maxRecDepth 100000
set_option maxHeartbeats 4000000
namespace Go.Proofs.YtffeegebohigdaaGreat
open Go.RowKit
def Qa0 (tmps:Array Value):ResultVar->Sem Value
 | .tmp t=>pure (tmps.getD t undef)
 | .cell p t=>do loadVar t (<- asAddr (tmps.getD p undef))
def Qwp:List Value->Value
 | [v]=>v
 | vs => .tuple vs.toArray
section
variable {w w' w0:World} {ρ ρ' ρ2:Nat->Option Rl} {base base' n:Nat} {ro ro':Nat->Prop} {S0:Pm} {N:Nat} {B:Bs} {S:Sx} {a:Act} {F:Fx} {P:Program}
theorem J8:∀ {l:List AV} {j:Nat} {x:AV},AV.noFrL l=true->l[j]? = some x->AV.noFr x=true
 | y::l,0,x,h,hx=>by
  simp only [List.getElem?_cons_zero,Option.some.injEq] at hx;subst hx;simp only [AV.noFrL,Bool.and_eq_true] at h;exact h.1
 | y::l,j+1,x,h,hx=>by
  simp only [AV.noFrL,Bool.and_eq_true] at h;exact J8 h.2 (by simpa using hx)
 | [],j,x,_,hx=>by simp at hx
theorem Q7m (t:Tc) (x:Unit->t.el):AV.noFrL (Q8 false t x)=true:=by cases t<;>rfl
theorem AVR.anew {x:AV} {v:Value} (h:AVR w ρ base ro x v) (hx:AV.noFr x=true):AVR w ρ base' ro x v:=by
 induction h with
 | un=>exact .un _
 | int=>exact .int _ _
 | lit=>exact .lit _ _
 | bool=>exact .bool _
 | blit=>exact .blit _
 | str=>exact .str _
 | nil=>exact .nil
 | sl fr t l A c css hl hc hr hro1 hfr h ih =>
  have hfr0:fr=false:=by simpa [AV.noFr] using hx
  subst hfr0;exact .sl false t l A c css hl hc hr hro1 (fun h=>by cases h) fun k cs j y v h1 h2 h3=>ih k cs j y v h1 h2 h3 (J8 (Q7m _ _) h2)
 | wide fr t l n A c hn h ih=>exact .wide fr t l n A c hn (ih (by simpa only [AV.noFr] using hx))
 | pto cells off b o cs hr hlt hl hc h ih=>exact .pto cells off b o cs hr hlt hl hc fun j y v h1 h2=>ih j y v h1 h2 (J8 (by simpa only [AV.noFr] using hx) h1)
 | ptr l off b h=>exact .ptr _ _ _ h
 | own l A n c h=>exact .own _ _ _ _ h
 | orp t l k off A n c b h hA h0 hn=>exact .orp _ _ _ _ _ _ _ _ h hA h0 hn
 | osl t l a b A n c h hab=>exact .osl _ _ _ _ _ _ _ h hab
 | mp l b h=>exact .mp _ _ h
 | stamp l b h=>exact .stamp _ _ h
 | it l l2 b h=>exact .it _ _ _ h
 | agg l vs hl h ih=>exact .agg _ _ hl fun j y v h1 h2=>ih j y v h1 h2 (J8 (by simpa only [AV.noFr] using hx) h1)
 | tup l vs hl h ih=>exact .tup _ _ hl fun j y v h1 h2=>ih j y v h1 h2 (J8 (by simpa only [AV.noFr] using hx) h1)
 | fn f caps vs hl h ih=>exact .fn _ _ _ hl fun j y v h1 h2=>ih j y v h1 h2 (J8 (by simpa only [AV.noFr] using hx) h1)
theorem Qhi {C:Cx} (hty:Zw P C.ty) (H:Zi w0 S0 N B S a w ρ ro):∀ {rs:List ResultVar} {l:List AV},Q53 C B S rs=some l ->
 ∃ vs:List Value,(rs.mapM (Qa0 a.tmps):Sem (List Value)).run P w = .ok vs w/\Qj w ρ w0.heap.size ro l vs
 | [],l,h=>by
  simp only [Q53,Option.some.injEq] at h;subst h;exact⟨[],rfl,.nil⟩
 | .tmp t::rs,l,h=>by
  unfold Q53 at h
  cases hr:Q53 C B S rs with
  | none=>rw [hr] at h; cases h
  | some r =>
   rw [hr] at h;simp only [Option.map_some,Option.some.injEq] at h;subst h;obtain⟨vs,h1,h2⟩:=Qhi hty H hr;have h3:=H.get (.tmp t);refine⟨a.eval (.tmp t)::vs,?_,.cons h3 h2⟩;have hO:(Qa0 a.tmps (.tmp t)).run P w = .ok (a.eval (.tmp t)) w:=rfl;rw [List.mapM_cons];simp only [Sem.run_bind,Sem.run_pure,Result.andThen_ok,hO,h1]
 | .cell p T::rs,l,h=>by
  unfold Q53 at h;split at h
  . rename_i i hi;split at h
    . rename_i x r hx hr;cases h;obtain⟨vs,h1,h2⟩:=Qhi hty H hr;obtain⟨ad,v,h3,h4,h5⟩:=Qw8 (fun l e he=>H.en l e he) (hty T i hi) hx (H.get (.tmp p));refine⟨v::vs,?_,.cons h5 h2⟩;have h3':a.tmps.getD p undef = .pointer (some ad):=h3;have hA:(asAddr (a.tmps.getD p undef)).run P w = .ok ad w:=by rw [h3']; rfl
      have hO:(Qa0 a.tmps (.cell p T)).run P w = .ok v w:=by
       unfold Qa0;simp only [Sem.run_bind,hA,Result.andThen_ok,h4]
      rw [List.mapM_cons];simp only [Sem.run_bind,Sem.run_pure,Result.andThen_ok,hO,h1]
    . cases h
  . cases h
theorem Qz1 {fn:Func} {vs:List Value} (h:(fn.results.toList.mapM (Qa0 a.tmps):Sem (List Value)).run P w = .ok vs w):(results fn a.tmps).run P w = .ok (Qwp vs) w:=by
 show (do
  let vs <- fn.results.mapM (Qa0 a.tmps)
  pure (if h:vs.size=1 then vs[0] else .tuple vs):Sem Value).run P w=_
 rw [Array.mapM_eq_mapM_toList];simp only [Sem.run_bind,Sem.run_map,h,Result.andThen_ok,Sem.run_pure]
 match vs with
 | []=>rfl
 | [v]=>rfl
 | u::v::l=>simp [Qwp]
theorem Z2w {l:List AV} {vs:List Value} (h:Qj w ρ base ro l vs):AVR w ρ base ro (Qpj l) (Qwp vs):=by
 match l,vs,h with
 | [],[],h=>exact .tup [] [] h.1 h.2
 | [x],[v],h=>exact h.2 0 x v rfl rfl
 | x::y::l,u::v::vs,h=>exact .tup (x::y::l) (u::v::vs) h.1 h.2
 | [],_::_,h=>exact absurd h.1 (by simp)
 | _::_,[],h=>exact absurd h.1 (by simp)
 | [x],u::v::vs,h=>exact absurd h.1 (by simp)
 | x::y::l,[v],h=>exact absurd h.1 (by simp)
theorem Qns:∀ (l:List AV) (k d:Nat) (x:AV),Q3 (Qlz k l) d=some x->k<=d/\l[d - k]? = some x
 | [],k,d,x,h=>by cases h
 | y::l,k,d,x,h=>by
  unfold Qlz at h;rw [Qb] at h;split at h
  . rename_i e;subst e;cases h;simp
  . obtain⟨h1,h2⟩:=Qns l (k+1) d x h;refine⟨by omega,?_⟩;rw [show d - k=(d - (k+1))+1 by omega];simpa using h2
end
theorem Q5c {P : Program} {f : FuncId} {fn : Func} (hf : P.funcs[f]? = some fn) (hb : fn.body.isNone = false) (hn : (fn.name == "runtime.NumGoroutine") = false) (args : Array Value) (w : World) : (callFunc f args).run P w = .ok (.enter f args) w := by
 unfold callFunc;simp only [Sem.run_bind,run_program,Result.andThen_ok,hf,hn,hb,Bool.false_eq_true,if_false,Sem.run_pure]
section
variable {w w' w0:World} {ρ ρ' ρ2:Nat->Option Rl} {base base' n:Nat} {ro ro':Nat->Prop}
theorem Z19 (ag:Bool) (t:Tc) (x:Unit->t.el):AV.noFr (Yh ag false t x)=true:=by
 unfold Yh;have h:=Q7m t x
 cases ag with
 | true=>exact h
 | false =>
  simp only [Bool.false_eq_true,if_false]
  cases hc:Q8 false t x with
  | nil=>rfl
  | cons c l =>
   rw [hc] at h
   cases l with
   | nil=>simpa [AV.noFrL] using h
   | cons c2 l=>rfl
theorem EnR.anew {l:Nat} {e:En} (h:EnR w ρ base ro l e) (hx:En.noFr e=true):EnR w ρ base' ro l e:=by
 cases e with
 | box T cells =>
  obtain⟨b,cs,h1,h4,h5⟩:=h;exact⟨b,cs,h1,h4,h5.1,fun j x v hx' hv=>(h5.2 j x v hx' hv).anew (J8 (by simpa [En.noFr] using hx) hx')⟩
 | row fr t T m =>
  obtain⟨A,c,css,h1,h2,h3,h5⟩:=h;have hf:fr=false:=by simpa [En.noFr] using hx
  subst hf;exact⟨A,c,css,h1,h2,h3,fun k cs j x v k1 k2 k3=>(h5 k cs j x v k1 k2 k3).anew (J8 (Q7m _ _) k2)⟩
 | map fr ag c t T m =>
  obtain⟨b,es,clock,h1,h2,h3,h4⟩:=h;have hf:fr=false:=by simpa [En.noFr] using hx
  subst hf;exact⟨b,es,clock,h1,h2,h3,h4.map_ fun x v hx=>hx.anew (Z19 _ _ _)⟩
 | iter ml c seen left=>exact h
 | stamp ml c key=>exact h
 | dead=>exact h
theorem Qoc:∀ {l:List (Nat×En)} {k:Nat} {e:En},Qpy l=true->Q3 l k=some e->En.noFr e=true
 | (j,y)::l,k,e,h,he=>by
  unfold Qpy at h;simp only [Bool.and_eq_true] at h;rw [Qb] at he;split at he
  . cases he; exact h.1
  . exact Qoc h.2 he
 | [],_,_,_,he=>by cases he
theorem Qhp {ks:List Nat}:∀ {n l:Nat},Qeg ks n=true->l<n->Qw l ks=true
 | n+1,l,h,hl=>by
  simp only [Qeg,Bool.and_eq_true] at h;rcases Nat.lt_or_ge l n with h1|h1
  . exact Qhp h.2 h1
  . rw [show l=n by omega]; exact h.1
 | 0,_,_,hl=>by omega
end
theorem Qzw {P:Program} {C:Cx} {f:FuncId} {fn:Func} {Ls:List (Nat×Lp)} {avs:List AV} {es0 es:List (Nat×En)} {n0:Nat} {want:AV} (hty:Zw P C.ty) (hcs:(∀ c∈C.cs,Q7 P c)/\∀ c∈C.fs,Vx P c) (hmix:P.follows .mixedOrders=true) (hf:P.funcs[f]? = some fn) (hb:fn.body.isNone=false) (hok:Yj (efs C.fs) C.sc C.lt fn.ntmps (Gy fn)=true)
 (hP:(fnG C Ls fn avs es0 n0 want es).P) {w:World} {ρ:Nat->Option Rl} {ra:Nat->Prop} {vals:List Value} (hra:∀ b,ra b->b<w.heap.size) (hE:Qj w ρ 0 ra avs vals) (hen:∀ l e,Q3 es0 l=some e->EnR w ρ 0 ra l e) (hap:∀ l l' r r' b,l≠l' -> ρ l=some r -> ρ l'=some r'->r.blk=some b->r'.blk≠some b) (hfr:∀ l,n0<=l -> ρ l=none) (hown:∀ l r b,ρ l=some r->r.blk=some b->b<w.heap.size/\¬ ra b) :
 Calls P f vals.toArray w fun e w'=>∃ v ρ1 ra1,e = .returned v/\Qmt w w' ρ ρ1 ra ra1 es C.fx/\AVR w' ρ1 w.heap.size ra1 want v:=by
 unfold fnG at hP;split at hP
 . rename_i hcond;simp only [Bool.and_eq_true,decide_eq_true_eq] at hcond;obtain⟨⟨⟨⟨⟨⟨hnb,hlen⟩,hnf⟩,hne⟩,hpl⟩,hple⟩,hall⟩:=hcond;obtain⟨code,hcode⟩:∃ code,fn.body=some code:=by
    cases hbo:fn.body with
    | none=>rw [hbo] at hb; cases hb
    | some code=>exact⟨code,rfl⟩
   have hbody:Gy fn=code:=by unfold Gy; rw [hcode]; rfl
   rw [hbody] at hP hok;have hvl:vals.length<=fn.ntmps:=by rw [<- hE.1]; exact hlen
   refine calls_of_wp hf hcode ?_;have hsim:Sim w ⟨ra,ρ,C.fx⟩ fn.ntmps ⟨[],[]⟩ ⟨Qlz 0 avs,es0,n0⟩ ⟨vals.toArray++Array.replicate (fn.ntmps - vals.toArray.size) undef,[]⟩ w:=by
    refine⟨ρ,ra,Gi.refl _ _,by simp; omega,rfl,hra,fun d x hx => ?_,fun l e he => ?_,hap,hfr,fun l r b h1 h2=>⟨(hown l r b h1 h2).1,(hown l r b h1 h2).2,.inr ⟨r,h1,h2⟩⟩,fun b hb _=>hb,fun l r h _=>h,fun d x h=>by simp [Q3] at h,fun l e h=>by simp [Q3] at h⟩
    . have h1:Q3 (Qlz 0 avs) d=some x:=by
       unfold Zh at hx;dsimp only at hx;split at hx
       . rename_i y hy; rw [hy,hx]
       . simp [Q3] at hx
      obtain⟨_,h2⟩:=Qns avs 0 d x h1;rw [Nat.sub_zero] at h2;obtain⟨v,h3,h4⟩:=hE.get h2;refine⟨v,?_,h4.anew (J8 hnf h2)⟩;have hd:=(List.getElem?_eq_some_iff.1 h3).1;rw [Array.getElem?_append_left (by simpa using hd)];simpa using h3
    . have h1:Q3 es0 l=some e:=by
       unfold Qh at he;dsimp only at he;split at he
       . rename_i y hy; rw [hy,he]
       . simp [Q3] at he
      exact (hen l e h1).anew (Qoc hne h1)
   refine wp_mono (Z71 (F:=⟨C,fn.ntmps,Ls,Qxq C fn.results.toList want es⟩) (w0:=w) (S0:=⟨ra,ρ,C.fx⟩) hty ⟨hcs.1,hcs.2,rfl,fun l r h=>by
    rcases Nat.lt_or_ge l n0 with h1|h1
    . show l<C.nb
      omega
    . have h2 : ρ l=some r:=h;rw [hfr l h1] at h2; cases h2⟩ hmix 100000 code ⟨[],[]⟩ _ [] _ w hP hsim (.nil _) hok) fun e a' w' hq => ?_
   have hplc:∀ l r,ρ l=some r->l<C.nb:=fun l r h=>by
    rcases Nat.lt_or_ge l n0 with h1|h1
    . omega
    . rw [hfr l h1] at h; cases h
   have hfin:∀ S,Sim w ⟨ra,ρ,C.fx⟩ fn.ntmps ⟨[],[]⟩ S a' w'->(Qxq C fn.results.toList want es ⟨[],[]⟩ S).P->a'.defers = []/\∃ v,(results fn a'.tmps).run P w' = .ok v w'/\∃ u ρ1 ra1,Ending.returned v = .returned u/\Qmt w w' ρ ρ1 ra ra1 es C.fx/\AVR w' ρ1 w.heap.size ra1 want u:=by
    intro S H hr;obtain⟨ρ',ro,H⟩:=Qco (nb:=C.nb) (prs:=fun S=>match Q53 C ⟨[],[]⟩ S fn.results.toList with
     | some l=>Qpg (Qpj l) want
     | none => []) hplc 3 H
    unfold Qxq Z53 Z1r at hr;split at hr
    . rename_i l hl;split at hr
      . rename_i va vb hva hvb;obtain⟨vs,h1,h2⟩:=Qhi (P:=P) hty H hl;have hv:=Q9k (Q87 hr);generalize hks:Zg es=ks at hva hvb hpl hple hall;obtain⟨ρ1,hρ1⟩:∃ ρ1:Nat->Option Rl,ρ1=fun l=>if Qw l ks then ρ' l else none:=⟨_,rfl⟩
        obtain⟨ra1,hra1⟩:∃ ra1:Nat->Prop,ra1=fun b=>(ra b\/w.heap.size<=b)/\b<w'.heap.size/\∀ l r,ρ1 l=some r->r.blk≠some b:=⟨_,rfl⟩
        have hback:∀ l r,ρ1 l=some r -> ρ' l=some r/\Qw l ks=true:=by
         intro l r h;rw [hρ1] at h;simp only at h;split at h
         . rename_i hm; exact⟨h,hm⟩
         . cases h
        have hro:∀ b,ro b->ra1 b:=by
         intro b hb;rw [hra1];refine⟨?_,H.roB b hb,fun l r h1 h2=>(H.own l r b (hback l r h1).1 h2).2.1 hb⟩;rcases Nat.lt_or_ge b w.heap.size with h|h
         . exact .inl (H.roS b hb h)
         . exact .inr h
        have M:Qt6 w ρ' ρ1 ro ra1 (inK ks) (some ks):=by
         refine⟨fun l r h hm => ?_,hro,(fun h=>by cases h),fun ks' hk loc A n c h hm ad ha => ?_⟩
         . rw [hρ1];have hm':Qw l ks=true:=hm;simp only [hm',if_true];exact h
         . injection hk with hk;subst hk;have hbk:(Rl.row A n c).blk=some ad.block:=by simp [Rl.blk,ha]
           have h3:=H.own loc _ ad.block h hbk;have h4:w.heap.size<=ad.block:=by
            rcases h3.2.2 with h4|⟨r0,h4,_⟩
            . exact h4
            . have h4' : ρ loc=some r0:=h4;rcases Nat.lt_or_ge loc n0 with h5|h5
              . rw [Qhp hall h5] at hm; cases hm
              . rw [hfr loc h5] at h4'; cases h4'
           refine⟨h4,?_⟩;rw [hra1];exact⟨.inr h4,h3.1,fun l r h5 h6=>H.apart l loc r _ ad.block (fun e=>by subst e; rw [(hback _ _ h5).2] at hm; cases hm) (hback l r h5).1 h h6 hbk⟩
        refine⟨H.defers,_,Qz1 h1,_,ρ1,ra1,rfl,⟨H.from_,fun l e he=>Qvj H M hvb hv.2 hple l e he,fun l l' r r' b hne k1 k2 k3 k4=>H.apart l l' r r' b hne (hback l r k1).1 (hback l' r' k2).1 k3 k4,fun l hl => ?_,fun l r b k1 k2 => ?_,fun b hb => ?_,fun l r k1 k2 => ?_⟩,Qmz H M _ _ va _ hva hv.1 (Z2w h2) hpl⟩
        . rw [hks] at hl;rw [hρ1];simp only [hl,Bool.false_eq_true,if_false]
        . have h3:=H.own l r b (hback l r k1).1 k2;refine⟨h3.1,fun hb => ?_,h3.2.2⟩;rw [hra1] at hb;exact hb.2.2 l r k1 k2
        . rw [hra1] at hb;exact⟨hb.2.1,fun hlt=>hb.1.resolve_right (by omega)⟩
        . have h3:=H.solid l r k1 k2;rw [hρ1];have hm:Qw l ks=true:=by
           rcases Nat.lt_or_ge l n0 with h5|h5
           . exact Qhp hall h5
           . rw [hfr l h5] at k1; cases k1
          simp only [hm,if_true];exact h3
      . exact hr.elim
    . exact hr.elim
   cases e with
   | normal =>
    obtain⟨g,S,_,H,hc⟩:=hq
    cases g with
    | zero=>unfold Q07 at hc; exact hc.elim
    | succ g=>unfold Q07 at hc; exact hfin S H hc
   | ret =>
    obtain⟨g,S,_,H,hc⟩:=hq
    cases g with
    | zero=>unfold Ke at hc; exact hc.elim
    | succ g=>unfold Ke at hc; exact hfin S H hc
   | exit id =>
    obtain⟨g,S,_,H,hc⟩:=hq
    cases g with
    | zero=>unfold Gh at hc; exact hc.elim
    | succ g=>unfold Gh at hc; exact hc.elim
   | goto l=>exact hq.elim
   | panic c=>exact hq.elim
   | outgrown=>exact hq.elim
 . exact hP.elim
theorem Qau {P : Program} {C : Cx} {c : Con} {fn : Func} (hty : Zw P C.ty) (hcs : (∀ c ∈ C.cs, Q7 P c) /\ ∀ c ∈ C.fs, Vx P c) (hmix : P.follows .mixedOrders = true) (hf : P.funcs[c.f]? = some fn) (hb : fn.body.isNone = false) (hn : (fn.name == "runtime.NumGoroutine") = false) (hok : Yj (efs C.fs) C.sc C.lt fn.ntmps (Gy fn) = true)
 (h:∀ avs res,c.go avs=some res->res.pre ()->∃ Ls,(fnF C Ls fn avs res.av).P):Q7 P c:=by
 refine⟨fun args w=>Q5c hf hb hn args w,fun avs res hgo w ra vals hra hE hpre => ?_⟩;obtain⟨Ls,hP⟩:=h avs res hgo hpre;refine (Qzw hty hcs hmix hf hb hok hP (ρ:=fun _=>none) hra hE (fun l e h=>by cases h) (fun _ _ _ _ _ _ h=>by cases h) (fun _ _=>rfl) (fun _ _ _ h=>by cases h)).mono fun e w' hq => ?_;obtain⟨v,ρ1,ra1,rfl,hL,hv⟩:=hq;have hρ : ρ1=fun _=>none:=funext fun l=>hL.fresh l rfl;subst hρ;refine⟨v,rfl,hL.from_.none_,hv.mono (fun _ _ _=>rfl) (Ext.refl _) (Nat.le_refl _) fun b hb => ?_⟩;rcases Nat.lt_or_ge b w.heap.size with h|h
 . exact .inl ((hL.rd b hb).2 h)
 . exact .inr h
theorem Qs4 {P : Program} {C : Cx} {c : Fon} {fn : Func} (hfx : C.fx = c.fix) (hty : Zw P C.ty) (hcs : (∀ c ∈ C.cs, Q7 P c) /\ ∀ c ∈ C.fs, Vx P c) (hmix : P.follows .mixedOrders = true) (hf : P.funcs[c.f]? = some fn) (hb : fn.body.isNone = false) (hn : (fn.name == "runtime.NumGoroutine") = false) (hok : Yj (efs C.fs) C.sc C.lt fn.ntmps (Gy fn) = true)
 (h:∀ avs es res,c.go avs es=some res->res.pre ()->∃ Ls,(fnG C Ls fn avs es c.n res.av res.es).P):Vx P c:=by
 refine⟨fun args w=>Q5c hf hb hn args w,fun avs es res hgo w ρ ra vals hra hE hen hap hfr hown hpre => ?_⟩;obtain⟨Ls,hP⟩:=h avs es res hgo hpre;rw [<- hfx];exact Qzw hty hcs hmix hf hb hok hP hra hE hen hap hfr hown
end Go.Proofs.YtffeegebohigdaaGreat
namespace Go.Proofs.YtffeegebohigdaaGreat
def Qay:Tab := [
 (3,⟨1,.int .i64,[.lit .i64 0],[]⟩),(4,⟨1,.bool,[.blit false],[]⟩),(5,⟨1,.int .u8,[.lit .u8 0],[]⟩),(1,⟨1,.other,[.un],[]⟩),(2,⟨1,.int .i64,[.lit .i64 0],[]⟩),(7,⟨4,.struct [(0,1,false),(1,1,false),(2,1,false),(3,1,false)],[.lit .i64 0,.lit .i64 0,.blit false,.lit .u8 0],[]⟩),(9,⟨1,.str,[.str fun _=>Y0],[]⟩),(12,⟨1,.int .u64,[.lit .u64 0],[]⟩),(13,⟨2,.struct [(0,1,false),(1,1,false)],[.str fun _=>Y0,.lit .u64 0],[]⟩),(15,⟨1,.other,[.un],[]⟩),(16,⟨1,.other,[.un],[]⟩),(17,⟨1,.other,[.un],[]⟩),(18,⟨1,.struct [(0,1,false)],[.un],[]⟩),(21,⟨1,.int .i32,[.lit .i32 0],[]⟩),(22,⟨1,.slice 45 12 112,[.nil],[]⟩),(23,⟨1,.slice 186 2 32,[.nil],[]⟩),(24,⟨4,.struct [(0,1,false),(1,1,false),(2,1,false),(3,1,false)],[.lit .i64 0,.lit .i64 0,.lit .i64 0,.lit .i64 0],[]⟩),(25,⟨4,.struct [(0,1,false),(1,1,false),(2,1,false),(3,1,false)],[.lit .i64 0,.lit .i64 0,.lit .i64 0,.lit .i64 0],[.int .i64,.int .i64,.int .i64,.int .i64]⟩),(26,⟨1,.slice 259 5 40,[.nil],[]⟩),(27,⟨1,.slice 59 5 40,[.nil],[]⟩),(28,⟨1,.slice 151 6 64,[.nil],[]⟩),(29,⟨4,.struct [(0,1,false),(1,1,false),(2,1,false),(3,1,false)],[.lit .i64 0,.lit .i64 0,.lit .i64 0,.lit .i64 0],[]⟩),(30,⟨4,.struct [(0,1,false),(1,1,false),(2,1,false),(3,1,false)],[.lit .i64 0,.lit .i64 0,.lit .i64 0,.lit .i64 0],[.int .i64,.int .i64,.int .i64,.int .i64]⟩),(31,⟨13,.struct [(0,1,false),(1,1,false),(2,4,true),(6,1,false),(7,1,false),(8,1,false),(9,4,true)],[.nil,.nil,.lit .i64 0,.lit .i64 0,.lit .i64 0,.lit .i64 0,.nil,.nil,.nil,.lit .i64 0,.lit .i64 0,.lit .i64 0,.lit .i64 0],[]⟩),(32,⟨13,.struct [(0,1,false),(1,1,false),(2,4,true),(6,1,false),(7,1,false),(8,1,false),(9,4,true)],[.nil,.nil,.lit .i64 0,.lit .i64 0,.lit .i64 0,.lit .i64 0,.nil,.nil,.nil,.lit .i64 0,.lit .i64 0,.lit .i64 0,.lit .i64 0],[]⟩),(33,⟨1,.slice 42 9 64,[.nil],[]⟩),(34,⟨1,.slice 40 4 32,[.nil],[]⟩),(36,⟨1,.other,[.un],[]⟩),(37,⟨3,.struct [(0,1,false),(1,1,false),(2,1,false)],[.lit .i64 0,.lit .i64 0,.lit .u8 0],[]⟩),(38,⟨3,.struct [(0,1,false),(1,1,false),(2,1,false)],[.lit .i64 0,.lit .i64 0,.lit .u8 0],[.int .i64,.int .i64,.int .u8]⟩),(39,⟨4,.struct [(0,1,false),(1,3,true)],[.lit .i64 0,.lit .i64 0,.lit .i64 0,.lit .u8 0],[]⟩),(40,⟨4,.struct [(0,1,false),(1,3,true)],[.lit .i64 0,.lit .i64 0,.lit .i64 0,.lit .u8 0],[.int .i64,.int .i64,.int .i64,.int .u8]⟩),(41,⟨9,.struct [(0,1,false),(1,1,false),(2,1,false),(3,1,false),(4,1,false),(5,1,false),(6,1,false),(7,1,false),(8,1,false)],[.lit .i64 0,.str fun _=>Y0,.lit .u8 0,.blit false,.lit .i64 0,.lit .i64 0,.lit .i64 0,.lit .u8 0,.blit false],[]⟩),(42,⟨9,.struct [(0,1,false),(1,1,false),(2,1,false),(3,1,false),(4,1,false),(5,1,false),(6,1,false),(7,1,false),(8,1,false)],[.lit .i64 0,.str fun _=>Y0,.lit .u8 0,.blit false,.lit .i64 0,.lit .i64 0,.lit .i64 0,.lit .u8 0,.blit false],[.int .i64,.str,.int .u8,.bool,.int .i64,.int .i64,.int .i64,.int .u8,.bool]⟩),(43,⟨1,.slice 3 1 8,[.nil],[]⟩),(44,⟨12,.struct [(0,1,false),(1,1,false),(2,1,false),(3,1,false),(4,1,false),(5,1,false),(6,1,false),(7,1,false),(8,1,false),(9,1,false),(10,1,false),(11,1,false)],[.lit .i64 0,.lit .i64 0,.blit false,.lit .i64 0,.lit .i64 0,.lit .i64 0,.lit .i64 0,.lit .i64 0,.nil,.lit .i64 0,.lit .i64 0,.lit .i64 0],[]⟩),(45,⟨12,.struct [(0,1,false),(1,1,false),(2,1,false),(3,1,false),(4,1,false),(5,1,false),(6,1,false),(7,1,false),(8,1,false),(9,1,false),(10,1,false),(11,1,false)],[.lit .i64 0,.lit .i64 0,.blit false,.lit .i64 0,.lit .i64 0,.lit .i64 0,.lit .i64 0,.lit .i64 0,.nil,.lit .i64 0,.lit .i64 0,.lit .i64 0],[]⟩),(46,⟨1,.other,[.un],[]⟩),(47,⟨4,.struct [(0,1,false),(1,1,false),(2,1,false),(3,1,false)],[.lit .i64 0,.lit .i64 0,.lit .i64 0,.lit .i64 0],[.int .i64,.int .i64,.int .i64,.int .i64]⟩),(48,⟨1,.other,[.un],[]⟩),(49,⟨1,.slice 47 4 32,[.nil],[]⟩),(50,⟨1,.other,[.un],[]⟩),(51,⟨1,.other,[.un],[]⟩),(52,⟨1,.other,[.un],[]⟩),(53,⟨1,.other,[.un],[]⟩),(54,⟨2,.struct [(0,1,false),(1,1,false)],[.lit .i64 0,.lit .i64 0],[]⟩),(55,⟨2,.struct [(0,1,false),(1,1,false)],[.lit .i64 0,.lit .i64 0],[.int .i64,.int .i64]⟩),(56,⟨1,.slice 55 2 16,[.nil],[]⟩),(57,⟨1,.other,[.un],[]⟩),(58,⟨5,.struct [(0,1,false),(1,1,false),(2,1,false),(3,1,false),(4,1,false)],[.lit .i64 0,.lit .i64 0,.lit .i64 0,.lit .i64 0,.lit .i64 0],[]⟩),(59,⟨5,.struct [(0,1,false),(1,1,false),(2,1,false),(3,1,false),(4,1,false)],[.lit .i64 0,.lit .i64 0,.lit .i64 0,.lit .i64 0,.lit .i64 0],[.int .i64,.int .i64,.int .i64,.int .i64,.int .i64]⟩),(60,⟨1,.other,[.un],[]⟩),(61,⟨5,.array 5 60 1 false,[.un,.un,.un,.un,.un],[]⟩),(62,⟨1,.other,[.un],[]⟩),(63,⟨1,.int .u32,[.lit .u32 0],[]⟩),(64,⟨8,.array 8 63 1 false,[.lit .u32 0,.lit .u32 0,.lit .u32 0,.lit .u32 0,.lit .u32 0,.lit .u32 0,.lit .u32 0,.lit .u32 0],[.int .u32,.int .u32,.int .u32,.int .u32,.int .u32,.int .u32,.int .u32,.int .u32]⟩),(65,⟨17,.struct [(0,1,false),(1,8,true),(9,8,true)],[.blit false,.lit .u32 0,.lit .u32 0,.lit .u32 0,.lit .u32 0,.lit .u32 0,.lit .u32 0,.lit .u32 0,.lit .u32 0,.lit .u32 0,.lit .u32 0,.lit .u32 0,.lit .u32 0,.lit .u32 0,.lit .u32 0,.lit .u32 0,.lit .u32 0],[]⟩),(66,⟨17,.struct [(0,1,false),(1,8,true),(9,8,true)],[.blit false,.lit .u32 0,.lit .u32 0,.lit .u32 0,.lit .u32 0,.lit .u32 0,.lit .u32 0,.lit .u32 0,.lit .u32 0,.lit .u32 0,.lit .u32 0,.lit .u32 0,.lit .u32 0,.lit .u32 0,.lit .u32 0,.lit .u32 0,.lit .u32 0],[.bool,.int .u32,.int .u32,.int .u32,.int .u32,.int .u32,.int .u32,.int .u32,.int .u32,.int .u32,.int .u32,.int .u32,.int .u32,.int .u32,.int .u32,.int .u32,.int .u32]⟩),(67,⟨1,.other,[.un],[]⟩),(68,⟨34,.struct [(0,17,true),(17,17,true)],[.blit false,.lit .u32 0,.lit .u32 0,.lit .u32 0,.lit .u32 0,.lit .u32 0,.lit .u32 0,.lit .u32 0,.lit .u32 0,.lit .u32 0,.lit .u32 0,.lit .u32 0,.lit .u32 0,.lit .u32 0,.lit .u32 0,.lit .u32 0,.lit .u32 0,.blit false,.lit .u32 0,.lit .u32 0,.lit .u32 0,.lit .u32 0,.lit .u32 0,.lit .u32 0,.lit .u32 0,.lit .u32 0,.lit .u32 0,.lit .u32 0,.lit .u32 0,.lit .u32 0,.lit .u32 0,.lit .u32 0,.lit .u32 0,.lit .u32 0],[]⟩),(69,⟨34,.struct [(0,17,true),(17,17,true)],[.blit false,.lit .u32 0,.lit .u32 0,.lit .u32 0,.lit .u32 0,.lit .u32 0,.lit .u32 0,.lit .u32 0,.lit .u32 0,.lit .u32 0,.lit .u32 0,.lit .u32 0,.lit .u32 0,.lit .u32 0,.lit .u32 0,.lit .u32 0,.lit .u32 0,.blit false,.lit .u32 0,.lit .u32 0,.lit .u32 0,.lit .u32 0,.lit .u32 0,.lit .u32 0,.lit .u32 0,.lit .u32 0,.lit .u32 0,.lit .u32 0,.lit .u32 0,.lit .u32 0,.lit .u32 0,.lit .u32 0,.lit .u32 0,.lit .u32 0],[.bool,.int .u32,.int .u32,.int .u32,.int .u32,.int .u32,.int .u32,.int .u32,.int .u32,.int .u32,.int .u32,.int .u32,.int .u32,.int .u32,.int .u32,.int .u32,.int .u32,.bool,.int .u32,.int .u32,.int .u32,.int .u32,.int .u32,.int .u32,.int .u32,.int .u32,.int .u32,.int .u32,.int .u32,.int .u32,.int .u32,.int .u32,.int .u32,.int .u32]⟩),(70,⟨1,.other,[.un],[]⟩),(71,⟨1,.slice 69 34 136,[.nil],[]⟩),(72,⟨1,.other,[.un],[]⟩),(73,⟨1,.slice 232 4 4,[.nil],[]⟩),(74,⟨1,.slice 236 4 4,[.nil],[]⟩),(75,⟨1,.slice 158 6 10,[.nil],[]⟩),(76,⟨1,.slice 5 1 1,[.nil],[]⟩),(77,⟨1,.slice 160 5 10,[.nil],[]⟩),(78,⟨1,.other,[.un],[]⟩),(80,⟨1,.other,[.un],[]⟩),(82,⟨1,.other,[.un],[]⟩),(83,⟨1,.int .i64,[.lit .i64 0],[]⟩),(85,⟨1,.other,[.un],[]⟩),(87,⟨1,.other,[.un],[]⟩),(88,⟨1,.other,[.un],[]⟩),(89,⟨1,.other,[.un],[]⟩),(91,⟨1,.other,[.un],[]⟩),(92,⟨1,.other,[.un],[]⟩),(93,⟨1,.other,[.un],[]⟩),(94,⟨1,.other,[.un],[]⟩),(95,⟨1,.other,[.un],[]⟩),(96,⟨1,.other,[.un],[]⟩),(97,⟨1,.other,[.un],[]⟩),(98,⟨1,.other,[.un],[]⟩),(100,⟨1,.other,[.un],[]⟩),(102,⟨1,.other,[.un],[]⟩),(103,⟨4,.struct [(0,1,false),(1,1,false),(2,1,false),(3,1,false)],[.lit .i64 0,.lit .i64 0,.lit .i64 0,.lit .i64 0],[.int .i64,.int .i64,.int .i64,.int .i64]⟩),(105,⟨1,.other,[.un],[]⟩),(106,⟨1,.other,[.un],[]⟩),(107,⟨1,.other,[.un],[]⟩),(108,⟨1,.other,[.un],[]⟩),(109,⟨1,.other,[.un],[]⟩),(110,⟨1,.other,[.un],[]⟩),(111,⟨1,.slice 103 4 32,[.nil],[]⟩),(112,⟨1,.other,[.un],[]⟩),(113,⟨1,.other,[.un],[]⟩),(114,⟨1,.other,[.un],[]⟩),(115,⟨1,.other,[.un],[]⟩),(116,⟨51,.struct [(0,17,true),(17,17,true),(34,17,true)],[.blit false,.lit .u32 0,.lit .u32 0,.lit .u32 0,.lit .u32 0,.lit .u32 0,.lit .u32 0,.lit .u32 0,.lit .u32 0,.lit .u32 0,.lit .u32 0,.lit .u32 0,.lit .u32 0,.lit .u32 0,.lit .u32 0,.lit .u32 0,.lit .u32 0,.blit false,.lit .u32 0,.lit .u32 0,.lit .u32 0,.lit .u32 0,.lit .u32 0,.lit .u32 0,.lit .u32 0,.lit .u32 0,.lit .u32 0,.lit .u32 0,.lit .u32 0,.lit .u32 0,.lit .u32 0,.lit .u32 0,.lit .u32 0,.lit .u32 0,.blit false,.lit .u32 0,.lit .u32 0,.lit .u32 0,.lit .u32 0,.lit .u32 0,.lit .u32 0,.lit .u32 0,.lit .u32 0,.lit .u32 0,.lit .u32 0,.lit .u32 0,.lit .u32 0,.lit .u32 0,.lit .u32 0,.lit .u32 0,.lit .u32 0],[]⟩),(117,⟨51,.struct [(0,17,true),(17,17,true),(34,17,true)],[.blit false,.lit .u32 0,.lit .u32 0,.lit .u32 0,.lit .u32 0,.lit .u32 0,.lit .u32 0,.lit .u32 0,.lit .u32 0,.lit .u32 0,.lit .u32 0,.lit .u32 0,.lit .u32 0,.lit .u32 0,.lit .u32 0,.lit .u32 0,.lit .u32 0,.blit false,.lit .u32 0,.lit .u32 0,.lit .u32 0,.lit .u32 0,.lit .u32 0,.lit .u32 0,.lit .u32 0,.lit .u32 0,.lit .u32 0,.lit .u32 0,.lit .u32 0,.lit .u32 0,.lit .u32 0,.lit .u32 0,.lit .u32 0,.lit .u32 0,.blit false,.lit .u32 0,.lit .u32 0,.lit .u32 0,.lit .u32 0,.lit .u32 0,.lit .u32 0,.lit .u32 0,.lit .u32 0,.lit .u32 0,.lit .u32 0,.lit .u32 0,.lit .u32 0,.lit .u32 0,.lit .u32 0,.lit .u32 0,.lit .u32 0],[.bool,.int .u32,.int .u32,.int .u32,.int .u32,.int .u32,.int .u32,.int .u32,.int .u32,.int .u32,.int .u32,.int .u32,.int .u32,.int .u32,.int .u32,.int .u32,.int .u32,.bool,.int .u32,.int .u32,.int .u32,.int .u32,.int .u32,.int .u32,.int .u32,.int .u32,.int .u32,.int .u32,.int .u32,.int .u32,.int .u32,.int .u32,.int .u32,.int .u32,.bool,.int .u32,.int .u32,.int .u32,.int .u32,.int .u32,.int .u32,.int .u32,.int .u32,.int .u32,.int .u32,.int .u32,.int .u32,.int .u32,.int .u32,.int .u32,.int .u32]⟩),(119,⟨1,.other,[.un],[]⟩),(120,⟨1,.other,[.un],[]⟩),(121,⟨1,.slice 128 2 16,[.nil],[]⟩),(123,⟨1,.other,[.un],[]⟩),(124,⟨1,.slice 141 34 136,[.nil],[]⟩),(126,⟨1,.other,[.un],[]⟩),(127,⟨1,.other,[.un],[]⟩),(128,⟨2,.struct [(0,1,false),(1,1,false)],[.lit .i64 0,.lit .i64 0],[.int .i64,.int .i64]⟩),(129,⟨1,.other,[.un],[]⟩),(130,⟨136,.array 4 69 34 true,[.blit false,.lit .u32 0,.lit .u32 0,.lit .u32 0,.lit .u32 0,.lit .u32 0,.lit .u32 0,.lit .u32 0,.lit .u32 0,.lit .u32 0,.lit .u32 0,.lit .u32 0,.lit .u32 0,.lit .u32 0,.lit .u32 0,.lit .u32 0,.lit .u32 0,.blit false,.lit .u32 0,.lit .u32 0,.lit .u32 0,.lit .u32 0,.lit .u32 0,.lit .u32 0,.lit .u32 0,.lit .u32 0,.lit .u32 0,.lit .u32 0,.lit .u32 0,.lit .u32 0,.lit .u32 0,.lit .u32 0,.lit .u32 0,.lit .u32 0,.blit false,.lit .u32 0,.lit .u32 0,.lit .u32 0,.lit .u32 0,.lit .u32 0,.lit .u32 0,.lit .u32 0,.lit .u32 0,.lit .u32 0,.lit .u32 0,.lit .u32 0,.lit .u32 0,.lit .u32 0,.lit .u32 0,.lit .u32 0,.lit .u32 0,.blit false,.lit .u32 0,.lit .u32 0,.lit .u32 0,.lit .u32 0,.lit .u32 0,.lit .u32 0,.lit .u32 0,.lit .u32 0,.lit .u32 0,.lit .u32 0,.lit .u32 0,.lit .u32 0,.lit .u32 0,.lit .u32 0,.lit .u32 0,.lit .u32 0,.blit false,.lit .u32 0,.lit .u32 0,.lit .u32 0,.lit .u32 0,.lit .u32 0,.lit .u32 0,.lit .u32 0,.lit .u32 0,.lit .u32 0,.lit .u32 0,.lit .u32 0,.lit .u32 0,.lit .u32 0,.lit .u32 0,.lit .u32 0,.lit .u32 0,.blit false,.lit .u32 0,.lit .u32 0,.lit .u32 0,.lit .u32 0,.lit .u32 0,.lit .u32 0,.lit .u32 0,.lit .u32 0,.lit .u32 0,.lit .u32 0,.lit .u32 0,.lit .u32 0,.lit .u32 0,.lit .u32 0,.lit .u32 0,.lit .u32 0,.blit false,.lit .u32 0,.lit .u32 0,.lit .u32 0,.lit .u32 0,.lit .u32 0,.lit .u32 0,.lit .u32 0,.lit .u32 0,.lit .u32 0,.lit .u32 0,.lit .u32 0,.lit .u32 0,.lit .u32 0,.lit .u32 0,.lit .u32 0,.lit .u32 0,.blit false,.lit .u32 0,.lit .u32 0,.lit .u32 0,.lit .u32 0,.lit .u32 0,.lit .u32 0,.lit .u32 0,.lit .u32 0,.lit .u32 0,.lit .u32 0,.lit .u32 0,.lit .u32 0,.lit .u32 0,.lit .u32 0,.lit .u32 0,.lit .u32 0],[]⟩),(132,⟨1,.other,[.un],[]⟩),(133,⟨1,.other,[.un],[]⟩),(134,⟨1,.other,[.un],[]⟩),(135,⟨1,.other,[.un],[]⟩),(137,⟨1,.other,[.un],[]⟩),(138,⟨1,.other,[.un],[]⟩),(139,⟨17,.struct [(0,1,false),(1,8,true),(9,8,true)],[.blit false,.lit .u32 0,.lit .u32 0,.lit .u32 0,.lit .u32 0,.lit .u32 0,.lit .u32 0,.lit .u32 0,.lit .u32 0,.lit .u32 0,.lit .u32 0,.lit .u32 0,.lit .u32 0,.lit .u32 0,.lit .u32 0,.lit .u32 0,.lit .u32 0],[.bool,.int .u32,.int .u32,.int .u32,.int .u32,.int .u32,.int .u32,.int .u32,.int .u32,.int .u32,.int .u32,.int .u32,.int .u32,.int .u32,.int .u32,.int .u32,.int .u32]⟩),(140,⟨34,.struct [(0,17,true),(17,17,true)],[.blit false,.lit .u32 0,.lit .u32 0,.lit .u32 0,.lit .u32 0,.lit .u32 0,.lit .u32 0,.lit .u32 0,.lit .u32 0,.lit .u32 0,.lit .u32 0,.lit .u32 0,.lit .u32 0,.lit .u32 0,.lit .u32 0,.lit .u32 0,.lit .u32 0,.blit false,.lit .u32 0,.lit .u32 0,.lit .u32 0,.lit .u32 0,.lit .u32 0,.lit .u32 0,.lit .u32 0,.lit .u32 0,.lit .u32 0,.lit .u32 0,.lit .u32 0,.lit .u32 0,.lit .u32 0,.lit .u32 0,.lit .u32 0,.lit .u32 0],[]⟩),(141,⟨34,.struct [(0,17,true),(17,17,true)],[.blit false,.lit .u32 0,.lit .u32 0,.lit .u32 0,.lit .u32 0,.lit .u32 0,.lit .u32 0,.lit .u32 0,.lit .u32 0,.lit .u32 0,.lit .u32 0,.lit .u32 0,.lit .u32 0,.lit .u32 0,.lit .u32 0,.lit .u32 0,.lit .u32 0,.blit false,.lit .u32 0,.lit .u32 0,.lit .u32 0,.lit .u32 0,.lit .u32 0,.lit .u32 0,.lit .u32 0,.lit .u32 0,.lit .u32 0,.lit .u32 0,.lit .u32 0,.lit .u32 0,.lit .u32 0,.lit .u32 0,.lit .u32 0,.lit .u32 0],[.bool,.int .u32,.int .u32,.int .u32,.int .u32,.int .u32,.int .u32,.int .u32,.int .u32,.int .u32,.int .u32,.int .u32,.int .u32,.int .u32,.int .u32,.int .u32,.int .u32,.bool,.int .u32,.int .u32,.int .u32,.int .u32,.int .u32,.int .u32,.int .u32,.int .u32,.int .u32,.int .u32,.int .u32,.int .u32,.int .u32,.int .u32,.int .u32,.int .u32]⟩),(143,⟨1,.other,[.un],[]⟩),(144,⟨1,.slice 63 1 4,[.nil],[]⟩),(145,⟨1,.slice 63 1 4,[.nil],[]⟩),(146,⟨1,.other,[.un],[]⟩),(147,⟨1,.other,[.un],[]⟩),(148,⟨1,.int .u64,[.lit .u64 0],[]⟩),(149,⟨1,.other,[.un],[]⟩),(150,⟨6,.struct [(0,1,false),(1,1,false),(2,1,false),(3,1,false),(4,1,false),(5,1,false)],[.lit .i64 0,.lit .i64 0,.lit .i64 0,.lit .i64 0,.lit .i64 0,.nil],[]⟩),(151,⟨6,.struct [(0,1,false),(1,1,false),(2,1,false),(3,1,false),(4,1,false),(5,1,false)],[.lit .i64 0,.lit .i64 0,.lit .i64 0,.lit .i64 0,.lit .i64 0,.nil],[]⟩),(152,⟨1,.other,[.un],[]⟩),(154,⟨1,.other,[.un],[]⟩),(155,⟨1,.int .i16,[.lit .i16 0],[]⟩),(156,⟨1,.int .u16,[.lit .u16 0],[]⟩),(157,⟨6,.struct [(0,1,false),(1,1,false),(2,1,false),(3,1,false),(4,1,false),(5,1,false)],[.lit .u8 0,.lit .u8 0,.lit .i16 0,.lit .i16 0,.lit .i16 0,.lit .u16 0],[]⟩),(158,⟨6,.struct [(0,1,false),(1,1,false),(2,1,false),(3,1,false),(4,1,false),(5,1,false)],[.lit .u8 0,.lit .u8 0,.lit .i16 0,.lit .i16 0,.lit .i16 0,.lit .u16 0],[.int .u8,.int .u8,.int .i16,.int .i16,.int .i16,.int .u16]⟩),(159,⟨5,.struct [(0,1,false),(1,1,false),(2,1,false),(3,1,false),(4,1,false)],[.lit .u16 0,.lit .u16 0,.lit .u16 0,.lit .u16 0,.lit .u8 0],[]⟩),(160,⟨5,.struct [(0,1,false),(1,1,false),(2,1,false),(3,1,false),(4,1,false)],[.lit .u16 0,.lit .u16 0,.lit .u16 0,.lit .u16 0,.lit .u8 0],[.int .u16,.int .u16,.int .u16,.int .u16,.int .u8]⟩),(161,⟨1,.other,[.un],[]⟩),(162,⟨1,.other,[.un],[]⟩),(163,⟨1,.map 3 3 (.one (.int .i64)) .int false,[.un],[]⟩),(164,⟨3,.array 3 3 1 false,[.lit .i64 0,.lit .i64 0,.lit .i64 0],[.int .i64,.int .i64,.int .i64]⟩),(165,⟨1,.slice 169 12 88,[.nil],[]⟩),(167,⟨1,.other,[.un],[]⟩),(168,⟨12,.struct [(0,9,true),(9,1,false),(10,1,false),(11,1,false)],[.lit .i64 0,.str fun _=>Y0,.lit .u8 0,.blit false,.lit .i64 0,.lit .i64 0,.lit .i64 0,.lit .u8 0,.blit false,.lit .i64 0,.lit .i64 0,.lit .i64 0],[]⟩),(169,⟨12,.struct [(0,9,true),(9,1,false),(10,1,false),(11,1,false)],[.lit .i64 0,.str fun _=>Y0,.lit .u8 0,.blit false,.lit .i64 0,.lit .i64 0,.lit .i64 0,.lit .u8 0,.blit false,.lit .i64 0,.lit .i64 0,.lit .i64 0],[.int .i64,.str,.int .u8,.bool,.int .i64,.int .i64,.int .i64,.int .u8,.bool,.int .i64,.int .i64,.int .i64]⟩),(170,⟨1,.other,[.un],[]⟩),(171,⟨1,.other,[.un],[]⟩),(172,⟨1,.other,[.un],[]⟩),(173,⟨1,.other,[.un],[]⟩),(174,⟨1,.other,[.un],[]⟩),(175,⟨1,.other,[.un],[]⟩),(176,⟨1,.other,[.un],[]⟩),(177,⟨1,.slice 181 6 48,[.nil],[]⟩),(179,⟨1,.other,[.un],[]⟩),(180,⟨6,.array 6 3 1 false,[.lit .i64 0,.lit .i64 0,.lit .i64 0,.lit .i64 0,.lit .i64 0,.lit .i64 0],[.int .i64,.int .i64,.int .i64,.int .i64,.int .i64,.int .i64]⟩),(181,⟨6,.array 6 3 1 false,[.lit .i64 0,.lit .i64 0,.lit .i64 0,.lit .i64 0,.lit .i64 0,.lit .i64 0],[.int .i64,.int .i64,.int .i64,.int .i64,.int .i64,.int .i64]⟩),(182,⟨1,.other,[.un],[]⟩),(183,⟨1,.other,[.un],[]⟩),(184,⟨1,.other,[.un],[]⟩),(185,⟨2,.struct [(0,1,false),(1,1,false)],[.lit .i64 0,.nil],[]⟩),(186,⟨2,.struct [(0,1,false),(1,1,false)],[.lit .i64 0,.nil],[]⟩),(187,⟨1,.other,[.un],[]⟩),(188,⟨1,.other,[.un],[]⟩),(189,⟨1,.other,[.un],[]⟩),(190,⟨1,.other,[.un],[]⟩),(191,⟨1,.other,[.un],[]⟩),(192,⟨1,.other,[.un],[]⟩),(193,⟨1,.other,[.un],[]⟩),(194,⟨1,.other,[.un],[]⟩),(196,⟨1,.other,[.un],[]⟩),(198,⟨1,.other,[.un],[]⟩),(199,⟨1,.other,[.un],[]⟩),(200,⟨1,.other,[.un],[]⟩),(201,⟨1,.other,[.un],[]⟩),(202,⟨1,.other,[.un],[]⟩),(203,⟨1,.other,[.un],[]⟩),(204,⟨1,.other,[.un],[]⟩),(205,⟨51,.struct [(0,17,true),(17,17,true),(34,17,true)],[.blit false,.lit .u32 0,.lit .u32 0,.lit .u32 0,.lit .u32 0,.lit .u32 0,.lit .u32 0,.lit .u32 0,.lit .u32 0,.lit .u32 0,.lit .u32 0,.lit .u32 0,.lit .u32 0,.lit .u32 0,.lit .u32 0,.lit .u32 0,.lit .u32 0,.blit false,.lit .u32 0,.lit .u32 0,.lit .u32 0,.lit .u32 0,.lit .u32 0,.lit .u32 0,.lit .u32 0,.lit .u32 0,.lit .u32 0,.lit .u32 0,.lit .u32 0,.lit .u32 0,.lit .u32 0,.lit .u32 0,.lit .u32 0,.lit .u32 0,.blit false,.lit .u32 0,.lit .u32 0,.lit .u32 0,.lit .u32 0,.lit .u32 0,.lit .u32 0,.lit .u32 0,.lit .u32 0,.lit .u32 0,.lit .u32 0,.lit .u32 0,.lit .u32 0,.lit .u32 0,.lit .u32 0,.lit .u32 0,.lit .u32 0],[]⟩),(206,⟨51,.struct [(0,17,true),(17,17,true),(34,17,true)],[.blit false,.lit .u32 0,.lit .u32 0,.lit .u32 0,.lit .u32 0,.lit .u32 0,.lit .u32 0,.lit .u32 0,.lit .u32 0,.lit .u32 0,.lit .u32 0,.lit .u32 0,.lit .u32 0,.lit .u32 0,.lit .u32 0,.lit .u32 0,.lit .u32 0,.blit false,.lit .u32 0,.lit .u32 0,.lit .u32 0,.lit .u32 0,.lit .u32 0,.lit .u32 0,.lit .u32 0,.lit .u32 0,.lit .u32 0,.lit .u32 0,.lit .u32 0,.lit .u32 0,.lit .u32 0,.lit .u32 0,.lit .u32 0,.lit .u32 0,.blit false,.lit .u32 0,.lit .u32 0,.lit .u32 0,.lit .u32 0,.lit .u32 0,.lit .u32 0,.lit .u32 0,.lit .u32 0,.lit .u32 0,.lit .u32 0,.lit .u32 0,.lit .u32 0,.lit .u32 0,.lit .u32 0,.lit .u32 0,.lit .u32 0],[.bool,.int .u32,.int .u32,.int .u32,.int .u32,.int .u32,.int .u32,.int .u32,.int .u32,.int .u32,.int .u32,.int .u32,.int .u32,.int .u32,.int .u32,.int .u32,.int .u32,.bool,.int .u32,.int .u32,.int .u32,.int .u32,.int .u32,.int .u32,.int .u32,.int .u32,.int .u32,.int .u32,.int .u32,.int .u32,.int .u32,.int .u32,.int .u32,.int .u32,.bool,.int .u32,.int .u32,.int .u32,.int .u32,.int .u32,.int .u32,.int .u32,.int .u32,.int .u32,.int .u32,.int .u32,.int .u32,.int .u32,.int .u32,.int .u32,.int .u32]⟩),(208,⟨1,.other,[.un],[]⟩),(209,⟨1,.other,[.un],[]⟩),(210,⟨1,.other,[.un],[]⟩),(211,⟨1,.other,[.un],[]⟩),(212,⟨1,.other,[.un],[]⟩),(213,⟨1,.other,[.un],[]⟩),(214,⟨1,.other,[.un],[]⟩),(215,⟨1,.other,[.un],[]⟩),(217,⟨1,.other,[.un],[]⟩),(218,⟨1,.slice 139 17 68,[.nil],[]⟩),(219,⟨1,.other,[.un],[]⟩),(220,⟨1,.other,[.un],[]⟩),(221,⟨1,.other,[.un],[]⟩),(222,⟨1,.other,[.un],[]⟩),(223,⟨1,.other,[.un],[]⟩),(224,⟨1,.other,[.un],[]⟩),(225,⟨1,.other,[.un],[]⟩),(226,⟨1,.other,[.un],[]⟩),(228,⟨1,.other,[.un],[]⟩),(229,⟨1,.other,[.un],[]⟩),(230,⟨1,.int .u64,[.lit .u64 0],[]⟩),(231,⟨4,.struct [(0,1,false),(1,1,false),(2,1,false),(3,1,false)],[.lit .u8 0,.lit .u8 0,.lit .u8 0,.blit false],[]⟩),(232,⟨4,.struct [(0,1,false),(1,1,false),(2,1,false),(3,1,false)],[.lit .u8 0,.lit .u8 0,.lit .u8 0,.blit false],[.int .u8,.int .u8,.int .u8,.bool]⟩),(234,⟨1,.other,[.un],[]⟩),(235,⟨4,.struct [(0,1,false),(1,1,false),(2,1,false),(3,1,false)],[.lit .u8 0,.lit .u8 0,.blit false,.blit false],[]⟩),(236,⟨4,.struct [(0,1,false),(1,1,false),(2,1,false),(3,1,false)],[.lit .u8 0,.lit .u8 0,.blit false,.blit false],[.int .u8,.int .u8,.bool,.bool]⟩),(237,⟨1,.slice 38 3 24,[.nil],[]⟩),(238,⟨1,.other,[.un],[]⟩),(239,⟨1,.other,[.un],[]⟩),(241,⟨1,.other,[.un],[]⟩),(242,⟨1,.other,[.un],[]⟩),(243,⟨1,.other,[.un],[]⟩),(244,⟨1,.map 245 3 (.arr 2 (.int .i64)) .int false,[.un],[]⟩),(245,⟨2,.array 2 3 1 false,[.lit .i64 0,.lit .i64 0],[.int .i64,.int .i64]⟩),(246,⟨1,.other,[.un],[]⟩),(247,⟨1,.other,[.un],[]⟩),(248,⟨1,.other,[.un],[]⟩),(249,⟨1,.other,[.un],[]⟩),(250,⟨1,.other,[.un],[]⟩),(251,⟨1,.other,[.un],[]⟩),(252,⟨1,.other,[.un],[]⟩),(253,⟨1,.other,[.un],[]⟩),(254,⟨1,.other,[.un],[]⟩),(255,⟨1,.other,[.un],[]⟩),(256,⟨1,.other,[.un],[]⟩),(257,⟨1,.other,[.un],[]⟩),(258,⟨5,.struct [(0,1,false),(1,1,false),(2,1,false),(3,1,false),(4,1,false)],[.lit .i64 0,.lit .i64 0,.lit .i64 0,.lit .i64 0,.lit .i64 0],[]⟩),(259,⟨5,.struct [(0,1,false),(1,1,false),(2,1,false),(3,1,false),(4,1,false)],[.lit .i64 0,.lit .i64 0,.lit .i64 0,.lit .i64 0,.lit .i64 0],[.int .i64,.int .i64,.int .i64,.int .i64,.int .i64]⟩),(260,⟨1,.other,[.un],[]⟩),(261,⟨1,.other,[.un],[]⟩),(262,⟨1,.other,[.un],[]⟩),(264,⟨1,.other,[.un],[]⟩),(265,⟨1,.other,[.un],[]⟩),(266,⟨1,.other,[.un],[]⟩),(267,⟨1,.other,[.un],[]⟩),(269,⟨1,.other,[.un],[]⟩),(270,⟨1,.other,[.un],[]⟩),(271,⟨1,.other,[.un],[]⟩),(272,⟨1,.other,[.un],[]⟩),(273,⟨1,.other,[.un],[]⟩),(274,⟨1,.other,[.un],[]⟩),(275,⟨1,.other,[.un],[]⟩),(276,⟨1,.other,[.un],[]⟩),(277,⟨1,.other,[.un],[]⟩),(278,⟨1,.other,[.un],[]⟩),(279,⟨1,.other,[.un],[]⟩),(280,⟨1,.other,[.un],[]⟩),(281,⟨1,.other,[.un],[]⟩),(282,⟨1,.other,[.un],[]⟩),(283,⟨1,.other,[.un],[]⟩),(284,⟨1,.other,[.un],[]⟩),(285,⟨1,.other,[.un],[]⟩),(286,⟨1,.other,[.un],[]⟩),(287,⟨1,.other,[.un],[]⟩),(288,⟨1,.other,[.un],[]⟩),(289,⟨1,.other,[.un],[]⟩),(290,⟨1,.other,[.un],[]⟩),(291,⟨1,.other,[.un],[]⟩),(292,⟨1,.other,[.un],[]⟩),(293,⟨1,.other,[.un],[]⟩),(294,⟨1,.map 9 3 (.one .str) .int false,[.un],[]⟩),(295,⟨1,.other,[.un],[]⟩),(296,⟨1,.other,[.un],[]⟩),(297,⟨1,.other,[.un],[]⟩),(298,⟨1,.other,[.un],[]⟩),(299,⟨1,.other,[.un],[]⟩),(300,⟨1,.other,[.un],[]⟩),(301,⟨1,.other,[.un],[]⟩),(303,⟨1,.other,[.un],[]⟩),(304,⟨1,.other,[.un],[]⟩),(305,⟨1,.other,[.un],[]⟩),(306,⟨1,.other,[.un],[]⟩),(307,⟨1,.other,[.un],[]⟩),(308,⟨1,.other,[.un],[]⟩),(309,⟨1,.map 164 3 (.arr 3 (.int .i64)) .int false,[.un],[]⟩),(310,⟨1,.other,[.un],[]⟩),(311,⟨1,.other,[.un],[]⟩),(312,⟨1,.other,[.un],[]⟩),(313,⟨1,.other,[.un],[]⟩),(314,⟨1,.other,[.un],[]⟩),(315,⟨1,.other,[.un],[]⟩),(316,⟨1,.other,[.un],[]⟩),(317,⟨1,.other,[.un],[]⟩),(318,⟨1,.other,[.un],[]⟩),(319,⟨1,.slice 50 1 8,[.nil],[]⟩),(320,⟨1,.other,[.un],[]⟩),(321,⟨1,.other,[.un],[]⟩),(322,⟨1,.other,[.un],[]⟩),(323,⟨1,.other,[.un],[]⟩),(324,⟨1,.other,[.un],[]⟩),(325,⟨1,.other,[.un],[]⟩),(327,⟨1,.other,[.un],[]⟩),(328,⟨1,.other,[.un],[]⟩),(329,⟨1,.other,[.un],[]⟩),(330,⟨1,.other,[.un],[]⟩),(331,⟨1,.slice 333 3 24,[.nil],[]⟩),(332,⟨3,.struct [(0,1,false),(1,1,false),(2,1,false)],[.lit .i64 0,.lit .i64 0,.lit .i64 0],[]⟩),(333,⟨3,.struct [(0,1,false),(1,1,false),(2,1,false)],[.lit .i64 0,.lit .i64 0,.lit .i64 0],[.int .i64,.int .i64,.int .i64]⟩),(334,⟨1,.other,[.un],[]⟩),(335,⟨1,.other,[.un],[]⟩),(336,⟨1,.other,[.un],[]⟩),(337,⟨1,.other,[.un],[]⟩),(338,⟨1,.other,[.un],[]⟩),(339,⟨1,.other,[.un],[]⟩),(340,⟨1,.other,[.un],[]⟩),(341,⟨11,.array 11 312 1 false,[.un,.un,.un,.un,.un,.un,.un,.un,.un,.un,.un],[]⟩),(342,⟨1,.other,[.un],[]⟩),(343,⟨1,.other,[.un],[]⟩),(344,⟨1,.other,[.un],[]⟩),(345,⟨4,.struct [(0,1,false),(1,1,false),(2,1,false),(3,1,false)],[.un,.un,.un,.str fun _=>Y0],[]⟩),(347,⟨0,.array 0 16 1 false,[],[]⟩),(348,⟨0,.struct [(0,0,true)],[],[]⟩),(350,⟨1,.other,[.un],[]⟩),(353,⟨1,.other,[.un],[]⟩),(354,⟨1,.other,[.un],[]⟩),(357,⟨11,.struct [(0,1,false),(1,1,false),(2,1,false),(3,1,false),(4,1,false),(5,1,false),(6,1,false),(7,1,false),(8,1,false),(9,1,false),(10,1,false)],[.lit .u64 0,.lit .u64 0,.lit .u32 0,.lit .u8 0,.lit .u8 0,.lit .u8 0,.lit .u8 0,.un,.un,.lit .i32 0,.lit .i32 0],[]⟩)]
theorem Qzr:Qay.all (fun p=>tyB Tryz.prog p.1 p.2)=true:=by kernel_rfl
theorem Qng {α:Type}:∀ {l:List (Nat × α)} {k:Nat} {x : α},Q3 l k=some x->(k,x)∈l
 | (j,y)::l,k,x,h=>by
  rw [Qb] at h;split at h
  . rename_i hk;subst hk;cases h;exact .head _
  . exact .tail _ (Qng h)
theorem Qv3 {P:Program} {tb:Tab} (h:tb.all (fun p=>tyB P p.1 p.2)=true):Zw P tb:=fun _ _ hl=>List.all_eq_true.1 h _ (Qng hl)
theorem Qf0:Zw Tryz.prog Qay:=Qv3 Qzr
def Qy6:List (Nat×Tc) := [(3,.int),(5,.u8),(38,.slot),(40,.stowed),(42,.box),(45,.col),(47,.ld),(59,.frm),(63,.u32),(83,.int),(103,.ld),(151,.tnk),(169,.mid),(186,.cov),(232,.plc),(236,.drp),(259,.hrow),(333,.spn)]
open Go.RowKit
def Q1g:List Con->Prop
 | []=>True
 | c::cs=>Q7 Tryz.prog c/\Q1g cs
theorem Q1g.mem:∀ {cs:List Con},Q1g cs->∀ c∈cs,Q7 Tryz.prog c
 | [],_,c,hc=>by cases hc
 | d::cs,h,c,hc=>by
  rcases List.mem_cons.1 hc with rfl|hc
  . exact h.1
  . exact Q1g.mem h.2 c hc
def Q0d:List Fon->Prop
 | []=>True
 | c::cs=>Vx Tryz.prog c/\Q0d cs
theorem Q0d.mem:∀ {cs:List Fon},Q0d cs->∀ c∈cs,Vx Tryz.prog c
 | [],_,c,hc=>by cases hc
 | d::cs,h,c,hc=>by
  rcases List.mem_cons.1 hc with rfl|hc
  . exact h.1
  . exact Q0d.mem h.2 c hc
def cxf (cs:List Con) (fs:List Fon) (fz:List (Nat×List Nat)) (fx:Bool) (nb:Nat:=0):Cx := { ty:=Qay,cs:=cs,tc:=Qy6,fs:=fs,fz:=fz,fx:=fx,nb:=nb }
def cxz (cs:List Con) (fs:List Fon) (fz:List (Nat×List Nat)):Cx:=cxf cs fs fz false
def cx (cs:List Con) (fs:List Fon):Cx:=cxz cs fs []
def cxk (cs:List Con) (fs:List Fon) (fz kp:List (Nat×List Nat)) (sc:List (Nat×Sch)) (ul:List Nat):Cx := { ty:=Qay,cs:=cs,tc:=Qy6,fs:=fs,fz:=fz,kp:=kp,sc:=sc,ul:=ul }
structure Opt where
 fz:List (Nat×List Nat) := []
 kp:List (Nat×List Nat) := []
 sc:List (Nat×Sch) := []
 ul:List Nat := []
 jn:List (Nat×List Nat) := []
 tc:List (Nat×Tc) := []
 lt:List (Nat×Lat) := []
 ct:List Nat := []
def cxo (o:Opt) (cs:List Con) (fs:List Fon) (fx:Bool) (nb:Nat:=0):Cx:=⟨Qay,cs,o.tc++Qy6,fs,o.fz,fx,o.kp,o.sc,o.ul,o.jn,o.lt,nb,o.ct⟩
theorem Kp (o : Opt) {c : Con} {fn : Func} (cs : List Con) (hcs : Q1g cs) (fs : List Fon) (hfs : Q0d fs) (hf : Tryz.prog.funcs[c.f]? = some fn) (hb : (fn.body.isNone || fn.name == "runtime.NumGoroutine" || !Yj (efs fs) o.sc o.lt fn.ntmps (Gy fn)) = false)
 (h:∀ avs res,c.go avs=some res->res.pre ()->∃ Ls,(fnF (cxo o cs fs false) Ls fn avs res.av).P):Q7 Tryz.prog c:=by
 simp only [Bool.or_eq_false_iff,Bool.not_eq_false'] at hb;exact Qau (C:=cxo o cs fs false) Qf0 ⟨hcs.mem,hfs.mem⟩ (by kernel_rfl) hf hb.1.1 hb.1.2 hb.2 h
theorem Qq5 (o : Opt) {c : Fon} {fn : Func} (cs : List Con) (hcs : Q1g cs) (fs : List Fon) (hfs : Q0d fs) (hf : Tryz.prog.funcs[c.f]? = some fn) (hb : (fn.body.isNone || fn.name == "runtime.NumGoroutine" || !Yj (efs fs) o.sc o.lt fn.ntmps (Gy fn)) = false)
 (h:∀ avs es res,c.go avs es=some res->res.pre ()->∃ Ls,(fnG (cxo o cs fs c.fix c.n) Ls fn avs es c.n res.av res.es).P):Vx Tryz.prog c:=by
 simp only [Bool.or_eq_false_iff,Bool.not_eq_false'] at hb;exact Qs4 (C:=cxo o cs fs c.fix c.n) rfl Qf0 ⟨hcs.mem,hfs.mem⟩ (by kernel_rfl) hf hb.1.1 hb.1.2 hb.2 h
theorem Qoa {α:Type}:∀ {l m:List (Nat × α)} {k:Nat} {x : α},Q3 (l++m) k=some x->Q3 l k=some x\/Q3 m k=some x
 | [],m,k,x,h => .inr h
 | (j,y)::l,m,k,x,h=>by
  rw [List.cons_append,Qb] at h;rw [Qb];split at h
  . rename_i hk;rw [if_pos hk];exact .inl h
  . rename_i hk;rw [if_neg hk];exact Qoa h
theorem Z2y {P:Program} {W t:Tab} (h:(W.all fun p=>tyB P p.1 p.2)=true) (h2:Zw P t):Zw P (W++t):=fun T i hl=>(Qoa hl).elim (Qv3 h T i) (h2 T i)
theorem Z8y (o : Opt) (W : Tab) (hW : (W.all fun p => tyB Tryz.prog p.1 p.2) = true) {c : Con} {fn : Func} (cs : List Con) (hcs : Q1g cs) (fs : List Fon) (hfs : Q0d fs) (hf : Tryz.prog.funcs[c.f]? = some fn) (hb : (fn.body.isNone || fn.name == "runtime.NumGoroutine" || !Yj (efs fs) o.sc o.lt fn.ntmps (Gy fn)) = false)
 (h:∀ avs res,c.go avs=some res->res.pre ()->∃ Ls,(fnF { cxo o cs fs false with ty:=W++Qay } Ls fn avs res.av).P):Q7 Tryz.prog c:=by
 simp only [Bool.or_eq_false_iff,Bool.not_eq_false'] at hb;exact Qau (C := { cxo o cs fs false with ty:=W++Qay }) (Z2y hW Qf0) ⟨hcs.mem,hfs.mem⟩ (by kernel_rfl) hf hb.1.1 hb.1.2 hb.2 h
theorem Z8t (fz kp : List (Nat × List Nat)) (sc : List (Nat × Sch)) {c : Con} {fn : Func} (cs : List Con) (hcs : Q1g cs) (fs : List Fon) (hfs : Q0d fs) (hf : Tryz.prog.funcs[c.f]? = some fn) (hb : (fn.body.isNone || fn.name == "runtime.NumGoroutine" || !Yj (efs fs) sc [] fn.ntmps (Gy fn)) = false)
 (h:∀ avs res,c.go avs=some res->res.pre ()->∃ Ls,(fnF (cxk cs fs fz kp sc []) Ls fn avs res.av).P):Q7 Tryz.prog c:=by
 simp only [Bool.or_eq_false_iff,Bool.not_eq_false'] at hb;exact Qau (C:=cxk cs fs fz kp sc []) Qf0 ⟨hcs.mem,hfs.mem⟩ (by kernel_rfl) hf hb.1.1 hb.1.2 hb.2 h
theorem Z8k (fz : List (Nat × List Nat)) {c : Con} {fn : Func} (cs : List Con) (hcs : Q1g cs) (fs : List Fon) (hfs : Q0d fs) (hf : Tryz.prog.funcs[c.f]? = some fn) (hb : (fn.body.isNone || fn.name == "runtime.NumGoroutine" || !Yj (efs fs) [] [] fn.ntmps (Gy fn)) = false)
 (h:∀ avs res,c.go avs=some res->res.pre ()->∃ Ls,(fnF (cxz cs fs fz) Ls fn avs res.av).P):Q7 Tryz.prog c:=by
 simp only [Bool.or_eq_false_iff,Bool.not_eq_false'] at hb;exact Qau (C:=cxz cs fs fz) Qf0 ⟨hcs.mem,hfs.mem⟩ (by kernel_rfl) hf hb.1.1 hb.1.2 hb.2 h
theorem Z8v {c : Con} {fn : Func} (cs : List Con) (hcs : Q1g cs) (fs : List Fon) (hfs : Q0d fs) (hf : Tryz.prog.funcs[c.f]? = some fn) (hb : (fn.body.isNone || fn.name == "runtime.NumGoroutine" || !Yj (efs fs) [] [] fn.ntmps (Gy fn)) = false)
 (h:∀ avs res,c.go avs=some res->res.pre ()->∃ Ls,(fnF (cx cs fs) Ls fn avs res.av).P):Q7 Tryz.prog c:=Z8k [] cs hcs fs hfs hf hb h
theorem Qp {c : Con} {fn : Func} (cs : List Con) (hcs : Q1g cs) (hf : Tryz.prog.funcs[c.f]? = some fn) (hb : (fn.body.isNone || fn.name == "runtime.NumGoroutine" || !Yj [] [] [] fn.ntmps (Gy fn)) = false)
 (h:∀ avs res,c.go avs=some res->res.pre ()->∃ Ls,(fnF (cx cs []) Ls fn avs res.av).P):Q7 Tryz.prog c:=Z8v cs hcs [] trivial hf hb h
theorem Z7f (fz : List (Nat × List Nat)) {c : Fon} {fn : Func} (cs : List Con) (hcs : Q1g cs) (fs : List Fon) (hfs : Q0d fs) (hf : Tryz.prog.funcs[c.f]? = some fn) (hb : (fn.body.isNone || fn.name == "runtime.NumGoroutine" || !Yj (efs fs) [] [] fn.ntmps (Gy fn)) = false)
 (h:∀ avs es res,c.go avs es=some res->res.pre ()->∃ Ls,(fnG (cxf cs fs fz c.fix c.n) Ls fn avs es c.n res.av res.es).P):Vx Tryz.prog c:=by
 simp only [Bool.or_eq_false_iff,Bool.not_eq_false'] at hb;exact Qs4 (C:=cxf cs fs fz c.fix c.n) rfl Qf0 ⟨hcs.mem,hfs.mem⟩ (by kernel_rfl) hf hb.1.1 hb.1.2 hb.2 h
theorem Qez {c : Fon} {fn : Func} (cs : List Con) (hcs : Q1g cs) (fs : List Fon) (hfs : Q0d fs) (hf : Tryz.prog.funcs[c.f]? = some fn) (hb : (fn.body.isNone || fn.name == "runtime.NumGoroutine" || !Yj (efs fs) [] [] fn.ntmps (Gy fn)) = false)
 (h:∀ avs es res,c.go avs es=some res->res.pre ()->∃ Ls,(fnG (cxf cs fs [] c.fix c.n) Ls fn avs es c.n res.av res.es).P):Vx Tryz.prog c:=Z7f [] cs hcs fs hfs hf hb h
theorem Qc {α:Type} {G:Prop} (e : α) (h:∀ x,e=x->G):G:=h e rfl
theorem Q62 (l:List VC) (A:Fm):(Fm.vc l A).P=(Jo l/\A.P):=rfl
theorem Z4h (c:Unit->Bool) (A B:Fm):(Fm.br c A B).P=((c ()=true->A.P)/\(c ()=false->B.P)):=rfl
theorem Qk2 (l:List VC):(Fm.fin l).P=Jo l:=rfl
theorem Q42 (A B:Fm):(Fm.and A B).P=(A.P/\B.P):=rfl
theorem Qqk (F:Tc->Type) {t:Tc} (h:t=t) (x:F t):toT F h x=x:=rfl
theorem Z8 (k:Nat):(NatCast.natCast k:Int)=(k:Int):=rfl
theorem Z4o (k:Nat):Nat.succ k=k+1:=rfl
theorem Z9i:Jo []=True:=rfl
theorem V0 (c:VC):Jo [c]=c ():=rfl
theorem Q9p (c d:VC) (l:List VC):Jo (c::d::l)=(c ()/\Jo (d::l)):=rfl
theorem eta {α:Type} (f:Unit -> α):∃ x,f=fun _=>x:=⟨f (),rfl⟩
theorem Qz0 (k:Nat):((k:Int) - 1).toNat=k - 1:=by omega
theorem fms:(∀ l A,(Fm.vc l A).P=(Jo l/\A.P))/\(∀ c A B,(Fm.br c A B).P=((c ()=true->A.P)/\(c ()=false->B.P)))/\(∀ A B,(Fm.and A B).P=(A.P/\B.P))/\(∀ l,(Fm.fin l).P=Jo l)/\(Jo []=True)/\(∀ c,Jo [c]=c ())/\(∀ c d l,Jo (c::d::l)=(c ()/\Jo (d::l)))/\(∀ (F:Tc->Type) (t:Tc) (h:t=t) (x:F t),toT F h x=x)/\(∀ k:Nat,(NatCast.natCast k:Int)=(k:Int))/\(∀ k,Nat.succ k=k+1)/\(∀ k:Nat,((k:Int)).toNat=k)/\(∀ k:Nat,((k:Int) - 1).toNat=k - 1)/\(∀ (p:Prop) [Decidable p],(decide p=true)=p)/\(∀ (p:Prop) [Decidable p],(decide p=false)=¬ p)/\(∀ (α β:Type) (f : α -> β) (a : α) (l:List α),List.map f (a::l)=f a::List.map f l)/\(∀ (α β:Type) (f : α -> β),List.map f [] = [])/\(∀ (α:Type) (a b : α),cond true a b=a)/\(∀ (α:Type) (a b : α),cond false a b=b) :=
 ⟨Q62,Z4h,Q42,Qk2,Z9i,V0,Q9p,fun _ _ h x=>Qqk _ h x,Z8,Z4o,Int.toNat_natCast,Qz0,fun _ _=>decide_eq_true_eq,fun _ _=>propext decide_eq_false_iff_not,fun _ _ _ _ _=>rfl,fun _ _ _=>rfl,fun _ _ _=>rfl,fun _ _ _=>rfl⟩
def AV.valOf:AV->Value
 | .int k n => .int k (n ())
 | .lit k n => .int k n
 | .bool b => .bool (b ())
 | .blit b => .bool b
 | .str s => .string (s ())
 | _=>undef
def AV.flat:AV->Bool
 | .int _ _=>true
 | .lit _ _=>true
 | .bool _=>true
 | .blit _=>true
 | .str _=>true
 | _=>false
section
variable {w w':World} {ρ ρ':Nat->Option Rl} {base base':Nat} {ro ro':Nat->Prop} {v:Value}
theorem AVR.flat_ {x:AV} (hx:x.flat=true) (h:AVR w ρ base ro x v):v=x.valOf:=by
 cases x<;>simp only [AV.flat,Bool.false_eq_true] at hx
 . exact h.int_
 . exact h.lit_
 . exact h.bool_
 . exact h.blit_
 . exact h.str_
theorem Z42 {x:AV} (hx:x.flat=true):AVR w ρ base ro x x.valOf:=by
 cases x<;>simp only [AV.flat,Bool.false_eq_true] at hx
 . exact .int _ _
 . exact .lit _ _
 . exact .bool _
 . exact .blit _
 . exact .str _
theorem Qj.flat_:∀ {l:List AV} {vs:List Value},l.all AV.flat=true->Qj w ρ base ro l vs->vs=l.map AV.valOf
 | [],vs,_,h=>h.none
 | x::l,vs,hl,h=>by
  simp only [List.all_cons,Bool.and_eq_true] at hl
  cases vs with
  | nil=>have:=h.1; simp at this
  | cons v vs =>
   have h1:=h.2 0 x v rfl rfl;have h2:Qj w ρ base ro l vs:=⟨by have:=h.1; simpa using this,fun j y u hy hu=>h.2 (j+1) y u (by simpa using hy) (by simpa using hu)⟩
   rw [h1.flat_ hl.1,Qj.flat_ hl.2 h2];rfl
theorem Qee:∀ {l:List AV},l.all AV.flat=true->Qj w ρ base ro l (l.map AV.valOf)
 | [],_ => .nil
 | x::l,hl=>by
  simp only [List.all_cons,Bool.and_eq_true] at hl;exact .cons (Z42 hl.1) (Qee hl.2)
theorem AVR.aggF {l:List AV} (hl:l.all AV.flat=true) (h:AVR w ρ base ro (.agg l) v):v = .agg (l.map AV.valOf).toArray:=by
 obtain⟨vs,rfl,hE⟩:=h.agg_;rw [hE.flat_ hl]
theorem Qhr {l:List AV} (hl:l.all AV.flat=true):AVR w ρ base ro (.agg l) (.agg (l.map AV.valOf).toArray):=by
 have hE:Qj w ρ base ro l (l.map AV.valOf):=Qee hl;exact .agg _ _ hE.1 hE.2
theorem Q7c {x y:AV} {u v:Value} (hx:AVR w ρ base ro x u) (hy:AVR w ρ base ro y v):AVR w ρ base ro (.tup [x,y]) (.tuple #[u,v]):=by
 have hE:Qj w ρ base ro [x,y] [u,v] := .cons hx (.cons hy .nil);exact .tup _ _ hE.1 hE.2
theorem AVR.slF {fr:Bool} {t:Tc} {l:Unit->List t.el} (f:t.el->List Value) (ht:∀ x:t.el,(Q8 fr t fun _=>x).all AV.flat=true) (hf:∀ x:t.el,(Q8 fr t fun _=>x).map AV.valOf=f x) (h:AVR w ρ base ro (.sl fr t l) v):∃ A c,v = .slice A (l ()).length c/\(l ()).length<=c/\Rd w w.heap.size t.size A ((l ()).map f):=by
 obtain⟨A,c,css,h1,h2,h3,_,_,h6,rfl⟩:=h.sl_;refine⟨A,c,rfl,by omega,?_⟩;have:css=(l ()).map f:=by
  apply List.ext_getElem?;intro k;rw [List.getElem?_map]
  cases hk:css[k]? with
  | none =>
   have:(l ())[k]? = none:=by rw [List.getElem?_eq_none_iff] at hk ⊢; omega
   rw [this];rfl
  | some cs =>
   have hlt:=(List.getElem?_eq_some_iff.1 hk).1;obtain⟨_,_,_,_,hl,_⟩:=h3 k cs hk;have hE:Qj w ρ base ro (Q8 fr t fun _=>(l ()).getD k t.dflt) cs:=Q02 hl fun j y u hy hu=>h6 k cs j y u hk hy hu;rw [hE.flat_ (ht _),hf,List.getElem?_eq_getElem (by omega),Option.map_some,List.getD_eq_getElem?_getD,List.getElem?_eq_getElem (by omega)];rfl
 rwa [this] at h3
end
theorem Q6p {c : Con} {fn : Func} (hf : Tryz.prog.funcs[c.f]? = some fn) (hb : (fn.body.isNone || fn.name == "runtime.NumGoroutine") = false)
 (h:∀ avs res,c.go avs=some res->∀ (w:World) (ra:Nat->Prop) (vals:List Value),Qj w (fun _=>none) 0 ra avs vals->res.pre ()->Calls Tryz.prog c.f vals.toArray w fun e w'=>∃ v,e = .returned v/\Qe w w'/\AVR w' (fun _=>none) w.heap.size (fun b=>ra b\/w.heap.size<=b) res.av v):Q7 Tryz.prog c:=by
 simp only [Bool.or_eq_false_iff] at hb;exact⟨fun args w=>Q5c hf hb.1 hb.2 args w,fun avs res hgo w ra vals _ hE hpre=>h avs res hgo w ra vals hE hpre⟩
end Go.Proofs.YtffeegebohigdaaGreat
