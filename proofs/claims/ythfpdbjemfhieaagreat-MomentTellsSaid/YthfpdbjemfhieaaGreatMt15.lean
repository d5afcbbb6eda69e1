/-
  The abstract run is sound: a function's contract, from what is shown of plain data.
-/
import Derived.Test.YthfpdbjemfhieaaGreatMt14
set_option linter.unusedVariables false
set_option linter.unusedSimpArgs false
namespace Go.Proofs.YthfpdbjemfhieaaGreat
open Go.RowKit
def resOne (tmps:Array Value):ResultVar->Sem Value
 | .tmp t=>pure (tmps.getD t undef)
 | .cell p t=>do loadVar t (<- asAddr (tmps.getD p undef))
def oneOr:List Value->Value
 | [v]=>v
 | vs => .tuple vs.toArray
section
variable {w w' w0:World} {ρ ρ' ρ2:Nat->Option Rl} {base base' n:Nat} {ro ro':Nat->Prop} {S0:Pm} {N:Nat} {B:Bs} {S:Sx} {a:Act} {F:Fx} {P:Program}
theorem noFrL_get:∀ {l:List AV} {j:Nat} {x:AV},AV.noFrL l=true->l[j]? = some x->AV.noFr x=true
 | y::l,0,x,h,hx=>by
  simp only [List.getElem?_cons_zero,Option.some.injEq] at hx;subst hx;simp only [AV.noFrL,Bool.and_eq_true] at h;exact h.1
 | y::l,j+1,x,h,hx=>by
  simp only [AV.noFrL,Bool.and_eq_true] at h;exact noFrL_get h.2 (by simpa using hx)
 | [],j,x,_,hx=>by simp at hx
theorem cellsAV_noFr (t:Tc) (x:Unit->t.el):AV.noFrL (cellsAV false t x)=true:=by cases t<;>rfl
theorem AVR.anew {x:AV} {v:Value} (h:AVR w ρ base ro x v) (hx:AV.noFr x=true):AVR w ρ base' ro x v:=by
 induction h with
 | un=>exact .un _
 | int=>exact .int _ _
 | lit=>exact .lit _ _
 | bool=>exact .bool _
 | blit=>exact .blit _
 | str=>exact .str _
 | nil=>exact .nil
 | sl fr t l A c css hl hc hr hro1 hfr h ih =>
  have hfr0:fr=false:=by simpa [AV.noFr] using hx
  subst hfr0;exact .sl false t l A c css hl hc hr hro1 (fun h=>by cases h) fun k cs j y v h1 h2 h3=>ih k cs j y v h1 h2 h3 (noFrL_get (cellsAV_noFr _ _) h2)
 | wide fr t l n A c hn h ih=>exact .wide fr t l n A c hn (ih (by simpa only [AV.noFr] using hx))
 | pto cells off b o cs hr hlt hl hc h ih=>exact .pto cells off b o cs hr hlt hl hc fun j y v h1 h2=>ih j y v h1 h2 (noFrL_get (by simpa only [AV.noFr] using hx) h1)
 | ptr l off b h=>exact .ptr _ _ _ h
 | own l A n c h=>exact .own _ _ _ _ h
 | orp t l k off A n c b h hA h0 hn=>exact .orp _ _ _ _ _ _ _ _ h hA h0 hn
 | mp l b h=>exact .mp _ _ h
 | stamp l b h=>exact .stamp _ _ h
 | it l l2 b h=>exact .it _ _ _ h
 | agg l vs hl h ih=>exact .agg _ _ hl fun j y v h1 h2=>ih j y v h1 h2 (noFrL_get (by simpa only [AV.noFr] using hx) h1)
 | tup l vs hl h ih=>exact .tup _ _ hl fun j y v h1 h2=>ih j y v h1 h2 (noFrL_get (by simpa only [AV.noFr] using hx) h1)
 | fn f caps vs hl h ih=>exact .fn _ _ _ hl fun j y v h1 h2=>ih j y v h1 h2 (noFrL_get (by simpa only [AV.noFr] using hx) h1)
theorem resAV_ok {C:Cx} (hty:TyOk P C.ty) (H:SimR w0 S0 N B S a w ρ ro):∀ {rs:List ResultVar} {l:List AV},resAV C B S rs=some l ->
 ∃ vs:List Value,(rs.mapM (resOne a.tmps):Sem (List Value)).run P w = .ok vs w/\Each w ρ w0.heap.size ro l vs
 | [],l,h=>by
  simp only [resAV,Option.some.injEq] at h;subst h;exact⟨[],rfl,.nil⟩
 | .tmp t::rs,l,h=>by
  unfold resAV at h
  cases hr:resAV C B S rs with
  | none=>rw [hr] at h; cases h
  | some r =>
   rw [hr] at h;simp only [Option.map_some,Option.some.injEq] at h;subst h;obtain⟨vs,h1,h2⟩:=resAV_ok hty H hr;have h3:=H.get (.tmp t);refine⟨a.eval (.tmp t)::vs,?_,.cons h3 h2⟩;have hO:(resOne a.tmps (.tmp t)).run P w = .ok (a.eval (.tmp t)) w:=rfl;rw [List.mapM_cons];simp only [Sem.run_bind,Sem.run_pure,Result.andThen_ok,hO,h1]
 | .cell p T::rs,l,h=>by
  unfold resAV at h;split at h
  . rename_i i hi;split at h
    . rename_i x r hx hr;cases h;obtain⟨vs,h1,h2⟩:=resAV_ok hty H hr;obtain⟨ad,v,h3,h4,h5⟩:=load_ok (fun l e he=>H.en l e he) (hty T i hi) hx (H.get (.tmp p));refine⟨v::vs,?_,.cons h5 h2⟩;have h3':a.tmps.getD p undef = .pointer (some ad):=h3;have hA:(asAddr (a.tmps.getD p undef)).run P w = .ok ad w:=by rw [h3']; rfl
      have hO:(resOne a.tmps (.cell p T)).run P w = .ok v w:=by
       unfold resOne;simp only [Sem.run_bind,hA,Result.andThen_ok,h4]
      rw [List.mapM_cons];simp only [Sem.run_bind,Sem.run_pure,Result.andThen_ok,hO,h1]
    . cases h
  . cases h
theorem results_of {fn:Func} {vs:List Value} (h:(fn.results.toList.mapM (resOne a.tmps):Sem (List Value)).run P w = .ok vs w):(results fn a.tmps).run P w = .ok (oneOr vs) w:=by
 show (do
  let vs <- fn.results.mapM (resOne a.tmps)
  pure (if h:vs.size=1 then vs[0] else .tuple vs):Sem Value).run P w=_
 rw [Array.mapM_eq_mapM_toList];simp only [Sem.run_bind,Sem.run_map,h,Result.andThen_ok,Sem.run_pure]
 match vs with
 | []=>rfl
 | [v]=>rfl
 | u::v::l=>simp [oneOr]
theorem tup_each {l:List AV} {vs:List Value} (h:Each w ρ base ro l vs):AVR w ρ base ro (tupOf l) (oneOr vs):=by
 match l,vs,h with
 | [],[],h=>exact .tup [] [] h.1 h.2
 | [x],[v],h=>exact h.2 0 x v rfl rfl
 | x::y::l,u::v::vs,h=>exact .tup (x::y::l) (u::v::vs) h.1 h.2
 | [],_::_,h=>exact absurd h.1 (by simp)
 | _::_,[],h=>exact absurd h.1 (by simp)
 | [x],u::v::vs,h=>exact absurd h.1 (by simp)
 | x::y::l,[v],h=>exact absurd h.1 (by simp)
theorem alook_zip:∀ (l:List AV) (k d:Nat) (x:AV),alook (zipT k l) d=some x->k<=d/\l[d - k]? = some x
 | [],k,d,x,h=>by cases h
 | y::l,k,d,x,h=>by
  unfold zipT at h;rw [alook_cons] at h;split at h
  . rename_i e;subst e;cases h;simp
  . obtain⟨h1,h2⟩:=alook_zip l (k+1) d x h;refine⟨by omega,?_⟩;rw [show d - k=(d - (k+1))+1 by omega];simpa using h2
end
theorem callFunc_ok {P : Program} {f : FuncId} {fn : Func} (hf : P.funcs[f]? = some fn) (hb : fn.body.isNone = false) (hn : (fn.name == "runtime.NumGoroutine") = false) (args : Array Value) (w : World) : (callFunc f args).run P w = .ok (.enter f args) w := by
 unfold callFunc;simp only [Sem.run_bind,run_program,Result.andThen_ok,hf,hn,hb,Bool.false_eq_true,if_false,Sem.run_pure]
section
variable {w w' w0:World} {ρ ρ' ρ2:Nat->Option Rl} {base base' n:Nat} {ro ro':Nat->Prop}
theorem elAV_noFr (ag:Bool) (t:Tc) (x:Unit->t.el):AV.noFr (elAV ag false t x)=true:=by
 unfold elAV;have h:=cellsAV_noFr t x
 cases ag with
 | true=>exact h
 | false =>
  simp only [Bool.false_eq_true,if_false]
  cases hc:cellsAV false t x with
  | nil=>rfl
  | cons c l =>
   rw [hc] at h
   cases l with
   | nil=>simpa [AV.noFrL] using h
   | cons c2 l=>rfl
theorem EnR.anew {l:Nat} {e:En} (h:EnR w ρ base ro l e) (hx:En.noFr e=true):EnR w ρ base' ro l e:=by
 cases e with
 | box T cells =>
  obtain⟨b,cs,h1,h4,h5⟩:=h;exact⟨b,cs,h1,h4,h5.1,fun j x v hx' hv=>(h5.2 j x v hx' hv).anew (noFrL_get (by simpa [En.noFr] using hx) hx')⟩
 | row fr t T m =>
  obtain⟨A,c,css,h1,h2,h3,h5⟩:=h;have hf:fr=false:=by simpa [En.noFr] using hx
  subst hf;exact⟨A,c,css,h1,h2,h3,fun k cs j x v k1 k2 k3=>(h5 k cs j x v k1 k2 k3).anew (noFrL_get (cellsAV_noFr _ _) k2)⟩
 | map fr ag c t T m =>
  obtain⟨b,es,clock,h1,h2,h3,h4⟩:=h;have hf:fr=false:=by simpa [En.noFr] using hx
  subst hf;exact⟨b,es,clock,h1,h2,h3,h4.map_ fun x v hx=>hx.anew (elAV_noFr _ _ _)⟩
 | iter ml c seen left=>exact h
 | stamp ml c key=>exact h
 | dead=>exact h
theorem noFrE_get:∀ {l:List (Nat×En)} {k:Nat} {e:En},noFrE l=true->alook l k=some e->En.noFr e=true
 | (j,y)::l,k,e,h,he=>by
  unfold noFrE at h;simp only [Bool.and_eq_true] at h;rw [alook_cons] at he;split at he
  . cases he; exact h.1
  . exact noFrE_get h.2 he
 | [],_,_,_,he=>by cases he
theorem allK_get {ks:List Nat}:∀ {n l:Nat},allK ks n=true->l<n->memN l ks=true
 | n+1,l,h,hl=>by
  simp only [allK,Bool.and_eq_true] at h;rcases Nat.lt_or_ge l n with h1|h1
  . exact allK_get h.2 h1
  . rw [show l=n by omega]; exact h.1
 | 0,_,_,hl=>by omega
end
theorem fnG_ok {P:Program} {C:Cx} {f:FuncId} {fn:Func} {Ls:List (Nat×Lp)} {avs:List AV} {es0 es:List (Nat×En)} {n0:Nat} {want:AV} (hty:TyOk P C.ty) (hcs:(∀ c∈C.cs,ConOk P c)/\∀ c∈C.fs,FonOk P c) (hmix:P.follows .mixedOrders=true) (hf:P.funcs[f]? = some fn) (hb:fn.body.isNone=false) (hok:codeOk (efs C.fs) C.sc C.lt fn.ntmps (bodyOf fn)=true)
 (hP:(fnG C Ls fn avs es0 n0 want es).P) {w:World} {ρ:Nat->Option Rl} {ra:Nat->Prop} {vals:List Value} (hra:∀ b,ra b->b<w.heap.size) (hE:Each w ρ 0 ra avs vals) (hen:∀ l e,alook es0 l=some e->EnR w ρ 0 ra l e) (hap:∀ l l' r r' b,l≠l' -> ρ l=some r -> ρ l'=some r'->r.blk=some b->r'.blk≠some b) (hfr:∀ l,n0<=l -> ρ l=none) (hown:∀ l r b,ρ l=some r->r.blk=some b->b<w.heap.size/\¬ ra b) :
 Calls P f vals.toArray w fun e w'=>∃ v ρ1 ra1,e = .returned v/\Left w w' ρ ρ1 ra ra1 es C.fx/\AVR w' ρ1 w.heap.size ra1 want v:=by
 unfold fnG at hP;split at hP
 . rename_i hcond;simp only [Bool.and_eq_true,decide_eq_true_eq] at hcond;obtain⟨⟨⟨⟨⟨⟨hnb,hlen⟩,hnf⟩,hne⟩,hpl⟩,hple⟩,hall⟩:=hcond;obtain⟨code,hcode⟩:∃ code,fn.body=some code:=by
    cases hbo:fn.body with
    | none=>rw [hbo] at hb; cases hb
    | some code=>exact⟨code,rfl⟩
   have hbody:bodyOf fn=code:=by unfold bodyOf; rw [hcode]; rfl
   rw [hbody] at hP hok;have hvl:vals.length<=fn.ntmps:=by rw [<- hE.1]; exact hlen
   refine calls_of_wp hf hcode ?_;have hsim:Sim w ⟨ra,ρ,C.fx⟩ fn.ntmps ⟨[],[]⟩ ⟨zipT 0 avs,es0,n0⟩ ⟨vals.toArray++Array.replicate (fn.ntmps - vals.toArray.size) undef,[]⟩ w:=by
    refine⟨ρ,ra,FromG.refl _ _,by simp; omega,rfl,hra,fun d x hx => ?_,fun l e he => ?_,hap,hfr,fun l r b h1 h2=>⟨(hown l r b h1 h2).1,(hown l r b h1 h2).2,.inr ⟨r,h1,h2⟩⟩,fun b hb _=>hb,fun l r h _=>h,fun d x h=>by simp [alook] at h,fun l e h=>by simp [alook] at h⟩
    . have h1:alook (zipT 0 avs) d=some x:=by
       unfold lookT at hx;dsimp only at hx;split at hx
       . rename_i y hy; rw [hy,hx]
       . simp [alook] at hx
      obtain⟨_,h2⟩:=alook_zip avs 0 d x h1;rw [Nat.sub_zero] at h2;obtain⟨v,h3,h4⟩:=hE.get h2;refine⟨v,?_,h4.anew (noFrL_get hnf h2)⟩;have hd:=(List.getElem?_eq_some_iff.1 h3).1;rw [Array.getElem?_append_left (by simpa using hd)];simpa using h3
    . have h1:alook es0 l=some e:=by
       unfold lookE at he;dsimp only at he;split at he
       . rename_i y hy; rw [hy,he]
       . simp [alook] at he
      exact (hen l e h1).anew (noFrE_get hne h1)
   refine wp_mono (run_ok (F:=⟨C,fn.ntmps,Ls,retF C fn.results.toList want es⟩) (w0:=w) (S0:=⟨ra,ρ,C.fx⟩) hty ⟨hcs.1,hcs.2,rfl,fun l r h=>by
    rcases Nat.lt_or_ge l n0 with h1|h1
    . show l<C.nb
      omega
    . have h2 : ρ l=some r:=h;rw [hfr l h1] at h2; cases h2⟩ hmix 100000 code ⟨[],[]⟩ _ [] _ w hP hsim (.nil _) hok) fun e a' w' hq => ?_
   have hplc:∀ l r,ρ l=some r->l<C.nb:=fun l r h=>by
    rcases Nat.lt_or_ge l n0 with h1|h1
    . omega
    . rw [hfr l h1] at h; cases h
   have hfin:∀ S,Sim w ⟨ra,ρ,C.fx⟩ fn.ntmps ⟨[],[]⟩ S a' w'->(retF C fn.results.toList want es ⟨[],[]⟩ S).P->a'.defers = []/\∃ v,(results fn a'.tmps).run P w' = .ok v w'/\∃ u ρ1 ra1,Ending.returned v = .returned u/\Left w w' ρ ρ1 ra ra1 es C.fx/\AVR w' ρ1 w.heap.size ra1 want u:=by
    intro S H hr;obtain⟨ρ',ro,H⟩:=alignS_ok (nb:=C.nb) (prs:=fun S=>match resAV C ⟨[],[]⟩ S fn.results.toList with
     | some l=>prsAV (tupOf l) want
     | none => []) hplc 3 H
    unfold retF retF0 alignR at hr;split at hr
    . rename_i l hl;split at hr
      . rename_i va vb hva hvb;obtain⟨vs,h1,h2⟩:=resAV_ok (P:=P) hty H hl;have hv:=mem_app (allVC_mem hr);generalize hks:keysOf es=ks at hva hvb hpl hple hall;obtain⟨ρ1,hρ1⟩:∃ ρ1:Nat->Option Rl,ρ1=fun l=>if memN l ks then ρ' l else none:=⟨_,rfl⟩
        obtain⟨ra1,hra1⟩:∃ ra1:Nat->Prop,ra1=fun b=>(ra b\/w.heap.size<=b)/\b<w'.heap.size/\∀ l r,ρ1 l=some r->r.blk≠some b:=⟨_,rfl⟩
        have hback:∀ l r,ρ1 l=some r -> ρ' l=some r/\memN l ks=true:=by
         intro l r h;rw [hρ1] at h;simp only at h;split at h
         . rename_i hm; exact⟨h,hm⟩
         . cases h
        have hro:∀ b,ro b->ra1 b:=by
         intro b hb;rw [hra1];refine⟨?_,H.roB b hb,fun l r h1 h2=>(H.own l r b (hback l r h1).1 h2).2.1 hb⟩;rcases Nat.lt_or_ge b w.heap.size with h|h
         . exact .inl (H.roS b hb h)
         . exact .inr h
        have M:Anew w ρ' ρ1 ro ra1 (inK ks) (some ks):=by
         refine⟨fun l r h hm => ?_,hro,(fun h=>by cases h),fun ks' hk loc A n c h hm ad ha => ?_⟩
         . rw [hρ1];have hm':memN l ks=true:=hm;simp only [hm',if_true];exact h
         . injection hk with hk;subst hk;have hbk:(Rl.row A n c).blk=some ad.block:=by simp [Rl.blk,ha]
           have h3:=H.own loc _ ad.block h hbk;have h4:w.heap.size<=ad.block:=by
            rcases h3.2.2 with h4|⟨r0,h4,_⟩
            . exact h4
            . have h4' : ρ loc=some r0:=h4;rcases Nat.lt_or_ge loc n0 with h5|h5
              . rw [allK_get hall h5] at hm; cases hm
              . rw [hfr loc h5] at h4'; cases h4'
           refine⟨h4,?_⟩;rw [hra1];exact⟨.inr h4,h3.1,fun l r h5 h6=>H.apart l loc r _ ad.block (fun e=>by subst e; rw [(hback _ _ h5).2] at hm; cases hm) (hback l r h5).1 h h6 hbk⟩
        refine⟨H.defers,_,results_of h1,_,ρ1,ra1,rfl,⟨H.from_,fun l e he=>eqEs_ok H M hvb hv.2 hple l e he,fun l l' r r' b hne k1 k2 k3 k4=>H.apart l l' r r' b hne (hback l r k1).1 (hback l' r' k2).1 k3 k4,fun l hl => ?_,fun l r b k1 k2 => ?_,fun b hb => ?_,fun l r k1 k2 => ?_⟩,eqAV_ok H M _ _ va _ hva hv.1 (tup_each h2) hpl⟩
        . rw [hks] at hl;rw [hρ1];simp only [hl,Bool.false_eq_true,if_false]
        . have h3:=H.own l r b (hback l r k1).1 k2;refine⟨h3.1,fun hb => ?_,h3.2.2⟩;rw [hra1] at hb;exact hb.2.2 l r k1 k2
        . rw [hra1] at hb;exact⟨hb.2.1,fun hlt=>hb.1.resolve_right (by omega)⟩
        . have h3:=H.solid l r k1 k2;rw [hρ1];have hm:memN l ks=true:=by
           rcases Nat.lt_or_ge l n0 with h5|h5
           . exact allK_get hall h5
           . rw [hfr l h5] at k1; cases k1
          simp only [hm,if_true];exact h3
      . exact hr.elim
    . exact hr.elim
   cases e with
   | normal =>
    obtain⟨g,S,_,H,hc⟩:=hq
    cases g with
    | zero=>unfold cont at hc; exact hc.elim
    | succ g=>unfold cont at hc; exact hfin S H hc
   | ret =>
    obtain⟨g,S,_,H,hc⟩:=hq
    cases g with
    | zero=>unfold leaveAll at hc; exact hc.elim
    | succ g=>unfold leaveAll at hc; exact hfin S H hc
   | exit id =>
    obtain⟨g,S,_,H,hc⟩:=hq
    cases g with
    | zero=>unfold exitTo at hc; exact hc.elim
    | succ g=>unfold exitTo at hc; exact hc.elim
   | goto l=>exact hq.elim
   | panic c=>exact hq.elim
   | outgrown=>exact hq.elim
 . exact hP.elim
theorem conOk_of {P : Program} {C : Cx} {c : Con} {fn : Func} (hty : TyOk P C.ty) (hcs : (∀ c ∈ C.cs, ConOk P c) /\ ∀ c ∈ C.fs, FonOk P c) (hmix : P.follows .mixedOrders = true) (hf : P.funcs[c.f]? = some fn) (hb : fn.body.isNone = false) (hn : (fn.name == "runtime.NumGoroutine") = false) (hok : codeOk (efs C.fs) C.sc C.lt fn.ntmps (bodyOf fn) = true)
 (h:∀ avs res,c.go avs=some res->res.pre ()->∃ Ls,(fnF C Ls fn avs res.av).P):ConOk P c:=by
 refine⟨fun args w=>callFunc_ok hf hb hn args w,fun avs res hgo w ra vals hra hE hpre => ?_⟩;obtain⟨Ls,hP⟩:=h avs res hgo hpre;refine (fnG_ok hty hcs hmix hf hb hok hP (ρ:=fun _=>none) hra hE (fun l e h=>by cases h) (fun _ _ _ _ _ _ h=>by cases h) (fun _ _=>rfl) (fun _ _ _ h=>by cases h)).mono fun e w' hq => ?_;obtain⟨v,ρ1,ra1,rfl,hL,hv⟩:=hq;have hρ : ρ1=fun _=>none:=funext fun l=>hL.fresh l rfl;subst hρ;refine⟨v,rfl,hL.from_.none_,hv.mono (fun _ _ _=>rfl) (Ext.refl _) (Nat.le_refl _) fun b hb => ?_⟩;rcases Nat.lt_or_ge b w.heap.size with h|h
 . exact .inl ((hL.rd b hb).2 h)
 . exact .inr h
theorem fonOk_of {P : Program} {C : Cx} {c : Fon} {fn : Func} (hfx : C.fx = c.fix) (hty : TyOk P C.ty) (hcs : (∀ c ∈ C.cs, ConOk P c) /\ ∀ c ∈ C.fs, FonOk P c) (hmix : P.follows .mixedOrders = true) (hf : P.funcs[c.f]? = some fn) (hb : fn.body.isNone = false) (hn : (fn.name == "runtime.NumGoroutine") = false) (hok : codeOk (efs C.fs) C.sc C.lt fn.ntmps (bodyOf fn) = true)
 (h:∀ avs es res,c.go avs es=some res->res.pre ()->∃ Ls,(fnG C Ls fn avs es c.n res.av res.es).P):FonOk P c:=by
 refine⟨fun args w=>callFunc_ok hf hb hn args w,fun avs es res hgo w ρ ra vals hra hE hen hap hfr hown hpre => ?_⟩;obtain⟨Ls,hP⟩:=h avs es res hgo hpre;rw [<- hfx];exact fnG_ok hty hcs hmix hf hb hok hP hra hE hen hap hfr hown
end Go.Proofs.YthfpdbjemfhieaaGreat
namespace Go.Proofs.YthfpdbjemfhieaaGreat
def tyTab:Tab := [
 (3,⟨1,.int .i64,[.lit .i64 0],[]⟩),(4,⟨1,.bool,[.blit false],[]⟩),(5,⟨1,.int .u8,[.lit .u8 0],[]⟩),(1,⟨1,.other,[.un],[]⟩),(2,⟨1,.int .i64,[.lit .i64 0],[]⟩),(7,⟨4,.struct [(0,1,false),(1,1,false),(2,1,false),(3,1,false)],[.lit .i64 0,.lit .i64 0,.blit false,.lit .u8 0],[]⟩),(9,⟨1,.str,[.str fun _=>noText],[]⟩),(12,⟨1,.int .u64,[.lit .u64 0],[]⟩),(13,⟨2,.struct [(0,1,false),(1,1,false)],[.str fun _=>noText,.lit .u64 0],[]⟩),(15,⟨1,.other,[.un],[]⟩),(16,⟨1,.other,[.un],[]⟩),(17,⟨1,.other,[.un],[]⟩),(18,⟨1,.struct [(0,1,false)],[.un],[]⟩),(21,⟨1,.int .i32,[.lit .i32 0],[]⟩),(22,⟨1,.slice 47 12 112,[.nil],[]⟩),(23,⟨1,.slice 186 2 32,[.nil],[]⟩),(24,⟨4,.struct [(0,1,false),(1,1,false),(2,1,false),(3,1,false)],[.lit .i64 0,.lit .i64 0,.lit .i64 0,.lit .i64 0],[]⟩),(25,⟨4,.struct [(0,1,false),(1,1,false),(2,1,false),(3,1,false)],[.lit .i64 0,.lit .i64 0,.lit .i64 0,.lit .i64 0],[.int .i64,.int .i64,.int .i64,.int .i64]⟩),(26,⟨1,.slice 259 5 40,[.nil],[]⟩),(27,⟨1,.slice 59 5 40,[.nil],[]⟩),(28,⟨1,.slice 151 6 64,[.nil],[]⟩),(29,⟨4,.struct [(0,1,false),(1,1,false),(2,1,false),(3,1,false)],[.lit .i64 0,.lit .i64 0,.lit .i64 0,.lit .i64 0],[]⟩),(30,⟨4,.struct [(0,1,false),(1,1,false),(2,1,false),(3,1,false)],[.lit .i64 0,.lit .i64 0,.lit .i64 0,.lit .i64 0],[.int .i64,.int .i64,.int .i64,.int .i64]⟩),(31,⟨13,.struct [(0,1,false),(1,1,false),(2,4,true),(6,1,false),(7,1,false),(8,1,false),(9,4,true)],[.nil,.nil,.lit .i64 0,.lit .i64 0,.lit .i64 0,.lit .i64 0,.nil,.nil,.nil,.lit .i64 0,.lit .i64 0,.lit .i64 0,.lit .i64 0],[]⟩),(32,⟨13,.struct [(0,1,false),(1,1,false),(2,4,true),(6,1,false),(7,1,false),(8,1,false),(9,4,true)],[.nil,.nil,.lit .i64 0,.lit .i64 0,.lit .i64 0,.lit .i64 0,.nil,.nil,.nil,.lit .i64 0,.lit .i64 0,.lit .i64 0,.lit .i64 0],[]⟩),(33,⟨1,.slice 44 9 64,[.nil],[]⟩),(34,⟨1,.slice 42 4 32,[.nil],[]⟩),(35,⟨1,.other,[.un],[]⟩),(36,⟨1,.other,[.un],[]⟩),(38,⟨1,.other,[.un],[]⟩),(39,⟨3,.struct [(0,1,false),(1,1,false),(2,1,false)],[.lit .i64 0,.lit .i64 0,.lit .u8 0],[]⟩),(40,⟨3,.struct [(0,1,false),(1,1,false),(2,1,false)],[.lit .i64 0,.lit .i64 0,.lit .u8 0],[.int .i64,.int .i64,.int .u8]⟩),(41,⟨4,.struct [(0,1,false),(1,3,true)],[.lit .i64 0,.lit .i64 0,.lit .i64 0,.lit .u8 0],[]⟩),(42,⟨4,.struct [(0,1,false),(1,3,true)],[.lit .i64 0,.lit .i64 0,.lit .i64 0,.lit .u8 0],[.int .i64,.int .i64,.int .i64,.int .u8]⟩),(43,⟨9,.struct [(0,1,false),(1,1,false),(2,1,false),(3,1,false),(4,1,false),(5,1,false),(6,1,false),(7,1,false),(8,1,false)],[.lit .i64 0,.str fun _=>noText,.lit .u8 0,.blit false,.lit .i64 0,.lit .i64 0,.lit .i64 0,.lit .u8 0,.blit false],[]⟩),(44,⟨9,.struct [(0,1,false),(1,1,false),(2,1,false),(3,1,false),(4,1,false),(5,1,false),(6,1,false),(7,1,false),(8,1,false)],[.lit .i64 0,.str fun _=>noText,.lit .u8 0,.blit false,.lit .i64 0,.lit .i64 0,.lit .i64 0,.lit .u8 0,.blit false],[.int .i64,.str,.int .u8,.bool,.int .i64,.int .i64,.int .i64,.int .u8,.bool]⟩),(45,⟨1,.slice 3 1 8,[.nil],[]⟩),(46,⟨12,.struct [(0,1,false),(1,1,false),(2,1,false),(3,1,false),(4,1,false),(5,1,false),(6,1,false),(7,1,false),(8,1,false),(9,1,false),(10,1,false),(11,1,false)],[.lit .i64 0,.lit .i64 0,.blit false,.lit .i64 0,.lit .i64 0,.lit .i64 0,.lit .i64 0,.lit .i64 0,.nil,.lit .i64 0,.lit .i64 0,.lit .i64 0],[]⟩),(47,⟨12,.struct [(0,1,false),(1,1,false),(2,1,false),(3,1,false),(4,1,false),(5,1,false),(6,1,false),(7,1,false),(8,1,false),(9,1,false),(10,1,false),(11,1,false)],[.lit .i64 0,.lit .i64 0,.blit false,.lit .i64 0,.lit .i64 0,.lit .i64 0,.lit .i64 0,.lit .i64 0,.nil,.lit .i64 0,.lit .i64 0,.lit .i64 0],[]⟩),(48,⟨4,.struct [(0,1,false),(1,1,false),(2,1,false),(3,1,false)],[.lit .i64 0,.lit .i64 0,.lit .i64 0,.lit .i64 0],[.int .i64,.int .i64,.int .i64,.int .i64]⟩),(49,⟨1,.other,[.un],[]⟩),(50,⟨1,.slice 48 4 32,[.nil],[]⟩),(51,⟨1,.other,[.un],[]⟩),(52,⟨1,.other,[.un],[]⟩),(53,⟨1,.other,[.un],[]⟩),(54,⟨2,.struct [(0,1,false),(1,1,false)],[.lit .i64 0,.lit .i64 0],[]⟩),(55,⟨2,.struct [(0,1,false),(1,1,false)],[.lit .i64 0,.lit .i64 0],[.int .i64,.int .i64]⟩),(56,⟨1,.slice 55 2 16,[.nil],[]⟩),(57,⟨1,.other,[.un],[]⟩),(58,⟨5,.struct [(0,1,false),(1,1,false),(2,1,false),(3,1,false),(4,1,false)],[.lit .i64 0,.lit .i64 0,.lit .i64 0,.lit .i64 0,.lit .i64 0],[]⟩),(59,⟨5,.struct [(0,1,false),(1,1,false),(2,1,false),(3,1,false),(4,1,false)],[.lit .i64 0,.lit .i64 0,.lit .i64 0,.lit .i64 0,.lit .i64 0],[.int .i64,.int .i64,.int .i64,.int .i64,.int .i64]⟩),(60,⟨1,.other,[.un],[]⟩),(61,⟨5,.array 5 60 1 false,[.un,.un,.un,.un,.un],[]⟩),(62,⟨1,.other,[.un],[]⟩),(63,⟨1,.int .u32,[.lit .u32 0],[]⟩),(64,⟨8,.array 8 63 1 false,[.lit .u32 0,.lit .u32 0,.lit .u32 0,.lit .u32 0,.lit .u32 0,.lit .u32 0,.lit .u32 0,.lit .u32 0],[.int .u32,.int .u32,.int .u32,.int .u32,.int .u32,.int .u32,.int .u32,.int .u32]⟩),(65,⟨17,.struct [(0,1,false),(1,8,true),(9,8,true)],[.blit false,.lit .u32 0,.lit .u32 0,.lit .u32 0,.lit .u32 0,.lit .u32 0,.lit .u32 0,.lit .u32 0,.lit .u32 0,.lit .u32 0,.lit .u32 0,.lit .u32 0,.lit .u32 0,.lit .u32 0,.lit .u32 0,.lit .u32 0,.lit .u32 0],[]⟩),(66,⟨17,.struct [(0,1,false),(1,8,true),(9,8,true)],[.blit false,.lit .u32 0,.lit .u32 0,.lit .u32 0,.lit .u32 0,.lit .u32 0,.lit .u32 0,.lit .u32 0,.lit .u32 0,.lit .u32 0,.lit .u32 0,.lit .u32 0,.lit .u32 0,.lit .u32 0,.lit .u32 0,.lit .u32 0,.lit .u32 0],[.bool,.int .u32,.int .u32,.int .u32,.int .u32,.int .u32,.int .u32,.int .u32,.int .u32,.int .u32,.int .u32,.int .u32,.int .u32,.int .u32,.int .u32,.int .u32,.int .u32]⟩),(67,⟨1,.other,[.un],[]⟩),(68,⟨34,.struct [(0,17,true),(17,17,true)],[.blit false,.lit .u32 0,.lit .u32 0,.lit .u32 0,.lit .u32 0,.lit .u32 0,.lit .u32 0,.lit .u32 0,.lit .u32 0,.lit .u32 0,.lit .u32 0,.lit .u32 0,.lit .u32 0,.lit .u32 0,.lit .u32 0,.lit .u32 0,.lit .u32 0,.blit false,.lit .u32 0,.lit .u32 0,.lit .u32 0,.lit .u32 0,.lit .u32 0,.lit .u32 0,.lit .u32 0,.lit .u32 0,.lit .u32 0,.lit .u32 0,.lit .u32 0,.lit .u32 0,.lit .u32 0,.lit .u32 0,.lit .u32 0,.lit .u32 0],[]⟩),(69,⟨34,.struct [(0,17,true),(17,17,true)],[.blit false,.lit .u32 0,.lit .u32 0,.lit .u32 0,.lit .u32 0,.lit .u32 0,.lit .u32 0,.lit .u32 0,.lit .u32 0,.lit .u32 0,.lit .u32 0,.lit .u32 0,.lit .u32 0,.lit .u32 0,.lit .u32 0,.lit .u32 0,.lit .u32 0,.blit false,.lit .u32 0,.lit .u32 0,.lit .u32 0,.lit .u32 0,.lit .u32 0,.lit .u32 0,.lit .u32 0,.lit .u32 0,.lit .u32 0,.lit .u32 0,.lit .u32 0,.lit .u32 0,.lit .u32 0,.lit .u32 0,.lit .u32 0,.lit .u32 0],[.bool,.int .u32,.int .u32,.int .u32,.int .u32,.int .u32,.int .u32,.int .u32,.int .u32,.int .u32,.int .u32,.int .u32,.int .u32,.int .u32,.int .u32,.int .u32,.int .u32,.bool,.int .u32,.int .u32,.int .u32,.int .u32,.int .u32,.int .u32,.int .u32,.int .u32,.int .u32,.int .u32,.int .u32,.int .u32,.int .u32,.int .u32,.int .u32,.int .u32]⟩),(70,⟨1,.other,[.un],[]⟩),(71,⟨1,.slice 69 34 136,[.nil],[]⟩),(72,⟨1,.other,[.un],[]⟩),(73,⟨1,.slice 232 4 4,[.nil],[]⟩),(74,⟨1,.slice 236 4 4,[.nil],[]⟩),(75,⟨1,.slice 158 6 10,[.nil],[]⟩),(76,⟨1,.slice 5 1 1,[.nil],[]⟩),(77,⟨1,.slice 160 5 10,[.nil],[]⟩),(78,⟨1,.other,[.un],[]⟩),(80,⟨1,.other,[.un],[]⟩),(82,⟨1,.other,[.un],[]⟩),(83,⟨1,.int .i64,[.lit .i64 0],[]⟩),(85,⟨1,.other,[.un],[]⟩),(87,⟨1,.other,[.un],[]⟩),(88,⟨1,.other,[.un],[]⟩),(89,⟨1,.other,[.un],[]⟩),(91,⟨1,.other,[.un],[]⟩),(92,⟨1,.other,[.un],[]⟩),(93,⟨1,.other,[.un],[]⟩),(94,⟨1,.other,[.un],[]⟩),(95,⟨1,.other,[.un],[]⟩),(96,⟨1,.other,[.un],[]⟩),(97,⟨1,.other,[.un],[]⟩),(99,⟨1,.other,[.un],[]⟩),(101,⟨1,.other,[.un],[]⟩),(102,⟨4,.struct [(0,1,false),(1,1,false),(2,1,false),(3,1,false)],[.lit .i64 0,.lit .i64 0,.lit .i64 0,.lit .i64 0],[.int .i64,.int .i64,.int .i64,.int .i64]⟩),(104,⟨1,.other,[.un],[]⟩),(105,⟨1,.other,[.un],[]⟩),(106,⟨1,.other,[.un],[]⟩),(107,⟨1,.other,[.un],[]⟩),(108,⟨1,.other,[.un],[]⟩),(109,⟨1,.other,[.un],[]⟩),(110,⟨51,.struct [(0,17,true),(17,17,true),(34,17,true)],[.blit false,.lit .u32 0,.lit .u32 0,.lit .u32 0,.lit .u32 0,.lit .u32 0,.lit .u32 0,.lit .u32 0,.lit .u32 0,.lit .u32 0,.lit .u32 0,.lit .u32 0,.lit .u32 0,.lit .u32 0,.lit .u32 0,.lit .u32 0,.lit .u32 0,.blit false,.lit .u32 0,.lit .u32 0,.lit .u32 0,.lit .u32 0,.lit .u32 0,.lit .u32 0,.lit .u32 0,.lit .u32 0,.lit .u32 0,.lit .u32 0,.lit .u32 0,.lit .u32 0,.lit .u32 0,.lit .u32 0,.lit .u32 0,.lit .u32 0,.blit false,.lit .u32 0,.lit .u32 0,.lit .u32 0,.lit .u32 0,.lit .u32 0,.lit .u32 0,.lit .u32 0,.lit .u32 0,.lit .u32 0,.lit .u32 0,.lit .u32 0,.lit .u32 0,.lit .u32 0,.lit .u32 0,.lit .u32 0,.lit .u32 0],[]⟩),(111,⟨51,.struct [(0,17,true),(17,17,true),(34,17,true)],[.blit false,.lit .u32 0,.lit .u32 0,.lit .u32 0,.lit .u32 0,.lit .u32 0,.lit .u32 0,.lit .u32 0,.lit .u32 0,.lit .u32 0,.lit .u32 0,.lit .u32 0,.lit .u32 0,.lit .u32 0,.lit .u32 0,.lit .u32 0,.lit .u32 0,.blit false,.lit .u32 0,.lit .u32 0,.lit .u32 0,.lit .u32 0,.lit .u32 0,.lit .u32 0,.lit .u32 0,.lit .u32 0,.lit .u32 0,.lit .u32 0,.lit .u32 0,.lit .u32 0,.lit .u32 0,.lit .u32 0,.lit .u32 0,.lit .u32 0,.blit false,.lit .u32 0,.lit .u32 0,.lit .u32 0,.lit .u32 0,.lit .u32 0,.lit .u32 0,.lit .u32 0,.lit .u32 0,.lit .u32 0,.lit .u32 0,.lit .u32 0,.lit .u32 0,.lit .u32 0,.lit .u32 0,.lit .u32 0,.lit .u32 0],[.bool,.int .u32,.int .u32,.int .u32,.int .u32,.int .u32,.int .u32,.int .u32,.int .u32,.int .u32,.int .u32,.int .u32,.int .u32,.int .u32,.int .u32,.int .u32,.int .u32,.bool,.int .u32,.int .u32,.int .u32,.int .u32,.int .u32,.int .u32,.int .u32,.int .u32,.int .u32,.int .u32,.int .u32,.int .u32,.int .u32,.int .u32,.int .u32,.int .u32,.bool,.int .u32,.int .u32,.int .u32,.int .u32,.int .u32,.int .u32,.int .u32,.int .u32,.int .u32,.int .u32,.int .u32,.int .u32,.int .u32,.int .u32,.int .u32,.int .u32]⟩),(113,⟨1,.other,[.un],[]⟩),(114,⟨1,.other,[.un],[]⟩),(115,⟨1,.slice 102 4 32,[.nil],[]⟩),(116,⟨1,.other,[.un],[]⟩),(117,⟨1,.other,[.un],[]⟩),(118,⟨1,.other,[.un],[]⟩),(119,⟨1,.other,[.un],[]⟩),(120,⟨1,.other,[.un],[]⟩),(121,⟨1,.slice 128 2 16,[.nil],[]⟩),(123,⟨1,.other,[.un],[]⟩),(124,⟨1,.slice 141 34 136,[.nil],[]⟩),(126,⟨1,.other,[.un],[]⟩),(127,⟨1,.other,[.un],[]⟩),(128,⟨2,.struct [(0,1,false),(1,1,false)],[.lit .i64 0,.lit .i64 0],[.int .i64,.int .i64]⟩),(129,⟨1,.other,[.un],[]⟩),(130,⟨136,.array 4 69 34 true,[.blit false,.lit .u32 0,.lit .u32 0,.lit .u32 0,.lit .u32 0,.lit .u32 0,.lit .u32 0,.lit .u32 0,.lit .u32 0,.lit .u32 0,.lit .u32 0,.lit .u32 0,.lit .u32 0,.lit .u32 0,.lit .u32 0,.lit .u32 0,.lit .u32 0,.blit false,.lit .u32 0,.lit .u32 0,.lit .u32 0,.lit .u32 0,.lit .u32 0,.lit .u32 0,.lit .u32 0,.lit .u32 0,.lit .u32 0,.lit .u32 0,.lit .u32 0,.lit .u32 0,.lit .u32 0,.lit .u32 0,.lit .u32 0,.lit .u32 0,.blit false,.lit .u32 0,.lit .u32 0,.lit .u32 0,.lit .u32 0,.lit .u32 0,.lit .u32 0,.lit .u32 0,.lit .u32 0,.lit .u32 0,.lit .u32 0,.lit .u32 0,.lit .u32 0,.lit .u32 0,.lit .u32 0,.lit .u32 0,.lit .u32 0,.blit false,.lit .u32 0,.lit .u32 0,.lit .u32 0,.lit .u32 0,.lit .u32 0,.lit .u32 0,.lit .u32 0,.lit .u32 0,.lit .u32 0,.lit .u32 0,.lit .u32 0,.lit .u32 0,.lit .u32 0,.lit .u32 0,.lit .u32 0,.lit .u32 0,.blit false,.lit .u32 0,.lit .u32 0,.lit .u32 0,.lit .u32 0,.lit .u32 0,.lit .u32 0,.lit .u32 0,.lit .u32 0,.lit .u32 0,.lit .u32 0,.lit .u32 0,.lit .u32 0,.lit .u32 0,.lit .u32 0,.lit .u32 0,.lit .u32 0,.blit false,.lit .u32 0,.lit .u32 0,.lit .u32 0,.lit .u32 0,.lit .u32 0,.lit .u32 0,.lit .u32 0,.lit .u32 0,.lit .u32 0,.lit .u32 0,.lit .u32 0,.lit .u32 0,.lit .u32 0,.lit .u32 0,.lit .u32 0,.lit .u32 0,.blit false,.lit .u32 0,.lit .u32 0,.lit .u32 0,.lit .u32 0,.lit .u32 0,.lit .u32 0,.lit .u32 0,.lit .u32 0,.lit .u32 0,.lit .u32 0,.lit .u32 0,.lit .u32 0,.lit .u32 0,.lit .u32 0,.lit .u32 0,.lit .u32 0,.blit false,.lit .u32 0,.lit .u32 0,.lit .u32 0,.lit .u32 0,.lit .u32 0,.lit .u32 0,.lit .u32 0,.lit .u32 0,.lit .u32 0,.lit .u32 0,.lit .u32 0,.lit .u32 0,.lit .u32 0,.lit .u32 0,.lit .u32 0,.lit .u32 0],[]⟩),(132,⟨1,.other,[.un],[]⟩),(133,⟨1,.other,[.un],[]⟩),(134,⟨1,.other,[.un],[]⟩),(135,⟨1,.other,[.un],[]⟩),(137,⟨1,.other,[.un],[]⟩),(138,⟨1,.other,[.un],[]⟩),(139,⟨17,.struct [(0,1,false),(1,8,true),(9,8,true)],[.blit false,.lit .u32 0,.lit .u32 0,.lit .u32 0,.lit .u32 0,.lit .u32 0,.lit .u32 0,.lit .u32 0,.lit .u32 0,.lit .u32 0,.lit .u32 0,.lit .u32 0,.lit .u32 0,.lit .u32 0,.lit .u32 0,.lit .u32 0,.lit .u32 0],[.bool,.int .u32,.int .u32,.int .u32,.int .u32,.int .u32,.int .u32,.int .u32,.int .u32,.int .u32,.int .u32,.int .u32,.int .u32,.int .u32,.int .u32,.int .u32,.int .u32]⟩),(140,⟨34,.struct [(0,17,true),(17,17,true)],[.blit false,.lit .u32 0,.lit .u32 0,.lit .u32 0,.lit .u32 0,.lit .u32 0,.lit .u32 0,.lit .u32 0,.lit .u32 0,.lit .u32 0,.lit .u32 0,.lit .u32 0,.lit .u32 0,.lit .u32 0,.lit .u32 0,.lit .u32 0,.lit .u32 0,.blit false,.lit .u32 0,.lit .u32 0,.lit .u32 0,.lit .u32 0,.lit .u32 0,.lit .u32 0,.lit .u32 0,.lit .u32 0,.lit .u32 0,.lit .u32 0,.lit .u32 0,.lit .u32 0,.lit .u32 0,.lit .u32 0,.lit .u32 0,.lit .u32 0],[]⟩),(141,⟨34,.struct [(0,17,true),(17,17,true)],[.blit false,.lit .u32 0,.lit .u32 0,.lit .u32 0,.lit .u32 0,.lit .u32 0,.lit .u32 0,.lit .u32 0,.lit .u32 0,.lit .u32 0,.lit .u32 0,.lit .u32 0,.lit .u32 0,.lit .u32 0,.lit .u32 0,.lit .u32 0,.lit .u32 0,.blit false,.lit .u32 0,.lit .u32 0,.lit .u32 0,.lit .u32 0,.lit .u32 0,.lit .u32 0,.lit .u32 0,.lit .u32 0,.lit .u32 0,.lit .u32 0,.lit .u32 0,.lit .u32 0,.lit .u32 0,.lit .u32 0,.lit .u32 0,.lit .u32 0],[.bool,.int .u32,.int .u32,.int .u32,.int .u32,.int .u32,.int .u32,.int .u32,.int .u32,.int .u32,.int .u32,.int .u32,.int .u32,.int .u32,.int .u32,.int .u32,.int .u32,.bool,.int .u32,.int .u32,.int .u32,.int .u32,.int .u32,.int .u32,.int .u32,.int .u32,.int .u32,.int .u32,.int .u32,.int .u32,.int .u32,.int .u32,.int .u32,.int .u32]⟩),(143,⟨1,.other,[.un],[]⟩),(144,⟨1,.slice 63 1 4,[.nil],[]⟩),(145,⟨1,.slice 63 1 4,[.nil],[]⟩),(146,⟨1,.other,[.un],[]⟩),(147,⟨1,.other,[.un],[]⟩),(148,⟨1,.int .u64,[.lit .u64 0],[]⟩),(149,⟨1,.other,[.un],[]⟩),(150,⟨6,.struct [(0,1,false),(1,1,false),(2,1,false),(3,1,false),(4,1,false),(5,1,false)],[.lit .i64 0,.lit .i64 0,.lit .i64 0,.lit .i64 0,.lit .i64 0,.nil],[]⟩),(151,⟨6,.struct [(0,1,false),(1,1,false),(2,1,false),(3,1,false),(4,1,false),(5,1,false)],[.lit .i64 0,.lit .i64 0,.lit .i64 0,.lit .i64 0,.lit .i64 0,.nil],[]⟩),(152,⟨1,.other,[.un],[]⟩),(154,⟨1,.other,[.un],[]⟩),(155,⟨1,.int .i16,[.lit .i16 0],[]⟩),(156,⟨1,.int .u16,[.lit .u16 0],[]⟩),(157,⟨6,.struct [(0,1,false),(1,1,false),(2,1,false),(3,1,false),(4,1,false),(5,1,false)],[.lit .u8 0,.lit .u8 0,.lit .i16 0,.lit .i16 0,.lit .i16 0,.lit .u16 0],[]⟩),(158,⟨6,.struct [(0,1,false),(1,1,false),(2,1,false),(3,1,false),(4,1,false),(5,1,false)],[.lit .u8 0,.lit .u8 0,.lit .i16 0,.lit .i16 0,.lit .i16 0,.lit .u16 0],[.int .u8,.int .u8,.int .i16,.int .i16,.int .i16,.int .u16]⟩),(159,⟨5,.struct [(0,1,false),(1,1,false),(2,1,false),(3,1,false),(4,1,false)],[.lit .u16 0,.lit .u16 0,.lit .u16 0,.lit .u16 0,.lit .u8 0],[]⟩),(160,⟨5,.struct [(0,1,false),(1,1,false),(2,1,false),(3,1,false),(4,1,false)],[.lit .u16 0,.lit .u16 0,.lit .u16 0,.lit .u16 0,.lit .u8 0],[.int .u16,.int .u16,.int .u16,.int .u16,.int .u8]⟩),(161,⟨1,.other,[.un],[]⟩),(162,⟨1,.other,[.un],[]⟩),(163,⟨1,.map 3 3 (.one (.int .i64)) .int false,[.un],[]⟩),(164,⟨3,.array 3 3 1 false,[.lit .i64 0,.lit .i64 0,.lit .i64 0],[.int .i64,.int .i64,.int .i64]⟩),(165,⟨1,.slice 169 12 88,[.nil],[]⟩),(167,⟨1,.other,[.un],[]⟩),(168,⟨12,.struct [(0,9,true),(9,1,false),(10,1,false),(11,1,false)],[.lit .i64 0,.str fun _=>noText,.lit .u8 0,.blit false,.lit .i64 0,.lit .i64 0,.lit .i64 0,.lit .u8 0,.blit false,.lit .i64 0,.lit .i64 0,.lit .i64 0],[]⟩),(169,⟨12,.struct [(0,9,true),(9,1,false),(10,1,false),(11,1,false)],[.lit .i64 0,.str fun _=>noText,.lit .u8 0,.blit false,.lit .i64 0,.lit .i64 0,.lit .i64 0,.lit .u8 0,.blit false,.lit .i64 0,.lit .i64 0,.lit .i64 0],[.int .i64,.str,.int .u8,.bool,.int .i64,.int .i64,.int .i64,.int .u8,.bool,.int .i64,.int .i64,.int .i64]⟩),(170,⟨1,.other,[.un],[]⟩),(171,⟨1,.other,[.un],[]⟩),(172,⟨1,.other,[.un],[]⟩),(173,⟨1,.other,[.un],[]⟩),(174,⟨1,.other,[.un],[]⟩),(175,⟨1,.other,[.un],[]⟩),(176,⟨1,.other,[.un],[]⟩),(177,⟨1,.slice 181 6 48,[.nil],[]⟩),(179,⟨1,.other,[.un],[]⟩),(180,⟨6,.array 6 3 1 false,[.lit .i64 0,.lit .i64 0,.lit .i64 0,.lit .i64 0,.lit .i64 0,.lit .i64 0],[.int .i64,.int .i64,.int .i64,.int .i64,.int .i64,.int .i64]⟩),(181,⟨6,.array 6 3 1 false,[.lit .i64 0,.lit .i64 0,.lit .i64 0,.lit .i64 0,.lit .i64 0,.lit .i64 0],[.int .i64,.int .i64,.int .i64,.int .i64,.int .i64,.int .i64]⟩),(182,⟨1,.other,[.un],[]⟩),(183,⟨1,.other,[.un],[]⟩),(184,⟨1,.other,[.un],[]⟩),(185,⟨2,.struct [(0,1,false),(1,1,false)],[.lit .i64 0,.nil],[]⟩),(186,⟨2,.struct [(0,1,false),(1,1,false)],[.lit .i64 0,.nil],[]⟩),(187,⟨1,.other,[.un],[]⟩),(188,⟨1,.other,[.un],[]⟩),(189,⟨1,.other,[.un],[]⟩),(190,⟨1,.other,[.un],[]⟩),(191,⟨1,.other,[.un],[]⟩),(192,⟨1,.other,[.un],[]⟩),(193,⟨1,.other,[.un],[]⟩),(194,⟨1,.other,[.un],[]⟩),(196,⟨1,.other,[.un],[]⟩),(198,⟨1,.other,[.un],[]⟩),(199,⟨1,.other,[.un],[]⟩),(200,⟨1,.other,[.un],[]⟩),(201,⟨1,.other,[.un],[]⟩),(202,⟨1,.other,[.un],[]⟩),(203,⟨1,.other,[.un],[]⟩),(204,⟨1,.other,[.un],[]⟩),(205,⟨51,.struct [(0,17,true),(17,17,true),(34,17,true)],[.blit false,.lit .u32 0,.lit .u32 0,.lit .u32 0,.lit .u32 0,.lit .u32 0,.lit .u32 0,.lit .u32 0,.lit .u32 0,.lit .u32 0,.lit .u32 0,.lit .u32 0,.lit .u32 0,.lit .u32 0,.lit .u32 0,.lit .u32 0,.lit .u32 0,.blit false,.lit .u32 0,.lit .u32 0,.lit .u32 0,.lit .u32 0,.lit .u32 0,.lit .u32 0,.lit .u32 0,.lit .u32 0,.lit .u32 0,.lit .u32 0,.lit .u32 0,.lit .u32 0,.lit .u32 0,.lit .u32 0,.lit .u32 0,.lit .u32 0,.blit false,.lit .u32 0,.lit .u32 0,.lit .u32 0,.lit .u32 0,.lit .u32 0,.lit .u32 0,.lit .u32 0,.lit .u32 0,.lit .u32 0,.lit .u32 0,.lit .u32 0,.lit .u32 0,.lit .u32 0,.lit .u32 0,.lit .u32 0,.lit .u32 0],[]⟩),(206,⟨51,.struct [(0,17,true),(17,17,true),(34,17,true)],[.blit false,.lit .u32 0,.lit .u32 0,.lit .u32 0,.lit .u32 0,.lit .u32 0,.lit .u32 0,.lit .u32 0,.lit .u32 0,.lit .u32 0,.lit .u32 0,.lit .u32 0,.lit .u32 0,.lit .u32 0,.lit .u32 0,.lit .u32 0,.lit .u32 0,.blit false,.lit .u32 0,.lit .u32 0,.lit .u32 0,.lit .u32 0,.lit .u32 0,.lit .u32 0,.lit .u32 0,.lit .u32 0,.lit .u32 0,.lit .u32 0,.lit .u32 0,.lit .u32 0,.lit .u32 0,.lit .u32 0,.lit .u32 0,.lit .u32 0,.blit false,.lit .u32 0,.lit .u32 0,.lit .u32 0,.lit .u32 0,.lit .u32 0,.lit .u32 0,.lit .u32 0,.lit .u32 0,.lit .u32 0,.lit .u32 0,.lit .u32 0,.lit .u32 0,.lit .u32 0,.lit .u32 0,.lit .u32 0,.lit .u32 0],[.bool,.int .u32,.int .u32,.int .u32,.int .u32,.int .u32,.int .u32,.int .u32,.int .u32,.int .u32,.int .u32,.int .u32,.int .u32,.int .u32,.int .u32,.int .u32,.int .u32,.bool,.int .u32,.int .u32,.int .u32,.int .u32,.int .u32,.int .u32,.int .u32,.int .u32,.int .u32,.int .u32,.int .u32,.int .u32,.int .u32,.int .u32,.int .u32,.int .u32,.bool,.int .u32,.int .u32,.int .u32,.int .u32,.int .u32,.int .u32,.int .u32,.int .u32,.int .u32,.int .u32,.int .u32,.int .u32,.int .u32,.int .u32,.int .u32,.int .u32]⟩),(208,⟨1,.other,[.un],[]⟩),(209,⟨1,.other,[.un],[]⟩),(210,⟨1,.other,[.un],[]⟩),(211,⟨1,.other,[.un],[]⟩),(212,⟨1,.other,[.un],[]⟩),(213,⟨1,.other,[.un],[]⟩),(214,⟨1,.other,[.un],[]⟩),(215,⟨1,.other,[.un],[]⟩),(217,⟨1,.other,[.un],[]⟩),(218,⟨1,.slice 139 17 68,[.nil],[]⟩),(219,⟨1,.other,[.un],[]⟩),(220,⟨1,.other,[.un],[]⟩),(221,⟨1,.other,[.un],[]⟩),(222,⟨1,.other,[.un],[]⟩),(223,⟨1,.other,[.un],[]⟩),(224,⟨1,.other,[.un],[]⟩),(225,⟨1,.other,[.un],[]⟩),(226,⟨1,.other,[.un],[]⟩),(228,⟨1,.other,[.un],[]⟩),(229,⟨1,.other,[.un],[]⟩),(230,⟨1,.int .u64,[.lit .u64 0],[]⟩),(231,⟨4,.struct [(0,1,false),(1,1,false),(2,1,false),(3,1,false)],[.lit .u8 0,.lit .u8 0,.lit .u8 0,.blit false],[]⟩),(232,⟨4,.struct [(0,1,false),(1,1,false),(2,1,false),(3,1,false)],[.lit .u8 0,.lit .u8 0,.lit .u8 0,.blit false],[.int .u8,.int .u8,.int .u8,.bool]⟩),(234,⟨1,.other,[.un],[]⟩),(235,⟨4,.struct [(0,1,false),(1,1,false),(2,1,false),(3,1,false)],[.lit .u8 0,.lit .u8 0,.blit false,.blit false],[]⟩),(236,⟨4,.struct [(0,1,false),(1,1,false),(2,1,false),(3,1,false)],[.lit .u8 0,.lit .u8 0,.blit false,.blit false],[.int .u8,.int .u8,.bool,.bool]⟩),(237,⟨1,.slice 40 3 24,[.nil],[]⟩),(238,⟨1,.other,[.un],[]⟩),(239,⟨1,.other,[.un],[]⟩),(241,⟨1,.other,[.un],[]⟩),(242,⟨1,.other,[.un],[]⟩),(243,⟨1,.other,[.un],[]⟩),(244,⟨1,.map 245 3 (.arr 2 (.int .i64)) .int false,[.un],[]⟩),(245,⟨2,.array 2 3 1 false,[.lit .i64 0,.lit .i64 0],[.int .i64,.int .i64]⟩),(246,⟨1,.other,[.un],[]⟩),(247,⟨1,.other,[.un],[]⟩),(248,⟨1,.other,[.un],[]⟩),(249,⟨1,.other,[.un],[]⟩),(250,⟨1,.other,[.un],[]⟩),(251,⟨1,.other,[.un],[]⟩),(252,⟨1,.other,[.un],[]⟩),(253,⟨1,.other,[.un],[]⟩),(254,⟨1,.other,[.un],[]⟩),(255,⟨1,.other,[.un],[]⟩),(256,⟨1,.other,[.un],[]⟩),(257,⟨1,.other,[.un],[]⟩),(258,⟨5,.struct [(0,1,false),(1,1,false),(2,1,false),(3,1,false),(4,1,false)],[.lit .i64 0,.lit .i64 0,.lit .i64 0,.lit .i64 0,.lit .i64 0],[]⟩),(259,⟨5,.struct [(0,1,false),(1,1,false),(2,1,false),(3,1,false),(4,1,false)],[.lit .i64 0,.lit .i64 0,.lit .i64 0,.lit .i64 0,.lit .i64 0],[.int .i64,.int .i64,.int .i64,.int .i64,.int .i64]⟩),(260,⟨1,.other,[.un],[]⟩),(261,⟨1,.other,[.un],[]⟩),(262,⟨1,.other,[.un],[]⟩),(264,⟨1,.other,[.un],[]⟩),(265,⟨1,.other,[.un],[]⟩),(266,⟨1,.other,[.un],[]⟩),(267,⟨1,.other,[.un],[]⟩),(269,⟨1,.other,[.un],[]⟩),(270,⟨1,.other,[.un],[]⟩),(271,⟨1,.other,[.un],[]⟩),(272,⟨1,.other,[.un],[]⟩),(273,⟨1,.other,[.un],[]⟩),(274,⟨1,.other,[.un],[]⟩),(275,⟨1,.other,[.un],[]⟩),(276,⟨1,.other,[.un],[]⟩),(277,⟨1,.other,[.un],[]⟩),(278,⟨1,.other,[.un],[]⟩),(279,⟨1,.other,[.un],[]⟩),(280,⟨1,.other,[.un],[]⟩),(281,⟨1,.other,[.un],[]⟩),(282,⟨1,.other,[.un],[]⟩),(283,⟨1,.other,[.un],[]⟩),(284,⟨1,.other,[.un],[]⟩),(285,⟨1,.other,[.un],[]⟩),(286,⟨1,.other,[.un],[]⟩),(287,⟨1,.other,[.un],[]⟩),(288,⟨1,.other,[.un],[]⟩),(289,⟨1,.other,[.un],[]⟩),(290,⟨1,.other,[.un],[]⟩),(291,⟨1,.other,[.un],[]⟩),(292,⟨1,.other,[.un],[]⟩),(293,⟨1,.other,[.un],[]⟩),(294,⟨1,.map 9 3 (.one .str) .int false,[.un],[]⟩),(295,⟨1,.other,[.un],[]⟩),(296,⟨1,.other,[.un],[]⟩),(297,⟨1,.other,[.un],[]⟩),(298,⟨1,.other,[.un],[]⟩),(299,⟨1,.other,[.un],[]⟩),(300,⟨1,.other,[.un],[]⟩),(301,⟨1,.other,[.un],[]⟩),(303,⟨1,.other,[.un],[]⟩),(304,⟨1,.other,[.un],[]⟩),(305,⟨1,.other,[.un],[]⟩),(306,⟨1,.other,[.un],[]⟩),(307,⟨1,.other,[.un],[]⟩),(308,⟨1,.other,[.un],[]⟩),(309,⟨1,.map 164 3 (.arr 3 (.int .i64)) .int false,[.un],[]⟩),(310,⟨1,.other,[.un],[]⟩),(311,⟨1,.other,[.un],[]⟩),(312,⟨1,.other,[.un],[]⟩),(313,⟨1,.other,[.un],[]⟩),(314,⟨1,.other,[.un],[]⟩),(315,⟨1,.other,[.un],[]⟩),(316,⟨1,.other,[.un],[]⟩),(317,⟨1,.other,[.un],[]⟩),(318,⟨1,.other,[.un],[]⟩),(319,⟨1,.slice 36 1 8,[.nil],[]⟩),(320,⟨1,.other,[.un],[]⟩),(321,⟨1,.other,[.un],[]⟩),(322,⟨1,.other,[.un],[]⟩),(323,⟨1,.other,[.un],[]⟩),(324,⟨1,.other,[.un],[]⟩),(325,⟨1,.other,[.un],[]⟩),(327,⟨1,.other,[.un],[]⟩),(328,⟨1,.other,[.un],[]⟩),(329,⟨1,.other,[.un],[]⟩),(330,⟨1,.other,[.un],[]⟩),(331,⟨1,.slice 333 3 24,[.nil],[]⟩),(332,⟨3,.struct [(0,1,false),(1,1,false),(2,1,false)],[.lit .i64 0,.lit .i64 0,.lit .i64 0],[]⟩),(333,⟨3,.struct [(0,1,false),(1,1,false),(2,1,false)],[.lit .i64 0,.lit .i64 0,.lit .i64 0],[.int .i64,.int .i64,.int .i64]⟩),(334,⟨1,.other,[.un],[]⟩),(335,⟨1,.other,[.un],[]⟩),(336,⟨1,.other,[.un],[]⟩),(337,⟨1,.other,[.un],[]⟩),(338,⟨1,.other,[.un],[]⟩),(339,⟨1,.other,[.un],[]⟩),(340,⟨1,.other,[.un],[]⟩),(341,⟨11,.array 11 312 1 false,[.un,.un,.un,.un,.un,.un,.un,.un,.un,.un,.un],[]⟩),(342,⟨1,.other,[.un],[]⟩),(343,⟨1,.other,[.un],[]⟩),(344,⟨1,.other,[.un],[]⟩),(345,⟨4,.struct [(0,1,false),(1,1,false),(2,1,false),(3,1,false)],[.un,.un,.un,.str fun _=>noText],[]⟩),(347,⟨0,.array 0 16 1 false,[],[]⟩),(348,⟨0,.struct [(0,0,true)],[],[]⟩),(350,⟨1,.other,[.un],[]⟩),(353,⟨1,.other,[.un],[]⟩),(354,⟨1,.other,[.un],[]⟩),(357,⟨11,.struct [(0,1,false),(1,1,false),(2,1,false),(3,1,false),(4,1,false),(5,1,false),(6,1,false),(7,1,false),(8,1,false),(9,1,false),(10,1,false)],[.lit .u64 0,.lit .u64 0,.lit .u32 0,.lit .u8 0,.lit .u8 0,.lit .u8 0,.lit .u8 0,.un,.un,.lit .i32 0,.lit .i32 0],[]⟩)]
set_option maxRecDepth 100000 in
theorem tyTab_all:tyTab.all (fun p=>tyB Tryz.prog p.1 p.2)=true:=by kernel_rfl
theorem alook_mem {α:Type}:∀ {l:List (Nat × α)} {k:Nat} {x : α},alook l k=some x->(k,x)∈l
 | (j,y)::l,k,x,h=>by
  rw [alook_cons] at h;split at h
  . rename_i hk;subst hk;cases h;exact .head _
  . exact .tail _ (alook_mem h)
theorem tyOk_of {P:Program} {tb:Tab} (h:tb.all (fun p=>tyB P p.1 p.2)=true):TyOk P tb:=fun _ _ hl=>List.all_eq_true.1 h _ (alook_mem hl)
theorem ty_ok:TyOk Tryz.prog tyTab:=tyOk_of tyTab_all
def tcTab:List (Nat×Tc) := [(3,.int),(5,.u8),(40,.slot),(42,.stowed),(44,.box),(47,.col),(48,.ld),(59,.frm),(63,.u32),(83,.int),(102,.ld),(151,.tnk),(169,.mid),(186,.cov),(232,.plc),(236,.drp),(259,.hrow),(333,.spn)]
open Go.RowKit
def AllOk:List Con->Prop
 | []=>True
 | c::cs=>ConOk Tryz.prog c/\AllOk cs
theorem AllOk.mem:∀ {cs:List Con},AllOk cs->∀ c∈cs,ConOk Tryz.prog c
 | [],_,c,hc=>by cases hc
 | d::cs,h,c,hc=>by
  rcases List.mem_cons.1 hc with rfl|hc
  . exact h.1
  . exact AllOk.mem h.2 c hc
def FonsOk:List Fon->Prop
 | []=>True
 | c::cs=>FonOk Tryz.prog c/\FonsOk cs
theorem FonsOk.mem:∀ {cs:List Fon},FonsOk cs->∀ c∈cs,FonOk Tryz.prog c
 | [],_,c,hc=>by cases hc
 | d::cs,h,c,hc=>by
  rcases List.mem_cons.1 hc with rfl|hc
  . exact h.1
  . exact FonsOk.mem h.2 c hc
def cxf (cs:List Con) (fs:List Fon) (fz:List (Nat×List Nat)) (fx:Bool) (nb:Nat:=0):Cx := { ty:=tyTab,cs:=cs,tc:=tcTab,fs:=fs,fz:=fz,fx:=fx,nb:=nb }
def cxz (cs:List Con) (fs:List Fon) (fz:List (Nat×List Nat)):Cx:=cxf cs fs fz false
def cx (cs:List Con) (fs:List Fon):Cx:=cxz cs fs []
def cxk (cs:List Con) (fs:List Fon) (fz kp:List (Nat×List Nat)) (sc:List (Nat×Sch)) (ul:List Nat):Cx := { ty:=tyTab,cs:=cs,tc:=tcTab,fs:=fs,fz:=fz,kp:=kp,sc:=sc,ul:=ul }
structure Opt where
 fz:List (Nat×List Nat) := []
 kp:List (Nat×List Nat) := []
 sc:List (Nat×Sch) := []
 ul:List Nat := []
 jn:List (Nat×List Nat) := []
 tc:List (Nat×Tc) := []
 lt:List (Nat×Lat) := []
 ct:List Nat := []
def cxo (o:Opt) (cs:List Con) (fs:List Fon) (fx:Bool) (nb:Nat:=0):Cx:=⟨tyTab,cs,o.tc++tcTab,fs,o.fz,fx,o.kp,o.sc,o.ul,o.jn,o.lt,nb,o.ct⟩
theorem fnOkO (o : Opt) {c : Con} {fn : Func} (cs : List Con) (hcs : AllOk cs) (fs : List Fon) (hfs : FonsOk fs) (hf : Tryz.prog.funcs[c.f]? = some fn) (hb : (fn.body.isNone || fn.name == "runtime.NumGoroutine" || !codeOk (efs fs) o.sc o.lt fn.ntmps (bodyOf fn)) = false)
 (h:∀ avs res,c.go avs=some res->res.pre ()->∃ Ls,(fnF (cxo o cs fs false) Ls fn avs res.av).P):ConOk Tryz.prog c:=by
 simp only [Bool.or_eq_false_iff,Bool.not_eq_false'] at hb;exact conOk_of (C:=cxo o cs fs false) ty_ok ⟨hcs.mem,hfs.mem⟩ (by kernel_rfl) hf hb.1.1 hb.1.2 hb.2 h
theorem fonOkO (o : Opt) {c : Fon} {fn : Func} (cs : List Con) (hcs : AllOk cs) (fs : List Fon) (hfs : FonsOk fs) (hf : Tryz.prog.funcs[c.f]? = some fn) (hb : (fn.body.isNone || fn.name == "runtime.NumGoroutine" || !codeOk (efs fs) o.sc o.lt fn.ntmps (bodyOf fn)) = false)
 (h:∀ avs es res,c.go avs es=some res->res.pre ()->∃ Ls,(fnG (cxo o cs fs c.fix c.n) Ls fn avs es c.n res.av res.es).P):FonOk Tryz.prog c:=by
 simp only [Bool.or_eq_false_iff,Bool.not_eq_false'] at hb;exact fonOk_of (C:=cxo o cs fs c.fix c.n) rfl ty_ok ⟨hcs.mem,hfs.mem⟩ (by kernel_rfl) hf hb.1.1 hb.1.2 hb.2 h
theorem fnOkK (fz kp : List (Nat × List Nat)) (sc : List (Nat × Sch)) {c : Con} {fn : Func} (cs : List Con) (hcs : AllOk cs) (fs : List Fon) (hfs : FonsOk fs) (hf : Tryz.prog.funcs[c.f]? = some fn) (hb : (fn.body.isNone || fn.name == "runtime.NumGoroutine" || !codeOk (efs fs) sc [] fn.ntmps (bodyOf fn)) = false)
 (h:∀ avs res,c.go avs=some res->res.pre ()->∃ Ls,(fnF (cxk cs fs fz kp sc []) Ls fn avs res.av).P):ConOk Tryz.prog c:=by
 simp only [Bool.or_eq_false_iff,Bool.not_eq_false'] at hb;exact conOk_of (C:=cxk cs fs fz kp sc []) ty_ok ⟨hcs.mem,hfs.mem⟩ (by kernel_rfl) hf hb.1.1 hb.1.2 hb.2 h
theorem fnOkZ (fz : List (Nat × List Nat)) {c : Con} {fn : Func} (cs : List Con) (hcs : AllOk cs) (fs : List Fon) (hfs : FonsOk fs) (hf : Tryz.prog.funcs[c.f]? = some fn) (hb : (fn.body.isNone || fn.name == "runtime.NumGoroutine" || !codeOk (efs fs) [] [] fn.ntmps (bodyOf fn)) = false)
 (h:∀ avs res,c.go avs=some res->res.pre ()->∃ Ls,(fnF (cxz cs fs fz) Ls fn avs res.av).P):ConOk Tryz.prog c:=by
 simp only [Bool.or_eq_false_iff,Bool.not_eq_false'] at hb;exact conOk_of (C:=cxz cs fs fz) ty_ok ⟨hcs.mem,hfs.mem⟩ (by kernel_rfl) hf hb.1.1 hb.1.2 hb.2 h
theorem fnOkF {c : Con} {fn : Func} (cs : List Con) (hcs : AllOk cs) (fs : List Fon) (hfs : FonsOk fs) (hf : Tryz.prog.funcs[c.f]? = some fn) (hb : (fn.body.isNone || fn.name == "runtime.NumGoroutine" || !codeOk (efs fs) [] [] fn.ntmps (bodyOf fn)) = false)
 (h:∀ avs res,c.go avs=some res->res.pre ()->∃ Ls,(fnF (cx cs fs) Ls fn avs res.av).P):ConOk Tryz.prog c:=fnOkZ [] cs hcs fs hfs hf hb h
theorem fnOk {c : Con} {fn : Func} (cs : List Con) (hcs : AllOk cs) (hf : Tryz.prog.funcs[c.f]? = some fn) (hb : (fn.body.isNone || fn.name == "runtime.NumGoroutine" || !codeOk [] [] [] fn.ntmps (bodyOf fn)) = false)
 (h:∀ avs res,c.go avs=some res->res.pre ()->∃ Ls,(fnF (cx cs []) Ls fn avs res.av).P):ConOk Tryz.prog c:=fnOkF cs hcs [] trivial hf hb h
theorem fonOkZ (fz : List (Nat × List Nat)) {c : Fon} {fn : Func} (cs : List Con) (hcs : AllOk cs) (fs : List Fon) (hfs : FonsOk fs) (hf : Tryz.prog.funcs[c.f]? = some fn) (hb : (fn.body.isNone || fn.name == "runtime.NumGoroutine" || !codeOk (efs fs) [] [] fn.ntmps (bodyOf fn)) = false)
 (h:∀ avs es res,c.go avs es=some res->res.pre ()->∃ Ls,(fnG (cxf cs fs fz c.fix c.n) Ls fn avs es c.n res.av res.es).P):FonOk Tryz.prog c:=by
 simp only [Bool.or_eq_false_iff,Bool.not_eq_false'] at hb;exact fonOk_of (C:=cxf cs fs fz c.fix c.n) rfl ty_ok ⟨hcs.mem,hfs.mem⟩ (by kernel_rfl) hf hb.1.1 hb.1.2 hb.2 h
theorem fonOk {c : Fon} {fn : Func} (cs : List Con) (hcs : AllOk cs) (fs : List Fon) (hfs : FonsOk fs) (hf : Tryz.prog.funcs[c.f]? = some fn) (hb : (fn.body.isNone || fn.name == "runtime.NumGoroutine" || !codeOk (efs fs) [] [] fn.ntmps (bodyOf fn)) = false)
 (h:∀ avs es res,c.go avs es=some res->res.pre ()->∃ Ls,(fnG (cxf cs fs [] c.fix c.n) Ls fn avs es c.n res.av res.es).P):FonOk Tryz.prog c:=fonOkZ [] cs hcs fs hfs hf hb h
theorem nameIt {α:Type} {G:Prop} (e : α) (h:∀ x,e=x->G):G:=h e rfl
theorem P_vc (l:List VC) (A:Fm):(Fm.vc l A).P=(allVC l/\A.P):=rfl
theorem P_br (c:Unit->Bool) (A B:Fm):(Fm.br c A B).P=((c ()=true->A.P)/\(c ()=false->B.P)):=rfl
theorem P_fin (l:List VC):(Fm.fin l).P=allVC l:=rfl
theorem P_and (A B:Fm):(Fm.and A B).P=(A.P/\B.P):=rfl
theorem T_self (F:Tc->Type) {t:Tc} (h:t=t) (x:F t):toT F h x=x:=rfl
theorem castK (k:Nat):(NatCast.natCast k:Int)=(k:Int):=rfl
theorem succK (k:Nat):Nat.succ k=k+1:=rfl
theorem V_nil:allVC []=True:=rfl
theorem V_one (c:VC):allVC [c]=c ():=rfl
theorem V_cons (c d:VC) (l:List VC):allVC (c::d::l)=(c ()/\allVC (d::l)):=rfl
theorem eta {α:Type} (f:Unit -> α):∃ x,f=fun _=>x:=⟨f (),rfl⟩
theorem predK (k:Nat):((k:Int) - 1).toNat=k - 1:=by omega
theorem fms:(∀ l A,(Fm.vc l A).P=(allVC l/\A.P))/\(∀ c A B,(Fm.br c A B).P=((c ()=true->A.P)/\(c ()=false->B.P)))/\(∀ A B,(Fm.and A B).P=(A.P/\B.P))/\(∀ l,(Fm.fin l).P=allVC l)/\(allVC []=True)/\(∀ c,allVC [c]=c ())/\(∀ c d l,allVC (c::d::l)=(c ()/\allVC (d::l)))/\(∀ (F:Tc->Type) (t:Tc) (h:t=t) (x:F t),toT F h x=x)/\(∀ k:Nat,(NatCast.natCast k:Int)=(k:Int))/\(∀ k,Nat.succ k=k+1)/\(∀ k:Nat,((k:Int)).toNat=k)/\(∀ k:Nat,((k:Int) - 1).toNat=k - 1)/\(∀ (p:Prop) [Decidable p],(decide p=true)=p)/\(∀ (p:Prop) [Decidable p],(decide p=false)=¬ p)/\(∀ (α β:Type) (f : α -> β) (a : α) (l:List α),List.map f (a::l)=f a::List.map f l)/\(∀ (α β:Type) (f : α -> β),List.map f [] = [])/\(∀ (α:Type) (a b : α),cond true a b=a)/\(∀ (α:Type) (a b : α),cond false a b=b) :=
 ⟨P_vc,P_br,P_and,P_fin,V_nil,V_one,V_cons,fun _ _ h x=>T_self _ h x,castK,succK,Int.toNat_natCast,predK,fun _ _=>decide_eq_true_eq,fun _ _=>propext decide_eq_false_iff_not,fun _ _ _ _ _=>rfl,fun _ _ _=>rfl,fun _ _ _=>rfl,fun _ _ _=>rfl⟩
def AV.valOf:AV->Value
 | .int k n => .int k (n ())
 | .lit k n => .int k n
 | .bool b => .bool (b ())
 | .blit b => .bool b
 | .str s => .string (s ())
 | _=>undef
def AV.flat:AV->Bool
 | .int _ _=>true
 | .lit _ _=>true
 | .bool _=>true
 | .blit _=>true
 | .str _=>true
 | _=>false
section
variable {w w':World} {ρ ρ':Nat->Option Rl} {base base':Nat} {ro ro':Nat->Prop} {v:Value}
theorem AVR.flat_ {x:AV} (hx:x.flat=true) (h:AVR w ρ base ro x v):v=x.valOf:=by
 cases x<;>simp only [AV.flat,Bool.false_eq_true] at hx
 . exact h.int_
 . exact h.lit_
 . exact h.bool_
 . exact h.blit_
 . exact h.str_
theorem avr_flat {x:AV} (hx:x.flat=true):AVR w ρ base ro x x.valOf:=by
 cases x<;>simp only [AV.flat,Bool.false_eq_true] at hx
 . exact .int _ _
 . exact .lit _ _
 . exact .bool _
 . exact .blit _
 . exact .str _
theorem Each.flat_:∀ {l:List AV} {vs:List Value},l.all AV.flat=true->Each w ρ base ro l vs->vs=l.map AV.valOf
 | [],vs,_,h=>h.none
 | x::l,vs,hl,h=>by
  simp only [List.all_cons,Bool.and_eq_true] at hl
  cases vs with
  | nil=>have:=h.1; simp at this
  | cons v vs =>
   have h1:=h.2 0 x v rfl rfl;have h2:Each w ρ base ro l vs:=⟨by have:=h.1; simpa using this,fun j y u hy hu=>h.2 (j+1) y u (by simpa using hy) (by simpa using hu)⟩
   rw [h1.flat_ hl.1,Each.flat_ hl.2 h2];rfl
theorem each_flat:∀ {l:List AV},l.all AV.flat=true->Each w ρ base ro l (l.map AV.valOf)
 | [],_ => .nil
 | x::l,hl=>by
  simp only [List.all_cons,Bool.and_eq_true] at hl;exact .cons (avr_flat hl.1) (each_flat hl.2)
theorem AVR.aggF {l:List AV} (hl:l.all AV.flat=true) (h:AVR w ρ base ro (.agg l) v):v = .agg (l.map AV.valOf).toArray:=by
 obtain⟨vs,rfl,hE⟩:=h.agg_;rw [hE.flat_ hl]
theorem avr_aggF {l:List AV} (hl:l.all AV.flat=true):AVR w ρ base ro (.agg l) (.agg (l.map AV.valOf).toArray):=by
 have hE:Each w ρ base ro l (l.map AV.valOf):=each_flat hl;exact .agg _ _ hE.1 hE.2
theorem avr_tup2 {x y:AV} {u v:Value} (hx:AVR w ρ base ro x u) (hy:AVR w ρ base ro y v):AVR w ρ base ro (.tup [x,y]) (.tuple #[u,v]):=by
 have hE:Each w ρ base ro [x,y] [u,v] := .cons hx (.cons hy .nil);exact .tup _ _ hE.1 hE.2
theorem AVR.slF {fr:Bool} {t:Tc} {l:Unit->List t.el} (f:t.el->List Value) (ht:∀ x:t.el,(cellsAV fr t fun _=>x).all AV.flat=true) (hf:∀ x:t.el,(cellsAV fr t fun _=>x).map AV.valOf=f x) (h:AVR w ρ base ro (.sl fr t l) v):∃ A c,v = .slice A (l ()).length c/\(l ()).length<=c/\Rd w w.heap.size t.size A ((l ()).map f):=by
 obtain⟨A,c,css,h1,h2,h3,_,_,h6,rfl⟩:=h.sl_;refine⟨A,c,rfl,by omega,?_⟩;have:css=(l ()).map f:=by
  apply List.ext_getElem?;intro k;rw [List.getElem?_map]
  cases hk:css[k]? with
  | none =>
   have:(l ())[k]? = none:=by rw [List.getElem?_eq_none_iff] at hk ⊢; omega
   rw [this];rfl
  | some cs =>
   have hlt:=(List.getElem?_eq_some_iff.1 hk).1;obtain⟨_,_,_,_,hl,_⟩:=h3 k cs hk;have hE:Each w ρ base ro (cellsAV fr t fun _=>(l ()).getD k t.dflt) cs:=row_each hl fun j y u hy hu=>h6 k cs j y u hk hy hu;rw [hE.flat_ (ht _),hf,List.getElem?_eq_getElem (by omega),Option.map_some,List.getD_eq_getElem?_getD,List.getElem?_eq_getElem (by omega)];rfl
 rwa [this] at h3
end
theorem oldOk {c : Con} {fn : Func} (hf : Tryz.prog.funcs[c.f]? = some fn) (hb : (fn.body.isNone || fn.name == "runtime.NumGoroutine") = false)
 (h:∀ avs res,c.go avs=some res->∀ (w:World) (ra:Nat->Prop) (vals:List Value),Each w (fun _=>none) 0 ra avs vals->res.pre ()->Calls Tryz.prog c.f vals.toArray w fun e w'=>∃ v,e = .returned v/\From w w'/\AVR w' (fun _=>none) w.heap.size (fun b=>ra b\/w.heap.size<=b) res.av v):ConOk Tryz.prog c:=by
 simp only [Bool.or_eq_false_iff] at hb;exact⟨fun args w=>callFunc_ok hf hb.1 hb.2 args w,fun avs res hgo w ra vals _ hE hpre=>h avs res hgo w ra vals hE hpre⟩
structure Kd where
 T:Type
 sg:Sg
 av:(Unit->T)->AV
 to:AV->Option (Unit->T)
 ok:∀ {x f},to x=some f->x=av f
def con0 (f:FuncId) (pre:Prop) (res:AV):Con:=⟨f,[],fun
 | []=>some ⟨fun _=>pre,res⟩
 | _=>none⟩
theorem gop0 {f:FuncId} {pre:Prop} {res:AV} {avs:List AV} {r:Res} (h:(con0 f pre res).go avs=some r):avs = []/\r=⟨fun _=>pre,res⟩:=by
 simp only [con0] at h;split at h
 case h_2=>cases h
 cases h;exact⟨rfl,rfl⟩
def con1 (f:FuncId) (A:Kd) (pre:(Unit->A.T)->Prop) (res:(Unit->A.T)->AV):Con:=⟨f,[A.sg],fun
 | [x0]=>(A.to x0).bind fun a=>some ⟨fun _=>pre a,res a⟩
 | _=>none⟩
theorem gop1 {f:FuncId} {A:Kd} {pre:(Unit->A.T)->Prop} {res:(Unit->A.T)->AV} {avs:List AV} {r:Res} (h:(con1 f A pre res).go avs=some r):∃ (a:A.T),avs = [A.av fun _=>a]/\r=⟨fun _=>pre (fun _=>a),res (fun _=>a)⟩:=by
 simp only [con1] at h;split at h
 case h_2=>cases h
 simp only [Option.bind_eq_some_iff,Option.some.injEq] at h;obtain⟨a,e0,rfl⟩:=h;obtain rfl:=A.ok e0;exact⟨a (),rfl,rfl⟩
def con2 (f:FuncId) (A B:Kd) (pre:(Unit->A.T)->(Unit->B.T)->Prop) (res:(Unit->A.T)->(Unit->B.T)->AV):Con:=⟨f,[A.sg,B.sg],fun
 | [x0,x1]=>(A.to x0).bind fun a=>(B.to x1).bind fun b=>some ⟨fun _=>pre a b,res a b⟩
 | _=>none⟩
theorem gop2 {f:FuncId} {A B:Kd} {pre:(Unit->A.T)->(Unit->B.T)->Prop} {res:(Unit->A.T)->(Unit->B.T)->AV} {avs:List AV} {r:Res} (h:(con2 f A B pre res).go avs=some r):∃ (a:A.T) (b:B.T),avs = [A.av fun _=>a,B.av fun _=>b]/\r=⟨fun _=>pre (fun _=>a) (fun _=>b),res (fun _=>a) (fun _=>b)⟩:=by
 simp only [con2] at h;split at h
 case h_2=>cases h
 simp only [Option.bind_eq_some_iff,Option.some.injEq] at h;obtain⟨a,e0,b,e1,rfl⟩:=h;obtain rfl:=A.ok e0;obtain rfl:=B.ok e1;exact⟨a (),b (),rfl,rfl⟩
def con3 (f:FuncId) (A B C:Kd) (pre:(Unit->A.T)->(Unit->B.T)->(Unit->C.T)->Prop) (res:(Unit->A.T)->(Unit->B.T)->(Unit->C.T)->AV):Con:=⟨f,[A.sg,B.sg,C.sg],fun
 | [x0,x1,x2]=>(A.to x0).bind fun a=>(B.to x1).bind fun b=>(C.to x2).bind fun c=>some ⟨fun _=>pre a b c,res a b c⟩
 | _=>none⟩
theorem gop3 {f:FuncId} {A B C:Kd} {pre:(Unit->A.T)->(Unit->B.T)->(Unit->C.T)->Prop} {res:(Unit->A.T)->(Unit->B.T)->(Unit->C.T)->AV} {avs:List AV} {r:Res} (h:(con3 f A B C pre res).go avs=some r):∃ (a:A.T) (b:B.T) (c:C.T),avs = [A.av fun _=>a,B.av fun _=>b,C.av fun _=>c]/\r=⟨fun _=>pre (fun _=>a) (fun _=>b) (fun _=>c),res (fun _=>a) (fun _=>b) (fun _=>c)⟩:=by
 simp only [con3] at h;split at h
 case h_2=>cases h
 simp only [Option.bind_eq_some_iff,Option.some.injEq] at h;obtain⟨a,e0,b,e1,c,e2,rfl⟩:=h;obtain rfl:=A.ok e0;obtain rfl:=B.ok e1;obtain rfl:=C.ok e2;exact⟨a (),b (),c (),rfl,rfl⟩
def con4 (f:FuncId) (A B C D:Kd) (pre:(Unit->A.T)->(Unit->B.T)->(Unit->C.T)->(Unit->D.T)->Prop) (res:(Unit->A.T)->(Unit->B.T)->(Unit->C.T)->(Unit->D.T)->AV):Con:=⟨f,[A.sg,B.sg,C.sg,D.sg],fun
 | [x0,x1,x2,x3]=>(A.to x0).bind fun a=>(B.to x1).bind fun b=>(C.to x2).bind fun c=>(D.to x3).bind fun d=>some ⟨fun _=>pre a b c d,res a b c d⟩
 | _=>none⟩
theorem gop4 {f:FuncId} {A B C D:Kd} {pre:(Unit->A.T)->(Unit->B.T)->(Unit->C.T)->(Unit->D.T)->Prop} {res:(Unit->A.T)->(Unit->B.T)->(Unit->C.T)->(Unit->D.T)->AV} {avs:List AV} {r:Res} (h:(con4 f A B C D pre res).go avs=some r):∃ (a:A.T) (b:B.T) (c:C.T) (d:D.T),avs = [A.av fun _=>a,B.av fun _=>b,C.av fun _=>c,D.av fun _=>d]/\r=⟨fun _=>pre (fun _=>a) (fun _=>b) (fun _=>c) (fun _=>d),res (fun _=>a) (fun _=>b) (fun _=>c) (fun _=>d)⟩:=by
 simp only [con4] at h;split at h
 case h_2=>cases h
 simp only [Option.bind_eq_some_iff,Option.some.injEq] at h;obtain⟨a,e0,b,e1,c,e2,d,e3,rfl⟩:=h;obtain rfl:=A.ok e0;obtain rfl:=B.ok e1;obtain rfl:=C.ok e2;obtain rfl:=D.ok e3;exact⟨a (),b (),c (),d (),rfl,rfl⟩
def boxSg:List Sg := [.int .i64,.str,.int .u8,.bool,.int .i64,.int .i64,.int .i64,.int .u8,.bool]
def midSg:List Sg:=boxSg ++ [.int .i64,.int .i64,.int .i64]
def stoSg:List Sg := [.int .i64,.int .i64,.int .i64,.int .u8]
def sloSg:List Sg := [.int .i64,.int .i64,.int .u8]
def ldSg:List Sg := [.int .i64,.int .i64,.int .i64,.int .i64]
def colSg:List Sg := [.int .i64,.int .i64,.bool,.int .i64,.int .i64,.int .i64,.int .i64,.int .i64,.sl .int,.int .i64,.int .i64,.int .i64]
def shipSg:List Sg := [.sl .col,.sl .cov,.int .i64,.int .i64,.int .i64,.int .i64,.sl .hrow,.sl .frm,.sl .tnk,.int .i64,.int .i64,.int .i64,.int .i64]
structure Shp where
 cols:List Col
 covs:List Cov
 lk:Int
 lx:Int
 ly:Int
 lz:Int
 rows:List Hrow
 frms:List Frm
 tnks:List Tnk
 m1:Int
 m2:Int
 m3:Int
 m4:Int
def boxL (b:Unit->Box):List AV := [.int .i64 fun _=>(b ()).id,.str fun _=>(b ()).num,.int .u8 fun _=>(b ()).size,.bool fun _=>(b ()).high,.int .i64 fun _=>(b ()).kilos,.int .i64 fun _=>(b ()).load,.int .i64 fun _=>(b ()).dis,.int .u8 fun _=>(b ()).cls,.bool fun _=>(b ()).reefer]
def midL (b:Unit->Mid):List AV:=(boxL fun _=>(b ()).box) ++ [.int .i64 fun _=>(b ()).x,.int .i64 fun _=>(b ()).y,.int .i64 fun _=>(b ()).h]
def ldL (b:Unit->Ld):List AV := [.int .i64 fun _=>(b ()).kilos,.int .i64 fun _=>(b ()).x,.int .i64 fun _=>(b ()).y,.int .i64 fun _=>(b ()).z]
def stoL (b:Unit->Stowed):List AV := [.int .i64 fun _=>(b ()).box,.int .i64 fun _=>(b ()).col,.int .i64 fun _=>(b ()).tier,.int .u8 fun _=>(b ()).half]
def sloL (b:Unit->Slot):List AV := [.int .i64 fun _=>(b ()).col,.int .i64 fun _=>(b ()).tier,.int .u8 fun _=>(b ()).half]
def colL (b:Unit->Col):List AV := [.int .i64 fun _=>(b ()).bay,.int .i64 fun _=>(b ()).row,.bool fun _=>(b ()).deck,.int .i64 fun _=>(b ()).tiers,.int .i64 fun _=>(b ()).height,.int .i64 fun _=>(b ()).k20,.int .i64 fun _=>(b ()).k40,.int .i64 fun _=>(b ()).lash,.sl false .int fun _=>(b ()).plugs,.int .i64 fun _=>(b ()).x,.int .i64 fun _=>(b ()).y,.int .i64 fun _=>(b ()).z]
def shipL (b:Unit->Shp):List AV := [.sl false .col fun _=>(b ()).cols,.sl false .cov fun _=>(b ()).covs,.int .i64 fun _=>(b ()).lk,.int .i64 fun _=>(b ()).lx,.int .i64 fun _=>(b ()).ly,.int .i64 fun _=>(b ()).lz,.sl false .hrow fun _=>(b ()).rows,.sl false .frm fun _=>(b ()).frms,.sl false .tnk fun _=>(b ()).tnks,.int .i64 fun _=>(b ()).m1,.int .i64 fun _=>(b ()).m2,.int .i64 fun _=>(b ()).m3,.int .i64 fun _=>(b ()).m4]
def AV.toI:AV->Option (Unit->Int)
 | .int .i64 n=>some n
 | _=>none
def AV.toU8:AV->Option (Unit->Int)
 | .int .u8 n=>some n
 | _=>none
def AV.toB:AV->Option (Unit->Bool)
 | .bool n=>some n
 | _=>none
def AV.toS:AV->Option (Unit->ByteArray)
 | .str n=>some n
 | _=>none
def AV.toCols:AV->Option (Unit->List Col)
 | .sl false .col l=>some l
 | _=>none
def AV.toCovs:AV->Option (Unit->List Cov)
 | .sl false .cov l=>some l
 | _=>none
def AV.toInts:AV->Option (Unit->List Int)
 | .sl false .int l=>some l
 | _=>none
def AV.toBoxes:AV->Option (Unit->List Box)
 | .sl false .box l=>some l
 | _=>none
def AV.toStos:AV->Option (Unit->List Stowed)
 | .sl false .stowed l=>some l
 | _=>none
def AV.toSlos:AV->Option (Unit->List Slot)
 | .sl false .slot l=>some l
 | _=>none
def AV.toLds:AV->Option (Unit->List Ld)
 | .sl false .ld l=>some l
 | _=>none
def AV.toU8s:AV->Option (Unit->List Int)
 | .sl false .u8 l=>some l
 | _=>none
def AV.toSpns:AV->Option (Unit->List Spn)
 | .sl false .spn l=>some l
 | _=>none
def AV.toMids:AV->Option (Unit->List Mid)
 | .sl false .mid l=>some l
 | _=>none
def AV.toHrows:AV->Option (Unit->List Hrow)
 | .sl false .hrow l=>some l
 | _=>none
def AV.toFrms:AV->Option (Unit->List Frm)
 | .sl false .frm l=>some l
 | _=>none
def AV.toTnks:AV->Option (Unit->List Tnk)
 | .sl false .tnk l=>some l
 | _=>none
def AV.toPI:AV->Option (Unit->Int)
 | .pto [.int .i64 n] 0=>some n
 | _=>none
def AV.toFPI (f:FuncId):AV->Option (Unit->Int)
 | .fn g [.pto [.int .i64 n] 0]=>if g=f then some n else none
 | _=>none
theorem AV.toI_ {x:AV} {n:Unit->Int} (h:x.toI=some n):x = .int .i64 n:=by
 unfold AV.toI at h;split at h<;>cases h
 rfl
abbrev kI:Kd:=⟨Int,.int .i64,fun n => .int .i64 n,AV.toI,AV.toI_⟩
theorem AV.toU8_ {x:AV} {n:Unit->Int} (h:x.toU8=some n):x = .int .u8 n:=by
 unfold AV.toU8 at h;split at h<;>cases h
 rfl
abbrev kU8:Kd:=⟨Int,.int .u8,fun n => .int .u8 n,AV.toU8,AV.toU8_⟩
theorem AV.toB_ {x:AV} {n:Unit->Bool} (h:x.toB=some n):x = .bool n:=by
 unfold AV.toB at h;split at h<;>cases h
 rfl
theorem AV.toS_ {x:AV} {n:Unit->ByteArray} (h:x.toS=some n):x = .str n:=by
 unfold AV.toS at h;split at h<;>cases h
 rfl
abbrev kS:Kd:=⟨ByteArray,.str,fun n => .str n,AV.toS,AV.toS_⟩
theorem AV.toCols_ {x:AV} {n:Unit->List Col} (h:x.toCols=some n):x = .sl false .col n:=by
 unfold AV.toCols at h;split at h<;>cases h
 rfl
abbrev kCols:Kd:=⟨List Col,.sl .col,fun n => .sl false .col n,AV.toCols,AV.toCols_⟩
theorem AV.toCovs_ {x:AV} {n:Unit->List Cov} (h:x.toCovs=some n):x = .sl false .cov n:=by
 unfold AV.toCovs at h;split at h<;>cases h
 rfl
abbrev kCovs:Kd:=⟨List Cov,.sl .cov,fun n => .sl false .cov n,AV.toCovs,AV.toCovs_⟩
theorem AV.toInts_ {x:AV} {n:Unit->List Int} (h:x.toInts=some n):x = .sl false .int n:=by
 unfold AV.toInts at h;split at h<;>cases h
 rfl
abbrev kInts:Kd:=⟨List Int,.sl .int,fun n => .sl false .int n,AV.toInts,AV.toInts_⟩
theorem AV.toBoxes_ {x:AV} {n:Unit->List Box} (h:x.toBoxes=some n):x = .sl false .box n:=by
 unfold AV.toBoxes at h;split at h<;>cases h
 rfl
abbrev kBoxes:Kd:=⟨List Box,.sl .box,fun n => .sl false .box n,AV.toBoxes,AV.toBoxes_⟩
theorem AV.toStos_ {x:AV} {n:Unit->List Stowed} (h:x.toStos=some n):x = .sl false .stowed n:=by
 unfold AV.toStos at h;split at h<;>cases h
 rfl
abbrev kStos:Kd:=⟨List Stowed,.sl .stowed,fun n => .sl false .stowed n,AV.toStos,AV.toStos_⟩
theorem AV.toSlos_ {x:AV} {n:Unit->List Slot} (h:x.toSlos=some n):x = .sl false .slot n:=by
 unfold AV.toSlos at h;split at h<;>cases h
 rfl
abbrev kSlos:Kd:=⟨List Slot,.sl .slot,fun n => .sl false .slot n,AV.toSlos,AV.toSlos_⟩
theorem AV.toLds_ {x:AV} {n:Unit->List Ld} (h:x.toLds=some n):x = .sl false .ld n:=by
 unfold AV.toLds at h;split at h<;>cases h
 rfl
abbrev kLds:Kd:=⟨List Ld,.sl .ld,fun n => .sl false .ld n,AV.toLds,AV.toLds_⟩
theorem AV.toU8s_ {x:AV} {n:Unit->List Int} (h:x.toU8s=some n):x = .sl false .u8 n:=by
 unfold AV.toU8s at h;split at h<;>cases h
 rfl
abbrev kU8s:Kd:=⟨List Int,.sl .u8,fun n => .sl false .u8 n,AV.toU8s,AV.toU8s_⟩
theorem AV.toSpns_ {x:AV} {n:Unit->List Spn} (h:x.toSpns=some n):x = .sl false .spn n:=by
 unfold AV.toSpns at h;split at h<;>cases h
 rfl
abbrev kSpns:Kd:=⟨List Spn,.sl .spn,fun n => .sl false .spn n,AV.toSpns,AV.toSpns_⟩
theorem AV.toMids_ {x:AV} {n:Unit->List Mid} (h:x.toMids=some n):x = .sl false .mid n:=by
 unfold AV.toMids at h;split at h<;>cases h
 rfl
abbrev kMids:Kd:=⟨List Mid,.sl .mid,fun n => .sl false .mid n,AV.toMids,AV.toMids_⟩
theorem AV.toHrows_ {x:AV} {n:Unit->List Hrow} (h:x.toHrows=some n):x = .sl false .hrow n:=by
 unfold AV.toHrows at h;split at h<;>cases h
 rfl
abbrev kHrows:Kd:=⟨List Hrow,.sl .hrow,fun n => .sl false .hrow n,AV.toHrows,AV.toHrows_⟩
theorem AV.toFrms_ {x:AV} {n:Unit->List Frm} (h:x.toFrms=some n):x = .sl false .frm n:=by
 unfold AV.toFrms at h;split at h<;>cases h
 rfl
abbrev kFrms:Kd:=⟨List Frm,.sl .frm,fun n => .sl false .frm n,AV.toFrms,AV.toFrms_⟩
theorem AV.toTnks_ {x:AV} {n:Unit->List Tnk} (h:x.toTnks=some n):x = .sl false .tnk n:=by
 unfold AV.toTnks at h;split at h<;>cases h
 rfl
abbrev kTnks:Kd:=⟨List Tnk,.sl .tnk,fun n => .sl false .tnk n,AV.toTnks,AV.toTnks_⟩
theorem AV.toPI_ {x:AV} {n:Unit->Int} (h:x.toPI=some n):x = .pto [.int .i64 n] 0:=by
 unfold AV.toPI at h;split at h<;>cases h
 rfl
abbrev kPI:Kd:=⟨Int,.pto [.int .i64],fun n => .pto [.int .i64 n] 0,AV.toPI,AV.toPI_⟩
theorem AV.toFPI_ {x:AV} {f:FuncId} {n:Unit->Int} (h:x.toFPI f=some n):x = .fn f [.pto [.int .i64 n] 0]:=by
 unfold AV.toFPI at h;split at h
 . split at h<;>cases h
   rename_i h;rw [h]
 . cases h
abbrev kFPI (f:FuncId):Kd:=⟨Int,.fn [.pto [.int .i64]],fun n => .fn f [.pto [.int .i64 n] 0],fun x=>x.toFPI f,AV.toFPI_⟩
def AV.toBox:AV->Option (Unit->Box)
 | .agg [a,b,c,d,e,f,g,h,i]=>a.toI.bind fun a=>b.toS.bind fun b=>c.toU8.bind fun c=>d.toB.bind fun d=>e.toI.bind fun e=>f.toI.bind fun f=>g.toI.bind fun g=>h.toU8.bind fun h=>i.toB.bind fun i=>some fun _=>⟨a (),b (),c (),d (),e (),f (),g (),h (),i ()⟩
 | _=>none
def AV.toMid:AV->Option (Unit->Mid)
 | .agg [a,b,c,d,e,f,g,h,i,x,y,z]=>(AV.toBox (.agg [a,b,c,d,e,f,g,h,i])).bind fun b=>x.toI.bind fun x=>y.toI.bind fun y=>z.toI.bind fun z=>some fun _=>⟨b (),x (),y (),z ()⟩
 | _=>none
def AV.toLd:AV->Option (Unit->Ld)
 | .agg [a,b,c,d]=>a.toI.bind fun a=>b.toI.bind fun b=>c.toI.bind fun c=>d.toI.bind fun d=>some fun _=>⟨a (),b (),c (),d ()⟩
 | _=>none
def AV.toSto:AV->Option (Unit->Stowed)
 | .agg [a,b,c,d]=>a.toI.bind fun a=>b.toI.bind fun b=>c.toI.bind fun c=>d.toU8.bind fun d=>some fun _=>⟨a (),b (),c (),d ()⟩
 | _=>none
def AV.toSlo:AV->Option (Unit->Slot)
 | .agg [a,b,c]=>a.toI.bind fun a=>b.toI.bind fun b=>c.toU8.bind fun c=>some fun _=>⟨a (),b (),c ()⟩
 | _=>none
def AV.toCol:AV->Option (Unit->Col)
 | .agg [a,b,c,d,e,f,g,h,i,j,k,l]=>a.toI.bind fun a=>b.toI.bind fun b=>c.toB.bind fun c=>d.toI.bind fun d=>e.toI.bind fun e=>f.toI.bind fun f=>g.toI.bind fun g=>h.toI.bind fun h=>i.toInts.bind fun i=>j.toI.bind fun j=>k.toI.bind fun k=>l.toI.bind fun l=>some fun _=>⟨a (),b (),c (),d (),e (),f (),g (),h (),i (),j (),k (),l ()⟩
 | _=>none
def AV.toShip:AV->Option (Unit->Shp)
 | .agg [a,b,c,d,e,f,g,h,i,j,k,l,m]=>a.toCols.bind fun a=>b.toCovs.bind fun b=>c.toI.bind fun c=>d.toI.bind fun d=>e.toI.bind fun e=>f.toI.bind fun f=>g.toHrows.bind fun g=>h.toFrms.bind fun h=>i.toTnks.bind fun i=>j.toI.bind fun j=>k.toI.bind fun k=>l.toI.bind fun l=>m.toI.bind fun m=>some fun _=>⟨a (),b (),c (),d (),e (),f (),g (),h (),i (),j (),k (),l (),m ()⟩
 | _=>none
theorem AV.toBox_ {x:AV} {b:Unit->Box} (h:x.toBox=some b):x = .agg (boxL b):=by
 unfold AV.toBox at h;split at h
 . simp only [Option.bind_eq_some_iff,Option.some.injEq] at h;obtain⟨a,h1,b,h2,c,h3,d,h4,e,h5,f,h6,g,h7,i,h8,j,h9,rfl⟩:=h;rw [AV.toI_ h1,AV.toS_ h2,AV.toU8_ h3,AV.toB_ h4,AV.toI_ h5,AV.toI_ h6,AV.toI_ h7,AV.toU8_ h8,AV.toB_ h9];rfl
 . cases h
abbrev kBox:Kd:=⟨Box,.agg boxSg,fun b => .agg (boxL b),AV.toBox,AV.toBox_⟩
theorem AV.toMid_ {x:AV} {b:Unit->Mid} (h:x.toMid=some b):x = .agg (midL b):=by
 unfold AV.toMid at h;split at h
 . simp only [Option.bind_eq_some_iff,Option.some.injEq] at h;obtain⟨b,h1,x,h2,y,h3,z,h4,rfl⟩:=h;have h5:=AV.toBox_ h1;simp only [AV.agg.injEq] at h5;rw [AV.toI_ h2,AV.toI_ h3,AV.toI_ h4];unfold midL;rw [<- show _=boxL b from h5];rfl
 . cases h
abbrev kMid:Kd:=⟨Mid,.agg midSg,fun b => .agg (midL b),AV.toMid,AV.toMid_⟩
theorem AV.toLd_ {x:AV} {b:Unit->Ld} (h:x.toLd=some b):x = .agg (ldL b):=by
 unfold AV.toLd at h;split at h
 . simp only [Option.bind_eq_some_iff,Option.some.injEq] at h;obtain⟨a,h1,b,h2,c,h3,d,h4,rfl⟩:=h;rw [AV.toI_ h1,AV.toI_ h2,AV.toI_ h3,AV.toI_ h4];rfl
 . cases h
abbrev kLd:Kd:=⟨Ld,.agg ldSg,fun b => .agg (ldL b),AV.toLd,AV.toLd_⟩
theorem AV.toSto_ {x:AV} {b:Unit->Stowed} (h:x.toSto=some b):x = .agg (stoL b):=by
 unfold AV.toSto at h;split at h
 . simp only [Option.bind_eq_some_iff,Option.some.injEq] at h;obtain⟨a,h1,b,h2,c,h3,d,h4,rfl⟩:=h;rw [AV.toI_ h1,AV.toI_ h2,AV.toI_ h3,AV.toU8_ h4];rfl
 . cases h
abbrev kSto:Kd:=⟨Stowed,.agg stoSg,fun b => .agg (stoL b),AV.toSto,AV.toSto_⟩
theorem AV.toSlo_ {x:AV} {b:Unit->Slot} (h:x.toSlo=some b):x = .agg (sloL b):=by
 unfold AV.toSlo at h;split at h
 . simp only [Option.bind_eq_some_iff,Option.some.injEq] at h;obtain⟨a,h1,b,h2,c,h3,rfl⟩:=h;rw [AV.toI_ h1,AV.toI_ h2,AV.toU8_ h3];rfl
 . cases h
abbrev kSlo:Kd:=⟨Slot,.agg sloSg,fun b => .agg (sloL b),AV.toSlo,AV.toSlo_⟩
theorem AV.toCol_ {x:AV} {b:Unit->Col} (h:x.toCol=some b):x = .agg (colL b):=by
 unfold AV.toCol at h;split at h
 . simp only [Option.bind_eq_some_iff,Option.some.injEq] at h;obtain⟨a,h1,b,h2,c,h3,d,h4,e,h5,f,h6,g,h7,i,h8,j,h9,k,h10,l,h11,m,h12,rfl⟩:=h;rw [AV.toI_ h1,AV.toI_ h2,AV.toB_ h3,AV.toI_ h4,AV.toI_ h5,AV.toI_ h6,AV.toI_ h7,AV.toI_ h8,AV.toInts_ h9,AV.toI_ h10,AV.toI_ h11,AV.toI_ h12];rfl
 . cases h
abbrev kCol:Kd:=⟨Col,.agg colSg,fun b => .agg (colL b),AV.toCol,AV.toCol_⟩
theorem AV.toShip_ {x:AV} {b:Unit->Shp} (h:x.toShip=some b):x = .agg (shipL b):=by
 unfold AV.toShip at h;split at h
 . simp only [Option.bind_eq_some_iff,Option.some.injEq] at h;obtain⟨a,h1,b,h2,c,h3,d,h4,e,h5,f,h6,g,h7,i,h8,j,h9,k,h10,l,h11,m,h12,n,h13,rfl⟩:=h;rw [AV.toCols_ h1,AV.toCovs_ h2,AV.toI_ h3,AV.toI_ h4,AV.toI_ h5,AV.toI_ h6,AV.toHrows_ h7,AV.toFrms_ h8,AV.toTnks_ h9,AV.toI_ h10,AV.toI_ h11,AV.toI_ h12,AV.toI_ h13];rfl
 . cases h
abbrev kShip:Kd:=⟨Shp,.agg shipSg,fun b => .agg (shipL b),AV.toShip,AV.toShip_⟩
end Go.Proofs.YthfpdbjemfhieaaGreat
