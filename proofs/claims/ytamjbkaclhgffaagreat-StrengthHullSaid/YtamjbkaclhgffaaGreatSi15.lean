/-
  The abstract run is sound: what is shown of plain data makes a function's contract.
-/
import Derived.Test.YtamjbkaclhgffaaGreatSi14
set_option linter.all false
namespace Go.Proofs.YtamjbkaclhgffaaGreat
open Go.RowKit
variable{C:Cx}{fn:Func}{f:FuncId}{c:It}{dM vs:List Value}{D b n0 s:Nat}{fd ra:Nat->Prop}{r:Option Nat}{S T:Pm}{w w0:World}
section
variable{w w' w0:World}{ρ ρ' ρ2:Nat->Option Rl}{base n:Nat}{ro ro':Nat->Prop}{S0:Pm}{Φ : Pm->Prop}{N:Nat}{B:Bs}{S:Sx}{a:Act}{F:Fx}{P:Program}
theorem abv{id:Nat}{ops:Array Oper}(pV:∀ o∈ops.toList,∀ c,o.op ≠ .defer c)(aE:cT P F.C.ty)(aF:nh P F.C w0 Φ)(kc:P.follows .mixedOrders=true){k:Sx->Fm}{Q:Exit->Act->World->Prop}(hQ:∀ c a w,¬ Q (.panic c) a w)(aI:codeOk (ca F.C) F.C.sc F.C.lt F.N (.region id ops true)=true)(hk:∀ S' a' w',aS w0 Φ F.N B S' a' w'->(k S').P->Q .normal a' w')(h:(Kq F.C F.N B id ops.toList S k).P)(H:aS w0 Φ F.N B S a w):(Code.region id ops true).wpIn (wd r) 0 P Q a w:=by
 simp only [codeOk,gg,sV,ax] at aI;have aI:=aI.2;have RP:ops.toList.toArray=ops:=by simp
 rw [<- RP];unfold Kq at h
 cases ah:Kl F.C.lt id with
 | some t =>
  rw [ah] at h aI;exact aom pV aE aF kc hQ aI hk h H
 | none =>
  rw [ah] at h aI;dsimp only at h aI;simp only [Bool.and_eq_true] at aI;have hs:=aI.2;have hp:=aI.1;unfold Fw at hp;simp only [Bool.and_eq_true] at hp;refine anF pV aE aF kc hQ aI.1 hk ?_ H
  cases hsc:Kk F.C.sc id with
  | none=>rw [hsc] at h; exact h
  | some s =>
   rw [hsc] at h hs;dsimp only at h hs;simp only [decide_eq_true_eq] at hs;rw [hs] at h;exact anL hp.1 h
theorem aow{l:List Oper}{ks:List Nat}{go:(Sx->Fm)->Fm}{k:Sx->Fm}(h:(Qd F.C F.N B l ks S go k).P):∃ S2,(k S2).P/\∃ k',(go k').P/\∀ S' a' w',aS w0 Φ F.N B S' a' w'->(k' S').P->aS w0 Φ F.N B S2 a' w':=by
 unfold Qd at h;split at h
 . exact h.elim
 . rename_i S1 Dh;split at h
   . rename_i hc;simp only [ax] at hc;refine⟨_,h.2,_,h.1,fun S' a' w' H' e9 => ?_⟩;split at e9
     . rename_i hn;obtain⟨S0,hS,ρ,ro,HR⟩:=H';obtain⟨ta,tb,e1,e2,e3⟩:=Lm e9;have HB:=HR.bare;obtain⟨tB,AK,AL,_,_⟩:=Lj HB (md := []) (aG := []) (aA _) B rfl;rw [<- hn] at hc;rw [<- hn];refine HR.Rw hS (fun l r q1 q2 => ?_) e1 e2 e3 hc.1 hc.2.1 hc.2.2.1 hc.2.2.2 (fun d y hy => ?_) (fun l e he => ?_) fun _ h=>h
       . have q3:=HR.dz l r q1 q2;exact abh
       . obtain⟨u,q1,q2⟩:=AK d y hy;exact⟨u,q1,q2,tB.t d y hy⟩
       . exact⟨AL l e he,tB.e l e he⟩
     . exact e9.elim
   . exact h.elim
theorem aox{id:Nat}{f:Unit->Fm}(h:(Qe C id f).P):(f ()).P:=by
 unfold Qe at h;split at h
 . exact h () trivial
 . exact h
theorem abx{P:Program}{F:Fence}{c:Code}{Q:Exit->Act->World->Prop}:∀ {n m:Nat} {a:Act} {w:World},Code.roundsIn F 0 P c Q n a w->n<=m->Code.roundsIn F 0 P c Q m a w
 | 0,_,_,_,h,_=>h.elim
 | n+1,0,_,_,_,hm=>oo
 | n+1,m+1,a,w,h,hm=>by
  rw [roundsIn_succ] at h ⊢;refine wpIn_mono h fun e a w q => ?_
  cases e with
  | normal=>exact abx q oo
  | exit id=>exact q
  | ret=>exact q
  | goto l=>exact q
  | panic c=>exact q
  | outgrown=>exact q
theorem aoy{go:Lp->Fm}{o:Option Lp}(h:(match o with
 | some lp=>go lp
 | none => .P0 go).P):∃ lp,(go lp).P:=by
 cases o with
 | some lp=>exact⟨lp,h⟩
 | none=>exact h
structure Gn (P:Program) (F:Fx) (w0:World) (Φ : Pm->Prop) (fd:Nat->Prop) (r:Option Nat):Prop where
 cx:nh P F.C w0 Φ
 fm:∀ S0,Φ S0->∀ d,fd d↔∃ v,S0.fm d=some v
 mks:r=none->F.C.yl=none->∀ S0,Φ S0->∀ D,¬ S0.jK D->w0.heap.size<=D -> Φ (S0.mark D)
def aby(P:Program)(F:Fx)(w0:World)(f:Nat):Prop:=∀ (c) (B) (S) (K) (Φ) (fd) (r) (a) (w),Gn P F w0 Φ fd r->r.isSome=CR K->(run F f c B S K).P->aS w0 Φ F.N B S a w->Wf fd (ca F.C) F.C.sc F.C.lt F.N B K->codeOk (ca F.C) F.C.sc F.C.lt F.N c=true->c.wpIn (wd r) 0 P (KQ F w0 Φ f B K) a w
theorem aoA{cs:List It}(aF:∀ c∈cs,qK P c)(h:Jv cs f=some c):qK P c/\c.f=f:=by
 induction cs with
 | nil=>cases h
 | cons c' cs ih =>
  unfold Jv at h;split at h
  . rename_i e;cases h;exact⟨aF _ (.head _),by simpa using e⟩
  . exact ih (fun c hc=>aF c (.tail _ hc)) h
def wR(S1:Pm)(ρ:Nat->Option Rl)(b:Nat):Prop:=(∃ l r,ρ l=some r/\r.b8=some b)\/S1.own b
def wT(S1:Pm)(ρ:Nat->Option Rl)(ro:Nat->Prop)(s b:Nat):Prop:=wR S1 ρ b\/ro b\/S1.jK b\/b<s
theorem bm.abz(H:bm w0 S0 N B S a w ρ ro)(hs:s<=w.heap.size)(h:wT S0 ρ ro s b):b<w.heap.size:=by
 rcases h with (⟨l,r,h1,h2⟩|h)|h|h|h
 . exact (H.own l r b h1 h2).1
 . exact S0.nR _ _ H.from_.inv (S0.yo b h)
 . exact H.gu b h
 . exact S0.nR _ _ H.from_.inv h
 . omega
theorem bm.RQ{l:Nat}{rec rec':Loop}{fm:Nat->Option Value}(H:bm w0 (S0.dS D l rec fm) N B S a w ρ ro)(hl:w0.heap.size<=l)(Lu:¬ S0.jK l)(I6:D≠l):bm w0 (S0.dS D l rec' fm) N B S a (w.putObj l (.loop rec')) ρ ro:=by
 have hi:=H.from_.inv;have m6:l<w.heap.size:=Dg hi.2.2;have hf:∀ l' r b,ρ l'=some r->r.b8=some b->¬ (S0.dS D l rec fm).jK b:=fun l' r b h1 h2=>(H.own l' r b h1 h2).2.2.2;have aT:∀ b,b<w.heap.size->b≠l->(w.putObj l (.loop rec')).heap[b]? = w.heap[b]? := fun b _ h=>World.putObj_heap_other h;have H1:bm w0 (S0.add (fun b=>b=D) (fun b=>b=D) (fun w=>w.heap[D]? = some (.deferred (some []))) [] fm (fun _ h=>h) (fun _ _ h e=>by subst e; exact Dg h) fun _ _ h _ _ _ _ k=>(k D rfl).trans h) N B S a w ρ ro :=
  H.uC rfl rfl rfl rfl ⟨hi.1,hi.2.1⟩ H.defers rfl (fun l' r b h1 h2 h3=>hf l' r b h1 h2 (h3.imp id .inl)) (fun b hb h=>(H.ew b hb).2 (h.imp id .inl)) H.fm
 have H2:=H1.CZ (w':=w.putObj l (.loop rec')) rfl rfl rfl (by rw [World.putObj_size]; exact aA _) fun b hb hc=>aT b hb (by
  rintro rfl
  rcases hc with h|h|⟨l',r,h1,h2⟩|h|h
  . omega
  . exact (H.ew _ h).2 (.inr (.inr rfl))
  . exact hf l' r _ h1 h2 (.inr (.inr rfl))
  . exact Lu h
  . exact I6 h.symm)
 exact H2.uC rfl rfl rfl rfl ⟨H2.from_.inv.1,H2.from_.inv.2,World.putObj_heap_same m6⟩ H.defers rfl (fun l' r b h1 h2=>hf l' r b h1 h2) (fun b hb=>(H.ew b hb).2) H.fm
theorem aoB{f:Nat}{g:Operand}{ps:Array Tmp}{x y:Code}{K:List Kt}(aE:cT P F.C.ty)(E:Gn P F w0 Φ fd r)(hr:r.isSome=CR K)(ih:aby P F w0 f)(h:(run F (f+1) (.rangeFunc g ps x y) B S K).P)(H:aS w0 Φ F.N B S a w)(tD:Wf fd (ca F.C) F.C.sc F.C.lt F.N B K)(hx:codeOk (ca F.C) F.C.sc F.C.lt F.N x=true)(hy:codeOk (ca F.C) F.C.sc F.C.lt F.N y=true):(Code.rangeFunc g ps x y).wpIn (wd r) 0 P (KQ F w0 Φ (f+1) B K) a w:=by
 unfold run at h;dsimp only at h;have aF:=E.cx;split at h
 rotate_left
 . exact h.elim
 rename_i fid dH nY hgv;simp only [kf,Ed,iC] at nY;obtain⟨nY,qP⟩:=nY;have C9:r=none:=by rw [nY] at hr; cases r with|none=>rfl|some _=>cases hr
 subst C9;split at h
 rotate_left
 . exact h.elim
 rename_i it O5;obtain⟨abA,aoD⟩:=aoA aF.lQ O5;subst aoD;split at h
 rotate_left
 . exact h.elim
 rename_i ai uL;split at uL
 rotate_left
 . cases uL
 rename_i aoE;split at h
 rotate_left
 . exact h.elim
 rename_i res qz;obtain⟨rp,⟨jr,RS⟩,bS⟩:=h;obtain⟨jr,Gp⟩:=jr;generalize hn:m7 S.n (dE (rp.oe 0))=n at bS;generalize hmd:rU x++rU y++ps.toList++Fu (dE (rp.oe 0)) n S.t=md at bS;generalize yT:(⟨nT md (dE (rp.oe 0)) n S.t,qB (dE (rp.oe 0)) n S.e⟩:Bs)=K' at bS;obtain⟨S0,hS,ρ,ro,H⟩:=H;have Gq:S.n<=n:=by rw [<- hn]; exact Lh _ _
 obtain⟨tB,AK,AL,RT,RU⟩:=Lj H (md:=md) (aG:=dE (rp.oe 0)) Gq (join K' B) (by rw [yT]);have Gr:∀ d x,aj B.t d=some x->aj K'.t d=none:=by rw [<- yT]; exact RT
 have Gs:∀ l e,aj B.e l=some e->aj K'.e l=none:=by rw [<- yT]; exact RU
 have Lv:∀ d,(aj B.t d).isSome=true->(aj (join K' B).t d).isSome=true:=fun d hd=>by
  unfold join;dsimp only;rw [qJ];split<;>first|rfl|exact hd
 have tq:∀ l r,S0.pl l=some r->(r.dz||S0.fx)=true->l<n:=fun l r q1 q2=>by
  have q3:=H.dz l r q1 q2;rcases b9 l n with h|h
  . exact h
  . rw [H.fresh l (dQ Gq h)] at q3; cases q3
 have nP:∀ k,rp.I k->k<=res.n ()->(qC (dE (rp.oe k)) (dE (rp.oe 0))&&jv (cN n) (rp.oe k)&&lS (join K' B).e (rp.oe k)&&AV.nX (res.el fun _=>k))=true/\∃ Sk,FF (join K' B) F.N ps.toList (res.el fun _=>k) ⟨[],rp.oe k,n⟩=some Sk /\
  (k<res.n ()->(run F f x (join K' B) Sk [.wB fun B1 S1=>run F f y B1 S1 [.dS (fun Bi S'=>if n<=S'.n then .vc [fun _=>rp.I (k+1)] (m8 Bi (Al F.C.nb Bi S' [] (rp.oe (k+1))) [] (rp.oe (k+1))) else .ff 17) (fun id S'=>exitTo F f id B ⟨K'.t,S'.e++K'.e,S'.n⟩ K) (fun S'=>lA F f B ⟨K'.t,S'.e++K'.e,S'.n⟩ K)]]).P) /\
  (k=res.n ()->(cont F f B ⟨K'.t,rp.oe k++K'.e,n⟩ K).P):=by
  intro k hk dN;have h1:=bS k ⟨hk,dN⟩;dsimp only at h1;split at h1
  . rename_i hc;split at h1
    . rename_i Sk RV;subst yT;exact⟨hc,Sk,RV,fun q=>h1.1 () q,fun q=>h1.2 () q⟩
    . exact h1.elim
  . exact h1.elim
 have gS:∀ k,rp.I k->k<=res.n ()->∀ {T:Pm} {S1:Sx} {a1:Act} {w1:World} {ρ1:Nat->Option Rl} {oZ:Nat->Prop} {BB:Bs},bm w0 T F.N BB S1 a1 w1 ρ1 oZ->(∀ l r,T.pl l=some r->(r.dz||T.fx)=true->l<n)->(∀ d,(aj BB.t d).isSome=true->(aj (join K' B).t d).isSome=true)->(m8 BB S1 [] (rp.oe k)).P->(∀ d y,aj (join K' B).t d=some y->∃ u,a1.tmps[d]? = some u/\af w1 ρ1 w0.heap.size oZ y u)->(∀ l e,aj (join K' B).e l=some e->c9 w1 ρ1 w0.heap.size oZ l e)->∃ ρ2,bm w0 T F.N (join K' B) ⟨[],rp.oe k,n⟩ a1 w1 ρ2 oZ/\∀ l r b,ρ2 l=some r->r.b8=some b -> ρ1 l=some r:=by
  intro k hk dN T S1 a1 w1 ρ1 oZ BB H1 ji c8 heq RW RX;obtain⟨ta,tb,e1,e2,e3⟩:=Lm heq;have hc:=(nP k hk dN).1;simp only [ax] at hc;exact H1.aaS ji e1 e2 e3 rfl hc.1.1.2 rfl hc.1.2 (fun d y hy=>by obtain⟨u,q1,q2⟩:=RW d y hy; exact⟨u,q1,q2,tB.t d y hy⟩) (fun l e he=>⟨RX l e he,tB.e l e he⟩) c8
 have hgx:=H.get g;rw [hgv] at hgx;obtain⟨vs,cH,hEc⟩:=hgx.JG;have hEr:aV w (fun _=>none) 0 ro ai vs:=wk (ge:=bf B S) (fun l e he=>H.en l e he) (fun _ h=>h) _ _ _ _ uL hEc (.inl aoE);refine wpIn_rangeFunc fun fn _ => ?_;obtain⟨rec,ng⟩:∃ rec:LoopState->Option Code->Loop,rec=fun st pe => { state:=st,pending:=pe,fn:=fn,tmps:=a.tmps,params:=ps,assign:=x,body:=y,defers:=w.heap.size }:=⟨_,rfl⟩
 obtain⟨W0,n9⟩:∃ W0,W0=(w.alloc (.deferred (some []))).alloc (.loop (rec .ready none)):=⟨_,rfl⟩
 have aO:W0.heap.size=w.heap.size+2:=by rw [n9]; simp
 have hD0:W0.heap[w.heap.size]? = some (.deferred (some [])):=by rw [n9]; exact (ql _ _ _ (by simp)).trans (World.alloc_heap_new w _)
 have mW:W0.heap[w.heap.size+1]? = some (.loop (rec .ready none)):=by
  have:=World.alloc_heap_new (w.alloc (.deferred (some []))) (.loop (rec .ready none));rw [qk] at this;rw [n9];exact this
 have abD:∀ b,b<w.heap.size->W0.heap[b]? = w.heap[b]? := fun b hb=>by rw [n9]; exact (ql _ _ _ (by simp; omega)).trans (ql _ _ _ hb)
 have RY:W0.os=w.os/\W0.tape=w.tape/\W0.output=w.output:=by rw [n9]; exact⟨rfl,rfl,rfl⟩
 have vY:(Instr.enterLoop fn a.tmps ps x y none).run P w = .ok (w.heap.size+1,[⟨.collected w.heap.size,#[]⟩]) W0:=by rw [n9,ng]; exact run_enterLoop_outer _ _ _ _ _
 clear n9;obtain⟨l,hl⟩:∃ l,l=w.heap.size+1:=⟨_,rfl⟩
 obtain⟨D,hD⟩:∃ D,D=w.heap.size:=⟨_,rfl⟩
 rw [<- hl] at mW vY;rw [<- hD] at hD0 vY;have Lw:=H.from_.size;have Lu:¬ S0.jK l:=fun h=>by have:=S0.nR _ _ H.from_.inv h; omega
 have hDf:¬ S0.jK D:=fun h=>by have:=S0.nR _ _ H.from_.inv h; omega
 refine⟨l,[⟨.collected D,#[]⟩],W0,{ target := .fn (.func it.f) vs.toArray,args := #[.func (.yield l) #[] #[]] },W0,it.f,#[.func (.yield l) #[] #[]]++vs.toArray,W0,vY,?_,fun _ _=>trivial,?_,fun h=>(by simp [Fence.wide] at h),?_⟩
 . simp only [resolve,cH];simp [go_sem]
 . simp [invoke,go_sem,abA.1]
 obtain⟨fm,qN⟩:∃ fm:Nat->Option Value,fm=fun d=>if (aj (join K' B).t d).isSome=true then a.tmps[d]? else none:=⟨_,rfl⟩
 have aoI:∀ d v,fm d=some v->a.tmps[d]? = some v/\(aj (join K' B).t d).isSome=true:=fun d v h=>by
  rw [qN] at h;dsimp only at h;split at h
  . rename_i hd; exact⟨h,hd⟩
  . cases h
 have aoJ:∀ d,(aj (join K' B).t d).isSome=true->fm d=a.tmps[d]? := fun d h=>by rw [qN]; exact aC h
 have abE:∀ T:Pm,T.fx=S0.fx->T.pl=S0.pl->T.fm=fm->Gn P F w0 (fun U=>U=T) (fun d=>∃ v,fm d=some v) (some l):=fun T h1 h2 h3=>⟨{ cs:=aF.cs,fs:=aF.fs,lQ:=aF.lQ,fx:=fun U e=>(by subst e; rw [h1]; exact aF.fx S0 hS),pl:=fun U e l r h=>(by subst e; rw [h2] at h; exact aF.pl S0 hS l r h),dm:=fun U V e1 e2 l r q1 q2=>(by subst e1; subst e2; exact⟨r,q1,q2⟩),yl:=fun y hy=>(by rw [qP] at hy; cases hy) },fun U e d=>(by subst e; rw [h3]),fun h=>(by cases h)⟩
 obtain⟨J,hJ⟩:∃ J:Nat->(Nat->Prop)->(Nat->Prop)->World->Prop,J=fun p O R W=>(p=0/\∃ (jump:Code) (S':Sx) (ρ:Nat->Option Rl) (ro:Nat->Prop),bm w0 (S0.dS D l (rec .done (some jump)) fm) F.N (join K' B) ⟨[],S'.e,S'.n⟩ ⟨a.tmps,[]⟩ W ρ ro/\((∃ id,jump = .exit id/\(exitTo F f id B ⟨K'.t,S'.e++K'.e,S'.n⟩ K).P)\/(jump = .ret/\(lA F f B ⟨K'.t,S'.e++K'.e,S'.n⟩ K).P))/\O=wR (S0.dS D l (rec .ready none) fm) ρ/\R=wT (S0.dS D l (rec .ready none) fm) ρ ro W0.heap.size) \/
  (∃ k,p=k+1/\∃ (ρ:Nat->Option Rl) (ro:Nat->Prop),bm w0 (S0.dS D l (rec .ready none) fm) F.N (join K' B) ⟨[],rp.oe k,n⟩ ⟨a.tmps,[]⟩ W ρ ro/\(rp.I k/\k<=res.n ())/\O=wR (S0.dS D l (rec .ready none) fm) ρ/\R=wT (S0.dS D l (rec .ready none) fm) ρ ro W0.heap.size):=⟨_,rfl⟩
 have ah:∀ {st:Loop} {Lx:Sx} {a':Act} {W:World} {ρ:Nat->Option Rl} {ro:Nat->Prop},bm w0 (S0.dS D l st fm) F.N (join K' B) Lx a' W ρ ro->W0.heap.size<=W.heap.size:=fun h=>by
  have:=Dg h.from_.inv.2.2;omega
 have hJO:JOk J:=by
  refine⟨fun p O R W b h hb => ?_,fun p O R W W' h e1 e2 e3 e4 hk => ?_⟩
  . rw [hJ] at h;rcases h with ⟨_,jump,S',ρ,ro,HR,_,rfl,rfl⟩|⟨k,_,ρ,ro,HR,_,rfl,rfl⟩
    . exact HR.abz (s:=W0.heap.size) (ah HR) (hb.elim id .inl)
    . exact HR.abz (s:=W0.heap.size) (ah HR) (hb.elim id .inl)
  . rw [hJ] at h ⊢;have key:∀ {st:Loop} {Lx:Sx} {ρ:Nat->Option Rl} {ro:Nat->Prop},bm w0 (S0.dS D l st fm) F.N (join K' B) Lx ⟨a.tmps,[]⟩ W ρ ro->(∀ b,wT (S0.dS D l (rec .ready none) fm) ρ ro W0.heap.size b->W'.heap[b]? = W.heap[b]?)->bm w0 (S0.dS D l st fm) F.N (join K' B) Lx ⟨a.tmps,[]⟩ W' ρ ro:=fun HR hk=>HR.CZ e1 e2 e3 e4 fun b _ hc=>hk b (by
     rcases hc with h|h|h|h
     . exact .inr (.inr (.inr oo))
     . exact .inr (.inl h)
     . exact .inl (.inl h)
     . exact .inr (.inr (.inl h)))
    rcases h with ⟨h0,jump,S',ρ,ro,HR,hst,rfl,rfl⟩|⟨k,h0,ρ,ro,HR,hI,rfl,rfl⟩
    . exact .inl ⟨h0,jump,S',ρ,ro,key HR fun b hb=>hk b (.inl hb),hst,rfl,rfl⟩
    . exact .inr ⟨k,h0,ρ,ro,key HR fun b hb=>hk b (.inl hb),hI,rfl,rfl⟩
 obtain⟨ρ2,H0,eP⟩:=gS 0 Gp (bO _) H tq Lv RS AK AL;have H1:=H0.CZ RY.1 RY.2.1 RY.2.2 oo fun b hb _=>abD b hb;have H2:bm w0 (S0.dS D l (rec .ready none) fm) F.N (join K' B) ⟨[],rp.oe 0,n⟩ ⟨a.tmps,[]⟩ W0 ρ2 ro:=H1.uC rfl rfl rfl rfl ⟨H1.from_.inv,hD0,mW⟩ rfl rfl (fun l' r b q1 q2 q3=>by
  have q4:=H0.own l' r b q1 q2;rcases q3 with q3|q3|q3
  . exact q4.2.2.2 q3
  . omega
  . omega) (fun b hb q3=>by
  have q4:=H.gu b hb;rcases q3 with q3|q3|q3
  . exact (H.ew b hb).2 q3
  . omega
  . omega) aoI
 have tu:=abA.2 ai res qz W0 ro vs l J (wR (S0.dS D l (rec .ready none) fm) ρ2) (wT (S0.dS D l (rec .ready none) fm) ρ2 ro W0.heap.size) hJO (fun b hb=>⟨by have:=H.gu b hb; omega,fun ho=>by
  rcases ho with ⟨l',r,q1,q2⟩|ho
  . exact (H2.own l' r b q1 q2).2.1 hb
  . exact (H2.ew b hb).2 ho⟩) (hEr.mono (fun b hb q=>abD b q) (Ext.refl _) (aA _) fun _ h=>h) jr (by
  rw [hJ];exact .inr ⟨0,rfl,ρ2,ro,H2,⟨Gp,bO _⟩,rfl,rfl⟩) ?hY
 case hY =>
  intro p O R W args rr HJ hp hE rZ;rw [hJ] at HJ;rcases HJ with ⟨h0,_⟩|⟨k,h0,ρ1,oZ,HR,⟨RZ,dN⟩,hO,hR⟩
  . omega
  obtain rfl:p=k:=oo
  obtain⟨hc,Sk,RV,cC,_⟩:=nP p RZ dN;have cC:=cC hp;simp only [ax] at hc;have yS:∀ b,O b->R b\/rr b:=fun b h=>by rw [hR]; rw [hO] at h; exact .inl (.inl h)
  have hRo:∀ b,oZ b->R b:=fun b h=>by rw [hR]; exact .inr (.inl h)
  have hOl:O l:=by rw [hO]; exact .inr (.inr (.inr rfl))
  have hOw:∀ b,(S0.dS D l (rec .ready none) fm).own b->O b:=fun b h=>by rw [hO]; exact .inr h
  have hOp:∀ l r b,ρ1 l=some r->r.b8=some b->O b:=fun l r b q1 q2=>by rw [hO]; exact .inl ⟨l,r,q1,q2⟩
  have hlB:¬ (S0.Gl O (fun b=>R b\/rr b) W yS).jK l:=fun h=>h.elim Lu fun h=>h.2 hOl;have HM:=HR.more (rr:=rr) fun b hb=>⟨(rZ b hb).1,fun l' r q1 q2=>(rZ b hb).2.1 (hOp l' r b q1 q2),fun q=>(H.ew b ((rZ b hb).2.2 oo)).1 q,fun q=>(rZ b hb).2.1 (hOw b q)⟩
  have HB:bm w0 ((S0.Gl O (fun b=>R b\/rr b) W yS).dS D l (rec .ready none) fm) F.N (join K' B) ⟨[],rp.oe p,n⟩ ⟨a.tmps,[]⟩ W ρ1 (fun b=>oZ b\/rr b):=HM.uC rfl rfl rfl rfl ⟨⟨HM.from_.inv.1,⟨rfl,rfl,rfl⟩,aA _,fun _ _ _=>rfl⟩,HM.from_.inv.2⟩ rfl rfl (fun l' r b q1 q2 q3=>by
   have q4:=(HM.own l' r b q1 q2).2.2.2;rcases q3 with (q3|q3)|q3
   . exact q4 (.inl q3)
   . exact q3.2 (hOp l' r b q1 q2)
   . exact q4 (.inr q3)) (fun b hb q3=>by
   have q4:=(HM.ew b hb).2;rcases q3 with (q3|q3)|q3
   . exact q4 (.inl q3)
   . exact q3.2 (hb.imp (hRo b) id)
   . exact q4 (.inr q3)) HM.fm
  obtain⟨vW,HP⟩:=abu RV (abt hE hc.2 fun b hb => .inr hb) HB;have FT:=run_yield (P:=P) (args:=args.toArray) HR.from_.inv.2.2 (by rw [ng]; simpa using vW.symm);rw [ng] at FT;dsimp only at FT;refine⟨fn,_,x,y,FT,roundIn_of_wpIn trivial ?_⟩;have aoN:(ps.zip args.toArray).foldl (fun tmps p=>tmps.setIfInBounds p.1 p.2) a.tmps=(ps.toList.zip args).foldl (fun t p=>t.setIfInBounds p.1 p.2) a.tmps:=by rw [<- Array.foldl_toList,Array.toList_zip]
  have fv:∀ {st:Loop} (ju:Loop) {S3:Sx} {a':Act} {W3:World} {ρ3:Nat->Option Rl} {Ly:Nat->Prop},bm w0 ((S0.Gl O (fun b=>R b\/rr b) W yS).dS D l st fm) F.N (join K' B) S3 a' W3 ρ3 Ly->bm w0 (S0.dS D l ju fm) F.N (join K' B) ⟨[],S3.e,S3.n⟩ ⟨a.tmps,[]⟩ (W3.putObj l (.loop ju)) ρ3 Ly/\QW O (wR (S0.dS D l (rec .ready none) fm) ρ3) R (wT (S0.dS D l (rec .ready none) fm) ρ3 Ly W0.heap.size) rr W (W3.putObj l (.loop ju)):=by
   intro st ju S3 a' W3 ρ3 Ly HA;have HF:=(HA.frame (a':=⟨a.tmps,[]⟩) rfl H.size aoJ).RQ (rec':=ju) oo hlB oo;have hi:=HF.from_.inv;have R0:∀ b,wR (S0.dS D l (rec .ready none) fm) ρ3 b->O b\/W.heap.size<=b:=fun b h=>by
    rcases h with ⟨l',r,q1,q2⟩|h
    . have q3:=(HF.own l' r b q1 q2).2.2.2;by_cases q4:O b
      . exact .inl q4
      . rcases b9 b W.heap.size with q5|q5
        . exact absurd (.inl (.inr ⟨q5,q4⟩)) q3
        . exact .inr q5
    . exact .inl (hOw b h)
   refine⟨HF.uC rfl rfl rfl rfl ⟨hi.1.1,hi.2⟩ rfl rfl (fun l' r b q1 q2 q3=>(HF.own l' r b q1 q2).2.2.2 (q3.imp .inl id)) (fun b hb q3=>(HF.ew b hb).2 (q3.imp .inl id)) HF.fm,hi.1.2.1.1,hi.1.2.1.2.1,hi.1.2.1.2.2,hi.1.2.2.1,hi.1.2.2.2,R0,fun b h => ?_⟩;rcases h with h|h|h|h
   . exact (R0 b h).elim (fun h=>(yS b h).imp id .inl) fun h => .inr (.inr h)
   . have q3:=(HF.ew b h).2;by_cases q4:R b\/rr b
     . exact q4.imp id .inl
     . rcases b9 b W.heap.size with q5|q5
       . exact absurd (.inl (.inr ⟨q5,q4⟩)) q3
       . exact .inr (.inr q5)
   . rw [hR]; exact .inl (.inr (.inr (.inl h)))
   . rw [hR]; exact .inl (.inr (.inr (.inr h)))
  have hA:=ih x (join K' B) Sk _ _ _ (some l) _ W (abE ((S0.Gl O (fun b=>R b\/rr b) W yS).dS D l (rec .ready none) fm) rfl rfl rfl) rfl cC ⟨_,rfl,_,_,HP⟩ (.wB _ _ _) hx;rw [<- aoN] at hA;refine wpIn_mono hA fun e a1 w1 hq => ?_
  cases e with
  | normal =>
   obtain⟨g1,S1,_,HS1,gL⟩:=hq
   cases g1 with
   | zero=>unfold cont at gL; exact gL.elim
   | succ g1 =>
    unfold cont at gL;obtain⟨T,rfl,ρa,roa,HA⟩:=HS1;refine⟨_,run_beginRound HA.from_.inv.2.2 (by rw [ng]),?_⟩;have HA2:=HA.RQ (rec' := { rec .ready none with state := .busy }) oo hlB oo;refine wpIn_mono (ih y (join K' B) S1 _ _ _ (some l) _ _ (abE ((S0.Gl O (fun b=>R b\/rr b) W yS).dS D l { rec .ready none with state := .busy } fm) rfl rfl rfl) rfl gL ⟨_,rfl,_,_,HA2⟩ (.dS _ _ _ _ _) hy) fun e a3 w3 hq => ?_
    cases e with
    | normal =>
     obtain⟨g2,S3,_,HS3,mC⟩:=hq
     cases g2 with
     | zero=>unfold cont at mC; exact mC.elim
     | succ g2 =>
      unfold cont at mC;dsimp only at mC;split at mC
      . obtain⟨hI3,aoR⟩:=mC;obtain⟨T,rfl,ρc,yU,HC⟩:=Ln (fun T e=>(by subst e; exact aF.pl S0 hS)) 3 HS3;obtain⟨ρd,HD,_⟩:=gS (p+1) hI3 oo HC tq (fun _ h=>h) aoR (fun d z hz=>HC.tm d z (by unfold dD; rw [HC.jL d z hz]; exact hz)) fun l e he=>HC.en l e (by unfold bf; rw [HC.jM l e he]; exact he);obtain⟨q1,q2⟩:=fv (rec .ready none) HD;refine⟨_,_,run_endRound none HD.from_.inv.2.2,true,wR (S0.dS D l (rec .ready none) fm) ρd,wT (S0.dS D l (rec .ready none) fm) ρd yU W0.heap.size,rfl,?_,?_⟩
        . rw [hJ];refine .inr ⟨p+1,rfl,ρd,yU,?_,⟨hI3,oo⟩,rfl,rfl⟩;rw [ng] at q1 ⊢;exact q1
        . rw [ng] at q2 ⊢;exact q2
      . exact mC.elim
    | exit id =>
     obtain⟨g2,S3,_,⟨T,rfl,ρc,yU,HC⟩,mC⟩:=hq
     cases g2 with
     | zero=>unfold exitTo at mC; exact mC.elim
     | succ g2 =>
      unfold exitTo at mC;obtain⟨q1,q2⟩:=fv (rec .done (some (.exit id))) HC;refine⟨_,_,run_endRound (some (.exit id)) HC.from_.inv.2.2,false,wR (S0.dS D l (rec .ready none) fm) ρc,wT (S0.dS D l (rec .ready none) fm) ρc yU W0.heap.size,rfl,?_,?_⟩
      . rw [hJ];refine .inl ⟨rfl,.exit id,S3,ρc,yU,?_,.inl ⟨id,rfl,mC⟩,rfl,rfl⟩;rw [ng] at q1 ⊢;exact q1
      . rw [ng] at q2 ⊢;exact q2
    | ret =>
     obtain⟨g2,S3,_,⟨T,rfl,ρc,yU,HC⟩,mC⟩:=hq
     cases g2 with
     | zero=>unfold lA at mC; exact mC.elim
     | succ g2 =>
      unfold lA at mC;obtain⟨q1,q2⟩:=fv (rec .done (some .ret)) HC;refine⟨_,_,run_endRound (some .ret) HC.from_.inv.2.2,false,wR (S0.dS D l (rec .ready none) fm) ρc,wT (S0.dS D l (rec .ready none) fm) ρc yU W0.heap.size,rfl,?_,?_⟩
      . rw [hJ];refine .inl ⟨rfl,.ret,S3,ρc,yU,?_,.inr ⟨rfl,mC⟩,rfl,rfl⟩;rw [ng] at q1 ⊢;exact q1
      . rw [ng] at q2 ⊢;exact q2
    | goto l=>exact hq.elim
    | panic c=>exact hq.elim
    | outgrown=>exact hq.elim
  | exit id =>
   obtain⟨g1,S1,_,_,gL⟩:=hq;cases g1<;>(unfold exitTo at gL; exact gL.elim)
  | ret =>
   obtain⟨g1,S1,_,_,gL⟩:=hq;cases g1<;>(unfold lA at gL; exact gL.elim)
  | goto l=>exact hq.elim
  | panic c=>exact hq.elim
  | outgrown=>exact hq.elim
 have xO:∀ {st:Loop} {S':Sx} {W:World} {ρ:Nat->Option Rl} {ro:Nat->Prop},bm w0 (S0.dS D l st fm) F.N (join K' B) ⟨[],S'.e,S'.n⟩ ⟨a.tmps,[]⟩ W ρ ro->aS w0 Φ F.N B ⟨K'.t,S'.e++K'.e,S'.n⟩ { a with defers := [⟨.collected D,#[]⟩]++a.defers } (W.putObj l (.loop { st with state := .exhausted })):=by
  intro st S' W ρ ro HR;have HF:=HR.RQ (rec' := { st with state := .exhausted }) oo Lu oo;have HT:bm w0 (S0.mark D) F.N (join K' B) ⟨[],S'.e,S'.n⟩ { a with defers := [⟨.collected D,#[]⟩]++a.defers } _ ρ ro:=HF.uC rfl rfl rfl rfl ⟨HF.from_.inv.1,HF.from_.inv.2.1⟩ (by rw [H.defers]; rfl) rfl (fun l' r b q1 q2 q3=>(HF.own l' r b q1 q2).2.2.2 (q3.imp id .inl)) (fun b hb q3=>(HF.ew b hb).2 (q3.imp id .inl)) fun d v h=>⟨(H.fm d v h).1,Lv d (H.fm d v h).2⟩
  exact⟨_,E.mks rfl qP S0 hS D hDf oo,_,_,bm.aa2 (S0:=S0.mark D) (fun d v h=>(H.fm d v h).2) Gr Gs HT⟩
 refine (show CallsIn (wd none) (0 - 1) P _ _ _ _ from tu).mono ?_
 rintro e W' ⟨⟨v,rfl⟩,O,R,hJ'⟩
 rw [hJ] at hJ';rcases hJ' with (⟨h0,_⟩|⟨k,h0,ρ1,oZ,HR,⟨RZ,dN⟩,_⟩)|(⟨_,jump,S',ρ1,oZ,HR,hst,_⟩|⟨k,h0,_⟩)
 . omega
 . obtain rfl:res.n ()=k:=oo
   refine⟨_,_,run_endLoop HR.from_.inv.2.2 (by rw [ng]; simp),?_⟩;rw [ng];have hq:=xO (S':=⟨[],rp.oe (res.n ()),n⟩) HR;rw [ng] at hq;exact⟨f,_,oo,hq,(nP _ RZ dN).2.elim fun Sk h=>h.2.2 rfl⟩
 . refine⟨_,_,run_endLoop HR.from_.inv.2.2 (by rw [ng]; simp),?_⟩;have hq:=xO HR;rw [ng] at hq ⊢;rcases hst with ⟨id,rfl,hP⟩|⟨rfl,hP⟩
   . exact wpIn_exit ⟨f,_,oo,hq,hP⟩
   . exact wpIn_ret ⟨f,_,oo,hq,hP⟩
 . omega
theorem abK(aE:cT P F.C.ty)(kc:P.follows .mixedOrders=true):∀ (f),aby P F w0 f:=by
 intro f
 induction f using Nat.strongRecOn with
 | ind f ih0 =>
 intro c B S K Φ fd r a w E hr h H tD aI;have aF:=E.cx;have ih:∀ g,g<f->∀ (c:Code) (B:Bs) (S:Sx) (K':List Kt) (a:Act) (w:World),(run F g c B S K').P->aS w0 Φ F.N B S a w->Wf fd (ca F.C) F.C.sc F.C.lt F.N B K'->codeOk (ca F.C) F.C.sc F.C.lt F.N c=true->CR K'=CR K->c.wpIn (wd r) 0 P (KQ F w0 Φ g B K') a w:=fun g hg c B S K' a w h1 h2 h3 h4 h5=>ih0 g hg c B S K' Φ fd r a w E (hr.trans h5.symm) h1 h2 h3 h4
 cases f with
 | zero=>unfold run at h; exact h.elim
 | succ f =>
  cases c with
  | skip=>unfold run at h; exact wpIn_skip ⟨f,S,oo,H,h⟩
  | label l=>unfold run at h; exact wpIn_label ⟨f,S,oo,H,h⟩
  | goto l=>unfold run at h; exact h.elim
  | scope b=>unfold run at h; exact h.elim
  | refuse why=>unfold run at h; exact h.elim
  | rangeFunc g ps x y =>
   simp only [codeOk,ax] at aI;exact aoB aE E hr (ih0 f oo) h H tD aI.1 aI.2
  | ret=>unfold run at h; exact wpIn_ret ⟨f,S,oo,H,h⟩
  | exit id=>unfold run at h; exact wpIn_exit ⟨f,S,oo,H,h⟩
  | region id ops draw =>
   have H:aS w0 Φ F.N B (cond F.C.fx S (rT F.C.nb B (CT F.C.fz id) S)) a w:=by
    cases hc:F.C.fx with
    | true=>exact H
    | false=>exact Ag aF.pl (fun S0 hS=>by rw [aF.fx S0 hS,hc]) H
   have H:=alO F.C id H;unfold run at h;have h:=aox h;have hk:∀ S' a' w',aS w0 Φ F.N B S' a' w'->(cont F f B S' K).P->KQ F w0 Φ (f+1) B K .normal a' w':=fun S' a' w' H' h'=>⟨f,S',oo,H',h'⟩
   have RP:ops.toList.toArray=ops:=by simp
   have pV:∀ o∈ops.toList,∀ c,o.op ≠ .defer c:=fun o ho c e=>by
    simp only [codeOk,ax] at aI;have:=dL.1 aI.1 o ho;rw [e] at this;cases this
   cases draw with
   | false=>exact wpIn_region_list (Ql pV (by rw [<- RP]; simpa using FV aE aF hk h H))
   | true =>
    dsimp only at h
    cases hj:J9 F.C.jn id with
    | none =>
     rw [hj] at h;exact abv pV aE aF kc (fun _ _ _ hq=>hq.elim) aI hk h H
    | some ks =>
     rw [hj] at h;obtain⟨S2,h2,k',h3,h4⟩:=aow (w0:=w0) (Φ := Φ) h;exact abv pV aE aF kc (fun _ _ _ hq=>hq.elim) aI (fun S' a' w' H' e9=>hk S2 a' w' (h4 S' a' w' H' e9) h2) h3 H
  | seq x y =>
   unfold run at h;simp only [codeOk,ax] at aI;refine wpIn_seq (wpIn_mono (ih f oo x B S (.code y::K) a w h H (.code _ _ _ aI.2 tD) aI.1 rfl) fun e a' w' hq => ?_)
   cases e with
   | normal =>
    obtain⟨g,S',hg,H',hc⟩:=hq
    cases g with
    | zero=>unfold cont at hc; exact hc.elim
    | succ g =>
     unfold cont at hc;exact wpIn_mono (ih g oo y B S' K a' w' hc H' tD aI.2 rfl) fun e a w q=>q.more oo
   | exit id =>
    obtain⟨g,S',hg,H',hc⟩:=hq
    cases g with
    | zero=>unfold exitTo at hc; exact hc.elim
    | succ g=>unfold exitTo at hc; exact⟨g,S',oo,H',hc⟩
   | ret =>
    exact abM
   | goto l=>exact hq.elim
   | panic c=>exact hq.elim
   | outgrown=>exact hq.elim
  | cond x c1 c2 =>
   unfold run at h;dsimp only at h;simp only [codeOk,Bool.and_eq_true] at aI;obtain⟨S0,hS,ρ,ro,HR⟩:=H;have hx:=HR.get x;split at h
   . rename_i hg;rw [hg] at hx;exact wpIn_cond_true hx.pD (wpIn_mono (ih f oo c1 B S K a w h ⟨S0,hS,ρ,ro,HR⟩ tD aI.1 rfl) fun e a w q=>q.more oo)
   . rename_i hg;rw [hg] at hx;exact wpIn_cond_false hx.pD (wpIn_mono (ih f oo c2 B S K a w h ⟨S0,hS,ρ,ro,HR⟩ tD aI.2 rfl) fun e a w q=>q.more oo)
   . rename_i t hg;rw [hg] at hx;exact wpIn_cond_split hx.oJ (fun ht=>wpIn_mono (ih f oo c1 B S K a w (h.1 ht) ⟨S0,hS,ρ,ro,HR⟩ tD aI.1 rfl) fun e a w q=>q.more oo) fun ht=>wpIn_mono (ih f oo c2 B S K a w (h.2 ht) ⟨S0,hS,ρ,ro,HR⟩ tD aI.2 rfl) fun e a w q=>q.more oo
   . exact h.elim
  | block id b =>
   unfold run at h;refine wpIn_block (wpIn_mono (ih f oo b B S (.block id::K) a w h H (.block _ _ _ tD) aI rfl) fun e a' w' hq => ?_)
   cases e with
   | normal =>
    obtain⟨g,S',hg,H',hc⟩:=hq
    cases g with
    | zero=>unfold cont at hc; exact hc.elim
    | succ g=>unfold cont at hc; exact⟨g,S',oo,H',hc⟩
   | exit Kv =>
    obtain⟨g,S',hg,H',hc⟩:=hq
    cases g with
    | zero=>unfold exitTo at hc; exact hc.elim
    | succ g =>
     unfold exitTo at hc;dsimp only at hc;show if Kv=id then _ else _
     by_cases e:id=Kv
     . subst e;rw [aC rfl] at hc ⊢;exact⟨g,S',oo,H',hc⟩
     . rw [aw e] at hc;rw [aw (fun h=>e h.symm)];exact⟨g,S',oo,H',hc⟩
   | ret =>
    exact abM
   | goto l=>exact hq.elim
   | panic c=>exact hq.elim
   | outgrown=>exact hq.elim
  | loop b =>
   unfold run at h;dsimp only at h;split at h
   . rename_i k iz
     cases EL:bD k F.C.ul with
     | true =>
      have aoS:∀ g,g<=f+1->∀ (S:Sx) (a:Act) (w:World),(run F g (.loop b) B S K).P->aS w0 Φ F.N B S a w->Code.roundsIn (wd r) 0 P b (KQ F w0 Φ (f+1) B K) g a w:=by
       intro g
       induction g using Nat.strongRecOn with
       | ind g ihg =>
       intro hg S a w h H
       cases g with
       | zero=>unfold run at h; exact h.elim
       | succ g =>
        unfold run at h;dsimp only at h;rw [iz] at h;dsimp only at h;rw [EL] at h;dsimp only at h;rw [roundsIn_succ];refine wpIn_mono (ih g oo b B S (.again b::K) a w h H (.again _ _ _ aI tD) aI rfl) fun e a' w' hq => ?_
        cases e with
        | normal =>
         obtain⟨g',S',rH,H',hc⟩:=hq
         cases g' with
         | zero=>unfold cont at hc; exact hc.elim
         | succ g' =>
          unfold cont at hc;exact abx (ihg g' oo oo S' a' w' hc H') oo
        | exit id =>
         obtain⟨g',S',rH,H',hc⟩:=hq
         cases g' with
         | zero=>unfold exitTo at hc; exact hc.elim
         | succ g'=>unfold exitTo at hc; exact⟨g',S',oo,H',hc⟩
        | ret =>
         obtain⟨g',S',rH,H',hc⟩:=hq
         cases g' with
         | zero=>unfold lA at hc; exact hc.elim
         | succ g'=>unfold lA at hc; exact⟨g',S',oo,H',hc⟩
        | goto l=>exact hq.elim
        | panic c=>exact hq.elim
        | outgrown=>exact hq.elim
      refine wpIn_loop_rounds (f+1) (aoS (f+1) (Nat.le_refl _) S a w ?_ H);unfold run;dsimp only;rw [iz];exact h
     | false =>
      rw [EL] at h;dsimp only at h;obtain⟨lp,⟨Gp,RS⟩,bS⟩:=aoy h;generalize hn:m7 S.n (dE (lp.oe lp.x0))=n at bS;generalize yT:(⟨nT (P3 b (dE (lp.oe lp.x0)) n S.t) (dE (lp.oe lp.x0)) n S.t,qB (dE (lp.oe lp.x0)) n S.e⟩:Bs)=K' at bS;have nP:∀ x,lp.I x->(qC (dE (lp.oe x)) (dE (lp.oe lp.x0))&&lR (cN n) (lp.ov x)&&jv (cN n) (lp.oe x)&&lS (join K' B).t (lp.ov x)&&lS (join K' B).e (lp.oe x))=true/\(run F f b (join K' B) ⟨lp.ov x,lp.oe x,n⟩ (.back B K' (fun Bi S'=>if n<=S'.n then (match lp.nx with
       | some nx => .vc [fun _=>lp.I (nx x)/\lp.μ (nx x) ()<lp.μ x ()] (m8 Bi (Al F.C.nb Bi S' (lp.ov (nx x)) (lp.oe (nx x))) (lp.ov (nx x)) (lp.oe (nx x)))
       | none => .ex lp.X (fun y=>lp.I y/\lp.μ y ()<lp.μ x ()) fun y=>m8 Bi (Al F.C.nb Bi S' (lp.ov y) (lp.oe y)) (lp.ov y) (lp.oe y)) else .ff 17)::K)).P:=by
       intro x hx;have h1:=bS x hx;dsimp only at h1;by_cases hc:(qC (dE (lp.oe x)) (dE (lp.oe lp.x0))&&lR (cN n) (lp.ov x)&&jv (cN n) (lp.oe x)&&lS (join K' B).t (lp.ov x)&&lS (join K' B).e (lp.oe x))=true
       . rw [aC hc] at h1;exact⟨hc,h1⟩
       . rw [aw hc] at h1;exact h1.elim
      obtain⟨S0,hS,ρ,ro,HR⟩:=H;have Gq:S.n<=n:=by rw [<- hn]; exact Lh _ _
      obtain⟨tB,AK,AL,RT,RU⟩:=Lj HR (md:=P3 b (dE (lp.oe lp.x0)) n S.t) (aG:=dE (lp.oe lp.x0)) Gq (join K' B) (by rw [yT]);have Gr:∀ d x,aj B.t d=some x->aj K'.t d=none:=by rw [<- yT]; exact RT
      have Gs:∀ l e,aj B.e l=some e->aj K'.e l=none:=by rw [<- yT]; exact RU
      have hF:∀ d,fd d->(aj B.t d).isSome=true:=fun d hd=>by
       obtain⟨v,hv⟩:=(E.fm S0 hS d).1 hd;exact (HR.fm d v hv).2
      have tq:∀ S1,Φ S1->∀ l r,S1.pl l=some r->(r.dz||S1.fx)=true->l<n:=fun S1 Dh l r q1 q2=>by
       obtain⟨r',q1,q2⟩:=aF.dm S0 S1 hS Dh l r q1 q2;have q3:=HR.dz l r' q1 q2;rcases b9 l n with h|h
       . exact h
       . rw [HR.fresh l (dQ Gq h)] at q3; cases q3
      have gS:∀ x {T1:Pm} (_ : Φ T1) {BB:Bs} (_:∀ d,(aj BB.t d).isSome=true->(aj (join K' B).t d).isSome=true) {S1:Sx} {a1:Act} {w1:World} {ρ1:Nat->Option Rl} {oZ:Nat->Prop},bm w0 T1 F.N BB S1 a1 w1 ρ1 oZ->lp.I x->(m8 BB S1 (lp.ov x) (lp.oe x)).P->(∀ d y,aj (join K' B).t d=some y->∃ u,a1.tmps[d]? = some u/\af w1 ρ1 w0.heap.size oZ y u)->(∀ l e,aj (join K' B).e l=some e->c9 w1 ρ1 w0.heap.size oZ l e)->aS w0 Φ F.N (join K' B) ⟨lp.ov x,lp.oe x,n⟩ a1 w1:=by
       intro x T1 abN BB Lv S1 a1 w1 ρ1 oZ H1 hx heq RW RX;obtain⟨ta,tb,e1,e2,e3⟩:=Lm heq;have hc:=(nP x hx).1;simp only [ax] at hc;exact H1.Rw abN (tq T1 abN) e1 e2 e3 hc.1.1.1.2 hc.1.1.2 hc.1.2 hc.2 (fun d y hy=>by obtain⟨u,q1,q2⟩:=RW d y hy; exact⟨u,q1,q2,tB.t d y hy⟩) (fun l e he=>⟨RX l e he,tB.e l e he⟩) Lv
      refine wpIn_loop_ghost (fun m a w=>∃ x,lp.I x/\lp.μ x ()=m/\aS w0 Φ F.N (join K' B) ⟨lp.ov x,lp.oe x,n⟩ a w) (lp.μ lp.x0 ()) ⟨lp.x0,Gp,rfl,gS lp.x0 hS (fun d hd=>by unfold join; dsimp only; rw [qJ]; split<;>first|rfl|exact hd) HR Gp RS AK AL⟩ ?_
      rintro m a1 w1 ⟨x,hx,rfl,H1⟩
      have cC:=(nP x hx).2;refine wpIn_mono (ih f oo b (join K' B) _ _ a1 w1 cC H1 (.back _ _ _ _ hF Gr Gs tD) aI rfl) fun e a' w' hq => ?_
      cases e with
      | normal =>
       obtain⟨g,S',hg,H',hc⟩:=hq
       cases g with
       | zero=>unfold cont at hc; exact hc.elim
       | succ g =>
        unfold cont at hc;dsimp only at hc;split at hc
        . have fv:∀ y,lp.I y->lp.μ y ()<lp.μ x ()->(m8 (join K' B) (Al F.C.nb (join K' B) S' (lp.ov y) (lp.oe y)) (lp.ov y) (lp.oe y)).P->∃ n',n'<lp.μ x ()/\∃ x',lp.I x'/\lp.μ x' ()=n'/\aS w0 Φ F.N (join K' B) ⟨lp.ov x',lp.oe x',n⟩ a' w':=by
           intro y hy ah heq;obtain⟨S0,hS,ρ',ro',Gt⟩:=Ln aF.pl _ H';exact⟨_,ah,y,hy,rfl,gS y hS (fun _ h=>h) Gt hy heq (fun d z hz=>Gt.tm d z (by unfold dD; rw [Gt.jL d z hz]; exact hz)) fun l e he=>Gt.en l e (by unfold bf; rw [Gt.jM l e he]; exact he)⟩
          split at hc
          . rename_i nx lC;obtain⟨⟨q1,q2⟩,q3⟩:=hc;exact fv _ q1 q2 q3
          . obtain⟨y,⟨q1,q2⟩,q3⟩:=hc;exact fv y q1 q2 q3
        . exact hc.elim
      | exit id =>
       obtain⟨g,S',hg,H',hc⟩:=hq
       cases g with
       | zero=>unfold exitTo at hc; exact hc.elim
       | succ g=>unfold exitTo at hc; exact⟨g,_,oo,aa3 (fun S0 hS d v hv=>hF d ((E.fm S0 hS d).2 ⟨v,hv⟩)) Gr Gs H',hc⟩
      | ret =>
       obtain⟨g,S',hg,H',hc⟩:=hq
       cases g with
       | zero=>unfold lA at hc; exact hc.elim
       | succ g=>unfold lA at hc; exact⟨g,_,oo,aa3 (fun S0 hS d v hv=>hF d ((E.fm S0 hS d).2 ⟨v,hv⟩)) Gr Gs H',hc⟩
      | goto l=>exact hq.elim
      | panic c=>exact hq.elim
      | outgrown=>exact hq.elim
   . exact h.elim
end
def Di(tmps:Array Value):ResultVar->Sem Value
 | .tmp t=>pure (tmps.getD t undef)
 | .cell p t=>do loadVar t (<- asAddr (tmps.getD p undef))
def R1:List Value->Value
 | [v]=>v
 | vs => .tuple vs.toArray
section
variable{w w' w0:World}{ρ ρ' ρ2:Nat->Option Rl}{base j7 n:Nat}{ro ro':Nat->Prop}{S0:Pm}{Φ : Pm->Prop}{N:Nat}{B:Bs}{S:Sx}{a:Act}{F:Fx}{P:Program}
theorem Lz{C:Cx}(aE:cT P C.ty)(H:bm w0 S0 N B S a w ρ ro):∀ {rs:List ResultVar} {l:List AV},tl C B S rs=some l ->
 ∃ vs,(rs.mapM (Di a.tmps)).run P w = .ok vs w/\aV w ρ w0.heap.size ro l vs
 | [],l,h=>by
  simp only [tl,bF] at h;subst h;exact⟨[],rfl,.nil⟩
 | .tmp t::rs,l,h=>by
  unfold tl at h
  cases hr:tl C B S rs with
  | none=>rw [hr] at h; cases h
  | some r =>
   rw [hr] at h;simp only [du,bF] at h;subst h;obtain⟨vs,h1,h2⟩:=Lz aE H hr;have h3:=H.get (.tmp t);refine⟨a.eval (.tmp t)::vs,?_,.cons h3 h2⟩;have hO:(Di a.tmps (.tmp t)).run P w = .ok (a.eval (.tmp t)) w:=rfl;exact abO
 | .cell p T::rs,l,h=>by
  unfold tl at h;split at h
  . rename_i i hi;split at h
    . rename_i x r hx hr;cases h;obtain⟨vs,h1,h2⟩:=Lz aE H hr;obtain⟨ad,v,h3,h4,h5⟩:=Ye (fun l e he=>H.en l e he) (aE T i hi) hx (H.get (.tmp p));refine⟨v::vs,?_,.cons h5 h2⟩;have h3':a.tmps.getD p undef = .pointer (some ad):=h3;have hA:(asAddr (a.tmps.getD p undef)).run P w = .ok ad w:=by rw [h3']; rfl
      have hO:(Di a.tmps (.cell p T)).run P w = .ok v w:=by
       unfold Di;simp only [bp,hA,bI,h4]
      exact abO
    . cases h
  . cases h
theorem abP(h:(fn.results.toList.mapM (Di a.tmps)).run P w = .ok vs w):(results fn a.tmps).run P w = .ok (R1 vs) w:=by
 show (do
  let vs <- fn.results.mapM (Di a.tmps)
  pure (if h:vs.size=1 then vs[0] else .tuple vs):Sem Value).run P w=_
 rw [Array.mapM_eq_mapM_toList];simp only [bp,Sem.run_map,h,bI,bL]
 match vs with
 | []=>rfl
 | [v]=>rfl
 | u::v::l=>simp [R1]
theorem aoV{l:List AV}(h:aV w ρ base ro l vs):af w ρ base ro (Kw l) (R1 vs):=by
 match l,vs,h with
 | [],[],h=>exact .ba [] [] h.1 h.2
 | [x],[v],h=>exact h.2 0 x v rfl rfl
 | x::y::l,u::v::vs,h=>exact .ba (x::y::l) (u::v::vs) h.1 h.2
 | [],_::_,h=>exact absurd h.1 (by simp)
 | _::_,[],h=>exact absurd h.1 (by simp)
 | [x],u::v::vs,h=>exact absurd h.1 (by simp)
 | x::y::l,[v],h=>exact absurd h.1 (by simp)
theorem R2:∀ (l) (k d) (x),aj (wF k l) d=some x->k<=d/\l[d - k]? = some x
 | [],k,d,x,h=>by cases h
 | y::l,k,d,x,h=>by
  unfold wF at h;rw [cm] at h;split at h
  . rename_i e;subst e;cases h;simp
  . obtain⟨h1,h2⟩:=R2 l (k+1) d x h;refine⟨oo,?_⟩;rw [show d - k=(d - (k+1))+1 from oo];simpa using h2
end
theorem yV{P : Program}(hf : P.funcs[f]? = some fn)(hb : fn.body.isNone = false)(hn : (fn.name == "runtime.NumGoroutine") = false)(args)(w) : (callFunc f args).run P w = .ok (.enter f args) w := by
 unfold callFunc;simp only [bp,mR,bI,hf,hn,hb,dV,dw,bL]
section
variable{w w' w0:World}{ρ ρ' ρ2:Nat->Option Rl}{base j7 n:Nat}{ro ro':Nat->Prop}
theorem aoW(ag)(t)(x):AV.qE (eo ag false t x)=true:=by
 unfold eo;have h:=RO t x
 cases ag with
 | true=>exact h
 | false =>
  simp only [dV,dw]
  cases hc:aP false t x with
  | nil=>rfl
  | cons c l =>
   rw [hc] at h
   cases l with
   | nil=>simpa [AV.nX] using h
   | cons c2 l=>rfl
theorem c9.wv{l:Nat}{e:En}(h:c9 w ρ base ro l e)(hx:En.qE e=true):c9 w ρ j7 ro l e:=by
 cases e with
 | box T cells =>
  obtain⟨b,cs,h1,h4,h5⟩:=h;exact⟨b,cs,h1,h4,h5.1,fun j x v pG hv=>(h5.2 j x v pG hv).wv (u3 (by simpa [En.qE] using hx) pG)⟩
 | row fr t T m =>
  obtain⟨A,c,css,h1,h2,h3,h5⟩:=h;have hf:fr=false:=by simpa [En.qE] using hx
  subst hf;exact⟨A,c,css,h1,h2,h3,fun k cs j x v k1 k2 k3=>(h5 k cs j x v k1 k2 k3).wv (u3 (RO _ _) k2)⟩
 | map fr ag c t T m =>
  obtain⟨b,es,clock,h1,h2,h3,h4⟩:=h;have hf:fr=false:=by simpa [En.qE] using hx
  subst hf;exact⟨b,es,clock,h1,h2,h3,h4.rQ fun x v hx=>hx.wv (aoW _ _ _)⟩
 | iter ml c seen left=>exact h
 | bo ml c key=>exact h
 | ft k=>exact h
 | dead=>exact h
theorem abQ:∀ {l:List (Nat×En)} {k:Nat} {e:En},Ky l=true->aj l k=some e->En.qE e=true
 | (j,y)::l,k,e,h,he=>by
  unfold Ky at h;simp only [ax] at h;rw [cm] at he;split at he
  . cases he; exact h.1
  . exact abQ h.2 he
 | [],_,_,_,he=>by cases he
theorem R3{ks:List Nat}:∀ {n l:Nat},yr ks n=true->l<n->bD l ks=true
 | n+1,l,h,hl=>by
  simp only [yr,ax] at h;rcases b9 l n with h1|h1
  . exact R3 h.2 h1
  . rw [show l=n from oo]; exact h.1
 | 0,_,_,hl=>oo
end
inductive wU (w0:World) (S:Pm):Pm->Prop
 | base:wU w0 S S
 | mark {T:Pm} (D:Nat) (h:wU w0 S T) (hD:¬ T.jK D) (hl:w0.heap.size<=D):wU w0 S (T.mark D)
theorem wU.same(h:wU w0 S T):T.rd=S.rd/\T.pl=S.pl/\T.fx=S.fx/\T.fm=S.fm:=by
 induction h with
 | base=>exact⟨rfl,rfl,rfl,rfl⟩
 | mark D h hD hl ih=>exact ih
section
variable{w0:World}{N:Nat}{B:Bs}{S:Sx}{P:Program}{fn:Func}{R:Ending->World->Prop}{Sb:Pm}
theorem aoX(hT:wU w0 Sb T):∀ {a:Act} {w:World} {ρ:Nat->Option Rl} {ro:Nat->Prop},bm w0 T N B S a w ρ ro->(∀ w ρ ro,bm w0 Sb N B S ⟨a.tmps,Sb.ds⟩ w ρ ro->LeavesInM Fence.wide 0 P fn a.tmps R Sb.ds .returning w)->LeavesInM Fence.wide 0 P fn a.tmps R T.ds .returning w:=by
 induction hT with
 | base=>intro a w ρ ro H h; exact h w ρ ro (H.uC rfl rfl rfl rfl H.from_.inv rfl rfl (fun l r b q1 q2=>(H.own l r b q1 q2).2.2.2) (fun b hb=>(H.ew b hb).2) H.fm)
 | mark D hT hD hl ih =>
  rename_i T;intro a w ρ ro H h;have hi:=H.from_.inv;have H1:bm w0 T N B S ⟨a.tmps,T.ds⟩ w ρ ro:=H.uC rfl rfl rfl rfl hi.1 rfl rfl (fun l r b q1 q2 q3=>(H.own l r b q1 q2).2.2.2 (.inl q3)) (fun b hb q3=>(H.ew b hb).2 (.inl q3)) H.fm;have H2:=H1.CZ (w':=w.putObj D (.deferred none)) rfl rfl rfl (by rw [World.putObj_size]; exact aA _) fun b hb hc=>World.putObj_heap_other (by
   rintro rfl
   rcases hc with h|h|⟨l,r,q1,q2⟩|h
   . omega
   . exact (H.ew _ h).2 (.inr rfl)
   . exact (H.own l r _ q1 q2).2.2.2 (.inr rfl)
   . exact hD h)
  exact⟨by simp,.inl ⟨D,_,rfl,run_takeDeferred hi.2,ih (a:=⟨a.tmps,T.ds⟩) H2 h⟩⟩
end
theorem abR{P:Program}{Ls:List (Nat×Lp)}{ai:List AV}{An es:List (Nat×En)}{want:AV}(aE:cT P C.ty)(aF:(∀ c∈C.cs,aU P c)/\(∀ c∈C.fs,ij P c)/\∀ c∈C.lQ,qK P c)(qP:C.yl=none)(kc:P.follows .mixedOrders=true)(hf:P.funcs[f]? = some fn)(hb:fn.body.isNone=false)(aI:codeOk (kn C.fs) C.sc C.lt fn.ntmps (kx fn)=true)(hP:(Am C Ls fn ai An n0 want es).P){ρ:Nat->Option Rl}(nj:∀ b,ra b->b<w.heap.size)(hE:aV w ρ 0 ra ai dM)(lu:∀ l e,aj An l=some e->c9 w ρ 0 ra l e)(jx:∀ l l' r r' b,l≠l' -> ρ l=some r -> ρ l'=some r'->r.b8=some b->r'.b8≠some b)(cP:∀ l,n0<=l -> ρ l=none)(bw:∀ l r b,ρ l=some r->r.b8=some b->b<w.heap.size/\¬ ra b) :
 Calls P f dM.toArray w fun e w'=>∃ v ρ1 fc,e = .returned v/\Left w w' ρ ρ1 ra fc es C.fx/\af w' ρ1 w.heap.size fc want v:=by
 unfold Am at hP;split at hP
 . rename_i nP;simp only [ax,aL] at nP;obtain⟨⟨⟨⟨⟨⟨kA,hlen⟩,lV⟩,aT⟩,cU⟩,abS⟩,bS⟩:=nP;obtain⟨code,Gu⟩:∃ code,fn.body=some code:=by
    exact abT
   have vX:kx fn=code:=by unfold kx; rw [Gu]; rfl
   rw [vX] at hP aI;have mv:dM.length<=fn.ntmps:=by rw [<- hE.1]; exact hlen
   have aoY:ca C=kn C.fs:=by unfold ca; rw [qP]
   rw [<- aoY] at aI;refine callsIn_wide.1 (callsIn_of_wp_marks (F:=Fence.wide) (n:=0) hf Gu trivial ?_);obtain⟨Sb,Gv⟩:∃ Sb:Pm,Sb = { rd:=ra,pl := ρ,fx:=C.fx }:=⟨_,rfl⟩
   have R4:aS w (wU w Sb) fn.ntmps ⟨[],[]⟩ ⟨wF 0 ai,An,n0⟩ ⟨dM.toArray++Array.replicate (fn.ntmps - dM.toArray.size) undef,[]⟩ w:=by
    subst Gv;refine⟨_,.base,ρ,ra,⟨rfl,rfl,rfl,aA _,fun _ _ _ _=>rfl,trivial⟩,by simp; omega,rfl,nj,fun d x hx => ?_,fun l e he => ?_,jx,cP,fun l r b h1 h2=>⟨(bw l r b h1 h2).1,(bw l r b h1 h2).2,.inr ⟨r,h1,h2⟩,id⟩,fun b hb=>⟨fun _=>hb,id⟩,fun l r h _=>h,fun d x h=>by simp [aj] at h,fun l e h=>by simp [aj] at h,fun d v h=>by cases h⟩
    . have h1:aj (wF 0 ai) d=some x:=by
       exact abU
      obtain⟨_,h2⟩:=R2 ai 0 d x h1;rw [rC] at h2;obtain⟨v,h3,h4⟩:=hE.get h2;refine⟨v,?_,h4.wv (u3 lV h2)⟩;have hd:=(cF.1 h3).1;rw [azg (by simpa using hd)];simpa using h3
    . have h1:aj An l=some e:=by
       exact abV
      exact (lu l e h1).wv (abQ aT h1)
   have abW:∀ l r,ρ l=some r->l<C.nb:=fun l r h=>by
    rcases b9 l n0 with h1|h1
    . omega
    . rw [cP l h1] at h; cases h
   have R5:Gn P ⟨C,fn.ntmps,Ls,CW C fn.results.toList want es⟩ w (wU w Sb) (fun _=>False) none:=by
    subst Gv;exact⟨{ cs:=aF.1,fs:=aF.2.1,lQ:=aF.2.2,fx:=fun T h=>h.same.2.2.1,pl:=fun T h l r hl=>by rw [h.same.2.1] at hl; exact abW l r hl,dm:=fun T U h k l r q1 q2=>⟨r,by rw [h.same.2.1,<- k.same.2.1]; exact q1,by rw [h.same.2.2.1,<- k.same.2.2.1]; exact q2⟩,yl:=fun y h=>by rw [qP] at h; cases h },fun T h d=>by rw [h.same.2.2.2]; exact⟨False.elim,fun ⟨v,h⟩=>by cases h⟩,fun _ _ T h D h1 h2=>h.mark D h1 h2⟩
   refine wpIn_mono (abK (F:=⟨C,fn.ntmps,Ls,CW C fn.results.toList want es⟩) (w0:=w) aE kc 100000 code ⟨[],[]⟩ _ [] _ _ none _ w R5 rfl hP R4 (.nil _) aI) fun e a' w' hq => ?_;have aoZ:∀ S w',aS w (fun T=>T=Sb) fn.ntmps ⟨[],[]⟩ S ⟨a'.tmps,Sb.ds⟩ w'->(CW C fn.results.toList want es ⟨[],[]⟩ S).P->∃ v,(results fn a'.tmps).run P w' = .ok v w'/\∃ u ρ1 fc,Ending.returned v = .returned u/\Left w w' ρ ρ1 ra fc es C.fx/\af w' ρ1 w.heap.size fc want u:=by
    intro S w' H hr;obtain⟨S0,hS,ρ',ro,H⟩:=Ln (nb:=C.nb) (prs:=fun S=>match tl C ⟨[],[]⟩ S fn.results.toList with
     | some l=>Kr (Kw l) want
     | none => []) (fun T e=>by subst e; subst Gv; exact abW) 3 H
    subst hS;subst Gv;unfold CW Zi Zj at hr;split at hr
    . rename_i l hl;split at hr
      . rename_i va vb Ga hvb;obtain⟨vs,h1,h2⟩:=Lz (P:=P) aE H hl;have hv:=FN (FU hr);generalize m9:dE es=ks at Ga hvb cU abS bS;obtain⟨ρ1,LA⟩:∃ ρ1:Nat->Option Rl,ρ1=fun l=>if bD l ks then ρ' l else none:=⟨_,rfl⟩
        obtain⟨fc,LB⟩:∃ fc:Nat->Prop,fc=fun b=>(ra b\/w.heap.size<=b)/\b<w'.heap.size/\∀ l r,ρ1 l=some r->r.b8≠some b:=⟨_,rfl⟩
        have e8:∀ l r,ρ1 l=some r -> ρ' l=some r/\bD l ks=true:=by
         intro l r h;rw [LA] at h;simp only at h;split at h
         . rename_i hm; exact⟨h,hm⟩
         . cases h
        have bt:∀ b,ro b->fc b:=by
         intro b hb;rw [LB];refine⟨?_,H.gu b hb,fun l r h1 h2=>(H.own l r b (e8 l r h1).1 h2).2.1 hb⟩;rcases b9 b w.heap.size with h|h
         . exact .inl ((H.ew b hb).1 h)
         . exact .inr h
        have M:FO w ρ' ρ1 ro fc (Qh ks) (some ks):=by
         refine⟨fun l r h hm => ?_,bt,(fun h=>by cases h),fun ks' hk loc r b h hm tg => ?_⟩
         . rw [LA];have pF:bD l ks=true:=hm;simp only [pF,eO];exact h
         . injection hk with hk;subst hk;have h3:=H.own loc _ b h tg;have h4:w.heap.size<=b:=by
            rcases h3.2.2.1 with h4|⟨r0,h4,_⟩
            . exact h4
            . have Gi : ρ loc=some r0:=h4;rcases b9 loc n0 with h5|h5
              . rw [R3 bS h5] at hm; cases hm
              . rw [cP loc h5] at Gi; cases Gi
           refine⟨h4,?_⟩;rw [LB];exact⟨.inr h4,h3.1,fun l r' h5 h6=>H.apart l loc r' r b (fun e=>by subst e; rw [(e8 _ _ h5).2] at hm; cases hm) (e8 l r' h5).1 h h6 tg⟩
        refine⟨_,abP h1,_,ρ1,fc,rfl,⟨⟨H.from_.os,H.from_.tape,H.from_.output,H.from_.size,fun k hk hn=>H.from_.block k hk hn id⟩,fun l e he=>aaR H M hvb hv.2 abS l e he,fun l l' r r' b aT k1 k2 k3 k4=>H.apart l l' r r' b aT (e8 l r k1).1 (e8 l' r' k2).1 k3 k4,fun l hl => ?_,fun l r b k1 k2 => ?_,fun b hb => ?_,fun l r k1 k2 => ?_⟩,QJ H M _ _ va _ Ga hv.1 (aoV h2) cU⟩
        . rw [m9] at hl;rw [LA];simp only [hl,dV,dw]
        . have h3:=H.own l r b (e8 l r k1).1 k2;refine⟨h3.1,fun hb => ?_,h3.2.2.1⟩;rw [LB] at hb;exact hb.2.2 l r k1 k2
        . rw [LB] at hb;exact⟨hb.2.1,fun ah=>hb.1.resolve_right oo⟩
        . have h3:=H.dz l r k1 k2;rw [LA];have hm:bD l ks=true:=by
           rcases b9 l n0 with h5|h5
           . exact R3 bS h5
           . rw [cP l h5] at k1; cases k1
          simp only [hm,eO];exact h3
      . exact hr.elim
    . exact hr.elim
   have fv:∀ S,aS w (wU w Sb) fn.ntmps ⟨[],[]⟩ S a' w'->(CW C fn.results.toList want es ⟨[],[]⟩ S).P->bodyPostM Fence.wide 0 P fn (fun e w'=>∃ v ρ1 fc,e = .returned v/\Left w w' ρ ρ1 ra fc es C.fx/\af w' ρ1 w.heap.size fc want v) .ret a' w':=by
    intro S H hr;obtain⟨T,hT,ρ',ro,H⟩:=H;show LeavesInM _ _ _ _ _ _ a'.defers _ _
    rw [H.defers];refine aoX hT H fun w' ρ' ro H => ?_;have h:=aoZ S w' ⟨_,rfl,ρ',ro,H⟩ hr;subst Gv;exact h
   exact abY
 . exact hP.elim
theorem Gw{P : Program}{c : aN}(aE : cT P C.ty)(aF : (∀ c ∈ C.cs, aU P c) /\ (∀ c ∈ C.fs, ij P c) /\ ∀ c ∈ C.lQ, qK P c)(qP : C.yl = none)(kc : P.follows .mixedOrders = true)(hf : P.funcs[c.f]? = some fn)(hb : fn.body.isNone = false)(hn : (fn.name == "runtime.NumGoroutine") = false)(aI : codeOk (kn C.fs) C.sc C.lt fn.ntmps (kx fn) = true)(h:∀ ai res,c.go ai=some res->res.pre ()->∃ Ls,(yC C Ls fn ai res.av).P):aU P c:=by
 refine⟨fun args w=>yV hf hb hn args w,fun ai res jo w ra dM nj hE jr => ?_⟩;obtain⟨Ls,hP⟩:=h ai res jo jr;refine (abR aE aF qP kc hf hb aI hP (ρ:=fun _=>none) nj hE (fun l e h=>by cases h) (fun _ _ _ _ _ _ h=>by cases h) (fun _ _=>rfl) (fun _ _ _ h=>by cases h)).mono fun e w' hq => ?_;obtain⟨v,ρ1,fc,rfl,hL,hv⟩:=hq;have hρ : ρ1=fun _=>none:=funext fun l=>hL.fresh l rfl;subst hρ;refine⟨v,rfl,hL.from_.none_,hv.mono (fun _ _ _=>rfl) (Ext.refl _) (aA _) fun b hb => ?_⟩;rcases b9 b w.heap.size with h|h
 . exact .inl ((hL.rd b hb).2 h)
 . exact .inr h
theorem abZ{P : Program}{c : fO}(iH : C.fx = c.fix)(aE : cT P C.ty)(aF : (∀ c ∈ C.cs, aU P c) /\ (∀ c ∈ C.fs, ij P c) /\ ∀ c ∈ C.lQ, qK P c)(qP : C.yl = none)(kc : P.follows .mixedOrders = true)(hf : P.funcs[c.f]? = some fn)(hb : fn.body.isNone = false)(hn : (fn.name == "runtime.NumGoroutine") = false)(aI : codeOk (kn C.fs) C.sc C.lt fn.ntmps (kx fn) = true)(h:∀ ai es res,c.go ai es=some res->res.pre ()->∃ Ls,(Am C Ls fn ai es c.n res.av res.es).P):ij P c:=by
 refine⟨fun args w=>yV hf hb hn args w,fun ai es res jo w ρ ra dM nj hE lu jx cP bw jr => ?_⟩;obtain⟨Ls,hP⟩:=h ai es res jo jr;rw [<- iH];exact abR aE aF qP kc hf hb aI hP nj hE lu jx cP bw
theorem ao0{P : Program}(aE : cT P C.ty)(aF : (∀ c ∈ C.cs, aU P c) /\ (∀ c ∈ C.fs, ij P c) /\ ∀ c ∈ C.lQ, qK P c)(iH : C.fx = false)(kc : P.follows .mixedOrders = true)(hf : P.funcs[c.f]? = some fn)(hb : fn.body.isNone = false)(hn : (fn.name == "runtime.NumGoroutine") = false)(aI : codeOk (999999999 :: kn C.fs) C.sc C.lt fn.ntmps (kx fn) = true)(h:∀ ai res,c.go ai=some res->res.pre ()->∀ l,∃ Ls,(Qi C Ls fn ai l res).P):qK P c:=by
 refine⟨fun args w=>yV hf hb hn args w,fun ai res jo w ra dM l J O R hJ nj hE jr hJ1 hY => ?_⟩;obtain⟨Ls,hP⟩:=h ai res jo jr l;unfold Qi at hP;split at hP
 rotate_left
 . exact hP.elim
 rename_i nP;simp only [ax,aL] at nP;obtain⟨⟨kA,hlen⟩,lV⟩:=nP;obtain⟨code,Gu⟩:∃ code,fn.body=some code:=by
  exact abT
 have vX:kx fn=code:=by unfold kx; rw [Gu]; rfl
 rw [vX] at hP aI;obtain⟨T,hT⟩:∃ T:Nat->(Nat->Prop)->(Nat->Prop)->Pm,T=fun p O R => { rd:=ra,pl:=fun l=>if l=0 then some (.bo p) else none,fx:=false,jK:=fun b=>R b\/O b,own:=O,inv:=fun W=>J p O R W,ex:=fun _=>True,yo:=fun _ h => .inr h,nR:=fun w b h k=>hJ.nR p O R w b h k,yp:=fun w w' h e1 e2 e3 e4 k=>hJ.yp p O R w w' h e1 e2 e3 e4 k }:=⟨_,rfl⟩
 have mv:dM.length+1<=fn.ntmps:=by rw [<- hE.1]; exact hlen
 have hea:(#[.func (.yield l) #[] #[]]++dM.toArray:Array Value)=(.func (.yield l) #[] #[]::dM).toArray:=by simp
 rw [hea];refine callsIn_of_wp_marks (F:=Fence.wide) (n:=0) hf Gu trivial ?_;have pO:aV w (fun l=>if l=0 then some (.bo 1) else none) w.heap.size ra (.fG (fun _=>l)::ai) (.func (.yield l) #[] #[]::dM) := .cons (.fG _) (abt hE lV fun _ h=>h);have R4:aS w (fun U=>∃ p O R,U=T p O R) fn.ntmps ⟨[],[]⟩ ⟨wF 0 (.fG (fun _=>l)::ai),[(0,.ft fun _=>1)],1⟩ ⟨(.func (.yield l) #[] #[]::dM).toArray++Array.replicate (fn.ntmps - (.func (.yield l) #[] #[]::dM).toArray.size) undef,[]⟩ w:=by
  subst hT;refine⟨_,⟨1,O,R,rfl⟩,fun l=>if l=0 then some (.bo 1) else none,ra,⟨rfl,rfl,rfl,aA _,fun _ _ _ _=>rfl,hJ1⟩,by simp; omega,rfl,fun b hb=>(nj b hb).1,fun d x hx => ?_,fun l' e he => ?_,fun l1 l2 r r' b _ k1 _ k3 _ => ?_,fun l' cg=>aw (by simp only at cg; omega),fun l' r b k1 k2 => ?_,fun b hb=>⟨fun _=>hb,(nj b hb).2⟩,fun l' r h _=>h,fun d x h=>by simp [aj] at h,fun l e h=>by simp [aj] at h,fun d v h=>by cases h⟩
  . have h1:aj (wF 0 (.fG (fun _=>l)::ai)) d=some x:=by
     exact abU
    obtain⟨_,h2⟩:=R2 _ 0 d x h1;rw [rC] at h2;obtain⟨v,h3,h4⟩:=pO.get h2;refine⟨v,?_,h4⟩;have hd:=(cF.1 h3).1;rw [azg (by simpa using hd)];simpa using h3
  . have h1:aj [(0,En.ft fun _=>1)] l'=some e:=by
     exact abV
    rw [cm] at h1;split at h1
    . rename_i h0;subst h0;cases h1;rfl
    . cases h1
  . split at k1
    . cases k1; cases k3
    . cases k1
  . split at k1
    . cases k1; cases k2
    . cases k1
 have R5:Gn P ⟨{ C with yl:=some ⟨fun _=>l,res.n,res.el⟩ },fn.ntmps,Ls,FG C fn.results.toList res.n⟩ w (fun U=>∃ p O R,U=T p O R) (fun _=>False) none:=by
  subst hT;refine⟨{ cs:=aF.1,fs:=aF.2.1,lQ:=aF.2.2,fx := ?f1,pl := ?f2,dm := ?f3,yl := ?f4 },?f5,fun _ h=>by cases h⟩
  case f1=>rintro U ⟨p,O,R,rfl⟩; exact iH.symm
  case f5=>rintro U ⟨p,O,R,rfl⟩ d; exact⟨False.elim,fun ⟨v,h⟩=>by cases h⟩
  case f2 =>
   rintro U ⟨p,O,R,rfl⟩ l' r hl
   dsimp only at hl;split at hl
   . rename_i h0; show l'<C.nb; omega
   . cases hl
  case f3 =>
   rintro U V ⟨p,O,R,rfl⟩ ⟨p',O',R',rfl⟩ l' r q1 q2
   dsimp only at q1 ⊢;split at q1
   . rename_i h0;exact⟨.bo p,by rw [aC h0],rfl⟩
   . cases q1
  case f4 =>
   rintro y hy U ⟨p,O,R,rfl⟩
   injection hy with hy;subst hy;refine⟨fun _=>trivial,p,rfl,fun W args rr hi h0 hp KY rZ => ?_⟩;obtain⟨q,rfl⟩:∃ q,p=q+1:=⟨p - 1,oo⟩
   obtain⟨fn',ao4,jI,bd',h1,h2⟩:=hY q O R W args rr hi (by have h5:q+1<=res.n ():=hp; omega) KY rZ;refine⟨fn',ao4,jI,bd',h1,h2.mono fun e W' hq => ?_⟩;obtain⟨ok,O',R',rfl,h3,h4⟩:=hq;refine⟨ok,_,rfl,⟨cond ok (q+2) 0,O',R',rfl⟩,rfl,rfl,rfl,rfl,rfl,h3,h4.os,h4.tape,h4.output,h4.size,h4.jF,h4.own,fun b hb => ?_⟩;rcases hb with hb|hb
   . exact (h4.jK b hb).imp .inl id
   . exact (h4.own b hb).elim (fun h => .inl (.inr h)) fun h => .inr (.inr h)
 refine wpIn_mono (abK (F:=⟨{ C with yl:=some ⟨fun _=>l,res.n,res.el⟩ },fn.ntmps,Ls,FG C fn.results.toList res.n⟩) (w0:=w) aE kc 100000 code ⟨[],[]⟩ _ [] _ _ none _ w R5 rfl hP R4 (.nil _) aI) fun e a' w' hq => ?_;have fv:∀ S,aS w (fun U=>∃ p O R,U=T p O R) fn.ntmps ⟨[],[]⟩ S a' w'->(FG C fn.results.toList res.n ⟨[],[]⟩ S).P->bodyPostM Fence.wide 0 P fn (fun e w'=>(∃ v,e = .returned v)/\∃ O R,J (res.n ()+1) O R w'\/J 0 O R w') .ret a' w':=by
  intro S ⟨U,⟨p,O,R,hU⟩,ρ',ro,H⟩ hr;subst hT;subst hU;show LeavesInM _ _ _ _ _ _ a'.defers _ _
  rw [H.defers];unfold FG at hr;split at hr
  . rename_i rl k yI hk;obtain⟨vs,h1,_⟩:=Lz (P:=P) aE H yI;refine⟨_,abP h1,⟨_,rfl⟩,O,R,?_⟩;have h2 : ρ' 0=some (.bo (k ())):=H.en _ _ hk;have h3:=H.dz 0 (.bo p) rfl rfl;rw [h2] at h3;injection h3 with h3;injection h3 with h3;have hi:J p O R w':=H.from_.inv;rcases hr with h4|h4
    . left; rw [<- h4,h3]; exact hi
    . right; rw [<- h4,h3]; exact hi
  . exact hr.elim
 exact abY
end Go.Proofs.YtamjbkaclhgffaaGreat
