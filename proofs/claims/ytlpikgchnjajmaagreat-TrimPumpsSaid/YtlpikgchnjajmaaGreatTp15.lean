/-
  The abstract run is sound: what is shown of plain data makes a function's contract.
-/
import Derived.Test.YtlpikgchnjajmaaGreatTp14
set_option linter.all false
namespace Go.Proofs.YtlpikgchnjajmaaGreat
open Go.RowKit
variable{C:Cx}{fn:Func}{f:FuncId}{c:It}{dt vs:List Value}{D b n0 s:Nat}{fd ra:Nat->Prop}{r:Option Nat}{S T:Pm}{k:Sx->Fm}{w w0:World}
section
variable{w w' w0:World}{ρ ρ' ρ2:Nat->Option Rl}{base n:Nat}{ro ro':Nat->Prop}{S0:Pm}{Φ : Pm->Prop}{N:Nat}{B:Bs}{S:Sx}{a:Act}{F:Fx}{P:Program}
theorem aan{id:Nat}{ops:Array Oper}(pW:∀ o∈ops.toList,∀ c,o.op ≠ .defer c)(aA:cS P F.C.ty)(aC:mK P F.C w0 Φ)(kg:P.follows .mixedOrders=true){Q:Exit->Act->World->Prop}(hQ:∀ c a w,¬ Q (.panic c) a w)(bS:codeOk (cb F.C) F.C.sc F.C.lt F.N (.region id ops true)=true)(hk:∀ S' a' w',aP w0 Φ F.N B S' a' w'->(k S').P->Q .normal a' w')(h:(JI F.C F.N B id ops.toList S k).P)(H:aP w0 Φ F.N B S a w):(Code.region id ops true).wpIn (wd r) 0 P Q a w:=by
 simp only [codeOk,gA,rB,au] at bS;have bS:=bS.2;have Rc:ops.toList.toArray=ops:=by simp
 rw [<- Rc];unfold JI at h
 cases aj:JE F.C.lt id with
 | some t =>
  rw [aj] at h bS;exact amz pW aA aC kg hQ bS hk h H
 | none =>
  rw [aj] at h bS;dsimp only at h bS;simp only [Bool.and_eq_true] at bS;have hs:=bS.2;have hp:=bS.1;unfold ER at hp;simp only [Bool.and_eq_true] at hp;refine alS pW aA aC kg hQ bS.1 hk ?_ H
  cases hsc:JD F.C.sc id with
  | none=>rw [hsc] at h; exact h
  | some s =>
   rw [hsc] at h hs;dsimp only at h hs;simp only [decide_eq_true_eq] at hs;rw [hs] at h;exact alY hp.1 h
theorem amJ{l:List Oper}{ks:List Nat}{go:(Sx->Fm)->Fm}(h:(PB F.C F.N B l ks S go k).P):∃ S2,(k S2).P/\∃ k',(go k').P/\∀ S' a' w',aP w0 Φ F.N B S' a' w'->(k' S').P->aP w0 Φ F.N B S2 a' w':=by
 unfold PB at h;split at h
 . exact h.elim
 . rename_i S1 hS1;split at h
   . rename_i hc;simp only [au] at hc;refine⟨_,h.2,_,h.1,fun S' a' w' H' fP => ?_⟩;split at fP
     . rename_i hn;obtain⟨S0,hS,ρ,ro,HR⟩:=H';obtain⟨ta,tb,e1,e2,e3⟩:=KG fP;have HB:=HR.bare;obtain⟨tf,Av,Aw,_,_⟩:=KF HB (md := []) (aD := []) (az _) B rfl;rw [<- hn] at hc;rw [<- hn];refine HR.QT hS (fun l r q1 q2 => ?_) e1 e2 e3 hc.1 hc.2.1 hc.2.2.1 hc.2.2.2 (fun d y hy => ?_) (fun l e he => ?_) fun _ h=>h
       . have q3:=HR.dC l r q1 q2;exact aaa
       . obtain⟨u,q1,q2⟩:=Av d y hy;exact⟨u,q1,q2,tf.t d y hy⟩
       . exact⟨Aw l e he,tf.e l e he⟩
     . exact fP.elim
   . exact h.elim
theorem amK{id:Nat}{f:Unit->Fm}(h:(PC C id f).P):(f ()).P:=by
 unfold PC at h;split at h
 . exact h () trivial
 . exact h
theorem aaq{P:Program}{F:Fence}{c:Code}{Q:Exit->Act->World->Prop}:∀ {n m:Nat} {a:Act} {w:World},Code.roundsIn F 0 P c Q n a w->n<=m->Code.roundsIn F 0 P c Q m a w
 | 0,_,_,_,h,_=>h.elim
 | n+1,0,_,_,_,hm=>oo
 | n+1,m+1,a,w,h,hm=>by
  rw [roundsIn_succ] at h ⊢;refine wpIn_mono h fun e a w q => ?_
  cases e with
  | normal=>exact aaq q oo
  | exit id=>exact q
  | ret=>exact q
  | goto l=>exact q
  | panic c=>exact q
  | outgrown=>exact q
theorem amL{go:Lp->Fm}{o:Option Lp}(h:(match o with
 | some lp=>go lp
 | none => .Po go).P):∃ lp,(go lp).P:=by
 cases o with
 | some lp=>exact⟨lp,h⟩
 | none=>exact h
structure FK (P:Program) (F:Fx) (w0:World) (Φ : Pm->Prop) (fd:Nat->Prop) (r:Option Nat):Prop where
 cx:mK P F.C w0 Φ
 fm:∀ S0,Φ S0->∀ d,fd d↔∃ v,S0.fm d=some v
 mks:r=none->F.C.yl=none->∀ S0,Φ S0->∀ D,¬ S0.jK D->w0.heap.size<=D -> Φ (S0.mark D)
def aar(P:Program)(F:Fx)(w0:World)(f:Nat):Prop:=∀ (c) (B) (S) (K) (Φ) (fd) (r) (a) (w),FK P F w0 Φ fd r->r.isSome=Cg K->(run F f c B S K).P->aP w0 Φ F.N B S a w->Wf fd (cb F.C) F.C.sc F.C.lt F.N B K->codeOk (cb F.C) F.C.sc F.C.lt F.N c=true->c.wpIn (wd r) 0 P (KQ F w0 Φ f B K) a w
theorem amN{cs:List It}(aC:∀ c∈cs,pT P c)(h:IS cs f=some c):pT P c/\c.f=f:=by
 induction cs with
 | nil=>cases h
 | cons c' cs ih =>
  unfold IS at h;split at h
  . rename_i e;cases h;exact⟨aC _ (.head _),by simpa using e⟩
  . exact ih (fun c hc=>aC c (.tail _ hc)) h
def wQ(S1:Pm)(ρ:Nat->Option Rl)(b:Nat):Prop:=(∃ l r,ρ l=some r/\r.ca=some b)\/S1.own b
def wR(S1:Pm)(ρ:Nat->Option Rl)(ro:Nat->Prop)(s b:Nat):Prop:=wQ S1 ρ b\/ro b\/S1.jK b\/b<s
theorem bh.aas(H:bh w0 S0 N B S a w ρ ro)(hs:s<=w.heap.size)(h:wR S0 ρ ro s b):b<w.heap.size:=by
 rcases h with (⟨l,r,h1,h2⟩|h)|h|h|h
 . exact (H.own l r b h1 h2).1
 . exact S0.oa _ _ H.from_.inv (S0.yc b h)
 . exact H.gn b h
 . exact S0.oa _ _ H.from_.inv h
 . omega
theorem bh.Re{l:Nat}{rec rec':Loop}{fm:Nat->Option Value}(H:bh w0 (S0.dW D l rec fm) N B S a w ρ ro)(hl:w0.heap.size<=l)(KN:¬ S0.jK l)(Iq:D≠l):bh w0 (S0.dW D l rec' fm) N B S a (w.putObj l (.loop rec')) ρ ro:=by
 have hi:=H.from_.inv;have nh:l<w.heap.size:=CE hi.2.2;have hf:∀ l' r b,ρ l'=some r->r.ca=some b->¬ (S0.dW D l rec fm).jK b:=fun l' r b h1 h2=>(H.own l' r b h1 h2).2.2.2;have aT:∀ b,b<w.heap.size->b≠l->(w.putObj l (.loop rec')).heap[b]? = w.heap[b]? := fun b _ h=>World.putObj_heap_other h;have H1:bh w0 (S0.add (fun b=>b=D) (fun b=>b=D) (fun w=>w.heap[D]? = some (.deferred (some []))) [] fm (fun _ h=>h) (fun _ _ h e=>by subst e; exact CE h) fun _ _ h _ _ _ _ k=>(k D rfl).trans h) N B S a w ρ ro :=
  H.jE rfl rfl rfl rfl ⟨hi.1,hi.2.1⟩ H.defers rfl (fun l' r b h1 h2 h3=>hf l' r b h1 h2 (h3.imp id .inl)) (fun b hb h=>(H.eN b hb).2 (h.imp id .inl)) H.fm
 have H2:=H1.Co (w':=w.putObj l (.loop rec')) rfl rfl rfl (by rw [World.putObj_size]; exact az _) fun b hb hc=>aT b hb (by
  rintro rfl
  rcases hc with h|h|⟨l',r,h1,h2⟩|h|h
  . omega
  . exact (H.eN _ h).2 (.inr (.inr rfl))
  . exact hf l' r _ h1 h2 (.inr (.inr rfl))
  . exact KN h
  . exact Iq h.symm)
 exact H2.jE rfl rfl rfl rfl ⟨H2.from_.inv.1,H2.from_.inv.2,World.putObj_heap_same nh⟩ H.defers rfl (fun l' r b h1 h2=>hf l' r b h1 h2) (fun b hb=>(H.eN b hb).2) H.fm
theorem amO{f:Nat}{g:Operand}{ps:Array Tmp}{x y:Code}{K:List Kt}(aA:cS P F.C.ty)(E:FK P F w0 Φ fd r)(hr:r.isSome=Cg K)(ih:aar P F w0 f)(h:(run F (f+1) (.rangeFunc g ps x y) B S K).P)(H:aP w0 Φ F.N B S a w)(th:Wf fd (cb F.C) F.C.sc F.C.lt F.N B K)(hx:codeOk (cb F.C) F.C.sc F.C.lt F.N x=true)(hy:codeOk (cb F.C) F.C.sc F.C.lt F.N y=true):(Code.rangeFunc g ps x y).wpIn (wd r) 0 P (KQ F w0 Φ (f+1) B K) a w:=by
 unfold run at h;dsimp only at h;have aC:=E.cx;split at h
 rotate_left
 . exact h.elim
 rename_i fid dw mJ hgv;simp only [jZ,Dz,iF] at mJ;obtain⟨mJ,qN⟩:=mJ;have Cv:r=none:=by rw [mJ] at hr; cases r with|none=>rfl|some _=>cases hr
 subst Cv;split at h
 rotate_left
 . exact h.elim
 rename_i it Ov;obtain⟨aat,amQ⟩:=amN aC.lY Ov;subst amQ;split at h
 rotate_left
 . exact h.elim
 rename_i ai uA;split at uA
 rotate_left
 . cases uA
 rename_i amR;split at h
 rotate_left
 . exact h.elim
 rename_i res qx;obtain⟨rp,⟨jm,Rf⟩,cr⟩:=h;obtain⟨jm,FL⟩:=jm;generalize hn:ni S.n (dI (rp.oe 0))=n at cr;generalize hmd:rV x++rV y++ps.toList++EO (dI (rp.oe 0)) n S.t=md at cr;generalize yK:(⟨oc md (dI (rp.oe 0)) n S.t,qz (dI (rp.oe 0)) n S.e⟩:Bs)=K' at cr;obtain⟨S0,hS,ρ,ro,H⟩:=H;have FM:S.n<=n:=by rw [<- hn]; exact KD _ _
 obtain⟨tf,Av,Aw,Rg,Rh⟩:=KF H (md:=md) (aD:=dI (rp.oe 0)) FM (join K' B) (by rw [yK]);have FN:∀ d x,ak B.t d=some x->ak K'.t d=none:=by rw [<- yK]; exact Rg
 have FO:∀ l e,ak B.e l=some e->ak K'.e l=none:=by rw [<- yK]; exact Rh
 have KO:∀ d,(ak B.t d).isSome=true->(ak (join K' B).t d).isSome=true:=fun d hd=>by
  unfold join;dsimp only;rw [qI];split<;>first|rfl|exact hd
 have sY:∀ l r,S0.pl l=some r->(r.dC||S0.fx)=true->l<n:=fun l r q1 q2=>by
  have q3:=H.dC l r q1 q2;rcases cw l n with h|h
  . exact h
  . rw [H.fresh l (e8 FM h)] at q3; cases q3
 have n8:∀ k,rp.I k->k<=res.n ()->(qA (dI (rp.oe k)) (dI (rp.oe 0))&&jr (cP n) (rp.oe k)&&l0 (join K' B).e (rp.oe k)&&AV.om (res.el fun _=>k))=true/\∃ Sk,EZ (join K' B) F.N ps.toList (res.el fun _=>k) ⟨[],rp.oe k,n⟩=some Sk /\
  (k<res.n ()->(run F f x (join K' B) Sk [.wA fun B1 S1=>run F f y B1 S1 [.dW (fun Bi S'=>if n<=S'.n then .vc [fun _=>rp.I (k+1)] (nj Bi (Aa F.C.nb Bi S' [] (rp.oe (k+1))) [] (rp.oe (k+1))) else .ff 17) (fun id S'=>exitTo F f id B ⟨K'.t,S'.e++K'.e,S'.n⟩ K) (fun S'=>lB F f B ⟨K'.t,S'.e++K'.e,S'.n⟩ K)]]).P) /\
  (k=res.n ()->(cont F f B ⟨K'.t,rp.oe k++K'.e,n⟩ K).P):=by
  intro k hk cT;have h1:=cr k ⟨hk,cT⟩;dsimp only at h1;split at h1
  . rename_i hc;split at h1
    . rename_i Sk Ri;subst yK;exact⟨hc,Sk,Ri,fun q=>h1.1 () q,fun q=>h1.2 () q⟩
    . exact h1.elim
  . exact h1.elim
 have ir:∀ k,rp.I k->k<=res.n ()->∀ {T:Pm} {S1:Sx} {a1:Act} {w1:World} {ρ1:Nat->Option Rl} {pa:Nat->Prop} {BB:Bs},bh w0 T F.N BB S1 a1 w1 ρ1 pa->(∀ l r,T.pl l=some r->(r.dC||T.fx)=true->l<n)->(∀ d,(ak BB.t d).isSome=true->(ak (join K' B).t d).isSome=true)->(nj BB S1 [] (rp.oe k)).P->(∀ d y,ak (join K' B).t d=some y->∃ u,a1.tmps[d]? = some u/\ah w1 ρ1 w0.heap.size pa y u)->(∀ l e,ak (join K' B).e l=some e->c7 w1 ρ1 w0.heap.size pa l e)->∃ ρ2,bh w0 T F.N (join K' B) ⟨[],rp.oe k,n⟩ a1 w1 ρ2 pa/\∀ l r b,ρ2 l=some r->r.ca=some b -> ρ1 l=some r:=by
  intro k hk cT T S1 a1 w1 ρ1 pa BB H1 nU cN heq Rj Rk;obtain⟨ta,tb,e1,e2,e3⟩:=KG heq;have hc:=(n8 k hk cT).1;simp only [au] at hc;exact H1.ZL nU e1 e2 e3 rfl hc.1.1.2 rfl hc.1.2 (fun d y hy=>by obtain⟨u,q1,q2⟩:=Rj d y hy; exact⟨u,q1,q2,tf.t d y hy⟩) (fun l e he=>⟨Rk l e he,tf.e l e he⟩) cN
 have hgx:=H.get g;rw [hgv] at hgx;obtain⟨vs,cF,hEc⟩:=hgx.Eu;have hEr:aQ w (fun _=>none) 0 ro ai vs:=wj (ge:=bc B S) (fun l e he=>H.en l e he) (fun _ h=>h) _ _ _ _ uA hEc (.inl amR);refine wpIn_rangeFunc fun fn _ => ?_;obtain⟨rec,nr⟩:∃ rec:LoopState->Option Code->Loop,rec=fun st pe => { state:=st,pending:=pe,fn:=fn,tmps:=a.tmps,params:=ps,assign:=x,body:=y,defers:=w.heap.size }:=⟨_,rfl⟩
 obtain⟨W0,ot⟩:∃ W0,W0=(w.alloc (.deferred (some []))).alloc (.loop (rec .ready none)):=⟨_,rfl⟩
 have aN:W0.heap.size=w.heap.size+2:=by rw [ot]; simp
 have hD0:W0.heap[w.heap.size]? = some (.deferred (some [])):=by rw [ot]; exact (qj _ _ _ (by simp)).trans (World.alloc_heap_new w _)
 have kZ:W0.heap[w.heap.size+1]? = some (.loop (rec .ready none)):=by
  have:=World.alloc_heap_new (w.alloc (.deferred (some []))) (.loop (rec .ready none));rw [qi] at this;rw [ot];exact this
 have aaw:∀ b,b<w.heap.size->W0.heap[b]? = w.heap[b]? := fun b hb=>by rw [ot]; exact (qj _ _ _ (by simp; omega)).trans (qj _ _ _ hb)
 have Rm:W0.os=w.os/\W0.tape=w.tape/\W0.output=w.output:=by rw [ot]; exact⟨rfl,rfl,rfl⟩
 have vT:(Instr.enterLoop fn a.tmps ps x y none).run P w = .ok (w.heap.size+1,[⟨.collected w.heap.size,#[]⟩]) W0:=by rw [ot,nr]; exact run_enterLoop_outer _ _ _ _ _
 clear ot;obtain⟨l,hl⟩:∃ l,l=w.heap.size+1:=⟨_,rfl⟩
 obtain⟨D,hD⟩:∃ D,D=w.heap.size:=⟨_,rfl⟩
 rw [<- hl] at kZ vT;rw [<- hD] at hD0 vT;have KP:=H.from_.size;have KN:¬ S0.jK l:=fun h=>by have:=S0.oa _ _ H.from_.inv h; omega
 have hDf:¬ S0.jK D:=fun h=>by have:=S0.oa _ _ H.from_.inv h; omega
 refine⟨l,[⟨.collected D,#[]⟩],W0,{ target := .fn (.func it.f) vs.toArray,args := #[.func (.yield l) #[] #[]] },W0,it.f,#[.func (.yield l) #[] #[]]++vs.toArray,W0,vT,?_,fun _ _=>trivial,?_,fun h=>(by simp [Fence.wide] at h),?_⟩
 . simp only [resolve,cF];simp [go_sem]
 . simp [invoke,go_sem,aat.1]
 obtain⟨fm,qM⟩:∃ fm:Nat->Option Value,fm=fun d=>if (ak (join K' B).t d).isSome=true then a.tmps[d]? else none:=⟨_,rfl⟩
 have amV:∀ d v,fm d=some v->a.tmps[d]? = some v/\(ak (join K' B).t d).isSome=true:=fun d v h=>by
  rw [qM] at h;dsimp only at h;split at h
  . rename_i hd; exact⟨h,hd⟩
  . cases h
 have amW:∀ d,(ak (join K' B).t d).isSome=true->fm d=a.tmps[d]? := fun d h=>by rw [qM]; exact aw h
 have aax:∀ T:Pm,T.fx=S0.fx->T.pl=S0.pl->T.fm=fm->FK P F w0 (fun U=>U=T) (fun d=>∃ v,fm d=some v) (some l):=fun T h1 h2 h3=>⟨{ cs:=aC.cs,fs:=aC.fs,lY:=aC.lY,fx:=fun U e=>(by subst e; rw [h1]; exact aC.fx S0 hS),pl:=fun U e l r h=>(by subst e; rw [h2] at h; exact aC.pl S0 hS l r h),dm:=fun U V e1 e2 l r q1 q2=>(by subst e1; subst e2; exact⟨r,q1,q2⟩),yl:=fun y hy=>(by rw [qN] at hy; cases hy) },fun U e d=>(by subst e; rw [h3]),fun h=>(by cases h)⟩
 obtain⟨J,hJ⟩:∃ J:Nat->(Nat->Prop)->(Nat->Prop)->World->Prop,J=fun p O R W=>(p=0/\∃ (jump:Code) (S':Sx) (ρ:Nat->Option Rl) (ro:Nat->Prop),bh w0 (S0.dW D l (rec .done (some jump)) fm) F.N (join K' B) ⟨[],S'.e,S'.n⟩ ⟨a.tmps,[]⟩ W ρ ro/\((∃ id,jump = .exit id/\(exitTo F f id B ⟨K'.t,S'.e++K'.e,S'.n⟩ K).P)\/(jump = .ret/\(lB F f B ⟨K'.t,S'.e++K'.e,S'.n⟩ K).P))/\O=wQ (S0.dW D l (rec .ready none) fm) ρ/\R=wR (S0.dW D l (rec .ready none) fm) ρ ro W0.heap.size) \/
  (∃ k,p=k+1/\∃ (ρ:Nat->Option Rl) (ro:Nat->Prop),bh w0 (S0.dW D l (rec .ready none) fm) F.N (join K' B) ⟨[],rp.oe k,n⟩ ⟨a.tmps,[]⟩ W ρ ro/\(rp.I k/\k<=res.n ())/\O=wQ (S0.dW D l (rec .ready none) fm) ρ/\R=wR (S0.dW D l (rec .ready none) fm) ρ ro W0.heap.size):=⟨_,rfl⟩
 have aj:∀ {st:Loop} {KR:Sx} {a':Act} {W:World} {ρ:Nat->Option Rl} {ro:Nat->Prop},bh w0 (S0.dW D l st fm) F.N (join K' B) KR a' W ρ ro->W0.heap.size<=W.heap.size:=fun h=>by
  have:=CE h.from_.inv.2.2;omega
 have hJO:Y4 J:=by
  refine⟨fun p O R W b h hb => ?_,fun p O R W W' h e1 e2 e3 e4 hk => ?_⟩
  . rw [hJ] at h;rcases h with ⟨_,jump,S',ρ,ro,HR,_,rfl,rfl⟩|⟨k,_,ρ,ro,HR,_,rfl,rfl⟩
    . exact HR.aas (s:=W0.heap.size) (aj HR) (hb.elim id .inl)
    . exact HR.aas (s:=W0.heap.size) (aj HR) (hb.elim id .inl)
  . rw [hJ] at h ⊢;have key:∀ {st:Loop} {KR:Sx} {ρ:Nat->Option Rl} {ro:Nat->Prop},bh w0 (S0.dW D l st fm) F.N (join K' B) KR ⟨a.tmps,[]⟩ W ρ ro->(∀ b,wR (S0.dW D l (rec .ready none) fm) ρ ro W0.heap.size b->W'.heap[b]? = W.heap[b]?)->bh w0 (S0.dW D l st fm) F.N (join K' B) KR ⟨a.tmps,[]⟩ W' ρ ro:=fun HR hk=>HR.Co e1 e2 e3 e4 fun b _ hc=>hk b (by
     rcases hc with h|h|h|h
     . exact .inr (.inr (.inr oo))
     . exact .inr (.inl h)
     . exact .inl (.inl h)
     . exact .inr (.inr (.inl h)))
    rcases h with ⟨h0,jump,S',ρ,ro,HR,hst,rfl,rfl⟩|⟨k,h0,ρ,ro,HR,hI,rfl,rfl⟩
    . exact .inl ⟨h0,jump,S',ρ,ro,key HR fun b hb=>hk b (.inl hb),hst,rfl,rfl⟩
    . exact .inr ⟨k,h0,ρ,ro,key HR fun b hb=>hk b (.inl hb),hI,rfl,rfl⟩
 obtain⟨ρ2,H0,fu⟩:=ir 0 FL (cm _) H sY KO Rf Av Aw;have H1:=H0.Co Rm.1 Rm.2.1 Rm.2.2 oo fun b hb _=>aaw b hb;have H2:bh w0 (S0.dW D l (rec .ready none) fm) F.N (join K' B) ⟨[],rp.oe 0,n⟩ ⟨a.tmps,[]⟩ W0 ρ2 ro:=H1.jE rfl rfl rfl rfl ⟨H1.from_.inv,hD0,kZ⟩ rfl rfl (fun l' r b q1 q2 q3=>by
  have q4:=H0.own l' r b q1 q2;rcases q3 with q3|q3|q3
  . exact q4.2.2.2 q3
  . omega
  . omega) (fun b hb q3=>by
  have q4:=H.gn b hb;rcases q3 with q3|q3|q3
  . exact (H.eN b hb).2 q3
  . omega
  . omega) amV
 have s7:=aat.2 ai res qx W0 ro vs l J (wQ (S0.dW D l (rec .ready none) fm) ρ2) (wR (S0.dW D l (rec .ready none) fm) ρ2 ro W0.heap.size) hJO (fun b hb=>⟨by have:=H.gn b hb; omega,fun ho=>by
  rcases ho with ⟨l',r,q1,q2⟩|ho
  . exact (H2.own l' r b q1 q2).2.1 hb
  . exact (H2.eN b hb).2 ho⟩) (hEr.mono (fun b hb q=>aaw b q) (Ext.refl _) (az _) fun _ h=>h) jm (by
  rw [hJ];exact .inr ⟨0,rfl,ρ2,ro,H2,⟨FL,cm _⟩,rfl,rfl⟩) ?hY
 case hY =>
  intro p O R W args rr HJ hp hE rZ;rw [hJ] at HJ;rcases HJ with ⟨h0,_⟩|⟨k,h0,ρ1,pa,HR,⟨Rn,cT⟩,hO,hR⟩
  . omega
  obtain rfl:p=k:=oo
  obtain⟨hc,Sk,Ri,cB,_⟩:=n8 p Rn cT;have cB:=cB hp;simp only [au] at hc;have yJ:∀ b,O b->R b\/rr b:=fun b h=>by rw [hR]; rw [hO] at h; exact .inl (.inl h)
  have hRo:∀ b,pa b->R b:=fun b h=>by rw [hR]; exact .inr (.inl h)
  have hOl:O l:=by rw [hO]; exact .inr (.inr (.inr rfl))
  have hOw:∀ b,(S0.dW D l (rec .ready none) fm).own b->O b:=fun b h=>by rw [hO]; exact .inr h
  have hOp:∀ l r b,ρ1 l=some r->r.ca=some b->O b:=fun l r b q1 q2=>by rw [hO]; exact .inl ⟨l,r,q1,q2⟩
  have hlB:¬ (S0.FI O (fun b=>R b\/rr b) W yJ).jK l:=fun h=>h.elim KN fun h=>h.2 hOl;have HM:=HR.more (rr:=rr) fun b hb=>⟨(rZ b hb).1,fun l' r q1 q2=>(rZ b hb).2.1 (hOp l' r b q1 q2),fun q=>(H.eN b ((rZ b hb).2.2 oo)).1 q,fun q=>(rZ b hb).2.1 (hOw b q)⟩
  have HB:bh w0 ((S0.FI O (fun b=>R b\/rr b) W yJ).dW D l (rec .ready none) fm) F.N (join K' B) ⟨[],rp.oe p,n⟩ ⟨a.tmps,[]⟩ W ρ1 (fun b=>pa b\/rr b):=HM.jE rfl rfl rfl rfl ⟨⟨HM.from_.inv.1,⟨rfl,rfl,rfl⟩,az _,fun _ _ _=>rfl⟩,HM.from_.inv.2⟩ rfl rfl (fun l' r b q1 q2 q3=>by
   have q4:=(HM.own l' r b q1 q2).2.2.2;rcases q3 with (q3|q3)|q3
   . exact q4 (.inl q3)
   . exact q3.2 (hOp l' r b q1 q2)
   . exact q4 (.inr q3)) (fun b hb q3=>by
   have q4:=(HM.eN b hb).2;rcases q3 with (q3|q3)|q3
   . exact q4 (.inl q3)
   . exact q3.2 (hb.imp (hRo b) id)
   . exact q4 (.inr q3)) HM.fm
  obtain⟨vR,HP⟩:=aam Ri (aal hE hc.2 fun b hb => .inr hb) HB;have Ff:=run_yield (P:=P) (args:=args.toArray) HR.from_.inv.2.2 (by rw [nr]; simpa using vR.symm);rw [nr] at Ff;dsimp only at Ff;refine⟨fn,_,x,y,Ff,roundIn_of_wpIn trivial ?_⟩;have am0:(ps.zip args.toArray).foldl (fun tmps p=>tmps.setIfInBounds p.1 p.2) a.tmps=(ps.toList.zip args).foldl (fun t p=>t.setIfInBounds p.1 p.2) a.tmps:=by rw [<- Array.foldl_toList,Array.toList_zip]
  have fA:∀ {st:Loop} (jq:Loop) {S3:Sx} {a':Act} {W3:World} {ρ3:Nat->Option Rl} {KS:Nat->Prop},bh w0 ((S0.FI O (fun b=>R b\/rr b) W yJ).dW D l st fm) F.N (join K' B) S3 a' W3 ρ3 KS->bh w0 (S0.dW D l jq fm) F.N (join K' B) ⟨[],S3.e,S3.n⟩ ⟨a.tmps,[]⟩ (W3.putObj l (.loop jq)) ρ3 KS/\Ql O (wQ (S0.dW D l (rec .ready none) fm) ρ3) R (wR (S0.dW D l (rec .ready none) fm) ρ3 KS W0.heap.size) rr W (W3.putObj l (.loop jq)):=by
   intro st jq S3 a' W3 ρ3 KS HA;have HF:=(HA.frame (a':=⟨a.tmps,[]⟩) rfl H.size amW).Re (rec':=jq) oo hlB oo;have hi:=HF.from_.inv;have hO':∀ b,wQ (S0.dW D l (rec .ready none) fm) ρ3 b->O b\/W.heap.size<=b:=fun b h=>by
    rcases h with ⟨l',r,q1,q2⟩|h
    . have q3:=(HF.own l' r b q1 q2).2.2.2;by_cases q4:O b
      . exact .inl q4
      . rcases cw b W.heap.size with q5|q5
        . exact absurd (.inl (.inr ⟨q5,q4⟩)) q3
        . exact .inr q5
    . exact .inl (hOw b h)
   refine⟨HF.jE rfl rfl rfl rfl ⟨hi.1.1,hi.2⟩ rfl rfl (fun l' r b q1 q2 q3=>(HF.own l' r b q1 q2).2.2.2 (q3.imp .inl id)) (fun b hb q3=>(HF.eN b hb).2 (q3.imp .inl id)) HF.fm,hi.1.2.1.1,hi.1.2.1.2.1,hi.1.2.1.2.2,hi.1.2.2.1,hi.1.2.2.2,hO',fun b h => ?_⟩;rcases h with h|h|h|h
   . exact (hO' b h).elim (fun h=>(yJ b h).imp id .inl) fun h => .inr (.inr h)
   . have q3:=(HF.eN b h).2;by_cases q4:R b\/rr b
     . exact q4.imp id .inl
     . rcases cw b W.heap.size with q5|q5
       . exact absurd (.inl (.inr ⟨q5,q4⟩)) q3
       . exact .inr (.inr q5)
   . rw [hR]; exact .inl (.inr (.inr (.inl h)))
   . rw [hR]; exact .inl (.inr (.inr (.inr h)))
  have hA:=ih x (join K' B) Sk _ _ _ (some l) _ W (aax ((S0.FI O (fun b=>R b\/rr b) W yJ).dW D l (rec .ready none) fm) rfl rfl rfl) rfl cB ⟨_,rfl,_,_,HP⟩ (.wA _ _ _) hx;rw [<- am0] at hA;refine wpIn_mono hA fun e a1 w1 hq => ?_
  cases e with
  | normal =>
   obtain⟨g1,S1,_,HS1,gG⟩:=hq
   cases g1 with
   | zero=>unfold cont at gG; exact gG.elim
   | succ g1 =>
    unfold cont at gG;obtain⟨T,rfl,ρa,roa,HA⟩:=HS1;refine⟨_,run_beginRound HA.from_.inv.2.2 (by rw [nr]),?_⟩;have HA2:=HA.Re (rec' := { rec .ready none with state := .busy }) oo hlB oo;refine wpIn_mono (ih y (join K' B) S1 _ _ _ (some l) _ _ (aax ((S0.FI O (fun b=>R b\/rr b) W yJ).dW D l { rec .ready none with state := .busy } fm) rfl rfl rfl) rfl gG ⟨_,rfl,_,_,HA2⟩ (.dW _ _ _ _ _) hy) fun e a3 w3 hq => ?_
    cases e with
    | normal =>
     obtain⟨g2,S3,_,HS3,mN⟩:=hq
     cases g2 with
     | zero=>unfold cont at mN; exact mN.elim
     | succ g2 =>
      unfold cont at mN;dsimp only at mN;split at mN
      . obtain⟨hI3,am4⟩:=mN;obtain⟨T,rfl,ρc,yL,HC⟩:=KH (fun T e=>(by subst e; exact aC.pl S0 hS)) 3 HS3;obtain⟨ρd,HD,_⟩:=ir (p+1) hI3 oo HC sY (fun _ h=>h) am4 (fun d z hz=>HC.tm d z (by unfold dH; rw [HC.jL d z hz]; exact hz)) fun l e he=>HC.en l e (by unfold bc; rw [HC.jM l e he]; exact he);obtain⟨q1,q2⟩:=fA (rec .ready none) HD;refine⟨_,_,run_endRound none HD.from_.inv.2.2,true,wQ (S0.dW D l (rec .ready none) fm) ρd,wR (S0.dW D l (rec .ready none) fm) ρd yL W0.heap.size,rfl,?_,?_⟩
        . rw [hJ];refine .inr ⟨p+1,rfl,ρd,yL,?_,⟨hI3,oo⟩,rfl,rfl⟩;rw [nr] at q1 ⊢;exact q1
        . rw [nr] at q2 ⊢;exact q2
      . exact mN.elim
    | exit id =>
     obtain⟨g2,S3,_,⟨T,rfl,ρc,yL,HC⟩,mN⟩:=hq
     cases g2 with
     | zero=>unfold exitTo at mN; exact mN.elim
     | succ g2 =>
      unfold exitTo at mN;obtain⟨q1,q2⟩:=fA (rec .done (some (.exit id))) HC;refine⟨_,_,run_endRound (some (.exit id)) HC.from_.inv.2.2,false,wQ (S0.dW D l (rec .ready none) fm) ρc,wR (S0.dW D l (rec .ready none) fm) ρc yL W0.heap.size,rfl,?_,?_⟩
      . rw [hJ];refine .inl ⟨rfl,.exit id,S3,ρc,yL,?_,.inl ⟨id,rfl,mN⟩,rfl,rfl⟩;rw [nr] at q1 ⊢;exact q1
      . rw [nr] at q2 ⊢;exact q2
    | ret =>
     obtain⟨g2,S3,_,⟨T,rfl,ρc,yL,HC⟩,mN⟩:=hq
     cases g2 with
     | zero=>unfold lB at mN; exact mN.elim
     | succ g2 =>
      unfold lB at mN;obtain⟨q1,q2⟩:=fA (rec .done (some .ret)) HC;refine⟨_,_,run_endRound (some .ret) HC.from_.inv.2.2,false,wQ (S0.dW D l (rec .ready none) fm) ρc,wR (S0.dW D l (rec .ready none) fm) ρc yL W0.heap.size,rfl,?_,?_⟩
      . rw [hJ];refine .inl ⟨rfl,.ret,S3,ρc,yL,?_,.inr ⟨rfl,mN⟩,rfl,rfl⟩;rw [nr] at q1 ⊢;exact q1
      . rw [nr] at q2 ⊢;exact q2
    | goto l=>exact hq.elim
    | panic c=>exact hq.elim
    | outgrown=>exact hq.elim
  | exit id =>
   obtain⟨g1,S1,_,_,gG⟩:=hq;cases g1<;>(unfold exitTo at gG; exact gG.elim)
  | ret =>
   obtain⟨g1,S1,_,_,gG⟩:=hq;cases g1<;>(unfold lB at gG; exact gG.elim)
  | goto l=>exact hq.elim
  | panic c=>exact hq.elim
  | outgrown=>exact hq.elim
 have xE:∀ {st:Loop} {S':Sx} {W:World} {ρ:Nat->Option Rl} {ro:Nat->Prop},bh w0 (S0.dW D l st fm) F.N (join K' B) ⟨[],S'.e,S'.n⟩ ⟨a.tmps,[]⟩ W ρ ro->aP w0 Φ F.N B ⟨K'.t,S'.e++K'.e,S'.n⟩ { a with defers := [⟨.collected D,#[]⟩]++a.defers } (W.putObj l (.loop { st with state := .exhausted })):=by
  intro st S' W ρ ro HR;have HF:=HR.Re (rec' := { st with state := .exhausted }) oo KN oo;have HT:bh w0 (S0.mark D) F.N (join K' B) ⟨[],S'.e,S'.n⟩ { a with defers := [⟨.collected D,#[]⟩]++a.defers } _ ρ ro:=HF.jE rfl rfl rfl rfl ⟨HF.from_.inv.1,HF.from_.inv.2.1⟩ (by rw [H.defers]; rfl) rfl (fun l' r b q1 q2 q3=>(HF.own l' r b q1 q2).2.2.2 (q3.imp id .inl)) (fun b hb q3=>(HF.eN b hb).2 (q3.imp id .inl)) fun d v h=>⟨(H.fm d v h).1,KO d (H.fm d v h).2⟩
  exact⟨_,E.mks rfl qN S0 hS D hDf oo,_,_,bh.ZV (S0:=S0.mark D) (fun d v h=>(H.fm d v h).2) FN FO HT⟩
 refine (show CallsIn (wd none) (0 - 1) P _ _ _ _ from s7).mono ?_
 rintro e W' ⟨⟨v,rfl⟩,O,R,hJ'⟩
 rw [hJ] at hJ';rcases hJ' with (⟨h0,_⟩|⟨k,h0,ρ1,pa,HR,⟨Rn,cT⟩,_⟩)|(⟨_,jump,S',ρ1,pa,HR,hst,_⟩|⟨k,h0,_⟩)
 . omega
 . obtain rfl:res.n ()=k:=oo
   refine⟨_,_,run_endLoop HR.from_.inv.2.2 (by rw [nr]; simp),?_⟩;rw [nr];have hq:=xE (S':=⟨[],rp.oe (res.n ()),n⟩) HR;rw [nr] at hq;exact⟨f,_,oo,hq,(n8 _ Rn cT).2.elim fun Sk h=>h.2.2 rfl⟩
 . refine⟨_,_,run_endLoop HR.from_.inv.2.2 (by rw [nr]; simp),?_⟩;have hq:=xE HR;rw [nr] at hq ⊢;rcases hst with ⟨id,rfl,hP⟩|⟨rfl,hP⟩
   . exact wpIn_exit ⟨f,_,oo,hq,hP⟩
   . exact wpIn_ret ⟨f,_,oo,hq,hP⟩
 . omega
theorem aaE(aA:cS P F.C.ty)(kg:P.follows .mixedOrders=true):∀ (f),aar P F w0 f:=by
 intro f
 induction f using Nat.strongRecOn with
 | ind f ih0 =>
 intro c B S K Φ fd r a w E hr h H th bS;have aC:=E.cx;have ih:∀ g,g<f->∀ (c:Code) (B:Bs) (S:Sx) (K':List Kt) (a:Act) (w:World),(run F g c B S K').P->aP w0 Φ F.N B S a w->Wf fd (cb F.C) F.C.sc F.C.lt F.N B K'->codeOk (cb F.C) F.C.sc F.C.lt F.N c=true->Cg K'=Cg K->c.wpIn (wd r) 0 P (KQ F w0 Φ g B K') a w:=fun g hg c B S K' a w h1 h2 h3 h4 h5=>ih0 g hg c B S K' Φ fd r a w E (hr.trans h5.symm) h1 h2 h3 h4
 cases f with
 | zero=>unfold run at h; exact h.elim
 | succ f =>
  cases c with
  | skip=>unfold run at h; exact wpIn_skip ⟨f,S,oo,H,h⟩
  | label l=>unfold run at h; exact wpIn_label ⟨f,S,oo,H,h⟩
  | goto l=>unfold run at h; exact h.elim
  | scope b=>unfold run at h; exact h.elim
  | refuse why=>unfold run at h; exact h.elim
  | rangeFunc g ps x y =>
   simp only [codeOk,au] at bS;exact amO aA E hr (ih0 f oo) h H th bS.1 bS.2
  | ret=>unfold run at h; exact wpIn_ret ⟨f,S,oo,H,h⟩
  | exit id=>unfold run at h; exact wpIn_exit ⟨f,S,oo,H,h⟩
  | region id ops draw =>
   have H:aP w0 Φ F.N B (cond F.C.fx S (rU F.C.nb B (Ci F.C.fz id) S)) a w:=by
    cases hc:F.C.fx with
    | true=>exact H
    | false=>exact zZ aC.pl (fun S0 hS=>by rw [aC.fx S0 hS,hc]) H
   have H:=aj0 F.C id H;unfold run at h;have h:=amK h;have hk:∀ S' a' w',aP w0 Φ F.N B S' a' w'->(cont F f B S' K).P->KQ F w0 Φ (f+1) B K .normal a' w':=fun S' a' w' H' h'=>⟨f,S',oo,H',h'⟩
   have Rc:ops.toList.toArray=ops:=by simp
   have pW:∀ o∈ops.toList,∀ c,o.op ≠ .defer c:=fun o ho c e=>by
    simp only [codeOk,au] at bS;have:=dK.1 bS.1 o ho;rw [e] at this;cases this
   cases draw with
   | false=>exact wpIn_region_list (PJ pW (by rw [<- Rc]; simpa using Fh aA aC hk h H))
   | true =>
    dsimp only at h
    cases hj:Jt F.C.jn id with
    | none =>
     rw [hj] at h;exact aan pW aA aC kg (fun _ _ _ hq=>hq.elim) bS hk h H
    | some ks =>
     rw [hj] at h;obtain⟨S2,h2,k',h3,h4⟩:=amJ (w0:=w0) (Φ := Φ) h;exact aan pW aA aC kg (fun _ _ _ hq=>hq.elim) bS (fun S' a' w' H' fP=>hk S2 a' w' (h4 S' a' w' H' fP) h2) h3 H
  | seq x y =>
   unfold run at h;simp only [codeOk,au] at bS;refine wpIn_seq (wpIn_mono (ih f oo x B S (.code y::K) a w h H (.code _ _ _ bS.2 th) bS.1 rfl) fun e a' w' hq => ?_)
   cases e with
   | normal =>
    obtain⟨g,S',hg,H',hc⟩:=hq
    cases g with
    | zero=>unfold cont at hc; exact hc.elim
    | succ g =>
     unfold cont at hc;exact wpIn_mono (ih g oo y B S' K a' w' hc H' th bS.2 rfl) fun e a w q=>q.more oo
   | exit id =>
    obtain⟨g,S',hg,H',hc⟩:=hq
    cases g with
    | zero=>unfold exitTo at hc; exact hc.elim
    | succ g=>unfold exitTo at hc; exact⟨g,S',oo,H',hc⟩
   | ret =>
    exact aaG
   | goto l=>exact hq.elim
   | panic c=>exact hq.elim
   | outgrown=>exact hq.elim
  | cond x c1 c2 =>
   unfold run at h;dsimp only at h;simp only [codeOk,Bool.and_eq_true] at bS;obtain⟨S0,hS,ρ,ro,HR⟩:=H;have hx:=HR.get x;split at h
   . rename_i hg;rw [hg] at hx;exact wpIn_cond_true hx.pH (wpIn_mono (ih f oo c1 B S K a w h ⟨S0,hS,ρ,ro,HR⟩ th bS.1 rfl) fun e a w q=>q.more oo)
   . rename_i hg;rw [hg] at hx;exact wpIn_cond_false hx.pH (wpIn_mono (ih f oo c2 B S K a w h ⟨S0,hS,ρ,ro,HR⟩ th bS.2 rfl) fun e a w q=>q.more oo)
   . rename_i t hg;rw [hg] at hx;exact wpIn_cond_split hx.oR (fun ht=>wpIn_mono (ih f oo c1 B S K a w (h.1 ht) ⟨S0,hS,ρ,ro,HR⟩ th bS.1 rfl) fun e a w q=>q.more oo) fun ht=>wpIn_mono (ih f oo c2 B S K a w (h.2 ht) ⟨S0,hS,ρ,ro,HR⟩ th bS.2 rfl) fun e a w q=>q.more oo
   . exact h.elim
  | block id b =>
   unfold run at h;refine wpIn_block (wpIn_mono (ih f oo b B S (.block id::K) a w h H (.block _ _ _ th) bS rfl) fun e a' w' hq => ?_)
   cases e with
   | normal =>
    obtain⟨g,S',hg,H',hc⟩:=hq
    cases g with
    | zero=>unfold cont at hc; exact hc.elim
    | succ g=>unfold cont at hc; exact⟨g,S',oo,H',hc⟩
   | exit JM =>
    obtain⟨g,S',hg,H',hc⟩:=hq
    cases g with
    | zero=>unfold exitTo at hc; exact hc.elim
    | succ g =>
     unfold exitTo at hc;dsimp only at hc;show if JM=id then _ else _
     by_cases e:id=JM
     . subst e;rw [aw rfl] at hc ⊢;exact⟨g,S',oo,H',hc⟩
     . rw [ar e] at hc;rw [ar (fun h=>e h.symm)];exact⟨g,S',oo,H',hc⟩
   | ret =>
    exact aaG
   | goto l=>exact hq.elim
   | panic c=>exact hq.elim
   | outgrown=>exact hq.elim
  | loop b =>
   unfold run at h;dsimp only at h;split at h
   . rename_i k iB
     cases D6:bF k F.C.ul with
     | true =>
      have am5:∀ g,g<=f+1->∀ (S:Sx) (a:Act) (w:World),(run F g (.loop b) B S K).P->aP w0 Φ F.N B S a w->Code.roundsIn (wd r) 0 P b (KQ F w0 Φ (f+1) B K) g a w:=by
       intro g
       induction g using Nat.strongRecOn with
       | ind g ihg =>
       intro hg S a w h H
       cases g with
       | zero=>unfold run at h; exact h.elim
       | succ g =>
        unfold run at h;dsimp only at h;rw [iB] at h;dsimp only at h;rw [D6] at h;dsimp only at h;rw [roundsIn_succ];refine wpIn_mono (ih g oo b B S (.again b::K) a w h H (.again _ _ _ bS th) bS rfl) fun e a' w' hq => ?_
        cases e with
        | normal =>
         obtain⟨g',S',rH,H',hc⟩:=hq
         cases g' with
         | zero=>unfold cont at hc; exact hc.elim
         | succ g' =>
          unfold cont at hc;exact aaq (ihg g' oo oo S' a' w' hc H') oo
        | exit id =>
         obtain⟨g',S',rH,H',hc⟩:=hq
         cases g' with
         | zero=>unfold exitTo at hc; exact hc.elim
         | succ g'=>unfold exitTo at hc; exact⟨g',S',oo,H',hc⟩
        | ret =>
         obtain⟨g',S',rH,H',hc⟩:=hq
         cases g' with
         | zero=>unfold lB at hc; exact hc.elim
         | succ g'=>unfold lB at hc; exact⟨g',S',oo,H',hc⟩
        | goto l=>exact hq.elim
        | panic c=>exact hq.elim
        | outgrown=>exact hq.elim
      refine wpIn_loop_rounds (f+1) (am5 (f+1) (Nat.le_refl _) S a w ?_ H);unfold run;dsimp only;rw [iB];exact h
     | false =>
      rw [D6] at h;dsimp only at h;obtain⟨lp,⟨FL,Rf⟩,cr⟩:=amL h;generalize hn:ni S.n (dI (lp.oe lp.x0))=n at cr;generalize yK:(⟨oc (Pr b (dI (lp.oe lp.x0)) n S.t) (dI (lp.oe lp.x0)) n S.t,qz (dI (lp.oe lp.x0)) n S.e⟩:Bs)=K' at cr;have n8:∀ x,lp.I x->(qA (dI (lp.oe x)) (dI (lp.oe lp.x0))&&lZ (cP n) (lp.ov x)&&jr (cP n) (lp.oe x)&&l0 (join K' B).t (lp.ov x)&&l0 (join K' B).e (lp.oe x))=true/\(run F f b (join K' B) ⟨lp.ov x,lp.oe x,n⟩ (.back B K' (fun Bi S'=>if n<=S'.n then (match lp.nx with
       | some nx => .vc [fun _=>lp.I (nx x)/\lp.μ (nx x) ()<lp.μ x ()] (nj Bi (Aa F.C.nb Bi S' (lp.ov (nx x)) (lp.oe (nx x))) (lp.ov (nx x)) (lp.oe (nx x)))
       | none => .ex lp.X (fun y=>lp.I y/\lp.μ y ()<lp.μ x ()) fun y=>nj Bi (Aa F.C.nb Bi S' (lp.ov y) (lp.oe y)) (lp.ov y) (lp.oe y)) else .ff 17)::K)).P:=by
       intro x hx;have h1:=cr x hx;dsimp only at h1;by_cases hc:(qA (dI (lp.oe x)) (dI (lp.oe lp.x0))&&lZ (cP n) (lp.ov x)&&jr (cP n) (lp.oe x)&&l0 (join K' B).t (lp.ov x)&&l0 (join K' B).e (lp.oe x))=true
       . rw [aw hc] at h1;exact⟨hc,h1⟩
       . rw [ar hc] at h1;exact h1.elim
      obtain⟨S0,hS,ρ,ro,HR⟩:=H;have FM:S.n<=n:=by rw [<- hn]; exact KD _ _
      obtain⟨tf,Av,Aw,Rg,Rh⟩:=KF HR (md:=Pr b (dI (lp.oe lp.x0)) n S.t) (aD:=dI (lp.oe lp.x0)) FM (join K' B) (by rw [yK]);have FN:∀ d x,ak B.t d=some x->ak K'.t d=none:=by rw [<- yK]; exact Rg
      have FO:∀ l e,ak B.e l=some e->ak K'.e l=none:=by rw [<- yK]; exact Rh
      have hF:∀ d,fd d->(ak B.t d).isSome=true:=fun d hd=>by
       obtain⟨v,hv⟩:=(E.fm S0 hS d).1 hd;exact (HR.fm d v hv).2
      have sY:∀ S1,Φ S1->∀ l r,S1.pl l=some r->(r.dC||S1.fx)=true->l<n:=fun S1 hS1 l r q1 q2=>by
       obtain⟨r',q1,q2⟩:=aC.dm S0 S1 hS hS1 l r q1 q2;have q3:=HR.dC l r' q1 q2;rcases cw l n with h|h
       . exact h
       . rw [HR.fresh l (e8 FM h)] at q3; cases q3
      have ir:∀ x {T1:Pm} (_ : Φ T1) {BB:Bs} (_:∀ d,(ak BB.t d).isSome=true->(ak (join K' B).t d).isSome=true) {S1:Sx} {a1:Act} {w1:World} {ρ1:Nat->Option Rl} {pa:Nat->Prop},bh w0 T1 F.N BB S1 a1 w1 ρ1 pa->lp.I x->(nj BB S1 (lp.ov x) (lp.oe x)).P->(∀ d y,ak (join K' B).t d=some y->∃ u,a1.tmps[d]? = some u/\ah w1 ρ1 w0.heap.size pa y u)->(∀ l e,ak (join K' B).e l=some e->c7 w1 ρ1 w0.heap.size pa l e)->aP w0 Φ F.N (join K' B) ⟨lp.ov x,lp.oe x,n⟩ a1 w1:=by
       intro x T1 aaH BB KO S1 a1 w1 ρ1 pa H1 hx heq Rj Rk;obtain⟨ta,tb,e1,e2,e3⟩:=KG heq;have hc:=(n8 x hx).1;simp only [au] at hc;exact H1.QT aaH (sY T1 aaH) e1 e2 e3 hc.1.1.1.2 hc.1.1.2 hc.1.2 hc.2 (fun d y hy=>by obtain⟨u,q1,q2⟩:=Rj d y hy; exact⟨u,q1,q2,tf.t d y hy⟩) (fun l e he=>⟨Rk l e he,tf.e l e he⟩) KO
      refine wpIn_loop_ghost (fun m a w=>∃ x,lp.I x/\lp.μ x ()=m/\aP w0 Φ F.N (join K' B) ⟨lp.ov x,lp.oe x,n⟩ a w) (lp.μ lp.x0 ()) ⟨lp.x0,FL,rfl,ir lp.x0 hS (fun d hd=>by unfold join; dsimp only; rw [qI]; split<;>first|rfl|exact hd) HR FL Rf Av Aw⟩ ?_
      rintro m a1 w1 ⟨x,hx,rfl,H1⟩
      have cB:=(n8 x hx).2;refine wpIn_mono (ih f oo b (join K' B) _ _ a1 w1 cB H1 (.back _ _ _ _ hF FN FO th) bS rfl) fun e a' w' hq => ?_
      cases e with
      | normal =>
       obtain⟨g,S',hg,H',hc⟩:=hq
       cases g with
       | zero=>unfold cont at hc; exact hc.elim
       | succ g =>
        unfold cont at hc;dsimp only at hc;split at hc
        . have fA:∀ y,lp.I y->lp.μ y ()<lp.μ x ()->(nj (join K' B) (Aa F.C.nb (join K' B) S' (lp.ov y) (lp.oe y)) (lp.ov y) (lp.oe y)).P->∃ n',n'<lp.μ x ()/\∃ x',lp.I x'/\lp.μ x' ()=n'/\aP w0 Φ F.N (join K' B) ⟨lp.ov x',lp.oe x',n⟩ a' w':=by
           intro y hy aj heq;obtain⟨S0,hS,ρ',ro',FP⟩:=KH aC.pl _ H';exact⟨_,aj,y,hy,rfl,ir y hS (fun _ h=>h) FP hy heq (fun d z hz=>FP.tm d z (by unfold dH; rw [FP.jL d z hz]; exact hz)) fun l e he=>FP.en l e (by unfold bc; rw [FP.jM l e he]; exact he)⟩
          split at hc
          . rename_i nx lD;obtain⟨⟨q1,q2⟩,q3⟩:=hc;exact fA _ q1 q2 q3
          . obtain⟨y,⟨q1,q2⟩,q3⟩:=hc;exact fA y q1 q2 q3
        . exact hc.elim
      | exit id =>
       obtain⟨g,S',hg,H',hc⟩:=hq
       cases g with
       | zero=>unfold exitTo at hc; exact hc.elim
       | succ g=>unfold exitTo at hc; exact⟨g,_,oo,ZW (fun S0 hS d v hv=>hF d ((E.fm S0 hS d).2 ⟨v,hv⟩)) FN FO H',hc⟩
      | ret =>
       obtain⟨g,S',hg,H',hc⟩:=hq
       cases g with
       | zero=>unfold lB at hc; exact hc.elim
       | succ g=>unfold lB at hc; exact⟨g,_,oo,ZW (fun S0 hS d v hv=>hF d ((E.fm S0 hS d).2 ⟨v,hv⟩)) FN FO H',hc⟩
      | goto l=>exact hq.elim
      | panic c=>exact hq.elim
      | outgrown=>exact hq.elim
   . exact h.elim
end
def CF(tmps:Array Value):ResultVar->Sem Value
 | .tmp t=>pure (tmps.getD t undef)
 | .cell p t=>do loadVar t (<- asAddr (tmps.getD p undef))
def Ro:List Value->Value
 | [v]=>v
 | vs => .tuple vs.toArray
section
variable{w w' w0:World}{ρ ρ' ρ2:Nat->Option Rl}{base kc n:Nat}{ro ro':Nat->Prop}{S0:Pm}{Φ : Pm->Prop}{N:Nat}{B:Bs}{S:Sx}{a:Act}{F:Fx}{P:Program}
theorem KT{C:Cx}(aA:cS P C.ty)(H:bh w0 S0 N B S a w ρ ro):∀ {rs:List ResultVar} {l:List AV},sW C B S rs=some l ->
 ∃ vs,(rs.mapM (CF a.tmps)).run P w = .ok vs w/\aQ w ρ w0.heap.size ro l vs
 | [],l,h=>by
  simp only [sW,bI] at h;subst h;exact⟨[],rfl,.nil⟩
 | .tmp t::rs,l,h=>by
  unfold sW at h
  cases hr:sW C B S rs with
  | none=>rw [hr] at h; cases h
  | some r =>
   rw [hr] at h;simp only [dv,bI] at h;subst h;obtain⟨vs,h1,h2⟩:=KT aA H hr;have h3:=H.get (.tmp t);refine⟨a.eval (.tmp t)::vs,?_,.cons h3 h2⟩;have hO:(CF a.tmps (.tmp t)).run P w = .ok (a.eval (.tmp t)) w:=rfl;exact aaI
 | .cell p T::rs,l,h=>by
  unfold sW at h;split at h
  . rename_i i hi;split at h
    . rename_i x r hx hr;cases h;obtain⟨vs,h1,h2⟩:=KT aA H hr;obtain⟨ad,v,h3,h4,h5⟩:=W8 (fun l e he=>H.en l e he) (aA T i hi) hx (H.get (.tmp p));refine⟨v::vs,?_,.cons h5 h2⟩;have h3':a.tmps.getD p undef = .pointer (some ad):=h3;have hA:(asAddr (a.tmps.getD p undef)).run P w = .ok ad w:=by rw [h3']; rfl
      have hO:(CF a.tmps (.cell p T)).run P w = .ok v w:=by
       unfold CF;simp only [bt,hA,bM,h4]
      exact aaI
    . cases h
  . cases h
theorem aaJ(h:(fn.results.toList.mapM (CF a.tmps)).run P w = .ok vs w):(results fn a.tmps).run P w = .ok (Ro vs) w:=by
 show (do
  let vs <- fn.results.mapM (CF a.tmps)
  pure (if h:vs.size=1 then vs[0] else .tuple vs):Sem Value).run P w=_
 rw [Array.mapM_eq_mapM_toList];simp only [bt,Sem.run_map,h,bM,bU]
 match vs with
 | []=>rfl
 | [v]=>rfl
 | u::v::l=>simp [Ro]
theorem am8{l:List AV}(h:aQ w ρ base ro l vs):ah w ρ base ro (JN l) (Ro vs):=by
 match l,vs,h with
 | [],[],h=>exact .aU [] [] h.1 h.2
 | [x],[v],h=>exact h.2 0 x v rfl rfl
 | x::y::l,u::v::vs,h=>exact .aU (x::y::l) (u::v::vs) h.1 h.2
 | [],_::_,h=>exact absurd h.1 (by simp)
 | _::_,[],h=>exact absurd h.1 (by simp)
 | [x],u::v::vs,h=>exact absurd h.1 (by simp)
 | x::y::l,[v],h=>exact absurd h.1 (by simp)
theorem Rq:∀ (l) (k d) (x),ak (wE k l) d=some x->k<=d/\l[d - k]? = some x
 | [],k,d,x,h=>by cases h
 | y::l,k,d,x,h=>by
  unfold wE at h;rw [cu] at h;split at h
  . rename_i e;subst e;cases h;simp
  . obtain⟨h1,h2⟩:=Rq l (k+1) d x h;refine⟨oo,?_⟩;rw [show d - k=(d - (k+1))+1 from oo];simpa using h2
end
theorem wT{P : Program}(hf : P.funcs[f]? = some fn)(hb : fn.body.isNone = false)(hn : (fn.name == "runtime.NumGoroutine") = false)(args)(w) : (callFunc f args).run P w = .ok (.enter f args) w := by
 unfold callFunc;simp only [bt,m5,bM,hf,hn,hb,dS,dB,bU]
section
variable{w w' w0:World}{ρ ρ' ρ2:Nat->Option Rl}{base kc n:Nat}{ro ro':Nat->Prop}
theorem am9(ag)(t)(x):AV.qC (eD ag false t x)=true:=by
 unfold eD;have h:=Rb t x
 cases ag with
 | true=>exact h
 | false =>
  simp only [dS,dB]
  cases hc:aO false t x with
  | nil=>rfl
  | cons c l =>
   rw [hc] at h
   cases l with
   | nil=>simpa [AV.om] using h
   | cons c2 l=>rfl
theorem c7.wu{l:Nat}{e:En}(h:c7 w ρ base ro l e)(hx:En.qC e=true):c7 w ρ kc ro l e:=by
 cases e with
 | box T cells =>
  obtain⟨b,cs,h1,h4,h5⟩:=h;exact⟨b,cs,h1,h4,h5.1,fun j x v wi hv=>(h5.2 j x v wi hv).wu (uW (by simpa [En.qC] using hx) wi)⟩
 | row fr t T m =>
  obtain⟨A,c,css,h1,h2,h3,h5⟩:=h;have hf:fr=false:=by simpa [En.qC] using hx
  subst hf;exact⟨A,c,css,h1,h2,h3,fun k cs j x v k1 k2 k3=>(h5 k cs j x v k1 k2 k3).wu (uW (Rb _ _) k2)⟩
 | map fr ag c t T m =>
  obtain⟨b,es,clock,h1,h2,h3,h4⟩:=h;have hf:fr=false:=by simpa [En.qC] using hx
  subst hf;exact⟨b,es,clock,h1,h2,h3,h4.rQ fun x v hx=>hx.wu (am9 _ _ _)⟩
 | iter ml c seen left=>exact h
 | bq ml c key=>exact h
 | fh k=>exact h
 | dead=>exact h
theorem aaK:∀ {l:List (Nat×En)} {k:Nat} {e:En},JO l=true->ak l k=some e->En.qC e=true
 | (j,y)::l,k,e,h,he=>by
  unfold JO at h;simp only [au] at h;rw [cu] at he;split at he
  . cases he; exact h.1
  . exact aaK h.2 he
 | [],_,_,_,he=>by cases he
theorem Rr{ks:List Nat}:∀ {n l:Nat},ye ks n=true->l<n->bF l ks=true
 | n+1,l,h,hl=>by
  simp only [ye,au] at h;rcases cw l n with h1|h1
  . exact Rr h.2 h1
  . rw [show l=n from oo]; exact h.1
 | 0,_,_,hl=>oo
end
inductive wU (w0:World) (S:Pm):Pm->Prop
 | base:wU w0 S S
 | mark {T:Pm} (D:Nat) (h:wU w0 S T) (hD:¬ T.jK D) (hl:w0.heap.size<=D):wU w0 S (T.mark D)
theorem wU.same(h:wU w0 S T):T.rd=S.rd/\T.pl=S.pl/\T.fx=S.fx/\T.fm=S.fm:=by
 induction h with
 | base=>exact⟨rfl,rfl,rfl,rfl⟩
 | mark D h hD hl ih=>exact ih
section
variable{w0:World}{N:Nat}{B:Bs}{S:Sx}{P:Program}{fn:Func}{R:Ending->World->Prop}{Sb:Pm}
theorem ana(hT:wU w0 Sb T):∀ {a:Act} {w:World} {ρ:Nat->Option Rl} {ro:Nat->Prop},bh w0 T N B S a w ρ ro->(∀ w ρ ro,bh w0 Sb N B S ⟨a.tmps,Sb.ds⟩ w ρ ro->LeavesInM Fence.wide 0 P fn a.tmps R Sb.ds .returning w)->LeavesInM Fence.wide 0 P fn a.tmps R T.ds .returning w:=by
 induction hT with
 | base=>intro a w ρ ro H h; exact h w ρ ro (H.jE rfl rfl rfl rfl H.from_.inv rfl rfl (fun l r b q1 q2=>(H.own l r b q1 q2).2.2.2) (fun b hb=>(H.eN b hb).2) H.fm)
 | mark D hT hD hl ih =>
  rename_i T;intro a w ρ ro H h;have hi:=H.from_.inv;have H1:bh w0 T N B S ⟨a.tmps,T.ds⟩ w ρ ro:=H.jE rfl rfl rfl rfl hi.1 rfl rfl (fun l r b q1 q2 q3=>(H.own l r b q1 q2).2.2.2 (.inl q3)) (fun b hb q3=>(H.eN b hb).2 (.inl q3)) H.fm;have H2:=H1.Co (w':=w.putObj D (.deferred none)) rfl rfl rfl (by rw [World.putObj_size]; exact az _) fun b hb hc=>World.putObj_heap_other (by
   rintro rfl
   rcases hc with h|h|⟨l,r,q1,q2⟩|h
   . omega
   . exact (H.eN _ h).2 (.inr rfl)
   . exact (H.own l r _ q1 q2).2.2.2 (.inr rfl)
   . exact hD h)
  exact⟨by simp,.inl ⟨D,_,rfl,run_takeDeferred hi.2,ih (a:=⟨a.tmps,T.ds⟩) H2 h⟩⟩
end
theorem aaL{P:Program}{Ls:List (Nat×Lp)}{ai:List AV}{Ac es:List (Nat×En)}{want:AV}(aA:cS P C.ty)(aC:(∀ c∈C.cs,aK P c)/\(∀ c∈C.fs,gp P c)/\∀ c∈C.lY,pT P c)(qN:C.yl=none)(kg:P.follows .mixedOrders=true)(hf:P.funcs[f]? = some fn)(hb:fn.body.isNone=false)(bS:codeOk (jo C.fs) C.sc C.lt fn.ntmps (kF fn)=true)(hP:(Ab C Ls fn ai Ac n0 want es).P){ρ:Nat->Option Rl}(l6:∀ b,ra b->b<w.heap.size)(hE:aQ w ρ 0 ra ai dt)(kC:∀ l e,ak Ac l=some e->c7 w ρ 0 ra l e)(ja:∀ l l' r r' b,l≠l' -> ρ l=some r -> ρ l'=some r'->r.ca=some b->r'.ca≠some b)(cK:∀ l,n0<=l -> ρ l=none)(bC:∀ l r b,ρ l=some r->r.ca=some b->b<w.heap.size/\¬ ra b) :
 Calls P f dt.toArray w fun e w'=>∃ v ρ1 eV,e = .returned v/\Left w w' ρ ρ1 ra eV es C.fx/\ah w' ρ1 w.heap.size eV want v:=by
 unfold Ab at hP;split at hP
 . rename_i n8;simp only [au,aI] at n8;obtain⟨⟨⟨⟨⟨⟨kJ,hlen⟩,l7⟩,aT⟩,cO⟩,aaM⟩,cr⟩:=n8;obtain⟨code,FQ⟩:∃ code,fn.body=some code:=by
    exact aaN
   have vS:kF fn=code:=by unfold kF; rw [FQ]; rfl
   rw [vS] at hP bS;have mH:dt.length<=fn.ntmps:=by rw [<- hE.1]; exact hlen
   have anb:cb C=jo C.fs:=by unfold cb; rw [qN]
   rw [<- anb] at bS;refine callsIn_wide.1 (callsIn_of_wp_marks (F:=Fence.wide) (n:=0) hf FQ trivial ?_);obtain⟨Sb,FR⟩:∃ Sb:Pm,Sb = { rd:=ra,pl := ρ,fx:=C.fx }:=⟨_,rfl⟩
   have Rs:aP w (wU w Sb) fn.ntmps ⟨[],[]⟩ ⟨wE 0 ai,Ac,n0⟩ ⟨dt.toArray++Array.replicate (fn.ntmps - dt.toArray.size) undef,[]⟩ w:=by
    subst FR;refine⟨_,.base,ρ,ra,⟨rfl,rfl,rfl,az _,fun _ _ _ _=>rfl,trivial⟩,by simp; omega,rfl,l6,fun d x hx => ?_,fun l e he => ?_,ja,cK,fun l r b h1 h2=>⟨(bC l r b h1 h2).1,(bC l r b h1 h2).2,.inr ⟨r,h1,h2⟩,id⟩,fun b hb=>⟨fun _=>hb,id⟩,fun l r h _=>h,fun d x h=>by simp [ak] at h,fun l e h=>by simp [ak] at h,fun d v h=>by cases h⟩
    . have h1:ak (wE 0 ai) d=some x:=by
       exact aaO
      obtain⟨_,h2⟩:=Rq ai 0 d x h1;rw [rC] at h2;obtain⟨v,h3,h4⟩:=hE.get h2;refine⟨v,?_,h4.wu (uW l7 h2)⟩;have hd:=(cM.1 h3).1;rw [aw2 (by simpa using hd)];simpa using h3
    . have h1:ak Ac l=some e:=by
       exact aaP
      exact (kC l e h1).wu (aaK aT h1)
   have aaQ:∀ l r,ρ l=some r->l<C.nb:=fun l r h=>by
    rcases cw l n0 with h1|h1
    . omega
    . rw [cK l h1] at h; cases h
   have Rt:FK P ⟨C,fn.ntmps,Ls,Cl C fn.results.toList want es⟩ w (wU w Sb) (fun _=>False) none:=by
    subst FR;exact⟨{ cs:=aC.1,fs:=aC.2.1,lY:=aC.2.2,fx:=fun T h=>h.same.2.2.1,pl:=fun T h l r hl=>by rw [h.same.2.1] at hl; exact aaQ l r hl,dm:=fun T U h k l r q1 q2=>⟨r,by rw [h.same.2.1,<- k.same.2.1]; exact q1,by rw [h.same.2.2.1,<- k.same.2.2.1]; exact q2⟩,yl:=fun y h=>by rw [qN] at h; cases h },fun T h d=>by rw [h.same.2.2.2]; exact⟨False.elim,fun ⟨v,h⟩=>by cases h⟩,fun _ _ T h D h1 h2=>h.mark D h1 h2⟩
   refine wpIn_mono (aaE (F:=⟨C,fn.ntmps,Ls,Cl C fn.results.toList want es⟩) (w0:=w) aA kg 100000 code ⟨[],[]⟩ _ [] _ _ none _ w Rt rfl hP Rs (.nil _) bS) fun e a' w' hq => ?_;have anc:∀ S w',aP w (fun T=>T=Sb) fn.ntmps ⟨[],[]⟩ S ⟨a'.tmps,Sb.ds⟩ w'->(Cl C fn.results.toList want es ⟨[],[]⟩ S).P->∃ v,(results fn a'.tmps).run P w' = .ok v w'/\∃ u ρ1 eV,Ending.returned v = .returned u/\Left w w' ρ ρ1 ra eV es C.fx/\ah w' ρ1 w.heap.size eV want u:=by
    intro S w' H hr;obtain⟨S0,hS,ρ',ro,H⟩:=KH (nb:=C.nb) (prs:=fun S=>match sW C ⟨[],[]⟩ S fn.results.toList with
     | some l=>JJ (JN l) want
     | none => []) (fun T e=>by subst e; subst FR; exact aaQ) 3 H
    subst hS;subst FR;unfold Cl Ya Yb at hr;split at hr
    . rename_i l hl;split at hr
      . rename_i va vb Fw hvb;obtain⟨vs,h1,h2⟩:=KT (P:=P) aA H hl;have hv:=E9 (Fg hr);generalize nk:dI es=ks at Fw hvb cO aaM cr;obtain⟨ρ1,KU⟩:∃ ρ1:Nat->Option Rl,ρ1=fun l=>if bF l ks then ρ' l else none:=⟨_,rfl⟩
        obtain⟨eV,KV⟩:∃ eV:Nat->Prop,eV=fun b=>(ra b\/w.heap.size<=b)/\b<w'.heap.size/\∀ l r,ρ1 l=some r->r.ca≠some b:=⟨_,rfl⟩
        have fi:∀ l r,ρ1 l=some r -> ρ' l=some r/\bF l ks=true:=by
         intro l r h;rw [KU] at h;simp only at h;split at h
         . rename_i hm; exact⟨h,hm⟩
         . cases h
        have bB:∀ b,ro b->eV b:=by
         intro b hb;rw [KV];refine⟨?_,H.gn b hb,fun l r h1 h2=>(H.own l r b (fi l r h1).1 h2).2.1 hb⟩;rcases cw b w.heap.size with h|h
         . exact .inl ((H.eN b hb).1 h)
         . exact .inr h
        have M:Fa w ρ' ρ1 ro eV (PF ks) (some ks):=by
         refine⟨fun l r h hm => ?_,bB,(fun h=>by cases h),fun ks' hk loc r b h hm sR => ?_⟩
         . rw [KU];have pJ:bF l ks=true:=hm;simp only [pJ,eH];exact h
         . injection hk with hk;subst hk;have h3:=H.own loc _ b h sR;have h4:w.heap.size<=b:=by
            rcases h3.2.2.1 with h4|⟨r0,h4,_⟩
            . exact h4
            . have FF : ρ loc=some r0:=h4;rcases cw loc n0 with h5|h5
              . rw [Rr cr h5] at hm; cases hm
              . rw [cK loc h5] at FF; cases FF
           refine⟨h4,?_⟩;rw [KV];exact⟨.inr h4,h3.1,fun l r' h5 h6=>H.apart l loc r' r b (fun e=>by subst e; rw [(fi _ _ h5).2] at hm; cases hm) (fi l r' h5).1 h h6 sR⟩
        refine⟨_,aaJ h1,_,ρ1,eV,rfl,⟨⟨H.from_.os,H.from_.tape,H.from_.output,H.from_.size,fun k hk hn=>H.from_.block k hk hn id⟩,fun l e he=>ZK H M hvb hv.2 aaM l e he,fun l l' r r' b aT k1 k2 k3 k4=>H.apart l l' r r' b aT (fi l r k1).1 (fi l' r' k2).1 k3 k4,fun l hl => ?_,fun l r b k1 k2 => ?_,fun b hb => ?_,fun l r k1 k2 => ?_⟩,P8 H M _ _ va _ Fw hv.1 (am8 h2) cO⟩
        . rw [nk] at hl;rw [KU];simp only [hl,dS,dB]
        . have h3:=H.own l r b (fi l r k1).1 k2;refine⟨h3.1,fun hb => ?_,h3.2.2.1⟩;rw [KV] at hb;exact hb.2.2 l r k1 k2
        . rw [KV] at hb;exact⟨hb.2.1,fun aj=>hb.1.resolve_right oo⟩
        . have h3:=H.dC l r k1 k2;rw [KU];have hm:bF l ks=true:=by
           rcases cw l n0 with h5|h5
           . exact Rr cr h5
           . rw [cK l h5] at k1; cases k1
          simp only [hm,eH];exact h3
      . exact hr.elim
    . exact hr.elim
   have fA:∀ S,aP w (wU w Sb) fn.ntmps ⟨[],[]⟩ S a' w'->(Cl C fn.results.toList want es ⟨[],[]⟩ S).P->bodyPostM Fence.wide 0 P fn (fun e w'=>∃ v ρ1 eV,e = .returned v/\Left w w' ρ ρ1 ra eV es C.fx/\ah w' ρ1 w.heap.size eV want v) .ret a' w':=by
    intro S H hr;obtain⟨T,hT,ρ',ro,H⟩:=H;show LeavesInM _ _ _ _ _ _ a'.defers _ _
    rw [H.defers];refine ana hT H fun w' ρ' ro H => ?_;have h:=anc S w' ⟨_,rfl,ρ',ro,H⟩ hr;subst FR;exact h
   exact aaS
 . exact hP.elim
theorem FT{P : Program}{c : aH}(aA : cS P C.ty)(aC : (∀ c ∈ C.cs, aK P c) /\ (∀ c ∈ C.fs, gp P c) /\ ∀ c ∈ C.lY, pT P c)(qN : C.yl = none)(kg : P.follows .mixedOrders = true)(hf : P.funcs[c.f]? = some fn)(hb : fn.body.isNone = false)(hn : (fn.name == "runtime.NumGoroutine") = false)(bS : codeOk (jo C.fs) C.sc C.lt fn.ntmps (kF fn) = true)(h:∀ ai res,c.go ai=some res->res.pre ()->∃ Ls,(yp C Ls fn ai res.av).P):aK P c:=by
 refine⟨fun args w=>wT hf hb hn args w,fun ai res jk w ra dt l6 hE jm => ?_⟩;obtain⟨Ls,hP⟩:=h ai res jk jm;refine (aaL aA aC qN kg hf hb bS hP (ρ:=fun _=>none) l6 hE (fun l e h=>by cases h) (fun _ _ _ _ _ _ h=>by cases h) (fun _ _=>rfl) (fun _ _ _ h=>by cases h)).mono fun e w' hq => ?_;obtain⟨v,ρ1,eV,rfl,hL,hv⟩:=hq;have hρ : ρ1=fun _=>none:=funext fun l=>hL.fresh l rfl;subst hρ;refine⟨v,rfl,hL.from_.none_,hv.mono (fun _ _ _=>rfl) (Ext.refl _) (az _) fun b hb => ?_⟩;rcases cw b w.heap.size with h|h
 . exact .inl ((hL.rd b hb).2 h)
 . exact .inr h
theorem aaT{P : Program}{c : fk}(iJ : C.fx = c.fix)(aA : cS P C.ty)(aC : (∀ c ∈ C.cs, aK P c) /\ (∀ c ∈ C.fs, gp P c) /\ ∀ c ∈ C.lY, pT P c)(qN : C.yl = none)(kg : P.follows .mixedOrders = true)(hf : P.funcs[c.f]? = some fn)(hb : fn.body.isNone = false)(hn : (fn.name == "runtime.NumGoroutine") = false)(bS : codeOk (jo C.fs) C.sc C.lt fn.ntmps (kF fn) = true)(h:∀ ai es res,c.go ai es=some res->res.pre ()->∃ Ls,(Ab C Ls fn ai es c.n res.av res.es).P):gp P c:=by
 refine⟨fun args w=>wT hf hb hn args w,fun ai es res jk w ρ ra dt l6 hE kC ja cK bC jm => ?_⟩;obtain⟨Ls,hP⟩:=h ai es res jk jm;rw [<- iJ];exact aaL aA aC qN kg hf hb bS hP l6 hE kC ja cK bC
theorem ane{P : Program}(aA : cS P C.ty)(aC : (∀ c ∈ C.cs, aK P c) /\ (∀ c ∈ C.fs, gp P c) /\ ∀ c ∈ C.lY, pT P c)(iJ : C.fx = false)(kg : P.follows .mixedOrders = true)(hf : P.funcs[c.f]? = some fn)(hb : fn.body.isNone = false)(hn : (fn.name == "runtime.NumGoroutine") = false)(bS : codeOk (999999999 :: jo C.fs) C.sc C.lt fn.ntmps (kF fn) = true)(h:∀ ai res,c.go ai=some res->res.pre ()->∀ l,∃ Ls,(PG C Ls fn ai l res).P):pT P c:=by
 refine⟨fun args w=>wT hf hb hn args w,fun ai res jk w ra dt l J O R hJ l6 hE jm hJ1 hY => ?_⟩;obtain⟨Ls,hP⟩:=h ai res jk jm l;unfold PG at hP;split at hP
 rotate_left
 . exact hP.elim
 rename_i n8;simp only [au,aI] at n8;obtain⟨⟨kJ,hlen⟩,l7⟩:=n8;obtain⟨code,FQ⟩:∃ code,fn.body=some code:=by
  exact aaN
 have vS:kF fn=code:=by unfold kF; rw [FQ]; rfl
 rw [vS] at hP bS;obtain⟨T,hT⟩:∃ T:Nat->(Nat->Prop)->(Nat->Prop)->Pm,T=fun p O R => { rd:=ra,pl:=fun l=>if l=0 then some (.bq p) else none,fx:=false,jK:=fun b=>R b\/O b,own:=O,inv:=fun W=>J p O R W,ex:=fun _=>True,yc:=fun _ h => .inr h,oa:=fun w b h k=>hJ.oa p O R w b h k,yd:=fun w w' h e1 e2 e3 e4 k=>hJ.yd p O R w w' h e1 e2 e3 e4 k }:=⟨_,rfl⟩
 have mH:dt.length+1<=fn.ntmps:=by rw [<- hE.1]; exact hlen
 have hea:(#[.func (.yield l) #[] #[]]++dt.toArray:Array Value)=(.func (.yield l) #[] #[]::dt).toArray:=by simp
 rw [hea];refine callsIn_of_wp_marks (F:=Fence.wide) (n:=0) hf FQ trivial ?_;have pR:aQ w (fun l=>if l=0 then some (.bq 1) else none) w.heap.size ra (.fJ (fun _=>l)::ai) (.func (.yield l) #[] #[]::dt) := .cons (.fJ _) (aal hE l7 fun _ h=>h);have Rs:aP w (fun U=>∃ p O R,U=T p O R) fn.ntmps ⟨[],[]⟩ ⟨wE 0 (.fJ (fun _=>l)::ai),[(0,.fh fun _=>1)],1⟩ ⟨(.func (.yield l) #[] #[]::dt).toArray++Array.replicate (fn.ntmps - (.func (.yield l) #[] #[]::dt).toArray.size) undef,[]⟩ w:=by
  subst hT;refine⟨_,⟨1,O,R,rfl⟩,fun l=>if l=0 then some (.bq 1) else none,ra,⟨rfl,rfl,rfl,az _,fun _ _ _ _=>rfl,hJ1⟩,by simp; omega,rfl,fun b hb=>(l6 b hb).1,fun d x hx => ?_,fun l' e he => ?_,fun l1 l2 r r' b _ k1 _ k3 _ => ?_,fun l' cp=>ar (by simp only at cp; omega),fun l' r b k1 k2 => ?_,fun b hb=>⟨fun _=>hb,(l6 b hb).2⟩,fun l' r h _=>h,fun d x h=>by simp [ak] at h,fun l e h=>by simp [ak] at h,fun d v h=>by cases h⟩
  . have h1:ak (wE 0 (.fJ (fun _=>l)::ai)) d=some x:=by
     exact aaO
    obtain⟨_,h2⟩:=Rq _ 0 d x h1;rw [rC] at h2;obtain⟨v,h3,h4⟩:=pR.get h2;refine⟨v,?_,h4⟩;have hd:=(cM.1 h3).1;rw [aw2 (by simpa using hd)];simpa using h3
  . have h1:ak [(0,En.fh fun _=>1)] l'=some e:=by
     exact aaP
    rw [cu] at h1;split at h1
    . rename_i h0;subst h0;cases h1;rfl
    . cases h1
  . split at k1
    . cases k1; cases k3
    . cases k1
  . split at k1
    . cases k1; cases k2
    . cases k1
 have Rt:FK P ⟨{ C with yl:=some ⟨fun _=>l,res.n,res.el⟩ },fn.ntmps,Ls,E0 C fn.results.toList res.n⟩ w (fun U=>∃ p O R,U=T p O R) (fun _=>False) none:=by
  subst hT;refine⟨{ cs:=aC.1,fs:=aC.2.1,lY:=aC.2.2,fx := ?f1,pl := ?f2,dm := ?f3,yl := ?f4 },?f5,fun _ h=>by cases h⟩
  case f1=>rintro U ⟨p,O,R,rfl⟩; exact iJ.symm
  case f5=>rintro U ⟨p,O,R,rfl⟩ d; exact⟨False.elim,fun ⟨v,h⟩=>by cases h⟩
  case f2 =>
   rintro U ⟨p,O,R,rfl⟩ l' r hl
   dsimp only at hl;split at hl
   . rename_i h0; show l'<C.nb; omega
   . cases hl
  case f3 =>
   rintro U V ⟨p,O,R,rfl⟩ ⟨p',O',R',rfl⟩ l' r q1 q2
   dsimp only at q1 ⊢;split at q1
   . rename_i h0;exact⟨.bq p,by rw [aw h0],rfl⟩
   . cases q1
  case f4 =>
   rintro y hy U ⟨p,O,R,rfl⟩
   injection hy with hy;subst hy;refine⟨fun _=>trivial,p,rfl,fun W args rr hi h0 hp Kj rZ => ?_⟩;obtain⟨q,rfl⟩:∃ q,p=q+1:=⟨p - 1,oo⟩
   obtain⟨fn',ani,jI,bd',h1,h2⟩:=hY q O R W args rr hi (by have h5:q+1<=res.n ():=hp; omega) Kj rZ;refine⟨fn',ani,jI,bd',h1,h2.mono fun e W' hq => ?_⟩;obtain⟨ok,O',R',rfl,h3,h4⟩:=hq;refine⟨ok,_,rfl,⟨cond ok (q+2) 0,O',R',rfl⟩,rfl,rfl,rfl,rfl,rfl,h3,h4.os,h4.tape,h4.output,h4.size,h4.jA,h4.own,fun b hb => ?_⟩;rcases hb with hb|hb
   . exact (h4.jK b hb).imp .inl id
   . exact (h4.own b hb).elim (fun h => .inl (.inr h)) fun h => .inr (.inr h)
 refine wpIn_mono (aaE (F:=⟨{ C with yl:=some ⟨fun _=>l,res.n,res.el⟩ },fn.ntmps,Ls,E0 C fn.results.toList res.n⟩) (w0:=w) aA kg 100000 code ⟨[],[]⟩ _ [] _ _ none _ w Rt rfl hP Rs (.nil _) bS) fun e a' w' hq => ?_;have fA:∀ S,aP w (fun U=>∃ p O R,U=T p O R) fn.ntmps ⟨[],[]⟩ S a' w'->(E0 C fn.results.toList res.n ⟨[],[]⟩ S).P->bodyPostM Fence.wide 0 P fn (fun e w'=>(∃ v,e = .returned v)/\∃ O R,J (res.n ()+1) O R w'\/J 0 O R w') .ret a' w':=by
  intro S ⟨U,⟨p,O,R,hU⟩,ρ',ro,H⟩ hr;subst hT;subst hU;show LeavesInM _ _ _ _ _ _ a'.defers _ _
  rw [H.defers];unfold E0 at hr;split at hr
  . rename_i rl k yy hk;obtain⟨vs,h1,_⟩:=KT (P:=P) aA H yy;refine⟨_,aaJ h1,⟨_,rfl⟩,O,R,?_⟩;have h2 : ρ' 0=some (.bq (k ())):=H.en _ _ hk;have h3:=H.dC 0 (.bq p) rfl rfl;rw [h2] at h3;injection h3 with h3;injection h3 with h3;have hi:J p O R w':=H.from_.inv;rcases hr with h4|h4
    . left; rw [<- h4,h3]; exact hi
    . right; rw [<- h4,h3]; exact hi
  . exact hr.elim
 exact aaS
end Go.Proofs.YtlpikgchnjajmaaGreat
