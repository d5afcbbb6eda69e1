/-
  The abstract run is sound: what is shown of plain data makes a function's contract.
-/
import Derived.Test.YtamjbkaclhgffaaGreatSh14
set_option linter.all false
namespace Go.Proofs.YtamjbkaclhgffaaGreat
open Go.RowKit
variable{C:Cx}{fn:Func}{f:FuncId}{c:It}{eu vs:List Value}{D b n0 s:Nat}{fd ra:Nat->Prop}{r:Option Nat}{S T:Pm}{w w0:World}
section
variable{w w' w0:World}{ρ ρ' ρ2:Nat->Option Rl}{base n:Nat}{ro ro':Nat->Prop}{S0:Pm}{Φ : Pm->Prop}{N:Nat}{B:Bs}{S:Sx}{a:Act}{F:Fx}{P:Program}
theorem adC{id:Nat}{ops:Array Oper}(rA:∀ o∈ops.toList,∀ c,o.op ≠ .defer c)(aQ:dp P F.C.ty)(aS:oM P F.C w0 Φ)(lK:P.follows .mixedOrders=true){k:Sx->Fm}{Q:Exit->Act->World->Prop}(hQ:∀ c a w,¬ Q (.panic c) a w)(aR:codeOk (cB F.C) F.C.sc F.C.lt F.N (.region id ops true)=true)(hk:∀ S' a' w',bj w0 Φ F.N B S' a' w'->(k S').P->Q .normal a' w')(h:(Mg F.C F.N B id ops.toList S k).P)(H:bj w0 Φ F.N B S a w):(Code.region id ops true).wpIn (wd r) 0 P Q a w:=by
 simp only [codeOk,jC,uo,aD] at aR;have aR:=aR.2;have TP:ops.toList.toArray=ops:=by simp
 rw [<- TP];unfold Mg at h
 cases af:Mc F.C.lt id with
 | some t =>
  rw [af] at h aR;exact asf rA aQ aS lK hQ aR hk h H
 | none =>
  rw [af] at h aR;dsimp only at h aR;simp only [Bool.and_eq_true] at aR;have hs:=aR.2;have hp:=aR.1;unfold G4 at hp;simp only [Bool.and_eq_true] at hp;refine ary rA aQ aS lK hQ aR.1 hk ?_ H
  cases hsc:Mb F.C.sc id with
  | none=>rw [hsc] at h; exact h
  | some s =>
   rw [hsc] at h hs;dsimp only at h hs;simp only [decide_eq_true_eq] at hs;rw [hs] at h;exact arE hp.1 h
theorem asr{l:List Oper}{ks:List Nat}{go:(Sx->Fm)->Fm}{k:Sx->Fm}(h:(R4 F.C F.N B l ks S go k).P):∃ S2:Sx,(k S2).P/\∃ k':Sx->Fm,(go k').P/\∀ S' a' w',bj w0 Φ F.N B S' a' w'->(k' S').P->bj w0 Φ F.N B S2 a' w':=by
 unfold R4 at h;split at h
 . exact h.elim
 . rename_i S1 EB;split at h
   . rename_i hc;simp only [aD] at hc;refine⟨_,h.2,_,h.1,fun S' a' w' H' fO => ?_⟩;split at fO
     . rename_i hn;obtain⟨S0,hS,ρ,ro,HR⟩:=H';obtain⟨ta,tb,e1,e2,e3⟩:=M8 fO;have HB:=HR.bare;obtain⟨uZ,Cc,Cd,_,_⟩:=M6 HB (md := []) (aT := []) (aN _) B rfl;rw [<- hn] at hc;rw [<- hn];refine HR.Tu hS (fun l r q1 q2 => ?_) e1 e2 e3 hc.1 hc.2.1 hc.2.2.1 hc.2.2.2 (fun d y hy => ?_) (fun l e he => ?_) fun _ h=>h
       . have q3:=HR.dH l r q1 q2;exact ado
       . obtain⟨u,q1,q2⟩:=Cc d y hy;exact⟨u,q1,q2,uZ.t d y hy⟩
       . exact⟨Cd l e he,uZ.e l e he⟩
     . exact fO.elim
   . exact h.elim
theorem ass{id:Nat}{f:Unit->Fm}(h:(R5 C id f).P):(f ()).P:=by
 unfold R5 at h;split at h
 . exact h () trivial
 . exact h
theorem adE{P:Program}{F:Fence}{c:Code}{Q:Exit->Act->World->Prop}:∀ {n m:Nat} {a:Act} {w:World},Code.roundsIn F 0 P c Q n a w->n<=m->Code.roundsIn F 0 P c Q m a w
 | 0,_,_,_,h,_=>h.elim
 | n+1,0,_,_,_,hm=>oo
 | n+1,m+1,a,w,h,hm=>by
  rw [roundsIn_succ] at h ⊢;refine wpIn_mono h fun e a w q => ?_
  cases e with
  | normal=>exact adE q oo
  | exit id=>exact q
  | ret=>exact q
  | goto l=>exact q
  | panic c=>exact q
  | outgrown=>exact q
theorem ast{go:Lp->Fm}{o:Option Lp}(h:(match o with
 | some lp=>go lp
 | none => .RS go:Fm).P):∃ lp,(go lp).P:=by
 cases o with
 | some lp=>exact⟨lp,h⟩
 | none=>exact h
structure Ic (P:Program) (F:Fx) (w0:World) (Φ : Pm->Prop) (fd:Nat->Prop) (r:Option Nat):Prop where
 cx:oM P F.C w0 Φ
 fm:∀ S0,Φ S0->∀ d,fd d↔∃ v,S0.fm d=some v
 mks:r=none->F.C.yl=none->∀ S0,Φ S0->∀ D,¬ S0.kP D->w0.heap.size<=D -> Φ (S0.mark D)
def adF(P:Program)(F:Fx)(w0:World)(f:Nat):Prop:=∀ (c:Code) (B:Bs) (S:Sx) (K:List Kt) (Φ : Pm->Prop) (fd:Nat->Prop) (r:Option Nat) (a:Act) (w:World),Ic P F w0 Φ fd r->r.isSome=D9 K->(run F f c B S K).P->bj w0 Φ F.N B S a w->Wf fd (cB F.C) F.C.sc F.C.lt F.N B K->codeOk (cB F.C) F.C.sc F.C.lt F.N c=true->c.wpIn (wd r) 0 P (KQ F w0 Φ f B K) a w
theorem asv{cs:List It}(aS:∀ c∈cs,sN P c)(h:Lg cs f=some c):sN P c/\c.f=f:=by
 induction cs with
 | nil=>cases h
 | cons c' cs ih =>
  unfold Lg at h;split at h
  . rename_i e;cases h;exact⟨aS _ (.head _),by simpa using e⟩
  . exact ih (fun c hc=>aS c (.tail _ hc)) h
def x9(S1:Pm)(ρ:Nat->Option Rl)(b:Nat):Prop:=(∃ l r,ρ l=some r/\r.cH=some b)\/S1.own b
def ya(S1:Pm)(ρ:Nat->Option Rl)(ro:Nat->Prop)(s b:Nat):Prop:=x9 S1 ρ b\/ro b\/S1.kP b\/b<s
theorem bK.adG(H:bK w0 S0 N B S a w ρ ro)(hs:s<=w.heap.size)(h:ya S0 ρ ro s b):b<w.heap.size:=by
 rcases h with (⟨l,r,h1,h2⟩|h)|h|h|h
 . exact (H.own l r b h1 h2).1
 . exact S0.py _ _ H.from_.inv (S0.zj b h)
 . exact H.gX b h
 . exact S0.py _ _ H.from_.inv h
 . omega
theorem bK.TQ{l:Nat}{rec rec':Loop}{fm:Nat->Option Value}(H:bK w0 (S0.eG D l rec fm) N B S a w ρ ro)(hl:w0.heap.size<=l)(Nh:¬ S0.kP l)(KM:D≠l):bK w0 (S0.eG D l rec' fm) N B S a (w.putObj l (.loop rec')) ρ ro:=by
 have hi:=H.from_.inv;have kf:l<w.heap.size:=EA hi.2.2;have hf:∀ l' r b,ρ l'=some r->r.cH=some b->¬ (S0.eG D l rec fm).kP b:=fun l' r b h1 h2=>(H.own l' r b h1 h2).2.2.2;have bg:∀ b,b<w.heap.size->b≠l->(w.putObj l (.loop rec')).heap[b]? = w.heap[b]? := fun b _ h=>World.putObj_heap_other h;have H1:bK w0 (S0.add (fun b=>b=D) (fun b=>b=D) (fun w=>w.heap[D]? = some (.deferred (some []))) [] fm (fun _ h=>h) (fun _ _ h e=>by subst e; exact EA h) fun _ _ h _ _ _ _ k=>(k D rfl).trans h) N B S a w ρ ro :=
  H.v5 rfl rfl rfl rfl ⟨hi.1,hi.2.1⟩ H.defers rfl (fun l' r b h1 h2 h3=>hf l' r b h1 h2 (h3.imp id .inl)) (fun b hb h=>(H.fp b hb).2 (h.imp id .inl)) H.fm
 have H2:=H1.Ei (w':=w.putObj l (.loop rec')) rfl rfl rfl (by rw [World.putObj_size]; exact aN _) fun b hb hc=>bg b hb (by
  rintro rfl
  rcases hc with h|h|⟨l',r,h1,h2⟩|h|h
  . omega
  . exact (H.fp _ h).2 (.inr (.inr rfl))
  . exact hf l' r _ h1 h2 (.inr (.inr rfl))
  . exact Nh h
  . exact KM h.symm)
 exact H2.v5 rfl rfl rfl rfl ⟨H2.from_.inv.1,H2.from_.inv.2,World.putObj_heap_same kf⟩ H.defers rfl (fun l' r b h1 h2=>hf l' r b h1 h2) (fun b hb=>(H.fp b hb).2) H.fm
theorem asw{f:Nat}{g:Operand}{ps:Array Tmp}{x y:Code}{K:List Kt}(aQ:dp P F.C.ty)(E:Ic P F w0 Φ fd r)(hr:r.isSome=D9 K)(ih:adF P F w0 f)(h:(run F (f+1) (.rangeFunc g ps x y) B S K).P)(H:bj w0 Φ F.N B S a w)(u3:Wf fd (cB F.C) F.C.sc F.C.lt F.N B K)(hx:codeOk (cB F.C) F.C.sc F.C.lt F.N x=true)(hy:codeOk (cB F.C) F.C.sc F.C.lt F.N y=true):(Code.rangeFunc g ps x y).wpIn (wd r) 0 P (KQ F w0 Φ (f+1) B K) a w:=by
 unfold run at h;dsimp only at h;have aS:=E.cx;split at h
 rotate_left
 . exact h.elim
 rename_i fid dV pG hgv;simp only [lU,FP,jz] at pG;obtain⟨pG,pH⟩:=pG;have Eu:r=none:=by rw [pG] at hr; cases r with|none=>rfl|some _=>cases hr
 subst Eu;split at h
 rotate_left
 . exact h.elim
 rename_i it QZ;obtain⟨adH,asy⟩:=asv aS.ng QZ;subst asy;split at h
 rotate_left
 . exact h.elim
 rename_i ah wi;split at wi
 rotate_left
 . cases wi
 rename_i asz;split at h
 rotate_left
 . exact h.elim
 rename_i res sD;obtain⟨rp,⟨ja,TR⟩,ch⟩:=h;obtain⟨ja,Ie⟩:=ja;generalize hn:oF S.n (dS (rp.oe 0))=n at ch;generalize hmd:tA x++tA y++ps.toList++G0 (dS (rp.oe 0)) n S.t=md at ch;generalize zN:(⟨pA md (dS (rp.oe 0)) n S.t,sF (dS (rp.oe 0)) n S.e⟩:Bs)=K' at ch;obtain⟨S0,hS,ρ,ro,H⟩:=H;have Ig:S.n<=n:=by rw [<- hn]; exact M4 _ _
 obtain⟨uZ,Cc,Cd,TS,TT⟩:=M6 H (md:=md) (aT:=dS (rp.oe 0)) Ig (join K' B) (by rw [zN]);have Ih:∀ d x,al B.t d=some x->al K'.t d=none:=by rw [<- zN]; exact TS
 have Ii:∀ l e,al B.e l=some e->al K'.e l=none:=by rw [<- zN]; exact TT
 have Ni:∀ d,(al B.t d).isSome=true->(al (join K' B).t d).isSome=true:=fun d hd=>by
  unfold join;dsimp only;rw [sM];split<;>first|rfl|exact hd
 have uT:∀ l r,S0.pl l=some r->(r.dH||S0.fx)=true->l<n:=fun l r q1 q2=>by
  have q3:=H.dH l r q1 q2;rcases cv l n with h|h
  . exact h
  . rw [H.fresh l (cd Ig h)] at q3; cases q3
 have pw:∀ k,rp.I k->k<=res.n ()->(sG (dS (rp.oe k)) (dS (rp.oe 0))&&ki (de n) (rp.oe k)&&ni (join K' B).e (rp.oe k)&&AV.pE (res.el fun _=>k))=true/\∃ Sk,Hc (join K' B) F.N ps.toList (res.el fun _=>k) ⟨[],rp.oe k,n⟩=some Sk /\
  (k<res.n ()->(run F f x (join K' B) Sk [.xO fun B1 S1=>run F f y B1 S1 [.eG (fun Bi S'=>if n<=S'.n then .vc [fun _=>rp.I (k+1)] (oG Bi (BJ F.C.nb Bi S' [] (rp.oe (k+1))) [] (rp.oe (k+1))) else .ff 17) (fun id S'=>exitTo F f id B ⟨K'.t,S'.e++K'.e,S'.n⟩ K) (fun S'=>mI F f B ⟨K'.t,S'.e++K'.e,S'.n⟩ K)]]).P) /\
  (k=res.n ()->(cont F f B ⟨K'.t,rp.oe k++K'.e,n⟩ K).P):=by
  intro k hk eV;have h1:=ch k ⟨hk,eV⟩;dsimp only at h1;split at h1
  . rename_i hc;split at h1
    . rename_i Sk TU;subst zN;exact⟨hc,Sk,TU,fun q=>h1.1 () q,fun q=>h1.2 () q⟩
    . exact h1.elim
  . exact h1.elim
 have iF:∀ k,rp.I k->k<=res.n ()->∀ {T:Pm} {S1:Sx} {a1:Act} {w1:World} {ρ1:Nat->Option Rl} {qq:Nat->Prop} {BB:Bs},bK w0 T F.N BB S1 a1 w1 ρ1 qq->(∀ l r,T.pl l=some r->(r.dH||T.fx)=true->l<n)->(∀ d,(al BB.t d).isSome=true->(al (join K' B).t d).isSome=true)->(oG BB S1 [] (rp.oe k)).P->(∀ d y,al (join K' B).t d=some y->∃ u,a1.tmps[d]? = some u/\aj w1 ρ1 w0.heap.size qq y u)->(∀ l e,al (join K' B).e l=some e->dz w1 ρ1 w0.heap.size qq l e)->∃ ρ2,bK w0 T F.N (join K' B) ⟨[],rp.oe k,n⟩ a1 w1 ρ2 qq/\∀ l r b,ρ2 l=some r->r.cH=some b -> ρ1 l=some r:=by
  intro k hk eV T S1 a1 w1 ρ1 qq BB H1 jS c6 heq TV TW;obtain⟨ta,tb,e1,e2,e3⟩:=M8 heq;have hc:=(pw k hk eV).1;simp only [aD] at hc;exact H1.acX jS e1 e2 e3 rfl hc.1.1.2 rfl hc.1.2 (fun d y hy=>by obtain⟨u,q1,q2⟩:=TV d y hy; exact⟨u,q1,q2,uZ.t d y hy⟩) (fun l e he=>⟨TW l e he,uZ.e l e he⟩) c6
 have hgx:=H.get g;rw [hgv] at hgx;obtain⟨vs,cR,hEc⟩:=hgx.Lt;have hEr:bn w (fun _=>none) 0 ro ah vs:=xI (ge:=bF B S) (fun l e he=>H.en l e he) (fun _ h=>h) _ _ _ _ wi hEc (.inl asz);refine wpIn_rangeFunc fun fn _ => ?_;obtain⟨rec,oL⟩:∃ rec:LoopState->Option Code->Loop,rec=fun st pe => { state:=st,pending:=pe,fn:=fn,tmps:=a.tmps,params:=ps,assign:=x,body:=y,defers:=w.heap.size }:=⟨_,rfl⟩
 obtain⟨W0,nr⟩:∃ W0,W0=(w.alloc (.deferred (some []))).alloc (.loop (rec .ready none)):=⟨_,rfl⟩
 have bc:W0.heap.size=w.heap.size+2:=by rw [nr]; simp
 have hD0:W0.heap[w.heap.size]? = some (.deferred (some [])):=by rw [nr]; exact (uk _ _ _ (by simp)).trans (World.alloc_heap_new w _)
 have p6:W0.heap[w.heap.size+1]? = some (.loop (rec .ready none)):=by
  have:=World.alloc_heap_new (w.alloc (.deferred (some []))) (.loop (rec .ready none));rw [Di] at this;rw [nr];exact this
 have adK:∀ b,b<w.heap.size->W0.heap[b]? = w.heap[b]? := fun b hb=>by rw [nr]; exact (uk _ _ _ (by simp; omega)).trans (uk _ _ _ hb)
 have TX:W0.os=w.os/\W0.tape=w.tape/\W0.output=w.output:=by rw [nr]; exact⟨rfl,rfl,rfl⟩
 have DE:(Instr.enterLoop fn a.tmps ps x y none).run P w = .ok (w.heap.size+1,[⟨.collected w.heap.size,#[]⟩]) W0:=by rw [nr,oL]; exact run_enterLoop_outer _ _ _ _ _
 clear nr;obtain⟨l,hl⟩:∃ l,l=w.heap.size+1:=⟨_,rfl⟩
 obtain⟨D,hD⟩:∃ D,D=w.heap.size:=⟨_,rfl⟩
 rw [<- hl] at p6 DE;rw [<- hD] at hD0 DE;have hw0:=H.from_.size;have Nh:¬ S0.kP l:=fun h=>by have:=S0.py _ _ H.from_.inv h; omega
 have hDf:¬ S0.kP D:=fun h=>by have:=S0.py _ _ H.from_.inv h; omega
 refine⟨l,[⟨.collected D,#[]⟩],W0,{ target := .fn (.func it.f) vs.toArray,args := #[.func (.yield l) #[] #[]] },W0,it.f,#[.func (.yield l) #[] #[]]++vs.toArray,W0,DE,?_,fun _ _=>trivial,?_,fun h=>(by simp [Fence.wide] at h),?_⟩
 . simp only [resolve,cR];simp [go_sem]
 . simp [invoke,go_sem,adH.1]
 obtain⟨fm,sQ⟩:∃ fm:Nat->Option Value,fm=fun d=>if (al (join K' B).t d).isSome=true then a.tmps[d]? else none:=⟨_,rfl⟩
 have asD:∀ d v,fm d=some v->a.tmps[d]? = some v/\(al (join K' B).t d).isSome=true:=fun d v h=>by
  rw [sQ] at h;dsimp only at h;split at h
  . rename_i hd; exact⟨h,hd⟩
  . cases h
 have asE:∀ d,(al (join K' B).t d).isSome=true->fm d=a.tmps[d]? := fun d h=>by rw [sQ]; exact aG h
 have adL:∀ T:Pm,T.fx=S0.fx->T.pl=S0.pl->T.fm=fm->Ic P F w0 (fun U=>U=T) (fun d=>∃ v,fm d=some v) (some l):=fun T h1 h2 h3=>⟨{ cs:=aS.cs,fs:=aS.fs,ng:=aS.ng,fx:=fun U e=>(by subst e; rw [h1]; exact aS.fx S0 hS),pl:=fun U e l r h=>(by subst e; rw [h2] at h; exact aS.pl S0 hS l r h),dm:=fun U V e1 e2 l r q1 q2=>(by subst e1; subst e2; exact⟨r,q1,q2⟩),yl:=fun y hy=>(by rw [pH] at hy; cases hy) },fun U e d=>(by subst e; rw [h3]),fun h=>(by cases h)⟩
 obtain⟨J,hJ⟩:∃ J:Nat->(Nat->Prop)->(Nat->Prop)->World->Prop,J=fun p O R W=>(p=0/\∃ (jump:Code) (S':Sx) (ρ:Nat->Option Rl) (ro:Nat->Prop),bK w0 (S0.eG D l (rec .done (some jump)) fm) F.N (join K' B) ⟨[],S'.e,S'.n⟩ ⟨a.tmps,[]⟩ W ρ ro/\((∃ id,jump = .exit id/\(exitTo F f id B ⟨K'.t,S'.e++K'.e,S'.n⟩ K).P)\/(jump = .ret/\(mI F f B ⟨K'.t,S'.e++K'.e,S'.n⟩ K).P))/\O=x9 (S0.eG D l (rec .ready none) fm) ρ/\R=ya (S0.eG D l (rec .ready none) fm) ρ ro W0.heap.size) \/
  (∃ k,p=k+1/\∃ (ρ:Nat->Option Rl) (ro:Nat->Prop),bK w0 (S0.eG D l (rec .ready none) fm) F.N (join K' B) ⟨[],rp.oe k,n⟩ ⟨a.tmps,[]⟩ W ρ ro/\(rp.I k/\k<=res.n ())/\O=x9 (S0.eG D l (rec .ready none) fm) ρ/\R=ya (S0.eG D l (rec .ready none) fm) ρ ro W0.heap.size):=⟨_,rfl⟩
 have af:∀ {st:Loop} {Nj:Sx} {a':Act} {W:World} {ρ:Nat->Option Rl} {ro:Nat->Prop},bK w0 (S0.eG D l st fm) F.N (join K' B) Nj a' W ρ ro->W0.heap.size<=W.heap.size:=fun h=>by
  have:=EA h.from_.inv.2.2;omega
 have hJO:JOk J:=by
  refine⟨fun p O R W b h hb => ?_,fun p O R W W' h e1 e2 e3 e4 hk => ?_⟩
  . rw [hJ] at h;rcases h with ⟨_,jump,S',ρ,ro,HR,_,rfl,rfl⟩|⟨k,_,ρ,ro,HR,_,rfl,rfl⟩
    . exact HR.adG (s:=W0.heap.size) (af HR) (hb.elim id .inl)
    . exact HR.adG (s:=W0.heap.size) (af HR) (hb.elim id .inl)
  . rw [hJ] at h ⊢;have key:∀ {st:Loop} {Nj:Sx} {ρ:Nat->Option Rl} {ro:Nat->Prop},bK w0 (S0.eG D l st fm) F.N (join K' B) Nj ⟨a.tmps,[]⟩ W ρ ro->(∀ b,ya (S0.eG D l (rec .ready none) fm) ρ ro W0.heap.size b->W'.heap[b]? = W.heap[b]?)->bK w0 (S0.eG D l st fm) F.N (join K' B) Nj ⟨a.tmps,[]⟩ W' ρ ro:=fun HR hk=>HR.Ei e1 e2 e3 e4 fun b _ hc=>hk b (by
     rcases hc with h|h|h|h
     . exact .inr (.inr (.inr oo))
     . exact .inr (.inl h)
     . exact .inl (.inl h)
     . exact .inr (.inr (.inl h)))
    rcases h with ⟨h0,jump,S',ρ,ro,HR,hst,rfl,rfl⟩|⟨k,h0,ρ,ro,HR,hI,rfl,rfl⟩
    . exact .inl ⟨h0,jump,S',ρ,ro,key HR fun b hb=>hk b (.inl hb),hst,rfl,rfl⟩
    . exact .inr ⟨k,h0,ρ,ro,key HR fun b hb=>hk b (.inl hb),hI,rfl,rfl⟩
 obtain⟨ρ2,H0,eR⟩:=iF 0 Ie (bw _) H uT Ni TR Cc Cd;have H1:=H0.Ei TX.1 TX.2.1 TX.2.2 oo fun b hb _=>adK b hb;have H2:bK w0 (S0.eG D l (rec .ready none) fm) F.N (join K' B) ⟨[],rp.oe 0,n⟩ ⟨a.tmps,[]⟩ W0 ρ2 ro:=H1.v5 rfl rfl rfl rfl ⟨H1.from_.inv,hD0,p6⟩ rfl rfl (fun l' r b q1 q2 q3=>by
  have q4:=H0.own l' r b q1 q2;rcases q3 with q3|q3|q3
  . exact q4.2.2.2 q3
  . omega
  . omega) (fun b hb q3=>by
  have q4:=H.gX b hb;rcases q3 with q3|q3|q3
  . exact (H.fp b hb).2 q3
  . omega
  . omega) asD
 have uV:=adH.2 ah res sD W0 ro vs l J (x9 (S0.eG D l (rec .ready none) fm) ρ2) (ya (S0.eG D l (rec .ready none) fm) ρ2 ro W0.heap.size) hJO (fun b hb=>⟨by have:=H.gX b hb; omega,fun ho=>by
  rcases ho with ⟨l',r,q1,q2⟩|ho
  . exact (H2.own l' r b q1 q2).2.1 hb
  . exact (H2.fp b hb).2 ho⟩) (hEr.mono (fun b hb q=>adK b q) (Ext.refl _) (aN _) fun _ h=>h) ja (by
  rw [hJ];exact .inr ⟨0,rfl,ρ2,ro,H2,⟨Ie,bw _⟩,rfl,rfl⟩) ?hY
 case hY =>
  intro p O R W args rr HJ hp hE tG;rw [hJ] at HJ;rcases HJ with ⟨h0,_⟩|⟨k,h0,ρ1,qq,HR,⟨TY,eV⟩,hO,hR⟩
  . omega
  obtain rfl:p=k:=oo
  obtain⟨hc,Sk,TU,cZ,_⟩:=pw p TY eV;have cZ:=cZ hp;simp only [aD] at hc;have zM:∀ b,O b->R b\/rr b:=fun b h=>by rw [hR]; rw [hO] at h; exact .inl (.inl h)
  have hRo:∀ b,qq b->R b:=fun b h=>by rw [hR]; exact .inr (.inl h)
  have hOl:O l:=by rw [hO]; exact .inr (.inr (.inr rfl))
  have hOw:∀ b,(S0.eG D l (rec .ready none) fm).own b->O b:=fun b h=>by rw [hO]; exact .inr h
  have hOp:∀ l r b,ρ1 l=some r->r.cH=some b->O b:=fun l r b q1 q2=>by rw [hO]; exact .inl ⟨l,r,q1,q2⟩
  have hlB:¬ (S0.Ia O (fun b=>R b\/rr b) W zM).kP l:=fun h=>h.elim Nh fun h=>h.2 hOl;have HM:=HR.more (rr:=rr) fun b hb=>⟨(tG b hb).1,fun l' r q1 q2=>(tG b hb).2.1 (hOp l' r b q1 q2),fun q=>(H.fp b ((tG b hb).2.2 oo)).1 q,fun q=>(tG b hb).2.1 (hOw b q)⟩
  have HB:bK w0 ((S0.Ia O (fun b=>R b\/rr b) W zM).eG D l (rec .ready none) fm) F.N (join K' B) ⟨[],rp.oe p,n⟩ ⟨a.tmps,[]⟩ W ρ1 (fun b=>qq b\/rr b):=HM.v5 rfl rfl rfl rfl ⟨⟨HM.from_.inv.1,⟨rfl,rfl,rfl⟩,aN _,fun _ _ _=>rfl⟩,HM.from_.inv.2⟩ rfl rfl (fun l' r b q1 q2 q3=>by
   have q4:=(HM.own l' r b q1 q2).2.2.2;rcases q3 with (q3|q3)|q3
   . exact q4 (.inl q3)
   . exact q3.2 (hOp l' r b q1 q2)
   . exact q4 (.inr q3)) (fun b hb q3=>by
   have q4:=(HM.fp b hb).2;rcases q3 with (q3|q3)|q3
   . exact q4 (.inl q3)
   . exact q3.2 (hb.imp (hRo b) id)
   . exact q4 (.inr q3)) HM.fm
  obtain⟨A5,HP⟩:=adB TU (adA hE hc.2 fun b hb => .inr hb) HB;have Ho:=run_yield (P:=P) (args:=args.toArray) HR.from_.inv.2.2 (by rw [oL]; simpa using A5.symm);rw [oL] at Ho;dsimp only at Ho;refine⟨fn,_,x,y,Ho,roundIn_of_wpIn trivial ?_⟩;have asI:(ps.zip args.toArray).foldl (fun tmps p=>tmps.setIfInBounds p.1 p.2) a.tmps=(ps.toList.zip args).foldl (fun t p=>t.setIfInBounds p.1 p.2) a.tmps:=by rw [<- Array.foldl_toList,Array.toList_zip]
  have ga:∀ {st:Loop} (kg:Loop) {S3:Sx} {a':Act} {W3:World} {ρ3:Nat->Option Rl} {Nk:Nat->Prop},bK w0 ((S0.Ia O (fun b=>R b\/rr b) W zM).eG D l st fm) F.N (join K' B) S3 a' W3 ρ3 Nk->bK w0 (S0.eG D l kg fm) F.N (join K' B) ⟨[],S3.e,S3.n⟩ ⟨a.tmps,[]⟩ (W3.putObj l (.loop kg)) ρ3 Nk/\SS O (x9 (S0.eG D l (rec .ready none) fm) ρ3) R (ya (S0.eG D l (rec .ready none) fm) ρ3 Nk W0.heap.size) rr W (W3.putObj l (.loop kg)):=by
   intro st kg S3 a' W3 ρ3 Nk HA;have HF:=(HA.frame (a':=⟨a.tmps,[]⟩) rfl H.size asE).TQ (rec':=kg) oo hlB oo;have hi:=HF.from_.inv;have TZ:∀ b,x9 (S0.eG D l (rec .ready none) fm) ρ3 b->O b\/W.heap.size<=b:=fun b h=>by
    rcases h with ⟨l',r,q1,q2⟩|h
    . have q3:=(HF.own l' r b q1 q2).2.2.2;by_cases q4:O b
      . exact .inl q4
      . rcases cv b W.heap.size with q5|q5
        . exact absurd (.inl (.inr ⟨q5,q4⟩)) q3
        . exact .inr q5
    . exact .inl (hOw b h)
   refine⟨HF.v5 rfl rfl rfl rfl ⟨hi.1.1,hi.2⟩ rfl rfl (fun l' r b q1 q2 q3=>(HF.own l' r b q1 q2).2.2.2 (q3.imp .inl id)) (fun b hb q3=>(HF.fp b hb).2 (q3.imp .inl id)) HF.fm,hi.1.2.1.1,hi.1.2.1.2.1,hi.1.2.1.2.2,hi.1.2.2.1,hi.1.2.2.2,TZ,fun b h => ?_⟩;rcases h with h|h|h|h
   . exact (TZ b h).elim (fun h=>(zM b h).imp id .inl) fun h => .inr (.inr h)
   . have q3:=(HF.fp b h).2;by_cases q4:R b\/rr b
     . exact q4.imp id .inl
     . rcases cv b W.heap.size with q5|q5
       . exact absurd (.inl (.inr ⟨q5,q4⟩)) q3
       . exact .inr (.inr q5)
   . rw [hR]; exact .inl (.inr (.inr (.inl h)))
   . rw [hR]; exact .inl (.inr (.inr (.inr h)))
  have hA:=ih x (join K' B) Sk _ _ _ (some l) _ W (adL ((S0.Ia O (fun b=>R b\/rr b) W zM).eG D l (rec .ready none) fm) rfl rfl rfl) rfl cZ ⟨_,rfl,_,_,HP⟩ (.xO _ _ _) hx;rw [<- asI] at hA;refine wpIn_mono hA fun e a1 w1 hq => ?_
  cases e with
  | normal =>
   obtain⟨g1,S1,_,HS1,iw⟩:=hq
   cases g1 with
   | zero=>unfold cont at iw; exact iw.elim
   | succ g1 =>
    unfold cont at iw;obtain⟨T,rfl,ρa,roa,HA⟩:=HS1;refine⟨_,run_beginRound HA.from_.inv.2.2 (by rw [oL]),?_⟩;have HA2:=HA.TQ (rec' := { rec .ready none with state := .busy }) oo hlB oo;refine wpIn_mono (ih y (join K' B) S1 _ _ _ (some l) _ _ (adL ((S0.Ia O (fun b=>R b\/rr b) W zM).eG D l { rec .ready none with state := .busy } fm) rfl rfl rfl) rfl iw ⟨_,rfl,_,_,HA2⟩ (.eG _ _ _ _ _) hy) fun e a3 w3 hq => ?_
    cases e with
    | normal =>
     obtain⟨g2,S3,_,HS3,n8⟩:=hq
     cases g2 with
     | zero=>unfold cont at n8; exact n8.elim
     | succ g2 =>
      unfold cont at n8;dsimp only at n8;split at n8
      . obtain⟨hI3,asM⟩:=n8;obtain⟨T,rfl,ρc,zO,HC⟩:=M9 (fun T e=>(by subst e; exact aS.pl S0 hS)) 3 HS3;obtain⟨ρd,HD,_⟩:=iF (p+1) hI3 oo HC uT (fun _ h=>h) asM (fun d z hz=>HC.tm d z (by unfold dR; rw [HC.kQ d z hz]; exact hz)) fun l e he=>HC.en l e (by unfold bF; rw [HC.kT l e he]; exact he);obtain⟨q1,q2⟩:=ga (rec .ready none) HD;refine⟨_,_,run_endRound none HD.from_.inv.2.2,true,x9 (S0.eG D l (rec .ready none) fm) ρd,ya (S0.eG D l (rec .ready none) fm) ρd zO W0.heap.size,rfl,?_,?_⟩
        . rw [hJ];refine .inr ⟨p+1,rfl,ρd,zO,?_,⟨hI3,oo⟩,rfl,rfl⟩;rw [oL] at q1 ⊢;exact q1
        . rw [oL] at q2 ⊢;exact q2
      . exact n8.elim
    | exit id =>
     obtain⟨g2,S3,_,⟨T,rfl,ρc,zO,HC⟩,n8⟩:=hq
     cases g2 with
     | zero=>unfold exitTo at n8; exact n8.elim
     | succ g2 =>
      unfold exitTo at n8;obtain⟨q1,q2⟩:=ga (rec .done (some (.exit id))) HC;refine⟨_,_,run_endRound (some (.exit id)) HC.from_.inv.2.2,false,x9 (S0.eG D l (rec .ready none) fm) ρc,ya (S0.eG D l (rec .ready none) fm) ρc zO W0.heap.size,rfl,?_,?_⟩
      . rw [hJ];refine .inl ⟨rfl,.exit id,S3,ρc,zO,?_,.inl ⟨id,rfl,n8⟩,rfl,rfl⟩;rw [oL] at q1 ⊢;exact q1
      . rw [oL] at q2 ⊢;exact q2
    | ret =>
     obtain⟨g2,S3,_,⟨T,rfl,ρc,zO,HC⟩,n8⟩:=hq
     cases g2 with
     | zero=>unfold mI at n8; exact n8.elim
     | succ g2 =>
      unfold mI at n8;obtain⟨q1,q2⟩:=ga (rec .done (some .ret)) HC;refine⟨_,_,run_endRound (some .ret) HC.from_.inv.2.2,false,x9 (S0.eG D l (rec .ready none) fm) ρc,ya (S0.eG D l (rec .ready none) fm) ρc zO W0.heap.size,rfl,?_,?_⟩
      . rw [hJ];refine .inl ⟨rfl,.ret,S3,ρc,zO,?_,.inr ⟨rfl,n8⟩,rfl,rfl⟩;rw [oL] at q1 ⊢;exact q1
      . rw [oL] at q2 ⊢;exact q2
    | goto l=>exact hq.elim
    | panic c=>exact hq.elim
    | outgrown=>exact hq.elim
  | exit id =>
   obtain⟨g1,S1,_,_,iw⟩:=hq;cases g1<;>(unfold exitTo at iw; exact iw.elim)
  | ret =>
   obtain⟨g1,S1,_,_,iw⟩:=hq;cases g1<;>(unfold mI at iw; exact iw.elim)
  | goto l=>exact hq.elim
  | panic c=>exact hq.elim
  | outgrown=>exact hq.elim
 have DD:∀ {st:Loop} {S':Sx} {W:World} {ρ:Nat->Option Rl} {ro:Nat->Prop},bK w0 (S0.eG D l st fm) F.N (join K' B) ⟨[],S'.e,S'.n⟩ ⟨a.tmps,[]⟩ W ρ ro->bj w0 Φ F.N B ⟨K'.t,S'.e++K'.e,S'.n⟩ { a with defers := [⟨.collected D,#[]⟩]++a.defers } (W.putObj l (.loop { st with state := .exhausted })):=by
  intro st S' W ρ ro HR;have HF:=HR.TQ (rec' := { st with state := .exhausted }) oo Nh oo;have HT:bK w0 (S0.mark D) F.N (join K' B) ⟨[],S'.e,S'.n⟩ { a with defers := [⟨.collected D,#[]⟩]++a.defers } _ ρ ro:=HF.v5 rfl rfl rfl rfl ⟨HF.from_.inv.1,HF.from_.inv.2.1⟩ (by rw [H.defers]; rfl) rfl (fun l' r b q1 q2 q3=>(HF.own l' r b q1 q2).2.2.2 (q3.imp id .inl)) (fun b hb q3=>(HF.fp b hb).2 (q3.imp id .inl)) fun d v h=>⟨(H.fm d v h).1,Ni d (H.fm d v h).2⟩
  exact⟨_,E.mks rfl pH S0 hS D hDf oo,_,_,bK.ac7 (S0:=S0.mark D) (fun d v h=>(H.fm d v h).2) Ih Ii HT⟩
 refine (show CallsIn (wd none) (0 - 1) P _ _ _ _ from uV).mono ?_
 rintro e W' ⟨⟨v,rfl⟩,O,R,hJ'⟩
 rw [hJ] at hJ';rcases hJ' with (⟨h0,_⟩|⟨k,h0,ρ1,qq,HR,⟨TY,eV⟩,_⟩)|(⟨_,jump,S',ρ1,qq,HR,hst,_⟩|⟨k,h0,_⟩)
 . omega
 . obtain rfl:res.n ()=k:=oo
   refine⟨_,_,run_endLoop HR.from_.inv.2.2 (by rw [oL]; simp),?_⟩;rw [oL];have hq:=DD (S':=⟨[],rp.oe (res.n ()),n⟩) HR;rw [oL] at hq;exact⟨f,_,oo,hq,(pw _ TY eV).2.elim fun Sk h=>h.2.2 rfl⟩
 . refine⟨_,_,run_endLoop HR.from_.inv.2.2 (by rw [oL]; simp),?_⟩;have hq:=DD HR;rw [oL] at hq ⊢;rcases hst with ⟨id,rfl,hP⟩|⟨rfl,hP⟩
   . exact wpIn_exit ⟨f,_,oo,hq,hP⟩
   . exact wpIn_ret ⟨f,_,oo,hq,hP⟩
 . omega
theorem adR(aQ:dp P F.C.ty)(lK:P.follows .mixedOrders=true):∀ (f:Nat),adF P F w0 f:=by
 intro f
 induction f using Nat.strongRecOn with
 | ind f ih0 =>
 intro c B S K Φ fd r a w E hr h H u3 aR;have aS:=E.cx;have ih:∀ g,g<f->∀ (c:Code) (B:Bs) (S:Sx) (K':List Kt) (a:Act) (w:World),(run F g c B S K').P->bj w0 Φ F.N B S a w->Wf fd (cB F.C) F.C.sc F.C.lt F.N B K'->codeOk (cB F.C) F.C.sc F.C.lt F.N c=true->D9 K'=D9 K->c.wpIn (wd r) 0 P (KQ F w0 Φ g B K') a w:=fun g hg c B S K' a w h1 h2 h3 h4 h5=>ih0 g hg c B S K' Φ fd r a w E (hr.trans h5.symm) h1 h2 h3 h4
 cases f with
 | zero=>unfold run at h; exact h.elim
 | succ f =>
  cases c with
  | skip=>unfold run at h; exact wpIn_skip ⟨f,S,oo,H,h⟩
  | label l=>unfold run at h; exact wpIn_label ⟨f,S,oo,H,h⟩
  | goto l=>unfold run at h; exact h.elim
  | scope b=>unfold run at h; exact h.elim
  | refuse why=>unfold run at h; exact h.elim
  | rangeFunc g ps x y =>
   simp only [codeOk,aD] at aR;exact asw aQ E hr (ih0 f oo) h H u3 aR.1 aR.2
  | ret=>unfold run at h; exact wpIn_ret ⟨f,S,oo,H,h⟩
  | exit id=>unfold run at h; exact wpIn_exit ⟨f,S,oo,H,h⟩
  | region id ops draw =>
   have H:bj w0 Φ F.N B (cond F.C.fx S (tz F.C.nb B (Eb F.C.fz id) S)) a w:=by
    cases hc:F.C.fx with
    | true=>exact H
    | false=>exact BE aS.pl (fun S0 hS=>by rw [aS.fx S0 hS,hc]) H
   have H:=apF F.C id H;unfold run at h;have h:=ass h;have hk:∀ S' a' w',bj w0 Φ F.N B S' a' w'->(cont F f B S' K).P->KQ F w0 Φ (f+1) B K .normal a' w':=fun S' a' w' H' h'=>⟨f,S',oo,H',h'⟩
   have TP:ops.toList.toArray=ops:=by simp
   have rA:∀ o∈ops.toList,∀ c,o.op ≠ .defer c:=fun o ho c e=>by
    simp only [codeOk,aD] at aR;have:=fc.1 aR.1 o ho;rw [e] at this;cases this
   cases draw with
   | false=>exact wpIn_region_list (Sd rA (by rw [<- TP]; simpa using Hr aQ aS hk h H))
   | true =>
    dsimp only at h
    cases hj:L0 F.C.jn id with
    | none =>
     rw [hj] at h;exact adC rA aQ aS lK (fun _ _ _ hq=>hq.elim) aR hk h H
    | some ks =>
     rw [hj] at h;obtain⟨S2,h2,k',h3,h4⟩:=asr (w0:=w0) (Φ := Φ) h;exact adC rA aQ aS lK (fun _ _ _ hq=>hq.elim) aR (fun S' a' w' H' fO=>hk S2 a' w' (h4 S' a' w' H' fO) h2) h3 H
  | seq x y =>
   unfold run at h;simp only [codeOk,aD] at aR;refine wpIn_seq (wpIn_mono (ih f oo x B S (.code y::K) a w h H (.code _ _ _ aR.2 u3) aR.1 rfl) fun e a' w' hq => ?_)
   cases e with
   | normal =>
    obtain⟨g,S',hg,H',hc⟩:=hq
    cases g with
    | zero=>unfold cont at hc; exact hc.elim
    | succ g =>
     unfold cont at hc;exact wpIn_mono (ih g oo y B S' K a' w' hc H' u3 aR.2 rfl) fun e a w q=>q.more oo
   | exit id =>
    obtain⟨g,S',hg,H',hc⟩:=hq
    cases g with
    | zero=>unfold exitTo at hc; exact hc.elim
    | succ g=>unfold exitTo at hc; exact⟨g,S',oo,H',hc⟩
   | ret =>
    exact adT
   | goto l=>exact hq.elim
   | panic c=>exact hq.elim
   | outgrown=>exact hq.elim
  | cond x c1 c2 =>
   unfold run at h;dsimp only at h;simp only [codeOk,Bool.and_eq_true] at aR;obtain⟨S0,hS,ρ,ro,HR⟩:=H;have hx:=HR.get x;split at h
   . rename_i hg;rw [hg] at hx;exact wpIn_cond_true hx.re (wpIn_mono (ih f oo c1 B S K a w h ⟨S0,hS,ρ,ro,HR⟩ u3 aR.1 rfl) fun e a w q=>q.more oo)
   . rename_i hg;rw [hg] at hx;exact wpIn_cond_false hx.re (wpIn_mono (ih f oo c2 B S K a w h ⟨S0,hS,ρ,ro,HR⟩ u3 aR.2 rfl) fun e a w q=>q.more oo)
   . rename_i t hg;rw [hg] at hx;exact wpIn_cond_split hx.qb (fun ht=>wpIn_mono (ih f oo c1 B S K a w (h.1 ht) ⟨S0,hS,ρ,ro,HR⟩ u3 aR.1 rfl) fun e a w q=>q.more oo) fun ht=>wpIn_mono (ih f oo c2 B S K a w (h.2 ht) ⟨S0,hS,ρ,ro,HR⟩ u3 aR.2 rfl) fun e a w q=>q.more oo
   . exact h.elim
  | block id b =>
   unfold run at h;refine wpIn_block (wpIn_mono (ih f oo b B S (.block id::K) a w h H (.block _ _ _ u3) aR rfl) fun e a' w' hq => ?_)
   cases e with
   | normal =>
    obtain⟨g,S',hg,H',hc⟩:=hq
    cases g with
    | zero=>unfold cont at hc; exact hc.elim
    | succ g=>unfold cont at hc; exact⟨g,S',oo,H',hc⟩
   | exit Mk =>
    obtain⟨g,S',hg,H',hc⟩:=hq
    cases g with
    | zero=>unfold exitTo at hc; exact hc.elim
    | succ g =>
     unfold exitTo at hc;dsimp only at hc;show if Mk=id then _ else _
     by_cases e:id=Mk
     . subst e;rw [aG rfl] at hc ⊢;exact⟨g,S',oo,H',hc⟩
     . rw [ax e] at hc;rw [ax (fun h=>e h.symm)];exact⟨g,S',oo,H',hc⟩
   | ret =>
    exact adT
   | goto l=>exact hq.elim
   | panic c=>exact hq.elim
   | outgrown=>exact hq.elim
  | loop b =>
   unfold run at h;dsimp only at h;split at h
   . rename_i k jr
     cases Gs:bV k F.C.ul with
     | true =>
      have asN:∀ g,g<=f+1->∀ (S:Sx) (a:Act) (w:World),(run F g (.loop b) B S K).P->bj w0 Φ F.N B S a w->Code.roundsIn (wd r) 0 P b (KQ F w0 Φ (f+1) B K) g a w:=by
       intro g
       induction g using Nat.strongRecOn with
       | ind g ihg =>
       intro hg S a w h H
       cases g with
       | zero=>unfold run at h; exact h.elim
       | succ g =>
        unfold run at h;dsimp only at h;rw [jr] at h;dsimp only at h;rw [Gs] at h;dsimp only at h;rw [roundsIn_succ];refine wpIn_mono (ih g oo b B S (.again b::K) a w h H (.again _ _ _ aR u3) aR rfl) fun e a' w' hq => ?_
        cases e with
        | normal =>
         obtain⟨g',S',AZ,H',hc⟩:=hq
         cases g' with
         | zero=>unfold cont at hc; exact hc.elim
         | succ g' =>
          unfold cont at hc;exact adE (ihg g' oo oo S' a' w' hc H') oo
        | exit id =>
         obtain⟨g',S',AZ,H',hc⟩:=hq
         cases g' with
         | zero=>unfold exitTo at hc; exact hc.elim
         | succ g'=>unfold exitTo at hc; exact⟨g',S',oo,H',hc⟩
        | ret =>
         obtain⟨g',S',AZ,H',hc⟩:=hq
         cases g' with
         | zero=>unfold mI at hc; exact hc.elim
         | succ g'=>unfold mI at hc; exact⟨g',S',oo,H',hc⟩
        | goto l=>exact hq.elim
        | panic c=>exact hq.elim
        | outgrown=>exact hq.elim
      refine wpIn_loop_rounds (f+1) (asN (f+1) (Nat.le_refl _) S a w ?_ H);unfold run;dsimp only;rw [jr];exact h
     | false =>
      rw [Gs] at h;dsimp only at h;obtain⟨lp,⟨Ie,TR⟩,ch⟩:=ast h;generalize hn:oF S.n (dS (lp.oe lp.x0))=n at ch;generalize zN:(⟨pA (RU b (dS (lp.oe lp.x0)) n S.t) (dS (lp.oe lp.x0)) n S.t,sF (dS (lp.oe lp.x0)) n S.e⟩:Bs)=K' at ch;have pw:∀ x,lp.I x->(sG (dS (lp.oe x)) (dS (lp.oe lp.x0))&&nh (de n) (lp.ov x)&&ki (de n) (lp.oe x)&&ni (join K' B).t (lp.ov x)&&ni (join K' B).e (lp.oe x))=true/\(run F f b (join K' B) ⟨lp.ov x,lp.oe x,n⟩ (.back B K' (fun Bi S'=>if n<=S'.n then (match lp.nx with
       | some nx => .vc [fun _=>lp.I (nx x)/\lp.μ (nx x) ()<lp.μ x ()] (oG Bi (BJ F.C.nb Bi S' (lp.ov (nx x)) (lp.oe (nx x))) (lp.ov (nx x)) (lp.oe (nx x)))
       | none => .ex lp.X (fun y=>lp.I y/\lp.μ y ()<lp.μ x ()) fun y=>oG Bi (BJ F.C.nb Bi S' (lp.ov y) (lp.oe y)) (lp.ov y) (lp.oe y)) else .ff 17)::K)).P:=by
       intro x hx;have h1:=ch x hx;dsimp only at h1;by_cases hc:(sG (dS (lp.oe x)) (dS (lp.oe lp.x0))&&nh (de n) (lp.ov x)&&ki (de n) (lp.oe x)&&ni (join K' B).t (lp.ov x)&&ni (join K' B).e (lp.oe x))=true
       . rw [aG hc] at h1;exact⟨hc,h1⟩
       . rw [ax hc] at h1;exact h1.elim
      obtain⟨S0,hS,ρ,ro,HR⟩:=H;have Ig:S.n<=n:=by rw [<- hn]; exact M4 _ _
      obtain⟨uZ,Cc,Cd,TS,TT⟩:=M6 HR (md:=RU b (dS (lp.oe lp.x0)) n S.t) (aT:=dS (lp.oe lp.x0)) Ig (join K' B) (by rw [zN]);have Ih:∀ d x,al B.t d=some x->al K'.t d=none:=by rw [<- zN]; exact TS
      have Ii:∀ l e,al B.e l=some e->al K'.e l=none:=by rw [<- zN]; exact TT
      have hF:∀ d,fd d->(al B.t d).isSome=true:=fun d hd=>by
       obtain⟨v,hv⟩:=(E.fm S0 hS d).1 hd;exact (HR.fm d v hv).2
      have uT:∀ S1,Φ S1->∀ l r,S1.pl l=some r->(r.dH||S1.fx)=true->l<n:=fun S1 EB l r q1 q2=>by
       obtain⟨r',q1,q2⟩:=aS.dm S0 S1 hS EB l r q1 q2;have q3:=HR.dH l r' q1 q2;rcases cv l n with h|h
       . exact h
       . rw [HR.fresh l (cd Ig h)] at q3; cases q3
      have iF:∀ x {T1:Pm} (_ : Φ T1) {BB:Bs} (_:∀ d,(al BB.t d).isSome=true->(al (join K' B).t d).isSome=true) {S1:Sx} {a1:Act} {w1:World} {ρ1:Nat->Option Rl} {qq:Nat->Prop},bK w0 T1 F.N BB S1 a1 w1 ρ1 qq->lp.I x->(oG BB S1 (lp.ov x) (lp.oe x)).P->(∀ d y,al (join K' B).t d=some y->∃ u,a1.tmps[d]? = some u/\aj w1 ρ1 w0.heap.size qq y u)->(∀ l e,al (join K' B).e l=some e->dz w1 ρ1 w0.heap.size qq l e)->bj w0 Φ F.N (join K' B) ⟨lp.ov x,lp.oe x,n⟩ a1 w1:=by
       intro x T1 adU BB Ni S1 a1 w1 ρ1 qq H1 hx heq TV TW;obtain⟨ta,tb,e1,e2,e3⟩:=M8 heq;have hc:=(pw x hx).1;simp only [aD] at hc;exact H1.Tu adU (uT T1 adU) e1 e2 e3 hc.1.1.1.2 hc.1.1.2 hc.1.2 hc.2 (fun d y hy=>by obtain⟨u,q1,q2⟩:=TV d y hy; exact⟨u,q1,q2,uZ.t d y hy⟩) (fun l e he=>⟨TW l e he,uZ.e l e he⟩) Ni
      refine wpIn_loop_ghost (fun m a w=>∃ x,lp.I x/\lp.μ x ()=m/\bj w0 Φ F.N (join K' B) ⟨lp.ov x,lp.oe x,n⟩ a w) (lp.μ lp.x0 ()) ⟨lp.x0,Ie,rfl,iF lp.x0 hS (fun d hd=>by unfold join; dsimp only; rw [sM]; split<;>first|rfl|exact hd) HR Ie TR Cc Cd⟩ ?_
      rintro m a1 w1 ⟨x,hx,rfl,H1⟩
      have cZ:=(pw x hx).2;refine wpIn_mono (ih f oo b (join K' B) _ _ a1 w1 cZ H1 (.back _ _ _ _ hF Ih Ii u3) aR rfl) fun e a' w' hq => ?_
      cases e with
      | normal =>
       obtain⟨g,S',hg,H',hc⟩:=hq
       cases g with
       | zero=>unfold cont at hc; exact hc.elim
       | succ g =>
        unfold cont at hc;dsimp only at hc;split at hc
        . have ga:∀ y,lp.I y->lp.μ y ()<lp.μ x ()->(oG (join K' B) (BJ F.C.nb (join K' B) S' (lp.ov y) (lp.oe y)) (lp.ov y) (lp.oe y)).P->∃ n',n'<lp.μ x ()/\∃ x',lp.I x'/\lp.μ x' ()=n'/\bj w0 Φ F.N (join K' B) ⟨lp.ov x',lp.oe x',n⟩ a' w':=by
           intro y hy af heq;obtain⟨S0,hS,ρ',ro',Ij⟩:=M9 aS.pl _ H';exact⟨_,af,y,hy,rfl,iF y hS (fun _ h=>h) Ij hy heq (fun d z hz=>Ij.tm d z (by unfold dR; rw [Ij.kQ d z hz]; exact hz)) fun l e he=>Ij.en l e (by unfold bF; rw [Ij.kT l e he]; exact he)⟩
          split at hc
          . rename_i nx oP;obtain⟨⟨q1,q2⟩,q3⟩:=hc;exact ga _ q1 q2 q3
          . obtain⟨y,⟨q1,q2⟩,q3⟩:=hc;exact ga y q1 q2 q3
        . exact hc.elim
      | exit id =>
       obtain⟨g,S',hg,H',hc⟩:=hq
       cases g with
       | zero=>unfold exitTo at hc; exact hc.elim
       | succ g=>unfold exitTo at hc; exact⟨g,_,oo,ac8 (fun S0 hS d v hv=>hF d ((E.fm S0 hS d).2 ⟨v,hv⟩)) Ih Ii H',hc⟩
      | ret =>
       obtain⟨g,S',hg,H',hc⟩:=hq
       cases g with
       | zero=>unfold mI at hc; exact hc.elim
       | succ g=>unfold mI at hc; exact⟨g,_,oo,ac8 (fun S0 hS d v hv=>hF d ((E.fm S0 hS d).2 ⟨v,hv⟩)) Ih Ii H',hc⟩
      | goto l=>exact hq.elim
      | panic c=>exact hq.elim
      | outgrown=>exact hq.elim
   . exact h.elim
end
def EC(tmps:Array Value):ResultVar->Sem Value
 | .tmp t=>pure (tmps.getD t undef)
 | .cell p t=>do loadVar t (<- asAddr (tmps.getD p undef))
def T3:List Value->Value
 | [v]=>v
 | vs => .tuple vs.toArray
section
variable{w w' w0:World}{ρ ρ' ρ2:Nat->Option Rl}{base lD n:Nat}{ro ro':Nat->Prop}{S0:Pm}{Φ : Pm->Prop}{N:Nat}{B:Bs}{S:Sx}{a:Act}{F:Fx}{P:Program}
theorem Nl{C:Cx}(aQ:dp P C.ty)(H:bK w0 S0 N B S a w ρ ro):∀ {rs:List ResultVar} {l:List AV},uO C B S rs=some l ->
 ∃ vs:List Value,(rs.mapM (EC a.tmps):Sem (List Value)).run P w = .ok vs w/\bn w ρ w0.heap.size ro l vs
 | [],l,h=>by
  simp only [uO,bU] at h;subst h;exact⟨[],rfl,.nil⟩
 | .tmp t::rs,l,h=>by
  unfold uO at h
  cases hr:uO C B S rs with
  | none=>rw [hr] at h; cases h
  | some r =>
   rw [hr] at h;simp only [dG,bU] at h;subst h;obtain⟨vs,h1,h2⟩:=Nl aQ H hr;have h3:=H.get (.tmp t);refine⟨a.eval (.tmp t)::vs,?_,.cons h3 h2⟩;have hO:(EC a.tmps (.tmp t)).run P w = .ok (a.eval (.tmp t)) w:=rfl;exact adV
 | .cell p T::rs,l,h=>by
  unfold uO at h;split at h
  . rename_i i hi;split at h
    . rename_i x r hx hr;cases h;obtain⟨vs,h1,h2⟩:=Nl aQ H hr;obtain⟨ad,v,h3,h4,h5⟩:=aah (fun l e he=>H.en l e he) (aQ T i hi) hx (H.get (.tmp p));refine⟨v::vs,?_,.cons h5 h2⟩;have h3':a.tmps.getD p undef = .pointer (some ad):=h3;have hA:(asAddr (a.tmps.getD p undef)).run P w = .ok ad w:=by rw [h3']; rfl
      have hO:(EC a.tmps (.cell p T)).run P w = .ok v w:=by
       unfold EC;simp only [bQ,hA,cg,h4]
      exact adV
    . cases h
  . cases h
theorem adW(h:(fn.results.toList.mapM (EC a.tmps):Sem (List Value)).run P w = .ok vs w):(results fn a.tmps).run P w = .ok (T3 vs) w:=by
 show (do
  let vs <- fn.results.mapM (EC a.tmps)
  pure (if h:vs.size=1 then vs[0] else .tuple vs):Sem Value).run P w=_
 rw [Array.mapM_eq_mapM_toList];simp only [bQ,Sem.run_map,h,cg,cq]
 match vs with
 | []=>rfl
 | [v]=>rfl
 | u::v::l=>simp [T3]
theorem asQ{l:List AV}(h:bn w ρ base ro l vs):aj w ρ base ro (Ml l) (T3 vs):=by
 match l,vs,h with
 | [],[],h=>exact .bp [] [] h.1 h.2
 | [x],[v],h=>exact h.2 0 x v rfl rfl
 | x::y::l,u::v::vs,h=>exact .bp (x::y::l) (u::v::vs) h.1 h.2
 | [],_::_,h=>exact absurd h.1 (by simp)
 | _::_,[],h=>exact absurd h.1 (by simp)
 | [x],u::v::vs,h=>exact absurd h.1 (by simp)
 | x::y::l,[v],h=>exact absurd h.1 (by simp)
theorem T4:∀ (l:List AV) (k d:Nat) (x:AV),al (xS k l) d=some x->k<=d/\l[d - k]? = some x
 | [],k,d,x,h=>by cases h
 | y::l,k,d,x,h=>by
  unfold xS at h;rw [cO] at h;split at h
  . rename_i e;subst e;cases h;simp
  . obtain⟨h1,h2⟩:=T4 l (k+1) d x h;refine⟨oo,?_⟩;rw [show d - k=(d - (k+1))+1 from oo];simpa using h2
end
theorem zP{P : Program}(hf : P.funcs[f]? = some fn)(hb : fn.body.isNone = false)(hn : (fn.name == "runtime.NumGoroutine") = false)(args : Array Value)(w : World) : (callFunc f args).run P w = .ok (.enter f args) w := by
 unfold callFunc;simp only [bQ,ou,cg,hf,hn,hb,fk,dK,cq]
section
variable{w w' w0:World}{ρ ρ' ρ2:Nat->Option Rl}{base lD n:Nat}{ro ro':Nat->Prop}
theorem asR(ag:Bool)(t:Tc)(x:Unit->t.el):AV.sI (fh ag false t x)=true:=by
 unfold fh;have h:=TO t x
 cases ag with
 | true=>exact h
 | false =>
  simp only [fk,dK]
  cases hc:bf false t x with
  | nil=>rfl
  | cons c l =>
   rw [hc] at h
   cases l with
   | nil=>simpa [AV.pE] using h
   | cons c2 l=>rfl
theorem dz.xL{l:Nat}{e:En}(h:dz w ρ base ro l e)(hx:En.sI e=true):dz w ρ lD ro l e:=by
 cases e with
 | box T cells =>
  obtain⟨b,cs,h1,h4,h5⟩:=h;exact⟨b,cs,h1,h4,h5.1,fun j x v uJ hv=>(h5.2 j x v uJ hv).xL (wH (by simpa [En.sI] using hx) uJ)⟩
 | row fr t T m =>
  obtain⟨A,c,css,h1,h2,h3,h5⟩:=h;have hf:fr=false:=by simpa [En.sI] using hx
  subst hf;exact⟨A,c,css,h1,h2,h3,fun k cs j x v k1 k2 k3=>(h5 k cs j x v k1 k2 k3).xL (wH (TO _ _) k2)⟩
 | map fr ag c t T m =>
  obtain⟨b,es,clock,h1,h2,h3,h4⟩:=h;have hf:fr=false:=by simpa [En.sI] using hx
  subst hf;exact⟨b,es,clock,h1,h2,h3,h4.tv fun x v hx=>hx.xL (asR _ _ _)⟩
 | iter ml c seen left=>exact h
 | bL ml c key=>exact h
 | fY k=>exact h
 | dead=>exact h
theorem adX:∀ {l:List (Nat×En)} {k:Nat} {e:En},Mm l=true->al l k=some e->En.sI e=true
 | (j,y)::l,k,e,h,he=>by
  unfold Mm at h;simp only [aD] at h;rw [cO] at he;split at he
  . cases he; exact h.1
  . exact adX h.2 he
 | [],_,_,_,he=>by cases he
theorem T5{ks:List Nat}:∀ {n l:Nat},zl ks n=true->l<n->bV l ks=true
 | n+1,l,h,hl=>by
  simp only [zl,aD] at h;rcases cv l n with h1|h1
  . exact T5 h.2 h1
  . rw [show l=n from oo]; exact h.1
 | 0,_,_,hl=>oo
end
inductive yb (w0:World) (S:Pm):Pm->Prop
 | base:yb w0 S S
 | mark {T:Pm} (D:Nat) (h:yb w0 S T) (hD:¬ T.kP D) (hl:w0.heap.size<=D):yb w0 S (T.mark D)
theorem yb.same(h:yb w0 S T):T.rd=S.rd/\T.pl=S.pl/\T.fx=S.fx/\T.fm=S.fm:=by
 induction h with
 | base=>exact⟨rfl,rfl,rfl,rfl⟩
 | mark D h hD hl ih=>exact ih
section
variable{w0:World}{N:Nat}{B:Bs}{S:Sx}{P:Program}{fn:Func}{R:Ending->World->Prop}{Sb:Pm}
theorem asS(hT:yb w0 Sb T):∀ {a:Act} {w:World} {ρ:Nat->Option Rl} {ro:Nat->Prop},bK w0 T N B S a w ρ ro->(∀ w ρ ro,bK w0 Sb N B S ⟨a.tmps,Sb.ds⟩ w ρ ro->LeavesInM Fence.wide 0 P fn a.tmps R Sb.ds .returning w)->LeavesInM Fence.wide 0 P fn a.tmps R T.ds .returning w:=by
 induction hT with
 | base=>intro a w ρ ro H h; exact h w ρ ro (H.v5 rfl rfl rfl rfl H.from_.inv rfl rfl (fun l r b q1 q2=>(H.own l r b q1 q2).2.2.2) (fun b hb=>(H.fp b hb).2) H.fm)
 | mark D hT hD hl ih =>
  rename_i T;intro a w ρ ro H h;have hi:=H.from_.inv;have H1:bK w0 T N B S ⟨a.tmps,T.ds⟩ w ρ ro:=H.v5 rfl rfl rfl rfl hi.1 rfl rfl (fun l r b q1 q2 q3=>(H.own l r b q1 q2).2.2.2 (.inl q3)) (fun b hb q3=>(H.fp b hb).2 (.inl q3)) H.fm;have H2:=H1.Ei (w':=w.putObj D (.deferred none)) rfl rfl rfl (by rw [World.putObj_size]; exact aN _) fun b hb hc=>World.putObj_heap_other (by
   rintro rfl
   rcases hc with h|h|⟨l,r,q1,q2⟩|h
   . omega
   . exact (H.fp _ h).2 (.inr rfl)
   . exact (H.own l r _ q1 q2).2.2.2 (.inr rfl)
   . exact hD h)
  exact⟨by simp,.inl ⟨D,_,rfl,run_takeDeferred hi.2,ih (a:=⟨a.tmps,T.ds⟩) H2 h⟩⟩
end
theorem adY{P:Program}{Ls:List (Nat×Lp)}{ah:List AV}{BL es:List (Nat×En)}{want:AV}(aQ:dp P C.ty)(aS:(∀ c∈C.cs,aE P c)/\(∀ c∈C.fs,jb P c)/\∀ c∈C.ng,sN P c)(pH:C.yl=none)(lK:P.follows .mixedOrders=true)(hf:P.funcs[f]? = some fn)(hb:fn.body.isNone=false)(aR:codeOk (lZ C.fs) C.sc C.lt fn.ntmps (l5 fn)=true)(hP:(BK C Ls fn ah BL n0 want es).P){ρ:Nat->Option Rl}(jv:∀ b,ra b->b<w.heap.size)(hE:bn w ρ 0 ra ah eu)(mG:∀ l e,al BL l=some e->dz w ρ 0 ra l e)(kj:∀ l l' r r' b,l≠l' -> ρ l=some r -> ρ l'=some r'->r.cH=some b->r'.cH≠some b)(df:∀ l,n0<=l -> ρ l=none)(bS:∀ l r b,ρ l=some r->r.cH=some b->b<w.heap.size/\¬ ra b) :
 Calls P f eu.toArray w fun e w'=>∃ v ρ1 fP,e = .returned v/\Left w w' ρ ρ1 ra fP es C.fx/\aj w' ρ1 w.heap.size fP want v:=by
 unfold BK at hP;split at hP
 . rename_i pw;simp only [aD,aU] at pw;obtain⟨⟨⟨⟨⟨⟨km,hlen⟩,jw⟩,bg⟩,dh⟩,adZ⟩,ch⟩:=pw;obtain⟨code,Ik⟩:∃ code,fn.body=some code:=by
    exact ad0
   have A6:l5 fn=code:=by unfold l5; rw [Ik]; rfl
   rw [A6] at hP aR;have nW:eu.length<=fn.ntmps:=by rw [<- hE.1]; exact hlen
   have asT:cB C=lZ C.fs:=by unfold cB; rw [pH]
   rw [<- asT] at aR;refine callsIn_wide.1 (callsIn_of_wp_marks (F:=Fence.wide) (n:=0) hf Ik trivial ?_);obtain⟨Sb,Il⟩:∃ Sb:Pm,Sb = { rd:=ra,pl := ρ,fx:=C.fx }:=⟨_,rfl⟩
   have T6:bj w (yb w Sb) fn.ntmps ⟨[],[]⟩ ⟨xS 0 ah,BL,n0⟩ ⟨eu.toArray++Array.replicate (fn.ntmps - eu.toArray.size) undef,[]⟩ w:=by
    subst Il;refine⟨_,.base,ρ,ra,⟨rfl,rfl,rfl,aN _,fun _ _ _ _=>rfl,trivial⟩,by simp; omega,rfl,jv,fun d x hx => ?_,fun l e he => ?_,kj,df,fun l r b h1 h2=>⟨(bS l r b h1 h2).1,(bS l r b h1 h2).2,.inr ⟨r,h1,h2⟩,id⟩,fun b hb=>⟨fun _=>hb,id⟩,fun l r h _=>h,fun d x h=>by simp [al] at h,fun l e h=>by simp [al] at h,fun d v h=>by cases h⟩
    . have h1:al (xS 0 ah) d=some x:=by
       exact ad1
      obtain⟨_,h2⟩:=T4 ah 0 d x h1;rw [sd] at h2;obtain⟨v,h3,h4⟩:=hE.get h2;refine⟨v,?_,h4.xL (wH jw h2)⟩;have hd:=(c8.1 h3).1;rw [aD1 (by simpa using hd)];simpa using h3
    . have h1:al BL l=some e:=by
       exact ad3
      exact (mG l e h1).xL (adX bg h1)
   have ad4:∀ l r,ρ l=some r->l<C.nb:=fun l r h=>by
    rcases cv l n0 with h1|h1
    . omega
    . rw [df l h1] at h; cases h
   have T7:Ic P ⟨C,fn.ntmps,Ls,Ee C fn.results.toList want es⟩ w (yb w Sb) (fun _=>False) none:=by
    subst Il;exact⟨{ cs:=aS.1,fs:=aS.2.1,ng:=aS.2.2,fx:=fun T h=>h.same.2.2.1,pl:=fun T h l r hl=>by rw [h.same.2.1] at hl; exact ad4 l r hl,dm:=fun T U h k l r q1 q2=>⟨r,by rw [h.same.2.1,<- k.same.2.1]; exact q1,by rw [h.same.2.2.1,<- k.same.2.2.1]; exact q2⟩,yl:=fun y h=>by rw [pH] at h; cases h },fun T h d=>by rw [h.same.2.2.2]; exact⟨False.elim,fun ⟨v,h⟩=>by cases h⟩,fun _ _ T h D h1 h2=>h.mark D h1 h2⟩
   refine wpIn_mono (adR (F:=⟨C,fn.ntmps,Ls,Ee C fn.results.toList want es⟩) (w0:=w) aQ lK 100000 code ⟨[],[]⟩ _ [] _ _ none _ w T7 rfl hP T6 (.nil _) aR) fun e a' w' hq => ?_;have asU:∀ S w',bj w (fun T=>T=Sb) fn.ntmps ⟨[],[]⟩ S ⟨a'.tmps,Sb.ds⟩ w'->(Ee C fn.results.toList want es ⟨[],[]⟩ S).P->∃ v,(results fn a'.tmps).run P w' = .ok v w'/\∃ u ρ1 fP,Ending.returned v = .returned u/\Left w w' ρ ρ1 ra fP es C.fx/\aj w' ρ1 w.heap.size fP want u:=by
    intro S w' H hr;obtain⟨S0,hS,ρ',ro,H⟩:=M9 (nb:=C.nb) (prs:=fun S=>match uO C ⟨[],[]⟩ S fn.results.toList with
     | some l=>Mh (Ml l) want
     | none => []) (fun T e=>by subst e; subst Il; exact ad4) 3 H
    subst hS;subst Il;unfold Ee abj abk at hr;split at hr
    . rename_i l hl;split at hr
      . rename_i va vb HH hvb;obtain⟨vs,h1,h2⟩:=Nl (P:=P) aQ H hl;have hv:=Hi (Hp hr);generalize oI:dS es=ks at HH hvb dh adZ ch;obtain⟨ρ1,Nm⟩:∃ ρ1:Nat->Option Rl,ρ1=fun l=>if bV l ks then ρ' l else none:=⟨_,rfl⟩
        obtain⟨fP,Nn⟩:∃ fP:Nat->Prop,fP=fun b=>(ra b\/w.heap.size<=b)/\b<w'.heap.size/\∀ l r,ρ1 l=some r->r.cH≠some b:=⟨_,rfl⟩
        have fN:∀ l r,ρ1 l=some r -> ρ' l=some r/\bV l ks=true:=by
         intro l r h;rw [Nm] at h;simp only at h;split at h
         . rename_i hm; exact⟨h,hm⟩
         . cases h
        have ck:∀ b,ro b->fP b:=by
         intro b hb;rw [Nn];refine⟨?_,H.gX b hb,fun l r h1 h2=>(H.own l r b (fN l r h1).1 h2).2.1 hb⟩;rcases cv b w.heap.size with h|h
         . exact .inl ((H.fp b hb).1 h)
         . exact .inr h
        have M:Hj w ρ' ρ1 ro fP (R8 ks) (some ks):=by
         refine⟨fun l r h hm => ?_,ck,(fun h=>by cases h),fun ks' hk loc r b h hm uK => ?_⟩
         . rw [Nm];have pq:bV l ks=true:=hm;simp only [pq,fH];exact h
         . injection hk with hk;subst hk;have h3:=H.own loc _ b h uK;have h4:w.heap.size<=b:=by
            rcases h3.2.2.1 with h4|⟨r0,h4,_⟩
            . exact h4
            . have zK : ρ loc=some r0:=h4;rcases cv loc n0 with h5|h5
              . rw [T5 ch h5] at hm; cases hm
              . rw [df loc h5] at zK; cases zK
           refine⟨h4,?_⟩;rw [Nn];exact⟨.inr h4,h3.1,fun l r' h5 h6=>H.apart l loc r' r b (fun e=>by subst e; rw [(fN _ _ h5).2] at hm; cases hm) (fN l r' h5).1 h h6 uK⟩
        refine⟨_,adW h1,_,ρ1,fP,rfl,⟨⟨H.from_.os,H.from_.tape,H.from_.output,H.from_.size,fun k hk hn=>H.from_.block k hk hn id⟩,fun l e he=>acW H M hvb hv.2 adZ l e he,fun l l' r r' b bg k1 k2 k3 k4=>H.apart l l' r r' b bg (fN l r k1).1 (fN l' r' k2).1 k3 k4,fun l hl => ?_,fun l r b k1 k2 => ?_,fun b hb => ?_,fun l r k1 k2 => ?_⟩,SF H M _ _ va _ HH hv.1 (asQ h2) dh⟩
        . rw [oI] at hl;rw [Nm];simp only [hl,fk,dK]
        . have h3:=H.own l r b (fN l r k1).1 k2;refine⟨h3.1,fun hb => ?_,h3.2.2.1⟩;rw [Nn] at hb;exact hb.2.2 l r k1 k2
        . rw [Nn] at hb;exact⟨hb.2.1,fun af=>hb.1.resolve_right oo⟩
        . have h3:=H.dH l r k1 k2;rw [Nm];have hm:bV l ks=true:=by
           rcases cv l n0 with h5|h5
           . exact T5 ch h5
           . rw [df l h5] at k1; cases k1
          simp only [hm,fH];exact h3
      . exact hr.elim
    . exact hr.elim
   have ga:∀ S,bj w (yb w Sb) fn.ntmps ⟨[],[]⟩ S a' w'->(Ee C fn.results.toList want es ⟨[],[]⟩ S).P->bodyPostM Fence.wide 0 P fn (fun e w'=>∃ v ρ1 fP,e = .returned v/\Left w w' ρ ρ1 ra fP es C.fx/\aj w' ρ1 w.heap.size fP want v) .ret a' w':=by
    intro S H hr;obtain⟨T,hT,ρ',ro,H⟩:=H;show LeavesInM _ _ _ _ _ _ a'.defers _ _
    rw [H.defers];refine asS hT H fun w' ρ' ro H => ?_;have h:=asU S w' ⟨_,rfl,ρ',ro,H⟩ hr;subst Il;exact h
   exact ad6
 . exact hP.elim
theorem Im{P : Program}{c : aC}(aQ : dp P C.ty)(aS : (∀ c ∈ C.cs, aE P c) /\ (∀ c ∈ C.fs, jb P c) /\ ∀ c ∈ C.ng, sN P c)(pH : C.yl = none)(lK : P.follows .mixedOrders = true)(hf : P.funcs[c.f]? = some fn)(hb : fn.body.isNone = false)(hn : (fn.name == "runtime.NumGoroutine") = false)(aR : codeOk (lZ C.fs) C.sc C.lt fn.ntmps (l5 fn) = true)(h:∀ ah res,c.go ah=some res->res.pre ()->∃ Ls,(zu C Ls fn ah res.av).P):aE P c:=by
 refine⟨fun args w=>zP hf hb hn args w,fun ah res kd w ra eu jv hE ja => ?_⟩;obtain⟨Ls,hP⟩:=h ah res kd ja;refine (adY aQ aS pH lK hf hb aR hP (ρ:=fun _=>none) jv hE (fun l e h=>by cases h) (fun _ _ _ _ _ _ h=>by cases h) (fun _ _=>rfl) (fun _ _ _ h=>by cases h)).mono fun e w' hq => ?_;obtain⟨v,ρ1,fP,rfl,hL,hv⟩:=hq;have hρ : ρ1=fun _=>none:=funext fun l=>hL.fresh l rfl;subst hρ;refine⟨v,rfl,hL.from_.none_,hv.mono (fun _ _ _=>rfl) (Ext.refl _) (aN _) fun b hb => ?_⟩;rcases cv b w.heap.size with h|h
 . exact .inl ((hL.rd b hb).2 h)
 . exact .inr h
theorem ad7{P : Program}{c : fi}(jG : C.fx = c.fix)(aQ : dp P C.ty)(aS : (∀ c ∈ C.cs, aE P c) /\ (∀ c ∈ C.fs, jb P c) /\ ∀ c ∈ C.ng, sN P c)(pH : C.yl = none)(lK : P.follows .mixedOrders = true)(hf : P.funcs[c.f]? = some fn)(hb : fn.body.isNone = false)(hn : (fn.name == "runtime.NumGoroutine") = false)(aR : codeOk (lZ C.fs) C.sc C.lt fn.ntmps (l5 fn) = true)(h:∀ ah es res,c.go ah es=some res->res.pre ()->∃ Ls,(BK C Ls fn ah es c.n res.av res.es).P):jb P c:=by
 refine⟨fun args w=>zP hf hb hn args w,fun ah es res kd w ρ ra eu jv hE mG kj df bS ja => ?_⟩;obtain⟨Ls,hP⟩:=h ah es res kd ja;rw [<- jG];exact adY aQ aS pH lK hf hb aR hP jv hE mG kj df bS
theorem asV{P : Program}(aQ : dp P C.ty)(aS : (∀ c ∈ C.cs, aE P c) /\ (∀ c ∈ C.fs, jb P c) /\ ∀ c ∈ C.ng, sN P c)(jG : C.fx = false)(lK : P.follows .mixedOrders = true)(hf : P.funcs[c.f]? = some fn)(hb : fn.body.isNone = false)(hn : (fn.name == "runtime.NumGoroutine") = false)(aR : codeOk (999999999 :: lZ C.fs) C.sc C.lt fn.ntmps (l5 fn) = true)(h:∀ ah res,c.go ah=some res->res.pre ()->∀ l,∃ Ls,(R9 C Ls fn ah l res).P):sN P c:=by
 refine⟨fun args w=>zP hf hb hn args w,fun ah res kd w ra eu l J O R hJ jv hE ja hJ1 hY => ?_⟩;obtain⟨Ls,hP⟩:=h ah res kd ja l;unfold R9 at hP;split at hP
 rotate_left
 . exact hP.elim
 rename_i pw;simp only [aD,aU] at pw;obtain⟨⟨km,hlen⟩,jw⟩:=pw;obtain⟨code,Ik⟩:∃ code,fn.body=some code:=by
  exact ad0
 have A6:l5 fn=code:=by unfold l5; rw [Ik]; rfl
 rw [A6] at hP aR;obtain⟨T,hT⟩:∃ T:Nat->(Nat->Prop)->(Nat->Prop)->Pm,T=fun p O R => { rd:=ra,pl:=fun l=>if l=0 then some (.bL p) else none,fx:=false,kP:=fun b=>R b\/O b,own:=O,inv:=fun W=>J p O R W,ex:=fun _=>True,zj:=fun _ h => .inr h,py:=fun w b h k=>hJ.py p O R w b h k,zk:=fun w w' h e1 e2 e3 e4 k=>hJ.zk p O R w w' h e1 e2 e3 e4 k }:=⟨_,rfl⟩
 have nW:eu.length+1<=fn.ntmps:=by rw [<- hE.1]; exact hlen
 have hea:(#[.func (.yield l) #[] #[]]++eu.toArray:Array Value)=(.func (.yield l) #[] #[]::eu).toArray:=by simp
 rw [hea];refine callsIn_of_wp_marks (F:=Fence.wide) (n:=0) hf Ik trivial ?_;have rq:bn w (fun l=>if l=0 then some (.bL 1) else none) w.heap.size ra (.gv (fun _=>l)::ah) (.func (.yield l) #[] #[]::eu) := .cons (.gv _) (adA hE jw fun _ h=>h);have T6:bj w (fun U=>∃ p O R,U=T p O R) fn.ntmps ⟨[],[]⟩ ⟨xS 0 (.gv (fun _=>l)::ah),[(0,.fY fun _=>1)],1⟩ ⟨(.func (.yield l) #[] #[]::eu).toArray++Array.replicate (fn.ntmps - (.func (.yield l) #[] #[]::eu).toArray.size) undef,[]⟩ w:=by
  subst hT;refine⟨_,⟨1,O,R,rfl⟩,fun l=>if l=0 then some (.bL 1) else none,ra,⟨rfl,rfl,rfl,aN _,fun _ _ _ _=>rfl,hJ1⟩,by simp; omega,rfl,fun b hb=>(jv b hb).1,fun d x hx => ?_,fun l' e he => ?_,fun l1 l2 r r' b _ k1 _ k3 _ => ?_,fun l' cQ=>ax (by simp only at cQ; omega),fun l' r b k1 k2 => ?_,fun b hb=>⟨fun _=>hb,(jv b hb).2⟩,fun l' r h _=>h,fun d x h=>by simp [al] at h,fun l e h=>by simp [al] at h,fun d v h=>by cases h⟩
  . have h1:al (xS 0 (.gv (fun _=>l)::ah)) d=some x:=by
     exact ad1
    obtain⟨_,h2⟩:=T4 _ 0 d x h1;rw [sd] at h2;obtain⟨v,h3,h4⟩:=rq.get h2;refine⟨v,?_,h4⟩;have hd:=(c8.1 h3).1;rw [aD1 (by simpa using hd)];simpa using h3
  . have h1:al [(0,En.fY fun _=>1)] l'=some e:=by
     exact ad3
    rw [cO] at h1;split at h1
    . rename_i h0;subst h0;cases h1;rfl
    . cases h1
  . split at k1
    . cases k1; cases k3
    . cases k1
  . split at k1
    . cases k1; cases k2
    . cases k1
 have T7:Ic P ⟨{ C with yl:=some ⟨fun _=>l,res.n,res.el⟩ },fn.ntmps,Ls,Hd C fn.results.toList res.n⟩ w (fun U=>∃ p O R,U=T p O R) (fun _=>False) none:=by
  subst hT;refine⟨{ cs:=aS.1,fs:=aS.2.1,ng:=aS.2.2,fx := ?f1,pl := ?f2,dm := ?f3,yl := ?f4 },?f5,fun _ h=>by cases h⟩
  case f1=>rintro U ⟨p,O,R,rfl⟩; exact jG.symm
  case f5=>rintro U ⟨p,O,R,rfl⟩ d; exact⟨False.elim,fun ⟨v,h⟩=>by cases h⟩
  case f2 =>
   rintro U ⟨p,O,R,rfl⟩ l' r hl
   dsimp only at hl;split at hl
   . rename_i h0; show l'<C.nb; omega
   . cases hl
  case f3 =>
   rintro U V ⟨p,O,R,rfl⟩ ⟨p',O',R',rfl⟩ l' r q1 q2
   dsimp only at q1 ⊢;split at q1
   . rename_i h0;exact⟨.bL p,by rw [aG h0],rfl⟩
   . cases q1
  case f4 =>
   rintro y hy U ⟨p,O,R,rfl⟩
   injection hy with hy;subst hy;refine⟨fun _=>trivial,p,rfl,fun W args rr hi h0 hp ML tG => ?_⟩;obtain⟨q,rfl⟩:∃ q,p=q+1:=⟨p - 1,oo⟩
   obtain⟨fn',asZ,kO,bd',h1,h2⟩:=hY q O R W args rr hi (by have h5:q+1<=res.n ():=hp; omega) ML tG;refine⟨fn',asZ,kO,bd',h1,h2.mono fun e W' hq => ?_⟩;obtain⟨ok,O',R',rfl,h3,h4⟩:=hq;refine⟨ok,_,rfl,⟨cond ok (q+2) 0,O',R',rfl⟩,rfl,rfl,rfl,rfl,rfl,h3,h4.os,h4.tape,h4.output,h4.size,h4.lu,h4.own,fun b hb => ?_⟩;rcases hb with hb|hb
   . exact (h4.kP b hb).imp .inl id
   . exact (h4.own b hb).elim (fun h => .inl (.inr h)) fun h => .inr (.inr h)
 refine wpIn_mono (adR (F:=⟨{ C with yl:=some ⟨fun _=>l,res.n,res.el⟩ },fn.ntmps,Ls,Hd C fn.results.toList res.n⟩) (w0:=w) aQ lK 100000 code ⟨[],[]⟩ _ [] _ _ none _ w T7 rfl hP T6 (.nil _) aR) fun e a' w' hq => ?_;have ga:∀ S,bj w (fun U=>∃ p O R,U=T p O R) fn.ntmps ⟨[],[]⟩ S a' w'->(Hd C fn.results.toList res.n ⟨[],[]⟩ S).P->bodyPostM Fence.wide 0 P fn (fun e w'=>(∃ v,e = .returned v)/\∃ O R,J (res.n ()+1) O R w'\/J 0 O R w') .ret a' w':=by
  intro S ⟨U,⟨p,O,R,hU⟩,ρ',ro,H⟩ hr;subst hT;subst hU;show LeavesInM _ _ _ _ _ _ a'.defers _ _
  rw [H.defers];unfold Hd at hr;split at hr
  . rename_i rl k zC hk;obtain⟨vs,h1,_⟩:=Nl (P:=P) aQ H zC;refine⟨_,adW h1,⟨_,rfl⟩,O,R,?_⟩;have h2 : ρ' 0=some (.bL (k ())):=H.en _ _ hk;have h3:=H.dH 0 (.bL p) rfl rfl;rw [h2] at h3;injection h3 with h3;injection h3 with h3;have hi:J p O R w':=H.from_.inv;rcases hr with h4|h4
    . left; rw [<- h4,h3]; exact hi
    . right; rw [<- h4,h3]; exact hi
  . exact hr.elim
 exact ad6
end Go.Proofs.YtamjbkaclhgffaaGreat
