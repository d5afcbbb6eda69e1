/-
  The abstract run: calls of functions that change places are sound: the state behind them.
-/
import Derived.Test.YtamjbkaclhgffaaGreatSi9
set_option linter.all false
namespace Go.Proofs.YtamjbkaclhgffaaGreat
open Go.RowKit
variable{aft:Array Edge}{f fr fr' fx:Bool}{C:Cx}{e:En}{k0 kk:IntKind}{css news:List (List Value)}{m vcs:List VC}{T T2 b c d l loc n off sz:Nat}{cc s x:Operand}{gd:Option (Nat×Bool)}{pos:String}{S':Sx}{t:Tc}{ty:TypeId}{v z:Value}
section
variable{P:Program}{w w' w0:World}{ρ ρ' ρ1:Nat->Option Rl}{base j7:Nat}{ro ro' fc:Nat->Prop}{S0:Pm}{Φ : Pm->Prop}{N:Nat}{B:Bs}{S:Sx}{a:Act}{v:Value}
theorem c9.more(h:c9 w ρ base ro l e)(hb:j7<=base)(bt:∀ b,ro b->ro' b):c9 w ρ j7 ro' l e:=by
 have dX:∀ {x v},af w ρ base ro x v->af w ρ j7 ro' x v:=fun h=>h.mono (fun _ _ _=>rfl) (Ext.refl _) hb bt
 cases e with
 | box T cells =>
  obtain⟨b,cs,h1,h4,h5⟩:=h;exact⟨b,cs,h1,h4,h5.1,fun j x v hx hv=>dX (h5.2 j x v hx hv)⟩
 | row fr t T m =>
  obtain⟨A,c,css,h1,h2,h3,h5⟩:=h;exact⟨A,c,css,h1,h2.Cf (akR fr hb),h3,fun k cs j x v k1 k2 k3=>dX (h5 k cs j x v k1 k2 k3)⟩
 | map fr ag c t T m =>
  obtain⟨b,es,clock,h1,h2,h3,h4⟩:=h;exact⟨b,es,clock,h1,h2,h3,h4.rQ fun x v hx=>dX hx⟩
 | iter ml c seen left=>exact h
 | bo ml c key=>exact h
 | ft k=>exact h
 | dead=>exact h
structure Clean (B:Bs) (S:Sx) (loc:Nat):Prop where
 t:∀ d x,dD B S d=some x->AV.has loc x=false
 b:∀ l T cs,bf B S l=some (.box T cs)->AV.lq loc cs=false
 r:∀ l e,bf B S l=some e->oO loc e=false
theorem amx{x:AV}(h:dD B (kill l S) d=some x):dD B S d=some x\/x = .un:=by
 unfold dD kill at h;rw [Fi] at h;unfold dD
 cases hd:aj S.t d with
 | none=>rw [hd] at h; exact .inl h
 | some y =>
  rw [hd] at h;simp only [du,bF] at h;split at h
  . exact .inr h.symm
  . exact .inl (by rw [h])
theorem ZM{k:Nat}(h:bf B (kill l S) k=some e):∃ e0,bf B S k=some e0/\(e=e0\/e=PF l e0):=by
 unfold bf kill at h;rw [Fj] at h;unfold bf
 cases hd:aj S.e k with
 | none=>rw [hd] at h; exact⟨e,h,.inl rfl⟩
 | some y =>
  rw [hd] at h;simp only [du,bF] at h;exact⟨y,rfl,.inr h.symm⟩
theorem KM{k:Nat}(h:bf B ⟨S.t,lr l S.e,S.n⟩ k=some e):∃ e0,bf B S k=some e0/\(e=e0\/e = .dead):=by
 unfold bf at h;simp only [J1] at h;unfold bf
 cases hd:aj S.e k with
 | none=>rw [hd] at h; exact⟨e,h,.inl rfl⟩
 | some y =>
  rw [hd] at h;simp only [du,bF] at h;refine⟨y,rfl,?_⟩;split at h
  . exact .inr h.symm
  . exact .inl h.symm
theorem amy{cs:List AV}(h:AV.lq loc cs=false):AV.lq loc (wo l cs)=false:=by
 refine PI fun j x hx => ?_;rw [J0] at hx
 cases hj:cs[j]? with
 | none=>rw [hj] at hx; cases hx
 | some y =>
  rw [hj] at hx;simp only [du,bF] at hx;subst hx;split
  . rfl
  . exact mg h hj
theorem Clean.amz(h:Clean B S loc)(l):Clean B (kill l S) loc:=by
 refine⟨fun d x hx => ?_,fun k T cs he => ?_,fun k e he => ?_⟩
 . rcases amx hx with h1|rfl
   . exact h.t d x h1
   . rfl
 . obtain⟨e0,h1,h2|h2⟩:=ZM he
   . subst h2; exact h.b k T cs h1
   . cases e0 with
     | box T' cs'=>cases h2; exact amy (h.b k _ cs' h1)
     | row fr t T m=>cases h2
     | map fr ag c t T m=>cases h2
     | iter ml c seen left=>cases h2
     | bo ml c key=>cases h2
     | ft k=>cases h2
     | dead=>cases h2
 . obtain⟨e0,h1,h2|h2⟩:=ZM he
   . subst h2; exact h.r k _ h1
   . have:=h.r k e0 h1;rw [h2];cases e0<;>exact this
theorem Clean.amA(h:Clean B S loc)(l):Clean B ⟨S.t,lr l S.e,S.n⟩ loc:=by
 refine⟨h.t,fun k T cs he => ?_,fun k e he => ?_⟩
 . obtain⟨e0,h1,h2|h2⟩:=KM he
   . subst h2; exact h.b k T cs h1
   . cases h2
 . obtain⟨e0,h1,h2|h2⟩:=KM he
   . subst h2; exact h.r k _ h1
   . subst h2; rfl
theorem ZN:∀ {ls:List Nat} {S:Sx},uM B ls=true->bm w0 S0 N B S a w ρ ro->bm w0 S0 N B (CJ ls S) a w ρ ro/\(∀ l∈ls,Clean B (CJ ls S) l)/\(CJ ls S).n=S.n/\∀ l,Clean B S l->Clean B (CJ ls S) l
 | [],S,_,H=>⟨H,(fun _ h=>by cases h),rfl,fun _ h=>h⟩
 | l::ls,S,h,H=>by
  unfold uM at h;simp only [ax] at h;obtain⟨⟨⟨_,hq⟩,hr⟩,Au⟩:=h;have H1:=H.YX l;obtain⟨H2,wL⟩:=H1.dropped (loc:=l) hr;have hc:Clean B ⟨(kill l S).t,lr l (kill l S).e,(kill l S).n⟩ l:=by
   have hk:=YY (S:=S) hq;refine⟨hk.1,fun k T cs he => ?_,wL⟩;obtain⟨e0,h1,h2|h2⟩:=KM he
   . subst h2; exact hk.2 k T cs h1
   . cases h2
  obtain⟨k1,k2,k3,k4⟩:=ZN (ls:=ls) Au H2;refine⟨k1,fun l' cg => ?_,k3,fun l' cg=>k4 l' ((cg.amz l).amA l)⟩;rcases fM.1 cg with rfl|cg
  . exact k4 _ hc
  . exact k2 l' cg
theorem ZO:∀ {ls:List Nat} {S:Sx},uM B ls=true->bm w0 S0 N B S a w ρ ro->bm w0 S0 N B (CK ls S) a w ρ ro/\(∀ l∈ls,∀ k e,bf B (CK ls S) k=some e->oO l e=false)/\(CK ls S).n=S.n/\∀ l,(∀ k e,bf B S k=some e->oO l e=false)->∀ k e,bf B (CK ls S) k=some e->oO l e=false
 | [],S,_,H=>⟨H,(fun _ h=>by cases h),rfl,fun _ h=>h⟩
 | l::ls,S,h,H=>by
  unfold uM at h;simp only [ax] at h;obtain⟨⟨⟨_,hq⟩,hr⟩,Au⟩:=h;obtain⟨H2,wL⟩:=H.dropped (loc:=l) hr;obtain⟨k1,k2,k3,k4⟩:=ZO (ls:=ls) Au H2;refine⟨k1,fun l' cg => ?_,k3,fun l' cg=>k4 l' fun k e he => ?_⟩
  . rcases fM.1 cg with rfl|cg
    . exact k4 _ wL
    . exact k2 l' cg
  . obtain⟨e0,h1,h2|h2⟩:=KM he
    . subst h2; exact cg k _ h1
    . subst h2; rfl
theorem amB{ls:List Nat}(hf:uM B ls=true)(H:bm w0 S0 N B S a w ρ ro):bm w0 S0 N B (forget fx ls S) a w ρ ro/\(∀ l∈ls,∀ k e,bf B (forget fx ls S) k=some e->oO l e=false)/\(fx=false->∀ l∈ls,Clean B (forget fx ls S) l):=by
 unfold forget
 cases fx with
 | true =>
  obtain⟨k1,k2,_,_⟩:=ZO (S:=S) hf H;exact⟨k1,k2,fun h=>by cases h⟩
 | false =>
  obtain⟨k1,k2,_,_⟩:=ZN (S:=S) hf H;exact⟨k1,fun l hl=>(k2 l hl).r,fun _=>k2⟩
theorem QD{g:Nat->Nat}{l:Nat}{e:En}:∀ {es:List (Nat×En)},aj (ko g es) l=some e->∃ k e0,g k=l/\e=En.fW g e0/\aj es k=some e0
 | (k0,e0)::es,h=>by
  unfold ko at h;rw [cm] at h;split at h
  . rename_i hk;cases h;exact⟨k0,e0,hk,rfl,by rw [cm,aC rfl]⟩
  . rename_i hk;obtain⟨k,e1,h1,h2,h3⟩:=QD h;exact⟨k,e1,h1,h2,by rw [cm,aw (by rintro rfl; exact hk h1)]; exact h3⟩
 | [],h=>by cases h
theorem ZP{g:Nat->Nat}{k:Nat}:∀ {es:List (Nat×En)},bD k (dE es)=true->∃ e,aj (ko g es) (g k)=some e
 | (k0,e0)::es,h=>by
  unfold ko;rw [cm];split
  . exact⟨_,rfl⟩
  . rename_i hk;simp only [dE,bD,gR,cb] at h;rcases h with rfl|h
    . exact absurd rfl hk
    . exact ZP h
 | [],h=>by cases h
theorem ZQ{α:Type}{k:Nat}{x : α}:∀ {l:List (Nat × α)},aj l k=some x->bD k (dE l)=true
 | (j,y)::l,h=>by
  rw [cm] at h;simp only [dE,bD,gR,cb];split at h
  . rename_i e; exact .inl e
  . exact .inr (ZQ h)
 | [],h=>by cases h
theorem QE:∀ {ks:List Nat} {n k:Nat},bD k ks=true->k<m7 n ks
 | j::ks,n,k,h=>by
  simp only [bD,gR,cb] at h;have hle:∀ (l:List Nat) (n:Nat),n<=m7 n l:=by
   intro l
   induction l with
   | nil=>intro n; exact aA n
   | cons j l ih =>
    intro n;unfold m7;split
    . exact ih n
    . have:=ih (j+1); omega
  unfold m7;split
  . rcases h with rfl|h
    . have:=hle ks n; omega
    . exact QE h
  . rcases h with rfl|h
    . have:=hle ks (j+1); omega
    . exact QE h
 | [],_,_,h=>by cases h
theorem ZR{ks:List Nat}:∀ {n l:Nat},yr ks n=true->l<n->bD l ks=true
 | n+1,l,h,hl=>by
  simp only [yr,ax] at h;rcases b9 l n with h1|h1
  . exact ZR h.2 h1
  . rw [show l=n from oo]; exact h.1
 | 0,_,_,hl=>oo
theorem ZS{g:Nat->Nat}{n k:Nat}:∀ {ks:List Nat},CL B g n ks=true->bD k ks=true->n<=k->aj B.e (g k)=none
 | j::ks,h,hm,hk=>by
  unfold CL at h;simp only [ax,gR,aL,iC] at h;simp only [bD,gR,cb] at hm;rcases hm with rfl|hm
  . exact h.1.resolve_left oo
  . exact ZS h.2 hm hk
 | [],_,h,_=>by cases h
theorem ZT{l:Nat}:∀ {ls:List Nat},uM B ls=true->l∈ls->aj B.e l=none
 | j::ls,h,hm=>by
  unfold uM at h;simp only [ax,iC] at h;rcases fM.1 hm with rfl|hm
  . exact h.1.1.1
  . exact ZT h.2 hm
 | [],_,h=>by cases h
theorem QF{α:Type}:∀ (l m:List (Nat × α)) (d),aj (l++m) d=match aj l d with|some x=>some x|none=>aj m d
 | [],m,d=>rfl
 | (k,x)::l,m,d=>by
  rw [kW,cm,cm,QF l m d];split<;>rfl
theorem bm.called(H:bm w0 S0 N B S a w ρ ro){aG:List Nat}{es:List (Nat×En)}(hlen:aG.length=n)(iK:aG.Nodup)(tp:∀ l∈aG,∃ r,ρ l=some r)(Av:uM B aG=true)(bS:yr (dE es) n=true)(pL:CL B (iZ aG S.n) n (dE es)=true)(iH:S0.fx=true->fx=true)(hL:Left w w' (ρL ρ aG) ρ1 ro fc es fx) :
 ∃ ρ',bm w0 S0 N B ⟨(forget fx aG S).t,ko (iZ aG S.n) es++(forget fx aG S).e,S.n+(m7 n (dE es) - n)⟩ a w' ρ' (fun b=>ro b\/fc b)/\∀ k r,ρ1 k=some r -> ρ' (iZ aG S.n k)=some r:=by
 obtain⟨H1,ZU,cz⟩:=amB (fx:=fx) (S:=S) Av H;have ah:∀ {l r},ρ l=some r->l<S.n:=fun h=>by
  rcases b9 _ S.n with h1|h1
  . exact h1
  . have:=H.fresh _ h1; rw [h] at this; cases this
 have amC:∀ {k l},aG[k]? = some l->l<S.n:=fun h=>by
  obtain⟨r,hr⟩:=tp _ (eY h);exact ah hr
 classical
 obtain⟨ρ',yv⟩:∃ ρ':Nat->Option Rl,ρ'=fun l=>if h:∃ k:Nat,aG[k]? = some l then ρ1 h.choose else if S.n<=l then ρ1 (n+(l - S.n)) else ρ l:=⟨_,rfl⟩
 have F1:∀ {k l},aG[k]? = some l -> ρ' l = ρ1 k:=by
  intro k l h;have hex:∃ k:Nat,aG[k]? = some l:=⟨k,h⟩
  rw [yv];simp only [dif_pos hex];have h2:=hex.choose_spec;have hk:=(cF.1 h).1;have:hex.choose=k:=(List.getElem?_inj (by exact (cF.1 h2).1) iK).1 (h2.trans h.symm);rw [this]
 have F2:∀ {l},S.n<=l -> ρ' l = ρ1 (n+(l - S.n)):=by
  intro l h;rw [yv];have jq:¬ ∃ k:Nat,aG[k]? = some l:=by
   rintro⟨k,hk⟩
   have:=amC hk;omega
  simp only [dif_neg jq,aC h]
 have F3:∀ {l:Nat},l<S.n->(∀ k:Nat,aG[k]? ≠ some l) -> ρ' l = ρ l:=by
  intro l h h2;rw [yv];have jq:¬ ∃ k:Nat,aG[k]? = some l:=by
   rintro⟨k,hk⟩
   exact h2 k hk
  simp only [dif_neg jq,aw (show ¬ S.n<=l from oo)]
 have G1:∀ {k l:Nat},aG[k]? = some l->iZ aG S.n k=l:=fun h=>by unfold iZ; rw [h]
 have G2:∀ {k:Nat},n<=k->iZ aG S.n k=S.n+(k - n):=fun h=>by unfold iZ; rw [sQ oo,hlen]
 have F4:∀ k,ρ' (iZ aG S.n k) = ρ1 k:=by
  intro k;rcases b9 k n with h|h
  . have hk:aG[k]? = some (aG[k]'oo):=bc _;rw [G1 hk];exact F1 hk
  . rw [G2 h,F2 oo];congr 1;omega
 have back:∀ {l:Nat} {r:Rl},ρ' l=some r->(∃ k:Nat,l=iZ aG S.n k /\ ρ1 k=some r)\/(ρ l=some r/\l<S.n/\∀ k:Nat,aG[k]? ≠ some l):=by
  intro l r h;by_cases hex:∃ k:Nat,aG[k]? = some l
  . obtain⟨k,hk⟩:=hex;exact .inl ⟨k,(G1 hk).symm,(F1 hk).symm.trans h⟩
  . rcases b9 l S.n with h1|h1
    . have h2:∀ k:Nat,aG[k]? ≠ some l:=fun k hk=>hex ⟨k,hk⟩;exact .inr ⟨(F3 h1 h2).symm.trans h,h1,h2⟩
    . refine .inl ⟨n+(l - S.n),?_,(F2 h1).symm.trans h⟩;rw [G2 oo];omega
 have azG:∀ {k:Nat} {r:Rl} {b:Nat},ρL ρ aG k=some r->r.b8=some b->∃ l:Nat,aG[k]? = some l /\ ρ l=some r:=fun h _ => uQ h;have C1:∀ {l:Nat} {r:Rl} {b:Nat},ρ l=some r->r.b8=some b->(∀ k:Nat,aG[k]? ≠ some l)->w'.heap[b]? = w.heap[b]? := by
  intro l r b h1 h2 h3;refine hL.from_.block b (H.own l r b h1 h2).1 fun k r' hk hb => ?_;obtain⟨l',cg,kz⟩ := uQ hk;exact H.apart l l' r r' b (fun e=>h3 k (e▸cg)) h1 kz h2 hb
 have bt:∀ b,ro b->b<w.heap.size->w'.heap[b]? = w.heap[b]? := by
  intro b hb ah;refine hL.from_.block b ah fun k r' hk aW => ?_;obtain⟨l',cg,kz⟩ := uQ hk;exact (H.own l' r' b kz aW).2.1 hb
 have tq:∀ {l:Nat} {r:Rl},ρ l=some r->((¬ ∃ k:Nat,aG[k]? = some l)\/(r.dz||fx)=true) -> ρ' l=some r:=by
  intro l r h1 h2;by_cases hex:∃ k:Nat,aG[k]? = some l
  . obtain⟨k,hk⟩:=hex;rw [F1 hk];exact hL.dz k r (by rw [wJ hk]; exact h1) (h2.resolve_left fun h=>h ⟨k,hk⟩)
  . rw [F3 (ah h1) fun k hk=>hex ⟨k,hk⟩];exact h1
 have dX:∀ {x v},af w ρ w0.heap.size ro x v->(fx=false->∀ l∈aG,AV.has l x=false)->af w' ρ' w0.heap.size (fun b=>ro b\/fc b) x v:=fun h hx=>(h.CZ (q:=fun l=>fx=false/\∃ k:Nat,aG[k]? = some l) (fun l hq=>by obtain⟨hf,k,hk⟩:=hq; exact hx hf l (eY hk)) fun l r h1 h2=>tq h1 (by
  cases hf:fx with
  | true=>exact .inr (by simp)
  | false=>exact h2.imp (fun h q=>h ⟨hf,q⟩) fun h=>by simp [h])).mono bt (Ext.refl _) (aA _) fun b hb => .inl hb
 have gS:w0.heap.size<=w.heap.size:=H.from_.size;have amD:∀ {l:Nat} {e:En},aj (ko (iZ aG S.n) es) l=none->bf B (forget fx aG S) l=some e->∀ k:Nat,aG[k]? ≠ some l:=by
  intro l e h1 _ k hk;have dN:k<n:=by have:=(cF.1 hk).1; omega
  obtain⟨e',mw⟩:=ZP (g:=iZ aG S.n) (ZR bS dN);rw [G1 hk,h1] at mw;cases mw
 refine⟨ρ',⟨?_,H.size,H.defers,fun b hb => ?_,fun d x hx => ?_,fun l e he => ?_,fun l l' r r' b aT h1 h2 h3 h4 => ?_,fun l hl => ?_,fun l r b h1 h2 => ?_,fun b hb => ?_,fun l r h1 h2=>tq (H.dz l r h1 h2) (.inr (by
  cases hs:r.dz with
  | true=>rfl
  | false=>rw [hs] at h2; exact iH h2)),fun d x hx=>H1.jL d x hx,fun l e he => ?_,H.fm⟩,fun k r h=>by rw [F4]; exact h⟩
 . refine⟨hL.from_.os.trans H.from_.os,hL.from_.tape.trans H.from_.tape,hL.from_.output.trans H.from_.output,dQ gS hL.from_.size,fun k hk KN hx => ?_,S0.yp _ _ H.from_.inv hL.from_.os hL.from_.tape hL.from_.output hL.from_.size fun b hb=>hL.from_.block b (S0.nR _ _ H.from_.inv hb) fun i r hi hr=>by obtain⟨l,_,QG⟩ := uQ hi; exact (H.own l r b QG hr).2.2.2 hb⟩;refine (hL.from_.block k oo fun i r hi hr => ?_).trans (H.from_.block k hk KN hx);obtain⟨l,hl,QG⟩ := uQ hi;rcases (H.own l r k QG hr).2.2.1 with h|⟨r0,h,h'⟩
   . omega
   . exact KN l r0 h h'
 . rcases hb with hb|hb
   . exact iS (H.gu b hb) hL.from_.size
   . exact (hL.rd b hb).1
 . obtain⟨u,h1,h2⟩:=H1.tm d x hx;exact⟨u,h1,dX h2 fun hf l hl=>(cz hf l hl).t d x hx⟩
 . unfold bf at he;dsimp only at he;have jx:=QF (ko (iZ aG S.n) es) (forget fx aG S).e l
   cases hr:aj (ko (iZ aG S.n) es) l with
   | some e1 =>
    rw [jx,hr] at he;simp only [bF] at he;subst he;obtain⟨k,e0,rfl,rfl,h3⟩:=QD hr;exact ((hL.en k e0 h3).more gS fun b hb => .inr hb).fW fun l r h=>by rw [F4]; exact h
   | none =>
    rw [jx,hr] at he;have mw:bf B (forget fx aG S) l=some e:=he;have FL:=amD hr mw;have h1:=H1.en l e mw;obtain⟨r,KO⟩:=h1.none;have cg : ρ' l = ρ l:=F3 (ah KO) FL
    cases e with
    | box T cs =>
     obtain⟨b,us,k1,k4,k5⟩:=h1;exact⟨b,us,cg.trans k1,(C1 k1 rfl FL).trans k4,k5.1,fun j x v hx hv=>dX (k5.2 j x v hx hv) fun hf q hq=>mg ((cz hf q hq).b l T cs mw) hx⟩
    | row fr t T m =>
     obtain⟨A,c,css,k1,k2,k3,k5⟩:=h1;exact⟨A,c,css,cg.trans k1,k2.jF fun ad ha=>C1 k1 (by simp [Rl.b8,ha]) FL,k3,fun k cs j x v q1 q2 q3=>dX (k5 k cs j x v q1 q2 q3) fun _ q _=>mg (wg _ _ _ _) q2⟩
    | map fr ag c t T m =>
     obtain⟨b,iY,clock,k1,k2,k3,k4⟩:=h1;exact⟨b,iY,clock,cg.trans k1,(C1 k1 rfl FL).trans k2,k3,k4.rQ fun x v hx=>dX hx fun _ q _=>PJ _ _ _ _ _⟩
    | iter ml c seen left =>
     obtain⟨b,b2,iY,clock,since,stamps,c0,k1,k2,k3,k4,k5⟩:=h1;have ka:∀ k:Nat,aG[k]? ≠ some ml:=fun k hk=>by
      have:=ZU ml (eY hk) l _ mw;simp [oO] at this
     exact⟨b,b2,iY,clock,since,stamps,c0,cg.trans k1,(F3 (ah k2) ka).trans k2,(C1 k2 rfl ka).trans k3,(C1 k1 rfl FL).trans k4,k5⟩
    | bo ml c key =>
     obtain⟨b,iY,clock,s,e,k1,k2,k3,k4⟩:=h1;have ka:∀ k:Nat,aG[k]? ≠ some ml:=fun k hk=>by
      have:=ZU ml (eY hk) l _ mw;simp [oO] at this
     exact⟨b,iY,clock,s,e,cg.trans k1,(F3 (ah k2) ka).trans k2,(C1 k2 rfl ka).trans k3,k4⟩
    | ft k=>exact cg.trans h1
    | dead=>exact⟨r,cg.trans KO⟩
 . have kc:∀ {l l':Nat} {r r':Rl} {b k:Nat},l=iZ aG S.n k -> ρ1 k=some r -> ρ l'=some r'->(∀ k:Nat,aG[k]? ≠ some l')->r.b8=some b->r'.b8≠some b:=by
    intro l l' r r' b k _ q2 q3 q4 q5 q6;have q7:=(H.own l' r' b q3 q6).1;rcases (hL.own k r b q2 q5).2.2 with q8|⟨r0,q8,q9⟩
    . omega
    . obtain⟨l2,q10,q11⟩ := uQ q8;exact H.apart l2 l' r0 r' b (fun e=>q4 k (e▸q10)) q11 q3 q9 q6
   rcases back h1 with ⟨k,q1,q2⟩|⟨q1,q2,q3⟩
   . rcases back h2 with ⟨k',q3,q4⟩|⟨q3,q4,q5⟩
     . exact hL.apart k k' r r' b (fun e=>aT (by rw [q1,q3,e])) q2 q4 h3 h4
     . exact kc q1 q2 q3 q5 h3 h4
   . rcases back h2 with ⟨k',q4,q5⟩|⟨q4,q5,q6⟩
     . exact kc q4 q5 q1 q3 h4 h3
     . exact H.apart l l' r r' b aT q1 q4 h3 h4
 . dsimp only at hl;rw [F2 oo];refine hL.fresh _ ?_
   cases hm:bD (n+(l - S.n)) (dE es) with
   | false=>rfl
   | true =>
    have:=QE (n:=n) hm;omega
 . rcases back h1 with ⟨k,q1,q2⟩|⟨q1,q2,q3⟩
   . obtain⟨q3,q4,q5⟩:=hL.own k r b q2 h2;rcases q5 with q5|⟨r0,q5,q6⟩
     . refine⟨q3,fun hb => ?_,.inl oo,fun hf=>by have:=S0.nR _ _ H.from_.inv hf; omega⟩;rcases hb with hb|hb
       . have:=H.gu b hb; omega
       . exact q4 hb
     . obtain⟨l2,q7,q8⟩ := uQ q5;have q9:=H.own l2 r0 b q8 q6;rw [G1 q7] at q1;subst q1;exact⟨q3,fun hb=>hb.elim q9.2.1 q4,q9.2.2⟩
   . have q4:=H.own l r b q1 h2;exact⟨iS q4.1 hL.from_.size,fun hb=>hb.elim q4.2.1 fun hb=>q4.2.1 ((hL.rd b hb).2 q4.1),q4.2.2⟩
 . rcases hb with hb|hb
   . exact H.ew b hb
   . rcases b9 b w.heap.size with h|h
     . exact H.ew b ((hL.rd b hb).2 h)
     . exact⟨fun h2=>oo,fun ho=>by have:=S0.nR _ _ H.from_.inv (S0.yo b ho); omega⟩
 . rw [QF]
   cases hr:aj (ko (iZ aG S.n) es) l with
   | none=>exact H1.jM l e he
   | some e1 =>
    exfalso;obtain⟨k,e0,hk,_,h3⟩:=QD hr;have hm:=ZQ h3;rcases b9 k n with h|h
    . have bU:aG[k]? = some (aG[k]'oo):=bc _;rw [G1 bU] at hk;have:=ZT Av (eY bU);rw [hk,he] at this;cases this
    . have:=ZS pL hm h;rw [hk,he] at this;cases this
end
section
variable{P:Program}{w w' w0:World}{ρ ρ':Nat->Option Rl}{base:Nat}{ro ro':Nat->Prop}{S0:Pm}{Φ : Pm->Prop}{N:Nat}{B:Bs}{S:Sx}{a:Act}
theorem amG{size:Nat}(hz:z.cells.size=size)(h0:0<size):∀ n,(madeCells z.cells (n*size)).toList=(List.replicate n z.cells.toList).flatten:=by
 intro n;apply vL;intro j;have bS:∀ cs∈List.replicate n z.cells.toList,cs.length=size:=by
  intro cs aF;rw [(ajj.1 aF).2];simpa using hz
 by_cases hj:j<n*size
 . have QH:=WJ j size;have hm:=oC j h0;have hk:j / size<n:=(IC h0).2 hj;have e:j=j / size*size+j % size:=by rw [kX]; exact QH.symm
   have h1:=Ev (List.replicate n z.cells.toList) bS (j / size) (j % size) hm;rw [<- e] at h1;rw [h1];rw [aja,aC hk,Em];simp only [madeCells,hz,Array.toList_map,Array.toList_range,ga,IG hj,du];rw [Array.getElem!_eq_getD];have C2:j % size<z.cells.size:=oo
   simp [C2]
 . have h1:(madeCells z.cells (n*size)).toList.length=n*size:=by simp [size_madeCells]
   have h2:(List.replicate n z.cells.toList).flatten.length=n*size:=by rw [pw _ bS,vK]
   rw [sQ oo,sQ oo]
theorem ZV(H:aS w0 Φ N B S a w){e:Nat}{x:Unit->List t.el}{l:Operand}(hB:aj B.e S.n=none)(hp:bJ B ⟨S.t,(S.n,.row f t e x)::S.e,S.n+1⟩ N d (.own S.n)=some S')(hn:(x ()).length=n)(cC:∃ w',(Instr.makeSlice T (a.eval l) (a.eval cc)).run P w = .ok (.slice (some ⟨w.heap.size,0,none⟩) n c) w'/\w'.ownsRow w.heap.size e t.size (.slice (some ⟨w.heap.size,0,none⟩) n c) n css.flatten/\w.grownBy w' none)(hlen:css.length=n)(cz:∀ cs∈css,cs.length=t.size)(dt:∀ (k) (cs) (w') (ρ') (ro'),css[k]? = some cs->aV w' ρ' w0.heap.size ro' (aP f t fun _=>(x ()).getD k t.aa) cs) :
 gK P ⟨some d,.makeSlice T l cc,ty,pos,aft,gd⟩ a w (aS w0 Φ N B S'):=by
 obtain⟨S0,hS,ρ,ro,H⟩:=H;obtain⟨w',cC,fU,hg⟩:=cC;have fw:=H.fresh S.n (aA _);have gp:∀ q,q<w.heap.size->w'.heap[q]? = w.heap[q]? := fun q hq=>hg.block q hq (by simp);have bw:cw w' w.heap.size e t.size (some ⟨w.heap.size,0,none⟩) c css:=⟨by rw [hlen]; exact fU,cz⟩
 have ah:w.heap.size<w'.heap.size:=(bw.lt rfl).2;have FM:cw w' (rb f w0.heap.size) e t.size (some ⟨w.heap.size,0,none⟩) c css:=bw.Cf (dQ (Js _ _) H.from_.size);have H2:=H.oP (w':=w') (loc:=S.n) (n:=S.n+1) (r := .row (some ⟨w.heap.size,0,none⟩) n c) (e := .row f t e x) (H.from_.grown hg fun k hk=>by cases hk) hg.size (fun q hq _=>gp q hq) (fun q jl=>by
  have jw:some w.heap.size=some q:=jl;injection jw with jw;subst jw;exact .inr ⟨aA _,ah⟩) hB (Cd _) (B3 _) (.inl (qF fw)) (.inl fun b hb=>by rw [fw] at hb; cases hb) (by
  refine⟨some ⟨w.heap.size,0,none⟩,c,css,by rw [hn]; exact iJ _ _ _,FM,by rw [hn]; exact hlen,fun k cs j y u r1 r2 r3=>(dt k cs _ _ _ r1).2 j y u r2 r3⟩)
 refine .inl ⟨_,_,?_,S0,hS,_,_,H2.put hp (.own _ _ _ _ (iJ _ _ _))⟩;unfold execOp;simp only [bp,cC,bI,bL]
theorem amH(aE:cT P C.ty)(H:aS w0 Φ N B S a w){e:Nat}{k:Unit->Int}{l:Operand}(hT:fu C.ty T=some (.slice e sz b))(hl:bM B S l = .lit k0 0)(hc:(bM B S cc).asInt=some (kk,k))(aO:t.size=sz)(hB:aj B.e S.n=none)(hp:bJ B ⟨S.t,(S.n,.row true t e fun _ => [])::S.e,S.n+1⟩ N d (.own S.n)=some S')(hv:0<=k ()/\k ()*b<=281474976710656) :
 gK P ⟨some d,.makeSlice T l cc,ty,pos,aft,gd⟩ a w (aS w0 Φ N B S'):=by
 obtain⟨S0,hS,ρ,ro,H'⟩:=id H;obtain⟨i,_,hi,ky⟩:=eI aE hT;obtain⟨⟨hu,j,z,hj,hz,wG,QI,vT,nK⟩,jG⟩:=Aq ky hi;have e1:a.eval l = .int k0 0:=by have:=H'.get l; rw [hl] at this; exact this.mh
 have e2:a.eval cc = .int kk (k ()):=jk hc (H'.get cc);obtain⟨c,oU⟩:=pq hv.1;have tr:c*b<=281474976710656:=by
  have h3:=hv.2;exact ZW
 have pP:c<=maxLen:=by
  have:c*1<=c*b:=kU _ jG;unfold maxLen;omega
 subst aO;refine ZV (css := []) H hB hp rfl ?_ rfl (by simp) (fun k cs w' ρ' ro' h=>by simp at h) (c:=c);rw [e1,e2,oU];exact run_make_own w w.heap.size T e j z t.size hu hj hz wG k0 kk c (by rw [QI,kX]; exact tr) pP (aA _)
theorem amI(aE:cT P C.ty)(H:aS w0 Φ N B S a w){e:Nat}{n k:Unit->Int}{x:Unit->t.el}{ie:eH}{l:Operand}(hT:fu C.ty T=some (.slice e sz b))(hl:bM B S l = .int k0 n)(hc:(bM B S cc).asInt=some (kk,k))(z8:aj C.ty e=some ie)(gT:wz t (.agg ie.z)=some (f,x))(xM:ie.z.isEmpty=false)(aO:t.size=sz)(hB:aj B.e S.n=none)(hp:bJ B ⟨S.t,(S.n,.row f t e fun _=>List.replicate (n ()).toNat (x ()))::S.e,S.n+1⟩ N d (.own S.n)=some S')(hv:0<=n ()/\n ()=k ()/\n ()*b<=281474976710656) :
 gK P ⟨some d,.makeSlice T l cc,ty,pos,aft,gd⟩ a w (aS w0 Φ N B S'):=by
 obtain⟨S0,hS,ρ,ro,H'⟩:=id H;obtain⟨i,_,hi,ky⟩:=eI aE hT;obtain⟨⟨hu,j,z,hj,hz,wG,QI,vT,nK⟩,jG⟩:=Aq ky hi;have e1:a.eval l = .int k0 (n ()):=by have:=H'.get l; rw [hl] at this; exact this.iw
 have e2:a.eval cc = .int kk (k ()):=jk hc (H'.get cc);obtain⟨v1,v2,v3⟩:=hv;rw [<- v2] at e2;obtain⟨c,oU⟩:=pq v1;have tr:c*b<=281474976710656:=by
  have h3:=v3;exact ZW
 have pP:c<=maxLen:=by
  have:c*1<=c*b:=kU _ jG;unfold maxLen;omega
 subst aO;have pH:(n ()).toNat=c:=by rw [oU]; rfl
 have hzE:∀ (w':World) (ρ':Nat->Option Rl) (ro':Nat->Prop),aV w' ρ' w0.heap.size ro' (aP f t x) z.cells.toList:=by
  intro w' ρ' ro';obtain⟨j',z',gE,yD,hE⟩:=Pu (w:=w') (ρ := ρ') (base:=w0.heap.size) (ro:=ro') (aE e ie z8) xM;rw [hj] at gE;injection gE with gE;subst gE;rw [hz] at yD;injection yD with yD;subst yD;obtain⟨vs,q1,q2,q3⟩:=KC gT (af.agg ie.z z.cells.toList hE.1 hE.2);have:vs=z.cells.toList:=by
   have q4:(Value.agg z.cells.toList.toArray).cells=z.cells.toList.toArray:=rfl;rw [q4] at q1;exact (congrArg Array.toList q1).symm
  rw [this] at q3;exact q3
 have hzl:z.cells.toList.length=t.size:=by simpa using vT
 refine ZV (css:=List.replicate c z.cells.toList) H hB hp (by rw [vK]) ?_ (by rw [vK,pH]) (fun cs h=>by rw [(ajj.1 h).2]; exact hzl) (fun q cs w' ρ' ro' h => ?_) (c:=c)
 . rw [e1,e2,oU];obtain⟨w',r1,r2,r3⟩:=run_make_full (P:=P) w w.heap.size T e j z t.size hu hj hz wG k0 kk c (by rw [QI,kX]; exact tr) pP (aA _);refine⟨w',?_,?_,r3⟩
   . exact r1
   . rw [amG vT nK] at r2;exact r2
 . rw [aja] at h;split at h
   . rename_i hq;cases h;have e3:(List.replicate (n ()).toNat (x ())).getD q t.aa=x ():=by
      rw [aX,aja,aC oo];rfl
     have e4:(fun (_:Unit)=>(List.replicate (n ()).toNat (x ())).getD q t.aa)=x:=by funext u; exact e3
     rw [e4];exact hzE w' ρ' ro'
   . cases h
end
section
variable{w w' w0:World}{ρ ρ' ρ2:Nat->Option Rl}{base:Nat}{p:Nat->Bool}{fz:Option (List Nat)}{ro ro' ro2:Nat->Prop}{S0:Pm}{Φ : Pm->Prop}{N:Nat}{B:Bs}{S:Sx}{a:Act}
theorem af.KP{l m:Unit->List t.el}(h:af w ρ base ro (.sl fr t l) v)(hl:l ()=m ())(hf:fr'=true->fr=true):af w ρ base ro (.sl fr' t m) v:=by
 have e:l=m:=funext fun u=>by cases u; exact hl
 subst e
 cases fr' with
 | true=>rw [hf rfl] at h; exact h
 | false=>exact h.uK
theorem FN{l:List VC}(h:∀ c∈l++m,c ()):(∀ c∈l,c ())/\∀ c∈m,c ():=⟨fun c hc=>h c (iU.2 (.inl hc)),fun c hc=>h c (iU.2 (.inr hc))⟩
theorem Aw(h:(fr || !fr')=true):fr'=true->fr=true:=by
 intro h';rw [h'] at h;simpa using h
structure FO (w0:World) (ρ ρ2:Nat->Option Rl) (ro ro2:Nat->Prop) (p:Nat->Bool) (fz:Option (List Nat)):Prop where
 pl:∀ l r,ρ l=some r->p l=true -> ρ2 l=some r
 ro:∀ b,ro b->ro2 b
 nil:fz=none->∀ l,ρ l=none->p l=true -> ρ2 l=some (.row none 0 0)
 out:∀ ks,fz=some ks->∀ loc r b,ρ loc=some r->bD loc ks=false->r.b8=some b->w0.heap.size<=b/\ro2 b
mutual
theorem QJ(H:bm w0 S0 N B S a w ρ ro)(M:FO w0 ρ ρ2 ro ro2 p fz):∀ (x y:AV) (vcs:List VC) (v:Value),CS fz B S x y=some vcs->(∀ c∈vcs,c ())->af w ρ w0.heap.size ro x v->AV.under p y=true->af w ρ2 w0.heap.size ro2 y v:=by
 intro x y vcs v h hv hx hu;unfold CS at h;split at h
 . exact .un _
 . split at h
   . rename_i hk;subst hk;cases h;rw [hx.iw,hv _ (.head _)];exact .int _ _
   . cases h
 . split at h
   . rename_i hk;subst hk;cases h;rw [hx.mh,hv _ (.head _)];exact .int _ _
   . cases h
 . split at h
   . rename_i hk;subst hk;cases h;rw [hx.iw,hv _ (.head _)];exact .lit _ _
   . cases h
 . split at h
   . rename_i hk;obtain⟨rfl,rfl⟩:=hk;rw [hx.mh];exact .lit _ _
   . cases h
 . cases h;rw [hx.oJ,hv _ (.head _)];exact .bool _
 . cases h;rw [hx.pD,hv _ (.head _)];exact .bool _
 . cases h;rw [hx.oJ,hv _ (.head _)];exact .aR _
 . split at h
   . rename_i hk;subst hk;rw [hx.pD];exact .aR _
   . cases h
 . cases h;rw [hx.zX,hv _ (.head _)];exact .str _
 . cases h;rw [hx.wj];exact .nil
 . cases h;have h0:=hv _ (.head _);rw [hx.wj];rename_i t l;have e:Value.slice none 0 0=Value.slice none (l ()).length 0:=by rw [h0]; rfl
   rw [e];exact .sl _ _ _ none 0 [] (by rw [h0]; rfl) (aA _) (Rd.nil _ _ _ _) (fun _ h=>by cases h) (fun _ _ h=>by cases h) (fun k cs j x v h=>by simp at h)
 . split at h
   . split at h
     . rename_i loc _ hk;cases h;rw [hx.wj];exact .own _ _ _ _ (M.nil rfl loc (H.fresh loc (by simpa using hk)) Ax)
     . cases h
   . cases h
 . split at h
   . rename_i fr t l fr' t' m hk;subst hk;split at h
     . rename_i hf;cases h;exact ((hx.KP (m:=m) (hv _ (.head _)) (Aw hf)).plain (fresh:=false) (by simp [AV.plain]) fun b _ h=>M.ro b h)
     . cases h
   . cases h
 . rename_i loc fr' t' m;split at h
   . cases h
   . rename_i ks;split at h
     . cases h
     . rename_i m9;split at h
       . rename_i fr t T l he;split at h
         . rename_i hk;subst hk;split at h
           . rename_i hf;cases h;obtain⟨A,c,css,hA,bw,hlen,dt⟩:=H.en _ _ he;obtain⟨A',n',c',bG,rfl⟩:=hx.tf;rw [hA] at bG;injection bG with bG;injection bG with e1 e2 e3;subst e1; subst e2; subst e3;have KR:∀ ad,A=some ad->_:=fun ad ha=>M.out ks rfl loc _ ad.block hA (by simpa using m9) (by simp [Rl.b8,ha]);have h1:af w ρ2 w0.heap.size ro2 (.sl fr _ l) (.slice A (l ()).length c):=by
              refine .sl fr _ l A c css hlen bw.cap.1 bw.rd (fun ad ha _=>(KR ad ha).2) (fun _ ad ha _=>(KR ad ha).1) fun k cs j x v q1 q2 q3 => ?_;exact (dt k cs j x v q1 q2 q3).plain (fresh:=false) (we (EV _ _ _) q2) fun b _ h=>M.ro b h
             exact h1.KP (hv _ (.head _)) (Aw hf)
           . cases h
         . cases h
       . cases h
 . split at h
   . rename_i fr t l n fr' t' m hk;subst hk;split at h
     . rename_i hf;cases h;exact (((z9 hx).KP (m:=m) (hv _ (.head _)) (Aw hf)).plain (fresh:=false) (by simp [AV.plain]) fun b _ h=>M.ro b h)
     . cases h
   . cases h
 . split at h
   . rename_i fr t l n fr' t' m k hk;subst hk;split at h
     . rename_i hf;cases h;obtain⟨A,c,hn,hl,rfl⟩:=hx.Ff;have e1:l ()=m ():=hv _ (.head _);have e2:n ()=k ():=hv _ (.tail _ (.head _));rw [e2];have qG:=((hl.KP (m:=m) e1 (Aw hf)).plain (fresh:=false) (ρ' := ρ2) (ro':=ro2) (by simp [AV.plain]) fun b _ h=>M.ro b h)
       rw [e1] at qG;exact .wide fr' _ m k A c (by rw [<- e1,<- e2]; exact hn) qG
     . cases h
   . cases h
 . split at h
   . rename_i loc pM hk;subst hk;obtain⟨A,n',c,hA,rfl⟩:=hx.tf;exact .own _ _ _ _ (M.pl _ _ hA Ax)
   . cases h
 . split at h
   . rename_i t loc a b t' pM a' b' hk;obtain⟨rfl,rfl⟩:=hk;cases h;obtain⟨A,n',c,hA,bk,uJ,rfl⟩:=hx.yb;obtain⟨e1,e2⟩:a ()=a' ()/\b ()=b' ():=hv _ (.head _);rw [e1,e2];exact .cG _ _ _ _ _ _ _ (M.pl _ _ hA Ax) ⟨oo,oo⟩
   . cases h
 . split at h
   . rename_i loc off pM rM hk;obtain⟨rfl,rfl⟩:=hk;obtain⟨b,hb,rfl⟩:=hx.ya;exact .ptr _ _ _ (M.pl _ _ hb Ax)
   . cases h
 . rename_i loc off m rM;have ng:=fun cs us h1 hE=>yF H M cs m vcs us h1 hv hE FP;split at h
   . cases h
   . rename_i ks;split at h
     . cases h
     . rename_i m9;split at h
       . rename_i T cs he;split at h
         . rename_i ho;subst ho;obtain⟨b,us,hb,hh,hE⟩:=H.en _ _ he;obtain⟨b',aW,rfl⟩:=hx.ya;rw [hb] at aW;injection aW with aW;injection aW with aW;subst aW;have KR:=M.out ks rfl loc _ b hb (by simpa using m9) rfl;have h3:=ng cs us h hE;have:=af.bh (w:=w) (ρ := ρ2) (base:=w0.heap.size) (ro:=ro2) m off b 0 us KR.2 (jA.1 hh).1 h3.1 (fun j u hj=>by simp [World.cell?,hh,hj]) h3.2;rw [gC] at this;exact this
         . cases h
       . cases h
 . split at h
   . rename_i loc pM hk;subst hk;obtain⟨b,hb,rfl⟩:=hx.zY;exact .mp _ _ (M.pl _ _ hb Ax)
   . cases h
 . split at h
   . rename_i l l2 l' Y9 hk;obtain⟨rfl,rfl⟩:=hk;obtain⟨b,hb,rfl⟩:=hx.Ph;exact .it _ _ _ (M.pl _ _ hb Ax)
   . cases h
 . split at h
   . rename_i l off m rM hk;subst hk;obtain⟨b,o,cs,h1,h2,h3,hE,rfl⟩:=hx.JI;have:=yF H M l m vcs cs h hv hE FP;exact .bh _ _ b o cs (M.ro _ h1) h2 this.1 h3 this.2
   . cases h
 . split at h
   . rename_i t loc k off t' pM k' rM hk;obtain⟨rfl,rfl,rfl⟩:=hk;cases h;obtain⟨A,n,c,b,hA,hb,h0,hn,rfl⟩:=hx.JH;have e:k ()=k' ():=hv _ (.head _);rw [e] at h0 hn ⊢;exact .cZ _ _ _ _ _ _ _ _ (M.pl _ _ hA Ax) hb h0 hn
   . cases h
 . rename_i l m;obtain⟨vs,rfl,hE⟩:=hx.oK;have:=yF H M l m vcs vs h hv hE FP;exact .agg _ _ this.1 this.2
 . rename_i l m;obtain⟨vs,rfl,hE⟩:=hx.JF;have:=yF H M l m vcs vs h hv hE FP;exact .ba _ _ this.1 this.2
 . split at h
   . rename_i f l g m hk;subst hk;obtain⟨vs,rfl,hE⟩:=hx.JG;have:=yF H M l m vcs vs h hv hE FP;exact .fn _ _ _ this.1 this.2
   . cases h
 . cases h
theorem yF(H:bm w0 S0 N B S a w ρ ro)(M:FO w0 ρ ρ2 ro ro2 p fz):∀ (xs ys:List AV) (vcs:List VC) (vs:List Value),th fz B S xs ys=some vcs->(∀ c∈vcs,c ())->aV w ρ w0.heap.size ro xs vs->AV.mn p ys=true->aV w ρ2 w0.heap.size ro2 ys vs:=by
 intro xs ys vcs vs h hv hE hu;unfold th at h;split at h
 . rw [hE.none];exact .nil
 . rename_i x l y m;split at h
   . rename_i p q h4 h5;cases h;obtain⟨v,us,rfl,hx,m5⟩:=hE.head;have h6:=FN hv;simp only [AV.mn,ax] at hu;exact .cons (QJ H M x y p v h4 h6.1 hx hu.1) (yF H M l m q us h5 h6.2 m5 hu.2)
   . cases h
 . cases h
end
theorem wM{p:Nat->Bool}:∀ {l:List AV} {j:Nat} {x:AV},AV.mn p l=true->l[j]? = some x->AV.under p x=true
 | y::l,0,x,h,hx=>by
  simp only [ox,bF] at hx;subst hx;simp only [AV.mn,ax] at h;exact h.1
 | y::l,j+1,x,h,hx=>by
  simp only [AV.mn,ax] at h;exact wM h.2 (by simpa using hx)
 | [],j,x,_,hx=>by simp at hx
theorem KS(fr)(t)(x)(p):AV.mn p (aP fr t x)=true:=by cases t<;>rfl
theorem af.yG{x:AV}(h:af w ρ base ro x v)(hx:AV.under p x=true)(h2:∀ l r,ρ l=some r->p l=true -> ρ2 l=some r):af w ρ2 base ro x v:=by
 induction h with
 | un=>exact .un _
 | fG=>exact .fG _
 | int=>exact .int _ _
 | lit=>exact .lit _ _
 | bool=>exact .bool _
 | aR=>exact .aR _
 | str=>exact .str _
 | nil=>exact .nil
 | sl fr t l A c css hl hc hr lh cP h ih=>exact .sl fr t l A c css hl hc hr lh cP fun k cs j y v h1 h2 h3=>ih k cs j y v h1 h2 h3 (wM (KS _ _ _ _) h2)
 | wide fr t l n A c hn h ih=>exact .wide fr t l n A c hn (ih rfl)
 | bh cells off b o cs hr ah hl hc h ih=>exact .bh cells off b o cs hr ah hl hc fun j y v h1 h2=>ih j y v h1 h2 (wM KT h1)
 | ptr l off b h=>exact .ptr _ _ _ (h2 _ _ h yH)
 | fq l off n b h=>exact .fq _ _ _ _ (h2 _ _ h yH)
 | mp l b h=>exact .mp _ _ (h2 _ _ h yH)
 | bo l b h=>exact .bo _ _ (h2 _ _ h yH)
 | it l l2 b h=>exact .it _ _ _ (h2 _ _ h yH)
 | own l A n c h=>exact .own _ _ _ _ (h2 _ _ h yH)
 | cZ t l k off A n c b h hA h0 hn=>exact .cZ _ _ _ _ _ _ _ _ (h2 _ _ h yH) hA h0 hn
 | cG t l a b A n c h bk=>exact .cG _ _ _ _ _ _ _ (h2 _ _ h yH) bk
 | agg l vs hl h ih=>exact .agg _ _ hl fun j y v h1 h2=>ih j y v h1 h2 (wM KT h1)
 | ba l vs hl h ih=>exact .ba _ _ hl fun j y v h1 h2=>ih j y v h1 h2 (wM KT h1)
 | fn f dH vs hl h ih=>exact .fn _ _ _ hl fun j y v h1 h2=>ih j y v h1 h2 (wM KT h1)
theorem qJ{α:Type}:∀ (l m:List (Nat × α)) (d),aj (l++m) d=match aj l d with|some x=>some x|none=>aj m d
 | [],m,d=>rfl
 | (k,x)::l,m,d=>by
  rw [kW,cm,cm,qJ l m d];split<;>rfl
theorem QK{α β:Type}{l:List (Nat × α)}:∀ {m:List (Nat × β)} {d:Nat} {x : β},lS l m=true->aj m d=some x->aj l d=none
 | (k,y)::m,d,x,h,hx=>by
  unfold lS at h;simp only [ax,iC] at h;rw [cm] at hx;split at hx
  . rename_i e; subst e; exact h.1
  . exact QK h.2 hx
 | [],_,_,_,hx=>by cases hx
theorem KU{p:Nat->Bool}:∀ {m:List (Nat×AV)} {d:Nat} {x:AV},lR p m=true->aj m d=some x->AV.under p x=true
 | (k,y)::m,d,x,h,hx=>by
  unfold lR at h;simp only [ax] at h;rw [cm] at hx;split at hx
  . cases hx; exact h.1
  . exact KU h.2 hx
 | [],_,_,_,hx=>by cases hx
theorem QL{p:Nat->Bool}:∀ {m:List (Nat×En)} {d:Nat} {e:En},jv p m=true->aj m d=some e->p d=true/\En.under p e=true
 | (k,e')::m,d,e,h,hx=>by
  unfold jv at h;simp only [ax] at h;rw [cm] at hx;split at hx
  . rename_i hk; subst hk; cases hx; exact h.1
  . exact QL h.2 hx
 | [],_,_,_,hx=>by cases hx
theorem ZX(ag fr)(t)(x)(n):AV.under n (eo ag fr t x)=true:=by
 unfold eo;have h:=KS fr t x n
 cases ag with
 | true=>exact h
 | false =>
  simp only [dV,dw]
  cases hc:aP fr t x with
  | nil=>rfl
  | cons c l =>
   rw [hc] at h
   cases l with
   | nil=>simpa [AV.mn] using h
   | cons c2 l=>rfl
theorem c9.fixed{k:Nat}(h:c9 w ρ base ro k e)(hk:p k=true)(hx:En.under p e=true)(hρ:∀ l r,ρ l=some r->p l=true -> ρ' l=some r):c9 w ρ' base ro k e:=by
 cases e with
 | box T cells =>
  obtain⟨b,cs,h1,h4,h5⟩:=h;exact⟨b,cs,hρ _ _ h1 hk,h4,h5.1,fun j x v q1 q2=>(h5.2 j x v q1 q2).yG (wM hx q1) hρ⟩
 | row fr t T m =>
  obtain⟨A,c,css,h1,h2,h3,h5⟩:=h;exact⟨A,c,css,hρ _ _ h1 hk,h2,h3,fun k cs j x v k1 k2 k3=>(h5 k cs j x v k1 k2 k3).yG (wM (KS _ _ _ _) k2) hρ⟩
 | map fr ag c t T m =>
  obtain⟨b,es,clock,h1,h2,h3,h4⟩:=h;exact⟨b,es,clock,hρ _ _ h1 hk,h2,h3,h4.rQ fun x v hx=>hx.yG (ZX _ _ _ _ _) hρ⟩
 | iter ml c seen left =>
  obtain⟨b,b2,es,clock,since,stamps,c0,h1,h2,h3⟩:=h;exact⟨b,b2,es,clock,since,stamps,c0,hρ _ _ h1 hk,hρ _ _ h2 hx,h3⟩
 | bo ml c key =>
  obtain⟨b,es,clock,s,e,h1,h2,h3⟩:=h;exact⟨b,es,clock,s,e,hρ _ _ h1 hk,hρ _ _ h2 hx,h3⟩
 | ft k=>exact hρ _ _ h hk
 | dead=>obtain⟨r,h⟩:=h; exact⟨r,hρ _ _ h hk⟩
end
section
variable{P:Program}{w w0:World}{ρ:Nat->Option Rl}{base:Nat}{ro:Nat->Prop}{S0:Pm}{Φ : Pm->Prop}{N:Nat}{B:Bs}{S:Sx}{a:Act}
theorem QM:∀ {css:List (List Value)} {j:Nat} {v:Value},(∀ cs∈css,cs.length=1)->css.flatten[j]? = some v->css[j]? = some [v]
 | [],j,v,_,h=>by simp at h
 | cs::css,j,v,hl,h=>by
  obtain⟨u,rfl⟩:=NO.1 (hl cs (.head _))
  cases j with
  | zero=>simpa using h
  | succ j=>exact QM (css:=css) (fun c hc=>hl c (NR _ hc)) (by simpa using h)
theorem ZY{dT sT ty e g B0 c2 t:Nat}{X:Option Addr}{cur:Array Value}(hu:P.underlying dT=some (.slice e))(hs:(P.info? e).map (·.size)=some 1)(hg:w.heap[g]? = some (.cells cur t (0,0)))(hr:Rd w B0 1 X news)(h1:∀ cs∈news,∀ u∈cs,u.oneCell'=true)(l8:off+n<=cur.size) :
 ∃ k w',(Builtin.copy_ #[dT,sT] ty #[.slice (some ⟨g,off,none⟩) n c,.slice X news.length c2]).run P w = .ok (goInt k) w'/\w'.heap[g]? = some (.cells (cur.toList.take off++(news.take n).flatten++cur.toList.drop (off+(news.take n).flatten.length)).toArray t (0,0))/\w.grownBy w' (some g):=by
 have pS:∀ cs∈news.take n,cs.length=1:=fun cs hc=>hr.len cs (sR hc);have hlen:(news.take n).flatten.length=Nat.min news.length n:=by
  rw [pw _ pS,cL,mS];exact Nat.min_comm _ _
 by_cases h0:(news.take n).flatten.length=0
 . refine⟨_,w,run_copy_none (P:=P) w dT sT ty e _ _ _ _ _ _ hu hs (by rw [<- hlen]; exact h0),?_,rfl,rfl,rfl,aA _,fun _ _ _=>rfl⟩;rw [vJ h0,hg];simp
 . obtain⟨v0,lT⟩:∃ v,(news.take n).flatten[0]? = some v:=⟨_,bc oo⟩
   have uR:=QM pS lT;rw [eh] at uR;split at uR
   case isFalse=>cases uR
   obtain⟨b,o,rfl,_,_,_⟩:=hr _ _ uR;refine⟨_,_,run_copy_row (P:=P) w dT sT ty e g off n c ⟨b,o,none⟩ news.length c2 cur t (news.take n).flatten hu hs hg hlen (fun j v hj => ?_) (by rw [hlen]; exact dQ (aje (Nat.min_le_right _ _) _) l8) (fun v hv => ?_),Oc w g _ _ t _ hg,Qp _ _ _⟩
   . have h2:=QM pS hj;rw [eh] at h2;split at h2
     case isFalse=>cases h2
     obtain⟨b',o',h3,_,_,h4⟩:=hr _ _ h2;injection h3 with h3;injection h3 with h3 h5;subst h3; subst h5;have:=h4 0 v rfl;rw [sW];simpa using this
   . obtain⟨cs,hc,hv⟩:=ajr.1 hv;exact h1 cs (sR hc) v hv
theorem QN{w':World}(v)(h:(Builtin.copy_ #[T,T2] ty #[a.eval s,a.eval x]).run P w = .ok v w'):(execOp a.eval ⟨some d,.call { callee := .builtin .copy,args := #[s,x],argTypes := #[T,T2] },ty,pos,aft,gd⟩).run P w = .ok (.value v) w':=by
 exact ZB
theorem af.int_eq{k:IntKind}{f:Unit->Int}{n:Int}(h:f ()=n):af w ρ base ro (.int k f) (.int k n):=by subst h; exact .int _ _
def Ay(news:List (List Value)):Nat->List Value->List Value
 | _,[] => []
 | k,o::r=>(match news[k]? with|some cs=>cs.headD o|none=>o)::Ay news (k+1) r
theorem QO{news:List (List Value)}(h:∀ cs∈news,cs.length=1):∀ (os) (k),Ay news k os=((news.drop k).take os.length).flatten++os.drop (news.length - k)
 | [],k=>by simp [Ay]
 | o::r,k=>by
  have ih:=QO h r (k+1);unfold Ay;rw [ih]
  cases hk:news[k]? with
  | none =>
   have:=ai9.1 hk;rw [BV (show news.length<=k from oo),BV (show news.length<=k+1 from oo),show news.length - k=0 from oo,show news.length - (k+1)=0 from oo];simp
  | some cs =>
   obtain⟨ah,he⟩:=cF.1 hk;obtain⟨u,rfl⟩:=NO.1 (h cs (eY hk));rw [sP ah,he,show news.length - k=news.length - (k+1)+1 from oo];simp
theorem ZZ{t:Tc}{l:Unit->List t.el}{news:List (List Value)}(oN:news.length=(l ()).length)(h1:∀ cs∈news,cs.length=1)(hc:∀ (k) (cs) (j:Nat) (y) (u),news[k]? = some cs->(aP false t fun _=>(l ()).getD k t.aa)[j]? = some y->cs[j]? = some u->af w ρ base ro y u) :
 ∀ {os:List AV} {vs:List Value} {k:Nat} {r:List AV},J6 t l k os=some r->aV w ρ base ro os vs->aV w ρ base ro r (Ay news k vs)
 | [],vs,k,r,h,hE=>by
  cases h;rw [hE.none];exact .nil
 | x::os,vs,k,r,h,hE=>by
  obtain⟨v,us,rfl,hx,hE⟩:=hE.head;unfold J6 at h;split at h
  case h_2=>cases h
  rename_i kk z k' o r' hz ho kz;split at h
  case isFalse=>cases h
  rename_i jJ;subst jJ;cases h;unfold Ay;refine .cons ?_ (ZZ oN h1 hc kz hE);have hv:=jk ho hx
  cases hk:news[k]? with
  | none =>
   have:=ai9.1 hk;rw [hv];exact .int_eq (by simp only [jW (show ¬ k<(l ()).length from oo),gj])
  | some cs =>
   have ah:=(cF.1 hk).1;obtain⟨u,rfl⟩:=NO.1 (h1 cs (eY hk));have h2:=hc k [u] 0 (.int kk z) u hk (by rw [hz]; rfl) rfl;show af w ρ base ro (.int kk _) u
   rw [h2.iw];exact .int_eq (by simp only [dP (show k<(l ()).length from oo),eG])
theorem EI.one{t e:Nat}(h:EI P t e 1 b):(P.info? e).map (·.size)=some 1:=by
 obtain⟨_,i,z,h1,_,h2,_⟩:=h;rw [h1,du,h2]
theorem Z0{us:List Value}(h:∀ cs∈css,cs.length=1)(l8:off+n<=us.length):us.take off++(css.take n).flatten++us.drop (off+(css.take n).flatten.length)=us.take off++Ay css 0 ((us.drop off).take n)++us.drop (off+n):=by
 have h1:(css.take n).flatten.length=min n css.length:=by rw [pw _ (fun cs hc=>h cs (sR hc)),cL,mS]
 have h2:((us.drop off).take n).length=n:=by rw [cL,iD]; omega
 rw [QO h,h1,h2,zA,rC,fR,fR,fR];congr 2;have e:us.drop off=(us.drop off).take n++us.drop (off+n):=by rw [<- uo,jB]
 by_cases hc:css.length<=n
 . rw [Nat.min_eq_right hc,<- uo]
   conv=>lhs; rw [e]
   exact ai4 oo
 . rw [xA oo,BV (show ((us.drop off).take n).length<=css.length from oo)];rfl
theorem Z1:∀ (css:List (List Value)) (k),(∀ cs∈css,cs.length=1)->css.flatten.drop k=(css.drop k).flatten
 | [],k,_=>by simp
 | cs::css,0,_=>rfl
 | cs::css,k+1,h=>by
  obtain⟨u,rfl⟩:=NO.1 (h cs (WC ..));simpa using Z1 css k fun c hc=>h c (NR _ hc)
theorem amL(aE:cT P C.ty)(H:aS w0 Φ N B S a w)(h:PS C N B S T d (bM B S s) (bM B S x)=some (S',vcs)) :
 gK P ⟨some d,.call { callee := .builtin .copy,args := #[s,x],argTypes := #[T,T2] },ty,pos,aft,gd⟩ a w (aS w0 Φ N B S'):=by
 obtain⟨S0,hS,ρ,ro,H⟩:=H;unfold PS at h;split at h
 . rename_i e bb loc off n hT hs;obtain⟨i,_,hi,ky⟩:=eI aE hT;obtain⟨hE,_⟩:=Aq ky hi;split at h
   case h_2=>cases h
   rename_i T' cells fr t l he hx;split at h
   case isFalse=>cases h
   rename_i hc;simp only [ax,cb,aL,iC] at hc;obtain⟨⟨hB,l8⟩,aO⟩:=hc;split at h
   case h_2=>cases h
   rename_i cs hm;obtain⟨S1,hp,h⟩:=kS.1 h;cases h;have uS:=H.get s;rw [hs] at uS;obtain⟨b,hb,oL⟩:=uS.akV;obtain⟨b',us,aW,hh,FQ⟩:=H.en _ _ he;rw [hb] at aW;injection aW with aW;injection aW with aW;subst aW;have Z2:=H.get x;rw [hx] at Z2;obtain⟨A,c,css,hl,OG,hr,bt,cP,dt,mu⟩:=Z2.uK.pE;rw [aO] at hr;have wN:=hr.len;obtain⟨k,w',cC,C3,gr⟩:=ZY (P:=P) (ty:=ty) (sT:=T2) (c:=n) (c2:=c) hE.1 hE.one hh hr (FH (f:=false) (m:=l) (by rw [aO]; exact hr) dt) (by rw [xz,<- FQ.1]; exact l8);have oT:=QN (aft:=aft) (gd:=gd) (pos:=pos) (d:=d) (T2:=T2) (s:=s) (x:=x) (a:=a) _ (by rw [oL,mu,<- hl]; exact cC);rw [Z0 wN (by rw [<- FQ.1]; exact l8)] at C3;have mj:loc<S.n:=by
    exact Zt
   have Ar:¬ ro b:=(H.own loc _ b hb rfl).2.1;have hw:∀ q,ro q->q<w.heap.size->w'.heap[q]? = w.heap[q]? := fun q hq ah=>gr.block q ah fun hc=>by injection hc with hc; exact Ar (hc▸hq)
   have H2:=H.oP (w':=w') (loc:=loc) (n:=S.n) (r := .box b) (e := .box T' (cells.take off++cs++cells.drop (off+n))) (H.from_.grown gr (H.Ap hb rfl)) gr.size (fun q hq aT=>gr.block q hq fun hc=>aT _ hb hc.symm) (fun q hq => .inl ⟨_,hb,hq⟩) hB (aA _) mj (.inl Qq) (.inl fun q hq=>by rw [hb] at hq; cases hq) (by
    refine⟨b,_,iJ _ _ _,C3,?_⟩;rw [tn hb];exact (((FQ.take off).append (ZZ hl wN dt hm ((FQ.drop off).take n))).append (FQ.drop (off+n))).mono hw (Ext.refl _) (aA _) fun _ h=>h)
   exact QP
 . rename_i e bb loc hT hs;obtain⟨i,_,hi,ky⟩:=eI aE hT;obtain⟨hE,_⟩:=Aq ky hi;split at h
   case h_2=>cases h
   rename_i fr t e' l he;split at h
   case isFalse=>cases h
   rename_i hc;simp only [ax,cb,iC] at hc;obtain⟨⟨rfl,aO⟩,hB⟩:=hc;split at h
   case h_2=>cases h
   rename_i f m hn;split at h
   case isFalse=>cases h
   rename_i Cu;obtain⟨S1,hp,h⟩:=kS.1 h;cases h;obtain⟨A,c,css,hA,bw,hlen,dt⟩:=H.en _ _ he;have uS:=H.get s;rw [hs] at uS;obtain⟨A',n',c',bG,oL⟩:=uS.tf;rw [hA] at bG;injection bG with bG;injection bG with e1 e2 e3;subst e1; subst e2; subst e3;obtain⟨X,cn,news,hx,oN,hr,lP⟩:=Qs H hn (H.get x);rw [aO] at bw hr;have wN:=hr.len;have mj:loc<S.n:=by
    exact Qt
   have Qo:(f&&fr)=fr:=by cases f<;>cases fr<;>simp_all
   have Z3:∀ (k:Nat) (cs:List Value) (j:Nat) (y:AV) (u:Value),(news.take css.length++css.drop news.length)[k]? = some cs->(aP fr t fun _=>((m ()).take (l ()).length++(l ()).drop (m ()).length).getD k t.aa)[j]? = some y->cs[j]? = some u->af w ρ w0.heap.size ro y u:=by
    have h1:=Zz (w:=w) (ρ := ρ) (base:=w0.heap.size) (ro:=ro) (f:=f) (g:=fr) (t:=t) (l:=(m ()).take (l ()).length) (m:=(l ()).drop (m ()).length) (css:=news.take css.length) (news:=css.drop news.length) (by rw [cL,cL,oN,hlen]) (fun cs hc=>by
     rw [aO];rcases iU.1 hc with h|h
     . exact wN cs (sR h)
     . exact bw.2 cs (IE h)) (fun k cs j y u q1 q2 q3=>by
     rw [eh] at q1;split at q1
     case isFalse=>cases q1
     rename_i hk;rw [show ((m ()).take (l ()).length).getD k t.aa=(m ()).getD k t.aa by rw [aX,aX,eh,aC oo]] at q2;exact lP k cs j y u q1 q2 q3) (fun k cs j y u q1 q2 q3=>by
     rw [lG] at q1;rw [show ((l ()).drop (m ()).length).getD k t.aa=(l ()).getD (news.length+k) t.aa by rw [aX,aX,lG,oN]] at q2;exact dt _ cs j y u q1 q2 q3)
    rw [Qo] at h1;exact h1
   rcases bw.block with ⟨rfl,rfl,rfl⟩|⟨g,azH,rfl,_,_,_⟩
   . have mW:(l ()).length=0:=hlen.symm;have oT:=QN (P:=P) (w:=w) (aft:=aft) (gd:=gd) (pos:=pos) (ty:=ty) (d:=d) (T:=T) (T2:=T2) (s:=s) (x:=x) (a:=a) _ (by rw [oL,hx]; exact run_copy_none (P:=P) w T T2 ty e' none X (l ()).length 0 (m ()).length cn hE.1 hE.one (by rw [mW]; exact Nat.min_zero _));have H2:=H.oP (w':=w) (loc:=loc) (n:=S.n) (r := .row none (l ()).length 0) (e := .row fr t e' fun _=>(m ()).take (l ()).length++(l ()).drop (m ()).length) H.from_ (aA _) (fun q hq aT=>rfl) (fun q hq => .inl ⟨_,hA,hq⟩) hB (aA _) mj (.inl QQ) (.inl fun q hq=>by rw [hA] at hq; cases hq) (by
      have hz:((m ()).take (l ()).length++(l ()).drop (m ()).length).length=(l ()).length:=by rw [dp,cL,iD]; omega
      refine⟨none,0,[],by rw [hz]; exact iJ _ _ _,by rw [aO]; exact bw,by rw [hz]; exact hlen,fun k cs j y u q1=>by cases q1⟩)
     exact QP
   . obtain⟨nI,h0⟩|⟨g',cap,cur,heq,gS,hg,QR,pP,aF,rE⟩:=bw.1.2
     . cases nI
     simp only [Value.slice.injEq,bF,Addr.mk.injEq,bn,bu] at heq;obtain⟨rfl,rfl⟩:=heq;rw [mS] at aF rE;have cz:cur.toList.length=cur.size:=ajg;obtain⟨k,w',cC,C3,gr⟩:=ZY (P:=P) (ty:=ty) (sT:=T2) (off:=0) (n:=css.length) (c:=c) (c2:=cn) hE.1 hE.one hg hr (FH (by rw [aO]; exact hr) lP) oo;have oT:=QN (aft:=aft) (gd:=gd) (pos:=pos) (d:=d) (T2:=T2) (s:=s) (x:=x) (a:=a) _ (by rw [oL,hx,<- oN,<- hlen]; exact cC);rw [Z0 wN oo,zA,rE,gC,Er,pt,QO wN,pw css bw.2,mS,zA,rC,Z1 css _ bw.2,<- NW] at C3;generalize KV:news.take css.length++css.drop news.length=Cr at C3 Z3;have cg:Cr.length=css.length:=by rw [<- KV,dp,cL,iD]; omega
     have pQ:∀ cs∈Cr,cs.length=1:=fun cs hc=>by
      rw [<- KV] at hc;rcases iU.1 hc with h|h
      . exact wN cs (sR h)
      . exact bw.2 cs (IE h)
     have oH:=pw Cr pQ;have Ar:¬ ro g:=(H.own loc _ g hA rfl).2.1;have hw:∀ q,ro q->q<w.heap.size->w'.heap[q]? = w.heap[q]? := fun q hq ah=>gr.block q ah fun hc=>by injection hc with hc; exact Ar (hc▸hq)
     have FM:cw w' (rb fr w0.heap.size) e' 1 (some ⟨g,0,none⟩) c Cr:=by
      refine⟨⟨oH,.inr ⟨g,c,_,rfl,gS,C3,by rw [cg]; exact QR,pP,?_,?_⟩⟩,pQ⟩
      . rw [xz,dp,oH,cg,iD]; omega
      . rw [mS];exact WK (by rw [oH,mS])
     have hz:((m ()).take (l ()).length++(l ()).drop (m ()).length).length=(l ()).length:=by rw [dp,cL,iD]; omega
     have H2:=H.oP (w':=w') (loc:=loc) (n:=S.n) (r := .row (some ⟨g,0,none⟩) (l ()).length c) (e := .row fr t e' fun _=>(m ()).take (l ()).length++(l ()).drop (m ()).length) (H.from_.grown gr (H.Ap hA rfl)) gr.size (fun q hq aT=>gr.block q hq fun hc=>aT _ hA hc.symm) (fun q hq => .inl ⟨_,hA,hq⟩) hB (aA _) mj (.inl QQ) (.inl fun q hq=>by rw [hA] at hq; cases hq) (by
      refine⟨some ⟨g,0,none⟩,c,Cr,by rw [hz]; exact iJ _ _ _,by rw [aO]; exact FM,by rw [hz,cg,hlen],fun k cs j y u q1 q2 q3 => ?_⟩;rw [tn hA];exact (Z3 k cs j y u q1 q2 q3).mono hw (Ext.refl _) (aA _) fun _ h=>h)
     exact QP
 . cases h
end
end Go.Proofs.YtamjbkaclhgffaaGreat
