/-
  The abstract run: calls of functions that change places are sound: the state behind them.
-/
import Derived.Test.YtlpikgchnjajmaaGreatTp9
set_option linter.all false
namespace Go.Proofs.YtlpikgchnjajmaaGreat
open Go.RowKit
variable{aft:Array Edge}{f fr' fx:Bool}{C:Cx}{e:En}{k0 kk:IntKind}{css news:List (List Value)}{m vcs:List VC}{T T2 b c d l loc n off sz:Nat}{cc s x:Operand}{gd:Option (Nat×Bool)}{pos:String}{S':Sx}{t:Tc}{ty:TypeId}{k:Unit->Int}{v z:Value}
section
variable{P:Program}{w w' w0:World}{ρ ρ' ρ1:Nat->Option Rl}{base kc:Nat}{ro ro' eV:Nat->Prop}{S0:Pm}{Φ : Pm->Prop}{N:Nat}{B:Bs}{S:Sx}{a:Act}{v:Value}
theorem c7.more(h:c7 w ρ base ro l e)(hb:kc<=base)(bB:∀ b,ro b->ro' b):c7 w ρ kc ro' l e:=by
 have er:∀ {x v},ah w ρ base ro x v->ah w ρ kc ro' x v:=fun h=>h.mono (fun _ _ _=>rfl) (Ext.refl _) hb bB
 cases e with
 | box T cells =>
  obtain⟨b,cs,h1,h4,h5⟩:=h;exact⟨b,cs,h1,h4,h5.1,fun j x v hx hv=>er (h5.2 j x v hx hv)⟩
 | row fr t T m =>
  obtain⟨A,c,css,h1,h2,h3,h5⟩:=h;exact⟨A,c,css,h1,h2.Bv (ai5 fr hb),h3,fun k cs j x v k1 k2 k3=>er (h5 k cs j x v k1 k2 k3)⟩
 | map fr ag c t T m =>
  obtain⟨b,es,clock,h1,h2,h3,h4⟩:=h;exact⟨b,es,clock,h1,h2,h3,h4.rQ fun x v hx=>er hx⟩
 | iter ml c seen left=>exact h
 | bq ml c key=>exact h
 | fh k=>exact h
 | dead=>exact h
structure Clean (B:Bs) (S:Sx) (loc:Nat):Prop where
 t:∀ d x,dH B S d=some x->AV.has loc x=false
 b:∀ l T cs,bc B S l=some (.box T cs)->AV.lu loc cs=false
 r:∀ l e,bc B S l=some e->oX loc e=false
theorem akJ{x:AV}(h:dH B (kill l S) d=some x):dH B S d=some x\/x = .un:=by
 unfold dH kill at h;rw [EE] at h;unfold dH
 cases hd:ak S.t d with
 | none=>rw [hd] at h; exact .inl h
 | some y =>
  rw [hd] at h;simp only [dv,bI] at h;split at h
  . exact .inr h.symm
  . exact .inl (by rw [h])
theorem YF{k:Nat}(h:bc B (kill l S) k=some e):∃ e0,bc B S k=some e0/\(e=e0\/e=OZ l e0):=by
 unfold bc kill at h;rw [EF] at h;unfold bc
 cases hd:ak S.e k with
 | none=>rw [hd] at h; exact⟨e,h,.inl rfl⟩
 | some y =>
  rw [hd] at h;simp only [dv,bI] at h;exact⟨y,rfl,.inr h.symm⟩
theorem J4{k:Nat}(h:bc B ⟨S.t,lA l S.e,S.n⟩ k=some e):∃ e0,bc B S k=some e0/\(e=e0\/e = .dead):=by
 unfold bc at h;simp only [Jl] at h;unfold bc
 cases hd:ak S.e k with
 | none=>rw [hd] at h; exact⟨e,h,.inl rfl⟩
 | some y =>
  rw [hd] at h;simp only [dv,bI] at h;refine⟨y,rfl,?_⟩;split at h
  . exact .inr h.symm
  . exact .inl h.symm
theorem akK{cs:List AV}(h:AV.lu loc cs=false):AV.lu loc (wk l cs)=false:=by
 refine O2 fun j x hx => ?_;rw [Jk] at hx
 cases hj:cs[j]? with
 | none=>rw [hj] at hx; cases hx
 | some y =>
  rw [hj] at hx;simp only [dv,bI] at hx;subst hx;split
  . rfl
  . exact mv h hj
theorem Clean.akL(h:Clean B S loc)(l):Clean B (kill l S) loc:=by
 refine⟨fun d x hx => ?_,fun k T cs he => ?_,fun k e he => ?_⟩
 . rcases akJ hx with h1|rfl
   . exact h.t d x h1
   . rfl
 . obtain⟨e0,h1,h2|h2⟩:=YF he
   . subst h2; exact h.b k T cs h1
   . cases e0 with
     | box T' cs'=>cases h2; exact akK (h.b k _ cs' h1)
     | row fr t T m=>cases h2
     | map fr ag c t T m=>cases h2
     | iter ml c seen left=>cases h2
     | bq ml c key=>cases h2
     | fh k=>cases h2
     | dead=>cases h2
 . obtain⟨e0,h1,h2|h2⟩:=YF he
   . subst h2; exact h.r k _ h1
   . have:=h.r k e0 h1;rw [h2];cases e0<;>exact this
theorem Clean.akM(h:Clean B S loc)(l):Clean B ⟨S.t,lA l S.e,S.n⟩ loc:=by
 refine⟨h.t,fun k T cs he => ?_,fun k e he => ?_⟩
 . obtain⟨e0,h1,h2|h2⟩:=J4 he
   . subst h2; exact h.b k T cs h1
   . cases h2
 . obtain⟨e0,h1,h2|h2⟩:=J4 he
   . subst h2; exact h.r k _ h1
   . subst h2; rfl
theorem YG:∀ {ls:List Nat} {S:Sx},uC B ls=true->bh w0 S0 N B S a w ρ ro->bh w0 S0 N B (B7 ls S) a w ρ ro/\(∀ l∈ls,Clean B (B7 ls S) l)/\(B7 ls S).n=S.n/\∀ l,Clean B S l->Clean B (B7 ls S) l
 | [],S,_,H=>⟨H,(fun _ h=>by cases h),rfl,fun _ h=>h⟩
 | l::ls,S,h,H=>by
  unfold uC at h;simp only [au] at h;obtain⟨⟨⟨_,hq⟩,hr⟩,J5⟩:=h;have H1:=H.XQ l;obtain⟨H2,wK⟩:=H1.dropped (loc:=l) hr;have hc:Clean B ⟨(kill l S).t,lA l (kill l S).e,(kill l S).n⟩ l:=by
   have hk:=XR (S:=S) hq;refine⟨hk.1,fun k T cs he => ?_,wK⟩;obtain⟨e0,h1,h2|h2⟩:=J4 he
   . subst h2; exact hk.2 k T cs h1
   . cases h2
  obtain⟨k1,k2,k3,k4⟩:=YG (ls:=ls) J5 H2;refine⟨k1,fun l' cp => ?_,k3,fun l' cp=>k4 l' ((cp.akL l).akM l)⟩;rcases fZ.1 cp with rfl|cp
  . exact k4 _ hc
  . exact k2 l' cp
theorem YH:∀ {ls:List Nat} {S:Sx},uC B ls=true->bh w0 S0 N B S a w ρ ro->bh w0 S0 N B (B8 ls S) a w ρ ro/\(∀ l∈ls,∀ k e,bc B (B8 ls S) k=some e->oX l e=false)/\(B8 ls S).n=S.n/\∀ l,(∀ k e,bc B S k=some e->oX l e=false)->∀ k e,bc B (B8 ls S) k=some e->oX l e=false
 | [],S,_,H=>⟨H,(fun _ h=>by cases h),rfl,fun _ h=>h⟩
 | l::ls,S,h,H=>by
  unfold uC at h;simp only [au] at h;obtain⟨⟨⟨_,hq⟩,hr⟩,J5⟩:=h;obtain⟨H2,wK⟩:=H.dropped (loc:=l) hr;obtain⟨k1,k2,k3,k4⟩:=YH (ls:=ls) J5 H2;refine⟨k1,fun l' cp => ?_,k3,fun l' cp=>k4 l' fun k e he => ?_⟩
  . rcases fZ.1 cp with rfl|cp
    . exact k4 _ wK
    . exact k2 l' cp
  . obtain⟨e0,h1,h2|h2⟩:=J4 he
    . subst h2; exact cp k _ h1
    . subst h2; rfl
theorem akN{ls:List Nat}(hf:uC B ls=true)(H:bh w0 S0 N B S a w ρ ro):bh w0 S0 N B (forget fx ls S) a w ρ ro/\(∀ l∈ls,∀ k e,bc B (forget fx ls S) k=some e->oX l e=false)/\(fx=false->∀ l∈ls,Clean B (forget fx ls S) l):=by
 unfold forget
 cases fx with
 | true =>
  obtain⟨k1,k2,_,_⟩:=YH (S:=S) hf H;exact⟨k1,k2,fun h=>by cases h⟩
 | false =>
  obtain⟨k1,k2,_,_⟩:=YG (S:=S) hf H;exact⟨k1,fun l hl=>(k2 l hl).r,fun _=>k2⟩
theorem P2{g:Nat->Nat}{l:Nat}{e:En}:∀ {es:List (Nat×En)},ak (kA g es) l=some e->∃ k e0,g k=l/\e=En.fU g e0/\ak es k=some e0
 | (k0,e0)::es,h=>by
  unfold kA at h;rw [cu] at h;split at h
  . rename_i hk;cases h;exact⟨k0,e0,hk,rfl,by rw [cu,aw rfl]⟩
  . rename_i hk;obtain⟨k,e1,h1,h2,h3⟩:=P2 h;exact⟨k,e1,h1,h2,by rw [cu,ar (by rintro rfl; exact hk h1)]; exact h3⟩
 | [],h=>by cases h
theorem YI{g:Nat->Nat}{k:Nat}:∀ {es:List (Nat×En)},bF k (dI es)=true->∃ e,ak (kA g es) (g k)=some e
 | (k0,e0)::es,h=>by
  unfold kA;rw [cu];split
  . exact⟨_,rfl⟩
  . rename_i hk;simp only [dI,bF,gz,b9] at h;rcases h with rfl|h
    . exact absurd rfl hk
    . exact YI h
 | [],h=>by cases h
theorem YJ{α:Type}{k:Nat}{x : α}:∀ {l:List (Nat × α)},ak l k=some x->bF k (dI l)=true
 | (j,y)::l,h=>by
  rw [cu] at h;simp only [dI,bF,gz,b9];split at h
  . rename_i e; exact .inl e
  . exact .inr (YJ h)
 | [],h=>by cases h
theorem P3:∀ {ks:List Nat} {n k:Nat},bF k ks=true->k<ni n ks
 | j::ks,n,k,h=>by
  simp only [bF,gz,b9] at h;have hle:∀ (l:List Nat) (n:Nat),n<=ni n l:=by
   intro l
   induction l with
   | nil=>intro n; exact az n
   | cons j l ih =>
    intro n;unfold ni;split
    . exact ih n
    . have:=ih (j+1); omega
  unfold ni;split
  . rcases h with rfl|h
    . have:=hle ks n; omega
    . exact P3 h
  . rcases h with rfl|h
    . have:=hle ks (j+1); omega
    . exact P3 h
 | [],_,_,h=>by cases h
theorem YK{ks:List Nat}:∀ {n l:Nat},ye ks n=true->l<n->bF l ks=true
 | n+1,l,h,hl=>by
  simp only [ye,au] at h;rcases cw l n with h1|h1
  . exact YK h.2 h1
  . rw [show l=n from oo]; exact h.1
 | 0,_,_,hl=>oo
theorem YL{g:Nat->Nat}{n k:Nat}:∀ {ks:List Nat},B9 B g n ks=true->bF k ks=true->n<=k->ak B.e (g k)=none
 | j::ks,h,hm,hk=>by
  unfold B9 at h;simp only [au,gz,aI,iF] at h;simp only [bF,gz,b9] at hm;rcases hm with rfl|hm
  . exact h.1.resolve_left oo
  . exact YL h.2 hm hk
 | [],_,h,_=>by cases h
theorem YM{l:Nat}:∀ {ls:List Nat},uC B ls=true->l∈ls->ak B.e l=none
 | j::ls,h,hm=>by
  unfold uC at h;simp only [au,iF] at h;rcases fZ.1 hm with rfl|hm
  . exact h.1.1.1
  . exact YM h.2 hm
 | [],_,h=>by cases h
theorem P4{α:Type}:∀ (l m:List (Nat × α)) (d),ak (l++m) d=match ak l d with|some x=>some x|none=>ak m d
 | [],m,d=>rfl
 | (k,x)::l,m,d=>by
  rw [xu,cu,cu,P4 l m d];split<;>rfl
theorem bh.called(H:bh w0 S0 N B S a w ρ ro){aD:List Nat}{es:List (Nat×En)}(hlen:aD.length=n)(iM:aD.Nodup)(E6:∀ l∈aD,∃ r,ρ l=some r)(Ah:uC B aD=true)(cr:ye (dI es) n=true)(pO:B9 B (iZ aD S.n) n (dI es)=true)(iJ:S0.fx=true->fx=true)(hL:Left w w' (ρL ρ aD) ρ1 ro eV es fx) :
 ∃ ρ',bh w0 S0 N B ⟨(forget fx aD S).t,kA (iZ aD S.n) es++(forget fx aD S).e,S.n+(ni n (dI es) - n)⟩ a w' ρ' (fun b=>ro b\/eV b)/\∀ k r,ρ1 k=some r -> ρ' (iZ aD S.n k)=some r:=by
 obtain⟨H1,YN,cH⟩:=akN (fx:=fx) (S:=S) Ah H;have aj:∀ {l r},ρ l=some r->l<S.n:=fun h=>by
  rcases cw _ S.n with h1|h1
  . exact h1
  . have:=H.fresh _ h1; rw [h] at this; cases this
 have akO:∀ {k l},aD[k]? = some l->l<S.n:=fun h=>by
  obtain⟨r,hr⟩:=E6 _ (gX h);exact aj hr
 classical
 obtain⟨ρ',yg⟩:∃ ρ':Nat->Option Rl,ρ'=fun l=>if h:∃ k:Nat,aD[k]? = some l then ρ1 h.choose else if S.n<=l then ρ1 (n+(l - S.n)) else ρ l:=⟨_,rfl⟩
 have F1:∀ {k l},aD[k]? = some l -> ρ' l = ρ1 k:=by
  intro k l h;have hex:∃ k:Nat,aD[k]? = some l:=⟨k,h⟩
  rw [yg];simp only [dif_pos hex];have h2:=hex.choose_spec;have hk:=(cM.1 h).1;have:hex.choose=k:=(List.getElem?_inj (by exact (cM.1 h2).1) iM).1 (h2.trans h.symm);rw [this]
 have F2:∀ {l},S.n<=l -> ρ' l = ρ1 (n+(l - S.n)):=by
  intro l h;rw [yg];have jl:¬ ∃ k:Nat,aD[k]? = some l:=by
   rintro⟨k,hk⟩
   have:=akO hk;omega
  simp only [dif_neg jl,aw h]
 have F3:∀ {l:Nat},l<S.n->(∀ k:Nat,aD[k]? ≠ some l) -> ρ' l = ρ l:=by
  intro l h h2;rw [yg];have jl:¬ ∃ k:Nat,aD[k]? = some l:=by
   rintro⟨k,hk⟩
   exact h2 k hk
  simp only [dif_neg jl,ar (show ¬ S.n<=l from oo)]
 have G1:∀ {k l:Nat},aD[k]? = some l->iZ aD S.n k=l:=fun h=>by unfold iZ; rw [h]
 have G2:∀ {k:Nat},n<=k->iZ aD S.n k=S.n+(k - n):=fun h=>by unfold iZ; rw [sA oo,hlen]
 have F4:∀ k,ρ' (iZ aD S.n k) = ρ1 k:=by
  intro k;rcases cw k n with h|h
  . have hk:aD[k]? = some (aD[k]'oo):=bp _;rw [G1 hk];exact F1 hk
  . rw [G2 h,F2 oo];congr 1;omega
 have back:∀ {l:Nat} {r:Rl},ρ' l=some r->(∃ k:Nat,l=iZ aD S.n k /\ ρ1 k=some r)\/(ρ l=some r/\l<S.n/\∀ k:Nat,aD[k]? ≠ some l):=by
  intro l r h;by_cases hex:∃ k:Nat,aD[k]? = some l
  . obtain⟨k,hk⟩:=hex;exact .inl ⟨k,(G1 hk).symm,(F1 hk).symm.trans h⟩
  . rcases cw l S.n with h1|h1
    . have h2:∀ k:Nat,aD[k]? ≠ some l:=fun k hk=>hex ⟨k,hk⟩;exact .inr ⟨(F3 h1 h2).symm.trans h,h1,h2⟩
    . refine .inl ⟨n+(l - S.n),?_,(F2 h1).symm.trans h⟩;rw [G2 oo];omega
 have axu:∀ {k:Nat} {r:Rl} {b:Nat},ρL ρ aD k=some r->r.ca=some b->∃ l:Nat,aD[k]? = some l /\ ρ l=some r:=fun h _ => uH h;have Cp:∀ {l:Nat} {r:Rl} {b:Nat},ρ l=some r->r.ca=some b->(∀ k:Nat,aD[k]? ≠ some l)->w'.heap[b]? = w.heap[b]? := by
  intro l r b h1 h2 h3;refine hL.from_.block b (H.own l r b h1 h2).1 fun k r' hk hb => ?_;obtain⟨l',cp,l4⟩ := uH hk;exact H.apart l l' r r' b (fun e=>h3 k (e▸cp)) h1 l4 h2 hb
 have bB:∀ b,ro b->b<w.heap.size->w'.heap[b]? = w.heap[b]? := by
  intro b hb aj;refine hL.from_.block b aj fun k r' hk aW => ?_;obtain⟨l',cp,l4⟩ := uH hk;exact (H.own l' r' b l4 aW).2.1 hb
 have sY:∀ {l:Nat} {r:Rl},ρ l=some r->((¬ ∃ k:Nat,aD[k]? = some l)\/(r.dC||fx)=true) -> ρ' l=some r:=by
  intro l r h1 h2;by_cases hex:∃ k:Nat,aD[k]? = some l
  . obtain⟨k,hk⟩:=hex;rw [F1 hk];exact hL.dC k r (by rw [wI hk]; exact h1) (h2.resolve_left fun h=>h ⟨k,hk⟩)
  . rw [F3 (aj h1) fun k hk=>hex ⟨k,hk⟩];exact h1
 have er:∀ {x v},ah w ρ w0.heap.size ro x v->(fx=false->∀ l∈aD,AV.has l x=false)->ah w' ρ' w0.heap.size (fun b=>ro b\/eV b) x v:=fun h hx=>(h.Co (q:=fun l=>fx=false/\∃ k:Nat,aD[k]? = some l) (fun l hq=>by obtain⟨hf,k,hk⟩:=hq; exact hx hf l (gX hk)) fun l r h1 h2=>sY h1 (by
  cases hf:fx with
  | true=>exact .inr (by simp)
  | false=>exact h2.imp (fun h q=>h ⟨hf,q⟩) fun h=>by simp [h])).mono bB (Ext.refl _) (az _) fun b hb => .inl hb
 have ir:w0.heap.size<=w.heap.size:=H.from_.size;have akP:∀ {l:Nat} {e:En},ak (kA (iZ aD S.n) es) l=none->bc B (forget fx aD S) l=some e->∀ k:Nat,aD[k]? ≠ some l:=by
  intro l e h1 _ k hk;have cT:k<n:=by have:=(cM.1 hk).1; omega
  obtain⟨e',mI⟩:=YI (g:=iZ aD S.n) (YK cr cT);rw [G1 hk,h1] at mI;cases mI
 refine⟨ρ',⟨?_,H.size,H.defers,fun b hb => ?_,fun d x hx => ?_,fun l e he => ?_,fun l l' r r' b aT h1 h2 h3 h4 => ?_,fun l hl => ?_,fun l r b h1 h2 => ?_,fun b hb => ?_,fun l r h1 h2=>sY (H.dC l r h1 h2) (.inr (by
  cases hs:r.dC with
  | true=>rfl
  | false=>rw [hs] at h2; exact iJ h2)),fun d x hx=>H1.jL d x hx,fun l e he => ?_,H.fm⟩,fun k r h=>by rw [F4]; exact h⟩
 . refine⟨hL.from_.os.trans H.from_.os,hL.from_.tape.trans H.from_.tape,hL.from_.output.trans H.from_.output,e8 ir hL.from_.size,fun k hk J6 hx => ?_,S0.yd _ _ H.from_.inv hL.from_.os hL.from_.tape hL.from_.output hL.from_.size fun b hb=>hL.from_.block b (S0.oa _ _ H.from_.inv hb) fun i r hi hr=>by obtain⟨l,_,P5⟩ := uH hi; exact (H.own l r b P5 hr).2.2.2 hb⟩;refine (hL.from_.block k oo fun i r hi hr => ?_).trans (H.from_.block k hk J6 hx);obtain⟨l,hl,P5⟩ := uH hi;rcases (H.own l r k P5 hr).2.2.1 with h|⟨r0,h,h'⟩
   . omega
   . exact J6 l r0 h h'
 . rcases hb with hb|hb
   . exact iP (H.gn b hb) hL.from_.size
   . exact (hL.rd b hb).1
 . obtain⟨u,h1,h2⟩:=H1.tm d x hx;exact⟨u,h1,er h2 fun hf l hl=>(cH hf l hl).t d x hx⟩
 . unfold bc at he;dsimp only at he;have ja:=P4 (kA (iZ aD S.n) es) (forget fx aD S).e l
   cases hr:ak (kA (iZ aD S.n) es) l with
   | some e1 =>
    rw [ja,hr] at he;simp only [bI] at he;subst he;obtain⟨k,e0,rfl,rfl,h3⟩:=P2 hr;exact ((hL.en k e0 h3).more ir fun b hb => .inr hb).fU fun l r h=>by rw [F4]; exact h
   | none =>
    rw [ja,hr] at he;have mI:bc B (forget fx aD S) l=some e:=he;have E7:=akP hr mI;have h1:=H1.en l e mI;obtain⟨r,J7⟩:=h1.none;have cp : ρ' l = ρ l:=F3 (aj J7) E7
    cases e with
    | box T cs =>
     obtain⟨b,us,k1,k4,k5⟩:=h1;exact⟨b,us,cp.trans k1,(Cp k1 rfl E7).trans k4,k5.1,fun j x v hx hv=>er (k5.2 j x v hx hv) fun hf q hq=>mv ((cH hf q hq).b l T cs mI) hx⟩
    | row fr t T m =>
     obtain⟨A,c,css,k1,k2,k3,k5⟩:=h1;exact⟨A,c,css,cp.trans k1,k2.jA fun ad ha=>Cp k1 (by simp [Rl.ca,ha]) E7,k3,fun k cs j x v q1 q2 q3=>er (k5 k cs j x v q1 q2 q3) fun _ q _=>mv (vZ _ _ _ _) q2⟩
    | map fr ag c t T m =>
     obtain⟨b,iW,clock,k1,k2,k3,k4⟩:=h1;exact⟨b,iW,clock,cp.trans k1,(Cp k1 rfl E7).trans k2,k3,k4.rQ fun x v hx=>er hx fun _ q _=>O3 _ _ _ _ _⟩
    | iter ml c seen left =>
     obtain⟨b,b2,iW,clock,since,stamps,c0,k1,k2,k3,k4,k5⟩:=h1;have lX:∀ k:Nat,aD[k]? ≠ some ml:=fun k hk=>by
      have:=YN ml (gX hk) l _ mI;simp [oX] at this
     exact⟨b,b2,iW,clock,since,stamps,c0,cp.trans k1,(F3 (aj k2) lX).trans k2,(Cp k2 rfl lX).trans k3,(Cp k1 rfl E7).trans k4,k5⟩
    | bq ml c key =>
     obtain⟨b,iW,clock,s,e,k1,k2,k3,k4⟩:=h1;have lX:∀ k:Nat,aD[k]? ≠ some ml:=fun k hk=>by
      have:=YN ml (gX hk) l _ mI;simp [oX] at this
     exact⟨b,iW,clock,s,e,cp.trans k1,(F3 (aj k2) lX).trans k2,(Cp k2 rfl lX).trans k3,k4⟩
    | fh k=>exact cp.trans h1
    | dead=>exact⟨r,cp.trans J7⟩
 . have kg:∀ {l l':Nat} {r r':Rl} {b k:Nat},l=iZ aD S.n k -> ρ1 k=some r -> ρ l'=some r'->(∀ k:Nat,aD[k]? ≠ some l')->r.ca=some b->r'.ca≠some b:=by
    intro l l' r r' b k _ q2 q3 q4 q5 q6;have q7:=(H.own l' r' b q3 q6).1;rcases (hL.own k r b q2 q5).2.2 with q8|⟨r0,q8,q9⟩
    . omega
    . obtain⟨l2,q10,q11⟩ := uH q8;exact H.apart l2 l' r0 r' b (fun e=>q4 k (e▸q10)) q11 q3 q9 q6
   rcases back h1 with ⟨k,q1,q2⟩|⟨q1,q2,q3⟩
   . rcases back h2 with ⟨k',q3,q4⟩|⟨q3,q4,q5⟩
     . exact hL.apart k k' r r' b (fun e=>aT (by rw [q1,q3,e])) q2 q4 h3 h4
     . exact kg q1 q2 q3 q5 h3 h4
   . rcases back h2 with ⟨k',q4,q5⟩|⟨q4,q5,q6⟩
     . exact kg q4 q5 q1 q3 h4 h3
     . exact H.apart l l' r r' b aT q1 q4 h3 h4
 . dsimp only at hl;rw [F2 oo];refine hL.fresh _ ?_
   cases hm:bF (n+(l - S.n)) (dI es) with
   | false=>rfl
   | true =>
    have:=P3 (n:=n) hm;omega
 . rcases back h1 with ⟨k,q1,q2⟩|⟨q1,q2,q3⟩
   . obtain⟨q3,q4,q5⟩:=hL.own k r b q2 h2;rcases q5 with q5|⟨r0,q5,q6⟩
     . refine⟨q3,fun hb => ?_,.inl oo,fun hf=>by have:=S0.oa _ _ H.from_.inv hf; omega⟩;rcases hb with hb|hb
       . have:=H.gn b hb; omega
       . exact q4 hb
     . obtain⟨l2,q7,q8⟩ := uH q5;have q9:=H.own l2 r0 b q8 q6;rw [G1 q7] at q1;subst q1;exact⟨q3,fun hb=>hb.elim q9.2.1 q4,q9.2.2⟩
   . have q4:=H.own l r b q1 h2;exact⟨iP q4.1 hL.from_.size,fun hb=>hb.elim q4.2.1 fun hb=>q4.2.1 ((hL.rd b hb).2 q4.1),q4.2.2⟩
 . rcases hb with hb|hb
   . exact H.eN b hb
   . rcases cw b w.heap.size with h|h
     . exact H.eN b ((hL.rd b hb).2 h)
     . exact⟨fun h2=>oo,fun ho=>by have:=S0.oa _ _ H.from_.inv (S0.yc b ho); omega⟩
 . rw [P4]
   cases hr:ak (kA (iZ aD S.n) es) l with
   | none=>exact H1.jM l e he
   | some e1 =>
    exfalso;obtain⟨k,e0,hk,_,h3⟩:=P2 hr;have hm:=YJ h3;rcases cw k n with h|h
    . have cg:aD[k]? = some (aD[k]'oo):=bp _;rw [G1 cg] at hk;have:=YM Ah (gX cg);rw [hk,he] at this;cases this
    . have:=YL pO hm h;rw [hk,he] at this;cases this
end
section
variable{P:Program}{w w' w0:World}{ρ ρ':Nat->Option Rl}{base:Nat}{ro ro':Nat->Prop}{S0:Pm}{Φ : Pm->Prop}{N:Nat}{B:Bs}{S:Sx}{a:Act}
theorem akS{size:Nat}(hz:z.cells.size=size)(h0:0<size):∀ n,(madeCells z.cells (n*size)).toList=(List.replicate n z.cells.toList).flatten:=by
 intro n;apply vG;intro j;have cr:∀ cs∈List.replicate n z.cells.toList,cs.length=size:=by
  intro cs aC;rw [(ahq.1 aC).2];simpa using hz
 by_cases hj:j<n*size
 . have P6:=Vz j size;have hm:=oL j h0;have hk:j / size<n:=(HH h0).2 hj;have e:j=j / size*size+j % size:=by rw [lN]; exact P6.symm
   have h1:=DR (List.replicate n z.cells.toList) cr (j / size) (j % size) hm;rw [<- e] at h1;rw [h1];rw [ahi,aw hk,DH];simp only [madeCells,hz,Array.toList_map,Array.toList_range,gY,Nf hj,dv];rw [Array.getElem!_eq_getD];have J8:j % size<z.cells.size:=oo
   simp [J8]
 . have h1:(madeCells z.cells (n*size)).toList.length=n*size:=by simp [size_madeCells]
   have h2:(List.replicate n z.cells.toList).flatten.length=n*size:=by rw [pC _ cr,zk]
   rw [sA oo,sA oo]
theorem YO(H:aP w0 Φ N B S a w){e:Nat}{x:Unit->List t.el}{l:Operand}(hB:ak B.e S.n=none)(hp:bP B ⟨S.t,(S.n,.row f t e x)::S.e,S.n+1⟩ N d (.own S.n)=some S')(hn:(x ()).length=n)(cB:∃ w',(Instr.makeSlice T (a.eval l) (a.eval cc)).run P w = .ok (.slice (some ⟨w.heap.size,0,none⟩) n c) w'/\w'.ownsRow w.heap.size e t.size (.slice (some ⟨w.heap.size,0,none⟩) n c) n css.flatten/\w.grownBy w' none)(hlen:css.length=n)(cH:∀ cs∈css,cs.length=t.size)(du:∀ (k) (cs) (w') (ρ') (ro'),css[k]? = some cs->aQ w' ρ' w0.heap.size ro' (aO f t fun _=>(x ()).getD k t.aa) cs) :
 gq P ⟨some d,.makeSlice T l cc,ty,pos,aft,gd⟩ a w (aP w0 Φ N B S'):=by
 obtain⟨S0,hS,ρ,ro,H⟩:=H;obtain⟨w',cB,bE,hg⟩:=cB;have fq:=H.fresh S.n (az _);have gi:∀ q,q<w.heap.size->w'.heap[q]? = w.heap[q]? := fun q hq=>hg.block q hq (by simp);have bC:cy w' w.heap.size e t.size (some ⟨w.heap.size,0,none⟩) c css:=⟨by rw [hlen]; exact bE,cH⟩
 have aj:w.heap.size<w'.heap.size:=(bC.lt rfl).2;have E8:cy w' (rb f w0.heap.size) e t.size (some ⟨w.heap.size,0,none⟩) c css:=bC.Bv (e8 (IN _ _) H.from_.size);have H2:=H.oY (w':=w') (loc:=S.n) (n:=S.n+1) (r := .row (some ⟨w.heap.size,0,none⟩) n c) (e := .row f t e x) (H.from_.grown hg fun k hk=>by cases hk) hg.size (fun q hq _=>gi q hq) (fun q pK=>by
  have kH:some w.heap.size=some q:=pK;injection kH with kH;subst kH;exact .inr ⟨az _,aj⟩) hB (Bu _) (zp _) (.inl (qD fq)) (.inl fun b hb=>by rw [fq] at hb; cases hb) (by
  refine⟨some ⟨w.heap.size,0,none⟩,c,css,by rw [hn]; exact iL _ _ _,E8,by rw [hn]; exact hlen,fun k cs j y u r1 r2 r3=>(du k cs _ _ _ r1).2 j y u r2 r3⟩)
 refine .inl ⟨_,_,?_,S0,hS,_,_,H2.put hp (.own _ _ _ _ (iL _ _ _))⟩;unfold execOp;simp only [bt,cB,bM,bU]
theorem akT(aA:cS P C.ty)(H:aP w0 Φ N B S a w){e:Nat}{l:Operand}(hT:fy C.ty T=some (.slice e sz b))(hl:bT B S l = .lit k0 0)(hc:(bT B S cc).asInt=some (kk,k))(aN:t.size=sz)(hB:ak B.e S.n=none)(hp:bP B ⟨S.t,(S.n,.row true t e fun _ => [])::S.e,S.n+1⟩ N d (.own S.n)=some S')(hv:0<=k ()/\k ()*b<=281474976710656) :
 gq P ⟨some d,.makeSlice T l cc,ty,pos,aft,gd⟩ a w (aP w0 Φ N B S'):=by
 obtain⟨S0,hS,ρ,ro,H'⟩:=id H;obtain⟨i,_,hi,kG⟩:=eU aA hT;obtain⟨⟨hu,j,z,hj,hz,wF,P7,vN,nT⟩,jD⟩:=Af kG hi;have e1:a.eval l = .int k0 0:=by have:=H'.get l; rw [hl] at this; exact this.mw
 have e2:a.eval cc = .int kk (k ()):=ji hc (H'.get cc);obtain⟨c,oq⟩:=oI hv.1;have sZ:c*b<=281474976710656:=by
  have h3:=hv.2;exact YP
 have qE:c<=maxLen:=by
  have:c*1<=c*b:=tT _ jD;unfold maxLen;omega
 subst aN;refine YO (css := []) H hB hp rfl ?_ rfl (by simp) (fun k cs w' ρ' ro' h=>by simp at h) (c:=c);rw [e1,e2,oq];exact run_make_own w w.heap.size T e j z t.size hu hj hz wF k0 kk c (by rw [P7,lN]; exact sZ) qE (az _)
theorem akU(aA:cS P C.ty)(H:aP w0 Φ N B S a w){e:Nat}{n:Unit->Int}{x:Unit->t.el}{ie:eS}{l:Operand}(hT:fy C.ty T=some (.slice e sz b))(hl:bT B S l = .int k0 n)(hc:(bT B S cc).asInt=some (kk,k))(zR:ak C.ty e=some ie)(gR:wy t (.agg ie.z)=some (f,x))(xC:ie.z.isEmpty=false)(aN:t.size=sz)(hB:ak B.e S.n=none)(hp:bP B ⟨S.t,(S.n,.row f t e fun _=>List.replicate (n ()).toNat (x ()))::S.e,S.n+1⟩ N d (.own S.n)=some S')(hv:0<=n ()/\n ()=k ()/\n ()*b<=281474976710656) :
 gq P ⟨some d,.makeSlice T l cc,ty,pos,aft,gd⟩ a w (aP w0 Φ N B S'):=by
 obtain⟨S0,hS,ρ,ro,H'⟩:=id H;obtain⟨i,_,hi,kG⟩:=eU aA hT;obtain⟨⟨hu,j,z,hj,hz,wF,P7,vN,nT⟩,jD⟩:=Af kG hi;have e1:a.eval l = .int k0 (n ()):=by have:=H'.get l; rw [hl] at this; exact this.iA
 have e2:a.eval cc = .int kk (k ()):=ji hc (H'.get cc);obtain⟨v1,v2,v3⟩:=hv;rw [<- v2] at e2;obtain⟨c,oq⟩:=oI v1;have sZ:c*b<=281474976710656:=by
  have h3:=v3;exact YP
 have qE:c<=maxLen:=by
  have:c*1<=c*b:=tT _ jD;unfold maxLen;omega
 subst aN;have oU:(n ()).toNat=c:=by rw [oq]; rfl
 have hzE:∀ (w':World) (ρ':Nat->Option Rl) (ro':Nat->Prop),aQ w' ρ' w0.heap.size ro' (aO f t x) z.cells.toList:=by
  intro w' ρ' ro';obtain⟨j',z',gQ,yq,hE⟩:=OO (w:=w') (ρ := ρ') (base:=w0.heap.size) (ro:=ro') (aA e ie zR) xC;rw [hj] at gQ;injection gQ with gQ;subst gQ;rw [hz] at yq;injection yq with yq;subst yq;obtain⟨vs,q1,q2,q3⟩:=JS gR (ah.agg ie.z z.cells.toList hE.1 hE.2);have:vs=z.cells.toList:=by
   have q4:(Value.agg z.cells.toList.toArray).cells=z.cells.toList.toArray:=rfl;rw [q4] at q1;exact (congrArg Array.toList q1).symm
  rw [this] at q3;exact q3
 have hzl:z.cells.toList.length=t.size:=by simpa using vN
 refine YO (css:=List.replicate c z.cells.toList) H hB hp (by rw [zk]) ?_ (by rw [zk,oU]) (fun cs h=>by rw [(ahq.1 h).2]; exact hzl) (fun q cs w' ρ' ro' h => ?_) (c:=c)
 . rw [e1,e2,oq];obtain⟨w',r1,r2,r3⟩:=run_make_full (P:=P) w w.heap.size T e j z t.size hu hj hz wF k0 kk c (by rw [P7,lN]; exact sZ) qE (az _);refine⟨w',?_,?_,r3⟩
   . exact r1
   . rw [akS vN nT] at r2;exact r2
 . rw [ahi] at h;split at h
   . rename_i hq;cases h;have e3:(List.replicate (n ()).toNat (x ())).getD q t.aa=x ():=by
      rw [ba,ahi,aw oo];rfl
     have e4:(fun (_:Unit)=>(List.replicate (n ()).toNat (x ())).getD q t.aa)=x:=by funext u; exact e3
     rw [e4];exact hzE w' ρ' ro'
   . cases h
end
section
variable{w w' w0:World}{ρ ρ' ρ2:Nat->Option Rl}{base:Nat}{p:Nat->Bool}{fz:Option (List Nat)}{ro ro' ro2:Nat->Prop}{S0:Pm}{Φ : Pm->Prop}{N:Nat}{B:Bs}{S:Sx}{a:Act}
theorem ah.J9{fr:Bool}{l m:Unit->List t.el}(h:ah w ρ base ro (.sl fr t l) v)(hl:l ()=m ())(hf:fr'=true->fr=true):ah w ρ base ro (.sl fr' t m) v:=by
 have e:l=m:=funext fun u=>by cases u; exact hl
 subst e
 cases fr' with
 | true=>rw [hf rfl] at h; exact h
 | false=>exact h.uz
theorem E9{l:List VC}(h:∀ c∈l++m,c ()):(∀ c∈l,c ())/\∀ c∈m,c ():=⟨fun c hc=>h c (ku.2 (.inl hc)),fun c hc=>h c (ku.2 (.inr hc))⟩
theorem Ai{fr:Bool}(h:(fr || !fr')=true):fr'=true->fr=true:=by
 intro h';rw [h'] at h;simpa using h
structure Fa (w0:World) (ρ ρ2:Nat->Option Rl) (ro ro2:Nat->Prop) (p:Nat->Bool) (fz:Option (List Nat)):Prop where
 pl:∀ l r,ρ l=some r->p l=true -> ρ2 l=some r
 ro:∀ b,ro b->ro2 b
 nil:fz=none->∀ l,ρ l=none->p l=true -> ρ2 l=some (.row none 0 0)
 out:∀ ks,fz=some ks->∀ loc r b,ρ loc=some r->bF loc ks=false->r.ca=some b->w0.heap.size<=b/\ro2 b
mutual
theorem P8(H:bh w0 S0 N B S a w ρ ro)(M:Fa w0 ρ ρ2 ro ro2 p fz):∀ (x y:AV) (vcs:List VC) (v:Value),Ch fz B S x y=some vcs->(∀ c∈vcs,c ())->ah w ρ w0.heap.size ro x v->AV.under p y=true->ah w ρ2 w0.heap.size ro2 y v:=by
 intro x y vcs v h hv hx hu;unfold Ch at h;split at h
 . exact .un _
 . split at h
   . rename_i hk;subst hk;cases h;rw [hx.iA,hv _ (.head _)];exact .int _ _
   . cases h
 . split at h
   . rename_i hk;subst hk;cases h;rw [hx.mw,hv _ (.head _)];exact .int _ _
   . cases h
 . split at h
   . rename_i hk;subst hk;cases h;rw [hx.iA,hv _ (.head _)];exact .lit _ _
   . cases h
 . split at h
   . rename_i hk;obtain⟨rfl,rfl⟩:=hk;rw [hx.mw];exact .lit _ _
   . cases h
 . cases h;rw [hx.oR,hv _ (.head _)];exact .bool _
 . cases h;rw [hx.pH,hv _ (.head _)];exact .bool _
 . cases h;rw [hx.oR,hv _ (.head _)];exact .aG _
 . split at h
   . rename_i hk;subst hk;rw [hx.pH];exact .aG _
   . cases h
 . cases h;rw [hx.zM,hv _ (.head _)];exact .str _
 . cases h;rw [hx.wb];exact .nil
 . cases h;have h0:=hv _ (.head _);rw [hx.wb];rename_i t l;have e:Value.slice none 0 0=Value.slice none (l ()).length 0:=by rw [h0]; rfl
   rw [e];exact .sl _ _ _ none 0 [] (by rw [h0]; rfl) (az _) (Rd.nil _ _ _ _) (fun _ h=>by cases h) (fun _ _ h=>by cases h) (fun k cs j x v h=>by simp at h)
 . split at h
   . split at h
     . rename_i loc _ hk;cases h;rw [hx.wb];exact .own _ _ _ _ (M.nil rfl loc (H.fresh loc (by simpa using hk)) Aj)
     . cases h
   . cases h
 . split at h
   . rename_i fr t l fr' t' m hk;subst hk;split at h
     . rename_i hf;cases h;exact ((hx.J9 (m:=m) (hv _ (.head _)) (Ai hf)).plain (fresh:=false) (by simp [AV.plain]) fun b _ h=>M.ro b h)
     . cases h
   . cases h
 . rename_i loc fr' t' m;split at h
   . cases h
   . rename_i ks;split at h
     . cases h
     . rename_i nk;split at h
       . rename_i fr t T l he;split at h
         . rename_i hk;subst hk;split at h
           . rename_i hf;cases h;obtain⟨A,c,css,hA,bC,hlen,du⟩:=H.en _ _ he;obtain⟨A',n',c',bK,rfl⟩:=hx.sQ;rw [hA] at bK;injection bK with bK;injection bK with e1 e2 e3;subst e1; subst e2; subst e3;have Ka:∀ ad,A=some ad->_:=fun ad ha=>M.out ks rfl loc _ ad.block hA (by simpa using nk) (by simp [Rl.ca,ha]);have h1:ah w ρ2 w0.heap.size ro2 (.sl fr _ l) (.slice A (l ()).length c):=by
              refine .sl fr _ l A c css hlen bC.cap.1 bC.rd (fun ad ha _=>(Ka ad ha).2) (fun _ ad ha _=>(Ka ad ha).1) fun k cs j x v q1 q2 q3 => ?_;exact (du k cs j x v q1 q2 q3).plain (fresh:=false) (vY (Eg _ _ _) q2) fun b _ h=>M.ro b h
             exact h1.J9 (hv _ (.head _)) (Ai hf)
           . cases h
         . cases h
       . cases h
 . split at h
   . rename_i fr t l n fr' t' m hk;subst hk;split at h
     . rename_i hf;cases h;exact (((zS hx).J9 (m:=m) (hv _ (.head _)) (Ai hf)).plain (fresh:=false) (by simp [AV.plain]) fun b _ h=>M.ro b h)
     . cases h
   . cases h
 . split at h
   . rename_i fr t l n fr' t' m k hk;subst hk;split at h
     . rename_i hf;cases h;obtain⟨A,c,hn,hl,rfl⟩:=hx.Ez;have e1:l ()=m ():=hv _ (.head _);have e2:n ()=k ():=hv _ (.tail _ (.head _));rw [e2];have uG:=((hl.J9 (m:=m) e1 (Ai hf)).plain (fresh:=false) (ρ' := ρ2) (ro':=ro2) (by simp [AV.plain]) fun b _ h=>M.ro b h)
       rw [e1] at uG;exact .wide fr' _ m k A c (by rw [<- e1,<- e2]; exact hn) uG
     . cases h
   . cases h
 . split at h
   . rename_i loc pP hk;subst hk;obtain⟨A,n',c,hA,rfl⟩:=hx.sQ;exact .own _ _ _ _ (M.pl _ _ hA Aj)
   . cases h
 . split at h
   . rename_i t loc a b t' pP a' b' hk;obtain⟨rfl,rfl⟩:=hk;cases h;obtain⟨A,n',c,hA,bm,uy,rfl⟩:=hx.xW;obtain⟨e1,e2⟩:a ()=a' ()/\b ()=b' ():=hv _ (.head _);rw [e1,e2];exact .cE _ _ _ _ _ _ _ (M.pl _ _ hA Aj) ⟨oo,oo⟩
   . cases h
 . split at h
   . rename_i loc off pP rL hk;obtain⟨rfl,rfl⟩:=hk;obtain⟨b,hb,rfl⟩:=hx.xV;exact .ptr _ _ _ (M.pl _ _ hb Aj)
   . cases h
 . rename_i loc off m rL;have nr:=fun cs us h1 hE=>yv H M cs m vcs us h1 hv hE Fb;split at h
   . cases h
   . rename_i ks;split at h
     . cases h
     . rename_i nk;split at h
       . rename_i T cs he;split at h
         . rename_i ho;subst ho;obtain⟨b,us,hb,hh,hE⟩:=H.en _ _ he;obtain⟨b',aW,rfl⟩:=hx.xV;rw [hb] at aW;injection aW with aW;injection aW with aW;subst aW;have Ka:=M.out ks rfl loc _ b hb (by simpa using nk) rfl;have h3:=nr cs us h hE;have:=ah.bg (w:=w) (ρ := ρ2) (base:=w0.heap.size) (ro:=ro2) m off b 0 us Ka.2 (jz.1 hh).1 h3.1 (fun j u hj=>by simp [World.cell?,hh,hj]) h3.2;rw [hZ] at this;exact this
         . cases h
       . cases h
 . split at h
   . rename_i loc pP hk;subst hk;obtain⟨b,hb,rfl⟩:=hx.zN;exact .mp _ _ (M.pl _ _ hb Aj)
   . cases h
 . split at h
   . rename_i l l2 l' X1 hk;obtain⟨rfl,rfl⟩:=hk;obtain⟨b,hb,rfl⟩:=hx.OG;exact .it _ _ _ (M.pl _ _ hb Aj)
   . cases h
 . split at h
   . rename_i l off m rL hk;subst hk;obtain⟨b,o,cs,h1,h2,h3,hE,rfl⟩:=hx.I3;have:=yv H M l m vcs cs h hv hE Fb;exact .bg _ _ b o cs (M.ro _ h1) h2 this.1 h3 this.2
   . cases h
 . split at h
   . rename_i t loc k off t' pP k' rL hk;obtain⟨rfl,rfl,rfl⟩:=hk;cases h;obtain⟨A,n,c,b,hA,hb,h0,hn,rfl⟩:=hx.I2;have e:k ()=k' ():=hv _ (.head _);rw [e] at h0 hn ⊢;exact .cY _ _ _ _ _ _ _ _ (M.pl _ _ hA Aj) hb h0 hn
   . cases h
 . rename_i l m;obtain⟨vs,rfl,hE⟩:=hx.oS;have:=yv H M l m vcs vs h hv hE Fb;exact .agg _ _ this.1 this.2
 . rename_i l m;obtain⟨vs,rfl,hE⟩:=hx.I1;have:=yv H M l m vcs vs h hv hE Fb;exact .aU _ _ this.1 this.2
 . split at h
   . rename_i f l g m hk;subst hk;obtain⟨vs,rfl,hE⟩:=hx.Eu;have:=yv H M l m vcs vs h hv hE Fb;exact .fn _ _ _ this.1 this.2
   . cases h
 . cases h
theorem yv(H:bh w0 S0 N B S a w ρ ro)(M:Fa w0 ρ ρ2 ro ro2 p fz):∀ (xs ys:List AV) (vcs:List VC) (vs:List Value),sS fz B S xs ys=some vcs->(∀ c∈vcs,c ())->aQ w ρ w0.heap.size ro xs vs->AV.mC p ys=true->aQ w ρ2 w0.heap.size ro2 ys vs:=by
 intro xs ys vcs vs h hv hE hu;unfold sS at h;split at h
 . rw [hE.none];exact .nil
 . rename_i x l y m;split at h
   . rename_i p q h4 h5;cases h;obtain⟨v,us,rfl,hx,na⟩:=hE.head;have h6:=E9 hv;simp only [AV.mC,au] at hu;exact .cons (P8 H M x y p v h4 h6.1 hx hu.1) (yv H M l m q us h5 h6.2 na hu.2)
   . cases h
 . cases h
end
theorem wL{p:Nat->Bool}:∀ {l:List AV} {j:Nat} {x:AV},AV.mC p l=true->l[j]? = some x->AV.under p x=true
 | y::l,0,x,h,hx=>by
  simp only [oH,bI] at hx;subst hx;simp only [AV.mC,au] at h;exact h.1
 | y::l,j+1,x,h,hx=>by
  simp only [AV.mC,au] at h;exact wL h.2 (by simpa using hx)
 | [],j,x,_,hx=>by simp at hx
theorem Kb(fr)(t)(x)(p):AV.mC p (aO fr t x)=true:=by cases t<;>rfl
theorem ah.yw{x:AV}(h:ah w ρ base ro x v)(hx:AV.under p x=true)(h2:∀ l r,ρ l=some r->p l=true -> ρ2 l=some r):ah w ρ2 base ro x v:=by
 induction h with
 | un=>exact .un _
 | fJ=>exact .fJ _
 | int=>exact .int _ _
 | lit=>exact .lit _ _
 | bool=>exact .bool _
 | aG=>exact .aG _
 | str=>exact .str _
 | nil=>exact .nil
 | sl fr t l A c css hl hc hr lr cK h ih=>exact .sl fr t l A c css hl hc hr lr cK fun k cs j y v h1 h2 h3=>ih k cs j y v h1 h2 h3 (wL (Kb _ _ _ _) h2)
 | wide fr t l n A c hn h ih=>exact .wide fr t l n A c hn (ih rfl)
 | bg cells off b o cs hr aj hl hc h ih=>exact .bg cells off b o cs hr aj hl hc fun j y v h1 h2=>ih j y v h1 h2 (wL Ke h1)
 | ptr l off b h=>exact .ptr _ _ _ (h2 _ _ h yx)
 | fw l off n b h=>exact .fw _ _ _ _ (h2 _ _ h yx)
 | mp l b h=>exact .mp _ _ (h2 _ _ h yx)
 | bq l b h=>exact .bq _ _ (h2 _ _ h yx)
 | it l l2 b h=>exact .it _ _ _ (h2 _ _ h yx)
 | own l A n c h=>exact .own _ _ _ _ (h2 _ _ h yx)
 | cY t l k off A n c b h hA h0 hn=>exact .cY _ _ _ _ _ _ _ _ (h2 _ _ h yx) hA h0 hn
 | cE t l a b A n c h bm=>exact .cE _ _ _ _ _ _ _ (h2 _ _ h yx) bm
 | agg l vs hl h ih=>exact .agg _ _ hl fun j y v h1 h2=>ih j y v h1 h2 (wL Ke h1)
 | aU l vs hl h ih=>exact .aU _ _ hl fun j y v h1 h2=>ih j y v h1 h2 (wL Ke h1)
 | fn f dw vs hl h ih=>exact .fn _ _ _ hl fun j y v h1 h2=>ih j y v h1 h2 (wL Ke h1)
theorem qI{α:Type}:∀ (l m:List (Nat × α)) (d),ak (l++m) d=match ak l d with|some x=>some x|none=>ak m d
 | [],m,d=>rfl
 | (k,x)::l,m,d=>by
  rw [xu,cu,cu,qI l m d];split<;>rfl
theorem P9{α β:Type}{l:List (Nat × α)}:∀ {m:List (Nat × β)} {d:Nat} {x : β},l0 l m=true->ak m d=some x->ak l d=none
 | (k,y)::m,d,x,h,hx=>by
  unfold l0 at h;simp only [au,iF] at h;rw [cu] at hx;split at hx
  . rename_i e; subst e; exact h.1
  . exact P9 h.2 hx
 | [],_,_,_,hx=>by cases hx
theorem Kf{p:Nat->Bool}:∀ {m:List (Nat×AV)} {d:Nat} {x:AV},lZ p m=true->ak m d=some x->AV.under p x=true
 | (k,y)::m,d,x,h,hx=>by
  unfold lZ at h;simp only [au] at h;rw [cu] at hx;split at hx
  . cases hx; exact h.1
  . exact Kf h.2 hx
 | [],_,_,_,hx=>by cases hx
theorem Qa{p:Nat->Bool}:∀ {m:List (Nat×En)} {d:Nat} {e:En},jr p m=true->ak m d=some e->p d=true/\En.under p e=true
 | (k,e')::m,d,e,h,hx=>by
  unfold jr at h;simp only [au] at h;rw [cu] at hx;split at hx
  . rename_i hk; subst hk; cases hx; exact h.1
  . exact Qa h.2 hx
 | [],_,_,_,hx=>by cases hx
theorem YQ(ag fr)(t)(x)(n):AV.under n (eD ag fr t x)=true:=by
 unfold eD;have h:=Kb fr t x n
 cases ag with
 | true=>exact h
 | false =>
  simp only [dS,dB]
  cases hc:aO fr t x with
  | nil=>rfl
  | cons c l =>
   rw [hc] at h
   cases l with
   | nil=>simpa [AV.mC] using h
   | cons c2 l=>rfl
theorem c7.fixed{k:Nat}(h:c7 w ρ base ro k e)(hk:p k=true)(hx:En.under p e=true)(hρ:∀ l r,ρ l=some r->p l=true -> ρ' l=some r):c7 w ρ' base ro k e:=by
 cases e with
 | box T cells =>
  obtain⟨b,cs,h1,h4,h5⟩:=h;exact⟨b,cs,hρ _ _ h1 hk,h4,h5.1,fun j x v q1 q2=>(h5.2 j x v q1 q2).yw (wL hx q1) hρ⟩
 | row fr t T m =>
  obtain⟨A,c,css,h1,h2,h3,h5⟩:=h;exact⟨A,c,css,hρ _ _ h1 hk,h2,h3,fun k cs j x v k1 k2 k3=>(h5 k cs j x v k1 k2 k3).yw (wL (Kb _ _ _ _) k2) hρ⟩
 | map fr ag c t T m =>
  obtain⟨b,es,clock,h1,h2,h3,h4⟩:=h;exact⟨b,es,clock,hρ _ _ h1 hk,h2,h3,h4.rQ fun x v hx=>hx.yw (YQ _ _ _ _ _) hρ⟩
 | iter ml c seen left =>
  obtain⟨b,b2,es,clock,since,stamps,c0,h1,h2,h3⟩:=h;exact⟨b,b2,es,clock,since,stamps,c0,hρ _ _ h1 hk,hρ _ _ h2 hx,h3⟩
 | bq ml c key =>
  obtain⟨b,es,clock,s,e,h1,h2,h3⟩:=h;exact⟨b,es,clock,s,e,hρ _ _ h1 hk,hρ _ _ h2 hx,h3⟩
 | fh k=>exact hρ _ _ h hk
 | dead=>obtain⟨r,h⟩:=h; exact⟨r,hρ _ _ h hk⟩
end
section
variable{P:Program}{w w0:World}{ρ:Nat->Option Rl}{base:Nat}{ro:Nat->Prop}{S0:Pm}{Φ : Pm->Prop}{N:Nat}{B:Bs}{S:Sx}{a:Act}
theorem Qb:∀ {css:List (List Value)} {j:Nat} {v:Value},(∀ cs∈css,cs.length=1)->css.flatten[j]? = some v->css[j]? = some [v]
 | [],j,v,_,h=>by simp at h
 | cs::css,j,v,hl,h=>by
  obtain⟨u,rfl⟩:=M3.1 (hl cs (.head _))
  cases j with
  | zero=>simpa using h
  | succ j=>exact Qb (css:=css) (fun c hc=>hl c (M6 _ hc)) (by simpa using h)
theorem YR{dT sT ty e g B0 c2 t:Nat}{X:Option Addr}{cur:Array Value}(hu:P.underlying dT=some (.slice e))(hs:(P.info? e).map (·.size)=some 1)(hg:w.heap[g]? = some (.cells cur t (0,0)))(hr:Rd w B0 1 X news)(h1:∀ cs∈news,∀ u∈cs,u.oneCell'=true)(jB:off+n<=cur.size) :
 ∃ k w',(Builtin.copy_ #[dT,sT] ty #[.slice (some ⟨g,off,none⟩) n c,.slice X news.length c2]).run P w = .ok (goInt k) w'/\w'.heap[g]? = some (.cells (cur.toList.take off++(news.take n).flatten++cur.toList.drop (off+(news.take n).flatten.length)).toArray t (0,0))/\w.grownBy w' (some g):=by
 have uI:∀ cs∈news.take n,cs.length=1:=fun cs hc=>hr.len cs (vF hc);have hlen:(news.take n).flatten.length=Nat.min news.length n:=by
  rw [pC _ uI,c6,nP];exact Nat.min_comm _ _
 by_cases h0:(news.take n).flatten.length=0
 . refine⟨_,w,run_copy_none (P:=P) w dT sT ty e _ _ _ _ _ _ hu hs (by rw [<- hlen]; exact h0),?_,rfl,rfl,rfl,az _,fun _ _ _=>rfl⟩;rw [xp h0,hg];simp
 . obtain⟨v0,jP⟩:∃ v,(news.take n).flatten[0]? = some v:=⟨_,bp oo⟩
   have uJ:=Qb uI jP;rw [eC] at uJ;split at uJ
   case isFalse=>cases uJ
   obtain⟨b,o,rfl,_,_,_⟩:=hr _ _ uJ;refine⟨_,_,run_copy_row (P:=P) w dT sT ty e g off n c ⟨b,o,none⟩ news.length c2 cur t (news.take n).flatten hu hs hg hlen (fun j v hj => ?_) (by rw [hlen]; exact e8 (Nat.add_le_add_left (Nat.min_le_right _ _) _) jB) (fun v hv => ?_),Ny w g _ _ t _ hg,PN _ _ _⟩
   . have h2:=Qb uI hj;rw [eC] at h2;split at h2
     case isFalse=>cases h2
     obtain⟨b',o',h3,_,_,h4⟩:=hr _ _ h2;injection h3 with h3;injection h3 with h3 h5;subst h3; subst h5;have:=h4 0 v rfl;rw [sE];simpa using this
   . obtain⟨cs,hc,hv⟩:=ahC.1 hv;exact h1 cs (vF hc) v hv
theorem Qc{w':World}(v)(h:(Builtin.copy_ #[T,T2] ty #[a.eval s,a.eval x]).run P w = .ok v w'):(execOp a.eval ⟨some d,.call { callee := .builtin .copy,args := #[s,x],argTypes := #[T,T2] },ty,pos,aft,gd⟩).run P w = .ok (.value v) w':=by
 exact Yu
theorem ah.int_eq{k:IntKind}{f:Unit->Int}{n:Int}(h:f ()=n):ah w ρ base ro (.int k f) (.int k n):=by subst h; exact .int _ _
def Ak(news:List (List Value)):Nat->List Value->List Value
 | _,[] => []
 | k,o::r=>(match news[k]? with|some cs=>cs.headD o|none=>o)::Ak news (k+1) r
theorem Qd{news:List (List Value)}(h:∀ cs∈news,cs.length=1):∀ (os) (k),Ak news k os=((news.drop k).take os.length).flatten++os.drop (news.length - k)
 | [],k=>by simp [Ak]
 | o::r,k=>by
  have ih:=Qd h r (k+1);unfold Ak;rw [ih]
  cases hk:news[k]? with
  | none =>
   have:=ahg.1 hk;rw [Bh (show news.length<=k from oo),Bh (show news.length<=k+1 from oo),show news.length - k=0 from oo,show news.length - (k+1)=0 from oo];simp
  | some cs =>
   obtain⟨aj,he⟩:=cM.1 hk;obtain⟨u,rfl⟩:=M3.1 (h cs (gX hk));rw [vD aj,he,show news.length - k=news.length - (k+1)+1 from oo];simp
theorem YS{t:Tc}{l:Unit->List t.el}{news:List (List Value)}(pL:news.length=(l ()).length)(h1:∀ cs∈news,cs.length=1)(hc:∀ (k) (cs) (j:Nat) (y) (u),news[k]? = some cs->(aO false t fun _=>(l ()).getD k t.aa)[j]? = some y->cs[j]? = some u->ah w ρ base ro y u) :
 ∀ {os:List AV} {vs:List Value} {k:Nat} {r:List AV},Jq t l k os=some r->aQ w ρ base ro os vs->aQ w ρ base ro r (Ak news k vs)
 | [],vs,k,r,h,hE=>by
  cases h;rw [hE.none];exact .nil
 | x::os,vs,k,r,h,hE=>by
  obtain⟨v,us,rfl,hx,hE⟩:=hE.head;unfold Jq at h;split at h
  case h_2=>cases h
  rename_i kk z k' o r' hz ho l4;split at h
  case isFalse=>cases h
  rename_i jJ;subst jJ;cases h;unfold Ak;refine .cons ?_ (YS pL h1 hc l4 hE);have hv:=ji ho hx
  cases hk:news[k]? with
  | none =>
   have:=ahg.1 hk;rw [hv];exact .int_eq (by simp only [gw (show ¬ k<(l ()).length from oo),fG])
  | some cs =>
   have aj:=(cM.1 hk).1;obtain⟨u,rfl⟩:=M3.1 (h1 cs (gX hk));have h2:=hc k [u] 0 (.int kk z) u hk (by rw [hz]; rfl) rfl;show ah w ρ base ro (.int kk _) u
   rw [h2.iA];exact .int_eq (by simp only [c8 (show k<(l ()).length from oo),eG])
theorem EI.one{t e:Nat}(h:EI P t e 1 b):(P.info? e).map (·.size)=some 1:=by
 obtain⟨_,i,z,h1,_,h2,_⟩:=h;rw [h1,dv,h2]
theorem YT{us:List Value}(h:∀ cs∈css,cs.length=1)(jB:off+n<=us.length):us.take off++(css.take n).flatten++us.drop (off+(css.take n).flatten.length)=us.take off++Ak css 0 ((us.drop off).take n)++us.drop (off+n):=by
 have h1:(css.take n).flatten.length=min n css.length:=by rw [pC _ (fun cs hc=>h cs (vF hc)),c6,nP]
 have h2:((us.drop off).take n).length=n:=by rw [c6,iH]; omega
 rw [Qd h,h1,h2,zr,rC,gv,gv,gv];congr 2;have e:us.drop off=(us.drop off).take n++us.drop (off+n):=by rw [<- tX,jg]
 by_cases hc:css.length<=n
 . rw [Nat.min_eq_right hc,<- tX]
   conv=>lhs; rw [e]
   exact ahc oo
 . rw [DI oo,Bh (show ((us.drop off).take n).length<=css.length from oo)];rfl
theorem YU:∀ (css:List (List Value)) (k),(∀ cs∈css,cs.length=1)->css.flatten.drop k=(css.drop k).flatten
 | [],k,_=>by simp
 | cs::css,0,_=>rfl
 | cs::css,k+1,h=>by
  obtain⟨u,rfl⟩:=M3.1 (h cs (ahr ..));simpa using YU css k fun c hc=>h c (M6 _ hc)
theorem akX(aA:cS P C.ty)(H:aP w0 Φ N B S a w)(h:Pb C N B S T d (bT B S s) (bT B S x)=some (S',vcs)) :
 gq P ⟨some d,.call { callee := .builtin .copy,args := #[s,x],argTypes := #[T,T2] },ty,pos,aft,gd⟩ a w (aP w0 Φ N B S'):=by
 obtain⟨S0,hS,ρ,ro,H⟩:=H;unfold Pb at h;split at h
 . rename_i e bb loc off n hT hs;obtain⟨i,_,hi,kG⟩:=eU aA hT;obtain⟨hE,_⟩:=Af kG hi;split at h
   case h_2=>cases h
   rename_i T' cells fr t l he hx;split at h
   case isFalse=>cases h
   rename_i hc;simp only [au,b9,aI,iF] at hc;obtain⟨⟨hB,jB⟩,aN⟩:=hc;split at h
   case h_2=>cases h
   rename_i cs hm;obtain⟨S1,hp,h⟩:=kV.1 h;cases h;have uK:=H.get s;rw [hs] at uK;obtain⟨b,hb,oT⟩:=uK.ai8;obtain⟨b',us,aW,hh,Fc⟩:=H.en _ _ he;rw [hb] at aW;injection aW with aW;injection aW with aW;subst aW;have YV:=H.get x;rw [hx] at YV;obtain⟨A,c,css,hl,N4,hr,bB,cK,du,mG⟩:=YV.uz.pI;rw [aN] at hr;have wM:=hr.len;obtain⟨k,w',cB,Cq,gj⟩:=YR (P:=P) (ty:=ty) (sT:=T2) (c:=n) (c2:=c) hE.1 hE.one hh hr (E1 (f:=false) (m:=l) (by rw [aN]; exact hr) du) (by rw [xt,<- Fc.1]; exact jB);have o6:=Qc (aft:=aft) (gd:=gd) (pos:=pos) (d:=d) (T2:=T2) (s:=s) (x:=x) (a:=a) _ (by rw [oT,mG,<- hl]; exact cB);rw [YT wM (by rw [<- Fc.1]; exact jB)] at Cq;have ng:loc<S.n:=by
    exact Ym
   have Ag:¬ ro b:=(H.own loc _ b hb rfl).2.1;have hw:∀ q,ro q->q<w.heap.size->w'.heap[q]? = w.heap[q]? := fun q hq aj=>gj.block q aj fun hc=>by injection hc with hc; exact Ag (hc▸hq)
   have H2:=H.oY (w':=w') (loc:=loc) (n:=S.n) (r := .box b) (e := .box T' (cells.take off++cs++cells.drop (off+n))) (H.from_.grown gj (H.Ae hb rfl)) gj.size (fun q hq aT=>gj.block q hq fun hc=>aT _ hb hc.symm) (fun q hq => .inl ⟨_,hb,hq⟩) hB (az _) ng (.inl PO) (.inl fun q hq=>by rw [hb] at hq; cases hq) (by
    refine⟨b,_,iL _ _ _,Cq,?_⟩;rw [sX hb];exact (((Fc.take off).append (YS hl wM du hm ((Fc.drop off).take n))).append (Fc.drop (off+n))).mono hw (Ext.refl _) (az _) fun _ h=>h)
   exact Qe
 . rename_i e bb loc hT hs;obtain⟨i,_,hi,kG⟩:=eU aA hT;obtain⟨hE,_⟩:=Af kG hi;split at h
   case h_2=>cases h
   rename_i fr t e' l he;split at h
   case isFalse=>cases h
   rename_i hc;simp only [au,b9,iF] at hc;obtain⟨⟨rfl,aN⟩,hB⟩:=hc;split at h
   case h_2=>cases h
   rename_i f m hn;split at h
   case isFalse=>cases h
   rename_i BP;obtain⟨S1,hp,h⟩:=kV.1 h;cases h;obtain⟨A,c,css,hA,bC,hlen,du⟩:=H.en _ _ he;have uK:=H.get s;rw [hs] at uK;obtain⟨A',n',c',bK,oT⟩:=uK.sQ;rw [hA] at bK;injection bK with bK;injection bK with e1 e2 e3;subst e1; subst e2; subst e3;obtain⟨X,cn,news,hx,pL,hr,lW⟩:=PR H hn (H.get x);rw [aN] at bC hr;have wM:=hr.len;have ng:loc<S.n:=by
    exact PS
   have PM:(f&&fr)=fr:=by cases f<;>cases fr<;>simp_all
   have YW:∀ (k:Nat) (cs:List Value) (j:Nat) (y:AV) (u:Value),(news.take css.length++css.drop news.length)[k]? = some cs->(aO fr t fun _=>((m ()).take (l ()).length++(l ()).drop (m ()).length).getD k t.aa)[j]? = some y->cs[j]? = some u->ah w ρ w0.heap.size ro y u:=by
    have h1:=Ys (w:=w) (ρ := ρ) (base:=w0.heap.size) (ro:=ro) (f:=f) (g:=fr) (t:=t) (l:=(m ()).take (l ()).length) (m:=(l ()).drop (m ()).length) (css:=news.take css.length) (news:=css.drop news.length) (by rw [c6,c6,pL,hlen]) (fun cs hc=>by
     rw [aN];rcases ku.1 hc with h|h
     . exact wM cs (vF h)
     . exact bC.2 cs (Vp h)) (fun k cs j y u q1 q2 q3=>by
     rw [eC] at q1;split at q1
     case isFalse=>cases q1
     rename_i hk;rw [show ((m ()).take (l ()).length).getD k t.aa=(m ()).getD k t.aa by rw [ba,ba,eC,aw oo]] at q2;exact lW k cs j y u q1 q2 q3) (fun k cs j y u q1 q2 q3=>by
     rw [lM] at q1;rw [show ((l ()).drop (m ()).length).getD k t.aa=(l ()).getD (news.length+k) t.aa by rw [ba,ba,lM,pL]] at q2;exact du _ cs j y u q1 q2 q3)
    rw [PM] at h1;exact h1
   rcases bC.block with ⟨rfl,rfl,rfl⟩|⟨g,axv,rfl,_,_,_⟩
   . have kZ:(l ()).length=0:=hlen.symm;have o6:=Qc (P:=P) (w:=w) (aft:=aft) (gd:=gd) (pos:=pos) (ty:=ty) (d:=d) (T:=T) (T2:=T2) (s:=s) (x:=x) (a:=a) _ (by rw [oT,hx]; exact run_copy_none (P:=P) w T T2 ty e' none X (l ()).length 0 (m ()).length cn hE.1 hE.one (by rw [kZ]; exact Nat.min_zero _));have H2:=H.oY (w':=w) (loc:=loc) (n:=S.n) (r := .row none (l ()).length 0) (e := .row fr t e' fun _=>(m ()).take (l ()).length++(l ()).drop (m ()).length) H.from_ (az _) (fun q hq aT=>rfl) (fun q hq => .inl ⟨_,hA,hq⟩) hB (az _) ng (.inl Qf) (.inl fun q hq=>by rw [hA] at hq; cases hq) (by
      have hz:((m ()).take (l ()).length++(l ()).drop (m ()).length).length=(l ()).length:=by rw [ej,c6,iH]; omega
      refine⟨none,0,[],by rw [hz]; exact iL _ _ _,by rw [aN]; exact bC,by rw [hz]; exact hlen,fun k cs j y u q1=>by cases q1⟩)
     exact Qe
   . obtain⟨nQ,h0⟩|⟨g',cap,cur,heq,ir,hg,Qg,qE,aC,rD⟩:=bC.1.2
     . cases nQ
     simp only [Value.slice.injEq,bI,Addr.mk.injEq,aS,aR] at heq;obtain⟨rfl,rfl⟩:=heq;rw [nP] at aC rD;have cH:cur.toList.length=cur.size:=ahp;obtain⟨k,w',cB,Cq,gj⟩:=YR (P:=P) (ty:=ty) (sT:=T2) (off:=0) (n:=css.length) (c:=c) (c2:=cn) hE.1 hE.one hg hr (E1 (by rw [aN]; exact hr) lW) oo;have o6:=Qc (aft:=aft) (gd:=gd) (pos:=pos) (d:=d) (T2:=T2) (s:=s) (x:=x) (a:=a) _ (by rw [oT,hx,<- pL,<- hlen]; exact cB);rw [YT wM oo,zr,rD,hZ,DJ,rv,Qd wM,pC css bC.2,nP,zr,rC,YU css _ bC.2,<- Ng] at Cq;generalize Kg:news.take css.length++css.drop news.length=BM at Cq YW;have cp:BM.length=css.length:=by rw [<- Kg,ej,c6,iH]; omega
     have pS:∀ cs∈BM,cs.length=1:=fun cs hc=>by
      rw [<- Kg] at hc;rcases ku.1 hc with h|h
      . exact wM cs (vF h)
      . exact bC.2 cs (Vp h)
     have qt:=pC BM pS;have Ag:¬ ro g:=(H.own loc _ g hA rfl).2.1;have hw:∀ q,ro q->q<w.heap.size->w'.heap[q]? = w.heap[q]? := fun q hq aj=>gj.block q aj fun hc=>by injection hc with hc; exact Ag (hc▸hq)
     have E8:cy w' (rb fr w0.heap.size) e' 1 (some ⟨g,0,none⟩) c BM:=by
      refine⟨⟨qt,.inr ⟨g,c,_,rfl,ir,Cq,by rw [cp]; exact Qg,qE,?_,?_⟩⟩,pS⟩
      . rw [xt,ej,qt,cp,iH]; omega
      . rw [nP];exact ahG (by rw [qt,nP])
     have hz:((m ()).take (l ()).length++(l ()).drop (m ()).length).length=(l ()).length:=by rw [ej,c6,iH]; omega
     have H2:=H.oY (w':=w') (loc:=loc) (n:=S.n) (r := .row (some ⟨g,0,none⟩) (l ()).length c) (e := .row fr t e' fun _=>(m ()).take (l ()).length++(l ()).drop (m ()).length) (H.from_.grown gj (H.Ae hA rfl)) gj.size (fun q hq aT=>gj.block q hq fun hc=>aT _ hA hc.symm) (fun q hq => .inl ⟨_,hA,hq⟩) hB (az _) ng (.inl Qf) (.inl fun q hq=>by rw [hA] at hq; cases hq) (by
      refine⟨some ⟨g,0,none⟩,c,BM,by rw [hz]; exact iL _ _ _,by rw [aN]; exact E8,by rw [hz,cp,hlen],fun k cs j y u q1 q2 q3 => ?_⟩;rw [sX hA];exact (YW k cs j y u q1 q2 q3).mono hw (Ext.refl _) (az _) fun _ h=>h)
     exact Qe
 . cases h
end
end Go.Proofs.YtlpikgchnjajmaaGreat
