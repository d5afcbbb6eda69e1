/-
  The abstract run: places are named anew; a region that is told by what is done of it is sound.
-/
import Derived.Test.YtlpikgchnjajmaaGreatTp13
import Derived.Sort.LoopGhostIn
set_option linter.all false
namespace Go.Proofs.YtlpikgchnjajmaaGreat
open Go.RowKit
variable{listed:Array Bool}{dn ks σ:List Nat}{l ops:List Oper}{b fuel i j n n0 nb q:Nat}{S':Sx}{k k1 k2:Sx->Fm}
section
variable{P:Program}{w w' w0:World}{ρ ρ':Nat->Option Rl}{base:Nat}{ro ro':Nat->Prop}{S0:Pm}{Φ : Pm->Prop}{N:Nat}{B:Bs}{S:Sx}{a a0:Act}{C:Cx}{Q:Exit->Act->World->Prop}
theorem Q3(g):∀ (l) (d),ak (yn g l) d=(ak l d).map (AV.fU g)
 | [],d=>rfl
 | (k,x)::l,d=>by
  unfold yn;rw [cu,cu,Q3 g l d];split<;>rfl
theorem Q4{g g':Nat->Nat}(h1:∀ l,g' (g l)=l)(h2:∀ l,g (g' l)=l):∀ (l) (d),ak (kA g l) d=(ak l (g' d)).map (En.fU g)
 | [],d=>rfl
 | (k,x)::l,d=>by
  unfold kA;rw [cu,cu,Q4 h1 h2 l d];by_cases e:k=g' d
  . rw [aw e,aw (by rw [e,h2])]; rfl
  . rw [ar e,ar (fun q=>e (by rw [<- q,h1]))]
theorem bh.fU{p:Nat->Bool}{g g':Nat->Nat}(h1:∀ l,g' (g l)=l)(h2:∀ l,g (g' l)=l)(hp:∀ l,p l=true->g l=l)(cF:∀ l,S.n<=l->g l=l)(hB:lZ p B.t=true)(uS:jr p B.e=true)(cO:∀ l r,S0.pl l=some r->p l=true)(H:bh w0 S0 N B S a w ρ ro):bh w0 S0 N B ⟨yn g S.t,kA g S.e,S.n⟩ a w (fun l => ρ (g' l)) ro:=by
 have fi:∀ l,g l=l->g' l=l:=fun l h=>by have:=h1 l; rwa [h] at this
 have hρ:∀ l r,ρ l=some r -> ρ (g' (g l))=some r:=fun l r h=>by rw [h1]; exact h
 have Z6:∀ l r,ρ l=some r->p l=true -> ρ (g' l)=some r:=fun l r h hl=>by rw [fi l (hp l hl)]; exact h
 refine⟨H.from_,H.size,H.defers,H.gn,fun d x h => ?_,fun l e h => ?_,fun l l' r r' b aT q1 q2 q3=>H.apart (g' l) (g' l') r r' b (fun e=>aT (by rw [<- h2 l,<- h2 l',e])) q1 q2 q3,fun l hl=>by rw [fi l (cF l hl)]; exact H.fresh l hl,fun l r b q1 q2 => ?_,H.eN,fun l r q1 q2=>by rw [fi l (hp l (cO l r q1))]; exact H.dC l r q1 q2,fun d x h=>by show ak (yn g S.t) d=none; rw [Q3,H.jL d x h]; rfl,fun l e h => ?_,H.fm⟩
 . unfold dH at h;dsimp only at h;rw [Q3] at h
   cases hS:ak S.t d with
   | some y =>
    rw [hS] at h;simp only [dv,bI] at h;subst h;obtain⟨u,q1,q2⟩:=H.tm d y (by unfold dH; rw [hS]);exact⟨u,q1,q2.fU hρ⟩
   | none =>
    rw [hS] at h;simp only [Bm] at h;obtain⟨u,q1,q2⟩:=H.tm d x (by unfold dH; rw [hS]; exact h);exact⟨u,q1,q2.yw (Kf hB h) Z6⟩
 . unfold bc at h;dsimp only at h;rw [Q4 h1 h2] at h
   cases hS:ak S.e (g' l) with
   | some y =>
    rw [hS] at h;simp only [dv,bI] at h;subst h;have q:=H.en (g' l) y (by unfold bc; rw [hS]);have q2:=q.fU (ρ':=fun l => ρ (g' l)) (g:=g) hρ;rwa [h2] at q2
   | none =>
    rw [hS] at h;simp only [Bm] at h;have hl:=Qa uS h;have cp:=fi l (hp l hl.1);rw [cp] at hS;exact (H.en l e (by unfold bc; rw [hS]; exact h)).fixed hl.1 hl.2 Z6
 . obtain⟨k1,k2,k3⟩:=H.own (g' l) r b q1 q2;refine⟨k1,k2,k3.1.imp id ?_,k3.2⟩
   rintro⟨r0,k4,k5⟩
   have:g (g' l)=g' l:=hp _ (cO _ _ k4);rw [h2] at this;rw [<- this] at k4;exact⟨r0,k4,k5⟩
 . show ak (kA g S.e) l=none
   have hl:=Qa uS h;rw [Q4 h1 h2,fi l (hp l hl.1),H.jM l e h];rfl
theorem aml(p q l):yo p q l=if l=p then q else if l=q then p else l:=by
 unfold yo;by_cases h1:l=p
 . simp [h1]
 . by_cases h2:l=q
   . simp [h2]
   . rw [ar h1,ar h2,show (l==p)=false by simpa using h1,show (l==q)=false by simpa using h2]; rfl
theorem Z7(p q l):yo p q (yo p q l)=l:=by
 simp only [aml];by_cases h1:l=p
 . rw [aw h1];by_cases h2:q=p
   . rw [aw h2,h1,h2]
   . rw [ar h2,aw rfl,h1]
 . rw [ar h1];by_cases h2:l=q
   . rw [aw h2,aw rfl,h2]
   . rw [ar h2,ar h1,ar h2]
theorem Z8{p l:Nat}(h:wD p q l=true):yo p q l=l:=by
 unfold wD at h;unfold yo;simp only [iG,jZ] at h;rw [h.1,h.2];rfl
theorem amm{p:Nat}(cO:∀ S0,Φ S0->∀ l r,S0.pl l=some r->l<nb)(H:aP w0 Φ N B S a w):aP w0 Φ N B (PD nb B p q S) a w:=by
 unfold PD
 cases hc:decide (nb<=p)&&(decide (nb<=q)&&(decide (p<S.n)&&(decide (q<S.n)&&(lZ (wD p q) B.t&&jr (wD p q) B.e)))) with
 | false=>exact H
 | true =>
  simp only [au,aI] at hc;obtain⟨h1,h2,h3,h4,h5,h6⟩:=hc;have jl:∀ {l},l≠p->l≠q->wD p q l=true:=fun h h'=>by unfold wD; simp [h,h']
  obtain⟨S0,hS,ρ,ro,HR⟩:=H;exact⟨S0,hS,_,ro,HR.fU (p:=wD p q) (Z7 p q) (Z7 p q) (fun l hl=>Z8 hl) (fun l hl=>Z8 (jl oo oo)) h5 h6 fun l r hr=>by
   have:=cO S0 hS l r hr;exact jl oo oo⟩
theorem KH{nb:Nat}{prs:Sx->List (Nat×Nat)}(cO:∀ S0,Φ S0->∀ l r,S0.pl l=some r->l<nb):∀ (n) {S:Sx},aP w0 Φ N B S a w->aP w0 Φ N B (EY nb B prs n S) a w
 | 0,_,H=>H
 | n+1,S,H=>by
  unfold EY;split
  . exact H
  . exact KH cO n (amm cO H)
theorem Q5{l:Nat}(h:l<n0):gO n0 σ l=l:=by
 unfold gO;simp [h]
theorem Q6{l:Nat}(h:n0 + σ.length<=l):gO n0 σ l=l:=by
 unfold gO;have:¬ l<n0:=oo
 simp only [this,tZ];rw [sA oo]
def gB(n0:Nat)(σ:List Nat)(l:Nat):Nat:=if l<n0\/n0 + σ.length<=l then l else n0+gT σ (l - n0)
theorem amn(h:fp σ n=true)(hj:j<n):gT σ j<n /\ σ[gT σ j]? = some j:=by
 have h1:=ZP h hj;have h2 : σ.length=n:=by
  unfold fp at h;simp only [au,b9] at h;exact h.1.1
 exact⟨by rw [<- h2]; exact (cM.1 h1).1,h1⟩
theorem amo{k:Nat}(h:fp σ n=true)(hk:k<n):∃ i,σ[k]? = some i/\i<n/\gT σ i=k:=by
 unfold fp at h;simp only [au,dK,gP] at h;have h1:=h.2 k hk
 cases hs : σ[k]? with
 | none=>rw [hs] at h1; cases h1
 | some i =>
  rw [hs] at h1;simp only [au,aI,b9] at h1;exact⟨i,rfl,h1.1,h1.2⟩
theorem amp(h:fp σ σ.length=true)(l):gB n0 σ (gO n0 σ l)=l:=by
 rcases cw l n0 with h1|h1
 . rw [Q5 h1]; unfold gB; rw [aw (.inl h1)]
 . rcases cw l (n0 + σ.length) with h2|h2
   . obtain⟨i,h3,h4,h5⟩:=amo h (k:=l - n0) oo;have:gO n0 σ l=n0+i:=by
      unfold gO;have:¬ l<n0:=oo
      simp only [this,tZ];rw [h3]
     rw [this];unfold gB;rw [ar oo,ag9,h5];omega
   . rw [Q6 h2]; unfold gB; rw [aw (.inr h2)]
theorem amq(h:fp σ σ.length=true)(l):gO n0 σ (gB n0 σ l)=l:=by
 unfold gB;split
 . rename_i h1;rcases h1 with h1|h1
   . exact Q5 h1
   . exact Q6 h1
 . rename_i h1;obtain⟨h2,h3⟩:=amn h (j:=l - n0) oo;unfold gO;have:¬ n0+gT σ (l - n0)<n0:=oo
   simp only [this,decide_false];rw [Nat.add_sub_cancel_left,h3];dsimp only;omega
theorem KI{k:Nat}{e:En}:∀ {l:List (Nat×En)} {ks:List Nat},ak (oh ks l) k=some e->bF k ks=false/\ak l k=some e
 | [],_,h=>by cases h
 | (j,y)::l,ks,h=>by
  unfold oh at h;rw [cu];have amr:∀ {ks:List Nat},bF k (j::ks)=false->bF k ks=false/\j≠k:=fun h=>by
   rw [Cw,jZ] at h;exact⟨h.2,by simpa using h.1⟩
  have Q7:ak (oh (j::ks) l) k=some e->bF k ks=false/\(if j=k then some y else ak l k)=some e:=fun h=>by
   obtain⟨h1,h2⟩:=KI h;obtain⟨h3,h4⟩:=amr h1;rw [ar h4];exact⟨h3,h2⟩
  have gH:ak ((j,y)::oh (j::ks) l) k=some e->bF j ks=false->bF k ks=false/\(if j=k then some y else ak l k)=some e:=fun h9 hj=>by
   rw [cu] at h9;by_cases e1:j=k
   . rw [aw e1] at h9 ⊢;exact⟨by rw [<- e1]; exact hj,h9⟩
   . rw [ar e1] at h9;exact Q7 h9
  cases hj:bF j ks with
  | true =>
   rw [hj] at h;obtain⟨h1,h2⟩:=KI h;rw [ar (fun e=>by subst e; rw [h1] at hj; cases hj)];exact⟨h1,h2⟩
  | false =>
   rw [hj] at h
   cases y with
   | bq _ _ _=>exact Q7 h
   | dead=>exact Q7 h
   | fh _=>exact gH h hj
   | box _ _=>exact gH h hj
   | row _ _ _ _=>exact gH h hj
   | map _ _ _ _ _ _=>exact gH h hj
   | iter _ _ _ _=>exact gH h hj
theorem Z9(H:aP w0 Φ N B S a w):aP w0 Φ N B (wC ks S) a w:=by
 obtain⟨S0,hS,ρ,ro,H⟩:=H;refine⟨S0,hS,ρ,ro,H.from_,H.size,H.defers,H.gn,fun d x h=>H.tm d x ?_,fun l e h=>H.en l e ?_,H.apart,H.fresh,H.own,H.eN,H.dC,fun d x h => ?_,fun l e h => ?_,H.fm⟩
 . unfold dH wC at h;dsimp only at h;unfold dH
   cases hp:ak (pN ks S.t) d with
   | some y=>rw [hp] at h; rw [EN hp]; exact h
   | none=>rw [hp] at h; rw [H.jL d x h]; exact h
 . unfold bc wC at h;dsimp only at h;unfold bc
   cases hp:ak (oh [] S.e) l with
   | some y=>rw [hp] at h; rw [(KI hp).2]; exact h
   | none=>rw [hp] at h; rw [H.jM l e h]; exact h
 . exact XX
 . show ak (oh [] S.e) l=none
   cases hp:ak (oh [] S.e) l with
   | none=>rfl
   | some y=>have:=(KI hp).2; rw [H.jM l e h] at this; cases this
theorem ams{own:List Nat}{T:Sx×List Nat}(cO:∀ S0,Φ S0->∀ l r,S0.pl l=some r->l<n0)(hB:lZ (cP n0) B.t=true)(uS:jr (cP n0) B.e=true)(hT:EW B T.1=true)(h:(EU B n0 own T S').P)(H:aP w0 Φ N B S' a w):aP w0 Φ N B T.1 a w:=by
 unfold EW at hT;simp only [au] at hT;have jk:∀ {S':Sx},S'.n=T.1.n->aP w0 Φ N B S' a w->(nj B S' T.1.t T.1.e).P->aP w0 Φ N B T.1 a w:=by
  intro S' hn H hP;obtain⟨S0,hS,ρ,ro,HR⟩:=H;obtain⟨ta,tb,e1,e2,e3⟩:=KG hP;have HB:=HR.bare;obtain⟨tf,Av,Aw,_,_⟩:=KF HB (md := []) (aD := []) (az _) B rfl;rw [<- hn] at hT;have:=HR.QT hS (fun l r q1 q2 => ?_) e1 e2 e3 hT.1 hT.2.1 hT.2.2.1 hT.2.2.2 (fun d y hy => ?_) (fun l e he => ?_) fun _ h=>h
  . have he:(⟨T.1.t,T.1.e,S'.n⟩:Sx)=T.1:=by rw [hn]
    rwa [he] at this
  . have q3:=HR.dC l r q1 q2;exact aaa
  . obtain⟨u,q1,q2⟩:=Av d y hy;exact⟨u,q1,q2,tf.t d y hy⟩
  . exact⟨Aw l e he,tf.e l e he⟩
 unfold EU at h;split at h
 . rename_i hn;have KC:S'.n=T.1.n:=eq_of_beq hn;split at h
   . exact jk KC H h
   . split at h
     . rename_i hc;simp only [au,aI] at hc;have hl:(sV T.2 [] own).length=own.length:=by
        have:=Aq (σ:=sV T.2 [] own) (l:=own.map fun _=>X7) (by simpa using hc.1);simpa using this
       have jc:fp (sV T.2 [] own) (sV T.2 [] own).length=true:=by rw [hl]; exact hc.1
       obtain⟨S0,hS,ρ,ro,HR⟩:=H;refine jk (S':=⟨yn (gO n0 (sV T.2 [] own)) S'.t,kA (gO n0 (sV T.2 [] own)) S'.e,S'.n⟩) KC ⟨S0,hS,_,ro,HR.fU (p:=cP n0) (amp jc) (amq jc) (fun l hl=>Q5 (by simpa [cP] using hl)) (fun l cp=>Q6 (by rw [hl]; omega)) hB uS fun l r q=>by simpa [cP] using cO S0 hS l r q⟩ h
     . exact h.elim
 . exact h.elim
theorem amt{o:Oper}(hd:JF C N B l o S=some S')(h:(ch C N B l [o] S k1).P)(hk:(k2 S').P):(ch C N B l [o] S k2).P:=by
 unfold JF at hd;unfold ch at h ⊢;dsimp only at h ⊢
 cases hw:od B S l o with
 | yes =>
  rw [hw] at h hd;dsimp only at h hd ⊢
  cases hs:mE C N B S o with
  | some f=>rw [hs] at hd; cases hd
  | none =>
   rw [hs] at h hd;dsimp only at h hd ⊢
   cases ht:og C N B S o with
   | none=>rw [ht] at hd; cases hd
   | some r =>
    obtain⟨S2,vcs⟩:=r;rw [ht] at h hd;dsimp only at hd;cases hd
    cases vcs with
    | nil=>unfold ch; exact hk
    | cons c vcs=>exact⟨h.1,by unfold ch; exact hk⟩
 | no =>
  rw [hw] at h hd;dsimp only at h hd ⊢;rw [hd];unfold ch;exact hk
 | ask d c b=>rw [hw] at hd; cases hd
 | stuck=>rw [hw] at hd; cases hd
theorem FD:∀ {l m:List Nat},qA l m=true->l=m
 | [],[],_=>rfl
 | x::l,y::m,h=>by
  simp only [qA,au,b9] at h;rw [h.1,FD h.2]
 | [],_::_,h=>by cases h
 | _::_,[],h=>by cases h
theorem aab{i x:Nat}:∀ {l:List Nat},bF x (wN i l)=(i==x||bF x l)
 | []=>rfl
 | k::l=>by
  unfold wN;split
  . rfl
  . rw [Cw,Cw,aab,Bool.or_left_comm]
theorem FE{i:Nat}:∀ {l:List Nat},(wN i l).length=l.length+1
 | []=>rfl
 | k::l=>by
  unfold wN;split
  . rfl
  . simp [FE]
theorem aac{ops:List Oper}:∀ {eO:List Nd} {acc eJ:List (Sx×List Nat)},ET C N B ops eO acc=some eJ->eJ.length=acc.length+eO.length/\(∀ t,t<acc.length->eJ[t]? = acc[t]?)/\∀ (t) nd,eO[t]? = some nd->∃ p o S',eJ[nd.up.1]? = some p/\ops[nd.up.2]? = some o/\JF C N B ops o p.1=some S'/\∃ q,eJ[acc.length+t]? = some (wC nd.ks S',q)
 | [],acc,eJ,h=>by
  unfold ET at h;cases h;exact⟨by simp,fun _ _=>rfl,fun t nd h=>by simp at h⟩
 | nd::eO,acc,eJ,h=>by
  unfold ET at h;split at h
  . rename_i p o hp ho;split at h
    . rename_i S' hS;obtain⟨h1,h2,h3⟩:=aac h;have aj:nd.up.1<acc.length:=(cM.1 hp).1;refine⟨by rw [h1]; simp; omega,fun t ht => ?_,fun t KJ iM => ?_⟩
      . rw [h2 t (by simp; omega),qh ht]
      . cases t with
        | zero =>
         simp only [oH,bI] at iM;subst iM;refine⟨p,o,S',?_,ho,hS,p.2++List.replicate (S'.n - p.1.n) nd.up.2,?_⟩
         . rw [h2 _ (by simp; omega),qh aj]; exact hp
         . rw [h2 _ (by simp)]; simp
        | succ t =>
         obtain⟨p',o',S2,k1,k2,k3,q,k4⟩:=h3 t KJ (by simpa using iM);refine⟨p',o',S2,k1,k2,k3,q,?_⟩;rw [<- k4];congr 1;simp;omega
    . cases h
  . cases h
theorem aad{ops:List Oper}{n0 j:Nat}{eO:List Nd}{eJ:List (Sx×List Nat)}{Sj:Sx×List Nat}{A:Fm}:∀ {es:List (Nat×Nat×Nat)},(JG C N B ops n0 eO eJ j Sj es A).P->A.P/\∀ e∈es,∃ o T,ops[e.2.1]? = some o/\eJ[e.2.2]? = some T/\(match EV eO e.2.2 j e.2.1 with
 | true=>ch C N B ops [o] Sj.1 fun _ => .fin []
 | false=>ch C N B ops [o] Sj.1 fun S'=>EU B n0 (Sj.2++List.replicate (S'.n - Sj.1.n) e.2.1) T S').P
 | [],h=>⟨h,fun e he=>by cases he⟩
 | (i,oi,t)::es,h=>by
  unfold JG at h;split at h
  . rename_i o T ho hT;obtain⟨h1,h2⟩:=aad h.2;refine⟨h1,fun e he => ?_⟩;rcases fZ.1 he with rfl|he
    . exact⟨o,T,ho,hT,h.1⟩
    . exact h2 e he
  . exact h.elim
theorem aae{ops:List Oper}{n0:Nat}{eO:List Nd}{eJ:List (Sx×List Nat)}{k:Sx->Fm}:∀ {r:List Nd} {j:Nat},(EX C N B ops n0 eO eJ k j r).P->∃ m,m<r.length/\(∃ nd,r[m]? = some nd/\nd.ed = [])/\∀ (i) nd,i<=m->r[i]? = some nd->∃ Sj,eJ[j+i]? = some Sj/\EW B Sj.1=true/\(nd.ed = []->(k Sj.1).P)/\∀ e∈nd.ed,∃ o T,ops[e.2.1]? = some o/\eJ[e.2.2]? = some T/\(match EV eO e.2.2 (j+i) e.2.1 with
 | true=>ch C N B ops [o] Sj.1 fun _ => .fin []
 | false=>ch C N B ops [o] Sj.1 fun S'=>EU B n0 (Sj.2++List.replicate (S'.n - Sj.1.n) e.2.1) T S').P
 | [],j,h=>by unfold EX at h; exact h.elim
 | nd::r,j,h=>by
  unfold EX at h;split at h
  . rename_i Sj hj;split at h
    . rename_i bS;split at h
      . rename_i he;refine⟨0,by simp,⟨nd,rfl,he⟩,fun i KJ hi iM => ?_⟩;obtain rfl:i=0:=oo
        simp only [oH,bI] at iM;subst iM;exact⟨Sj,hj,bS,fun _=>h,fun e mI=>by rw [he] at mI; cases mI⟩
      . rename_i aT;obtain⟨h1,h2⟩:=aad h;obtain⟨m,h3,⟨nd2,h4,FF⟩,h5⟩:=aae h1;refine⟨m+1,by simp; omega,⟨nd2,by simpa using h4,FF⟩,fun i KJ hi iM => ?_⟩
        cases i with
        | zero =>
         simp only [oH,bI] at iM;subst iM;exact⟨Sj,hj,bS,fun e=>absurd e aT,h2⟩
        | succ i =>
         obtain⟨S2,k1,k2,k3,k4⟩:=h5 i KJ oo (by simpa using iM);refine⟨S2,by rw [<- k1]; congr 1; omega,k2,k3,fun e he => ?_⟩;have:=k4 e he;rwa [show j+1+i=j+(i+1) from oo] at this
    . exact h.elim
  . exact h.elim
theorem Q8{l:List Oper}{done:List Nat}:∀ {is:List Nat} {i:Nat},ES l done is=some i->i∈is/\Px l done i=true
 | [],i,h=>by cases h
 | j::is,i,h=>by
  unfold ES at h;split at h
  . rename_i hc;injection h with h;subst h;exact⟨.head _,hc⟩
  . obtain⟨h1,h2⟩:=Q8 h;exact⟨.tail _ h1,h2⟩
theorem aaf(aA:cS P C.ty)(aC:mK P C w0 Φ)(gr:∀ (j:Nat) (o) cs b,l.toArray[j]? = some o->o.op ≠ .select cs b)(hQ:∀ c a w,¬ Q (.panic c) a w)(H:aP w0 Φ N B S a w)(aN:listed.size=l.length)(hL:∀ i,LL listed i=bF i dn)(cH:qo .any l.toArray listed)(jb:∀ i,i∈At l dn->i∈mF l dn->∃ (o':Oper) (K:Sx->Fm),l[i]? = some o'/\(ch C N B l [o'] S K).P/\∀ S' a' w',aP w0 Φ N B S' a' w'->(K S').P->wpAnyIn Fence.wide 0 P .any l.toArray Q fuel (listed.setIfInBounds i true) a' w')(fA:At l dn = []->Q .normal a w):wpAnyIn Fence.wide 0 P .any l.toArray Q (fuel+1) listed a w:=by
 have hr:=Cy (l:=l) aN hL;have tg:∀ i,i∈At l dn->i∈mF l dn->wpOpIn Fence.wide 0 P l.toArray Q i (wpAnyIn Fence.wide 0 P .any l.toArray Q fuel (listed.setIfInBounds i true)) a w:=by
  intro i hi gS;obtain⟨o',K,h1,h2,h3⟩:=jb i hi gS;exact Zy aA aC h1 h3 h2 H
 unfold At at jb tg fA
 cases gS:mF l dn with
 | nil =>
  have QL:Region.ready .any l.toArray listed = []:=Be.2 fun i hi=>by have:=(hr i).2 hi; rw [gS] at this; cases this
  rw [gS] at fA;exact⟨fun _=>fA rfl,fun i hi=>by rw [QL] at hi; cases hi⟩
 | cons i is =>
  have gU:i∈mF l dn:=by rw [gS]; exact .head _
  rw [gS] at jb tg
  cases is with
  | nil =>
   refine⟨fun hn => ?_,fun j hj => ?_⟩
   . have:=(hr i).1 gU;rw [hn] at this;cases this
   . have:=(hr j).2 hj;rw [gS,kq] at this;subst this;exact tg _ (.head _) (.head _)
  | cons i2 is =>
   dsimp only at jb tg
   cases hf:ym l (i::i2::is) with
   | some q =>
    rw [hf] at jb tg;obtain⟨FG,o2,d,pX,pV,hd,ja⟩:=Fo hf;obtain⟨o',K,h1,h2,h3⟩:=jb q (.head _) FG;rw [pX] at h1;cases h1;obtain⟨v,S',hy,H',h'⟩:=Zz aA pV hd h2 H;have hq:=(hr q).1 (by rw [gS]; exact FG);obtain⟨_,o3,FH,mL⟩:=mem_ready.1 hq;have heq:o3=o2:=by
     have h1:l[q]? = some o3:=by simpa using FH
     rw [pX] at h1;injection h1 with h1;exact h1.symm
    subst heq;refine wpAnyIn_first rfl FH gr (fun c a w hq=>(hQ c _ w hq).elim) fuel listed a w (fun j oj eo aT ib jl => ?_) hq ⟨hy,fun w=>PK pV _ w⟩ ?_
    . rcases QB ja pX Fi aT with ⟨e,he,hb,uO⟩|⟨e,he,hb,uO⟩|h3
      . have h4:=mL e he hb;exact QE
      . exact absurd uO (jl e he hb)
      . exact h3
    . exact h3 _ _ _ H' h'
   | none =>
    rw [hf] at jb tg;dsimp only at jb tg
    cases Ax:ES l dn (i::i2::is) with
    | some q =>
     rw [Ax] at jb tg;obtain⟨FG,uU⟩:=Q8 Ax;have hw:=tg q (.head _) FG;have hq:=(hr q).1 (by rw [gS]; exact FG);unfold Px at uU
     cases pX:l[q]? with
     | none=>rw [pX] at uU; cases uU
     | some o2 =>
      rw [pX] at uU;simp only [au,dK,gP,gz,b9] at uU;obtain⟨hst,_,amv⟩:=uU;have FH:l.toArray[q]? = some o2:=by simpa using pX
      obtain⟨v,hy,hn⟩:=ami FH hst hQ hw;refine amj FH gr hQ fuel listed a w cH (fun j oj eo aT ib FC => ?_) hq hy hn;have KK:l[j]? = some oj:=by simpa using eo
      have aj:=(cM.1 KK).1;have h5:=amv j aj;rw [KK] at h5;rcases h5 with h5|h5|h5|h5
      . exact absurd h5 aT
      . have h6:=hL j;rw [h5] at h6;unfold LL at h6;rw [pz,pA oo] at h6 ib;simp only [gZ] at h6 ib;rw [h6] at ib;cases ib
      . rw [FC] at h5; cases h5
      . exact (au _ _▸h5:_/\_)
    | none =>
     rw [Ax] at jb tg;refine⟨fun hn => ?_,fun j hj => ?_⟩
     . have:=(hr i).1 gU;rw [hn] at this;cases this
     . have gQ:=(hr j).2 hj;rw [gS] at gQ;exact tg j gQ gQ
theorem aag(hi:i<n)(aN:listed.size=n)(hL:∀ x,LL listed x=bF x dn)(x):LL (listed.setIfInBounds i true) x=bF x (wN i dn):=by
 rw [BC oo,hL,aab];by_cases e1:x=i
 . subst e1; simp
 . rw [ar e1];have:(i==x)=false:=by simpa using fun h=>e1 h.symm
   rw [this,rB]
theorem amw(aA:cS P C.ty)(aC:mK P C w0 Φ){eO:List Nd}{eJ:List (Sx×List Nat)}(jc:fp σ ops.length=true)(hl:l=ck σ ops)(gr:∀ (j:Nat) (o) cs b,l.toArray[j]? = some o->o.op ≠ .select cs b)(hQ:∀ c a w,¬ Q (.panic c) a w)(hk:∀ fuel (nd) S' a' w' listed,nd∈eO->nd.ed = []->(k S').P->aP w0 Φ N B S' a' w'->nd.dn.length+fuel=l.length->listed.size=l.length->(∀ i,LL listed i=bF i nd.dn)->qo .any l.toArray listed->wpAnyIn Fence.wide 0 P .any l.toArray Q fuel listed a' w')(iM:∀ nd∈eO,Kq σ l eO nd=true)(yC:∀ (j:Nat) nd,eO[j]? = some nd->∃ Sj,eJ[j]? = some Sj/\(nd.ed = []->(k Sj.1).P)/\∀ e∈nd.ed,∃ o T,ops[e.2.1]? = some o/\eJ[e.2.2]? = some T/\∃ K,(ch C N B ops [o] Sj.1 K).P/\∀ S' a' w',aP w0 Φ N B S' a' w'->(K S').P->aP w0 Φ N B T.1 a' w') :
 ∀ (fuel j:Nat) (nd) (Sj) (a) (w) (listed),eO[j]? = some nd->eJ[j]? = some Sj->nd.dn.length+fuel=l.length->aP w0 Φ N B Sj.1 a w->listed.size=l.length->(∀ i,LL listed i=bF i nd.dn)->qo .any l.toArray listed->wpAnyIn Fence.wide 0 P .any l.toArray Q fuel listed a w:=by
 intro fuel
 induction fuel with
 | zero =>
  intro j nd Sj a w listed hj hS hlen H aN hL cH;have gU:=gX hj;have hc:=iM nd gU;unfold Kq at hc;simp only [au,gz,aI,Bl] at hc;have wP:nd.ed = []:=hc.resolve_right fun h=>oo
  obtain⟨Sj',q1,q2,_⟩:=yC j nd hj;rw [hS] at q1;cases q1;exact hk 0 nd _ _ _ _ gU wP (q2 wP) H hlen aN hL cH
 | succ fuel ih =>
  intro j nd Sj a w listed hj hS hlen H aN hL cH;have hr:=Cy (l:=l) aN hL;have gU:=gX hj;have hc:=iM nd gU;unfold Kq at hc;simp only [au,gz,aI,Bl,dK,b9] at hc;obtain⟨Sj',q1,q2,q3⟩:=yC j nd hj;rw [hS] at q1;cases q1;by_cases wP:nd.ed = []
  . exact hk (fuel+1) nd _ _ _ _ gU wP (q2 wP) H hlen aN hL cH
  obtain⟨uv,_,cr⟩:=hc.resolve_left wP;have uv:=FD uv;refine aaf aA aC gr hQ H aN hL cH (fun i hi gS => ?_) fun hn=>absurd (by rw [hn] at uv; simpa using uv) wP;rw [<- uv] at hi;obtain⟨e,he,rfl⟩:=iq.1 hi;obtain⟨o,T,k1,k2,K,k3,k4⟩:=q3 e he;obtain⟨h1,h2⟩:=cr e he;have ug:l[e.1]? = some (o5 σ o):=by rw [hl]; exact Fz h1 k1
  have aj:=(cM.1 ug).1;refine⟨o5 σ o,K,ug,?_,fun S' a' w' HS hP => ?_⟩
  . rw [hl];exact Ks (l:=ops) (o:=o) (K:=K) rfl rfl (Kz jc Sj.1 o) (fun S hS=>by unfold ch; exact hS) k3
  . cases yH:eO[e.2.2]? with
    | none=>rw [yH] at h2; cases h2
    | some nt =>
     rw [yH] at h2;have h3:=FD h2;exact ih e.2.2 nt T a' w' _ yH k2 (by rw [h3,FE]; omega) (k4 _ _ _ HS hP) (by simp [aN]) (fun x=>by rw [h3]; exact aag aj aN hL x) (cH.BA ((hr e.1).1 gS))
theorem aah{l:List Oper}{σ:List Nat}:∀ {pre dn uV:List Nat},te σ l dn pre=some uV->uV.length=dn.length+pre.length
 | [],dn,uV,h=>by unfold te at h; cases h; rfl
 | oi::pre,dn,uV,h=>by
  unfold te at h;split at h
  . split at h
    . rw [aah h,FE]; simp; omega
    . cases h
  . cases h
theorem Q9(aA:cS P C.ty)(aC:mK P C w0 Φ){ops l:List Oper}{σ:List Nat}{k:Sx->Fm}{uV:List Nat}(hle:uV.length<=l.length)(jc:fp σ ops.length=true)(hl:l=ck σ ops)(gr:∀ (j:Nat) (o) cs b,l.toArray[j]? = some o->o.op ≠ .select cs b)(hQ:∀ c a w,¬ Q (.panic c) a w)(hk:∀ fuel S' a' w' listed,(k S').P->aP w0 Φ N B S' a' w'->uV.length+fuel=l.length->listed.size=l.length->(∀ i,LL listed i=bF i uV)->qo .any l.toArray listed->wpAnyIn Fence.wide 0 P .any l.toArray Q fuel listed a' w') :
 ∀ (pre) (fuel) (dn) (S) (a) (w) (listed),te σ l dn pre=some uV->(eP C N B ops (bo pre .nil) S k).P->aP w0 Φ N B S a w->dn.length+fuel=l.length->listed.size=l.length->(∀ i,LL listed i=bF i dn)->qo .any l.toArray listed->wpAnyIn Fence.wide 0 P .any l.toArray Q fuel listed a w
 | [],fuel,dn,S,a,w,listed,ki,hP,H,hlen,aN,hL,cH=>by
  unfold te at ki;cases ki;unfold bo eP at hP;exact hk fuel S a w listed hP H hlen aN hL cH
 | oi::pre,fuel,dn,S,a,w,listed,ki,hP,H,hlen,aN,hL,cH=>by
  have hr:=Cy (l:=l) aN hL;unfold te at ki;split at ki
  . rename_i i lD;split at ki
    . rename_i hs;have hs:=eq_of_beq hs;unfold bo eP at hP
      cases ho:ops[oi]? with
      | none=>rw [ho] at hP; exact hP.elim
      | some o =>
       rw [ho] at hP;have ug:l[i]? = some (o5 σ o):=by rw [hl]; exact Fz hs ho
       have aj:=(cM.1 ug).1;have amy:i∈mF l dn:=by
        unfold At at lD;split at lD
        . cases lD
        . rename_i q hq; cases lD; rw [hq]; exact .head _
        . rename_i is h1 h2;split at lD
          . rename_i q hq; cases lD; exact (Fo hq).1
          . split at lD
            . rename_i q hq; cases lD; exact (Q8 hq).1
            . rw [lD]; exact .head _
       have qK:=(mem_ready.1 ((hr i).1 amy)).1
       cases fuel with
       | zero =>
        have h1:=aah ki;rw [FE] at h1;omega
       | succ fuel =>
        refine aaf aA aC gr hQ H aN hL cH (fun i2 vX gS => ?_) fun hn=>by rw [hn] at lD; cases lD
        rw [lD,kq] at vX;subst vX;refine⟨o5 σ o,fun S'=>eP C N B ops (bo pre .nil) S' k,ug,?_,fun S' a' w' HS Ra => ?_⟩
        . rw [hl];exact Ks (l:=ops) (o:=o) (K:=fun S'=>eP C N B ops (bo pre .nil) S' k) rfl rfl (Kz jc S o) (fun S hS=>by unfold ch; exact hS) hP
        . exact Q9 aA aC hle jc hl gr hQ hk pre fuel (wN i2 dn) S' a' w' _ ki Ra HS (by rw [FE]; omega) (by simp [aN]) (aag aj aN hL) (cH.BA ((hr i2).1 gS))
    . cases ki
  . cases ki
theorem amz{r:Option Nat}{id:Nat}(pW:∀ o∈ops,∀ c,o.op ≠ .defer c)(aA:cS P C.ty)(aC:mK P C w0 Φ)(kg:P.follows .mixedOrders=true){t:yf}(hQ:∀ c a w,¬ Q (.panic c) a w)(mM:QV (cb C) ops N t=true)(hk:∀ S' a' w',aP w0 Φ N B S' a' w'->(k S').P->Q .normal a' w')(h:(eP C N B ops (bo t.row .nil) S fun S'=>eP C N B ops (bo t.pre .nil) S' fun S'=>JH C N B ops t.eO S' fun S'=>eP C N B ops (bo t.post .nil) S' k).P)(H:aP w0 Φ N B S a w):(Code.region id ops.toArray true).wpIn (wd r) 0 P Q a w:=by
 unfold QV at mM;simp only [au] at mM;obtain⟨bS,bE,mM⟩:=mM
 cases ki:te t.sg (ck t.sg ops) (List.range t.row.length) t.pre with
 | none=>rw [ki] at mM; cases mM
 | some uV =>
 rw [ki] at mM;unfold ZN at mM;simp only [au,aI] at mM;obtain⟨hle,mM⟩:=mM;have hp:=bS;unfold Cj at hp;simp only [au,aI] at hp;have jc:=hp.2.2.1;have Fp:=hp.1;have bE:=FD bE;have cO:(ck t.sg ops).length=t.sg.length:=by unfold ck; simp
 have uQ:∀ {dn:List Nat},dn.length<=(ck t.sg ops).length->Kr t.sg (ck t.sg ops) dn t.post=true->(∀ (j:Nat) (o:Oper) cs b,(ck t.sg ops).toArray[j]? = some o->o.op ≠ .select cs b)->∀ fuel S' a' w' listed,(eP C N B ops (bo t.post .nil) S' k).P->aP w0 Φ N B S' a' w'->dn.length+fuel=(ck t.sg ops).length->listed.size=(ck t.sg ops).length->(∀ i,LL listed i=bF i dn)->qo .any (ck t.sg ops).toArray listed->wpAnyIn Fence.wide 0 P .any (ck t.sg ops).toArray Q fuel listed a' w':=by
  intro dn Ay ns gr fuel S' a' w' listed hP HS hlen aN hL cH;unfold Kr at ns
  cases KL:te t.sg (ck t.sg ops) dn t.post with
  | none=>rw [KL] at ns; cases ns
  | some dn3 =>
   rw [KL] at ns;dsimp only at ns;simp only [Bool.and_eq_true,beq_iff_eq,List.isEmpty_iff] at ns;refine Q9 aA aC oo jc rfl gr hQ (fun fuel S' a' w' listed hP HS hlen aN pY cH => ?_) t.post _ _ S' a' w' listed KL hP HS hlen aN hL cH;obtain rfl:fuel=0:=oo
   have hr:=Cy (l:=ck t.sg ops) aN pY;exact⟨Be.2 fun i hi=>(by have:=(hr i).2 hi; rw [ns.2] at this; cases this),hk _ _ _ HS hP⟩
 refine ZH pW (late:=fun S'=>eP C N B ops (bo t.pre .nil) S' fun S'=>JH C N B ops t.eO S' fun S'=>eP C N B ops (bo t.post .nil) S' k) aA aC kg hQ bS (fun S' a' w' listed hP HS aN pY fi gr => ?_) ?_ H
 . refine Q9 aA aC hle jc rfl gr hQ (fun fuel S' a' w' listed hP HS aai aN pY cH => ?_) t.pre _ _ S' a' w' listed ki hP HS (by rw [Vu]; exact Nat.add_sub_cancel' Fp) aN (fun i=>by rw [pY,ZD]) ?_
   rotate_left
   . intro j oj eo ui e he hb;have KK:(ck t.sg ops)[j]? = some oj:=by simpa using eo
     have h6:=pY j;have h7:=fi j oj KK e he hb;have h8:=pY e.on;unfold LL at h6 h8;rw [h6] at ui;simp only [aI] at ui;rw [h8];simp only [aI];omega
   unfold JH at hP
   cases hn:t.eO with
   | nil =>
    rw [hn] at hP mM;dsimp only at hP mM;exact uQ hle mM gr fuel S' a' w' listed hP HS aai aN pY cH
   | cons nd r =>
    rw [hn] at hP mM;dsimp only at hP mM;simp only [Bool.and_eq_true] at mM;obtain⟨KM,yI,amA,gD⟩:=mM;split at hP
    . rename_i hc;simp only [au,aI] at hc;obtain⟨kJ,hB,uS⟩:=hc;split at hP
      . rename_i eJ amB;obtain⟨hlen,hold,pO⟩:=aac amB;obtain⟨m,hm,⟨ndm,amC,amD⟩,cr⟩:=aae hP;have lX:m+1=(nd::r).length:=by
         rcases cw m r.length with h1|h1
         . have h2:ndm∈(nd::r).dropLast:=by
            refine gX (i:=m) ?_;rw [List.getElem?_dropLast,aw (by simpa using h1)];exact amC
           have h3:=dK.1 yI ndm h2;rw [amD] at h3;cases h3
         . simp only [c9] at hm ⊢; omega
        have amE:∀ S0,Φ S0->∀ l r,S0.pl l=some r->l<S'.n:=fun S0 hS l r h=>iP (aC.pl S0 hS l r h) kJ;have KM:=FD KM;have h0:eJ[0]? = some (wC nd.ks S',[]):=by rw [hold 0 (by simp)]; rfl
        refine amw (k:=fun S'=>eP C N B ops (bo t.post .nil) S' k) aA aC jc rfl gr hQ (fun fuel ndl S' a' w' listed gU wP hP HS hlen aN hL cH => ?_) (fun nd iM=>dK.1 amA nd iM) (eJ:=eJ) (fun j ndj hj => ?_) _ 0 nd (wC nd.ks S',[]) a' w' listed rfl h0 (by rw [KM]; exact aai) (Z9 HS) aN (fun i=>by rw [pY,KM]) cH
        . have x7:(nd::r).getLast? = some ndl:=by
           rcases ku.1 (by rw [List.dropLast_concat_getLast (List.cons_ne_nil nd r)]; exact gU) with h1|h1
           . have h3:=dK.1 yI ndl h1;rw [wP] at h3;cases h3
           . rw [kq] at h1;rw [h1];exact List.getLast?_eq_some_getLast _
          rw [x7] at gD;exact uQ oo gD gr fuel S' a' w' listed hP HS hlen aN hL cH
        have N0:j<=m:=by have:=(cM.1 hj).1; omega
        obtain⟨Sj,k1,k2,k3,k4⟩:=cr j ndj N0 hj;rw [hZ] at k1 k4;refine⟨Sj,k1,k3,fun e he => ?_⟩;obtain⟨o,T,q1,q2,q3⟩:=k4 e he;refine⟨o,T,q1,q2,?_⟩;have amG:EW B T.1=true:=by
         have aj:e.2.2<(nd::r).length:=by
          have:=(cM.1 q2).1;rw [hlen] at this;simpa [VD] using this
         obtain⟨T',p1,p2,_⟩:=cr e.2.2 _ oo (bp aj);rw [hZ,q2] at p1;cases p1;exact p2
        cases hu:EV (nd::r) e.2.2 j e.2.1 with
        | false =>
         rw [hu] at q3;exact⟨_,q3,fun S2 a2 w2 H2 Ra=>ams amE hB uS amG Ra H2⟩
        | true =>
         rw [hu] at q3;dsimp only at q3;unfold EV at hu
         cases yH:(nd::r)[e.2.2]? with
         | none=>rw [yH] at hu; cases hu
         | some nt =>
          rw [yH] at hu;simp only [au,b9,iG,Na] at hu
          cases hz:e.2.2 with
          | zero=>exact absurd hz hu.2.2
          | succ z =>
           rw [hz] at yH q2;obtain⟨p,o2,S2,p1,p2,p3,q,p4⟩:=pO z nt (by simpa using yH);rw [hu.1,k1] at p1;cases p1;rw [hu.2.1,q1] at p2;cases p2;have hT:T=(wC nt.ks S2,q):=by
            have:(1+z)=z+1:=oo
            simp only [c9,fE,hZ,this] at p4;rw [q2] at p4;exact Option.some.inj p4
           refine⟨fun S3 => .all Unit (fun _=>S3≠S2) fun _ => .ff 0,amt p3 q3 (fun _ aT=>aT rfl),fun S3 a3 w3 H3 hP3 => ?_⟩;have:S3=S2:=aw4 fun aT=>hP3 () aT;subst this;rw [hT];exact Z9 H3
      . exact hP.elim
    . exact hP.elim
 . rw [bE] at h;refine KA jc (t.sg.take t.row.length) _ _ _ S (by rw [c6,c6,cO]) (fun q o hq=>⟨q,?_,?_⟩) (fun S' qG => ?_) h
   . exact ZS
   . rw [eC] at hq;split at hq
     . exact hq
     . cases hq
   . unfold eP at qG;exact qG
end
def Pm.add(S:Pm)(o f:Nat->Prop)(i:World->Prop)(ds:List Deferred)(fm:Nat->Option Value)(h1:∀ b,o b->f b)(h2:∀ w b,i w->f b->b<w.heap.size)(h3:∀ w w':World,i w->w'.os=w.os->w'.tape=w.tape->w'.output=w.output->w.heap.size<=w'.heap.size->(∀ b,f b->w'.heap[b]? = w.heap[b]?)->i w'):Pm where
 rd:=S.rd
 pl:=S.pl
 fx:=S.fx
 ex:=S.ex
 jK b:=S.jK b\/f b
 own b:=S.own b\/o b
 inv w:=S.inv w/\i w
 ds:=ds
 fm:=fm
 yc b h:=h.imp (S.yc b) (h1 b)
 oa w b h k:=k.elim (S.oa w b h.1) (h2 w b h.2)
 yd w w' h e1 e2 e3 e4 k:=⟨S.yd w w' h.1 e1 e2 e3 e4 fun b hb=>k b (.inl hb),h3 w w' h.2 e1 e2 e3 e4 fun b hb=>k b (.inr hb)⟩
theorem CE{w:World}{o:Obj}(h:w.heap[b]? = some o):b<w.heap.size:=(jz.1 h).1
def Pm.mark(S:Pm)(D:Nat):Pm:=S.add (· = D) (· = D) (fun w=>w.heap[D]? = some (.deferred (some []))) (⟨.collected D,#[]⟩::S.ds) S.fm (fun _ h=>h) (fun _ _ h e=>by subst e; exact CE h) fun _ _ h _ _ _ _ k=>(k D rfl).trans h
def Pm.dW(S:Pm)(D l:Nat)(rec:Loop)(fm:Nat->Option Value):Pm:=S.add (fun b=>b=D\/b=l) (fun b=>b=D\/b=l) (fun w=>w.heap[D]? = some (.deferred (some []))/\w.heap[l]? = some (.loop rec)) [] fm (fun _ h=>h) (fun _ _ h e=>by rcases e with rfl|rfl<;>first|exact CE h.1|exact CE h.2) fun _ _ h _ _ _ _ k=>⟨(k D (.inl rfl)).trans h.1,(k l (.inr rfl)).trans h.2⟩
def Pm.FI(S:Pm)(O R:Nat->Prop)(W:World)(yJ:∀ b,O b->R b):Pm:=S.add (fun b=>b<W.heap.size/\¬ R b) (fun b=>b<W.heap.size/\¬ O b) (fun w=>(w.os=W.os/\w.tape=W.tape/\w.output=W.output)/\W.heap.size<=w.heap.size/\∀ b,b<W.heap.size->¬ O b->w.heap[b]? = W.heap[b]?) S.ds S.fm (fun b h=>⟨h.1,fun k=>h.2 (yJ b k)⟩) (fun _ _ h e=>iP e.1 h.2.1) fun _ _ h e1 e2 e3 e k=>⟨⟨e1.trans h.1.1,e2.trans h.1.2.1,e3.trans h.1.2.2⟩,e8 h.2.1 e,fun b hb hO=>(k b ⟨hb,hO⟩).trans (h.2.2 b hb hO)⟩
section
variable{P:Program}{w w' w0:World}{ρ ρ':Nat->Option Rl}{base kc n:Nat}{ro ro':Nat->Prop}{S0 S1:Pm}{Φ : Pm->Prop}{N:Nat}{B:Bs}{S:Sx}{a a':Act}{F:Fx}
theorem bh.jE(H:bh w0 S0 N B S a w ρ ro)(gS:S1.rd=S0.rd)(cO:S1.pl=S0.pl)(iJ:S1.fx=S0.fx)(hex:S1.ex=S0.ex)(hi:S1.inv w)(hd:a'.defers=S1.ds)(ht:a'.tmps=a.tmps)(hf:∀ l r b,ρ l=some r->r.ca=some b->¬ S1.jK b)(ho:∀ b,ro b->¬ S1.own b)(hm:∀ d v,S1.fm d=some v->a.tmps[d]? = some v/\(ak B.t d).isSome=true):bh w0 S1 N B S a' w ρ ro :=
 ⟨⟨H.from_.os,H.from_.tape,H.from_.output,H.from_.size,fun k hk hn hx=>H.from_.block k hk (by rw [<- cO]; exact hn) (by rw [<- hex]; exact hx),hi⟩,by rw [ht]; exact H.size,hd,H.gn,fun d x h=>by rw [ht]; exact H.tm d x h,H.en,H.apart,H.fresh,fun l r b h1 h2=>⟨(H.own l r b h1 h2).1,(H.own l r b h1 h2).2.1,by rw [cO]; exact (H.own l r b h1 h2).2.2.1,hf l r b h1 h2⟩,fun b hb=>⟨by rw [gS]; exact (H.eN b hb).1,ho b hb⟩,by rw [cO,iJ]; exact H.dC,H.jL,H.jM,fun d v h=>by rw [ht]; exact hm d v h⟩
theorem bh.Co(H:bh w0 S0 N B S a w ρ ro)(h1:w'.os=w.os)(h2:w'.tape=w.tape)(h3:w'.output=w.output)(h4:w.heap.size<=w'.heap.size)(hk:∀ b,b<w.heap.size->b<w0.heap.size\/ro b\/(∃ l r,ρ l=some r/\r.ca=some b)\/S0.jK b->w'.heap[b]? = w.heap[b]?):bh w0 S0 N B S a w' ρ ro:=by
 have hw:∀ b,ro b->b<w.heap.size->w'.heap[b]? = w.heap[b]? := fun b hb aj=>hk b aj (.inr (.inl hb));have bC:∀ l r b,ρ l=some r->r.ca=some b->w'.heap[b]? = w.heap[b]? := fun l r b q1 q2=>hk b (H.own l r b q1 q2).1 (.inr (.inr (.inl ⟨l,r,q1,q2⟩)));refine⟨⟨h1.trans H.from_.os,h2.trans H.from_.tape,h3.trans H.from_.output,e8 H.from_.size h4,fun k q1 q2 q3=>(hk k (iP q1 H.from_.size) (.inl q1)).trans (H.from_.block k q1 q2 q3),S0.yd _ _ H.from_.inv h1 h2 h3 h4 fun b hb=>hk b (S0.oa _ _ H.from_.inv hb) (.inr (.inr (.inr hb)))⟩,H.size,H.defers,fun b hb=>iP (H.gn b hb) h4,fun d x h => ?_,fun l e h=>(H.en l e h).mono hw bC (Ext.refl _) fun _ h=>h,H.apart,H.fresh,fun l r b q1 q2=>⟨iP (H.own l r b q1 q2).1 h4,(H.own l r b q1 q2).2⟩,H.eN,H.dC,H.jL,H.jM,H.fm⟩;obtain⟨u,q1,q2⟩:=H.tm d x h;exact⟨u,q1,q2.mono hw (Ext.refl _) (az _) fun _ h=>h⟩
theorem bh.more(H:bh w0 S0 N B S a w ρ ro){rr:Nat->Prop}(h:∀ b,rr b->b<w.heap.size/\(∀ l r,ρ l=some r->r.ca≠some b)/\(b<w0.heap.size->S0.rd b)/\¬ S0.own b):bh w0 S0 N B S a w ρ fun b=>ro b\/rr b:=by
 refine⟨H.from_,H.size,H.defers,fun b hb=>hb.elim (H.gn b) fun hb=>(h b hb).1,fun d x hx => ?_,fun l e he=>(H.en l e he).mono (fun _ _ _=>rfl) (fun _ _ _ _ _=>rfl) (Ext.refl _) fun _ h => .inl h,H.apart,H.fresh,fun l r b q1 q2=>⟨(H.own l r b q1 q2).1,fun hb=>hb.elim (H.own l r b q1 q2).2.1 fun hb=>(h b hb).2.1 l r q1 q2,(H.own l r b q1 q2).2.2⟩,fun b hb=>hb.elim (H.eN b) fun hb=>(h b hb).2.2,H.dC,H.jL,H.jM,H.fm⟩;obtain⟨u,q1,q2⟩:=H.tm d x hx;exact⟨u,q1,q2.mono (fun _ _ _=>rfl) (Ext.refl _) (az _) fun _ h => .inl h⟩
theorem bh.frame(H:bh w0 S0 N B S a w ρ ro)(hd:a'.defers=S0.ds)(aN:a'.tmps.size=N)(qM:∀ d,(ak B.t d).isSome=true->S0.fm d=a'.tmps[d]?):bh w0 S0 N B ⟨[],S.e,S.n⟩ a' w ρ ro:=by
 refine⟨H.from_,aN,hd,H.gn,fun d x h => ?_,H.en,H.apart,H.fresh,H.own,H.eN,H.dC,fun _ _ _=>rfl,H.jM,fun d v h=>⟨by rw [<- qM d (H.fm d v h).2]; exact h,(H.fm d v h).2⟩⟩;have h':ak B.t d=some x:=h;obtain⟨u,q1,q2⟩:=H.tm d x (by unfold dH; rw [H.jL d x h']; exact h');refine⟨u,?_,q2⟩;have aj:d<a'.tmps.size:=by
  have:=(jz.1 q1).1;rw [aN,<- H.size];exact this
 have h1:=qM d (by rw [h']; rfl);rw [pA aj] at h1 ⊢;have:=(H.fm d _ h1).1;rw [q1] at this;exact this.symm
theorem uW:∀ {l:List AV} {j:Nat} {x:AV},AV.om l=true->l[j]? = some x->AV.qC x=true
 | y::l,0,x,h,hx=>by
  simp only [oH,bI] at hx;subst hx;simp only [AV.om,au] at h;exact h.1
 | y::l,j+1,x,h,hx=>by
  simp only [AV.om,au] at h;exact uW h.2 (by simpa using hx)
 | [],j,x,_,hx=>by simp at hx
theorem Rb(t)(x):AV.om (aO false t x)=true:=by cases t<;>rfl
theorem ah.wu{x:AV}{v:Value}(h:ah w ρ base ro x v)(hx:AV.qC x=true):ah w ρ kc ro x v:=by
 induction h with
 | un=>exact .un _
 | fJ=>exact .fJ _
 | int=>exact .int _ _
 | lit=>exact .lit _ _
 | bool=>exact .bool _
 | aG=>exact .aG _
 | str=>exact .str _
 | nil=>exact .nil
 | sl fr t l A c css hl hc hr lr cK h ih =>
  have amI:fr=false:=by simpa [AV.qC] using hx
  subst amI;exact .sl false t l A c css hl hc hr lr (fun h=>by cases h) fun k cs j y v h1 h2 h3=>ih k cs j y v h1 h2 h3 (uW (Rb _ _) h2)
 | wide fr t l n A c hn h ih=>exact .wide fr t l n A c hn (ih FJ)
 | bg cells off b o cs hr aj hl hc h ih=>exact .bg cells off b o cs hr aj hl hc fun j y v h1 h2=>ih j y v h1 h2 (uW FJ h1)
 | ptr l off b h=>exact .ptr _ _ _ h
 | fw l off n b h=>exact .fw _ _ _ _ h
 | own l A n c h=>exact .own _ _ _ _ h
 | cY t l k off A n c b h hA h0 hn=>exact .cY _ _ _ _ _ _ _ _ h hA h0 hn
 | cE t l a b A n c h bm=>exact .cE _ _ _ _ _ _ _ h bm
 | mp l b h=>exact .mp _ _ h
 | bq l b h=>exact .bq _ _ h
 | it l l2 b h=>exact .it _ _ _ h
 | agg l vs hl h ih=>exact .agg _ _ hl fun j y v h1 h2=>ih j y v h1 h2 (uW FJ h1)
 | aU l vs hl h ih=>exact .aU _ _ hl fun j y v h1 h2=>ih j y v h1 h2 (uW FJ h1)
 | fn f dw vs hl h ih=>exact .fn _ _ _ hl fun j y v h1 h2=>ih j y v h1 h2 (uW FJ h1)
theorem aal{l:List AV}{vs:List Value}(h:aQ w (fun _=>none) 0 ro l vs)(hx:AV.om l=true)(hr:∀ b,ro b->ro' b):aQ w ρ kc ro' l vs :=
 ⟨h.1,fun j x v h1 h2=>((h.2 j x v h1 h2).wu (uW hx h1)).mono (fun _ _ _=>rfl) (fun _ _ h=>by cases h) (az _) hr⟩
theorem aam:∀ {ps:List Nat} {xs:List AV} {vs:List Value} {S S':Sx} {a:Act},EZ B N ps xs S=some S'->aQ w ρ w0.heap.size ro xs vs->bh w0 S0 N B S a w ρ ro->ps.length=vs.length/\bh w0 S0 N B S' { a with tmps:=(ps.zip vs).foldl (fun t p=>t.setIfInBounds p.1 p.2) a.tmps } w ρ ro
 | [],[],vs,S,S',a,h,hE,H=>by
  cases h;rw [hE.none];exact⟨rfl,H⟩
 | p::ps,x::xs,vs,S,S',a,h,hE,H=>by
  unfold EZ at h;split at h
  . rename_i S2 h2;obtain⟨v,us,rfl,hx,na⟩:=hE.head;obtain⟨q1,q2⟩:=aam h na (H.put h2 hx);exact⟨by simp [q1],q2⟩
  . cases h
 | [],_::_,_,_,_,_,h,_,_=>by cases h
 | _::_,[],_,_,_,_,h,_,_=>by cases h
end
end Go.Proofs.YtlpikgchnjajmaaGreat
