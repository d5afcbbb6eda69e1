/-
  The abstract run: places are named anew; a region that is told by what is done of it is sound.
-/
import Derived.Test.YtamjbkaclhgffaaGreatSi13
import Derived.Sort.LoopGhostIn
set_option linter.all false
namespace Go.Proofs.YtamjbkaclhgffaaGreat
open Go.RowKit
variable{listed:Array Bool}{dn ks σ:List Nat}{l ops:List Oper}{b fuel i j n n0 nb q:Nat}{S':Sx}
section
variable{P:Program}{w w' w0:World}{ρ ρ':Nat->Option Rl}{base:Nat}{ro ro':Nat->Prop}{S0:Pm}{Φ : Pm->Prop}{N:Nat}{B:Bs}{S:Sx}{a a0:Act}{C:Cx}{Q:Exit->Act->World->Prop}
theorem RF(g):∀ (l) (d),aj (yA g l) d=(aj l d).map (AV.fW g)
 | [],d=>rfl
 | (k,x)::l,d=>by
  unfold yA;rw [cm,cm,RF g l d];split<;>rfl
theorem RG{g g':Nat->Nat}(h1:∀ l,g' (g l)=l)(h2:∀ l,g (g' l)=l):∀ (l) (d),aj (ko g l) d=(aj l (g' d)).map (En.fW g)
 | [],d=>rfl
 | (k,x)::l,d=>by
  unfold ko;rw [cm,cm,RG h1 h2 l d];by_cases e:k=g' d
  . rw [aC e,aC (by rw [e,h2])]; rfl
  . rw [aw e,aw (fun q=>e (by rw [<- q,h1]))]
theorem bm.fW{p:Nat->Bool}{g g':Nat->Nat}(h1:∀ l,g' (g l)=l)(h2:∀ l,g (g' l)=l)(hp:∀ l,p l=true->g l=l)(cH:∀ l,S.n<=l->g l=l)(hB:lR p B.t=true)(uY:jv p B.e=true)(cU:∀ l r,S0.pl l=some r->p l=true)(H:bm w0 S0 N B S a w ρ ro):bm w0 S0 N B ⟨yA g S.t,ko g S.e,S.n⟩ a w (fun l => ρ (g' l)) ro:=by
 have e8:∀ l,g l=l->g' l=l:=fun l h=>by have:=h1 l; rwa [h] at this
 have hρ:∀ l r,ρ l=some r -> ρ (g' (g l))=some r:=fun l r h=>by rw [h1]; exact h
 have hρf:∀ l r,ρ l=some r->p l=true -> ρ (g' l)=some r:=fun l r h hl=>by rw [e8 l (hp l hl)]; exact h
 refine⟨H.from_,H.size,H.defers,H.gu,fun d x h => ?_,fun l e h => ?_,fun l l' r r' b aT q1 q2 q3=>H.apart (g' l) (g' l') r r' b (fun e=>aT (by rw [<- h2 l,<- h2 l',e])) q1 q2 q3,fun l hl=>by rw [e8 l (cH l hl)]; exact H.fresh l hl,fun l r b q1 q2 => ?_,H.ew,fun l r q1 q2=>by rw [e8 l (hp l (cU l r q1))]; exact H.dz l r q1 q2,fun d x h=>by show aj (yA g S.t) d=none; rw [RF,H.jL d x h]; rfl,fun l e h => ?_,H.fm⟩
 . unfold dD at h;dsimp only at h;rw [RF] at h
   cases hS:aj S.t d with
   | some y =>
    rw [hS] at h;simp only [du,bF] at h;subst h;obtain⟨u,q1,q2⟩:=H.tm d y (by unfold dD; rw [hS]);exact⟨u,q1,q2.fW hρ⟩
   | none =>
    rw [hS] at h;simp only [B5] at h;obtain⟨u,q1,q2⟩:=H.tm d x (by unfold dD; rw [hS]; exact h);exact⟨u,q1,q2.yG (KU hB h) hρf⟩
 . unfold bf at h;dsimp only at h;rw [RG h1 h2] at h
   cases hS:aj S.e (g' l) with
   | some y =>
    rw [hS] at h;simp only [du,bF] at h;subst h;have q:=H.en (g' l) y (by unfold bf; rw [hS]);have q2:=q.fW (ρ':=fun l => ρ (g' l)) (g:=g) hρ;rwa [h2] at q2
   | none =>
    rw [hS] at h;simp only [B5] at h;have hl:=QL uY h;have cg:=e8 l (hp l hl.1);rw [cg] at hS;exact (H.en l e (by unfold bf; rw [hS]; exact h)).fixed hl.1 hl.2 hρf
 . obtain⟨k1,k2,k3⟩:=H.own (g' l) r b q1 q2;refine⟨k1,k2,k3.1.imp id ?_,k3.2⟩
   rintro⟨r0,k4,k5⟩
   have:g (g' l)=g' l:=hp _ (cU _ _ k4);rw [h2] at this;rw [<- this] at k4;exact⟨r0,k4,k5⟩
 . show aj (ko g S.e) l=none
   have hl:=QL uY h;rw [RG h1 h2,e8 l (hp l hl.1),H.jM l e h];rfl
theorem an8(p q l):yB p q l=if l=p then q else if l=q then p else l:=by
 unfold yB;by_cases h1:l=p
 . simp [h1]
 . by_cases h2:l=q
   . simp [h2]
   . rw [aw h1,aw h2,show (l==p)=false by simpa using h1,show (l==q)=false by simpa using h2]; rfl
theorem abe(p q l):yB p q (yB p q l)=l:=by
 simp only [an8];by_cases h1:l=p
 . rw [aC h1];by_cases h2:q=p
   . rw [aC h2,h1,h2]
   . rw [aw h2,aC rfl,h1]
 . rw [aw h1];by_cases h2:l=q
   . rw [aC h2,aC rfl,h2]
   . rw [aw h2,aw h1,aw h2]
theorem abf{p l:Nat}(h:wE p q l=true):yB p q l=l:=by
 unfold wE at h;unfold yB;simp only [jf,kf] at h;rw [h.1,h.2];rfl
theorem an9{p:Nat}(cU:∀ S0,Φ S0->∀ l r,S0.pl l=some r->l<nb)(H:aS w0 Φ N B S a w):aS w0 Φ N B (Qf nb B p q S) a w:=by
 unfold Qf
 cases hc:decide (nb<=p)&&(decide (nb<=q)&&(decide (p<S.n)&&(decide (q<S.n)&&(lR (wE p q) B.t&&jv (wE p q) B.e)))) with
 | false=>exact H
 | true =>
  simp only [ax,aL] at hc;obtain⟨h1,h2,h3,h4,h5,h6⟩:=hc;have jq:∀ {l},l≠p->l≠q->wE p q l=true:=fun h h'=>by unfold wE; simp [h,h']
  obtain⟨S0,hS,ρ,ro,HR⟩:=H;exact⟨S0,hS,_,ro,HR.fW (p:=wE p q) (abe p q) (abe p q) (fun l hl=>abf hl) (fun l hl=>abf (jq oo oo)) h5 h6 fun l r hr=>by
   have:=cU S0 hS l r hr;exact jq oo oo⟩
theorem Ln{nb:Nat}{prs:Sx->List (Nat×Nat)}(cU:∀ S0,Φ S0->∀ l r,S0.pl l=some r->l<nb):∀ (n) {S:Sx},aS w0 Φ N B S a w->aS w0 Φ N B (FE nb B prs n S) a w
 | 0,_,H=>H
 | n+1,S,H=>by
  unfold FE;split
  . exact H
  . exact Ln cU n (an9 cU H)
theorem RH{l:Nat}(h:l<n0):gO n0 σ l=l:=by
 unfold gO;simp [h]
theorem RI{l:Nat}(h:n0 + σ.length<=l):gO n0 σ l=l:=by
 unfold gO;have:¬ l<n0:=oo
 simp only [this,vP];rw [sQ oo]
def gB(n0:Nat)(σ:List Nat)(l:Nat):Nat:=if l<n0\/n0 + σ.length<=l then l else n0+gV σ (l - n0)
theorem aoa(h:fe σ n=true)(hj:j<n):gV σ j<n /\ σ[gV σ j]? = some j:=by
 have h1:=aaW h hj;have h2 : σ.length=n:=by
  unfold fe at h;simp only [ax,cb] at h;exact h.1.1
 exact⟨by rw [<- h2]; exact (cF.1 h1).1,h1⟩
theorem aob{k:Nat}(h:fe σ n=true)(hk:k<n):∃ i,σ[k]? = some i/\i<n/\gV σ i=k:=by
 unfold fe at h;simp only [ax,dL,gA] at h;have h1:=h.2 k hk
 cases hs : σ[k]? with
 | none=>rw [hs] at h1; cases h1
 | some i =>
  rw [hs] at h1;simp only [ax,aL,cb] at h1;exact⟨i,rfl,h1.1,h1.2⟩
theorem aoc(h:fe σ σ.length=true)(l):gB n0 σ (gO n0 σ l)=l:=by
 rcases b9 l n0 with h1|h1
 . rw [RH h1]; unfold gB; rw [aC (.inl h1)]
 . rcases b9 l (n0 + σ.length) with h2|h2
   . obtain⟨i,h3,h4,h5⟩:=aob h (k:=l - n0) oo;have:gO n0 σ l=n0+i:=by
      unfold gO;have:¬ l<n0:=oo
      simp only [this,vP];rw [h3]
     rw [this];unfold gB;rw [aw oo,ai1,h5];omega
   . rw [RI h2]; unfold gB; rw [aC (.inr h2)]
theorem aod(h:fe σ σ.length=true)(l):gO n0 σ (gB n0 σ l)=l:=by
 unfold gB;split
 . rename_i h1;rcases h1 with h1|h1
   . exact RH h1
   . exact RI h1
 . rename_i h1;obtain⟨h2,h3⟩:=aoa h (j:=l - n0) oo;unfold gO;have:¬ n0+gV σ (l - n0)<n0:=oo
   simp only [this,decide_false];rw [Nat.add_sub_cancel_left,h3];dsimp only;omega
theorem Lo{k:Nat}{e:En}:∀ {l:List (Nat×En)} {ks:List Nat},aj (nW ks l) k=some e->bD k ks=false/\aj l k=some e
 | [],_,h=>by cases h
 | (j,y)::l,ks,h=>by
  unfold nW at h;rw [cm];have aoe:∀ {ks:List Nat},bD k (j::ks)=false->bD k ks=false/\j≠k:=fun h=>by
   rw [Da,kf] at h;exact⟨h.2,by simpa using h.1⟩
  have RJ:aj (nW (j::ks) l) k=some e->bD k ks=false/\(if j=k then some y else aj l k)=some e:=fun h=>by
   obtain⟨h1,h2⟩:=Lo h;obtain⟨h3,h4⟩:=aoe h1;rw [aw h4];exact⟨h3,h2⟩
  have fg:aj ((j,y)::nW (j::ks) l) k=some e->bD j ks=false->bD k ks=false/\(if j=k then some y else aj l k)=some e:=fun h9 hj=>by
   rw [cm] at h9;by_cases e1:j=k
   . rw [aC e1] at h9 ⊢;exact⟨by rw [<- e1]; exact hj,h9⟩
   . rw [aw e1] at h9;exact RJ h9
  cases hj:bD j ks with
  | true =>
   rw [hj] at h;obtain⟨h1,h2⟩:=Lo h;rw [aw (fun e=>by subst e; rw [h1] at hj; cases hj)];exact⟨h1,h2⟩
  | false =>
   rw [hj] at h
   cases y with
   | bo _ _ _=>exact RJ h
   | dead=>exact RJ h
   | ft _=>exact fg h hj
   | box _ _=>exact fg h hj
   | row _ _ _ _=>exact fg h hj
   | map _ _ _ _ _ _=>exact fg h hj
   | iter _ _ _ _=>exact fg h hj
theorem abg(H:aS w0 Φ N B S a w):aS w0 Φ N B (wD ks S) a w:=by
 obtain⟨S0,hS,ρ,ro,H⟩:=H;refine⟨S0,hS,ρ,ro,H.from_,H.size,H.defers,H.gu,fun d x h=>H.tm d x ?_,fun l e h=>H.en l e ?_,H.apart,H.fresh,H.own,H.ew,H.dz,fun d x h => ?_,fun l e h => ?_,H.fm⟩
 . unfold dD wD at h;dsimp only at h;unfold dD
   cases hp:aj (pK ks S.t) d with
   | some y=>rw [hp] at h; rw [Ft hp]; exact h
   | none=>rw [hp] at h; rw [H.jL d x h]; exact h
 . unfold bf wD at h;dsimp only at h;unfold bf
   cases hp:aj (nW [] S.e) l with
   | some y=>rw [hp] at h; rw [(Lo hp).2]; exact h
   | none=>rw [hp] at h; rw [H.jM l e h]; exact h
 . exact Y5
 . show aj (nW [] S.e) l=none
   cases hp:aj (nW [] S.e) l with
   | none=>rfl
   | some y=>have:=(Lo hp).2; rw [H.jM l e h] at this; cases this
theorem aof{own:List Nat}{T:Sx×List Nat}(cU:∀ S0,Φ S0->∀ l r,S0.pl l=some r->l<n0)(hB:lR (cN n0) B.t=true)(uY:jv (cN n0) B.e=true)(hT:FC B T.1=true)(h:(FA B n0 own T S').P)(H:aS w0 Φ N B S' a w):aS w0 Φ N B T.1 a w:=by
 unfold FC at hT;simp only [ax] at hT;have jo:∀ {S':Sx},S'.n=T.1.n->aS w0 Φ N B S' a w->(m8 B S' T.1.t T.1.e).P->aS w0 Φ N B T.1 a w:=by
  intro S' hn H hP;obtain⟨S0,hS,ρ,ro,HR⟩:=H;obtain⟨ta,tb,e1,e2,e3⟩:=Lm hP;have HB:=HR.bare;obtain⟨tB,AK,AL,_,_⟩:=Lj HB (md := []) (aG := []) (aA _) B rfl;rw [<- hn] at hT;have:=HR.Rw hS (fun l r q1 q2 => ?_) e1 e2 e3 hT.1 hT.2.1 hT.2.2.1 hT.2.2.2 (fun d y hy => ?_) (fun l e he => ?_) fun _ h=>h
  . have he:(⟨T.1.t,T.1.e,S'.n⟩:Sx)=T.1:=by rw [hn]
    rwa [he] at this
  . have q3:=HR.dz l r q1 q2;exact abh
  . obtain⟨u,q1,q2⟩:=AK d y hy;exact⟨u,q1,q2,tB.t d y hy⟩
  . exact⟨AL l e he,tB.e l e he⟩
 unfold FA at h;split at h
 . rename_i hn;have Lg:S'.n=T.1.n:=eq_of_beq hn;split at h
   . exact jo Lg H h
   . split at h
     . rename_i hc;simp only [ax,aL] at hc;have hl:(tk T.2 [] own).length=own.length:=by
        have:=AF (σ:=tk T.2 [] own) (l:=own.map fun _=>Zf) (by simpa using hc.1);simpa using this
       have jb:fe (tk T.2 [] own) (tk T.2 [] own).length=true:=by rw [hl]; exact hc.1
       obtain⟨S0,hS,ρ,ro,HR⟩:=H;refine jo (S':=⟨yA (gO n0 (tk T.2 [] own)) S'.t,ko (gO n0 (tk T.2 [] own)) S'.e,S'.n⟩) Lg ⟨S0,hS,_,ro,HR.fW (p:=cN n0) (aoc jb) (aod jb) (fun l hl=>RH (by simpa [cN] using hl)) (fun l cg=>RI (by rw [hl]; omega)) hB uY fun l r q=>by simpa [cN] using cU S0 hS l r q⟩ h
     . exact h.elim
 . exact h.elim
theorem aog{o:Oper}{k1 k2:Sx->Fm}(hd:Km C N B l o S=some S')(h:(cd C N B l [o] S k1).P)(hk:(k2 S').P):(cd C N B l [o] S k2).P:=by
 unfold Km at hd;unfold cd at h ⊢;dsimp only at h ⊢
 cases hw:nU B S l o with
 | yes =>
  rw [hw] at h hd;dsimp only at h hd ⊢
  cases hs:mq C N B S o with
  | some f=>rw [hs] at hd; cases hd
  | none =>
   rw [hs] at h hd;dsimp only at h hd ⊢
   cases ht:nV C N B S o with
   | none=>rw [ht] at hd; cases hd
   | some r =>
    obtain⟨S2,vcs⟩:=r;rw [ht] at h hd;dsimp only at hd;cases hd
    cases vcs with
    | nil=>unfold cd; exact hk
    | cons c vcs=>exact⟨h.1,by unfold cd; exact hk⟩
 | no =>
  rw [hw] at h hd;dsimp only at h hd ⊢;rw [hd];unfold cd;exact hk
 | ask d c b=>rw [hw] at hd; cases hd
 | stuck=>rw [hw] at hd; cases hd
theorem Gg:∀ {l m:List Nat},qC l m=true->l=m
 | [],[],_=>rfl
 | x::l,y::m,h=>by
  simp only [qC,ax,cb] at h;rw [h.1,Gg h.2]
 | [],_::_,h=>by cases h
 | _::_,[],h=>by cases h
theorem abi{i x:Nat}:∀ {l:List Nat},bD x (wO i l)=(i==x||bD x l)
 | []=>rfl
 | k::l=>by
  unfold wO;split
  . rfl
  . rw [Da,Da,abi,Bool.or_left_comm]
theorem Gh{i:Nat}:∀ {l:List Nat},(wO i l).length=l.length+1
 | []=>rfl
 | k::l=>by
  unfold wO;split
  . rfl
  . simp [Gh]
theorem abj{ops:List Oper}:∀ {ez:List Nd} {acc cr:List (Sx×List Nat)},Fz C N B ops ez acc=some cr->cr.length=acc.length+ez.length/\(∀ t,t<acc.length->cr[t]? = acc[t]?)/\∀ (t) nd,ez[t]? = some nd->∃ p o S',cr[nd.up.1]? = some p/\ops[nd.up.2]? = some o/\Km C N B ops o p.1=some S'/\∃ q,cr[acc.length+t]? = some (wD nd.ks S',q)
 | [],acc,cr,h=>by
  unfold Fz at h;cases h;exact⟨by simp,fun _ _=>rfl,fun t nd h=>by simp at h⟩
 | nd::ez,acc,cr,h=>by
  unfold Fz at h;split at h
  . rename_i p o hp ho;split at h
    . rename_i S' hS;obtain⟨h1,h2,h3⟩:=abj h;have ah:nd.up.1<acc.length:=(cF.1 hp).1;refine⟨by rw [h1]; simp; omega,fun t ht => ?_,fun t Lq iK => ?_⟩
      . rw [h2 t (by simp; omega),qj ht]
      . cases t with
        | zero =>
         simp only [ox,bF] at iK;subst iK;refine⟨p,o,S',?_,ho,hS,p.2++List.replicate (S'.n - p.1.n) nd.up.2,?_⟩
         . rw [h2 _ (by simp; omega),qj ah]; exact hp
         . rw [h2 _ (by simp)]; simp
        | succ t =>
         obtain⟨p',o',S2,k1,k2,k3,q,k4⟩:=h3 t Lq (by simpa using iK);refine⟨p',o',S2,k1,k2,k3,q,?_⟩;rw [<- k4];congr 1;simp;omega
    . cases h
  . cases h
theorem abk{ops:List Oper}{n0 j:Nat}{ez:List Nd}{cr:List (Sx×List Nat)}{Sj:Sx×List Nat}{A:Fm}:∀ {es:List (Nat×Nat×Nat)},(Kn C N B ops n0 ez cr j Sj es A).P->A.P/\∀ e∈es,∃ o T,ops[e.2.1]? = some o/\cr[e.2.2]? = some T/\(match FB ez e.2.2 j e.2.1 with
 | true=>cd C N B ops [o] Sj.1 fun _ => .fin []
 | false=>cd C N B ops [o] Sj.1 fun S'=>FA B n0 (Sj.2++List.replicate (S'.n - Sj.1.n) e.2.1) T S').P
 | [],h=>⟨h,fun e he=>by cases he⟩
 | (i,oi,t)::es,h=>by
  unfold Kn at h;split at h
  . rename_i o T ho hT;obtain⟨h1,h2⟩:=abk h.2;refine⟨h1,fun e he => ?_⟩;rcases fM.1 he with rfl|he
    . exact⟨o,T,ho,hT,h.1⟩
    . exact h2 e he
  . exact h.elim
theorem abl{ops:List Oper}{n0:Nat}{ez:List Nd}{cr:List (Sx×List Nat)}{k:Sx->Fm}:∀ {r:List Nd} {j:Nat},(FD C N B ops n0 ez cr k j r).P->∃ m,m<r.length/\(∃ nd,r[m]? = some nd/\nd.ed = [])/\∀ (i) nd,i<=m->r[i]? = some nd->∃ Sj,cr[j+i]? = some Sj/\FC B Sj.1=true/\(nd.ed = []->(k Sj.1).P)/\∀ e∈nd.ed,∃ o T,ops[e.2.1]? = some o/\cr[e.2.2]? = some T/\(match FB ez e.2.2 (j+i) e.2.1 with
 | true=>cd C N B ops [o] Sj.1 fun _ => .fin []
 | false=>cd C N B ops [o] Sj.1 fun S'=>FA B n0 (Sj.2++List.replicate (S'.n - Sj.1.n) e.2.1) T S').P
 | [],j,h=>by unfold FD at h; exact h.elim
 | nd::r,j,h=>by
  unfold FD at h;split at h
  . rename_i Sj hj;split at h
    . rename_i aI;split at h
      . rename_i he;refine⟨0,by simp,⟨nd,rfl,he⟩,fun i Lq hi iK => ?_⟩;obtain rfl:i=0:=oo
        simp only [ox,bF] at iK;subst iK;exact⟨Sj,hj,aI,fun _=>h,fun e mw=>by rw [he] at mw; cases mw⟩
      . rename_i aT;obtain⟨h1,h2⟩:=abk h;obtain⟨m,h3,⟨nd2,h4,Gi⟩,h5⟩:=abl h1;refine⟨m+1,by simp; omega,⟨nd2,by simpa using h4,Gi⟩,fun i Lq hi iK => ?_⟩
        cases i with
        | zero =>
         simp only [ox,bF] at iK;subst iK;exact⟨Sj,hj,aI,fun e=>absurd e aT,h2⟩
        | succ i =>
         obtain⟨S2,k1,k2,k3,k4⟩:=h5 i Lq oo (by simpa using iK);refine⟨S2,by rw [<- k1]; congr 1; omega,k2,k3,fun e he => ?_⟩;have:=k4 e he;rwa [show j+1+i=j+(i+1) from oo] at this
    . exact h.elim
  . exact h.elim
theorem RK{l:List Oper}{done:List Nat}:∀ {is:List Nat} {i:Nat},Fy l done is=some i->i∈is/\P9 l done i=true
 | [],i,h=>by cases h
 | j::is,i,h=>by
  unfold Fy at h;split at h
  . rename_i hc;injection h with h;subst h;exact⟨.head _,hc⟩
  . obtain⟨h1,h2⟩:=RK h;exact⟨.tail _ h1,h2⟩
theorem abm(aE:cT P C.ty)(aF:nh P C w0 Φ)(gv:∀ (j:Nat) (o) cs b,l.toArray[j]? = some o->o.op ≠ .select cs b)(hQ:∀ c a w,¬ Q (.panic c) a w)(H:aS w0 Φ N B S a w)(aO:listed.size=l.length)(hL:∀ i,LL listed i=bD i dn)(cz:qp .any l.toArray listed)(ja:∀ i,i∈AI l dn->i∈mr l dn->∃ (o':Oper) (K:Sx->Fm),l[i]? = some o'/\(cd C N B l [o'] S K).P/\∀ S' a' w',aS w0 Φ N B S' a' w'->(K S').P->wpAnyIn Fence.wide 0 P .any l.toArray Q fuel (listed.setIfInBounds i true) a' w')(fv:AI l dn = []->Q .normal a w):wpAnyIn Fence.wide 0 P .any l.toArray Q (fuel+1) listed a w:=by
 have hr:=Db (l:=l) aO hL;have tC:∀ i,i∈AI l dn->i∈mr l dn->wpOpIn Fence.wide 0 P l.toArray Q i (wpAnyIn Fence.wide 0 P .any l.toArray Q fuel (listed.setIfInBounds i true)) a w:=by
  intro i hi gU;obtain⟨o',K,h1,h2,h3⟩:=ja i hi gU;exact aaF aE aF h1 h3 h2 H
 unfold AI at ja tC fv
 cases gU:mr l dn with
 | nil =>
  have Rn:Region.ready .any l.toArray listed = []:=BS.2 fun i hi=>by have:=(hr i).2 hi; rw [gU] at this; cases this
  rw [gU] at fv;exact⟨fun _=>fv rfl,fun i hi=>by rw [Rn] at hi; cases hi⟩
 | cons i is =>
  have gW:i∈mr l dn:=by rw [gU]; exact .head _
  rw [gU] at ja tC
  cases is with
  | nil =>
   refine⟨fun hn => ?_,fun j hj => ?_⟩
   . have:=(hr i).1 gW;rw [hn] at this;cases this
   . have:=(hr j).2 hj;rw [gU,jD] at this;subst this;exact tC _ (.head _) (.head _)
  | cons i2 is =>
   dsimp only at ja tC
   cases hf:yz l (i::i2::is) with
   | some q =>
    rw [hf] at ja tC;obtain⟨Gj,o2,d,pW,pU,hd,jx⟩:=FZ hf;obtain⟨o',K,h1,h2,h3⟩:=ja q (.head _) Gj;rw [pW] at h1;cases h1;obtain⟨v,S',hy,H',h'⟩:=aaG aE pU hd h2 H;have hq:=(hr q).1 (by rw [gU]; exact Gj);obtain⟨_,o3,Gk,mA⟩:=mem_ready.1 hq;have heq:o3=o2:=by
     have h1:l[q]? = some o3:=by simpa using Gk
     rw [pW] at h1;injection h1 with h1;exact h1.symm
    subst heq;refine wpAnyIn_first rfl Gk gv (fun c a w hq=>(hQ c _ w hq).elim) fuel listed a w (fun j oj dW aT eZ jq => ?_) hq ⟨hy,fun w=>Qm pU _ w⟩ ?_
    . rcases Rb jx pW FW aT with ⟨e,he,hb,uV⟩|⟨e,he,hb,uV⟩|h3
      . have h4:=mA e he hb;exact Rf
      . exact absurd uV (jq e he hb)
      . exact h3
    . exact h3 _ _ _ H' h'
   | none =>
    rw [hf] at ja tC;dsimp only at ja tC
    cases AM:Fy l dn (i::i2::is) with
    | some q =>
     rw [AM] at ja tC;obtain⟨Gj,qO⟩:=RK AM;have hw:=tC q (.head _) Gj;have hq:=(hr q).1 (by rw [gU]; exact Gj);unfold P9 at qO
     cases pW:l[q]? with
     | none=>rw [pW] at qO; cases qO
     | some o2 =>
      rw [pW] at qO;simp only [ax,dL,gA,gR,cb] at qO;obtain⟨hst,_,aoi⟩:=qO;have Gk:l.toArray[q]? = some o2:=by simpa using pW
      obtain⟨v,hy,hn⟩:=an5 Gk hst hQ hw;refine an6 Gk gv hQ fuel listed a w cz (fun j oj dW aT eZ Gf => ?_) hq hy hn;have Lr:l[j]? = some oj:=by simpa using dW
      have ah:=(cF.1 Lr).1;have h5:=aoi j ah;rw [Lr] at h5;rcases h5 with h5|h5|h5|h5
      . exact absurd h5 aT
      . have h6:=hL j;rw [h5] at h6;unfold LL at h6;rw [pn,po oo] at h6 eZ;simp only [ia] at h6 eZ;rw [h6] at eZ;cases eZ
      . rw [Gf] at h5; cases h5
      . exact (ax _ _▸h5:_/\_)
    | none =>
     rw [AM] at ja tC;refine⟨fun hn => ?_,fun j hj => ?_⟩
     . have:=(hr i).1 gW;rw [hn] at this;cases this
     . have gE:=(hr j).2 hj;rw [gU] at gE;exact tC j gE gE
theorem abn(hi:i<n)(aO:listed.size=n)(hL:∀ x,LL listed x=bD x dn)(x):LL (listed.setIfInBounds i true) x=bD x (wO i dn):=by
 rw [Ck oo,hL,abi];by_cases e1:x=i
 . subst e1; simp
 . rw [aw e1];have:(i==x)=false:=by simpa using fun h=>e1 h.symm
   rw [this,sV]
theorem aoj(aE:cT P C.ty)(aF:nh P C w0 Φ){ez:List Nd}{cr:List (Sx×List Nat)}{k:Sx->Fm}(jb:fe σ ops.length=true)(hl:l=cf σ ops)(gv:∀ (j:Nat) (o) cs b,l.toArray[j]? = some o->o.op ≠ .select cs b)(hQ:∀ c a w,¬ Q (.panic c) a w)(hk:∀ fuel (nd) S' a' w' listed,nd∈ez->nd.ed = []->(k S').P->aS w0 Φ N B S' a' w'->nd.dn.length+fuel=l.length->listed.size=l.length->(∀ i,LL listed i=bD i nd.dn)->qp .any l.toArray listed->wpAnyIn Fence.wide 0 P .any l.toArray Q fuel listed a' w')(iK:∀ nd∈ez,K5 σ l ez nd=true)(yM:∀ (j:Nat) nd,ez[j]? = some nd->∃ Sj,cr[j]? = some Sj/\(nd.ed = []->(k Sj.1).P)/\∀ e∈nd.ed,∃ o T,ops[e.2.1]? = some o/\cr[e.2.2]? = some T/\∃ K,(cd C N B ops [o] Sj.1 K).P/\∀ S' a' w',aS w0 Φ N B S' a' w'->(K S').P->aS w0 Φ N B T.1 a' w') :
 ∀ (fuel j:Nat) (nd) (Sj) (a) (w) (listed),ez[j]? = some nd->cr[j]? = some Sj->nd.dn.length+fuel=l.length->aS w0 Φ N B Sj.1 a w->listed.size=l.length->(∀ i,LL listed i=bD i nd.dn)->qp .any l.toArray listed->wpAnyIn Fence.wide 0 P .any l.toArray Q fuel listed a w:=by
 intro fuel
 induction fuel with
 | zero =>
  intro j nd Sj a w listed hj hS hlen H aO hL cz;have gW:=eY hj;have hc:=iK nd gW;unfold K5 at hc;simp only [ax,gR,aL,B4] at hc;have wQ:nd.ed = []:=hc.resolve_right fun h=>oo
  obtain⟨Sj',q1,q2,_⟩:=yM j nd hj;rw [hS] at q1;cases q1;exact hk 0 nd _ _ _ _ gW wQ (q2 wQ) H hlen aO hL cz
 | succ fuel ih =>
  intro j nd Sj a w listed hj hS hlen H aO hL cz;have hr:=Db (l:=l) aO hL;have gW:=eY hj;have hc:=iK nd gW;unfold K5 at hc;simp only [ax,gR,aL,B4,dL,cb] at hc;obtain⟨Sj',q1,q2,q3⟩:=yM j nd hj;rw [hS] at q1;cases q1;by_cases wQ:nd.ed = []
  . exact hk (fuel+1) nd _ _ _ _ gW wQ (q2 wQ) H hlen aO hL cz
  obtain⟨uF,_,bS⟩:=hc.resolve_left wQ;have uF:=Gg uF;refine abm aE aF gv hQ H aO hL cz (fun i hi gU => ?_) fun hn=>absurd (by rw [hn] at uF; simpa using uF) wQ;rw [<- uF] at hi;obtain⟨e,he,rfl⟩:=gi.1 hi;obtain⟨o,T,k1,k2,K,k3,k4⟩:=q3 e he;obtain⟨h1,h2⟩:=bS e he;have ux:l[e.1]? = some (oS σ o):=by rw [hl]; exact Gc h1 k1
  have ah:=(cF.1 ux).1;refine⟨oS σ o,K,ux,?_,fun S' a' w' HS hP => ?_⟩
  . rw [hl];exact K7 (l:=ops) (o:=o) (K:=K) rfl rfl (Lc jb Sj.1 o) (fun S hS=>by unfold cd; exact hS) k3
  . cases yR:ez[e.2.2]? with
    | none=>rw [yR] at h2; cases h2
    | some nt =>
     rw [yR] at h2;have h3:=Gg h2;exact ih e.2.2 nt T a' w' _ yR k2 (by rw [h3,Gh]; omega) (k4 _ _ _ HS hP) (by simp [aO]) (fun x=>by rw [h3]; exact abn ah aO hL x) (cz.Cj ((hr e.1).1 gU))
theorem abo{l:List Oper}{σ:List Nat}:∀ {pre dn u2:List Nat},tA σ l dn pre=some u2->u2.length=dn.length+pre.length
 | [],dn,u2,h=>by unfold tA at h; cases h; rfl
 | oi::pre,dn,u2,h=>by
  unfold tA at h;split at h
  . split at h
    . rw [abo h,Gh]; simp; omega
    . cases h
  . cases h
theorem RL(aE:cT P C.ty)(aF:nh P C w0 Φ){ops l:List Oper}{σ:List Nat}{k:Sx->Fm}{u2:List Nat}(hle:u2.length<=l.length)(jb:fe σ ops.length=true)(hl:l=cf σ ops)(gv:∀ (j:Nat) (o) cs b,l.toArray[j]? = some o->o.op ≠ .select cs b)(hQ:∀ c a w,¬ Q (.panic c) a w)(hk:∀ fuel S' a' w' listed,(k S').P->aS w0 Φ N B S' a' w'->u2.length+fuel=l.length->listed.size=l.length->(∀ i,LL listed i=bD i u2)->qp .any l.toArray listed->wpAnyIn Fence.wide 0 P .any l.toArray Q fuel listed a' w') :
 ∀ (pre) (fuel) (dn) (S) (a) (w) (listed),tA σ l dn pre=some u2->(eC C N B ops (bQ pre .nil) S k).P->aS w0 Φ N B S a w->dn.length+fuel=l.length->listed.size=l.length->(∀ i,LL listed i=bD i dn)->qp .any l.toArray listed->wpAnyIn Fence.wide 0 P .any l.toArray Q fuel listed a w
 | [],fuel,dn,S,a,w,listed,kC,hP,H,hlen,aO,hL,cz=>by
  unfold tA at kC;cases kC;unfold bQ eC at hP;exact hk fuel S a w listed hP H hlen aO hL cz
 | oi::pre,fuel,dn,S,a,w,listed,kC,hP,H,hlen,aO,hL,cz=>by
  have hr:=Db (l:=l) aO hL;unfold tA at kC;split at kC
  . rename_i i lC;split at kC
    . rename_i hs;have hs:=eq_of_beq hs;unfold bQ eC at hP
      cases ho:ops[oi]? with
      | none=>rw [ho] at hP; exact hP.elim
      | some o =>
       rw [ho] at hP;have ux:l[i]? = some (oS σ o):=by rw [hl]; exact Gc hs ho
       have ah:=(cF.1 ux).1;have aol:i∈mr l dn:=by
        unfold AI at lC;split at lC
        . cases lC
        . rename_i q hq; cases lC; rw [hq]; exact .head _
        . rename_i is h1 h2;split at lC
          . rename_i q hq; cases lC; exact (FZ hq).1
          . split at lC
            . rename_i q hq; cases lC; exact (RK hq).1
            . rw [lC]; exact .head _
       have qM:=(mem_ready.1 ((hr i).1 aol)).1
       cases fuel with
       | zero =>
        have h1:=abo kC;rw [Gh] at h1;omega
       | succ fuel =>
        refine abm aE aF gv hQ H aO hL cz (fun i2 ES gU => ?_) fun hn=>by rw [hn] at lC; cases lC
        rw [lC,jD] at ES;subst ES;refine⟨oS σ o,fun S'=>eC C N B ops (bQ pre .nil) S' k,ux,?_,fun S' a' w' HS RM => ?_⟩
        . rw [hl];exact K7 (l:=ops) (o:=o) (K:=fun S'=>eC C N B ops (bQ pre .nil) S' k) rfl rfl (Lc jb S o) (fun S hS=>by unfold cd; exact hS) hP
        . exact RL aE aF hle jb hl gv hQ hk pre fuel (wO i2 dn) S' a' w' _ kC RM HS (by rw [Gh]; omega) (by simp [aO]) (abn ah aO hL) (cz.Cj ((hr i2).1 gU))
    . cases kC
  . cases kC
theorem aom{r:Option Nat}{id:Nat}(pV:∀ o∈ops,∀ c,o.op ≠ .defer c)(aE:cT P C.ty)(aF:nh P C w0 Φ)(kc:P.follows .mixedOrders=true){t:yu}{k:Sx->Fm}(hQ:∀ c a w,¬ Q (.panic c) a w)(mB:Ry (ca C) ops N t=true)(hk:∀ S' a' w',aS w0 Φ N B S' a' w'->(k S').P->Q .normal a' w')(h:(eC C N B ops (bQ t.row .nil) S fun S'=>eC C N B ops (bQ t.pre .nil) S' fun S'=>Ko C N B ops t.ez S' fun S'=>eC C N B ops (bQ t.post .nil) S' k).P)(H:aS w0 Φ N B S a w):(Code.region id ops.toArray true).wpIn (wd r) 0 P Q a w:=by
 unfold Ry at mB;simp only [ax] at mB;obtain⟨aI,fU,mB⟩:=mB
 cases kC:tA t.sg (cf t.sg ops) (List.range t.row.length) t.pre with
 | none=>rw [kC] at mB; cases mB
 | some u2 =>
 rw [kC] at mB;unfold aaU at mB;simp only [ax,aL] at mB;obtain⟨hle,mB⟩:=mB;have hp:=aI;unfold CU at hp;simp only [ax,aL] at hp;have jb:=hp.2.2.1;have F0:=hp.1;have fU:=Gg fU;have cU:(cf t.sg ops).length=t.sg.length:=by unfold cf; simp
 have uX:∀ {dn:List Nat},dn.length<=(cf t.sg ops).length->K6 t.sg (cf t.sg ops) dn t.post=true->(∀ (j:Nat) (o:Oper) cs b,(cf t.sg ops).toArray[j]? = some o->o.op ≠ .select cs b)->∀ fuel S' a' w' listed,(eC C N B ops (bQ t.post .nil) S' k).P->aS w0 Φ N B S' a' w'->dn.length+fuel=(cf t.sg ops).length->listed.size=(cf t.sg ops).length->(∀ i,LL listed i=bD i dn)->qp .any (cf t.sg ops).toArray listed->wpAnyIn Fence.wide 0 P .any (cf t.sg ops).toArray Q fuel listed a' w':=by
  intro dn AN ni gv fuel S' a' w' listed hP HS hlen aO hL cz;unfold K6 at ni
  cases RN:tA t.sg (cf t.sg ops) dn t.post with
  | none=>rw [RN] at ni; cases ni
  | some dn3 =>
   rw [RN] at ni;dsimp only at ni;simp only [Bool.and_eq_true,beq_iff_eq,List.isEmpty_iff] at ni;refine RL aE aF oo jb rfl gv hQ (fun fuel S' a' w' listed hP HS hlen aO pY cz => ?_) t.post _ _ S' a' w' listed RN hP HS hlen aO hL cz;obtain rfl:fuel=0:=oo
   have hr:=Db (l:=cf t.sg ops) aO pY;exact⟨BS.2 fun i hi=>(by have:=(hr i).2 hi; rw [ni.2] at this; cases this),hk _ _ _ HS hP⟩
 refine aaO pV (late:=fun S'=>eC C N B ops (bQ t.pre .nil) S' fun S'=>Ko C N B ops t.ez S' fun S'=>eC C N B ops (bQ t.post .nil) S' k) aE aF kc hQ aI (fun S' a' w' listed hP HS aO pY e8 gv => ?_) ?_ H
 . refine RL aE aF hle jb rfl gv hQ (fun fuel S' a' w' listed hP HS abp aO pY cz => ?_) t.pre _ _ S' a' w' listed kC hP HS (by rw [IK]; exact Nat.add_sub_cancel' F0) aO (fun i=>by rw [pY,aaK]) ?_
   rotate_left
   . intro j oj dW uy e he hb;have Lr:(cf t.sg ops)[j]? = some oj:=by simpa using dW
     have h6:=pY j;have h7:=e8 j oj Lr e he hb;have h8:=pY e.on;unfold LL at h6 h8;rw [h6] at uy;simp only [aL] at uy;rw [h8];simp only [aL];omega
   unfold Ko at hP
   cases hn:t.ez with
   | nil =>
    rw [hn] at hP mB;dsimp only at hP mB;exact uX hle mB gv fuel S' a' w' listed hP HS abp aO pY cz
   | cons nd r =>
    rw [hn] at hP mB;dsimp only at hP mB;simp only [Bool.and_eq_true] at mB;obtain⟨Lt,r6,aon,gG⟩:=mB;split at hP
    . rename_i hc;simp only [ax,aL] at hc;obtain⟨kA,hB,uY⟩:=hc;split at hP
      . rename_i cr aoo;obtain⟨hlen,hold,pL⟩:=abj aoo;obtain⟨m,hm,⟨ndm,aop,aoq⟩,bS⟩:=abl hP;have ka:m+1=(nd::r).length:=by
         rcases b9 m r.length with h1|h1
         . have h2:ndm∈(nd::r).dropLast:=by
            refine eY (i:=m) ?_;rw [List.getElem?_dropLast,aC (by simpa using h1)];exact aop
           have h3:=dL.1 r6 ndm h2;rw [aoq] at h3;cases h3
         . simp only [cB] at hm ⊢; omega
        have aor:∀ S0,Φ S0->∀ l r,S0.pl l=some r->l<S'.n:=fun S0 hS l r h=>iS (aF.pl S0 hS l r h) kA;have Lt:=Gg Lt;have h0:cr[0]? = some (wD nd.ks S',[]):=by rw [hold 0 (by simp)]; rfl
        refine aoj (k:=fun S'=>eC C N B ops (bQ t.post .nil) S' k) aE aF jb rfl gv hQ (fun fuel ndl S' a' w' listed gW wQ hP HS hlen aO hL cz => ?_) (fun nd iK=>dL.1 aon nd iK) (cr:=cr) (fun j ndj hj => ?_) _ 0 nd (wD nd.ks S',[]) a' w' listed rfl h0 (by rw [Lt]; exact abp) (abg HS) aO (fun i=>by rw [pY,Lt]) cz
        . have yg:(nd::r).getLast? = some ndl:=by
           rcases iU.1 (by rw [azc (List.cons_ne_nil nd r)]; exact gW) with h1|h1
           . have h3:=dL.1 r6 ndl h1;rw [wQ] at h3;cases h3
           . rw [jD] at h1;rw [h1];exact azb _
          rw [yg] at gG;exact uX oo gG gv fuel S' a' w' listed hP HS hlen aO hL cz
        have OC:j<=m:=by have:=(cF.1 hj).1; omega
        obtain⟨Sj,k1,k2,k3,k4⟩:=bS j ndj OC hj;rw [gC] at k1 k4;refine⟨Sj,k1,k3,fun e he => ?_⟩;obtain⟨o,T,q1,q2,q3⟩:=k4 e he;refine⟨o,T,q1,q2,?_⟩;have aot:FC B T.1=true:=by
         have ah:e.2.2<(nd::r).length:=by
          have:=(cF.1 q2).1;rw [hlen] at this;simpa [N8] using this
         obtain⟨T',p1,p2,_⟩:=bS e.2.2 _ oo (bc ah);rw [gC,q2] at p1;cases p1;exact p2
        cases hu:FB (nd::r) e.2.2 j e.2.1 with
        | false =>
         rw [hu] at q3;exact⟨_,q3,fun S2 a2 w2 H2 RM=>aof aor hB uY aot RM H2⟩
        | true =>
         rw [hu] at q3;dsimp only at q3;unfold FB at hu
         cases yR:(nd::r)[e.2.2]? with
         | none=>rw [yR] at hu; cases hu
         | some nt =>
          rw [yR] at hu;simp only [ax,cb,jf,NV] at hu
          cases hz:e.2.2 with
          | zero=>exact absurd hz hu.2.2
          | succ z =>
           rw [hz] at yR q2;obtain⟨p,o2,S2,p1,p2,p3,q,p4⟩:=pL z nt (by simpa using yR);rw [hu.1,k1] at p1;cases p1;rw [hu.2.1,q1] at p2;cases p2;have hT:T=(wD nt.ks S2,q):=by
            have:(1+z)=z+1:=oo
            simp only [cB,ej,gC,this] at p4;rw [q2] at p4;exact Option.some.inj p4
           refine⟨fun S3 => .all Unit (fun _=>S3≠S2) fun _ => .ff 0,aog p3 q3 (fun _ aT=>aT rfl),fun S3 a3 w3 H3 hP3 => ?_⟩;have:S3=S2:=azj fun aT=>hP3 () aT;subst this;rw [hT];exact abg H3
      . exact hP.elim
    . exact hP.elim
 . rw [fU] at h;refine Le jb (t.sg.take t.row.length) _ _ _ S (by rw [cL,cL,cU]) (fun q o hq=>⟨q,?_,?_⟩) (fun S' qI => ?_) h
   . exact aaZ
   . rw [eh] at hq;split at hq
     . exact hq
     . cases hq
   . unfold eC at qI;exact qI
end
def Pm.add(S:Pm)(o f:Nat->Prop)(i:World->Prop)(ds:List Deferred)(fm:Nat->Option Value)(h1:∀ b,o b->f b)(h2:∀ w b,i w->f b->b<w.heap.size)(h3:∀ w w':World,i w->w'.os=w.os->w'.tape=w.tape->w'.output=w.output->w.heap.size<=w'.heap.size->(∀ b,f b->w'.heap[b]? = w.heap[b]?)->i w'):Pm where
 rd:=S.rd
 pl:=S.pl
 fx:=S.fx
 ex:=S.ex
 jK b:=S.jK b\/f b
 own b:=S.own b\/o b
 inv w:=S.inv w/\i w
 ds:=ds
 fm:=fm
 yo b h:=h.imp (S.yo b) (h1 b)
 nR w b h k:=k.elim (S.nR w b h.1) (h2 w b h.2)
 yp w w' h e1 e2 e3 e4 k:=⟨S.yp w w' h.1 e1 e2 e3 e4 fun b hb=>k b (.inl hb),h3 w w' h.2 e1 e2 e3 e4 fun b hb=>k b (.inr hb)⟩
theorem Dg{w:World}{o:Obj}(h:w.heap[b]? = some o):b<w.heap.size:=(jA.1 h).1
def Pm.mark(S:Pm)(D:Nat):Pm:=S.add (· = D) (· = D) (fun w=>w.heap[D]? = some (.deferred (some []))) (⟨.collected D,#[]⟩::S.ds) S.fm (fun _ h=>h) (fun _ _ h e=>by subst e; exact Dg h) fun _ _ h _ _ _ _ k=>(k D rfl).trans h
def Pm.dS(S:Pm)(D l:Nat)(rec:Loop)(fm:Nat->Option Value):Pm:=S.add (fun b=>b=D\/b=l) (fun b=>b=D\/b=l) (fun w=>w.heap[D]? = some (.deferred (some []))/\w.heap[l]? = some (.loop rec)) [] fm (fun _ h=>h) (fun _ _ h e=>by rcases e with rfl|rfl<;>first|exact Dg h.1|exact Dg h.2) fun _ _ h _ _ _ _ k=>⟨(k D (.inl rfl)).trans h.1,(k l (.inr rfl)).trans h.2⟩
def Pm.Gl(S:Pm)(O R:Nat->Prop)(W:World)(yS:∀ b,O b->R b):Pm:=S.add (fun b=>b<W.heap.size/\¬ R b) (fun b=>b<W.heap.size/\¬ O b) (fun w=>(w.os=W.os/\w.tape=W.tape/\w.output=W.output)/\W.heap.size<=w.heap.size/\∀ b,b<W.heap.size->¬ O b->w.heap[b]? = W.heap[b]?) S.ds S.fm (fun b h=>⟨h.1,fun k=>h.2 (yS b k)⟩) (fun _ _ h e=>iS e.1 h.2.1) fun _ _ h e1 e2 e3 e k=>⟨⟨e1.trans h.1.1,e2.trans h.1.2.1,e3.trans h.1.2.2⟩,dQ h.2.1 e,fun b hb hO=>(k b ⟨hb,hO⟩).trans (h.2.2 b hb hO)⟩
section
variable{P:Program}{w w' w0:World}{ρ ρ':Nat->Option Rl}{base j7 n:Nat}{ro ro':Nat->Prop}{S0 S1:Pm}{Φ : Pm->Prop}{N:Nat}{B:Bs}{S:Sx}{a a':Act}{F:Fx}
theorem bm.uC(H:bm w0 S0 N B S a w ρ ro)(gU:S1.rd=S0.rd)(cU:S1.pl=S0.pl)(iH:S1.fx=S0.fx)(hex:S1.ex=S0.ex)(hi:S1.inv w)(hd:a'.defers=S1.ds)(ht:a'.tmps=a.tmps)(hf:∀ l r b,ρ l=some r->r.b8=some b->¬ S1.jK b)(ho:∀ b,ro b->¬ S1.own b)(hm:∀ d v,S1.fm d=some v->a.tmps[d]? = some v/\(aj B.t d).isSome=true):bm w0 S1 N B S a' w ρ ro :=
 ⟨⟨H.from_.os,H.from_.tape,H.from_.output,H.from_.size,fun k hk hn hx=>H.from_.block k hk (by rw [<- cU]; exact hn) (by rw [<- hex]; exact hx),hi⟩,by rw [ht]; exact H.size,hd,H.gu,fun d x h=>by rw [ht]; exact H.tm d x h,H.en,H.apart,H.fresh,fun l r b h1 h2=>⟨(H.own l r b h1 h2).1,(H.own l r b h1 h2).2.1,by rw [cU]; exact (H.own l r b h1 h2).2.2.1,hf l r b h1 h2⟩,fun b hb=>⟨by rw [gU]; exact (H.ew b hb).1,ho b hb⟩,by rw [cU,iH]; exact H.dz,H.jL,H.jM,fun d v h=>by rw [ht]; exact hm d v h⟩
theorem bm.CZ(H:bm w0 S0 N B S a w ρ ro)(h1:w'.os=w.os)(h2:w'.tape=w.tape)(h3:w'.output=w.output)(h4:w.heap.size<=w'.heap.size)(hk:∀ b,b<w.heap.size->b<w0.heap.size\/ro b\/(∃ l r,ρ l=some r/\r.b8=some b)\/S0.jK b->w'.heap[b]? = w.heap[b]?):bm w0 S0 N B S a w' ρ ro:=by
 have hw:∀ b,ro b->b<w.heap.size->w'.heap[b]? = w.heap[b]? := fun b hb ah=>hk b ah (.inr (.inl hb));have bw:∀ l r b,ρ l=some r->r.b8=some b->w'.heap[b]? = w.heap[b]? := fun l r b q1 q2=>hk b (H.own l r b q1 q2).1 (.inr (.inr (.inl ⟨l,r,q1,q2⟩)));refine⟨⟨h1.trans H.from_.os,h2.trans H.from_.tape,h3.trans H.from_.output,dQ H.from_.size h4,fun k q1 q2 q3=>(hk k (iS q1 H.from_.size) (.inl q1)).trans (H.from_.block k q1 q2 q3),S0.yp _ _ H.from_.inv h1 h2 h3 h4 fun b hb=>hk b (S0.nR _ _ H.from_.inv hb) (.inr (.inr (.inr hb)))⟩,H.size,H.defers,fun b hb=>iS (H.gu b hb) h4,fun d x h => ?_,fun l e h=>(H.en l e h).mono hw bw (Ext.refl _) fun _ h=>h,H.apart,H.fresh,fun l r b q1 q2=>⟨iS (H.own l r b q1 q2).1 h4,(H.own l r b q1 q2).2⟩,H.ew,H.dz,H.jL,H.jM,H.fm⟩;obtain⟨u,q1,q2⟩:=H.tm d x h;exact⟨u,q1,q2.mono hw (Ext.refl _) (aA _) fun _ h=>h⟩
theorem bm.more(H:bm w0 S0 N B S a w ρ ro){rr:Nat->Prop}(h:∀ b,rr b->b<w.heap.size/\(∀ l r,ρ l=some r->r.b8≠some b)/\(b<w0.heap.size->S0.rd b)/\¬ S0.own b):bm w0 S0 N B S a w ρ fun b=>ro b\/rr b:=by
 refine⟨H.from_,H.size,H.defers,fun b hb=>hb.elim (H.gu b) fun hb=>(h b hb).1,fun d x hx => ?_,fun l e he=>(H.en l e he).mono (fun _ _ _=>rfl) (fun _ _ _ _ _=>rfl) (Ext.refl _) fun _ h => .inl h,H.apart,H.fresh,fun l r b q1 q2=>⟨(H.own l r b q1 q2).1,fun hb=>hb.elim (H.own l r b q1 q2).2.1 fun hb=>(h b hb).2.1 l r q1 q2,(H.own l r b q1 q2).2.2⟩,fun b hb=>hb.elim (H.ew b) fun hb=>(h b hb).2.2,H.dz,H.jL,H.jM,H.fm⟩;obtain⟨u,q1,q2⟩:=H.tm d x hx;exact⟨u,q1,q2.mono (fun _ _ _=>rfl) (Ext.refl _) (aA _) fun _ h => .inl h⟩
theorem bm.frame(H:bm w0 S0 N B S a w ρ ro)(hd:a'.defers=S0.ds)(aO:a'.tmps.size=N)(qN:∀ d,(aj B.t d).isSome=true->S0.fm d=a'.tmps[d]?):bm w0 S0 N B ⟨[],S.e,S.n⟩ a' w ρ ro:=by
 refine⟨H.from_,aO,hd,H.gu,fun d x h => ?_,H.en,H.apart,H.fresh,H.own,H.ew,H.dz,fun _ _ _=>rfl,H.jM,fun d v h=>⟨by rw [<- qN d (H.fm d v h).2]; exact h,(H.fm d v h).2⟩⟩;have h':aj B.t d=some x:=h;obtain⟨u,q1,q2⟩:=H.tm d x (by unfold dD; rw [H.jL d x h']; exact h');refine⟨u,?_,q2⟩;have ah:d<a'.tmps.size:=by
  have:=(jA.1 q1).1;rw [aO,<- H.size];exact this
 have h1:=qN d (by rw [h']; rfl);rw [po ah] at h1 ⊢;have:=(H.fm d _ h1).1;rw [q1] at this;exact this.symm
theorem u3:∀ {l:List AV} {j:Nat} {x:AV},AV.nX l=true->l[j]? = some x->AV.qE x=true
 | y::l,0,x,h,hx=>by
  simp only [ox,bF] at hx;subst hx;simp only [AV.nX,ax] at h;exact h.1
 | y::l,j+1,x,h,hx=>by
  simp only [AV.nX,ax] at h;exact u3 h.2 (by simpa using hx)
 | [],j,x,_,hx=>by simp at hx
theorem RO(t)(x):AV.nX (aP false t x)=true:=by cases t<;>rfl
theorem af.wv{x:AV}{v:Value}(h:af w ρ base ro x v)(hx:AV.qE x=true):af w ρ j7 ro x v:=by
 induction h with
 | un=>exact .un _
 | fG=>exact .fG _
 | int=>exact .int _ _
 | lit=>exact .lit _ _
 | bool=>exact .bool _
 | aR=>exact .aR _
 | str=>exact .str _
 | nil=>exact .nil
 | sl fr t l A c css hl hc hr lh cP h ih =>
  have aov:fr=false:=by simpa [AV.qE] using hx
  subst aov;exact .sl false t l A c css hl hc hr lh (fun h=>by cases h) fun k cs j y v h1 h2 h3=>ih k cs j y v h1 h2 h3 (u3 (RO _ _) h2)
 | wide fr t l n A c hn h ih=>exact .wide fr t l n A c hn (ih Gm)
 | bh cells off b o cs hr ah hl hc h ih=>exact .bh cells off b o cs hr ah hl hc fun j y v h1 h2=>ih j y v h1 h2 (u3 Gm h1)
 | ptr l off b h=>exact .ptr _ _ _ h
 | fq l off n b h=>exact .fq _ _ _ _ h
 | own l A n c h=>exact .own _ _ _ _ h
 | cZ t l k off A n c b h hA h0 hn=>exact .cZ _ _ _ _ _ _ _ _ h hA h0 hn
 | cG t l a b A n c h bk=>exact .cG _ _ _ _ _ _ _ h bk
 | mp l b h=>exact .mp _ _ h
 | bo l b h=>exact .bo _ _ h
 | it l l2 b h=>exact .it _ _ _ h
 | agg l vs hl h ih=>exact .agg _ _ hl fun j y v h1 h2=>ih j y v h1 h2 (u3 Gm h1)
 | ba l vs hl h ih=>exact .ba _ _ hl fun j y v h1 h2=>ih j y v h1 h2 (u3 Gm h1)
 | fn f dH vs hl h ih=>exact .fn _ _ _ hl fun j y v h1 h2=>ih j y v h1 h2 (u3 Gm h1)
theorem abt{l:List AV}{vs:List Value}(h:aV w (fun _=>none) 0 ro l vs)(hx:AV.nX l=true)(hr:∀ b,ro b->ro' b):aV w ρ j7 ro' l vs :=
 ⟨h.1,fun j x v h1 h2=>((h.2 j x v h1 h2).wv (u3 hx h1)).mono (fun _ _ _=>rfl) (fun _ _ h=>by cases h) (aA _) hr⟩
theorem abu:∀ {ps:List Nat} {xs:List AV} {vs:List Value} {S S':Sx} {a:Act},FF B N ps xs S=some S'->aV w ρ w0.heap.size ro xs vs->bm w0 S0 N B S a w ρ ro->ps.length=vs.length/\bm w0 S0 N B S' { a with tmps:=(ps.zip vs).foldl (fun t p=>t.setIfInBounds p.1 p.2) a.tmps } w ρ ro
 | [],[],vs,S,S',a,h,hE,H=>by
  cases h;rw [hE.none];exact⟨rfl,H⟩
 | p::ps,x::xs,vs,S,S',a,h,hE,H=>by
  unfold FF at h;split at h
  . rename_i S2 h2;obtain⟨v,us,rfl,hx,m5⟩:=hE.head;obtain⟨q1,q2⟩:=abu h m5 (H.put h2 hx);exact⟨by simp [q1],q2⟩
  . cases h
 | [],_::_,_,_,_,_,h,_,_=>by cases h
 | _::_,[],_,_,_,_,h,_,_=>by cases h
end
end Go.Proofs.YtamjbkaclhgffaaGreat
