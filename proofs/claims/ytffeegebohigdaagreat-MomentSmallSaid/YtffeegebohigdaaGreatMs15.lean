/-
  The abstract run: places are named anew; a region that is told by what is done of it is sound.
-/
import Derived.Test.YtffeegebohigdaaGreatMs14
set_option linter.unusedVariables false
set_option linter.unusedSimpArgs false
namespace Go.Proofs.YtffeegebohigdaaGreat
open Go.RowKit
section
variable {P:Program} {w w' w0:World} {ρ ρ':Nat->Option Rl} {base:Nat} {ro ro':Nat->Prop} {S0:Pm} {N:Nat} {B:Bs} {S:Sx} {a a0:Act} {C:Cx} {Q:Exit->Act->World->Prop}
theorem AVR.fixed {p:Nat->Bool} {x:AV} {v:Value} (h:AVR w ρ base ro x v) (hx:AV.under p x=true) (hρ:∀ l r,p l=true -> ρ l=some r -> ρ' l=some r):AVR w ρ' base ro x v:=by
 induction h with
 | un=>exact .un _
 | int=>exact .int _ _
 | lit=>exact .lit _ _
 | bool=>exact .bool _
 | blit=>exact .blit _
 | str=>exact .str _
 | nil=>exact .nil
 | sl fr t l A c css hl' hc hr hro1 hfr h ih=>exact .sl fr t l A c css hl' hc hr hro1 hfr fun k cs j y v h1 h2 h3=>ih k cs j y v h1 h2 h3 (Ya (J3 _ _ _ _) h2)
 | wide fr t l n A c hn h ih=>exact .wide fr t l n A c hn (ih rfl)
 | pto cells off b o cs hr hlt hl' hc h ih=>exact .pto cells off b o cs hr hlt hl' hc fun j y v h1 h2=>ih j y v h1 h2 (Ya (by simpa only [AV.under] using hx) h1)
 | ptr l off b h=>exact .ptr _ _ _ (hρ _ _ hx h)
 | mp l b h=>exact .mp _ _ (hρ _ _ hx h)
 | stamp l s h=>exact .stamp _ _ (hρ _ _ hx h)
 | it l l2 b h=>exact .it _ _ _ (hρ _ _ hx h)
 | own l A n c h=>exact .own _ _ _ _ (hρ _ _ hx h)
 | orp t l k off A n c b h hA h0 hn=>exact .orp _ _ _ _ _ _ _ _ (hρ _ _ hx h) hA h0 hn
 | osl t l a b A n c h hab=>exact .osl _ _ _ _ _ _ _ (hρ _ _ hx h) hab
 | agg l vs hl' h ih=>exact .agg _ _ hl' fun j y v h1 h2=>ih j y v h1 h2 (Ya (by simpa only [AV.under] using hx) h1)
 | tup l vs hl' h ih=>exact .tup _ _ hl' fun j y v h1 h2=>ih j y v h1 h2 (Ya (by simpa only [AV.under] using hx) h1)
 | fn f l vs hl' h ih=>exact .fn _ _ _ hl' fun j y v h1 h2=>ih j y v h1 h2 (Ya (by simpa only [AV.under] using hx) h1)
theorem EnR.fixed {p:Nat->Bool} {k:Nat} {e:En} (h:EnR w ρ base ro k e) (hk:p k=true) (hx:En.under p e=true) (hρ:∀ l r,p l=true -> ρ l=some r -> ρ' l=some r):EnR w ρ' base ro k e:=by
 cases e with
 | box T cells =>
  obtain⟨b,cs,h1,h4,h5⟩:=h;exact⟨b,cs,hρ _ _ hk h1,h4,h5.1,fun j x v q1 q2=>(h5.2 j x v q1 q2).fixed (Ya hx q1) hρ⟩
 | row fr t T m =>
  obtain⟨A,c,css,h1,h2,h3,h5⟩:=h;exact⟨A,c,css,hρ _ _ hk h1,h2,h3,fun k cs j x v k1 k2 k3=>(h5 k cs j x v k1 k2 k3).fixed (Ya (J3 _ _ _ _) k2) hρ⟩
 | map fr ag c t T m =>
  obtain⟨b,es,clock,h1,h2,h3,h4⟩:=h;exact⟨b,es,clock,hρ _ _ hk h1,h2,h3,h4.map_ fun x v hx=>hx.fixed (Qbk _ _ _ _ _) hρ⟩
 | iter ml c seen left =>
  obtain⟨b,b2,es,clock,since,stamps,c0,h1,h2,h3⟩:=h;exact⟨b,b2,es,clock,since,stamps,c0,hρ _ _ hk h1,hρ _ _ hx h2,h3⟩
 | stamp ml c key =>
  obtain⟨b,es,clock,s,e,h1,h2,h3⟩:=h;exact⟨b,es,clock,s,e,hρ _ _ hk h1,hρ _ _ hx h2,h3⟩
 | dead=>obtain⟨r,h⟩:=h; exact⟨r,hρ _ _ hk h⟩
theorem Qap (g:Nat->Nat):∀ (l:List (Nat×AV)) (d:Nat),Q3 (Qci g l) d=(Q3 l d).map (AV.ren g)
 | [],d=>rfl
 | (k,x)::l,d=>by
  unfold Qci;rw [Qb,Qb,Qap g l d];split<;>rfl
theorem Qbh {g g':Nat->Nat} (h1:∀ l,g' (g l)=l) (h2:∀ l,g (g' l)=l):∀ (l:List (Nat×En)) (d:Nat),Q3 (Jg g l) d=(Q3 l (g' d)).map (En.ren g)
 | [],d=>rfl
 | (k,x)::l,d=>by
  unfold Jg;rw [Qb,Qb,Qbh h1 h2 l d];by_cases e:k=g' d
  . rw [if_pos e,if_pos (by rw [e,h2])]; rfl
  . rw [if_neg e,if_neg (fun q=>e (by rw [<- q,h1]))]
theorem Zi.ren {p:Nat->Bool} {g g':Nat->Nat} (h1:∀ l,g' (g l)=l) (h2:∀ l,g (g' l)=l) (hp:∀ l,p l=true->g l=l) (hge:∀ l,S.n<=l->g l=l) (hB:Gg p B.t=true) (hBe:Kv p B.e=true) (hpl:∀ l r,S0.pl l=some r->p l=true) (H:Zi w0 S0 N B S a w ρ ro):Zi w0 S0 N B ⟨Qci g S.t,Jg g S.e,S.n⟩ a w (fun l => ρ (g' l)) ro:=by
 have hback:∀ l,g l=l->g' l=l:=fun l h=>by have:=h1 l; rwa [h] at this
 have hρ:∀ l r,ρ l=some r -> ρ (g' (g l))=some r:=fun l r h=>by rw [h1]; exact h
 have hρf:∀ l r,p l=true -> ρ l=some r -> ρ (g' l)=some r:=fun l r hl h=>by rw [hback l (hp l hl)]; exact h
 refine⟨H.from_,H.size,H.defers,H.roB,fun d x h => ?_,fun l e h => ?_,fun l l' r r' b hne q1 q2 q3=>H.apart (g' l) (g' l') r r' b (fun e=>hne (by rw [<- h2 l,<- h2 l',e])) q1 q2 q3,fun l hl=>by rw [hback l (hge l hl)]; exact H.fresh l hl,fun l r b q1 q2 => ?_,H.roS,fun l r q1 q2=>by rw [hback l (hp l (hpl l r q1))]; exact H.solid l r q1 q2,fun d x h=>by show Q3 (Qci g S.t) d=none; rw [Qap,H.disT d x h]; rfl,fun l e h => ?_⟩
 . unfold Zh at h;dsimp only at h;rw [Qap] at h
   cases hS:Q3 S.t d with
   | some y =>
    rw [hS] at h;simp only [Option.map_some,Option.some.injEq] at h;subst h;obtain⟨u,q1,q2⟩:=H.tm d y (by unfold Zh; rw [hS]);exact⟨u,q1,q2.ren hρ⟩
   | none =>
    rw [hS] at h;simp only [Option.map_none] at h;obtain⟨u,q1,q2⟩:=H.tm d x (by unfold Zh; rw [hS]; exact h);exact⟨u,q1,q2.fixed (Qji hB h) hρf⟩
 . unfold Qh at h;dsimp only at h;rw [Qbh h1 h2] at h
   cases hS:Q3 S.e (g' l) with
   | some y =>
    rw [hS] at h;simp only [Option.map_some,Option.some.injEq] at h;subst h;have q:=H.en (g' l) y (by unfold Qh; rw [hS]);have q2:=q.ren (ρ':=fun l => ρ (g' l)) (g:=g) hρ;rwa [h2] at q2
   | none =>
    rw [hS] at h;simp only [Option.map_none] at h;have hl:=Qae hBe h;have hl':=hback l (hp l hl.1);rw [hl'] at hS;exact (H.en l e (by unfold Qh; rw [hS]; exact h)).fixed hl.1 hl.2 hρf
 . obtain⟨k1,k2,k3⟩:=H.own (g' l) r b q1 q2;refine⟨k1,k2,k3.imp id ?_⟩
   rintro⟨r0,k4,k5⟩
   have:g (g' l)=g' l:=hp _ (hpl _ _ k4);rw [h2] at this;rw [<- this] at k4;exact⟨r0,k4,k5⟩
 . show Q3 (Jg g S.e) l=none
   have hl:=Qae hBe h;rw [Qbh h1 h2,hback l (hp l hl.1),H.disE l e h];rfl
theorem Z70 (p q l:Nat):swp p q l=if l=p then q else if l=q then p else l:=by
 unfold swp;by_cases h1:l=p
 . simp [h1]
 . by_cases h2:l=q
   . simp [h2]
   . rw [if_neg h1,if_neg h2,show (l==p)=false by simpa using h1,show (l==q)=false by simpa using h2]; rfl
theorem Qv9 (p q l:Nat):swp p q (swp p q l)=l:=by
 simp only [Z70];by_cases h1:l=p
 . rw [if_pos h1];by_cases h2:q=p
   . rw [if_pos h2,h1,h2]
   . rw [if_neg h2,if_pos rfl,h1]
 . rw [if_neg h1];by_cases h2:l=q
   . rw [if_pos h2,if_pos rfl,h2]
   . rw [if_neg h2,if_neg h1,if_neg h2]
theorem Qw0 {p q l:Nat} (h:Q6l p q l=true):swp p q l=l:=by
 unfold Q6l at h;unfold swp;simp only [Bool.not_eq_true',Bool.or_eq_false_iff] at h;rw [h.1,h.2];rfl
theorem Z2a {nb p q:Nat} (hpl:∀ l r,S0.pl l=some r->l<nb) (H:Sim w0 S0 N B S a w):Sim w0 S0 N B (Qwy nb B p q S) a w:=by
 unfold Qwy
 cases hc:decide (nb<=p)&&(decide (nb<=q)&&(decide (p<S.n)&&(decide (q<S.n)&&(Gg (Q6l p q) B.t&&Kv (Q6l p q) B.e)))) with
 | false=>exact H
 | true =>
  simp only [Bool.and_eq_true,decide_eq_true_eq] at hc;obtain⟨h1,h2,h3,h4,h5,h6⟩:=hc;have hno:∀ {l},l≠p->l≠q->Q6l p q l=true:=fun h h'=>by unfold Q6l; simp [h,h']
  obtain⟨ρ,ro,HR⟩:=H;exact⟨_,ro,HR.ren (p:=Q6l p q) (Qv9 p q) (Qv9 p q) (fun l hl=>Qw0 hl) (fun l hl=>Qw0 (hno (by omega) (by omega))) h5 h6 fun l r hr=>by
   have:=hpl l r hr;exact hno (by omega) (by omega)⟩
theorem Qco {nb:Nat} {prs:Sx->List (Nat×Nat)} (hpl:∀ l r,S0.pl l=some r->l<nb):∀ (n:Nat) {S:Sx},Sim w0 S0 N B S a w->Sim w0 S0 N B (Qcz nb B prs n S) a w
 | 0,_,H=>H
 | n+1,S,H=>by
  unfold Qcz;split
  . exact H
  . exact Qco hpl n (Z2a hpl H)
theorem Qss {n0 l:Nat} {σ:List Nat} (h:l<n0):gO n0 σ l=l:=by
 unfold gO;simp [h]
theorem Qsr {n0 l:Nat} {σ:List Nat} (h:n0 + σ.length<=l):gO n0 σ l=l:=by
 unfold gO;have:¬ l<n0:=by omega
 simp only [this,decide_false];rw [List.getElem?_eq_none (by omega)]
def gB (n0:Nat) (σ:List Nat) (l:Nat):Nat:=if l<n0\/n0 + σ.length<=l then l else n0+V8 σ (l - n0)
theorem Z2f {σ:List Nat} {n j:Nat} (h:Y2 σ n=true) (hj:j<n):V8 σ j<n /\ σ[V8 σ j]? = some j:=by
 have h1:=Qp3 h hj;have h2 : σ.length=n:=by
  unfold Y2 at h;simp only [Bool.and_eq_true,beq_iff_eq] at h;exact h.1.1
 exact⟨by rw [<- h2]; exact (List.getElem?_eq_some_iff.1 h1).1,h1⟩
theorem Qya {σ:List Nat} {n k:Nat} (h:Y2 σ n=true) (hk:k<n):∃ i,σ[k]? = some i/\i<n/\V8 σ i=k:=by
 unfold Y2 at h;simp only [Bool.and_eq_true,List.all_eq_true,List.mem_range] at h;have h1:=h.2 k hk
 cases hs : σ[k]? with
 | none=>rw [hs] at h1; cases h1
 | some i =>
  rw [hs] at h1;simp only [Bool.and_eq_true,decide_eq_true_eq,beq_iff_eq] at h1;exact⟨i,rfl,h1.1,h1.2⟩
theorem Z99 {n0:Nat} {σ:List Nat} (h:Y2 σ σ.length=true) (l:Nat):gB n0 σ (gO n0 σ l)=l:=by
 rcases Nat.lt_or_ge l n0 with h1|h1
 . rw [Qss h1]; unfold gB; rw [if_pos (.inl h1)]
 . rcases Nat.lt_or_ge l (n0 + σ.length) with h2|h2
   . obtain⟨i,h3,h4,h5⟩:=Qya h (k:=l - n0) (by omega);have:gO n0 σ l=n0+i:=by
      unfold gO;have:¬ l<n0:=by omega
      simp only [this,decide_false];rw [h3]
     rw [this];unfold gB;rw [if_neg (by omega),Nat.add_sub_cancel_left,h5];omega
   . rw [Qsr h2]; unfold gB; rw [if_pos (.inr h2)]
theorem Z8l {n0:Nat} {σ:List Nat} (h:Y2 σ σ.length=true) (l:Nat):gO n0 σ (gB n0 σ l)=l:=by
 unfold gB;split
 . rename_i h1;rcases h1 with h1|h1
   . exact Qss h1
   . exact Qsr h1
 . rename_i h1;obtain⟨h2,h3⟩:=Z2f h (j:=l - n0) (by omega);unfold gO;have:¬ n0+V8 σ (l - n0)<n0:=by omega
   simp only [this,decide_false];rw [Nat.add_sub_cancel_left,h3];dsimp only;omega
theorem Q88 {k:Nat} {e:En}:∀ {l:List (Nat×En)} {ks:List Nat},Q3 (Jq ks l) k=some e->Qw k ks=false/\Q3 l k=some e
 | [],_,h=>by cases h
 | (j,y)::l,ks,h=>by
  unfold Jq at h;rw [Qb];have hcons:∀ {ks:List Nat},Qw k (j::ks)=false->Qw k ks=false/\j≠k:=fun h=>by
   rw [Q2w,Bool.or_eq_false_iff] at h;exact⟨h.2,by simpa using h.1⟩
  have hskip:Q3 (Jq (j::ks) l) k=some e->Qw k ks=false/\(if j=k then some y else Q3 l k)=some e:=fun h=>by
   obtain⟨h1,h2⟩:=Q88 h;obtain⟨h3,h4⟩:=hcons h1;rw [if_neg h4];exact⟨h3,h2⟩
  have hput:Q3 ((j,y)::Jq (j::ks) l) k=some e->Qw j ks=false->Qw k ks=false/\(if j=k then some y else Q3 l k)=some e:=fun h9 hj=>by
   rw [Qb] at h9;by_cases e1:j=k
   . rw [if_pos e1] at h9 ⊢;exact⟨by rw [<- e1]; exact hj,h9⟩
   . rw [if_neg e1] at h9;exact hskip h9
  cases hj:Qw j ks with
  | true =>
   rw [hj] at h;obtain⟨h1,h2⟩:=Q88 h;rw [if_neg (fun e=>by subst e; rw [h1] at hj; cases hj)];exact⟨h1,h2⟩
  | false =>
   rw [hj] at h
   cases y with
   | stamp _ _ _=>exact hskip h
   | dead=>exact hskip h
   | box _ _=>exact hput h hj
   | row _ _ _ _=>exact hput h hj
   | map _ _ _ _ _ _=>exact hput h hj
   | iter _ _ _ _=>exact hput h hj
theorem Qnv {ks:List Nat} (H:Sim w0 S0 N B S a w):Sim w0 S0 N B (Q3y ks S) a w:=by
 obtain⟨ρ,ro,H⟩:=H;refine⟨ρ,ro,H.from_,H.size,H.defers,H.roB,fun d x h=>H.tm d x ?_,fun l e h=>H.en l e ?_,H.apart,H.fresh,H.own,H.roS,H.solid,fun d x h => ?_,fun l e h => ?_⟩
 . unfold Zh Q3y at h;dsimp only at h;unfold Zh
   cases hp:Q3 (Jp ks S.t) d with
   | some y=>rw [hp] at h; rw [Q34 hp]; exact h
   | none=>rw [hp] at h; rw [H.disT d x h]; exact h
 . unfold Qh Q3y at h;dsimp only at h;unfold Qh
   cases hp:Q3 (Jq [] S.e) l with
   | some y=>rw [hp] at h; rw [(Q88 hp).2]; exact h
   | none=>rw [hp] at h; rw [H.disE l e h]; exact h
 . show Q3 (Jp ks S.t) d=none
   cases hp:Q3 (Jp ks S.t) d with
   | none=>rfl
   | some y=>have:=Q34 hp; rw [H.disT d x h] at this; cases this
 . show Q3 (Jq [] S.e) l=none
   cases hp:Q3 (Jq [] S.e) l with
   | none=>rfl
   | some y=>have:=(Q88 hp).2; rw [H.disE l e h] at this; cases this
theorem Z85 {n0:Nat} {own:List Nat} {T:Sx×List Nat} {S':Sx} (hpl:∀ l r,S0.pl l=some r->l<n0) (hB:Gg (ltB n0) B.t=true) (hBe:Kv (ltB n0) B.e=true) (hT:okN B T.1=true) (h:(toF B n0 own T S').P) (H:Sim w0 S0 N B S' a w):Sim w0 S0 N B T.1 a w:=by
 unfold okN at hT;simp only [Bool.and_eq_true] at hT;have hgo:∀ {S':Sx},S'.n=T.1.n->Sim w0 S0 N B S' a w->(eqS B S' T.1.t T.1.e).P->Sim w0 S0 N B T.1 a w:=by
  intro S' hn H hP;obtain⟨ρ,ro,HR⟩:=H;obtain⟨ta,tb,e1,e2,e3⟩:=Qsx hP;have HB:=HR.bare;obtain⟨hkept,hkT,hkE,_,_⟩:=Qm0 HB (md := []) (locs := []) (Nat.le_refl _) B rfl;rw [<- hn] at hT;have:=HR.rebase (fun l r q1 q2 => ?_) e1 e2 e3 hT.1 hT.2.1 hT.2.2.1 hT.2.2.2 (fun d y hy => ?_) (fun l e he => ?_)
  . have he:(⟨T.1.t,T.1.e,S'.n⟩:Sx)=T.1:=by rw [hn]
    rwa [he] at this
  . have q3:=HR.solid l r q1 q2;rcases Nat.lt_or_ge l S'.n with h|h
    . exact h
    . rw [HR.fresh l h] at q3; cases q3
  . obtain⟨u,q1,q2⟩:=hkT d y hy;exact⟨u,q1,q2,hkept.t d y hy⟩
  . exact⟨hkE l e he,hkept.e l e he⟩
 unfold toF at h;split at h
 . rename_i hn;have hn':S'.n=T.1.n:=eq_of_beq hn;split at h
   . exact hgo hn' H h
   . split at h
     . rename_i hc;simp only [Bool.and_eq_true,decide_eq_true_eq] at hc;have hl:(Q3g T.2 [] own).length=own.length:=by
        have:=Q2j (σ:=Q3g T.2 [] own) (l:=own.map fun _=>Z81) (by simpa using hc.1);simpa using this
       have hperm:Y2 (Q3g T.2 [] own) (Q3g T.2 [] own).length=true:=by rw [hl]; exact hc.1
       obtain⟨ρ,ro,HR⟩:=H;refine hgo (S':=⟨Qci (gO n0 (Q3g T.2 [] own)) S'.t,Jg (gO n0 (Q3g T.2 [] own)) S'.e,S'.n⟩) hn' ⟨_,ro,HR.ren (p:=ltB n0) (Z99 hperm) (Z8l hperm) (fun l hl=>Qss (by simpa [ltB] using hl)) (fun l hl'=>Qsr (by rw [hl]; omega)) hB hBe fun l r q=>by simpa [ltB] using hpl l r q⟩ h
     . exact h.elim
 . exact h.elim
theorem Qza {l:List Oper} {o:Oper} {S':Sx} {k1 k2:Sx->Fm} (hd:Qpi C N B l o S=some S') (h:(Qq C N B l [o] S k1).P) (hk:(k2 S').P):(Qq C N B l [o] S k2).P:=by
 unfold Qpi at hd;unfold Qq at h ⊢;dsimp only at h ⊢
 cases hw:Kb B S l o with
 | yes =>
  rw [hw] at h hd;dsimp only at h hd ⊢
  cases hs:Kw C N B S o with
  | some f=>rw [hs] at hd; cases hd
  | none =>
   rw [hs] at h hd;dsimp only at h hd ⊢
   cases ht:Gd C N B S o with
   | none=>rw [ht] at hd; cases hd
   | some r =>
    obtain⟨S2,vcs⟩:=r;rw [ht] at h hd;dsimp only at hd;cases hd
    cases vcs with
    | nil=>unfold Qq; exact hk
    | cons c vcs=>exact⟨h.1,by unfold Qq; exact hk⟩
 | no =>
  rw [hw] at h hd;dsimp only at h hd ⊢;rw [hd];unfold Qq;exact hk
 | ask d c b=>rw [hw] at hd; cases hd
 | stuck=>rw [hw] at hd; cases hd
theorem Q76:∀ {l m:List Nat},Q3p l m=true->l=m
 | [],[],_=>rfl
 | x::l,y::m,h=>by
  simp only [Q3p,Bool.and_eq_true,beq_iff_eq] at h;rw [h.1,Q76 h.2]
 | [],_::_,h=>by cases h
 | _::_,[],h=>by cases h
theorem Qti {i x:Nat}:∀ {l:List Nat},Qw x (Qbq i l)=(i==x||Qw x l)
 | []=>rfl
 | k::l=>by
  unfold Qbq;split
  . rfl
  . rw [Q2w,Q2w,Qti,Bool.or_left_comm]
theorem Q7w {i:Nat}:∀ {l:List Nat},(Qbq i l).length=l.length+1
 | []=>rfl
 | k::l=>by
  unfold Qbq;split
  . rfl
  . simp [Q7w]
theorem Qo6 {ops:List Oper}:∀ {nds:List Nd} {acc sts:List (Sx×List Nat)},Qiv C N B ops nds acc=some sts->sts.length=acc.length+nds.length/\(∀ t,t<acc.length->sts[t]? = acc[t]?)/\∀ (t:Nat) nd,nds[t]? = some nd->∃ p o S',sts[nd.up.1]? = some p/\ops[nd.up.2]? = some o/\Qpi C N B ops o p.1=some S'/\∃ q,sts[acc.length+t]? = some (Q3y nd.ks S',q)
 | [],acc,sts,h=>by
  unfold Qiv at h;cases h;exact⟨by simp,fun _ _=>rfl,fun t nd h=>by simp at h⟩
 | nd::nds,acc,sts,h=>by
  unfold Qiv at h;split at h
  . rename_i p o hp ho;split at h
    . rename_i S' hS;obtain⟨h1,h2,h3⟩:=Qo6 h;have hlt:nd.up.1<acc.length:=(List.getElem?_eq_some_iff.1 hp).1;refine⟨by rw [h1]; simp; omega,fun t ht => ?_,fun t nd' hnd => ?_⟩
      . rw [h2 t (by simp; omega),List.getElem?_append_left ht]
      . cases t with
        | zero =>
         simp only [List.getElem?_cons_zero,Option.some.injEq] at hnd;subst hnd;refine⟨p,o,S',?_,ho,hS,p.2++List.replicate (S'.n - p.1.n) nd.up.2,?_⟩
         . rw [h2 _ (by simp; omega),List.getElem?_append_left hlt]; exact hp
         . rw [h2 _ (by simp)]; simp
        | succ t =>
         obtain⟨p',o',S2,k1,k2,k3,q,k4⟩:=h3 t nd' (by simpa using hnd);refine⟨p',o',S2,k1,k2,k3,q,?_⟩;rw [<- k4];congr 1;simp;omega
    . cases h
  . cases h
theorem Qvx {ops:List Oper} {n0 j:Nat} {nds:List Nd} {sts:List (Sx×List Nat)} {Sj:Sx×List Nat} {A:Fm}:∀ {es:List (Nat×Nat×Nat)},(edF C N B ops n0 nds sts j Sj es A).P->A.P/\∀ e∈es,∃ o T,ops[e.2.1]? = some o/\sts[e.2.2]? = some T/\(match Qrc nds e.2.2 j e.2.1 with
 | true=>Qq C N B ops [o] Sj.1 fun _ => .fin []
 | false=>Qq C N B ops [o] Sj.1 fun S'=>toF B n0 (Sj.2++List.replicate (S'.n - Sj.1.n) e.2.1) T S':Fm).P
 | [],h=>⟨h,fun e he=>by cases he⟩
 | (i,oi,t)::es,h=>by
  unfold edF at h;split at h
  . rename_i o T ho hT;obtain⟨h1,h2⟩:=Qvx h.2;refine⟨h1,fun e he => ?_⟩;rcases List.mem_cons.1 he with rfl|he
    . exact⟨o,T,ho,hT,h.1⟩
    . exact h2 e he
  . exact h.elim
theorem Qvn {ops:List Oper} {n0:Nat} {nds:List Nd} {sts:List (Sx×List Nat)} {k:Sx->Fm}:∀ {r:List Nd} {j:Nat},(ndF C N B ops n0 nds sts k j r).P->∃ m,m<r.length/\(∃ nd,r[m]? = some nd/\nd.ed = [])/\∀ (i:Nat) nd,i<=m->r[i]? = some nd->∃ Sj,sts[j+i]? = some Sj/\okN B Sj.1=true/\(nd.ed = []->(k Sj.1).P)/\∀ e∈nd.ed,∃ o T,ops[e.2.1]? = some o/\sts[e.2.2]? = some T/\(match Qrc nds e.2.2 (j+i) e.2.1 with
 | true=>Qq C N B ops [o] Sj.1 fun _ => .fin []
 | false=>Qq C N B ops [o] Sj.1 fun S'=>toF B n0 (Sj.2++List.replicate (S'.n - Sj.1.n) e.2.1) T S':Fm).P
 | [],j,h=>by unfold ndF at h; exact h.elim
 | nd::r,j,h=>by
  unfold ndF at h;split at h
  . rename_i Sj hj;split at h
    . rename_i hok;split at h
      . rename_i he;refine⟨0,by simp,⟨nd,rfl,he⟩,fun i nd' hi hnd => ?_⟩;obtain rfl:i=0:=by omega
        simp only [List.getElem?_cons_zero,Option.some.injEq] at hnd;subst hnd;exact⟨Sj,hj,hok,fun _=>h,fun e he'=>by rw [he] at he'; cases he'⟩
      . rename_i hne;obtain⟨h1,h2⟩:=Qvx h;obtain⟨m,h3,⟨nd2,h4,h4'⟩,h5⟩:=Qvn h1;refine⟨m+1,by simp; omega,⟨nd2,by simpa using h4,h4'⟩,fun i nd' hi hnd => ?_⟩
        cases i with
        | zero =>
         simp only [List.getElem?_cons_zero,Option.some.injEq] at hnd;subst hnd;exact⟨Sj,hj,hok,fun e=>absurd e hne,h2⟩
        | succ i =>
         obtain⟨S2,k1,k2,k3,k4⟩:=h5 i nd' (by omega) (by simpa using hnd);refine⟨S2,by rw [<- k1]; congr 1; omega,k2,k3,fun e he => ?_⟩;have:=k4 e he;rwa [show j+1+i=j+(i+1) by omega] at this
    . exact h.elim
  . exact h.elim
theorem Q5t {l:List Oper} {done:List Nat}:∀ {is:List Nat} {i:Nat},Q41 l done is=some i->i∈is/\Qlk l done i=true
 | [],i,h=>by cases h
 | j::is,i,h=>by
  unfold Q41 at h;split at h
  . rename_i hc;injection h with h;subst h;exact⟨.head _,hc⟩
  . obtain⟨h1,h2⟩:=Q5t h;exact⟨.tail _ h1,h2⟩
theorem Qt8 (hty:Zw P C.ty) (hcs:Q3h P C S0) {l:List Oper} (hsel:∀ (j:Nat) (o:Oper) cs b,l.toArray[j]? = some o->o.op ≠ .select cs b) (hQ:∀ c a w,¬ Q (.panic c) a w) (hQo:¬ LetsOut Q) {fuel:Nat} {dn:List Nat} {listed:Array Bool} (H:Sim w0 S0 N B S a w) (hsz:listed.size=l.length) (hL:∀ i,LL listed i=Qw i dn) (hcl:Vz .any l.toArray listed)
 (hone:∀ i,i∈Qbm l dn->i∈Vq l dn->∃ (o':Oper) (K:Sx->Fm),l[i]? = some o'/\(Qq C N B l [o'] S K).P/\∀ S' a' w',Sim w0 S0 N B S' a' w'->(K S').P->wpAny P .any l.toArray Q fuel (listed.setIfInBounds i true) a' w') (hfin:Qbm l dn = []->Q .normal a w):wpAny P .any l.toArray Q (fuel+1) listed a w:=by
 have hr:=Q1t (l:=l) hsz hL;have hstepOp:∀ i,i∈Qbm l dn->i∈Vq l dn->wpOp P l.toArray Q i (wpAny P .any l.toArray Q fuel (listed.setIfInBounds i true)) a w:=by
  intro i hi hrd;obtain⟨o',K,h1,h2,h3⟩:=hone i hi hrd;exact Qob hty hcs h1 h3 h2 H
 unfold Qbm at hone hstepOp hfin
 cases hrd:Vq l dn with
 | nil =>
  have hnil:Region.ready .any l.toArray listed = []:=List.eq_nil_iff_forall_not_mem.2 fun i hi=>by have:=(hr i).2 hi; rw [hrd] at this; cases this
  rw [hrd] at hfin;exact⟨fun _=>hfin rfl,fun i hi=>by rw [hnil] at hi; cases hi⟩
 | cons i is =>
  have hmem:i∈Vq l dn:=by rw [hrd]; exact .head _
  rw [hrd] at hone hstepOp
  cases is with
  | nil =>
   refine⟨fun hn => ?_,fun j hj => ?_⟩
   . have:=(hr i).1 hmem;rw [hn] at this;cases this
   . have:=(hr j).2 hj;rw [hrd,List.mem_singleton] at this;subst this;exact hstepOp _ (.head _) (.head _)
  | cons i2 is =>
   dsimp only at hone hstepOp
   cases hf:Q10 l (i::i2::is) with
   | some q =>
    rw [hf] at hone hstepOp;obtain⟨hmemq,o2,d,ho2,hreg,hd,hap⟩:=Q2c hf;obtain⟨o',K,h1,h2,h3⟩:=hone q (.head _) hmemq;rw [ho2] at h1;cases h1;obtain⟨v,S',hy,H',h'⟩:=Qo1 hty hreg hd h2 H;have hq:=(hr q).1 (by rw [hrd]; exact hmemq);obtain⟨_,o3,ho3,haft⟩:=mem_ready.1 hq;have heq:o3=o2:=by
     have h1:l[q]? = some o3:=by simpa using ho3
     rw [ho2] at h1;injection h1 with h1;exact h1.symm
    subst heq;refine wpAny_first ho3 hsel (fun c a w hq=>(hQ c _ w hq).elim) fuel listed a w (fun j oj hoj hne hjl hno => ?_) hq hy ?_
    . rcases Q8w hap ho2 (by simpa using hoj) hne with ⟨e,he,hb,hon⟩|⟨e,he,hb,hon⟩|h3
      . have h4:=haft e he hb;rw [hon] at h4;rw [Array.getD_eq_getD_getElem?] at h4 hjl
        cases hq:listed[j]? with
        | none=>rw [hq] at h4; cases h4
        | some q=>rw [hq] at h4 hjl; simp only [Option.getD_some] at h4 hjl; rw [h4] at hjl; cases hjl
      . exact absurd hon (hno e he hb)
      . exact h3
    . exact h3 _ _ _ H' h'
   | none =>
    rw [hf] at hone hstepOp;dsimp only at hone hstepOp
    cases hf2:Q41 l dn (i::i2::is) with
    | some q =>
     rw [hf2] at hone hstepOp;obtain⟨hmemq,hso⟩:=Q5t hf2;have hw:=hstepOp q (.head _) hmemq;have hq:=(hr q).1 (by rw [hrd]; exact hmemq);unfold Qlk at hso
     cases ho2:l[q]? with
     | none=>rw [ho2] at hso; cases hso
     | some o2 =>
      rw [ho2] at hso;simp only [Bool.and_eq_true,List.all_eq_true,List.mem_range,Bool.or_eq_true,beq_iff_eq] at hso;obtain⟨hst,_,hall2⟩:=hso;have ho3:l.toArray[q]? = some o2:=by simpa using ho2
      obtain⟨v,hy,hn⟩:=Qyf ho3 hst hQ hQo hw;refine Qus ho3 hsel hQ fuel listed a w hcl (fun j oj hoj hne hjl hnw => ?_) hq hy hn;have hoj':l[j]? = some oj:=by simpa using hoj
      have hlt:=(List.getElem?_eq_some_iff.1 hoj').1;have h5:=hall2 j hlt;rw [hoj'] at h5;rcases h5 with h5|h5|h5|h5
      . exact absurd h5 hne
      . have h6:=hL j;rw [h5] at h6;unfold LL at h6;rw [Array.getD_eq_getD_getElem?,Array.getElem?_eq_getElem (by omega)] at h6 hjl;simp only [Option.getD_some] at h6 hjl;rw [h6] at hjl;cases hjl
      . rw [hnw] at h5; cases h5
      . exact (Bool.and_eq_true _ _▸h5:_/\_)
    | none =>
     rw [hf2] at hone hstepOp;refine⟨fun hn => ?_,fun j hj => ?_⟩
     . have:=(hr i).1 hmem;rw [hn] at this;cases this
     . have hj':=(hr j).2 hj;rw [hrd] at hj';exact hstepOp j hj' hj'
theorem Z14 {listed:Array Bool} {dn:List Nat} {i n:Nat} (hi:i<n) (hsz:listed.size=n) (hL:∀ x,LL listed x=Qw x dn) (x:Nat):LL (listed.setIfInBounds i true) x=Qw x (Qbq i dn):=by
 rw [Q5q (by omega),hL,Qti];by_cases e1:x=i
 . subst e1; simp
 . rw [if_neg e1];have:(i==x)=false:=by simpa using fun h=>e1 h.symm
   rw [this,Bool.false_or]
theorem Z5z (hty:Zw P C.ty) (hcs:Q3h P C S0) {ops l:List Oper} {σ:List Nat} {nds:List Nd} {sts:List (Sx×List Nat)} {k:Sx->Fm} (hperm:Y2 σ ops.length=true) (hl:l=Qr σ ops) (hsel:∀ (j:Nat) (o:Oper) cs b,l.toArray[j]? = some o->o.op ≠ .select cs b) (hQ:∀ c a w,¬ Q (.panic c) a w) (hQo:¬ LetsOut Q) (hk:∀ fuel (nd:Nd) S' a' w' listed,nd∈nds->nd.ed = []->(k S').P->Sim w0 S0 N B S' a' w'->nd.dn.length+fuel=l.length->listed.size=l.length->(∀ i,LL listed i=Qw i nd.dn)->Vz .any l.toArray listed->wpAny P .any l.toArray Q fuel listed a' w')
 (hnd:∀ nd∈nds,Qpw σ l nds nd=true) (hstep:∀ (j:Nat) nd,nds[j]? = some nd->∃ Sj,sts[j]? = some Sj/\(nd.ed = []->(k Sj.1).P)/\∀ e∈nd.ed,∃ o T,ops[e.2.1]? = some o/\sts[e.2.2]? = some T/\∃ K:Sx->Fm,(Qq C N B ops [o] Sj.1 K).P/\∀ S' a' w',Sim w0 S0 N B S' a' w'->(K S').P->Sim w0 S0 N B T.1 a' w') :
 ∀ (fuel j:Nat) (nd:Nd) (Sj:Sx×List Nat) (a:Act) (w:World) (listed:Array Bool),nds[j]? = some nd->sts[j]? = some Sj->nd.dn.length+fuel=l.length->Sim w0 S0 N B Sj.1 a w->listed.size=l.length->(∀ i,LL listed i=Qw i nd.dn)->Vz .any l.toArray listed->wpAny P .any l.toArray Q fuel listed a w:=by
 intro fuel
 induction fuel with
 | zero =>
  intro j nd Sj a w listed hj hS hlen H hsz hL hcl;have hmem:=List.mem_of_getElem? hj;have hc:=hnd nd hmem;unfold Qpw at hc;simp only [Bool.and_eq_true,Bool.or_eq_true,decide_eq_true_eq,List.isEmpty_iff] at hc;have hed:nd.ed = []:=hc.resolve_right fun h=>by omega
  obtain⟨Sj',q1,q2,_⟩:=hstep j nd hj;rw [hS] at q1;cases q1;exact hk 0 nd _ _ _ _ hmem hed (q2 hed) H hlen hsz hL hcl
 | succ fuel ih =>
  intro j nd Sj a w listed hj hS hlen H hsz hL hcl;have hr:=Q1t (l:=l) hsz hL;have hmem:=List.mem_of_getElem? hj;have hc:=hnd nd hmem;unfold Qpw at hc;simp only [Bool.and_eq_true,Bool.or_eq_true,decide_eq_true_eq,List.isEmpty_iff,List.all_eq_true,beq_iff_eq] at hc;obtain⟨Sj',q1,q2,q3⟩:=hstep j nd hj;rw [hS] at q1;cases q1;by_cases hed:nd.ed = []
  . exact hk (fuel+1) nd _ _ _ _ hmem hed (q2 hed) H hlen hsz hL hcl
  obtain⟨hsame,_,hall⟩:=hc.resolve_left hed;have hsame:=Q76 hsame;refine Qt8 hty hcs hsel hQ hQo H hsz hL hcl (fun i hi hrd => ?_) fun hn=>absurd (by rw [hn] at hsame; simpa using hsame) hed;rw [<- hsame] at hi;obtain⟨e,he,rfl⟩:=List.mem_map.1 hi;obtain⟨o,T,k1,k2,K,k3,k4⟩:=q3 e he;obtain⟨h1,h2⟩:=hall e he;have hlo:l[e.1]? = some (Gx σ o):=by rw [hl]; exact Q5n h1 k1
  have hlt:=(List.getElem?_eq_some_iff.1 hlo).1;refine⟨Gx σ o,K,hlo,?_,fun S' a' w' HS hP => ?_⟩
  . rw [hl];exact Qbe (l:=ops) (o:=o) (K:=K) rfl rfl (Qep hperm Sj.1 o) (fun S hS=>by unfold Qq; exact hS) k3
  . cases hnt:nds[e.2.2]? with
    | none=>rw [hnt] at h2; cases h2
    | some nt =>
     rw [hnt] at h2;have h3:=Q76 h2;exact ih e.2.2 nt T a' w' _ hnt k2 (by rw [h3,Q7w]; omega) (k4 _ _ _ HS hP) (by simp [hsz]) (fun x=>by rw [h3]; exact Z14 hlt hsz hL x) (hcl.set_ ((hr e.1).1 hrd))
theorem Qoi {l:List Oper} {σ:List Nat}:∀ {pre dn dn2:List Nat},Q17 σ l dn pre=some dn2->dn2.length=dn.length+pre.length
 | [],dn,dn2,h=>by unfold Q17 at h; cases h; rfl
 | oi::pre,dn,dn2,h=>by
  unfold Q17 at h;split at h
  . split at h
    . rw [Qoi h,Q7w]; simp; omega
    . cases h
  . cases h
theorem Qdt (hty:Zw P C.ty) (hcs:Q3h P C S0) {ops l:List Oper} {σ:List Nat} {k:Sx->Fm} {dn2:List Nat} (hle:dn2.length<=l.length) (hperm:Y2 σ ops.length=true) (hl:l=Qr σ ops) (hsel:∀ (j:Nat) (o:Oper) cs b,l.toArray[j]? = some o->o.op ≠ .select cs b) (hQ:∀ c a w,¬ Q (.panic c) a w) (hQo:¬ LetsOut Q)
 (hk:∀ fuel S' a' w' listed,(k S').P->Sim w0 S0 N B S' a' w'->dn2.length+fuel=l.length->listed.size=l.length->(∀ i,LL listed i=Qw i dn2)->Vz .any l.toArray listed->wpAny P .any l.toArray Q fuel listed a' w') :
 ∀ (pre:List Nat) (fuel:Nat) (dn:List Nat) (S:Sx) (a:Act) (w:World) (listed:Array Bool),Q17 σ l dn pre=some dn2->(Zu C N B ops (Qi pre .nil) S k).P->Sim w0 S0 N B S a w->dn.length+fuel=l.length->listed.size=l.length->(∀ i,LL listed i=Qw i dn)->Vz .any l.toArray listed->wpAny P .any l.toArray Q fuel listed a w
 | [],fuel,dn,S,a,w,listed,hch,hP,H,hlen,hsz,hL,hcl=>by
  unfold Q17 at hch;cases hch;unfold Qi Zu at hP;exact hk fuel S a w listed hP H hlen hsz hL hcl
 | oi::pre,fuel,dn,S,a,w,listed,hch,hP,H,hlen,hsz,hL,hcl=>by
  have hr:=Q1t (l:=l) hsz hL;unfold Q17 at hch;split at hch
  . rename_i i hnx;split at hch
    . rename_i hs;have hs:=eq_of_beq hs;unfold Qi Zu at hP
      cases ho:ops[oi]? with
      | none=>rw [ho] at hP; exact hP.elim
      | some o =>
       rw [ho] at hP;have hlo:l[i]? = some (Gx σ o):=by rw [hl]; exact Q5n hs ho
       have hlt:=(List.getElem?_eq_some_iff.1 hlo).1;have hrdy:i∈Vq l dn:=by
        unfold Qbm at hnx;split at hnx
        . cases hnx
        . rename_i q hq; cases hnx; rw [hq]; exact .head _
        . rename_i is h1 h2;split at hnx
          . rename_i q hq; cases hnx; exact (Q2c hq).1
          . split at hnx
            . rename_i q hq; cases hnx; exact (Q5t hq).1
            . rw [hnx]; exact .head _
       have hun:=(mem_ready.1 ((hr i).1 hrdy)).1
       cases fuel with
       | zero =>
        have h1:=Qoi hch;rw [Q7w] at h1;omega
       | succ fuel =>
        refine Qt8 hty hcs hsel hQ hQo H hsz hL hcl (fun i2 hi2 hrd => ?_) fun hn=>by rw [hn] at hnx; cases hnx
        rw [hnx,List.mem_singleton] at hi2;subst hi2;refine⟨Gx σ o,fun S'=>Zu C N B ops (Qi pre .nil) S' k,hlo,?_,fun S' a' w' HS hP2 => ?_⟩
        . rw [hl];exact Qbe (l:=ops) (o:=o) (K:=fun S'=>Zu C N B ops (Qi pre .nil) S' k) rfl rfl (Qep hperm S o) (fun S hS=>by unfold Qq; exact hS) hP
        . exact Qdt hty hcs hle hperm hl hsel hQ hQo hk pre fuel (Qbq i2 dn) S' a' w' _ hch hP2 HS (by rw [Q7w]; omega) (by simp [hsz]) (Z14 hlt hsz hL) (hcl.set_ ((hr i2).1 hrd))
    . cases hch
  . cases hch
theorem Z6a (hty:Zw P C.ty) (hcs:Q3h P C S0) (hmix:P.follows .mixedOrders=true) {id:Nat} {ops:List Oper} {t:Lat} {k:Sx->Fm} (hQ:∀ c a w,¬ Q (.panic c) a w) (hQo:¬ LetsOut Q) (hlat:Qx6 (efs C.fs) ops N t=true) (hk:∀ S' a' w',Sim w0 S0 N B S' a' w'->(k S').P->Q .normal a' w') (h:(Zu C N B ops (Qi t.row .nil) S fun S'=>Zu C N B ops (Qi t.pre .nil) S' fun S'=>Qx1 C N B ops t.nds S' fun S'=>Zu C N B ops (Qi t.post .nil) S' k).P) (H:Sim w0 S0 N B S a w):(Code.region id ops.toArray true).wp P Q a w:=by
 unfold Qx6 at hlat;simp only [Bool.and_eq_true] at hlat;obtain⟨hok,hrow,hlat⟩:=hlat
 cases hch:Q17 t.sg (Qr t.sg ops) (List.range t.row.length) t.pre with
 | none=>rw [hch] at hlat; cases hlat
 | some dn2 =>
 rw [hch] at hlat;unfold Z1y at hlat;simp only [Bool.and_eq_true,decide_eq_true_eq] at hlat;obtain⟨hle,hlat⟩:=hlat;have hp:=hok;unfold Q71 at hp;simp only [Bool.and_eq_true,decide_eq_true_eq] at hp;have hperm:=hp.2.2.1;have hnpl:=hp.1;have hrow:=Q76 hrow;have hpl:(Qr t.sg ops).length=t.sg.length:=by unfold Qr; simp
 have hpost:∀ {dn:List Nat},dn.length<=(Qr t.sg ops).length->Ql2 t.sg (Qr t.sg ops) dn t.post=true->(∀ (j:Nat) (o:Oper) cs b,(Qr t.sg ops).toArray[j]? = some o->o.op ≠ .select cs b)->∀ fuel S' a' w' listed,(Zu C N B ops (Qi t.post .nil) S' k).P->Sim w0 S0 N B S' a' w'->dn.length+fuel=(Qr t.sg ops).length->listed.size=(Qr t.sg ops).length->(∀ i,LL listed i=Qw i dn)->Vz .any (Qr t.sg ops).toArray listed->wpAny P .any (Qr t.sg ops).toArray Q fuel listed a' w':=by
  intro dn hdl hpo hsel fuel S' a' w' listed hP HS hlen hsz hL hcl;unfold Ql2 at hpo
  cases hch2:Q17 t.sg (Qr t.sg ops) dn t.post with
  | none=>rw [hch2] at hpo; cases hpo
  | some dn3 =>
   rw [hch2] at hpo;dsimp only at hpo;simp only [Bool.and_eq_true,beq_iff_eq,List.isEmpty_iff] at hpo;refine Qdt hty hcs (by omega) hperm rfl hsel hQ hQo (fun fuel S' a' w' listed hP HS hlen hsz hLL hcl => ?_) t.post _ _ S' a' w' listed hch2 hP HS hlen hsz hL hcl;obtain rfl:fuel=0:=by omega
   have hr:=Q1t (l:=Qr t.sg ops) hsz hLL;exact⟨List.eq_nil_iff_forall_not_mem.2 fun i hi=>(by have:=(hr i).2 hi; rw [hpo.2] at this; cases this),hk _ _ _ HS hP⟩
 refine Qqc (late:=fun S'=>Zu C N B ops (Qi t.pre .nil) S' fun S'=>Qx1 C N B ops t.nds S' fun S'=>Zu C N B ops (Qi t.post .nil) S' k) hty hcs hmix hQ hok (fun S' a' w' listed hP HS hsz hLL hback hsel => ?_) ?_ H
 . refine Qdt hty hcs hle hperm rfl hsel hQ hQo (fun fuel S' a' w' listed hP HS hlenF hsz hLL hcl => ?_) t.pre _ _ S' a' w' listed hch hP HS (by rw [List.length_range]; exact Nat.add_sub_cancel' hnpl) hsz (fun i=>by rw [hLL,Qix]) ?_
   rotate_left
   . intro j oj hoj hlj e he hb;have hoj':(Qr t.sg ops)[j]? = some oj:=by simpa using hoj
     have h6:=hLL j;have h7:=hback j oj hoj' e he hb;have h8:=hLL e.on;unfold LL at h6 h8;rw [h6] at hlj;simp only [decide_eq_true_eq] at hlj;rw [h8];simp only [decide_eq_true_eq];omega
   unfold Qx1 at hP
   cases hn:t.nds with
   | nil =>
    rw [hn] at hP hlat;dsimp only at hP hlat;exact hpost hle hlat hsel fuel S' a' w' listed hP HS hlenF hsz hLL hcl
   | cons nd r =>
    rw [hn] at hP hlat;dsimp only at hP hlat;simp only [Bool.and_eq_true] at hlat;obtain⟨hfirst,hlast,hnds,hend⟩:=hlat;split at hP
    . rename_i hc;simp only [Bool.and_eq_true,decide_eq_true_eq] at hc;obtain⟨hnb,hB,hBe⟩:=hc;split at hP
      . rename_i sts hsts;obtain⟨hlen,hold,hnew⟩:=Qo6 hsts;obtain⟨m,hm,⟨ndm,hndm,hndme⟩,hall⟩:=Qvn hP;have hml:m+1=(nd::r).length:=by
         rcases Nat.lt_or_ge m r.length with h1|h1
         . have h2:ndm∈(nd::r).dropLast:=by
            refine List.mem_of_getElem? (i:=m) ?_;rw [List.getElem?_dropLast,if_pos (by simpa using h1)];exact hndm
           have h3:=List.all_eq_true.1 hlast ndm h2;rw [hndme] at h3;cases h3
         . simp only [List.length_cons] at hm ⊢; omega
        have hpl0:∀ l r,S0.pl l=some r->l<S'.n:=fun l r h=>Nat.lt_of_lt_of_le (hcs.pl l r h) hnb;have hfirst:=Q76 hfirst;have h0:sts[0]? = some (Q3y nd.ks S',[]):=by rw [hold 0 (by simp)]; rfl
        refine Z5z (k:=fun S'=>Zu C N B ops (Qi t.post .nil) S' k) hty hcs hperm rfl hsel hQ hQo (fun fuel ndl S' a' w' listed hmem hed hP HS hlen hsz hL hcl => ?_) (fun nd hnd=>List.all_eq_true.1 hnds nd hnd) (sts:=sts) (fun j ndj hj => ?_) _ 0 nd (Q3y nd.ks S',[]) a' w' listed rfl h0 (by rw [hfirst]; exact hlenF) (Qnv HS) hsz (fun i=>by rw [hLL,hfirst]) hcl
        . have hgl:(nd::r).getLast? = some ndl:=by
           rcases List.mem_append.1 (by rw [List.dropLast_concat_getLast (List.cons_ne_nil nd r)]; exact hmem) with h1|h1
           . have h3:=List.all_eq_true.1 hlast ndl h1;rw [hed] at h3;cases h3
           . rw [List.mem_singleton] at h1;rw [h1];exact List.getLast?_eq_some_getLast _
          rw [hgl] at hend;exact hpost (by omega) hend hsel fuel S' a' w' listed hP HS hlen hsz hL hcl
        have hjm:j<=m:=by have:=(List.getElem?_eq_some_iff.1 hj).1; omega
        obtain⟨Sj,k1,k2,k3,k4⟩:=hall j ndj hjm hj;rw [Nat.zero_add] at k1 k4;refine⟨Sj,k1,k3,fun e he => ?_⟩;obtain⟨o,T,q1,q2,q3⟩:=k4 e he;refine⟨o,T,q1,q2,?_⟩;have hTok:okN B T.1=true:=by
         have hlt:e.2.2<(nd::r).length:=by
          have:=(List.getElem?_eq_some_iff.1 q2).1;rw [hlen] at this;simpa [Nat.add_comm] using this
         obtain⟨T',p1,p2,_⟩:=hall e.2.2 _ (by omega) (List.getElem?_eq_getElem hlt);rw [Nat.zero_add,q2] at p1;cases p1;exact p2
        cases hu:Qrc (nd::r) e.2.2 j e.2.1 with
        | false =>
         rw [hu] at q3;exact⟨_,q3,fun S2 a2 w2 H2 hP2=>Z85 hpl0 hB hBe hTok hP2 H2⟩
        | true =>
         rw [hu] at q3;dsimp only at q3;unfold Qrc at hu
         cases hnt:(nd::r)[e.2.2]? with
         | none=>rw [hnt] at hu; cases hu
         | some nt =>
          rw [hnt] at hu;simp only [Bool.and_eq_true,beq_iff_eq,Bool.not_eq_true',beq_eq_false_iff_ne] at hu
          cases hz:e.2.2 with
          | zero=>exact absurd hz hu.2.2
          | succ z =>
           rw [hz] at hnt q2;obtain⟨p,o2,S2,p1,p2,p3,q,p4⟩:=hnew z nt (by simpa using hnt);rw [hu.1,k1] at p1;cases p1;rw [hu.2.1,q1] at p2;cases p2;have hT:T=(Q3y nt.ks S2,q):=by
            have:(1+z)=z+1:=by omega
            simp only [List.length_cons,List.length_nil,Nat.zero_add,this] at p4;rw [q2] at p4;exact Option.some.inj p4
           refine⟨fun S3 => .all Unit (fun _=>S3≠S2) fun _ => .ff 0,Qza p3 q3 (fun _ hne=>hne rfl),fun S3 a3 w3 H3 hP3 => ?_⟩;have:S3=S2:=Classical.byContradiction fun hne=>hP3 () hne;subst this;rw [hT];exact Qnv H3
      . exact hP.elim
    . exact hP.elim
 . rw [hrow] at h;refine Qev hperm (t.sg.take t.row.length) _ _ _ S (by rw [List.length_take,List.length_take,hpl]) (fun q o hq=>⟨q,?_,?_⟩) (fun S' hS' => ?_) h
   . rw [List.getElem?_take] at hq ⊢;split at hq
     . rename_i hlt; rw [if_pos hlt]
     . cases hq
   . rw [List.getElem?_take] at hq;split at hq
     . exact hq
     . cases hq
   . unfold Zu at hS';exact hS'
end
section
variable {w w' w0:World} {ρ ρ' ρ2:Nat->Option Rl} {base n:Nat} {ro ro':Nat->Prop} {S0:Pm} {N:Nat} {B:Bs} {S:Sx} {a:Act} {F:Fx} {P:Program}
theorem Z15 (hty:Zw P F.C.ty) (hcs:Q3h P F.C S0) (hmix:P.follows .mixedOrders=true) {id:Nat} {ops:Array Oper} {k:Sx->Fm} {Q:Exit->Act->World->Prop} (hQ:∀ c a w,¬ Q (.panic c) a w) (hQo:¬ LetsOut Q) (hok:Yj (efs F.C.fs) F.C.sc F.C.lt F.N (.region id ops true)=true) (hk:∀ S' a' w',Sim w0 S0 F.N B S' a' w'->(k S').P->Q .normal a' w') (h:(Qpu F.C F.N B id ops.toList S k).P) (H:Sim w0 S0 F.N B S a w):(Code.region id ops true).wp P Q a w:=by
 simp only [Yj,Bool.not_true,Bool.false_or] at hok;have hops:ops.toList.toArray=ops:=by simp
 rw [<- hops];unfold Qpu at h
 cases hlt:Qpn F.C.lt id with
 | some t =>
  rw [hlt] at h hok;exact Z6a hty hcs hmix hQ hQo hok hk h H
 | none =>
  rw [hlt] at h hok;dsimp only at h hok;simp only [Bool.and_eq_true] at hok;have hs:=hok.2;have hp:=hok.1;unfold Qdf at hp;simp only [Bool.and_eq_true] at hp;refine Z6g hty hcs hmix hQ hok.1 hk ?_ H
  cases hsc:Qpk F.C.sc id with
  | none=>rw [hsc] at h; exact h
  | some s =>
   rw [hsc] at h hs;dsimp only at h hs;simp only [decide_eq_true_eq] at hs;rw [hs] at h;exact Z73 hp.1 h
theorem Z5q {l:List Oper} {ks:List Nat} {go:(Sx->Fm)->Fm} {k:Sx->Fm} (h:(Qz8 F.C F.N B l ks S go k).P):∃ S2:Sx,(k S2).P/\∃ k':Sx->Fm,(go k').P/\∀ S' a' w',Sim w0 S0 F.N B S' a' w'->(k' S').P->Sim w0 S0 F.N B S2 a' w':=by
 unfold Qz8 at h;split at h
 . exact h.elim
 . rename_i S1 hS1;split at h
   . rename_i hc;simp only [Bool.and_eq_true] at hc;refine⟨_,h.2,_,h.1,fun S' a' w' H' hk' => ?_⟩;split at hk'
     . rename_i hn;obtain⟨ρ,ro,HR⟩:=H';obtain⟨ta,tb,e1,e2,e3⟩:=Qsx hk';have HB:=HR.bare;obtain⟨hkept,hkT,hkE,_,_⟩:=Qm0 HB (md := []) (locs := []) (Nat.le_refl _) B rfl;rw [<- hn] at hc;rw [<- hn];refine HR.rebase (fun l r q1 q2 => ?_) e1 e2 e3 hc.1 hc.2.1 hc.2.2.1 hc.2.2.2 (fun d y hy => ?_) (fun l e he => ?_)
       . have q3:=HR.solid l r q1 q2;rcases Nat.lt_or_ge l S'.n with h|h
         . exact h
         . rw [HR.fresh l h] at q3; cases q3
       . obtain⟨u,q1,q2⟩:=hkT d y hy;exact⟨u,q1,q2,hkept.t d y hy⟩
       . exact⟨hkE l e he,hkept.e l e he⟩
     . exact hk'.elim
   . exact h.elim
theorem Z6n {C:Cx} {id:Nat} {f:Unit->Fm} (h:(Z2n C id f).P):(f ()).P:=by
 unfold Z2n at h;split at h
 . exact h () trivial
 . exact h
theorem Qg2 {P:Program} {c:Code} {Q:Exit->Act->World->Prop}:∀ {n m:Nat} {a:Act} {w:World},Code.rounds P c Q n a w->n<=m->Code.rounds P c Q m a w
 | 0,_,_,_,h,_=>h.elim
 | n+1,0,_,_,_,hm=>by omega
 | n+1,m+1,a,w,h,hm=>by
  rw [rounds_succ] at h ⊢;refine wp_mono h fun e a w q => ?_
  cases e with
  | normal=>exact Qg2 q (by omega)
  | exit id=>exact q
  | ret=>exact q
  | goto l=>exact q
  | panic c=>exact q
  | outgrown=>exact q
theorem Z8q {go:Lp->Fm} {o:Option Lp} (h:(match o with
 | some lp=>go lp
 | none => .exl go:Fm).P):∃ lp,(go lp).P:=by
 cases o with
 | some lp=>exact⟨lp,h⟩
 | none=>exact h
theorem Z71 (hty:Zw P F.C.ty) (hcs:Q3h P F.C S0) (hmix:P.follows .mixedOrders=true):∀ (f:Nat) (c:Code) (B:Bs) (S:Sx) (K:List Kt) (a:Act) (w:World),(run F f c B S K).P->Sim w0 S0 F.N B S a w->Wf (efs F.C.fs) F.C.sc F.C.lt F.N B K->Yj (efs F.C.fs) F.C.sc F.C.lt F.N c=true->c.wp P (KQ F w0 S0 f B K) a w:=by
 intro f
 induction f using Nat.strongRecOn with
 | ind f ih =>
 intro c B S K a w h H hwf hok
 cases f with
 | zero=>unfold run at h; exact h.elim
 | succ f =>
  cases c with
  | skip=>unfold run at h; exact wp_skip ⟨f,S,by omega,H,h⟩
  | label l=>unfold run at h; exact wp_label ⟨f,S,by omega,H,h⟩
  | goto l=>unfold run at h; exact h.elim
  | scope b=>unfold run at h; exact h.elim
  | refuse why=>unfold run at h; exact h.elim
  | rangeFunc g ps x y=>unfold run at h; exact h.elim
  | ret=>unfold run at h; exact wp_ret ⟨f,S,by omega,H,h⟩
  | exit id=>unfold run at h; exact wp_exit ⟨f,S,by omega,H,h⟩
  | region id ops draw =>
   have H:Sim w0 S0 F.N B (cond F.C.fx S (Q11 B (Qmw F.C.fz id) S)) a w:=by
    cases hc:F.C.fx with
    | true=>exact H
    | false=>exact Q2u (by rw [hcs.fx,hc]) H
   have H:=Z3w F.C id H;unfold run at h;have h:=Z6n h;have hk:∀ S' a' w',Sim w0 S0 F.N B S' a' w'->(Q07 F f B S' K).P->KQ F w0 S0 (f+1) B K .normal a' w':=fun S' a' w' H' h'=>⟨f,S',by omega,H',h'⟩
   have hops:ops.toList.toArray=ops:=by simp
   cases draw with
   | false=>exact wp_region_list (by rw [<- hops]; simpa using Q5o hty hcs hk h H)
   | true =>
    dsimp only at h
    cases hj:Qwq F.C.jn id with
    | none =>
     rw [hj] at h;exact Z15 hty hcs hmix (fun _ _ _ hq=>hq.elim) (fun ⟨_,_,hq⟩=>hq.elim) hok hk h H
    | some ks =>
     rw [hj] at h;obtain⟨S2,h2,k',h3,h4⟩:=Z5q (w0:=w0) (S0:=S0) h;exact Z15 hty hcs hmix (fun _ _ _ hq=>hq.elim) (fun ⟨_,_,hq⟩=>hq.elim) hok (fun S' a' w' H' hk'=>hk S2 a' w' (h4 S' a' w' H' hk') h2) h3 H
  | seq x y =>
   unfold run at h;simp only [Yj,Bool.and_eq_true] at hok;refine wp_seq (wp_mono (ih f (by omega) x B S (.code y::K) a w h H (.code _ _ _ hok.2 hwf) hok.1) fun e a' w' hq => ?_)
   cases e with
   | normal =>
    obtain⟨g,S',hg,H',hc⟩:=hq
    cases g with
    | zero=>unfold Q07 at hc; exact hc.elim
    | succ g =>
     unfold Q07 at hc;exact wp_mono (ih g (by omega) y B S' K a' w' hc H' hwf hok.2) fun e a w q=>q.more (by omega)
   | exit id =>
    obtain⟨g,S',hg,H',hc⟩:=hq
    cases g with
    | zero=>unfold Gh at hc; exact hc.elim
    | succ g=>unfold Gh at hc; exact⟨g,S',by omega,H',hc⟩
   | ret =>
    obtain⟨g,S',hg,H',hc⟩:=hq
    cases g with
    | zero=>unfold Ke at hc; exact hc.elim
    | succ g=>unfold Ke at hc; exact⟨g,S',by omega,H',hc⟩
   | goto l=>exact hq.elim
   | panic c=>exact hq.elim
   | outgrown=>exact hq.elim
  | cond x c1 c2 =>
   unfold run at h;dsimp only at h;simp only [Yj,Bool.and_eq_true] at hok;obtain⟨ρ,ro,HR⟩:=H;have hx:=HR.get x;split at h
   . rename_i hg;rw [hg] at hx;exact wp_cond_true hx.blit_ (wp_mono (ih f (by omega) c1 B S K a w h ⟨ρ,ro,HR⟩ hwf hok.1) fun e a w q=>q.more (by omega))
   . rename_i hg;rw [hg] at hx;exact wp_cond_false hx.blit_ (wp_mono (ih f (by omega) c2 B S K a w h ⟨ρ,ro,HR⟩ hwf hok.2) fun e a w q=>q.more (by omega))
   . rename_i t hg;rw [hg] at hx;exact wp_cond_split hx.bool_ (fun ht=>wp_mono (ih f (by omega) c1 B S K a w (h.1 ht) ⟨ρ,ro,HR⟩ hwf hok.1) fun e a w q=>q.more (by omega)) fun ht=>wp_mono (ih f (by omega) c2 B S K a w (h.2 ht) ⟨ρ,ro,HR⟩ hwf hok.2) fun e a w q=>q.more (by omega)
   . exact h.elim
  | block id b =>
   unfold run at h;refine wp_block (wp_mono (ih f (by omega) b B S (.block id::K) a w h H (.block _ _ _ hwf) hok) fun e a' w' hq => ?_)
   cases e with
   | normal =>
    obtain⟨g,S',hg,H',hc⟩:=hq
    cases g with
    | zero=>unfold Q07 at hc; exact hc.elim
    | succ g=>unfold Q07 at hc; exact⟨g,S',by omega,H',hc⟩
   | exit id' =>
    obtain⟨g,S',hg,H',hc⟩:=hq
    cases g with
    | zero=>unfold Gh at hc; exact hc.elim
    | succ g =>
     unfold Gh at hc;dsimp only at hc;show if id'=id then _ else _
     by_cases e:id=id'
     . subst e;rw [if_pos rfl] at hc ⊢;exact⟨g,S',by omega,H',hc⟩
     . rw [if_neg e] at hc;rw [if_neg (fun h=>e h.symm)];exact⟨g,S',by omega,H',hc⟩
   | ret =>
    obtain⟨g,S',hg,H',hc⟩:=hq
    cases g with
    | zero=>unfold Ke at hc; exact hc.elim
    | succ g=>unfold Ke at hc; exact⟨g,S',by omega,H',hc⟩
   | goto l=>exact hq.elim
   | panic c=>exact hq.elim
   | outgrown=>exact hq.elim
  | loop b =>
   unfold run at h;dsimp only at h;split at h
   . rename_i k hkey
     cases hul:Qw k F.C.ul with
     | true =>
      have hrounds:∀ g,g<=f+1->∀ (S:Sx) (a:Act) (w:World),(run F g (.loop b) B S K).P->Sim w0 S0 F.N B S a w->Code.rounds P b (KQ F w0 S0 (f+1) B K) g a w:=by
       intro g
       induction g using Nat.strongRecOn with
       | ind g ihg =>
       intro hg S a w h H
       cases g with
       | zero=>unfold run at h; exact h.elim
       | succ g =>
        unfold run at h;dsimp only at h;rw [hkey] at h;dsimp only at h;rw [hul] at h;dsimp only at h;rw [rounds_succ];refine wp_mono (ih g (by omega) b B S (.again b::K) a w h H (.again _ _ _ hok hwf) hok) fun e a' w' hq => ?_
        cases e with
        | normal =>
         obtain⟨g',S',hg',H',hc⟩:=hq
         cases g' with
         | zero=>unfold Q07 at hc; exact hc.elim
         | succ g' =>
          unfold Q07 at hc;exact Qg2 (ihg g' (by omega) (by omega) S' a' w' hc H') (by omega)
        | exit id =>
         obtain⟨g',S',hg',H',hc⟩:=hq
         cases g' with
         | zero=>unfold Gh at hc; exact hc.elim
         | succ g'=>unfold Gh at hc; exact⟨g',S',by omega,H',hc⟩
        | ret =>
         obtain⟨g',S',hg',H',hc⟩:=hq
         cases g' with
         | zero=>unfold Ke at hc; exact hc.elim
         | succ g'=>unfold Ke at hc; exact⟨g',S',by omega,H',hc⟩
        | goto l=>exact hq.elim
        | panic c=>exact hq.elim
        | outgrown=>exact hq.elim
      refine wp_loop_rounds (f+1) (hrounds (f+1) (Nat.le_refl _) S a w ?_ H);unfold run;dsimp only;rw [hkey];exact h
     | false =>
      rw [hul] at h;dsimp only at h;obtain⟨lp,⟨hI0,heq0⟩,hall⟩:=Z8q h;generalize hn:Q2k S.n (Zg (lp.oe lp.x0))=n at hall;generalize hK':(⟨Q0o (Qyu b (Zg (lp.oe lp.x0)) n S.t) (Zg (lp.oe lp.x0)) n S.t,Q3z (Zg (lp.oe lp.x0)) n S.e⟩:Bs)=K' at hall;have hcond:∀ x,lp.I x->(Q3p (Zg (lp.oe x)) (Zg (lp.oe lp.x0))&&Gg (ltB n) (lp.ov x)&&Kv (ltB n) (lp.oe x)&&J1 (Vn K' B).t (lp.ov x)&&J1 (Vn K' B).e (lp.oe x))=true/\(run F f b (Vn K' B) ⟨lp.ov x,lp.oe x,n⟩ (.back B K' (fun Bi S'=>if n<=S'.n then (match lp.nx with
       | some nx => .vc [fun _=>lp.I (nx x)/\lp.μ (nx x) ()<lp.μ x ()] (eqS Bi (Qcs F.C.nb Bi S' (lp.ov (nx x)) (lp.oe (nx x))) (lp.ov (nx x)) (lp.oe (nx x)))
       | none => .ex lp.X (fun y=>lp.I y/\lp.μ y ()<lp.μ x ()) fun y=>eqS Bi (Qcs F.C.nb Bi S' (lp.ov y) (lp.oe y)) (lp.ov y) (lp.oe y)) else .ff 17)::K)).P:=by
       intro x hx;have h1:=hall x hx;dsimp only at h1;by_cases hc:(Q3p (Zg (lp.oe x)) (Zg (lp.oe lp.x0))&&Gg (ltB n) (lp.ov x)&&Kv (ltB n) (lp.oe x)&&J1 (Vn K' B).t (lp.ov x)&&J1 (Vn K' B).e (lp.oe x))=true
       . rw [if_pos hc] at h1;exact⟨hc,h1⟩
       . rw [if_neg hc] at h1;exact h1.elim
      obtain⟨ρ,ro,HR⟩:=H;have hSn:S.n<=n:=by rw [<- hn]; exact Qm3 _ _
      obtain⟨hkept,hkT,hkE,hdT,hdE⟩:=Qm0 HR (md:=Qyu b (Zg (lp.oe lp.x0)) n S.t) (locs:=Zg (lp.oe lp.x0)) hSn (Vn K' B) (by rw [hK']);have hdT':∀ d x,Q3 B.t d=some x->Q3 K'.t d=none:=by rw [<- hK']; exact hdT
      have hdE':∀ l e,Q3 B.e l=some e->Q3 K'.e l=none:=by rw [<- hK']; exact hdE
      have hsol:∀ l r,S0.pl l=some r->(r.solid||S0.fx)=true->l<n:=fun l r q1 q2=>by
       have q3:=HR.solid l r q1 q2;rcases Nat.lt_or_ge l n with h|h
       . exact h
       . rw [HR.fresh l (Nat.le_trans hSn h)] at q3; cases q3
      have hbase:∀ x {B1:Bs} {S1:Sx} {a1:Act} {w1:World} {ρ1:Nat->Option Rl} {ro1:Nat->Prop},Zi w0 S0 F.N B1 S1 a1 w1 ρ1 ro1->lp.I x->(eqS B1 S1 (lp.ov x) (lp.oe x)).P->(∀ d y,Q3 (Vn K' B).t d=some y->∃ u,a1.tmps[d]? = some u/\AVR w1 ρ1 w0.heap.size ro1 y u)->(∀ l e,Q3 (Vn K' B).e l=some e->EnR w1 ρ1 w0.heap.size ro1 l e)->Sim w0 S0 F.N (Vn K' B) ⟨lp.ov x,lp.oe x,n⟩ a1 w1:=by
       intro x B1 S1 a1 w1 ρ1 ro1 H1 hx heq hT1 hE1;obtain⟨ta,tb,e1,e2,e3⟩:=Qsx heq;have hc:=(hcond x hx).1;simp only [Bool.and_eq_true] at hc;exact H1.rebase hsol e1 e2 e3 hc.1.1.1.2 hc.1.1.2 hc.1.2 hc.2 (fun d y hy=>by obtain⟨u,q1,q2⟩:=hT1 d y hy; exact⟨u,q1,q2,hkept.t d y hy⟩) fun l e he=>⟨hE1 l e he,hkept.e l e he⟩
      refine wp_loop_ghost (fun m a w=>∃ x,lp.I x/\lp.μ x ()=m/\Sim w0 S0 F.N (Vn K' B) ⟨lp.ov x,lp.oe x,n⟩ a w) (lp.μ lp.x0 ()) ⟨lp.x0,hI0,rfl,hbase lp.x0 HR hI0 heq0 hkT hkE⟩ ?_
      rintro m a1 w1 ⟨x,hx,rfl,H1⟩
      have hrun:=(hcond x hx).2;refine wp_mono (ih f (by omega) b (Vn K' B) _ _ a1 w1 hrun H1 (.back _ _ _ _ hdT' hdE' hwf) hok) fun e a' w' hq => ?_
      cases e with
      | normal =>
       obtain⟨g,S',hg,H',hc⟩:=hq
       cases g with
       | zero=>unfold Q07 at hc; exact hc.elim
       | succ g =>
        unfold Q07 at hc;dsimp only at hc;split at hc
        . have hfin:∀ y,lp.I y->lp.μ y ()<lp.μ x ()->(eqS (Vn K' B) (Qcs F.C.nb (Vn K' B) S' (lp.ov y) (lp.oe y)) (lp.ov y) (lp.oe y)).P->∃ n',n'<lp.μ x ()/\∃ x',lp.I x'/\lp.μ x' ()=n'/\Sim w0 S0 F.N (Vn K' B) ⟨lp.ov x',lp.oe x',n⟩ a' w':=by
           intro y hy hlt heq;obtain⟨ρ',ro',HR'⟩:=Qco hcs.pl _ H';exact⟨_,hlt,y,hy,rfl,hbase y HR' hy heq (fun d z hz=>HR'.tm d z (by unfold Zh; rw [HR'.disT d z hz]; exact hz)) fun l e he=>HR'.en l e (by unfold Qh; rw [HR'.disE l e he]; exact he)⟩
          split at hc
          . rename_i nx hnx;obtain⟨⟨q1,q2⟩,q3⟩:=hc;exact hfin _ q1 q2 q3
          . obtain⟨y,⟨q1,q2⟩,q3⟩:=hc;exact hfin y q1 q2 q3
        . exact hc.elim
      | exit id =>
       obtain⟨g,S',hg,H',hc⟩:=hq
       cases g with
       | zero=>unfold Gh at hc; exact hc.elim
       | succ g=>unfold Gh at hc; exact⟨g,_,by omega,Qsg hdT' hdE' H',hc⟩
      | ret =>
       obtain⟨g,S',hg,H',hc⟩:=hq
       cases g with
       | zero=>unfold Ke at hc; exact hc.elim
       | succ g=>unfold Ke at hc; exact⟨g,_,by omega,Qsg hdT' hdE' H',hc⟩
      | goto l=>exact hq.elim
      | panic c=>exact hq.elim
      | outgrown=>exact hq.elim
   . exact h.elim
end
end Go.Proofs.YtffeegebohigdaaGreat
