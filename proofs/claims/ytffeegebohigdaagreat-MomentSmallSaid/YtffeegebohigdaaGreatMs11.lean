/-
  The abstract run: calls of functions that change what lies at places that are given are sound.
-/
import Derived.Test.YtffeegebohigdaaGreatMs10
set_option linter.unusedVariables false
set_option linter.unusedSimpArgs false
namespace Go.Proofs.YtffeegebohigdaaGreat
open Go.RowKit
section
variable {P:Program} {w w' w0:World} {ρ ρ':Nat->Option Rl} {base:Nat} {ro ro':Nat->Prop} {S0:Pm} {N:Nat} {B:Bs} {S:Sx} {a:Act} {ge:Nat->Option En} {v:Value}
def ρL (ρ:Nat->Option Rl) (L:List Nat):Nat->Option Rl:=fun k=>match L[k]? with
 | some l => ρ l
 | none=>none
theorem Qax {L:List Nat} {k l:Nat} (h:L[k]? = some l) : ρL ρ L k = ρ l:=by unfold ρL; rw [h]
theorem Q1x {L:List Nat} {k:Nat} {r:Rl} (h : ρL ρ L k=some r):∃ l,L[k]? = some l /\ ρ l=some r:=by
 unfold ρL at h;split at h
 . rename_i l hl; exact⟨l,hl,h⟩
 . cases h
theorem Qui (ag fr:Bool) (t:Tc) (x:Unit->t.el):AV.plain false (Yh ag fr t x)=true:=by
 unfold Yh;have h:=Ju fr t x
 cases ag with
 | true=>exact h
 | false =>
  simp only [Bool.false_eq_true,if_false]
  cases hc:Q8 fr t x with
  | nil=>rfl
  | cons c l =>
   rw [hc] at h
   cases l with
   | nil=>simpa [AV.plainL] using h
   | cons c2 l=>rfl
theorem AVR.move0 {x:AV} {ρ2:Nat->Option Rl} (h:AVR w ρ base ro x v) (hx:AV.plain false x=true):AVR w ρ2 0 ro x v :=
 (h.plain (ρ' := ρ2) hx fun _ _ h=>h).mono (fun _ _ _=>rfl) (Ext.refl _) (Nat.zero_le _) fun _ h=>h
structure Cop (w:World) (ρ:Nat->Option Rl) (ro:Nat->Prop) (st st':Pst):Prop where
 more:∃ m,st'.locs=st.locs++m
 nodup:st.locs.Nodup->st'.locs.Nodup
 some_:∀ l∈st'.locs,l∈st.locs\/∃ r,ρ l=some r
 en:∀ L,(∃ m,L=st'.locs++m)->∀ k e,Q3 st'.es k=some e->Q3 st.es k=some e\/EnR w (ρL ρ L) 0 ro k e
theorem Cop.refl (st:Pst):Cop w ρ ro st st:=⟨⟨[],by simp⟩,id,fun _ h => .inl h,fun _ _ _ _ h => .inl h⟩
theorem Cop.trans {s1 s2 s3:Pst} (h:Cop w ρ ro s1 s2) (k:Cop w ρ ro s2 s3):Cop w ρ ro s1 s3:=by
 obtain⟨m,hm⟩:=h.more;obtain⟨n,hn⟩:=k.more;refine⟨⟨m++n,by rw [hn,hm,List.append_assoc]⟩,fun q=>k.nodup (h.nodup q),fun l hl => ?_,fun L hL i e he => ?_⟩
 . rcases k.some_ l hl with h1|h1
   . exact h.some_ l h1
   . exact .inr h1
 . rcases k.en L hL i e he with h1|h1
   . obtain⟨q,hq⟩:=hL;exact h.en L ⟨n++q,by rw [hq,hn,List.append_assoc]⟩ i e h1
   . exact .inr h1
theorem Qet {l:Nat}:∀ {ls:List Nat},Qw l ls=false->l∉ls
 | [],_=>by simp
 | k::ls,h=>by
  simp only [Qw,Bool.or_eq_false_iff,beq_eq_false_iff_ne,ne_eq] at h;simp only [List.mem_cons,not_or];exact⟨fun e=>h.1 e.symm,Qet h.2⟩
theorem Qaz {l:Nat} {ls:List Nat} (h:ls.Nodup) (hl:l∉ls):(ls ++ [l]).Nodup:=by
 rw [List.nodup_append];exact⟨h,by simp,fun a ha b hb=>by simp only [List.mem_singleton] at hb; subst hb; exact fun e=>hl (e▸ha)⟩
theorem Q72 {ls m:List Nat} {l:Nat}:(ls ++ [l]++m)[ls.length]? = some l:=by simp
mutual
theorem Qwd (hge:∀ loc e,ge loc=some e->EnR w ρ base ro loc e):∀ (s:Sg) (x y:AV) (v:Value) (st st':Pst),Qlf ge s x st=some (y,st')->AVR w ρ base ro x v->Cop w ρ ro st st'/\∀ L,(∃ m,L=st'.locs++m)->AVR w (ρL ρ L) 0 ro y v:=by
 intro s x y v st st' h hx;unfold Qlf at h;split at h
 . cases h;exact⟨.refl _,fun _ _ => .un _⟩
 . rename_i t loc;split at h
   . rename_i fr t' T l he;split at h
     . rename_i hc;obtain⟨rfl,hm⟩:=hc;cases h;obtain⟨A,c,css,hA,hown,hlen,hcell⟩:=hge _ _ he;obtain⟨A',n,c',hA',hv⟩:=hx.own_;refine⟨⟨⟨[loc],rfl⟩,fun q=>Qaz q (Qet hm),fun l' hl' => ?_,fun L hL k e hke => ?_⟩,fun L hL => ?_⟩
       . rcases List.mem_append.1 hl' with h1|h1
         . exact .inl h1
         . simp only [List.mem_singleton] at h1; subst h1; exact .inr ⟨_,hA⟩
       . rw [Qb] at hke;split at hke
         . rename_i e0;subst e0;cases hke;obtain⟨m,rfl⟩:=hL;refine .inr ⟨A,c,css,by rw [Qax Q72]; exact hA,hown.base_le (Nat.zero_le _),hlen,fun k cs j x u k1 k2 k3 => ?_⟩;have hsz:=hown.2 cs (List.mem_of_getElem? k1);have h6:=(Q1c (g:=false) (Q02 hsz fun j y v r1 r2=>hcell k cs j y v k1 r1 r2) (fun h=>by cases h)).2 j x u k2 k3;exact h6.move0 (Gj (Ju _ _ _) k2)
         . exact .inl hke
       . obtain⟨m,rfl⟩:=hL;rw [hv];exact .own _ _ _ _ (by rw [Qax Q72]; exact hA')
     . cases h
   . cases h
 . rename_i c t loc;split at h
   . rename_i fr ag c' t' T m he;split at h
     . rename_i hc;obtain⟨rfl,rfl,hm⟩:=hc;cases h;obtain⟨b,es,clock,hb,hh,hst,hM⟩:=hge _ _ he;obtain⟨b',hb',hv⟩:=hx.mp_;refine⟨⟨⟨[loc],rfl⟩,fun q=>Qaz q (Qet hm),fun l' hl' => ?_,fun L hL k e hke => ?_⟩,fun L hL => ?_⟩
       . rcases List.mem_append.1 hl' with h1|h1
         . exact .inl h1
         . simp only [List.mem_singleton] at h1; subst h1; exact .inr ⟨_,hb⟩
       . rw [Qb] at hke;split at hke
         . rename_i e0;subst e0;cases hke;obtain⟨m',rfl⟩:=hL;exact .inr ⟨b,es,clock,by rw [Qax Q72]; exact hb,hh,hst,(hM.less (fr':=false) (fun h=>by cases h)).map_ fun x v hx=>hx.move0 (Qui _ _ _ _)⟩
         . exact .inl hke
       . obtain⟨m',rfl⟩:=hL;rw [hv];exact .mp _ _ (by rw [Qax Q72]; exact hb')
     . cases h
   . cases h
 . rename_i l loc;split at h
   . rename_i T cells he;split at h
     . cases h
     . rename_i hm;split at h
       . rename_i ys st2 hc;cases h;obtain⟨b,cs,hb,hh,hE⟩:=hge _ _ he;obtain⟨b',hb',hv⟩:=hx.ptr_;obtain⟨h1,h2⟩:=Q8z hge l cells ys cs _ _ hc hE;have hm':Qw loc st.locs=false:=by simpa using hm
         obtain⟨m1,hm1⟩:=h1.more;dsimp only at hm1;refine⟨⟨⟨[loc]++m1,by rw [hm1,List.append_assoc]⟩,fun q=>h1.nodup (Qaz q (Qet hm')),fun l' hl' => ?_,fun L hL k e hke => ?_⟩,fun L hL => ?_⟩
         . rcases h1.some_ l' hl' with h3|h3
           . rcases List.mem_append.1 h3 with h4|h4
             . exact .inl h4
             . simp only [List.mem_singleton] at h4; subst h4; exact .inr ⟨_,hb⟩
           . exact .inr h3
         . rw [Qb] at hke;split at hke
           . rename_i e0;subst e0;cases hke;have h3:=h2 L hL;obtain⟨m,rfl⟩:=hL;refine .inr ⟨b,cs,?_,hh,h3⟩;rw [Qax (l:=loc) (by dsimp only; rw [hm1,List.append_assoc]; exact Q72)];exact hb
           . exact h1.en L hL k e hke
         . obtain⟨m,rfl⟩:=hL;rw [hv];exact .ptr _ _ _ (by rw [Qax (l:=loc) (by dsimp only; rw [hm1,List.append_assoc]; exact Q72)]; exact hb')
       . cases h
   . cases h
 . split at h
   . rename_i hp
     cases hc:Qdo ge s x with
     | none=>rw [hc] at h; cases h
     | some y' =>
      rw [hc] at h;cases h;refine⟨.refl _,fun L _ => ?_⟩;exact (Qn3 hge (fun _ h=>h) s x _ v hc hx (.inl hp)).mono (fun _ _ _=>rfl) (fun l r h=>by cases h) (Nat.le_refl _) fun _ h=>h
   . cases h
theorem Q8z (hge:∀ loc e,ge loc=some e->EnR w ρ base ro loc e):∀ (ss:List Sg) (xs ys:List AV) (vs:List Value) (st st':Pst),Q79 ge ss xs st=some (ys,st')->Qj w ρ base ro xs vs->Cop w ρ ro st st'/\∀ L,(∃ m,L=st'.locs++m)->Qj w (ρL ρ L) 0 ro ys vs:=by
 intro ss xs ys vs st st' h hE;unfold Q79 at h;split at h
 . cases h;rw [hE.none];exact⟨.refl _,fun _ _ => .nil⟩
 . rename_i s ss x xs;split at h
   . rename_i y st1 h1;split at h
     . rename_i ys' st2 h2;cases h;obtain⟨u,us,rfl,hx,hE'⟩:=hE.head;obtain⟨k1,k2⟩:=Qwd hge s x y u _ _ h1 hx;obtain⟨k3,k4⟩:=Q8z hge ss xs ys' us _ _ h2 hE';refine⟨k1.trans k3,fun L hL => ?_⟩;refine .cons (k2 L ?_) (k4 L hL);obtain⟨m,hm⟩:=k3.more;obtain⟨q,hq⟩:=hL;exact⟨m++q,by rw [hq,hm,List.append_assoc]⟩
     . cases h
   . cases h
 . cases h
end
theorem AVR.away {x:AV} {q:Nat->Prop} (h:AVR w ρ base ro x v) (hx:∀ l,q l->AV.has l x=false) (hρ:∀ l r,ρ l=some r->(¬ q l\/r.solid=true) -> ρ' l=some r):AVR w ρ' base ro x v:=by
 have hl:∀ {l:List AV} {j:Nat} {y:AV},(∀ k,q k->AV.hasL k l=false)->l[j]? = some y->∀ k,q k->AV.has k y=false:=fun h hy k hk=>Yv (h k hk) hy
 induction h with
 | un=>exact .un _
 | int=>exact .int _ _
 | lit=>exact .lit _ _
 | bool=>exact .bool _
 | blit=>exact .blit _
 | str=>exact .str _
 | nil=>exact .nil
 | sl fr t l A c css hl' hc hr hro1 hfr h ih=>exact .sl fr t l A c css hl' hc hr hro1 hfr fun k cs j y v h1 h2 h3=>ih k cs j y v h1 h2 h3 fun k _=>Yv (Vy _ _ _ _) h2
 | wide fr t l n A c hn h ih=>exact .wide fr t l n A c hn (ih fun k _=>rfl)
 | pto cells off b o cs hr hlt hl' hc h ih=>exact .pto cells off b o cs hr hlt hl' hc fun j y v h1 h2=>ih j y v h1 h2 (hl (fun k hk=>by simpa only [AV.has] using hx k hk) h1)
 | ptr l off b h=>exact .ptr _ _ _ (hρ _ _ h (.inr rfl))
 | mp l b h=>exact .mp _ _ (hρ _ _ h (.inr rfl))
 | stamp l s h=>exact .stamp _ _ (hρ _ _ h (.inr rfl))
 | it l l2 b h=>exact .it _ _ _ (hρ _ _ h (.inr rfl))
 | own l A n c h=>exact .own _ _ _ _ (hρ _ _ h (.inl fun hq=>by have:=hx l hq; simp [AV.has] at this))
 | orp t l k off A n c b h hA h0 hn=>exact .orp _ _ _ _ _ _ _ _ (hρ _ _ h (.inl fun hq=>by have:=hx l hq; simp [AV.has] at this)) hA h0 hn
 | osl t l a b A n c h hab=>exact .osl _ _ _ _ _ _ _ (hρ _ _ h (.inl fun hq=>by have:=hx l hq; simp [AV.has] at this)) hab
 | agg l vs hl' h ih=>exact .agg _ _ hl' fun j y v h1 h2=>ih j y v h1 h2 (hl (fun k hk=>by simpa only [AV.has] using hx k hk) h1)
 | tup l vs hl' h ih=>exact .tup _ _ hl' fun j y v h1 h2=>ih j y v h1 h2 (hl (fun k hk=>by simpa only [AV.has] using hx k hk) h1)
 | fn f caps vs hl' h ih=>exact .fn _ _ _ hl' fun j y v h1 h2=>ih j y v h1 h2 (hl (fun k hk=>by simpa only [AV.has] using hx k hk) h1)
theorem Qb1 (g:Nat->Nat):∀ (l:List AV) (j:Nat),(AV.renL g l)[j]? = (l[j]?).map (AV.ren g)
 | [],j=>by simp [AV.renL]
 | x::l,0=>by simp [AV.renL]
 | x::l,j+1=>by simpa [AV.renL] using Qb1 g l j
theorem Q7a (g:Nat->Nat):∀ (l:List AV),(AV.renL g l).length=l.length
 | []=>rfl
 | x::l=>by simp [AV.renL,Q7a g l]
theorem Q8x (g:Nat->Nat) (fr:Bool) (t:Tc) (x:Unit->t.el):AV.renL g (Q8 fr t x)=Q8 fr t x:=by cases t<;>rfl
theorem Z48 (g:Nat->Nat) (ag fr:Bool) (t:Tc) (x:Unit->t.el):AV.ren g (Yh ag fr t x)=Yh ag fr t x:=by
 unfold Yh;have h:=Q8x g fr t x
 cases ag with
 | true =>
  simp only [if_true,AV.ren];rw [h]
 | false =>
  simp only [Bool.false_eq_true,if_false]
  cases hc:Q8 fr t x with
  | nil=>rfl
  | cons c l =>
   rw [hc] at h
   cases l with
   | nil=>simpa [AV.renL] using h
   | cons c2 l=>rfl
theorem AVR.ren {x:AV} {g:Nat->Nat} (h:AVR w ρ base ro x v) (hρ:∀ l r,ρ l=some r -> ρ' (g l)=some r):AVR w ρ' base ro (AV.ren g x) v:=by
 have hm:∀ {l:List AV} {vs:List Value},(∀ (j:Nat) x v,l[j]? = some x->vs[j]? = some v->AVR w ρ' base ro (AV.ren g x) v)->∀ (j:Nat) x v,(AV.renL g l)[j]? = some x->vs[j]? = some v->AVR w ρ' base ro x v:=by
  intro l vs h j x v hx hv;rw [Qb1] at hx
  cases hj:l[j]? with
  | none=>rw [hj] at hx; cases hx
  | some y =>
   rw [hj] at hx;simp only [Option.map_some,Option.some.injEq] at hx;subst hx;exact h j y v hj hv
 induction h with
 | un=>exact .un _
 | int=>exact .int _ _
 | lit=>exact .lit _ _
 | bool=>exact .bool _
 | blit=>exact .blit _
 | str=>exact .str _
 | nil=>exact .nil
 | sl fr t l A c css hl hc hr hro1 hfr h ih =>
  refine .sl fr t l A c css hl hc hr hro1 hfr fun k cs j y v h1 h2 h3 => ?_;have h4:AV.ren g y=y:=by
   have h5:=Qb1 g (Q8 fr t fun _=>(l ()).getD k t.dflt) j;rw [Q8x,h2] at h5;simpa using h5.symm
  rw [<- h4];exact ih k cs j y v h1 h2 h3
 | wide fr t l n A c hn h ih=>exact .wide fr t l n A c hn ih
 | pto cells off b o cs hr hlt hl hc h ih=>exact .pto _ off b o cs hr hlt (by rw [Q7a]; exact hl) hc (hm ih)
 | ptr l off b h=>exact .ptr _ _ _ (hρ _ _ h)
 | mp l b h=>exact .mp _ _ (hρ _ _ h)
 | stamp l s h=>exact .stamp _ _ (hρ _ _ h)
 | it l l2 b h=>exact .it _ _ _ (hρ _ _ h)
 | own l A n c h=>exact .own _ _ _ _ (hρ _ _ h)
 | orp t l k off A n c b h hA h0 hn=>exact .orp _ _ _ _ _ _ _ _ (hρ _ _ h) hA h0 hn
 | osl t l a b A n c h hab=>exact .osl _ _ _ _ _ _ _ (hρ _ _ h) hab
 | agg l vs hl h ih=>exact .agg _ _ (by rw [Q7a]; exact hl) (hm ih)
 | tup l vs hl h ih=>exact .tup _ _ (by rw [Q7a]; exact hl) (hm ih)
 | fn f caps vs hl h ih=>exact .fn _ _ _ (by rw [Q7a]; exact hl) (hm ih)
theorem EnR.ren {e:En} {g:Nat->Nat} {k:Nat} (h:EnR w ρ base ro k e) (hρ:∀ l r,ρ l=some r -> ρ' (g l)=some r):EnR w ρ' base ro (g k) (En.ren g e):=by
 cases e with
 | box T cells =>
  obtain⟨b,cs,h1,h4,h5⟩:=h;have h6:AVR w ρ base ro (.agg cells) (.agg cs.toArray) := .agg _ _ h5.1 h5.2;obtain⟨vs,h7,h8⟩:=(h6.ren hρ).agg_;have h9:cs=vs:=by simpa using h7
  subst h9;exact⟨b,cs,hρ _ _ h1,h4,h8⟩
 | row fr t T m =>
  obtain⟨A,c,css,h1,h2,h3,h5⟩:=h;refine⟨A,c,css,hρ _ _ h1,h2,h3,fun k cs j x v k1 k2 k3 => ?_⟩;have h4:AV.ren g x=x:=by
   have h5:=Qb1 g (Q8 fr t fun _=>(m ()).getD k t.dflt) j;rw [Q8x,k2] at h5;simpa using h5.symm
  rw [<- h4];exact (h5 k cs j x v k1 k2 k3).ren hρ
 | map fr ag c t T m =>
  obtain⟨b,es,clock,h1,h2,h3,h4⟩:=h;exact⟨b,es,clock,hρ _ _ h1,h2,h3,h4.map_ fun x v hx=>by rw [<- Z48 g]; exact hx.ren hρ⟩
 | iter ml c seen left =>
  obtain⟨b,b2,es,clock,since,stamps,c0,h1,h2,h3⟩:=h;exact⟨b,b2,es,clock,since,stamps,c0,hρ _ _ h1,hρ _ _ h2,h3⟩
 | stamp ml c key =>
  obtain⟨b,es,clock,s,e,h1,h2,h3⟩:=h;exact⟨b,es,clock,s,e,hρ _ _ h1,hρ _ _ h2,h3⟩
 | dead=>obtain⟨r,h⟩:=h; exact⟨r,hρ _ _ h⟩
end
section
variable {P:Program} {w w' w0:World} {ρ ρ' ρ1:Nat->Option Rl} {base base':Nat} {ro ro' ra1:Nat->Prop} {S0:Pm} {N:Nat} {B:Bs} {S:Sx} {a:Act} {v:Value}
theorem EnR.more {l:Nat} {e:En} (h:EnR w ρ base ro l e) (hb:base'<=base) (hro:∀ b,ro b->ro' b):EnR w ρ base' ro' l e:=by
 have hav:∀ {x v},AVR w ρ base ro x v->AVR w ρ base' ro' x v:=fun h=>h.mono (fun _ _ _=>rfl) (Ext.refl _) hb hro
 cases e with
 | box T cells =>
  obtain⟨b,cs,h1,h4,h5⟩:=h;exact⟨b,cs,h1,h4,h5.1,fun j x v hx hv=>hav (h5.2 j x v hx hv)⟩
 | row fr t T m =>
  obtain⟨A,c,css,h1,h2,h3,h5⟩:=h;exact⟨A,c,css,h1,h2.base_le (Z5p fr hb),h3,fun k cs j x v k1 k2 k3=>hav (h5 k cs j x v k1 k2 k3)⟩
 | map fr ag c t T m =>
  obtain⟨b,es,clock,h1,h2,h3,h4⟩:=h;exact⟨b,es,clock,h1,h2,h3,h4.map_ fun x v hx=>hav hx⟩
 | iter ml c seen left=>exact h
 | stamp ml c key=>exact h
 | dead=>exact h
structure Q3l (B:Bs) (S:Sx) (loc:Nat):Prop where
 t:∀ d x,Zh B S d=some x->AV.has loc x=false
 b:∀ l T cs,Qh B S l=some (.box T cs)->AV.hasL loc cs=false
 r:∀ l e,Qh B S l=some e->Jn loc e=false
theorem Z80 {l d:Nat} {x:AV} (h:Zh B (Kh l S) d=some x):Zh B S d=some x\/x = .un:=by
 unfold Zh Kh at h;rw [Q27] at h;unfold Zh
 cases hd:Q3 S.t d with
 | none=>rw [hd] at h; exact .inl h
 | some y =>
  rw [hd] at h;simp only [Option.map_some,Option.some.injEq] at h;split at h
  . exact .inr h.symm
  . exact .inl (by rw [h])
theorem Z05 {l k:Nat} {e:En} (h:Qh B (Kh l S) k=some e):∃ e0,Qh B S k=some e0/\(e=e0\/e=Qs6 l e0):=by
 unfold Qh Kh at h;rw [Q28] at h;unfold Qh
 cases hd:Q3 S.e k with
 | none=>rw [hd] at h; exact⟨e,h,.inl rfl⟩
 | some y =>
  rw [hd] at h;simp only [Option.map_some,Option.some.injEq] at h;exact⟨y,rfl,.inr h.symm⟩
theorem Qk0 {l k:Nat} {e:En} (h:Qh B ⟨S.t,Yz l S.e,S.n⟩ k=some e):∃ e0,Qh B S k=some e0/\(e=e0\/e = .dead):=by
 unfold Qh at h;simp only [Q2f] at h;unfold Qh
 cases hd:Q3 S.e k with
 | none=>rw [hd] at h; exact⟨e,h,.inl rfl⟩
 | some y =>
  rw [hd] at h;simp only [Option.map_some,Option.some.injEq] at h;refine⟨y,rfl,?_⟩;split at h
  . exact .inr h.symm
  . exact .inl h.symm
theorem Qzn {l loc:Nat} {cs:List AV} (h:AV.hasL loc cs=false):AV.hasL loc (Q6t l cs)=false:=by
 refine Qn0 fun j x hx => ?_;rw [Q8o] at hx
 cases hj:cs[j]? with
 | none=>rw [hj] at hx; cases hx
 | some y =>
  rw [hj] at hx;simp only [Option.map_some,Option.some.injEq] at hx;subst hx;split
  . rfl
  . exact Yv h hj
theorem Q3l.kill_ {loc:Nat} (h:Q3l B S loc) (l:Nat):Q3l B (Kh l S) loc:=by
 refine⟨fun d x hx => ?_,fun k T cs he => ?_,fun k e he => ?_⟩
 . rcases Z80 hx with h1|rfl
   . exact h.t d x h1
   . rfl
 . obtain⟨e0,h1,h2|h2⟩:=Z05 he
   . subst h2; exact h.b k T cs h1
   . cases e0 with
     | box T' cs'=>cases h2; exact Qzn (h.b k _ cs' h1)
     | row fr t T m=>cases h2
     | map fr ag c t T m=>cases h2
     | iter ml c seen left=>cases h2
     | stamp ml c key=>cases h2
     | dead=>cases h2
 . obtain⟨e0,h1,h2|h2⟩:=Z05 he
   . subst h2; exact h.r k _ h1
   . have:=h.r k e0 h1;rw [h2];cases e0<;>exact this
theorem Q3l.drop_ {loc:Nat} (h:Q3l B S loc) (l:Nat):Q3l B ⟨S.t,Yz l S.e,S.n⟩ loc:=by
 refine⟨h.t,fun k T cs he => ?_,fun k e he => ?_⟩
 . obtain⟨e0,h1,h2|h2⟩:=Qk0 he
   . subst h2; exact h.b k T cs h1
   . cases h2
 . obtain⟨e0,h1,h2|h2⟩:=Qk0 he
   . subst h2; exact h.r k _ h1
   . subst h2; rfl
theorem Qk6:∀ {ls:List Nat} {S:Sx},Q0l B ls=true->Zi w0 S0 N B S a w ρ ro->Zi w0 S0 N B (Q75 ls S) a w ρ ro/\(∀ l∈ls,Q3l B (Q75 ls S) l)/\(Q75 ls S).n=S.n/\∀ l,Q3l B S l->Q3l B (Q75 ls S) l
 | [],S,_,H=>⟨H,(fun _ h=>by cases h),rfl,fun _ h=>h⟩
 | l::ls,S,h,H=>by
  unfold Q0l at h;simp only [Bool.and_eq_true] at h;obtain⟨⟨⟨_,hq⟩,hr⟩,hls⟩:=h;have H1:=H.killed l;obtain⟨H2,hr2⟩:=H1.dropped (loc:=l) hr;have hc:Q3l B ⟨(Kh l S).t,Yz l (Kh l S).e,(Kh l S).n⟩ l:=by
   have hk:=Qkj (S:=S) hq;refine⟨hk.1,fun k T cs he => ?_,hr2⟩;obtain⟨e0,h1,h2|h2⟩:=Qk0 he
   . subst h2; exact hk.2 k T cs h1
   . cases h2
  obtain⟨k1,k2,k3,k4⟩:=Qk6 (ls:=ls) hls H2;refine⟨k1,fun l' hl' => ?_,k3,fun l' hl'=>k4 l' ((hl'.kill_ l).drop_ l)⟩;rcases List.mem_cons.1 hl' with rfl|hl'
  . exact k4 _ hc
  . exact k2 l' hl'
theorem Qjm:∀ {ls:List Nat} {S:Sx},Q0l B ls=true->Zi w0 S0 N B S a w ρ ro->Zi w0 S0 N B (Q70 ls S) a w ρ ro/\(∀ l∈ls,∀ k e,Qh B (Q70 ls S) k=some e->Jn l e=false)/\(Q70 ls S).n=S.n/\∀ l,(∀ k e,Qh B S k=some e->Jn l e=false)->∀ k e,Qh B (Q70 ls S) k=some e->Jn l e=false
 | [],S,_,H=>⟨H,(fun _ h=>by cases h),rfl,fun _ h=>h⟩
 | l::ls,S,h,H=>by
  unfold Q0l at h;simp only [Bool.and_eq_true] at h;obtain⟨⟨⟨_,hq⟩,hr⟩,hls⟩:=h;obtain⟨H2,hr2⟩:=H.dropped (loc:=l) hr;obtain⟨k1,k2,k3,k4⟩:=Qjm (ls:=ls) hls H2;refine⟨k1,fun l' hl' => ?_,k3,fun l' hl'=>k4 l' fun k e he => ?_⟩
  . rcases List.mem_cons.1 hl' with rfl|hl'
    . exact k4 _ hr2
    . exact k2 l' hl'
  . obtain⟨e0,h1,h2|h2⟩:=Qk0 he
    . subst h2; exact hl' k _ h1
    . subst h2; rfl
theorem Z02 {fx:Bool} {ls:List Nat} (hf:Q0l B ls=true) (H:Zi w0 S0 N B S a w ρ ro):Zi w0 S0 N B (G0 fx ls S) a w ρ ro/\(∀ l∈ls,∀ k e,Qh B (G0 fx ls S) k=some e->Jn l e=false)/\(fx=false->∀ l∈ls,Q3l B (G0 fx ls S) l):=by
 unfold G0
 cases fx with
 | true =>
  obtain⟨k1,k2,_,_⟩:=Qjm (S:=S) hf H;exact⟨k1,k2,fun h=>by cases h⟩
 | false =>
  obtain⟨k1,k2,_,_⟩:=Qk6 (S:=S) hf H;exact⟨k1,fun l hl=>(k2 l hl).r,fun _=>k2⟩
theorem Qai {g:Nat->Nat} {l:Nat} {e:En}:∀ {es:List (Nat×En)},Q3 (Jg g es) l=some e->∃ k e0,g k=l/\e=En.ren g e0/\Q3 es k=some e0
 | (k0,e0)::es,h=>by
  unfold Jg at h;rw [Qb] at h;split at h
  . rename_i hk;cases h;exact⟨k0,e0,hk,rfl,by rw [Qb,if_pos rfl]⟩
  . rename_i hk;obtain⟨k,e1,h1,h2,h3⟩:=Qai h;exact⟨k,e1,h1,h2,by rw [Qb,if_neg (by rintro rfl; exact hk h1)]; exact h3⟩
 | [],h=>by cases h
theorem Qoj {g:Nat->Nat} {k:Nat}:∀ {es:List (Nat×En)},Qw k (Zg es)=true->∃ e,Q3 (Jg g es) (g k)=some e
 | (k0,e0)::es,h=>by
  unfold Jg;rw [Qb];split
  . exact⟨_,rfl⟩
  . rename_i hk;simp only [Zg,Qw,Bool.or_eq_true,beq_iff_eq] at h;rcases h with rfl|h
    . exact absurd rfl hk
    . exact Qoj h
 | [],h=>by cases h
theorem Qnu {α:Type} {k:Nat} {x : α}:∀ {l:List (Nat × α)},Q3 l k=some x->Qw k (Zg l)=true
 | (j,y)::l,h=>by
  rw [Qb] at h;simp only [Zg,Qw,Bool.or_eq_true,beq_iff_eq];split at h
  . rename_i e; exact .inl e
  . exact .inr (Qnu h)
 | [],h=>by cases h
theorem Qmi:∀ {ks:List Nat} {n k:Nat},Qw k ks=true->k<Q2k n ks
 | j::ks,n,k,h=>by
  simp only [Qw,Bool.or_eq_true,beq_iff_eq] at h;have hle:∀ (l:List Nat) (n:Nat),n<=Q2k n l:=by
   intro l
   induction l with
   | nil=>intro n; exact Nat.le_refl n
   | cons j l ih =>
    intro n;unfold Q2k;split
    . exact ih n
    . have:=ih (j+1); omega
  unfold Q2k;split
  . rcases h with rfl|h
    . have:=hle ks n; omega
    . exact Qmi h
  . rcases h with rfl|h
    . have:=hle ks (j+1); omega
    . exact Qmi h
 | [],_,_,h=>by cases h
theorem Qwa {ks:List Nat}:∀ {n l:Nat},Qeg ks n=true->l<n->Qw l ks=true
 | n+1,l,h,hl=>by
  simp only [Qeg,Bool.and_eq_true] at h;rcases Nat.lt_or_ge l n with h1|h1
  . exact Qwa h.2 h1
  . rw [show l=n by omega]; exact h.1
 | 0,_,_,hl=>by omega
theorem Qfm {g:Nat->Nat} {n k:Nat}:∀ {ks:List Nat},Q6u B g n ks=true->Qw k ks=true->n<=k->Q3 B.e (g k)=none
 | j::ks,h,hm,hk=>by
  unfold Q6u at h;simp only [Bool.and_eq_true,Bool.or_eq_true,decide_eq_true_eq,Option.isNone_iff_eq_none] at h;simp only [Qw,Bool.or_eq_true,beq_iff_eq] at hm;rcases hm with rfl|hm
  . exact h.1.resolve_left (by omega)
  . exact Qfm h.2 hm hk
 | [],_,h,_=>by cases h
theorem Qfx {l:Nat}:∀ {ls:List Nat},Q0l B ls=true->l∈ls->Q3 B.e l=none
 | j::ls,h,hm=>by
  unfold Q0l at h;simp only [Bool.and_eq_true,Option.isNone_iff_eq_none] at h;rcases List.mem_cons.1 hm with rfl|hm
  . exact h.1.1.1
  . exact Qfx h.2 hm
 | [],_,h=>by cases h
theorem Q5z {α:Type}:∀ (l m:List (Nat × α)) (d:Nat),Q3 (l++m) d=(match Q3 l d with|some x=>some x|none=>Q3 m d)
 | [],m,d=>rfl
 | (k,x)::l,m,d=>by
  rw [List.cons_append,Qb,Qb,Q5z l m d];split<;>rfl
theorem Zi.called (H:Zi w0 S0 N B S a w ρ ro) {locs:List Nat} {es:List (Nat×En)} {n:Nat} (hlen:locs.length=n) (hnd:locs.Nodup) (hsome:∀ l∈locs,∃ r,ρ l=some r) (hfree:Q0l B locs=true) (hall:Qeg (Zg es) n=true) (hnew:Q6u B (Ga locs S.n) n (Zg es)=true) {fx:Bool} (hfx:S0.fx=true->fx=true) (hL:Qmt w w' (ρL ρ locs) ρ1 ro ra1 es fx) :
 ∃ ρ',Zi w0 S0 N B ⟨(G0 fx locs S).t,Jg (Ga locs S.n) es++(G0 fx locs S).e,S.n+(Q2k n (Zg es) - n)⟩ a w' ρ' (fun b=>ro b\/ra1 b)/\∀ k r,ρ1 k=some r -> ρ' (Ga locs S.n k)=some r:=by
 obtain⟨H1,hclr,hcl⟩:=Z02 (fx:=fx) (S:=S) hfree H;have hlt:∀ {l r},ρ l=some r->l<S.n:=fun h=>by
  rcases Nat.lt_or_ge _ S.n with h1|h1
  . exact h1
  . have:=H.fresh _ h1; rw [h] at this; cases this
 have hloc:∀ {k l},locs[k]? = some l->l<S.n:=fun h=>by
  obtain⟨r,hr⟩:=hsome _ (List.mem_of_getElem? h);exact hlt hr
 classical
 obtain⟨ρ',hρ'⟩:∃ ρ':Nat->Option Rl,ρ'=fun l=>if h:∃ k:Nat,locs[k]? = some l then ρ1 h.choose else if S.n<=l then ρ1 (n+(l - S.n)) else ρ l:=⟨_,rfl⟩
 have F1:∀ {k l},locs[k]? = some l -> ρ' l = ρ1 k:=by
  intro k l h;have hex:∃ k:Nat,locs[k]? = some l:=⟨k,h⟩
  rw [hρ'];simp only [dif_pos hex];have h2:=hex.choose_spec;have hk:=(List.getElem?_eq_some_iff.1 h).1;have:hex.choose=k:=(List.getElem?_inj (by exact (List.getElem?_eq_some_iff.1 h2).1) hnd).1 (h2.trans h.symm);rw [this]
 have F2:∀ {l},S.n<=l -> ρ' l = ρ1 (n+(l - S.n)):=by
  intro l h;rw [hρ'];have hno:¬ ∃ k:Nat,locs[k]? = some l:=by
   rintro⟨k,hk⟩
   have:=hloc hk;omega
  simp only [dif_neg hno,if_pos h]
 have F3:∀ {l:Nat},l<S.n->(∀ k:Nat,locs[k]? ≠ some l) -> ρ' l = ρ l:=by
  intro l h h2;rw [hρ'];have hno:¬ ∃ k:Nat,locs[k]? = some l:=by
   rintro⟨k,hk⟩
   exact h2 k hk
  simp only [dif_neg hno,if_neg (show ¬ S.n<=l by omega)]
 have G1:∀ {k l:Nat},locs[k]? = some l->Ga locs S.n k=l:=fun h=>by unfold Ga; rw [h]
 have G2:∀ {k:Nat},n<=k->Ga locs S.n k=S.n+(k - n):=fun h=>by unfold Ga; rw [List.getElem?_eq_none (by omega),hlen]
 have F4:∀ k,ρ' (Ga locs S.n k) = ρ1 k:=by
  intro k;rcases Nat.lt_or_ge k n with h|h
  . have hk:locs[k]? = some (locs[k]'(by omega)):=List.getElem?_eq_getElem _;rw [G1 hk];exact F1 hk
  . rw [G2 h,F2 (by omega)];congr 1;omega
 have back:∀ {l:Nat} {r:Rl},ρ' l=some r->(∃ k:Nat,l=Ga locs S.n k /\ ρ1 k=some r)\/(ρ l=some r/\l<S.n/\∀ k:Nat,locs[k]? ≠ some l):=by
  intro l r h;by_cases hex:∃ k:Nat,locs[k]? = some l
  . obtain⟨k,hk⟩:=hex;exact .inl ⟨k,(G1 hk).symm,(F1 hk).symm.trans h⟩
  . rcases Nat.lt_or_ge l S.n with h1|h1
    . have h2:∀ k:Nat,locs[k]? ≠ some l:=fun k hk=>hex ⟨k,hk⟩;exact .inr ⟨(F3 h1 h2).symm.trans h,h1,h2⟩
    . refine .inl ⟨n+(l - S.n),?_,(F2 h1).symm.trans h⟩;rw [G2 (by omega)];omega
 have hgivenB:∀ {k:Nat} {r:Rl} {b:Nat},ρL ρ locs k=some r->r.blk=some b->∃ l:Nat,locs[k]? = some l /\ ρ l=some r:=fun h _ => Q1x h;have hkeepH:∀ {l:Nat} {r:Rl} {b:Nat},ρ l=some r->r.blk=some b->(∀ k:Nat,locs[k]? ≠ some l)->w'.heap[b]? = w.heap[b]? := by
  intro l r b h1 h2 h3;refine hL.from_.block b (H.own l r b h1 h2).1 fun k r' hk hb => ?_;obtain⟨l',hl',hr'⟩ := Q1x hk;exact H.apart l l' r r' b (fun e=>h3 k (e▸hl')) h1 hr' h2 hb
 have hro:∀ b,ro b->b<w.heap.size->w'.heap[b]? = w.heap[b]? := by
  intro b hb hlt;refine hL.from_.block b hlt fun k r' hk hb' => ?_;obtain⟨l',hl',hr'⟩ := Q1x hk;exact (H.own l' r' b hr' hb').2.1 hb
 have hsol:∀ {l:Nat} {r:Rl},ρ l=some r->((¬ ∃ k:Nat,locs[k]? = some l)\/(r.solid||fx)=true) -> ρ' l=some r:=by
  intro l r h1 h2;by_cases hex:∃ k:Nat,locs[k]? = some l
  . obtain⟨k,hk⟩:=hex;rw [F1 hk];exact hL.solid k r (by rw [Qax hk]; exact h1) (h2.resolve_left fun h=>h ⟨k,hk⟩)
  . rw [F3 (hlt h1) fun k hk=>hex ⟨k,hk⟩];exact h1
 have hav:∀ {x v},AVR w ρ w0.heap.size ro x v->(fx=false->∀ l∈locs,AV.has l x=false)->AVR w' ρ' w0.heap.size (fun b=>ro b\/ra1 b) x v:=fun h hx=>(h.away (q:=fun l=>fx=false/\∃ k:Nat,locs[k]? = some l) (fun l hq=>by obtain⟨hf,k,hk⟩:=hq; exact hx hf l (List.mem_of_getElem? hk)) fun l r h1 h2=>hsol h1 (by
  cases hf:fx with
  | true=>exact .inr (by simp)
  | false=>exact h2.imp (fun h q=>h ⟨hf,q⟩) fun h=>by simp [h])).mono hro (Ext.refl _) (Nat.le_refl _) fun b hb => .inl hb
 have hbase:w0.heap.size<=w.heap.size:=H.from_.size;have hnotin:∀ {l:Nat} {e:En},Q3 (Jg (Ga locs S.n) es) l=none->Qh B (G0 fx locs S) l=some e->∀ k:Nat,locs[k]? ≠ some l:=by
  intro l e h1 _ k hk;have hkn:k<n:=by have:=(List.getElem?_eq_some_iff.1 hk).1; omega
  obtain⟨e',he'⟩:=Qoj (g:=Ga locs S.n) (Qwa hall hkn);rw [G1 hk,h1] at he';cases he'
 refine⟨ρ',⟨?_,H.size,H.defers,fun b hb => ?_,fun d x hx => ?_,fun l e he => ?_,fun l l' r r' b hne h1 h2 h3 h4 => ?_,fun l hl => ?_,fun l r b h1 h2 => ?_,fun b hb hlt0 => ?_,fun l r h1 h2=>hsol (H.solid l r h1 h2) (.inr (by
  cases hs:r.solid with
  | true=>rfl
  | false=>rw [hs] at h2; exact hfx h2)),fun d x hx=>H1.disT d x hx,fun l e he => ?_⟩,fun k r h=>by rw [F4]; exact h⟩
 . refine⟨hL.from_.os.trans H.from_.os,hL.from_.tape.trans H.from_.tape,hL.from_.output.trans H.from_.output,Nat.le_trans hbase hL.from_.size,fun k hk hnp => ?_⟩;refine (hL.from_.block k (by omega) fun i r hi hr => ?_).trans (H.from_.block k hk hnp);obtain⟨l,hl,hlr⟩ := Q1x hi;rcases (H.own l r k hlr hr).2.2 with h|⟨r0,h,h'⟩
   . omega
   . exact hnp l r0 h h'
 . rcases hb with hb|hb
   . exact Nat.lt_of_lt_of_le (H.roB b hb) hL.from_.size
   . exact (hL.rd b hb).1
 . obtain⟨u,h1,h2⟩:=H1.tm d x hx;exact⟨u,h1,hav h2 fun hf l hl=>(hcl hf l hl).t d x hx⟩
 . unfold Qh at he;dsimp only at he;have hap:=Q5z (Jg (Ga locs S.n) es) (G0 fx locs S).e l
   cases hr:Q3 (Jg (Ga locs S.n) es) l with
   | some e1 =>
    rw [hap,hr] at he;simp only [Option.some.injEq] at he;subst he;obtain⟨k,e0,rfl,rfl,h3⟩:=Qai hr;exact ((hL.en k e0 h3).more hbase fun b hb => .inr hb).ren fun l r h=>by rw [F4]; exact h
   | none =>
    rw [hap,hr] at he;have he':Qh B (G0 fx locs S) l=some e:=he;have hni:=hnotin hr he';have h1:=H1.en l e he';obtain⟨r,hr1⟩:=h1.none;have hl' : ρ' l = ρ l:=F3 (hlt hr1) hni
    cases e with
    | box T cs =>
     obtain⟨b,us,k1,k4,k5⟩:=h1;exact⟨b,us,hl'.trans k1,(hkeepH k1 rfl hni).trans k4,k5.1,fun j x v hx hv=>hav (k5.2 j x v hx hv) fun hf q hq=>Yv ((hcl hf q hq).b l T cs he') hx⟩
    | row fr t T m =>
     obtain⟨A,c,css,k1,k2,k3,k5⟩:=h1;exact⟨A,c,css,hl'.trans k1,k2.keep fun ad ha=>hkeepH k1 (by simp [Rl.blk,ha]) hni,k3,fun k cs j x v q1 q2 q3=>hav (k5 k cs j x v q1 q2 q3) fun _ q _=>Yv (Vy _ _ _ _) q2⟩
    | map fr ag c t T m =>
     obtain⟨b,es',clock,k1,k2,k3,k4⟩:=h1;exact⟨b,es',clock,hl'.trans k1,(hkeepH k1 rfl hni).trans k2,k3,k4.map_ fun x v hx=>hav hx fun _ q _=>Qi6 _ _ _ _ _⟩
    | iter ml c seen left =>
     obtain⟨b,b2,es',clock,since,stamps,c0,k1,k2,k3,k4,k5⟩:=h1;have hml:∀ k:Nat,locs[k]? ≠ some ml:=fun k hk=>by
      have:=hclr ml (List.mem_of_getElem? hk) l _ he';simp [Jn] at this
     exact⟨b,b2,es',clock,since,stamps,c0,hl'.trans k1,(F3 (hlt k2) hml).trans k2,(hkeepH k2 rfl hml).trans k3,(hkeepH k1 rfl hni).trans k4,k5⟩
    | stamp ml c key =>
     obtain⟨b,es',clock,s,e,k1,k2,k3,k4⟩:=h1;have hml:∀ k:Nat,locs[k]? ≠ some ml:=fun k hk=>by
      have:=hclr ml (List.mem_of_getElem? hk) l _ he';simp [Jn] at this
     exact⟨b,es',clock,s,e,hl'.trans k1,(F3 (hlt k2) hml).trans k2,(hkeepH k2 rfl hml).trans k3,k4⟩
    | dead=>exact⟨r,hl'.trans hr1⟩
 . have hmix:∀ {l l':Nat} {r r':Rl} {b k:Nat},l=Ga locs S.n k -> ρ1 k=some r -> ρ l'=some r'->(∀ k:Nat,locs[k]? ≠ some l')->r.blk=some b->r'.blk≠some b:=by
    intro l l' r r' b k _ q2 q3 q4 q5 q6;have q7:=(H.own l' r' b q3 q6).1;rcases (hL.own k r b q2 q5).2.2 with q8|⟨r0,q8,q9⟩
    . omega
    . obtain⟨l2,q10,q11⟩ := Q1x q8;exact H.apart l2 l' r0 r' b (fun e=>q4 k (e▸q10)) q11 q3 q9 q6
   rcases back h1 with ⟨k,q1,q2⟩|⟨q1,q2,q3⟩
   . rcases back h2 with ⟨k',q3,q4⟩|⟨q3,q4,q5⟩
     . exact hL.apart k k' r r' b (fun e=>hne (by rw [q1,q3,e])) q2 q4 h3 h4
     . exact hmix q1 q2 q3 q5 h3 h4
   . rcases back h2 with ⟨k',q4,q5⟩|⟨q4,q5,q6⟩
     . exact hmix q4 q5 q1 q3 h4 h3
     . exact H.apart l l' r r' b hne q1 q4 h3 h4
 . dsimp only at hl;rw [F2 (by omega)];refine hL.fresh _ ?_
   cases hm:Qw (n+(l - S.n)) (Zg es) with
   | false=>rfl
   | true =>
    have:=Qmi (n:=n) hm;omega
 . rcases back h1 with ⟨k,q1,q2⟩|⟨q1,q2,q3⟩
   . obtain⟨q3,q4,q5⟩:=hL.own k r b q2 h2;rcases q5 with q5|⟨r0,q5,q6⟩
     . refine⟨q3,fun hb => ?_,.inl (by omega)⟩;rcases hb with hb|hb
       . have:=H.roB b hb; omega
       . exact q4 hb
     . obtain⟨l2,q7,q8⟩ := Q1x q5;have q9:=H.own l2 r0 b q8 q6;rw [G1 q7] at q1;subst q1;exact⟨q3,fun hb=>hb.elim q9.2.1 q4,q9.2.2⟩
   . have q4:=H.own l r b q1 h2;exact⟨Nat.lt_of_lt_of_le q4.1 hL.from_.size,fun hb=>hb.elim q4.2.1 fun hb=>q4.2.1 ((hL.rd b hb).2 q4.1),q4.2.2⟩
 . rcases hb with hb|hb
   . exact H.roS b hb hlt0
   . exact H.roS b ((hL.rd b hb).2 (by omega)) hlt0
 . rw [Q5z]
   cases hr:Q3 (Jg (Ga locs S.n) es) l with
   | none=>exact H1.disE l e he
   | some e1 =>
    exfalso;obtain⟨k,e0,hk,_,h3⟩:=Qai hr;have hm:=Qnu h3;rcases Nat.lt_or_ge k n with h|h
    . have hk2:locs[k]? = some (locs[k]'(by omega)):=List.getElem?_eq_getElem _;rw [G1 hk2] at hk;have:=Qfx hfree (List.mem_of_getElem? hk2);rw [hk,he] at this;cases this
    . have:=Qfm hnew hm h;rw [hk,he] at this;cases this
end
section
variable {P:Program} {w w' w0:World} {ρ ρ':Nat->Option Rl} {base:Nat} {ro ro':Nat->Prop} {S0:Pm} {N:Nat} {B:Bs} {S:Sx} {a:Act}
theorem Qwn {z:Value} {size:Nat} (hz:z.cells.size=size) (h0:0<size):∀ n,(madeCells z.cells (n*size)).toList=(List.replicate n z.cells.toList).flatten:=by
 intro n;apply List.ext_getElem?;intro j;have hall:∀ cs∈List.replicate n z.cells.toList,cs.length=size:=by
  intro cs hcs;rw [(List.mem_replicate.1 hcs).2];simpa using hz
 by_cases hj:j<n*size
 . have hdm:=Nat.div_add_mod j size;have hm:=Nat.mod_lt j h0;have hk:j / size<n:=(Nat.div_lt_iff_lt_mul h0).2 hj;have e:j=j / size*size+j % size:=by rw [Nat.mul_comm]; exact hdm.symm
   have h1:=Qac (List.replicate n z.cells.toList) hall (j / size) (j % size) hm;rw [<- e] at h1;rw [h1];rw [List.getElem?_replicate,if_pos hk,Option.bind_some];simp only [madeCells,hz,Array.toList_map,Array.toList_range,List.getElem?_map,List.getElem?_range hj,Option.map_some];rw [Array.getElem!_eq_getD];have hm2:j % size<z.cells.size:=by omega
   simp [hm2]
 . have h1:(madeCells z.cells (n*size)).toList.length=n*size:=by simp [size_madeCells]
   have h2:(List.replicate n z.cells.toList).flatten.length=n*size:=by rw [J0 _ hall,List.length_replicate]
   rw [List.getElem?_eq_none (by omega),List.getElem?_eq_none (by omega)]
theorem Qsv (H:Sim w0 S0 N B S a w) {T e d n c:Nat} {t:Tc} {f:Bool} {x:Unit->List t.el} {S':Sx} {l cc:Operand} {ty:TypeId} {pos:String} {aft:Array Edge} {gd:Option (Nat×Bool)} {css:List (List Value)} (hB:Q3 B.e S.n=none) (hp:Qy B ⟨S.t,(S.n,.row f t e x)::S.e,S.n+1⟩ N d (.own S.n)=some S') (hn:(x ()).length=n)
 (hrun:∃ w',(Instr.makeSlice T (a.eval l) (a.eval cc)).run P w = .ok (.slice (some ⟨w.heap.size,0,none⟩) n c) w'/\w'.ownsRow w.heap.size e t.size (.slice (some ⟨w.heap.size,0,none⟩) n c) n css.flatten/\w.grownBy w' none) (hlen:css.length=n) (hcl:∀ cs∈css,cs.length=t.size)
 (hcell:∀ (k:Nat) (cs:List Value) (w':World) (ρ':Nat->Option Rl) (ro':Nat->Prop),css[k]? = some cs->Qj w' ρ' w0.heap.size ro' (Q8 f t fun _=>(x ()).getD k t.dflt) cs) :
 OpM P ⟨some d,.makeSlice T l cc,ty,pos,aft,gd⟩ a w (Sim w0 S0 N B S'):=by
 obtain⟨ρ,ro,H⟩:=H;obtain⟨w',hrun,hrow,hg⟩:=hrun;have hnone:=H.fresh S.n (Nat.le_refl _);have hkeep:∀ q,q<w.heap.size->w'.heap[q]? = w.heap[q]? := fun q hq=>hg.block q hq (by simp);have hown:Z1 w' w.heap.size e t.size (some ⟨w.heap.size,0,none⟩) c css:=⟨by rw [hlen]; exact hrow,hcl⟩
 have hlt:w.heap.size<w'.heap.size:=(hown.lt rfl).2;have hown2:Z1 w' (rb f w0.heap.size) e t.size (some ⟨w.heap.size,0,none⟩) c css:=hown.base_le (Nat.le_trans (Qph _ _) H.from_.size);have H2:=H.upd (w':=w') (loc:=S.n) (n:=S.n+1) (r := .row (some ⟨w.heap.size,0,none⟩) n c) (e := .row f t e x) (H.from_.grown hg fun k hk=>by cases hk) hg.size (fun q hq _=>hkeep q hq) (fun q hq2=>by
  have hq3:some w.heap.size=some q:=hq2;injection hq3 with hq3;subst hq3;exact .inr ⟨Nat.le_refl _,hlt⟩) hB (Nat.le_succ _) (Nat.lt_succ_self _) (.inl (Gs hnone)) (.inl fun b hb=>by rw [hnone] at hb; cases hb) (by
  refine⟨some ⟨w.heap.size,0,none⟩,c,css,by rw [hn]; exact Zr _ _ _,hown2,by rw [hn]; exact hlen,fun k cs j y u r1 r2 r3=>(hcell k cs _ _ _ r1).2 j y u r2 r3⟩)
 refine .inl ⟨_,_,?_,_,_,H2.put hp (.own _ _ _ _ (Zr _ _ _))⟩;unfold execOp;simp only [Sem.run_bind,hrun,Result.andThen_ok,Sem.run_pure]
theorem Z3f {C:Cx} (hty:Zw P C.ty) (H:Sim w0 S0 N B S a w) {T e sz b d:Nat} {t:Tc} {kk:IntKind} {k:Unit->Int} {S':Sx} {l cc:Operand} {k0:IntKind} {ty:TypeId} {pos:String} {aft:Array Edge} {gd:Option (Nat×Bool)} (hT:Km C.ty T=some (.slice e sz b)) (hl:Z0 B S l = .lit k0 0) (hc:(Z0 B S cc).asInt=some (kk,k)) (hsz:t.size=sz) (hB:Q3 B.e S.n=none) (hp:Qy B ⟨S.t,(S.n,.row true t e fun _ => [])::S.e,S.n+1⟩ N d (.own S.n)=some S') (hv:0<=k ()/\k ()*b<=281474976710656) :
 OpM P ⟨some d,.makeSlice T l cc,ty,pos,aft,gd⟩ a w (Sim w0 S0 N B S'):=by
 obtain⟨ρ,ro,H'⟩:=id H;obtain⟨i,_,hi,htb⟩:=Y7 hty hT;obtain⟨⟨hu,j,z,hj,hz,hjs,hjb,hzs,hs0⟩,hb0⟩:=Qkv htb hi;have e1:a.eval l = .int k0 0:=by have:=H'.get l; rw [hl] at this; exact this.lit_
 have e2:a.eval cc = .int kk (k ()):=Yn hc (H'.get cc);obtain⟨c,hck⟩:=Int.eq_ofNat_of_zero_le hv.1;have hcb:c*b<=281474976710656:=by
  have h3:=hv.2;rw [hck] at h3;have h4:((c*b:Nat):Int)<=281474976710656:=by rw [Int.natCast_mul]; exact h3
  omega
 have hcm:c<=maxLen:=by
  have:c*1<=c*b:=Nat.mul_le_mul_left _ hb0;unfold maxLen;omega
 subst hsz;refine Qsv (css := []) H hB hp rfl ?_ rfl (by simp) (fun k cs w' ρ' ro' h=>by simp at h) (c:=c);rw [e1,e2,hck];exact run_make_own w w.heap.size T e j z t.size hu hj hz hjs k0 kk c (by rw [hjb,Nat.mul_comm]; exact hcb) hcm (Nat.le_refl _)
theorem Z3t {C:Cx} (hty:Zw P C.ty) (H:Sim w0 S0 N B S a w) {T e sz b d:Nat} {t:Tc} {k0 kk:IntKind} {n k:Unit->Int} {f:Bool} {x:Unit->t.el} {ie:K5} {S':Sx} {l cc:Operand} {ty:TypeId} {pos:String} {aft:Array Edge} {gd:Option (Nat×Bool)} (hT:Km C.ty T=some (.slice e sz b)) (hl:Z0 B S l = .int k0 n) (hc:(Z0 B S cc).asInt=some (kk,k)) (hie:Q3 C.ty e=some ie) (hel:Qam t (.agg ie.z)=some (f,x)) (hz0:ie.z.isEmpty=false) (hsz:t.size=sz) (hB:Q3 B.e S.n=none) (hp:Qy B ⟨S.t,(S.n,.row f t e fun _=>List.replicate (n ()).toNat (x ()))::S.e,S.n+1⟩ N d (.own S.n)=some S') (hv:0<=n ()/\n ()=k ()/\n ()*b<=281474976710656) :
 OpM P ⟨some d,.makeSlice T l cc,ty,pos,aft,gd⟩ a w (Sim w0 S0 N B S'):=by
 obtain⟨ρ,ro,H'⟩:=id H;obtain⟨i,_,hi,htb⟩:=Y7 hty hT;obtain⟨⟨hu,j,z,hj,hz,hjs,hjb,hzs,hs0⟩,hb0⟩:=Qkv htb hi;have e1:a.eval l = .int k0 (n ()):=by have:=H'.get l; rw [hl] at this; exact this.int_
 have e2:a.eval cc = .int kk (k ()):=Yn hc (H'.get cc);obtain⟨v1,v2,v3⟩:=hv;rw [<- v2] at e2;obtain⟨c,hck⟩:=Int.eq_ofNat_of_zero_le v1;have hcb:c*b<=281474976710656:=by
  have h3:=v3;rw [hck] at h3;have h4:((c*b:Nat):Int)<=281474976710656:=by rw [Int.natCast_mul]; exact h3
  omega
 have hcm:c<=maxLen:=by
  have:c*1<=c*b:=Nat.mul_le_mul_left _ hb0;unfold maxLen;omega
 subst hsz;have hc0:(n ()).toNat=c:=by rw [hck]; rfl
 have hzE:∀ (w':World) (ρ':Nat->Option Rl) (ro':Nat->Prop),Qj w' ρ' w0.heap.size ro' (Q8 f t x) z.cells.toList:=by
  intro w' ρ' ro';obtain⟨j',z',hj',hz',hE⟩:=Qi8 (w:=w') (ρ := ρ') (base:=w0.heap.size) (ro:=ro') (hty e ie hie) hz0;rw [hj] at hj';injection hj' with hj';subst hj';rw [hz] at hz';injection hz' with hz';subst hz';obtain⟨vs,q1,q2,q3⟩:=Qf6 hel (AVR.agg ie.z z.cells.toList hE.1 hE.2);have:vs=z.cells.toList:=by
   have q4:(Value.agg z.cells.toList.toArray).cells=z.cells.toList.toArray:=rfl;rw [q4] at q1;exact (congrArg Array.toList q1).symm
  rw [this] at q3;exact q3
 have hzl:z.cells.toList.length=t.size:=by simpa using hzs
 refine Qsv (css:=List.replicate c z.cells.toList) H hB hp (by rw [List.length_replicate]) ?_ (by rw [List.length_replicate,hc0]) (fun cs h=>by rw [(List.mem_replicate.1 h).2]; exact hzl) (fun q cs w' ρ' ro' h => ?_) (c:=c)
 . rw [e1,e2,hck];obtain⟨w',r1,r2,r3⟩:=run_make_full (P:=P) w w.heap.size T e j z t.size hu hj hz hjs k0 kk c (by rw [hjb,Nat.mul_comm]; exact hcb) hcm (Nat.le_refl _);refine⟨w',?_,?_,r3⟩
   . exact r1
   . rw [Qwn hzs hs0] at r2;exact r2
 . rw [List.getElem?_replicate] at h;split at h
   . rename_i hq;cases h;have e3:(List.replicate (n ()).toNat (x ())).getD q t.dflt=x ():=by
      rw [List.getD_eq_getElem?_getD,List.getElem?_replicate,if_pos (by omega)];rfl
     have e4:(fun (_:Unit)=>(List.replicate (n ()).toNat (x ())).getD q t.dflt)=x:=by funext u; exact e3
     rw [e4];exact hzE w' ρ' ro'
   . cases h
end
end Go.Proofs.YtffeegebohigdaaGreat
