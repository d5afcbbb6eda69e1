/-
  The abstract run: calls of functions that change what lies at places that are given are sound.
-/
import Derived.Test.YtamjbkaclhgffaaGreatSh9
set_option linter.all false
namespace Go.Proofs.YtamjbkaclhgffaaGreat
open Go.RowKit
variable{x:AV}{aft:Array Edge}{f fr fr' fx:Bool}{C:Cx}{e:En}{k0 kk:IntKind}{aT m:List Nat}{T b d loc n sz:Nat}{g:Nat->Nat}{cc:Operand}{gd:Option (Nat×Bool)}{pos:String}{S':Sx}{t:Tc}{ty:TypeId}{v z:Value}{s1 s2 s3 st:wj}
section
variable{P:Program}{w w' w0:World}{ρ ρ':Nat->Option Rl}{base:Nat}{ro ro':Nat->Prop}{S0:Pm}{Φ : Pm->Prop}{N:Nat}{B:Bs}{S:Sx}{a:Act}{ge:Nat->Option En}{v:Value}
def ρL(ρ:Nat->Option Rl)(L:List Nat):Nat->Option Rl:=fun k=>match L[k]? with
 | some l => ρ l
 | none=>none
theorem xX{L:List Nat}{k l:Nat}(h:L[k]? = some l) : ρL ρ L k = ρ l:=by unfold ρL; rw [h]
theorem wz{L:List Nat}{k:Nat}{r:Rl}(h : ρL ρ L k=some r):∃ l,L[k]? = some l /\ ρ l=some r:=by
 unfold ρL at h;split at h
 . rename_i l hl; exact⟨l,hl,h⟩
 . cases h
theorem aqk(ag fr:Bool)(t:Tc)(x:Unit->t.el):AV.plain false (fh ag fr t x)=true:=by
 unfold fh;have h:=Gz fr t x
 cases ag with
 | true=>exact h
 | false =>
  simp only [fk,dK]
  cases hc:bf fr t x with
  | nil=>rfl
  | cons c l =>
   rw [hc] at h
   cases l with
   | nil=>simpa [AV.eE] using h
   | cons c2 l=>rfl
theorem aj.abN{ρ2:Nat->Option Rl}(h:aj w ρ base ro x v)(hx:AV.plain false x=true):aj w ρ2 0 ro x v :=
 (h.plain (ρ' := ρ2) hx fun _ _ h=>h).mono (fun _ _ _=>rfl) (Ext.refl _) (bw _) fun _ h=>h
structure xY (w:World) (ρ:Nat->Option Rl) (ro:Nat->Prop) (st kg:wj):Prop where
 more:∃ m,kg.aT=st.aT++m
 nodup:st.aT.Nodup->kg.aT.Nodup
 some_:∀ l∈kg.aT,l∈st.aT\/∃ r,ρ l=some r
 en:∀ L,(∃ m,L=kg.aT++m)->∀ k e,al kg.es k=some e->al st.es k=some e\/dz w (ρL ρ L) 0 ro k e
theorem xY.refl(st:wj):xY w ρ ro st st:=⟨⟨[],by simp⟩,id,fun _ h => .inl h,fun _ _ _ _ h => .inl h⟩
theorem xY.trans(h:xY w ρ ro s1 s2)(k:xY w ρ ro s2 s3):xY w ρ ro s1 s3:=by
 obtain⟨m,hm⟩:=h.more;obtain⟨n,hn⟩:=k.more;refine⟨⟨m++n,by rw [hn,hm,fl]⟩,fun q=>k.nodup (h.nodup q),fun l hl => ?_,fun L hL i e he => ?_⟩
 . rcases k.some_ l hl with h1|h1
   . exact h.some_ l h1
   . exact .inr h1
 . rcases k.en L hL i e he with h1|h1
   . obtain⟨q,hq⟩:=hL;exact h.en L ⟨n++q,by rw [hq,hn,fl]⟩ i e h1
   . exact .inr h1
theorem My{l:Nat}:∀ {ls:List Nat},bV l ls=false->l∉ls
 | [],_=>by simp
 | k::ls,h=>by
  simp only [bV,lU,Kk,ne_eq] at h;simp only [gD,yR];exact⟨fun e=>h.1 e.symm,My h.2⟩
theorem Sv{l:Nat}{ls:List Nat}(h:ls.Nodup)(hl:l∉ls):(ls ++ [l]).Nodup:=by
 rw [List.nodup_append];exact⟨h,by simp,fun a ha b hb=>by simp only [oq] at hb; subst hb; exact fun e=>hl (e▸ha)⟩
theorem zx{ls:List Nat}{l:Nat}:(ls ++ [l]++m)[ls.length]? = some l:=by simp
theorem Sw{l:Unit->List t.el}(he:dz w ρ base ro loc (.row fr t T l))(hm:bV loc st.aT=false):xY w ρ ro st ⟨st.aT ++ [loc],(st.aT.length,.row false t T l)::st.es⟩:=by
 obtain⟨A,c,css,hA,bS,hlen,dQ⟩:=he;refine⟨⟨[loc],rfl⟩,fun q=>Sv q (My hm),fun l' cQ => ?_,fun L hL k e oJ => ?_⟩
 . rcases nJ.1 cQ with h1|h1
   . exact .inl h1
   . simp only [oq] at h1; subst h1; exact .inr ⟨_,hA⟩
 . rw [cO] at oJ;split at oJ
   . rename_i e0;subst e0;cases oJ;obtain⟨m,rfl⟩:=hL;refine .inr ⟨A,c,css,by rw [xX zx]; exact hA,bS.Dr (bw _),hlen,fun k cs j x u k1 k2 k3 => ?_⟩;have bc:=bS.2 cs (gK k1);have h6:=(BM (g:=false) (wa bc fun j y v r1 r2=>dQ k cs j y v k1 r1 r2) (fun h=>by cases h)).2 j x u k2 k3;exact h6.abN (xD (Gz _ _ _) k2)
   . exact .inl oJ
mutual
theorem aql(cR:∀ loc e,ge loc=some e->dz w ρ base ro loc e):∀ (s:Sg) (x y:AV) (v:Value) (st kg:wj),RE ge s x st=some (y,kg)->aj w ρ base ro x v->xY w ρ ro st kg/\∀ L,(∃ m,L=kg.aT++m)->aj w (ρL ρ L) 0 ro y v:=by
 intro s x y v st kg h hx;unfold RE at h;split at h
 . cases h;exact⟨.refl _,fun _ _ => .un _⟩
 . rename_i t loc;split at h
   . rename_i fr t' T l he;split at h
     . rename_i hc;obtain⟨rfl,hm⟩:=hc;cases h;obtain⟨A',n,c',bW,hv⟩:=hx.uI;refine⟨Sw (cR _ _ he) hm,fun L hL => ?_⟩;obtain⟨m,rfl⟩:=hL;rw [hv];exact .own _ _ _ _ (by rw [xX zx]; exact bW)
     . cases h
   . cases h
 . rename_i t loc;split at h
   . rename_i fr t' T l he;split at h
     . rename_i hc;obtain⟨rfl,hm⟩:=hc;cases h;obtain⟨A,c,css,hA,bS,hlen,dQ⟩:=cR _ _ he;obtain⟨A',n,c',bW,hv⟩:=hx.uI;rw [hA] at bW;injection bW with bW;injection bW with e1 e2 e3;subst e1; subst e2; subst e3;refine⟨Sw (cR _ _ he) hm,fun L hL => ?_⟩;obtain⟨m,rfl⟩:=hL;have h1:aj w (ρL ρ (st.aT ++ [loc]++m)) 0 ro (.cW t st.aT.length (fun _=>0) fun _=>(l ()).length) (sliced A 0 (l ()).length c t.size) := .cW _ _ _ _ A _ c (by rw [xX zx]; exact hA) ⟨bw _,aN _⟩;have h2:sliced A 0 (l ()).length c t.size = .slice A (l ()).length c:=by
        unfold sliced
        cases A with
        | none=>simp
        | some q=>simp [Addr.add]
       rw [hv,<- h2];exact h1
     . cases h
   . cases h
 . rename_i t t2 loc a b;split at h
   . rename_i fr t' T l he;split at h
     . rename_i hc;obtain⟨⟨rfl,rfl⟩,hm⟩:=hc;cases h;obtain⟨A',n,c',bW,bJ,wg,hv⟩:=hx.y9;refine⟨Sw (cR _ _ he) hm,fun L hL => ?_⟩;obtain⟨m,rfl⟩:=hL;rw [hv];exact .cW _ _ _ _ _ _ _ (by rw [xX zx]; exact bW) ⟨bJ,wg⟩
     . cases h
   . cases h
 . rename_i c t loc;split at h
   . rename_i fr ag c' t' T m he;split at h
     . rename_i hc;obtain⟨rfl,rfl,hm⟩:=hc;cases h;obtain⟨b,es,clock,hb,hh,hst,hM⟩:=cR _ _ he;obtain⟨b',bo,hv⟩:=hx.Br;refine⟨⟨⟨[loc],rfl⟩,fun q=>Sv q (My hm),fun l' cQ => ?_,fun L hL k e oJ => ?_⟩,fun L hL => ?_⟩
       . rcases nJ.1 cQ with h1|h1
         . exact .inl h1
         . simp only [oq] at h1; subst h1; exact .inr ⟨_,hb⟩
       . rw [cO] at oJ;split at oJ
         . rename_i e0;subst e0;cases oJ;obtain⟨m',rfl⟩:=hL;exact .inr ⟨b,es,clock,by rw [xX zx]; exact hb,hh,hst,(hM.less (fr':=false) (fun h=>by cases h)).tv fun x v hx=>hx.abN (aqk _ _ _ _)⟩
         . exact .inl oJ
       . obtain⟨m',rfl⟩:=hL;rw [hv];exact .mp _ _ (by rw [xX zx]; exact bo)
     . cases h
   . cases h
 . rename_i l loc;split at h
   . rename_i T cells he;split at h
     . cases h
     . rename_i hm;split at h
       . rename_i ys RF hc;cases h;obtain⟨b,cs,hb,hh,hE⟩:=cR _ _ he;obtain⟨b',bo,hv⟩:=hx.y8;obtain⟨h1,h2⟩:=Sy cR l cells ys cs _ _ hc hE;have pq:bV loc st.aT=false:=by simpa using hm
         obtain⟨m1,BR⟩:=h1.more;dsimp only at BR;refine⟨⟨⟨[loc]++m1,by rw [BR,List.append_assoc]⟩,fun q=>h1.nodup (Sv q (My pq)),fun l' cQ => ?_,fun L hL k e oJ => ?_⟩,fun L hL => ?_⟩
         . rcases h1.some_ l' cQ with h3|h3
           . rcases nJ.1 h3 with h4|h4
             . exact .inl h4
             . simp only [oq] at h4; subst h4; exact .inr ⟨_,hb⟩
           . exact .inr h3
         . rw [cO] at oJ;split at oJ
           . rename_i e0;subst e0;cases oJ;have h3:=h2 L hL;obtain⟨m,rfl⟩:=hL;refine .inr ⟨b,cs,?_,hh,h3⟩;rw [xX (l:=loc) (by dsimp only; rw [BR,List.append_assoc]; exact zx)];exact hb
           . exact h1.en L hL k e oJ
         . obtain⟨m,rfl⟩:=hL;rw [hv];exact .ptr _ _ _ (by rw [xX (l:=loc) (by dsimp only; rw [BR,List.append_assoc]; exact zx)]; exact bo)
       . cases h
   . cases h
 . split at h
   . rename_i hp
     cases hc:coerce ge s x with
     | none=>rw [hc] at h; cases h
     | some y' =>
      rw [hc] at h;cases h;refine⟨.refl _,fun L _ => ?_⟩;exact (aaN cR (fun _ h=>h) s x _ v hc hx (.inl hp)).mono (fun _ _ _=>rfl) (fun l r h=>by cases h) (aN _) fun _ h=>h
   . cases h
theorem Sy(cR:∀ loc e,ge loc=some e->dz w ρ base ro loc e):∀ (ss:List Sg) (xs ys:List AV) (vs:List Value) (st kg:wj),GV ge ss xs st=some (ys,kg)->bn w ρ base ro xs vs->xY w ρ ro st kg/\∀ L,(∃ m,L=kg.aT++m)->bn w (ρL ρ L) 0 ro ys vs:=by
 intro ss xs ys vs st kg h hE;unfold GV at h;split at h
 . cases h;rw [hE.none];exact⟨.refl _,fun _ _ => .nil⟩
 . rename_i s ss x xs;split at h
   . rename_i y st1 h1;split at h
     . rename_i LG RF h2;cases h;obtain⟨u,us,rfl,hx,oC⟩:=hE.head;obtain⟨k1,k2⟩:=aql cR s x y u _ _ h1 hx;obtain⟨k3,k4⟩:=Sy cR ss xs LG us _ _ h2 oC;refine⟨k1.trans k3,fun L hL => ?_⟩;refine .cons (k2 L ?_) (k4 L hL);obtain⟨m,hm⟩:=k3.more;obtain⟨q,hq⟩:=hL;exact⟨m++q,by rw [hq,hm,fl]⟩
     . cases h
   . cases h
 . cases h
end
theorem aj.Ei{q:Nat->Prop}(h:aj w ρ base ro x v)(hx:∀ l,q l->AV.has l x=false)(hρ:∀ l r,ρ l=some r->(¬ q l\/r.dH=true) -> ρ' l=some r):aj w ρ' base ro x v:=by
 have hl:∀ {l:List AV} {j:Nat} {y:AV},(∀ k,q k->AV.mD k l=false)->l[j]? = some y->∀ k,q k->AV.has k y=false:=fun h hy k hk=>nN (h k hk) hy
 induction h with
 | un=>exact .un _
 | gv=>exact .gv _
 | int=>exact .int _ _
 | lit=>exact .lit _ _
 | bool=>exact .bool _
 | aV=>exact .aV _
 | str=>exact .str _
 | nil=>exact .nil
 | sl fr t l A c css cQ hc hr mC df h ih=>exact .sl fr t l A c css cQ hc hr mC df fun k cs j y v h1 h2 h3=>ih k cs j y v h1 h2 h3 fun k _=>nN (xE _ _ _ _) h2
 | wide fr t l n A c hn h ih=>exact .wide fr t l n A c hn (ih fun k _=>rfl)
 | bP cells off b o cs hr af cQ hc h ih=>exact .bP cells off b o cs hr af cQ hc fun j y v h1 h2=>ih j y v h1 h2 (hl (fun k hk=>by simpa only [AV.has] using hx k hk) h1)
 | ptr l off b h=>exact .ptr _ _ _ (hρ _ _ h (.inr rfl))
 | fX l off n b h=>exact .fX _ _ _ _ (hρ _ _ h (.inr rfl))
 | mp l b h=>exact .mp _ _ (hρ _ _ h (.inr rfl))
 | bL l s h=>exact .bL _ _ (hρ _ _ h (.inr rfl))
 | it l l2 b h=>exact .it _ _ _ (hρ _ _ h (.inr rfl))
 | own l A n c h=>exact .own _ _ _ _ (hρ _ _ h (.inl fun hq=>by have:=hx l hq; simp [AV.has] at this))
 | dv t l k off A n c b h hA h0 hn=>exact .dv _ _ _ _ _ _ _ _ (hρ _ _ h (.inl fun hq=>by have:=hx l hq; simp [AV.has] at this)) hA h0 hn
 | cW t l a b A n c h bJ=>exact .cW _ _ _ _ _ _ _ (hρ _ _ h (.inl fun hq=>by have:=hx l hq; simp [AV.has] at this)) bJ
 | agg l vs cQ h ih=>exact .agg _ _ cQ fun j y v h1 h2=>ih j y v h1 h2 (hl (fun k hk=>by simpa only [AV.has] using hx k hk) h1)
 | bp l vs cQ h ih=>exact .bp _ _ cQ fun j y v h1 h2=>ih j y v h1 h2 (hl (fun k hk=>by simpa only [AV.has] using hx k hk) h1)
 | fn f dV vs cQ h ih=>exact .fn _ _ _ cQ fun j y v h1 h2=>ih j y v h1 h2 (hl (fun k hk=>by simpa only [AV.has] using hx k hk) h1)
theorem Mz(g:Nat->Nat):∀ (l:List AV) (j:Nat),(AV.qh g l)[j]? = (l[j]?).map (AV.gQ g)
 | [],j=>by simp [AV.qh]
 | x::l,0=>by simp [AV.qh]
 | x::l,j+1=>by simpa [AV.qh] using Mz g l j
theorem abO(g:Nat->Nat):∀ (l:List AV),(AV.qh g l).length=l.length
 | []=>rfl
 | x::l=>by simp [AV.qh,abO g l]
theorem Sz(g:Nat->Nat)(fr:Bool)(t:Tc)(x:Unit->t.el):AV.qh g (bf fr t x)=bf fr t x:=by cases t<;>rfl
theorem aqm(g:Nat->Nat)(ag fr:Bool)(t:Tc)(x:Unit->t.el):AV.gQ g (fh ag fr t x)=fh ag fr t x:=by
 unfold fh;have h:=Sz g fr t x
 cases ag with
 | true =>
  simp only [fH,AV.gQ];rw [h]
 | false =>
  simp only [fk,dK]
  cases hc:bf fr t x with
  | nil=>rfl
  | cons c l =>
   rw [hc] at h
   cases l with
   | nil=>simpa [AV.qh] using h
   | cons c2 l=>rfl
theorem aj.gQ(h:aj w ρ base ro x v)(hρ:∀ l r,ρ l=some r -> ρ' (g l)=some r):aj w ρ' base ro (AV.gQ g x) v:=by
 have hm:∀ {l:List AV} {vs:List Value},(∀ (j:Nat) x v,l[j]? = some x->vs[j]? = some v->aj w ρ' base ro (AV.gQ g x) v)->∀ (j:Nat) x v,(AV.qh g l)[j]? = some x->vs[j]? = some v->aj w ρ' base ro x v:=by
  intro l vs h j x v hx hv;rw [Mz] at hx
  cases hj:l[j]? with
  | none=>rw [hj] at hx; cases hx
  | some y =>
   rw [hj] at hx;simp only [dG,bU] at hx;subst hx;exact h j y v hj hv
 induction h with
 | un=>exact .un _
 | gv=>exact .gv _
 | int=>exact .int _ _
 | lit=>exact .lit _ _
 | bool=>exact .bool _
 | aV=>exact .aV _
 | str=>exact .str _
 | nil=>exact .nil
 | sl fr t l A c css hl hc hr mC df h ih =>
  refine .sl fr t l A c css hl hc hr mC df fun k cs j y v h1 h2 h3 => ?_;have h4:AV.gQ g y=y:=by
   have h5:=Mz g (bf fr t fun _=>(l ()).getD k t.aa) j;rw [Sz,h2] at h5;simpa using h5.symm
  rw [<- h4];exact ih k cs j y v h1 h2 h3
 | wide fr t l n A c hn h ih=>exact .wide fr t l n A c hn ih
 | bP cells off b o cs hr af hl hc h ih=>exact .bP _ off b o cs hr af MA hc (hm ih)
 | ptr l off b h=>exact .ptr _ _ _ (hρ _ _ h)
 | fX l off n b h=>exact .fX _ _ _ _ (hρ _ _ h)
 | mp l b h=>exact .mp _ _ (hρ _ _ h)
 | bL l s h=>exact .bL _ _ (hρ _ _ h)
 | it l l2 b h=>exact .it _ _ _ (hρ _ _ h)
 | own l A n c h=>exact .own _ _ _ _ (hρ _ _ h)
 | dv t l k off A n c b h hA h0 hn=>exact .dv _ _ _ _ _ _ _ _ (hρ _ _ h) hA h0 hn
 | cW t l a b A n c h bJ=>exact .cW _ _ _ _ _ _ _ (hρ _ _ h) bJ
 | agg l vs hl h ih=>exact .agg _ _ MA (hm ih)
 | bp l vs hl h ih=>exact .bp _ _ MA (hm ih)
 | fn f dV vs hl h ih=>exact .fn _ _ _ MA (hm ih)
theorem dz.gQ{k:Nat}(h:dz w ρ base ro k e)(hρ:∀ l r,ρ l=some r -> ρ' (g l)=some r):dz w ρ' base ro (g k) (En.gQ g e):=by
 cases e with
 | box T cells =>
  obtain⟨b,cs,h1,h4,h5⟩:=h;have h6:aj w ρ base ro (.agg cells) (.agg cs.toArray) := .agg _ _ h5.1 h5.2;obtain⟨vs,h7,h8⟩:=(h6.gQ hρ).rf;have h9:cs=vs:=by simpa using h7
  subst h9;exact⟨b,cs,hρ _ _ h1,h4,h8⟩
 | row fr t T m =>
  obtain⟨A,c,css,h1,h2,h3,h5⟩:=h;refine⟨A,c,css,hρ _ _ h1,h2,h3,fun k cs j x v k1 k2 k3 => ?_⟩;have h4:AV.gQ g x=x:=by
   have h5:=Mz g (bf fr t fun _=>(m ()).getD k t.aa) j;rw [Sz,k2] at h5;simpa using h5.symm
  rw [<- h4];exact (h5 k cs j x v k1 k2 k3).gQ hρ
 | map fr ag c t T m =>
  obtain⟨b,es,clock,h1,h2,h3,h4⟩:=h;exact⟨b,es,clock,hρ _ _ h1,h2,h3,h4.tv fun x v hx=>by rw [<- aqm g]; exact hx.gQ hρ⟩
 | iter ml c seen left =>
  obtain⟨b,b2,es,clock,since,stamps,c0,h1,h2,h3⟩:=h;exact⟨b,b2,es,clock,since,stamps,c0,hρ _ _ h1,hρ _ _ h2,h3⟩
 | bL ml c key =>
  obtain⟨b,es,clock,s,e,h1,h2,h3⟩:=h;exact⟨b,es,clock,s,e,hρ _ _ h1,hρ _ _ h2,h3⟩
 | fY k=>exact hρ _ _ h
 | dead=>obtain⟨r,h⟩:=h; exact⟨r,hρ _ _ h⟩
end
section
variable{P:Program}{w w' w0:World}{ρ ρ' ρ1:Nat->Option Rl}{base lD:Nat}{ro ro' fP:Nat->Prop}{S0:Pm}{Φ : Pm->Prop}{N:Nat}{B:Bs}{S:Sx}{a:Act}{v:Value}
theorem dz.more{l:Nat}(h:dz w ρ base ro l e)(hb:lD<=base)(ck:∀ b,ro b->ro' b):dz w ρ lD ro' l e:=by
 have eU:∀ {x v},aj w ρ base ro x v->aj w ρ lD ro' x v:=fun h=>h.mono (fun _ _ _=>rfl) (Ext.refl _) hb ck
 cases e with
 | box T cells =>
  obtain⟨b,cs,h1,h4,h5⟩:=h;exact⟨b,cs,h1,h4,h5.1,fun j x v hx hv=>eU (h5.2 j x v hx hv)⟩
 | row fr t T m =>
  obtain⟨A,c,css,h1,h2,h3,h5⟩:=h;exact⟨A,c,css,h1,h2.Dr (aoJ fr hb),h3,fun k cs j x v k1 k2 k3=>eU (h5 k cs j x v k1 k2 k3)⟩
 | map fr ag c t T m =>
  obtain⟨b,es,clock,h1,h2,h3,h4⟩:=h;exact⟨b,es,clock,h1,h2,h3,h4.tv fun x v hx=>eU hx⟩
 | iter ml c seen left=>exact h
 | bL ml c key=>exact h
 | fY k=>exact h
 | dead=>exact h
structure Clean (B:Bs) (S:Sx) (loc:Nat):Prop where
 t:∀ d x,dR B S d=some x->AV.has loc x=false
 b:∀ l T cs,bF B S l=some (.box T cs)->AV.mD loc cs=false
 r:∀ l e,bF B S l=some e->qf loc e=false
theorem aqn{l:Nat}(h:dR B (kill l S) d=some x):dR B S d=some x\/x = .un:=by
 unfold dR kill at h;rw [GQ] at h;unfold dR
 cases hd:al S.t d with
 | none=>rw [hd] at h; exact .inl h
 | some y =>
  rw [hd] at h;simp only [dG,bU] at h;split at h
  . exact .inr h.symm
  . exact .inl (by rw [h])
theorem abP{l k:Nat}(h:bF B (kill l S) k=some e):∃ e0,bF B S k=some e0/\(e=e0\/e=Rx l e0):=by
 unfold bF kill at h;rw [GR] at h;unfold bF
 cases hd:al S.e k with
 | none=>rw [hd] at h; exact⟨e,h,.inl rfl⟩
 | some y =>
  rw [hd] at h;simp only [dG,bU] at h;exact⟨y,rfl,.inr h.symm⟩
theorem MB{l k:Nat}(h:bF B ⟨S.t,mE l S.e,S.n⟩ k=some e):∃ e0,bF B S k=some e0/\(e=e0\/e = .dead):=by
 unfold bF at h;simp only [LR] at h;unfold bF
 cases hd:al S.e k with
 | none=>rw [hd] at h; exact⟨e,h,.inl rfl⟩
 | some y =>
  rw [hd] at h;simp only [dG,bU] at h;refine⟨y,rfl,?_⟩;split at h
  . exact .inr h.symm
  . exact .inl h.symm
theorem aqo{l:Nat}{cs:List AV}(h:AV.mD loc cs=false):AV.mD loc (xJ l cs)=false:=by
 refine RA fun j x hx => ?_;rw [LQ] at hx
 cases hj:cs[j]? with
 | none=>rw [hj] at hx; cases hx
 | some y =>
  rw [hj] at hx;simp only [dG,bU] at hx;subst hx;split
  . rfl
  . exact nN h hj
theorem Clean.aqp(h:Clean B S loc)(l:Nat):Clean B (kill l S) loc:=by
 refine⟨fun d x hx => ?_,fun k T cs he => ?_,fun k e he => ?_⟩
 . rcases aqn hx with h1|rfl
   . exact h.t d x h1
   . rfl
 . obtain⟨e0,h1,h2|h2⟩:=abP he
   . subst h2; exact h.b k T cs h1
   . cases e0 with
     | box T' cs'=>cases h2; exact aqo (h.b k _ cs' h1)
     | row fr t T m=>cases h2
     | map fr ag c t T m=>cases h2
     | iter ml c seen left=>cases h2
     | bL ml c key=>cases h2
     | fY k=>cases h2
     | dead=>cases h2
 . obtain⟨e0,h1,h2|h2⟩:=abP he
   . subst h2; exact h.r k _ h1
   . have:=h.r k e0 h1;rw [h2];cases e0<;>exact this
theorem Clean.aqq(h:Clean B S loc)(l:Nat):Clean B ⟨S.t,mE l S.e,S.n⟩ loc:=by
 refine⟨h.t,fun k T cs he => ?_,fun k e he => ?_⟩
 . obtain⟨e0,h1,h2|h2⟩:=MB he
   . subst h2; exact h.b k T cs h1
   . cases h2
 . obtain⟨e0,h1,h2|h2⟩:=MB he
   . subst h2; exact h.r k _ h1
   . subst h2; rfl
theorem abQ:∀ {ls:List Nat} {S:Sx},wk B ls=true->bK w0 S0 N B S a w ρ ro->bK w0 S0 N B (D1 ls S) a w ρ ro/\(∀ l∈ls,Clean B (D1 ls S) l)/\(D1 ls S).n=S.n/\∀ l,Clean B S l->Clean B (D1 ls S) l
 | [],S,_,H=>⟨H,(fun _ h=>by cases h),rfl,fun _ h=>h⟩
 | l::ls,S,h,H=>by
  unfold wk at h;simp only [aD] at h;obtain⟨⟨⟨_,hq⟩,hr⟩,BS⟩:=h;have H1:=H.aaY l;obtain⟨H2,uR⟩:=H1.dropped (loc:=l) hr;have hc:Clean B ⟨(kill l S).t,mE l (kill l S).e,(kill l S).n⟩ l:=by
   have hk:=aaZ (S:=S) hq;refine⟨hk.1,fun k T cs he => ?_,uR⟩;obtain⟨e0,h1,h2|h2⟩:=MB he
   . subst h2; exact hk.2 k T cs h1
   . cases h2
  obtain⟨k1,k2,k3,k4⟩:=abQ (ls:=ls) BS H2;refine⟨k1,fun l' cQ => ?_,k3,fun l' cQ=>k4 l' ((cQ.aqp l).aqq l)⟩;rcases gD.1 cQ with rfl|cQ
  . exact k4 _ hc
  . exact k2 l' cQ
theorem abR:∀ {ls:List Nat} {S:Sx},wk B ls=true->bK w0 S0 N B S a w ρ ro->bK w0 S0 N B (D2 ls S) a w ρ ro/\(∀ l∈ls,∀ k e,bF B (D2 ls S) k=some e->qf l e=false)/\(D2 ls S).n=S.n/\∀ l,(∀ k e,bF B S k=some e->qf l e=false)->∀ k e,bF B (D2 ls S) k=some e->qf l e=false
 | [],S,_,H=>⟨H,(fun _ h=>by cases h),rfl,fun _ h=>h⟩
 | l::ls,S,h,H=>by
  unfold wk at h;simp only [aD] at h;obtain⟨⟨⟨_,hq⟩,hr⟩,BS⟩:=h;obtain⟨H2,uR⟩:=H.dropped (loc:=l) hr;obtain⟨k1,k2,k3,k4⟩:=abR (ls:=ls) BS H2;refine⟨k1,fun l' cQ => ?_,k3,fun l' cQ=>k4 l' fun k e he => ?_⟩
  . rcases gD.1 cQ with rfl|cQ
    . exact k4 _ uR
    . exact k2 l' cQ
  . obtain⟨e0,h1,h2|h2⟩:=MB he
    . subst h2; exact cQ k _ h1
    . subst h2; rfl
theorem aqr{ls:List Nat}(hf:wk B ls=true)(H:bK w0 S0 N B S a w ρ ro):bK w0 S0 N B (forget fx ls S) a w ρ ro/\(∀ l∈ls,∀ k e,bF B (forget fx ls S) k=some e->qf l e=false)/\(fx=false->∀ l∈ls,Clean B (forget fx ls S) l):=by
 unfold forget
 cases fx with
 | true =>
  obtain⟨k1,k2,_,_⟩:=abR (S:=S) hf H;exact⟨k1,k2,fun h=>by cases h⟩
 | false =>
  obtain⟨k1,k2,_,_⟩:=abQ (S:=S) hf H;exact⟨k1,fun l hl=>(k2 l hl).r,fun _=>k2⟩
theorem SA{g:Nat->Nat}{l:Nat}{e:En}:∀ {es:List (Nat×En)},al (l0 g es) l=some e->∃ k e0,g k=l/\e=En.gQ g e0/\al es k=some e0
 | (k0,e0)::es,h=>by
  unfold l0 at h;rw [cO] at h;split at h
  . rename_i hk;cases h;exact⟨k0,e0,hk,rfl,by rw [cO,aG rfl]⟩
  . rename_i hk;obtain⟨k,e1,h1,h2,h3⟩:=SA h;exact⟨k,e1,h1,h2,by rw [cO,ax (by rintro rfl; exact hk h1)]; exact h3⟩
 | [],h=>by cases h
theorem abS{g:Nat->Nat}{k:Nat}:∀ {es:List (Nat×En)},bV k (dS es)=true->∃ e,al (l0 g es) (g k)=some e
 | (k0,e0)::es,h=>by
  unfold l0;rw [cO];split
  . exact⟨_,rfl⟩
  . rename_i hk;simp only [dS,bV,fM,cC] at h;rcases h with rfl|h
    . exact absurd rfl hk
    . exact abS h
 | [],h=>by cases h
theorem abT{α:Type}{k:Nat}{x : α}:∀ {l:List (Nat × α)},al l k=some x->bV k (dS l)=true
 | (j,y)::l,h=>by
  rw [cO] at h;simp only [dS,bV,fM,cC];split at h
  . rename_i e; exact .inl e
  . exact .inr (abT h)
 | [],h=>by cases h
theorem SB:∀ {ks:List Nat} {n k:Nat},bV k ks=true->k<oF n ks
 | j::ks,n,k,h=>by
  simp only [bV,fM,cC] at h;have hle:∀ (l:List Nat) (n:Nat),n<=oF n l:=by
   intro l
   induction l with
   | nil=>intro n; exact aN n
   | cons j l ih =>
    intro n;unfold oF;split
    . exact ih n
    . have:=ih (j+1); omega
  unfold oF;split
  . rcases h with rfl|h
    . have:=hle ks n; omega
    . exact SB h
  . rcases h with rfl|h
    . have:=hle ks (j+1); omega
    . exact SB h
 | [],_,_,h=>by cases h
theorem abU{ks:List Nat}:∀ {n l:Nat},zl ks n=true->l<n->bV l ks=true
 | n+1,l,h,hl=>by
  simp only [zl,aD] at h;rcases cv l n with h1|h1
  . exact abU h.2 h1
  . rw [show l=n from oo]; exact h.1
 | 0,_,_,hl=>oo
theorem abV{g:Nat->Nat}{n k:Nat}:∀ {ks:List Nat},D3 B g n ks=true->bV k ks=true->n<=k->al B.e (g k)=none
 | j::ks,h,hm,hk=>by
  unfold D3 at h;simp only [aD,fM,aU,jz] at h;simp only [bV,fM,cC] at hm;rcases hm with rfl|hm
  . exact h.1.resolve_left oo
  . exact abV h.2 hm hk
 | [],_,h,_=>by cases h
theorem abW{l:Nat}:∀ {ls:List Nat},wk B ls=true->l∈ls->al B.e l=none
 | j::ls,h,hm=>by
  unfold wk at h;simp only [aD,jz] at h;rcases gD.1 hm with rfl|hm
  . exact h.1.1.1
  . exact abW h.2 hm
 | [],_,h=>by cases h
theorem SC{α:Type}:∀ (l m:List (Nat × α)) (d:Nat),al (l++m) d=(match al l d with|some x=>some x|none=>al m d)
 | [],m,d=>rfl
 | (k,x)::l,m,d=>by
  rw [qL,cO,cO,SC l m d];split<;>rfl
theorem bK.called(H:bK w0 S0 N B S a w ρ ro){es:List (Nat×En)}(hlen:aT.length=n)(jI:aT.Nodup)(uS:∀ l∈aT,∃ r,ρ l=some r)(BT:wk B aT=true)(ch:zl (dS es) n=true)(rk:D3 B (jX aT S.n) n (dS es)=true)(jG:S0.fx=true->fx=true)(hL:Left w w' (ρL ρ aT) ρ1 ro fP es fx) :
 ∃ ρ',bK w0 S0 N B ⟨(forget fx aT S).t,l0 (jX aT S.n) es++(forget fx aT S).e,S.n+(oF n (dS es) - n)⟩ a w' ρ' (fun b=>ro b\/fP b)/\∀ k r,ρ1 k=some r -> ρ' (jX aT S.n k)=some r:=by
 obtain⟨H1,abX,c7⟩:=aqr (fx:=fx) (S:=S) BT H;have af:∀ {l r},ρ l=some r->l<S.n:=fun h=>by
  rcases cv _ S.n with h1|h1
  . exact h1
  . have:=H.fresh _ h1; rw [h] at this; cases this
 have aqs:∀ {k l},aT[k]? = some l->l<S.n:=fun h=>by
  obtain⟨r,hr⟩:=uS _ (gK h);exact af hr
 classical
 obtain⟨ρ',zn⟩:∃ ρ':Nat->Option Rl,ρ'=fun l=>if h:∃ k:Nat,aT[k]? = some l then ρ1 h.choose else if S.n<=l then ρ1 (n+(l - S.n)) else ρ l:=⟨_,rfl⟩
 have F1:∀ {k l},aT[k]? = some l -> ρ' l = ρ1 k:=by
  intro k l h;have hex:∃ k:Nat,aT[k]? = some l:=⟨k,h⟩
  rw [zn];simp only [dif_pos hex];have h2:=hex.choose_spec;have hk:=(c8.1 h).1;have:hex.choose=k:=(List.getElem?_inj (by exact (c8.1 h2).1) jI).1 (h2.trans h.symm);rw [this]
 have F2:∀ {l},S.n<=l -> ρ' l = ρ1 (n+(l - S.n)):=by
  intro l h;rw [zn];have ke:¬ ∃ k:Nat,aT[k]? = some l:=by
   rintro⟨k,hk⟩
   have:=aqs hk;omega
  simp only [dif_neg ke,aG h]
 have F3:∀ {l:Nat},l<S.n->(∀ k:Nat,aT[k]? ≠ some l) -> ρ' l = ρ l:=by
  intro l h h2;rw [zn];have ke:¬ ∃ k:Nat,aT[k]? = some l:=by
   rintro⟨k,hk⟩
   exact h2 k hk
  simp only [dif_neg ke,ax (show ¬ S.n<=l from oo)]
 have G1:∀ {k l:Nat},aT[k]? = some l->jX aT S.n k=l:=fun h=>by unfold jX; rw [h]
 have G2:∀ {k:Nat},n<=k->jX aT S.n k=S.n+(k - n):=fun h=>by unfold jX; rw [vF oo,hlen]
 have F4:∀ k,ρ' (jX aT S.n k) = ρ1 k:=by
  intro k;rcases cv k n with h|h
  . have hk:aT[k]? = some (aT[k]'oo):=bq _;rw [G1 hk];exact F1 hk
  . rw [G2 h,F2 oo];congr 1;omega
 have back:∀ {l:Nat} {r:Rl},ρ' l=some r->(∃ k:Nat,l=jX aT S.n k /\ ρ1 k=some r)\/(ρ l=some r/\l<S.n/\∀ k:Nat,aT[k]? ≠ some l):=by
  intro l r h;by_cases hex:∃ k:Nat,aT[k]? = some l
  . obtain⟨k,hk⟩:=hex;exact .inl ⟨k,(G1 hk).symm,(F1 hk).symm.trans h⟩
  . rcases cv l S.n with h1|h1
    . have h2:∀ k:Nat,aT[k]? ≠ some l:=fun k hk=>hex ⟨k,hk⟩;exact .inr ⟨(F3 h1 h2).symm.trans h,h1,h2⟩
    . refine .inl ⟨n+(l - S.n),?_,(F2 h1).symm.trans h⟩;rw [G2 oo];omega
 have aEr:∀ {k:Nat} {r:Rl} {b:Nat},ρL ρ aT k=some r->r.cH=some b->∃ l:Nat,aT[k]? = some l /\ ρ l=some r:=fun h _ => wz h;have Ej:∀ {l:Nat} {r:Rl} {b:Nat},ρ l=some r->r.cH=some b->(∀ k:Nat,aT[k]? ≠ some l)->w'.heap[b]? = w.heap[b]? := by
  intro l r b h1 h2 h3;refine hL.from_.block b (H.own l r b h1 h2).1 fun k r' hk hb => ?_;obtain⟨l',cQ,pF⟩ := wz hk;exact H.apart l l' r r' b (fun e=>h3 k (e▸cQ)) h1 pF h2 hb
 have ck:∀ b,ro b->b<w.heap.size->w'.heap[b]? = w.heap[b]? := by
  intro b hb af;refine hL.from_.block b af fun k r' hk bo => ?_;obtain⟨l',cQ,pF⟩ := wz hk;exact (H.own l' r' b pF bo).2.1 hb
 have uT:∀ {l:Nat} {r:Rl},ρ l=some r->((¬ ∃ k:Nat,aT[k]? = some l)\/(r.dH||fx)=true) -> ρ' l=some r:=by
  intro l r h1 h2;by_cases hex:∃ k:Nat,aT[k]? = some l
  . obtain⟨k,hk⟩:=hex;rw [F1 hk];exact hL.dH k r (by rw [xX hk]; exact h1) (h2.resolve_left fun h=>h ⟨k,hk⟩)
  . rw [F3 (af h1) fun k hk=>hex ⟨k,hk⟩];exact h1
 have eU:∀ {x v},aj w ρ w0.heap.size ro x v->(fx=false->∀ l∈aT,AV.has l x=false)->aj w' ρ' w0.heap.size (fun b=>ro b\/fP b) x v:=fun h hx=>(h.Ei (q:=fun l=>fx=false/\∃ k:Nat,aT[k]? = some l) (fun l hq=>by obtain⟨hf,k,hk⟩:=hq; exact hx hf l (gK hk)) fun l r h1 h2=>uT h1 (by
  cases hf:fx with
  | true=>exact .inr (by simp)
  | false=>exact h2.imp (fun h q=>h ⟨hf,q⟩) fun h=>by simp [h])).mono ck (Ext.refl _) (aN _) fun b hb => .inl hb
 have iF:w0.heap.size<=w.heap.size:=H.from_.size;have aqt:∀ {l:Nat} {e:En},al (l0 (jX aT S.n) es) l=none->bF B (forget fx aT S) l=some e->∀ k:Nat,aT[k]? ≠ some l:=by
  intro l e h1 _ k hk;have eV:k<n:=by have:=(c8.1 hk).1; omega
  obtain⟨e',nX⟩:=abS (g:=jX aT S.n) (abU ch eV);rw [G1 hk,h1] at nX;cases nX
 refine⟨ρ',⟨?_,H.size,H.defers,fun b hb => ?_,fun d x hx => ?_,fun l e he => ?_,fun l l' r r' b bg h1 h2 h3 h4 => ?_,fun l hl => ?_,fun l r b h1 h2 => ?_,fun b hb => ?_,fun l r h1 h2=>uT (H.dH l r h1 h2) (.inr (by
  cases hs:r.dH with
  | true=>rfl
  | false=>rw [hs] at h2; exact jG h2)),fun d x hx=>H1.kQ d x hx,fun l e he => ?_,H.fm⟩,fun k r h=>by rw [F4]; exact h⟩
 . refine⟨hL.from_.os.trans H.from_.os,hL.from_.tape.trans H.from_.tape,hL.from_.output.trans H.from_.output,cd iF hL.from_.size,fun k hk MC hx => ?_,S0.zk _ _ H.from_.inv hL.from_.os hL.from_.tape hL.from_.output hL.from_.size fun b hb=>hL.from_.block b (S0.py _ _ H.from_.inv hb) fun i r hi hr=>by obtain⟨l,_,SD⟩ := wz hi; exact (H.own l r b SD hr).2.2.2 hb⟩;refine (hL.from_.block k oo fun i r hi hr => ?_).trans (H.from_.block k hk MC hx);obtain⟨l,hl,SD⟩ := wz hi;rcases (H.own l r k SD hr).2.2.1 with h|⟨r0,h,h'⟩
   . omega
   . exact MC l r0 h h'
 . rcases hb with hb|hb
   . exact iT (H.gX b hb) hL.from_.size
   . exact (hL.rd b hb).1
 . obtain⟨u,h1,h2⟩:=H1.tm d x hx;exact⟨u,h1,eU h2 fun hf l hl=>(c7 hf l hl).t d x hx⟩
 . unfold bF at he;dsimp only at he;have kj:=SC (l0 (jX aT S.n) es) (forget fx aT S).e l
   cases hr:al (l0 (jX aT S.n) es) l with
   | some e1 =>
    rw [kj,hr] at he;simp only [bU] at he;subst he;obtain⟨k,e0,rfl,rfl,h3⟩:=SA hr;exact ((hL.en k e0 h3).more iF fun b hb => .inr hb).gQ fun l r h=>by rw [F4]; exact h
   | none =>
    rw [kj,hr] at he;have nX:bF B (forget fx aT S) l=some e:=he;have Hg:=aqt hr nX;have h1:=H1.en l e nX;obtain⟨r,Ek⟩:=h1.none;have cQ : ρ' l = ρ l:=F3 (af Ek) Hg
    cases e with
    | box T cs =>
     obtain⟨b,us,k1,k4,k5⟩:=h1;exact⟨b,us,cQ.trans k1,(Ej k1 rfl Hg).trans k4,k5.1,fun j x v hx hv=>eU (k5.2 j x v hx hv) fun hf q hq=>nN ((c7 hf q hq).b l T cs nX) hx⟩
    | row fr t T m =>
     obtain⟨A,c,css,k1,k2,k3,k5⟩:=h1;exact⟨A,c,css,cQ.trans k1,k2.lu fun ad ha=>Ej k1 (by simp [Rl.cH,ha]) Hg,k3,fun k cs j x v q1 q2 q3=>eU (k5 k cs j x v q1 q2 q3) fun _ q _=>nN (xE _ _ _ _) q2⟩
    | map fr ag c t T m =>
     obtain⟨b,jV,clock,k1,k2,k3,k4⟩:=h1;exact⟨b,jV,clock,cQ.trans k1,(Ej k1 rfl Hg).trans k2,k3,k4.tv fun x v hx=>eU hx fun _ q _=>RB _ _ _ _ _⟩
    | iter ml c seen left =>
     obtain⟨b,b2,jV,clock,since,stamps,c0,k1,k2,k3,k4,k5⟩:=h1;have lH:∀ k:Nat,aT[k]? ≠ some ml:=fun k hk=>by
      have:=abX ml (gK hk) l _ nX;simp [qf] at this
     exact⟨b,b2,jV,clock,since,stamps,c0,cQ.trans k1,(F3 (af k2) lH).trans k2,(Ej k2 rfl lH).trans k3,(Ej k1 rfl Hg).trans k4,k5⟩
    | bL ml c key =>
     obtain⟨b,jV,clock,s,e,k1,k2,k3,k4⟩:=h1;have lH:∀ k:Nat,aT[k]? ≠ some ml:=fun k hk=>by
      have:=abX ml (gK hk) l _ nX;simp [qf] at this
     exact⟨b,jV,clock,s,e,cQ.trans k1,(F3 (af k2) lH).trans k2,(Ej k2 rfl lH).trans k3,k4⟩
    | fY k=>exact cQ.trans h1
    | dead=>exact⟨r,cQ.trans Ek⟩
 . have lK:∀ {l l':Nat} {r r':Rl} {b k:Nat},l=jX aT S.n k -> ρ1 k=some r -> ρ l'=some r'->(∀ k:Nat,aT[k]? ≠ some l')->r.cH=some b->r'.cH≠some b:=by
    intro l l' r r' b k _ q2 q3 q4 q5 q6;have q7:=(H.own l' r' b q3 q6).1;rcases (hL.own k r b q2 q5).2.2 with q8|⟨r0,q8,q9⟩
    . omega
    . obtain⟨l2,q10,q11⟩ := wz q8;exact H.apart l2 l' r0 r' b (fun e=>q4 k (e▸q10)) q11 q3 q9 q6
   rcases back h1 with ⟨k,q1,q2⟩|⟨q1,q2,q3⟩
   . rcases back h2 with ⟨k',q3,q4⟩|⟨q3,q4,q5⟩
     . exact hL.apart k k' r r' b (fun e=>bg (by rw [q1,q3,e])) q2 q4 h3 h4
     . exact lK q1 q2 q3 q5 h3 h4
   . rcases back h2 with ⟨k',q4,q5⟩|⟨q4,q5,q6⟩
     . exact lK q4 q5 q1 q3 h4 h3
     . exact H.apart l l' r r' b bg q1 q4 h3 h4
 . dsimp only at hl;rw [F2 oo];refine hL.fresh _ ?_
   cases hm:bV (n+(l - S.n)) (dS es) with
   | false=>rfl
   | true =>
    have:=SB (n:=n) hm;omega
 . rcases back h1 with ⟨k,q1,q2⟩|⟨q1,q2,q3⟩
   . obtain⟨q3,q4,q5⟩:=hL.own k r b q2 h2;rcases q5 with q5|⟨r0,q5,q6⟩
     . refine⟨q3,fun hb => ?_,.inl oo,fun hf=>by have:=S0.py _ _ H.from_.inv hf; omega⟩;rcases hb with hb|hb
       . have:=H.gX b hb; omega
       . exact q4 hb
     . obtain⟨l2,q7,q8⟩ := wz q5;have q9:=H.own l2 r0 b q8 q6;rw [G1 q7] at q1;subst q1;exact⟨q3,fun hb=>hb.elim q9.2.1 q4,q9.2.2⟩
   . have q4:=H.own l r b q1 h2;exact⟨iT q4.1 hL.from_.size,fun hb=>hb.elim q4.2.1 fun hb=>q4.2.1 ((hL.rd b hb).2 q4.1),q4.2.2⟩
 . rcases hb with hb|hb
   . exact H.fp b hb
   . rcases cv b w.heap.size with h|h
     . exact H.fp b ((hL.rd b hb).2 h)
     . exact⟨fun h2=>oo,fun ho=>by have:=S0.py _ _ H.from_.inv (S0.zj b ho); omega⟩
 . rw [SC]
   cases hr:al (l0 (jX aT S.n) es) l with
   | none=>exact H1.kT l e he
   | some e1 =>
    exfalso;obtain⟨k,e0,hk,_,h3⟩:=SA hr;have hm:=abT h3;rcases cv k n with h|h
    . have bm:aT[k]? = some (aT[k]'oo):=bq _;rw [G1 bm] at hk;have:=abW BT (gK bm);rw [hk,he] at this;cases this
    . have:=abV rk hm h;rw [hk,he] at this;cases this
end
section
variable{P:Program}{w w' w0:World}{ρ ρ':Nat->Option Rl}{base:Nat}{ro ro':Nat->Prop}{S0:Pm}{Φ : Pm->Prop}{N:Nat}{B:Bs}{S:Sx}{a:Act}
theorem aqw{size:Nat}(hz:z.cells.size=size)(h0:0<size):∀ n,(madeCells z.cells (n*size)).toList=(List.replicate n z.cells.toList).flatten:=by
 intro n;apply xv;intro j;have ch:∀ cs∈List.replicate n z.cells.toList,cs.length=size:=by
  intro cs aS;rw [(am5.1 aS).2];simpa using hz
 by_cases hj:j<n*size
 . have rv:=Dm j size;have hm:=jk j h0;have hk:j / size<n:=(AH h0).2 hj;have e:j=j / size*size+j % size:=by rw [j8]; exact rv.symm
   have h1:=KA (List.replicate n z.cells.toList) ch (j / size) (j % size) hm;rw [<- e] at h1;rw [h1];rw [amS,aG hk,FY];simp only [madeCells,hz,Array.toList_map,Array.toList_range,gC,xu hj,dG];rw [Array.getElem!_eq_getD];have uU:j % size<z.cells.size:=oo
   simp [uU]
 . have h1:(madeCells z.cells (n*size)).toList.length=n*size:=by simp [size_madeCells]
   have h2:(List.replicate n z.cells.toList).flatten.length=n*size:=by rw [qQ _ ch,td]
   rw [vF oo,vF oo]
theorem abY(H:bj w0 Φ N B S a w){e c:Nat}{x:Unit->List t.el}{l:Operand}{css:List (List Value)}(hB:al B.e S.n=none)(hp:cb B ⟨S.t,(S.n,.row f t e x)::S.e,S.n+1⟩ N d (.own S.n)=some S')(hn:(x ()).length=n)(cZ:∃ w',(Instr.makeSlice T (a.eval l) (a.eval cc)).run P w = .ok (.slice (some ⟨w.heap.size,0,none⟩) n c) w'/\w'.ownsRow w.heap.size e t.size (.slice (some ⟨w.heap.size,0,none⟩) n c) n css.flatten/\w.grownBy w' none)(hlen:css.length=n)(c7:∀ cs∈css,cs.length=t.size)(dQ:∀ (k:Nat) (cs:List Value) (w':World) (ρ':Nat->Option Rl) (ro':Nat->Prop),css[k]? = some cs->bn w' ρ' w0.heap.size ro' (bf f t fun _=>(x ()).getD k t.aa) cs) :
 iu P ⟨some d,.makeSlice T l cc,ty,pos,aft,gd⟩ a w (bj w0 Φ N B S'):=by
 obtain⟨S0,hS,ρ,ro,H⟩:=H;obtain⟨w',cZ,dO,hg⟩:=cZ;have gg:=H.fresh S.n (aN _);have gW:∀ q,q<w.heap.size->w'.heap[q]? = w.heap[q]? := fun q hq=>hg.block q hq (by simp);have bS:dc w' w.heap.size e t.size (some ⟨w.heap.size,0,none⟩) c css:=⟨by rw [hlen]; exact dO,c7⟩
 have af:w.heap.size<w'.heap.size:=(bS.lt rfl).2;have Hh:dc w' (rb f w0.heap.size) e t.size (some ⟨w.heap.size,0,none⟩) c css:=bS.Dr (cd (Lc _ _) H.from_.size);have H2:=H.qg (w':=w') (loc:=S.n) (n:=S.n+1) (r := .row (some ⟨w.heap.size,0,none⟩) n c) (e := .row f t e x) (H.from_.grown hg fun k hk=>by cases hk) hg.size (fun q hq _=>gW q hq) (fun q jq=>by
  have lJ:some w.heap.size=some q:=jq;injection lJ with lJ;subst lJ;exact .inr ⟨aN _,af⟩) hB (Dq _) (Dj _) (.inl (sJ gg)) (.inl fun b hb=>by rw [gg] at hb; cases hb) (by
  refine⟨some ⟨w.heap.size,0,none⟩,c,css,by rw [hn]; exact jH _ _ _,Hh,by rw [hn]; exact hlen,fun k cs j y u r1 r2 r3=>(dQ k cs _ _ _ r1).2 j y u r2 r3⟩)
 refine .inl ⟨_,_,?_,S0,hS,_,_,H2.put hp (.own _ _ _ _ (jH _ _ _))⟩;unfold execOp;simp only [bQ,cZ,cg,cq]
theorem aqx(aQ:dp P C.ty)(H:bj w0 Φ N B S a w){e:Nat}{k:Unit->Int}{l:Operand}(hT:fZ C.ty T=some (.slice e sz b))(hl:cm B S l = .lit k0 0)(hc:(cm B S cc).asInt=some (kk,k))(bc:t.size=sz)(hB:al B.e S.n=none)(hp:cb B ⟨S.t,(S.n,.row true t e fun _ => [])::S.e,S.n+1⟩ N d (.own S.n)=some S')(hv:0<=k ()/\k ()*b<=281474976710656) :
 iu P ⟨some d,.makeSlice T l cc,ty,pos,aft,gd⟩ a w (bj w0 Φ N B S'):=by
 obtain⟨S0,hS,ρ,ro,H'⟩:=id H;obtain⟨i,_,hi,lI⟩:=fD aQ hT;obtain⟨⟨hu,j,z,hj,hz,xT,SE,xA,pk⟩,gu⟩:=BO lI hi;have e1:a.eval l = .int k0 0:=by have:=H'.get l; rw [hl] at this; exact this.nO
 have e2:a.eval cc = .int kk (k ()):=kb hc (H'.get cc);obtain⟨c,ql⟩:=om hv.1;have oK:c*b<=281474976710656:=by
  have h3:=hv.2;exact abZ
 have uQ:c<=maxLen:=by
  have:c*1<=c*b:=j7 _ gu;unfold maxLen;omega
 subst bc;refine abY (css := []) H hB hp rfl ?_ rfl (by simp) (fun k cs w' ρ' ro' h=>by simp at h) (c:=c);rw [e1,e2,ql];exact run_make_own w w.heap.size T e j z t.size hu hj hz xT k0 kk c (by rw [SE,j8]; exact oK) uQ (aN _)
theorem aqy(aQ:dp P C.ty)(H:bj w0 Φ N B S a w){e:Nat}{n k:Unit->Int}{x:Unit->t.el}{ie:fC}{l:Operand}(hT:fZ C.ty T=some (.slice e sz b))(hl:cm B S l = .int k0 n)(hc:(cm B S cc).asInt=some (kk,k))(Bw:al C.ty e=some ie)(jE:xM t (.agg ie.z)=some (f,x))(yW:ie.z.isEmpty=false)(bc:t.size=sz)(hB:al B.e S.n=none)(hp:cb B ⟨S.t,(S.n,.row f t e fun _=>List.replicate (n ()).toNat (x ()))::S.e,S.n+1⟩ N d (.own S.n)=some S')(hv:0<=n ()/\n ()=k ()/\n ()*b<=281474976710656) :
 iu P ⟨some d,.makeSlice T l cc,ty,pos,aft,gd⟩ a w (bj w0 Φ N B S'):=by
 obtain⟨S0,hS,ρ,ro,H'⟩:=id H;obtain⟨i,_,hi,lI⟩:=fD aQ hT;obtain⟨⟨hu,j,z,hj,hz,xT,SE,xA,pk⟩,gu⟩:=BO lI hi;have e1:a.eval l = .int k0 (n ()):=by have:=H'.get l; rw [hl] at this; exact this.jU
 have e2:a.eval cc = .int kk (k ()):=kb hc (H'.get cc);obtain⟨v1,v2,v3⟩:=hv;rw [<- v2] at e2;obtain⟨c,ql⟩:=om v1;have oK:c*b<=281474976710656:=by
  have h3:=v3;exact abZ
 have uQ:c<=maxLen:=by
  have:c*1<=c*b:=j7 _ gu;unfold maxLen;omega
 subst bc;have qd:(n ()).toNat=c:=by rw [ql]; rfl
 have hzE:∀ (w':World) (ρ':Nat->Option Rl) (ro':Nat->Prop),bn w' ρ' w0.heap.size ro' (bf f t x) z.cells.toList:=by
  intro w' ρ' ro';obtain⟨j',z',gE,zv,hE⟩:=Rk (w:=w') (ρ := ρ') (base:=w0.heap.size) (ro:=ro') (aQ e ie Bw) yW;rw [hj] at gE;injection gE with gE;subst gE;rw [hz] at zv;injection zv with zv;subst zv;obtain⟨vs,q1,q2,q3⟩:=Mq jE (aj.agg ie.z z.cells.toList hE.1 hE.2);have:vs=z.cells.toList:=by
   have q4:(Value.agg z.cells.toList.toArray).cells=z.cells.toList.toArray:=rfl;rw [q4] at q1;exact (congrArg Array.toList q1).symm
  rw [this] at q3;exact q3
 have hzl:z.cells.toList.length=t.size:=by simpa using xA
 refine abY (css:=List.replicate c z.cells.toList) H hB hp (by rw [td]) ?_ (by rw [td,qd]) (fun cs h=>by rw [(am5.1 h).2]; exact hzl) (fun q cs w' ρ' ro' h => ?_) (c:=c)
 . rw [e1,e2,ql];obtain⟨w',r1,r2,r3⟩:=run_make_full (P:=P) w w.heap.size T e j z t.size hu hj hz xT k0 kk c (by rw [SE,j8]; exact oK) uQ (aN _);refine⟨w',?_,?_,r3⟩
   . exact r1
   . rw [aqw xA pk] at r2;exact r2
 . rw [amS] at h;split at h
   . rename_i hq;cases h;have e3:(List.replicate (n ()).toNat (x ())).getD q t.aa=x ():=by
      rw [aY,amS,aG oo];rfl
     have e4:(fun (_:Unit)=>(List.replicate (n ()).toNat (x ())).getD q t.aa)=x:=by funext u; exact e3
     rw [e4];exact hzE w' ρ' ro'
   . cases h
end
section
variable{w w' w0:World}{ρ ρ' ρ2:Nat->Option Rl}{base:Nat}{p:Nat->Bool}{fz:Option (List Nat)}{ro ro' ro2:Nat->Prop}{S0:Pm}{Φ : Pm->Prop}{N:Nat}{B:Bs}{S:Sx}{a:Act}
theorem aj.MD{l m:Unit->List t.el}(h:aj w ρ base ro (.sl fr t l) v)(hl:l ()=m ())(hf:fr'=true->fr=true):aj w ρ base ro (.sl fr' t m) v:=by
 have e:l=m:=funext fun u=>by cases u; exact hl
 subst e
 cases fr' with
 | true=>rw [hf rfl] at h; exact h
 | false=>exact h.wh
theorem Hi{l m:List VC}(h:∀ c∈l++m,c ()):(∀ c∈l,c ())/\∀ c∈m,c ():=⟨fun c hc=>h c (nJ.2 (.inl hc)),fun c hc=>h c (nJ.2 (.inr hc))⟩
theorem BU(h:(fr || !fr')=true):fr'=true->fr=true:=by
 intro h';rw [h'] at h;simpa using h
structure Hj (w0:World) (ρ ρ2:Nat->Option Rl) (ro ro2:Nat->Prop) (p:Nat->Bool) (fz:Option (List Nat)):Prop where
 pl:∀ l r,ρ l=some r->p l=true -> ρ2 l=some r
 ro:∀ b,ro b->ro2 b
 nil:fz=none->∀ l,ρ l=none->p l=true -> ρ2 l=some (.row none 0 0)
 out:∀ ks,fz=some ks->∀ loc r b,ρ loc=some r->bV loc ks=false->r.cH=some b->w0.heap.size<=b/\ro2 b
mutual
theorem SF(H:bK w0 S0 N B S a w ρ ro)(M:Hj w0 ρ ρ2 ro ro2 p fz):∀ (x y:AV) (vcs:List VC) (v:Value),Ea fz B S x y=some vcs->(∀ c∈vcs,c ())->aj w ρ w0.heap.size ro x v->AV.under p y=true->aj w ρ2 w0.heap.size ro2 y v:=by
 intro x y vcs v h hv hx hu;unfold Ea at h;split at h
 . exact .un _
 . split at h
   . rename_i hk;subst hk;cases h;rw [hx.jU,hv _ (.head _)];exact .int _ _
   . cases h
 . split at h
   . rename_i hk;subst hk;cases h;rw [hx.nO,hv _ (.head _)];exact .int _ _
   . cases h
 . split at h
   . rename_i hk;subst hk;cases h;rw [hx.jU,hv _ (.head _)];exact .lit _ _
   . cases h
 . split at h
   . rename_i hk;obtain⟨rfl,rfl⟩:=hk;rw [hx.nO];exact .lit _ _
   . cases h
 . cases h;rw [hx.qb,hv _ (.head _)];exact .bool _
 . cases h;rw [hx.re,hv _ (.head _)];exact .bool _
 . cases h;rw [hx.qb,hv _ (.head _)];exact .aV _
 . split at h
   . rename_i hk;subst hk;rw [hx.re];exact .aV _
   . cases h
 . cases h;rw [hx.y7,hv _ (.head _)];exact .str _
 . cases h;rw [hx.xG];exact .nil
 . cases h;have h0:=hv _ (.head _);rw [hx.xG];rename_i t l;have e:Value.slice none 0 0=Value.slice none (l ()).length 0:=by rw [h0]; rfl
   rw [e];exact .sl _ _ _ none 0 [] (by rw [h0]; rfl) (aN _) (Rd.nil _ _ _ _) (fun _ h=>by cases h) (fun _ _ h=>by cases h) (fun k cs j x v h=>by simp at h)
 . split at h
   . split at h
     . rename_i loc _ hk;cases h;rw [hx.xG];exact .own _ _ _ _ (M.nil rfl loc (H.fresh loc (by simpa using hk)) BV)
     . cases h
   . cases h
 . split at h
   . rename_i fr t l fr' t' m hk;subst hk;split at h
     . rename_i hf;cases h;exact ((hx.MD (m:=m) (hv _ (.head _)) (BU hf)).plain (fresh:=false) (by simp [AV.plain]) fun b _ h=>M.ro b h)
     . cases h
   . cases h
 . rename_i loc fr' t' m;split at h
   . cases h
   . rename_i ks;split at h
     . cases h
     . rename_i oI;split at h
       . rename_i fr t T l he;split at h
         . rename_i hk;subst hk;split at h
           . rename_i hf;cases h;obtain⟨A,c,css,hA,bS,hlen,dQ⟩:=H.en _ _ he;obtain⟨A',n',c',bW,rfl⟩:=hx.uI;rw [hA] at bW;injection bW with bW;injection bW with e1 e2 e3;subst e1; subst e2; subst e3;have ME:∀ ad,A=some ad->_:=fun ad ha=>M.out ks rfl loc _ ad.block hA (by simpa using oI) (by simp [Rl.cH,ha]);have h1:aj w ρ2 w0.heap.size ro2 (.sl fr _ l) (.slice A (l ()).length c):=by
              refine .sl fr _ l A c css hlen bS.cap.1 bS.rd (fun ad ha _=>(ME ad ha).2) (fun _ ad ha _=>(ME ad ha).1) fun k cs j x v q1 q2 q3 => ?_;exact (dQ k cs j x v q1 q2 q3).plain (fresh:=false) (xD (Gz _ _ _) q2) fun b _ h=>M.ro b h
             exact h1.MD (hv _ (.head _)) (BU hf)
           . cases h
         . cases h
       . cases h
 . split at h
   . rename_i fr t l n fr' t' m hk;subst hk;split at h
     . rename_i hf;cases h;exact (((Bx hx).MD (m:=m) (hv _ (.head _)) (BU hf)).plain (fresh:=false) (by simp [AV.plain]) fun b _ h=>M.ro b h)
     . cases h
   . cases h
 . split at h
   . rename_i fr t l n fr' t' m k hk;subst hk;split at h
     . rename_i hf;cases h;obtain⟨A,c,hn,hl,rfl⟩:=hx.GP;have e1:l ()=m ():=hv _ (.head _);have e2:n ()=k ():=hv _ (.tail _ (.head _));rw [e2];have oH:=((hl.MD (m:=m) e1 (BU hf)).plain (fresh:=false) (ρ' := ρ2) (ro':=ro2) (by simp [AV.plain]) fun b _ h=>M.ro b h)
       rw [e1] at oH;exact .wide fr' _ m k A c (by rw [<- e1,<- e2]; exact hn) oH
     . cases h
   . cases h
 . split at h
   . rename_i loc rm hk;subst hk;obtain⟨A,n',c,hA,rfl⟩:=hx.uI;exact .own _ _ _ _ (M.pl _ _ hA BV)
   . cases h
 . split at h
   . rename_i t loc a b t' rm a' b' hk;obtain⟨rfl,rfl⟩:=hk;cases h;obtain⟨A,n',c,hA,bJ,wg,rfl⟩:=hx.y9;obtain⟨e1,e2⟩:a ()=a' ()/\b ()=b' ():=hv _ (.head _);rw [e1,e2];exact .cW _ _ _ _ _ _ _ (M.pl _ _ hA BV) ⟨oo,oo⟩
   . cases h
 . split at h
   . rename_i loc off rm tr hk;obtain⟨rfl,rfl⟩:=hk;obtain⟨b,hb,rfl⟩:=hx.y8;exact .ptr _ _ _ (M.pl _ _ hb BV)
   . cases h
 . rename_i loc off m tr;have oL:=fun cs us h1 hE=>zy H M cs m vcs us h1 hv hE Hk;split at h
   . cases h
   . rename_i ks;split at h
     . cases h
     . rename_i oI;split at h
       . rename_i T cs he;split at h
         . rename_i ho;subst ho;obtain⟨b,us,hb,hh,hE⟩:=H.en _ _ he;obtain⟨b',bo,rfl⟩:=hx.y8;rw [hb] at bo;injection bo with bo;injection bo with bo;subst bo;have ME:=M.out ks rfl loc _ b hb (by simpa using oI) rfl;have h3:=oL cs us h hE;have:=aj.bP (w:=w) (ρ := ρ2) (base:=w0.heap.size) (ro:=ro2) m off b 0 us ME.2 (pV.1 hh).1 h3.1 (fun j u hj=>by simp [World.cell?,hh,hj]) h3.2;rw [ia] at this;exact this
         . cases h
       . cases h
 . split at h
   . rename_i loc rm hk;subst hk;obtain⟨b,hb,rfl⟩:=hx.Br;exact .mp _ _ (M.pl _ _ hb BV)
   . cases h
 . split at h
   . rename_i l l2 l' l2' hk;obtain⟨rfl,rfl⟩:=hk;obtain⟨b,hb,rfl⟩:=hx.Ra;exact .it _ _ _ (M.pl _ _ hb BV)
   . cases h
 . split at h
   . rename_i l off m tr hk;subst hk;obtain⟨b,o,cs,h1,h2,h3,hE,rfl⟩:=hx.Lv;have:=zy H M l m vcs cs h hv hE Hk;exact .bP _ _ b o cs (M.ro _ h1) h2 this.1 h3 this.2
   . cases h
 . split at h
   . rename_i t loc k off t' rm k' tr hk;obtain⟨rfl,rfl,rfl⟩:=hk;cases h;obtain⟨A,n,c,b,hA,hb,h0,hn,rfl⟩:=hx.Lu;have e:k ()=k' ():=hv _ (.head _);rw [e] at h0 hn ⊢;exact .dv _ _ _ _ _ _ _ _ (M.pl _ _ hA BV) hb h0 hn
   . cases h
 . rename_i l m;obtain⟨vs,rfl,hE⟩:=hx.rf;have:=zy H M l m vcs vs h hv hE Hk;exact .agg _ _ this.1 this.2
 . rename_i l m;obtain⟨vs,rfl,hE⟩:=hx.Lr;have:=zy H M l m vcs vs h hv hE Hk;exact .bp _ _ this.1 this.2
 . split at h
   . rename_i f l g m hk;subst hk;obtain⟨vs,rfl,hE⟩:=hx.Lt;have:=zy H M l m vcs vs h hv hE Hk;exact .fn _ _ _ this.1 this.2
   . cases h
 . cases h
theorem zy(H:bK w0 S0 N B S a w ρ ro)(M:Hj w0 ρ ρ2 ro ro2 p fz):∀ (xs ys:List AV) (vcs:List VC) (vs:List Value),uL fz B S xs ys=some vcs->(∀ c∈vcs,c ())->bn w ρ w0.heap.size ro xs vs->AV.nR p ys=true->bn w ρ2 w0.heap.size ro2 ys vs:=by
 intro xs ys vcs vs h hv hE hu;unfold uL at h;split at h
 . rw [hE.none];exact .nil
 . rename_i x l y m;split at h
   . rename_i p q h4 h5;cases h;obtain⟨v,us,rfl,hx,oC⟩:=hE.head;have h6:=Hi hv;simp only [AV.nR,aD] at hu;exact .cons (SF H M x y p v h4 h6.1 hx hu.1) (zy H M l m q us h5 h6.2 oC hu.2)
   . cases h
 . cases h
end
theorem xZ{p:Nat->Bool}:∀ {l:List AV} {j:Nat} {x:AV},AV.nR p l=true->l[j]? = some x->AV.under p x=true
 | y::l,0,x,h,hx=>by
  simp only [pW,bU] at hx;subst hx;simp only [AV.nR,aD] at h;exact h.1
 | y::l,j+1,x,h,hx=>by
  simp only [AV.nR,aD] at h;exact xZ h.2 (by simpa using hx)
 | [],j,x,_,hx=>by simp at hx
theorem MF(fr:Bool)(t:Tc)(x:Unit->t.el)(p:Nat->Bool):AV.nR p (bf fr t x)=true:=by cases t<;>rfl
theorem aj.zz(h:aj w ρ base ro x v)(hx:AV.under p x=true)(h2:∀ l r,ρ l=some r->p l=true -> ρ2 l=some r):aj w ρ2 base ro x v:=by
 induction h with
 | un=>exact .un _
 | gv=>exact .gv _
 | int=>exact .int _ _
 | lit=>exact .lit _ _
 | bool=>exact .bool _
 | aV=>exact .aV _
 | str=>exact .str _
 | nil=>exact .nil
 | sl fr t l A c css hl hc hr mC df h ih=>exact .sl fr t l A c css hl hc hr mC df fun k cs j y v h1 h2 h3=>ih k cs j y v h1 h2 h3 (xZ (MF _ _ _ _) h2)
 | wide fr t l n A c hn h ih=>exact .wide fr t l n A c hn (ih rfl)
 | bP cells off b o cs hr af hl hc h ih=>exact .bP cells off b o cs hr af hl hc fun j y v h1 h2=>ih j y v h1 h2 (xZ MG h1)
 | ptr l off b h=>exact .ptr _ _ _ (h2 _ _ h zA)
 | fX l off n b h=>exact .fX _ _ _ _ (h2 _ _ h zA)
 | mp l b h=>exact .mp _ _ (h2 _ _ h zA)
 | bL l b h=>exact .bL _ _ (h2 _ _ h zA)
 | it l l2 b h=>exact .it _ _ _ (h2 _ _ h zA)
 | own l A n c h=>exact .own _ _ _ _ (h2 _ _ h zA)
 | dv t l k off A n c b h hA h0 hn=>exact .dv _ _ _ _ _ _ _ _ (h2 _ _ h zA) hA h0 hn
 | cW t l a b A n c h bJ=>exact .cW _ _ _ _ _ _ _ (h2 _ _ h zA) bJ
 | agg l vs hl h ih=>exact .agg _ _ hl fun j y v h1 h2=>ih j y v h1 h2 (xZ MG h1)
 | bp l vs hl h ih=>exact .bp _ _ hl fun j y v h1 h2=>ih j y v h1 h2 (xZ MG h1)
 | fn f dV vs hl h ih=>exact .fn _ _ _ hl fun j y v h1 h2=>ih j y v h1 h2 (xZ MG h1)
theorem sM{α:Type}:∀ (l m:List (Nat × α)) (d:Nat),al (l++m) d=(match al l d with|some x=>some x|none=>al m d)
 | [],m,d=>rfl
 | (k,x)::l,m,d=>by
  rw [qL,cO,cO,sM l m d];split<;>rfl
theorem SG{α β:Type}{l:List (Nat × α)}:∀ {m:List (Nat × β)} {d:Nat} {x : β},ni l m=true->al m d=some x->al l d=none
 | (k,y)::m,d,x,h,hx=>by
  unfold ni at h;simp only [aD,jz] at h;rw [cO] at hx;split at hx
  . rename_i e; subst e; exact h.1
  . exact SG h.2 hx
 | [],_,_,_,hx=>by cases hx
theorem MH{p:Nat->Bool}:∀ {m:List (Nat×AV)} {d:Nat} {x:AV},nh p m=true->al m d=some x->AV.under p x=true
 | (k,y)::m,d,x,h,hx=>by
  unfold nh at h;simp only [aD] at h;rw [cO] at hx;split at hx
  . cases hx; exact h.1
  . exact MH h.2 hx
 | [],_,_,_,hx=>by cases hx
theorem SH{p:Nat->Bool}:∀ {m:List (Nat×En)} {d:Nat} {e:En},ki p m=true->al m d=some e->p d=true/\En.under p e=true
 | (k,e')::m,d,e,h,hx=>by
  unfold ki at h;simp only [aD] at h;rw [cO] at hx;split at hx
  . rename_i hk; subst hk; cases hx; exact h.1
  . exact SH h.2 hx
 | [],_,_,_,hx=>by cases hx
theorem ab0(ag fr:Bool)(t:Tc)(x:Unit->t.el)(n:Nat->Bool):AV.under n (fh ag fr t x)=true:=by
 unfold fh;have h:=MF fr t x n
 cases ag with
 | true=>exact h
 | false =>
  simp only [fk,dK]
  cases hc:bf fr t x with
  | nil=>rfl
  | cons c l =>
   rw [hc] at h
   cases l with
   | nil=>simpa [AV.nR] using h
   | cons c2 l=>rfl
theorem dz.fixed{k:Nat}(h:dz w ρ base ro k e)(hk:p k=true)(hx:En.under p e=true)(hρ:∀ l r,ρ l=some r->p l=true -> ρ' l=some r):dz w ρ' base ro k e:=by
 cases e with
 | box T cells =>
  obtain⟨b,cs,h1,h4,h5⟩:=h;exact⟨b,cs,hρ _ _ h1 hk,h4,h5.1,fun j x v q1 q2=>(h5.2 j x v q1 q2).zz (xZ hx q1) hρ⟩
 | row fr t T m =>
  obtain⟨A,c,css,h1,h2,h3,h5⟩:=h;exact⟨A,c,css,hρ _ _ h1 hk,h2,h3,fun k cs j x v k1 k2 k3=>(h5 k cs j x v k1 k2 k3).zz (xZ (MF _ _ _ _) k2) hρ⟩
 | map fr ag c t T m =>
  obtain⟨b,es,clock,h1,h2,h3,h4⟩:=h;exact⟨b,es,clock,hρ _ _ h1 hk,h2,h3,h4.tv fun x v hx=>hx.zz (ab0 _ _ _ _ _) hρ⟩
 | iter ml c seen left =>
  obtain⟨b,b2,es,clock,since,stamps,c0,h1,h2,h3⟩:=h;exact⟨b,b2,es,clock,since,stamps,c0,hρ _ _ h1 hk,hρ _ _ h2 hx,h3⟩
 | bL ml c key =>
  obtain⟨b,es,clock,s,e,h1,h2,h3⟩:=h;exact⟨b,es,clock,s,e,hρ _ _ h1 hk,hρ _ _ h2 hx,h3⟩
 | fY k=>exact hρ _ _ h hk
 | dead=>obtain⟨r,h⟩:=h; exact⟨r,hρ _ _ h hk⟩
end
end Go.Proofs.YtamjbkaclhgffaaGreat
