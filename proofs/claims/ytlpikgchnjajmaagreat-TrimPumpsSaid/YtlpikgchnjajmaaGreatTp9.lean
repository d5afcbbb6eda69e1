/-
  The abstract run: operations on the run's own memory are sound: slices that are made, written, or grow.
-/
import Derived.Test.YtlpikgchnjajmaaGreatTp8
import Derived.WideKeyEntry
set_option linter.all false
namespace Go.Proofs.YtlpikgchnjajmaaGreat
open Go.RowKit
variable{aft:Array Edge}{es iW:Array MapEntry}{f fr' jI:Bool}{C:Cx}{css news:List (List Value)}{k' key:List Kx}{B0 T T' b base born c clock d e et j kt l l2 loc n nY sz:Nat}{g:Nat->Nat}{o o':Obj}{i s x:Operand}{gd:Option (Nat×Bool)}{A X:Option Addr}{r:Rl}{pos:String}{S' S1 S2:Sx}{t t' t0:Tc}{α:Type}{ty:TypeId}{k:Unit->List Kx}{a0 b0 left:Unit->Nat}{kv v:Value}{w w1:World}{s1 s2 s3 st:wv}
theorem Yo{size:Nat}:∀ (css:List (List Value)),(∀ cs∈css,cs.length=size)->∀ (k off n) (vs) (hk),off+n<=size->vs.length=n ->
 css.flatten.take (k*size+off)++vs++css.flatten.drop (k*size+off+n)=(css.set k (css[k].take off++vs++css[k].drop (off+n))).flatten
 | [],_,k,_,_,_,hk,_,_=>by cases hk
 | cs::css,h,0,off,n,vs,_,jB,hl=>by
  have hc:cs.length=size:=h cs (by simp);simp only [Nu,hZ,H6,HU,List.getElem_cons_zero];rw [ahb oo,ahc oo,gv,gv,gv]
 | cs::css,h,k+1,off,n,vs,hk,jB,hl=>by
  have hc:cs.length=size:=h cs (by simp);have ih:=Yo css (fun c hc=>h c (by simp [hc])) k off n vs (by simpa using hk) jB hl;simp only [H6,Nj,List.getElem_cons_succ];rw [<- ih];have e1:(k+1)*size+off=cs.length+(k*size+off):=by rw [hc,xw]; omega
  rw [e1,rA cs.length,List.take_length_add_append,awZ];simp
theorem ake{size g:Nat}(h:w.heap[g]? = some (.cells css.flatten.toArray e (0,0)))(hl:∀ cs∈css,cs.length=size)(hb:base<=g)(hm:css.length<=maxLen):cy w base e size (some ⟨g,0,none⟩) css.length css:=by
 have hf:=pC css hl;refine⟨⟨hf,.inr ⟨g,css.length,css.flatten.toArray,rfl,hb,h,az _,hm,by simpa using hf,?_⟩⟩,hl⟩;rw [<- hf];exact ahB
theorem Yp:∀ {l:List (Nat×AV)} {k:Nat} {xs:List AV},zW k l=some xs->l.map (·.2)=xs/\l.map (·.1)=List.range' k l.length
 | [],k,xs,h=>by
  simp only [zW,bI] at h;subst h;exact⟨rfl,rfl⟩
 | (i,x)::l,k,xs,h=>by
  unfold zW at h;split at h
  . rename_i hi
    cases hr:zW (k+1) l with
    | none=>rw [hr] at h; cases h
    | some ys =>
     rw [hr] at h;simp only [dv,bI] at h;subst h;obtain⟨h1,h2⟩:=Yp hr;exact⟨by simp [h1],by simp [h2,eq_of_beq hi,Nn]⟩
  . cases h
theorem Yq{size:Nat}:∀ (qs) (css:List (List Value)) (k) (pre z),(qs.map (·.2)).map Value.cells=css.map List.toArray->qs.map (·.1)=List.range' k qs.length->(∀ cs∈css,cs.length=size)->pre.length=k*size->z.length=qs.length*size ->
 Instr.fill (fun i=>some (i*size,size)) (pre++z).toArray qs=some (pre++css.flatten).toArray
 | [],[],k,pre,z,_,_,_,_,hz=>by
  have:z = []:=xp (by simpa using hz);subst this;rfl
 | (i,v)::qs,cs::css,k,pre,z,hc,hi,hl,hp,hz=>by
  simp only [kX,sB,c9,Nn] at hc hi;obtain⟨rfl,hi⟩:=hi;have cH:cs.length=size:=hl cs (by simp);have yq:z.length=qs.length*size+size:=by rw [hz,c9,xw]; omega
  rw [OM (vs:=cs) (by rw [cH]) hc.1 (by rw [ej]; omega)];have e:(pre++z).take (i*size)++cs++(pre++z).drop (i*size+cs.length)=(pre++cs)++z.drop size:=by
   rw [<- hp,List.take_left,awZ,cH]
  rw [e];have:=Yq qs css (i+1) (pre++cs) (z.drop size) hc.2 hi (fun c h=>hl c (by simp [h])) (by rw [ej,hp,cH,xw]; omega) (by rw [iH]; omega);rw [this];simp
 | [],_::_,_,_,_,hc,_,_,_,_=>by simp at hc
 | _::_,[],_,_,_,hc,_,_,_,_=>by simp at hc
theorem PQ{P:Program}{t size bytes m cn ty:Nat}(hE:EI P t e size bytes)(bC:cy w base e size A c css)(B)(hr:Rd w B size X news)(hm:m=news.length)(h1:∀ cs∈news,∀ u∈cs,u.oneCell'=true)(nQ:css.length+m<=maxLen)(vM:(css.length+m)*bytes<=140737488355328)(ir:base<=w.heap.size) :
 ∃ A' c' w',(Builtin.append_ #[t,t] ty #[.slice A css.length c,.slice X m cn]).run P w = .ok (.slice A' (css++news).length c') w'/\cy w' base e size A' c' (css++news)/\w.grownBy w' (A.map (·.block))/\(A'.map (·.block)=A.map (·.block)\/A'.map (·.block)=some w.heap.size/\w.heap.size<w'.heap.size):=by
 rcases X with _|ad
 . have hn:news = []:=by
    rcases news with _|⟨x,l⟩
    . rfl
    . obtain⟨_,_,h,_⟩:=hr 0 x rfl;cases h
   subst hn;subst hm;obtain⟨ht,i,z,hi,hz,hs,hb,vN,h0⟩:=hE;refine⟨A,c,w,?_,by simpa using bC,World.grownBy.refl w _,.inl rfl⟩;rw [qk];exact VH
 . subst hm;obtain⟨ht,i,z,hi,hz,zP,hb,vN,h0⟩:=hE;have hlen:∀ cs∈css++news,cs.length=size:=fun cs hc=>by
    rcases ku.1 hc with h|h
    . exact bC.2 cs h
    . exact hr.len cs h
   obtain⟨v',w',cB,h2,h3,_,h5⟩:=run_append_own_at (P:=P) w base t ty e i z size bytes ht hi hz zP hb vN h0 (.slice A css.length c) css.length css.flatten bC.1 ad news.length cn news.flatten (pC news hr.len)
    (fun j u hu=>by obtain⟨ad',h,hc⟩:=hr.flat j u hu; injection h with h; rw [h]; exact hc)
    (fun u hu=>by obtain⟨cs,aC,ub⟩:=ahC.1 hu; exact h1 cs aC u ub) nQ vM ir
   obtain⟨A',c',rfl,h4⟩:=cy.of (css:=css++news) (by rw [Ng]; exact h2) (by simp) hlen;rw [Oi,Oi] at h5;rw [Oi] at h3;refine⟨A',c',w',cB,h4,h3,h5.imp id fun h=>⟨h,?_⟩⟩;obtain⟨ad2,h6,h7⟩:=kV.1 h;have:=(h4.lt h6).2;omega
theorem Af{P:Program}{i:eS}(ht:fT P T i=true)(hi:i.ti = .slice e sz b):EI P T e sz b/\0<b:=by
 obtain⟨ds,hd,hm⟩:=m9 ht;rw [hi] at hm;cases ds<;>first|(simp [jH] at hm; done)|skip
 rename_i e';simp only [jH,au,b9,aI] at hm;obtain⟨⟨he,h0,hb⟩,h3⟩:=hm;subst he
 cases hj:P.info? e' with
 | none=>rw [hj] at h3; simp at h3
 | some j =>
  rw [hj] at h3;simp only [au,b9] at h3
  cases hz:j.zero with
  | none=>rw [hz] at h3; simp at h3
  | some z =>
   rw [hz] at h3;exact⟨⟨hd,j,z,hj,hz,h3.1.1,h3.1.2,by simpa using h3.2,h0⟩,hb⟩
theorem Yr{m:Nat}(hb:0<b)(h:(n+m)*b<=140737488355328):n+m<=maxLen:=by
 have:(n+m)*1<=(n+m)*b:=tT _ hb;unfold maxLen;omega
section
variable{P:Program}{w w' w0:World}{ρ ρ':Nat->Option Rl}{base:Nat}{ro ro':Nat->Prop}{S0:Pm}{Φ : Pm->Prop}{N:Nat}{B:Bs}{S:Sx}{a:Act}
theorem akf(H:bh w0 S0 N B S a w ρ ro){x:AV}{m:Unit->List t.el}(h:O8 B S t x=some (f,m))(hx:ah w ρ w0.heap.size ro x v) :
 ∃ X c,∃ news,v = .slice X (m ()).length c/\news.length=(m ()).length/\Rd w w.heap.size t.size X news/\∀ (k) (cs) (j:Nat) (y) (u),news[k]? = some cs->(aO f t fun _=>(m ()).getD k t.aa)[j]? = some y->cs[j]? = some u->ah w ρ w0.heap.size ro y u:=by
 unfold O8 at h;split at h
 . simp only [bI,rz] at h;obtain⟨rfl,rfl⟩:=h;exact⟨none,0,[],hx.wb,rfl,Rd.nil _ _ _ _,fun k cs j y u h=>by simp at h⟩
 . split at h
   . rename_i ht;subst ht;simp only [bI,rz] at h;obtain⟨rfl,rfl⟩:=h;obtain⟨A,c,css,hl,hc,hr,_,_,du,rfl⟩:=hx.pI;exact⟨A,c,css,rfl,hl,hr,du⟩
   . cases h
 . split at h
   . rename_i ht;subst ht;simp only [bI,rz] at h;obtain⟨rfl,rfl⟩:=h;obtain⟨A,c,css,hl,hc,hr,_,_,du,rfl⟩:=(zS hx).pI;exact⟨A,c,css,rfl,hl,hr,du⟩
   . cases h
 . split at h
   . rename_i fr t' T l he;split at h
     . rename_i ht;subst ht;simp only [bI,rz] at h;obtain⟨rfl,rfl⟩:=h;obtain⟨A,c,css,hA,bC,hlen,du⟩:=H.en _ _ he;obtain⟨A',n,c',bK,rfl⟩:=hx.sQ;rw [hA] at bK;injection bK with bK;injection bK with e1 e2 e3;subst e1; subst e2; subst e3;exact⟨A,c,css,rfl,hlen,bC.rd,du⟩
     . cases h
   . cases h
 . rename_i t2 loc a b;split at h
   . rename_i fr t' T l he;split at h
     . rename_i ht;subst ht;split at h
       . rename_i aN;simp only [bI,rz] at h;obtain⟨rfl,rfl⟩:=h;obtain⟨A,c,css,hA,bC,hlen,du⟩:=H.en _ _ he;obtain⟨A',n,c',bK,bm,uy,rfl⟩:=hx.xW;rw [hA] at bK;injection bK with bK;injection bK with e1 e2 e3;subst e1; subst e2; subst e3;obtain⟨X,h1,h2⟩:=ajz bC.rd bm oo bC.cap.1;have uG:(((l ()).take (b ())).drop (a ())).length=b () - a ():=by simp; omega
         refine⟨X,_,_,by rw [eq_of_beq aN,h1,uG],by simp [hlen],h2,fun k cs j y u q1 q2 q3 => ?_⟩;rw [lM,eC] at q1;split at q1
         . rename_i aj;refine du (a ()+k) cs j y u q1 ?_ q3;have e:(((l ()).take (b ())).drop (a ())).getD k t'.aa=(l ()).getD (a ()+k) t'.aa:=by
            rw [ba,ba,lM,eC,aw aj]
           rw [<- e];exact q2
         . cases q1
       . cases h
     . cases h
   . cases h
 . cases h
theorem akg(h:t.flat=true)(f)(x):aO (f||t.flat) t x=aO f t x:=by cases t<;>first|rfl|cases h
theorem PR(H:bh w0 S0 N B S a w ρ ro){x:AV}{m:Unit->List t.el}(h:uD B S t x=some (f,m))(hx:ah w ρ w0.heap.size ro x v) :
 ∃ X c,∃ news,v = .slice X (m ()).length c/\news.length=(m ()).length/\Rd w w.heap.size t.size X news/\∀ (k) (cs) (j:Nat) (y) (u),news[k]? = some cs->(aO f t fun _=>(m ()).getD k t.aa)[j]? = some y->cs[j]? = some u->ah w ρ w0.heap.size ro y u:=by
 unfold uD at h;rw [kV] at h;obtain⟨⟨f0,m0⟩,h0,h1⟩:=h;simp only [rz] at h1;obtain⟨rfl,rfl⟩:=h1;obtain⟨X,c,news,q1,q2,q3,q4⟩:=akf H h0 hx;refine⟨X,c,news,q1,q2,q3,?_⟩
 cases ht:t.flat with
 | false=>rw [fM]; exact q4
 | true=>rw [<- ht]; intro k cs j y u hk hy hu; rw [akg ht] at hy; exact q4 k cs j y u hk hy hu
theorem E1{m:Unit->List t.el}(hr:Rd w B0 t.size X news)(hc:∀ (k) (cs) (j:Nat) (y) (u),news[k]? = some cs->(aO f t fun _=>(m ()).getD k t.aa)[j]? = some y->cs[j]? = some u->ah w ρ base ro y u):∀ cs∈news,∀ u∈cs,u.oneCell'=true:=by
 intro cs aC;obtain⟨k,hk⟩:=kW.1 aC;exact PL (aj9 f t _) (ux (hr.len cs aC) fun j y v h1 h2=>hc k cs j y v hk h1 h2)
theorem Ys{g:Bool}{l m:List t.el}(hl:css.length=l.length)(hlen:∀ cs∈css++news,cs.length=t.size)(h1:∀ (k) (cs) (j:Nat) (y) (u),css[k]? = some cs->(aO f t fun _=>l.getD k t.aa)[j]? = some y->cs[j]? = some u->ah w ρ base ro y u)(h2:∀ (k) (cs) (j:Nat) (y) (u),news[k]? = some cs->(aO g t fun _=>m.getD k t.aa)[j]? = some y->cs[j]? = some u->ah w ρ base ro y u) :
 ∀ (k) (cs) (j:Nat) (y) (u),(css++news)[k]? = some cs->(aO (f&&g) t fun _=>(l++m).getD k t.aa)[j]? = some y->cs[j]? = some u->ah w ρ base ro y u:=by
 intro k cs j y u hk hy hu;have aN:=hlen cs (gX hk);rcases cw k css.length with h|h
 . rw [qh h] at hk;rw [show (l++m).getD k t.aa=l.getD k t.aa by simp [ba,qh (show k<l.length from oo)]] at hy;exact (Ad (g:=f&&g) (ux aN fun j y v q1 q2=>h1 k cs j y v hk q1 q2) JT).2 j y u hy hu
 . rw [rq h] at hk;rw [show (l++m).getD k t.aa=m.getD (k - css.length) t.aa by simp [ba,rq (show l.length<=k from oo),hl]] at hy;exact (Ad (g:=f&&g) (ux aN fun j y v q1 q2=>h2 _ cs j y v hk q1 q2) JU).2 j y u hy hu
theorem Yt(v)(h:(Builtin.append_ #[T,T] ty #[a.eval s,a.eval x]).run P w = .ok v w'):(execOp a.eval ⟨some d,.call { callee := .builtin .append,args := #[s,x],argTypes := #[T,T] },ty,pos,aft,gd⟩).run P w = .ok (.value v) w':=by
 exact Yu
theorem cy.akh{size k:Nat}(h:cy w base e size A c css)(hk:k<=css.length):cy w base e size A c (css.take k):=by
 rcases h.block with ⟨rfl,rfl,rfl⟩|⟨g,cur,rfl,_,_,_⟩
 . rw [List.take_nil]; exact h
 . rw [<- jg k css] at h;obtain⟨nQ,h0⟩|⟨g',cap,cur,he,hb,hg,lW,qE,aC,rD⟩:=h.1.2
   . cases nQ
   . simp only [Value.slice.injEq,aR] at he;obtain⟨he,rfl⟩:=he;have hl:=pC (css.take k) (fun cs hc=>h.2 cs (ahn _ hc));refine⟨⟨hl,.inr ⟨g',c,cur,by rw [he],hb,hg,by rw [ej] at lW; omega,qE,aC,?_⟩⟩,fun cs hc=>h.2 cs (ahn _ hc)⟩;have h1:(cur.toList.take ((css.take k++css.drop k).length*size)).take ((css.take k).length*size)=(css.take k++css.drop k).flatten.take ((css.take k).length*size):=by rw [rD]
     rw [DK,DI (xr _ (by rw [ej]; exact Nat.le_add_right _ _)),Ng] at h1;rw [h1,<- hl,List.take_left]
theorem Yv(aA:cS P C.ty)(H:bh w0 S0 N B S a w ρ ro)(hS : Φ S0){k:Nat}{fr:Bool}{l m:Unit->List t.el}(hT:fy C.ty T=some (.slice e sz b))(he:bc B S loc=some (.row fr t e l))(hs:∀ A c,ρ loc=some (.row A (l ()).length c)->k<=(l ()).length/\((∃ g,A=some ⟨g,0,none⟩)\/A=none/\c=0->a.eval s = .slice A k c))(aN:t.size=sz)(hB:ak B.e loc=none)(hq:quiet loc B=true)(hn:uD B S t (bT B S x)=some (f,m))(hp:bP B ⟨(kill loc S).t,(loc,.row (fr&&f) t e fun _=>(l ()).take k++m ())::(kill loc S).e,S.n⟩ N d (.own loc)=some S')(wG:(k+(m ()).length)*b<=140737488355328)(iJ:S0.fx=false) :
 gq P ⟨some d,.call { callee := .builtin .append,args := #[s,x],argTypes := #[T,T] },ty,pos,aft,gd⟩ a w (aP w0 Φ N B S'):=by
 obtain⟨i,_,hi,kG⟩:=eU aA hT;obtain⟨hE,jD⟩:=Af kG hi;subst aN;obtain⟨A,c,css,hA,bC,hlen,du⟩:=H.en _ _ he;obtain⟨lO,hv⟩:=hs A c hA;have hv:=hv (by
  rcases bC.block with ⟨h1,h2,_⟩|⟨g,cur,h1,_⟩
  . exact .inr ⟨h1,h2⟩
  . exact .inl ⟨g,h1⟩)
 have m8:(css.take k).length=k:=by simp; omega
 have nS:((l ()).take k).length=k:=by simp; omega
 have aki:=bC.akh (k:=k) oo;obtain⟨X,cn,news,hx,pL,hr,lW⟩:=PR H hn (H.get x);obtain⟨A2,c2,w2,cB,h2,h3,h4⟩:=PQ (P:=P) (ty:=ty) (cn:=cn) hE aki _ hr pL.symm (E1 hr lW) (by rw [m8]; exact Yr jD wG) (by rw [m8]; exact wG) (e8 (IN _ _) H.from_.size);have Ex:(css.take k++news).length=((l ()).take k++m ()).length:=by rw [ej,ej,m8,nS,pL]
 rw [m8] at cB;have o6:(execOp a.eval ⟨some d,.call { callee := .builtin .append,args := #[s,x],argTypes := #[T,T] },ty,pos,aft,gd⟩).run P w = .ok (.value (.slice A2 ((l ()).take k++m ()).length c2)) w2:=by
  refine Yt _ ?_;rw [hv,hx,cB,Ex]
 have akj:∀ (k2:Nat) (cs:List Value) (j:Nat) (y:AV) (u:Value),(css.take k)[k2]? = some cs->(aO fr t fun _=>((l ()).take k).getD k2 t.aa)[j]? = some y->cs[j]? = some u->ah w ρ w0.heap.size ro y u:=fun k2 cs j y u q1 q2 q3=>by
  rw [eC] at q1;split at q1
  . rename_i aj;refine du k2 cs j y u q1 ?_ q3;have e:((l ()).take k).getD k2 t.aa=(l ()).getD k2 t.aa:=by rw [ba,ba,eC,aw aj]
    rw [<- e];exact q2
  . cases q1
 have hold:∀ r',ρ loc=some r'->r' = .row A (l ()).length c:=fun r' h=>by rw [hA] at h; injection h with h; exact h.symm
 have hf:qy S0 w0 w2:=H.from_.grown h3 fun k hk=>H.Ae hA hk k rfl;have gi:∀ q,q<w.heap.size->(∀ r',ρ loc=some r'->r'.ca≠some q)->w2.heap[q]? = w.heap[q]? := fun q hq aT=>h3.block q hq fun hc=>aT _ hA hc.symm;have akk:∀ q,ro q->q<w.heap.size->w2.heap[q]? = w.heap[q]? := fun q hq aj=>gi q aj fun r' h1 h2=>(H.own loc r' q h1 h2).2.1 hq;have hk:=XR (S:=S) hq;have ng:loc<S.n:=by
  exact PS
 have zY:∀ y u,ah w ρ w0.heap.size ro y u->AV.has loc y=false->ah w2 (fe ρ loc (.row A2 ((l ()).take k++m ()).length c2)) w0.heap.size ro y u:=fun y u hyu hh=>(hyu.move (ρ':=fe ρ loc (.row A2 ((l ()).take k++m ()).length c2)) hh fun l' r' cp hc=>by
  unfold fe;split
  . rename_i e0;subst e0;rcases hc with hc|hc
    . exact absurd rfl hc
    . rw [hold _ cp] at hc; cases hc
  . exact cp).mono akk (Ext.refl _) (az _) fun _ h=>h
 have Cm:=Ys (w:=w) (ρ := ρ) (base:=w0.heap.size) (ro:=ro) (f:=fr) (g:=f) (l:=(l ()).take k) (m:=m ()) (by rw [m8,nS]) (fun cs hc=>h2.2 cs hc) akj lW;have H2:=(H.XQ loc).oY (loc:=loc) (n:=S.n) (r := .row A2 ((l ()).take k++m ()).length c2) (e := .row (fr&&f) t e fun _=>(l ()).take k++m ()) hf h3.size gi (fun q pK=>by
  rcases h4 with h4|⟨h4,h5⟩
  . exact .inl ⟨_,hA,by rw [<- pK]; exact h4.symm⟩
  . have kH:A2.map (·.block)=some q:=pK;rw [h4] at kH;injection kH with kH;subst kH;exact .inr ⟨az _,h5⟩) hB (az _) ng (.inr ⟨hk.1,hk.2,fun r' l4=>by rw [hold _ l4,iJ]; rfl⟩) (.inl fun b' aW=>by cases hold _ aW) (by
  exact⟨A2,c2,css.take k++news,iL _ _ _,h2.Bv (ai3 _ _ _),Ex,fun k cs j y u q1 q2 q3=>zY y u (Cm k cs j y u q1 q2 q3) (mv (vZ _ t _ loc) q2)⟩)
 exact Yw
theorem akm(aA:cS P C.ty)(H:aP w0 Φ N B S a w){fr:Bool}{l m:Unit->List t.el}(hT:fy C.ty T=some (.slice e sz b))(hs:bT B S s = .own loc)(he:bc B S loc=some (.row fr t e l))(aN:t.size=sz)(hB:ak B.e loc=none)(hq:quiet loc B=true)(hn:uD B S t (bT B S x)=some (f,m))(hp:bP B ⟨(kill loc S).t,(loc,.row (fr&&f) t e fun _=>l ()++m ())::(kill loc S).e,S.n⟩ N d (.own loc)=some S')(wG:((l ()).length+(m ()).length)*b<=140737488355328)(iJ:∀ S0,Φ S0->S0.fx=false) :
 gq P ⟨some d,.call { callee := .builtin .append,args := #[s,x],argTypes := #[T,T] },ty,pos,aft,gd⟩ a w (aP w0 Φ N B S'):=by
 obtain⟨S0,hS,ρ,ro,H⟩:=H;have has:=H.get s;rw [hs] at has;obtain⟨A',n,c',bK,hv⟩:=has.sQ;have e:(fun (_:Unit)=>l ()++m ())=fun _=>(l ()).take (l ()).length++m ():=by funext u; rw [ahB]
 refine Yv aA H hS (k:=(l ()).length) hT he (fun A c hA=>⟨az _,fun _ => ?_⟩) aN hB hq hn (by rw [<- e]; exact hp) wG (iJ S0 hS);rw [hA] at bK;injection bK with bK;injection bK with e1 e2 e3;subst e1; subst e2; subst e3;exact hv
theorem akn(aA:cS P C.ty)(H:aP w0 Φ N B S a w){fr:Bool}{l m:Unit->List t.el}(hT:fy C.ty T=some (.slice e sz b))(hs:bT B S s = .cE t0 loc a0 b0)(he:bc B S loc=some (.row fr t e l))(aN:t.size=sz)(hB:ak B.e loc=none)(hq:quiet loc B=true)(hn:uD B S t (bT B S x)=some (f,m))(hp:bP B ⟨(kill loc S).t,(loc,.row (fr&&f) t e fun _=>(l ()).take (b0 ())++m ())::(kill loc S).e,S.n⟩ N d (.own loc)=some S')(h0:a0 ()=0)(wG:(b0 ()+(m ()).length)*b<=140737488355328)(iJ:∀ S0,Φ S0->S0.fx=false) :
 gq P ⟨some d,.call { callee := .builtin .append,args := #[s,x],argTypes := #[T,T] },ty,pos,aft,gd⟩ a w (aP w0 Φ N B S'):=by
 obtain⟨S0,hS,ρ,ro,H⟩:=H;have has:=H.get s;rw [hs] at has;obtain⟨A',n,c',bK,bm,uy,hv⟩:=has.xW;refine Yv aA H hS (k:=b0 ()) hT he (fun A c hA => ?_) aN hB hq hn hp wG (iJ S0 hS);rw [hA] at bK;injection bK with bK;injection bK with e1 e2 e3;subst e1; subst e2; subst e3;refine⟨uy,fun hg => ?_⟩;rw [hv,h0];rcases hg with ⟨g,rfl⟩|⟨rfl,rfl⟩
 . simp [sliced,sE]
 . simp [sliced]
theorem ako(aA:cS P C.ty)(H:aP w0 Φ N B S a w){m:Unit->List t.el}(hT:fy C.ty T=some (.slice e sz b))(hs:bT B S s = .nil)(aN:t.size=sz)(hB:ak B.e S.n=none)(hn:uD B S t (bT B S x)=some (f,m))(hp:bP B ⟨S.t,(S.n,.row f t e m)::S.e,S.n+1⟩ N d (.own S.n)=some S')(wG:(0+(m ()).length)*b<=140737488355328) :
 gq P ⟨some d,.call { callee := .builtin .append,args := #[s,x],argTypes := #[T,T] },ty,pos,aft,gd⟩ a w (aP w0 Φ N B S'):=by
 obtain⟨S0,hS,ρ,ro,H⟩:=H;obtain⟨i,_,hi,kG⟩:=eU aA hT;obtain⟨hE,jD⟩:=Af kG hi;subst aN;have has:=H.get s;rw [hs] at has;obtain⟨X,cn,news,hx,pL,hr,lW⟩:=PR H hn (H.get x);obtain⟨A2,c2,w2,cB,h2,h3,h4⟩:=PQ (P:=P) (ty:=ty) (cn:=cn) hE (cy.nil w (rb f w0.heap.size) e t.size) _ hr pL.symm (E1 hr lW) (by simpa using Yr jD wG) (by simpa using wG) (e8 (IN _ _) H.from_.size);have o6:(execOp a.eval ⟨some d,.call { callee := .builtin .append,args := #[s,x],argTypes := #[T,T] },ty,pos,aft,gd⟩).run P w = .ok (.value (.slice A2 (m ()).length c2)) w2:=by
  refine Yt _ ?_;rw [has.wb,hx];refine Eq.trans cB ?_;rw [rv,pL]
 have fq:=H.fresh S.n (az _);have gi:∀ q,q<w.heap.size->w2.heap[q]? = w.heap[q]? := fun q hq=>h3.block q hq (by simp);have hf:qy S0 w0 w2:=H.from_.grown h3 fun k hk=>by cases hk
 have H2:=H.oY (loc:=S.n) (n:=S.n+1) (r := .row A2 (m ()).length c2) (e := .row f t e m) hf h3.size (fun q hq _=>gi q hq) (fun q pK=>by
  have kH:A2.map (·.block)=some q:=pK;rcases h4 with h4|⟨h4,h5⟩
  . rw [h4] at kH; cases kH
  . rw [h4] at kH;injection kH with kH;subst kH;exact .inr ⟨az _,h5⟩) hB (Bu _) (zp _) (.inl (qD fq)) (.inl fun b hb=>by rw [fq] at hb; cases hb) (by
  exact⟨A2,c2,news,iL _ _ _,by simpa using h2,pL,fun k cs j y u q1 q2 q3=>(lW k cs j y u q1 q2 q3).mono (fun q _ aj=>gi q aj) (qD fq) (az _) fun _ h=>h⟩)
 exact Yw
end
open Go.MapKept
open Go.ChangeMaps (setBlock)
theorem akp{l:List MapEntry}(h:l.Pairwise fun x y=>x.key≠y.key){i:Nat}{x y:MapEntry}(hi:l[i]? = some x)(hj:l[j]? = some y)(aT:i≠j):x.key≠y.key:=by
 obtain⟨li,rfl⟩:=cM.1 hi;obtain⟨lj,rfl⟩:=cM.1 hj;rcases Nat.lt_or_gt_of_ne aT with h1|h1
 . exact xq.1 h i j li lj h1
 . exact fun e=>xq.1 h j i lj li h1 e.symm
section
variable{P:Program}{w w' w0:World}{ρ ρ':Nat->Option Rl}{base:Nat}{ro ro':Nat->Prop}{S0:Pm}{Φ : Pm->Prop}{N:Nat}{B:Bs}{S:Sx}{a:Act}{fr ag:Bool}{c:Kc}{t:Tc}
theorem Yx(m)(k)(x : α):fl m k x k=some x:=by unfold fl; rw [aw rfl]
theorem JV(m){k:List Kx}(x : α)(h:k'≠k):fl m k x k'=m k':=by unfold fl; rw [ar h]
theorem lU.push{m:List Kx->Option t.el}{val:Value}{x:t.el}(h:lU w ρ base ro fr ag c t m es)(hn:∀ e∈es.toList,¬ gE c e.key key)(hk:gE c kv key)(hv:ah w ρ base ro (eD ag fr t fun _=>x) val):lU w ρ base ro fr ag c t (fl m key x) (es.push { key:=kv,val:=val,born:=born }):=by
 refine⟨fun e he => ?_,fun jj x' hf hm => ?_⟩
 . simp only [Array.toList_push,ku,kq] at he;rcases he with he|rfl
   . obtain⟨jj,x',h1,h2,h3⟩:=h.1 e he;refine⟨jj,x',h1,?_,h3⟩;rw [JV _ _ (fun e1=>by subst e1; exact hn e he h1)];exact h2
   . exact⟨key,x,hk,Yx _ _ _,hv⟩
 . by_cases e1:jj=key
   . subst e1;exact⟨⟨kv,val,born⟩,by simp,hk⟩
   . rw [JV _ _ e1] at hm;obtain⟨e,he,h1⟩:=h.2 jj x' hf hm;exact⟨e,by simp only [Array.toList_push,ku]; exact .inl he,h1⟩
theorem lU.modify{m:List Kx->Option t.el}{e:MapEntry}{f:MapEntry->MapEntry}{x:t.el}(h:lU w ρ base ro fr ag c t m es)(hs:Stamped es clock)(hj:es[j]? = some e)(hk:gE c e.key key)(zD:(f e).key=e.key)(hv:ah w ρ base ro (eD ag fr t fun _=>x) (f e).val):lU w ρ base ro fr ag c t (fl m key x) (es.modify j f):=by
 have gQ:es.toList[j]? = some e:=by simpa using hj
 have hl:(es.modify j f).toList=es.toList.set j (f e):=by rw [Array.toList_modify,ChangeMaps.modify_eq_set _ _ _ _ gQ]
 have hst:=((stamped_iff es clock).1 hs).2.2;have ib:=(cM.1 gQ).1;have akq:∀ i e',es.toList[i]? = some e'->i≠j->∀ jj,gE c e'.key jj->jj≠key:=by
  intro i e' hi aT jj fP e1;subst e1;exact akp hst hi gQ aT (fP.1.trans hk.1.symm)
 refine⟨fun e' he => ?_,fun jj x' hf hm => ?_⟩
 . rw [hl] at he;obtain⟨i,hi⟩:=kW.1 he;rw [ru] at hi;split at hi
   . rename_i e1;subst e1
     first|rw [aw ib] at hi|skip
     injection hi with hi;subst hi;exact⟨key,x,by rw [zD]; exact hk,Yx _ _ _,hv⟩
   . rename_i aT;obtain⟨jj,x',h1,h2,h3⟩:=h.1 e' (gX hi);refine⟨jj,x',h1,?_,h3⟩;rw [JV _ _ (akq i e' hi (fun e1=>aT e1.symm) jj h1)];exact h2
 . rw [hl];by_cases e1:jj=key
   . subst e1;exact⟨f e,kW.2 ⟨j,by rw [ru,aw rfl,aw ib]⟩,by rw [zD]; exact hk⟩
   . rw [JV _ _ e1] at hm;obtain⟨e',he,h1⟩:=h.2 jj x' hf hm;obtain⟨i,hi⟩:=kW.1 he;have aT:j≠i:=fun e2=>by
      subst e2;rw [gQ] at hi;injection hi with hi;subst hi;exact e1 (I9 h1 hk)
     exact⟨e',kW.2 ⟨i,by rw [ru,ar aT]; exact hi⟩,h1⟩
theorem JW(w)(b)(o):(setBlock w b o).heap.size=w.heap.size:=by
 unfold setBlock;simp
theorem Cn(w)(b)(o){k:Nat}(h:k≠b):(setBlock w b o).heap[k]? = w.heap[k]? := by
 unfold setBlock;exact Array.getElem?_setIfInBounds_ne (fun e=>h e.symm)
theorem PT(h:w.heap[b]? = some o'):(setBlock w b o).heap[b]? = some o:=by
 have:=(jz.1 h).1;unfold setBlock;simp [this]
theorem Yy(w:World)(b)(o):w.grownBy (setBlock w b o) (some b) :=
 ⟨rfl,rfl,rfl,by rw [JW]; exact az _,fun k _ hk=>Cn w b o fun e=>hk (by rw [e])⟩
theorem bh.lt(H:bh w0 S0 N B S a w ρ ro)(h : ρ loc=some r):loc<S.n:=by
 rcases cw loc S.n with h1|h1
 . exact h1
 . have:=H.fresh loc h1; rw [h] at this; cases this
theorem bh.JX(H:bh w0 S0 N B S a w ρ ro){m:Unit->List Kx->Option t.el}(hb : ρ loc=some (.mp b))(hh:w.heap[b]? = some o)(hB:ak B.e loc=none)(hr:rR loc B.e=true)(hs:Stamped iW nY)(hm:lU w ρ w0.heap.size ro fr ag c t (m ()) iW) :
 bh w0 S0 N B ⟨S.t,(loc,.map fr ag c t T m)::lA loc S.e,S.n⟩ a (setBlock w b (.map iW nY)) ρ ro:=by
 obtain⟨HD,hd⟩:=H.dropped (loc:=loc) hr;have Ag:=(H.own loc _ b hb rfl).2.1;have hw:∀ b',ro b'->b'<w.heap.size->(setBlock w b (.map iW nY)).heap[b']? = w.heap[b']? := fun b' aW _=>Cn _ _ _ fun e=>Ag (e▸aW);have H2:=HD.oY (w':=setBlock w b (.map iW nY)) (loc:=loc) (n:=S.n) (r := .mp b) (e := .map fr ag c t T m) (H.from_.grown (Yy _ _ _) (H.Ae hb rfl)) (by rw [JW]; exact az _) (fun b' _ aT=>Cn _ _ _ fun e=>aT _ hb (by rw [e]; rfl)) (fun b' aW => .inl ⟨_,hb,aW⟩) hB (az _) (H.lt hb) (.inl PO) (.inr hd) (by
  refine⟨b,iW,nY,iL _ _ _,PT hh,hs,?_⟩;rw [sX hb];exact hm.rQ fun x v hx=>hx.mono hw (Ext.refl _) (az _) fun _ h=>h)
 rw [sX hb] at H2;exact H2
theorem akr(H:aP w0 Φ N B S a w)(hB:ak B.e S.n=none)(hp:bP B ⟨S.t,(S.n,.map true ag c t T fun _ _=>none)::S.e,S.n+1⟩ N d (.mp S.n)=some S') :
 gq P ⟨some d,.makeMap T none,ty,pos,aft,gd⟩ a w (aP w0 Φ N B S'):=by
 obtain⟨S0,hS,ρ,ro,H⟩:=H;have fq:=H.fresh S.n (az _);have gi:∀ b,b<w.heap.size->(w.alloc (.map #[] 0)).heap[b]? = w.heap[b]? := fun b hb=>qj w _ b hb;have H2:=H.oY (w':=w.alloc (.map #[] 0)) (loc:=S.n) (n:=S.n+1) (r := .mp w.heap.size) (e := .map true ag c t T fun _ _=>none) (H.from_.alloc _) (by simp) (fun b hb _=>gi b hb) (fun b hb=>by
  injection hb with hb;subst hb;exact .inr ⟨az _,by simp⟩) hB (Bu _) (zp _) (.inl (qD fq)) (.inl fun b hb=>by rw [fq] at hb; cases hb) ⟨w.heap.size,#[],0,iL _ _ _,ry w _,stamped_empty 0,fun e he=>by simp at he,fun key x _ hm=>by cases hm⟩
 refine .inl ⟨.map (some w.heap.size),_,?_,S0,hS,_,_,H2.put hp (.mp _ _ (iL _ _ _))⟩;unfold execOp;simp only [Instr.makeMap,bt,bU];rfl
theorem Yz{x:AV}{e:Unit->t.el}(h:Cb ag t x=some (f,e))(hx:ah w ρ base ro x v):ah w ρ base ro (eD ag f t e) v:=by
 unfold Cb at h;split at h
 . rename_i hc;simp only [au,gz,b9] at hc;obtain⟨vs,h1,h2,h3⟩:=JS h hx;unfold eD
   cases ag with
   | true =>
    simp only [eH];have oQ:∃ l,x = .agg l:=by
     have:=hc.2;cases x<;>first|exact⟨_,rfl⟩|simp [O9] at this
    obtain⟨l,rfl⟩:=oQ;obtain⟨us,rfl,_⟩:=hx.oS;have e1:us=vs:=Nm h1;subst e1;exact .agg _ _ h3.1 h3.2
   | false =>
    simp only [dS,dB];have PU:∀ l,x ≠ .agg l:=fun l e1=>by subst e1; simp [O9] at hc
    have hnu:x ≠ .un:=fun e1=>by subst e1; simp [wy,cellsOf] at h
    have gG:=OL hx PU hnu;rw [gG] at h1;have pS:([v]:List Value).toArray=vs.toArray:=h1;have e1:=Nm pS;subst e1;have hl:=h3.1
    cases cH:aO f t e with
    | nil=>rw [cH] at hl; cases hl
    | cons y l =>
     rw [cH] at hl h3
     cases l with
     | cons y2 l=>simp at hl
     | nil=>exact h3.2 0 y v rfl rfl
 . cases h
theorem lU.less{m:List Kx->Option t.el}(h:lU w ρ base ro fr ag c t m es)(hf:fr'=true->fr=true):lU w ρ base ro fr' ag c t m es :=
 ⟨fun e he=>by obtain⟨key,x,h1,h2,h3⟩:=h.1 e he; exact⟨key,x,h1,h2,Ew h3 hf⟩,h.2⟩
theorem akt(aA:cS P C.ty)(H:aP w0 Φ N B S a w){v:Operand}{m:Unit->List Kx->Option t.el}{e:Unit->t.el}(hT:fy C.ty T=some (.map kt et c t ag))(hx:bT B S x = .mp loc)(he:bc B S loc=some (.map fr ag c t T' m))(hk:xU c (bT B S i)=some k)(gR:Cb ag t (bT B S v)=some (f,e))(hB:ak B.e loc=none)(hr:rR loc B.e=true) :
 gq P ⟨none,.mapUpdate T x i v,ty,pos,aft,gd⟩ a w (aP w0 Φ N B ⟨S.t,(loc,.map (fr&&f) ag c t T' fun _=>fl (m ()) (k ()) (e ()))::lA loc S.e,S.n⟩):=by
 obtain⟨S0,hS,ρ,ro,H⟩:=H;obtain⟨ti,_,hi,kG⟩:=eU aA hT;obtain⟨hu,m8,_,_⟩:=I8 (w:=w) (ρ := ρ) (base:=w0.heap.size) (ro:=ro) kG hi;have ke:=H.get x;rw [hx] at ke;obtain⟨b,hb,mG⟩:=ke.zN;obtain⟨b',es,clock,aW,hh,hst,hm⟩:=H.en _ _ he;rw [hb] at aW;injection aW with aW;injection aW with aW;subst aW;have iB:=OQ hk (H.get i);have rP:=Ew (fr':=fr&&f) (Yz gR (H.get v)) JU;have pJ:=hm.less (fr':=fr&&f) JT;have cB:∀ w2,(Instr.mapUpdate T (.map (some b)) (a.eval i) (a.eval v)).run P w = .ok () w2->(execOp a.eval ⟨none,.mapUpdate T x i v,ty,pos,aft,gd⟩).run P w = .ok .skip w2:=by
  intro w2 h;unfold execOp;simp only [mG,bt,h,bM,bU]
 rcases hm.find (P:=P) m8 iB with ⟨h1,h2,h3⟩|⟨j,e0,x0,h1,h2,h3,h4,h5⟩
 . refine .inr (.inl ⟨_,cB (setBlock w b (.map (es.push ⟨a.eval i,a.eval v,clock⟩) (clock+1))) ?_,S0,hS,ρ,ro,?_⟩)
   . have oq:=IF (P:=P) (w:=w) m8 iB.2 false;rw [<- iB.1] at oq;simp only [Instr.mapUpdate,bt,ql hu,bM,MapKept.run_getObj_map hh,oq,h1,MapKept.run_setObj_map _ hh];rfl
   . exact H.JX hb hh hB hr (stamped_push hst fun y hy e1=>h3 y hy (e1▸iB)) (pJ.push h3 iB rP)
 . have wH:e0.key=a.eval i:=h3.1.trans iB.1.symm;refine .inr (.inl ⟨_,cB (setBlock w b (.map (es.modify j fun e' => { e' with key:=a.eval i,val:=a.eval v }) clock)) ?_,S0,hS,ρ,ro,?_⟩)
   . have oq:=IF (P:=P) (w:=w) m8 iB.2 false;have nk:=WI (P:=P) (w:=w) iB.2;rw [<- iB.1] at oq nk;simp only [Instr.mapUpdate,bt,ql hu,bM,MapKept.run_getObj_map hh,oq,h1,h2,dv,gZ,wH,nk,MapKept.run_setObj_map _ hh];rfl
   . exact H.JX hb hh hB hr (stamped_modify hst _ _ (fun _ _=>rfl) fun e' _ h6=>by rw [h2] at h6; injection h6 with h6; subst h6; exact wH.symm) (pJ.modify hst h2 h3 wH.symm rP)
theorem YA{x:AV}(h:bP B S N d x=some S'):S'=⟨(d,x)::S.t,S.e,S.n⟩:=by
 unfold bP at h;split at h
 . cases h
 . cases h; rfl
theorem JY{x:AV}{e:List (Nat×En)}(h:bP B S N d x=some S'):bP B ⟨S.t,e,n⟩ N d x=some ⟨(d,x)::S.t,e,n⟩:=by
 unfold bP at h ⊢;split at h
 . cases h
 . rename_i hc;simp only [hc,dS,dB]
theorem aku(aA:cS P C.ty)(H:aP w0 Φ N B S a w){m:Unit->List Kx->Option t.el}(hT:fy C.ty T=some (.map kt et c t ag))(hx:bT B S x = .mp loc)(he:bc B S loc=some (.map fr ag c t T' m))(hk:xU c (bT B S i)=some k)(hB:ak B.e loc=none)(hr:rR loc B.e=true)(PV:ak B.e S.n=none)(hp:bP B ⟨S.t,(S.n,.bq loc c k)::(loc,.map fr ag c t T' fun _=>fl (m ()) (k ()) ((m () (k ())).getD t.aa))::lA loc S.e,S.n+1⟩ N d (.aU [eD ag fr t fun _=>(m () (k ())).getD t.aa,.bq S.n])=some S') :
 gq P ⟨some d,.mapEntry T x i,ty,pos,aft,gd⟩ a w (aP w0 Φ N B S'):=by
 obtain⟨S0,hS,ρ,ro,H⟩:=H;obtain⟨ti,_,hi,kG⟩:=eU aA hT;obtain⟨hu,m8,_,jt,z,hj,hz,OT⟩:=I8 (w:=w) (ρ := ρ) (base:=w0.heap.size) (ro:=ro) kG hi;have ke:=H.get x;rw [hx] at ke;obtain⟨b,hb,mG⟩:=ke.zN;obtain⟨b',es,clock,aW,hh,hst,hm⟩:=H.en _ _ he;rw [hb] at aW;injection aW with aW;injection aW with aW;subst aW;have iB:=OQ hk (H.get i);have fA:∀ (iW:Array MapEntry) (nY s:Nat) (u:Value),(Instr.mapEntry T (.map (some b)) (a.eval i)).run P w = .ok (.tuple #[u,goInt s]) (setBlock w b (.map iW nY))->ah w ρ w0.heap.size ro (eD ag fr t fun _=>(m () (k ())).getD t.aa) u->Stamped iW nY->lU w ρ w0.heap.size ro fr ag c t (fl (m ()) (k ()) ((m () (k ())).getD t.aa)) iW->(∃ e∈iW.toList,gE c e.key (k ())/\e.born=s)->gq P ⟨some d,.mapEntry T x i,ty,pos,aft,gd⟩ a w (aP w0 Φ N B S'):=by
  intro iW nY s u cB ub zP pJ lS;have H1:=H.JX (T:=T') (m:=fun _=>fl (m ()) (k ()) ((m () (k ())).getD t.aa)) hb hh hB hr zP pJ;have fq:=H1.fresh S.n (az _);obtain⟨e,jN,qF,he3⟩:=lS;have H2:=H1.oY (w':=setBlock w b (.map iW nY)) (loc:=S.n) (n:=S.n+1) (r := .bq s) (e := .bq loc c k) H1.from_ (az _) (fun _ _ _=>rfl) (fun b hb=>by cases hb) PV (Bu _) (zp _) (.inl (qD fq)) (.inl fun b hb=>by rw [fq] at hb; cases hb) ⟨b,iW,nY,s,e,iL _ _ _,qD fq _ _ hb,PT hh,jN,qF,he3⟩;have Ag:=(H.own loc _ b hb rfl).2.1;have NZ:ah (setBlock w b (.map iW nY)) (fe ρ S.n (.bq s)) w0.heap.size ro (eD ag fr t fun _=>(m () (k ())).getD t.aa) u:=ub.mono (fun b' aW _=>Cn _ _ _ fun e=>Ag (e▸aW)) (qD fq) (az _) fun _ h=>h;have hE:aQ (setBlock w b (.map iW nY)) (fe ρ S.n (.bq s)) w0.heap.size ro [eD ag fr t fun _=>(m () (k ())).getD t.aa,.bq S.n] [u,goInt s] := .cons NZ (.cons (.bq _ _ (iL _ _ _)) .nil);refine .inl ⟨.tuple #[u,goInt s],_,?_,S0,hS,_,_,H2.put hp (.aU _ _ hE.1 hE.2)⟩;unfold execOp;simp only [mG,bt,cB,bM,bU]
 have oq:=IF (P:=P) (w:=w) m8 iB.2 false;have nk:=WI (P:=P) (w:=w) iB.2;rw [<- iB.1] at oq nk;rcases hm.find (P:=P) m8 iB with ⟨h1,h2,h3⟩|⟨j,e0,x0,h1,h2,h3,h4,h5⟩
 . have hd:(m () (k ())).getD t.aa=t.aa:=by rw [h2]; rfl
   have PW:ah w ρ w0.heap.size ro (eD ag fr t fun _=>t.aa) z:=Ew OT fun _=>rfl;refine fA (es.push ⟨a.eval i,z,clock⟩) (clock+1) clock z ?_ (by rw [hd]; exact PW) (stamped_push hst fun y hy e1=>h3 y hy (e1▸iB)) (by rw [hd]; exact hm.push h3 iB PW) ⟨⟨a.eval i,z,clock⟩,by simp,iB,rfl⟩;simp only [Instr.mapEntry,bt,ql hu,bM,MapKept.run_getObj_map hh,oq,h1,Xk hj hz,MapKept.run_setObj_map _ hh,bU];rfl
 . have hd:(m () (k ())).getD t.aa=x0:=by rw [h4]; rfl
   have wH:e0.key=a.eval i:=h3.1.trans iB.1.symm;have gQ:es.toList[j]? = some e0:=by simpa using h2
   have ib:=(cM.1 gQ).1;refine fA (es.modify j fun e' => { e' with key:=a.eval i }) clock e0.born e0.val ?_ (by rw [hd]; exact h5) (stamped_modify hst _ _ (fun _ _=>rfl) fun e' _ h6=>by rw [h2] at h6; injection h6 with h6; subst h6; exact wH.symm) (by rw [hd]; exact hm.modify hst h2 h3 wH.symm h5) ⟨{ e0 with key:=a.eval i },?_,iB,rfl⟩
   . simp only [Instr.mapEntry,bt,ql hu,bM,MapKept.run_getObj_map hh,oq,h1,h2,dv,gZ,wH,nk,MapKept.run_setObj_map _ hh,bU];rfl
   . rw [Array.toList_modify,ChangeMaps.modify_eq_set _ _ _ _ gQ];exact kW.2 ⟨j,by rw [ru,aw rfl,aw ib]⟩
theorem akw(H:aP w0 Φ N B S a w){v:Operand}{m:Unit->List Kx->Option t.el}{e:Unit->t.el}(hx:bT B S x = .mp loc)(hs:bT B S s = .bq l2)(he:bc B S loc=some (.map fr ag c t T' m))(qF:bc B S l2=some (.bq loc c k))(gR:Cb ag t (bT B S v)=some (f,e))(hB:ak B.e loc=none)(hr:rR loc B.e=true) :
 gq P ⟨none,.entryStore T x s v,ty,pos,aft,gd⟩ a w (aP w0 Φ N B ⟨S.t,(loc,.map (fr&&f) ag c t T' fun _=>fl (m ()) (k ()) (e ()))::lA loc S.e,S.n⟩):=by
 obtain⟨S0,hS,ρ,ro,H⟩:=H;have ke:=H.get x;rw [hx] at ke;obtain⟨b,hb,mG⟩:=ke.zN;have has:=H.get s;rw [hs] at has;obtain⟨sn,JZ,oT⟩:=has.ai9;obtain⟨b',es,clock,aW,hh,hst,hm⟩:=H.en _ _ he;rw [hb] at aW;injection aW with aW;injection aW with aW;subst aW;obtain⟨b',iW,nY,sn',e0,h1,h2,h3,h4,h5,h6⟩:=H.en _ _ qF;rw [JZ] at h1;injection h1 with h1;injection h1 with h1;subst h1;rw [hb] at h2;injection h2 with h2;injection h2 with h2;subst h2;rw [hh] at h3;injection h3 with h3;injection h3 with q1 q2;subst q1; subst q2; subst h6;have rP:=Ew (fr':=fr&&f) (Yz gR (H.get v)) JU;have pJ:=hm.less (fr':=fr&&f) JT;obtain⟨j,hj⟩:=kW.1 h4;have gQ:es[j]? = some e0:=by simpa using hj
 have xZ:=(stamped_iff es clock).1 hst;have akx:=WideElems.findIdx_born xZ.2.1 hj;have aky:es.findIdx? (fun e=>((e.born:Nat):Int)==((e0.born:Nat):Int))=some j:=by rw [WideElems.findIdx_arr]; exact akx
 refine .inr (.inl ⟨setBlock w b (.map (es.modify j fun e' => { e' with val:=a.eval v }) clock),?_,S0,hS,ρ,ro,H.JX hb hh hB hr (stamped_modify hst _ _ (fun _ _=>rfl) fun _ _ _=>rfl) (pJ.modify hst gQ h5 rfl rP)⟩);unfold execOp;have hai:(asInt (goInt (e0.born:Int))).run P w = .ok (e0.born:Int) w:=rfl;simp only [mG,oT,Instr.entryStore,bt,MapKept.run_getObj_map hh,bM,bU,hai,aky,MapKept.run_setObj_map _ hh];rfl
end
section
variable{P:Program}{w w' w0:World}{ρ ρ':Nat->Option Rl}{base:Nat}{ro ro':Nat->Prop}{S0:Pm}{Φ : Pm->Prop}{N:Nat}{B:Bs}{S:Sx}{a:Act}{fr ag:Bool}{c:Kc}{t:Tc}{K:Sx->Fm}
theorem akA(aA:cS P C.ty)(H:aP w0 Φ N B S a w){c':Kc}{m:Unit->List Kx->Option t.el}(hT:fy C.ty T=some (.map kt et c' t' jI))(hx:bT B S x = .mp loc)(he:bc B S loc=some (.map fr ag c t T' m))(PV:ak B.e S.n=none)(hp:bP B ⟨S.t,S.e,S.n+1⟩ N d (.it loc S.n)=some S')(hK:∀ n,True->(K ⟨S'.t,(S.n,.iter loc c (fun _ => []) fun _=>n)::S'.e,S'.n⟩).P) :
 gq P ⟨some d,.range T x,ty,pos,aft,gd⟩ a w fun a' w'=>∃ S',aP w0 Φ N B S' a' w'/\(K S').P:=by
 obtain⟨S0,hS,ρ,ro,H⟩:=H;obtain⟨ti,_,hi,kG⟩:=eU aA hT;obtain⟨hu,_,_,_⟩:=I8 (w:=w) (ρ := ρ) (base:=w0.heap.size) (ro:=ro) kG hi;have ke:=H.get x;rw [hx] at ke;obtain⟨b,hb,mG⟩:=ke.zN;obtain⟨b',es,clock,aW,hh,hst,hm⟩:=H.en _ _ he;rw [hb] at aW;injection aW with aW;injection aW with aW;subst aW;have akB:=(jz.1 hh).1;have fq:=H.fresh S.n (az _);have gi:∀ q,q<w.heap.size->(w.alloc (.mapIter (some b) clock #[] clock)).heap[q]? = w.heap[q]? := fun q hq=>qj w _ q hq;have xZ:=(stamped_iff es clock).1 hst;have H2:=H.oY (w':=w.alloc (.mapIter (some b) clock #[] clock)) (loc:=S.n) (n:=S.n+1) (r := .it w.heap.size) (e := .iter loc c (fun _ => []) fun _=>(Go.leftOf es #[]).size) (H.from_.alloc _) (by simp) (fun q hq _=>gi q hq) (fun q hq=>by
  injection hq with hq;subst hq;exact .inr ⟨az _,by simp⟩) PV (Bu _) (zp _) (.inl (qD fq)) (.inl fun q hq=>by rw [fq] at hq; cases hq) ⟨b,w.heap.size,es,clock,clock,#[],clock,iL _ _ _,qD fq _ _ hb,(gi b akB).trans hh,ry w _,xZ.1,⟨az _,az _⟩,rfl,fun e _=>by simp,fun key r hr=>by cases hr⟩
 have qG:=YA hp;have jO:=JY (e:=(S.n,.iter loc c (fun _ => []) fun _=>(Go.leftOf es #[]).size)::S.e) (n:=S.n+1) hp;have fA:=hK (Go.leftOf es #[]).size trivial;rw [qG] at fA;refine .inl ⟨.pointer (some ⟨w.heap.size,0,none⟩),_,?_,_,⟨S0,hS,_,_,H2.put jO (.it _ _ _ (iL _ _ _))⟩,fA⟩;unfold execOp;simp only [Instr.range,mG,bt,ql hu,bM,MapKept.run_getObj_map hh,bU];rfl
theorem akC(h:w1=w\/w1=w.drew)(r)(o):w.grownBy (setBlock w1 r o) (some r):=by
 rcases h with rfl|rfl
 . exact Yy _ _ _
 . exact⟨rfl,rfl,rfl,by rw [JW]; exact az _,fun k _ hk=>Cn w.drew r o fun e=>hk (by rw [e])⟩
theorem akD(H:aP w0 Φ N B S a w){m:Unit->List Kx->Option t.el}{seen:Unit->List (List Kx)}(hx:bT B S x = .it loc l2)(he:bc B S loc=some (.map fr ag c t T m))(hi:bc B S l2=some (.iter loc c seen left))(hB:ak B.e l2=none)(kf:bP B S N d (.aU [.aG false])=some S1)(jO:bP B S N d (.aU [.aG true,.un,.un])=some S2)(hK:(Fm.br (fun _=>left ()==0) (.all Unit (fun _=>∀ key x,dG c.ls key=true->m () key=some x->key∈seen ()) fun _=>K S1) (.all (List Kx×Nat) (fun p=>dG c.ls p.1=true/\(m () p.1).isSome=true/\p.1∉seen ()/\p.2<left ()) fun p=>K ⟨S2.t,(l2,.iter loc c (fun _=>p.1::seen ()) fun _=>p.2)::S2.e,S2.n⟩)).P) :
 gq P ⟨some d,.next x false,ty,pos,aft,gd⟩ a w fun a' w'=>∃ S',aP w0 Φ N B S' a' w'/\(K S').P:=by
 obtain⟨S0,hS,ρ,ro,H⟩:=H;have ke:=H.get x;rw [hx] at ke;obtain⟨b2,fu,mG⟩:=ke.OG;obtain⟨b,es,clock,hb,hh,hst,hm⟩:=H.en _ _ he;obtain⟨b',E3,iW,nY,since,stamps,c0,h1,h2,h3,h4,h5,h6,h7,h8,h9⟩:=H.en _ _ hi;rw [fu] at h1;injection h1 with h1;injection h1 with h1;subst h1;rw [hb] at h2;injection h2 with h2;injection h2 with h2;subst h2;rw [hh] at h3;injection h3 with h3;injection h3 with q1 q2;subst q1; subst q2;have hbb:b≠b2:=fun e=>by
  by_cases hl:loc=l2
  . subst hl;rw [hb] at fu;cases fu
  . exact H.apart loc l2 _ _ b hl hb fu rfl (by rw [e]; rfl)
 obtain⟨k1,k2⟩:=hK;have o6:∀ v w2,(Instr.next (.pointer (some ⟨b2,0,none⟩)) false ty).run P w = .ok v w2->(execOp a.eval ⟨some d,.next x false,ty,pos,aft,gd⟩).run P w = .ok (.value v) w2:=by
  intro v w2 h;unfold execOp;simp only [mG,bt,h,bM,bU]
 rcases run_next_at (P:=P) w ty b2 b since c0 stamps es clock h4 hh h5 h6.1 with ⟨hz,cB⟩|⟨e,jN,w1,qH,cB⟩
 . have akF:(left ()==0)=true:=by rw [h7,hz]; rfl
   have cr:=k1 akF () fun key y hf hk=>by
    obtain⟨e,jN,qF⟩:=hm.2 key y hf hk;obtain⟨jj,cZ,cg⟩:=(h8 e jN).1 (all_seen es stamps hz e jN);rw [I9 qF cg];exact cZ
   have hE:aQ w ρ w0.heap.size ro [.aG false] [.bool false] := .cons (.aG _) .nil;exact .inl ⟨_,_,o6 _ _ cB,_,⟨S0,hS,_,_,H.put kf (.aU _ _ hE.1 hE.2)⟩,cr⟩
 . obtain⟨E4,lS⟩:=mem_left jN;obtain⟨key,y,g1,g2,g3⟩:=hm.1 e E4;have yr:(left ()==0)=false:=by
    rw [h7];have:(Go.leftOf es stamps).size≠0:=fun h0=>by
     have oO:(Go.leftOf es stamps).toList.length=0:=by simpa using h0
     rw [List.length_eq_zero_iff.1 oO] at jN;cases jN
    simpa using this
   have o4:key∉seen ():=fun hk=>by
    have:=(h8 e E4).2 ⟨key,hk,g1⟩;rw [lS] at this;cases this
   have fA:=k2 yr (key,(Go.leftOf es (stamps.push e.born)).size) ⟨g1.2,by rw [g2]; rfl,o4,by rw [h7]; exact left_shrinks es stamps e jN⟩;have YB:w1.heap[b]? = some (.map es clock):=by rcases qH with rfl|rfl<;>exact hh
   have YC:w1.heap[b2]? = some (.mapIter (some b) since stamps c0):=by rcases qH with rfl|rfl<;>exact h4
   have gi:∀ q,q≠b2->(setBlock w1 b2 (.mapIter (some b) since (stamps.push e.born) clock)).heap[q]? = w.heap[q]? := fun q hq=>(Cn _ _ _ hq).trans (by rcases qH with rfl|rfl<;>rfl);have xZ:=(stamped_iff es clock).1 hst;have aN:(setBlock w1 b2 (.mapIter (some b) since (stamps.push e.born) clock)).heap.size=w.heap.size:=by rw [JW]; rcases qH with rfl|rfl<;>rfl
   have H2:=H.oY (w':=setBlock w1 b2 (.mapIter (some b) since (stamps.push e.born) clock)) (loc:=l2) (n:=S.n) (r := .it b2) (e := .iter loc c (fun _=>key::seen ()) fun _=>(Go.leftOf es (stamps.push e.born)).size) (H.from_.grown (akC qH _ _) (H.Ae fu rfl)) (by rw [aN]; exact az _) (fun q _ aT=>gi q fun e1=>aT _ fu (by rw [e1]; rfl)) (fun q hq => .inl ⟨_,fu,hq⟩) hB (az _) (H.lt fu) (.inl (by rw [sX fu]; exact Ext.refl _)) (.inl fun q hq=>by rw [fu] at hq; cases hq) (by
    refine⟨b,b2,es,clock,since,stamps.push e.born,clock,iL _ _ _,by rw [sX fu]; exact hb,(gi b hbb).trans hh,PT YC,h5,⟨e8 h6.1 h6.2,az _⟩,rfl,fun e' mI => ?_,fun jj r' hr => ?_⟩
    . rw [contains_push];simp only [gz,b9];constructor
      . rintro (h|h)
        . obtain⟨jj,q1,q2⟩:=(h8 e' mI).1 h;exact⟨jj,M6 _ q1,q2⟩
        . have:e'=e:=born_inj xZ.2.1 mI E4 h;subst this;exact⟨key,ahr,g1⟩
      . rintro⟨jj,q1,q2⟩
        rcases fZ.1 q1 with rfl|q1
        . right;have:e'=e:=Go.entry_eq_of_key xZ.2.2 mI E4 (q2.1.trans g1.1.symm);rw [this]
        . exact .inl ((h8 e' mI).2 ⟨jj,q1,q2⟩)
    . injection hr with r1 r2;subst r1;exact⟨rfl,e,E4,by simp,g1⟩)
   rw [sX fu] at H2;have J0:=YA jO;rw [J0] at fA;have hE:aQ (setBlock w1 b2 (.mapIter (some b) since (stamps.push e.born) clock)) ρ w0.heap.size ro [.aG true,.un,.un] [.bool true,e.key,e.val] := .cons (.aG _) (.cons (.un _) (.cons (.un _) .nil));exact .inl ⟨_,_,o6 _ _ cB,_,⟨S0,hS,_,_,H2.put (JY jO) (.aU _ _ hE.1 hE.2)⟩,fA⟩
end
open Go.RowKit
section
variable{P:Program}{w w' w0:World}{ρ ρ':Nat->Option Rl}{base:Nat}{ro ro':Nat->Prop}{S0:Pm}{Φ : Pm->Prop}{N:Nat}{B:Bs}{S:Sx}{a:Act}{ge:Nat->Option En}{v:Value}
def ρL(ρ:Nat->Option Rl)(L:List Nat):Nat->Option Rl:=fun k=>match L[k]? with
 | some l => ρ l
 | none=>none
theorem wI{L:List Nat}{k:Nat}(h:L[k]? = some l) : ρL ρ L k = ρ l:=by unfold ρL; rw [h]
theorem uH{L:List Nat}{k:Nat}(h : ρL ρ L k=some r):∃ l,L[k]? = some l /\ ρ l=some r:=by
 unfold ρL at h;split at h
 . rename_i l hl; exact⟨l,hl,h⟩
 . cases h
theorem akG(ag fr)(t)(x):AV.plain false (eD ag fr t x)=true:=by
 unfold eD;have h:=Eg fr t x
 cases ag with
 | true=>exact h
 | false =>
  simp only [dS,dB]
  cases hc:aO fr t x with
  | nil=>rfl
  | cons c l =>
   rw [hc] at h
   cases l with
   | nil=>simpa [AV.dO] using h
   | cons c2 l=>rfl
theorem ah.YD{x:AV}{ρ2:Nat->Option Rl}(h:ah w ρ base ro x v)(hx:AV.plain false x=true):ah w ρ2 0 ro x v :=
 (h.plain (ρ' := ρ2) hx fun _ _ h=>h).mono (fun _ _ _=>rfl) (Ext.refl _) (cm _) fun _ h=>h
structure wJ (w:World) (ρ:Nat->Option Rl) (ro:Nat->Prop) (st jq:wv):Prop where
 more:∃ m,jq.aD=st.aD++m
 nodup:st.aD.Nodup->jq.aD.Nodup
 some_:∀ l∈jq.aD,l∈st.aD\/∃ r,ρ l=some r
 en:∀ L,(∃ m,L=jq.aD++m)->∀ k e,ak jq.es k=some e->ak st.es k=some e\/c7 w (ρL ρ L) 0 ro k e
theorem wJ.refl(st):wJ w ρ ro st st:=⟨⟨[],by simp⟩,id,fun _ h => .inl h,fun _ _ _ _ h => .inl h⟩
theorem wJ.trans(h:wJ w ρ ro s1 s2)(k:wJ w ρ ro s2 s3):wJ w ρ ro s1 s3:=by
 obtain⟨m,hm⟩:=h.more;obtain⟨n,hn⟩:=k.more;refine⟨⟨m++n,by rw [hn,hm,gv]⟩,fun q=>k.nodup (h.nodup q),fun l hl => ?_,fun L hL i e he => ?_⟩
 . rcases k.some_ l hl with h1|h1
   . exact h.some_ l h1
   . exact .inr h1
 . rcases k.en L hL i e he with h1|h1
   . obtain⟨q,hq⟩:=hL;exact h.en L ⟨n++q,by rw [hq,hn,gv]⟩ i e h1
   . exact .inr h1
theorem J1{l:Nat}:∀ {ls:List Nat},bF l ls=false->l∉ls
 | [],_=>by simp
 | k::ls,h=>by
  simp only [bF,jZ,Na,ne_eq] at h;simp only [fZ,zv];exact⟨fun e=>h.1 e.symm,J1 h.2⟩
theorem PX{ls:List Nat}(h:ls.Nodup)(hl:l∉ls):(ls ++ [l]).Nodup:=by
 rw [DE];exact⟨h,by simp,fun a ha b hb=>by simp only [kq] at hb; subst hb; exact fun e=>hl (e▸ha)⟩
theorem yu{ls m:List Nat}:(ls ++ [l]++m)[ls.length]? = some l:=by simp
theorem PY{fr:Bool}{l:Unit->List t.el}(he:c7 w ρ base ro loc (.row fr t T l))(hm:bF loc st.aD=false):wJ w ρ ro st ⟨st.aD ++ [loc],(st.aD.length,.row false t T l)::st.es⟩:=by
 obtain⟨A,c,css,hA,bC,hlen,du⟩:=he;refine⟨⟨[loc],rfl⟩,fun q=>PX q (J1 hm),fun l' cp => ?_,fun L hL k e nm => ?_⟩
 . rcases ku.1 cp with h1|h1
   . exact .inl h1
   . simp only [kq] at h1; subst h1; exact .inr ⟨_,hA⟩
 . rw [cu] at nm;split at nm
   . rename_i e0;subst e0;cases nm;obtain⟨m,rfl⟩:=hL;refine .inr ⟨A,c,css,by rw [wI yu]; exact hA,bC.Bv (cm _),hlen,fun k cs j x u k1 k2 k3 => ?_⟩;have aN:=bC.2 cs (gX k1);have h6:=(Ad (g:=false) (ux aN fun j y v r1 r2=>du k cs j y v k1 r1 r2) (fun h=>by cases h)).2 j x u k2 k3;exact h6.YD (vY (Eg _ _ _) k2)
   . exact .inl nm
mutual
theorem akH(cF:∀ loc e,ge loc=some e->c7 w ρ base ro loc e):∀ (s:Sg) (x y:AV) (v:Value) (st jq:wv),O6 ge s x st=some (y,jq)->ah w ρ base ro x v->wJ w ρ ro st jq/\∀ L,(∃ m,L=jq.aD++m)->ah w (ρL ρ L) 0 ro y v:=by
 intro s x y v st jq h hx;unfold O6 at h;split at h
 . cases h;exact⟨.refl _,fun _ _ => .un _⟩
 . rename_i t loc;split at h
   . rename_i fr t' T l he;split at h
     . rename_i hc;obtain⟨rfl,hm⟩:=hc;cases h;obtain⟨A',n,c',bK,hv⟩:=hx.sQ;refine⟨PY (cF _ _ he) hm,fun L hL => ?_⟩;obtain⟨m,rfl⟩:=hL;rw [hv];exact .own _ _ _ _ (by rw [wI yu]; exact bK)
     . cases h
   . cases h
 . rename_i t loc;split at h
   . rename_i fr t' T l he;split at h
     . rename_i hc;obtain⟨rfl,hm⟩:=hc;cases h;obtain⟨A,c,css,hA,bC,hlen,du⟩:=cF _ _ he;obtain⟨A',n,c',bK,hv⟩:=hx.sQ;rw [hA] at bK;injection bK with bK;injection bK with e1 e2 e3;subst e1; subst e2; subst e3;refine⟨PY (cF _ _ he) hm,fun L hL => ?_⟩;obtain⟨m,rfl⟩:=hL;have h1:ah w (ρL ρ (st.aD ++ [loc]++m)) 0 ro (.cE t st.aD.length (fun _=>0) fun _=>(l ()).length) (sliced A 0 (l ()).length c t.size) := .cE _ _ _ _ A _ c (by rw [wI yu]; exact hA) ⟨cm _,az _⟩;have h2:sliced A 0 (l ()).length c t.size = .slice A (l ()).length c:=by
        unfold sliced
        cases A with
        | none=>simp
        | some q=>simp [Addr.add]
       rw [hv,<- h2];exact h1
     . cases h
   . cases h
 . rename_i t t2 loc a b;split at h
   . rename_i fr t' T l he;split at h
     . rename_i hc;obtain⟨⟨rfl,rfl⟩,hm⟩:=hc;cases h;obtain⟨A',n,c',bK,bm,uy,hv⟩:=hx.xW;refine⟨PY (cF _ _ he) hm,fun L hL => ?_⟩;obtain⟨m,rfl⟩:=hL;rw [hv];exact .cE _ _ _ _ _ _ _ (by rw [wI yu]; exact bK) ⟨bm,uy⟩
     . cases h
   . cases h
 . rename_i c t loc;split at h
   . rename_i fr ag c' t' T m he;split at h
     . rename_i hc;obtain⟨rfl,rfl,hm⟩:=hc;cases h;obtain⟨b,es,clock,hb,hh,hst,hM⟩:=cF _ _ he;obtain⟨b',aW,hv⟩:=hx.zN;refine⟨⟨⟨[loc],rfl⟩,fun q=>PX q (J1 hm),fun l' cp => ?_,fun L hL k e nm => ?_⟩,fun L hL => ?_⟩
       . rcases ku.1 cp with h1|h1
         . exact .inl h1
         . simp only [kq] at h1; subst h1; exact .inr ⟨_,hb⟩
       . rw [cu] at nm;split at nm
         . rename_i e0;subst e0;cases nm;obtain⟨m',rfl⟩:=hL;exact .inr ⟨b,es,clock,by rw [wI yu]; exact hb,hh,hst,(hM.less (fr':=false) (fun h=>by cases h)).rQ fun x v hx=>hx.YD (akG _ _ _ _)⟩
         . exact .inl nm
       . obtain⟨m',rfl⟩:=hL;rw [hv];exact .mp _ _ (by rw [wI yu]; exact aW)
     . cases h
   . cases h
 . rename_i l loc;split at h
   . rename_i T cells he;split at h
     . cases h
     . rename_i hm;split at h
       . rename_i ys O7 hc;cases h;obtain⟨b,cs,hb,hh,hE⟩:=cF _ _ he;obtain⟨b',aW,hv⟩:=hx.xV;obtain⟨h1,h2⟩:=PZ cF l cells ys cs _ _ hc hE;have pJ:bF loc st.aD=false:=by simpa using hm
         obtain⟨m1,E5⟩:=h1.more;dsimp only at E5;refine⟨⟨⟨[loc]++m1,by rw [E5,List.append_assoc]⟩,fun q=>h1.nodup (PX q (J1 pJ)),fun l' cp => ?_,fun L hL k e nm => ?_⟩,fun L hL => ?_⟩
         . rcases h1.some_ l' cp with h3|h3
           . rcases ku.1 h3 with h4|h4
             . exact .inl h4
             . simp only [kq] at h4; subst h4; exact .inr ⟨_,hb⟩
           . exact .inr h3
         . rw [cu] at nm;split at nm
           . rename_i e0;subst e0;cases nm;have h3:=h2 L hL;obtain⟨m,rfl⟩:=hL;refine .inr ⟨b,cs,?_,hh,h3⟩;rw [wI (l:=loc) (by dsimp only; rw [E5,List.append_assoc]; exact yu)];exact hb
           . exact h1.en L hL k e nm
         . obtain⟨m,rfl⟩:=hL;rw [hv];exact .ptr _ _ _ (by rw [wI (l:=loc) (by dsimp only; rw [E5,List.append_assoc]; exact yu)]; exact aW)
       . cases h
   . cases h
 . split at h
   . rename_i hp
     cases hc:coerce ge s x with
     | none=>rw [hc] at h; cases h
     | some y' =>
      rw [hc] at h;cases h;refine⟨.refl _,fun L _ => ?_⟩;exact (XF cF (fun _ h=>h) s x _ v hc hx (.inl hp)).mono (fun _ _ _=>rfl) (fun l r h=>by cases h) (az _) fun _ h=>h
   . cases h
theorem PZ(cF:∀ loc e,ge loc=some e->c7 w ρ base ro loc e):∀ (ss:List Sg) (xs ys:List AV) (vs:List Value) (st jq:wv),EJ ge ss xs st=some (ys,jq)->aQ w ρ base ro xs vs->wJ w ρ ro st jq/\∀ L,(∃ m,L=jq.aD++m)->aQ w (ρL ρ L) 0 ro ys vs:=by
 intro ss xs ys vs st jq h hE;unfold EJ at h;split at h
 . cases h;rw [hE.none];exact⟨.refl _,fun _ _ => .nil⟩
 . rename_i s ss x xs;split at h
   . rename_i y uB h1;split at h
     . rename_i Jd O7 h2;cases h;obtain⟨u,us,rfl,hx,na⟩:=hE.head;obtain⟨k1,k2⟩:=akH cF s x y u _ _ h1 hx;obtain⟨k3,k4⟩:=PZ cF ss xs Jd us _ _ h2 na;refine⟨k1.trans k3,fun L hL => ?_⟩;refine .cons (k2 L ?_) (k4 L hL);obtain⟨m,hm⟩:=k3.more;obtain⟨q,hq⟩:=hL;exact⟨m++q,by rw [hq,hm,gv]⟩
     . cases h
   . cases h
 . cases h
end
theorem ah.Co{x:AV}{q:Nat->Prop}(h:ah w ρ base ro x v)(hx:∀ l,q l->AV.has l x=false)(hρ:∀ l r,ρ l=some r->¬ q l\/r.dC=true -> ρ' l=some r):ah w ρ' base ro x v:=by
 have hl:∀ {l:List AV} {j:Nat} {y:AV},(∀ k,q k->AV.lu k l=false)->l[j]? = some y->∀ k,q k->AV.has k y=false:=fun h hy k hk=>mv (h k hk) hy
 induction h with
 | un=>exact .un _
 | fJ=>exact .fJ _
 | int=>exact .int _ _
 | lit=>exact .lit _ _
 | bool=>exact .bool _
 | aG=>exact .aG _
 | str=>exact .str _
 | nil=>exact .nil
 | sl fr t l A c css cp hc hr lr cK h ih=>exact .sl fr t l A c css cp hc hr lr cK fun k cs j y v h1 h2 h3=>ih k cs j y v h1 h2 h3 fun k _=>mv (vZ _ _ _ _) h2
 | wide fr t l n A c hn h ih=>exact .wide fr t l n A c hn (ih fun k _=>rfl)
 | bg cells off b o cs hr aj cp hc h ih=>exact .bg cells off b o cs hr aj cp hc fun j y v h1 h2=>ih j y v h1 h2 (hl (fun k hk=>by simpa only [AV.has] using hx k hk) h1)
 | ptr l off b h=>exact .ptr _ _ _ (hρ _ _ h (.inr rfl))
 | fw l off n b h=>exact .fw _ _ _ _ (hρ _ _ h (.inr rfl))
 | mp l b h=>exact .mp _ _ (hρ _ _ h (.inr rfl))
 | bq l s h=>exact .bq _ _ (hρ _ _ h (.inr rfl))
 | it l l2 b h=>exact .it _ _ _ (hρ _ _ h (.inr rfl))
 | own l A n c h=>exact .own _ _ _ _ (hρ _ _ h (.inl fun hq=>by have:=hx l hq; simp [AV.has] at this))
 | cY t l k off A n c b h hA h0 hn=>exact .cY _ _ _ _ _ _ _ _ (hρ _ _ h (.inl fun hq=>by have:=hx l hq; simp [AV.has] at this)) hA h0 hn
 | cE t l a b A n c h bm=>exact .cE _ _ _ _ _ _ _ (hρ _ _ h (.inl fun hq=>by have:=hx l hq; simp [AV.has] at this)) bm
 | agg l vs cp h ih=>exact .agg _ _ cp fun j y v h1 h2=>ih j y v h1 h2 (hl (fun k hk=>by simpa only [AV.has] using hx k hk) h1)
 | aU l vs cp h ih=>exact .aU _ _ cp fun j y v h1 h2=>ih j y v h1 h2 (hl (fun k hk=>by simpa only [AV.has] using hx k hk) h1)
 | fn f dw vs cp h ih=>exact .fn _ _ _ cp fun j y v h1 h2=>ih j y v h1 h2 (hl (fun k hk=>by simpa only [AV.has] using hx k hk) h1)
theorem J2(g):∀ (l) (j:Nat),(AV.oZ g l)[j]? = l[j]?.map (AV.fU g)
 | [],j=>by simp [AV.oZ]
 | x::l,0=>by simp [AV.oZ]
 | x::l,j+1=>by simpa [AV.oZ] using J2 g l j
theorem YE(g):∀ (l),(AV.oZ g l).length=l.length
 | []=>rfl
 | x::l=>by simp [AV.oZ,YE g l]
theorem P0(g)(fr)(t)(x):AV.oZ g (aO fr t x)=aO fr t x:=by cases t<;>rfl
theorem akI(g)(ag fr)(t)(x):AV.fU g (eD ag fr t x)=eD ag fr t x:=by
 unfold eD;have h:=P0 g fr t x
 cases ag with
 | true =>
  simp only [eH,AV.fU];rw [h]
 | false =>
  simp only [dS,dB]
  cases hc:aO fr t x with
  | nil=>rfl
  | cons c l =>
   rw [hc] at h
   cases l with
   | nil=>simpa [AV.oZ] using h
   | cons c2 l=>rfl
theorem ah.fU{x:AV}(h:ah w ρ base ro x v)(hρ:∀ l r,ρ l=some r -> ρ' (g l)=some r):ah w ρ' base ro (AV.fU g x) v:=by
 have hm:∀ {l:List AV} {vs:List Value},(∀ (j:Nat) x v,l[j]? = some x->vs[j]? = some v->ah w ρ' base ro (AV.fU g x) v)->∀ (j:Nat) x v,(AV.oZ g l)[j]? = some x->vs[j]? = some v->ah w ρ' base ro x v:=by
  intro l vs h j x v hx hv;rw [J2] at hx
  cases hj:l[j]? with
  | none=>rw [hj] at hx; cases hx
  | some y =>
   rw [hj] at hx;simp only [dv,bI] at hx;subst hx;exact h j y v hj hv
 induction h with
 | un=>exact .un _
 | fJ=>exact .fJ _
 | int=>exact .int _ _
 | lit=>exact .lit _ _
 | bool=>exact .bool _
 | aG=>exact .aG _
 | str=>exact .str _
 | nil=>exact .nil
 | sl fr t l A c css hl hc hr lr cK h ih =>
  refine .sl fr t l A c css hl hc hr lr cK fun k cs j y v h1 h2 h3 => ?_;have h4:AV.fU g y=y:=by
   have h5:=J2 g (aO fr t fun _=>(l ()).getD k t.aa) j;rw [P0,h2] at h5;simpa using h5.symm
  rw [<- h4];exact ih k cs j y v h1 h2 h3
 | wide fr t l n A c hn h ih=>exact .wide fr t l n A c hn ih
 | bg cells off b o cs hr aj hl hc h ih=>exact .bg _ off b o cs hr aj J3 hc (hm ih)
 | ptr l off b h=>exact .ptr _ _ _ (hρ _ _ h)
 | fw l off n b h=>exact .fw _ _ _ _ (hρ _ _ h)
 | mp l b h=>exact .mp _ _ (hρ _ _ h)
 | bq l s h=>exact .bq _ _ (hρ _ _ h)
 | it l l2 b h=>exact .it _ _ _ (hρ _ _ h)
 | own l A n c h=>exact .own _ _ _ _ (hρ _ _ h)
 | cY t l k off A n c b h hA h0 hn=>exact .cY _ _ _ _ _ _ _ _ (hρ _ _ h) hA h0 hn
 | cE t l a b A n c h bm=>exact .cE _ _ _ _ _ _ _ (hρ _ _ h) bm
 | agg l vs hl h ih=>exact .agg _ _ J3 (hm ih)
 | aU l vs hl h ih=>exact .aU _ _ J3 (hm ih)
 | fn f dw vs hl h ih=>exact .fn _ _ _ J3 (hm ih)
theorem c7.fU{e:En}{k:Nat}(h:c7 w ρ base ro k e)(hρ:∀ l r,ρ l=some r -> ρ' (g l)=some r):c7 w ρ' base ro (g k) (En.fU g e):=by
 cases e with
 | box T cells =>
  obtain⟨b,cs,h1,h4,h5⟩:=h;have h6:ah w ρ base ro (.agg cells) (.agg cs.toArray) := .agg _ _ h5.1 h5.2;obtain⟨vs,h7,h8⟩:=(h6.fU hρ).oS;have h9:cs=vs:=by simpa using h7
  subst h9;exact⟨b,cs,hρ _ _ h1,h4,h8⟩
 | row fr t T m =>
  obtain⟨A,c,css,h1,h2,h3,h5⟩:=h;refine⟨A,c,css,hρ _ _ h1,h2,h3,fun k cs j x v k1 k2 k3 => ?_⟩;have h4:AV.fU g x=x:=by
   have h5:=J2 g (aO fr t fun _=>(m ()).getD k t.aa) j;rw [P0,k2] at h5;simpa using h5.symm
  rw [<- h4];exact (h5 k cs j x v k1 k2 k3).fU hρ
 | map fr ag c t T m =>
  obtain⟨b,es,clock,h1,h2,h3,h4⟩:=h;exact⟨b,es,clock,hρ _ _ h1,h2,h3,h4.rQ fun x v hx=>by rw [<- akI g]; exact hx.fU hρ⟩
 | iter ml c seen left =>
  obtain⟨b,b2,es,clock,since,stamps,c0,h1,h2,h3⟩:=h;exact⟨b,b2,es,clock,since,stamps,c0,hρ _ _ h1,hρ _ _ h2,h3⟩
 | bq ml c key =>
  obtain⟨b,es,clock,s,e,h1,h2,h3⟩:=h;exact⟨b,es,clock,s,e,hρ _ _ h1,hρ _ _ h2,h3⟩
 | fh k=>exact hρ _ _ h
 | dead=>obtain⟨r,h⟩:=h; exact⟨r,hρ _ _ h⟩
end
end Go.Proofs.YtlpikgchnjajmaaGreat
