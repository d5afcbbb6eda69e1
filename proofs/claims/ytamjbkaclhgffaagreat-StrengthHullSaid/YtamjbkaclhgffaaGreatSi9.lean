/-
  The abstract run: operations on the run's own memory are sound: slices that are made, written, or grow.
-/
import Derived.Test.YtamjbkaclhgffaaGreatSi8
import Derived.WideKeyEntry
set_option linter.all false
namespace Go.Proofs.YtamjbkaclhgffaaGreat
open Go.RowKit
variable{aft:Array Edge}{es iY:Array MapEntry}{f fr fr' jI:Bool}{C:Cx}{css news:List (List Value)}{k' key:List Kx}{B0 T T' b base born c clock d e et j kt l l2 loc n nN sz:Nat}{g:Nat->Nat}{o o':Obj}{i s x:Operand}{gd:Option (Nat×Bool)}{A X:Option Addr}{r:Rl}{pos:String}{S' S1 S2:Sx}{t t' t0:Tc}{α:Type}{ty:TypeId}{a0 b0 left:Unit->Nat}{kv v:Value}{w w1:World}{s1 s2 s3 st:wy}
theorem Zv{size:Nat}:∀ (css:List (List Value)),(∀ cs∈css,cs.length=size)->∀ (k off n) (vs) (hk),off+n<=size->vs.length=n ->
 css.flatten.take (k*size+off)++vs++css.flatten.drop (k*size+off+n)=(css.set k (css[k].take off++vs++css[k].drop (off+n))).flatten
 | [],_,k,_,_,_,hk,_,_=>by cases hk
 | cs::css,h,0,off,n,vs,_,l8,hl=>by
  have hc:cs.length=size:=h cs (by simp);simp only [xD,gC,IL,BY,List.getElem_cons_zero];rw [ai3 oo,ai4 oo,fR,fR,fR]
 | cs::css,h,k+1,off,n,vs,hk,l8,hl=>by
  have hc:cs.length=size:=h cs (by simp);have ih:=Zv css (fun c hc=>h c (by simp [hc])) k off n vs (by simpa using hk) l8 hl;simp only [IL,Ej,List.getElem_cons_succ];rw [<- ih];have e1:(k+1)*size+off=cs.length+(k*size+off):=by rw [hc,lH]; omega
  rw [e1,oA cs.length,List.take_length_add_append,azd];simp
theorem al2{size g:Nat}(h:w.heap[g]? = some (.cells css.flatten.toArray e (0,0)))(hl:∀ cs∈css,cs.length=size)(hb:base<=g)(hm:css.length<=maxLen):cw w base e size (some ⟨g,0,none⟩) css.length css:=by
 have hf:=pw css hl;refine⟨⟨hf,.inr ⟨g,css.length,css.flatten.toArray,rfl,hb,h,aA _,hm,by simpa using hf,?_⟩⟩,hl⟩;rw [<- hf];exact uk
theorem Zw:∀ {l:List (Nat×AV)} {k:Nat} {xs:List AV},Ad k l=some xs->l.map (·.2)=xs/\l.map (·.1)=List.range' k l.length
 | [],k,xs,h=>by
  simp only [Ad,bF] at h;subst h;exact⟨rfl,rfl⟩
 | (i,x)::l,k,xs,h=>by
  unfold Ad at h;split at h
  . rename_i hi
    cases hr:Ad (k+1) l with
    | none=>rw [hr] at h; cases h
    | some ys =>
     rw [hr] at h;simp only [du,bF] at h;subst h;obtain⟨h1,h2⟩:=Zw hr;exact⟨by simp [h1],by simp [h2,eq_of_beq hi,N2]⟩
  . cases h
theorem Zx{size:Nat}:∀ (qs) (css:List (List Value)) (k) (pre z),(qs.map (·.2)).map Value.cells=css.map List.toArray->qs.map (·.1)=List.range' k qs.length->(∀ cs∈css,cs.length=size)->pre.length=k*size->z.length=qs.length*size ->
 Instr.fill (fun i=>some (i*size,size)) (pre++z).toArray qs=some (pre++css.flatten).toArray
 | [],[],k,pre,z,_,_,_,_,hz=>by
  have:z = []:=vJ (by simpa using hz);subst this;rfl
 | (i,v)::qs,cs::css,k,pre,z,hc,hi,hl,hp,hz=>by
  simp only [gz,ry,cB,N2] at hc hi;obtain⟨rfl,hi⟩:=hi;have cz:cs.length=size:=hl cs (by simp);have yD:z.length=qs.length*size+size:=by rw [hz,cB,lH]; omega
  rw [Pr (vs:=cs) (by rw [cz]) hc.1 (by rw [dp]; omega)];have e:(pre++z).take (i*size)++cs++(pre++z).drop (i*size+cs.length)=(pre++cs)++z.drop size:=by
   rw [<- hp,List.take_left,azd,cz]
  rw [e];have:=Zx qs css (i+1) (pre++cs) (z.drop size) hc.2 hi (fun c h=>hl c (by simp [h])) (by rw [dp,hp,cz,lH]; omega) (by rw [iD]; omega);rw [this];simp
 | [],_::_,_,_,_,hc,_,_,_,_=>by simp at hc
 | _::_,[],_,_,_,hc,_,_,_,_=>by simp at hc
theorem Qr{P:Program}{t size bytes m cn ty:Nat}(hE:EI P t e size bytes)(bw:cw w base e size A c css)(B)(hr:Rd w B size X news)(hm:m=news.length)(h1:∀ cs∈news,∀ u∈cs,u.oneCell'=true)(nI:css.length+m<=maxLen)(vS:(css.length+m)*bytes<=140737488355328)(gS:base<=w.heap.size) :
 ∃ A' c' w',(Builtin.append_ #[t,t] ty #[.slice A css.length c,.slice X m cn]).run P w = .ok (.slice A' (css++news).length c') w'/\cw w' base e size A' c' (css++news)/\w.grownBy w' (A.map (·.block))/\(A'.map (·.block)=A.map (·.block)\/A'.map (·.block)=some w.heap.size/\w.heap.size<w'.heap.size):=by
 rcases X with _|ad
 . have hn:news = []:=by
    rcases news with _|⟨x,l⟩
    . rfl
    . obtain⟨_,_,h,_⟩:=hr 0 x rfl;cases h
   subst hn;subst hm;obtain⟨ht,i,z,hi,hz,hs,hb,vT,h0⟩:=hE;refine⟨A,c,w,?_,by simpa using bw,World.grownBy.refl w _,.inl rfl⟩;rw [oz];exact WS
 . subst hm;obtain⟨ht,i,z,hi,hz,z6,hb,vT,h0⟩:=hE;have hlen:∀ cs∈css++news,cs.length=size:=fun cs hc=>by
    rcases iU.1 hc with h|h
    . exact bw.2 cs h
    . exact hr.len cs h
   obtain⟨v',w',cC,h2,h3,_,h5⟩:=run_append_own_at (P:=P) w base t ty e i z size bytes ht hi hz z6 hb vT h0 (.slice A css.length c) css.length css.flatten bw.1 ad news.length cn news.flatten (pw news hr.len)
    (fun j u hu=>by obtain⟨ad',h,hc⟩:=hr.flat j u hu; injection h with h; rw [h]; exact hc)
    (fun u hu=>by obtain⟨cs,aF,uq⟩:=ajr.1 hu; exact h1 cs aF u uq) nI vS gS
   obtain⟨A',c',rfl,h4⟩:=cw.of (css:=css++news) (by rw [NW]; exact h2) (by simp) hlen;rw [OV,OV] at h5;rw [OV] at h3;refine⟨A',c',w',cC,h4,h3,h5.imp id fun h=>⟨h,?_⟩⟩;obtain⟨ad2,h6,h7⟩:=kS.1 h;have:=(h4.lt h6).2;omega
theorem Aq{P:Program}{i:eH}(ht:fV P T i=true)(hi:i.ti = .slice e sz b):EI P T e sz b/\0<b:=by
 obtain⟨ds,hd,hm⟩:=mZ ht;rw [hi] at hm;cases ds<;>first|(simp [jH] at hm; done)|skip
 rename_i e';simp only [jH,ax,cb,aL] at hm;obtain⟨⟨he,h0,hb⟩,h3⟩:=hm;subst he
 cases hj:P.info? e' with
 | none=>rw [hj] at h3; simp at h3
 | some j =>
  rw [hj] at h3;simp only [ax,cb] at h3
  cases hz:j.zero with
  | none=>rw [hz] at h3; simp at h3
  | some z =>
   rw [hz] at h3;exact⟨⟨hd,j,z,hj,hz,h3.1.1,h3.1.2,by simpa using h3.2,h0⟩,hb⟩
theorem Zy{m:Nat}(hb:0<b)(h:(n+m)*b<=140737488355328):n+m<=maxLen:=by
 have:(n+m)*1<=(n+m)*b:=kU _ hb;unfold maxLen;omega
section
variable{P:Program}{w w' w0:World}{ρ ρ':Nat->Option Rl}{base:Nat}{ro ro':Nat->Prop}{S0:Pm}{Φ : Pm->Prop}{N:Nat}{B:Bs}{S:Sx}{a:Act}
theorem al3(H:bm w0 S0 N B S a w ρ ro){x:AV}{m:Unit->List t.el}(h:PO B S t x=some (f,m))(hx:af w ρ w0.heap.size ro x v) :
 ∃ X c,∃ news,v = .slice X (m ()).length c/\news.length=(m ()).length/\Rd w w.heap.size t.size X news/\∀ (k) (cs) (j:Nat) (y) (u),news[k]? = some cs->(aP f t fun _=>(m ()).getD k t.aa)[j]? = some y->cs[j]? = some u->af w ρ w0.heap.size ro y u:=by
 unfold PO at h;split at h
 . simp only [bF,sU] at h;obtain⟨rfl,rfl⟩:=h;exact⟨none,0,[],hx.wj,rfl,Rd.nil _ _ _ _,fun k cs j y u h=>by simp at h⟩
 . split at h
   . rename_i ht;subst ht;simp only [bF,sU] at h;obtain⟨rfl,rfl⟩:=h;obtain⟨A,c,css,hl,hc,hr,_,_,dt,rfl⟩:=hx.pE;exact⟨A,c,css,rfl,hl,hr,dt⟩
   . cases h
 . split at h
   . rename_i ht;subst ht;simp only [bF,sU] at h;obtain⟨rfl,rfl⟩:=h;obtain⟨A,c,css,hl,hc,hr,_,_,dt,rfl⟩:=(z9 hx).pE;exact⟨A,c,css,rfl,hl,hr,dt⟩
   . cases h
 . split at h
   . rename_i fr t' T l he;split at h
     . rename_i ht;subst ht;simp only [bF,sU] at h;obtain⟨rfl,rfl⟩:=h;obtain⟨A,c,css,hA,bw,hlen,dt⟩:=H.en _ _ he;obtain⟨A',n,c',bG,rfl⟩:=hx.tf;rw [hA] at bG;injection bG with bG;injection bG with e1 e2 e3;subst e1; subst e2; subst e3;exact⟨A,c,css,rfl,hlen,bw.rd,dt⟩
     . cases h
   . cases h
 . rename_i t2 loc a b;split at h
   . rename_i fr t' T l he;split at h
     . rename_i ht;subst ht;split at h
       . rename_i aO;simp only [bF,sU] at h;obtain⟨rfl,rfl⟩:=h;obtain⟨A,c,css,hA,bw,hlen,dt⟩:=H.en _ _ he;obtain⟨A',n,c',bG,bk,uJ,rfl⟩:=hx.yb;rw [hA] at bG;injection bG with bG;injection bG with e1 e2 e3;subst e1; subst e2; subst e3;obtain⟨X,h1,h2⟩:=alm bw.rd bk oo bw.cap.1;have qG:(((l ()).take (b ())).drop (a ())).length=b () - a ():=by simp; omega
         refine⟨X,_,_,by rw [eq_of_beq aO,h1,qG],by simp [hlen],h2,fun k cs j y u q1 q2 q3 => ?_⟩;rw [lG,eh] at q1;split at q1
         . rename_i ah;refine dt (a ()+k) cs j y u q1 ?_ q3;have e:(((l ()).take (b ())).drop (a ())).getD k t'.aa=(l ()).getD (a ()+k) t'.aa:=by
            rw [aX,aX,lG,eh,aC ah]
           rw [<- e];exact q2
         . cases q1
       . cases h
     . cases h
   . cases h
 . cases h
theorem al4(h:t.flat=true)(f)(x):aP (f||t.flat) t x=aP f t x:=by cases t<;>first|rfl|cases h
theorem Qs(H:bm w0 S0 N B S a w ρ ro){x:AV}{m:Unit->List t.el}(h:uN B S t x=some (f,m))(hx:af w ρ w0.heap.size ro x v) :
 ∃ X c,∃ news,v = .slice X (m ()).length c/\news.length=(m ()).length/\Rd w w.heap.size t.size X news/\∀ (k) (cs) (j:Nat) (y) (u),news[k]? = some cs->(aP f t fun _=>(m ()).getD k t.aa)[j]? = some y->cs[j]? = some u->af w ρ w0.heap.size ro y u:=by
 unfold uN at h;rw [kS] at h;obtain⟨⟨f0,m0⟩,h0,h1⟩:=h;simp only [sU] at h1;obtain⟨rfl,rfl⟩:=h1;obtain⟨X,c,news,q1,q2,q3,q4⟩:=al3 H h0 hx;refine⟨X,c,news,q1,q2,q3,?_⟩
 cases ht:t.flat with
 | false=>rw [fS]; exact q4
 | true=>rw [<- ht]; intro k cs j y u hk hy hu; rw [al4 ht] at hy; exact q4 k cs j y u hk hy hu
theorem FH{m:Unit->List t.el}(hr:Rd w B0 t.size X news)(hc:∀ (k) (cs) (j:Nat) (y) (u),news[k]? = some cs->(aP f t fun _=>(m ()).getD k t.aa)[j]? = some y->cs[j]? = some u->af w ρ base ro y u):∀ cs∈news,∀ u∈cs,u.oneCell'=true:=by
 intro cs aF;obtain⟨k,hk⟩:=kT.1 aF;exact Qn (alX f t _) (uH (hr.len cs aF) fun j y v h1 h2=>hc k cs j y v hk h1 h2)
theorem Zz{g:Bool}{l m:List t.el}(hl:css.length=l.length)(hlen:∀ cs∈css++news,cs.length=t.size)(h1:∀ (k) (cs) (j:Nat) (y) (u),css[k]? = some cs->(aP f t fun _=>l.getD k t.aa)[j]? = some y->cs[j]? = some u->af w ρ base ro y u)(h2:∀ (k) (cs) (j:Nat) (y) (u),news[k]? = some cs->(aP g t fun _=>m.getD k t.aa)[j]? = some y->cs[j]? = some u->af w ρ base ro y u) :
 ∀ (k) (cs) (j:Nat) (y) (u),(css++news)[k]? = some cs->(aP (f&&g) t fun _=>(l++m).getD k t.aa)[j]? = some y->cs[j]? = some u->af w ρ base ro y u:=by
 intro k cs j y u hk hy hu;have aO:=hlen cs (eY hk);rcases b9 k css.length with h|h
 . rw [qj h] at hk;rw [show (l++m).getD k t.aa=l.getD k t.aa by simp [aX,qj (show k<l.length from oo)]] at hy;exact (Ao (g:=f&&g) (uH aO fun j y v q1 q2=>h1 k cs j y v hk q1 q2) KD).2 j y u hy hu
 . rw [rq h] at hk;rw [show (l++m).getD k t.aa=m.getD (k - css.length) t.aa by simp [aX,rq (show l.length<=k from oo),hl]] at hy;exact (Ao (g:=f&&g) (uH aO fun j y v q1 q2=>h2 _ cs j y v hk q1 q2) KE).2 j y u hy hu
theorem ZA(v)(h:(Builtin.append_ #[T,T] ty #[a.eval s,a.eval x]).run P w = .ok v w'):(execOp a.eval ⟨some d,.call { callee := .builtin .append,args := #[s,x],argTypes := #[T,T] },ty,pos,aft,gd⟩).run P w = .ok (.value v) w':=by
 exact ZB
theorem cw.al5{size k:Nat}(h:cw w base e size A c css)(hk:k<=css.length):cw w base e size A c (css.take k):=by
 rcases h.block with ⟨rfl,rfl,rfl⟩|⟨g,cur,rfl,_,_,_⟩
 . rw [List.take_nil]; exact h
 . rw [<- jB k css] at h;obtain⟨nI,h0⟩|⟨g',cap,cur,he,hb,hg,lP,pP,aF,rE⟩:=h.1.2
   . cases nI
   . simp only [Value.slice.injEq,bu] at he;obtain⟨he,rfl⟩:=he;have hl:=pw (css.take k) (fun cs hc=>h.2 cs (ajd _ hc));refine⟨⟨hl,.inr ⟨g',c,cur,by rw [he],hb,hg,by rw [dp] at lP; omega,pP,aF,?_⟩⟩,fun cs hc=>h.2 cs (ajd _ hc)⟩;have h1:(cur.toList.take ((css.take k++css.drop k).length*size)).take ((css.take k).length*size)=(css.take k++css.drop k).flatten.take ((css.take k).length*size):=by rw [rE]
     rw [Es,xA (oy _ (by rw [dp]; exact Nat.le_add_right _ _)),NW] at h1;rw [h1,<- hl,List.take_left]
theorem ZC(aE:cT P C.ty)(H:bm w0 S0 N B S a w ρ ro)(hS : Φ S0){k:Nat}{l m:Unit->List t.el}(hT:fu C.ty T=some (.slice e sz b))(he:bf B S loc=some (.row fr t e l))(hs:∀ A c,ρ loc=some (.row A (l ()).length c)->k<=(l ()).length/\((∃ g,A=some ⟨g,0,none⟩)\/A=none/\c=0->a.eval s = .slice A k c))(aO:t.size=sz)(hB:aj B.e loc=none)(hq:quiet loc B=true)(hn:uN B S t (bM B S x)=some (f,m))(hp:bJ B ⟨(kill loc S).t,(loc,.row (fr&&f) t e fun _=>(l ()).take k++m ())::(kill loc S).e,S.n⟩ N d (.own loc)=some S')(wH:(k+(m ()).length)*b<=140737488355328)(iH:S0.fx=false) :
 gK P ⟨some d,.call { callee := .builtin .append,args := #[s,x],argTypes := #[T,T] },ty,pos,aft,gd⟩ a w (aS w0 Φ N B S'):=by
 obtain⟨i,_,hi,ky⟩:=eI aE hT;obtain⟨hE,jG⟩:=Aq ky hi;subst aO;obtain⟨A,c,css,hA,bw,hlen,dt⟩:=H.en _ _ he;obtain⟨gD,hv⟩:=hs A c hA;have hv:=hv (by
  rcases bw.block with ⟨h1,h2,_⟩|⟨g,cur,h1,_⟩
  . exact .inr ⟨h1,h2⟩
  . exact .inl ⟨g,h1⟩)
 have mX:(css.take k).length=k:=by simp; omega
 have l9:((l ()).take k).length=k:=by simp; omega
 have al6:=bw.al5 (k:=k) oo;obtain⟨X,cn,news,hx,oN,hr,lP⟩:=Qs H hn (H.get x);obtain⟨A2,c2,w2,cC,h2,h3,h4⟩:=Qr (P:=P) (ty:=ty) (cn:=cn) hE al6 _ hr oN.symm (FH hr lP) (by rw [mX]; exact Zy jG wH) (by rw [mX]; exact wH) (dQ (Js _ _) H.from_.size);have Fc:(css.take k++news).length=((l ()).take k++m ()).length:=by rw [dp,dp,mX,l9,oN]
 rw [mX] at cC;have oT:(execOp a.eval ⟨some d,.call { callee := .builtin .append,args := #[s,x],argTypes := #[T,T] },ty,pos,aft,gd⟩).run P w = .ok (.value (.slice A2 ((l ()).take k++m ()).length c2)) w2:=by
  refine ZA _ ?_;rw [hv,hx,cC,Fc]
 have al7:∀ (k2:Nat) (cs:List Value) (j:Nat) (y:AV) (u:Value),(css.take k)[k2]? = some cs->(aP fr t fun _=>((l ()).take k).getD k2 t.aa)[j]? = some y->cs[j]? = some u->af w ρ w0.heap.size ro y u:=fun k2 cs j y u q1 q2 q3=>by
  rw [eh] at q1;split at q1
  . rename_i ah;refine dt k2 cs j y u q1 ?_ q3;have e:((l ()).take k).getD k2 t.aa=(l ()).getD k2 t.aa:=by rw [aX,aX,eh,aC ah]
    rw [<- e];exact q2
  . cases q1
 have hold:∀ r',ρ loc=some r'->r' = .row A (l ()).length c:=fun r' h=>by rw [hA] at h; injection h with h; exact h.symm
 have hf:qA S0 w0 w2:=H.from_.grown h3 fun k hk=>H.Ap hA hk k rfl;have gp:∀ q,q<w.heap.size->(∀ r',ρ loc=some r'->r'.b8≠some q)->w2.heap[q]? = w.heap[q]? := fun q hq aT=>h3.block q hq fun hc=>aT _ hA hc.symm;have al8:∀ q,ro q->q<w.heap.size->w2.heap[q]? = w.heap[q]? := fun q hq ah=>gp q ah fun r' h1 h2=>(H.own loc r' q h1 h2).2.1 hq;have hk:=YY (S:=S) hq;have mj:loc<S.n:=by
  exact Qt
 have Af:∀ y u,af w ρ w0.heap.size ro y u->AV.has loc y=false->af w2 (eR ρ loc (.row A2 ((l ()).take k++m ()).length c2)) w0.heap.size ro y u:=fun y u hyu hh=>(hyu.move (ρ':=eR ρ loc (.row A2 ((l ()).take k++m ()).length c2)) hh fun l' r' cg hc=>by
  unfold eR;split
  . rename_i e0;subst e0;rcases hc with hc|hc
    . exact absurd rfl hc
    . rw [hold _ cg] at hc; cases hc
  . exact cg).mono al8 (Ext.refl _) (aA _) fun _ h=>h
 have CX:=Zz (w:=w) (ρ := ρ) (base:=w0.heap.size) (ro:=ro) (f:=fr) (g:=f) (l:=(l ()).take k) (m:=m ()) (by rw [mX,l9]) (fun cs hc=>h2.2 cs hc) al7 lP;have H2:=(H.YX loc).oP (loc:=loc) (n:=S.n) (r := .row A2 ((l ()).take k++m ()).length c2) (e := .row (fr&&f) t e fun _=>(l ()).take k++m ()) hf h3.size gp (fun q jl=>by
  rcases h4 with h4|⟨h4,h5⟩
  . exact .inl ⟨_,hA,by rw [<- jl]; exact h4.symm⟩
  . have jw:A2.map (·.block)=some q:=jl;rw [h4] at jw;injection jw with jw;subst jw;exact .inr ⟨aA _,h5⟩) hB (aA _) mj (.inr ⟨hk.1,hk.2,fun r' kz=>by rw [hold _ kz,iH]; rfl⟩) (.inl fun b' aW=>by cases hold _ aW) (by
  exact⟨A2,c2,css.take k++news,iJ _ _ _,h2.Cf (akP _ _ _),Fc,fun k cs j y u q1 q2 q3=>Af y u (CX k cs j y u q1 q2 q3) (mg (wg _ t _ loc) q2)⟩)
 exact ZD
theorem ama(aE:cT P C.ty)(H:aS w0 Φ N B S a w){l m:Unit->List t.el}(hT:fu C.ty T=some (.slice e sz b))(hs:bM B S s = .own loc)(he:bf B S loc=some (.row fr t e l))(aO:t.size=sz)(hB:aj B.e loc=none)(hq:quiet loc B=true)(hn:uN B S t (bM B S x)=some (f,m))(hp:bJ B ⟨(kill loc S).t,(loc,.row (fr&&f) t e fun _=>l ()++m ())::(kill loc S).e,S.n⟩ N d (.own loc)=some S')(wH:((l ()).length+(m ()).length)*b<=140737488355328)(iH:∀ S0,Φ S0->S0.fx=false) :
 gK P ⟨some d,.call { callee := .builtin .append,args := #[s,x],argTypes := #[T,T] },ty,pos,aft,gd⟩ a w (aS w0 Φ N B S'):=by
 obtain⟨S0,hS,ρ,ro,H⟩:=H;have has:=H.get s;rw [hs] at has;obtain⟨A',n,c',bG,hv⟩:=has.tf;have e:(fun (_:Unit)=>l ()++m ())=fun _=>(l ()).take (l ()).length++m ():=by funext u; rw [uk]
 refine ZC aE H hS (k:=(l ()).length) hT he (fun A c hA=>⟨aA _,fun _ => ?_⟩) aO hB hq hn (by rw [<- e]; exact hp) wH (iH S0 hS);rw [hA] at bG;injection bG with bG;injection bG with e1 e2 e3;subst e1; subst e2; subst e3;exact hv
theorem amb(aE:cT P C.ty)(H:aS w0 Φ N B S a w){l m:Unit->List t.el}(hT:fu C.ty T=some (.slice e sz b))(hs:bM B S s = .cG t0 loc a0 b0)(he:bf B S loc=some (.row fr t e l))(aO:t.size=sz)(hB:aj B.e loc=none)(hq:quiet loc B=true)(hn:uN B S t (bM B S x)=some (f,m))(hp:bJ B ⟨(kill loc S).t,(loc,.row (fr&&f) t e fun _=>(l ()).take (b0 ())++m ())::(kill loc S).e,S.n⟩ N d (.own loc)=some S')(h0:a0 ()=0)(wH:(b0 ()+(m ()).length)*b<=140737488355328)(iH:∀ S0,Φ S0->S0.fx=false) :
 gK P ⟨some d,.call { callee := .builtin .append,args := #[s,x],argTypes := #[T,T] },ty,pos,aft,gd⟩ a w (aS w0 Φ N B S'):=by
 obtain⟨S0,hS,ρ,ro,H⟩:=H;have has:=H.get s;rw [hs] at has;obtain⟨A',n,c',bG,bk,uJ,hv⟩:=has.yb;refine ZC aE H hS (k:=b0 ()) hT he (fun A c hA => ?_) aO hB hq hn hp wH (iH S0 hS);rw [hA] at bG;injection bG with bG;injection bG with e1 e2 e3;subst e1; subst e2; subst e3;refine⟨uJ,fun hg => ?_⟩;rw [hv,h0];rcases hg with ⟨g,rfl⟩|⟨rfl,rfl⟩
 . simp [sliced,sW]
 . simp [sliced]
theorem amc(aE:cT P C.ty)(H:aS w0 Φ N B S a w){m:Unit->List t.el}(hT:fu C.ty T=some (.slice e sz b))(hs:bM B S s = .nil)(aO:t.size=sz)(hB:aj B.e S.n=none)(hn:uN B S t (bM B S x)=some (f,m))(hp:bJ B ⟨S.t,(S.n,.row f t e m)::S.e,S.n+1⟩ N d (.own S.n)=some S')(wH:(0+(m ()).length)*b<=140737488355328) :
 gK P ⟨some d,.call { callee := .builtin .append,args := #[s,x],argTypes := #[T,T] },ty,pos,aft,gd⟩ a w (aS w0 Φ N B S'):=by
 obtain⟨S0,hS,ρ,ro,H⟩:=H;obtain⟨i,_,hi,ky⟩:=eI aE hT;obtain⟨hE,jG⟩:=Aq ky hi;subst aO;have has:=H.get s;rw [hs] at has;obtain⟨X,cn,news,hx,oN,hr,lP⟩:=Qs H hn (H.get x);obtain⟨A2,c2,w2,cC,h2,h3,h4⟩:=Qr (P:=P) (ty:=ty) (cn:=cn) hE (cw.nil w (rb f w0.heap.size) e t.size) _ hr oN.symm (FH hr lP) (by simpa using Zy jG wH) (by simpa using wH) (dQ (Js _ _) H.from_.size);have oT:(execOp a.eval ⟨some d,.call { callee := .builtin .append,args := #[s,x],argTypes := #[T,T] },ty,pos,aft,gd⟩).run P w = .ok (.value (.slice A2 (m ()).length c2)) w2:=by
  refine ZA _ ?_;rw [has.wj,hx];refine Eq.trans cC ?_;rw [pt,oN]
 have fw:=H.fresh S.n (aA _);have gp:∀ q,q<w.heap.size->w2.heap[q]? = w.heap[q]? := fun q hq=>h3.block q hq (by simp);have hf:qA S0 w0 w2:=H.from_.grown h3 fun k hk=>by cases hk
 have H2:=H.oP (loc:=S.n) (n:=S.n+1) (r := .row A2 (m ()).length c2) (e := .row f t e m) hf h3.size (fun q hq _=>gp q hq) (fun q jl=>by
  have jw:A2.map (·.block)=some q:=jl;rcases h4 with h4|⟨h4,h5⟩
  . rw [h4] at jw; cases jw
  . rw [h4] at jw;injection jw with jw;subst jw;exact .inr ⟨aA _,h5⟩) hB (Cd _) (B3 _) (.inl (qF fw)) (.inl fun b hb=>by rw [fw] at hb; cases hb) (by
  exact⟨A2,c2,news,iJ _ _ _,by simpa using h2,oN,fun k cs j y u q1 q2 q3=>(lP k cs j y u q1 q2 q3).mono (fun q _ ah=>gp q ah) (qF fw) (aA _) fun _ h=>h⟩)
 exact ZD
end
open Go.MapKept
open Go.ChangeMaps (setBlock)
theorem amd{l:List MapEntry}(h:l.Pairwise fun x y=>x.key≠y.key){i:Nat}{x y:MapEntry}(hi:l[i]? = some x)(hj:l[j]? = some y)(aT:i≠j):x.key≠y.key:=by
 obtain⟨li,rfl⟩:=cF.1 hi;obtain⟨lj,rfl⟩:=cF.1 hj;rcases Nat.lt_or_gt_of_ne aT with h1|h1
 . exact xw.1 h i j li lj h1
 . exact fun e=>xw.1 h j i lj li h1 e.symm
section
variable{P:Program}{w w' w0:World}{ρ ρ':Nat->Option Rl}{base:Nat}{ro ro':Nat->Prop}{S0:Pm}{Φ : Pm->Prop}{N:Nat}{B:Bs}{S:Sx}{a:Act}{fr ag:Bool}{c:Kc}{t:Tc}
theorem ZE(m)(k)(x : α):eB m k x k=some x:=by unfold eB; rw [aC rfl]
theorem KF(m){k:List Kx}(x : α)(h:k'≠k):eB m k x k'=m k':=by unfold eB; rw [aw h]
theorem lM.push{m:List Kx->Option t.el}{val:Value}{x:t.el}(h:lM w ρ base ro fr ag c t m es)(hn:∀ e∈es.toList,¬ gH c e.key key)(hk:gH c kv key)(hv:af w ρ base ro (eo ag fr t fun _=>x) val):lM w ρ base ro fr ag c t (eB m key x) (es.push { key:=kv,val:=val,born:=born }):=by
 refine⟨fun e he => ?_,fun jm x' hf hm => ?_⟩
 . simp only [Array.toList_push,iU,jD] at he;rcases he with he|rfl
   . obtain⟨jm,x',h1,h2,h3⟩:=h.1 e he;refine⟨jm,x',h1,?_,h3⟩;rw [KF _ _ (fun e1=>by subst e1; exact hn e he h1)];exact h2
   . exact⟨key,x,hk,ZE _ _ _,hv⟩
 . by_cases e1:jm=key
   . subst e1;exact⟨⟨kv,val,born⟩,by simp,hk⟩
   . rw [KF _ _ e1] at hm;obtain⟨e,he,h1⟩:=h.2 jm x' hf hm;exact⟨e,by simp only [Array.toList_push,iU]; exact .inl he,h1⟩
theorem lM.modify{m:List Kx->Option t.el}{e:MapEntry}{f:MapEntry->MapEntry}{x:t.el}(h:lM w ρ base ro fr ag c t m es)(hs:Stamped es clock)(hj:es[j]? = some e)(hk:gH c e.key key)(zO:(f e).key=e.key)(hv:af w ρ base ro (eo ag fr t fun _=>x) (f e).val):lM w ρ base ro fr ag c t (eB m key x) (es.modify j f):=by
 have gE:es.toList[j]? = some e:=by simpa using hj
 have hl:(es.modify j f).toList=es.toList.set j (f e):=by rw [Array.toList_modify,ChangeMaps.modify_eq_set _ _ _ _ gE]
 have hst:=((stamped_iff es clock).1 hs).2.2;have eZ:=(cF.1 gE).1;have ame:∀ i e',es.toList[i]? = some e'->i≠j->∀ jm,gH c e'.key jm->jm≠key:=by
  intro i e' hi aT jm e9 e1;subst e1;exact amd hst hi gE aT (e9.1.trans hk.1.symm)
 refine⟨fun e' he => ?_,fun jm x' hf hm => ?_⟩
 . rw [hl] at he;obtain⟨i,hi⟩:=kT.1 he;rw [ru] at hi;split at hi
   . rename_i e1;subst e1
     first|rw [aC eZ] at hi|skip
     injection hi with hi;subst hi;exact⟨key,x,by rw [zO]; exact hk,ZE _ _ _,hv⟩
   . rename_i aT;obtain⟨jm,x',h1,h2,h3⟩:=h.1 e' (eY hi);refine⟨jm,x',h1,?_,h3⟩;rw [KF _ _ (ame i e' hi (fun e1=>aT e1.symm) jm h1)];exact h2
 . rw [hl];by_cases e1:jm=key
   . subst e1;exact⟨f e,kT.2 ⟨j,by rw [ru,aC rfl,aC eZ]⟩,by rw [zO]; exact hk⟩
   . rw [KF _ _ e1] at hm;obtain⟨e',he,h1⟩:=h.2 jm x' hf hm;obtain⟨i,hi⟩:=kT.1 he;have aT:j≠i:=fun e2=>by
      subst e2;rw [gE] at hi;injection hi with hi;subst hi;exact e1 (JO h1 hk)
     exact⟨e',kT.2 ⟨i,by rw [ru,aw aT]; exact hi⟩,h1⟩
theorem KG(w)(b)(o):(setBlock w b o).heap.size=w.heap.size:=by
 unfold setBlock;simp
theorem CY(w)(b)(o){k:Nat}(h:k≠b):(setBlock w b o).heap[k]? = w.heap[k]? := by
 unfold setBlock;exact Array.getElem?_setIfInBounds_ne (fun e=>h e.symm)
theorem Qu(h:w.heap[b]? = some o'):(setBlock w b o).heap[b]? = some o:=by
 have:=(jA.1 h).1;unfold setBlock;simp [this]
theorem ZF(w:World)(b)(o):w.grownBy (setBlock w b o) (some b) :=
 ⟨rfl,rfl,rfl,by rw [KG]; exact aA _,fun k _ hk=>CY w b o fun e=>hk (by rw [e])⟩
theorem bm.lt(H:bm w0 S0 N B S a w ρ ro)(h : ρ loc=some r):loc<S.n:=by
 rcases b9 loc S.n with h1|h1
 . exact h1
 . have:=H.fresh loc h1; rw [h] at this; cases this
theorem bm.KH(H:bm w0 S0 N B S a w ρ ro){m:Unit->List Kx->Option t.el}(hb : ρ loc=some (.mp b))(hh:w.heap[b]? = some o)(hB:aj B.e loc=none)(hr:rR loc B.e=true)(hs:Stamped iY nN)(hm:lM w ρ w0.heap.size ro fr ag c t (m ()) iY) :
 bm w0 S0 N B ⟨S.t,(loc,.map fr ag c t T m)::lr loc S.e,S.n⟩ a (setBlock w b (.map iY nN)) ρ ro:=by
 obtain⟨HD,hd⟩:=H.dropped (loc:=loc) hr;have Ar:=(H.own loc _ b hb rfl).2.1;have hw:∀ b',ro b'->b'<w.heap.size->(setBlock w b (.map iY nN)).heap[b']? = w.heap[b']? := fun b' aW _=>CY _ _ _ fun e=>Ar (e▸aW);have H2:=HD.oP (w':=setBlock w b (.map iY nN)) (loc:=loc) (n:=S.n) (r := .mp b) (e := .map fr ag c t T m) (H.from_.grown (ZF _ _ _) (H.Ap hb rfl)) (by rw [KG]; exact aA _) (fun b' _ aT=>CY _ _ _ fun e=>aT _ hb (by rw [e]; rfl)) (fun b' aW => .inl ⟨_,hb,aW⟩) hB (aA _) (H.lt hb) (.inl Qq) (.inr hd) (by
  refine⟨b,iY,nN,iJ _ _ _,Qu hh,hs,?_⟩;rw [tn hb];exact hm.rQ fun x v hx=>hx.mono hw (Ext.refl _) (aA _) fun _ h=>h)
 rw [tn hb] at H2;exact H2
theorem amf(H:aS w0 Φ N B S a w)(hB:aj B.e S.n=none)(hp:bJ B ⟨S.t,(S.n,.map true ag c t T fun _ _=>none)::S.e,S.n+1⟩ N d (.mp S.n)=some S') :
 gK P ⟨some d,.makeMap T none,ty,pos,aft,gd⟩ a w (aS w0 Φ N B S'):=by
 obtain⟨S0,hS,ρ,ro,H⟩:=H;have fw:=H.fresh S.n (aA _);have gp:∀ b,b<w.heap.size->(w.alloc (.map #[] 0)).heap[b]? = w.heap[b]? := fun b hb=>ql w _ b hb;have H2:=H.oP (w':=w.alloc (.map #[] 0)) (loc:=S.n) (n:=S.n+1) (r := .mp w.heap.size) (e := .map true ag c t T fun _ _=>none) (H.from_.alloc _) (by simp) (fun b hb _=>gp b hb) (fun b hb=>by
  injection hb with hb;subst hb;exact .inr ⟨aA _,by simp⟩) hB (Cd _) (B3 _) (.inl (qF fw)) (.inl fun b hb=>by rw [fw] at hb; cases hb) ⟨w.heap.size,#[],0,iJ _ _ _,rA w _,stamped_empty 0,fun e he=>by simp at he,fun key x _ hm=>by cases hm⟩
 refine .inl ⟨.map (some w.heap.size),_,?_,S0,hS,_,_,H2.put hp (.mp _ _ (iJ _ _ _))⟩;unfold execOp;simp only [Instr.makeMap,bp,bL];rfl
theorem ZG{x:AV}{e:Unit->t.el}(h:CN ag t x=some (f,e))(hx:af w ρ base ro x v):af w ρ base ro (eo ag f t e) v:=by
 unfold CN at h;split at h
 . rename_i hc;simp only [ax,gR,cb] at hc;obtain⟨vs,h1,h2,h3⟩:=KC h hx;unfold eo
   cases ag with
   | true =>
    simp only [eO];have oI:∃ l,x = .agg l:=by
     have:=hc.2;cases x<;>first|exact⟨_,rfl⟩|simp [PQ] at this
    obtain⟨l,rfl⟩:=oI;obtain⟨us,rfl,_⟩:=hx.oK;have e1:us=vs:=N1 h1;subst e1;exact .agg _ _ h3.1 h3.2
   | false =>
    simp only [dV,dw];have Qv:∀ l,x ≠ .agg l:=fun l e1=>by subst e1; simp [PQ] at hc
    have hnu:x ≠ .un:=fun e1=>by subst e1; simp [wz,cellsOf] at h
    have gL:=Pp hx Qv hnu;rw [gL] at h1;have pQ:([v]:List Value).toArray=vs.toArray:=h1;have e1:=N1 pQ;subst e1;have hl:=h3.1
    cases cz:aP f t e with
    | nil=>rw [cz] at hl; cases hl
    | cons y l =>
     rw [cz] at hl h3
     cases l with
     | cons y2 l=>simp at hl
     | nil=>exact h3.2 0 y v rfl rfl
 . cases h
theorem lM.less{m:List Kx->Option t.el}(h:lM w ρ base ro fr ag c t m es)(hf:fr'=true->fr=true):lM w ρ base ro fr' ag c t m es :=
 ⟨fun e he=>by obtain⟨key,x,h1,h2,h3⟩:=h.1 e he; exact⟨key,x,h1,h2,Fb h3 hf⟩,h.2⟩
theorem amh(aE:cT P C.ty)(H:aS w0 Φ N B S a w){v:Operand}{m:Unit->List Kx->Option t.el}{k:Unit->List Kx}{e:Unit->t.el}(hT:fu C.ty T=some (.map kt et c t ag))(hx:bM B S x = .mp loc)(he:bf B S loc=some (.map fr ag c t T' m))(hk:x9 c (bM B S i)=some k)(gT:CN ag t (bM B S v)=some (f,e))(hB:aj B.e loc=none)(hr:rR loc B.e=true) :
 gK P ⟨none,.mapUpdate T x i v,ty,pos,aft,gd⟩ a w (aS w0 Φ N B ⟨S.t,(loc,.map (fr&&f) ag c t T' fun _=>eB (m ()) (k ()) (e ()))::lr loc S.e,S.n⟩):=by
 obtain⟨S0,hS,ρ,ro,H⟩:=H;obtain⟨ti,_,hi,ky⟩:=eI aE hT;obtain⟨hu,mX,_,_⟩:=JN (w:=w) (ρ := ρ) (base:=w0.heap.size) (ro:=ro) ky hi;have kb:=H.get x;rw [hx] at kb;obtain⟨b,hb,mu⟩:=kb.zY;obtain⟨b',es,clock,aW,hh,hst,hm⟩:=H.en _ _ he;rw [hb] at aW;injection aW with aW;injection aW with aW;subst aW;have iz:=Pw hk (H.get i);have pI:=Fb (fr':=fr&&f) (ZG gT (H.get v)) KE;have pF:=hm.less (fr':=fr&&f) KD;have cC:∀ w2,(Instr.mapUpdate T (.map (some b)) (a.eval i) (a.eval v)).run P w = .ok () w2->(execOp a.eval ⟨none,.mapUpdate T x i v,ty,pos,aft,gd⟩).run P w = .ok .skip w2:=by
  intro w2 h;unfold execOp;simp only [mu,bp,h,bI,bL]
 rcases hm.find (P:=P) mX iz with ⟨h1,h2,h3⟩|⟨j,e0,x0,h1,h2,h3,h4,h5⟩
 . refine .inr (.inl ⟨_,cC (setBlock w b (.map (es.push ⟨a.eval i,a.eval v,clock⟩) (clock+1))) ?_,S0,hS,ρ,ro,?_⟩)
   . have oU:=Jj (P:=P) (w:=w) mX iz.2 false;rw [<- iz.1] at oU;simp only [Instr.mapUpdate,bp,qm hu,bI,MapKept.run_getObj_map hh,oU,h1,MapKept.run_setObj_map _ hh];rfl
   . exact H.KH hb hh hB hr (stamped_push hst fun y hy e1=>h3 y hy (e1▸iz)) (pF.push h3 iz pI)
 . have wI:e0.key=a.eval i:=h3.1.trans iz.1.symm;refine .inr (.inl ⟨_,cC (setBlock w b (.map (es.modify j fun e' => { e' with key:=a.eval i,val:=a.eval v }) clock)) ?_,S0,hS,ρ,ro,?_⟩)
   . have oU:=Jj (P:=P) (w:=w) mX iz.2 false;have m9:=XT (P:=P) (w:=w) iz.2;rw [<- iz.1] at oU m9;simp only [Instr.mapUpdate,bp,qm hu,bI,MapKept.run_getObj_map hh,oU,h1,h2,du,ia,wI,m9,MapKept.run_setObj_map _ hh];rfl
   . exact H.KH hb hh hB hr (stamped_modify hst _ _ (fun _ _=>rfl) fun e' _ h6=>by rw [h2] at h6; injection h6 with h6; subst h6; exact wI.symm) (pF.modify hst h2 h3 wI.symm pI)
theorem ZH{x:AV}(h:bJ B S N d x=some S'):S'=⟨(d,x)::S.t,S.e,S.n⟩:=by
 unfold bJ at h;split at h
 . cases h
 . cases h; rfl
theorem KI{x:AV}{e:List (Nat×En)}(h:bJ B S N d x=some S'):bJ B ⟨S.t,e,n⟩ N d x=some ⟨(d,x)::S.t,e,n⟩:=by
 unfold bJ at h ⊢;split at h
 . cases h
 . rename_i hc;simp only [hc,dV,dw]
theorem ami(aE:cT P C.ty)(H:aS w0 Φ N B S a w){m:Unit->List Kx->Option t.el}{k:Unit->List Kx}(hT:fu C.ty T=some (.map kt et c t ag))(hx:bM B S x = .mp loc)(he:bf B S loc=some (.map fr ag c t T' m))(hk:x9 c (bM B S i)=some k)(hB:aj B.e loc=none)(hr:rR loc B.e=true)(Qw:aj B.e S.n=none)(hp:bJ B ⟨S.t,(S.n,.bo loc c k)::(loc,.map fr ag c t T' fun _=>eB (m ()) (k ()) ((m () (k ())).getD t.aa))::lr loc S.e,S.n+1⟩ N d (.ba [eo ag fr t fun _=>(m () (k ())).getD t.aa,.bo S.n])=some S') :
 gK P ⟨some d,.mapEntry T x i,ty,pos,aft,gd⟩ a w (aS w0 Φ N B S'):=by
 obtain⟨S0,hS,ρ,ro,H⟩:=H;obtain⟨ti,_,hi,ky⟩:=eI aE hT;obtain⟨hu,mX,_,jt,z,hj,hz,Pz⟩:=JN (w:=w) (ρ := ρ) (base:=w0.heap.size) (ro:=ro) ky hi;have kb:=H.get x;rw [hx] at kb;obtain⟨b,hb,mu⟩:=kb.zY;obtain⟨b',es,clock,aW,hh,hst,hm⟩:=H.en _ _ he;rw [hb] at aW;injection aW with aW;injection aW with aW;subst aW;have iz:=Pw hk (H.get i);have fv:∀ (iY:Array MapEntry) (nN s:Nat) (u:Value),(Instr.mapEntry T (.map (some b)) (a.eval i)).run P w = .ok (.tuple #[u,goInt s]) (setBlock w b (.map iY nN))->af w ρ w0.heap.size ro (eo ag fr t fun _=>(m () (k ())).getD t.aa) u->Stamped iY nN->lM w ρ w0.heap.size ro fr ag c t (eB (m ()) (k ()) ((m () (k ())).getD t.aa)) iY->(∃ e∈iY.toList,gH c e.key (k ())/\e.born=s)->gK P ⟨some d,.mapEntry T x i,ty,pos,aft,gd⟩ a w (aS w0 Φ N B S'):=by
  intro iY nN s u cC uq z6 pF lL;have H1:=H.KH (T:=T') (m:=fun _=>eB (m ()) (k ()) ((m () (k ())).getD t.aa)) hb hh hB hr z6 pF;have fw:=H1.fresh S.n (aA _);obtain⟨e,jN,qH,he3⟩:=lL;have H2:=H1.oP (w':=setBlock w b (.map iY nN)) (loc:=S.n) (n:=S.n+1) (r := .bo s) (e := .bo loc c k) H1.from_ (aA _) (fun _ _ _=>rfl) (fun b hb=>by cases hb) Qw (Cd _) (B3 _) (.inl (qF fw)) (.inl fun b hb=>by rw [fw] at hb; cases hb) ⟨b,iY,nN,s,e,iJ _ _ _,qF fw _ _ hb,Qu hh,jN,qH,he3⟩;have Ar:=(H.own loc _ b hb rfl).2.1;have OB:af (setBlock w b (.map iY nN)) (eR ρ S.n (.bo s)) w0.heap.size ro (eo ag fr t fun _=>(m () (k ())).getD t.aa) u:=uq.mono (fun b' aW _=>CY _ _ _ fun e=>Ar (e▸aW)) (qF fw) (aA _) fun _ h=>h;have hE:aV (setBlock w b (.map iY nN)) (eR ρ S.n (.bo s)) w0.heap.size ro [eo ag fr t fun _=>(m () (k ())).getD t.aa,.bo S.n] [u,goInt s] := .cons OB (.cons (.bo _ _ (iJ _ _ _)) .nil);refine .inl ⟨.tuple #[u,goInt s],_,?_,S0,hS,_,_,H2.put hp (.ba _ _ hE.1 hE.2)⟩;unfold execOp;simp only [mu,bp,cC,bI,bL]
 have oU:=Jj (P:=P) (w:=w) mX iz.2 false;have m9:=XT (P:=P) (w:=w) iz.2;rw [<- iz.1] at oU m9;rcases hm.find (P:=P) mX iz with ⟨h1,h2,h3⟩|⟨j,e0,x0,h1,h2,h3,h4,h5⟩
 . have hd:(m () (k ())).getD t.aa=t.aa:=by rw [h2]; rfl
   have Qx:af w ρ w0.heap.size ro (eo ag fr t fun _=>t.aa) z:=Fb Pz fun _=>rfl;refine fv (es.push ⟨a.eval i,z,clock⟩) (clock+1) clock z ?_ (by rw [hd]; exact Qx) (stamped_push hst fun y hy e1=>h3 y hy (e1▸iz)) (by rw [hd]; exact hm.push h3 iz Qx) ⟨⟨a.eval i,z,clock⟩,by simp,iz,rfl⟩;simp only [Instr.mapEntry,bp,qm hu,bI,MapKept.run_getObj_map hh,oU,h1,Yr hj hz,MapKept.run_setObj_map _ hh,bL];rfl
 . have hd:(m () (k ())).getD t.aa=x0:=by rw [h4]; rfl
   have wI:e0.key=a.eval i:=h3.1.trans iz.1.symm;have gE:es.toList[j]? = some e0:=by simpa using h2
   have eZ:=(cF.1 gE).1;refine fv (es.modify j fun e' => { e' with key:=a.eval i }) clock e0.born e0.val ?_ (by rw [hd]; exact h5) (stamped_modify hst _ _ (fun _ _=>rfl) fun e' _ h6=>by rw [h2] at h6; injection h6 with h6; subst h6; exact wI.symm) (by rw [hd]; exact hm.modify hst h2 h3 wI.symm h5) ⟨{ e0 with key:=a.eval i },?_,iz,rfl⟩
   . simp only [Instr.mapEntry,bp,qm hu,bI,MapKept.run_getObj_map hh,oU,h1,h2,du,ia,wI,m9,MapKept.run_setObj_map _ hh,bL];rfl
   . rw [Array.toList_modify,ChangeMaps.modify_eq_set _ _ _ _ gE];exact kT.2 ⟨j,by rw [ru,aC rfl,aC eZ]⟩
theorem amk(H:aS w0 Φ N B S a w){v:Operand}{m:Unit->List Kx->Option t.el}{k:Unit->List Kx}{e:Unit->t.el}(hx:bM B S x = .mp loc)(hs:bM B S s = .bo l2)(he:bf B S loc=some (.map fr ag c t T' m))(qH:bf B S l2=some (.bo loc c k))(gT:CN ag t (bM B S v)=some (f,e))(hB:aj B.e loc=none)(hr:rR loc B.e=true) :
 gK P ⟨none,.entryStore T x s v,ty,pos,aft,gd⟩ a w (aS w0 Φ N B ⟨S.t,(loc,.map (fr&&f) ag c t T' fun _=>eB (m ()) (k ()) (e ()))::lr loc S.e,S.n⟩):=by
 obtain⟨S0,hS,ρ,ro,H⟩:=H;have kb:=H.get x;rw [hx] at kb;obtain⟨b,hb,mu⟩:=kb.zY;have has:=H.get s;rw [hs] at has;obtain⟨sn,As,oL⟩:=has.akW;obtain⟨b',es,clock,aW,hh,hst,hm⟩:=H.en _ _ he;rw [hb] at aW;injection aW with aW;injection aW with aW;subst aW;obtain⟨b',iY,nN,sn',e0,h1,h2,h3,h4,h5,h6⟩:=H.en _ _ qH;rw [As] at h1;injection h1 with h1;injection h1 with h1;subst h1;rw [hb] at h2;injection h2 with h2;injection h2 with h2;subst h2;rw [hh] at h3;injection h3 with h3;injection h3 with q1 q2;subst q1; subst q2; subst h6;have pI:=Fb (fr':=fr&&f) (ZG gT (H.get v)) KE;have pF:=hm.less (fr':=fr&&f) KD;obtain⟨j,hj⟩:=kT.1 h4;have gE:es[j]? = some e0:=by simpa using hj
 have yf:=(stamped_iff es clock).1 hst;have aml:=WideElems.findIdx_born yf.2.1 hj;have amm:es.findIdx? (fun e=>((e.born:Nat):Int)==((e0.born:Nat):Int))=some j:=by rw [WideElems.findIdx_arr]; exact aml
 refine .inr (.inl ⟨setBlock w b (.map (es.modify j fun e' => { e' with val:=a.eval v }) clock),?_,S0,hS,ρ,ro,H.KH hb hh hB hr (stamped_modify hst _ _ (fun _ _=>rfl) fun _ _ _=>rfl) (pF.modify hst gE h5 rfl pI)⟩);unfold execOp;have hai:(asInt (goInt (e0.born:Int))).run P w = .ok (e0.born:Int) w:=rfl;simp only [mu,oL,Instr.entryStore,bp,MapKept.run_getObj_map hh,bI,bL,hai,amm,MapKept.run_setObj_map _ hh];rfl
end
section
variable{P:Program}{w w' w0:World}{ρ ρ':Nat->Option Rl}{base:Nat}{ro ro':Nat->Prop}{S0:Pm}{Φ : Pm->Prop}{N:Nat}{B:Bs}{S:Sx}{a:Act}{fr ag:Bool}{c:Kc}{t:Tc}{K:Sx->Fm}
theorem amo(aE:cT P C.ty)(H:aS w0 Φ N B S a w){c':Kc}{m:Unit->List Kx->Option t.el}(hT:fu C.ty T=some (.map kt et c' t' jI))(hx:bM B S x = .mp loc)(he:bf B S loc=some (.map fr ag c t T' m))(Qw:aj B.e S.n=none)(hp:bJ B ⟨S.t,S.e,S.n+1⟩ N d (.it loc S.n)=some S')(hK:∀ n,True->(K ⟨S'.t,(S.n,.iter loc c (fun _ => []) fun _=>n)::S'.e,S'.n⟩).P) :
 gK P ⟨some d,.range T x,ty,pos,aft,gd⟩ a w fun a' w'=>∃ S',aS w0 Φ N B S' a' w'/\(K S').P:=by
 obtain⟨S0,hS,ρ,ro,H⟩:=H;obtain⟨ti,_,hi,ky⟩:=eI aE hT;obtain⟨hu,_,_,_⟩:=JN (w:=w) (ρ := ρ) (base:=w0.heap.size) (ro:=ro) ky hi;have kb:=H.get x;rw [hx] at kb;obtain⟨b,hb,mu⟩:=kb.zY;obtain⟨b',es,clock,aW,hh,hst,hm⟩:=H.en _ _ he;rw [hb] at aW;injection aW with aW;injection aW with aW;subst aW;have amp:=(jA.1 hh).1;have fw:=H.fresh S.n (aA _);have gp:∀ q,q<w.heap.size->(w.alloc (.mapIter (some b) clock #[] clock)).heap[q]? = w.heap[q]? := fun q hq=>ql w _ q hq;have yf:=(stamped_iff es clock).1 hst;have H2:=H.oP (w':=w.alloc (.mapIter (some b) clock #[] clock)) (loc:=S.n) (n:=S.n+1) (r := .it w.heap.size) (e := .iter loc c (fun _ => []) fun _=>(Go.leftOf es #[]).size) (H.from_.alloc _) (by simp) (fun q hq _=>gp q hq) (fun q hq=>by
  injection hq with hq;subst hq;exact .inr ⟨aA _,by simp⟩) Qw (Cd _) (B3 _) (.inl (qF fw)) (.inl fun q hq=>by rw [fw] at hq; cases hq) ⟨b,w.heap.size,es,clock,clock,#[],clock,iJ _ _ _,qF fw _ _ hb,(gp b amp).trans hh,rA w _,yf.1,⟨aA _,aA _⟩,rfl,fun e _=>by simp,fun key r hr=>by cases hr⟩
 have qI:=ZH hp;have fX:=KI (e:=(S.n,.iter loc c (fun _ => []) fun _=>(Go.leftOf es #[]).size)::S.e) (n:=S.n+1) hp;have fv:=hK (Go.leftOf es #[]).size trivial;rw [qI] at fv;refine .inl ⟨.pointer (some ⟨w.heap.size,0,none⟩),_,?_,_,⟨S0,hS,_,_,H2.put fX (.it _ _ _ (iJ _ _ _))⟩,fv⟩;unfold execOp;simp only [Instr.range,mu,bp,qm hu,bI,MapKept.run_getObj_map hh,bL];rfl
theorem amq(h:w1=w\/w1=w.drew)(r)(o):w.grownBy (setBlock w1 r o) (some r):=by
 rcases h with rfl|rfl
 . exact ZF _ _ _
 . exact⟨rfl,rfl,rfl,by rw [KG]; exact aA _,fun k _ hk=>CY w.drew r o fun e=>hk (by rw [e])⟩
theorem amr(H:aS w0 Φ N B S a w){m:Unit->List Kx->Option t.el}{seen:Unit->List (List Kx)}(hx:bM B S x = .it loc l2)(he:bf B S loc=some (.map fr ag c t T m))(hi:bf B S l2=some (.iter loc c seen left))(hB:aj B.e l2=none)(oV:bJ B S N d (.ba [.aR false])=some S1)(fX:bJ B S N d (.ba [.aR true,.un,.un])=some S2)(hK:(Fm.br (fun _=>left ()==0) (.all Unit (fun _=>∀ key x,dC c.ls key=true->m () key=some x->key∈seen ()) fun _=>K S1) (.all (List Kx×Nat) (fun p=>dC c.ls p.1=true/\(m () p.1).isSome=true/\p.1∉seen ()/\p.2<left ()) fun p=>K ⟨S2.t,(l2,.iter loc c (fun _=>p.1::seen ()) fun _=>p.2)::S2.e,S2.n⟩)).P) :
 gK P ⟨some d,.next x false,ty,pos,aft,gd⟩ a w fun a' w'=>∃ S',aS w0 Φ N B S' a' w'/\(K S').P:=by
 obtain⟨S0,hS,ρ,ro,H⟩:=H;have kb:=H.get x;rw [hx] at kb;obtain⟨b2,eP,mu⟩:=kb.Ph;obtain⟨b,es,clock,hb,hh,hst,hm⟩:=H.en _ _ he;obtain⟨b',FI,iY,nN,since,stamps,c0,h1,h2,h3,h4,h5,h6,h7,h8,h9⟩:=H.en _ _ hi;rw [eP] at h1;injection h1 with h1;injection h1 with h1;subst h1;rw [hb] at h2;injection h2 with h2;injection h2 with h2;subst h2;rw [hh] at h3;injection h3 with h3;injection h3 with q1 q2;subst q1; subst q2;have hbb:b≠b2:=fun e=>by
  by_cases hl:loc=l2
  . subst hl;rw [hb] at eP;cases eP
  . exact H.apart loc l2 _ _ b hl hb eP rfl (by rw [e]; rfl)
 obtain⟨k1,k2⟩:=hK;have oT:∀ v w2,(Instr.next (.pointer (some ⟨b2,0,none⟩)) false ty).run P w = .ok v w2->(execOp a.eval ⟨some d,.next x false,ty,pos,aft,gd⟩).run P w = .ok (.value v) w2:=by
  intro v w2 h;unfold execOp;simp only [mu,bp,h,bI,bL]
 rcases run_next_at (P:=P) w ty b2 b since c0 stamps es clock h4 hh h5 h6.1 with ⟨hz,cC⟩|⟨e,jN,w1,pR,cC⟩
 . have amt:(left ()==0)=true:=by rw [h7,hz]; rfl
   have bS:=k1 amt () fun key y hf hk=>by
    obtain⟨e,jN,qH⟩:=hm.2 key y hf hk;obtain⟨jm,cR,bU⟩:=(h8 e jN).1 (all_seen es stamps hz e jN);rw [JO qH bU];exact cR
   have hE:aV w ρ w0.heap.size ro [.aR false] [.bool false] := .cons (.aR _) .nil;exact .inl ⟨_,_,oT _ _ cC,_,⟨S0,hS,_,_,H.put oV (.ba _ _ hE.1 hE.2)⟩,bS⟩
 . obtain⟨FJ,lL⟩:=mem_left jN;obtain⟨key,y,g1,g2,g3⟩:=hm.1 e FJ;have Qy:(left ()==0)=false:=by
    rw [h7];have:(Go.leftOf es stamps).size≠0:=fun h0=>by
     have oF:(Go.leftOf es stamps).toList.length=0:=by simpa using h0
     rw [List.length_eq_zero_iff.1 oF] at jN;cases jN
    simpa using this
   have oR:key∉seen ():=fun hk=>by
    have:=(h8 e FJ).2 ⟨key,hk,g1⟩;rw [lL] at this;cases this
   have fv:=k2 Qy (key,(Go.leftOf es (stamps.push e.born)).size) ⟨g1.2,by rw [g2]; rfl,oR,by rw [h7]; exact left_shrinks es stamps e jN⟩;have ZI:w1.heap[b]? = some (.map es clock):=by rcases pR with rfl|rfl<;>exact hh
   have ZJ:w1.heap[b2]? = some (.mapIter (some b) since stamps c0):=by rcases pR with rfl|rfl<;>exact h4
   have gp:∀ q,q≠b2->(setBlock w1 b2 (.mapIter (some b) since (stamps.push e.born) clock)).heap[q]? = w.heap[q]? := fun q hq=>(CY _ _ _ hq).trans (by rcases pR with rfl|rfl<;>rfl);have yf:=(stamped_iff es clock).1 hst;have aO:(setBlock w1 b2 (.mapIter (some b) since (stamps.push e.born) clock)).heap.size=w.heap.size:=by rw [KG]; rcases pR with rfl|rfl<;>rfl
   have H2:=H.oP (w':=setBlock w1 b2 (.mapIter (some b) since (stamps.push e.born) clock)) (loc:=l2) (n:=S.n) (r := .it b2) (e := .iter loc c (fun _=>key::seen ()) fun _=>(Go.leftOf es (stamps.push e.born)).size) (H.from_.grown (amq pR _ _) (H.Ap eP rfl)) (by rw [aO]; exact aA _) (fun q _ aT=>gp q fun e1=>aT _ eP (by rw [e1]; rfl)) (fun q hq => .inl ⟨_,eP,hq⟩) hB (aA _) (H.lt eP) (.inl (by rw [tn eP]; exact Ext.refl _)) (.inl fun q hq=>by rw [eP] at hq; cases hq) (by
    refine⟨b,b2,es,clock,since,stamps.push e.born,clock,iJ _ _ _,by rw [tn eP]; exact hb,(gp b hbb).trans hh,Qu ZJ,h5,⟨dQ h6.1 h6.2,aA _⟩,rfl,fun e' mw => ?_,fun jm r' hr => ?_⟩
    . rw [contains_push];simp only [gR,cb];constructor
      . rintro (h|h)
        . obtain⟨jm,q1,q2⟩:=(h8 e' mw).1 h;exact⟨jm,NR _ q1,q2⟩
        . have:e'=e:=born_inj yf.2.1 mw FJ h;subst this;exact⟨key,WC,g1⟩
      . rintro⟨jm,q1,q2⟩
        rcases fM.1 q1 with rfl|q1
        . right;have:e'=e:=Go.entry_eq_of_key yf.2.2 mw FJ (q2.1.trans g1.1.symm);rw [this]
        . exact .inl ((h8 e' mw).2 ⟨jm,q1,q2⟩)
    . injection hr with r1 r2;subst r1;exact⟨rfl,e,FJ,by simp,g1⟩)
   rw [tn eP] at H2;have At:=ZH fX;rw [At] at fv;have hE:aV (setBlock w1 b2 (.mapIter (some b) since (stamps.push e.born) clock)) ρ w0.heap.size ro [.aR true,.un,.un] [.bool true,e.key,e.val] := .cons (.aR _) (.cons (.un _) (.cons (.un _) .nil));exact .inl ⟨_,_,oT _ _ cC,_,⟨S0,hS,_,_,H2.put (KI fX) (.ba _ _ hE.1 hE.2)⟩,fv⟩
end
open Go.RowKit
section
variable{P:Program}{w w' w0:World}{ρ ρ':Nat->Option Rl}{base:Nat}{ro ro':Nat->Prop}{S0:Pm}{Φ : Pm->Prop}{N:Nat}{B:Bs}{S:Sx}{a:Act}{ge:Nat->Option En}{v:Value}
def ρL(ρ:Nat->Option Rl)(L:List Nat):Nat->Option Rl:=fun k=>match L[k]? with
 | some l => ρ l
 | none=>none
theorem wJ{L:List Nat}{k:Nat}(h:L[k]? = some l) : ρL ρ L k = ρ l:=by unfold ρL; rw [h]
theorem uQ{L:List Nat}{k:Nat}(h : ρL ρ L k=some r):∃ l,L[k]? = some l /\ ρ l=some r:=by
 unfold ρL at h;split at h
 . rename_i l hl; exact⟨l,hl,h⟩
 . cases h
theorem amu(ag fr)(t)(x):AV.plain false (eo ag fr t x)=true:=by
 unfold eo;have h:=EV fr t x
 cases ag with
 | true=>exact h
 | false =>
  simp only [dV,dw]
  cases hc:aP fr t x with
  | nil=>rfl
  | cons c l =>
   rw [hc] at h
   cases l with
   | nil=>simpa [AV.dJ] using h
   | cons c2 l=>rfl
theorem af.ZK{x:AV}{ρ2:Nat->Option Rl}(h:af w ρ base ro x v)(hx:AV.plain false x=true):af w ρ2 0 ro x v :=
 (h.plain (ρ' := ρ2) hx fun _ _ h=>h).mono (fun _ _ _=>rfl) (Ext.refl _) (bO _) fun _ h=>h
structure wK (w:World) (ρ:Nat->Option Rl) (ro:Nat->Prop) (st ju:wy):Prop where
 more:∃ m,ju.aG=st.aG++m
 nodup:st.aG.Nodup->ju.aG.Nodup
 some_:∀ l∈ju.aG,l∈st.aG\/∃ r,ρ l=some r
 en:∀ L,(∃ m,L=ju.aG++m)->∀ k e,aj ju.es k=some e->aj st.es k=some e\/c9 w (ρL ρ L) 0 ro k e
theorem wK.refl(st):wK w ρ ro st st:=⟨⟨[],by simp⟩,id,fun _ h => .inl h,fun _ _ _ _ h => .inl h⟩
theorem wK.trans(h:wK w ρ ro s1 s2)(k:wK w ρ ro s2 s3):wK w ρ ro s1 s3:=by
 obtain⟨m,hm⟩:=h.more;obtain⟨n,hn⟩:=k.more;refine⟨⟨m++n,by rw [hn,hm,fR]⟩,fun q=>k.nodup (h.nodup q),fun l hl => ?_,fun L hL i e he => ?_⟩
 . rcases k.some_ l hl with h1|h1
   . exact h.some_ l h1
   . exact .inr h1
 . rcases k.en L hL i e he with h1|h1
   . obtain⟨q,hq⟩:=hL;exact h.en L ⟨n++q,by rw [hq,hn,fR]⟩ i e h1
   . exact .inr h1
theorem KJ{l:Nat}:∀ {ls:List Nat},bD l ls=false->l∉ls
 | [],_=>by simp
 | k::ls,h=>by
  simp only [bD,kf,NV,ne_eq] at h;simp only [fM,xG];exact⟨fun e=>h.1 e.symm,KJ h.2⟩
theorem Qz{ls:List Nat}(h:ls.Nodup)(hl:l∉ls):(ls ++ [l]).Nodup:=by
 rw [Ek];exact⟨h,by simp,fun a ha b hb=>by simp only [jD] at hb; subst hb; exact fun e=>hl (e▸ha)⟩
theorem yE{ls m:List Nat}:(ls ++ [l]++m)[ls.length]? = some l:=by simp
theorem QA{l:Unit->List t.el}(he:c9 w ρ base ro loc (.row fr t T l))(hm:bD loc st.aG=false):wK w ρ ro st ⟨st.aG ++ [loc],(st.aG.length,.row false t T l)::st.es⟩:=by
 obtain⟨A,c,css,hA,bw,hlen,dt⟩:=he;refine⟨⟨[loc],rfl⟩,fun q=>Qz q (KJ hm),fun l' cg => ?_,fun L hL k e na => ?_⟩
 . rcases iU.1 cg with h1|h1
   . exact .inl h1
   . simp only [jD] at h1; subst h1; exact .inr ⟨_,hA⟩
 . rw [cm] at na;split at na
   . rename_i e0;subst e0;cases na;obtain⟨m,rfl⟩:=hL;refine .inr ⟨A,c,css,by rw [wJ yE]; exact hA,bw.Cf (bO _),hlen,fun k cs j x u k1 k2 k3 => ?_⟩;have aO:=bw.2 cs (eY k1);have h6:=(Ao (g:=false) (uH aO fun j y v r1 r2=>dt k cs j y v k1 r1 r2) (fun h=>by cases h)).2 j x u k2 k3;exact h6.ZK (we (EV _ _ _) k2)
   . exact .inl na
mutual
theorem amv(cH:∀ loc e,ge loc=some e->c9 w ρ base ro loc e):∀ (s:Sg) (x y:AV) (v:Value) (st ju:wy),PM ge s x st=some (y,ju)->af w ρ base ro x v->wK w ρ ro st ju/\∀ L,(∃ m,L=ju.aG++m)->af w (ρL ρ L) 0 ro y v:=by
 intro s x y v st ju h hx;unfold PM at h;split at h
 . cases h;exact⟨.refl _,fun _ _ => .un _⟩
 . rename_i t loc;split at h
   . rename_i fr t' T l he;split at h
     . rename_i hc;obtain⟨rfl,hm⟩:=hc;cases h;obtain⟨A',n,c',bG,hv⟩:=hx.tf;refine⟨QA (cH _ _ he) hm,fun L hL => ?_⟩;obtain⟨m,rfl⟩:=hL;rw [hv];exact .own _ _ _ _ (by rw [wJ yE]; exact bG)
     . cases h
   . cases h
 . rename_i t loc;split at h
   . rename_i fr t' T l he;split at h
     . rename_i hc;obtain⟨rfl,hm⟩:=hc;cases h;obtain⟨A,c,css,hA,bw,hlen,dt⟩:=cH _ _ he;obtain⟨A',n,c',bG,hv⟩:=hx.tf;rw [hA] at bG;injection bG with bG;injection bG with e1 e2 e3;subst e1; subst e2; subst e3;refine⟨QA (cH _ _ he) hm,fun L hL => ?_⟩;obtain⟨m,rfl⟩:=hL;have h1:af w (ρL ρ (st.aG ++ [loc]++m)) 0 ro (.cG t st.aG.length (fun _=>0) fun _=>(l ()).length) (sliced A 0 (l ()).length c t.size) := .cG _ _ _ _ A _ c (by rw [wJ yE]; exact hA) ⟨bO _,aA _⟩;have h2:sliced A 0 (l ()).length c t.size = .slice A (l ()).length c:=by
        unfold sliced
        cases A with
        | none=>simp
        | some q=>simp [Addr.add]
       rw [hv,<- h2];exact h1
     . cases h
   . cases h
 . rename_i t t2 loc a b;split at h
   . rename_i fr t' T l he;split at h
     . rename_i hc;obtain⟨⟨rfl,rfl⟩,hm⟩:=hc;cases h;obtain⟨A',n,c',bG,bk,uJ,hv⟩:=hx.yb;refine⟨QA (cH _ _ he) hm,fun L hL => ?_⟩;obtain⟨m,rfl⟩:=hL;rw [hv];exact .cG _ _ _ _ _ _ _ (by rw [wJ yE]; exact bG) ⟨bk,uJ⟩
     . cases h
   . cases h
 . rename_i c t loc;split at h
   . rename_i fr ag c' t' T m he;split at h
     . rename_i hc;obtain⟨rfl,rfl,hm⟩:=hc;cases h;obtain⟨b,es,clock,hb,hh,hst,hM⟩:=cH _ _ he;obtain⟨b',aW,hv⟩:=hx.zY;refine⟨⟨⟨[loc],rfl⟩,fun q=>Qz q (KJ hm),fun l' cg => ?_,fun L hL k e na => ?_⟩,fun L hL => ?_⟩
       . rcases iU.1 cg with h1|h1
         . exact .inl h1
         . simp only [jD] at h1; subst h1; exact .inr ⟨_,hb⟩
       . rw [cm] at na;split at na
         . rename_i e0;subst e0;cases na;obtain⟨m',rfl⟩:=hL;exact .inr ⟨b,es,clock,by rw [wJ yE]; exact hb,hh,hst,(hM.less (fr':=false) (fun h=>by cases h)).rQ fun x v hx=>hx.ZK (amu _ _ _ _)⟩
         . exact .inl na
       . obtain⟨m',rfl⟩:=hL;rw [hv];exact .mp _ _ (by rw [wJ yE]; exact aW)
     . cases h
   . cases h
 . rename_i l loc;split at h
   . rename_i T cells he;split at h
     . cases h
     . rename_i hm;split at h
       . rename_i ys PN hc;cases h;obtain⟨b,cs,hb,hh,hE⟩:=cH _ _ he;obtain⟨b',aW,hv⟩:=hx.ya;obtain⟨h1,h2⟩:=QB cH l cells ys cs _ _ hc hE;have pF:bD loc st.aG=false:=by simpa using hm
         obtain⟨m1,FK⟩:=h1.more;dsimp only at FK;refine⟨⟨⟨[loc]++m1,by rw [FK,List.append_assoc]⟩,fun q=>h1.nodup (Qz q (KJ pF)),fun l' cg => ?_,fun L hL k e na => ?_⟩,fun L hL => ?_⟩
         . rcases h1.some_ l' cg with h3|h3
           . rcases iU.1 h3 with h4|h4
             . exact .inl h4
             . simp only [jD] at h4; subst h4; exact .inr ⟨_,hb⟩
           . exact .inr h3
         . rw [cm] at na;split at na
           . rename_i e0;subst e0;cases na;have h3:=h2 L hL;obtain⟨m,rfl⟩:=hL;refine .inr ⟨b,cs,?_,hh,h3⟩;rw [wJ (l:=loc) (by dsimp only; rw [FK,List.append_assoc]; exact yE)];exact hb
           . exact h1.en L hL k e na
         . obtain⟨m,rfl⟩:=hL;rw [hv];exact .ptr _ _ _ (by rw [wJ (l:=loc) (by dsimp only; rw [FK,List.append_assoc]; exact yE)]; exact aW)
       . cases h
   . cases h
 . split at h
   . rename_i hp
     cases hc:coerce ge s x with
     | none=>rw [hc] at h; cases h
     | some y' =>
      rw [hc] at h;cases h;refine⟨.refl _,fun L _ => ?_⟩;exact (YM cH (fun _ h=>h) s x _ v hc hx (.inl hp)).mono (fun _ _ _=>rfl) (fun l r h=>by cases h) (aA _) fun _ h=>h
   . cases h
theorem QB(cH:∀ loc e,ge loc=some e->c9 w ρ base ro loc e):∀ (ss:List Sg) (xs ys:List AV) (vs:List Value) (st ju:wy),Fo ge ss xs st=some (ys,ju)->aV w ρ base ro xs vs->wK w ρ ro st ju/\∀ L,(∃ m,L=ju.aG++m)->aV w (ρL ρ L) 0 ro ys vs:=by
 intro ss xs ys vs st ju h hE;unfold Fo at h;split at h
 . cases h;rw [hE.none];exact⟨.refl _,fun _ _ => .nil⟩
 . rename_i s ss x xs;split at h
   . rename_i y Y1 h1;split at h
     . rename_i JS PN h2;cases h;obtain⟨u,us,rfl,hx,m5⟩:=hE.head;obtain⟨k1,k2⟩:=amv cH s x y u _ _ h1 hx;obtain⟨k3,k4⟩:=QB cH ss xs JS us _ _ h2 m5;refine⟨k1.trans k3,fun L hL => ?_⟩;refine .cons (k2 L ?_) (k4 L hL);obtain⟨m,hm⟩:=k3.more;obtain⟨q,hq⟩:=hL;exact⟨m++q,by rw [hq,hm,fR]⟩
     . cases h
   . cases h
 . cases h
end
theorem af.CZ{x:AV}{q:Nat->Prop}(h:af w ρ base ro x v)(hx:∀ l,q l->AV.has l x=false)(hρ:∀ l r,ρ l=some r->¬ q l\/r.dz=true -> ρ' l=some r):af w ρ' base ro x v:=by
 have hl:∀ {l:List AV} {j:Nat} {y:AV},(∀ k,q k->AV.lq k l=false)->l[j]? = some y->∀ k,q k->AV.has k y=false:=fun h hy k hk=>mg (h k hk) hy
 induction h with
 | un=>exact .un _
 | fG=>exact .fG _
 | int=>exact .int _ _
 | lit=>exact .lit _ _
 | bool=>exact .bool _
 | aR=>exact .aR _
 | str=>exact .str _
 | nil=>exact .nil
 | sl fr t l A c css cg hc hr lh cP h ih=>exact .sl fr t l A c css cg hc hr lh cP fun k cs j y v h1 h2 h3=>ih k cs j y v h1 h2 h3 fun k _=>mg (wg _ _ _ _) h2
 | wide fr t l n A c hn h ih=>exact .wide fr t l n A c hn (ih fun k _=>rfl)
 | bh cells off b o cs hr ah cg hc h ih=>exact .bh cells off b o cs hr ah cg hc fun j y v h1 h2=>ih j y v h1 h2 (hl (fun k hk=>by simpa only [AV.has] using hx k hk) h1)
 | ptr l off b h=>exact .ptr _ _ _ (hρ _ _ h (.inr rfl))
 | fq l off n b h=>exact .fq _ _ _ _ (hρ _ _ h (.inr rfl))
 | mp l b h=>exact .mp _ _ (hρ _ _ h (.inr rfl))
 | bo l s h=>exact .bo _ _ (hρ _ _ h (.inr rfl))
 | it l l2 b h=>exact .it _ _ _ (hρ _ _ h (.inr rfl))
 | own l A n c h=>exact .own _ _ _ _ (hρ _ _ h (.inl fun hq=>by have:=hx l hq; simp [AV.has] at this))
 | cZ t l k off A n c b h hA h0 hn=>exact .cZ _ _ _ _ _ _ _ _ (hρ _ _ h (.inl fun hq=>by have:=hx l hq; simp [AV.has] at this)) hA h0 hn
 | cG t l a b A n c h bk=>exact .cG _ _ _ _ _ _ _ (hρ _ _ h (.inl fun hq=>by have:=hx l hq; simp [AV.has] at this)) bk
 | agg l vs cg h ih=>exact .agg _ _ cg fun j y v h1 h2=>ih j y v h1 h2 (hl (fun k hk=>by simpa only [AV.has] using hx k hk) h1)
 | ba l vs cg h ih=>exact .ba _ _ cg fun j y v h1 h2=>ih j y v h1 h2 (hl (fun k hk=>by simpa only [AV.has] using hx k hk) h1)
 | fn f dH vs cg h ih=>exact .fn _ _ _ cg fun j y v h1 h2=>ih j y v h1 h2 (hl (fun k hk=>by simpa only [AV.has] using hx k hk) h1)
theorem KK(g):∀ (l) (j:Nat),(AV.oQ g l)[j]? = l[j]?.map (AV.fW g)
 | [],j=>by simp [AV.oQ]
 | x::l,0=>by simp [AV.oQ]
 | x::l,j+1=>by simpa [AV.oQ] using KK g l j
theorem ZL(g):∀ (l),(AV.oQ g l).length=l.length
 | []=>rfl
 | x::l=>by simp [AV.oQ,ZL g l]
theorem QC(g)(fr)(t)(x):AV.oQ g (aP fr t x)=aP fr t x:=by cases t<;>rfl
theorem amw(g)(ag fr)(t)(x):AV.fW g (eo ag fr t x)=eo ag fr t x:=by
 unfold eo;have h:=QC g fr t x
 cases ag with
 | true =>
  simp only [eO,AV.fW];rw [h]
 | false =>
  simp only [dV,dw]
  cases hc:aP fr t x with
  | nil=>rfl
  | cons c l =>
   rw [hc] at h
   cases l with
   | nil=>simpa [AV.oQ] using h
   | cons c2 l=>rfl
theorem af.fW{x:AV}(h:af w ρ base ro x v)(hρ:∀ l r,ρ l=some r -> ρ' (g l)=some r):af w ρ' base ro (AV.fW g x) v:=by
 have hm:∀ {l:List AV} {vs:List Value},(∀ (j:Nat) x v,l[j]? = some x->vs[j]? = some v->af w ρ' base ro (AV.fW g x) v)->∀ (j:Nat) x v,(AV.oQ g l)[j]? = some x->vs[j]? = some v->af w ρ' base ro x v:=by
  intro l vs h j x v hx hv;rw [KK] at hx
  cases hj:l[j]? with
  | none=>rw [hj] at hx; cases hx
  | some y =>
   rw [hj] at hx;simp only [du,bF] at hx;subst hx;exact h j y v hj hv
 induction h with
 | un=>exact .un _
 | fG=>exact .fG _
 | int=>exact .int _ _
 | lit=>exact .lit _ _
 | bool=>exact .bool _
 | aR=>exact .aR _
 | str=>exact .str _
 | nil=>exact .nil
 | sl fr t l A c css hl hc hr lh cP h ih =>
  refine .sl fr t l A c css hl hc hr lh cP fun k cs j y v h1 h2 h3 => ?_;have h4:AV.fW g y=y:=by
   have h5:=KK g (aP fr t fun _=>(l ()).getD k t.aa) j;rw [QC,h2] at h5;simpa using h5.symm
  rw [<- h4];exact ih k cs j y v h1 h2 h3
 | wide fr t l n A c hn h ih=>exact .wide fr t l n A c hn ih
 | bh cells off b o cs hr ah hl hc h ih=>exact .bh _ off b o cs hr ah KL hc (hm ih)
 | ptr l off b h=>exact .ptr _ _ _ (hρ _ _ h)
 | fq l off n b h=>exact .fq _ _ _ _ (hρ _ _ h)
 | mp l b h=>exact .mp _ _ (hρ _ _ h)
 | bo l s h=>exact .bo _ _ (hρ _ _ h)
 | it l l2 b h=>exact .it _ _ _ (hρ _ _ h)
 | own l A n c h=>exact .own _ _ _ _ (hρ _ _ h)
 | cZ t l k off A n c b h hA h0 hn=>exact .cZ _ _ _ _ _ _ _ _ (hρ _ _ h) hA h0 hn
 | cG t l a b A n c h bk=>exact .cG _ _ _ _ _ _ _ (hρ _ _ h) bk
 | agg l vs hl h ih=>exact .agg _ _ KL (hm ih)
 | ba l vs hl h ih=>exact .ba _ _ KL (hm ih)
 | fn f dH vs hl h ih=>exact .fn _ _ _ KL (hm ih)
theorem c9.fW{e:En}{k:Nat}(h:c9 w ρ base ro k e)(hρ:∀ l r,ρ l=some r -> ρ' (g l)=some r):c9 w ρ' base ro (g k) (En.fW g e):=by
 cases e with
 | box T cells =>
  obtain⟨b,cs,h1,h4,h5⟩:=h;have h6:af w ρ base ro (.agg cells) (.agg cs.toArray) := .agg _ _ h5.1 h5.2;obtain⟨vs,h7,h8⟩:=(h6.fW hρ).oK;have h9:cs=vs:=by simpa using h7
  subst h9;exact⟨b,cs,hρ _ _ h1,h4,h8⟩
 | row fr t T m =>
  obtain⟨A,c,css,h1,h2,h3,h5⟩:=h;refine⟨A,c,css,hρ _ _ h1,h2,h3,fun k cs j x v k1 k2 k3 => ?_⟩;have h4:AV.fW g x=x:=by
   have h5:=KK g (aP fr t fun _=>(m ()).getD k t.aa) j;rw [QC,k2] at h5;simpa using h5.symm
  rw [<- h4];exact (h5 k cs j x v k1 k2 k3).fW hρ
 | map fr ag c t T m =>
  obtain⟨b,es,clock,h1,h2,h3,h4⟩:=h;exact⟨b,es,clock,hρ _ _ h1,h2,h3,h4.rQ fun x v hx=>by rw [<- amw g]; exact hx.fW hρ⟩
 | iter ml c seen left =>
  obtain⟨b,b2,es,clock,since,stamps,c0,h1,h2,h3⟩:=h;exact⟨b,b2,es,clock,since,stamps,c0,hρ _ _ h1,hρ _ _ h2,h3⟩
 | bo ml c key =>
  obtain⟨b,es,clock,s,e,h1,h2,h3⟩:=h;exact⟨b,es,clock,s,e,hρ _ _ h1,hρ _ _ h2,h3⟩
 | ft k=>exact hρ _ _ h
 | dead=>obtain⟨r,h⟩:=h; exact⟨r,hρ _ _ h⟩
end
end Go.Proofs.YtamjbkaclhgffaaGreat
