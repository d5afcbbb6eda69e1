/-
  The abstract run: operations on the run's own memory are sound: slices that are made, written, or grow.
-/
import Derived.Test.YtamjbkaclhgffaaGreatSh8
import Derived.WideKeyEntry
set_option linter.all false
namespace Go.Proofs.YtamjbkaclhgffaaGreat
open Go.RowKit
variable{aft:Array Edge}{es jV:Array MapEntry}{f fr fr' g kO:Bool}{C:Cx}{css news:List (List Value)}{k' key:List Kx}{B0 T T' b base born c clock d e et j kt l2 loc m n pr sz:Nat}{o o':Obj}{i s x:Operand}{gd:Option (Nat×Bool)}{A X:Option Addr}{pos:String}{S' S1 S2:Sx}{t t' t0:Tc}{α:Type}{ty:TypeId}{a0 b0 left:Unit->Nat}{kv v:Value}{w w1:World}
theorem abx{size:Nat}:∀ (css:List (List Value)),(∀ cs∈css,cs.length=size)->∀ (k off n:Nat) (vs:List Value) (hk:k<css.length),off+n<=size->vs.length=n ->
 css.flatten.take (k*size+off)++vs++css.flatten.drop (k*size+off+n)=(css.set k ((css[k]).take off++vs++(css[k]).drop (off+n))).flatten
 | [],_,k,_,_,_,hk,_,_=>by cases hk
 | cs::css,h,0,off,n,vs,_,nL,hl=>by
  have hc:cs.length=size:=h cs (by simp);simp only [vR,ia,Kq,AJ,List.getElem_cons_zero];rw [amK oo,amL oo,fl,fl,fl]
 | cs::css,h,k+1,off,n,vs,hk,nL,hl=>by
  have hc:cs.length=size:=h cs (by simp);have ih:=abx css (fun c hc=>h c (by simp [hc])) k off n vs (by simpa using hk) nL hl;simp only [Kq,FX,List.getElem_cons_succ];rw [<- ih];have e1:(k+1)*size+off=cs.length+(k*size+off):=by rw [hc,mV]; omega
  rw [e1,pZ cs.length,List.take_length_add_append,aDY];simp
theorem apT{size g:Nat}(h:w.heap[g]? = some (.cells css.flatten.toArray e (0,0)))(hl:∀ cs∈css,cs.length=size)(hb:base<=g)(hm:css.length<=maxLen):dc w base e size (some ⟨g,0,none⟩) css.length css:=by
 have hf:=qQ css hl;refine⟨⟨hf,.inr ⟨g,css.length,css.flatten.toArray,rfl,hb,h,aN _,hm,by simpa using hf,?_⟩⟩,hl⟩;rw [<- hf];exact vG
theorem aby:∀ {l:List (Nat×AV)} {k:Nat} {xs:List AV},BA k l=some xs->l.map (·.2)=xs/\l.map (·.1)=List.range' k l.length
 | [],k,xs,h=>by
  simp only [BA,bU] at h;subst h;exact⟨rfl,rfl⟩
 | (i,x)::l,k,xs,h=>by
  unfold BA at h;split at h
  . rename_i hi
    cases hr:BA (k+1) l with
    | none=>rw [hr] at h; cases h
    | some ys =>
     rw [hr] at h;simp only [dG,bU] at h;subst h;obtain⟨h1,h2⟩:=aby hr;exact⟨by simp [h1],by simp [h2,eq_of_beq hi,P5]⟩
  . cases h
theorem abz{size:Nat}:∀ (qs:List (Nat×Value)) (css:List (List Value)) (k:Nat) (pre z:List Value),(qs.map (·.2)).map Value.cells=css.map List.toArray->qs.map (·.1)=List.range' k qs.length->(∀ cs∈css,cs.length=size)->pre.length=k*size->z.length=qs.length*size ->
 Instr.fill (fun i=>some (i*size,size)) (pre++z).toArray qs=some (pre++css.flatten).toArray
 | [],[],k,pre,z,_,_,_,_,hz=>by
  have:z = []:=De (by simpa using hz);subst this;rfl
 | (i,v)::qs,cs::css,k,pre,z,hc,hi,hl,hp,hz=>by
  simp only [jj,vL,dE,P5] at hc hi;obtain⟨rfl,hi⟩:=hi;have c7:cs.length=size:=hl cs (by simp);have zv:z.length=qs.length*size+size:=by rw [hz,dE,mV]; omega
  rw [Rh (vs:=cs) (by rw [c7]) hc.1 (by rw [c9]; omega)];have e:(pre++z).take (i*size)++cs++(pre++z).drop (i*size+cs.length)=(pre++cs)++z.drop size:=by
   rw [<- hp,vQ,aDY,c7]
  rw [e];have:=abz qs css (i+1) (pre++cs) (z.drop size) hc.2 hi (fun c h=>hl c (by simp [h])) (by rw [c9,hp,c7,mV]; omega) (by rw [iU]; omega);rw [this];simp
 | [],_::_,_,_,_,hc,_,_,_,_=>by simp at hc
 | _::_,[],_,_,_,hc,_,_,_,_=>by simp at hc
theorem abA{P:Program}{t size bytes cn ty:Nat}(hE:EI P t e size bytes)(bS:dc w base e size A c css)(B:Nat)(hr:Rd w B size X news)(hm:m=news.length)(h1:∀ cs∈news,∀ u∈cs,u.oneCell'=true)(qR:css.length+m<=maxLen)(AP:(css.length+m)*bytes<=140737488355328)(iF:base<=w.heap.size) :
 ∃ A' c' w',(Builtin.append_ #[t,t] ty #[.slice A css.length c,.slice X m cn]).run P w = .ok (.slice A' (css++news).length c') w'/\dc w' base e size A' c' (css++news)/\w.grownBy w' (A.map (·.block))/\(A'.map (·.block)=A.map (·.block)\/(A'.map (·.block)=some w.heap.size/\w.heap.size<w'.heap.size)):=by
 rcases X with _|ad
 . have hn:news = []:=by
    rcases news with _|⟨x,l⟩
    . rfl
    . obtain⟨_,_,h,_⟩:=hr 0 x rfl;cases h
   subst hn;subst hm;obtain⟨ht,i,z,hi,hz,hs,hb,xA,h0⟩:=hE;refine⟨A,c,w,?_,by simpa using bS,World.grownBy.refl w _,.inl rfl⟩;rw [th];exact YY
 . subst hm;obtain⟨ht,i,z,hi,hz,Bu,hb,xA,h0⟩:=hE;have hlen:∀ cs∈css++news,cs.length=size:=fun cs hc=>by
    rcases nJ.1 hc with h|h
    . exact bS.2 cs h
    . exact hr.len cs h
   obtain⟨v',w',cZ,h2,h3,_,h5⟩:=run_append_own_at (P:=P) w base t ty e i z size bytes ht hi hz Bu hb xA h0 (.slice A css.length c) css.length css.flatten bS.1 ad news.length cn news.flatten (qQ news hr.len)
    (fun j u hu=>by obtain⟨ad',h,hc⟩:=hr.flat j u hu; injection h with h; rw [h]; exact hc)
    (fun u hu=>by obtain⟨cs,aS,vU⟩:=anj.1 hu; exact h1 cs aS u vU) qR AP iF
   obtain⟨A',c',rfl,h4⟩:=dc.of (css:=css++news) (by rw [P2]; exact h2) (by simp) hlen;rw [QP,QP] at h5;rw [QP] at h3;refine⟨A',c',w',cZ,h4,h3,h5.imp id fun h=>⟨h,?_⟩⟩;obtain⟨ad2,h6,h7⟩:=nH.1 h;have:=(h4.lt h6).2;omega
theorem BO{P:Program}{i:fC}(ht:gP P T i=true)(hi:i.ti = .slice e sz b):EI P T e sz b/\0<b:=by
 obtain⟨ds,hd,hm⟩:=oB ht;rw [hi] at hm;cases ds<;>first|(simp [kN] at hm; done)|skip
 rename_i e';simp only [kN,aD,cC,aU] at hm;obtain⟨⟨he,h0,hb⟩,h3⟩:=hm;subst he
 cases hj:P.info? e' with
 | none=>rw [hj] at h3; simp at h3
 | some j =>
  rw [hj] at h3;simp only [aD,cC] at h3
  cases hz:j.zero with
  | none=>rw [hz] at h3; simp at h3
  | some z =>
   rw [hz] at h3;exact⟨⟨hd,j,z,hj,hz,h3.1.1,h3.1.2,by simpa using h3.2,h0⟩,hb⟩
theorem abB(hb:0<b)(h:(n+m)*b<=140737488355328):n+m<=maxLen:=by
 have:(n+m)*1<=(n+m)*b:=j7 _ hb;unfold maxLen;omega
section
variable{P:Program}{w w' w0:World}{ρ ρ':Nat->Option Rl}{base:Nat}{ro ro':Nat->Prop}{S0:Pm}{Φ : Pm->Prop}{N:Nat}{B:Bs}{S:Sx}{a:Act}
theorem apU(H:bK w0 S0 N B S a w ρ ro){x:AV}{m:Unit->List t.el}(h:RG B S t x=some (f,m))(hx:aj w ρ w0.heap.size ro x v) :
 ∃ X c,∃ news:List (List Value),v = .slice X (m ()).length c/\news.length=(m ()).length/\Rd w w.heap.size t.size X news/\∀ (k:Nat) (cs:List Value) (j:Nat) (y:AV) (u:Value),news[k]? = some cs->(bf f t fun _=>(m ()).getD k t.aa)[j]? = some y->cs[j]? = some u->aj w ρ w0.heap.size ro y u:=by
 unfold RG at h;split at h
 . simp only [bU,um] at h;obtain⟨rfl,rfl⟩:=h;exact⟨none,0,[],hx.xG,rfl,Rd.nil _ _ _ _,fun k cs j y u h=>by simp at h⟩
 . split at h
   . rename_i ht;subst ht;simp only [bU,um] at h;obtain⟨rfl,rfl⟩:=h;obtain⟨A,c,css,hl,hc,hr,_,_,dQ,rfl⟩:=hx.rh;exact⟨A,c,css,rfl,hl,hr,dQ⟩
   . cases h
 . split at h
   . rename_i ht;subst ht;simp only [bU,um] at h;obtain⟨rfl,rfl⟩:=h;obtain⟨A,c,css,hl,hc,hr,_,_,dQ,rfl⟩:=(Bx hx).rh;exact⟨A,c,css,rfl,hl,hr,dQ⟩
   . cases h
 . split at h
   . rename_i fr t' T l he;split at h
     . rename_i ht;subst ht;simp only [bU,um] at h;obtain⟨rfl,rfl⟩:=h;obtain⟨A,c,css,hA,bS,hlen,dQ⟩:=H.en _ _ he;obtain⟨A',n,c',bW,rfl⟩:=hx.uI;rw [hA] at bW;injection bW with bW;injection bW with e1 e2 e3;subst e1; subst e2; subst e3;exact⟨A,c,css,rfl,hlen,bS.rd,dQ⟩
     . cases h
   . cases h
 . rename_i t2 loc a b;split at h
   . rename_i fr t' T l he;split at h
     . rename_i ht;subst ht;split at h
       . rename_i bc;simp only [bU,um] at h;obtain⟨rfl,rfl⟩:=h;obtain⟨A,c,css,hA,bS,hlen,dQ⟩:=H.en _ _ he;obtain⟨A',n,c',bW,bJ,wg,rfl⟩:=hx.y9;rw [hA] at bW;injection bW with bW;injection bW with e1 e2 e3;subst e1; subst e2; subst e3;obtain⟨X,h1,h2⟩:=ape bS.rd bJ oo bS.cap.1;have oH:(((l ()).take (b ())).drop (a ())).length=b () - a ():=by simp; omega
         refine⟨X,_,_,by rw [eq_of_beq bc,h1,oH],by simp [hlen],h2,fun k cs j y u q1 q2 q3 => ?_⟩;rw [mo,e9] at q1;split at q1
         . rename_i af;refine dQ (a ()+k) cs j y u q1 ?_ q3;have e:(((l ()).take (b ())).drop (a ())).getD k t'.aa=(l ()).getD (a ()+k) t'.aa:=by
            rw [aY,aY,mo,e9,aG af]
           rw [<- e];exact q2
         . cases q1
       . cases h
     . cases h
   . cases h
 . cases h
theorem apV(h:t.flat=true)(f:Bool)(x:Unit->t.el):bf (f||t.flat) t x=bf f t x:=by cases t<;>first|rfl|cases h
theorem Sn(H:bK w0 S0 N B S a w ρ ro){x:AV}{m:Unit->List t.el}(h:wo B S t x=some (f,m))(hx:aj w ρ w0.heap.size ro x v) :
 ∃ X c,∃ news:List (List Value),v = .slice X (m ()).length c/\news.length=(m ()).length/\Rd w w.heap.size t.size X news/\∀ (k:Nat) (cs:List Value) (j:Nat) (y:AV) (u:Value),news[k]? = some cs->(bf f t fun _=>(m ()).getD k t.aa)[j]? = some y->cs[j]? = some u->aj w ρ w0.heap.size ro y u:=by
 unfold wo at h;rw [nH] at h;obtain⟨⟨f0,m0⟩,h0,h1⟩:=h;simp only [um] at h1;obtain⟨rfl,rfl⟩:=h1;obtain⟨X,c,news,q1,q2,q3,q4⟩:=apU H h0 hx;refine⟨X,c,news,q1,q2,q3,?_⟩
 cases ht:t.flat with
 | false=>rw [iY]; exact q4
 | true=>rw [<- ht]; intro k cs j y u hk hy hu; rw [apV ht] at hy; exact q4 k cs j y u hk hy hu
theorem Mt{m:Unit->List t.el}(hr:Rd w B0 t.size X news)(hc:∀ (k:Nat) (cs:List Value) (j:Nat) (y:AV) (u:Value),news[k]? = some cs->(bf f t fun _=>(m ()).getD k t.aa)[j]? = some y->cs[j]? = some u->aj w ρ base ro y u):∀ cs∈news,∀ u∈cs,u.oneCell'=true:=by
 intro cs aS;obtain⟨k,hk⟩:=mn.1 aS;exact Sf (apO f t _) (wa (hr.len cs aS) fun j y v h1 h2=>hc k cs j y v hk h1 h2)
theorem abC{l m:List t.el}(hl:css.length=l.length)(hlen:∀ cs∈css++news,cs.length=t.size)(h1:∀ (k:Nat) (cs:List Value) (j:Nat) (y:AV) (u:Value),css[k]? = some cs->(bf f t fun _=>l.getD k t.aa)[j]? = some y->cs[j]? = some u->aj w ρ base ro y u)(h2:∀ (k:Nat) (cs:List Value) (j:Nat) (y:AV) (u:Value),news[k]? = some cs->(bf g t fun _=>m.getD k t.aa)[j]? = some y->cs[j]? = some u->aj w ρ base ro y u) :
 ∀ (k:Nat) (cs:List Value) (j:Nat) (y:AV) (u:Value),(css++news)[k]? = some cs->(bf (f&&g) t fun _=>(l++m).getD k t.aa)[j]? = some y->cs[j]? = some u->aj w ρ base ro y u:=by
 intro k cs j y u hk hy hu;have bc:=hlen cs (gK hk);rcases cv k css.length with h|h
 . rw [r7 h] at hk;rw [show (l++m).getD k t.aa=l.getD k t.aa by simp [aY,r7 (show k<l.length from oo)]] at hy;exact (BM (g:=f&&g) (wa bc fun j y v q1 q2=>h1 k cs j y v hk q1 q2) Mr).2 j y u hy hu
 . rw [r6 h] at hk;rw [show (l++m).getD k t.aa=m.getD (k - css.length) t.aa by simp [aY,r6 (show l.length<=k from oo),hl]] at hy;exact (BM (g:=f&&g) (wa bc fun j y v q1 q2=>h2 _ cs j y v hk q1 q2) Ms).2 j y u hy hu
theorem abD(v:Value)(h:(Builtin.append_ #[T,T] ty #[a.eval s,a.eval x]).run P w = .ok v w'):(execOp a.eval ⟨some d,.call { callee := .builtin .append,args := #[s,x],argTypes := #[T,T] },ty,pos,aft,gd⟩).run P w = .ok (.value v) w':=by
 exact abE
theorem dc.apW{size k:Nat}(h:dc w base e size A c css)(hk:k<=css.length):dc w base e size A c (css.take k):=by
 rcases h.block with ⟨rfl,rfl,rfl⟩|⟨g,cur,rfl,_,_,_⟩
 . rw [List.take_nil]; exact h
 . rw [<- lT k css] at h;obtain⟨qR,h0⟩|⟨g',cap,cur,he,hb,hg,pt,uQ,aS,tj⟩:=h.1.2
   . cases qR
   . simp only [Value.slice.injEq,aJ] at he;obtain⟨he,rfl⟩:=he;have hl:=qQ (css.take k) (fun cs hc=>h.2 cs (amW _ hc));refine⟨⟨hl,.inr ⟨g',c,cur,by rw [he],hb,hg,by rw [c9] at pt; omega,uQ,aS,?_⟩⟩,fun cs hc=>h.2 cs (amW _ hc)⟩;have h1:(cur.toList.take ((css.take k++css.drop k).length*size)).take ((css.take k).length*size)=(css.take k++css.drop k).flatten.take ((css.take k).length*size):=by rw [tj]
     rw [F5,tf (pd _ (by rw [c9]; exact anh _ _)),P2] at h1;rw [h1,<- hl,vQ]
theorem abF(aQ:dp P C.ty)(H:bK w0 S0 N B S a w ρ ro)(hS : Φ S0){k:Nat}{l m:Unit->List t.el}(hT:fZ C.ty T=some (.slice e sz b))(he:bF B S loc=some (.row fr t e l))(hs:∀ A c,ρ loc=some (.row A (l ()).length c)->k<=(l ()).length/\((∃ g,A=some ⟨g,0,none⟩)\/(A=none/\c=0)->a.eval s = .slice A k c))(bc:t.size=sz)(hB:al B.e loc=none)(hq:quiet loc B=true)(hn:wo B S t (cm B S x)=some (f,m))(hp:cb B ⟨(kill loc S).t,(loc,.row (fr&&f) t e fun _=>(l ()).take k++m ())::(kill loc S).e,S.n⟩ N d (.own loc)=some S')(xU:(k+(m ()).length)*b<=140737488355328)(jG:S0.fx=false) :
 iu P ⟨some d,.call { callee := .builtin .append,args := #[s,x],argTypes := #[T,T] },ty,pos,aft,gd⟩ a w (bj w0 Φ N B S'):=by
 obtain⟨i,_,hi,lI⟩:=fD aQ hT;obtain⟨hE,gu⟩:=BO lI hi;subst bc;obtain⟨A,c,css,hA,bS,hlen,dQ⟩:=H.en _ _ he;obtain⟨lY,hv⟩:=hs A c hA;have hv:=hv (by
  rcases bS.block with ⟨h1,h2,_⟩|⟨g,cur,h1,_⟩
  . exact .inr ⟨h1,h2⟩
  . exact .inl ⟨g,h1⟩)
 have oA:(css.take k).length=k:=by simp; omega
 have tl:((l ()).take k).length=k:=by simp; omega
 have apX:=bS.apW (k:=k) oo;obtain⟨X,cn,news,hx,oD,hr,pt⟩:=Sn H hn (H.get x);obtain⟨A2,c2,w2,cZ,h2,h3,h4⟩:=abA (P:=P) (ty:=ty) (cn:=cn) hE apX _ hr oD.symm (Mt hr pt) (by rw [oA]; exact abB gu xU) (by rw [oA]; exact xU) (cd (Lc _ _) H.from_.size);have GN:(css.take k++news).length=((l ()).take k++m ()).length:=by rw [c9,c9,oA,tl,oD]
 rw [oA] at cZ;have qk:(execOp a.eval ⟨some d,.call { callee := .builtin .append,args := #[s,x],argTypes := #[T,T] },ty,pos,aft,gd⟩).run P w = .ok (.value (.slice A2 ((l ()).take k++m ()).length c2)) w2:=by
  refine abD _ ?_;rw [hv,hx,cZ,GN]
 have apY:∀ (k2:Nat) (cs:List Value) (j:Nat) (y:AV) (u:Value),(css.take k)[k2]? = some cs->(bf fr t fun _=>((l ()).take k).getD k2 t.aa)[j]? = some y->cs[j]? = some u->aj w ρ w0.heap.size ro y u:=fun k2 cs j y u q1 q2 q3=>by
  rw [e9] at q1;split at q1
  . rename_i af;refine dQ k2 cs j y u q1 ?_ q3;have e:((l ()).take k).getD k2 t.aa=(l ()).getD k2 t.aa:=by rw [aY,aY,e9,aG af]
    rw [<- e];exact q2
  . cases q1
 have hold:∀ r',ρ loc=some r'->r' = .row A (l ()).length c:=fun r' h=>by rw [hA] at h; injection h with h; exact h.symm
 have hf:sE S0 w0 w2:=H.from_.grown h3 fun k hk=>H.BN hA hk k rfl;have gW:∀ q,q<w.heap.size->(∀ r',ρ loc=some r'->r'.cH≠some q)->w2.heap[q]? = w.heap[q]? := fun q hq bg=>h3.block q hq fun hc=>bg _ hA hc.symm;have apZ:∀ q,ro q->q<w.heap.size->w2.heap[q]? = w.heap[q]? := fun q hq af=>gW q af fun r' h1 h2=>(H.own loc r' q h1 h2).2.1 hq;have hk:=aaZ (S:=S) hq;have oE:loc<S.n:=by
  exact So
 have BD:∀ y u,aj w ρ w0.heap.size ro y u->AV.has loc y=false->aj w2 (fK ρ loc (.row A2 ((l ()).take k++m ()).length c2)) w0.heap.size ro y u:=fun y u hyu hh=>(hyu.move (ρ':=fK ρ loc (.row A2 ((l ()).take k++m ()).length c2)) hh fun l' r' cQ hc=>by
  unfold fK;split
  . rename_i e0;subst e0;rcases hc with hc|hc
    . exact absurd rfl hc
    . rw [hold _ cQ] at hc; cases hc
  . exact cQ).mono apZ (Ext.refl _) (aN _) fun _ h=>h
 have Ef:=abC (w:=w) (ρ := ρ) (base:=w0.heap.size) (ro:=ro) (f:=fr) (g:=f) (l:=(l ()).take k) (m:=m ()) (by rw [oA,tl]) (fun cs hc=>h2.2 cs hc) apY pt;have H2:=(H.aaY loc).qg (loc:=loc) (n:=S.n) (r := .row A2 ((l ()).take k++m ()).length c2) (e := .row (fr&&f) t e fun _=>(l ()).take k++m ()) hf h3.size gW (fun q jq=>by
  rcases h4 with h4|⟨h4,h5⟩
  . exact .inl ⟨_,hA,by rw [<- jq]; exact h4.symm⟩
  . have lJ:A2.map (·.block)=some q:=jq;rw [h4] at lJ;injection lJ with lJ;subst lJ;exact .inr ⟨aN _,h5⟩) hB (aN _) oE (.inr ⟨hk.1,hk.2,fun r' pF=>by rw [hold _ pF,jG]; rfl⟩) (.inl fun b' bo=>by cases hold _ bo) (by
  exact⟨A2,c2,css.take k++news,jH _ _ _,h2.Dr (aoH _ _ _),GN,fun k cs j y u q1 q2 q3=>BD y u (Ef k cs j y u q1 q2 q3) (nN (xE _ t _ loc) q2)⟩)
 exact abG
theorem ap1(aQ:dp P C.ty)(H:bj w0 Φ N B S a w){l m:Unit->List t.el}(hT:fZ C.ty T=some (.slice e sz b))(hs:cm B S s = .own loc)(he:bF B S loc=some (.row fr t e l))(bc:t.size=sz)(hB:al B.e loc=none)(hq:quiet loc B=true)(hn:wo B S t (cm B S x)=some (f,m))(hp:cb B ⟨(kill loc S).t,(loc,.row (fr&&f) t e fun _=>l ()++m ())::(kill loc S).e,S.n⟩ N d (.own loc)=some S')(xU:((l ()).length+(m ()).length)*b<=140737488355328)(jG:∀ S0,Φ S0->S0.fx=false) :
 iu P ⟨some d,.call { callee := .builtin .append,args := #[s,x],argTypes := #[T,T] },ty,pos,aft,gd⟩ a w (bj w0 Φ N B S'):=by
 obtain⟨S0,hS,ρ,ro,H⟩:=H;have has:=H.get s;rw [hs] at has;obtain⟨A',n,c',bW,hv⟩:=has.uI;have e:(fun (_:Unit)=>l ()++m ())=fun _=>(l ()).take (l ()).length++m ():=by funext u; rw [vG]
 refine abF aQ H hS (k:=(l ()).length) hT he (fun A c hA=>⟨aN _,fun _ => ?_⟩) bc hB hq hn (by rw [<- e]; exact hp) xU (jG S0 hS);rw [hA] at bW;injection bW with bW;injection bW with e1 e2 e3;subst e1; subst e2; subst e3;exact hv
theorem ap2(aQ:dp P C.ty)(H:bj w0 Φ N B S a w){l m:Unit->List t.el}(hT:fZ C.ty T=some (.slice e sz b))(hs:cm B S s = .cW t0 loc a0 b0)(he:bF B S loc=some (.row fr t e l))(bc:t.size=sz)(hB:al B.e loc=none)(hq:quiet loc B=true)(hn:wo B S t (cm B S x)=some (f,m))(hp:cb B ⟨(kill loc S).t,(loc,.row (fr&&f) t e fun _=>(l ()).take (b0 ())++m ())::(kill loc S).e,S.n⟩ N d (.own loc)=some S')(h0:a0 ()=0)(xU:(b0 ()+(m ()).length)*b<=140737488355328)(jG:∀ S0,Φ S0->S0.fx=false) :
 iu P ⟨some d,.call { callee := .builtin .append,args := #[s,x],argTypes := #[T,T] },ty,pos,aft,gd⟩ a w (bj w0 Φ N B S'):=by
 obtain⟨S0,hS,ρ,ro,H⟩:=H;have has:=H.get s;rw [hs] at has;obtain⟨A',n,c',bW,bJ,wg,hv⟩:=has.y9;refine abF aQ H hS (k:=b0 ()) hT he (fun A c hA => ?_) bc hB hq hn hp xU (jG S0 hS);rw [hA] at bW;injection bW with bW;injection bW with e1 e2 e3;subst e1; subst e2; subst e3;refine⟨wg,fun hg => ?_⟩;rw [hv,h0];rcases hg with ⟨g,rfl⟩|⟨rfl,rfl⟩
 . simp [sliced,ur]
 . simp [sliced]
theorem ap3(aQ:dp P C.ty)(H:bj w0 Φ N B S a w){m:Unit->List t.el}(hT:fZ C.ty T=some (.slice e sz b))(hs:cm B S s = .nil)(bc:t.size=sz)(hB:al B.e S.n=none)(hn:wo B S t (cm B S x)=some (f,m))(hp:cb B ⟨S.t,(S.n,.row f t e m)::S.e,S.n+1⟩ N d (.own S.n)=some S')(xU:(0+(m ()).length)*b<=140737488355328) :
 iu P ⟨some d,.call { callee := .builtin .append,args := #[s,x],argTypes := #[T,T] },ty,pos,aft,gd⟩ a w (bj w0 Φ N B S'):=by
 obtain⟨S0,hS,ρ,ro,H⟩:=H;obtain⟨i,_,hi,lI⟩:=fD aQ hT;obtain⟨hE,gu⟩:=BO lI hi;subst bc;have has:=H.get s;rw [hs] at has;obtain⟨X,cn,news,hx,oD,hr,pt⟩:=Sn H hn (H.get x);obtain⟨A2,c2,w2,cZ,h2,h3,h4⟩:=abA (P:=P) (ty:=ty) (cn:=cn) hE (dc.nil w (rb f w0.heap.size) e t.size) _ hr oD.symm (Mt hr pt) (by simpa using abB gu xU) (by simpa using xU) (cd (Lc _ _) H.from_.size);have qk:(execOp a.eval ⟨some d,.call { callee := .builtin .append,args := #[s,x],argTypes := #[T,T] },ty,pos,aft,gd⟩).run P w = .ok (.value (.slice A2 (m ()).length c2)) w2:=by
  refine abD _ ?_;rw [has.xG,hx];refine Eq.trans cZ ?_;rw [tg,oD]
 have gg:=H.fresh S.n (aN _);have gW:∀ q,q<w.heap.size->w2.heap[q]? = w.heap[q]? := fun q hq=>h3.block q hq (by simp);have hf:sE S0 w0 w2:=H.from_.grown h3 fun k hk=>by cases hk
 have H2:=H.qg (loc:=S.n) (n:=S.n+1) (r := .row A2 (m ()).length c2) (e := .row f t e m) hf h3.size (fun q hq _=>gW q hq) (fun q jq=>by
  have lJ:A2.map (·.block)=some q:=jq;rcases h4 with h4|⟨h4,h5⟩
  . rw [h4] at lJ; cases lJ
  . rw [h4] at lJ;injection lJ with lJ;subst lJ;exact .inr ⟨aN _,h5⟩) hB (Dq _) (Dj _) (.inl (sJ gg)) (.inl fun b hb=>by rw [gg] at hb; cases hb) (by
  exact⟨A2,c2,news,jH _ _ _,by simpa using h2,oD,fun k cs j y u q1 q2 q3=>(pt k cs j y u q1 q2 q3).mono (fun q _ af=>gW q af) (sJ gg) (aN _) fun _ h=>h⟩)
 exact abG
end
open Go.MapKept
open Go.ChangeMaps (setBlock)
theorem ap4{l:List MapEntry}(h:l.Pairwise fun x y=>x.key≠y.key){i:Nat}{x y:MapEntry}(hi:l[i]? = some x)(hj:l[j]? = some y)(bg:i≠j):x.key≠y.key:=by
 obtain⟨li,rfl⟩:=c8.1 hi;obtain⟨lj,rfl⟩:=c8.1 hj;rcases Nat.lt_or_gt_of_ne bg with h1|h1
 . exact yH.1 h i j li lj h1
 . exact fun e=>yH.1 h j i lj li h1 e.symm
section
variable{P:Program}{w w' w0:World}{ρ ρ':Nat->Option Rl}{base:Nat}{ro ro':Nat->Prop}{S0:Pm}{Φ : Pm->Prop}{N:Nat}{B:Bs}{S:Sx}{a:Act}{fr ag:Bool}{c:Kc}{t:Tc}
theorem abH(m:List Kx->Option α)(k:List Kx)(x : α):ft m k x k=some x:=by unfold ft; rw [aG rfl]
theorem Mu(m:List Kx->Option α){k:List Kx}(x : α)(h:k'≠k):ft m k x k'=m k':=by unfold ft; rw [ax h]
theorem na.push{m:List Kx->Option t.el}{val:Value}{x:t.el}(h:na w ρ base ro fr ag c t m es)(hn:∀ e∈es.toList,¬ ic c e.key key)(hk:ic c kv key)(hv:aj w ρ base ro (fh ag fr t fun _=>x) val):na w ρ base ro fr ag c t (ft m key x) (es.push { key:=kv,val:=val,born:=born }):=by
 refine⟨fun e he => ?_,fun kc x' hf hm => ?_⟩
 . simp only [Array.toList_push,nJ,oq] at he;rcases he with he|rfl
   . obtain⟨kc,x',h1,h2,h3⟩:=h.1 e he;refine⟨kc,x',h1,?_,h3⟩;rw [Mu _ _ (fun e1=>by subst e1; exact hn e he h1)];exact h2
   . exact⟨key,x,hk,abH _ _ _,hv⟩
 . by_cases e1:kc=key
   . subst e1;exact⟨⟨kv,val,born⟩,by simp,hk⟩
   . rw [Mu _ _ e1] at hm;obtain⟨e,he,h1⟩:=h.2 kc x' hf hm;exact⟨e,by simp only [Array.toList_push,nJ]; exact .inl he,h1⟩
theorem na.modify{m:List Kx->Option t.el}{e:MapEntry}{f:MapEntry->MapEntry}{x:t.el}(h:na w ρ base ro fr ag c t m es)(hs:Stamped es clock)(hj:es[j]? = some e)(hk:ic c e.key key)(Be:(f e).key=e.key)(hv:aj w ρ base ro (fh ag fr t fun _=>x) (f e).val):na w ρ base ro fr ag c t (ft m key x) (es.modify j f):=by
 have gE:es.toList[j]? = some e:=by simpa using hj
 have hl:(es.modify j f).toList=es.toList.set j (f e):=by rw [Array.toList_modify,ChangeMaps.modify_eq_set _ _ _ _ gE]
 have hst:=((stamped_iff es clock).1 hs).2.2;have gL:=(c8.1 gE).1;have ap5:∀ i e',es.toList[i]? = some e'->i≠j->∀ kc,ic c e'.key kc->kc≠key:=by
  intro i e' hi bg kc fO e1;subst e1;exact ap4 hst hi gE bg (fO.1.trans hk.1.symm)
 refine⟨fun e' he => ?_,fun kc x' hf hm => ?_⟩
 . rw [hl] at he;obtain⟨i,hi⟩:=mn.1 he;rw [te] at hi;split at hi
   . rename_i e1;subst e1
     first|rw [aG gL] at hi|skip
     injection hi with hi;subst hi;exact⟨key,x,by rw [Be]; exact hk,abH _ _ _,hv⟩
   . rename_i bg;obtain⟨kc,x',h1,h2,h3⟩:=h.1 e' (gK hi);refine⟨kc,x',h1,?_,h3⟩;rw [Mu _ _ (ap5 i e' hi (fun e1=>bg e1.symm) kc h1)];exact h2
 . rw [hl];by_cases e1:kc=key
   . subst e1;exact⟨f e,mn.2 ⟨j,by rw [te,aG rfl,aG gL]⟩,by rw [Be]; exact hk⟩
   . rw [Mu _ _ e1] at hm;obtain⟨e',he,h1⟩:=h.2 kc x' hf hm;obtain⟨i,hi⟩:=mn.1 he;have bg:j≠i:=fun e2=>by
      subst e2;rw [gE] at hi;injection hi with hi;subst hi;exact e1 (LB h1 hk)
     exact⟨e',mn.2 ⟨i,by rw [te,ax bg]; exact hi⟩,h1⟩
theorem Mv(w:World)(b:Nat)(o:Obj):(setBlock w b o).heap.size=w.heap.size:=by
 unfold setBlock;simp
theorem Eg(w:World)(b:Nat)(o:Obj){k:Nat}(h:k≠b):(setBlock w b o).heap[k]? = w.heap[k]? := by
 unfold setBlock;exact Array.getElem?_setIfInBounds_ne (fun e=>h e.symm)
theorem Sq(h:w.heap[b]? = some o'):(setBlock w b o).heap[b]? = some o:=by
 have:=(pV.1 h).1;unfold setBlock;simp [this]
theorem abI(w:World)(b:Nat)(o:Obj):w.grownBy (setBlock w b o) (some b) :=
 ⟨rfl,rfl,rfl,by rw [Mv]; exact aN _,fun k _ hk=>Eg w b o fun e=>hk (by rw [e])⟩
theorem bK.lt(H:bK w0 S0 N B S a w ρ ro){r:Rl}(h : ρ loc=some r):loc<S.n:=by
 rcases cv loc S.n with h1|h1
 . exact h1
 . have:=H.fresh loc h1; rw [h] at this; cases this
theorem bK.Mw(H:bK w0 S0 N B S a w ρ ro){m:Unit->List Kx->Option t.el}(hb : ρ loc=some (.mp b))(hh:w.heap[b]? = some o)(hB:al B.e loc=none)(hr:tw loc B.e=true)(hs:Stamped jV pr)(hm:na w ρ w0.heap.size ro fr ag c t (m ()) jV) :
 bK w0 S0 N B ⟨S.t,(loc,.map fr ag c t T m)::mE loc S.e,S.n⟩ a (setBlock w b (.map jV pr)) ρ ro:=by
 obtain⟨HD,hd⟩:=H.dropped (loc:=loc) hr;have BP:=(H.own loc _ b hb rfl).2.1;have hw:∀ b',ro b'->b'<w.heap.size->(setBlock w b (.map jV pr)).heap[b']? = w.heap[b']? := fun b' bo _=>Eg _ _ _ fun e=>BP (e▸bo);have H2:=HD.qg (w':=setBlock w b (.map jV pr)) (loc:=loc) (n:=S.n) (r := .mp b) (e := .map fr ag c t T m) (H.from_.grown (abI _ _ _) (H.BN hb rfl)) (by rw [Mv]; exact aN _) (fun b' _ bg=>Eg _ _ _ fun e=>bg _ hb (by rw [e]; rfl)) (fun b' bo => .inl ⟨_,hb,bo⟩) hB (aN _) (H.lt hb) (.inl Sm) (.inr hd) (by
  refine⟨b,jV,pr,jH _ _ _,Sq hh,hs,?_⟩;rw [uP hb];exact hm.tv fun x v hx=>hx.mono hw (Ext.refl _) (aN _) fun _ h=>h)
 rw [uP hb] at H2;exact H2
theorem ap6(H:bj w0 Φ N B S a w)(hB:al B.e S.n=none)(hp:cb B ⟨S.t,(S.n,.map true ag c t T fun _ _=>none)::S.e,S.n+1⟩ N d (.mp S.n)=some S') :
 iu P ⟨some d,.makeMap T none,ty,pos,aft,gd⟩ a w (bj w0 Φ N B S'):=by
 obtain⟨S0,hS,ρ,ro,H⟩:=H;have gg:=H.fresh S.n (aN _);have gW:∀ b,b<w.heap.size->(w.alloc (.map #[] 0)).heap[b]? = w.heap[b]? := fun b hb=>uk w _ b hb;have H2:=H.qg (w':=w.alloc (.map #[] 0)) (loc:=S.n) (n:=S.n+1) (r := .mp w.heap.size) (e := .map true ag c t T fun _ _=>none) (H.from_.alloc _) (by simp) (fun b hb _=>gW b hb) (fun b hb=>by
  injection hb with hb;subst hb;exact .inr ⟨aN _,by simp⟩) hB (Dq _) (Dj _) (.inl (sJ gg)) (.inl fun b hb=>by rw [gg] at hb; cases hb) ⟨w.heap.size,#[],0,jH _ _ _,AM w _,stamped_empty 0,fun e he=>by simp at he,fun key x _ hm=>by cases hm⟩
 refine .inl ⟨.map (some w.heap.size),_,?_,S0,hS,_,_,H2.put hp (.mp _ _ (jH _ _ _))⟩;unfold execOp;simp only [Instr.makeMap,bQ,cq];rfl
theorem abJ{x:AV}{e:Unit->t.el}(h:D5 ag t x=some (f,e))(hx:aj w ρ base ro x v):aj w ρ base ro (fh ag f t e) v:=by
 unfold D5 at h;split at h
 . rename_i hc;simp only [aD,fM,cC] at hc;obtain⟨vs,h1,h2,h3⟩:=Mq h hx;unfold fh
   cases ag with
   | true =>
    simp only [fH];have p9:∃ l,x = .agg l:=by
     have:=hc.2;cases x<;>first|exact⟨_,rfl⟩|simp [RH] at this
    obtain⟨l,rfl⟩:=p9;obtain⟨us,rfl,_⟩:=hx.rf;have e1:us=vs:=P4 h1;subst e1;exact .agg _ _ h3.1 h3.2
   | false =>
    simp only [fk,dK];have Sr:∀ l,x ≠ .agg l:=fun l e1=>by subst e1; simp [RH] at hc
    have hnu:x ≠ .un:=fun e1=>by subst e1; simp [xM,cellsOf] at h
    have iw:=Rg hx Sr hnu;rw [iw] at h1;have ru:([v]:List Value).toArray=vs.toArray:=h1;have e1:=P4 ru;subst e1;have hl:=h3.1
    cases c7:bf f t e with
    | nil=>rw [c7] at hl; cases hl
    | cons y l =>
     rw [c7] at hl h3
     cases l with
     | cons y2 l=>simp at hl
     | nil=>exact h3.2 0 y v rfl rfl
 . cases h
theorem na.less{m:List Kx->Option t.el}(h:na w ρ base ro fr ag c t m es)(hf:fr'=true->fr=true):na w ρ base ro fr' ag c t m es :=
 ⟨fun e he=>by obtain⟨key,x,h1,h2,h3⟩:=h.1 e he; exact⟨key,x,h1,h2,GM h3 hf⟩,h.2⟩
theorem ap8(aQ:dp P C.ty)(H:bj w0 Φ N B S a w){v:Operand}{m:Unit->List Kx->Option t.el}{k:Unit->List Kx}{e:Unit->t.el}(hT:fZ C.ty T=some (.map kt et c t ag))(hx:cm B S x = .mp loc)(he:bF B S loc=some (.map fr ag c t T' m))(hk:y6 c (cm B S i)=some k)(jE:D5 ag t (cm B S v)=some (f,e))(hB:al B.e loc=none)(hr:tw loc B.e=true) :
 iu P ⟨none,.mapUpdate T x i v,ty,pos,aft,gd⟩ a w (bj w0 Φ N B ⟨S.t,(loc,.map (fr&&f) ag c t T' fun _=>ft (m ()) (k ()) (e ()))::mE loc S.e,S.n⟩):=by
 obtain⟨S0,hS,ρ,ro,H⟩:=H;obtain⟨ti,_,hi,lI⟩:=fD aQ hT;obtain⟨hu,oA,_,_⟩:=LA (w:=w) (ρ := ρ) (base:=w0.heap.size) (ro:=ro) lI hi;have mJ:=H.get x;rw [hx] at mJ;obtain⟨b,hb,nV⟩:=mJ.Br;obtain⟨b',es,clock,bo,hh,hst,hm⟩:=H.en _ _ he;rw [hb] at bo;injection bo with bo;injection bo with bo;subst bo;have jr:=Ro hk (H.get i);have tu:=GM (fr':=fr&&f) (abJ jE (H.get v)) Ms;have pq:=hm.less (fr':=fr&&f) Mr;have cZ:∀ w2,(Instr.mapUpdate T (.map (some b)) (a.eval i) (a.eval v)).run P w = .ok () w2->(execOp a.eval ⟨none,.mapUpdate T x i v,ty,pos,aft,gd⟩).run P w = .ok .skip w2:=by
  intro w2 h;unfold execOp;simp only [nV,bQ,h,cg,cq]
 rcases hm.find (P:=P) oA jr with ⟨h1,h2,h3⟩|⟨j,e0,x0,h1,h2,h3,h4,h5⟩
 . refine .inr (.inl ⟨_,cZ (setBlock w b (.map (es.push ⟨a.eval i,a.eval v,clock⟩) (clock+1))) ?_,S0,hS,ρ,ro,?_⟩)
   . have ql:=K3 (P:=P) (w:=w) oA jr.2 false;rw [<- jr.1] at ql;simp only [Instr.mapUpdate,bQ,qM hu,cg,MapKept.run_getObj_map hh,ql,h1,MapKept.run_setObj_map _ hh];rfl
   . exact H.Mw hb hh hB hr (stamped_push hst fun y hy e1=>h3 y hy (e1▸jr)) (pq.push h3 jr tu)
 . have xV:e0.key=a.eval i:=h3.1.trans jr.1.symm;refine .inr (.inl ⟨_,cZ (setBlock w b (.map (es.modify j fun e' => { e' with key:=a.eval i,val:=a.eval v }) clock)) ?_,S0,hS,ρ,ro,?_⟩)
   . have ql:=K3 (P:=P) (w:=w) oA jr.2 false;have oI:=ZV (P:=P) (w:=w) jr.2;rw [<- jr.1] at ql oI;simp only [Instr.mapUpdate,bQ,qM hu,cg,MapKept.run_getObj_map hh,ql,h1,h2,dG,iD,xV,oI,MapKept.run_setObj_map _ hh];rfl
   . exact H.Mw hb hh hB hr (stamped_modify hst _ _ (fun _ _=>rfl) fun e' _ h6=>by rw [h2] at h6; injection h6 with h6; subst h6; exact xV.symm) (pq.modify hst h2 h3 xV.symm tu)
theorem abK{x:AV}(h:cb B S N d x=some S'):S'=⟨(d,x)::S.t,S.e,S.n⟩:=by
 unfold cb at h;split at h
 . cases h
 . cases h; rfl
theorem Mx{x:AV}{e:List (Nat×En)}(h:cb B S N d x=some S'):cb B ⟨S.t,e,n⟩ N d x=some ⟨(d,x)::S.t,e,n⟩:=by
 unfold cb at h ⊢;split at h
 . cases h
 . rename_i hc;simp only [hc,fk,dK]
theorem ap9(aQ:dp P C.ty)(H:bj w0 Φ N B S a w){m:Unit->List Kx->Option t.el}{k:Unit->List Kx}(hT:fZ C.ty T=some (.map kt et c t ag))(hx:cm B S x = .mp loc)(he:bF B S loc=some (.map fr ag c t T' m))(hk:y6 c (cm B S i)=some k)(hB:al B.e loc=none)(hr:tw loc B.e=true)(Ss:al B.e S.n=none)(hp:cb B ⟨S.t,(S.n,.bL loc c k)::(loc,.map fr ag c t T' fun _=>ft (m ()) (k ()) ((m () (k ())).getD t.aa))::mE loc S.e,S.n+1⟩ N d (.bp [fh ag fr t fun _=>(m () (k ())).getD t.aa,.bL S.n])=some S') :
 iu P ⟨some d,.mapEntry T x i,ty,pos,aft,gd⟩ a w (bj w0 Φ N B S'):=by
 obtain⟨S0,hS,ρ,ro,H⟩:=H;obtain⟨ti,_,hi,lI⟩:=fD aQ hT;obtain⟨hu,oA,_,jt,z,hj,hz,Rr⟩:=LA (w:=w) (ρ := ρ) (base:=w0.heap.size) (ro:=ro) lI hi;have mJ:=H.get x;rw [hx] at mJ;obtain⟨b,hb,nV⟩:=mJ.Br;obtain⟨b',es,clock,bo,hh,hst,hm⟩:=H.en _ _ he;rw [hb] at bo;injection bo with bo;injection bo with bo;subst bo;have jr:=Ro hk (H.get i);have ga:∀ (jV:Array MapEntry) (pr s:Nat) (u:Value),(Instr.mapEntry T (.map (some b)) (a.eval i)).run P w = .ok (.tuple #[u,goInt s]) (setBlock w b (.map jV pr))->aj w ρ w0.heap.size ro (fh ag fr t fun _=>(m () (k ())).getD t.aa) u->Stamped jV pr->na w ρ w0.heap.size ro fr ag c t (ft (m ()) (k ()) ((m () (k ())).getD t.aa)) jV->(∃ e∈jV.toList,ic c e.key (k ())/\e.born=s)->iu P ⟨some d,.mapEntry T x i,ty,pos,aft,gd⟩ a w (bj w0 Φ N B S'):=by
  intro jV pr s u cZ vU Bu pq m8;have H1:=H.Mw (T:=T') (m:=fun _=>ft (m ()) (k ()) ((m () (k ())).getD t.aa)) hb hh hB hr Bu pq;have gg:=H1.fresh S.n (aN _);obtain⟨e,kW,sK,he3⟩:=m8;have H2:=H1.qg (w':=setBlock w b (.map jV pr)) (loc:=S.n) (n:=S.n+1) (r := .bL s) (e := .bL loc c k) H1.from_ (aN _) (fun _ _ _=>rfl) (fun b hb=>by cases hb) Ss (Dq _) (Dj _) (.inl (sJ gg)) (.inl fun b hb=>by rw [gg] at hb; cases hb) ⟨b,jV,pr,s,e,jH _ _ _,sJ gg _ _ hb,Sq hh,kW,sK,he3⟩;have BP:=(H.own loc _ b hb rfl).2.1;have Qx:aj (setBlock w b (.map jV pr)) (fK ρ S.n (.bL s)) w0.heap.size ro (fh ag fr t fun _=>(m () (k ())).getD t.aa) u:=vU.mono (fun b' bo _=>Eg _ _ _ fun e=>BP (e▸bo)) (sJ gg) (aN _) fun _ h=>h;have hE:bn (setBlock w b (.map jV pr)) (fK ρ S.n (.bL s)) w0.heap.size ro [fh ag fr t fun _=>(m () (k ())).getD t.aa,.bL S.n] [u,goInt s] := .cons Qx (.cons (.bL _ _ (jH _ _ _)) .nil);refine .inl ⟨.tuple #[u,goInt s],_,?_,S0,hS,_,_,H2.put hp (.bp _ _ hE.1 hE.2)⟩;unfold execOp;simp only [nV,bQ,cZ,cg,cq]
 have ql:=K3 (P:=P) (w:=w) oA jr.2 false;have oI:=ZV (P:=P) (w:=w) jr.2;rw [<- jr.1] at ql oI;rcases hm.find (P:=P) oA jr with ⟨h1,h2,h3⟩|⟨j,e0,x0,h1,h2,h3,h4,h5⟩
 . have hd:(m () (k ())).getD t.aa=t.aa:=by rw [h2]; rfl
   have Su:aj w ρ w0.heap.size ro (fh ag fr t fun _=>t.aa) z:=GM Rr fun _=>rfl;refine ga (es.push ⟨a.eval i,z,clock⟩) (clock+1) clock z ?_ (by rw [hd]; exact Su) (stamped_push hst fun y hy e1=>h3 y hy (e1▸jr)) (by rw [hd]; exact hm.push h3 jr Su) ⟨⟨a.eval i,z,clock⟩,by simp,jr,rfl⟩;simp only [Instr.mapEntry,bQ,qM hu,cg,MapKept.run_getObj_map hh,ql,h1,aat hj hz,MapKept.run_setObj_map _ hh,cq];rfl
 . have hd:(m () (k ())).getD t.aa=x0:=by rw [h4]; rfl
   have xV:e0.key=a.eval i:=h3.1.trans jr.1.symm;have gE:es.toList[j]? = some e0:=by simpa using h2
   have gL:=(c8.1 gE).1;refine ga (es.modify j fun e' => { e' with key:=a.eval i }) clock e0.born e0.val ?_ (by rw [hd]; exact h5) (stamped_modify hst _ _ (fun _ _=>rfl) fun e' _ h6=>by rw [h2] at h6; injection h6 with h6; subst h6; exact xV.symm) (by rw [hd]; exact hm.modify hst h2 h3 xV.symm h5) ⟨{ e0 with key:=a.eval i },?_,jr,rfl⟩
   . simp only [Instr.mapEntry,bQ,qM hu,cg,MapKept.run_getObj_map hh,ql,h1,h2,dG,iD,xV,oI,MapKept.run_setObj_map _ hh,cq];rfl
   . rw [Array.toList_modify,ChangeMaps.modify_eq_set _ _ _ _ gE];exact mn.2 ⟨j,by rw [te,aG rfl,aG gL]⟩
theorem aqb(H:bj w0 Φ N B S a w){v:Operand}{m:Unit->List Kx->Option t.el}{k:Unit->List Kx}{e:Unit->t.el}(hx:cm B S x = .mp loc)(hs:cm B S s = .bL l2)(he:bF B S loc=some (.map fr ag c t T' m))(sK:bF B S l2=some (.bL loc c k))(jE:D5 ag t (cm B S v)=some (f,e))(hB:al B.e loc=none)(hr:tw loc B.e=true) :
 iu P ⟨none,.entryStore T x s v,ty,pos,aft,gd⟩ a w (bj w0 Φ N B ⟨S.t,(loc,.map (fr&&f) ag c t T' fun _=>ft (m ()) (k ()) (e ()))::mE loc S.e,S.n⟩):=by
 obtain⟨S0,hS,ρ,ro,H⟩:=H;have mJ:=H.get x;rw [hx] at mJ;obtain⟨b,hb,nV⟩:=mJ.Br;have has:=H.get s;rw [hs] at has;obtain⟨sn,BQ,qc⟩:=has.aoO;obtain⟨b',es,clock,bo,hh,hst,hm⟩:=H.en _ _ he;rw [hb] at bo;injection bo with bo;injection bo with bo;subst bo;obtain⟨b',jV,pr,sn',e0,h1,h2,h3,h4,h5,h6⟩:=H.en _ _ sK;rw [BQ] at h1;injection h1 with h1;injection h1 with h1;subst h1;rw [hb] at h2;injection h2 with h2;injection h2 with h2;subst h2;rw [hh] at h3;injection h3 with h3;injection h3 with q1 q2;subst q1; subst q2; subst h6;have tu:=GM (fr':=fr&&f) (abJ jE (H.get v)) Ms;have pq:=hm.less (fr':=fr&&f) Mr;obtain⟨j,hj⟩:=mn.1 h4;have gE:es[j]? = some e0:=by simpa using hj
 have zd:=(stamped_iff es clock).1 hst;have aqc:=WideElems.findIdx_born zd.2.1 hj;have aqd:es.findIdx? (fun e=>((e.born:Nat):Int)==((e0.born:Nat):Int))=some j:=by rw [WideElems.findIdx_arr]; exact aqc
 refine .inr (.inl ⟨setBlock w b (.map (es.modify j fun e' => { e' with val:=a.eval v }) clock),?_,S0,hS,ρ,ro,H.Mw hb hh hB hr (stamped_modify hst _ _ (fun _ _=>rfl) fun _ _ _=>rfl) (pq.modify hst gE h5 rfl tu)⟩);unfold execOp;have hai:(asInt (goInt (e0.born:Int))).run P w = .ok (e0.born:Int) w:=rfl;simp only [nV,qc,Instr.entryStore,bQ,MapKept.run_getObj_map hh,cg,cq,hai,aqd,MapKept.run_setObj_map _ hh];rfl
end
section
variable{P:Program}{w w' w0:World}{ρ ρ':Nat->Option Rl}{base:Nat}{ro ro':Nat->Prop}{S0:Pm}{Φ : Pm->Prop}{N:Nat}{B:Bs}{S:Sx}{a:Act}{fr ag:Bool}{c:Kc}{t:Tc}{K:Sx->Fm}
theorem aqf(aQ:dp P C.ty)(H:bj w0 Φ N B S a w){c':Kc}{m:Unit->List Kx->Option t.el}(hT:fZ C.ty T=some (.map kt et c' t' kO))(hx:cm B S x = .mp loc)(he:bF B S loc=some (.map fr ag c t T' m))(Ss:al B.e S.n=none)(hp:cb B ⟨S.t,S.e,S.n+1⟩ N d (.it loc S.n)=some S')(hK:∀ n:Nat,True->(K ⟨S'.t,(S.n,.iter loc c (fun _ => []) fun _=>n)::S'.e,S'.n⟩).P) :
 iu P ⟨some d,.range T x,ty,pos,aft,gd⟩ a w fun a' w'=>∃ S',bj w0 Φ N B S' a' w'/\(K S').P:=by
 obtain⟨S0,hS,ρ,ro,H⟩:=H;obtain⟨ti,_,hi,lI⟩:=fD aQ hT;obtain⟨hu,_,_,_⟩:=LA (w:=w) (ρ := ρ) (base:=w0.heap.size) (ro:=ro) lI hi;have mJ:=H.get x;rw [hx] at mJ;obtain⟨b,hb,nV⟩:=mJ.Br;obtain⟨b',es,clock,bo,hh,hst,hm⟩:=H.en _ _ he;rw [hb] at bo;injection bo with bo;injection bo with bo;subst bo;have aqg:=(pV.1 hh).1;have gg:=H.fresh S.n (aN _);have gW:∀ q,q<w.heap.size->(w.alloc (.mapIter (some b) clock #[] clock)).heap[q]? = w.heap[q]? := fun q hq=>uk w _ q hq;have zd:=(stamped_iff es clock).1 hst;have H2:=H.qg (w':=w.alloc (.mapIter (some b) clock #[] clock)) (loc:=S.n) (n:=S.n+1) (r := .it w.heap.size) (e := .iter loc c (fun _ => []) fun _=>(Go.leftOf es #[]).size) (H.from_.alloc _) (by simp) (fun q hq _=>gW q hq) (fun q hq=>by
  injection hq with hq;subst hq;exact .inr ⟨aN _,by simp⟩) Ss (Dq _) (Dj _) (.inl (sJ gg)) (.inl fun q hq=>by rw [gg] at hq; cases hq) ⟨b,w.heap.size,es,clock,clock,#[],clock,jH _ _ _,sJ gg _ _ hb,(gW b aqg).trans hh,AM w _,zd.1,⟨aN _,aN _⟩,rfl,fun e _=>by simp,fun key r hr=>by cases hr⟩
 have sL:=abK hp;have iJ:=Mx (e:=(S.n,.iter loc c (fun _ => []) fun _=>(Go.leftOf es #[]).size)::S.e) (n:=S.n+1) hp;have ga:=hK (Go.leftOf es #[]).size trivial;rw [sL] at ga;refine .inl ⟨.pointer (some ⟨w.heap.size,0,none⟩),_,?_,_,⟨S0,hS,_,_,H2.put iJ (.it _ _ _ (jH _ _ _))⟩,ga⟩;unfold execOp;simp only [Instr.range,nV,bQ,qM hu,cg,MapKept.run_getObj_map hh,cq];rfl
theorem aqh(h:w1=w\/w1=w.drew)(r:Nat)(o:Obj):w.grownBy (setBlock w1 r o) (some r):=by
 rcases h with rfl|rfl
 . exact abI _ _ _
 . exact⟨rfl,rfl,rfl,by rw [Mv]; exact aN _,fun k _ hk=>Eg w.drew r o fun e=>hk (by rw [e])⟩
theorem aqi(H:bj w0 Φ N B S a w){m:Unit->List Kx->Option t.el}{seen:Unit->List (List Kx)}(hx:cm B S x = .it loc l2)(he:bF B S loc=some (.map fr ag c t T m))(hi:bF B S l2=some (.iter loc c seen left))(hB:al B.e l2=none)(xW:cb B S N d (.bp [.aV false])=some S1)(iJ:cb B S N d (.bp [.aV true,.un,.un])=some S2)(hK:(Fm.br (fun _=>left ()==0) (.all Unit (fun _=>∀ key x,dP c.ls key=true->m () key=some x->key∈seen ()) fun _=>K S1) (.all (List Kx×Nat) (fun p=>dP c.ls p.1=true/\(m () p.1).isSome=true/\p.1∉seen ()/\p.2<left ()) fun p=>K ⟨S2.t,(l2,.iter loc c (fun _=>p.1::seen ()) fun _=>p.2)::S2.e,S2.n⟩)).P) :
 iu P ⟨some d,.next x false,ty,pos,aft,gd⟩ a w fun a' w'=>∃ S',bj w0 Φ N B S' a' w'/\(K S').P:=by
 obtain⟨S0,hS,ρ,ro,H⟩:=H;have mJ:=H.get x;rw [hx] at mJ;obtain⟨b2,eR,nV⟩:=mJ.Ra;obtain⟨b,es,clock,hb,hh,hst,hm⟩:=H.en _ _ he;obtain⟨b',He,jV,pr,since,stamps,c0,h1,h2,h3,h4,h5,h6,h7,h8,h9⟩:=H.en _ _ hi;rw [eR] at h1;injection h1 with h1;injection h1 with h1;subst h1;rw [hb] at h2;injection h2 with h2;injection h2 with h2;subst h2;rw [hh] at h3;injection h3 with h3;injection h3 with q1 q2;subst q1; subst q2;have Eh:b≠b2:=fun e=>by
  by_cases hl:loc=l2
  . subst hl;rw [hb] at eR;cases eR
  . exact H.apart loc l2 _ _ b hl hb eR rfl (by rw [e]; rfl)
 obtain⟨k1,k2⟩:=hK;have qk:∀ v w2,(Instr.next (.pointer (some ⟨b2,0,none⟩)) false ty).run P w = .ok v w2->(execOp a.eval ⟨some d,.next x false,ty,pos,aft,gd⟩).run P w = .ok (.value v) w2:=by
  intro v w2 h;unfold execOp;simp only [nV,bQ,h,cg,cq]
 rcases run_next_at (P:=P) w ty b2 b since c0 stamps es clock h4 hh h5 h6.1 with ⟨hz,cZ⟩|⟨e,kW,w1,kX,cZ⟩
 . have aqj:(left ()==0)=true:=by rw [h7,hz]; rfl
   have ch:=k1 aqj () fun key y hf hk=>by
    obtain⟨e,kW,sK⟩:=hm.2 key y hf hk;obtain⟨kc,bM,bm⟩:=(h8 e kW).1 (all_seen es stamps hz e kW);rw [LB sK bm];exact bM
   have hE:bn w ρ w0.heap.size ro [.aV false] [.bool false] := .cons (.aV _) .nil;exact .inl ⟨_,_,qk _ _ cZ,_,⟨S0,hS,_,_,H.put xW (.bp _ _ hE.1 hE.2)⟩,ch⟩
 . obtain⟨Hf,m8⟩:=mem_left kW;obtain⟨key,y,g1,g2,g3⟩:=hm.1 e Hf;have zw:(left ()==0)=false:=by
    rw [h7];have:(Go.leftOf es stamps).size≠0:=fun h0=>by
     have mY:(Go.leftOf es stamps).toList.length=0:=by simpa using h0
     rw [List.length_eq_zero_iff.1 mY] at kW;cases kW
    simpa using this
   have qi:key∉seen ():=fun hk=>by
    have:=(h8 e Hf).2 ⟨key,hk,g1⟩;rw [m8] at this;cases this
   have ga:=k2 zw (key,(Go.leftOf es (stamps.push e.born)).size) ⟨g1.2,by rw [g2]; rfl,qi,by rw [h7]; exact left_shrinks es stamps e kW⟩;have hh1:w1.heap[b]? = some (.map es clock):=by rcases kX with rfl|rfl<;>exact hh
   have hh2:w1.heap[b2]? = some (.mapIter (some b) since stamps c0):=by rcases kX with rfl|rfl<;>exact h4
   have gW:∀ q,q≠b2->(setBlock w1 b2 (.mapIter (some b) since (stamps.push e.born) clock)).heap[q]? = w.heap[q]? := fun q hq=>(Eg _ _ _ hq).trans (by rcases kX with rfl|rfl<;>rfl);have zd:=(stamped_iff es clock).1 hst;have bc:(setBlock w1 b2 (.mapIter (some b) since (stamps.push e.born) clock)).heap.size=w.heap.size:=by rw [Mv]; rcases kX with rfl|rfl<;>rfl
   have H2:=H.qg (w':=setBlock w1 b2 (.mapIter (some b) since (stamps.push e.born) clock)) (loc:=l2) (n:=S.n) (r := .it b2) (e := .iter loc c (fun _=>key::seen ()) fun _=>(Go.leftOf es (stamps.push e.born)).size) (H.from_.grown (aqh kX _ _) (H.BN eR rfl)) (by rw [bc]; exact aN _) (fun q _ bg=>gW q fun e1=>bg _ eR (by rw [e1]; rfl)) (fun q hq => .inl ⟨_,eR,hq⟩) hB (aN _) (H.lt eR) (.inl (by rw [uP eR]; exact Ext.refl _)) (.inl fun q hq=>by rw [eR] at hq; cases hq) (by
    refine⟨b,b2,es,clock,since,stamps.push e.born,clock,jH _ _ _,by rw [uP eR]; exact hb,(gW b Eh).trans hh,Sq hh2,h5,⟨cd h6.1 h6.2,aN _⟩,rfl,fun e' nX => ?_,fun kc r' hr => ?_⟩
    . rw [contains_push];simp only [fM,cC];constructor
      . rintro (h|h)
        . obtain⟨kc,q1,q2⟩:=(h8 e' nX).1 h;exact⟨kc,P0 _ q1,q2⟩
        . have:e'=e:=born_inj zd.2.1 nX Hf h;subst this;exact⟨key,am6,g1⟩
      . rintro⟨kc,q1,q2⟩
        rcases gD.1 q1 with rfl|q1
        . right;have:e'=e:=Go.entry_eq_of_key zd.2.2 nX Hf (q2.1.trans g1.1.symm);rw [this]
        . exact .inl ((h8 e' nX).2 ⟨kc,q1,q2⟩)
    . injection hr with r1 r2;subst r1;exact⟨rfl,e,Hf,by simp,g1⟩)
   rw [uP eR] at H2;have wy:=abK iJ;rw [wy] at ga;have hE:bn (setBlock w1 b2 (.mapIter (some b) since (stamps.push e.born) clock)) ρ w0.heap.size ro [.aV true,.un,.un] [.bool true,e.key,e.val] := .cons (.aV _) (.cons (.un _) (.cons (.un _) .nil));exact .inl ⟨_,_,qk _ _ cZ,_,⟨S0,hS,_,_,H2.put (Mx iJ) (.bp _ _ hE.1 hE.2)⟩,ga⟩
end
end Go.Proofs.YtamjbkaclhgffaaGreat
