/-
  The abstract run: copy into an array that lies in a box, or into a row of the run's own.
-/
import Derived.Test.YtamjbkaclhgffaaGreatSh10
set_option linter.all false
namespace Go.Proofs.YtamjbkaclhgffaaGreat
open Go.RowKit
variable{aft:Array Edge}{C:Cx}{css news:List (List Value)}{cs xs:List AV}{vcs:List VC}{T T' T2 b d e loc off:Nat}{o:Oper}{s x y:Operand}{gd:Option (Nat×Bool)}{pos:String}{S' S1 S2:Sx}{K:Sx->Fm}{t:Tc}{ty:TypeId}{v:Value}
section
variable{P:Program}{w w0:World}{ρ:Nat->Option Rl}{base:Nat}{ro:Nat->Prop}{S0:Pm}{Φ : Pm->Prop}{N:Nat}{B:Bs}{S:Sx}{a:Act}
theorem SI:∀ {css:List (List Value)} {j:Nat} {v:Value},(∀ cs∈css,cs.length=1)->css.flatten[j]? = some v->css[j]? = some [v]
 | [],j,v,_,h=>by simp at h
 | cs::css,j,v,hl,h=>by
  obtain⟨u,rfl⟩:=PX.1 (hl cs (.head _))
  cases j with
  | zero=>simpa using h
  | succ j=>exact SI (css:=css) (fun c hc=>hl c (P0 _ hc)) (by simpa using h)
theorem ab1{dT sT ty g n c B0 c2 t:Nat}{X:Option Addr}{cur:Array Value}(hu:P.underlying dT=some (.slice e))(hs:(P.info? e).map (·.size)=some 1)(hg:w.heap[g]? = some (.cells cur t (0,0)))(hr:Rd w B0 1 X news)(h1:∀ cs∈news,∀ u∈cs,u.oneCell'=true)(nL:off+n<=cur.size) :
 ∃ k w',(Builtin.copy_ #[dT,sT] ty #[.slice (some ⟨g,off,none⟩) n c,.slice X news.length c2]).run P w = .ok (goInt k) w'/\w'.heap[g]? = some (.cells (cur.toList.take off++(news.take n).flatten++cur.toList.drop (off+(news.take n).flatten.length)).toArray t (0,0))/\w.grownBy w' (some g):=by
 have x4:∀ cs∈news.take n,cs.length=1:=fun cs hc=>hr.len cs (xt hc);have hlen:(news.take n).flatten.length=Nat.min news.length n:=by
  rw [qQ _ x4,cy,lX];exact Nat.min_comm _ _
 by_cases h0:(news.take n).flatten.length=0
 . refine⟨_,w,run_copy_none (P:=P) w dT sT ty e _ _ _ _ _ _ hu hs (by rw [<- hlen]; exact h0),?_,rfl,rfl,rfl,aN _,fun _ _ _=>rfl⟩;rw [De h0,hg];simp
 . obtain⟨v0,nj⟩:∃ v,(news.take n).flatten[0]? = some v:=⟨_,bq oo⟩
   have mK:=SI x4 nj;rw [e9] at mK;split at mK
   case isFalse=>cases mK
   obtain⟨b,o,rfl,_,_,_⟩:=hr _ _ mK;refine⟨_,_,run_copy_row (P:=P) w dT sT ty e g off n c ⟨b,o,none⟩ news.length c2 cur t (news.take n).flatten hu hs hg hlen (fun j v hj => ?_) (by rw [hlen]; exact cd (am0 (Nat.min_le_right _ _) _) nL) (fun v hv => ?_),YX w g _ _ t _ hg,Sl _ _ _⟩
   . have h2:=SI x4 hj;rw [e9] at h2;split at h2
     case isFalse=>cases h2
     obtain⟨b',o',h3,_,_,h4⟩:=hr _ _ h2;injection h3 with h3;injection h3 with h3 h5;subst h3; subst h5;have:=h4 0 v rfl;rw [ur];simpa using this
   . obtain⟨cs,hc,hv⟩:=anj.1 hv;exact h1 cs (xt hc) v hv
theorem SJ{w':World}(v:Value)(h:(Builtin.copy_ #[T,T2] ty #[a.eval s,a.eval x]).run P w = .ok v w'):(execOp a.eval ⟨some d,.call { callee := .builtin .copy,args := #[s,x],argTypes := #[T,T2] },ty,pos,aft,gd⟩).run P w = .ok (.value v) w':=by
 exact abE
theorem aj.int_eq{k:IntKind}{f:Unit->Int}{n:Int}(h:f ()=n):aj w ρ base ro (.int k f) (.int k n):=by subst h; exact .int _ _
def BW(news:List (List Value)):Nat->List Value->List Value
 | _,[] => []
 | k,o::r=>(match news[k]? with|some cs=>cs.headD o|none=>o)::BW news (k+1) r
theorem SK{news:List (List Value)}(h:∀ cs∈news,cs.length=1):∀ (os:List Value) (k:Nat),BW news k os=((news.drop k).take os.length).flatten++os.drop (news.length - k)
 | [],k=>by simp [BW]
 | o::r,k=>by
  have ih:=SK h r (k+1);unfold BW;rw [ih]
  cases hk:news[k]? with
  | none =>
   have:=amQ.1 hk;rw [yI (show news.length<=k from oo),yI (show news.length<=k+1 from oo),show news.length - k=0 from oo,show news.length - (k+1)=0 from oo];simp
  | some cs =>
   obtain⟨af,he⟩:=c8.1 hk;obtain⟨u,rfl⟩:=PX.1 (h cs (gK hk));rw [rZ af,he,show news.length - k=news.length - (k+1)+1 from oo];simp
theorem ab2{t:Tc}{l:Unit->List t.el}{news:List (List Value)}(oD:news.length=(l ()).length)(h1:∀ cs∈news,cs.length=1)(hc:∀ (k:Nat) (cs:List Value) (j:Nat) (y:AV) (u:Value),news[k]? = some cs->(bf false t fun _=>(l ()).getD k t.aa)[j]? = some y->cs[j]? = some u->aj w ρ base ro y u) :
 ∀ {os:List AV} {vs:List Value} {k:Nat} {r:List AV},LX t l k os=some r->bn w ρ base ro os vs->bn w ρ base ro r (BW news k vs)
 | [],vs,k,r,h,hE=>by
  cases h;rw [hE.none];exact .nil
 | x::os,vs,k,r,h,hE=>by
  obtain⟨v,us,rfl,hx,hE⟩:=hE.head;unfold LX at h;split at h
  case h_2=>cases h
  rename_i kk z k' o r' hz ho pF;split at h
  case isFalse=>cases h
  rename_i im;subst im;cases h;unfold BW;refine .cons ?_ (ab2 oD h1 hc pF hE);have hv:=kb ho hx
  cases hk:news[k]? with
  | none =>
   have:=amQ.1 hk;rw [hv];exact .int_eq (by simp only [dB (show ¬ k<(l ()).length from oo),qP])
  | some cs =>
   have af:=(c8.1 hk).1;obtain⟨u,rfl⟩:=PX.1 (h1 cs (gK hk));have h2:=hc k [u] 0 (.int kk z) u hk (by rw [hz]; rfl) rfl;show aj w ρ base ro (.int kk _) u
   rw [h2.jU];exact .int_eq (by simp only [cT (show k<(l ()).length from oo),pg])
theorem EI.one{t:Nat}(h:EI P t e 1 b):(P.info? e).map (·.size)=some 1:=by
 obtain⟨_,i,z,h1,_,h2,_⟩:=h;rw [h1,dG,h2]
theorem ab3{us:List Value}{n:Nat}(h:∀ cs∈css,cs.length=1)(nL:off+n<=us.length):us.take off++(css.take n).flatten++us.drop (off+(css.take n).flatten.length)=us.take off++BW css 0 ((us.drop off).take n)++us.drop (off+n):=by
 have h1:(css.take n).flatten.length=min n css.length:=by rw [qQ _ (fun cs hc=>h cs (xt hc)),cy,lX]
 have h2:((us.drop off).take n).length=n:=by rw [cy,iU]; omega
 rw [SK h,h1,h2,yK,sd,fl,fl,fl];congr 2;have e:us.drop off=(us.drop off).take n++us.drop (off+n):=by rw [<- vN,lT]
 by_cases hc:css.length<=n
 . rw [Nat.min_eq_right hc,<- vN]
   conv=>lhs; rw [e]
   exact amL oo
 . rw [tf oo,yI (show ((us.drop off).take n).length<=css.length from oo)];rfl
theorem ab4:∀ (css:List (List Value)) (k:Nat),(∀ cs∈css,cs.length=1)->css.flatten.drop k=(css.drop k).flatten
 | [],k,_=>by simp
 | cs::css,0,_=>rfl
 | cs::css,k+1,h=>by
  obtain⟨u,rfl⟩:=PX.1 (h cs (am6 ..));simpa using ab4 css k fun c hc=>h c (P0 _ hc)
theorem aqB(aQ:dp P C.ty)(H:bj w0 Φ N B S a w)(h:RJ C N B S T d (cm B S s) (cm B S x)=some (S',vcs)) :
 iu P ⟨some d,.call { callee := .builtin .copy,args := #[s,x],argTypes := #[T,T2] },ty,pos,aft,gd⟩ a w (bj w0 Φ N B S'):=by
 obtain⟨S0,hS,ρ,ro,H⟩:=H;unfold RJ at h;split at h
 . rename_i e bb loc off n hT hs;obtain⟨i,_,hi,lI⟩:=fD aQ hT;obtain⟨hE,_⟩:=BO lI hi;split at h
   case h_2=>cases h
   rename_i T' cells fr t l he hx;split at h
   case isFalse=>cases h
   rename_i hc;simp only [aD,cC,aU,jz] at hc;obtain⟨⟨hB,nL⟩,bc⟩:=hc;split at h
   case h_2=>cases h
   rename_i cs hm;obtain⟨S1,hp,h⟩:=nH.1 h;cases h;have Hl:=H.get s;rw [hs] at Hl;obtain⟨b,hb,qc⟩:=Hl.aoN;obtain⟨b',us,bo,hh,Hm⟩:=H.en _ _ he;rw [hb] at bo;injection bo with bo;injection bo with bo;subst bo;have hxv:=H.get x;rw [hx] at hxv;obtain⟨A,c,css,hl,QD,hr,ck,df,dQ,nV⟩:=hxv.wh.rh;rw [bc] at hr;have x5:=hr.len;obtain⟨k,w',cZ,El,iZ⟩:=ab1 (P:=P) (ty:=ty) (sT:=T2) (c:=n) (c2:=c) hE.1 hE.one hh hr (Mt (f:=false) (m:=l) (by rw [bc]; exact hr) dQ) (by rw [Dh,<- Hm.1]; exact nL);have qk:=SJ (aft:=aft) (gd:=gd) (pos:=pos) (d:=d) (T2:=T2) (s:=s) (x:=x) (a:=a) _ (by rw [qc,nV,<- hl]; exact cZ);rw [ab3 x5 (by rw [<- Hm.1]; exact nL)] at El;have oE:loc<S.n:=by
    exact abv
   have BP:¬ ro b:=(H.own loc _ b hb rfl).2.1;have hw:∀ q,ro q->q<w.heap.size->w'.heap[q]? = w.heap[q]? := fun q hq af=>iZ.block q af fun hc=>by injection hc with hc; exact BP (hc▸hq)
   have H2:=H.qg (w':=w') (loc:=loc) (n:=S.n) (r := .box b) (e := .box T' (cells.take off++cs++cells.drop (off+n))) (H.from_.grown iZ (H.BN hb rfl)) iZ.size (fun q hq bg=>iZ.block q hq fun hc=>bg _ hb hc.symm) (fun q hq => .inl ⟨_,hb,hq⟩) hB (aN _) oE (.inl Sm) (.inl fun q hq=>by rw [hb] at hq; cases hq) (by
    refine⟨b,_,jH _ _ _,El,?_⟩;rw [uP hb];exact (((Hm.take off).append (ab2 hl x5 dQ hm ((Hm.drop off).take n))).append (Hm.drop (off+n))).mono hw (Ext.refl _) (aN _) fun _ h=>h)
   exact SL
 . rename_i e bb loc hT hs;obtain⟨i,_,hi,lI⟩:=fD aQ hT;obtain⟨hE,_⟩:=BO lI hi;split at h
   case h_2=>cases h
   rename_i fr t e' l he;split at h
   case isFalse=>cases h
   rename_i hc;simp only [aD,cC,jz] at hc;obtain⟨⟨rfl,bc⟩,hB⟩:=hc;split at h
   case h_2=>cases h
   rename_i f m hn;split at h
   case isFalse=>cases h
   rename_i DL;obtain⟨S1,hp,h⟩:=nH.1 h;cases h;obtain⟨A,c,css,hA,bS,hlen,dQ⟩:=H.en _ _ he;have Hl:=H.get s;rw [hs] at Hl;obtain⟨A',n',c',bW,qc⟩:=Hl.uI;rw [hA] at bW;injection bW with bW;injection bW with e1 e2 e3;subst e1; subst e2; subst e3;obtain⟨X,cn,news,hx,oD,hr,pt⟩:=Sn H hn (H.get x);rw [bc] at bS hr;have x5:=hr.len;have oE:loc<S.n:=by
    exact So
   have Si:(f&&fr)=fr:=by cases f<;>cases fr<;>simp_all
   have ab6:∀ (k:Nat) (cs:List Value) (j:Nat) (y:AV) (u:Value),(news.take css.length++css.drop news.length)[k]? = some cs->(bf fr t fun _=>((m ()).take (l ()).length++(l ()).drop (m ()).length).getD k t.aa)[j]? = some y->cs[j]? = some u->aj w ρ w0.heap.size ro y u:=by
    have h1:=abC (w:=w) (ρ := ρ) (base:=w0.heap.size) (ro:=ro) (f:=f) (g:=fr) (t:=t) (l:=(m ()).take (l ()).length) (m:=(l ()).drop (m ()).length) (css:=news.take css.length) (news:=css.drop news.length) (by rw [cy,cy,oD,hlen]) (fun cs hc=>by
     rw [bc];rcases nJ.1 hc with h|h
     . exact x5 cs (xt h)
     . exact bS.2 cs (PZ h)) (fun k cs j y u q1 q2 q3=>by
     rw [e9] at q1;split at q1
     case isFalse=>cases q1
     rename_i hk;rw [show ((m ()).take (l ()).length).getD k t.aa=(m ()).getD k t.aa by rw [aY,aY,e9,aG oo]] at q2;exact pt k cs j y u q1 q2 q3) (fun k cs j y u q1 q2 q3=>by
     rw [mo] at q1;rw [show ((l ()).drop (m ()).length).getD k t.aa=(l ()).getD (news.length+k) t.aa by rw [aY,aY,mo,oD]] at q2;exact dQ _ cs j y u q1 q2 q3)
    rw [Si] at h1;exact h1
   rcases bS.block with ⟨rfl,rfl,rfl⟩|⟨g,aEs,rfl,_,_,_⟩
   . have p6:(l ()).length=0:=hlen.symm;have qk:=SJ (P:=P) (w:=w) (aft:=aft) (gd:=gd) (pos:=pos) (ty:=ty) (d:=d) (T:=T) (T2:=T2) (s:=s) (x:=x) (a:=a) _ (by rw [qc,hx]; exact run_copy_none (P:=P) w T T2 ty e' none X (l ()).length 0 (m ()).length cn hE.1 hE.one (by rw [p6]; exact Nat.min_zero _));have H2:=H.qg (w':=w) (loc:=loc) (n:=S.n) (r := .row none (l ()).length 0) (e := .row fr t e' fun _=>(m ()).take (l ()).length++(l ()).drop (m ()).length) H.from_ (aN _) (fun q hq bg=>rfl) (fun q hq => .inl ⟨_,hA,hq⟩) hB (aN _) oE (.inl SM) (.inl fun q hq=>by rw [hA] at hq; cases hq) (by
      have hz:((m ()).take (l ()).length++(l ()).drop (m ()).length).length=(l ()).length:=by rw [c9,cy,iU]; omega
      refine⟨none,0,[],by rw [hz]; exact jH _ _ _,by rw [bc]; exact bS,by rw [hz]; exact hlen,fun k cs j y u q1=>by cases q1⟩)
     exact SL
   . obtain⟨qR,h0⟩|⟨g',cap,cur,heq,iF,hg,SN,uQ,aS,tj⟩:=bS.1.2
     . cases qR
     simp only [Value.slice.injEq,bU,Addr.mk.injEq,aH,aJ] at heq;obtain⟨rfl,rfl⟩:=heq;rw [lX] at aS tj;have c7:cur.toList.length=cur.size:=am3;obtain⟨k,w',cZ,El,iZ⟩:=ab1 (P:=P) (ty:=ty) (sT:=T2) (off:=0) (n:=css.length) (c:=c) (c2:=cn) hE.1 hE.one hg hr (Mt (by rw [bc]; exact hr) pt) oo;have qk:=SJ (aft:=aft) (gd:=gd) (pos:=pos) (d:=d) (T2:=T2) (s:=s) (x:=x) (a:=a) _ (by rw [qc,hx,<- oD,<- hlen]; exact cZ);rw [ab3 x5 oo,yK,tj,ia,F9,tg,SK x5,qQ css bS.2,lX,yK,sd,ab4 css _ bS.2,<- P2] at El;generalize MI:news.take css.length++css.drop news.length=DI at El ab6;have cQ:DI.length=css.length:=by rw [<- MI,c9,cy,iU]; omega
     have ru:∀ cs∈DI,cs.length=1:=fun cs hc=>by
      rw [<- MI] at hc;rcases nJ.1 hc with h|h
      . exact x5 cs (xt h)
      . exact bS.2 cs (PZ h)
     have sr:=qQ DI ru;have BP:¬ ro g:=(H.own loc _ g hA rfl).2.1;have hw:∀ q,ro q->q<w.heap.size->w'.heap[q]? = w.heap[q]? := fun q hq af=>iZ.block q af fun hc=>by injection hc with hc; exact BP (hc▸hq)
     have Hh:dc w' (rb fr w0.heap.size) e' 1 (some ⟨g,0,none⟩) c DI:=by
      refine⟨⟨sr,.inr ⟨g,c,_,rfl,iF,El,by rw [cQ]; exact SN,uQ,?_,?_⟩⟩,ru⟩
      . rw [Dh,c9,sr,cQ,iU]; omega
      . rw [lX];exact ann (by rw [sr,lX])
     have hz:((m ()).take (l ()).length++(l ()).drop (m ()).length).length=(l ()).length:=by rw [c9,cy,iU]; omega
     have H2:=H.qg (w':=w') (loc:=loc) (n:=S.n) (r := .row (some ⟨g,0,none⟩) (l ()).length c) (e := .row fr t e' fun _=>(m ()).take (l ()).length++(l ()).drop (m ()).length) (H.from_.grown iZ (H.BN hA rfl)) iZ.size (fun q hq bg=>iZ.block q hq fun hc=>bg _ hA hc.symm) (fun q hq => .inl ⟨_,hA,hq⟩) hB (aN _) oE (.inl SM) (.inl fun q hq=>by rw [hA] at hq; cases hq) (by
      refine⟨some ⟨g,0,none⟩,c,DI,by rw [hz]; exact jH _ _ _,by rw [bc]; exact Hh,by rw [hz,cQ,hlen],fun k cs j y u q1 q2 q3 => ?_⟩;rw [uP hA];exact (ab6 k cs j y u q1 q2 q3).mono hw (Ext.refl _) (aN _) fun _ h=>h)
     exact SL
 . cases h
end
section
variable{P:Program}{w w' w0:World}{ρ ρ':Nat->Option Rl}{base:Nat}{ro ro':Nat->Prop}{S0:Pm}{Φ : Pm->Prop}{N:Nat}{B:Bs}{S:Sx}{a:Act}
theorem aqC(aQ:dp P C.ty)(H:bj w0 Φ N B S a w){sz len:Nat}{parts:Array (Nat×Operand)}{f:Bool}{es:List (Unit->t.el)}(hT:fZ C.ty T=some (.slice e sz b))(pG:BA 0 (parts.toList.map fun p=>(p.1,cm B S p.2))=some xs)(m8:D4 t xs=some (f,es))(bc:t.size=sz)(hlen:es.length=len)(aEt:len*sz<=16777216)(hB:al B.e S.n=none)(hp:cb B ⟨S.t,(S.n,.row f t e fun _=>es.map fun g=>g ())::S.e,S.n+1⟩ N d (.own S.n)=some S') :
 iu P ⟨some d,.buildSlice T len parts,ty,pos,aft,gd⟩ a w (bj w0 Φ N B S'):=by
 obtain⟨S0,hS,ρ,ro,H⟩:=H;obtain⟨i,_,hi,lI⟩:=fD aQ hT;obtain⟨⟨hu,j,z,hj,hz,xT,_,xA,pk⟩,_⟩:=BO lI hi;subst bc;obtain⟨h1,h2⟩:=aby pG;have hE:bn w ρ w0.heap.size ro (parts.toList.map fun p=>cm B S p.2) (parts.toList.map fun p=>a.eval p.2):=zc fun p _=>H.get p.2;have SO:xs=parts.toList.map fun p=>cm B S p.2:=by rw [<- h1]; simp
 rw [<- SO] at hE;obtain⟨css,q1,q2,q3⟩:=abq m8 hE;have c7:∀ cs∈css,cs.length=t.size:=fun cs aS=>by
  obtain⟨k,hk⟩:=mn.1 aS;have af:=(c8.1 hk).1;exact (q3 k cs _ hk (bq oo)).1
 have dh:parts.toList.length=len:=by
  have:css.length=parts.toList.length:=by
   have:=congrArg List.length q1;simpa using this.symm
  omega
 have h2':parts.toList.map (·.1)=List.range' 0 parts.toList.length:=by simpa [Function.comp_def] using h2
 have ab7:=abz (size:=t.size) (parts.toList.map fun p=>(p.1,a.eval p.2)) css 0 [] (((Array.range (len*t.size)).map fun (k:Nat)=>z.cells[k % z.cells.size]!).toList) (by rw [<- q1]; simp) (by simpa [Function.comp_def] using h2') c7 (by simp) (by simp [<- dh]);have cZ:(execOp a.eval ⟨some d,.buildSlice T len parts,ty,pos,aft,gd⟩).run P w = .ok (.value (.slice (some ⟨w.heap.size,0,none⟩) len len)) (w.alloc (.cells css.flatten.toArray e)):=by
  have ab8:(parts.map fun (i,x)=>(i,a.eval x)).toList=parts.toList.map fun p=>(p.1,a.eval p.2):=by simp
  have yW:=abt (w:=w) hj hz;unfold execOp;simp only [Instr.buildSlice,underlying,sizeOf,typeInfo,bQ,cq,cg,ou,hu,hj,xT];by_cases h0:len=0
  . subst h0;have Em:parts.toList = []:=De dh;have qd:css = []:=De oo;simp only [vR,show ¬ (0>2^24) by decide,fH,dK,bQ,cq,cg,ab8,Em,uj,qd];rw [Instr.fill];have e0:Array.range 0 = #[]:=by apply yP; simp
    simp only [e0,Kj,uj,List.flatten_nil];rfl
  have bg:¬ len*t.size=0:=fun h=>by rcases Nat.mul_eq_zero.1 h with h|h<;>omega
  simp only [show ¬ (len*t.size>2^24) from oo,bg,dK,bQ,cq,cg,yW,ab8];rw [tg,Array.toArray_toList] at ab7;rw [ab7,tg];rfl
 have gg:=H.fresh S.n (aN _);have gW:∀ q,q<w.heap.size->(w.alloc (.cells css.flatten.toArray e)).heap[q]? = w.heap[q]? := fun q hq=>uk w _ q hq;have ab9:(es.map fun g=>g ()).length=len:=by simp [hlen]
 have aca:css.length=len:=oo
 have lH:css.length<=maxLen:=by
  have:len*1<=len*t.size:=j7 _ pk;unfold maxLen;omega
 have bS:=apT (base:=rb f w0.heap.size) (AM w (.cells css.flatten.toArray e)) c7 (cd (Lc _ _) H.from_.size) lH;rw [aca] at bS;have H2:=H.qg (w':=w.alloc (.cells css.flatten.toArray e)) (loc:=S.n) (n:=S.n+1) (r := .row (some ⟨w.heap.size,0,none⟩) len len) (e := .row f t e fun _=>es.map fun g=>g ()) (H.from_.alloc _) (by simp) (fun q hq _=>gW q hq) (fun q jq=>by
  have lJ:some w.heap.size=some q:=jq;injection lJ with lJ;subst lJ;exact .inr ⟨aN _,by simp⟩) hB (Dq _) (Dj _) (.inl (sJ gg)) (.inl fun b hb=>by rw [gg] at hb; cases hb) (by
  refine⟨some ⟨w.heap.size,0,none⟩,len,css,by rw [ab9]; exact jH _ _ _,bS,by rw [ab9]; exact aca,fun k cs j y u r1 r2 r3 => ?_⟩
  . have hk:=(c8.1 r1).1;have oJ:es[k]? = some (es[k]'oo):=bq _;have r4:=(q3 k cs _ r1 oJ).2;rw [show ((es.map fun g=>g ()).getD k t.aa)=(es[k]'oo) () by simp [aY,oJ]] at r2;exact (r4.2 j y u r2 r3).mono (fun q _ af=>gW q af) (sJ gg) (aN _) fun _ h=>h)
 refine .inl ⟨_,_,cZ,S0,hS,_,_,H2.put hp (.own _ _ _ _ (jH _ _ _))⟩
theorem aqE(aQ:dp P C.ty)(H:bj w0 Φ N B S a w){i:fC}{k:Unit->Int}{fr f:Bool}{l:Unit->List t.el}{e:Unit->t.el}(hi:al C.ty T=some i)(hc:cellsOf (cm B S y)=some cs)(hx:cm B S x = .dv t loc k off)(he:bF B S loc=some (.row fr t T' l))(hl:cs.length=i.sz)(nL:off+i.sz<=t.size)(h1:cs.all AV.one=true)(hB:al B.e loc=none)(jE:xM t (.agg ((bf fr t fun _=>(l ()).getD (k ()).toNat t.aa).take off++cs++(bf fr t fun _=>(l ()).getD (k ()).toNat t.aa).drop (off+i.sz)))=some (f,e))(hf:fr=true->f=true) :
 iu P ⟨none,.store T x y,ty,pos,aft,gd⟩ a w (bj w0 Φ N B ⟨S.t,(loc,.row fr t T' fun _=>(l ()).set (k ()).toNat (e ()))::S.e,S.n⟩):=by
 obtain⟨S0,hS,ρ,ro,H⟩:=H;have mJ:=H.get x;rw [hx] at mJ;obtain⟨A,n,c,b,hA,rfl,tq,eV,nV⟩:=mJ.Lu;obtain⟨A',c',css,bW,bS,hlen,dQ⟩:=H.en _ _ he;rw [hA] at bW;injection bW with bW;injection bW with e1 e2 e3;subst e1; subst e2; subst e3;obtain⟨vs,hv,rq⟩:=Mp hc (H.get y);obtain⟨j,hj,xT,_⟩:=Lx (aQ T i hi);have nW:vs.length=i.sz:=by rw [<- rq.1]; exact hl
 obtain⟨kk,im⟩:∃ kk:Nat,kk=(k ()).toNat:=⟨_,rfl⟩
 rw [<- im] at nV jE ⊢;have Hn:kk<css.length:=oo
 obtain⟨qR,h0⟩|⟨g,cap,cur,heq,iF,hg,pt,uQ,aS,tj⟩:=bS.1.2
 . cases qR
 . simp only [Value.slice.injEq,bU,Addr.mk.injEq,aH,aJ] at heq;obtain⟨rfl,rfl⟩:=heq;have aqF:=qQ css bS.2;have aEu:kk*t.size+off+i.sz<=css.length*t.size:=by
    have:(kk+1)*t.size<=css.length*t.size:=pd _ Hn;rw [mV] at this;omega
   have aEv:css.length*t.size<=c*t.size:=pd _ pt;have cZ:=Qf (P:=P) (w:=w) (T:=T) (n:=i.sz) (g:=b) (off:=kk*t.size+off) (t:=T') (cur:=cur) (v:=a.eval y) (cs:=vs) (by rw [hj]; simp [xT]) (abu hv) nW hg oo (Sf h1 rq);generalize acb:(cur.toList.take (kk*t.size+off)++vs++cur.toList.drop (kk*t.size+off+i.sz)).toArray=ph at cZ;have qk:(execOp a.eval ⟨none,.store T x y,ty,pos,aft,gd⟩).run P w = .ok .skip (w.setRow b ph):=by
    exact abw
   have oE:loc<S.n:=by
    exact So
   have km:¬ ro b:=(H.own loc _ b hA rfl).2.1;have hw:∀ b',ro b'->b'<w.heap.size->(w.setRow b ph).heap[b']? = w.heap[b']? := fun b' bo _=>Kv _ _ _ _ (fun e=>km (e▸bo));generalize dO:(css[kk]).take off++vs++(css[kk]).drop (off+i.sz)=Eo at *
   have zC:(css[kk]).length=t.size:=bS.2 _ (lV Hn);have acd:Eo.length=t.size:=by rw [<- dO]; simp [zC,nW]; omega
   have qm:ph.toList.take (css.length*t.size)=(css.set kk Eo).flatten:=by
    have BQ:=abx css bS.2 kk off i.sz vs Hn nL nW;rw [dO] at BQ;rw [<- BQ,<- acb];have SP:cur.toList=css.flatten++cur.toList.drop (css.length*t.size):=by
     rw [<- tj,lT]
    have e1:(css.flatten++cur.toList.drop (css.length*t.size)).take (kk*t.size+off)=css.flatten.take (kk*t.size+off):=amK oo;have e2:(css.flatten++cur.toList.drop (css.length*t.size)).drop (kk*t.size+off+i.sz)=css.flatten.drop (kk*t.size+off+i.sz)++cur.toList.drop (css.length*t.size):=amL oo;rw [SP,e1,e2,<- fl];exact ann (by simp only [c9,cy,iU,aqF,nW]; omega)
   have Hh:dc (w.setRow b ph) (rb fr w0.heap.size) T' t.size (some ⟨b,0,none⟩) c (css.set kk Eo):=by
    refine⟨⟨?_,.inr ⟨b,c,ph,by simp,iF,YX w b _ _ T' _ hg,by simpa using pt,uQ,?_,?_⟩⟩,fun r hr => ?_⟩
    . rw [r9];rw [qQ (css.set kk Eo) (fun r hr=>by
       rcases Ki hr with h|h
       . exact bS.2 r h
       . rw [h]; exact acd),r9]
    . rw [<- acb];simp [nW];omega
    . rw [r9]; exact qm
    . rcases Ki hr with h|h
      . exact bS.2 r h
      . rw [h]; exact acd
   have hold:bn w ρ w0.heap.size ro (bf fr t fun _=>(l ()).getD kk t.aa) css[kk]:=wa zC fun j y v q1 q2=>dQ _ _ j y v (bq Hn) q1 q2;have rk:=(((hold.take off).append rq).append (hold.drop (off+i.sz)))
   rw [dO] at rk;obtain⟨us,LC,aEw,hE3⟩:=Mq jE (.agg _ _ rk.1 rk.2);have aqH:us=Eo:=by
    have:Eo.toArray=us.toArray:=LC;exact (P4 this).symm
   subst aqH;have H2:=H.qg (w':=w.setRow b ph) (loc:=loc) (n:=S.n) (r := .row (some ⟨b,0,none⟩) (l ()).length c) (e := .row fr t T' fun _=>(l ()).set kk (e ())) (H.from_.grown (Sl _ _ _) (H.BN hA rfl)) (by rw [setRow_size]; exact aN _) (fun b' bo bg=>Kv _ _ _ _ (fun e=>bg _ hA (by rw [e]; rfl))) (fun b' bo => .inl ⟨_,hA,bo⟩) hB (aN _) oE (.inl SM) (.inl fun q hq=>by rw [hA] at hq; cases hq) (by
    refine⟨some ⟨b,0,none⟩,c,css.set kk us,by simp only [r9]; exact jH _ _ _,Hh,by simp [hlen],fun k' cs' j y u q1 q2 q3 => ?_⟩;rw [uP hA];refine aj.mono ?_ hw (Ext.refl _) (aN _) fun _ h=>h;rw [te] at q1;split at q1
    . rename_i aqI;subst aqI
      first|rw [aG Hn] at q1|skip
      injection q1 with q1;subst q1;rw [show ((l ()).set kk (e ())).getD kk t.aa=e () by simp [aY,List.getElem?_set_self (show kk<(l ()).length from oo)]] at q2;exact (BM hE3 hf).2 j y u q2 q3
    . rename_i bg;rw [show ((l ()).set kk (e ())).getD k' t.aa=(l ()).getD k' t.aa by simp [aY,YK bg]] at q2;exact dQ k' cs' j y u q1 q2 q3)
   exact .inr (.inl ⟨_,qk,S0,hS,_,_,H2⟩)
theorem aqJ(jG:∀ S0,Φ S0->S0.fx=C.fx)(aQ:dp P C.ty)(H:bj w0 Φ N B S a w)(h:LY C N B S o=some (S',vcs))(hv:∀ c∈vcs,c ()):iu P o a w (bj w0 Φ N B S'):=by
 obtain⟨dst,op,ty,pos,aft,gd⟩:=o;unfold LY at h;dsimp only at h;split at h
 . rename_i T;split at h
   . rename_i i d hi;split at h
     . cases h
     . rename_i hc;simp only [fM,yR,xw,FP,jz] at hc
       cases hp:cb B ⟨S.t,(S.n,.box T i.z)::S.e,S.n+1⟩ N d (.ptr S.n 0) with
       | none=>rw [hp] at h; cases h
       | some S2=>rw [hp] at h; cases h; exact apQ aQ H hi hc.1 hc.2 hp
   . cases h
 . rename_i T x;split at h
   . rename_i cs d aS;split at h
     . cases h
     . rename_i hc;simp only [xw,FP,jz] at hc
       cases hp:cb B ⟨S.t,(S.n,.box T cs)::S.e,S.n+1⟩ N d (.ptr S.n 0) with
       | none=>rw [hp] at h; cases h
       | some S2=>rw [hp] at h; cases h; exact apR H aS hc hp
   . cases h
 . rename_i T ad x;split at h
   . rename_i i cs loc off hi aS hx;split at h
     . rename_i T' cells he;split at h
       . rename_i hc;simp only [aD,cC,aU,jz] at hc;cases h;exact apS aQ H hi aS hx he hc.1.1.1 hc.1.1.2 hc.1.2 hc.2
       . cases h
     . cases h
   . rename_i i cs t loc k off hi aS hx;split at h
     . rename_i fr t' T' l he;split at h
       . rename_i ht;subst ht;split at h
         . rename_i hc;simp only [aD,cC,aU,jz] at hc;split at h
           . rename_i f e jE;split at h
             . rename_i DL;cases h;exact aqE aQ H hi aS hx he hc.1.1.1 hc.1.1.2 hc.1.2 hc.2 jE (fun df=>by rw [df] at DL; simpa using DL)
             . cases h
           . cases h
         . cases h
       . cases h
     . cases h
   . cases h
 . rename_i T len parts;split at h
   . rename_i e sz b d hT;split at h
     . rename_i t ht;split at h
       . rename_i xs pG;split at h
         . rename_i f es m8;split at h
           . rename_i hc;simp only [aD,cC,aU,jz] at hc
             cases hp:cb B ⟨S.t,(S.n,.row f t e fun _=>es.map fun g=>g ())::S.e,S.n+1⟩ N d (.own S.n) with
             | none=>rw [hp] at h; cases h
             | some S2=>rw [hp] at h; cases h; exact aqC aQ H hT pG m8 hc.1.1.1 hc.1.1.2 hc.1.2 hc.2 hp
           . cases h
         . cases h
       . cases h
     . cases h
   . cases h
 . rename_i T l c;split at h
   . rename_i e sz b d hT;split at h
     . rename_i t ht;split at h
       . rename_i k0 kk k hl hk;split at h
         . rename_i hc;simp only [aD,cC,jz] at hc
           cases hp:cb B ⟨S.t,(S.n,.row true t e fun _ => [])::S.e,S.n+1⟩ N d (.own S.n) with
           | none=>rw [hp] at h; cases h
           | some S2=>rw [hp] at h; cases h; exact aqx aQ H hT hl hk hc.1 hc.2 hp (hv _ (.head _))
         . cases h
       . rename_i k0 n kk k hl hk;split at h
         . rename_i ie Bw;split at h
           . rename_i f x jE;split at h
             . rename_i hc;simp only [aD,cC,jz,fG] at hc
               cases hp:cb B ⟨S.t,(S.n,.row f t e fun _=>List.replicate (n ()).toNat (x ()))::S.e,S.n+1⟩ N d (.own S.n) with
               | none=>rw [hp] at h; cases h
               | some S2=>rw [hp] at h; cases h; exact aqy aQ H hT hl hk Bw jE hc.2 hc.1.1 hc.1.2 hp (hv _ (.head _))
             . cases h
           . cases h
         . cases h
       . cases h
     . cases h
   . cases h
 . rename_i T;split at h
   . rename_i kt et c t ag d hT;split at h
     . cases h
     . rename_i hc;simp only [xw,FP,jz] at hc
       cases hp:cb B ⟨S.t,(S.n,.map true ag c t T fun _ _=>none)::S.e,S.n+1⟩ N d (.mp S.n) with
       | none=>rw [hp] at h; cases h
       | some S2=>rw [hp] at h; cases h; exact ap6 H hc hp
   . cases h
 . rename_i T x i v;split at h
   . rename_i kt et c t ag loc hT hx;split at h
     . rename_i fr kO c' t' T' m k he hk;split at h
       . rename_i hc;obtain⟨rfl,rfl,rfl⟩:=hc;split at h
         . rename_i f e jE;split at h
           . rename_i hb;simp only [aD,jz] at hb;cases h;exact ap8 aQ H hT hx he hk jE hb.1 hb.2
           . cases h
         . cases h
       . cases h
     . cases h
   . cases h
 . rename_i T x i;split at h
   . rename_i kt et c t ag loc d hT hx;split at h
     . rename_i fr kO c' t' T' m k he hk;split at h
       . rename_i hc;obtain⟨rfl,rfl,rfl⟩:=hc;split at h
         . rename_i hb;simp only [aD,jz] at hb
           cases hp:cb B ⟨S.t,(S.n,.bL loc c' k)::(loc,.map fr kO c' t' T' fun _=>ft (m ()) (k ()) ((m () (k ())).getD t'.aa))::mE loc S.e,S.n+1⟩ N d (.bp [fh kO fr t' fun _=>(m () (k ())).getD t'.aa,.bL S.n]) with
           | none=>rw [hp] at h; cases h
           | some S2=>rw [hp] at h; cases h; exact ap9 aQ H hT hx he hk hb.1.1 hb.1.2 hb.2 hp
         . cases h
       . cases h
     . cases h
   . cases h
 . rename_i T x s v;split at h
   . rename_i loc l2 hx hs;split at h
     . rename_i fr ag c t T' m ml c' key he sK;split at h
       . rename_i hc;obtain⟨rfl,rfl⟩:=hc;split at h
         . rename_i f e jE;split at h
           . rename_i hb;simp only [aD,jz] at hb;cases h;exact aqb H hx hs he sK jE hb.1 hb.2
           . cases h
         . cases h
       . cases h
     . cases h
   . cases h
 . rename_i c;obtain⟨callee,ir,pv⟩:=c;dsimp only at h;split at h
   . rename_i s x T T2 d BX SQ;have ha:ir = #[s,x]:=by simpa using congrArg List.toArray BX
     have ht:pv = #[T,T2]:=by simpa using congrArg List.toArray SQ
     subst ha; subst ht;split at h
     . rename_i SR;have aqK:=eq_of_beq SR;subst aqK;split at h
       . rename_i e sz b hT;split at h
         . rename_i loc hs;split at h
           . rename_i fr t e' l he;split at h
             . rename_i hc;simp only [aD,cC,jz] at hc;obtain⟨⟨⟨⟨rfl,bc⟩,hB⟩,hq⟩,Ep⟩:=hc;split at h
               . rename_i f m hn;split at h
                 . cases h
                 . cases hp:cb B ⟨(kill loc S).t,(loc,.row (fr&&f) t e' fun _=>l ()++m ())::(kill loc S).e,S.n⟩ N d (.own loc) with
                   | none=>rw [hp] at h; cases h
                   | some S2=>rw [hp] at h; cases h; exact ap1 aQ H hT hs he bc hB hq hn hp (hv _ (.head _)) (fun S0 hS=>by rw [jG S0 hS]; simpa using Ep)
               . cases h
             . cases h
           . cases h
         . rename_i t0 loc a0 b0 hs;split at h
           . rename_i fr t e' l he;split at h
             . rename_i hc;simp only [aD,cC,jz] at hc;obtain⟨⟨⟨⟨rfl,bc⟩,hB⟩,hq⟩,Ep⟩:=hc;split at h
               . rename_i f m hn
                 cases hp:cb B ⟨(kill loc S).t,(loc,.row (fr&&f) t e' fun _=>(l ()).take (b0 ())++m ())::(kill loc S).e,S.n⟩ N d (.own loc) with
                 | none=>rw [hp] at h; cases h
                 | some S2=>rw [hp] at h; cases h; exact ap2 aQ H hT hs he bc hB hq hn hp (hv _ (.head _)) (hv _ (.tail _ (.head _))) (fun S0 hS=>by rw [jG S0 hS]; simpa using Ep)
               . cases h
             . cases h
           . cases h
         . rename_i hs;split at h
           . rename_i t ht;split at h
             . rename_i hc;simp only [aD,cC,jz] at hc;split at h
               . rename_i f m hn
                 cases hp:cb B ⟨S.t,(S.n,.row f t e m)::S.e,S.n+1⟩ N d (.own S.n) with
                 | none=>rw [hp] at h; cases h
                 | some S2=>rw [hp] at h; cases h; exact ap3 aQ H hT hs hc.1 hc.2 hn hp (hv _ (.head _))
               . cases h
             . cases h
           . cases h
         . cases h
       . cases h
     . cases h
   . rename_i s x T T2 d BX SQ;have ha:ir = #[s,x]:=by simpa using congrArg List.toArray BX
     have ht:pv = #[T,T2]:=by simpa using congrArg List.toArray SQ
     subst ha; subst ht;exact aqB aQ H h
   . cases h
 . cases h
structure JOk (J:Nat->(Nat->Prop)->(Nat->Prop)->World->Prop):Prop where
 py:∀ p O R W b,J p O R W->R b\/O b->b<W.heap.size
 zk:∀ p O R (W W':World),J p O R W->W'.os=W.os->W'.tape=W.tape->W'.output=W.output->W.heap.size<=W'.heap.size->(∀ b,R b\/O b->W'.heap[b]? = W.heap[b]?)->J p O R W'
structure SS (O O' R R' rr:Nat->Prop) (W W':World):Prop where
 os:W'.os=W.os
 tape:W'.tape=W.tape
 output:W'.output=W.output
 size:W.heap.size<=W'.heap.size
 lu:∀ b,b<W.heap.size->¬ O b->W'.heap[b]? = W.heap[b]?
 own:∀ b,O' b->O b\/W.heap.size<=b
 kP:∀ b,R' b->R b\/rr b\/W.heap.size<=b
def sN(P:Program)(c:It):Prop:=(∀ args w,(callFunc c.f args).run P w = .ok (.enter c.f args) w) /\
 ∀ ah res,c.go ah=some res->∀ (w:World) (ra:Nat->Prop) (eu:List Value) (l:Nat) (J:Nat->(Nat->Prop)->(Nat->Prop)->World->Prop) (O R:Nat->Prop),JOk J->(∀ b,ra b->b<w.heap.size/\¬ O b)->bn w (fun _=>none) 0 ra ah eu->res.pre ()->J 1 O R w ->
  (∀ p O R W args rr,J (p+1) O R W->p<res.n ()->bn W (fun _=>none) 0 rr (res.el fun _=>p) args->(∀ b,rr b->b<W.heap.size/\¬ O b/\(b<w.heap.size->ra b))->YieldAt Fence.wide 0 P l args.toArray W fun e W'=>∃ ok O' R',e = .returned (.bool ok)/\J (cond ok (p+2) 0) O' R' W'/\SS O O' R R' rr W W') ->
  CallsIn Fence.wide 0 P c.f (#[.func (.yield l) #[] #[]]++eu.toArray) w fun e w'=>(∃ v,e = .returned v)/\∃ O R,J (res.n ()+1) O R w'\/J 0 O R w'
structure oM (P:Program) (C:Cx) (w0:World) (Φ : Pm->Prop):Prop where
 cs:∀ c∈C.cs,aE P c
 fs:∀ c∈C.fs,jb P c
 ng:∀ c∈C.ng,sN P c
 dm:∀ S0 S1,Φ S0 -> Φ S1->∀ l r,S1.pl l=some r->(r.dH||S1.fx)=true->∃ r',S0.pl l=some r'/\(r'.dH||S0.fx)=true
 yl:∀ y,C.yl=some y->∀ S0,Φ S0->(∀ b,S0.ex b)/\∃ p,(S0.pl=fun l=>if l=0 then some (.bL p) else none)/\∀ W args rr,S0.inv W->0<p->p<=y.n ()->bn W (fun _=>none) 0 rr (y.el fun _=>p - 1) args->(∀ b,rr b->b<W.heap.size/\¬ S0.own b/\(b<w0.heap.size->S0.rd b))->YieldAt Fence.wide 0 P (y.l ()) args.toArray W fun e W'=>∃ ok S1,e = .returned (.bool ok) /\ Φ S1/\S1.rd=S0.rd/\S1.fx=S0.fx/\S1.ds=S0.ds/\S1.fm=S0.fm/\(S1.pl=fun l=>if l=0 then some (.bL (cond ok (p+1) 0)) else none)/\S1.inv W'/\SS S0.own S1.own S0.kP S1.kP rr W W'
 fx:∀ S0,Φ S0->S0.fx=C.fx
 pl:∀ S0,Φ S0->∀ l r,S0.pl l=some r->l<C.nb
theorem acf{cs:List fi}{f:FuncId}{c:fi}(aS:∀ c∈cs,jb P c)(h:Bz cs f=some c):jb P c/\c.f=f:=by
 induction cs with
 | nil=>cases h
 | cons c' cs ih =>
  unfold Bz at h;exact aaO
theorem aqL(aS:oM P C w0 Φ)(H:bj w0 Φ N B S a w)(h:GW C N B S o=some (S',vcs))(hv:∀ c∈vcs,c ()):iu P o a w (bj w0 Φ N B S'):=by
 obtain⟨dst,op,ty,pos,aft,gd⟩:=o;unfold GW at h;dsimp only at h;split at h
 . rename_i c;obtain⟨callee,ir,pv⟩:=c;dsimp only at h;split at h
   . rename_i f;split at h
     . rename_i fo zi;split at h
       . rename_i ah st wi;split at h
         . rename_i res sD;split at h
           . rename_i hc;simp only [aD,cC] at hc;obtain⟨⟨⟨⟨hlen,BT⟩,ch⟩,rk⟩,SU⟩:=hc;obtain⟨aR,rfl⟩:=acf aS.fs zi;obtain⟨S0,hS,ρ,ro,H⟩:=H;have SV:S0.fx=true->fo.fix=true:=fun h=>by rw [aS.fx S0 hS] at h; simpa [h] using SU
             split at h
             . rename_i d
               cases hp:cb B ⟨(forget fo.fix st.aT S).t,l0 (jX st.aT S.n) res.es++(forget fo.fix st.aT S).e,S.n+(oF fo.n (dS res.es) - fo.n)⟩ N d (AV.gQ (jX st.aT S.n) res.av) with
               | none=>rw [hp] at h; cases h
               | some S2 =>
                rw [hp] at h;cases h;have ja:=hv _ (.head _);have hE:bn w ρ w0.heap.size ro (ir.toList.map (cm B S)) (ir.toList.map a.eval):=zc fun x _=>H.get x;obtain⟨SW,BX⟩:=Sy (fun l e he=>H.en l e he) _ _ _ _ _ _ wi hE;have jI:=SW.nodup List.nodup_nil;have uS:∀ l∈st.aT,∃ r,ρ l=some r:=fun l hl=>(SW.some_ l hl).resolve_left (by simp);have uV:=aR.2 ah st.es res sD w (ρL ρ st.aT) ro (ir.toList.map a.eval) H.gX (BX st.aT ⟨[],by simp⟩) (fun l e he=>(SW.en st.aT ⟨[],by simp⟩ l e he).resolve_left (by simp [al])) (fun l l' r r' b bg h1 h2 h3 h4=>by
                 obtain⟨x,hx,SX⟩ := wz h1;obtain⟨y,hy,Ho⟩ := wz h2;refine H.apart x y r r' b (fun e=>bg ?_) SX Ho h3 h4;subst e;exact (List.getElem?_inj (c8.1 hx).1 jI).1 (hx.trans hy.symm)) (fun l hl=>by unfold ρL; rw [vF oo]) (fun l r b h1 h2=>by
                 obtain⟨x,hx,SX⟩ := wz h1;have:=H.own x r b SX h2;exact⟨this.1,this.2.1⟩) ja
                have cZ:(execOp a.eval ⟨some d,.call { callee := .value (.func fo.f),args:=ir,argTypes:=pv },ty,pos,aft,gd⟩).run P w = .ok (.enter fo.f (ir.toList.map a.eval).toArray) w:=by
                 have:=LH (P:=P) (r:=a.eval) (d:=some d) (ty:=ty) (pos:=pos) (aft:=aft) (gd:=gd) (w:=w) (c := .func fo.f) (xs:=ir) (ts:=pv) (vs := []) (F:=fo.f) rfl aR.1;simpa using this
                refine .inr (.inr (.inl ⟨_,_,cZ,uV.mono fun e w' hq => ?_⟩));obtain⟨v,ρ1,fP,rfl,hL,hr⟩:=hq;obtain⟨ρ',H2,SY⟩:=H.called hlen jI uS BT ch rk SV hL;exact⟨v,rfl,S0,hS,ρ',_,H2.put hp ((hr.gQ SY).mono (fun _ _ _=>rfl) (Ext.refl _) H.from_.size fun b hb => .inr hb)⟩
             . cases h
           . cases h
         . cases h
       . cases h
     . cases h
   . cases h
 . cases h
theorem SZ(t:Tc)(x:Unit->t.el):AV.wu (bf true t x)=true:=by cases t<;>rfl
theorem BY:∀ {l:List AV} {j:Nat} {x:AV},AV.wu l=true->l[j]? = some x->AV.ri x=true
 | y::l,0,x,h,hx=>by
  simp only [pW,bU] at hx;subst hx;simp only [AV.wu,aD] at h;exact h.1
 | y::l,j+1,x,h,hx=>by
  simp only [AV.wu,aD] at h;exact BY h.2 (by simpa using hx)
 | [],j,x,_,hx=>by simp at hx
theorem aqM(ag:Bool)(t:Tc)(x:Unit->t.el):AV.ri (fh ag true t x)=true:=by
 unfold fh;have h:=SZ t x
 cases ag with
 | true=>exact h
 | false =>
  simp only [fk,dK]
  cases hc:bf true t x with
  | nil=>rfl
  | cons c l =>
   rw [hc] at h
   cases l with
   | nil=>simpa [AV.wu] using h
   | cons c2 l=>rfl
theorem aj.Er{x:AV}(h:aj w ρ base ro x v)(hx:AV.ri x=true):aj w ρ base (fun b=>ro b/\base<=b) x v:=by
 induction h with
 | un=>exact .un _
 | gv=>exact .gv _
 | int=>exact .int _ _
 | lit=>exact .lit _ _
 | bool=>exact .bool _
 | aV=>exact .aV _
 | str=>exact .str _
 | nil=>exact .nil
 | sl fr t l A c css hl hc hr mC df h ih =>
  have hf:fr=true:=by simpa [AV.ri] using hx
  subst hf;exact .sl true t l A c css hl hc hr (fun a ha hn=>⟨mC a ha hn,df rfl a ha hn⟩) df fun k cs j y v h1 h2 h3=>ih k cs j y v h1 h2 h3 (BY (SZ _ _) h2)
 | wide fr t l n A c hn h ih=>exact .wide fr t l n A c hn (ih MJ)
 | bP cells off b o cs hr af hl hc h ih=>cases hx
 | ptr l off b h=>exact .ptr _ _ _ h
 | fX l off n b h=>exact .fX _ _ _ _ h
 | own l A n c h=>exact .own _ _ _ _ h
 | dv t l k off A n c b h hA h0 hn=>exact .dv _ _ _ _ _ _ _ _ h hA h0 hn
 | cW t l a b A n c h bJ=>exact .cW _ _ _ _ _ _ _ h bJ
 | mp l b h=>exact .mp _ _ h
 | bL l b h=>exact .bL _ _ h
 | it l l2 b h=>exact .it _ _ _ h
 | agg l vs hl h ih=>exact .agg _ _ hl fun j y v h1 h2=>ih j y v h1 h2 (BY MJ h1)
 | bp l vs hl h ih=>exact .bp _ _ hl fun j y v h1 h2=>ih j y v h1 h2 (BY MJ h1)
 | fn f dV vs hl h ih=>exact .fn _ _ _ hl fun j y v h1 h2=>ih j y v h1 h2 (BY MJ h1)
theorem dz.Er{l:Nat}{e:En}(h:dz w ρ base ro l e)(hx:En.ri e=true):dz w ρ base (fun b=>ro b/\base<=b) l e:=by
 cases e with
 | box T cells =>
  obtain⟨b,cs,h1,h4,h5⟩:=h;exact⟨b,cs,h1,h4,h5.1,fun j x v uJ hv=>(h5.2 j x v uJ hv).Er (BY (by simpa [En.ri] using hx) uJ)⟩
 | row fr t T m =>
  obtain⟨A,c,css,h1,h2,h3,h5⟩:=h;have hf:fr=true:=by simpa [En.ri] using hx
  subst hf;exact⟨A,c,css,h1,h2,h3,fun k cs j x v k1 k2 k3=>(h5 k cs j x v k1 k2 k3).Er (BY (SZ _ _) k2)⟩
 | map fr ag c t T m =>
  obtain⟨b,es,clock,h1,h2,h3,h4⟩:=h;have hf:fr=true:=by simpa [En.ri] using hx
  subst hf;exact⟨b,es,clock,h1,h2,h3,h4.tv fun x v hx=>hx.Er (aqM _ _ _)⟩
 | iter ml c seen left=>cases hx
 | bL ml c key=>cases hx
 | fY k=>cases hx
 | dead=>cases hx
theorem acg:∀ {l:List (Nat×En)} {k:Nat} {e:En},LZ l=true->al l k=some e->En.ri e=true
 | (j,y)::l,k,e,h,he=>by
  unfold LZ at h;simp only [aD] at h;rw [cO] at he;split at he
  . cases he; exact h.1
  . exact acg h.2 he
 | [],_,_,_,he=>by cases he
theorem aqN(aS:oM P C w0 Φ)(H:bj w0 Φ N B S a w)(h:GX C N B S o=some (S',vcs))(hv:∀ c∈vcs,c ()):iu P o a w (bj w0 Φ N B S'):=by
 obtain⟨dst,op,ty,pos,aft,gd⟩:=o;unfold GX at h;dsimp only at h;split at h
 . rename_i c;obtain⟨callee,ir,pv⟩:=c;dsimp only at h;split at h
   . rename_i f;split at h
     . rename_i fo zi;split at h
       . rename_i ah wi;split at h
         . rename_i res sD;split at h
           . rename_i hc;simp only [aD,cC] at hc;obtain⟨⟨⟨⟨mK,Sr⟩,bg⟩,rk⟩,SU⟩:=hc;obtain⟨aR,rfl⟩:=acf aS.fs zi;obtain⟨S0,hS,ρ,ro,H⟩:=H;have SV:S0.fx=true->fo.fix=true:=fun h=>by rw [aS.fx S0 hS] at h; simpa [h] using SU
             split at h
             . rename_i d
               cases hp:cb B ⟨(forget fo.fix [] S).t,l0 (jX [] S.n) res.es++(forget fo.fix [] S).e,S.n+(oF 0 (dS res.es) - 0)⟩ N d (AV.gQ (jX [] S.n) res.av) with
               | none=>rw [hp] at h; cases h
               | some S2 =>
                rw [hp] at h;cases h;have ja:=hv _ (.head _);have hE:bn w ρ w0.heap.size ro (ir.toList.map (cm B S)) (ir.toList.map a.eval):=zc fun x _=>H.get x;have BX:=xI (fun l e he=>H.en l e he) H.gX _ _ _ _ wi hE (.inr fun _ h=>h);have uV:=aR.2 ah [] res sD w (fun _=>none) (fun b=>b<w.heap.size) (ir.toList.map a.eval) (fun _ h=>h) BX (fun l e he=>by cases he) (fun _ _ _ _ _ _ h=>by cases h) (fun _ _=>rfl) (fun _ _ _ h=>by cases h) ja;have cZ:(execOp a.eval ⟨some d,.call { callee := .value (.func fo.f),args:=ir,argTypes:=pv },ty,pos,aft,gd⟩).run P w = .ok (.enter fo.f (ir.toList.map a.eval).toArray) w:=by
                 have:=LH (P:=P) (r:=a.eval) (d:=some d) (ty:=ty) (pos:=pos) (aft:=aft) (gd:=gd) (w:=w) (c := .func fo.f) (xs:=ir) (ts:=pv) (vs := []) (F:=fo.f) rfl aR.1;simpa using this
                refine .inr (.inr (.inl ⟨_,_,cZ,uV.mono fun e w' hq => ?_⟩));obtain⟨v,ρ1,fP,rfl,hL,hr⟩:=hq;have oN:Left w w' (ρL ρ []) ρ1 ro (fun b=>fP b/\w.heap.size<=b) res.es fo.fix:=by
                 have e : ρL ρ []=fun _=>none:=funext fun k=>by unfold ρL; simp
                 rw [e];exact⟨hL.from_,fun l e he=>(hL.en l e he).Er (acg bg he),hL.apart,hL.fresh,fun l r b h1 h2=>⟨(hL.own l r b h1 h2).1,fun h4=>(hL.own l r b h1 h2).2.1 h4.1,(hL.own l r b h1 h2).2.2⟩,fun b hb=>⟨(hL.rd b hb.1).1,fun h=>absurd hb.2 oo⟩,hL.dH⟩
                obtain⟨ρ',H2,SY⟩:=H.called (aT := []) (n:=0) rfl List.nodup_nil (fun _ h=>by cases h) rfl rfl rk SV oN;exact⟨v,rfl,S0,hS,ρ',_,H2.put hp (((hr.Er Sr).gQ SY).mono (fun _ _ _=>rfl) (Ext.refl _) H.from_.size fun b hb => .inr hb)⟩
             . cases h
           . cases h
         . cases h
       . cases h
     . cases h
   . cases h
 . cases h
theorem ach(aQ:dp P C.ty)(aS:oM P C w0 Φ)(H:bj w0 Φ N B S a w)(h:L6 C N B S o=some (S',vcs))(hv:∀ c∈vcs,c ()):iu P o a w (bj w0 Φ N B S'):=by
 unfold L6 at h;split at h
 case h_2=>cases h
 rename_i av MK oO;obtain⟨S0,hS,ρ,ro,H⟩:=H;obtain⟨dst,op,ty,pos,aft,gd⟩:=o;have aqO:vcs=MK:=by
  split at h
  . rename_i d hd
    cases hp:cb B S N d av with
    | none=>rw [hp] at h; cases h
    | some S2=>rw [hp] at h; cases h; rfl
  . cases h; rfl
 subst aqO;have h1:=aaR (d:=dst) (ty:=ty) (pos:=pos) (aft:=aft) (gd:=gd) (r:=a.eval) aQ aS.cs (fun l e he=>H.en l e he) (fun x _=>H.get x) H.gX H.from_.size oO hv;have ga:∀ v w',dL w w'->aj w' ρ w0.heap.size (fun b=>ro b\/w.heap.size<=b) av v->bj w0 Φ N B S' (a.put dst v) w':=by
  intro v w' hb eU;have H2:=H.calm hb
  cases dst with
  | some d =>
   dsimp only at h
   cases hp:cb B S N d av with
   | none=>rw [hp] at h; cases h
   | some S2=>rw [hp] at h; cases h; exact⟨S0,hS,_,_,H2.put hp eU.calm⟩
  | none =>
   cases h;exact⟨S0,hS,_,_,H2⟩
 rcases h1 with ⟨v,w',h2,h3,h4⟩|⟨f,args,h2,h3⟩
 . exact .inl ⟨v,w',h2,ga v w' h3 h4⟩
 . exact .inr (.inr (.inl ⟨f,args,h2,h3.mono fun e w' ⟨v,q1,q2,q3⟩=>⟨v,q1,ga v w' q2 q3⟩⟩))
theorem aci(aQ:dp P C.ty)(aS:oM P C w0 Φ)(H:bj w0 Φ N B S a w)(h:pC C N B S o=some (S',vcs))(hv:∀ c∈vcs,c ()):iu P o a w (bj w0 Φ N B S'):=by
 unfold pC at h;split at h
 . rename_i av MK oO;exact ach aQ aS H (by unfold L6; rw [oO]; exact h) hv
 . split at h
   . rename_i r hm;cases h;have H1:bj w0 Φ N B (cond C.fx S (L3 C.nb B S o.op)) a w:=by
      cases hc:C.fx with
      | true=>exact H
      | false=>exact apJ aS.pl (fun S0 hS=>by rw [aS.fx S0 hS,hc]) H _
     exact aqJ aS.fx aQ H1 hm hv
   . split at h
     . rename_i r hm;cases h;exact aqL aS H hm hv
     . split at h
       . rename_i r hm;cases h;exact aqN aS H hm hv
       . unfold L7 at h;split at h
         . split at h
           . split at h
             . rename_i hc;simp only [aD,fG] at hc;exact ach aQ aS (BE aS.pl (fun S0 hS=>by rw [aS.fx S0 hS,hc.2]) H) h hv
             . cases h
           . cases h
         . cases h
theorem acj:aj w ρ base ro (.bp []) undef := .bp [] [] rfl fun j x v h=>by simp at h
theorem S4(H:bj w0 Φ N B S a w)(h:rn N B S o=some S'):bj w0 Φ N B S' (a.put o.dst undef) w:=by
 obtain⟨S0,hS,ρ,ro,H⟩:=H;unfold rn at h;split at h
 . rename_i d hd;rw [hd];exact⟨S0,hS,_,_,H.put h acj⟩
 . rename_i hd;rw [hd];cases h;exact⟨S0,hS,_,_,H⟩
theorem Hp:∀ {l:List VC},pz l->∀ c∈l,c ()
 | [],_,c,hc=>by cases hc
 | [c],h,c',hc=>by rw [oq] at hc; subst hc; exact h
 | c::d::l,h,c',hc=>by
  rcases gD.1 hc with rfl|hc
  . exact h.1
  . exact Hp h.2 c' hc
theorem ack{x:AV}(h:cb B S N d x=some S'):S'=⟨(d,x)::S.t,S.e,S.n⟩:=by
 unfold cb at h;split at h
 . cases h
 . cases h; rfl
theorem S5{l:Nat}{e:En}:∀ {es:List (Nat×En)},G3 es=true->al es l=some e->En.under nz e=true
 | (k,e')::es,h,he=>by
  simp only [G3,aD] at h;rw [cO] at he;split at he
  . cases he; exact h.1
  . exact S5 h.2 he
 | [],_,he=>by cases he
theorem aj.aqP{l:Unit->Nat}(h:aj w ρ base ro (.gv l) v):v = .func (.yield (l ())) #[] #[]:=by cases h; rfl
theorem aqQ(aS:oM P C w0 Φ)(H:bj w0 Φ N B S a w){c:Call}{l k:Unit->Nat}{y:Yl}(hc:c.callee = .value x)(hx:cm B S x = .gv l)(hy:C.yl=some y)(he:bF B S 0=some (.fY k))(hq:RY B S=true)(hu:AV.nR (fun _=>false) (y.el fun _=>k () - 1)=true)(hE:uL none B S (c.args.toList.map (cm B S)) (y.el fun _=>k () - 1)=some vcs)(h1:cb B S N d (.aV true)=some S1)(h2:cb B S N d (.aV false)=some S2)(hv:∀ v∈vcs,v ())(hl:l ()=y.l ()/\0<k ()/\k ()<=y.n ())(zD:(K ⟨S1.t,(0,.fY fun _=>k ()+1)::S1.e,S1.n⟩).P)(BZ:(K ⟨S2.t,(0,.fY fun _=>0)::S2.e,S2.n⟩).P):iu P ⟨some d,.call c,ty,pos,aft,gd⟩ a w fun a' w'=>∃ S',bj w0 Φ N B S' a' w'/\(K S').P:=by
 obtain⟨S0,hS,ρ,ro,H⟩:=H;have nV:a.eval x = .func (.yield (l ())) #[] #[]:=by
  have h:=H.get x;rw [hx] at h;exact h.aqP
 obtain⟨hex,p,dh,hY⟩:=aS.yl y hy S0 hS;have h0 : ρ 0=some (.bL (k ())):=H.en _ _ he;have hp:k ()=p:=by
  have h:=H.dH 0 (.bL p) (by rw [dh]; rfl) rfl;rw [h0] at h;injection h with h;injection h
 unfold RY at hq;simp only [aD,jz] at hq;obtain⟨QG,hqS,hqB,hqe,hqE⟩:=hq;have ML:=zy (ρ2:=fun _=>none) (ro2:=ro) (p:=fun _=>false) H ⟨fun _ _ _ h=>(by cases h),fun _ h=>h,fun _ _ _ h=>(by cases h),fun _ h _ _ _ _ _ _=>(by cases h)⟩ _ _ vcs (c.args.toList.map a.eval) hE hv (zc fun x _=>H.get x) hu;rw [hp] at ML;obtain⟨fn,tmps,ag,bd,cZ,aqV⟩:=hY w _ ro H.from_.inv oo oo (ML.mono (fun _ _ _=>rfl) (Ext.refl _) (bw _) fun _ h=>h) fun b hb=>⟨H.gX b hb,(H.fp b hb).2,(H.fp b hb).1⟩
 have qk:(execOp a.eval ⟨some d,.call c,ty,pos,aft,gd⟩).run P w = .ok (.round (y.l ()) fn tmps ag bd) w:=by
  rw [<- hl.1] at cZ ⊢;obtain⟨callee,ir,pv⟩:=c;dsimp only at hc;subst hc;unfold execOp;generalize a.eval=r at nV cZ ⊢;have e:(ir.toList.map r).toArray=ir.map r:=by rw [<- Array.toList_map]
  rw [e] at cZ;simp [resolve,invoke,go_sem,nV,cZ]
 have h0n:0<S.n:=by
  rcases vH S.n with h|h
  . have:=H.fresh 0 oo;rw [h0] at this;cases this
  . exact h
 refine .inr (.inr (.inr ⟨_,fn,tmps,ag,bd,qk,aqV.mono fun e w' hq => ?_⟩));obtain⟨ok,T0,rfl,Es,e1,e2,e3,e4,e5,e6,R⟩:=hq;refine⟨_,rfl,?_⟩;have hρ:∀ l' r,ρ l'=some r->nz l'=true->fK ρ 0 (.bL (cond ok (p+1) 0)) l'=some r:=fun l' r h2 h1=>by
  unfold fK;rw [ax (by rintro rfl; cases h1)];exact h2
 have fN:∀ l' r b,fK ρ 0 (.bL (cond ok (p+1) 0)) l'=some r->r.cH=some b->l'≠0 /\ ρ l'=some r:=fun l' r b h1 h2=>by
  unfold fK at h1;split at h1
  . cases h1; cases h2
  . rename_i bg; exact⟨bg,h1⟩
 have hw:∀ b,ro b->b<w.heap.size->w'.heap[b]? = w.heap[b]? := fun b hb af=>R.lu b af (H.fp b hb).2;have gW:∀ l' r b,ρ l'=some r->r.cH=some b->w'.heap[b]? = w.heap[b]? := fun l' r b q1 q2=>R.lu b (H.own l' r b q1 q2).1 fun h=>(H.own l' r b q1 q2).2.2.2 (S0.zj b h);have HS:bK w0 T0 N B ⟨S.t,(0,.fY fun _=>cond ok (p+1) 0)::S.e,S.n⟩ a w' (fK ρ 0 (.bL (cond ok (p+1) 0))) ro:=by
  refine⟨⟨R.os.trans H.from_.os,R.tape.trans H.from_.tape,R.output.trans H.from_.output,cd H.from_.size R.size,fun k hk hn hx => ?_,e6⟩,H.size,by rw [e3]; exact H.defers,fun b hb=>iT (H.gX b hb) R.size,fun s x h => ?_,fun l' e h => ?_,fun l1 l2 r r' b bg k1 k2 k3 k4 => ?_,fun l' cQ => ?_,fun l' r b k1 k2 => ?_,fun b hb=>⟨by rw [e1]; exact (H.fp b hb).1,fun ho => ?_⟩,fun l' r k1 k2 => ?_,H.kQ,fun l' e h => ?_,by rw [e4]; exact H.fm⟩
  . exact absurd ((aS.yl y hy T0 Es).1 k) hx
  . obtain⟨u,q1,q2⟩:=H.tm s x h;refine⟨u,q1,(q2.zz ?_ hρ).mono hw (Ext.refl _) (aN _) fun _ h=>h⟩;unfold dR at h;split at h
    . rename_i z hz;cases h;exact MH hqS hz
    . exact MH hqB h
  . unfold bF at h;rw [cO] at h;by_cases p6:0=l'
    . rw [aG p6] at h;cases h;subst p6;exact jH _ _ _
    . rw [ax p6] at h;have Hq:nz l'=true:=by
       unfold nz;simp only [fG,Kk];exact fun e=>p6 e.symm
      have hue:En.under nz e=true:=by
       split at h
       . rename_i z hz;cases h;exact S5 hqe hz
       . exact S5 hqE h
      exact ((H.en l' e h).mono hw gW (Ext.refl _) fun _ h=>h).fixed Hq hue hρ
  . obtain⟨_,q1⟩:=fN l1 r b k1 k3;obtain⟨_,q2⟩:=fN l2 r' b k2 k4;exact H.apart l1 l2 r r' b bg q1 q2 k3 k4
  . unfold fK;rw [ax (by simp only at cQ; omega)];exact H.fresh l' cQ
  . obtain⟨q1,q2⟩:=fN l' r b k1 k2;have q3:=H.own l' r b q2 k2;refine⟨iT q3.1 R.size,q3.2.1,?_,fun hf => ?_⟩
    . rcases q3.2.2.1 with q4|⟨r0,q4,_⟩
      . exact .inl q4
      . rw [dh] at q4;dsimp only at q4;rw [if_neg q1] at q4;cases q4
    . rcases R.kP b hf with q4|q4|q4
      . exact q3.2.2.2 q4
      . exact q3.2.1 q4
      . omega
  . rcases R.own b ho with q4|q4
    . exact (H.fp b hb).2 q4
    . have:=H.gX b hb; omega
  . rw [e5] at k1;dsimp only at k1;split at k1
    . rename_i h;subst h;rw [jH];exact k1
    . cases k1
  . rw [cO,ax (by rintro rfl; rw [QG] at h; cases h)];exact H.kT l' e h
 rw [hp] at zD;have q1:=ack h1;have q2:=ack h2;subst q1; subst q2
 cases ok with
 | true=>exact⟨_,⟨T0,Es,_,_,HS.put (Mx h1) (.aV true)⟩,zD⟩
 | false=>exact⟨_,⟨T0,Es,_,_,HS.put (Mx h2) (.aV false)⟩,BZ⟩
theorem acm(aQ:dp P C.ty)(aS:oM P C w0 Φ)(H:bj w0 Φ N B S a w){f:(Sx->Fm)->Fm}(h:nT C N B S o=some f)(hK:(f K).P):iu P o a w fun a' w'=>∃ S',bj w0 Φ N B S' a' w'/\(K S').P:=by
 obtain⟨dst,op,ty,pos,aft,gd⟩:=o;unfold nT at h;dsimp only at h;split at h
 . rename_i T x;split at h
   . rename_i kt et c t ag loc d hT hx;split at h
     . rename_i fr kO c' t' T' m he;split at h
       . rename_i S' hb hp;cases h;simp only [jz] at hb;exact aqf aQ H hT hx he hb hp hK
       . cases h
     . cases h
   . cases h
 . rename_i x;split at h
   . rename_i loc l2 d hx;split at h
     . rename_i fr ag c t T m ml c' seen left he hi;split at h
       . rename_i hc;obtain⟨rfl,rfl,hb⟩:=hc;simp only [jz] at hb;split at h
         . rename_i S1 S2 xW iJ;cases h;exact aqi H hx he hi hb xW iJ hK
         . cases h
       . cases h
     . cases h
   . cases h
 . rename_i c;split at h
   . rename_i x hc;split at h
     . rename_i l y k d hx hy he;split at h
       . rename_i vcs S1 S2 hq hE h1 h2;cases h;simp only [aD] at hq;obtain⟨hv,zD,BZ⟩:=hK;have hv:=Hp hv;exact aqQ aS H hc hx hy he hq.1 hq.2 hE h1 h2 (fun v hv'=>hv v (.tail _ hv')) (hv _ (.head _)) zD BZ
       . cases h
     . cases h
   . cases h
 . cases h
end
end Go.Proofs.YtamjbkaclhgffaaGreat
