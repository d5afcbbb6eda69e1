/-
  The abstract run: keys of maps; what is looked up in a map.
-/
import Derived.Test.YtlpikgchnjajmaaGreatTp4
set_option linter.all false
namespace Go.Proofs.YtlpikgchnjajmaaGreat
open Go.RowKit
variable{es:Array MapEntry}{ag fr':Bool}{kk:IntKind}{c:Kc}{vcs:List VC}{vs:List Value}{l:Lk}{T T' bb dP e et kt l2 loc m ml sz:Nat}{x y:Operand}{A:Option Addr}{hi lo o:Option Operand}{t t':Tc}{a b dd f:Unit->Int}{k:Unit->List Kx}{left n:Unit->Nat}{i:eS}{tb:kd}
section
variable{P:Program}{r:Operand->Value}{d:Option Nat}{ty:TypeId}{pos:String}{aft:Array Edge}{gd:Option (Nat×Bool)}{u v:Value}{w:World}
variable{ρ:Nat->Option Rl}{base:Nat}{ro ra:Nat->Prop}
theorem Xg{x:AV}{k:Unit->Kx}(h:Ep l x=some k)(hx:ah w ρ base ro x v):v=(k ()).val/\l.fits (k ())=true:=by
 unfold Ep at h;split at h
 . split at h<;>cases h
   rename_i hk;subst hk;exact⟨hx.iA,by simp [Lk.fits]⟩
 . split at h<;>cases h
   rename_i hk;subst hk;exact⟨hx.mw,by simp [Lk.fits]⟩
 . cases h;exact⟨hx.oR,rfl⟩
 . cases h;exact⟨hx.pH,rfl⟩
 . cases h;exact⟨hx.zM,rfl⟩
 . cases h
theorem I7:∀ {ls:List Lk} {xs:List AV} {k:Unit->List Kx} {vs:List Value},wa ls xs=some k->aQ w ρ base ro xs vs->vs=(k ()).map Kx.val/\dG ls (k ())=true
 | [],[],k,vs,h,hE=>by
  cases h;exact⟨hE.none,rfl⟩
 | l::ls,x::xs,k,vs,h,hE=>by
  unfold wa at h;split at h
  . rename_i a b h1 h2;cases h;obtain⟨v,us,rfl,hx,na⟩:=hE.head;obtain⟨h3,h4⟩:=Xg h1 hx;obtain⟨h5,h6⟩:=I7 h2 na;exact⟨by rw [h3,h5]; rfl,by simp [dG,h4,h6]⟩
  . cases h
 | [],_::_,_,_,h,_=>by cases h
 | _::_,[],_,_,h,_=>by cases h
theorem OQ{x:AV}(h:xU c x=some k)(hx:ah w ρ base ro x v):gE c v (k ()):=by
 cases c with
 | one l =>
  simp only [xU] at h
  cases hk:Ep l x with
  | none=>rw [hk] at h; cases h
  | some a =>
   rw [hk] at h;cases h;obtain⟨h1,h2⟩:=Xg hk hx;exact⟨h1,by simp [Kc.ls,dG,h2]⟩
 | arr n l =>
  exact Xh
 | st ls =>
  exact Xh
theorem Xi{x:Unit->Kx}(h:l.fits (x ())=true):ah w ρ base ro (IW l x) (x ()).val:=by
 cases l<;>cases hx:x ()<;>rw [hx] at h<;>simp only [Lk.fits,dS,aI] at h
 . rename_i k k' n;subst h;have:Value.int k n=Value.int k ((x ()).num):=by rw [hx]; rfl
   show ah w ρ base ro _ (Value.int k n)
   rw [this];exact .int _ _
 . rename_i p;have:Value.bool p=Value.bool ((x ()).flag):=by rw [hx]; rfl
   show ah w ρ base ro _ (Value.bool p)
   rw [this];exact .bool _
 . rename_i s;have:Value.string s=Value.string ((x ()).WT):=by rw [hx]; rfl
   show ah w ρ base ro _ (Value.string s)
   rw [this];exact .str _
theorem OR{k:Unit->List Kx}:∀ {ls:List Lk} {n:Nat},dG ls ((k ()).drop n)=true->aQ w ρ base ro (IX ls n k) (((k ()).drop n).map Kx.val)
 | [],n,h=>by
  rw [j9 h];exact .nil
 | l::ls,n,h=>by
  obtain⟨x,q,e,hx,hq⟩:=lh h;obtain⟨g,dq⟩:=drop_cons e;have ih:=OR (k:=k) (ls:=ls) (n:=n+1) (by rw [dq]; exact hq);rw [dq] at ih;rw [e];have hv:(k ()).getD n (.i .i64 0)=x:=by simp [ba,g]
  refine .cons ?_ ih;have h1:=Xi (w:=w) (ρ := ρ) (base:=base) (ro:=ro) (l:=l) (x:=fun _=>(k ()).getD n (.i .i64 0)) (by simp only [hv]; exact hx);simp only [hv] at h1 ⊢;exact h1
theorem ajs(h:gE c v (k ())):ah w ρ base ro (IY c k) v:=by
 obtain⟨h1,h2⟩:=h
 cases c with
 | one l =>
  obtain⟨x,q,e,hx,hq⟩:=lh h2;cases j9 hq;rw [h1,e];have hv:(k ()).getD 0 (.i .i64 0)=x:=by rw [e]; rfl
  have h3:=Xi (w:=w) (ρ := ρ) (base:=base) (ro:=ro) (l:=l) (x:=fun _=>(k ()).getD 0 (.i .i64 0)) (by simp only [hv]; exact hx);simp only [hv] at h3;show ah w ρ base ro (IW l fun _=>(k ()).getD 0 (.i .i64 0)) x.val
  simp only [hv];exact h3
 | arr n l =>
  have h3:=OR (w:=w) (ρ := ρ) (base:=base) (ro:=ro) (k:=k) (ls:=List.replicate n l) (n:=0) (by simpa [Kc.ls] using h2);rw [h1];exact .agg _ _ h3.1 h3.2
 | st ls =>
  have h3:=OR (w:=w) (ρ := ρ) (base:=base) (ro:=ro) (k:=k) (ls:=ls) (n:=0) (by simpa [Kc.ls] using h2);rw [h1];exact .agg _ _ h3.1 h3.2
theorem ajt{l:List AV}(h:aQ w ρ base ro l vs):aQ w ρ base ro (l.map AV.loose) vs:=by
 exact Xj
theorem Ew{fr:Bool}{x:Unit->t.el}(h:ah w ρ base ro (eD ag fr t x) v)(hf:fr'=true->fr=true):ah w ρ base ro (eD ag fr' t x) v:=by
 cases fr' with
 | true=>rw [hf rfl] at h; exact h
 | false =>
  unfold eD at h ⊢
  cases ag with
  | true =>
   simp only [eH] at h ⊢;obtain⟨vs,rfl,hE⟩:=h.oS;rw [B4 fr];have:=ajt hE;exact .agg _ _ this.1 this.2
  | false =>
   simp only [dS,dB] at h ⊢;rw [B4 fr]
   cases hc:aO fr t x with
   | nil=>exact .un _
   | cons c l =>
    rw [hc] at h
    cases l with
    | nil=>exact ah.uz h
    | cons c2 l=>exact .un _
theorem I8(h:fT P T i=true)(hi:i.ti = .map kt et c t ag):P.underlying T=some (.map kt et)/\uu P kt c=true/\(ag=true\/t.size=1)/\∃ j z,P.info? et=some j/\j.zero=some z/\ah w ρ base ro (eD ag true t fun _=>t.aa) z:=by
 obtain⟨ds,hd,hm⟩:=m9 h;rw [hi] at hm;cases ds<;>first|(simp [jH] at hm; done)|skip
 rename_i k e;simp only [jH,au,b9,gz] at hm;obtain⟨⟨⟨⟨rfl,rfl⟩,h1,h2⟩,h3⟩,h4⟩:=hm;refine⟨hd,h1,h3,?_⟩
 cases hj:P.info? e with
 | none=>rw [hj] at h4; cases h4
 | some j =>
  rw [hj] at h4;simp only at h4
  cases hz:j.zero with
  | none=>rw [hz] at h4; cases h4
  | some z =>
   rw [hz] at h4;simp only [au] at h4;refine⟨j,z,rfl,hz,?_⟩;have hE:aQ w ρ base ro (aO true t fun _=>t.aa) z.cells.toList:=OK h4.1;have hs:=h4.2;unfold eD
   cases ag with
   | true =>
    simp only [eH];cases z<;>simp [Ox] at hs;rename_i cs;have:aQ w ρ base ro (aO true t fun _=>t.aa) cs.toList:=hE;have h5:ah w ρ base ro (.agg (aO true t fun _=>t.aa)) (.agg cs.toList.toArray) := .agg _ _ this.1 this.2;simpa using h5
   | false =>
    simp only [dS,dB];have hl:(aO true t fun _=>t.aa).length=1:=by
     rw [Oq];rcases h3 with h3|h3
     . cases h3
     . exact h3
    have OS:z.cells = #[z]:=by cases z<;>first|rfl|simp [Ox] at hs
    cases hc:aO true t fun _=>t.aa with
    | nil=>rw [hc] at hl; cases hl
    | cons x l =>
     rw [hc] at hl hE
     cases l with
     | cons y l=>simp at hl
     | nil =>
      rw [OS] at hE;exact hE.2 0 x z rfl rfl
theorem Xk{j:TypeInfo}{z:Value}(hj:P.info? T=some j)(hz:j.zero=some z):(zeroValue T).run P w = .ok z w:=by
 exact Xl
theorem lU.keys{fr:Bool}{m:List Kx->Option t.el}(h:lU w ρ base ro fr ag c t m es):∀ e∈es.toList,∃ b,gE c e.key b:=fun e he=>by
 obtain⟨key,x,h1,_⟩:=h.1 e he;exact⟨key,h1⟩
theorem I9{a b:List Kx}(h1:gE c v a)(h2:gE c v b):a=b:=key_inj h1.2 h2.2 (h1.1.symm.trans h2.1)
theorem lU.find{fr:Bool}{m:List Kx->Option t.el}{key:List Kx}(h:lU w ρ base ro fr ag c t m es)(hk:uu P kt c=true)(hv:gE c v key) :
 ((Instr.findKey kt v es.toList).run P w = .ok none w/\m key=none/\∀ e∈es.toList,¬ gE c e.key key)\/∃ j e x,(Instr.findKey kt v es.toList).run P w = .ok (some (j,e.val)) w/\es[j]? = some e/\gE c e.key key/\m key=some x/\ah w ρ base ro (eD ag fr t fun _=>x) e.val:=by
 rw [hv.1];rcases aiX (P:=P) (w:=w) hk hv.2 es.toList h.keys with ⟨h1,h2⟩|⟨j,e,h1,h2,h3⟩
 . refine .inl ⟨h1,?_,h2⟩
   cases hm:m key with
   | none=>rfl
   | some x =>
    obtain⟨e,he,h3⟩:=h.2 key x hv.2 hm;exact absurd h3 (h2 e he)
 . obtain⟨jj,x,h4,h5,h6⟩:=h.1 e (gX h2);cases I9 h3 h4;exact .inr ⟨j,e,x,h1,by simpa using h2,h3,h5,h6⟩
theorem aju{fr ok:Bool}{m:Unit->List Kx->Option t.el}(ht:fT P T i=true)(hi:i.ti = .map kt et c t ag)(he:c7 w ρ base ro loc (.map fr ag c t T' m))(hx:ah w ρ base ro (.mp loc) (r x))(hk:gE c (r y) (k ())) :
 ∃ v,(execOp r ⟨d,.lookup T x y ok,ty,pos,aft,gd⟩).run P w = .ok (.value v) w/\ah w ρ base ro (IZ ag fr t (fun _=>m () (k ())) ok) v:=by
 obtain⟨hu,m8,_,j,z,hj,hz,OT⟩:=I8 (w:=w) (ρ := ρ) (base:=base) (ro:=ro) ht hi;obtain⟨b,es,clock,hb,hh,hst,hm⟩:=he;obtain⟨b',aW,wi⟩:=hx.zN;rw [hb] at aW;injection aW with aW;injection aW with aW;subst aW;have jk:∀ (o:Option (Nat×Value)),(Instr.findKey kt (r y) es.toList).run P w = .ok o w->(execOp r ⟨d,.lookup T x y ok,ty,pos,aft,gd⟩).run P w = .ok (.value (if ok then .tuple #[(match o with|some (_,u)=>u|none=>z),.bool o.isSome] else match o with|some (_,u)=>u|none=>z)) w:=by
  intro o ho;unfold execOp;simp only [Instr.lookup,wi,bt,ql hu,bM,MapKept.run_getObj_map hh,bU];rw [hk.1] at ho ⊢;rw [IF (w:=w) m8 hk.2];simp only [bM,ho]
  cases o with
  | none=>simp only [bt,Xk hj hz,bM,bU]; rfl
  | some p=>obtain⟨n,u⟩:=p; simp only [bt,bM,bU]; rfl
 have fA:∀ (u:Value) (q:Bool),ah w ρ base ro (eD ag fr t fun _=>(m () (k ())).getD t.aa) u->(m () (k ())).isSome=q->ah w ρ base ro (IZ ag fr t (fun _=>m () (k ())) ok) (if ok then .tuple #[u,.bool q] else u):=by
  intro u q h1 h2;unfold IZ
  cases ok with
  | false=>exact h1
  | true =>
   simp only [eH];have h3:aQ w ρ base ro [eD ag fr t fun _=>(m () (k ())).getD t.aa,.bool fun _=>(m () (k ())).isSome] [u,.bool q] := .cons h1 (.cons (by rw [<- h2]; exact .bool _) .nil);exact .aU _ _ h3.1 h3.2
 rcases hm.find (P:=P) m8 hk with ⟨h1,h2,_⟩|⟨n,e,x',h1,_,_,h3,h4⟩
 . refine⟨_,jk _ h1,fA z false ?_ (by rw [h2]; rfl)⟩;have:(fun _:Unit=>(m () (k ())).getD t.aa)=fun _=>t.aa:=by rw [h2]; rfl
   rw [this];exact Ew OT fun _=>rfl
 . refine⟨_,jk _ h1,fA e.val true ?_ (by rw [h3]; rfl)⟩;have:(fun _:Unit=>(m () (k ())).getD t.aa)=fun _=>x':=by rw [h3]; rfl
   rw [this];exact h4
theorem ajv{fr:Bool}{m:Unit->List Kx->Option t.el}{seen:Unit->List (List Kx)}(he:c7 w ρ base ro ml (.map fr ag c t T m))(hi:c7 w ρ base ro l2 (.iter ml c seen left))(hx:ah w ρ base ro (.it ml l2) (r x))(hs:seen () ≠ []) :
 ∃ v,(execOp r ⟨d,.entry x,ty,pos,aft,gd⟩).run P w = .ok (.value v) w/\ah w ρ base ro (.aU [IY c fun _=>(seen ()).headD [],eD ag fr t fun _=>(m () ((seen ()).headD [])).getD t.aa]) v:=by
 obtain⟨b,es,clock,hb,hh,hst,hm⟩:=he;obtain⟨b',b2,iW,nY,since,stamps,c0,h1,h2,h3,h4,h5,h6,h7,h8,h9⟩:=hi;rw [hb] at h2;injection h2 with h2;injection h2 with h2;subst h2;rw [hh] at h3;injection h3 with h3;injection h3 with e1 e2;subst e1; subst e2;obtain⟨b3,nV,wi⟩:=hx.OG;rw [h1] at nV;injection nV with nV;injection nV with nV;subst nV;obtain⟨key,rest,OU⟩:∃ key rest,seen ()=key::rest:=by
  cases oT:seen () with
  | nil=>exact absurd oT hs
  | cons key rest=>exact⟨key,rest,rfl⟩
 obtain⟨rfl,e,Xm,fi,iB⟩:=h9 key rest OU;have xZ:=(MapKept.stamped_iff es c0).1 hst;have hf:es.find? (·.born==e.born)=some e:=by rw [<- Array.find?_toList]; exact find_born e es.toList xZ.2.1 Xm
 obtain⟨jj,x',k1,k2,k3⟩:=hm.1 e Xm;cases I9 iB k1;refine⟨.tuple #[e.key,e.val],?_,?_⟩
 . unfold execOp;simp only [Instr.entry,wi,getObj,bt,Sem.run,h4,hh,Result.andThen,fi,H5,dS,dB,hf];rfl
 . have e3:(fun _:Unit=>(m () ((seen ()).headD [])).getD t.aa)=fun _=>x':=by rw [OU]; simp [k2]
   have oO:aQ w ρ base ro [IY c fun _=>(seen ()).headD [],eD ag fr t fun _=>(m () ((seen ()).headD [])).getD t.aa] [e.key,e.val] := .cons (ajs (by simp only [OU,List.headD_cons]; exact iB)) (.cons (by rw [e3]; exact k3) .nil);exact .aU _ _ oO.1 oO.2
theorem ajw(aA:cS P tb){t':Nat}(hi:ak tb T=some i)(aT:i.eq.isEmpty=false){cs ds:List AV}{a b:Unit->List Kx}(ha:wa i.eq cs=some a)(hb:wa i.eq ds=some b)(hx:ah w ρ base ro (.agg cs) (r x))(hy:ah w ρ base ro (.agg ds) (r y))(w') :
 (execOp r ⟨d,.binOp .eql T x y t',ty,pos,aft,gd⟩).run P w' = .ok (.value (.bool (decide (a ()=b ())))) w'/\(execOp r ⟨d,.binOp .neq T x y t',ty,pos,aft,gd⟩).run P w' = .ok (.value (.bool !decide (a ()=b ()))) w':=by
 obtain⟨vs,rO,hE⟩:=hx.oS;obtain⟨us,Ja,hF⟩:=hy.oS;obtain⟨rfl,f1⟩:=I7 ha hE;obtain⟨rfl,f2⟩:=I7 hb hF;have ht:=aA T i hi;unfold fT at ht;simp only [au] at ht;have he:=ht.2;unfold WS at he;rw [aT,rB] at he;simp only [au,iG] at he;obtain⟨⟨oQ,Xn⟩,hg⟩:=he;have h3:=Ou (P:=P) 20 10000 oo T i.eq Xn;rw [oQ] at h3;have h4:(Op.equalIn 10000 T (.agg ((a ()).map Kx.val).toArray) (.agg ((b ()).map Kx.val).toArray)).run P w' = .ok (decide (a ()=b ())) w':=h3 w' _ _ f1 f2;have g1:=run_eqGuard_agg (w:=w') .eql T x y ((a ()).map Kx.val).toArray ((b ()).map Kx.val).toArray hg;have g2:=run_eqGuard_agg (w:=w') .neq T x y ((a ()).map Kx.val).toArray ((b ()).map Kx.val).toArray hg;constructor
 . unfold execOp;simp only [rO,Ja,bt,g1,bM,run_eql_struct,h4,bU]
 . unfold execOp;simp only [rO,Ja,bt,g2,bM,run_neq_struct,h4,bU]
theorem Xo(aA:cS P tb){op:BinOp}{t':Nat}{cs ds:List AV}{av:AV}(h:Er (ak tb T) op (.agg cs) (.agg ds)=some (av,vcs))(hx:ah w ρ base ro (.agg cs) (r x))(hy:ah w ρ base ro (.agg ds) (r y)) :
 ∃ v,(∀ w',(execOp r ⟨d,.binOp op T x y t',ty,pos,aft,gd⟩).run P w' = .ok (.value v) w')/\ah w ρ base ro av v:=by
 unfold Er at h;dsimp only at h;split at h
 . rename_i i hi;split at h
   . cases h
   . rename_i aT;split at h
     . rename_i a b ha hb;have h1:=fun w'=>ajw (d:=d) (ty:=ty) (pos:=pos) (aft:=aft) (gd:=gd) (t':=t') aA hi (by simpa using aT) ha hb hx hy w';split at h
       . cases h;exact⟨_,fun w'=>(h1 w').1,.bool _⟩
       . cases h;exact⟨_,fun w'=>(h1 w').2,.bool fun _ => !decide (a ()=b ())⟩
       . cases h
     . cases h
 . cases h
theorem OV{fr:Bool}{l:Unit->List t.el}{a b:Nat}{n c:Nat}(h:ah w ρ base ro (.sl fr t l) (.slice A n c))(bm:a<=b)(hb:b<=(l ()).length):ah w ρ base ro (.sl fr t fun _=>((l ()).take b).drop a) (sliced A a b c t.size):=by
 obtain⟨A',c',css,hl,hc,hr,bB,cK,aC,hv⟩:=h.pI;injection hv with e1 e2 e3;subst e1; subst e2; subst e3;have hlen:((css.take b).drop a).length=b - a:=by simp [hl]; omega
 have Ex:(((l ()).take b).drop a).length=b - a:=by simp; omega
 have nZ:∀ (k:Nat) cs,((css.take b).drop a)[k]? = some cs->css[a+k]? = some cs/\a+k<b:=by
  intro k cs hk;rw [lM,eC] at hk;split at hk
  . exact⟨hk,by assumption⟩
  . cases hk
 have aT:∀ (x:Unit),(css.take b).drop a ≠ []->c≠a:=by
  intro _ hn;have:0<b - a:=by rw [<- hlen]; exact List.length_pos_iff.2 hn
  omega
 have B5:(css.take b).drop a ≠ []->css ≠ []:=fun hn e=>hn (by rw [e]; simp);have hA:∀ ad,(if c=a then A else A.map (·.add (a*t.size)))=some ad->(css.take b).drop a ≠ []->∃ a0,A=some a0/\ad.block=a0.block:=by
  intro ad he hn;rw [ar (aT () hn)] at he;obtain⟨a0,h1,h2⟩:=kV.1 he;obtain⟨c0,rest,oU⟩:=aw0 (B5 hn);obtain⟨bl,off,h3,_⟩:=hr 0 c0 (by rw [oU]; rfl);rw [h3] at h1;injection h1 with h1;subst h1;exact⟨_,h3,by rw [<- h2,sE]⟩
 show ah w ρ base ro _ (.slice (if c=a then A else A.map (·.add (a*t.size))) (b - a) (c - a))
 rw [<- Ex];refine .sl fr t (fun _=>((l ()).take b).drop a) _ _ ((css.take b).drop a) (by rw [hlen,Ex]) (by rw [hlen]; omega) ?_ (fun ad he hn => ?_) (fun hf ad he hn => ?_) ?_
 . intro k cs hk;obtain⟨h1,h2⟩:=nZ k cs hk;obtain⟨bl,off,h3,h4,h5,h6⟩:=hr (a+k) cs h1;refine⟨bl,off+a*t.size,?_,h4,h5,fun j u hu => ?_⟩
   . rw [ar oo,h3,dv,sE]
   . have:=h6 j u hu;rw [xw] at this;rw [show off+a*t.size+k*t.size+j=off+(a*t.size+k*t.size)+j from oo];exact this
 . obtain⟨a0,h1,h2⟩:=hA ad he hn;rw [h2];exact bB a0 h1 (B5 hn)
 . obtain⟨a0,h1,h2⟩:=hA ad he hn;rw [h2];exact cK hf a0 h1 (B5 hn)
 . intro k cs j x v hk hx hv;obtain⟨h1,h2⟩:=nZ k cs hk;refine aC (a+k) cs j x v h1 ?_ hv;have e:(((l ()).take b).drop a).getD k t.aa=(l ()).getD (a+k) t.aa:=by
    rw [ba,ba,lM,eC,aw h2]
   rw [<- e];exact hx
theorem Xp{g:Operand->AV}(h:pG g dd o=some f)(hg:∀ x,o=some x->ah w ρ base ro (g x) (r x)):o=none/\f=dd\/∃ x k,o=some x/\r x = .int k (f ()):=by
 cases o with
 | none =>
  simp only [pG,bI] at h;exact .inl ⟨rfl,h.symm⟩
 | some x =>
  simp only [pG] at h
  cases hx:(g x).asInt with
  | none=>rw [hx] at h; cases h
  | some p =>
   obtain⟨k,n⟩:=p;rw [hx] at h;cases h;exact .inr ⟨x,k,rfl,ji hx (hg x rfl)⟩
theorem Xq(aA:cS P tb){n c:Nat}{g:Operand->AV}(hT:ak tb T=some i)(mn:i.ti = .slice e sz bb)(oV:r x = .slice A n c)(lW:n<=c)(ha:pG g (fun _=>0) lo=some a)(hb:pG g (fun _=>n) hi=some b)(x7:∀ y,lo=some y->ah w ρ base ro (g y) (r y))(Ey:∀ y,hi=some y->ah w ρ base ro (g y) (r y))(hv:0<=a ()/\a ()<=b ()/\b ()<=n) :
 (execOp r ⟨d,.slice T x lo hi none,ty,pos,aft,gd⟩).run P w = .ok (.value (sliced A (a ()).toNat (b ()).toNat c sz)) w:=by
 have hu:P.underlying T=some (.slice (P.elem T))/\∀ w',(sizeOf (P.elem T)).run P w' = .ok sz w':=by
  exact Xr
 obtain⟨hu,aN⟩:=hu;obtain⟨v0,v1,v2⟩:=hv;unfold execOp;simp only [oV,run_sliceAt_slice _ _ _ _ _ _ hu,bt];have Jb:b ()<=(c:Int):=oo
 rcases Xp ha x7 with ⟨rfl,ea⟩|⟨yl,kl,rfl,ea⟩<;>rcases Xp hb Ey with ⟨rfl,eb⟩|⟨yh,kh,rfl,eb⟩
 . subst ea; subst eb;simp only [Bm,run_slice_all _ _ _ _ _ hu,aN,bM,bU,dV,Int.toNat_zero]
 . subst ea;simp only [Bm,dv,eb,run_slice_h w T A n c hu kh (b ()) (Int.le_trans v0 v1) Jb,aN,bM,bU,Int.toNat_zero]
 . subst eb;simp only [Bm,dv,ea,run_slice_l _ _ _ _ _ hu kl (a ()) oo oo,aN,bM,bU,dV]
 . simp only [Bm,dv,ea,eb,run_slice_lh w T A n c hu kl kh (a ()) (b ()) v0 v1 Jb,aN,bM,bU]
theorem ajx(aA:cS P tb){fr:Bool}{l:Unit->List t.el}{g:Operand->AV}(hT:ak tb T=some i)(mn:i.ti = .slice e sz bb)(hs:t.size=sz)(hx:ah w ρ base ro (.sl fr t l) (r x))(ha:pG g (fun _=>0) lo=some a)(hb:pG g (fun _=>(l ()).length) hi=some b)(x7:∀ y,lo=some y->ah w ρ base ro (g y) (r y))(Ey:∀ y,hi=some y->ah w ρ base ro (g y) (r y))(hv:0<=a ()/\a ()<=b ()/\b ()<=(l ()).length) :
 ∃ v,(execOp r ⟨d,.slice T x lo hi none,ty,pos,aft,gd⟩).run P w = .ok (.value v) w/\ah w ρ base ro (.sl fr t fun _=>((l ()).take (b ()).toNat).drop (a ()).toNat) v:=by
 obtain⟨A,c,css,h1,h2,h3,h4,h5,h6,oV⟩:=hx.pI;refine⟨_,Xq aA hT mn oV oo ha hb x7 Ey hv,?_⟩;rw [oV] at hx;rw [<- hs];exact OV hx oo oo
theorem Xs(aA:cS P tb){ge:Nat->Option En}(cF:∀ loc e,ge loc=some e->c7 w ρ base ro loc e){fr:Bool}{l:Unit->List t.el}{g:Operand->AV}(hT:ak tb T=some i)(mn:i.ti = .slice e sz bb)(hs:t.size=sz)(he:ge loc=some (.row fr t T' l))(hx:ah w ρ base ro (.own loc) (r x))(ha:pG g (fun _=>0) lo=some a)(hb:pG g (fun _=>(l ()).length) hi=some b)(x7:∀ y,lo=some y->ah w ρ base ro (g y) (r y))(Ey:∀ y,hi=some y->ah w ρ base ro (g y) (r y))(hv:0<=a ()/\a ()<=b ()/\b ()<=(l ()).length) :
 ∃ v,(execOp r ⟨d,.slice T x lo hi none,ty,pos,aft,gd⟩).run P w = .ok (.value v) w/\ah w ρ base ro (.cE t loc (fun _=>(a ()).toNat) fun _=>(b ()).toNat) v:=by
 obtain⟨A,c,css,hA,bC,hlen,_⟩:=cF _ _ he;obtain⟨A',n,c',bK,oV⟩:=hx.sQ;rw [hA] at bK;injection bK with bK;injection bK with e1 e2 e3;subst e1; subst e2; subst e3;have N4:=bC.cap.1;refine⟨_,Xq aA hT mn oV oo ha hb x7 Ey hv,?_⟩;rw [<- hs];exact .cE t loc (fun _=>(a ()).toNat) (fun _=>(b ()).toNat) A _ c hA ⟨oo,oo⟩
theorem ajy(aA:cS P tb){n off:Nat}(hT:ak tb T=some i)(hi:i.ti = .array n e 1 ag)(hx:ah w ρ base ro (.ptr loc off) (r x)) :
 ∃ v,(execOp r ⟨d,.slice T x none none none,ty,pos,aft,gd⟩).run P w = .ok (.value v) w/\ah w ρ base ro (.fw loc off n) v:=by
 obtain⟨b,hb,oV⟩:=hx.xV;obtain⟨ds,hd,hm⟩:=m9 (aA T i hT);rw [hi] at hm;cases ds<;>first|(simp [jH] at hm; done)|skip
 rename_i n' e';simp only [jH,au,b9] at hm;obtain⟨⟨⟨rfl,rfl⟩,hm⟩,_⟩:=hm;have he:P.elem T=e':=by simp [Program.elem,hd]
 have hn:P.arrayLen T=n':=by simp [Program.arrayLen,hd]
 have hu:P.underlying T=some (.array (P.arrayLen T) (P.elem T)):=by rw [he,hn]; exact hd
 have aN:∀ w',(sizeOf (P.elem T)).run P w' = .ok 1 w':=fun w'=>by
  rw [he]
  cases hj:P.info? e' with
  | none=>rw [hj] at hm; cases hm
  | some j =>
   rw [hj] at hm;rw [run_sizeOf w' hj];simp only [b9] at hm;simp [Program.cellsOf,hj,hm]
 refine⟨.slice (some ⟨b,off,none⟩) n' n',?_,.fw _ _ _ _ hb⟩;unfold execOp;simp only [oV,Bm,bt,run_sliceAt_array_all w T _ hu,aN,bM,bU,slicedAt,hn,rC,Nu,sE,kY,ite_self]
theorem ajz{B size c a b:Nat}{css:List (List Value)}(hr:Rd w B size A css)(bm:a<=b)(hb:b<=css.length)(hc:css.length<=c):∃ X,sliced A a b c size = .slice X (b - a) (c - a)/\Rd w B size X ((css.take b).drop a):=by
 refine⟨_,rfl,fun k cs hk => ?_⟩;rw [lM,eC] at hk;split at hk
 . rename_i aj;obtain⟨bl,off,h3,h4,h5,h6⟩:=hr (a+k) cs hk;refine⟨bl,off+a*size,?_,h4,h5,fun j u hu => ?_⟩
   . rw [ar oo,h3,dv,sE]
   . have:=h6 j u hu;rw [xw] at this;rw [show off+a*size+k*size+j=off+(a*size+k*size)+j from oo];exact this
 . cases hk
end
section
variable{P:Program}{r:Operand->Value}{d:Option Nat}{ty:TypeId}{pos:String}{aft:Array Edge}{gd:Option (Nat×Bool)}{u v:Value}{w:World}
variable{ρ:Nat->Option Rl}{base:Nat}{ro:Nat->Prop}
theorem ah.Ez{fr:Bool}{l:Unit->List t.el}(h:ah w ρ base ro (.wide fr t l n) v):∃ A c,n ()<=(l ()).length/\ah w ρ base ro (.sl fr t l) (.slice A (l ()).length c)/\v = .slice A (n ()) c:=by
 cases h with
 | wide _ _ _ _ A c hn h=>exact⟨A,c,hn,h,rfl⟩
theorem zS{fr:Bool}{l:Unit->List t.el}(h:ah w ρ base ro (.wide fr t l n) v):ah w ρ base ro (.sl fr t fun _=>(l ()).take (n ())) v:=by
 obtain⟨A,c,hn,h2,rfl⟩:=h.Ez;obtain⟨A',c',css,hl,hc,hr,bB,cK,aC,hv⟩:=h2.pI;injection hv with e1 e2 e3;subst e1; subst e3;have hlen:((l ()).take (n ())).length=n ():=by rw [c6]; omega
 have B5:css.take (n ()) ≠ []->css ≠ []:=fun hn e=>hn (by rw [e]; simp);have key:ah w ρ base ro (.sl fr t fun _=>(l ()).take (n ())) (.slice A ((l ()).take (n ())).length c):=by
  refine .sl fr t (fun _=>(l ()).take (n ())) A c (css.take (n ())) (by rw [c6,hlen]; omega) (by rw [c6]; omega) (fun k cs hk => ?_) (fun a ha hq=>bB a ha (B5 hq)) (fun hf a ha hq=>cK hf a ha (B5 hq)) fun k cs j x v h1 h2 h3 => ?_
  . rw [eC] at hk;split at hk
    . exact hr k cs hk
    . cases hk
  . rw [eC] at h1;split at h1
    . rename_i hk;refine aC k cs j x v h1 ?_ h3;have e:((l ()).take (n ())).getD k t.aa=(l ()).getD k t.aa:=by rw [ba,ba,eC,aw hk]
      rw [<- e];exact h2
    . cases h1
 rwa [hlen] at key
/- elements axi xP ajA behind ajB axj -/
def AV.thin:AV->AV
 | .sl _ t l => .sl false t l
 | .wide _ t l n => .sl false t fun _=>(l ()).take (n ())
 | x=>x
theorem ah.ajC{x:AV}(h:ah w ρ base ro x v):ah w ρ base ro x.thin v:=by
 cases x<;>first|exact h.uz|exact (zS h).uz|exact h
theorem ajD{f:t.el->t'.el}(h:Ef t t'=some f)(fr)(x):aO false t' (fun _=>f (x ()))=(aO fr t x).map AV.thin:=by
 unfold Ef at h;exact EA
theorem ajE{f:t.el->t'.el}(h:Ef t t'=some f):t'.size=t.size:=by
 unfold Ef at h;split at h<;>first|rfl|cases h
theorem ajF{fr:Bool}{l:Unit->List t.el}{av:AV}(h:Oz t t' l n=some av)(hx:ah w ρ base ro (.wide fr t l n) v):ah w ρ base ro av v/\AV.plain false av=true:=by
 unfold Oz at h;split at h
 . rename_i f hf;cases h;refine⟨?_,rfl⟩;have h1:=zS hx;generalize hL:(fun (_:Unit)=>(l ()).take (n ()))=L at h1;obtain⟨A,c,css,hl,hc,hr,bB,_,aC,rfl⟩:=h1.pI;have key:ah w ρ base ro (.sl false t' fun _=>(L ()).map f) (.slice A ((L ()).map f).length c):=by
    refine .sl false t' (fun _=>(L ()).map f) A c css (by rw [iQ]; exact hl) hc (by rw [ajE hf]; exact hr) bB (fun h=>by cases h) fun k cs j x v h1 h2 h3 => ?_;have hk:k<(L ()).length:=by rw [<- hl]; exact (cM.1 h1).1
    have e:((L ()).map f).getD k t'.aa=f ((L ()).getD k t.aa):=by simp [ba,bp hk]
    rw [e,ajD hf fr fun _=>(L ()).getD k t.aa,gY] at h2;obtain⟨y,h4,rfl⟩:=kV.1 h2;exact (aC k cs j y v h1 h4 h3).ajC
   rw [iQ] at key;subst hL;exact key
 . cases h
theorem Xt{b:Nat}{fr:Bool}{l:Unit->List t.el}{k:Unit->Int}(ht:fT P T i=true)(hi:i.ti = .slice e sz b)(hs:t.size=sz)(hx:ah w ρ base ro (.wide fr t l n) (r x))(hy:r y = .int kk (k ()))(hk:0<=k ()/\k ()<n ()) :
 ∃ v,(∀ w',(execOp r ⟨d,.indexAddr T x y,ty,pos,aft,gd⟩).run P w' = .ok (.value v) w')/\ah w ρ base ro (.bg (aO fr t fun _=>(l ()).getD (k ()).toNat t.aa) 0) v:=by
 obtain⟨_,_,pL,_⟩:=hx.Ez;have h1:=zS hx;have hlen:((l ()).take (n ())).length=n ():=by rw [c6]; omega
 obtain⟨v,h2,h3⟩:=OP (d:=d) (ty:=ty) (pos:=pos) (aft:=aft) (gd:=gd) ht hi hs h1 hy (by rw [hlen]; exact hk);refine⟨v,h2,?_⟩;have e:((l ()).take (n ())).getD (k ()).toNat t.aa=(l ()).getD (k ()).toNat t.aa:=by rw [ba,ba,eC,aw oo]
 rw [<- e];exact h3
theorem Xu(aA:cS P tb){c:Nat}{hi:Operand}{fr:Bool}{l:Unit->List t.el}(hT:ak tb T=some i)(mn:i.ti = .slice e sz bb)(hs:t.size=sz)(hx:r x = .slice A m c)(hl:ah w ρ base ro (.sl fr t l) (.slice A (l ()).length c))(hb:r hi = .int kk (b ()))(hv:0<=b ()/\b ()<=(l ()).length) :
 ∃ v,(execOp r ⟨d,.slice T x none (some hi) none,ty,pos,aft,gd⟩).run P w = .ok (.value v) w/\ah w ρ base ro (.wide fr t l fun _=>(b ()).toNat) v:=by
 have hu:P.underlying T=some (.slice (P.elem T))/\∀ w',(sizeOf (P.elem T)).run P w' = .ok sz w':=by
  exact Xr
 obtain⟨hu,aN⟩:=hu;obtain⟨A',c',css,h1,h2,_,_,_,_,hev⟩:=hl.pI;injection hev with e1 e2 e3;subst e1; subst e3;have Jb:b ()<=(c:Int):=oo
 refine⟨sliced A 0 (b ()).toNat c sz,?_,?_⟩
 . unfold execOp;simp only [hx,run_sliceAt_slice _ _ _ _ _ _ hu,bt,Bm,dv,hb,run_slice_h w T A m c hu kk (b ()) hv.1 Jb,aN,bM,bU]
 . have h4:=OV hl (cm (l ()).length) (az _);have e:(fun (_:Unit)=>((l ()).take (l ()).length).drop 0)=l:=by funext u; simp
   rw [e,hs] at h4;exact .wide fr t l (fun _=>(b ()).toNat) _ _ oo h4
theorem OW{n:Nat}{a:Bool}(ht:fT P T i=true)(hi:i.ti = .array n e sz a):P.underlying T=some (.array n e)/\(∃ j,P.info? e=some j/\j.size=sz)/\gF P e=a/\∃ ds,P.underlying e=some ds:=by
 obtain⟨ds,hd,hm⟩:=m9 ht;rw [hi] at hm;cases ds<;>first|(simp [jH] at hm; done)|skip
 simp only [jH,au,b9] at hm;obtain⟨⟨⟨rfl,rfl⟩,h3⟩,h4,h5⟩:=hm;refine⟨hd,?_,h4,Vk.1 h5⟩
 cases hj:P.info? _ with
 | none=>rw [hj] at h3; cases h3
 | some j=>rw [hj] at h3; exact⟨j,rfl,eq_of_beq h3⟩
theorem Xv(aA:cS P tb){a b av:AV}(h:OD (fy tb T) a b=some (av,vcs))(hx:ah w ρ base ro a (r x))(hy:ah w ρ base ro b (r y)) :
 ∃ v,(∀ w',(execOp r ⟨d,.indexAddr T x y,ty,pos,aft,gd⟩).run P w' = .ok (.value v) w')/\ah w ρ base ro av v:=by
 unfold OD at h;split at h
 . rename_i n e sz ag kk m e1;split at h
   . rename_i hm;simp only [au,aI] at hm;obtain⟨i,_,h1,h2⟩:=eU aA e1;obtain⟨k1,⟨j,k2,k3⟩,_⟩:=OW h2 h1
     cases ha:zJ a (m.toNat*sz) with
     | none=>rw [ha] at h; cases h
     | some mA =>
      rw [ha] at h;cases h;obtain⟨b',o,q1,q2⟩:=OJ ha hx;have em:((m.toNat:Nat):Int)=m:=oo
      exact⟨_,fun w'=>ai2 (k:=m.toNat) q1 (by rw [em]; exact hy.mw) k1 (by rw [k2]; simp [k3]) (by rw [em]; exact hm.2) rfl,q2⟩
   . cases h
 . cases h
theorem Xw{kk:IntKind}{k:Unit->Int}:∀ {l:List AV} {vs:List Value} {j m:Nat} {f:Unit->Int},zK kk k j l=some f->aQ w ρ base ro l vs->k ()=(j+m:Nat)->m<l.length->vs[m]? = some (.int kk (f ()))
 | [],_,_,_,_,h,_,_,_=>by cases h
 | x::l,vs,j,m,f,h,hE,hk,hm=>by
  obtain⟨v,us,rfl,hx,na⟩:=hE.head;unfold zK at h;split at h
  . rename_i k' a ha;split at h
    . rename_i jJ;subst jJ;have hv:=ji ha hx;split at h
      . cases h;have:m=0:=by simpa using hm
        subst this;rw [hv];rfl
      . cases hf:zK k' k (j+1) l with
        | none=>rw [hf] at h; cases h
        | some g =>
         rw [hf] at h;cases h
         cases m with
         | zero =>
          exact Xx
         | succ m =>
          have:decide (k ()=(j:Int))=false:=by rw [fR]; omega
          rw [this,M1];exact Xw hf na (by rw [hk]; congr 1; omega) (by simpa using hm)
    . cases h
  . cases h
theorem Xy{k:Unit->Int}:∀ {l:List AV} {vs:List Value} {j m:Nat} {f:Unit->Bool},zL k j l=some f->aQ w ρ base ro l vs->k ()=(j+m:Nat)->m<l.length->vs[m]? = some (.bool (f ()))
 | [],_,_,_,_,h,_,_,_=>by cases h
 | x::l,vs,j,m,f,h,hE,hk,hm=>by
  obtain⟨v,us,rfl,hx,na⟩:=hE.head;unfold zL at h;split at h
  . rename_i a ha;have hv:=Ev ha hx;split at h
    . cases h;have:m=0:=by simpa using hm
      subst this;rw [hv];rfl
    . cases hf:zL k (j+1) l with
      | none=>rw [hf] at h; cases h
      | some g =>
       rw [hf] at h;cases h
       cases m with
       | zero =>
        exact Xx
       | succ m =>
        have:decide (k ()=(j:Int))=false:=by rw [fR]; omega
        rw [this,M1];exact Xy hf na (by rw [hk]; congr 1; omega) (by simpa using hm)
  . cases h
theorem Xz{k:Unit->Int}{l:List AV}{av:AV}(h:Es k l=some av)(hE:aQ w ρ base ro l vs)(hk:k ()=m)(hm:m<l.length):∃ v,vs[m]? = some v/\ah w ρ base ro av v:=by
 unfold Es at h;have fP:k ()=((0+m:Nat):Int):=by rw [hk]; congr 1; omega
 split at h
 all_goals first|cases h; done|skip
 all_goals (rename_i kk _ l)
 . exact XA
 . exact XA
 . exact XB
 . exact XB
theorem ajH{cells:List AV}{n c:Nat}(hE:aQ w ρ base ro cells vs)(hl:cells.length=n*dP)(hc:c<dP):aQ w ρ base ro (I0 cells n dP c) ((List.range n).map fun m=>vs.getD (m*dP+c) undef):=by
 unfold I0;refine wg fun m hm => ?_;rw [gP] at hm;have aj:m*dP+c<cells.length:=by
  rw [hl];have:(m+1)*dP<=n*dP:=xr _ hm;rw [xw] at this;omega
 obtain⟨v,h1,h2⟩:=hE.get (bp aj);rw [ba,bp aj,ba,h1];exact h2
theorem XC{k:Unit->Int}{cells:List AV}{vs:List Value}{n dP m:Nat}(hE:aQ w ρ base ro cells vs)(hl:cells.length=n*dP)(hk:k ()=m)(hm:m<n):∀ {cs:List Nat} {out:List AV},BX k cells n dP cs=some out->(∀ c∈cs,c<dP)->aQ w ρ base ro out (cs.map fun c=>vs.getD (m*dP+c) undef)
 | [],out,h,_=>by
  simp only [BX,bI] at h;subst h;exact .nil
 | c::cs,out,h,aC=>by
  unfold BX at h;split at h
  . rename_i x l h1 h2;cases h;obtain⟨v,h3,h4⟩:=Xz h1 (ajH hE hl (aC c (.head _))) hk (by unfold I0; simpa using hm);rw [gY,Nf hm,dv,bI] at h3;refine .cons ?_ (XC hE hl hk hm h2 fun c hc=>aC c (.tail _ hc));show ah w ρ base ro x (vs.getD (m*dP+c) undef)
    rw [h3];exact h4
  . cases h
theorem ajI(aA:cS P tb){a b av:AV}(h:OC (fy tb T) a b=some (av,vcs))(hv:∀ c∈vcs,c ())(hx:ah w ρ base ro a (r x))(hy:ah w ρ base ro b (r y)) :
 ∃ v,(execOp r ⟨d,.index T x y,ty,pos,aft,gd⟩).run P w = .ok (.value v) w/\ah w ρ base ro av v:=by
 unfold OC at h;split at h
 . rename_i n e sz ag cells e1;obtain⟨i,_,h1,h2⟩:=eU aA e1;obtain⟨k1,⟨j,k2,k3⟩,k4,k5⟩:=OW h2 h1;obtain⟨vs,rO,hE⟩:=hx.oS;have cB:∀ (kk:IntKind) (m:Nat) v,r y = .int kk (m:Int)->m<n->(part e vs.toArray (m*sz)).run P w = .ok v w->(execOp r ⟨d,.index T x y,ty,pos,aft,gd⟩).run P w = .ok (.value v) w:=by
    intro kk m v Jc x8 hp;have h0:(0:Int)<=(m:Int)/\(m:Int)<(n:Int):=oo
    unfold execOp;simp only [rO,Jc,Instr.index,asIntOf,underlying,sizeOf,typeInfo,bt,bU,bM,m5,k1,h0,eH,DP,k2,k3,dV,hp]
   split at h
   . rename_i kk m;split at h
     . rename_i hm;simp only [au,aI] at hm;have em:((m.toNat:Nat):Int)=m:=oo
       cases hc:cut ag (m.toNat*sz) sz cells with
       | none=>rw [hc] at h; cases h
       | some mA =>
        rw [hc] at h;cases h;have hr:=fun v=>cB kk m.toNat v (by rw [em]; exact hy.mw) oo;unfold cut at hc
        cases hb:ag with
        | true =>
         rw [hb,aw rfl] at hc;split at hc
         . rename_i hlen;cases hc;have hd:=(hE.drop (m.toNat*sz)).take sz;exact⟨_,hr _ (B3 ⟨j,k2,k3⟩ k5 (fun _=>by rw [<- hE.1]; exact hlen) (fun h=>by rw [k4,hb] at h; cases h) (fun _=>rfl)),.agg _ _ hd.1 hd.2⟩
         . cases hc
        | false =>
         rw [hb] at hc;simp only [dS,dB] at hc;obtain⟨v,rJ,rM⟩:=hE.get hc;exact⟨v,hr _ (B3 ⟨j,k2,k3⟩ k5 (fun h=>by rw [k4,hb] at h; cases h) (fun _=>rJ) (fun h=>by rw [k4,hb] at h; cases h)),rM⟩
     . cases h
   . rename_i kk k;split at h
     . rename_i hl;have hl:=eq_of_beq hl;have XD:vcs=xT k (fun _=>(n:Int))->0<=k ()/\k ()<(n:Int):=fun e=>hv _ (by rw [e]; exact .head _);split at h
       . cases hs:BX k cells n sz (List.range sz) with
         | none=>rw [hs] at h; cases h
         | some out =>
          rw [hs] at h;cases h;have hk:=XD rfl;have em:(((k ()).toNat:Nat):Int)=k ():=oo
          have x8:(k ()).toNat<n:=oo
          have hlen:(k ()).toNat*sz+sz<=vs.length:=by
           rw [<- hE.1,hl,<- Bp];exact xr _ x8
          have hO:=XC hE hl em.symm x8 hs fun c hc=>gP.1 hc;have e3:((List.range sz).map fun c=>vs.getD ((k ()).toNat*sz+c) undef)=(vs.drop ((k ()).toNat*sz)).take sz:=by
           apply vG;intro q;rw [gY,eC,lM];rcases cw q sz with hq|hq
           . rw [Nf hq,aw hq,dv,bp oo,ba,bp oo];rfl
           . rw [ar oo,sA (by simpa using hq)];rfl
          rw [e3] at hO;exact⟨_,cB kk _ _ (by rw [em]; exact hy.iA) x8 (B3 ⟨j,k2,k3⟩ k5 (fun _=>hlen) (fun h=>by rw [k4] at h; cases h) (fun _=>rfl)),.agg _ _ hO.1 hO.2⟩
       . split at h
         . rename_i aN;have aN:=eq_of_beq aN;subst aN
           cases hs:Es k cells with
           | none=>rw [hs] at h; cases h
           | some out =>
            rw [hs] at h;cases h;have hk:=XD rfl;have em:(((k ()).toNat:Nat):Int)=k ():=oo
            have x8:(k ()).toNat<n:=oo
            obtain⟨v,q1,q2⟩:=Xz hs hE em.symm (by rw [hl]; omega);exact⟨v,cB kk _ _ (by rw [em]; exact hy.iA) x8 (B3 ⟨j,k2,k3⟩ k5 (fun h=>by rw [k4] at h; cases h) (fun _=>by rw [nP]; exact q1) (fun h=>by rw [k4] at h; cases h)),q2⟩
         . cases h
     . cases h
   . cases h
 . rename_i s e1;split at h
   . rename_i kk k ek;cases h;obtain⟨i,_,h1,h2⟩:=eU aA e1;have hk:=hv _ (.head _);obtain⟨ds,hd,hm⟩:=m9 h2;rw [h1] at hm;cases ds<;>first|(simp [jH] at hm; done)|skip
     have cZ:0<=k ():=hk.1;have cg:k ()<((s ()).data.size:Int):=hk.2;have aj:(k ()).toNat<(s ()).data.size:=oo
     have hb:(s ())[(k ()).toNat]? = some ((s ()).data[(k ()).toNat]'aj):=getElem?_pos (s ()) (k ()).toNat aj;refine⟨_,?_,.int .u8 _⟩;unfold execOp;simp only [hx.zM,ji ek hy,Instr.index,asIntOf,underlying,bt,bU,bM,m5,hd,cZ,eH,hb];unfold WU;rw [getElem?_pos (s ()).data (k ()).toNat aj];rfl
   . cases h
 . cases h
end
end Go.Proofs.YtlpikgchnjajmaaGreat
