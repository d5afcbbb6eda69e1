/-
  The abstract run: keys of maps; what is looked up in a map.
-/
import Derived.Test.YthfpdbjemfhieaaGreatMt6
set_option linter.unusedVariables false
set_option linter.unusedSimpArgs false
namespace Go.Proofs.YthfpdbjemfhieaaGreat
open Go.RowKit
section
variable {P:Program} {r:Operand->Value} {d:Option Nat} {ty:TypeId} {pos:String} {aft:Array Edge} {gd:Option (Nat×Bool)} {u v:Value} {w:World}
variable {ρ:Nat->Option Rl} {base:Nat} {ro ra:Nat->Prop}
theorem kxAV_ok {l:Lk} {x:AV} {k:Unit->Kx} (h:kxAV l x=some k) (hx:AVR w ρ base ro x v):v=(k ()).val/\l.fits (k ())=true:=by
 unfold kxAV at h;split at h
 . split at h<;>cases h
   rename_i hk;subst hk;exact⟨hx.int_,by simp [Lk.fits]⟩
 . split at h<;>cases h
   rename_i hk;subst hk;exact⟨hx.lit_,by simp [Lk.fits]⟩
 . cases h;exact⟨hx.bool_,rfl⟩
 . cases h;exact⟨hx.blit_,rfl⟩
 . cases h;exact⟨hx.str_,rfl⟩
 . cases h
theorem kxL_ok:∀ {ls:List Lk} {xs:List AV} {k:Unit->List Kx} {vs:List Value},kxL ls xs=some k->Each w ρ base ro xs vs->vs=(k ()).map Kx.val/\fitsL ls (k ())=true
 | [],[],k,vs,h,hE=>by
  cases h;exact⟨hE.none,rfl⟩
 | l::ls,x::xs,k,vs,h,hE=>by
  unfold kxL at h;split at h
  . rename_i a b h1 h2;cases h;obtain⟨v,us,rfl,hx,hE'⟩:=hE.head;obtain⟨h3,h4⟩:=kxAV_ok h1 hx;obtain⟨h5,h6⟩:=kxL_ok h2 hE';exact⟨by rw [h3,h5]; rfl,by simp [fitsL,h4,h6]⟩
  . cases h
 | [],_::_,_,_,h,_=>by cases h
 | _::_,[],_,_,h,_=>by cases h
theorem keyAV_ok {c:Kc} {x:AV} {k:Unit->List Kx} (h:keyAV c x=some k) (hx:AVR w ρ base ro x v):keyIs c v (k ()):=by
 cases c with
 | one l =>
  simp only [keyAV] at h
  cases hk:kxAV l x with
  | none=>rw [hk] at h; cases h
  | some a =>
   rw [hk] at h;cases h;obtain⟨h1,h2⟩:=kxAV_ok hk hx;exact⟨h1,by simp [Kc.ls,fitsL,h2]⟩
 | arr n l =>
  simp only [keyAV] at h;split at h
  . obtain⟨vs,rfl,hE⟩:=hx.agg_;obtain⟨h1,h2⟩:=kxL_ok h hE;exact⟨by rw [h1]; rfl,h2⟩
  . cases h
 | st ls =>
  simp only [keyAV] at h;split at h
  . obtain⟨vs,rfl,hE⟩:=hx.agg_;obtain⟨h1,h2⟩:=kxL_ok h hE;exact⟨by rw [h1]; rfl,h2⟩
  . cases h
theorem leafOut_ok {l:Lk} {x:Unit->Kx} (h:l.fits (x ())=true):AVR w ρ base ro (leafOut l x) (x ()).val:=by
 cases l<;>cases hx:x ()<;>rw [hx] at h<;>simp only [Lk.fits,Bool.false_eq_true,decide_eq_true_eq] at h
 . rename_i k k' n;subst h;have:Value.int k n=Value.int k ((x ()).num):=by rw [hx]; rfl
   show AVR w ρ base ro _ (Value.int k n)
   rw [this];exact .int _ _
 . rename_i p;have:Value.bool p=Value.bool ((x ()).flag):=by rw [hx]; rfl
   show AVR w ρ base ro _ (Value.bool p)
   rw [this];exact .bool _
 . rename_i s;have:Value.string s=Value.string ((x ()).txt):=by rw [hx]; rfl
   show AVR w ρ base ro _ (Value.string s)
   rw [this];exact .str _
theorem leafOuts_ok {k:Unit->List Kx}:∀ {ls:List Lk} {n:Nat},fitsL ls ((k ()).drop n)=true->Each w ρ base ro (leafOuts ls n k) (((k ()).drop n).map Kx.val)
 | [],n,h=>by
  rw [fitsL_nil h];exact .nil
 | l::ls,n,h=>by
  obtain⟨x,q,e,hx,hq⟩:=fitsL_cons h;obtain⟨g,dq⟩:=drop_cons e;have ih:=leafOuts_ok (k:=k) (ls:=ls) (n:=n+1) (by rw [dq]; exact hq);rw [dq] at ih;rw [e];have hv:(k ()).getD n (.i .i64 0)=x:=by simp [List.getD_eq_getElem?_getD,g]
  refine .cons ?_ ih;have h1:=leafOut_ok (w:=w) (ρ := ρ) (base:=base) (ro:=ro) (l:=l) (x:=fun _=>(k ()).getD n (.i .i64 0)) (by simp only [hv]; exact hx);simp only [hv] at h1 ⊢;exact h1
theorem keyOut_ok {c:Kc} {k:Unit->List Kx} (h:keyIs c v (k ())):AVR w ρ base ro (keyOut c k) v:=by
 obtain⟨h1,h2⟩:=h
 cases c with
 | one l =>
  obtain⟨x,q,e,hx,hq⟩:=fitsL_cons h2;cases fitsL_nil hq;rw [h1,e];have hv:(k ()).getD 0 (.i .i64 0)=x:=by rw [e]; rfl
  have h3:=leafOut_ok (w:=w) (ρ := ρ) (base:=base) (ro:=ro) (l:=l) (x:=fun _=>(k ()).getD 0 (.i .i64 0)) (by simp only [hv]; exact hx);simp only [hv] at h3;show AVR w ρ base ro (leafOut l fun _=>(k ()).getD 0 (.i .i64 0)) x.val
  simp only [hv];exact h3
 | arr n l =>
  have h3:=leafOuts_ok (w:=w) (ρ := ρ) (base:=base) (ro:=ro) (k:=k) (ls:=List.replicate n l) (n:=0) (by simpa [Kc.ls] using h2);rw [h1];exact .agg _ _ h3.1 h3.2
 | st ls =>
  have h3:=leafOuts_ok (w:=w) (ρ := ρ) (base:=base) (ro:=ro) (k:=k) (ls:=ls) (n:=0) (by simpa [Kc.ls] using h2);rw [h1];exact .agg _ _ h3.1 h3.2
theorem each_loose0 {l:List AV} {vs:List Value} (h:Each w ρ base ro l vs):Each w ρ base ro (l.map AV.loose) vs:=by
 refine⟨by simp [h.1],fun j x v hx hv => ?_⟩;rw [List.getElem?_map] at hx
 cases hj:l[j]? with
 | none=>rw [hj] at hx; cases hx
 | some y =>
  rw [hj] at hx;simp only [Option.map_some,Option.some.injEq] at hx;subst hx;exact (h.2 j y v hj hv).loose_
theorem elAV_less {ag fr fr':Bool} {t:Tc} {x:Unit->t.el} (h:AVR w ρ base ro (elAV ag fr t x) v) (hf:fr'=true->fr=true):AVR w ρ base ro (elAV ag fr' t x) v:=by
 cases fr' with
 | true=>rw [hf rfl] at h; exact h
 | false =>
  unfold elAV at h ⊢
  cases ag with
  | true =>
   simp only [if_true] at h ⊢;obtain⟨vs,rfl,hE⟩:=h.agg_;rw [cellsAV_loose fr];have:=each_loose0 hE;exact .agg _ _ this.1 this.2
  | false =>
   simp only [Bool.false_eq_true,if_false] at h ⊢;rw [cellsAV_loose fr]
   cases hc:cellsAV fr t x with
   | nil=>exact .un _
   | cons c l =>
    rw [hc] at h
    cases l with
    | nil=>exact AVR.loose_ h
    | cons c2 l=>exact .un _
theorem tyB_map {T kt et:Nat} {i:TInf} {c:Kc} {t:Tc} {ag:Bool} (h:tyB P T i=true) (hi:i.ti = .map kt et c t ag):P.underlying T=some (.map kt et)/\kcB P kt c=true/\(ag=true\/t.size=1)/\∃ j z,P.info? et=some j/\j.zero=some z/\AVR w ρ base ro (elAV ag true t fun _=>t.dflt) z:=by
 obtain⟨ds,hd,hm⟩:=tyB_desc h;rw [hi] at hm;cases ds<;>first|(simp [descB] at hm; done)|skip
 rename_i k e;simp only [descB,Bool.and_eq_true,beq_iff_eq,Bool.or_eq_true] at hm;obtain⟨⟨⟨⟨rfl,rfl⟩,h1,h2⟩,h3⟩,h4⟩:=hm;refine⟨hd,h1,h3,?_⟩
 cases hj:P.info? e with
 | none=>rw [hj] at h4; cases h4
 | some j =>
  rw [hj] at h4;simp only at h4
  cases hz:j.zero with
  | none=>rw [hz] at h4; cases h4
  | some z =>
   rw [hz] at h4;simp only [Bool.and_eq_true] at h4;refine⟨j,z,rfl,hz,?_⟩;have hE:Each w ρ base ro (cellsAV true t fun _=>t.dflt) z.cells.toList:=zeroB_ok h4.1;have hs:=h4.2;unfold elAV
   cases ag with
   | true =>
    simp only [if_true];cases z<;>simp [zShape] at hs;rename_i cs;have:Each w ρ base ro (cellsAV true t fun _=>t.dflt) cs.toList:=hE;have h5:AVR w ρ base ro (.agg (cellsAV true t fun _=>t.dflt)) (.agg cs.toList.toArray) := .agg _ _ this.1 this.2;simpa using h5
   | false =>
    simp only [Bool.false_eq_true,if_false];have hl:(cellsAV true t fun _=>t.dflt).length=1:=by
     rw [cellsAV_len];rcases h3 with h3|h3
     . cases h3
     . exact h3
    have hzc:z.cells = #[z]:=by cases z<;>first|rfl|simp [zShape] at hs
    cases hc:cellsAV true t fun _=>t.dflt with
    | nil=>rw [hc] at hl; cases hl
    | cons x l =>
     rw [hc] at hl hE
     cases l with
     | cons y l=>simp at hl
     | nil =>
      rw [hzc] at hE;exact hE.2 0 x z rfl rfl
theorem run_zero {T:Nat} {j:TypeInfo} {z:Value} (hj:P.info? T=some j) (hz:j.zero=some z):(zeroValue T).run P w = .ok z w:=by
 unfold zeroValue;simp only [typeInfo,Sem.run_bind,Sem.run_pure,Result.andThen_ok,run_program,hj,hz]
theorem MapR.keys {fr ag:Bool} {c:Kc} {t:Tc} {m:List Kx->Option t.el} {es:Array MapEntry} (h:MapR w ρ base ro fr ag c t m es):∀ e∈es.toList,∃ b,keyIs c e.key b:=fun e he=>by
 obtain⟨key,x,h1,_⟩:=h.1 e he;exact⟨key,h1⟩
theorem keyIs_inj {c:Kc} {a b:List Kx} (h1:keyIs c v a) (h2:keyIs c v b):a=b:=key_inj h1.2 h2.2 (h1.1.symm.trans h2.1)
theorem MapR.find {fr ag:Bool} {c:Kc} {t:Tc} {m:List Kx->Option t.el} {es:Array MapEntry} {kt:Nat} {key:List Kx} (h:MapR w ρ base ro fr ag c t m es) (hk:kcB P kt c=true) (hv:keyIs c v key) :
 ((Instr.findKey kt v es.toList).run P w = .ok none w/\m key=none/\∀ e∈es.toList,¬ keyIs c e.key key)\/∃ j e x,(Instr.findKey kt v es.toList).run P w = .ok (some (j,e.val)) w/\es[j]? = some e/\keyIs c e.key key/\m key=some x/\AVR w ρ base ro (elAV ag fr t fun _=>x) e.val:=by
 rw [hv.1];rcases key_find (P:=P) (w:=w) hk hv.2 es.toList h.keys with ⟨h1,h2⟩|⟨j,e,h1,h2,h3⟩
 . refine .inl ⟨h1,?_,h2⟩
   cases hm:m key with
   | none=>rfl
   | some x =>
    obtain⟨e,he,h3⟩:=h.2 key x hv.2 hm;exact absurd h3 (h2 e he)
 . obtain⟨key',x,h4,h5,h6⟩:=h.1 e (List.mem_of_getElem? h2);cases keyIs_inj h3 h4;exact .inr ⟨j,e,x,h1,by simpa using h2,h3,h5,h6⟩
theorem lookup_ok {T kt et:Nat} {i:TInf} {c:Kc} {t:Tc} {ag fr ok:Bool} {x y:Operand} {loc T':Nat} {m:Unit->List Kx->Option t.el} {k:Unit->List Kx} (ht:tyB P T i=true) (hi:i.ti = .map kt et c t ag) (he:EnR w ρ base ro loc (.map fr ag c t T' m)) (hx:AVR w ρ base ro (.mp loc) (r x)) (hk:keyIs c (r y) (k ())) :
 ∃ v,(execOp r ⟨d,.lookup T x y ok,ty,pos,aft,gd⟩).run P w = .ok (.value v) w/\AVR w ρ base ro (lookAV ag fr t (fun _=>m () (k ())) ok) v:=by
 obtain⟨hu,hkc,_,j,z,hj,hz,hzr⟩:=tyB_map (w:=w) (ρ := ρ) (base:=base) (ro:=ro) ht hi;obtain⟨b,es,clock,hb,hh,hst,hm⟩:=he;obtain⟨b',hb',hx'⟩:=hx.mp_;rw [hb] at hb';injection hb' with hb';injection hb' with hb';subst hb';have hgo:∀ (o:Option (Nat×Value)),(Instr.findKey kt (r y) es.toList).run P w = .ok o w->(execOp r ⟨d,.lookup T x y ok,ty,pos,aft,gd⟩).run P w = .ok (.value (if ok then .tuple #[(match o with|some (_,u)=>u|none=>z),.bool o.isSome] else match o with|some (_,u)=>u|none=>z)) w:=by
  intro o ho;unfold execOp;simp only [Instr.lookup,hx',Sem.run_bind,run_underlying hu,Result.andThen_ok,MapKept.run_getObj_map hh,Sem.run_pure];rw [hk.1] at ho ⊢;rw [key_check (w:=w) hkc hk.2];simp only [Result.andThen_ok,ho]
  cases o with
  | none=>simp only [Sem.run_bind,run_zero hj hz,Result.andThen_ok,Sem.run_pure]; rfl
  | some p=>obtain⟨n,u⟩:=p; simp only [Sem.run_bind,Result.andThen_ok,Sem.run_pure]; rfl
 have hfin:∀ (u:Value) (q:Bool),AVR w ρ base ro (elAV ag fr t fun _=>(m () (k ())).getD t.dflt) u->(m () (k ())).isSome=q->AVR w ρ base ro (lookAV ag fr t (fun _=>m () (k ())) ok) (if ok then .tuple #[u,.bool q] else u):=by
  intro u q h1 h2;unfold lookAV
  cases ok with
  | false=>exact h1
  | true =>
   simp only [if_true];have h3:Each w ρ base ro [elAV ag fr t fun _=>(m () (k ())).getD t.dflt,.bool fun _=>(m () (k ())).isSome] [u,.bool q] := .cons h1 (.cons (by rw [<- h2]; exact .bool _) .nil);exact .tup _ _ h3.1 h3.2
 rcases hm.find (P:=P) hkc hk with ⟨h1,h2,_⟩|⟨n,e,x',h1,_,_,h3,h4⟩
 . refine⟨_,hgo _ h1,hfin z false ?_ (by rw [h2]; rfl)⟩;have:(fun _:Unit=>(m () (k ())).getD t.dflt)=fun _=>t.dflt:=by rw [h2]; rfl
   rw [this];exact elAV_less hzr fun _=>rfl
 . refine⟨_,hgo _ h1,hfin e.val true ?_ (by rw [h3]; rfl)⟩;have:(fun _:Unit=>(m () (k ())).getD t.dflt)=fun _=>x':=by rw [h3]; rfl
   rw [this];exact h4
theorem entry_ok {x:Operand} {ml l2 T:Nat} {c:Kc} {t:Tc} {ag fr:Bool} {m:Unit->List Kx->Option t.el} {seen:Unit->List (List Kx)} {left:Unit->Nat} (he:EnR w ρ base ro ml (.map fr ag c t T m)) (hi:EnR w ρ base ro l2 (.iter ml c seen left)) (hx:AVR w ρ base ro (.it ml l2) (r x)) (hs:seen () ≠ []) :
 ∃ v,(execOp r ⟨d,.entry x,ty,pos,aft,gd⟩).run P w = .ok (.value v) w/\AVR w ρ base ro (.tup [keyOut c fun _=>(seen ()).headD [],elAV ag fr t fun _=>(m () ((seen ()).headD [])).getD t.dflt]) v:=by
 obtain⟨b,es,clock,hb,hh,hst,hm⟩:=he;obtain⟨b',b2,es',clock',since,stamps,c0,h1,h2,h3,h4,h5,h6,h7,h8,h9⟩:=hi;rw [hb] at h2;injection h2 with h2;injection h2 with h2;subst h2;rw [hh] at h3;injection h3 with h3;injection h3 with e1 e2;subst e1; subst e2;obtain⟨b3,hb3,hx'⟩:=hx.it_;rw [h1] at hb3;injection hb3 with hb3;injection hb3 with hb3;subst hb3;obtain⟨key,rest,hkr⟩:∃ key rest,seen ()=key::rest:=by
  cases hse:seen () with
  | nil=>exact absurd hse hs
  | cons key rest=>exact⟨key,rest,rfl⟩
 obtain⟨rfl,e,heM,hback,hkey⟩:=h9 key rest hkr;have hst':=(MapKept.stamped_iff es c0).1 hst;have hf:es.find? (·.born==e.born)=some e:=by rw [<- Array.find?_toList]; exact find_born e es.toList hst'.2.1 heM
 obtain⟨key',x',k1,k2,k3⟩:=hm.1 e heM;cases keyIs_inj hkey k1;refine⟨.tuple #[e.key,e.val],?_,?_⟩
 . unfold execOp;simp only [Instr.entry,hx',getObj,Sem.run_bind,Sem.run,h4,hh,Result.andThen,hback,bne_self_eq_false,Bool.false_eq_true,if_false,hf];rfl
 . have e3:(fun _:Unit=>(m () ((seen ()).headD [])).getD t.dflt)=fun _=>x':=by rw [hkr]; simp [k2]
   have h10:Each w ρ base ro [keyOut c fun _=>(seen ()).headD [],elAV ag fr t fun _=>(m () ((seen ()).headD [])).getD t.dflt] [e.key,e.val] := .cons (keyOut_ok (by simp only [hkr,List.headD_cons]; exact hkey)) (.cons (by rw [e3]; exact k3) .nil);exact .tup _ _ h10.1 h10.2
theorem aggEq_ok {tb:Tab} (hty:TyOk P tb) {T t':Nat} {i:TInf} {x y:Operand} (hi:alook tb T=some i) (hne:i.eq.isEmpty=false) {cs ds:List AV} {a b:Unit->List Kx} (ha:kxL i.eq cs=some a) (hb:kxL i.eq ds=some b) (hx:AVR w ρ base ro (.agg cs) (r x)) (hy:AVR w ρ base ro (.agg ds) (r y)) (w':World) :
 (execOp r ⟨d,.binOp .eql T x y t',ty,pos,aft,gd⟩).run P w' = .ok (.value (.bool (decide (a ()=b ())))) w'/\(execOp r ⟨d,.binOp .neq T x y t',ty,pos,aft,gd⟩).run P w' = .ok (.value (.bool (!decide (a ()=b ())))) w':=by
 obtain⟨vs,hvs,hE⟩:=hx.agg_;obtain⟨us,hus,hF⟩:=hy.agg_;obtain⟨rfl,f1⟩:=kxL_ok ha hE;obtain⟨rfl,f2⟩:=kxL_ok hb hF;have ht:=hty T i hi;unfold tyB at ht;simp only [Bool.and_eq_true] at ht;have he:=ht.2;unfold eqTyB at he;rw [hne,Bool.false_or] at he;simp only [Bool.and_eq_true,Bool.not_eq_true'] at he;obtain⟨⟨hag,hfl⟩,hg⟩:=he;have h3:=fl_equal (P:=P) 20 10000 (by omega) T i.eq hfl;rw [hag] at h3;have h4:(Op.equalIn 10000 T (.agg ((a ()).map Kx.val).toArray) (.agg ((b ()).map Kx.val).toArray)).run P w' = .ok (decide (a ()=b ())) w':=h3 w' _ _ f1 f2;have g1:=run_eqGuard_agg (w:=w') .eql T x y ((a ()).map Kx.val).toArray ((b ()).map Kx.val).toArray hg;have g2:=run_eqGuard_agg (w:=w') .neq T x y ((a ()).map Kx.val).toArray ((b ()).map Kx.val).toArray hg;constructor
 . unfold execOp;simp only [hvs,hus,Sem.run_bind,g1,Result.andThen_ok,run_eql_struct,h4,Sem.run_pure]
 . unfold execOp;simp only [hvs,hus,Sem.run_bind,g2,Result.andThen_ok,run_neq_struct,h4,Sem.run_pure]
theorem eqlAV_agg {tb:Tab} (hty:TyOk P tb) {op:BinOp} {T t':Nat} {x y:Operand} {cs ds:List AV} {av:AV} {vcs:List VC} (h:eqlAV (alook tb T) op (.agg cs) (.agg ds)=some (av,vcs)) (hx:AVR w ρ base ro (.agg cs) (r x)) (hy:AVR w ρ base ro (.agg ds) (r y)) :
 ∃ v,(∀ w',(execOp r ⟨d,.binOp op T x y t',ty,pos,aft,gd⟩).run P w' = .ok (.value v) w')/\AVR w ρ base ro av v:=by
 unfold eqlAV at h;dsimp only at h;split at h
 . rename_i i hi;split at h
   . cases h
   . rename_i hne;split at h
     . rename_i a b ha hb;have h1:=fun w'=>aggEq_ok (d:=d) (ty:=ty) (pos:=pos) (aft:=aft) (gd:=gd) (t':=t') hty hi (by simpa using hne) ha hb hx hy w';split at h
       . cases h;exact⟨_,fun w'=>(h1 w').1,.bool _⟩
       . cases h;exact⟨_,fun w'=>(h1 w').2,.bool fun _ => !decide (a ()=b ())⟩
       . cases h
     . cases h
 . cases h
theorem slice_sl {fr:Bool} {t:Tc} {l:Unit->List t.el} {a b:Nat} {A:Option Addr} {n c:Nat} (h:AVR w ρ base ro (.sl fr t l) (.slice A n c)) (hab:a<=b) (hb:b<=(l ()).length):AVR w ρ base ro (.sl fr t fun _=>((l ()).take b).drop a) (sliced A a b c t.size):=by
 obtain⟨A',c',css,hl,hc,hr,hro,hfr,hcs,hv⟩:=h.sl_;injection hv with e1 e2 e3;subst e1; subst e2; subst e3;have hlen:((css.take b).drop a).length=b - a:=by simp [hl]; omega
 have hlen2:(((l ()).take b).drop a).length=b - a:=by simp; omega
 have hget:∀ (k:Nat) cs,((css.take b).drop a)[k]? = some cs->css[a+k]? = some cs/\a+k<b:=by
  intro k cs hk;rw [List.getElem?_drop,List.getElem?_take] at hk;split at hk
  . exact⟨hk,by assumption⟩
  . cases hk
 have hne:∀ (x:Unit),(css.take b).drop a ≠ []->c≠a:=by
  intro _ hn;have:0<b - a:=by rw [<- hlen]; exact List.length_pos_iff.2 hn
  omega
 have hnon:(css.take b).drop a ≠ []->css ≠ []:=fun hn e=>hn (by rw [e]; simp);have hA:∀ ad,(if c=a then A else A.map (·.add (a*t.size)))=some ad->(css.take b).drop a ≠ []->∃ a0,A=some a0/\ad.block=a0.block:=by
  intro ad he hn;rw [if_neg (hne () hn)] at he;obtain⟨a0,h1,h2⟩:=Option.map_eq_some_iff.1 he;obtain⟨c0,rest,hc0⟩:=List.exists_cons_of_ne_nil (hnon hn);obtain⟨bl,off,h3,_⟩:=hr 0 c0 (by rw [hc0]; rfl);rw [h3] at h1;injection h1 with h1;subst h1;exact⟨_,h3,by rw [<- h2,Addr.add_lit]⟩
 show AVR w ρ base ro _ (.slice (if c=a then A else A.map (·.add (a*t.size))) (b - a) (c - a))
 rw [<- hlen2];refine .sl fr t (fun _=>((l ()).take b).drop a) _ _ ((css.take b).drop a) (by rw [hlen,hlen2]) (by rw [hlen]; omega) ?_ (fun ad he hn => ?_) (fun hf ad he hn => ?_) ?_
 . intro k cs hk;obtain⟨h1,h2⟩:=hget k cs hk;obtain⟨bl,off,h3,h4,h5,h6⟩:=hr (a+k) cs h1;refine⟨bl,off+a*t.size,?_,h4,h5,fun j u hu => ?_⟩
   . rw [if_neg (by omega),h3,Option.map_some,Addr.add_lit]
   . have:=h6 j u hu;rw [Nat.add_mul] at this;rw [show off+a*t.size+k*t.size+j=off+(a*t.size+k*t.size)+j by omega];exact this
 . obtain⟨a0,h1,h2⟩:=hA ad he hn;rw [h2];exact hro a0 h1 (hnon hn)
 . obtain⟨a0,h1,h2⟩:=hA ad he hn;rw [h2];exact hfr hf a0 h1 (hnon hn)
 . intro k cs j x v hk hx hv;obtain⟨h1,h2⟩:=hget k cs hk;refine hcs (a+k) cs j x v h1 ?_ hv;have e:(((l ()).take b).drop a).getD k t.dflt=(l ()).getD (a+k) t.dflt:=by
    rw [List.getD_eq_getElem?_getD,List.getD_eq_getElem?_getD,List.getElem?_drop,List.getElem?_take,if_pos h2]
   rw [<- e];exact hx
theorem bound_ok {g:Operand->AV} {dd:Unit->Int} {o:Option Operand} {f:Unit->Int} (h:boundAV g dd o=some f) (hg:∀ x,o=some x->AVR w ρ base ro (g x) (r x)):(o=none/\f=dd)\/∃ x k,o=some x/\r x = .int k (f ()):=by
 cases o with
 | none =>
  simp only [boundAV,Option.some.injEq] at h;exact .inl ⟨rfl,h.symm⟩
 | some x =>
  simp only [boundAV] at h
  cases hx:(g x).asInt with
  | none=>rw [hx] at h; cases h
  | some p =>
   obtain⟨k,n⟩:=p;rw [hx] at h;cases h;exact .inr ⟨x,k,rfl,asInt_ hx (hg x rfl)⟩
theorem sliceOp_ok {tb:Tab} (hty:TyOk P tb) {T e sz bb:Nat} {i:TInf} {x:Operand} {lo hi:Option Operand} {fr:Bool} {t:Tc} {l:Unit->List t.el} {a b:Unit->Int} {g:Operand->AV} (hT:alook tb T=some i) (hi':i.ti = .slice e sz bb) (hs:t.size=sz)
 (hx:AVR w ρ base ro (.sl fr t l) (r x)) (ha:boundAV g (fun _=>0) lo=some a) (hb:boundAV g (fun _=>((l ()).length:Int)) hi=some b) (hgl:∀ y,lo=some y->AVR w ρ base ro (g y) (r y)) (hgh:∀ y,hi=some y->AVR w ρ base ro (g y) (r y)) (hv:0<=a ()/\a ()<=b ()/\b ()<=((l ()).length:Int)) :
 ∃ v,(execOp r ⟨d,.slice T x lo hi none,ty,pos,aft,gd⟩).run P w = .ok (.value v) w/\AVR w ρ base ro (.sl fr t fun _=>((l ()).take (b ()).toNat).drop (a ()).toNat) v:=by
 obtain⟨A,c,css,h1,h2,h3,h4,h5,h6,hrx⟩:=hx.sl_;have hel:=elemOf_of (hty T i hT) hi';have hu:P.underlying T=some (.slice (P.elem T))/\∀ w',(sizeOf (P.elem T)).run P w' = .ok sz w':=by
  obtain⟨ds,hd,hm⟩:=tyB_desc (hty T i hT);rw [hi'] at hm;cases ds<;>first|(simp [descB] at hm; done)|skip
  rename_i e';simp only [descB,Bool.and_eq_true,beq_iff_eq] at hm;obtain⟨⟨he,_⟩,hm⟩:=hm;subst he
  cases hj:P.info? e' with
  | none=>rw [hj] at hm; cases hm
  | some j =>
   rw [hj] at hm;simp only [Bool.and_eq_true,beq_iff_eq] at hm;have he:P.elem T=e':=by simp [Program.elem,hd]
   rw [he];exact⟨hd,fun w'=>by rw [run_sizeOf w' hj]; simp [Program.cellsOf,hj,hm.1.1]⟩
 obtain⟨hu,hsz⟩:=hu;obtain⟨v0,v1,v2⟩:=hv;refine⟨sliced A (a ()).toNat (b ()).toNat c sz,?_,?_⟩
 . unfold execOp;simp only [hrx,run_sliceAt_slice _ _ _ _ _ _ hu,Sem.run_bind];have ht:((l ()).length:Int)<=(c:Int):=by omega
   have hb0:0<=b ():=Int.le_trans v0 v1;have hbc:b ()<=(c:Int):=by omega
   rcases bound_ok ha hgl with ⟨rfl,ea⟩|⟨yl,kl,rfl,ea⟩<;>rcases bound_ok hb hgh with ⟨rfl,eb⟩|⟨yh,kh,rfl,eb⟩
   . subst ea; subst eb;simp only [Option.map_none,run_slice_all _ _ _ _ _ hu,hsz,Result.andThen_ok,Sem.run_pure,Int.toNat_natCast,Int.toNat_zero]
   . subst ea;simp only [Option.map_none,Option.map_some,eb,run_slice_h w T A (l ()).length c hu kh (b ()) hb0 hbc,hsz,Result.andThen_ok,Sem.run_pure,Int.toNat_zero]
   . subst eb;simp only [Option.map_none,Option.map_some,ea,run_slice_l _ _ _ _ _ hu kl (a ()) (by omega) (by omega),hsz,Result.andThen_ok,Sem.run_pure,Int.toNat_natCast]
   . simp only [Option.map_none,Option.map_some,ea,eb,run_slice_lh w T A (l ()).length c hu kl kh (a ()) (b ()) v0 v1 hbc,hsz,Result.andThen_ok,Sem.run_pure]
 . rw [hrx] at hx;rw [<- hs];exact slice_sl hx (by omega) (by omega)
end
section
variable {P:Program} {r:Operand->Value} {d:Option Nat} {ty:TypeId} {pos:String} {aft:Array Edge} {gd:Option (Nat×Bool)} {u v:Value} {w:World}
variable {ρ:Nat->Option Rl} {base:Nat} {ro:Nat->Prop}
theorem AVR.wide_ {fr:Bool} {t:Tc} {l:Unit->List t.el} {n:Unit->Nat} (h:AVR w ρ base ro (.wide fr t l n) v):∃ A c,n ()<=(l ()).length/\AVR w ρ base ro (.sl fr t l) (.slice A (l ()).length c)/\v = .slice A (n ()) c:=by
 cases h with
 | wide _ _ _ _ A c hn h=>exact⟨A,c,hn,h,rfl⟩
theorem wide_take {fr:Bool} {t:Tc} {l:Unit->List t.el} {n:Unit->Nat} (h:AVR w ρ base ro (.wide fr t l n) v):AVR w ρ base ro (.sl fr t fun _=>(l ()).take (n ())) v:=by
 obtain⟨A,c,hn,h2,rfl⟩:=h.wide_;obtain⟨A',c',css,hl,hc,hr,hro,hfr,hcs,hv⟩:=h2.sl_;injection hv with e1 e2 e3;subst e1; subst e3;have hlen:((l ()).take (n ())).length=n ():=by rw [List.length_take]; omega
 have hnon:css.take (n ()) ≠ []->css ≠ []:=fun hn e=>hn (by rw [e]; simp);have key:AVR w ρ base ro (.sl fr t fun _=>(l ()).take (n ())) (.slice A ((l ()).take (n ())).length c):=by
  refine .sl fr t (fun _=>(l ()).take (n ())) A c (css.take (n ())) (by rw [List.length_take,hlen]; omega) (by rw [List.length_take]; omega) (fun k cs hk => ?_) (fun a ha hq=>hro a ha (hnon hq)) (fun hf a ha hq=>hfr hf a ha (hnon hq)) fun k cs j x v h1 h2 h3 => ?_
  . rw [List.getElem?_take] at hk;split at hk
    . exact hr k cs hk
    . cases hk
  . rw [List.getElem?_take] at h1;split at h1
    . rename_i hk;refine hcs k cs j x v h1 ?_ h3;have e:((l ()).take (n ())).getD k t.dflt=(l ()).getD k t.dflt:=by rw [List.getD_eq_getElem?_getD,List.getD_eq_getElem?_getD,List.getElem?_take,if_pos hk]
      rw [<- e];exact h2
    . cases h1
 rwa [hlen] at key
/- elements without what lies behind their slices -/
def AV.thin:AV->AV
 | .sl _ t l => .sl false t l
 | .wide _ t l n => .sl false t fun _=>(l ()).take (n ())
 | x=>x
theorem AVR.thin_ {x:AV} (h:AVR w ρ base ro x v):AVR w ρ base ro x.thin v:=by
 cases x<;>first|exact h.loose_|exact (wide_take h).loose_|exact h
theorem cvT_cells {t t':Tc} {f:t.el->t'.el} (h:cvT t t'=some f) (fr:Bool) (x:Unit->t.el):cellsAV false t' (fun _=>f (x ()))=(cellsAV fr t x).map AV.thin:=by
 unfold cvT at h;split at h<;>first|(cases h; rfl)|cases h
theorem cvT_size {t t':Tc} {f:t.el->t'.el} (h:cvT t t'=some f):t'.size=t.size:=by
 unfold cvT at h;split at h<;>first|rfl|cases h
theorem cvW_ok {fr:Bool} {t t':Tc} {l:Unit->List t.el} {n:Unit->Nat} {av:AV} (h:cvW t t' l n=some av) (hx:AVR w ρ base ro (.wide fr t l n) v):AVR w ρ base ro av v/\AV.plain false av=true:=by
 unfold cvW at h;split at h
 . rename_i f hf;cases h;refine⟨?_,rfl⟩;have h1:=wide_take hx;generalize hL:(fun (_:Unit)=>(l ()).take (n ()))=L at h1;obtain⟨A,c,css,hl,hc,hr,hro,_,hcs,rfl⟩:=h1.sl_;have key:AVR w ρ base ro (.sl false t' fun _=>(L ()).map f) (.slice A ((L ()).map f).length c):=by
    refine .sl false t' (fun _=>(L ()).map f) A c css (by rw [List.length_map]; exact hl) hc (by rw [cvT_size hf]; exact hr) hro (fun h=>by cases h) fun k cs j x v h1 h2 h3 => ?_;have hk:k<(L ()).length:=by rw [<- hl]; exact (List.getElem?_eq_some_iff.1 h1).1
    have e:((L ()).map f).getD k t'.dflt=f ((L ()).getD k t.dflt):=by simp [List.getD_eq_getElem?_getD,List.getElem?_eq_getElem hk]
    rw [e,cvT_cells hf fr fun _=>(L ()).getD k t.dflt,List.getElem?_map] at h2;obtain⟨y,h4,rfl⟩:=Option.map_eq_some_iff.1 h2;exact (hcs k cs j y v h1 h4 h3).thin_
   rw [List.length_map] at key;subst hL;exact key
 . cases h
theorem indexW_ok {T e sz b:Nat} {i:TInf} {x y:Operand} {fr:Bool} {t:Tc} {l:Unit->List t.el} {n:Unit->Nat} {kk:IntKind} {k:Unit->Int} (ht:tyB P T i=true) (hi:i.ti = .slice e sz b) (hs:t.size=sz) (hx:AVR w ρ base ro (.wide fr t l n) (r x)) (hy:r y = .int kk (k ())) (hk:0<=k ()/\k ()<(n ():Int)) :
 ∃ v,(∀ w',(execOp r ⟨d,.indexAddr T x y,ty,pos,aft,gd⟩).run P w' = .ok (.value v) w')/\AVR w ρ base ro (.pto (cellsAV fr t fun _=>(l ()).getD (k ()).toNat t.dflt) 0) v:=by
 obtain⟨_,_,hnl,_⟩:=hx.wide_;have h1:=wide_take hx;have hlen:((l ()).take (n ())).length=n ():=by rw [List.length_take]; omega
 obtain⟨v,h2,h3⟩:=index_ok (d:=d) (ty:=ty) (pos:=pos) (aft:=aft) (gd:=gd) ht hi hs h1 hy (by rw [hlen]; exact hk);refine⟨v,h2,?_⟩;have e:((l ()).take (n ())).getD (k ()).toNat t.dflt=(l ()).getD (k ()).toNat t.dflt:=by rw [List.getD_eq_getElem?_getD,List.getD_eq_getElem?_getD,List.getElem?_take,if_pos (by omega)]
 rw [<- e];exact h3
theorem sliceH_ok {tb:Tab} (hty:TyOk P tb) {T e sz bb m c:Nat} {i:TInf} {x hi:Operand} {fr:Bool} {t:Tc} {l:Unit->List t.el} {b:Unit->Int} {kk:IntKind} {A:Option Addr} (hT:alook tb T=some i) (hi':i.ti = .slice e sz bb) (hs:t.size=sz)
 (hx:r x = .slice A m c) (hl:AVR w ρ base ro (.sl fr t l) (.slice A (l ()).length c)) (hb:r hi = .int kk (b ())) (hv:0<=b ()/\b ()<=((l ()).length:Int)) :
 ∃ v,(execOp r ⟨d,.slice T x none (some hi) none,ty,pos,aft,gd⟩).run P w = .ok (.value v) w/\AVR w ρ base ro (.wide fr t l fun _=>(b ()).toNat) v:=by
 have hu:P.underlying T=some (.slice (P.elem T))/\∀ w',(sizeOf (P.elem T)).run P w' = .ok sz w':=by
  obtain⟨ds,hd,hm⟩:=tyB_desc (hty T i hT);rw [hi'] at hm;cases ds<;>first|(simp [descB] at hm; done)|skip
  rename_i e';simp only [descB,Bool.and_eq_true,beq_iff_eq] at hm;obtain⟨⟨he,_⟩,hm⟩:=hm;subst he
  cases hj:P.info? e' with
  | none=>rw [hj] at hm; cases hm
  | some j =>
   rw [hj] at hm;simp only [Bool.and_eq_true,beq_iff_eq] at hm;have he:P.elem T=e':=by simp [Program.elem,hd]
   rw [he];exact⟨hd,fun w'=>by rw [run_sizeOf w' hj]; simp [Program.cellsOf,hj,hm.1.1]⟩
 obtain⟨hu,hsz⟩:=hu;obtain⟨A',c',css,h1,h2,_,_,_,_,hev⟩:=hl.sl_;injection hev with e1 e2 e3;subst e1; subst e3;have hbc:b ()<=(c:Int):=by omega
 refine⟨sliced A 0 (b ()).toNat c sz,?_,?_⟩
 . unfold execOp;simp only [hx,run_sliceAt_slice _ _ _ _ _ _ hu,Sem.run_bind,Option.map_none,Option.map_some,hb,run_slice_h w T A m c hu kk (b ()) hv.1 hbc,hsz,Result.andThen_ok,Sem.run_pure]
 . have h4:=slice_sl hl (Nat.zero_le (l ()).length) (Nat.le_refl _);have e:(fun (_:Unit)=>((l ()).take (l ()).length).drop 0)=l:=by funext u; simp
   rw [e,hs] at h4;exact .wide fr t l (fun _=>(b ()).toNat) _ _ (by omega) h4
theorem arr_of {T n e sz:Nat} {a:Bool} {i:TInf} (ht:tyB P T i=true) (hi:i.ti = .array n e sz a):P.underlying T=some (.array n e)/\(∃ j,P.info? e=some j/\j.size=sz)/\aggB P e=a/\∃ ds,P.underlying e=some ds:=by
 obtain⟨ds,hd,hm⟩:=tyB_desc ht;rw [hi] at hm;cases ds<;>first|(simp [descB] at hm; done)|skip
 simp only [descB,Bool.and_eq_true,beq_iff_eq] at hm;obtain⟨⟨⟨rfl,rfl⟩,h3⟩,h4,h5⟩:=hm;refine⟨hd,?_,h4,Option.isSome_iff_exists.1 h5⟩
 cases hj:P.info? _ with
 | none=>rw [hj] at h3; cases h3
 | some j=>rw [hj] at h3; exact⟨j,rfl,eq_of_beq h3⟩
theorem arrAddr_ok {tb:Tab} (hty:TyOk P tb) {T:Nat} {x y:Operand} {a b av:AV} {vcs:List VC} (h:arrAddr (tiOf tb T) a b=some (av,vcs)) (hx:AVR w ρ base ro a (r x)) (hy:AVR w ρ base ro b (r y)) :
 ∃ v,(∀ w',(execOp r ⟨d,.indexAddr T x y,ty,pos,aft,gd⟩).run P w' = .ok (.value v) w')/\AVR w ρ base ro av v:=by
 unfold arrAddr at h;split at h
 . rename_i n e sz ag kk m e1;split at h
   . rename_i hm;simp only [Bool.and_eq_true,decide_eq_true_eq] at hm;obtain⟨i,_,h1,h2⟩:=tiOf_ hty e1;obtain⟨k1,⟨j,k2,k3⟩,_⟩:=arr_of h2 h1
     cases ha:addOff a (m.toNat*sz) with
     | none=>rw [ha] at h; cases h
     | some av' =>
      rw [ha] at h;cases h;obtain⟨b',o,q1,q2⟩:=addOff_ok ha hx;have em:((m.toNat:Nat):Int)=m:=by omega
      exact⟨_,fun w'=>ok_indexP (k:=m.toNat) q1 (by rw [em]; exact hy.lit_) k1 (by rw [k2]; simp [k3]) (by rw [em]; exact hm.2) rfl,q2⟩
   . cases h
 . cases h
theorem selI_ok {kk:IntKind} {k:Unit->Int}:∀ {l:List AV} {vs:List Value} {j m:Nat} {f:Unit->Int},selI kk k j l=some f->Each w ρ base ro l vs->k ()=((j+m:Nat):Int)->m<l.length->vs[m]? = some (.int kk (f ()))
 | [],_,_,_,_,h,_,_,_=>by cases h
 | x::l,vs,j,m,f,h,hE,hk,hm=>by
  obtain⟨v,us,rfl,hx,hE'⟩:=hE.head;unfold selI at h;split at h
  . rename_i k' a ha;split at h
    . rename_i hkk;subst hkk;have hv:=asInt_ ha hx;split at h
      . cases h;have:m=0:=by simpa using hm
        subst this;rw [hv];rfl
      . cases hf:selI k' k (j+1) l with
        | none=>rw [hf] at h; cases h
        | some g =>
         rw [hf] at h;cases h
         cases m with
         | zero =>
          have:decide (k ()=(j:Int))=true:=by rw [decide_eq_true_eq,hk]; rfl
          rw [this,hv];rfl
         | succ m =>
          have:decide (k ()=(j:Int))=false:=by rw [decide_eq_false_iff_not]; omega
          rw [this,List.getElem?_cons_succ];exact selI_ok hf hE' (by rw [hk]; congr 1; omega) (by simpa using hm)
    . cases h
  . cases h
theorem selB_ok {k:Unit->Int}:∀ {l:List AV} {vs:List Value} {j m:Nat} {f:Unit->Bool},selB k j l=some f->Each w ρ base ro l vs->k ()=((j+m:Nat):Int)->m<l.length->vs[m]? = some (.bool (f ()))
 | [],_,_,_,_,h,_,_,_=>by cases h
 | x::l,vs,j,m,f,h,hE,hk,hm=>by
  obtain⟨v,us,rfl,hx,hE'⟩:=hE.head;unfold selB at h;split at h
  . rename_i a ha;have hv:=asBool_ ha hx;split at h
    . cases h;have:m=0:=by simpa using hm
      subst this;rw [hv];rfl
    . cases hf:selB k (j+1) l with
      | none=>rw [hf] at h; cases h
      | some g =>
       rw [hf] at h;cases h
       cases m with
       | zero =>
        have:decide (k ()=(j:Int))=true:=by rw [decide_eq_true_eq,hk]; rfl
        rw [this,hv];rfl
       | succ m =>
        have:decide (k ()=(j:Int))=false:=by rw [decide_eq_false_iff_not]; omega
        rw [this,List.getElem?_cons_succ];exact selB_ok hf hE' (by rw [hk]; congr 1; omega) (by simpa using hm)
  . cases h
theorem selAV_ok {k:Unit->Int} {l:List AV} {vs:List Value} {m:Nat} {av:AV} (h:selAV k l=some av) (hE:Each w ρ base ro l vs) (hk:k ()=(m:Int)) (hm:m<l.length):∃ v,vs[m]? = some v/\AVR w ρ base ro av v:=by
 unfold selAV at h;have hk':k ()=((0+m:Nat):Int):=by rw [hk]; congr 1; omega
 split at h
 all_goals first|cases h; done|skip
 all_goals (rename_i kk _ l)
 . cases hf:selI kk k 0 _ with
   | none=>rw [hf] at h; cases h
   | some f=>rw [hf] at h; cases h; exact⟨_,selI_ok hf hE hk' hm,.int _ _⟩
 . cases hf:selI kk k 0 _ with
   | none=>rw [hf] at h; cases h
   | some f=>rw [hf] at h; cases h; exact⟨_,selI_ok hf hE hk' hm,.int _ _⟩
 . cases hf:selB k 0 _ with
   | none=>rw [hf] at h; cases h
   | some f=>rw [hf] at h; cases h; exact⟨_,selB_ok hf hE hk' hm,.bool _⟩
 . cases hf:selB k 0 _ with
   | none=>rw [hf] at h; cases h
   | some f=>rw [hf] at h; cases h; exact⟨_,selB_ok hf hE hk' hm,.bool _⟩
theorem stride_ok {cells:List AV} {vs:List Value} {n esz c:Nat} (hE:Each w ρ base ro cells vs) (hl:cells.length=n*esz) (hc:c<esz):Each w ρ base ro (stride cells n esz c) ((List.range n).map fun m=>vs.getD (m*esz+c) undef):=by
 unfold stride;refine each_map fun m hm => ?_;rw [List.mem_range] at hm;have hlt:m*esz+c<cells.length:=by
  rw [hl];have:(m+1)*esz<=n*esz:=Nat.mul_le_mul_right _ hm;rw [Nat.add_mul] at this;omega
 obtain⟨v,h1,h2⟩:=hE.get (List.getElem?_eq_getElem hlt);rw [List.getD_eq_getElem?_getD,List.getElem?_eq_getElem hlt,List.getD_eq_getElem?_getD,h1];exact h2
theorem selCells_ok {k:Unit->Int} {cells:List AV} {vs:List Value} {n esz m:Nat} (hE:Each w ρ base ro cells vs) (hl:cells.length=n*esz) (hk:k ()=(m:Int)) (hm:m<n):∀ {cs:List Nat} {out:List AV},selCells k cells n esz cs=some out->(∀ c∈cs,c<esz)->Each w ρ base ro out (cs.map fun c=>vs.getD (m*esz+c) undef)
 | [],out,h,_=>by
  simp only [selCells,Option.some.injEq] at h;subst h;exact .nil
 | c::cs,out,h,hcs=>by
  unfold selCells at h;split at h
  . rename_i x l h1 h2;cases h;obtain⟨v,h3,h4⟩:=selAV_ok h1 (stride_ok hE hl (hcs c (.head _))) hk (by unfold stride; simpa using hm);rw [List.getElem?_map,List.getElem?_range hm,Option.map_some,Option.some.injEq] at h3;refine .cons ?_ (selCells_ok hE hl hk hm h2 fun c hc=>hcs c (.tail _ hc));show AVR w ρ base ro x (vs.getD (m*esz+c) undef)
    rw [h3];exact h4
  . cases h
theorem indexAV_ok {tb:Tab} (hty:TyOk P tb) {T:Nat} {x y:Operand} {a b av:AV} {vcs:List VC} (h:indexAV (tiOf tb T) a b=some (av,vcs)) (hv:∀ c∈vcs,c ()) (hx:AVR w ρ base ro a (r x)) (hy:AVR w ρ base ro b (r y)) :
 ∃ v,(execOp r ⟨d,.index T x y,ty,pos,aft,gd⟩).run P w = .ok (.value v) w/\AVR w ρ base ro av v:=by
 unfold indexAV at h;split at h
 . rename_i n e sz ag cells e1;obtain⟨i,_,h1,h2⟩:=tiOf_ hty e1;obtain⟨k1,⟨j,k2,k3⟩,k4,k5⟩:=arr_of h2 h1;obtain⟨vs,hvs,hE⟩:=hx.agg_;have hrun:∀ (kk:IntKind) (m:Nat) v,r y = .int kk (m:Int)->m<n->(part e vs.toArray (m*sz)).run P w = .ok v w->(execOp r ⟨d,.index T x y,ty,pos,aft,gd⟩).run P w = .ok (.value v) w:=by
    intro kk m v hyv hmn hp;have h0:(0:Int)<=(m:Int)/\(m:Int)<(n:Int):=by omega
    unfold execOp;simp only [hvs,hyv,Instr.index,asIntOf,underlying,sizeOf,typeInfo,Sem.run_bind,Sem.run_pure,Result.andThen_ok,run_program,k1,h0,if_true,and_self,k2,k3,Int.toNat_natCast,hp]
   split at h
   . rename_i kk m;split at h
     . rename_i hm;simp only [Bool.and_eq_true,decide_eq_true_eq] at hm;have em:((m.toNat:Nat):Int)=m:=by omega
       cases hc:cut ag (m.toNat*sz) sz cells with
       | none=>rw [hc] at h; cases h
       | some av' =>
        rw [hc] at h;cases h;have hr:=fun v=>hrun kk m.toNat v (by rw [em]; exact hy.lit_) (by omega);unfold cut at hc
        cases hb:ag with
        | true =>
         rw [hb,if_pos rfl] at hc;split at hc
         . rename_i hlen;cases hc;have hd:=(hE.drop (m.toNat*sz)).take sz;exact⟨_,hr _ (part_ok ⟨j,k2,k3⟩ k5 (fun _=>by rw [<- hE.1]; exact hlen) (fun h=>by rw [k4,hb] at h; cases h) (fun _=>rfl)),.agg _ _ hd.1 hd.2⟩
         . cases hc
        | false =>
         rw [hb] at hc;simp only [Bool.false_eq_true,if_false] at hc;obtain⟨v,hv1,hv2⟩:=hE.get hc;exact⟨v,hr _ (part_ok ⟨j,k2,k3⟩ k5 (fun h=>by rw [k4,hb] at h; cases h) (fun _=>hv1) (fun h=>by rw [k4,hb] at h; cases h)),hv2⟩
     . cases h
   . rename_i kk k;split at h
     . rename_i hl;have hl:=eq_of_beq hl;have hkv:vcs=idxVC k (fun _=>(n:Int))->0<=k ()/\k ()<(n:Int):=fun e=>hv _ (by rw [e]; exact .head _);split at h
       . cases hs:selCells k cells n sz (List.range sz) with
         | none=>rw [hs] at h; cases h
         | some out =>
          rw [hs] at h;cases h;have hk:=hkv rfl;have em:(((k ()).toNat:Nat):Int)=k ():=by omega
          have hmn:(k ()).toNat<n:=by omega
          have hlen:(k ()).toNat*sz+sz<=vs.length:=by
           rw [<- hE.1,hl,<- Nat.succ_mul];exact Nat.mul_le_mul_right _ hmn
          have hO:=selCells_ok hE hl em.symm hmn hs fun c hc=>List.mem_range.1 hc;have e3:((List.range sz).map fun c=>vs.getD ((k ()).toNat*sz+c) undef)=(vs.drop ((k ()).toNat*sz)).take sz:=by
           apply List.ext_getElem?;intro q;rw [List.getElem?_map,List.getElem?_take,List.getElem?_drop];rcases Nat.lt_or_ge q sz with hq|hq
           . rw [List.getElem?_range hq,if_pos hq,Option.map_some,List.getElem?_eq_getElem (by omega),List.getD_eq_getElem?_getD,List.getElem?_eq_getElem (by omega)];rfl
           . rw [if_neg (by omega),List.getElem?_eq_none (by simpa using hq)];rfl
          rw [e3] at hO;exact⟨_,hrun kk _ _ (by rw [em]; exact hy.int_) hmn (part_ok ⟨j,k2,k3⟩ k5 (fun _=>hlen) (fun h=>by rw [k4] at h; cases h) (fun _=>rfl)),.agg _ _ hO.1 hO.2⟩
       . split at h
         . rename_i hsz;have hsz:=eq_of_beq hsz;subst hsz
           cases hs:selAV k cells with
           | none=>rw [hs] at h; cases h
           | some out =>
            rw [hs] at h;cases h;have hk:=hkv rfl;have em:(((k ()).toNat:Nat):Int)=k ():=by omega
            have hmn:(k ()).toNat<n:=by omega
            obtain⟨v,q1,q2⟩:=selAV_ok hs hE em.symm (by rw [hl]; omega);exact⟨v,hrun kk _ _ (by rw [em]; exact hy.int_) hmn (part_ok ⟨j,k2,k3⟩ k5 (fun h=>by rw [k4] at h; cases h) (fun _=>by rw [Nat.mul_one]; exact q1) (fun h=>by rw [k4] at h; cases h)),q2⟩
         . cases h
     . cases h
   . cases h
 . rename_i s e1;split at h
   . rename_i kk k ek;cases h;obtain⟨i,_,h1,h2⟩:=tiOf_ hty e1;have hk:=hv _ (.head _);obtain⟨ds,hd,hm⟩:=tyB_desc h2;rw [h1] at hm;cases ds<;>first|(simp [descB] at hm; done)|skip
     have hk1:0<=k ():=hk.1;have hk2:k ()<((s ()).data.size:Int):=hk.2;have hlt:(k ()).toNat<(s ()).data.size:=by omega
     have hb:(s ())[(k ()).toNat]? = some ((s ()).data[(k ()).toNat]'hlt):=getElem?_pos (s ()) (k ()).toNat hlt;refine⟨_,?_,.int .u8 _⟩;unfold execOp;simp only [hx.str_,asInt_ ek hy,Instr.index,asIntOf,underlying,Sem.run_bind,Sem.run_pure,Result.andThen_ok,run_program,hd,hk1,if_true,hb];unfold byteIn;rw [getElem?_pos (s ()).data (k ()).toNat hlt];rfl
   . cases h
 . cases h
end
section
variable {P:Program} {r:Operand->Value} {d:Option Nat} {ty:TypeId} {pos:String} {aft:Array Edge} {gd:Option (Nat×Bool)} {u v:Value} {w:World}
variable {ρ:Nat->Option Rl} {base:Nat} {ro ra:Nat->Prop} {ge:Nat->Option En}
theorem AVR.give {x:AV} {v:Value} (h:AVR w ρ base ro x v) (hx:AV.plain false x=true) (hro:∀ b,ro b->ra b):AVR w (fun _=>none) 0 ra x v :=
 (h.plain (ρ':=fun _=>none) hx fun b _ hb=>hro b hb).mono (fun _ _ _=>rfl) (Ext.refl _) (Nat.zero_le _) fun _ h=>h
mutual
theorem coerce_ok (hge:∀ loc e,ge loc=some e->EnR w ρ base ro loc e) (hro:∀ b,ro b->ra b):∀ (s:Sg) (x y:AV) (v:Value),coerce ge s x=some y->AVR w ρ base ro x v->(AV.plain false x=true\/∀ b,b<w.heap.size->ra b)->AVR w (fun _=>none) 0 ra y v:=by
 intro s x y v h hx hp;unfold coerce at h;split at h
 . split at h<;>cases h
   rename_i hk;subst hk;exact hx.give rfl hro
 . split at h<;>cases h
   rename_i hk;subst hk;rw [hx.lit_];exact .int _ _
 . cases h;exact hx.give rfl hro
 . cases h;rw [hx.blit_];exact .bool _
 . cases h;exact hx.give rfl hro
 . split at h<;>cases h
   exact hx.loose_.give rfl hro
 . cases h;rw [hx.nil_];exact .sl false _ _ none 0 [] rfl (Nat.le_refl _) (Rd.nil _ _ _ _) (fun _ h=>by cases h) (fun h=>by cases h) (fun k cs j x v h=>by simp at h)
 . split at h
   . cases h;exact (wide_take hx).loose_.give rfl hro
   . have h1:=cvW_ok h hx;exact h1.1.give h1.2 hro
 . split at h<;>cases h
   exact hx.loose_.give rfl hro
 . split at h
   . rename_i fr t' T l he;split at h<;>cases h
     obtain⟨A,c,css,hA,hown,hlen,hcell⟩:=hge _ _ he;obtain⟨A',n,c',hA',hv⟩:=hx.own_;rw [hA] at hA';injection hA' with hA';injection hA' with e1 e2 e3;subst e1; subst e2; subst e3;have hall:∀ b,b<w.heap.size->ra b:=by
      rcases hp with hp|hp
      . cases hp
      . exact hp
     rw [hv];refine .sl false t' l A c css hlen (hown.cap.1) hown.rd (fun a ha hn=>hall _ (hown.lt ha).2) (fun h=>by cases h) fun k cs j x v h1 h2 h3 => ?_;rw [cellsAV_loose fr,List.getElem?_map] at h2
     cases hj:(cellsAV fr t' fun _=>(l ()).getD k t'.dflt)[j]? with
     | none=>rw [hj] at h2; cases h2
     | some y =>
      rw [hj] at h2;simp only [Option.map_some,Option.some.injEq] at h2;subst h2;have h4:=(hcell k cs j y v h1 hj h3).loose_;refine h4.give ?_ hro;exact plainL_get (cellsAV_plain0 false t' fun _=>(l ()).getD k t'.dflt) (j:=j) (by rw [cellsAV_loose fr,List.getElem?_map,hj]; rfl)
   . cases h
 . rename_i l cs
   cases hc:coerceL ge l cs with
   | none=>rw [hc] at h; cases h
   | some ys =>
    rw [hc] at h;cases h;obtain⟨vs,rfl,hE⟩:=hx.agg_;have h1:=coerceL_ok hge hro l cs ys vs hc hE (hp.imp (fun h=>by simpa only [AV.plain] using h) id);exact .agg _ _ h1.1 h1.2
 . rename_i l cs
   cases hc:coerceL ge l cs with
   | none=>rw [hc] at h; cases h
   | some ys =>
    rw [hc] at h;cases h;obtain⟨b,o,vs,h1,h2,h3,hE,rfl⟩:=hx.pto_;have h4:=coerceL_ok hge hro l cs ys vs hc hE (hp.imp (fun h=>by simpa [AV.plain] using h) id);exact .pto _ 0 b o vs (hro _ h1) h2 h4.1 h3 h4.2
 . rename_i l loc;split at h
   . rename_i T cs he
     cases hc:coerceL ge l cs with
     | none=>rw [hc] at h; cases h
     | some ys =>
      rw [hc] at h;cases h;obtain⟨b,vs,hb,hh,hE⟩:=hge _ _ he;obtain⟨b',hb',rfl⟩:=hx.ptr_;rw [hb] at hb';injection hb' with hb';injection hb' with hb';subst hb';have hall:∀ b,b<w.heap.size->ra b:=by
       rcases hp with hp|hp
       . cases hp
       . exact hp
      have hlt:=(Array.getElem?_eq_some_iff.1 hh).1;have h4:=coerceL_ok hge hro l cs ys vs hc hE (.inr hall);exact .pto _ 0 b 0 vs (hall _ hlt) hlt h4.1 (heap_cells hh) h4.2
   . cases h
 . rename_i l f cs
   cases hc:coerceL ge l cs with
   | none=>rw [hc] at h; cases h
   | some ys =>
    rw [hc] at h;cases h;obtain⟨vs,rfl,hE⟩:=hx.fn_;have h1:=coerceL_ok hge hro l cs ys vs hc hE (hp.imp (fun h=>by simpa only [AV.plain] using h) id);exact .fn _ _ _ h1.1 h1.2
 . cases h;exact .un _
 . cases h
theorem coerceL_ok (hge:∀ loc e,ge loc=some e->EnR w ρ base ro loc e) (hro:∀ b,ro b->ra b):∀ (ss:List Sg) (xs ys:List AV) (vs:List Value),coerceL ge ss xs=some ys->Each w ρ base ro xs vs->(AV.plainL false xs=true\/∀ b,b<w.heap.size->ra b)->Each w (fun _=>none) 0 ra ys vs:=by
 intro ss xs ys vs h hE hp;unfold coerceL at h;split at h
 . cases h;rw [hE.none];exact .nil
 . rename_i s ss x xs;split at h
   . rename_i y ys' h1 h2;cases h;obtain⟨v,us,rfl,hx,hE'⟩:=hE.head;refine .cons (coerce_ok hge hro s x y v h1 hx (hp.imp (fun h => ?_) id)) (coerceL_ok hge hro ss xs ys' us h2 hE' (hp.imp (fun h => ?_) id))
     . simp only [AV.plainL,Bool.and_eq_true] at h;exact h.1
     . simp only [AV.plainL,Bool.and_eq_true] at h;exact h.2
   . cases h
 . cases h
end
theorem findCon_ok {cs:List Con} {f:FuncId} {c:Con} (hcs:∀ c∈cs,ConOk P c) (h:findCon cs f=some c):ConOk P c/\c.f=f:=by
 induction cs with
 | nil=>cases h
 | cons c' cs ih =>
  unfold findCon at h;split at h
  . rename_i hf;injection h with h;subst h;exact⟨hcs _ (.head _),eq_of_beq hf⟩
  . exact ih (fun c hc=>hcs c (.tail _ hc)) h
theorem ok_callC {F:FuncId} {c:Operand} {xs:Array Operand} {ts:Array TypeId} {vs:List Value} (hf:r c = .func (.func F) #[] vs.toArray) (hcf:∀ args w,(callFunc F args).run P w = .ok (.enter F args) w) :
 (execOp r ⟨d,.call { callee := .value c,args:=xs,argTypes:=ts },ty,pos,aft,gd⟩).run P w = .ok (.enter F (xs.toList.map r++vs).toArray) w:=by
 unfold execOp;simp only [resolve,hf,Deferred.ofValue,Sem.run_bind,Sem.run_pure,Result.andThen_ok,invoke,hcf];congr 2;apply Array.ext';simp
def OpR (P:Program) (r:Operand->Value) (o:Oper) (w:World) (ρ:Nat->Option Rl) (base:Nat) (ro:Nat->Prop) (av:AV):Prop :=
 runsIn P r o w fun v w'=>AVR w' ρ base (fun b=>ro b\/w.heap.size<=b) av v
theorem OpR.of {o:Oper} {av:AV} (h:∃ v,(execOp r o).run P w = .ok (.value v) w/\AVR w ρ base ro av v):OpR P r o w ρ base ro av:=by
 obtain⟨v,h1,h2⟩:=h;exact .inl ⟨v,w,h1,Below.refl _ _,h2.mono (fun _ _ _=>rfl) (Ext.refl _) (Nat.le_refl _) fun _ h => .inl h⟩
theorem ok_lenS {t:Nat} {s:ByteArray} {x:Operand} (hx:r x = .string s) (ht:P.underlying t=some .string):(execOp r ⟨d,.call { callee := .builtin .len,args := #[x],argTypes := #[t] },ty,pos,aft,gd⟩).run P w = .ok (.value (.int .i64 (s.size:Int))) w:=by
 unfold execOp;simp only [resolve,invoke,builtin,Builtin.len_,List.map_toArray,List.map_cons,List.map_nil,hx,underlying,Sem.run_bind,Sem.run_pure,Result.andThen_ok];simp only [ht,List.getElem?_toArray,List.getElem?_cons_zero,Sem.run_bind,Sem.run_pure,Result.andThen_ok,run_program];rfl
theorem lenAV_ok {a av:AV} (hge:∀ loc e,ge loc=some e->EnR w ρ base ro loc e) (hs:∀ s,a ≠ .str s) (h:lenAV ge a=some av) (ha:AVR w ρ base ro a u):∃ A n c,u = .slice A n c/\AVR w ρ base ro av (.int .i64 (n:Int)):=by
 unfold lenAV at h;split at h
 . cases h;exact⟨none,0,0,ha.nil_,.lit _ _⟩
 . cases h;obtain⟨A,c,css,_,_,_,_,_,_,rfl⟩:=ha.sl_;exact⟨A,_,c,rfl,.int _ _⟩
 . cases h;obtain⟨A,c,_,_,rfl⟩:=ha.wide_;exact⟨A,_,c,rfl,.int _ _⟩
 . split at h
   . rename_i loc fr t T l he;cases h;obtain⟨A,c,css,hA,_,_,_⟩:=hge _ _ he;obtain⟨A',n,c',hA',rfl⟩:=ha.own_;rw [hA] at hA';injection hA' with hA';injection hA' with e1 e2 e3;subst e1; subst e2; subst e3;exact⟨A,_,c,rfl,.int _ _⟩
   . cases h
 . rename_i s;exact absurd rfl (hs s)
 . cases h
theorem ok_minmax {x y:Operand} {ts:Array TypeId} {k:IntKind} {m n:Int} (hx:r x = .int k m) (hy:r y = .int k n) :
 (execOp r ⟨d,.call { callee := .builtin .min,args := #[x,y],argTypes:=ts },ty,pos,aft,gd⟩).run P w = .ok (.value (.int k (cond (decide (n<m)) n m))) w/\(execOp r ⟨d,.call { callee := .builtin .max,args := #[x,y],argTypes:=ts },ty,pos,aft,gd⟩).run P w = .ok (.value (.int k (cond (decide (m<n)) n m))) w:=by
 have e:∀ (p:Prop) [Decidable p] (a b:Int),(if p then a else b)=cond (decide p) a b:=fun p _ a b=>by by_cases h:p<;>simp [h]
 constructor
 . unfold execOp;simp only [resolve,invoke,builtin,List.map_toArray,List.map_cons,List.map_nil,hx,hy,Sem.run_bind,run_min_int2,Result.andThen_ok,Sem.run_pure,e]
 . unfold execOp;simp only [resolve,invoke,builtin,List.map_toArray,List.map_cons,List.map_nil,hx,hy,Sem.run_bind,run_max_int2,Result.andThen_ok,Sem.run_pure,e]
theorem pureOp_ok {tb:Tab} {cs:List Con} {g:Operand->AV} {op:Op} {av:AV} {vcs:List VC} (hty:TyOk P tb) (hcs:∀ c∈cs,ConOk P c) (hge:∀ loc e,ge loc=some e->EnR w ρ base ro loc e) (hg:∀ x∈op.operands,AVR w ρ base ro (g x) (r x)) (hroB:∀ b,ro b->b<w.heap.size) (hbase:base<=w.heap.size)
 (h:pureOp tb cs ge g op=some (av,vcs)) (hv:∀ c∈vcs,c ()):OpR P r ⟨d,op,ty,pos,aft,gd⟩ w ρ base ro av:=by
 unfold pureOp at h;split at h
 . cases h;exact .of ⟨_,ok_move rfl,hg _ (by simp [Op.operands])⟩
 . cases h;exact .of ⟨_,ok_assign rfl,hg _ (by simp [Op.operands])⟩
 . rename_i c a b
   cases hp:pickAV (g c) (g a) (g b) with
   | none=>rw [hp] at h; cases h
   | some av' =>
    rw [hp] at h;cases h;exact .of (pickAV_ok hp (hg _ (by simp [Op.operands])) (hg _ (by simp [Op.operands])) (hg _ (by simp [Op.operands])))
 . rename_i x;have hx:=hg x (by simp [Op.operands]);have hp:∀ ad,r x = .pointer (some ad)->(execOp r ⟨d,.nilCheck x,ty,pos,aft,gd⟩).run P w = .ok (.value (.pointer (some ad))) w:=by
    intro ad he;unfold execOp;simp only [he,Sem.run_pure]
   split at h
   . rename_i l o he;cases h;rw [he] at hx;obtain⟨b,_,hr⟩:=hx.ptr_;exact .of ⟨_,hp _ hr,hr▸hx⟩
   . rename_i l o he;cases h;rw [he] at hx;obtain⟨b,o',cs',_,_,_,_,hr⟩:=hx.pto_;exact .of ⟨_,hp _ hr,hr▸hx⟩
   . rename_i t l k o he;cases h;rw [he] at hx;obtain⟨A,n,c,b,_,_,_,_,hr⟩:=hx.orp_;exact .of ⟨_,hp _ hr,hr▸hx⟩
   . cases h
 . rename_i op T x y _;have hx:=hg x (by simp [Op.operands]);have hy:=hg y (by simp [Op.operands]);generalize g x=a at *
   generalize g y=b at *
   by_cases hag:(∃ cs,a = .agg cs)/\∃ ds,b = .agg ds
   . obtain⟨⟨cs,rfl⟩,ds,rfl⟩:=hag;obtain⟨v,h1,h2⟩:=eqlAV_agg (d:=d) (ty:=ty) (pos:=pos) (aft:=aft) (gd:=gd) hty h hx hy;exact .of ⟨v,h1 w,h2⟩
   . have h':binAV (tiOf tb T) op a b=some (av,vcs):=by
      unfold eqlAV at h;split at h
      . exact (hag ⟨⟨_,rfl⟩,_,rfl⟩).elim
      . exact h
     exact .of (binAV_ok hty h' hv hx hy)
 . rename_i t x;have hx:=hg x (by simp [Op.operands]);split at h
   . rename_i b he;cases h;rw [he] at hx;exact .of ⟨_,ok_not hx.blit_ rfl,.blit _⟩
   . rename_i b he;cases h;rw [he] at hx;exact .of ⟨_,ok_not hx.bool_ rfl,.bool _⟩
   . cases h
 . rename_i t x;have hx:=hg x (by simp [Op.operands]);have hn:∀ k n,r x = .int k n->(execOp r ⟨d,.unOp .neg t x,ty,pos,aft,gd⟩).run P w = .ok (.value (.int k (k.wrap (-n)))) w:=by
    intro k n he;unfold execOp;simp only [he,Op.unary,Op.intArith,Sem.run_bind,Sem.run_pure,Result.andThen_ok,Int.zero_sub]
   split at h
   . rename_i k n he;cases h;rw [he] at hx;exact .of ⟨_,hn _ _ hx.lit_,.lit _ _⟩
   . rename_i n he;cases h;rw [he] at hx;refine .of ⟨_,hn _ _ hx.int_,?_⟩;rw [wrap_in64 (hv _ (.head _))];exact .int _ fun _ => -n ()
   . cases h
 . rename_i s t x;have hx:=hg x (by simp [Op.operands]);split at h
   . rename_i k0 k kk n e1 e2 he;cases h;rw [he] at hx;obtain⟨i1,_,h1,h2⟩:=tiOf_ hty e1;obtain⟨i2,_,h3,h4⟩:=tiOf_ hty e2;obtain⟨ds1,hd1,_⟩:=tyB_desc h2;exact .of ⟨_,ok_conv hx.lit_ hd1 (tyB_int h4 h3) rfl rfl,.lit _ _⟩
   . rename_i k0 k kk n e1 e2 he;rw [he] at hx;obtain⟨i1,_,h1,h2⟩:=tiOf_ hty e1;obtain⟨i2,_,h3,h4⟩:=tiOf_ hty e2;obtain⟨ds1,hd1,_⟩:=tyB_desc h2;split at h
     . rename_i hk;subst hk;cases h;exact .of ⟨_,ok_conv hx.int_ hd1 (tyB_int h4 h3) (wrap_in64 (hv _ (.head _))) rfl,.int _ _⟩
     . cases h;exact .of ⟨_,ok_conv hx.int_ hd1 (tyB_int h4 h3) rfl rfl,.int _ fun _=>k.wrap (n ())⟩
   . cases h
 . rename_i T x f;have hx:=hg x (by simp [Op.operands])
   cases hT:alook tb T with
   | none=>rw [hT] at h; cases h
   | some i =>
    rw [hT] at h;simp only [Option.bind_some] at h;split at h
    . rename_i off sz a hf;split at h
      . cases h
      . rename_i hsz
        cases ha:addOff (g x) off with
        | none=>rw [ha] at h; cases h
        | some av' =>
         rw [ha] at h;cases h;obtain⟨b,o,h1,h2⟩:=addOff_ok ha hx;exact .of ⟨_,ok_field h1 (fieldOff_of (hty T i hT) hf (by simpa using hsz)) rfl,h2⟩
    . cases h
 . rename_i T x f;have hx:=hg x (by simp [Op.operands])
   cases hT:alook tb T with
   | none=>rw [hT] at h; cases h
   | some i =>
    rw [hT] at h;simp only [Option.bind_some] at h;split at h
    . rename_i off sz a cells hf hc
      cases hcut:cut a off sz cells with
      | none=>rw [hcut] at h; cases h
      | some av' =>
       rw [hcut] at h;cases h;rw [hc] at hx;exact .of (field_ok (hty T i hT) hf hcut hx)
    . cases h
 . rename_i T x y;have hx:=hg x (by simp [Op.operands]);have hy:=hg y (by simp [Op.operands]);split at h
   . rename_i e sz b fr t l kk k e1 e2 e3;split at h
     . rename_i hs;cases h;rw [e2] at hx;obtain⟨i,_,h1,h2⟩:=tiOf_ hty e1;obtain⟨v,k1,k2⟩:=index_ok (d:=d) (ty:=ty) (pos:=pos) (aft:=aft) (gd:=gd) h2 h1 (eq_of_beq hs) hx (asInt_ e3 hy) (hv _ (.head _));exact .of ⟨v,k1 w,k2⟩
     . cases h
   . rename_i e sz b fr t l n kk k e1 e2 e3;split at h
     . rename_i hs;cases h;rw [e2] at hx;obtain⟨i,_,h1,h2⟩:=tiOf_ hty e1;obtain⟨v,k1,k2⟩:=indexW_ok (d:=d) (ty:=ty) (pos:=pos) (aft:=aft) (gd:=gd) h2 h1 (eq_of_beq hs) hx (asInt_ e3 hy) (hv _ (.head _));exact .of ⟨v,k1 w,k2⟩
     . cases h
   . rename_i e sz b loc kk k e1 e2 e3;split at h
     . rename_i fr t T' l he;split at h
       . rename_i hs;cases h;rw [e2] at hx;obtain⟨i,_,h1,h2⟩:=tiOf_ hty e1;obtain⟨v,k1,k2⟩:=indexO_ok (d:=d) (ty:=ty) (pos:=pos) (aft:=aft) (gd:=gd) hge h2 h1 (eq_of_beq hs) he hx (asInt_ e3 hy) (hv _ (.head _));exact .of ⟨v,k1 w,k2⟩
       . cases h
     . cases h
   . obtain⟨v,k1,k2⟩:=arrAddr_ok (d:=d) (ty:=ty) (pos:=pos) (aft:=aft) (gd:=gd) hty h hx hy;exact .of ⟨v,k1 w,k2⟩
 . rename_i T x i;exact .of (indexAV_ok hty h hv (hg x (by simp [Op.operands])) (hg i (by simp [Op.operands])))
 . rename_i T x i ok;have hx:=hg x (by simp [Op.operands]);have hi:=hg i (by simp [Op.operands]);split at h
   . rename_i kt et c t ag loc e1 e2;split at h
     . rename_i fr ag' c' t' T' m k e3 e4;split at h
       . rename_i hc;obtain⟨rfl,rfl,rfl⟩:=hc;cases h;rw [e2] at hx;obtain⟨ti,_,h1,h2⟩:=tiOf_ hty e1;exact .of (lookup_ok h2 h1 (hge _ _ e3) hx (keyAV_ok e4 hi))
       . cases h
     . cases h
   . cases h
 . rename_i x;have hx:=hg x (by simp [Op.operands]);split at h
   . rename_i ml l2 e1;split at h
     . rename_i fr ag c t T m ml' c' seen left e2 e3;split at h
       . rename_i hc;obtain⟨rfl,rfl⟩:=hc;cases h;rw [e1] at hx;exact .of (entry_ok (hge _ _ e2) (hge _ _ e3) hx (hv _ (.head _)))
       . cases h
     . cases h
   . cases h
 . rename_i T x hi;have hx:=hg x (by simp [Op.operands]);have hhi:=hg hi (by simp [Op.operands]);split at h
   . rename_i e sz b fr t l e1 e2;split at h
     . rename_i hs;split at h
       . rename_i kk bb eb;cases h;rw [e2] at hx;obtain⟨i,hT,h1,h2⟩:=tiOf_ hty e1;obtain⟨A,c,css,_,_,_,_,_,_,hrx⟩:=hx.sl_;rw [hrx] at hx;exact .of (sliceH_ok hty hT h1 (eq_of_beq hs) hrx hx (asInt_ eb hhi) (hv _ (.head _)))
       . cases h
     . cases h
   . rename_i e sz b fr t l n e1 e2;split at h
     . rename_i hs;split at h
       . rename_i kk bb eb;cases h;rw [e2] at hx;obtain⟨i,hT,h1,h2⟩:=tiOf_ hty e1;obtain⟨A,c,_,hl,hrx⟩:=hx.wide_;exact .of (sliceH_ok hty hT h1 (eq_of_beq hs) hrx hl (asInt_ eb hhi) (hv _ (.head _)))
       . cases h
     . cases h
   . cases h
 . rename_i T x lo hi hno;have hx:=hg x (by simp [Op.operands]);split at h
   . rename_i e sz b fr t l e1 e2;split at h
     . rename_i hs;split at h
       . rename_i fa fb ha hb;cases h;rw [e2] at hx;obtain⟨i,hT,h1,h2⟩:=tiOf_ hty e1;exact .of (sliceOp_ok hty hT h1 (eq_of_beq hs) hx ha hb (fun y hy=>hg y (by subst hy; simp [Op.operands])) (fun y hy=>hg y (by subst hy; simp [Op.operands])) (hv _ (.head _)))
       . cases h
     . cases h
   . cases h
 . rename_i x i;have hx:=hg x (by simp [Op.operands]);split at h
   . rename_i l he
     cases hl:l[i]? with
     | none=>rw [hl] at h; cases h
     | some av' =>
      rw [hl] at h;cases h;rw [he] at hx;obtain⟨vs,h1,hE⟩:=hx.tup_;obtain⟨v,h2,h3⟩:=hE.get hl;exact .of ⟨v,ok_extract h1 (by simpa using h2),h3⟩
   . cases h
 . rename_i f first caps
   split at h
   . rename_i hf;cases h;have hf':first = #[]:=by simpa using hf
     subst hf';have hE:Each w ρ base ro (caps.toList.map g) (caps.toList.map r):=each_map fun x hx=>hg x (by simpa [Op.operands] using hx);refine .of ⟨.func (.func f) #[] (caps.toList.map r).toArray,?_,.fn _ _ _ hE.1 hE.2⟩;unfold execOp;simp only [Instr.makeFunc,Sem.run_bind,Sem.run_pure,Result.andThen_ok];rw [show caps.map r=(caps.toList.map r).toArray by apply Array.ext'; simp,show (#[]:Array Operand).map r = #[] by simp]
   . cases h
 . rename_i T x;have hx:=hg x (by simp [Op.operands]);split at h
   . rename_i i hT
     cases hl:loadAV ge i.ti.agg i.sz (g x) with
     | none=>rw [hl] at h; cases h
     | some av' =>
      rw [hl] at h;cases h;obtain⟨ad,v,h1,h2,h3⟩:=load_ok hge (hty T i hT) hl hx;exact .of ⟨v,ok_load h1 h2,h3⟩
   . cases h
 . rename_i T parts;have hp:∀ p∈parts.toList,AVR w ρ base ro (g p.2) (r p.2):=fun p hp=>hg _ (by simp only [Op.operands]; simpa using ⟨p.1,by simpa using hp⟩);split at h
   . rename_i i hT;split at h
     . rename_i fs hti;split at h
       . cases h
       . rename_i hz
         cases hf:fillAV (fun k=>(fs[k]?).map fun f=>(f.1,f.2.1)) i.z (parts.toList.map fun p=>(p.1,g p.2)) with
         | none=>rw [hf] at h; cases h
         | some out =>
          rw [hf] at h;cases h;exact .of (build_ok (hty T i hT) hp (by simpa using hz) (.inl ⟨fs,hti,rfl⟩) hf rfl)
     . rename_i n e esz a hti;split at h
       . cases h
       . rename_i hz
         cases hf:fillAV (fun k=>some (k*esz,esz)) i.z (parts.toList.map fun p=>(p.1,g p.2)) with
         | none=>rw [hf] at h; cases h
         | some out =>
          rw [hf] at h;cases h;exact .of (build_ok (hty T i hT) hp (by simpa using hz) (.inr ⟨n,e,esz,a,hti,rfl⟩) hf rfl)
     . cases h
   . cases h
 . rename_i c;obtain⟨callee,cargs,cts⟩:=c;dsimp only at h;split at h
   . split at h
     . rename_i x y e1;have ha:cargs = #[x,y]:=by simpa using congrArg List.toArray e1
       subst ha;have hx:=hg x (by simp [Op.operands,Call.operands]);have hy:=hg y (by simp [Op.operands,Call.operands]);split at h
       . rename_i k fa k' fb e2 e3;split at h
         . rename_i hk;subst hk;cases h;exact .of ⟨_,(ok_minmax (asInt_ e2 hx) (asInt_ e3 hy)).1,.int k fun _=>cond (decide (fb ()<fa ())) (fb ()) (fa ())⟩
         . cases h
       . cases h
     . cases h
   . split at h
     . rename_i x y e1;have ha:cargs = #[x,y]:=by simpa using congrArg List.toArray e1
       subst ha;have hx:=hg x (by simp [Op.operands,Call.operands]);have hy:=hg y (by simp [Op.operands,Call.operands]);split at h
       . rename_i k fa k' fb e2 e3;split at h
         . rename_i hk;subst hk;cases h;exact .of ⟨_,(ok_minmax (asInt_ e2 hx) (asInt_ e3 hy)).2,.int k fun _=>cond (decide (fa ()<fb ())) (fb ()) (fa ())⟩
         . cases h
       . cases h
     . cases h
   . split at h
     . rename_i x T e1 e2;have ha:cargs = #[x]:=by simpa using congrArg List.toArray e1
       have ht:cts = #[T]:=by simpa using congrArg List.toArray e2
       subst ha; subst ht;have hx:=hg x (by simp [Op.operands,Call.operands]);split at h
       . cases h
       . rename_i e sz b y e3 hy
         cases hl:lenAV ge (g x) with
         | none=>rw [hl] at h; cases h
         | some av' =>
          rw [hl] at h;cases h;obtain⟨i,_,h1,h2⟩:=tiOf_ hty e3;obtain⟨A,n,c,h3,h4⟩:=lenAV_ok hge (fun s hs=>by first|exact hy s hs|exact hy _ _ _ s rfl hs|simp_all) hl hx;exact .of ⟨_,ok_len h3 (elemOf_spec (elemOf_of h2 h1)).1 rfl,h4⟩
       . rename_i s e3 he;cases h;rw [he] at hx;obtain⟨i,_,h1,h2⟩:=tiOf_ hty e3;exact .of ⟨_,ok_lenS hx.str_ (tyB_str h2 h1),.int _ fun _=>((s ()).size:Int)⟩
       . cases h
     . cases h
   . rename_i fo;split at h
     . rename_i f caps hfo;split at h
       . rename_i con hcon;split at h
         . rename_i avs havs;split at h
           . rename_i res hres;split at h
             . rename_i hcond;cases h;obtain⟨hok,rfl⟩:=findCon_ok hcs hcon;have hx:=hg fo (by simp [Op.operands,Call.operands]);rw [hfo] at hx;obtain⟨vs,hvs,hE⟩:=hx.fn_;have hA:Each w ρ base ro (cargs.toList.map g++caps) (cargs.toList.map r++vs):=(each_map fun x hx=>hg x (by simp only [Op.operands,Call.operands]; simpa using .inr (by simpa using hx))).append hE;have hpre:=hv _ (.head _)
               cases hfr:AV.plain true res.av with
               | true =>
                have h1:=hok.2 avs res hres w (fun b=>b<w.heap.size) _ (fun _ h=>h) (coerceL_ok hge hroB _ _ _ _ havs hA (.inr fun _ h=>h)) hpre;refine .inr ⟨_,_,ok_callC hvs hok.1,h1.mono fun e w' ⟨v,h2,h3,h4⟩=>⟨v,h2,h3,?_⟩⟩;exact (h4.plain (ρ' := ρ) (ro':=fun b=>ro b\/w.heap.size<=b) hfr fun b h5 _ => .inr (h5 rfl)).mono (fun _ _ _=>rfl) (Ext.refl _) hbase fun _ h=>h
               | false =>
                rw [hfr,Bool.false_or,Bool.and_eq_true] at hcond;have h1:=hok.2 avs res hres w ro _ hroB (coerceL_ok hge (fun _ h=>h) _ _ _ _ havs hA (.inl hcond.1)) hpre;refine .inr ⟨_,_,ok_callC hvs hok.1,h1.mono fun e w' ⟨v,h2,h3,h4⟩=>⟨v,h2,h3,?_⟩⟩;exact (h4.plain (ρ' := ρ) (ro':=fun b=>ro b\/w.heap.size<=b) hcond.2 fun b _ h5=>h5).mono (fun _ _ _=>rfl) (Ext.refl _) hbase fun _ h=>h
             . cases h
           . cases h
         . cases h
       . cases h
     . cases h
   . cases h
 . cases h
end
end Go.Proofs.YthfpdbjemfhieaaGreat
