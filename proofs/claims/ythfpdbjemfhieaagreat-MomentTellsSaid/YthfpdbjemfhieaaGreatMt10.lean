/-
  The abstract run: operations on maps of the run's own are sound.
-/
import Derived.Test.YthfpdbjemfhieaaGreatMt9
import Derived.WideKeyEntry
set_option linter.unusedVariables false
set_option linter.unusedSimpArgs false
namespace Go.Proofs.YthfpdbjemfhieaaGreat
open Go.MapKept Go.RowKit
open Go.ChangeMaps (setBlock)
theorem entries_ne {l:List MapEntry} (h:l.Pairwise fun x y=>x.key≠y.key) {i j:Nat} {x y:MapEntry} (hi:l[i]? = some x) (hj:l[j]? = some y) (hne:i≠j):x.key≠y.key:=by
 obtain⟨li,rfl⟩:=List.getElem?_eq_some_iff.1 hi;obtain⟨lj,rfl⟩:=List.getElem?_eq_some_iff.1 hj;rcases Nat.lt_or_gt_of_ne hne with h1|h1
 . exact List.pairwise_iff_getElem.1 h i j li lj h1
 . exact fun e=>List.pairwise_iff_getElem.1 h j i lj li h1 e.symm
section
variable {P:Program} {w w' w0:World} {ρ ρ':Nat->Option Rl} {base:Nat} {ro ro':Nat->Prop} {S0:Pm} {N:Nat} {B:Bs} {S:Sx} {a:Act} {fr ag:Bool} {c:Kc} {t:Tc}
theorem setM_self {α:Type} (m:List Kx->Option α) (k:List Kx) (x : α):setM m k x k=some x:=by unfold setM; rw [if_pos rfl]
theorem setM_other {α:Type} (m:List Kx->Option α) {k k':List Kx} (x : α) (h:k'≠k):setM m k x k'=m k':=by unfold setM; rw [if_neg h]
theorem MapR.push {m:List Kx->Option t.el} {es:Array MapEntry} {key:List Kx} {kv val:Value} {born:Nat} {x:t.el} (h:MapR w ρ base ro fr ag c t m es) (hn:∀ e∈es.toList,¬ keyIs c e.key key) (hk:keyIs c kv key) (hv:AVR w ρ base ro (elAV ag fr t fun _=>x) val):MapR w ρ base ro fr ag c t (setM m key x) (es.push { key:=kv,val:=val,born:=born }):=by
 refine⟨fun e he => ?_,fun key' x' hf hm => ?_⟩
 . simp only [Array.toList_push,List.mem_append,List.mem_singleton] at he;rcases he with he|rfl
   . obtain⟨key',x',h1,h2,h3⟩:=h.1 e he;refine⟨key',x',h1,?_,h3⟩;rw [setM_other _ _ (fun e1=>by subst e1; exact hn e he h1)];exact h2
   . exact⟨key,x,hk,setM_self _ _ _,hv⟩
 . by_cases e1:key'=key
   . subst e1;exact⟨⟨kv,val,born⟩,by simp,hk⟩
   . rw [setM_other _ _ e1] at hm;obtain⟨e,he,h1⟩:=h.2 key' x' hf hm;exact⟨e,by simp only [Array.toList_push,List.mem_append]; exact .inl he,h1⟩
theorem MapR.modify {m:List Kx->Option t.el} {es:Array MapEntry} {clock:Nat} {key:List Kx} {j:Nat} {e:MapEntry} {f:MapEntry->MapEntry} {x:t.el} (h:MapR w ρ base ro fr ag c t m es) (hs:Stamped es clock) (hj:es[j]? = some e) (hk:keyIs c e.key key) (hfk:(f e).key=e.key) (hv:AVR w ρ base ro (elAV ag fr t fun _=>x) (f e).val):MapR w ρ base ro fr ag c t (setM m key x) (es.modify j f):=by
 have hj':es.toList[j]? = some e:=by simpa using hj
 have hl:(es.modify j f).toList=es.toList.set j (f e):=by rw [Array.toList_modify,ChangeMaps.modify_eq_set _ _ _ _ hj']
 have hst:=((stamped_iff es clock).1 hs).2.2;have hjl:=(List.getElem?_eq_some_iff.1 hj').1;have hoth:∀ i e',es.toList[i]? = some e'->i≠j->∀ key',keyIs c e'.key key'->key'≠key:=by
  intro i e' hi hne key' hk' e1;subst e1;exact entries_ne hst hi hj' hne (hk'.1.trans hk.1.symm)
 refine⟨fun e' he => ?_,fun key' x' hf hm => ?_⟩
 . rw [hl] at he;obtain⟨i,hi⟩:=List.mem_iff_getElem?.1 he;rw [List.getElem?_set] at hi;split at hi
   . rename_i e1;subst e1
     first|rw [if_pos hjl] at hi|skip
     injection hi with hi;subst hi;exact⟨key,x,by rw [hfk]; exact hk,setM_self _ _ _,hv⟩
   . rename_i hne;obtain⟨key',x',h1,h2,h3⟩:=h.1 e' (List.mem_of_getElem? hi);refine⟨key',x',h1,?_,h3⟩;rw [setM_other _ _ (hoth i e' hi (fun e1=>hne e1.symm) key' h1)];exact h2
 . rw [hl];by_cases e1:key'=key
   . subst e1;exact⟨f e,List.mem_iff_getElem?.2 ⟨j,by rw [List.getElem?_set,if_pos rfl,if_pos hjl]⟩,by rw [hfk]; exact hk⟩
   . rw [setM_other _ _ e1] at hm;obtain⟨e',he,h1⟩:=h.2 key' x' hf hm;obtain⟨i,hi⟩:=List.mem_iff_getElem?.1 he;have hne:j≠i:=fun e2=>by
      subst e2;rw [hj'] at hi;injection hi with hi;subst hi;exact e1 (keyIs_inj h1 hk)
     exact⟨e',List.mem_iff_getElem?.2 ⟨i,by rw [List.getElem?_set,if_neg hne]; exact hi⟩,h1⟩
theorem setBlock_size (w:World) (b:Nat) (o:Obj):(setBlock w b o).heap.size=w.heap.size:=by
 unfold setBlock;simp
theorem setBlock_other (w:World) (b:Nat) (o:Obj) {k:Nat} (h:k≠b):(setBlock w b o).heap[k]? = w.heap[k]? := by
 unfold setBlock;exact Array.getElem?_setIfInBounds_ne (fun e=>h e.symm)
theorem setBlock_self {w:World} {b:Nat} {o o':Obj} (h:w.heap[b]? = some o'):(setBlock w b o).heap[b]? = some o:=by
 have:=(Array.getElem?_eq_some_iff.1 h).1;unfold setBlock;simp [this]
theorem setBlock_grown (w:World) (b:Nat) (o:Obj):w.grownBy (setBlock w b o) (some b) :=
 ⟨rfl,rfl,rfl,by rw [setBlock_size]; exact Nat.le_refl _,fun k _ hk=>setBlock_other w b o fun e=>hk (by rw [e])⟩
theorem SimR.lt (H:SimR w0 S0 N B S a w ρ ro) {loc:Nat} {r:Rl} (h : ρ loc=some r):loc<S.n:=by
 rcases Nat.lt_or_ge loc S.n with h1|h1
 . exact h1
 . have:=H.fresh loc h1; rw [h] at this; cases this
theorem SimR.mapSet (H:SimR w0 S0 N B S a w ρ ro) {loc b clock' T:Nat} {es':Array MapEntry} {o:Obj} {m:Unit->List Kx->Option t.el} (hb : ρ loc=some (.mp b)) (hh:w.heap[b]? = some o) (hB:alook B.e loc=none) (hr:noRef loc B.e=true) (hs:Stamped es' clock') (hm:MapR w ρ w0.heap.size ro fr ag c t (m ()) es') :
 SimR w0 S0 N B ⟨S.t,(loc,.map fr ag c t T m)::dropRef loc S.e,S.n⟩ a (setBlock w b (.map es' clock')) ρ ro:=by
 obtain⟨HD,hd⟩:=H.dropped (loc:=loc) hr;have hnro:=(H.own loc _ b hb rfl).2.1;have hw:∀ b',ro b'->b'<w.heap.size->(setBlock w b (.map es' clock')).heap[b']? = w.heap[b']? := fun b' hb' _=>setBlock_other _ _ _ fun e=>hnro (e▸hb');have H2:=HD.upd (w':=setBlock w b (.map es' clock')) (loc:=loc) (n:=S.n) (r := .mp b) (e := .map fr ag c t T m) (H.from_.grown (setBlock_grown _ _ _) (H.mine hb rfl)) (by rw [setBlock_size]; exact Nat.le_refl _) (fun b' _ hne=>setBlock_other _ _ _ fun e=>hne _ hb (by rw [e]; rfl)) (fun b' hb' => .inl ⟨_,hb,hb'⟩) hB (Nat.le_refl _) (H.lt hb) (.inl (by rw [updR_same hb]; exact Ext.refl _)) (.inr hd) (by
  refine⟨b,es',clock',updR_self _ _ _,setBlock_self hh,hs,?_⟩;rw [updR_same hb];exact hm.map_ fun x v hx=>hx.mono hw (Ext.refl _) (Nat.le_refl _) fun _ h=>h)
 rw [updR_same hb] at H2;exact H2
theorem makeMap_ok (H:Sim w0 S0 N B S a w) {T d:Nat} {S':Sx} {ty:TypeId} {pos:String} {aft:Array Edge} {gd:Option (Nat×Bool)} (hB:alook B.e S.n=none) (hp:putT B ⟨S.t,(S.n,.map true ag c t T fun _ _=>none)::S.e,S.n+1⟩ N d (.mp S.n)=some S') :
 OpM P ⟨some d,.makeMap T none,ty,pos,aft,gd⟩ a w (Sim w0 S0 N B S'):=by
 obtain⟨ρ,ro,H⟩:=H;have hnone:=H.fresh S.n (Nat.le_refl _);have hkeep:∀ b,b<w.heap.size->(w.alloc (.map #[] 0)).heap[b]? = w.heap[b]? := fun b hb=>Below.heap_alloc w _ b hb;have H2:=H.upd (w':=w.alloc (.map #[] 0)) (loc:=S.n) (n:=S.n+1) (r := .mp w.heap.size) (e := .map true ag c t T fun _ _=>none) (H.from_.alloc _) (by simp) (fun b hb _=>hkeep b hb) (fun b hb=>by
  injection hb with hb;subst hb;exact .inr ⟨Nat.le_refl _,by simp⟩) hB (Nat.le_succ _) (Nat.lt_succ_self _) (.inl (ext_new hnone)) (.inl fun b hb=>by rw [hnone] at hb; cases hb) ⟨w.heap.size,#[],0,updR_self _ _ _,heap_alloc_new w _,stamped_empty 0,fun e he=>by simp at he,fun key x _ hm=>by cases hm⟩
 refine .inl ⟨.map (some w.heap.size),_,?_,_,_,H2.put hp (.mp _ _ (updR_self _ _ _))⟩;unfold execOp;simp only [Instr.makeMap,Sem.run_bind,Sem.run_pure];rfl
theorem elOfA_ok {x:AV} {v:Value} {f:Bool} {e:Unit->t.el} (h:elOfA ag t x=some (f,e)) (hx:AVR w ρ base ro x v):AVR w ρ base ro (elAV ag f t e) v:=by
 unfold elOfA at h;split at h
 . rename_i hc;simp only [Bool.and_eq_true,Bool.or_eq_true,beq_iff_eq] at hc;obtain⟨vs,h1,h2,h3⟩:=elOf_ok h hx;unfold elAV
   cases ag with
   | true =>
    simp only [if_true];have hag:∃ l,x = .agg l:=by
     have:=hc.2;cases x<;>first|exact⟨_,rfl⟩|simp [agOk] at this
    obtain⟨l,rfl⟩:=hag;obtain⟨us,rfl,_⟩:=hx.agg_;have e1:us=vs:=List.toArray_inj h1;subst e1;exact .agg _ _ h3.1 h3.2
   | false =>
    simp only [Bool.false_eq_true,if_false];have hna:∀ l,x ≠ .agg l:=fun l e1=>by subst e1; simp [agOk] at hc
    have hnu:x ≠ .un:=fun e1=>by subst e1; simp [elOf,cellsOf] at h
    have hc1:=cells_one hx hna hnu;rw [hc1] at h1;have h1':([v]:List Value).toArray=vs.toArray:=h1;have e1:=List.toArray_inj h1';subst e1;have hl:=h3.1
    cases hcl:cellsAV f t e with
    | nil=>rw [hcl] at hl; cases hl
    | cons y l =>
     rw [hcl] at hl h3
     cases l with
     | cons y2 l=>simp at hl
     | nil=>exact h3.2 0 y v rfl rfl
 . cases h
theorem MapR.less {fr':Bool} {m:List Kx->Option t.el} {es:Array MapEntry} (h:MapR w ρ base ro fr ag c t m es) (hf:fr'=true->fr=true):MapR w ρ base ro fr' ag c t m es :=
 ⟨fun e he=>by obtain⟨key,x,h1,h2,h3⟩:=h.1 e he; exact⟨key,x,h1,h2,elAV_less h3 hf⟩,h.2⟩
theorem mapUpdate_ok {C:Cx} (hty:TyOk P C.ty) (H:Sim w0 S0 N B S a w) {T T' kt et loc:Nat} {f:Bool} {x i v:Operand} {m:Unit->List Kx->Option t.el} {k:Unit->List Kx} {e:Unit->t.el} {ty:TypeId} {pos:String} {aft:Array Edge} {gd:Option (Nat×Bool)} (hT:tiOf C.ty T=some (.map kt et c t ag)) (hx:getO B S x = .mp loc) (he:lookE B S loc=some (.map fr ag c t T' m)) (hk:keyAV c (getO B S i)=some k) (hel:elOfA ag t (getO B S v)=some (f,e)) (hB:alook B.e loc=none) (hr:noRef loc B.e=true) :
 OpM P ⟨none,.mapUpdate T x i v,ty,pos,aft,gd⟩ a w (Sim w0 S0 N B ⟨S.t,(loc,.map (fr&&f) ag c t T' fun _=>setM (m ()) (k ()) (e ()))::dropRef loc S.e,S.n⟩):=by
 obtain⟨ρ,ro,H⟩:=H;obtain⟨ti,_,hi,htb⟩:=tiOf_ hty hT;obtain⟨hu,hkc,_,_⟩:=tyB_map (w:=w) (ρ := ρ) (base:=w0.heap.size) (ro:=ro) htb hi;have hax:=H.get x;rw [hx] at hax;obtain⟨b,hb,hxe⟩:=hax.mp_;obtain⟨b',es,clock,hb',hh,hst,hm⟩:=H.en _ _ he;rw [hb] at hb';injection hb' with hb';injection hb' with hb';subst hb';have hkey:=keyAV_ok hk (H.get i);have hval:=elAV_less (fr':=fr&&f) (elOfA_ok hel (H.get v)) (by simp only [Bool.and_eq_true]; exact fun h=>h.2);have hm':=hm.less (fr':=fr&&f) (by simp only [Bool.and_eq_true]; exact fun h=>h.1);have hrun:∀ w2,(Instr.mapUpdate T (.map (some b)) (a.eval i) (a.eval v)).run P w = .ok () w2->(execOp a.eval ⟨none,.mapUpdate T x i v,ty,pos,aft,gd⟩).run P w = .ok .skip w2:=by
  intro w2 h;unfold execOp;simp only [hxe,Sem.run_bind,h,Result.andThen_ok,Sem.run_pure]
 rcases hm.find (P:=P) hkc hkey with ⟨h1,h2,h3⟩|⟨j,e0,x0,h1,h2,h3,h4,h5⟩
 . refine .inr (.inl ⟨_,hrun (setBlock w b (.map (es.push ⟨a.eval i,a.eval v,clock⟩) (clock+1))) ?_,ρ,ro,?_⟩)
   . have hck:=key_check (P:=P) (w:=w) hkc hkey.2 false;rw [<- hkey.1] at hck;simp only [Instr.mapUpdate,Sem.run_bind,run_underlying hu,Result.andThen_ok,MapKept.run_getObj_map hh,hck,h1,MapKept.run_setObj_map _ hh];rfl
   . exact H.mapSet hb hh hB hr (stamped_push hst fun y hy e1=>h3 y hy (e1▸hkey)) (hm'.push h3 hkey hval)
 . have he0:e0.key=a.eval i:=h3.1.trans hkey.1.symm;refine .inr (.inl ⟨_,hrun (setBlock w b (.map (es.modify j fun e' => { e' with key:=a.eval i,val:=a.eval v }) clock)) ?_,ρ,ro,?_⟩)
   . have hck:=key_check (P:=P) (w:=w) hkc hkey.2 false;have hks:=key_stays (P:=P) (w:=w) hkey.2;rw [<- hkey.1] at hck hks;simp only [Instr.mapUpdate,Sem.run_bind,run_underlying hu,Result.andThen_ok,MapKept.run_getObj_map hh,hck,h1,h2,Option.map_some,Option.getD_some,he0,hks,MapKept.run_setObj_map _ hh];rfl
   . exact H.mapSet hb hh hB hr (stamped_modify hst _ _ (fun _ _=>rfl) fun e' _ h6=>by rw [h2] at h6; injection h6 with h6; subst h6; exact he0.symm) (hm'.modify hst h2 h3 he0.symm hval)
theorem putT_as {S':Sx} {d:Nat} {x:AV} (h:putT B S N d x=some S'):S'=⟨(d,x)::S.t,S.e,S.n⟩:=by
 unfold putT at h;split at h
 . cases h
 . cases h; rfl
theorem putT_move {S':Sx} {d n:Nat} {x:AV} {e:List (Nat×En)} (h:putT B S N d x=some S'):putT B ⟨S.t,e,n⟩ N d x=some ⟨(d,x)::S.t,e,n⟩:=by
 unfold putT at h ⊢;split at h
 . cases h
 . rename_i hc;simp only [hc,Bool.false_eq_true,if_false]
theorem mapEntry_ok {C:Cx} (hty:TyOk P C.ty) (H:Sim w0 S0 N B S a w) {T T' kt et loc d:Nat} {x i:Operand} {m:Unit->List Kx->Option t.el} {k:Unit->List Kx} {S':Sx} {ty:TypeId} {pos:String} {aft:Array Edge} {gd:Option (Nat×Bool)} (hT:tiOf C.ty T=some (.map kt et c t ag)) (hx:getO B S x = .mp loc) (he:lookE B S loc=some (.map fr ag c t T' m)) (hk:keyAV c (getO B S i)=some k) (hB:alook B.e loc=none) (hr:noRef loc B.e=true) (hBn:alook B.e S.n=none)
 (hp:putT B ⟨S.t,(S.n,.stamp loc c k)::(loc,.map fr ag c t T' fun _=>setM (m ()) (k ()) ((m () (k ())).getD t.dflt))::dropRef loc S.e,S.n+1⟩ N d (.tup [elAV ag fr t fun _=>(m () (k ())).getD t.dflt,.stamp S.n])=some S') :
 OpM P ⟨some d,.mapEntry T x i,ty,pos,aft,gd⟩ a w (Sim w0 S0 N B S'):=by
 obtain⟨ρ,ro,H⟩:=H;obtain⟨ti,_,hi,htb⟩:=tiOf_ hty hT;obtain⟨hu,hkc,_,jt,z,hj,hz,hzr⟩:=tyB_map (w:=w) (ρ := ρ) (base:=w0.heap.size) (ro:=ro) htb hi;have hax:=H.get x;rw [hx] at hax;obtain⟨b,hb,hxe⟩:=hax.mp_;obtain⟨b',es,clock,hb',hh,hst,hm⟩:=H.en _ _ he;rw [hb] at hb';injection hb' with hb';injection hb' with hb';subst hb';have hkey:=keyAV_ok hk (H.get i);have hfin:∀ (es':Array MapEntry) (clock' s:Nat) (u:Value),(Instr.mapEntry T (.map (some b)) (a.eval i)).run P w = .ok (.tuple #[u,goInt s]) (setBlock w b (.map es' clock'))->AVR w ρ w0.heap.size ro (elAV ag fr t fun _=>(m () (k ())).getD t.dflt) u->Stamped es' clock'->MapR w ρ w0.heap.size ro fr ag c t (setM (m ()) (k ()) ((m () (k ())).getD t.dflt)) es'->(∃ e∈es'.toList,keyIs c e.key (k ())/\e.born=s)->OpM P ⟨some d,.mapEntry T x i,ty,pos,aft,gd⟩ a w (Sim w0 S0 N B S'):=by
  intro es' clock' s u hrun hu' hs' hm' hes;have H1:=H.mapSet (T:=T') (m:=fun _=>setM (m ()) (k ()) ((m () (k ())).getD t.dflt)) hb hh hB hr hs' hm';have hnone:=H1.fresh S.n (Nat.le_refl _);obtain⟨e,he1,he2,he3⟩:=hes;have H2:=H1.upd (w':=setBlock w b (.map es' clock')) (loc:=S.n) (n:=S.n+1) (r := .stamp s) (e := .stamp loc c k) H1.from_ (Nat.le_refl _) (fun _ _ _=>rfl) (fun b hb=>by cases hb) hBn (Nat.le_succ _) (Nat.lt_succ_self _) (.inl (ext_new hnone)) (.inl fun b hb=>by rw [hnone] at hb; cases hb) ⟨b,es',clock',s,e,updR_self _ _ _,ext_new hnone _ _ hb,setBlock_self hh,he1,he2,he3⟩;have hnro:=(H.own loc _ b hb rfl).2.1;have hu2:AVR (setBlock w b (.map es' clock')) (updR ρ S.n (.stamp s)) w0.heap.size ro (elAV ag fr t fun _=>(m () (k ())).getD t.dflt) u:=hu'.mono (fun b' hb' _=>setBlock_other _ _ _ fun e=>hnro (e▸hb')) (ext_new hnone) (Nat.le_refl _) fun _ h=>h;have hE:Each (setBlock w b (.map es' clock')) (updR ρ S.n (.stamp s)) w0.heap.size ro [elAV ag fr t fun _=>(m () (k ())).getD t.dflt,.stamp S.n] [u,goInt s] := .cons hu2 (.cons (.stamp _ _ (updR_self _ _ _)) .nil);refine .inl ⟨.tuple #[u,goInt s],_,?_,_,_,H2.put hp (.tup _ _ hE.1 hE.2)⟩;unfold execOp;simp only [hxe,Sem.run_bind,hrun,Result.andThen_ok,Sem.run_pure]
 have hck:=key_check (P:=P) (w:=w) hkc hkey.2 false;have hks:=key_stays (P:=P) (w:=w) hkey.2;rw [<- hkey.1] at hck hks;rcases hm.find (P:=P) hkc hkey with ⟨h1,h2,h3⟩|⟨j,e0,x0,h1,h2,h3,h4,h5⟩
 . have hd:(m () (k ())).getD t.dflt=t.dflt:=by rw [h2]; rfl
   have hz2:AVR w ρ w0.heap.size ro (elAV ag fr t fun _=>t.dflt) z:=elAV_less hzr fun _=>rfl;refine hfin (es.push ⟨a.eval i,z,clock⟩) (clock+1) clock z ?_ (by rw [hd]; exact hz2) (stamped_push hst fun y hy e1=>h3 y hy (e1▸hkey)) (by rw [hd]; exact hm.push h3 hkey hz2) ⟨⟨a.eval i,z,clock⟩,by simp,hkey,rfl⟩;simp only [Instr.mapEntry,Sem.run_bind,run_underlying hu,Result.andThen_ok,MapKept.run_getObj_map hh,hck,h1,run_zero hj hz,MapKept.run_setObj_map _ hh,Sem.run_pure];rfl
 . have hd:(m () (k ())).getD t.dflt=x0:=by rw [h4]; rfl
   have he0:e0.key=a.eval i:=h3.1.trans hkey.1.symm;have hj':es.toList[j]? = some e0:=by simpa using h2
   have hjl:=(List.getElem?_eq_some_iff.1 hj').1;refine hfin (es.modify j fun e' => { e' with key:=a.eval i }) clock e0.born e0.val ?_ (by rw [hd]; exact h5) (stamped_modify hst _ _ (fun _ _=>rfl) fun e' _ h6=>by rw [h2] at h6; injection h6 with h6; subst h6; exact he0.symm) (by rw [hd]; exact hm.modify hst h2 h3 he0.symm h5) ⟨{ e0 with key:=a.eval i },?_,hkey,rfl⟩
   . simp only [Instr.mapEntry,Sem.run_bind,run_underlying hu,Result.andThen_ok,MapKept.run_getObj_map hh,hck,h1,h2,Option.map_some,Option.getD_some,he0,hks,MapKept.run_setObj_map _ hh,Sem.run_pure];rfl
   . rw [Array.toList_modify,ChangeMaps.modify_eq_set _ _ _ _ hj'];exact List.mem_iff_getElem?.2 ⟨j,by rw [List.getElem?_set,if_pos rfl,if_pos hjl]⟩
theorem entryStore_ok (H:Sim w0 S0 N B S a w) {T T' loc l2:Nat} {f:Bool} {x s v:Operand} {m:Unit->List Kx->Option t.el} {k:Unit->List Kx} {e:Unit->t.el} {ty:TypeId} {pos:String} {aft:Array Edge} {gd:Option (Nat×Bool)} (hx:getO B S x = .mp loc) (hs:getO B S s = .stamp l2) (he:lookE B S loc=some (.map fr ag c t T' m)) (he2:lookE B S l2=some (.stamp loc c k)) (hel:elOfA ag t (getO B S v)=some (f,e)) (hB:alook B.e loc=none) (hr:noRef loc B.e=true) :
 OpM P ⟨none,.entryStore T x s v,ty,pos,aft,gd⟩ a w (Sim w0 S0 N B ⟨S.t,(loc,.map (fr&&f) ag c t T' fun _=>setM (m ()) (k ()) (e ()))::dropRef loc S.e,S.n⟩):=by
 obtain⟨ρ,ro,H⟩:=H;have hax:=H.get x;rw [hx] at hax;obtain⟨b,hb,hxe⟩:=hax.mp_;have has:=H.get s;rw [hs] at has;obtain⟨sn,hsn,hse⟩:=has.stamp_;obtain⟨b',es,clock,hb',hh,hst,hm⟩:=H.en _ _ he;rw [hb] at hb';injection hb' with hb';injection hb' with hb';subst hb';obtain⟨b',es',clock',sn',e0,h1,h2,h3,h4,h5,h6⟩:=H.en _ _ he2;rw [hsn] at h1;injection h1 with h1;injection h1 with h1;subst h1;rw [hb] at h2;injection h2 with h2;injection h2 with h2;subst h2;rw [hh] at h3;injection h3 with h3;injection h3 with q1 q2;subst q1; subst q2; subst h6;have hval:=elAV_less (fr':=fr&&f) (elOfA_ok hel (H.get v)) (by simp only [Bool.and_eq_true]; exact fun h=>h.2);have hm':=hm.less (fr':=fr&&f) (by simp only [Bool.and_eq_true]; exact fun h=>h.1);obtain⟨j,hj⟩:=List.mem_iff_getElem?.1 h4;have hj':es[j]? = some e0:=by simpa using hj
 have hst':=(stamped_iff es clock).1 hst;have hidx:=WideElems.findIdx_born hst'.2.1 hj;have hidx2:es.findIdx? (fun e=>((e.born:Nat):Int)==((e0.born:Nat):Int))=some j:=by rw [WideElems.findIdx_arr]; exact hidx
 refine .inr (.inl ⟨setBlock w b (.map (es.modify j fun e' => { e' with val:=a.eval v }) clock),?_,ρ,ro,H.mapSet hb hh hB hr (stamped_modify hst _ _ (fun _ _=>rfl) fun _ _ _=>rfl) (hm'.modify hst hj' h5 rfl hval)⟩);unfold execOp;have hai:(asInt (goInt (e0.born:Int))).run P w = .ok (e0.born:Int) w:=rfl;simp only [hxe,hse,Instr.entryStore,Sem.run_bind,MapKept.run_getObj_map hh,Result.andThen_ok,Sem.run_pure,hai,hidx2,MapKept.run_setObj_map _ hh];rfl
end
section
variable {P:Program} {w w' w0:World} {ρ ρ':Nat->Option Rl} {base:Nat} {ro ro':Nat->Prop} {S0:Pm} {N:Nat} {B:Bs} {S:Sx} {a:Act} {fr ag:Bool} {c:Kc} {t:Tc} {K:Sx->Fm}
theorem range_ok {C:Cx} (hty:TyOk P C.ty) (H:Sim w0 S0 N B S a w) {T T' kt et loc d:Nat} {c':Kc} {t':Tc} {ag':Bool} {x:Operand} {m:Unit->List Kx->Option t.el} {S':Sx} {ty:TypeId} {pos:String} {aft:Array Edge} {gd:Option (Nat×Bool)} (hT:tiOf C.ty T=some (.map kt et c' t' ag')) (hx:getO B S x = .mp loc) (he:lookE B S loc=some (.map fr ag c t T' m)) (hBn:alook B.e S.n=none) (hp:putT B ⟨S.t,S.e,S.n+1⟩ N d (.it loc S.n)=some S') (hK:∀ n:Nat,True->(K ⟨S'.t,(S.n,.iter loc c (fun _ => []) fun _=>n)::S'.e,S'.n⟩).P) :
 OpM P ⟨some d,.range T x,ty,pos,aft,gd⟩ a w fun a' w'=>∃ S',Sim w0 S0 N B S' a' w'/\(K S').P:=by
 obtain⟨ρ,ro,H⟩:=H;obtain⟨ti,_,hi,htb⟩:=tiOf_ hty hT;obtain⟨hu,_,_,_⟩:=tyB_map (w:=w) (ρ := ρ) (base:=w0.heap.size) (ro:=ro) htb hi;have hax:=H.get x;rw [hx] at hax;obtain⟨b,hb,hxe⟩:=hax.mp_;obtain⟨b',es,clock,hb',hh,hst,hm⟩:=H.en _ _ he;rw [hb] at hb';injection hb' with hb';injection hb' with hb';subst hb';have hblt:=(Array.getElem?_eq_some_iff.1 hh).1;have hnone:=H.fresh S.n (Nat.le_refl _);have hkeep:∀ q,q<w.heap.size->(w.alloc (.mapIter (some b) clock #[] clock)).heap[q]? = w.heap[q]? := fun q hq=>Below.heap_alloc w _ q hq;have hst':=(stamped_iff es clock).1 hst;have H2:=H.upd (w':=w.alloc (.mapIter (some b) clock #[] clock)) (loc:=S.n) (n:=S.n+1) (r := .it w.heap.size) (e := .iter loc c (fun _ => []) fun _=>(Go.leftOf es #[]).size) (H.from_.alloc _) (by simp) (fun q hq _=>hkeep q hq) (fun q hq=>by
  injection hq with hq;subst hq;exact .inr ⟨Nat.le_refl _,by simp⟩) hBn (Nat.le_succ _) (Nat.lt_succ_self _) (.inl (ext_new hnone)) (.inl fun q hq=>by rw [hnone] at hq; cases hq) ⟨b,w.heap.size,es,clock,clock,#[],clock,updR_self _ _ _,ext_new hnone _ _ hb,(hkeep b hblt).trans hh,heap_alloc_new w _,hst'.1,⟨Nat.le_refl _,Nat.le_refl _⟩,rfl,fun e _=>by simp,fun key r hr=>by cases hr⟩
 have hS':=putT_as hp;have hp2:=putT_move (e:=(S.n,.iter loc c (fun _ => []) fun _=>(Go.leftOf es #[]).size)::S.e) (n:=S.n+1) hp;have hfin:=hK (Go.leftOf es #[]).size trivial;rw [hS'] at hfin;refine .inl ⟨.pointer (some ⟨w.heap.size,0,none⟩),_,?_,_,⟨_,_,H2.put hp2 (.it _ _ _ (updR_self _ _ _))⟩,hfin⟩;unfold execOp;simp only [Instr.range,hxe,Sem.run_bind,run_underlying hu,Result.andThen_ok,MapKept.run_getObj_map hh,Sem.run_pure];rfl
theorem drew_grown {w w1:World} (h:w1=w\/w1=w.drew) (r:Nat) (o:Obj):w.grownBy (setBlock w1 r o) (some r):=by
 rcases h with rfl|rfl
 . exact setBlock_grown _ _ _
 . exact⟨rfl,rfl,rfl,by rw [setBlock_size]; exact Nat.le_refl _,fun k _ hk=>setBlock_other w.drew r o fun e=>hk (by rw [e])⟩
theorem next_ok (H:Sim w0 S0 N B S a w) {T loc l2 d:Nat} {x:Operand} {m:Unit->List Kx->Option t.el} {seen:Unit->List (List Kx)} {left:Unit->Nat} {S1 S2:Sx} {ty:TypeId} {pos:String} {aft:Array Edge} {gd:Option (Nat×Bool)} (hx:getO B S x = .it loc l2) (he:lookE B S loc=some (.map fr ag c t T m)) (hi:lookE B S l2=some (.iter loc c seen left)) (hB:alook B.e l2=none) (hp1:putT B S N d (.tup [.blit false])=some S1) (hp2:putT B S N d (.tup [.blit true,.un,.un])=some S2)
 (hK:(Fm.br (fun _=>left ()==0) (.all Unit (fun _=>∀ key x,fitsL c.ls key=true->m () key=some x->key∈seen ()) fun _=>K S1) (.all (List Kx×Nat) (fun p=>fitsL c.ls p.1=true/\(m () p.1).isSome=true/\p.1∉seen ()/\p.2<left ()) fun p=>K ⟨S2.t,(l2,.iter loc c (fun _=>p.1::seen ()) fun _=>p.2)::S2.e,S2.n⟩)).P) :
 OpM P ⟨some d,.next x false,ty,pos,aft,gd⟩ a w fun a' w'=>∃ S',Sim w0 S0 N B S' a' w'/\(K S').P:=by
 obtain⟨ρ,ro,H⟩:=H;have hax:=H.get x;rw [hx] at hax;obtain⟨b2,hb2,hxe⟩:=hax.it_;obtain⟨b,es,clock,hb,hh,hst,hm⟩:=H.en _ _ he;obtain⟨b',b2',es',clock',since,stamps,c0,h1,h2,h3,h4,h5,h6,h7,h8,h9⟩:=H.en _ _ hi;rw [hb2] at h1;injection h1 with h1;injection h1 with h1;subst h1;rw [hb] at h2;injection h2 with h2;injection h2 with h2;subst h2;rw [hh] at h3;injection h3 with h3;injection h3 with q1 q2;subst q1; subst q2;have hbb:b≠b2:=fun e=>by
  by_cases hl:loc=l2
  . subst hl;rw [hb] at hb2;cases hb2
  . exact H.apart loc l2 _ _ b hl hb hb2 rfl (by rw [e]; rfl)
 obtain⟨k1,k2⟩:=hK;have hexec:∀ v w2,(Instr.next (.pointer (some ⟨b2,0,none⟩)) false ty).run P w = .ok v w2->(execOp a.eval ⟨some d,.next x false,ty,pos,aft,gd⟩).run P w = .ok (.value v) w2:=by
  intro v w2 h;unfold execOp;simp only [hxe,Sem.run_bind,h,Result.andThen_ok,Sem.run_pure]
 rcases run_next_at (P:=P) w ty b2 b since c0 stamps es clock h4 hh h5 h6.1 with ⟨hz,hrun⟩|⟨e,he1,w1,hal,hrun⟩
 . have hleft:(left ()==0)=true:=by rw [h7,hz]; rfl
   have hall:=k1 hleft () fun key y hf hk=>by
    obtain⟨e,he1,he2⟩:=hm.2 key y hf hk;obtain⟨key',hk1,hk2⟩:=(h8 e he1).1 (all_seen es stamps hz e he1);rw [keyIs_inj he2 hk2];exact hk1
   have hE:Each w ρ w0.heap.size ro [.blit false] [.bool false] := .cons (.blit _) .nil;exact .inl ⟨_,_,hexec _ _ hrun,_,⟨_,_,H.put hp1 (.tup _ _ hE.1 hE.2)⟩,hall⟩
 . obtain⟨hem,hes⟩:=mem_left he1;obtain⟨key,y,g1,g2,g3⟩:=hm.1 e hem;have hpos:(left ()==0)=false:=by
    rw [h7];have:(Go.leftOf es stamps).size≠0:=fun h0=>by
     have h10:(Go.leftOf es stamps).toList.length=0:=by simpa using h0
     rw [List.length_eq_zero_iff.1 h10] at he1;cases he1
    simpa using this
   have hns:key∉seen ():=fun hk=>by
    have:=(h8 e hem).2 ⟨key,hk,g1⟩;rw [hes] at this;cases this
   have hfin:=k2 hpos (key,(Go.leftOf es (stamps.push e.born)).size) ⟨g1.2,by rw [g2]; rfl,hns,by rw [h7]; exact left_shrinks es stamps e he1⟩;have hh1:w1.heap[b]? = some (.map es clock):=by rcases hal with rfl|rfl<;>exact hh
   have hh2:w1.heap[b2]? = some (.mapIter (some b) since stamps c0):=by rcases hal with rfl|rfl<;>exact h4
   have hkeep:∀ q,q≠b2->(setBlock w1 b2 (.mapIter (some b) since (stamps.push e.born) clock)).heap[q]? = w.heap[q]? := fun q hq=>(setBlock_other _ _ _ hq).trans (by rcases hal with rfl|rfl<;>rfl);have hst':=(stamped_iff es clock).1 hst;have hsz:(setBlock w1 b2 (.mapIter (some b) since (stamps.push e.born) clock)).heap.size=w.heap.size:=by rw [setBlock_size]; rcases hal with rfl|rfl<;>rfl
   have H2:=H.upd (w':=setBlock w1 b2 (.mapIter (some b) since (stamps.push e.born) clock)) (loc:=l2) (n:=S.n) (r := .it b2) (e := .iter loc c (fun _=>key::seen ()) fun _=>(Go.leftOf es (stamps.push e.born)).size) (H.from_.grown (drew_grown hal _ _) (H.mine hb2 rfl)) (by rw [hsz]; exact Nat.le_refl _) (fun q _ hne=>hkeep q fun e1=>hne _ hb2 (by rw [e1]; rfl)) (fun q hq => .inl ⟨_,hb2,hq⟩) hB (Nat.le_refl _) (H.lt hb2) (.inl (by rw [updR_same hb2]; exact Ext.refl _)) (.inl fun q hq=>by rw [hb2] at hq; cases hq) (by
    refine⟨b,b2,es,clock,since,stamps.push e.born,clock,updR_self _ _ _,by rw [updR_same hb2]; exact hb,(hkeep b hbb).trans hh,setBlock_self hh2,h5,⟨Nat.le_trans h6.1 h6.2,Nat.le_refl _⟩,rfl,fun e' he' => ?_,fun key' r' hr => ?_⟩
    . rw [contains_push];simp only [Bool.or_eq_true,beq_iff_eq];constructor
      . rintro (h|h)
        . obtain⟨key',q1,q2⟩:=(h8 e' he').1 h;exact⟨key',List.mem_cons_of_mem _ q1,q2⟩
        . have:e'=e:=born_inj hst'.2.1 he' hem h;subst this;exact⟨key,List.mem_cons_self,g1⟩
      . rintro⟨key',q1,q2⟩
        rcases List.mem_cons.1 q1 with rfl|q1
        . right;have:e'=e:=Go.entry_eq_of_key hst'.2.2 he' hem (q2.1.trans g1.1.symm);rw [this]
        . exact .inl ((h8 e' he').2 ⟨key',q1,q2⟩)
    . injection hr with r1 r2;subst r1;exact⟨rfl,e,hem,by simp,g1⟩)
   rw [updR_same hb2] at H2;have hS2:=putT_as hp2;rw [hS2] at hfin;have hE:Each (setBlock w1 b2 (.mapIter (some b) since (stamps.push e.born) clock)) ρ w0.heap.size ro [.blit true,.un,.un] [.bool true,e.key,e.val] := .cons (.blit _) (.cons (.un _) (.cons (.un _) .nil));exact .inl ⟨_,_,hexec _ _ hrun,_,⟨_,_,H2.put (putT_move hp2) (.tup _ _ hE.1 hE.2)⟩,hfin⟩
end
end Go.Proofs.YthfpdbjemfhieaaGreat
namespace Go.Proofs.YthfpdbjemfhieaaGreat
open Go.RowKit
section
variable {P:Program} {w w' w0:World} {ρ ρ':Nat->Option Rl} {base:Nat} {ro ro':Nat->Prop} {S0:Pm} {N:Nat} {B:Bs} {S:Sx} {a:Act} {ge:Nat->Option En} {v:Value}
def ρL (ρ:Nat->Option Rl) (L:List Nat):Nat->Option Rl:=fun k=>match L[k]? with
 | some l => ρ l
 | none=>none
theorem ρL_at {L:List Nat} {k l:Nat} (h:L[k]? = some l) : ρL ρ L k = ρ l:=by unfold ρL; rw [h]
theorem ρL_from {L:List Nat} {k:Nat} {r:Rl} (h : ρL ρ L k=some r):∃ l,L[k]? = some l /\ ρ l=some r:=by
 unfold ρL at h;split at h
 . rename_i l hl; exact⟨l,hl,h⟩
 . cases h
theorem elAV_plain0 (ag fr:Bool) (t:Tc) (x:Unit->t.el):AV.plain false (elAV ag fr t x)=true:=by
 unfold elAV;have h:=cellsAV_plain0 fr t x
 cases ag with
 | true=>exact h
 | false =>
  simp only [Bool.false_eq_true,if_false]
  cases hc:cellsAV fr t x with
  | nil=>rfl
  | cons c l =>
   rw [hc] at h
   cases l with
   | nil=>simpa [AV.plainL] using h
   | cons c2 l=>rfl
theorem AVR.move0 {x:AV} {ρ2:Nat->Option Rl} (h:AVR w ρ base ro x v) (hx:AV.plain false x=true):AVR w ρ2 0 ro x v :=
 (h.plain (ρ' := ρ2) hx fun _ _ h=>h).mono (fun _ _ _=>rfl) (Ext.refl _) (Nat.zero_le _) fun _ h=>h
structure Cop (w:World) (ρ:Nat->Option Rl) (ro:Nat->Prop) (st st':Pst):Prop where
 more:∃ m,st'.locs=st.locs++m
 nodup:st.locs.Nodup->st'.locs.Nodup
 some_:∀ l∈st'.locs,l∈st.locs\/∃ r,ρ l=some r
 en:∀ L,(∃ m,L=st'.locs++m)->∀ k e,alook st'.es k=some e->alook st.es k=some e\/EnR w (ρL ρ L) 0 ro k e
theorem Cop.refl (st:Pst):Cop w ρ ro st st:=⟨⟨[],by simp⟩,id,fun _ h => .inl h,fun _ _ _ _ h => .inl h⟩
theorem Cop.trans {s1 s2 s3:Pst} (h:Cop w ρ ro s1 s2) (k:Cop w ρ ro s2 s3):Cop w ρ ro s1 s3:=by
 obtain⟨m,hm⟩:=h.more;obtain⟨n,hn⟩:=k.more;refine⟨⟨m++n,by rw [hn,hm,List.append_assoc]⟩,fun q=>k.nodup (h.nodup q),fun l hl => ?_,fun L hL i e he => ?_⟩
 . rcases k.some_ l hl with h1|h1
   . exact h.some_ l h1
   . exact .inr h1
 . rcases k.en L hL i e he with h1|h1
   . obtain⟨q,hq⟩:=hL;exact h.en L ⟨n++q,by rw [hq,hn,List.append_assoc]⟩ i e h1
   . exact .inr h1
theorem memN_of {l:Nat}:∀ {ls:List Nat},memN l ls=false->l∉ls
 | [],_=>by simp
 | k::ls,h=>by
  simp only [memN,Bool.or_eq_false_iff,beq_eq_false_iff_ne,ne_eq] at h;simp only [List.mem_cons,not_or];exact⟨fun e=>h.1 e.symm,memN_of h.2⟩
theorem nodup_snoc {l:Nat} {ls:List Nat} (h:ls.Nodup) (hl:l∉ls):(ls ++ [l]).Nodup:=by
 rw [List.nodup_append];exact⟨h,by simp,fun a ha b hb=>by simp only [List.mem_singleton] at hb; subst hb; exact fun e=>hl (e▸ha)⟩
theorem snoc_at {ls m:List Nat} {l:Nat}:(ls ++ [l]++m)[ls.length]? = some l:=by simp
mutual
theorem coerceP_ok (hge:∀ loc e,ge loc=some e->EnR w ρ base ro loc e):∀ (s:Sg) (x y:AV) (v:Value) (st st':Pst),coerceP ge s x st=some (y,st')->AVR w ρ base ro x v->Cop w ρ ro st st'/\∀ L,(∃ m,L=st'.locs++m)->AVR w (ρL ρ L) 0 ro y v:=by
 intro s x y v st st' h hx;unfold coerceP at h;split at h
 . cases h;exact⟨.refl _,fun _ _ => .un _⟩
 . rename_i t loc;split at h
   . rename_i fr t' T l he;split at h
     . rename_i hc;obtain⟨rfl,hm⟩:=hc;cases h;obtain⟨A,c,css,hA,hown,hlen,hcell⟩:=hge _ _ he;obtain⟨A',n,c',hA',hv⟩:=hx.own_;refine⟨⟨⟨[loc],rfl⟩,fun q=>nodup_snoc q (memN_of hm),fun l' hl' => ?_,fun L hL k e hke => ?_⟩,fun L hL => ?_⟩
       . rcases List.mem_append.1 hl' with h1|h1
         . exact .inl h1
         . simp only [List.mem_singleton] at h1; subst h1; exact .inr ⟨_,hA⟩
       . rw [alook_cons] at hke;split at hke
         . rename_i e0;subst e0;cases hke;obtain⟨m,rfl⟩:=hL;refine .inr ⟨A,c,css,by rw [ρL_at snoc_at]; exact hA,hown.base_le (Nat.zero_le _),hlen,fun k cs j x u k1 k2 k3 => ?_⟩;have hsz:=hown.2 cs (List.mem_of_getElem? k1);have h6:=(each_less (g:=false) (row_each hsz fun j y v r1 r2=>hcell k cs j y v k1 r1 r2) (fun h=>by cases h)).2 j x u k2 k3;exact h6.move0 (plainL_get (cellsAV_plain0 _ _ _) k2)
         . exact .inl hke
       . obtain⟨m,rfl⟩:=hL;rw [hv];exact .own _ _ _ _ (by rw [ρL_at snoc_at]; exact hA')
     . cases h
   . cases h
 . rename_i c t loc;split at h
   . rename_i fr ag c' t' T m he;split at h
     . rename_i hc;obtain⟨rfl,rfl,hm⟩:=hc;cases h;obtain⟨b,es,clock,hb,hh,hst,hM⟩:=hge _ _ he;obtain⟨b',hb',hv⟩:=hx.mp_;refine⟨⟨⟨[loc],rfl⟩,fun q=>nodup_snoc q (memN_of hm),fun l' hl' => ?_,fun L hL k e hke => ?_⟩,fun L hL => ?_⟩
       . rcases List.mem_append.1 hl' with h1|h1
         . exact .inl h1
         . simp only [List.mem_singleton] at h1; subst h1; exact .inr ⟨_,hb⟩
       . rw [alook_cons] at hke;split at hke
         . rename_i e0;subst e0;cases hke;obtain⟨m',rfl⟩:=hL;exact .inr ⟨b,es,clock,by rw [ρL_at snoc_at]; exact hb,hh,hst,(hM.less (fr':=false) (fun h=>by cases h)).map_ fun x v hx=>hx.move0 (elAV_plain0 _ _ _ _)⟩
         . exact .inl hke
       . obtain⟨m',rfl⟩:=hL;rw [hv];exact .mp _ _ (by rw [ρL_at snoc_at]; exact hb')
     . cases h
   . cases h
 . rename_i l loc;split at h
   . rename_i T cells he;split at h
     . cases h
     . rename_i hm;split at h
       . rename_i ys st2 hc;cases h;obtain⟨b,cs,hb,hh,hE⟩:=hge _ _ he;obtain⟨b',hb',hv⟩:=hx.ptr_;obtain⟨h1,h2⟩:=coercePs_ok hge l cells ys cs _ _ hc hE;have hm':memN loc st.locs=false:=by simpa using hm
         obtain⟨m1,hm1⟩:=h1.more;dsimp only at hm1;refine⟨⟨⟨[loc]++m1,by rw [hm1,List.append_assoc]⟩,fun q=>h1.nodup (nodup_snoc q (memN_of hm')),fun l' hl' => ?_,fun L hL k e hke => ?_⟩,fun L hL => ?_⟩
         . rcases h1.some_ l' hl' with h3|h3
           . rcases List.mem_append.1 h3 with h4|h4
             . exact .inl h4
             . simp only [List.mem_singleton] at h4; subst h4; exact .inr ⟨_,hb⟩
           . exact .inr h3
         . rw [alook_cons] at hke;split at hke
           . rename_i e0;subst e0;cases hke;have h3:=h2 L hL;obtain⟨m,rfl⟩:=hL;refine .inr ⟨b,cs,?_,hh,h3⟩;rw [ρL_at (l:=loc) (by dsimp only; rw [hm1,List.append_assoc]; exact snoc_at)];exact hb
           . exact h1.en L hL k e hke
         . obtain⟨m,rfl⟩:=hL;rw [hv];exact .ptr _ _ _ (by rw [ρL_at (l:=loc) (by dsimp only; rw [hm1,List.append_assoc]; exact snoc_at)]; exact hb')
       . cases h
   . cases h
 . split at h
   . rename_i hp
     cases hc:coerce ge s x with
     | none=>rw [hc] at h; cases h
     | some y' =>
      rw [hc] at h;cases h;refine⟨.refl _,fun L _ => ?_⟩;exact (coerce_ok hge (fun _ h=>h) s x _ v hc hx (.inl hp)).mono (fun _ _ _=>rfl) (fun l r h=>by cases h) (Nat.le_refl _) fun _ h=>h
   . cases h
theorem coercePs_ok (hge:∀ loc e,ge loc=some e->EnR w ρ base ro loc e):∀ (ss:List Sg) (xs ys:List AV) (vs:List Value) (st st':Pst),coercePs ge ss xs st=some (ys,st')->Each w ρ base ro xs vs->Cop w ρ ro st st'/\∀ L,(∃ m,L=st'.locs++m)->Each w (ρL ρ L) 0 ro ys vs:=by
 intro ss xs ys vs st st' h hE;unfold coercePs at h;split at h
 . cases h;rw [hE.none];exact⟨.refl _,fun _ _ => .nil⟩
 . rename_i s ss x xs;split at h
   . rename_i y st1 h1;split at h
     . rename_i ys' st2 h2;cases h;obtain⟨u,us,rfl,hx,hE'⟩:=hE.head;obtain⟨k1,k2⟩:=coerceP_ok hge s x y u _ _ h1 hx;obtain⟨k3,k4⟩:=coercePs_ok hge ss xs ys' us _ _ h2 hE';refine⟨k1.trans k3,fun L hL => ?_⟩;refine .cons (k2 L ?_) (k4 L hL);obtain⟨m,hm⟩:=k3.more;obtain⟨q,hq⟩:=hL;exact⟨m++q,by rw [hq,hm,List.append_assoc]⟩
     . cases h
   . cases h
 . cases h
end
theorem AVR.away {x:AV} {q:Nat->Prop} (h:AVR w ρ base ro x v) (hx:∀ l,q l->AV.has l x=false) (hρ:∀ l r,ρ l=some r->(¬ q l\/r.solid=true) -> ρ' l=some r):AVR w ρ' base ro x v:=by
 have hl:∀ {l:List AV} {j:Nat} {y:AV},(∀ k,q k->AV.hasL k l=false)->l[j]? = some y->∀ k,q k->AV.has k y=false:=fun h hy k hk=>hasL_get (h k hk) hy
 induction h with
 | un=>exact .un _
 | int=>exact .int _ _
 | lit=>exact .lit _ _
 | bool=>exact .bool _
 | blit=>exact .blit _
 | str=>exact .str _
 | nil=>exact .nil
 | sl fr t l A c css hl' hc hr hro1 hfr h ih=>exact .sl fr t l A c css hl' hc hr hro1 hfr fun k cs j y v h1 h2 h3=>ih k cs j y v h1 h2 h3 fun k _=>hasL_get (cellsAV_has _ _ _ _) h2
 | wide fr t l n A c hn h ih=>exact .wide fr t l n A c hn (ih fun k _=>rfl)
 | pto cells off b o cs hr hlt hl' hc h ih=>exact .pto cells off b o cs hr hlt hl' hc fun j y v h1 h2=>ih j y v h1 h2 (hl (fun k hk=>by simpa only [AV.has] using hx k hk) h1)
 | ptr l off b h=>exact .ptr _ _ _ (hρ _ _ h (.inr rfl))
 | mp l b h=>exact .mp _ _ (hρ _ _ h (.inr rfl))
 | stamp l s h=>exact .stamp _ _ (hρ _ _ h (.inr rfl))
 | it l l2 b h=>exact .it _ _ _ (hρ _ _ h (.inr rfl))
 | own l A n c h=>exact .own _ _ _ _ (hρ _ _ h (.inl fun hq=>by have:=hx l hq; simp [AV.has] at this))
 | orp t l k off A n c b h hA h0 hn=>exact .orp _ _ _ _ _ _ _ _ (hρ _ _ h (.inl fun hq=>by have:=hx l hq; simp [AV.has] at this)) hA h0 hn
 | agg l vs hl' h ih=>exact .agg _ _ hl' fun j y v h1 h2=>ih j y v h1 h2 (hl (fun k hk=>by simpa only [AV.has] using hx k hk) h1)
 | tup l vs hl' h ih=>exact .tup _ _ hl' fun j y v h1 h2=>ih j y v h1 h2 (hl (fun k hk=>by simpa only [AV.has] using hx k hk) h1)
 | fn f caps vs hl' h ih=>exact .fn _ _ _ hl' fun j y v h1 h2=>ih j y v h1 h2 (hl (fun k hk=>by simpa only [AV.has] using hx k hk) h1)
theorem renL_get (g:Nat->Nat):∀ (l:List AV) (j:Nat),(AV.renL g l)[j]? = (l[j]?).map (AV.ren g)
 | [],j=>by simp [AV.renL]
 | x::l,0=>by simp [AV.renL]
 | x::l,j+1=>by simpa [AV.renL] using renL_get g l j
theorem renL_len (g:Nat->Nat):∀ (l:List AV),(AV.renL g l).length=l.length
 | []=>rfl
 | x::l=>by simp [AV.renL,renL_len g l]
theorem cellsAV_ren (g:Nat->Nat) (fr:Bool) (t:Tc) (x:Unit->t.el):AV.renL g (cellsAV fr t x)=cellsAV fr t x:=by cases t<;>rfl
theorem elAV_ren (g:Nat->Nat) (ag fr:Bool) (t:Tc) (x:Unit->t.el):AV.ren g (elAV ag fr t x)=elAV ag fr t x:=by
 unfold elAV;have h:=cellsAV_ren g fr t x
 cases ag with
 | true =>
  simp only [if_true,AV.ren];rw [h]
 | false =>
  simp only [Bool.false_eq_true,if_false]
  cases hc:cellsAV fr t x with
  | nil=>rfl
  | cons c l =>
   rw [hc] at h
   cases l with
   | nil=>simpa [AV.renL] using h
   | cons c2 l=>rfl
theorem AVR.ren {x:AV} {g:Nat->Nat} (h:AVR w ρ base ro x v) (hρ:∀ l r,ρ l=some r -> ρ' (g l)=some r):AVR w ρ' base ro (AV.ren g x) v:=by
 have hm:∀ {l:List AV} {vs:List Value},(∀ (j:Nat) x v,l[j]? = some x->vs[j]? = some v->AVR w ρ' base ro (AV.ren g x) v)->∀ (j:Nat) x v,(AV.renL g l)[j]? = some x->vs[j]? = some v->AVR w ρ' base ro x v:=by
  intro l vs h j x v hx hv;rw [renL_get] at hx
  cases hj:l[j]? with
  | none=>rw [hj] at hx; cases hx
  | some y =>
   rw [hj] at hx;simp only [Option.map_some,Option.some.injEq] at hx;subst hx;exact h j y v hj hv
 induction h with
 | un=>exact .un _
 | int=>exact .int _ _
 | lit=>exact .lit _ _
 | bool=>exact .bool _
 | blit=>exact .blit _
 | str=>exact .str _
 | nil=>exact .nil
 | sl fr t l A c css hl hc hr hro1 hfr h ih =>
  refine .sl fr t l A c css hl hc hr hro1 hfr fun k cs j y v h1 h2 h3 => ?_;have h4:AV.ren g y=y:=by
   have h5:=renL_get g (cellsAV fr t fun _=>(l ()).getD k t.dflt) j;rw [cellsAV_ren,h2] at h5;simpa using h5.symm
  rw [<- h4];exact ih k cs j y v h1 h2 h3
 | wide fr t l n A c hn h ih=>exact .wide fr t l n A c hn ih
 | pto cells off b o cs hr hlt hl hc h ih=>exact .pto _ off b o cs hr hlt (by rw [renL_len]; exact hl) hc (hm ih)
 | ptr l off b h=>exact .ptr _ _ _ (hρ _ _ h)
 | mp l b h=>exact .mp _ _ (hρ _ _ h)
 | stamp l s h=>exact .stamp _ _ (hρ _ _ h)
 | it l l2 b h=>exact .it _ _ _ (hρ _ _ h)
 | own l A n c h=>exact .own _ _ _ _ (hρ _ _ h)
 | orp t l k off A n c b h hA h0 hn=>exact .orp _ _ _ _ _ _ _ _ (hρ _ _ h) hA h0 hn
 | agg l vs hl h ih=>exact .agg _ _ (by rw [renL_len]; exact hl) (hm ih)
 | tup l vs hl h ih=>exact .tup _ _ (by rw [renL_len]; exact hl) (hm ih)
 | fn f caps vs hl h ih=>exact .fn _ _ _ (by rw [renL_len]; exact hl) (hm ih)
theorem EnR.ren {e:En} {g:Nat->Nat} {k:Nat} (h:EnR w ρ base ro k e) (hρ:∀ l r,ρ l=some r -> ρ' (g l)=some r):EnR w ρ' base ro (g k) (En.ren g e):=by
 cases e with
 | box T cells =>
  obtain⟨b,cs,h1,h4,h5⟩:=h;have h6:AVR w ρ base ro (.agg cells) (.agg cs.toArray) := .agg _ _ h5.1 h5.2;obtain⟨vs,h7,h8⟩:=(h6.ren hρ).agg_;have h9:cs=vs:=by simpa using h7
  subst h9;exact⟨b,cs,hρ _ _ h1,h4,h8⟩
 | row fr t T m =>
  obtain⟨A,c,css,h1,h2,h3,h5⟩:=h;refine⟨A,c,css,hρ _ _ h1,h2,h3,fun k cs j x v k1 k2 k3 => ?_⟩;have h4:AV.ren g x=x:=by
   have h5:=renL_get g (cellsAV fr t fun _=>(m ()).getD k t.dflt) j;rw [cellsAV_ren,k2] at h5;simpa using h5.symm
  rw [<- h4];exact (h5 k cs j x v k1 k2 k3).ren hρ
 | map fr ag c t T m =>
  obtain⟨b,es,clock,h1,h2,h3,h4⟩:=h;exact⟨b,es,clock,hρ _ _ h1,h2,h3,h4.map_ fun x v hx=>by rw [<- elAV_ren g]; exact hx.ren hρ⟩
 | iter ml c seen left =>
  obtain⟨b,b2,es,clock,since,stamps,c0,h1,h2,h3⟩:=h;exact⟨b,b2,es,clock,since,stamps,c0,hρ _ _ h1,hρ _ _ h2,h3⟩
 | stamp ml c key =>
  obtain⟨b,es,clock,s,e,h1,h2,h3⟩:=h;exact⟨b,es,clock,s,e,hρ _ _ h1,hρ _ _ h2,h3⟩
 | dead=>obtain⟨r,h⟩:=h; exact⟨r,hρ _ _ h⟩
end
section
variable {P:Program} {w w' w0:World} {ρ ρ' ρ1:Nat->Option Rl} {base base':Nat} {ro ro' ra1:Nat->Prop} {S0:Pm} {N:Nat} {B:Bs} {S:Sx} {a:Act} {v:Value}
theorem EnR.more {l:Nat} {e:En} (h:EnR w ρ base ro l e) (hb:base'<=base) (hro:∀ b,ro b->ro' b):EnR w ρ base' ro' l e:=by
 have hav:∀ {x v},AVR w ρ base ro x v->AVR w ρ base' ro' x v:=fun h=>h.mono (fun _ _ _=>rfl) (Ext.refl _) hb hro
 cases e with
 | box T cells =>
  obtain⟨b,cs,h1,h4,h5⟩:=h;exact⟨b,cs,h1,h4,h5.1,fun j x v hx hv=>hav (h5.2 j x v hx hv)⟩
 | row fr t T m =>
  obtain⟨A,c,css,h1,h2,h3,h5⟩:=h;exact⟨A,c,css,h1,h2.base_le (rb_more fr hb),h3,fun k cs j x v k1 k2 k3=>hav (h5 k cs j x v k1 k2 k3)⟩
 | map fr ag c t T m =>
  obtain⟨b,es,clock,h1,h2,h3,h4⟩:=h;exact⟨b,es,clock,h1,h2,h3,h4.map_ fun x v hx=>hav hx⟩
 | iter ml c seen left=>exact h
 | stamp ml c key=>exact h
 | dead=>exact h
structure Clean (B:Bs) (S:Sx) (loc:Nat):Prop where
 t:∀ d x,lookT B S d=some x->AV.has loc x=false
 b:∀ l T cs,lookE B S l=some (.box T cs)->AV.hasL loc cs=false
 r:∀ l e,lookE B S l=some e->refTo loc e=false
theorem kill_t {l d:Nat} {x:AV} (h:lookT B (kill l S) d=some x):lookT B S d=some x\/x = .un:=by
 unfold lookT kill at h;rw [alook_killT] at h;unfold lookT
 cases hd:alook S.t d with
 | none=>rw [hd] at h; exact .inl h
 | some y =>
  rw [hd] at h;simp only [Option.map_some,Option.some.injEq] at h;split at h
  . exact .inr h.symm
  . exact .inl (by rw [h])
theorem kill_e {l k:Nat} {e:En} (h:lookE B (kill l S) k=some e):∃ e0,lookE B S k=some e0/\(e=e0\/e=killEn l e0):=by
 unfold lookE kill at h;rw [alook_killE] at h;unfold lookE
 cases hd:alook S.e k with
 | none=>rw [hd] at h; exact⟨e,h,.inl rfl⟩
 | some y =>
  rw [hd] at h;simp only [Option.map_some,Option.some.injEq] at h;exact⟨y,rfl,.inr h.symm⟩
theorem drop_e {l k:Nat} {e:En} (h:lookE B ⟨S.t,dropRef l S.e,S.n⟩ k=some e):∃ e0,lookE B S k=some e0/\(e=e0\/e = .dead):=by
 unfold lookE at h;simp only [alook_dropRef] at h;unfold lookE
 cases hd:alook S.e k with
 | none=>rw [hd] at h; exact⟨e,h,.inl rfl⟩
 | some y =>
  rw [hd] at h;simp only [Option.map_some,Option.some.injEq] at h;refine⟨y,rfl,?_⟩;split at h
  . exact .inr h.symm
  . exact .inl h.symm
theorem killL_has {l loc:Nat} {cs:List AV} (h:AV.hasL loc cs=false):AV.hasL loc (killL l cs)=false:=by
 refine hasL_of fun j x hx => ?_;rw [killL_get] at hx
 cases hj:cs[j]? with
 | none=>rw [hj] at hx; cases hx
 | some y =>
  rw [hj] at hx;simp only [Option.map_some,Option.some.injEq] at hx;subst hx;split
  . rfl
  . exact hasL_get h hj
theorem Clean.kill_ {loc:Nat} (h:Clean B S loc) (l:Nat):Clean B (kill l S) loc:=by
 refine⟨fun d x hx => ?_,fun k T cs he => ?_,fun k e he => ?_⟩
 . rcases kill_t hx with h1|rfl
   . exact h.t d x h1
   . rfl
 . obtain⟨e0,h1,h2|h2⟩:=kill_e he
   . subst h2; exact h.b k T cs h1
   . cases e0 with
     | box T' cs'=>cases h2; exact killL_has (h.b k _ cs' h1)
     | row fr t T m=>cases h2
     | map fr ag c t T m=>cases h2
     | iter ml c seen left=>cases h2
     | stamp ml c key=>cases h2
     | dead=>cases h2
 . obtain⟨e0,h1,h2|h2⟩:=kill_e he
   . subst h2; exact h.r k _ h1
   . have:=h.r k e0 h1;rw [h2];cases e0<;>exact this
theorem Clean.drop_ {loc:Nat} (h:Clean B S loc) (l:Nat):Clean B ⟨S.t,dropRef l S.e,S.n⟩ loc:=by
 refine⟨h.t,fun k T cs he => ?_,fun k e he => ?_⟩
 . obtain⟨e0,h1,h2|h2⟩:=drop_e he
   . subst h2; exact h.b k T cs h1
   . cases h2
 . obtain⟨e0,h1,h2|h2⟩:=drop_e he
   . subst h2; exact h.r k _ h1
   . subst h2; rfl
theorem killAll_ok:∀ {ls:List Nat} {S:Sx},freeAll B ls=true->SimR w0 S0 N B S a w ρ ro->SimR w0 S0 N B (killAll ls S) a w ρ ro/\(∀ l∈ls,Clean B (killAll ls S) l)/\(killAll ls S).n=S.n/\∀ l,Clean B S l->Clean B (killAll ls S) l
 | [],S,_,H=>⟨H,(fun _ h=>by cases h),rfl,fun _ h=>h⟩
 | l::ls,S,h,H=>by
  unfold freeAll at h;simp only [Bool.and_eq_true] at h;obtain⟨⟨⟨_,hq⟩,hr⟩,hls⟩:=h;have H1:=H.killed l;obtain⟨H2,hr2⟩:=H1.dropped (loc:=l) hr;have hc:Clean B ⟨(kill l S).t,dropRef l (kill l S).e,(kill l S).n⟩ l:=by
   have hk:=kill_quiet (S:=S) hq;refine⟨hk.1,fun k T cs he => ?_,hr2⟩;obtain⟨e0,h1,h2|h2⟩:=drop_e he
   . subst h2; exact hk.2 k T cs h1
   . cases h2
  obtain⟨k1,k2,k3,k4⟩:=killAll_ok (ls:=ls) hls H2;refine⟨k1,fun l' hl' => ?_,k3,fun l' hl'=>k4 l' ((hl'.kill_ l).drop_ l)⟩;rcases List.mem_cons.1 hl' with rfl|hl'
  . exact k4 _ hc
  . exact k2 l' hl'
theorem dropAll_ok:∀ {ls:List Nat} {S:Sx},freeAll B ls=true->SimR w0 S0 N B S a w ρ ro->SimR w0 S0 N B (dropAll ls S) a w ρ ro/\(∀ l∈ls,∀ k e,lookE B (dropAll ls S) k=some e->refTo l e=false)/\(dropAll ls S).n=S.n/\∀ l,(∀ k e,lookE B S k=some e->refTo l e=false)->∀ k e,lookE B (dropAll ls S) k=some e->refTo l e=false
 | [],S,_,H=>⟨H,(fun _ h=>by cases h),rfl,fun _ h=>h⟩
 | l::ls,S,h,H=>by
  unfold freeAll at h;simp only [Bool.and_eq_true] at h;obtain⟨⟨⟨_,hq⟩,hr⟩,hls⟩:=h;obtain⟨H2,hr2⟩:=H.dropped (loc:=l) hr;obtain⟨k1,k2,k3,k4⟩:=dropAll_ok (ls:=ls) hls H2;refine⟨k1,fun l' hl' => ?_,k3,fun l' hl'=>k4 l' fun k e he => ?_⟩
  . rcases List.mem_cons.1 hl' with rfl|hl'
    . exact k4 _ hr2
    . exact k2 l' hl'
  . obtain⟨e0,h1,h2|h2⟩:=drop_e he
    . subst h2; exact hl' k _ h1
    . subst h2; rfl
theorem forget_ok {fx:Bool} {ls:List Nat} (hf:freeAll B ls=true) (H:SimR w0 S0 N B S a w ρ ro):SimR w0 S0 N B (forget fx ls S) a w ρ ro/\(∀ l∈ls,∀ k e,lookE B (forget fx ls S) k=some e->refTo l e=false)/\(fx=false->∀ l∈ls,Clean B (forget fx ls S) l):=by
 unfold forget
 cases fx with
 | true =>
  obtain⟨k1,k2,_,_⟩:=dropAll_ok (S:=S) hf H;exact⟨k1,k2,fun h=>by cases h⟩
 | false =>
  obtain⟨k1,k2,_,_⟩:=killAll_ok (S:=S) hf H;exact⟨k1,fun l hl=>(k2 l hl).r,fun _=>k2⟩
theorem alook_renE {g:Nat->Nat} {l:Nat} {e:En}:∀ {es:List (Nat×En)},alook (renE g es) l=some e->∃ k e0,g k=l/\e=En.ren g e0/\alook es k=some e0
 | (k0,e0)::es,h=>by
  unfold renE at h;rw [alook_cons] at h;split at h
  . rename_i hk;cases h;exact⟨k0,e0,hk,rfl,by rw [alook_cons,if_pos rfl]⟩
  . rename_i hk;obtain⟨k,e1,h1,h2,h3⟩:=alook_renE h;exact⟨k,e1,h1,h2,by rw [alook_cons,if_neg (by rintro rfl; exact hk h1)]; exact h3⟩
 | [],h=>by cases h
theorem renE_some {g:Nat->Nat} {k:Nat}:∀ {es:List (Nat×En)},memN k (keysOf es)=true->∃ e,alook (renE g es) (g k)=some e
 | (k0,e0)::es,h=>by
  unfold renE;rw [alook_cons];split
  . exact⟨_,rfl⟩
  . rename_i hk;simp only [keysOf,memN,Bool.or_eq_true,beq_iff_eq] at h;rcases h with rfl|h
    . exact absurd rfl hk
    . exact renE_some h
 | [],h=>by cases h
theorem alook_key {α:Type} {k:Nat} {x : α}:∀ {l:List (Nat × α)},alook l k=some x->memN k (keysOf l)=true
 | (j,y)::l,h=>by
  rw [alook_cons] at h;simp only [keysOf,memN,Bool.or_eq_true,beq_iff_eq];split at h
  . rename_i e; exact .inl e
  . exact .inr (alook_key h)
 | [],h=>by cases h
theorem maxK_lt:∀ {ks:List Nat} {n k:Nat},memN k ks=true->k<maxK n ks
 | j::ks,n,k,h=>by
  simp only [memN,Bool.or_eq_true,beq_iff_eq] at h;have hle:∀ (l:List Nat) (n:Nat),n<=maxK n l:=by
   intro l
   induction l with
   | nil=>intro n; exact Nat.le_refl n
   | cons j l ih =>
    intro n;unfold maxK;split
    . exact ih n
    . have:=ih (j+1); omega
  unfold maxK;split
  . rcases h with rfl|h
    . have:=hle ks n; omega
    . exact maxK_lt h
  . rcases h with rfl|h
    . have:=hle ks (j+1); omega
    . exact maxK_lt h
 | [],_,_,h=>by cases h
theorem allK_lt {ks:List Nat}:∀ {n l:Nat},allK ks n=true->l<n->memN l ks=true
 | n+1,l,h,hl=>by
  simp only [allK,Bool.and_eq_true] at h;rcases Nat.lt_or_ge l n with h1|h1
  . exact allK_lt h.2 h1
  . rw [show l=n by omega]; exact h.1
 | 0,_,_,hl=>by omega
theorem newFree_get {g:Nat->Nat} {n k:Nat}:∀ {ks:List Nat},newFree B g n ks=true->memN k ks=true->n<=k->alook B.e (g k)=none
 | j::ks,h,hm,hk=>by
  unfold newFree at h;simp only [Bool.and_eq_true,Bool.or_eq_true,decide_eq_true_eq,Option.isNone_iff_eq_none] at h;simp only [memN,Bool.or_eq_true,beq_iff_eq] at hm;rcases hm with rfl|hm
  . exact h.1.resolve_left (by omega)
  . exact newFree_get h.2 hm hk
 | [],_,h,_=>by cases h
theorem freeAll_get {l:Nat}:∀ {ls:List Nat},freeAll B ls=true->l∈ls->alook B.e l=none
 | j::ls,h,hm=>by
  unfold freeAll at h;simp only [Bool.and_eq_true,Option.isNone_iff_eq_none] at h;rcases List.mem_cons.1 hm with rfl|hm
  . exact h.1.1.1
  . exact freeAll_get h.2 hm
 | [],_,h=>by cases h
theorem alook_append' {α:Type}:∀ (l m:List (Nat × α)) (d:Nat),alook (l++m) d=(match alook l d with|some x=>some x|none=>alook m d)
 | [],m,d=>rfl
 | (k,x)::l,m,d=>by
  rw [List.cons_append,alook_cons,alook_cons,alook_append' l m d];split<;>rfl
theorem SimR.called (H:SimR w0 S0 N B S a w ρ ro) {locs:List Nat} {es:List (Nat×En)} {n:Nat} (hlen:locs.length=n) (hnd:locs.Nodup) (hsome:∀ l∈locs,∃ r,ρ l=some r) (hfree:freeAll B locs=true) (hall:allK (keysOf es) n=true) (hnew:newFree B (renN locs S.n) n (keysOf es)=true) {fx:Bool} (hfx:S0.fx=true->fx=true) (hL:Left w w' (ρL ρ locs) ρ1 ro ra1 es fx) :
 ∃ ρ',SimR w0 S0 N B ⟨(forget fx locs S).t,renE (renN locs S.n) es++(forget fx locs S).e,S.n+(maxK n (keysOf es) - n)⟩ a w' ρ' (fun b=>ro b\/ra1 b)/\∀ k r,ρ1 k=some r -> ρ' (renN locs S.n k)=some r:=by
 obtain⟨H1,hclr,hcl⟩:=forget_ok (fx:=fx) (S:=S) hfree H;have hlt:∀ {l r},ρ l=some r->l<S.n:=fun h=>by
  rcases Nat.lt_or_ge _ S.n with h1|h1
  . exact h1
  . have:=H.fresh _ h1; rw [h] at this; cases this
 have hloc:∀ {k l},locs[k]? = some l->l<S.n:=fun h=>by
  obtain⟨r,hr⟩:=hsome _ (List.mem_of_getElem? h);exact hlt hr
 classical
 obtain⟨ρ',hρ'⟩:∃ ρ':Nat->Option Rl,ρ'=fun l=>if h:∃ k:Nat,locs[k]? = some l then ρ1 h.choose else if S.n<=l then ρ1 (n+(l - S.n)) else ρ l:=⟨_,rfl⟩
 have F1:∀ {k l},locs[k]? = some l -> ρ' l = ρ1 k:=by
  intro k l h;have hex:∃ k:Nat,locs[k]? = some l:=⟨k,h⟩
  rw [hρ'];simp only [dif_pos hex];have h2:=hex.choose_spec;have hk:=(List.getElem?_eq_some_iff.1 h).1;have:hex.choose=k:=(List.getElem?_inj (by exact (List.getElem?_eq_some_iff.1 h2).1) hnd).1 (h2.trans h.symm);rw [this]
 have F2:∀ {l},S.n<=l -> ρ' l = ρ1 (n+(l - S.n)):=by
  intro l h;rw [hρ'];have hno:¬ ∃ k:Nat,locs[k]? = some l:=by
   rintro⟨k,hk⟩
   have:=hloc hk;omega
  simp only [dif_neg hno,if_pos h]
 have F3:∀ {l:Nat},l<S.n->(∀ k:Nat,locs[k]? ≠ some l) -> ρ' l = ρ l:=by
  intro l h h2;rw [hρ'];have hno:¬ ∃ k:Nat,locs[k]? = some l:=by
   rintro⟨k,hk⟩
   exact h2 k hk
  simp only [dif_neg hno,if_neg (show ¬ S.n<=l by omega)]
 have G1:∀ {k l:Nat},locs[k]? = some l->renN locs S.n k=l:=fun h=>by unfold renN; rw [h]
 have G2:∀ {k:Nat},n<=k->renN locs S.n k=S.n+(k - n):=fun h=>by unfold renN; rw [List.getElem?_eq_none (by omega),hlen]
 have F4:∀ k,ρ' (renN locs S.n k) = ρ1 k:=by
  intro k;rcases Nat.lt_or_ge k n with h|h
  . have hk:locs[k]? = some (locs[k]'(by omega)):=List.getElem?_eq_getElem _;rw [G1 hk];exact F1 hk
  . rw [G2 h,F2 (by omega)];congr 1;omega
 have back:∀ {l:Nat} {r:Rl},ρ' l=some r->(∃ k:Nat,l=renN locs S.n k /\ ρ1 k=some r)\/(ρ l=some r/\l<S.n/\∀ k:Nat,locs[k]? ≠ some l):=by
  intro l r h;by_cases hex:∃ k:Nat,locs[k]? = some l
  . obtain⟨k,hk⟩:=hex;exact .inl ⟨k,(G1 hk).symm,(F1 hk).symm.trans h⟩
  . rcases Nat.lt_or_ge l S.n with h1|h1
    . have h2:∀ k:Nat,locs[k]? ≠ some l:=fun k hk=>hex ⟨k,hk⟩;exact .inr ⟨(F3 h1 h2).symm.trans h,h1,h2⟩
    . refine .inl ⟨n+(l - S.n),?_,(F2 h1).symm.trans h⟩;rw [G2 (by omega)];omega
 have hgivenB:∀ {k:Nat} {r:Rl} {b:Nat},ρL ρ locs k=some r->r.blk=some b->∃ l:Nat,locs[k]? = some l /\ ρ l=some r:=fun h _ => ρL_from h;have hkeepH:∀ {l:Nat} {r:Rl} {b:Nat},ρ l=some r->r.blk=some b->(∀ k:Nat,locs[k]? ≠ some l)->w'.heap[b]? = w.heap[b]? := by
  intro l r b h1 h2 h3;refine hL.from_.block b (H.own l r b h1 h2).1 fun k r' hk hb => ?_;obtain⟨l',hl',hr'⟩ := ρL_from hk;exact H.apart l l' r r' b (fun e=>h3 k (e▸hl')) h1 hr' h2 hb
 have hro:∀ b,ro b->b<w.heap.size->w'.heap[b]? = w.heap[b]? := by
  intro b hb hlt;refine hL.from_.block b hlt fun k r' hk hb' => ?_;obtain⟨l',hl',hr'⟩ := ρL_from hk;exact (H.own l' r' b hr' hb').2.1 hb
 have hsol:∀ {l:Nat} {r:Rl},ρ l=some r->((¬ ∃ k:Nat,locs[k]? = some l)\/(r.solid||fx)=true) -> ρ' l=some r:=by
  intro l r h1 h2;by_cases hex:∃ k:Nat,locs[k]? = some l
  . obtain⟨k,hk⟩:=hex;rw [F1 hk];exact hL.solid k r (by rw [ρL_at hk]; exact h1) (h2.resolve_left fun h=>h ⟨k,hk⟩)
  . rw [F3 (hlt h1) fun k hk=>hex ⟨k,hk⟩];exact h1
 have hav:∀ {x v},AVR w ρ w0.heap.size ro x v->(fx=false->∀ l∈locs,AV.has l x=false)->AVR w' ρ' w0.heap.size (fun b=>ro b\/ra1 b) x v:=fun h hx=>(h.away (q:=fun l=>fx=false/\∃ k:Nat,locs[k]? = some l) (fun l hq=>by obtain⟨hf,k,hk⟩:=hq; exact hx hf l (List.mem_of_getElem? hk)) fun l r h1 h2=>hsol h1 (by
  cases hf:fx with
  | true=>exact .inr (by simp)
  | false=>exact h2.imp (fun h q=>h ⟨hf,q⟩) fun h=>by simp [h])).mono hro (Ext.refl _) (Nat.le_refl _) fun b hb => .inl hb
 have hbase:w0.heap.size<=w.heap.size:=H.from_.size;have hnotin:∀ {l:Nat} {e:En},alook (renE (renN locs S.n) es) l=none->lookE B (forget fx locs S) l=some e->∀ k:Nat,locs[k]? ≠ some l:=by
  intro l e h1 _ k hk;have hkn:k<n:=by have:=(List.getElem?_eq_some_iff.1 hk).1; omega
  obtain⟨e',he'⟩:=renE_some (g:=renN locs S.n) (allK_lt hall hkn);rw [G1 hk,h1] at he';cases he'
 refine⟨ρ',⟨?_,H.size,H.defers,fun b hb => ?_,fun d x hx => ?_,fun l e he => ?_,fun l l' r r' b hne h1 h2 h3 h4 => ?_,fun l hl => ?_,fun l r b h1 h2 => ?_,fun b hb hlt0 => ?_,fun l r h1 h2=>hsol (H.solid l r h1 h2) (.inr (by
  cases hs:r.solid with
  | true=>rfl
  | false=>rw [hs] at h2; exact hfx h2)),fun d x hx=>H1.disT d x hx,fun l e he => ?_⟩,fun k r h=>by rw [F4]; exact h⟩
 . refine⟨hL.from_.os.trans H.from_.os,hL.from_.tape.trans H.from_.tape,hL.from_.output.trans H.from_.output,Nat.le_trans hbase hL.from_.size,fun k hk hnp => ?_⟩;refine (hL.from_.block k (by omega) fun i r hi hr => ?_).trans (H.from_.block k hk hnp);obtain⟨l,hl,hlr⟩ := ρL_from hi;rcases (H.own l r k hlr hr).2.2 with h|⟨r0,h,h'⟩
   . omega
   . exact hnp l r0 h h'
 . rcases hb with hb|hb
   . exact Nat.lt_of_lt_of_le (H.roB b hb) hL.from_.size
   . exact (hL.rd b hb).1
 . obtain⟨u,h1,h2⟩:=H1.tm d x hx;exact⟨u,h1,hav h2 fun hf l hl=>(hcl hf l hl).t d x hx⟩
 . unfold lookE at he;dsimp only at he;have hap:=alook_append' (renE (renN locs S.n) es) (forget fx locs S).e l
   cases hr:alook (renE (renN locs S.n) es) l with
   | some e1 =>
    rw [hap,hr] at he;simp only [Option.some.injEq] at he;subst he;obtain⟨k,e0,rfl,rfl,h3⟩:=alook_renE hr;exact ((hL.en k e0 h3).more hbase fun b hb => .inr hb).ren fun l r h=>by rw [F4]; exact h
   | none =>
    rw [hap,hr] at he;have he':lookE B (forget fx locs S) l=some e:=he;have hni:=hnotin hr he';have h1:=H1.en l e he';obtain⟨r,hr1⟩:=h1.none;have hl' : ρ' l = ρ l:=F3 (hlt hr1) hni
    cases e with
    | box T cs =>
     obtain⟨b,us,k1,k4,k5⟩:=h1;exact⟨b,us,hl'.trans k1,(hkeepH k1 rfl hni).trans k4,k5.1,fun j x v hx hv=>hav (k5.2 j x v hx hv) fun hf q hq=>hasL_get ((hcl hf q hq).b l T cs he') hx⟩
    | row fr t T m =>
     obtain⟨A,c,css,k1,k2,k3,k5⟩:=h1;exact⟨A,c,css,hl'.trans k1,k2.keep fun ad ha=>hkeepH k1 (by simp [Rl.blk,ha]) hni,k3,fun k cs j x v q1 q2 q3=>hav (k5 k cs j x v q1 q2 q3) fun _ q _=>hasL_get (cellsAV_has _ _ _ _) q2⟩
    | map fr ag c t T m =>
     obtain⟨b,es',clock,k1,k2,k3,k4⟩:=h1;exact⟨b,es',clock,hl'.trans k1,(hkeepH k1 rfl hni).trans k2,k3,k4.map_ fun x v hx=>hav hx fun _ q _=>elAV_has _ _ _ _ _⟩
    | iter ml c seen left =>
     obtain⟨b,b2,es',clock,since,stamps,c0,k1,k2,k3,k4,k5⟩:=h1;have hml:∀ k:Nat,locs[k]? ≠ some ml:=fun k hk=>by
      have:=hclr ml (List.mem_of_getElem? hk) l _ he';simp [refTo] at this
     exact⟨b,b2,es',clock,since,stamps,c0,hl'.trans k1,(F3 (hlt k2) hml).trans k2,(hkeepH k2 rfl hml).trans k3,(hkeepH k1 rfl hni).trans k4,k5⟩
    | stamp ml c key =>
     obtain⟨b,es',clock,s,e,k1,k2,k3,k4⟩:=h1;have hml:∀ k:Nat,locs[k]? ≠ some ml:=fun k hk=>by
      have:=hclr ml (List.mem_of_getElem? hk) l _ he';simp [refTo] at this
     exact⟨b,es',clock,s,e,hl'.trans k1,(F3 (hlt k2) hml).trans k2,(hkeepH k2 rfl hml).trans k3,k4⟩
    | dead=>exact⟨r,hl'.trans hr1⟩
 . have hmix:∀ {l l':Nat} {r r':Rl} {b k:Nat},l=renN locs S.n k -> ρ1 k=some r -> ρ l'=some r'->(∀ k:Nat,locs[k]? ≠ some l')->r.blk=some b->r'.blk≠some b:=by
    intro l l' r r' b k _ q2 q3 q4 q5 q6;have q7:=(H.own l' r' b q3 q6).1;rcases (hL.own k r b q2 q5).2.2 with q8|⟨r0,q8,q9⟩
    . omega
    . obtain⟨l2,q10,q11⟩ := ρL_from q8;exact H.apart l2 l' r0 r' b (fun e=>q4 k (e▸q10)) q11 q3 q9 q6
   rcases back h1 with ⟨k,q1,q2⟩|⟨q1,q2,q3⟩
   . rcases back h2 with ⟨k',q3,q4⟩|⟨q3,q4,q5⟩
     . exact hL.apart k k' r r' b (fun e=>hne (by rw [q1,q3,e])) q2 q4 h3 h4
     . exact hmix q1 q2 q3 q5 h3 h4
   . rcases back h2 with ⟨k',q4,q5⟩|⟨q4,q5,q6⟩
     . exact hmix q4 q5 q1 q3 h4 h3
     . exact H.apart l l' r r' b hne q1 q4 h3 h4
 . dsimp only at hl;rw [F2 (by omega)];refine hL.fresh _ ?_
   cases hm:memN (n+(l - S.n)) (keysOf es) with
   | false=>rfl
   | true =>
    have:=maxK_lt (n:=n) hm;omega
 . rcases back h1 with ⟨k,q1,q2⟩|⟨q1,q2,q3⟩
   . obtain⟨q3,q4,q5⟩:=hL.own k r b q2 h2;rcases q5 with q5|⟨r0,q5,q6⟩
     . refine⟨q3,fun hb => ?_,.inl (by omega)⟩;rcases hb with hb|hb
       . have:=H.roB b hb; omega
       . exact q4 hb
     . obtain⟨l2,q7,q8⟩ := ρL_from q5;have q9:=H.own l2 r0 b q8 q6;rw [G1 q7] at q1;subst q1;exact⟨q3,fun hb=>hb.elim q9.2.1 q4,q9.2.2⟩
   . have q4:=H.own l r b q1 h2;exact⟨Nat.lt_of_lt_of_le q4.1 hL.from_.size,fun hb=>hb.elim q4.2.1 fun hb=>q4.2.1 ((hL.rd b hb).2 q4.1),q4.2.2⟩
 . rcases hb with hb|hb
   . exact H.roS b hb hlt0
   . exact H.roS b ((hL.rd b hb).2 (by omega)) hlt0
 . rw [alook_append']
   cases hr:alook (renE (renN locs S.n) es) l with
   | none=>exact H1.disE l e he
   | some e1 =>
    exfalso;obtain⟨k,e0,hk,_,h3⟩:=alook_renE hr;have hm:=alook_key h3;rcases Nat.lt_or_ge k n with h|h
    . have hk2:locs[k]? = some (locs[k]'(by omega)):=List.getElem?_eq_getElem _;rw [G1 hk2] at hk;have:=freeAll_get hfree (List.mem_of_getElem? hk2);rw [hk,he] at this;cases this
    . have:=newFree_get hnew hm h;rw [hk,he] at this;cases this
end
end Go.Proofs.YthfpdbjemfhieaaGreat
