/-
  The abstract run: operations on the run's own memory are sound: places that are made, boxes that are written.
-/
import Derived.Test.YtffeegebohigdaaGreatMs9
import Derived.WideKeyEntry
set_option linter.unusedVariables false
set_option linter.unusedSimpArgs false
namespace Go.Proofs.YtffeegebohigdaaGreat
open Go.RowKit
def OpM (P:Program) (o:Oper) (a:Act) (w:World) (K:Act->World->Prop):Prop :=
 (∃ v w',(execOp a.eval o).run P w = .ok (.value v) w'/\K (a.put o.dst v) w') \/
 (∃ w',(execOp a.eval o).run P w = .ok .skip w'/\K (a.put o.dst undef) w') \/
 ∃ f args,(execOp a.eval o).run P w = .ok (.enter f args) w/\Calls P f args w fun e w'=>∃ v,e = .returned v/\K (a.put o.dst v) w'
theorem OpM.wp {P:Program} {o:Oper} {a:Act} {w:World} {K K':Act->World->Prop} {Q:Exit->Act->World->Prop} (h:OpM P o a w K) (hK:∀ a w,K a w->K' a w):o.wp P a w K' Q:=by
 unfold Oper.wp;rcases h with ⟨v,w',h1,h2⟩|⟨w',h1,h2⟩|⟨f,args,h1,h2⟩
 . rw [h1]; exact hK _ _ h2
 . rw [h1]; exact hK _ _ h2
 . rw [h1];refine h2.mono fun e w' h3 => ?_;obtain⟨v,rfl,h4⟩:=h3;exact hK _ _ h4
section
variable {P:Program} {w w' w0:World} {ρ ρ':Nat->Option Rl} {base:Nat} {ro ro':Nat->Prop} {S0:Pm} {N:Nat} {B:Bs} {S:Sx} {a:Act}
theorem Q69 {x:AV} {v:Value} {cs:List AV} (h:cellsOf x=some cs) (hx:AVR w ρ base ro x v):∃ vs:List Value,v.cells=vs.toArray/\Qj w ρ base ro cs vs:=by
 unfold cellsOf at h;split at h
 . cases h;obtain⟨vs,rfl,hE⟩:=hx.agg_;exact⟨vs,rfl,hE⟩
 . cases h
 . cases h
 . rename_i h1 h2 h3;cases h;exact⟨[v],Qdr hx (fun l e=>h1 l e) (fun e=>h2 e),.cons hx .nil⟩
theorem Z7t {x:AV} {v:Value} (h:AV.one x=true) (hx:AVR w ρ base ro x v):v.oneCell'=true:=by
 cases hx<;>first|rfl|cases h
theorem Qtu (fr:Bool) (t:Tc) (x:Unit->t.el):(Q8 fr t x).all AV.one=true:=by cases t<;>rfl
theorem Qld {l:List AV} {vs:List Value} (h:l.all AV.one=true) (hE:Qj w ρ base ro l vs):∀ u∈vs,u.oneCell'=true:=by
 intro u hu;obtain⟨j,hj⟩:=List.mem_iff_getElem?.1 hu;have hlt:=(List.getElem?_eq_some_iff.1 hj).1;have hl:j<l.length:=by rw [hE.1]; exact hlt
 exact Z7t (List.all_eq_true.1 h _ (List.getElem_mem hl)) (hE.2 j _ u (List.getElem?_eq_getElem hl) hj)
theorem Z6b {s:Sg} {x y:AV} {v:Value} (h:Z3j s x=some y) (hx:AVR w ρ base ro x v):AVR w ρ base ro y v:=by
 unfold Z3j at h;split at h
 . split at h<;>cases h; exact hx
 . split at h<;>cases h
   rw [hx.lit_];exact .int _ _
 . cases h; exact hx
 . cases h;rw [hx.blit_];exact .bool _
 . cases h; exact hx
 . split at h<;>cases h; exact hx
 . cases h;rw [hx.nil_];exact .sl true _ _ none 0 [] rfl (Nat.le_refl _) (Rd.nil _ _ _ _) (fun _ h=>by cases h) (fun _ _ h=>by cases h) (fun k cs j x v h=>by simp at h)
 . split at h<;>cases h
   exact Q0y hx
 . split at h<;>cases h
   exact hx
 . split at h<;>cases h
   obtain⟨A,c,css,_,_,_,_,_,_,hrx⟩:=hx.sl_;rw [hrx] at hx ⊢;exact .wide _ _ _ _ A c (Nat.le_refl _) hx
 . cases h;rw [hx.nil_];exact .wide true _ (fun _ => []) (fun _=>0) none 0 (Nat.le_refl _) (.sl true _ _ none 0 [] rfl (Nat.le_refl _) (Rd.nil _ _ _ _) (fun _ h=>by cases h) (fun _ _ h=>by cases h) (fun k cs j x v h=>by simp at h))
 . cases h
theorem Qtf:∀ {ss:List Sg} {xs ys:List AV} {vs:List Value},Qpp ss xs=some ys->Qj w ρ base ro xs vs->Qj w ρ base ro ys vs
 | [],[],ys,vs,h,hE=>by cases h; exact hE
 | s::ss,x::xs,ys,vs,h,hE=>by
  unfold Qpp at h;split at h
  . rename_i y ys' h1 h2;cases h;obtain⟨v,us,rfl,hx,hE'⟩:=hE.head;exact .cons (Z6b h1 hx) (Qtf h2 hE')
  . cases h
 | [],_::_,_,_,h,_=>by cases h
 | _::_,[],_,_,h,_=>by cases h
theorem Qic {l:List AV} {vs:List Value} (h:Qj w ρ base ro l vs):Qj w ρ base ro (l.map AV.loose) vs:=by
 refine⟨by simp [h.1],fun j x v hx hv => ?_⟩;rw [List.getElem?_map] at hx
 cases hj:l[j]? with
 | none=>rw [hj] at hx; cases hx
 | some y =>
  rw [hj] at hx;simp only [Option.map_some,Option.some.injEq] at hx;subst hx;exact (h.2 j y v hj hv).loose_
theorem Qf6 {t:Tc} {x:AV} {v:Value} {f:Bool} {e:Unit->t.el} (h:Qam t x=some (f,e)) (hx:AVR w ρ base ro x v):∃ vs:List Value,v.cells=vs.toArray/\vs.length=t.size/\Qj w ρ base ro (Q8 f t e) vs:=by
 unfold Qam at h;split at h
 . rename_i cs hc;split at h
   . rename_i ys hn
     cases hm:Qyn t ys with
     | none=>rw [hm] at h; cases h
     | some e' =>
      rw [hm] at h;simp only [Option.map_some,Option.some.injEq,Prod.mk.injEq] at h;obtain⟨rfl,rfl⟩:=h;obtain⟨vs,h1,hE⟩:=Q69 hc hx;have hE2:=Qtf hn hE;have hmc:=Qxc hm;have h3:Qj w ρ base ro (Q8 (AV.plainL true ys) t e') vs:=by
       cases hp:AV.plainL true ys with
       | true=>rw [hmc.2 hp]; exact hE2
       | false=>rw [hmc.1]; exact Qic hE2
      exact⟨vs,h1,by rw [<- h3.1,Q8v],h3⟩
   . cases h
 . cases h
theorem Q1c {f g:Bool} {t:Tc} {x:Unit->t.el} {vs:List Value} (h:Qj w ρ base ro (Q8 f t x) vs) (hfg:g=true->f=true):Qj w ρ base ro (Q8 g t x) vs:=by
 cases g with
 | true=>rw [hfg rfl] at h; exact h
 | false=>rw [J4 f]; exact Qic h
theorem Qta {t:Tc}:∀ {xs:List AV} {us:List Value} {f:Bool} {es:List (Unit->t.el)},Qex t xs=some (f,es)->Qj w ρ base ro xs us->∃ css:List (List Value),us.map Value.cells=css.map List.toArray/\css.length=es.length/\∀ (k:Nat) cs e,css[k]? = some cs->es[k]? = some e->cs.length=t.size/\Qj w ρ base ro (Q8 f t e) cs
 | [],us,f,es,h,hE=>by
  simp only [Qex,Option.some.injEq,Prod.mk.injEq] at h;obtain⟨rfl,rfl⟩:=h;rw [hE.none];exact⟨[],rfl,rfl,fun k cs e hk=>by simp at hk⟩
 | x::xs,us,f,es,h,hE=>by
  unfold Qex at h;split at h
  . rename_i f1 e1 f2 es2 h1 h2;simp only [Option.some.injEq,Prod.mk.injEq] at h;obtain⟨rfl,rfl⟩:=h;obtain⟨v,us',rfl,hx,hE'⟩:=hE.head;obtain⟨vs,k1,k2,k3⟩:=Qf6 h1 hx;obtain⟨css,q1,q2,q3⟩:=Qta h2 hE';refine⟨vs::css,by simp [k1,q1],by simp [q2],fun k cs e hk he => ?_⟩
    cases k with
    | zero =>
     simp only [List.getElem?_cons_zero,Option.some.injEq] at hk he;subst hk; subst he;exact⟨k2,Q1c k3 (by simp only [Bool.and_eq_true]; exact fun h=>h.1)⟩
    | succ k =>
     obtain⟨r1,r2⟩:=q3 k cs e (by simpa using hk) (by simpa using he);exact⟨r1,Q1c r2 (by simp only [Bool.and_eq_true]; exact fun h=>h.2)⟩
  . cases h
theorem Zr (ρ:Nat->Option Rl) (loc:Nat) (r:Rl):Kq ρ loc r loc=some r:=by unfold Kq; rw [if_pos rfl]
theorem Gs {loc:Nat} {r:Rl} (h : ρ loc=none):Ext ρ (Kq ρ loc r):=by
 intro l r' hl;unfold Kq;split
 . rename_i e; subst e; rw [h] at hl; cases hl
 . exact hl
theorem Gn {loc:Nat} {r:Rl} (h : ρ loc=some r):Kq ρ loc r = ρ:=by
 funext l;unfold Kq;split
 . rename_i e; subst e; exact h.symm
 . rfl
theorem Zi.alloc (H:Zi w0 S0 N B S a w ρ ro) {T:Nat} {cells:List AV} {cs:List Value} (hB:Q3 B.e S.n=none) (hE:Qj w ρ w0.heap.size ro cells cs) :
 Zi w0 S0 N B ⟨S.t,(S.n,.box T cells)::S.e,S.n+1⟩ a (w.alloc (.cells cs.toArray T)) (Kq ρ S.n (.box w.heap.size)) ro:=by
 have hnone:=H.fresh S.n (Nat.le_refl _);have hkeep:∀ b,b<w.heap.size->(w.alloc (.cells cs.toArray T)).heap[b]? = w.heap[b]? := fun b hb=>Below.heap_alloc w _ b hb;refine H.upd (H.from_.alloc _) (by simp) (fun b hb _=>hkeep b hb) (fun b hb => ?_) hB (Nat.le_succ _) (Nat.lt_succ_self _) (.inl (Gs hnone)) (.inl fun b hb=>by rw [hnone] at hb; cases hb) ⟨w.heap.size,cs,Zr _ _ _,heap_alloc_new w _,?_⟩
 . injection hb with hb;subst hb;exact .inr ⟨Nat.le_refl _,by simp⟩
 . exact hE.mono (fun b _ hb=>hkeep b hb) (Gs hnone) (Nat.le_refl _) fun _ h=>h
theorem AVR.ptr_new {loc b:Nat}:AVR w (Kq ρ loc (.box b)) base ro (.ptr loc 0) (.pointer (some ⟨b,0,none⟩)) := .ptr _ _ _ (Zr _ _ _)
theorem Qc5 {T:Nat} {j:TypeInfo} {z:Value} (hj:P.info? T=some j) (hz:j.zero=some z):(zeroValue T).run P w = .ok z w:=by
 unfold zeroValue;simp only [typeInfo,Sem.run_bind,Sem.run_pure,Result.andThen_ok,run_program,hj,hz]
theorem Z35 {C:Cx} (hty:Zw P C.ty) (H:Sim w0 S0 N B S a w) {T:Nat} {i:K5} {d:Nat} {S':Sx} {ty:TypeId} {pos:String} {aft:Array Edge} {gd:Option (Nat×Bool)} (hi:Q3 C.ty T=some i) (hz:i.z.isEmpty=false) (hB:Q3 B.e S.n=none) (hp:Qy B ⟨S.t,(S.n,.box T i.z)::S.e,S.n+1⟩ N d (.ptr S.n 0)=some S') :
 OpM P ⟨some d,.alloc T,ty,pos,aft,gd⟩ a w (Sim w0 S0 N B S'):=by
 obtain⟨ρ,ro,H⟩:=H;obtain⟨j,z,hj,hjz,hE⟩:=Qi8 (w:=w) (ρ := ρ) (base:=w0.heap.size) (ro:=ro) (hty T i hi) hz;have H2:=H.alloc (T:=T) hB hE;refine .inl ⟨.pointer (some ⟨w.heap.size,0,none⟩),_,?_,_,_,H2.put hp .ptr_new⟩;unfold execOp;simp only [Instr.alloc,Sem.run_bind,Qc5 hj hjz,Result.andThen_ok,newVar,newRow,Sem.run_pure];rfl
theorem Z86 (H:Sim w0 S0 N B S a w) {T:Nat} {x:Operand} {cells:List AV} {d:Nat} {S':Sx} {ty:TypeId} {pos:String} {aft:Array Edge} {gd:Option (Nat×Bool)} (hc:cellsOf (Z0 B S x)=some cells) (hB:Q3 B.e S.n=none) (hp:Qy B ⟨S.t,(S.n,.box T cells)::S.e,S.n+1⟩ N d (.ptr S.n 0)=some S') :
 OpM P ⟨some d,.box T x,ty,pos,aft,gd⟩ a w (Sim w0 S0 N B S'):=by
 obtain⟨ρ,ro,H⟩:=H;obtain⟨vs,hv,hE⟩:=Q69 hc (H.get x);have H2:=H.alloc (T:=T) hB hE;refine .inl ⟨.pointer (some ⟨w.heap.size,0,none⟩),_,?_,_,_,H2.put hp .ptr_new⟩;unfold execOp;simp only [Instr.box,Sem.run_bind,newVar,newRow,Sem.run_pure,hv];rfl
theorem Qdm {v:Value} {vs:List Value} (h:v.cells=vs.toArray):v.cells.toList=vs:=by rw [h]
theorem Q90 (w:World) (g:Nat) (cs:Array Value):(w.setRow g cs).heap.size=w.heap.size:=by simp [World.setRow]
theorem Qd5 (w:World) (g:Nat) (cs:Array Value):w.grownBy (w.setRow g cs) (some g) :=
 ⟨rfl,rfl,rfl,by rw [Q90]; exact Nat.le_refl _,fun k _ hk=>setRow_other w g k cs fun e=>hk (by rw [e])⟩
theorem Zi.mine (H:Zi w0 S0 N B S a w ρ ro) {l g:Nat} {r:Rl} (h : ρ l=some r) (hb:r.blk=some g):∀ k,some g=some k->w0.heap.size<=k\/∃ l r,S0.pl l=some r/\r.blk=some k:=by
 intro k hk;injection hk with hk;subst hk;rcases (H.own l r g h hb).2.2 with h1|⟨r0,h1,h2⟩
 . exact .inl h1
 . exact .inr ⟨l,r0,h1,h2⟩
theorem Z1d {C:Cx} (hty:Zw P C.ty) (H:Sim w0 S0 N B S a w) {T:Nat} {i:K5} {x y:Operand} {loc off T':Nat} {cells cs:List AV} {ty:TypeId} {pos:String} {aft:Array Edge} {gd:Option (Nat×Bool)} (hi:Q3 C.ty T=some i) (hc:cellsOf (Z0 B S y)=some cs) (hx:Z0 B S x = .ptr loc off) (he:Qh B S loc=some (.box T' cells)) (hl:cs.length=i.sz) (hfit:off+i.sz<=cells.length) (h1:cs.all AV.one=true) (hB:Q3 B.e loc=none) :
 OpM P ⟨none,.store T x y,ty,pos,aft,gd⟩ a w (Sim w0 S0 N B ⟨S.t,(loc,.box T' (cells.take off++cs++cells.drop (off+i.sz)))::S.e,S.n⟩):=by
 obtain⟨ρ,ro,H⟩:=H;have hax:=H.get x;rw [hx] at hax;obtain⟨b,hb,hxe⟩:=hax.ptr_;obtain⟨b',us,hb',hh,hE⟩:=H.en _ _ he;rw [hb] at hb';injection hb' with hb';injection hb' with hb';subst hb';obtain⟨vs,hv,hE2⟩:=Q69 hc (H.get y);obtain⟨j,hj,hjs,_⟩:=Qbo (hty T i hi);have hvl:vs.length=i.sz:=by rw [<- hE2.1]; exact hl
 have hul:us.length=cells.length:=hE.1.symm;have hrun:=Q3m (P:=P) (w:=w) (T:=T) (n:=i.sz) (g:=b) (off:=off) (t:=T') (cur:=us.toArray) (v:=a.eval y) (cs:=vs) (by rw [hj]; simp [hjs]) (Qdm hv) hvl hh (by simp [hul]; exact hfit) (Qld h1 hE2);have hlt:=(Array.getElem?_eq_some_iff.1 hh).1;have hln:loc<S.n:=by
  rcases Nat.lt_or_ge loc S.n with h|h
  . exact h
  . have:=H.fresh loc h; rw [hb] at this; cases this
 have hexec:(execOp a.eval ⟨none,.store T x y,ty,pos,aft,gd⟩).run P w = .ok .skip (w.setRow b (us.toArray.toList.take off++vs++us.toArray.toList.drop (off+i.sz)).toArray):=by
  unfold execOp;simp only [Instr.storeAt,Instr.sureAddr,hxe,Sem.run_bind,Sem.run_pure,Result.andThen_ok,hrun]
 have hro:¬ ro b:=(H.own loc _ b hb rfl).2.1;have hw:∀ b',ro b'->b'<w.heap.size->(w.setRow b (us.toArray.toList.take off++vs++us.toArray.toList.drop (off+i.sz)).toArray).heap[b']? = w.heap[b']? := fun b' hb' _=>setRow_other _ _ _ _ (fun e=>hro (e▸hb'));have H2:=H.upd (w':=w.setRow b (us.toArray.toList.take off++vs++us.toArray.toList.drop (off+i.sz)).toArray) (loc:=loc) (n:=S.n) (r := .box b) (e := .box T' (cells.take off++cs++cells.drop (off+i.sz))) (H.from_.grown (Qd5 _ _ _) (H.mine hb rfl)) (by rw [Q90]; exact Nat.le_refl _) (fun b' hb' hne=>setRow_other _ _ _ _ (fun e=>hne _ hb (by rw [e]; rfl))) (fun b' hb' => .inl ⟨_,hb,hb'⟩) hB (Nat.le_refl _) hln (.inl (by rw [Gn hb]; exact Ext.refl _)) (.inl fun b' hb'=>by rw [hb] at hb'; cases hb') (by
  refine⟨b,_,Zr _ _ _,setRow_heap w b _ _ T' _ hh,?_⟩;rw [Gn hb];exact (((hE.take off).append hE2).append (hE.drop (off+i.sz))).mono hw (Ext.refl _) (Nat.le_refl _) fun _ h=>h)
 exact .inr (.inl ⟨_,hexec,_,_,H2⟩)
end
theorem Qop {size:Nat}:∀ (css:List (List Value)),(∀ cs∈css,cs.length=size)->∀ (k off n:Nat) (vs:List Value) (hk:k<css.length),off+n<=size->vs.length=n ->
 css.flatten.take (k*size+off)++vs++css.flatten.drop (k*size+off+n)=(css.set k ((css[k]).take off++vs++(css[k]).drop (off+n))).flatten
 | [],_,k,_,_,_,hk,_,_=>by cases hk
 | cs::css,h,0,off,n,vs,_,hfit,hl=>by
  have hc:cs.length=size:=h cs (by simp);simp only [Nat.zero_mul,Nat.zero_add,List.flatten_cons,List.set_cons_zero,List.getElem_cons_zero];rw [List.take_append_of_le_length (by omega),List.drop_append_of_le_length (by omega),List.append_assoc,List.append_assoc,List.append_assoc]
 | cs::css,h,k+1,off,n,vs,hk,hfit,hl=>by
  have hc:cs.length=size:=h cs (by simp);have ih:=Qop css (fun c hc=>h c (by simp [hc])) k off n vs (by simpa using hk) hfit hl;simp only [List.flatten_cons,List.set_cons_succ,List.getElem_cons_succ];rw [<- ih];have e1:(k+1)*size+off=cs.length+(k*size+off):=by rw [hc,Nat.add_mul]; omega
  rw [e1,Nat.add_assoc cs.length,List.take_length_add_append,List.drop_length_add_append];simp
theorem Z3l {w:World} {base e size g:Nat} {css:List (List Value)} (h:w.heap[g]? = some (.cells css.flatten.toArray e (0,0))) (hl:∀ cs∈css,cs.length=size) (hb:base<=g) (hm:css.length<=maxLen):Z1 w base e size (some ⟨g,0,none⟩) css.length css:=by
 have hf:=J0 css hl;refine⟨⟨hf,.inr ⟨g,css.length,css.flatten.toArray,rfl,hb,h,Nat.le_refl _,hm,by simpa using hf,?_⟩⟩,hl⟩;rw [<- hf];exact List.take_length
theorem Qk8:∀ {l:List (Nat×AV)} {k:Nat} {xs:List AV},Q4r k l=some xs->l.map (·.2)=xs/\l.map (·.1)=List.range' k l.length
 | [],k,xs,h=>by
  simp only [Q4r,Option.some.injEq] at h;subst h;exact⟨rfl,rfl⟩
 | (i,x)::l,k,xs,h=>by
  unfold Q4r at h;split at h
  . rename_i hi
    cases hr:Q4r (k+1) l with
    | none=>rw [hr] at h; cases h
    | some ys =>
     rw [hr] at h;simp only [Option.map_some,Option.some.injEq] at h;subst h;obtain⟨h1,h2⟩:=Qk8 hr;exact⟨by simp [h1],by simp [h2,eq_of_beq hi,List.range'_succ]⟩
  . cases h
theorem Qos {size:Nat}:∀ (qs:List (Nat×Value)) (css:List (List Value)) (k:Nat) (pre z:List Value),(qs.map (·.2)).map Value.cells=css.map List.toArray->qs.map (·.1)=List.range' k qs.length->(∀ cs∈css,cs.length=size)->pre.length=k*size->z.length=qs.length*size ->
 Instr.fill (fun i=>some (i*size,size)) (pre++z).toArray qs=some (pre++css.flatten).toArray
 | [],[],k,pre,z,_,_,_,_,hz=>by
  have:z = []:=List.eq_nil_of_length_eq_zero (by simpa using hz);subst this;rfl
 | (i,v)::qs,cs::css,k,pre,z,hc,hi,hl,hp,hz=>by
  simp only [List.map_cons,List.cons.injEq,List.length_cons,List.range'_succ] at hc hi;obtain⟨rfl,hi⟩:=hi;have hcl:cs.length=size:=hl cs (by simp);have hz':z.length=qs.length*size+size:=by rw [hz,List.length_cons,Nat.add_mul]; omega
  rw [Qi5 (vs:=cs) (by rw [hcl]) hc.1 (by rw [List.length_append]; omega)];have e:(pre++z).take (i*size)++cs++(pre++z).drop (i*size+cs.length)=(pre++cs)++z.drop size:=by
   rw [<- hp,List.take_left,List.drop_length_add_append,hcl]
  rw [e];have:=Qos qs css (i+1) (pre++cs) (z.drop size) hc.2 hi (fun c h=>hl c (by simp [h])) (by rw [List.length_append,hp,hcl,Nat.add_mul]; omega) (by rw [List.length_drop]; omega);rw [this];simp
 | [],_::_,_,_,_,hc,_,_,_,_=>by simp at hc
 | _::_,[],_,_,_,hc,_,_,_,_=>by simp at hc
theorem Qbv {P:Program} {w:World} {t e size bytes base c m cn ty:Nat} {A X:Option Addr} {css news:List (List Value)} (hE:EI P t e size bytes) (hown:Z1 w base e size A c css) (B:Nat) (hr:Rd w B size X news) (hm:m=news.length)
 (h1:∀ cs∈news,∀ u∈cs,u.oneCell'=true) (h63:css.length+m<=maxLen) (hbytes:(css.length+m)*bytes<=140737488355328) (hbase:base<=w.heap.size) :
 ∃ A' c' w',(Builtin.append_ #[t,t] ty #[.slice A css.length c,.slice X m cn]).run P w = .ok (.slice A' (css++news).length c') w'/\Z1 w' base e size A' c' (css++news)/\w.grownBy w' (A.map (·.block))/\(A'.map (·.block)=A.map (·.block)\/(A'.map (·.block)=some w.heap.size/\w.heap.size<w'.heap.size)):=by
 rcases X with _|ad
 . have hn:news = []:=by
    rcases news with _|⟨x,l⟩
    . rfl
    . obtain⟨_,_,h,_⟩:=hr 0 x rfl;cases h
   subst hn;subst hm;obtain⟨ht,i,z,hi,hz,hs,hb,hzs,h0⟩:=hE;refine⟨A,c,w,?_,by simpa using hown,World.grownBy.refl w _,.inl rfl⟩;rw [List.append_nil];rcases hown.1.2 with ⟨h2,h3⟩|⟨g,cap,cur,h2,_,_,hnc,_⟩
   . rw [h2];simp [Builtin.append_,run_underlying ht,sizeOf,typeInfo,hi,Builtin.lenOf,Builtin.firstCells]
   . rw [h2];simp [Builtin.append_,run_underlying ht,sizeOf,typeInfo,hi,Builtin.lenOf,Builtin.firstCells,hnc,storeCells]
 . subst hm;obtain⟨ht,i,z,hi,hz,hs',hb,hzs,h0⟩:=hE;have hlen:∀ cs∈css++news,cs.length=size:=fun cs hc=>by
    rcases List.mem_append.1 hc with h|h
    . exact hown.2 cs h
    . exact hr.len cs h
   obtain⟨v',w',hrun,h2,h3,_,h5⟩:=run_append_own_at (P:=P) w base t ty e i z size bytes ht hi hz hs' hb hzs h0 (.slice A css.length c) css.length css.flatten hown.1 ad news.length cn news.flatten (J0 news hr.len)
    (fun j u hu=>by obtain⟨ad',h,hc⟩:=hr.flat j u hu; injection h with h; rw [h]; exact hc)
    (fun u hu=>by obtain⟨cs,hcs,hu'⟩:=List.mem_flatten.1 hu; exact h1 cs hcs u hu') h63 hbytes hbase
   obtain⟨A',c',rfl,h4⟩:=Z1.of (css:=css++news) (by rw [List.flatten_append]; exact h2) (by simp) hlen;rw [Gr,Gr] at h5;rw [Gr] at h3;refine⟨A',c',w',hrun,h4,h3,h5.imp id fun h=>⟨h,?_⟩⟩;obtain⟨ad2,h6,h7⟩:=Option.map_eq_some_iff.1 h;have:=(h4.lt h6).2;omega
theorem Qkv {P:Program} {T e sz b:Nat} {i:K5} (ht:tyB P T i=true) (hi:i.ti = .slice e sz b):EI P T e sz b/\0<b:=by
 obtain⟨ds,hd,hm⟩:=Yu ht;rw [hi] at hm;cases ds<;>first|(simp [Ko] at hm; done)|skip
 rename_i e';simp only [Ko,Bool.and_eq_true,beq_iff_eq,decide_eq_true_eq] at hm;obtain⟨⟨he,h0,hb⟩,h3⟩:=hm;subst he
 cases hj:P.info? e' with
 | none=>rw [hj] at h3; simp at h3
 | some j =>
  rw [hj] at h3;simp only [Bool.and_eq_true,beq_iff_eq] at h3
  cases hz:j.zero with
  | none=>rw [hz] at h3; simp at h3
  | some z =>
   rw [hz] at h3;exact⟨⟨hd,j,z,hj,hz,h3.1.1,h3.1.2,by simpa using h3.2,h0⟩,hb⟩
theorem Qvm {n m b:Nat} (hb:0<b) (h:(n+m)*b<=140737488355328):n+m<=maxLen:=by
 have:(n+m)*1<=(n+m)*b:=Nat.mul_le_mul_left _ hb;unfold maxLen;omega
section
variable {P:Program} {w w' w0:World} {ρ ρ':Nat->Option Rl} {base:Nat} {ro ro':Nat->Prop} {S0:Pm} {N:Nat} {B:Bs} {S:Sx} {a:Act}
theorem Z29 (H:Zi w0 S0 N B S a w ρ ro) {t:Tc} {x:AV} {v:Value} {f:Bool} {m:Unit->List t.el} (h:Qwb B S t x=some (f,m)) (hx:AVR w ρ w0.heap.size ro x v) :
 ∃ X c,∃ news:List (List Value),v = .slice X (m ()).length c/\news.length=(m ()).length/\Rd w w.heap.size t.size X news/\∀ (k:Nat) (cs:List Value) (j:Nat) (y:AV) (u:Value),news[k]? = some cs->(Q8 f t fun _=>(m ()).getD k t.dflt)[j]? = some y->cs[j]? = some u->AVR w ρ w0.heap.size ro y u:=by
 unfold Qwb at h;split at h
 . simp only [Option.some.injEq,Prod.mk.injEq] at h;obtain⟨rfl,rfl⟩:=h;exact⟨none,0,[],hx.nil_,rfl,Rd.nil _ _ _ _,fun k cs j y u h=>by simp at h⟩
 . split at h
   . rename_i ht;subst ht;simp only [Option.some.injEq,Prod.mk.injEq] at h;obtain⟨rfl,rfl⟩:=h;obtain⟨A,c,css,hl,hc,hr,_,_,hcell,rfl⟩:=hx.sl_;exact⟨A,c,css,rfl,hl,hr,hcell⟩
   . cases h
 . split at h
   . rename_i ht;subst ht;simp only [Option.some.injEq,Prod.mk.injEq] at h;obtain⟨rfl,rfl⟩:=h;obtain⟨A,c,css,hl,hc,hr,_,_,hcell,rfl⟩:=(Q0y hx).sl_;exact⟨A,c,css,rfl,hl,hr,hcell⟩
   . cases h
 . split at h
   . rename_i fr t' T l he;split at h
     . rename_i ht;subst ht;simp only [Option.some.injEq,Prod.mk.injEq] at h;obtain⟨rfl,rfl⟩:=h;obtain⟨A,c,css,hA,hown,hlen,hcell⟩:=H.en _ _ he;obtain⟨A',n,c',hA',rfl⟩:=hx.own_;rw [hA] at hA';injection hA' with hA';injection hA' with e1 e2 e3;subst e1; subst e2; subst e3;exact⟨A,c,css,rfl,hlen,hown.rd,hcell⟩
     . cases h
   . cases h
 . rename_i t2 loc a b;split at h
   . rename_i fr t' T l he;split at h
     . rename_i ht;subst ht;split at h
       . rename_i hsz;simp only [Option.some.injEq,Prod.mk.injEq] at h;obtain⟨rfl,rfl⟩:=h;obtain⟨A,c,css,hA,hown,hlen,hcell⟩:=H.en _ _ he;obtain⟨A',n,c',hA',hab,hbn,rfl⟩:=hx.osl_;rw [hA] at hA';injection hA' with hA';injection hA' with e1 e2 e3;subst e1; subst e2; subst e3;obtain⟨X,h1,h2⟩:=Qzk hown.rd hab (by omega) hown.cap.1;have hl2:(((l ()).take (b ())).drop (a ())).length=b () - a ():=by simp; omega
         refine⟨X,_,_,by rw [eq_of_beq hsz,h1,hl2],by simp [hlen],h2,fun k cs j y u q1 q2 q3 => ?_⟩;rw [List.getElem?_drop,List.getElem?_take] at q1;split at q1
         . rename_i hlt;refine hcell (a ()+k) cs j y u q1 ?_ q3;have e:(((l ()).take (b ())).drop (a ())).getD k t'.dflt=(l ()).getD (a ()+k) t'.dflt:=by
            rw [List.getD_eq_getElem?_getD,List.getD_eq_getElem?_getD,List.getElem?_drop,List.getElem?_take,if_pos hlt]
           rw [<- e];exact q2
         . cases q1
       . cases h
     . cases h
   . cases h
 . cases h
theorem Qrf {t:Tc} (h:t.flat=true) (f:Bool) (x:Unit->t.el):Q8 (f||t.flat) t x=Q8 f t x:=by cases t<;>first|rfl|cases h
theorem Qod (H:Zi w0 S0 N B S a w ρ ro) {t:Tc} {x:AV} {v:Value} {f:Bool} {m:Unit->List t.el} (h:Q43 B S t x=some (f,m)) (hx:AVR w ρ w0.heap.size ro x v) :
 ∃ X c,∃ news:List (List Value),v = .slice X (m ()).length c/\news.length=(m ()).length/\Rd w w.heap.size t.size X news/\∀ (k:Nat) (cs:List Value) (j:Nat) (y:AV) (u:Value),news[k]? = some cs->(Q8 f t fun _=>(m ()).getD k t.dflt)[j]? = some y->cs[j]? = some u->AVR w ρ w0.heap.size ro y u:=by
 unfold Q43 at h;rw [Option.map_eq_some_iff] at h;obtain⟨⟨f0,m0⟩,h0,h1⟩:=h;simp only [Prod.mk.injEq] at h1;obtain⟨rfl,rfl⟩:=h1;obtain⟨X,c,news,q1,q2,q3,q4⟩:=Z29 H h0 hx;refine⟨X,c,news,q1,q2,q3,?_⟩
 cases ht:t.flat with
 | false=>rw [Bool.or_false]; exact q4
 | true=>rw [<- ht]; intro k cs j y u hk hy hu; rw [Qrf ht] at hy; exact q4 k cs j y u hk hy hu
theorem Qqe {f:Bool} {t:Tc} {m:Unit->List t.el} {news:List (List Value)} {B0:Nat} {X:Option Addr} (hr:Rd w B0 t.size X news) (hc:∀ (k:Nat) (cs:List Value) (j:Nat) (y:AV) (u:Value),news[k]? = some cs->(Q8 f t fun _=>(m ()).getD k t.dflt)[j]? = some y->cs[j]? = some u->AVR w ρ base ro y u):∀ cs∈news,∀ u∈cs,u.oneCell'=true:=by
 intro cs hcs;obtain⟨k,hk⟩:=List.mem_iff_getElem?.1 hcs;exact Qld (Qtu f t _) (Q02 (hr.len cs hcs) fun j y v h1 h2=>hc k cs j y v hk h1 h2)
theorem Z0h {f g:Bool} {t:Tc} {l m:List t.el} {css news:List (List Value)} (hl:css.length=l.length) (hlen:∀ cs∈css++news,cs.length=t.size) (h1:∀ (k:Nat) (cs:List Value) (j:Nat) (y:AV) (u:Value),css[k]? = some cs->(Q8 f t fun _=>l.getD k t.dflt)[j]? = some y->cs[j]? = some u->AVR w ρ base ro y u) (h2:∀ (k:Nat) (cs:List Value) (j:Nat) (y:AV) (u:Value),news[k]? = some cs->(Q8 g t fun _=>m.getD k t.dflt)[j]? = some y->cs[j]? = some u->AVR w ρ base ro y u) :
 ∀ (k:Nat) (cs:List Value) (j:Nat) (y:AV) (u:Value),(css++news)[k]? = some cs->(Q8 (f&&g) t fun _=>(l++m).getD k t.dflt)[j]? = some y->cs[j]? = some u->AVR w ρ base ro y u:=by
 intro k cs j y u hk hy hu;have hsz:=hlen cs (List.mem_of_getElem? hk);rcases Nat.lt_or_ge k css.length with h|h
 . rw [List.getElem?_append_left h] at hk;rw [show (l++m).getD k t.dflt=l.getD k t.dflt by simp [List.getD_eq_getElem?_getD,List.getElem?_append_left (show k<l.length by omega)]] at hy;exact (Q1c (g:=f&&g) (Q02 hsz fun j y v q1 q2=>h1 k cs j y v hk q1 q2) (by simp only [Bool.and_eq_true]; exact fun h=>h.1)).2 j y u hy hu
 . rw [List.getElem?_append_right h] at hk;rw [show (l++m).getD k t.dflt=m.getD (k - css.length) t.dflt by simp [List.getD_eq_getElem?_getD,List.getElem?_append_right (show l.length<=k by omega),hl]] at hy;exact (Q1c (g:=f&&g) (Q02 hsz fun j y v q1 q2=>h2 _ cs j y v hk q1 q2) (by simp only [Bool.and_eq_true]; exact fun h=>h.2)).2 j y u hy hu
theorem Qgb {T d:Nat} {s x:Operand} {ty:TypeId} {pos:String} {aft:Array Edge} {gd:Option (Nat×Bool)} (v:Value) (h:(Builtin.append_ #[T,T] ty #[a.eval s,a.eval x]).run P w = .ok v w'):(execOp a.eval ⟨some d,.call { callee := .builtin .append,args := #[s,x],argTypes := #[T,T] },ty,pos,aft,gd⟩).run P w = .ok (.value v) w':=by
 unfold execOp;simp only [resolve,invoke,builtin,Sem.run_bind,Sem.run_pure,Result.andThen_ok,List.map_toArray,List.map_cons,List.map_nil,h]
theorem Z1.take_ {base e size c k:Nat} {A:Option Addr} {css:List (List Value)} (h:Z1 w base e size A c css) (hk:k<=css.length):Z1 w base e size A c (css.take k):=by
 rcases h.block with ⟨rfl,rfl,rfl⟩|⟨g,cur,rfl,_,_,_⟩
 . rw [List.take_nil]; exact h
 . rw [<- List.take_append_drop k css] at h;obtain⟨h63,h0⟩|⟨g',cap,cur,he,hb,hg,hnc,hcm,hcs,htake⟩:=h.1.2
   . cases h63
   . simp only [Value.slice.injEq,true_and] at he;obtain⟨he,rfl⟩:=he;have hl:=J0 (css.take k) (fun cs hc=>h.2 cs (List.mem_append_left _ hc));refine⟨⟨hl,.inr ⟨g',c,cur,by rw [he],hb,hg,by rw [List.length_append] at hnc; omega,hcm,hcs,?_⟩⟩,fun cs hc=>h.2 cs (List.mem_append_left _ hc)⟩;have h1:(cur.toList.take ((css.take k++css.drop k).length*size)).take ((css.take k).length*size)=(css.take k++css.drop k).flatten.take ((css.take k).length*size):=by rw [htake]
     rw [List.take_take,Nat.min_eq_left (Nat.mul_le_mul_right _ (by rw [List.length_append]; exact Nat.le_add_right _ _)),List.flatten_append] at h1;rw [h1,<- hl,List.take_left]
theorem Qel {C:Cx} (hty:Zw P C.ty) (H:Zi w0 S0 N B S a w ρ ro) {T e sz b loc d k:Nat} {s x:Operand} {fr f:Bool} {t:Tc} {l m:Unit->List t.el} {S':Sx} {ty:TypeId} {pos:String} {aft:Array Edge} {gd:Option (Nat×Bool)} (hT:Km C.ty T=some (.slice e sz b)) (he:Qh B S loc=some (.row fr t e l)) (hs:∀ A c,ρ loc=some (.row A (l ()).length c)->k<=(l ()).length/\((∃ g,A=some ⟨g,0,none⟩)\/(A=none/\c=0)->a.eval s = .slice A k c)) (hsz:t.size=sz) (hB:Q3 B.e loc=none) (hq:quiet loc B=true) (hn:Q43 B S t (Z0 B S x)=some (f,m)) (hp:Qy B ⟨(Kh loc S).t,(loc,.row (fr&&f) t e fun _=>(l ()).take k++m ())::(Kh loc S).e,S.n⟩ N d (.own loc)=some S') (hroom:(k+(m ()).length)*b<=140737488355328) (hfx:S0.fx=false) :
 OpM P ⟨some d,.call { callee := .builtin .append,args := #[s,x],argTypes := #[T,T] },ty,pos,aft,gd⟩ a w (Sim w0 S0 N B S'):=by
 obtain⟨i,_,hi,htb⟩:=Y7 hty hT;obtain⟨hE,hb0⟩:=Qkv htb hi;subst hsz;obtain⟨A,c,css,hA,hown,hlen,hcell⟩:=H.en _ _ he;obtain⟨hkl,hv⟩:=hs A c hA;have hv:=hv (by
  rcases hown.block with ⟨h1,h2,_⟩|⟨g,cur,h1,_⟩
  . exact .inr ⟨h1,h2⟩
  . exact .inl ⟨g,h1⟩)
 have hkc:(css.take k).length=k:=by simp; omega
 have hlk:((l ()).take k).length=k:=by simp; omega
 have hownk:=hown.take_ (k:=k) (by omega);obtain⟨X,cn,news,hx,hnl,hr,hnc⟩:=Qod H hn (H.get x);obtain⟨A2,c2,w2,hrun,h2,h3,h4⟩:=Qbv (P:=P) (ty:=ty) (cn:=cn) hE hownk _ hr hnl.symm (Qqe hr hnc) (by rw [hkc]; exact Qvm hb0 hroom) (by rw [hkc]; exact hroom) (Nat.le_trans (Qph _ _) H.from_.size);have hlen2:(css.take k++news).length=((l ()).take k++m ()).length:=by rw [List.length_append,List.length_append,hkc,hlk,hnl]
 rw [hkc] at hrun;have hexec:(execOp a.eval ⟨some d,.call { callee := .builtin .append,args := #[s,x],argTypes := #[T,T] },ty,pos,aft,gd⟩).run P w = .ok (.value (.slice A2 ((l ()).take k++m ()).length c2)) w2:=by
  refine Qgb _ ?_;rw [hv,hx,hrun,hlen2]
 have hcellk:∀ (k2:Nat) (cs:List Value) (j:Nat) (y:AV) (u:Value),(css.take k)[k2]? = some cs->(Q8 fr t fun _=>((l ()).take k).getD k2 t.dflt)[j]? = some y->cs[j]? = some u->AVR w ρ w0.heap.size ro y u:=fun k2 cs j y u q1 q2 q3=>by
  rw [List.getElem?_take] at q1;split at q1
  . rename_i hlt;refine hcell k2 cs j y u q1 ?_ q3;have e:((l ()).take k).getD k2 t.dflt=(l ()).getD k2 t.dflt:=by rw [List.getD_eq_getElem?_getD,List.getD_eq_getElem?_getD,List.getElem?_take,if_pos hlt]
    rw [<- e];exact q2
  . cases q1
 have hold:∀ r',ρ loc=some r'->r' = .row A (l ()).length c:=fun r' h=>by rw [hA] at h; injection h with h; exact h.symm
 have hf:Gi S0.pl w0 w2:=H.from_.grown h3 fun k hk=>H.mine hA hk k rfl;have hkeep:∀ q,q<w.heap.size->(∀ r',ρ loc=some r'->r'.blk≠some q)->w2.heap[q]? = w.heap[q]? := fun q hq hne=>h3.block q hq fun hc=>hne _ hA hc.symm;have hro2:∀ q,ro q->q<w.heap.size->w2.heap[q]? = w.heap[q]? := fun q hq hlt=>hkeep q hlt fun r' h1 h2=>(H.own loc r' q h1 h2).2.1 hq;have hk:=Qkj (S:=S) hq;have hln:loc<S.n:=by
  rcases Nat.lt_or_ge loc S.n with h|h
  . exact h
  . have:=H.fresh loc h; rw [hA] at this; cases this
 have hmv:∀ y u,AVR w ρ w0.heap.size ro y u->AV.has loc y=false->AVR w2 (Kq ρ loc (.row A2 ((l ()).take k++m ()).length c2)) w0.heap.size ro y u:=fun y u hyu hh=>(hyu.move (ρ':=Kq ρ loc (.row A2 ((l ()).take k++m ()).length c2)) hh fun l' r' hl' hc=>by
  unfold Kq;split
  . rename_i e0;subst e0;rcases hc with hc|hc
    . exact absurd rfl hc
    . rw [hold _ hl'] at hc; cases hc
  . exact hl').mono hro2 (Ext.refl _) (Nat.le_refl _) fun _ h=>h
 have hrows:=Z0h (w:=w) (ρ := ρ) (base:=w0.heap.size) (ro:=ro) (f:=fr) (g:=f) (l:=(l ()).take k) (m:=m ()) (by rw [hkc,hlk]) (fun cs hc=>h2.2 cs hc) hcellk hnc;have H2:=(H.killed loc).upd (loc:=loc) (n:=S.n) (r := .row A2 ((l ()).take k++m ()).length c2) (e := .row (fr&&f) t e fun _=>(l ()).take k++m ()) hf h3.size hkeep (fun q hq2=>by
  rcases h4 with h4|⟨h4,h5⟩
  . exact .inl ⟨_,hA,by rw [<- hq2]; exact h4.symm⟩
  . have hq3:A2.map (·.block)=some q:=hq2;rw [h4] at hq3;injection hq3 with hq3;subst hq3;exact .inr ⟨Nat.le_refl _,h5⟩) hB (Nat.le_refl _) hln (.inr ⟨hk.1,hk.2,fun r' hr'=>by rw [hold _ hr',hfx]; rfl⟩) (.inl fun b' hb'=>by cases hold _ hb') (by
  exact⟨A2,c2,css.take k++news,Zr _ _ _,h2.base_le (Z8h _ _ _),hlen2,fun k cs j y u q1 q2 q3=>hmv y u (hrows k cs j y u q1 q2 q3) (Yv (Vy _ t _ loc) q2)⟩)
 exact .inl ⟨_,_,hexec,_,_,H2.put hp (.own _ _ _ _ (Zr _ _ _))⟩
theorem Qzx {C:Cx} (hty:Zw P C.ty) (H:Sim w0 S0 N B S a w) {T e sz b loc d:Nat} {s x:Operand} {fr f:Bool} {t:Tc} {l m:Unit->List t.el} {S':Sx} {ty:TypeId} {pos:String} {aft:Array Edge} {gd:Option (Nat×Bool)} (hT:Km C.ty T=some (.slice e sz b)) (hs:Z0 B S s = .own loc) (he:Qh B S loc=some (.row fr t e l)) (hsz:t.size=sz) (hB:Q3 B.e loc=none) (hq:quiet loc B=true) (hn:Q43 B S t (Z0 B S x)=some (f,m)) (hp:Qy B ⟨(Kh loc S).t,(loc,.row (fr&&f) t e fun _=>l ()++m ())::(Kh loc S).e,S.n⟩ N d (.own loc)=some S') (hroom:((l ()).length+(m ()).length)*b<=140737488355328) (hfx:S0.fx=false) :
 OpM P ⟨some d,.call { callee := .builtin .append,args := #[s,x],argTypes := #[T,T] },ty,pos,aft,gd⟩ a w (Sim w0 S0 N B S'):=by
 obtain⟨ρ,ro,H⟩:=H;have has:=H.get s;rw [hs] at has;obtain⟨A',n,c',hA',hv⟩:=has.own_;have e:(fun (_:Unit)=>l ()++m ())=fun _=>(l ()).take (l ()).length++m ():=by funext u; rw [List.take_length]
 refine Qel hty H (k:=(l ()).length) hT he (fun A c hA=>⟨Nat.le_refl _,fun _ => ?_⟩) hsz hB hq hn (by rw [<- e]; exact hp) hroom hfx;rw [hA] at hA';injection hA' with hA';injection hA' with e1 e2 e3;subst e1; subst e2; subst e3;exact hv
theorem Qx7 {C:Cx} (hty:Zw P C.ty) (H:Sim w0 S0 N B S a w) {T e sz b loc d:Nat} {s x:Operand} {fr f:Bool} {t t0:Tc} {a0 b0:Unit->Nat} {l m:Unit->List t.el} {S':Sx} {ty:TypeId} {pos:String} {aft:Array Edge} {gd:Option (Nat×Bool)} (hT:Km C.ty T=some (.slice e sz b)) (hs:Z0 B S s = .osl t0 loc a0 b0) (he:Qh B S loc=some (.row fr t e l)) (hsz:t.size=sz) (hB:Q3 B.e loc=none) (hq:quiet loc B=true) (hn:Q43 B S t (Z0 B S x)=some (f,m)) (hp:Qy B ⟨(Kh loc S).t,(loc,.row (fr&&f) t e fun _=>(l ()).take (b0 ())++m ())::(Kh loc S).e,S.n⟩ N d (.own loc)=some S') (h0:a0 ()=0) (hroom:(b0 ()+(m ()).length)*b<=140737488355328) (hfx:S0.fx=false) :
 OpM P ⟨some d,.call { callee := .builtin .append,args := #[s,x],argTypes := #[T,T] },ty,pos,aft,gd⟩ a w (Sim w0 S0 N B S'):=by
 obtain⟨ρ,ro,H⟩:=H;have has:=H.get s;rw [hs] at has;obtain⟨A',n,c',hA',hab,hbn,hv⟩:=has.osl_;refine Qel hty H (k:=b0 ()) hT he (fun A c hA => ?_) hsz hB hq hn hp hroom hfx;rw [hA] at hA';injection hA' with hA';injection hA' with e1 e2 e3;subst e1; subst e2; subst e3;refine⟨hbn,fun hg => ?_⟩;rw [hv,h0];rcases hg with ⟨g,rfl⟩|⟨rfl,rfl⟩
 . simp [sliced,Addr.add_lit]
 . simp [sliced]
theorem Qx0 {C:Cx} (hty:Zw P C.ty) (H:Sim w0 S0 N B S a w) {T e sz b d:Nat} {s x:Operand} {f:Bool} {t:Tc} {m:Unit->List t.el} {S':Sx} {ty:TypeId} {pos:String} {aft:Array Edge} {gd:Option (Nat×Bool)} (hT:Km C.ty T=some (.slice e sz b)) (hs:Z0 B S s = .nil) (hsz:t.size=sz) (hB:Q3 B.e S.n=none) (hn:Q43 B S t (Z0 B S x)=some (f,m)) (hp:Qy B ⟨S.t,(S.n,.row f t e m)::S.e,S.n+1⟩ N d (.own S.n)=some S') (hroom:(0+(m ()).length)*b<=140737488355328) :
 OpM P ⟨some d,.call { callee := .builtin .append,args := #[s,x],argTypes := #[T,T] },ty,pos,aft,gd⟩ a w (Sim w0 S0 N B S'):=by
 obtain⟨ρ,ro,H⟩:=H;obtain⟨i,_,hi,htb⟩:=Y7 hty hT;obtain⟨hE,hb0⟩:=Qkv htb hi;subst hsz;have has:=H.get s;rw [hs] at has;obtain⟨X,cn,news,hx,hnl,hr,hnc⟩:=Qod H hn (H.get x);obtain⟨A2,c2,w2,hrun,h2,h3,h4⟩:=Qbv (P:=P) (ty:=ty) (cn:=cn) hE (Z1.nil w (rb f w0.heap.size) e t.size) _ hr hnl.symm (Qqe hr hnc) (by simpa using Qvm hb0 hroom) (by simpa using hroom) (Nat.le_trans (Qph _ _) H.from_.size);have hexec:(execOp a.eval ⟨some d,.call { callee := .builtin .append,args := #[s,x],argTypes := #[T,T] },ty,pos,aft,gd⟩).run P w = .ok (.value (.slice A2 (m ()).length c2)) w2:=by
  refine Qgb _ ?_;rw [has.nil_,hx];refine Eq.trans hrun ?_;rw [List.nil_append,hnl]
 have hnone:=H.fresh S.n (Nat.le_refl _);have hkeep:∀ q,q<w.heap.size->w2.heap[q]? = w.heap[q]? := fun q hq=>h3.block q hq (by simp);have hf:Gi S0.pl w0 w2:=H.from_.grown h3 fun k hk=>by cases hk
 have H2:=H.upd (loc:=S.n) (n:=S.n+1) (r := .row A2 (m ()).length c2) (e := .row f t e m) hf h3.size (fun q hq _=>hkeep q hq) (fun q hq2=>by
  have hq3:A2.map (·.block)=some q:=hq2;rcases h4 with h4|⟨h4,h5⟩
  . rw [h4] at hq3; cases hq3
  . rw [h4] at hq3;injection hq3 with hq3;subst hq3;exact .inr ⟨Nat.le_refl _,h5⟩) hB (Nat.le_succ _) (Nat.lt_succ_self _) (.inl (Gs hnone)) (.inl fun b hb=>by rw [hnone] at hb; cases hb) (by
  exact⟨A2,c2,news,Zr _ _ _,by simpa using h2,hnl,fun k cs j y u q1 q2 q3=>(hnc k cs j y u q1 q2 q3).mono (fun q _ hlt=>hkeep q hlt) (Gs hnone) (Nat.le_refl _) fun _ h=>h⟩)
 exact .inl ⟨_,_,hexec,_,_,H2.put hp (.own _ _ _ _ (Zr _ _ _))⟩
end
open Go.MapKept
open Go.ChangeMaps (setBlock)
theorem Qz4 {l:List MapEntry} (h:l.Pairwise fun x y=>x.key≠y.key) {i j:Nat} {x y:MapEntry} (hi:l[i]? = some x) (hj:l[j]? = some y) (hne:i≠j):x.key≠y.key:=by
 obtain⟨li,rfl⟩:=List.getElem?_eq_some_iff.1 hi;obtain⟨lj,rfl⟩:=List.getElem?_eq_some_iff.1 hj;rcases Nat.lt_or_gt_of_ne hne with h1|h1
 . exact List.pairwise_iff_getElem.1 h i j li lj h1
 . exact fun e=>List.pairwise_iff_getElem.1 h j i lj li h1 e.symm
section
variable {P:Program} {w w' w0:World} {ρ ρ':Nat->Option Rl} {base:Nat} {ro ro':Nat->Prop} {S0:Pm} {N:Nat} {B:Bs} {S:Sx} {a:Act} {fr ag:Bool} {c:Kc} {t:Tc}
theorem Qnl {α:Type} (m:List Kx->Option α) (k:List Kx) (x : α):Yy m k x k=some x:=by unfold Yy; rw [if_pos rfl]
theorem Q6m {α:Type} (m:List Kx->Option α) {k k':List Kx} (x : α) (h:k'≠k):Yy m k x k'=m k':=by unfold Yy; rw [if_neg h]
theorem Q00.push {m:List Kx->Option t.el} {es:Array MapEntry} {key:List Kx} {kv val:Value} {born:Nat} {x:t.el} (h:Q00 w ρ base ro fr ag c t m es) (hn:∀ e∈es.toList,¬ Yq c e.key key) (hk:Yq c kv key) (hv:AVR w ρ base ro (Yh ag fr t fun _=>x) val):Q00 w ρ base ro fr ag c t (Yy m key x) (es.push { key:=kv,val:=val,born:=born }):=by
 refine⟨fun e he => ?_,fun key' x' hf hm => ?_⟩
 . simp only [Array.toList_push,List.mem_append,List.mem_singleton] at he;rcases he with he|rfl
   . obtain⟨key',x',h1,h2,h3⟩:=h.1 e he;refine⟨key',x',h1,?_,h3⟩;rw [Q6m _ _ (fun e1=>by subst e1; exact hn e he h1)];exact h2
   . exact⟨key,x,hk,Qnl _ _ _,hv⟩
 . by_cases e1:key'=key
   . subst e1;exact⟨⟨kv,val,born⟩,by simp,hk⟩
   . rw [Q6m _ _ e1] at hm;obtain⟨e,he,h1⟩:=h.2 key' x' hf hm;exact⟨e,by simp only [Array.toList_push,List.mem_append]; exact .inl he,h1⟩
theorem Q00.modify {m:List Kx->Option t.el} {es:Array MapEntry} {clock:Nat} {key:List Kx} {j:Nat} {e:MapEntry} {f:MapEntry->MapEntry} {x:t.el} (h:Q00 w ρ base ro fr ag c t m es) (hs:Stamped es clock) (hj:es[j]? = some e) (hk:Yq c e.key key) (hfk:(f e).key=e.key) (hv:AVR w ρ base ro (Yh ag fr t fun _=>x) (f e).val):Q00 w ρ base ro fr ag c t (Yy m key x) (es.modify j f):=by
 have hj':es.toList[j]? = some e:=by simpa using hj
 have hl:(es.modify j f).toList=es.toList.set j (f e):=by rw [Array.toList_modify,ChangeMaps.modify_eq_set _ _ _ _ hj']
 have hst:=((stamped_iff es clock).1 hs).2.2;have hjl:=(List.getElem?_eq_some_iff.1 hj').1;have hoth:∀ i e',es.toList[i]? = some e'->i≠j->∀ key',Yq c e'.key key'->key'≠key:=by
  intro i e' hi hne key' hk' e1;subst e1;exact Qz4 hst hi hj' hne (hk'.1.trans hk.1.symm)
 refine⟨fun e' he => ?_,fun key' x' hf hm => ?_⟩
 . rw [hl] at he;obtain⟨i,hi⟩:=List.mem_iff_getElem?.1 he;rw [List.getElem?_set] at hi;split at hi
   . rename_i e1;subst e1
     first|rw [if_pos hjl] at hi|skip
     injection hi with hi;subst hi;exact⟨key,x,by rw [hfk]; exact hk,Qnl _ _ _,hv⟩
   . rename_i hne;obtain⟨key',x',h1,h2,h3⟩:=h.1 e' (List.mem_of_getElem? hi);refine⟨key',x',h1,?_,h3⟩;rw [Q6m _ _ (hoth i e' hi (fun e1=>hne e1.symm) key' h1)];exact h2
 . rw [hl];by_cases e1:key'=key
   . subst e1;exact⟨f e,List.mem_iff_getElem?.2 ⟨j,by rw [List.getElem?_set,if_pos rfl,if_pos hjl]⟩,by rw [hfk]; exact hk⟩
   . rw [Q6m _ _ e1] at hm;obtain⟨e',he,h1⟩:=h.2 key' x' hf hm;obtain⟨i,hi⟩:=List.mem_iff_getElem?.1 he;have hne:j≠i:=fun e2=>by
      subst e2;rw [hj'] at hi;injection hi with hi;subst hi;exact e1 (Q84 h1 hk)
     exact⟨e',List.mem_iff_getElem?.2 ⟨i,by rw [List.getElem?_set,if_neg hne]; exact hi⟩,h1⟩
theorem Q2g (w:World) (b:Nat) (o:Obj):(setBlock w b o).heap.size=w.heap.size:=by
 unfold setBlock;simp
theorem Gq (w:World) (b:Nat) (o:Obj) {k:Nat} (h:k≠b):(setBlock w b o).heap[k]? = w.heap[k]? := by
 unfold setBlock;exact Array.getElem?_setIfInBounds_ne (fun e=>h e.symm)
theorem Q65 {w:World} {b:Nat} {o o':Obj} (h:w.heap[b]? = some o'):(setBlock w b o).heap[b]? = some o:=by
 have:=(Array.getElem?_eq_some_iff.1 h).1;unfold setBlock;simp [this]
theorem Q9x (w:World) (b:Nat) (o:Obj):w.grownBy (setBlock w b o) (some b) :=
 ⟨rfl,rfl,rfl,by rw [Q2g]; exact Nat.le_refl _,fun k _ hk=>Gq w b o fun e=>hk (by rw [e])⟩
theorem Zi.lt (H:Zi w0 S0 N B S a w ρ ro) {loc:Nat} {r:Rl} (h : ρ loc=some r):loc<S.n:=by
 rcases Nat.lt_or_ge loc S.n with h1|h1
 . exact h1
 . have:=H.fresh loc h1; rw [h] at this; cases this
theorem Zi.mapSet (H:Zi w0 S0 N B S a w ρ ro) {loc b clock' T:Nat} {es':Array MapEntry} {o:Obj} {m:Unit->List Kx->Option t.el} (hb : ρ loc=some (.mp b)) (hh:w.heap[b]? = some o) (hB:Q3 B.e loc=none) (hr:Q2e loc B.e=true) (hs:Stamped es' clock') (hm:Q00 w ρ w0.heap.size ro fr ag c t (m ()) es') :
 Zi w0 S0 N B ⟨S.t,(loc,.map fr ag c t T m)::Yz loc S.e,S.n⟩ a (setBlock w b (.map es' clock')) ρ ro:=by
 obtain⟨HD,hd⟩:=H.dropped (loc:=loc) hr;have hnro:=(H.own loc _ b hb rfl).2.1;have hw:∀ b',ro b'->b'<w.heap.size->(setBlock w b (.map es' clock')).heap[b']? = w.heap[b']? := fun b' hb' _=>Gq _ _ _ fun e=>hnro (e▸hb');have H2:=HD.upd (w':=setBlock w b (.map es' clock')) (loc:=loc) (n:=S.n) (r := .mp b) (e := .map fr ag c t T m) (H.from_.grown (Q9x _ _ _) (H.mine hb rfl)) (by rw [Q2g]; exact Nat.le_refl _) (fun b' _ hne=>Gq _ _ _ fun e=>hne _ hb (by rw [e]; rfl)) (fun b' hb' => .inl ⟨_,hb,hb'⟩) hB (Nat.le_refl _) (H.lt hb) (.inl (by rw [Gn hb]; exact Ext.refl _)) (.inr hd) (by
  refine⟨b,es',clock',Zr _ _ _,Q65 hh,hs,?_⟩;rw [Gn hb];exact hm.map_ fun x v hx=>hx.mono hw (Ext.refl _) (Nat.le_refl _) fun _ h=>h)
 rw [Gn hb] at H2;exact H2
theorem Qwe (H:Sim w0 S0 N B S a w) {T d:Nat} {S':Sx} {ty:TypeId} {pos:String} {aft:Array Edge} {gd:Option (Nat×Bool)} (hB:Q3 B.e S.n=none) (hp:Qy B ⟨S.t,(S.n,.map true ag c t T fun _ _=>none)::S.e,S.n+1⟩ N d (.mp S.n)=some S') :
 OpM P ⟨some d,.makeMap T none,ty,pos,aft,gd⟩ a w (Sim w0 S0 N B S'):=by
 obtain⟨ρ,ro,H⟩:=H;have hnone:=H.fresh S.n (Nat.le_refl _);have hkeep:∀ b,b<w.heap.size->(w.alloc (.map #[] 0)).heap[b]? = w.heap[b]? := fun b hb=>Below.heap_alloc w _ b hb;have H2:=H.upd (w':=w.alloc (.map #[] 0)) (loc:=S.n) (n:=S.n+1) (r := .mp w.heap.size) (e := .map true ag c t T fun _ _=>none) (H.from_.alloc _) (by simp) (fun b hb _=>hkeep b hb) (fun b hb=>by
  injection hb with hb;subst hb;exact .inr ⟨Nat.le_refl _,by simp⟩) hB (Nat.le_succ _) (Nat.lt_succ_self _) (.inl (Gs hnone)) (.inl fun b hb=>by rw [hnone] at hb; cases hb) ⟨w.heap.size,#[],0,Zr _ _ _,heap_alloc_new w _,stamped_empty 0,fun e he=>by simp at he,fun key x _ hm=>by cases hm⟩
 refine .inl ⟨.map (some w.heap.size),_,?_,_,_,H2.put hp (.mp _ _ (Zr _ _ _))⟩;unfold execOp;simp only [Instr.makeMap,Sem.run_bind,Sem.run_pure];rfl
theorem Qsq {x:AV} {v:Value} {f:Bool} {e:Unit->t.el} (h:Qfb ag t x=some (f,e)) (hx:AVR w ρ base ro x v):AVR w ρ base ro (Yh ag f t e) v:=by
 unfold Qfb at h;split at h
 . rename_i hc;simp only [Bool.and_eq_true,Bool.or_eq_true,beq_iff_eq] at hc;obtain⟨vs,h1,h2,h3⟩:=Qf6 h hx;unfold Yh
   cases ag with
   | true =>
    simp only [if_true];have hag:∃ l,x = .agg l:=by
     have:=hc.2;cases x<;>first|exact⟨_,rfl⟩|simp [Z2l] at this
    obtain⟨l,rfl⟩:=hag;obtain⟨us,rfl,_⟩:=hx.agg_;have e1:us=vs:=List.toArray_inj h1;subst e1;exact .agg _ _ h3.1 h3.2
   | false =>
    simp only [Bool.false_eq_true,if_false];have hna:∀ l,x ≠ .agg l:=fun l e1=>by subst e1; simp [Z2l] at hc
    have hnu:x ≠ .un:=fun e1=>by subst e1; simp [Qam,cellsOf] at h
    have hc1:=Qdr hx hna hnu;rw [hc1] at h1;have h1':([v]:List Value).toArray=vs.toArray:=h1;have e1:=List.toArray_inj h1';subst e1;have hl:=h3.1
    cases hcl:Q8 f t e with
    | nil=>rw [hcl] at hl; cases hl
    | cons y l =>
     rw [hcl] at hl h3
     cases l with
     | cons y2 l=>simp at hl
     | nil=>exact h3.2 0 y v rfl rfl
 . cases h
theorem Q00.less {fr':Bool} {m:List Kx->Option t.el} {es:Array MapEntry} (h:Q00 w ρ base ro fr ag c t m es) (hf:fr'=true->fr=true):Q00 w ρ base ro fr' ag c t m es :=
 ⟨fun e he=>by obtain⟨key,x,h1,h2,h3⟩:=h.1 e he; exact⟨key,x,h1,h2,Q5k h3 hf⟩,h.2⟩
theorem Qrm {C:Cx} (hty:Zw P C.ty) (H:Sim w0 S0 N B S a w) {T T' kt et loc:Nat} {f:Bool} {x i v:Operand} {m:Unit->List Kx->Option t.el} {k:Unit->List Kx} {e:Unit->t.el} {ty:TypeId} {pos:String} {aft:Array Edge} {gd:Option (Nat×Bool)} (hT:Km C.ty T=some (.map kt et c t ag)) (hx:Z0 B S x = .mp loc) (he:Qh B S loc=some (.map fr ag c t T' m)) (hk:Q6s c (Z0 B S i)=some k) (hel:Qfb ag t (Z0 B S v)=some (f,e)) (hB:Q3 B.e loc=none) (hr:Q2e loc B.e=true) :
 OpM P ⟨none,.mapUpdate T x i v,ty,pos,aft,gd⟩ a w (Sim w0 S0 N B ⟨S.t,(loc,.map (fr&&f) ag c t T' fun _=>Yy (m ()) (k ()) (e ()))::Yz loc S.e,S.n⟩):=by
 obtain⟨ρ,ro,H⟩:=H;obtain⟨ti,_,hi,htb⟩:=Y7 hty hT;obtain⟨hu,hkc,_,_⟩:=Qew (w:=w) (ρ := ρ) (base:=w0.heap.size) (ro:=ro) htb hi;have hax:=H.get x;rw [hx] at hax;obtain⟨b,hb,hxe⟩:=hax.mp_;obtain⟨b',es,clock,hb',hh,hst,hm⟩:=H.en _ _ he;rw [hb] at hb';injection hb' with hb';injection hb' with hb';subst hb';have hkey:=Qhc hk (H.get i);have hval:=Q5k (fr':=fr&&f) (Qsq hel (H.get v)) (by simp only [Bool.and_eq_true]; exact fun h=>h.2);have hm':=hm.less (fr':=fr&&f) (by simp only [Bool.and_eq_true]; exact fun h=>h.1);have hrun:∀ w2,(Instr.mapUpdate T (.map (some b)) (a.eval i) (a.eval v)).run P w = .ok () w2->(execOp a.eval ⟨none,.mapUpdate T x i v,ty,pos,aft,gd⟩).run P w = .ok .skip w2:=by
  intro w2 h;unfold execOp;simp only [hxe,Sem.run_bind,h,Result.andThen_ok,Sem.run_pure]
 rcases hm.find (P:=P) hkc hkey with ⟨h1,h2,h3⟩|⟨j,e0,x0,h1,h2,h3,h4,h5⟩
 . refine .inr (.inl ⟨_,hrun (setBlock w b (.map (es.push ⟨a.eval i,a.eval v,clock⟩) (clock+1))) ?_,ρ,ro,?_⟩)
   . have hck:=Q80 (P:=P) (w:=w) hkc hkey.2 false;rw [<- hkey.1] at hck;simp only [Instr.mapUpdate,Sem.run_bind,run_underlying hu,Result.andThen_ok,MapKept.run_getObj_map hh,hck,h1,MapKept.run_setObj_map _ hh];rfl
   . exact H.mapSet hb hh hB hr (stamped_push hst fun y hy e1=>h3 y hy (e1▸hkey)) (hm'.push h3 hkey hval)
 . have he0:e0.key=a.eval i:=h3.1.trans hkey.1.symm;refine .inr (.inl ⟨_,hrun (setBlock w b (.map (es.modify j fun e' => { e' with key:=a.eval i,val:=a.eval v }) clock)) ?_,ρ,ro,?_⟩)
   . have hck:=Q80 (P:=P) (w:=w) hkc hkey.2 false;have hks:=Qp1 (P:=P) (w:=w) hkey.2;rw [<- hkey.1] at hck hks;simp only [Instr.mapUpdate,Sem.run_bind,run_underlying hu,Result.andThen_ok,MapKept.run_getObj_map hh,hck,h1,h2,Option.map_some,Option.getD_some,he0,hks,MapKept.run_setObj_map _ hh];rfl
   . exact H.mapSet hb hh hB hr (stamped_modify hst _ _ (fun _ _=>rfl) fun e' _ h6=>by rw [h2] at h6; injection h6 with h6; subst h6; exact he0.symm) (hm'.modify hst h2 h3 he0.symm hval)
theorem Qw6 {S':Sx} {d:Nat} {x:AV} (h:Qy B S N d x=some S'):S'=⟨(d,x)::S.t,S.e,S.n⟩:=by
 unfold Qy at h;split at h
 . cases h
 . cases h; rfl
theorem Qol {S':Sx} {d n:Nat} {x:AV} {e:List (Nat×En)} (h:Qy B S N d x=some S'):Qy B ⟨S.t,e,n⟩ N d x=some ⟨(d,x)::S.t,e,n⟩:=by
 unfold Qy at h ⊢;split at h
 . cases h
 . rename_i hc;simp only [hc,Bool.false_eq_true,if_false]
theorem Qut {C:Cx} (hty:Zw P C.ty) (H:Sim w0 S0 N B S a w) {T T' kt et loc d:Nat} {x i:Operand} {m:Unit->List Kx->Option t.el} {k:Unit->List Kx} {S':Sx} {ty:TypeId} {pos:String} {aft:Array Edge} {gd:Option (Nat×Bool)} (hT:Km C.ty T=some (.map kt et c t ag)) (hx:Z0 B S x = .mp loc) (he:Qh B S loc=some (.map fr ag c t T' m)) (hk:Q6s c (Z0 B S i)=some k) (hB:Q3 B.e loc=none) (hr:Q2e loc B.e=true) (hBn:Q3 B.e S.n=none)
 (hp:Qy B ⟨S.t,(S.n,.stamp loc c k)::(loc,.map fr ag c t T' fun _=>Yy (m ()) (k ()) ((m () (k ())).getD t.dflt))::Yz loc S.e,S.n+1⟩ N d (.tup [Yh ag fr t fun _=>(m () (k ())).getD t.dflt,.stamp S.n])=some S') :
 OpM P ⟨some d,.mapEntry T x i,ty,pos,aft,gd⟩ a w (Sim w0 S0 N B S'):=by
 obtain⟨ρ,ro,H⟩:=H;obtain⟨ti,_,hi,htb⟩:=Y7 hty hT;obtain⟨hu,hkc,_,jt,z,hj,hz,hzr⟩:=Qew (w:=w) (ρ := ρ) (base:=w0.heap.size) (ro:=ro) htb hi;have hax:=H.get x;rw [hx] at hax;obtain⟨b,hb,hxe⟩:=hax.mp_;obtain⟨b',es,clock,hb',hh,hst,hm⟩:=H.en _ _ he;rw [hb] at hb';injection hb' with hb';injection hb' with hb';subst hb';have hkey:=Qhc hk (H.get i);have hfin:∀ (es':Array MapEntry) (clock' s:Nat) (u:Value),(Instr.mapEntry T (.map (some b)) (a.eval i)).run P w = .ok (.tuple #[u,goInt s]) (setBlock w b (.map es' clock'))->AVR w ρ w0.heap.size ro (Yh ag fr t fun _=>(m () (k ())).getD t.dflt) u->Stamped es' clock'->Q00 w ρ w0.heap.size ro fr ag c t (Yy (m ()) (k ()) ((m () (k ())).getD t.dflt)) es'->(∃ e∈es'.toList,Yq c e.key (k ())/\e.born=s)->OpM P ⟨some d,.mapEntry T x i,ty,pos,aft,gd⟩ a w (Sim w0 S0 N B S'):=by
  intro es' clock' s u hrun hu' hs' hm' hes;have H1:=H.mapSet (T:=T') (m:=fun _=>Yy (m ()) (k ()) ((m () (k ())).getD t.dflt)) hb hh hB hr hs' hm';have hnone:=H1.fresh S.n (Nat.le_refl _);obtain⟨e,he1,he2,he3⟩:=hes;have H2:=H1.upd (w':=setBlock w b (.map es' clock')) (loc:=S.n) (n:=S.n+1) (r := .stamp s) (e := .stamp loc c k) H1.from_ (Nat.le_refl _) (fun _ _ _=>rfl) (fun b hb=>by cases hb) hBn (Nat.le_succ _) (Nat.lt_succ_self _) (.inl (Gs hnone)) (.inl fun b hb=>by rw [hnone] at hb; cases hb) ⟨b,es',clock',s,e,Zr _ _ _,Gs hnone _ _ hb,Q65 hh,he1,he2,he3⟩;have hnro:=(H.own loc _ b hb rfl).2.1;have hu2:AVR (setBlock w b (.map es' clock')) (Kq ρ S.n (.stamp s)) w0.heap.size ro (Yh ag fr t fun _=>(m () (k ())).getD t.dflt) u:=hu'.mono (fun b' hb' _=>Gq _ _ _ fun e=>hnro (e▸hb')) (Gs hnone) (Nat.le_refl _) fun _ h=>h;have hE:Qj (setBlock w b (.map es' clock')) (Kq ρ S.n (.stamp s)) w0.heap.size ro [Yh ag fr t fun _=>(m () (k ())).getD t.dflt,.stamp S.n] [u,goInt s] := .cons hu2 (.cons (.stamp _ _ (Zr _ _ _)) .nil);refine .inl ⟨.tuple #[u,goInt s],_,?_,_,_,H2.put hp (.tup _ _ hE.1 hE.2)⟩;unfold execOp;simp only [hxe,Sem.run_bind,hrun,Result.andThen_ok,Sem.run_pure]
 have hck:=Q80 (P:=P) (w:=w) hkc hkey.2 false;have hks:=Qp1 (P:=P) (w:=w) hkey.2;rw [<- hkey.1] at hck hks;rcases hm.find (P:=P) hkc hkey with ⟨h1,h2,h3⟩|⟨j,e0,x0,h1,h2,h3,h4,h5⟩
 . have hd:(m () (k ())).getD t.dflt=t.dflt:=by rw [h2]; rfl
   have hz2:AVR w ρ w0.heap.size ro (Yh ag fr t fun _=>t.dflt) z:=Q5k hzr fun _=>rfl;refine hfin (es.push ⟨a.eval i,z,clock⟩) (clock+1) clock z ?_ (by rw [hd]; exact hz2) (stamped_push hst fun y hy e1=>h3 y hy (e1▸hkey)) (by rw [hd]; exact hm.push h3 hkey hz2) ⟨⟨a.eval i,z,clock⟩,by simp,hkey,rfl⟩;simp only [Instr.mapEntry,Sem.run_bind,run_underlying hu,Result.andThen_ok,MapKept.run_getObj_map hh,hck,h1,Qse hj hz,MapKept.run_setObj_map _ hh,Sem.run_pure];rfl
 . have hd:(m () (k ())).getD t.dflt=x0:=by rw [h4]; rfl
   have he0:e0.key=a.eval i:=h3.1.trans hkey.1.symm;have hj':es.toList[j]? = some e0:=by simpa using h2
   have hjl:=(List.getElem?_eq_some_iff.1 hj').1;refine hfin (es.modify j fun e' => { e' with key:=a.eval i }) clock e0.born e0.val ?_ (by rw [hd]; exact h5) (stamped_modify hst _ _ (fun _ _=>rfl) fun e' _ h6=>by rw [h2] at h6; injection h6 with h6; subst h6; exact he0.symm) (by rw [hd]; exact hm.modify hst h2 h3 he0.symm h5) ⟨{ e0 with key:=a.eval i },?_,hkey,rfl⟩
   . simp only [Instr.mapEntry,Sem.run_bind,run_underlying hu,Result.andThen_ok,MapKept.run_getObj_map hh,hck,h1,h2,Option.map_some,Option.getD_some,he0,hks,MapKept.run_setObj_map _ hh,Sem.run_pure];rfl
   . rw [Array.toList_modify,ChangeMaps.modify_eq_set _ _ _ _ hj'];exact List.mem_iff_getElem?.2 ⟨j,by rw [List.getElem?_set,if_pos rfl,if_pos hjl]⟩
theorem Qpa (H:Sim w0 S0 N B S a w) {T T' loc l2:Nat} {f:Bool} {x s v:Operand} {m:Unit->List Kx->Option t.el} {k:Unit->List Kx} {e:Unit->t.el} {ty:TypeId} {pos:String} {aft:Array Edge} {gd:Option (Nat×Bool)} (hx:Z0 B S x = .mp loc) (hs:Z0 B S s = .stamp l2) (he:Qh B S loc=some (.map fr ag c t T' m)) (he2:Qh B S l2=some (.stamp loc c k)) (hel:Qfb ag t (Z0 B S v)=some (f,e)) (hB:Q3 B.e loc=none) (hr:Q2e loc B.e=true) :
 OpM P ⟨none,.entryStore T x s v,ty,pos,aft,gd⟩ a w (Sim w0 S0 N B ⟨S.t,(loc,.map (fr&&f) ag c t T' fun _=>Yy (m ()) (k ()) (e ()))::Yz loc S.e,S.n⟩):=by
 obtain⟨ρ,ro,H⟩:=H;have hax:=H.get x;rw [hx] at hax;obtain⟨b,hb,hxe⟩:=hax.mp_;have has:=H.get s;rw [hs] at has;obtain⟨sn,hsn,hse⟩:=has.stamp_;obtain⟨b',es,clock,hb',hh,hst,hm⟩:=H.en _ _ he;rw [hb] at hb';injection hb' with hb';injection hb' with hb';subst hb';obtain⟨b',es',clock',sn',e0,h1,h2,h3,h4,h5,h6⟩:=H.en _ _ he2;rw [hsn] at h1;injection h1 with h1;injection h1 with h1;subst h1;rw [hb] at h2;injection h2 with h2;injection h2 with h2;subst h2;rw [hh] at h3;injection h3 with h3;injection h3 with q1 q2;subst q1; subst q2; subst h6;have hval:=Q5k (fr':=fr&&f) (Qsq hel (H.get v)) (by simp only [Bool.and_eq_true]; exact fun h=>h.2);have hm':=hm.less (fr':=fr&&f) (by simp only [Bool.and_eq_true]; exact fun h=>h.1);obtain⟨j,hj⟩:=List.mem_iff_getElem?.1 h4;have hj':es[j]? = some e0:=by simpa using hj
 have hst':=(stamped_iff es clock).1 hst;have hidx:=WideElems.findIdx_born hst'.2.1 hj;have hidx2:es.findIdx? (fun e=>((e.born:Nat):Int)==((e0.born:Nat):Int))=some j:=by rw [WideElems.findIdx_arr]; exact hidx
 refine .inr (.inl ⟨setBlock w b (.map (es.modify j fun e' => { e' with val:=a.eval v }) clock),?_,ρ,ro,H.mapSet hb hh hB hr (stamped_modify hst _ _ (fun _ _=>rfl) fun _ _ _=>rfl) (hm'.modify hst hj' h5 rfl hval)⟩);unfold execOp;have hai:(asInt (goInt (e0.born:Int))).run P w = .ok (e0.born:Int) w:=rfl;simp only [hxe,hse,Instr.entryStore,Sem.run_bind,MapKept.run_getObj_map hh,Result.andThen_ok,Sem.run_pure,hai,hidx2,MapKept.run_setObj_map _ hh];rfl
end
section
variable {P:Program} {w w' w0:World} {ρ ρ':Nat->Option Rl} {base:Nat} {ro ro':Nat->Prop} {S0:Pm} {N:Nat} {B:Bs} {S:Sx} {a:Act} {fr ag:Bool} {c:Kc} {t:Tc} {K:Sx->Fm}
theorem Z4d {C:Cx} (hty:Zw P C.ty) (H:Sim w0 S0 N B S a w) {T T' kt et loc d:Nat} {c':Kc} {t':Tc} {ag':Bool} {x:Operand} {m:Unit->List Kx->Option t.el} {S':Sx} {ty:TypeId} {pos:String} {aft:Array Edge} {gd:Option (Nat×Bool)} (hT:Km C.ty T=some (.map kt et c' t' ag')) (hx:Z0 B S x = .mp loc) (he:Qh B S loc=some (.map fr ag c t T' m)) (hBn:Q3 B.e S.n=none) (hp:Qy B ⟨S.t,S.e,S.n+1⟩ N d (.it loc S.n)=some S') (hK:∀ n:Nat,True->(K ⟨S'.t,(S.n,.iter loc c (fun _ => []) fun _=>n)::S'.e,S'.n⟩).P) :
 OpM P ⟨some d,.range T x,ty,pos,aft,gd⟩ a w fun a' w'=>∃ S',Sim w0 S0 N B S' a' w'/\(K S').P:=by
 obtain⟨ρ,ro,H⟩:=H;obtain⟨ti,_,hi,htb⟩:=Y7 hty hT;obtain⟨hu,_,_,_⟩:=Qew (w:=w) (ρ := ρ) (base:=w0.heap.size) (ro:=ro) htb hi;have hax:=H.get x;rw [hx] at hax;obtain⟨b,hb,hxe⟩:=hax.mp_;obtain⟨b',es,clock,hb',hh,hst,hm⟩:=H.en _ _ he;rw [hb] at hb';injection hb' with hb';injection hb' with hb';subst hb';have hblt:=(Array.getElem?_eq_some_iff.1 hh).1;have hnone:=H.fresh S.n (Nat.le_refl _);have hkeep:∀ q,q<w.heap.size->(w.alloc (.mapIter (some b) clock #[] clock)).heap[q]? = w.heap[q]? := fun q hq=>Below.heap_alloc w _ q hq;have hst':=(stamped_iff es clock).1 hst;have H2:=H.upd (w':=w.alloc (.mapIter (some b) clock #[] clock)) (loc:=S.n) (n:=S.n+1) (r := .it w.heap.size) (e := .iter loc c (fun _ => []) fun _=>(Go.leftOf es #[]).size) (H.from_.alloc _) (by simp) (fun q hq _=>hkeep q hq) (fun q hq=>by
  injection hq with hq;subst hq;exact .inr ⟨Nat.le_refl _,by simp⟩) hBn (Nat.le_succ _) (Nat.lt_succ_self _) (.inl (Gs hnone)) (.inl fun q hq=>by rw [hnone] at hq; cases hq) ⟨b,w.heap.size,es,clock,clock,#[],clock,Zr _ _ _,Gs hnone _ _ hb,(hkeep b hblt).trans hh,heap_alloc_new w _,hst'.1,⟨Nat.le_refl _,Nat.le_refl _⟩,rfl,fun e _=>by simp,fun key r hr=>by cases hr⟩
 have hS':=Qw6 hp;have hp2:=Qol (e:=(S.n,.iter loc c (fun _ => []) fun _=>(Go.leftOf es #[]).size)::S.e) (n:=S.n+1) hp;have hfin:=hK (Go.leftOf es #[]).size trivial;rw [hS'] at hfin;refine .inl ⟨.pointer (some ⟨w.heap.size,0,none⟩),_,?_,_,⟨_,_,H2.put hp2 (.it _ _ _ (Zr _ _ _))⟩,hfin⟩;unfold execOp;simp only [Instr.range,hxe,Sem.run_bind,run_underlying hu,Result.andThen_ok,MapKept.run_getObj_map hh,Sem.run_pure];rfl
theorem Qxp {w w1:World} (h:w1=w\/w1=w.drew) (r:Nat) (o:Obj):w.grownBy (setBlock w1 r o) (some r):=by
 rcases h with rfl|rfl
 . exact Q9x _ _ _
 . exact⟨rfl,rfl,rfl,by rw [Q2g]; exact Nat.le_refl _,fun k _ hk=>Gq w.drew r o fun e=>hk (by rw [e])⟩
theorem Z6y (H:Sim w0 S0 N B S a w) {T loc l2 d:Nat} {x:Operand} {m:Unit->List Kx->Option t.el} {seen:Unit->List (List Kx)} {left:Unit->Nat} {S1 S2:Sx} {ty:TypeId} {pos:String} {aft:Array Edge} {gd:Option (Nat×Bool)} (hx:Z0 B S x = .it loc l2) (he:Qh B S loc=some (.map fr ag c t T m)) (hi:Qh B S l2=some (.iter loc c seen left)) (hB:Q3 B.e l2=none) (hp1:Qy B S N d (.tup [.blit false])=some S1) (hp2:Qy B S N d (.tup [.blit true,.un,.un])=some S2)
 (hK:(Fm.br (fun _=>left ()==0) (.all Unit (fun _=>∀ key x,Zd c.ls key=true->m () key=some x->key∈seen ()) fun _=>K S1) (.all (List Kx×Nat) (fun p=>Zd c.ls p.1=true/\(m () p.1).isSome=true/\p.1∉seen ()/\p.2<left ()) fun p=>K ⟨S2.t,(l2,.iter loc c (fun _=>p.1::seen ()) fun _=>p.2)::S2.e,S2.n⟩)).P) :
 OpM P ⟨some d,.next x false,ty,pos,aft,gd⟩ a w fun a' w'=>∃ S',Sim w0 S0 N B S' a' w'/\(K S').P:=by
 obtain⟨ρ,ro,H⟩:=H;have hax:=H.get x;rw [hx] at hax;obtain⟨b2,hb2,hxe⟩:=hax.it_;obtain⟨b,es,clock,hb,hh,hst,hm⟩:=H.en _ _ he;obtain⟨b',b2',es',clock',since,stamps,c0,h1,h2,h3,h4,h5,h6,h7,h8,h9⟩:=H.en _ _ hi;rw [hb2] at h1;injection h1 with h1;injection h1 with h1;subst h1;rw [hb] at h2;injection h2 with h2;injection h2 with h2;subst h2;rw [hh] at h3;injection h3 with h3;injection h3 with q1 q2;subst q1; subst q2;have hbb:b≠b2:=fun e=>by
  by_cases hl:loc=l2
  . subst hl;rw [hb] at hb2;cases hb2
  . exact H.apart loc l2 _ _ b hl hb hb2 rfl (by rw [e]; rfl)
 obtain⟨k1,k2⟩:=hK;have hexec:∀ v w2,(Instr.next (.pointer (some ⟨b2,0,none⟩)) false ty).run P w = .ok v w2->(execOp a.eval ⟨some d,.next x false,ty,pos,aft,gd⟩).run P w = .ok (.value v) w2:=by
  intro v w2 h;unfold execOp;simp only [hxe,Sem.run_bind,h,Result.andThen_ok,Sem.run_pure]
 rcases run_next_at (P:=P) w ty b2 b since c0 stamps es clock h4 hh h5 h6.1 with ⟨hz,hrun⟩|⟨e,he1,w1,hal,hrun⟩
 . have hleft:(left ()==0)=true:=by rw [h7,hz]; rfl
   have hall:=k1 hleft () fun key y hf hk=>by
    obtain⟨e,he1,he2⟩:=hm.2 key y hf hk;obtain⟨key',hk1,hk2⟩:=(h8 e he1).1 (all_seen es stamps hz e he1);rw [Q84 he2 hk2];exact hk1
   have hE:Qj w ρ w0.heap.size ro [.blit false] [.bool false] := .cons (.blit _) .nil;exact .inl ⟨_,_,hexec _ _ hrun,_,⟨_,_,H.put hp1 (.tup _ _ hE.1 hE.2)⟩,hall⟩
 . obtain⟨hem,hes⟩:=mem_left he1;obtain⟨key,y,g1,g2,g3⟩:=hm.1 e hem;have hpos:(left ()==0)=false:=by
    rw [h7];have:(Go.leftOf es stamps).size≠0:=fun h0=>by
     have h10:(Go.leftOf es stamps).toList.length=0:=by simpa using h0
     rw [List.length_eq_zero_iff.1 h10] at he1;cases he1
    simpa using this
   have hns:key∉seen ():=fun hk=>by
    have:=(h8 e hem).2 ⟨key,hk,g1⟩;rw [hes] at this;cases this
   have hfin:=k2 hpos (key,(Go.leftOf es (stamps.push e.born)).size) ⟨g1.2,by rw [g2]; rfl,hns,by rw [h7]; exact left_shrinks es stamps e he1⟩;have hh1:w1.heap[b]? = some (.map es clock):=by rcases hal with rfl|rfl<;>exact hh
   have hh2:w1.heap[b2]? = some (.mapIter (some b) since stamps c0):=by rcases hal with rfl|rfl<;>exact h4
   have hkeep:∀ q,q≠b2->(setBlock w1 b2 (.mapIter (some b) since (stamps.push e.born) clock)).heap[q]? = w.heap[q]? := fun q hq=>(Gq _ _ _ hq).trans (by rcases hal with rfl|rfl<;>rfl);have hst':=(stamped_iff es clock).1 hst;have hsz:(setBlock w1 b2 (.mapIter (some b) since (stamps.push e.born) clock)).heap.size=w.heap.size:=by rw [Q2g]; rcases hal with rfl|rfl<;>rfl
   have H2:=H.upd (w':=setBlock w1 b2 (.mapIter (some b) since (stamps.push e.born) clock)) (loc:=l2) (n:=S.n) (r := .it b2) (e := .iter loc c (fun _=>key::seen ()) fun _=>(Go.leftOf es (stamps.push e.born)).size) (H.from_.grown (Qxp hal _ _) (H.mine hb2 rfl)) (by rw [hsz]; exact Nat.le_refl _) (fun q _ hne=>hkeep q fun e1=>hne _ hb2 (by rw [e1]; rfl)) (fun q hq => .inl ⟨_,hb2,hq⟩) hB (Nat.le_refl _) (H.lt hb2) (.inl (by rw [Gn hb2]; exact Ext.refl _)) (.inl fun q hq=>by rw [hb2] at hq; cases hq) (by
    refine⟨b,b2,es,clock,since,stamps.push e.born,clock,Zr _ _ _,by rw [Gn hb2]; exact hb,(hkeep b hbb).trans hh,Q65 hh2,h5,⟨Nat.le_trans h6.1 h6.2,Nat.le_refl _⟩,rfl,fun e' he' => ?_,fun key' r' hr => ?_⟩
    . rw [contains_push];simp only [Bool.or_eq_true,beq_iff_eq];constructor
      . rintro (h|h)
        . obtain⟨key',q1,q2⟩:=(h8 e' he').1 h;exact⟨key',List.mem_cons_of_mem _ q1,q2⟩
        . have:e'=e:=born_inj hst'.2.1 he' hem h;subst this;exact⟨key,List.mem_cons_self,g1⟩
      . rintro⟨key',q1,q2⟩
        rcases List.mem_cons.1 q1 with rfl|q1
        . right;have:e'=e:=Go.entry_eq_of_key hst'.2.2 he' hem (q2.1.trans g1.1.symm);rw [this]
        . exact .inl ((h8 e' he').2 ⟨key',q1,q2⟩)
    . injection hr with r1 r2;subst r1;exact⟨rfl,e,hem,by simp,g1⟩)
   rw [Gn hb2] at H2;have hS2:=Qw6 hp2;rw [hS2] at hfin;have hE:Qj (setBlock w1 b2 (.mapIter (some b) since (stamps.push e.born) clock)) ρ w0.heap.size ro [.blit true,.un,.un] [.bool true,e.key,e.val] := .cons (.blit _) (.cons (.un _) (.cons (.un _) .nil));exact .inl ⟨_,_,hexec _ _ hrun,_,⟨_,_,H2.put (Qol hp2) (.tup _ _ hE.1 hE.2)⟩,hfin⟩
end
end Go.Proofs.YtffeegebohigdaaGreat
