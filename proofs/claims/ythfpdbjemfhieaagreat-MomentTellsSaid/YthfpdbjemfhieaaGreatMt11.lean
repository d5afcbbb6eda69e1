/-
  make of slices.
-/
import Derived.Test.YthfpdbjemfhieaaGreatMt10
set_option linter.unusedVariables false
set_option linter.unusedSimpArgs false
namespace Go.Proofs.YthfpdbjemfhieaaGreat
open Go.RowKit
section
variable {P:Program} {w w' w0:World} {ρ ρ':Nat->Option Rl} {base:Nat} {ro ro':Nat->Prop} {S0:Pm} {N:Nat} {B:Bs} {S:Sx} {a:Act}
theorem made_rowsV {z:Value} {size:Nat} (hz:z.cells.size=size) (h0:0<size):∀ n,(madeCells z.cells (n*size)).toList=(List.replicate n z.cells.toList).flatten:=by
 intro n;apply List.ext_getElem?;intro j;have hall:∀ cs∈List.replicate n z.cells.toList,cs.length=size:=by
  intro cs hcs;rw [(List.mem_replicate.1 hcs).2];simpa using hz
 by_cases hj:j<n*size
 . have hdm:=Nat.div_add_mod j size;have hm:=Nat.mod_lt j h0;have hk:j / size<n:=(Nat.div_lt_iff_lt_mul h0).2 hj;have e:j=j / size*size+j % size:=by rw [Nat.mul_comm]; exact hdm.symm
   have h1:=flat_get (List.replicate n z.cells.toList) hall (j / size) (j % size) hm;rw [<- e] at h1;rw [h1];rw [List.getElem?_replicate,if_pos hk,Option.bind_some];simp only [madeCells,hz,Array.toList_map,Array.toList_range,List.getElem?_map,List.getElem?_range hj,Option.map_some];rw [Array.getElem!_eq_getD];have hm2:j % size<z.cells.size:=by omega
   simp [hm2]
 . have h1:(madeCells z.cells (n*size)).toList.length=n*size:=by simp [size_madeCells]
   have h2:(List.replicate n z.cells.toList).flatten.length=n*size:=by rw [flat_len _ hall,List.length_replicate]
   rw [List.getElem?_eq_none (by omega),List.getElem?_eq_none (by omega)]
theorem makeN_ok (H:Sim w0 S0 N B S a w) {T e d n c:Nat} {t:Tc} {f:Bool} {x:Unit->List t.el} {S':Sx} {l cc:Operand} {ty:TypeId} {pos:String} {aft:Array Edge} {gd:Option (Nat×Bool)} {css:List (List Value)} (hB:alook B.e S.n=none) (hp:putT B ⟨S.t,(S.n,.row f t e x)::S.e,S.n+1⟩ N d (.own S.n)=some S') (hn:(x ()).length=n)
 (hrun:∃ w',(Instr.makeSlice T (a.eval l) (a.eval cc)).run P w = .ok (.slice (some ⟨w.heap.size,0,none⟩) n c) w'/\w'.ownsRow w.heap.size e t.size (.slice (some ⟨w.heap.size,0,none⟩) n c) n css.flatten/\w.grownBy w' none) (hlen:css.length=n) (hcl:∀ cs∈css,cs.length=t.size)
 (hcell:∀ (k:Nat) (cs:List Value) (w':World) (ρ':Nat->Option Rl) (ro':Nat->Prop),css[k]? = some cs->Each w' ρ' w0.heap.size ro' (cellsAV f t fun _=>(x ()).getD k t.dflt) cs) :
 OpM P ⟨some d,.makeSlice T l cc,ty,pos,aft,gd⟩ a w (Sim w0 S0 N B S'):=by
 obtain⟨ρ,ro,H⟩:=H;obtain⟨w',hrun,hrow,hg⟩:=hrun;have hnone:=H.fresh S.n (Nat.le_refl _);have hkeep:∀ q,q<w.heap.size->w'.heap[q]? = w.heap[q]? := fun q hq=>hg.block q hq (by simp);have hown:OwnS w' w.heap.size e t.size (some ⟨w.heap.size,0,none⟩) c css:=⟨by rw [hlen]; exact hrow,hcl⟩
 have hlt:w.heap.size<w'.heap.size:=(hown.lt rfl).2;have hown2:OwnS w' (rb f w0.heap.size) e t.size (some ⟨w.heap.size,0,none⟩) c css:=hown.base_le (Nat.le_trans (rb_le _ _) H.from_.size);have H2:=H.upd (w':=w') (loc:=S.n) (n:=S.n+1) (r := .row (some ⟨w.heap.size,0,none⟩) n c) (e := .row f t e x) (H.from_.grown hg fun k hk=>by cases hk) hg.size (fun q hq _=>hkeep q hq) (fun q hq2=>by
  have hq3:some w.heap.size=some q:=hq2;injection hq3 with hq3;subst hq3;exact .inr ⟨Nat.le_refl _,hlt⟩) hB (Nat.le_succ _) (Nat.lt_succ_self _) (.inl (ext_new hnone)) (.inl fun b hb=>by rw [hnone] at hb; cases hb) (by
  refine⟨some ⟨w.heap.size,0,none⟩,c,css,by rw [hn]; exact updR_self _ _ _,hown2,by rw [hn]; exact hlen,fun k cs j y u r1 r2 r3=>(hcell k cs _ _ _ r1).2 j y u r2 r3⟩)
 refine .inl ⟨_,_,?_,_,_,H2.put hp (.own _ _ _ _ (updR_self _ _ _))⟩;unfold execOp;simp only [Sem.run_bind,hrun,Result.andThen_ok,Sem.run_pure]
theorem make0_ok {C:Cx} (hty:TyOk P C.ty) (H:Sim w0 S0 N B S a w) {T e sz b d:Nat} {t:Tc} {kk:IntKind} {k:Unit->Int} {S':Sx} {l cc:Operand} {k0:IntKind} {ty:TypeId} {pos:String} {aft:Array Edge} {gd:Option (Nat×Bool)} (hT:tiOf C.ty T=some (.slice e sz b)) (hl:getO B S l = .lit k0 0) (hc:(getO B S cc).asInt=some (kk,k)) (hsz:t.size=sz) (hB:alook B.e S.n=none) (hp:putT B ⟨S.t,(S.n,.row true t e fun _ => [])::S.e,S.n+1⟩ N d (.own S.n)=some S') (hv:0<=k ()/\k ()*b<=281474976710656) :
 OpM P ⟨some d,.makeSlice T l cc,ty,pos,aft,gd⟩ a w (Sim w0 S0 N B S'):=by
 obtain⟨ρ,ro,H'⟩:=id H;obtain⟨i,_,hi,htb⟩:=tiOf_ hty hT;obtain⟨⟨hu,j,z,hj,hz,hjs,hjb,hzs,hs0⟩,hb0⟩:=ei_of htb hi;have e1:a.eval l = .int k0 0:=by have:=H'.get l; rw [hl] at this; exact this.lit_
 have e2:a.eval cc = .int kk (k ()):=asInt_ hc (H'.get cc);obtain⟨c,hck⟩:=Int.eq_ofNat_of_zero_le hv.1;have hcb:c*b<=281474976710656:=by
  have h3:=hv.2;rw [hck] at h3;have h4:((c*b:Nat):Int)<=281474976710656:=by rw [Int.natCast_mul]; exact h3
  omega
 have hcm:c<=maxLen:=by
  have:c*1<=c*b:=Nat.mul_le_mul_left _ hb0;unfold maxLen;omega
 subst hsz;refine makeN_ok (css := []) H hB hp rfl ?_ rfl (by simp) (fun k cs w' ρ' ro' h=>by simp at h) (c:=c);rw [e1,e2,hck];exact run_make_own w w.heap.size T e j z t.size hu hj hz hjs k0 kk c (by rw [hjb,Nat.mul_comm]; exact hcb) hcm (Nat.le_refl _)
theorem makeF_ok {C:Cx} (hty:TyOk P C.ty) (H:Sim w0 S0 N B S a w) {T e sz b d:Nat} {t:Tc} {k0 kk:IntKind} {n k:Unit->Int} {f:Bool} {x:Unit->t.el} {ie:TInf} {S':Sx} {l cc:Operand} {ty:TypeId} {pos:String} {aft:Array Edge} {gd:Option (Nat×Bool)} (hT:tiOf C.ty T=some (.slice e sz b)) (hl:getO B S l = .int k0 n) (hc:(getO B S cc).asInt=some (kk,k)) (hie:alook C.ty e=some ie) (hel:elOf t (.agg ie.z)=some (f,x)) (hz0:ie.z.isEmpty=false) (hsz:t.size=sz) (hB:alook B.e S.n=none) (hp:putT B ⟨S.t,(S.n,.row f t e fun _=>List.replicate (n ()).toNat (x ()))::S.e,S.n+1⟩ N d (.own S.n)=some S') (hv:0<=n ()/\n ()=k ()/\n ()*b<=281474976710656) :
 OpM P ⟨some d,.makeSlice T l cc,ty,pos,aft,gd⟩ a w (Sim w0 S0 N B S'):=by
 obtain⟨ρ,ro,H'⟩:=id H;obtain⟨i,_,hi,htb⟩:=tiOf_ hty hT;obtain⟨⟨hu,j,z,hj,hz,hjs,hjb,hzs,hs0⟩,hb0⟩:=ei_of htb hi;have e1:a.eval l = .int k0 (n ()):=by have:=H'.get l; rw [hl] at this; exact this.int_
 have e2:a.eval cc = .int kk (k ()):=asInt_ hc (H'.get cc);obtain⟨v1,v2,v3⟩:=hv;rw [<- v2] at e2;obtain⟨c,hck⟩:=Int.eq_ofNat_of_zero_le v1;have hcb:c*b<=281474976710656:=by
  have h3:=v3;rw [hck] at h3;have h4:((c*b:Nat):Int)<=281474976710656:=by rw [Int.natCast_mul]; exact h3
  omega
 have hcm:c<=maxLen:=by
  have:c*1<=c*b:=Nat.mul_le_mul_left _ hb0;unfold maxLen;omega
 subst hsz;have hc0:(n ()).toNat=c:=by rw [hck]; rfl
 have hzE:∀ (w':World) (ρ':Nat->Option Rl) (ro':Nat->Prop),Each w' ρ' w0.heap.size ro' (cellsAV f t x) z.cells.toList:=by
  intro w' ρ' ro';obtain⟨j',z',hj',hz',hE⟩:=tyB_zero (w:=w') (ρ := ρ') (base:=w0.heap.size) (ro:=ro') (hty e ie hie) hz0;rw [hj] at hj';injection hj' with hj';subst hj';rw [hz] at hz';injection hz' with hz';subst hz';obtain⟨vs,q1,q2,q3⟩:=elOf_ok hel (AVR.agg ie.z z.cells.toList hE.1 hE.2);have:vs=z.cells.toList:=by
   have q4:(Value.agg z.cells.toList.toArray).cells=z.cells.toList.toArray:=rfl;rw [q4] at q1;exact (congrArg Array.toList q1).symm
  rw [this] at q3;exact q3
 have hzl:z.cells.toList.length=t.size:=by simpa using hzs
 refine makeN_ok (css:=List.replicate c z.cells.toList) H hB hp (by rw [List.length_replicate]) ?_ (by rw [List.length_replicate,hc0]) (fun cs h=>by rw [(List.mem_replicate.1 h).2]; exact hzl) (fun q cs w' ρ' ro' h => ?_) (c:=c)
 . rw [e1,e2,hck];obtain⟨w',r1,r2,r3⟩:=run_make_full (P:=P) w w.heap.size T e j z t.size hu hj hz hjs k0 kk c (by rw [hjb,Nat.mul_comm]; exact hcb) hcm (Nat.le_refl _);refine⟨w',?_,?_,r3⟩
   . exact r1
   . rw [made_rowsV hzs hs0] at r2;exact r2
 . rw [List.getElem?_replicate] at h;split at h
   . rename_i hq;cases h;have e3:(List.replicate (n ()).toNat (x ())).getD q t.dflt=x ():=by
      rw [List.getD_eq_getElem?_getD,List.getElem?_replicate,if_pos (by omega)];rfl
     have e4:(fun (_:Unit)=>(List.replicate (n ()).toNat (x ())).getD q t.dflt)=x:=by funext u; exact e3
     rw [e4];exact hzE w' ρ' ro'
   . cases h
end
section
variable {P:Program} {w w' w0:World} {ρ ρ':Nat->Option Rl} {base:Nat} {ro ro':Nat->Prop} {S0:Pm} {N:Nat} {B:Bs} {S:Sx} {a:Act}
theorem slice_ok {C:Cx} (hty:TyOk P C.ty) (H:Sim w0 S0 N B S a w) {T e sz b len d:Nat} {parts:Array (Nat×Operand)} {t:Tc} {xs:List AV} {f:Bool} {es:List (Unit->t.el)} {S':Sx} {ty:TypeId} {pos:String} {aft:Array Edge} {gd:Option (Nat×Bool)} (hT:tiOf C.ty T=some (.slice e sz b)) (hin:inOrder 0 (parts.toList.map fun p=>(p.1,getO B S p.2))=some xs) (hes:elsOf t xs=some (f,es)) (hsz:t.size=sz) (hlen:es.length=len) (hmax:len*sz<=16777216) (hB:alook B.e S.n=none) (hp:putT B ⟨S.t,(S.n,.row f t e fun _=>es.map fun g=>g ())::S.e,S.n+1⟩ N d (.own S.n)=some S') :
 OpM P ⟨some d,.buildSlice T len parts,ty,pos,aft,gd⟩ a w (Sim w0 S0 N B S'):=by
 obtain⟨ρ,ro,H⟩:=H;obtain⟨i,_,hi,htb⟩:=tiOf_ hty hT;obtain⟨⟨hu,j,z,hj,hz,hjs,_,hzs,hs0⟩,_⟩:=ei_of htb hi;subst hsz;obtain⟨h1,h2⟩:=inOrder_ok hin;have hE:Each w ρ w0.heap.size ro (parts.toList.map fun p=>getO B S p.2) (parts.toList.map fun p=>a.eval p.2):=each_map fun p _=>H.get p.2;have hxs:xs=parts.toList.map fun p=>getO B S p.2:=by rw [<- h1]; simp
 rw [<- hxs] at hE;obtain⟨css,q1,q2,q3⟩:=elsOf_ok hes hE;have hcl:∀ cs∈css,cs.length=t.size:=fun cs hcs=>by
  obtain⟨k,hk⟩:=List.mem_iff_getElem?.1 hcs;have hlt:=(List.getElem?_eq_some_iff.1 hk).1;exact (q3 k cs _ hk (List.getElem?_eq_getElem (by omega))).1
 have hpl:parts.toList.length=len:=by
  have:css.length=parts.toList.length:=by
   have:=congrArg List.length q1;simpa using this.symm
  omega
 have h2':parts.toList.map (·.1)=List.range' 0 parts.toList.length:=by simpa [Function.comp_def] using h2
 have hfill:=fill_rows (size:=t.size) (parts.toList.map fun p=>(p.1,a.eval p.2)) css 0 [] (((Array.range (len*t.size)).map fun (k:Nat)=>z.cells[k % z.cells.size]!).toList) (by rw [<- q1]; simp) (by simpa [Function.comp_def] using h2') hcl (by simp) (by simp [<- hpl]);have hrun:(execOp a.eval ⟨some d,.buildSlice T len parts,ty,pos,aft,gd⟩).run P w = .ok (.value (.slice (some ⟨w.heap.size,0,none⟩) len len)) (w.alloc (.cells css.flatten.toArray e)):=by
  have hparts:(parts.map fun (i,x)=>(i,a.eval x)).toList=parts.toList.map fun p=>(p.1,a.eval p.2):=by simp
  have hz0:=run_zeroValue (w:=w) hj hz;unfold execOp;simp only [Instr.buildSlice,underlying,sizeOf,typeInfo,Sem.run_bind,Sem.run_pure,Result.andThen_ok,run_program,hu,hj,hjs];by_cases h0:len=0
  . subst h0;have hp0:parts.toList = []:=List.eq_nil_of_length_eq_zero hpl;have hc0:css = []:=List.eq_nil_of_length_eq_zero (by omega);simp only [Nat.zero_mul,show ¬ (0>2^24) by decide,if_true,if_false,Sem.run_bind,Sem.run_pure,Result.andThen_ok,hparts,hp0,List.map_nil,hc0];rw [Instr.fill];have e0:Array.range 0 = #[]:=by apply Array.ext'; simp
    simp only [e0,List.map_toArray,List.map_nil,List.flatten_nil];rfl
  have hne:¬ len*t.size=0:=fun h=>by rcases Nat.mul_eq_zero.1 h with h|h<;>omega
  simp only [show ¬ (len*t.size>2^24) by omega,hne,if_false,Sem.run_bind,Sem.run_pure,Result.andThen_ok,hz0,hparts];rw [List.nil_append,Array.toArray_toList] at hfill;rw [hfill,List.nil_append];rfl
 have hnone:=H.fresh S.n (Nat.le_refl _);have hkeep:∀ q,q<w.heap.size->(w.alloc (.cells css.flatten.toArray e)).heap[q]? = w.heap[q]? := fun q hq=>Below.heap_alloc w _ q hq;have hlen3:(es.map fun g=>g ()).length=len:=by simp [hlen]
 have hcl3:css.length=len:=by omega
 have hml:css.length<=maxLen:=by
  have:len*1<=len*t.size:=Nat.mul_le_mul_left _ hs0;unfold maxLen;omega
 have hown:=own_rows (base:=rb f w0.heap.size) (heap_alloc_new w (.cells css.flatten.toArray e)) hcl (Nat.le_trans (rb_le _ _) H.from_.size) hml;rw [hcl3] at hown;have H2:=H.upd (w':=w.alloc (.cells css.flatten.toArray e)) (loc:=S.n) (n:=S.n+1) (r := .row (some ⟨w.heap.size,0,none⟩) len len) (e := .row f t e fun _=>es.map fun g=>g ()) (H.from_.alloc _) (by simp) (fun q hq _=>hkeep q hq) (fun q hq2=>by
  have hq3:some w.heap.size=some q:=hq2;injection hq3 with hq3;subst hq3;exact .inr ⟨Nat.le_refl _,by simp⟩) hB (Nat.le_succ _) (Nat.lt_succ_self _) (.inl (ext_new hnone)) (.inl fun b hb=>by rw [hnone] at hb; cases hb) (by
  refine⟨some ⟨w.heap.size,0,none⟩,len,css,by rw [hlen3]; exact updR_self _ _ _,hown,by rw [hlen3]; exact hcl3,fun k cs j y u r1 r2 r3 => ?_⟩
  . have hk:=(List.getElem?_eq_some_iff.1 r1).1;have hke:es[k]? = some (es[k]'(by omega)):=List.getElem?_eq_getElem _;have r4:=(q3 k cs _ r1 hke).2;rw [show ((es.map fun g=>g ()).getD k t.dflt)=(es[k]'(by omega)) () by simp [List.getD_eq_getElem?_getD,hke]] at r2;exact (r4.2 j y u r2 r3).mono (fun q _ hlt=>hkeep q hlt) (ext_new hnone) (Nat.le_refl _) fun _ h=>h)
 refine .inl ⟨_,_,hrun,_,_,H2.put hp (.own _ _ _ _ (updR_self _ _ _))⟩
theorem storeO_ok {C:Cx} (hty:TyOk P C.ty) (H:Sim w0 S0 N B S a w) {T:Nat} {i:TInf} {x y:Operand} {t:Tc} {loc off T':Nat} {k:Unit->Int} {fr f:Bool} {l:Unit->List t.el} {e:Unit->t.el} {cs:List AV} {ty:TypeId} {pos:String} {aft:Array Edge} {gd:Option (Nat×Bool)} (hi:alook C.ty T=some i) (hc:cellsOf (getO B S y)=some cs) (hx:getO B S x = .orp t loc k off) (he:lookE B S loc=some (.row fr t T' l)) (hl:cs.length=i.sz) (hfit:off+i.sz<=t.size) (h1:cs.all AV.one=true) (hB:alook B.e loc=none) (hel:elOf t (.agg ((cellsAV fr t fun _=>(l ()).getD (k ()).toNat t.dflt).take off++cs++(cellsAV fr t fun _=>(l ()).getD (k ()).toNat t.dflt).drop (off+i.sz)))=some (f,e)) (hf:fr=true->f=true) :
 OpM P ⟨none,.store T x y,ty,pos,aft,gd⟩ a w (Sim w0 S0 N B ⟨S.t,(loc,.row fr t T' fun _=>(l ()).set (k ()).toNat (e ()))::S.e,S.n⟩):=by
 obtain⟨ρ,ro,H⟩:=H;have hax:=H.get x;rw [hx] at hax;obtain⟨A,n,c,b,hA,rfl,hk0,hkn,hxe⟩:=hax.orp_;obtain⟨A',c',css,hA',hown,hlen,hcell⟩:=H.en _ _ he;rw [hA] at hA';injection hA' with hA';injection hA' with e1 e2 e3;subst e1; subst e2; subst e3;obtain⟨vs,hv,hE2⟩:=cellsOf_ok hc (H.get y);obtain⟨j,hj,hjs,_⟩:=tyB_info (hty T i hi);have hvl:vs.length=i.sz:=by rw [<- hE2.1]; exact hl
 obtain⟨kk,hkk⟩:∃ kk:Nat,kk=(k ()).toNat:=⟨_,rfl⟩
 rw [<- hkk] at hxe hel ⊢;have hklt:kk<css.length:=by omega
 obtain⟨h63,h0⟩|⟨g,cap,cur,heq,hbase,hg,hnc,hcm,hcs,htake⟩:=hown.1.2
 . cases h63
 . simp only [Value.slice.injEq,Option.some.injEq,Addr.mk.injEq,and_true,true_and] at heq;obtain⟨rfl,rfl⟩:=heq;have hflat:=flat_len css hown.2;have hrowfit:kk*t.size+off+i.sz<=css.length*t.size:=by
    have:(kk+1)*t.size<=css.length*t.size:=Nat.mul_le_mul_right _ hklt;rw [Nat.add_mul] at this;omega
   have hcapfit:css.length*t.size<=c*t.size:=Nat.mul_le_mul_right _ hnc;have hrun:=run_store_cells (P:=P) (w:=w) (T:=T) (n:=i.sz) (g:=b) (off:=kk*t.size+off) (t:=T') (cur:=cur) (v:=a.eval y) (cs:=vs) (by rw [hj]; simp [hjs]) (cells_toList hv) hvl hg (by omega) (all_one h1 hE2);generalize hcur':(cur.toList.take (kk*t.size+off)++vs++cur.toList.drop (kk*t.size+off+i.sz)).toArray=cur' at hrun;have hexec:(execOp a.eval ⟨none,.store T x y,ty,pos,aft,gd⟩).run P w = .ok .skip (w.setRow b cur'):=by
    unfold execOp;simp only [Instr.storeAt,Instr.sureAddr,hxe,Sem.run_bind,Sem.run_pure,Result.andThen_ok,hrun]
   have hln:loc<S.n:=by
    rcases Nat.lt_or_ge loc S.n with h|h
    . exact h
    . have:=H.fresh loc h; rw [hA] at this; cases this
   have hnb:¬ ro b:=(H.own loc _ b hA rfl).2.1;have hw:∀ b',ro b'->b'<w.heap.size->(w.setRow b cur').heap[b']? = w.heap[b']? := fun b' hb' _=>setRow_other _ _ _ _ (fun e=>hnb (e▸hb'));generalize hrow:(css[kk]).take off++vs++(css[kk]).drop (off+i.sz)=row' at *
   have hrl:(css[kk]).length=t.size:=hown.2 _ (List.getElem_mem hklt);have hrl':row'.length=t.size:=by rw [<- hrow]; simp [hrl,hvl]; omega
   have hset:cur'.toList.take (css.length*t.size)=(css.set kk row').flatten:=by
    have hsn:=set_flatN css hown.2 kk off i.sz vs hklt hfit hvl;rw [hrow] at hsn;rw [<- hsn,<- hcur'];have hsplit:cur.toList=css.flatten++cur.toList.drop (css.length*t.size):=by
     rw [<- htake,List.take_append_drop]
    have e1:(css.flatten++cur.toList.drop (css.length*t.size)).take (kk*t.size+off)=css.flatten.take (kk*t.size+off):=List.take_append_of_le_length (by omega);have e2:(css.flatten++cur.toList.drop (css.length*t.size)).drop (kk*t.size+off+i.sz)=css.flatten.drop (kk*t.size+off+i.sz)++cur.toList.drop (css.length*t.size):=List.drop_append_of_le_length (by omega);rw [hsplit,e1,e2,<- List.append_assoc];exact List.take_left' (by simp only [List.length_append,List.length_take,List.length_drop,hflat,hvl]; omega)
   have hown2:OwnS (w.setRow b cur') (rb fr w0.heap.size) T' t.size (some ⟨b,0,none⟩) c (css.set kk row'):=by
    refine⟨⟨?_,.inr ⟨b,c,cur',by simp,hbase,setRow_heap w b _ _ T' _ hg,by simpa using hnc,hcm,?_,?_⟩⟩,fun r hr => ?_⟩
    . rw [List.length_set];rw [flat_len (css.set kk row') (fun r hr=>by
       rcases List.mem_or_eq_of_mem_set hr with h|h
       . exact hown.2 r h
       . rw [h]; exact hrl'),List.length_set]
    . rw [<- hcur'];simp [hvl];omega
    . rw [List.length_set]; exact hset
    . rcases List.mem_or_eq_of_mem_set hr with h|h
      . exact hown.2 r h
      . rw [h]; exact hrl'
   have hold:Each w ρ w0.heap.size ro (cellsAV fr t fun _=>(l ()).getD kk t.dflt) css[kk]:=row_each hrl fun j y v q1 q2=>hcell _ _ j y v (List.getElem?_eq_getElem hklt) q1 q2;have hnew:=(((hold.take off).append hE2).append (hold.drop (off+i.sz)))
   rw [hrow] at hnew;obtain⟨us,hus,husl,hE3⟩:=elOf_ok hel (.agg _ _ hnew.1 hnew.2);have hus':us=row':=by
    have:row'.toArray=us.toArray:=hus;exact (List.toArray_inj this).symm
   subst hus';have H2:=H.upd (w':=w.setRow b cur') (loc:=loc) (n:=S.n) (r := .row (some ⟨b,0,none⟩) (l ()).length c) (e := .row fr t T' fun _=>(l ()).set kk (e ())) (H.from_.grown (setRow_grown _ _ _) (H.mine hA rfl)) (by rw [setRow_size]; exact Nat.le_refl _) (fun b' hb' hne=>setRow_other _ _ _ _ (fun e=>hne _ hA (by rw [e]; rfl))) (fun b' hb' => .inl ⟨_,hA,hb'⟩) hB (Nat.le_refl _) hln (.inl (by rw [updR_same hA]; exact Ext.refl _)) (.inl fun q hq=>by rw [hA] at hq; cases hq) (by
    refine⟨some ⟨b,0,none⟩,c,css.set kk us,by simp only [List.length_set]; exact updR_self _ _ _,hown2,by simp [hlen],fun k' cs' j y u q1 q2 q3 => ?_⟩;rw [updR_same hA];refine AVR.mono ?_ hw (Ext.refl _) (Nat.le_refl _) fun _ h=>h;rw [List.getElem?_set] at q1;split at q1
    . rename_i hkk';subst hkk'
      first|rw [if_pos hklt] at q1|skip
      injection q1 with q1;subst q1;rw [show ((l ()).set kk (e ())).getD kk t.dflt=e () by simp [List.getD_eq_getElem?_getD,List.getElem?_set_self (show kk<(l ()).length by omega)]] at q2;exact (each_less hE3 hf).2 j y u q2 q3
    . rename_i hne;rw [show ((l ()).set kk (e ())).getD k' t.dflt=(l ()).getD k' t.dflt by simp [List.getD_eq_getElem?_getD,List.getElem?_set_ne hne]] at q2;exact hcell k' cs' j y u q1 q2 q3)
   exact .inr (.inl ⟨_,hexec,_,_,H2⟩)
theorem memOp_ok {C:Cx} (hfx:S0.fx=C.fx) (hty:TyOk P C.ty) (H:Sim w0 S0 N B S a w) {o:Oper} {S':Sx} {vcs:List VC} (h:memOp C N B S o=some (S',vcs)) (hv:∀ c∈vcs,c ()):OpM P o a w (Sim w0 S0 N B S'):=by
 obtain⟨dst,op,ty,pos,aft,gd⟩:=o;unfold memOp at h;dsimp only at h;split at h
 . rename_i T;split at h
   . rename_i i d hi;split at h
     . cases h
     . rename_i hc;simp only [Bool.or_eq_true,not_or,Bool.not_eq_true,Option.isSome_eq_false_iff,Option.isNone_iff_eq_none] at hc
       cases hp:putT B ⟨S.t,(S.n,.box T i.z)::S.e,S.n+1⟩ N d (.ptr S.n 0) with
       | none=>rw [hp] at h; cases h
       | some S2=>rw [hp] at h; cases h; exact alloc_ok hty H hi hc.1 hc.2 hp
   . cases h
 . rename_i T x;split at h
   . rename_i cs d hcs;split at h
     . cases h
     . rename_i hc;simp only [Bool.not_eq_true,Option.isSome_eq_false_iff,Option.isNone_iff_eq_none] at hc
       cases hp:putT B ⟨S.t,(S.n,.box T cs)::S.e,S.n+1⟩ N d (.ptr S.n 0) with
       | none=>rw [hp] at h; cases h
       | some S2=>rw [hp] at h; cases h; exact box_ok H hcs hc hp
   . cases h
 . rename_i T ad x;split at h
   . rename_i i cs loc off hi hcs hx;split at h
     . rename_i T' cells he;split at h
       . rename_i hc;simp only [Bool.and_eq_true,beq_iff_eq,decide_eq_true_eq,Option.isNone_iff_eq_none] at hc;cases h;exact storeB_ok hty H hi hcs hx he hc.1.1.1 hc.1.1.2 hc.1.2 hc.2
       . cases h
     . cases h
   . rename_i i cs t loc k off hi hcs hx;split at h
     . rename_i fr t' T' l he;split at h
       . rename_i ht;subst ht;split at h
         . rename_i hc;simp only [Bool.and_eq_true,beq_iff_eq,decide_eq_true_eq,Option.isNone_iff_eq_none] at hc;split at h
           . rename_i f e hel;split at h
             . rename_i hff;cases h;exact storeO_ok hty H hi hcs hx he hc.1.1.1 hc.1.1.2 hc.1.2 hc.2 hel (fun hfr=>by rw [hfr] at hff; simpa using hff)
             . cases h
           . cases h
         . cases h
       . cases h
     . cases h
   . cases h
 . rename_i T len parts;split at h
   . rename_i e sz b d hT;split at h
     . rename_i t ht;split at h
       . rename_i xs hin;split at h
         . rename_i f es hes;split at h
           . rename_i hc;simp only [Bool.and_eq_true,beq_iff_eq,decide_eq_true_eq,Option.isNone_iff_eq_none] at hc
             cases hp:putT B ⟨S.t,(S.n,.row f t e fun _=>es.map fun g=>g ())::S.e,S.n+1⟩ N d (.own S.n) with
             | none=>rw [hp] at h; cases h
             | some S2=>rw [hp] at h; cases h; exact slice_ok hty H hT hin hes hc.1.1.1 hc.1.1.2 hc.1.2 hc.2 hp
           . cases h
         . cases h
       . cases h
     . cases h
   . cases h
 . rename_i T l c;split at h
   . rename_i e sz b d hT;split at h
     . rename_i t ht;split at h
       . rename_i k0 kk k hl hk;split at h
         . rename_i hc;simp only [Bool.and_eq_true,beq_iff_eq,Option.isNone_iff_eq_none] at hc
           cases hp:putT B ⟨S.t,(S.n,.row true t e fun _ => [])::S.e,S.n+1⟩ N d (.own S.n) with
           | none=>rw [hp] at h; cases h
           | some S2=>rw [hp] at h; cases h; exact make0_ok hty H hT hl hk hc.1 hc.2 hp (hv _ (.head _))
         . cases h
       . rename_i k0 n kk k hl hk;split at h
         . rename_i ie hie;split at h
           . rename_i f x hel;split at h
             . rename_i hc;simp only [Bool.and_eq_true,beq_iff_eq,Option.isNone_iff_eq_none,Bool.not_eq_true'] at hc
               cases hp:putT B ⟨S.t,(S.n,.row f t e fun _=>List.replicate (n ()).toNat (x ()))::S.e,S.n+1⟩ N d (.own S.n) with
               | none=>rw [hp] at h; cases h
               | some S2=>rw [hp] at h; cases h; exact makeF_ok hty H hT hl hk hie hel hc.2 hc.1.1 hc.1.2 hp (hv _ (.head _))
             . cases h
           . cases h
         . cases h
       . cases h
     . cases h
   . cases h
 . rename_i T;split at h
   . rename_i kt et c t ag d hT;split at h
     . cases h
     . rename_i hc;simp only [Bool.not_eq_true,Option.isSome_eq_false_iff,Option.isNone_iff_eq_none] at hc
       cases hp:putT B ⟨S.t,(S.n,.map true ag c t T fun _ _=>none)::S.e,S.n+1⟩ N d (.mp S.n) with
       | none=>rw [hp] at h; cases h
       | some S2=>rw [hp] at h; cases h; exact makeMap_ok H hc hp
   . cases h
 . rename_i T x i v;split at h
   . rename_i kt et c t ag loc hT hx;split at h
     . rename_i fr ag' c' t' T' m k he hk;split at h
       . rename_i hc;obtain⟨rfl,rfl,rfl⟩:=hc;split at h
         . rename_i f e hel;split at h
           . rename_i hb;simp only [Bool.and_eq_true,Option.isNone_iff_eq_none] at hb;cases h;exact mapUpdate_ok hty H hT hx he hk hel hb.1 hb.2
           . cases h
         . cases h
       . cases h
     . cases h
   . cases h
 . rename_i T x i;split at h
   . rename_i kt et c t ag loc d hT hx;split at h
     . rename_i fr ag' c' t' T' m k he hk;split at h
       . rename_i hc;obtain⟨rfl,rfl,rfl⟩:=hc;split at h
         . rename_i hb;simp only [Bool.and_eq_true,Option.isNone_iff_eq_none] at hb
           cases hp:putT B ⟨S.t,(S.n,.stamp loc c' k)::(loc,.map fr ag' c' t' T' fun _=>setM (m ()) (k ()) ((m () (k ())).getD t'.dflt))::dropRef loc S.e,S.n+1⟩ N d (.tup [elAV ag' fr t' fun _=>(m () (k ())).getD t'.dflt,.stamp S.n]) with
           | none=>rw [hp] at h; cases h
           | some S2=>rw [hp] at h; cases h; exact mapEntry_ok hty H hT hx he hk hb.1.1 hb.1.2 hb.2 hp
         . cases h
       . cases h
     . cases h
   . cases h
 . rename_i T x s v;split at h
   . rename_i loc l2 hx hs;split at h
     . rename_i fr ag c t T' m ml c' key he he2;split at h
       . rename_i hc;obtain⟨rfl,rfl⟩:=hc;split at h
         . rename_i f e hel;split at h
           . rename_i hb;simp only [Bool.and_eq_true,Option.isNone_iff_eq_none] at hb;cases h;exact entryStore_ok H hx hs he he2 hel hb.1 hb.2
           . cases h
         . cases h
       . cases h
     . cases h
   . cases h
 . rename_i c;obtain⟨callee,cargs,cts⟩:=c;dsimp only at h;split at h
   . rename_i s x T T2 d hargs hts;have ha:cargs = #[s,x]:=by simpa using congrArg List.toArray hargs
     have ht:cts = #[T,T2]:=by simpa using congrArg List.toArray hts
     subst ha; subst ht;split at h
     . rename_i hTT;have hTT':=eq_of_beq hTT;subst hTT';split at h
       . rename_i e sz b hT;split at h
         . rename_i loc hs;split at h
           . rename_i fr t e' l he;split at h
             . rename_i hc;simp only [Bool.and_eq_true,beq_iff_eq,Option.isNone_iff_eq_none] at hc;obtain⟨⟨⟨⟨rfl,hsz⟩,hB⟩,hq⟩,hf0⟩:=hc;split at h
               . rename_i f m hn;split at h
                 . cases h
                 . cases hp:putT B ⟨(kill loc S).t,(loc,.row (fr&&f) t e' fun _=>l ()++m ())::(kill loc S).e,S.n⟩ N d (.own loc) with
                   | none=>rw [hp] at h; cases h
                   | some S2=>rw [hp] at h; cases h; exact append_ok hty H hT hs he hsz hB hq hn hp (hv _ (.head _)) (by rw [hfx]; simpa using hf0)
               . cases h
             . cases h
           . cases h
         . rename_i hs;split at h
           . rename_i t ht;split at h
             . rename_i hc;simp only [Bool.and_eq_true,beq_iff_eq,Option.isNone_iff_eq_none] at hc;split at h
               . rename_i f m hn
                 cases hp:putT B ⟨S.t,(S.n,.row f t e m)::S.e,S.n+1⟩ N d (.own S.n) with
                 | none=>rw [hp] at h; cases h
                 | some S2=>rw [hp] at h; cases h; exact append0_ok hty H hT hs hc.1 hc.2 hn hp (hv _ (.head _))
               . cases h
             . cases h
           . cases h
         . cases h
       . cases h
     . cases h
   . cases h
 . cases h
structure CxOk (P:Program) (C:Cx) (S0:Pm):Prop where
 cs:∀ c∈C.cs,ConOk P c
 fs:∀ c∈C.fs,FonOk P c
 fx:S0.fx=C.fx
 pl:∀ l r,S0.pl l=some r->l<C.nb
theorem findFon_ok {cs:List Fon} {f:FuncId} {c:Fon} (hcs:∀ c∈cs,FonOk P c) (h:findFon cs f=some c):FonOk P c/\c.f=f:=by
 induction cs with
 | nil=>cases h
 | cons c' cs ih =>
  unfold findFon at h;split at h
  . rename_i hf;injection h with h;subst h;exact⟨hcs _ (.head _),eq_of_beq hf⟩
  . exact ih (fun c hc=>hcs c (.tail _ hc)) h
theorem callOp_ok {C:Cx} (hcs:CxOk P C S0) (H:Sim w0 S0 N B S a w) {o:Oper} {S':Sx} {vcs:List VC} (h:callOp C N B S o=some (S',vcs)) (hv:∀ c∈vcs,c ()):OpM P o a w (Sim w0 S0 N B S'):=by
 obtain⟨dst,op,ty,pos,aft,gd⟩:=o;unfold callOp at h;dsimp only at h;split at h
 . rename_i c;obtain⟨callee,cargs,cts⟩:=c;dsimp only at h;split at h
   . rename_i f;split at h
     . rename_i fo hfo;split at h
       . rename_i avs st havs;split at h
         . rename_i res hres;split at h
           . rename_i hc;simp only [Bool.and_eq_true,beq_iff_eq] at hc;obtain⟨⟨⟨⟨hlen,hfree⟩,hall⟩,hnew⟩,hfix⟩:=hc;have hfix':S0.fx=true->fo.fix=true:=fun h=>by rw [hcs.fx] at h; simpa [h] using hfix
             obtain⟨hok,rfl⟩:=findFon_ok hcs.fs hfo;obtain⟨ρ,ro,H⟩:=H;split at h
             . rename_i d
               cases hp:putT B ⟨(forget fo.fix st.locs S).t,renE (renN st.locs S.n) res.es++(forget fo.fix st.locs S).e,S.n+(maxK fo.n (keysOf res.es) - fo.n)⟩ N d (AV.ren (renN st.locs S.n) res.av) with
               | none=>rw [hp] at h; cases h
               | some S2 =>
                rw [hp] at h;cases h;have hpre:=hv _ (.head _);have hE:Each w ρ w0.heap.size ro (cargs.toList.map (getO B S)) (cargs.toList.map a.eval):=each_map fun x _=>H.get x;obtain⟨hcop,hargs⟩:=coercePs_ok (fun l e he=>H.en l e he) _ _ _ _ _ _ havs hE;have hnd:=hcop.nodup List.nodup_nil;have hsome:∀ l∈st.locs,∃ r,ρ l=some r:=fun l hl=>(hcop.some_ l hl).resolve_left (by simp);have hcall:=hok.2 avs st.es res hres w (ρL ρ st.locs) ro (cargs.toList.map a.eval) H.roB (hargs st.locs ⟨[],by simp⟩) (fun l e he=>(hcop.en st.locs ⟨[],by simp⟩ l e he).resolve_left (by simp [alook])) (fun l l' r r' b hne h1 h2 h3 h4=>by
                 obtain⟨x,hx,hxr⟩ := ρL_from h1;obtain⟨y,hy,hyr⟩ := ρL_from h2;refine H.apart x y r r' b (fun e=>hne ?_) hxr hyr h3 h4;subst e;exact (List.getElem?_inj (List.getElem?_eq_some_iff.1 hx).1 hnd).1 (hx.trans hy.symm)) (fun l hl=>by unfold ρL; rw [List.getElem?_eq_none (by omega)]) (fun l r b h1 h2=>by
                 obtain⟨x,hx,hxr⟩ := ρL_from h1;have:=H.own x r b hxr h2;exact⟨this.1,this.2.1⟩) hpre
                have hrun:(execOp a.eval ⟨some d,.call { callee := .value (.func fo.f),args:=cargs,argTypes:=cts },ty,pos,aft,gd⟩).run P w = .ok (.enter fo.f (cargs.toList.map a.eval).toArray) w:=by
                 have:=ok_callC (P:=P) (r:=a.eval) (d:=some d) (ty:=ty) (pos:=pos) (aft:=aft) (gd:=gd) (w:=w) (c := .func fo.f) (xs:=cargs) (ts:=cts) (vs := []) (F:=fo.f) rfl hok.1;simpa using this
                refine .inr (.inr ⟨_,_,hrun,hcall.mono fun e w' hq => ?_⟩);obtain⟨v,ρ1,ra1,rfl,hL,hr⟩:=hq;obtain⟨ρ',H2,hre⟩:=H.called hlen hnd hsome hfree hall hnew hfix' hL;exact⟨v,rfl,ρ',_,H2.put hp ((hr.ren hre).mono (fun _ _ _=>rfl) (Ext.refl _) H.from_.size fun b hb => .inr hb)⟩
             . cases h
           . cases h
         . cases h
       . cases h
     . cases h
   . cases h
 . cases h
theorem cellsAV_nova (t:Tc) (x:Unit->t.el):AV.novaL (cellsAV true t x)=true:=by cases t<;>rfl
theorem novaL_get:∀ {l:List AV} {j:Nat} {x:AV},AV.novaL l=true->l[j]? = some x->AV.nova x=true
 | y::l,0,x,h,hx=>by
  simp only [List.getElem?_cons_zero,Option.some.injEq] at hx;subst hx;simp only [AV.novaL,Bool.and_eq_true] at h;exact h.1
 | y::l,j+1,x,h,hx=>by
  simp only [AV.novaL,Bool.and_eq_true] at h;exact novaL_get h.2 (by simpa using hx)
 | [],j,x,_,hx=>by simp at hx
theorem elAV_nova (ag:Bool) (t:Tc) (x:Unit->t.el):AV.nova (elAV ag true t x)=true:=by
 unfold elAV;have h:=cellsAV_nova t x
 cases ag with
 | true=>exact h
 | false =>
  simp only [Bool.false_eq_true,if_false]
  cases hc:cellsAV true t x with
  | nil=>rfl
  | cons c l =>
   rw [hc] at h
   cases l with
   | nil=>simpa [AV.novaL] using h
   | cons c2 l=>rfl
theorem AVR.nova_ {x:AV} {v:Value} (h:AVR w ρ base ro x v) (hx:AV.nova x=true):AVR w ρ base (fun b=>ro b/\base<=b) x v:=by
 induction h with
 | un=>exact .un _
 | int=>exact .int _ _
 | lit=>exact .lit _ _
 | bool=>exact .bool _
 | blit=>exact .blit _
 | str=>exact .str _
 | nil=>exact .nil
 | sl fr t l A c css hl hc hr hro1 hfr h ih =>
  have hf:fr=true:=by simpa [AV.nova] using hx
  subst hf;exact .sl true t l A c css hl hc hr (fun a ha hn=>⟨hro1 a ha hn,hfr rfl a ha hn⟩) hfr fun k cs j y v h1 h2 h3=>ih k cs j y v h1 h2 h3 (novaL_get (cellsAV_nova _ _) h2)
 | wide fr t l n A c hn h ih=>exact .wide fr t l n A c hn (ih (by simpa only [AV.nova] using hx))
 | pto cells off b o cs hr hlt hl hc h ih=>cases hx
 | ptr l off b h=>exact .ptr _ _ _ h
 | own l A n c h=>exact .own _ _ _ _ h
 | orp t l k off A n c b h hA h0 hn=>exact .orp _ _ _ _ _ _ _ _ h hA h0 hn
 | mp l b h=>exact .mp _ _ h
 | stamp l b h=>exact .stamp _ _ h
 | it l l2 b h=>exact .it _ _ _ h
 | agg l vs hl h ih=>exact .agg _ _ hl fun j y v h1 h2=>ih j y v h1 h2 (novaL_get (by simpa only [AV.nova] using hx) h1)
 | tup l vs hl h ih=>exact .tup _ _ hl fun j y v h1 h2=>ih j y v h1 h2 (novaL_get (by simpa only [AV.nova] using hx) h1)
 | fn f caps vs hl h ih=>exact .fn _ _ _ hl fun j y v h1 h2=>ih j y v h1 h2 (novaL_get (by simpa only [AV.nova] using hx) h1)
theorem EnR.nova_ {l:Nat} {e:En} (h:EnR w ρ base ro l e) (hx:En.nova e=true):EnR w ρ base (fun b=>ro b/\base<=b) l e:=by
 cases e with
 | box T cells =>
  obtain⟨b,cs,h1,h4,h5⟩:=h;exact⟨b,cs,h1,h4,h5.1,fun j x v hx' hv=>(h5.2 j x v hx' hv).nova_ (novaL_get (by simpa [En.nova] using hx) hx')⟩
 | row fr t T m =>
  obtain⟨A,c,css,h1,h2,h3,h5⟩:=h;have hf:fr=true:=by simpa [En.nova] using hx
  subst hf;exact⟨A,c,css,h1,h2,h3,fun k cs j x v k1 k2 k3=>(h5 k cs j x v k1 k2 k3).nova_ (novaL_get (cellsAV_nova _ _) k2)⟩
 | map fr ag c t T m =>
  obtain⟨b,es,clock,h1,h2,h3,h4⟩:=h;have hf:fr=true:=by simpa [En.nova] using hx
  subst hf;exact⟨b,es,clock,h1,h2,h3,h4.map_ fun x v hx=>hx.nova_ (elAV_nova _ _ _)⟩
 | iter ml c seen left=>cases hx
 | stamp ml c key=>cases hx
 | dead=>cases hx
theorem novaE_get:∀ {l:List (Nat×En)} {k:Nat} {e:En},novaE l=true->alook l k=some e->En.nova e=true
 | (j,y)::l,k,e,h,he=>by
  unfold novaE at h;simp only [Bool.and_eq_true] at h;rw [alook_cons] at he;split at he
  . cases he; exact h.1
  . exact novaE_get h.2 he
 | [],_,_,_,he=>by cases he
theorem makeOp_ok {C:Cx} (hcs:CxOk P C S0) (H:Sim w0 S0 N B S a w) {o:Oper} {S':Sx} {vcs:List VC} (h:makeOp C N B S o=some (S',vcs)) (hv:∀ c∈vcs,c ()):OpM P o a w (Sim w0 S0 N B S'):=by
 obtain⟨dst,op,ty,pos,aft,gd⟩:=o;unfold makeOp at h;dsimp only at h;split at h
 . rename_i c;obtain⟨callee,cargs,cts⟩:=c;dsimp only at h;split at h
   . rename_i f;split at h
     . rename_i fo hfo;split at h
       . rename_i avs havs;split at h
         . rename_i res hres;split at h
           . rename_i hc;simp only [Bool.and_eq_true,beq_iff_eq] at hc;obtain⟨⟨⟨⟨hn0,hna⟩,hne⟩,hnew⟩,hfix⟩:=hc;have hfix':S0.fx=true->fo.fix=true:=fun h=>by rw [hcs.fx] at h; simpa [h] using hfix
             obtain⟨hok,rfl⟩:=findFon_ok hcs.fs hfo;obtain⟨ρ,ro,H⟩:=H;split at h
             . rename_i d
               cases hp:putT B ⟨(forget fo.fix [] S).t,renE (renN [] S.n) res.es++(forget fo.fix [] S).e,S.n+(maxK 0 (keysOf res.es) - 0)⟩ N d (AV.ren (renN [] S.n) res.av) with
               | none=>rw [hp] at h; cases h
               | some S2 =>
                rw [hp] at h;cases h;have hpre:=hv _ (.head _);have hE:Each w ρ w0.heap.size ro (cargs.toList.map (getO B S)) (cargs.toList.map a.eval):=each_map fun x _=>H.get x;have hargs:=coerceL_ok (fun l e he=>H.en l e he) H.roB _ _ _ _ havs hE (.inr fun _ h=>h);have hcall:=hok.2 avs [] res hres w (fun _=>none) (fun b=>b<w.heap.size) (cargs.toList.map a.eval) (fun _ h=>h) hargs (fun l e he=>by cases he) (fun _ _ _ _ _ _ h=>by cases h) (fun _ _=>rfl) (fun _ _ _ h=>by cases h) hpre;have hrun:(execOp a.eval ⟨some d,.call { callee := .value (.func fo.f),args:=cargs,argTypes:=cts },ty,pos,aft,gd⟩).run P w = .ok (.enter fo.f (cargs.toList.map a.eval).toArray) w:=by
                 have:=ok_callC (P:=P) (r:=a.eval) (d:=some d) (ty:=ty) (pos:=pos) (aft:=aft) (gd:=gd) (w:=w) (c := .func fo.f) (xs:=cargs) (ts:=cts) (vs := []) (F:=fo.f) rfl hok.1;simpa using this
                refine .inr (.inr ⟨_,_,hrun,hcall.mono fun e w' hq => ?_⟩);obtain⟨v,ρ1,ra1,rfl,hL,hr⟩:=hq;have hL2:Left w w' (ρL ρ []) ρ1 ro (fun b=>ra1 b/\w.heap.size<=b) res.es fo.fix:=by
                 have e : ρL ρ []=fun _=>none:=funext fun k=>by unfold ρL; simp
                 rw [e];exact⟨hL.from_,fun l e he=>(hL.en l e he).nova_ (novaE_get hne he),hL.apart,hL.fresh,fun l r b h1 h2=>⟨(hL.own l r b h1 h2).1,fun h4=>(hL.own l r b h1 h2).2.1 h4.1,(hL.own l r b h1 h2).2.2⟩,fun b hb=>⟨(hL.rd b hb.1).1,fun h=>absurd hb.2 (by omega)⟩,hL.solid⟩
                obtain⟨ρ',H2,hre⟩:=H.called (locs := []) (n:=0) rfl List.nodup_nil (fun _ h=>by cases h) rfl rfl hnew hfix' hL2;exact⟨v,rfl,ρ',_,H2.put hp (((hr.nova_ hna).ren hre).mono (fun _ _ _=>rfl) (Ext.refl _) H.from_.size fun b hb => .inr hb)⟩
             . cases h
           . cases h
         . cases h
       . cases h
     . cases h
   . cases h
 . cases h
theorem stepOp_ok {C:Cx} (hty:TyOk P C.ty) (hcs:CxOk P C S0) (H:Sim w0 S0 N B S a w) {o:Oper} {S':Sx} {vcs:List VC} (h:stepOp C N B S o=some (S',vcs)) (hv:∀ c∈vcs,c ()):OpM P o a w (Sim w0 S0 N B S'):=by
 unfold stepOp at h;split at h
 . rename_i av vcs' hpo;obtain⟨ρ,ro,H⟩:=H;obtain⟨dst,op,ty,pos,aft,gd⟩:=o;have hvcs:vcs=vcs':=by
    split at h
    . rename_i d hd
      cases hp:putT B S N d av with
      | none=>rw [hp] at h; cases h
      | some S2=>rw [hp] at h; cases h; rfl
    . cases h; rfl
   subst hvcs;have h1:=pureOp_ok (d:=dst) (ty:=ty) (pos:=pos) (aft:=aft) (gd:=gd) (r:=a.eval) hty hcs.cs (fun l e he=>H.en l e he) (fun x _=>H.get x) H.roB H.from_.size hpo hv;have hfin:∀ v w',From w w'->AVR w' ρ w0.heap.size (fun b=>ro b\/w.heap.size<=b) av v->Sim w0 S0 N B S' (a.put dst v) w':=by
    intro v w' hb hav;have H2:=H.calm hb
    cases dst with
    | some d =>
     dsimp only at h
     cases hp:putT B S N d av with
     | none=>rw [hp] at h; cases h
     | some S2=>rw [hp] at h; cases h; exact⟨_,_,H2.put hp hav.calm⟩
    | none =>
     cases h;exact⟨_,_,H2⟩
   rcases h1 with ⟨v,w',h2,h3,h4⟩|⟨f,args,h2,h3⟩
   . exact .inl ⟨v,w',h2,hfin v w' h3 h4⟩
   . exact .inr (.inr ⟨f,args,h2,h3.mono fun e w' ⟨v,q1,q2,q3⟩=>⟨v,q1,hfin v w' q2 q3⟩⟩)
 . split at h
   . rename_i r hm;cases h;have H1:Sim w0 S0 N B (cond C.fx S (preS B S o.op)) a w:=by
      cases hc:C.fx with
      | true=>exact H
      | false=>exact preS_ok (by rw [hcs.fx,hc]) H _
     exact memOp_ok hcs.fx hty H1 hm hv
   . split at h
     . rename_i r hm;cases h;exact callOp_ok hcs H hm hv
     . exact makeOp_ok hcs H h hv
theorem undef_ok:AVR w ρ base ro (.tup []) undef := .tup [] [] rfl fun j x v h=>by simp at h
theorem skipOp_ok (H:Sim w0 S0 N B S a w) {o:Oper} {S':Sx} (h:skipOp N B S o=some S'):Sim w0 S0 N B S' (a.put o.dst undef) w:=by
 obtain⟨ρ,ro,H⟩:=H;unfold skipOp at h;split at h
 . rename_i d hd;rw [hd];exact⟨_,_,H.put h undef_ok⟩
 . rename_i hd;rw [hd];cases h;exact⟨_,_,H⟩
theorem splitOp_ok {C:Cx} (hty:TyOk P C.ty) (H:Sim w0 S0 N B S a w) {o:Oper} {f:(Sx->Fm)->Fm} {K:Sx->Fm} (h:splitOp C N B S o=some f) (hK:(f K).P):OpM P o a w fun a' w'=>∃ S',Sim w0 S0 N B S' a' w'/\(K S').P:=by
 obtain⟨dst,op,ty,pos,aft,gd⟩:=o;unfold splitOp at h;dsimp only at h;split at h
 . rename_i T x;split at h
   . rename_i kt et c t ag loc d hT hx;split at h
     . rename_i fr ag' c' t' T' m he;split at h
       . rename_i S' hb hp;cases h;simp only [Option.isNone_iff_eq_none] at hb;exact range_ok hty H hT hx he hb hp hK
       . cases h
     . cases h
   . cases h
 . rename_i x;split at h
   . rename_i loc l2 d hx;split at h
     . rename_i fr ag c t T m ml c' seen left he hi;split at h
       . rename_i hc;obtain⟨rfl,rfl,hb⟩:=hc;simp only [Option.isNone_iff_eq_none] at hb;split at h
         . rename_i S1 S2 hp1 hp2;cases h;exact next_ok H hx he hi hb hp1 hp2 hK
         . cases h
       . cases h
     . cases h
   . cases h
 . cases h
end
theorem allVC_mem:∀ {l:List VC},allVC l->∀ c∈l,c ()
 | [],_,c,hc=>by cases hc
 | [c],h,c',hc=>by rw [List.mem_singleton] at hc; subst hc; exact h
 | c::d::l,h,c',hc=>by
  rcases List.mem_cons.1 hc with rfl|hc
  . exact h.1
  . exact allVC_mem h.2 c' hc
section
variable {P:Program} {w w' w0:World} {ρ ρ':Nat->Option Rl} {base:Nat} {ro ro':Nat->Prop} {S0:Pm} {N:Nat} {B:Bs} {S:Sx} {a a0:Act} {C:Cx} {Q:Exit->Act->World->Prop}
theorem put_self {d:Nat} {v:Value} (h:a.tmps[d]? = some v):a.put (some d) v=a:=by
 unfold Act.put;have hlt:=(Array.getElem?_eq_some_iff.1 h).1;have:a.tmps.setIfInBounds d v=a.tmps:=by
  apply Array.ext_getElem?;intro i;rw [Array.getElem?_setIfInBounds];split
  . rename_i e;subst e;rw [h]
  . rfl
 simp only [this]
theorem getT_some {d:Nat} {x:AV} (h:getT B S d=x) (hx:x ≠ .un):lookT B S d=some x:=by
 unfold getT at h
 cases hl:lookT B S d with
 | none=>rw [hl] at h; exact absurd h.symm hx
 | some y =>
  rw [hl] at h;have h':y=x:=h;rw [h']
theorem Sim.refine_ (H:Sim w0 S0 N B S a w) {d:Nat} {c:Unit->Bool} {S':Sx} (hd:getT B S d = .bool c) (hp:putT B S N d (.blit (c ()))=some S'):a.tmps[d]? = some (.bool (c ()))/\Sim w0 S0 N B S' a w:=by
 obtain⟨ρ,ro,H⟩:=H;obtain⟨u,h1,h2⟩:=H.tm d _ (getT_some hd (by simp));have h3:=h2.bool_;subst h3;refine⟨h1,ρ,ro,?_⟩;have H2:=H.put hp (.blit (c ()));rwa [put_self h1] at H2
inductive Dec (B:Bs) (N:Nat) (l:List Oper) (S:Sx) (o:Oper):Bool->Sx->Prop
 | free (h:o.guard=none):Dec B N l S o true S
 | lit (j d:Nat) (b c:Bool) (oj:Oper) (h:o.guard=some (j,b)) (hj:l[j]? = some oj) (hd:oj.dst=some d) (hc:getT B S d = .blit c):Dec B N l S o (c==b) S
 | gone (j d:Nat) (b:Bool) (oj:Oper) (h:o.guard=some (j,b)) (hj:l[j]? = some oj) (hd:oj.dst=some d) (hc:getT B S d = .tup []):Dec B N l S o false S
 | ask (j d:Nat) (b:Bool) (c:Unit->Bool) (oj:Oper) (S':Sx) (h:o.guard=some (j,b)) (hj:l[j]? = some oj) (hd:oj.dst=some d) (hc:getT B S d = .bool c) (hp:putT B S N d (.blit (c ()))=some S'):Dec B N l S o (c ()==b) S'
theorem wanted_undef {l:List Oper} {o oj:Oper} {j d:Nat} {b:Bool} (h:o.guard=some (j,b)) (hj:l[j]? = some oj) (hd:oj.dst=some d) (hu:a.tmps[d]? = some undef):Region.wanted o (yielded l.toArray a.tmps)=false:=by
 have h1:yielded l.toArray a.tmps j=none:=by
  unfold yielded;have h2:((l.toArray[j]?).bind (·.dst)).bind (a.tmps[·]?)=some undef:=by simp [hj,hd,hu]
  rw [h2];rfl
 unfold Region.wanted;rw [h];simp only [h1];rfl
theorem undef_of {v:Value} (h:AVR w ρ base ro (.tup []) v):v=undef:=by
 obtain⟨vs,rfl,hE⟩:=h.tup_;rw [hE.none];rfl
theorem Dec.seq {l:List Oper} {o:Oper} {r:Bool} {S':Sx} (h:Dec B N l S o r S') (H:Sim w0 S0 N B S a w):Region.wanted o (yielded l.toArray a.tmps)=r/\Sim w0 S0 N B S' a w:=by
 cases h with
 | free h=>exact⟨wanted_none h _,H⟩
 | lit j d b c oj h hj hd hc =>
  obtain⟨ρ,ro,HR⟩:=H;obtain⟨u,h1,h2⟩:=HR.tm d _ (getT_some hc (by simp));rw [h2.blit_] at h1;exact⟨wanted_some h (by simpa using hj) hd h1 rfl,ρ,ro,HR⟩
 | gone j d b oj h hj hd hc =>
  obtain⟨ρ,ro,HR⟩:=H;obtain⟨u,h1,h2⟩:=HR.tm d _ (getT_some hc (by simp));rw [undef_of h2] at h1;exact⟨wanted_undef h hj hd h1,ρ,ro,HR⟩
 | ask j d b c oj S' h hj hd hc hp =>
  obtain⟨h1,h2⟩:=H.refine_ hc hp;exact⟨wanted_some h (by simpa using hj) hd h1 rfl,h2⟩
theorem goOps_way {l rest:List Oper} {o:Oper} {k:Sx->Fm} (h:(goOps C N B l (o::rest) S k).P):∃ r S1,Dec B N l S o r S1 /\
 ((r=true/\((∃ S2 vcs,stepOp C N B S1 o=some (S2,vcs)/\(∀ c∈vcs,c ())/\(goOps C N B l rest S2 k).P)\/∃ f,splitOp C N B S1 o=some f/\(f fun S'=>goOps C N B l rest S' k).P))\/(r=false/\∃ S2,skipOp N B S1 o=some S2/\(goOps C N B l rest S2 k).P)):=by
 have hgo:∀ S1,(match splitOp C N B S1 o with
  | some f=>f fun S'=>goOps C N B l rest S' k
  | none=>match stepOp C N B S1 o with
   | some (S',[])=>goOps C N B l rest S' k
   | some (S',vcs) => .vc vcs (goOps C N B l rest S' k)
   | none => .ff (1000+rest.length):Fm).P->(∃ S2 vcs,stepOp C N B S1 o=some (S2,vcs)/\(∀ c∈vcs,c ())/\(goOps C N B l rest S2 k).P)\/∃ f,splitOp C N B S1 o=some f/\(f fun S'=>goOps C N B l rest S' k).P:=by
  intro S1 h
  cases hsp:splitOp C N B S1 o with
  | some f =>
   rw [hsp] at h;exact .inr ⟨f,rfl,h⟩
  | none =>
   rw [hsp] at h;dsimp only at h;left;split at h
   . rename_i S2 hs;exact⟨S2,[],hs,(fun c hc=>by cases hc),h⟩
   . rename_i S2 vcs _ hs;exact⟨S2,vcs,hs,allVC_mem h.1,h.2⟩
   . exact h.elim
 have hno:∀ S1,(match skipOp N B S1 o with
  | some S'=>goOps C N B l rest S' k
  | none => .ff 3:Fm).P->∃ S2,skipOp N B S1 o=some S2/\(goOps C N B l rest S2 k).P:=by
  intro S1 h;split at h
  . rename_i S2 hs;exact⟨S2,hs,h⟩
  . exact h.elim
 unfold goOps at h;dsimp only at h;split at h
 . rename_i hw;unfold wantedAV at hw;split at hw
   . rename_i hg;exact⟨true,S,.free hg,.inl ⟨rfl,hgo S h⟩⟩
   . rename_i j b hg;split at hw
     . rename_i d hd;obtain⟨oj,hoj,hdj⟩:=Option.bind_eq_some_iff.1 hd;split at hw
       . rename_i c hc;split at hw
         . rename_i hcb;exact⟨_,S,.lit j d b c oj hg hoj hdj hc,.inl ⟨by rw [hcb]; simp,hgo S h⟩⟩
         . cases hw
       . cases hw
       . cases hw
       . cases hw
     . cases hw
 . rename_i hw;unfold wantedAV at hw;split at hw
   . cases hw
   . rename_i j b hg;split at hw
     . rename_i d hd;obtain⟨oj,hoj,hdj⟩:=Option.bind_eq_some_iff.1 hd;split at hw
       . rename_i c hc;split at hw
         . cases hw
         . rename_i hcb;exact⟨_,S,.lit j d b c oj hg hoj hdj hc,.inr ⟨by simpa using hcb,hno S h⟩⟩
       . cases hw
       . rename_i hc;exact⟨false,S,.gone j d b oj hg hoj hdj hc,.inr ⟨rfl,hno S h⟩⟩
       . cases hw
     . cases hw
 . rename_i d c b hw;unfold wantedAV at hw;split at hw
   . cases hw
   . rename_i j b' hg;split at hw
     . rename_i d' hd;obtain⟨oj,hoj,hdj⟩:=Option.bind_eq_some_iff.1 hd;split at hw
       . split at hw<;>cases hw
       . rename_i c' hc;injection hw with e1 e2 e3;subst e1; subst e2; subst e3;split at h
         . rename_i S1 S2 h1 h2;have hdec:∀ S',putT B S N d' (.blit (c' ()))=some S'->Dec B N l S o (c' ()==b') S':=fun S' hp => .ask j d' b' c' oj S' hg hoj hdj hc hp;obtain⟨ht,hf⟩:=h
           cases hcv:c' () with
           | true =>
            rw [hcv] at hdec;refine⟨_,S1,hdec S1 h1,?_⟩;have h3:=ht hcv
            cases b' with
            | true=>exact .inl ⟨rfl,hgo S1 h3⟩
            | false=>exact .inr ⟨rfl,hno S1 h3⟩
           | false =>
            rw [hcv] at hdec;refine⟨_,S2,hdec S2 h2,?_⟩;have h3:=hf hcv
            cases b' with
            | true=>exact .inr ⟨rfl,hno S2 h3⟩
            | false=>exact .inl ⟨rfl,hgo S2 h3⟩
         . exact h.elim
       . cases hw
       . cases hw
     . cases hw
 . exact h.elim
theorem goOps_seq (hty:TyOk P C.ty) (hcs:CxOk P C S0) {l:List Oper} {k:Sx->Fm} (hk:∀ S' a' w',Sim w0 S0 N B S' a' w'->(k S').P->Q .normal a' w'):∀ {rest:List Oper} {S:Sx} {a:Act} {w:World},(goOps C N B l rest S k).P->Sim w0 S0 N B S a w->wpList P l.toArray Q rest a w
 | [],S,a,w,h,H=>hk S a w H h
 | o::rest,S,a,w,h,H=>by
  obtain⟨r,S1,hdec,hway⟩:=goOps_way h;obtain⟨hw,H1⟩:=hdec.seq H;unfold wpList;rcases hway with ⟨rfl,⟨S2,vcs,hs,hv,h2⟩|⟨f,hs,h2⟩⟩|⟨rfl,S2,hs,h2⟩
  . rw [if_pos hw];exact .inl ((stepOp_ok hty hcs H1 hs hv).wp fun a' w' H2=>goOps_seq hty hcs hk h2 H2)
  . rw [if_pos hw];exact .inl ((splitOp_ok hty H1 hs h2).wp fun a' w' ⟨S',H2,h3⟩=>goOps_seq hty hcs hk h3 H2)
  . rw [if_neg (by rw [hw]; simp)];exact goOps_seq hty hcs hk h2 (skipOp_ok H1 hs)
/- a region that draws its order -/
inductive Path (C:Cx) (N:Nat) (B:Bs) (l:List Oper):Sx->List Oper->List (Option AV)->Sx->Prop
 | nil (S0:Sx):Path C N B l S0 [] [] S0
 | go {S0 S1 S2 S':Sx} {o:Oper} {rest:List Oper} {av:AV} {vcs:List VC} {avs:List (Option AV)} {d:Nat} (hw:Dec B N l S0 o true S1) (hp:pureOp C.ty C.cs (lookE B S1) (getO B S1) o.op=some (av,vcs)) (hv:∀ c∈vcs,c ()) (hd:o.dst=some d) (hput:putT B S1 N d av=some S2) (h:Path C N B l S2 rest avs S'):Path C N B l S0 (o::rest) (some av::avs) S'
 | no {S0 S1 S2 S':Sx} {o:Oper} {rest:List Oper} {avs:List (Option AV)} {d:Nat} (hw:Dec B N l S0 o false S1) (hd:o.dst=some d) (hput:putT B S1 N d (.tup [])=some S2) (h:Path C N B l S2 rest avs S'):Path C N B l S0 (o::rest) (none::avs) S'
theorem isPure_mem {o:Oper} (h:isPure (efs C.fs) o.op=true):memOp C N B S o=none:=by
 obtain⟨dst,op,ty,pos,aft,gd⟩:=o;cases op<;>first|rfl|(cases h; done)|skip
 rename_i c;obtain⟨callee,cargs,cts⟩:=c
 cases callee with
 | value f=>rfl
 | invoke r m=>rfl
 | builtin b=>cases b<;>first|rfl|cases h
theorem efs_find {f:Nat}:∀ {cs:List Fon},memN f (efs cs)=false->findFon cs f=none
 | [],_=>rfl
 | c::cs,h=>by
  simp only [efs,memN,Bool.or_eq_false_iff] at h;unfold findFon;rw [if_neg (by rw [h.1]; simp)];exact efs_find h.2
theorem isPure_call {o:Oper} (h:isPure (efs C.fs) o.op=true):callOp C N B S o=none:=by
 obtain⟨dst,op,ty,pos,aft,gd⟩:=o;cases op<;>first|rfl|skip
 rename_i c;obtain⟨callee,cargs,cts⟩:=c
 cases callee with
 | value x =>
  cases x with
  | func f =>
   have hm:memN f (efs C.fs)=false:=by simpa [isPure] using h
   unfold callOp;dsimp only;rw [efs_find hm]
  | tmp d=>rfl
  | const v=>rfl
  | global g=>rfl
 | invoke r m=>rfl
 | builtin b=>rfl
theorem isPure_make {o:Oper} (h:isPure (efs C.fs) o.op=true):makeOp C N B S o=none:=by
 obtain⟨dst,op,ty,pos,aft,gd⟩:=o;cases op<;>first|rfl|skip
 rename_i c;obtain⟨callee,cargs,cts⟩:=c
 cases callee with
 | value x =>
  cases x with
  | func f =>
   have hm:memN f (efs C.fs)=false:=by simpa [isPure] using h
   unfold makeOp;dsimp only;rw [efs_find hm]
  | tmp d=>rfl
  | const v=>rfl
  | global g=>rfl
 | invoke r m=>rfl
 | builtin b=>rfl
theorem isPure_split {o:Oper} (h:isPure (efs C.fs) o.op=true):splitOp C N B S o=none:=by
 obtain⟨dst,op,ty,pos,aft,gd⟩:=o;cases op<;>first|rfl|cases h
theorem goOps_path {l:List Oper} {k:Sx->Fm}:∀ {pre tail:List Oper} {S:Sx},(∀ o∈pre,isPure (efs C.fs) o.op=true/\∃ d,o.dst=some d)->(goOps C N B l (pre++tail) S k).P->∃ avs S',Path C N B l S pre avs S'/\(goOps C N B l tail S' k).P
 | [],tail,S,_,h=>⟨[],S,.nil S,h⟩
 | o::pre,tail,S,hp,h=>by
  obtain⟨r,S1,hdec,hway⟩:=goOps_way h;obtain⟨hpo,d,hd⟩:=hp o (.head _);have hp':∀ o∈pre,isPure (efs C.fs) o.op=true/\∃ d,o.dst=some d:=fun o ho=>hp o (.tail _ ho);rcases hway with ⟨rfl,⟨S2,vcs,hs,hv,h2⟩|⟨f,hs,h2⟩⟩|⟨rfl,S2,hs,h2⟩
  rotate_left
  . rw [isPure_split hpo] at hs;cases hs
  rotate_left
  . unfold stepOp at hs;split at hs
    . rename_i av vcs' hpu;rw [hd] at hs;dsimp only at hs
      cases hput:putT B S1 N d av with
      | none=>rw [hput] at hs; cases hs
      | some S3 =>
       rw [hput] at hs;cases hs;obtain⟨avs,S',h3,h4⟩:=goOps_path hp' h2;exact⟨_,S',.go hdec hpu hv hd hput h3,h4⟩
    . rw [isPure_mem hpo] at hs;dsimp only at hs;rw [isPure_call hpo] at hs;dsimp only at hs;rw [isPure_make hpo] at hs;cases hs
  . unfold skipOp at hs;rw [hd] at hs;obtain⟨avs,S',h3,h4⟩:=goOps_path hp' h2;exact⟨_,S',.no hdec hd hs h3,h4⟩
theorem putT_look {S':Sx} {d s:Nat} {x:AV} (h:putT B S N d x=some S'):S'.e=S.e/\S'.n=S.n/\(∀ y,lookT B S' s=some y->(s=d/\y=x)\/(s≠d/\lookT B S s=some y)):=by
 unfold putT at h;split at h
 . cases h
 . cases h;refine⟨rfl,rfl,fun y hy => ?_⟩;unfold lookT at hy ⊢;rw [alook_cons] at hy;by_cases e:d=s
   . rw [if_pos e] at hy;injection hy with hy;exact .inl ⟨e.symm,hy.symm⟩
   . rw [if_neg e] at hy;exact .inr ⟨fun e'=>e e'.symm,hy⟩
def Claim (B:Bs) (l:List Oper) (a0:Act) (w:World) (ρ:Nat->Option Rl) (base:Nat) (ro:Nat->Prop) (L:Nat->Bool) (val:Nat->Value) (i:Nat) (S:Sx):Prop :=
 ∀ s x,lookT B S s=some x->match prodOf l s i with
  | none=>∃ u,a0.tmps[s]? = some u/\AVR w ρ base ro x u
  | some j=>L j=true->AVR w ρ base ro x (val j)
theorem Claim.dec {l:List Oper} {L:Nat->Bool} {val:Nat->Value} {i:Nat} {o:Oper} {r:Bool} {S':Sx} (h:Claim B l a0 w ρ base ro L val i S) (hd:Dec B N l S o r S'):Claim B l a0 w ρ base ro L val i S'/\S'.e=S.e/\S'.n=S.n:=by
 cases hd with
 | free=>exact⟨h,rfl,rfl⟩
 | lit=>exact⟨h,rfl,rfl⟩
 | gone=>exact⟨h,rfl,rfl⟩
 | ask j d b c oj S' hg hj hdj hc hp =>
  refine⟨fun s x hx => ?_,(putT_look (s:=0) hp).1,(putT_look (s:=0) hp).2.1⟩;rcases (putT_look (s:=s) hp).2.2 x hx with ⟨rfl,rfl⟩|⟨_,h2⟩
  . have h3:=h s _ (getT_some hc (by simp));split
    . rename_i hpr;rw [hpr] at h3;obtain⟨u,h4,h5⟩:=h3;exact⟨u,h4,by rw [h5.bool_]; exact .blit _⟩
    . rename_i j' hpr;rw [hpr] at h3;intro hL;rw [(h3 hL).bool_];exact .blit _
  . exact h s x h2
theorem prodOf_succ {l:List Oper} {s i:Nat}:prodOf l s (i+1)=if ((l[i]?).bind (·.dst))==some s then some i else prodOf l s i:=rfl
theorem Claim.put {l:List Oper} {L:Nat->Bool} {val:Nat->Value} {i d:Nat} {o:Oper} {av:AV} {S':Sx} (h:Claim B l a0 w ρ base ro L val i S) (ho:l[i]? = some o) (hd:o.dst=some d) (hp:putT B S N d av=some S') (hv:L i=true->AVR w ρ base ro av (val i)):Claim B l a0 w ρ base ro L val (i+1) S':=by
 intro s x hx;rw [prodOf_succ,ho];simp only [Option.bind_some,hd];rcases (putT_look (s:=s) hp).2.2 x hx with ⟨rfl,rfl⟩|⟨h1,h2⟩
 . rw [if_pos (by simp)];exact hv
 . rw [if_neg (by simpa using fun e=>h1 e.symm)];exact h s x h2
theorem Path.stage {l:List Oper} {L:Nat->Bool} {val:Nat->Value}:∀ {rest:List Oper} {S S':Sx} {avs:List (Option AV)} {i:Nat},Path C N B l S rest avs S'->(∀ j o,rest[j]? = some o->l[i+j]? = some o)->Claim B l a0 w ρ base ro L val i S->(∀ j av,avs[j]? = some (some av)->L (i+j)=true->AVR w ρ base ro av (val (i+j)))->(∀ j,avs[j]? = some none->L (i+j)=true->val (i+j)=undef) ->
 (∀ m o,rest[m]? = some o->∃ S0 S1 r,Claim B l a0 w ρ base ro L val (i+m) S0/\Claim B l a0 w ρ base ro L val (i+m) S1/\S1.e=S.e/\Dec B N l S0 o r S1/\((r=true/\∃ av vcs,avs[m]? = some (some av)/\pureOp C.ty C.cs (lookE B S1) (getO B S1) o.op=some (av,vcs)/\∀ c∈vcs,c ())\/(r=false/\avs[m]? = some none)))/\Claim B l a0 w ρ base ro L val (i+rest.length) S'/\S'.e=S.e/\S'.n=S.n/\avs.length=rest.length
 | [],S,S',avs,i,h,_,hc,_,_=>by
  cases h;exact⟨fun m o hm=>by simp at hm,hc,rfl,rfl,rfl⟩
 | o::rest,S,S',avs,i,h,hl,hc,hav,hnv=>by
  cases h with
  | @go _ S1 S2 _ _ _ av vcs avs d hw hp hv hd hput h =>
   obtain⟨hc1,he1,hn1⟩:=hc.dec hw;have ho:l[i]? = some o:=by simpa using hl 0 o rfl
   have hc2:Claim B l a0 w ρ base ro L val (i+1) S2:=hc1.put ho hd hput (fun hL=>by simpa using hav 0 av rfl (by simpa using hL));obtain⟨q1,q2,q3,q4,q5⟩:=Path.stage (i:=i+1) h (fun j o' hj=>by rw [show i+1+j=i+(j+1) by omega]; exact hl (j+1) o' (by simpa using hj)) hc2 (fun j av' hj hL=>by rw [show i+1+j=i+(j+1) by omega] at hL ⊢; exact hav (j+1) av' (by simpa using hj) hL) (fun j hj hL=>by rw [show i+1+j=i+(j+1) by omega] at hL ⊢; exact hnv (j+1) (by simpa using hj) hL);have hp2:=putT_look (s:=0) hput;refine⟨fun m o' hm => ?_,by rw [List.length_cons,show i+(rest.length+1)=i+1+rest.length by omega]; exact q2,by rw [q3,hp2.1,he1],by rw [q4,hp2.2.1,hn1],by simp [q5]⟩
   cases m with
   | zero =>
    simp only [List.getElem?_cons_zero,Option.some.injEq] at hm;subst hm;exact⟨S,S1,true,hc,hc1,he1,hw,.inl ⟨rfl,av,vcs,rfl,hp,hv⟩⟩
   | succ m =>
    obtain⟨S0,S3,r,k1,k2,k3,k4,k5⟩:=q1 m o' (by simpa using hm);rw [show i+1+m=i+(m+1) by omega] at k1 k2;exact⟨S0,S3,r,k1,k2,by rw [k3,hp2.1,he1],k4,by simpa using k5⟩
  | @no _ S1 S2 _ _ _ avs d hw hd hput h =>
   obtain⟨hc1,he1,hn1⟩:=hc.dec hw;have ho:l[i]? = some o:=by simpa using hl 0 o rfl
   have hc2:Claim B l a0 w ρ base ro L val (i+1) S2:=hc1.put ho hd hput (fun hL=>by rw [show val i=undef by simpa using hnv 0 rfl (by simpa using hL)]; exact undef_ok);obtain⟨q1,q2,q3,q4,q5⟩:=Path.stage (i:=i+1) h (fun j o' hj=>by rw [show i+1+j=i+(j+1) by omega]; exact hl (j+1) o' (by simpa using hj)) hc2 (fun j av' hj hL=>by rw [show i+1+j=i+(j+1) by omega] at hL ⊢; exact hav (j+1) av' (by simpa using hj) hL) (fun j hj hL=>by rw [show i+1+j=i+(j+1) by omega] at hL ⊢; exact hnv (j+1) (by simpa using hj) hL);have hp2:=putT_look (s:=0) hput;refine⟨fun m o' hm => ?_,by rw [List.length_cons,show i+(rest.length+1)=i+1+rest.length by omega]; exact q2,by rw [q3,hp2.1,he1],by rw [q4,hp2.2.1,hn1],by simp [q5]⟩
   cases m with
   | zero =>
    simp only [List.getElem?_cons_zero,Option.some.injEq] at hm;subst hm;exact⟨S,S1,false,hc,hc1,he1,hw,.inr ⟨rfl,rfl⟩⟩
   | succ m =>
    obtain⟨S0,S3,r,k1,k2,k3,k4,k5⟩:=q1 m o' (by simpa using hm);rw [show i+1+m=i+(m+1) by omega] at k1 k2;exact⟨S0,S3,r,k1,k2,by rw [k3,hp2.1,he1],k4,by simpa using k5⟩
theorem putT_dis {S':Sx} {d:Nat} {x:AV} (h:putT B S N d x=some S') (hd:∀ d x,alook B.t d=some x->alook S.t d=none):∀ d x,alook B.t d=some x->alook S'.t d=none:=by
 unfold putT at h;split at h
 . cases h
 . rename_i hc;simp only [Bool.or_eq_true,not_or,Bool.not_eq_true,Option.isSome_eq_false_iff,Option.isNone_iff_eq_none] at hc;cases h;intro s y hy;rw [alook_cons,if_neg (by rintro rfl; rw [hc.1] at hy; cases hy)];exact hd s y hy
theorem Dec.dis {l:List Oper} {o:Oper} {r:Bool} {S':Sx} (h:Dec B N l S o r S') (hd:∀ d x,alook B.t d=some x->alook S.t d=none):∀ d x,alook B.t d=some x->alook S'.t d=none:=by
 cases h with
 | free=>exact hd
 | lit=>exact hd
 | gone=>exact hd
 | ask j d b c oj S2 hg hj hdj hc hp=>exact putT_dis hp hd
theorem Path.dis {l:List Oper}:∀ {rest:List Oper} {S S':Sx} {avs:List (Option AV)},Path C N B l S rest avs S'->(∀ d x,alook B.t d=some x->alook S.t d=none)->∀ d x,alook B.t d=some x->alook S'.t d=none:=by
 intro rest S S' avs h
 induction h with
 | nil=>exact id
 | go hw hp hv hd hput h ih =>
  intro hd0;exact ih (putT_dis hput (hw.dis hd0))
 | no hw hd hput h ih =>
  intro hd0;exact ih (putT_dis hput (hw.dis hd0))
end
theorem apartB_spec {l:List Oper} {i j:Nat} {oi oj:Oper} (h:apartB l i=true) (hi:l[i]? = some oi) (hj:l[j]? = some oj) (hne:j≠i):(∃ e∈oi.after,Region.binds .any e=true/\e.on=j)\/(∃ e∈oj.after,Region.binds .any e=true/\e.on=i)\/oi.apart l.toArray oj=true:=by
 unfold apartB at h;rw [hi] at h;have hlt:=(List.getElem?_eq_some_iff.1 hj).1;have h1:=List.all_eq_true.1 h j (List.mem_range.2 hlt);rw [hj] at h1;simp only [Bool.or_eq_true,beq_iff_eq] at h1;have hany:∀ {es:Array Edge} {k:Nat},(es.any fun e=>Region.binds .any e&&e.on==k)=true->∃ e∈es,Region.binds .any e=true/\e.on=k:=by
  intro es k h;rw [Array.any_eq_true'] at h;obtain⟨e,he,h2⟩:=h;simp only [Bool.and_eq_true,beq_iff_eq] at h2;exact⟨e,he,h2⟩
 rcases h1 with ((h1|h1)|h1)|h1
 . exact absurd h1.symm hne
 . exact .inl (hany h1)
 . exact .inr (.inl (hany h1))
 . exact .inr (.inr h1)
theorem wpAny_eag {P:Program} {Q:Exit->Act->World->Prop} {l:List Oper} (reg:Nat->Bool) (hsel:∀ (j:Nat) (o:Oper) cs b,l.toArray[j]? = some o->o.op ≠ .select cs b) (hQ:∀ c a w,¬ Q (.panic c) a w) (hap:∀ i,reg i=true->apartB l i=true)
 (Inv:Array Bool->Act->World->Prop) (hend:∀ listed a w,Inv listed a w->Region.ready .any l.toArray listed = []->Q .normal a w)
 (hreg:∀ listed a w i o,Inv listed a w->i∈Region.ready .any l.toArray listed->reg i=true->l[i]? = some o->∃ v,Yields P l.toArray o v a/\Inv (listed.setIfInBounds i true) (a.put o.dst v) w)
 (hstep:∀ listed a w i,Inv listed a w->i∈Region.ready .any l.toArray listed->(∀ j∈Region.ready .any l.toArray listed,reg j=false)->wpOp P l.toArray Q i (Inv (listed.setIfInBounds i true)) a w) :
 ∀ (fuel:Nat) (listed:Array Bool) (a:Act) (w:World),listed.toList.count false<=fuel->Inv listed a w->wpAny P .any l.toArray Q fuel listed a w:=by
 have hcount:∀ (listed:Array Bool) (i:Nat),i∈Region.ready .any l.toArray listed->(listed.setIfInBounds i true).toList.count false+1=listed.toList.count false:=by
  intro listed i hi;obtain⟨h1,_⟩:=mem_ready.1 hi;obtain⟨_,hlt⟩:=listed_false h1;have h2:listed.toList[i]'(by simpa using hlt)=false:=by
   rw [Array.getD_eq_getD_getElem?,Array.getElem?_eq_getElem hlt] at h1;simpa using h1
  rw [Array.toList_setIfInBounds];have h3:=List.count_set (l:=listed.toList) (i:=i) (a:=true) (b:=false) (by simpa using hlt);have h4:0<listed.toList.count false:=List.count_pos_iff.2 (h2▸List.getElem_mem _);have e1:((listed.toList[i]'(by simpa using hlt))==false)=true:=by rw [h2]; rfl
  have e2:(true==false)=false:=rfl;rw [h3];simp only [e1,e2,if_true,Bool.false_eq_true,if_false];omega
 intro fuel
 induction fuel with
 | zero =>
  intro listed a w hc h;have hr:Region.ready .any l.toArray listed = []:=by
   rw [List.eq_nil_iff_forall_not_mem];intro i hi;have:=hcount listed i hi;omega
  exact⟨hr,hend listed a w h hr⟩
 | succ fuel ih =>
  intro listed a w hc h;by_cases hex:∃ i,i∈Region.ready .any l.toArray listed/\reg i=true
  . obtain⟨i,hi,hri⟩:=hex;obtain⟨hun,o,ho,haft⟩:=mem_ready.1 hi;have ho':l[i]? = some o:=by simpa using ho
    obtain⟨v,hy,h2⟩:=hreg listed a w i o h hi hri ho';refine wpAny_first ho hsel (fun c a w hq=>(hQ c _ w hq).elim) fuel listed a w (fun j oj hoj hne hjl hno => ?_) hi hy (ih _ _ _ (by have:=hcount listed i hi; omega) h2);rcases apartB_spec (hap i hri) ho' (by simpa using hoj) hne with ⟨e,he,hb,hon⟩|⟨e,he,hb,hon⟩|h3
    . have h4:=haft e he hb;rw [hon] at h4;rw [Array.getD_eq_getD_getElem?] at h4 hjl
      cases hq:listed[j]? with
      | none=>rw [hq] at h4; cases h4
      | some q=>rw [hq] at h4 hjl; simp only [Option.getD_some] at h4 hjl; rw [h4] at hjl; cases hjl
    . exact absurd hon (hno e he hb)
    . exact h3
  . refine⟨fun hr=>hend listed a w h hr,fun i hi => ?_⟩;have hall:∀ j∈Region.ready .any l.toArray listed,reg j=false:=fun j hj=>by
     cases hq:reg j with
     | false=>rfl
     | true=>exact (hex ⟨j,hj,hq⟩).elim
    exact wpOp_mono (fun a' w' h'=>ih _ _ _ (by have:=hcount listed i hi; omega) h') (hstep listed a w i h hi hall)
end Go.Proofs.YthfpdbjemfhieaaGreat
