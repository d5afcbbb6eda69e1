/-
  The abstract run: every operation that it takes is sound.
-/
import Derived.Test.YtffeegebohigdaaGreatMs11
set_option linter.unusedVariables false
set_option linter.unusedSimpArgs false
namespace Go.Proofs.YtffeegebohigdaaGreat
open Go.RowKit
section
variable {P:Program} {w w' w0:World} {ρ ρ':Nat->Option Rl} {base:Nat} {ro ro':Nat->Prop} {S0:Pm} {N:Nat} {B:Bs} {S:Sx} {a:Act}
theorem Z3p {C:Cx} (hty:Zw P C.ty) (H:Sim w0 S0 N B S a w) {T e sz b len d:Nat} {parts:Array (Nat×Operand)} {t:Tc} {xs:List AV} {f:Bool} {es:List (Unit->t.el)} {S':Sx} {ty:TypeId} {pos:String} {aft:Array Edge} {gd:Option (Nat×Bool)} (hT:Km C.ty T=some (.slice e sz b)) (hin:Q4r 0 (parts.toList.map fun p=>(p.1,Z0 B S p.2))=some xs) (hes:Qex t xs=some (f,es)) (hsz:t.size=sz) (hlen:es.length=len) (hmax:len*sz<=16777216) (hB:Q3 B.e S.n=none) (hp:Qy B ⟨S.t,(S.n,.row f t e fun _=>es.map fun g=>g ())::S.e,S.n+1⟩ N d (.own S.n)=some S') :
 OpM P ⟨some d,.buildSlice T len parts,ty,pos,aft,gd⟩ a w (Sim w0 S0 N B S'):=by
 obtain⟨ρ,ro,H⟩:=H;obtain⟨i,_,hi,htb⟩:=Y7 hty hT;obtain⟨⟨hu,j,z,hj,hz,hjs,_,hzs,hs0⟩,_⟩:=Qkv htb hi;subst hsz;obtain⟨h1,h2⟩:=Qk8 hin;have hE:Qj w ρ w0.heap.size ro (parts.toList.map fun p=>Z0 B S p.2) (parts.toList.map fun p=>a.eval p.2):=Q2m fun p _=>H.get p.2;have hxs:xs=parts.toList.map fun p=>Z0 B S p.2:=by rw [<- h1]; simp
 rw [<- hxs] at hE;obtain⟨css,q1,q2,q3⟩:=Qta hes hE;have hcl:∀ cs∈css,cs.length=t.size:=fun cs hcs=>by
  obtain⟨k,hk⟩:=List.mem_iff_getElem?.1 hcs;have hlt:=(List.getElem?_eq_some_iff.1 hk).1;exact (q3 k cs _ hk (List.getElem?_eq_getElem (by omega))).1
 have hpl:parts.toList.length=len:=by
  have:css.length=parts.toList.length:=by
   have:=congrArg List.length q1;simpa using this.symm
  omega
 have h2':parts.toList.map (·.1)=List.range' 0 parts.toList.length:=by simpa [Function.comp_def] using h2
 have hfill:=Qos (size:=t.size) (parts.toList.map fun p=>(p.1,a.eval p.2)) css 0 [] (((Array.range (len*t.size)).map fun (k:Nat)=>z.cells[k % z.cells.size]!).toList) (by rw [<- q1]; simp) (by simpa [Function.comp_def] using h2') hcl (by simp) (by simp [<- hpl]);have hrun:(execOp a.eval ⟨some d,.buildSlice T len parts,ty,pos,aft,gd⟩).run P w = .ok (.value (.slice (some ⟨w.heap.size,0,none⟩) len len)) (w.alloc (.cells css.flatten.toArray e)):=by
  have hparts:(parts.map fun (i,x)=>(i,a.eval x)).toList=parts.toList.map fun p=>(p.1,a.eval p.2):=by simp
  have hz0:=Qc5 (w:=w) hj hz;unfold execOp;simp only [Instr.buildSlice,underlying,sizeOf,typeInfo,Sem.run_bind,Sem.run_pure,Result.andThen_ok,run_program,hu,hj,hjs];by_cases h0:len=0
  . subst h0;have hp0:parts.toList = []:=List.eq_nil_of_length_eq_zero hpl;have hc0:css = []:=List.eq_nil_of_length_eq_zero (by omega);simp only [Nat.zero_mul,show ¬ (0>2^24) by decide,if_true,if_false,Sem.run_bind,Sem.run_pure,Result.andThen_ok,hparts,hp0,List.map_nil,hc0];rw [Instr.fill];have e0:Array.range 0 = #[]:=by apply Array.ext'; simp
    simp only [e0,List.map_toArray,List.map_nil,List.flatten_nil];rfl
  have hne:¬ len*t.size=0:=fun h=>by rcases Nat.mul_eq_zero.1 h with h|h<;>omega
  simp only [show ¬ (len*t.size>2^24) by omega,hne,if_false,Sem.run_bind,Sem.run_pure,Result.andThen_ok,hz0,hparts];rw [List.nil_append,Array.toArray_toList] at hfill;rw [hfill,List.nil_append];rfl
 have hnone:=H.fresh S.n (Nat.le_refl _);have hkeep:∀ q,q<w.heap.size->(w.alloc (.cells css.flatten.toArray e)).heap[q]? = w.heap[q]? := fun q hq=>Below.heap_alloc w _ q hq;have hlen3:(es.map fun g=>g ()).length=len:=by simp [hlen]
 have hcl3:css.length=len:=by omega
 have hml:css.length<=maxLen:=by
  have:len*1<=len*t.size:=Nat.mul_le_mul_left _ hs0;unfold maxLen;omega
 have hown:=Z3l (base:=rb f w0.heap.size) (heap_alloc_new w (.cells css.flatten.toArray e)) hcl (Nat.le_trans (Qph _ _) H.from_.size) hml;rw [hcl3] at hown;have H2:=H.upd (w':=w.alloc (.cells css.flatten.toArray e)) (loc:=S.n) (n:=S.n+1) (r := .row (some ⟨w.heap.size,0,none⟩) len len) (e := .row f t e fun _=>es.map fun g=>g ()) (H.from_.alloc _) (by simp) (fun q hq _=>hkeep q hq) (fun q hq2=>by
  have hq3:some w.heap.size=some q:=hq2;injection hq3 with hq3;subst hq3;exact .inr ⟨Nat.le_refl _,by simp⟩) hB (Nat.le_succ _) (Nat.lt_succ_self _) (.inl (Gs hnone)) (.inl fun b hb=>by rw [hnone] at hb; cases hb) (by
  refine⟨some ⟨w.heap.size,0,none⟩,len,css,by rw [hlen3]; exact Zr _ _ _,hown,by rw [hlen3]; exact hcl3,fun k cs j y u r1 r2 r3 => ?_⟩
  . have hk:=(List.getElem?_eq_some_iff.1 r1).1;have hke:es[k]? = some (es[k]'(by omega)):=List.getElem?_eq_getElem _;have r4:=(q3 k cs _ r1 hke).2;rw [show ((es.map fun g=>g ()).getD k t.dflt)=(es[k]'(by omega)) () by simp [List.getD_eq_getElem?_getD,hke]] at r2;exact (r4.2 j y u r2 r3).mono (fun q _ hlt=>hkeep q hlt) (Gs hnone) (Nat.le_refl _) fun _ h=>h)
 refine .inl ⟨_,_,hrun,_,_,H2.put hp (.own _ _ _ _ (Zr _ _ _))⟩
theorem Z04 {C:Cx} (hty:Zw P C.ty) (H:Sim w0 S0 N B S a w) {T:Nat} {i:K5} {x y:Operand} {t:Tc} {loc off T':Nat} {k:Unit->Int} {fr f:Bool} {l:Unit->List t.el} {e:Unit->t.el} {cs:List AV} {ty:TypeId} {pos:String} {aft:Array Edge} {gd:Option (Nat×Bool)} (hi:Q3 C.ty T=some i) (hc:cellsOf (Z0 B S y)=some cs) (hx:Z0 B S x = .orp t loc k off) (he:Qh B S loc=some (.row fr t T' l)) (hl:cs.length=i.sz) (hfit:off+i.sz<=t.size) (h1:cs.all AV.one=true) (hB:Q3 B.e loc=none) (hel:Qam t (.agg ((Q8 fr t fun _=>(l ()).getD (k ()).toNat t.dflt).take off++cs++(Q8 fr t fun _=>(l ()).getD (k ()).toNat t.dflt).drop (off+i.sz)))=some (f,e)) (hf:fr=true->f=true) :
 OpM P ⟨none,.store T x y,ty,pos,aft,gd⟩ a w (Sim w0 S0 N B ⟨S.t,(loc,.row fr t T' fun _=>(l ()).set (k ()).toNat (e ()))::S.e,S.n⟩):=by
 obtain⟨ρ,ro,H⟩:=H;have hax:=H.get x;rw [hx] at hax;obtain⟨A,n,c,b,hA,rfl,hk0,hkn,hxe⟩:=hax.orp_;obtain⟨A',c',css,hA',hown,hlen,hcell⟩:=H.en _ _ he;rw [hA] at hA';injection hA' with hA';injection hA' with e1 e2 e3;subst e1; subst e2; subst e3;obtain⟨vs,hv,hE2⟩:=Q69 hc (H.get y);obtain⟨j,hj,hjs,_⟩:=Qbo (hty T i hi);have hvl:vs.length=i.sz:=by rw [<- hE2.1]; exact hl
 obtain⟨kk,hkk⟩:∃ kk:Nat,kk=(k ()).toNat:=⟨_,rfl⟩
 rw [<- hkk] at hxe hel ⊢;have hklt:kk<css.length:=by omega
 obtain⟨h63,h0⟩|⟨g,cap,cur,heq,hbase,hg,hnc,hcm,hcs,htake⟩:=hown.1.2
 . cases h63
 . simp only [Value.slice.injEq,Option.some.injEq,Addr.mk.injEq,and_true,true_and] at heq;obtain⟨rfl,rfl⟩:=heq;have hflat:=J0 css hown.2;have hrowfit:kk*t.size+off+i.sz<=css.length*t.size:=by
    have:(kk+1)*t.size<=css.length*t.size:=Nat.mul_le_mul_right _ hklt;rw [Nat.add_mul] at this;omega
   have hcapfit:css.length*t.size<=c*t.size:=Nat.mul_le_mul_right _ hnc;have hrun:=Q3m (P:=P) (w:=w) (T:=T) (n:=i.sz) (g:=b) (off:=kk*t.size+off) (t:=T') (cur:=cur) (v:=a.eval y) (cs:=vs) (by rw [hj]; simp [hjs]) (Qdm hv) hvl hg (by omega) (Qld h1 hE2);generalize hcur':(cur.toList.take (kk*t.size+off)++vs++cur.toList.drop (kk*t.size+off+i.sz)).toArray=cur' at hrun;have hexec:(execOp a.eval ⟨none,.store T x y,ty,pos,aft,gd⟩).run P w = .ok .skip (w.setRow b cur'):=by
    unfold execOp;simp only [Instr.storeAt,Instr.sureAddr,hxe,Sem.run_bind,Sem.run_pure,Result.andThen_ok,hrun]
   have hln:loc<S.n:=by
    rcases Nat.lt_or_ge loc S.n with h|h
    . exact h
    . have:=H.fresh loc h; rw [hA] at this; cases this
   have hnb:¬ ro b:=(H.own loc _ b hA rfl).2.1;have hw:∀ b',ro b'->b'<w.heap.size->(w.setRow b cur').heap[b']? = w.heap[b']? := fun b' hb' _=>setRow_other _ _ _ _ (fun e=>hnb (e▸hb'));generalize hrow:(css[kk]).take off++vs++(css[kk]).drop (off+i.sz)=row' at *
   have hrl:(css[kk]).length=t.size:=hown.2 _ (List.getElem_mem hklt);have hrl':row'.length=t.size:=by rw [<- hrow]; simp [hrl,hvl]; omega
   have hset:cur'.toList.take (css.length*t.size)=(css.set kk row').flatten:=by
    have hsn:=Qop css hown.2 kk off i.sz vs hklt hfit hvl;rw [hrow] at hsn;rw [<- hsn,<- hcur'];have hsplit:cur.toList=css.flatten++cur.toList.drop (css.length*t.size):=by
     rw [<- htake,List.take_append_drop]
    have e1:(css.flatten++cur.toList.drop (css.length*t.size)).take (kk*t.size+off)=css.flatten.take (kk*t.size+off):=List.take_append_of_le_length (by omega);have e2:(css.flatten++cur.toList.drop (css.length*t.size)).drop (kk*t.size+off+i.sz)=css.flatten.drop (kk*t.size+off+i.sz)++cur.toList.drop (css.length*t.size):=List.drop_append_of_le_length (by omega);rw [hsplit,e1,e2,<- List.append_assoc];exact List.take_left' (by simp only [List.length_append,List.length_take,List.length_drop,hflat,hvl]; omega)
   have hown2:Z1 (w.setRow b cur') (rb fr w0.heap.size) T' t.size (some ⟨b,0,none⟩) c (css.set kk row'):=by
    refine⟨⟨?_,.inr ⟨b,c,cur',by simp,hbase,setRow_heap w b _ _ T' _ hg,by simpa using hnc,hcm,?_,?_⟩⟩,fun r hr => ?_⟩
    . rw [List.length_set];rw [J0 (css.set kk row') (fun r hr=>by
       rcases List.mem_or_eq_of_mem_set hr with h|h
       . exact hown.2 r h
       . rw [h]; exact hrl'),List.length_set]
    . rw [<- hcur'];simp [hvl];omega
    . rw [List.length_set]; exact hset
    . rcases List.mem_or_eq_of_mem_set hr with h|h
      . exact hown.2 r h
      . rw [h]; exact hrl'
   have hold:Qj w ρ w0.heap.size ro (Q8 fr t fun _=>(l ()).getD kk t.dflt) css[kk]:=Q02 hrl fun j y v q1 q2=>hcell _ _ j y v (List.getElem?_eq_getElem hklt) q1 q2;have hnew:=(((hold.take off).append hE2).append (hold.drop (off+i.sz)))
   rw [hrow] at hnew;obtain⟨us,hus,husl,hE3⟩:=Qf6 hel (.agg _ _ hnew.1 hnew.2);have hus':us=row':=by
    have:row'.toArray=us.toArray:=hus;exact (List.toArray_inj this).symm
   subst hus';have H2:=H.upd (w':=w.setRow b cur') (loc:=loc) (n:=S.n) (r := .row (some ⟨b,0,none⟩) (l ()).length c) (e := .row fr t T' fun _=>(l ()).set kk (e ())) (H.from_.grown (Qd5 _ _ _) (H.mine hA rfl)) (by rw [Q90]; exact Nat.le_refl _) (fun b' hb' hne=>setRow_other _ _ _ _ (fun e=>hne _ hA (by rw [e]; rfl))) (fun b' hb' => .inl ⟨_,hA,hb'⟩) hB (Nat.le_refl _) hln (.inl (by rw [Gn hA]; exact Ext.refl _)) (.inl fun q hq=>by rw [hA] at hq; cases hq) (by
    refine⟨some ⟨b,0,none⟩,c,css.set kk us,by simp only [List.length_set]; exact Zr _ _ _,hown2,by simp [hlen],fun k' cs' j y u q1 q2 q3 => ?_⟩;rw [Gn hA];refine AVR.mono ?_ hw (Ext.refl _) (Nat.le_refl _) fun _ h=>h;rw [List.getElem?_set] at q1;split at q1
    . rename_i hkk';subst hkk'
      first|rw [if_pos hklt] at q1|skip
      injection q1 with q1;subst q1;rw [show ((l ()).set kk (e ())).getD kk t.dflt=e () by simp [List.getD_eq_getElem?_getD,List.getElem?_set_self (show kk<(l ()).length by omega)]] at q2;exact (Q1c hE3 hf).2 j y u q2 q3
    . rename_i hne;rw [show ((l ()).set kk (e ())).getD k' t.dflt=(l ()).getD k' t.dflt by simp [List.getD_eq_getElem?_getD,List.getElem?_set_ne hne]] at q2;exact hcell k' cs' j y u q1 q2 q3)
   exact .inr (.inl ⟨_,hexec,_,_,H2⟩)
theorem Z2e {C:Cx} (hfx:S0.fx=C.fx) (hty:Zw P C.ty) (H:Sim w0 S0 N B S a w) {o:Oper} {S':Sx} {vcs:List VC} (h:Qpr C N B S o=some (S',vcs)) (hv:∀ c∈vcs,c ()):OpM P o a w (Sim w0 S0 N B S'):=by
 obtain⟨dst,op,ty,pos,aft,gd⟩:=o;unfold Qpr at h;dsimp only at h;split at h
 . rename_i T;split at h
   . rename_i i d hi;split at h
     . cases h
     . rename_i hc;simp only [Bool.or_eq_true,not_or,Bool.not_eq_true,Option.isSome_eq_false_iff,Option.isNone_iff_eq_none] at hc
       cases hp:Qy B ⟨S.t,(S.n,.box T i.z)::S.e,S.n+1⟩ N d (.ptr S.n 0) with
       | none=>rw [hp] at h; cases h
       | some S2=>rw [hp] at h; cases h; exact Z35 hty H hi hc.1 hc.2 hp
   . cases h
 . rename_i T x;split at h
   . rename_i cs d hcs;split at h
     . cases h
     . rename_i hc;simp only [Bool.not_eq_true,Option.isSome_eq_false_iff,Option.isNone_iff_eq_none] at hc
       cases hp:Qy B ⟨S.t,(S.n,.box T cs)::S.e,S.n+1⟩ N d (.ptr S.n 0) with
       | none=>rw [hp] at h; cases h
       | some S2=>rw [hp] at h; cases h; exact Z86 H hcs hc hp
   . cases h
 . rename_i T ad x;split at h
   . rename_i i cs loc off hi hcs hx;split at h
     . rename_i T' cells he;split at h
       . rename_i hc;simp only [Bool.and_eq_true,beq_iff_eq,decide_eq_true_eq,Option.isNone_iff_eq_none] at hc;cases h;exact Z1d hty H hi hcs hx he hc.1.1.1 hc.1.1.2 hc.1.2 hc.2
       . cases h
     . cases h
   . rename_i i cs t loc k off hi hcs hx;split at h
     . rename_i fr t' T' l he;split at h
       . rename_i ht;subst ht;split at h
         . rename_i hc;simp only [Bool.and_eq_true,beq_iff_eq,decide_eq_true_eq,Option.isNone_iff_eq_none] at hc;split at h
           . rename_i f e hel;split at h
             . rename_i hff;cases h;exact Z04 hty H hi hcs hx he hc.1.1.1 hc.1.1.2 hc.1.2 hc.2 hel (fun hfr=>by rw [hfr] at hff; simpa using hff)
             . cases h
           . cases h
         . cases h
       . cases h
     . cases h
   . cases h
 . rename_i T len parts;split at h
   . rename_i e sz b d hT;split at h
     . rename_i t ht;split at h
       . rename_i xs hin;split at h
         . rename_i f es hes;split at h
           . rename_i hc;simp only [Bool.and_eq_true,beq_iff_eq,decide_eq_true_eq,Option.isNone_iff_eq_none] at hc
             cases hp:Qy B ⟨S.t,(S.n,.row f t e fun _=>es.map fun g=>g ())::S.e,S.n+1⟩ N d (.own S.n) with
             | none=>rw [hp] at h; cases h
             | some S2=>rw [hp] at h; cases h; exact Z3p hty H hT hin hes hc.1.1.1 hc.1.1.2 hc.1.2 hc.2 hp
           . cases h
         . cases h
       . cases h
     . cases h
   . cases h
 . rename_i T l c;split at h
   . rename_i e sz b d hT;split at h
     . rename_i t ht;split at h
       . rename_i k0 kk k hl hk;split at h
         . rename_i hc;simp only [Bool.and_eq_true,beq_iff_eq,Option.isNone_iff_eq_none] at hc
           cases hp:Qy B ⟨S.t,(S.n,.row true t e fun _ => [])::S.e,S.n+1⟩ N d (.own S.n) with
           | none=>rw [hp] at h; cases h
           | some S2=>rw [hp] at h; cases h; exact Z3f hty H hT hl hk hc.1 hc.2 hp (hv _ (.head _))
         . cases h
       . rename_i k0 n kk k hl hk;split at h
         . rename_i ie hie;split at h
           . rename_i f x hel;split at h
             . rename_i hc;simp only [Bool.and_eq_true,beq_iff_eq,Option.isNone_iff_eq_none,Bool.not_eq_true'] at hc
               cases hp:Qy B ⟨S.t,(S.n,.row f t e fun _=>List.replicate (n ()).toNat (x ()))::S.e,S.n+1⟩ N d (.own S.n) with
               | none=>rw [hp] at h; cases h
               | some S2=>rw [hp] at h; cases h; exact Z3t hty H hT hl hk hie hel hc.2 hc.1.1 hc.1.2 hp (hv _ (.head _))
             . cases h
           . cases h
         . cases h
       . cases h
     . cases h
   . cases h
 . rename_i T;split at h
   . rename_i kt et c t ag d hT;split at h
     . cases h
     . rename_i hc;simp only [Bool.not_eq_true,Option.isSome_eq_false_iff,Option.isNone_iff_eq_none] at hc
       cases hp:Qy B ⟨S.t,(S.n,.map true ag c t T fun _ _=>none)::S.e,S.n+1⟩ N d (.mp S.n) with
       | none=>rw [hp] at h; cases h
       | some S2=>rw [hp] at h; cases h; exact Qwe H hc hp
   . cases h
 . rename_i T x i v;split at h
   . rename_i kt et c t ag loc hT hx;split at h
     . rename_i fr ag' c' t' T' m k he hk;split at h
       . rename_i hc;obtain⟨rfl,rfl,rfl⟩:=hc;split at h
         . rename_i f e hel;split at h
           . rename_i hb;simp only [Bool.and_eq_true,Option.isNone_iff_eq_none] at hb;cases h;exact Qrm hty H hT hx he hk hel hb.1 hb.2
           . cases h
         . cases h
       . cases h
     . cases h
   . cases h
 . rename_i T x i;split at h
   . rename_i kt et c t ag loc d hT hx;split at h
     . rename_i fr ag' c' t' T' m k he hk;split at h
       . rename_i hc;obtain⟨rfl,rfl,rfl⟩:=hc;split at h
         . rename_i hb;simp only [Bool.and_eq_true,Option.isNone_iff_eq_none] at hb
           cases hp:Qy B ⟨S.t,(S.n,.stamp loc c' k)::(loc,.map fr ag' c' t' T' fun _=>Yy (m ()) (k ()) ((m () (k ())).getD t'.dflt))::Yz loc S.e,S.n+1⟩ N d (.tup [Yh ag' fr t' fun _=>(m () (k ())).getD t'.dflt,.stamp S.n]) with
           | none=>rw [hp] at h; cases h
           | some S2=>rw [hp] at h; cases h; exact Qut hty H hT hx he hk hb.1.1 hb.1.2 hb.2 hp
         . cases h
       . cases h
     . cases h
   . cases h
 . rename_i T x s v;split at h
   . rename_i loc l2 hx hs;split at h
     . rename_i fr ag c t T' m ml c' key he he2;split at h
       . rename_i hc;obtain⟨rfl,rfl⟩:=hc;split at h
         . rename_i f e hel;split at h
           . rename_i hb;simp only [Bool.and_eq_true,Option.isNone_iff_eq_none] at hb;cases h;exact Qpa H hx hs he he2 hel hb.1 hb.2
           . cases h
         . cases h
       . cases h
     . cases h
   . cases h
 . rename_i c;obtain⟨callee,cargs,cts⟩:=c;dsimp only at h;split at h
   . rename_i s x T T2 d hargs hts;have ha:cargs = #[s,x]:=by simpa using congrArg List.toArray hargs
     have ht:cts = #[T,T2]:=by simpa using congrArg List.toArray hts
     subst ha; subst ht;split at h
     . rename_i hTT;have hTT':=eq_of_beq hTT;subst hTT';split at h
       . rename_i e sz b hT;split at h
         . rename_i loc hs;split at h
           . rename_i fr t e' l he;split at h
             . rename_i hc;simp only [Bool.and_eq_true,beq_iff_eq,Option.isNone_iff_eq_none] at hc;obtain⟨⟨⟨⟨rfl,hsz⟩,hB⟩,hq⟩,hf0⟩:=hc;split at h
               . rename_i f m hn;split at h
                 . cases h
                 . cases hp:Qy B ⟨(Kh loc S).t,(loc,.row (fr&&f) t e' fun _=>l ()++m ())::(Kh loc S).e,S.n⟩ N d (.own loc) with
                   | none=>rw [hp] at h; cases h
                   | some S2=>rw [hp] at h; cases h; exact Qzx hty H hT hs he hsz hB hq hn hp (hv _ (.head _)) (by rw [hfx]; simpa using hf0)
               . cases h
             . cases h
           . cases h
         . rename_i t0 loc a0 b0 hs;split at h
           . rename_i fr t e' l he;split at h
             . rename_i hc;simp only [Bool.and_eq_true,beq_iff_eq,Option.isNone_iff_eq_none] at hc;obtain⟨⟨⟨⟨rfl,hsz⟩,hB⟩,hq⟩,hf0⟩:=hc;split at h
               . rename_i f m hn
                 cases hp:Qy B ⟨(Kh loc S).t,(loc,.row (fr&&f) t e' fun _=>(l ()).take (b0 ())++m ())::(Kh loc S).e,S.n⟩ N d (.own loc) with
                 | none=>rw [hp] at h; cases h
                 | some S2=>rw [hp] at h; cases h; exact Qx7 hty H hT hs he hsz hB hq hn hp (hv _ (.head _)) (hv _ (.tail _ (.head _))) (by rw [hfx]; simpa using hf0)
               . cases h
             . cases h
           . cases h
         . rename_i hs;split at h
           . rename_i t ht;split at h
             . rename_i hc;simp only [Bool.and_eq_true,beq_iff_eq,Option.isNone_iff_eq_none] at hc;split at h
               . rename_i f m hn
                 cases hp:Qy B ⟨S.t,(S.n,.row f t e m)::S.e,S.n+1⟩ N d (.own S.n) with
                 | none=>rw [hp] at h; cases h
                 | some S2=>rw [hp] at h; cases h; exact Qx0 hty H hT hs hc.1 hc.2 hn hp (hv _ (.head _))
               . cases h
             . cases h
           . cases h
         . cases h
       . cases h
     . cases h
   . cases h
 . cases h
structure Q3h (P:Program) (C:Cx) (S0:Pm):Prop where
 cs:∀ c∈C.cs,Q7 P c
 fs:∀ c∈C.fs,Vx P c
 fx:S0.fx=C.fx
 pl:∀ l r,S0.pl l=some r->l<C.nb
theorem Qii {cs:List Fon} {f:FuncId} {c:Fon} (hcs:∀ c∈cs,Vx P c) (h:Q4u cs f=some c):Vx P c/\c.f=f:=by
 induction cs with
 | nil=>cases h
 | cons c' cs ih =>
  unfold Q4u at h;split at h
  . rename_i hf;injection h with h;subst h;exact⟨hcs _ (.head _),eq_of_beq hf⟩
  . exact ih (fun c hc=>hcs c (.tail _ hc)) h
theorem Z1n {C:Cx} (hcs:Q3h P C S0) (H:Sim w0 S0 N B S a w) {o:Oper} {S':Sx} {vcs:List VC} (h:Qdq C N B S o=some (S',vcs)) (hv:∀ c∈vcs,c ()):OpM P o a w (Sim w0 S0 N B S'):=by
 obtain⟨dst,op,ty,pos,aft,gd⟩:=o;unfold Qdq at h;dsimp only at h;split at h
 . rename_i c;obtain⟨callee,cargs,cts⟩:=c;dsimp only at h;split at h
   . rename_i f;split at h
     . rename_i fo hfo;split at h
       . rename_i avs st havs;split at h
         . rename_i res hres;split at h
           . rename_i hc;simp only [Bool.and_eq_true,beq_iff_eq] at hc;obtain⟨⟨⟨⟨hlen,hfree⟩,hall⟩,hnew⟩,hfix⟩:=hc;have hfix':S0.fx=true->fo.fix=true:=fun h=>by rw [hcs.fx] at h; simpa [h] using hfix
             obtain⟨hok,rfl⟩:=Qii hcs.fs hfo;obtain⟨ρ,ro,H⟩:=H;split at h
             . rename_i d
               cases hp:Qy B ⟨(G0 fo.fix st.locs S).t,Jg (Ga st.locs S.n) res.es++(G0 fo.fix st.locs S).e,S.n+(Q2k fo.n (Zg res.es) - fo.n)⟩ N d (AV.ren (Ga st.locs S.n) res.av) with
               | none=>rw [hp] at h; cases h
               | some S2 =>
                rw [hp] at h;cases h;have hpre:=hv _ (.head _);have hE:Qj w ρ w0.heap.size ro (cargs.toList.map (Z0 B S)) (cargs.toList.map a.eval):=Q2m fun x _=>H.get x;obtain⟨hcop,hargs⟩:=Q8z (fun l e he=>H.en l e he) _ _ _ _ _ _ havs hE;have hnd:=hcop.nodup List.nodup_nil;have hsome:∀ l∈st.locs,∃ r,ρ l=some r:=fun l hl=>(hcop.some_ l hl).resolve_left (by simp);have hcall:=hok.2 avs st.es res hres w (ρL ρ st.locs) ro (cargs.toList.map a.eval) H.roB (hargs st.locs ⟨[],by simp⟩) (fun l e he=>(hcop.en st.locs ⟨[],by simp⟩ l e he).resolve_left (by simp [Q3])) (fun l l' r r' b hne h1 h2 h3 h4=>by
                 obtain⟨x,hx,hxr⟩ := Q1x h1;obtain⟨y,hy,hyr⟩ := Q1x h2;refine H.apart x y r r' b (fun e=>hne ?_) hxr hyr h3 h4;subst e;exact (List.getElem?_inj (List.getElem?_eq_some_iff.1 hx).1 hnd).1 (hx.trans hy.symm)) (fun l hl=>by unfold ρL; rw [List.getElem?_eq_none (by omega)]) (fun l r b h1 h2=>by
                 obtain⟨x,hx,hxr⟩ := Q1x h1;have:=H.own x r b hxr h2;exact⟨this.1,this.2.1⟩) hpre
                have hrun:(execOp a.eval ⟨some d,.call { callee := .value (.func fo.f),args:=cargs,argTypes:=cts },ty,pos,aft,gd⟩).run P w = .ok (.enter fo.f (cargs.toList.map a.eval).toArray) w:=by
                 have:=Qb9 (P:=P) (r:=a.eval) (d:=some d) (ty:=ty) (pos:=pos) (aft:=aft) (gd:=gd) (w:=w) (c := .func fo.f) (xs:=cargs) (ts:=cts) (vs := []) (F:=fo.f) rfl hok.1;simpa using this
                refine .inr (.inr ⟨_,_,hrun,hcall.mono fun e w' hq => ?_⟩);obtain⟨v,ρ1,ra1,rfl,hL,hr⟩:=hq;obtain⟨ρ',H2,hre⟩:=H.called hlen hnd hsome hfree hall hnew hfix' hL;exact⟨v,rfl,ρ',_,H2.put hp ((hr.ren hre).mono (fun _ _ _=>rfl) (Ext.refl _) H.from_.size fun b hb => .inr hb)⟩
             . cases h
           . cases h
         . cases h
       . cases h
     . cases h
   . cases h
 . cases h
theorem Q7g (t:Tc) (x:Unit->t.el):AV.novaL (Q8 true t x)=true:=by cases t<;>rfl
theorem Q16:∀ {l:List AV} {j:Nat} {x:AV},AV.novaL l=true->l[j]? = some x->AV.nova x=true
 | y::l,0,x,h,hx=>by
  simp only [List.getElem?_cons_zero,Option.some.injEq] at hx;subst hx;simp only [AV.novaL,Bool.and_eq_true] at h;exact h.1
 | y::l,j+1,x,h,hx=>by
  simp only [AV.novaL,Bool.and_eq_true] at h;exact Q16 h.2 (by simpa using hx)
 | [],j,x,_,hx=>by simp at hx
theorem Z03 (ag:Bool) (t:Tc) (x:Unit->t.el):AV.nova (Yh ag true t x)=true:=by
 unfold Yh;have h:=Q7g t x
 cases ag with
 | true=>exact h
 | false =>
  simp only [Bool.false_eq_true,if_false]
  cases hc:Q8 true t x with
  | nil=>rfl
  | cons c l =>
   rw [hc] at h
   cases l with
   | nil=>simpa [AV.novaL] using h
   | cons c2 l=>rfl
theorem AVR.nova_ {x:AV} {v:Value} (h:AVR w ρ base ro x v) (hx:AV.nova x=true):AVR w ρ base (fun b=>ro b/\base<=b) x v:=by
 induction h with
 | un=>exact .un _
 | int=>exact .int _ _
 | lit=>exact .lit _ _
 | bool=>exact .bool _
 | blit=>exact .blit _
 | str=>exact .str _
 | nil=>exact .nil
 | sl fr t l A c css hl hc hr hro1 hfr h ih =>
  have hf:fr=true:=by simpa [AV.nova] using hx
  subst hf;exact .sl true t l A c css hl hc hr (fun a ha hn=>⟨hro1 a ha hn,hfr rfl a ha hn⟩) hfr fun k cs j y v h1 h2 h3=>ih k cs j y v h1 h2 h3 (Q16 (Q7g _ _) h2)
 | wide fr t l n A c hn h ih=>exact .wide fr t l n A c hn (ih (by simpa only [AV.nova] using hx))
 | pto cells off b o cs hr hlt hl hc h ih=>cases hx
 | ptr l off b h=>exact .ptr _ _ _ h
 | own l A n c h=>exact .own _ _ _ _ h
 | orp t l k off A n c b h hA h0 hn=>exact .orp _ _ _ _ _ _ _ _ h hA h0 hn
 | osl t l a b A n c h hab=>exact .osl _ _ _ _ _ _ _ h hab
 | mp l b h=>exact .mp _ _ h
 | stamp l b h=>exact .stamp _ _ h
 | it l l2 b h=>exact .it _ _ _ h
 | agg l vs hl h ih=>exact .agg _ _ hl fun j y v h1 h2=>ih j y v h1 h2 (Q16 (by simpa only [AV.nova] using hx) h1)
 | tup l vs hl h ih=>exact .tup _ _ hl fun j y v h1 h2=>ih j y v h1 h2 (Q16 (by simpa only [AV.nova] using hx) h1)
 | fn f caps vs hl h ih=>exact .fn _ _ _ hl fun j y v h1 h2=>ih j y v h1 h2 (Q16 (by simpa only [AV.nova] using hx) h1)
theorem EnR.nova_ {l:Nat} {e:En} (h:EnR w ρ base ro l e) (hx:En.nova e=true):EnR w ρ base (fun b=>ro b/\base<=b) l e:=by
 cases e with
 | box T cells =>
  obtain⟨b,cs,h1,h4,h5⟩:=h;exact⟨b,cs,h1,h4,h5.1,fun j x v hx' hv=>(h5.2 j x v hx' hv).nova_ (Q16 (by simpa [En.nova] using hx) hx')⟩
 | row fr t T m =>
  obtain⟨A,c,css,h1,h2,h3,h5⟩:=h;have hf:fr=true:=by simpa [En.nova] using hx
  subst hf;exact⟨A,c,css,h1,h2,h3,fun k cs j x v k1 k2 k3=>(h5 k cs j x v k1 k2 k3).nova_ (Q16 (Q7g _ _) k2)⟩
 | map fr ag c t T m =>
  obtain⟨b,es,clock,h1,h2,h3,h4⟩:=h;have hf:fr=true:=by simpa [En.nova] using hx
  subst hf;exact⟨b,es,clock,h1,h2,h3,h4.map_ fun x v hx=>hx.nova_ (Z03 _ _ _)⟩
 | iter ml c seen left=>cases hx
 | stamp ml c key=>cases hx
 | dead=>cases hx
theorem Qn7:∀ {l:List (Nat×En)} {k:Nat} {e:En},Qpm l=true->Q3 l k=some e->En.nova e=true
 | (j,y)::l,k,e,h,he=>by
  unfold Qpm at h;simp only [Bool.and_eq_true] at h;rw [Qb] at he;split at he
  . cases he; exact h.1
  . exact Qn7 h.2 he
 | [],_,_,_,he=>by cases he
theorem Z1c {C:Cx} (hcs:Q3h P C S0) (H:Sim w0 S0 N B S a w) {o:Oper} {S':Sx} {vcs:List VC} (h:Qce C N B S o=some (S',vcs)) (hv:∀ c∈vcs,c ()):OpM P o a w (Sim w0 S0 N B S'):=by
 obtain⟨dst,op,ty,pos,aft,gd⟩:=o;unfold Qce at h;dsimp only at h;split at h
 . rename_i c;obtain⟨callee,cargs,cts⟩:=c;dsimp only at h;split at h
   . rename_i f;split at h
     . rename_i fo hfo;split at h
       . rename_i avs havs;split at h
         . rename_i res hres;split at h
           . rename_i hc;simp only [Bool.and_eq_true,beq_iff_eq] at hc;obtain⟨⟨⟨⟨hn0,hna⟩,hne⟩,hnew⟩,hfix⟩:=hc;have hfix':S0.fx=true->fo.fix=true:=fun h=>by rw [hcs.fx] at h; simpa [h] using hfix
             obtain⟨hok,rfl⟩:=Qii hcs.fs hfo;obtain⟨ρ,ro,H⟩:=H;split at h
             . rename_i d
               cases hp:Qy B ⟨(G0 fo.fix [] S).t,Jg (Ga [] S.n) res.es++(G0 fo.fix [] S).e,S.n+(Q2k 0 (Zg res.es) - 0)⟩ N d (AV.ren (Ga [] S.n) res.av) with
               | none=>rw [hp] at h; cases h
               | some S2 =>
                rw [hp] at h;cases h;have hpre:=hv _ (.head _);have hE:Qj w ρ w0.heap.size ro (cargs.toList.map (Z0 B S)) (cargs.toList.map a.eval):=Q2m fun x _=>H.get x;have hargs:=J7 (fun l e he=>H.en l e he) H.roB _ _ _ _ havs hE (.inr fun _ h=>h);have hcall:=hok.2 avs [] res hres w (fun _=>none) (fun b=>b<w.heap.size) (cargs.toList.map a.eval) (fun _ h=>h) hargs (fun l e he=>by cases he) (fun _ _ _ _ _ _ h=>by cases h) (fun _ _=>rfl) (fun _ _ _ h=>by cases h) hpre;have hrun:(execOp a.eval ⟨some d,.call { callee := .value (.func fo.f),args:=cargs,argTypes:=cts },ty,pos,aft,gd⟩).run P w = .ok (.enter fo.f (cargs.toList.map a.eval).toArray) w:=by
                 have:=Qb9 (P:=P) (r:=a.eval) (d:=some d) (ty:=ty) (pos:=pos) (aft:=aft) (gd:=gd) (w:=w) (c := .func fo.f) (xs:=cargs) (ts:=cts) (vs := []) (F:=fo.f) rfl hok.1;simpa using this
                refine .inr (.inr ⟨_,_,hrun,hcall.mono fun e w' hq => ?_⟩);obtain⟨v,ρ1,ra1,rfl,hL,hr⟩:=hq;have hL2:Qmt w w' (ρL ρ []) ρ1 ro (fun b=>ra1 b/\w.heap.size<=b) res.es fo.fix:=by
                 have e : ρL ρ []=fun _=>none:=funext fun k=>by unfold ρL; simp
                 rw [e];exact⟨hL.from_,fun l e he=>(hL.en l e he).nova_ (Qn7 hne he),hL.apart,hL.fresh,fun l r b h1 h2=>⟨(hL.own l r b h1 h2).1,fun h4=>(hL.own l r b h1 h2).2.1 h4.1,(hL.own l r b h1 h2).2.2⟩,fun b hb=>⟨(hL.rd b hb.1).1,fun h=>absurd hb.2 (by omega)⟩,hL.solid⟩
                obtain⟨ρ',H2,hre⟩:=H.called (locs := []) (n:=0) rfl List.nodup_nil (fun _ h=>by cases h) rfl rfl hnew hfix' hL2;exact⟨v,rfl,ρ',_,H2.put hp (((hr.nova_ hna).ren hre).mono (fun _ _ _=>rfl) (Ext.refl _) H.from_.size fun b hb => .inr hb)⟩
             . cases h
           . cases h
         . cases h
       . cases h
     . cases h
   . cases h
 . cases h
theorem Qoe {C:Cx} (hty:Zw P C.ty) (hcs:Q3h P C S0) (H:Sim w0 S0 N B S a w) {o:Oper} {S':Sx} {vcs:List VC} (h:Gd C N B S o=some (S',vcs)) (hv:∀ c∈vcs,c ()):OpM P o a w (Sim w0 S0 N B S'):=by
 unfold Gd at h;split at h
 . rename_i av vcs' hpo;obtain⟨ρ,ro,H⟩:=H;obtain⟨dst,op,ty,pos,aft,gd⟩:=o;have hvcs:vcs=vcs':=by
    split at h
    . rename_i d hd
      cases hp:Qy B S N d av with
      | none=>rw [hp] at h; cases h
      | some S2=>rw [hp] at h; cases h; rfl
    . cases h; rfl
   subst hvcs;have h1:=Qnb (d:=dst) (ty:=ty) (pos:=pos) (aft:=aft) (gd:=gd) (r:=a.eval) hty hcs.cs (fun l e he=>H.en l e he) (fun x _=>H.get x) H.roB H.from_.size hpo hv;have hfin:∀ v w',Qe w w'->AVR w' ρ w0.heap.size (fun b=>ro b\/w.heap.size<=b) av v->Sim w0 S0 N B S' (a.put dst v) w':=by
    intro v w' hb hav;have H2:=H.calm hb
    cases dst with
    | some d =>
     dsimp only at h
     cases hp:Qy B S N d av with
     | none=>rw [hp] at h; cases h
     | some S2=>rw [hp] at h; cases h; exact⟨_,_,H2.put hp hav.calm⟩
    | none =>
     cases h;exact⟨_,_,H2⟩
   rcases h1 with ⟨v,w',h2,h3,h4⟩|⟨f,args,h2,h3⟩
   . exact .inl ⟨v,w',h2,hfin v w' h3 h4⟩
   . exact .inr (.inr ⟨f,args,h2,h3.mono fun e w' ⟨v,q1,q2,q3⟩=>⟨v,q1,hfin v w' q2 q3⟩⟩)
 . split at h
   . rename_i r hm;cases h;have H1:Sim w0 S0 N B (cond C.fx S (Qyc B S o.op)) a w:=by
      cases hc:C.fx with
      | true=>exact H
      | false=>exact Z5b (by rw [hcs.fx,hc]) H _
     exact Z2e hcs.fx hty H1 hm hv
   . split at h
     . rename_i r hm;cases h;exact Z1n hcs H hm hv
     . exact Z1c hcs H h hv
theorem Qth:AVR w ρ base ro (.tup []) undef := .tup [] [] rfl fun j x v h=>by simp at h
theorem Qda (H:Sim w0 S0 N B S a w) {o:Oper} {S':Sx} (h:Jd N B S o=some S'):Sim w0 S0 N B S' (a.put o.dst undef) w:=by
 obtain⟨ρ,ro,H⟩:=H;unfold Jd at h;split at h
 . rename_i d hd;rw [hd];exact⟨_,_,H.put h Qth⟩
 . rename_i hd;rw [hd];cases h;exact⟨_,_,H⟩
theorem Qk3 {C:Cx} (hty:Zw P C.ty) (H:Sim w0 S0 N B S a w) {o:Oper} {f:(Sx->Fm)->Fm} {K:Sx->Fm} (h:Kw C N B S o=some f) (hK:(f K).P):OpM P o a w fun a' w'=>∃ S',Sim w0 S0 N B S' a' w'/\(K S').P:=by
 obtain⟨dst,op,ty,pos,aft,gd⟩:=o;unfold Kw at h;dsimp only at h;split at h
 . rename_i T x;split at h
   . rename_i kt et c t ag loc d hT hx;split at h
     . rename_i fr ag' c' t' T' m he;split at h
       . rename_i S' hb hp;cases h;simp only [Option.isNone_iff_eq_none] at hb;exact Z4d hty H hT hx he hb hp hK
       . cases h
     . cases h
   . cases h
 . rename_i x;split at h
   . rename_i loc l2 d hx;split at h
     . rename_i fr ag c t T m ml c' seen left he hi;split at h
       . rename_i hc;obtain⟨rfl,rfl,hb⟩:=hc;simp only [Option.isNone_iff_eq_none] at hb;split at h
         . rename_i S1 S2 hp1 hp2;cases h;exact Z6y H hx he hi hb hp1 hp2 hK
         . cases h
       . cases h
     . cases h
   . cases h
 . cases h
end
theorem Q87:∀ {l:List VC},Jo l->∀ c∈l,c ()
 | [],_,c,hc=>by cases hc
 | [c],h,c',hc=>by rw [List.mem_singleton] at hc; subst hc; exact h
 | c::d::l,h,c',hc=>by
  rcases List.mem_cons.1 hc with rfl|hc
  . exact h.1
  . exact Q87 h.2 c' hc
section
variable {P:Program} {w w' w0:World} {ρ ρ':Nat->Option Rl} {base:Nat} {ro ro':Nat->Prop} {S0:Pm} {N:Nat} {B:Bs} {S:Sx} {a a0:Act} {C:Cx} {Q:Exit->Act->World->Prop}
theorem Z3e {d:Nat} {v:Value} (h:a.tmps[d]? = some v):a.put (some d) v=a:=by
 unfold Act.put;have hlt:=(Array.getElem?_eq_some_iff.1 h).1;have:a.tmps.setIfInBounds d v=a.tmps:=by
  apply Array.ext_getElem?;intro i;rw [Array.getElem?_setIfInBounds];split
  . rename_i e;subst e;rw [h]
  . rfl
 simp only [this]
theorem Q0u {d:Nat} {x:AV} (h:Q24 B S d=x) (hx:x ≠ .un):Zh B S d=some x:=by
 unfold Q24 at h
 cases hl:Zh B S d with
 | none=>rw [hl] at h; exact absurd h.symm hx
 | some y =>
  rw [hl] at h;have h':y=x:=h;rw [h']
theorem Sim.refine_ (H:Sim w0 S0 N B S a w) {d:Nat} {c:Unit->Bool} {S':Sx} (hd:Q24 B S d = .bool c) (hp:Qy B S N d (.blit (c ()))=some S'):a.tmps[d]? = some (.bool (c ()))/\Sim w0 S0 N B S' a w:=by
 obtain⟨ρ,ro,H⟩:=H;obtain⟨u,h1,h2⟩:=H.tm d _ (Q0u hd (by simp));have h3:=h2.bool_;subst h3;refine⟨h1,ρ,ro,?_⟩;have H2:=H.put hp (.blit (c ()));rwa [Z3e h1] at H2
inductive Dec (B:Bs) (N:Nat) (l:List Oper) (S:Sx) (o:Oper):Bool->Sx->Prop
 | free (h:o.guard=none):Dec B N l S o true S
 | lit (j d:Nat) (b c:Bool) (oj:Oper) (h:o.guard=some (j,b)) (hj:l[j]? = some oj) (hd:oj.dst=some d) (hc:Q24 B S d = .blit c):Dec B N l S o (c==b) S
 | gone (j d:Nat) (b:Bool) (oj:Oper) (h:o.guard=some (j,b)) (hj:l[j]? = some oj) (hd:oj.dst=some d) (hc:Q24 B S d = .tup []):Dec B N l S o false S
 | ask (j d:Nat) (b:Bool) (c:Unit->Bool) (oj:Oper) (S':Sx) (h:o.guard=some (j,b)) (hj:l[j]? = some oj) (hd:oj.dst=some d) (hc:Q24 B S d = .bool c) (hp:Qy B S N d (.blit (c ()))=some S'):Dec B N l S o (c ()==b) S'
theorem Qcx {l:List Oper} {o oj:Oper} {j d:Nat} {b:Bool} (h:o.guard=some (j,b)) (hj:l[j]? = some oj) (hd:oj.dst=some d) (hu:a.tmps[d]? = some undef):Region.wanted o (yielded l.toArray a.tmps)=false:=by
 have h1:yielded l.toArray a.tmps j=none:=by
  unfold yielded;have h2:((l.toArray[j]?).bind (·.dst)).bind (a.tmps[·]?)=some undef:=by simp [hj,hd,hu]
  rw [h2];rfl
 unfold Region.wanted;rw [h];simp only [h1];rfl
theorem Qsb {v:Value} (h:AVR w ρ base ro (.tup []) v):v=undef:=by
 obtain⟨vs,rfl,hE⟩:=h.tup_;rw [hE.none];rfl
theorem Dec.seq {l:List Oper} {o:Oper} {r:Bool} {S':Sx} (h:Dec B N l S o r S') (H:Sim w0 S0 N B S a w):Region.wanted o (yielded l.toArray a.tmps)=r/\Sim w0 S0 N B S' a w:=by
 cases h with
 | free h=>exact⟨Q97 h _,H⟩
 | lit j d b c oj h hj hd hc =>
  obtain⟨ρ,ro,HR⟩:=H;obtain⟨u,h1,h2⟩:=HR.tm d _ (Q0u hc (by simp));rw [h2.blit_] at h1;exact⟨Q25 h (by simpa using hj) hd h1 rfl,ρ,ro,HR⟩
 | gone j d b oj h hj hd hc =>
  obtain⟨ρ,ro,HR⟩:=H;obtain⟨u,h1,h2⟩:=HR.tm d _ (Q0u hc (by simp));rw [Qsb h2] at h1;exact⟨Qcx h hj hd h1,ρ,ro,HR⟩
 | ask j d b c oj S' h hj hd hc hp =>
  obtain⟨h1,h2⟩:=H.refine_ hc hp;exact⟨Q25 h (by simpa using hj) hd h1 rfl,h2⟩
theorem Q89 {l rest:List Oper} {o:Oper} {k:Sx->Fm} (h:(Qq C N B l (o::rest) S k).P):∃ r S1,Dec B N l S o r S1 /\
 ((r=true/\((∃ S2 vcs,Gd C N B S1 o=some (S2,vcs)/\(∀ c∈vcs,c ())/\(Qq C N B l rest S2 k).P)\/∃ f,Kw C N B S1 o=some f/\(f fun S'=>Qq C N B l rest S' k).P))\/(r=false/\∃ S2,Jd N B S1 o=some S2/\(Qq C N B l rest S2 k).P)):=by
 have hgo:∀ S1,(match Kw C N B S1 o with
  | some f=>f fun S'=>Qq C N B l rest S' k
  | none=>match Gd C N B S1 o with
   | some (S',[])=>Qq C N B l rest S' k
   | some (S',vcs) => .vc vcs (Qq C N B l rest S' k)
   | none => .ff (1000+rest.length):Fm).P->(∃ S2 vcs,Gd C N B S1 o=some (S2,vcs)/\(∀ c∈vcs,c ())/\(Qq C N B l rest S2 k).P)\/∃ f,Kw C N B S1 o=some f/\(f fun S'=>Qq C N B l rest S' k).P:=by
  intro S1 h
  cases hsp:Kw C N B S1 o with
  | some f =>
   rw [hsp] at h;exact .inr ⟨f,rfl,h⟩
  | none =>
   rw [hsp] at h;dsimp only at h;left;split at h
   . rename_i S2 hs;exact⟨S2,[],hs,(fun c hc=>by cases hc),h⟩
   . rename_i S2 vcs _ hs;exact⟨S2,vcs,hs,Q87 h.1,h.2⟩
   . exact h.elim
 have hno:∀ S1,(match Jd N B S1 o with
  | some S'=>Qq C N B l rest S' k
  | none => .ff 3:Fm).P->∃ S2,Jd N B S1 o=some S2/\(Qq C N B l rest S2 k).P:=by
  intro S1 h;split at h
  . rename_i S2 hs;exact⟨S2,hs,h⟩
  . exact h.elim
 unfold Qq at h;dsimp only at h;split at h
 . rename_i hw;unfold Kb at hw;split at hw
   . rename_i hg;exact⟨true,S,.free hg,.inl ⟨rfl,hgo S h⟩⟩
   . rename_i j b hg;split at hw
     . rename_i d hd;obtain⟨oj,hoj,hdj⟩:=Option.bind_eq_some_iff.1 hd;split at hw
       . rename_i c hc;split at hw
         . rename_i hcb;exact⟨_,S,.lit j d b c oj hg hoj hdj hc,.inl ⟨by rw [hcb]; simp,hgo S h⟩⟩
         . cases hw
       . cases hw
       . cases hw
       . cases hw
     . cases hw
 . rename_i hw;unfold Kb at hw;split at hw
   . cases hw
   . rename_i j b hg;split at hw
     . rename_i d hd;obtain⟨oj,hoj,hdj⟩:=Option.bind_eq_some_iff.1 hd;split at hw
       . rename_i c hc;split at hw
         . cases hw
         . rename_i hcb;exact⟨_,S,.lit j d b c oj hg hoj hdj hc,.inr ⟨by simpa using hcb,hno S h⟩⟩
       . cases hw
       . rename_i hc;exact⟨false,S,.gone j d b oj hg hoj hdj hc,.inr ⟨rfl,hno S h⟩⟩
       . cases hw
     . cases hw
 . rename_i d c b hw;unfold Kb at hw;split at hw
   . cases hw
   . rename_i j b' hg;split at hw
     . rename_i d' hd;obtain⟨oj,hoj,hdj⟩:=Option.bind_eq_some_iff.1 hd;split at hw
       . split at hw<;>cases hw
       . rename_i c' hc;injection hw with e1 e2 e3;subst e1; subst e2; subst e3;split at h
         . rename_i S1 S2 h1 h2;have hdec:∀ S',Qy B S N d' (.blit (c' ()))=some S'->Dec B N l S o (c' ()==b') S':=fun S' hp => .ask j d' b' c' oj S' hg hoj hdj hc hp;obtain⟨ht,hf⟩:=h
           cases hcv:c' () with
           | true =>
            rw [hcv] at hdec;refine⟨_,S1,hdec S1 h1,?_⟩;have h3:=ht hcv
            cases b' with
            | true=>exact .inl ⟨rfl,hgo S1 h3⟩
            | false=>exact .inr ⟨rfl,hno S1 h3⟩
           | false =>
            rw [hcv] at hdec;refine⟨_,S2,hdec S2 h2,?_⟩;have h3:=hf hcv
            cases b' with
            | true=>exact .inr ⟨rfl,hno S2 h3⟩
            | false=>exact .inl ⟨rfl,hgo S2 h3⟩
         . exact h.elim
       . cases hw
       . cases hw
     . cases hw
 . exact h.elim
theorem Q5o (hty:Zw P C.ty) (hcs:Q3h P C S0) {l:List Oper} {k:Sx->Fm} (hk:∀ S' a' w',Sim w0 S0 N B S' a' w'->(k S').P->Q .normal a' w'):∀ {rest:List Oper} {S:Sx} {a:Act} {w:World},(Qq C N B l rest S k).P->Sim w0 S0 N B S a w->wpList P l.toArray Q rest a w
 | [],S,a,w,h,H=>hk S a w H h
 | o::rest,S,a,w,h,H=>by
  obtain⟨r,S1,hdec,hway⟩:=Q89 h;obtain⟨hw,H1⟩:=hdec.seq H;unfold wpList;rcases hway with ⟨rfl,⟨S2,vcs,hs,hv,h2⟩|⟨f,hs,h2⟩⟩|⟨rfl,S2,hs,h2⟩
  . rw [if_pos hw];exact .inl ((Qoe hty hcs H1 hs hv).wp fun a' w' H2=>Q5o hty hcs hk h2 H2)
  . rw [if_pos hw];exact .inl ((Qk3 hty H1 hs h2).wp fun a' w' ⟨S',H2,h3⟩=>Q5o hty hcs hk h3 H2)
  . rw [if_neg (by rw [hw]; simp)];exact Q5o hty hcs hk h2 (Qda H1 hs)
/- a region that draws its order -/
inductive Q0m (C:Cx) (N:Nat) (B:Bs) (l:List Oper):Sx->List Oper->List (Option AV)->Sx->Prop
 | nil (S0:Sx):Q0m C N B l S0 [] [] S0
 | go {S0 S1 S2 S':Sx} {o:Oper} {rest:List Oper} {av:AV} {vcs:List VC} {avs:List (Option AV)} {d:Nat} (hw:Dec B N l S0 o true S1) (hp:Gz C.ty C.cs (Qh B S1) (Z0 B S1) o.op=some (av,vcs)) (hv:∀ c∈vcs,c ()) (hd:o.dst=some d) (hput:Qy B S1 N d av=some S2) (h:Q0m C N B l S2 rest avs S'):Q0m C N B l S0 (o::rest) (some av::avs) S'
 | no {S0 S1 S2 S':Sx} {o:Oper} {rest:List Oper} {avs:List (Option AV)} {d:Nat} (hw:Dec B N l S0 o false S1) (hd:o.dst=some d) (hput:Qy B S1 N d (.tup [])=some S2) (h:Q0m C N B l S2 rest avs S'):Q0m C N B l S0 (o::rest) (none::avs) S'
theorem Qjq {o:Oper} (h:Gv (efs C.fs) o.op=true):Qpr C N B S o=none:=by
 obtain⟨dst,op,ty,pos,aft,gd⟩:=o;cases op<;>first|rfl|(cases h; done)|skip
 rename_i c;obtain⟨callee,cargs,cts⟩:=c
 cases callee with
 | value f=>rfl
 | invoke r m=>rfl
 | builtin b=>cases b<;>first|rfl|cases h
theorem Qhz {f:Nat}:∀ {cs:List Fon},Qw f (efs cs)=false->Q4u cs f=none
 | [],_=>rfl
 | c::cs,h=>by
  simp only [efs,Qw,Bool.or_eq_false_iff] at h;unfold Q4u;rw [if_neg (by rw [h.1]; simp)];exact Qhz h.2
theorem Qg1 {o:Oper} (h:Gv (efs C.fs) o.op=true):Qdq C N B S o=none:=by
 obtain⟨dst,op,ty,pos,aft,gd⟩:=o;cases op<;>first|rfl|skip
 rename_i c;obtain⟨callee,cargs,cts⟩:=c
 cases callee with
 | value x =>
  cases x with
  | func f =>
   have hm:Qw f (efs C.fs)=false:=by simpa [Gv] using h
   unfold Qdq;dsimp only;rw [Qhz hm]
  | tmp d=>rfl
  | const v=>rfl
  | global g=>rfl
 | invoke r m=>rfl
 | builtin b=>rfl
theorem Qfy {o:Oper} (h:Gv (efs C.fs) o.op=true):Qce C N B S o=none:=by
 obtain⟨dst,op,ty,pos,aft,gd⟩:=o;cases op<;>first|rfl|skip
 rename_i c;obtain⟨callee,cargs,cts⟩:=c
 cases callee with
 | value x =>
  cases x with
  | func f =>
   have hm:Qw f (efs C.fs)=false:=by simpa [Gv] using h
   unfold Qce;dsimp only;rw [Qhz hm]
  | tmp d=>rfl
  | const v=>rfl
  | global g=>rfl
 | invoke r m=>rfl
 | builtin b=>rfl
theorem Qdb {o:Oper} (h:Gv (efs C.fs) o.op=true):Kw C N B S o=none:=by
 obtain⟨dst,op,ty,pos,aft,gd⟩:=o;cases op<;>first|rfl|cases h
theorem Qbb {l:List Oper} {k:Sx->Fm}:∀ {pre tail:List Oper} {S:Sx},(∀ o∈pre,Gv (efs C.fs) o.op=true/\∃ d,o.dst=some d)->(Qq C N B l (pre++tail) S k).P->∃ avs S',Q0m C N B l S pre avs S'/\(Qq C N B l tail S' k).P
 | [],tail,S,_,h=>⟨[],S,.nil S,h⟩
 | o::pre,tail,S,hp,h=>by
  obtain⟨r,S1,hdec,hway⟩:=Q89 h;obtain⟨hpo,d,hd⟩:=hp o (.head _);have hp':∀ o∈pre,Gv (efs C.fs) o.op=true/\∃ d,o.dst=some d:=fun o ho=>hp o (.tail _ ho);rcases hway with ⟨rfl,⟨S2,vcs,hs,hv,h2⟩|⟨f,hs,h2⟩⟩|⟨rfl,S2,hs,h2⟩
  rotate_left
  . rw [Qdb hpo] at hs;cases hs
  rotate_left
  . unfold Gd at hs;split at hs
    . rename_i av vcs' hpu;rw [hd] at hs;dsimp only at hs
      cases hput:Qy B S1 N d av with
      | none=>rw [hput] at hs; cases hs
      | some S3 =>
       rw [hput] at hs;cases hs;obtain⟨avs,S',h3,h4⟩:=Qbb hp' h2;exact⟨_,S',.go hdec hpu hv hd hput h3,h4⟩
    . rw [Qjq hpo] at hs;dsimp only at hs;rw [Qg1 hpo] at hs;dsimp only at hs;rw [Qfy hpo] at hs;cases hs
  . unfold Jd at hs;rw [hd] at hs;obtain⟨avs,S',h3,h4⟩:=Qbb hp' h2;exact⟨_,S',.no hdec hd hs h3,h4⟩
theorem Q2y {S':Sx} {d s:Nat} {x:AV} (h:Qy B S N d x=some S'):S'.e=S.e/\S'.n=S.n/\(∀ y,Zh B S' s=some y->(s=d/\y=x)\/(s≠d/\Zh B S s=some y)):=by
 unfold Qy at h;split at h
 . cases h
 . cases h;refine⟨rfl,rfl,fun y hy => ?_⟩;unfold Zh at hy ⊢;rw [Qb] at hy;by_cases e:d=s
   . rw [if_pos e] at hy;injection hy with hy;exact .inl ⟨e.symm,hy.symm⟩
   . rw [if_neg e] at hy;exact .inr ⟨fun e'=>e e'.symm,hy⟩
def Q1u (B:Bs) (l:List Oper) (a0:Act) (w:World) (ρ:Nat->Option Rl) (base:Nat) (ro:Nat->Prop) (L:Nat->Bool) (val:Nat->Value) (i:Nat) (S:Sx):Prop :=
 ∀ s x,Zh B S s=some x->match Vp l s i with
  | none=>∃ u,a0.tmps[s]? = some u/\AVR w ρ base ro x u
  | some j=>L j=true->AVR w ρ base ro x (val j)
theorem Q1u.dec {l:List Oper} {L:Nat->Bool} {val:Nat->Value} {i:Nat} {o:Oper} {r:Bool} {S':Sx} (h:Q1u B l a0 w ρ base ro L val i S) (hd:Dec B N l S o r S'):Q1u B l a0 w ρ base ro L val i S'/\S'.e=S.e/\S'.n=S.n:=by
 cases hd with
 | free=>exact⟨h,rfl,rfl⟩
 | lit=>exact⟨h,rfl,rfl⟩
 | gone=>exact⟨h,rfl,rfl⟩
 | ask j d b c oj S' hg hj hdj hc hp =>
  refine⟨fun s x hx => ?_,(Q2y (s:=0) hp).1,(Q2y (s:=0) hp).2.1⟩;rcases (Q2y (s:=s) hp).2.2 x hx with ⟨rfl,rfl⟩|⟨_,h2⟩
  . have h3:=h s _ (Q0u hc (by simp));split
    . rename_i hpr;rw [hpr] at h3;obtain⟨u,h4,h5⟩:=h3;exact⟨u,h4,by rw [h5.bool_]; exact .blit _⟩
    . rename_i j' hpr;rw [hpr] at h3;intro hL;rw [(h3 hL).bool_];exact .blit _
  . exact h s x h2
theorem Qge {l:List Oper} {s i:Nat}:Vp l s (i+1)=if ((l[i]?).bind (·.dst))==some s then some i else Vp l s i:=rfl
theorem Q1u.put {l:List Oper} {L:Nat->Bool} {val:Nat->Value} {i d:Nat} {o:Oper} {av:AV} {S':Sx} (h:Q1u B l a0 w ρ base ro L val i S) (ho:l[i]? = some o) (hd:o.dst=some d) (hp:Qy B S N d av=some S') (hv:L i=true->AVR w ρ base ro av (val i)):Q1u B l a0 w ρ base ro L val (i+1) S':=by
 intro s x hx;rw [Qge,ho];simp only [Option.bind_some,hd];rcases (Q2y (s:=s) hp).2.2 x hx with ⟨rfl,rfl⟩|⟨h1,h2⟩
 . rw [if_pos (by simp)];exact hv
 . rw [if_neg (by simpa using fun e=>h1 e.symm)];exact h s x h2
theorem Q0m.stage {l:List Oper} {L:Nat->Bool} {val:Nat->Value}:∀ {rest:List Oper} {S S':Sx} {avs:List (Option AV)} {i:Nat},Q0m C N B l S rest avs S'->(∀ j o,rest[j]? = some o->l[i+j]? = some o)->Q1u B l a0 w ρ base ro L val i S->(∀ j av,avs[j]? = some (some av)->L (i+j)=true->AVR w ρ base ro av (val (i+j)))->(∀ j,avs[j]? = some none->L (i+j)=true->val (i+j)=undef) ->
 (∀ m o,rest[m]? = some o->∃ S0 S1 r,Q1u B l a0 w ρ base ro L val (i+m) S0/\Q1u B l a0 w ρ base ro L val (i+m) S1/\S1.e=S.e/\Dec B N l S0 o r S1/\((r=true/\∃ av vcs,avs[m]? = some (some av)/\Gz C.ty C.cs (Qh B S1) (Z0 B S1) o.op=some (av,vcs)/\∀ c∈vcs,c ())\/(r=false/\avs[m]? = some none)))/\Q1u B l a0 w ρ base ro L val (i+rest.length) S'/\S'.e=S.e/\S'.n=S.n/\avs.length=rest.length
 | [],S,S',avs,i,h,_,hc,_,_=>by
  cases h;exact⟨fun m o hm=>by simp at hm,hc,rfl,rfl,rfl⟩
 | o::rest,S,S',avs,i,h,hl,hc,hav,hnv=>by
  cases h with
  | @go _ S1 S2 _ _ _ av vcs avs d hw hp hv hd hput h =>
   obtain⟨hc1,he1,hn1⟩:=hc.dec hw;have ho:l[i]? = some o:=by simpa using hl 0 o rfl
   have hc2:Q1u B l a0 w ρ base ro L val (i+1) S2:=hc1.put ho hd hput (fun hL=>by simpa using hav 0 av rfl (by simpa using hL));obtain⟨q1,q2,q3,q4,q5⟩:=Q0m.stage (i:=i+1) h (fun j o' hj=>by rw [show i+1+j=i+(j+1) by omega]; exact hl (j+1) o' (by simpa using hj)) hc2 (fun j av' hj hL=>by rw [show i+1+j=i+(j+1) by omega] at hL ⊢; exact hav (j+1) av' (by simpa using hj) hL) (fun j hj hL=>by rw [show i+1+j=i+(j+1) by omega] at hL ⊢; exact hnv (j+1) (by simpa using hj) hL);have hp2:=Q2y (s:=0) hput;refine⟨fun m o' hm => ?_,by rw [List.length_cons,show i+(rest.length+1)=i+1+rest.length by omega]; exact q2,by rw [q3,hp2.1,he1],by rw [q4,hp2.2.1,hn1],by simp [q5]⟩
   cases m with
   | zero =>
    simp only [List.getElem?_cons_zero,Option.some.injEq] at hm;subst hm;exact⟨S,S1,true,hc,hc1,he1,hw,.inl ⟨rfl,av,vcs,rfl,hp,hv⟩⟩
   | succ m =>
    obtain⟨S0,S3,r,k1,k2,k3,k4,k5⟩:=q1 m o' (by simpa using hm);rw [show i+1+m=i+(m+1) by omega] at k1 k2;exact⟨S0,S3,r,k1,k2,by rw [k3,hp2.1,he1],k4,by simpa using k5⟩
  | @no _ S1 S2 _ _ _ avs d hw hd hput h =>
   obtain⟨hc1,he1,hn1⟩:=hc.dec hw;have ho:l[i]? = some o:=by simpa using hl 0 o rfl
   have hc2:Q1u B l a0 w ρ base ro L val (i+1) S2:=hc1.put ho hd hput (fun hL=>by rw [show val i=undef by simpa using hnv 0 rfl (by simpa using hL)]; exact Qth);obtain⟨q1,q2,q3,q4,q5⟩:=Q0m.stage (i:=i+1) h (fun j o' hj=>by rw [show i+1+j=i+(j+1) by omega]; exact hl (j+1) o' (by simpa using hj)) hc2 (fun j av' hj hL=>by rw [show i+1+j=i+(j+1) by omega] at hL ⊢; exact hav (j+1) av' (by simpa using hj) hL) (fun j hj hL=>by rw [show i+1+j=i+(j+1) by omega] at hL ⊢; exact hnv (j+1) (by simpa using hj) hL);have hp2:=Q2y (s:=0) hput;refine⟨fun m o' hm => ?_,by rw [List.length_cons,show i+(rest.length+1)=i+1+rest.length by omega]; exact q2,by rw [q3,hp2.1,he1],by rw [q4,hp2.2.1,hn1],by simp [q5]⟩
   cases m with
   | zero =>
    simp only [List.getElem?_cons_zero,Option.some.injEq] at hm;subst hm;exact⟨S,S1,false,hc,hc1,he1,hw,.inr ⟨rfl,rfl⟩⟩
   | succ m =>
    obtain⟨S0,S3,r,k1,k2,k3,k4,k5⟩:=q1 m o' (by simpa using hm);rw [show i+1+m=i+(m+1) by omega] at k1 k2;exact⟨S0,S3,r,k1,k2,by rw [k3,hp2.1,he1],k4,by simpa using k5⟩
theorem Qh5 {S':Sx} {d:Nat} {x:AV} (h:Qy B S N d x=some S') (hd:∀ d x,Q3 B.t d=some x->Q3 S.t d=none):∀ d x,Q3 B.t d=some x->Q3 S'.t d=none:=by
 unfold Qy at h;split at h
 . cases h
 . rename_i hc;simp only [Bool.or_eq_true,not_or,Bool.not_eq_true,Option.isSome_eq_false_iff,Option.isNone_iff_eq_none] at hc;cases h;intro s y hy;rw [Qb,if_neg (by rintro rfl; rw [hc.1] at hy; cases hy)];exact hd s y hy
theorem Dec.dis {l:List Oper} {o:Oper} {r:Bool} {S':Sx} (h:Dec B N l S o r S') (hd:∀ d x,Q3 B.t d=some x->Q3 S.t d=none):∀ d x,Q3 B.t d=some x->Q3 S'.t d=none:=by
 cases h with
 | free=>exact hd
 | lit=>exact hd
 | gone=>exact hd
 | ask j d b c oj S2 hg hj hdj hc hp=>exact Qh5 hp hd
theorem Q0m.dis {l:List Oper}:∀ {rest:List Oper} {S S':Sx} {avs:List (Option AV)},Q0m C N B l S rest avs S'->(∀ d x,Q3 B.t d=some x->Q3 S.t d=none)->∀ d x,Q3 B.t d=some x->Q3 S'.t d=none:=by
 intro rest S S' avs h
 induction h with
 | nil=>exact id
 | go hw hp hv hd hput h ih =>
  intro hd0;exact ih (Qh5 hput (hw.dis hd0))
 | no hw hd hput h ih =>
  intro hd0;exact ih (Qh5 hput (hw.dis hd0))
end
theorem Q8w {l:List Oper} {i j:Nat} {oi oj:Oper} (h:Q3d l i=true) (hi:l[i]? = some oi) (hj:l[j]? = some oj) (hne:j≠i):(∃ e∈oi.after,Region.binds .any e=true/\e.on=j)\/(∃ e∈oj.after,Region.binds .any e=true/\e.on=i)\/oi.apart l.toArray oj=true:=by
 unfold Q3d at h;rw [hi] at h;have hlt:=(List.getElem?_eq_some_iff.1 hj).1;have h1:=List.all_eq_true.1 h j (List.mem_range.2 hlt);rw [hj] at h1;simp only [Bool.or_eq_true,beq_iff_eq] at h1;have hany:∀ {es:Array Edge} {k:Nat},(es.any fun e=>Region.binds .any e&&e.on==k)=true->∃ e∈es,Region.binds .any e=true/\e.on=k:=by
  intro es k h;rw [Array.any_eq_true'] at h;obtain⟨e,he,h2⟩:=h;simp only [Bool.and_eq_true,beq_iff_eq] at h2;exact⟨e,he,h2⟩
 rcases h1 with ((h1|h1)|h1)|h1
 . exact absurd h1.symm hne
 . exact .inl (hany h1)
 . exact .inr (.inl (hany h1))
 . exact .inr (.inr h1)
theorem Z1m {P:Program} {Q:Exit->Act->World->Prop} {l:List Oper} (reg:Nat->Bool) (hsel:∀ (j:Nat) (o:Oper) cs b,l.toArray[j]? = some o->o.op ≠ .select cs b) (hQ:∀ c a w,¬ Q (.panic c) a w) (hap:∀ i,reg i=true->Q3d l i=true)
 (Inv:Array Bool->Act->World->Prop) (hend:∀ listed a w,Inv listed a w->Region.ready .any l.toArray listed = []->Q .normal a w)
 (hreg:∀ listed a w i o,Inv listed a w->i∈Region.ready .any l.toArray listed->reg i=true->l[i]? = some o->∃ v,Yields P l.toArray o v a/\Inv (listed.setIfInBounds i true) (a.put o.dst v) w)
 (hstep:∀ listed a w i,Inv listed a w->i∈Region.ready .any l.toArray listed->(∀ j∈Region.ready .any l.toArray listed,reg j=false)->wpOp P l.toArray Q i (Inv (listed.setIfInBounds i true)) a w) :
 ∀ (fuel:Nat) (listed:Array Bool) (a:Act) (w:World),listed.toList.count false<=fuel->Inv listed a w->wpAny P .any l.toArray Q fuel listed a w:=by
 have hcount:∀ (listed:Array Bool) (i:Nat),i∈Region.ready .any l.toArray listed->(listed.setIfInBounds i true).toList.count false+1=listed.toList.count false:=by
  intro listed i hi;obtain⟨h1,_⟩:=mem_ready.1 hi;obtain⟨_,hlt⟩:=Q0z h1;have h2:listed.toList[i]'(by simpa using hlt)=false:=by
   rw [Array.getD_eq_getD_getElem?,Array.getElem?_eq_getElem hlt] at h1;simpa using h1
  rw [Array.toList_setIfInBounds];have h3:=List.count_set (l:=listed.toList) (i:=i) (a:=true) (b:=false) (by simpa using hlt);have h4:0<listed.toList.count false:=List.count_pos_iff.2 (h2▸List.getElem_mem _);have e1:((listed.toList[i]'(by simpa using hlt))==false)=true:=by rw [h2]; rfl
  have e2:(true==false)=false:=rfl;rw [h3];simp only [e1,e2,if_true,Bool.false_eq_true,if_false];omega
 intro fuel
 induction fuel with
 | zero =>
  intro listed a w hc h;have hr:Region.ready .any l.toArray listed = []:=by
   rw [List.eq_nil_iff_forall_not_mem];intro i hi;have:=hcount listed i hi;omega
  exact⟨hr,hend listed a w h hr⟩
 | succ fuel ih =>
  intro listed a w hc h;by_cases hex:∃ i,i∈Region.ready .any l.toArray listed/\reg i=true
  . obtain⟨i,hi,hri⟩:=hex;obtain⟨hun,o,ho,haft⟩:=mem_ready.1 hi;have ho':l[i]? = some o:=by simpa using ho
    obtain⟨v,hy,h2⟩:=hreg listed a w i o h hi hri ho';refine wpAny_first ho hsel (fun c a w hq=>(hQ c _ w hq).elim) fuel listed a w (fun j oj hoj hne hjl hno => ?_) hi hy (ih _ _ _ (by have:=hcount listed i hi; omega) h2);rcases Q8w (hap i hri) ho' (by simpa using hoj) hne with ⟨e,he,hb,hon⟩|⟨e,he,hb,hon⟩|h3
    . have h4:=haft e he hb;rw [hon] at h4;rw [Array.getD_eq_getD_getElem?] at h4 hjl
      cases hq:listed[j]? with
      | none=>rw [hq] at h4; cases h4
      | some q=>rw [hq] at h4 hjl; simp only [Option.getD_some] at h4 hjl; rw [h4] at hjl; cases hjl
    . exact absurd hon (hno e he hb)
    . exact h3
  . refine⟨fun hr=>hend listed a w h hr,fun i hi => ?_⟩;have hall:∀ j∈Region.ready .any l.toArray listed,reg j=false:=fun j hj=>by
     cases hq:reg j with
     | false=>rfl
     | true=>exact (hex ⟨j,hj,hq⟩).elim
    exact wpOp_mono (fun a' w' h'=>ih _ _ _ (by have:=hcount listed i hi; omega) h') (hstep listed a w i h hi hall)
theorem Qzd {σ:List Nat} {j:Nat} (h:j ∉ σ):V8 σ j = σ.length:=by
 induction σ with
 | nil=>rfl
 | cons k l ih =>
  unfold V8;rw [if_neg (by rintro rfl; exact h (by simp)),ih fun hm=>h (by simp [hm])];rfl
section
variable {P:Program} {Q:Exit->Act->World->Prop} {l:List Oper} {σ:List Nat}
theorem Q2j (h:Y2 σ l.length=true) : σ.length=l.length:=by
 simp only [Y2,Bool.and_eq_true,beq_iff_eq] at h;exact h.1.1
theorem Q7n (h:Y2 σ l.length=true) {j:Nat} (hj:j<l.length) : σ[V8 σ j]? = some j:=by
 simp only [Y2,Bool.and_eq_true,beq_iff_eq] at h;have:=List.all_eq_true.1 h.1.2 j (List.mem_range.2 hj);simpa using this
theorem Qvy (h:Y2 σ l.length=true) {k i:Nat} (hk : σ[k]? = some i):i<l.length/\V8 σ i=k:=by
 have hlt:=(List.getElem?_eq_some_iff.1 hk).1;rw [Q2j h] at hlt;simp only [Y2,Bool.and_eq_true,beq_iff_eq] at h;have:=List.all_eq_true.1 h.2 k (List.mem_range.2 hlt);rw [hk] at this;simpa using this
theorem Qte (h:Y2 σ l.length=true) {j:Nat} (hj:l.length<=j):V8 σ j=l.length:=by
 rw [Qzd,Q2j h];intro hm;obtain⟨k,hk⟩:=List.mem_iff_getElem?.1 hm;have:=(Qvy h hk).1;omega
theorem Qdn (h:Y2 σ l.length=true) (j:Nat):(Qr σ l)[V8 σ j]? = (l[j]?).map (Gx σ):=by
 rcases Nat.lt_or_ge j l.length with hj|hj
 . unfold Qr;rw [List.getElem?_map,Q7n h hj,List.getElem?_eq_getElem hj];simp [hj]
 . rw [Qte h hj,List.getElem?_eq_none hj,List.getElem?_eq_none (by unfold Qr; simp [Q2j h])];rfl
def Q58 (σ:List Nat) (n:Nat) (listed listed':Array Bool):Prop:=listed.size=n/\listed'.size=n/\∀ j,j<n->listed'[V8 σ j]? = listed[j]?
theorem Q58.getD (h:Y2 σ l.length=true) {L L':Array Bool} (hs:Q58 σ l.length L L') (j:Nat) (d:Bool):L'.getD (V8 σ j) d=L.getD j d:=by
 rw [Array.getD_eq_getD_getElem?,Array.getD_eq_getD_getElem?];rcases Nat.lt_or_ge j l.length with hj|hj
 . rw [hs.2.2 j hj]
 . rw [Qte h hj,Array.getElem?_eq_none (by rw [hs.2.1]; exact Nat.le_refl _),Array.getElem?_eq_none (by rw [hs.1]; exact hj)]
theorem Q58.set (h:Y2 σ l.length=true) {L L':Array Bool} (hs:Q58 σ l.length L L') {i:Nat} (hi:i<l.length):Q58 σ l.length (L.setIfInBounds i true) (L'.setIfInBounds (V8 σ i) true):=by
 refine⟨by simp [hs.1],by simp [hs.2.1],fun j hj => ?_⟩;rw [Array.getElem?_setIfInBounds,Array.getElem?_setIfInBounds,hs.2.2 j hj];have hp:=(List.getElem?_eq_some_iff.1 (Q7n h hi)).1;rw [Q2j h] at hp;by_cases e:i=j
 . subst e;rw [if_pos rfl,if_pos rfl,if_pos (by rw [hs.2.1]; exact hp),if_pos (by rw [hs.1]; exact hi)]
 . rw [if_neg e,if_neg];intro e2;have h1:=Q7n h hi;have h2:=Q7n h hj;rw [e2,h2] at h1;injection h1 with h1;exact e h1.symm
theorem Qan (h:Y2 σ l.length=true) {L L':Array Bool} (hs:Q58 σ l.length L L') (i:Nat):V8 σ i∈Region.ready .any (Qr σ l).toArray L'↔i∈Region.ready .any l.toArray L:=by
 rw [mem_ready,mem_ready,hs.getD h];have hg:(Qr σ l).toArray[V8 σ i]? = (l.toArray[i]?).map (Gx σ):=by simpa using Qdn h i
 constructor
 . rintro⟨h1,o',ho',h2⟩
   rw [hg] at ho'
   cases ho:l.toArray[i]? with
   | none=>rw [ho] at ho'; cases ho'
   | some o =>
    rw [ho] at ho';simp only [Option.map_some,Option.some.injEq] at ho';subst ho';refine⟨h1,o,rfl,fun e he hb => ?_⟩;have h3:=h2 (Qij σ e) (Array.mem_map.2 ⟨e,he,rfl⟩) hb;rwa [show (Qij σ e).on=V8 σ e.on from rfl,hs.getD h] at h3
 . rintro⟨h1,o,ho,h2⟩
   refine⟨h1,Gx σ o,by rw [hg,ho]; rfl,fun e' he' hb => ?_⟩;obtain⟨e,he,rfl⟩:=Array.mem_map.1 he';have h3:=h2 e he hb;rw [show (Qij σ e).on=V8 σ e.on from rfl,hs.getD h];exact h3
theorem Quv (h:Y2 σ l.length=true) (o:Oper) (t:Array Value):Region.wanted (Gx σ o) (yielded (Qr σ l).toArray t)=Region.wanted o (yielded l.toArray t):=by
 unfold Region.wanted Gx
 cases hg:o.guard with
 | none=>rfl
 | some gb =>
  obtain⟨g,b⟩:=gb;have hy:yielded (Qr σ l).toArray t (V8 σ g)=yielded l.toArray t g:=by
   unfold yielded;have hg2:(Qr σ l).toArray[V8 σ g]? = (l.toArray[g]?).map (Gx σ):=by simpa using Qdn h g
   rw [hg2];cases l.toArray[g]? <;> rfl
  simp only [hy]
theorem Z1p (h:Y2 σ l.length=true) {i:Nat} {K:Act->World->Prop} {a:Act} {w:World} (hw:wpOp P (Qr σ l).toArray Q (V8 σ i) K a w):wpOp P l.toArray Q i K a w:=by
 unfold wpOp at hw ⊢;have hg:(Qr σ l).toArray[V8 σ i]? = (l.toArray[i]?).map (Gx σ):=by simpa using Qdn h i
 rw [hg] at hw
 cases ho:l.toArray[i]? with
 | none=>rw [ho] at hw; exact hw
 | some o =>
  rw [ho] at hw;simp only [Option.map_some,Quv h] at hw;exact hw
theorem Qwc (h:Y2 σ l.length=true):∀ (fuel:Nat) (L L':Array Bool) (a:Act) (w:World),Q58 σ l.length L L'->wpAny P .any (Qr σ l).toArray Q fuel L' a w->wpAny P .any l.toArray Q fuel L a w:=by
 have hnone:∀ {L L':Array Bool},Q58 σ l.length L L'->Region.ready .any l.toArray L = []->Region.ready .any (Qr σ l).toArray L' = []:=by
  intro L L' hs hr;rw [List.eq_nil_iff_forall_not_mem];intro k hk;obtain⟨_,o,ho,_⟩:=mem_ready.1 hk;have hlt:k < σ.length:=by
   have:=(Array.getElem?_eq_some_iff.1 ho).1;simpa [Qr] using this
  obtain⟨_,hp⟩:=Qvy h (List.getElem?_eq_getElem hlt);rw [<- hp] at hk;have:=(Qan h hs _).1 hk;rw [hr] at this;cases this
 have hsome:∀ {L L':Array Bool},Q58 σ l.length L L'->Region.ready .any (Qr σ l).toArray L' = []->Region.ready .any l.toArray L = []:=by
  intro L L' hs hr;rw [List.eq_nil_iff_forall_not_mem];intro i hi;have:=(Qan h hs i).2 hi;rw [hr] at this;cases this
 intro fuel
 induction fuel with
 | zero=>intro L L' a w hs hw; exact⟨hsome hs hw.1,hw.2⟩
 | succ fuel ih =>
  intro L L' a w hs hw;refine⟨fun hr=>hw.1 (hnone hs hr),fun i hi => ?_⟩;obtain⟨_,o,ho,_⟩:=mem_ready.1 hi;have hlt:i<l.length:=by simpa using (Array.getElem?_eq_some_iff.1 ho).1
  exact Z1p h (wpOp_mono (fun a' w' h'=>ih _ _ a' w' (hs.set h hlt) h') (hw.2 (V8 σ i) ((Qan h hs i).2 hi)))
theorem Qmu (h:Y2 σ l.length=true) (hm:P.follows .mixedOrders=true) {id:Nat} {a:Act} {w:World} (hw:wpAny P .any (Qr σ l).toArray Q l.length (Array.replicate l.length false) a { w with drawn:=w.drawn+1 }):(Code.region id l.toArray true).wp P Q a w:=by
 refine wp_region_any hm ?_;have hs:Q58 σ l.length (Array.replicate l.length false) (Array.replicate l.length false):=by
  refine⟨by simp,by simp,fun j hj => ?_⟩;have hp:=(List.getElem?_eq_some_iff.1 (Q7n h hj)).1;rw [Q2j h] at hp;rw [Array.getElem?_replicate,Array.getElem?_replicate,if_pos hp,if_pos hj]
 have:=Qwc (P:=P) (Q:=Q) h l.length _ _ a _ hs hw;simpa using this
end
end Go.Proofs.YtffeegebohigdaaGreat
