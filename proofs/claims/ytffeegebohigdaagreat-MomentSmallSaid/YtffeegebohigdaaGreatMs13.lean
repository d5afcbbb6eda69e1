/-
  A region that draws its order: first part in any order, what only reckons as soon as it is ready, then the rest in its order.
-/
import Derived.Test.YtffeegebohigdaaGreatMs12
set_option linter.unusedVariables false
set_option linter.unusedSimpArgs false
namespace Go.Proofs.YtffeegebohigdaaGreat
open Go.RowKit
theorem Q8s {l:List Oper} {np j:Nat} {reg:Nat->Bool} {o:Oper} (h:Q7f l np reg=true) (ho:l[j]? = some o):∀ e∈o.after,Region.binds .any e=true->e.on<j:=by
 intro e he hb;have hj:=(List.getElem?_eq_some_iff.1 ho).1;unfold Q7f at h;have h1:=List.all_eq_true.1 h j (List.mem_range.2 hj);rw [ho] at h1;simp only [Bool.and_eq_true] at h1;have h2:=(Array.all_eq_true_iff_forall_mem.1 h1.1) e he;simpa [hb] using h2
theorem Qxa {l:List Oper} {np j:Nat} {reg:Nat->Bool} {o:Oper} (h:Q7f l np reg=true) (ho:l[j]? = some o) (hn:np<=j):∀ i,i<np->reg i=true\/Q1r .any l.toArray l.length j i=true:=by
 intro i hi;have hj:=(List.getElem?_eq_some_iff.1 ho).1;unfold Q7f at h;have h1:=List.all_eq_true.1 h j (List.mem_range.2 hj);rw [ho] at h1;simp only [Bool.and_eq_true,Bool.or_eq_true,decide_eq_true_eq] at h1;rcases h1.2 with h2|h2
 . omega
 . have h3:=List.all_eq_true.1 h2 i (List.mem_range.2 hi);simpa using h3
theorem _root_.Go.wpAny.ended {P:Program} {Q:Exit->Act->World->Prop} {ops:Array Oper} {n:Nat} {listed:Array Bool} {a:Act} {w:World} (h:wpAny P .any ops Q n listed a w) (hr:Region.ready .any ops listed = []):Q .normal a w:=by
 cases n with
 | zero=>exact h.2
 | succ n=>exact h.1 hr
theorem _root_.Go.wpAny.step {P:Program} {Q:Exit->Act->World->Prop} {ops:Array Oper} {n:Nat} {listed:Array Bool} {a:Act} {w:World} (h:wpAny P .any ops Q n listed a w) {i:Nat} (hr:i∈Region.ready .any ops listed):wpOp P ops Q i (fun a w=>∃ n,wpAny P .any ops Q n (listed.setIfInBounds i true) a w) a w:=by
 cases n with
 | zero=>rw [h.1] at hr; cases hr
 | succ n=>exact wpOp_mono (fun a w h=>⟨n,h⟩) (h.2 i hr)
theorem Qs5 {P:Program} {Q:Exit->Act->World->Prop} {a0:Act} {w0:World} {l:List Oper} (np:Nat) (reg:Nat->Bool) (R:Nat->Value->Nat->Nat->World->Prop) (hO:Q7f l np reg=true) (hnp:np<=l.length) (hd:Q1l l np a0.tmps.size=true) (hrn:∀ i,reg i=true->i<np)
 (hsel:∀ (j:Nat) (o:Oper) cs b,l.toArray[j]? = some o->o.op ≠ .select cs b) (hQ:∀ c a w,¬ Q (.panic c) a w) (hap:∀ i,reg i=true->Q3d l i=true)
 (hR:∀ i v lo hi w w',R i v lo hi w->hi<=w.heap.size->Qe w w'->R i v lo hi w')
 (hstepR:∀ i o,i<np->reg i=true->l[i]? = some o->∀ (L:Nat->Bool) (a:Act) (w:World) (val:Nat->Value) (lo hi:Nat->Nat),Q08 w0 a0 l np R L a w val lo hi->(∀ e∈o.after,Region.binds .any e=true->L e.on=true)->L i=false->(∀ j oj,L j=true->l[j]? = some oj->∀ e∈oj.after,Region.binds .any e=true->L e.on=true) ->
  ∃ v,Yields P l.toArray o v a/\R i v w.heap.size w.heap.size w)
 (hstep:∀ i o,i<np->l[i]? = some o->∀ (L:Nat->Bool) (a:Act) (w:World) (val:Nat->Value) (lo hi:Nat->Nat),Q08 w0 a0 l np R L a w val lo hi->(∀ e∈o.after,Region.binds .any e=true->L e.on=true)->L i=false->(∀ j oj,L j=true->l[j]? = some oj->∀ e∈oj.after,Region.binds .any e=true->L e.on=true) ->
  wpOp P l.toArray Q i (fun a' w'=>∃ v,a'=a.put o.dst v/\Qe w w'/\R i v w.heap.size w'.heap.size w') a w)
 (hK:∀ (val:Nat->Value) (lo hi:Nat->Nat) (w:World),Qe w0 w->(∀ i,i<np->w0.heap.size<=lo i/\lo i<=hi i/\hi i<=w.heap.size/\R i (val i) (lo i) (hi i) w)->(∀ i j,i<np->j<np->i≠j->hi i<=lo j\/hi j<=lo i)->∀ listed:Array Bool,listed.size=l.length->(∀ j,LL listed j=decide (j<np))->∃ n,wpAny P .any l.toArray Q n listed (Kn val 0 (l.take np) a0) w) :
 wpAny P .any l.toArray Q l.length (Array.replicate l.length false) a0 w0.drew:=by
 refine Z1m reg hsel hQ hap (fun listed a w=>listed.size=l.length/\Vz .any l.toArray listed/\((∃ val lo hi,Q08 w0 a0 l np R (LL listed) a w val lo hi/\∀ j,np<=j->LL listed j=false)\/((∀ j,j<np->LL listed j=true)/\∃ n,wpAny P .any l.toArray Q n listed a w))) ?_ ?_ ?_ _ _ _ _ ?_ ?_
 . rintro listed a w ⟨hsz,hcl,H⟩ hr
   have hall:∀ j,j<l.length->LL listed j=true:=by
    intro j
    induction j using Nat.strongRecOn with
    | ind j ih =>
     intro hj
     cases hq:LL listed j with
     | true=>rfl
     | false =>
      exfalso;have hmem:j∈Region.ready .any l.toArray listed:=by
       rw [mem_ready];refine⟨?_,l[j],by simp [hj],fun e he hb => ?_⟩
       . unfold LL at hq;rw [Array.getD_eq_getD_getElem?,Array.getElem?_eq_getElem (by omega)] at hq ⊢;exact hq
       . have h1:=Q8s hO (List.getElem?_eq_getElem hj) e he hb;exact ih e.on h1 (by omega)
      rw [hr] at hmem;cases hmem
   rcases H with ⟨val,lo,hi,M,hpost⟩|⟨_,n,hw⟩
   . have hnl:np=l.length:=by
      rcases Nat.lt_or_ge np l.length with h|h
      . have h1:=hall np h;rw [hpost np (Nat.le_refl _)] at h1;cases h1
      . omega
     have hact:=M.act (fun i hi=>hall i (by omega)) hd;obtain⟨n,h1⟩:=hK val lo hi w M.from0 (fun i hi=>M.rows i hi (hall i (by omega))) (fun i j hi hj hij=>M.apart i j hi hj (hall i (by omega)) (hall j (by omega)) hij) listed hsz fun j=>by
      rcases Nat.lt_or_ge j np with h|h
      . rw [hall j (by omega)]; simp [h]
      . rw [hpost j h]; simp [Nat.not_lt.2 h]
     rw [<- hact] at h1;exact h1.ended hr
   . exact hw.ended hr
 . rintro listed a w i o ⟨hsz,hcl,H⟩ hr hri ho'
   obtain⟨hun,o2,ho,haft⟩:=mem_ready.1 hr;have hoo:o2=o:=by
    have:l.toArray[i]? = some o:=by simpa using ho'
    rw [this] at ho;injection ho with ho;exact ho.symm
   subst hoo;obtain⟨hn,hlt⟩:=Q0z hun;have hL:=Q5q (listed:=listed) (i:=i) hlt;have hinp:=hrn i hri;rcases H with ⟨val,lo,hi,M,hpost⟩|⟨hLk,_⟩
   . obtain⟨v,hy,hv⟩:=hstepR i o2 hinp hri ho' (LL listed) a w val lo hi M (fun e he hb=>by have:=haft e he hb; unfold LL; exact this) hn (fun j oj hj hoj e he hb=>hcl j oj (by simpa using hoj) hj e he hb);refine⟨v,hy,by simp [hsz],hcl.set_ hr,.inl ⟨_,_,_,M.next hinp ho' hd hR (Below.refl _ _) hv hL hn,fun j hj => ?_⟩⟩;rw [hL,if_neg (by omega)];exact hpost j hj
   . rw [hLk i hinp] at hn;cases hn
 . rintro listed a w i ⟨hsz,hcl,H⟩ hr hnoreg
   obtain⟨hun,o,ho,haft⟩:=mem_ready.1 hr;obtain⟨hn,hlt⟩:=Q0z hun;have ho':l[i]? = some o:=by simpa using ho
   have hL:=Q5q (listed:=listed) (i:=i) hlt
   -- the first part is done ahead of a late operation
   have hdone:np<=i->∀ j,j<np->LL listed j=true:=by
    intro hinp j
    induction j using Nat.strongRecOn with
    | ind j ih =>
     intro hj;rcases Qxa hO ho' hinp j hj with hrj|hw
     . cases hq:LL listed j with
       | true=>rfl
       | false =>
        exfalso;have hjl:j<l.length:=by omega
        have hmem:j∈Region.ready .any l.toArray listed:=by
         rw [mem_ready];refine⟨?_,l[j],by simp [hjl],fun e he hb => ?_⟩
         . unfold LL at hq;rw [Array.getD_eq_getD_getElem?,Array.getElem?_eq_getElem (by omega)] at hq ⊢;exact hq
         . have h1:=Q8s hO (List.getElem?_eq_getElem hjl) e he hb;exact ih e.on h1 (by omega)
        rw [hnoreg j hmem] at hrj;cases hrj
     . exact J2 hcl _ i j o ho haft hw
   have post:(∀ j,j<np->LL listed j=true)->∀ n,wpAny P .any l.toArray Q n listed a w->wpOp P l.toArray Q i (fun a w=>(listed.setIfInBounds i true).size=l.length/\Vz .any l.toArray (listed.setIfInBounds i true)/\((∃ val lo hi,Q08 w0 a0 l np R (LL (listed.setIfInBounds i true)) a w val lo hi/\∀ j,np<=j->LL (listed.setIfInBounds i true) j=false)\/((∀ j,j<np->LL (listed.setIfInBounds i true) j=true)/\∃ n,wpAny P .any l.toArray Q n (listed.setIfInBounds i true) a w))) a w:=by
    intro hLk n hw;refine wpOp_mono (fun a' w' h'=>⟨by simp [hsz],hcl.set_ hr,.inr ⟨fun j hj => ?_,h'⟩⟩) (hw.step hr);rw [hL];split
    . rfl
    . exact hLk j hj
   rcases H with ⟨val,lo,hi,M,hpost⟩|⟨hLk,n,hw⟩
   . rcases Nat.lt_or_ge i np with hinp|hinp
     . refine wpOp_mono (fun a' w' h' => ?_) (hstep i o hinp ho' (LL listed) a w val lo hi M (fun e he hb=>by have:=haft e he hb; unfold LL; exact this) hn (fun j oj hj hoj e he hb=>hcl j oj (by simpa using hoj) hj e he hb));obtain⟨v,rfl,hf,hv⟩:=h';refine⟨by simp [hsz],hcl.set_ hr,.inl ⟨_,_,_,M.next hinp ho' hd hR hf hv hL hn,fun j hj => ?_⟩⟩;rw [hL,if_neg (by omega)];exact hpost j hj
     . have hi0:∀ j,j<np->LL listed j=true:=hdone hinp;have hact:=M.act (fun j hj=>hi0 j hj) hd;obtain⟨n,h1⟩:=hK val lo hi w M.from0 (fun j hj=>M.rows j hj (hi0 j hj)) (fun j k hj hk hjk=>M.apart j k hj hk (hi0 j hj) (hi0 k hk) hjk) listed hsz fun j=>by
        rcases Nat.lt_or_ge j np with h|h
        . rw [hi0 j h]; simp [h]
        . rw [hpost j h]; simp [Nat.not_lt.2 h]
       rw [<- hact] at h1;exact post hi0 n h1
   . exact post hLk n hw
 . simp
 . have h0:∀ j,LL (Array.replicate l.length false) j=false:=fun j=>by
    unfold LL;rw [Array.getD_eq_getD_getElem?,Array.getElem?_replicate];split<;>rfl
   refine⟨by simp,fun j oj _ hl=>(by simp [Array.getElem?_replicate] at hl; split at hl<;>simp at hl),.inl ⟨fun _=>undef,fun _=>0,fun _=>0,⟨rfl,rfl,(Below.refl _ _).drew,fun i _ h => ?_,fun i j _ _ h => ?_,fun i o d _ _ _ h => ?_,fun s _=>rfl⟩,fun j _ => ?_⟩⟩
   . rw [h0] at h; cases h
   . rw [h0] at h; cases h
   . rw [h0] at h; cases h
   . exact h0 j
def AV.scal:AV->Bool
 | .int _ _=>true
 | .lit _ _=>true
 | .bool _=>true
 | .blit _=>true
 | .str _=>true
 | _=>false
section
variable {P:Program} {r:Operand->Value} {d:Option Nat} {ty:TypeId} {pos:String} {aft:Array Edge} {gd:Option (Nat×Bool)} {u v:Value} {w w':World}
variable {ρ ρ':Nat->Option Rl} {base base':Nat} {ro ro':Nat->Prop} {ge:Nat->Option En}
theorem AVR.scal_ {x:AV} (h:AVR w ρ base ro x v) (hx:x.scal=true):AVR w' ρ' base' ro' x v:=by
 cases h<;>first|exact .int _ _|exact .lit _ _|exact .bool _|exact .blit _|exact .str _|cases hx
theorem AVR.scal_det {x:AV} (h:AVR w ρ base ro x v) (h':AVR w' ρ' base' ro' x u) (hx:x.scal=true):v=u:=by
 cases h<;>first|(cases h'; rfl)|cases hx
theorem Q6d {x:AV} {k:IntKind} {n:Unit->Int} (h:x.asInt=some (k,n)):x.scal=true:=by
 cases x<;>first|rfl|cases h
theorem Qg8 {x:AV} {n:Unit->Bool} (h:x.asBool=some n):x.scal=true:=by
 cases x<;>first|rfl|cases h
theorem Qkf {op:BinOp} {k:IntKind} {a b:Unit->Int} {av:AV} {vcs:List VC} (h:Qes op k a b=some (av,vcs)):av.scal=true:=by
 unfold Qes at h;split at h<;>first|(split at h<;>(cases h; rfl))|(cases h; rfl)|cases h
theorem Qg5 {ti:Option TI} {op:BinOp} {k:IntKind} {a b:Unit->Int} {av:AV} {vcs:List VC} (h:Qa1 ti op k a b=some (av,vcs)):av.scal=true:=by
 unfold Qa1 at h;split at h
 . unfold Qsk at h;split at h<;>first|(cases h; rfl)|exact Qkf h
 . exact Qkf h
theorem Qz5 {ti:Option TI} {op:BinOp} {a b av:AV} {vcs:List VC} (h:Qbr ti op a b=some (av,vcs)):a.scal=true/\b.scal=true/\av.scal=true:=by
 have hsh:∀ op,Q74 op a b=some (av,vcs)->a.scal=true/\b.scal=true/\av.scal=true:=by
  intro op h;unfold Q74 at h;split at h
  . rename_i k m k' n e1 e2;cases h;exact⟨Q6d e1,Q6d e2,rfl⟩
  . cases h
 unfold Qbr at h;split at h
 . exact hsh _ h
 . exact hsh _ h
 split at h
 . split at h
   . rename_i k m k' n _;split at h
     . rename_i q hf;cases h;refine⟨rfl,rfl,?_⟩;unfold Qx4 at hf;split at hf<;>first|(cases hf; rfl)|cases hf
     . exact⟨rfl,rfl,Qg5 h⟩
   . cases h
 . unfold Qq1 at h;split at h<;>first|(cases h; exact⟨rfl,rfl,rfl⟩)|cases h
 . split at h
   . rename_i k a' k' b' h1 h2;split at h
     . exact⟨Q6d h1,Q6d h2,Qg5 h⟩
     . cases h
   . split at h
     . rename_i a' b' h1 h2;split at h
       . unfold Qkc at h;split at h<;>first|(cases h; exact⟨Qg8 h1,Qg8 h2,rfl⟩)|cases h
       . cases h
     . cases h
theorem Qqa {tb:Tab} {cs:List Con} {g:Operand->AV} {op:Op} {av:AV} {vcs:List VC} (hreg:Q5i op=true) (hty:Zw P tb) (hge:∀ loc e,ge loc=some e->EnR w ρ base ro loc e) (hg:∀ x∈op.operands,AVR w ρ base ro (g x) (r x))
 (h:Gz tb cs ge g op=some (av,vcs)) (hv:∀ c∈vcs,c ()):∃ v,(∀ w',(execOp r ⟨d,op,ty,pos,aft,gd⟩).run P w' = .ok (.value v) w')/\AVR w ρ base ro av v:=by
 cases op<;>simp only [Q5i,Bool.false_eq_true] at hreg
 case move x =>
  simp only [Gz,Option.some.injEq,Prod.mk.injEq] at h;obtain⟨rfl,rfl⟩:=h;exact⟨r x,fun w'=>Q73 rfl,hg _ (by simp [Op.operands])⟩
 case assign x =>
  simp only [Gz,Option.some.injEq,Prod.mk.injEq] at h;obtain⟨rfl,rfl⟩:=h;exact⟨r x,fun w'=>Qn9 rfl,hg _ (by simp [Op.operands])⟩
 case binOp op T x y t' =>
  simp only [Gz] at h;have hx:=hg x (by simp [Op.operands]);have hy:=hg y (by simp [Op.operands]);by_cases hag:(∃ cs,g x = .agg cs)/\∃ ds,g y = .agg ds
  . obtain⟨⟨cs,h1⟩,ds,h2⟩:=hag;rw [h1,h2] at h;rw [h1] at hx;rw [h2] at hy;exact Qo2 (d:=d) (ty:=ty) (pos:=pos) (aft:=aft) (gd:=gd) hty h hx hy
  replace h:Qbr (Km tb T) op (g x) (g y)=some (av,vcs):=by
   unfold Qjc at h;split at h
   . rename_i cs ds h1 h2;exact (hag ⟨⟨cs,h1⟩,ds,h2⟩).elim
   . exact h
  obtain⟨h1,h2,h3⟩:=Qz5 h;obtain⟨v,k1,k2⟩:=Qhh (d:=d) (ty:=ty) (pos:=pos) (aft:=aft) (gd:=gd) (t':=t') hty h hv hx hy;refine⟨v,fun w' => ?_,k2⟩;obtain⟨v',k3,k4⟩:=Qhh (w:=w') (ρ := ρ) (base:=base) (ro:=ro) (d:=d) (ty:=ty) (pos:=pos) (aft:=aft) (gd:=gd) (t':=t') hty h hv (hx.scal_ h1) (hy.scal_ h2);rw [k2.scal_det k4 h3];exact k3
 case unOp op T x =>
  have hx:=hg x (by simp [Op.operands]);have hn:∀ k n w',r x = .int k n->(execOp r ⟨d,.unOp .neg T x,ty,pos,aft,gd⟩).run P w' = .ok (.value (.int k (k.wrap (-n)))) w':=by
   intro k n w' he;unfold execOp;simp only [he,Op.unary,Op.intArith,Sem.run_bind,Sem.run_pure,Result.andThen_ok,Int.zero_sub]
  cases op<;>simp only [Gz] at h
  all_goals first|cases h|skip
  all_goals (split at h<;>try cases h)
  . rename_i k n he;rw [he] at hx;exact⟨_,fun w'=>hn _ _ w' hx.lit_,.lit _ _⟩
  . rename_i n he;rw [he] at hx;refine⟨_,fun w'=>hn _ _ w' hx.int_,?_⟩;rw [Vk (hv _ (.head _))];exact .int _ fun _ => -n ()
  . rename_i b he;rw [he] at hx;exact⟨_,fun w'=>Qkx hx.blit_ rfl,.blit _⟩
  . rename_i b he;rw [he] at hx;exact⟨_,fun w'=>Qkx hx.bool_ rfl,.bool _⟩
 case convert s t x =>
  have hx:=hg x (by simp [Op.operands]);simp only [Gz] at h;split at h
  . rename_i k0 k kk n e1 e2 he;cases h;rw [he] at hx;obtain⟨i1,_,h1,h2⟩:=Y7 hty e1;obtain⟨i2,_,h3,h4⟩:=Y7 hty e2;obtain⟨ds1,hd1,_⟩:=Yu h2;exact⟨_,fun w'=>Q4b hx.lit_ hd1 (Q6x h4 h3) rfl rfl,.lit _ _⟩
  . rename_i k0 k kk n e1 e2 he;rw [he] at hx;obtain⟨i1,_,h1,h2⟩:=Y7 hty e1;obtain⟨i2,_,h3,h4⟩:=Y7 hty e2;obtain⟨ds1,hd1,_⟩:=Yu h2;split at h
    . rename_i hk;subst hk;cases h;exact⟨_,fun w'=>Q4b hx.int_ hd1 (Q6x h4 h3) (Vk (hv _ (.head _))) rfl,.int _ _⟩
    . cases h;exact⟨_,fun w'=>Q4b hx.int_ hd1 (Q6x h4 h3) rfl rfl,.int _ fun _=>k.wrap (n ())⟩
  . cases h
 case fieldAddr T x f =>
  have hx:=hg x (by simp [Op.operands]);simp only [Gz] at h
  cases hT:Q3 tb T with
  | none=>rw [hT] at h; cases h
  | some i =>
   rw [hT] at h;simp only [Option.bind_some] at h;split at h
   . rename_i off sz a hf;split at h
     . cases h
     . rename_i hsz
       cases ha:Q7v (g x) off with
       | none=>rw [ha] at h; cases h
       | some av' =>
        rw [ha] at h;cases h;obtain⟨b,o,h1,h2⟩:=Qcl ha hx;exact⟨_,fun w'=>Qsa h1 (Qfz (hty T i hT) hf (by simpa using hsz)) rfl,h2⟩
   . cases h
 case extract x i =>
  have hx:=hg x (by simp [Op.operands]);simp only [Gz] at h;split at h
  . rename_i l he
    cases hl:l[i]? with
    | none=>rw [hl] at h; cases h
    | some av' =>
     rw [hl] at h;cases h;rw [he] at hx;obtain⟨vs,h1,hE⟩:=hx.tup_;obtain⟨v,h2,h3⟩:=hE.get hl;exact⟨v,fun w'=>Qib h1 (by simpa using h2),h3⟩
  . cases h
 case indexAddr T x y =>
  have hx:=hg x (by simp [Op.operands]);have hy:=hg y (by simp [Op.operands]);simp only [Gz] at h;split at h
  . rename_i e sz b fr t l kk k e1 e2 e3;split at h
    . rename_i hs;cases h;rw [e2] at hx;obtain⟨i,_,h1,h2⟩:=Y7 hty e1;obtain⟨v,k1,k2⟩:=Qhm (d:=d) (ty:=ty) (pos:=pos) (aft:=aft) (gd:=gd) h2 h1 (eq_of_beq hs) hx (Yn e3 hy) (hv _ (.head _));exact⟨v,k1,k2⟩
    . cases h
  . rename_i e sz b fr t l n kk k e1 e2 e3;split at h
    . rename_i hs;cases h;rw [e2] at hx;obtain⟨i,_,h1,h2⟩:=Y7 hty e1;obtain⟨v,k1,k2⟩:=Qor (d:=d) (ty:=ty) (pos:=pos) (aft:=aft) (gd:=gd) h2 h1 (eq_of_beq hs) hx (Yn e3 hy) (hv _ (.head _));exact⟨v,k1,k2⟩
    . cases h
  . rename_i e sz b loc kk k e1 e2 e3;split at h
    . rename_i fr t T' l he;split at h
      . rename_i hs;cases h;rw [e2] at hx;obtain⟨i,_,h1,h2⟩:=Y7 hty e1;obtain⟨v,k1,k2⟩:=Qoo (d:=d) (ty:=ty) (pos:=pos) (aft:=aft) (gd:=gd) hge h2 h1 (eq_of_beq hs) he hx (Yn e3 hy) (hv _ (.head _));exact⟨v,k1,k2⟩
      . cases h
    . cases h
  . exact Qj2 (d:=d) (ty:=ty) (pos:=pos) (aft:=aft) (gd:=gd) hty h hx hy
end
section
variable {P:Program} {w w' w0:World} {S0:Pm} {N:Nat} {B:Bs} {S:Sx} {a a0:Act} {C:Cx} {Q:Exit->Act->World->Prop}
theorem Qob (hty:Zw P C.ty) (hcs:Q3h P C S0) {l:List Oper} {o:Oper} {i:Nat} (ho:l[i]? = some o) {k:Sx->Fm} {K:Act->World->Prop} (hk:∀ S' a' w',Sim w0 S0 N B S' a' w'->(k S').P->K a' w') (h:(Qq C N B l [o] S k).P) (H:Sim w0 S0 N B S a w):wpOp P l.toArray Q i K a w:=by
 obtain⟨r,S1,hdec,hway⟩:=Q89 h;obtain⟨hw,H1⟩:=hdec.seq H;unfold wpOp;simp only [List.getElem?_toArray,ho];rcases hway with ⟨rfl,⟨S2,vcs,hs,hv,h2⟩|⟨f,hs,h2⟩⟩|⟨rfl,S2,hs,h2⟩
 . rw [if_pos hw];exact .inl ((Qoe hty hcs H1 hs hv).wp fun a' w' H2=>hk _ _ _ H2 h2)
 . rw [if_pos hw];exact .inl ((Qk3 hty H1 hs h2).wp fun a' w' ⟨S',H2,h3⟩=>hk _ _ _ H2 h3)
 . rw [if_neg (by rw [hw]; simp)];exact hk _ _ _ (Qda H1 hs) h2
theorem Qy4 {ef:List Nat} {op:Op} (h:Q5i op=true):Gv ef op=true:=by cases op<;>first|rfl|cases h
theorem Qo1 (hty:Zw P C.ty) {l:List Oper} {o:Oper} {d:Nat} (hreg:Q5i o.op=true) (hd:o.dst=some d) {k:Sx->Fm} (h:(Qq C N B l [o] S k).P) (H:Sim w0 S0 N B S a w):∃ v S',Yields P l.toArray o v a/\Sim w0 S0 N B S' (a.put o.dst v) w/\(k S').P:=by
 obtain⟨r,S1,hdec,hway⟩:=Q89 h;obtain⟨hw,H1⟩:=hdec.seq H;have hp:Gv (efs C.fs) o.op=true:=Qy4 hreg;rcases hway with ⟨rfl,⟨S2,vcs,hs,hv,h2⟩|⟨f,hs,h2⟩⟩|⟨rfl,S2,hs,h2⟩
 . unfold Gd at hs;split at hs
   . rename_i av vcs' hpu;rw [hd] at hs;dsimp only at hs
     cases hput:Qy B S1 N d av with
     | none=>rw [hput] at hs; cases hs
     | some S3 =>
      rw [hput] at hs;cases hs;obtain⟨ρ,ro,H1⟩:=H1;obtain⟨dst,op,ty,pos,aft,gd⟩:=o;obtain⟨v,h8,h9⟩:=Qqa (P:=P) (d:=dst) (ty:=ty) (pos:=pos) (aft:=aft) (gd:=gd) (r:=a.eval) hreg hty (fun q e he=>H1.en q e he) (fun x _=>H1.get x) hpu hv;refine⟨v,S2,.inl ⟨hw,h8⟩,⟨ρ,ro,?_⟩,h2⟩;have hd':dst=some d:=hd;subst hd';exact H1.put hput h9
   . rw [Qjq hp] at hs;dsimp only at hs;rw [Qg1 hp] at hs;dsimp only at hs;rw [Qfy hp] at hs;cases hs
 . rw [Qdb hp] at hs;cases hs
 . exact⟨undef,S2,.inr ⟨hw,rfl⟩,Qda H1 hs,h2⟩
theorem Q2w {d k:Nat} {l:List Nat}:Qw d (k::l)=(k==d||Qw d l):=rfl
theorem Q1t {l:List Oper} {done:List Nat} {listed:Array Bool} (hsz:listed.size=l.length) (hL:∀ j,LL listed j=Qw j done) (i:Nat):i∈Vq l done↔i∈Region.ready .any l.toArray listed:=by
 unfold Vq;rw [List.mem_filter,List.mem_range,mem_ready];have hg:∀ j,listed.getD j false=Qw j done:=fun j=>hL j;constructor
 . rintro⟨hi,h⟩
   rw [List.getElem?_eq_getElem hi] at h;simp only [Bool.and_eq_true,Bool.not_eq_true',Array.all_eq_true_iff_forall_mem,Bool.or_eq_true] at h;refine⟨?_,l[i],by simp [hi],fun e he hb => ?_⟩
   . have h1:=hg i;rw [h.1,Array.getD_eq_getD_getElem?,Array.getElem?_eq_getElem (by omega)] at h1;rw [Array.getD_eq_getD_getElem?,Array.getElem?_eq_getElem (by omega)];exact h1
   . rw [hg];rcases h.2 e he with h2|h2
     . rw [hb] at h2; cases h2
     . exact h2
 . rintro⟨h1,o,ho,h2⟩
   have ho':l[i]? = some o:=by simpa using ho
   have hi:=(List.getElem?_eq_some_iff.1 ho').1;refine⟨hi,?_⟩;rw [ho'];simp only [Bool.and_eq_true,Bool.not_eq_true',Array.all_eq_true_iff_forall_mem,Bool.or_eq_true];refine⟨?_,fun e he => ?_⟩
   . rw [<- hg,Array.getD_eq_getD_getElem?,Array.getElem?_eq_getElem (by omega)];rw [Array.getD_eq_getD_getElem?,Array.getElem?_eq_getElem (by omega)] at h1;exact h1
   . cases hb:Region.binds .any e with
     | false=>exact .inl rfl
     | true=>exact .inr (by rw [<- hg]; exact h2 e he hb)
theorem Qj6 {f:Nat->Fm}:∀ {is:List Nat},(Qid is f).P->∀ i∈is,(f i).P
 | [],h,_,_=>h.elim
 | [i],h,j,hj=>by rw [List.mem_singleton] at hj; subst hj; exact h
 | i::k::is,h,j,hj=>by
  rcases List.mem_cons.1 hj with rfl|hj
  . exact h.1
  . exact Qj6 h.2 j hj
theorem Q2c {l:List Oper}:∀ {is:List Nat} {i:Nat},Q10 l is=some i->i∈is/\∃ o d,l[i]? = some o/\Q5i o.op=true/\o.dst=some d/\Q3d l i=true
 | [],i,h=>by cases h
 | j::is,i,h=>by
  unfold Q10 at h
  cases ho:l[j]? with
  | none =>
   rw [ho] at h;dsimp only at h;rw [if_neg (by simp)] at h;obtain⟨h1,h2⟩:=Q2c h;exact⟨.tail _ h1,h2⟩
  | some o =>
   rw [ho] at h;dsimp only at h;split at h
   . rename_i hc;injection h with h;subst h;simp only [Bool.and_eq_true,Option.isSome_iff_exists] at hc;obtain⟨⟨h1,d,h2⟩,h3⟩:=hc;exact⟨.head _,o,d,ho,h1,h2,h3⟩
   . obtain⟨h1,h2⟩:=Q2c h;exact⟨.tail _ h1,h2⟩
theorem Qe4 (hty:Zw P C.ty) (hcs:Q3h P C S0) {l:List Oper} {k:Sx->Fm} (hsel:∀ (j:Nat) (o:Oper) cs b,l.toArray[j]? = some o->o.op ≠ .select cs b) (hQ:∀ c a w,¬ Q (.panic c) a w) (hk:∀ S' a' w',Sim w0 S0 N B S' a' w'->(k S').P->Q .normal a' w') :
 ∀ (fuel:Nat) (done:List Nat) (S:Sx) (a:Act) (w:World) (listed:Array Bool),(Q13 C N B l fuel done S k).P->Sim w0 S0 N B S a w->listed.size=l.length->(∀ j,LL listed j=Qw j done)->wpAny P .any l.toArray Q fuel listed a w
 | 0,done,S,a,w,listed,h,H,hsz,hL=>by
  have hr:=Q1t (l:=l) hsz hL;unfold Q13 at h;split at h
  . rename_i he;rw [he] at hr;exact⟨List.eq_nil_iff_forall_not_mem.2 fun i hi=>(by have:=(hr i).2 hi; cases this),hk _ _ _ H h⟩
  . exact h.elim
 | fuel+1,done,S,a,w,listed,h,H,hsz,hL=>by
  have hr:=Q1t (l:=l) hsz hL;have hone:∀ i,i∈Vq l done->(match l[i]? with
   | some o=>Qq C N B l [o] S fun S'=>Q13 C N B l fuel (i::done) S' k
   | none => .ff 19:Fm).P->wpOp P l.toArray Q i (wpAny P .any l.toArray Q fuel (listed.setIfInBounds i true)) a w:=by
   intro i hi h;obtain⟨hun,o,ho,_⟩:=mem_ready.1 ((hr i).1 hi);have ho':l[i]? = some o:=by simpa using ho
   rw [ho'] at h;have hlt:=(List.getElem?_eq_some_iff.1 ho').1;exact Qob hty hcs ho' (fun S' a' w' H' h'=>Qe4 hty hcs hsel hQ hk fuel _ _ _ _ _ h' H' (by simp [hsz]) fun j=>by
    rw [Q5q (by omega),hL,Q2w];by_cases e:j=i
    . subst e; simp
    . rw [if_neg e];have:(i==j)=false:=by simpa using fun h=>e h.symm
      rw [this,Bool.false_or]) h H
  unfold Q13 at h;dsimp only at h;split at h
  . rename_i he;rw [he] at hr;have hnil:Region.ready .any l.toArray listed = []:=List.eq_nil_iff_forall_not_mem.2 fun i hi=>by have:=(hr i).2 hi; cases this
    exact⟨fun _=>hk _ _ _ H h,fun i hi=>by rw [hnil] at hi; cases hi⟩
  . rename_i i he;have hmem:i∈Vq l done:=by rw [he]; exact .head _
    refine⟨fun hn => ?_,fun j hj => ?_⟩
    . have:=(hr i).1 hmem;rw [hn] at this;cases this
    . have:=(hr j).2 hj;rw [he,List.mem_singleton] at this;subst this;exact hone _ hmem h
  . have hne:∀ (P:Prop),Region.ready .any l.toArray listed = []->(∃ i,i∈Vq l done)->P:=fun P hn ⟨i,hi⟩=>by
     have:=(hr i).1 hi;rw [hn] at this;cases this
    split at h
    . rename_i i hf;obtain⟨hmem,o,d,ho,hreg,hd,hap⟩:=Q2c hf;rw [ho] at h;obtain⟨v,S',hy,H',h'⟩:=Qo1 hty hreg hd h H;have hi:=(hr i).1 hmem;obtain⟨_,o2,ho2,haft⟩:=mem_ready.1 hi;have hlt:=(List.getElem?_eq_some_iff.1 ho).1;have heq:o2=o:=by
       have h1:l[i]? = some o2:=by simpa using ho2
       rw [ho] at h1;injection h1 with h1;exact h1.symm
      subst heq;refine wpAny_first ho2 hsel (fun c a w hq=>(hQ c _ w hq).elim) fuel listed a w (fun j oj hoj hne hjl hno => ?_) hi hy ?_
      . rcases Q8w hap ho (by simpa using hoj) hne with ⟨e,he,hb,hon⟩|⟨e,he,hb,hon⟩|h3
        . have h4:=haft e he hb;rw [hon] at h4;rw [Array.getD_eq_getD_getElem?] at h4 hjl
          cases hq:listed[j]? with
          | none=>rw [hq] at h4; cases h4
          | some q=>rw [hq] at h4 hjl; simp only [Option.getD_some] at h4 hjl; rw [h4] at hjl; cases hjl
        . exact absurd hon (hno e he hb)
        . exact h3
      . exact Qe4 hty hcs hsel hQ hk fuel _ _ _ _ _ h' H' (by simp [hsz]) fun j=>by
         rw [Q5q (by omega),hL,Q2w];by_cases e:j=i
         . subst e; simp
         . rw [if_neg e];have:(i==j)=false:=by simpa using fun h=>e h.symm
           rw [this,Bool.false_or]
    . refine⟨fun hn=>hne _ hn ?_,fun j hj=>hone j ((hr j).2 hj) (Qj6 h j ((hr j).2 hj))⟩;rename_i hx _ _ _
      cases he:Vq l done with
      | nil=>exact (hx he).elim
      | cons i is=>exact⟨i,.head _⟩
theorem Qow {l:List Oper} {np:Nat} (hch:Q9u l np=true) (hback:∀ (j:Nat) (o:Oper),l[j]? = some o->∀ e∈o.after,Region.binds .any e=true->e.on<j) :
 ∀ (m k:Nat) (a:Act) (w:World) (listed:Array Bool),k+m=l.length->np<=k->listed.size=l.length->(∀ j,LL listed j=decide (j<k))->wpList P l.toArray Q (l.drop k) a w->wpAny P .any l.toArray Q m listed a w
 | m,k,a,w,listed,hm,hn,hsz,hL,hw=>by
  have hg:∀ j,listed.getD j false=decide (j<k):=fun j=>hL j;have hready:∀ i∈Region.ready .any l.toArray listed,i=k:=by
   intro i hi;obtain⟨hun,o,ho,haft⟩:=mem_ready.1 hi;have ho':l[i]? = some o:=by simpa using ho
   have hlt:=(List.getElem?_eq_some_iff.1 ho').1;have h1:¬ i<k:=fun h=>by
    have h2:=hg i;rw [Array.getD_eq_getD_getElem?,Array.getElem?_eq_getElem (by omega)] at h2 hun;simp only [Option.getD_some] at h2 hun;rw [hun] at h2;simp [h] at h2
   have hc:=List.all_eq_true.1 hch i (List.mem_range.2 hlt);rw [ho'] at hc;simp only [Bool.or_eq_true,decide_eq_true_eq,Array.any_eq_true',Bool.and_eq_true,beq_iff_eq] at hc;rcases Nat.lt_or_ge k i with h|h
   . rcases hc with hc|⟨e,he,hb,hon⟩
     . omega
     . have h3:=haft e he hb;rw [hg,decide_eq_true_eq] at h3;omega
   . omega
  match m with
  | 0 =>
   rw [List.drop_eq_nil_of_le (by omega)] at hw;refine⟨List.eq_nil_iff_forall_not_mem.2 fun i hi => ?_,hw⟩;have h1:=hready i hi;obtain⟨_,o,ho,_⟩:=mem_ready.1 hi;have ho':l[i]? = some o:=by simpa using ho
   have hlt:=(List.getElem?_eq_some_iff.1 ho').1;omega
  | m+1 =>
   have hlt:k<l.length:=by omega
   have hk:k∈Region.ready .any l.toArray listed:=by
    rw [mem_ready];refine⟨?_,l[k],by simp [hlt],fun e he hb => ?_⟩
    . have h2:=hg k;rw [Array.getD_eq_getD_getElem?,Array.getElem?_eq_getElem (by omega)] at h2 ⊢;simpa using h2
    . rw [hg,decide_eq_true_eq];exact hback k _ (List.getElem?_eq_getElem hlt) e he hb
   refine⟨fun h=>(by rw [h] at hk; cases hk),fun i hi => ?_⟩;obtain rfl:=hready i hi;rw [List.drop_eq_getElem_cons hlt] at hw;have hst:wpOp P l.toArray Q i (wpList P l.toArray Q (l.drop (i+1))) a w:=by
    unfold wpOp;simp only [List.getElem?_toArray,List.getElem?_eq_getElem hlt];exact hw
   refine wpOp_mono (fun a' w' h' => ?_) hst;refine Qow hch hback m (i+1) a' w' _ (by omega) (by omega) (by simp [hsz]) (fun j => ?_) h';rw [Q5q (by omega),hL];by_cases e:j=i
   . simp [e]
   . rw [if_neg e];by_cases h:j<i
     . simp [h,show j<i+1 by omega]
     . simp [h,show ¬ j<i+1 by omega]
theorem Qix {j n:Nat}:Qw j (List.range n)=decide (j<n):=by
 have h:∀ (l:List Nat),Qw j l=decide (j∈l):=by
  intro l
  induction l with
  | nil=>rfl
  | cons k l ih =>
   rw [Q2w,ih];by_cases e:j=k
   . subst e; simp
   . have:(k==j)=false:=by simpa using fun h=>e h.symm
     rw [this,Bool.false_or];simp [e]
 rw [h];simp
end
section
variable {P:Program} {w w' w0:World} {SS:Pm} {N:Nat} {B:Bs} {S:Sx} {a a0:Act} {C:Cx} {Q:Exit->Act->World->Prop}
theorem Q8y {l:List Oper} {s:Nat}:∀ {i:Nat},Vp l s i=none->∀ k,k<i->∀ o,l[k]? = some o->o.dst≠some s
 | 0,_,k,hk,_,_=>by omega
 | i+1,h,k,hk,o,ho=>by
  rw [Qge] at h;split at h
  . cases h
  . rename_i hb;rcases Nat.lt_or_ge k i with h1|h1
    . exact Q8y h k h1 o ho
    . obtain rfl:k=i:=by omega
      rw [ho] at hb;simpa using hb
theorem Qzy {l:List Oper} {s i j:Nat} {oj:Oper} (hj:j<i) (hoj:l[j]? = some oj) (hd:oj.dst=some s):∃ k,Vp l s i=some k:=by
 cases h:Vp l s i with
 | some k=>exact⟨k,rfl⟩
 | none=>exact absurd hd (Q8y h j hj oj hoj)
theorem Qe7 {me:Bool}:∀ {l:List Oper} {i:Nat} {o:Oper},i<Q4z (efs C.fs) me l->l[i]? = some o->Gv (efs C.fs) o.op=true
 | [],i,o,h,_=>by simp [Q4z] at h
 | o'::l,i,o,h,ho=>by
  unfold Q4z at h;split at h
  . rename_i hp
    cases i with
    | zero =>
     simp only [List.getElem?_cons_zero,Option.some.injEq] at ho;subst ho;exact (Bool.and_eq_true _ _▸hp:_/\_).1
    | succ i=>exact Qe7 (me:=me) (l:=l) (i:=i) (by omega) (by simpa using ho)
  . omega
theorem Qu2 {l:List Oper} {i:Nat} {o:Oper} (h:i<Q0e (efs C.fs) l) (ho:l[i]? = some o):Gv (efs C.fs) o.op=true:=Qe7 h ho
theorem Qie (me:Bool):∀ (l:List Oper),Q4z (efs C.fs) me l<=l.length
 | []=>Nat.le_refl _
 | o::l=>by
  unfold Q4z;split
  . have:=Qie me l; simp; omega
  . simp
theorem Qnh (l:List Oper):Q0e (efs C.fs) l<=l.length:=Qie _ l
def Rav (ρ:Nat->Option Rl) (base:Nat) (ro:Nat->Prop) (avs:List (Option AV)) (i:Nat) (v:Value) (w:World):Prop :=
 (∀ av,avs[i]? = some (some av)->AVR w ρ base ro av v)/\(avs[i]? = some none->v=undef)
theorem Qqc (hty:Zw P C.ty) (hcs:Q3h P C SS) (hmix:P.follows .mixedOrders=true) {id:Nat} {ops:List Oper} {σ:List Nat} {np:Nat} {late:Sx->Fm} (hQ:∀ c a w,¬ Q (.panic c) a w) (hok:Q71 (efs C.fs) σ np ops N=true)
 (hlate:∀ S' a' w' listed,(late S').P->Sim w0 SS N B S' a' w'->listed.size=(Qr σ ops).length->(∀ j,LL listed j=decide (j<np))->(∀ (j:Nat) (o:Oper),(Qr σ ops)[j]? = some o->∀ e∈o.after,Region.binds .any e=true->e.on<j)->(∀ (j:Nat) (o:Oper) cs b,(Qr σ ops).toArray[j]? = some o->o.op ≠ .select cs b)->wpAny P .any (Qr σ ops).toArray Q ((Qr σ ops).length - np) listed a' w')
 (h:(Qq C N B (Qr σ ops) ((Qr σ ops).take np) S late).P) (H:Sim w0 SS N B S a0 w):(Code.region id ops.toArray true).wp P Q a0 w:=by
 unfold Q71 at hok;simp only [Bool.and_eq_true,decide_eq_true_eq] at hok;obtain⟨hnpl,hpureA,hperm,hO,hd,hread,hapB,hnsel⟩:=hok;have hlen:(Qr σ ops).length=ops.length:=by unfold Qr; simp [Q2j hperm]
 refine Qmu hperm hmix ?_;rw [<- hlen];clear hlen hperm;generalize Qr σ ops=l at *
 show wpAny P .any l.toArray Q l.length (Array.replicate l.length false) a0 w.drew
 obtain⟨ρ,ro,H⟩:=H;rw [<- H.size] at hd;have hpre:∀ o∈l.take np,Gv (efs C.fs) o.op=true/\∃ d,o.dst=some d:=by
  intro o ho;obtain⟨i,hi⟩:=List.mem_iff_getElem?.1 ho;have hlt:=(List.getElem?_eq_some_iff.1 hi).1;rw [List.getElem?_take] at hi;split at hi
  . rename_i hinp;obtain⟨d,hd1,_,_⟩:=Q1s hd hinp hi;exact⟨List.all_eq_true.1 hpureA o ho,d,hd1⟩
  . cases hi
 rw [<- List.append_nil (l.take np)] at h;obtain⟨avs,S',hpath,htail⟩:=Qbb hpre h
 replace htail:(late S').P:=htail
 have hbase:w0.heap.size<=w.heap.size:=H.from_.size;obtain⟨rr,hrr⟩:∃ rr:Nat->Prop,rr=fun b=>ro b\/w.heap.size<=b:=⟨_,rfl⟩
 have hsame:∀ {w1:World},Qe w w1->∀ b,rr b->b<w1.heap.size->∀ {w2:World},Qe w1 w2->w2.heap[b]? = w1.heap[b]? := fun _ b _ hlt _ h2=>h2.block b hlt;have hstart:∀ (L:Nat->Bool) (val:Nat->Value) (w1:World),Qe w w1->Q1u B l a0 w1 ρ w0.heap.size rr L val 0 S:=by
  intro L val w1 hb s x hx;obtain⟨u,h1,h2⟩:=H.tm s x hx;exact⟨u,h1,h2.mono (fun b _ hlt=>hb.block b hlt) (Ext.refl _) (Nat.le_refl _) fun b hb=>by rw [hrr]; exact .inl hb⟩
 have hlget:∀ j o,(l.take np)[j]? = some o->l[0+j]? = some o:=fun j o hj=>by
  rw [Nat.zero_add];rw [List.getElem?_take] at hj;split at hj
  . exact hj
  . cases hj
 have hrn:∀ i,Q6r l np i=true->i<np:=fun i hi=>by
  unfold Q6r at hi;simp only [Bool.and_eq_true,decide_eq_true_eq] at hi;exact hi.1
 have hsel:∀ (j:Nat) (o:Oper) cs b,l.toArray[j]? = some o->o.op ≠ .select cs b:=fun j o cs b ho e=>by
  have:=List.all_eq_true.1 hnsel o (List.mem_of_getElem? (i:=j) (by simpa using ho));rw [e] at this;cases this
 have hap:∀ i,Q6r l np i=true->Q3d l i=true:=fun i hi=>by
  have:=List.all_eq_true.1 hapB i (List.mem_range.2 (hrn i hi));rw [hi] at this;simpa using this
 have core:∀ i o,i<np->l[i]? = some o->∀ (L:Nat->Bool) (a1:Act) (w1:World) (val:Nat->Value) (lo hi':Nat->Nat),Q08 w a0 l np (fun i v _ _ w=>Rav ρ w0.heap.size rr avs i v w) L a1 w1 val lo hi'->(∀ e∈o.after,Region.binds .any e=true->L e.on=true)->L i=false->(∀ j oj,L j=true->l[j]? = some oj->∀ e∈oj.after,Region.binds .any e=true->L e.on=true) ->
  Qe w w1/\((Region.wanted o (yielded l.toArray a1.tmps)=true/\∃ S1 av vcs,avs[i]? = some (some av)/\Gz C.ty C.cs (Qh B S) (Z0 B S1) o.op=some (av,vcs)/\(∀ c∈vcs,c ())/\∀ x∈o.op.operands,AVR w1 ρ w0.heap.size (fun b=>(ro b\/w.heap.size<=b)/\b<w1.heap.size) (Z0 B S1 x) (a1.eval x))\/(Region.wanted o (yielded l.toArray a1.tmps)=false/\avs[i]? = some none)):=by
  intro i o hi ho L a1 w1 val lo hi' M haft hLi hLc;have hb:=M.from0;have hC0:=hstart L val w1 hb;have hrows:∀ j av,avs[j]? = some (some av)->L (0+j)=true->AVR w1 ρ w0.heap.size rr av (val (0+j)):=by
   intro j av hj hL;rw [Nat.zero_add] at hL ⊢;obtain⟨q1,_,_,_,q5⟩:=Q0m.stage (L:=fun _=>false) (val:=val) (a0:=a0) (w:=w1) (ρ := ρ) (base:=w0.heap.size) (ro:=rr) (i:=0) hpath hlget (hstart _ val w1 hb) (fun j av _ h=>by cases h) (fun j _ h=>by cases h);have hjn:j<np:=by
    have:=(List.getElem?_eq_some_iff.1 hj).1;rw [q5,List.length_take] at this;omega
   exact (M.rows j hjn hL).2.2.2.1 av hj
  have hnone:∀ j,avs[j]? = some none->L (0+j)=true->val (0+j)=undef:=by
   intro j hj hL;rw [Nat.zero_add] at hL ⊢;obtain⟨q1,_,_,_,q5⟩:=Q0m.stage (L:=fun _=>false) (val:=val) (a0:=a0) (w:=w1) (ρ := ρ) (base:=w0.heap.size) (ro:=rr) (i:=0) hpath hlget (hstart _ val w1 hb) (fun j av _ h=>by cases h) (fun j _ h=>by cases h);have hjn:j<np:=by
    have:=(List.getElem?_eq_some_iff.1 hj).1;rw [q5,List.length_take] at this;omega
   exact (M.rows j hjn hL).2.2.2.2 hj
  obtain⟨hst,_,_,_,_⟩:=Q0m.stage (L:=L) (val:=val) (i:=0) hpath hlget hC0 hrows hnone;have hot:(l.take np)[i]? = some o:=by rw [List.getElem?_take_of_lt hi]; exact ho
  obtain⟨S0,S1,r,hc0,hc1,he1,hdec,hres⟩:=hst i o hot;rw [Nat.zero_add] at hc0 hc1;have hrd:=List.all_eq_true.1 hread i (List.mem_range.2 hi);simp only [ho,Bool.and_eq_true] at hrd;obtain⟨⟨hgd,hsel⟩,hrd⟩:=hrd;have ho':l.toArray[i]? = some o:=by simpa using ho
  have hedge:∀ j,(o.after.any fun e=>Region.binds .any e&&e.on==j)=true->L j=true:=by
   intro j he;rw [Array.any_eq_true'] at he;obtain⟨e,he1,he2⟩:=he;simp only [Bool.and_eq_true,beq_iff_eq] at he2;have:=haft e he1 he2.1;rwa [he2.2] at this
  -- the guard
  have hslot:∀ d j,j<i->(o.after.any fun e=>Region.binds .any e&&e.on==j)=true->∀ oj,l[j]? = some oj->oj.dst=some d->∀ x,Zh B S0 d=some x->∃ u,a1.tmps[d]? = some u/\AVR w1 ρ w0.heap.size rr x u:=by
   intro d j hji he oj hoj hdj x hx;obtain⟨k',hk'⟩:=Qzy hji hoj hdj;obtain⟨h1,ok,h2,h3⟩:=Q2a hk';obtain⟨d',hd1,_,hu⟩:=Q1s hd (show j<np by omega) hoj;rw [hdj] at hd1;injection hd1 with hd1;subst hd1;have hkj:k'=j:=hu k' ok (by omega) h2 h3;subst hkj;have h4:=hc0 d x hx;rw [hk'] at h4;have hLj:=hedge k' he;exact⟨val k',M.slots k' oj d (by omega) hoj hdj hLj,h4 hLj⟩
  have hwant:Region.wanted o (yielded l.toArray a1.tmps)=r:=by
   cases hdec with
   | free hg=>exact Q97 hg _
   | lit j d b c oj hg hj hdj hc =>
    rw [hg] at hgd;simp only [Bool.and_eq_true,decide_eq_true_eq] at hgd;obtain⟨u,h1,h2⟩:=hslot d j hgd.1 hgd.2 oj hj hdj _ (Q0u hc (by simp));rw [h2.blit_] at h1;exact Q25 hg (by simpa using hj) hdj h1 rfl
   | gone j d b oj hg hj hdj hc =>
    rw [hg] at hgd;simp only [Bool.and_eq_true,decide_eq_true_eq] at hgd;obtain⟨u,h1,h2⟩:=hslot d j hgd.1 hgd.2 oj hj hdj _ (Q0u hc (by simp));rw [Qsb h2] at h1;exact Qcx hg hj hdj h1
   | ask j d b c oj S2 hg hj hdj hc hp =>
    rw [hg] at hgd;simp only [Bool.and_eq_true,decide_eq_true_eq] at hgd;obtain⟨u,h1,h2⟩:=hslot d j hgd.1 hgd.2 oj hj hdj _ (Q0u hc (by simp));rw [h2.bool_] at h1;exact Q25 hg (by simpa using hj) hdj h1 rfl
  refine⟨hb,?_⟩;rcases hres with ⟨rfl,av,vcs,hav,hpu,hv⟩|⟨rfl,hav⟩
  . have hope:∀ x∈o.op.operands,AVR w1 ρ w0.heap.size (fun b=>(ro b\/w.heap.size<=b)/\b<w1.heap.size) (Z0 B S1 x) (a1.eval x):=by
     intro x hx;have h1:=List.all_eq_true.1 hrd x (by simpa using hx)
     cases x with
     | const v=>exact Z1g v
     | func f=>exact .fn f [] [] rfl fun j x v h=>by simp at h
     | global g=>exact .un _
     | tmp s =>
      show AVR _ _ _ _ (Q24 B S1 s) _
      cases hl:Zh B S1 s with
      | none=>unfold Q24; rw [hl]; exact .un _
      | some y =>
       have hy:Q24 B S1 s=y:=by unfold Q24; rw [hl]
       rw [hy];have h2:=hc1 s y hl;have h1':Qit l np i o s=true:=h1;unfold Qit at h1';have hfin:∀ u,a1.tmps[s]? = some u->AVR w1 ρ w0.heap.size rr y u->AVR w1 ρ w0.heap.size (fun b=>(ro b\/w.heap.size<=b)/\b<w1.heap.size) y (a1.eval (.tmp s)):=by
        intro u hu hr;rw [V6 hu];have:=hr.bound;rw [hrr] at this;exact this
       cases hp:Vp l s i with
       | none =>
        rw [hp] at h2 h1';obtain⟨u,h3,h4⟩:=h2;refine hfin u ?_ h4;rw [<- h3];refine M.old s fun k' ok hk' hok' hdk => ?_;have h5:=List.all_eq_true.1 h1' k' (List.mem_range.2 hk');simp only [hok',hdk,bne_self_eq_false,Bool.false_or] at h5
        cases hLk:L k' with
        | false=>rfl
        | true =>
         rw [Array.any_eq_true'] at h5;obtain⟨e,he,hbd⟩:=h5;simp only [Bool.and_eq_true,beq_iff_eq] at hbd;have h6:=hLc k' ok hLk hok' e he hbd.1;rw [hbd.2,hLi] at h6;cases h6
       | some j =>
        rw [hp] at h2 h1';obtain⟨h3,oj,h4,h5⟩:=Q2a hp;have hLj:=hedge j h1';exact hfin (val j) (M.slots j oj s (by omega) h4 h5 hLj) (h2 hLj)
    have hlook:Qh B S1=Qh B S:=by funext q; unfold Qh; rw [he1]
    rw [hlook] at hpu;exact .inl ⟨hwant,S1,av,vcs,hav,hpu,hv,hope⟩
  . exact .inr ⟨hwant,hav⟩
 refine Qs5 np (Q6r l np) (fun i v _ _ w=>Rav ρ w0.heap.size rr avs i v w) hO hnpl hd hrn hsel hQ hap ?_ ?_ ?_ ?_
 . intro i v lo hi w1 w2 hR hhi hb;refine⟨fun av hav => ?_,hR.2⟩;exact (hR.1 av hav).mono (fun b _ hlt=>hb.block b hlt) (Ext.refl _) (Nat.le_refl _) fun _ h=>h
 . intro i o hi hri ho L a1 w1 val lo hi' M haft hLi hLc;obtain⟨hb,hc⟩:=core i o hi ho L a1 w1 val lo hi' M haft hLi hLc;have Hw:=H.calm hb;rcases hc with ⟨hwant,S1,av,vcs,hav,hpu,hv,hope⟩|⟨hwant,hav⟩
   . have hreg:Q5i o.op=true:=by
      unfold Q6r at hri;rw [ho] at hri;simpa using (Bool.and_eq_true _ _▸hri:_/\_).2
     obtain⟨dst,op,ty,pos,aft,gd⟩:=o;obtain⟨v,h8,h9⟩:=Qqa (P:=P) (d:=dst) (ty:=ty) (pos:=pos) (aft:=aft) (gd:=gd) (r:=a1.eval) hreg hty (fun q e he=>Hw.en q e he) hope hpu hv;refine⟨v,.inl ⟨hwant,h8⟩,fun av' hav' => ?_,fun hn=>by rw [hav] at hn; cases hn⟩;rw [hav] at hav';injection hav' with hav';injection hav' with hav';subst hav';exact h9.mono (fun _ _ _=>rfl) (Ext.refl _) (Nat.le_refl _) fun b hb'=>by rw [hrr]; exact hb'.1
   . refine⟨undef,.inr ⟨hwant,rfl⟩,fun av' hav' => ?_,fun _=>rfl⟩;rw [hav] at hav';cases hav'
 . intro i o hi ho L a1 w1 val lo hi' M haft hLi hLc;obtain⟨hb,hc⟩:=core i o hi ho L a1 w1 val lo hi' M haft hLi hLc;have Hw:=H.calm hb;have ho':l.toArray[i]? = some o:=by simpa using ho
   rcases hc with ⟨hwant,S1,av,vcs,hav,hpu,hv,hope⟩|⟨hwant,hav⟩
   . obtain⟨dst,op,ty,pos,aft,gd⟩:=o;have h7:=Qnb (d:=dst) (ty:=ty) (pos:=pos) (aft:=aft) (gd:=gd) (r:=a1.eval) hty hcs.cs (fun q e he=>Hw.en q e he) hope Hw.roB Hw.from_.size hpu hv;have hR:∀ v w2,Qe w1 w2->AVR w2 ρ w0.heap.size (fun b=>((ro b\/w.heap.size<=b)/\b<w1.heap.size)\/w1.heap.size<=b) av v->Rav ρ w0.heap.size rr avs i v w2:=by
      intro v w2 _ hr;refine⟨fun av' hav' => ?_,fun hn=>by rw [hav] at hn; cases hn⟩;rw [hav] at hav';injection hav' with hav';injection hav' with hav';subst hav';refine hr.mono (fun _ _ _=>rfl) (Ext.refl _) (Nat.le_refl _) fun b hb' => ?_;rw [hrr];rcases hb' with ⟨h8,_⟩|h8
      . exact h8
      . exact .inr (Nat.le_trans hb.size h8)
     rcases h7 with ⟨v,w2,h8,h9,h10⟩|⟨f,args,h8,h9⟩
     . exact Qg7 ho' hwant h8 ⟨v,rfl,h9,hR v w2 h9 h10⟩
     . exact Qga ho' hwant h8 (h9.mono fun e w2 ⟨v,q1,q2,q3⟩=>⟨v,q1,v,rfl,q2,hR v w2 q2 q3⟩)
   . refine Qqd ho' hwant ⟨undef,rfl,Below.refl _ _,fun av' hav' => ?_,fun _=>rfl⟩;rw [hav] at hav';cases hav'
 . intro val lo hi w1 hb hrows _ listed hsz hLL;have hall:∀ j av,avs[j]? = some (some av)->(fun _=>true:Nat->Bool) (0+j)=true->AVR w1 ρ w0.heap.size rr av (val (0+j)):=by
    intro j av hj _;obtain⟨q1,_,_,_,q5⟩:=Q0m.stage (L:=fun _=>false) (val:=val) (a0:=a0) (w:=w1) (ρ := ρ) (base:=w0.heap.size) (ro:=rr) (i:=0) hpath hlget (hstart _ val w1 hb) (fun j av _ h=>by cases h) (fun j _ h=>by cases h);have hjn:j<np:=by
     have:=(List.getElem?_eq_some_iff.1 hj).1;rw [q5,List.length_take] at this;omega
    rw [Nat.zero_add];exact (hrows j hjn).2.2.2.1 av hj
   have hnone:∀ j,avs[j]? = some none->(fun _=>true:Nat->Bool) (0+j)=true->val (0+j)=undef:=by
    intro j hj _;obtain⟨q1,_,_,_,q5⟩:=Q0m.stage (L:=fun _=>false) (val:=val) (a0:=a0) (w:=w1) (ρ := ρ) (base:=w0.heap.size) (ro:=rr) (i:=0) hpath hlget (hstart _ val w1 hb) (fun j av _ h=>by cases h) (fun j _ h=>by cases h);have hjn:j<np:=by
     have:=(List.getElem?_eq_some_iff.1 hj).1;rw [q5,List.length_take] at this;omega
    rw [Nat.zero_add];exact (hrows j hjn).2.2.2.2 hj
   obtain⟨_,hfin,hes,hns,_⟩:=Q0m.stage (L:=fun _=>true) (val:=val) (i:=0) hpath hlget (hstart _ val w1 hb) hall hnone;rw [List.length_take,Nat.min_eq_left hnpl,Nat.zero_add] at hfin;have Hw:=H.calm hb;have hdis:=hpath.dis H.disT;have hback:=fun j o ho=>Q8s (j:=j) (o:=o) hO ho
   suffices HS:Sim w0 SS N B S' (Kn val 0 (l.take np) a0) w1 from ⟨l.length - np,hlate S' _ w1 listed htail HS hsz hLL hback hsel⟩
   refine⟨ρ,_,⟨Hw.from_,by rw [Qfq]; exact H.size,by rw [Q5v]; exact H.defers,Hw.roB,fun s x hx => ?_,fun q e he=>Hw.en q e (by unfold Qh at he ⊢; rw [hes] at he; exact he),Hw.apart,fun q hq=>Hw.fresh q (by rw [hns] at hq; exact hq),Hw.own,Hw.roS,Hw.solid,hdis,fun q e he=>by rw [hes]; exact Hw.disE q e he⟩⟩;have h1:=hfin s x hx;have hbd:∀ u,AVR w1 ρ w0.heap.size rr x u->AVR w1 ρ w0.heap.size (fun b=>(ro b\/w.heap.size<=b)/\b<w1.heap.size) x u:=by
    intro u hr;have:=hr.bound;rw [hrr] at this;exact this
   cases hp:Vp l s np with
   | none =>
    rw [hp] at h1;obtain⟨u,h2,h3⟩:=h1;refine⟨u,?_,hbd u h3⟩;rw [<- h2];refine Q6q val s _ 0 a0 fun o ho => ?_;obtain⟨i,hi⟩:=List.mem_iff_getElem?.1 ho;rw [List.getElem?_take] at hi;split at hi
    . rename_i hinp;exact Q8y hp i hinp o hi
    . cases hi
   | some j =>
    rw [hp] at h1;obtain⟨h2,oj,h3,h4⟩:=Q2a hp;obtain⟨d,hd1,hd2,hd3⟩:=Q1s hd h2 h3;rw [h4] at hd1;injection hd1 with hd1;subst hd1;refine⟨val j,?_,hbd _ (h1 rfl)⟩;have h5:=Qba val s (l.take np) 0 a0 j oj (by rw [List.getElem?_take_of_lt h2]; exact h3) h4 (fun j' o' hj' ho'=>by
     rw [List.getElem?_take] at hj';split at hj'
     . rename_i hlt;exact hd3 j' o' hlt hj' ho'
     . cases hj') hd2
    rwa [Nat.zero_add] at h5
theorem Qxt {ops:List Oper} (h:Qdf (efs C.fs) ops N=true):Q71 (efs C.fs) (Q81 (efs C.fs) ops) (Q0e (efs C.fs) (Q03 (efs C.fs) ops)) ops N=true:=by
 unfold Qdf at h;unfold Q71;simp only [Bool.and_eq_true,decide_eq_true_eq] at h ⊢;refine⟨Qnh _,List.all_eq_true.2 fun o ho => ?_,h⟩;obtain⟨i,hi⟩:=List.mem_iff_getElem?.1 ho;rw [List.getElem?_take] at hi;split at hi
 . rename_i hlt;exact Qu2 hlt hi
 . cases hi
theorem Z6g (hty:Zw P C.ty) (hcs:Q3h P C SS) (hmix:P.follows .mixedOrders=true) {id:Nat} {ops:List Oper} {k:Sx->Fm} (hQ:∀ c a w,¬ Q (.panic c) a w) (hok:Qdf (efs C.fs) ops N=true) (hk:∀ S' a' w',Sim w0 SS N B S' a' w'->(k S').P->Q .normal a' w') (h:(Qkr C N B (Q03 (efs C.fs) ops) S k).P) (H:Sim w0 SS N B S a0 w):(Code.region id ops.toArray true).wp P Q a0 w:=by
 refine Qqc (late:=fun S'=>match Q9u (Q03 (efs C.fs) ops) (Q0e (efs C.fs) (Q03 (efs C.fs) ops)) with
  | true=>Qq C N B (Q03 (efs C.fs) ops) ((Q03 (efs C.fs) ops).drop (Q0e (efs C.fs) (Q03 (efs C.fs) ops))) S' k
  | false=>Q13 C N B (Q03 (efs C.fs) ops) ((Q03 (efs C.fs) ops).length - Q0e (efs C.fs) (Q03 (efs C.fs) ops)) (List.range (Q0e (efs C.fs) (Q03 (efs C.fs) ops))) S' k) hty hcs hmix hQ (Qxt hok) (fun S' a' w' listed htail HS hsz hLL hback hsel => ?_) h H
 have hnpl:=Qnh (C:=C) (Q03 (efs C.fs) ops);unfold Q03 at *
 generalize Qr (Q81 (efs C.fs) ops) ops=l at *
 generalize Q0e (efs C.fs) l=np at *
 cases hch:Q9u l np with
 | true =>
  rw [hch] at htail;exact Qow hch hback _ np _ _ listed (by omega) (Nat.le_refl _) hsz hLL (Q5o hty hcs hk htail HS)
 | false =>
  rw [hch] at htail;exact Qe4 hty hcs hsel hQ hk _ _ _ _ _ listed htail HS hsz fun j=>by rw [hLL,Qix]
end
end Go.Proofs.YtffeegebohigdaaGreat
