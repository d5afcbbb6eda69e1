/-
  A law for a region that draws its order, of which each operation's outcome is told in a list: known values, calls that leave known values, and new memory of which a relation is known.
-/
import Derived.Test.YtffeegebohigdaaGreatMs4
import Derived.Maps.Keyed
import Derived.Maps.RangeRun
set_option linter.unusedVariables false
set_option linter.unusedSimpArgs false
namespace Go.Proofs.YtffeegebohigdaaGreat
open Go.RowKit
theorem Qir {P:Program} {id:Nat} {Q:Exit->Act->World->Prop} {a0:Act} {w0:World} {l:List Oper} (np:Nat) (R:Nat->Value->Nat->Nat->World->Prop) (hm:P.follows .mixedOrders=true) (hO:Q3s l np=true) (hnp:np<=l.length) (hd:Q1l l np a0.tmps.size=true)
 (hR:∀ i v lo hi w w',R i v lo hi w->hi<=w.heap.size->Qe w w'->R i v lo hi w')
 (hstep:∀ i o,i<np->l[i]? = some o->∀ (L:Nat->Bool) (a:Act) (w:World) (val:Nat->Value) (lo hi:Nat->Nat),Q08 w0 a0 l np R L a w val lo hi->(∀ e∈o.after,Region.binds .any e=true->L e.on=true)->L i=false->(∀ j oj,L j=true->l[j]? = some oj->∀ e∈oj.after,Region.binds .any e=true->L e.on=true) ->
  wpOp P l.toArray Q i (fun a' w'=>∃ v,a'=a.put o.dst v/\Qe w w'/\R i v w.heap.size w'.heap.size w') a w)
 (hK:∀ (val:Nat->Value) (lo hi:Nat->Nat) (w:World),Qe w0 w->(∀ i,i<np->w0.heap.size<=lo i/\lo i<=hi i/\hi i<=w.heap.size/\R i (val i) (lo i) (hi i) w)->(∀ i j,i<np->j<np->i≠j->hi i<=lo j\/hi j<=lo i)->wpList P l.toArray Q (l.drop np) (Kn val 0 (l.take np) a0) w) :
 (Code.region id l.toArray true).wp P Q a0 w0:=by
 refine wp_region_any hm (Qcm (fun listed a w=>listed.size=l.length/\Vz .any l.toArray listed/\((∃ val lo hi,Q08 w0 a0 l np R (LL listed) a w val lo hi/\∀ j,np<=j->LL listed j=false)\/∃ k,np<=k/\(∀ j,LL listed j=decide (j<k))/\wpList P l.toArray Q (l.drop k) a w)) ?_ ?_ _ _ _ _ ?_ ?_)
 . rintro listed a w ⟨hsz,hcl,H⟩ hr
   have hall:∀ j,j<l.length->LL listed j=true:=by
    intro j
    induction j using Nat.strongRecOn with
    | ind j ih =>
     intro hj
     cases hq:LL listed j with
     | true=>rfl
     | false =>
      exfalso;have hmem:j∈Region.ready .any l.toArray listed:=by
       rw [mem_ready];refine⟨?_,l[j],by simp [hj],fun e he hb => ?_⟩
       . unfold LL at hq;rw [Array.getD_eq_getD_getElem?,Array.getElem?_eq_getElem (by omega)] at hq ⊢;exact hq
       . have h1:=Q9c hO (List.getElem?_eq_getElem hj) e he hb;exact ih e.on h1 (by omega)
      rw [hr] at hmem;cases hmem
   rcases H with ⟨val,lo,hi,M,hpost⟩|⟨k,hk,hL,hw⟩
   . have hnl:np=l.length:=by
      rcases Nat.lt_or_ge np l.length with h|h
      . have h1:=hall np h;rw [hpost np (Nat.le_refl _)] at h1;cases h1
      . omega
     have hact:=M.act (fun i hi=>hall i (by omega)) hd;have h1:=hK val lo hi w M.from0 (fun i hi=>M.rows i hi (hall i (by omega))) (fun i j hi hj hij=>M.apart i j hi hj (hall i (by omega)) (hall j (by omega)) hij);rw [hnl,List.drop_length] at h1;rw [hact,hnl];exact h1
   . have hk2:l.length<=k:=by
      rcases Nat.lt_or_ge k l.length with h|h
      . have h1:=hall k h;rw [hL k] at h1;simp at h1
      . exact h
     rw [List.drop_eq_nil_of_le hk2] at hw;exact hw
 . rintro listed a w i ⟨hsz,hcl,H⟩ hr
   obtain⟨hun,o,ho,haft⟩:=mem_ready.1 hr;obtain⟨hn,hlt⟩:=Q0z hun;have ho':l[i]? = some o:=by simpa using ho
   have hL:=Q5q (listed:=listed) (i:=i) hlt;have post:∀ k,np<=k->(∀ j,LL listed j=decide (j<k))->wpList P l.toArray Q (l.drop k) a w->wpOp P l.toArray Q i (fun a w=>(listed.setIfInBounds i true).size=l.length/\Vz .any l.toArray (listed.setIfInBounds i true)/\((∃ val lo hi,Q08 w0 a0 l np R (LL (listed.setIfInBounds i true)) a w val lo hi/\∀ j,np<=j->LL (listed.setIfInBounds i true) j=false)\/∃ k,np<=k/\(∀ j,LL (listed.setIfInBounds i true) j=decide (j<k))/\wpList P l.toArray Q (l.drop k) a w)) a w:=by
    intro k hk hLk hw;have hki:i=k:=by
     have h1:¬ i<k:=by
      intro h;rw [hLk i] at hn;simp [h] at hn
     rcases Nat.lt_or_ge k i with h|h
     . have h2:=J2 hcl _ i k o ho haft (Q6e hO ho' (by omega) k h);have h3:=hLk k;unfold LL at h3;rw [h2] at h3;simp at h3
     . omega
    subst hki;have hlt':i<l.length:=(List.getElem?_eq_some_iff.1 ho').1;rw [List.drop_eq_getElem_cons hlt'] at hw;have hoi:l[i]=o:=by rw [List.getElem?_eq_getElem hlt'] at ho'; injection ho'
    rw [hoi] at hw;have hst:wpOp P l.toArray Q i (wpList P l.toArray Q (l.drop (i+1))) a w:=by
     unfold wpOp;simp only [ho];exact hw
    refine wpOp_mono (fun a' w' h'=>⟨by simp [hsz],hcl.set_ hr,.inr ⟨i+1,by omega,fun j => ?_,h'⟩⟩) hst;rw [hL,hLk];by_cases e:j=i
    . simp [e]
    . rw [if_neg e];by_cases h:j<i
      . simp [h,show j<i+1 by omega]
      . simp [h,show ¬ j<i+1 by omega]
   rcases H with ⟨val,lo,hi,M,hpost⟩|⟨k,hk,hLk,hw⟩
   . rcases Nat.lt_or_ge i np with hinp|hinp
     . refine wpOp_mono (fun a' w' h' => ?_) (hstep i o hinp ho' (LL listed) a w val lo hi M (fun e he hb=>by have:=haft e he hb; unfold LL; exact this) hn (fun j oj hj hoj e he hb=>hcl j oj (by simpa using hoj) hj e he hb));obtain⟨v,rfl,hf,hv⟩:=h';refine⟨by simp [hsz],hcl.set_ hr,.inl ⟨_,_,_,M.next hinp ho' hd hR hf hv hL hn,fun j hj => ?_⟩⟩;rw [hL,if_neg (by omega)];exact hpost j hj
     . have hi0:∀ j,j<i->LL listed j=true:=fun j hj=>by
        exact J2 hcl _ i j o ho haft (Q6e hO ho' hinp j hj)
       have hinp':i=np:=by
        rcases Nat.lt_or_ge np i with h|h
        . have h1:=hi0 np h;rw [hpost np (Nat.le_refl _)] at h1;cases h1
        . omega
       have hact:=M.act (fun j hj=>hi0 j (by omega)) hd;have h1:=hK val lo hi w M.from0 (fun j hj=>M.rows j hj (hi0 j (by omega))) (fun j k hj hk hjk=>M.apart j k hj hk (hi0 j (by omega)) (hi0 k (by omega)) hjk);rw [<- hact] at h1;refine post np (Nat.le_refl _) (fun j => ?_) h1;rcases Nat.lt_or_ge j np with h|h
       . rw [hi0 j (by omega)]; simp [h]
       . rw [hpost j h]; simp [Nat.not_lt.2 h]
   . exact post k hk hLk hw
 . simp
 . have h0:∀ j,LL (Array.replicate l.toArray.size false) j=false:=fun j=>by
    unfold LL;rw [Array.getD_eq_getD_getElem?,Array.getElem?_replicate];split<;>rfl
   refine⟨by simp,fun j oj _ hl=>(by simp [Array.getElem?_replicate] at hl; split at hl<;>simp at hl),.inl ⟨fun _=>undef,fun _=>0,fun _=>0,⟨rfl,rfl,(Below.refl _ _).drew,fun i _ h => ?_,fun i j _ _ h => ?_,fun i o d _ _ _ h => ?_,fun s _=>rfl⟩,fun j _ => ?_⟩⟩
   . rw [h0] at h; cases h
   . rw [h0] at h; cases h
   . rw [h0] at h; cases h
   . exact h0 j
def zB (l:List Oper) (np:Nat) (Z:List Nat):Bool:=Z.all fun i=>decide (i<np)&&match l[i]? with|some o=>o.after.all fun e => !Region.binds .any e|none=>true
inductive St where
 | val (v:Value)
 | call (v:Value)
 | new (R:Value->World->Prop)
 | dep (R:Value->World->Prop)
 | skip
def St.Rel:St->Value->World->Prop
 | .val c,v,_=>v=c
 | .call c,v,_=>v=c
 | .new R,v,w=>R v w
 | .dep R,v,w=>R v w
 | .skip,v,_=>v=undef
def St.known:St->Value
 | .val c=>c
 | .call c=>c
 | _=>undef
def St.isKnown:St->Bool
 | .new _=>false
 | .dep _=>false
 | _=>true
theorem St.rel_known {s:St} (h:s.isKnown=true) {v:Value} {w:World} (hr:s.Rel v w):v=s.known:=by
 cases s<;>first|exact hr|cases h
def Vp (l:List Oper) (s:Nat):Nat->Option Nat
 | 0=>none
 | i+1=>if ((l[i]?).bind (·.dst))==some s then some i else Vp l s i
theorem Q2a {l:List Oper} {s:Nat}:∀ {i j:Nat},Vp l s i=some j->j<i/\∃ o,l[j]? = some o/\o.dst=some s
 | 0,_,h=>by cases h
 | i+1,j,h=>by
  unfold Vp at h;split at h
  . rename_i hb;injection h with h;subst h;have h1:=eq_of_beq hb
    cases ho:l[i]? with
    | none=>rw [ho] at h1; cases h1
    | some o=>rw [ho] at h1; exact⟨by omega,o,rfl,h1⟩
  . obtain⟨h1,h2⟩:=Q2a h;exact⟨by omega,h2⟩
def Q99 (l:List Oper) (S:List St) (a0:Act) (i:Nat):Operand->St
 | .tmp s=>match Vp l s i with
  | some j=>S.getD j .skip
  | none => .val (a0.tmps.getD s undef)
 | x => .val (a0.eval x)
theorem Qog {l:List Oper} {S:List St} {a0:Act} {i s:Nat} (h:Vp l s i=none):Q99 l S a0 i (.tmp s) = .val (a0.tmps.getD s undef):=by simp [Q99,h]
theorem Qom {l:List Oper} {S:List St} {a0:Act} {i s j:Nat} (h:Vp l s i=some j):Q99 l S a0 i (.tmp s)=S.getD j .skip:=by simp [Q99,h]
def Qit (l:List Oper) (np i:Nat) (o:Oper) (s:Nat):Bool :=
 match Vp l s i with
 | some j=>o.after.any fun e=>Region.binds .any e&&e.on==j
 | none=>(List.range np).all fun k=>match l[k]? with
  | some ok=>ok.dst != some s||ok.after.any fun e=>Region.binds .any e&&e.on==i
  | none=>true
def Qk7:Op->Bool
 | .select _ _=>true
 | _=>false
def St.isSkip:St->Bool
 | .skip=>true
 | _=>false
def St.told:St->Option Bool
 | .val (.bool c)=>some c
 | .call (.bool c)=>some c
 | _=>none
def Qzh (S:List St) (o:Oper) (st:St):Bool :=
 match o.guard with
 | none => !st.isSkip
 | some (j,b)=>(o.after.any fun e=>Region.binds .any e&&e.on==j)&&match (S.getD j .skip).told with
  | some c=>(c==b) == !st.isSkip
  | none=>false
def Z1x (l:List Oper) (S:List St) (np:Nat):Bool :=
 (List.range np).all fun i=>match l[i]? with
  | none=>false
  | some o=>let st:=S.getD i .skip
   Qzh S o st&&(st.isSkip||(!Qk7 o.op&&o.op.operands.toList.all fun x=>match x with
    | .tmp s=>Qit l np i o s&&(match st with
     | .dep _=>true
     | _=>match Vp l s i with
      | some j=>(S.getD j .skip).isKnown
      | none=>true)
    | _=>true))
def Qke (P:Program) (ρ:Operand->Value) (o:Oper) (w:World) (R:Value->World->Prop):Prop :=
 (∃ v w',(execOp ρ o).run P w = .ok (.value v) w'/\Qe w w'/\R v w') \/
 ∃ f args,(execOp ρ o).run P w = .ok (.enter f args) w/\Calls P f args w fun e w'=>∃ v,e = .returned v/\Qe w w'/\R v w'
def Z7u (P:Program) (w0:World) (l:List Oper) (S:List St) (a0:Act) (i:Nat) (o:Oper):St->Prop
 | .val v=>∀ w,Qe w0 w->(execOp (fun x=>(Q99 l S a0 i x).known) o).run P w = .ok (.value v) w
 | .call v=>∀ w,Qe w0 w->∃ f args,(execOp (fun x=>(Q99 l S a0 i x).known) o).run P w = .ok (.enter f args) w/\Calls P f args w fun e w'=>e = .returned v/\Qe w w'
 | .new R=>∀ w,Qe w0 w->Qke P (fun x=>(Q99 l S a0 i x).known) o w R
 | .dep R=>∀ ρ w,Qe w0 w->(∀ x,x∈o.op.operands->(Q99 l S a0 i x).Rel (ρ x) w)->Qke P ρ o w R
 | .skip=>True
def Qdc (P:Program) (w0:World) (l:List Oper) (S:List St) (a0:Act):Nat->List Oper->List St->Prop
 | i,o::os,s::ss=>Z7u P w0 l S a0 i o s/\Qdc P w0 l S a0 (i+1) os ss
 | _,[],[]=>True
 | _,_,_=>False
theorem Qkg {P:Program} {w0:World} {l:List Oper} {S:List St} {a0:Act}:∀ {k:Nat} {os:List Oper} {ss:List St},Qdc P w0 l S a0 k os ss->∀ {i:Nat} {o:Oper},os[i]? = some o->Z7u P w0 l S a0 (k+i) o (ss.getD i .skip)
 | k,o::os,s::ss,h,0,o',ho=>by
  injection ho with ho;subst ho;exact h.1
 | k,o::os,s::ss,h,i+1,o',ho=>by
  have h1:=Qkg h.2 (i:=i) (o:=o') (by simpa using ho);rw [show k+(i+1)=k+1+i by omega];simpa using h1
 | k,[],[],h,i,o',ho=>by simp at ho
 | k,[],_::_,h,i,o',ho=>h.elim
 | k,_::_,[],h,i,o',ho=>h.elim
def Q6v:List St->Prop
 | []=>True
 | .new R::ss=>(∀ v w w',R v w->Qe w w'->R v w')/\Q6v ss
 | .dep R::ss=>(∀ v w w',R v w->Qe w w'->R v w')/\Q6v ss
 | _::ss=>Q6v ss
theorem Qg0:∀ {ss:List St},Q6v ss->∀ i v w w',(ss.getD i .skip).Rel v w->Qe w w'->(ss.getD i .skip).Rel v w'
 | [],_,i,v,w,w',hr,_=>by
  have h1:v=undef:=by simpa [St.Rel] using hr
  simpa [St.Rel] using h1
 | s::ss,h,0,v,w,w',hr,hb=>by
  cases s with
  | new R=>exact h.1 v w w' hr hb
  | dep R=>exact h.1 v w w' hr hb
  | val c=>exact hr
  | call c=>exact hr
  | skip=>exact hr
 | s::ss,h,i+1,v,w,w',hr,hb=>by
  have h1:Q6v ss:=by cases s<;>first|exact h.2|exact h
  have:=Qg0 h1 i v w w' (by simpa using hr) hb;simpa using this
def Q8h:List St->List Oper->Act->(Act->World->Prop)->World->Prop
 | .val v::ss,o::os,a,K,w=>Q8h ss os (a.put o.dst v) K w
 | .call v::ss,o::os,a,K,w=>Q8h ss os (a.put o.dst v) K w
 | .skip::ss,o::os,a,K,w=>Q8h ss os (a.put o.dst undef) K w
 | .new R::ss,o::os,a,K,w=>∀ u,R u w->Q8h ss os (a.put o.dst u) K w
 | .dep R::ss,o::os,a,K,w=>∀ u,R u w->Q8h ss os (a.put o.dst u) K w
 | _,_,a,K,w=>K a w
theorem Qou {K:Act->World->Prop} {w:World} {val:Nat->Value}:∀ {ss:List St} {os:List Oper} {k:Nat} {a:Act},ss.length=os.length->Q8h ss os a K w->(∀ i,i<os.length->(ss.getD i .skip).Rel (val (k+i)) w)->K (Kn val k os a) w
 | [],[],k,a,_,h,_=>h
 | s::ss,o::os,k,a,hl,h,hr=>by
  have h0:=hr 0 (by simp);have hl':ss.length=os.length:=by simpa using hl
  have hr':∀ i,i<os.length->(ss.getD i .skip).Rel (val (k+1+i)) w:=fun i hi=>by
   have:=hr (i+1) (by simp; omega);rw [show k+(i+1)=k+1+i by omega] at this;simpa using this
  unfold Kn;refine Qou hl' ?_ hr';simp only [List.getD_cons_zero,Nat.add_zero] at h0
  cases s with
  | val c=>have h0:val k=c:=h0; rw [h0]; exact h
  | call c=>have h0:val k=c:=h0; rw [h0]; exact h
  | skip=>have h0:val k=undef:=h0; rw [h0]; exact h
  | new R=>exact h _ h0
  | dep R=>exact h _ h0
 | [],_::_,_,_,hl,_,_=>by simp at hl
 | _::_,[],_,_,hl,_,_=>by simp at hl
theorem Qjp {P:Program} {w0:World} {l:List Oper} {S:List St} {a0:Act}:∀ {k:Nat} {os:List Oper} {ss:List St},Qdc P w0 l S a0 k os ss->ss.length=os.length
 | _,_::os,_::ss,h=>by simp [Qjp h.2]
 | _,[],[],_=>rfl
 | _,[],_::_,h=>h.elim
 | _,_::_,[],h=>h.elim
theorem Z41 {P:Program} {Q:Exit->Act->World->Prop} {a0:Act} {w0:World} {l:List Oper} (np:Nat) (S:List St) (hback:∀ j o,l[j]? = some o->∀ e∈o.after,Region.binds .any e=true->e.on<j) (hnp:np<=l.length) (hd:Q1l l np a0.tmps.size=true) (hread:Z1x l S np=true)
 (hstep:Qdc P w0 l S a0 0 (l.take np) S) :
 ∀ i o,i<np->l[i]? = some o->∀ (L:Nat->Bool) (a:Act) (w:World) (val:Nat->Value) (lo hi:Nat->Nat),Q08 w0 a0 l np (fun i v _ _ w=>(S.getD i .skip).Rel v w) L a w val lo hi->(∀ e∈o.after,Region.binds .any e=true->L e.on=true)->L i=false->(∀ j oj,L j=true->l[j]? = some oj->∀ e∈oj.after,Region.binds .any e=true->L e.on=true) ->
  wpOp P l.toArray Q i (fun a' w'=>∃ v,a'=a.put o.dst v/\Qe w w'/\(S.getD i .skip).Rel v w') a w:=by
 intro i o hi ho L a w val lo hi' M haft hLi hLc;have hb:Qe w0 w:=M.from0;have hval:∀ j oj d,j<np->l[j]? = some oj->oj.dst=some d->(o.after.any fun e=>Region.binds .any e&&e.on==j)=true->∃ v,a.tmps[d]? = some v/\(S.getD j .skip).Rel v w:=fun j oj d hj hoj hdj he=>by
  rw [Array.any_eq_true'] at he;obtain⟨e,he,hbd⟩:=he;simp only [Bool.and_eq_true,beq_iff_eq] at hbd;have hL:=haft e he hbd.1;rw [hbd.2] at hL;exact⟨val j,M.slots j oj d hj hoj hdj hL,(M.rows j hj hL).2.2.2⟩
 have hold:∀ s,((List.range np).all fun k=>match l[k]? with|some ok=>ok.dst != some s||ok.after.any (fun e=>Region.binds .any e&&e.on==i)|none=>true)=true->a.tmps[s]? = a0.tmps[s]? := fun s hs=>M.old s fun k ok hk hok hdk=>by
  have h1:=List.all_eq_true.1 hs k (List.mem_range.2 hk);simp only [hok,hdk,bne_self_eq_false,Bool.false_or] at h1
  cases hLk:L k with
  | false=>rfl
  | true =>
   rw [Array.any_eq_true'] at h1;obtain⟨e,he,hbd⟩:=h1;simp only [Bool.and_eq_true,beq_iff_eq] at hbd;have h2:=hLc k ok hLk hok e he hbd.1;rw [hbd.2,hLi] at h2;cases h2
 have hgo:=Qkg hstep (i:=i) (o:=o) (by rw [List.getElem?_take_of_lt hi]; exact ho);rw [Nat.zero_add] at hgo;have hrd:=List.all_eq_true.1 hread i (List.mem_range.2 hi);simp only [ho,Bool.and_eq_true] at hrd;obtain⟨hgd,hrd⟩:=hrd;have ho':l.toArray[i]? = some o:=by simpa using ho
 have hprod:∀ j,(o.after.any fun e=>Region.binds .any e&&e.on==j)=true->∀ oj d,j<np->l[j]? = some oj->oj.dst=some d->∃ v,a.tmps[d]? = some v/\(S.getD j .skip).Rel v w:=fun j he oj d hj hoj hdj=>hval j oj d hj hoj hdj he
 -- the guard
 have hwant:Region.wanted o (yielded l.toArray a.tmps) = !(S.getD i .skip).isSkip:=by
  unfold Qzh at hgd
  cases hg:o.guard with
  | none =>
   rw [hg] at hgd;simp only at hgd;rw [hgd];exact Q97 hg _
  | some p =>
   obtain⟨j,b⟩:=p;rw [hg] at hgd;simp only [Bool.and_eq_true] at hgd;obtain⟨he,hgd⟩:=hgd;have hji:j<i:=by
    rw [Array.any_eq_true'] at he;obtain⟨e,he1,he2⟩:=he;simp only [Bool.and_eq_true,beq_iff_eq] at he2;have:=hback i o ho e he1 he2.1;omega
   obtain⟨oj,hoj⟩:∃ oj,l[j]? = some oj:=⟨l[j]'(by omega),List.getElem?_eq_getElem (by omega)⟩
   obtain⟨d,hdj,_,_⟩:=Q1s hd (show j<np by omega) hoj;obtain⟨v,hv1,hv2⟩:=hprod j he oj d (by omega) hoj hdj;have htold:∀ c,(S.getD j .skip).told=some c->(S.getD j .skip).Rel v w->v = .bool c:=by
    generalize S.getD j .skip=s;intro c h1 h2
    cases s with
    | val c'=>cases c'<;>simp only [St.told] at h1<;>cases h1<;>exact h2
    | call c'=>cases c'<;>simp only [St.told] at h1<;>cases h1<;>exact h2
    | new R=>cases h1
    | dep R=>cases h1
    | skip=>cases h1
   cases ht:(S.getD j .skip).told with
   | none=>rw [ht] at hgd; cases hgd
   | some c =>
    rw [ht] at hgd;have hvc:=htold c ht hv2;subst hvc;exact Q25 hg (by simpa using hoj) hdj hv1 (eq_of_beq hgd)
 -- the operands
 have hrel:(S.getD i .skip).isSkip=false->∀ x,x∈o.op.operands->(Q99 l S a0 i x).Rel (a.eval x) w:=by
  intro hns x hx;rw [hns,Bool.false_or] at hrd;simp only [Bool.and_eq_true] at hrd;have h1:=List.all_eq_true.1 hrd.2 x (by simpa using hx)
  cases x with
  | const v=>rfl
  | global g=>rfl
  | func f=>rfl
  | tmp s =>
   simp only [Bool.and_eq_true] at h1;have h2:=h1.1;unfold Qit at h2
   cases hp:Vp l s i with
   | none =>
    rw [hp] at h2;have h3:=hold s h2;rw [Qog hp];simp only [St.Rel,Act.eval];rw [Array.getD_eq_getD_getElem?,Array.getD_eq_getD_getElem?,h3]
   | some j =>
    rw [hp] at h2;obtain⟨h3,oj,h4,h5⟩:=Q2a hp;obtain⟨v,h6,h7⟩:=hprod j h2 oj s (by omega) h4 h5;rw [Qom hp,V6 h6];exact h7
 have hnosel:(S.getD i .skip).isSkip=false->∀ cs b,o.op ≠ .select cs b:=by
  intro hns cs b hop;rw [hns,Bool.false_or,hop] at hrd;simp [Qk7] at hrd
 have hsame:(S.getD i .skip).isSkip=false->(∀ R,S.getD i .skip ≠ .dep R)->execOp a.eval o=execOp (fun x=>(Q99 l S a0 i x).known) o:=by
  intro hns hnd;refine execOp_congr o (hnosel hns) fun x hx => ?_;refine St.rel_known ?_ (hrel hns x hx);rw [hns,Bool.false_or] at hrd;simp only [Bool.and_eq_true] at hrd;have h1:=List.all_eq_true.1 hrd.2 x (by simpa using hx)
  cases x with
  | const v=>rfl
  | global g=>rfl
  | func f=>rfl
  | tmp s =>
   simp only [Bool.and_eq_true] at h1;have h2:=h1.2
   cases hp:Vp l s i with
   | none=>rw [Qog hp]; rfl
   | some j =>
    rw [hp] at h2;rw [Qom hp];simp only at h2
    cases hs:S.getD i .skip with
    | dep R=>exact (hnd R hs).elim
    | val v=>exact h2
    | call v=>exact h2
    | new v=>exact h2
    | skip=>exact h2
 have hrun:∀ ρ,execOp a.eval o=execOp ρ o->∀ R:Value->World->Prop,Region.wanted o (yielded l.toArray a.tmps)=true->Qke P ρ o w R->wpOp P l.toArray Q i (fun a' w'=>∃ v,a'=a.put o.dst v/\Qe w w'/\R v w') a w:=by
  intro ρ he R hw h;rcases h with ⟨v,w',h1,h2,h3⟩|⟨f,args,h1,h2⟩
  . rw [<- he] at h1;exact Qg7 ho' hw h1 ⟨v,rfl,h2,h3⟩
  . rw [<- he] at h1;exact Qga ho' hw h1 (h2.mono fun e w' ⟨v,h3,h4,h5⟩=>⟨v,h3,v,rfl,h4,h5⟩)
 cases hs:S.getD i .skip with
 | skip =>
  rw [hs] at hwant;exact Qqd ho' hwant ⟨_,rfl,Below.refl _ _,rfl⟩
 | val v =>
  rw [hs] at hgo hwant hsame;have h1:=hgo w hb;exact hrun _ (hsame rfl (fun R=>by simp)) _ hwant (.inl ⟨v,w,h1,Below.refl _ _,rfl⟩)
 | call v =>
  rw [hs] at hgo hwant hsame;obtain⟨f,args,h1,h2⟩:=hgo w hb;exact hrun _ (hsame rfl (fun R=>by simp)) _ hwant (.inr ⟨f,args,h1,h2.mono fun e w' ⟨h3,h4⟩=>⟨v,h3,h4,rfl⟩⟩)
 | new R =>
  rw [hs] at hgo hwant hsame;exact hrun _ (hsame rfl (fun R=>by simp)) _ hwant (hgo w hb)
 | dep R =>
  rw [hs] at hgo hwant hrel;exact hrun _ rfl _ hwant (hgo a.eval w hb (hrel rfl))
theorem Qpc {P:Program} {id:Nat} {Q:Exit->Act->World->Prop} {a0:Act} {w0:World} {l:List Oper} (np:Nat) (S:List St) (hm:P.follows .mixedOrders=true) (hO:Q3s l np=true) (hnp:np<=l.length) (hd:Q1l l np a0.tmps.size=true) (hread:Z1x l S np=true)
 (hstab:Q6v S) (hstep:Qdc P w0 l S a0 0 (l.take np) S)
 (hK:∀ w,Qe w0 w->Q8h S (l.take np) a0 (fun a w=>wpList P l.toArray Q (l.drop np) a w) w) :
 (Code.region id l.toArray true).wp P Q a0 w0:=by
 have hlen:=Qjp hstep;refine Qir np (fun i v _ _ w=>(S.getD i .skip).Rel v w) hm hO hnp hd (fun i v lo hi w w' h _ hb=>Qg0 hstab i v w w' h hb) (Z41 np S (fun j o ho=>Q9c hO ho) hnp hd hread hstep) ?_
 . intro val lo hi w hb hrows _;have h1:=Qou (val:=val) (k:=0) hlen (hK w hb) (fun i hi=>by
    rw [Nat.zero_add];exact (hrows i (by simp at hi; omega)).2.2.2)
   exact h1
theorem Z5a {w:World} {base e size g:Nat} {cs:List Value} (h:w.heap[g]? = some (.cells cs.toArray e (0,0))) (hl:cs.length=size) (hb:base<=g):Z1 w base e size (some ⟨g,0,none⟩) 1 [cs] :=
 ⟨⟨by simp [hl],.inr ⟨g,1,cs.toArray,rfl,hb,h,Nat.le_refl _,by unfold maxLen; omega,by simp [hl],by simp; exact List.take_of_length_le (by omega)⟩⟩,by intro c hc; rw [List.mem_singleton] at hc; subst hc; exact hl⟩
theorem Z5h {w:World} {base size c g i T:Nat} {css:List (List Value)} {cs:List Value} (hT:Q3k Tryz.prog T size) (h:Z1 w base T size (some ⟨g,0,none⟩) c css) (hi:css[i]? = some cs) {p:Nat} (hp:p=i*size):∀ w1,Qe w w1->(loadVar T ⟨g,p,none⟩).run Tryz.prog w1 = .ok (.agg cs.toArray) w1:=by
 intro w1 hb;subst hp;obtain⟨b,off,e,_,hl⟩:=h.rd.ld hT hi;simp only [Option.some.injEq,Addr.mk.injEq,and_true] at e;obtain⟨rfl,rfl⟩:=e;have h1:=hl w1 hb;rw [Nat.zero_add] at h1;exact h1
theorem Gr (A:Option Addr) (n c:Nat):Value.ownBlock (.slice A n c)=A.map (·.block):=by cases A<;>rfl
theorem Q8a {P:Program} {w:World} {ops:Array Oper} {rest:List Oper} {o:Oper} {a:Act} {Q:Exit->Act->World->Prop} {t e size bytes base c m cn:Nat} {A:Option Addr} {ad:Addr} {css news:List (List Value)} (hgd:o.guard=none) (s x:Operand)
 (ho:o.op = .call { callee := .builtin .append,args := #[s,x],argTypes := #[t,t] })
 (hE:EI P t e size bytes) (n:Nat) (hn:n=css.length) (hs:a.eval s = .slice A n c) (hown:Z1 w base e size A c css) (hx:a.eval x = .slice (some ad) m cn) (B:Nat) (hr:Rd w B size (some ad) news) (hm:m=news.length)
 (h1:∀ cs∈news,∀ u∈cs,u.oneCell'=true) (h63:css.length+m<=maxLen) (hbytes:(css.length+m)*bytes<=140737488355328) (hbase:base<=w.heap.size)
 (h:∀ A' c' w',Z1 w' base e size A' c' (css++news)->w.grownBy w' (A.map (·.block))->Below base w w'->(A'.map (·.block)=A.map (·.block)\/A'.map (·.block)=some w.heap.size)->wpList P ops Q rest (a.put o.dst (.slice A' (n+m) c')) w'):wpList P ops Q (o::rest) a w:=by
 subst hn;subst hm;obtain⟨ht,i,z,hi,hz,hs',hb,hzs,h0⟩:=hE;have hlen:∀ cs∈css++news,cs.length=size:=fun cs hc=>by
  rcases List.mem_append.1 hc with h|h
  . exact hown.2 cs h
  . exact hr.len cs h
 obtain⟨v',w',hrun,h2,h3,_,h5⟩:=run_append_own_at (P:=P) w base t o.type e i z size bytes ht hi hz hs' hb hzs h0 (.slice A css.length c) css.length css.flatten hown.1 ad news.length cn news.flatten (J0 news hr.len)
  (fun j u hu=>by obtain⟨ad',h,hc⟩:=hr.flat j u hu; injection h with h; rw [h]; exact hc)
  (fun u hu=>by obtain⟨cs,hcs,hu'⟩:=List.mem_flatten.1 hu; exact h1 cs hcs u hu') h63 hbytes hbase
 obtain⟨A',c',rfl,h4⟩:=Z1.of (css:=css++news) (by rw [List.flatten_append]; exact h2) (by simp) hlen;rw [Gr,Gr] at h5;rw [Gr] at h3;refine wpList_plain hgd fun K hK => ?_;unfold Oper.wp execOp;simp only [ho,resolve,invoke,builtin,Sem.run_bind,Sem.run_pure,Result.andThen_ok,List.map_toArray,List.map_cons,List.map_nil,hs,hx,hrun];have:=h A' c' w' h4 h3 ((Below.refl _ _).grown h3 hbase (fun k hk=>by
  cases A with
  | none=>cases hk
  | some q=>injection hk with hk; subst hk; exact (hown.lt rfl).1)) h5
 rw [List.length_append];exact hK _ _ this
inductive Ent where
 | row (T size:Nat) (A:Option Addr) (c:Nat) (css:List (List Value))
 | box (g T:Nat) (cs:List Value)
 | ro (size:Nat) (A:Option Addr) (css:List (List Value))
def Ent.ok (w:World) (base:Nat):Ent->Prop
 | .row T size A c css=>Z1 w base T size A c css
 | .box g T cs=>base<=g/\w.heap[g]? = some (.cells cs.toArray T (0,0))
 | .ro size A css=>Rd w w.heap.size size A css/\∀ a,A=some a->base<=a.block/\a.block<w.heap.size
def Ent.blk:Ent->Option Nat
 | .row _ _ A _ _=>A.map (·.block)
 | .box g _ _=>some g
 | .ro _ A _=>A.map (·.block)
theorem Ent.lt {w:World} {base b:Nat} {e:Ent} (h:e.ok w base) (hb:e.blk=some b):base<=b/\b<w.heap.size:=by
 cases e with
 | row T size A c css =>
  obtain⟨a,ha,rfl⟩:=Option.map_eq_some_iff.1 hb;exact Z1.lt h ha
 | box g T cs =>
  injection hb with hb;subst hb;exact⟨h.1,(Array.getElem?_eq_some_iff.1 h.2).1⟩
 | ro size A css =>
  obtain⟨a,ha,rfl⟩:=Option.map_eq_some_iff.1 hb;exact h.2 a ha
theorem Qdi {w w':World} {g p:Nat} (h:w'.heap[g]? = w.heap[g]?):w'.cell? ⟨g,p,.none⟩=w.cell? ⟨g,p,.none⟩:=by simp only [World.cell?,h]
theorem Rd.keep {w w':World} {size:Nat} {A:Option Addr} {css:List (List Value)} (h:Rd w w.heap.size size A css) (hk:∀ a,A=some a->w'.heap[a.block]? = w.heap[a.block]?):Rd w' w'.heap.size size A css:=by
 intro k cs hkc;obtain⟨g,off,e,hlt,hl,hc⟩:=h k cs hkc;have h1:=hk _ e;have hlt':g<w'.heap.size:=by
  rcases Nat.lt_or_ge g w'.heap.size with h2|h2
  . exact h2
  . rw [Array.getElem?_eq_none h2,Array.getElem?_eq_getElem hlt] at h1;cases h1
 exact⟨g,off,e,hlt',hl,fun j u hu=>by rw [Qdi h1]; exact hc j u hu⟩
theorem Ent.keep {w w':World} {base:Nat} {e:Ent} (h:e.ok w base) (hk:∀ b,e.blk=some b->w'.heap[b]? = w.heap[b]?):e.ok w' base:=by
 cases e with
 | ro size A css =>
  refine⟨Rd.keep h.1 fun a ha=>hk _ (by simp [Ent.blk,ha]),fun a ha=>⟨(h.2 a ha).1,?_⟩⟩;have h1:=hk a.block (by simp [Ent.blk,ha]);rcases Nat.lt_or_ge a.block w'.heap.size with h2|h2
  . exact h2
  . rw [Array.getElem?_eq_none h2,Array.getElem?_eq_getElem (h.2 a ha).2] at h1;cases h1
 | row T size A c css=>exact Z1.keep h fun a ha=>hk _ (by simp [Ent.blk,ha])
 | box g T cs=>exact⟨h.1,(hk g rfl).trans h.2⟩
theorem Ent.less {w:World} {base b:Nat} {e:Ent} (h:e.ok w base) (hb:b<=base):e.ok w b:=by
 cases e with
 | row T size A c css=>exact Z1.base_le h hb
 | box g T cs=>exact⟨Nat.le_trans hb h.1,h.2⟩
 | ro size A css=>exact⟨h.1,fun a ha=>⟨Nat.le_trans hb (h.2 a ha).1,(h.2 a ha).2⟩⟩
def Ent.far (e f:Ent):Prop:=∀ b,e.blk=some b->f.blk≠some b
theorem Ent.far.symm {e f:Ent} (h:e.far f):f.far e:=fun b hb hc=>h b hc hb
structure Mem (w0 w:World) (M:List Ent):Prop where
 from_:Qe w0 w
 ok:∀ e∈M,e.ok w w0.heap.size
 apart:M.Pairwise Ent.far
theorem Mem.nil (w:World):Mem w w []:=⟨Below.refl _ _,fun _ h=>(by cases h),.nil⟩
theorem Mem.call {w0 w w':World} {M:List Ent} (h:Mem w0 w M) (hb:Qe w w'):Mem w0 w' M :=
 ⟨h.from_.trans (hb.mono h.from_.size),fun e he=>Ent.keep (h.ok e he) fun _ hb'=>hb.block _ (Ent.lt (h.ok e he) hb').2,h.apart⟩
theorem Mem.sub {w0 w:World} {M M':List Ent} (h:Mem w0 w M) (hs:M'.Sublist M):Mem w0 w M':=⟨h.from_,fun e he=>h.ok e (hs.subset he),h.apart.sublist hs⟩
theorem Mem.add {w0 w w':World} {M:List Ent} (h:Mem w0 w M) (hb:Qe w w') (e:Ent) (he:e.ok w' w.heap.size):Mem w0 w' (e::M):=by
 have h1:=h.call hb;refine⟨h1.from_,fun f hf => ?_,List.pairwise_cons.2 ⟨fun f hf b hb1 hb2 => ?_,h1.apart⟩⟩
 . rcases List.mem_cons.1 hf with rfl|hf
   . exact Ent.less he h.from_.size
   . exact h1.ok f hf
 . have h2:=(Ent.lt he hb1).1;have h3:=(Ent.lt (h.ok f hf) hb2).2;omega
theorem Mem.none {w0 w:World} {M:List Ent} (h:Mem w0 w M) (T size:Nat):Mem w0 w (.row T size none 0 []::M) :=
 h.add (Below.refl _ _) _ (Z1.nil _ _ _ _)
theorem Mem.alloc {w0 w:World} {M:List Ent} (h:Mem w0 w M) (T:Nat) (cs:List Value):Mem w0 (w.alloc (.cells cs.toArray T)) (.box w.heap.size T cs::M) :=
 h.add ((Below.refl _ _).alloc (Nat.le_refl _) _) _ ⟨Nat.le_refl _,heap_alloc_new w _⟩
theorem Mem.any {w0 w:World} {M:List Ent} (h:Mem w0 w M) (o:Obj):Mem w0 (w.alloc o) M:=h.call ((Below.refl _ _).alloc (Nat.le_refl _) _)
theorem Qqj {e:Ent}:∀ {M:List Ent} {i:Nat},i<M.length->M.Pairwise Ent.far->(∀ j f,j≠i->M[j]? = some f->e.far f)->(M.set i e).Pairwise Ent.far
 | [],_,hi,_,_=>by cases hi
 | f::M,0,_,hp,h=>by
  rw [List.set_cons_zero];have h1:=List.pairwise_cons.1 hp;refine List.pairwise_cons.2 ⟨fun g hg => ?_,h1.2⟩;obtain⟨j,hj⟩:=List.mem_iff_getElem?.1 hg;exact h (j+1) g (by omega) (by simpa using hj)
 | f::M,i+1,hi,hp,h=>by
  rw [List.set_cons_succ];have h1:=List.pairwise_cons.1 hp;refine List.pairwise_cons.2 ⟨fun g hg => ?_,Qqj (by simpa using hi) h1.2 fun j f' hj hf=>h (j+1) f' (by omega) (by simpa using hf)⟩;rcases List.mem_or_eq_of_mem_set hg with hg|rfl
  . exact h1.1 g hg
  . exact (h 0 f (by omega) (by simp)).symm
theorem Qve {M:List Ent} (hp:M.Pairwise Ent.far) {i j:Nat} {e f:Ent} (hi:M[i]? = some e) (hj:M[j]? = some f) (hij:i≠j):e.far f:=by
 obtain⟨hi1,hi2⟩:=List.getElem?_eq_some_iff.1 hi;obtain⟨hj1,hj2⟩:=List.getElem?_eq_some_iff.1 hj;rw [List.pairwise_iff_getElem] at hp;rcases Nat.lt_or_gt_of_ne hij with h|h
 . have:=hp i j hi1 hj1 h;rwa [hi2,hj2] at this
 . have:=hp j i hj1 hi1 h;rw [hi2,hj2] at this;exact this.symm
theorem Mem.put {w0 w w':World} {M:List Ent} (h:Mem w0 w M) (i:Nat) {e:Ent} (e':Ent) (hi:M[i]? = some e) (hg:w.grownBy w' e.blk) (he:e'.ok w' w0.heap.size) (hbl:e'.blk=e.blk\/∀ b,e'.blk=some b->w.heap.size<=b):Mem w0 w' (M.set i e'):=by
 have hlt:i<M.length:=(List.getElem?_eq_some_iff.1 hi).1;have hek:=h.ok e (List.mem_of_getElem? hi);refine⟨h.from_.grown hg h.from_.size fun k hk=>(Ent.lt hek hk).1,fun f hf => ?_,Qqj hlt h.apart fun j f hj hf b hb1 hb2 => ?_⟩
 . obtain⟨j,hj⟩:=List.mem_iff_getElem?.1 hf;rw [List.getElem?_set] at hj;split at hj
   . injection hj with hj;subst hj;exact he
   . rename_i hne;have hfk:=h.ok f (List.mem_of_getElem? hj);refine Ent.keep hfk fun b hb=>hg.block b (Ent.lt hfk hb).2 fun hc => ?_;exact Qve h.apart hi hj hne b hc.symm hb
 . have hfk:=h.ok f (List.mem_of_getElem? hf);rcases hbl with hbl|hbl
   . rw [hbl] at hb1;exact Qve h.apart hi hf (fun e=>hj e.symm) b hb1 hb2
   . have h1:=hbl b hb1;have h2:=(Ent.lt hfk hb2).2;omega
theorem Mem.own {w0 w:World} {M:List Ent} (h:Mem w0 w M) {i:Nat} {T size:Nat} {A:Option Addr} {c:Nat} {css:List (List Value)} (hi:M[i]? = some (.row T size A c css)):Z1 w w0.heap.size T size A c css:=h.ok _ (List.mem_of_getElem? hi)
theorem Mem.rd {w0 w:World} {M:List Ent} (h:Mem w0 w M) {i:Nat} {T size:Nat} {A:Option Addr} {c:Nat} {css:List (List Value)} (hi:M[i]? = some (.row T size A c css)):Rd w w.heap.size size A css:=(h.own hi).rd
theorem Mem.cells {w0 w:World} {M:List Ent} (h:Mem w0 w M) {i g T:Nat} {cs:List Value} (hi:M[i]? = some (.box g T cs)):w.heap[g]? = some (.cells cs.toArray T (0,0)):=(h.ok _ (List.mem_of_getElem? hi)).2
theorem Mem.boxlt {w0 w:World} {M:List Ent} (h:Mem w0 w M) {i g T:Nat} {cs:List Value} (hi:M[i]? = some (.box g T cs)):w0.heap.size<=g/\g<w.heap.size:=Ent.lt (h.ok _ (List.mem_of_getElem? hi)) rfl
theorem Mem.ldb {w0 w:World} {M:List Ent} (h:Mem w0 w M) {i g T n:Nat} {cs:List Value} (hT:Q3k Tryz.prog T n) (hn:cs.length=n) (hi:M[i]? = some (.box g T cs)) (w1:World) (hb:Qe w w1):(loadVar T ⟨g,0,.none⟩).run Tryz.prog w1 = .ok (.agg cs.toArray) w1:=by
 have h1:=Z5a (base:=0) (h.cells hi) hn (Nat.zero_le _);exact Z5h hT h1 (i:=0) (cs:=cs) rfl (p:=0) (by omega) w1 hb
def Q6h (P:Program) (T:Nat):Bool :=
 match P.underlying T with
 | some (.struct _)=>false
 | some (.array _ _)=>false
 | some _=>true
 | _=>false
theorem Q78 {P:Program} {w:World} {T:Nat} {ad:Addr} {v:Value} (hT:Q6h P T=true) (h:w.cell? ad=some v):(loadVar T ad).run P w = .ok v w:=by
 unfold Q6h at hT
 cases hd:P.underlying T with
 | none=>rw [hd] at hT; cases hT
 | some d=>exact Gc hd (by rw [hd] at hT; cases d<;>first|rfl|cases hT) h
theorem Mem.ldc {w0 w:World} {M:List Ent} (h:Mem w0 w M) {i g T j T1:Nat} {cs:List Value} {v:Value} (hT:Q6h Tryz.prog T1=true) (hi:M[i]? = some (.box g T cs)) (hj:cs[j]? = some v) (w1:World) (hb:Qe w w1):(loadVar T1 ⟨g,j,.none⟩).run Tryz.prog w1 = .ok v w1:=by
 have h1:=h.cells hi;have h2:w1.heap[g]? = some (.cells cs.toArray T (0,0)):=(hb.block g (h.boxlt hi).2).trans h1;refine Q78 hT ?_;rw [cell_of_row w1 g j _ _ _ h2];simpa using hj
theorem Rd.cell {P:Program} {w w1:World} {B g off size k j T1:Nat} {css:List (List Value)} {cs:List Value} {v:Value} (h:Rd w B size (some ⟨g,off,none⟩) css) (hb:Below B w w1) (hT:Q6h P T1=true) (hk:css[k]? = some cs) (hj:cs[j]? = some v) {p:Nat} (hp:p=off+k*size+j):(loadVar T1 ⟨g,p,none⟩).run P w1 = .ok v w1:=by
 subst hp;obtain⟨b,off',e,hlt,_,hc⟩:=h k cs hk;simp only [Option.some.injEq,Addr.mk.injEq,and_true] at e;obtain⟨rfl,rfl⟩:=e;refine Q78 hT ?_;rw [Qdi (hb.block _ hlt)];exact hc j _ hj
theorem Rd.bound {w:World} {B size:Nat} {A:Option Addr} {css:List (List Value)} (h:Rd w B size A css) (hn:css ≠ []):∀ a,A=some a->a.block<B:=by
 intro a ha;obtain⟨cs,css',rfl⟩:=List.exists_cons_of_ne_nil hn;obtain⟨g,off,e,hlt,_,_⟩:=h 0 cs rfl;rw [ha] at e;injection e with e;subst e;exact hlt
theorem V3 {w0 w:World} {M:List Ent} {ops:Array Oper} {rest:List Oper} {o:Oper} {a:Act} {Q:Exit->Act->World->Prop} {t e size bytes c m cn:Nat} {A:Option Addr} {ad:Addr} {css news:List (List Value)} (hgd:o.guard=none) (s x:Operand)
 (ho:o.op = .call { callee := .builtin .append,args := #[s,x],argTypes := #[t,t] })
 (hE:EI Tryz.prog t e size bytes) (n:Nat) (hn:n=css.length) (hs:a.eval s = .slice A n c) (H:Mem w0 w M) (i:Nat) (hi:M[i]? = some (.row e size A c css)) (hx:a.eval x = .slice (some ad) m cn) (hr:Rd w w.heap.size size (some ad) news) (hm:m=news.length)
 (h1:∀ cs∈news,∀ u∈cs,u.oneCell'=true) (h63:css.length+m<=maxLen) (hbytes:(css.length+m)*bytes<=140737488355328)
 (h:∀ A' c' w',Mem w0 w' (M.set i (.row e size A' c' (css++news)))->wpList Tryz.prog ops Q rest (a.put o.dst (.slice A' (n+m) c')) w'):wpList Tryz.prog ops Q (o::rest) a w:=by
 refine Q8a hgd s x ho hE n hn hs (H.own hi) hx _ hr hm h1 h63 hbytes H.from_.size fun A' c' w' h2 h3 h4 h5=>h A' c' w' ?_;refine H.put i _ hi h3 h2 ?_;rcases h5 with h5|h5
 . exact .inl h5
 . exact .inr fun b hb=>by rw [show (Ent.row e size A' c' (css++news)).blk=A'.map (·.block) from rfl,h5] at hb; injection hb with hb; omega
theorem Qm {w0 w:World} {M:List Ent} {ops:Array Oper} {rest:List Oper} {o:Oper} {a:Act} {Q:Exit->Act->World->Prop} {T g n:Nat} {cs cs':List Value} {v:Value} (hgd:o.guard=none) (x y:Operand) (ho:o.op = .store T x y) (H:Mem w0 w M) (i:Nat) (hi:M[i]? = some (.box g T cs))
 (hx:a.eval x = .pointer (some ⟨g,0,.none⟩)) (hy:a.eval y=v) (hsz:(Tryz.prog.info? T).map (·.size)=some n) (hv:v.cells.toList=cs') (hl':cs'.length=n) (hl:cs.length=n) (h1:∀ u∈cs',u.oneCell'=true)
 (h:∀ w',Mem w0 w' (M.set i (.box g T cs'))->wpList Tryz.prog ops Q rest (a.put o.dst undef) w'):wpList Tryz.prog ops Q (o::rest) a w:=by
 refine Q37 (cs:=cs') hgd x y ho hx hy hsz hv hl' (H.cells hi) (by simp [hl]) h1 fun cur' w' hc hs hg' hgr=>h w' (H.put i (.box g T cs') hi hgr ⟨(H.boxlt hi).1,?_⟩ (.inl rfl));have:cur'=cs'.toArray:=by
  apply Array.ext';rw [hc];simp [hl]
 rw [<- this];exact hg'
theorem Mem.tail {w0 w:World} {e:Ent} {M:List Ent} (h:Mem w0 w (e::M)):Mem w0 w M:=h.sub (List.sublist_cons_self _ _)
theorem Qpf {P:Program} {w:World} {ops:Array Oper} {rest:List Oper} {a:Act} {Q:Exit->Act->World->Prop} (T:Nat) {ps:Array (Nat×Operand)} {d:Option Nat} {ty:TypeId} {pos:String} {aft:Array Edge} {gd:Option (Nat×Bool)}
 (h:wpList P ops Q (⟨d,.build T ps,ty,pos,aft,gd⟩::rest) a w):wpList P ops Q (⟨d,.build T ps,ty,pos,aft,gd⟩::rest) a w:=h
theorem Q6a {P:Program} {w:World} {ops:Array Oper} {rest:List Oper} {o:Oper} {a:Act} {Q:Exit->Act->World->Prop} (hgd:o.guard=none) (v:Value) (hr:(execOp a.eval o).run P w = .ok (.value v) w) (h:wpList P ops Q rest (a.put o.dst v) w):wpList P ops Q (o::rest) a w:=by
 refine wpList_plain hgd fun K hK => ?_;unfold Oper.wp;rw [hr];exact hK _ _ h
end Go.Proofs.YtffeegebohigdaaGreat
namespace Go.Proofs.YtffeegebohigdaaGreat
open Go.MapKept
inductive Kx where
 | i (k:IntKind) (n:Int)
 | f (p:Bool)
 | s (x:ByteArray)
deriving DecidableEq
def Kx.val:Kx->Value
 | .i k n => .int k n
 | .f p => .bool p
 | .s x => .string x
inductive Lk where
 | int (k:IntKind)|bool|str
deriving DecidableEq
def Lk.desc:Lk->TypeDesc
 | .int k => .int k
 | .bool => .bool
 | .str => .string
def Lk.fits:Lk->Kx->Bool
 | .int k,.i k' _=>decide (k=k')
 | .bool,.f _=>true
 | .str,.s _=>true
 | _,_=>false
def Zd:List Lk->List Kx->Bool
 | [],[]=>true
 | l::ls,x::xs=>l.fits x&&Zd ls xs
 | _,_=>false
inductive Kc where
 | one (l:Lk)
 | arr (n:Nat) (l:Lk)
 | st (ls:List Lk)
deriving DecidableEq
def Kc.ls:Kc->List Lk
 | .one l => [l]
 | .arr n l=>List.replicate n l
 | .st ls=>ls
def Kc.val (c:Kc) (l:List Kx):Value:=match c,l with
 | .one _,[x]=>x.val
 | _,l => .agg (l.map Kx.val).toArray
def Q3c (P:Program) (e:TypeId) (l:Lk):Bool:=match P.underlying e,l with
 | some (.int k),.int k'=>decide (k=k')
 | some .bool,.bool=>true
 | some .string,.str=>true
 | _,_=>false
def kfB (P:Program):Nat->List Field->List Lk->Bool
 | _,[],[]=>true
 | n, f :: fs, l :: ls => f.offset == n && f.name != "_" && Q3c P f.type l && kfB P (n + 1) fs ls
 | _,_,_=>false
def kcB (P:Program) (kt:TypeId):Kc->Bool
 | .one l=>Q3c P kt l
 | .arr n l=>match P.underlying kt with
  | some (.array n' e)=>n==n'&&Q3c P e l&&(match P.info? e with|some i=>i.size==1&&P.cellsOf e==1|none=>false)
  | _=>false
 | .st ls=>match P.underlying kt with
  | some (.struct fs)=>kfB P 0 fs.toList ls && !P.stoodInHeld kt
  | _=>false
section
variable {P:Program} {w:World}
theorem Qrg {kt:TypeId} {n:Nat} {l:Lk} (h:kcB P kt (.arr n l)=true):∃ e i,P.underlying kt=some (.array n e)/\Q3c P e l=true/\P.info? e=some i/\P.cellsOf e=1:=by
 simp only [kcB] at h;split at h
 . rename_i n' e hu;simp only [Bool.and_eq_true,beq_iff_eq] at h;obtain⟨⟨rfl,hl⟩,h⟩:=h;split at h
   . rename_i i hi;simp only [Bool.and_eq_true,beq_iff_eq] at h;exact⟨e,i,hu,hl,hi,h.2⟩
   . cases h
 . cases h
theorem Qx9 {kt:TypeId} {ls:List Lk} (h:kcB P kt (.st ls)=true):∃ fs,P.underlying kt=some (.struct fs)/\kfB P 0 fs.toList ls=true/\P.stoodInHeld kt=false:=by
 simp only [kcB] at h;split at h
 . rename_i fs hu;simp only [Bool.and_eq_true,Bool.not_eq_true'] at h;exact⟨fs,hu,h⟩
 . cases h
theorem Q5l {e:TypeId} {l:Lk} (h:Q3c P e l=true):P.underlying e=some l.desc:=by
 unfold Q3c at h;split at h<;>simp_all [Lk.desc]
theorem Q1i {e:TypeId} {l:Lk} (h:Q3c P e l=true):P.plainKey e=true:=by
 have:=Q5l h;unfold Program.plainKey;rw [this];cases l<;>rfl
theorem Qf1 {e:TypeId} {l:Lk} {x y:Kx} (h:Q3c P e l=true) (hx:l.fits x=true) (hy:l.fits y=true) (d:Nat):(Op.equalIn (d+1) e x.val y.val).run P w = .ok (decide (x=y)) w:=by
 have hd:=Q5l h;cases l<;>cases x<;>simp only [Lk.fits,Bool.false_eq_true,decide_eq_true_eq] at hx<;>cases y<;>simp only [Lk.fits,Bool.false_eq_true,decide_eq_true_eq] at hy
 . rename_i k _ m _ n;subst hx; subst hy;show (Op.equalIn (d+1) e (.int _ m) (.int _ n)).run P w=_
   rw [run_equalIn_int w d e _ _ m n hd];congr 1;rw [Bool.eq_iff_iff];simp
 . rename_i a b;show (Op.equalIn (d+1) e (.bool a) (.bool b)).run P w=_
   rw [run_equalIn_bool' w d e a b hd];congr 1;rw [Bool.eq_iff_iff];simp
 . rename_i a b;show (Op.equalIn (d+1) e (.string a) (.string b)).run P w=_
   rw [run_equalIn_string w d e a b hd];congr 1;rw [<- beq_toListBytes,Bool.eq_iff_iff,bytes_beq];simp
theorem Qbp {e:TypeId} {l:Lk} {x:Kx} (h:Q3c P e l=true) (hx:l.fits x=true) (em:Bool) (n:Nat):(Instr.checkKey em (n+1) e x.val).run P w = .ok () w:=by
 have hd:=Q5l h;cases l<;>cases x<;>simp only [Lk.fits,Bool.false_eq_true,decide_eq_true_eq] at hx<;>simp [Instr.checkKey,run_underlying hd,Lk.desc,Kx.val]
theorem Qmk {l:List Kx} {n:Nat} {x:Kx} (h:l[n]? = some x):(l.map Kx.val).toArray[n]? = some x.val:=by simp [h]
theorem Q0x {l:List Kx} {n:Nat} {x:Kx} {r:List Kx} (h:l.drop n=x::r):l[n]? = some x/\l.drop (n+1)=r:=by
 refine⟨?_,?_⟩
 . have:=congrArg (·[0]?) h;simpa using this
 . have:=congrArg (List.drop 1) h;simpa [List.drop_drop,Nat.add_comm] using this
theorem Zn {l:Lk} {ls:List Lk} {xs:List Kx} (h:Zd (l::ls) xs=true):∃ x r,xs=x::r/\l.fits x=true/\Zd ls r=true:=by
 cases xs with
 | nil=>simp [Zd] at h
 | cons x r =>
  simp only [Zd,Bool.and_eq_true] at h;exact⟨x,r,rfl,h⟩
theorem Zs {xs:List Kx} (h:Zd [] xs=true):xs = []:=by
 cases xs with
 | nil=>rfl
 | cons x r=>simp [Zd] at h
theorem Qo9 (d:Nat) (a b:List Kx):∀ (fs:List Field) (ls:List Lk) (n:Nat),kfB P n fs ls=true->Zd ls (a.drop n)=true->Zd ls (b.drop n)=true ->
 (Op.eqFields (d+1) (a.map Kx.val).toArray (b.map Kx.val).toArray fs).run P w = .ok (decide (a.drop n=b.drop n)) w
 | [],[],n,_,ha,hb=>by
  rw [Zs ha,Zs hb];simp [Op.eqFields]
 | f::fs,l::ls,n,h,ha,hb=>by
  simp only [kfB,Bool.and_eq_true,beq_iff_eq,bne_iff_ne,ne_eq] at h;obtain⟨⟨⟨h1,h2⟩,h3⟩,h4⟩:=h;obtain⟨x,r,ex,hx,hr⟩:=Zn ha;obtain⟨y,s,ey,hy,hs⟩:=Zn hb;obtain⟨gx,dx⟩:=Q0x ex;obtain⟨gy,dy⟩:=Q0x ey;have p1:(part f.type (a.map Kx.val).toArray f.offset).run P w = .ok x.val w:=run_part_plain w (Q1i h3) (Qmk (by rw [h1]; exact gx));have p2:(part f.type (b.map Kx.val).toArray f.offset).run P w = .ok y.val w:=run_part_plain w (Q1i h3) (Qmk (by rw [h1]; exact gy));have ih:=Qo9 d a b fs ls (n+1) h4 (by rw [dx]; exact hr) (by rw [dy]; exact hs);simp only [Op.eqFields,h2,ne_eq,not_false_eq_true,if_true,Sem.run_bind,p1,p2,Result.andThen_ok,Qf1 h3 hx hy d,ex,ey];rw [dx,dy] at ih;by_cases hxy:x=y
  . subst hxy;simp only [decide_true,Bool.not_true,Bool.false_eq_true,if_false,ih,List.cons.injEq,true_and]
  . simp [hxy]
 | [],_::_,_,h,_,_=>by simp [kfB] at h
 | _::_,[],_,h,_,_=>by simp [kfB] at h
theorem Qr1 (d:Nat) {e:TypeId} {l:Lk} (hl:Q3c P e l=true) (hc:P.cellsOf e=1) (a b:List Kx):∀ (m n:Nat),Zd (List.replicate m l) (a.drop n)=true->Zd (List.replicate m l) (b.drop n)=true ->
 (Op.eqItems (d+1) e (P.cellsOf e) (a.map Kx.val).toArray (b.map Kx.val).toArray (List.range' n m)).run P w = .ok (decide (a.drop n=b.drop n)) w
 | 0,n,ha,hb=>by
  rw [Zs ha,Zs hb];simp [Op.eqItems]
 | m+1,n,ha,hb=>by
  obtain⟨x,r,ex,hx,hr⟩:=Zn ha;obtain⟨y,s,ey,hy,hs⟩:=Zn hb;obtain⟨gx,dx⟩:=Q0x ex;obtain⟨gy,dy⟩:=Q0x ey;have p1:(part e (a.map Kx.val).toArray (n*P.cellsOf e)).run P w = .ok x.val w:=run_part_plain w (Q1i hl) (Qmk (by rw [hc,Nat.mul_one]; exact gx));have p2:(part e (b.map Kx.val).toArray (n*P.cellsOf e)).run P w = .ok y.val w:=run_part_plain w (Q1i hl) (Qmk (by rw [hc,Nat.mul_one]; exact gy));have ih:=Qr1 d hl hc a b m (n+1) (by rw [dx]; exact hr) (by rw [dy]; exact hs);rw [List.range'_succ];simp only [Op.eqItems,Sem.run_bind,p1,p2,Result.andThen_ok,Qf1 hl hx hy d,ex,ey];rw [dx,dy] at ih;by_cases hxy:x=y
  . subst hxy;simp only [decide_true,Bool.not_true,Bool.false_eq_true,if_false,ih,List.cons.injEq,true_and]
  . simp [hxy]
theorem Qdx (em:Bool) (d:Nat) (a:List Kx):∀ (fs:List Field) (ls:List Lk) (n:Nat),kfB P n fs ls=true->Zd ls (a.drop n)=true ->
 (forIn fs PUnit.unit fun f _ => (if f.name ≠ "_" then do
  let v <- part f.type (a.map Kx.val).toArray f.offset
  Instr.checkKey em (d+1) f.type v
  pure (ForInStep.yield PUnit.unit)
  else pure (ForInStep.yield PUnit.unit):Sem (ForInStep PUnit))).run P w = .ok PUnit.unit w
 | [],[],n,_,ha=>by simp
 | f::fs,l::ls,n,h,ha=>by
  simp only [kfB,Bool.and_eq_true,beq_iff_eq,bne_iff_ne,ne_eq] at h;obtain⟨⟨⟨h1,h2⟩,h3⟩,h4⟩:=h;obtain⟨x,r,ex,hx,hr⟩:=Zn ha;obtain⟨gx,dx⟩:=Q0x ex;have p1:(part f.type (a.map Kx.val).toArray f.offset).run P w = .ok x.val w:=run_part_plain w (Q1i h3) (Qmk (by rw [h1]; exact gx));have ih:=Qdx em d a fs ls (n+1) h4 (by rw [dx]; exact hr);simp only [List.forIn_cons,h2,ne_eq,not_false_eq_true,if_true,Sem.run_bind,p1,Result.andThen_ok,Qbp h3 hx em d,Sem.run_pure];exact ih
 | [],_::_,_,h,_=>by simp [kfB] at h
 | _::_,[],_,h,_=>by simp [kfB] at h
theorem Q80 {kt:TypeId} {c:Kc} {a:List Kx} (h:kcB P kt c=true) (ha:Zd c.ls a=true) (em:Bool):(Instr.checkKey em 10000 kt (c.val a)).run P w = .ok () w:=by
 cases c with
 | one l =>
  obtain⟨x,r,rfl,hx,hr⟩:=Zn ha;cases Zs hr;exact Qbp h hx em 9999
 | arr n l =>
  obtain⟨e,i,hu,hl,hi,hc⟩:=Qrg h;show (Instr.checkKey em (9999+1) kt (.agg (a.map Kx.val).toArray)).run P w = .ok () w
  rw [Instr.checkKey];simp only [Sem.run_bind,run_underlying hu,Result.andThen_ok];simp only [Std.Legacy.Range.forIn_eq_forIn_range',Std.Legacy.Range.size,Nat.sub_zero,Nat.add_one_sub_one,Nat.div_one];have H:∀ (m k:Nat),Zd (List.replicate m l) (a.drop k)=true->(forIn (List.range' k m) PUnit.unit fun j _=>(do
   let sz <- sizeOf e
   let v <- part e (a.map Kx.val).toArray (j*sz)
   Instr.checkKey em 9999 e v
   pure (ForInStep.yield PUnit.unit):Sem (ForInStep PUnit))).run P w = .ok PUnit.unit w:=by
   intro m
   induction m with
   | zero=>intro k _; simp
   | succ m ih =>
    intro k hk;obtain⟨x,r,ex,hx,hr⟩:=Zn hk;obtain⟨gx,dx⟩:=Q0x ex;have p1:(part e (a.map Kx.val).toArray (k*P.cellsOf e)).run P w = .ok x.val w:=run_part_plain w (Q1i hl) (Qmk (by rw [hc,Nat.mul_one]; exact gx));rw [List.range'_succ];simp only [List.forIn_cons,Sem.run_bind,run_sizeOf w hi,Result.andThen_ok,p1,Qbp hl hx em 9998,Sem.run_pure];exact ih (k+1) (by rw [dx]; exact hr)
  rw [H n 0 (by simpa [Kc.ls] using ha)];rfl
 | st ls =>
  obtain⟨fs,hu,hf,hst⟩:=Qx9 h;show (Instr.checkKey em (9999+1) kt (.agg (a.map Kx.val).toArray)).run P w = .ok () w
  rw [Instr.checkKey];simp only [Sem.run_bind,run_underlying hu,Result.andThen_ok];rw [<- Array.forIn_toList];rw [Qdx em 9998 a fs.toList ls 0 hf (by simpa [Kc.ls] using ha)];rfl
theorem Z0r {kt:TypeId} {c:Kc} {a b:List Kx} (h:kcB P kt c=true) (ha:Zd c.ls a=true) (hb:Zd c.ls b=true):(Op.equal kt (c.val a) (c.val b)).run P w = .ok (decide (a=b)) w:=by
 cases c with
 | one l =>
  obtain⟨x,r,rfl,hx,hr⟩:=Zn ha;cases Zs hr;obtain⟨y,s,rfl,hy,hs⟩:=Zn hb;cases Zs hs;refine (Qf1 h hx hy 9999).trans ?_;simp
 | arr n l =>
  obtain⟨e,i,hu,hl,hi,hc⟩:=Qrg h;refine (run_equalIn_array w 9999 _ _ hu hi).trans ?_;rw [List.range_eq_range'];exact Qr1 9998 hl hc a b n 0 (by simpa [Kc.ls] using ha) (by simpa [Kc.ls] using hb)
 | st ls =>
  obtain⟨fs,hu,hf,hst⟩:=Qx9 h;have hfs:P.fieldsOf kt=fs:=by simp [Program.fieldsOf,hu]
  refine (run_equalIn_struct w 9999 kt _ _ (by rw [hfs]; exact hu) hst).trans ?_;rw [hfs];exact Qo9 9998 a b fs.toList ls 0 hf (by simpa [Kc.ls] using ha) (by simpa [Kc.ls] using hb)
theorem Qt4 {x y:Kx} (h:x.val=y.val):x=y:=by cases x<;>cases y<;>simp_all [Kx.val]
theorem Qlg {c:Kc} {a b:List Kx} (ha:Zd c.ls a=true) (hb:Zd c.ls b=true) (h:c.val a=c.val b):a=b:=by
 have hm:∀ {a b:List Kx},a.map Kx.val=b.map Kx.val->a=b:=by
  intro a
  induction a with
  | nil=>intro b h; cases b with
   | nil=>rfl
   | cons y b=>simp at h
  | cons x a ih =>
   intro b h
   cases b with
   | nil=>simp at h
   | cons y b =>
    simp only [List.map_cons,List.cons.injEq] at h;rw [Qt4 h.1,ih h.2]
 cases c with
 | one l =>
  obtain⟨x,r,rfl,hx,hr⟩:=Zn ha;cases Zs hr;obtain⟨y,s,rfl,hy,hs⟩:=Zn hb;cases Zs hs;rw [Qt4 h]
 | arr n l =>
  simp only [Kc.val,Value.agg.injEq] at h;exact hm (List.toArray_inj h)
 | st ls =>
  simp only [Kc.val,Value.agg.injEq] at h;exact hm (List.toArray_inj h)
theorem Qnf (x:Kx) (n:Nat):Instr.sameBits n x.val x.val=true:=by
 have hb:∀ y:ByteArray,(y==y)=true:=fun y=>(bytes_beq y y).2 rfl;cases x<;>cases n<;>simp [Kx.val,Instr.sameBits,hb]
theorem Qp1 {c:Kc} {a:List Kx} (ha:Zd c.ls a=true):(Instr.keyThatStays (c.val a) (c.val a)).run P w = .ok (c.val a) w:=by
 have hb:Instr.sameBits (9999+1) (c.val a) (c.val a)=true:=by
  have hg:Instr.sameBits (9999+1) (.agg (a.map Kx.val).toArray) (.agg (a.map Kx.val).toArray)=true:=by
   simp only [Instr.sameBits,BEq.rfl,Bool.true_and,List.all_eq_true];intro p hp;obtain⟨i,hi⟩:=List.getElem?_of_mem hp;simp only [List.getElem?_zip_eq_some] at hi;obtain⟨h1,h2⟩:=hi;rw [h1] at h2;injection h2 with h2;have hm:=List.mem_of_getElem? h1;simp only [List.mem_map] at hm;obtain⟨x,_,hx⟩:=hm;obtain⟨p1,p2⟩:=p;simp only at h2 hx ⊢;subst h2; subst hx;exact Qnf x 9999
  cases c with
  | one l =>
   obtain⟨x,r,rfl,hx,hr⟩:=Zn ha;cases Zs hr;exact Qnf x _
  | arr n l=>exact hg
  | st ls=>exact hg
 unfold Instr.keyThatStays;rw [if_pos hb];rfl
def Yq (c:Kc) (v:Value) (a:List Kx):Prop:=v=c.val a/\Zd c.ls a=true
theorem Z32 {kt:TypeId} {c:Kc} {a:List Kx} (h:kcB P kt c=true) (ha:Zd c.ls a=true) (es:List MapEntry) (hes:∀ e∈es,∃ b,Yq c e.key b) :
 ((Instr.findKey kt (c.val a) es).run P w = .ok none w/\∀ e∈es,¬ Yq c e.key a) \/
 ∃ j e,(Instr.findKey kt (c.val a) es).run P w = .ok (some (j,e.val)) w/\es[j]? = some e/\Yq c e.key a:=by
 have ask:∀ (es:List MapEntry) (i:Nat),(∀ e∈es,∃ b,Yq c e.key b)->((Instr.findAsking kt (c.val a) es i).run P w = .ok none w/\∀ e∈es,¬ Yq c e.key a) \/
  ∃ j e,(Instr.findAsking kt (c.val a) es i).run P w = .ok (some (i+j,e.val)) w/\es[j]? = some e/\Yq c e.key a:=by
  intro es
  induction es with
  | nil=>intro i _; exact .inl ⟨by simp [Instr.findAsking],by simp⟩
  | cons e es ih =>
   intro i hes;obtain⟨b,hb,hfb⟩:=hes e (by simp);have hr:=Z0r (w:=w) h ha hfb;by_cases hab:a=b
   . subst hab;refine .inr ⟨0,e,?_,rfl,hb,hfb⟩;simp only [Instr.findAsking,Sem.run_bind,hb,hr,Result.andThen_ok,decide_true,if_true,Sem.run_pure,Nat.add_zero]
   . have hne:¬ Yq c e.key a:=fun h2=>hab (Qlg ha hfb (h2.1.symm.trans hb));have hdec:decide (a=b)=false:=by simp [hab]
     rcases ih (i+1) (fun y hy=>hes y (by simp [hy])) with ⟨h1,h2⟩|⟨j,e',h1,h2,h3⟩
     . refine .inl ⟨?_,fun y hy => ?_⟩
       . simp only [Instr.findAsking,Sem.run_bind,hb,hr,Result.andThen_ok,hdec,Bool.false_eq_true,if_false,h1]
       . rcases List.mem_cons.1 hy with rfl|hy
         . exact hne
         . exact h2 y hy
     . refine .inr ⟨j+1,e',?_,by simpa using h2,h3⟩;simp only [Instr.findAsking,Sem.run_bind,hb,hr,Result.andThen_ok,hdec,Bool.false_eq_true,if_false,h1];rw [Nat.add_assoc,Nat.add_comm 1 j]
 have hu:∃ d,P.underlying kt=some d:=by
  cases c with
  | one l=>exact⟨_,Q5l h⟩
  | arr n l=>obtain⟨e,i,hu,_⟩:=Qrg h; exact⟨_,hu⟩
  | st ls=>obtain⟨fs,hu,_⟩:=Qx9 h; exact⟨_,hu⟩
 obtain⟨d,hd⟩:=hu;have hs:∀ b,Zd c.ls b=true->Instr.sameNow d (c.val a) (c.val b)=none\/Instr.sameNow d (c.val a) (c.val b)=some (decide (a=b)):=by
  intro b hb
  cases c with
  | one l =>
   obtain⟨x,r,rfl,hx,hr⟩:=Zn ha;cases Zs hr;obtain⟨y,s,rfl,hy,hs⟩:=Zn hb;cases Zs hs;right;have:=Q5l (P:=P) (e:=kt) (l:=l) h;rw [hd] at this;cases this;cases l<;>cases x<;>simp only [Lk.fits,Bool.false_eq_true,decide_eq_true_eq] at hx<;>cases y<;>simp only [Lk.fits,Bool.false_eq_true,decide_eq_true_eq] at hy
   . subst hx; subst hy;simp only [Lk.desc,Kc.val,Kx.val,Instr.sameNow,if_true,Option.some.injEq];rw [Bool.eq_iff_iff];simp
   . simp only [Lk.desc,Kc.val,Kx.val,Instr.sameNow,Option.some.injEq];rw [Bool.eq_iff_iff];simp
   . simp only [Lk.desc,Kc.val,Kx.val,Instr.sameNow,Option.some.injEq];rw [Bool.eq_iff_iff,bytes_beq];simp
  | arr n l=>left; simp only [Kc.val]; unfold Instr.sameNow; split<;>simp_all
  | st ls=>left; simp only [Kc.val]; unfold Instr.sameNow; split<;>simp_all
 have now:∀ (es:List MapEntry) (i:Nat),(∀ e∈es,∃ b,Yq c e.key b)->Instr.findNow d (c.val a) es i=none\/(Instr.findNow d (c.val a) es i=some none/\∀ e∈es,¬ Yq c e.key a) \/
  ∃ j e,Instr.findNow d (c.val a) es i=some (some (i+j,e.val))/\es[j]? = some e/\Yq c e.key a:=by
  intro es
  induction es with
  | nil=>intro i _; exact .inr (.inl ⟨rfl,by simp⟩)
  | cons e es ih =>
   intro i hes;obtain⟨b,hb,hfb⟩:=hes e (by simp);rcases hs b hfb with h1|h1
   . left;simp only [Instr.findNow,hb,h1]
   . by_cases hab:a=b
     . subst hab;refine .inr (.inr ⟨0,e,?_,rfl,hb,hfb⟩);simp only [Instr.findNow,hb,h1,decide_true,Nat.add_zero]
     . have hne:¬ Yq c e.key a:=fun h2=>hab (Qlg ha hfb (h2.1.symm.trans hb));have hdec:decide (a=b)=false:=by simp [hab]
       rw [hdec] at h1;rcases ih (i+1) (fun y hy=>hes y (by simp [hy])) with h2|⟨h2,h3⟩|⟨j,e',h2,h3,h4⟩
       . left;simp only [Instr.findNow,hb,h1,h2]
       . refine .inr (.inl ⟨?_,fun y hy => ?_⟩)
         . simp only [Instr.findNow,hb,h1,h2]
         . rcases List.mem_cons.1 hy with rfl|hy
           . exact hne
           . exact h3 y hy
       . refine .inr (.inr ⟨j+1,e',?_,by simpa using h3,h4⟩);simp only [Instr.findNow,hb,h1,h2];rw [Nat.add_assoc,Nat.add_comm 1 j]
 unfold Instr.findKey;simp only [Sem.run_bind,run_underlying hd,Result.andThen_ok];rcases now es 0 hes with h1|⟨h1,h2⟩|⟨j,e,h1,h2,h3⟩
 . rw [h1];rcases ask es 0 hes with h2|⟨j,e,h2,h3,h4⟩
   . exact .inl h2
   . exact .inr ⟨j,e,by rw [Nat.zero_add] at h2; exact h2,h3,h4⟩
 . rw [h1];exact .inl ⟨rfl,h2⟩
 . rw [h1];exact .inr ⟨j,e,by rw [Nat.zero_add]; rfl,h2,h3⟩
end
end Go.Proofs.YtffeegebohigdaaGreat
