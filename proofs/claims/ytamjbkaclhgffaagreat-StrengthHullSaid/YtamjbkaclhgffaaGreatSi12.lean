/-
  Regions that draw their order: what only reckons from slots may be done as soon as it is ready.
-/
import Derived.Test.YtamjbkaclhgffaaGreatSi11
set_option linter.all false
namespace Go.Proofs.YtamjbkaclhgffaaGreat
open Go.RowKit
variable{a a0:Act}{K:Act->World->Prop}{L L' listed:Array Bool}{op:BinOp}{Q:Exit->Act->World->Prop}{done ef σ:List Nat}{l ops:List Oper}{vcs:List VC}{d i j n np s:Nat}{ku:Nat->Bool}{o oi oj:Oper}{r:Option Nat}{ti:Option TI}{w w0:World}
theorem Rb(h:wC l i=true)(hi:l[i]? = some oi)(hj:l[j]? = some oj)(aT:j≠i):(∃ e∈oi.after,Region.binds .any e=true/\e.on=j)\/(∃ e∈oj.after,Region.binds .any e=true/\e.on=i)\/oi.apart l.toArray oj=true:=by
 unfold wC at h;rw [hi] at h;have ah:=(cF.1 hj).1;have h1:=dL.1 h j (gA.2 ah);rw [hj] at h1;simp only [gR,cb] at h1;have rX:∀ {es:Array Edge} {k:Nat},(es.any fun e=>Region.binds .any e&&e.on==k)=true->∃ e∈es,Region.binds .any e=true/\e.on=k:=by
  intro es k h;rw [IJ] at h;obtain⟨e,he,h2⟩:=h;simp only [ax,cb] at h2;exact⟨e,he,h2⟩
 rcases h1 with ((h1|h1)|h1)|h1
 . exact absurd h1.symm aT
 . exact .inl (rX h1)
 . exact .inr (.inl (rX h1))
 . exact .inr (.inr h1)
theorem anc{P:Program}(ku:Nat->Bool)(Rc:∀ i o,ku i=true->l[i]? = some o->qD o.op=true)(gv:∀ (j:Nat) (o) cs b,l.toArray[j]? = some o->o.op ≠ .select cs b)(hQ:∀ c a w,¬ Q (.panic c) a w)(jx:∀ i,ku i=true->wC l i=true)(Inv:Array Bool->Act->World->Prop)(gG:∀ listed a w,Inv listed a w->Region.ready .any l.toArray listed = []->Q .normal a w)(pU:∀ listed a w i o,Inv listed a w->i∈Region.ready .any l.toArray listed->ku i=true->l[i]? = some o->∃ v,Yields P l.toArray o v a/\Inv (listed.setIfInBounds i true) (a.put o.dst v) w)(yM:∀ listed a w i,Inv listed a w->i∈Region.ready .any l.toArray listed->(∀ j∈Region.ready .any l.toArray listed,ku j=false)->wpOpIn Fence.wide 0 P l.toArray Q i (Inv (listed.setIfInBounds i true)) a w) :
 ∀ (fuel) (listed) (a) (w),listed.toList.count false<=fuel->Inv listed a w->wpAnyIn Fence.wide 0 P .any l.toArray Q fuel listed a w:=by
 have Re:∀ (listed:Array Bool) (i:Nat),i∈Region.ready .any l.toArray listed->(listed.setIfInBounds i true).toList.count false+1=listed.toList.count false:=by
  intro listed i hi;obtain⟨h1,_⟩:=mem_ready.1 hi;obtain⟨_,ah⟩:=Ow h1;have h2:listed.toList[i]'Ch=false:=by
   rw [pn,po ah] at h1;simpa using h1
  rw [azf];have h3:=List.count_set (l:=listed.toList) (i:=i) (a:=true) (b:=false) Ch;have h4:0<listed.toList.count false:=List.count_pos_iff.2 (h2▸iT _);have e1:((listed.toList[i]'(by simpa using ah))==false)=true:=by rw [h2]; rfl
  have e2:(true==false)=false:=rfl;rw [h3];simp only [e1,e2,eO,dV,dw];omega
 intro fuel
 induction fuel with
 | zero =>
  intro listed a w hc h;have hr:Region.ready .any l.toArray listed = []:=by
   rw [BS];intro i hi;have:=Re listed i hi;omega
  exact⟨hr,gG listed a w h hr⟩
 | succ fuel ih =>
  intro listed a w hc h;by_cases hex:∃ i,i∈Region.ready .any l.toArray listed/\ku i=true
  . obtain⟨i,hi,oX⟩:=hex;obtain⟨qM,o,ho,mA⟩:=mem_ready.1 hi;have ho':l[i]? = some o:=by simpa using ho
    obtain⟨v,hy,h2⟩:=pU listed a w i o h hi oX ho';refine wpAnyIn_first rfl ho gv (fun c a w hq=>(hQ c _ w hq).elim) fuel listed a w (fun j oj dW aT eZ jq => ?_) hi ⟨hy,fun w=>Qm (Rc i o oX ho') _ w⟩ (ih _ _ _ (by have:=Re listed i hi; omega) h2);rcases Rb (jx i oX) ho' FW aT with ⟨e,he,hb,uV⟩|⟨e,he,hb,uV⟩|h3
    . have h4:=mA e he hb;exact Rf
    . exact absurd uV (jq e he hb)
    . exact h3
  . refine⟨fun hr=>gG listed a w h hr,fun i hi => ?_⟩;have bS:∀ j∈Region.ready .any l.toArray listed,ku j=false:=fun j hj=>by
     cases hq:ku j with
     | false=>rfl
     | true=>exact (hex ⟨j,hj,hq⟩).elim
    exact wpOpIn_mono (fun a' w' h'=>ih _ _ _ (by have:=Re listed i hi; omega) h') (yM listed a w i h hi bS)
theorem ane(h:j ∉ σ):gV σ j = σ.length:=by
 induction σ with
 | nil=>rfl
 | cons k l ih =>
  unfold gV;rw [aw (by rintro rfl; exact h (by simp)),ih fun hm=>h (by simp [hm])];rfl
section
variable{P:Program}{Q:Exit->Act->World->Prop}{l:List Oper}{σ:List Nat}
theorem AF(h:fe σ l.length=true) : σ.length=l.length:=by
 simp only [fe,ax,cb] at h;exact h.1.1
theorem FX(h:fe σ l.length=true)(hj:j<l.length) : σ[gV σ j]? = some j:=by
 simp only [fe,ax,cb] at h;have:=dL.1 h.1.2 j (gA.2 hj);simpa using this
theorem aau(h:fe σ l.length=true){k:Nat}(hk : σ[k]? = some i):i<l.length/\gV σ i=k:=by
 have ah:=(cF.1 hk).1;rw [AF h] at ah;simp only [fe,ax,cb] at h;have:=dL.1 h.2 k (gA.2 ah);rw [hk] at this;simpa using this
theorem aav(h:fe σ l.length=true)(hj:l.length<=j):gV σ j=l.length:=by
 rw [ane,AF h];intro hm;obtain⟨k,hk⟩:=kT.1 hm;have:=(aau h hk).1;omega
theorem Rg(h:fe σ l.length=true)(j):(cf σ l)[gV σ j]? = l[j]?.map (oS σ):=by
 rcases b9 j l.length with hj|hj
 . unfold cf;rw [ga,FX h hj,bc hj];simp [hj]
 . rw [aav h hj,sQ hj,sQ (by unfold cf; simp [AF h])];rfl
def uW(σ:List Nat)(n:Nat)(listed aaw:Array Bool):Prop:=listed.size=n/\aaw.size=n/\∀ j,j<n->aaw[gV σ j]? = listed[j]?
theorem uW.getD(h:fe σ l.length=true)(hs:uW σ l.length L L')(j)(d):L'.getD (gV σ j) d=L.getD j d:=by
 rw [pn,pn];rcases b9 j l.length with hj|hj
 . rw [hs.2.2 j hj]
 . rw [aav h hj,Ef (by rw [hs.2.1]; exact aA _),Ef (by rw [hs.1]; exact hj)]
theorem uW.set(h:fe σ l.length=true)(hs:uW σ l.length L L')(hi:i<l.length):uW σ l.length (L.setIfInBounds i true) (L'.setIfInBounds (gV σ i) true):=by
 refine⟨by simp [hs.1],by simp [hs.2.1],fun j hj => ?_⟩;rw [IA,IA,hs.2.2 j hj];have hp:=(cF.1 (FX h hi)).1;rw [AF h] at hp;by_cases e:i=j
 . subst e;rw [aC rfl,aC rfl,aC (by rw [hs.2.1]; exact hp),aC (by rw [hs.1]; exact hi)]
 . rw [aw e,aw];intro e2;have h1:=FX h hi;have h2:=FX h hj;rw [e2,h2] at h1;injection h1 with h1;exact e h1.symm
theorem Rh(h:fe σ l.length=true)(hs:uW σ l.length L L')(i):gV σ i∈Region.ready .any (cf σ l).toArray L'↔i∈Region.ready .any l.toArray L:=by
 rw [mem_ready,mem_ready,hs.getD h];have hg:(cf σ l).toArray[gV σ i]? = (l.toArray[i]?).map (oS σ):=by simpa using Rg h i
 constructor
 . rintro⟨h1,o',ho',h2⟩
   rw [hg] at ho'
   cases ho:l.toArray[i]? with
   | none=>rw [ho] at ho'; cases ho'
   | some o =>
    rw [ho] at ho';simp only [du,bF] at ho';subst ho';refine⟨h1,o,rfl,fun e he hb => ?_⟩;have h3:=h2 (Kh σ e) (Array.mem_map.2 ⟨e,he,rfl⟩) hb;rwa [show (Kh σ e).on=gV σ e.on from rfl,hs.getD h] at h3
 . rintro⟨h1,o,ho,h2⟩
   refine⟨h1,oS σ o,by rw [hg,ho]; rfl,fun e' mw hb => ?_⟩;obtain⟨e,he,rfl⟩:=Array.mem_map.1 mw;have h3:=h2 e he hb;rw [show (Kh σ e).on=gV σ e.on from rfl,hs.getD h];exact h3
theorem anf(h:fe σ l.length=true)(o)(t):Region.wanted (oS σ o) (yielded (cf σ l).toArray t)=Region.wanted o (yielded l.toArray t):=by
 unfold Region.wanted oS
 cases hg:o.guard with
 | none=>rfl
 | some gb =>
  obtain⟨g,b⟩:=gb;have hy:yielded (cf σ l).toArray t (gV σ g)=yielded l.toArray t g:=by
   unfold yielded;have FY:(cf σ l).toArray[gV σ g]? = (l.toArray[g]?).map (oS σ):=by simpa using Rg h g
   rw [FY];cases l.toArray[g]? <;> rfl
  simp only [hy]
theorem ang(h:fe σ l.length=true)(hw:wpOpIn Fence.wide 0 P (cf σ l).toArray Q (gV σ i) K a w):wpOpIn Fence.wide 0 P l.toArray Q i K a w:=by
 unfold wpOpIn at hw ⊢;have hg:(cf σ l).toArray[gV σ i]? = (l.toArray[i]?).map (oS σ):=by simpa using Rg h i
 rw [hg] at hw
 cases ho:l.toArray[i]? with
 | none=>rw [ho] at hw; exact hw
 | some o =>
  rw [ho] at hw;simp only [du,anf h] at hw;exact hw
theorem anh(h:fe σ l.length=true):∀ (fuel) (L L') (a) (w),uW σ l.length L L'->wpAnyIn Fence.wide 0 P .any (cf σ l).toArray Q fuel L' a w->wpAnyIn Fence.wide 0 P .any l.toArray Q fuel L a w:=by
 have fw:∀ {L L':Array Bool},uW σ l.length L L'->Region.ready .any l.toArray L = []->Region.ready .any (cf σ l).toArray L' = []:=by
  intro L L' hs hr;rw [BS];intro k hk;obtain⟨_,o,ho,_⟩:=mem_ready.1 hk;have ah:k < σ.length:=by
   have:=(jA.1 ho).1;simpa [cf] using this
  obtain⟨_,hp⟩:=aau h (bc ah);rw [<- hp] at hk;have:=(Rh h hs _).1 hk;rw [hr] at this;cases this
 have tp:∀ {L L':Array Bool},uW σ l.length L L'->Region.ready .any (cf σ l).toArray L' = []->Region.ready .any l.toArray L = []:=by
  intro L L' hs hr;rw [BS];intro i hi;have:=(Rh h hs i).2 hi;rw [hr] at this;cases this
 intro fuel
 induction fuel with
 | zero=>intro L L' a w hs hw; exact⟨tp hs hw.1,hw.2⟩
 | succ fuel ih =>
  intro L L' a w hs hw;refine⟨fun hr=>hw.1 (fw hs hr),fun i hi => ?_⟩;obtain⟨_,o,ho,_⟩:=mem_ready.1 hi;have ah:i<l.length:=by simpa using (jA.1 ho).1
  exact ang h (wpOpIn_mono (fun a' w' h'=>ih _ _ a' w' (hs.set h ah) h') (hw.2 (gV σ i) ((Rh h hs i).2 hi)))
theorem ani(pV:∀ o∈l,∀ c,o.op ≠ .defer c)(h:fe σ l.length=true)(hm:P.follows .mixedOrders=true){id:Nat}(hw:wpAnyIn Fence.wide 0 P .any (cf σ l).toArray Q l.length (Array.replicate l.length false) a { w with drawn:=w.drawn+1 }):(Code.region id l.toArray true).wpIn (wd r) 0 P Q a w:=by
 refine wpIn_region_any hm (KA (fun j o c ho=>pV o (eY (by simpa using ho)) c) _ _ _ _ ?_);have hs:uW σ l.length (Array.replicate l.length false) (Array.replicate l.length false):=by
  refine⟨by simp,by simp,fun j hj => ?_⟩;have hp:=(cF.1 (FX h hj)).1;rw [AF h] at hp;rw [Wx,Wx,aC hp,aC hj]
 have:=anh (P:=P) (Q:=Q) h l.length _ _ a _ hs hw;simpa using this
end
theorem Ri(h:Aj l np ku=true)(ho:l[j]? = some o):∀ e∈o.after,Region.binds .any e=true->e.on<j:=by
 intro e he hb;have hj:=(cF.1 ho).1;unfold Aj at h;have h1:=dL.1 h j (gA.2 hj);rw [ho] at h1;simp only [ax] at h1;have h2:=(ai2.1 h1.1) e he;simpa [hb] using h2
theorem anj(h:Aj l np ku=true)(ho:l[j]? = some o)(hn:np<=j):∀ i,i<np->ku i=true\/waits .any l.toArray l.length j i=true:=by
 intro i hi;have hj:=(cF.1 ho).1;unfold Aj at h;have h1:=dL.1 h j (gA.2 hj);rw [ho] at h1;simp only [ax,gR,aL] at h1;rcases h1.2 with h2|h2
 . omega
 . have h3:=dL.1 h2 i (gA.2 hi);simpa using h3
theorem aax{P:Program}{ops:Array Oper}(h:wpAnyIn Fence.wide 0 P .any ops Q n listed a w)(hr:Region.ready .any ops listed = []):Q .normal a w:=by
 cases n with
 | zero=>exact h.2
 | succ n=>exact h.1 hr
theorem ank{P:Program}{ops:Array Oper}(h:wpAnyIn Fence.wide 0 P .any ops Q n listed a w)(hr:i∈Region.ready .any ops listed):wpOpIn Fence.wide 0 P ops Q i (fun a w=>∃ n,wpAnyIn Fence.wide 0 P .any ops Q n (listed.setIfInBounds i true) a w) a w:=by
 cases n with
 | zero=>rw [h.1] at hr; cases hr
 | succ n=>exact wpOpIn_mono (fun a w h=>⟨n,h⟩) (h.2 i hr)
theorem anl{P:Program}(np)(ku)(R)(hO:Aj l np ku=true)(KN:np<=l.length)(hd:zI l np a0.tmps.size=true)(C9:∀ i,ku i=true->i<np)(Rc:∀ i o,ku i=true->l[i]? = some o->qD o.op=true)(gv:∀ (j:Nat) (o) cs b,l.toArray[j]? = some o->o.op ≠ .select cs b)(hQ:∀ c a w,¬ Q (.panic c) a w)(jx:∀ i,ku i=true->wC l i=true)(hR:∀ i v lo hi w w',R i v lo hi w->hi<=w.heap.size->cW w w'->R i v lo hi w')(anm:∀ i o,i<np->ku i=true->l[i]? = some o->∀ (L) (a) (w) (val) (lo hi),Made w0 a0 l np R L a w val lo hi->(∀ e∈o.after,Region.binds .any e=true->L e.on=true)->L i=false->(∀ j oj,L j=true->l[j]? = some oj->∀ e∈oj.after,Region.binds .any e=true->L e.on=true) ->
  ∃ v,Yields P l.toArray o v a/\R i v w.heap.size w.heap.size w)(yM:∀ i o,i<np->l[i]? = some o->∀ (L) (a) (w) (val) (lo hi),Made w0 a0 l np R L a w val lo hi->(∀ e∈o.after,Region.binds .any e=true->L e.on=true)->L i=false->(∀ j oj,L j=true->l[j]? = some oj->∀ e∈oj.after,Region.binds .any e=true->L e.on=true) ->
  wpOpIn Fence.wide 0 P l.toArray Q i (fun a' w'=>∃ v,a'=a.put o.dst v/\cW w w'/\R i v w.heap.size w'.heap.size w') a w)(hK:∀ (val) (lo hi:Nat->Nat) (w),cW w0 w->(∀ i,i<np->w0.heap.size<=lo i/\lo i<=hi i/\hi i<=w.heap.size/\R i (val i) (lo i) (hi i) w)->(∀ i j,i<np->j<np->i≠j->hi i<=lo j\/hi j<=lo i)->∀ listed,listed.size=l.length->(∀ j,LL listed j=decide (j<np))->∃ n,wpAnyIn Fence.wide 0 P .any l.toArray Q n listed (oE val 0 (l.take np) a0) w) :
 wpAnyIn Fence.wide 0 P .any l.toArray Q l.length (Array.replicate l.length false) a0 w0.drew:=by
 refine anc ku Rc gv hQ jx (fun listed a w=>listed.size=l.length/\qp .any l.toArray listed/\((∃ val lo hi,Made w0 a0 l np R (LL listed) a w val lo hi/\∀ j,np<=j->LL listed j=false)\/((∀ j,j<np->LL listed j=true)/\∃ n,wpAnyIn Fence.wide 0 P .any l.toArray Q n listed a w))) ?_ ?_ ?_ _ _ _ _ ?_ ?_
 . rintro listed a w ⟨aO,cz,H⟩ hr
   have bS:∀ j,j<l.length->LL listed j=true:=by
    intro j
    induction j using Nat.strongRecOn with
    | ind j ih =>
     intro hj
     cases hq:LL listed j with
     | true=>rfl
     | false =>
      exfalso;have gW:j∈Region.ready .any l.toArray listed:=by
       rw [mem_ready];refine⟨?_,l[j],by simp [hj],fun e he hb => ?_⟩
       . exact aay
       . have h1:=Ri hO (bc hj) e he hb;exact ih e.on h1 oo
      rw [hr] at gW;cases gW
   rcases H with ⟨val,lo,hi,M,uX⟩|⟨_,n,hw⟩
   . have oN:np=l.length:=by
      rcases b9 np l.length with h|h
      . have h1:=bS np h;rw [uX np (aA _)] at h1;cases h1
      . omega
     have Rj:=M.act (fun i hi=>bS i oo) hd;obtain⟨n,h1⟩:=hK val lo hi w M.zH (fun i hi=>M.rows i hi (bS i oo)) (fun i j hi hj iu=>M.apart i j hi hj (bS i oo) (bS j oo) iu) listed aO fun j=>by
      rcases b9 j np with h|h
      . rw [bS j oo]; simp [h]
      . rw [uX j h]; simp [Nat.not_lt.2 h]
     rw [<- Rj] at h1;exact aax h1 hr
   . exact aax hw hr
 . rintro listed a w i o ⟨aO,cz,H⟩ hr oX ho'
   obtain⟨qM,o2,ho,mA⟩:=mem_ready.1 hr;have Rk:o2=o:=by
    have:l.toArray[i]? = some o:=by simpa using ho'
    rw [this] at ho;injection ho with ho;exact ho.symm
   subst Rk;obtain⟨hn,ah⟩:=Ow qM;have hL:=Ck (listed:=listed) (i:=i) ah;have hinp:=C9 i oX;rcases H with ⟨val,lo,hi,M,uX⟩|⟨AG,_⟩
   . obtain⟨v,hy,hv⟩:=anm i o2 hinp oX ho' (LL listed) a w val lo hi M (fun e he hb=>by have:=mA e he hb; unfold LL; exact this) hn (fun j oj hj dW e he hb=>cz j oj FW hj e he hb);refine⟨v,hy,by simp [aO],cz.Cj hr,.inl ⟨_,_,_,M.next hinp ho' hd hR (cu _ _) hv hL hn,fun j hj => ?_⟩⟩;rw [hL,aw oo];exact uX j hj
   . rw [AG i hinp] at hn;cases hn
 . rintro listed a w i ⟨aO,cz,H⟩ hr ann
   obtain⟨qM,o,ho,mA⟩:=mem_ready.1 hr;obtain⟨hn,ah⟩:=Ow qM;have ho':l[i]? = some o:=by simpa using ho
   have hL:=Ck (listed:=listed) (i:=i) ah
   -- zR first part is done ahead of a late operation
   have xO:np<=i->∀ j,j<np->LL listed j=true:=by
    intro hinp j
    induction j using Nat.strongRecOn with
    | ind j ih =>
     intro hj;rcases anj hO ho' hinp j hj with hrj|hw
     . cases hq:LL listed j with
       | true=>rfl
       | false =>
        exfalso;have eZ:j<l.length:=oo
        have gW:j∈Region.ready .any l.toArray listed:=by
         rw [mem_ready];refine⟨?_,l[j],by simp [eZ],fun e he hb => ?_⟩
         . exact aay
         . have h1:=Ri hO (bc eZ) e he hb;exact ih e.on h1 oo
        rw [ann j gW] at hrj;cases hrj
     . exact Oo cz _ i j o ho mA hw
   have post:(∀ j,j<np->LL listed j=true)->∀ n,wpAnyIn Fence.wide 0 P .any l.toArray Q n listed a w->wpOpIn Fence.wide 0 P l.toArray Q i (fun a w=>(listed.setIfInBounds i true).size=l.length/\qp .any l.toArray (listed.setIfInBounds i true)/\((∃ val lo hi,Made w0 a0 l np R (LL (listed.setIfInBounds i true)) a w val lo hi/\∀ j,np<=j->LL (listed.setIfInBounds i true) j=false)\/((∀ j,j<np->LL (listed.setIfInBounds i true) j=true)/\∃ n,wpAnyIn Fence.wide 0 P .any l.toArray Q n (listed.setIfInBounds i true) a w))) a w:=by
    intro AG n hw;refine wpOpIn_mono (fun a' w' h'=>⟨by simp [aO],cz.Cj hr,.inr ⟨fun j hj => ?_,h'⟩⟩) (ank hw hr);rw [hL];split
    . rfl
    . exact AG j hj
   rcases H with ⟨val,lo,hi,M,uX⟩|⟨AG,n,hw⟩
   . rcases b9 i np with hinp|hinp
     . refine wpOpIn_mono (fun a' w' h' => ?_) (yM i o hinp ho' (LL listed) a w val lo hi M (fun e he hb=>by have:=mA e he hb; unfold LL; exact this) hn (fun j oj hj dW e he hb=>cz j oj FW hj e he hb));obtain⟨v,rfl,hf,hv⟩:=h';refine⟨by simp [aO],cz.Cj hr,.inl ⟨_,_,_,M.next hinp ho' hd hR hf hv hL hn,fun j hj => ?_⟩⟩;rw [hL,aw oo];exact uX j hj
     . have sY:∀ j,j<np->LL listed j=true:=xO hinp;have Rj:=M.act (fun j hj=>sY j hj) hd;obtain⟨n,h1⟩:=hK val lo hi w M.zH (fun j hj=>M.rows j hj (sY j hj)) (fun j k hj hk qo=>M.apart j k hj hk (sY j hj) (sY k hk) qo) listed aO fun j=>by
        rcases b9 j np with h|h
        . rw [sY j h]; simp [h]
        . rw [uX j h]; simp [Nat.not_lt.2 h]
       rw [<- Rj] at h1;exact post sY n h1
   . exact post AG n hw
 . simp
 . have h0:∀ j,LL (Array.replicate l.length false) j=false:=fun j=>by
    unfold LL;rw [pn,Wx];split<;>rfl
   refine⟨by simp,fun j oj _ hl=>(by simp [Wx] at hl; split at hl<;>simp at hl),.inl ⟨fun _=>undef,fun _=>0,fun _=>0,⟨rfl,rfl,(cu _ _).drew,fun i _ h => ?_,fun i j _ _ h => ?_,fun i o d _ _ _ h => ?_,fun s _=>rfl⟩,fun j _ => ?_⟩⟩
   . rw [h0] at h; cases h
   . rw [h0] at h; cases h
   . rw [h0] at h; cases h
   . exact h0 j
def AV.rY:AV->Bool
 | .int _ _=>true
 | .lit _ _=>true
 | .bool _=>true
 | .aR _=>true
 | .str _=>true
 | _=>false
section
variable{P:Program}{r:Operand->Value}{d:Option Nat}{ty:TypeId}{pos:String}{aft:Array Edge}{gd:Option (Nat×Bool)}{u v:Value}{w w':World}
variable{ρ ρ':Nat->Option Rl}{base j7:Nat}{ro ro':Nat->Prop}{ge:Nat->Option En}
theorem af.aaA{x:AV}(h:af w ρ base ro x v)(hx:x.rY=true):af w' ρ' j7 ro' x v:=by
 cases h<;>first|exact .int _ _|exact .lit _ _|exact .bool _|exact .aR _|exact .str _|cases hx
theorem af.ano{x:AV}(h:af w ρ base ro x v)(h':af w' ρ' j7 ro' x u)(hx:x.rY=true):v=u:=by
 cases h<;>first|(cases h'; rfl)|cases hx
theorem K0{x:AV}{k:IntKind}{n:Unit->Int}(h:x.asInt=some (k,n)):x.rY=true:=by
 cases x<;>first|rfl|cases h
theorem aaB{x:AV}{n:Unit->Bool}(h:x.asBool=some n):x.rY=true:=by
 cases x<;>first|rfl|cases h
theorem aaC{k:IntKind}{a b:Unit->Int}{av:AV}(h:arith op k a b=some (av,vcs)):av.rY=true:=by
 unfold arith at h;split at h<;>first|(split at h<;>(cases h; rfl))|(cases h; rfl)|cases h
theorem aaD{k:IntKind}{a b:Unit->Int}{av:AV}(h:CA ti op k a b=some (av,vcs)):av.rY=true:=by
 unfold CA at h;split at h
 . unfold Pa at h;split at h<;>first|(cases h; rfl)|exact aaC h
 . exact aaC h
theorem anp{a b av:AV}(h:zT ti op a b=some (av,vcs)):a.rY=true/\b.rY=true/\av.rY=true:=by
 have nZ:∀ op,CB op a b=some (av,vcs)->a.rY=true/\b.rY=true/\av.rY=true:=by
  intro op h;unfold CB at h;split at h
  . rename_i k m k' n e1 e2;cases h;exact⟨K0 e1,K0 e2,rfl⟩
  . cases h
 unfold zT at h;split at h
 . exact nZ _ h
 . exact nZ _ h
 split at h
 . split at h
   . rename_i k m k' n _;split at h
     . rename_i q hf;cases h;refine⟨rfl,rfl,?_⟩;unfold fold at hf;split at hf<;>first|(cases hf; rfl)|(cases hf; done)|(split at hf<;>first|(cases hf; rfl)|cases hf)
     . exact⟨rfl,rfl,aaD h⟩
   . cases h
 . unfold Jw at h;split at h<;>first|(cases h; exact⟨rfl,rfl,rfl⟩)|cases h
 . split at h
   . rename_i k a' k' b' h1 h2;split at h
     . exact⟨K0 h1,K0 h2,aaD h⟩
     . cases h
   . split at h
     . rename_i a' b' h1 h2;split at h
       . unfold Jy at h;split at h<;>first|(cases h; exact⟨aaB h1,aaB h2,rfl⟩)|cases h
       . cases h
     . cases h
theorem aaE{tb:j9}{cs:List aN}{g:Operand->AV}{op:Op}{av:AV}(pU:qD op=true)(aE:cT P tb)(cH:∀ loc e,ge loc=some e->c9 w ρ base ro loc e)(hg:∀ x∈op.operands,af w ρ base ro (g x) (r x))(h:nM tb cs ge g op=some (av,vcs))(hv:∀ c∈vcs,c ()):∃ v,(∀ w',(execOp r ⟨d,op,ty,pos,aft,gd⟩).run P w' = .ok (.value v) w')/\af w ρ base ro av v:=by
 cases op<;>simp only [qD,dV] at pU
 case move x =>
  simp only [nM,bF,sU] at h;obtain⟨rfl,rfl⟩:=h;exact⟨r x,fun w'=>XE rfl,hg _ iA⟩
 case assign x =>
  simp only [nM,bF,sU] at h;obtain⟨rfl,rfl⟩:=h;exact⟨r x,fun w'=>XF rfl,hg _ iA⟩
 case binOp op T x y t' =>
  simp only [nM] at h;have hx:=hg x iA;have hy:=hg y yk;by_cases oI:(∃ cs,g x = .agg cs)/\∃ ds,g y = .agg ds
  . obtain⟨⟨cs,h1⟩,ds,h2⟩:=oI;rw [h1,h2] at h;rw [h1] at hx;rw [h2] at hy;exact Yv (d:=d) (ty:=ty) (pos:=pos) (aft:=aft) (gd:=gd) aE h hx hy
  replace h:zT (fu tb T) op (g x) (g y)=some (av,vcs):=by
   unfold E6 at h;split at h
   . rename_i cs ds h1 h2;exact (oI ⟨⟨cs,h1⟩,ds,h2⟩).elim
   . exact h
  obtain⟨h1,h2,h3⟩:=anp h;obtain⟨v,k1,k2⟩:=Pj (d:=d) (ty:=ty) (pos:=pos) (aft:=aft) (gd:=gd) (t':=t') aE h hv hx hy;refine⟨v,fun w' => ?_,k2⟩;obtain⟨v',k3,k4⟩:=Pj (w:=w') (ρ := ρ) (base:=base) (ro:=ro) (d:=d) (ty:=ty) (pos:=pos) (aft:=aft) (gd:=gd) (t':=t') aE h hv (hx.aaA h1) (hy.aaA h2);rw [k2.ano k4 h3];exact k3
 case unOp op T x =>
  have hx:=hg x iA;have hn:∀ k n w',r x = .int k n->(execOp r ⟨d,.unOp .neg T x,ty,pos,aft,gd⟩).run P w' = .ok (.value (.int k (k.wrap (-n)))) w':=by
   intro k n w' he;exact YS
  cases op<;>simp only [nM] at h
  all_goals first|cases h|skip
  all_goals (split at h<;>try cases h)
  . rename_i k n he;rw [he] at hx;exact⟨_,fun w'=>hn _ _ w' hx.mh,.lit _ _⟩
  . rename_i n he;rw [he] at hx;refine⟨_,fun w'=>hn _ _ w' hx.iw,?_⟩;rw [zZ (hv _ (.head _))];exact .int _ fun _ => -n ()
  . rename_i k n _ he;rw [he] at hx;exact⟨_,fun w'=>hn _ _ w' hx.iw,.int _ fun _=>k.wrap (-n ())⟩
  . rename_i b he;rw [he] at hx;exact⟨_,fun w'=>Jb hx.pD rfl,.aR _⟩
  . rename_i b he;rw [he] at hx;exact⟨_,fun w'=>Jb hx.oJ rfl,.bool _⟩
 case convert s t x =>
  have hx:=hg x iA;simp only [nM] at h;split at h
  . rename_i k0 k kk n e1 e2 he;cases h;rw [he] at hx;obtain⟨i1,_,h1,h2⟩:=eI aE e1;obtain⟨i2,_,h3,h4⟩:=eI aE e2;obtain⟨JU,fN,_⟩:=mZ h2;exact⟨_,fun w'=>Cy hx.mh fN (CE h4 h3) rfl rfl,.lit _ _⟩
  . rename_i k0 k kk n e1 e2 he;rw [he] at hx;obtain⟨i1,_,h1,h2⟩:=eI aE e1;obtain⟨i2,_,h3,h4⟩:=eI aE e2;obtain⟨JU,fN,_⟩:=mZ h2;split at h
    . rename_i hk;subst hk;cases h;exact⟨_,fun w'=>Cy hx.iw fN (CE h4 h3) (zZ (hv _ (.head _))) rfl,.int _ _⟩
    . cases h;exact⟨_,fun w'=>Cy hx.iw fN (CE h4 h3) rfl rfl,.int _ fun _=>k.wrap (n ())⟩
  . cases h
 case fieldAddr T x f =>
  have hx:=hg x iA;simp only [nM] at h
  cases hT:aj tb T with
  | none=>rw [hT] at h; cases h
  | some i =>
   rw [hT] at h;simp only [Em] at h;split at h
   . rename_i off sz a hf;split at h
     . cases h
     . rename_i aO
       cases ha:zU (g x) off with
       | none=>rw [ha] at h; cases h
       | some mi =>
        rw [ha] at h;cases h;obtain⟨b,o,h1,h2⟩:=Pn ha hx;exact⟨_,fun w'=>XG h1 (Yh (aE T i hT) hf (by simpa using aO)) rfl,h2⟩
   . cases h
 case extract x i =>
  have hx:=hg x iA;simp only [nM] at h;split at h
  . rename_i l he
    cases hl:l[i]? with
    | none=>rw [hl] at h; cases h
    | some mi =>
     rw [hl] at h;cases h;rw [he] at hx;obtain⟨vs,h1,hE⟩:=hx.JF;obtain⟨v,h2,h3⟩:=hE.get hl;exact⟨v,fun w'=>XJ h1 (by simpa using h2),h3⟩
  . cases h
 case indexAddr T x y =>
  have hx:=hg x iA;have hy:=hg y yk;simp only [nM] at h;split at h
  . rename_i e sz b fr t l kk k e1 e2 e3;split at h
    . rename_i hs;cases h;rw [e2] at hx;obtain⟨i,_,h1,h2⟩:=eI aE e1;obtain⟨v,k1,k2⟩:=Pv (d:=d) (ty:=ty) (pos:=pos) (aft:=aft) (gd:=gd) h2 h1 (eq_of_beq hs) hx (jk e3 hy) (hv _ (.head _));exact⟨v,k1,k2⟩
    . cases h
  . rename_i e sz b fr t l n kk k e1 e2 e3;split at h
    . rename_i hs;cases h;rw [e2] at hx;obtain⟨i,_,h1,h2⟩:=eI aE e1;obtain⟨v,k1,k2⟩:=YA (d:=d) (ty:=ty) (pos:=pos) (aft:=aft) (gd:=gd) h2 h1 (eq_of_beq hs) hx (jk e3 hy) (hv _ (.head _));exact⟨v,k1,k2⟩
    . cases h
  . rename_i e sz b kk k e1 e3 _ _;obtain⟨i,_,h1,h2⟩:=eI aE e1;exact Ym (d:=d) (ty:=ty) (pos:=pos) (aft:=aft) (gd:=gd) cH h2 h1 h hx (jk e3 hy) hv
  . exact YC (d:=d) (ty:=ty) (pos:=pos) (aft:=aft) (gd:=gd) aE h hx hy
end
section
variable{P:Program}{w w' w0:World}{S0:Pm}{Φ : Pm->Prop}{N:Nat}{B:Bs}{S:Sx}{a a0:Act}{C:Cx}{Q:Exit->Act->World->Prop}
theorem aaF(aE:cT P C.ty)(aF:nh P C w0 Φ)(ho:l[i]? = some o){k:Sx->Fm}(hk:∀ S' a' w',aS w0 Φ N B S' a' w'->(k S').P->K a' w')(h:(cd C N B l [o] S k).P)(H:aS w0 Φ N B S a w):wpOpIn Fence.wide 0 P l.toArray Q i K a w:=by
 obtain⟨r,S1,lg,AE⟩:=KZ h;obtain⟨hw,H1⟩:=lg.seq H;unfold wpOpIn;simp only [Ec,ho];rcases AE with ⟨rfl,⟨S2,vcs,hs,hv,h2⟩|⟨f,hs,h2⟩⟩|⟨rfl,S2,hs,h2⟩
 . rw [aC hw];exact (aaf aE aF H1 hs hv).wp fun a' w' H2=>hk _ _ _ H2 h2
 . rw [aC hw];exact (aai aE aF H1 hs h2).wp fun a' w' ⟨S',H2,h3⟩=>hk _ _ _ H2 h3
 . rw [aw (by rw [hw]; simp)];exact⟨fun _ _=>trivial,hk _ _ _ (Q4 H1 hs) h2⟩
theorem anq{op:Op}(h:qD op=true):lv ef op=true:=by cases op<;>first|rfl|cases h
theorem aaG(aE:cT P C.ty)(pU:qD o.op=true)(hd:o.dst=some d){k:Sx->Fm}(h:(cd C N B l [o] S k).P)(H:aS w0 Φ N B S a w):∃ v S',Yields P l.toArray o v a/\aS w0 Φ N B S' (a.put o.dst v) w/\(k S').P:=by
 obtain⟨r,S1,lg,AE⟩:=KZ h;obtain⟨hw,H1⟩:=lg.seq H;have hp:lv (ca C) o.op=true:=anq pU;rcases AE with ⟨rfl,⟨S2,vcs,hs,hv,h2⟩|⟨f,hs,h2⟩⟩|⟨rfl,S2,hs,h2⟩
 . unfold nV at hs;split at hs
   . rename_i av KX uU;rw [hd] at hs;dsimp only at hs
     cases fg:bJ B S1 N d av with
     | none=>rw [fg] at hs; cases hs
     | some S3 =>
      rw [fg] at hs;cases hs;obtain⟨S0,hS,ρ,ro,H1⟩:=H1;obtain⟨dst,op,ty,pos,aft,gd⟩:=o;obtain⟨v,h8,h9⟩:=aaE (P:=P) (d:=dst) (ty:=ty) (pos:=pos) (aft:=aft) (gd:=gd) (r:=a.eval) pU aE (fun q e he=>H1.en q e he) (fun x _=>H1.get x) uU hv;refine⟨v,S2,.inl ⟨hw,h8⟩,⟨S0,hS,ρ,ro,?_⟩,h2⟩;have px:dst=some d:=hd;subst px;exact H1.put fg h9
   . rw [aal hp] at hs;dsimp only at hs;rw [aan hp] at hs;dsimp only at hs;rw [aao hp] at hs;dsimp only at hs;rw [aap hp] at hs;cases hs
 . rw [aaq hp] at hs;cases hs
 . exact⟨undef,S2,.inr ⟨hw,rfl⟩,Q4 H1 hs,h2⟩
theorem Da{k:Nat}{l:List Nat}:bD d (k::l)=(k==d||bD d l):=rfl
theorem Db(aO:listed.size=l.length)(hL:∀ j,LL listed j=bD j done)(i):i∈mr l done↔i∈Region.ready .any l.toArray listed:=by
 unfold mr;rw [Eo,gA,mem_ready];have hg:∀ j,listed.getD j false=bD j done:=fun j=>hL j;constructor
 . rintro⟨hi,h⟩
   rw [bc hi] at h;simp only [ax,jf,ai2,gR] at h;refine⟨?_,l[i],by simp [hi],fun e he hb => ?_⟩
   . have h1:=hg i;rw [h.1,pn,po oo] at h1;rw [pn,po oo];exact h1
   . rw [hg];rcases h.2 e he with h2|h2
     . rw [hb] at h2; cases h2
     . exact h2
 . rintro⟨h1,o,ho,h2⟩
   have ho':l[i]? = some o:=by simpa using ho
   have hi:=(cF.1 ho').1;refine⟨hi,?_⟩;rw [ho'];simp only [ax,jf,ai2,gR];refine⟨?_,fun e he => ?_⟩
   . rw [<- hg,pn,po oo];rw [pn,po oo] at h1;exact h1
   . cases hb:Region.binds .any e with
     | false=>exact .inl rfl
     | true=>exact .inr (by rw [<- hg]; exact h2 e he hb)
theorem aaH{f:Nat->Fm}:∀ {is:List Nat},(Ki is f).P->∀ i∈is,(f i).P
 | [],h,_,_=>h.elim
 | [i],h,j,hj=>by rw [jD] at hj; subst hj; exact h
 | i::k::is,h,j,hj=>by
  rcases fM.1 hj with rfl|hj
  . exact h.1
  . exact aaH h.2 j hj
theorem FZ{l:List Oper}:∀ {is:List Nat} {i:Nat},yz l is=some i->i∈is/\∃ o d,l[i]? = some o/\qD o.op=true/\o.dst=some d/\wC l i=true
 | [],i,h=>by cases h
 | j::is,i,h=>by
  unfold yz at h
  cases ho:l[j]? with
  | none =>
   rw [ho] at h;dsimp only at h;rw [if_neg (by simp)] at h;obtain⟨h1,h2⟩:=FZ h;exact⟨.tail _ h1,h2⟩
  | some o =>
   rw [ho] at h;dsimp only at h;split at h
   . rename_i hc;injection h with h;subst h;simp only [ax,Ww] at hc;obtain⟨⟨h1,d,h2⟩,h3⟩:=hc;exact⟨.head _,o,d,ho,h1,h2,h3⟩
   . obtain⟨h1,h2⟩:=FZ h;exact⟨.tail _ h1,h2⟩
theorem Rm(aE:cT P C.ty)(aF:nh P C w0 Φ){l:List Oper}{k:Sx->Fm}(gv:∀ (j:Nat) (o) cs b,l.toArray[j]? = some o->o.op ≠ .select cs b)(hQ:∀ c a w,¬ Q (.panic c) a w)(hk:∀ S' a' w',aS w0 Φ N B S' a' w'->(k S').P->Q .normal a' w') :
 ∀ (fuel) (done) (S) (a) (w) (listed),(tj C N B l fuel done S k).P->aS w0 Φ N B S a w->listed.size=l.length->(∀ j,LL listed j=bD j done)->wpAnyIn Fence.wide 0 P .any l.toArray Q fuel listed a w
 | 0,done,S,a,w,listed,h,H,aO,hL=>by
  have hr:=Db (l:=l) aO hL;unfold tj at h;split at h
  . rename_i he;rw [he] at hr;exact⟨BS.2 fun i hi=>(by have:=(hr i).2 hi; cases this),hk _ _ _ H h⟩
  . exact h.elim
 | fuel+1,done,S,a,w,listed,h,H,aO,hL=>by
  have hr:=Db (l:=l) aO hL;have ja:∀ i,i∈mr l done->(match l[i]? with
   | some o=>cd C N B l [o] S fun S'=>tj C N B l fuel (i::done) S' k
   | none => .ff 19:Fm).P->wpOpIn Fence.wide 0 P l.toArray Q i (wpAnyIn Fence.wide 0 P .any l.toArray Q fuel (listed.setIfInBounds i true)) a w:=by
   intro i hi h;obtain⟨qM,o,ho,_⟩:=mem_ready.1 ((hr i).1 hi);have ho':l[i]? = some o:=by simpa using ho
   rw [ho'] at h;have ah:=(cF.1 ho').1;exact aaF aE aF ho' (fun S' a' w' H' h'=>Rm aE aF gv hQ hk fuel _ _ _ _ _ h' H' (by simp [aO]) fun j=>by
    rw [Ck oo,hL,Da];by_cases e:j=i
    . subst e; simp
    . rw [aw e];have:(i==j)=false:=by simpa using fun h=>e h.symm
      rw [this,sV]) h H
  unfold tj at h;dsimp only at h;split at h
  . rename_i he;rw [he] at hr;have Rn:Region.ready .any l.toArray listed = []:=BS.2 fun i hi=>by have:=(hr i).2 hi; cases this
    exact⟨fun _=>hk _ _ _ H h,fun i hi=>by rw [Rn] at hi; cases hi⟩
  . rename_i i he;have gW:i∈mr l done:=by rw [he]; exact .head _
    refine⟨fun hn => ?_,fun j hj => ?_⟩
    . have:=(hr i).1 gW;rw [hn] at this;cases this
    . have:=(hr j).2 hj;rw [he,jD] at this;subst this;exact ja _ gW h
  . have aT:∀ (P:Prop),Region.ready .any l.toArray listed = []->(∃ i,i∈mr l done)->P:=fun P hn ⟨i,hi⟩=>by
     have:=(hr i).1 hi;rw [hn] at this;cases this
    split at h
    . rename_i i hf;obtain⟨gW,o,d,ho,pU,hd,jx⟩:=FZ hf;rw [ho] at h;obtain⟨v,S',hy,H',h'⟩:=aaG aE pU hd h H;have hi:=(hr i).1 gW;obtain⟨_,o2,pW,mA⟩:=mem_ready.1 hi;have ah:=(cF.1 ho).1;have heq:o2=o:=by
       have h1:l[i]? = some o2:=by simpa using pW
       rw [ho] at h1;injection h1 with h1;exact h1.symm
      subst heq;refine wpAnyIn_first rfl pW gv (fun c a w hq=>(hQ c _ w hq).elim) fuel listed a w (fun j oj dW aT eZ jq => ?_) hi ⟨hy,fun w=>Qm pU _ w⟩ ?_
      . rcases Rb jx ho FW aT with ⟨e,he,hb,uV⟩|⟨e,he,hb,uV⟩|h3
        . have h4:=mA e he hb;exact Rf
        . exact absurd uV (jq e he hb)
        . exact h3
      . exact Rm aE aF gv hQ hk fuel _ _ _ _ _ h' H' (by simp [aO]) fun j=>by
         rw [Ck oo,hL,Da];by_cases e:j=i
         . subst e; simp
         . rw [aw e];have:(i==j)=false:=by simpa using fun h=>e h.symm
           rw [this,sV]
    . refine⟨fun hn=>aT _ hn ?_,fun j hj=>ja j ((hr j).2 hj) (aaH h j ((hr j).2 hj))⟩;rename_i hx _ _ _
      cases he:mr l done with
      | nil=>exact (hx he).elim
      | cons i is=>exact⟨i,.head _⟩
theorem aaI{l:List Oper}{np:Nat}(kC:CV l np=true)(e8:∀ (j) (o),l[j]? = some o->∀ e∈o.after,Region.binds .any e=true->e.on<j) :
 ∀ (m k) (a) (w) (listed),k+m=l.length->np<=k->listed.size=l.length->(∀ j,LL listed j=decide (j<k))->wpListIn Fence.wide 0 P l.toArray Q (l.drop k) a w->wpAnyIn Fence.wide 0 P .any l.toArray Q m listed a w
 | m,k,a,w,listed,hm,hn,aO,hL,hw=>by
  have hg:∀ j,listed.getD j false=decide (j<k):=fun j=>hL j;have aaJ:∀ i∈Region.ready .any l.toArray listed,i=k:=by
   intro i hi;obtain⟨qM,o,ho,mA⟩:=mem_ready.1 hi;have ho':l[i]? = some o:=by simpa using ho
   have ah:=(cF.1 ho').1;have h1:¬ i<k:=fun h=>by
    have h2:=hg i;rw [pn,po oo] at h2 qM;simp only [ia] at h2 qM;rw [qM] at h2;simp [h] at h2
   have hc:=dL.1 kC i (gA.2 ah);rw [ho'] at hc;simp only [gR,aL,IJ,ax,cb] at hc;rcases b9 k i with h|h
   . rcases hc with hc|⟨e,he,hb,uV⟩
     . omega
     . have h3:=mA e he hb;rw [hg,aL] at h3;omega
   . omega
  match m with
  | 0 =>
   rw [BV oo] at hw;refine⟨BS.2 fun i hi => ?_,hw⟩;have h1:=aaJ i hi;obtain⟨_,o,ho,_⟩:=mem_ready.1 hi;have ho':l[i]? = some o:=by simpa using ho
   have ah:=(cF.1 ho').1;omega
  | m+1 =>
   have ah:k<l.length:=oo
   have hk:k∈Region.ready .any l.toArray listed:=by
    rw [mem_ready];refine⟨?_,l[k],by simp [ah],fun e he hb => ?_⟩
    . have h2:=hg k;rw [pn,po oo] at h2 ⊢;simpa using h2
    . rw [hg,aL];exact e8 k _ (bc ah) e he hb
   refine⟨fun h=>(by rw [h] at hk; cases hk),fun i hi => ?_⟩;obtain rfl:=aaJ i hi;rw [sP ah] at hw;have hst:wpOpIn Fence.wide 0 P l.toArray Q i (wpListIn Fence.wide 0 P l.toArray Q (l.drop (i+1))) a w:=by
    unfold wpOpIn;simp only [Ec,bc ah];exact hw
   refine wpOpIn_mono (fun a' w' h' => ?_) hst;refine aaI kC e8 m (i+1) a' w' _ oo oo (by simp [aO]) (fun j => ?_) h';rw [Ck oo,hL];by_cases e:j=i
   . simp [e]
   . rw [aw e];by_cases h:j<i
     . simp [h,show j<i+1 from oo]
     . simp [h,show ¬ j<i+1 from oo]
theorem aaK:bD j (List.range n)=decide (j<n):=by
 have h:∀ (l:List Nat),bD j l=decide (j∈l):=by
  intro l
  induction l with
  | nil=>rfl
  | cons k l ih =>
   rw [Da,ih];by_cases e:j=k
   . subst e; simp
   . have:(k==j)=false:=by simpa using fun h=>e h.symm
     rw [this,sV];simp [e]
 rw [h];simp
end
section
variable{P:Program}{w w' w0:World}{Φ : Pm->Prop}{N:Nat}{B:Bs}{S:Sx}{a a0:Act}{C:Cx}{Q:Exit->Act->World->Prop}
theorem Ro{l:List Oper}{s:Nat}:∀ {i:Nat},qx l s i=none->∀ k,k<i->∀ o,l[k]? = some o->o.dst≠some s
 | 0,_,k,hk,_,_=>oo
 | i+1,h,k,hk,o,ho=>by
  rw [aar] at h;split at h
  . cases h
  . rename_i hb;rcases b9 k i with h1|h1
    . exact Ro h k h1 o ho
    . obtain rfl:k=i:=oo
      rw [ho] at hb;simpa using hb
theorem anr(hj:j<i)(dW:l[j]? = some oj)(hd:oj.dst=some s):∃ k,qx l s i=some k:=by
 cases h:qx l s i with
 | some k=>exact⟨k,rfl⟩
 | none=>exact absurd hd (Ro h j hj oj dW)
theorem aaL{me:Bool}:∀ {l:List Oper} {i:Nat} {o:Oper},i<Ai (ca C) me l->l[i]? = some o->lv (ca C) o.op=true
 | [],i,o,h,_=>by simp [Ai] at h
 | o'::l,i,o,h,ho=>by
  unfold Ai at h;split at h
  . rename_i hp
    cases i with
    | zero =>
     simp only [ox,bF] at ho;subst ho;exact (ax _ _▸hp:_/\_).1
    | succ i=>exact aaL (me:=me) (l:=l) (i:=i) oo (by simpa using ho)
  . omega
theorem ans(h:i<rV (ca C) l)(ho:l[i]? = some o):lv (ca C) o.op=true:=aaL h ho
theorem aaM(me):∀ (l),Ai (ca C) me l<=l.length
 | []=>aA _
 | o::l=>by
  unfold Ai;split
  . have:=aaM me l; simp; omega
  . simp
theorem aaN(l):rV (ca C) l<=l.length:=aaM _ l
def K1(ρ:Nat->Option Rl)(base:Nat)(ro:Nat->Prop)(ai:List (Option AV))(i:Nat)(v:Value)(w:World):Prop :=
 (∀ av,ai[i]? = some (some av)->af w ρ base ro av v)/\(ai[i]? = some none->v=undef)
theorem aaO{id:Nat}(pV:∀ o∈ops,∀ c,o.op ≠ .defer c)(aE:cT P C.ty)(aF:nh P C w0 Φ)(kc:P.follows .mixedOrders=true){late:Sx->Fm}(hQ:∀ c a w,¬ Q (.panic c) a w)(aI:CU (ca C) σ np ops N=true)(ant:∀ S' a' w' listed,(late S').P->aS w0 Φ N B S' a' w'->listed.size=(cf σ ops).length->(∀ j,LL listed j=decide (j<np))->(∀ (j) (o),(cf σ ops)[j]? = some o->∀ e∈o.after,Region.binds .any e=true->e.on<j)->(∀ (j:Nat) (o) cs b,(cf σ ops).toArray[j]? = some o->o.op ≠ .select cs b)->wpAnyIn Fence.wide 0 P .any (cf σ ops).toArray Q ((cf σ ops).length - np) listed a' w')(h:(cd C N B (cf σ ops) ((cf σ ops).take np) S late).P)(H:aS w0 Φ N B S a0 w):(Code.region id ops.toArray true).wpIn (wd r) 0 P Q a0 w:=by
 unfold CU at aI;simp only [ax,aL] at aI;obtain⟨F0,anu,jb,hO,hd,anv,anw,anx⟩:=aI;have hlen:(cf σ ops).length=ops.length:=by unfold cf; simp [AF jb]
 refine ani pV jb kc ?_;rw [<- hlen];clear hlen jb;generalize cf σ ops=l at *
 show wpAnyIn Fence.wide 0 P .any l.toArray Q l.length (Array.replicate l.length false) a0 w.drew
 obtain⟨S0,hS,ρ,ro,H⟩:=H;rw [<- H.size] at hd;have jr:∀ o∈l.take np,lv (ca C) o.op=true/\∃ d,o.dst=some d:=by
  intro o ho;obtain⟨i,hi⟩:=kT.1 ho;have ah:=(cF.1 hi).1;rw [eh] at hi;split at hi
  . rename_i hinp;obtain⟨d,fN,_,_⟩:=EA hd hinp hi;exact⟨dL.1 anu o ho,d,fN⟩
  . cases hi
 rw [<- oz (l.take np)] at h;obtain⟨ai,S',yN,yO⟩:=Q7 jr h
 replace yO:(late S').P:=yO
 have gS:w0.heap.size<=w.heap.size:=H.from_.size;obtain⟨rr,rZ⟩:∃ rr:Nat->Prop,rr=fun b=>ro b\/w.heap.size<=b:=⟨_,rfl⟩
 have uF:∀ {w1:World},cW w w1->∀ b,rr b->b<w1.heap.size->∀ {w2:World},cW w1 w2->w2.heap[b]? = w1.heap[b]? := fun _ b _ ah _ h2=>h2.block b ah;have Dc:∀ (L:Nat->Bool) (val:Nat->Value) (w1:World),cW w w1->Claim B l a0 w1 ρ w0.heap.size rr L val 0 S:=by
  intro L val w1 hb s x hx;obtain⟨u,h1,h2⟩:=H.tm s x hx;exact⟨u,h1,h2.mono (fun b _ ah=>hb.block b ah) (Ext.refl _) (aA _) fun b hb=>by rw [rZ]; exact .inl hb⟩
 have Dd:∀ j o,(l.take np)[j]? = some o->l[0+j]? = some o:=fun j o hj=>by
  rw [gC];rw [eh] at hj;split at hj
  . exact hj
  . cases hj
 have C9:∀ i,uP l np i=true->i<np:=fun i hi=>by
  unfold uP at hi;simp only [ax,aL] at hi;exact hi.1
 have gv:∀ (j:Nat) (o:Oper) cs b,l.toArray[j]? = some o->o.op ≠ .select cs b:=fun j o cs b ho e=>by
  have:=dL.1 anx o (eY (i:=j) (by simpa using ho));rw [e] at this;cases this
 have jx:∀ i,uP l np i=true->wC l i=true:=fun i hi=>by
  have:=dL.1 anw i (gA.2 (C9 i hi));rw [hi] at this;simpa using this
 have core:∀ i o,i<np->l[i]? = some o->∀ (L:Nat->Bool) (a1:Act) (w1:World) (val:Nat->Value) (lo lI:Nat->Nat),Made w a0 l np (fun i v _ _ w=>K1 ρ w0.heap.size rr ai i v w) L a1 w1 val lo lI->(∀ e∈o.after,Region.binds .any e=true->L e.on=true)->L i=false->(∀ j oj,L j=true->l[j]? = some oj->∀ e∈oj.after,Region.binds .any e=true->L e.on=true) ->
  cW w w1/\((Region.wanted o (yielded l.toArray a1.tmps)=true/\∃ S1 av vcs,ai[i]? = some (some av)/\nM C.ty C.cs (bf B S) (bM B S1) o.op=some (av,vcs)/\(∀ c∈vcs,c ())/\∀ x∈o.op.operands,af w1 ρ w0.heap.size (fun b=>(ro b\/w.heap.size<=b)/\b<w1.heap.size) (bM B S1 x) (a1.eval x))\/(Region.wanted o (yielded l.toArray a1.tmps)=false/\ai[i]? = some none)):=by
  intro i o hi ho L a1 w1 val lo lI M mA F5 F6;have hb:=M.zH;have hC0:=Dc L val w1 hb;have CX:∀ j av,ai[j]? = some (some av)->L (0+j)=true->af w1 ρ w0.heap.size rr av (val (0+j)):=by
   intro j av hj hL;rw [gC] at hL ⊢;obtain⟨q1,_,_,_,q5⟩:=Path.yL (L:=fun _=>false) (val:=val) (a0:=a0) (w:=w1) (ρ := ρ) (base:=w0.heap.size) (ro:=rr) (i:=0) yN Dd (Dc _ val w1 hb) (fun j av _ h=>by cases h) (fun j _ h=>by cases h);have pX:j<np:=by
    have:=(cF.1 hj).1;rw [q5,cL] at this;omega
   exact (M.rows j pX hL).2.2.2.1 av hj
  have fw:∀ j,ai[j]? = some none->L (0+j)=true->val (0+j)=undef:=by
   intro j hj hL;rw [gC] at hL ⊢;obtain⟨q1,_,_,_,q5⟩:=Path.yL (L:=fun _=>false) (val:=val) (a0:=a0) (w:=w1) (ρ := ρ) (base:=w0.heap.size) (ro:=rr) (i:=0) yN Dd (Dc _ val w1 hb) (fun j av _ h=>by cases h) (fun j _ h=>by cases h);have pX:j<np:=by
    have:=(cF.1 hj).1;rw [q5,cL] at this;omega
   exact (M.rows j pX hL).2.2.2.2 hj
  obtain⟨hst,_,_,_,_⟩:=Path.yL (L:=L) (val:=val) (i:=0) yN Dd hC0 CX fw;have hot:(l.take np)[i]? = some o:=by rw [azl hi]; exact ho
  obtain⟨S0,S1,r,pH,gL,jN,lg,qz⟩:=hst i o hot;rw [gC] at pH gL;have gU:=dL.1 anv i (gA.2 hi);simp only [ho,ax] at gU;obtain⟨⟨ic,gv⟩,gU⟩:=gU;have ho':l.toArray[i]? = some o:=by simpa using ho
  have aaP:∀ j,(o.after.any fun e=>Region.binds .any e&&e.on==j)=true->L j=true:=by
   intro j he;rw [IJ] at he;obtain⟨e,jN,qH⟩:=he;simp only [ax,cb] at qH;have:=mA e jN qH.1;rwa [qH.2] at this
  -- zR guard
  have Rq:∀ d j,j<i->(o.after.any fun e=>Region.binds .any e&&e.on==j)=true->∀ oj,l[j]? = some oj->oj.dst=some d->∀ x,dD B S0 d=some x->∃ u,a1.tmps[d]? = some u/\af w1 ρ w0.heap.size rr x u:=by
   intro d j n8 he oj dW gF x hx;obtain⟨k',e9⟩:=anr n8 dW gF;obtain⟨h1,ok,h2,h3⟩:=Jf e9;obtain⟨d',fN,_,hu⟩:=EA hd (show j<np from oo) dW;rw [gF] at fN;injection fN with fN;subst fN;have hkj:k'=j:=hu k' ok oo h2 h3;subst hkj;have h4:=pH d x hx;rw [e9] at h4;have F7:=aaP k' he;exact⟨val k',M.Ez k' oj d oo dW gF F7,h4 F7⟩
  have tx:Region.wanted o (yielded l.toArray a1.tmps)=r:=by
   cases lg with
   | free hg=>exact Xa hg _
   | lit j d b c oj hg hj gF hc =>
    rw [hg] at ic;simp only [ax,aL] at ic;obtain⟨u,h1,h2⟩:=Rq d j ic.1 ic.2 oj hj gF _ (AD hc (by simp));rw [h2.pD] at h1;exact IZ hg (by simpa using hj) gF h1 rfl
   | gone j d b oj hg hj gF hc =>
    rw [hg] at ic;simp only [ax,aL] at ic;obtain⟨u,h1,h2⟩:=Rq d j ic.1 ic.2 oj hj gF _ (AD hc (by simp));rw [aak h2] at h1;exact aaj hg hj gF h1
   | ask j d b c oj S2 hg hj gF hc hp =>
    rw [hg] at ic;simp only [ax,aL] at ic;obtain⟨u,h1,h2⟩:=Rq d j ic.1 ic.2 oj hj gF _ (AD hc (by simp));rw [h2.oJ] at h1;exact IZ hg (by simpa using hj) gF h1 rfl
  refine⟨hb,?_⟩;rcases qz with ⟨rfl,av,vcs,dX,uU,hv⟩|⟨rfl,dX⟩
  . have F8:∀ x∈o.op.operands,af w1 ρ w0.heap.size (fun b=>(ro b\/w.heap.size<=b)/\b<w1.heap.size) (bM B S1 x) (a1.eval x):=by
     intro x hx;have h1:=dL.1 gU x (by simpa using hx)
     cases x with
     | const v=>exact X5 v
     | func f=>exact .fn f [] [] rfl fun j x v h=>by simp at h
     | global g=>exact .un _
     | tmp s =>
      show af _ _ _ _ (nQ B S1 s) _
      cases hl:dD B S1 s with
      | none=>unfold nQ; rw [hl]; exact .un _
      | some y =>
       have hy:nQ B S1 s=y:=by unfold nQ; rw [hl]
       rw [hy];have h2:=gL s y hl;have pQ:OT l np i o s=true:=h1;unfold OT at pQ;have fv:∀ u,a1.tmps[s]? = some u->af w1 ρ w0.heap.size rr y u->af w1 ρ w0.heap.size (fun b=>(ro b\/w.heap.size<=b)/\b<w1.heap.size) y (a1.eval (.tmp s)):=by
        intro u hu hr;rw [W6 hu];have:=hr.bound;rw [rZ] at this;exact this
       cases hp:qx l s i with
       | none =>
        rw [hp] at h2 pQ;obtain⟨u,h3,h4⟩:=h2;refine fv u ?_ h4;rw [<- h3];refine M.Cl s fun k' ok e9 aaQ hdk => ?_;have h5:=dL.1 pQ k' (gA.2 e9);simp only [aaQ,hdk,WD,sV] at h5
        cases AG:L k' with
        | false=>rfl
        | true =>
         rw [IJ] at h5;obtain⟨e,he,tz⟩:=h5;simp only [ax,cb] at tz;have h6:=F6 k' ok AG aaQ e he tz.1;rw [tz.2,F5] at h6;cases h6
       | some j =>
        rw [hp] at h2 pQ;obtain⟨h3,oj,h4,h5⟩:=Jf hp;have F7:=aaP j pQ;exact fv (val j) (M.Ez j oj s oo h4 h5 F7) (h2 F7)
    have anD:bf B S1=bf B S:=by funext q; unfold bf; rw [jN]
    rw [anD] at uU;exact .inl ⟨tx,S1,av,vcs,dX,uU,hv,F8⟩
  . exact .inr ⟨tx,dX⟩
 refine anl np (uP l np) (fun i v _ _ w=>K1 ρ w0.heap.size rr ai i v w) hO F0 hd C9 (fun i o oX ho=>by
  unfold uP at oX;rw [ho] at oX;simpa using (ax _ _▸oX:_/\_).2) gv hQ jx ?_ ?_ ?_ ?_
 . intro i v lo hi w1 w2 hR ym hb;refine⟨fun av dX => ?_,hR.2⟩;exact (hR.1 av dX).mono (fun b _ ah=>hb.block b ah) (Ext.refl _) (aA _) fun _ h=>h
 . intro i o hi oX ho L a1 w1 val lo lI M mA F5 F6;obtain⟨hb,hc⟩:=core i o hi ho L a1 w1 val lo lI M mA F5 F6;have Hw:=H.calm hb;rcases hc with ⟨tx,S1,av,vcs,dX,uU,hv,F8⟩|⟨tx,dX⟩
   . have pU:qD o.op=true:=by
      unfold uP at oX;rw [ho] at oX;simpa using (ax _ _▸oX:_/\_).2
     obtain⟨dst,op,ty,pos,aft,gd⟩:=o;obtain⟨v,h8,h9⟩:=aaE (P:=P) (d:=dst) (ty:=ty) (pos:=pos) (aft:=aft) (gd:=gd) (r:=a1.eval) pU aE (fun q e he=>Hw.en q e he) F8 uU hv;refine⟨v,.inl ⟨tx,h8⟩,fun mi lU => ?_,fun hn=>by rw [dX] at hn; cases hn⟩;rw [dX] at lU;injection lU with lU;injection lU with lU;subst lU;exact h9.mono (fun _ _ _=>rfl) (Ext.refl _) (aA _) fun b aW=>by rw [rZ]; exact aW.1
   . refine⟨undef,.inr ⟨tx,rfl⟩,fun mi lU => ?_,fun _=>rfl⟩;rw [dX] at lU;cases lU
 . intro i o hi ho L a1 w1 val lo lI M mA F5 F6;obtain⟨hb,hc⟩:=core i o hi ho L a1 w1 val lo lI M mA F5 F6;have Hw:=H.calm hb;have ho':l.toArray[i]? = some o:=by simpa using ho
   rcases hc with ⟨tx,S1,av,vcs,dX,uU,hv,F8⟩|⟨tx,dX⟩
   . obtain⟨dst,op,ty,pos,aft,gd⟩:=o;have h7:=YQ (d:=dst) (ty:=ty) (pos:=pos) (aft:=aft) (gd:=gd) (r:=a1.eval) aE aF.cs (fun q e he=>Hw.en q e he) F8 Hw.gu Hw.from_.size uU hv;have hR:∀ v w2,cW w1 w2->af w2 ρ w0.heap.size (fun b=>((ro b\/w.heap.size<=b)/\b<w1.heap.size)\/w1.heap.size<=b) av v->K1 ρ w0.heap.size rr ai i v w2:=by
      intro v w2 _ hr;refine⟨fun mi lU => ?_,fun hn=>by rw [dX] at hn; cases hn⟩;rw [dX] at lU;injection lU with lU;injection lU with lU;subst lU;refine hr.mono (fun _ _ _=>rfl) (Ext.refl _) (aA _) fun b aW => ?_;rw [rZ];rcases aW with ⟨h8,_⟩|h8
      . exact h8
      . exact .inr (dQ hb.size h8)
     rcases h7 with ⟨v,w2,h8,h9,oF⟩|⟨f,args,h8,h9⟩
     . exact Qk ho' tx (Kz (by rw [h8]; exact⟨v,rfl,h9,hR v w2 h9 oF⟩))
     . exact Qk ho' tx (gK.wp (K:=fun a' w2=>∃ v,a'=a1.put dst v/\cW w1 w2/\K1 ρ w0.heap.size rr ai i v w2) (.inr (.inr (.inl ⟨f,args,h8,h9.mono fun e w2 ⟨v,q1,q2,q3⟩=>⟨v,q1,v,rfl,q2,hR v w2 q2 q3⟩⟩))) fun _ _ h=>h)
   . refine Zk ho' tx ⟨undef,rfl,cu _ _,fun mi lU => ?_,fun _=>rfl⟩;rw [dX] at lU;cases lU
 . intro val lo hi w1 hb CX _ listed aO pY;have bS:∀ j av,ai[j]? = some (some av)->(fun _=>true:Nat->Bool) (0+j)=true->af w1 ρ w0.heap.size rr av (val (0+j)):=by
    intro j av hj _;obtain⟨q1,_,_,_,q5⟩:=Path.yL (L:=fun _=>false) (val:=val) (a0:=a0) (w:=w1) (ρ := ρ) (base:=w0.heap.size) (ro:=rr) (i:=0) yN Dd (Dc _ val w1 hb) (fun j av _ h=>by cases h) (fun j _ h=>by cases h);have pX:j<np:=by
     have:=(cF.1 hj).1;rw [q5,cL] at this;omega
    rw [gC];exact (CX j pX).2.2.2.1 av hj
   have fw:∀ j,ai[j]? = some none->(fun _=>true:Nat->Bool) (0+j)=true->val (0+j)=undef:=by
    intro j hj _;obtain⟨q1,_,_,_,q5⟩:=Path.yL (L:=fun _=>false) (val:=val) (a0:=a0) (w:=w1) (ρ := ρ) (base:=w0.heap.size) (ro:=rr) (i:=0) yN Dd (Dc _ val w1 hb) (fun j av _ h=>by cases h) (fun j _ h=>by cases h);have pX:j<np:=by
     have:=(cF.1 hj).1;rw [q5,cL] at this;omega
    rw [gC];exact (CX j pX).2.2.2.2 hj
   obtain⟨_,fv,lL,oR,_⟩:=Path.yL (L:=fun _=>true) (val:=val) (i:=0) yN Dd (Dc _ val w1 hb) bS fw;rw [cL,xA F0,gC] at fv;have Hw:=H.calm hb;have F9:=yN.km H.jL;have e8:=fun j o ho=>Ri (j:=j) (o:=o) hO ho
   suffices HS:aS w0 Φ N B S' (oE val 0 (l.take np) a0) w1 from ⟨l.length - np,ant S' _ w1 listed yO HS aO pY e8 gv⟩
   refine⟨S0,hS,ρ,_,⟨Hw.from_,by rw [W8]; exact H.size,by rw [Ou]; exact H.defers,Hw.gu,fun s x hx => ?_,fun q e he=>Hw.en q e (by unfold bf at he ⊢; rw [lL] at he; exact he),Hw.apart,fun q hq=>Hw.fresh q (by rw [oR] at hq; exact hq),Hw.own,Hw.ew,Hw.dz,F9,fun q e he=>by rw [lL]; exact Hw.jM q e he,fun s v hv=>⟨(EB val s _ 0 a0 fun o ho e=>(by have h1:=(H.fm s v hv).2; rw [yN.noB o ho s e] at h1; cases h1)).trans (H.fm s v hv).1,(H.fm s v hv).2⟩⟩⟩;have h1:=fv s x hx;have tz:∀ u,af w1 ρ w0.heap.size rr x u->af w1 ρ w0.heap.size (fun b=>(ro b\/w.heap.size<=b)/\b<w1.heap.size) x u:=by
    intro u hr;have:=hr.bound;rw [rZ] at this;exact this
   cases hp:qx l s np with
   | none =>
    rw [hp] at h1;obtain⟨u,h2,h3⟩:=h1;refine⟨u,?_,tz u h3⟩;rw [<- h2];refine EB val s _ 0 a0 fun o ho => ?_;obtain⟨i,hi⟩:=kT.1 ho;rw [eh] at hi;split at hi
    . rename_i hinp;exact Ro hp i hinp o hi
    . cases hi
   | some j =>
    rw [hp] at h1;obtain⟨h2,oj,h3,h4⟩:=Jf hp;obtain⟨d,fN,zJ,EC⟩:=EA hd h2 h3;rw [h4] at fN;injection fN with fN;subst fN;refine⟨val j,?_,tz _ (h1 rfl)⟩;have h5:=Ov val s (l.take np) 0 a0 j oj (by rw [azl h2]; exact h3) h4 (fun j' o' gE ho'=>by
     rw [eh] at gE;split at gE
     . rename_i ah;exact EC j' o' ah gE ho'
     . cases gE) zJ
    rwa [gC] at h5
theorem anE(h:Fw (ca C) ops N=true):CU (ca C) (yy (ca C) ops) (rV (ca C) (laid (ca C) ops)) ops N=true:=by
 unfold Fw at h;unfold CU;simp only [ax,aL] at h ⊢;refine⟨aaN _,dL.2 fun o ho => ?_,h⟩;obtain⟨i,hi⟩:=kT.1 ho;rw [eh] at hi;split at hi
 . rename_i ah;exact ans ah hi
 . cases hi
theorem anF{id:Nat}(pV:∀ o∈ops,∀ c,o.op ≠ .defer c)(aE:cT P C.ty)(aF:nh P C w0 Φ)(kc:P.follows .mixedOrders=true){k:Sx->Fm}(hQ:∀ c a w,¬ Q (.panic c) a w)(aI:Fw (ca C) ops N=true)(hk:∀ S' a' w',aS w0 Φ N B S' a' w'->(k S').P->Q .normal a' w')(h:(Kj C N B (laid (ca C) ops) S k).P)(H:aS w0 Φ N B S a0 w):(Code.region id ops.toArray true).wpIn (wd r) 0 P Q a0 w:=by
 refine aaO pV (late:=fun S'=>match CV (laid (ca C) ops) (rV (ca C) (laid (ca C) ops)) with
  | true=>cd C N B (laid (ca C) ops) ((laid (ca C) ops).drop (rV (ca C) (laid (ca C) ops))) S' k
  | false=>tj C N B (laid (ca C) ops) ((laid (ca C) ops).length - rV (ca C) (laid (ca C) ops)) (List.range (rV (ca C) (laid (ca C) ops))) S' k) aE aF kc hQ (anE aI) (fun S' a' w' listed yO HS aO pY e8 gv => ?_) h H
 have F0:=aaN (C:=C) (laid (ca C) ops);unfold laid at *
 generalize cf (yy (ca C) ops) ops=l at *
 generalize rV (ca C) l=np at *
 cases kC:CV l np with
 | true =>
  rw [kC] at yO;exact aaI kC e8 _ np _ _ listed oo (aA _) aO pY (FV aE aF hk yO HS)
 | false =>
  rw [kC] at yO;exact Rm aE aF gv hQ hk _ _ _ _ _ listed yO HS aO fun j=>by rw [pY,aaK]
end
end Go.Proofs.YtamjbkaclhgffaaGreat
