/-
  Regions that draw their order: what only reckons from slots may be done as soon as it is ready.
-/
import Derived.Test.YtlpikgchnjajmaaGreatTp11
set_option linter.all false
namespace Go.Proofs.YtlpikgchnjajmaaGreat
open Go.RowKit
variable{a a0:Act}{K:Act->World->Prop}{L L' listed:Array Bool}{op:BinOp}{Q:Exit->Act->World->Prop}{k:IntKind}{done ef σ:List Nat}{l ops:List Oper}{vcs:List VC}{d i j n np s:Nat}{kE:Nat->Bool}{o oi oj:Oper}{r:Option Nat}{ti:Option TI}{w w0:World}
theorem QB(h:wB l i=true)(hi:l[i]? = some oi)(hj:l[j]? = some oj)(aT:j≠i):(∃ e∈oi.after,Region.binds .any e=true/\e.on=j)\/(∃ e∈oj.after,Region.binds .any e=true/\e.on=i)\/oi.apart l.toArray oj=true:=by
 unfold wB at h;rw [hi] at h;have aj:=(cM.1 hj).1;have h1:=dK.1 h j (gP.2 aj);rw [hj] at h1;simp only [gz,b9] at h1;have uN:∀ {es:Array Edge} {k:Nat},(es.any fun e=>Region.binds .any e&&e.on==k)=true->∃ e∈es,Region.binds .any e=true/\e.on=k:=by
  intro es k h;rw [H4] at h;obtain⟨e,he,h2⟩:=h;simp only [au,b9] at h2;exact⟨e,he,h2⟩
 rcases h1 with ((h1|h1)|h1)|h1
 . exact absurd h1.symm aT
 . exact .inl (uN h1)
 . exact .inr (.inl (uN h1))
 . exact .inr (.inr h1)
theorem alq{P:Program}(kE:Nat->Bool)(QC:∀ i o,kE i=true->l[i]? = some o->qB o.op=true)(gr:∀ (j:Nat) (o) cs b,l.toArray[j]? = some o->o.op ≠ .select cs b)(hQ:∀ c a w,¬ Q (.panic c) a w)(ja:∀ i,kE i=true->wB l i=true)(Inv:Array Bool->Act->World->Prop)(gD:∀ listed a w,Inv listed a w->Region.ready .any l.toArray listed = []->Q .normal a w)(pV:∀ listed a w i o,Inv listed a w->i∈Region.ready .any l.toArray listed->kE i=true->l[i]? = some o->∃ v,Yields P l.toArray o v a/\Inv (listed.setIfInBounds i true) (a.put o.dst v) w)(yC:∀ listed a w i,Inv listed a w->i∈Region.ready .any l.toArray listed->(∀ j∈Region.ready .any l.toArray listed,kE j=false)->wpOpIn Fence.wide 0 P l.toArray Q i (Inv (listed.setIfInBounds i true)) a w) :
 ∀ (fuel) (listed) (a) (w),listed.toList.count false<=fuel->Inv listed a w->wpAnyIn Fence.wide 0 P .any l.toArray Q fuel listed a w:=by
 have QD:∀ (listed:Array Bool) (i:Nat),i∈Region.ready .any l.toArray listed->(listed.setIfInBounds i true).toList.count false+1=listed.toList.count false:=by
  intro listed i hi;obtain⟨h1,_⟩:=mem_ready.1 hi;obtain⟨_,aj⟩:=NS h1;have h2:listed.toList[i]'Bx=false:=by
   rw [pz,pA aj] at h1;simpa using h1
  rw [aw1];have h3:=List.count_set (l:=listed.toList) (i:=i) (a:=true) (b:=false) Bx;have h4:0<listed.toList.count false:=List.count_pos_iff.2 (h2▸mj _);have e1:((listed.toList[i]'(by simpa using aj))==false)=true:=by rw [h2]; rfl
  have e2:(true==false)=false:=rfl;rw [h3];simp only [e1,e2,eH,dS,dB];omega
 intro fuel
 induction fuel with
 | zero =>
  intro listed a w hc h;have hr:Region.ready .any l.toArray listed = []:=by
   rw [Be];intro i hi;have:=QD listed i hi;omega
  exact⟨hr,gD listed a w h hr⟩
 | succ fuel ih =>
  intro listed a w hc h;by_cases hex:∃ i,i∈Region.ready .any l.toArray listed/\kE i=true
  . obtain⟨i,hi,o8⟩:=hex;obtain⟨qK,o,ho,mL⟩:=mem_ready.1 hi;have ho':l[i]? = some o:=by simpa using ho
    obtain⟨v,hy,h2⟩:=pV listed a w i o h hi o8 ho';refine wpAnyIn_first rfl ho gr (fun c a w hq=>(hQ c _ w hq).elim) fuel listed a w (fun j oj eo aT ib jl => ?_) hi ⟨hy,fun w=>PK (QC i o o8 ho') _ w⟩ (ih _ _ _ (by have:=QD listed i hi; omega) h2);rcases QB (ja i o8) ho' Fi aT with ⟨e,he,hb,uO⟩|⟨e,he,hb,uO⟩|h3
    . have h4:=mL e he hb;exact QE
    . exact absurd uO (jl e he hb)
    . exact h3
  . refine⟨fun hr=>gD listed a w h hr,fun i hi => ?_⟩;have cr:∀ j∈Region.ready .any l.toArray listed,kE j=false:=fun j hj=>by
     cases hq:kE j with
     | false=>rfl
     | true=>exact (hex ⟨j,hj,hq⟩).elim
    exact wpOpIn_mono (fun a' w' h'=>ih _ _ _ (by have:=QD listed i hi; omega) h') (yC listed a w i h hi cr)
theorem alr(h:j ∉ σ):gT σ j = σ.length:=by
 induction σ with
 | nil=>rfl
 | cons k l ih =>
  unfold gT;rw [ar (by rintro rfl; exact h (by simp)),ih fun hm=>h (by simp [hm])];rfl
section
variable{P:Program}{Q:Exit->Act->World->Prop}{l:List Oper}{σ:List Nat}
theorem Aq(h:fp σ l.length=true) : σ.length=l.length:=by
 simp only [fp,au,b9] at h;exact h.1.1
theorem Fj(h:fp σ l.length=true)(hj:j<l.length) : σ[gT σ j]? = some j:=by
 simp only [fp,au,b9] at h;have:=dK.1 h.1.2 j (gP.2 hj);simpa using this
theorem Zn(h:fp σ l.length=true){k:Nat}(hk : σ[k]? = some i):i<l.length/\gT σ i=k:=by
 have aj:=(cM.1 hk).1;rw [Aq h] at aj;simp only [fp,au,b9] at h;have:=dK.1 h.2 k (gP.2 aj);rw [hk] at this;simpa using this
theorem Zo(h:fp σ l.length=true)(hj:l.length<=j):gT σ j=l.length:=by
 rw [alr,Aq h];intro hm;obtain⟨k,hk⟩:=kW.1 hm;have:=(Zn h hk).1;omega
theorem QF(h:fp σ l.length=true)(j):(ck σ l)[gT σ j]? = l[j]?.map (o5 σ):=by
 rcases cw j l.length with hj|hj
 . unfold ck;rw [gY,Fj h hj,bp hj];simp [hj]
 . rw [Zo h hj,sA hj,sA (by unfold ck; simp [Aq h])];rfl
def uP(σ:List Nat)(n:Nat)(listed Zp:Array Bool):Prop:=listed.size=n/\Zp.size=n/\∀ j,j<n->Zp[gT σ j]? = listed[j]?
theorem uP.getD(h:fp σ l.length=true)(hs:uP σ l.length L L')(j)(d):L'.getD (gT σ j) d=L.getD j d:=by
 rw [pz,pz];rcases cw j l.length with hj|hj
 . rw [hs.2.2 j hj]
 . rw [Zo h hj,DC (by rw [hs.2.1]; exact az _),DC (by rw [hs.1]; exact hj)]
theorem uP.set(h:fp σ l.length=true)(hs:uP σ l.length L L')(hi:i<l.length):uP σ l.length (L.setIfInBounds i true) (L'.setIfInBounds (gT σ i) true):=by
 refine⟨by simp [hs.1],by simp [hs.2.1],fun j hj => ?_⟩;rw [Hz,Hz,hs.2.2 j hj];have hp:=(cM.1 (Fj h hi)).1;rw [Aq h] at hp;by_cases e:i=j
 . subst e;rw [aw rfl,aw rfl,aw (by rw [hs.2.1]; exact hp),aw (by rw [hs.1]; exact hi)]
 . rw [ar e,ar];intro e2;have h1:=Fj h hi;have h2:=Fj h hj;rw [e2,h2] at h1;injection h1 with h1;exact e h1.symm
theorem QG(h:fp σ l.length=true)(hs:uP σ l.length L L')(i):gT σ i∈Region.ready .any (ck σ l).toArray L'↔i∈Region.ready .any l.toArray L:=by
 rw [mem_ready,mem_ready,hs.getD h];have hg:(ck σ l).toArray[gT σ i]? = (l.toArray[i]?).map (o5 σ):=by simpa using QF h i
 constructor
 . rintro⟨h1,o',ho',h2⟩
   rw [hg] at ho'
   cases ho:l.toArray[i]? with
   | none=>rw [ho] at ho'; cases ho'
   | some o =>
    rw [ho] at ho';simp only [dv,bI] at ho';subst ho';refine⟨h1,o,rfl,fun e he hb => ?_⟩;have h3:=h2 (JA σ e) (Array.mem_map.2 ⟨e,he,rfl⟩) hb;rwa [show (JA σ e).on=gT σ e.on from rfl,hs.getD h] at h3
 . rintro⟨h1,o,ho,h2⟩
   refine⟨h1,o5 σ o,by rw [hg,ho]; rfl,fun e' mI hb => ?_⟩;obtain⟨e,he,rfl⟩:=Array.mem_map.1 mI;have h3:=h2 e he hb;rw [show (JA σ e).on=gT σ e.on from rfl,hs.getD h];exact h3
theorem als(h:fp σ l.length=true)(o)(t):Region.wanted (o5 σ o) (yielded (ck σ l).toArray t)=Region.wanted o (yielded l.toArray t):=by
 unfold Region.wanted o5
 cases hg:o.guard with
 | none=>rfl
 | some gb =>
  obtain⟨g,b⟩:=gb;have hy:yielded (ck σ l).toArray t (gT σ g)=yielded l.toArray t g:=by
   unfold yielded;have Fk:(ck σ l).toArray[gT σ g]? = (l.toArray[g]?).map (o5 σ):=by simpa using QF h g
   rw [Fk];cases l.toArray[g]? <;> rfl
  simp only [hy]
theorem alu(h:fp σ l.length=true)(hw:wpOpIn Fence.wide 0 P (ck σ l).toArray Q (gT σ i) K a w):wpOpIn Fence.wide 0 P l.toArray Q i K a w:=by
 unfold wpOpIn at hw ⊢;have hg:(ck σ l).toArray[gT σ i]? = (l.toArray[i]?).map (o5 σ):=by simpa using QF h i
 rw [hg] at hw
 cases ho:l.toArray[i]? with
 | none=>rw [ho] at hw; exact hw
 | some o =>
  rw [ho] at hw;simp only [dv,als h] at hw;exact hw
theorem alv(h:fp σ l.length=true):∀ (fuel) (L L') (a) (w),uP σ l.length L L'->wpAnyIn Fence.wide 0 P .any (ck σ l).toArray Q fuel L' a w->wpAnyIn Fence.wide 0 P .any l.toArray Q fuel L a w:=by
 have fq:∀ {L L':Array Bool},uP σ l.length L L'->Region.ready .any l.toArray L = []->Region.ready .any (ck σ l).toArray L' = []:=by
  intro L L' hs hr;rw [Be];intro k hk;obtain⟨_,o,ho,_⟩:=mem_ready.1 hk;have aj:k < σ.length:=by
   have:=(jz.1 ho).1;simpa [ck] using this
  obtain⟨_,hp⟩:=Zn h (bp aj);rw [<- hp] at hk;have:=(QG h hs _).1 hk;rw [hr] at this;cases this
 have E6:∀ {L L':Array Bool},uP σ l.length L L'->Region.ready .any (ck σ l).toArray L' = []->Region.ready .any l.toArray L = []:=by
  intro L L' hs hr;rw [Be];intro i hi;have:=(QG h hs i).2 hi;rw [hr] at this;cases this
 intro fuel
 induction fuel with
 | zero=>intro L L' a w hs hw; exact⟨E6 hs hw.1,hw.2⟩
 | succ fuel ih =>
  intro L L' a w hs hw;refine⟨fun hr=>hw.1 (fq hs hr),fun i hi => ?_⟩;obtain⟨_,o,ho,_⟩:=mem_ready.1 hi;have aj:i<l.length:=by simpa using (jz.1 ho).1
  exact alu h (wpOpIn_mono (fun a' w' h'=>ih _ _ a' w' (hs.set h aj) h') (hw.2 (gT σ i) ((QG h hs i).2 hi)))
theorem alw(pW:∀ o∈l,∀ c,o.op ≠ .defer c)(h:fp σ l.length=true)(hm:P.follows .mixedOrders=true){id:Nat}(hw:wpAnyIn Fence.wide 0 P .any (ck σ l).toArray Q l.length (Array.replicate l.length false) a { w with drawn:=w.drawn+1 }):(Code.region id l.toArray true).wpIn (wd r) 0 P Q a w:=by
 refine wpIn_region_any hm (JQ (fun j o c ho=>pW o (gX (by simpa using ho)) c) _ _ _ _ ?_);have hs:uP σ l.length (Array.replicate l.length false) (Array.replicate l.length false):=by
  refine⟨by simp,by simp,fun j hj => ?_⟩;have hp:=(cM.1 (Fj h hj)).1;rw [Aq h] at hp;rw [Vl,Vl,aw hp,aw hj]
 have:=alv (P:=P) (Q:=Q) h l.length _ _ a _ hs hw;simpa using this
end
theorem QH(h:z8 l np kE=true)(ho:l[j]? = some o):∀ e∈o.after,Region.binds .any e=true->e.on<j:=by
 intro e he hb;have hj:=(cM.1 ho).1;unfold z8 at h;have h1:=dK.1 h j (gP.2 hj);rw [ho] at h1;simp only [au] at h1;have h2:=(aha.1 h1.1) e he;simpa [hb] using h2
theorem alx(h:z8 l np kE=true)(ho:l[j]? = some o)(hn:np<=j):∀ i,i<np->kE i=true\/waits .any l.toArray l.length j i=true:=by
 intro i hi;have hj:=(cM.1 ho).1;unfold z8 at h;have h1:=dK.1 h j (gP.2 hj);rw [ho] at h1;simp only [au,gz,aI] at h1;rcases h1.2 with h2|h2
 . omega
 . have h3:=dK.1 h2 i (gP.2 hi);simpa using h3
theorem Zq{P:Program}{ops:Array Oper}(h:wpAnyIn Fence.wide 0 P .any ops Q n listed a w)(hr:Region.ready .any ops listed = []):Q .normal a w:=by
 cases n with
 | zero=>exact h.2
 | succ n=>exact h.1 hr
theorem aly{P:Program}{ops:Array Oper}(h:wpAnyIn Fence.wide 0 P .any ops Q n listed a w)(hr:i∈Region.ready .any ops listed):wpOpIn Fence.wide 0 P ops Q i (fun a w=>∃ n,wpAnyIn Fence.wide 0 P .any ops Q n (listed.setIfInBounds i true) a w) a w:=by
 cases n with
 | zero=>rw [h.1] at hr; cases hr
 | succ n=>exact wpOpIn_mono (fun a w h=>⟨n,h⟩) (h.2 i hr)
theorem alz{P:Program}(np)(kE)(R)(hO:z8 l np kE=true)(J6:np<=l.length)(hd:zz l np a0.tmps.size=true)(Cv:∀ i,kE i=true->i<np)(QC:∀ i o,kE i=true->l[i]? = some o->qB o.op=true)(gr:∀ (j:Nat) (o) cs b,l.toArray[j]? = some o->o.op ≠ .select cs b)(hQ:∀ c a w,¬ Q (.panic c) a w)(ja:∀ i,kE i=true->wB l i=true)(hR:∀ i v lo hi w w',R i v lo hi w->hi<=w.heap.size->cU w w'->R i v lo hi w')(alA:∀ i o,i<np->kE i=true->l[i]? = some o->∀ (L) (a) (w) (val) (lo hi),Made w0 a0 l np R L a w val lo hi->(∀ e∈o.after,Region.binds .any e=true->L e.on=true)->L i=false->(∀ j oj,L j=true->l[j]? = some oj->∀ e∈oj.after,Region.binds .any e=true->L e.on=true) ->
  ∃ v,Yields P l.toArray o v a/\R i v w.heap.size w.heap.size w)(yC:∀ i o,i<np->l[i]? = some o->∀ (L) (a) (w) (val) (lo hi),Made w0 a0 l np R L a w val lo hi->(∀ e∈o.after,Region.binds .any e=true->L e.on=true)->L i=false->(∀ j oj,L j=true->l[j]? = some oj->∀ e∈oj.after,Region.binds .any e=true->L e.on=true) ->
  wpOpIn Fence.wide 0 P l.toArray Q i (fun a' w'=>∃ v,a'=a.put o.dst v/\cU w w'/\R i v w.heap.size w'.heap.size w') a w)(hK:∀ (val) (lo hi:Nat->Nat) (w),cU w0 w->(∀ i,i<np->w0.heap.size<=lo i/\lo i<=hi i/\hi i<=w.heap.size/\R i (val i) (lo i) (hi i) w)->(∀ i j,i<np->j<np->i≠j->hi i<=lo j\/hi j<=lo i)->∀ listed,listed.size=l.length->(∀ j,LL listed j=decide (j<np))->∃ n,wpAnyIn Fence.wide 0 P .any l.toArray Q n listed (oN val 0 (l.take np) a0) w) :
 wpAnyIn Fence.wide 0 P .any l.toArray Q l.length (Array.replicate l.length false) a0 w0.drew:=by
 refine alq kE QC gr hQ ja (fun listed a w=>listed.size=l.length/\qo .any l.toArray listed/\((∃ val lo hi,Made w0 a0 l np R (LL listed) a w val lo hi/\∀ j,np<=j->LL listed j=false)\/((∀ j,j<np->LL listed j=true)/\∃ n,wpAnyIn Fence.wide 0 P .any l.toArray Q n listed a w))) ?_ ?_ ?_ _ _ _ _ ?_ ?_
 . rintro listed a w ⟨aN,cH,H⟩ hr
   have cr:∀ j,j<l.length->LL listed j=true:=by
    intro j
    induction j using Nat.strongRecOn with
    | ind j ih =>
     intro hj
     cases hq:LL listed j with
     | true=>rfl
     | false =>
      exfalso;have gU:j∈Region.ready .any l.toArray listed:=by
       rw [mem_ready];refine⟨?_,l[j],by simp [hj],fun e he hb => ?_⟩
       . exact Zr
       . have h1:=QH hO (bp hj) e he hb;exact ih e.on h1 oo
      rw [hr] at gU;cases gU
   rcases H with ⟨val,lo,hi,M,uQ⟩|⟨_,n,hw⟩
   . have pL:np=l.length:=by
      rcases cw np l.length with h|h
      . have h1:=cr np h;rw [uQ np (az _)] at h1;cases h1
      . omega
     have QI:=M.act (fun i hi=>cr i oo) hd;obtain⟨n,h1⟩:=hK val lo hi w M.zy (fun i hi=>M.rows i hi (cr i oo)) (fun i j hi hj jF=>M.apart i j hi hj (cr i oo) (cr j oo) jF) listed aN fun j=>by
      rcases cw j np with h|h
      . rw [cr j oo]; simp [h]
      . rw [uQ j h]; simp [Nat.not_lt.2 h]
     rw [<- QI] at h1;exact Zq h1 hr
   . exact Zq hw hr
 . rintro listed a w i o ⟨aN,cH,H⟩ hr o8 ho'
   obtain⟨qK,o2,ho,mL⟩:=mem_ready.1 hr;have QJ:o2=o:=by
    have:l.toArray[i]? = some o:=by simpa using ho'
    rw [this] at ho;injection ho with ho;exact ho.symm
   subst QJ;obtain⟨hn,aj⟩:=NS qK;have hL:=BC (listed:=listed) (i:=i) aj;have hinp:=Cv i o8;rcases H with ⟨val,lo,hi,M,uQ⟩|⟨Ar,_⟩
   . obtain⟨v,hy,hv⟩:=alA i o2 hinp o8 ho' (LL listed) a w val lo hi M (fun e he hb=>by have:=mL e he hb; unfold LL; exact this) hn (fun j oj hj eo e he hb=>cH j oj Fi hj e he hb);refine⟨v,hy,by simp [aN],cH.BA hr,.inl ⟨_,_,_,M.next hinp ho' hd hR (cA _ _) hv hL hn,fun j hj => ?_⟩⟩;rw [hL,ar oo];exact uQ j hj
   . rw [Ar i hinp] at hn;cases hn
 . rintro listed a w i ⟨aN,cH,H⟩ hr alB
   obtain⟨qK,o,ho,mL⟩:=mem_ready.1 hr;obtain⟨hn,aj⟩:=NS qK;have ho':l[i]? = some o:=by simpa using ho
   have hL:=BC (listed:=listed) (i:=i) aj
   -- zG first part is done ahead of a late operation
   have xE:np<=i->∀ j,j<np->LL listed j=true:=by
    intro hinp j
    induction j using Nat.strongRecOn with
    | ind j ih =>
     intro hj;rcases alx hO ho' hinp j hj with Zs|hw
     . cases hq:LL listed j with
       | true=>rfl
       | false =>
        exfalso;have ib:j<l.length:=oo
        have gU:j∈Region.ready .any l.toArray listed:=by
         rw [mem_ready];refine⟨?_,l[j],by simp [ib],fun e he hb => ?_⟩
         . exact Zr
         . have h1:=QH hO (bp ib) e he hb;exact ih e.on h1 oo
        rw [alB j gU] at Zs;cases Zs
     . exact NM cH _ i j o ho mL hw
   have post:(∀ j,j<np->LL listed j=true)->∀ n,wpAnyIn Fence.wide 0 P .any l.toArray Q n listed a w->wpOpIn Fence.wide 0 P l.toArray Q i (fun a w=>(listed.setIfInBounds i true).size=l.length/\qo .any l.toArray (listed.setIfInBounds i true)/\((∃ val lo hi,Made w0 a0 l np R (LL (listed.setIfInBounds i true)) a w val lo hi/\∀ j,np<=j->LL (listed.setIfInBounds i true) j=false)\/((∀ j,j<np->LL (listed.setIfInBounds i true) j=true)/\∃ n,wpAnyIn Fence.wide 0 P .any l.toArray Q n (listed.setIfInBounds i true) a w))) a w:=by
    intro Ar n hw;refine wpOpIn_mono (fun a' w' h'=>⟨by simp [aN],cH.BA hr,.inr ⟨fun j hj => ?_,h'⟩⟩) (aly hw hr);rw [hL];split
    . rfl
    . exact Ar j hj
   rcases H with ⟨val,lo,hi,M,uQ⟩|⟨Ar,n,hw⟩
   . rcases cw i np with hinp|hinp
     . refine wpOpIn_mono (fun a' w' h' => ?_) (yC i o hinp ho' (LL listed) a w val lo hi M (fun e he hb=>by have:=mL e he hb; unfold LL; exact this) hn (fun j oj hj eo e he hb=>cH j oj Fi hj e he hb));obtain⟨v,rfl,hf,hv⟩:=h';refine⟨by simp [aN],cH.BA hr,.inl ⟨_,_,_,M.next hinp ho' hd hR hf hv hL hn,fun j hj => ?_⟩⟩;rw [hL,ar oo];exact uQ j hj
     . have sI:∀ j,j<np->LL listed j=true:=xE hinp;have QI:=M.act (fun j hj=>sI j hj) hd;obtain⟨n,h1⟩:=hK val lo hi w M.zy (fun j hj=>M.rows j hj (sI j hj)) (fun j k hj hk qn=>M.apart j k hj hk (sI j hj) (sI k hk) qn) listed aN fun j=>by
        rcases cw j np with h|h
        . rw [sI j h]; simp [h]
        . rw [uQ j h]; simp [Nat.not_lt.2 h]
       rw [<- QI] at h1;exact post sI n h1
   . exact post Ar n hw
 . simp
 . have h0:∀ j,LL (Array.replicate l.length false) j=false:=fun j=>by
    unfold LL;rw [pz,Vl];split<;>rfl
   refine⟨by simp,fun j oj _ hl=>(by simp [Vl] at hl; split at hl<;>simp at hl),.inl ⟨fun _=>undef,fun _=>0,fun _=>0,⟨rfl,rfl,(cA _ _).drew,fun i _ h => ?_,fun i j _ _ h => ?_,fun i o d _ _ _ h => ?_,fun s _=>rfl⟩,fun j _ => ?_⟩⟩
   . rw [h0] at h; cases h
   . rw [h0] at h; cases h
   . rw [h0] at h; cases h
   . exact h0 j
def AV.rY:AV->Bool
 | .int _ _=>true
 | .lit _ _=>true
 | .bool _=>true
 | .aG _=>true
 | .str _=>true
 | _=>false
section
variable{P:Program}{r:Operand->Value}{d:Option Nat}{ty:TypeId}{pos:String}{aft:Array Edge}{gd:Option (Nat×Bool)}{u v:Value}{w w':World}
variable{ρ ρ':Nat->Option Rl}{base kc:Nat}{ro ro':Nat->Prop}{ge:Nat->Option En}
theorem ah.Zt{x:AV}(h:ah w ρ base ro x v)(hx:x.rY=true):ah w' ρ' kc ro' x v:=by
 cases h<;>first|exact .int _ _|exact .lit _ _|exact .bool _|exact .aG _|exact .str _|cases hx
theorem ah.alC{x:AV}(h:ah w ρ base ro x v)(h':ah w' ρ' kc ro' x u)(hx:x.rY=true):v=u:=by
 cases h<;>first|(cases h'; rfl)|cases hx
theorem Kl{x:AV}{n:Unit->Int}(h:x.asInt=some (k,n)):x.rY=true:=by
 cases x<;>first|rfl|cases h
theorem Zu{x:AV}{n:Unit->Bool}(h:x.asBool=some n):x.rY=true:=by
 cases x<;>first|rfl|cases h
theorem Zv{a b:Unit->Int}{av:AV}(h:arith op k a b=some (av,vcs)):av.rY=true:=by
 unfold arith at h;split at h<;>first|(split at h<;>(cases h; rfl))|(cases h; rfl)|cases h
theorem Zw{a b:Unit->Int}{av:AV}(h:BV ti op k a b=some (av,vcs)):av.rY=true:=by
 unfold BV at h;split at h
 . unfold OB at h;split at h<;>first|(cases h; rfl)|exact Zv h
 . exact Zv h
theorem alD{a b av:AV}(h:zI ti op a b=some (av,vcs)):a.rY=true/\b.rY=true/\av.rY=true:=by
 have Fl:∀ op,BW op a b=some (av,vcs)->a.rY=true/\b.rY=true/\av.rY=true:=by
  intro op h;unfold BW at h;split at h
  . rename_i k m k' n e1 e2;cases h;exact⟨Kl e1,Kl e2,rfl⟩
  . cases h
 unfold zI at h;split at h
 . exact Fl _ h
 . exact Fl _ h
 split at h
 . split at h
   . rename_i k m k' n _;split at h
     . rename_i q hf;cases h;refine⟨rfl,rfl,?_⟩;unfold fold at hf;split at hf<;>first|(cases hf; rfl)|(cases hf; done)|(split at hf<;>first|(cases hf; rfl)|cases hf)
     . exact⟨rfl,rfl,Zw h⟩
   . cases h
 . unfold IT at h;split at h<;>first|(cases h; exact⟨rfl,rfl,rfl⟩)|cases h
 . split at h
   . rename_i k a' k' b' h1 h2;split at h
     . exact⟨Kl h1,Kl h2,Zw h⟩
     . cases h
   . split at h
     . rename_i a' b' h1 h2;split at h
       . unfold IU at h;split at h<;>first|(cases h; exact⟨Zu h1,Zu h2,rfl⟩)|cases h
       . cases h
     . cases h
theorem Zx{tb:kd}{cs:List aH}{g:Operand->AV}{op:Op}{av:AV}(pV:qB op=true)(aA:cS P tb)(cF:∀ loc e,ge loc=some e->c7 w ρ base ro loc e)(hg:∀ x∈op.operands,ah w ρ base ro (g x) (r x))(h:nX tb cs ge g op=some (av,vcs))(hv:∀ c∈vcs,c ()):∃ v,(∀ w',(execOp r ⟨d,op,ty,pos,aft,gd⟩).run P w' = .ok (.value v) w')/\ah w ρ base ro av v:=by
 cases op<;>simp only [qB,dS] at pV
 case move x =>
  simp only [nX,bI,rz] at h;obtain⟨rfl,rfl⟩:=h;exact⟨r x,fun w'=>Wr rfl,hg _ iC⟩
 case assign x =>
  simp only [nX,bI,rz] at h;obtain⟨rfl,rfl⟩:=h;exact⟨r x,fun w'=>Ws rfl,hg _ iC⟩
 case binOp op T x y t' =>
  simp only [nX] at h;have hx:=hg x iC;have hy:=hg y ya;by_cases oQ:(∃ cs,g x = .agg cs)/\∃ ds,g y = .agg ds
  . obtain⟨⟨cs,h1⟩,ds,h2⟩:=oQ;rw [h1,h2] at h;rw [h1] at hx;rw [h2] at hy;exact Xo (d:=d) (ty:=ty) (pos:=pos) (aft:=aft) (gd:=gd) aA h hx hy
  replace h:zI (fy tb T) op (g x) (g y)=some (av,vcs):=by
   unfold Er at h;split at h
   . rename_i cs ds h1 h2;exact (oQ ⟨⟨cs,h1⟩,ds,h2⟩).elim
   . exact h
  obtain⟨h1,h2,h3⟩:=alD h;obtain⟨v,k1,k2⟩:=OH (d:=d) (ty:=ty) (pos:=pos) (aft:=aft) (gd:=gd) (t':=t') aA h hv hx hy;refine⟨v,fun w' => ?_,k2⟩;obtain⟨v',k3,k4⟩:=OH (w:=w') (ρ := ρ) (base:=base) (ro:=ro) (d:=d) (ty:=ty) (pos:=pos) (aft:=aft) (gd:=gd) (t':=t') aA h hv (hx.Zt h1) (hy.Zt h2);rw [k2.alC k4 h3];exact k3
 case unOp op T x =>
  have hx:=hg x iC;have hn:∀ k n w',r x = .int k n->(execOp r ⟨d,.unOp .neg T x,ty,pos,aft,gd⟩).run P w' = .ok (.value (.int k (k.wrap (-n)))) w':=by
   intro k n w' he;exact XL
  cases op<;>simp only [nX] at h
  all_goals first|cases h|skip
  all_goals (split at h<;>try cases h)
  . rename_i k n he;rw [he] at hx;exact⟨_,fun w'=>hn _ _ w' hx.mw,.lit _ _⟩
  . rename_i n he;rw [he] at hx;refine⟨_,fun w'=>hn _ _ w' hx.iA,?_⟩;rw [zO (hv _ (.head _))];exact .int _ fun _ => -n ()
  . rename_i k n _ he;rw [he] at hx;exact⟨_,fun w'=>hn _ _ w' hx.iA,.int _ fun _=>k.wrap (-n ())⟩
  . rename_i b he;rw [he] at hx;exact⟨_,fun w'=>Iw hx.pH rfl,.aG _⟩
  . rename_i b he;rw [he] at hx;exact⟨_,fun w'=>Iw hx.oR rfl,.bool _⟩
 case convert s t x =>
  have hx:=hg x iC;simp only [nX] at h;split at h
  . rename_i k0 k kk n e1 e2 he;cases h;rw [he] at hx;obtain⟨i1,_,h1,h2⟩:=eU aA e1;obtain⟨i2,_,h3,h4⟩:=eU aA e2;obtain⟨Je,fN,_⟩:=m9 h2;exact⟨_,fun w'=>BT hx.mw fN (BZ h4 h3) rfl rfl,.lit _ _⟩
  . rename_i k0 k kk n e1 e2 he;rw [he] at hx;obtain⟨i1,_,h1,h2⟩:=eU aA e1;obtain⟨i2,_,h3,h4⟩:=eU aA e2;obtain⟨Je,fN,_⟩:=m9 h2;split at h
    . rename_i hk;subst hk;cases h;exact⟨_,fun w'=>BT hx.iA fN (BZ h4 h3) (zO (hv _ (.head _))) rfl,.int _ _⟩
    . cases h;exact⟨_,fun w'=>BT hx.iA fN (BZ h4 h3) rfl rfl,.int _ fun _=>k.wrap (n ())⟩
  . cases h
 case fieldAddr T x f =>
  have hx:=hg x iC;simp only [nX] at h
  cases hT:ak tb T with
  | none=>rw [hT] at h; cases h
  | some i =>
   rw [hT] at h;simp only [DH] at h;split at h
   . rename_i off sz a hf;split at h
     . cases h
     . rename_i aN
       cases ha:zJ (g x) off with
       | none=>rw [ha] at h; cases h
       | some mA =>
        rw [ha] at h;cases h;obtain⟨b,o,h1,h2⟩:=OJ ha hx;exact⟨_,fun w'=>Wu h1 (Xb (aA T i hT) hf (by simpa using aN)) rfl,h2⟩
   . cases h
 case extract x i =>
  have hx:=hg x iC;simp only [nX] at h;split at h
  . rename_i l he
    cases hl:l[i]? with
    | none=>rw [hl] at h; cases h
    | some mA =>
     rw [hl] at h;cases h;rw [he] at hx;obtain⟨vs,h1,hE⟩:=hx.I1;obtain⟨v,h2,h3⟩:=hE.get hl;exact⟨v,fun w'=>Wx h1 (by simpa using h2),h3⟩
  . cases h
 case indexAddr T x y =>
  have hx:=hg x iC;have hy:=hg y ya;simp only [nX] at h;split at h
  . rename_i e sz b fr t l kk k e1 e2 e3;split at h
    . rename_i hs;cases h;rw [e2] at hx;obtain⟨i,_,h1,h2⟩:=eU aA e1;obtain⟨v,k1,k2⟩:=OP (d:=d) (ty:=ty) (pos:=pos) (aft:=aft) (gd:=gd) h2 h1 (eq_of_beq hs) hx (ji e3 hy) (hv _ (.head _));exact⟨v,k1,k2⟩
    . cases h
  . rename_i e sz b fr t l n kk k e1 e2 e3;split at h
    . rename_i hs;cases h;rw [e2] at hx;obtain⟨i,_,h1,h2⟩:=eU aA e1;obtain⟨v,k1,k2⟩:=Xt (d:=d) (ty:=ty) (pos:=pos) (aft:=aft) (gd:=gd) h2 h1 (eq_of_beq hs) hx (ji e3 hy) (hv _ (.head _));exact⟨v,k1,k2⟩
    . cases h
  . rename_i e sz b kk k e1 e3 _ _;obtain⟨i,_,h1,h2⟩:=eU aA e1;exact Xf (d:=d) (ty:=ty) (pos:=pos) (aft:=aft) (gd:=gd) cF h2 h1 h hx (ji e3 hy) hv
  . exact Xv (d:=d) (ty:=ty) (pos:=pos) (aft:=aft) (gd:=gd) aA h hx hy
end
section
variable{P:Program}{w w' w0:World}{S0:Pm}{Φ : Pm->Prop}{N:Nat}{B:Bs}{S:Sx}{a a0:Act}{C:Cx}{Q:Exit->Act->World->Prop}
theorem Zy(aA:cS P C.ty)(aC:mK P C w0 Φ)(ho:l[i]? = some o){k:Sx->Fm}(hk:∀ S' a' w',aP w0 Φ N B S' a' w'->(k S').P->K a' w')(h:(ch C N B l [o] S k).P)(H:aP w0 Φ N B S a w):wpOpIn Fence.wide 0 P l.toArray Q i K a w:=by
 obtain⟨r,S1,lq,Ap⟩:=Kk h;obtain⟨hw,H1⟩:=lq.seq H;unfold wpOpIn;simp only [Dy,ho];rcases Ap with ⟨rfl,⟨S2,vcs,hs,hv,h2⟩|⟨f,hs,h2⟩⟩|⟨rfl,S2,hs,h2⟩
 . rw [aw hw];exact (Y9 aA aC H1 hs hv).wp fun a' w' H2=>hk _ _ _ H2 h2
 . rw [aw hw];exact (Zc aA aC H1 hs h2).wp fun a' w' ⟨S',H2,h3⟩=>hk _ _ _ H2 h3
 . rw [ar (by rw [hw]; simp)];exact⟨fun _ _=>trivial,hk _ _ _ (Qs H1 hs) h2⟩
theorem alE{op:Op}(h:qB op=true):kD ef op=true:=by cases op<;>first|rfl|cases h
theorem Zz(aA:cS P C.ty)(pV:qB o.op=true)(hd:o.dst=some d){k:Sx->Fm}(h:(ch C N B l [o] S k).P)(H:aP w0 Φ N B S a w):∃ v S',Yields P l.toArray o v a/\aP w0 Φ N B S' (a.put o.dst v) w/\(k S').P:=by
 obtain⟨r,S1,lq,Ap⟩:=Kk h;obtain⟨hw,H1⟩:=lq.seq H;have hp:kD (cb C) o.op=true:=alE pV;rcases Ap with ⟨rfl,⟨S2,vcs,hs,hv,h2⟩|⟨f,hs,h2⟩⟩|⟨rfl,S2,hs,h2⟩
 . unfold og at hs;split at hs
   . rename_i av Ki uM;rw [hd] at hs;dsimp only at hs
     cases gH:bP B S1 N d av with
     | none=>rw [gH] at hs; cases hs
     | some S3 =>
      rw [gH] at hs;cases hs;obtain⟨S0,hS,ρ,ro,H1⟩:=H1;obtain⟨dst,op,ty,pos,aft,gd⟩:=o;obtain⟨v,h8,h9⟩:=Zx (P:=P) (d:=dst) (ty:=ty) (pos:=pos) (aft:=aft) (gd:=gd) (r:=a.eval) pV aA (fun q e he=>H1.en q e he) (fun x _=>H1.get x) uM hv;refine⟨v,S2,.inl ⟨hw,h8⟩,⟨S0,hS,ρ,ro,?_⟩,h2⟩;have pD:dst=some d:=hd;subst pD;exact H1.put gH h9
   . rw [Zf hp] at hs;dsimp only at hs;rw [Zg hp] at hs;dsimp only at hs;rw [Zh hp] at hs;dsimp only at hs;rw [Zi hp] at hs;cases hs
 . rw [Zj hp] at hs;cases hs
 . exact⟨undef,S2,.inr ⟨hw,rfl⟩,Qs H1 hs,h2⟩
theorem Cw{k:Nat}{l:List Nat}:bF d (k::l)=(k==d||bF d l):=rfl
theorem Cy(aN:listed.size=l.length)(hL:∀ j,LL listed j=bF j done)(i):i∈mF l done↔i∈Region.ready .any l.toArray listed:=by
 unfold mF;rw [H8,gP,mem_ready];have hg:∀ j,listed.getD j false=bF j done:=fun j=>hL j;constructor
 . rintro⟨hi,h⟩
   rw [bp hi] at h;simp only [au,iG,aha,gz] at h;refine⟨?_,l[i],by simp [hi],fun e he hb => ?_⟩
   . have h1:=hg i;rw [h.1,pz,pA oo] at h1;rw [pz,pA oo];exact h1
   . rw [hg];rcases h.2 e he with h2|h2
     . rw [hb] at h2; cases h2
     . exact h2
 . rintro⟨h1,o,ho,h2⟩
   have ho':l[i]? = some o:=by simpa using ho
   have hi:=(cM.1 ho').1;refine⟨hi,?_⟩;rw [ho'];simp only [au,iG,aha,gz];refine⟨?_,fun e he => ?_⟩
   . rw [<- hg,pz,pA oo];rw [pz,pA oo] at h1;exact h1
   . cases hb:Region.binds .any e with
     | false=>exact .inl rfl
     | true=>exact .inr (by rw [<- hg]; exact h2 e he hb)
theorem ZA{f:Nat->Fm}:∀ {is:List Nat},(JB is f).P->∀ i∈is,(f i).P
 | [],h,_,_=>h.elim
 | [i],h,j,hj=>by rw [kq] at hj; subst hj; exact h
 | i::k::is,h,j,hj=>by
  rcases fZ.1 hj with rfl|hj
  . exact h.1
  . exact ZA h.2 j hj
theorem Fo{l:List Oper}:∀ {is:List Nat} {i:Nat},ym l is=some i->i∈is/\∃ o d,l[i]? = some o/\qB o.op=true/\o.dst=some d/\wB l i=true
 | [],i,h=>by cases h
 | j::is,i,h=>by
  unfold ym at h
  cases ho:l[j]? with
  | none =>
   rw [ho] at h;dsimp only at h;rw [if_neg (by simp)] at h;obtain⟨h1,h2⟩:=Fo h;exact⟨.tail _ h1,h2⟩
  | some o =>
   rw [ho] at h;dsimp only at h;split at h
   . rename_i hc;injection h with h;subst h;simp only [au,Vk] at hc;obtain⟨⟨h1,d,h2⟩,h3⟩:=hc;exact⟨.head _,o,d,ho,h1,h2,h3⟩
   . obtain⟨h1,h2⟩:=Fo h;exact⟨.tail _ h1,h2⟩
theorem QK(aA:cS P C.ty)(aC:mK P C w0 Φ){l:List Oper}{k:Sx->Fm}(gr:∀ (j:Nat) (o) cs b,l.toArray[j]? = some o->o.op ≠ .select cs b)(hQ:∀ c a w,¬ Q (.panic c) a w)(hk:∀ S' a' w',aP w0 Φ N B S' a' w'->(k S').P->Q .normal a' w') :
 ∀ (fuel) (done) (S) (a) (w) (listed),(sU C N B l fuel done S k).P->aP w0 Φ N B S a w->listed.size=l.length->(∀ j,LL listed j=bF j done)->wpAnyIn Fence.wide 0 P .any l.toArray Q fuel listed a w
 | 0,done,S,a,w,listed,h,H,aN,hL=>by
  have hr:=Cy (l:=l) aN hL;unfold sU at h;split at h
  . rename_i he;rw [he] at hr;exact⟨Be.2 fun i hi=>(by have:=(hr i).2 hi; cases this),hk _ _ _ H h⟩
  . exact h.elim
 | fuel+1,done,S,a,w,listed,h,H,aN,hL=>by
  have hr:=Cy (l:=l) aN hL;have jb:∀ i,i∈mF l done->(match l[i]? with
   | some o=>ch C N B l [o] S fun S'=>sU C N B l fuel (i::done) S' k
   | none => .ff 19:Fm).P->wpOpIn Fence.wide 0 P l.toArray Q i (wpAnyIn Fence.wide 0 P .any l.toArray Q fuel (listed.setIfInBounds i true)) a w:=by
   intro i hi h;obtain⟨qK,o,ho,_⟩:=mem_ready.1 ((hr i).1 hi);have ho':l[i]? = some o:=by simpa using ho
   rw [ho'] at h;have aj:=(cM.1 ho').1;exact Zy aA aC ho' (fun S' a' w' H' h'=>QK aA aC gr hQ hk fuel _ _ _ _ _ h' H' (by simp [aN]) fun j=>by
    rw [BC oo,hL,Cw];by_cases e:j=i
    . subst e; simp
    . rw [ar e];have:(i==j)=false:=by simpa using fun h=>e h.symm
      rw [this,rB]) h H
  unfold sU at h;dsimp only at h;split at h
  . rename_i he;rw [he] at hr;have QL:Region.ready .any l.toArray listed = []:=Be.2 fun i hi=>by have:=(hr i).2 hi; cases this
    exact⟨fun _=>hk _ _ _ H h,fun i hi=>by rw [QL] at hi; cases hi⟩
  . rename_i i he;have gU:i∈mF l done:=by rw [he]; exact .head _
    refine⟨fun hn => ?_,fun j hj => ?_⟩
    . have:=(hr i).1 gU;rw [hn] at this;cases this
    . have:=(hr j).2 hj;rw [he,kq] at this;subst this;exact jb _ gU h
  . have aT:∀ (P:Prop),Region.ready .any l.toArray listed = []->(∃ i,i∈mF l done)->P:=fun P hn ⟨i,hi⟩=>by
     have:=(hr i).1 hi;rw [hn] at this;cases this
    split at h
    . rename_i i hf;obtain⟨gU,o,d,ho,pV,hd,ja⟩:=Fo hf;rw [ho] at h;obtain⟨v,S',hy,H',h'⟩:=Zz aA pV hd h H;have hi:=(hr i).1 gU;obtain⟨_,o2,pX,mL⟩:=mem_ready.1 hi;have aj:=(cM.1 ho).1;have heq:o2=o:=by
       have h1:l[i]? = some o2:=by simpa using pX
       rw [ho] at h1;injection h1 with h1;exact h1.symm
      subst heq;refine wpAnyIn_first rfl pX gr (fun c a w hq=>(hQ c _ w hq).elim) fuel listed a w (fun j oj eo aT ib jl => ?_) hi ⟨hy,fun w=>PK pV _ w⟩ ?_
      . rcases QB ja ho Fi aT with ⟨e,he,hb,uO⟩|⟨e,he,hb,uO⟩|h3
        . have h4:=mL e he hb;exact QE
        . exact absurd uO (jl e he hb)
        . exact h3
      . exact QK aA aC gr hQ hk fuel _ _ _ _ _ h' H' (by simp [aN]) fun j=>by
         rw [BC oo,hL,Cw];by_cases e:j=i
         . subst e; simp
         . rw [ar e];have:(i==j)=false:=by simpa using fun h=>e h.symm
           rw [this,rB]
    . refine⟨fun hn=>aT _ hn ?_,fun j hj=>jb j ((hr j).2 hj) (ZA h j ((hr j).2 hj))⟩;rename_i hx _ _ _
      cases he:mF l done with
      | nil=>exact (hx he).elim
      | cons i is=>exact⟨i,.head _⟩
theorem ZB{l:List Oper}{np:Nat}(ki:Ck l np=true)(fi:∀ (j) (o),l[j]? = some o->∀ e∈o.after,Region.binds .any e=true->e.on<j) :
 ∀ (m k) (a) (w) (listed),k+m=l.length->np<=k->listed.size=l.length->(∀ j,LL listed j=decide (j<k))->wpListIn Fence.wide 0 P l.toArray Q (l.drop k) a w->wpAnyIn Fence.wide 0 P .any l.toArray Q m listed a w
 | m,k,a,w,listed,hm,hn,aN,hL,hw=>by
  have hg:∀ j,listed.getD j false=decide (j<k):=fun j=>hL j;have ZC:∀ i∈Region.ready .any l.toArray listed,i=k:=by
   intro i hi;obtain⟨qK,o,ho,mL⟩:=mem_ready.1 hi;have ho':l[i]? = some o:=by simpa using ho
   have aj:=(cM.1 ho').1;have h1:¬ i<k:=fun h=>by
    have h2:=hg i;rw [pz,pA oo] at h2 qK;simp only [gZ] at h2 qK;rw [qK] at h2;simp [h] at h2
   have hc:=dK.1 ki i (gP.2 aj);rw [ho'] at hc;simp only [gz,aI,H4,au,b9] at hc;rcases cw k i with h|h
   . rcases hc with hc|⟨e,he,hb,uO⟩
     . omega
     . have h3:=mL e he hb;rw [hg,aI] at h3;omega
   . omega
  match m with
  | 0 =>
   rw [Bh oo] at hw;refine⟨Be.2 fun i hi => ?_,hw⟩;have h1:=ZC i hi;obtain⟨_,o,ho,_⟩:=mem_ready.1 hi;have ho':l[i]? = some o:=by simpa using ho
   have aj:=(cM.1 ho').1;omega
  | m+1 =>
   have aj:k<l.length:=oo
   have hk:k∈Region.ready .any l.toArray listed:=by
    rw [mem_ready];refine⟨?_,l[k],by simp [aj],fun e he hb => ?_⟩
    . have h2:=hg k;rw [pz,pA oo] at h2 ⊢;simpa using h2
    . rw [hg,aI];exact fi k _ (bp aj) e he hb
   refine⟨fun h=>(by rw [h] at hk; cases hk),fun i hi => ?_⟩;obtain rfl:=ZC i hi;rw [vD aj] at hw;have hst:wpOpIn Fence.wide 0 P l.toArray Q i (wpListIn Fence.wide 0 P l.toArray Q (l.drop (i+1))) a w:=by
    unfold wpOpIn;simp only [Dy,bp aj];exact hw
   refine wpOpIn_mono (fun a' w' h' => ?_) hst;refine ZB ki fi m (i+1) a' w' _ oo oo (by simp [aN]) (fun j => ?_) h';rw [BC oo,hL];by_cases e:j=i
   . simp [e]
   . rw [ar e];by_cases h:j<i
     . simp [h,show j<i+1 from oo]
     . simp [h,show ¬ j<i+1 from oo]
theorem ZD:bF j (List.range n)=decide (j<n):=by
 have h:∀ (l:List Nat),bF j l=decide (j∈l):=by
  intro l
  induction l with
  | nil=>rfl
  | cons k l ih =>
   rw [Cw,ih];by_cases e:j=k
   . subst e; simp
   . have:(k==j)=false:=by simpa using fun h=>e h.symm
     rw [this,rB];simp [e]
 rw [h];simp
end
section
variable{P:Program}{w w' w0:World}{Φ : Pm->Prop}{N:Nat}{B:Bs}{S:Sx}{a a0:Act}{C:Cx}{Q:Exit->Act->World->Prop}
theorem QM{l:List Oper}{s:Nat}:∀ {i:Nat},qv l s i=none->∀ k,k<i->∀ o,l[k]? = some o->o.dst≠some s
 | 0,_,k,hk,_,_=>oo
 | i+1,h,k,hk,o,ho=>by
  rw [Zk] at h;split at h
  . cases h
  . rename_i hb;rcases cw k i with h1|h1
    . exact QM h k h1 o ho
    . obtain rfl:k=i:=oo
      rw [ho] at hb;simpa using hb
theorem alF(hj:j<i)(eo:l[j]? = some oj)(hd:oj.dst=some s):∃ k,qv l s i=some k:=by
 cases h:qv l s i with
 | some k=>exact⟨k,rfl⟩
 | none=>exact absurd hd (QM h j hj oj eo)
theorem ZE{me:Bool}:∀ {l:List Oper} {i:Nat} {o:Oper},i<z7 (cb C) me l->l[i]? = some o->kD (cb C) o.op=true
 | [],i,o,h,_=>by simp [z7] at h
 | o'::l,i,o,h,ho=>by
  unfold z7 at h;split at h
  . rename_i hp
    cases i with
    | zero =>
     simp only [oH,bI] at ho;subst ho;exact (au _ _▸hp:_/\_).1
    | succ i=>exact ZE (me:=me) (l:=l) (i:=i) oo (by simpa using ho)
  . omega
theorem alG(h:i<rW (cb C) l)(ho:l[i]? = some o):kD (cb C) o.op=true:=ZE h ho
theorem ZF(me):∀ (l),z7 (cb C) me l<=l.length
 | []=>az _
 | o::l=>by
  unfold z7;split
  . have:=ZF me l; simp; omega
  . simp
theorem ZG(l):rW (cb C) l<=l.length:=ZF _ l
def Km(ρ:Nat->Option Rl)(base:Nat)(ro:Nat->Prop)(ai:List (Option AV))(i:Nat)(v:Value)(w:World):Prop :=
 (∀ av,ai[i]? = some (some av)->ah w ρ base ro av v)/\(ai[i]? = some none->v=undef)
theorem ZH{id:Nat}(pW:∀ o∈ops,∀ c,o.op ≠ .defer c)(aA:cS P C.ty)(aC:mK P C w0 Φ)(kg:P.follows .mixedOrders=true){late:Sx->Fm}(hQ:∀ c a w,¬ Q (.panic c) a w)(bS:Cj (cb C) σ np ops N=true)(alH:∀ S' a' w' listed,(late S').P->aP w0 Φ N B S' a' w'->listed.size=(ck σ ops).length->(∀ j,LL listed j=decide (j<np))->(∀ (j) (o),(ck σ ops)[j]? = some o->∀ e∈o.after,Region.binds .any e=true->e.on<j)->(∀ (j:Nat) (o) cs b,(ck σ ops).toArray[j]? = some o->o.op ≠ .select cs b)->wpAnyIn Fence.wide 0 P .any (ck σ ops).toArray Q ((ck σ ops).length - np) listed a' w')(h:(ch C N B (ck σ ops) ((ck σ ops).take np) S late).P)(H:aP w0 Φ N B S a0 w):(Code.region id ops.toArray true).wpIn (wd r) 0 P Q a0 w:=by
 unfold Cj at bS;simp only [au,aI] at bS;obtain⟨Fp,alI,jc,hO,hd,alJ,alK,alL⟩:=bS;have hlen:(ck σ ops).length=ops.length:=by unfold ck; simp [Aq jc]
 refine alw pW jc kg ?_;rw [<- hlen];clear hlen jc;generalize ck σ ops=l at *
 show wpAnyIn Fence.wide 0 P .any l.toArray Q l.length (Array.replicate l.length false) a0 w.drew
 obtain⟨S0,hS,ρ,ro,H⟩:=H;rw [<- H.size] at hd;have jm:∀ o∈l.take np,kD (cb C) o.op=true/\∃ d,o.dst=some d:=by
  intro o ho;obtain⟨i,hi⟩:=kW.1 ho;have aj:=(cM.1 hi).1;rw [eC] at hi;split at hi
  . rename_i hinp;obtain⟨d,fN,_,_⟩:=DW hd hinp hi;exact⟨dK.1 alI o ho,d,fN⟩
  . cases hi
 rw [<- qk (l.take np)] at h;obtain⟨ai,S',yD,yE⟩:=Qx jm h
 replace yE:(late S').P:=yE
 have ir:w0.heap.size<=w.heap.size:=H.from_.size;obtain⟨rr,rZ⟩:∃ rr:Nat->Prop,rr=fun b=>ro b\/w.heap.size<=b:=⟨_,rfl⟩
 have uv:∀ {w1:World},cU w w1->∀ b,rr b->b<w1.heap.size->∀ {w2:World},cU w1 w2->w2.heap[b]? = w1.heap[b]? := fun _ b _ aj _ h2=>h2.block b aj;have Cz:∀ (L:Nat->Bool) (val:Nat->Value) (w1:World),cU w w1->Claim B l a0 w1 ρ w0.heap.size rr L val 0 S:=by
  intro L val w1 hb s x hx;obtain⟨u,h1,h2⟩:=H.tm s x hx;exact⟨u,h1,h2.mono (fun b _ aj=>hb.block b aj) (Ext.refl _) (az _) fun b hb=>by rw [rZ]; exact .inl hb⟩
 have CA:∀ j o,(l.take np)[j]? = some o->l[0+j]? = some o:=fun j o hj=>by
  rw [hZ];rw [eC] at hj;split at hj
  . exact hj
  . cases hj
 have Cv:∀ i,uF l np i=true->i<np:=fun i hi=>by
  unfold uF at hi;simp only [au,aI] at hi;exact hi.1
 have gr:∀ (j:Nat) (o:Oper) cs b,l.toArray[j]? = some o->o.op ≠ .select cs b:=fun j o cs b ho e=>by
  have:=dK.1 alL o (gX (i:=j) (by simpa using ho));rw [e] at this;cases this
 have ja:∀ i,uF l np i=true->wB l i=true:=fun i hi=>by
  have:=dK.1 alK i (gP.2 (Cv i hi));rw [hi] at this;simpa using this
 have core:∀ i o,i<np->l[i]? = some o->∀ (L:Nat->Bool) (a1:Act) (w1:World) (val:Nat->Value) (lo mn:Nat->Nat),Made w a0 l np (fun i v _ _ w=>Km ρ w0.heap.size rr ai i v w) L a1 w1 val lo mn->(∀ e∈o.after,Region.binds .any e=true->L e.on=true)->L i=false->(∀ j oj,L j=true->l[j]? = some oj->∀ e∈oj.after,Region.binds .any e=true->L e.on=true) ->
  cU w w1/\((Region.wanted o (yielded l.toArray a1.tmps)=true/\∃ S1 av vcs,ai[i]? = some (some av)/\nX C.ty C.cs (bc B S) (bT B S1) o.op=some (av,vcs)/\(∀ c∈vcs,c ())/\∀ x∈o.op.operands,ah w1 ρ w0.heap.size (fun b=>(ro b\/w.heap.size<=b)/\b<w1.heap.size) (bT B S1 x) (a1.eval x))\/(Region.wanted o (yielded l.toArray a1.tmps)=false/\ai[i]? = some none)):=by
  intro i o hi ho L a1 w1 val lo mn M mL Fq Fs;have hb:=M.zy;have hC0:=Cz L val w1 hb;have Cm:∀ j av,ai[j]? = some (some av)->L (0+j)=true->ah w1 ρ w0.heap.size rr av (val (0+j)):=by
   intro j av hj hL;rw [hZ] at hL ⊢;obtain⟨q1,_,_,_,q5⟩:=Path.yB (L:=fun _=>false) (val:=val) (a0:=a0) (w:=w1) (ρ := ρ) (base:=w0.heap.size) (ro:=rr) (i:=0) yD CA (Cz _ val w1 hb) (fun j av _ h=>by cases h) (fun j _ h=>by cases h);have uR:j<np:=by
    have:=(cM.1 hj).1;rw [q5,c6] at this;omega
   exact (M.rows j uR hL).2.2.2.1 av hj
  have fq:∀ j,ai[j]? = some none->L (0+j)=true->val (0+j)=undef:=by
   intro j hj hL;rw [hZ] at hL ⊢;obtain⟨q1,_,_,_,q5⟩:=Path.yB (L:=fun _=>false) (val:=val) (a0:=a0) (w:=w1) (ρ := ρ) (base:=w0.heap.size) (ro:=rr) (i:=0) yD CA (Cz _ val w1 hb) (fun j av _ h=>by cases h) (fun j _ h=>by cases h);have uR:j<np:=by
    have:=(cM.1 hj).1;rw [q5,c6] at this;omega
   exact (M.rows j uR hL).2.2.2.2 hj
  obtain⟨hst,_,_,_,_⟩:=Path.yB (L:=L) (val:=val) (i:=0) yD CA hC0 Cm fq;have hot:(l.take np)[i]? = some o:=by rw [aw6 hi]; exact ho
  obtain⟨S0,S1,r,oU,gG,jN,lq,qx⟩:=hst i o hot;rw [hZ] at oU gG;have gS:=dK.1 alJ i (gP.2 hi);simp only [ho,au] at gS;obtain⟨⟨ia,gr⟩,gS⟩:=gS;have ho':l.toArray[i]? = some o:=by simpa using ho
  have ZI:∀ j,(o.after.any fun e=>Region.binds .any e&&e.on==j)=true->L j=true:=by
   intro j he;rw [H4] at he;obtain⟨e,jN,qF⟩:=he;simp only [au,b9] at qF;have:=mL e jN qF.1;rwa [qF.2] at this
  -- zG guard
  have QN:∀ d j,j<i->(o.after.any fun e=>Region.binds .any e&&e.on==j)=true->∀ oj,l[j]? = some oj->oj.dst=some d->∀ x,dH B S0 d=some x->∃ u,a1.tmps[d]? = some u/\ah w1 ρ w0.heap.size rr x u:=by
   intro d j qL he oj eo gC x hx;obtain⟨k',fP⟩:=alF qL eo gC;obtain⟨h1,ok,h2,h3⟩:=IB fP;obtain⟨d',fN,_,hu⟩:=DW hd (show j<np from oo) eo;rw [gC] at fN;injection fN with fN;subst fN;have hkj:k'=j:=hu k' ok oo h2 h3;subst hkj;have h4:=oU d x hx;rw [fP] at h4;have Ft:=ZI k' he;exact⟨val k',M.DV k' oj d oo eo gC Ft,h4 Ft⟩
  have s9:Region.wanted o (yielded l.toArray a1.tmps)=r:=by
   cases lq with
   | free hg=>exact VU hg _
   | lit j d b c oj hg hj gC hc =>
    rw [hg] at ia;simp only [au,aI] at ia;obtain⟨u,h1,h2⟩:=QN d j ia.1 ia.2 oj hj gC _ (Ao hc (by simp));rw [h2.pH] at h1;exact Ij hg (by simpa using hj) gC h1 rfl
   | gone j d b oj hg hj gC hc =>
    rw [hg] at ia;simp only [au,aI] at ia;obtain⟨u,h1,h2⟩:=QN d j ia.1 ia.2 oj hj gC _ (Ao hc (by simp));rw [Ze h2] at h1;exact Zd hg hj gC h1
   | ask j d b c oj S2 hg hj gC hc hp =>
    rw [hg] at ia;simp only [au,aI] at ia;obtain⟨u,h1,h2⟩:=QN d j ia.1 ia.2 oj hj gC _ (Ao hc (by simp));rw [h2.oR] at h1;exact Ij hg (by simpa using hj) gC h1 rfl
  refine⟨hb,?_⟩;rcases qx with ⟨rfl,av,vcs,er,uM,hv⟩|⟨rfl,er⟩
  . have Fu:∀ x∈o.op.operands,ah w1 ρ w0.heap.size (fun b=>(ro b\/w.heap.size<=b)/\b<w1.heap.size) (bT B S1 x) (a1.eval x):=by
     intro x hx;have h1:=dK.1 gS x (by simpa using hx)
     cases x with
     | const v=>exact WV v
     | func f=>exact .fn f [] [] rfl fun j x v h=>by simp at h
     | global g=>exact .un _
     | tmp s =>
      show ah _ _ _ _ (n9 B S1 s) _
      cases hl:dH B S1 s with
      | none=>unfold n9; rw [hl]; exact .un _
      | some y =>
       have hy:n9 B S1 s=y:=by unfold n9; rw [hl]
       rw [hy];have h2:=gG s y hl;have pS:Og l np i o s=true:=h1;unfold Og at pS;have fA:∀ u,a1.tmps[s]? = some u->ah w1 ρ w0.heap.size rr y u->ah w1 ρ w0.heap.size (fun b=>(ro b\/w.heap.size<=b)/\b<w1.heap.size) y (a1.eval (.tmp s)):=by
        intro u hu hr;rw [VQ hu];have:=hr.bound;rw [rZ] at this;exact this
       cases hp:qv l s i with
       | none =>
        rw [hp] at h2 pS;obtain⟨u,h3,h4⟩:=h2;refine fA u ?_ h4;rw [<- h3];refine M.BD s fun k' ok fP ZJ hdk => ?_;have h5:=dK.1 pS k' (gP.2 fP);simp only [ZJ,hdk,H5,rB] at h5
        cases Ar:L k' with
        | false=>rfl
        | true =>
         rw [H4] at h5;obtain⟨e,he,td⟩:=h5;simp only [au,b9] at td;have h6:=Fs k' ok Ar ZJ e he td.1;rw [td.2,Fq] at h6;cases h6
       | some j =>
        rw [hp] at h2 pS;obtain⟨h3,oj,h4,h5⟩:=IB hp;have Ft:=ZI j pS;exact fA (val j) (M.DV j oj s oo h4 h5 Ft) (h2 Ft)
    have alQ:bc B S1=bc B S:=by funext q; unfold bc; rw [jN]
    rw [alQ] at uM;exact .inl ⟨s9,S1,av,vcs,er,uM,hv,Fu⟩
  . exact .inr ⟨s9,er⟩
 refine alz np (uF l np) (fun i v _ _ w=>Km ρ w0.heap.size rr ai i v w) hO Fp hd Cv (fun i o o8 ho=>by
  unfold uF at o8;rw [ho] at o8;simpa using (au _ _▸o8:_/\_).2) gr hQ ja ?_ ?_ ?_ ?_
 . intro i v lo hi w1 w2 hR yb hb;refine⟨fun av er => ?_,hR.2⟩;exact (hR.1 av er).mono (fun b _ aj=>hb.block b aj) (Ext.refl _) (az _) fun _ h=>h
 . intro i o hi o8 ho L a1 w1 val lo mn M mL Fq Fs;obtain⟨hb,hc⟩:=core i o hi ho L a1 w1 val lo mn M mL Fq Fs;have Hw:=H.calm hb;rcases hc with ⟨s9,S1,av,vcs,er,uM,hv,Fu⟩|⟨s9,er⟩
   . have pV:qB o.op=true:=by
      unfold uF at o8;rw [ho] at o8;simpa using (au _ _▸o8:_/\_).2
     obtain⟨dst,op,ty,pos,aft,gd⟩:=o;obtain⟨v,h8,h9⟩:=Zx (P:=P) (d:=dst) (ty:=ty) (pos:=pos) (aft:=aft) (gd:=gd) (r:=a1.eval) pV aA (fun q e he=>Hw.en q e he) Fu uM hv;refine⟨v,.inl ⟨s9,h8⟩,fun mA l5 => ?_,fun hn=>by rw [er] at hn; cases hn⟩;rw [er] at l5;injection l5 with l5;injection l5 with l5;subst l5;exact h9.mono (fun _ _ _=>rfl) (Ext.refl _) (az _) fun b aW=>by rw [rZ]; exact aW.1
   . refine⟨undef,.inr ⟨s9,rfl⟩,fun mA l5 => ?_,fun _=>rfl⟩;rw [er] at l5;cases l5
 . intro i o hi ho L a1 w1 val lo mn M mL Fq Fs;obtain⟨hb,hc⟩:=core i o hi ho L a1 w1 val lo mn M mL Fq Fs;have Hw:=H.calm hb;have ho':l.toArray[i]? = some o:=by simpa using ho
   rcases hc with ⟨s9,S1,av,vcs,er,uM,hv,Fu⟩|⟨s9,er⟩
   . obtain⟨dst,op,ty,pos,aft,gd⟩:=o;have h7:=XJ (d:=dst) (ty:=ty) (pos:=pos) (aft:=aft) (gd:=gd) (r:=a1.eval) aA aC.cs (fun q e he=>Hw.en q e he) Fu Hw.gn Hw.from_.size uM hv;have hR:∀ v w2,cU w1 w2->ah w2 ρ w0.heap.size (fun b=>((ro b\/w.heap.size<=b)/\b<w1.heap.size)\/w1.heap.size<=b) av v->Km ρ w0.heap.size rr ai i v w2:=by
      intro v w2 _ hr;refine⟨fun mA l5 => ?_,fun hn=>by rw [er] at hn; cases hn⟩;rw [er] at l5;injection l5 with l5;injection l5 with l5;subst l5;refine hr.mono (fun _ _ _=>rfl) (Ext.refl _) (az _) fun b aW => ?_;rw [rZ];rcases aW with ⟨h8,_⟩|h8
      . exact h8
      . exact .inr (e8 hb.size h8)
     rcases h7 with ⟨v,w2,h8,h9,oO⟩|⟨f,args,h8,h9⟩
     . exact PI ho' s9 (JP (by rw [h8]; exact⟨v,rfl,h9,hR v w2 h9 oO⟩))
     . exact PI ho' s9 (gq.wp (K:=fun a' w2=>∃ v,a'=a1.put dst v/\cU w1 w2/\Km ρ w0.heap.size rr ai i v w2) (.inr (.inr (.inl ⟨f,args,h8,h9.mono fun e w2 ⟨v,q1,q2,q3⟩=>⟨v,q1,v,rfl,q2,hR v w2 q2 q3⟩⟩))) fun _ _ h=>h)
   . refine Yc ho' s9 ⟨undef,rfl,cA _ _,fun mA l5 => ?_,fun _=>rfl⟩;rw [er] at l5;cases l5
 . intro val lo hi w1 hb Cm _ listed aN pY;have cr:∀ j av,ai[j]? = some (some av)->(fun _=>true:Nat->Bool) (0+j)=true->ah w1 ρ w0.heap.size rr av (val (0+j)):=by
    intro j av hj _;obtain⟨q1,_,_,_,q5⟩:=Path.yB (L:=fun _=>false) (val:=val) (a0:=a0) (w:=w1) (ρ := ρ) (base:=w0.heap.size) (ro:=rr) (i:=0) yD CA (Cz _ val w1 hb) (fun j av _ h=>by cases h) (fun j _ h=>by cases h);have uR:j<np:=by
     have:=(cM.1 hj).1;rw [q5,c6] at this;omega
    rw [hZ];exact (Cm j uR).2.2.2.1 av hj
   have fq:∀ j,ai[j]? = some none->(fun _=>true:Nat->Bool) (0+j)=true->val (0+j)=undef:=by
    intro j hj _;obtain⟨q1,_,_,_,q5⟩:=Path.yB (L:=fun _=>false) (val:=val) (a0:=a0) (w:=w1) (ρ := ρ) (base:=w0.heap.size) (ro:=rr) (i:=0) yD CA (Cz _ val w1 hb) (fun j av _ h=>by cases h) (fun j _ h=>by cases h);have uR:j<np:=by
     have:=(cM.1 hj).1;rw [q5,c6] at this;omega
    rw [hZ];exact (Cm j uR).2.2.2.2 hj
   obtain⟨_,fA,lS,o4,_⟩:=Path.yB (L:=fun _=>true) (val:=val) (i:=0) yD CA (Cz _ val w1 hb) cr fq;rw [c6,DI Fp,hZ] at fA;have Hw:=H.calm hb;have Fv:=yD.kz H.jL;have fi:=fun j o ho=>QH (j:=j) (o:=o) hO ho
   suffices HS:aP w0 Φ N B S' (oN val 0 (l.take np) a0) w1 from ⟨l.length - np,alH S' _ w1 listed yE HS aN pY fi gr⟩
   refine⟨S0,hS,ρ,_,⟨Hw.from_,by rw [VS]; exact H.size,by rw [NQ]; exact H.defers,Hw.gn,fun s x hx => ?_,fun q e he=>Hw.en q e (by unfold bc at he ⊢; rw [lS] at he; exact he),Hw.apart,fun q hq=>Hw.fresh q (by rw [o4] at hq; exact hq),Hw.own,Hw.eN,Hw.dC,Fv,fun q e he=>by rw [lS]; exact Hw.jM q e he,fun s v hv=>⟨(DX val s _ 0 a0 fun o ho e=>(by have h1:=(H.fm s v hv).2; rw [yD.noB o ho s e] at h1; cases h1)).trans (H.fm s v hv).1,(H.fm s v hv).2⟩⟩⟩;have h1:=fA s x hx;have td:∀ u,ah w1 ρ w0.heap.size rr x u->ah w1 ρ w0.heap.size (fun b=>(ro b\/w.heap.size<=b)/\b<w1.heap.size) x u:=by
    intro u hr;have:=hr.bound;rw [rZ] at this;exact this
   cases hp:qv l s np with
   | none =>
    rw [hp] at h1;obtain⟨u,h2,h3⟩:=h1;refine⟨u,?_,td u h3⟩;rw [<- h2];refine DX val s _ 0 a0 fun o ho => ?_;obtain⟨i,hi⟩:=kW.1 ho;rw [eC] at hi;split at hi
    . rename_i hinp;exact QM hp i hinp o hi
    . cases hi
   | some j =>
    rw [hp] at h1;obtain⟨h2,oj,h3,h4⟩:=IB hp;obtain⟨d,fN,vQ,DY⟩:=DW hd h2 h3;rw [h4] at fN;injection fN with fN;subst fN;refine⟨val j,?_,td _ (h1 rfl)⟩;have h5:=NR val s (l.take np) 0 a0 j oj (by rw [aw6 h2]; exact h3) h4 (fun j' o' gQ ho'=>by
     rw [eC] at gQ;split at gQ
     . rename_i aj;exact DY j' o' aj gQ ho'
     . cases gQ) vQ
    rwa [hZ] at h5
theorem alR(h:ER (cb C) ops N=true):Cj (cb C) (yk (cb C) ops) (rW (cb C) (laid (cb C) ops)) ops N=true:=by
 unfold ER at h;unfold Cj;simp only [au,aI] at h ⊢;refine⟨ZG _,dK.2 fun o ho => ?_,h⟩;obtain⟨i,hi⟩:=kW.1 ho;rw [eC] at hi;split at hi
 . rename_i aj;exact alG aj hi
 . cases hi
theorem alS{id:Nat}(pW:∀ o∈ops,∀ c,o.op ≠ .defer c)(aA:cS P C.ty)(aC:mK P C w0 Φ)(kg:P.follows .mixedOrders=true){k:Sx->Fm}(hQ:∀ c a w,¬ Q (.panic c) a w)(bS:ER (cb C) ops N=true)(hk:∀ S' a' w',aP w0 Φ N B S' a' w'->(k S').P->Q .normal a' w')(h:(JC C N B (laid (cb C) ops) S k).P)(H:aP w0 Φ N B S a0 w):(Code.region id ops.toArray true).wpIn (wd r) 0 P Q a0 w:=by
 refine ZH pW (late:=fun S'=>match Ck (laid (cb C) ops) (rW (cb C) (laid (cb C) ops)) with
  | true=>ch C N B (laid (cb C) ops) ((laid (cb C) ops).drop (rW (cb C) (laid (cb C) ops))) S' k
  | false=>sU C N B (laid (cb C) ops) ((laid (cb C) ops).length - rW (cb C) (laid (cb C) ops)) (List.range (rW (cb C) (laid (cb C) ops))) S' k) aA aC kg hQ (alR bS) (fun S' a' w' listed yE HS aN pY fi gr => ?_) h H
 have Fp:=ZG (C:=C) (laid (cb C) ops);unfold laid at *
 generalize ck (yk (cb C) ops) ops=l at *
 generalize rW (cb C) l=np at *
 cases ki:Ck l np with
 | true =>
  rw [ki] at yE;exact ZB ki fi _ np _ _ listed oo (az _) aN pY (Fh aA aC hk yE HS)
 | false =>
  rw [ki] at yE;exact QK aA aC gr hQ hk _ _ _ _ _ listed yE HS aN fun j=>by rw [pY,ZD]
end
end Go.Proofs.YtlpikgchnjajmaaGreat
