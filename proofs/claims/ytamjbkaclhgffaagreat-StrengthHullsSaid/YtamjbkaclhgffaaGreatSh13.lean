/-
  The abstract run: a region that draws its order is sound.
-/
import Derived.Test.YtamjbkaclhgffaaGreatSh12
set_option linter.all false
namespace Go.Proofs.YtamjbkaclhgffaaGreat
open Go.RowKit
variable{B2:Bs}{ov:List (Nat×AV)}{oe:List (Nat×En)}{aT md σ:List Nat}{Cb l' ops:List Oper}{ta tb:List VC}{d i j m np s:Nat}{o o' oj:Oper}{r:Option Nat}{S:Sx}
section
variable{P:Program}{w w' w0:World}{Φ : Pm->Prop}{N:Nat}{B:Bs}{S:Sx}{a a0:Act}{C:Cx}{Q:Exit->Act->World->Prop}
theorem Tn{l:List Oper}{s:Nat}:∀ {i:Nat},sA l s i=none->∀ k,k<i->∀ o,l[k]? = some o->o.dst≠some s
 | 0,_,k,hk,_,_=>oo
 | i+1,h,k,hk,o,ho=>by
  rw [acw] at h;split at h
  . cases h
  . rename_i hb;rcases cv k i with h1|h1
    . exact Tn h k h1 o ho
    . obtain rfl:k=i:=oo
      rw [ho] at hb;simpa using hb
theorem ari{l:List Oper}(hj:j<i)(eQ:l[j]? = some oj)(hd:oj.dst=some s):∃ k,sA l s i=some k:=by
 cases h:sA l s i with
 | some k=>exact⟨k,rfl⟩
 | none=>exact absurd hd (Tn h j hj oj eQ)
theorem acQ{me:Bool}:∀ {l:List Oper} {i:Nat} {o:Oper},i<BG (cB C) me l->l[i]? = some o->mH (cB C) o.op=true
 | [],i,o,h,_=>by simp [BG] at h
 | o'::l,i,o,h,ho=>by
  unfold BG at h;split at h
  . rename_i hp
    cases i with
    | zero =>
     simp only [pW,bU] at ho;subst ho;exact (aD _ _▸hp:_/\_).1
    | succ i=>exact acQ (me:=me) (l:=l) (i:=i) oo (by simpa using ho)
  . omega
theorem arj{l:List Oper}(h:i<tB (cB C) l)(ho:l[i]? = some o):mH (cB C) o.op=true:=acQ h ho
theorem acR(me:Bool):∀ (l:List Oper),BG (cB C) me l<=l.length
 | []=>aN _
 | o::l=>by
  unfold BG;split
  . have:=acR me l; simp; omega
  . simp
theorem acS(l:List Oper):tB (cB C) l<=l.length:=acR _ l
def MO(ρ:Nat->Option Rl)(base:Nat)(ro:Nat->Prop)(ah:List (Option AV))(i:Nat)(v:Value)(w:World):Prop :=
 (∀ av,ah[i]? = some (some av)->aj w ρ base ro av v)/\(ah[i]? = some none->v=undef)
theorem acT{id:Nat}(rA:∀ o∈ops,∀ c,o.op ≠ .defer c)(aQ:dp P C.ty)(aS:oM P C w0 Φ)(lK:P.follows .mixedOrders=true){late:Sx->Fm}(hQ:∀ c a w,¬ Q (.panic c) a w)(aR:Ec (cB C) σ np ops N=true)(ark:∀ S' a' w' listed,(late S').P->bj w0 Φ N B S' a' w'->listed.size=(cG σ ops).length->(∀ j,LL listed j=decide (j<np))->(∀ (j:Nat) (o:Oper),(cG σ ops)[j]? = some o->∀ e∈o.after,Region.binds .any e=true->e.on<j)->(∀ (j:Nat) (o:Oper) cs b,(cG σ ops).toArray[j]? = some o->o.op ≠ .select cs b)->wpAnyIn Fence.wide 0 P .any (cG σ ops).toArray Q ((cG σ ops).length - np) listed a' w')(h:(cF C N B (cG σ ops) ((cG σ ops).take np) S late).P)(H:bj w0 Φ N B S a0 w):(Code.region id ops.toArray true).wpIn (wd r) 0 P Q a0 w:=by
 unfold Ec at aR;simp only [aD,aU] at aR;obtain⟨Hv,arl,jY,hO,hd,arn,aro,arp⟩:=aR;have hlen:(cG σ ops).length=ops.length:=by unfold cG; simp [B6 jY]
 refine aq7 rA jY lK ?_;rw [<- hlen];clear hlen jY;generalize cG σ ops=l at *
 show wpAnyIn Fence.wide 0 P .any l.toArray Q l.length (Array.replicate l.length false) a0 w.drew
 obtain⟨S0,hS,ρ,ro,H⟩:=H;rw [<- H.size] at hd;have ja:∀ o∈l.take np,mH (cB C) o.op=true/\∃ d,o.dst=some d:=by
  intro o ho;obtain⟨i,hi⟩:=mn.1 ho;have af:=(c8.1 hi).1;rw [e9] at hi;split at hi
  . rename_i hinp;obtain⟨d,gF,_,_⟩:=Gj hd hinp hi;exact⟨fc.1 arl o ho,d,gF⟩
  . cases hi
 rw [<- th (l.take np)] at h;obtain⟨ah,S',zG,zH⟩:=S7 ja h
 replace zH:(late S').P:=zH
 have iF:w0.heap.size<=w.heap.size:=H.from_.size;obtain⟨rr,tG⟩:∃ rr:Nat->Prop,rr=fun b=>ro b\/w.heap.size<=b:=⟨_,rfl⟩
 have v8:∀ {w1:World},dL w w1->∀ b,rr b->b<w1.heap.size->∀ {w2:World},dL w1 w2->w2.heap[b]? = w1.heap[b]? := fun _ b _ af _ h2=>h2.block b af;have Ex:∀ (L:Nat->Bool) (val:Nat->Value) (w1:World),dL w w1->Claim B l a0 w1 ρ w0.heap.size rr L val 0 S:=by
  intro L val w1 hb s x hx;obtain⟨u,h1,h2⟩:=H.tm s x hx;exact⟨u,h1,h2.mono (fun b _ af=>hb.block b af) (Ext.refl _) (aN _) fun b hb=>by rw [tG]; exact .inl hb⟩
 have Ey:∀ j o,(l.take np)[j]? = some o->l[0+j]? = some o:=fun j o hj=>by
  rw [ia];rw [e9] at hj;split at hj
  . exact hj
  . cases hj
 have Eu:∀ i,wv l np i=true->i<np:=fun i hi=>by
  unfold wv at hi;simp only [aD,aU] at hi;exact hi.1
 have gY:∀ (j:Nat) (o:Oper) cs b,l.toArray[j]? = some o->o.op ≠ .select cs b:=fun j o cs b ho e=>by
  have:=fc.1 arp o (gK (i:=j) (by simpa using ho));rw [e] at this;cases this
 have kj:∀ i,wv l np i=true->xP l i=true:=fun i hi=>by
  have:=fc.1 aro i (iV.2 (Eu i hi));rw [hi] at this;simpa using this
 have core:∀ i o,i<np->l[i]? = some o->∀ (L:Nat->Bool) (a1:Act) (w1:World) (val:Nat->Value) (lo mr:Nat->Nat),Made w a0 l np (fun i v _ _ w=>MO ρ w0.heap.size rr ah i v w) L a1 w1 val lo mr->(∀ e∈o.after,Region.binds .any e=true->L e.on=true)->L i=false->(∀ j oj,L j=true->l[j]? = some oj->∀ e∈oj.after,Region.binds .any e=true->L e.on=true) ->
  dL w w1/\((Region.wanted o (yielded l.toArray a1.tmps)=true/\∃ S1 av vcs,ah[i]? = some (some av)/\po C.ty C.cs (bF B S) (cm B S1) o.op=some (av,vcs)/\(∀ c∈vcs,c ())/\∀ x∈o.op.operands,aj w1 ρ w0.heap.size (fun b=>(ro b\/w.heap.size<=b)/\b<w1.heap.size) (cm B S1 x) (a1.eval x))\/(Region.wanted o (yielded l.toArray a1.tmps)=false/\ah[i]? = some none)):=by
  intro i o hi ho L a1 w1 val lo mr M nY Hx Hy;have hb:=M.AU;have hC0:=Ex L val w1 hb;have Ef:∀ j av,ah[j]? = some (some av)->L (0+j)=true->aj w1 ρ w0.heap.size rr av (val (0+j)):=by
   intro j av hj hL;rw [ia] at hL ⊢;obtain⟨q1,_,_,_,q5⟩:=Path.zE (L:=fun _=>false) (val:=val) (a0:=a0) (w:=w1) (ρ := ρ) (base:=w0.heap.size) (ro:=rr) (i:=0) zG Ey (Ex _ val w1 hb) (fun j av _ h=>by cases h) (fun j _ h=>by cases h);have qo:j<np:=by
    have:=(c8.1 hj).1;rw [q5,cy] at this;omega
   exact (M.rows j qo hL).2.2.2.1 av hj
  have gg:∀ j,ah[j]? = some none->L (0+j)=true->val (0+j)=undef:=by
   intro j hj hL;rw [ia] at hL ⊢;obtain⟨q1,_,_,_,q5⟩:=Path.zE (L:=fun _=>false) (val:=val) (a0:=a0) (w:=w1) (ρ := ρ) (base:=w0.heap.size) (ro:=rr) (i:=0) zG Ey (Ex _ val w1 hb) (fun j av _ h=>by cases h) (fun j _ h=>by cases h);have qo:j<np:=by
    have:=(c8.1 hj).1;rw [q5,cy] at this;omega
   exact (M.rows j qo hL).2.2.2.2 hj
  obtain⟨hst,_,_,_,_⟩:=Path.zE (L:=L) (val:=val) (i:=0) zG Ey hC0 Ef gg;have hot:(l.take np)[i]? = some o:=by rw [aD6 hi]; exact ho
  obtain⟨S0,S1,r,qd,iw,kW,mB,sD⟩:=hst i o hot;rw [ia] at qd iw;have kU:=fc.1 arn i (iV.2 hi);simp only [ho,aD] at kU;obtain⟨⟨lv,gY⟩,kU⟩:=kU;have ho':l.toArray[i]? = some o:=by simpa using ho
  have acU:∀ j,(o.after.any fun e=>Region.binds .any e&&e.on==j)=true->L j=true:=by
   intro j he;rw [Km] at he;obtain⟨e,kW,sK⟩:=he;simp only [aD,cC] at sK;have:=nY e kW sK.1;rwa [sK.2] at this
  -- Bh guard
  have To:∀ d j,j<i->(o.after.any fun e=>Region.binds .any e&&e.on==j)=true->∀ oj,l[j]? = some oj->oj.dst=some d->∀ x,dR B S0 d=some x->∃ u,a1.tmps[d]? = some u/\aj w1 ρ w0.heap.size rr x u:=by
   intro d j sP he oj eQ ib x hx;obtain⟨k',fO⟩:=ari sP eQ ib;obtain⟨h1,ok,h2,h3⟩:=KY fO;obtain⟨d',gF,_,hu⟩:=Gj hd (show j<np from oo) eQ;rw [ib] at gF;injection gF with gF;subst gF;have hkj:k'=j:=hu k' ok oo h2 h3;subst hkj;have h4:=qd d x hx;rw [fO] at h4;have Hz:=acU k' he;exact⟨val k',M.Gi k' oj d oo eQ ib Hz,h4 Hz⟩
  have uW:Region.wanted o (yielded l.toArray a1.tmps)=r:=by
   cases mB with
   | free hg=>exact Zh hg _
   | lit j d b c oj hg hj ib hc =>
    rw [hg] at lv;simp only [aD,aU] at lv;obtain⟨u,h1,h2⟩:=To d j lv.1 lv.2 oj hj ib _ (B3 hc (by simp));rw [h2.re] at h1;exact KF hg (by simpa using hj) ib h1 rfl
   | gone j d b oj hg hj ib hc =>
    rw [hg] at lv;simp only [aD,aU] at lv;obtain⟨u,h1,h2⟩:=To d j lv.1 lv.2 oj hj ib _ (B3 hc (by simp));rw [aco h2] at h1;exact acn hg hj ib h1
   | ask j d b c oj S2 hg hj ib hc hp =>
    rw [hg] at lv;simp only [aD,aU] at lv;obtain⟨u,h1,h2⟩:=To d j lv.1 lv.2 oj hj ib _ (B3 hc (by simp));rw [h2.qb] at h1;exact KF hg (by simpa using hj) ib h1 rfl
  refine⟨hb,?_⟩;rcases sD with ⟨rfl,av,vcs,eU,wA,hv⟩|⟨rfl,eU⟩
  . have HG:∀ x∈o.op.operands,aj w1 ρ w0.heap.size (fun b=>(ro b\/w.heap.size<=b)/\b<w1.heap.size) (cm B S1 x) (a1.eval x):=by
     intro x hx;have h1:=fc.1 kU x (by simpa using hx)
     cases x with
     | const v=>exact Z8 v
     | func f=>exact .fn f [] [] rfl fun j x v h=>by simp at h
     | global g=>exact .un _
     | tmp s =>
      show aj _ _ _ _ (px B S1 s) _
      cases hl:dR B S1 s with
      | none=>unfold px; rw [hl]; exact .un _
      | some y =>
       have hy:px B S1 s=y:=by unfold px; rw [hl]
       rw [hy];have h2:=iw s y hl;have ru:QN l np i o s=true:=h1;unfold QN at ru;have ga:∀ u,a1.tmps[s]? = some u->aj w1 ρ w0.heap.size rr y u->aj w1 ρ w0.heap.size (fun b=>(ro b\/w.heap.size<=b)/\b<w1.heap.size) y (a1.eval (.tmp s)):=by
        intro u hu hr;rw [Zd hu];have:=hr.bound;rw [tG] at this;exact this
       cases hp:sA l s i with
       | none =>
        rw [hp] at h2 ru;obtain⟨u,h3,h4⟩:=h2;refine ga u ?_ h4;rw [<- h3];refine M.Dz s fun k' ok fO acV hdk => ?_;have h5:=fc.1 ru k' (iV.2 fO);simp only [acV,hdk,YP,uo] at h5
        cases B8:L k' with
        | false=>rfl
        | true =>
         rw [Km] at h5;obtain⟨e,he,uX⟩:=h5;simp only [aD,cC] at uX;have h6:=Hy k' ok B8 acV e he uX.1;rw [uX.2,Hx] at h6;cases h6
       | some j =>
        rw [hp] at h2 ru;obtain⟨h3,oj,h4,h5⟩:=KY hp;have Hz:=acU j ru;exact ga (val j) (M.Gi j oj s oo h4 h5 Hz) (h2 Hz)
    have arv:bF B S1=bF B S:=by funext q; unfold bF; rw [kW]
    rw [arv] at wA;exact .inl ⟨uW,S1,av,vcs,eU,wA,hv,HG⟩
  . exact .inr ⟨uW,eU⟩
 refine ara np (wv l np) (fun i v _ _ w=>MO ρ w0.heap.size rr ah i v w) hO Hv hd Eu (fun i o qn ho=>by
  unfold wv at qn;rw [ho] at qn;simpa using (aD _ _▸qn:_/\_).2) gY hQ kj ?_ ?_ ?_ ?_
 . intro i v lo hi w1 w2 hR sC hb;refine⟨fun av eU => ?_,hR.2⟩;exact (hR.1 av eU).mono (fun b _ af=>hb.block b af) (Ext.refl _) (aN _) fun _ h=>h
 . intro i o hi qn ho L a1 w1 val lo mr M nY Hx Hy;obtain⟨hb,hc⟩:=core i o hi ho L a1 w1 val lo mr M nY Hx Hy;have Hw:=H.calm hb;rcases hc with ⟨uW,S1,av,vcs,eU,wA,hv,HG⟩|⟨uW,eU⟩
   . have rz:sH o.op=true:=by
      unfold wv at qn;rw [ho] at qn;simpa using (aD _ _▸qn:_/\_).2
     obtain⟨dst,op,ty,pos,aft,gd⟩:=o;obtain⟨v,h8,h9⟩:=acJ (P:=P) (d:=dst) (ty:=ty) (pos:=pos) (aft:=aft) (gd:=gd) (r:=a1.eval) rz aQ (fun q e he=>Hw.en q e he) HG wA hv;refine⟨v,.inl ⟨uW,h8⟩,fun nP nm => ?_,fun hn=>by rw [eU] at hn; cases hn⟩;rw [eU] at nm;injection nm with nm;injection nm with nm;subst nm;exact h9.mono (fun _ _ _=>rfl) (Ext.refl _) (aN _) fun b bo=>by rw [tG]; exact bo.1
   . refine⟨undef,.inr ⟨uW,rfl⟩,fun nP nm => ?_,fun _=>rfl⟩;rw [eU] at nm;cases nm
 . intro i o hi ho L a1 w1 val lo mr M nY Hx Hy;obtain⟨hb,hc⟩:=core i o hi ho L a1 w1 val lo mr M nY Hx Hy;have Hw:=H.calm hb;have ho':l.toArray[i]? = some o:=by simpa using ho
   rcases hc with ⟨uW,S1,av,vcs,eU,wA,hv,HG⟩|⟨uW,eU⟩
   . obtain⟨dst,op,ty,pos,aft,gd⟩:=o;have h7:=aaR (d:=dst) (ty:=ty) (pos:=pos) (aft:=aft) (gd:=gd) (r:=a1.eval) aQ aS.cs (fun q e he=>Hw.en q e he) HG Hw.gX Hw.from_.size wA hv;have hR:∀ v w2,dL w1 w2->aj w2 ρ w0.heap.size (fun b=>((ro b\/w.heap.size<=b)/\b<w1.heap.size)\/w1.heap.size<=b) av v->MO ρ w0.heap.size rr ah i v w2:=by
      intro v w2 _ hr;refine⟨fun nP nm => ?_,fun hn=>by rw [eU] at hn; cases hn⟩;rw [eU] at nm;injection nm with nm;injection nm with nm;subst nm;refine hr.mono (fun _ _ _=>rfl) (Ext.refl _) (aN _) fun b bo => ?_;rw [tG];rcases bo with ⟨h8,_⟩|h8
      . exact h8
      . exact .inr (cd hb.size h8)
     rcases h7 with ⟨v,w2,h8,h9,mY⟩|⟨f,args,h8,h9⟩
     . exact Sc ho' uW (Mn (by rw [h8]; exact⟨v,rfl,h9,hR v w2 h9 mY⟩))
     . exact Sc ho' uW (iu.wp (K:=fun a' w2=>∃ v,a'=a1.put dst v/\dL w1 w2/\MO ρ w0.heap.size rr ah i v w2) (.inr (.inr (.inl ⟨f,args,h8,h9.mono fun e w2 ⟨v,q1,q2,q3⟩=>⟨v,q1,v,rfl,q2,hR v w2 q2 q3⟩⟩))) fun _ _ h=>h)
   . refine abl ho' uW ⟨undef,rfl,dU _ _,fun nP nm => ?_,fun _=>rfl⟩;rw [eU] at nm;cases nm
 . intro val lo hi w1 hb Ef _ listed bc rC;have ch:∀ j av,ah[j]? = some (some av)->(fun _=>true:Nat->Bool) (0+j)=true->aj w1 ρ w0.heap.size rr av (val (0+j)):=by
    intro j av hj _;obtain⟨q1,_,_,_,q5⟩:=Path.zE (L:=fun _=>false) (val:=val) (a0:=a0) (w:=w1) (ρ := ρ) (base:=w0.heap.size) (ro:=rr) (i:=0) zG Ey (Ex _ val w1 hb) (fun j av _ h=>by cases h) (fun j _ h=>by cases h);have qo:j<np:=by
     have:=(c8.1 hj).1;rw [q5,cy] at this;omega
    rw [ia];exact (Ef j qo).2.2.2.1 av hj
   have gg:∀ j,ah[j]? = some none->(fun _=>true:Nat->Bool) (0+j)=true->val (0+j)=undef:=by
    intro j hj _;obtain⟨q1,_,_,_,q5⟩:=Path.zE (L:=fun _=>false) (val:=val) (a0:=a0) (w:=w1) (ρ := ρ) (base:=w0.heap.size) (ro:=rr) (i:=0) zG Ey (Ex _ val w1 hb) (fun j av _ h=>by cases h) (fun j _ h=>by cases h);have qo:j<np:=by
     have:=(c8.1 hj).1;rw [q5,cy] at this;omega
    rw [ia];exact (Ef j qo).2.2.2.2 hj
   obtain⟨_,ga,m8,qi,_⟩:=Path.zE (L:=fun _=>true) (val:=val) (i:=0) zG Ey (Ex _ val w1 hb) ch gg;rw [cy,tf Hv,ia] at ga;have Hw:=H.calm hb;have arw:=zG.jT H.kQ;have fN:=fun j o ho=>Ti (j:=j) (o:=o) hO ho
   suffices HS:bj w0 Φ N B S' (p5 val 0 (l.take np) a0) w1 from ⟨l.length - np,ark S' _ w1 listed zH HS bc rC fN gY⟩
   refine⟨S0,hS,ρ,_,⟨Hw.from_,by rw [Zf]; exact H.size,by rw [Qp]; exact H.defers,Hw.gX,fun s x hx => ?_,fun q e he=>Hw.en q e (by unfold bF at he ⊢; rw [m8] at he; exact he),Hw.apart,fun q hq=>Hw.fresh q (by rw [qi] at hq; exact hq),Hw.own,Hw.fp,Hw.dH,arw,fun q e he=>by rw [m8]; exact Hw.kT q e he,fun s v hv=>⟨(Gk val s _ 0 a0 fun o ho e=>(by have h1:=(H.fm s v hv).2; rw [zG.noB o ho s e] at h1; cases h1)).trans (H.fm s v hv).1,(H.fm s v hv).2⟩⟩⟩;have h1:=ga s x hx;have uX:∀ u,aj w1 ρ w0.heap.size rr x u->aj w1 ρ w0.heap.size (fun b=>(ro b\/w.heap.size<=b)/\b<w1.heap.size) x u:=by
    intro u hr;have:=hr.bound;rw [tG] at this;exact this
   cases hp:sA l s np with
   | none =>
    rw [hp] at h1;obtain⟨u,h2,h3⟩:=h1;refine⟨u,?_,uX u h3⟩;rw [<- h2];refine Gk val s _ 0 a0 fun o ho => ?_;obtain⟨i,hi⟩:=mn.1 ho;rw [e9] at hi;split at hi
    . rename_i hinp;exact Tn hp i hinp o hi
    . cases hi
   | some j =>
    rw [hp] at h1;obtain⟨h2,oj,h3,h4⟩:=KY hp;obtain⟨d,gF,AX,Gl⟩:=Gj hd h2 h3;rw [h4] at gF;injection gF with gF;subst gF;refine⟨val j,?_,uX _ (h1 rfl)⟩;have h5:=Qq val s (l.take np) 0 a0 j oj (by rw [aD6 h2]; exact h3) h4 (fun j' o' gE ho'=>by
     rw [e9] at gE;split at gE
     . rename_i af;exact Gl j' o' af gE ho'
     . cases gE) AX
    rwa [ia] at h5
theorem arx(h:G4 (cB C) ops N=true):Ec (cB C) (zq (cB C) ops) (tB (cB C) (laid (cB C) ops)) ops N=true:=by
 unfold G4 at h;unfold Ec;simp only [aD,aU] at h ⊢;refine⟨acS _,fc.2 fun o ho => ?_,h⟩;obtain⟨i,hi⟩:=mn.1 ho;rw [e9] at hi;split at hi
 . rename_i af;exact arj af hi
 . cases hi
theorem ary{id:Nat}(rA:∀ o∈ops,∀ c,o.op ≠ .defer c)(aQ:dp P C.ty)(aS:oM P C w0 Φ)(lK:P.follows .mixedOrders=true){k:Sx->Fm}(hQ:∀ c a w,¬ Q (.panic c) a w)(aR:G4 (cB C) ops N=true)(hk:∀ S' a' w',bj w0 Φ N B S' a' w'->(k S').P->Q .normal a' w')(h:(Ma C N B (laid (cB C) ops) S k).P)(H:bj w0 Φ N B S a0 w):(Code.region id ops.toArray true).wpIn (wd r) 0 P Q a0 w:=by
 refine acT rA (late:=fun S'=>match Ed (laid (cB C) ops) (tB (cB C) (laid (cB C) ops)) with
  | true=>cF C N B (laid (cB C) ops) ((laid (cB C) ops).drop (tB (cB C) (laid (cB C) ops))) S' k
  | false=>uM C N B (laid (cB C) ops) ((laid (cB C) ops).length - tB (cB C) (laid (cB C) ops)) (List.range (tB (cB C) (laid (cB C) ops))) S' k) aQ aS lK hQ (arx aR) (fun S' a' w' listed zH HS bc rC fN gY => ?_) h H
 have Hv:=acS (C:=C) (laid (cB C) ops);unfold laid at *
 generalize cG (zq (cB C) ops) ops=l at *
 generalize tB (cB C) l=np at *
 cases l6:Ed l np with
 | true =>
  rw [l6] at zH;exact acN l6 fN _ np _ _ listed oo (aN _) bc rC (Hr aQ aS hk zH HS)
 | false =>
  rw [l6] at zH;exact Tl aQ aS gY hQ hk _ _ _ _ _ listed zH HS bc fun j=>by rw [rC,acP]
end
section
variable{w w' w0:World}{ρ ρ' ρ2:Nat->Option Rl}{base:Nat}{p:Nat->Bool}{fz:Option (List Nat)}{ro ro' ro2:Nat->Prop}{S0:Pm}{Φ : Pm->Prop}{N:Nat}{B:Bs}{S:Sx}{a:Act}
theorem acW(H:bK w0 S0 N B S a w ρ ro)(M:Hj w0 ρ ρ2 ro ro2 p fz):∀ {oe:List (Nat×En)} {tb:List VC},nS fz B S oe=some tb->(∀ c∈tb,c ())->ki p oe=true->∀ l e,al oe l=some e->dz w ρ2 w0.heap.size ro2 l e:=by
 intro oe
 induction oe with
 | nil=>intro tb _ _ _ l e h; cases h
 | cons p oe ih =>
  intro tb hE hv hb l e he;obtain⟨k,z⟩:=p
  cases z with
  | box T cs =>
   unfold nS at hE;simp only [ki,aD] at hb;split at hE
   . rename_i T' cs' hl;split at hE
     . rename_i SR;subst SR;split at hE
       . rename_i p q h4 h5;cases hE;have p8:=Hi hv;rw [cO] at he;split at he
         . rename_i e0;subst e0;cases he;obtain⟨b,us,k1,k4,k5⟩:=H.en _ _ hl;exact⟨b,us,M.pl _ _ k1 hb.1.1,k4,zy H M _ _ p us h4 p8.1 k5 (by simpa [En.under] using hb.1.2)⟩
         . exact ih h5 p8.2 hb.2 l e he
       . cases hE
     . cases hE
   . cases hE
  | row fr t T m =>
   unfold nS at hE;simp only [ki,aD] at hb;split at hE
   . rename_i q h5;split at hE
     . rename_i fr' t' T' m' hl;split at hE
       . rename_i ht;subst ht;split at hE
         . rename_i hc;obtain⟨rfl,hf⟩:=hc;cases hE;rw [cO] at he;split at he
           . rename_i e0;subst e0;cases he;obtain⟨A,c,css,k1,k2,k3,k5⟩:=H.en _ _ hl;have hm:m'=m:=funext fun u=>by cases u; exact hv _ (.head _)
             subst hm;refine⟨A,c,css,M.pl _ _ k1 hb.1.1,k2.Dr (aoI _ (BU hf)),k3,fun kk cs j x v q1 q2 q3 => ?_⟩;have bc:=k2.2 cs (gK q1);have h6:=(BM (g:=fr) (wa bc fun j y v r1 r2=>k5 kk cs j y v q1 r1 r2) (BU hf)).2 j x v q2 q3;exact (h6.zz (xZ (MF _ _ _ _) q2) M.pl).mono (fun _ _ _=>rfl) (Ext.refl _) (aN _) M.ro
           . exact MP
         . cases hE
       . cases hE
     . cases hE
     . rename_i hl;split at hE
       rotate_left
       . cases hE
       split at hE
       . rename_i hk;cases hE;rw [cO] at he;split at he
         . rename_i e0;subst e0;cases he;have hm:=hv _ (.head _);refine⟨none,0,[],by rw [hm]; exact M.nil rfl _ (H.fresh _ hk) hb.1.1,dc.nil _ _ _ _,by rw [hm]; rfl,fun kk cs j x v q1=>by simp at q1⟩
         . exact MP
       . cases hE
   . cases hE
  | map fr ag c t T m =>
   unfold nS at hE;simp only [ki,aD] at hb;split at hE
   . rename_i q h5;split at hE
     . rename_i fr' kO c' t' T' m' hl;split at hE
       . rename_i ht;subst ht;split at hE
         . rename_i hc;obtain⟨rfl,rfl,rfl,hf⟩:=hc;cases hE;rw [cO] at he;split at he
           . rename_i e0;subst e0;cases he;obtain⟨b,es,clock,k1,k2,k3,k4⟩:=H.en _ _ hl;have hm:m'=m:=funext fun u=>by cases u; exact hv _ (.head _)
             subst hm;exact⟨b,es,clock,M.pl _ _ k1 hb.1.1,k2,k3,(k4.less (BU hf)).tv fun x v hx=>(hx.zz (ab0 _ _ _ _ _) M.pl).mono (fun _ _ _=>rfl) (Ext.refl _) (aN _) M.ro⟩
           . exact MP
         . cases hE
       . cases hE
     . cases hE
   . cases hE
  | iter ml c seen left =>
   unfold nS at hE;simp only [ki,En.under,aD] at hb;split at hE
   . rename_i q h5;split at hE
     . rename_i GK c' RW RX hl;split at hE
       . rename_i hc;obtain⟨rfl,rfl⟩:=hc;cases hE;rw [cO] at he;split at he
         . rename_i e0;subst e0;cases he;obtain⟨b,b2,es,clock,since,stamps,c0,k1,k2,k3,k4,k5,k6,k7,k8,k9⟩:=H.en _ _ hl;have e1:RW ()=seen ():=hv _ (.head _);have e2:RX ()=left ():=hv _ (.tail _ (.head _));rw [e1] at k8 k9;rw [e2] at k7;exact⟨b,b2,es,clock,since,stamps,c0,M.pl _ _ k1 hb.1.1,M.pl _ _ k2 hb.1.2,k3,k4,k5,k6,k7,k8,k9⟩
         . exact ih h5 (fun c hc=>hv c (.tail _ (.tail _ hc))) hb.2 l e he
       . cases hE
     . cases hE
   . cases hE
  | bL ml c key=>unfold nS at hE; cases hE
  | fY kk =>
   unfold nS at hE;simp only [ki,aD] at hb;split at hE
   . rename_i q h5;split at hE
     . rename_i k' hl;cases hE;rw [cO] at he;split at he
       . rename_i e0;subst e0;cases he;have e1:k' ()=kk ():=hv _ (.head _);have h6:=M.pl _ _ (H.en _ _ hl) hb.1.1;rw [e1] at h6;exact h6
       . exact MP
     . cases hE
   . cases hE
  | dead=>unfold nS at hE; cases hE
theorem bK.acX(H:bK w0 S0 N B S a w ρ ro){n:Nat}(uT:∀ l r,S0.pl l=some r->(r.dH||S0.fx)=true->l<n)(hT:BF B S ov=some ta)(hE:nS none B S oe=some tb)(hv:∀ c∈ta++tb,c ())(Tp:nh (de n) ov=true)(Tq:ki (de n) oe=true)(Tr:ni B2.t ov=true)(Ts:ni B2.e oe=true)(Tt:∀ d x,al B2.t d=some x->∃ u,a.tmps[d]? = some u/\aj w ρ w0.heap.size ro x u/\AV.under (de n) x=true)(wE:∀ l e,al B2.e l=some e->dz w ρ w0.heap.size ro l e/\l<n/\En.under (de n) e=true)(sQ:∀ d,(al B.t d).isSome=true->(al B2.t d).isSome=true) :
 ∃ ρ2,bK w0 S0 N B2 ⟨ov,oe,n⟩ a w ρ2 ro/\∀ l r b,ρ2 l=some r->r.cH=some b -> ρ l=some r:=by
 obtain⟨ρ2,MQ⟩:∃ ρ2:Nat->Option Rl,ρ2=fun l=>if l<n then (match ρ l with|some r=>some r|none=>some (.row none 0 0)) else none:=⟨_,rfl⟩
 have h2:∀ l r,ρ l=some r->l<n -> ρ2 l=some r:=fun l r h hl=>by rw [MQ]; simp only [aG hl,h]
 have h3:∀ l,ρ l=none->l<n -> ρ2 l=some (.row none 0 0):=fun l h hl=>by rw [MQ]; simp only [aG hl,h]
 have fN:∀ l r b,ρ2 l=some r->r.cH=some b -> ρ l=some r:=by
  intro l r b h hb;rw [MQ] at h;simp only at h;split at h
  . cases hl : ρ l with
    | none=>rw [hl] at h; injection h with h; subst h; cases hb
    | some r'=>rw [hl] at h; exact h
  . cases h
 have acY:∀ {l},de n l=true->l<n:=fun h=>by simpa [de] using h
 have M:Hj w0 ρ ρ2 ro ro (de n) none:=⟨fun l r h hl=>h2 l r h (acY hl),fun _ h=>h,fun _ l h hl=>h3 l h (acY hl),fun _ h=>by cases h⟩
 have HH:=Hi hv;have hTs:∀ {ov:List (Nat×AV)} {ta:List VC},BF B S ov=some ta->(∀ c∈ta,c ())->nh (de n) ov=true->∀ d y,al ov d=some y->∃ u,a.tmps[d]? = some u/\aj w ρ2 w0.heap.size ro y u:=by
  intro ov
  induction ov with
  | nil=>intro ta _ _ _ d y h; cases h
  | cons p ov ih =>
   intro ta hT hv hb d y hy;obtain⟨k,z⟩:=p;unfold BF at hT;split at hT
   . rename_i x b hx bo
     cases he:Ea none B S x z with
     | none=>rw [he] at hT; cases hT
     | some q =>
      rw [he] at hT;simp only [dG,bU] at hT;subst hT;have p8:=Hi hv;simp only [nh,aD] at hb;rw [cO] at hy;split at hy
      . rename_i e;subst e;cases hy;obtain⟨u,h4,h5⟩:=H.tm _ _ hx;exact⟨u,h4,SF H M _ _ q u he p8.1 h5 hb.1⟩
      . exact ih bo p8.2 hb.2 d y hy
   . cases hT
 refine⟨ρ2,⟨H.from_,H.size,H.defers,H.gX,fun d x hx => ?_,fun l e he => ?_,fun l l' r r' b bg k1 k2 k3 k4 => ?_,fun l hl => ?_,fun l r b k1 k2=>H.own l r b (fN l r b k1 k2) k2,H.fp,fun l r k1 k2=>h2 l r (H.dH l r k1 k2) (uT l r k1 k2),fun d x hx => ?_,fun l e he => ?_,fun d v h=>⟨(H.fm d v h).1,sQ d (H.fm d v h).2⟩⟩,fN⟩
 . unfold dR at hx;dsimp only at hx;split at hx
   . rename_i y hy;cases hx;exact hTs hT HH.1 Tp d _ hy
   . obtain⟨u,q1,q2,q3⟩:=Tt d x hx;exact⟨u,q1,q2.zz q3 M.pl⟩
 . unfold bF at he;dsimp only at he;split at he
   . rename_i y hy;cases he;exact acW H M hE HH.2 Tq l _ hy
   . obtain⟨q1,q2,q3⟩:=wE l e he;exact q1.fixed (p:=de n) (by unfold de; exact cT q2) q3 M.pl
 . exact H.apart l l' r r' b bg (fN l r b k1 k3) (fN l' r' b k2 k4) k3 k4
 . rw [MQ];exact ax (by simp only at hl; omega)
 . cases ho:al ov d with
   | none=>rfl
   | some y=>rw [SG Tr ho] at hx; cases hx
 . cases ho:al oe l with
   | none=>rfl
   | some y=>rw [SG Ts ho] at he; cases he
theorem bK.Tu(H:bK w0 S0 N B S a w ρ ro)(hS : Φ S0){n:Nat}(uT:∀ l r,S0.pl l=some r->(r.dH||S0.fx)=true->l<n)(hT:BF B S ov=some ta)(hE:nS none B S oe=some tb)(hv:∀ c∈ta++tb,c ())(Tp:nh (de n) ov=true)(Tq:ki (de n) oe=true)(Tr:ni B2.t ov=true)(Ts:ni B2.e oe=true)(Tt:∀ d x,al B2.t d=some x->∃ u,a.tmps[d]? = some u/\aj w ρ w0.heap.size ro x u/\AV.under (de n) x=true)(wE:∀ l e,al B2.e l=some e->dz w ρ w0.heap.size ro l e/\l<n/\En.under (de n) e=true)(sQ:∀ d,(al B.t d).isSome=true->(al B2.t d).isSome=true) :
 bj w0 Φ N B2 ⟨ov,oe,n⟩ a w:=by
 obtain⟨ρ2,h,_⟩:=H.acX uT hT hE hv Tp Tq Tr Ts Tt wE sQ;exact⟨S0,hS,ρ2,ro,h⟩
end
def HO:List Nat->(Nat->mF)->mF
 | [],_ => .bad
 | [i],f=>f i
 | i::l,f => .alt (f i) (HO l f)
def B9(l:List Oper)(σ:List Nat):Nat->List Nat->mF
 | 0,done=>match nU l done with
  | [] => .nil
  | _ => .bad
 | fuel+1,done =>
  let one (i:Nat):mF:=match l[i]? with
   | some _=>match σ[i]? with
    | some j => .op j (B9 l σ fuel (i::done))
    | none => .bad
   | none => .bad
  match nU l done with
  | [] => .nil
  | [i]=>one i
  | is=>match zr l is with
   | some i=>one i
   | none=>HO is one
def Tv(ef:List Nat)(ops:List Oper):mF :=
 let σ:=zq ef ops
 let l:=laid ef ops
 let np:=tB ef l
 eH (σ.take np) (match Ed l np with
  | true=>eH (σ.drop np) .nil
  | false=>B9 l σ (l.length - np) (List.range np))
def x6(i:Nat):List Nat->List Nat
 | [] => [i]
 | k::l=>if i<k then i::k::l else k::x6 i l
def Ca(l:List Oper)(done:List Nat):List Nat:=match nU l done with
 | [] => []
 | [i] => [i]
 | is=>match zr l is with
  | some i => [i]
  | none=>match G5 l done is with
   | some i => [i]
   | none=>is
def MR(σ:List Nat)(l:List Oper)(fq:List Nd)(nd:Nd):Bool :=
 nd.ed.isEmpty||(sG (nd.ed.map fun e=>e.1) (Ca l nd.dn)&&(decide (nd.dn.length<l.length)&&nd.ed.all fun e => σ[e.1]? == some e.2.1&&match fq[e.2.2]? with
  | some nt=>sG nt.dn (x6 e.1 nd.dn)
  | none=>false))
def uY(σ:List Nat)(l:List Oper):List Nat->List Nat->Option (List Nat)
 | dn,[]=>some dn
 | dn,oi::r=>match Ca l dn with
  | [i]=>if σ[i]? == some oi then uY σ l (x6 i dn) r else none
  | _=>none
def MS(σ:List Nat)(l:List Oper)(dn post:List Nat):Bool:=match uY σ l dn post with
 | some dn=>dn.length==l.length&&(nU l dn).isEmpty
 | none=>false
def acZ(σ:List Nat)(l:List Oper)(fq:List Nd)(post:List Nat):Option (List Nat)->Bool
 | none=>false
 | some dn=>decide (dn.length<=l.length)&&(match fq with
  | nd::r=>sG nd.dn dn&&((nd::r).dropLast.all (fun nd => !nd.ed.isEmpty)&&((nd::r).all (MR σ l (nd::r))&&match (nd::r).getLast? with
   | some nl=>MS σ l nl.dn post
   | none=>false))
  | []=>MS σ l dn post)
def Tw(ef:List Nat)(ops:List Oper)(N:Nat)(t:zm):Bool :=
 Ec ef t.sg t.row.length ops N&&(sG t.row (t.sg.take t.row.length)&&acZ t.sg (cG t.sg ops) t.fq t.post (uY t.sg (cG t.sg ops) (List.range t.row.length) t.pre))
def arA:Op->Bool
 | .defer _=>true
 | _=>false
def codeOk(ef:List Nat)(sc:List (Nat×mF))(lt:List (Nat×zm))(N:Nat):Code->Bool
 | .region id ops d=>(ops.toList.all fun o => !arA o.op)&&(!d||(match Mc lt id with
  | some t=>Tw ef ops.toList N t
  | none=>G4 ef ops.toList N&&(match Mb sc id with
   | some s=>decide (s=Tv ef ops.toList)
   | none=>true)))
 | .seq a b=>codeOk ef sc lt N a&&codeOk ef sc lt N b
 | .cond _ a b=>codeOk ef sc lt N a&&codeOk ef sc lt N b
 | .block _ b=>codeOk ef sc lt N b
 | .loop b=>codeOk ef sc lt N b
 | .scope b=>codeOk ef sc lt N b
 | .rangeFunc _ _ a b=>codeOk ef sc lt N a&&codeOk ef sc lt N b
 | _=>true
section
variable{C:Cx}{N:Nat}{B:Bs}
theorem MT{l:List Oper}{K k:Sx->Fm}(za:o'.op=o.op)(ac0:o'.dst=o.dst)(hw:pB B S l' o'=pB B S l o\/pB B S l o = .stuck)(hK:∀ S,(K S).P->(cF C N B l' Cb S k).P)(h:(cF C N B l [o] S K).P):(cF C N B l' (o'::Cb) S k).P:=by
 obtain⟨dst,op,ty,pos,aft,gd⟩:=o;obtain⟨zI,zJ,MU,pos',MV,MW⟩:=o';dsimp only at za ac0;subst za;subst ac0;have yV:∀ S,nT C N B S ⟨zI,zJ,MU,pos',MV,MW⟩=nT C N B S ⟨zI,zJ,ty,pos,aft,gd⟩:=fun _=>rfl;have hst:∀ S,pC C N B S ⟨zI,zJ,MU,pos',MV,MW⟩=pC C N B S ⟨zI,zJ,ty,pos,aft,gd⟩:=fun _=>rfl;have hsk:∀ S,rn N B S ⟨zI,zJ,MU,pos',MV,MW⟩=rn N B S ⟨zI,zJ,ty,pos,aft,gd⟩:=fun _=>rfl;generalize Tk:(⟨zI,zJ,ty,pos,aft,gd⟩:Oper)=o at *
 generalize aEz:(⟨zI,zJ,MU,pos',MV,MW⟩:Oper)=o' at *
 have arC:∀ S f,nT C N B S o=some f->(f fun S'=>cF C N B l [] S' K).P->(f fun S'=>cF C N B l' Cb S' k).P:=by
  intro S f hf hP;rw [<- Tk] at hf;unfold nT at hf;dsimp only at hf;split at hf
  . split at hf
    . split at hf
      . split at hf
        . cases hf;intro x hx;exact hK _ (hP x hx)
        . cases hf
      . cases hf
    . cases hf
  . split at hf
    . split at hf
      . split at hf
        . split at hf
          . cases hf;exact⟨fun c=>fun x hx=>hK _ (hP.1 c x hx),fun c=>fun x hx=>hK _ (hP.2 c x hx)⟩
          . cases hf
        . cases hf
      . cases hf
    . cases hf
  . split at hf
    . split at hf
      . split at hf
        . cases hf;exact⟨hP.1,hK _ hP.2.1,hK _ hP.2.2⟩
        . cases hf
      . cases hf
    . cases hf
  . cases hf
 have kd:∀ S n,(match nT C N B S o with
  | some f=>f fun S'=>cF C N B l [] S' K
  | none=>match pC C N B S o with
   | some (S',[])=>cF C N B l [] S' K
   | some (S',vcs) => .vc vcs (cF C N B l [] S' K)
   | none => .ff (1000+([]:List Oper).length):Fm).P->(match nT C N B S o' with
  | some f=>f fun S'=>cF C N B l' Cb S' k
  | none=>match pC C N B S o' with
   | some (S',[])=>cF C N B l' Cb S' k
   | some (S',vcs) => .vc vcs (cF C N B l' Cb S' k)
   | none => .ff n:Fm).P:=by
  intro S n hP;rw [yV,hst]
  cases hs:nT C N B S o with
  | some f=>rw [hs] at hP; exact arC S f hs hP
  | none =>
   rw [hs] at hP;dsimp only at hP ⊢
   cases ht:pC C N B S o with
   | none=>rw [ht] at hP; exact hP.elim
   | some r =>
    obtain⟨S',vcs⟩:=r;rw [ht] at hP
    cases vcs with
    | nil=>exact hK _ hP
    | cons c vcs=>exact⟨hP.1,hK _ hP.2⟩
 have ke:∀ S,(match rn N B S o with
  | some S'=>cF C N B l [] S' K
  | none => .ff 3:Fm).P->(match rn N B S o' with
  | some S'=>cF C N B l' Cb S' k
  | none => .ff 3:Fm).P:=by
  intro S hP;rw [hsk]
  cases ht:rn N B S o with
  | none=>rw [ht] at hP; exact hP.elim
  | some r=>rw [ht] at hP; exact hK _ hP
 unfold cF at h ⊢;dsimp only at h ⊢;rcases hw with hw|hw
 . rw [hw]
   cases MX:pB B S l o with
   | yes=>rw [MX] at h; exact kd S _ h
   | no=>rw [MX] at h; exact ke S h
   | stuck=>rw [MX] at h; exact h.elim
   | ask d c b =>
    rw [MX] at h;dsimp only at h ⊢
    cases h1:cb B S N d (.aV true) with
    | none=>rw [h1] at h; exact h.elim
    | some S1 =>
     rw [h1] at h
     cases h2:cb B S N d (.aV false) with
     | none=>rw [h2] at h; exact h.elim
     | some S2 =>
      rw [h2] at h
      cases b with
      | true=>exact⟨fun q=>kd S1 _ (h.1 q),fun q=>ke S2 (h.2 q)⟩
      | false=>exact⟨fun q=>ke S1 (h.1 q),fun q=>kd S2 _ (h.2 q)⟩
 . rw [hw] at h;exact h.elim
theorem aEA{n:Nat}(h:fQ σ n=true)(hi:i<n):∃ j,σ[i]? = some j/\j<n:=by
 unfold fQ at h;simp only [aD,fc,iV] at h;have h1:=h.2 i hi
 cases hs : σ[i]? with
 | none=>rw [hs] at h1; cases h1
 | some j =>
  rw [hs] at h1;simp only [aD,aU] at h1;exact⟨j,rfl,h1.1⟩
theorem ac1{n:Nat}(h:fQ σ n=true)(hj:j<n) : σ[iI σ j]? = some j:=by
 unfold fQ at h;simp only [aD,fc,iV] at h;have h1:=h.1.2 j hj;exact eq_of_beq h1
theorem HU{l:List Oper}(h : σ[i]? = some j)(ho:l[j]? = some o):(cG σ l)[i]? = some (qj σ o):=by
 unfold cG;rw [gC,h];simp only [dG];rw [ho]
theorem MY{l:List Oper}(h:fQ σ l.length=true)(S:Sx)(o:Oper):pB B S (cG σ l) (qj σ o)=pB B S l o\/pB B S l o = .stuck:=by
 obtain⟨dst,op,ty,pos,aft,gd⟩:=o
 cases gd with
 | none=>exact .inl rfl
 | some g =>
  obtain⟨j,b⟩:=g
  cases ho:l[j]? with
  | none =>
   right;unfold pB;dsimp only;rw [ho];rfl
  | some oj =>
   left;have hj:=(List.getElem?_eq_some_iff.1 ho).1;have h2:=HU (ac1 h hj) ho;unfold pB;dsimp only [qj];rw [h2,ho];rfl
theorem MZ{σ:List Nat}{l:List Oper}{k:Sx->Fm}(h:fQ σ l.length=true):∀ (is:List Nat) (os:List Oper) (r:mF) (k':Sx->Fm) (S:Sx),is.length=os.length->(∀ (q:Nat) o,os[q]? = some o->∃ i:Nat,σ[i]? = is[q]? /\ (cG σ l)[i]? = some o)->(∀ S,(fu C N B l r S k).P->(k' S).P)->(fu C N B l (eH is r) S k).P->(cF C N B (cG σ l) os S k').P
 | [],[],r,k',S,_,_,hr,hP=>by
  unfold cF;exact hr S hP
 | i::is,o::os,r,k',S,hl,hq,hr,hP=>by
  obtain⟨q,h1,h2⟩:=hq 0 o rfl;have ru : σ[q]? = some i:=by simpa using h1
  unfold eH at hP;unfold fu at hP
  cases ho:l[i]? with
  | none=>rw [ho] at hP; exact hP.elim
  | some o2 =>
   rw [ho] at hP;have h3:=HU ru ho;rw [h2] at h3;cases h3;have hP':(cF C N B l [o2] S fun S'=>fu C N B l (eH is r) S' k).P:=hP;exact MT (l:=l) (o:=o2) rfl rfl (MY h S o2) (fun S hS=>MZ h is os r k' S (by simpa using hl) (fun q o wF=>by simpa using hq (q+1) o (by simpa using wF)) hr hS) hP'
 | [],_::_,_,_,_,hl,_,_,_=>by simp at hl
 | _::_,[],_,_,_,hl,_,_,_=>by simp at hl
theorem ac2{l:List Oper}{k:Sx->Fm}{S:Sx}{f:Nat->mF}{g:Nat->Fm}:∀ {is:List Nat},(∀ i∈is,(fu C N B l (f i) S k).P->(g i).P)->(fu C N B l (HO is f) S k).P->(L9 is g).P
 | [],_,h=>by
  unfold HO fu at h;exact h.elim
 | [i],hi,h=>hi i (.head _) h
 | i::j::is,hi,h=>by
  unfold HO fu at h;exact⟨hi i (.head _) h.1,ac2 (is:=j::is) (fun q hq=>hi q (.tail _ hq)) h.2⟩
theorem ac3{σ:List Nat}{l:List Oper}{k:Sx->Fm}(h:fQ σ l.length=true):∀ (fuel:Nat) (done:List Nat) (S:Sx),(fu C N B l (B9 (cG σ l) σ fuel done) S k).P->(uM C N B (cG σ l) fuel done S k).P
 | 0,done,S,hP=>by
  unfold B9 at hP;unfold uM;split at hP
  . unfold fu at hP;rename_i hr;rw [hr];exact hP
  . unfold fu at hP;exact hP.elim
 | fuel+1,done,S,hP=>by
  unfold B9 at hP;unfold uM;dsimp only at hP ⊢;have nk:∀ i,(fu C N B l (match (cG σ l)[i]? with
   | some _=>match σ[i]? with
    | some j => .op j (B9 (cG σ l) σ fuel (i::done))
    | none => .bad
   | none => .bad) S k).P->(match (cG σ l)[i]? with
   | some o=>cF C N B (cG σ l) [o] S fun S'=>uM C N B (cG σ l) fuel (i::done) S' k
   | none => .ff 19:Fm).P:=by
   intro i hi
   cases ho:(cG σ l)[i]? with
   | none=>rw [ho] at hi; unfold fu at hi; exact hi.elim
   | some o =>
    rw [ho] at hi;dsimp only at hi ⊢
    cases hs : σ[i]? with
    | none=>rw [hs] at hi; unfold fu at hi; exact hi.elim
    | some j =>
     rw [hs] at hi;dsimp only at hi;unfold fu at hi
     cases rB:l[j]? with
     | none=>rw [rB] at hi; exact hi.elim
     | some o2 =>
      rw [rB] at hi;have h3:=HU hs rB;rw [ho] at h3;cases h3;have mr:(cF C N B l [o2] S fun S'=>fu C N B l (B9 (cG σ l) σ fuel (i::done)) S' k).P:=hi;refine MT (l:=l) (o:=o2) rfl rfl (MY h S o2) (fun S hS => ?_) mr;unfold cF;exact ac3 h fuel (i::done) S hS
  split at hP
  . rename_i hr;rw [hr];unfold fu at hP;exact hP
  . rename_i i hr;rw [hr];exact nk i hP
  . rename_i is h1 h2;generalize nU (cG σ l) done=is at *
    cases is with
    | nil=>exact absurd rfl h1
    | cons i is =>
     cases is with
     | nil=>exact absurd rfl (h2 i)
     | cons j is =>
      dsimp only at hP ⊢
      cases hf:zr (cG σ l) (i::j::is) with
      | some q=>rw [hf] at hP; exact nk q hP
      | none=>rw [hf] at hP; exact ac2 (fun q _ hq=>nk q hq) hP
theorem arE{k:Sx->Fm}(h:fQ (zq (cB C) ops) ops.length=true)(hP:(fu C N B ops (Tv (cB C) ops) S k).P):(Ma C N B (laid (cB C) ops) S k).P:=by
 unfold Tv at hP;dsimp only at hP;unfold Ma abh;unfold laid at hP ⊢;generalize MC:tB (cB C) (cG (zq (cB C) ops) ops)=np at *
 generalize zq (cB C) ops = σ at *
 have hlen : σ.length=ops.length:=by
  unfold fQ at h;simp only [aD] at h;exact eq_of_beq h.1.1
 have dh:(cG σ ops).length = σ.length:=by unfold cG; simp
 refine MZ h (σ.take np) _ _ _ S (by rw [cy,cy,dh]) (fun q o hq=>⟨q,?_,?_⟩) (fun S' sL => ?_) hP
 . exact ac4
 . rw [e9] at hq;split at hq
   . exact hq
   . cases hq
 . cases hc:Ed (cG σ ops) np with
   | true =>
    rw [hc] at sL;dsimp only at sL ⊢;refine MZ h (σ.drop np) _ _ _ S' (by rw [List.length_drop,List.length_drop,dh]) (fun q o hq=>⟨np+q,?_,?_⟩) (fun S2 wy => ?_) sL
    . rw [mo]
    . rw [mo] at hq;exact hq
    . unfold fu at wy;exact wy
   | false =>
    rw [hc] at sL;dsimp only at sL ⊢;exact ac3 h _ _ _ sL
end
inductive Wf (fd:Nat->Prop) (ef:List Nat) (sc:List (Nat×mF)) (lt:List (Nat×zm)) (N:Nat):Bs->List Kt->Prop
 | nil (B):Wf fd ef sc lt N B []
 | code (B c K) (hc:codeOk ef sc lt N c=true) (h:Wf fd ef sc lt N B K):Wf fd ef sc lt N B (.code c::K)
 | block (B id K) (h:Wf fd ef sc lt N B K):Wf fd ef sc lt N B (.block id::K)
 | back (Bo K' f K) (hF:∀ d,fd d->(al Bo.t d).isSome=true) (hT:∀ d x,al Bo.t d=some x->al K'.t d=none) (hE:∀ l e,al Bo.e l=some e->al K'.e l=none) (h:Wf fd ef sc lt N Bo K):Wf fd ef sc lt N (join K' Bo) (.back Bo K' f::K)
 | again (B b K) (hc:codeOk ef sc lt N b=true) (h:Wf fd ef sc lt N B K):Wf fd ef sc lt N B (.again b::K)
 | xO (B f K):Wf fd ef sc lt N B (.xO f::K)
 | eG (B f x l K):Wf fd ef sc lt N B (.eG f x l::K)
section
variable{w w' w0:World}{ρ ρ' ρ2:Nat->Option Rl}{base n:Nat}{ro ro':Nat->Prop}{S0:Pm}{Φ : Pm->Prop}{N:Nat}{B:Bs}{S:Sx}{a:Act}{F:Fx}{P:Program}
theorem M1{p:Nat->Bool}:∀ {l:List AV},(∀ (j:Nat) x,l[j]? = some x->AV.under p x=true)->AV.nR p l=true
 | [],_=>rfl
 | x::l,h=>by
  unfold AV.nR;rw [h 0 x rfl,M1 fun j y hy=>h (j+1) y Bg];rfl
theorem aj.ac5{x:AV}{v:Value}(h:aj w ρ base ro x v)(hn:∀ l,n<=l -> ρ l=none):AV.under (de n) x=true:=by
 have af:∀ l r,ρ l=some r->l<n:=fun l r h=>by
  rcases cv l n with h1|h1
  . exact h1
  . rw [hn l h1] at h; cases h
 have hl:∀ {l:List AV} {vs:List Value},l.length=vs.length->(∀ (j:Nat) x v,l[j]? = some x->vs[j]? = some v->AV.under (de n) x=true)->AV.nR (de n) l=true:=by
  intro l vs hlen h;refine M1 fun j x hx => ?_;have hj:=(c8.1 hx).1;exact h j x _ hx (bq (by rw [<- hlen]; exact hj))
 induction h with
 | un=>rfl
 | gv=>rfl
 | int=>rfl
 | lit=>rfl
 | bool=>rfl
 | aV=>rfl
 | str=>rfl
 | nil=>rfl
 | sl=>rfl
 | wide=>rfl
 | bP cells off b o cs hr LI hlen hc h ih=>exact hl hlen ih
 | ptr l off b h=>simpa [AV.under,de] using af _ _ h
 | fX l off n b h=>simpa [AV.under,de] using af _ _ h
 | mp l b h=>simpa [AV.under,de] using af _ _ h
 | bL l b h=>simpa [AV.under,de] using af _ _ h
 | it l l2 b h=>simpa [AV.under,de] using af _ _ h
 | own l A n' c h=>simpa [AV.under,de] using af _ _ h
 | dv t l k off A n' c b h hA h0 M3=>simpa [AV.under,de] using af _ _ h
 | cW t l a b A n' c h bJ=>simpa [AV.under,de] using af _ _ h
 | agg l vs hlen h ih=>exact hl hlen ih
 | bp l vs hlen h ih=>exact hl hlen ih
 | fn f dV vs hlen h ih=>exact hl hlen ih
theorem M4:∀ (l:List Nat) (n:Nat),n<=oF n l
 | [],n=>aN _
 | k::l,n=>by
  unfold oF;split
  . exact M4 l n
  . have:=M4 l (k+1); omega
theorem M5{md aT:List Nat}{n d:Nat}{x:AV}:∀ {l:List (Nat×AV)},al (pA md aT n l) d=some x->(∃ y,al l d=some y/\(x=y\/x = .un))/\AV.under (de n) x=true
 | (k,y)::l,h=>by
  unfold pA at h;split at h
  . rename_i hm;obtain⟨⟨z,h1,h2⟩,h3⟩:=M5 h;refine⟨?_,h3⟩;rw [cO];split
    . exact absurd h (by
       rename_i e;subst e;have:∀ l:List (Nat×AV),al (pA md aT n l) k=none:=by
        intro l
        induction l with
        | nil=>rfl
        | cons p l ih =>
         obtain⟨k',y'⟩:=p;unfold pA;split
         . exact ih
         . rename_i pq;rw [cO,ax (by rintro rfl; exact pq hm)];exact ih
       rw [this l]
       simp)
    . exact⟨z,h1,h2⟩
  . rw [cO] at h;rw [cO];split at h
    . rename_i e;rw [aG e];injection h with h;subst h;split
      . exact⟨⟨y,rfl,.inr rfl⟩,rfl⟩
      . rename_i hc;simp only [fM,yR,xw,iR] at hc;exact⟨⟨y,rfl,.inl rfl⟩,by simpa using hc.2⟩
    . rename_i e;rw [ax e];exact M5 h
 | [],h=>by cases h
theorem arF{l:List (Nat×AV)}(h:al l d=none):al (pA md aT n l) d=none:=by
 cases hk:al (pA md aT n l) d with
 | none=>rfl
 | some x =>
  obtain⟨⟨y,h1,_⟩,_⟩:=M5 hk;rw [h] at h1;cases h1
theorem Tx{aT:List Nat}{n:Nat}:∀ {l:List AV} {j:Nat} {x:AV},(zo aT n l)[j]? = some x->∃ y,l[j]? = some y/\(x=y\/x = .un)/\AV.under (de n) x=true
 | [],j,x,h=>by simp [zo] at h
 | y::l,0,x,h=>by
  simp only [zo,pW,bU] at h;subst h;refine⟨y,rfl,?_⟩;split
  . exact⟨.inr rfl,rfl⟩
  . rename_i hc;simp only [fM,yR,xw,iR] at hc;exact⟨.inl rfl,by simpa using hc.2⟩
 | y::l,j+1,x,h=>by
  obtain⟨z,h1,h2⟩:=Tx (l:=l) (j:=j) (x:=x) (by simpa [zo] using h);exact⟨z,by simpa using h1,h2⟩
theorem ac6{aT:List Nat}{n:Nat}:∀ (l:List AV),(zo aT n l).length=l.length
 | []=>rfl
 | x::l=>by simp [zo,ac6 l]
theorem H4{aT:List Nat}{n k:Nat}:∀ (l:List (Nat×En)),al (sF aT n l) k=if bV k aT||decide (n<=k) then none else (al l k).map (RV aT n)
 | []=>by simp [sF,al]
 | (k',e')::l=>by
  unfold sF;by_cases e:k'=k
  . subst e;split
    . rename_i hc;rw [H4 l,aG hc]
    . rw [cO,aG rfl,cO,aG rfl];rfl
  . rw [cO,ax e];split
    . exact H4 l
    . rw [cO,ax e]; exact H4 l
structure Kept (n:Nat) (B2:Bs):Prop where
 t:∀ d x,al B2.t d=some x->AV.under (de n) x=true
 e:∀ l e,al B2.e l=some e->l<n/\En.under (de n) e=true
theorem M6(H:bK w0 S0 N B S a w ρ ro)(hn:S.n<=n)(B2:Bs)(M7:B2=join ⟨pA md aT n S.t,sF aT n S.e⟩ B) :
 Kept n B2/\(∀ d x,al B2.t d=some x->∃ u,a.tmps[d]? = some u/\aj w ρ w0.heap.size ro x u)/\(∀ l e,al B2.e l=some e->dz w ρ w0.heap.size ro l e)/\(∀ d x,al B.t d=some x->al (pA md aT n S.t) d=none)/\∀ l e,al B.e l=some e->al (sF aT n S.e) l=none:=by
 subst M7;have df:∀ l,n<=l -> ρ l=none:=fun l hl=>H.fresh l (cd hn hl);have hT:∀ d x,al (join ⟨pA md aT n S.t,sF aT n S.e⟩ B).t d=some x->(∃ u,a.tmps[d]? = some u/\aj w ρ w0.heap.size ro x u)/\AV.under (de n) x=true:=by
  intro d x hx;unfold join at hx;dsimp only at hx;rw [sM] at hx;split at hx
  . rename_i y hy;cases hx;obtain⟨⟨z,h1,h2⟩,h3⟩:=M5 hy;obtain⟨u,h4,h5⟩:=H.tm d z (by unfold dR; rw [h1]);refine⟨⟨u,h4,?_⟩,h3⟩;rcases h2 with rfl|rfl
    . exact h5
    . exact .un _
  . obtain⟨u,h4,h5⟩:=H.tm d x (by unfold dR; rw [H.kQ d x hx]; exact hx);exact⟨⟨u,h4,h5⟩,h5.ac5 df⟩
 have hE:∀ l e,al (join ⟨pA md aT n S.t,sF aT n S.e⟩ B).e l=some e->dz w ρ w0.heap.size ro l e/\l<n/\En.under (de n) e=true:=by
  have lH:∀ ml r,ρ ml=some r->ml<n:=fun ml r hr=>by
   rcases cv ml n with h|h
   . exact h
   . rw [df ml h] at hr; cases hr
  intro l e he;have af:∀ e,dz w ρ w0.heap.size ro l e->l<n:=fun e he=>by
   obtain⟨r,hr⟩:=he.none;rcases cv l n with h|h
   . exact h
   . rw [df l h] at hr; cases hr
  unfold join at he;dsimp only at he;rw [sM] at he;split at he
  . rename_i y hy;cases he;rw [H4] at hy;split at hy
    . cases hy
    . cases hl:al S.e l with
      | none=>rw [hl] at hy; cases hy
      | some z =>
       rw [hl] at hy;simp only [dG,bU] at hy;subst hy;have h1:=H.en l z (by unfold bF; rw [hl])
       cases z with
       | row fr t T m=>exact⟨h1,af _ h1,rfl⟩
       | map fr ag c t T m=>exact⟨h1,af _ h1,rfl⟩
       | fY k=>exact⟨h1,af _ h1,rfl⟩
       | dead=>exact⟨h1,af _ h1,rfl⟩
       | bL ml c key=>exact⟨h1.none,af _ h1,rfl⟩
       | iter ml c seen left =>
        unfold RV;dsimp only;split
        . exact⟨h1.none,af _ h1,rfl⟩
        . rename_i hc;simp only [fM,yR,aU] at hc;exact⟨h1,af _ h1,by simp only [En.under,de,aU]; omega⟩
       | box T cs =>
        obtain⟨b,us,k1,k4,k5⟩:=h1;refine⟨⟨b,us,k1,k4,by rw [ac6]; exact k5.1,fun j x v hx hv => ?_⟩,lH _ _ k1,M1 fun j x hx=>(Tx hx).elim fun y q=>q.2.2⟩;obtain⟨y,q1,q2,_⟩:=Tx hx;rcases q2 with rfl|rfl
        . exact k5.2 j _ v q1 hv
        . exact .un _
  . have h1:=H.en l e (by unfold bF; rw [H.kT l e he]; exact he);refine⟨h1,af e h1,?_⟩
    cases e with
    | box T cs =>
     obtain⟨b,us,k1,k4,k5⟩:=h1;refine M1 fun j x hx => ?_;obtain⟨v,hv,hr⟩:=k5.get hx;exact hr.ac5 df
    | row fr t T m=>rfl
    | map fr ag c t T m=>rfl
    | fY k=>rfl
    | dead=>rfl
    | iter ml c seen left =>
     obtain⟨b,b2,es,clock,since,stamps,c0,k1,k2,k3⟩:=h1;simpa [En.under,de] using lH _ _ k2
    | bL ml c key =>
     obtain⟨b,es,clock,s,e,k1,k2,k3⟩:=h1;simpa [En.under,de] using lH _ _ k2
 refine⟨⟨fun d x hx=>(hT d x hx).2,fun l e he=>(hE l e he).2⟩,fun d x hx=>(hT d x hx).1,fun l e he=>(hE l e he).1,fun d x hx=>arF (H.kQ d x hx),fun l e he => ?_⟩;rw [H4,H.kT l e he];split<;>rfl
theorem bK.ac7{K':Bs}(sQ:∀ d v,S0.fm d=some v->(al B.t d).isSome=true)(hT:∀ d x,al B.t d=some x->al K'.t d=none)(hE:∀ l e,al B.e l=some e->al K'.e l=none)(H:bK w0 S0 N (join K' B) S a w ρ ro):bK w0 S0 N B (leave K' S) a w ρ ro:=by
 have hlT:∀ d,dR B (leave K' S) d=dR (join K' B) S d:=by
  intro d;unfold dR leave join;dsimp only;rw [sM,sM];cases al S.t d<;>cases al K'.t d<;>rfl
 have hlE:∀ d,bF B (leave K' S) d=bF (join K' B) S d:=by
  intro d;unfold bF leave join;dsimp only;rw [sM,sM];cases al S.e d<;>cases al K'.e d<;>rfl
 refine⟨H.from_,H.size,H.defers,H.gX,fun d x hx=>H.tm d x (by rw [<- hlT]; exact hx),fun l e he=>H.en l e (by rw [<- hlE]; exact he),H.apart,H.fresh,H.own,H.fp,H.dH,fun d x hx => ?_,fun l e he => ?_,fun d v h=>⟨(H.fm d v h).1,sQ d v h⟩⟩
 . unfold leave;dsimp only;have h1:al S.t d=none:=H.kQ d x (by unfold join; dsimp only; rw [sM,hT d x hx]; exact hx);rw [sM,h1];exact hT d x hx
 . unfold leave;dsimp only;have h1:al S.e l=none:=H.kT l e (by unfold join; dsimp only; rw [sM,hE l e he]; exact he);rw [sM,h1];exact hE l e he
theorem ac8{K':Bs}(sQ:∀ S0,Φ S0->∀ d v,S0.fm d=some v->(al B.t d).isSome=true)(hT:∀ d x,al B.t d=some x->al K'.t d=none)(hE:∀ l e,al B.e l=some e->al K'.e l=none)(H:bj w0 Φ N (join K' B) S a w):bj w0 Φ N B (leave K' S) a w:=by
 obtain⟨S0,hS,ρ,ro,H⟩:=H;exact⟨S0,hS,ρ,ro,H.ac7 (sQ S0 hS) hT hE⟩
def KQ(F:Fx)(w0:World)(Φ : Pm->Prop)(n:Nat)(B:Bs)(K:List Kt):Exit->Act->World->Prop
 | .normal,a,w=>∃ f S,f<=n/\bj w0 Φ F.N B S a w/\(cont F f B S K).P
 | .exit id,a,w=>∃ f S,f<=n/\bj w0 Φ F.N B S a w/\(exitTo F f id B S K).P
 | .ret,a,w=>∃ f S,f<=n/\bj w0 Φ F.N B S a w/\(mI F f B S K).P
 | _,_,_=>False
theorem KQ.more{K:List Kt}{e:Exit}(h:KQ F w0 Φ n B K e a w)(hm:n<=m):KQ F w0 Φ m B K e a w:=by
 cases e with
 | normal=>obtain⟨f,S,h1,h2⟩:=h; exact⟨f,S,cd h1 hm,h2⟩
 | exit id=>obtain⟨f,S,h1,h2⟩:=h; exact⟨f,S,cd h1 hm,h2⟩
 | ret=>obtain⟨f,S,h1,h2⟩:=h; exact⟨f,S,cd h1 hm,h2⟩
 | goto l=>exact h.elim
 | panic c=>exact h.elim
 | outgrown=>exact h.elim
theorem M8(h:(oG B S ov oe).P):∃ ta tb,BF B S ov=some ta/\nS none B S oe=some tb/\∀ c∈ta++tb,c ():=by
 unfold oG at h;split at h
 . rename_i ta tb h1 h2;exact⟨ta,tb,h1,h2,Hp h⟩
 . exact h.elim
theorem bK.bare(H:bK w0 S0 N B S a w ρ ro):bK w0 S0 N B ⟨[],[],S.n⟩ a w ρ ro:=by
 refine⟨H.from_,H.size,H.defers,H.gX,fun d x h=>H.tm d x ?_,fun l e h=>H.en l e ?_,H.apart,H.fresh,H.own,H.fp,H.dH,fun _ _ _=>rfl,fun _ _ _=>rfl,H.fm⟩
 . have h':al B.t d=some x:=h;unfold dR;rw [H.kQ d x h'];exact h'
 . have h':al B.e l=some e:=h;unfold bF;rw [H.kT l e h'];exact h'
end
end Go.Proofs.YtamjbkaclhgffaaGreat
