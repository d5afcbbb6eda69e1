/-
  The reference of the chapter 9: finding, heights, slots.
-/
import Derived.Test.YtlpikgchnjajmaaGreatTp34
set_option linter.all false
set_option maxRecDepth 100000
set_option maxHeartbeats 4000000
namespace Go.Proofs.YtlpikgchnjajmaaGreat
open Go.RowKit
variable{B K S a a' c' n v y z:Int}{t:List bX}{c i j k:Nat}{e x:ay}
def UE(cs:List dp)(bs:List aJ)(l:List ay)(c:Int):Bool := !decide ((cs.getD c.toNat Tc.ax.aa).mq=0)&&(decide ((cs.getD c.toNat Tc.ax.aa).mq<fB bs l c 1)||decide ((cs.getD c.toNat Tc.ax.aa).mq<fB bs l c 2))
/- aeT -/
def c5(l:List Ld):Ld:=l.foldl Ld.add dA
theorem Ld.ext'{a b:Ld}(h1:a.af=b.af)(h2:a.x=b.x)(h3:a.y=b.y)(h4:a.z=b.z):a=b:=by
 cases a; cases b; simp only at h1 h2 h3 h4; subst h1; subst h2; subst h3; subst h4; rfl
theorem zf(a b c:Ld):(a.add b).add c=a.add (b.add c):=by unfold Ld.add; apply Ld.ext'<;>simp only<;>omega
theorem UF(a b:Ld):a.add b=b.add a:=by unfold Ld.add; apply Ld.ext'<;>simp only<;>omega
theorem add_zero'(a:Ld):a.add dA=a:=by unfold Ld.add dA; apply Ld.ext'<;>simp only<;>omega
theorem Bb(a):dA.add a=a:=by rw [UF,add_zero']
theorem foldl_add:∀ (l) (s:Ld),l.foldl Ld.add s=s.add (c5 l)
 | [],s=>(add_zero' s).symm
 | x::l,s=>by
  unfold c5;simp only [Nr];rw [foldl_add l,foldl_add l (dA.add x),Bb,zf]
theorem qg(x)(l):c5 (x::l)=x.add (c5 l):=by
 show l.foldl Ld.add (dA.add x)=_
 rw [foldl_add,Bb]
theorem UG(l m):c5 (l++m)=(c5 l).add (c5 m):=by
 unfold c5;rw [ahv,foldl_add];rfl
theorem Dn:∀ (l),(∀ x∈l,cC x=true)->(c5 l).af<=500000000->cC (c5 l)=true/\∀ k,0<=(c5 (l.take k)).af/\(c5 (l.take k)).af<=(c5 l).af
 | [],_,_=>⟨by decide,fun k=>by simp [c5,dA]⟩
 | x::l,h,hs=>by
  rw [qg] at hs ⊢;have hx:=afh (h x (.head _));have jJ:(x.add (c5 l)).af=x.af+(c5 l).af:=rfl;have hl:(c5 l).af<=500000000:=oo
  obtain⟨h1,h2⟩:=Dn l (fun y hy=>h y (.tail _ hy)) hl;refine⟨aui (h x (.head _)) h1 oo,fun k => ?_⟩
  cases k with
  | zero =>
   have:=afh h1;simp only [DJ];show 0<=(0:Int)/\(0:Int)<=_
   omega
  | succ k =>
   rw [Nb,qg];have h3:=h2 k;show 0<=x.af+_/\x.af+_<=x.af+_
   omega
theorem afs:∀ (l) (s),(∀ k,0<=(s.add (c5 (l.take k))).af/\(s.add (c5 (l.take k))).af<=500000000)->pd s l=(s.add (c5 l),0)
 | [],s,_=>by rw [show c5 []=dA from rfl,add_zero']; rfl
 | x::l,s,h=>by
  unfold pd;have h1:=h 1;rw [Nb,DJ,qg,show c5 []=dA from rfl,add_zero'] at h1;have pS:0<=s.af+x.af/\s.af+x.af<=500000000:=h1;rw [aw (r7.2 pS),afs l (s.add x) (fun k=>by
   have h2:=h (k+1);rw [Nb,qg,<- zf] at h2;exact h2),qg,zf]
theorem MC{l:List Ld}(h:∀ x∈l,cC x=true)(hs:(c5 l).af<=500000000):dY l=(c5 l,0):=by
 unfold dY;have h0:l.any xa=false:=by
  rw [DF];intro x hx;unfold xa;rw [h x hx];simp
 rw [ar (by rw [h0]; simp),afs l dA (fun k=>by
  rw [Bb];have:=(Dn l h hs).2 k
  omega),Bb]
def UH(m:sK):Ld:=⟨m.box.af,m.box.af*m.x,m.box.af*m.y,m.box.af*m.h⟩
theorem auy{bs:List aJ}(h:∀ b∈bs,0<=b.af/\b.af<=B)(hB:0<=B)(id):0<=(bZ bs id).1.af/\(bZ bs id).1.af<=B:=by
 unfold bZ;split
 . rename_i b hb;exact h b (List.mem_of_find?_eq_some hb)
 . exact⟨j3 _,hB⟩
structure Small (s:aZ) (bs:List aJ) (l:List ay):Prop where
 zg:jS s bs l=true
 af:∀ b∈bs,0<=b.af/\b.af<=27000
 Dp:l.length<=16
 aE:∀ c∈s.aE,(-60000<=c.x/\c.x<=60000)/\(-60000<=c.y/\c.y<=60000) /\ -60000<=c.z/\c.z<=60000
theorem auz{l:List iT}{d:List iU}(hw:∀ p∈l,nH p)(hd:∀ x∈d,sq x):Small (tH l n) (dQ d) (dJ l n d):=by
 refine⟨atO hw hd,fun b hb => ?_,Us l n d,fun c hc => ?_⟩
 . unfold dQ jU at hb;obtain⟨i,hi,rfl⟩:=iq.1 hb;have h1:=hd _ (lG Tc.fO.aa (show i<d.length by have:=gP.1 hi; omega));obtain⟨_,h2,h3⟩:=h1;show 0<=1000+100*(d.getD i Tc.fO.aa).af/\1000+100*(d.getD i Tc.fO.aa).af<=27000
   omega
 . obtain⟨_,_,_,_,h1,h2,h3⟩:=G9 hw c hc;omega
theorem MD{s:aZ}{bs:List aJ}{l:List ay}(h:ee s bs l=true)(hk:k<l.length):mS s.aE bs l k=true:=by
 unfold ee at h;simp only [au,aI] at h;exact h.2.1 k hk
theorem auA{s:aZ}{bs:List aJ}{l:List ay}(h:ee s bs l=true)(hx:x∈l):wX (fC x) (l.map fC)=true/\0<=x.aF/\(l8 (bZ bs x.box).1.size).any (fun y=>decide (x.half=y))=true:=by
 obtain⟨k,hk,rfl⟩:=zn hx;have h1:=MD h hk;have e:l.getD k Tc.aq.aa=l[k]:=by rw [ba,bp hk,gZ]
 unfold mS r9 at h1;rw [e] at h1;simp only [au,aI] at h1;exact⟨h1.2.1.2,h1.2.1.1.2.2.1,h1.2.1.1.2.2.2.2⟩
theorem auB{s:aZ}{bs:List aJ}{l:List ay}(h:ee s bs l=true)(hx:x∈l):x.half=0/\(bZ bs x.box).1.size=40\/(x.half=1\/x.half=2)/\(bZ bs x.box).1.size=20:=by
 have h1:=(auA h hx).2.2;unfold l8 at h1;by_cases h4:(bZ bs x.box).1.size=40
 . rw [aw h4] at h1;simp at h1;exact .inl ⟨h1,h4⟩
 . rw [ar h4] at h1;by_cases h2:(bZ bs x.box).1.size=20
   . rw [aw h2] at h1;simp at h1;exact .inr ⟨h1,h2⟩
   . rw [ar h2] at h1;simp at h1
theorem afu{s:aZ}{bs:List aJ}{l:List ay}(h:ee s bs l=true)(jF:i<j)(hj):kK (fC l[j]) (fC l[i])=false:=by
 have h1:=MD h hj;have e:l.getD j Tc.aq.aa=l[j]:=by rw [ba,bp hj,gZ]
 unfold mS at h1;rw [e] at h1;simp only [au,aI] at h1;have h2:=h1.2.2 i jF;rwa [ba,gY,bp (show i<l.length from oo)] at h2
theorem auC(a b):kK a b=kK b a:=by
 unfold kK wW;rw [sD];simp only [au,gz,aI];constructor<;>(rintro⟨h1,h2,h3⟩; refine⟨h1.symm,h2.symm,?_⟩; rcases h3 with h3|h3|h3)<;>simp [h3]
theorem afv{s:aZ}{bs:List aJ}{l:List ay}(h:ee s bs l=true){y:ay}(hx:x∈l)(hy:y∈l)(hm:kK (fC x) (fC y)=true):x=y:=by
 obtain⟨i,hi,rfl⟩:=zn hx;obtain⟨j,hj,rfl⟩:=zn hy;rcases aht i j with h1|h1|h1
 . rw [auC,afu h h1 hj] at hm;cases hm
 . subst h1;rfl
 . rw [afu h h1 hi] at hm;cases hm
/- aqJ -/
def kT(l:List ay)(i:Nat):Int:=(l.getD i Tc.aq.aa).aF
theorem afw(n):∀ (j) (l),j<l.length->n<=l.length->j<n->(∀ i k,i<k->k<n->i≠j->k≠j->kT l i<=kT l k)->(∀ k,j<k->k<n->kT l j<=kT l k)->∀ i k,i<k->k<n->kT (kO jR Tc.aq.aa 0 j l) i<=kT (kO jR Tc.aq.aa 0 j l) k
 | 0,l,hj,hn,uR,h1,h2,i,k,ju,hk=>by
  unfold kO;by_cases hi:i=0
  . subst hi; exact h2 k ju hk
  . exact h1 i k ju hk hi oo
 | j+1,l,hj,hn,uR,h1,h2,i,k,ju,hk=>by
  unfold kO;rw [LC];have e0:decide (0<j+1)=true:=by simp
  rw [e0,dL];by_cases aj:(l.getD (j+1) Tc.aq.aa).aF<(l.getD j Tc.aq.aa).aF
  . rw [c8 aj,eG];have hg:∀ q,kT (swapAt Tc.aq.aa l j) q=if q=j then kT l (j+1) else if q=j+1 then kT l j else kT l q:=fun q=>by
     unfold kT;rw [SX _ _ _ _ hj];split
     . rfl
     . split<;>rfl
    have ID:kT l (j+1)<kT l j:=aj;refine afw n j _ (by rw [yV]; omega) (by rw [yV]; exact hn) oo (fun a b bm hb ha1 cN => ?_) (fun b hb uy => ?_) i k ju hk
    . rw [hg,hg,ar ha1,ar cN];by_cases ha:a=j+1
      . rw [aw ha,ar oo];exact h1 j b oo hb oo oo
      . rw [ar ha];by_cases fu:b=j+1
        . rw [aw fu];exact h1 a j oo oo ha oo
        . rw [ar fu];exact h1 a b bm hb ha fu
    . rw [hg,hg,aw rfl,ar oo];by_cases fu:b=j+1
      . rw [aw fu]; omega
      . rw [ar fu];exact h2 b oo uy
  . rw [gw aj,fG];have ID:kT l j<=kT l (j+1):=by unfold kT; omega
    by_cases hi:i=j+1
    . subst hi; exact h2 k ju hk
    . by_cases cg:k=j+1
      . subst cg;by_cases jF:i=j
        . subst jF; exact ID
        . have:=h1 i j oo oo hi oo;omega
      . exact h1 i k ju hk hi cg
theorem afx(l):∀ (n),n+1<=l.length->∀ i k,i<k->k<n+1->kT (oy jR Tc.aq.aa 0 l n) i<=kT (oy jR Tc.aq.aa 0 l n) k
 | 0,hn,i,k,ju,hk=>oo
 | n+1,hn,i,k,ju,hk=>by
  unfold oy;have hl:=LA jR Tc.aq.aa 0 l n;have ih:=afx l n oo;rw [show 0+1+n=n+1 from oo];exact afw (n+2) (n+1) _ oo oo oo (fun a b bm hb ha fu=>ih a b bm oo) (fun b hb fu=>absurd hb oo) i k ju oo
theorem auE(l)(ju:i<k)(hk:k<l.length):kT (aV l) i<=kT (aV l) k:=by
 unfold aV AP;exact afx l (l.length - (0+1)) oo i k ju oo
/- ayx -/
theorem auF{c:Int}(h:¬ (c=c'/\a=a')):je c a≠je c' a':=by
 intro e;unfold je at e;simp only [sB,Kx.i.injEq,aR,aS] at e;exact h e
theorem auG{bs:List aJ}(m)(hf:(bZ bs x.box).2=true)(hh:x.half=0\/x.half=1\/x.half=2)(c)(ha:a=1\/a=2):(sk bs m x (je c a)).getD 0=(m (je c a)).getD 0+lF bs c a x:=by
 unfold sk qW lF;rw [aw hf];by_cases hc:x.ax=c
 . subst hc;rcases hh with hh|hh|hh<;>rcases ha with ha|ha<;>subst ha<;>simp [hh,pg,fl,je]
 . have hn:∀ a',je c a≠je x.ax a':=fun a'=>auF (fun e=>hc e.1.symm);have hz:∀ (hs:List Int) (m:List Kx->Option Int),(hs.foldl (fun m h=>fl m (je x.ax h) ((m (je x.ax h)).getD 0+jd (bZ bs x.box).1)) m) (je c a)=m (je c a):=by
    intro hs
    induction hs with
    | nil=>intro m; rfl
    | cons h hs ih =>
     intro m;rw [Nr,ih];unfold fl;rw [ar (hn h)]
   rw [hz,ar (fun e=>hc e.1)];omega
theorem auH{bs:List aJ}{l:List ay}(h:∀ x∈l,(bZ bs x.box).2=true/\(x.half=0\/x.half=1\/x.half=2))(c)(ha:a=1\/a=2):(jv bs l (je c a)).getD 0=fB bs l c a:=by
 have:∀ (l:List ay) (m:List Kx->Option Int),(∀ x∈l,(bZ bs x.box).2=true/\(x.half=0\/x.half=1\/x.half=2))->(l.foldl (sk bs) m (je c a)).getD 0=(m (je c a)).getD 0+(l.map (lF bs c a)).sum:=by
  intro l
  induction l with
  | nil=>intro m _; simp
  | cons x l ih =>
   intro m h;have hx:=h x (.head _);rw [Nr,ih _ (fun y hy=>h y (.tail _ hy)),auG m hx.1 hx.2 c ha,kX,Bn];omega
 have h2:=this l (fun _=>none) h;unfold jv fB;rw [h2];simp
theorem afy{s:aZ}{bs:List aJ}{l:List ay}(h:ee s bs l=true):∀ x∈l,(bZ bs x.box).2=true/\(x.half=0\/x.half=1\/x.half=2):=fun x hx=>⟨aeM h x hx,by
 rcases auB h hx with h1|h1
 . exact .inl h1.1
 . exact .inr h1.1⟩
theorem afz{s:aZ}{bs:List aJ}{l:List ay}(h:ee s bs l=true):l.Nodup:=by
 have aj:∀ i k,i<k->k<l.length->(l.getD i Tc.aq.aa).box<(l.getD k Tc.aq.aa).box:=by
  exact afA
 unfold List.Nodup;rw [xq];intro i k hi hk ju e;have:=aj i k ju hk;rw [ba,bp hi,ba,bp hk] at this;simp only [gZ] at this;rw [e] at this;omega
def Dq(bs:List aJ)(l:List ay)(c a t:Int):Int:=fB bs (l.filter fun x=>decide (x.aF<t)) c a
def xn(h:Int):Int:=cond (decide (h=2)) 2 1
theorem auI(h):(pg h).headD 0=xn h:=by
 unfold pg xn;by_cases h1:h=1
 . subst h1; rfl
 . by_cases h2:h=2
   . subst h2; rfl
   . simp [h1,h2]
theorem afB(h):xn h=1\/xn h=2:=by
 unfold xn;cases decide (h=2)<;>simp
theorem auJ{bs:List aJ}{l m:List ay}(h:l.Perm m)(c a):fB bs l c a=fB bs m c a:=by
 unfold fB
 induction h with
 | nil=>rfl
 | cons x _ ih=>rw [kX,kX,Bn,Bn,ih]
 | swap x y l=>simp only [kX,Bn]; omega
 | trans _ _ UI UJ=>exact UI.trans UJ
theorem auK{bs:List aJ}(l m)(c a):fB bs (l++m) c a=fB bs l c a+fB bs m c a:=by
 unfold fB;rw [sC,List.sum_append]
theorem UK{bs:List aJ}{c a:Int}(p):∀ (l),(∀ x∈l,p x=false->lF bs c a x=0)->fB bs (l.filter p) c a=fB bs l c a
 | [],_=>rfl
 | x::l,h=>by
  have ih:=UK (bs:=bs) (c:=c) (a:=a) p l fun y hy=>h y (.tail _ hy);unfold fB at ih ⊢;rw [H7]
  cases hp:p x with
  | true=>simp only [eH,kX,Bn,ih]
  | false =>
   rw [kX,Bn,h x (.head _) hp,Int.zero_add];simpa using ih
theorem auL{s:aZ}{bs:List aJ}{l:List ay}(h:ee s bs l=true):∀ i k,i<k->k<l.length->(l.getD i Tc.aq.aa).box<(l.getD k Tc.aq.aa).box:=by
 exact afA
theorem auM{s:aZ}{bs:List aJ}{l:List ay}(h:ee s bs l=true)(hj)(ha:(aV l)[j].half=0\/a=(aV l)[j].half):fB bs ((aV l).take j) (aV l)[j].ax a=Dq bs l (aV l)[j].ax a (aV l)[j].aF:=by
 have jc:=CW l;have hlen:=jc.length_eq;have iM:(aV l).Nodup:=jc.nodup_iff.2 (afz h);obtain⟨X,hX⟩:∃ X,X=(aV l)[j]:=⟨_,rfl⟩
 have hXl:X∈l:=jc.mem_iff.1 (by rw [hX]; exact mj hj);rw [<- hX] at ha ⊢;have afC:∀ i k,(ju:i<k)->(hk:k<(aV l).length)->((aV l)[i]'oo).aF<=((aV l)[k]).aF:=fun i k ju hk=>by
  have:=auE l ju oo;unfold kT at this;rw [ba,bp (show i<(aV l).length from oo),ba,bp hk] at this;exact this
 unfold Dq;rw [<- auJ (jc.filter fun x=>decide (x.aF<X.aF))];have Qi:aV l=(aV l).take j++(aV l).drop j:=(jg j _).symm;rw [congrArg (List.filter fun x=>decide (x.aF<X.aF)) Qi,HV,auK];have h2:((aV l).drop j).filter (fun x=>decide (x.aF<X.aF)) = []:=by
  rw [ahl];intro y hy;obtain⟨i,hi,rfl⟩:=zn hy;rw [iH] at hi;rw [List.getElem_drop,aI,hX];by_cases he:i=0
  . subst he; simp
  . have:=afC j (j+i) oo oo;omega
 rw [h2,UK]
 . simp [fB]
 . intro y hy hn;obtain⟨i,hi,rfl⟩:=zn hy;rw [c6] at hi;have jF:i<j:=oo
   rw [List.getElem_take] at hn ⊢;simp only [fR] at hn;have h1:=afC i j jF hj;rw [<- hX] at h1;unfold lF;rw [ar]
   rintro⟨hc,hh⟩
   have qN:(aV l)[i]'oo∈l:=jc.mem_iff.1 (mj _);have:=afv h qN hXl (by
    unfold kK wW fC;have:((aV l)[i]'oo).aF=X.aF:=oo
    simp only [hc,this,qm,dL];rcases ha with ha|ha
    . simp [ha]
    . rcases hh with hh|hh
      . simp [hh,ha]
      . simp [hh])
   rw [hX] at this;exact (xq.1 iM) i j oo hj jF this
theorem afD{s:aZ}{bs:List aJ}{l:List ay}(h:jS s bs l=true):ee s bs l=true:=by
 unfold jS at h;simp only [au] at h;exact h.2
def rm(s:aZ)(bs:List aJ)(l:List ay)(e:ay):Int×Int×Int :=
 (tt (s.aE.getD e.ax.toNat Tc.ax.aa) e.half,(s.aE.getD e.ax.toNat Tc.ax.aa).y,2*((s.aE.getD e.ax.toNat Tc.ax.aa).z+Dq bs l e.ax (xn e.half) e.aF)+jd (bZ bs e.box).1)
theorem auO{s:aZ}{bs:List aJ}{l:List ay}(h:ee s bs l=true)(hj):AR s.aE bs (jv bs ((aV l).take j)) (aV l)[j]=⟨(bZ bs (aV l)[j].box).1,(rm s bs l (aV l)[j]).1,(rm s bs l (aV l)[j]).2.1,(rm s bs l (aV l)[j]).2.2⟩:=by
 have jc:=CW l;have hM:∀ x∈(aV l).take j,x∈l:=fun x hx=>jc.mem_iff.1 (vF hx);have hX:=afy h _ (jc.mem_iff.1 (mj hj));unfold AR rm;rw [auI,auH (fun x hx=>afy h x (hM x hx)) _ (afB _),auM h hj];rcases hX.2 with h0|h0|h0
 . exact .inl h0
 . exact .inr (by rw [h0]; rfl)
 . exact .inr (by rw [h0]; rfl)
def auP(l:List ay)(i k:Nat):Prop:=¬ (l.getD i Tc.aq.aa).box<=(l.getD k Tc.aq.aa).box/\kK (fC (l.getD k Tc.aq.aa)) (fC (l.getD i Tc.aq.aa))=false
def auQ(s:aZ)(bs:List aJ)(l:List ay)(i:Nat):Prop:=((bZ bs (l.getD i Tc.aq.aa).box).2=true/\r9 s.aE (fC (l.getD i Tc.aq.aa)) (bZ bs (l.getD i Tc.aq.aa).box).1.size=true/\wX (fC (l.getD i Tc.aq.aa)) (l.map fC)=true)/\∀ k,k<i->auP l i k
theorem afE(a b):kK a b=kK b a:=by
 unfold kK wW;rw [show decide (a.ax=b.ax)=decide (b.ax=a.ax) from by simp [DQ],show decide (a.aF=b.aF)=decide (b.aF=a.aF) from by simp [DQ],show decide (a.half=b.half)=decide (b.half=a.half) from by simp [DQ],Bool.or_comm (decide (a.half=0))]
theorem afF{l:List ay}(h:j<l.length):(l.map fC).getD j Tc.slot.aa=fC (l.getD j Tc.aq.aa):=by
 rw [nM _ (by simpa using h),nM _ h,List.getElem_map]
theorem afG{s:aZ}(hs:gu s=true)(bs)(l)(hc:c<s.aE.length):tp s.aE bs l c = !UE s.aE bs l c:=by
 have h:=(((afq s).1 hs).2.1 c hc).1;unfold jQ sd at h;simp only [H9,List.all_nil,ga,au,nB,aI] at h;have h0:0<=(s.aE.getD c Tc.ax.aa).mq:=h.2.2.2.2.1.1;unfold tp UE;rw [dV];generalize (s.aE.getD c Tc.ax.aa).mq=H at h0;generalize fB bs l (c:Int) 1=A;generalize fB bs l (c:Int) 2=B;by_cases e:H=0
 . rw [c8 (show H<=0 from oo),c8 e]; rfl
 . rw [gw (show ¬ H<=0 from oo),gw e,rB,Ns,dL,Bool.not_or];by_cases a:A<=H<;>by_cases b:B<=H<;>simp [a,b]<;>omega
theorem auR(s)(bs)(l):ee s bs l=true↔gu s=true/\(∀ i,i<l.length->auQ s bs l i)/\∀ c,c<s.aE.length->UE s.aE bs l c=false:=by
 constructor
 . intro h;have aj:=auL h;unfold ee at h;simp only [au,aI] at h;obtain⟨h1,h2,h3⟩:=h;refine⟨h1,fun i hi => ?_,fun c hc => ?_⟩
   . have h4:=h2 i hi;unfold mS at h4;simp only [au,aI] at h4;refine⟨⟨h4.1.1,h4.2.1.1,h4.2.1.2⟩,fun k hk=>⟨?_,?_⟩⟩
     . have:=aj k i hk hi;omega
     . have:=h4.2.2 k hk;rw [afF oo] at this;rw [afE];exact this
   . have h4:=h3 c hc;rw [afG h1 bs l hc] at h4;simpa using h4
 . rintro⟨h1,h2,h3⟩
   unfold ee;simp only [au,aI];refine⟨h1,fun i hi => ?_,fun c hc=>by rw [afG h1 bs l hc,h3 c hc]; rfl⟩;obtain⟨⟨h4,h5,h6⟩,h7⟩:=h2 i hi;unfold mS;simp only [au,aI,gz];refine⟨⟨h4,?_⟩,⟨h5,h6⟩,fun j hj => ?_⟩
   . rcases zo i with h0|h0
     . exact .inl h0
     . have:=(h7 (i - 1) oo).1;exact .inr oo
   . rw [afF oo,afE];exact (h7 j hj).2
/- aeT -/
theorem auS{l m:List Ld}(h:l.Perm m):c5 l=c5 m:=by
 induction h with
 | nil=>rfl
 | cons x _ ih=>rw [qg,qg,ih]
 | swap x y l=>rw [qg,qg,qg,qg,<- zf,<- zf,UF y x]
 | trans _ _ UI UJ=>exact UI.trans UJ
def ME(s:aZ)(bs:List aJ)(l:List ay)(e:ay):sK:=⟨(bZ bs e.box).1,(rm s bs l e).1,(rm s bs l e).2.1,(rm s bs l e).2.2⟩
theorem auT{s:aZ}{bs:List aJ}{l:List ay}(h:ee s bs l=true):CX s.aE bs (aV l)=(aV l).map (ME s bs l):=by
 apply vG;intro j;unfold CX yZ;rw [gY,gY];by_cases hj:j<(aV l).length
 . rw [Nf hj,bp hj,dv,dv,ba,bp hj,gZ,auO h hj];rfl
 . rw [sA (by rw [Vu]; omega),sA oo];rfl
def nN(s:aZ)(bs:List aJ)(l:List ay)(e:ay):Ld:=UH (ME s bs l e)
theorem auU{m:sK}(h:(0<=m.box.af/\m.box.af<=40000)/\(-1100000<=m.x/\m.x<=1100000)/\(-1100000<=m.y/\m.y<=1100000) /\ -1100000<=m.h/\m.h<=1100000):vx m=UH m/\cC (UH m)=true:=by
 constructor
 . unfold vx kL;rw [aw]
   . rfl
   . simp only [au];exact⟨r7.2 oo,kM.2 oo,kM.2 oo,kM.2 oo⟩
 . have arm:∀ x:Int,-1100000<=x->x<=1100000 -> -(m.box.af*1100000)<=m.box.af*x/\m.box.af*x<=m.box.af*1100000:=fun x h3 h4=>by
    have h5:m.box.af*x<=m.box.af*1100000:=tR oo h.1.1;have h6:m.box.af*(-1100000)<=m.box.af*x:=tR oo h.1.1;omega
   exact Gi ⟨⟨h.1.1,by show m.box.af<=_; omega⟩,arm _ oo oo,arm _ oo oo,arm _ oo oo⟩
theorem auV{bs:List aJ}(h:(mR bs).2=0):∀ b∈bs,nw b=true:=by
 intro b hb;obtain⟨k,hk,rfl⟩:=zn hb;unfold mR at h;split at h
 . cases h
 split at h
 . cases h
 rename_i h1;rw [M4] at h1;have h2:=h1 k (gP.2 hk);unfold mQ at h2;rw [bp hk] at h2;simp only [gz,zv,vI,jY] at h2;exact h2.2
theorem auW{b:aJ}(h:nw b=true):1<=b.af/\b.af<=40000:=by
 unfold nw at h;simp only [au] at h;have h3:u5 b.af 1 (AJ b.size)=true:=h.1.1.2;unfold u5 AJ at h3;simp only [au,aI] at h3;split at h3<;>omega
theorem afH{s:aZ}{bs:List aJ}{l:List ay}(h:jS s bs l=true)(id):0<=(bZ bs id).1.af/\(bZ bs id).1.af<=40000:=by
 unfold jS at h;simp only [au,aI] at h;exact auy (fun b hb=>by have:=auW (auV h.1 b hb); omega) oo id
theorem UL{s:aZ}{bs:List aJ}{l:List ay}(h:ee s bs l=true)(he:e∈l):(0<=e.aF/\e.aF<=9)/\(-500000<=(s.aE.getD e.ax.toNat Tc.ax.aa).x/\(s.aE.getD e.ax.toNat Tc.ax.aa).x<=500000)/\(-500000<=(s.aE.getD e.ax.toNat Tc.ax.aa).y/\(s.aE.getD e.ax.toNat Tc.ax.aa).y<=500000) /\ -500000<=(s.aE.getD e.ax.toNat Tc.ax.aa).z/\(s.aE.getD e.ax.toNat Tc.ax.aa).z<=500000:=by
 obtain⟨i,hi,rfl⟩:=zn he;have hr:=MD h hi;rw [show l[i]=l.getD i Tc.aq.aa from by rw [ba,bp hi]; rfl];unfold mS at hr;simp only [au,aI] at hr;have uU:=hr.2.1.1;unfold r9 at uU;simp only [au,aI] at uU;have dZ:0<=(l.getD i Tc.aq.aa).ax/\(l.getD i Tc.aq.aa).ax<(s.aE.length:Int)/\0<=(l.getD i Tc.aq.aa).aF/\(l.getD i Tc.aq.aa).aF<(s.aE.getD (l.getD i Tc.aq.aa).ax.toNat Tc.ax.aa).cW/\_:=uU;have h1:=dZ.1;have h2:=dZ.2.1;have h3:=dZ.2.2.1;have h4:=dZ.2.2.2.1;have _:=dZ.2.2.2.2;have sZ:=(((afq s).1 ((auR s bs l).1 h).1).2.1 (l.getD i Tc.aq.aa).ax.toNat oo).1;unfold jQ sd at sZ;simp only [H9,List.all_nil,ga,au,nB,aI] at sZ;obtain⟨_,_,_,ht,_,_,_,_,hx,hy,hz⟩:=sZ;omega
theorem auX{s:aZ}{bs:List aJ}{l:List ay}(h:ee s bs l=true)(he:e∈l):0<=Dq bs l e.ax (xn e.half) e.aF/\Dq bs l e.ax (xn e.half) e.aF<=2896*e.aF:=by
 have h0:=(UL h he).1.1;refine cL (xn e.half) fun a ha => ?_;have ha0:a≠0:=by have:=afB e.half; omega
 rw [ha];unfold Dq;refine cL (l.filter fun x=>decide (x.aF<e.aF)) fun L hL => ?_;rw [hL];have hp:=UK (bs:=bs) (c:=e.ax) (a:=a) (fun x=>decide (x.ax=e.ax)&&(decide (x.half=a)||decide (x.half=0))) L fun x _ hx=>by
  unfold lF;rw [ar]
  rintro⟨q1,q2⟩
  simp only [Vo,jZ,fR] at hx;rcases hx with hx|hx
  . exact hx q1
  . exact q2.elim hx.1 hx.2
 rw [<- hp];refine cL (L.filter fun x=>decide (x.ax=e.ax)&&(decide (x.half=a)||decide (x.half=0))) fun M hM => ?_;rw [hM];have hb:0<=fB bs M e.ax a/\fB bs M e.ax a<=2896*(M.length:Int):=abu _ (abt bs e.ax a) _;have hlen:M.length<=e.aF.toNat:=by
  have e1:M.length=(M.map (·.aF)).length:=by rw [iQ]
  have mJ:∀ x∈M,x∈l/\x.aF<e.aF/\x.ax=e.ax/\(x.half=a\/x.half=0):=fun x hx=>by
   rw [<- hM,H8,<- hL,H8] at hx;simp only [au,gz,aI] at hx;exact⟨hx.1.1,hx.1.2,hx.2.1,hx.2.2⟩
  have auY:M.Sublist l:=by rw [<- hM,<- hL]; exact List.filter_sublist.trans List.filter_sublist
  rw [e1];have:((List.range e.aF.toNat).map fun k:Nat=>(k:Int)).length=e.aF.toNat:=by rw [iQ,Vu]
  rw [<- this];refine List.Nodup.length_le_of_subset ?_ fun t ht => ?_
  . unfold List.Nodup;rw [ahu];refine List.Pairwise.imp_of_mem ?_ ((afz h).sublist auY);intro x y hx hy aT ht;have q1:=mJ x hx;have q2:=mJ y hy;refine aT (afv h q1.1 q2.1 ?_);unfold kK wW fC;rcases q1.2.2.2 with g1|g1<;>rcases q2.2.2.2 with g2|g2<;>simp [q1.2.2.1,q2.2.2.1,g1,g2,ht]
  . obtain⟨x,hx,rfl⟩:=iq.1 ht;have q1:=mJ x hx;have q2:=(UL h q1.1).1.1;exact iq.2 ⟨x.aF.toNat,gP.2 oo,oo⟩
 omega
theorem auZ{s:aZ}{bs:List aJ}{l:List ay}(h:ee s bs l=true)(he:e∈l):(-1100000<=(rm s bs l e).1/\(rm s bs l e).1<=1100000)/\(-1100000<=(rm s bs l e).2.1/\(rm s bs l e).2.1<=1100000) /\ -1100000<=(rm s bs l e).2.2/\(rm s bs l e).2.2<=1100000:=by
 have h1:=UL h he;have h2:=auX h he;have h3:=u6 (bZ bs e.box).1;refine⟨?_,?_,?_⟩
 . show -1100000<=tt _ _/\tt _ _<=1100000
   unfold tt;cases decide (e.half=1)<;>cases decide (e.half=2)<;>simp only [eG,fG]<;>omega
 . show -1100000<=(s.aE.getD _ Tc.ax.aa).y/\(s.aE.getD _ Tc.ax.aa).y<=1100000
   omega
 . show -1100000<=2*(_+_)+jd _/\2*(_+_)+jd _<=1100000
   omega
theorem UM{s:aZ}{bs:List aJ}{l:List ay}(h:jS s bs l=true)(he:e∈l):vx (ME s bs l e)=nN s bs l e/\cC (nN s bs l e)=true :=
 auU ⟨afH h e.box,auZ (afD h) he⟩
theorem MF{s:aZ}{bs:List aJ}{l:List ay}(h:jS s bs l=true):∀ m:List ay,0<=(c5 (m.map (nN s bs l))).af/\(c5 (m.map (nN s bs l))).af<=40000*m.length
 | []=>by simp [c5,dA]
 | e::m=>by
  have h1:=MF h m;have h2:=afH h e.box;rw [kX,qg];show 0<=(bZ bs e.box).1.af+_/\(bZ bs e.box).1.af+_<=_
  simp only [c9];omega
theorem au0{s:aZ}{bs:List aJ}{l:List ay}(h:jS s bs l=true)(hl:l.length<=1000):rk s bs l=(c5 (l.map (nN s bs l)),0):=by
 have hst:=afD h;have hp:=CW l;unfold rk;rw [h,eG,auT hst,DO];have e:(aV l).map (vx∘ME s bs l)=(aV l).map (nN s bs l):=Nc fun x hx=>(UM h (hp.mem_iff.1 hx)).1;rw [e,<- auS (hp.map (nN s bs l))];refine MC (fun x hx => ?_) ?_
 . obtain⟨m,hm,rfl⟩:=iq.1 hx;exact (UM h (hp.mem_iff.1 hm)).2
 . have:=MF h (aV l);rw [hp.length_eq] at this;omega
theorem Dr{w:List Int}(h:dR t w=true)(hk:k<t.length):Dh t w k=⟨w.getD k 0,w.getD k 0*(t.getD k Tc.bD.aa).x,w.getD k 0*(t.getD k Tc.bD.aa).y,w.getD k 0*(2*(t.getD k Tc.bD.aa).z)⟩/\(0<=w.getD k 0/\w.getD k 0<=(t.getD k Tc.bD.aa).af)/\cC (Dh t w k)=true:=by
 obtain⟨ht,hl,hf⟩:=(gW t w).1 h;have h1:=((tK _).1 (((lI t).1 ht).2 k hk)).1;have h2:=hf k hk;unfold rj jV at h2;rw [au,aI,aI] at h2;unfold Dh;have e0:Tc.int.aa=(0:Int):=rfl;rw [e0] at h2 ⊢;generalize w.getD k 0=n at h2 ⊢;generalize t.getD k Tc.bD.aa=a at h1 h2 ⊢;have e:kL n a.x a.y (2*a.z)=(⟨n,n*a.x,n*a.y,n*(2*a.z)⟩,0):=by
  unfold kL;rw [aw];rw [r7.2 oo,kM.2 oo,kM.2 oo,kM.2 oo];rfl
 have hm:∀ x:Int,-1100000<=x->x<=1100000 -> -(n*1100000)<=n*x/\n*x<=n*1100000:=fun x h3 h4=>by
  have a1:=tR h3 h2.1;have a2:=tR h4 h2.1;constructor<;>omega
 rw [e];refine⟨rfl,h2,Gi ⟨by dsimp only; omega,hm _ oo oo,hm _ oo oo,hm _ oo oo⟩⟩
theorem MG{t:List bX}{w:List Int}(h:dR t w=true):∀ k,k<=t.length->∀ x∈oF t w k,cC x=true
 | 0,_,x,hx=>absurd hx (No)
 | k+1,hk,x,hx=>by
  rcases ku.1 hx with h1|h1
  . exact MG h k oo x h1
  . rw [kq.1 h1];exact (Dr h oo).2.2
theorem UN{t:List bX}{w:List Int}{B:Int}(h:dR t w=true)(hB:∀ k,k<t.length->(t.getD k Tc.bD.aa).af<=B):∀ k,k<=t.length->0<=(c5 (oF t w k)).af/\(c5 (oF t w k)).af<=B*k
 | 0,_=>by rw [show (((0:Nat)):Int)=0 from rfl,Int.mul_zero]; exact⟨j3 _,j3 _⟩
 | k+1,hk=>by
  have h1:=UN h hB k oo;have h2:=Dr h (k:=k) oo;have h3:=hB k oo;have e2:∀ a,c5 [a]=a:=fun a=>Bb a;have e3:oF t w (k+1)=oF t w k ++ [Dh t w k]:=rfl;rw [e3,UG,e2,h2.1];have e4:B*((k+1:Nat):Int)=B*k+B:=by rw [zq,VF]; simp
  rw [e4];show 0<=_+w.getD k 0/\_+w.getD k 0<=_
  omega
def jW(T:List bX)(W:List Int):Ld:=c5 (oF T W T.length)
theorem afI:∀ (l:List Ld) (s:Ld),(∀ x∈l,0<=x.af)->0<=s.af->s.af<=500000000->500000000<s.af+(c5 l).af->pd s l=(dA,3)
 | [],s,_,_,h1,h2=>by
  have:(c5 []).af=0:=rfl;omega
 | x::l,s,h,h0,h1,h2=>by
  have hx:=h x (.head _);have e:(c5 (x::l)).af=x.af+(c5 l).af:=by rw [qg]; rfl
  unfold pd;split
  . rename_i c;have c1:=r7.1 c;exact afI l (s.add x) (fun y hy=>h y (.tail _ hy)) c1.1 c1.2 (by show 500000000<s.af+x.af+_; omega)
  . rfl
theorem UO{l:List Ld}(h:∀ x∈l,cC x=true)(hs:500000000<(c5 l).af):dY l=(dA,3):=by
 have hb:l.any xa=false:=by
  rw [DF];intro x hx;unfold xa;rw [h x hx];decide
 unfold dY;rw [hb,ar (by decide),afI l dA (fun x hx=>(yP (h x hx)).1.1) (by decide) (by decide) (by show 500000000<0+_; omega)]
theorem Hk{a b:Ld}(ha:cC a=true)(hb:cC b=true):∀ x ∈ [a,b],cC x=true:=fun x hx=>by
 rcases fZ.1 hx with h|h
 . rw [h]; exact ha
 . rw [kq.1 h]; exact hb
theorem vz(a b:Ld):c5 [a,b]=a.add b:=by
 rw [qg];congr 1;exact Bb b
theorem au1{w:List Int}(h:dR t w=true):fD t w=if (jW t w).af<=500000000 then (jW t w,0) else (dA,3):=by
 unfold fD jW;rw [aw h];split
 . rename_i c;exact MC (MG h _ (az _)) c
 . rename_i c;exact UO (MG h _ (az _)) oo
theorem afJ{w:List Int}(h:dR t w=true)(hk:(jW t w).af<=500000000):cC (jW t w)=true:=(Dn _ (MG h _ (az _)) hk).1
theorem MH{w:List Int}(h:dR t w=true):0<=(jW t w).af:=by
 have h1:=UN h (B:=500000000) (fun k hk=>(((tK _).1 (((lI t).1 ((gW t w).1 h).1).2 k hk)).1.1).2) t.length (az _);exact h1.1
theorem afK{t:List bX}(h:pr t=true)(w:List Int):∀ k,k<=t.length->0<=tL t w k/\tL t w k<=1000000000000*k
 | 0,_=>⟨j3 _,j3 _⟩
 | k+1,hk=>by
  have h1:=afK h w k oo;have h2:=((tK _).1 (((lI t).1 h).2 k oo)).1.2.2.2.2.1;unfold tL;split<;>omega
theorem MI{w:List Int}(h:dR t w=true):0<=(kR t w).1/\(kR t w).1<=30000000000000:=by
 have h0:=((gW t w).1 h).1;have h1:=afK h0 w t.length (Nat.le_refl _);have h2:=((lI t).1 h0).1;unfold kR;rw [if_pos h];dsimp only;omega
theorem UP{k x:Int}(h:(nL k x y z).2=0):cC (nL k x y z).1=true:=by
 unfold nL at h ⊢;split at h
 . rename_i c;rw [aw c];unfold kL at h ⊢;split at h
   . rename_i c2;rw [aw c2];simp only [au] at c2;have k0:=r7.1 c2.1;have hm:∀ x:Int,-1100000<=x/\x<=1100000 -> -(k*1100000)<=k*x/\k*x<=k*1100000:=fun x h3=>by
      have a1:=tR h3.1 k0.1;have a2:=tR h3.2 k0.1;constructor<;>omega
     exact Gi ⟨k0,hm _ (kM.1 c2.2.1),hm _ (kM.1 c2.2.2.1),hm _ (kM.1 c2.2.2.2)⟩
   . cases h
 . cases h
def pw(s:aZ)(bs:List aJ)(l:List ay):Ld:=(nL s.lk s.lx s.ly s.lz).1.add (c5 (l.map (nN s bs l)))
structure Sound (s:aZ) (bs:List aJ) (l:List ay) (w:List Int):Prop where
 trim:mW s=true
 zg:jS s bs l=true
 nO:dR s.aM w=true
 Dp:l.length<=1000
section
variable{s:aZ}{bs:List aJ}{l:List ay}{w:List Int}
theorem UQ(h:mW s=true):Dj s=true/\(nL s.lk s.lx s.ly s.lz).2=0/\gu s=true/\gL s.rows=true/\pr s.aM=true:=by
 unfold mW at h;simp only [au,aI] at h;exact h
theorem UR(hc:jS s bs l=true)(hl:l.length<=1000):cC (c5 (l.map (nN s bs l)))=true/\0<=(c5 (l.map (nN s bs l))).af:=by
 have h1:=MF hc l;have hA:∀ x∈l.map (nN s bs l),cC x=true:=fun x hx=>by
  obtain⟨e,he,rfl⟩:=iq.1 hx;exact (UM hc he).2
 exact⟨(Dn _ hA oo).1,h1.1⟩
theorem au2(h:Sound s bs l w):gM s bs l w=if (pw s bs l).af<=500000000 then (pw s bs l,0) else (dA,3):=by
 have p:=UQ h.trim;have c:=UR h.zg h.Dp;have ok:=Hk (UP p.2.1) c.1;unfold gM;rw [h.trim,h.nO,zs,aw rfl,au0 h.zg h.Dp,ar (fun h=>h rfl)];split
 . rename_i q;rw [MC ok (by rw [vz]; exact q),vz];rfl
 . rename_i q;rw [UO ok (by rw [vz]; have:((nL s.lk s.lx s.ly s.lz).1.add (c5 (l.map (nN s bs l)))).af=(pw s bs l).af:=rfl; omega)]
theorem afL(h:Sound s bs l w)(hk:(pw s bs l).af<=500000000):cC (pw s bs l)=true:=by
 have p:=UQ h.trim;have c:=UR h.zg h.Dp;have:=(Dn _ (Hk (UP p.2.1) c.1) (by rw [vz]; exact hk)).1;rwa [vz] at this
def fg(s:aZ)(bs:List aJ)(l:List ay)(w:List Int):Ld:=(pw s bs l).add (jW s.aM w)
theorem afM(h:Sound s bs l w):0<=(pw s bs l).af:=by
 have p:=(yP (UP (UQ h.trim).2.1)).1.1;have c:=(UR h.zg h.Dp).2;show 0<=_+_
 omega
theorem au3(h:Sound s bs l w)(hk:(fg s bs l w).af<=500000000):cC (fg s bs l w)=true:=by
 have n1:=afM h;have n2:=MH h.nO;have e:(fg s bs l w).af=(pw s bs l).af+(jW s.aM w).af:=rfl;have:=(Dn _ (Hk (afL h oo) (afJ h.nO oo)) (by rw [vz]; exact hk)).1;rwa [vz] at this
def Ds(s:aZ)(w:List Int)(A:Ld):mg×Int:=if (fQ s.rows A.af).2≠0 then (vy,(fQ s.rows A.af).2) else (Di A (fQ s.rows A.af).1 (findF A).1 (fI (kR s.aM w).1 A.af).1,0)
theorem au4{a b:Ld}(ha:cC a=true)(hb:cC b=true):dY [a,b]=if (a.add b).af<=500000000 then (a.add b,0) else (dA,3):=by
 split
 . rename_i q;rw [MC (Hk ha hb) (by rw [vz]; exact q),vz]
 . rename_i q;rw [UO (Hk ha hb) (by rw [vz]; omega)]
theorem au5(h:Sound s bs l w)(hk:(pw s bs l).af<=500000000):kS s (pw s bs l) w=if (fg s bs l w).af<=500000000 then Ds s w (fg s bs l w) else (vy,3):=by
 have n1:=afM h;have n2:=MH h.nO;have e:(fg s bs l w).af=(pw s bs l).af+(jW s.aM w).af:=rfl;unfold kS;rw [au1 h.nO];by_cases q:(jW s.aM w).af<=500000000
 . rw [if_pos q,if_neg (fun h=>h rfl)];dsimp only;rw [au4 (afL h hk) (afJ h.nO q)];by_cases q2:(fg s bs l w).af<=500000000
   . rw [aw q2,aw (show ((pw s bs l).add (jW s.aM w)).af<=500000000 from q2),ar (fun h=>h rfl)];rfl
   . rw [ar q2,ar (show ¬((pw s bs l).add (jW s.aM w)).af<=500000000 from q2),aw (by decide)]
 . rw [ar q,aw (by decide),ar oo]
theorem au6(h:Sound s bs l w):jf s bs l w=if (fg s bs l w).af<=500000000 then Ds s w (fg s bs l w) else (vy,3):=by
 have n2:=MH h.nO;have e:(fg s bs l w).af=(pw s bs l).af+(jW s.aM w).af:=rfl;unfold jf;rw [au2 h];by_cases q:(pw s bs l).af<=500000000
 . rw [if_pos q,if_neg (fun h=>h rfl)];dsimp only;rw [au5 h q]
 . rw [ar q,aw (by decide),ar oo]
end
theorem afN{α:Type}{l:List α}{x d : α}:(l ++ [x]).getD i d=if i<l.length then l.getD i d else if i=l.length then x else d:=by
 rw [ba,ba];split
 . rw [qh oo]
 . rw [rq oo];split
   . rw [show i - l.length=0 from oo];rfl
   . rw [sA (by simp only [c9,fE]; omega)];rfl
theorem MJ(l:List j8){i:Nat}:∀ k,i<k->(ri l k).getD i Tc.bD.aa=y9 (l.getD i Tc.ij.aa) i
 | 0,h=>absurd h (oJ _)
 | k+1,h=>by
  unfold ri;rw [afN,xl];split
  . exact MJ l k ‹_›
  . rw [aw oo,show i=k from oo]
theorem afO(l:List j8)(fill:List Int){i:Nat}:∀ k,i<k->(tJ l fill k).getD i Tc.int.aa=xj (l.getD i Tc.ij.aa) fill i
 | 0,h=>absurd h (oJ _)
 | k+1,h=>by
  unfold tJ;rw [afN,Ha];split
  . exact afO l fill k ‹_›
  . rw [aw oo,show i=k from oo]
theorem au7{s:Int}(hK:1000<=K)(x y z f:Int):∀ j,j<(tI K s 5).length->oE ⟨K,x,y,z,f,tI K s 5⟩ j=true:=by
 have e:∀ k:Int,0<=k->(K*k).tdiv 4=K*k / 4:=fun k hk=>DA (DL oo hk);have e0:=e ((0:Nat):Int) oo;have e1:=e ((1:Nat):Int) oo;have e2:=e ((2:Nat):Int) oo;have e3:=e ((3:Nat):Int) oo;have e4:=e ((4:Nat):Int) oo;have hS:tI K s 5=((((([]++cond (pq s ((0:Nat):Int)) [(K*((0:Nat):Int)).tdiv 4] [])++cond (pq s ((1:Nat):Int)) [(K*((1:Nat):Int)).tdiv 4] [])++cond (pq s ((2:Nat):Int)) [(K*((2:Nat):Int)).tdiv 4] [])++cond (pq s ((3:Nat):Int)) [(K*((3:Nat):Int)).tdiv 4] [])++cond (pq s ((4:Nat):Int)) [(K*((4:Nat):Int)).tdiv 4] []):=rfl;rw [hS,e0,e1,e2,e3,e4];generalize pq s ((0:Nat):Int)=b0;generalize pq s ((1:Nat):Int)=b1;generalize pq s ((2:Nat):Int)=b2;generalize pq s ((3:Nat):Int)=b3;generalize pq s ((4:Nat):Int)=b4;clear e e0 e1 e2 e3 e4 hS;cases b0<;>cases b1<;>cases b2<;>cases b3<;>cases b4<;>(
  intro j hj;simp only [eG,fG,qk,rv,xu,c9,fE] at hj ⊢;rcases j with _|_|_|_|_|j<;>first|omega|(simp [oE,ze]; omega))
theorem au8{l:List j8}{fill:List Int}(hl:∀ x∈l,x.ok)(hf:∀ x∈fill,0<=x/\x<=255)(k:Nat)(hk:k<=l.length)(h8:k<=8):dR (ri l k) (tJ l fill k)=true:=by
 have hx:∀ i,i<k->(l.getD i Tc.ij.aa).ok:=fun i hi=>hl _ (lG _ oo);rw [gW,lI];refine⟨⟨by rw [xl]; omega,fun j hj => ?_⟩,by rw [xl,Ha],fun i hi => ?_⟩
 . rw [xl] at hj;have h:=hx j hj;rw [MJ l k hj,tK];generalize l.getD j Tc.ij.aa=x at h;obtain⟨h1,h2,h3,h4,h5,h6⟩:=h;unfold y9;have hK:1000<=eR x/\eR x<=256000:=by unfold eR; omega
   have hlen:=Ut (eR x) x.steps 5
   cases hd:decide ((j:Int)<4) with
   | true=>exact⟨⟨by dsimp only; omega,by dsimp only; omega,by dsimp only; omega,by dsimp only; omega,by dsimp only; omega,by dsimp only [cond_true]; omega⟩,fun i hi=>au7 hK.1 _ _ _ _ i hi⟩
   | false=>exact⟨⟨by dsimp only; omega,by dsimp only; omega,by dsimp only; omega,by dsimp only; omega,by dsimp only; omega,by dsimp only [cond_false,List.length_nil]; omega⟩,fun i hi=>absurd hi (Nat.not_lt_zero _)⟩
 . rw [xl] at hi;have h:=hx i hi;unfold rj jV;rw [MJ l k hi,afO l fill k hi];generalize l.getD i Tc.ij.aa=x at h;have hK:1000<=eR x/\eR x<=256000:=by unfold eR; have:=h.1; omega
   show (decide (0<=xj x fill i)&&decide (xj x fill i<=eR x))=true
   rw [au,aI,aI];unfold xj;by_cases hp:0<fill.length
   . rw [c8 hp,eG];have hq:=hf _ (lG Tc.u8.aa (oL i hp));generalize fill.getD (i % fill.length) Tc.u8.aa=q at hq;have h0:0<=eR x*q:=DL oo hq.1;have h1:eR x*q<=eR x*255:=tR hq.2 oo;rw [DA h0];omega
   . rw [gw hp,fG];omega
def tM:List cX := [⟨2000,800000,100,14000,150000⟩,⟨3000,1400000,-300,12500,190000⟩,⟨6000,4000000,50,13000,280000⟩]
theorem US:gL tM=true:=by decide
def iD(k:Int):cX:=tM.getD (jx tM k - 1) Tc.bE.aa
def iE(k:Int):cX:=tM.getD (jx tM k) Tc.bE.aa
structure xo (s:aZ) (bs:List aJ) (l:List ay) (w:List Int):Prop where
 sound:Sound s bs l w
 rows:s.rows=tM
 low:800000<=(fg s bs l w).af
 high:(fg s bs l w).af<=4000000
theorem UT{k:Int}(h1:800000<=k)(h2:k<=4000000):fQ tM k=(vv (iD k) (iE k) k,0)/\Dg (iD k) (iE k) k:=by
 have e1:zb tM=800000:=rfl;have e2:zc tM=4000000:=rfl;refine⟨?_,aeY US (by rw [e1]; exact h1) (by rw [e2]; exact h2)⟩;unfold fQ;rw [US,aw rfl,e1,e2,aw ⟨h1,h2⟩];rfl
section
variable{s:aZ}{bs:List aJ}{l:List ay}{w:List Int}
def ko(A:Ld)(S:Int):mg:=Di A (vv (iD A.af) (iE A.af) A.af) (findF A).1 (fI S A.af).1
theorem xo.ok(h:xo s bs l w):cC (fg s bs l w)=true:=au3 h.sound (by have:=h.high; omega)
theorem xo.Ds(h:xo s bs l w):Ds s w (fg s bs l w)=(ko (fg s bs l w) (kR s.aM w).1,0):=by
 have a:=UT h.low h.high;unfold Go.Proofs.YtlpikgchnjajmaaGreat.Ds;rw [h.rows,a.1,ar (fun h=>h rfl)];rfl
theorem xo.state(h:xo s bs l w):jf s bs l w=(ko (fg s bs l w) (kR s.aM w).1,0):=by
 rw [au6 h.sound,aw (by have:=h.high; omega),h.Ds]
end
def Ld.eZ(A:Ld)(x y z:Int):Ld:=⟨A.af,A.x+x,A.y+y,A.z+z⟩
theorem ayz{A:Ld}(h1:800000<=A.af)(h2:A.af<=4000000)(hS:0<=S/\S<=30000000000000)(hn:n.natAbs<=32768)(o0:cC A=true)(o1:cC (A.eZ (900000*n) (900000*n) (1800000*n))=true)(o2:cC (A.eZ (1800000*n) (900000*n) (1800000*n))=true) :
 let F:=ko A S
 let G:=ko (A.eZ (900000*n) (900000*n) (1800000*n)) S
 let H:=ko (A.eZ (1800000*n) (900000*n) (1800000*n)) S
 (mulL F.y (iR F.af)).1=iR A.y/\(j7 H.tr F.tr).1=(mulL (j7 G.tr F.tr).1 (iR 2)).1 /\
 (rG (j7 G.tr F.tr).1 (iR 0)).1=(if n<0 then -1 else if 0<n then 1 else 0) /\
 (j7 G.y F.y).1=(fI (900000*n) A.af).1/\(j7 F.st G.st).1=(j7 G.y F.y).1/\G.dr=F.dr:=by
 intro F G H;obtain⟨_,hb⟩:=UT h1 h2;have f:=Hi hb o0 hS;have g:=Hi (A:=A.eZ (900000*n) (900000*n) (1800000*n)) hb o1 hS;have k:=Hi (A:=A.eZ (1800000*n) (900000*n) (1800000*n)) hb o2 hS;have hf:Dm A (iD A.af) (iE A.af) S F:=f;have hg:Dm (A.eZ (900000*n) (900000*n) (1800000*n)) (iD A.af) (iE A.af) S G:=g;have hk:Dm (A.eZ (1800000*n) (900000*n) (1800000*n)) (iD A.af) (iE A.af) S H:=k;clear f g k;have v:=Mz hb;have hK:0<A.af:=oo
 have hD:=v.dr.pos;have i0:=b8.int 0 (B:=0) (by decide);have i2:=b8.int 2 (B:=2) (by decide);have t1:=b8.sub hg.tr hf.tr (by decide) (by decide);have t2:=b8.sub hk.tr hf.tr (by decide) (by decide);have t3:=b8.mul t1 i2 (by decide) (by decide);have y1:=b8.sub hg.y hf.y (by decide) (by decide);have s1:=b8.sub hf.st hg.st (by decide) (by decide);have r1:=b8.ratio (a:=900000*n) (b:=A.af) (B:=30000000000) (C:=500000000) hK oo oo (by decide) (by decide);have eT:∀ x y z,pv (A.eZ x y z) (iD A.af) (iE A.af)=pv A (iD A.af) (iE A.af):=fun x y z=>rfl;have eM:∀ x y z,Dl (A.eZ x y z) (iD A.af) (iE A.af)=Dl A (iD A.af) (iE A.af):=fun x y z=>rfl;have eL:∀ x y z,pt (A.eZ x y z) (iD A.af) (iE A.af)=pt A (iD A.af) (iE A.af)+x*((iE A.af).af - (iD A.af).af):=fun x y z=>by
  unfold pt Ld.eZ;dsimp only;rw [Int.add_mul];omega
 have yr:=v.pos;simp only [eT,eM,eL] at *
 generalize pv A (iD A.af) (iE A.af)=T at *
 generalize Dl A (iD A.af) (iE A.af)=M at *
 generalize pt A (iD A.af) (iE A.af)=L at *
 generalize (iE A.af).af - (iD A.af).af=D at *
 have e1:∀ x y z:Int,(A.eZ x y z).af=A.af:=fun x y z=>rfl;have e2:∀ x y z:Int,(A.eZ x y z).y=A.y+y:=fun x y z=>rfl;have e3:∀ x y z:Int,(A.eZ x y z).z=A.z+z:=fun x y z=>rfl;have nA:=MA o0;refine⟨?_,?_,?_,?_,?_,?_⟩
 . rw [hf.af];exact b8.same (b8.mul hf.y (b8.int A.af nA.1) (by decide) (by decide)) (b8.int A.y nA.2.2.1) (by grind)
 . exact b8.same t2 t3 (by grind)
 . rw [t1.cmp i0];have q:(L+900000*n*D)*T - L*T=900000*n*(D*T):=by grind
   have p:=sF hD yr;rw [q,Int.mul_one,VE];rcases ahx n 0 with c|c|c
   . have:900000*n*(D*T)<0:=ahh oo p;rw [aw this,aw c]
   . rw [c,Int.mul_zero,VE]
   . have:0<900000*n*(D*T):=sF oo p;rw [ar oo,aw this,ar oo,aw c]
 . exact b8.same y1 r1 (by simp only [e1,e2]; grind)
 . exact b8.same s1 y1 (by simp only [e1,e2,e3]; grind)
 . rfl
theorem afP{A:Ld}{x S':Int}(h1:800000<=A.af)(h2:A.af<=4000000)(hS:0<=S/\S<=30000000000000)(qG:0<=S'/\S'<=30000000000000)(o:cC A=true)(o1:cC (A.eZ x y z)=true) :
 (rG (ko (A.eZ x y z) S').tr (ko A S).tr).1=(if x<0 then -1 else if 0<x then 1 else 0)/\(rG (ko (A.eZ x y z) S').y (ko A S).y).1=(if y<0 then -1 else if 0<y then 1 else 0)/\(ko (A.eZ x y z) S').dr=(ko A S).dr/\(rG (ko (A.eZ x y z) S').tr (ko A S).tr).2=0/\(rG (ko (A.eZ x y z) S').y (ko A S).y).2=0:=by
 obtain⟨_,hb⟩:=UT h1 h2;have f:Dm A (iD A.af) (iE A.af) S (ko A S):=Hi hb o hS;have g:Dm (A.eZ x y z) (iD A.af) (iE A.af) S' (ko (A.eZ x y z) S'):=Hi (A:=A.eZ x y z) hb o1 qG;have v:=Mz hb;have hK:0<A.af:=oo
 have hD:=v.dr.pos;have yr:=v.pos;refine⟨?_,?_,rfl,by rw [g.tr.cmp f.tr],by rw [g.y.cmp f.y]⟩
 . rw [g.tr.cmp f.tr];have eL:pt (A.eZ x y z) (iD A.af) (iE A.af)=pt A (iD A.af) (iE A.af)+x*((iE A.af).af - (iD A.af).af):=by
    unfold pt Ld.eZ;dsimp only;rw [Int.add_mul];omega
   rw [eL,show pv (A.eZ x y z) (iD A.af) (iE A.af)=pv A (iD A.af) (iE A.af) from rfl];generalize pv A (iD A.af) (iE A.af)=T at *
   generalize pt A (iD A.af) (iE A.af)=L at *
   generalize (iE A.af).af - (iD A.af).af=D at *
   have q:(L+x*D)*T - L*T=x*(D*T):=by grind
   have p:=Int.mul_pos hD yr;dsimp only;rcases Int.lt_trichotomy x 0 with c|c|c
   . have:=ahh c p;rw [aw oo,aw c]
   . subst c;have q0:(L+0*D)*T - L*T=0:=q.trans (VE _);rw [ar oo,ar oo];rfl
   . have:=sF c p;rw [ar oo,aw oo,ar oo,aw c]
 . rw [g.y.cmp f.y];have e1:(A.eZ x y z).af=A.af:=rfl;have e2:(A.eZ x y z).y=A.y+y:=rfl;rw [e1,e2];have q:(A.y+y)*A.af - A.y*A.af=y*A.af:=by grind
   dsimp only;rcases Int.lt_trichotomy y 0 with c|c|c
   . have:=ahh c hK;rw [aw oo,aw c]
   . subst c;rw [VE] at q;rw [ar oo,ar oo];rfl
   . have:=sF c hK;rw [ar oo,aw oo,ar oo,aw c]
def au9(x:p6):List bX:=ri x.ow (min x.ow.length 8)
def bG(x:p6):List Int:=tJ x.ow x.fill (min x.ow.length 8)
def bQ(x:p6):aZ:=⟨(tH x.cG x.cQ).aE,(tH x.cG x.cQ).dh,900000,x.lf,x.lf.tdiv 50,9000,tM,[],au9 x,0,x.t.tmod 20000,x.l.tmod 2000,x.b.tmod 4000⟩
def vA(x:p6):Prop:=(((∀ p∈x.cG,nH p)/\x.cG.length<=140737488351232)/\(0<=x.cQ/\x.cQ<=4294967295)/\(∀ y∈x.bO,sq y)/\x.bO.length<=140737488351232)/\(((∀ y∈x.ow,y.ok)/\x.ow.length<=140737488351232)/\(∀ y∈x.fill,0<=y/\y<=255)/\x.fill.length<=140737488351232)/\(0<=x.t/\x.t<=65535)/\(0<=x.l/\x.l<=65535)/\(0<=x.b/\x.b<=65535) /\ -32768<=x.lf/\x.lf<=32767
theorem UU(h : -32768<=n/\n<=32767) : -656<=n.tdiv 50/\n.tdiv 50<=656:=by
 rcases Int.le_total 0 n with c|c
 . rw [DA c];omega
 . have e:n = -(-n):=oo
   rw [e,Int.neg_tdiv,DA oo];omega
def afQ:aH:=dU 16 abh (fun x=>vA (x ())) (fun x => .aU [.agg (CI fun _=>bQ (x ())),.sl true .box fun _=>dQ (x ()).bO,.sl true .aq fun _=>dJ (x ()).cG (x ()).cQ (x ()).bO,.sl true .int fun _=>bG (x ())])
theorem ava:aK Tryz.prog afQ:=by
 refine eE { kp := [(0,[0]),(1,[1,2]),(2,[1,2,6,7,8]),(3,[1,2,6,7,8]),(4,[1,2,6,7,8,9]),(5,[1,2,6,7,8,9]),(6,[1,2,6,7,8,9]),(7,[2,6,7,8,9])],lt := [] } [aeP,aeQ] ⟨atQ,atU,trivial⟩ [] trivial Tryz.func16 (by kernel_rfl) fun ai res h hp => ?_;obtain⟨(x:p6),rfl,rfl⟩:=eu h;clear h;refine⟨[],?_⟩
 conv=>arg 1; cbv
 simp (maxSteps:=4000000) only [aB,aR,aS,bw];obtain⟨p,q,r1,r2,r3,r4⟩:vA x:=hp;have i1:aY x.lf:=ii
 exact⟨p,q,i1,i1,by decide,ii,by decide,ii,by decide,ii,by decide,rfl,rfl,rfl,rfl,wrap_i64 (by have:=UU r4; omega) (by have:=UU r4; omega),rfl,rfl,rfl,rfl,rfl,rfl,rfl,rfl,rfl⟩
def mX(s:aZ)(a b c:Int):aZ:=⟨s.aE,s.dh,s.lk,s.lx+a,s.ly+b,s.lz+c,s.rows,s.uZ,s.aM,s.m1,s.m2,s.m3,s.m4⟩
theorem avb(s:aZ):mX s 0 0 0=s:=by
 unfold mX;simp only [Int.add_zero]
theorem afR{k x:Int}(hk:0<=k/\k<=500000000)(hx : -1100000<=x/\x<=1100000)(hy : -1100000<=y/\y<=1100000)(hz : -550000<=z/\z<=550000):nL k x y z=(⟨k,k*x,k*y,k*(2*z)⟩,0):=by
 unfold nL kL;rw [aw (kM.2 oo),r7.2 hk,kM.2 hx,kM.2 hy,kM.2 oo];rfl
section
variable{x:p6}
theorem Hl{m:Int}(h:0<=n)(hm:0<m):0<=n.tmod m/\n.tmod m<m:=by
 rw [HG h];exact⟨ahI _ oo,ahs _ hm⟩
theorem afS(h:vA x):dR (bQ x).aM (bG x)=true:=au8 h.2.1.1.1 h.2.1.2.1 (min x.ow.length 8) oo oo
theorem avc(h:vA x):(jW (bQ x).aM (bG x)).af<=2048000:=by
 have hl:(bQ x).aM.length=min x.ow.length 8:=xl _ _;have h1:=UN (afS h) (B:=256000) (fun k hk=>by
  have fP:k<min x.ow.length 8:=oo
  have h2:=h.2.1.1.1 _ (lG Tc.ij.aa (show k<x.ow.length from oo));show ((ri x.ow (min x.ow.length 8)).getD k Tc.bD.aa).af<=256000
  rw [MJ x.ow _ fP];show 1000*(1+_)<=_
  have:=h2.1
  omega) _ (az _)
 unfold jW;omega
theorem avd(h:vA x){b c:Int}(ha : -70000<=a/\a<=70000)(hb : -70000<=b/\b<=70000)(hc : -70000<=c/\c<=70000) :
 xo (mX (bQ x) a b c) (dQ x.bO) (dJ x.cG x.cQ x.bO) (bG x)/\fg (mX (bQ x) a b c) (dQ x.bO) (dJ x.cG x.cQ x.bO) (bG x)=(fg (bQ x) (dQ x.bO) (dJ x.cG x.cQ x.bO) (bG x)).eZ (900000*a) (900000*b) (1800000*c):=by
 obtain⟨⟨⟨p1,p2⟩,p3,p4,p5⟩,q,r1,r2,r3,r4⟩:=h;have hs:=auz (n:=x.cQ) p1 p4;have hq:=UU r4;have e1:=afR (k:=900000) (x:=x.lf+a) (y:=x.lf.tdiv 50+b) (z:=9000+c) oo oo oo oo;have e0:=afR (k:=900000) (x:=x.lf) (y:=x.lf.tdiv 50) (z:=9000) oo oo oo oo;have t1:=Hl (m:=20000) r1.1 (by decide);have t2:=Hl (m:=2000) r2.1 (by decide);have t3:=Hl (m:=4000) r3.1 (by decide);have hw:=afS (x:=x) ⟨⟨⟨p1,p2⟩,p3,p4,p5⟩,q,r1,r2,r3,r4⟩;have hwk:=avc (x:=x) ⟨⟨⟨p1,p2⟩,p3,p4,p5⟩,q,r1,r2,r3,r4⟩;have hn:=MH hw;have hl:=Us x.cG x.cQ x.bO;have hT:mW (mX (bQ x) a b c)=true:=by
  unfold mW Dj;have g1:(mX (bQ x) a b c).m2=x.t.tmod 20000:=rfl;have g2:(mX (bQ x) a b c).m3=x.l.tmod 2000:=rfl;have g3:(mX (bQ x) a b c).m4=x.b.tmod 4000:=rfl;have g4:(nL (mX (bQ x) a b c).lk (mX (bQ x) a b c).lx (mX (bQ x) a b c).ly (mX (bQ x) a b c).lz).2=0:=congrArg Prod.snd e1;have g5:gu (mX (bQ x) a b c)=true:=aeH p1;have g6:gL (mX (bQ x) a b c).rows=true:=US;have g7:pr (mX (bQ x) a b c).aM=true:=((gW _ _).1 hw).1;rw [g1,g2,g3,g4,g5,g6,g7,c8 (show 0<=x.t.tmod 20000/\x.t.tmod 20000<=1000000 from oo),c8 (show 0<=x.l.tmod 2000/\x.l.tmod 2000<=1000000 from oo),c8 (show 0<=x.b.tmod 4000/\x.b.tmod 4000<=1000000 from oo)];rfl
 have hS:Sound (mX (bQ x) a b c) (dQ x.bO) (dJ x.cG x.cQ x.bO) (bG x):=⟨hT,hs.zg,hw,oo⟩
 have oq:0<=(c5 ((dJ x.cG x.cQ x.bO).map (nN (tH x.cG x.cQ) (dQ x.bO) (dJ x.cG x.cQ x.bO)))).af/\(c5 ((dJ x.cG x.cQ x.bO).map (nN (tH x.cG x.cQ) (dQ x.bO) (dJ x.cG x.cQ x.bO)))).af<=640000:=by
  have h1:=MF hs.zg (dJ x.cG x.cQ x.bO);omega
 have eA:fg (mX (bQ x) a b c) (dQ x.bO) (dJ x.cG x.cQ x.bO) (bG x)=((nL 900000 (x.lf+a) (x.lf.tdiv 50+b) (9000+c)).1.add (c5 ((dJ x.cG x.cQ x.bO).map (nN (tH x.cG x.cQ) (dQ x.bO) (dJ x.cG x.cQ x.bO))))).add (jW (bQ x).aM (bG x)):=rfl;have eB:fg (bQ x) (dQ x.bO) (dJ x.cG x.cQ x.bO) (bG x)=((nL 900000 x.lf (x.lf.tdiv 50) 9000).1.add (c5 ((dJ x.cG x.cQ x.bO).map (nN (tH x.cG x.cQ) (dQ x.bO) (dJ x.cG x.cQ x.bO))))).add (jW (bQ x).aM (bG x)):=rfl;have eK:(fg (mX (bQ x) a b c) (dQ x.bO) (dJ x.cG x.cQ x.bO) (bG x)).af=900000+(c5 ((dJ x.cG x.cQ x.bO).map (nN (tH x.cG x.cQ) (dQ x.bO) (dJ x.cG x.cQ x.bO)))).af+(jW (bQ x).aM (bG x)).af:=by
  rw [eA,e1];rfl
 refine⟨⟨hS,rfl,oo,oo⟩,?_⟩;rw [eA,eB,e1,e0];unfold Ld.add Ld.eZ;dsimp only;congr 1<;>grind
theorem afT(h:vA x):xo (bQ x) (dQ x.bO) (dJ x.cG x.cQ x.bO) (bG x):=by
 have:=(avd h (a:=0) (b:=0) (c:=0) (by decide) (by decide) (by decide)).1;rwa [avb] at this
end
theorem Hm{l:List Int}(v d:Int)(hi:i<l.length):(l.set i v).getD k d=if k=i then v else l.getD k d:=by
 rw [ba,ba];by_cases h:k=i
 . subst h;rw [aw rfl,ahk hi];rfl
 . rw [ar h,M7 (fun e=>h e.symm)]
section
variable{t:List bX}{w:List Int}
theorem afU(h:dR t w=true)(hi:i<t.length)(h0:0<=v)(h1:v<=(t.getD i Tc.bD.aa).af):dR t (w.set i v)=true:=by
 obtain⟨a,b,c⟩:=(gW t w).1 h;refine (gW t _).2 ⟨a,by rw [mZ]; exact b,fun k hk => ?_⟩;have hc:=c k hk;unfold rj at hc ⊢;rw [Hm _ _ oo];split
 . rename_i e;subst e;unfold jV;rw [c8 h0,c8 h1];rfl
 . exact hc
theorem afV(h:dR t w=true){i:Nat}(hi:i<t.length){v:Int}(h':dR t (w.set i v)=true):∀ k,k<=t.length->c5 (oF t (w.set i v) k)=if i<k then (c5 (oF t w k)).add ⟨v - w.getD i 0,(v - w.getD i 0)*(t.getD i Tc.bD.aa).x,(v - w.getD i 0)*(t.getD i Tc.bD.aa).y,(v - w.getD i 0)*(2*(t.getD i Tc.bD.aa).z)⟩ else c5 (oF t w k)
 | 0,_=>rfl
 | k+1,hk=>by
  have hl:=((gW t w).1 h).2.1;have ih:=afV h hi h' k oo;have p1:=(Dr h (k:=k) oo).1;have p2:=(Dr h' (k:=k) oo).1;have e3:∀ w,oF t w (k+1)=oF t w k ++ [Dh t w k]:=fun w=>rfl;have e2:∀ a,c5 [a]=a:=fun a=>Bb a;rw [e3,e3,UG,UG,e2,e2,p1,p2,ih,Hm _ _ oo];rcases aht i k with c|c|c
  . rw [aw c,aw (show i<k+1 from oo),ar (show ¬k=i from oo),zf,UF ⟨v - w.getD i 0,_,_,_⟩,<- zf]
  . subst c;rw [if_neg (Nat.lt_irrefl _),if_pos (Nat.lt_succ_self _),if_pos rfl,zf];congr 1;unfold Ld.add;dsimp only;congr 1<;>grind
  . rw [ar oo,ar (show ¬i<k+1 from oo),ar (show ¬k=i from oo)]
theorem afW(h:dR t w=true)(hi:i<t.length)(h':dR t (w.set i v)=true):jW t (w.set i v)=(jW t w).add ⟨v - w.getD i 0,(v - w.getD i 0)*(t.getD i Tc.bD.aa).x,(v - w.getD i 0)*(t.getD i Tc.bD.aa).y,(v - w.getD i 0)*(2*(t.getD i Tc.bD.aa).z)⟩:=by
 unfold jW;rw [afV h hi h' t.length (az _),aw hi]
def mh(w:List Int)(i k:Nat)(n:Int):List Int:=(w.set i (w.getD i 0 - n)).set k ((w.set i (w.getD i 0 - n)).getD k 0+n)
theorem ave(h:dR t w=true)(hi:i<t.length)(hk:k<t.length)(h0:0<=n)(h1:n<=w.getD i 0)(h2:n<=(t.getD k Tc.bD.aa).af - w.getD k 0)(he:i=k->n=0) :
 dR t (mh w i k n)=true/\jW t (mh w i k n)=(jW t w).eZ (n*((t.getD k Tc.bD.aa).x - (t.getD i Tc.bD.aa).x)) (n*((t.getD k Tc.bD.aa).y - (t.getD i Tc.bD.aa).y)) (2*n*((t.getD k Tc.bD.aa).z - (t.getD i Tc.bD.aa).z)):=by
 have hl:=((gW t w).1 h).2.1;have b1:=(Dr h hi).2.1;have f1:=((gW t w).1 h).2.2 i hi;have f2:=((gW t w).1 h).2.2 k hk;unfold rj jV at f1 f2;rw [au,aI,aI] at f1 f2;have e0:Tc.int.aa=(0:Int):=rfl;rw [e0] at f1 f2;have w1:dR t (w.set i (w.getD i 0 - n))=true:=afU h hi oo oo;have g:(w.set i (w.getD i 0 - n)).getD k 0=w.getD k 0:=by
  rw [Hm _ _ oo];split
  . rename_i c;subst c;rw [he rfl,Int.sub_zero]
  . rfl
 have w2:dR t (mh w i k n)=true:=by
  unfold mh;rw [g];exact afU w1 hk oo oo
 refine⟨w2,?_⟩;have q1:=afW h hi w1;have q2:=afW w1 hk (v:=(w.set i (w.getD i 0 - n)).getD k 0+n) w2;unfold mh;rw [q2,q1,g];unfold Ld.add Ld.eZ;dsimp only;congr 1<;>grind
end
structure px where
 af:Int
 dr:bj
 tr:bj
 de:bj
 y:bj
 st:bj
def UW(x:Unit->px):List AV := .int .i64 (fun _=>(x ()).af)::(aO false .iu (fun _=>(x ()).dr)++(aO false .iu (fun _=>(x ()).tr)++(aO false .iu (fun _=>(x ()).de)++(aO false .iu (fun _=>(x ()).y)++aO false .iu fun _=>(x ()).st))))
def AV.UX:AV->Option (Unit->px)
 | .agg (.int .i64 k::l)=>match rS (l.take 17),rS ((l.drop 17).take 17),rS (((l.drop 17).drop 17).take 17),rS ((((l.drop 17).drop 17).drop 17).take 17),rS ((((l.drop 17).drop 17).drop 17).drop 17) with
  | some a,some b,some c,some d,some e=>some fun _=>⟨k (),a (),b (),c (),d (),e ()⟩
  | _,_,_,_,_=>none
 | _=>none
theorem AV.avf{x:AV}{n:Unit->px}(h:x.UX=some n):x = .agg (UW n):=by
 unfold AV.UX at h;split at h
 . rename_i k l;split at h
   . rename_i a b c d e ha hb hc hd he;cases h;unfold UW;dsimp only;rw [show (aO false .iu fun _=>a ())=_ from (wo ha).1,show (aO false .iu fun _=>b ())=_ from (wo hb).1,show (aO false .iu fun _=>c ())=_ from (wo hc).1,show (aO false .iu fun _=>d ())=_ from (wo hd).1,show (aO false .iu fun _=>e ())=_ from (wo he).1,List.take_append_drop,List.take_append_drop,List.take_append_drop,List.take_append_drop]
   . cases h
 . cases h
def avg:List Sg := .int .i64::(CP++(CP++(CP++(CP++CP))))
abbrev Hn:Kd:=⟨px,.agg avg,fun n => .agg (UW n),AV.UX,AV.avf⟩
end Go.Proofs.YtlpikgchnjajmaaGreat
