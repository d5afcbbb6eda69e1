/-
  The sections' sums as rational numbers: what is ahead of a frame, and after it; where a weight lies. Plain.
-/
import Derived.Test.YtamjbkaclhgffaaGreatSh34
set_option linter.all false
set_option maxRecDepth 100000
set_option maxHeartbeats 4000000
namespace Go.Proofs.YtamjbkaclhgffaaGreat
variable{bs:List aL}{S:List au}{F G:List aw}{E i j:Nat}{f:au->Int}
theorem alv{l:List aw}(h:rL none l=true):tR l:=(Wi l none h).1
def dF(F:List aw):Nat:=(10000*(aM (cP F [])).a5).toNat
theorem aCS(F:List aw)(ws:List Wt):(aM (cP F ws)).a5=(aM (cP F [])).a5:=by
 rw [C8 tU,C8 tU,C9 tU (fun _=>rfl),C9 tU (fun _=>rfl)]
theorem alw(l:List aw)(n:Nat)(all:Int):∀ k:Nat,iB au.a4 ((List.range k).map (fV l n all))=n*cN l k - k*all
 | 0=>by simp [iB,cN]
 | k+1=>by
  have e:∀ (S:List au) (a:au),iB au.a4 (S ++ [a])=iB au.a4 S+a.a4:=by
   exact Yf
  rw [AL,ot,YN,e,alw l n all k];show _+((n:Int)*hX l k - all)=(n:Int)*(cN l k+hX l k) - ((k+1:Nat):Int)*all
  push_cast;grind
theorem aCT(G:List aw)(ws:List Wt):(aM (cP G ws)).a4=0:=by
 rw [C8 CL,C9 CL (fun _=>rfl)];unfold iC;rw [YU,alw];grind
theorem aCU:∀ (l:List aw) (n:Nat) (all:Int) (k:Nat),k<=l.length->iB au.a2 ((List.range k).map (fV l n all))=gR (l.take k):=by
 intro l n all k
 induction k with
 | zero=>intro _; simp [iB,gR]
 | succ k ih =>
  intro h;have e:∀ (S:List au) (a:au),iB au.a2 (S ++ [a])=iB au.a2 S+a.a2:=by
   exact Yf
  rw [AL,ot,YN,e,ih oo,Dc oo,Yb];congr 1;show (l.getD k fF).share=_
  simp [show k<l.length from oo]
theorem aCV(hR:gq G=true)(ws:List Wt):(aM (cP G ws)).a2=10000:=by
 obtain⟨p1,p2,p3,p4⟩:=yp hR;rw [C8 CK,C9 CK (fun _=>rfl)];unfold iC;rw [YU,aCU _ _ _ _ oo];have bg:G ≠ []:=by intro e; rw [e] at p1; simp at p1
 have hl:(rM G).share=0:=by
  unfold gq at hR;simp only [aD,aU] at hR;exact hR.2
 have e:G=G.take (G.length - 1) ++ [rM G]:=by
  have h1:=aDX bg;rw [List.dropLast_eq_take] at h1;unfold rM;rw [aD4,aDW bg];exact h1.symm
 have h2:gR G=gR (G.take (G.length - 1))+(rM G).share:=by
  conv=>lhs; rw [e]
  rw [Yb]
 omega
theorem Yg(S:List au)(a b c d:Int):kG S (a+b) (c+d)=kG S a c+kG S b d:=by
 unfold kG;rw [nI,nI,nI,ank,ank];generalize kR S=k;have e:((10000:Int):Rat)=10000:=rfl;rw [e];grind
theorem aCW(h5:((aM S).a5:Rat)≠0):kG S (aM S).a3 (aM S).a5=((aM S).a1:Rat):=by
 unfold kG kR;rw [Rat.div_def _ ((aM S).a5:Rat)];have e:=Rat.inv_mul_cancel _ h5;generalize ((aM S).a5:Rat)⁻¹ = i at *
 grind
theorem aCX:kG S 10000 0=((aM S).a0:Rat):=by
 unfold kG;rw [nI];generalize kR S=k;have e:((10000:Int):Rat)=10000:=rfl;have e0:((0:Int):Rat)=0:=rfl;rw [e,e0];grind
theorem aCY(S:List au)(sh fa hh:Int):kG S sh fa*(hh:Rat)=kG S (sh*hh) (fa*hh):=by
 unfold kG;rw [nI,nI,nI,nI];generalize kR S=k;have e:((10000:Int):Rat)=10000:=rfl;rw [e];grind
theorem alx{F:List aw}(ho:tR F)(y:Int):∀ n,n<=F.length->∃ i,i<=n/\(∀ j (hj:j<F.length),j<i->F[j].x<=y)/\∀ j (hj:j<F.length),i<=j->j<n->y<F[j].x
 | 0,_=>⟨0,aN _,fun j _ h=>oo,fun j _ _ h=>oo⟩
 | n+1,hn=>by
  obtain⟨i,h1,h2,h3⟩:=alx ho y n oo;rcases cv i n with h|h
  . refine⟨i,oo,h2,fun j hj iH qo => ?_⟩;rcases cv j n with h4|h4
    . exact h3 j hj iH h4
    . obtain rfl:j=n:=oo
      have h5:=h3 i oo (aN _) h;have h6:=ho i j h hj oo;omega
  . obtain rfl:i=n:=oo
    by_cases hx:(F[i]'oo).x<=y
    . refine⟨i+1,aN _,fun j hj sP => ?_,fun j hj h4 h5=>oo⟩;rcases cv j i with h4|h4
      . exact h2 j hj h4
      . obtain rfl:j=i:=oo
        exact hx
    . refine⟨i,oo,h2,fun j hj h4 h5 => ?_⟩;obtain rfl:j=i:=oo
      omega
theorem aly(ho:tR F)(y:Int):Splits F y (dw F y):=by
 obtain⟨i,h1,h2,h3⟩:=alx ho y F.length (aN _);have hs:Splits F y i:=⟨h1,h2,fun j hj iH=>h3 j hj iH hj⟩
 rw [<- ahD hs];exact hs
theorem aCZ{l:List aw}{ws:List Wt}(vu:rL none l=true)(vY:3<=l.length)(hl:l.length<=30)(zF:gR l=10000)(hw:ws.length<=3000)(hk:∀ x∈ws,0<=x.aI/\x.aI<=500000000)(h:kC l ws=some S)(j:Nat) :
 (-2000000000000<=(aM (S.take j)).a0/\(aM (S.take j)).a0<=2000000000000)/\(-2000000000000000000<=(aM (S.take j)).a1/\(aM (S.take j)).a1<=2000000000000000000)/\(-10000<=(aM (S.take j)).a2/\(aM (S.take j)).a2<=10000)/\(-10000000000<=(aM (S.take j)).a3/\(aM (S.take j)).a3<=10000000000)/\(-1740000000<=(aM (S.take j)).a4/\(aM (S.take j)).a4<=1740000000)/\(-1740000000000000<=(aM (S.take j)).a5/\(aM (S.take j)).a5<=1740000000000000):=by
 obtain⟨q0,q1,q2,q3,q4,q5⟩:=ahL vu vY hl zF hk h;have r0:=tV Fg S j;have r1:=tV Fh S j;have r2:=tV CK S j;have r3:=tV Fi S j;have r4:=tV CL S j;have r5:=tV tU S j;omega
section
variable(F:List aw)(j:Nat)
theorem PJ(hf:Part f)(h0:∀ u,f (iP u)=0)(ws:List Wt):f (aM ((cP F ws).take j))=iC f F j:=by
 rw [Ye hf,C9 hf h0];omega
theorem FK(hf:Part f)(h0:∀ u,f (iP u)=0)(ws:List Wt):f (aM (cP F ws))=iC f F (F.length - 1):=by
 rw [C8 hf,C9 hf h0];omega
end
theorem PK{l:List aw}(ho:tR l)(h3:3<=l.length)(u:Wt):qD l u=false↔dw l u.x≠0/\dw l u.x<=l.length - 1:=by
 obtain⟨h1,h2,h4⟩:=aly ho u.x;unfold qD;rw [tT (show 0<l.length from oo),tT (show l.length - 1<l.length from oo)];simp only [lU,ew];constructor
 . rintro⟨a,b⟩
   constructor
   . intro e;exact a (h4 0 oo oo)
   . rcases cv (l.length - 1) (dw l u.x) with h|h
     . exact absurd (h2 (l.length - 1) oo h) b
     . exact h
 . rintro⟨a,b⟩
   have q1:=h2 0 oo oo;have q2:=h4 (l.length - 1) oo b;omega
theorem alz{l:List aw}{n:Nat}:∀ (ws:List Wt) (S:List au),(∃ u∈ws,dw l u.x=0\/n<dw l u.x)->o5 l n S ws=none
 | [],_,h=>by obtain⟨u,hu,_⟩:=h; cases hu
 | v::ws,S,h=>by
  unfold o5 Af;by_cases hc:dw l v.x=0\/n<dw l v.x
  . rw [aG hc]
  . rw [ax hc];refine alz ws _ ?_;obtain⟨u,hu,h1⟩:=h;rcases gD.1 hu with rfl|h2
    . exact absurd h1 hc
    . exact⟨u,h2,h1⟩
theorem Yh(f:au->Int)(a:au):∀ S:List au,iB f (S ++ [a])=iB f S+f a
 | []=>by show f a+0=0+f a; omega
 | b::S=>by rw [qL,yE,yE,Yh f a S]; omega
theorem s9(f:au->Int){l:List aw}(h:j<l.length - 1):iC f l (j+1)=iC f l j+f (fV l (l.length - 1) (cN l (l.length - 1)) j):=by
 unfold iC;rw [tf oo,tf oo,AL,ot];exact Yh f _ _
theorem Yi(f:au->Int)(l:List aw):iC f l 0=0:=by
 unfold iC;rw [Nat.zero_min];rfl
theorem alA{f:au->Int}(hf:Part f)(F:List aw)(u:Wt):∀ m:Nat,iB f ((List.range m).map fun i=>s7 F i [u])=if dw F u.x≠0/\dw F u.x<=m then f (iP u) else 0
 | 0=>by
  rw [ax oo];rfl
 | m+1=>by
  rw [AL,ot,YN,Yh,alA hf F u m];have e:s7 F m [u]=(if dw F u.x=m+1 then iP u else au.zero):=au.add_zero _;rw [e];by_cases h:dw F u.x=m+1
  . rw [aG h,ax oo,aG oo];omega
  . rw [ax h,hf.zero];by_cases h1:dw F u.x≠0/\dw F u.x<=m
    . rw [aG h1,aG oo];omega
    . rw [ax h1,ax oo];rfl
def mS(f:au->Int)(y:Int):List Wt->Int
 | []=>0
 | u::ws=>(if u.x<y then f (iP u) else 0)+mS f y ws
def yF(y:Int):List Wt->Int
 | []=>0
 | u::ws=>(if y<=u.x then u.aI else 0)+yF y ws
def uf(y:Int):List Wt->Int
 | []=>0
 | u::ws=>(if y<=u.x then u.aI*(u.x - y) else 0)+uf y ws
theorem alB(y:Int)(u:Wt):∀ ws,yF y (ws ++ [u])=yF y ws+if y<=u.x then u.aI else 0
 | []=>by show _+0=0+_; omega
 | v::ws=>by rw [qL]; show _+yF y (ws ++ [u])=(_+yF y ws)+_; rw [alB y u ws]; omega
theorem alC(y:Int)(u:Wt):∀ ws,uf y (ws ++ [u])=uf y ws+if y<=u.x then u.aI*(u.x - y) else 0
 | []=>by show _+0=0+_; omega
 | v::ws=>by rw [qL]; show _+uf y (ws ++ [u])=(_+uf y ws)+_; rw [alC y u ws]; omega
theorem PL(f:au->Int)(u:Wt)(ws:List Wt):gT f (u::ws)=f (iP u)+gT f ws:=rfl
theorem alD(y:Int):∀ ws,yF y ws=gT au.a0 ws - mS au.a0 y ws
 | []=>rfl
 | u::ws=>by
  rw [PL];show _+yF y ws=u.aI+gT au.a0 ws - (_+mS au.a0 y ws)
  rw [alD y ws];show (if y<=u.x then u.aI else 0)+_=_ - ((if u.x<y then u.aI else 0)+_)
  by_cases h:y<=u.x
  . rw [aG h,ax oo]; omega
  . rw [ax h,aG oo]; omega
theorem alE(y:Int):∀ ws,2*uf y ws=(gT au.a1 ws - mS au.a1 y ws) - 2*y*(gT au.a0 ws - mS au.a0 y ws)
 | []=>by show 2*0=(0 - 0) - 2*y*(0 - 0); simp
 | u::ws=>by
  have ih:=alE y ws;rw [PL,PL];show 2*((if y<=u.x then u.aI*(u.x - y) else 0)+uf y ws)=(2*u.aI*u.x+gT au.a1 ws - ((if u.x<y then 2*u.aI*u.x else 0)+mS au.a1 y ws)) - 2*y*(u.aI+gT au.a0 ws - ((if u.x<y then u.aI else 0)+mS au.a0 y ws))
  by_cases h:y<=u.x
  . rw [aG h,ax oo,ax oo];exact alF
  . rw [ax h,aG oo,aG oo];exact alF
theorem Yj{f:au->Int}(hf:Part f){l:List aw}(ho:tR l){j:Nat}(hj:j<=l.length - 1)(h3:3<=l.length):∀ ws:List Wt,(∀ u∈ws,qD l u=false)->ud f l ws j=mS f (bH l j) ws
 | [],_=>aCP hf l j
 | u::ws,h=>by
  have ih:=Yj hf ho hj h3 ws (fun v hv=>h v (by simp [hv]));have h1:=aln hf l [u] ws j;rw [List.singleton_append] at h1;rw [h1,ih];show _=(if u.x<bH l j then f (iP u) else 0)+mS f (bH l j) ws
  congr 1;unfold ud;rw [alA hf,tf hj];have hu:=(PK ho h3 u).1 (h u (by simp));obtain⟨_,h2,h4⟩:=aly ho u.x;have e:=tT (l:=l) (i:=j) oo;by_cases hx:u.x<bH l j
  . rw [aG hx,aG];refine⟨hu.1,?_⟩;rcases cv j (dw l u.x) with h5|h5
    . have:=h2 j oo h5;omega
    . exact h5
  . rw [ax hx,ax]
    rintro⟨_,h5⟩
    have:=h4 j oo h5;omega
structure ug (l:List aw) (ws:List Wt):Prop where
 right:gq l=true
 J6:∀ x∈ws,0<=x.aI/\x.aI<=500000000
 ins:∀ u∈ws,qD l u=false
 J7:ws.length<=3000
theorem alG(f:au->Int)(y:Int):∀ ws:List Wt,(∀ u∈ws,u.x<y)->mS f y ws=gT f ws
 | [],_=>rfl
 | u::ws,h=>by
  rw [PL];show (if u.x<y then f (iP u) else 0)+mS f y ws=_
  rw [aG (h u (by simp)),alG f y ws (fun v hv=>h v (by simp [hv]))]
theorem alH(l:List aw):∀ i,vz l i=cN l i
 | 0=>rfl
 | i+1=>by
  unfold vz cN hX;rw [alH l i];omega
theorem PM{ws:List Wt}{k:Nat}(h:k<ws.length):ws.take (k+1)=ws.take k ++ [ws.getD k eo]:=by
 exact afQ
theorem alI(a:Int)(ws:List Wt):∀ k,k<=ws.length->sW a ws k=a+gT au.a0 (ws.take k)
 | 0,_=>by show a=a+0; omega
 | k+1,h=>by
  unfold sW;rw [alI a ws k oo,PM oo,Ya];show a+_+_=a+(_+(ws.getD k eo).aI)
  omega
theorem alJ{l:List aw}:∀ i,i<=l.length - 1->qA l i=iC au.a0 l i
 | 0,_=>(Yi _ _).symm
 | i+1,h=>by
  unfold qA;rw [alJ i oo,s9 _ oo];rfl
section
variable{l:List aw}{ws:List Wt}(R:ug l ws)
include R
theorem ug.parts:3<=l.length/\l.length<=30/\rL none l=true/\gR l=10000:=yp R.right
theorem ug.ord:tR l:=alv R.parts.2.2.1
theorem ug.ok:∀ f∈l,f.ok=true:=yo none l R.parts.2.2.1
theorem ug.alK:kC l ws=some (cP l ws):=by
 obtain⟨S,h1,_,_⟩:=alh (l:=l) (n:=l.length - 1) ws (tS l) (X9 l) (fun u hu=>(PK R.ord R.parts.1 u).1 (R.ins u hu));have h2:kC l ws=some S:=h1;rw [h2,aCO h2]
theorem ug.uE:∀ u∈ws,u.x<bH l (l.length - 1):=by
 intro u hu;have h:=R.ins u hu;unfold qD at h;simp only [lU,ew] at h;omega
theorem ug.sum(hf:Part f):f (aM (cP l ws))=iC f l (l.length - 1)+gT f ws:=by
 rw [C8 hf,Yj hf R.ord (aN _) R.parts.1 ws R.ins,alG f _ ws R.uE]
theorem ug.pre(hf:Part f)(hj:j<=l.length - 1):f (aM ((cP l ws).take j))=iC f l j+mS f (bH l j) ws:=by
 rw [Ye hf,Yj hf R.ord hj R.parts.1 ws R.ins]
theorem ug.W:qB l ws=(aM (cP l ws)).a0:=by
 rw [R.sum Fg];unfold qB;rw [alI _ ws ws.length (aN _),vG,alJ _ (aN _)]
theorem ug.aC0(hW:(aM (cP l ws)).a0<=500000000):nG (cP l ws) (dF l):=by
 obtain⟨p1,p2,p3,p4⟩:=R.parts;have h5:=aCR R.ord p1 ws;have h0:0<=(aM (cP l ws)).a0:=by
  rw [<- R.W];have a1:=OV R.ok (l.length - 1) oo;have a2:=OW (a:=qA l (l.length - 1)) R.J6 ws.length (aN _);unfold qB;omega
 refine⟨⟨h0,hW⟩,h5,?_,fun j=>aCZ p3 p1 p2 p4 R.J7 R.J6 R.alK j⟩;unfold dF;rw [<- aCS l ws];omega
end
structure e8 (l:List aw) (ws:List Wt) (D:Nat):Prop where
 r:ug l ws
 b:nG (cP l ws) D
section
variable{l:List aw}{ws:List Wt}{D:Nat}(R:e8 l ws D)
include R
theorem e8.E2:C7 (2*D):=⟨by have:=R.b.rY; omega,pX (j7 2 R.b.rY.2) (by decide)⟩
theorem e8.E1:C7 D:=⟨R.b.rY.1,pX R.b.rY.2 (by decide)⟩
theorem e8.lt(K:Nat)(h:K*17400000000000000000<cA):K*D<cA:=pX (j7 K R.b.rY.2) h
theorem e8.hX(i:Nat):(Go.Proofs.YtamjbkaclhgffaaGreat.hX l i).natAbs<=1000000:=by have:=Ag R.r.ok i; omega
theorem e8.mid(i:Nat):du (2*D) (1000000*D) (ob l i) ((Go.Proofs.YtamjbkaclhgffaaGreat.hX l i:Rat) / ((2:Int):Rat)):=du.half R.E2 _ (R.hX i) (R.lt _ (by decide))
theorem e8.wx{u:Wt}(hu:u∈ws):u.x.natAbs<=500000:=by
 have h1:=(PK R.r.ord R.r.parts.1 u).1 (R.r.ins u hu);have h2:=R.r.parts.1;have:=OA R.r.ok (x:=u.x) h1.1 oo;omega
theorem e8.iG(h:i<l.length):(o8 l i).natAbs<=500000000:=by
 have:=(aw.mP (R.r.ok _ (gK (getD_some fF h)))).2.1;unfold o8;omega
theorem e8.share(h:i<l.length):((l.getD i fF).share).natAbs<=10000:=by
 have:=(aw.mP (R.r.ok _ (gK (getD_some fF h)))).2.2.1;omega
theorem e8.alL:∀ i,i<=l.length - 1->du (2*D) (i*(500000000000000*D)) (vy l i) ((iC au.a1 l i:Rat) / ((2:Int):Rat))
 | 0,_=>by
  exact alM
 | i+1,h=>by
  have ih:=e8.alL i oo;have h1:=(du.int (E:=D) (K:=500000000) (o8 l i) (R.iG oo)).PI R.E2 (R.mid i).1 (R.hX i) (by
   have:=R.lt 500000000000000 (by decide);rw [am4];exact this)
  have e:500000000*D*1000000=500000000000000*D:=oo
  rw [e] at h1;have hb:i*(500000000000000*D)+500000000000000*D<cA:=by
   have h2:=R.r.parts.2.1;have h3:=R.lt (30*500000000000000) (by decide);have h4:(i+1)*(500000000000000*D)<=30*(500000000000000*D):=pd _ oo;rw [mV] at h4;omega
  have h5:=ih.add R.E2 h1 hb;rw [mV,Ky];refine h5.eq ?_;rw [s9 _ oo];show _=(((iC au.a1 l i+o8 l i*Go.Proofs.YtamjbkaclhgffaaGreat.hX l i:Int)):Rat) / _
  push_cast;grind
end
section
variable{l:List aw}{ws:List Wt}{D:Nat}(R:e8 l ws D)
include R
theorem e8.alN:∀ k,k<=ws.length->du (2*D) ((29+k)*(500000000000000*D)) (xe (vy l (l.length - 1)) ws k) ((iC au.a1 l (l.length - 1):Rat) / ((2:Int):Rat)+(gT au.a1 (ws.take k):Rat) / ((2:Int):Rat))
 | 0,_=>by
  have h1:=R.alL (l.length - 1) (aN _);have h2:=R.r.parts.2.1;refine (h1.mono (pd _ oo)).eq ?_;show _=_+((0:Int):Rat) / _
  grind
 | k+1,h=>by
  have ih:=e8.alN k oo;have hu:ws.getD k eo∈ws:=gK (getD_some eo oo);have hk:=R.r.J6 _ hu;have hx:=R.wx hu;have hb:500000000*(2*D)*500000<cA:=by
   have:=R.lt 500000000000000 (by decide);have e:500000000*(2*D)*500000=500000000000000*D:=oo
   rw [e];exact this
  have h1:=(du.int (E:=2*D) (K:=500000000) (ws.getD k eo).aI oo).PH R.E2 (ws.getD k eo).x hx hb;have e:500000000*(2*D)*500000=500000000000000*D:=oo
  rw [e] at h1;have eR:(29+k)*(500000000000000*D)+500000000000000*D<cA:=by
   have h2:=R.r.J7;have h3:=R.lt (3030*500000000000000) (by decide);have h4:(29+k+1)*(500000000000000*D)<=3030*(500000000000000*D):=pd _ oo;rw [mV] at h4;omega
  have h5:=ih.add R.E2 h1 eR;rw [show 29+(k+1)=29+k+1 from rfl,mV (29+k) 1,Ky];refine h5.eq ?_;rw [PM oo,Ya];show _=_+(((gT au.a1 (ws.take k)+2*(ws.getD k eo).aI*(ws.getD k eo).x:Int)):Rat) / _
  push_cast;grind
theorem e8.M:du (2*D) 100000000000000000000000000000000000000 (mQ l ws) (((aM (cP l ws)).a1:Rat) / ((2:Int):Rat)):=by
 have h:=R.alN ws.length (aN _);rw [vG] at h;have hf:=R.r.J7;have h4:(29+ws.length)*(500000000000000*D)<=3030*(500000000000000*17400000000000000000):=vP oo (j7 _ R.b.rY.2);refine ((show du _ _ (mQ l ws) _ from h).mono (cd h4 (by decide))).eq ?_;rw [R.r.sum Fh];push_cast;grind
theorem e8.qC(h:i<l.length):du D 8700000000000000000000000000000000 (Go.Proofs.YtamjbkaclhgffaaGreat.qC l (aM (cP l ws)).a0 i) ((((aM (cP l ws)).a0*(l.getD i fF).share:Int):Rat) / ((10000:Int):Rat)):=by
 have hs:=R.share h;have hW:=R.b.w;have h1:=R.b.ratio (l.getD i fF).share oo;have hb:500000000*D*10000<cA:=by
  have:=R.lt 5000000000000 (by decide);have e:500000000*D*10000=5000000000000*D:=oo
  rw [e];exact this
 have h2:=(du.int (E:=D) (K:=500000000) (aM (cP l ws)).a0 oo).PH R.E1 (l.getD i fF).share hs hb;refine⟨?_,h1⟩;unfold Go.Proofs.YtamjbkaclhgffaaGreat.qC;rw [h2.1,tn,<- nI,J3 (by decide) (R.b.fits h1 (by decide))]
theorem e8.alO:∀ i,i<=l.length - 1->du (2*D) (100000000000000000000000000000000000000+i*8700000000000000000000000000000000000000) (xf l (aM (cP l ws)).a0 (mQ l ws) i) (((aM (cP l ws)).a1:Rat) / ((2:Int):Rat) - (((aM (cP l ws)).a0*iC au.a3 l i:Int):Rat) / ((10000:Int):Rat) / ((2:Int):Rat))
 | 0,_=>by
  rw [vR,Yi,Int.mul_zero];refine du.eq R.M ?_;grind
 | i+1,h=>by
  have ih:=e8.alO i oo;have h2:=R.r.parts.2.1;have h1:=(R.qC (i:=i) oo).PI R.E2 (R.mid i).1 (R.hX i) (by decide);have h3:=ih.sub R.E2 h1 (by
   refine pX (m:=1000000000000000000000000000000000000000000) ?_ (by decide)
   omega)
  refine (h3.mono oo).eq ?_;rw [s9 _ oo];show _=_ - (((aM (cP l ws)).a0*(iC au.a3 l i+(l.getD i fF).share*Go.Proofs.YtamjbkaclhgffaaGreat.hX l i):Int):Rat) / _ / _
  push_cast;grind
theorem e8.Yk(h:i<l.length - 1):(o9 l i).natAbs<=60000000/\o9 l i=(fV l (l.length - 1) (cN l (l.length - 1)) i).a4:=by
 have h1:=R.r.parts.2.1;have ha:=Ff R.r.ok (l.length - 1);have hh:=Ag R.r.ok i;have m3:=pN (a:=((l.length - 1:Nat):Int)) (A:=29) (b:=Go.Proofs.YtamjbkaclhgffaaGreat.hX l i) (B:=1000000) oo hh;have e:o9 l i=((l.length - 1:Nat):Int)*Go.Proofs.YtamjbkaclhgffaaGreat.hX l i - cN l (l.length - 1):=by
  unfold o9 Go.Proofs.YtamjbkaclhgffaaGreat.hX;rw [alH]
 refine⟨?_,e⟩;rw [e];omega
theorem e8.fact:∀ i,i<=l.length - 1->du (2*D) (i*(60000000000000*D)) (xg l i) ((iC au.a5 l i:Rat) / ((2:Int):Rat))
 | 0,_=>by
  exact alM
 | i+1,h=>by
  have ih:=e8.fact i oo;obtain⟨o1,o2⟩:=R.Yk (i:=i) oo;have h1:=(du.int (E:=D) (K:=60000000) (o9 l i) o1).PI R.E2 (R.mid i).1 (R.hX i) (by
   have:=R.lt 60000000000000 (by decide);rw [am4];exact this)
  have e:60000000*D*1000000=60000000000000*D:=oo
  rw [e] at h1;have hb:i*(60000000000000*D)+60000000000000*D<cA:=by
   have h2:=R.r.parts.2.1;have h3:=R.lt (30*60000000000000) (by decide);have h4:(i+1)*(60000000000000*D)<=30*(60000000000000*D):=pd _ oo;rw [mV] at h4;omega
  have h5:=ih.add R.E2 h1 hb;rw [mV,Ky];refine h5.eq ?_;rw [s9 _ oo,o2];show _+((((l.length - 1:Nat):Int)*Go.Proofs.YtamjbkaclhgffaaGreat.hX l i - cN l (l.length - 1):Int):Rat)*_=(((iC au.a5 l i+(((l.length - 1:Nat):Int)*Go.Proofs.YtamjbkaclhgffaaGreat.hX l i - cN l (l.length - 1))*Go.Proofs.YtamjbkaclhgffaaGreat.hX l i:Int)):Rat) / _
  push_cast;grind
theorem e8.kq:kV l (aM (cP l ws)).a0 (mQ l ws)=ofRat (kR (cP l ws)):=by
 have h1:=(R.alO (l.length - 1) (aN _)).1;have h2:=(R.fact (l.length - 1) (aN _)).1;have e3:=FK l Fi (fun _=>rfl) ws;have e5:=FK l tU (fun _=>rfl) ws;rw [<- e3] at h1;rw [<- e5] at h2;have bg:=R.b.PG;have hq:(((aM (cP l ws)).a1:Rat) / ((2:Int):Rat) - (((aM (cP l ws)).a0*(aM (cP l ws)).a3:Int):Rat) / ((10000:Int):Rat) / ((2:Int):Rat)) / (((aM (cP l ws)).a5:Rat) / ((2:Int):Rat))=kR (cP l ws):=by
  unfold kR;rw [nI];have e2:((2:Int):Rat)=2:=rfl;rw [e2];grind
 unfold kV;rw [h1,h2,J3 (by grind) (by rw [hq]; exact R.b.fits R.b.k (by decide)),hq]
theorem e8.lift(h:i<l.length - 1):du D 60000000000000000000000000000000000000 (sX l (aM (cP l ws)).a0 (mQ l ws) i) (kG (cP l ws) (l.getD i fF).share (o9 l i)):=by
 obtain⟨o1,o2⟩:=R.Yk h;have hs:=R.share (i:=i) oo;have h1:=R.qC (i:=i) oo;have hk:du D 30000000000000000000000 (kV l (aM (cP l ws)).a0 (mQ l ws)) (kR (cP l ws)):=⟨R.kq,R.b.k⟩
 have h2:=hk.PH R.E1 (o9 l i) o1 (by decide);have h3:=h1.add R.E1 h2 (by decide);exact⟨h3.1,R.b.lift _ _ oo oo⟩
end
def og(l:List aw)(ws:List Wt)(i:Nat):Rat:=kG (cP l ws) (iC au.a2 l i) (iC au.a4 l i) - (iC au.a0 l i:Rat)
def uh(l:List aw)(ws:List Wt)(i:Nat):Rat:=kG (cP l ws) (iC au.a3 l i) (iC au.a5 l i) - (iC au.a1 l i:Rat)
section
variable{l:List aw}{ws:List Wt}{D:Nat}(R:e8 l ws D)
include R
theorem e8.force(h:i<l.length - 1):du D 70000000000000000000000000000000000000 (Av l (aM (cP l ws)).a0 (mQ l ws) i) (og l ws (i+1) - og l ws i):=by
 have h1:=R.lift h;have h2:=du.int (E:=D) (K:=500000000) (o8 l i) (R.iG oo);have hb:60000000000000000000000000000000000000+500000000*D<=70000000000000000000000000000000000000:=cd (am0 (j7 _ R.b.rY.2) _) (by decide);have h3:=h1.sub R.E1 h2 (pX hb (by decide));refine (h3.mono hb).eq ?_;unfold og;rw [s9 _ h,s9 _ h,s9 _ h,Yg,(R.Yk h).2];show kG _ _ _ - _=kG _ _ _+kG _ (l.getD i fF).share _ - ((iC au.a0 l i+o8 l i:Int):Rat) - _
 push_cast;grind
end
theorem aC1{l:List aw}{ws:List Wt}(h:i<l.length - 1):uh l ws (i+1) - uh l ws i=(og l ws (i+1) - og l ws i)*(Go.Proofs.YtamjbkaclhgffaaGreat.hX l i:Rat):=by
 unfold og uh;rw [s9 _ h,s9 _ h,s9 _ h,s9 _ h,s9 _ h,s9 _ h,Yg,Yg];have ht:=aCY (cP l ws) (fV l (l.length - 1) (cN l (l.length - 1)) i).a2 (fV l (l.length - 1) (cN l (l.length - 1)) i).a4 (Go.Proofs.YtamjbkaclhgffaaGreat.hX l i);have e3:(fV l (l.length - 1) (cN l (l.length - 1)) i).a3=(fV l (l.length - 1) (cN l (l.length - 1)) i).a2*Go.Proofs.YtamjbkaclhgffaaGreat.hX l i:=rfl;have e5:(fV l (l.length - 1) (cN l (l.length - 1)) i).a5=(fV l (l.length - 1) (cN l (l.length - 1)) i).a4*Go.Proofs.YtamjbkaclhgffaaGreat.hX l i:=rfl;have e1:(fV l (l.length - 1) (cN l (l.length - 1)) i).a1=(fV l (l.length - 1) (cN l (l.length - 1)) i).a0*Go.Proofs.YtamjbkaclhgffaaGreat.hX l i:=rfl;rw [<- e3,<- e5] at ht;rw [e1];push_cast;generalize kG (cP l ws) (fV l (l.length - 1) (cN l (l.length - 1)) i).a3 (fV l (l.length - 1) (cN l (l.length - 1)) i).a5=q1 at *
 generalize kG (cP l ws) (fV l (l.length - 1) (cN l (l.length - 1)) i).a2 (fV l (l.length - 1) (cN l (l.length - 1)) i).a4=q2 at *
 grind
theorem alP{q:Rat}(h:q=0):du E 0 (cr 0) q:=by
 rw [h];exact⟨by decide,0,by grind,by simp⟩
section
variable{l:List aw}{ws:List Wt}{D:Nat}(R:e8 l ws D)
include R
theorem e8.alQ{j:Nat}:∀ t,j+t<=l.length - 1->du D (t*70000000000000000000000000000000000000) (xh l (aM (cP l ws)).a0 (mQ l ws) j t) (og l ws (j+t) - og l ws j)
 | 0,_=>by
  rw [vR];refine alP ?_;rw [jD];grind
 | t+1,h=>by
  have ih:=e8.alQ (j:=j) t oo;have h1:=R.force (i:=j+t) oo;have h2:=R.r.parts.2.1;have h3:=ih.add R.E1 h1 (by
   refine pX (m:=100000000000000000000000000000000000000000) ?_ (by decide)
   omega)
  refine (h3.mono oo).eq ?_;rw [show j+(t+1)=j+t+1 from rfl];grind
theorem e8.arm(hj:j<l.length):(gG (ob l i) (cr (bH l j))).1=ofRat ((Go.Proofs.YtamjbkaclhgffaaGreat.hX l i - 2*bH l j:Int) / ((2:Int):Rat))/\(Go.Proofs.YtamjbkaclhgffaaGreat.hX l i - 2*bH l j).natAbs<=2000000:=by
 have hx:=OX R.r.ok hj;have hh:=R.hX i;have h1:=(R.mid i).sub R.E2 (du.int (E:=2*D) (K:=500000) (bH l j) oo) (by
  have:=R.lt 2000000 (by decide);have e:1000000*D+500000*(2*D)=2000000*D:=oo
  rw [e];exact this)
 refine⟨?_,oo⟩;rw [h1.1];congr 1;push_cast;grind
theorem e8.alR{j:Nat}(hj:j<l.length):∀ t,j+t<=l.length - 1->du (2*D) (t*140000000000000000000000000000000000000000000) (xi l (aM (cP l ws)).a0 (mQ l ws) j t) (-((uh l ws (j+t) - uh l ws j) - (og l ws (j+t) - og l ws j)*((2*bH l j:Int):Rat)) / ((2:Int):Rat))
 | 0,_=>by
  rw [vR];refine alP ?_;rw [jD];grind
 | t+1,h=>by
  have ih:=e8.alR hj t oo;obtain⟨g1,g2⟩:=R.arm (i:=j+t) hj;have h1:=(R.force (i:=j+t) oo).PI R.E2 g1 g2 (by decide);have h2:=R.r.parts.2.1;have h3:=ih.sub R.E2 h1 (by
   refine pX (m:=10000000000000000000000000000000000000000000000) ?_ (by decide)
   omega)
  refine (h3.mono oo).eq ?_;have hl:=aC1 (ws:=ws) (show j+t<l.length - 1 from oo);rw [show j+(t+1)=j+t+1 from rfl];generalize og l ws (j+t+1)=u1 at *
  generalize og l ws (j+t)=u0 at *
  generalize uh l ws (j+t+1)=v1 at *
  generalize uh l ws (j+t)=v0 at *
  push_cast;grind
theorem e8.ldS{xj:Int}{B:Nat}{s:ba}{q:Rat}(h:du D B s q)(hB:B<=10000000000000000000000000000000000000000):∀ k,k<=ws.length->du D (B+k*(500000000*D)) (rQ s ws xj k) (q - (yF xj (ws.take k):Rat))
 | 0,_=>by
  rw [vR];refine du.eq h ?_;show _=_ - ((0:Int):Rat)
  grind
 | k+1,hk=>by
  have ih:=e8.ldS (xj:=xj) h hB k oo;have hu:ws.getD k eo∈ws:=gK (getD_some eo oo);have WG:=R.r.J6 _ hu;unfold rQ;rw [PM oo,alB];by_cases hx:xj<=(ws.getD k eo).x
  . rw [aG hx,aG hx];have h1:=du.int (E:=D) (K:=500000000) (ws.getD k eo).aI oo;have hb:B+k*(500000000*D)+500000000*D<cA:=by
     have hf:=R.r.J7;have h4:(k+1)*(500000000*D)<=3001*(500000000*17400000000000000000):=vP oo (j7 _ R.b.rY.2);rw [mV] at h4;refine pX (m:=10000000000000000000000000000000000000000+3001*(500000000*17400000000000000000)) ?_ (by decide);omega
    have h3:=ih.sub R.E1 h1 hb;rw [mV,Ky,<- pZ];refine h3.eq ?_;push_cast;grind
  . exact alT
theorem e8.ldB{xj:Int}(FJ : -500000<=xj/\xj<=500000){B:Nat}{s:ba}{q:Rat}(h:du (2*D) B s q)(hB:B<=10000000000000000000000000000000000000000000000):∀ k,k<=ws.length->du (2*D) (B+k*(1000000000000000*D)) (rR s ws xj k) (q+(uf xj (ws.take k):Rat))
 | 0,_=>by
  rw [vR];refine du.eq h ?_;show _=_+((0:Int):Rat)
  grind
 | k+1,hk=>by
  have ih:=e8.ldB FJ h hB k oo;have hu:ws.getD k eo∈ws:=gK (getD_some eo oo);have WG:=R.r.J6 _ hu;have FF:=R.wx hu;unfold rR;rw [PM oo,alC];by_cases hx:xj<=(ws.getD k eo).x
  . rw [aG hx,aG hx];have e:500000000*(2*D)*1000000=1000000000000000*D:=oo
    have h1:=(du.int (E:=2*D) (K:=500000000) (ws.getD k eo).aI oo).PH (K:=1000000) R.E2 ((ws.getD k eo).x - xj) oo (by rw [e]; exact R.lt _ (by decide));rw [e] at h1;have hb:B+k*(1000000000000000*D)+1000000000000000*D<cA:=by
     have hf:=R.r.J7;have h4:(k+1)*(1000000000000000*D)<=3001*(1000000000000000*17400000000000000000):=vP oo (j7 _ R.b.rY.2);rw [mV] at h4;refine pX (m:=10000000000000000000000000000000000000000000000+3001*(1000000000000000*17400000000000000000)) ?_ (by decide);omega
    have h3:=ih.add R.E2 h1 hb;rw [mV,Ky,<- pZ];refine h3.eq ?_;push_cast;grind
  . exact alT
theorem e8.aC2:og l ws (l.length - 1)=(gT au.a0 ws:Rat):=by
 have h0:=R.r.sum Fg;have h2:=FK l CK (fun _=>rfl) ws;have h4:=FK l CL (fun _=>rfl) ws;unfold og;rw [<- h2,<- h4,aCV R.r.right,aCT,aCX,h0];push_cast;grind
theorem e8.aC3:uh l ws (l.length - 1)=(gT au.a1 ws:Rat):=by
 have h1:=R.r.sum Fh;have h3:=FK l Fi (fun _=>rfl) ws;have h5:=FK l tU (fun _=>rfl) ws;unfold uh;rw [<- h3,<- h5,aCW R.b.PG,h1];push_cast;grind
theorem e8.down(hj:j<=l.length - 1):vC (cP l ws) j=(mS au.a0 (bH l j) ws:Rat) - og l ws j:=by
 unfold vC og;rw [R.r.pre Fg hj,PJ l j CK (fun _=>rfl),PJ l j CL (fun _=>rfl)];push_cast;grind
theorem e8.cV(hj:j<=l.length - 1):J5 l (cP l ws) j=(vC (cP l ws) j*((2*bH l j:Int):Rat)+uh l ws j - (mS au.a1 (bH l j) ws:Rat)) / ((2:Int):Rat):=by
 unfold J5 J4 uh;rw [R.r.pre Fh hj,PJ l j Fi (fun _=>rfl),PJ l j tU (fun _=>rfl)];push_cast;grind
theorem e8.str(hj:j<l.length):Jy l ws (aM (cP l ws)).a0 (mQ l ws) j=OC l (cP l ws) (aM (cP l ws)).a0 (kF (cP l ws)) j:=by
 have hx:=OX R.r.ok hj;have hl:=R.r.parts.2.1;rw [R.b.str j oo];have h1:=R.alQ (j:=j) (l.length - 1 - j) oo;have h2:=R.alR hj (l.length - 1 - j) oo;rw [show j+(l.length - 1 - j)=l.length - 1 from oo] at h1 h2;have h3:=R.ldS (xj:=bH l j) h1 oo ws.length (aN _);have h4:=R.ldB hx h2 oo ws.length (aN _);rw [vG] at h3 h4;unfold Jy;rw [h3.1,h4.1,R.aC2,R.aC3];have g0:=alD (bH l j) ws;have g1:=alE (bH l j) ws;have g1r:((2:Int):Rat)*(uf (bH l j) ws:Rat)=((gT au.a1 ws:Rat) - (mS au.a1 (bH l j) ws:Rat)) - ((2:Int):Rat)*(bH l j:Rat)*((gT au.a0 ws:Rat) - (mS au.a0 (bH l j) ws:Rat)):=by
  rw [<- nI,g1];push_cast;rfl
 have e1:(gT au.a0 ws:Rat) - og l ws j - (yF (bH l j) ws:Rat)=vC (cP l ws) j:=by
  rw [R.down oo,g0];push_cast;grind
 have e2 : -((gT au.a1 ws:Rat) - uh l ws j - ((gT au.a0 ws:Rat) - og l ws j)*((2*bH l j:Int):Rat)) / ((2:Int):Rat)+(uf (bH l j) ws:Rat)=J5 l (cP l ws) j:=by
  rw [R.cV oo,R.down oo];have e:(uf (bH l j) ws:Rat)=(((gT au.a1 ws:Rat) - (mS au.a1 (bH l j) ws:Rat)) - ((2:Int):Rat)*(bH l j:Rat)*((gT au.a0 ws:Rat) - (mS au.a0 (bH l j) ws:Rat))) / ((2:Int):Rat):=by
   rw [<- g1r];have e2:((2:Int):Rat)=2:=rfl;rw [e2];grind
  rw [e];have e2:((2:Int):Rat)=2:=rfl;rw [nI,e2];grind
 rw [e1,e2]
end
theorem aC5(l:List aw)(ws:List Wt):Aw l ws=tW l ws:=by
 unfold Aw tW;by_cases hr:gq l=true
 . rw [hr,jC,uo,ax (by simp)];by_cases hb:ws.any lA=true
   . rw [aiY hb,aG hb]
   . have bo:ws.any lA=false:=by simpa using hb
     rw [aiZ bo,ax hb];by_cases hf:3000<ws.length
     . rw [ai0 hf,aG hf]
     . rw [ai1 hf,ax hf];obtain⟨p1,p2,p3,p4⟩:=yp hr;by_cases ho:ws.any (qD l)=true
       . rw [WQ ho];obtain⟨u,hu,h1⟩:=F0.1 ho;have h2:kC l ws=none:=by
          refine alz ws _ ⟨u,hu,?_⟩;have h3:¬ qD l u=false:=by rw [h1]; simp
          rw [PK (alv p3) p1 u] at h3;omega
         rw [h2]
       . have ho':ws.any (qD l)=false:=by simpa using ho
         rw [ai2 ho'];have K:ug l ws:=⟨hr,Jp bo,fun u hu=>by
          have:=AK.1 ho' u hu;simpa using this,oo⟩
         rw [K.alK];unfold Jz;rw [K.W];by_cases hW:500000000<(aM (cP l ws)).a0
         . rw [aG hW];show _=if 500000000<(aM (cP l ws)).a0 then _ else _
           rw [aG hW]
         . rw [ax hW];show _=if 500000000<(aM (cP l ws)).a0 then _ else _
           rw [ax hW];have R:e8 l ws (dF l):=⟨K,K.aC0 oo⟩
           unfold CP;congr 1;apply FU;intro j hj;exact R.str (iV.1 hj)
 . have pF:gq l=false:=by simpa using hr
   rw [pF];rfl
open Go.RowKit
def Da(l:List aL):Nat->List Kx->Option Int
 | 0=>fun _=>none
 | k+1=>ft (Da l k) [.i .i64 (l.getD k Tc.box.aa).id] (l.getD k Tc.box.aa).aI
theorem alV(h:(jN bs).2=0){k:Nat}(hk:k+1<bs.length):(bs.getD k Tc.box.aa).id<(bs.getD (k+1) Tc.box.aa).id:=by
 unfold jN at h;split at h
 . cases h
 split at h
 . cases h
 rename_i h1;rw [YO] at h1;have h2:=h1 (k+1) (iV.2 hk);unfold kA at h2;rw [bq hk,ag4 bs k oo] at h2;simp only [fM,yR,aU] at h2;rw [aY,bq (show k<bs.length from oo),aY,bq hk];have:=h2.1.2;simp only [iD];omega
theorem alW{bs:List aL}(h:(jN bs).2=0)(i:Nat):∀ d,i+d+1<bs.length->(bs.getD i Tc.box.aa).id<(bs.getD (i+d+1) Tc.box.aa).id
 | 0,hk=>alV h hk
 | d+1,hk=>by
  have h1:=alW h i d oo;have h2:=alV h (k:=i+d+1) hk;have e:i+(d+1)+1=i+d+1+1:=oo
  rw [e];omega
theorem alX{bs:List aL}(h:(jN bs).2=0){j:Nat}:∀ k,j<k->k<=bs.length->Da bs k [.i .i64 (bs.getD j Tc.box.aa).id]=some (bs.getD j Tc.box.aa).aI
 | 0,hj,_=>absurd hj (jB _)
 | k+1,hj,hk=>by
  have hu:Da bs (k+1)=ft (Da bs k) [.i .i64 (bs.getD k Tc.box.aa).id] (bs.getD k Tc.box.aa).aI:=rfl;rw [hu];unfold ft;rcases cv j k with h1|h1
  . have h2:=alW h j (k - j - 1) oo;rw [show j+(k - j - 1)+1=k from oo] at h2;rw [ax (fun e=>by simp only [vL,Kx.i.injEq,aJ,aH] at e; omega)];exact alX h k h1 oo
  . rw [show j=k from oo,aG rfl]
theorem aC6{s:bB}{l:List aA}(h:gA s bs l=true){e:aA}(he:e∈l):(Da bs bs.length [.i .i64 e.box]).getD 0=(bI bs e.box).1.aI:=by
 have hv:(jN bs).2=0:=by
  unfold gA at h;simp only [aD,aU] at h;exact h.1
 have hf:=C2 (AE h) e he;rcases Jj bs e.box with ⟨_,q⟩|⟨k,_,q1,q2⟩
 . rw [q] at hf; cases hf
 . have hid:=(Pt hf).1;rw [q2] at hid ⊢;have hk:=alX hv (j:=k) bs.length q1 (aN _);rw [show (bs.getD k Tc.box.aa).id=e.box from hid] at hk;rw [hk];rfl
theorem alY:∀ (l:List aw) (s:Int),(∀ f∈l,f.ok=true)->mO s l<=500000000->mO s l=s+lh l
 | [],s,_,_=>by simp [mO,lh]
 | f::l,s,h,hle=>by
  have h2:=WZ l s (fun g hg=>h g (.tail _ hg));have e:lh (f::l)=f.iG+lh l:=rfl;unfold mO at hle ⊢;by_cases c:s<=500000000
  . rw [aG c] at hle ⊢;rw [alY l _ (fun g hg=>h g (.tail _ hg)) hle,e];omega
  . rw [ax c] at hle ⊢;have:=h2.1.1 hle;omega
def aC7(l:List aL):Lp where
 X:=Nat
 ov k := [(55,.int .i64 fun _=>(k:Int))]
 oe k := [(2,.map true false (.one (.int .i64)) .int 139 fun _=>Da l k)]
 I k:=k<=l.length
 μ k _:=l.length - k
 x0:=0
 nx:=some fun k=>k+1
def aC8(l:List aA)(Q:List Wt)(E:Nat):Lp where
 X:=Nat
 ov k := [(67,.int .i64 fun _=>(k:Int)),(15,.own 3)]
 oe k := [(3,.row true .wx E fun _=>Q.take k)]
 I k:=k<=l.length
 μ k _:=l.length - k
 x0:=0
 nx:=some fun k=>k+1
def aC9(t:List dN)(w:List Int)(Q:List Wt)(E:Nat):Lp where
 X:=Nat
 ov k := [(97,.int .i64 fun _=>(k:Int)),(15,.own 3)]
 oe k := [(3,.row true .wx E fun _=>Q++qH t w k)]
 I k:=k<=w.length
 μ k _:=w.length - k
 x0:=0
 nx:=some fun k=>k+1
def Ym:aC:=oS 18 ko jc lL gi (fun s bs l w=>(pT (s ())/\xm (bs ())/\(l ()).length<=40)/\(s ()).fv.length<=1000000000000/\(s ()).ee.length<=1000000000000/\(w ()).length<=1000000000000) (fun s bs l w => .bp [.sl true .wx fun _=>(lS (s ()) (bs ()) (l ()) (w ())).1,.int .i64 fun _=>(lS (s ()) (bs ()) (l ()) (w ())).2])
theorem alZ:aE Tryz.prog Ym:=by
 refine bZ { kp := [(0,[0,1,2,3]),(1,[1,2,3,4]),(2,[1,2,3,4,11]),(3,[]),(4,[1,2,3,4]),(5,[1,2,3,4,12]),(6,[2,3,4,12,53,54,55]),(7,[2,3,4,12,53,54,55]),(8,[2,3,4,12,14,53,54,55]),(9,[2,3,4,12,53,54,55]),(10,[2,3,4,12]),(11,[2,3,4,12,15]),(12,[3,4,12,15,65,66,67]),(13,[3,4,12,15,65,66,67]),(14,[3,4,12,15,17,65,66,67]),(15,[3,4,12,15,17,18,65,66,67]),(16,[3,4,12,15,65,66,67]),(17,[3,4,15]),(18,[4,15,95,96,97]),(19,[4,15,95,96,97]),(20,[4,15,19,20,95,96,97]),(21,[4,15,19,20,95,96,97]),(22,[4,15,95,96,97]),(23,[15])],lt := [(2,⟨[0,1,2,3,4,5,6,7,8,9,10,11,12,13,14,15,16,17,18,19,20,21,22,23],[0,1,2,3,4,5,6,7,8,9,10,11,12,13,14,15,16,17,18,19,20,21,22,23],[],[],[]⟩),(15,⟨[0,1,2,3,4,5,6,7,8,9,10,11,12,13,14,15,16,17,18],[0,1,2,3,4,5,6,7,8,9,10,11,12,13,14,15],[16,17,18],[],[]⟩)] } [aks,aiV,Oz,V8] ⟨aBG,azZ,Wh,ahr,trivial⟩ [] trivial Tryz.func18 (by kernel_rfl) fun ah res h hp => ?_;obtain⟨(s:bB),(bs:List aL),(l:List aA),(w:List Int),rfl,rfl⟩:=qu h;clear h;have nF:(pT s/\xm bs/\l.length<=40)/\s.fv.length<=1000000000000/\s.ee.length<=1000000000000/\w.length<=1000000000000:=hp;have hc:=nF.1;have ht:=nF.2.1;have hf:=nF.2.2.1;have hw:=nF.2.2.2;refine⟨[(6,aC7 bs)],?_⟩
 conv=>arg 1; cbv
 simp (maxSteps:=4000000) only [ay,aJ,aH,aO];have eS:(⟨s.aF,s.bO,s.lk,s.lx,s.ly,s.lz,s.rows,s.ee,s.fv,s.m1,s.m2,s.m3,s.m4⟩:bB)=s:=rfl;have hI:=XY s bs l w;have hB:(AG s bs l w=true->False)->(lS s bs l w).1 = []/\(2:Int)=(lS s bs l w).2:=fun h=>by rw [akY h]; exact⟨rfl,rfl⟩
 simp only [eS];have hcg:(xo s bs l).2=0↔gA s bs l=true:=by
  constructor
  . intro h
    cases hb:gA s bs l with
    | true=>rfl
    | false =>
     unfold xo at h;rw [hb] at h;cases h
  . intro h;rw [aCd h oo]
 refine⟨hc,fun c=>hB fun q=>(by rw [hcg.2 (hI.1 q).1] at c; cases c),fun c1=>⟨⟨ht,hw⟩,fun c=>hB fun q=>(by rw [(hI.1 q).2.1] at c; cases c),fun c2=>⟨hf,fun c=>hB fun q=>(by rw [(hI.1 q).2.2.1] at c; cases c),fun c3 => ?_⟩⟩⟩;have d1:gA s bs l=true:=hcg.1 (by simpa using c1);have d2:qz s.fv w=true:=by simpa using c2
 have d3:gq s.ee=true:=by simpa using c3
 clear c1 c2 c3;obtain⟨r1,r2,r3,r4⟩:=yp d3;have aR:=yo none s.ee r3;have BS:Ad s.ee=lh s.ee:=by
  have h:=alY s.ee 0 aR ((Fe s.ee).1 d3).2.2.1;show mO 0 s.ee=_
  omega
 refine⟨⟨aR,oo⟩,fun c=>hB fun q=>(by rw [BS,(hI.1 q).2.2.2,cT rfl] at c; cases c),fun c4=>⟨⟨bw _,rfl,rfl⟩,fun (k:Nat) hk => ?_⟩⟩;have d4:lh s.ee=s.lk:=by
  rw [<- BS];have h:s.lk=Ad s.ee:=by simpa using c4
  exact h.symm
 clear c4;have bM:k<=bs.length:=hk;clear hk;have X0:AG s bs l w=true:=hI.2 ⟨d1,d2,d3,d4⟩;have fJ:bs.length<=1000000000000:=hc.2.1.1
 conv=>arg 1; cbv
 simp (maxSteps:=4000000) only [ay,aJ,aH,aO];refine⟨fun g=>⟨⟨oo,oo⟩,ii,⟨oo,oo⟩,oo,rfl⟩,fun g => ?_⟩;have QF:k=bs.length:=oo
 subst QF;obtain⟨Q,hQ⟩:∃ Q,Q=l.map (C5 s bs):=⟨_,rfl⟩
 obtain⟨T,hT⟩:∃ T,T=s.fv:=⟨_,rfl⟩
 obtain⟨M,hM⟩:∃ M,M=Da bs bs.length:=⟨_,rfl⟩
 have vw:Q.length=l.length:=by rw [hQ,di]
 have hR:lS s bs l w=(Q++qH T w w.length,0):=by unfold lS; rw [aG X0,hQ,hT]
 rw [<- hM,<- hT];refine⟨aC8 l Q 41,?_⟩
 conv=>arg 1; cbv
 simp (maxSteps:=4000000) only [ay,aJ,aH,aO];refine⟨⟨bw _,rfl,rfl⟩,fun (i:Nat) hi => ?_⟩;have uF:i<=l.length:=hi;clear hi
 conv=>arg 1; cbv
 simp (maxSteps:=4000000) only [ay,aJ,aH,aO];simp only [hR];refine⟨fun g1 => ?_,fun g1 => ?_⟩
 . have af:i<l.length:=oo
   have he:=eJ Tc.ai.aa af;have hst:=AE d1;have Pp:=akn hst he;have hhf:=akw hst he;have hx:=(Px hst he).2;have yw:Q.take (i+1)=Q.take i ++ [C5 s bs (l.getD i Tc.ai.aa)]:=by
    rw [o4 Tc.wx.aa oo];congr 2;rw [hQ,aY,gC,aY,bq af];rfl
   have hk:=aC6 d1 he;rw [<- hM] at hk;have dr:Tc.int.aa=0:=rfl;rw [yw,dr,hk];generalize l.getD i Tc.ai.aa=e at *
   have zF:((s.aF.getD e.ar.toNat Tc.ar.aa).x+bif decide (e.half=((0:Nat):Int)) then 0 else bif decide (e.half=((1:Nat):Int)) then 3050 else -3050)=mR (s.aF.getD e.ar.toNat Tc.ar.aa) e.half:=by
    unfold mR;have:e.half=0\/e.half=1\/e.half=2:=oo
    rcases this with h|h|h<;>rw [h]
    . show _+0=_
      exact Int.add_zero _
    . rfl
    . rfl
   rw [zF];have hb : -600000<=mR (s.aF.getD e.ar.toNat Tc.ar.aa) e.half/\mR (s.aF.getD e.ar.toNat Tc.ar.aa) e.half<=600000:=by
    rw [<- zF];generalize (s.aF.getD e.ar.toNat Tc.ar.aa).x=X at *
    cases decide (e.half=((0:Nat):Int))<;>cases decide (e.half=((1:Nat):Int))<;>simp only [pg,qP]<;>omega
   exact⟨⟨oo,oo⟩,⟨oo,oo⟩,⟨oo,oo⟩,ii,by simp only [cy,dE,hZ]; omega,ii,⟨oo,oo⟩,oo,rfl⟩
 have pj:i=l.length:=oo
 subst pj;refine⟨aC9 T w Q 41,?_⟩
 conv=>arg 1; cbv
 simp (maxSteps:=4000000) only [ay,aJ,aH,aO];refine⟨⟨bw _,rfl,?_⟩,fun (j:Nat) hj => ?_⟩
 . rw [ez oo];exact (th Q).symm
 have p7:j<=w.length:=hj;clear hj
 conv=>arg 1; cbv
 simp (maxSteps:=4000000) only [ay,aJ,aH,aO];have J1:=(Jw s.fv w).1 d2;have ak1:=((OS s.fv).1 J1.1).1;rw [<- hT] at J1 ak1;have dr:Tc.int.aa=0:=rfl;have oE:=Py T w j;have jS:qH T w (j+1)=if w.getD j 0=0 then qH T w j else qH T w j ++ [⟨(T.getD j Tc.dW.aa).x,w.getD j 0⟩]:=rfl;simp only [dr,hR];have i1:aP ((j:Int)+1):=ii
 have Cq:j<w.length->0<=w.getD j 0:=fun h=>by
  have h2:=J1.2.2 j oo;unfold tY fU at h2;simp only [aD,aU] at h2;exact h2.1
 refine⟨fun g2=>⟨⟨oo,oo⟩,fun c => ?_,fun c => ?_⟩,fun g2 => ?_⟩
 . rw [ax oo] at jS;rw [jS,fl];exact⟨⟨oo,oo⟩,by simp only [c9,dE,hZ]; omega,i1,⟨oo,oo⟩,oo,rfl⟩
 . have:=Cq oo;rw [aG oo] at jS;rw [jS];exact⟨i1,⟨oo,oo⟩,oo,rfl⟩
 . rw [show j=w.length from oo]
def al1:aC:=oS 22 ko jc lL gi (fun s bs l w=>(pT (s ())/\xm (bs ())/\(l ()).length<=40)/\(s ()).fv.length<=1000000000000/\(s ()).ee.length<=1000000000000/\(w ()).length<=1000000000000) (fun s bs l w => .bp [.sl true .cE fun _=>(yD (s ()) (bs ()) (l ()) (w ())).1.map yv,.int .i64 fun _=>(yD (s ()) (bs ()) (l ()) (w ())).2])
theorem aDa:aE Tryz.prog al1:=by
 refine bZ { kp := [(0,[0,1,2,3]),(1,[1,2,3,4]),(2,[4,10,11]),(3,[11]),(4,[4,10])] } [Ym,WI] ⟨alZ,aiy,trivial⟩ [] trivial Tryz.func22 (by kernel_rfl) fun ah res h hp => ?_;obtain⟨(s:bB),(bs:List aL),(l:List aA),(w:List Int),rfl,rfl⟩:=qu h;clear h;have iJ:=hp;have nF:(pT s/\xm bs/\l.length<=40)/\s.fv.length<=1000000000000/\s.ee.length<=1000000000000/\w.length<=1000000000000:=hp;have hc:=nF.1;have ht:=nF.2.1;have hf:=nF.2.2.1;have hw:=nF.2.2.2;refine⟨[],?_⟩
 conv=>arg 1; cbv
 simp (maxSteps:=4000000) only [ay,aJ,aH,aO];have eS:(⟨s.aF,s.bO,s.lk,s.lx,s.ly,s.lz,s.rows,s.ee,s.fv,s.m1,s.m2,s.m3,s.m4⟩:bB)=s:=rfl;simp only [eS];have hlen:=X8 (s:=s) (bs:=bs) (w:=w) (l:=l) oo;refine⟨iJ,fun c => ?_,fun c=>⟨⟨hf,oo⟩,?_⟩⟩
 . exact alb
 . have h0:(lS s bs l w).2=0:=by simpa using c
   unfold yD;rw [aG h0,aC5];exact⟨rfl,rfl⟩
end Go.Proofs.YtamjbkaclhgffaaGreat
