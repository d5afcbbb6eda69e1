/-
  strength by the abstract run: the first frame behind a place; sections.
-/
import Derived.Test.YtamjbkaclhgffaaGreatSh25
set_option linter.all false
set_option maxRecDepth 100000
set_option maxHeartbeats 4000000
namespace Go.Proofs.YtamjbkaclhgffaaGreat
open Go.RowKit
variable{i p q:Nat}
def ail:aC:=bE 124 atI kI (fun _ _=>True) (fun f x => .int .i64 fun _=>cond (decide ((f ()).x<=x ())) (-1) 1)
theorem azg:aE Tryz.prog ail:=by
 refine bD [] trivial Tryz.func124 (by kernel_rfl) fun ah res h hp => ?_;obtain⟨(f:aw),(x:Int),rfl,rfl⟩:=bG h;clear h;refine⟨[],?_⟩
 conv=>arg 1; cbv
 simp (maxSteps:=4000000) only [ay,aJ,aH,aO];refine⟨fun h => ?_,fun h => ?_⟩
 . rw [cT h]; rfl
 . rw [dB h]; rfl
theorem Ar(l:List aw)(j:Nat):(l.getD j Tc.cu.aa).x=bH l j:=rfl
theorem aim{l:List aw}(ho:tR l)(hpq:p<q)(hq:q<l.length):bH l p<bH l q:=by
 rw [tT oo,tT hq];exact ho p q hpq hq oo
theorem azh{l:List aw}{x:Int}(hi:i<=l.length)(h1:∀ p,p<i->bH l p<=x)(h2:∀ p,i<=p->p<l.length->x<bH l p):dw l x=i :=
 (ahD (i:=i) ⟨hi,fun p hp h=>by rw [<- tT hp]; exact h1 p h,fun p hp h=>by rw [<- tT hp]; exact h2 p h hp⟩).symm
theorem azi(h:p+q<=2000):qa .shr .u64 (IntKind.u64.wrap ((p:Int)+(q:Int))) 1=(((p+q) / 2:Nat):Int):=by
 rw [wrap_u64 oo oo];show ((p:Int)+(q:Int)).fdiv 2=_
 rw [amO _ (by decide)];omega
theorem cond_neg(b:Bool):(bif b then (-1:Int) else 1)<0↔b=true:=by cases b<;>decide
theorem azj(b:Bool):¬ (bif b then (-1:Int) else 1)=0:=by cases b<;>decide
def azk(l:List aw)(x:Int)(n:Nat):Lp where
 X:=Nat×Nat
 ov p := [(9,.int .i64 fun _=>(p.1:Int)),(10,.int .i64 fun _=>(p.2:Int))]
 oe _ := []
 I p:=p.1<=p.2/\p.2<=n/\(∀ j,j<p.1->bH l j<=x)/\∀ j,p.2<=j->j<n->x<bH l j
 μ p _:=p.2 - p.1
 x0:=(0,n)
 nx:=none
def ain:aC:=ns 123 qv kI (yc 124) (fun l _ _=>(l ()).length<=1000/\tR (l ())) (fun l x _ => .bp [.int .i64 fun _=>(dw (l ()) (x ()):Int),.bool fun _=>false])
theorem azl:aE Tryz.prog ain:=by
 refine bZ { kp := [(0,[0,1,2]),(1,[0,1,2]),(2,[0,1,2,8]),(3,[0,1,2,8,9,10]),(4,[0,1,2,8,9,10]),(5,[0,1,2,8,9,10,11]),(6,[0,1,2,8,10,11]),(7,[0,1,2,8,9,11]),(8,[0,1,2,8,9])] } [ail] ⟨azg,trivial⟩ [] trivial Tryz.func123 (by kernel_rfl) fun ah res h hp => ?_;obtain⟨(l:List aw),(x:Int),(f:Unit),rfl,rfl⟩:=oR h;clear h;have fA:l.length<=1000/\tR l:=hp;have hl:=fA.1;have ho:=fA.2;refine bk l.length fun n hn => ?_;rw [hn] at hl;refine⟨[(3,azk l x n)],?_⟩
 conv=>arg 1; cbv
 simp (maxSteps:=4000000) only [ay,aJ,aH,aO];rw [hn];refine⟨⟨⟨bw _,aN _,fun j hj=>absurd hj (jB _),fun j h1 h2=>oo⟩,rfl,rfl⟩,fun (p:Nat×Nat) hp => ?_⟩;have fy:p.1<=p.2/\p.2<=n/\(∀ j,j<p.1->bH l j<=x)/\∀ j,p.2<=j->j<n->x<bH l j:=hp;have h1:=fy.1;have h2:=fy.2.1;have h3:=fy.2.2.1;have h4:=fy.2.2.2;clear hp
 conv=>arg 1; cbv
 simp (maxSteps:=4000000) only [ay,aJ,aH,aO];simp only [Ar];have hP:p.1<p.2->p.1+p.2<=2000:=fun h=>oo
 refine⟨fun g => ?_,fun g => ?_⟩
 . have af:p.1<p.2:=oo
   rw [azi (hP af)];refine bk ((p.1+p.2) / 2) fun m hm => ?_;rw [hm,fB,hn];have m1:p.1<=m:=oo
   have m2:m<p.2:=oo
   simp only [aP];refine⟨oo,by decide,oo,⟨oo,oo⟩,fun c=>⟨oo,?_⟩,fun c => ?_⟩
   . have hx:bH l m<=x:=r8 ((cond_neg _).1 c);refine⟨(m+1,p.2),⟨⟨by show m+1<=p.2; omega,h2,fun j hj => ?_,h4⟩,by show p.2 - (m+1)<p.2 - p.1; omega⟩,?_⟩
     . rcases cv j m with h|h
       . exact Int.le_trans (Qa (aim ho h oo)) hx
       . rw [show j=m by have:j<m+1:=hj; omega]; exact hx
     . exact OJ
   . have hx:x<bH l m:=by
      have:=FV (xw _▸mt (cond_neg _).2 c);omega
     refine⟨(p.1,m),⟨⟨m1,by show m<=n; omega,h3,fun j h5 h6 => ?_⟩,by show m - p.1<p.2 - p.1; omega⟩,?_⟩
     . have h5':m<=j:=h5;rcases cv m j with h|h
       . exact Int.lt_trans hx (aim ho h oo)
       . rw [show j=m from oo]; exact hx
     . exact OK
 . have e:p.1=p.2:=oo
   have hI:dw l x=p.1:=azh oo h3 fun j h5 h6=>h4 j oo oo;rw [hI];exact⟨fun c=>⟨⟨oo,oo⟩,rfl,azj _⟩,fun c=>rfl⟩
def azm(l:List aw)(n:Nat):Lp where
 X:=Nat
 ov k := [(22,.int .i64 fun _=>(k:Int)),(7,.int .i64 fun _=>cN l k)]
 oe _ := []
 I k:=k<=n
 μ k _:=n - k
 x0:=0
 nx:=some fun k=>k+1
def azn(l:List aw)(n:Nat):Lp where
 X:=Nat
 ov k := [(44,.int .i64 fun _=>(k:Int)),(9,.own 0)]
 oe k := [(0,.row true .sy 162 fun _=>vr l n (cN l n) k)]
 I k:=k<=n
 μ k _:=n - k
 x0:=0
 nx:=some fun k=>k+1
def azo(l:List aw)(ws:List Wt)(n m:Nat)(S0:List au):Lp where
 X:=Nat×List au
 ov p := [(91,.int .i64 fun _=>(p.1:Int)),(9,.own 0)]
 oe p := [(0,.row true .sy 162 fun _=>p.2)]
 I p:=p.1<=m/\o5 l n p.2 (ws.drop p.1)=kC l ws/\(∀ a∈p.2,nD p.1 a)/\p.2.length=n
 μ p _:=m - p.1
 x0:=(0,S0)
 nx:=none
def aio:aC:=bE 63 qv Cm (fun l ws=>gq (l ())=true/\(ws ()).any lA=false/\(ws ()).length<=3000) (fun l ws => .bp [.sl true .sy fun _=>(kC (l ()) (ws ())).getD [],.bool fun _=>(kC (l ()) (ws ())).isSome])
theorem azp:aE Tryz.prog aio:=by
 refine bZ { kp := [(0,[0,1]),(1,[0,1]),(2,[0,1,6,7]),(3,[0,1,6,7,21,22]),(4,[0,1,6,7,21,22]),(5,[0,1,6,7,8,21,22]),(6,[0,1,6,7,21,22]),(7,[0,1,6,7]),(8,[0,1,6,7,9]),(9,[0,1,6,7,9,43,44]),(10,[0,1,6,7,9,43,44]),(11,[0,1,6,7,9,10,43,44]),(12,[0,1,6,7,9,10,11,12,43,44]),(13,[0,1,6,7,9,10,11,12,13,43,44]),(14,[0,1,6,7,9,43,44]),(15,[0,1,6,9]),(16,[0,6,9,89,90,91]),(17,[0,6,9,89,90,91]),(18,[0,6,9,15,89,90,91]),(19,[0,6,9,15,16,89,90,91]),(20,[]),(21,[0,6,9,15,16,89,90,91]),(22,[0,6,9,89,90,91]),(23,[9])],lt := [(5,⟨[0,1,2,3,4,5,6,7,8,9,10,11,12,13,14],[0,1,2,3,4,5,6,7,8,9,10,11,12,13,14],[],[],[]⟩),(11,⟨[0,1,2,4,5,6,7,9,10,11,12,13,3,8,14,15,16,17,18],[0,1,2,4,5,6,7,9,10,11,12,13],[],[⟨[0,1,2,3,4,5,6,7,8,9,10,11],[0,1,6,7,9,10,11,12,43,44,49,50,54,55,60,61,62],(0,0),[(12,3,1),(13,8,2),(14,14,3),(16,16,4)]⟩,⟨[0,1,2,3,4,5,6,7,8,9,10,11,12],[0,1,6,7,9,10,11,12,43,44,50,54,55,60,61,62],(0,3),[(13,8,5),(14,14,6),(16,16,7)]⟩,⟨[0,1,2,3,4,5,6,7,8,9,10,11,13],[0,1,6,7,9,10,11,12,43,44,49,50,55,60,61,62],(0,8),[(12,3,5),(14,14,8),(16,16,9)]⟩,⟨[0,1,2,3,4,5,6,7,8,9,10,11,14],[0,1,6,7,9,10,11,12,43,44,49,50,54,55,61,62],(0,14),[(12,3,6),(13,8,8),(16,16,10)]⟩,⟨[0,1,2,3,4,5,6,7,8,9,10,11,16],[0,1,6,7,9,10,11,12,43,44,49,50,54,55,60,61,62],(0,16),[(12,3,7),(13,8,9),(14,14,10)]⟩,⟨[0,1,2,3,4,5,6,7,8,9,10,11,12,13],[0,1,6,7,9,10,11,12,43,44,50,55,60,61,62],(1,8),[(14,14,11),(16,16,12)]⟩,⟨[0,1,2,3,4,5,6,7,8,9,10,11,12,14],[0,1,6,7,9,10,11,12,43,44,50,54,55,61,62],(1,14),[(13,8,11),(16,16,13)]⟩,⟨[0,1,2,3,4,5,6,7,8,9,10,11,12,16],[0,1,6,7,9,10,11,12,43,44,50,54,55,60,61,62],(1,16),[(13,8,12),(14,14,13),(17,17,14)]⟩,⟨[0,1,2,3,4,5,6,7,8,9,10,11,13,14],[0,1,6,7,9,10,11,12,43,44,49,50,55,61,62],(2,14),[(15,15,15)]⟩,⟨[0,1,2,3,4,5,6,7,8,9,10,11,13,16],[0,1,6,7,9,10,11,12,43,44,49,50,55,60,61,62],(2,16),[(12,3,12),(14,14,16)]⟩,⟨[0,1,2,3,4,5,6,7,8,9,10,11,14,16],[0,1,6,7,9,10,11,12,43,44,49,50,54,55,61,62],(3,16),[(12,3,13),(13,8,16)]⟩,⟨[0,1,2,3,4,5,6,7,8,9,10,11,12,13,14],[0,1,6,7,9,10,11,12,43,44,50,55,61,62],(5,14),[(15,15,17)]⟩,⟨[0,1,2,3,4,5,6,7,8,9,10,11,12,13,16],[0,1,6,7,9,10,11,12,43,44,50,55,60,61,62],(5,16),[(14,14,18),(17,17,19)]⟩,⟨[0,1,2,3,4,5,6,7,8,9,10,11,12,14,16],[0,1,6,7,9,10,11,12,43,44,50,54,55,61,62],(6,16),[(13,8,18),(17,17,20)]⟩,⟨[0,1,2,3,4,5,6,7,8,9,10,11,12,16,17],[0,1,6,7,9,10,11,12,43,44,54,55,60,61,62],(7,17),[(13,8,19)]⟩,⟨[0,1,2,3,4,5,6,7,8,9,10,11,13,14,15],[0,1,6,7,9,10,11,12,43,44,49,50,62],(8,15),[(12,3,17),(16,16,21)]⟩,⟨[0,1,2,3,4,5,6,7,8,9,10,11,13,14,16],[0,1,6,7,9,10,11,12,43,44,49,50,55,61,62],(9,14),[(15,15,21)]⟩,⟨[0,1,2,3,4,5,6,7,8,9,10,11,12,13,14,15],[0,1,6,7,9,10,11,12,43,44,50,62],(11,15),[(16,16,22)]⟩,⟨[0,1,2,3,4,5,6,7,8,9,10,11,12,13,14,16],[0,1,6,7,9,10,11,12,43,44,50,55,61,62],(12,14),[(15,15,22)]⟩,⟨[0,1,2,3,4,5,6,7,8,9,10,11,12,13,16,17],[0,1,6,7,9,10,11,12,43,44,55,60,61,62],(12,17),[(14,14,23)]⟩,⟨[0,1,2,3,4,5,6,7,8,9,10,11,12,14,16,17],[0,1,6,7,9,10,11,12,43,44,54,55,61,62],(13,17),[(13,8,23)]⟩,⟨[0,1,2,3,4,5,6,7,8,9,10,11,13,14,15,16],[0,1,6,7,9,10,11,12,43,44,49,50,62],(15,16),[(12,3,22)]⟩,⟨[0,1,2,3,4,5,6,7,8,9,10,11,12,13,14,15,16],[0,1,6,7,9,10,11,12,43,44,50,62],(17,16),[(17,17,24)]⟩,⟨[0,1,2,3,4,5,6,7,8,9,10,11,12,13,14,16,17],[0,1,6,7,9,10,11,12,43,44,55,61,62],(19,14),[(15,15,24)]⟩,⟨[0,1,2,3,4,5,6,7,8,9,10,11,12,13,14,15,16,17],[0,1,6,7,9,10,11,12,43,44,62],(22,17),[]⟩],[18]⟩),(21,⟨[0,1,2,3,4,5,6,7,8,9,10,11,12,13,14,15,16,17,18,19],[0,1,2,3,4,5,6,7,8,9,10,11,12,13,14,15,16,17,18],[19],[],[]⟩)] } [ain,Wa] ⟨azl,aht,trivial⟩ [] trivial Tryz.func63 (by kernel_rfl) fun ah res h hp => ?_;obtain⟨(l:List aw),(ws:List Wt),rfl,rfl⟩:=bG h;clear h;have WE:gq l=true/\ws.any lA=false/\ws.length<=3000:=hp;have hR:=WE.1;have hW:=WE.2.1;have rI:=WE.2.2;have hI:=(Fe l).1 hR;have aR:=Wg hI.2.1;have ho:tR l:=(Wi l none ((ahA l).2 hI.2.1)).1;obtain⟨h3,h30⟩:=hI.1;refine bk (l.length - 1) fun n hn => ?_;refine bk ws.length fun m hm => ?_;have hl:l.length=n+1:=oo
 refine bk (vr l n (cN l n) n) fun S0 OL => ?_;refine⟨[(3,azm l n),(9,azn l n),(16,azo l ws n m S0)],?_⟩
 conv=>arg 1; cbv
 simp (maxSteps:=4000000) only [ay,aJ,aH,aO];rw [hl];simp only [aP];have e0:((n+1:Nat):Int) - 1=(n:Int):=oo
 rw [e0];refine⟨oo,⟨bw _,rfl,rfl⟩,fun (k:Nat) hk => ?_⟩;have fO:k<=n:=hk;clear hk
 conv=>arg 1; cbv
 simp (maxSteps:=4000000) only [ay,aJ,aH,aO];have t1:∀ q:Nat,((q:Int)+1).toNat=q+1:=fun q=>oo
 have we:=Ag aR k;have Cy:=Ff aR k;have nM:=vq aR k;have Rj:=vq aR (k+1);have hAn:=Ff aR n;have hXX:∀ q,bH l q+bH l (q+1)=hX l q:=fun q=>rfl;refine⟨fun g => ?_,fun g=>⟨⟨oo,oo⟩,⟨bw _,rfl,(ayG l n _).symm⟩,fun (j:Nat) hj => ?_⟩⟩
 . simp only [t1,Ar,hXX,aP];exact⟨⟨oo,oo⟩,oo,⟨oo,oo⟩,oo,oo,oo,⟨oo,oo⟩,oo,rfl⟩
 have eV:k=n:=oo
 subst eV;have gE:j<=k:=hj;clear hj g fO Cy nM we Rj
 conv=>arg 1; cbv
 simp (maxSteps:=4000000) only [ay,aJ,aH,aO];have dh:=ahE l k (cN l k) j;have iF:o5 l k S0 ws=kC l ws:=by
  unfold kC tS;rw [<- OL,ahF,show l.length - 1=k from oo]
 have azq:S0.length=k:=by rw [<- OL,ahE]
 have azr:∀ a∈S0,nD 0 a:=fun a ha=>by
  rw [<- OL,ahF] at ha;exact aiq
 refine⟨fun g => ?_,fun g=>⟨⟨⟨bw _,iF,azr,azq⟩,rfl,?_⟩,fun (q:Nat×List au) hq => ?_⟩⟩
 . simp only [dh,td] at g ⊢;have af:j<k:=oo
   have we:=Ag aR j;have nM:=vq aR j;have Rj:=vq aR (j+1);have hB:=Wj aR (n:=k) (i:=j) oo oo;simp only [t1,Ar,hXX,aP];have hM:=pN (a:=(k:Int)) (A:=29) (b:=hX l j) (B:=1000000) oo we;have hS:=ayH l k (cN l k) j;unfold nD fV at hB;have e1:l.getD j fF=l.getD j Tc.cu.aa:=rfl;unfold fV at hS;rw [e1] at hB hS;dsimp only at hB;clear e1;generalize l.getD j Tc.cu.aa=f at *
   obtain⟨b0,b1,b2,b3,b4,b5⟩:=hB;exact⟨⟨oo,oo⟩,⟨oo,oo⟩,oo,⟨oo,oo⟩,oo,oo,oo,oo,oo,oo,oo,oo,oo,oo,⟨oo,oo⟩,oo,⟨oo,oo⟩,oo,hS⟩
 . simp only [td] at g;have:j=k:=oo
   rw [this];exact OL
 have OM:q.1<=m/\o5 l k q.2 (ws.drop q.1)=kC l ws/\(∀ a∈q.2,nD q.1 a)/\q.2.length=k:=hq;have wQ:=OM.1;have jq:=OM.2.1;have lJ:=OM.2.2.1;have hq4:=OM.2.2.2;clear hq
 conv=>arg 1; cbv
 simp (maxSteps:=4000000) only [ay,aJ,aH,aO];simp only [hm,hq4,aP];refine⟨fun g0 => ?_,fun g0 => ?_⟩
 . have af:q.1<ws.length:=oo
   have azs:ws.drop q.1=ws.getD q.1 Tc.wx.aa::ws.drop (q.1+1):=by
    rw [rZ af,aY,bq af];rfl
   have WG:=Jp hW _ (eJ Tc.wx.aa af);rw [azs] at jq;generalize ws.getD q.1 Tc.wx.aa=u at *
   unfold o5 at jq;have hx:=OA aR (x:=u.x);have fR:Af l k q.2 u=if dw l u.x=0\/k<dw l u.x then none else some (q.2.set (dw l u.x - 1) ((q.2.getD (dw l u.x - 1) au.zero).add (iP u))):=rfl;generalize dw l u.x=i at *
   have gg:i=0\/k<i->(kC l ws).getD [] = []/\false=(kC l ws).isSome:=fun h=>by
    rw [fR,aG h] at jq;rw [<- jq];exact⟨rfl,rfl⟩
   refine⟨⟨oo,oo⟩,⟨oo,ho⟩,fun c=>gg (.inl oo),fun c=>⟨fun c2=>gg (.inr oo),fun c2 => ?_⟩⟩;rw [fR,ax oo] at jq;have pj:i - 1<q.2.length:=oo
   have ON:=lJ _ (eJ au.zero pj);have uJ:=hx oo oo;have hM:=pN (a:=2*u.aI) (A:=1000000000) (b:=u.x) (B:=500000) oo uJ;have e2:q.2.getD (i - 1) Tc.sy.aa=q.2.getD (i - 1) au.zero:=rfl;rw [e2];generalize q.2.getD (i - 1) au.zero=A at *
   have EB:nD (q.1+1) (A.add (iP u)):=by
    unfold nD at ON ⊢;unfold au.add iP;dsimp only;omega
   have wy:∀ a∈q.2.set (i - 1) (A.add (iP u)),nD (q.1+1) a:=fun a ha=>by
    rcases Ki ha with h|h
    . have:=lJ a h;unfold nD at this ⊢;omega
    . rw [h]; exact EB
   unfold nD at ON;have hS3:(q.2.set (i - 1) (A.add (iP u))).length=k:=by rw [r9]; exact hq4
   refine⟨oo,oo,⟨oo,oo⟩,oo,oo,⟨⟨oo,oo,oo⟩,oo,oo,oo⟩,⟨oo,oo⟩,oo,?_⟩;refine bk (q.2.set (i - 1) (A.add (iP u))) fun S1 hS4 => ?_;rw [hS4] at jq wy hS3;refine⟨(q.1+1,S1),⟨⟨by show q.1+1<=m; omega,jq,wy,hS3⟩,by show m - (q.1+1)<m - q.1; omega⟩,?_⟩
   conv=>arg 1; cbv
   simp (maxSteps:=4000000) only [ay];exact⟨by show (q.1:Int)+1=((q.1+1:Nat):Int); omega,hS4⟩
 . have hqm:q.1=m:=oo
   rw [hqm,<- hm,amT] at jq;have azu:some q.2=kC l ws:=jq;rw [<- azu];exact⟨rfl,rfl⟩
end Go.Proofs.YtamjbkaclhgffaaGreat
