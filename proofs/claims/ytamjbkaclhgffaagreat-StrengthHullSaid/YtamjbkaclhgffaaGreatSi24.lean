/-
  strength: what Curve returns, plain.
-/
import Derived.Test.YtamjbkaclhgffaaGreatSi23
set_option linter.all false
set_option maxRecDepth 100000
set_option maxHeartbeats 4000000
namespace Go.Proofs.YtamjbkaclhgffaaGreat
def oc(W:Int)(k:aY)(share Bv:Int):aY:=(kj (mU (W*share) 10000).1 (mulL k (cS Bv)).1).1
structure kd where
 cM:aY
 cy:aY
deriving DecidableEq
def kF(S:List ak):aY:=(jZ (jh (cS (aB S).a1) (oc (aB S).a0 (cS 0) (aB S).a3 0)).1 (cS (aB S).a5)).1
def tW(S:List ak)(W:Int)(k:aY)(j:Nat):aY:=(jh (cS (aB (S.take j)).a0) (oc W k (aB (S.take j)).a2 (aB (S.take j)).a4)).1
def DO(l:List ar)(S:List ak)(W:Int)(k:aY)(j:Nat):aY:=(mulL (tW S W k j) (cS (2*bV l j))).1
def DP(l:List ar)(S:List ak)(W:Int)(k:aY)(j:Nat):aY:=(jh (kj (DO l S W k j) (oc W k (aB (S.take j)).a3 (aB (S.take j)).a5)).1 (cS (aB (S.take j)).a1)).1
def MF(l:List ar)(S:List ak)(W:Int)(k:aY)(j:Nat):kd:=⟨tW S W k j,(jZ (DP l S W k j) (cS 2)).1⟩
def zd(l:List ar)(S:List ak):List kd:=(List.range l.length).map (MF l S (aB S).a0 (kF S))
def kM(l:List ar)(ws:List Wt):List kd×Int :=
 if !gP l||ws.any lJ then ([],2)
 else if 3000<ws.length then ([],5)
 else match jd l ws with
  | none=>([],6)
  | some S=>if 500000000<(aB S).a0 then ([],3) else (zd l S,0)
theorem Bw{l:List ar}(h:gP l=true):3<=l.length/\l.length<=30/\jc none l=true/\fC l=10000:=by
 unfold gP at h;simp only [ax,aL] at h;exact⟨h.1.1.1.1.1.1,h.1.1.1.1.1.2,h.1.1.1.1.2,h.1.1.2⟩
theorem MG{ws:List Wt}(h:ws.any lJ=false):∀ x∈ws,0<=x.aq/\x.aq<=500000000:=by
 intro x hx;rw [zz] at h;have:=h x hx;unfold lJ at this;simpa using this
open Go.RowKit
def atM(l:List ar)(n:Nat):Lp where
 X:=Nat
 ov k := [(22,.int .i64 fun _=>(k:Int)),(7,.int .i64 fun _=>ck l k)]
 oe _ := []
 I k:=k<=n
 μ k _:=n - k
 x0:=0
 nx:=some fun k=>k+1
def atN(l:List ar)(n:Nat):Lp where
 X:=Nat
 ov k := [(44,.int .i64 fun _=>(k:Int)),(9,.own 0)]
 oe k := [(0,.row true .qw 162 fun _=>tV l n (ck l n) k)]
 I k:=k<=n
 μ k _:=n - k
 x0:=0
 nx:=some fun k=>k+1
def atO(l:List ar)(ws:List Wt)(n m:Nat)(S0:List ak):Lp where
 X:=Nat×List ak
 ov p := [(91,.int .i64 fun _=>(p.1:Int)),(9,.own 0)]
 oe p := [(0,.row true .qw 162 fun _=>p.2)]
 I p:=p.1<=m/\nB l n p.2 (ws.drop p.1)=jd l ws/\(∀ a∈p.2,lY p.1 a)/\p.2.length=n
 μ p _:=m - p.1
 x0:=(0,S0)
 nx:=none
def ae3:aN:=c6 63 Dn LU (fun l ws=>gP (l ())=true/\(ws ()).any lJ=false/\(ws ()).length<=3000) (fun l ws => .ba [.sl true .qw fun _=>(jd (l ()) (ws ())).getD [],.bool fun _=>(jd (l ()) (ws ())).isSome])
theorem atP:aU Tryz.prog ae3:=by
 refine fH { kp := [(0,[0,1]),(1,[0,1]),(2,[0,1,6,7]),(3,[0,1,6,7,21,22]),(4,[0,1,6,7,21,22]),(5,[0,1,6,7,8,21,22]),(6,[0,1,6,7,21,22]),(7,[0,1,6,7]),(8,[0,1,6,7,9]),(9,[0,1,6,7,9,43,44]),(10,[0,1,6,7,9,43,44]),(11,[0,1,6,7,9,10,43,44]),(12,[0,1,6,7,9,10,11,12,43,44]),(13,[0,1,6,7,9,10,11,12,13,43,44]),(14,[0,1,6,7,9,43,44]),(15,[0,1,6,9]),(16,[0,6,9,89,90,91]),(17,[0,6,9,89,90,91]),(18,[0,6,9,15,89,90,91]),(19,[0,6,9,15,16,89,90,91]),(20,[]),(21,[0,6,9,15,16,89,90,91]),(22,[0,6,9,89,90,91]),(23,[9])],lt := [(5,⟨[0,1,2,3,4,5,6,7,8,9,10,11,12,13,14],[0,1,2,3,4,5,6,7,8,9,10,11,12,13,14],[],[],[]⟩),(11,⟨[0,1,2,4,5,6,7,9,10,11,12,13,3,8,14,15,16,17,18],[0,1,2,4,5,6,7,9,10,11,12,13],[],[⟨[0,1,2,3,4,5,6,7,8,9,10,11],[0,1,6,7,9,10,11,12,43,44,49,50,54,55,60,61,62],(0,0),[(12,3,1),(13,8,2),(14,14,3),(16,16,4)]⟩,⟨[0,1,2,3,4,5,6,7,8,9,10,11,12],[0,1,6,7,9,10,11,12,43,44,50,54,55,60,61,62],(0,3),[(13,8,5),(14,14,6),(16,16,7)]⟩,⟨[0,1,2,3,4,5,6,7,8,9,10,11,13],[0,1,6,7,9,10,11,12,43,44,49,50,55,60,61,62],(0,8),[(12,3,5),(14,14,8),(16,16,9)]⟩,⟨[0,1,2,3,4,5,6,7,8,9,10,11,14],[0,1,6,7,9,10,11,12,43,44,49,50,54,55,61,62],(0,14),[(12,3,6),(13,8,8),(16,16,10)]⟩,⟨[0,1,2,3,4,5,6,7,8,9,10,11,16],[0,1,6,7,9,10,11,12,43,44,49,50,54,55,60,61,62],(0,16),[(12,3,7),(13,8,9),(14,14,10)]⟩,⟨[0,1,2,3,4,5,6,7,8,9,10,11,12,13],[0,1,6,7,9,10,11,12,43,44,50,55,60,61,62],(1,8),[(14,14,11),(16,16,12)]⟩,⟨[0,1,2,3,4,5,6,7,8,9,10,11,12,14],[0,1,6,7,9,10,11,12,43,44,50,54,55,61,62],(1,14),[(13,8,11),(16,16,13)]⟩,⟨[0,1,2,3,4,5,6,7,8,9,10,11,12,16],[0,1,6,7,9,10,11,12,43,44,50,54,55,60,61,62],(1,16),[(13,8,12),(14,14,13),(17,17,14)]⟩,⟨[0,1,2,3,4,5,6,7,8,9,10,11,13,14],[0,1,6,7,9,10,11,12,43,44,49,50,55,61,62],(2,14),[(15,15,15)]⟩,⟨[0,1,2,3,4,5,6,7,8,9,10,11,13,16],[0,1,6,7,9,10,11,12,43,44,49,50,55,60,61,62],(2,16),[(12,3,12),(14,14,16)]⟩,⟨[0,1,2,3,4,5,6,7,8,9,10,11,14,16],[0,1,6,7,9,10,11,12,43,44,49,50,54,55,61,62],(3,16),[(12,3,13),(13,8,16)]⟩,⟨[0,1,2,3,4,5,6,7,8,9,10,11,12,13,14],[0,1,6,7,9,10,11,12,43,44,50,55,61,62],(5,14),[(15,15,17)]⟩,⟨[0,1,2,3,4,5,6,7,8,9,10,11,12,13,16],[0,1,6,7,9,10,11,12,43,44,50,55,60,61,62],(5,16),[(14,14,18),(17,17,19)]⟩,⟨[0,1,2,3,4,5,6,7,8,9,10,11,12,14,16],[0,1,6,7,9,10,11,12,43,44,50,54,55,61,62],(6,16),[(13,8,18),(17,17,20)]⟩,⟨[0,1,2,3,4,5,6,7,8,9,10,11,12,16,17],[0,1,6,7,9,10,11,12,43,44,54,55,60,61,62],(7,17),[(13,8,19)]⟩,⟨[0,1,2,3,4,5,6,7,8,9,10,11,13,14,15],[0,1,6,7,9,10,11,12,43,44,49,50,62],(8,15),[(12,3,17),(16,16,21)]⟩,⟨[0,1,2,3,4,5,6,7,8,9,10,11,13,14,16],[0,1,6,7,9,10,11,12,43,44,49,50,55,61,62],(9,14),[(15,15,21)]⟩,⟨[0,1,2,3,4,5,6,7,8,9,10,11,12,13,14,15],[0,1,6,7,9,10,11,12,43,44,50,62],(11,15),[(16,16,22)]⟩,⟨[0,1,2,3,4,5,6,7,8,9,10,11,12,13,14,16],[0,1,6,7,9,10,11,12,43,44,50,55,61,62],(12,14),[(15,15,22)]⟩,⟨[0,1,2,3,4,5,6,7,8,9,10,11,12,13,16,17],[0,1,6,7,9,10,11,12,43,44,55,60,61,62],(12,17),[(14,14,23)]⟩,⟨[0,1,2,3,4,5,6,7,8,9,10,11,12,14,16,17],[0,1,6,7,9,10,11,12,43,44,54,55,61,62],(13,17),[(13,8,23)]⟩,⟨[0,1,2,3,4,5,6,7,8,9,10,11,13,14,15,16],[0,1,6,7,9,10,11,12,43,44,49,50,62],(15,16),[(12,3,22)]⟩,⟨[0,1,2,3,4,5,6,7,8,9,10,11,12,13,14,15,16],[0,1,6,7,9,10,11,12,43,44,50,62],(17,16),[(17,17,24)]⟩,⟨[0,1,2,3,4,5,6,7,8,9,10,11,12,13,14,16,17],[0,1,6,7,9,10,11,12,43,44,55,61,62],(19,14),[(15,15,24)]⟩,⟨[0,1,2,3,4,5,6,7,8,9,10,11,12,13,14,15,16,17],[0,1,6,7,9,10,11,12,43,44,62],(22,17),[]⟩],[18]⟩),(21,⟨[0,1,2,3,4,5,6,7,8,9,10,11,12,13,14,15,16,17,18,19],[0,1,2,3,4,5,6,7,8,9,10,11,12,13,14,15,16,17,18],[19],[],[]⟩)] } [ae2,Uh] ⟨atL,aeu,trivial⟩ [] trivial Tryz.func63 (by kernel_rfl) fun ai res h hp => ?_;obtain⟨(l:List ar),(ws:List Wt),rfl,rfl⟩:=dh h;clear h;have Up:gP l=true/\ws.any lJ=false/\ws.length<=3000:=hp;have hR:=Up.1;have hW:=Up.2.1;have Mp:=Up.2.2;have hI:=(Mx l).1 hR;have aI:=aeE hI.2.1;have ho:sq l:=(Un l none ((aeC l).2 hI.2.1)).1;obtain⟨h3,h30⟩:=hI.1;refine bW (l.length - 1) fun n hn => ?_;refine bW ws.length fun m hm => ?_;have hl:l.length=n+1:=oo
 refine bW (tV l n (ck l n) n) fun S0 MH => ?_;refine⟨[(3,atM l n),(9,atN l n),(16,atO l ws n m S0)],?_⟩
 conv=>arg 1; cbv
 simp (maxSteps:=4000000) only [aK,bu,bn,bX];rw [hl];simp only [bq];have e0:((n+1:Nat):Int) - 1=(n:Int):=oo
 rw [e0];refine⟨oo,⟨bO _,rfl,rfl⟩,fun (k:Nat) hk => ?_⟩;have e9:k<=n:=hk;clear hk
 conv=>arg 1; cbv
 simp (maxSteps:=4000000) only [aK,bu,bn,bX];have t1:∀ q:Nat,((q:Int)+1).toNat=q+1:=fun q=>oo
 have Fa:=zb aI k;have Tw:=DL aI k;have xL:=Bp aI k;have Pt:=Bp aI (k+1);have hAn:=DL aI n;have hXX:∀ q,bV l q+bV l (q+1)=hX l q:=fun q=>rfl;refine⟨fun g => ?_,fun g=>⟨⟨oo,oo⟩,⟨bO _,rfl,(atC l n _).symm⟩,fun (j:Nat) hj => ?_⟩⟩
 . simp only [t1,MC,hXX,bq];exact⟨⟨oo,oo⟩,oo,⟨oo,oo⟩,oo,oo,oo,⟨oo,oo⟩,oo,rfl⟩
 have dN:k=n:=oo
 subst dN;have gE:j<=k:=hj;clear hj g e9 Tw xL Fa Pt
 conv=>arg 1; cbv
 simp (maxSteps:=4000000) only [aK,bu,bn,bX];have cU:=aeS l k (ck l k) j;have gS:nB l k S0 ws=jd l ws:=by
  unfold jd qc;rw [<- MH,aeT,show l.length - 1=k from oo]
 have atQ:S0.length=k:=by rw [<- MH,aeS]
 have atS:∀ a∈S0,lY 0 a:=fun a ha=>by
  rw [<- MH,aeT] at ha;exact ae6
 refine⟨fun g => ?_,fun g=>⟨⟨⟨bO _,gS,atS,atQ⟩,rfl,?_⟩,fun (q:Nat×List ak) hq => ?_⟩⟩
 . simp only [cU,vK] at g ⊢;have ah:j<k:=oo
   have Fa:=zb aI j;have xL:=Bp aI j;have Pt:=Bp aI (j+1);have hB:=Uo aI (n:=k) (i:=j) oo oo;simp only [t1,MC,hXX,bq];have hM:=qb (a:=(k:Int)) (A:=29) (b:=hX l j) (B:=1000000) oo Fa;have hS:=atD l k (ck l k) j;unfold lY eX at hB;have e1:l.getD j eV=l.getD j Tc.bZ.aa:=rfl;unfold eX at hS;rw [e1] at hB hS;dsimp only at hB;clear e1;generalize l.getD j Tc.bZ.aa=f at *
   obtain⟨b0,b1,b2,b3,b4,b5⟩:=hB;exact⟨⟨oo,oo⟩,⟨oo,oo⟩,oo,⟨oo,oo⟩,oo,oo,oo,oo,oo,oo,oo,oo,oo,oo,⟨oo,oo⟩,oo,⟨oo,oo⟩,oo,hS⟩
 . simp only [vK] at g;have:j=k:=oo
   rw [this];exact MH
 have MI:q.1<=m/\nB l k q.2 (ws.drop q.1)=jd l ws/\(∀ a∈q.2,lY q.1 a)/\q.2.length=k:=hq;have DC:=MI.1;have jl:=MI.2.1;have jw:=MI.2.2.1;have hq4:=MI.2.2.2;clear hq
 conv=>arg 1; cbv
 simp (maxSteps:=4000000) only [aK,bu,bn,bX];simp only [hm,hq4,bq];refine⟨fun g0 => ?_,fun g0 => ?_⟩
 . have ah:q.1<ws.length:=oo
   have atT:ws.drop q.1=ws.getD q.1 Tc.wx.aa::ws.drop (q.1+1):=by
    rw [sP ah,aX,bc ah];rfl
   have Uq:=MG hW _ (gw Tc.wx.aa ah);rw [atT] at jl;generalize ws.getD q.1 Tc.wx.aa=u at *
   unfold nB at jl;have hx:=MA aI (x:=u.x);have fg:za l k q.2 u=if cJ l u.x=0\/k<cJ l u.x then none else some (q.2.set (cJ l u.x - 1) ((q.2.getD (cJ l u.x - 1) ak.zero).add (gZ u))):=rfl;generalize cJ l u.x=i at *
   have fw:i=0\/k<i->(jd l ws).getD [] = []/\false=(jd l ws).isSome:=fun h=>by
    rw [fg,aC h] at jl;rw [<- jl];exact⟨rfl,rfl⟩
   refine⟨⟨oo,oo⟩,⟨oo,ho⟩,fun c=>fw (.inl oo),fun c=>⟨fun c2=>fw (.inr oo),fun c2 => ?_⟩⟩;rw [fg,aw oo] at jl;have sX:i - 1<q.2.length:=oo
   have MJ:=jw _ (gw ak.zero sX);have pG:=hx oo oo;have hM:=qb (a:=2*u.aq) (A:=1000000000) (b:=u.x) (B:=500000) oo pG;have e2:q.2.getD (i - 1) Tc.qw.aa=q.2.getD (i - 1) ak.zero:=rfl;rw [e2];generalize q.2.getD (i - 1) ak.zero=A at *
   have Dh:lY (q.1+1) (A.add (gZ u)):=by
    unfold lY at MJ ⊢;unfold ak.add gZ;dsimp only;omega
   have At:∀ a∈q.2.set (i - 1) (A.add (gZ u)),lY (q.1+1) a:=fun a ha=>by
    rcases IB ha with h|h
    . have:=jw a h;unfold lY at this ⊢;omega
    . rw [h]; exact Dh
   unfold lY at MJ;have hS3:(q.2.set (i - 1) (A.add (gZ u))).length=k:=by rw [nH]; exact hq4
   refine⟨oo,oo,⟨oo,oo⟩,oo,oo,⟨⟨oo,oo,oo⟩,oo,oo,oo⟩,⟨oo,oo⟩,oo,?_⟩;refine bW (q.2.set (i - 1) (A.add (gZ u))) fun S1 hS4 => ?_;rw [hS4] at jl At hS3;refine⟨(q.1+1,S1),⟨⟨by show q.1+1<=m; omega,jl,At,hS3⟩,by show m - (q.1+1)<m - q.1; omega⟩,?_⟩
   conv=>arg 1; cbv
   simp (maxSteps:=4000000) only [aK];exact⟨by show (q.1:Int)+1=((q.1+1:Nat):Int); omega,hS4⟩
 . have hqm:q.1=m:=oo
   rw [hqm,<- hm,ajs] at jl;have atV:some q.2=jd l ws:=jl;rw [<- atV];exact⟨rfl,rfl⟩
end Go.Proofs.YtamjbkaclhgffaaGreat
