/-
  twistlockref01 by the abstract run: make0, Right, size, Ratio, Of, Neg.
-/
import Derived.Test.YtamjbkaclhgffaaGreatSh22
set_option linter.all false
set_option maxRecDepth 100000
set_option maxHeartbeats 4000000
namespace Go.Proofs.YtamjbkaclhgffaaGreat
open Go.RowKit
variable{s:ByteArray}{B T a g i x y:Nat}{w:World}{b:aL}
theorem Ob{n:Nat}:(0:Int)<((aq ak n).length:Int)↔n≠0:=by
 constructor
 . intro h e;rw [e] at h;exact absurd h (by decide)
 . intro h;have:0<(aq ak n).length:=Gf bT h;omega
theorem Ja(f:bh):I8 ⟨f.n0,f.n1,f.n2,f.n3,f.n4,f.n5,f.n6,f.n7⟩=(aB f).num:=rfl
theorem Oc(f:bh):I8 ⟨f.d0,f.d1,f.d2,f.d3,f.d4,f.d5,f.d6,f.d7⟩=(aB f).den:=rfl
def Jb:aC:=ns 202 kB gi gi (fun _ a b=>(dY (a ())/\(a ()).length<=2000)/\(dY (b ())/\(b ()).length<=2000)/\0<vl (b ())) (fun s a b => .bp [.agg (gp fun _=>(jl (s ()) (vl (a ())) (vl (b ()))).1),.int .i64 fun _=>(jl (s ()) (vl (a ())) (vl (b ()))).2])
theorem Od:aE Tryz.prog Jb:=by
 refine bZ { kp := [(0,[0,1,2]),(1,[0,1,2,6]),(2,[0,1,2,6,8]),(3,[0,2,6,8,9]),(4,[0,6,9,11]),(5,[0,6,9,11,13,14]),(6,[0,6,9,13,14,15,16]),(7,[6]),(8,[0,6,9,13,15])],lt := [] } [VI,VB,ago] ⟨agm,age,awM,trivial⟩ [] trivial Tryz.func202 (by kernel_rfl) fun ah res h hp => ?_;obtain⟨(s:Bool),(a:List Int),(b:List Int),rfl,rfl⟩:=oR h;clear h;refine⟨[],?_⟩
 conv=>arg 1; cbv
 simp (maxSteps:=4000000) only [ay,aJ,aH,aO];obtain⟨⟨ha,kX⟩,⟨hb,fJ⟩,gu⟩:(dY a/\a.length<=2000)/\(dY b/\b.length<=2000)/\0<vl b:=hp;obtain⟨x,rfl⟩:=oW ha;obtain⟨y,rfl⟩:=oW hb;rw [gZ] at kX fJ;rw [ky] at gu;clear ha hb;simp only [ky,gZ];have tL:cK x<=2000:=kX;have pH:cK y<=2000:=fJ;have hG:0<Nat.gcd x y:=amR _ gu;have lG:cK (Nat.gcd x y)<=2000:=cd (wU (anq gu (am8 x y))) pH;have hf:=QC (neg:=s) (x:=x) (y:=y) rfl rfl rfl;have lQ:cK (x / Nat.gcd x y)<=2000:=cd (wU (yJ _ _)) tL;have lR:cK (y / Nat.gcd x y)<=2000:=cd (wU (yJ _ _)) pH;have h0 := @Ob (x / Nat.gcd x y);generalize x / Nat.gcd x y=Q at *
 generalize y / Nat.gcd x y=R at *
 generalize Nat.gcd x y=G at *
 have t1:∀ {p:Prop} [Decidable p],(!decide p)=true->¬p:=fun h=>by simpa using h
 have t2:∀ {p:Prop} [Decidable p],(!decide p)=false->p:=fun h=>by simpa using h
 have no:¬(Q<cA/\R<cA)->yj (jl s x y) false (fun _=>0) (fun _=>0) 3:=fun h=>nv (by rw [hf,ax h]);have go:∀ b,Q<cA->R<cA->b=(s&&decide (Q≠0))->yj (jl s x y) b (fun i=>az (if Q<cA then Q else 0) i) (fun i=>az (if R<cA then R else 0) i) 0:=fun b h1 h2 hb=>by
  rw [hf];simp only [aG h1,aG h2,aG (And.intro h1 h2)];exact⟨hb,rfl,rfl,rfl,rfl,rfl,rfl,rfl,rfl,rfl,rfl,rfl,rfl,rfl,rfl,rfl,rfl,rfl⟩
 refine⟨⟨⟨dt _,kX⟩,dt _,fJ⟩,⟨⟨dt _,kX⟩,⟨dt _,lG⟩,hG⟩,⟨⟨dt _,fJ⟩,⟨dt _,lG⟩,hG⟩,⟨dt _,lQ⟩,⟨dt _,lR⟩,fun g1=>no fun h=>t1 g1 h.1,fun g1=>⟨fun g2=>no fun h=>t1 g2 h.2,fun g2=>⟨fun hs=>go _ (t2 g1) (t2 g2) ?_,fun hs=>go _ (t2 g1) (t2 g2) (by rw [hs]; rfl)⟩⟩⟩;rw [hs,fe];exact vM.2 h0
def Oe:aC:=cL 100 gn (fun f=>eh (f ())) (fun f => .bool fun _=>(aB (f ())).right)
theorem VM:aE Tryz.prog Oe:=by
 refine bZ { kp := [(0,[0]),(1,[1]),(2,[1,3,4]),(3,[]),(4,[3,4])],lt := [(1,⟨[0,1,2,3,4,5,6,7],[0,1,2,3,4,5,6,7],[],[],[]⟩)] } [E0,VI,af8] ⟨I9,agm,awi,trivial⟩ [] trivial Tryz.func100 (by kernel_rfl) fun ah res h hp => ?_;obtain⟨(f:bh),rfl,rfl⟩:=cS h;clear h;refine⟨[],?_⟩
 conv=>arg 1; cbv
 simp (maxSteps:=4000000) only [ay,aJ,aH,aO];obtain⟨_,Ep,_⟩:=jL hp;have hf:(aB f).fits:=Ep;simp only [ky,gZ];simp only [Ja,Oc];have hn:f.neg=(aB f).neg:=rfl;rw [hn];refine⟨hp.1,hp.2,?_⟩;have z:∀ {n:Nat},(((aq ak n).length:Nat):Int)=0↔n=0:=fun {n}=>by
  have := @Ob n;omega
 have l1:(aq ak (aB f).num).length<=16:=gr bT hf.1;have l2:(aq ak (aB f).den).length<=16:=gr bT hf.2;have lg:(aB f).den≠0->(aq ak (Nat.gcd (aB f).num (aB f).den)).length<=100000:=fun h=>cd (wU (anq (FW h) (am8 _ _))) (cd l2 (by decide));have pre:(dY (nd (aB f).num)/\(aq ak (aB f).num).length<=2000)/\dY (nd (aB f).den)/\(aq ak (aB f).den).length<=2000:=⟨⟨dt _,oo⟩,dt _,oo⟩
 unfold ba.right;simp only [z];refine⟨fun h => ?_,fun h=>⟨fun hs=>⟨fun h0 => ?_,fun h0=>⟨pre,⟨dt _,lg h⟩,?_⟩⟩,fun hs=>⟨pre,⟨dt _,lg h⟩,?_⟩⟩⟩
 . simp [h]
 . simp [hs,h0]
 . simp only [hs,h0,h,ne_eq,Ko,qN,xy,fe,P7,gU];exact vM.2 Iff.rfl
 . simp only [hs,h,ne_eq,Ko,qN,fe,yM,P7,gU];exact vM.2 Iff.rfl
def agp:aC:=cL 241 kI (fun n=>aP (n ())) (fun n => .sl false .int fun _=>nd (n ()).natAbs)
theorem awU:aE Tryz.prog agp:=by
 refine bZ { kp := [(0,[0]),(1,[0]),(2,[0]),(3,[0])] } [aga] ⟨awl,trivial⟩ [] trivial Tryz.func241 (by kernel_rfl) fun ah res h hp => ?_;obtain⟨(n:Int),rfl,rfl⟩:=cS h;clear h;refine⟨[],?_⟩
 conv=>arg 1; cbv
 simp (maxSteps:=4000000) only [ay,aJ,aH,aO];simp only [IE];have u9 : -9223372036854775808<=n/\n<=9223372036854775807:=hp;have h0:=u9.1;have h1:=u9.2;exact⟨fun h=>⟨ii,ii,⟨oo,oo⟩,congrArg nd oo⟩,fun h=>⟨⟨oo,oo⟩,congrArg nd oo⟩⟩
def agq:aC:=bE 199 kI kI (fun a b=>aP (a ())/\(0<b ()/\aP (b ()))) (fun a b => .bp [.agg (gp fun _=>(kJ (a ()) (b ())).1),.int .i64 fun _=>(kJ (a ()) (b ())).2])
theorem awV:aE Tryz.prog agq:=by
 refine bZ { kp := [(0,[0,1]),(1,[0,1,4]),(2,[4]),(3,[0,1,4])],lt := [] } [agp,Jb] ⟨awU,Od,trivial⟩ [] trivial Tryz.func199 (by kernel_rfl) fun ah res h hp => ?_;obtain⟨(a:Int),(b:Int),rfl,rfl⟩:=bG h;clear h;refine⟨[],?_⟩
 conv=>arg 1; cbv
 simp (maxSteps:=4000000) only [ay,aJ,aH,aO];have ma:aP a/\0<b/\aP b:=hp;have ha:=ma.1;have gu:=ma.2.1;have hb:=ma.2.2;have E3 : -9223372036854775808<=a/\a<=9223372036854775807:=ha;have c6 : -9223372036854775808<=b/\b<=9223372036854775807:=hb;simp only [ky,gZ];have la:(aq ak a.natAbs).length<=2000:=cd (gr bT (k:=4) (show a.natAbs<65536^4 from oo)) (by decide);have lb:(aq ak b.natAbs).length<=2000:=cd (gr bT (k:=4) (show b.natAbs<65536^4 from oo)) (by decide);have pre:aP a/\aP b/\(dY (nd a.natAbs)/\(aq ak a.natAbs).length<=2000)/\(dY (nd b.natAbs)/\(aq ak b.natAbs).length<=2000)/\0<b.natAbs:=⟨ha,hb,⟨dt _,la⟩,⟨dt _,lb⟩,oo⟩
 have db:decide (b<0)=false:=dB oo;have hr:∀ s,s=decide (a<0)->jl s a.natAbs b.natAbs=kJ a b:=fun s hs=>by
  unfold kJ;rw [ax oo,db,hs];cases decide (a<0)<;>rfl
 refine⟨fun h=>oo,fun h0=>⟨fun h1=>⟨fun h2=>⟨ha,hb,pre.2.2,mN (hr _ (cT h1).symm)⟩,fun h2=>absurd gu h2⟩,fun h1=>⟨fun h2=>⟨ha,hb,pre.2.2,mN (hr _ (by rw [db,dB h1]))⟩,fun h2=>⟨ha,hb,pre.2.2,mN (hr _ (dB h1).symm)⟩⟩⟩⟩
def agr:aC:=cL 154 kI (fun a=>aP (a ())) (fun a => .agg (gp fun _=>cr (a ())))
theorem awW:aE Tryz.prog agr:=by
 refine bZ { kp := [(0,[0]),(1,[0,2]),(2,[2,3])] } [agq] ⟨awV,trivial⟩ [] trivial Tryz.func154 (by kernel_rfl) fun ah res h hp => ?_;obtain⟨(a:Int),rfl,rfl⟩:=cS h;clear h;refine⟨[],?_⟩
 conv=>arg 1; cbv
 simp (maxSteps:=4000000) only [ay,aJ,aH,aO];have E3 : -9223372036854775808<=a/\a<=9223372036854775807:=hp;refine⟨⟨hp,by decide,⟨by decide,by decide⟩⟩,afL ?_⟩;rw [anM a (by unfold cA; omega)]
def kZ(f:ba):ba:=⟨if f.num≠0 then !f.neg else f.neg,f.num,f.den⟩
theorem awX(f:ba):(kZ f).right=f.right:=by
 unfold kZ ba.right;by_cases h:f.num=0
 . rw [ax oo]
 . rw [aG h,dB h,nK,nK]
theorem awY{f:ba}(h:f.right=true):kZ f=j9 f:=by
 unfold kZ j9;by_cases h0:f.num=0
 . unfold ba.right at h;rw [ax oo,dB (show ¬f.num≠0 from oo),nK];congr 1;simp only [h0,qN,gU,aD,fG] at h;exact h.2
 . rw [aG h0,cT h0,gU]
def ags:aC:=cL 200 gn (fun f=>eh (f ())) (fun f => .agg (gp fun _=>kZ (aB (f ()))))
theorem awZ:aE Tryz.prog ags:=by
 refine bZ { kp := [(0,[0]),(1,[1,2]),(2,[1,2]),(3,[1,2])] } [E0] ⟨I9,trivial⟩ [] trivial Tryz.func200 (by kernel_rfl) fun ah res h hp => ?_;obtain⟨(f:bh),rfl,rfl⟩:=cS h;clear h;refine⟨[],?_⟩
 conv=>arg 1; cbv
 simp (maxSteps:=4000000) only [ay,aJ,aH,aO];obtain⟨_,Ep,hv⟩:=jL hp;have IZ:(kZ (aB f)).neg=if (aB f).num≠0 then !f.neg else f.neg:=rfl;have aS:f.n0=az (kZ (aB f)).num 0/\f.n1=az (kZ (aB f)).num 1/\f.n2=az (kZ (aB f)).num 2/\f.n3=az (kZ (aB f)).num 3/\f.n4=az (kZ (aB f)).num 4/\f.n5=az (kZ (aB f)).num 5/\f.n6=az (kZ (aB f)).num 6/\f.n7=az (kZ (aB f)).num 7/\f.d0=az (kZ (aB f)).den 0/\f.d1=az (kZ (aB f)).den 1/\f.d2=az (kZ (aB f)).den 2/\f.d3=az (kZ (aB f)).den 3/\f.d4=az (kZ (aB f)).den 4/\f.d5=az (kZ (aB f)).den 5/\f.d6=az (kZ (aB f)).den 6/\f.d7=az (kZ (aB f)).den 7:=⟨(congrArg bh.n0 hv).symm,(congrArg bh.n1 hv).symm,(congrArg bh.n2 hv).symm,(congrArg bh.n3 hv).symm,(congrArg bh.n4 hv).symm,(congrArg bh.n5 hv).symm,(congrArg bh.n6 hv).symm,(congrArg bh.n7 hv).symm,(congrArg bh.d0 hv).symm,(congrArg bh.d1 hv).symm,(congrArg bh.d2 hv).symm,(congrArg bh.d3 hv).symm,(congrArg bh.d4 hv).symm,(congrArg bh.d5 hv).symm,(congrArg bh.d6 hv).symm,(congrArg bh.d7 hv).symm⟩
 simp only [gZ];simp only [Ja,Ob];refine⟨hp.1,fun h=>⟨?_,aS⟩,fun h=>⟨?_,aS⟩⟩
 . rw [IZ,aG h]
 . rw [IZ,ax h]
theorem aw0(hx:cK x<=a)(hy:cK y<=a):cK (x+y)<=a+1:=by
 refine gr bT ?_;have h1:=eC bT hx;have h2:=eC bT hy;rw [iE];generalize ak^a=P at *
 show x+y<P*65536
 omega
def VN:aC:=bE 156 gn gn (fun f g=>eh (f ())/\eh (g ())) (fun f g => .bp [.agg (gp fun _=>(fW (aB (f ())) (aB (g ()))).1),.int .i64 fun _=>(fW (aB (f ())) (aB (g ()))).2])
theorem agt:aE Tryz.prog VN:=by
 refine bZ { kp := [(0,[0,1]),(1,[2,3,4]),(2,[4]),(3,[2,3,4]),(4,[2,3,4,6,7,8,9]),(5,[2,3,4,10,11,12]),(6,[2,4,10,11,12]),(7,[2,3,4,10,11,12]),(8,[3,4,10,11,12]),(9,[2,4,10,11,12])],lt := [(3,⟨[0,1,2,3,4,5,6,7,8,9,10,11,12,13,14,15],[0,1,2,3,4,5,6,7,8,9,10,11,12,13,14,15],[],[],[]⟩),(6,⟨[0,1,2,3,4,5,6,7,8,9,10],[0,1,2,3,4,5,6,7,8],[9,10],[],[]⟩),(8,⟨[0,1,2,3,4,5,6,7,8,9,10],[0,1,2,3,4,5,6,7,8],[9,10],[],[]⟩),(9,⟨[0,1,2,3,4,5,6,7,8,9,10],[0,1,2,3,4,5,6,7,8],[9,10],[],[]⟩)] } [Oe,E0,N8,Vu,Vx,Vv,Jb] ⟨VM,I9,VA,af1,af9,af5,Od,trivial⟩ [] trivial Tryz.func156 (by kernel_rfl) fun ah res h hp => ?_;obtain⟨(f:bh),(g:bh),rfl,rfl⟩:=bG h;clear h;refine⟨[],?_⟩
 conv=>arg 1; cbv
 simp (maxSteps:=4000000) only [ay,aJ,aH,aO];have hf:(aB f).fits:=(jL hp.1).2.1;have hg:(aB g).fits:=(jL hp.2).2.1;have jw:f.neg=(aB f).neg:=rfl;have mf:g.neg=(aB g).neg:=rfl;simp only [oT];simp only [Ja,Oc,ky,gZ,jw,mf];have nw:(aq ak (aB f).num).length<=16:=gr bT hf.1;have lM:(aq ak (aB f).den).length<=16:=gr bT hf.2;have ny:(aq ak (aB g).num).length<=16:=gr bT hg.1;have lN:(aq ak (aB g).den).length<=16:=gr bT hg.2;have nt:∀ {b:Bool},(!b)=true->b=false:=fun h=>by simpa using h
 have nf:∀ {b:Bool},(!b)=false->b=true:=fun h=>by simpa using h
 have a1:=hp.1.1;have a2:=hp.1.2;have b1:=hp.2.1;have b2:=hp.2.2;have m1:(aq ak ((aB f).num*(aB g).den)).length<=16+16:=vh nw lN;have m2:(aq ak ((aB g).num*(aB f).den)).length<=16+16:=vh ny lM;have m3:(aq ak ((aB f).den*(aB g).den)).length<=16+16:=vh lM lN;have m4:(aq ak ((aB f).num*(aB g).den+(aB g).num*(aB f).den)).length<=33:=aw0 m1 m2;have m5:(aq ak ((aB g).num*(aB f).den - (aB f).num*(aB g).den)).length<=32:=cd (wU (Kz _ _)) m2;have m6:(aq ak ((aB f).num*(aB g).den - (aB g).num*(aB f).den)).length<=32:=cd (wU (Kz _ _)) m1;have c1:∀ {b c:Bool},(b==c)=true->b=c:=fun h=>by simpa using h
 have c2:∀ {b c:Bool},(b==c)=false->¬b=c:=fun h=>by simpa using h
 refine⟨hp.1,fun h1=>nv (by unfold fW; rw [nt h1]; rfl),fun h1=>⟨hp.2,fun h2=>nv (by unfold fW; rw [nt h2,nK]; rfl),fun h2 => ?_⟩⟩;have hs:fW (aB f) (aB g)=oy (aB f) (aB g):=by unfold fW; rw [nf h1,nf h2]; rfl
 rw [hs];have k:(dY (nd ((aB f).den*(aB g).den))/\(aq ak ((aB f).den*(aB g).den)).length<=2000)/\0<(aB f).den*(aB g).den:=⟨⟨dt _,cd m3 (by decide)⟩,uu (tN (nf h1)) (tN (nf h2))⟩
 refine⟨a1,a2,b1,b2,⟨⟨dt _,dt _⟩,cd nw (by decide),cd lN (by decide)⟩,⟨⟨dt _,dt _⟩,cd ny (by decide),cd lM (by decide)⟩,⟨⟨dt _,dt _⟩,cd lM (by decide),cd lN (by decide)⟩,fun s=>⟨⟨⟨dt _,dt _⟩,cd m1 (by decide),cd m2 (by decide)⟩,⟨⟨dt _,cd m4 (by decide)⟩,k⟩,mN (by unfold oy; rw [aG (c1 s)])⟩,fun s=>⟨⟨⟨dt _,dt _⟩,cd m1 (by decide),cd m2 (by decide)⟩,fun c=>⟨⟨⟨dt _,dt _⟩,cd m2 (by decide),AO c⟩,⟨⟨dt _,cd m5 (by decide)⟩,k⟩,mN (by unfold oy; rw [ax (c2 s),aG c])⟩,fun c=>⟨⟨⟨dt _,dt _⟩,cd m1 (by decide),Kr c⟩,⟨⟨dt _,cd m6 (by decide)⟩,k⟩,mN (by unfold oy; rw [ax (c2 s),ax c])⟩⟩⟩
def agu:aC:=bE 155 gn gn (fun f g=>eh (f ())/\eh (g ())) (fun f g => .bp [.agg (gp fun _=>(gG (aB (f ())) (aB (g ()))).1),.int .i64 fun _=>(gG (aB (f ())) (aB (g ()))).2])
theorem aw1:aE Tryz.prog agu:=by
 refine bZ { kp := [(0,[0,1]),(1,[2,3,4])],lt := [(1,⟨[0,1,2,3,4,5,6,7],[0,1,2,3,4,5],[6,7],[],[]⟩)] } [ags,VN] ⟨awZ,agt,trivial⟩ [] trivial Tryz.func155 (by kernel_rfl) fun ah res h hp => ?_;obtain⟨(f:bh),(g:bh),rfl,rfl⟩:=bG h;clear h;refine⟨[],?_⟩
 conv=>arg 1; cbv
 simp (maxSteps:=4000000) only [ay,aJ,aH,aO];have hg:(aB g).fits:=(jL hp.2).2.1;have hn:(kZ (aB g)).fits:=hg;simp only [oT];simp only [jJ,jK,pI hn,aH];refine⟨hp.2,hp.1,mN ?_⟩;unfold fW gG;rw [awX]
 cases h:(aB g).right with
 | false=>rw [nK]; rfl
 | true=>rw [awY h]
def agv:aC:=bE 157 gn gn (fun f g=>eh (f ())/\eh (g ())) (fun f g => .bp [.agg (gp fun _=>(mulL (aB (f ())) (aB (g ()))).1),.int .i64 fun _=>(mulL (aB (f ())) (aB (g ()))).2])
theorem aw2:aE Tryz.prog agv:=by
 refine bZ { kp := [(0,[0,1]),(1,[2,3,4]),(2,[4]),(3,[2,3,4])],lt := [(3,⟨[0,1,2,3,4,5,6,7,8,9,10,11,12,13,14,15,16,17,18,19,20,21,22,23],[0,1,2,3,4,5,6,7,8,9,10,11,12,13,14,15,16,17,18,19,20,21],[22,23],[],[]⟩)] } [Oe,E0,N8,Jb] ⟨VM,I9,VA,Od,trivial⟩ [] trivial Tryz.func157 (by kernel_rfl) fun ah res h hp => ?_;obtain⟨(f:bh),(g:bh),rfl,rfl⟩:=bG h;clear h;refine⟨[],?_⟩
 conv=>arg 1; cbv
 simp (maxSteps:=4000000) only [ay,aJ,aH,aO];have hf:(aB f).fits:=(jL hp.1).2.1;have hg:(aB g).fits:=(jL hp.2).2.1;have jw:f.neg=(aB f).neg:=rfl;have mf:g.neg=(aB g).neg:=rfl;simp only [oT];simp only [Ja,Oc,ky,gZ,jw,mf];have nw:(aq ak (aB f).num).length<=16:=gr bT hf.1;have lM:(aq ak (aB f).den).length<=16:=gr bT hf.2;have ny:(aq ak (aB g).num).length<=16:=gr bT hg.1;have lN:(aq ak (aB g).den).length<=16:=gr bT hg.2;have nt:∀ {b:Bool},(!b)=true->b=false:=fun h=>by simpa using h
 have nf:∀ {b:Bool},(!b)=false->b=true:=fun h=>by simpa using h
 have a1:=hp.1.1;have a2:=hp.1.2;have b1:=hp.2.1;have b2:=hp.2.2;have m1:(aq ak ((aB f).num*(aB g).num)).length<=16+16:=vh nw ny;have m3:(aq ak ((aB f).den*(aB g).den)).length<=16+16:=vh lM lN;refine⟨hp.1,fun h1=>nv (by unfold mulL; rw [nt h1]; rfl),fun h1=>⟨hp.2,fun h2=>nv (by unfold mulL; rw [nt h2,nK]; rfl),fun h2=>⟨a1,b1,⟨⟨dt _,dt _⟩,cd nw (by decide),cd ny (by decide)⟩,a2,b2,⟨⟨dt _,dt _⟩,cd lM (by decide),cd lN (by decide)⟩,⟨⟨dt _,cd m1 (by decide)⟩,⟨dt _,cd m3 (by decide)⟩,uu (tN (nf h1)) (tN (nf h2))⟩,mN (by unfold mulL; rw [nf h1,nf h2]; rfl)⟩⟩⟩
def agw:aC:=bE 198 gn gn (fun f g=>eh (f ())/\eh (g ())) (fun f g => .bp [.agg (gp fun _=>(gM (aB (f ())) (aB (g ()))).1),.int .i64 fun _=>(gM (aB (f ())) (aB (g ()))).2])
theorem aw3:aE Tryz.prog agw:=by
 refine bZ { kp := [(0,[0,1]),(1,[2,3,4]),(2,[4]),(3,[2,3,4])],lt := [(3,⟨[0,1,2,3,4,5,6,7,8,9,10,11,12,13,14,15,16,17,18,19,20,21,22,23],[0,1,2,3,4,5,6,7,8,9,10,11,12,13,14,15,16,17,18,19,20,21],[22,23],[],[]⟩)] } [Oe,E0,N8,Jb] ⟨VM,I9,VA,Od,trivial⟩ [] trivial Tryz.func198 (by kernel_rfl) fun ah res h hp => ?_;obtain⟨(f:bh),(g:bh),rfl,rfl⟩:=bG h;clear h;refine⟨[],?_⟩
 conv=>arg 1; cbv
 simp (maxSteps:=4000000) only [ay,aJ,aH,aO];have hf:(aB f).fits:=(jL hp.1).2.1;have hg:(aB g).fits:=(jL hp.2).2.1;have jw:f.neg=(aB f).neg:=rfl;have mf:g.neg=(aB g).neg:=rfl;simp only [oT];simp only [Ja,Oc,ky,gZ,jw,mf];have nw:(aq ak (aB f).num).length<=16:=gr bT hf.1;have lM:(aq ak (aB f).den).length<=16:=gr bT hf.2;have ny:(aq ak (aB g).num).length<=16:=gr bT hg.1;have lN:(aq ak (aB g).den).length<=16:=gr bT hg.2;have nt:∀ {b:Bool},(!b)=true->b=false:=fun h=>by simpa using h
 have nf:∀ {b:Bool},(!b)=false->b=true:=fun h=>by simpa using h
 have a1:=hp.1.1;have a2:=hp.1.2;have b1:=hp.2.1;have b2:=hp.2.2;have m1:(aq ak ((aB f).num*(aB g).den)).length<=16+16:=vh nw lN;have m3:(aq ak ((aB f).den*(aB g).num)).length<=16+16:=vh lM ny;have z:(((aq ak (aB g).num).length:Nat):Int)=0↔(aB g).num=0:=by
  have := @Ob (aB g).num;omega
 simp only [z];refine⟨hp.1,fun h1=>nv (by unfold gM; rw [nt h1]; rfl),fun h1=>⟨hp.2,fun h2=>nv (by unfold gM; rw [nt h2,nK]; rfl),fun h2=>⟨b1,fun h0=>nv (by unfold gM; rw [dB (show ¬(aB g).num≠0 from oo),nK]; rfl),fun h0=>⟨a1,b2,⟨⟨dt _,dt _⟩,cd nw (by decide),cd lN (by decide)⟩,a2,b1,⟨⟨dt _,dt _⟩,cd lM (by decide),cd ny (by decide)⟩,⟨⟨dt _,cd m1 (by decide)⟩,⟨dt _,cd m3 (by decide)⟩,uu (tN (nf h1)) (FW h0)⟩,mN (by unfold gM; rw [nf h1,nf h2,cT h0]; rfl)⟩⟩⟩⟩
theorem Jc{P:Program}{fn:Func}{p t:Tmp}{cs:List Value}(h:fn.results = #[.cell p T,.tmp t])(tmps:Array Value)(hp:tmps.getD p undef = .pointer (some ⟨g,0,none⟩))(hl:(loadVar T ⟨g,0,none⟩).run P w = .ok (.agg cs.toArray) w) :
 (results fn tmps).run P w = .ok (.tuple #[.agg cs.toArray,tmps.getD t undef]) w:=by
 have bC:tmps[p]?.getD undef = .pointer (some ⟨g,0,none⟩):=by simpa using hp
 simp [results,h,bC,asAddr,hl]
theorem Rd.addr{size:Nat}{A:Option Addr}{css:List (List Value)}(h:Rd w B size A css)(h0:0<css.length):∃ b off,A=some ⟨b,off,none⟩:=by
 obtain⟨b,off,e,_⟩:=h 0 css[0] (bq h0);exact⟨b,off,e⟩
def E4(n:Int):List Value := [.int .u8 n]
def wW(size:Int):List Int:=if size=40 then [0] else if size=20 then [1,2] else []
def Of{α:Type}[DecidableEq α](x : α)(l:List α):Int:=idx (fun y=>decide (x=y)) l
theorem aw4(A:Option Addr)(c:Nat)(l:List Int)(n:Nat)(hn:n=l.length)(x:Int)(w:World)(hA:Rd w w.heap.size 1 A (l.map E4))(hl:l.length<=1000000000000) :
 Calls Tryz.prog 246 #[.slice A n c,.int .u8 x] w fun e w'=>e = .returned (.int .i64 (Of x l))/\w'=w:=by
 have HN:=bt hn;have HR:=bt hA;have oH:n<=1000000000000:=oo
 clear hA hn hl
 go_enter Tryz.func246,Tryz.ntmps246
 go_wp2
 go_loopw [5,8] (fun _ i wr=>∃ k:Nat,k<=n/\i = .int .i64 k/\(∀ j,(h:j<k)->(h2:j<l.length)->decide (x=l[j])=false)/\wr=w) (fun _ i _=>n - (intOf i).toNat)
 case atStart=>exact⟨0,oo,rfl,oo,rfl⟩
 case round =>
  obtain⟨k,hk,rfl,hj,rfl⟩:=hrel;have HJ:=bt hj;clear hj;by_cases eV:k=n
  . have af:¬ (k:Int)<(n:Int):=oo
    have HI:Hid (Of x l = -1):=Qj (fun j h=>HJ.out j (by have:=HN.out; omega) h);clear eV hk
    go_wp2
    go_ret
    exact⟨by rw [HI.out]; rfl,rfl⟩
  . have af:(k:Int)<(n:Int):=oo
    have lY:k<l.length:=by have:=HN.out; omega
    obtain⟨b,off,rfl⟩:=Rd.addr HR.out (by rw [di]; omega);obtain⟨y,hy⟩:∃ y,y=l[k]:=⟨_,rfl⟩
    have HL:=bt (Rd.cell (P:=Tryz.prog) HR.out (dU _ _) ct5 (k:=k) (cs:=E4 y) (by rw [hy]; exact QJ E4 l k lY) (j:=0) (v := .int .u8 y) rfl (p:=off+k) oo);by_cases nu:x=y
    . have HI:Hid (Of x l=k):=Qi lY (fun j h=>HJ.out j h oo) (by rw [<- hy]; exact cT nu);have hb:(x==y)=true:=by simpa using nu
      clear eV hk hy nu
      go_wp2_with ((with_reducible refine ux 5 ?_); refine si rfl _ _ rfl _ rfl _ HL.out ?_)
      go_ret
      exact⟨by rw [HI.out]; rfl,rfl⟩
    . have HJ2:Hid (∀ j,(h:j<k+1)->(h2:j<l.length)->decide (x=l[j])=false):=by
       intro j h h2;rcases cv j k with h3|h3
       . exact HJ.out j h3 h2
       . obtain rfl:j=k:=oo
         rw [<- hy];exact dB nu
      have hb:(x==y)=false:=by simpa using nu
      clear HJ hy nu
      go_wp2_with ((with_reducible refine ux 5 ?_); refine si rfl _ _ rfl _ rfl _ HL.out ?_)
      go_roundw
      case rel=>exact⟨k+1,oo,by go_num,HJ2.out,trivial⟩
      case measure=>simp [intOf]; omega
theorem aw6(A:Option Addr)(c:Nat)(l:List Int)(n:Nat)(hn:n=l.length)(x:Int)(w:World)(hA:Rd w w.heap.size 1 A (l.map E4))(hl:l.length<=1000000000000) :
 Calls Tryz.prog 213 #[.slice A n c,.int .u8 x] w fun e w'=>e = .returned (.bool (l.any fun y=>decide (x=y)))/\w'=w:=by
 have HI:=bt (aw4 A c l n hn x w hA hl);rw [ZB];unfold Of at HI;generalize idx (fun y=>decide (x=y)) l=z at HI ⊢;clear hA hn hl
 go_enter Tryz.func213,Tryz.ntmps213
 go_wp2_with (go_at_call 246; refine (HI.out).mono ?_; rintro e w2 ⟨rfl,rfl⟩)
 go_ret
 exact⟨by first|rfl|simp,rfl⟩
def sV(a b:Int):Bool:=decide (a=b)||(decide (a=0)||decide (b=0))
def jZ(a b:Slot):Bool:=decide (a.ar=b.ar)&&(decide (a.aK=b.aK)&&sV a.half b.half)
def vj(x:Slot)(l:List Slot)(h:Int):Bool:=l.any fun y=>decide ((⟨x.ar,x.aK - 1,h⟩:Slot)=y)
def rK(x:Slot)(l:List Slot):Bool:=if x.aK<=0 then true else vj x l x.half||(decide (x.half=0)&&(vj x l 1&&vj x l 2))
def tO(b:Int):Bool:=decide (65<=b)&&decide (b<=90)
def Jd(b:Int):Bool:=b==85||b==74||b==90
def pL(b:Int):Bool:=decide (48<=b)&&decide (b<=57)
def Aa(i:Nat)(b:Int):Bool:=if i<3 then tO b else if i=3 then Jd b else pL b
def nA(s:ByteArray)(i:Nat):Int:=((s.data[i]?.map fun c=>(c.toNat:Int)).getD 0)
def oY(s:ByteArray)(i:Nat):Bool:=decide (i<11)&&Aa i (nA s i)
def wX(s:ByteArray):Bool:=decide (∀ i,i<s.size->oY s i=true)
def fT(b:Int):Int:=if pL b then b - 48 else if tO b then 10+(b - 65)+(b - 65+9) / 10 else 0
def CD(b:Int):Bool:=pL b||tO b
def j3(s:ByteArray):Nat->Int
 | 0=>0
 | n+1=>j3 s n+fT (nA s n)*2^n
theorem E5(h:i<s.size):nA s i=(s[i].toNat:Int):=by
 unfold nA;have:s.data[i]? = some s[i]:=qJ h;rw [this];rfl
theorem VO(s:ByteArray)(i:Nat):0<=nA s i/\nA s i<=255:=by
 unfold nA
 cases s.data[i]? with
 | none=>simp
 | some c=>have:=c.toNat_lt; simp; omega
theorem VP{b:Int}(_h0:0<=b)(h:b<=255):0<=fT b/\fT b<=38:=by
 unfold fT pL tO;split
 . rename_i hd;simp at hd;omega
 . split
   . rename_i hl;simp at hl;omega
   . omega
theorem aw7(b:Int)(w:World)(h0:0<=b)(h1:b<=255) :
 Calls Tryz.prog 259 #[.int .u8 b] w fun e w'=>e = .returned (.tuple #[.int .i64 (fT b),.bool (CD b)])/\w=w':=by
 by_cases hd:48<=b/\b<=57
 . obtain⟨d1,d2⟩:=hd;have e:fT b=b - 48:=by unfold fT pL; simp [d1,d2]
   have e2:CD b=true:=by unfold CD pL; simp [d1,d2]
   have E:=bt e;have E2:=bt e2;clear e e2
   exact Je
 . by_cases hl:65<=b/\b<=90
   . obtain⟨d1,d2⟩:=hl;have e:fT b=10+(b - 65)+(b - 65+9) / 10:=by
      exact agx
     have e2:CD b=true:=by unfold CD pL tO; simp [d1,d2]
     have E:=bt e;have E2:=bt e2;clear e e2 hd;have hd:decide (b<=57)=false:=by simp; omega
     exact Je
   . have e:fT b=0:=by
      unfold fT pL tO;rw [ax (by simp; omega),ax (by simp; omega)]
     have e2:CD b=false:=by unfold CD pL tO; simp; omega
     have E:=bt e;have E2:=bt e2;clear e e2;rcases P9 b 48 with h48|h48
     . clear hd hl
       exact Je
     . have h57:57<b:=oo
       rcases P9 b 65 with h65|h65
       . clear hd hl
         exact Je
       . have h90:90<b:=oo
         clear hd hl
         exact Je
theorem axa(b:Int)(w:World)(h0:0<=b)(h1:b<=255):Calls Tryz.prog 260 #[.int .u8 b] w fun e w'=>e = .returned (.bool (tO b))/\w=w':=by
 have HL:Hid (tO b=(decide (65<=b)&&decide (b<=90))):=rfl
 go_enter Tryz.func260,Tryz.ntmps260
 rcases P9 b 65 with h|h
 . have hd:decide (65<=b)=false:=by simp; omega
   have HD:=bt hd
   exact Jf
 . have hd:decide (65<=b)=true:=by simp; omega
   have HD:=bt hd
   exact Jf
theorem axb(b:Int)(w:World)(h0:0<=b)(h1:b<=255):Calls Tryz.prog 262 #[.int .u8 b] w fun e w'=>e = .returned (.bool (pL b))/\w=w':=by
 have HL:Hid (pL b=(decide (48<=b)&&decide (b<=57))):=rfl
 go_enter Tryz.func262,Tryz.ntmps262
 rcases P9 b 48 with h|h
 . have hd:decide (48<=b)=false:=by simp; omega
   have HD:=bt hd
   exact Jf
 . have hd:decide (48<=b)=true:=by simp; omega
   have HD:=bt hd
   exact Jf
theorem axc(b:Int)(w:World)(h0:0<=b)(h1:b<=255):Calls Tryz.prog 261 #[.int .u8 b] w fun e w'=>e = .returned (.bool (Jd b))/\w=w':=by
 have HL:Hid (Jd b=((b==85||b==74)||b==90)):=rfl
 go_enter Tryz.func261,Tryz.ntmps261
 cases ha:(b==85) with
 | true =>
  have HD:=bt ha
  exact Jf
 | false =>
  have HD:=bt ha
  cases hb:(b==74) with
  | true =>
   have HB:=bt hb
   go_wp2
   go_ret
   exact⟨by rw [HL.out,HD.out,HB.out]; rfl,rfl⟩
  | false =>
   have HB:=bt hb
   go_wp2
   go_ret
   exact⟨by rw [HL.out,HD.out,HB.out]; rfl,rfl⟩
def wY:List Value := [.func (.func 260) #[] #[],.func (.func 260) #[] #[],.func (.func 260) #[] #[],.func (.func 261) #[] #[],.func (.func 262) #[] #[],.func (.func 262) #[] #[],.func (.func 262) #[] #[],.func (.func 262) #[] #[],.func (.func 262) #[] #[],.func (.func 262) #[] #[],.func (.func 262) #[] #[]]
theorem agy:∀ u∈wY,u.oneCell'=true:=by simp [wY,Value.oneCell']
theorem axd(w:World):Calls Tryz.prog 258 #[] w fun e w'=>e = .returned (.agg wY.toArray)/\Below w.heap.size w w':=by
 go_enter Tryz.func258,Tryz.ntmps258
 go_wp2_with (refine Qg rfl _ _ rfl rfl rfl (n:=11) (cs:=wY) (by kernel_rfl) rfl rfl (AM w _) (by simp) agy ?_; intro ph w2 hl hs hg iZ)
 have zV:ph=wY.toArray:=by
  apply yP;rw [hl];rfl
 subst zV;refine bodyPost_ret (v := .agg wY.toArray) (results_cell_row rfl _ w2 w.heap.size _ _ _ _ rfl hg Tryz.underlying319 rfl (by kernel_rfl)) rfl ⟨rfl,?_⟩;exact ((dU _ _).alloc (aN _) _).grown iZ (by simp) (fun k hk=>by injection hk with hk; omega)
theorem VQ(w:World)(args:Array Value):(callFunc 260 args).run Tryz.prog w = .ok (.enter 260 args) w:=by go_simp
theorem axe(w:World)(args:Array Value):(callFunc 261 args).run Tryz.prog w = .ok (.enter 261 args) w:=by go_simp
theorem axf(w:World)(args:Array Value):(callFunc 262 args).run Tryz.prog w = .ok (.enter 262 args) w:=by go_simp
theorem axg(k:Nat)(h:k<11):∃ f,wY[k]? = some (.func (.func f) #[] #[])/\(∀ w args,(callFunc f args).run Tryz.prog w = .ok (.enter f args) w) /\
 ∀ (b:Int) (w:World),0<=b->b<=255->Calls Tryz.prog f #[.int .u8 b] w fun e w'=>e = .returned (.bool (Aa k b))/\Below w.heap.size w w':=by
 have hk:k=0\/k=1\/k=2\/k=3\/k=4\/k=5\/k=6\/k=7\/k=8\/k=9\/k=10:=oo
 have c1:∀ (b:Int) (w:World),0<=b->b<=255->Calls Tryz.prog 260 #[.int .u8 b] w fun e w'=>e = .returned (.bool (tO b))/\Below w.heap.size w w':=fun b w h0 h1=>(axa b w h0 h1).mono fun e w' ⟨he,hw⟩=>⟨he,hw▸dU _ _⟩
 have c2:∀ (b:Int) (w:World),0<=b->b<=255->Calls Tryz.prog 261 #[.int .u8 b] w fun e w'=>e = .returned (.bool (Jd b))/\Below w.heap.size w w':=fun b w h0 h1=>(axc b w h0 h1).mono fun e w' ⟨he,hw⟩=>⟨he,hw▸dU _ _⟩
 have c3:∀ (b:Int) (w:World),0<=b->b<=255->Calls Tryz.prog 262 #[.int .u8 b] w fun e w'=>e = .returned (.bool (pL b))/\Below w.heap.size w w':=fun b w h0 h1=>(axb b w h0 h1).mono fun e w' ⟨he,hw⟩=>⟨he,hw▸dU _ _⟩
 rcases hk with rfl|rfl|rfl|rfl|rfl|rfl|rfl|rfl|rfl|rfl|rfl
 . exact⟨_,rfl,VQ,c1⟩
 . exact⟨_,rfl,VQ,c1⟩
 . exact⟨_,rfl,VQ,c1⟩
 . exact⟨_,rfl,axe,c2⟩
 all_goals exact⟨_,rfl,axf,c3⟩
theorem agz{k:Nat}(h:k<s.size):oY s k=(decide (k<11)&&Aa k (s[k].toNat:Int)):=by
 unfold oY;rw [E5 h]
set_option maxHeartbeats 1000000 in
theorem agA(s:ByteArray)(w:World)(hs:s.size<=140737488351232) :
 Calls Tryz.prog 255 #[.string s] w fun e w'=>e = .returned (.bool (wX s))/\Below w.heap.size w w':=by
 have sB:(∀ i,i<s.size->oY s i=true)->wX s=true:=fun h=>by unfold wX; simp; exact h
 have yX:∀ i,i<s.size->oY s i=false->wX s=false:=fun i h h2=>by
  unfold wX;rw [ew];intro ch;rw [ch i h] at h2;cases h2
 have HFB:=bt sB;have HFN:=bt yX;clear sB yX
 go_enter Tryz.func255,Tryz.ntmps255
 go_wp2_with (first
  | (go_at_call 258; refine (axd _).mono ?_; rintro e w1 ⟨rfl,c6⟩)
  | (refine Qg rfl _ _ rfl rfl rfl (n:=11) (cs:=wY) (by kernel_rfl) rfl rfl (AM w1 _) (by simp) agy ?_; intro ph w2 hl Bu hg iZ))
 have zV:ph=wY.toArray:=by
  apply yP;rw [hl];rfl
 subst zV;have eR:Below w.heap.size w w2:=(c6.alloc c6.size _).grown iZ (by simp; have:=c6.size; omega) (fun k hk=>by injection hk with hk; have:=c6.size; omega);have LI:w1.heap.size<w2.heap.size:=(pV.1 hg).1;have dQ:∀ w',dL w2 w'->∀ i v,wY[i]? = some v->w'.cell? ⟨w1.heap.size,i,none⟩=some v:=fun w' hb i v hv=>by
  rw [Dp w' w1.heap.size i _ _ _ ((hb.block _ LI).trans hg)];simpa using hv
 have HC:=bt dQ;have Og:=bt eR;clear hl Bu hg iZ dQ eR
 go_loopw [4,8] (fun _ i wr=>∃ k:Nat,k<=s.size/\i = .int .i64 k/\(∀ j,j<k->oY s j=true)/\dL w2 wr) (fun _ i _=>s.size - (intOf i).toNat)
 case atStart=>exact⟨0,oo,rfl,oo,dU _ _⟩
 case round =>
  obtain⟨k,hk,rfl,hj,hb⟩:=hrel;have HJ:=bt hj;clear hj;by_cases af:k<s.size
  . have aR:=agz af;have CE:=bt aR;clear aR;by_cases kn:k<11
    . have hd:decide ((11:Int)<=(k:Int))=false:=by simp; omega
      obtain⟨f,hmf,yY,uV⟩:=axg k kn;have hle:oY s k=Aa k (s[k].toNat:Int):=by rw [CE.out]; simp [kn]
      have CF:=bt hle;have Oh:=bt (fun w' hb=>HC.out w' hb k _ hmf);have axi:=bt uV;have uX:(s[k].toNat:Int)<=255:=by have:=s[k].toNat_lt; omega
      clear hle hmf uV
      go_wp2
      refine KB (by kernel_rfl) (by kernel_rfl) wr.heap.size ?_
      repeat (first|go_big_quiet_skip|(go_big_quiet_want; refine Qh _ _ rfl _ rfl _ (fun w' hC=>Ds Tryz.underlying289 rfl (Oh.out w' (hb.trans (hC.mono hb.size)))) ?_; simp only [Act.put,amN,FX,AJ]; go_big_quiet_on)|go_big_quiet_step (first|(intro hC; rfl)|(intro hC; exact⟨rfl,rfl⟩)|(intro hC; refine (axi.out _ _ oo uX).mono ?_; rintro e w' ⟨rfl,pn⟩; exact⟨rfl,hC.trans (pn.mono hC.size)⟩)))
      refine wpQuiet_nil ?_;intro w' hC
      cases hm:Aa k (s[k].toNat:Int) with
      | true =>
       have vk:oY s k=true:=by rw [CF.out,hm]
       have Oi:=bt vk;clear vk
       go_wp2
       go_roundw
       case rel =>
        refine⟨k+1,oo,by go_num,fun j h => ?_,hb.trans (hC.mono hb.size)⟩;rcases cv j k with h3|h3
        . exact HJ.out j h3
        . obtain rfl:j=k:=oo
          exact Oi.out
       case measure=>simp [intOf]; omega
      | false =>
       have vk:oY s k=false:=by rw [CF.out,hm]
       have agD:=bt (HFN.out k af vk);clear vk
       exact agE
    . have j4:oY s k=false:=by rw [CE.out]; simp [kn]
      have agD:=bt (HFN.out k af j4);clear j4;have hd:decide ((11:Int)<=(k:Int))=true:=by simp; omega
      go_wp2
      refine KB (by kernel_rfl) (by kernel_rfl) wr.heap.size ?_
      repeat (first|go_big_quiet_skip|go_big_quiet_step (first|(intro hC; rfl)|(intro hC; exact⟨rfl,rfl⟩)))
      refine wpQuiet_nil ?_;intro w' hC
      exact agE
  . obtain rfl:k=s.size:=oo
    have HF:=bt (HFB.out HJ.out)
    go_wp2
    go_ret
    exact⟨by rw [HF.out]; rfl,Og.out.trans (hb.mono Og.out.size)⟩
theorem Jg(s:ByteArray):∀ n,0<=j3 s n/\j3 s n<=38*(2^n - 1)
 | 0=>by simp [j3]
 | n+1=>by
  have ih:=Jg s n;have hb:=VO s n;have hv:=VP hb.1 hb.2;have hp:(0:Int)<2^n:=Int.pow_pos oo;have h1:fT (nA s n)*2^n<=38*2^n:=aDV hv.2 oo;have h0:0<=fT (nA s n)*2^n:=P3 hv.1 oo;have e:(2:Int)^(n+1)=2*2^n:=by rw [Int.pow_succ]; omega
  unfold j3;rw [e];omega
def Oj(s:ByteArray):Int:=48+j3 s s.size % 11 % 10
theorem Ok{k:Nat}(h:k<10):(1:Int)<=2^k/\(2:Int)^k<=512:=by
 have hk:k=0\/k=1\/k=2\/k=3\/k=4\/k=5\/k=6\/k=7\/k=8\/k=9:=oo
 rcases hk with rfl|rfl|rfl|rfl|rfl|rfl|rfl|rfl|rfl|rfl<;>decide
theorem agF{k:Nat}(h:k<s.size)(hk:k<10):wrap64 (j3 s k+wrap64 (fT (s[k].toNat:Int)*2^k))=j3 s (k+1):=by
 have hb:=VO s k;have hv:=VP hb.1 hb.2;obtain⟨p1,p2⟩:=Ok hk;have hs:=Jg s k;have h1:fT (nA s k)*2^k<=38*2^k:=aDV hv.2 oo;have h0:0<=fT (nA s k)*2^k:=P3 hv.1 oo;rw [<- E5 h];rw [IntWalk.wrap64_in (fT (nA s k)*2^k) ⟨oo,oo⟩,IntWalk.wrap64_in _ ⟨oo,oo⟩];rfl
set_option maxHeartbeats 1000000 in
theorem axj(s:ByteArray)(w:World)(hs:s.size<=10) :
 Calls Tryz.prog 256 #[.string s] w fun e w'=>e = .returned (.int .u8 (Oj s))/\w=w':=by
 go_enter Tryz.func256,Tryz.ntmps256
 go_wp2
 go_loop [3,9] (fun u i=>∃ k:Nat,k<=s.size/\i = .int .i64 k/\u = .int .i64 (j3 s k)) (fun _ i=>s.size - (intOf i).toNat)
 case atStart=>exact⟨0,oo,rfl,rfl⟩
 case round =>
  obtain⟨k,hk,rfl,rfl⟩:=hrel;have CG:=Jg s k;obtain⟨sb1,sb2⟩:=CG;by_cases af:k<s.size
  . have uX:(s[k].toNat:Int)<=255:=by have:=s[k].toNat_lt; omega
    have hv:=VP (b:=(s[k].toNat:Int)) oo uX;obtain⟨v1,v2⟩:=hv
    go_wp2_with (go_at_call 259; refine (aw7 _ _ oo uX).mono ?_; rintro e w' ⟨rfl,rfl⟩)
    go_round
    case rel=>exact⟨k+1,oo,by go_num,by rw [agF af oo]⟩
    case measure=>simp [intOf]; omega
  . obtain rfl:k=s.size:=oo
    go_wp2
    go_ret
    exact⟨rfl,rfl⟩
theorem axm(x y:Int):(!(x != y))=decide (x=y):=by by_cases h:x=y<;>simp [h]
def mg(s:ByteArray):Bool:=decide (s.size=11)&&wX s&&decide (48+j3 s 10 % 11 % 10=nA s 10)
theorem axn(s:ByteArray)(i:Nat)(h:i<10)(hs:10<=s.size):nA (s.extract 0 10) i=nA s i:=by
 have h1:i<(s.extract 0 10).size:=by simp; omega
 rw [E5 h1,E5 oo];simp [ByteArray.getElem_extract]
theorem agG(s:ByteArray)(hs:10<=s.size):∀ n,n<=10->j3 (s.extract 0 10) n=j3 s n
 | 0,_=>rfl
 | n+1,h=>by
  unfold j3;rw [agG s hs n oo,axn s n oo hs]
set_option maxHeartbeats 1000000 in
theorem axo(s:ByteArray)(w:World)(hs:s.size<=140737488351232) :
 Calls Tryz.prog 250 #[.string s] w fun e w'=>∃ n,e = .returned (.int .i64 n)/\(n==0)=mg s/\Below w.heap.size w w':=by
 by_cases kn:s.size=11
 . have bg:((s.size:Int) != 11)=false:=by simp [kn]
   have hle:s.size<=11:=oo
   have cR:10<s.size:=oo
   have Ol:=bt kn;clear kn
   cases hf:wX s with
   | true =>
    have hx:(s.extract 0 10).size<=10:=by simp; omega
    have sD:∀ n:Int,(n==0) = !(Oj (s.extract 0 10) != (s[10].toNat:Int))->(n==0)=mg s:=by
     intro n hn;rw [hn];unfold mg Oj;have e1:(s.extract 0 10).size=10:=by simp; omega
     rw [e1,agG s oo 10 oo,E5 (s:=s) (i:=10) oo,hf,cT Ol.out];rw [axm];simp
    have HR:=bt sD;clear sD;have hix:∀ w,(Instr.index 9 (.string s) (.int .i64 10)).run Tryz.prog w = .ok (.int .u8 (s[10].toNat:Int)) w:=fun w=>by
     simp [Instr.index,asIntOf,qM Tryz.underlying9,cR]
    go_enter Tryz.func250,Tryz.ntmps250
    go_wp2_with (go_at_call 255; refine (agA s _ hs).mono ?_; rintro e w1 ⟨rfl,c6⟩)
    refine KB (by kernel_rfl) (by kernel_rfl) w1.heap.size ?_
    repeat (first|go_big_quiet_skip|go_big_quiet_step (first|(intro hC; rfl)|(intro hC; exact⟨rfl,rfl⟩)|(intro hC; refine (axj _ _ hx).mono ?_; rintro e w' ⟨rfl,rfl⟩; exact⟨rfl,hC⟩)))
    refine wpQuiet_nil ?_;intro w' hC
    cases hq:(Oj (s.extract 0 10) != (s[10].toNat:Int)) with
    | true =>
     have HQ:=bt hq
     go_wp2
     go_ret
     exact⟨31,rfl,HR.out 31 (by rw [HQ.out]; rfl),c6.trans (hC.mono c6.size)⟩
    | false =>
     have HQ:=bt hq
     go_wp2
     go_ret
     exact⟨0,rfl,HR.out 0 (by rw [HQ.out]; rfl),c6.trans (hC.mono c6.size)⟩
   | false =>
    have HI:Hid (mg s=false):=by unfold Hid mg; rw [hf]; simp
    go_enter Tryz.func250,Tryz.ntmps250
    go_wp2_with (go_at_call 255; refine (agA s _ hs).mono ?_; rintro e w1 ⟨rfl,c6⟩)
    go_ret
    exact⟨30,rfl,by rw [HI.out]; rfl,c6⟩
 . have bg:((s.size:Int) != 11)=true:=by simp; omega
   have HI:Hid (mg s=false):=by unfold Hid mg; simp [kn]
   go_enter Tryz.func250,Tryz.ntmps250
   go_wp2
   go_ret
   exact⟨30,rfl,by rw [HI.out]; rfl,dU _ _⟩
theorem axq(s:ByteArray)(w:World)(hs:s.size<=140737488351232) :
 Calls Tryz.prog 224 #[.string s] w fun e w'=>e = .returned (.bool (mg s))/\Below w.heap.size w w':=by
 go_enter Tryz.func224,Tryz.ntmps224
 go_wp2_with (go_at_call 250; refine (axo s _ hs).mono ?_; rintro e w' ⟨n,rfl,hn,hb⟩; have HN:=bt hn; clear hn)
 go_ret
 exact⟨by rw [<- HN.out]; rfl,hb⟩
def ym(s:Int):Int:=if s=20 then 32000 else if s=40 then 40000 else 0
def wZ(n lo hi:Int):Bool:=decide (lo<=n)&&decide (n<=hi)
def vm:ByteArray:=⟨#[]⟩
theorem axr:vm.toList = []:=by unfold vm; go_simp
def iz(b:aL):Nat->Bool
 | 0=>wZ b.id 1 999999
 | 1=>decide (b.num=vm)||mg b.num
 | 2 => !b.high||decide (b.size=40)
 | 3=>wZ b.aI 1 (ym b.size)
 | 4=>decide (0<=b.load)&&decide (b.load<b.jT)&&decide (b.jT<20)
 | _=>decide (b.cls<=9)
def kz(b:aL):Bool:=iz b 0&&iz b 1&&iz b 2&&iz b 3&&iz b 4&&iz b 5
theorem agH(n lo hi:Int)(w:World):Calls Tryz.prog 222 #[.int .i64 n,.int .i64 lo,.int .i64 hi] w fun e w'=>e = .returned (.bool (wZ n lo hi))/\Below w.heap.size w w':=by
 by_cases h1:lo<=n
 . go_enter Tryz.func222,Tryz.ntmps222
   have HW:Hid (wZ n lo hi=decide (n<=hi)):=by unfold Hid wZ; simp [h1]
   go_wp2
   go_ret
   exact⟨by rw [HW.out]; rfl,dU _ _⟩
 . go_enter Tryz.func222,Tryz.ntmps222
   have HW:Hid (wZ n lo hi=false):=by unfold Hid wZ; simp [h1]
   go_wp2
   go_ret
   exact⟨by rw [HW.out]; rfl,dU _ _⟩
theorem axs(s:Int)(w:World):Calls Tryz.prog 227 #[.int .u8 s] w fun e w'=>e = .returned (.int .i64 (ym s))/\Below w.heap.size w w':=by
 by_cases h1:s=20
 . subst h1
   exact agI
 . by_cases h2:s=40
   . subst h2
     exact agI
   . have HK:Hid (ym s=0):=by unfold Hid ym; simp [h1,h2]
     have b1:(s==20)=false:=by simp [h1]
     have b2:(s==40)=false:=by simp [h2]
     go_enter Tryz.func227,Tryz.ntmps227
     go_wp2
     go_ret
     exact⟨by rw [HK.out]; rfl,dU _ _⟩
section
variable{b:aL}{g:Nat}{w:World}
theorem axt(hc:∀ j u,b.cells[j]? = some u->w.cell? ⟨g,j,none⟩=some u):Calls Tryz.prog 221 #[.pointer (some ⟨g,0,none⟩)] w fun e w'=>e = .returned (.bool (iz b 0))/\Below w.heap.size w w':=by
 have c0:w.cell? ⟨g,0,none⟩=some (.int .i64 b.id):=hc 0 _ rfl;clear hc
 go_enter Tryz.func221,Tryz.ntmps221
 go_wp2_with (go_at_call 222; refine (agH _ _ _ _).mono ?_; rintro e w1 ⟨rfl,c6⟩)
 go_ret
 exact⟨rfl,c6⟩
theorem axu(hc:∀ j u,b.cells[j]? = some u->w.cell? ⟨g,j,none⟩=some u)(hn:b.num.size<=140737488351232):Calls Tryz.prog 223 #[.pointer (some ⟨g,0,none⟩)] w fun e w'=>e = .returned (.bool (iz b 1))/\Below w.heap.size w w':=by
 have c0:w.cell? ⟨g,1,none⟩=some (.string b.num):=hc 1 _ rfl;have HR:Hid (iz b 1=(decide (b.num=vm)||mg b.num)):=rfl;clear hc;by_cases hz:b.num=vm
 . have zv:b.num=⟨#[]⟩:=hz;rw [zv] at c0;have HZ:=bt hz;clear hz zv hn
   go_enter Tryz.func223,Tryz.ntmps223
   go_wp2
   go_ret
   exact⟨by rw [HR.out,HZ.out]; rfl,dU _ _⟩
 . have hz3:¬ b.num.toList = []:=fun h=>hz (toList_eq.mp (h.trans axr.symm));have Su:b.num.toList.isEmpty=false:=by simpa using hz3
   have HE:Hid (iz b 1=mg b.num):=by unfold Hid; rw [HR.out]; simp [hz]
   clear hz
   go_enter Tryz.func223,Tryz.ntmps223
   go_wp2_with (go_at_call 224; refine (axq _ _ hn).mono ?_; rintro e w1 ⟨rfl,c6⟩)
   go_ret
   exact⟨by rw [HE.out]; rfl,c6⟩
theorem axw(hc:∀ j u,b.cells[j]? = some u->w.cell? ⟨g,j,none⟩=some u):Calls Tryz.prog 225 #[.pointer (some ⟨g,0,none⟩)] w fun e w'=>e = .returned (.bool (iz b 2))/\Below w.heap.size w w':=by
 have c0:w.cell? ⟨g,2,none⟩=some (.int .u8 b.size):=hc 2 _ rfl;have c1:w.cell? ⟨g,3,none⟩=some (.bool b.high):=hc 3 _ rfl;have HR:Hid (iz b 2=(!b.high||decide (b.size=40))):=rfl;clear hc
 cases hh:b.high with
 | true =>
  rw [hh] at c1;have HE:Hid (iz b 2=(b.size==40)):=by unfold Hid; rw [HR.out,hh]; simp; by_cases h:b.size=40<;>simp [h]
  clear hh
  go_enter Tryz.func225,Tryz.ntmps225
  exact VR
 | false =>
  rw [hh] at c1;have HE:Hid (iz b 2=true):=by unfold Hid; rw [HR.out,hh]; simp
  clear hh
  go_enter Tryz.func225,Tryz.ntmps225
  exact VR
theorem axx(hc:∀ j u,b.cells[j]? = some u->w.cell? ⟨g,j,none⟩=some u):Calls Tryz.prog 226 #[.pointer (some ⟨g,0,none⟩)] w fun e w'=>e = .returned (.bool (iz b 3))/\Below w.heap.size w w':=by
 have c0:w.cell? ⟨g,2,none⟩=some (.int .u8 b.size):=hc 2 _ rfl;have c1:w.cell? ⟨g,4,none⟩=some (.int .i64 b.aI):=hc 4 _ rfl;have af:g<w.heap.size:=block_lt_of_cell c0;clear hc;have HC1:Hid (∀ w',dL w w'->(loadVar 3 ⟨g,4,none⟩).run Tryz.prog w' = .ok (.int .i64 b.aI) w'):=fun w' hb=>Ds Tryz.underlying3 rfl ((hb.cell (p:=⟨g,_,none⟩) Dt).trans c1);have HC2:Hid (∀ w',dL w w'->(loadVar 5 ⟨g,2,none⟩).run Tryz.prog w' = .ok (.int .u8 b.size) w'):=fun w' hb=>Ds Tryz.underlying5 rfl ((hb.cell (p:=⟨g,_,none⟩) (by simpa using af)).trans c0);clear c0 c1
 go_enter Tryz.func226,Tryz.ntmps226
 go_wp2
 refine KB (by kernel_rfl) (by kernel_rfl) w.heap.size ?_
 repeat (first|go_big_quiet_skip|(go_big_quiet_want; refine Qh 3 _ rfl _ rfl _ (fun w' hC=>HC1.out w' hC) ?_; simp only [Act.put,amN,FX,AJ]; go_big_quiet_on)|(go_big_quiet_want; refine Qh 5 _ rfl _ rfl _ (fun w' hC=>HC2.out w' hC) ?_; simp only [Act.put,amN,FX,AJ]; go_big_quiet_on)|go_big_quiet_step (first|(intro hC; rfl)|(intro hC; exact⟨rfl,rfl⟩)|(intro hC; (with_reducible refine (axs _ _).mono ?_); rintro e w1 ⟨rfl,c6⟩; exact⟨rfl,hC.trans (c6.mono hC.size)⟩)|(intro hC; (with_reducible refine (agH _ _ _ _).mono ?_); rintro e w1 ⟨rfl,c6⟩; exact⟨rfl,hC.trans (c6.mono hC.size)⟩)))
 refine wpQuiet_nil ?_;intro w' hC
 go_wp2
 go_ret
 exact⟨rfl,hC⟩
theorem axA(hc:∀ j u,b.cells[j]? = some u->w.cell? ⟨g,j,none⟩=some u):Calls Tryz.prog 228 #[.pointer (some ⟨g,0,none⟩)] w fun e w'=>e = .returned (.bool (iz b 4))/\Below w.heap.size w w':=by
 have c0:w.cell? ⟨g,5,none⟩=some (.int .i64 b.load):=hc 5 _ rfl;have c1:w.cell? ⟨g,6,none⟩=some (.int .i64 b.jT):=hc 6 _ rfl;have HR:Hid (iz b 4=(decide (0<=b.load)&&decide (b.load<b.jT)&&decide (b.jT<20))):=rfl;clear hc;by_cases h1:0<=b.load
 . by_cases h2:b.load<b.jT
   . have HE:Hid (iz b 4=decide (b.jT<20)):=by unfold Hid; rw [HR.out]; simp [h1,h2]
     exact VS
   . have HE:Hid (iz b 4=false):=by unfold Hid; rw [HR.out]; simp [h2]
     exact VS
 . have HE:Hid (iz b 4=false):=by unfold Hid; rw [HR.out]; simp [h1]
   exact VS
theorem axB(hc:∀ j u,b.cells[j]? = some u->w.cell? ⟨g,j,none⟩=some u):Calls Tryz.prog 229 #[.pointer (some ⟨g,0,none⟩)] w fun e w'=>e = .returned (.bool (iz b 5))/\Below w.heap.size w w':=by
 have c0:w.cell? ⟨g,7,none⟩=some (.int .u8 b.cls):=hc 7 _ rfl;clear hc
 go_enter Tryz.func229,Tryz.ntmps229
 go_wp2
 go_ret
 exact⟨rfl,dU _ _⟩
theorem axC{fn:FuncId}{dV:Array Value}{p:Bool}(yY:∀ w args,(callFunc fn args).run Tryz.prog w = .ok (.enter fn args) w)(uV:Calls Tryz.prog fn dV w fun e w'=>e = .returned (.bool p)/\Below w.heap.size w w') :
 Calls Tryz.prog 231 #[.func (.func fn) #[] dV] w fun e w'=>e = .returned (.bool (!p))/\Below w.heap.size w w':=by
 have HC:=bt uV;clear uV
 go_enter Tryz.func231,Tryz.ntmps231
 go_wp2_with (first|(refine (HC.out).mono ?_; rintro e w1 ⟨rfl,c6⟩))
 go_ret
 exact⟨rfl,c6⟩
end
def Jh:Nat->FuncId
 | 0=>221
 | 1=>223
 | 2=>225
 | 3=>226
 | 4=>228
 | _=>229
def Om(g k:Nat):Value := .func (.func (Jh k)) #[] #[.pointer (some ⟨g,0,none⟩)]
theorem axD(k:Nat)(w:World)(args:Array Value):(callFunc (Jh k) args).run Tryz.prog w = .ok (.enter (Jh k) args) w:=by
 unfold Jh;split<;>go_simp
theorem axE(k:Nat)(hk:k<6)(hc:∀ j u,b.cells[j]? = some u->w.cell? ⟨g,j,none⟩=some u)(hn:b.num.size<=140737488351232) :
 Calls Tryz.prog (Jh k) #[.pointer (some ⟨g,0,none⟩)] w fun e w'=>e = .returned (.bool (iz b k))/\Below w.heap.size w w':=by
 have:k=0\/k=1\/k=2\/k=3\/k=4\/k=5:=oo
 rcases this with rfl|rfl|rfl|rfl|rfl|rfl
 . exact axt hc
 . exact axu hc hn
 . exact axw hc
 . exact axx hc
 . exact axA hc
 . exact axB hc
theorem axF(h:∀ k,k<6->iz b k=true):kz b=true:=by
 unfold kz;rw [h 0 oo,h 1 oo,h 2 oo,h 3 oo,h 4 oo,h 5 oo];rfl
theorem axG{k:Nat}(hk:k<6)(h:iz b k=false):kz b=false:=by
 have:k=0\/k=1\/k=2\/k=3\/k=4\/k=5:=oo
 unfold kz;rcases this with rfl|rfl|rfl|rfl|rfl|rfl<;>rw [h]<;>simp
theorem axH(w:World)(args:Array Value):(callFunc 231 args).run Tryz.prog w = .ok (.enter 231 args) w:=by
 go_simp
theorem axI(b:aL)(g h c:Nat)(w:World)(hn:b.num.size<=140737488351232)(hb:∀ w',dL w w'->∀ j u,b.cells[j]? = some u->w'.cell? ⟨g,j,none⟩=some u)(hr:∀ w',dL w w'->∀ k,k<6->w'.cell? ⟨h,k,none⟩=some (Om g k)) :
 Calls Tryz.prog 251 #[.slice (some ⟨h,0,none⟩) 6 c,.func (.func 231) #[] #[]] w fun e w'=>(∃ i:Int,e = .returned (.int .i64 i)/\decide (i≥0) = !kz b)/\Below w.heap.size w w':=by
 have HB:=bt hb;have HR:=bt hr;have yY:=axH;clear hb hr
 go_enter Tryz.func251,Tryz.ntmps251
 go_wp2
 go_loopw [5,8] (fun _ i wr=>∃ k:Nat,k<=6/\i = .int .i64 k/\(∀ j,(h:j<k)->iz b j=true)/\dL w wr) (fun _ i _=>6 - (intOf i).toNat)
 case atStart=>exact⟨0,oo,rfl,oo,dU _ _⟩
 case round =>
  obtain⟨k,hk,rfl,hj,hw⟩:=hrel;have HJ:=bt hj;clear hj;by_cases af:k<6
  . have HL:Hid ((loadVar 37 ⟨h,k,none⟩).run Tryz.prog wr = .ok (Om g k) wr):=Ds Tryz.underlying37 rfl (HR.out wr hw k af);have HC:=bt (axC (axD k) (axE k af (HB.out wr hw) hn))
    go_wp2_with (first
     | (refine si rfl 37 _ rfl _ rfl _ HL.out ?_)
     | (go_at_call 231; refine (HC.out).mono ?_; rintro e w' ⟨rfl,pn⟩))
    . have hf:iz b k=false:=by
       have h9:(!iz b k)=true:=by assumption
       simpa using h9
      have HD:=bt (axG af hf)
      go_ret
      exact⟨⟨_,rfl,by rw [HD.out]; simp⟩,hw.trans (pn.mono hw.size)⟩
    . have ht:iz b k=true:=by
       have h9:(!iz b k)=false:=by assumption
       simpa using h9
      go_roundw
      case rel =>
       refine⟨k+1,oo,by go_num,fun j h => ?_,hw.trans (pn.mono hw.size)⟩;rcases cv j k with h3|h3
       . exact HJ.out j h3
       . obtain rfl:j=k:=oo
         exact ht
      case measure=>simp [intOf]; omega
  . obtain rfl:k=6:=oo
    have HI:=bt (axF HJ.out)
    go_wp2
    go_ret
    exact⟨⟨_,rfl,by rw [HI.out]; rfl⟩,hw⟩
theorem axJ(b:aL)(g h c:Nat)(w:World)(hn:b.num.size<=140737488351232)(hb:∀ w',dL w w'->∀ j u,b.cells[j]? = some u->w'.cell? ⟨g,j,none⟩=some u)(hr:∀ w',dL w w'->∀ k,k<6->w'.cell? ⟨h,k,none⟩=some (Om g k)) :
 Calls Tryz.prog 230 #[.slice (some ⟨h,0,none⟩) 6 c,.func (.func 231) #[] #[]] w fun e w'=>e = .returned (.bool (!kz b))/\Below w.heap.size w w':=by
 have HC:=bt (axI b g h c w hn hb hr);clear hb hr
 go_enter Tryz.func230,Tryz.ntmps230
 go_wp2_with (go_at_call 251; refine (HC.out).mono ?_; rintro e w1 ⟨⟨i,rfl,hi⟩,c6⟩; have HI:=bt hi; clear hi)
 go_ret
 exact⟨by rw [<- HI.out]; rfl,c6⟩
abbrev E6(b:aL)(w:World):World:=(w.alloc (Obj.cells #[.int .i64 b.id,.string b.num,.int .u8 b.size,.bool b.high,.int .i64 b.aI,.int .i64 b.load,.int .i64 b.jT,.int .u8 b.cls,.bool b.xB] 141)).alloc (Obj.cells #[.func (.func 221) #[] #[.pointer (some ⟨w.heap.size,0,none⟩)],.func (.func 223) #[] #[.pointer (some ⟨w.heap.size,0,none⟩)],.func (.func 225) #[] #[.pointer (some ⟨w.heap.size,0,none⟩)],.func (.func 226) #[] #[.pointer (some ⟨w.heap.size,0,none⟩)],.func (.func 228) #[] #[.pointer (some ⟨w.heap.size,0,none⟩)],.func (.func 229) #[] #[.pointer (some ⟨w.heap.size,0,none⟩)]] 37)
set_option maxHeartbeats 1000000 in
theorem axK(b:aL)(w:World)(hn:b.num.size<=140737488351232) :
 Calls Tryz.prog 181 #[b.val] w fun e w'=>e = .returned (.bool (kz b))/\Below w.heap.size w w':=by
 have HB:Hid (Below w.heap.size w (E6 b w)/\∀ w',dL (E6 b w) w'->(∀ j u,b.cells[j]? = some u->w'.cell? ⟨w.heap.size,j,none⟩=some u)/\∀ k,k<6->w'.cell? ⟨w.heap.size+1,k,none⟩=some (Om w.heap.size k)):=by
  refine⟨((dU _ _).alloc (aN _) _).alloc (by simp) _,fun w' hb => ?_⟩;have hs:(E6 b w).heap.size=w.heap.size+2:=anv _ _ _;have k0:(E6 b w).heap[w.heap.size]? = some (.cells #[.int .i64 b.id,.string b.num,.int .u8 b.size,.bool b.high,.int .i64 b.aI,.int .i64 b.load,.int .i64 b.jT,.int .u8 b.cls,.bool b.xB] 141 (0,0)):=heap_alloc2_old w _ _;have k1:(E6 b w).heap[w.heap.size+1]? = some (.cells #[.func (.func 221) #[] #[.pointer (some ⟨w.heap.size,0,none⟩)],.func (.func 223) #[] #[.pointer (some ⟨w.heap.size,0,none⟩)],.func (.func 225) #[] #[.pointer (some ⟨w.heap.size,0,none⟩)],.func (.func 226) #[] #[.pointer (some ⟨w.heap.size,0,none⟩)],.func (.func 228) #[] #[.pointer (some ⟨w.heap.size,0,none⟩)],.func (.func 229) #[] #[.pointer (some ⟨w.heap.size,0,none⟩)]] 37 (0,0)):=heap_alloc2_new w _ _;refine⟨fun j u hu => ?_,fun k hk => ?_⟩
  . rw [Dp w' w.heap.size j _ _ _ ((hb.block _ oo).trans k0)];simpa [aL.cells] using hu
  . rw [Dp w' (w.heap.size+1) k _ _ _ ((hb.block _ oo).trans k1)];have:k=0\/k=1\/k=2\/k=3\/k=4\/k=5:=oo
    rcases this with rfl|rfl|rfl|rfl|rfl|rfl<;>rfl
 have HC:=bt (axJ b w.heap.size (w.heap.size+1) 6 (E6 b w) hn (fun w' h=>(HB.out.2 w' h).1) (fun w' h=>(HB.out.2 w' h).2))
 go_enter Tryz.func181,Tryz.ntmps181
 go_wp2_with (go_at_call 230; refine (HC.out).mono ?_; rintro e w1 ⟨rfl,c6⟩)
 go_ret
 exact⟨by simp,HB.out.1.trans (c6.mono HB.out.1.size)⟩
def Ji:aL:=⟨0,vm,0,false,0,0,0,0,false⟩
def nB(id:Int)(b:aL):Bool:=decide (b.id=id)
def bI(l:List aL)(id:Int):aL×Bool:=match l.find? (nB id) with|some b=>(b,true)|none=>(Ji,false)
def fw(b:aL):Int:=if b.high then 2896 else 2591
def hH(bs:List aL)(ar half:Int)(x:aA):Int:=if x.ar=ar/\(x.half=half\/x.half=0) then (if (bI bs x.box).2 then fw (bI bs x.box).1 else 0) else 0
def eI(bs:List aL)(l:List aA)(ar half:Int):Int:=(l.map (hH bs ar half)).sum
theorem tP(b:aL):0<=fw b/\fw b<=2896:=by unfold fw; split<;>omega
theorem On(bs:List aL)(ar half:Int)(x:aA):0<=hH bs ar half x/\hH bs ar half x<=2896:=by
 unfold hH;split
 . split
   . exact tP _
   . omega
 . omega
theorem Oo(f:aA->Int)(h:∀ x,0<=f x/\f x<=2896)(l:List aA):0<=(l.map f).sum/\(l.map f).sum<=2896*(l.length:Int):=by
 induction l with
 | nil=>simp
 | cons x l ih =>
  have:=h x;simp only [jj,xx,dE];omega
def ej(x:aA):Slot:=⟨x.ar,x.aK,x.half⟩
end Go.Proofs.YtamjbkaclhgffaaGreat
