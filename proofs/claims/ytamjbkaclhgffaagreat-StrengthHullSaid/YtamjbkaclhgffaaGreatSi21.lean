/-
  frac by the abstract run: Of, Ratio, slices.Equal, turned.
-/
import Derived.Test.YtamjbkaclhgffaaGreatSi20
set_option linter.all false
set_option maxRecDepth 100000
set_option maxHeartbeats 4000000
namespace Go.Proofs.YtamjbkaclhgffaaGreat
open Go.RowKit
variable{B T g:Nat}{w:World}
def G8:aN:=fY 11 kI (fun a=>bq (a ())) (fun a => .agg (r9 fun _=>cS (a ())))
theorem Mg:aU Tryz.prog G8:=by
 refine fH { kp := [(0,[0]),(1,[0,2]),(2,[2,3])] } [TJ,L3,DE] ⟨ado,Tb,G7,trivial⟩ [] trivial Tryz.func11 (by kernel_rfl) fun ai res h hp => ?_;obtain⟨(a:Int),rfl,rfl⟩:=gM h;clear h;refine⟨[],?_⟩;refine fm ?_;have h0 : -9223372036854775808<=a:=hp.1;have h1:a<=9223372036854775807:=hp.2;have hn:a.natAbs<c7:=by unfold c7; omega
 have hl:=gn hn;have pS:aM 1<=1:=uw bT (by decide);simp only [ik,dZ,show Int.toNat 1=1 from rfl];refine⟨hp,⟨by decide,by decide⟩,⟨⟨dA oo,oo⟩,⟨dA oo,oo⟩,by decide⟩,arI ?_⟩;rw [ajX _ _ hn];unfold cS;show (⟨decide (a<0)&&decide (a.natAbs≠0),a.natAbs,1⟩:aY)=_
 by_cases h:a<0
 . rw [dP h,dP (show a.natAbs≠0 from oo)]; rfl
 . rw [jW h]; rfl
def TK:aN:=c6 47 kI kI (fun a b=>bq (a ())/\bq (b ())) (fun a b => .ba [.agg (r9 fun _=>(mU (a ()) (b ())).1),.int .i64 fun _=>(mU (a ()) (b ())).2])
theorem adu:aU Tryz.prog TK:=by
 refine fH { kp := [(0,[0,1]),(1,[0,1,4]),(2,[4]),(3,[0,1,4])],lt := [] } [TJ,DE] ⟨ado,G7,trivial⟩ [] trivial Tryz.func47 (by kernel_rfl) fun ai res h hp => ?_;obtain⟨(a:Int),(b:Int),rfl,rfl⟩:=dh h;clear h;refine⟨[],?_⟩;refine fm ?_;have h0 : -9223372036854775808<=a/\a<=9223372036854775807:=hp.1;have h1 : -9223372036854775808<=b/\b<=9223372036854775807:=hp.2;have ha:=gn (x:=a.natAbs) (by unfold c7; omega);have hb:=gn (x:=b.natAbs) (by unfold c7; omega);simp only [ik,dZ];refine⟨fun h=>tK (by unfold mU; rw [aC h]),fun h=>⟨hp.1,hp.2,⟨⟨dA oo,oo⟩,⟨dA oo,oo⟩,oo⟩,tJ ?_⟩⟩;unfold mU;rw [aw h]
def adv:aN:=fY 128 nk (fun f=>iM (f ())) (fun f => .agg (r9 fun _=>jY (bj (f ()))))
theorem arJ:aU Tryz.prog adv:=by
 refine fH { kp := [(0,[0]),(1,[1,2]),(2,[1,2])] } [] trivial [] trivial Tryz.func128 (by kernel_rfl) fun ai res h hp => ?_;obtain⟨(f:bB),rfl,rfl⟩:=gM h;clear h;refine⟨[],?_⟩;refine fm ?_;obtain⟨_,hf,hv⟩:=nm hp;have adw:(jY (bj f)).neg=(!f.neg&&decide ((bj f).num≠0)):=rfl;have h0:=congrArg bB.n0 hv;have h1:=congrArg bB.n1 hv;have h2:=congrArg bB.n2 hv;have h3:=congrArg bB.n3 hv;have h4:=congrArg bB.n4 hv;have h5:=congrArg bB.n5 hv;have h6:=congrArg bB.n6 hv;have h7:=congrArg bB.n7 hv;have hk:([Kx.i IntKind.u32 f.n0,Kx.i IntKind.u32 f.n1,Kx.i IntKind.u32 f.n2,Kx.i IntKind.u32 f.n3,Kx.i IntKind.u32 f.n4,Kx.i IntKind.u32 f.n5,Kx.i IntKind.u32 f.n6,Kx.i IntKind.u32 f.n7] = [Kx.i IntKind.u32 0,Kx.i IntKind.u32 0,Kx.i IntKind.u32 0,Kx.i IntKind.u32 0,Kx.i IntKind.u32 0,Kx.i IntKind.u32 0,Kx.i IntKind.u32 0,Kx.i IntKind.u32 0])↔(bj f).num=0:=by
  rw [adr hp];constructor
  . intro h;exact L0 hf.1 (by decide) (h.trans rfl)
  . intro h;rw [h];rfl
 have aF:f.n0=ay (jY (bj f)).num 0/\f.n1=ay (jY (bj f)).num 1/\f.n2=ay (jY (bj f)).num 2/\f.n3=ay (jY (bj f)).num 3/\f.n4=ay (jY (bj f)).num 4/\f.n5=ay (jY (bj f)).num 5/\f.n6=ay (jY (bj f)).num 6/\f.n7=ay (jY (bj f)).num 7/\f.d0=ay (jY (bj f)).den 0/\f.d1=ay (jY (bj f)).den 1/\f.d2=ay (jY (bj f)).den 2/\f.d3=ay (jY (bj f)).den 3/\f.d4=ay (jY (bj f)).den 4/\f.d5=ay (jY (bj f)).den 5/\f.d6=ay (jY (bj f)).den 6/\f.d7=ay (jY (bj f)).den 7:=⟨(congrArg bB.n0 hv).symm,(congrArg bB.n1 hv).symm,(congrArg bB.n2 hv).symm,(congrArg bB.n3 hv).symm,(congrArg bB.n4 hv).symm,(congrArg bB.n5 hv).symm,(congrArg bB.n6 hv).symm,(congrArg bB.n7 hv).symm,(congrArg bB.d0 hv).symm,(congrArg bB.d1 hv).symm,(congrArg bB.d2 hv).symm,(congrArg bB.d3 hv).symm,(congrArg bB.d4 hv).symm,(congrArg bB.d5 hv).symm,(congrArg bB.d6 hv).symm,(congrArg bB.d7 hv).symm⟩
 refine⟨fun hs=>⟨?_,aF⟩,fun hs=>⟨?_,aF⟩⟩
 . rw [adw,hs,eu,decide_not];congr 1;exact El.2 hk
 . rw [adw,hs];rfl
theorem adx{l:List Int}{k:Nat}(h:k<l.length):l.take (k+1)=l.take k ++ [l.getD k 0]:=by
 exact ady
def arK(a b:List Int)(n:Nat):Lp where
 X:=Nat
 ov k := [(13,.int .i64 fun _=>(k:Int))]
 oe _ := []
 I k:=k<=n/\a.take k=b.take k
 μ k _:=n - k
 x0:=0
 nx:=some fun k=>k+1
def adz:aN:=c6 186 kD kD (fun a b=>(a ()).length<=1000000/\(b ()).length<=1000000) (fun a b => .bool fun _=>decide (a ()=b ()))
theorem arL:aU Tryz.prog adz:=by
 refine fH { kp := [(0,[0,1]),(1,[0,1]),(2,[]),(3,[0,1]),(4,[0,1,12,13]),(5,[0,1,12,13]),(6,[0,1,5,12,13]),(7,[]),(8,[0,1,12,13]),(9,[])],lt := [(6,⟨[0,1,2,3,4,5,6,7,8],[0,1,2,3,4,5,6,7,8],[],[],[]⟩)] } [] trivial [] trivial Tryz.func186 (by kernel_rfl) fun ai res h hp => ?_;obtain⟨(a:List Int),(b:List Int),rfl,rfl⟩:=dh h;clear h;have tH:a.length<=1000000/\b.length<=1000000:=hp;have ha:=tH.1;have hb:=tH.2;obtain⟨n,hn⟩:∃ n,n=a.length:=⟨_,rfl⟩
 refine⟨[(4,arK a b n)],?_⟩;refine fm ?_;refine⟨fun h => ?_,fun h=>⟨⟨⟨bO _,rfl⟩,rfl⟩,fun (k:Nat) hk => ?_⟩⟩
 . rw [Ce,fQ];intro e;rw [e] at h;simp at h
 simp only [ke,aL] at h;have cp:k<=n/\a.take k=b.take k:=hk;have cR:=cp.1;have bU:=cp.2;have bk:a.length=b.length:=oo
 refine fm ?_;refine⟨fun g=>⟨⟨oo,oo⟩,⟨oo,oo⟩,fun c => ?_,fun c=>⟨ii,⟨⟨oo,?_⟩,oo⟩,oo⟩⟩,fun g => ?_⟩
 . rw [Ce,fQ];intro e;rw [e] at c;simp at c
 . rw [adx oo,adx oo,bU];simp only [ke,aL] at c;rw [show a.getD k 0=b.getD k 0 from c]
 . rw [Ce,aL];rw [jC oo,jC oo] at bU;exact bU
theorem arM(x y:Nat) : -mV x y=mV y x:=by
 rcases Nat.lt_trichotomy x y with h|h|h
 . rw [I3 h,I4 h]; rfl
 . rw [h,OD]; rfl
 . rw [I4 h,I3 h]
theorem arN{F G:aY}(e:G.den=F.den)(h:0<F.den):qu F G=if F.neg=G.neg then jX F.neg (F.num+G.num) F.den else if F.num<G.num then jX G.neg (G.num - F.num) F.den else jX F.neg (F.num - G.num) F.den:=by
 unfold qu;rw [e];have h1:(F.num*F.den<G.num*F.den)↔F.num<G.num:=Nat.mul_lt_mul_right h;simp only [h1,<- lH,<- Nat.sub_mul,ajW _ _ _ _ h]
def TL:aN:=c6 125 nk nk (fun f g=>(iM (f ())/\iM (g ()))/\0<(bj (f ())).den/\0<(bj (g ())).den) (fun f g => .ba [.agg (r9 fun _=>(qu (bj (f ())) (bj (g ()))).1),.int .i64 fun _=>(qu (bj (f ())) (bj (g ()))).2])
theorem adA:aU Tryz.prog TL:=by
 refine fH { kp := [(0,[0,1]),(1,[2,3,4]),(2,[2,3,4,6,7]),(3,[2,3,4,6,7,8,9]),(4,[2,3,4,6,7,8,9,10,11,12]),(5,[2,3,4,6,7,8]),(6,[2,3,4,10,11,12]),(7,[2,4,10,11,12]),(8,[2,3,4,10,11,12]),(9,[3,4,10,11,12]),(10,[2,4,10,11,12])],lt := [(7,⟨[0,1,2,3,4,5,6,7,8,9,10],[0,1,2,3,4,5,6,7,8],[9,10],[],[]⟩),(9,⟨[0,1,2,3,4,5,6,7,8,9,10],[0,1,2,3,4,5,6,7,8],[9,10],[],[]⟩),(10,⟨[0,1,2,3,4,5,6,7,8,9,10],[0,1,2,3,4,5,6,7,8],[9,10],[],[]⟩)] } [Dt,Dz,adz,acU,acV,L6,DE] ⟨GN,GZ,arL,aqx,aqA,Tp,G7,trivial⟩ [] trivial Tryz.func125 (by kernel_rfl) fun ai res h hp => ?_;obtain⟨(f:bB),(g:bB),rfl,rfl⟩:=dh h;clear h;refine⟨[],?_⟩
 conv=>arg 1; cbv
 simp (maxSteps:=4000000) only [aK,bu,bn,bX];obtain⟨_,hf,tL⟩:=nm hp.1.1;obtain⟨_,hg,tM⟩:=nm hp.1.2;have lV:f.neg=(bj f).neg:=rfl;have o5:g.neg=(bj g).neg:=rfl;simp only [u7];simp only [ik,dZ,lV,o5];clear tL tM lV o5;generalize bj f=F at *
 generalize bj g=G at *
 have vh:=gn hf.1;have tN:=gn hf.2;have vi:=gn hg.1;have tO:=gn hg.2;have m1:=vg vh tO;have m2:=vg vi tN;have m3:=vg tN tO;have i1:=dA (n:=F.num) oo;have i2:=dA (n:=F.den) oo;have i3:=dA (n:=G.num) oo;have i4:=dA (n:=G.den) oo;have j1:=dA (n:=F.num*G.den) oo;have j2:=dA (n:=G.num*F.den) oo;have DG:(iM f/\iM g)/\0<F.den/\0<G.den:=hp;have aI:=DG.1;have d1:=DG.2.1;have d2:=DG.2.2;have s1:=DD (WR F.num G.num);have s2:=DD (WR G.num F.num);have s3:=DD (WR (F.num*G.den) (G.num*F.den));have s4:=DD (WR (G.num*F.den) (F.num*G.den));have a1:=adq vh vi;have a2:=adq m1 m2;have b1:∀ {b c:Bool},(b==c)=true->b=c:=fun h=>by simpa using h
 have b2:∀ {b c:Bool},(b==c)=false->¬b=c:=fun h=>by simpa using h
 have hd:=zE d1 d2;simp only [arG];refine⟨aI.1,aI.2,⟨i1,i4⟩,⟨i3,i2⟩,⟨i2,i4⟩,⟨oo,oo⟩,fun e => ?_,fun e => ?_⟩
 . have hs:=arN (arF e).symm d1;have k:(dY (bH F.den)/\aM F.den<=900)/\0<F.den:=⟨⟨i2,oo⟩,d1⟩
   refine⟨fun s=>⟨⟨i1,i3⟩,⟨⟨dA oo,oo⟩,k⟩,tJ (by rw [hs,aC (b1 s)])⟩,fun s=>⟨⟨i1,i3⟩,fun c=>⟨⟨⟨i3,i1⟩,oo⟩,⟨⟨dA oo,oo⟩,k⟩,tJ (by rw [hs,aw (b2 s),aC c])⟩,fun c=>⟨⟨⟨i1,i3⟩,oo⟩,⟨⟨dA oo,oo⟩,k⟩,tJ (by rw [hs,aw (b2 s),aw c])⟩⟩⟩
 . have k:(dY (bH (F.den*G.den))/\aM (F.den*G.den)<=900)/\0<F.den*G.den:=⟨⟨dA oo,oo⟩,hd⟩
   refine⟨fun s=>⟨⟨j1,j2⟩,⟨⟨dA oo,oo⟩,k⟩,tJ (by unfold qu; rw [aC (b1 s)])⟩,fun s=>⟨⟨j1,j2⟩,fun c=>⟨⟨⟨j2,j1⟩,oo⟩,⟨⟨dA oo,oo⟩,k⟩,tJ (by unfold qu; rw [aw (b2 s),aC c])⟩,fun c=>⟨⟨⟨j1,j2⟩,oo⟩,⟨⟨dA oo,oo⟩,k⟩,tJ (by unfold qu; rw [aw (b2 s),aw c])⟩⟩⟩
def TM:aN:=c6 67 nk nk (fun f g=>iM (f ())/\iM (g ())) (fun f g => .ba [.agg (r9 fun _=>(kj (bj (f ())) (bj (g ()))).1),.int .i64 fun _=>(kj (bj (f ())) (bj (g ()))).2])
theorem adB:aU Tryz.prog TM:=by
 refine fH { kp := [(0,[0,1]),(1,[2,3,4]),(2,[4]),(3,[2,3,4])],lt := [] } [A8,TL] ⟨DF,adA,trivial⟩ [] trivial Tryz.func67 (by kernel_rfl) fun ai res h hp => ?_;obtain⟨(f:bB),(g:bB),rfl,rfl⟩:=dh h;clear h;refine⟨[],?_⟩
 conv=>arg 1; cbv
 simp (maxSteps:=4000000) only [aK,bu,bn,bX];obtain⟨_,hf,tL⟩:=nm hp.1;obtain⟨_,hg,tM⟩:=nm hp.2;have lV:f.neg=(bj f).neg:=rfl;have o5:g.neg=(bj g).neg:=rfl;simp only [u7];clear tL tM lV o5;generalize bj f=F at *
 generalize bj g=G at *
 have vh:=gn hf.1;have tN:=gn hf.2;have vi:=gn hg.1;have tO:=gn hg.2;have nt:∀ {b:Bool},(!b)=true->b=false:=fun h=>by simpa using h
 have nf:∀ {b:Bool},(!b)=false->b=true:=fun h=>by simpa using h
 refine⟨hp.1,fun h1=>tK (by unfold kj; rw [nt h1]; rfl),fun h1=>⟨hp.2,fun h2=>tK (by unfold kj; rw [nt h2,zC]; rfl),fun h2=>⟨⟨hp,A6 (nf h1),A6 (nf h2)⟩,tJ (by unfold kj; rw [nf h1,nf h2]; rfl)⟩⟩⟩
def adC:aN:=c6 70 nk nk (fun f g=>iM (f ())/\iM (g ())) (fun f g => .ba [.agg (r9 fun _=>(jh (bj (f ())) (bj (g ()))).1),.int .i64 fun _=>(jh (bj (f ())) (bj (g ()))).2])
theorem arO:aU Tryz.prog adC:=by
 refine fH { kp := [(0,[0,1]),(1,[2,3,4]),(2,[4]),(3,[2,3,4])],lt := [(3,⟨[0,1,2,3,4,5,6,7],[0,1,2,3,4,5],[6,7],[],[]⟩)] } [A8,TL,adv] ⟨DF,adA,arJ,trivial⟩ [] trivial Tryz.func70 (by kernel_rfl) fun ai res h hp => ?_;obtain⟨(f:bB),(g:bB),rfl,rfl⟩:=dh h;clear h;refine⟨[],?_⟩
 conv=>arg 1; cbv
 simp (maxSteps:=4000000) only [aK,bu,bn,bX];obtain⟨_,hf,tL⟩:=nm hp.1;obtain⟨_,hg,tM⟩:=nm hp.2;have lV:f.neg=(bj f).neg:=rfl;have o5:g.neg=(bj g).neg:=rfl;simp only [u7];clear tL tM lV o5;generalize bj f=F at *
 generalize bj g=G at *
 have vh:=gn hf.1;have tN:=gn hf.2;have vi:=gn hg.1;have tO:=gn hg.2;have nt:∀ {b:Bool},(!b)=true->b=false:=fun h=>by simpa using h
 have nf:∀ {b:Bool},(!b)=false->b=true:=fun h=>by simpa using h
 have hn:(jY G).fits:=hg;simp only [wY,tG,AT hn,bn];refine⟨hp.1,fun h1=>tK (by unfold jh; rw [nt h1]; rfl),fun h1=>⟨hp.2,fun h2=>tK (by unfold jh; rw [nt h2,zC]; rfl),fun h2=>⟨hp.2,⟨hp.1,A6 (nf h1),show 0<G.den from A6 (nf h2)⟩,tJ (by unfold jh; rw [nf h1,nf h2]; rfl)⟩⟩⟩
def TN:aN:=c6 68 nk nk (fun f g=>iM (f ())/\iM (g ())) (fun f g => .ba [.agg (r9 fun _=>(mulL (bj (f ())) (bj (g ()))).1),.int .i64 fun _=>(mulL (bj (f ())) (bj (g ()))).2])
theorem adD:aU Tryz.prog TN:=by
 refine fH { kp := [(0,[0,1]),(1,[2,3,4]),(2,[4]),(3,[2,3,4]),(4,[2,3,4,6,7]),(5,[2,3,4,6,7,8,9])],lt := [(5,⟨[0,1,2,3,4,5,6,7,8,9,10,11,12,13,14,15],[0,1,2,3,4,5,6,7,8,9,10,11,12,13],[14,15],[],[]⟩)] } [A8,Dt,Dz,DE] ⟨DF,GN,GZ,G7,trivial⟩ [] trivial Tryz.func68 (by kernel_rfl) fun ai res h hp => ?_;obtain⟨(f:bB),(g:bB),rfl,rfl⟩:=dh h;clear h;refine⟨[],?_⟩
 conv=>arg 1; cbv
 simp (maxSteps:=4000000) only [aK,bu,bn,bX];obtain⟨_,hf,tL⟩:=nm hp.1;obtain⟨_,hg,tM⟩:=nm hp.2;have lV:f.neg=(bj f).neg:=rfl;have o5:g.neg=(bj g).neg:=rfl;simp only [u7];simp only [ik,dZ,lV,o5];clear tL tM lV o5;generalize bj f=F at *
 generalize bj g=G at *
 have vh:=gn hf.1;have tN:=gn hf.2;have vi:=gn hg.1;have tO:=gn hg.2;have nt:∀ {b:Bool},(!b)=true->b=false:=fun h=>by simpa using h
 have nf:∀ {b:Bool},(!b)=false->b=true:=fun h=>by simpa using h
 have i1:=dA (n:=F.num) oo;have i2:=dA (n:=F.den) oo;have i3:=dA (n:=G.num) oo;have i4:=dA (n:=G.den) oo;have m1:=vg vh vi;have m3:=vg tN tO;refine⟨hp.1,fun h1=>tK (by unfold mulL; rw [nt h1]; rfl),fun h1=>⟨hp.2,fun h2=>tK (by unfold mulL; rw [nt h2,zC]; rfl),fun h2=>⟨hp.1,hp.2,⟨i1,i3⟩,⟨i2,i4⟩,⟨⟨dA oo,oo⟩,⟨dA oo,oo⟩,zE (A6 (nf h1)) (A6 (nf h2))⟩,tJ (by unfold mulL; rw [nf h1,nf h2]; rfl)⟩⟩⟩
def adE:aN:=c6 69 nk nk (fun f g=>iM (f ())/\iM (g ())) (fun f g => .ba [.agg (r9 fun _=>(jZ (bj (f ())) (bj (g ()))).1),.int .i64 fun _=>(jZ (bj (f ())) (bj (g ()))).2])
theorem arP:aU Tryz.prog adE:=by
 refine fH { kp := [(0,[0,1]),(1,[2,3,4]),(2,[4]),(3,[2,3,4]),(4,[2,3,4,6,7]),(5,[2,3,4,6,7,8,9])],lt := [(5,⟨[0,1,2,3,4,5,6,7,8,9,10,11,12,13,14,15],[0,1,2,3,4,5,6,7,8,9,10,11,12,13],[14,15],[],[]⟩)] } [A8,Dt,Dz,DE] ⟨DF,GN,GZ,G7,trivial⟩ [] trivial Tryz.func69 (by kernel_rfl) fun ai res h hp => ?_;obtain⟨(f:bB),(g:bB),rfl,rfl⟩:=dh h;clear h;refine⟨[],?_⟩
 conv=>arg 1; cbv
 simp (maxSteps:=4000000) only [aK,bu,bn,bX];obtain⟨_,hf,tL⟩:=nm hp.1;obtain⟨_,hg,tM⟩:=nm hp.2;have lV:f.neg=(bj f).neg:=rfl;have o5:g.neg=(bj g).neg:=rfl;simp only [u7];simp only [ik,dZ,lV,o5];rw [adr hp.2,arH];clear tL tM lV o5;generalize bj f=F at *
 generalize bj g=G at *
 have vh:=gn hf.1;have tN:=gn hf.2;have vi:=gn hg.1;have tO:=gn hg.2;have nt:∀ {b:Bool},(!b)=true->b=false:=fun h=>by simpa using h
 have nf:∀ {b:Bool},(!b)=false->b=true:=fun h=>by simpa using h
 have i1:=dA (n:=F.num) oo;have i2:=dA (n:=F.den) oo;have i3:=dA (n:=G.num) oo;have i4:=dA (n:=G.den) oo;have m1:=vg vh tO;have m3:=vg tN vi;refine⟨hp.1,fun h1=>tK (by unfold jZ; rw [nt h1]; rfl),fun h1=>⟨hp.2,fun h2=>tK (by unfold jZ; rw [nt h2,zC]; rfl),fun h2=>⟨fun z => ?_,fun z => ?_⟩⟩⟩
 . have h0:G.num=0:=L0 hg.1 (by decide) z;exact tK (by unfold jZ; rw [h0,jW (show ¬(0:Nat)≠0 from oo),zC]; rfl)
 . have h0:G.num≠0:=fun h=>z (by rw [h]);exact⟨hp.1,hp.2,⟨i1,i4⟩,⟨i2,i3⟩,⟨⟨dA oo,oo⟩,⟨dA oo,oo⟩,zE (A6 (nf h1)) (WB h0)⟩,tJ (by unfold jZ; rw [nf h1,nf h2,dP h0]; rfl)⟩
def adF:aN:=c6 152 nk nk (fun f g=>iM (f ())/\iM (g ())) (fun f g => .ba [.int .i64 fun _=>(I0 (bj (f ())) (bj (g ()))).1,.int .i64 fun _=>(I0 (bj (f ())) (bj (g ()))).2])
theorem arQ:aU Tryz.prog adF:=by
 refine fH { kp := [(0,[0,1]),(1,[2,3]),(2,[]),(3,[2,3]),(4,[]),(5,[2,3]),(6,[2]),(7,[]),(8,[]),(9,[2,3]),(10,[2,3,6,7]),(11,[2,6,7,8,9]),(12,[2,10]),(13,[10]),(14,[10])],lt := [] } [A8,Dt,Dz,L6] ⟨DF,GN,GZ,Tp,trivial⟩ [] trivial Tryz.func152 (by kernel_rfl) fun ai res h hp => ?_;obtain⟨(f:bB),(g:bB),rfl,rfl⟩:=dh h;clear h;refine⟨[],?_⟩
 conv=>arg 1; cbv
 simp (maxSteps:=4000000) only [aK,bu,bn,bX];obtain⟨_,hf,tL⟩:=nm hp.1;obtain⟨_,hg,tM⟩:=nm hp.2;have lV:f.neg=(bj f).neg:=rfl;have o5:g.neg=(bj g).neg:=rfl;simp only [u7];simp only [ik,dZ,lV,o5];rw [ads hp.1,ads hp.2];clear tL tM lV o5;generalize bj f=F at *
 generalize bj g=G at *
 have vh:=gn hf.1;have tN:=gn hf.2;have vi:=gn hg.1;have tO:=gn hg.2;have nt:∀ {b:Bool},(!b)=true->b=false:=fun h=>by simpa using h
 have nf:∀ {b:Bool},(!b)=false->b=true:=fun h=>by simpa using h
 have m1:=vg vh tO;have m2:=vg vi tN;have m3:=vg tN tO;have i1:=dA (n:=F.num) oo;have i2:=dA (n:=F.den) oo;have i3:=dA (n:=G.num) oo;have i4:=dA (n:=G.den) oo;have j1:=dA (n:=F.num*G.den) oo;have j2:=dA (n:=G.num*F.den) oo;have sw : -mV (F.num*G.den) (G.num*F.den)=mV (G.num*F.den) (F.num*G.den):=arM _ _;have b1:∀ {b c:Bool},(b != c)=false->b=c:=fun h=>by simpa using h
 unfold I0;refine⟨hp.1,fun h1=>by rw [nt h1]; exact⟨rfl,rfl⟩,fun h1=>⟨hp.2,fun h2=>by rw [nt h2,zC]; exact⟨rfl,rfl⟩,fun h2 => ?_⟩⟩;rw [nf h1,nf h2];refine⟨fun e => ?_,fun e=>⟨fun s=>⟨fun hs => ?_,fun hs => ?_⟩,fun s=>⟨hp.1,hp.2,⟨i1,i4⟩,⟨i3,i2⟩,⟨j1,j2⟩,fun hs => ?_,fun hs => ?_⟩⟩⟩
 . obtain rfl:=ap6 hf hg e;cases F.neg<;>simp [OD]
 . rw [hs] at s ⊢;rw [show G.neg=false by simpa using s];exact⟨rfl,rfl⟩
 . rw [hs] at s ⊢;rw [show G.neg=true by simpa using s];exact⟨rfl,rfl⟩
 . rw [<- b1 s,hs,sw];refine⟨?_,rfl,rfl⟩;unfold mV;split
   . exact⟨by decide,by decide⟩
   . split<;>exact⟨by decide,by decide⟩
 . rw [<- b1 s,hs];exact⟨rfl,rfl⟩
def nd(n:Nat):List Int:=cl (bg B16 n)
theorem G9{P:Program}{fn:Func}{p t:Tmp}{cs:List Value}(h:fn.results = #[.cell p T,.tmp t])(tmps:Array Value)(hp:tmps.getD p undef = .pointer (some ⟨g,0,none⟩))(hl:(loadVar T ⟨g,0,none⟩).run P w = .ok (.agg cs.toArray) w) :
 (results fn tmps).run P w = .ok (.tuple #[.agg cs.toArray,tmps.getD t undef]) w:=by
 have cQ:tmps[p]?.getD undef = .pointer (some ⟨g,0,none⟩):=by simpa using hp
 simp [results,h,cQ,asAddr,hl]
theorem Rd.addr{size:Nat}{A:Option Addr}{css:List (List Value)}(h:Rd w B size A css)(h0:0<css.length):∃ b off,A=some ⟨b,off,none⟩:=by
 obtain⟨b,off,e,_⟩:=h 0 css[0] (bc h0);exact⟨b,off,e⟩
def A9(n:Int):List Value := [.int .u8 n]
def lW(size:Int):List Int:=if size=40 then [0] else if size=20 then [1,2] else []
def Mh{α:Type}[DecidableEq α](x : α)(l:List α):Int:=idx (fun y=>decide (x=y)) l
theorem arR(A:Option Addr)(c:Nat)(l:List Int)(n:Nat)(hn:n=l.length)(x:Int)(w:World)(hA:Rd w w.heap.size 1 A (l.map A9))(hl:l.length<=1000000000000) :
 Calls Tryz.prog 246 #[.slice A n c,.int .u8 x] w fun e w'=>e = .returned (.int .i64 (Mh x l))/\w'=w:=by
 have HN:=aZ hn;have HR:=aZ hA;have qG:n<=1000000000000:=oo
 clear hA hn hl
 go_enter Tryz.func246,Tryz.ntmps246
 go_wp2
 go_loopw [5,8] (fun _ i wr=>∃ k:Nat,k<=n/\i = .int .i64 k/\(∀ j,(h:j<k)->(h2:j<l.length)->decide (x=l[j])=false)/\wr=w) (fun _ i _=>n - (intOf i).toNat)
 case atStart=>exact⟨0,oo,rfl,oo,rfl⟩
 case round =>
  obtain⟨k,hk,rfl,hj,rfl⟩:=hrel;have HJ:=aZ hj;clear hj;by_cases dN:k=n
  . have ah:¬ (k:Int)<(n:Int):=oo
    have HI:Hid (Mh x l = -1):=Oi (fun j h=>HJ.out j (by have:=HN.out; omega) h);clear dN hk
    go_wp2
    go_ret
    exact⟨by rw [HI.out]; rfl,rfl⟩
  . have ah:(k:Int)<(n:Int):=oo
    have gD:k<l.length:=by have:=HN.out; omega
    obtain⟨b,off,rfl⟩:=Rd.addr HR.out (by rw [fk]; omega);obtain⟨y,hy⟩:∃ y,y=l[k]:=⟨_,rfl⟩
    have HL:=aZ (Rd.cell (P:=Tryz.prog) HR.out (cu _ _) ct5 (k:=k) (cs:=A9 y) (by rw [hy]; exact OP A9 l k gD) (j:=0) (v := .int .u8 y) rfl (p:=off+k) oo);by_cases mF:x=y
    . have HI:Hid (Mh x l=k):=Oh gD (fun j h=>HJ.out j h oo) (by rw [<- hy]; exact dP mF);have hb:(x==y)=true:=by simpa using mF
      clear dN hk hy mF
      go_wp2_with ((with_reducible refine qq 5 ?_); refine oD rfl _ _ rfl _ rfl _ HL.out ?_)
      go_ret
      exact⟨by rw [HI.out]; rfl,rfl⟩
    . have HJ2:Hid (∀ j,(h:j<k+1)->(h2:j<l.length)->decide (x=l[j])=false):=by
       intro j h h2;rcases b9 j k with h3|h3
       . exact HJ.out j h3 h2
       . obtain rfl:j=k:=oo
         rw [<- hy];exact jW mF
      have hb:(x==y)=false:=by simpa using mF
      clear HJ hy mF
      go_wp2_with ((with_reducible refine qq 5 ?_); refine oD rfl _ _ rfl _ rfl _ HL.out ?_)
      go_roundw
      case rel=>exact⟨k+1,oo,by go_num,HJ2.out,trivial⟩
      case measure=>simp [intOf]; omega
theorem arT(A:Option Addr)(c:Nat)(l:List Int)(n:Nat)(hn:n=l.length)(x:Int)(w:World)(hA:Rd w w.heap.size 1 A (l.map A9))(hl:l.length<=1000000000000) :
 Calls Tryz.prog 213 #[.slice A n c,.int .u8 x] w fun e w'=>e = .returned (.bool (l.any fun y=>decide (x=y)))/\w'=w:=by
 have HI:=aZ (arR A c l n hn x w hA hl);rw [Xw];unfold Mh at HI;generalize idx (fun y=>decide (x=y)) l=z at HI ⊢;clear hA hn hl
 go_enter Tryz.func213,Tryz.ntmps213
 go_wp2_with (go_at_call 246; refine (HI.out).mono ?_; rintro e w2 ⟨rfl,rfl⟩)
 go_ret
 exact⟨by first|rfl|simp,rfl⟩
def xc(a b:Int):Bool:=decide (a=b)||(decide (a=0)||decide (b=0))
def kK(a b:Slot):Bool:=decide (a.au=b.au)&&(decide (a.aH=b.aH)&&xc a.half b.half)
def Ba(x:Slot)(l:List Slot)(h:Int):Bool:=l.any fun y=>decide ((⟨x.au,x.aH - 1,h⟩:Slot)=y)
def xd(x:Slot)(l:List Slot):Bool:=if x.aH<=0 then true else Ba x l x.half||(decide (x.half=0)&&(Ba x l 1&&Ba x l 2))
end Go.Proofs.YtamjbkaclhgffaaGreat
