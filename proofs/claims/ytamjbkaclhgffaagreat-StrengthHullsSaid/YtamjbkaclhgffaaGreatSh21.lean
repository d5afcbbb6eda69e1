/-
  frac by the abstract run: Of, Ratio, slices.Equal, turned.
-/
import Derived.Test.YtamjbkaclhgffaaGreatSh20
set_option linter.all false
set_option maxRecDepth 100000
set_option maxHeartbeats 4000000
namespace Go.Proofs.YtamjbkaclhgffaaGreat
open Go.RowKit
variable{z:Int}{p:List Nat×Nat}{m n s x y:Nat}
def IY:aC:=cL 11 kI (fun a=>aP (a ())) (fun a => .agg (gp fun _=>cr (a ())))
theorem N7:aE Tryz.prog IY:=by
 refine bZ { kp := [(0,[0]),(1,[0,2]),(2,[2,3])] } [Vp,NT,EV] ⟨afG,UR,IX,trivial⟩ [] trivial Tryz.func11 (by kernel_rfl) fun ah res h hp => ?_;obtain⟨(a:Int),rfl,rfl⟩:=cS h;clear h;refine⟨[],?_⟩;refine fm ?_;have h0 : -9223372036854775808<=a:=hp.1;have h1:a<=9223372036854775807:=hp.2;have hn:a.natAbs<cA:=by unfold cA; omega
 have hl:=gV hn;have x4:aX 1<=1:=gr cw (by decide);simp only [jd,eY,show Int.toNat 1=1 from rfl];refine⟨hp,⟨by decide,by decide⟩,⟨⟨dI oo,oo⟩,⟨dI oo,oo⟩,by decide⟩,afL ?_⟩;rw [Zj _ _ hn];unfold cr;show (⟨decide (a<0)&&decide (a.natAbs≠0),a.natAbs,1⟩:ba)=_
 by_cases h:a<0
 . rw [cT h,cT (show a.natAbs≠0 from oo)]; rfl
 . rw [dB h]; rfl
def Vq:aC:=bE 47 kI kI (fun a b=>aP (a ())/\aP (b ())) (fun a b => .bp [.agg (gp fun _=>(kJ (a ()) (b ())).1),.int .i64 fun _=>(kJ (a ()) (b ())).2])
theorem afN:aE Tryz.prog Vq:=by
 refine bZ { kp := [(0,[0,1]),(1,[0,1,4]),(2,[4]),(3,[0,1,4])],lt := [] } [Vp,EV] ⟨afG,IX,trivial⟩ [] trivial Tryz.func47 (by kernel_rfl) fun ah res h hp => ?_;obtain⟨(a:Int),(b:Int),rfl,rfl⟩:=bG h;clear h;refine⟨[],?_⟩;refine fm ?_;have h0 : -9223372036854775808<=a/\a<=9223372036854775807:=hp.1;have h1 : -9223372036854775808<=b/\b<=9223372036854775807:=hp.2;have ha:=gV (x:=a.natAbs) (by unfold cA; omega);have hb:=gV (x:=b.natAbs) (by unfold cA; omega);simp only [jd,eY];refine⟨fun h=>nv (by unfold kJ; rw [aG h]),fun h=>⟨hp.1,hp.2,⟨⟨dI oo,oo⟩,⟨dI oo,oo⟩,oo⟩,mN ?_⟩⟩;unfold kJ;rw [ax h]
def afO:aC:=cL 128 gn (fun f=>eh (f ())) (fun f => .agg (gp fun _=>j9 (aB (f ()))))
theorem avV:aE Tryz.prog afO:=by
 refine bZ { kp := [(0,[0]),(1,[1,2]),(2,[1,2])] } [] trivial [] trivial Tryz.func128 (by kernel_rfl) fun ah res h hp => ?_;obtain⟨(f:bh),rfl,rfl⟩:=cS h;clear h;refine⟨[],?_⟩;refine fm ?_;obtain⟨_,hf,hv⟩:=jL hp;have IZ:(j9 (aB f)).neg=(!f.neg&&decide ((aB f).num≠0)):=rfl;have h0:=congrArg bh.n0 hv;have h1:=congrArg bh.n1 hv;have h2:=congrArg bh.n2 hv;have h3:=congrArg bh.n3 hv;have h4:=congrArg bh.n4 hv;have h5:=congrArg bh.n5 hv;have h6:=congrArg bh.n6 hv;have h7:=congrArg bh.n7 hv;have hk:([Kx.i IntKind.u32 f.n0,Kx.i IntKind.u32 f.n1,Kx.i IntKind.u32 f.n2,Kx.i IntKind.u32 f.n3,Kx.i IntKind.u32 f.n4,Kx.i IntKind.u32 f.n5,Kx.i IntKind.u32 f.n6,Kx.i IntKind.u32 f.n7] = [Kx.i IntKind.u32 0,Kx.i IntKind.u32 0,Kx.i IntKind.u32 0,Kx.i IntKind.u32 0,Kx.i IntKind.u32 0,Kx.i IntKind.u32 0,Kx.i IntKind.u32 0,Kx.i IntKind.u32 0])↔(aB f).num=0:=by
  rw [afJ hp];constructor
  . intro h;exact NS hf.1 (by decide) (h.trans rfl)
  . intro h;rw [h];rfl
 have aS:f.n0=az (j9 (aB f)).num 0/\f.n1=az (j9 (aB f)).num 1/\f.n2=az (j9 (aB f)).num 2/\f.n3=az (j9 (aB f)).num 3/\f.n4=az (j9 (aB f)).num 4/\f.n5=az (j9 (aB f)).num 5/\f.n6=az (j9 (aB f)).num 6/\f.n7=az (j9 (aB f)).num 7/\f.d0=az (j9 (aB f)).den 0/\f.d1=az (j9 (aB f)).den 1/\f.d2=az (j9 (aB f)).den 2/\f.d3=az (j9 (aB f)).den 3/\f.d4=az (j9 (aB f)).den 4/\f.d5=az (j9 (aB f)).den 5/\f.d6=az (j9 (aB f)).den 6/\f.d7=az (j9 (aB f)).den 7:=⟨(congrArg bh.n0 hv).symm,(congrArg bh.n1 hv).symm,(congrArg bh.n2 hv).symm,(congrArg bh.n3 hv).symm,(congrArg bh.n4 hv).symm,(congrArg bh.n5 hv).symm,(congrArg bh.n6 hv).symm,(congrArg bh.n7 hv).symm,(congrArg bh.d0 hv).symm,(congrArg bh.d1 hv).symm,(congrArg bh.d2 hv).symm,(congrArg bh.d3 hv).symm,(congrArg bh.d4 hv).symm,(congrArg bh.d5 hv).symm,(congrArg bh.d6 hv).symm,(congrArg bh.d7 hv).symm⟩
 refine⟨fun hs=>⟨?_,aS⟩,fun hs=>⟨?_,aS⟩⟩
 . rw [IZ,hs,fe,decide_not];congr 1;exact vM.2 hk
 . rw [IZ,hs];rfl
theorem afP{l:List Int}{k:Nat}(h:k<l.length):l.take (k+1)=l.take k ++ [l.getD k 0]:=by
 exact afQ
def avW(a b:List Int)(n:Nat):Lp where
 X:=Nat
 ov k := [(13,.int .i64 fun _=>(k:Int))]
 oe _ := []
 I k:=k<=n/\a.take k=b.take k
 μ k _:=n - k
 x0:=0
 nx:=some fun k=>k+1
def afR:aC:=bE 186 l7 l7 (fun a b=>(a ()).length<=1000000/\(b ()).length<=1000000) (fun a b => .bool fun _=>decide (a ()=b ()))
theorem avX:aE Tryz.prog afR:=by
 refine bZ { kp := [(0,[0,1]),(1,[0,1]),(2,[]),(3,[0,1]),(4,[0,1,12,13]),(5,[0,1,12,13]),(6,[0,1,5,12,13]),(7,[]),(8,[0,1,12,13]),(9,[])],lt := [(6,⟨[0,1,2,3,4,5,6,7,8],[0,1,2,3,4,5,6,7,8],[],[],[]⟩)] } [] trivial [] trivial Tryz.func186 (by kernel_rfl) fun ah res h hp => ?_;obtain⟨(a:List Int),(b:List Int),rfl,rfl⟩:=bG h;clear h;have ma:a.length<=1000000/\b.length<=1000000:=hp;have ha:=ma.1;have hb:=ma.2;obtain⟨n,hn⟩:∃ n,n=a.length:=⟨_,rfl⟩
 refine⟨[(4,avW a b n)],?_⟩;refine fm ?_;refine⟨fun h => ?_,fun h=>⟨⟨⟨bw _,rfl⟩,rfl⟩,fun (k:Nat) hk => ?_⟩⟩
 . rw [yQ,ew];intro e;rw [e] at h;simp at h
 simp only [iR,aU] at h;have bu:k<=n/\a.take k=b.take k:=hk;have bM:=bu.1;have bm:=bu.2;have bJ:a.length=b.length:=oo
 refine fm ?_;refine⟨fun g=>⟨⟨oo,oo⟩,⟨oo,oo⟩,fun c => ?_,fun c=>⟨ii,⟨⟨oo,?_⟩,oo⟩,oo⟩⟩,fun g => ?_⟩
 . rw [yQ,ew];intro e;rw [e] at c;simp at c
 . rw [afP oo,afP oo,bm];simp only [iR,aU] at c;rw [show a.getD k 0=b.getD k 0 from c]
 . rw [yQ,aU];rw [ez oo,ez oo] at bm;exact bm
theorem avY(x y:Nat) : -oz x y=oz y x:=by
 rcases am7 x y with h|h|h
 . rw [KK h,KL h]; rfl
 . rw [h,Qz]; rfl
 . rw [KL h,KK h]
theorem avZ{F G:ba}(e:G.den=F.den)(h:0<F.den):oy F G=if F.neg=G.neg then jl F.neg (F.num+G.num) F.den else if F.num<G.num then jl G.neg (G.num - F.num) F.den else jl F.neg (F.num - G.num) F.den:=by
 unfold oy;rw [e];have h1:(F.num*F.den<G.num*F.den)↔F.num<G.num:=Nat.mul_lt_mul_right h;simp only [h1,<- mV,<- Nat.sub_mul,anL _ _ _ _ h]
def Vr:aC:=bE 125 gn gn (fun f g=>(eh (f ())/\eh (g ()))/\0<(aB (f ())).den/\0<(aB (g ())).den) (fun f g => .bp [.agg (gp fun _=>(oy (aB (f ())) (aB (g ()))).1),.int .i64 fun _=>(oy (aB (f ())) (aB (g ()))).2])
theorem afS:aE Tryz.prog Vr:=by
 refine bZ { kp := [(0,[0,1]),(1,[2,3,4]),(2,[2,3,4,6,7]),(3,[2,3,4,6,7,8,9]),(4,[2,3,4,6,7,8,9,10,11,12]),(5,[2,3,4,6,7,8]),(6,[2,3,4,10,11,12]),(7,[2,4,10,11,12]),(8,[2,3,4,10,11,12]),(9,[3,4,10,11,12]),(10,[2,4,10,11,12])],lt := [(7,⟨[0,1,2,3,4,5,6,7,8,9,10],[0,1,2,3,4,5,6,7,8],[9,10],[],[]⟩),(9,⟨[0,1,2,3,4,5,6,7,8,9,10],[0,1,2,3,4,5,6,7,8],[9,10],[],[]⟩),(10,⟨[0,1,2,3,4,5,6,7,8,9,10],[0,1,2,3,4,5,6,7,8],[9,10],[],[]⟩)] } [EL,ER,afR,aff,afg,NX,EV] ⟨IG,IQ,avX,auP,auS,U9,IX,trivial⟩ [] trivial Tryz.func125 (by kernel_rfl) fun ah res h hp => ?_;obtain⟨(f:bh),(g:bh),rfl,rfl⟩:=bG h;clear h;refine⟨[],?_⟩
 conv=>arg 1; cbv
 simp (maxSteps:=4000000) only [ay,aJ,aH,aO];obtain⟨_,hf,ve⟩:=jL hp.1.1;obtain⟨_,hg,vf⟩:=jL hp.1.2;have jw:f.neg=(aB f).neg:=rfl;have mf:g.neg=(aB g).neg:=rfl;simp only [oT];simp only [jd,eY,jw,mf];clear ve vf jw mf;generalize aB f=F at *
 generalize aB g=G at *
 have nw:=gV hf.1;have lM:=gV hf.2;have ny:=gV hg.1;have lN:=gV hg.2;have m1:=wT nw lN;have m2:=wT ny lM;have m3:=wT lM lN;have i1:=dI (n:=F.num) oo;have i2:=dI (n:=F.den) oo;have i3:=dI (n:=G.num) oo;have i4:=dI (n:=G.den) oo;have j1:=dI (n:=F.num*G.den) oo;have j2:=dI (n:=G.num*F.den) oo;have vg:(eh f/\eh g)/\0<F.den/\0<G.den:=hp;have aR:=vg.1;have d1:=vg.2.1;have d2:=vg.2.2;have s1:=EU (Kz F.num G.num);have s2:=EU (Kz G.num F.num);have s3:=EU (Kz (F.num*G.den) (G.num*F.den));have s4:=EU (Kz (G.num*F.den) (F.num*G.den));have a1:=afI nw ny;have a2:=afI m1 m2;have b1:∀ {b c:Bool},(b==c)=true->b=c:=fun h=>by simpa using h
 have b2:∀ {b c:Bool},(b==c)=false->¬b=c:=fun h=>by simpa using h
 have hd:=uu d1 d2;simp only [avT];refine⟨aR.1,aR.2,⟨i1,i4⟩,⟨i3,i2⟩,⟨i2,i4⟩,⟨oo,oo⟩,fun e => ?_,fun e => ?_⟩
 . have hs:=avZ (avS e).symm d1;have k:(eX (ca F.den)/\aX F.den<=900)/\0<F.den:=⟨⟨i2,oo⟩,d1⟩
   refine⟨fun s=>⟨⟨i1,i3⟩,⟨⟨dI oo,oo⟩,k⟩,mN (by rw [hs,aG (b1 s)])⟩,fun s=>⟨⟨i1,i3⟩,fun c=>⟨⟨⟨i3,i1⟩,oo⟩,⟨⟨dI oo,oo⟩,k⟩,mN (by rw [hs,ax (b2 s),aG c])⟩,fun c=>⟨⟨⟨i1,i3⟩,oo⟩,⟨⟨dI oo,oo⟩,k⟩,mN (by rw [hs,ax (b2 s),ax c])⟩⟩⟩
 . have k:(eX (ca (F.den*G.den))/\aX (F.den*G.den)<=900)/\0<F.den*G.den:=⟨⟨dI oo,oo⟩,hd⟩
   refine⟨fun s=>⟨⟨j1,j2⟩,⟨⟨dI oo,oo⟩,k⟩,mN (by unfold oy; rw [aG (b1 s)])⟩,fun s=>⟨⟨j1,j2⟩,fun c=>⟨⟨⟨j2,j1⟩,oo⟩,⟨⟨dI oo,oo⟩,k⟩,mN (by unfold oy; rw [ax (b2 s),aG c])⟩,fun c=>⟨⟨⟨j1,j2⟩,oo⟩,⟨⟨dI oo,oo⟩,k⟩,mN (by unfold oy; rw [ax (b2 s),ax c])⟩⟩⟩
def Vs:aC:=bE 67 gn gn (fun f g=>eh (f ())/\eh (g ())) (fun f g => .bp [.agg (gp fun _=>(fW (aB (f ())) (aB (g ()))).1),.int .i64 fun _=>(fW (aB (f ())) (aB (g ()))).2])
theorem afT:aE Tryz.prog Vs:=by
 refine bZ { kp := [(0,[0,1]),(1,[2,3,4]),(2,[4]),(3,[2,3,4])],lt := [] } [CB,Vr] ⟨EW,afS,trivial⟩ [] trivial Tryz.func67 (by kernel_rfl) fun ah res h hp => ?_;obtain⟨(f:bh),(g:bh),rfl,rfl⟩:=bG h;clear h;refine⟨[],?_⟩
 conv=>arg 1; cbv
 simp (maxSteps:=4000000) only [ay,aJ,aH,aO];obtain⟨_,hf,ve⟩:=jL hp.1;obtain⟨_,hg,vf⟩:=jL hp.2;have jw:f.neg=(aB f).neg:=rfl;have mf:g.neg=(aB g).neg:=rfl;simp only [oT];clear ve vf jw mf;generalize aB f=F at *
 generalize aB g=G at *
 have nw:=gV hf.1;have lM:=gV hf.2;have ny:=gV hg.1;have lN:=gV hg.2;have nt:∀ {b:Bool},(!b)=true->b=false:=fun h=>by simpa using h
 have nf:∀ {b:Bool},(!b)=false->b=true:=fun h=>by simpa using h
 refine⟨hp.1,fun h1=>nv (by unfold fW; rw [nt h1]; rfl),fun h1=>⟨hp.2,fun h2=>nv (by unfold fW; rw [nt h2,nK]; rfl),fun h2=>⟨⟨hp,tN (nf h1),tN (nf h2)⟩,mN (by unfold fW; rw [nf h1,nf h2]; rfl)⟩⟩⟩
def afU:aC:=bE 70 gn gn (fun f g=>eh (f ())/\eh (g ())) (fun f g => .bp [.agg (gp fun _=>(gG (aB (f ())) (aB (g ()))).1),.int .i64 fun _=>(gG (aB (f ())) (aB (g ()))).2])
theorem av1:aE Tryz.prog afU:=by
 refine bZ { kp := [(0,[0,1]),(1,[2,3,4]),(2,[4]),(3,[2,3,4])],lt := [(3,⟨[0,1,2,3,4,5,6,7],[0,1,2,3,4,5],[6,7],[],[]⟩)] } [CB,Vr,afO] ⟨EW,afS,avV,trivial⟩ [] trivial Tryz.func70 (by kernel_rfl) fun ah res h hp => ?_;obtain⟨(f:bh),(g:bh),rfl,rfl⟩:=bG h;clear h;refine⟨[],?_⟩
 conv=>arg 1; cbv
 simp (maxSteps:=4000000) only [ay,aJ,aH,aO];obtain⟨_,hf,ve⟩:=jL hp.1;obtain⟨_,hg,vf⟩:=jL hp.2;have jw:f.neg=(aB f).neg:=rfl;have mf:g.neg=(aB g).neg:=rfl;simp only [oT];clear ve vf jw mf;generalize aB f=F at *
 generalize aB g=G at *
 have nw:=gV hf.1;have lM:=gV hf.2;have ny:=gV hg.1;have lN:=gV hg.2;have nt:∀ {b:Bool},(!b)=true->b=false:=fun h=>by simpa using h
 have nf:∀ {b:Bool},(!b)=false->b=true:=fun h=>by simpa using h
 have hn:(j9 G).fits:=hg;simp only [jJ,jK,pI hn,aH];refine⟨hp.1,fun h1=>nv (by unfold gG; rw [nt h1]; rfl),fun h1=>⟨hp.2,fun h2=>nv (by unfold gG; rw [nt h2,nK]; rfl),fun h2=>⟨hp.2,⟨hp.1,tN (nf h1),show 0<G.den from tN (nf h2)⟩,mN (by unfold gG; rw [nf h1,nf h2]; rfl)⟩⟩⟩
def Vt:aC:=bE 68 gn gn (fun f g=>eh (f ())/\eh (g ())) (fun f g => .bp [.agg (gp fun _=>(mulL (aB (f ())) (aB (g ()))).1),.int .i64 fun _=>(mulL (aB (f ())) (aB (g ()))).2])
theorem afV:aE Tryz.prog Vt:=by
 refine bZ { kp := [(0,[0,1]),(1,[2,3,4]),(2,[4]),(3,[2,3,4]),(4,[2,3,4,6,7]),(5,[2,3,4,6,7,8,9])],lt := [(5,⟨[0,1,2,3,4,5,6,7,8,9,10,11,12,13,14,15],[0,1,2,3,4,5,6,7,8,9,10,11,12,13],[14,15],[],[]⟩)] } [CB,EL,ER,EV] ⟨EW,IG,IQ,IX,trivial⟩ [] trivial Tryz.func68 (by kernel_rfl) fun ah res h hp => ?_;obtain⟨(f:bh),(g:bh),rfl,rfl⟩:=bG h;clear h;refine⟨[],?_⟩
 conv=>arg 1; cbv
 simp (maxSteps:=4000000) only [ay,aJ,aH,aO];obtain⟨_,hf,ve⟩:=jL hp.1;obtain⟨_,hg,vf⟩:=jL hp.2;have jw:f.neg=(aB f).neg:=rfl;have mf:g.neg=(aB g).neg:=rfl;simp only [oT];simp only [jd,eY,jw,mf];clear ve vf jw mf;generalize aB f=F at *
 generalize aB g=G at *
 have nw:=gV hf.1;have lM:=gV hf.2;have ny:=gV hg.1;have lN:=gV hg.2;have nt:∀ {b:Bool},(!b)=true->b=false:=fun h=>by simpa using h
 have nf:∀ {b:Bool},(!b)=false->b=true:=fun h=>by simpa using h
 have i1:=dI (n:=F.num) oo;have i2:=dI (n:=F.den) oo;have i3:=dI (n:=G.num) oo;have i4:=dI (n:=G.den) oo;have m1:=wT nw ny;have m3:=wT lM lN;refine⟨hp.1,fun h1=>nv (by unfold mulL; rw [nt h1]; rfl),fun h1=>⟨hp.2,fun h2=>nv (by unfold mulL; rw [nt h2,nK]; rfl),fun h2=>⟨hp.1,hp.2,⟨i1,i3⟩,⟨i2,i4⟩,⟨⟨dI oo,oo⟩,⟨dI oo,oo⟩,uu (tN (nf h1)) (tN (nf h2))⟩,mN (by unfold mulL; rw [nf h1,nf h2]; rfl)⟩⟩⟩
def afW:aC:=bE 69 gn gn (fun f g=>eh (f ())/\eh (g ())) (fun f g => .bp [.agg (gp fun _=>(gM (aB (f ())) (aB (g ()))).1),.int .i64 fun _=>(gM (aB (f ())) (aB (g ()))).2])
theorem av2:aE Tryz.prog afW:=by
 refine bZ { kp := [(0,[0,1]),(1,[2,3,4]),(2,[4]),(3,[2,3,4]),(4,[2,3,4,6,7]),(5,[2,3,4,6,7,8,9])],lt := [(5,⟨[0,1,2,3,4,5,6,7,8,9,10,11,12,13,14,15],[0,1,2,3,4,5,6,7,8,9,10,11,12,13],[14,15],[],[]⟩)] } [CB,EL,ER,EV] ⟨EW,IG,IQ,IX,trivial⟩ [] trivial Tryz.func69 (by kernel_rfl) fun ah res h hp => ?_;obtain⟨(f:bh),(g:bh),rfl,rfl⟩:=bG h;clear h;refine⟨[],?_⟩
 conv=>arg 1; cbv
 simp (maxSteps:=4000000) only [ay,aJ,aH,aO];obtain⟨_,hf,ve⟩:=jL hp.1;obtain⟨_,hg,vf⟩:=jL hp.2;have jw:f.neg=(aB f).neg:=rfl;have mf:g.neg=(aB g).neg:=rfl;simp only [oT];simp only [jd,eY,jw,mf];rw [afJ hp.2,avU];clear ve vf jw mf;generalize aB f=F at *
 generalize aB g=G at *
 have nw:=gV hf.1;have lM:=gV hf.2;have ny:=gV hg.1;have lN:=gV hg.2;have nt:∀ {b:Bool},(!b)=true->b=false:=fun h=>by simpa using h
 have nf:∀ {b:Bool},(!b)=false->b=true:=fun h=>by simpa using h
 have i1:=dI (n:=F.num) oo;have i2:=dI (n:=F.den) oo;have i3:=dI (n:=G.num) oo;have i4:=dI (n:=G.den) oo;have m1:=wT nw lN;have m3:=wT lM ny;refine⟨hp.1,fun h1=>nv (by unfold gM; rw [nt h1]; rfl),fun h1=>⟨hp.2,fun h2=>nv (by unfold gM; rw [nt h2,nK]; rfl),fun h2=>⟨fun z => ?_,fun z => ?_⟩⟩⟩
 . have h0:G.num=0:=NS hg.1 (by decide) z;exact nv (by unfold gM; rw [h0,dB (show ¬(0:Nat)≠0 from oo),nK]; rfl)
 . have h0:G.num≠0:=fun h=>z (by rw [h]);exact⟨hp.1,hp.2,⟨i1,i4⟩,⟨i2,i3⟩,⟨⟨dI oo,oo⟩,⟨dI oo,oo⟩,uu (tN (nf h1)) (FW h0)⟩,mN (by unfold gM; rw [nf h1,nf h2,cT h0]; rfl)⟩
def afX:aC:=bE 152 gn gn (fun f g=>eh (f ())/\eh (g ())) (fun f g => .bp [.int .i64 fun _=>(KG (aB (f ())) (aB (g ()))).1,.int .i64 fun _=>(KG (aB (f ())) (aB (g ()))).2])
theorem av3:aE Tryz.prog afX:=by
 refine bZ { kp := [(0,[0,1]),(1,[2,3]),(2,[]),(3,[2,3]),(4,[]),(5,[2,3]),(6,[2]),(7,[]),(8,[]),(9,[2,3]),(10,[2,3,6,7]),(11,[2,6,7,8,9]),(12,[2,10]),(13,[10]),(14,[10])],lt := [] } [CB,EL,ER,NX] ⟨EW,IG,IQ,U9,trivial⟩ [] trivial Tryz.func152 (by kernel_rfl) fun ah res h hp => ?_;obtain⟨(f:bh),(g:bh),rfl,rfl⟩:=bG h;clear h;refine⟨[],?_⟩
 conv=>arg 1; cbv
 simp (maxSteps:=4000000) only [ay,aJ,aH,aO];obtain⟨_,hf,ve⟩:=jL hp.1;obtain⟨_,hg,vf⟩:=jL hp.2;have jw:f.neg=(aB f).neg:=rfl;have mf:g.neg=(aB g).neg:=rfl;simp only [oT];simp only [jd,eY,jw,mf];rw [afK hp.1,afK hp.2];clear ve vf jw mf;generalize aB f=F at *
 generalize aB g=G at *
 have nw:=gV hf.1;have lM:=gV hf.2;have ny:=gV hg.1;have lN:=gV hg.2;have nt:∀ {b:Bool},(!b)=true->b=false:=fun h=>by simpa using h
 have nf:∀ {b:Bool},(!b)=false->b=true:=fun h=>by simpa using h
 have m1:=wT nw lN;have m2:=wT ny lM;have m3:=wT lM lN;have i1:=dI (n:=F.num) oo;have i2:=dI (n:=F.den) oo;have i3:=dI (n:=G.num) oo;have i4:=dI (n:=G.den) oo;have j1:=dI (n:=F.num*G.den) oo;have j2:=dI (n:=G.num*F.den) oo;have sw : -oz (F.num*G.den) (G.num*F.den)=oz (G.num*F.den) (F.num*G.den):=avY _ _;have b1:∀ {b c:Bool},(b != c)=false->b=c:=fun h=>by simpa using h
 unfold KG;refine⟨hp.1,fun h1=>by rw [nt h1]; exact⟨rfl,rfl⟩,fun h1=>⟨hp.2,fun h2=>by rw [nt h2,nK]; exact⟨rfl,rfl⟩,fun h2 => ?_⟩⟩;rw [nf h1,nf h2];refine⟨fun e => ?_,fun e=>⟨fun s=>⟨fun hs => ?_,fun hs => ?_⟩,fun s=>⟨hp.1,hp.2,⟨i1,i4⟩,⟨i3,i2⟩,⟨j1,j2⟩,fun hs => ?_,fun hs => ?_⟩⟩⟩
 . obtain rfl:=auo hf hg e;cases F.neg<;>simp [Qz]
 . rw [hs] at s ⊢;rw [show G.neg=false by simpa using s];exact⟨rfl,rfl⟩
 . rw [hs] at s ⊢;rw [show G.neg=true by simpa using s];exact⟨rfl,rfl⟩
 . rw [<- b1 s,hs,sw];refine⟨?_,rfl,rfl⟩;unfold oz;split
   . exact⟨by decide,by decide⟩
   . split<;>exact⟨by decide,by decide⟩
 . rw [<- b1 s,hs];exact⟨rfl,rfl⟩
def nd(n:Nat):List Int:=cl (aq ak n)
def vl(l:List Int):Nat:=aZ ak (l.map Int.toNat)
def dY(l:List Int):Prop:=l=nd (vl l)
theorem CC(l:List Nat):vl (cl l)=aZ ak l:=by unfold vl; rw [UM]
theorem ky(n:Nat):vl (nd n)=n:=by unfold nd; rw [CC,kH bT]
theorem dt(n:Nat):dY (nd n):=by unfold dY; rw [ky]
theorem gZ(n:Nat):(nd n).length=(aq ak n).length:=iN _
def zZ(l:List Int):Prop:=(∀ d∈l,0<=d/\d<65536)/\l.length<=1000000
theorem av4{l:List Int}(h:zZ l):∃ m,l=cl m/\cz ak m/\m.length<=1000000:=by
 refine⟨l.map Int.toNat,?_,fun d hd => ?_,by rw [di]; exact h.2⟩
 . unfold cl;rw [xz]
   conv=>lhs; rw [<- Qc l]
   exact FU fun x hx=>by have:=h.1 x hx; show x=((x.toNat:Nat):Int); omega
 . obtain⟨x,hx,rfl⟩:=lW.1 hd;have:=h.1 x hx;show x.toNat<65536
   omega
def av5(l:List Nat)(n:Nat):Lp where
 X:=Nat
 ov k := [(0,.sl false .int fun _=>cl (l.take k))]
 oe _ := []
 I k:=k<=l.length/\∀ d∈l.drop k,d=0
 μ k _:=k
 x0:=n
 nx:=some fun k=>k - 1
def EX:aC:=cL 206 gi (fun a=>zZ (a ())) (fun a => .sl false .int fun _=>nd (vl (a ())))
theorem I0:aE Tryz.prog EX:=by
 refine bD [] trivial Tryz.func206 (by kernel_rfl) fun ah res h hp => ?_;obtain⟨(a:List Int),rfl,rfl⟩:=cS h;clear h;obtain⟨l,rfl,hd,hl⟩:=av4 hp;clear hp;refine bk l.length fun n Cq => ?_;refine⟨[(1,av5 l n)],?_⟩
 conv=>arg 1; cbv
 refine⟨?_,fun (k:Nat) hk => ?_⟩
 . exact aeX
 have bu:k<=l.length/\∀ d∈l.drop k,d=0:=hk;have bM:=bu.1;have bm:=bu.2;refine fm ?_;have hn:(cl (l.take k)).length=k:=by rw [iN,cy]; omega
 have dr:Tc.int.aa=0:=rfl;simp only [hn,CC,dr];refine⟨fun g=>⟨ii,⟨oo,oo⟩,fun z=>⟨ii,⟨oo,oo⟩,⟨⟨oo,fun d hd => ?_⟩,oo⟩,?_⟩,fun z => ?_⟩,fun g => ?_⟩
 . exact aeY
 . exact aeZ
 . unfold nd;rw [Dv bT hd bM bm (.inr ⟨k - 1,oo,fun e=>z ?_⟩)];exact ae0
 . have tq:k=0:=oo
   unfold nd;rw [Dv bT hd bM bm (.inl tq)]
theorem oW{l:List Int}(h:dY l):∃ n,l=nd n:=⟨vl l,h⟩
def I1(x y n m:Nat)(p:List Nat×Nat):Prop:=(aZ ak p.1+ak^p.1.length*p.2=aZ ak ((aq ak x).take p.1.length)+aZ ak ((aq ak y).take p.1.length)/\cz ak p.1)/\p.2<=1/\(p.1.length<=n\/p.1.length<=m\/(p.2=0/\(p.1.length=n+1\/p.1.length=m+1)/\ak^(p.1.length - 1)<=x+y))
def oX(x y:Nat)(p:List Nat×Nat):Nat:=p.2+(aq ak x).getD p.1.length 0+(aq ak y).getD p.1.length 0
def I2(x y:Nat)(p:List Nat×Nat):List Nat×Nat:=(p.1 ++ [oX x y p % 65536],oX x y p / 65536)
theorem afY(h:p.2<=1):oX x y p<=131071:=by
 have h1:=(cz.aq bT x).getD (by decide) p.1.length;have h2:=(cz.aq bT y).getD (by decide) p.1.length;unfold oX;have e:ak=65536:=rfl;omega
theorem av6(hn:(aq ak x).length=n)(hm:(aq ak y).length=m)(h:I1 x y n m p)(hc:p.1.length<n\/p.1.length<m\/0<p.2):I1 x y n m (I2 x y p)/\n+m+2 - (p.1.length+1)<n+m+2 - p.1.length:=by
 obtain⟨⟨h1,h2⟩,h3,h4⟩:=h;have hs:=afY (x:=x) (y:=y) h3;have hst:=auc (B:=ak) (a:=aq ak x) (b:=aq ak y) (o:=p.1) (c:=p.2) h1;have hl:(p.1 ++ [oX x y p % 65536]).length=p.1.length+1:=by rw [c9]; rfl
 refine⟨⟨⟨?_,h2.append fun d hd => ?_⟩,?_,?_⟩,by rcases h4 with h4|h4|h4<;>omega⟩
 . rw [show (I2 x y p).1.length=p.1.length+1 from hl];exact hst
 . rw [oq] at hd;rw [hd];exact jk _ (by decide)
 . show oX x y p / 65536<=1
   omega
 . show (p.1 ++ [oX x y p % 65536]).length<=n\/(p.1 ++ [oX x y p % 65536]).length<=m\/(oX x y p / 65536=0/\((p.1 ++ [oX x y p % 65536]).length=n+1\/(p.1 ++ [oX x y p % 65536]).length=m+1)/\ak^((p.1 ++ [oX x y p % 65536]).length - 1)<=x+y)
   rw [hl];by_cases c1:p.1.length<n
   . exact .inl c1
   by_cases c2:p.1.length<m
   . exact .inr (.inl c2)
   have c3:0<p.2:=oo
   have e1:(aq ak x).getD p.1.length 0=0:=Co oo;have e2:(aq ak y).getD p.1.length 0=0:=Co oo;refine .inr (.inr ⟨?_,?_,?_⟩)
   . unfold oX;rw [e1,e2];omega
   . rcases h4 with h4|h4|h4<;>omega
   . rw [ez oo,ez oo,kH bT,kH bT,show p.2=1 from oo,lX] at h1;rw [pf,<- h1];exact Nat.le_add_left _ _
theorem av7(hn:(aq ak x).length=n)(hm:(aq ak y).length=m)(h:I1 x y n m p)(h5:n<=p.1.length)(h6:m<=p.1.length)(h7:p.2=0):cl p.1=nd (x+y):=by
 obtain⟨⟨h1,h2⟩,h3,h4⟩:=h;rw [ez oo,ez oo,kH bT,kH bT,h7,uq,jD] at h1;unfold nd;rw [<- h1,aub bT h2];rw [h1];have hx:∀ z,z<=x+y->(aq ak z).length<=(aq ak (x+y)).length:=fun z hz=>by
  rcases cv (aq ak (x+y)).length (aq ak z).length with g|g
  . have:=Du bT g;omega
  . exact g
 rcases h4 with h4|h4|⟨_,h4,h8⟩
 . have:=hx x oo;omega
 . have:=hx y oo;omega
 . have:=(uw bT (n:=x+y) (k:=p.1.length - 1)).2 h8;omega
theorem afZ(h:z=s)(hs:s<=9000000000000000000):IntKind.i64.wrap (z.tdiv 65536)=((s / 65536:Nat):Int):=by
 rw [h,show ((s:Int)).tdiv 65536=((s / 65536:Nat):Int) from rfl];exact wrap_i64 oo oo
theorem af0(h:z=s):z.tmod 65536=((s % 65536:Nat):Int):=by rw [h]; rfl
def av8(x y n m T:Nat):Lp where
 X:=List Nat×Nat
 ov p := [(7,.int .i64 fun _=>(p.1.length:Int)),(6,.int .i64 fun _=>(p.2:Int)),(5,.own 0)]
 oe p := [(0,.row true .int T fun _=>cl p.1)]
 I p:=I1 x y n m p
 μ p _:=n+m+2 - p.1.length
 x0:=([],0)
 nx:=none
def Vu:aC:=bE 203 gi gi (fun a b=>(dY (a ())/\dY (b ()))/\(a ()).length<=100000/\(b ()).length<=100000) (fun a b => .sl true .int fun _=>nd (vl (a ())+vl (b ())))
theorem af1:aE Tryz.prog Vu:=by
 refine bZ { kp := [(0,[0,1]),(1,[0,1]),(2,[0,1,5]),(3,[0,1,5,6]),(4,[0,1,5,6,7]),(5,[0,1,5,6,7]),(6,[0,1,5,6,7]),(7,[0,1,5,6,7]),(8,[0,1,5,6,7]),(9,[0,1,5,6,7]),(10,[0,1,5,6,7]),(11,[0,1,5,6,7]),(12,[5])] } [] trivial [] trivial Tryz.func203 (by kernel_rfl) fun ah res h hp => ?_;obtain⟨(a:List Int),(b:List Int),rfl,rfl⟩:=bG h;clear h;obtain⟨⟨ha,hb⟩,hn,hm⟩:(dY a/\dY b)/\a.length<=100000/\b.length<=100000:=hp;obtain⟨x,rfl⟩:=oW ha;obtain⟨y,rfl⟩:=oW hb;clear ha hb;refine bk (nd x) fun a hA => ?_;refine bk (nd y) fun b hB => ?_;have jv:vl a=x:=by rw [<- hA,ky]
 have sU:vl b=y:=by rw [<- hB,ky]
 rw [hA] at hn ⊢;rw [hB] at hm ⊢;refine bk a.length fun n mK => ?_;refine bk b.length fun m rI => ?_;have qx:(aq ak x).length=n:=by rw [<- mK,<- hA,gZ]
 have yk:(aq ak y).length=m:=by rw [<- rI,<- hB,gZ]
 have z6:∀ i,a.getD i 0=((aq ak x).getD i 0:Nat):=fun i=>by rw [<- hA]; exact qw _ _
 have zW:∀ i,b.getD i 0=((aq ak y).getD i 0:Nat):=fun i=>by rw [<- hB]; exact qw _ _
 refine⟨[(4,av8 x y n m 3)],?_⟩
 conv=>arg 1; cbv
 refine⟨?_,fun (p:List Nat×Nat) hp => ?_⟩
 . exact af2
 have hI:I1 x y n m p:=hp;clear hp;refine fm ?_;have dr:Tc.int.aa=0:=rfl;have nM:=(cz.aq bT x).getD (by decide) p.1.length;have A3:=(cz.aq bT y).getD (by decide) p.1.length;have we:n<=p.1.length->(aq ak x).getD p.1.length 0=0:=fun h=>Co oo;have hy2:m<=p.1.length->(aq ak y).getD p.1.length 0=0:=fun h=>Co oo;have awa:oX x y p=p.2+(aq ak x).getD p.1.length 0+(aq ak y).getD p.1.length 0:=rfl;have hS:=afY (x:=x) (y:=y) hI.2.1;have hlen:p.1.length<=n+m+1:=by rcases hI.2.2 with h|h|h<;>omega
 have hN:=fun h=>av6 qx yk hI h;have hE:=fun h5 h6 h7=>av7 qx yk hI h5 h6 h7;have wQ:(I2 x y p).1=p.1 ++ [oX x y p % 65536]:=rfl;have jq:(I2 x y p).2=oX x y p / 65536:=rfl;have hB:ak=65536:=rfl;simp only [z6,zW,dr,mK,rI,jv,sU,iN];generalize I2 x y p=q at hN wQ jq ⊢;generalize (aq ak x).getD p.1.length 0=A at *
 generalize (aq ak y).getD p.1.length 0=C at *
 generalize oX x y p=s at *
 have yi:q.1.length=p.1.length+1:=by rw [wQ,c9]; rfl
 (repeat' (first|apply And.intro|intro _))<;>first
  | (exfalso; omega)
  | omega
  | (simp only [aP]; omega)
  | (simp only [dE,hZ]; omega)
  | exact hE oo oo oo
  | (refine⟨q,⟨(hN oo).1,by rw [yi]; exact (hN oo).2⟩,?_⟩
     conv=>arg 1; cbv
     simp (maxSteps:=4000000) only [ay];exact⟨by rw [yi]; rfl,(afZ (s:=s) oo oo).trans (by rw [jq]),by rw [wQ,wJ,af0 (s:=s) oo]; rfl⟩)
end Go.Proofs.YtamjbkaclhgffaaGreat
