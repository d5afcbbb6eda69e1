/-
  frac by the abstract run: Of, Ratio, slices.Equal, turned.
-/
import Derived.Test.YtlpikgchnjajmaaGreatTp30
set_option linter.all false
set_option maxRecDepth 100000
set_option maxHeartbeats 4000000
namespace Go.Proofs.YtlpikgchnjajmaaGreat
open Go.RowKit
def A7:aH:=dU 25 kI (fun a=>aY (a ())) (fun a => .agg (kj fun _=>iR (a ())))
theorem De:aK Tryz.prog A7:=by
 refine eE { kp := [(0,[0]),(1,[0,2]),(2,[2,3])] } [Uh,L0,Dc] ⟨aef,TN,G4,trivial⟩ [] trivial Tryz.func25 (by kernel_rfl) fun ai res h hp => ?_;obtain⟨(a:Int),rfl,rfl⟩:=eu h;clear h;refine⟨[],?_⟩;refine fm ?_;have h0 : -9223372036854775808<=a:=hp.1;have h1:a<=9223372036854775807:=hp.2;have hn:a.natAbs<dM:=by unfold dM; omega
 have hl:=gg hn;have uI:aL 1<=1:=uf bW (by decide);simp only [ik,ew,show Int.toNat 1=1 from rfl];refine⟨hp,⟨by decide,by decide⟩,⟨⟨dE oo,oo⟩,⟨dE oo,oo⟩,by decide⟩,ati ?_⟩;rw [aia _ _ hn];unfold iR;show (⟨decide (a<0)&&decide (a.natAbs≠0),a.natAbs,1⟩:bH)=_
 by_cases h:a<0
 . rw [c8 h,c8 (show a.natAbs≠0 from oo)]; rfl
 . rw [gw h]; rfl
def G6:aH:=df 87 kI kI (fun a b=>aY (a ())/\aY (b ())) (fun a b => .aU [.agg (kj fun _=>(fI (a ()) (b ())).1),.int .i64 fun _=>(fI (a ()) (b ())).2])
theorem Mf:aK Tryz.prog G6:=by
 refine eE { kp := [(0,[0,1]),(1,[0,1,4]),(2,[4]),(3,[0,1,4])],lt := [] } [Uh,Dc] ⟨aef,G4,trivial⟩ [] trivial Tryz.func87 (by kernel_rfl) fun ai res h hp => ?_;obtain⟨(a:Int),(b:Int),rfl,rfl⟩:=dz h;clear h;refine⟨[],?_⟩;refine fm ?_;have h0 : -9223372036854775808<=a/\a<=9223372036854775807:=hp.1;have h1 : -9223372036854775808<=b/\b<=9223372036854775807:=hp.2;have ha:=gg (x:=a.natAbs) (by unfold dM; omega);have hb:=gg (x:=b.natAbs) (by unfold dM; omega);simp only [ik,ew];refine⟨fun h=>tC (by unfold fI; rw [aw h]),fun h=>⟨hp.1,hp.2,⟨⟨dE oo,oo⟩,⟨dE oo,oo⟩,oo⟩,tB ?_⟩⟩;unfold fI;rw [ar h]
def ael:aH:=dU 85 ma (fun f=>gK (f ())) (fun f => .agg (kj fun _=>j6 (bn (f ()))))
theorem atj:aK Tryz.prog ael:=by
 refine eE { kp := [(0,[0]),(1,[1,2]),(2,[1,2])] } [] trivial [] trivial Tryz.func85 (by kernel_rfl) fun ai res h hp => ?_;obtain⟨(f:bj),rfl,rfl⟩:=eu h;clear h;refine⟨[],?_⟩;refine fm ?_;obtain⟨_,hf,hv⟩:=nI hp;have aem:(j6 (bn f)).neg=(!f.neg&&decide ((bn f).num≠0)):=rfl;have h0:=congrArg bj.n0 hv;have h1:=congrArg bj.n1 hv;have h2:=congrArg bj.n2 hv;have h3:=congrArg bj.n3 hv;have h4:=congrArg bj.n4 hv;have h5:=congrArg bj.n5 hv;have h6:=congrArg bj.n6 hv;have h7:=congrArg bj.n7 hv;have hk:([Kx.i IntKind.u32 f.n0,Kx.i IntKind.u32 f.n1,Kx.i IntKind.u32 f.n2,Kx.i IntKind.u32 f.n3,Kx.i IntKind.u32 f.n4,Kx.i IntKind.u32 f.n5,Kx.i IntKind.u32 f.n6,Kx.i IntKind.u32 f.n7] = [Kx.i IntKind.u32 0,Kx.i IntKind.u32 0,Kx.i IntKind.u32 0,Kx.i IntKind.u32 0,Kx.i IntKind.u32 0,Kx.i IntKind.u32 0,Kx.i IntKind.u32 0,Kx.i IntKind.u32 0])↔(bn f).num=0:=by
  rw [aei hp];constructor
  . intro h;exact LZ hf.1 (by decide) (h.trans rfl)
  . intro h;rw [h];rfl
 have aC:f.n0=al (j6 (bn f)).num 0/\f.n1=al (j6 (bn f)).num 1/\f.n2=al (j6 (bn f)).num 2/\f.n3=al (j6 (bn f)).num 3/\f.n4=al (j6 (bn f)).num 4/\f.n5=al (j6 (bn f)).num 5/\f.n6=al (j6 (bn f)).num 6/\f.n7=al (j6 (bn f)).num 7/\f.d0=al (j6 (bn f)).den 0/\f.d1=al (j6 (bn f)).den 1/\f.d2=al (j6 (bn f)).den 2/\f.d3=al (j6 (bn f)).den 3/\f.d4=al (j6 (bn f)).den 4/\f.d5=al (j6 (bn f)).den 5/\f.d6=al (j6 (bn f)).den 6/\f.d7=al (j6 (bn f)).den 7:=⟨(congrArg bj.n0 hv).symm,(congrArg bj.n1 hv).symm,(congrArg bj.n2 hv).symm,(congrArg bj.n3 hv).symm,(congrArg bj.n4 hv).symm,(congrArg bj.n5 hv).symm,(congrArg bj.n6 hv).symm,(congrArg bj.n7 hv).symm,(congrArg bj.d0 hv).symm,(congrArg bj.d1 hv).symm,(congrArg bj.d2 hv).symm,(congrArg bj.d3 hv).symm,(congrArg bj.d4 hv).symm,(congrArg bj.d5 hv).symm,(congrArg bj.d6 hv).symm,(congrArg bj.d7 hv).symm⟩
 refine⟨fun hs=>⟨?_,aC⟩,fun hs=>⟨?_,aC⟩⟩
 . rw [aem,hs,dL,decide_not];congr 1;exact DG.2 hk
 . rw [aem,hs];rfl
theorem aen{l:List Int}{k:Nat}(h:k<l.length):l.take (k+1)=l.take k ++ [l.getD k 0]:=by
 rw [MY h,ba,bp h];rfl
def atk(a b:List Int)(n:Nat):Lp where
 X:=Nat
 ov k := [(13,.int .i64 fun _=>(k:Int))]
 oe _ := []
 I k:=k<=n/\a.take k=b.take k
 μ k _:=n - k
 x0:=0
 nx:=some fun k=>k+1
def aeo:aH:=df 160 kN kN (fun a b=>(a ()).length<=1000000/\(b ()).length<=1000000) (fun a b => .bool fun _=>decide (a ()=b ()))
theorem atl:aK Tryz.prog aeo:=by
 refine eE { kp := [(0,[0,1]),(1,[0,1]),(2,[]),(3,[0,1]),(4,[0,1,12,13]),(5,[0,1,12,13]),(6,[0,1,5,12,13]),(7,[]),(8,[0,1,12,13]),(9,[])],lt := [(6,⟨[0,1,2,3,4,5,6,7,8],[0,1,2,3,4,5,6,7,8],[],[],[]⟩)] } [] trivial [] trivial Tryz.func160 (by kernel_rfl) fun ai res h hp => ?_;obtain⟨(a:List Int),(b:List Int),rfl,rfl⟩:=dz h;clear h;have tx:a.length<=1000000/\b.length<=1000000:=hp;have ha:=tx.1;have hb:=tx.2;obtain⟨n,hn⟩:∃ n,n=a.length:=⟨_,rfl⟩
 refine⟨[(4,atk a b n)],?_⟩;refine fm ?_;refine⟨fun h => ?_,fun h=>⟨⟨⟨cm _,rfl⟩,rfl⟩,fun (k:Nat) hk => ?_⟩⟩
 . rw [DQ,fR];intro e;rw [e] at h;simp at h
 simp only [jY,aI] at h;have cR:k<=n/\a.take k=b.take k:=hk;have cZ:=cR.1;have cg:=cR.2;have bm:a.length=b.length:=oo
 refine fm ?_;refine⟨fun g=>⟨⟨oo,oo⟩,⟨oo,oo⟩,fun c => ?_,fun c=>⟨ii,⟨⟨oo,?_⟩,oo⟩,oo⟩⟩,fun g => ?_⟩
 . rw [DQ,fR];intro e;rw [e] at c;simp at c
 . rw [aen oo,aen oo,cg];simp only [jY,aI] at c;rw [show a.getD k 0=b.getD k 0 from c]
 . rw [DQ,aI];rw [lL oo,lL oo] at cg;exact cg
theorem atm(x y:Nat) : -mo x y=mo y x:=by
 rcases aht x y with h|h|h
 . rw [Im h,Io h]; rfl
 . rw [h,N1]; rfl
 . rw [Io h,Im h]
theorem atn{F G:bH}(e:G.den=F.den)(h:0<F.den):qq F G=if F.neg=G.neg then j5 F.neg (F.num+G.num) F.den else if F.num<G.num then j5 G.neg (G.num - F.num) F.den else j5 F.neg (F.num - G.num) F.den:=by
 unfold qq;rw [e];have h1:(F.num*F.den<G.num*F.den)↔F.num<G.num:=Nat.mul_lt_mul_right h;simp only [h1,<- xw,<- Nat.sub_mul,ah9 _ _ _ _ h]
def Ui:aH:=df 79 ma ma (fun f g=>(gK (f ())/\gK (g ()))/\0<(bn (f ())).den/\0<(bn (g ())).den) (fun f g => .aU [.agg (kj fun _=>(qq (bn (f ())) (bn (g ()))).1),.int .i64 fun _=>(qq (bn (f ())) (bn (g ()))).2])
theorem aep:aK Tryz.prog Ui:=by
 refine eE { kp := [(0,[0,1]),(1,[2,3,4]),(2,[2,3,4,6,7]),(3,[2,3,4,6,7,8,9]),(4,[2,3,4,6,7,8,9,10,11,12]),(5,[2,3,4,6,7,8]),(6,[2,3,4,10,11,12]),(7,[2,4,10,11,12]),(8,[2,3,4,10,11,12]),(9,[3,4,10,11,12]),(10,[2,4,10,11,12])],lt := [(7,⟨[0,1,2,3,4,5,6,7,8,9,10],[0,1,2,3,4,5,6,7,8],[9,10],[],[]⟩),(9,⟨[0,1,2,3,4,5,6,7,8,9,10],[0,1,2,3,4,5,6,7,8],[9,10],[],[]⟩),(10,⟨[0,1,2,3,4,5,6,7,8,9,10],[0,1,2,3,4,5,6,7,8],[9,10],[],[]⟩)] } [C4,C8,aeo,adO,adP,L5,Dc] ⟨GL,GV,atl,ar7,asa,TX,G4,trivial⟩ [] trivial Tryz.func79 (by kernel_rfl) fun ai res h hp => ?_;obtain⟨(f:bj),(g:bj),rfl,rfl⟩:=dz h;clear h;refine⟨[],?_⟩
 conv=>arg 1; cbv
 simp (maxSteps:=4000000) only [aB,aR,aS,bw];obtain⟨_,hf,re⟩:=nI hp.1.1;obtain⟨_,hg,tD⟩:=nI hp.1.2;have l7:f.neg=(bn f).neg:=rfl;have po:g.neg=(bn g).neg:=rfl;simp only [qY];simp only [ik,ew,l7,po];clear re tD l7 po;generalize bn f=F at *
 generalize bn g=G at *
 have vr:=gg hf.1;have tE:=gg hf.2;have vu:=gg hg.1;have tF:=gg hg.2;have m1:=vq vr tF;have m2:=vq vu tE;have m3:=vq tE tF;have i1:=dE (n:=F.num) oo;have i2:=dE (n:=F.den) oo;have i3:=dE (n:=G.num) oo;have i4:=dE (n:=G.den) oo;have j1:=dE (n:=F.num*G.den) oo;have j2:=dE (n:=G.num*F.den) oo;have Uj:(gK f/\gK g)/\0<F.den/\0<G.den:=hp;have bS:=Uj.1;have d1:=Uj.2.1;have d2:=Uj.2.2;have s1:=Db (VG F.num G.num);have s2:=Db (VG G.num F.num);have s3:=Db (VG (F.num*G.den) (G.num*F.den));have s4:=Db (VG (G.num*F.den) (F.num*G.den));have a1:=aeh vr vu;have a2:=aeh m1 m2;have b1:∀ {b c:Bool},(b==c)=true->b=c:=fun h=>by simpa using h
 have b2:∀ {b c:Bool},(b==c)=false->¬b=c:=fun h=>by simpa using h
 have hd:=zu d1 d2;simp only [atg];refine⟨bS.1,bS.2,⟨i1,i4⟩,⟨i3,i2⟩,⟨i2,i4⟩,⟨oo,oo⟩,fun e => ?_,fun e => ?_⟩
 . have hs:=atn (atf e).symm d1;have k:(ev (bL F.den)/\aL F.den<=900)/\0<F.den:=⟨⟨i2,oo⟩,d1⟩
   refine⟨fun s=>⟨⟨i1,i3⟩,⟨⟨dE oo,oo⟩,k⟩,tB (by rw [hs,aw (b1 s)])⟩,fun s=>⟨⟨i1,i3⟩,fun c=>⟨⟨⟨i3,i1⟩,oo⟩,⟨⟨dE oo,oo⟩,k⟩,tB (by rw [hs,ar (b2 s),aw c])⟩,fun c=>⟨⟨⟨i1,i3⟩,oo⟩,⟨⟨dE oo,oo⟩,k⟩,tB (by rw [hs,ar (b2 s),ar c])⟩⟩⟩
 . have k:(ev (bL (F.den*G.den))/\aL (F.den*G.den)<=900)/\0<F.den*G.den:=⟨⟨dE oo,oo⟩,hd⟩
   refine⟨fun s=>⟨⟨j1,j2⟩,⟨⟨dE oo,oo⟩,k⟩,tB (by unfold qq; rw [aw (b1 s)])⟩,fun s=>⟨⟨j1,j2⟩,fun c=>⟨⟨⟨j2,j1⟩,oo⟩,⟨⟨dE oo,oo⟩,k⟩,tB (by unfold qq; rw [ar (b2 s),aw c])⟩,fun c=>⟨⟨⟨j1,j2⟩,oo⟩,⟨⟨dE oo,oo⟩,k⟩,tB (by unfold qq; rw [ar (b2 s),ar c])⟩⟩⟩
def aeq:aH:=df 23 ma ma (fun f g=>gK (f ())/\gK (g ())) (fun f g => .aU [.agg (kj fun _=>(sG (bn (f ())) (bn (g ()))).1),.int .i64 fun _=>(sG (bn (f ())) (bn (g ()))).2])
theorem ato:aK Tryz.prog aeq:=by
 refine eE { kp := [(0,[0,1]),(1,[2,3,4]),(2,[4]),(3,[2,3,4])],lt := [] } [Dd,Ui] ⟨G5,aep,trivial⟩ [] trivial Tryz.func23 (by kernel_rfl) fun ai res h hp => ?_;obtain⟨(f:bj),(g:bj),rfl,rfl⟩:=dz h;clear h;refine⟨[],?_⟩
 conv=>arg 1; cbv
 simp (maxSteps:=4000000) only [aB,aR,aS,bw];obtain⟨_,hf,re⟩:=nI hp.1;obtain⟨_,hg,tD⟩:=nI hp.2;have l7:f.neg=(bn f).neg:=rfl;have po:g.neg=(bn g).neg:=rfl;simp only [qY];clear re tD l7 po;generalize bn f=F at *
 generalize bn g=G at *
 have vr:=gg hf.1;have tE:=gg hf.2;have vu:=gg hg.1;have tF:=gg hg.2;have nt:∀ {b:Bool},(!b)=true->b=false:=fun h=>by simpa using h
 have nf:∀ {b:Bool},(!b)=false->b=true:=fun h=>by simpa using h
 refine⟨hp.1,fun h1=>tC (by unfold sG; rw [nt h1]; rfl),fun h1=>⟨hp.2,fun h2=>tC (by unfold sG; rw [nt h2,tY]; rfl),fun h2=>⟨⟨hp,A5 (nf h1),A5 (nf h2)⟩,tB (by unfold sG; rw [nf h1,nf h2]; rfl)⟩⟩⟩
def aer:aH:=df 27 ma ma (fun f g=>gK (f ())/\gK (g ())) (fun f g => .aU [.agg (kj fun _=>(j7 (bn (f ())) (bn (g ()))).1),.int .i64 fun _=>(j7 (bn (f ())) (bn (g ()))).2])
theorem atp:aK Tryz.prog aer:=by
 refine eE { kp := [(0,[0,1]),(1,[2,3,4]),(2,[4]),(3,[2,3,4])],lt := [(3,⟨[0,1,2,3,4,5,6,7],[0,1,2,3,4,5],[6,7],[],[]⟩)] } [Dd,Ui,ael] ⟨G5,aep,atj,trivial⟩ [] trivial Tryz.func27 (by kernel_rfl) fun ai res h hp => ?_;obtain⟨(f:bj),(g:bj),rfl,rfl⟩:=dz h;clear h;refine⟨[],?_⟩
 conv=>arg 1; cbv
 simp (maxSteps:=4000000) only [aB,aR,aS,bw];obtain⟨_,hf,re⟩:=nI hp.1;obtain⟨_,hg,tD⟩:=nI hp.2;have l7:f.neg=(bn f).neg:=rfl;have po:g.neg=(bn g).neg:=rfl;simp only [qY];clear re tD l7 po;generalize bn f=F at *
 generalize bn g=G at *
 have vr:=gg hf.1;have tE:=gg hf.2;have vu:=gg hg.1;have tF:=gg hg.2;have nt:∀ {b:Bool},(!b)=true->b=false:=fun h=>by simpa using h
 have nf:∀ {b:Bool},(!b)=false->b=true:=fun h=>by simpa using h
 have hn:(j6 G).fits:=hg;simp only [pn,mf,iO hn,aS];refine⟨hp.1,fun h1=>tC (by unfold j7; rw [nt h1]; rfl),fun h1=>⟨hp.2,fun h2=>tC (by unfold j7; rw [nt h2,tY]; rfl),fun h2=>⟨hp.2,⟨hp.1,A5 (nf h1),show 0<G.den from A5 (nf h2)⟩,tB (by unfold j7; rw [nf h1,nf h2]; rfl)⟩⟩⟩
def Uk:aH:=df 26 ma ma (fun f g=>gK (f ())/\gK (g ())) (fun f g => .aU [.agg (kj fun _=>(mulL (bn (f ())) (bn (g ()))).1),.int .i64 fun _=>(mulL (bn (f ())) (bn (g ()))).2])
theorem aes:aK Tryz.prog Uk:=by
 refine eE { kp := [(0,[0,1]),(1,[2,3,4]),(2,[4]),(3,[2,3,4]),(4,[2,3,4,6,7]),(5,[2,3,4,6,7,8,9])],lt := [(5,⟨[0,1,2,3,4,5,6,7,8,9,10,11,12,13,14,15],[0,1,2,3,4,5,6,7,8,9,10,11,12,13],[14,15],[],[]⟩)] } [Dd,C4,C8,Dc] ⟨G5,GL,GV,G4,trivial⟩ [] trivial Tryz.func26 (by kernel_rfl) fun ai res h hp => ?_;obtain⟨(f:bj),(g:bj),rfl,rfl⟩:=dz h;clear h;refine⟨[],?_⟩
 conv=>arg 1; cbv
 simp (maxSteps:=4000000) only [aB,aR,aS,bw];obtain⟨_,hf,re⟩:=nI hp.1;obtain⟨_,hg,tD⟩:=nI hp.2;have l7:f.neg=(bn f).neg:=rfl;have po:g.neg=(bn g).neg:=rfl;simp only [qY];simp only [ik,ew,l7,po];clear re tD l7 po;generalize bn f=F at *
 generalize bn g=G at *
 have vr:=gg hf.1;have tE:=gg hf.2;have vu:=gg hg.1;have tF:=gg hg.2;have nt:∀ {b:Bool},(!b)=true->b=false:=fun h=>by simpa using h
 have nf:∀ {b:Bool},(!b)=false->b=true:=fun h=>by simpa using h
 have i1:=dE (n:=F.num) oo;have i2:=dE (n:=F.den) oo;have i3:=dE (n:=G.num) oo;have i4:=dE (n:=G.den) oo;have m1:=vq vr vu;have m3:=vq tE tF;refine⟨hp.1,fun h1=>tC (by unfold mulL; rw [nt h1]; rfl),fun h1=>⟨hp.2,fun h2=>tC (by unfold mulL; rw [nt h2,tY]; rfl),fun h2=>⟨hp.1,hp.2,⟨i1,i3⟩,⟨i2,i4⟩,⟨⟨dE oo,oo⟩,⟨dE oo,oo⟩,zu (A5 (nf h1)) (A5 (nf h2))⟩,tB (by unfold mulL; rw [nf h1,nf h2]; rfl)⟩⟩⟩
def aet:aH:=df 24 ma ma (fun f g=>gK (f ())/\gK (g ())) (fun f g => .aU [.agg (kj fun _=>(m7 (bn (f ())) (bn (g ()))).1),.int .i64 fun _=>(m7 (bn (f ())) (bn (g ()))).2])
theorem atq:aK Tryz.prog aet:=by
 refine eE { kp := [(0,[0,1]),(1,[2,3,4]),(2,[4]),(3,[2,3,4]),(4,[2,3,4,6,7]),(5,[2,3,4,6,7,8,9])],lt := [(5,⟨[0,1,2,3,4,5,6,7,8,9,10,11,12,13,14,15],[0,1,2,3,4,5,6,7,8,9,10,11,12,13],[14,15],[],[]⟩)] } [Dd,C4,C8,Dc] ⟨G5,GL,GV,G4,trivial⟩ [] trivial Tryz.func24 (by kernel_rfl) fun ai res h hp => ?_;obtain⟨(f:bj),(g:bj),rfl,rfl⟩:=dz h;clear h;refine⟨[],?_⟩
 conv=>arg 1; cbv
 simp (maxSteps:=4000000) only [aB,aR,aS,bw];obtain⟨_,hf,re⟩:=nI hp.1;obtain⟨_,hg,tD⟩:=nI hp.2;have l7:f.neg=(bn f).neg:=rfl;have po:g.neg=(bn g).neg:=rfl;simp only [qY];simp only [ik,ew,l7,po];rw [aei hp.2,ath];clear re tD l7 po;generalize bn f=F at *
 generalize bn g=G at *
 have vr:=gg hf.1;have tE:=gg hf.2;have vu:=gg hg.1;have tF:=gg hg.2;have nt:∀ {b:Bool},(!b)=true->b=false:=fun h=>by simpa using h
 have nf:∀ {b:Bool},(!b)=false->b=true:=fun h=>by simpa using h
 have i1:=dE (n:=F.num) oo;have i2:=dE (n:=F.den) oo;have i3:=dE (n:=G.num) oo;have i4:=dE (n:=G.den) oo;have m1:=vq vr tF;have m3:=vq tE vu;refine⟨hp.1,fun h1=>tC (by unfold m7; rw [nt h1]; rfl),fun h1=>⟨hp.2,fun h2=>tC (by unfold m7; rw [nt h2,tY]; rfl),fun h2=>⟨fun z => ?_,fun z => ?_⟩⟩⟩
 . have h0:G.num=0:=LZ hg.1 (by decide) z;exact tC (by unfold m7; rw [h0,gw (show ¬(0:Nat)≠0 from oo),tY]; rfl)
 . have h0:G.num≠0:=fun h=>z (by rw [h]);exact⟨hp.1,hp.2,⟨i1,i4⟩,⟨i2,i3⟩,⟨⟨dE oo,oo⟩,⟨dE oo,oo⟩,zu (A5 (nf h1)) (HO h0)⟩,tB (by unfold m7; rw [nf h1,nf h2,c8 h0]; rfl)⟩
def Ul:aH:=df 28 ma ma (fun f g=>gK (f ())/\gK (g ())) (fun f g => .aU [.int .i64 fun _=>(rG (bn (f ())) (bn (g ()))).1,.int .i64 fun _=>(rG (bn (f ())) (bn (g ()))).2])
theorem aeu:aK Tryz.prog Ul:=by
 refine eE { kp := [(0,[0,1]),(1,[2,3]),(2,[]),(3,[2,3]),(4,[]),(5,[2,3]),(6,[2]),(7,[]),(8,[]),(9,[2,3]),(10,[2,3,6,7]),(11,[2,6,7,8,9]),(12,[2,10]),(13,[10]),(14,[10])],lt := [] } [Dd,C4,C8,L5] ⟨G5,GL,GV,TX,trivial⟩ [] trivial Tryz.func28 (by kernel_rfl) fun ai res h hp => ?_;obtain⟨(f:bj),(g:bj),rfl,rfl⟩:=dz h;clear h;refine⟨[],?_⟩
 conv=>arg 1; cbv
 simp (maxSteps:=4000000) only [aB,aR,aS,bw];obtain⟨_,hf,re⟩:=nI hp.1;obtain⟨_,hg,tD⟩:=nI hp.2;have l7:f.neg=(bn f).neg:=rfl;have po:g.neg=(bn g).neg:=rfl;simp only [qY];simp only [ik,ew,l7,po];rw [aej hp.1,aej hp.2];clear re tD l7 po;generalize bn f=F at *
 generalize bn g=G at *
 have vr:=gg hf.1;have tE:=gg hf.2;have vu:=gg hg.1;have tF:=gg hg.2;have nt:∀ {b:Bool},(!b)=true->b=false:=fun h=>by simpa using h
 have nf:∀ {b:Bool},(!b)=false->b=true:=fun h=>by simpa using h
 have m1:=vq vr tF;have m2:=vq vu tE;have m3:=vq tE tF;have i1:=dE (n:=F.num) oo;have i2:=dE (n:=F.den) oo;have i3:=dE (n:=G.num) oo;have i4:=dE (n:=G.den) oo;have j1:=dE (n:=F.num*G.den) oo;have j2:=dE (n:=G.num*F.den) oo;have sw : -mo (F.num*G.den) (G.num*F.den)=mo (G.num*F.den) (F.num*G.den):=atm _ _;have b1:∀ {b c:Bool},(b != c)=false->b=c:=fun h=>by simpa using h
 unfold rG;refine⟨hp.1,fun h1=>by rw [nt h1]; exact⟨rfl,rfl⟩,fun h1=>⟨hp.2,fun h2=>by rw [nt h2,tY]; exact⟨rfl,rfl⟩,fun h2 => ?_⟩⟩;rw [nf h1,nf h2];refine⟨fun e => ?_,fun e=>⟨fun s=>⟨fun hs => ?_,fun hs => ?_⟩,fun s=>⟨hp.1,hp.2,⟨i1,i4⟩,⟨i3,i2⟩,⟨j1,j2⟩,fun hs => ?_,fun hs => ?_⟩⟩⟩
 . obtain rfl:=arH hf hg e;cases F.neg<;>simp [N1]
 . rw [hs] at s ⊢;rw [show G.neg=false by simpa using s];exact⟨rfl,rfl⟩
 . rw [hs] at s ⊢;rw [show G.neg=true by simpa using s];exact⟨rfl,rfl⟩
 . rw [<- b1 s,hs,sw];refine⟨?_,rfl,rfl⟩;unfold mo;split
   . exact⟨by decide,by decide⟩
   . split<;>exact⟨by decide,by decide⟩
 . rw [<- b1 s,hs];exact⟨rfl,rfl⟩
def nd(n:Nat):List Int:=cl (bf B16 n)
def atr(c:Unit->y5):List AV:=kj (fun _=>(c ()).x)++(kj (fun _=>(c ()).y)++kj fun _=>(c ()).z)
def y5.fits(c:y5):Prop:=c.x.fits/\c.y.fits/\c.z.fits
theorem aev(l):(findF l).1.fits:=by
 unfold findF;split
 . split
   . exact aew
   . exact⟨xz _ _,xz _ _,xz _ _⟩
 . exact aew
section
variable{w:World}{ρ:Nat->Option Rl}{base:Nat}{ro:Nat->Prop}{v:Value}
end
end Go.Proofs.YtlpikgchnjajmaaGreat
