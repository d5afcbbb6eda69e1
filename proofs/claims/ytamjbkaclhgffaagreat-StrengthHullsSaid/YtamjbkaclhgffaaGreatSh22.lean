/-
  twistlockref01 by the abstract run: sub, scale.
-/
import Derived.Test.YtamjbkaclhgffaaGreatSh21
set_option linter.all false
set_option maxRecDepth 100000
set_option maxHeartbeats 4000000
namespace Go.Proofs.YtamjbkaclhgffaaGreat
open Go.RowKit
variable{p:List Nat×Nat}{a b c d i j m n r x y:Nat}
theorem EY{o:List Nat}(h:cz ak o)(hl:o.length<=1000000):zZ (cl o):=by
 refine⟨fun d hd => ?_,by rw [iN]; exact hl⟩;obtain⟨x,hx,rfl⟩:=lW.1 hd;have:=h x hx;have e:ak=65536:=rfl;omega
theorem af3{l:List Int}{z:Int}(h:z=(r:Int)):l ++ [z]=l++cl [r]:=by rw [h]; rfl
theorem af4(h:y<=x):(aq ak y).length<=(aq ak x).length:=by
 rcases cv (aq ak x).length (aq ak y).length with g|g
 . have:=Du bT g;omega
 . exact g
def I3(x y n:Nat)(p:List Nat×Nat):Prop:=(aZ ak p.1+aZ ak ((aq ak y).take p.1.length)=aZ ak ((aq ak x).take p.1.length)+ak^p.1.length*p.2/\cz ak p.1)/\p.2<=1/\p.1.length<=n
theorem awb{w:Nat}(h:I3 x y n p)(hc:p.1.length<n)(hr:r+p.2+(aq ak y).getD p.1.length 0=(aq ak x).getD p.1.length 0+ak*w)(Ek:r<65536)(hw:w<=1):I3 x y n (p.1 ++ [r],w):=by
 obtain⟨⟨h1,h2⟩,h3,h4⟩:=h;have hl:(p.1 ++ [r]).length=p.1.length+1:=by rw [c9]; rfl
 have hst:=aud (B:=ak) (a:=aq ak x) (b:=aq ak y) (o:=p.1) (owed:=p.2) (owed':=w) (r:=r) h1 hr;refine⟨⟨?_,h2.append fun d hd => ?_⟩,hw,by show (p.1 ++ [r]).length<=n; omega⟩
 . show aZ ak (p.1 ++ [r])+aZ ak ((aq ak y).take (p.1 ++ [r]).length)=aZ ak ((aq ak x).take (p.1 ++ [r]).length)+ak^(p.1 ++ [r]).length*w
   rw [hl];exact hst
 . rw [oq] at hd;rw [hd];exact Ek
theorem awc(hn:(aq ak x).length=n)(hyx:y<=x)(h:I3 x y n p)(h5:n<=p.1.length):aZ ak p.1=x - y:=by
 obtain⟨⟨h1,h2⟩,h3,h4⟩:=h;have hm:=af4 hyx;rw [ez oo,ez oo,kH bT,kH bT] at h1;have af:=sj p.1 h2;have:p.2=0:=by
  rcases vH p.2 with g|g
  . exact g
  . have e:p.2=1:=oo
    rw [e,lX] at h1;omega
 rw [this,uq] at h1;omega
def awe(x y n T:Nat):Lp where
 X:=List Nat×Nat
 ov p := [(7,.int .i64 fun _=>(p.1.length:Int)),(6,.int .i64 fun _=>(p.2:Int)),(5,.own 0)]
 oe p := [(0,.row true .int T fun _=>cl p.1)]
 I p:=I3 x y n p
 μ p _:=n - p.1.length
 x0:=([],0)
 nx:=none
def Vv:aC:=bE 205 gi gi (fun a b=>(dY (a ())/\dY (b ()))/\(a ()).length<=100000/\vl (b ())<=vl (a ())) (fun a b => .sl false .int fun _=>nd (vl (a ()) - vl (b ())))
theorem af5:aE Tryz.prog Vv:=by
 refine bZ { fz := [(13,[0])],kp := [(0,[0,1]),(1,[0,1]),(2,[0,1,5]),(3,[0,1,5,6]),(4,[0,1,5,6,7]),(5,[0,1,5,6,7]),(6,[0,1,5,6,7]),(7,[0,1,5,7,8]),(8,[0,1,5,7,8]),(9,[0,1,5,7,8]),(10,[0,1,5,6,7,8]),(11,[0,1,5,7,8]),(12,[0,1,5,6,7,8]),(13,[5])] } [EX] ⟨I0,trivial⟩ [] trivial Tryz.func205 (by kernel_rfl) fun ah res h hp => ?_;obtain⟨(a:List Int),(b:List Int),rfl,rfl⟩:=bG h;clear h;obtain⟨⟨ha,hb⟩,hn,hle⟩:(dY a/\dY b)/\a.length<=100000/\vl b<=vl a:=hp;obtain⟨x,rfl⟩:=oW ha;obtain⟨y,rfl⟩:=oW hb;clear ha hb;refine bk (nd x) fun a hA => ?_;refine bk (nd y) fun b hB => ?_;have jv:vl a=x:=by rw [<- hA,ky]
 have sU:vl b=y:=by rw [<- hB,ky]
 rw [hA] at hn hle ⊢;rw [hB] at hle ⊢;rw [jv,sU] at hle;refine bk a.length fun n mK => ?_;refine bk b.length fun m rI => ?_;have qx:(aq ak x).length=n:=by rw [<- mK,<- hA,gZ]
 have yk:(aq ak y).length=m:=by rw [<- rI,<- hB,gZ]
 have z6:∀ i,a.getD i 0=((aq ak x).getD i 0:Nat):=fun i=>by rw [<- hA]; exact qw _ _
 have zW:∀ i,b.getD i 0=((aq ak y).getD i 0:Nat):=fun i=>by rw [<- hB]; exact qw _ _
 refine⟨[(4,awe x y n 3)],?_⟩
 conv=>arg 1; cbv
 refine⟨?_,fun (p:List Nat×Nat) hp => ?_⟩
 . simp (maxSteps:=4000000) only [ay,aJ,aH,aO];exact⟨⟨⟨by simp [aZ],fun d hd=>by cases hd⟩,by decide,bw _⟩,rfl,rfl,rfl⟩
 have hI:I3 x y n p:=hp;clear hp;refine fm ?_;have dr:Tc.int.aa=0:=rfl;have nM:=(cz.aq bT x).getD (by decide) p.1.length;have A3:=(cz.aq bT y).getD (by decide) p.1.length;have hy2:m<=p.1.length->(aq ak y).getD p.1.length 0=0:=fun h=>Co oo;have hw:=hI.2.1;have hlen:=hI.2.2;have hN:=fun (r w:Nat) h1 h2 h3 h4=>awb (r:=r) (w:=w) hI h1 h2 h3 h4;have hE:=fun h=>awc qx hle hI h;have rE:=EY hI.1.2 oo;have hB:ak=65536:=rfl;simp only [z6,zW,dr,mK,rI,jv,sU,iN,CC];generalize (aq ak x).getD p.1.length 0=A at *
 generalize (aq ak y).getD p.1.length 0=C at *
 (repeat' (first|exact rE|apply And.intro|intro _))<;>first
  | (exfalso; omega)
  | omega
  | (simp only [aP]; omega)
  | (simp only [dE,hZ]; omega)
  | exact rE
  | exact congrArg nd (hE oo)
  | (refine bk (p.1 ++ [A+65536 - p.2 - C]) fun o ho => ?_
     refine⟨(o,1),⟨by rw [<- ho]; exact hN _ 1 oo oo oo oo,by show n - o.length<n - p.1.length; rw [<- ho,c9]; show n - (p.1.length+1)<_; omega⟩,?_⟩
     conv=>arg 1; cbv
     simp (maxSteps:=4000000) only [ay];exact⟨by rw [<- ho,c9]; rfl,by first|trivial|rfl|omega,by rw [<- ho,wJ]; exact af3 oo⟩)
  | (refine bk (p.1 ++ [A - p.2 - C]) fun o ho => ?_
     refine⟨(o,0),⟨by rw [<- ho]; exact hN _ 0 oo oo oo oo,by show n - o.length<n - p.1.length; rw [<- ho,c9]; show n - (p.1.length+1)<_; omega⟩,?_⟩
     conv=>arg 1; cbv
     simp (maxSteps:=4000000) only [ay];exact⟨by rw [<- ho,c9]; rfl,by first|trivial|rfl|omega,by rw [<- ho,wJ]; exact af3 oo⟩)
def I4(x b n:Nat)(p:List Nat×Nat):Prop:=(aZ ak p.1+ak^p.1.length*p.2=aZ ak ((aq ak x).take p.1.length)*b/\cz ak p.1)/\p.2<65536/\(p.1.length<=n\/(p.1.length=n+1/\p.2=0))
def rJ(x b:Nat)(p:List Nat×Nat):Nat:=p.2+(aq ak x).getD p.1.length 0*b
def I5(x b:Nat)(p:List Nat×Nat):List Nat×Nat:=(p.1 ++ [rJ x b p % 65536],rJ x b p / 65536)
theorem af6(hb:b<65536)(h:p.2<65536):rJ x b p<4294967296:=by
 have h1:=(cz.aq bT x).getD (by decide) p.1.length;unfold rJ;have e:ak=65536:=rfl;have h2:(aq ak x).getD p.1.length 0*b<=65535*65535:=vP oo oo;omega
theorem awf(hn:(aq ak x).length=n)(hb:b<65536)(h:I4 x b n p)(hc:p.1.length<n\/0<p.2):I4 x b n (I5 x b p):=by
 obtain⟨⟨h1,h2⟩,h3,h4⟩:=h;have hs:=af6 (x:=x) hb h3;have hst:=aue (B:=ak) (a:=aq ak x) (o:=p.1) (c:=p.2) (by_:=b) h1;have hl:(p.1 ++ [rJ x b p % 65536]).length=p.1.length+1:=by rw [c9]; rfl
 refine⟨⟨?_,h2.append fun d hd => ?_⟩,?_,?_⟩
 . rw [show (I5 x b p).1.length=p.1.length+1 from hl];exact hst
 . rw [oq] at hd;rw [hd];exact jk _ (by decide)
 . show rJ x b p / 65536<65536
   omega
 . show (p.1 ++ [rJ x b p % 65536]).length<=n\/((p.1 ++ [rJ x b p % 65536]).length=n+1/\rJ x b p / 65536=0)
   rw [hl];by_cases c1:p.1.length<n
   . exact .inl c1
   have e1:(aq ak x).getD p.1.length 0=0:=Co oo;refine .inr ⟨by rcases h4 with h4|h4<;>omega,?_⟩;unfold rJ;rw [e1,vR];omega
theorem awg(hn:(aq ak x).length=n)(h:I4 x b n p)(h5:n<=p.1.length)(h6:p.2=0):aZ ak p.1=x*b:=by
 obtain⟨⟨h1,h2⟩,h3,h4⟩:=h;rw [ez oo,kH bT,h6,uq,jD] at h1;exact h1
def awh(x b n T:Nat):Lp where
 X:=List Nat×Nat
 ov p := [(7,.int .i64 fun _=>(p.1.length:Int)),(6,.int .i64 fun _=>(p.2:Int)),(5,.own 0)]
 oe p := [(0,.row true .int T fun _=>cl p.1)]
 I p:=I4 x b n p
 μ p _:=n+2 - p.1.length
 x0:=([],0)
 nx:=none
def Vw:aC:=bE 242 gi kI (fun a b=>(dY (a ())/\(a ()).length<=100000)/\0<=b ()/\b ()<65536) (fun a b => .sl false .int fun _=>nd (vl (a ())*(b ()).toNat))
theorem af7:aE Tryz.prog Vw:=by
 refine bZ { fz := [(10,[0])],kp := [(0,[0,1]),(1,[0,1]),(2,[0,1,5]),(3,[0,1,5,6]),(4,[0,1,5,6,7]),(5,[0,1,5,6,7]),(6,[0,1,5,6,7]),(7,[0,1,5,6,7]),(8,[0,1,5,6,7]),(9,[0,1,5,6,7]),(10,[5])] } [EX] ⟨I0,trivial⟩ [] trivial Tryz.func242 (by kernel_rfl) fun ah res h hp => ?_;obtain⟨(a:List Int),(b:Int),rfl,rfl⟩:=bG h;clear h;obtain⟨⟨ha,hn⟩,gu,c6⟩:(dY a/\a.length<=100000)/\0<=b/\b<65536:=hp;obtain⟨x,rfl⟩:=oW ha;obtain⟨b,rfl⟩:=om gu;clear ha;have Eh:b<65536:=oo
 refine bk (nd x) fun a hA => ?_;have jv:vl a=x:=by rw [<- hA,ky]
 rw [hA] at hn ⊢;refine bk a.length fun n mK => ?_;have qx:(aq ak x).length=n:=by rw [<- mK,<- hA,gZ]
 have z6:∀ i,a.getD i 0=((aq ak x).getD i 0:Nat):=fun i=>by rw [<- hA]; exact qw _ _
 refine⟨[(4,awh x b n 3)],?_⟩
 conv=>arg 1; cbv
 refine⟨?_,fun (p:List Nat×Nat) hp => ?_⟩
 . exact af2
 have hI:I4 x b n p:=hp;clear hp;refine fm ?_;have dr:Tc.int.aa=0:=rfl;have nM:=(cz.aq bT x).getD (by decide) p.1.length;have we:n<=p.1.length->(aq ak x).getD p.1.length 0=0:=fun h=>Co oo;have awa:rJ x b p=p.2+(aq ak x).getD p.1.length 0*b:=rfl;have hS:=af6 (x:=x) Eh hI.2.1;have hlen:p.1.length<=n+1:=by rcases hI.2.2 with h|h<;>omega
 have hN:=fun h=>awf qx Eh hI h;have hE:=fun h5 h6=>awg qx hI h5 h6;have rE:=EY hI.1.2 oo;have wQ:(I5 x b p).1=p.1 ++ [rJ x b p % 65536]:=rfl;have jq:(I5 x b p).2=rJ x b p / 65536:=rfl;have hB:ak=65536:=rfl;have hP:∀ A:Nat,((A:Int)*(b:Int))=((A*b:Nat):Int):=fun A=>(Kn A b).symm;have Nf:n<=p.1.length->(aq ak x).getD p.1.length 0*b=0:=fun h=>by rw [we h,vR]
 have hP3:(aq ak x).getD p.1.length 0*b<=65535*65535:=vP oo oo;simp only [z6,dr,mK,jv,iN,CC,fB,hP];clear nM we z6 hI;generalize I5 x b p=q at *
 generalize (aq ak x).getD p.1.length 0*b=P at *
 generalize rJ x b p=s at *
 have yi:q.1.length=p.1.length+1:=by rw [wQ,c9]; rfl
 (repeat' (first|exact rE|apply And.intro|intro _))<;>first
  | (exfalso; omega)
  | omega
  | (simp only [aP]; omega)
  | (simp only [dE,hZ]; omega)
  | exact congrArg nd (hE oo oo)
  | (refine⟨q,⟨hN oo,by rw [yi]; omega⟩,?_⟩
     conv=>arg 1; cbv
     simp (maxSteps:=4000000) only [ay];exact⟨by rw [yi]; rfl,(afZ (s:=s) oo oo).trans (by rw [jq]),by rw [wQ,wJ,af0 (s:=s) oo]; rfl⟩)
def af8:aC:=cL 159 gi (fun a=>dY (a ())/\(a ()).length<=100000) (fun a => .bool fun _=>decide (vl (a ())=1))
theorem awi:aE Tryz.prog af8:=by
 refine bD [] trivial Tryz.func159 (by kernel_rfl) fun ah res h hp => ?_;obtain⟨(a:List Int),rfl,rfl⟩:=cS h;clear h;have ma:dY a/\a.length<=100000:=hp;have ha:=ma.1;have hn:=ma.2;obtain⟨x,rfl⟩:=oW ha;refine⟨[],?_⟩;refine fm ?_;rw [ky];refine⟨fun g=>⟨⟨oo,oo⟩,?_⟩,fun g => ?_⟩
 . have h1:(aq ak x).length=1:=by rw [gZ] at g; omega
   have e:=auf h1;have e2:(nd x).getD 0 Tc.int.aa=(x:Int):=by unfold nd; rw [e]; rfl
   rw [show (0:Int).toNat=0 from rfl] at *
   simp only [e2];by_cases h:x=1
   . subst h; rfl
   . rw [dB h,dB oo]
 . rw [yQ,ew];intro h;subst h;apply g;rw [gZ,Y7 bT];rfl
def awj(x y n:Nat):Lp where
 X:=Nat
 ov k := [(5,.int .i64 fun _=>(k:Int) - 1)]
 oe _ := []
 I k:=k<=n/\(aq ak x).drop k=(aq ak y).drop k
 μ k _:=k
 x0:=n
 nx:=some fun k=>k - 1
def Vx:aC:=bE 204 gi gi (fun a b=>(dY (a ())/\dY (b ()))/\(a ()).length<=100000/\(b ()).length<=100000) (fun a b => .bool fun _=>decide (vl (a ())<vl (b ())))
theorem af9:aE Tryz.prog Vx:=by
 refine bZ { kp := [(0,[0,1]),(1,[0,1]),(2,[0,1]),(3,[0,1]),(4,[0,1,5]),(5,[0,1,5]),(6,[0,1,5]),(7,[0,1,5]),(8,[])] } [] trivial [] trivial Tryz.func204 (by kernel_rfl) fun ah res h hp => ?_;obtain⟨(a:List Int),(b:List Int),rfl,rfl⟩:=bG h;clear h;obtain⟨⟨ha,hb⟩,hn,hm⟩:(dY a/\dY b)/\a.length<=100000/\b.length<=100000:=hp;obtain⟨x,rfl⟩:=oW ha;obtain⟨y,rfl⟩:=oW hb;clear ha hb;refine bk (nd x) fun a hA => ?_;refine bk (nd y) fun b hB => ?_;have jv:vl a=x:=by rw [<- hA,ky]
 have sU:vl b=y:=by rw [<- hB,ky]
 rw [hA] at hn ⊢;rw [hB] at hm ⊢;refine bk a.length fun n mK => ?_;have qx:(aq ak x).length=n:=by rw [<- mK,<- hA,gZ]
 have yk:(aq ak y).length=b.length:=by rw [<- hB,gZ]
 have z6:∀ i,a.getD i 0=((aq ak x).getD i 0:Nat):=fun i=>by rw [<- hA]; exact qw _ _
 have zW:∀ i,b.getD i 0=((aq ak y).getD i 0:Nat):=fun i=>by rw [<- hB]; exact qw _ _
 refine⟨[(4,awj x y n)],?_⟩;refine fm ?_;simp only [jv,sU,mK];refine⟨fun g => ?_,fun g => ?_⟩
 . simp only [fG,ew] at g;have e:((n:Int)<(b.length:Int))↔x<y:=by
    constructor
    . intro h;exact Du bT oo
    . intro h;have:=af4 (AO h);omega
   exact vM.2 e
 simp only [iR,aU] at g;have km:b.length=n:=oo
 refine⟨ii,⟨⟨aN _,?_⟩,trivial⟩,fun (k:Nat) hk => ?_⟩
 . rw [YG (by rw [qx]; exact aN _),YG (by rw [yk,km]; exact aN _)]
 have bu:k<=n/\(aq ak x).drop k=(aq ak y).drop k:=hk;have bM:=bu.1;have bm:=bu.2;refine fm ?_;have dr:Tc.int.aa=0:=rfl;simp only [jv,sU,mK,km,dr,z6,zW];refine⟨fun g0=>⟨⟨oo,oo⟩,⟨oo,oo⟩,fun c=>⟨⟨oo,oo⟩,⟨oo,oo⟩,?_⟩,fun c=>⟨ii,⟨⟨oo,?_⟩,oo⟩,oo⟩⟩,fun g0 => ?_⟩
 . simp only [fG,ew] at c;have hl:cK x=cK y:=by show (aq ak x).length=(aq ak y).length; omega
   have e1:(aq ak x).drop (k - 1+1)=(aq ak y).drop (k - 1+1):=by rw [show k - 1+1=k from oo]; exact bm
   apply vM.2;constructor
   . intro h;exact aeK hl (j:=k - 1) (by show k - 1<(aq ak x).length; omega) e1 oo
   . intro h;rcases cv ((aq ak x).getD (k - 1) 0) ((aq ak y).getD (k - 1) 0) with g1|g1
     . omega
     . have:=aeK hl.symm (j:=k - 1) (by show k - 1<(aq ak y).length; omega) e1.symm oo;omega
 . simp only [iR,aU] at c;have hj:k - 1<(aq ak x).length:=oo
   have gI:k - 1<(aq ak y).length:=oo
   show (aq ak x).drop (k - 1)=(aq ak y).drop (k - 1)
   rw [rZ hj,rZ gI,show k - 1+1=k from oo,bm];congr 1;rw [aY,bq hj,aY,bq gI] at c;exact Int.ofNat.inj c
 . have tq:k=0:=oo
   subst tq;have e:x=y:=Y3 bT bm;subst e;rw [dB (Nat.lt_irrefl _)]
theorem Vy(x:Nat)(h:cK x=n):pad ak n x=aq ak x:=by
 rw [KE bT (eC bT (mU h)),show n - (aq ak x).length=0 by show n - cK x=0; omega,List.replicate_zero,th]
def awk(x n T:Nat):Lp where
 X:=Nat
 ov k := [(0,.int .u64 fun _=>((x / ak^k:Nat):Int)),(3,.own 0)]
 oe k := [(0,.row true .int T fun _=>cl (pad ak k x))]
 I k:=k<=n
 μ k _:=n - k
 x0:=0
 nx:=some fun k=>k+1
def aga:aC:=cL 254 aeH (fun a=>0<=a ()/\a ()<18446744073709551616) (fun a => .sl true .int fun _=>nd (a ()).toNat)
theorem awl:aE Tryz.prog aga:=by
 refine bZ { kp := [(0,[0]),(1,[0]),(2,[0,3]),(3,[0,3]),(4,[0,3]),(5,[3])] } [] trivial [] trivial Tryz.func254 (by kernel_rfl) fun ah res h hp => ?_;obtain⟨(a:Int),rfl,rfl⟩:=cS h;clear h;have u9:0<=a/\a<18446744073709551616:=hp;have h0:=u9.1;have h1:=u9.2;obtain⟨x,rfl⟩:=om h0;obtain⟨n,hn⟩:∃ n,n=cK x:=⟨_,rfl⟩
 have hx:x<18446744073709551616:=oo
 refine⟨[(2,awk x n 3)],?_⟩;refine fm ?_;refine⟨⟨bw _,by rw [mT,sf],rfl⟩,fun (k:Nat) hk => ?_⟩;have bM:k<=n:=hk;refine fm ?_;have hq:x / 65536^k<=x:=yJ _ _;have e1:x / 65536^(k+1)=x / 65536^k / 65536:=by rw [iE,vE]
 have e2:pad 65536 (k+1) x=pad 65536 k x ++ [x / 65536^k % 65536]:=UY 65536 k x;have af:k<n↔65536^k<=x:=by rw [hn]; exact uw bT
 have h8:n<=4:=by rw [hn]; exact gr bT (iT hx (by decide))
 have zw:0<x / 65536^k->k<n:=fun h=>af.2 (Kr fun h2=>by rw [jA h2] at h; omega);have hzero:x / 65536^k=0->n<=k:=fun h=>Kr fun h2=>by
  have:=Nat.div_pos (af.1 h2) (yN (by decide:0<65536));omega
 have dh:(cl (pad 65536 k x)).length=k:=by rw [iN,fg]
 rw [e1,e2,wJ,dh];generalize x / 65536^k=q at *
 have t1:((q:Nat):Int).tmod 65536=((q % 65536:Nat):Int):=rfl;have t2:((q:Nat):Int).tdiv 65536=((q / 65536:Nat):Int):=rfl;rw [t1,t2,gJ oo];refine⟨fun g => ?_,fun g => ?_⟩
 . have:=zw oo;exact⟨by decide,ii,by simp only [dE,hZ]; omega,by decide,⟨oo,oo⟩,rfl,rfl⟩
 . have:=hzero oo;have eV:k=n:=oo
   subst eV;show cl (pad ak k x)=_
   rw [Vy x hn.symm];rfl
theorem agb(d m:Nat):vl ([(d:Int)]++nd m)=d+65536*m:=by
 show vl (cl (d::aq ak m))=_
 rw [CC,uv,kH bT]
theorem agc(hd:d<65536)(h:cK m<=999999):zZ ([(d:Int)]++nd m):=EY (o:=d::aq ak m) (fun q hq=>by
 rcases gD.1 hq with h|h
 . rw [h]; exact hd
 . exact cz.aq bT m q h) (by show (aq ak m).length+1<=_; have:(aq ak m).length=cK m:=rfl; omega)
theorem awm(h:cK m<=999999):zZ (nd m):=EY (cz.aq bT m) (cd h (by decide))
theorem EZ(y i:Nat):(nd y).getD i Tc.int.aa=((y / ak^i % 65536:Nat):Int):=by
 have:=UX bT y i;show (nd y).getD i 0=_
 unfold nd;rw [qw,this]
theorem vh(hx:cK x<=a)(hy:cK y<=b):cK (x*y)<=a+b:=by
 refine gr bT ?_;rw [vT];exact YR (eC bT hx) (eC bT hy)
theorem wU(h:x<=y):cK x<=cK y:=gr bT (pX h (eC bT (aN _)))
theorem agd(h:d<65536):cK d<=1:=gr bT (by rw [Qb]; exact h)
theorem I6(y j:Nat):y / ak^(j+1)=y / ak^j / 65536:=by rw [iE,vE]
theorem Vz:jb Tryz.prog (giveUp 206):=UN Tryz.func206 (by kernel_rfl)
def awn(x y n:Nat):Lp where
 X:=Nat
 ov k := [(6,.int .i64 fun _=>(k:Int) - 1),(5,.sl false .int fun _=>nd (x*(y / ak^k)))]
 oe _ := []
 I k:=k<=n
 μ k _:=k
 x0:=n
 nx:=some fun k=>k - 1
def N8:aC:=bE 201 gi gi (fun a b=>(dY (a ())/\dY (b ()))/\(a ()).length<=1000/\(b ()).length<=1000) (fun a b => .sl false .int fun _=>nd (vl (a ())*vl (b ())))
theorem VA:aE Tryz.prog N8:=by
 refine bZ { kp := [(0,[0,1]),(1,[0,1]),(2,[0,1,5]),(3,[0,1,5,6]),(4,[0,1,5,6]),(5,[0,1,5,6]),(6,[5])],lt := [(5,⟨[1,4,5,6,7,0,2,3,8,9,10,11],[1,4,5,6,7],[],[⟨[0,1,2,3,4],[0,1,5,6,14,15,16,17,18,21,22,23,24],(0,0),[(5,0,1),(8,8,2)]⟩,⟨[0,1,2,3,4,5],[0,1,5,6,14,15,16,17,18,21,22,23,24],(0,0),[(6,2,3),(8,8,4)]⟩,⟨[0,1,2,3,4,8],[0,1,5,6,14,15,16,17,18,22,23,24],(0,8),[(5,0,4)]⟩,⟨[0,1,2,3,4,5,6],[0,1,5,6,16,17,18,21,22,23,24],(1,2),[(7,3,5),(8,8,6)]⟩,⟨[0,1,2,3,4,5,8],[0,1,5,6,14,15,16,17,18,22,23,24],(1,8),[(6,2,6)]⟩,⟨[0,1,2,3,4,5,6,7],[0,1,5,6,17,18,21,22,23,24],(3,3),[(8,8,7)]⟩,⟨[0,1,2,3,4,5,6,8],[0,1,5,6,16,17,18,22,23,24],(3,8),[(7,3,7)]⟩,⟨[0,1,2,3,4,5,6,7,8],[0,1,5,6,17,18,22,23,24],(5,8),[]⟩],[9,10,11]⟩)] } [EX,Vw,Vu] ⟨I0,af7,af1,trivial⟩ [giveUp 206] ⟨Vz,trivial⟩ Tryz.func201 (by kernel_rfl) fun ah res h hp => ?_;obtain⟨(a:List Int),(b:List Int),rfl,rfl⟩:=bG h;clear h;obtain⟨⟨ha,hb⟩,hn,hm⟩:(dY a/\dY b)/\a.length<=1000/\b.length<=1000:=hp;obtain⟨x,rfl⟩:=oW ha;obtain⟨y,rfl⟩:=oW hb;rw [gZ] at hn hm;clear ha hb;obtain⟨m,vi⟩:∃ m,m=cK y:=⟨_,rfl⟩
 refine⟨[(3,awn x y m)],?_⟩;refine fm ?_;have uU:(nd y).length=m:=by rw [gZ,vi]
 have hm3:m<=1000:=by rw [vi]; exact hm
 refine⟨ii,⟨aN _,oo,?_⟩,fun (k:Nat) hk => ?_⟩
 . have:y<65536^m:=eC bT (mU vi.symm);rw [jA this,uq];rfl
 have bM:k<=m:=hk;refine fm ?_;simp only [ky,gZ,EZ,fB];have qx:cK x<=1000:=hn;have hyn:cK y<=1000:=hm;have hA:(aq ak (x*(y / 65536^k))).length<=2000:=vh qx (cd (wU (yJ _ _)) hyn);refine⟨fun g => ?_,fun g => ?_⟩
 . obtain⟨j,rfl⟩:∃ j,k=j+1:=⟨k - 1,oo⟩
   rw [pf];have hv:vl ([(0:Int)]++nd (x*(y / 65536^(j+1))))=65536*(x*(y / 65536^(j+1))):=(agb 0 _).trans (ia _);have hd:zZ ([(0:Int)]++nd (x*(y / 65536^(j+1)))):=agc (d:=0) (by decide) (cd hA (by decide));have hB:cK (65536*(x*(y / 65536^(j+1))))<=2+2000:=vh (by decide) hA;have e:y / 65536^(j+1)=y / ak^j / 65536:=I6 y j;have hC:cK (x*(y / ak^j % 65536))<=1000+1:=vh qx (agd (jk _ (by decide)));have hq:=jk (y / ak^j) (show 0<65536 by decide);have hlen:(aq ak y).length=m:=vi.symm;rw [hv,hlen];have h1:([(0:Int)].length+(aq ak (x*(y / 65536^(j+1)))).length)*8<=140737488355328:=by
    show (1+_)*8<=_
    omega
   refine⟨⟨oo,oo⟩,h1,hd,h1,hd,⟨⟨dt x,oo⟩,oo,oo⟩,⟨⟨dt _,dt _⟩,cd hB (by decide),cd hC (by decide)⟩,ii,⟨oo,oo⟩,oo,?_⟩;congr 1;show _=x*(y / ak^j)
   rw [e];generalize y / ak^j=Y;have:=Dm Y 65536
   calc 65536*(x*(Y / 65536))+x*(Y % 65536)=x*(65536*(Y / 65536)+Y % 65536):=by rw [ow,Kp]
    _=x*Y:=by rw [this]
 . have h0:k=0:=oo
   subst h0;exact⟨awm (cd hA (by decide)),by rw [mT,sf]⟩
def wV(x y m j:Nat):List Nat:=List.replicate j 0++pad ak (m - j) (x / y / ak^j)
theorem awp(h:j<=m):(wV x y m j).length=m:=by
 unfold wV;rw [c9,td,fg];omega
theorem awq(hj:j<m):(wV x y m (j+1)).set j (x / y / ak^j % ak)=wV x y m j:=by
 unfold wV;rw [List.replicate_succ',fl,YI _ _ (by rw [td]; exact aN _),td,vS];show List.replicate j 0++(x / y / ak^j % ak::pad ak (m - (j+1)) (x / y / ak^(j+1)))=_
 rw [show m - j=m - (j+1)+1 from oo];show _=List.replicate j 0++(x / y / ak^j % ak::pad ak (m - (j+1)) (x / y / ak^j / ak))
 rw [show x / y / ak^(j+1)=x / y / ak^j / ak from I6 (x / y) j]
theorem awr{R W:Nat}(hy:0<y)(hR:R=x / ak^(i+1) % y)(hW:W=x / ak^i % 65536+65536*R):W<65536*y/\W % y=x / ak^i % y/\x / y / ak^i % 65536=W / y/\W / y<=65535:=by
 have e:=I6 x i;have e2:x / y / ak^i=x / ak^i / y:=by rw [vE,vE,j8]
 rw [e] at hR;rw [e2];generalize x / ak^i=A at *
 have h1:=Dm A 65536;have h2:=Dm (A / 65536) y;rw [<- hR] at h2;have h3:=jk (A / 65536) hy;rw [<- hR] at h3;have h4:W / y<65536:=by rw [hW]; exact aug h3 (jk _ (by decide))
 have h5:A=W+y*(65536*(A / 65536 / y)):=by
  generalize A / 65536 / y=Q at *
  generalize A % 65536=a at *
  generalize A / 65536=D at *
  subst hW;rw [<- h1,<- h2,ow,Kp];omega
 refine⟨?_,?_,?_,oo⟩
 . have:=j7 65536 (show R+1<=y from oo);have:=jk A (show 0<65536 by decide);omega
 . rw [h5,xq]
 . have h6:A / y=W / y+65536*(A / 65536 / y):=by
    conv=>lhs; rw [h5]
    exact xr _ _ hy
   rw [h6,xq,er h4]
theorem aws{p:Nat}(hx:cK x=m+p)(hy:cK y=p+1):List.drop m (List.take (m+p) (nd x))=nd (x / ak^m % y):=by
 have IW:=eC bT (n:=x) (k:=m+p) (mU hx);have h1:x / ak^m<ak^p:=by
  rw [AH (yN (by decide)),<- vT,Gb p m];exact IW
 have h2:ak^p<=y:=(uw bT).1 (show p<cK y from oo);have h3:cK (x / ak^m)=p:=by
  refine Nat.le_antisymm (gr bT h1) ?_;rcases vH p with h|h
  . omega
  . have h4:p - 1<cK (x / ak^m):=(uw bT).2 (by
     rw [PY (yN (by decide)),<- vT];exact (uw bT).1 (show p - 1+m<cK x from oo))
    omega
 rw [er oo];unfold nd;rw [<- Vy x hx,<- Vy _ h3,yd,ez U2,Cn,zU _ _ _ _ (anh _ _),Yy]
theorem awt{p:Nat}(hx:cK x=m+p)(hy:cK y=p+1):x / y<ak^m:=by
 have IW:=eC bT (n:=x) (k:=m+p) (mU hx);have h2:ak^p<=y:=(uw bT).1 (show p<cK y from oo);have h4:ak^p*ak^m<=y*ak^m:=pd _ h2;rw [<- vT,Gb p m] at h4;exact AI oo
theorem awu(x y m:Nat):wV x y m 0=pad ak m (x / y):=by
 unfold wV;rw [sd,mT,sf];rfl
theorem awv(W n:Nat):aZ ak ((aq ak W).drop n)=W / ak^n:=by
 obtain⟨h1,h2⟩:=UL W n;generalize aZ ak ((aq ak W).drop n)=d at *
 generalize aZ ak ((aq ak W).take n)=t at *
 rw [h1,xr _ _ (yN (by decide)),jA h2,ia]
theorem aww{W p T:Nat}(hy:cK y=p+1)(w1:W<65536*y)(hT:T=W / ak^p)(hd:d=y / ak^p % 65536):0<d/\d<65536/\T<4294967296/\T / (d+1)<=W / y/\W / y<=T / d:=by
 obtain⟨h1,_,_⟩:=aeL hy.symm;obtain⟨h2,h3⟩:=auh (W:=W) hy.symm;have h4:=aui hy.symm w1;rw [awv] at h2 h3 h4;rw [UX bT] at h1 h2 h3;subst hT hd;exact⟨h1,jk _ (by decide),h4,h2,h3⟩
theorem awx{W:Nat}:((W / 65536^(c+1):Nat):Int)*65536+((W / ak^c % 65536:Nat):Int)=((W / 65536^c:Nat):Int):=by
 rw [show W / 65536^(c+1)=W / 65536^c / 65536 from I6 W c];have h:=Dm (W / 65536^c) 65536;show _+((W / 65536^c % 65536:Nat):Int)=_
 omega
theorem awy(a:Nat):(bif decide ((65535:Int)<(a:Int)) then (65535:Int) else (a:Int))=((min a 65535:Nat):Int):=by
 cases h:decide ((65535:Int)<(a:Int)) with
 | true=>have:=r8 h; rw [pg]; omega
 | false=>have:=FV h; rw [qP]; omega
def awz(x y m T:Nat):Lp where
 X:=Nat
 ov j := [(9,.int .i64 fun _=>(j:Int) - 1),(7,.sl false .int fun _=>nd (x / ak^j % y)),(8,.own 1)]
 oe j := [(1,.row true .int T fun _=>cl (wV x y m j))]
 I j:=j<=m
 μ j _:=j
 x0:=m
 nx:=some fun j=>j - 1
def awA(W L n:Nat):Lp where
 X:=Nat
 ov c := [(11,.int .i64 fun _=>(c:Int) - 1),(10,.int .i64 fun _=>((W / ak^c:Nat):Int))]
 oe _ := []
 I c:=c<=L/\(n<=c\/c=L)
 μ c _:=c
 x0:=L
 nx:=some fun c=>c - 1
def awB(q lo hi:Nat)(nf:Nat×Nat->Nat×Nat):Lp where
 X:=Nat×Nat
 ov p := [(12,.int .i64 fun _=>(p.1:Int)),(13,.int .i64 fun _=>(p.2:Int))]
 oe _ := []
 I p:=p.1<=q/\q<=p.2/\p.2<=65535
 μ p _:=p.2 - p.1
 x0:=(lo,hi)
 nx:=some nf
def VB:aC:=bE 207 gi gi (fun a b=>(dY (a ())/\(a ()).length<=2000)/\(dY (b ())/\(b ()).length<=2000)/\0<vl (b ())) (fun a b => .bp [.sl false .int fun _=>nd (vl (a ()) / vl (b ())),.sl false .int fun _=>nd (vl (a ()) % vl (b ()))])
theorem age:aE Tryz.prog VB:=by
 refine bZ { fz := [(6,[0])],kp := [(0,[0,1]),(1,[0,1]),(2,[0]),(3,[0,1]),(4,[0,1,6]),(5,[0,1,6,7]),(6,[0,1,6,7,8]),(7,[0,1,6,7,8,9]),(8,[0,1,6,7,8,9]),(9,[0,1,6,7,8,9]),(10,[0,1,6,7,8,9]),(11,[0,1,6,7,8,9,10]),(12,[0,1,6,7,8,9,10,11]),(13,[0,1,6,7,8,9,10,11]),(14,[0,1,6,7,8,9,10,11]),(15,[0,1,6,7,8,9,10]),(16,[0,1,6,7,8,9,12,13]),(17,[0,1,6,7,8,9,12,13]),(18,[0,1,6,7,8,9,12,13,14]),(19,[0,1,6,7,8,9,12,14]),(20,[0,1,6,7,8,9,13,14]),(21,[0,1,6,7,8,9,12]),(22,[0,1,6,7,8,9,12]),(23,[7,8])],lt := [(15,⟨[0,1,2,3,4,5,6,7,8,9,10,11,12,13,14,15,16,17],[0,1,2,3,4,5,6,7,8,9,10,11,12,13,14,15,16,17],[],[],[]⟩)] } [EX,Vw,Vx,Vv] ⟨I0,af7,af9,af5,trivial⟩ [giveUp 206] ⟨Vz,trivial⟩ Tryz.func207 (by kernel_rfl) fun ah res h hp => ?_;obtain⟨(a:List Int),(b:List Int),rfl,rfl⟩:=bG h;clear h;obtain⟨⟨ha,hn⟩,⟨hb,hm⟩,gu⟩:(dY a/\a.length<=2000)/\(dY b/\b.length<=2000)/\0<vl b:=hp;obtain⟨x,rfl⟩:=oW ha;obtain⟨y,rfl⟩:=oW hb;rw [gZ] at hn hm;rw [ky] at gu;clear ha hb;have ix:dY (nd x):=dt x;have iy:dY (nd y):=dt y;obtain⟨p,z7⟩:∃ p,cK y=p+1:=⟨cK y - 1,by have h:0<cK y:=Gf bT oo; omega⟩
 obtain⟨m,vi⟩:∃ m,m=cK x+1 - cK y:=⟨_,rfl⟩
 refine⟨[(7,awz x y m 3)],?_⟩;refine fm ?_;simp only [ky,gZ];refine⟨⟨⟨ix,iy⟩,oo,oo⟩,fun g=>⟨?_,?_⟩,fun g => ?_⟩
 . rw [jA g]; rfl
 . rw [er g]
 have g1:y<=x:=by simpa using g
 have nu:cK y<=cK x:=wU g1;have nM:cK x=m+p:=oo
 have hL:(aq ak x).length=m+p:=nM;have hM:(aq ak y).length=p+1:=z7;have oN:(aq 65536 x).length=m+p:=nM;have VD:(aq 65536 y).length=p+1:=z7;rw [hL] at hn;rw [hM] at hm;have hmt:(((m+p:Nat):Int) - ((p+1:Nat):Int)+1).toNat=m:=oo
 simp only [hL,hM,oN,VD,hmt];refine⟨ii,ii,⟨oo,oo,oo⟩,?_,ii,ii,⟨oo,oo⟩,ii,⟨aN _,⟨oo,?_,?_⟩⟩,fun (j:Nat) hj => ?_⟩
 . rw [iU,cy,gZ,hL];show (0+_)*8<=_
   omega
 . exact aws nM z7
 . unfold wV;rw [vS,IB];show _=cl (List.replicate m 0 ++ [])
   rw [th]
 have p7:j<=m:=hj;refine fm ?_;simp only [ky,gZ,EZ,fB];refine⟨fun g => ?_,fun g => ?_⟩
 case refine_2 =>
  have h0:j=0:=oo
  subst h0;rw [awu,CC,ox (by decide) _ _ (awt nM z7),mT,sf];exact⟨EY (sm (by decide) _ _) wN,rfl,rfl⟩
 obtain⟨i,rfl⟩:∃ i,j=i+1:=⟨j - 1,oo⟩
 rw [pf];obtain⟨R,hR⟩:∃ R,R=x / ak^(i+1) % y:=⟨_,rfl⟩
 obtain⟨W,hW⟩:∃ W,W=x / ak^i % 65536+65536*R:=⟨_,rfl⟩
 obtain⟨w1,w2,w3,w4⟩:=awr gu hR hW;have hRx:R<y:=by rw [hR]; exact jk _ gu
 have VE:cK R<=p+1:=by rw [<- z7]; exact wU (AO hRx)
 have hdg:=jk (x / ak^i) (show 0<65536 by decide);have hWv:vl ([((x / ak^i % 65536:Nat):Int)]++nd R)=W:=by rw [agb,hW]
 have hdL:zZ ([((x / ak^i % 65536:Nat):Int)]++nd R):=agc hdg oo;have hR2:x / 65536^(i+1) % y=R:=hR.symm;simp only [hR2,hWv,hL,hM,oN,VD];obtain⟨L,N9⟩:∃ L,L=cK W:=⟨_,rfl⟩
 have VF:(aq ak W).length=L:=N9.symm;have awF:(aq ak R).length<=p+1:=VE;have tM:L<=p+2:=by
  rw [N9];refine gr bT ?_;have:=eC bT (n:=y) (k:=p+1) (mU z7);rw [iE];generalize ak^(p+1)=P at *
  show W<P*65536
  omega
 simp only [VF];refine⟨⟨oo,oo⟩,?_,hdL,ii,?_⟩
 . simp only [dE,hZ]; omega
 clear hWv hdL hW hR2 hR VE awF;refine⟨awA W L p,?_⟩;refine fm ?_;have nr:W / 65536^L=0:=jA (eC bT (mU N9.symm));refine⟨⟨⟨aN _,.inr trivial⟩,by rw [nr]; rfl⟩,fun (c:Nat) hc => ?_⟩;have I7:c<=L/\(p<=c\/c=L):=hc;have iw:=I7.1;have tC:=I7.2;clear hc;refine fm ?_;simp only [ky,gZ,EZ,fB,hL,hM,oN,VD,VF];obtain⟨T,hT⟩:∃ T,T=W / ak^p:=⟨_,rfl⟩
 obtain⟨d,hd⟩:∃ d,d=y / ak^p % 65536:=⟨_,rfl⟩
 obtain⟨d0,d1,t1,q1,q2⟩:=aww z7 w1 hT hd;refine⟨ii,fun g2 => ?_,fun g2 => ?_⟩
 . obtain⟨e,rfl⟩:∃ e,c=e+1:=⟨c - 1,oo⟩
   rw [pf,awx];have h1:W / 65536^e<=T:=by rw [hT]; exact Nat.div_le_div_left (ui (by decide) oo) (yN (by decide))
   have h2:W / 65536^(e+1)<=W / 65536^e:=Nat.div_le_div_left (ui (by decide) oo) (yN (by decide));generalize W / 65536^(e+1)=u at *
   generalize W / 65536^e=v at *
   exact⟨ii,⟨oo,oo⟩,ii,ii,⟨⟨oo,oo⟩,oo⟩,oo,rfl⟩
 have hTc:W / 65536^c=T:=by
  rcases tC with h|h
  . rw [hT,show c=p from oo]
  . subst h;rw [nr,hT];have h1:=eC bT (n:=W) (k:=c) (mU N9.symm);exact (jA (iT h1 (ui (by decide) oo))).symm
 rw [pf,<- hd,hTc];have e1:IntKind.i64.wrap ((T:Int).tdiv ((d:Int)+1))=((T / (d+1):Nat):Int):=by
  rw [show (T:Int).tdiv ((d:Int)+1)=((T / (d+1):Nat):Int) from rfl];have:=yJ T (d+1);generalize T / (d+1)=u at *
  exact wrap_i64 oo oo
 have e2:IntKind.i64.wrap ((T:Int).tdiv (d:Int))=((T / d:Nat):Int):=by
  rw [show (T:Int).tdiv (d:Int)=((T / d:Nat):Int) from rfl];have:=yJ T d;generalize T / d=u at *
  exact wrap_i64 oo oo
 simp only [e1,e2,awy];obtain⟨q,hq⟩:∃ q,q=W / y:=⟨_,rfl⟩
 obtain⟨lo,qS⟩:∃ lo,lo=T / (d+1):=⟨_,rfl⟩
 obtain⟨hi,sC⟩:∃ hi,hi=min (T / d) 65535:=⟨_,rfl⟩
 rw [<- qS,<- sC];have b1:lo<=q:=by rw [qS,hq]; exact q1
 have b2:q<=hi:=by rw [sC,hq]; omega
 have b3:hi<=65535:=by rw [sC]; exact Nat.min_le_right _ _
 refine⟨ii,⟨oo,oo⟩,ii,oo,ii,⟨oo,oo⟩,oo,?_⟩;obtain⟨nf,jw⟩:∃ f:Nat×Nat->Nat×Nat,∀ z,f z=if W<y*((z.1+z.2+1) / 2) then (z.1,(z.1+z.2+1) / 2 - 1) else ((z.1+z.2+1) / 2,z.2):=⟨_,fun _=>rfl⟩
 clear sC qS e1 e2 hTc hT t1 q1 q2 hd;refine⟨awB q lo hi nf,?_⟩;refine fm ?_;refine⟨⟨b1,b2,b3⟩,fun (z:Nat×Nat) hz => ?_⟩;have VG:z.1<=q/\q<=z.2/\z.2<=65535:=hz;have z1:=VG.1;have z2:=VG.2.1;have z3:=VG.2.2;clear hz;refine fm ?_;obtain⟨mid,Oa⟩:∃ mid,mid=(z.1+z.2+1) / 2:=⟨_,rfl⟩
 have e3:IntKind.i64.wrap (((z.1:Int)+(z.2:Int)+1).tdiv 2)=(mid:Int):=by
  rw [show ((z.1:Int)+(z.2:Int)+1).tdiv 2=(((z.1+z.2+1) / 2:Nat):Int) from rfl,<- Oa];exact wrap_i64 oo oo
 have yi:(wV x y m (i+1)).length=m:=awp p7;simp only [e3,ky,gZ,fB,VF,hM,iN,yi];have Hq:=jw z;rw [<- Oa] at Hq;have jW:dY (nd W):=dt W;have lm:∀ t,t<65536->(aq ak (y*t)).length<=100000:=fun t ht=>cd (vh (mU z7) (agd ht)) oo;refine⟨fun g3=>⟨ii,ii,by decide,⟨⟨iy,oo⟩,oo,oo⟩,⟨⟨jW,dt _⟩,oo,lm mid oo⟩,fun g4 => ?_,fun g4 => ?_⟩,fun g3 => ?_⟩
 . obtain⟨h1,h2⟩:=auj gu hq g4;rw [Hq,aG g4];refine⟨ii,⟨⟨z1,h1,?_⟩,?_⟩,rfl,?_⟩
   . show mid - 1<=65535
     omega
   . show mid - 1 - z.1<z.2 - z.1
     omega
   . show _=((mid - 1:Nat):Int)
     omega
 . have h1:=auk gu hq g4;rw [Hq,ax g4];refine⟨⟨⟨h1,z2,z3⟩,?_⟩,rfl,rfl⟩;show z.2 - mid<z.2 - z.1
   omega
 . have hz:z.1=q:=oo
   rw [hz];have hle:y*q<=W:=by rw [hq]; exact Nat.mul_div_le W y
   have VH:W - y*q=x / ak^i % y:=by rw [<- w2,hq,Nat.mod_def]
   refine⟨⟨oo,oo⟩,⟨⟨iy,oo⟩,oo,oo⟩,⟨⟨jW,dt _⟩,oo,hle⟩,ii,⟨oo,oo⟩,oo,by rw [VH],?_⟩;rw [pf,<- awq (x:=x) (y:=y) (show i<m from oo),show x / y / ak^i % ak=q by rw [hq]; exact w3];exact zS _ _ _
def two(l:List Nat):List Nat:=l.flatMap fun d => [d % 65536,d / 65536]
theorem agk:∀ l,aZ ak (two l)=aZ ae l
 | []=>rfl
 | d::l=>by
  have ih:=agk l;unfold two at *
  simp only [YQ,qL,tg,uv,ih];have e1:ak=65536:=rfl;have e2:ae=4294967296:=rfl;rw [e1,e2];omega
theorem agl:∀ l,cz ae l->cz ak (two l)
 | [],_=>by intro d hd; cases hd
 | d::l,h=>by
  intro q hq;unfold two at hq;rw [YQ] at hq;have e1:ak=65536:=rfl;have e2:ae=4294967296:=rfl;rcases nJ.1 hq with h1|h1
  . have:=h d (by simp);simp only [gD,ani,or_false] at h1;rcases h1 with rfl|rfl<;>omega
  . exact agl l (fun x hx=>h x (by simp [hx])) q h1
theorem awG(l:List Nat):(two l).length=2*l.length:=by
 induction l with
 | nil=>rfl
 | cons d l ih=>unfold two at *; simp only [YQ,c9,ih,dE,hZ]; omega
open Go.RowKit
def awH(x y:Nat):Lp where
 X:=Nat×Nat
 ov p := [(0,.sl false .int fun _=>nd p.1),(1,.sl false .int fun _=>nd p.2)]
 oe _ := []
 I p:=Nat.gcd p.1 p.2=Nat.gcd x y/\cK p.1<=2000/\cK p.2<=2000
 μ p _:=p.2
 x0:=(x,y)
 nx:=some fun p=>(p.2,p.1 % p.2)
def VI:aC:=bE 160 gi gi (fun a b=>(dY (a ())/\(a ()).length<=2000)/\dY (b ())/\(b ()).length<=2000) (fun a b => .sl false .int fun _=>nd (Nat.gcd (vl (a ())) (vl (b ()))))
theorem agm:aE Tryz.prog VI:=by
 refine bZ { kp := [(0,[0,1]),(1,[0,1]),(2,[0,1]),(3,[1,6]),(4,[0])] } [VB] ⟨age,trivial⟩ [] trivial Tryz.func160 (by kernel_rfl) fun ah res h hp => ?_;obtain⟨(a:List Int),(b:List Int),rfl,rfl⟩:=bG h;clear h;obtain⟨⟨ha,kX⟩,hb,fJ⟩:(dY a/\a.length<=2000)/\dY b/\b.length<=2000:=hp;obtain⟨x,rfl⟩:=oW ha;obtain⟨y,rfl⟩:=oW hb;rw [gZ] at kX fJ;clear ha hb;refine⟨[(1,awH x y)],?_⟩;refine fm ?_;refine⟨⟨kX,fJ⟩,fun (p:Nat×Nat) hq => ?_⟩;have CA:Nat.gcd p.1 p.2=Nat.gcd x y/\cK p.1<=2000/\cK p.2<=2000:=hq;have hg:=CA.1;have h1:=CA.2.1;have h2:=CA.2.2;clear hq;refine fm ?_;have mM:(nd p.2).length=cK p.2:=gZ p.2;have pJ:(nd p.1).length=cK p.1:=gZ p.1;simp only [ky,pJ,mM];refine⟨fun zw => ?_,fun hz => ?_⟩
 . have h0:0<p.2:=by
    rcases vH p.2 with h|h
    . rw [h] at zw; exact absurd zw (by decide)
    . exact h
   have h3:cK (p.1 % p.2)<=2000:=cd (wU (AO (jk _ h0))) h2;exact⟨⟨⟨dt _,h1⟩,⟨dt _,h2⟩,h0⟩,⟨⟨(YW _ _).trans ((Nat.gcd_rec p.2 p.1).symm.trans ((YW _ _).trans hg)),h2,h3⟩,jk _ h0⟩,trivial⟩
 . have h0:p.2=0:=by
    rcases vH p.2 with h|h
    . exact h
    . have:0<cK p.2:=Gf bT oo;omega
   rw [<- hg,h0,Nat.gcd_zero_right]
structure A8 where
 (a0 a1 a2 a3 a4 a5 a6 a7:Int)
def a8L(x:Unit->A8):List AV := [.int .u32 fun _=>(x ()).a0,.int .u32 fun _=>(x ()).a1,.int .u32 fun _=>(x ()).a2,.int .u32 fun _=>(x ()).a3,.int .u32 fun _=>(x ()).a4,.int .u32 fun _=>(x ()).a5,.int .u32 fun _=>(x ()).a6,.int .u32 fun _=>(x ()).a7]
def AV.VJ:AV->Option (Unit->A8)
 | .agg [.int .u32 a,.int .u32 b,.int .u32 c,.int .u32 d,.int .u32 e,.int .u32 f,.int .u32 g,.int .u32 h]=>some fun _=>⟨a (),b (),c (),d (),e (),f (),g (),h ()⟩
 | _=>none
theorem AV.awI{x:AV}{n:Unit->A8}(h:x.VJ=some n):x = .agg (a8L n):=by
 unfold AV.VJ at h;split at h<;>cases h
 rfl
abbrev kA8:Kd:=⟨A8,.agg (List.replicate 8 (.int .u32)),fun n => .agg (a8L n),AV.VJ,AV.awI⟩
def A8.l(a:A8):List Int := [a.a0,a.a1,a.a2,a.a3,a.a4,a.a5,a.a6,a.a7]
def I8(a:A8):Nat:=aZ ae (a.l.map Int.toNat)
theorem awK(n:Nat):((n:Nat):Int).tmod 65536=((n % 65536:Nat):Int):=rfl
theorem z8(h:n<4294967296):IntKind.u32.wrap (((n:Nat):Int).tdiv 65536)=((n / 65536:Nat):Int):=by
 rw [show ((n:Nat):Int).tdiv 65536=((n / 65536:Nat):Int) from rfl,wrap_u32,er oo]
def E0:aC:=cL 158 kA8 (fun a=>Cp (a ()).l) (fun a => .sl false .int fun _=>nd (I8 (a ())))
theorem I9:aE Tryz.prog E0:=by
 refine bZ { kp := [(0,[0]),(1,[1]),(2,[1,3]),(3,[1,3,4]),(4,[1,3,4]),(5,[1,3,4]),(6,[3])],lt := [(5,⟨[0,1,2,3,4,5,6,7,8,9,10,11,12,13],[0,1,2,3,4,5,6,7,8,9,10],[11,12,13],[],[]⟩)],ul := [3] } [EX] ⟨I0,trivial⟩ [giveUp 206] ⟨Vz,trivial⟩ Tryz.func158 (by kernel_rfl) fun ah res h hp => ?_;obtain⟨(a:A8),rfl,rfl⟩:=cS h;clear h;refine⟨[],?_⟩;refine fm ?_;obtain⟨m,hm,rv⟩:=IC (B:=ae) hp.2;have lH:m.length=8:=by rw [<- iN m,<- hm]; rfl
 obtain⟨n0,n1,n2,n3,n4,n5,n6,n7,rfl⟩:=eight lH;have hv:vl (cl (two [n0,n1,n2,n3,n4,n5,n6,n7]))=I8 a:=by
  rw [CC,agk];unfold I8;rw [hm,UM]
 have rE:zZ (cl (two [n0,n1,n2,n3,n4,n5,n6,n7])):=EY (agl _ rv) (by rw [awG]; show 2*8<=_; decide);obtain⟨a0,a1,a2,a3,a4,a5,a6,a7⟩:=a;simp only [A8.l,cl,jj,uj,vL,aH] at hm;obtain⟨rfl,rfl,rfl,rfl,rfl,rfl,rfl,rfl⟩:=hm;have h0:n0<4294967296:=rv _ (by simp);have h1:n1<4294967296:=rv _ (by simp);have h2:n2<4294967296:=rv _ (by simp);have h3:n3<4294967296:=rv _ (by simp);have h4:n4<4294967296:=rv _ (by simp);have h5:n5<4294967296:=rv _ (by simp);have h6:n6<4294967296:=rv _ (by simp);have h7:n7<4294967296:=rv _ (by simp);simp only [awK,z8 h0,z8 h1,z8 h2,z8 h3,z8 h4,z8 h5,z8 h6,z8 h7];clear rv lH hp
 (repeat' (first|exact rE|exact congrArg nd hv|apply And.intro))<;>first
  | decide
  | omega
  | (simp only [aP]; omega)
  | (simp only [c9,dE,hZ]; omega)
theorem VK(x:Nat)(h:i<8):az x i=((x / ak^(2*i) % 65536+65536*(x / ak^(2*i+1) % 65536):Nat):Int):=by
 unfold az;rw [EP h];unfold dg;have e1:ae^i=ak^(2*i):=by rw [Nat.pow_mul]; rfl
 rw [e1,show x / ak^(2*i+1)=x / ak^(2*i) / 65536 from I6 _ _];generalize x / ak^(2*i)=X;have e2:ae=4294967296:=rfl;rw [e2];omega
theorem VL{k:Nat}(h:(nd x).length<=k):x / ak^k % 65536=0:=by
 rw [gZ] at h;rw [jA (eC bT h)]
theorem cI(x i:Nat)(h:i<8):IntKind.u32.wrap (IntKind.u32.wrap ((nd x).getD (2*i) Tc.int.aa)+IntKind.u32.wrap (IntKind.u32.wrap ((nd x).getD (2*i+1) Tc.int.aa)*65536))=az x i:=by
 rw [VK x h,EZ,EZ];have h1:=jk (x / ak^(2*i)) (show 0<65536 by decide);have h2:=jk (x / ak^(2*i+1)) (show 0<65536 by decide);generalize x / ak^(2*i) % 65536=p at *
 generalize x / ak^(2*i+1) % 65536=q at *
 rw [wrap_u32 p,wrap_u32 q,er (show p<4294967296 from oo),er (show q<4294967296 from oo),show (q:Int)*65536=((q*65536:Nat):Int) from rfl,wrap_u32,er (show q*65536<4294967296 from oo),show (p:Int)+((q*65536:Nat):Int)=((p+q*65536:Nat):Int) from rfl,wrap_u32,er (show p+q*65536<4294967296 from oo),j8 q]
theorem z9(x i:Nat)(h:i<8)(hl:(nd x).length<=2*i+1):IntKind.u32.wrap ((nd x).getD (2*i) Tc.int.aa)=az x i:=by
 rw [VK x h,EZ,VL hl,wrap_u32];omega
theorem cJ(x i:Nat)(h:i<8)(hl:(nd x).length<=2*i):(0:Int)=az x i:=by
 rw [VK x h,VL hl,VL (Nat.le_succ_of_le hl)];rfl
def awL(f:Unit->Nat):List AV := [.int .u32 fun _=>az (f ()) 0,.int .u32 fun _=>az (f ()) 1,.int .u32 fun _=>az (f ()) 2,.int .u32 fun _=>az (f ()) 3,.int .u32 fun _=>az (f ()) 4,.int .u32 fun _=>az (f ()) 5,.int .u32 fun _=>az (f ()) 6,.int .u32 fun _=>az (f ()) 7]
def ago:aC:=cL 243 gi (fun a=>dY (a ())/\(a ()).length<=2000) (fun a => .bp [.agg (awL fun _=>if vl (a ())<cA then vl (a ()) else 0),.bool fun _=>decide (vl (a ())<cA)])
theorem awM:aE Tryz.prog ago:=by
 refine bZ { kp := [(0,[0]),(1,[0,2]),(2,[0,2,4]),(3,[2,4]),(4,[0,2,4]),(5,[0,2,4,5]),(6,[0,2,4,5]),(7,[0,2,4,5]),(8,[0,2,4,5]),(9,[0,2,4,5]),(10,[2,4])],lt := [(9,⟨[0,1,2,3,4,5,6,7,8,9,10,11,12,13,14],[0,1,2,3,4,5,6,7,8,9,10,11,12,13],[14],[],[]⟩)],ul := [5] } [] trivial [] trivial Tryz.func243 (by kernel_rfl) fun ah res h hp => ?_;obtain⟨(a:List Int),rfl,rfl⟩:=cS h;clear h;refine⟨[],?_⟩;refine fm ?_;have ma:dY a/\a.length<=2000:=hp;have ha:=ma.1;have kX:=ma.2;obtain⟨x,rfl⟩:=oW ha;have hT:x<cA↔(nd x).length<=16:=by rw [gZ]; exact⟨fun h=>gr bT h,fun h=>eC bT h⟩
 rw [ky];refine⟨fun g => ?_,fun g => ?_⟩
 . have h0:¬x<cA:=by rw [hT]; omega
   rw [ax h0,dB h0];exact⟨(ku 0 (by decide)).symm,(ku 1 (by decide)).symm,(ku 2 (by decide)).symm,(ku 3 (by decide)).symm,(ku 4 (by decide)).symm,(ku 5 (by decide)).symm,(ku 6 (by decide)).symm,(ku 7 (by decide)).symm,rfl⟩
 have h0:x<cA:=by rw [hT]; omega
 rw [aG h0,cT h0];refine⟨fun g0=>⟨⟨oo,oo⟩,?_⟩,fun g0=>⟨cJ x 0 (by decide) oo,cJ x 1 (by decide) oo,cJ x 2 (by decide) oo,cJ x 3 (by decide) oo,cJ x 4 (by decide) oo,cJ x 5 (by decide) oo,cJ x 6 (by decide) oo,cJ x 7 (by decide) oo,rfl⟩⟩;refine⟨fun g1=>⟨⟨oo,oo⟩,?_⟩,fun g1=>⟨z9 x 0 (by decide) oo,cJ x 1 (by decide) oo,cJ x 2 (by decide) oo,cJ x 3 (by decide) oo,cJ x 4 (by decide) oo,cJ x 5 (by decide) oo,cJ x 6 (by decide) oo,cJ x 7 (by decide) oo,rfl⟩⟩;refine⟨fun g2=>⟨⟨oo,oo⟩,?_⟩,fun g2=>⟨cI x 0 (by decide),cJ x 1 (by decide) oo,cJ x 2 (by decide) oo,cJ x 3 (by decide) oo,cJ x 4 (by decide) oo,cJ x 5 (by decide) oo,cJ x 6 (by decide) oo,cJ x 7 (by decide) oo,rfl⟩⟩;refine⟨fun g3=>⟨⟨oo,oo⟩,?_⟩,fun g3=>⟨cI x 0 (by decide),z9 x 1 (by decide) oo,cJ x 2 (by decide) oo,cJ x 3 (by decide) oo,cJ x 4 (by decide) oo,cJ x 5 (by decide) oo,cJ x 6 (by decide) oo,cJ x 7 (by decide) oo,rfl⟩⟩;refine⟨fun g4=>⟨⟨oo,oo⟩,?_⟩,fun g4=>⟨cI x 0 (by decide),cI x 1 (by decide),cJ x 2 (by decide) oo,cJ x 3 (by decide) oo,cJ x 4 (by decide) oo,cJ x 5 (by decide) oo,cJ x 6 (by decide) oo,cJ x 7 (by decide) oo,rfl⟩⟩;refine⟨fun g5=>⟨⟨oo,oo⟩,?_⟩,fun g5=>⟨cI x 0 (by decide),cI x 1 (by decide),z9 x 2 (by decide) oo,cJ x 3 (by decide) oo,cJ x 4 (by decide) oo,cJ x 5 (by decide) oo,cJ x 6 (by decide) oo,cJ x 7 (by decide) oo,rfl⟩⟩;refine⟨fun g6=>⟨⟨oo,oo⟩,?_⟩,fun g6=>⟨cI x 0 (by decide),cI x 1 (by decide),cI x 2 (by decide),cJ x 3 (by decide) oo,cJ x 4 (by decide) oo,cJ x 5 (by decide) oo,cJ x 6 (by decide) oo,cJ x 7 (by decide) oo,rfl⟩⟩;refine⟨fun g7=>⟨⟨oo,oo⟩,?_⟩,fun g7=>⟨cI x 0 (by decide),cI x 1 (by decide),cI x 2 (by decide),z9 x 3 (by decide) oo,cJ x 4 (by decide) oo,cJ x 5 (by decide) oo,cJ x 6 (by decide) oo,cJ x 7 (by decide) oo,rfl⟩⟩;refine⟨fun g8=>⟨⟨oo,oo⟩,?_⟩,fun g8=>⟨cI x 0 (by decide),cI x 1 (by decide),cI x 2 (by decide),cI x 3 (by decide),cJ x 4 (by decide) oo,cJ x 5 (by decide) oo,cJ x 6 (by decide) oo,cJ x 7 (by decide) oo,rfl⟩⟩;refine⟨fun g9=>⟨⟨oo,oo⟩,?_⟩,fun g9=>⟨cI x 0 (by decide),cI x 1 (by decide),cI x 2 (by decide),cI x 3 (by decide),z9 x 4 (by decide) oo,cJ x 5 (by decide) oo,cJ x 6 (by decide) oo,cJ x 7 (by decide) oo,rfl⟩⟩;refine⟨fun g10=>⟨⟨oo,oo⟩,?_⟩,fun g10=>⟨cI x 0 (by decide),cI x 1 (by decide),cI x 2 (by decide),cI x 3 (by decide),cI x 4 (by decide),cJ x 5 (by decide) oo,cJ x 6 (by decide) oo,cJ x 7 (by decide) oo,rfl⟩⟩;refine⟨fun g11=>⟨⟨oo,oo⟩,?_⟩,fun g11=>⟨cI x 0 (by decide),cI x 1 (by decide),cI x 2 (by decide),cI x 3 (by decide),cI x 4 (by decide),z9 x 5 (by decide) oo,cJ x 6 (by decide) oo,cJ x 7 (by decide) oo,rfl⟩⟩;refine⟨fun g12=>⟨⟨oo,oo⟩,?_⟩,fun g12=>⟨cI x 0 (by decide),cI x 1 (by decide),cI x 2 (by decide),cI x 3 (by decide),cI x 4 (by decide),cI x 5 (by decide),cJ x 6 (by decide) oo,cJ x 7 (by decide) oo,rfl⟩⟩;refine⟨fun g13=>⟨⟨oo,oo⟩,?_⟩,fun g13=>⟨cI x 0 (by decide),cI x 1 (by decide),cI x 2 (by decide),cI x 3 (by decide),cI x 4 (by decide),cI x 5 (by decide),z9 x 6 (by decide) oo,cJ x 7 (by decide) oo,rfl⟩⟩;refine⟨fun g14=>⟨⟨oo,oo⟩,?_⟩,fun g14=>⟨cI x 0 (by decide),cI x 1 (by decide),cI x 2 (by decide),cI x 3 (by decide),cI x 4 (by decide),cI x 5 (by decide),cI x 6 (by decide),cJ x 7 (by decide) oo,rfl⟩⟩;refine⟨fun g15=>⟨⟨oo,oo⟩,?_⟩,fun g15=>⟨cI x 0 (by decide),cI x 1 (by decide),cI x 2 (by decide),cI x 3 (by decide),cI x 4 (by decide),cI x 5 (by decide),cI x 6 (by decide),z9 x 7 (by decide) oo,rfl⟩⟩;exact⟨fun g16=>oo,fun g16=>⟨cI x 0 (by decide),cI x 1 (by decide),cI x 2 (by decide),cI x 3 (by decide),cI x 4 (by decide),cI x 5 (by decide),cI x 6 (by decide),cI x 7 (by decide),rfl⟩⟩
end Go.Proofs.YtamjbkaclhgffaaGreat
