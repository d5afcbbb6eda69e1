/-
  Digits in a row that is written from its lower end on (plain).
-/
import Derived.Test.YtlpikgchnjajmaaGreatTp24
set_option linter.all false
set_option maxRecDepth 100000
set_option maxHeartbeats 4000000
namespace Go.Proofs.YtlpikgchnjajmaaGreat
variable{l:List Int}{R:List Nat}{A B N S S' a b c i k m n p s t v x y z:Nat}
theorem adE{B:Nat}(hB:0<B):∀ (k x j:Nat),j<k->(pad B k x)[j]? = some (x / B^j % B)
 | 0,_,_,h=>oo
 | k+1,x,0,_=>by simp [pad]
 | k+1,x,j+1,h=>by
  have ih:=adE hB k (x / B) j oo;unfold pad;rw [M1,ih,Bg,kx,lN B]
theorem arR(hB:2<=B)(x:Nat):∀ j,(bf B x).getD j 0=x / B^j % B:=by
 induction x using Nat.strongRecOn with
 | ind x ih =>
  intro j;by_cases h0:x=0
  . subst h0;rw [ud hB];simp
  . rw [rE hB h0]
    cases j with
    | zero=>simp
    | succ j =>
     have h1:=ih (x / B) (Nat.div_lt_self oo oo) j;rw [List.getD_cons_succ,h1,Bg,kx,lN B]
theorem adF(B:Nat):∀ (k s:Nat),pad B (k+1) s=pad B k s ++ [s / B^k % B]
 | 0,s=>by simp [pad]
 | k+1,s=>by
  have h:=adF B k (s / B);show s % B::pad B (k+1) (s / B)=s % B::pad B k (s / B) ++ [s / B^(k+1) % B]
  rw [h,kx,lN,<- Bg];rfl
theorem GP{B:Nat}:∀ {k s t:Nat},s % B^k=t % B^k->pad B k s=pad B k t
 | 0,_,_,_=>rfl
 | k+1,s,t,h=>by
  have e:B^(k+1)=B*B^k:=by rw [kx,lN]
  have h1:s % B=t % B:=by rw [<- Nat.mod_mul_right_mod s B (B^k),<- Nat.mod_mul_right_mod t B (B^k),<- e,h]
  have h2:s / B % B^k=t / B % B^k:=by rw [<- ahd,<- ahd,<- e,h]
  show s % B::pad B k (s / B)=t % B::pad B k (t / B)
  rw [h1,GP h2]
def fL(k S:Nat)(R:List Nat):List Nat:=pad ae k S++R.drop k
theorem C6(h:k<=R.length):(fL k S R).length=R.length:=by
 unfold fL;rw [ej,eI,iH];omega
theorem TP(S:Nat)(R:List Nat):fL 0 S R=R:=rfl
theorem TQ(S:Nat)(R:List Nat):fL R.length S R=pad ae R.length S:=by
 unfold fL;rw [List.drop_length,qk]
theorem TR:(fL k S R).getD k 0=R.getD k 0:=by
 unfold fL;rw [ba,rq (by rw [eI]; exact az _),eI,Bq,lM,ba,kY]
theorem C7(hk:k<R.length)(h:S' % ae^k=S % ae^k)(hz:z=S' / ae^k % ae):(fL k S R).set k z=fL (k+1) S' R:=by
 unfold fL;rw [vD hk,List.set_append_right _ _ (by rw [eI]; exact az _),eI,Bq,HU,adF,hz,GP h,gv];rfl
theorem AU(x k:Nat):x % ae^(k+1)=x % ae^k+ae^k*(x / ae^k % ae):=by rw [kx,Nat.mod_mul]
def dg(x k:Nat):Nat:=x / ae^k % ae
theorem qd(x k:Nat):(bf ae x).getD k 0=dg x k:=arR bW x k
theorem kP(x k:Nat):dg x k<ae:=oL _ (by decide)
theorem GQ(h:aL x<=k):dg x k=0:=by
 rw [<- qd,ba,sA h];rfl
theorem L3(h:aL x<=k):x % ae^k=x:=fF (iI bW h)
theorem qe(k:Nat):0<ae^k:=Nat.pow_pos (by decide)
theorem AW(x k:Nat):x % ae^k<ae^k:=oL _ (qe k)
theorem AX(s k:Nat):s / ae^k / ae=s / ae^(k+1):=by rw [kx,Bg]
def ft(x y k:Nat):Nat:=x % ae^k+y % ae^k
theorem adG(x y k:Nat):ft x y (k+1) / ae^k=ft x y k / ae^k+dg x k+dg y k/\ft x y (k+1) % ae^k=ft x y k % ae^k:=by
 have e:ft x y (k+1)=ft x y k+ae^k*(dg x k+dg y k):=by
  unfold ft dg;rw [AU,AU,ua];omega
 rw [e];exact⟨by rw [zm _ _ (qe k),rA],zj _ _ _⟩
theorem adH(x y k:Nat):ft x y k / ae^k<=1:=by
 have h1:=AW x k;have h2:=AW y k;have h3:ft x y k<ae^k*2:=by unfold ft; omega
 have:=Bj h3;omega
theorem arS(hx:aL x<=n)(hy:aL y<=n):(fL n (ft x y n) (List.replicate (n+1) 0)).set n (ft x y n / ae^n % ae)=pad ae (n+1) (x+y)/\x+y<ae^(n+1):=by
 have hS:ft x y n=x+y:=by unfold ft; rw [L3 hx,L3 hy]
 have hR:(List.replicate (n+1) 0).length=n+1:=zk;constructor
 . rw [hS,C7 (S':=x+y) oo rfl rfl];have:=TQ (x+y) (List.replicate (n+1) 0);rwa [hR] at this
 . have h1:=iI bW hx;have h2:=iI bW hy;have h3:ae^(n+1)=ae^n*4294967296:=kx ..;omega
def ez(x y k:Nat):Nat:=x % ae^k+ae^k - y % ae^k
theorem arT{P a1 b1 P1 Pd Pe Pq Pm:Nat}(e1:a1=a+Pd)(e2:b1=b+Pe)(e3:P1=Pm+P)(e4:Pq+Pe=Pd+Pm)(h1:b<P)(hb:b1<P1):a1+P1 - b1=a+P - b+Pq:=oo
theorem arU{P:Nat}(h:a<P):a+P - b<P*2:=oo
theorem adI(x y k:Nat):ez x y (k+1) / ae^k+dg y k=ez x y k / ae^k+dg x k+4294967295/\ez x y (k+1) % ae^k=ez x y k % ae^k/\ez x y (k+1) / ae^(k+1)<=1:=by
 have hp:=qe k;have h1:=AW y k;have h2:=kP y k;have hy:=AW y (k+1);have hx:=AW x (k+1);obtain⟨q,hq⟩:∃ q,q+dg y k=dg x k+4294967295:=⟨dg x k+4294967295 - dg y k,by have:ae=4294967296:=rfl; omega⟩
 have e:ez x y (k+1)=ez x y k+ae^k*q:=by
  have e3:ae^(k+1)=ae^k*4294967295+ae^k:=by rw [kx]; show ae^k*4294967296=_; omega
  have e4:ae^k*q+ae^k*dg y k=ae^k*dg x k+ae^k*4294967295:=by rw [<- ua,hq,ua]
  exact arT (AU x k) (AU y k) e3 e4 h1 hy
 refine⟨?_,by rw [e]; exact zj _ _ _,?_⟩
 . rw [e,zm _ _ hp,rA,hq,rA]
 . have:=Bj (arU (b:=y % ae^(k+1)) hx);exact ahF.1 this
theorem arV(hx:aL x<=n)(h:y<=x):ez x y n % ae^n=x - y/\x - y<ae^n:=by
 have h1:=iI bW hx;unfold ez;rw [fF h1,fF (show y<ae^n from oo),show x+ae^n - y=x - y+ae^n from oo,Nat.add_mod_right,fF (show x - y<ae^n from oo)];exact⟨rfl,oo⟩
theorem arW(x:Nat)(h:aL x=n):pad ae n x=bf ae x:=by rw [NL bW (iI bW (vK h)),show n - (bf ae x).length=0 by show n - aL x=0; omega]; exact qk _
theorem AY(B:Nat):∀ (k N s:Nat),k<=N->(pad B N s).take k=pad B k s
 | 0,_,_,_=>rfl
 | k+1,0,_,h=>oo
 | k+1,N+1,s,h=>by
  show s % B::(pad B N (s / B)).take k=s % B::pad B k (s / B)
  rw [AY B k N _ oo]
theorem AZ(B:Nat):∀ (k N s:Nat),k<=N->(pad B N s).drop k=pad B (N - k) (s / B^k)
 | 0,_,_,_=>by rw [oK,vL,rC]; rfl
 | k+1,0,_,h=>oo
 | k+1,N+1,s,h=>by
  show (pad B N (s / B)).drop k=_
  rw [AZ B k N _ oo,Bg,kx,lN B,Nat.add_sub_add_right]
theorem adJ(hk:k<=N)(h:t / ae^k=S / ae^k):fL k S (pad ae N t)=pad ae N S:=by
 unfold fL;rw [AZ _ _ _ _ hk,h,<- AZ _ _ _ _ hk,<- AY ae k N S hk,jg]
theorem GR(h:k<N):(pad ae N s).getD k 0=dg s k:=by
 rw [ba,adE (by decide) N s k h];rfl
def eY(x y i:Nat):Nat:=x % ae^i*y
def jT(x y i k:Nat):Nat:=eY x y i+ae^i*(dg x i*(y % ae^k))
def kQ(x y i k:Nat):Nat:=jT x y i k / ae^(i+k) - eY x y i / ae^(i+k)
theorem adK(x y i:Nat):jT x y i 0=eY x y i:=by
 unfold jT;rw [oK,pB,Br,Br,kY]
theorem adL(x y i:Nat):kQ x y i 0=0:=by
 unfold kQ;rw [adK,Bq]
theorem arX(hB:0<B):(A+c+p) % B=(c+p+A % B) % B/\(A+c+p) / B - A / B=(c+p+A % B) / B:=by
 have e:A+c+p=(c+p+A % B)+B*(A / B):=by have:=Vz A B; omega
 rw [e,zj,zm _ _ hB,vH];exact⟨rfl,rfl⟩
theorem adM(ha:a<ae)(hb:b<ae):a*b<=4294967295*4294967295:=Nat.mul_le_mul (ahF.1 ha) (ahF.1 hb)
theorem arY(hc:kQ x y i k<ae):jT x y i (k+1) / ae^(i+k) % ae=(kQ x y i k+dg x i*dg y k+dg (eY x y i) (i+k)) % ae/\jT x y i (k+1) % ae^(i+k)=jT x y i k % ae^(i+k)/\kQ x y i (k+1)=(kQ x y i k+dg x i*dg y k+dg (eY x y i) (i+k)) / ae/\kQ x y i k+dg x i*dg y k+dg (eY x y i) (i+k)<18446744073709551616:=by
 have hp:=qe (i+k);have e1:jT x y i (k+1)=jT x y i k+ae^(i+k)*(dg x i*dg y k):=by
  unfold jT;rw [AU,Bt,ua,ua,rA,show y / ae^k % ae=dg y k from rfl,Vt (dg x i),DM]
 have e2:jT x y i k / ae^(i+k)=eY x y i / ae^(i+k)+kQ x y i k:=by
  have:eY x y i / ae^(i+k)<=jT x y i k / ae^(i+k):=Nat.div_le_div_right (Nat.le_add_right _ _);unfold kQ;omega
 have e3:jT x y i (k+1) / ae^(i+k)=eY x y i / ae^(i+k)+kQ x y i k+dg x i*dg y k:=by rw [e1,zm _ _ hp,e2]
 obtain⟨a1,a2⟩:=arX (A:=eY x y i / ae^(i+k)) (c:=kQ x y i k) (p:=dg x i*dg y k) (B:=ae) (by decide);refine⟨by rw [e3,a1]; rfl,by rw [e1]; exact zj _ _ _,?_,?_⟩
 . show jT x y i (k+1) / ae^(i+(k+1)) - eY x y i / ae^(i+(k+1))=_
   rw [<- rA,<- AX,<- AX,e3,a2];rfl
 . have h1:=adM (kP x i) (kP y k);have h2:=kP (eY x y i) (i+k);have hB:ae=4294967296:=rfl;omega
theorem GS(hy:aL y<=m)(x i:Nat):eY x y i<ae^(i+m):=by
 have h1:=iI bW hy;have h2:=AW x i;unfold eY;rw [Bt];exact ahz h2 h1
theorem arZ(hy:aL y<=m)(i:Nat):jT x y i m=eY x y (i+1)/\kQ x y i m=eY x y (i+1) / ae^(i+m) % ae:=by
 have e:jT x y i m=eY x y (i+1):=by
  unfold jT eY;rw [L3 hy,AU,xw,show x / ae^i % ae=dg x i from rfl,DM]
 refine⟨e,?_⟩;have h1:=GS hy x (i+1);rw [show i+1+m=i+m+1 from oo,kx] at h1;unfold kQ;rw [e,mi (GS hy x i),rC,fF (Bj h1)]
theorem ar0(hy:aL y<=m)(hi:i<n):(fL (i+m) (jT x y i m) (pad ae (n+m) (eY x y i))).set (i+m) (kQ x y i m)=pad ae (n+m) (eY x y (i+1)):=by
 obtain⟨e1,e2⟩:=arZ (x:=x) hy i;have h1:=GS hy x (i+1);rw [e1,e2,C7 (S':=eY x y (i+1)) xf rfl rfl];have h2:=GS hy x i;have h3:ae^(i+m)<=ae^(i+m+1):=zl (by decide) oo;exact adJ oo (by rw [mi (iP h2 h3),mi (by rw [show i+m+1=i+1+m from oo]; exact h1)])
theorem ar1(hx:x<ae^m)(hy:y<ae^m):ez x y m=x+ae^m - y/\1 - ez x y m / ae^m=if x<y then 1 else 0:=by
 have e:ez x y m=x+ae^m - y:=by unfold ez; rw [fF hx,fF hy]
 refine⟨e,?_⟩;rw [e];by_cases h:x<y
 . rw [aw h,mi oo]
 . rw [ar h,show x+ae^m - y=x - y+ae^m from oo,Nat.add_div_right _ (qe m),mi oo]
theorem ar2(hx:x<ae^m)(hy:y<ae^m):ft x y m=x+y:=by unfold ft; rw [fF hx,fF hy]
def mulC(t v k:Nat):Nat:=t*(v % ae^k) / ae^k
theorem ar3(t v:Nat):mulC t v 0=0:=by
 unfold mulC;rw [oK,pB,Br]
theorem ar4(ht:t<ae):mulC t v k<ae:=by
 have h:=AW v k;refine Bj ?_;have h1:t*(v % ae^k)<=t*ae^k:=tT _ (Nv h);have h2:t*ae^k<ae*ae^k:=MZ ht (qe k);rw [lN (ae^k)];omega
theorem ar5(t v k:Nat):mulC t v (k+1)=(mulC t v k+t*dg v k) / ae/\dg (t*v) k=(mulC t v k+t*dg v k) % ae:=by
 have hp:=qe k;have e1:t*(v % ae^(k+1))=t*(v % ae^k)+ae^k*(t*dg v k):=by
  rw [AU,ua,show v / ae^k % ae=dg v k from rfl,Vt]
 have e2:t*(v % ae^(k+1)) / ae^k=mulC t v k+t*dg v k:=by rw [e1,zm _ _ hp]; rfl
 refine⟨by unfold mulC; rw [<- AX,e2]; rfl,?_⟩;have e3:t*v=t*(v % ae^(k+1))+ae^k*(ae*(t*(v / ae^(k+1)))):=by
  have h:=Nq v (ae^(k+1))
  conv=>lhs; rw [<- h]
  rw [ua,Vt t,kx,DM]
 unfold dg;rw [e3,zm _ _ hp,e2,zj];rfl
theorem adN(ht:t<ae)(hv:aL v<=n)(hm:n<m):t*v<ae^m:=by
 have h1:=iI bW hv;have h2:t*v<=t*ae^n:=tT _ (Nv h1);have h3:t*ae^n<ae*ae^n:=MZ ht (qe n);have h4:ae*ae^n<=ae^m:=by rw [lN,<- kx]; exact zl (by decide) hm
 omega
open Go.RowKit
def ar6(x y n T:Nat):Lp where
 X:=Nat
 ov k := [(22,.int .i64 fun _=>(k:Int)),(6,.int .u64 fun _=>(ft x y k / ae^k:Nat)),(5,.own 0)]
 oe k := [(0,.row true .u32 T fun _=>cl (fL k (ft x y k) (List.replicate (n+1) 0)))]
 I k:=k<=n
 μ k _:=n - k
 x0:=0
 nx:=some fun k=>k+1
def adO:aH:=df 94 kN kN (fun a b=>ev (a ())/\ev (b ())) (fun a b => .sl false .u32 fun _=>bL (dN (a ())+dN (b ())))
theorem ar7:aK Tryz.prog adO:=by
 refine eE { kp := [(0,[0,1]),(1,[0,1]),(2,[0,1]),(3,[0,1]),(4,[0,1,5]),(5,[0,1,5,6]),(6,[0,1,5,6,20,21,22]),(7,[0,1,5,6,20,21,22]),(8,[0,1,5,6,7,8,20,21,22]),(9,[0,1,5,6,7,20,21,22]),(10,[0,1,5,6,7,20,21,22]),(11,[0,1,5,6,7,20,21,22]),(12,[0,1,5,6,20,21,22]),(13,[0,1,5,6,20,21,22]),(14,[0,5,6]),(15,[5])] } [C5] ⟨GM,trivial⟩ [giveUp 162] ⟨GN,trivial⟩ Tryz.func94 (by kernel_rfl) fun ai res h hp => ?_;obtain⟨(a:List Int),(b:List Int),rfl,rfl⟩:=dz h;clear h;have tx:ev a/\ev b:=hp;have ha:=tx.1;have hb:=tx.2;obtain⟨x,rfl,hx⟩:=mT ha;obtain⟨y,rfl,hy⟩:=mT hb;clear ha hb;rcases cw (aL x) (aL y) with hc|hc
 case' inl=>generalize hX:y=X at *; generalize hY:x=Y at *
 case' inr=>generalize hX:x=X at *; generalize hY:y=Y at *
 all_goals
  refine cL (aL X) fun n hn => ?_;refine⟨[(6,ar6 X Y n 52)],?_⟩;refine fm ?_;have qf:(bL X).length=aL X:=ew X;have mU:(bL Y).length=aL Y:=ew Y;have xg:ft X Y 0 / 4294967296^0=0:=by unfold ft; rw [oK,pB,pB]
  simp only [qf,mU,xg,TP,<- Lw];refine⟨fun g => ?_,fun g => ?_⟩<;>first|(exfalso; omega)|skip
  refine⟨ii,⟨oo,oo⟩,⟨⟨cm _,rfl,rfl,by rw [show ((aL X:Int)+1).toNat=n+1 from oo]⟩,fun (k:Nat) hk => ?_⟩⟩;have cZ:k<=n:=hk;clear hk hp;refine fm ?_;have eW:Tc.u32.aa=0:=rfl;have Ay:(bf 4294967296 X).length=n:=hn;have hR:(List.replicate (n+1) 0).length=n+1:=zk;have bE:(cl (fL k (ft X Y k) (List.replicate (n+1) 0))).length=n+1:=by rw [lH,C6 oo,hR]
  have hX1:=kP X k;have TS:=kP Y k;have xh:aL Y<=k->dg Y k=0:=GQ;have gG:=adH X Y k;obtain⟨jG,lT⟩:=adG X Y k;have tz:=AX (ft X Y (k+1)) k;have hB:ae=4294967296:=rfl;simp only [eW,si,qd,bE,Ay,qf,mU,hn];have o7:=fun (hk:k<n) z hz=>AO (fL k (ft X Y k) (List.replicate (n+1) 0)) k z▸congrArg cl (C7 (z:=z) (R:=List.replicate (n+1) 0) oo lT hz);have gD:k=n->bL (dN ((cl (fL k (ft X Y k) (List.replicate (n+1) 0))).set n (IntKind.u32.wrap ((ft X Y k / 4294967296^k:Nat):Int))))=bL (X+Y)/\d32 ((cl (fL k (ft X Y k) (List.replicate (n+1) 0))).set n (IntKind.u32.wrap ((ft X Y k / 4294967296^k:Nat):Int))):=by
   rintro rfl
   obtain⟨e1,e2⟩:=arS (x:=X) (y:=Y) (n:=k) oo oo;rw [wrap_u32,AO,e1,p8,nR (by decide) _ _ e2];exact⟨rfl,CR (rF (by decide) _ _) xf⟩
  clear lT;generalize ft X Y k / 4294967296^k=c at *
  have w1:IntKind.u64.wrap (dg X k:Int)=(dg X k:Int):=fV oo;have w2:IntKind.u64.wrap (dg Y k:Int)=(dg Y k:Int):=fV oo;have w3:IntKind.u64.wrap ((c:Int)+(dg X k:Int))=((c+dg X k:Nat):Int):=by rw [<- zq]; exact fV oo
  have w4:IntKind.u64.wrap (((c+dg X k:Nat):Int)+(dg Y k:Int))=((c+dg X k+dg Y k:Nat):Int):=by rw [<- zq]; exact fV oo
  simp only [w1,w2,w3,w4,Gr,wrap_u32,ik];refine⟨fun g1=>⟨⟨oo,oo⟩,fun g2=>⟨⟨oo,oo⟩,⟨oo,oo⟩,oo,ii,⟨oo,oo⟩,oo,?_,o7 oo _ (by rw [jG])⟩,fun g2=>⟨⟨oo,oo⟩,oo,ii,⟨oo,oo⟩,oo,?_,o7 oo _ (by rw [jG,xh oo,kY])⟩⟩,fun g1=>⟨⟨oo,oo⟩,?_,?_⟩⟩
  . rw [<- tz,jG]
  . rw [<- tz,jG,xh oo,kY]
  . have:=(gD oo).2; rwa [wrap_u32] at this
  . have:=(gD oo).1; rw [wrap_u32] at this; exact this.trans (congrArg bL oo)
def ar9(x y n T:Nat):Lp where
 X:=Nat
 ov k := [(13,.int .i64 fun _=>(k:Int)),(6,.int .u64 fun _=>(1 - ez x y k / ae^k:Nat)),(5,.own 0)]
 oe k := [(0,.row true .u32 T fun _=>cl (fL k (ez x y k) (bf ae x)))]
 I k:=k<=n/\ez x y k / ae^k<=1
 μ k _:=n - k
 x0:=0
 nx:=some fun k=>k+1
def adP:aH:=df 161 kN kN (fun a b=>(ev (a ())/\ev (b ()))/\dN (b ())<=dN (a ())) (fun a b => .sl false .u32 fun _=>bL (dN (a ()) - dN (b ())))
theorem asa:aK Tryz.prog adP:=by
 refine eE { kp := [(0,[0,1]),(1,[0,1]),(2,[1,5]),(3,[1,5,6]),(4,[1,5,6,12,13]),(5,[1,5,6,12,13]),(6,[1,5,6,7,12,13]),(7,[1,5,7,8,12,13]),(8,[1,5,7,8,12,13]),(9,[1,5,7,8,12,13]),(10,[1,5,8,12,13]),(11,[1,5,6,12,13]),(12,[5])] } [C5] ⟨GM,trivial⟩ [giveUp 162,Lz] ⟨GN,acp,trivial⟩ Tryz.func161 (by kernel_rfl) fun ai res h hp => ?_;obtain⟨(a:List Int),(b:List Int),rfl,rfl⟩:=dz h;clear h;obtain⟨⟨ha,hb⟩,hle⟩:(ev a/\ev b)/\dN b<=dN a:=hp;obtain⟨x,rfl,hx⟩:=mT ha;obtain⟨y,rfl,hy⟩:=mT hb;clear ha hb;rw [ik,ik] at hle;refine cL (aL x) fun n hn => ?_;refine⟨[(4,ar9 x y n 52)],?_⟩;refine fm ?_;have qf:(bL x).length=n:=(ew x).trans hn;have mU:(bL y).length=aL y:=ew y;have xg:ez x y 0 / 4294967296^0=1:=by unfold ez; rw [oK,pB,pB]
 simp only [qf,mU,xg,TP];refine⟨oo,⟨⟨⟨cm _,az _⟩,rfl,rfl,rfl⟩,fun (k:Nat) hk => ?_⟩⟩;have cR:k<=n/\ez x y k / ae^k<=1:=hk;have cZ:=cR.1;have cg:=cR.2;clear hk;refine fm ?_;have eW:Tc.u32.aa=0:=rfl;have Ay:(bf ae x).length=n:=hn;have bE:(cl (fL k (ez x y k) (bf ae x))).length=n:=by rw [lH,C6 oo,Ay]
 have nZ:(cl (fL k (ez x y k) (bf ae x))).getD k 0=(dg x k:Nat):=by rw [AN,TR,qd]
 have hX1:=kP x k;have TS:=kP y k;have xh:aL y<=k->dg y k=0:=GQ;obtain⟨jG,lT,GU⟩:=adI x y k;have tz:=AX (ez x y (k+1)) k;have hB:ae=4294967296:=rfl;simp only [eW,si,qd,bE,nZ,qf,mU,ik];have o7:=fun (hk:k<n) z hz=>AO (fL k (ez x y k) (bf ae x)) k z▸congrArg cl (C7 (z:=z) (R:=bf ae x) oo lT hz);have gD:k=n->bL (dN (cl (fL k (ez x y k) (bf ae x))))=bL (x - y)/\d32 (cl (fL k (ez x y k) (bf ae x))):=by
  rintro rfl
  obtain⟨e1,e2⟩:=arV (x:=x) (y:=y) (n:=k) oo hle;have e3:fL k (ez x y k) (bf ae x)=pad ae k (x - y):=by
   have:=TQ (ez x y k) (bf ae x);rw [Ay] at this;rw [this];exact GP (by rw [e1,fF e2])
  rw [e3,p8,nR (by decide) _ _ e2];exact⟨rfl,CR (rF (by decide) _ _) xf⟩
 clear lT;generalize ez x y k / 4294967296^k=c at *
 have w1:IntKind.u64.wrap (dg x k:Int)=(dg x k:Int):=fV oo;have w2:IntKind.u64.wrap (dg y k:Int)=(dg y k:Int):=fV oo;obtain⟨o1,o2⟩:=acm (d:=dg x k) (e:=dg y k) (o:=1 - c) (r:=ez x y (k+1) / ae^k) oo oo;have Al:=fun (h:dg y k=0)=>ap4 (d:=dg x k) (o:=1 - c) (r:=ez x y (k+1) / ae^k) oo oo;simp only [w1,w2,o1,o2];refine⟨fun g1=>⟨⟨oo,oo⟩,fun g2=>⟨⟨oo,oo⟩,⟨oo,oo⟩,oo,ii,⟨⟨oo,GU⟩,oo⟩,oo,by rw [<- tz],o7 oo _ rfl⟩,fun g2 => ?_⟩,fun g1=>⟨(gD oo).2,(gD oo).1⟩⟩;obtain⟨p1,p2⟩:=Al (xh oo);rw [p1,p2];exact⟨⟨oo,oo⟩,oo,ii,⟨⟨oo,GU⟩,oo⟩,oo,by rw [<- tz],o7 oo _ rfl⟩
def asb(x y n m T:Nat):Lp where
 X:=Nat
 ov i := [(19,.int .i64 fun _=>(i:Int)),(5,.own 0)]
 oe i := [(0,.row true .u32 T fun _=>cl (pad ae (n+m) (eY x y i)))]
 I i:=i<=n
 μ i _:=n - i
 x0:=0
 nx:=some fun i=>i+1
def asc(x y n m i T:Nat):Lp where
 X:=Nat
 ov k := [(26,.int .i64 fun _=>(k:Int)),(8,.int .u64 fun _=>(kQ x y i k:Nat)),(5,.own 0)]
 oe k := [(0,.row true .u32 T fun _=>cl (fL (i+k) (jT x y i k) (pad ae (n+m) (eY x y i))))]
 I k:=k<=m/\kQ x y i k<ae
 μ k _:=m - k
 x0:=0
 nx:=some fun k=>k+1
def C8:aH:=df 82 kN kN (fun a b=>ev (a ())/\ev (b ())) (fun a b => .sl false .u32 fun _=>bL (dN (a ())*dN (b ())))
theorem GV:aK Tryz.prog C8:=by
 refine eE { kp := [(0,[0,1]),(1,[0,1]),(2,[0,1,5]),(3,[1,5,17,18,19]),(4,[1,5,17,18,19]),(5,[1,5,6,7,17,18,19]),(6,[1,5,6,7,8,17,18,19]),(7,[1,5,6,7,8,17,18,19,24,25,26]),(8,[1,5,6,7,8,17,18,19,24,25,26]),(9,[1,5,6,7,8,9,10,17,18,19,24,25,26]),(10,[1,5,6,7,8,9,17,18,19,24,25,26]),(11,[1,5,6,7,8,17,18,19,24,25,26]),(12,[1,5,6,7,8,17,18,19,24,25,26]),(13,[1,5,6,8,17,18,19]),(14,[1,5,17,18,19]),(15,[5])] } [C5] ⟨GM,trivial⟩ [giveUp 162] ⟨GN,trivial⟩ Tryz.func82 (by kernel_rfl) fun ai res h hp => ?_;obtain⟨(a:List Int),(b:List Int),rfl,rfl⟩:=dz h;clear h;have tx:ev a/\ev b:=hp;have ha:=tx.1;have hb:=tx.2;obtain⟨x,rfl,hx⟩:=mT ha;obtain⟨y,rfl,hy⟩:=mT hb;clear ha hb;refine cL (aL x) fun n hn => ?_;refine cL (aL y) fun m hm => ?_;refine⟨[(3,asb x y n m 52)],?_⟩;refine fm ?_;have qf:(bL x).length=n:=(ew x).trans hn;have mU:(bL y).length=m:=(ew y).trans hm;have eW:Tc.u32.aa=0:=rfl;have xg:eY x y 0=0:=by unfold eY; rw [oK,pB,Nu]
 simp only [qf,mU,xg,VP,<- Lw];refine⟨ii,⟨oo,oo⟩,⟨⟨cm _,rfl,by rw [show ((n:Int)+(m:Int)).toNat=n+m from oo]⟩,fun (i:Nat) hi => ?_⟩⟩;have BK:i<=n:=hi;clear hi;refine fm ?_;have bE:(cl (pad ae (n+m) (eY x y i))).length=n+m:=by rw [lH,eI]
 simp only [eW,si,qd,bE,qf,mU,ik];refine⟨fun g1=>⟨⟨oo,oo⟩,?_⟩,fun g1 => ?_⟩
 . refine⟨asc x y n m i 52,?_⟩;refine fm ?_;refine⟨⟨⟨cm _,by rw [adL]; decide⟩,rfl,by rw [adL]; rfl,by rw [adK,kY,adJ oo rfl]⟩,fun (k:Nat) hk => ?_⟩;have cR:k<=m/\kQ x y i k<ae:=hk;have cZ:=cR.1;have cg:=cR.2;clear hk;refine fm ?_;have GW:(cl (fL (i+k) (jT x y i k) (pad ae (n+m) (eY x y i)))).length=n+m:=by rw [lH,C6 xf,eI]
   have nZ:k<m->(cl (fL (i+k) (jT x y i k) (pad ae (n+m) (eY x y i)))).getD (i+k) 0=(dg (eY x y i) (i+k):Nat):=fun h=>by rw [AN,TR,GR oo]
   have ju:((i:Int)+(k:Int)).toNat=i+k:=oo
   have him:((i:Int)+(m:Int)).toNat=i+m:=oo
   simp only [eW,si,qd,GW,qf,mU,ju,him];obtain⟨q1,q2,q3,q4⟩:=arY cg;have gD:k=m->(cl (fL (i+k) (jT x y i k) (pad ae (n+m) (eY x y i)))).set (i+m) ((kQ x y i k:Nat):Int)=cl (pad ae (n+m) (eY x y (i+1))):=by
    rintro rfl
    rw [AO,ar0 (vK hm) oo]
   have w1:IntKind.u64.wrap (dg x i:Int)=(dg x i:Int):=fV (VB (kP _ _) (by decide));have w2:IntKind.u64.wrap (dg y k:Int)=(dg y k:Int):=fV (VB (kP _ _) (by decide));have w3:IntKind.u64.wrap (dg (eY x y i) (i+k):Int)=(dg (eY x y i) (i+k):Int):=fV (VB (kP _ _) (by decide));have w4:IntKind.u64.wrap ((dg x i:Int)*(dg y k:Int))=((dg x i*dg y k:Nat):Int):=by rw [<- Nk]; exact fV oo
   refine⟨fun g2 => ?_,fun g2=>⟨ii,⟨oo,oo⟩,ii,⟨oo,oo⟩,oo,?_⟩⟩
   . rw [nZ oo,w1,w2,w3,w4];have o7:=C7 (k:=i+k) (S:=jT x y i k) (S':=jT x y i (k+1)) (z:=(kQ x y i k+dg x i*dg y k+dg (eY x y i) (i+k)) % ae) (R:=pad ae (n+m) (eY x y i)) xf q2 q1.symm;have aj:kQ x y i (k+1)<ae:=by rw [q3]; exact Bj q4
     generalize dg x i*dg y k=p at *
     generalize dg (eY x y i) (i+k)=d at *
     generalize kQ x y i k=c at *
     have w5:IntKind.u64.wrap ((p:Int)+(d:Int))=((p+d:Nat):Int):=by rw [<- zq]; exact fV oo
     have w6:IntKind.u64.wrap ((c:Int)+((p+d:Nat):Int))=((c+p+d:Nat):Int):=by rw [<- zq,<- rA]; exact fV oo
     rw [w5,w6,Gr,wrap_u32,AO];exact⟨⟨oo,oo⟩,ii,⟨oo,oo⟩,ii,⟨oo,oo⟩,oo,ii,⟨⟨oo,aj⟩,oo⟩,oo,by rw [q3],congrArg cl o7⟩
   . rw [wrap_u32,fF cg];exact gD oo
 . have mJ:i=n:=oo
   subst mJ;have e:eY x y i=x*y:=by unfold eY; rw [L3 (vK hn)]
   have h2:=GS (vK hm) x i;rw [e] at h2 ⊢;have e3:bL (dN (cl (pad ae (i+m) (x*y))))=bL (x*y):=by rw [p8,nR (by decide) _ _ h2]
   exact⟨CR (rF (by decide) _ _) xf,e3⟩
def cD(l:List Int)(a b:Nat):Nat:=dN ((l.drop a).take (b - a))
def jw(l:List Int)(a b s:Nat):List Int:=l.take a++cl (pad ae (b - a) s)++l.drop b
def qZ(l:List Int)(a b k s:Nat):List Int:=l.take a++cl (fL k s (pad ae (b - a) (cD l a b)))++l.drop b
theorem ase(hl:d32 l)(hb:b<=l.length):cl (pad ae (b - a) (cD l a b))=(l.drop a).take (b - a):=by
 obtain⟨m,rfl,hd⟩:=Lx (B:=ae) hl.1;rw [lH] at hb;unfold cD;rw [CQ,yT,p8];have h:=By (B:=ae) (by decide) ((m.drop a).take (b - a)) ((hd.drop a).take _);rw [show ((m.drop a).take (b - a)).length=b - a by rw [c6,iH]; omega] at h;rw [h]
theorem adQ(hl:d32 l):cD l a b<ae^(b - a):=by
 obtain⟨m,rfl,hd⟩:=Lx (B:=ae) hl.1;unfold cD;rw [CQ,yT,p8];have h:=uc (B:=ae) ((m.drop a).take (b - a)) ((hd.drop a).take _);exact iP h (zl (by decide) (by rw [c6]; omega))
theorem adR(hl:d32 l)(bm:a<=b)(hb:b<=l.length)(s):qZ l a b 0 s=l:=by
 unfold qZ;rw [TP,ase hl hb];have:=V5 l a (b - a);rwa [show a+(b - a)=b from oo] at this
theorem adS(l)(a b s):qZ l a b (b - a) s=jw l a b s:=by
 unfold qZ jw;have:=TQ s (pad ae (b - a) (cD l a b));rw [eI] at this;rw [this]
theorem adT(bm:a<=b)(hb:b<=l.length)(hk:k<=b - a):(qZ l a b k s).length=l.length:=by
 have h1:(cl (fL k s (pad ae (b - a) (cD l a b)))).length=b - a:=by rw [lH,C6 (by rw [eI]; exact hk),eI]
 unfold qZ;rw [ej,ej,h1,c6,iH];omega
theorem adU(bm:a<=b)(hb:b<=l.length)(hk:k<b - a):(qZ l a b k s).getD (a+k) 0=dg (cD l a b) k:=by
 have h1:(cl (fL k s (pad ae (b - a) (cD l a b)))).length=b - a:=by rw [lH,C6 xf,eI]
 have h2:=aiw (L:=l) (j:=a) (m:=b - a) h1 hk oo;rw [show a+(b - a)=b from oo] at h2;rw [ba];unfold qZ;rw [h2,<- ba,AN,TR,GR hk]
theorem adV{s':Nat}(bm:a<=b)(hb:b<=l.length)(hk:k<b - a)(h:s' % ae^k=s % ae^k)(hz:z=s' / ae^k % ae):(qZ l a b k s).set (a+k) z=qZ l a b (k+1) s':=by
 have h1:(cl (fL k s (pad ae (b - a) (cD l a b)))).length=b - a:=by rw [lH,C6 xf,eI]
 have h2:=aiv (L:=l) (j:=a) (m:=b - a) (r:=(z:Int)) h1 hk oo;rw [show a+(b - a)=b from oo] at h2;unfold qZ;rw [h2,AO,C7 (by rw [eI]; exact hk) h hz]
def TT:fk:=⟨173,[.El .u32,.sl .u32],1,fun ai es=>match ai,es with
 | [.cE .u32 0 a b,.sl false .u32 v],[(0,.row false .u32 T l)]=>some ⟨fun _=>(a ()<=b ()/\b ()<=(l ()).length)/\d32 (l ())/\ev (v ())/\(v ()).length<=b () - a (),.bool fun _=>decide (ae^(b () - a ())<=cD (l ()) (a ()) (b ())+dN (v ())),[(0,.row false .u32 T fun _=>jw (l ()) (a ()) (b ()) (cD (l ()) (a ()) (b ())+dN (v ())))]⟩
 | _,_=>none,true⟩
def asf(T:Nat)(l:List Int)(a b y:Nat):Lp where
 X:=Nat
 ov k := [(9,.int .i64 fun _=>(k:Int)),(5,.int .u64 fun _=>(ft (cD l a b) y k / ae^k:Nat)),(0,.cE .u32 0 (fun _=>a) fun _=>b)]
 oe k := [(0,.row false .u32 T fun _=>qZ l a b k (ft (cD l a b) y k))]
 I k:=k<=b - a
 μ k _:=b - a - k
 x0:=0
 nx:=some fun k=>k+1
theorem ash:gp Tryz.prog TT:=by
 refine FV { kp := [(0,[0,1]),(1,[0,1]),(2,[0,1,5]),(3,[0,1,5,8,9]),(4,[0,1,5,8,9]),(5,[0,1,5,6,8,9]),(6,[0,1,5,6,8,9]),(7,[0,1,5,6,8,9]),(8,[0,1,5,6,8,9]),(9,[0,1,5,8,9]),(10,[0,1,5,8,9]),(11,[5])] } [] trivial [] trivial Tryz.func173 (by kernel_rfl) fun ai es res h hp => ?_;simp only [TT] at h;split at h
 case h_2=>cases h
 rename_i a b v T l;cases h;obtain⟨l,rfl⟩:=eta (α:=List Int) l;obtain⟨v,rfl⟩:=eta (α:=List Int) v;obtain⟨a,rfl⟩:=eta (α:=Nat) a;obtain⟨b,rfl⟩:=eta (α:=Nat) b;obtain⟨⟨bm,hb⟩,hl,hv,mH⟩:(a<=b/\b<=l.length)/\d32 l/\ev v/\v.length<=b - a:=hp;obtain⟨y,rfl,hy⟩:=mT hv;rw [ew] at mH;clear hv;have nh:=hl.2;refine⟨[(3,asf T l a b y)],?_⟩;refine fm ?_;have xg:ft (cD l a b) y 0 / 4294967296^0=0:=by unfold ft; rw [oK,pB,pB]
 refine⟨⟨cm _,rfl,by rw [xg]; rfl,(adR hl bm hb _).symm⟩,fun (k:Nat) hk => ?_⟩;have cZ:k<=b - a:=hk;clear hk;refine fm ?_;have eW:Tc.u32.aa=0:=rfl;have mU:(bL y).length=aL y:=ew y;have GW:=adT (l:=l) (s:=ft (cD l a b) y k) bm hb cZ;have nZ:=adU (l:=l) (a:=a) (b:=b) (k:=k) (s:=ft (cD l a b) y k) bm hb;obtain⟨jG,lT⟩:=adG (cD l a b) y k;have tz:=AX (ft (cD l a b) y (k+1)) k;have o7:=fun h z hz=>adV (l:=l) (a:=a) (b:=b) (k:=k) (z:=z) bm hb h lT hz;have gG:=adH (cD l a b) y k;have hU1:=kP (cD l a b) k;have TS:=kP y k;have xh:aL y<=k->dg y k=0:=GQ;have hB:ae=4294967296:=rfl;have TU:((a:Int)+(k:Int)).toNat=a+k:=oo
 simp only [eW,si,qd,GW,mU,TU,ik];have yI:=ar2 (adQ (a:=a) (b:=b) hl) (iI bW mH);refine⟨fun g1 => ?_,fun g1 => ?_⟩
 . rw [nZ oo];have w1:IntKind.u64.wrap (dg (cD l a b) k:Int)=(dg (cD l a b) k:Int):=fV oo;have w2:IntKind.u64.wrap (dg y k:Int)=(dg y k:Int):=fV oo;clear yI nZ lT;generalize ft (cD l a b) y k / 4294967296^k=c at *
   have w3:IntKind.u64.wrap ((c:Int)+(dg (cD l a b) k:Int))=((c+dg (cD l a b) k:Nat):Int):=by rw [<- zq]; exact fV oo
   have w4:IntKind.u64.wrap (((c+dg (cD l a b) k:Nat):Int)+(dg y k:Int))=((c+dg (cD l a b) k+dg y k:Nat):Int):=by rw [<- zq]; exact fV oo
   simp only [w1,w2,w3,w4,Gr,wrap_u32];refine⟨⟨oo,oo⟩,fun g2=>⟨⟨oo,oo⟩,⟨oo,oo⟩,oo,ii,⟨oo,oo⟩,oo,by rw [<- tz,jG],o7 oo _ (by rw [jG])⟩,fun g2=>⟨⟨oo,oo⟩,oo,ii,⟨oo,oo⟩,oo,by rw [<- tz,jG,xh oo,kY],o7 oo _ (by rw [jG,xh oo,kY])⟩⟩
 . have xd:k=b - a:=oo
   subst xd;rw [yI,adS];refine⟨DG.2 ?_,rfl⟩;have hp:=qe (b - a);rw [show (4294967296:Nat)^(b - a)=ae^(b - a) from rfl,show (0:Int)<((cD l a b+y) / ae^(b - a):Nat)↔0<(cD l a b+y) / ae^(b - a) from oo];exact Nat.div_pos_iff.trans ⟨fun h=>h.2,fun h=>⟨hp,h⟩⟩
def TV:fk:=⟨172,[.El .u32,.sl .u32,.int .u64],1,fun ai es=>match ai,es with
 | [.cE .u32 0 a b,.sl false .u32 v,.int .u64 t],[(0,.row false .u32 T l)]=>some ⟨fun _=>(a ()<=b ()/\b ()<=(l ()).length)/\d32 (l ())/\(ev (v ())/\(v ()).length<b () - a ())/\0<=t ()/\t ()<4294967296,.bool fun _=>decide (cD (l ()) (a ()) (b ())<(t ()).toNat*dN (v ())),[(0,.row false .u32 T fun _=>jw (l ()) (a ()) (b ()) (cD (l ()) (a ()) (b ())+ae^(b () - a ()) - (t ()).toNat*dN (v ())))]⟩
 | _,_=>none,true⟩
def asj(T:Nat)(l:List Int)(a b y t:Nat):Lp where
 X:=Nat
 ov k := [(13,.int .i64 fun _=>(k:Int)),(7,.int .u64 fun _=>(mulC t y k:Nat)),(8,.int .u64 fun _=>(1 - ez (cD l a b) (t*y) k / ae^k:Nat)),(0,.cE .u32 0 (fun _=>a) fun _=>b)]
 oe k := [(0,.row false .u32 T fun _=>qZ l a b k (ez (cD l a b) (t*y) k))]
 I k:=k<=b - a/\ez (cD l a b) (t*y) k / ae^k<=1
 μ k _:=b - a - k
 x0:=0
 nx:=some fun k=>k+1
theorem asl:gp Tryz.prog TV:=by
 refine FV { kp := [(0,[0,1,2]),(1,[0,1,2]),(2,[0,1,2,7,8]),(3,[0,1,2,7,8,12,13]),(4,[0,1,2,7,8,12,13]),(5,[0,1,2,7,8,9,12,13]),(6,[0,1,2,7,8,9,12,13]),(7,[0,1,2,7,8,9,12,13]),(8,[0,1,2,7,9,10,12,13]),(9,[0,1,2,7,10,12,13]),(10,[0,1,2,7,8,12,13]),(11,[0,1,2,7,8,12,13]),(12,[8])] } [] trivial [] trivial Tryz.func172 (by kernel_rfl) fun ai es res h hp => ?_;simp only [TV] at h;split at h
 case h_2=>cases h
 rename_i a b v t T l;cases h;obtain⟨l,rfl⟩:=eta (α:=List Int) l;obtain⟨v,rfl⟩:=eta (α:=List Int) v;obtain⟨a,rfl⟩:=eta (α:=Nat) a;obtain⟨b,rfl⟩:=eta (α:=Nat) b;obtain⟨t,rfl⟩:=eta (α:=Int) t;obtain⟨⟨bm,hb⟩,hl,⟨hv,mH⟩,Tj,ht1⟩:(a<=b/\b<=l.length)/\d32 l/\(ev v/\v.length<b - a)/\0<=t/\t<4294967296:=hp;obtain⟨y,rfl,hy⟩:=mT hv;obtain⟨t,rfl⟩:=oI Tj;rw [ew] at mH;clear hv;have nh:=hl.2;have TW:t<ae:=by have hB:ae=4294967296:=rfl; omega
 refine⟨[(3,asj T l a b y t)],?_⟩;refine fm ?_;have xg:ez (cD l a b) (t*y) 0 / 4294967296^0=1:=by unfold ez; rw [oK,pB,pB]
 simp only [xg,ar3];refine⟨⟨⟨cm _,az _⟩,rfl,rfl,rfl,(adR hl bm hb _).symm⟩,fun (k:Nat) hk => ?_⟩;have cR:k<=b - a/\ez (cD l a b) (t*y) k / ae^k<=1:=hk;have cZ:=cR.1;have cg:=cR.2;clear hk;refine fm ?_;have eW:Tc.u32.aa=0:=rfl;have mU:(bL y).length=aL y:=ew y;have GW:=adT (l:=l) (s:=ez (cD l a b) (t*y) k) bm hb cZ;have nZ:=adU (l:=l) (a:=a) (b:=b) (k:=k) (s:=ez (cD l a b) (t*y) k) bm hb;obtain⟨jG,lT,GU⟩:=adI (cD l a b) (t*y) k;have tz:=AX (ez (cD l a b) (t*y) (k+1)) k;have o7:=fun h z hz=>adV (l:=l) (a:=a) (b:=b) (k:=k) (z:=z) bm hb h lT hz;obtain⟨m1,m2⟩:=ar5 t y k;have hm:=ar4 (v:=y) (k:=k) TW;have hU1:=kP (cD l a b) k;have hP:=adM TW (kP y k);have TS:=kP y k;have xh:aL y<=k->t*dg y k=0:=fun h=>by rw [GQ h,Br]
 have hB:ae=4294967296:=rfl;have TU:((a:Int)+(k:Int)).toNat=a+k:=oo
 simp only [eW,si,qd,GW,mU,TU,ik,dV];obtain⟨f1,f2⟩:=ar1 (adQ (a:=a) (b:=b) hl) (adN (v:=y) (n:=aL y) (m:=b - a) TW (az _) mH);refine⟨fun g1 => ?_,fun g1 => ?_⟩
 . rw [nZ oo];have w1:IntKind.u64.wrap (dg (cD l a b) k:Int)=(dg (cD l a b) k:Int):=fV oo;have w2:IntKind.u64.wrap (dg y k:Int)=(dg y k:Int):=fV oo;clear f1 f2 nZ lT;generalize ez (cD l a b) (t*y) k / 4294967296^k=c at *
   have w3:IntKind.u64.wrap ((t:Int)*(dg y k:Int))=((t*dg y k:Nat):Int):=by rw [<- Nk]; exact fV oo
   generalize t*dg y k=p at *
   have w4:IntKind.u64.wrap ((mulC t y k:Int)+(p:Int))=((mulC t y k+p:Nat):Int):=by rw [<- zq]; exact fV oo
   have w5:IntKind.u32.wrap ((mulC t y k+p:Nat):Int)=(dg (t*y) k:Nat):=by rw [wrap_u32,m2]
   have w6:p=0->IntKind.u32.wrap (mulC t y k:Int)=(dg (t*y) k:Nat):=fun h=>by rw [wrap_u32,m2,h,kY]
   have hZ1:=kP (t*y) k;have w7:IntKind.u64.wrap (dg (t*y) k:Int)=(dg (t*y) k:Int):=fV oo;obtain⟨o1,o2⟩:=acm (d:=dg (cD l a b) k) (o:=dg (t*y) k) (e:=1 - c) (r:=ez (cD l a b) (t*y) (k+1) / ae^k) oo oo;simp only [w1,w2,w3,w4,w5,w7,o1,o2,Gr];refine⟨fun g2=>⟨⟨oo,oo⟩,⟨oo,oo⟩,⟨oo,oo⟩,oo,oo,ii,⟨⟨oo,GU⟩,oo⟩,oo,by rw [m1],by rw [<- tz],o7 oo _ rfl⟩,fun g2 => ?_⟩;have Al:=xh oo;rw [w6 Al,w7,o1,o2];exact⟨⟨oo,oo⟩,⟨oo,oo⟩,oo,oo,ii,⟨⟨oo,GU⟩,oo⟩,oo,by rw [m1,Al,kY],by rw [<- tz],o7 oo _ rfl⟩
 . have xd:k=b - a:=oo
   subst xd;rw [show (4294967296:Nat)^(b - a)=ae^(b - a) from rfl,f2,f1,adS];refine⟨DG.2 ?_,rfl⟩;split<;>omega
def asm(l:List Int):Lp where
 X:=Nat
 ov k := [(3,.int .i64 fun _=>(l.length:Int) - 1 - (k:Int))]
 oe k := [(0,.fh fun _=>k+1)]
 I k:=k<=l.length
 μ k _:=l.length - k
 x0:=0
 nx:=some fun k=>k+1
def adW:It:=Lv 255 (Lu kN) (fun l=>(l ()).length<=1000000) (fun l=>(l ()).length) (fun l k => [.int .i64 fun _=>((l ()).length:Int) - 1 - (k ():Int),.int .u32 fun _=>(l ()).getD ((l ()).length - 1 - k ()) Tc.u32.aa])
theorem asn:pT Tryz.prog adW:=by
 refine Rv {} [] trivial Tryz.func255 (by kernel_rfl) fun ai res h hp ll => ?_;obtain⟨(l:List Int),rfl,rfl⟩:=acf h;clear h;have hl:l.length<=1000000:=hp;refine⟨[(1,asm l)],?_⟩;refine fm ?_;refine⟨ii,⟨⟨cm _,oo⟩,fun (k:Nat) hk => ?_⟩⟩;have cZ:k<=l.length:=hk;clear hk hp;refine fm ?_;simp only [vH,bw,aR,aS,or_true];exact⟨fun g=>⟨⟨oo,oo⟩,⟨⟨oo,oo⟩,by rw [show ((l.length:Int) - 1 - (k:Int)).toNat=l.length - 1 - k from oo]⟩,ii,⟨oo,oo⟩,oo⟩,fun g => .inl oo⟩
def adX:aH:=dU 163 kN (fun _=>True) (fun l => .fn 255 [.bg [.sl false .u32 l] 0])
theorem aso:aK Tryz.prog adX:=by
 refine cd [] trivial Tryz.func163 (by kernel_rfl) fun ai res h hp => ?_;obtain⟨(l:List Int),rfl,rfl⟩:=eu h;clear h;refine⟨[],?_⟩
 exact no_implicit_lambda% L4
def L5:aH:=df 86 kN kN (fun a b=>ev (a ())/\ev (b ())) (fun a b => .int .i64 fun _=>mo (dN (a ())) (dN (b ())))
theorem TX:aK Tryz.prog L5:=by
 refine FW {} [adX] ⟨aso,trivial⟩ [] trivial [adW] ⟨asn,trivial⟩ Tryz.func86 (by kernel_rfl) fun ai res h hp => ?_;obtain⟨(a:List Int),(b:List Int),rfl,rfl⟩:=dz h;clear h;have tx:ev a/\ev b:=hp;have ha:=tx.1;have hb:=tx.2;obtain⟨x,rfl,hx⟩:=mT ha;obtain⟨y,rfl,hy⟩:=mT hb;clear ha hb hp;refine cL (aL x) fun n hn => ?_;refine⟨[],?_⟩;refine fm ?_;have qf:(bL x).length=n:=(ew x).trans hn;have mU:(bL y).length=aL y:=ew y;simp only [qf,mU,ik];refine⟨fun g => ?_,fun g => ?_⟩
 . have aT:¬ n=aL y:=fun h=>by rw [h,c8 rfl] at g; cases g
   exact⟨fun g1=>(Im (NK bW (show aL x<aL y from oo))).symm,fun g1=>(Io (NK bW (show aL y<aL x from oo))).symm⟩
 have mP:aL y=n:=aw4 fun h=>by rw [gw oo] at g; cases g
 refine⟨⟨fun _ => [(1,.box 3 [.int .i64 fun _=>0])],fun k=>(bf ae x).drop (n - k)=(bf ae y).drop (n - k)⟩,?_⟩;refine fm ?_;refine⟨⟨oo,by rw [rC,Bh (show aL x<=n from oo),Bh (show aL y<=n from oo)]⟩,fun (k:Nat) hk => ?_⟩;have cR:(bf ae x).drop (n - k)=(bf ae y).drop (n - k)/\k<=n:=hk;have cZ:=cR.1;have cg:=cR.2;clear hk;refine fm ?_;have eW:Tc.u32.aa=0:=rfl;refine⟨fun _ cT => ?_,fun _ cT => ?_⟩
 . have cT:k<n:=cT;refine fm ?_;simp only [qf,mU,eW,si,show ((n:Int) - 1 - (k:Int)).toNat=n - 1 - k from oo];obtain⟨j,hj⟩:∃ j,j=n - 1 - k:=⟨_,rfl⟩
   have hjx:j<(bf ae x).length:=by show j<aL x; omega
   have Ip:j<(bf ae y).length:=by show j<aL y; omega
   rw [<- hj,show n - (k+1)=j from oo];rw [show n - k=j+1 from oo] at cZ;refine⟨⟨oo,oo⟩,fun g1=>(Im (V7 (hn.trans mP.symm) hjx cZ oo)).symm,fun g1=>⟨⟨oo,oo⟩,fun g2=>(Io (V7 (mP.trans hn.symm) Ip cZ.symm oo)).symm,fun g2 => ?_⟩⟩;show (bf ae x).drop j=(bf ae y).drop j
   rw [N2 hjx,N2 Ip,cZ,show (bf ae x).getD j 0=(bf ae y).getD j 0 from oo]
 . have cT:k=n:=cT;refine fm ?_;rw [cT,Bq] at cZ;rw [ahT bW cZ,N1]
end Go.Proofs.YtlpikgchnjajmaaGreat
