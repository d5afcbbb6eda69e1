/-
  frac by the abstract run: times.
-/
import Derived.Test.YtamjbkaclhgffaaGreatSh17
set_option linter.all false
set_option maxRecDepth 100000
set_option maxHeartbeats 4000000
namespace Go.Proofs.YtamjbkaclhgffaaGreat
open Go.RowKit
variable{p:Addr}{R:List Value}{B D E N V X Z a b base g i j m n s x y:Nat}{W' w w':World}
def auT(x y n m T:Nat):Lp where
 X:=Nat
 ov i := [(19,.int .i64 fun _=>(i:Int)),(5,.own 0)]
 oe i := [(0,.row true .u32 T fun _=>cl (pad ae (n+m) (fE x y i)))]
 I i:=i<=n
 μ i _:=n - i
 x0:=0
 nx:=some fun i=>i+1
def auU(x y n m i T:Nat):Lp where
 X:=Nat
 ov k := [(26,.int .i64 fun _=>(k:Int)),(8,.int .u64 fun _=>(l9 x y i k:Nat)),(5,.own 0)]
 oe k := [(0,.row true .u32 T fun _=>cl (gw (i+k) (kY x y i k) (pad ae (n+m) (fE x y i))))]
 I k:=k<=m/\l9 x y i k<ae
 μ k _:=m - k
 x0:=0
 nx:=some fun k=>k+1
def ER:aC:=bE 127 l7 l7 (fun a b=>eX (a ())/\eX (b ())) (fun a b => .sl false .u32 fun _=>ca (dX (a ())*dX (b ())))
theorem IQ:aE Tryz.prog ER:=by
 refine bZ { kp := [(0,[0,1]),(1,[0,1]),(2,[0,1,5]),(3,[1,5,17,18,19]),(4,[1,5,17,18,19]),(5,[1,5,6,7,17,18,19]),(6,[1,5,6,7,8,17,18,19]),(7,[1,5,6,7,8,17,18,19,24,25,26]),(8,[1,5,6,7,8,17,18,19,24,25,26]),(9,[1,5,6,7,8,9,10,17,18,19,24,25,26]),(10,[1,5,6,7,8,9,17,18,19,24,25,26]),(11,[1,5,6,7,8,17,18,19,24,25,26]),(12,[1,5,6,7,8,17,18,19,24,25,26]),(13,[1,5,6,8,17,18,19]),(14,[1,5,17,18,19]),(15,[5])] } [EM] ⟨IH,trivial⟩ [giveUp 105] ⟨II,trivial⟩ Tryz.func127 (by kernel_rfl) fun ah res h hp => ?_;obtain⟨(a:List Int),(b:List Int),rfl,rfl⟩:=bG h;clear h;have ma:eX a/\eX b:=hp;have ha:=ma.1;have hb:=ma.2;obtain⟨x,rfl,hx⟩:=n9 ha;obtain⟨y,rfl,hy⟩:=n9 hb;clear ha hb;refine bk (aX x) fun n hn => ?_;refine bk (aX y) fun m hm => ?_;refine⟨[(3,auT x y n m 49)],?_⟩;refine fm ?_;have pJ:(ca x).length=n:=(eY x).trans hn;have mM:(ca y).length=m:=(eY y).trans hm;have dr:Tc.u32.aa=0:=rfl;have yf:fE x y 0=0:=by unfold fE; rw [mT,qO,vR]
 simp only [pJ,mM,yf,Zb,<- IB];refine⟨ii,⟨oo,oo⟩,⟨⟨bw _,rfl,by rw [show ((n:Int)+(m:Int)).toNat=n+m from oo]⟩,fun (i:Nat) hi => ?_⟩⟩;have uF:i<=n:=hi;clear hi;refine fm ?_;have dO:(cl (pad ae (n+m) (fE x y i))).length=n+m:=by rw [iN,fg]
 simp only [dr,tK,rG,dO,pJ,mM,jd];refine⟨fun g1=>⟨⟨oo,oo⟩,?_⟩,fun g1 => ?_⟩
 . refine⟨auU x y n m i 49,?_⟩;refine fm ?_;refine⟨⟨⟨bw _,by rw [afc]; decide⟩,rfl,by rw [afc]; rfl,by rw [afb,jD,afa oo rfl]⟩,fun (k:Nat) hk => ?_⟩;have bu:k<=m/\l9 x y i k<ae:=hk;have bM:=bu.1;have bm:=bu.2;clear hk;refine fm ?_;have IS:(cl (gw (i+k) (kY x y i k) (pad ae (n+m) (fE x y i)))).length=n+m:=by rw [iN,EN wN,fg]
   have lF:k<m->(cl (gw (i+k) (kY x y i k) (pad ae (n+m) (fE x y i)))).getD (i+k) 0=(dg (fE x y i) (i+k):Nat):=fun h=>by rw [qw,U1,EP oo]
   have mb:((i:Int)+(k:Int)).toNat=i+k:=oo
   have him:((i:Int)+(m:Int)).toNat=i+m:=oo
   simp only [dr,tK,rG,IS,pJ,mM,mb,him];obtain⟨q1,q2,q3,q4⟩:=auG bm;have gH:k=m->(cl (gw (i+k) (kY x y i k) (pad ae (n+m) (fE x y i)))).set (i+m) ((l9 x y i k:Nat):Int)=cl (pad ae (n+m) (fE x y (i+1))):=by
    rintro rfl
    rw [zS,auI (mU hm) oo]
   have w1:IntKind.u64.wrap (dg x i:Int)=(dg x i:Int):=gJ (YV (l8 _ _) (by decide));have w2:IntKind.u64.wrap (dg y k:Int)=(dg y k:Int):=gJ (YV (l8 _ _) (by decide));have w3:IntKind.u64.wrap (dg (fE x y i) (i+k):Int)=(dg (fE x y i) (i+k):Int):=gJ (YV (l8 _ _) (by decide));have w4:IntKind.u64.wrap ((dg x i:Int)*(dg y k:Int))=((dg x i*dg y k:Nat):Int):=by rw [<- Kn]; exact gJ oo
   refine⟨fun g2 => ?_,fun g2=>⟨ii,⟨oo,oo⟩,ii,⟨oo,oo⟩,oo,?_⟩⟩
   . rw [lF oo,w1,w2,w3,w4];have qm:=EO (k:=i+k) (S:=kY x y i k) (S':=kY x y i (k+1)) (z:=(l9 x y i k+dg x i*dg y k+dg (fE x y i) (i+k)) % ae) (R:=pad ae (n+m) (fE x y i)) wN q2 q1.symm;have af:l9 x y i (k+1)<ae:=by rw [q3]; exact AI q4
     generalize dg x i*dg y k=p at *
     generalize dg (fE x y i) (i+k)=d at *
     generalize l9 x y i k=c at *
     have w5:IntKind.u64.wrap ((p:Int)+(d:Int))=((p+d:Nat):Int):=by rw [<- F8]; exact gJ oo
     have w6:IntKind.u64.wrap ((c:Int)+((p+d:Nat):Int))=((c+p+d:Nat):Int):=by rw [<- F8,<- pZ]; exact gJ oo
     rw [w5,w6,ID,wrap_u32,zS];exact⟨⟨oo,oo⟩,ii,⟨oo,oo⟩,ii,⟨oo,oo⟩,oo,ii,⟨⟨oo,af⟩,oo⟩,oo,by rw [q3],congrArg cl qm⟩
   . rw [wrap_u32,er bm];exact gH oo
 . have pG:i=n:=oo
   subst pG;have e:fE x y i=x*y:=by unfold fE; rw [NW (mU hn)]
   have h2:=IN (mU hm) x i;rw [e] at h2 ⊢;have e3:ca (dX (cl (pad ae (i+m) (x*y))))=ca (x*y):=by rw [rF,ox (by decide) _ _ h2]
   exact⟨EK (sm (by decide) _ _) wN,e3⟩
def cU(l:List Int)(a b:Nat):Nat:=dX ((l.drop a).take (b - a))
def kx(l:List Int)(a b s:Nat):List Int:=l.take a++cl (pad ae (b - a) s)++l.drop b
def sS(l:List Int)(a b k s:Nat):List Int:=l.take a++cl (gw k s (pad ae (b - a) (cU l a b)))++l.drop b
theorem auW{l:List Int}(hl:d32 l)(hb:b<=l.length):cl (pad ae (b - a) (cU l a b))=(l.drop a).take (b - a):=by
 obtain⟨m,rfl,hd⟩:=IC (B:=ae) hl.1;rw [iN] at hb;unfold cU;rw [Cn,yd,rF];have h:=Dw (B:=ae) (by decide) ((m.drop a).take (b - a)) ((hd.drop a).take _);rw [show ((m.drop a).take (b - a)).length=b - a by rw [cy,iU]; omega] at h;rw [h]
theorem afh{l:List Int}(hl:d32 l):cU l a b<ae^(b - a):=by
 obtain⟨m,rfl,hd⟩:=IC (B:=ae) hl.1;unfold cU;rw [Cn,yd,rF];have h:=sj (B:=ae) ((m.drop a).take (b - a)) ((hd.drop a).take _);exact iT h (ui (by decide) (by rw [cy]; omega))
theorem afi{l:List Int}(hl:d32 l)(bJ:a<=b)(hb:b<=l.length)(s:Nat):sS l a b 0 s=l:=by
 unfold sS;rw [UZ,auW hl hb];have:=Zu l a (b - a);rwa [show a+(b - a)=b from oo] at this
theorem afj(l:List Int)(a b s:Nat):sS l a b (b - a) s=kx l a b s:=by
 unfold sS kx;have:=U0 s (pad ae (b - a) (cU l a b));rw [fg] at this;rw [this]
theorem afk{l:List Int}{k:Nat}(bJ:a<=b)(hb:b<=l.length)(hk:k<=b - a):(sS l a b k s).length=l.length:=by
 have h1:(cl (gw k s (pad ae (b - a) (cU l a b)))).length=b - a:=by rw [iN,EN (by rw [fg]; exact hk),fg]
 unfold sS;rw [c9,c9,h1,cy,iU];omega
theorem afl{l:List Int}{k:Nat}(bJ:a<=b)(hb:b<=l.length)(hk:k<b - a):(sS l a b k s).getD (a+k) 0=(dg (cU l a b) k:Nat):=by
 have h1:(cl (gw k s (pad ae (b - a) (cU l a b)))).length=b - a:=by rw [iN,EN wN,fg]
 have h2:=an3 (L:=l) (j:=a) (m:=b - a) h1 hk oo;rw [show a+(b - a)=b from oo] at h2;rw [aY];unfold sS;rw [h2,<- aY,qw,U1,EP hk]
theorem afm{l:List Int}{k s' z:Nat}(bJ:a<=b)(hb:b<=l.length)(hk:k<b - a)(h:s' % ae^k=s % ae^k)(hz:z=s' / ae^k % ae):(sS l a b k s).set (a+k) (z:Int)=sS l a b (k+1) s':=by
 have h1:(cl (gw k s (pad ae (b - a) (cU l a b)))).length=b - a:=by rw [iN,EN wN,fg]
 have h2:=an2 (L:=l) (j:=a) (m:=b - a) (r:=(z:Int)) h1 hk oo;rw [show a+(b - a)=b from oo] at h2;unfold sS;rw [h2,zS,EO (by rw [fg]; exact hk) h hz]
def U4:fi:=⟨167,[.GD .u32,.sl .u32],1,fun ah es=>match ah,es with
 | [.cW .u32 0 a b,.sl false .u32 v],[(0,.row false .u32 T l)]=>some ⟨fun _=>(a ()<=b ()/\b ()<=(l ()).length)/\d32 (l ())/\eX (v ())/\(v ()).length<=b () - a (),.bool fun _=>decide (ae^(b () - a ())<=cU (l ()) (a ()) (b ())+dX (v ())),[(0,.row false .u32 T fun _=>kx (l ()) (a ()) (b ()) (cU (l ()) (a ()) (b ())+dX (v ())))]⟩
 | _,_=>none,true⟩
def auX(T:Nat)(l:List Int)(a b y:Nat):Lp where
 X:=Nat
 ov k := [(9,.int .i64 fun _=>(k:Int)),(5,.int .u64 fun _=>(fS (cU l a b) y k / ae^k:Nat)),(0,.cW .u32 0 (fun _=>a) fun _=>b)]
 oe k := [(0,.row false .u32 T fun _=>sS l a b k (fS (cU l a b) y k))]
 I k:=k<=b - a
 μ k _:=b - a - k
 x0:=0
 nx:=some fun k=>k+1
theorem auY:jb Tryz.prog U4:=by
 refine Np { kp := [(0,[0,1]),(1,[0,1]),(2,[0,1,5]),(3,[0,1,5,8,9]),(4,[0,1,5,8,9]),(5,[0,1,5,6,8,9]),(6,[0,1,5,6,8,9]),(7,[0,1,5,6,8,9]),(8,[0,1,5,6,8,9]),(9,[0,1,5,8,9]),(10,[0,1,5,8,9]),(11,[5])] } [] trivial [] trivial Tryz.func167 (by kernel_rfl) fun ah es res h hp => ?_;simp only [U4] at h;split at h
 case h_2=>cases h
 rename_i a b v T l;cases h;obtain⟨l,rfl⟩:=eta (α:=List Int) l;obtain⟨v,rfl⟩:=eta (α:=List Int) v;obtain⟨a,rfl⟩:=eta (α:=Nat) a;obtain⟨b,rfl⟩:=eta (α:=Nat) b;obtain⟨⟨bJ,hb⟩,hl,hv,nW⟩:(a<=b/\b<=l.length)/\d32 l/\eX v/\v.length<=b - a:=hp;obtain⟨y,rfl,hy⟩:=n9 hv;rw [eY] at nW;clear hv;have kf:=hl.2;refine⟨[(3,auX T l a b y)],?_⟩;refine fm ?_;have yf:fS (cU l a b) y 0 / 4294967296^0=0:=by unfold fS; rw [mT,qO,qO]
 refine⟨⟨bw _,rfl,by rw [yf]; rfl,(afi hl bJ hb _).symm⟩,fun (k:Nat) hk => ?_⟩;have bM:k<=b - a:=hk;clear hk;refine fm ?_;have dr:Tc.u32.aa=0:=rfl;have mM:(ca y).length=aX y:=eY y;have IS:=afk (l:=l) (s:=fS (cU l a b) y k) bJ hb bM;have lF:=afl (l:=l) (a:=a) (b:=b) (k:=k) (s:=fS (cU l a b) y k) bJ hb;obtain⟨m9,qX⟩:=ae7 (cU l a b) y k;have vd:=Cu (fS (cU l a b) y (k+1)) k;have qm:=fun h z hz=>afm (l:=l) (a:=a) (b:=b) (k:=k) (z:=z) bJ hb h qX hz;have iw:=ae8 (cU l a b) y k;have hU1:=l8 (cU l a b) k;have U3:=l8 y k;have yg:aX y<=k->dg y k=0:=IM;have hB:ae=4294967296:=rfl;have U5:((a:Int)+(k:Int)).toNat=a+k:=oo
 simp only [dr,tK,rG,IS,mM,U5,jd];have tH:=auK (afh (a:=a) (b:=b) hl) (eC cw nW);refine⟨fun g1 => ?_,fun g1 => ?_⟩
 . rw [lF oo];have w1:IntKind.u64.wrap (dg (cU l a b) k:Int)=(dg (cU l a b) k:Int):=gJ oo;have w2:IntKind.u64.wrap (dg y k:Int)=(dg y k:Int):=gJ oo;clear tH lF qX;generalize fS (cU l a b) y k / 4294967296^k=c at *
   have w3:IntKind.u64.wrap ((c:Int)+(dg (cU l a b) k:Int))=((c+dg (cU l a b) k:Nat):Int):=by rw [<- F8]; exact gJ oo
   have w4:IntKind.u64.wrap (((c+dg (cU l a b) k:Nat):Int)+(dg y k:Int))=((c+dg (cU l a b) k+dg y k:Nat):Int):=by rw [<- F8]; exact gJ oo
   simp only [w1,w2,w3,w4,ID,wrap_u32];refine⟨⟨oo,oo⟩,fun g2=>⟨⟨oo,oo⟩,⟨oo,oo⟩,oo,ii,⟨oo,oo⟩,oo,by rw [<- vd,m9],qm oo _ (by rw [m9])⟩,fun g2=>⟨⟨oo,oo⟩,oo,ii,⟨oo,oo⟩,oo,by rw [<- vd,m9,yg oo,jD],qm oo _ (by rw [m9,yg oo,jD])⟩⟩
 . have NU:k=b - a:=oo
   subst NU;rw [tH,afj];refine⟨vM.2 ?_,rfl⟩;have hp:=rH (b - a);rw [show (4294967296:Nat)^(b - a)=ae^(b - a) from rfl,show (0:Int)<((cU l a b+y) / ae^(b - a):Nat)↔0<(cU l a b+y) / ae^(b - a) from oo];exact Nat.div_pos_iff.trans ⟨fun h=>h.2,fun h=>⟨hp,h⟩⟩
def U6:fi:=⟨166,[.GD .u32,.sl .u32,.int .u64],1,fun ah es=>match ah,es with
 | [.cW .u32 0 a b,.sl false .u32 v,.int .u64 t],[(0,.row false .u32 T l)]=>some ⟨fun _=>(a ()<=b ()/\b ()<=(l ()).length)/\d32 (l ())/\(eX (v ())/\(v ()).length<b () - a ())/\0<=t ()/\t ()<4294967296,.bool fun _=>decide (cU (l ()) (a ()) (b ())<(t ()).toNat*dX (v ())),[(0,.row false .u32 T fun _=>kx (l ()) (a ()) (b ()) (cU (l ()) (a ()) (b ())+ae^(b () - a ()) - (t ()).toNat*dX (v ())))]⟩
 | _,_=>none,true⟩
def au0(T:Nat)(l:List Int)(a b y t:Nat):Lp where
 X:=Nat
 ov k := [(13,.int .i64 fun _=>(k:Int)),(7,.int .u64 fun _=>(mulC t y k:Nat)),(8,.int .u64 fun _=>(1 - eZ (cU l a b) (t*y) k / ae^k:Nat)),(0,.cW .u32 0 (fun _=>a) fun _=>b)]
 oe k := [(0,.row false .u32 T fun _=>sS l a b k (eZ (cU l a b) (t*y) k))]
 I k:=k<=b - a/\eZ (cU l a b) (t*y) k / ae^k<=1
 μ k _:=b - a - k
 x0:=0
 nx:=some fun k=>k+1
theorem au1:jb Tryz.prog U6:=by
 refine Np { kp := [(0,[0,1,2]),(1,[0,1,2]),(2,[0,1,2,7,8]),(3,[0,1,2,7,8,12,13]),(4,[0,1,2,7,8,12,13]),(5,[0,1,2,7,8,9,12,13]),(6,[0,1,2,7,8,9,12,13]),(7,[0,1,2,7,8,9,12,13]),(8,[0,1,2,7,9,10,12,13]),(9,[0,1,2,7,10,12,13]),(10,[0,1,2,7,8,12,13]),(11,[0,1,2,7,8,12,13]),(12,[8])] } [] trivial [] trivial Tryz.func166 (by kernel_rfl) fun ah es res h hp => ?_;simp only [U6] at h;split at h
 case h_2=>cases h
 rename_i a b v t T l;cases h;obtain⟨l,rfl⟩:=eta (α:=List Int) l;obtain⟨v,rfl⟩:=eta (α:=List Int) v;obtain⟨a,rfl⟩:=eta (α:=Nat) a;obtain⟨b,rfl⟩:=eta (α:=Nat) b;obtain⟨t,rfl⟩:=eta (α:=Int) t;obtain⟨⟨bJ,hb⟩,hl,⟨hv,nW⟩,U7,ht1⟩:(a<=b/\b<=l.length)/\d32 l/\(eX v/\v.length<b - a)/\0<=t/\t<4294967296:=hp;obtain⟨y,rfl,hy⟩:=n9 hv;obtain⟨t,rfl⟩:=om U7;rw [eY] at nW;clear hv;have kf:=hl.2;have U8:t<ae:=by have hB:ae=4294967296:=rfl; omega
 refine⟨[(3,au0 T l a b y t)],?_⟩;refine fm ?_;have yf:eZ (cU l a b) (t*y) 0 / 4294967296^0=1:=by unfold eZ; rw [mT,qO,qO]
 simp only [yf,auL];refine⟨⟨⟨bw _,aN _⟩,rfl,rfl,rfl,(afi hl bJ hb _).symm⟩,fun (k:Nat) hk => ?_⟩;have bu:k<=b - a/\eZ (cU l a b) (t*y) k / ae^k<=1:=hk;have bM:=bu.1;have bm:=bu.2;clear hk;refine fm ?_;have dr:Tc.u32.aa=0:=rfl;have mM:(ca y).length=aX y:=eY y;have IS:=afk (l:=l) (s:=eZ (cU l a b) (t*y) k) bJ hb bM;have lF:=afl (l:=l) (a:=a) (b:=b) (k:=k) (s:=eZ (cU l a b) (t*y) k) bJ hb;obtain⟨m9,qX,IP⟩:=ae9 (cU l a b) (t*y) k;have vd:=Cu (eZ (cU l a b) (t*y) (k+1)) k;have qm:=fun h z hz=>afm (l:=l) (a:=a) (b:=b) (k:=k) (z:=z) bJ hb h qX hz;obtain⟨m1,m2⟩:=auN t y k;have hm:=auM (v:=y) (k:=k) U8;have hU1:=l8 (cU l a b) k;have hP:=afd U8 (l8 y k);have U3:=l8 y k;have yg:aX y<=k->t*dg y k=0:=fun h=>by rw [IM h,uq]
 have hB:ae=4294967296:=rfl;have U5:((a:Int)+(k:Int)).toNat=a+k:=oo
 simp only [dr,tK,rG,IS,mM,U5,jd,fB];obtain⟨f1,f2⟩:=auJ (afh (a:=a) (b:=b) hl) (afe (v:=y) (n:=aX y) (m:=b - a) U8 (aN _) nW);refine⟨fun g1 => ?_,fun g1 => ?_⟩
 . rw [lF oo];have w1:IntKind.u64.wrap (dg (cU l a b) k:Int)=(dg (cU l a b) k:Int):=gJ oo;have w2:IntKind.u64.wrap (dg y k:Int)=(dg y k:Int):=gJ oo;clear f1 f2 lF qX;generalize eZ (cU l a b) (t*y) k / 4294967296^k=c at *
   have w3:IntKind.u64.wrap ((t:Int)*(dg y k:Int))=((t*dg y k:Nat):Int):=by rw [<- Kn]; exact gJ oo
   generalize t*dg y k=p at *
   have w4:IntKind.u64.wrap ((mulC t y k:Int)+(p:Int))=((mulC t y k+p:Nat):Int):=by rw [<- F8]; exact gJ oo
   have w5:IntKind.u32.wrap ((mulC t y k+p:Nat):Int)=(dg (t*y) k:Nat):=by rw [wrap_u32,m2]
   have w6:p=0->IntKind.u32.wrap (mulC t y k:Int)=(dg (t*y) k:Nat):=fun h=>by rw [wrap_u32,m2,h,jD]
   have hZ1:=l8 (t*y) k;have w7:IntKind.u64.wrap (dg (t*y) k:Int)=(dg (t*y) k:Int):=gJ oo;obtain⟨o1,o2⟩:=aeR (d:=dg (cU l a b) k) (o:=dg (t*y) k) (e:=1 - c) (r:=eZ (cU l a b) (t*y) (k+1) / ae^k) oo oo;simp only [w1,w2,w3,w4,w5,w7,o1,o2,ID];refine⟨fun g2=>⟨⟨oo,oo⟩,⟨oo,oo⟩,⟨oo,oo⟩,oo,oo,ii,⟨⟨oo,IP⟩,oo⟩,oo,by rw [m1],by rw [<- vd],qm oo _ rfl⟩,fun g2 => ?_⟩;have Em:=yg oo;rw [w6 Em,w7,o1,o2];exact⟨⟨oo,oo⟩,⟨oo,oo⟩,oo,oo,ii,⟨⟨oo,IP⟩,oo⟩,oo,by rw [m1,Em,jD],by rw [<- vd],qm oo _ rfl⟩
 . have NU:k=b - a:=oo
   subst NU;rw [show (4294967296:Nat)^(b - a)=ae^(b - a) from rfl,f2,f1,afj];refine⟨vM.2 ?_,rfl⟩;split<;>omega
def au2(l:List Int):Lp where
 X:=Nat
 ov k := [(3,.int .i64 fun _=>(l.length:Int) - 1 - (k:Int))]
 oe k := [(0,.fY fun _=>k+1)]
 I k:=k<=l.length
 μ k _:=l.length - k
 x0:=0
 nx:=some fun k=>k+1
def afn:It:=UJ 244 (UI l7) (fun l=>(l ()).length<=1000000) (fun l=>(l ()).length) (fun l k => [.int .i64 fun _=>((l ()).length:Int) - 1 - (k ():Int),.int .u32 fun _=>(l ()).getD ((l ()).length - 1 - k ()) Tc.u32.aa])
theorem au3:sN Tryz.prog afn:=by
 refine aec {} [] trivial Tryz.func244 (by kernel_rfl) fun ah res h hp ll => ?_;obtain⟨(l:List Int),rfl,rfl⟩:=at9 h;clear h;have hl:l.length<=1000000:=hp;refine⟨[(1,au2 l)],?_⟩;refine fm ?_;refine⟨ii,⟨⟨bw _,oo⟩,fun (k:Nat) hk => ?_⟩⟩;have bM:k<=l.length:=hk;clear hk hp;refine fm ?_;simp only [pf,aO,aJ,aH,or_true];exact⟨fun g=>⟨⟨oo,oo⟩,⟨⟨oo,oo⟩,by rw [show ((l.length:Int) - 1 - (k:Int)).toNat=l.length - 1 - k from oo]⟩,ii,⟨oo,oo⟩,oo⟩,fun g => .inl oo⟩
def afo:aC:=cL 208 l7 (fun _=>True) (fun l => .fn 244 [.bP [.sl false .u32 l] 0])
theorem au4:aE Tryz.prog afo:=by
 refine bD [] trivial Tryz.func208 (by kernel_rfl) fun ah res h hp => ?_;obtain⟨(l:List Int),rfl,rfl⟩:=cS h;clear h;refine⟨[],?_⟩
 exact afp
def NX:aC:=bE 162 l7 l7 (fun a b=>eX (a ())/\eX (b ())) (fun a b => .int .i64 fun _=>oz (dX (a ())) (dX (b ())))
theorem U9:aE Tryz.prog NX:=by
 refine aeb {} [afo] ⟨au4,trivial⟩ [] trivial [afn] ⟨au3,trivial⟩ Tryz.func162 (by kernel_rfl) fun ah res h hp => ?_;obtain⟨(a:List Int),(b:List Int),rfl,rfl⟩:=bG h;clear h;have ma:eX a/\eX b:=hp;have ha:=ma.1;have hb:=ma.2;obtain⟨x,rfl,hx⟩:=n9 ha;obtain⟨y,rfl,hy⟩:=n9 hb;clear ha hb hp;refine bk (aX x) fun n hn => ?_;refine⟨[],?_⟩;refine fm ?_;have pJ:(ca x).length=n:=(eY x).trans hn;have mM:(ca y).length=aX y:=eY y;simp only [pJ,mM,jd];refine⟨fun g => ?_,fun g => ?_⟩
 . have bg:¬ n=aX y:=fun h=>by rw [h,cT rfl] at g; cases g
   exact⟨fun g1=>(KK (Du cw (show aX x<aX y from oo))).symm,fun g1=>(KL (Du cw (show aX y<aX x from oo))).symm⟩
 have nu:aX y=n:=aD5 fun h=>by rw [dB oo] at g; cases g
 refine⟨⟨fun _ => [(1,.box 3 [.int .i64 fun _=>0])],fun k=>(aq ae x).drop (n - k)=(aq ae y).drop (n - k)⟩,?_⟩;refine fm ?_;refine⟨⟨oo,by rw [sd,yI (show aX x<=n from oo),yI (show aX y<=n from oo)]⟩,fun (k:Nat) hk => ?_⟩;have bu:(aq ae x).drop (n - k)=(aq ae y).drop (n - k)/\k<=n:=hk;have bM:=bu.1;have bm:=bu.2;clear hk;refine fm ?_;have dr:Tc.u32.aa=0:=rfl;refine⟨fun _ eV => ?_,fun _ eV => ?_⟩
 . have eV:k<n:=eV;refine fm ?_;simp only [pJ,mM,dr,tK,show ((n:Int) - 1 - (k:Int)).toNat=n - 1 - k from oo];obtain⟨j,hj⟩:∃ j,j=n - 1 - k:=⟨_,rfl⟩
   have hjx:j<(aq ae x).length:=by show j<aX x; omega
   have DB:j<(aq ae y).length:=by show j<aX y; omega
   rw [<- hj,show n - (k+1)=j from oo];rw [show n - k=j+1 from oo] at bM;refine⟨⟨oo,oo⟩,fun g1=>(KK (Zw (hn.trans nu.symm) hjx bM oo)).symm,fun g1=>⟨⟨oo,oo⟩,fun g2=>(KL (Zw (nu.trans hn.symm) DB bM.symm oo)).symm,fun g2 => ?_⟩⟩;show (aq ae x).drop j=(aq ae y).drop j
   rw [QA hjx,QA DB,bM,show (aq ae x).getD j 0=(aq ae y).getD j 0 from oo]
 . have eV:k=n:=eV;refine fm ?_;rw [eV,vS] at bM;rw [Y3 cw bM,Qz]
open Go.Shelf
attribute [local go_sem] Oper.semAt_some
theorem not_row{W:World}{c:Array Value}{t:TypeId}{f:Nat×Nat}{row:Option Nat}(h:W.heap[b]? = some (.cells c t f))(hr:∀ r,row=some r->B<=r/\∃ o:Obj,W.heap[r]? = some o/\o.isCells=false):some b≠row:=by
 intro e;obtain⟨_,o,ho,hc⟩:=hr b e.symm;rw [h] at ho;injection ho with ho;subst ho;cases hc
theorem NY{W:World}{t:Nat}{v:Value}{row:Option Nat}(h:Boxed W b t v)(hg:W.grownBy W' row)(hr:∀ r,row=some r->B<=r/\∃ o:Obj,W.heap[r]? = some o/\o.isCells=false):Boxed W' b t v:=h.kept hg (not_row h hr)
theorem au5{W:World}{row:Option Nat}(h:w.grownBy W (some g))(hB:w.heap.size<=B)(hg:W.grownBy W' row)(hr:∀ r,row=some r->B<=r/\∃ o:Obj,W.heap[r]? = some o/\o.isCells=false):w.grownBy W' (some g) :=
 ⟨hg.os.trans h.os,hg.tape.trans h.tape,hg.output.trans h.output,cd h.size hg.size,fun k hk bg=>(hg.block k (iT hk h.size) (fun e=>by have:=(hr k e.symm).1; omega)).trans (h.block k hk bg)⟩
theorem Va{W:World}(h:w.grownBy W (some g))(hp:p.block=g\/w.heap.size<=p.block)(u:Value):w.grownBy (W.setCell p u) (some g) :=
 ⟨h.os,h.tape,h.output,by simp; exact h.size,fun k hk bg=>(vJ _ _ _ _ (fun e=>by
  rcases hp with hp|hp
  . exact bg (by rw [e,hp])
  . omega)).trans (h.block k hk bg)⟩
theorem NZ{W:World}(h:w.grownBy W (some g))(o:Obj):w.grownBy (W.alloc o) (some g) :=
 ⟨h.os,h.tape,h.output,by simp; exact Nat.le_succ_of_le h.size,fun k hk bg=>(uk _ _ _ (iT hk h.size)).trans (h.block k hk bg)⟩
theorem au6{W:World}(h:w.grownBy W (some g))(hD:w.heap.size<=D)(o:Obj):w.grownBy (W.putObj D o) (some g) :=
 ⟨h.os,h.tape,h.output,by simp; exact h.size,fun k hk bg=>(World.putObj_heap_other oo).trans (h.block k hk bg)⟩
def je(w:World)(g E:Nat)(k:IntKind)(R:List Value)(l:List Nat):Prop:=w.heap[g]? = some (.cells (uz k l++R).toArray E (0,0))
theorem je.lt{k:IntKind}{l:List Nat}(h:je w g E k R l):g<w.heap.size:=(pV.1 h).1
theorem je.lu{k:IntKind}{l:List Nat}(h:je w g E k R l)(hg:w'.heap[g]? = w.heap[g]?):je w' g E k R l:=hg.trans h
theorem je.cell{k:IntKind}{l:List Nat}(h:je w g E k R l)(hi:i<l.length):w.cell? ⟨g,i,none⟩=some (.int k (l[i]:Int)):=DF.cell ⟨R,h⟩ hi
theorem je.frozen{k:IntKind}{l:List Nat}(h:je w g E k R l)(i:Nat):w.frozen? ⟨g,i,none⟩=false:=DF.frozen ⟨R,h⟩ i
theorem je.setCell{k:IntKind}{l:List Nat}(h:je w g E k R l)(hi:i<l.length)(m:Nat):je (w.setCell ⟨g,i,none⟩ (.int k (m:Int))) g E k R (l.set i m):=by
 unfold je at *
 rw [heap_setCell h];congr 2;apply yP;rw [aD0,List.toList_toArray,List.toList_toArray];rw [List.set_append_left _ _ (by rw [Gw]; exact hi)];unfold uz;rw [List.map_set]
theorem je.other{k:IntKind}{l:List Nat}(h:je w g E k R l)(bg:g≠p.block)(u:Value):je (w.setCell p u) g E k R l:=h.lu (vJ _ _ _ _ bg)
theorem je.row{W:World}{k:IntKind}{l:List Nat}{row:Option Nat}(h:je W g E k R l)(hg:W.grownBy W' row)(hr:∀ r,row=some r->B<=r/\∃ o:Obj,W.heap[r]? = some o/\o.isCells=false):je W' g E k R l:=(hg.block g h.lt (not_row h hr)).trans h
def au7(R:List Value)(w:World)(g n c by_:Nat)(l:List Nat)(pre:List (Nat×Nat))(W:World):Prop:=∃ (o:List Nat) (r:Nat),pre.length<=n/\o.length=n/\cz ae o/\o.take (n - pre.length)=l.take (n - pre.length)/\r<by_/\aZ ae (l.drop (n - pre.length))=aZ ae (o.drop (n - pre.length))*by_+r/\je W g 49 .u32 R o /\
 Boxed W w.heap.size 114 (.slice (some ⟨g,0,none⟩) n c)/\Boxed W (w.heap.size+1) 49 (.int .u32 (by_:Int))/\Boxed W (w.heap.size+2) 117 (.int .u64 (r:Int))/\Boxed W (w.heap.size+3) 114 (.slice (some ⟨g,0,none⟩) n c)/\w.grownBy W (some g)
theorem au8(R:List Value)(g c n by_:Nat)(l:List Nat)(hn:n=l.length)(w:World)(hL:je w g 49 .u32 R l)(hd:cz ae l)(hlen:l.length<=1000)(h0:0<by_)(hby:by_<4294967296) :
 Calls Tryz.prog 165 #[.slice (some ⟨g,0,none⟩) n c,.int .u32 by_] w fun e w'=>∃ o,e = .returned (.int .u32 (aZ ae l % by_:Nat))/\o.length=l.length/\cz ae o/\aZ ae o=aZ ae l / by_/\je w' g 49 .u32 R o/\w.grownBy w' (some g):=by
 have m9:n<=1000:=oo
 have HN:=bt hn;have HL:=bt hL;clear hn hL;refine (callsIn_wide (n:=3)).1 ?_;refine callsIn_of_wp_marks Tryz.func165 rfl trivial ?_ rfl;simp only [Tryz.ntmps165,Dh,dE,hZ,Nat.reduceAdd,Nat.reduceSub,amY,amX,am9,am2,tg,qL]
 gi_wp2_with (refine⟨trivial,?_⟩; gi_at_call 208; refine (aoo Fence.wide _ trivial rfl _ _ _ _).mono ?_; rintro e w' ⟨rfl,rfl⟩)
 obtain⟨W0,nr⟩:∃ W0,W0=((((w.alloc (.cells #[.slice (some ⟨g,0,none⟩) n c] 114)).alloc (.cells #[.int .u32 (by_:Int)] 49)).alloc (.cells #[.int .u64 0] 117)).alloc (.cells #[.slice (some ⟨g,0,none⟩) n c] 114)):=⟨_,rfl⟩
 have bc:W0.heap.size=w.heap.size+4:=by rw [nr]; simp
 have bA:Boxed W0 w.heap.size 114 (.slice (some ⟨g,0,none⟩) n c):=by rw [nr]; exact (((Boxed.new w _ _).alloc _).alloc _).alloc _
 have bY:Boxed W0 (w.heap.size+1) 49 (.int .u32 (by_:Int)):=by rw [nr]; have:=Boxed.new (w.alloc (.cells #[.slice (some ⟨g,0,none⟩) n c] 114)) 49 (.int .u32 (by_:Int)); rw [Di] at this; exact (this.alloc _).alloc _
 have bR:Boxed W0 (w.heap.size+2) 117 (.int .u64 ((0:Nat):Int)):=by rw [nr]; have:=Boxed.new ((w.alloc (.cells #[.slice (some ⟨g,0,none⟩) n c] 114)).alloc (.cells #[.int .u32 (by_:Int)] 49)) 117 (.int .u64 0); rw [Di,Di] at this; exact this.alloc _
 have bN:Boxed W0 (w.heap.size+3) 114 (.slice (some ⟨g,0,none⟩) n c):=by rw [nr]; have:=Boxed.new (((w.alloc (.cells #[.slice (some ⟨g,0,none⟩) n c] 114)).alloc (.cells #[.int .u32 (by_:Int)] 49)).alloc (.cells #[.int .u64 0] 117)) 114 (.slice (some ⟨g,0,none⟩) n c); rw [Di,Di,Di] at this; exact this
 have Vb:w.grownBy W0 (some g):=by rw [nr]; exact NZ (NZ (NZ (NZ ⟨rfl,rfl,rfl,aN _,fun _ _ _=>rfl⟩ _) _) _) _
 have Vc:je W0 g 49 .u32 R l:=by rw [nr]; exact HL.out.lu ((uk _ _ _ (by have:=HL.out.lt; simp; omega)).trans ((uk _ _ _ (by have:=HL.out.lt; simp; omega)).trans ((uk _ _ _ (by have:=HL.out.lt; simp; omega)).trans (uk _ _ _ HL.out.lt))))
 rw [<- nr];refine aod (F:=Fence.wide) (n:=3) (ps := #[10,11]) (encs:=KO) rfl (by decide) (gf:=244) (lb := #[.pointer (some ⟨w.heap.size+1+1+1,0,none⟩)]) rfl trivial (enters_of Tryz.func244 (by kernel_rfl) rfl)
  (aok Fence.wide 2 trivial rfl (by decide) (w.heap.size+1+1+1) n c (some ⟨g,0,none⟩) l m9 _) (dU _ _) (fun _=>rfl)
  (au7 R w g n c by_ l) (fun _ _ _=>False) (fun pre W hI => ?hIG) (fun pre A B row hs hg hr => ?hI) (fun _ _ _ _ _ hs _ _=>hs) ?hst
  (fun x => { tmps := #[.slice (some ⟨g,0,none⟩) n c,.int .u32 (by_:Int),.pointer (some ⟨w.heap.size,0,none⟩),.pointer (some ⟨w.heap.size+1,0,none⟩),.int .u32 0,.pointer (some ⟨w.heap.size+1+1,0,none⟩),.int .i64 (x.1:Int),.int .u32 (x.2:Int),.slice (some ⟨g,0,none⟩) n c,.func (.func 244) #[] #[.pointer (some ⟨w.heap.size+1+1+1,0,none⟩)],.int .i64 (x.1:Int),.int .u32 (x.2:Int),undef,undef,undef,undef,undef,undef,undef,undef,undef,undef,undef,undef,undef,undef,undef,undef,undef,undef,undef],defers := [] }) ?assign ?body ?done ?stop
 case hIG =>
  obtain⟨o,r,dh,Cw,ES,wP,hr,hv,km,b1,b2,b3,b4,iZ⟩:=hI;refine⟨b4.cell,fun j hj=>⟨g,0,rfl,?_⟩⟩;have ET:j<o.length:=oo
  have gL:j<l.length:=by have:=HN.out; omega
  have h1:=km.cell ET;have e:o[j]=l.getD j 0:=by
   have h2:=congrArg (fun q=>q[j]?) wP;simp only [e9,show j<n - pre.length from oo,fH] at h2;rw [bq ET] at h2;rw [aY,<- h2];rfl
  rw [ia,h1,e]
 case hI =>
  obtain⟨o,r,dh,Cw,ES,wP,pF,hv,km,b1,b2,b3,b4,iZ⟩:=hs;exact⟨o,r,dh,Cw,ES,wP,pF,hv,km.row hg hr,NY b1 hg hr,NY b2 hg hr,NY b3 hg hr,NY b4 hg hr,au5 iZ (by rw [bc]; omega) hg hr⟩
 case hst =>
  exact⟨l,0,bw _,HN.out.symm,hd,rfl,h0,by rw [hZ,sd,yI (mU HN.out.symm)]; simp [aZ],Vc,bA,bY,bR,bN,Vb⟩
 case assign =>
  intro lp x W K hK;unfold KO
  gi_wp2
  exact hK
 case body =>
  rintro lp pre x0 W ⟨o,r,dh,Cw,ES,wP,pF,hv,km,b1,b2,b3,b4,iZ⟩ ⟨af,rfl⟩
  obtain⟨j,hj⟩:∃ j,j+pre.length+1=n:=⟨n - 1 - pre.length,oo⟩
  have e1:n - 1 - pre.length=j:=oo
  have e3:n - pre.length=j+1:=oo
  rw [e3] at wP hv;unfold Gu;rw [e1];obtain⟨d,N0⟩:∃ d,d=l.getD j 0:=⟨_,rfl⟩
  have rE:d<4294967296:=by rw [N0]; exact hd.getD (by decide) j
  rw [<- N0];have c1:=b1.cell;have c2:=b2.cell;have c3:=b3.cell;have f3:=b3.frozen;have ET:j<o.length:=oo
  have cj:=km.cell ET;have fj:=km.frozen j;have zC:r<4294967296:=oo
  have hor:=Lib.hid (aoa zC rE);clear bA bY bR bN Vb Vc;have ze:g<w.heap.size:=HL.out.lt;have AX:IntKind.u64.wrap (d:Int)=(d:Int):=wrap_u64 oo oo;have HDD:=Lib.hid N0;have HHD:=Lib.hid hd;clear N0 hd;dsimp only
  gi_wp2
  obtain⟨s,hs⟩:∃ s,s=r*4294967296+d:=⟨_,rfl⟩
  rw [hor.out,<- hs];have N1:Boxed (W.setCell ⟨w.heap.size+1+1,0,none⟩ (.int .u64 (s:Int))) w.heap.size 114 (.slice (some ⟨g,0,none⟩) n c):=(vJ _ _ _ _ (by simp; omega)).trans b1;have He:Boxed (W.setCell ⟨w.heap.size+1+1,0,none⟩ (.int .u64 (s:Int))) (w.heap.size+1) 49 (.int .u32 (by_:Int)):=(vJ _ _ _ _ (by simp)).trans b2;have N2:Boxed (W.setCell ⟨w.heap.size+1+1,0,none⟩ (.int .u64 (s:Int))) (w.heap.size+2) 117 (.int .u64 (s:Int)):=one_setCell b3;have Vd:Boxed (W.setCell ⟨w.heap.size+1+1,0,none⟩ (.int .u64 (s:Int))) (w.heap.size+3) 114 (.slice (some ⟨g,0,none⟩) n c):=(vJ _ _ _ _ (by simp)).trans b4;have IT:je (W.setCell ⟨w.heap.size+1+1,0,none⟩ (.int .u64 (s:Int))) g 49 .u32 R o:=km.other (by simp; omega) _;have Ve:w.grownBy (W.setCell ⟨w.heap.size+1+1,0,none⟩ (.int .u64 (s:Int))) (some g):=Va iZ (.inr (by simp; omega)) _;have Vf:KeepsOthers W (W.setCell ⟨w.heap.size+1+1,0,none⟩ (.int .u64 (s:Int))):=KeepsOthers.setCell _ _ _;clear b1 b2 b3 b4 c1 c2 c3 f3 cj fj km iZ;generalize W.setCell ⟨w.heap.size+1+1,0,none⟩ (.int .u64 (s:Int))=W1 at *
  have qo:(j:Int)<(n:Int):=oo
  have aEN:s<18446744073709551616:=oo
  have hmo:Tryz.prog.follows .mixedOrders=true:=by kernel_rfl
  have gu:¬ ((by_:Int)=0):=oo
  have hwb:IntKind.u64.wrap (by_:Int)=(by_:Int):=wrap_u64 oo oo;obtain⟨q,hq⟩:∃ q,q=s / by_:=⟨_,rfl⟩
  obtain⟨r2,uR⟩:∃ r2,r2=s % by_:=⟨_,rfl⟩
  have wQ:q<4294967296:=by
   rw [hq];refine (AH h0).2 ?_;have h1:(r+1)*4294967296<=by_*4294967296:=pd _ pF;rw [j8 4294967296 by_];omega
  have hqi:(s:Int) / (by_:Int)=(q:Int):=by rw [hq]; exact (Int.natCast_ediv s by_).symm
  have qn:(s:Int) % (by_:Int)=(r2:Int):=by rw [uR]; exact (Int.natCast_emod s by_).symm
  have avc:r2<by_:=by rw [uR]; exact jk _ h0
  have hwq:IntKind.u32.wrap (q:Int)=(q:Int):=by rw [wrap_u32,er wQ]
  have gL:j<l.length:=by have:=HN.out; omega
  have tE:Hid (aZ ae (l.drop j)=aZ ae ((o.set j q).drop j)*by_+r2):=by
   have h1:=anE (B:=ae) (by_:=by_) (a:=l) (o:=o) (i:=j) (r:=r) gL (by rw [Cw]; exact HN.out) hv;have e:l[j]=d:=by have:=HDD.out; rw [this,aY,bq gL]; rfl
   rw [e] at h1;have e2:r*ae+d=s:=hs.symm;rw [e2,<- hq,<- uR] at h1;exact h1
  have HVS:=bt hs;have HQS:=bt hq;have HRS:=bt uR;have HTK:=bt wP;clear hs hq uR hv wP;rename_i Q2 K2 Cy;have hw2:∃ W2,W2=(W1.setCell ⟨g,j,none⟩ (.int .u32 (q:Int))).drew:=⟨_,rfl⟩
  obtain⟨W2,wR⟩:=hw2;have HQ:Exit.then K2 (Exit.inBlock 1 Q2) Exit.normal { tmps := #[.slice (some ⟨g,0,none⟩) n c,.int .u32 (by_:Int),.pointer (some ⟨w.heap.size,0,none⟩),.pointer (some ⟨w.heap.size+1,0,none⟩),.int .u32 0,.pointer (some ⟨w.heap.size+1+1,0,none⟩),.int .i64 (j:Int),.int .u32 (d:Int),.slice (some ⟨g,0,none⟩) n c,.func (.func 244) #[] #[.pointer (some ⟨w.heap.size+1+1+1,0,none⟩)],.int .i64 (j:Int),.int .u32 (d:Int),.int .u64 (r:Int),.int .u64 ((r:Int)*4294967296),.int .u32 (d:Int),.int .u64 (d:Int),.int .u64 (s:Int),.slice (some ⟨g,0,none⟩) n c,.int .i64 (j:Int),.int .u64 (s:Int),.int .u32 (by_:Int),.int .u64 (by_:Int),.int .u64 (q:Int),.int .u32 (q:Int),.pointer (some ⟨g,j,none⟩),undef,undef,undef,undef,undef,undef],defers := [] } W2:=by
   have b1:Boxed W2 w.heap.size 114 (.slice (some ⟨g,0,none⟩) n c):=by rw [wR]; exact (vJ _ _ _ _ (by simp; omega)).trans N1
   have b2:Boxed W2 (w.heap.size+1) 49 (.int .u32 (by_:Int)):=by rw [wR]; exact (vJ _ _ _ _ (by simp; omega)).trans He
   have b3:Boxed W2 (w.heap.size+2) 117 (.int .u64 (s:Int)):=by rw [wR]; exact (vJ _ _ _ _ (by simp; omega)).trans N2
   have b4:Boxed W2 (w.heap.size+3) 114 (.slice (some ⟨g,0,none⟩) n c):=by rw [wR]; exact (vJ _ _ _ _ (by simp; omega)).trans Vd
   have km:je W2 g 49 .u32 R (o.set j q):=by rw [wR]; exact (IT.setCell ET q).lu rfl
   have iZ:w.grownBy W2 (some g):=by rw [wR]; exact (fun h=>⟨h.os,h.tape,h.output,h.size,h.block⟩) (Va (p:=⟨g,j,none⟩) Ve (.inl rfl) (.int .u32 (q:Int)))
   have afs:KeepsOthers W W2:=by rw [wR]; exact Vf.trans ((KeepsOthers.setCell _ _ _).trans (KeepsOthers.drew _))
   have b1s:Boxed (W2.setCell ⟨w.heap.size+1+1,0,none⟩ (.int .u64 (r2:Int))) w.heap.size 114 (.slice (some ⟨g,0,none⟩) n c):=(vJ _ _ _ _ (by simp; omega)).trans b1;have b2s:Boxed (W2.setCell ⟨w.heap.size+1+1,0,none⟩ (.int .u64 (r2:Int))) (w.heap.size+1) 49 (.int .u32 (by_:Int)):=(vJ _ _ _ _ (by simp)).trans b2;have b3s:Boxed (W2.setCell ⟨w.heap.size+1+1,0,none⟩ (.int .u64 (r2:Int))) (w.heap.size+2) 117 (.int .u64 (r2:Int)):=one_setCell b3;have b4s:Boxed (W2.setCell ⟨w.heap.size+1+1,0,none⟩ (.int .u64 (r2:Int))) (w.heap.size+3) 114 (.slice (some ⟨g,0,none⟩) n c):=(vJ _ _ _ _ (by simp)).trans b4;have avi:je (W2.setCell ⟨w.heap.size+1+1,0,none⟩ (.int .u64 (r2:Int))) g 49 .u32 R (o.set j q):=km.other (by simp; omega) _;have avj:w.grownBy (W2.setCell ⟨w.heap.size+1+1,0,none⟩ (.int .u64 (r2:Int))) (some g):=Va iZ (.inr (by simp; omega)) _;have avk:KeepsOthers W (W2.setCell ⟨w.heap.size+1+1,0,none⟩ (.int .u64 (r2:Int))):=afs.trans (KeepsOthers.setCell _ _ _);have c2:=b2.cell;have c3:W2.cell? ⟨w.heap.size+1+1,0,none⟩=_:=b3.cell;have f3:W2.frozen? ⟨w.heap.size+1+1,0,none⟩=_:=b3.frozen;clear wR N1 He N2 Vd IT Ve Vf b1 b2 b3 b4 km iZ afs;refine Cy _ _ ?_
   gi_wp2
   refine⟨avk,o.set j q,r2,by simp; omega,by simp [Cw],ES.set _ _ wQ,?_,avc,?_,avi,b1s,b2s,b3s,b4s,avj⟩
   . have e:n - (pre ++ [(j,d)]).length=j:=by simp; omega
     rw [e,take_set];have:=congrArg (fun q=>q.take j) HTK.out;simpa [F5] using this
   . have e:n - (pre ++ [(j,d)]).length=j:=by simp; omega
     rw [e];exact tE.out
  have c1:W1.drew.cell? ⟨w.heap.size,0,none⟩=_:=N1.cell;have c2:W1.drew.cell? ⟨w.heap.size+1,0,none⟩=_:=He.cell;have c3:W1.drew.cell? ⟨w.heap.size+1+1,0,none⟩=_:=N2.cell;have cj:W1.drew.cell? ⟨g,j,none⟩=_:=IT.cell ET;have fj:W1.drew.frozen? ⟨g,j,none⟩=_:=IT.frozen j;rw [wR] at HQ;have HQ':=bt HQ;clear HQ wR N1 He N2 Vd IT Ve Vf
  gi_region_with_o (fail)
  all_goals exact HQ'.out
 case done =>
  rintro D0 xs W hD SO ⟨o,r,dh,Cw,ES,wP,pF,hv,km,b1,b2,b3,b4,iZ⟩ hK
  rw [SO,vS,yK,yK] at hv;have c3:W.cell? ⟨w.heap.size+1+1,0,none⟩=_:=b3.cell;have zC:r<4294967296:=oo
  have hwr:IntKind.u32.wrap (r:Int)=(r:Int):=by rw [wrap_u32,er zC]
  have avm:Hid (r=aZ ae l % by_):=by
   unfold Hid;rw [hv,j8,Nat.mul_add_mod,er pF]
  have hdiv:Hid (aZ ae o=aZ ae l / by_):=by
   unfold Hid;rw [hv,j8,Nat.mul_add_div h0,jA pF,jD]
  have HNB:=bt (km.lu (w':=W.putObj D0 (.deferred none)) (World.putObj_heap_other (by
   intro e;have hh:W.heap[g]? = _:=km;rw [e,hK] at hh;cases hh)))
  have HGR:=bt (au6 iZ (D:=D0) oo (.deferred none));have avp:Hid (o.length=l.length):=by unfold Hid; rw [Cw]; exact HN.out
  clear hv wP km bA bY bR bN Vb Vc b1 b2 b3 b4 iZ
  gi_wp2
  refine⟨by simp,.inl ⟨_,_,rfl,run_takeDeferred hK,?_⟩⟩;exact⟨_,results_tmp rfl _ _ _,o,by rw [<- avm.out]; rfl,avp.out,ES,hdiv.out,HNB.out,HGR.out⟩
 case stop =>
  rintro D0 cc pre W _ _ h _
  exact h.elim
open Go.RowKit
theorem avq{ρ:Nat->Option Rl}{ro:Nat->Prop}{fr:Bool}{l:List Int}{css:List (List Value)}(hlen:css.length=l.length)(bc:∀ cs∈css,cs.length=1)(dQ:∀ (k:Nat) (cs:List Value) (j:Nat) (x:AV) (v:Value),css[k]? = some cs->(bf fr .u32 fun _=>l.getD k Tc.u32.aa)[j]? = some x->cs[j]? = some v->aj w ρ base ro x v):css=l.map oU.cells:=by
 refine P6 (by rw [di,hlen]) fun k h1 h2 => ?_;obtain⟨v,hv⟩:=PX.1 (bc _ (lV h1));have h3:=dQ k css[k] 0 _ v (bq h1) rfl (by rw [hv]; rfl);rw [hv,h3.jU,YS];have:k<l.length:=oo
 show [Value.int .u32 (l.getD k Tc.u32.aa)] = [Value.int .u32 l[k]]
 rw [aY,bq this,iD]
theorem afu(l:List Int):(l.map oU.cells).flatten=l.map (Value.int .u32):=by
 induction l with
 | nil=>rfl
 | cons x l ih=>simp only [jj,Kq,ih]; rfl
theorem afv(m:List Nat):uz .u32 m=(cl m).map (Value.int .u32):=by unfold uz cl; rw [xz]; rfl
def Vg:fi:=⟨165,[.GD .u32,.int .u32],1,fun ah es=>match ah,es with
 | [.cW .u32 0 a b,.int .u32 d],[(0,.row false .u32 T l)]=>some ⟨fun _=>(T=49/\a ()=0/\0<b ()/\b ()<=(l ()).length)/\(d32 (l ())/\b ()<=1000)/\0<d ()/\d ()<4294967296,.int .u32 fun _=>((cU (l ()) 0 (b ()) % (d ()).toNat:Nat):Int),[(0,.row false .u32 T fun _=>kx (l ()) 0 (b ()) (cU (l ()) 0 (b ()) / (d ()).toNat))]⟩
 | _,_=>none,true⟩
theorem avr:jb Tryz.prog Vg:=by
 refine⟨fun args w=>zP Tryz.func165 (by kernel_rfl) (by kernel_rfl) args w,fun ah es res h w ρ ra eu jv hE mG kj df bS hp => ?_⟩;simp only [Vg] at h;split at h
 case h_2=>cases h
 rename_i a b d T l;cases h;obtain⟨⟨rfl,ha,gu,fJ⟩,⟨hl,c6⟩,dr,gF⟩:(T=49/\a ()=0/\0<b ()/\b ()<=(l ()).length)/\(d32 (l ())/\b ()<=1000)/\0<d ()/\d ()<4294967296:=hp;obtain⟨v0,zT,rfl,nj,h0⟩:=hE.head;obtain⟨v1,us1,rfl,vX,h1⟩:=h0.head;obtain rfl:=h1.none;obtain rfl:=vX.jU;obtain⟨A,n,c,hA,_,_,rfl⟩:=nj.y9;obtain⟨A',c',css,bW,afx,hlen,dQ⟩:=mG 0 _ rfl;rw [hA] at bW;injection bW with bW;injection bW with e1 e2 e3;subst e1; subst e2; subst e3;have MI:=avq hlen afx.2 dQ;obtain⟨m,hm,rv⟩:=IC (B:=ae) hl.1;obtain⟨D,hD⟩:=om (Qa dr);rw [hD] at dr gF;obtain⟨qR,hz⟩|⟨g,cap,cur,heq,iF,hg,SN,uQ,aS,tj⟩:=afx.1.2
 . rw [hlen] at hz; omega
 simp only [Value.slice.injEq,aJ] at heq;obtain⟨rfl,rfl⟩:=heq;rw [show Tc.u32.size=1 from rfl,lX] at aS tj;rw [MI,afu,di] at tj;have lH:m.length=(l ()).length:=by rw [hm,iN]
 have zV:cur.toList=uz .u32 (m.take (b ()))++cur.toList.drop (b ()):=by
  have h2:cur.toList.take (b ())=uz .u32 (m.take (b ())):=by
   rw [afv,<- yd,<- hm,Ku,<- tj,F5,tf fJ]
  rw [<- h2,lT]
 have hNB:je w g 49 .u32 (cur.toList.drop (b ())) (m.take (b ())):=by
  unfold je;rw [<- zV];exact hg
 have IU:(m.take (b ())).length=b ():=by rw [cy]; omega
 have hV:cU (l ()) 0 (b ())=aZ ae (m.take (b ())):=by
  unfold cU;rw [yK,sd,hm,yd,rF]
 have avu:sliced (some ⟨g,0,none⟩) (a ()) (b ()) c Tc.u32.size = .slice (some ⟨g,0,none⟩) (b ()) c:=by
  unfold sliced;rw [ha];simp [Addr.add]
 rw [avu,hD];refine (au8 (cur.toList.drop (b ())) g c (b ()) D (m.take (b ())) IU.symm w hNB (rv.take _) oo oo oo).mono fun e w' ⟨o,k1,k2,k3,k4,k5,k6⟩ => ?_;have zW:(Rl.row (some ⟨g,0,none⟩) (l ()).length c).cH=some g:=rfl;have ho:=bS 0 _ g hA zW;have za:pad ae (b ()) (aZ ae o)=o:=by have:=Dw (B:=ae) (by decide) o k3; rwa [k2,IU] at this
 have hW:kx (l ()) 0 (b ()) (cU (l ()) 0 (b ()) / ((D:Nat):Int).toNat)=cl (o++m.drop (b ())):=by
  unfold kx;rw [hV,fB,<- k4,sd,za,F9,tg,wJ]
  conv=>lhs; arg 2; rw [hm,Cn]
 have Cz:(cl (o++m.drop (b ()))).length=(l ()).length:=by rw [iN,c9,iU]; omega
 refine⟨_,ρ,ra,k1,⟨⟨k6.os,k6.tape,k6.output,k6.size,fun k hk bg=>k6.block k hk fun e=>bg 0 _ hA (by rw [zW,e])⟩,fun l' e' he => ?_,kj,fun l' cQ=>df l' ?_,fun l' r b' h1 h2 => ?_,fun b' bo=>⟨iT (jv b' bo) k6.size,fun _=>bo⟩,fun l' r h _=>h⟩,?_⟩
 . rw [cO] at he;split at he
   case isFalse=>cases he
   rename_i e0;subst e0;cases he;have N3:∀ cs∈((cl (o++m.drop (b ()))).map oU.cells),cs.length=1:=fun cs hc=>by
    obtain⟨x,_,rfl⟩:=lW.1 hc;rfl
   refine⟨some ⟨g,0,none⟩,c,(cl (o++m.drop (b ()))).map oU.cells,by simp only [hW,Cz]; exact hA,⟨⟨qQ _ N3,.inr ⟨g,c,_,rfl,iF,k5,by rw [di,Cz,<- hlen]; exact SN,uQ,?_,?_⟩⟩,N3⟩,by simp only [di,hW],fun k cs j x v q1 q2 q3 => ?_⟩
   . have c7:cur.toList.length=cur.size:=am3;rw [Dh,c9,Gw,iU,k2,IU];show _=c*1
     omega
   . rw [di,Cz,afu,wJ,ot,<- afv,show Tc.u32.size=1 from rfl,lX,List.take_append,Gw,k2,IU];congr 1
     . exact ez (by rw [Gw,k2,IU]; exact fJ)
     . rw [<- Cn,<- hm,List.map_drop,<- tj,List.drop_take]
   . rw [gC] at q1;obtain⟨y,hy,rfl⟩:=nH.1 q1;simp only [hW] at q2;rw [show (cl (o++m.drop (b ()))).getD k Tc.u32.aa=y by rw [aY,hy]; rfl] at q2;have rq:bn w' ρ w.heap.size ra (bf false .u32 fun _=>y) (oU.cells y):=Nq (l:=bf false .u32 fun _=>y) rfl;exact rq.2 j x v q2 q3
 . simp only [dS,bV,iY,Kk] at cQ;show 1<=l'
   omega
 . exact⟨iT (bS l' r b' h1 h2).1 k6.size,(bS l' r b' h1 h2).2,.inr ⟨r,h1,h2⟩⟩
 . show aj _ _ _ _ (.int .u32 _) _
   rw [hV,fB];exact .int _ _
theorem Vh:∀ (k s:Nat),aZ ae (pad ae k s)=s % ae^k
 | 0,s=>by rw [mT,qO]; rfl
 | k+1,s=>by
  show s % ae+ae*aZ ae (pad ae k (s / ae))=_
  rw [Vh k,iE,j8 (ae^k),Nat.mod_mul]
theorem Vi(hb:b<=N)(bJ:a<=b):cU (cl (pad ae N Z)) a b=Z / ae^a % ae^(b - a):=by
 unfold cU;rw [Cn,yd,rF,zU _ _ _ _ oo,Cv _ _ _ _ oo,Vh]
theorem Vj{Z':Nat}(hb:b<=N)(bJ:a<=b)(h1:Z' % ae^a=Z % ae^a)(h2:Z' / ae^a % ae^(b - a)=s % ae^(b - a))(h3:Z' / ae^b=Z / ae^b):kx (cl (pad ae N Z)) a b s=cl (pad ae N Z'):=by
 have e:pad ae N Z'=pad ae a Z++pad ae (b - a) s++(pad ae N Z).drop b:=by
  rw [zU _ _ _ _ hb,<- h3,<- zU _ _ _ _ hb,<- IL h1,<- IL h2];have t1:(pad ae N Z').take a=pad ae a Z':=Cv _ _ _ _ oo;have t2:((pad ae N Z').drop a).take (b - a)=pad ae (b - a) (Z' / ae^a):=by rw [zU _ _ _ _ oo,Cv _ _ _ _ oo]
  rw [<- t1,<- t2];have:=Zu (pad ae N Z') a (b - a);rw [show a+(b - a)=b from oo] at this;exact this.symm
 unfold kx;rw [e,yd,Cn,Cv _ _ _ _ oo,wJ,wJ]
theorem Vk{l:List Int}(bJ:a<=b)(hb:b<=l.length):(kx l a b s).length=l.length:=by
 unfold kx;rw [c9,c9,iN,fg,cy,iU];omega
theorem avv{l:List Int}{t:Nat}(bJ:a<=b)(hb:b<=l.length):kx (kx l a b s) a b t=kx l a b t/\cU (kx l a b s) a b=s % ae^(b - a):=by
 have h:=an8 (L:=l) (o:=cl (pad ae (b - a) s)) (j:=a) (m:=b - a) (by rw [iN,fg]) oo;rw [show a+(b - a)=b from oo] at h;obtain⟨h1,h2,h3⟩:=h;constructor
 . unfold kx at *
   rw [h1,h2]
 . unfold cU kx;rw [h3,rF,Vh]
theorem avw{l:List Int}(hl:d32 l)(bJ:a<=b)(hb:b<=l.length):d32 (kx l a b s):=by
 refine⟨fun d hd => ?_,by rw [Vk bJ hb]; exact hl.2⟩;unfold kx at hd;rcases nJ.1 hd with h|h
 . rcases nJ.1 h with h|h
   . exact hl.1 d (xt h)
   . exact aeM (sm (by decide) _ _) d h
 . exact hl.1 d (PZ h)
theorem IV(h:N<=1000000):d32 (cl (pad ae N s)):=EK (sm (by decide) _ _) (by rw [fg]; exact h)
def dJ(X V j:Nat):Nat:=X % (V*ae^j)
def oV(X V j:Nat):Nat:=dJ X V (j+1) / ae^j
def wS(X V m j:Nat):List Nat:=List.replicate j 0++pad ae (m+1 - j) (X / (V*ae^j))
theorem Vl(hV:0<V)(j:Nat):oV X V j<V*ae/\dJ X V j=dJ X V (j+1) % ae^j+ae^j*(oV X V j % V)/\oV X V j / V=X / (V*ae^j) % ae:=by
 have hp:=rH j;have e:V*ae^(j+1)=V*ae^j*ae:=by rw [iE,Ga]
 have hvp:0<V*ae^(j+1):=uu hV (rH _);refine⟨?_,?_,?_⟩
 . refine AI ?_;have:=jk X hvp;rw [show ae^j*(V*ae)=V*ae^(j+1) by rw [e,Kp,Ga]];exact this
 . have h1:dJ X V (j+1) % (V*ae^j)=dJ X V j:=by
    unfold dJ;rw [e];exact Nat.mod_mod_of_dvd _ ⟨ae,rfl⟩
   rw [<- h1,j8 V,Nat.mod_mul];rfl
 . unfold oV dJ;rw [e,vE,j8 (ae^j) V,amM]
theorem avy(hj:j<=m):(wS X V m (j+1)).set j (X / (V*ae^j) % ae)=wS X V m j:=by
 have e1:List.replicate (j+1) 0=List.replicate j 0 ++ [0]:=List.replicate_succ';have e2:m+1 - j=(m - j)+1:=oo
 have e3:m+1 - (j+1)=m - j:=oo
 unfold wS;rw [e1,e2,e3,fl,YI _ _ (by rw [td]; exact aN _),td,vS];show _++(X / (V*ae^j) % ae::pad ae (m - j) (X / (V*ae^(j+1))))=_++(X / (V*ae^j) % ae::pad ae (m - j) (X / (V*ae^j) / ae))
 rw [vE,Ga,<- iE]
theorem avz(hj:j<=m+1):(wS X V m j).length=m+1:=by
 unfold wS;rw [c9,td,fg];omega
theorem N4(hV:V<ae^n)(ka:0<V):dJ X V j<ae^(n+j):=by
 have h1:=jk X (uu ka (rH j));have h2:V*ae^j<ae^n*ae^j:=PU hV (rH j);rw [<- vT] at h2;unfold dJ;omega
theorem Vm(hV:V<ae^n)(ka:0<V):oV X V j<ae^(n+1):=by
 have h:=N4 (X:=X) (j:=j+1) hV ka;refine AI ?_;rw [<- vT,show j+(n+1)=n+(j+1) from oo];exact h
theorem avA(hV:V<ae^n)(ka:0<V)(hj:j<=m):cU (cl (pad ae (m+n+1) (dJ X V (j+1)))) j (j+n+1)=oV X V j:=by
 rw [Vi oo oo,show j+n+1 - j=n+1 from oo];exact er (Vm hV ka)
theorem avB(hV:V<ae^n)(ka:0<V)(hj:j<=m)(hs:s % ae^(n+1)=oV X V j % V):kx (cl (pad ae (m+n+1) (dJ X V (j+1)))) j (j+n+1) s=cl (pad ae (m+n+1) (dJ X V j)):=by
 obtain⟨_,h2,_⟩:=Vl (X:=X) ka j;have hp:=rH j;have hd:dJ X V j / ae^j=oV X V j % V:=by rw [h2,xr _ _ hp,jA (jk _ hp),ia]
 have x4:=N4 (X:=X) (j:=j) hV ka;have oH:=N4 (X:=X) (j:=j+1) hV ka;have vY:ae^(n+j)<=ae^(j+n+1):=ui (by decide) oo;rw [show n+(j+1)=j+n+1 from oo] at oH;refine Vj oo oo ?_ ?_ ?_
 . rw [h2,xq,Nat.mod_mod]
 . rw [hd,show j+n+1 - j=n+1 from oo,hs];refine er (iT (jk _ ka) ?_);exact cd (AO hV) (ui (by decide) oo)
 . rw [jA oH,jA oo]
theorem avC(tp:aX V=n)(hn:0<n)(ka:0<V)(hg:g=min ((dg (dJ X V (j+1)) (j+n)*4294967296+dg (dJ X V (j+1)) (j+n - 1)) / dg V (n - 1)) 4294967295):oV X V j / V<=g:=by
 have hV:V<ae^n:=eC cw (mU tp);have hW:=Vm (X:=X) (j:=j) hV ka;have hu:∀ i,i<n+1->(pad ae (n+1) (oV X V j)).getD i 0=dg (dJ X V (j+1)) (j+i):=fun i hi=>by
  rw [EP hi];unfold dg oV;rw [vE,<- vT]
 have h:=an1 (V:=V) (n:=n) (vt:=dg V (n - 1)) (g:=g) (u:=pad ae (n+1) (oV X V j)) (sm (by decide) _ _) (fg _ _ _) tp hn (rG _ _).symm (by rw [ox (by decide) _ _ hW]; exact (Vl (X:=X) ka j).1) (by rw [hu n oo,hu (n - 1) oo,show j+(n - 1)=j+n - 1 from oo]; exact hg);rwa [ox (by decide) _ _ hW] at h
theorem avD{W:Nat}(hW:W<ae^(n+1))(hgV:g*V<ae^(n+1))(hV:0<V)(ho:W<g*V):0<g/\(W+ae^(n+1) - g*V) % ae^(n+1)+V=W+ae^(n+1) - (g - 1)*V/\(!decide (ae^(n+1)<=(W+ae^(n+1) - g*V) % ae^(n+1)+V))=decide (W<(g - 1)*V)/\W / V<=g - 1:=by
 have hg:0<g:=by
  rcases vH g with h|h
  . subst h; omega
  . exact h
 have e:g*V=(g - 1)*V+V:=by
  obtain⟨k,rfl⟩:∃ k,g=k+1:=⟨g - 1,oo⟩
  rw [pf,Dn]
 rw [er (show W+ae^(n+1) - g*V<ae^(n+1) from oo)];have h3:W / V<=g - 1:=by
  have:=(AH hV).2 ho;omega
 generalize (g - 1)*V=p at *
 generalize g*V=q at *
 generalize ae^(n+1)=P at *
 refine⟨hg,oo,?_,h3⟩;rw [<- decide_not];exact vM.2 oo
theorem avE{W:Nat}(hW:W<ae^(n+1))(hV:0<V)(tp:V<ae^(n+1))(hle:W / V<=g)(ho:¬ W<g*V):g=W / V/\(W+ae^(n+1) - g*V) % ae^(n+1)=W % V:=by
 have h1:g<=W / V:=(PY hV).2 oo;have h2:g=W / V:=oo
 refine⟨h2,?_⟩;have h3:=Dm W V;rw [j8,<- h2] at h3;have h4:=jk W hV;rw [show W+ae^(n+1) - g*V=W % V+ae^(n+1) from oo,Nat.add_mod_right,er oo]
theorem avF(hx:aX x=m+n)(hy:aX y=n)(hn:0<n):dJ (x*s) (y*s) (m+1)=x*s:=by
 rcases vH s with h0|h0
 . subst h0; unfold dJ; rw [uq,Nat.zero_mod]
 have h1:x<ae^(m+n):=eC cw (mU hx);have h2:ae^(n - 1)<=y:=(uw cw).1 (show n - 1<aX y from oo);have h3:ae^(m+n)=ae^(n - 1)*ae^(m+1):=by rw [<- vT]; congr 1; omega
 have h4:ae^(n - 1)*ae^(m+1)<=y*ae^(m+1):=pd _ h2;unfold dJ;refine er ?_;rw [am4];exact PU oo h0
theorem avG(hs:0<s):dJ (x*s) (y*s) 0=x % y*s/\x*s / (y*s*ae^0)=x / y:=by
 unfold dJ;rw [mT,lX,Nat.mul_mod_mul_right,amV _ _ hs];exact⟨rfl,rfl⟩
end Go.Proofs.YtamjbkaclhgffaaGreat
