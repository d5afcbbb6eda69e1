/-
  frac by the abstract run: give, take, in a part of a row.
-/
import Derived.Test.YtamjbkaclhgffaaGreatSi17
set_option linter.all false
set_option maxRecDepth 100000
set_option maxHeartbeats 4000000
namespace Go.Proofs.YtamjbkaclhgffaaGreat
open Go.RowKit
variable{p:Addr}{l:List Int}{R:List Value}{B D E N V X Z a b base g i j m n s x y:Nat}{W' w w':World}
def cE(l:List Int)(a b:Nat):Nat:=dI ((l.drop a).take (b - a))
def jy(l:List Int)(a b s:Nat):List Int:=l.take a++cl (pad ae (b - a) s)++l.drop b
def qT(l:List Int)(a b k s:Nat):List Int:=l.take a++cl (fI k s (pad ae (b - a) (cE l a b)))++l.drop b
theorem aqE(hl:d32 l)(hb:b<=l.length):cl (pad ae (b - a) (cE l a b))=(l.drop a).take (b - a):=by
 obtain⟨m,rfl,hd⟩:=LW (B:=ae) hl.1;rw [lD] at hb;unfold cE;rw [Dq,y3,pZ];have h:=Ci (B:=ae) (by decide) ((m.drop a).take (b - a)) ((hd.drop a).take _);rw [show ((m.drop a).take (b - a)).length=b - a by rw [cL,iD]; omega] at h;rw [h]
theorem acW(hl:d32 l):cE l a b<ae^(b - a):=by
 obtain⟨m,rfl,hd⟩:=LW (B:=ae) hl.1;unfold cE;rw [Dq,y3,pZ];have h:=ur (B:=ae) ((m.drop a).take (b - a)) ((hd.drop a).take _);exact iS h (zx (by decide) (by rw [cL]; omega))
theorem acX(hl:d32 l)(bk:a<=b)(hb:b<=l.length)(s):qT l a b 0 s=l:=by
 unfold qT;rw [Tg,aqE hl hb];have:=Xl l a (b - a);rwa [show a+(b - a)=b from oo] at this
theorem acY(l)(a b s):qT l a b (b - a) s=jy l a b s:=by
 unfold qT jy;have:=Th s (pad ae (b - a) (cE l a b));rw [ev] at this;rw [this]
theorem acZ{k:Nat}(bk:a<=b)(hb:b<=l.length)(hk:k<=b - a):(qT l a b k s).length=l.length:=by
 have h1:(cl (fI k s (pad ae (b - a) (cE l a b)))).length=b - a:=by rw [lD,Dx (by rw [ev]; exact hk),ev]
 unfold qT;rw [dp,dp,h1,cL,iD];omega
theorem ac0{k:Nat}(bk:a<=b)(hb:b<=l.length)(hk:k<b - a):(qT l a b k s).getD (a+k) 0=dg (cE l a b) k:=by
 have h1:(cl (fI k s (pad ae (b - a) (cE l a b)))).length=b - a:=by rw [lD,Dx wZ,ev]
 have h2:=akh (L:=l) (j:=a) (m:=b - a) h1 hk oo;rw [show a+(b - a)=b from oo] at h2;rw [aX];unfold qT;rw [h2,<- aX,AR,Ti,GW hk]
theorem ac1{k s' z:Nat}(bk:a<=b)(hb:b<=l.length)(hk:k<b - a)(h:s' % ae^k=s % ae^k)(hz:z=s' / ae^k % ae):(qT l a b k s).set (a+k) z=qT l a b (k+1) s':=by
 have h1:(cl (fI k s (pad ae (b - a) (cE l a b)))).length=b - a:=by rw [lD,Dx wZ,ev]
 have h2:=akg (L:=l) (j:=a) (m:=b - a) (r:=(z:Int)) h1 hk oo;rw [show a+(b - a)=b from oo] at h2;unfold qT;rw [h2,AS,Dy (by rw [ev]; exact hk) h hz]
def Tk:fO:=⟨167,[.E0 .u32,.sl .u32],1,fun ai es=>match ai,es with
 | [.cG .u32 0 a b,.sl false .u32 v],[(0,.row false .u32 T l)]=>some ⟨fun _=>(a ()<=b ()/\b ()<=(l ()).length)/\d32 (l ())/\dY (v ())/\(v ()).length<=b () - a (),.bool fun _=>decide (ae^(b () - a ())<=cE (l ()) (a ()) (b ())+dI (v ())),[(0,.row false .u32 T fun _=>jy (l ()) (a ()) (b ()) (cE (l ()) (a ()) (b ())+dI (v ())))]⟩
 | _,_=>none,true⟩
def aqF(T:Nat)(l:List Int)(a b y:Nat):Lp where
 X:=Nat
 ov k := [(9,.int .i64 fun _=>(k:Int)),(5,.int .u64 fun _=>(fh (cE l a b) y k / ae^k:Nat)),(0,.cG .u32 0 (fun _=>a) fun _=>b)]
 oe k := [(0,.row false .u32 T fun _=>qT l a b k (fh (cE l a b) y k))]
 I k:=k<=b - a
 μ k _:=b - a - k
 x0:=0
 nx:=some fun k=>k+1
theorem aqG:ij Tryz.prog Tk:=by
 refine Gy { kp := [(0,[0,1]),(1,[0,1]),(2,[0,1,5]),(3,[0,1,5,8,9]),(4,[0,1,5,8,9]),(5,[0,1,5,6,8,9]),(6,[0,1,5,6,8,9]),(7,[0,1,5,6,8,9]),(8,[0,1,5,6,8,9]),(9,[0,1,5,8,9]),(10,[0,1,5,8,9]),(11,[5])] } [] trivial [] trivial Tryz.func167 (by kernel_rfl) fun ai es res h hp => ?_;simp only [Tk] at h;split at h
 case h_2=>cases h
 rename_i a b v T l;cases h;obtain⟨l,rfl⟩:=eta (α:=List Int) l;obtain⟨v,rfl⟩:=eta (α:=List Int) v;obtain⟨a,rfl⟩:=eta (α:=Nat) a;obtain⟨b,rfl⟩:=eta (α:=Nat) b;obtain⟨⟨bk,hb⟩,hl,hv,mv⟩:(a<=b/\b<=l.length)/\d32 l/\dY v/\v.length<=b - a:=hp;obtain⟨y,rfl,hy⟩:=mD hv;rw [dZ] at mv;clear hv;have m6:=hl.2;refine⟨[(3,aqF T l a b y)],?_⟩;refine fm ?_;have xa:fh (cE l a b) y 0 / 4294967296^0=0:=by unfold fh; rw [oB,pv,pv]
 refine⟨⟨bO _,rfl,by rw [xa]; rfl,(acX hl bk hb _).symm⟩,fun (k:Nat) hk => ?_⟩;have cR:k<=b - a:=hk;clear hk;refine fm ?_;have er:Tc.u32.aa=0:=rfl;have mE:(bH y).length=aM y:=dZ y;have G0:=acZ (l:=l) (s:=fh (cE l a b) y k) bk hb cR;have lO:=ac0 (l:=l) (a:=a) (b:=b) (k:=k) (s:=fh (cE l a b) y k) bk hb;obtain⟨j8,mY⟩:=acM (cE l a b) y k;have tI:=AY (fh (cE l a b) y (k+1)) k;have oW:=fun h z hz=>ac1 (l:=l) (a:=a) (b:=b) (k:=k) (z:=z) bk hb h mY hz;have gL:=acN (cE l a b) y k;have hU1:=kG (cE l a b) k;have Tj:=kG y k;have xb:aM y<=k->dg y k=0:=GV;have hB:ae=4294967296:=rfl;have Tl:((a:Int)+(k:Int)).toNat=a+k:=oo
 simp only [er,r8,p6,G0,mE,Tl,ik];have r6:=aqs (acW (a:=a) (b:=b) hl) (iE bT mv);refine⟨fun g1 => ?_,fun g1 => ?_⟩
 . rw [lO oo];have w1:IntKind.u64.wrap (dg (cE l a b) k:Int)=(dg (cE l a b) k:Int):=fZ oo;have w2:IntKind.u64.wrap (dg y k:Int)=(dg y k:Int):=fZ oo;clear r6 lO mY;generalize fh (cE l a b) y k / 4294967296^k=c at *
   have w3:IntKind.u64.wrap ((c:Int)+(dg (cE l a b) k:Int))=((c+dg (cE l a b) k:Nat):Int):=by rw [<- B6]; exact fZ oo
   have w4:IntKind.u64.wrap (((c+dg (cE l a b) k:Nat):Int)+(dg y k:Int))=((c+dg (cE l a b) k+dg y k:Nat):Int):=by rw [<- B6]; exact fZ oo
   simp only [w1,w2,w3,w4,GK,wrap_u32];refine⟨⟨oo,oo⟩,fun g2=>⟨⟨oo,oo⟩,⟨oo,oo⟩,oo,ii,⟨oo,oo⟩,oo,by rw [<- tI,j8],oW oo _ (by rw [j8])⟩,fun g2=>⟨⟨oo,oo⟩,oo,ii,⟨oo,oo⟩,oo,by rw [<- tI,j8,xb oo,jE],oW oo _ (by rw [j8,xb oo,jE])⟩⟩
 . have sd:k=b - a:=oo
   subst sd;rw [r6,acY];refine⟨El.2 ?_,rfl⟩;have hp:=p7 (b - a);rw [show (4294967296:Nat)^(b - a)=ae^(b - a) from rfl,show (0:Int)<((cE l a b+y) / ae^(b - a):Nat)↔0<(cE l a b+y) / ae^(b - a) from oo];exact Nat.div_pos_iff.trans ⟨fun h=>h.2,fun h=>⟨hp,h⟩⟩
def Tm:fO:=⟨166,[.E0 .u32,.sl .u32,.int .u64],1,fun ai es=>match ai,es with
 | [.cG .u32 0 a b,.sl false .u32 v,.int .u64 t],[(0,.row false .u32 T l)]=>some ⟨fun _=>(a ()<=b ()/\b ()<=(l ()).length)/\d32 (l ())/\(dY (v ())/\(v ()).length<b () - a ())/\0<=t ()/\t ()<4294967296,.bool fun _=>decide (cE (l ()) (a ()) (b ())<(t ()).toNat*dI (v ())),[(0,.row false .u32 T fun _=>jy (l ()) (a ()) (b ()) (cE (l ()) (a ()) (b ())+ae^(b () - a ()) - (t ()).toNat*dI (v ())))]⟩
 | _,_=>none,true⟩
def aqI(T:Nat)(l:List Int)(a b y t:Nat):Lp where
 X:=Nat
 ov k := [(13,.int .i64 fun _=>(k:Int)),(7,.int .u64 fun _=>(mulC t y k:Nat)),(8,.int .u64 fun _=>(1 - ec (cE l a b) (t*y) k / ae^k:Nat)),(0,.cG .u32 0 (fun _=>a) fun _=>b)]
 oe k := [(0,.row false .u32 T fun _=>qT l a b k (ec (cE l a b) (t*y) k))]
 I k:=k<=b - a/\ec (cE l a b) (t*y) k / ae^k<=1
 μ k _:=b - a - k
 x0:=0
 nx:=some fun k=>k+1
theorem aqJ:ij Tryz.prog Tm:=by
 refine Gy { kp := [(0,[0,1,2]),(1,[0,1,2]),(2,[0,1,2,7,8]),(3,[0,1,2,7,8,12,13]),(4,[0,1,2,7,8,12,13]),(5,[0,1,2,7,8,9,12,13]),(6,[0,1,2,7,8,9,12,13]),(7,[0,1,2,7,8,9,12,13]),(8,[0,1,2,7,9,10,12,13]),(9,[0,1,2,7,10,12,13]),(10,[0,1,2,7,8,12,13]),(11,[0,1,2,7,8,12,13]),(12,[8])] } [] trivial [] trivial Tryz.func166 (by kernel_rfl) fun ai es res h hp => ?_;simp only [Tm] at h;split at h
 case h_2=>cases h
 rename_i a b v t T l;cases h;obtain⟨l,rfl⟩:=eta (α:=List Int) l;obtain⟨v,rfl⟩:=eta (α:=List Int) v;obtain⟨a,rfl⟩:=eta (α:=Nat) a;obtain⟨b,rfl⟩:=eta (α:=Nat) b;obtain⟨t,rfl⟩:=eta (α:=Int) t;obtain⟨⟨bk,hb⟩,hl,⟨hv,mv⟩,Tn,ht1⟩:(a<=b/\b<=l.length)/\d32 l/\(dY v/\v.length<b - a)/\0<=t/\t<4294967296:=hp;obtain⟨y,rfl,hy⟩:=mD hv;obtain⟨t,rfl⟩:=pq Tn;rw [dZ] at mv;clear hv;have m6:=hl.2;have To:t<ae:=by have hB:ae=4294967296:=rfl; omega
 refine⟨[(3,aqI T l a b y t)],?_⟩;refine fm ?_;have xa:ec (cE l a b) (t*y) 0 / 4294967296^0=1:=by unfold ec; rw [oB,pv,pv]
 simp only [xa,aqt];refine⟨⟨⟨bO _,aA _⟩,rfl,rfl,rfl,(acX hl bk hb _).symm⟩,fun (k:Nat) hk => ?_⟩;have cp:k<=b - a/\ec (cE l a b) (t*y) k / ae^k<=1:=hk;have cR:=cp.1;have bU:=cp.2;clear hk;refine fm ?_;have er:Tc.u32.aa=0:=rfl;have mE:(bH y).length=aM y:=dZ y;have G0:=acZ (l:=l) (s:=ec (cE l a b) (t*y) k) bk hb cR;have lO:=ac0 (l:=l) (a:=a) (b:=b) (k:=k) (s:=ec (cE l a b) (t*y) k) bk hb;obtain⟨j8,mY,GY⟩:=acO (cE l a b) (t*y) k;have tI:=AY (ec (cE l a b) (t*y) (k+1)) k;have oW:=fun h z hz=>ac1 (l:=l) (a:=a) (b:=b) (k:=k) (z:=z) bk hb h mY hz;obtain⟨m1,m2⟩:=aqv t y k;have hm:=aqu (v:=y) (k:=k) To;have hU1:=kG (cE l a b) k;have hP:=acS To (kG y k);have Tj:=kG y k;have xb:aM y<=k->t*dg y k=0:=fun h=>by rw [GV h,Cb]
 have hB:ae=4294967296:=rfl;have Tl:((a:Int)+(k:Int)).toNat=a+k:=oo
 simp only [er,r8,p6,G0,mE,Tl,ik,fE];obtain⟨f1,f2⟩:=aqr (acW (a:=a) (b:=b) hl) (acT (v:=y) (n:=aM y) (m:=b - a) To (aA _) mv);refine⟨fun g1 => ?_,fun g1 => ?_⟩
 . rw [lO oo];have w1:IntKind.u64.wrap (dg (cE l a b) k:Int)=(dg (cE l a b) k:Int):=fZ oo;have w2:IntKind.u64.wrap (dg y k:Int)=(dg y k:Int):=fZ oo;clear f1 f2 lO mY;generalize ec (cE l a b) (t*y) k / 4294967296^k=c at *
   have w3:IntKind.u64.wrap ((t:Int)*(dg y k:Int))=((t*dg y k:Nat):Int):=by rw [<- NY]; exact fZ oo
   generalize t*dg y k=p at *
   have w4:IntKind.u64.wrap ((mulC t y k:Int)+(p:Int))=((mulC t y k+p:Nat):Int):=by rw [<- B6]; exact fZ oo
   have w5:IntKind.u32.wrap ((mulC t y k+p:Nat):Int)=(dg (t*y) k:Nat):=by rw [wrap_u32,m2]
   have w6:p=0->IntKind.u32.wrap (mulC t y k:Int)=(dg (t*y) k:Nat):=fun h=>by rw [wrap_u32,m2,h,jE]
   have hZ1:=kG (t*y) k;have w7:IntKind.u64.wrap (dg (t*y) k:Int)=(dg (t*y) k:Int):=fZ oo;obtain⟨o1,o2⟩:=acy (d:=dg (cE l a b) k) (o:=dg (t*y) k) (e:=1 - c) (r:=ec (cE l a b) (t*y) (k+1) / ae^k) oo oo;simp only [w1,w2,w3,w4,w5,w7,o1,o2,GK];refine⟨fun g2=>⟨⟨oo,oo⟩,⟨oo,oo⟩,⟨oo,oo⟩,oo,oo,ii,⟨⟨oo,GY⟩,oo⟩,oo,by rw [m1],by rw [<- tI],oW oo _ rfl⟩,fun g2 => ?_⟩;have C4:=xb oo;rw [w6 C4,w7,o1,o2];exact⟨⟨oo,oo⟩,⟨oo,oo⟩,oo,oo,ii,⟨⟨oo,GY⟩,oo⟩,oo,by rw [m1,C4,jE],by rw [<- tI],oW oo _ rfl⟩
 . have sd:k=b - a:=oo
   subst sd;rw [show (4294967296:Nat)^(b - a)=ae^(b - a) from rfl,f2,f1,acY];refine⟨El.2 ?_,rfl⟩;split<;>omega
def aqK(l:List Int):Lp where
 X:=Nat
 ov k := [(3,.int .i64 fun _=>(l.length:Int) - 1 - (k:Int))]
 oe k := [(0,.ft fun _=>k+1)]
 I k:=k<=l.length
 μ k _:=l.length - k
 x0:=0
 nx:=some fun k=>k+1
def ac2:It:=SZ 244 (SY kD) (fun l=>(l ()).length<=1000000) (fun l=>(l ()).length) (fun l k => [.int .i64 fun _=>((l ()).length:Int) - 1 - (k ():Int),.int .u32 fun _=>(l ()).getD ((l ()).length - 1 - k ()) Tc.u32.aa])
theorem aqL:qK Tryz.prog ac2:=by
 refine ab4 {} [] trivial Tryz.func244 (by kernel_rfl) fun ai res h hp ll => ?_;obtain⟨(l:List Int),rfl,rfl⟩:=ap0 h;clear h;have hl:l.length<=1000000:=hp;refine⟨[(1,aqK l)],?_⟩;refine fm ?_;refine⟨ii,⟨⟨bO _,oo⟩,fun (k:Nat) hk => ?_⟩⟩;have cR:k<=l.length:=hk;clear hk hp;refine fm ?_;simp only [xx,bX,bu,bn,or_true];exact⟨fun g=>⟨⟨oo,oo⟩,⟨⟨oo,oo⟩,by rw [show ((l.length:Int) - 1 - (k:Int)).toNat=l.length - 1 - k from oo]⟩,ii,⟨oo,oo⟩,oo⟩,fun g => .inl oo⟩
def ac3:aN:=fY 208 kD (fun _=>True) (fun l => .fn 244 [.bh [.sl false .u32 l] 0])
theorem aqM:aU Tryz.prog ac3:=by
 refine cD [] trivial Tryz.func208 (by kernel_rfl) fun ai res h hp => ?_;obtain⟨(l:List Int),rfl,rfl⟩:=gM h;clear h;refine⟨[],?_⟩
 exact no_implicit_lambda% ac4
def L6:aN:=c6 162 kD kD (fun a b=>dY (a ())/\dY (b ())) (fun a b => .int .i64 fun _=>mV (dI (a ())) (dI (b ())))
theorem Tp:aU Tryz.prog L6:=by
 refine R7 {} [ac3] ⟨aqM,trivial⟩ [] trivial [ac2] ⟨aqL,trivial⟩ Tryz.func162 (by kernel_rfl) fun ai res h hp => ?_;obtain⟨(a:List Int),(b:List Int),rfl,rfl⟩:=dh h;clear h;have tH:dY a/\dY b:=hp;have ha:=tH.1;have hb:=tH.2;obtain⟨x,rfl,hx⟩:=mD ha;obtain⟨y,rfl,hy⟩:=mD hb;clear ha hb hp;refine bW (aM x) fun n hn => ?_;refine⟨[],?_⟩;refine fm ?_;have p8:(bH x).length=n:=(dZ x).trans hn;have mE:(bH y).length=aM y:=dZ y;simp only [p8,mE,ik];refine⟨fun g => ?_,fun g => ?_⟩
 . have aT:¬ n=aM y:=fun h=>by rw [h,dP rfl] at g; cases g
   exact⟨fun g1=>(I3 (Om bT (show aM x<aM y from oo))).symm,fun g1=>(I4 (Om bT (show aM y<aM x from oo))).symm⟩
 have mF:aM y=n:=azj fun h=>by rw [jW oo] at g; cases g
 refine⟨⟨fun _ => [(1,.box 3 [.int .i64 fun _=>0])],fun k=>(bg ae x).drop (n - k)=(bg ae y).drop (n - k)⟩,?_⟩;refine fm ?_;refine⟨⟨oo,by rw [rC,BV (show aM x<=n from oo),BV (show aM y<=n from oo)]⟩,fun (k:Nat) hk => ?_⟩;have cp:(bg ae x).drop (n - k)=(bg ae y).drop (n - k)/\k<=n:=hk;have cR:=cp.1;have bU:=cp.2;clear hk;refine fm ?_;have er:Tc.u32.aa=0:=rfl;refine⟨fun _ dN => ?_,fun _ dN => ?_⟩
 . have dN:k<n:=dN;refine fm ?_;simp only [p8,mE,er,r8,show ((n:Int) - 1 - (k:Int)).toNat=n - 1 - k from oo];obtain⟨j,hj⟩:∃ j,j=n - 1 - k:=⟨_,rfl⟩
   have hjx:j<(bg ae x).length:=by show j<aM x; omega
   have I5:j<(bg ae y).length:=by show j<aM y; omega
   rw [<- hj,show n - (k+1)=j from oo];rw [show n - k=j+1 from oo] at cR;refine⟨⟨oo,oo⟩,fun g1=>(I3 (Xn (hn.trans mF.symm) hjx cR oo)).symm,fun g1=>⟨⟨oo,oo⟩,fun g2=>(I4 (Xn (mF.trans hn.symm) I5 cR.symm oo)).symm,fun g2 => ?_⟩⟩;show (bg ae x).drop j=(bg ae y).drop j
   rw [OE hjx,OE I5,cR,show (bg ae x).getD j 0=(bg ae y).getD j 0 from oo]
 . have dN:k=n:=dN;refine fm ?_;rw [dN,Ca] at cR;rw [ajG bT cR,OD]
open Go.Shelf
attribute [local go_sem] Oper.semAt_some
theorem not_row{W:World}{c:Array Value}{t:TypeId}{f:Nat×Nat}{row:Option Nat}(h:W.heap[b]? = some (.cells c t f))(hr:∀ r,row=some r->B<=r/\∃ o,W.heap[r]? = some o/\o.isCells=false):some b≠row:=by
 intro e;obtain⟨_,o,ho,hc⟩:=hr b e.symm;rw [h] at ho;injection ho with ho;subst ho;cases hc
theorem L7{W:World}{t:Nat}{v:Value}{row:Option Nat}(h:Boxed W b t v)(hg:W.grownBy W' row)(hr:∀ r,row=some r->B<=r/\∃ o,W.heap[r]? = some o/\o.isCells=false):Boxed W' b t v:=h.kept hg (not_row h hr)
theorem aqN{W:World}{row:Option Nat}(h:w.grownBy W (some g))(hB:w.heap.size<=B)(hg:W.grownBy W' row)(hr:∀ r,row=some r->B<=r/\∃ o,W.heap[r]? = some o/\o.isCells=false):w.grownBy W' (some g) :=
 ⟨hg.os.trans h.os,hg.tape.trans h.tape,hg.output.trans h.output,dQ h.size hg.size,fun k hk aT=>(hg.block k (iS hk h.size) (fun e=>by have:=(hr k e.symm).1; omega)).trans (h.block k hk aT)⟩
theorem Tq{W:World}(h:w.grownBy W (some g))(hp:p.block=g\/w.heap.size<=p.block)(u):w.grownBy (W.setCell p u) (some g) :=
 ⟨h.os,h.tape,h.output,by simp; exact h.size,fun k hk aT=>(uj _ _ _ _ (fun e=>by
  rcases hp with hp|hp
  . exact aT (by rw [e,hp])
  . omega)).trans (h.block k hk aT)⟩
theorem L8{W:World}(h:w.grownBy W (some g))(o):w.grownBy (W.alloc o) (some g) :=
 ⟨h.os,h.tape,h.output,by simp; exact Nat.le_succ_of_le h.size,fun k hk aT=>(ql _ _ _ (iS hk h.size)).trans (h.block k hk aT)⟩
theorem aqO{W:World}(h:w.grownBy W (some g))(hD:w.heap.size<=D)(o):w.grownBy (W.putObj D o) (some g) :=
 ⟨h.os,h.tape,h.output,by simp; exact h.size,fun k hk aT=>(World.putObj_heap_other oo).trans (h.block k hk aT)⟩
def il(w:World)(g E:Nat)(k:IntKind)(R:List Value)(l:List Nat):Prop:=w.heap[g]? = some (.cells (sZ k l++R).toArray E (0,0))
theorem il.lt{k:IntKind}{l:List Nat}(h:il w g E k R l):g<w.heap.size:=(jA.1 h).1
theorem il.jF{k:IntKind}{l:List Nat}(h:il w g E k R l)(hg:w'.heap[g]? = w.heap[g]?):il w' g E k R l:=hg.trans h
theorem il.cell{k:IntKind}{l:List Nat}(h:il w g E k R l)(hi):w.cell? ⟨g,i,none⟩=some (.int k l[i]):=Co.cell ⟨R,h⟩ hi
theorem il.frozen{k:IntKind}{l:List Nat}(h:il w g E k R l)(i):w.frozen? ⟨g,i,none⟩=false:=Co.frozen ⟨R,h⟩ i
theorem il.setCell{k:IntKind}{l:List Nat}(h:il w g E k R l)(hi:i<l.length)(m:Nat):il (w.setCell ⟨g,i,none⟩ (.int k m)) g E k R (l.set i m):=by
 unfold il at *
 rw [heap_setCell h];congr 2;apply xF;rw [azf,List.toList_toArray,List.toList_toArray];rw [List.set_append_left _ _ (by rw [EP]; exact hi)];unfold sZ;rw [List.map_set]
theorem il.other{k:IntKind}{l:List Nat}(h:il w g E k R l)(aT:g≠p.block)(u):il (w.setCell p u) g E k R l:=h.jF (uj _ _ _ _ aT)
theorem il.row{W:World}{k:IntKind}{l:List Nat}{row:Option Nat}(h:il W g E k R l)(hg:W.grownBy W' row)(hr:∀ r,row=some r->B<=r/\∃ o,W.heap[r]? = some o/\o.isCells=false):il W' g E k R l:=(hg.block g h.lt (not_row h hr)).trans h
def aqP(R:List Value)(w:World)(g n c by_:Nat)(l:List Nat)(pre:List (Nat×Nat))(W:World):Prop:=∃ (o:List Nat) (r:Nat),pre.length<=n/\o.length=n/\dr ae o/\o.take (n - pre.length)=l.take (n - pre.length)/\r<by_/\bE ae (l.drop (n - pre.length))=bE ae (o.drop (n - pre.length))*by_+r/\il W g 49 .u32 R o /\
 Boxed W w.heap.size 114 (.slice (some ⟨g,0,none⟩) n c)/\Boxed W (w.heap.size+1) 49 (.int .u32 (by_:Int))/\Boxed W (w.heap.size+2) 117 (.int .u64 (r:Int))/\Boxed W (w.heap.size+3) 114 (.slice (some ⟨g,0,none⟩) n c)/\w.grownBy W (some g)
theorem aqQ(R)(g c n by_:Nat)(l)(hn:n=l.length)(w)(hL:il w g 49 .u32 R l)(hd:dr ae l)(hlen:l.length<=1000)(h0:0<by_)(hby:by_<4294967296) :
 Calls Tryz.prog 165 #[.slice (some ⟨g,0,none⟩) n c,.int .u32 by_] w fun e w'=>∃ o,e = .returned (.int .u32 (bE ae l % by_:Nat))/\o.length=l.length/\dr ae o/\bE ae o=bE ae l / by_/\il w' g 49 .u32 R o/\w.grownBy w' (some g):=by
 have j8:n<=1000:=oo
 have HN:=aZ hn;have HL:=aZ hL;clear hn hL;refine (callsIn_wide (n:=3)).1 ?_;refine callsIn_of_wp_marks Tryz.func165 rfl trivial ?_ rfl;simp only [Tryz.ntmps165,xz,cB,ej,Nat.reduceAdd,Nat.reduceSub,NU,NT,NZ,NX,pt,kW]
 gi_wp2_with (refine⟨trivial,?_⟩; gi_at_call 208; refine (akv Fence.wide _ trivial rfl _ _ _ _).mono ?_; rintro e w' ⟨rfl,rfl⟩)
 obtain⟨W0,n9⟩:∃ W0,W0=((((w.alloc (.cells #[.slice (some ⟨g,0,none⟩) n c] 114)).alloc (.cells #[.int .u32 (by_:Int)] 49)).alloc (.cells #[.int .u64 0] 117)).alloc (.cells #[.slice (some ⟨g,0,none⟩) n c] 114)):=⟨_,rfl⟩
 have aO:W0.heap.size=w.heap.size+4:=by rw [n9]; simp
 have bA:Boxed W0 w.heap.size 114 (.slice (some ⟨g,0,none⟩) n c):=by rw [n9]; exact (((Boxed.new w _ _).alloc _).alloc _).alloc _
 have bY:Boxed W0 (w.heap.size+1) 49 (.int .u32 (by_:Int)):=by rw [n9]; have:=Boxed.new (w.alloc (.cells #[.slice (some ⟨g,0,none⟩) n c] 114)) 49 (.int .u32 (by_:Int)); rw [qk] at this; exact (this.alloc _).alloc _
 have bR:Boxed W0 (w.heap.size+2) 117 (.int .u64 ((0:Nat):Int)):=by rw [n9]; have:=Boxed.new ((w.alloc (.cells #[.slice (some ⟨g,0,none⟩) n c] 114)).alloc (.cells #[.int .u32 (by_:Int)] 49)) 117 (.int .u64 0); rw [qk,qk] at this; exact this.alloc _
 have bN:Boxed W0 (w.heap.size+3) 114 (.slice (some ⟨g,0,none⟩) n c):=by rw [n9]; have:=Boxed.new (((w.alloc (.cells #[.slice (some ⟨g,0,none⟩) n c] 114)).alloc (.cells #[.int .u32 (by_:Int)] 49)).alloc (.cells #[.int .u64 0] 117)) 114 (.slice (some ⟨g,0,none⟩) n c); rw [qk,qk,qk] at this; exact this
 have Tr:w.grownBy W0 (some g):=by rw [n9]; exact L8 (L8 (L8 (L8 ⟨rfl,rfl,rfl,aA _,fun _ _ _=>rfl⟩ _) _) _) _
 have Ts:il W0 g 49 .u32 R l:=by rw [n9]; exact HL.out.jF ((ql _ _ _ (by have:=HL.out.lt; simp; omega)).trans ((ql _ _ _ (by have:=HL.out.lt; simp; omega)).trans ((ql _ _ _ (by have:=HL.out.lt; simp; omega)).trans (ql _ _ _ HL.out.lt))))
 rw [<- n9];refine akr (F:=Fence.wide) (n:=3) (ps := #[10,11]) (encs:=I8) rfl (by decide) (gf:=244) (lb := #[.pointer (some ⟨w.heap.size+1+1+1,0,none⟩)]) rfl trivial (enters_of Tryz.func244 (by kernel_rfl) rfl)
  (aku Fence.wide 2 trivial rfl (by decide) (w.heap.size+1+1+1) n c (some ⟨g,0,none⟩) l j8 _) (cu _ _) (fun _=>rfl)
  (aqP R w g n c by_ l) (fun _ _ _=>False) (fun pre W hI => ?hIG) (fun pre A B row hs hg hr => ?hI) (fun _ _ _ _ _ hs _ _=>hs) ?hst
  (fun x => { tmps := #[.slice (some ⟨g,0,none⟩) n c,.int .u32 (by_:Int),.pointer (some ⟨w.heap.size,0,none⟩),.pointer (some ⟨w.heap.size+1,0,none⟩),.int .u32 0,.pointer (some ⟨w.heap.size+1+1,0,none⟩),.int .i64 (x.1:Int),.int .u32 (x.2:Int),.slice (some ⟨g,0,none⟩) n c,.func (.func 244) #[] #[.pointer (some ⟨w.heap.size+1+1+1,0,none⟩)],.int .i64 (x.1:Int),.int .u32 (x.2:Int),undef,undef,undef,undef,undef,undef,undef,undef,undef,undef,undef,undef,undef,undef,undef,undef,undef,undef,undef],defers := [] }) ?assign ?body ?done ?stop
 case hIG =>
  obtain⟨o,r,cU,A5,DA,sf,hr,hv,kA,b1,b2,b3,b4,gr⟩:=hI;refine⟨b4.cell,fun j hj=>⟨g,0,rfl,?_⟩⟩;have DB:j<o.length:=oo
  have eZ:j<l.length:=by have:=HN.out; omega
  have h1:=kA.cell DB;have e:o[j]=l.getD j 0:=by
   have h2:=congrArg (fun q=>q[j]?) sf;simp only [eh,show j<n - pre.length from oo,eO] at h2;rw [bc DB] at h2;rw [aX,<- h2];rfl
  rw [gC,h1,e]
 case hI =>
  obtain⟨o,r,cU,A5,DA,sf,kz,hv,kA,b1,b2,b3,b4,gr⟩:=hs;exact⟨o,r,cU,A5,DA,sf,kz,hv,kA.row hg hr,L7 b1 hg hr,L7 b2 hg hr,L7 b3 hg hr,L7 b4 hg hr,aqN gr (by rw [aO]; omega) hg hr⟩
 case hst =>
  exact⟨l,0,bO _,HN.out.symm,hd,rfl,h0,by rw [ej,rC,BV (vQ HN.out.symm)]; simp [bE],Ts,bA,bY,bR,bN,Tr⟩
 case assign =>
  intro lp x W K hK;unfold I8
  gi_wp2
  exact hK
 case body =>
  rintro lp pre x0 W ⟨o,r,cU,A5,DA,sf,kz,hv,kA,b1,b2,b3,b4,gr⟩ ⟨ah,rfl⟩
  obtain⟨j,hj⟩:∃ j,j+pre.length+1=n:=⟨n - 1 - pre.length,oo⟩
  have e1:n - 1 - pre.length=j:=oo
  have e3:n - pre.length=j+1:=oo
  rw [e3] at sf hv;unfold EO;rw [e1];obtain⟨d,L9⟩:∃ d,d=l.getD j 0:=⟨_,rfl⟩
  have AN:d<4294967296:=by rw [L9]; exact hd.getD (by decide) j
  rw [<- L9];have c1:=b1.cell;have c2:=b2.cell;have c3:=b3.cell;have f3:=b3.frozen;have DB:j<o.length:=oo
  have cj:=kA.cell DB;have fj:=kA.frozen j;have yI:r<4294967296:=oo
  have hor:=Lib.hid (ako yI AN);clear bA bY bR bN Tr Ts;have yg:g<w.heap.size:=HL.out.lt;have zJ:IntKind.u64.wrap (d:Int)=(d:Int):=wrap_u64 oo oo;have HDD:=Lib.hid L9;have HHD:=Lib.hid hd;clear L9 hd;dsimp only
  gi_wp2
  obtain⟨s,hs⟩:∃ s,s=r*4294967296+d:=⟨_,rfl⟩
  rw [hor.out,<- hs];have Ma:Boxed (W.setCell ⟨w.heap.size+1+1,0,none⟩ (.int .u64 (s:Int))) w.heap.size 114 (.slice (some ⟨g,0,none⟩) n c):=(uj _ _ _ _ (by simp; omega)).trans b1;have FI:Boxed (W.setCell ⟨w.heap.size+1+1,0,none⟩ (.int .u64 (s:Int))) (w.heap.size+1) 49 (.int .u32 (by_:Int)):=(uj _ _ _ _ (by simp)).trans b2;have Mb:Boxed (W.setCell ⟨w.heap.size+1+1,0,none⟩ (.int .u64 (s:Int))) (w.heap.size+2) 117 (.int .u64 (s:Int)):=one_setCell b3;have Tt:Boxed (W.setCell ⟨w.heap.size+1+1,0,none⟩ (.int .u64 (s:Int))) (w.heap.size+3) 114 (.slice (some ⟨g,0,none⟩) n c):=(uj _ _ _ _ (by simp)).trans b4;have G3:il (W.setCell ⟨w.heap.size+1+1,0,none⟩ (.int .u64 (s:Int))) g 49 .u32 R o:=kA.other (by simp; omega) _;have Tu:w.grownBy (W.setCell ⟨w.heap.size+1+1,0,none⟩ (.int .u64 (s:Int))) (some g):=Tq gr (.inr (by simp; omega)) _;have Tv:KeepsOthers W (W.setCell ⟨w.heap.size+1+1,0,none⟩ (.int .u64 (s:Int))):=KeepsOthers.setCell _ _ _;clear b1 b2 b3 b4 c1 c2 c3 f3 cj fj kA gr;generalize W.setCell ⟨w.heap.size+1+1,0,none⟩ (.int .u64 (s:Int))=W1 at *
  have pX:(j:Int)<(n:Int):=oo
  have az1:s<18446744073709551616:=oo
  have hmo:Tryz.prog.follows .mixedOrders=true:=by kernel_rfl
  have jG:¬ ((by_:Int)=0):=oo
  have hwb:IntKind.u64.wrap (by_:Int)=(by_:Int):=wrap_u64 oo oo;obtain⟨q,hq⟩:∃ q,q=s / by_:=⟨_,rfl⟩
  obtain⟨r2,wL⟩:∃ r2,r2=s % by_:=⟨_,rfl⟩
  have DC:q<4294967296:=by
   rw [hq];refine (IC h0).2 ?_;have h1:(r+1)*4294967296<=by_*4294967296:=oy _ kz;rw [kX 4294967296 by_];omega
  have hqi:(s:Int) / (by_:Int)=(q:Int):=by rw [hq]; exact (Int.natCast_ediv s by_).symm
  have oX:(s:Int) % (by_:Int)=(r2:Int):=by rw [wL]; exact (Int.natCast_emod s by_).symm
  have aqU:r2<by_:=by rw [wL]; exact oC _ h0
  have hwq:IntKind.u32.wrap (q:Int)=(q:Int):=by rw [wrap_u32,fF DC]
  have eZ:j<l.length:=by have:=HN.out; omega
  have yM:Hid (bE ae (l.drop j)=bE ae ((o.set j q).drop j)*by_+r2):=by
   have h1:=ajP (B:=ae) (by_:=by_) (a:=l) (o:=o) (i:=j) (r:=r) eZ (by rw [A5]; exact HN.out) hv;have e:l[j]=d:=by have:=HDD.out; rw [this,aX,bc eZ]; rfl
   rw [e] at h1;have e2:r*ae+d=s:=hs.symm;rw [e2,<- hq,<- wL] at h1;exact h1
  have HVS:=aZ hs;have HQS:=aZ hq;have HRS:=aZ wL;have HTK:=aZ sf;clear hs hq wL hv sf;rename_i Q2 K2 Tw;have hw2:∃ W2,W2=(W1.setCell ⟨g,j,none⟩ (.int .u32 (q:Int))).drew:=⟨_,rfl⟩
  obtain⟨W2,ve⟩:=hw2;have HQ:Exit.then K2 (Exit.inBlock 1 Q2) Exit.normal { tmps := #[.slice (some ⟨g,0,none⟩) n c,.int .u32 (by_:Int),.pointer (some ⟨w.heap.size,0,none⟩),.pointer (some ⟨w.heap.size+1,0,none⟩),.int .u32 0,.pointer (some ⟨w.heap.size+1+1,0,none⟩),.int .i64 (j:Int),.int .u32 (d:Int),.slice (some ⟨g,0,none⟩) n c,.func (.func 244) #[] #[.pointer (some ⟨w.heap.size+1+1+1,0,none⟩)],.int .i64 (j:Int),.int .u32 (d:Int),.int .u64 (r:Int),.int .u64 ((r:Int)*4294967296),.int .u32 (d:Int),.int .u64 (d:Int),.int .u64 (s:Int),.slice (some ⟨g,0,none⟩) n c,.int .i64 (j:Int),.int .u64 (s:Int),.int .u32 (by_:Int),.int .u64 (by_:Int),.int .u64 (q:Int),.int .u32 (q:Int),.pointer (some ⟨g,j,none⟩),undef,undef,undef,undef,undef,undef],defers := [] } W2:=by
   have b1:Boxed W2 w.heap.size 114 (.slice (some ⟨g,0,none⟩) n c):=by rw [ve]; exact (uj _ _ _ _ (by simp; omega)).trans Ma
   have b2:Boxed W2 (w.heap.size+1) 49 (.int .u32 (by_:Int)):=by rw [ve]; exact (uj _ _ _ _ (by simp; omega)).trans FI
   have b3:Boxed W2 (w.heap.size+2) 117 (.int .u64 (s:Int)):=by rw [ve]; exact (uj _ _ _ _ (by simp; omega)).trans Mb
   have b4:Boxed W2 (w.heap.size+3) 114 (.slice (some ⟨g,0,none⟩) n c):=by rw [ve]; exact (uj _ _ _ _ (by simp; omega)).trans Tt
   have kA:il W2 g 49 .u32 R (o.set j q):=by rw [ve]; exact (G3.setCell DB q).jF rfl
   have gr:w.grownBy W2 (some g):=by rw [ve]; exact (fun h=>⟨h.os,h.tape,h.output,h.size,h.block⟩) (Tq (p:=⟨g,j,none⟩) Tu (.inl rfl) (.int .u32 (q:Int)))
   have ac6:KeepsOthers W W2:=by rw [ve]; exact Tv.trans ((KeepsOthers.setCell _ _ _).trans (KeepsOthers.drew _))
   have b1s:Boxed (W2.setCell ⟨w.heap.size+1+1,0,none⟩ (.int .u64 (r2:Int))) w.heap.size 114 (.slice (some ⟨g,0,none⟩) n c):=(uj _ _ _ _ (by simp; omega)).trans b1;have b2s:Boxed (W2.setCell ⟨w.heap.size+1+1,0,none⟩ (.int .u64 (r2:Int))) (w.heap.size+1) 49 (.int .u32 (by_:Int)):=(uj _ _ _ _ (by simp)).trans b2;have b3s:Boxed (W2.setCell ⟨w.heap.size+1+1,0,none⟩ (.int .u64 (r2:Int))) (w.heap.size+2) 117 (.int .u64 (r2:Int)):=one_setCell b3;have b4s:Boxed (W2.setCell ⟨w.heap.size+1+1,0,none⟩ (.int .u64 (r2:Int))) (w.heap.size+3) 114 (.slice (some ⟨g,0,none⟩) n c):=(uj _ _ _ _ (by simp)).trans b4;have aq1:il (W2.setCell ⟨w.heap.size+1+1,0,none⟩ (.int .u64 (r2:Int))) g 49 .u32 R (o.set j q):=kA.other (by simp; omega) _;have aq2:w.grownBy (W2.setCell ⟨w.heap.size+1+1,0,none⟩ (.int .u64 (r2:Int))) (some g):=Tq gr (.inr (by simp; omega)) _;have aq3:KeepsOthers W (W2.setCell ⟨w.heap.size+1+1,0,none⟩ (.int .u64 (r2:Int))):=ac6.trans (KeepsOthers.setCell _ _ _);have c2:=b2.cell;have c3:W2.cell? ⟨w.heap.size+1+1,0,none⟩=_:=b3.cell;have f3:W2.frozen? ⟨w.heap.size+1+1,0,none⟩=_:=b3.frozen;clear ve Ma FI Mb Tt G3 Tu Tv b1 b2 b3 b4 kA gr ac6;refine Tw _ _ ?_
   gi_wp2
   refine⟨aq3,o.set j q,r2,by simp; omega,by simp [A5],DA.set _ _ DC,?_,aqU,?_,aq1,b1s,b2s,b3s,b4s,aq2⟩
   . have e:n - (pre ++ [(j,d)]).length=j:=by simp; omega
     rw [e,take_set];have:=congrArg (fun q=>q.take j) HTK.out;simpa [Es] using this
   . have e:n - (pre ++ [(j,d)]).length=j:=by simp; omega
     rw [e];exact yM.out
  have c1:W1.drew.cell? ⟨w.heap.size,0,none⟩=_:=Ma.cell;have c2:W1.drew.cell? ⟨w.heap.size+1,0,none⟩=_:=FI.cell;have c3:W1.drew.cell? ⟨w.heap.size+1+1,0,none⟩=_:=Mb.cell;have cj:W1.drew.cell? ⟨g,j,none⟩=_:=G3.cell DB;have fj:W1.drew.frozen? ⟨g,j,none⟩=_:=G3.frozen j;rw [ve] at HQ;have HQ':=aZ HQ;clear HQ ve Ma FI Mb Tt G3 Tu Tv
  gi_region_with_o (fail)
  all_goals exact HQ'.out
 case done =>
  rintro D0 xs W hD QS ⟨o,r,cU,A5,DA,sf,kz,hv,kA,b1,b2,b3,b4,gr⟩ hK
  rw [QS,Ca,zA,zA] at hv;have c3:W.cell? ⟨w.heap.size+1+1,0,none⟩=_:=b3.cell;have yI:r<4294967296:=oo
  have hwr:IntKind.u32.wrap (r:Int)=(r:Int):=by rw [wrap_u32,fF yI]
  have aq5:Hid (r=bE ae l % by_):=by
   unfold Hid;rw [hv,kX,Nat.mul_add_mod,fF kz]
  have hdiv:Hid (bE ae o=bE ae l / by_):=by
   unfold Hid;rw [hv,kX,Nat.mul_add_div h0,l6 kz,jE]
  have HNB:=aZ (kA.jF (w':=W.putObj D0 (.deferred none)) (World.putObj_heap_other (by
   intro e;have hh:W.heap[g]? = _:=kA;rw [e,hK] at hh;cases hh)))
  have HGR:=aZ (aqO gr (D:=D0) oo (.deferred none));have aq8:Hid (o.length=l.length):=by unfold Hid; rw [A5]; exact HN.out
  clear hv sf kA bA bY bR bN Tr Ts b1 b2 b3 b4 gr
  gi_wp2
  refine⟨by simp,.inl ⟨_,_,rfl,run_takeDeferred hK,?_⟩⟩;exact⟨_,results_tmp rfl _ _ _,o,by rw [<- aq5.out]; rfl,aq8.out,DA,hdiv.out,HNB.out,HGR.out⟩
 case stop =>
  rintro D0 cc pre W _ _ h _
  exact h.elim
open Go.RowKit
theorem aq9{ρ:Nat->Option Rl}{ro:Nat->Prop}{fr:Bool}{css:List (List Value)}(hlen:css.length=l.length)(aO:∀ cs∈css,cs.length=1)(dt:∀ (k) (cs) (j:Nat) (x) (v),css[k]? = some cs->(aP fr .u32 fun _=>l.getD k Tc.u32.aa)[j]? = some x->cs[j]? = some v->af w ρ base ro x v):css=l.map nn.cells:=by
 refine N3 (by rw [fk,hlen]) fun k h1 h2 => ?_;obtain⟨v,hv⟩:=NO.1 (aO _ (iT h1));have h3:=dt k css[k] 0 _ v (bc h1) rfl (by rw [hv]; rfl);rw [hv,h3.iw,WH];have:k<l.length:=oo
 show [Value.int .u32 (l.getD k Tc.u32.aa)] = [Value.int .u32 l[k]]
 rw [aX,bc this,ia]
theorem ac7(l:List Int):(l.map nn.cells).flatten=l.map (Value.int .u32):=by
 induction l with
 | nil=>rfl
 | cons x l ih=>simp only [gz,IL,ih]; rfl
theorem ac8(m):sZ .u32 m=(cl m).map (Value.int .u32):=by unfold sZ cl; rw [xE]; rfl
def Tx:fO:=⟨165,[.E0 .u32,.int .u32],1,fun ai es=>match ai,es with
 | [.cG .u32 0 a b,.int .u32 d],[(0,.row false .u32 T l)]=>some ⟨fun _=>(T=49/\a ()=0/\0<b ()/\b ()<=(l ()).length)/\(d32 (l ())/\b ()<=1000)/\0<d ()/\d ()<4294967296,.int .u32 fun _=>((cE (l ()) 0 (b ()) % (d ()).toNat:Nat):Int),[(0,.row false .u32 T fun _=>jy (l ()) 0 (b ()) (cE (l ()) 0 (b ()) / (d ()).toNat))]⟩
 | _,_=>none,true⟩
theorem ara:ij Tryz.prog Tx:=by
 refine⟨fun args w=>yV Tryz.func165 (by kernel_rfl) (by kernel_rfl) args w,fun ai es res h w ρ ra dM nj hE lu jx cP bw hp => ?_⟩;simp only [Tx] at h;split at h
 case h_2=>cases h
 rename_i a b d T l;cases h;obtain⟨⟨rfl,ha,jG,iG⟩,⟨hl,c8⟩,er,fN⟩:(T=49/\a ()=0/\0<b ()/\b ()<=(l ()).length)/\(d32 (l ())/\b ()<=1000)/\0<d ()/\d ()<4294967296:=hp;obtain⟨v0,y4,rfl,lT,h0⟩:=hE.head;obtain⟨v1,Ty,rfl,rK,h1⟩:=h0.head;obtain rfl:=h1.none;obtain rfl:=rK.iw;obtain⟨A,n,c,hA,_,_,rfl⟩:=lT.yb;obtain⟨A',c',css,bG,ac9,hlen,dt⟩:=lu 0 _ rfl;rw [hA] at bG;injection bG with bG;injection bG with e1 e2 e3;subst e1; subst e2; subst e3;have KV:=aq9 hlen ac9.2 dt;obtain⟨m,hm,QH⟩:=LW (B:=ae) hl.1;obtain⟨D,hD⟩:=pq (Oa er);rw [hD] at er fN;obtain⟨nI,hz⟩|⟨g,cap,cur,heq,gS,hg,QR,pP,aF,rE⟩:=ac9.1.2
 . rw [hlen] at hz; omega
 simp only [Value.slice.injEq,bu] at heq;obtain⟨rfl,rfl⟩:=heq;rw [show Tc.u32.size=1 from rfl,mS] at aF rE;rw [KV,ac7,fk] at rE;have ka:m.length=(l ()).length:=by rw [hm,lD]
 have qt:cur.toList=sZ .u32 (m.take (b ()))++cur.toList.drop (b ()):=by
  have h2:cur.toList.take (b ())=sZ .u32 (m.take (b ())):=by
   rw [ac8,<- y3,<- hm,IP,<- rE,Es,xA iG]
  rw [<- h2,jB]
 have hNB:il w g 49 .u32 (cur.toList.drop (b ())) (m.take (b ())):=by
  unfold il;rw [<- qt];exact hg
 have G4:(m.take (b ())).length=b ():=by rw [cL]; omega
 have hV:cE (l ()) 0 (b ())=bE ae (m.take (b ())):=by
  unfold cE;rw [zA,rC,hm,y3,pZ]
 have arc:sliced (some ⟨g,0,none⟩) (a ()) (b ()) c Tc.u32.size = .slice (some ⟨g,0,none⟩) (b ()) c:=by
  unfold sliced;rw [ha];simp [Addr.add]
 rw [arc,hD];refine (aqQ (cur.toList.drop (b ())) g c (b ()) D (m.take (b ())) G4.symm w hNB (QH.take _) oo oo oo).mono fun e w' ⟨o,k1,k2,k3,k4,k5,k6⟩ => ?_;have hgb:(Rl.row (some ⟨g,0,none⟩) (l ()).length c).b8=some g:=rfl;have ho:=bw 0 _ g hA hgb;have yc:pad ae (b ()) (bE ae o)=o:=by have:=Ci (B:=ae) (by decide) o k3; rwa [k2,G4] at this
 have hW:jy (l ()) 0 (b ()) (cE (l ()) 0 (b ()) / ((D:Nat):Int).toNat)=cl (o++m.drop (b ())):=by
  unfold jy;rw [hV,fE,<- k4,rC,yc,Er,pt,GJ]
  conv=>lhs; arg 2; rw [hm,Dq]
 have qU:(cl (o++m.drop (b ()))).length=(l ()).length:=by rw [lD,dp,iD]; omega
 refine⟨_,ρ,ra,k1,⟨⟨k6.os,k6.tape,k6.output,k6.size,fun k hk aT=>k6.block k hk fun e=>aT 0 _ hA (by rw [hgb,e])⟩,fun l' e' he => ?_,jx,fun l' cg=>cP l' ?_,fun l' r b' h1 h2 => ?_,fun b' aW=>⟨iS (nj b' aW) k6.size,fun _=>aW⟩,fun l' r h _=>h⟩,?_⟩
 . rw [cm] at he;split at he
   case isFalse=>cases he
   rename_i e0;subst e0;cases he;have Mc:∀ cs∈((cl (o++m.drop (b ()))).map nn.cells),cs.length=1:=fun cs hc=>by
    obtain⟨x,_,rfl⟩:=gi.1 hc;rfl
   refine⟨some ⟨g,0,none⟩,c,(cl (o++m.drop (b ()))).map nn.cells,by simp only [hW,qU]; exact hA,⟨⟨pw _ Mc,.inr ⟨g,c,_,rfl,gS,k5,by rw [fk,qU,<- hlen]; exact QR,pP,?_,?_⟩⟩,Mc⟩,by simp only [fk,hW],fun k cs j x v q1 q2 q3 => ?_⟩
   . have cz:cur.toList.length=cur.size:=ajg;rw [xz,dp,EP,iD,k2,G4];show _=c*1
     omega
   . rw [fk,qU,ac7,GJ,jg,<- ac8,show Tc.u32.size=1 from rfl,mS,List.take_append,EP,k2,G4];congr 1
     . exact jC (by rw [EP,k2,G4]; exact iG)
     . rw [<- Dq,<- hm,List.map_drop,<- rE,List.drop_take]
   . rw [ga] at q1;obtain⟨y,hy,rfl⟩:=kS.1 q1;simp only [hW] at q2;rw [show (cl (o++m.drop (b ()))).getD k Tc.u32.aa=y by rw [aX,hy]; rfl] at q2;have pO:aV w' ρ w.heap.size ra (aP false .u32 fun _=>y) (nn.cells y):=GC (l:=aP false .u32 fun _=>y) rfl;exact pO.2 j x v q2 q3
 . simp only [dE,bD,fS,NV] at cg;show 1<=l'
   omega
 . exact⟨iS (bw l' r b' h1 h2).1 k6.size,(bw l' r b' h1 h2).2,.inr ⟨r,h1,h2⟩⟩
 . show af _ _ _ _ (.int .u32 _) _
   rw [hV,fE];exact .int _ _
theorem Tz:∀ (k s:Nat),bE ae (pad ae k s)=s % ae^k
 | 0,s=>by rw [oB,pv]; rfl
 | k+1,s=>by
  show s % ae+ae*bE ae (pad ae k (s / ae))=_
  rw [Tz k,kg,kX (ae^k),Nat.mod_mul]
theorem TA(hb:b<=N)(bk:a<=b):cE (cl (pad ae N Z)) a b=Z / ae^a % ae^(b - a):=by
 unfold cE;rw [Dq,y3,pZ,A3 _ _ _ _ oo,AZ _ _ _ _ oo,Tz]
theorem TB{Z':Nat}(hb:b<=N)(bk:a<=b)(h1:Z' % ae^a=Z % ae^a)(h2:Z' / ae^a % ae^(b - a)=s % ae^(b - a))(h3:Z' / ae^b=Z / ae^b):jy (cl (pad ae N Z)) a b s=cl (pad ae N Z'):=by
 have e:pad ae N Z'=pad ae a Z++pad ae (b - a) s++(pad ae N Z).drop b:=by
  rw [A3 _ _ _ _ hb,<- h3,<- A3 _ _ _ _ hb,<- GU h1,<- GU h2];have t1:(pad ae N Z').take a=pad ae a Z':=AZ _ _ _ _ oo;have t2:((pad ae N Z').drop a).take (b - a)=pad ae (b - a) (Z' / ae^a):=by rw [A3 _ _ _ _ oo,AZ _ _ _ _ oo]
  rw [<- t1,<- t2];have:=Xl (pad ae N Z') a (b - a);rw [show a+(b - a)=b from oo] at this;exact this.symm
 unfold jy;rw [e,y3,Dq,AZ _ _ _ _ oo,GJ,GJ]
theorem TC(bk:a<=b)(hb:b<=l.length):(jy l a b s).length=l.length:=by
 unfold jy;rw [dp,dp,lD,ev,cL,iD];omega
theorem ard{t:Nat}(bk:a<=b)(hb:b<=l.length):jy (jy l a b s) a b t=jy l a b t/\cE (jy l a b s) a b=s % ae^(b - a):=by
 have h:=akm (L:=l) (o:=cl (pad ae (b - a) s)) (j:=a) (m:=b - a) (by rw [lD,ev]) oo;rw [show a+(b - a)=b from oo] at h;obtain⟨h1,h2,h3⟩:=h;constructor
 . unfold jy at *
   rw [h1,h2]
 . unfold cE jy;rw [h3,pZ,Tz]
theorem arf(hl:d32 l)(bk:a<=b)(hb:b<=l.length):d32 (jy l a b s):=by
 refine⟨fun d hd => ?_,by rw [TC bk hb]; exact hl.2⟩;unfold jy at hd;rcases iU.1 hd with h|h
 . rcases iU.1 h with h|h
   . exact hl.1 d (sR h)
   . exact acs (rG (by decide) _ _) d h
 . exact hl.1 d (IE h)
theorem G5(h:N<=1000000):d32 (cl (pad ae N s)):=Dr (rG (by decide) _ _) (by rw [ev]; exact h)
def dB(X V j:Nat):Nat:=X % (V*ae^j)
def nr(X V j:Nat):Nat:=dB X V (j+1) / ae^j
def vf(X V m j:Nat):List Nat:=List.replicate j 0++pad ae (m+1 - j) (X / (V*ae^j))
theorem TD(hV:0<V)(j:Nat):nr X V j<V*ae/\dB X V j=dB X V (j+1) % ae^j+ae^j*(nr X V j % V)/\nr X V j / V=X / (V*ae^j) % ae:=by
 have hp:=p7 j;have e:V*ae^(j+1)=V*ae^j*ae:=by rw [kg,Et]
 have hvp:0<V*ae^(j+1):=zE hV (p7 _);refine⟨?_,?_,?_⟩
 . refine BW ?_;have:=oC X hvp;rw [show ae^j*(V*ae)=V*ae^(j+1) by rw [e,WE,Et]];exact this
 . have h1:dB X V (j+1) % (V*ae^j)=dB X V j:=by
    unfold dB;rw [e];exact Nat.mod_mod_of_dvd _ ⟨ae,rfl⟩
   rw [<- h1,kX V,Nat.mod_mul];rfl
 . unfold nr dB;rw [e,BU,kX (ae^j) V,ai5]
theorem ari(hj:j<=m):(vf X V m (j+1)).set j (X / (V*ae^j) % ae)=vf X V m j:=by
 have e1:List.replicate (j+1) 0=List.replicate j 0 ++ [0]:=List.replicate_succ';have e2:m+1 - j=(m - j)+1:=oo
 have e3:m+1 - (j+1)=m - j:=oo
 unfold vf;rw [e1,e2,e3,fR,List.set_append_right _ _ (by rw [vK]; exact aA _),vK,Ca];show _++(X / (V*ae^j) % ae::pad ae (m - j) (X / (V*ae^(j+1))))=_++(X / (V*ae^j) % ae::pad ae (m - j) (X / (V*ae^j) / ae))
 rw [BU,Et,<- kg]
theorem arj(hj:j<=m+1):(vf X V m j).length=m+1:=by
 unfold vf;rw [dp,vK,ev];omega
theorem Md(hV:V<ae^n)(jj:0<V):dB X V j<ae^(n+j):=by
 have h1:=oC X (zE jj (p7 j));have h2:V*ae^j<ae^n*ae^j:=NK hV (p7 j);rw [<- Cc] at h2;unfold dB;omega
theorem TE(hV:V<ae^n)(jj:0<V):nr X V j<ae^(n+1):=by
 have h:=Md (X:=X) (j:=j+1) hV jj;refine BW ?_;rw [<- Cc,show j+(n+1)=n+(j+1) from oo];exact h
theorem ark(hV:V<ae^n)(jj:0<V)(hj:j<=m):cE (cl (pad ae (m+n+1) (dB X V (j+1)))) j (j+n+1)=nr X V j:=by
 rw [TA oo oo,show j+n+1 - j=n+1 from oo];exact fF (TE hV jj)
theorem arl(hV:V<ae^n)(jj:0<V)(hj:j<=m)(hs:s % ae^(n+1)=nr X V j % V):jy (cl (pad ae (m+n+1) (dB X V (j+1)))) j (j+n+1) s=cl (pad ae (m+n+1) (dB X V j)):=by
 obtain⟨_,h2,_⟩:=TD (X:=X) jj j;have hp:=p7 j;have hd:dB X V j / ae^j=nr X V j % V:=by rw [h2,zy _ _ hp,l6 (oC _ hp),gC]
 have pS:=Md (X:=X) (j:=j) hV jj;have qG:=Md (X:=X) (j:=j+1) hV jj;have oG:ae^(n+j)<=ae^(j+n+1):=zx (by decide) oo;rw [show n+(j+1)=j+n+1 from oo] at qG;refine TB oo oo ?_ ?_ ?_
 . rw [h2,zw,Nat.mod_mod]
 . rw [hd,show j+n+1 - j=n+1 from oo,hs];refine fF (iS (oC _ jj) ?_);exact dQ (N7 hV) (zx (by decide) oo)
 . rw [l6 qG,l6 oo]
theorem arn(rJ:aM V=n)(hn:0<n)(jj:0<V)(hg:g=min ((dg (dB X V (j+1)) (j+n)*4294967296+dg (dB X V (j+1)) (j+n - 1)) / dg V (n - 1)) 4294967295):nr X V j / V<=g:=by
 have hV:V<ae^n:=iE bT (vQ rJ);have hW:=TE (X:=X) (j:=j) hV jj;have hu:∀ i,i<n+1->(pad ae (n+1) (nr X V j)).getD i 0=dg (dB X V (j+1)) (j+i):=fun i hi=>by
  rw [GW hi];unfold dg nr;rw [BU,<- Cc]
 have h:=akf (V:=V) (n:=n) (vt:=dg V (n - 1)) (g:=g) (u:=pad ae (n+1) (nr X V j)) (rG (by decide) _ _) (ev _ _ _) rJ hn (p6 _ _).symm (by rw [nJ (by decide) _ _ hW]; exact (TD (X:=X) jj j).1) (by rw [hu n oo,hu (n - 1) oo,show j+(n - 1)=j+n - 1 from oo]; exact hg);rwa [nJ (by decide) _ _ hW] at h
theorem aro{W:Nat}(hW:W<ae^(n+1))(hgV:g*V<ae^(n+1))(hV:0<V)(ho:W<g*V):0<g/\(W+ae^(n+1) - g*V) % ae^(n+1)+V=W+ae^(n+1) - (g - 1)*V/\(!decide (ae^(n+1)<=(W+ae^(n+1) - g*V) % ae^(n+1)+V))=decide (W<(g - 1)*V)/\W / V<=g - 1:=by
 have hg:0<g:=by
  rcases BX g with h|h
  . subst h; omega
  . exact h
 have e:g*V=(g - 1)*V+V:=by
  obtain⟨k,rfl⟩:∃ k,g=k+1:=⟨g - 1,oo⟩
  rw [xx,B9]
 rw [fF (show W+ae^(n+1) - g*V<ae^(n+1) from oo)];have h3:W / V<=g - 1:=by
  have:=(IC hV).2 ho;omega
 generalize (g - 1)*V=p at *
 generalize g*V=q at *
 generalize ae^(n+1)=P at *
 refine⟨hg,oo,?_,h3⟩;rw [<- decide_not];exact El.2 oo
theorem arp{W:Nat}(hW:W<ae^(n+1))(hV:0<V)(rJ:V<ae^(n+1))(hle:W / V<=g)(ho:¬ W<g*V):g=W / V/\(W+ae^(n+1) - g*V) % ae^(n+1)=W % V:=by
 have h1:g<=W / V:=(Nat.le_div_iff_mul_le hV).2 oo;have h2:g=W / V:=oo
 refine⟨h2,?_⟩;have h3:=WJ W V;rw [kX,<- h2] at h3;have h4:=oC W hV;rw [show W+ae^(n+1) - g*V=W % V+ae^(n+1) from oo,Nat.add_mod_right,fF oo]
theorem arq(hx:aM x=m+n)(hy:aM y=n)(hn:0<n):dB (x*s) (y*s) (m+1)=x*s:=by
 rcases BX s with h0|h0
 . subst h0; unfold dB; rw [Cb,Nat.zero_mod]
 have h1:x<ae^(m+n):=iE bT (vQ hx);have h2:ae^(n - 1)<=y:=(Ex bT).1 (show n - 1<aM y from oo);have h3:ae^(m+n)=ae^(n - 1)*ae^(m+1):=by rw [<- Cc]; congr 1; omega
 have h4:ae^(n - 1)*ae^(m+1)<=y*ae^(m+1):=oy _ h2;unfold dB;refine fF ?_;rw [aji];exact NK oo h0
theorem ars(hs:0<s):dB (x*s) (y*s) 0=x % y*s/\x*s / (y*s*ae^0)=x / y:=by
 unfold dB;rw [oB,mS,Nat.mul_mod_mul_right,ajc _ _ hs];exact⟨rfl,rfl⟩
end Go.Proofs.YtamjbkaclhgffaaGreat
