/-
  The reference's curve and the program's one: buoyancy as rational numbers. Plain.
-/
import Derived.Test.YtamjbkaclhgffaaGreatSi30
set_option linter.all false
set_option maxRecDepth 100000
set_option maxHeartbeats 4000000
namespace Go.Proofs.YtamjbkaclhgffaaGreat
variable{K a b r s x x0 y:Int}{fill w:List Int}{bs:List aJ}{F l t:List ar}{st:List az}{E i j:Nat}{α:Type}{S:bC}
section
variable{l:List ar}{ws:List Wt}{D:Nat}(R:ee l ws D)
include R
theorem ee.ah3:∀ k,k<=ws.length->cV (2*D) ((29+k)*(500000000000000*D)) (Uy (MN l (l.length - 1)) ws k) ((gQ ak.a1 l (l.length - 1):Rat) / ((2:Int):Rat)+(eN ak.a1 (ws.take k):Rat) / ((2:Int):Rat))
 | 0,_=>by
  have h1:=R.ah1 (l.length - 1) (aA _);have h2:=R.r.parts.2.1;refine (h1.mono (oy _ oo)).eq ?_;show _=_+((0:Int):Rat) / _
  grind
 | k+1,h=>by
  have ih:=ee.ah3 k oo;have hu:ws.getD k iP∈ws:=eY (getD_some iP oo);have hk:=R.r.Im _ hu;have hx:=R.wx hu;have hb:500000000*(2*D)*500000<c7:=by
   have:=R.lt 500000000000000 (by decide);have e:500000000*(2*D)*500000=500000000000000*D:=oo
   rw [e];exact this
  have h1:=(cV.int (E:=2*D) (K:=500000000) (ws.getD k iP).aq oo).Ns R.E2 (ws.getD k iP).x hx hb;have e:500000000*(2*D)*500000=500000000000000*D:=oo
  rw [e] at h1;have eP:(29+k)*(500000000000000*D)+500000000000000*D<c7:=by
   have h2:=R.r.sH;have h3:=R.lt (3030*500000000000000) (by decide);have h4:(29+k+1)*(500000000000000*D)<=3030*(500000000000000*D):=oy _ oo;rw [lH] at h4;omega
  have h5:=ih.add R.E2 h1 eP;rw [show 29+(k+1)=29+k+1 from rfl,lH (29+k) 1,IT];refine h5.eq ?_;rw [NA oo,VP];show _=_+(((eN ak.a1 (ws.take k)+2*(ws.getD k iP).aq*(ws.getD k iP).x:Int)):Rat) / _
  push_cast;grind
theorem ee.M:cV (2*D) 100000000000000000000000000000000000000 (tX l ws) (((aB (cq l ws)).a1:Rat) / ((2:Int):Rat)):=by
 have h:=R.ah3 ws.length (aA _);rw [uk] at h;have hf:=R.r.sH;have h4:(29+ws.length)*(500000000000000*D)<=3030*(500000000000000*17400000000000000000):=xB oo (kU _ R.b.qi.2);refine ((show cV _ _ (tX l ws) _ from h).mono (dQ h4 (by decide))).eq ?_;rw [R.r.sum DM];push_cast;grind
theorem ee.Bx(h:i<l.length):cV D 8700000000000000000000000000000000 (Go.Proofs.YtamjbkaclhgffaaGreat.Bx l (aB (cq l ws)).a0 i) ((((aB (cq l ws)).a0*(l.getD i eV).share:Int):Rat) / ((10000:Int):Rat)):=by
 have hs:=R.share h;have hW:=R.b.w;have h1:=R.b.ratio (l.getD i eV).share oo;have hb:500000000*D*10000<c7:=by
  have:=R.lt 5000000000000 (by decide);have e:500000000*D*10000=5000000000000*D:=oo
  rw [e];exact this
 have h2:=(cV.int (E:=D) (K:=500000000) (aB (cq l ws)).a0 oo).Ns R.E1 (l.getD i eV).share hs hb;refine⟨?_,h1⟩;unfold Go.Proofs.YtamjbkaclhgffaaGreat.Bx;rw [h2.1,rI,<- l7,Ii (by decide) (R.b.fits h1 (by decide))]
theorem ee.ah4:∀ i,i<=l.length - 1->cV (2*D) (100000000000000000000000000000000000000+i*8700000000000000000000000000000000000000) (Uz l (aB (cq l ws)).a0 (tX l ws) i) (((aB (cq l ws)).a1:Rat) / ((2:Int):Rat) - (((aB (cq l ws)).a0*gQ ak.a3 l i:Int):Rat) / ((10000:Int):Rat) / ((2:Int):Rat))
 | 0,_=>by
  rw [xD,VW,Int.mul_zero];refine cV.eq R.M ?_;grind
 | i+1,h=>by
  have ih:=ee.ah4 i oo;have h2:=R.r.parts.2.1;have h1:=(R.Bx (i:=i) oo).Nt R.E2 (R.mid i).1 (R.hX i) (by decide);have h3:=ih.sub R.E2 h1 (by
   refine pr (m:=1000000000000000000000000000000000000000000) ?_ (by decide)
   omega)
  refine (h3.mono oo).eq ?_;rw [rm _ oo];show _=_ - (((aB (cq l ws)).a0*(gQ ak.a3 l i+(l.getD i eV).share*Go.Proofs.YtamjbkaclhgffaaGreat.hX l i):Int):Rat) / _ / _
  push_cast;grind
theorem ee.VY(h:i<l.length - 1):(xl l i).natAbs<=60000000/\xl l i=(eX l (l.length - 1) (ck l (l.length - 1)) i).a4:=by
 have h1:=R.r.parts.2.1;have ha:=DL R.r.ok (l.length - 1);have hh:=zb R.r.ok i;have m3:=qb (a:=((l.length - 1:Nat):Int)) (A:=29) (b:=Go.Proofs.YtamjbkaclhgffaaGreat.hX l i) (B:=1000000) oo hh;have e:xl l i=((l.length - 1:Nat):Int)*Go.Proofs.YtamjbkaclhgffaaGreat.hX l i - ck l (l.length - 1):=by
  unfold xl Go.Proofs.YtamjbkaclhgffaaGreat.hX;rw [ahX]
 refine⟨?_,e⟩;rw [e];omega
theorem ee.fact:∀ i,i<=l.length - 1->cV (2*D) (i*(60000000000000*D)) (UA l i) ((gQ ak.a5 l i:Rat) / ((2:Int):Rat))
 | 0,_=>by
  exact ah2
 | i+1,h=>by
  have ih:=ee.fact i oo;obtain⟨o1,o2⟩:=R.VY (i:=i) oo;have h1:=(cV.int (E:=D) (K:=60000000) (xl l i) o1).Nt R.E2 (R.mid i).1 (R.hX i) (by
   have:=R.lt 60000000000000 (by decide);rw [aji];exact this)
  have e:60000000*D*1000000=60000000000000*D:=oo
  rw [e] at h1;have hb:i*(60000000000000*D)+60000000000000*D<c7:=by
   have h2:=R.r.parts.2.1;have h3:=R.lt (30*60000000000000) (by decide);have h4:(i+1)*(60000000000000*D)<=30*(60000000000000*D):=oy _ oo;rw [lH] at h4;omega
  have h5:=ih.add R.E2 h1 hb;rw [lH,IT];refine h5.eq ?_;rw [rm _ oo,o2];show _+((((l.length - 1:Nat):Int)*Go.Proofs.YtamjbkaclhgffaaGreat.hX l i - ck l (l.length - 1):Int):Rat)*_=(((gQ ak.a5 l i+(((l.length - 1:Nat):Int)*Go.Proofs.YtamjbkaclhgffaaGreat.hX l i - ck l (l.length - 1))*Go.Proofs.YtamjbkaclhgffaaGreat.hX l i:Int)):Rat) / _
  push_cast;grind
theorem ee.kq:kV l (aB (cq l ws)).a0 (tX l ws)=ofRat (kR (cq l ws)):=by
 have h1:=(R.ah4 (l.length - 1) (aA _)).1;have h2:=(R.fact (l.length - 1) (aA _)).1;have e3:=D4 l DN (fun _=>rfl) ws;have e5:=D4 l su (fun _=>rfl) ws;rw [<- e3] at h1;rw [<- e5] at h2;have aT:=R.b.Nr;have hq:(((aB (cq l ws)).a1:Rat) / ((2:Int):Rat) - (((aB (cq l ws)).a0*(aB (cq l ws)).a3:Int):Rat) / ((10000:Int):Rat) / ((2:Int):Rat)) / (((aB (cq l ws)).a5:Rat) / ((2:Int):Rat))=kR (cq l ws):=by
  unfold kR;rw [l7];have e2:((2:Int):Rat)=2:=rfl;rw [e2];grind
 unfold kV;rw [h1,h2,Ii (by grind) (by rw [hq]; exact R.b.fits R.b.k (by decide)),hq]
theorem ee.lift(h:i<l.length - 1):cV D 60000000000000000000000000000000000000 (afk l (aB (cq l ws)).a0 (tX l ws) i) (jz (cq l ws) (l.getD i eV).share (xl l i)):=by
 obtain⟨o1,o2⟩:=R.VY h;have hs:=R.share (i:=i) oo;have h1:=R.Bx (i:=i) oo;have hk:cV D 30000000000000000000000 (kV l (aB (cq l ws)).a0 (tX l ws)) (kR (cq l ws)):=⟨R.kq,R.b.k⟩
 have h2:=hk.Ns R.E1 (xl l i) o1 (by decide);have h3:=h1.add R.E1 h2 (by decide);exact⟨h3.1,R.b.lift _ _ oo oo⟩
end
def mL(l:List ar)(ws:List Wt)(i:Nat):Rat:=jz (cq l ws) (gQ ak.a2 l i) (gQ ak.a4 l i) - (gQ ak.a0 l i:Rat)
def sM(l:List ar)(ws:List Wt)(i:Nat):Rat:=jz (cq l ws) (gQ ak.a3 l i) (gQ ak.a5 l i) - (gQ ak.a1 l i:Rat)
section
variable{l:List ar}{ws:List Wt}{D:Nat}(R:ee l ws D)
include R
theorem ee.force(h:i<l.length - 1):cV D 70000000000000000000000000000000000000 (UB l (aB (cq l ws)).a0 (tX l ws) i) (mL l ws (i+1) - mL l ws i):=by
 have h1:=R.lift h;have h2:=cV.int (E:=D) (K:=500000000) (vv l i) (R.ch oo);have hb:60000000000000000000000000000000000000+500000000*D<=70000000000000000000000000000000000000:=dQ (aje (kU _ R.b.qi.2) _) (by decide);have h3:=h1.sub R.E1 h2 (pr hb (by decide));refine (h3.mono hb).eq ?_;unfold mL;rw [rm _ h,rm _ h,rm _ h,VU,(R.VY h).2];show jz _ _ _ - _=jz _ _ _+jz _ (l.getD i eV).share _ - ((gQ ak.a0 l i+vv l i:Int):Rat) - _
 push_cast;grind
end
theorem axl{ws:List Wt}(h:i<l.length - 1):sM l ws (i+1) - sM l ws i=(mL l ws (i+1) - mL l ws i)*(Go.Proofs.YtamjbkaclhgffaaGreat.hX l i:Rat):=by
 unfold mL sM;rw [rm _ h,rm _ h,rm _ h,rm _ h,rm _ h,rm _ h,VU,VU];have ht:=axi (cq l ws) (eX l (l.length - 1) (ck l (l.length - 1)) i).a2 (eX l (l.length - 1) (ck l (l.length - 1)) i).a4 (Go.Proofs.YtamjbkaclhgffaaGreat.hX l i);have e3:(eX l (l.length - 1) (ck l (l.length - 1)) i).a3=(eX l (l.length - 1) (ck l (l.length - 1)) i).a2*Go.Proofs.YtamjbkaclhgffaaGreat.hX l i:=rfl;have e5:(eX l (l.length - 1) (ck l (l.length - 1)) i).a5=(eX l (l.length - 1) (ck l (l.length - 1)) i).a4*Go.Proofs.YtamjbkaclhgffaaGreat.hX l i:=rfl;have e1:(eX l (l.length - 1) (ck l (l.length - 1)) i).a1=(eX l (l.length - 1) (ck l (l.length - 1)) i).a0*Go.Proofs.YtamjbkaclhgffaaGreat.hX l i:=rfl;rw [<- e3,<- e5] at ht;rw [e1];push_cast;generalize jz (cq l ws) (eX l (l.length - 1) (ck l (l.length - 1)) i).a3 (eX l (l.length - 1) (ck l (l.length - 1)) i).a5=q1 at *
 generalize jz (cq l ws) (eX l (l.length - 1) (ck l (l.length - 1)) i).a2 (eX l (l.length - 1) (ck l (l.length - 1)) i).a4=q2 at *
 grind
theorem ah5{q:Rat}(h:q=0):cV E 0 (cS 0) q:=by
 rw [h];exact⟨by decide,0,by grind,by simp⟩
section
variable{l:List ar}{ws:List Wt}{D:Nat}(R:ee l ws D)
include R
theorem ee.ah6{j:Nat}:∀ t,j+t<=l.length - 1->cV D (t*70000000000000000000000000000000000000) (UC l (aB (cq l ws)).a0 (tX l ws) j t) (mL l ws (j+t) - mL l ws j)
 | 0,_=>by
  rw [xD];refine ah5 ?_;rw [jE];grind
 | t+1,h=>by
  have ih:=ee.ah6 (j:=j) t oo;have h1:=R.force (i:=j+t) oo;have h2:=R.r.parts.2.1;have h3:=ih.add R.E1 h1 (by
   refine pr (m:=100000000000000000000000000000000000000000) ?_ (by decide)
   omega)
  refine (h3.mono oo).eq ?_;rw [show j+(t+1)=j+t+1 from rfl];grind
theorem ee.arm(hj:j<l.length):(jh (DQ l i) (cS (bV l j))).1=ofRat ((Go.Proofs.YtamjbkaclhgffaaGreat.hX l i - 2*bV l j:Int) / ((2:Int):Rat))/\(Go.Proofs.YtamjbkaclhgffaaGreat.hX l i - 2*bV l j).natAbs<=2000000:=by
 have hx:=afl R.r.ok hj;have hh:=R.hX i;have h1:=(R.mid i).sub R.E2 (cV.int (E:=2*D) (K:=500000) (bV l j) oo) (by
  have:=R.lt 2000000 (by decide);have e:1000000*D+500000*(2*D)=2000000*D:=oo
  rw [e];exact this)
 refine⟨?_,oo⟩;rw [h1.1];congr 1;push_cast;grind
theorem ee.ah7{j:Nat}(hj:j<l.length):∀ t,j+t<=l.length - 1->cV (2*D) (t*140000000000000000000000000000000000000000000) (UD l (aB (cq l ws)).a0 (tX l ws) j t) (-((sM l ws (j+t) - sM l ws j) - (mL l ws (j+t) - mL l ws j)*((2*bV l j:Int):Rat)) / ((2:Int):Rat))
 | 0,_=>by
  rw [xD];refine ah5 ?_;rw [jE];grind
 | t+1,h=>by
  have ih:=ee.ah7 hj t oo;obtain⟨g1,g2⟩:=R.arm (i:=j+t) hj;have h1:=(R.force (i:=j+t) oo).Nt R.E2 g1 g2 (by decide);have h2:=R.r.parts.2.1;have h3:=ih.sub R.E2 h1 (by
   refine pr (m:=10000000000000000000000000000000000000000000000) ?_ (by decide)
   omega)
  refine (h3.mono oo).eq ?_;have hl:=axl (ws:=ws) (show j+t<l.length - 1 from oo);rw [show j+(t+1)=j+t+1 from rfl];generalize mL l ws (j+t+1)=u1 at *
  generalize mL l ws (j+t)=u0 at *
  generalize sM l ws (j+t+1)=v1 at *
  generalize sM l ws (j+t)=v0 at *
  push_cast;grind
theorem ee.ldS{xj:Int}{B:Nat}{s:aY}{q:Rat}(h:cV D B s q)(hB:B<=10000000000000000000000000000000000000000):∀ k,k<=ws.length->cV D (B+k*(500000000*D)) (Hm s ws xj k) (q - (xq xj (ws.take k):Rat))
 | 0,_=>by
  rw [xD];refine cV.eq h ?_;show _=_ - ((0:Int):Rat)
  grind
 | k+1,hk=>by
  have ih:=ee.ldS (xj:=xj) h hB k oo;have hu:ws.getD k iP∈ws:=eY (getD_some iP oo);have Uq:=R.r.Im _ hu;unfold Hm;rw [NA oo,ahR];by_cases hx:xj<=(ws.getD k iP).x
  . rw [aC hx,aC hx];have h1:=cV.int (E:=D) (K:=500000000) (ws.getD k iP).aq oo;have hb:B+k*(500000000*D)+500000000*D<c7:=by
     have hf:=R.r.sH;have h4:(k+1)*(500000000*D)<=3001*(500000000*17400000000000000000):=xB oo (kU _ R.b.qi.2);rw [lH] at h4;refine pr (m:=10000000000000000000000000000000000000000+3001*(500000000*17400000000000000000)) ?_ (by decide);omega
    have h3:=ih.sub R.E1 h1 hb;rw [lH,IT,<- oA];refine h3.eq ?_;push_cast;grind
  . exact ah9
theorem ee.ldB{xj:Int}(hxj : -500000<=xj/\xj<=500000){B:Nat}{s:aY}{q:Rat}(h:cV (2*D) B s q)(hB:B<=10000000000000000000000000000000000000000000000):∀ k,k<=ws.length->cV (2*D) (B+k*(1000000000000000*D)) (Hn s ws xj k) (q+(sK xj (ws.take k):Rat))
 | 0,_=>by
  rw [xD];refine cV.eq h ?_;show _=_+((0:Int):Rat)
  grind
 | k+1,hk=>by
  have ih:=ee.ldB hxj h hB k oo;have hu:ws.getD k iP∈ws:=eY (getD_some iP oo);have Uq:=R.r.Im _ hu;have VZ:=R.wx hu;unfold Hn;rw [NA oo,ahS];by_cases hx:xj<=(ws.getD k iP).x
  . rw [aC hx,aC hx];have e:500000000*(2*D)*1000000=1000000000000000*D:=oo
    have h1:=(cV.int (E:=2*D) (K:=500000000) (ws.getD k iP).aq oo).Ns (K:=1000000) R.E2 ((ws.getD k iP).x - xj) oo (by rw [e]; exact R.lt _ (by decide));rw [e] at h1;have hb:B+k*(1000000000000000*D)+1000000000000000*D<c7:=by
     have hf:=R.r.sH;have h4:(k+1)*(1000000000000000*D)<=3001*(1000000000000000*17400000000000000000):=xB oo (kU _ R.b.qi.2);rw [lH] at h4;refine pr (m:=10000000000000000000000000000000000000000000000+3001*(1000000000000000*17400000000000000000)) ?_ (by decide);omega
    have h3:=ih.add R.E2 h1 hb;rw [lH,IT,<- oA];refine h3.eq ?_;push_cast;grind
  . exact ah9
theorem ee.axn:mL l ws (l.length - 1)=(eN ak.a0 ws:Rat):=by
 have h0:=R.r.sum zc;have h2:=D4 l Bq (fun _=>rfl) ws;have h4:=D4 l Br (fun _=>rfl) ws;unfold mL;rw [<- h2,<- h4,axf R.r.right,axd,axh,h0];push_cast;grind
theorem ee.axo:sM l ws (l.length - 1)=(eN ak.a1 ws:Rat):=by
 have h1:=R.r.sum DM;have h3:=D4 l DN (fun _=>rfl) ws;have h5:=D4 l su (fun _=>rfl) ws;unfold sM;rw [<- h3,<- h5,axg R.b.Nr,h1];push_cast;grind
theorem ee.down(hj:j<=l.length - 1):ue (cq l ws) j=(lF ak.a0 (bV l j) ws:Rat) - mL l ws j:=by
 unfold ue mL;rw [R.r.pre zc hj,Nx l j Bq (fun _=>rfl),Nx l j Br (fun _=>rfl)];push_cast;grind
theorem ee.cy(hj:j<=l.length - 1):Ik l (cq l ws) j=(ue (cq l ws) j*((2*bV l j:Int):Rat)+sM l ws j - (lF ak.a1 (bV l j) ws:Rat)) / ((2:Int):Rat):=by
 unfold Ik Ij sM;rw [R.r.pre DM hj,Nx l j DN (fun _=>rfl),Nx l j su (fun _=>rfl)];push_cast;grind
theorem ee.str(hj:j<l.length):UE l ws (aB (cq l ws)).a0 (tX l ws) j=MF l (cq l ws) (aB (cq l ws)).a0 (kF (cq l ws)) j:=by
 have hx:=afl R.r.ok hj;have hl:=R.r.parts.2.1;rw [R.b.str j oo];have h1:=R.ah6 (j:=j) (l.length - 1 - j) oo;have h2:=R.ah7 hj (l.length - 1 - j) oo;rw [show j+(l.length - 1 - j)=l.length - 1 from oo] at h1 h2;have h3:=R.ldS (xj:=bV l j) h1 oo ws.length (aA _);have h4:=R.ldB hx h2 oo ws.length (aA _);rw [uk] at h3 h4;unfold UE;rw [h3.1,h4.1,R.axn,R.axo];have g0:=ahT (bV l j) ws;have g1:=ahU (bV l j) ws;have g1r:((2:Int):Rat)*(sK (bV l j) ws:Rat)=((eN ak.a1 ws:Rat) - (lF ak.a1 (bV l j) ws:Rat)) - ((2:Int):Rat)*(bV l j:Rat)*((eN ak.a0 ws:Rat) - (lF ak.a0 (bV l j) ws:Rat)):=by
  rw [<- l7,g1];push_cast;rfl
 have e1:(eN ak.a0 ws:Rat) - mL l ws j - (xq (bV l j) ws:Rat)=ue (cq l ws) j:=by
  rw [R.down oo,g0];push_cast;grind
 have e2 : -((eN ak.a1 ws:Rat) - sM l ws j - ((eN ak.a0 ws:Rat) - mL l ws j)*((2*bV l j:Int):Rat)) / ((2:Int):Rat)+(sK (bV l j) ws:Rat)=Ik l (cq l ws) j:=by
  rw [R.cy oo,R.down oo];have e:(sK (bV l j) ws:Rat)=(((eN ak.a1 ws:Rat) - (lF ak.a1 (bV l j) ws:Rat)) - ((2:Int):Rat)*(bV l j:Rat)*((eN ak.a0 ws:Rat) - (lF ak.a0 (bV l j) ws:Rat))) / ((2:Int):Rat):=by
   rw [<- g1r];have e2:((2:Int):Rat)=2:=rfl;rw [e2];grind
  rw [e];have e2:((2:Int):Rat)=2:=rfl;rw [l7,e2];grind
 rw [e1,e2]
end
theorem aib(l:List ar)(ws:List Wt):UH l ws=kM l ws:=by
 unfold UH kM;by_cases hr:gP l=true
 . rw [hr,gg,sV,aw (by simp)];by_cases hb:ws.any lJ=true
   . rw [at3 hb,aC hb]
   . have aW:ws.any lJ=false:=by simpa using hb
     rw [at4 aW,aw hb];by_cases hf:3000<ws.length
     . rw [at5 hf,aC hf]
     . rw [at6 hf,aw hf];obtain⟨p1,p2,p3,p4⟩:=Bw hr;by_cases ho:ws.any (tY l)=true
       . rw [at7 ho];obtain⟨u,hu,h1⟩:=N4.1 ho;have h2:jd l ws=none:=by
          refine ahP ws _ ⟨u,hu,?_⟩;have h3:¬ tY l u=false:=by rw [h1]; simp
          rw [Ny (ahL p3) p1 u] at h3;omega
         rw [h2]
       . have ho':ws.any (tY l)=false:=by simpa using ho
         rw [at8 ho'];have K:sL l ws:=⟨hr,MG aW,fun u hu=>by
          have:=zz.1 ho' u hu;simpa using this,oo⟩
         rw [K.ah0];unfold UF;rw [K.W];by_cases hW:500000000<(aB (cq l ws)).a0
         . rw [aC hW];show _=if 500000000<(aB (cq l ws)).a0 then _ else _
           rw [aC hW]
         . rw [aw hW];show _=if 500000000<(aB (cq l ws)).a0 then _ else _
           rw [aw hW];have R:ee l ws (dF l):=⟨K,K.axk oo⟩
           unfold zd;congr 1;apply Ei;intro j hj;exact R.str (gA.1 hj)
 . have kz:gP l=false:=by simpa using hr
   rw [kz];rfl
def iX.ok(b:iX):Prop:=(0<=b.step/\b.step<65536)/\(0<=b.ch/\b.ch<65536)/\(0<=b.at_/\b.at_<65536)/\(0<=b.aq/\b.aq<65536)/\(0<=b.share/\b.share<256)
structure MS where
 done:List ar
 x:Int
 rest:Int
def MS.share(s:MS)(x:iX):Int:=min s.rest (20*x.share)
def MS.zr(s:MS)(x:iX):Int:=s.x+1+x.step.tmod (9000+((s.done.length:Int) - 2))
def MS.step(s:MS)(x:iX):MS:=⟨s.done ++ [⟨s.x,x.ch,s.share x,0,0⟩],s.zr x,s.rest - s.share x⟩
def MS.pg(s:MS):List ar:=s.done ++ [⟨s.x,0,0,0,0⟩]
def NB:MS:=⟨[⟨-20000,3000,1000,0,0⟩,⟨-10000,2000,0,0,0⟩],5000,9000⟩
def df(l:List iX)(k:Nat):MS:=(l.take k).foldl MS.step NB
def aic(F:List ar)(r:Int):List ar:=F.set 1 { F.getD 1 eV with share:=(F.getD 1 eV).share+r }
def fD(l:List iX):List ar:=aic (df l (min l.length 7)).pg (df l (min l.length 7)).rest
def sN(l:List iX):Int:=(df l (min l.length 7)).x+20000
def BL(width:Int)(x:iX):Wt:=⟨-20000+(x.at_*7).tmod width,x.aq⟩
def aid(l:List iX):List Wt:=(l.take (min l.length 8)).map (BL (sN l))
theorem NC(l:List iX){k:Nat}(h:k<l.length):df l (k+1)=(df l k).step l[k]:=by
 unfold df;rw [xv h,N0];rfl
theorem Io(l:List iX):∀ k,k<=l.length->(df l k).done.length=k+2
 | 0,_=>rfl
 | k+1,h=>by
  rw [NC l oo];show ((df l k).done++_).length=_
  rw [dp,Io l k oo];rfl
theorem ND(ha:0<=a)(hb:0<b):0<=a.tmod b/\a.tmod b<b:=by
 rw [NL ha];exact⟨Int.emod_nonneg _ oo,Int.emod_lt_of_pos _ hb⟩
theorem NF{l:List iX}(aI:∀ x∈l,x.ok):∀ k,k<=l.length->k<=7->(5000<=(df l k).x/\(df l k).x<=5000+k*9100)/\(0<=(df l k).rest/\(df l k).rest<=9000)
 | 0,_,_=>by refine⟨⟨?_,?_⟩,?_,?_⟩<;>simp [df,NB]
 | k+1,h,h7=>by
  obtain⟨⟨h1,h2⟩,h3,h4⟩:=NF aI k oo oo;rw [NC l oo];have hx:=aI l[k] (iT oo);have hlen:=Io l k oo;have ht:=ND (a:=l[k].step) (b:=9000+(((df l k).done.length:Int) - 2)) hx.1.1 oo;have hs:=hx.2.2.2.2;refine⟨?_,?_⟩
  . show _<=(df l k).zr _/\(df l k).zr _<=_
    unfold MS.zr;rw [hlen] at ht ⊢;omega
  . show _<=(df l k).rest - (df l k).share _/\(df l k).rest - (df l k).share _<=_
    unfold MS.share;omega
def fP(l:List ar):Int:=(l.map ar.ch).foldr (· + ·) 0
theorem vG(f:ar)(l:List ar):fP (f::l)=f.ch+fP l:=rfl
theorem Ip(f:ar):∀ l:List ar,fP (l ++ [f])=fP l+f.ch
 | []=>by simp [fP]
 | g::l=>by rw [kW,vG,vG,Ip f l]; omega
theorem aie:∀ (l:List ar) (s:Int),(∀ f∈l,0<=f.ch)->0<=s->s+fP l<=500000000->jQ s l=s+fP l
 | [],s,_,_,_=>by simp [jQ,fP]
 | f::l,s,hf,h0,h=>by
  have h1:=hf f (by simp);have h2:0<=fP l:=by
   have:∀ l:List ar,(∀ f∈l,0<=f.ch)->0<=fP l:=by
    intro l
    induction l with
    | nil=>intro _; simp [fP]
    | cons g l ih=>intro hg; rw [vG]; have:=ih (fun f hf=>hg f (by simp [hf])); have:=hg g (by simp); omega
   exact this l (fun g hg=>hf g (by simp [hg]))
  rw [vG] at h ⊢;unfold jQ;rw [aC oo,aie l _ (fun g hg=>hf g (by simp [hg])) oo oo];omega
structure axq (s:MS) (t:List ar) (k:Nat):Prop where
 done:s.done = [⟨-20000,3000,1000,0,0⟩,⟨-10000,2000,0,0,0⟩]++t
 ok:jc (some (-10000)) t=true
 lt:∀ f∈t,f.x<s.x
 share:fC t+s.rest=9000
 ch:0<=fP t/\fP t<=65535*k
 V0:∀ f∈t,0<=f.ch
 len:t.length=k
 x:5000<=s.x/\s.x<=5000+k*9100
 rest:0<=s.rest/\s.rest<=9000
theorem V1{l:List iX}(aI:∀ x∈l,x.ok):∀ k,k<=l.length->k<=7->∃ t,axq (df l k) t k
 | 0,_,_=>⟨[],rfl,rfl,by simp,rfl,by simp [fP],by simp,rfl,by simp [df,NB],by simp [df,NB]⟩
 | k+1,h,h7=>by
  obtain⟨t,I⟩:=V1 aI k oo oo;have hx:=aI l[k] (iT oo);have hb:=NF aI (k+1) h h7;have hr:=I.rest;have hxx:=I.x;have hs:0<=(df l k).share l[k]/\(df l k).share l[k]<=9000:=by
   have:=hx.2.2.2.2;unfold MS.share;omega
  have axr:(⟨(df l k).x,l[k].ch,(df l k).share l[k],0,0⟩:ar).ok=true:=by
   have:=hx.2.1;unfold ar.ok;simp only [ax,aL];refine⟨⟨⟨⟨?_,?_⟩,?_⟩,?_⟩,?_⟩<;>(constructor<;>omega)
  rw [NC l oo] at hb ⊢;have axs:(df l k).x<((df l k).step l[k]).x:=by
   show _<(df l k).zr l[k]
   unfold MS.zr;have hlen:=Io l k oo;have:=ND (a:=l[k].step) (b:=9000+(((df l k).done.length:Int) - 2)) hx.1.1 oo;omega
  refine⟨t ++ [⟨(df l k).x,l[k].ch,(df l k).share l[k],0,0⟩],?_,?_,?_,?_,?_,?_,?_,hb.1,hb.2⟩
  . show (df l k).done++_=_
    rw [I.done,fR]
  . exact VQ _ axr t _ I.ok I.lt (fun x hx=>by injection hx with hx; rw [<- hx]; show (-10000:Int)<(df l k).x; omega)
  . intro f hf;rcases iU.1 hf with h1|h1
    . have:=I.lt f h1;omega
    . rw [jD] at h1;subst h1;exact axs
  . rw [Il];show fC t+(df l k).share l[k]+((df l k).rest - (df l k).share l[k])=9000
    have:=I.share;omega
  . rw [Ip];have h1:=I.ch;have h2:=hx.2.1;show 0<=fP t+l[k].ch/\fP t+l[k].ch<=65535*((k+1:Nat):Int)
    omega
  . intro f hf;rcases iU.1 hf with h1|h1
    . exact I.V0 f h1
    . rw [jD] at h1;subst h1;exact hx.2.1.1
  . rw [dp,I.len];rfl
structure mM (F:List ar) (t:List ar) (r x0 x:Int):Prop where
 eq:F=⟨x0,3000,1000,0,0⟩::⟨-10000,2000,r,0,0⟩::(t ++ [⟨x,0,0,0,0⟩])
 ok:jc (some (-10000)) (t ++ [⟨x,0,0,0,0⟩])=true
 share:fC t+r=9000
 ch:0<=fP t/\fP t<=458745
 V0:∀ f∈t,0<=f.ch
 len:t.length<=7
 x:5000<=x
 x0 : -500000<=x0/\x0 < -10000
 rest:0<=r/\r<=9000
def D5(F:List ar):List ar:=(F.set 0 { F.getD 0 eV with x := -90000 }).set (F.length - 1) { F.getD (F.length - 1) eV with x:=90000 }
theorem aif{l:List iX}(aI:∀ x∈l,x.ok):∃ t r,fD l=⟨-20000,3000,1000,0,0⟩::⟨-10000,2000,r,0,0⟩::(t ++ [⟨sN l - 20000,0,0,0,0⟩])/\(25000<=sN l/\sN l<=88700)/\mM (D5 (fD l)) t r (-90000) 90000/\t.length=min l.length 7:=by
 obtain⟨t,I⟩:=V1 aI (min l.length 7) oo oo;have hx:=I.x;have hl:=I.ch;have hm:fD l=⟨-20000,3000,1000,0,0⟩::⟨-10000,2000,(df l (min l.length 7)).rest,0,0⟩::(t ++ [⟨sN l - 20000,0,0,0,0⟩]):=by
  unfold fD aic MS.pg sN;rw [I.done];simp
 refine⟨t,_,hm,by unfold sN; omega,⟨?_,?_,I.share,oo,I.V0,by rw [I.len]; omega,oo,oo,I.rest⟩,I.len⟩
 . rw [hm];unfold D5;have e1:(⟨-20000,3000,1000,0,0⟩::⟨-10000,2000,(df l (min l.length 7)).rest,0,0⟩::(t ++ [⟨sN l - 20000,0,0,0,0⟩]):List ar).length - 1=t.length+2:=by simp
   rw [e1];simp
 . refine VQ _ ?_ t _ I.ok (fun f hf=>by have:=I.lt f hf; show f.x<90000; omega) (fun x pG=>by injection pG with pG; show x<90000; omega);unfold ar.ok;simp
theorem mM.V2(M:mM F t r x0 x):jc none F=true:=by
 have hr:=M.rest;have h0:=M.x0;rw [M.eq];have h1:=M.ok;unfold jc jc;rw [h1];simp [ar.ok];omega
theorem mM.axt(M:mM F t r x0 x):xg F=5000+fP t:=by
 have hl:=M.ch;have hS:fP F=5000+fP t:=by
  rw [M.eq,vG,vG,Ip];show (3000:Int)+(2000+(fP t+0))=_
  omega
 unfold xg;rw [aie F 0 ?_ (rD _) oo,hS]
 . omega
 . intro f hf;exact (ar.nA (xh none F M.V2 f hf)).2.1.1
theorem mM.right(M:mM F t r x0 x):gP F=true:=by
 have hlen:F.length=t.length+3:=by rw [M.eq]; simp
 have h7:=M.len;have hl:=M.ch;have hs:=M.share;have nZ:fC F=10000:=by
  rw [M.eq,Nv,Nv,Il];show (1000:Int)+(r+(fC t+0))=_
  omega
 have r6:o8 F=⟨x,0,0,0,0⟩:=by
  rw [M.eq,<- kW,<- kW];exact aw6 _ _
 unfold gP;rw [M.V2,r6,nZ,M.axt];simp only [ib,ax,aL,bn];omega
theorem axu:∀ (l:List ar) (n:Nat) (all:Int) (k:Nat),k<=l.length->fL ak.a0 ((List.range k).map (eX l n all))=fP (l.take k):=by
 intro l n all k
 induction k with
 | zero=>intro _; simp [fL,fP]
 | succ k ih =>
  intro h;have e:∀ (S:List ak) (a:ak),fL ak.a0 (S ++ [a])=fL ak.a0 S+a.a0:=by
   exact Nw
  rw [um,jg,II,e,ih oo,xv oo,Ip];congr 1;show (l.getD k eV).ch=_
  simp [show k<l.length from oo]
theorem mM.axv(M:mM F t r x0 x):∃ f∈F,f.x=x0:=⟨_,by rw [M.eq]; exact WC,rfl⟩
theorem mM.bD(M:mM F t r x0 x):∃ f∈F,f.x=x:=⟨⟨x,0,0,0,0⟩,by rw [M.eq]; simp,rfl⟩
theorem mM.inside(M:mM F t r x0 x)(h0:x0<=y)(h1:y<x):cJ F y≠0/\cJ F y<=F.length - 1:=by
 obtain⟨f,hf,e⟩:=M.axv;obtain⟨g,hg,e2⟩:=M.bD;exact aw4 ⟨f,hf,oo⟩ ⟨g,hg,oo⟩
theorem aih:∀ (ws:List Wt),(∀ u∈ws,0<=u.aq/\u.aq<=300000)->0<=eN ak.a0 ws/\eN ak.a0 ws<=300000*ws.length
 | [],_=>by simp [eN]
 | u::ws,h=>by
  have h1:=aih ws (fun v hv=>h v (by simp [hv]));have h2:=h u (by simp);show 0<=u.aq+eN ak.a0 ws/\u.aq+eN ak.a0 ws<=_
  rw [cB];omega
theorem axw(M:mM F t r x0 x)(ws:List Wt)(hw:∀ u∈ws,x0<=u.x/\u.x<x):∃ S,jd F ws=some S/\S.length=F.length - 1/\(aB S).a0=5000+fP t+eN ak.a0 ws:=by
 obtain⟨S,h1,h2,h3⟩:=VO (l:=F) (n:=F.length - 1) ws (qc F) (Nu F) (fun u hu=>M.inside (hw u hu).1 (hw u hu).2);refine⟨S,h1,h2,?_⟩;rw [ahz zc,h3 _ zc];unfold qc;rw [axu F _ _ _ oo];have e:fP (F.take (F.length - 1))=5000+fP t:=by
  have hlen:F.length=t.length+3:=by rw [M.eq]; simp
  rw [hlen];rw [M.eq];show fP (_::_::((t ++ [(⟨x,0,0,0,0⟩:ar)]).take t.length))=_
  rw [WK rfl,vG,vG];show (3000:Int)+(2000+fP t)=_
  omega
 rw [e]
theorem axx(M:mM F t r x0 x)(ws:List Wt)(hn:ws.length<=1000)(hw:∀ u∈ws,(x0<=u.x/\u.x<x)/\(0<=u.aq/\u.aq<=300000)):(kM F ws).2=0:=by
 obtain⟨S,h1,h2,h3⟩:=axw M ws (fun u hu=>(hw u hu).1);have hk:=aih ws (fun u hu=>(hw u hu).2);have hL:=M.ch;unfold kM;rw [M.right,aw5 (fun u hu=>by have:=(hw u hu).2; omega),h1];simp only [gg,fS,dV,dw];rw [aw (show ¬ 3000<ws.length from oo),aw (show ¬ 500000000<(aB S).a0 from oo)]
open Go.RowKit
def j4.ok(b:j4):Prop:=(0<=b.aq/\b.aq<=255)/\(0<=b.steps/\b.steps<=255)/\(-32768<=b.x/\b.x<=32767)/\(-32768<=b.y/\b.y<=32767)/\(-32768<=b.z/\b.z<=32767)/\0<=b.xS/\b.xS<=65535
def ph(s k:Int):Bool:=decide (te BinOp.and IntKind.u8 (lN BinOp.shr IntKind.u8 s k) 1=1)
def uf(K s:Int):Nat->List Int
 | 0 => []
 | k+1=>uf K s k++cond (ph s (k:Int)) [(K*(k:Int)).tdiv 4] []
theorem V3(K s:Int):∀ k,(uf K s k).length<=k
 | 0=>aA _
 | k+1=>by
  have:=V3 K s k;unfold uf;cases ph s (k:Int)<;>simp only [eG,gj,dp,cB,ej]<;>omega
def eF(x:j4):Int:=1000*(1+x.aq)
def zs(x:j4)(i:Nat):dR:=⟨eF x,x.x,x.y,x.z,100*x.xS,cond (decide ((i:Int)<4)) (uf (eF x) x.steps 5) []⟩
def xr(x:j4)(fill:List Int)(i:Nat):Int:=cond (decide (0<fill.length)) ((eF x*fill.getD (i % fill.length) Tc.u8.aa).tdiv 255) 0
def pj(l:List j4):Nat->List dR
 | 0 => []
 | k+1=>pj l k ++ [zs (l.getD k Tc.iF.aa) k]
def ug(l:List j4)(fill:List Int):Nat->List Int
 | 0 => []
 | k+1=>ug l fill k ++ [xr (l.getD k Tc.iF.aa) fill k]
theorem zt(l:List j4):∀ k,(pj l k).length=k
 | 0=>rfl
 | k+1=>by unfold pj; rw [dp,zt l k]; rfl
theorem Iq(l:List j4)(fill:List Int):∀ k,(ug l fill k).length=k
 | 0=>rfl
 | k+1=>by unfold ug; rw [dp,Iq l fill k]; rfl
theorem aii{l:List α}{x d : α}:(l ++ [x]).getD i d=if i<l.length then l.getD i d else if i=l.length then x else d:=by
 rw [aX,aX];split
 . rw [qj oo]
 . rw [rq oo];split
   . rw [show i - l.length=0 from oo];rfl
   . rw [sQ (by simp only [cB,ej]; omega)];rfl
theorem NG(l:List j4){i:Nat}:∀ k,i<k->(pj l k).getD i Tc.di.aa=zs (l.getD i Tc.iF.aa) i
 | 0,h=>absurd h (rz _)
 | k+1,h=>by
  unfold pj;rw [aii,zt];split
  . exact NG l k ‹_›
  . rw [aC oo,show i=k from oo]
theorem aij(l:List j4)(fill:List Int){i:Nat}:∀ k,i<k->(ug l fill k).getD i Tc.int.aa=xr (l.getD i Tc.iF.aa) fill i
 | 0,h=>absurd h (rz _)
 | k+1,h=>by
  unfold ug;rw [aii,Iq];split
  . exact aij l fill k ‹_›
  . rw [aC oo,show i=k from oo]
theorem axy(hK:1000<=K)(x y z f:Int):∀ j,j<(uf K s 5).length->sm ⟨K,x,y,z,f,uf K s 5⟩ j=true:=by
 have e:∀ k:Int,0<=k->(K*k).tdiv 4=K*k / 4:=fun k hk=>Wu (B7 oo hk);have e0:=e ((0:Nat):Int) oo;have e1:=e ((1:Nat):Int) oo;have e2:=e ((2:Nat):Int) oo;have e3:=e ((3:Nat):Int) oo;have e4:=e ((4:Nat):Int) oo;have hS:uf K s 5=((((([]++cond (ph s ((0:Nat):Int)) [(K*((0:Nat):Int)).tdiv 4] [])++cond (ph s ((1:Nat):Int)) [(K*((1:Nat):Int)).tdiv 4] [])++cond (ph s ((2:Nat):Int)) [(K*((2:Nat):Int)).tdiv 4] [])++cond (ph s ((3:Nat):Int)) [(K*((3:Nat):Int)).tdiv 4] [])++cond (ph s ((4:Nat):Int)) [(K*((4:Nat):Int)).tdiv 4] []):=rfl;rw [hS,e0,e1,e2,e3,e4];generalize ph s ((0:Nat):Int)=b0;generalize ph s ((1:Nat):Int)=b1;generalize ph s ((2:Nat):Int)=b2;generalize ph s ((3:Nat):Int)=b3;generalize ph s ((4:Nat):Int)=b4;clear e e0 e1 e2 e3 e4 hS;cases b0<;>cases b1<;>cases b2<;>cases b3<;>cases b4<;>(
  intro j hj;simp only [eG,gj,oz,pt,kW,cB,ej] at hj ⊢;rcases j with _|_|_|_|_|j<;>first|omega|(simp [sm,DK]; omega))
theorem axz{l:List j4}(hl:∀ x∈l,x.ok)(hf:∀ x∈fill,0<=x/\x<=255)(k:Nat)(hk:k<=l.length)(h8:k<=8):mH (pj l k) (ug l fill k)=true:=by
 have hx:∀ i,i<k->(l.getD i Tc.iF.aa).ok:=fun i hi=>hl _ (gw _ oo);rw [vu,Bn];refine⟨⟨by rw [zt]; omega,fun j hj => ?_⟩,by rw [zt,Iq],fun i hi => ?_⟩
 . rw [zt] at hj;have h:=hx j hj;rw [NG l k hj,Um];generalize l.getD j Tc.iF.aa=x at h;obtain⟨h1,h2,h3,h4,h5,h6⟩:=h;unfold zs;have hK:1000<=eF x/\eF x<=256000:=by unfold eF; omega
   have hlen:=V3 (eF x) x.steps 5
   cases hd:decide ((j:Int)<4) with
   | true=>exact⟨⟨by dsimp only; omega,by dsimp only; omega,by dsimp only; omega,by dsimp only; omega,by dsimp only; omega,by dsimp only [cond_true]; omega⟩,fun i hi=>axy hK.1 _ _ _ _ i hi⟩
   | false=>exact⟨⟨by dsimp only; omega,by dsimp only; omega,by dsimp only; omega,by dsimp only; omega,by dsimp only; omega,by dsimp only [cond_false,List.length_nil]; omega⟩,fun i hi=>absurd hi (Nat.not_lt_zero _)⟩
 . rw [zt] at hi;have h:=hx i hi;unfold vr gY;rw [NG l k hi,aij l fill k hi];generalize l.getD i Tc.iF.aa=x at h;have hK:1000<=eF x/\eF x<=256000:=by unfold eF; have:=h.1; omega
   show (decide (0<=xr x fill i)&&decide (xr x fill i<=eF x))=true
   rw [ax,aL,aL];unfold xr;by_cases hp:0<fill.length
   . rw [dP hp,eG];have hq:=hf _ (gw Tc.u8.aa (oC i hp));generalize fill.getD (i % fill.length) Tc.u8.aa=q at hq;have h0:0<=eF x*q:=B7 oo hq.1;have h1:eF x*q<=eF x*255:=vI hq.2 oo;rw [Wu h0];omega
   . rw [jW hp,gj];omega
def axA(l:List dR):Lp where
 X:=Nat
 ov k := [(8,.int .i64 fun _=>(k:Int))]
 oe k := [(0,.ft fun _=>k+1)]
 I k:=k<=l.length
 μ k _:=l.length - k
 x0:=0
 nx:=some fun k=>k+1
def V4:It:=S4 120 (SY AQ) (SY u6) (fun l w=>(l ()).length<=1000000000000/\(l ()).length<=(w ()).length) (fun l _=>(l ()).length) (fun l w k => [.agg (aP false .di fun _=>(l ()).getD (k ()) Tc.di.aa),.int .i64 fun _=>(w ()).getD (k ()) Tc.int.aa])
theorem aik:qK Tryz.prog V4:=by
 refine ab4 {} [] trivial Tryz.func120 (by kernel_rfl) fun ai res h hp ll => ?_;obtain⟨(l:List dR),(w:List Int),rfl,rfl⟩:=ap1 h;clear h;have kL:l.length<=1000000000000/\l.length<=w.length:=hp;have hl:=kL.1;have hw:=kL.2;refine⟨[(1,axA l)],?_⟩;refine fm ?_;refine⟨⟨bO _,rfl⟩,fun (k:Nat) hk => ?_⟩;have cR:k<=l.length:=hk;clear hk hp;refine fm ?_;simp only [xx,bX,bu,bn,or_true];exact⟨fun g=>⟨⟨oo,oo⟩,⟨oo,oo⟩,⟨oo,oo⟩,ii,⟨oo,oo⟩,oo⟩,fun g => .inl oo⟩
def V5:aN:=c6 55 AQ u6 (fun _ _=>True) (fun l w => .fn 120 [.bh [.sl false .di l] 0,.bh [.sl false .int w] 0])
theorem ail:aU Tryz.prog V5:=by
 refine cD [] trivial Tryz.func55 (by kernel_rfl) fun ai res h hp => ?_;obtain⟨(l:List dR),(w:List Int),rfl,rfl⟩:=dh h;clear h;refine⟨[],?_⟩
 exact no_implicit_lambda% ac4
def V6:aN:=c6 51 AQ u6 (fun l w=>(l ()).length<=1000000000000/\(w ()).length<=1000000000000) (fun l w => .bool fun _=>mH (l ()) (w ()))
theorem aim:aU Tryz.prog V6:=by
 refine R7 {} [aeP,Mz,V5] ⟨atA,Ul,ail,trivial⟩ [] trivial [V4] ⟨aik,trivial⟩ Tryz.func51 (by kernel_rfl) fun ai res h hp => ?_;obtain⟨(l:List dR),(w:List Int),rfl,rfl⟩:=dh h;clear h;have kL:l.length<=1000000000000/\w.length<=1000000000000:=hp;have hl:=kL.1;have hw:=kL.2;refine⟨[],?_⟩
 conv=>arg 1; cbv
 simp (maxSteps:=4000000) only [aK,bu,bn,bX];have hI:=vu l w;have hF:(mH l w=true->False)->false=mH l w:=fun h=>by
  cases hB:mH l w with
  | true=>exact (h hB).elim
  | false=>rfl
 refine⟨hl,fun c=>hF fun q=>(by rw [(hI.1 q).1] at c; cases c),fun c1=>⟨fun c=>hF fun q=>(by rw [dP (show (w.length:Int)=l.length by have:=(hI.1 q).2.1; omega)] at c; cases c),fun c2 => ?_⟩⟩;have qU:w.length=l.length:=by
  have h:(w.length:Int)=l.length:=by simpa using c2
  omega
 have ht:Bm l=true:=by simpa using c1
 refine⟨⟨fun _ => [(0,.box 4 [.aR false])],fun k=>∀ i,i<k->vr l w i=true⟩,?_⟩
 conv=>arg 1; cbv
 simp (maxSteps:=4000000) only [aK,bu,bn,bX];refine⟨⟨⟨hl,oo⟩,fun i hi=>absurd hi (rz _)⟩,fun (k:Nat) hk => ?_⟩;have cp:(∀ i,i<k->vr l w i=true)/\k<=l.length:=hk;have cR:=cp.1;have bU:=cp.2;clear hk
 conv=>arg 1; cbv
 simp (maxSteps:=4000000) only [aK,bu,bn,bX];refine⟨fun _ dN => ?_,fun _ dN => ?_⟩
 . have dN:k<l.length:=dN
   conv=>arg 1; cbv
   simp (maxSteps:=4000000) only [aK,bu,bn,bX];refine⟨fun c=>hF fun q => ?_,fun c i hi => ?_⟩
   . have h:vr l w k=true:=(hI.1 q).2.2 k dN;unfold vr at h;rw [h] at c;cases c
   . rcases b9 i k with h|h
     . exact cR i h
     . rw [show i=k from oo];unfold vr;simpa using c
 . have dN:k=l.length:=dN
   conv=>arg 1; cbv
   simp (maxSteps:=4000000) only [aK,bu,bn,bX];exact (hI.2 ⟨ht,qU,fun i hi=>cR i oo⟩).symm
def D6(l:List dR)(w:List Int)(k:Nat):Ld:=(mG (w.getD k Tc.int.aa) (l.getD k Tc.di.aa).x (l.getD k Tc.di.aa).y (2*(l.getD k Tc.di.aa).z)).1
def pk(l:List dR)(w:List Int):Nat->List Ld
 | 0 => []
 | k+1=>pk l w k ++ [D6 l w k]
theorem V7(l:List dR)(w:List Int):∀ k,(pk l w k).length=k
 | 0=>rfl
 | k+1=>by unfold pk; rw [dp,V7 l w k]; rfl
def BM(l:List dR)(w:List Int):Ld×Int:=if mH l w then o7 (pk l w l.length) else (fi,2)
def ain:aN:=c6 20 AQ u6 (fun l w=>(l ()).length<=1000000000000/\(w ()).length<=1000000000000) (fun l w => .ba [.agg (Dl fun _=>(BM (l ()) (w ())).1),.int .i64 fun _=>(BM (l ()) (w ())).2])
theorem axB:aU Tryz.prog ain:=by
 refine R7 {} [V6,V5,T8,Mu] ⟨aim,ail,aeh,T9,trivial⟩ [] trivial [V4] ⟨aik,trivial⟩ Tryz.func20 (by kernel_rfl) fun ai res h hp => ?_;obtain⟨(l:List dR),(w:List Int),rfl,rfl⟩:=dh h;clear h;have kL:l.length<=1000000000000/\w.length<=1000000000000:=hp;have hl:=kL.1;have hw:=kL.2;refine⟨[],?_⟩;refine fm ?_;refine⟨⟨hl,hw⟩,fun c => ?_,fun c => ?_⟩
 . have hB:mH l w=false:=by simpa using c
   unfold BM;rw [hB];exact⟨rfl,rfl,rfl,rfl,rfl⟩
 have hB:mH l w=true:=by simpa using c
 have qU:=((vu l w).1 hB).2.1;refine⟨⟨fun k => [(1,.box 146 [.own 2]),(2,.row true .ld 73 fun _=>pk l w k)],fun k=>True⟩,?_⟩;refine fm ?_;refine⟨⟨⟨hl,oo⟩,rfl⟩,fun (k:Nat) hk => ?_⟩;have cR:k<=l.length:=hk;clear hk;refine fm ?_;refine⟨fun _ dN => ?_,fun _ dN => ?_⟩
 . have dN:k<l.length:=dN;refine fm ?_;have hz:=((Um _).1 (((Bn l).1 ((vu l w).1 hB).1).2 k dN)).1.2.2.2.1;have h30:=((Bn l).1 ((vu l w).1 hB).1).1;have mj:=V7 l w k;refine⟨ii,by simp only [cB,ej]; omega,rfl⟩
 . have dN:k=l.length:=dN;refine fm ?_;have h30:=((Bn l).1 ((vu l w).1 hB).1).1;have mj:=V7 l w k;subst dN;unfold BM;rw [hB,aC rfl];exact⟨oo,rfl,rfl,rfl,rfl,rfl⟩
def rn(u:Wt):Ld:=⟨u.aq,u.aq*u.x,0,0⟩
def kP(l:List Wt):Nat->Int×Int
 | 0=>(0,0)
 | k+1=>((kP l k).1+(l.getD k Tc.wx.aa).aq,(kP l k).2+(l.getD k Tc.wx.aa).aq*(l.getD k Tc.wx.aa).x)
theorem aio(l:List Wt):∀ k,k<=l.length->(kP l k).1=(cA ((l.take k).map rn)).aq/\(kP l k).2=(cA ((l.take k).map rn)).x
 | 0,_=>⟨rfl,rfl⟩
 | k+1,h=>by
  have h1:=aio l k oo;have e:(l.take (k+1)).map rn=(l.take k).map rn ++ [rn (l.getD k Tc.wx.aa)]:=by
   rw [qa Tc.wx.aa oo,jg];rfl
  rw [e,Ie];have e2:∀ a,cA [a]=a:=fun a=>zp a;rw [e2];exact⟨by show _+_=_+_; rw [h1.1]; rfl,by show _+_=_+_; rw [h1.2]; rfl⟩
theorem aip{α:Type}(f g : α->Ld):∀ l:List α,(∀ e∈l,(f e).aq=(g e).aq/\(f e).x=(g e).x)->(cA (l.map f)).aq=(cA (l.map g)).aq/\(cA (l.map f)).x=(cA (l.map g)).x
 | [],_=>⟨rfl,rfl⟩
 | a::l,h=>by
  have h1:=h a (.head _);have h2:=aip f g l fun e he=>h e (.tail _ he);rw [gz,gz,pf,pf];exact⟨by show _+_=_+_; rw [h1.1,h2.1],by show _+_=_+_; rw [h1.2,h2.2]⟩
theorem NH{t:List dR}(h:mH t w=true){k:Nat}(hk:k<t.length):D6 t w k=⟨w.getD k 0,w.getD k 0*(t.getD k Tc.di.aa).x,w.getD k 0*(t.getD k Tc.di.aa).y,w.getD k 0*(2*(t.getD k Tc.di.aa).z)⟩/\(0<=w.getD k 0/\w.getD k 0<=(t.getD k Tc.di.aa).aq)/\fB (D6 t w k)=true:=by
 obtain⟨ht,hl,hf⟩:=(vu t w).1 h;have h1:=((Um _).1 (((Bn t).1 ht).2 k hk)).1;have h2:=hf k hk;unfold vr gY at h2;rw [ax,aL,aL] at h2;unfold D6;have e0:Tc.int.aa=(0:Int):=rfl;rw [e0] at h2 ⊢;generalize w.getD k 0=n at h2 ⊢;generalize t.getD k Tc.di.aa=a at h1 h2 ⊢;have e:mG n a.x a.y (2*a.z)=(⟨n,n*a.x,n*a.y,n*(2*a.z)⟩,0):=by
  unfold mG;rw [aC];rw [vq.2 oo,qX.2 oo,qX.2 oo,qX.2 oo];rfl
 have hm:∀ x:Int,-1100000<=x->x<=1100000 -> -(n*1100000)<=n*x/\n*x<=n*1100000:=fun x h3 h4=>by
  have a1:=vI h3 h2.1;have a2:=vI h4 h2.1;constructor<;>omega
 rw [e];refine⟨rfl,h2,T6 ⟨by dsimp only; omega,hm _ oo oo,hm _ oo oo,hm _ oo oo⟩⟩
theorem aiq{t:List dR}{w:List Int}(h:mH t w=true):∀ k,k<=t.length->(cA ((l4 t w k).map rn)).aq=(cA (pk t w k)).aq/\(cA ((l4 t w k).map rn)).x=(cA (pk t w k)).x
 | 0,_=>⟨rfl,rfl⟩
 | k+1,hk=>by
  have h1:=aiq h k oo;have h2:=(NH h (k:=k) oo).1;have e2:∀ a,cA [a]=a:=fun a=>zp a;have e3:pk t w (k+1)=pk t w k ++ [D6 t w k]:=rfl;have e4:l4 t w (k+1)=if w.getD k 0=0 then l4 t w k else l4 t w k ++ [⟨(t.getD k Tc.di.aa).x,w.getD k 0⟩]:=rfl;rw [e3,e4,Ie,e2,h2];split
  . rename_i c;rw [c];refine⟨?_,?_⟩
    . show _=_+(0:Int)
      rw [h1.1,Int.add_zero]
    . show _=_+(0:Int)*_
      rw [h1.2,Int.zero_mul,Int.add_zero]
  . rw [jg,Ie];show (cA _).aq+(cA [rn _]).aq=_/\(cA _).x+(cA [rn _]).x=_
    rw [e2,h1.1,h1.2];exact⟨rfl,rfl⟩
theorem V8{t:List dR}{w:List Int}(h:mH t w=true):∀ k,k<=t.length->∀ x∈pk t w k,fB x=true
 | 0,_,x,hx=>absurd hx (IM)
 | k+1,hk,x,hx=>by
  rcases iU.1 hx with h1|h1
  . exact V8 h k oo x h1
  . rw [jD.1 h1];exact (NH h oo).2.2
theorem air{t:List dR}{w:List Int}{B:Int}(h:mH t w=true)(hB:∀ k,k<t.length->(t.getD k Tc.di.aa).aq<=B):∀ k,k<=t.length->0<=(cA (pk t w k)).aq/\(cA (pk t w k)).aq<=B*k
 | 0,_=>by rw [show (((0:Nat)):Int)=0 from rfl,Int.mul_zero]; exact⟨rD _,rD _⟩
 | k+1,hk=>by
  have h1:=air h hB k oo;have h2:=NH h (k:=k) oo;have h3:=hB k oo;have e2:∀ a,cA [a]=a:=fun a=>zp a;have e3:pk t w (k+1)=pk t w k ++ [D6 t w k]:=rfl;rw [e3,Ie,e2,h2.1];have e4:B*((k+1:Nat):Int)=B*k+B:=by rw [B6,Int.mul_add]; simp
  rw [e4];show 0<=_+w.getD k 0/\_+w.getD k 0<=_
  omega
theorem axC(M:mM F t r x0 x):cO F=5000+fP t/\gP F=true:=by
 refine⟨?_,M.right⟩;have e:∀ l:List ar,cO l=fP l:=by
  intro l
  induction l with
  | nil=>rfl
  | cons f l ih=>show f.ch+cO l=f.ch+fP l; rw [ih]
 rw [e,M.eq,vG,vG,Ip];show (3000:Int)+(2000+(fP t+0))=_
 omega
def kQ(S:bC)(F:List ar)(T:List dR)(k:Int):bC:=⟨S.aD,S.dG,k,S.lx,S.ly,S.lz,S.rows,F,T,S.m1,S.m2,S.m3,S.m4⟩
theorem axD{l:List az}(h:Small S bs l)(F)(T)(k):Small (kQ S F T k) bs l:=⟨h.D1,h.aq,h.sH,h.aD⟩
theorem V9{t:List dR}{w:List Int}{u:Wt}:∀ k,u∈l4 t w k->∃ j,j<k/\u=⟨(t.getD j Tc.di.aa).x,w.getD j 0⟩
 | 0,h=>absurd h (IM)
 | k+1,h=>by
  unfold l4 at h;split at h
  . obtain⟨j,h1,h2⟩:=V9 k h;exact⟨j,oo,h2⟩
  . rcases iU.1 h with h1|h1
    . obtain⟨j,h3,h2⟩:=V9 k h1;exact⟨j,oo,h2⟩
    . exact⟨k,oo,jD.1 h1⟩
def jV(S:bC)(bs:List aJ)(st:List az)(W:List Int):List Wt:=st.map (D3 S bs)++l4 S.eU W W.length
def ow(S:bC)(bs:List aJ)(st:List az):Ld:=cA (st.map (ud S bs st))
def mN(T:List dR)(W:List Int):Ld:=cA (pk T W T.length)
theorem axE{W:List Int}(h:Small S bs st)(M:mM S.iL t r (-90000) 90000)(hW:mH S.eU W=true)(hT8:S.eU.length<=8)(hTk:∀ j,j<S.eU.length->(S.eU.getD j Tc.di.aa).aq<=256000 /\ -32768<=(S.eU.getD j Tc.di.aa).x/\(S.eU.getD j Tc.di.aa).x<=32767)(hk:S.lk=cO S.iL) :
 ou S bs st W=(jV S bs st W,0)/\(kM S.iL (jV S bs st W)).2=0/\qh S bs st=(ow S bs st,0)/\BM S.eU W=(mN S.eU W,0)/\o7 [ow S bs st,mN S.eU W]=((ow S bs st).add (mN S.eU W),0) /\
 (kP (jV S bs st W) (jV S bs st W).length).1=((ow S bs st).add (mN S.eU W)).aq/\(kP (jV S bs st W) (jV S bs st W).length).2=((ow S bs st).add (mN S.eU W)).x /\
 (jV S bs st W).length<=24/\∀ u∈jV S bs st W,(-90000<=u.x/\u.x<90000)/\0<=u.aq/\u.aq<=300000:=by
 have qU:=((vu _ _).1 hW).2.1;have hB:BH S bs st W=true:=(No S bs st W).2 ⟨h.D1,hW,M.right,hk.symm⟩;have hlen:(jV S bs st W).length<=24:=by
  unfold jV;rw [dp,fk];have h1:=Nn S.eU W W.length;have h2:=h.sH;omega
 have D7:∀ u∈jV S bs st W,(-90000<=u.x/\u.x<90000)/\0<=u.aq/\u.aq<=300000:=fun u hu=>by
  rcases iU.1 hu with h1|h1
  . obtain⟨e,he,rfl⟩:=gi.1 h1;have hm:=h.mid (Ih S bs st e) (by rw [VL h.VI]; exact List.mem_map_of_mem ((ua st).mem_iff.2 he));have h2:(0<=(bK bs e.box).1.aq/\(bK bs e.box).1.aq<=27000) /\ -64000<=jT (S.aD.getD e.au.toNat Tc.au.aa) e.half/\jT (S.aD.getD e.au.toNat Tc.au.aa) e.half<=64000:=⟨hm.1,hm.2.1⟩
    show (-90000<=jT (S.aD.getD e.au.toNat Tc.au.aa) e.half/\jT (S.aD.getD e.au.toNat Tc.au.aa) e.half<90000)/\0<=(bK bs e.box).1.aq/\(bK bs e.box).1.aq<=300000
    omega
  . obtain⟨j,hj,rfl⟩:=V9 _ h1;have h2:=hTk j oo;have h3:=(NH hW (k:=j) oo).2.1;show (-90000<=(S.eU.getD j Tc.di.aa).x/\(S.eU.getD j Tc.di.aa).x<90000)/\0<=W.getD j 0/\W.getD j 0<=300000
    omega
 have hA:∀ x∈st.map (ud S bs st),fB x=true:=fun x hx=>by
  obtain⟨e,he,rfl⟩:=gi.1 hx;exact (VM h.D1 he).2
 have Wa:0<=(ow S bs st).aq/\(ow S bs st).aq<=640000:=by
  have h1:=VN h.D1 st;have h2:=h.sH;unfold ow;omega
 have hBk:0<=(mN S.eU W).aq/\(mN S.eU W).aq<=2048000:=by
  have h1:=air hW (B:=256000) (fun k hk=>(hTk k hk).1) S.eU.length (aA _);unfold mN;omega
 have okA:fB (ow S bs st)=true:=(Nj _ hA (by have:=Wa.2; unfold ow at this; omega)).1;have okB:fB (mN S.eU W)=true:=(Nj _ (V8 hW _ (aA _)) (by have:=hBk.2; unfold mN at this; omega)).1;have hs:=aio (jV S bs st W) (jV S bs st W).length (aA _);rw [uk] at hs;have e1:(jV S bs st W).map rn=st.map (fun e=>rn (D3 S bs e))++(l4 S.eU W W.length).map rn:=by
  unfold jV;rw [jg,xE];rfl
 have e2:=aip (fun e=>rn (D3 S bs e)) (ud S bs st) st (fun e _=>⟨rfl,rfl⟩);have e3:=aiq hW W.length oo;rw [e1,Ie] at hs;rw [qU] at e3;refine⟨?_,axx M _ oo D7,awR h,?_,awS okA okB oo,?_,?_,hlen,D7⟩
 . unfold ou;rw [aC hB];rfl
 . unfold BM;rw [aC hW,VH (V8 hW _ (aA _)) (by have:=hBk.2; unfold mN at this; omega)];rfl
 . rw [hs.1,qU];show (cA _).aq+(cA _).aq=_
   rw [e2.1,e3.1];rfl
 . rw [hs.2,qU];show (cA _).x+(cA _).x=_
   rw [e2.2,e3.2];rfl
theorem Wb(M:mM F t r x0 x)(k:Nat):0<=cO (F.take k)/\cO (F.take k)<=500000000:=by
 have hn:∀ f∈F,0<=f.ch:=fun f hf=>(ar.nA (xh none F M.V2 f hf)).2.1.1;have h1:=(axC M).1;have h2:=M.ch;have e:∀ l m:List ar,cO (l++m)=cO l+cO m:=by
  intro l m
  induction l with
  | nil=>show cO m=0+cO m; omega
  | cons f l ih=>show f.ch+cO (l++m)=f.ch+cO l+cO m; rw [ih]; omega
 have p:∀ l:List ar,(∀ f∈l,0<=f.ch)->0<=cO l:=by
  intro l
  induction l with
  | nil=>intro _; exact rD _
  | cons f l ih=>intro h; have h3:=ih fun g hg=>h g (.tail _ hg); have h4:=h f (.head _); show 0<=f.ch+cO l; omega
 have h3:=e (F.take k) (F.drop k);rw [jB] at h3;have h4:=p (F.take k) fun f hf=>hn f (sR hf);have h5:=p (F.drop k) fun f hf=>hn f (IE hf);omega
theorem axG(l:List ar)(ws:List Wt):(kM l ws).1.length<=l.length:=by
 unfold kM;split
 . exact bO _
 . split
   . exact bO _
   . split
     . exact bO _
     . split
       . exact bO _
       . unfold zd;rw [fk,IK];exact aA _
theorem Wc{ws:List Wt}(h:∀ u∈ws,(-90000<=u.x/\u.x<90000)/\0<=u.aq/\u.aq<=300000):∀ k,k<=ws.length->(0<=(kP ws k).1/\(kP ws k).1<=300000*k) /\ -(27000000000*k)<=(kP ws k).2/\(kP ws k).2<=27000000000*k
 | 0,_=>by
  show ((0:Int)<=0/\(0:Int)<=300000*((0:Nat):Int)) /\ -(27000000000*((0:Nat):Int))<=(0:Int)/\(0:Int)<=27000000000*((0:Nat):Int)
  omega
 | k+1,hk=>by
  have h1:=Wc h k oo;have h2:=h _ (gw Tc.wx.aa (show k<ws.length from oo));have e:kP ws (k+1)=((kP ws k).1+(ws.getD k Tc.wx.aa).aq,(kP ws k).2+(ws.getD k Tc.wx.aa).aq*(ws.getD k Tc.wx.aa).x):=rfl;rw [e];generalize ws.getD k Tc.wx.aa=u at h2;have a1:=Int.mul_le_mul_of_nonneg_left (show u.x<=90000 from oo) h2.2.1;have a2:=Int.mul_le_mul_of_nonneg_left (show -90000<=u.x from oo) h2.2.1;dsimp only;omega
theorem axH{W:List Int}(h:cO S.iL=S.lk->False):(zq S bs st W).2=2:=by
 have h1:=ahu (s:=S) (bs:=bs) (l:=st) (w:=W) fun q=>h ((No S bs st W).1 q).2.2.2;unfold zq;rw [h1];rfl
theorem aiu{l:List α}{k:Nat}(d : α)(h:k<l.length):l.getD k d∈l:=by rw [aX,bc h]; exact iT h
theorem axI(D:List α)(f d : α):(D ++ [f]).getD D.length d=f:=by simp
theorem axJ(D:List α)(f g : α):(D ++ [f]).set D.length g=D ++ [g]:=by simp
theorem axK(D:List α)(f : α):(D ++ [f]).length - 1=D.length:=by simp
theorem axL(D:List α)(f : α):(((D ++ [f]).length:Nat):Int) - 1=D.length:=by simp
def axM(l:List iX)(m P:Nat):Lp where
 X:=Nat
 ov k := [(24,.int .i64 fun _=>(k:Int)),(5,.int .i64 fun _=>(df l k).rest),(4,.own P)]
 oe k := [(P,.row true .bZ 45 fun _=>(df l k).pg)]
 I k:=k<=m
 μ k _:=m - k
 x0:=0
 nx:=some fun k=>k+1
def axN(l:List iX)(m P:Nat)(W:Int):Lp where
 X:=Nat
 ov k := [(97,.int .i64 fun _=>(k:Int)),(11,.own P)]
 oe k := [(P,.row true .wx 41 fun _=>(l.take k).map (BL W))]
 I k:=k<=m
 μ k _:=m - k
 x0:=0
 nx:=some fun k=>k+1
def We:fO:=⟨17,[.sl .j5],0,fun ai es=>match ai,es with
 | [.sl false .j5 l],[]=>some ⟨fun _=>(∀ x∈l (),x.ok)/\(l ()).length<=140737488351232,.ba [.own 0,.sl true .wx fun _=>aid (l ())],[(0,.row true .bZ 45 fun _=>fD (l ()))]⟩
 | _,_=>none,false⟩
theorem axO:ij Tryz.prog We:=by
 refine Gy { kp := [(0,[0]),(1,[0]),(2,[0,4]),(3,[0,4,5]),(4,[0,4,5,22,23,24]),(5,[0,4,5,22,23,24]),(6,[0,4,5,6,7,22,23,24]),(7,[0,4,5,6,7,8,22,23,24]),(8,[0,4,5,6,7,8,9,22,23,24]),(9,[0,4,5,6,7,8,9,22,23,24]),(10,[0,4,5,6,7,8,22,23,24]),(11,[0,4,5,22,23,24]),(12,[0,4,5]),(13,[0,4]),(14,[0,4,10]),(15,[0,4,10,11]),(16,[4,10,11,95,96,97]),(17,[4,10,11,95,96,97]),(18,[4,10,11,13,95,96,97]),(19,[4,10,11,95,96,97]),(20,[4,11])],lt := [(10,⟨[0,1,2,3,4,5,6,7,8,9,10,11,12,13,14,15,16,17],[0,1,2,3,4,5,6,7,8,9,10,11,12,13,14],[15,16,17],[],[]⟩),(13,⟨[0,1,2,3,4,5,6,7,8,9,10,11,12],[0,1,2,3,4,5,6,7,8,9,10,11,12],[],[],[]⟩),(18,⟨[0,1,2,3,4,5,6,7,8,9,10,11,12,13,14,15,16,17,18],[0,1,2,3,4,5,6,7,8,9,10,11,12,13,14,15],[16,17,18],[],[]⟩)] } [] trivial [] trivial Tryz.func17 (by kernel_rfl) fun ai es res h hp => ?_;simp only [We] at h;split at h
 case h_2=>cases h
 rename_i l;cases h;obtain⟨l,rfl⟩:=eta (α:=List iX) l;have DZ:(∀ x∈l,x.ok)/\l.length<=140737488351232:=hp;have hw:=DZ.1;have hl:=DZ.2;refine bW (min l.length 7) fun m hm => ?_;refine⟨[(4,axM l m 0)],?_⟩;have vF:(bif decide ((7:Int)<(l.length:Int)) then (7:Int) else (l.length:Int))=(m:Int):=by
  by_cases h:(7:Int)<(l.length:Int)
  . rw [dP h,eG]; omega
  . exact H9
 refine fm ?_;refine⟨by rw [vF]; omega,⟨bO _,rfl,rfl,rfl⟩,fun (k:Nat) hk => ?_⟩;have cR:k<=m:=hk;clear hk;refine fm ?_;simp only [vF];refine⟨fun g => ?_,fun g => ?_⟩
 . have sd:k<m:=oo
   have gD:k<l.length:=oo
   have hx:=hw _ (aiu Tc.j5.aa gD);have hb:=NF hw k oo oo;have hlen:=Io l k oo;have hs:=NC l gD;have lO:l[k]=l.getD k Tc.j5.aa:=by simp [gD]
   rw [lO] at hs;simp only [hs];clear lO hs;generalize l.getD k Tc.j5.aa=x at hx ⊢;generalize df l k=s at hb hlen ⊢;obtain⟨D,X,R⟩:=s;have e1:(⟨D,X,R⟩:MS).pg=D ++ [⟨X,0,0,0,0⟩]:=rfl;have e2:((⟨D,X,R⟩:MS).step x).pg=D ++ [⟨X,x.ch,(⟨D,X,R⟩:MS).share x,0,0⟩] ++ [⟨(⟨D,X,R⟩:MS).zr x,0,0,0,0⟩]:=rfl;simp only [e1,e2,axI,axJ,axK,axL];have nZ:(bif decide (20*x.share<R) then 20*x.share else R)=(⟨D,X,R⟩:MS).share x:=by
    show _=min R (20*x.share)
    by_cases h:20*x.share<R
    . rw [dP h,eG]; omega
    . exact H9
   have lC:X+1+x.step.tmod (9000+(k:Int))=(⟨D,X,R⟩:MS).zr x:=by
    show _=X+1+x.step.tmod (9000+((D.length:Int) - 2))
    have h:D.length=k+2:=hlen;rw [h];congr 2;omega
   have h1:D.length=k+2:=hlen;have h2:(5000<=X/\X<=5000+(k:Int)*9100)/\0<=R/\R<=9000:=hb;have h3:=ND (a:=x.step) (b:=9000+(k:Int)) hx.1.1 oo;have h4:0<=(⟨D,X,R⟩:MS).share x/\(⟨D,X,R⟩:MS).share x<=9000:=by
    show 0<=min R (20*x.share)/\min R (20*x.share)<=9000
    have:=hx.2.2.2.2;omega
   have h5:R - (⟨D,X,R⟩:MS).share x=((⟨D,X,R⟩:MS).step x).rest:=rfl;obtain⟨x1,x2,x3,x4,x5⟩:=hx;rw [nZ];simp only [<- lC,dp,cB,ej,h5,bn,bu];rw [<- h5];clear e1 e2 nZ lC h5 hlen hb;simp only [bq]
   and_intros<;>first|rfl|omega
 . have sd:k=m:=oo
   subst sd;obtain⟨t,r,hF,hW,-,htl⟩:=aif hw;have hlen:(df l k).pg.length=k+3:=by
    have:=Io l k oo;unfold MS.pg;rw [dp,this];rfl
   have hr:=(NF hw k oo oo).2;have h1:((df l k).pg.getD (Int.toNat 1) Tc.bZ.aa).share=0:=by
    obtain⟨t2,I⟩:=V1 hw k oo oo;unfold MS.pg;rw [I.done];rfl
   have hG:((df l k).pg.set (Int.toNat 1) ⟨((df l k).pg.getD (Int.toNat 1) Tc.bZ.aa).x,((df l k).pg.getD (Int.toNat 1) Tc.bZ.aa).ch,((df l k).pg.getD (Int.toNat 1) Tc.bZ.aa).share+(df l k).rest,((df l k).pg.getD (Int.toNat 1) Tc.bZ.aa).cM,((df l k).pg.getD (Int.toNat 1) Tc.bZ.aa).cy⟩)=fD l:=by
    unfold fD;rw [hm];rfl
   simp only [hG];have hlF:(fD l).length=t.length+3:=by rw [hF]; simp
   have pS:(fD l).length - 1=t.length+2:=oo
   have hE:((fD l).getD (t.length+2) Tc.bZ.aa).x=sN l - 20000:=by rw [hF]; simp
   have h0:((fD l).getD (Int.toNat 0) Tc.bZ.aa).x = -20000:=by rw [hF]; rfl
   simp only [pS,hE,h0,h1,hlen];have Wg:(bif decide ((8:Int)<(l.length:Int)) then (8:Int) else (l.length:Int))=((min l.length 8:Nat):Int):=by
    exact aiv
   refine⟨oo,ii,oo,ii,oo,oo,ii,by rw [Wg]; omega,?_⟩;refine bW (min l.length 8) fun n hn => ?_;rw [hn] at Wg;have eW:sN l - 20000 - -20000=sN l:=oo
   simp only [Wg,eW];generalize hWW:sN l=W at *
   refine⟨axN l n 1 W,?_⟩;refine fm ?_;refine⟨⟨bO _,rfl,rfl⟩,fun (j:Nat) hj => ?_⟩;have rL:j<=n:=hj;clear hj;refine fm ?_;simp only [h0];refine⟨fun g1 => ?_,fun g1 => ?_⟩
   . have pX:j<n:=oo
     have eZ:j<l.length:=oo
     have hx:=hw _ (aiu Tc.j5.aa eZ);have hT:(l.take (j+1)).map (BL W)=(l.take j).map (BL W) ++ [BL W (l.getD j Tc.j5.aa)]:=by
      rw [xv eZ,jg];simp [eZ]
     rw [hT];generalize l.getD j Tc.j5.aa=x at hx;obtain⟨x1,x2,x3,x4,x5⟩:=hx;have h3:=ND (a:=x.at_*7) (b:=W) oo oo;have ka:((l.take j).map (BL W)).length<=8:=by rw [fk,cL]; omega
     have VZ:BL W x=⟨-20000+(x.at_*7).tmod W,x.aq⟩:=rfl;rw [VZ];simp only [bq,cB,ej];clear hG hF hE h0 h1 hT VZ
     and_intros<;>first|exact True.intro|rfl|omega
   . have pX:j=n:=oo
     unfold aid;rw [hn,pX,hWW]
def AV.Wh:AV->Option (Unit->List j4)
 | .sl false .iF l=>some l
 | _=>none
theorem AV.axP{x:AV}{n:Unit->List j4}(h:x.Wh=some n):x = .sl false .iF n:=by
 unfold AV.Wh at h;exact Fg
abbrev aiw:Kd:=⟨List j4,.sl .iF,fun n => .sl false .iF n,AV.Wh,AV.axP⟩
def AV.Wi:AV->Option (Unit->List iX)
 | .sl false .j5 l=>some l
 | _=>none
theorem AV.axQ{x:AV}{n:Unit->List iX}(h:x.Wi=some n):x = .sl false .j5 n:=by
 unfold AV.Wi at h;exact Fg
abbrev axR:Kd:=⟨List iX,.sl .j5,fun n => .sl false .j5 n,AV.Wi,AV.axQ⟩
end Go.Proofs.YtamjbkaclhgffaaGreat
