/-
  The library's stable sort, at Stowed by tiers: at most 40 of them.
-/
import Derived.Test.YtamjbkaclhgffaaGreatSi27
set_option linter.all false
set_option maxRecDepth 100000
set_option maxHeartbeats 4000000
namespace Go.Proofs.YtamjbkaclhgffaaGreat
open Go.RowKit
variable{bs:List aJ}{l:List az}{N T b base gf h i j n0 q:Nat}{α:Type}{A B C w w' w0:World}{s:bC}
def aQ(l:List az):List az:=BA jS Tc.al.aa 0 l.length l
def U9:fO:=⟨182,[.zS .al,.int .i64,.fn []],1,fun ai es=>match ai,es with
 | [.own 0,.int .i64 n,.fn f []],[(0,.row false .al T l)]=>if f=115 then some ⟨fun _=>n ()=((l ()).length:Int)/\(l ()).length<=40,.ba [],[(0,.row false .al T fun _=>aQ (l ()))]⟩ else none
 | _,_=>none,true⟩
theorem Va(l):aQ l=cK az.aH 0 l.length l:=U4 MV (bO _) (aA _)
def l0(l:List az):Nat->List az
 | 0=>l
 | q+1=>cK az.aH (20*q) (20*q+20) (l0 l q)
theorem Vb(l):∀ q,20*q<=l.length->(l0 l q).length=l.length
 | 0,_=>rfl
 | q+1,h=>by
  have:=Vb l q oo;show (cK az.aH (20*q) (20*q+20) (l0 l q)).length=_
  rw [(qd oo oo).len,this]
theorem au8(hq:20*q<=l.length/\l.length<20*q+20)(hl:l.length<=40) :
 (cK az.aH (20*q) l.length (l0 l q)).length=l.length/\(l.length<=20->cK az.aH (20*q) l.length (l0 l q)=aQ l)/\(20<l.length->(dU az.aH Tc.al.aa 0 20 (cK az.aH (20*q) l.length (l0 l q))/\dU az.aH Tc.al.aa 20 l.length (cK az.aH (20*q) l.length (l0 l q)))/\cK az.aH 0 l.length (cK az.aH (20*q) l.length (l0 l q))=aQ l):=by
 have hn:=Vb l q hq.1;have r:=qd (key:=az.aH) (l:=l0 l q) (a:=20*q) (b:=l.length) hq.1 oo;have st:=xm (key:=az.aH) (d:=Tc.al.aa) (l:=l0 l q) (a:=20*q) (b:=l.length) hq.1 oo;refine⟨by rw [r.len,hn],fun h => ?_,fun h => ?_⟩
 . rw [Va];have:q=0\/(q=1/\l.length=20):=oo
   rcases this with h0|⟨h0,h1⟩
   . subst h0; rfl
   . subst h0;rw [h1];show cK az.aH 20 20 (cK az.aH 0 20 l)=_
     refine Hz (d:=Tc.al.aa) (aA _) (by rw [(qd oo oo).len]; omega) fun i k h1 h2 h3=>oo
 . have r1:Ren az.aH 0 20 l (cK az.aH 0 20 l):=qd oo oo;have s1:dU az.aH Tc.al.aa 0 20 (cK az.aH 0 20 l):=xm oo oo;have:q=1\/(q=2/\l.length=40):=oo
   have hB:Ren az.aH 0 l.length l (cK az.aH (20*q) l.length (l0 l q))/\dU az.aH Tc.al.aa 0 20 (cK az.aH (20*q) l.length (l0 l q))/\dU az.aH Tc.al.aa 20 l.length (cK az.aH (20*q) l.length (l0 l q)):=by
    rcases this with h0|⟨h0,h1⟩
    . subst h0;exact⟨(r1.wide (aA _) oo).trans (r.wide oo (aA _)),s1.out r (.inl oo),st⟩
    . subst h0;have r2:Ren az.aH 20 40 (cK az.aH 0 20 l) (l0 l 2):=qd oo (by show _<=(cK az.aH 0 20 l).length; rw [r1.len]; omega);have s2:dU az.aH Tc.al.aa 20 40 (l0 l 2):=xm oo (by show _<=(cK az.aH 0 20 l).length; rw [r1.len]; omega);refine⟨((r1.wide (aA _) oo).trans (r2.wide oo oo)).trans (r.wide oo (aA _)),(s1.out r2 (.inl (aA _))).out r (.inl oo),?_⟩;rw [h1] at r ⊢;exact s2.out r (.inl (aA _))
   refine⟨hB.2,?_⟩;rw [Va];exact DT (d:=Tc.al.aa) (bO _) (aA _) (hB.1.trans (qd (bO _) (by rw [hB.1.len]; exact aA _))) (xm (bO _) (by rw [hB.1.len]; exact aA _))
def au9(T:Nat)(l:List az):Lp where
 X:=Nat
 ov q := [(7,.int .i64 fun _=>((20*q:Nat):Int)),(8,.int .i64 fun _=>((20*q+20:Nat):Int)),(0,.own 0)]
 oe q := [(0,.row false .al T fun _=>l0 l q)]
 I q:=20*q<=l.length
 μ q _:=l.length - 20*q
 x0:=0
 nx:=some fun q=>q+1
def ava(T:Nat)(B S:List az):Lp where
 X:=Nat
 ov t := [(6,.int .i64 fun _=>((20*(t+1):Nat):Int)),(0,.own 0)]
 oe t := [(0,.row false .al T fun _=>cond (decide (t=0)) B S)]
 I t:=t=0\/(t=1/\20<B.length)
 μ t _:=1 - t
 x0:=0
 nx:=none
def avb(T:Nat)(B S:List az):Lp where
 X:=Nat
 ov u := [(7,.int .i64 fun _=>((40*u:Nat):Int)),(8,.int .i64 fun _=>((40*u+40:Nat):Int)),(0,.own 0)]
 oe u := [(0,.row false .al T fun _=>cond (decide (u=0)) B S)]
 I u:=u=0\/(u=1/\B.length=40)
 μ u _:=1 - u
 x0:=0
 nx:=none
theorem avc:ij Tryz.prog U9:=by
 refine Gy { kp := [(0,[0,1,2]),(1,[0,1,2,6]),(2,[0,1,2,6,7,8]),(3,[0,1,2,6,7,8]),(4,[0,1,2,6,8]),(5,[0,1,2,6,7,8]),(6,[0,1,2,6,7]),(7,[0,1,2,6]),(8,[0,1,2,6]),(9,[0,1,2,6,7,8]),(10,[0,1,2,6,7,8]),(11,[0,1,2,6,8]),(12,[0,1,2,6,7,8]),(13,[0,1,2,6,7]),(14,[0,1,2,6,7,9]),(15,[0,1,2,6,7,9]),(16,[0,1,2,6])] } [] trivial [UT,HH 40] ⟨auL,aga 40,trivial⟩ Tryz.func182 (by kernel_rfl) fun ai es res h hp => ?_;simp only [U9] at h;split at h
 case h_2=>cases h
 split at h
 case isFalse=>cases h
 rename_i n f T l hf;subst hf;cases h;obtain⟨l,rfl⟩:=eta (α:=List az) l;obtain⟨n,rfl⟩:=eta (α:=Int) n;have eM:n=(l.length:Int)/\l.length<=40:=hp;have h1:=eM.1;have h2:=eM.2;subst h1;refine⟨[(2,au9 T l)],?_⟩
 conv=>arg 1; cbv
 refine⟨?_,fun (q:Nat) hq => ?_⟩
 . simp (maxSteps:=4000000) only [aK];exact⟨bO _,rfl,rfl,rfl⟩
 have uZ:20*q<=l.length:=hq;clear hq
 conv=>arg 1; cbv
 simp (maxSteps:=4000000) only [aK];have hlb:=Vb l q uZ;refine⟨fun g => ?_,fun g => ?_⟩
 . exact⟨⟨oo,oo,oo,oo⟩,ii,⟨oo,oo⟩,oo,oo,U4 MV oo oo⟩
 obtain⟨OM,hB1,Ll⟩:=au8 (l:=l) (q:=q) ⟨uZ,oo⟩ h2;have avd:BA jS Tc.al.aa (20*q) l.length (l0 l q)=cK az.aH (20*q) l.length (l0 l q):=U4 MV uZ oo;simp only [avd];generalize cK az.aH (20*q) l.length (l0 l q)=B at *
 refine bW (aQ l) fun S hS => ?_;rw [hS] at hB1 Ll;have hSl:S.length=l.length:=by rw [<- hS,Va]; exact (qd (bO _) (aA _)).len
 refine⟨⟨oo,oo,oo,oo⟩,ava T B S,?_⟩
 conv=>arg 1; cbv
 refine⟨?_,fun (t:Nat) ht => ?_⟩
 . exact vn
 have Vc:t=0\/(t=1/\20<B.length):=ht;clear ht
 conv=>arg 1; cbv
 simp (maxSteps:=4000000) only [aK];refine⟨fun g1 => ?_,fun g1 => ?_⟩
 . have Tn:t=0:=oo
   subst Tn;have ave:20<l.length:=oo
   obtain⟨⟨ji,uI⟩,HU⟩:=Ll ave;refine⟨ii,avb T B S,?_⟩
   conv=>arg 1; cbv
   refine⟨?_,fun (u:Nat) hu => ?_⟩
   . exact vn
   have uq:u=0\/(u=1/\B.length=40):=hu;clear hu;rcases uq with hu|⟨hu,Xk⟩
   . subst hu
     conv=>arg 1; cbv
     simp (maxSteps:=4000000) only [aK];have e20:(((40*0:Nat):Int)+((20*(0+1):Nat):Int)).toNat=20:=rfl;rw [e20];refine⟨fun g2=>⟨ii,⟨⟨oo,oo,oo⟩,⟨by show _<=(B.length:Int); omega,oo⟩,by show B.length<=_; omega,ji,?_⟩,ii,ii,⟨1,⟨⟨.inr ⟨rfl,oo⟩,oo⟩,?_⟩⟩⟩,fun g2=>⟨ii,fun g3=>⟨⟨⟨oo,oo,oo⟩,⟨by show _<=(B.length:Int); omega,oo⟩,by show B.length<=_; omega,ji,?_⟩,ii,⟨1,⟨⟨.inr ⟨rfl,oo⟩,oo⟩,?_⟩⟩⟩,fun g3=>oo⟩⟩
     . rw [show l.length=40 from oo] at uI;exact uI
     . conv=>arg 1; cbv
       simp (maxSteps:=4000000) only [aK];have h40:l.length=40:=oo
       rw [h40] at HU;exact⟨trivial,oo,HU⟩
     . exact uI
     . conv=>arg 1; cbv
       simp (maxSteps:=4000000) only [aK];exact⟨oo,HU⟩
   . subst hu
     conv=>arg 1; cbv
     simp (maxSteps:=4000000) only [aK];refine⟨fun g2=>oo,fun g2=>⟨ii,fun g3=>oo,fun g3=>⟨ii,⟨1,⟨⟨.inr ⟨rfl,oo⟩,oo⟩,?_⟩⟩⟩⟩⟩
     exact no_implicit_lambda% MD
 . rw [hS];rcases Vc with h0|⟨h0,h3⟩
   . rw [h0];exact hB1 oo
   . rw [h0];rfl
def Vd:fO:=⟨114,[.zS .al,.fn []],1,fun ai es=>match ai,es with
 | [.own 0,.fn f []],[(0,.row false .al T l)]=>if f=115 then some ⟨fun _=>(l ()).length<=40,.ba [],[(0,.row false .al T fun _=>aQ (l ()))]⟩ else none
 | _,_=>none,true⟩
theorem avh:ij Tryz.prog Vd:=by
 refine Gz [] trivial [U9] ⟨avc,trivial⟩ Tryz.func114 (by kernel_rfl) fun ai es res h hp => ?_;simp only [Vd] at h;split at h
 case h_2=>cases h
 split at h
 case isFalse=>cases h
 rename_i f T l hf;subst hf;cases h;obtain⟨l,rfl⟩:=eta (α:=List az) l;have cQ:l.length<=40:=hp;refine⟨[],?_⟩
 conv=>arg 1; cbv
 simp (maxSteps:=4000000) only [aK];exact⟨⟨trivial,cQ⟩,trivial⟩
/- avi changes zR order only -/
theorem avj(d)(l:List α)(j)(h:j+1<l.length):(swapAt d l j).Perm l:=by
 unfold swapAt;have e1:l.getD j d=l[j]:=by rw [aX,bc oo,ia]
 have e2:l.getD (j+1) d=l[j+1]:=by rw [aX,bc h,ia]
 rw [e1,e2];have:l=l.take j++l[j]::l[j+1]::l.drop (j+2):=by
  rw [Wz,Wz,jB]
 have h3:(l.set (j+1) l[j]).set j l[j+1]=l.take j++l[j+1]::l[j]::l.drop (j+2):=by
  exact afZ
 rw [h3]
 conv=>rhs; rw [this]
 exact List.Perm.append_left _ (List.Perm.swap _ _ _)
theorem agj{α:Type}(lt)(d)(a):∀ (j) (l:List α),j<l.length->(kN lt d a j l).Perm l
 | 0,l,_=>ajx _
 | j+1,l,h=>by
  unfold kN
  cases decide (a<j+1)&&lt (l.getD (j+1) d) (l.getD j d) with
  | true =>
   rw [eG];exact (agj lt d a j _ (by rw [zh]; omega)).trans (avj d l j h)
  | false=>exact ajx _
theorem agk{α:Type}(lt)(d)(a)(l:List α):∀ n,a+1+n<=l.length\/n=0->(og lt d a l n).Perm l
 | 0,_=>ajx _
 | n+1,h=>by
  unfold og;exact (agj lt d a _ _ (by rw [MU]; omega)).trans (agk lt d a l n oo)
theorem ua(l):(aQ l).Perm l:=agk _ _ _ _ _ oo
def oh(h:Int):List Int:=cond (decide (h=1)) [1] (cond (decide (h=2)) [2] [1,2])
def iQ(c h:Int):List Kx := [.i .i64 c,.i .i64 h]
def qZ(t c:Int)(m:List Kx->Option Int)(hs:List Int):List Kx->Option Int:=hs.foldl (fun m h=>eB m (iQ c h) ((m (iQ c h)).getD 0+t)) m
def sC(bs:List aJ)(m:List Kx->Option Int)(x:az):List Kx->Option Int:=qZ (iB (bK bs x.box).1) x.au m (oh x.half)
def je(bs:List aJ)(l:List az):List Kx->Option Int:=l.foldl (sC bs) fun _=>none
def jT(c:dv)(h:Int):Int:=cond (decide (h=1)) (c.x+3050) (cond (decide (h=2)) (c.x - 3050) c.x)
def zl(cs:List dv)(bs:List aJ)(m:List Kx->Option Int)(x:az):pz :=
 ⟨(bK bs x.box).1,jT (cs.getD x.au.toNat Tc.au.aa) x.half,(cs.getD x.au.toNat Tc.au.aa).y,2*((cs.getD x.au.toNat Tc.au.aa).z+(m (iQ x.au ((oh x.half).headD 0))).getD 0)+iB (bK bs x.box).1⟩
def vz(cs:List dv)(bs:List aJ)(l:List az)(k:Nat):List pz:=(List.range k).map fun j=>zl cs bs (je bs (l.take j)) (l.getD j Tc.al.aa)
def sD(cs:List dv)(bs:List aJ)(l:List az):List pz:=vz cs bs l l.length
theorem Ve(cs)(bs)(l)(k):vz cs bs l (k+1)=vz cs bs l k ++ [zl cs bs (je bs (l.take k)) (l.getD k Tc.al.aa)]:=by
 unfold vz;rw [um,jg];rfl
theorem Vf(cs)(bs)(l)(k):(vz cs bs l k).length=k:=by unfold vz; simp
theorem Vg{k:Nat}(h:k<l.length):je bs (l.take (k+1))=sC bs (je bs (l.take k)) (l.getD k Tc.al.aa):=by
 unfold je;rw [qa Tc.al.aa h,N0];rfl
theorem HV{t c B:Int}(ht:0<=t/\t<=2896):∀ (hs) (m),(∀ k,0<=(m k).getD 0/\(m k).getD 0<=B)->∀ k,0<=(qZ t c m hs k).getD 0/\(qZ t c m hs k).getD 0<=B+2896*hs.length
 | [],m,h,k=>by have:=h k; simpa [qZ] using this
 | x::hs,m,h,k=>by
  have h2:∀ k,0<=((eB m (iQ c x) ((m (iQ c x)).getD 0+t)) k).getD 0/\((eB m (iQ c x) ((m (iQ c x)).getD 0+t)) k).getD 0<=B+2896:=fun k=>by
   have h3:=h k;have h4:=h (iQ c x);unfold eB;split
   . simp only [ia]; omega
   . omega
  have h5:=HV (c:=c) (B:=B+2896) ht hs _ h2 k;have e:qZ t c m (x::hs)=qZ t c (eB m (iQ c x) ((m (iQ c x)).getD 0+t)) hs:=rfl;rw [e];simp only [cB];omega
theorem avk(h):(oh h).length<=2/\1<=(oh h).length:=by
 unfold oh;cases decide (h=1)<;>cases decide (h=2)<;>simp
theorem agl(bs)(l)(k):0<=(je bs l k).getD 0/\(je bs l k).getD 0<=5792*l.length:=by
 have:∀ (l:List az) (m:List Kx->Option Int) (B:Int),(∀ k,0<=(m k).getD 0/\(m k).getD 0<=B)->∀ k,0<=(l.foldl (sC bs) m k).getD 0/\(l.foldl (sC bs) m k).getD 0<=B+5792*(l.length:Int):=by
  intro l
  induction l with
  | nil=>intro m B h k; simpa using h k
  | cons x l ih =>
   intro m B h k;have h1:=HV (c:=x.au) (tR (bK bs x.box).1) (oh x.half) m h;have h2:=avk x.half;have h3:=ih (sC bs m x) (B+5792) (fun k=>by
    have:=h1 k;unfold sC
    omega) k
   simp only [Ep,cB];omega
 have:=this l (fun _=>none) 0 (fun k=>by simp) k;unfold je;omega
theorem Vh{x:az}(h:dO s bs l=true)(hx:x∈l):0<=x.au/\x.au<s.aD.length:=by
 obtain⟨k,hk,rfl⟩:=xy hx;unfold dO at h;simp only [ax,aL] at h;have h1:=h.2.1 k hk;unfold mI sk at h1;have e:l.getD k Tc.al.aa=l[k]:=by rw [aX,bc hk,ia]
 rw [e] at h1;simp only [ax,aL] at h1;exact⟨h1.2.1.1.1,h1.2.1.1.2.1⟩
theorem avl(h:im s=true){k:Nat}(hk:k<s.aD.length):(-500000<=(s.aD.getD k Tc.au.aa).x/\(s.aD.getD k Tc.au.aa).x<=500000)/\(-500000<=(s.aD.getD k Tc.au.aa).y/\(s.aD.getD k Tc.au.aa).y<=500000) /\ -500000<=(s.aD.getD k Tc.au.aa).z/\(s.aD.getD k Tc.au.aa).z<=500000:=by
 unfold im at h;simp only [ax] at h;have h6:=dL.1 h.2.1 _ (gw Tc.au.aa hk);generalize s.aD.getD k Tc.au.aa=c at *
 unfold jR at h6;simp only [ax] at h6;have hx:=dL.1 h6.2 ⟨c.x,-500000,500000⟩ (by simp [sy]);have hy:=dL.1 h6.2 ⟨c.y,-500000,500000⟩ (by simp [sy]);have hz:=dL.1 h6.2 ⟨c.z,-500000,500000⟩ (by simp [sy]);unfold ny at hx hy hz;simp only [ax,aL] at hx hy hz;exact⟨hx,hy,hz⟩
def hZ(s:bC)(bs:List aJ)(l:List az):Bool:=decide ((jP bs).2=0)&&dO s bs l
def vA(bs:List aJ):Prop:=bs.length<=1000000000000/\∀ b∈bs,b.num.size<=140737488351232
def agm:aN:=qR 53 tF r7 y0 (fun s bs l=>od (s ())/\vA (bs ())/\(l ()).length<=40) (fun s bs l => .ba [.sl true .mid fun _=>cond (hZ (s ()) (bs ()) (l ())) (sD (s ()).aD (bs ()) (aQ (l ()))) [],.bool fun _=>hZ (s ()) (bs ()) (l ())])
def avm(cs:List dv)(bs:List aJ)(L:Unit->List az):Lp where
 X:=Nat
 ov k := [(42,.int .i64 fun _=>(k:Int)),(11,.own 3)]
 oe k := [(2,.map true false (.arr 2 (.int .i64)) .int 216 fun _=>je bs ((L ()).take k)),(3,.row true .mid 148 fun _=>vz cs bs (L ()) k)]
 I k:=k<=(L ()).length
 μ k _:=(L ()).length - k
 x0:=0
 nx:=some fun k=>k+1
def Vi(t c:Unit->Int)(m:Unit->List Kx->Option Int)(hs:Unit->List Int):Lp where
 X:=Nat
 ov j := [(106,.int .i64 fun _=>(j:Int))]
 oe j := [(2,.map true false (.arr 2 (.int .i64)) .int 216 fun _=>qZ (t ()) (c ()) (m ()) ((hs ()).take j))]
 I j:=j<=(hs ()).length
 μ j _:=(hs ()).length - j
 x0:=0
 nx:=some fun j=>j+1
theorem H4(b):(⟨b.id,b.num,b.size,b.high,b.aq,b.load,b.km,b.cls,b.vZ⟩:aJ)=b:=rfl
theorem Vj{t c:Int}{m:List Kx->Option Int}{hs:List Int}(h:j<hs.length):eB (qZ t c m (hs.take j)) [Kx.i .i64 c,Kx.i .i64 (hs.getD j Tc.u8.aa)] ((qZ t c m (hs.take j) [Kx.i .i64 c,Kx.i .i64 (hs.getD j Tc.u8.aa)]).getD Tc.int.aa+t)=qZ t c m (hs.take (j+1)):=by
 unfold qZ;rw [qa (Tc.u8.aa) h,N0];rfl
theorem all_true{A B C D E:Prop}(hA:A)(hB:B)(hC:C)(hD:D)(hE:E):A=True/\B=True/\C=True/\D=True/\E=True:=⟨eq_true hA,eq_true hB,eq_true hC,eq_true hD,eq_true hE⟩
theorem avn:aU Tryz.prog agm:=by
 refine apa [] [(8,[1,2,3,10,11]),(22,[1,3,10,11,13,14,17,18,40,41,42]),(27,[10,11,17,42])] [(21,bQ [0,1,2,3,4,5,6,7,8,9,10,11,12,13,14,15,16,17,18] .nil),(25,bQ [0,1,2,4,5] (.alt (.op 3 (.alt (.op 6 (.alt (bQ [7,8,9,10,11,12,13] .nil) (.op 8 (.alt (bQ [7,9,10,11,12,13] .nil) (.op 9 (.alt (bQ [7,10,11,12,13] .nil) (bQ [11,12,7,10,13] .nil))))))) (.op 8 (.alt (.op 6 (.alt (bQ [7,9,10,11,12,13] .nil) (.op 9 (.alt (bQ [7,10,11,12,13] .nil) (bQ [11,12,7,10,13] .nil))))) (bQ [9,6] (.alt (bQ [7,10,11,12,13] .nil) (bQ [11,12,7,10,13] .nil))))))) (.op 8 (.alt (.op 3 (.alt (.op 6 (.alt (bQ [7,9,10,11,12,13] .nil) (.op 9 (.alt (bQ [7,10,11,12,13] .nil) (bQ [11,12,7,10,13] .nil))))) (bQ [9,6] (.alt (bQ [7,10,11,12,13] .nil) (bQ [11,12,7,10,13] .nil))))) (bQ [9,3,6] (.alt (bQ [7,10,11,12,13] .nil) (bQ [11,12,7,10,13] .nil)))))))] [afn,UN,ad0,ad3] ⟨aub,afI,asH,asJ,trivial⟩ [UQ,Vd] ⟨auG,avh,trivial⟩ Tryz.func53 (by kernel_rfl) fun ai res h hp => ?_;obtain⟨(s:bC),(bs:List aJ),(l:List az),rfl,rfl⟩:=tE h;clear h;have cQ:od s/\vA bs/\l.length<=40:=hp;have h1:=cQ.1;have h2:=cQ.2.1;have h3:=cQ.2.2;have Jr:(aQ l).length=l.length:=(ua l).length_eq;clear hp cQ;refine⟨[(9,avm s.aD bs fun _=>aQ l)],?_⟩
 conv=>arg 1; cbv
 refine⟨h2,fun g1 => ?_,fun g1=>⟨⟨h1,h2.1,dQ h3 (by decide)⟩,fun g2 => ?_,fun g2=>⟨dQ h3 (by decide),h3,?_,fun (k:Nat) hk => ?_⟩⟩⟩
 . have tZ:(!decide ((jP bs).2=0))=true:=g1;have hc:hZ s bs l=false:=by
    unfold hZ;simp only [jf] at tZ;rw [tZ];rfl
   simp (maxSteps:=4000000) only [aK];rw [hc];exact⟨rfl,rfl⟩
 . have o9:(!dO s bs l)=true:=g2;have hc:hZ s bs l=false:=by
    unfold hZ;simp only [jf] at o9;rw [o9,zC]
   simp (maxSteps:=4000000) only [aK];rw [hc];exact⟨rfl,rfl⟩
 . simp (maxSteps:=4000000) only [aK];exact⟨bO _,rfl,rfl,rfl⟩
 have tZ:(!decide ((jP bs).2=0))=false:=g1;have o9:(!dO s bs l)=false:=g2;simp only [ke] at tZ o9;have hc:hZ s bs l=true:=by
  unfold hZ;rw [tZ,o9];rfl
 have e9:k<=(aQ l).length:=hk;have By:im s=true:=by
  unfold dO at o9;simp only [ax] at o9;exact o9.1
 clear hk g1 g2
 conv=>arg 1; cbv
 refine⟨fun g3 => ?_,fun g3 => ?_⟩
 . have ah:k<(aQ l).length:=by
    have sB:decide ((k:Int)<((aQ l).length:Int))=true:=g3;simp only [aL] at sB;omega
   have agn:=Vh o9 ((ua l).mem_iff.1 (gw Tc.al.aa ah));have M3:=avl By (k:=((aQ l).getD k Tc.al.aa).au.toNat) oo;have y5:=agl bs ((aQ l).take k);have sf:((aQ l).take k).length<=40:=by rw [cL]; omega
   refine⟨⟨Wy k,rv g3⟩,h2.1,agn,fun g4 => ?_,fun g4=>⟨fun g5 => ?_,fun g5 => ?_⟩⟩
   . have gh:((aQ l).getD k Tc.al.aa).half=1:=rv g4;refine⟨⟨by simp only [gX,fE]; omega,by simp only [gX,fE]; omega⟩,?_⟩;have er:(Tc.int.aa:Int)=0:=rfl;have h9:=y5 [Kx.i .i64 ((aQ l).getD k Tc.al.aa).au,Kx.i .i64 (([((aQ l).getD k Tc.al.aa).half]).getD (Int.toNat 0) Tc.u8.aa)];have ht:=tR (bK bs ((aQ l).getD k Tc.al.aa).box).1;refine⟨⟨rD 0,by simp⟩,(show bq (([((aQ l).getD k Tc.al.aa).half]).getD (Int.toNat 0) Tc.u8.aa) from by rw [show [((aQ l).getD k Tc.al.aa).half].getD (Int.toNat 0) Tc.u8.aa=((aQ l).getD k Tc.al.aa).half from rfl,gh]; exact⟨oo,oo⟩),?_,?_,trivial,?_,?_⟩
     . exact DV
     . exact DV
     . exact Vk
     refine⟨Vi (fun _=>iB (bK bs ((aQ l).getD k Tc.al.aa).box).1) (fun _=>((aQ l).getD k Tc.al.aa).au) (fun _=>je bs ((aQ l).take k)) (fun _ => [((aQ l).getD k Tc.al.aa).half]),?_⟩
     conv=>arg 1; cbv
     refine⟨?_,fun (j:Nat) hj => ?_⟩
     . exact xf
     have gE:j<=([((aQ l).getD k Tc.al.aa).half]).length:=hj
     conv=>arg 1; cbv
     simp (maxSteps:=4000000) only [aK];clear g3 g4 hj h9;have c8:=fun key=>HV (c:=((aQ l).getD k Tc.al.aa).au) (tR (bK bs ((aQ l).getD k Tc.al.aa).box).1) (([((aQ l).getD k Tc.al.aa).half]).take j) (je bs ((aQ l).take k)) y5 key;have Vl:=fun h=>Vj (t:=iB (bK bs ((aQ l).getD k Tc.al.aa).box).1) (c:=((aQ l).getD k Tc.al.aa).au) (m:=je bs ((aQ l).take k)) (hs := [((aQ l).getD k Tc.al.aa).half]) (j:=j) h;have DW:=Ve s.aD bs (aQ l) k;have DX:=Vg (bs:=bs) ah;unfold zl at DW;unfold sC at DX;simp only [H4];generalize hX:(aQ l).getD k Tc.al.aa=x at *
     generalize hM:je bs ((aQ l).take k)=M0 at *
     generalize (bK bs x.box).1=b at *
     simp only [Hq,Hr,ia];refine⟨fun g6 => ?_,fun g6 => ?_⟩
     . exact ago
     . have hT:([x.half]).take j = [x.half]:=jC oo;have xi:oh x.half = [x.half]:=by
        unfold oh;simp [gh]
       have Vm:jT (s.aD.getD x.au.toNat Tc.au.aa) x.half=(s.aD.getD x.au.toNat Tc.au.aa).x+3050:=by
        unfold jT;simp [gh]
       exact Vn
   . have gh:((aQ l).getD k Tc.al.aa).half=2:=rv g5;refine⟨⟨by simp only [gX,fE]; omega,by simp only [gX,fE]; omega⟩,?_⟩;clear g4;have g4:=g5;clear g5;have er:(Tc.int.aa:Int)=0:=rfl;have h9:=y5 [Kx.i .i64 ((aQ l).getD k Tc.al.aa).au,Kx.i .i64 (([((aQ l).getD k Tc.al.aa).half]).getD (Int.toNat 0) Tc.u8.aa)];have ht:=tR (bK bs ((aQ l).getD k Tc.al.aa).box).1;refine⟨⟨rD 0,by simp⟩,(show bq (([((aQ l).getD k Tc.al.aa).half]).getD (Int.toNat 0) Tc.u8.aa) from by rw [show [((aQ l).getD k Tc.al.aa).half].getD (Int.toNat 0) Tc.u8.aa=((aQ l).getD k Tc.al.aa).half from rfl,gh]; exact⟨oo,oo⟩),?_,?_,trivial,?_,?_⟩
     . exact DV
     . exact DV
     . exact Vk
     refine⟨Vi (fun _=>iB (bK bs ((aQ l).getD k Tc.al.aa).box).1) (fun _=>((aQ l).getD k Tc.al.aa).au) (fun _=>je bs ((aQ l).take k)) (fun _ => [((aQ l).getD k Tc.al.aa).half]),?_⟩
     conv=>arg 1; cbv
     refine⟨?_,fun (j:Nat) hj => ?_⟩
     . exact xf
     have gE:j<=([((aQ l).getD k Tc.al.aa).half]).length:=hj
     conv=>arg 1; cbv
     simp (maxSteps:=4000000) only [aK];clear g3 g4 hj h9;have c8:=fun key=>HV (c:=((aQ l).getD k Tc.al.aa).au) (tR (bK bs ((aQ l).getD k Tc.al.aa).box).1) (([((aQ l).getD k Tc.al.aa).half]).take j) (je bs ((aQ l).take k)) y5 key;have Vl:=fun h=>Vj (t:=iB (bK bs ((aQ l).getD k Tc.al.aa).box).1) (c:=((aQ l).getD k Tc.al.aa).au) (m:=je bs ((aQ l).take k)) (hs := [((aQ l).getD k Tc.al.aa).half]) (j:=j) h;have DW:=Ve s.aD bs (aQ l) k;have DX:=Vg (bs:=bs) ah;unfold zl at DW;unfold sC at DX;simp only [H4];generalize hX:(aQ l).getD k Tc.al.aa=x at *
     generalize hM:je bs ((aQ l).take k)=M0 at *
     generalize (bK bs x.box).1=b at *
     simp only [Hq,Hr,ia];refine⟨fun g6 => ?_,fun g6 => ?_⟩
     . exact ago
     . have hT:([x.half]).take j = [x.half]:=jC oo;have xi:oh x.half = [x.half]:=by
        unfold oh;simp [gh]
       have Vm:jT (s.aD.getD x.au.toNat Tc.au.aa) x.half=(s.aD.getD x.au.toNat Tc.au.aa).x - 3050:=by
        unfold jT;simp [gh]
       exact Vn
   . have gh:¬ ((aQ l).getD k Tc.al.aa).half=1/\¬ ((aQ l).getD k Tc.al.aa).half=2:=⟨IH g4,IH g5⟩
     clear g4;have g4:=g5;clear g5;have er:(Tc.int.aa:Int)=0:=rfl;have h9:=y5 [Kx.i .i64 ((aQ l).getD k Tc.al.aa).au,Kx.i .i64 (([(1:Int),2]).getD (Int.toNat 0) Tc.u8.aa)];have ht:=tR (bK bs ((aQ l).getD k Tc.al.aa).box).1;refine⟨⟨rD 0,by simp⟩,(show bq (([(1:Int),2]).getD (Int.toNat 0) Tc.u8.aa) from ⟨by decide,by decide⟩),?_,?_,trivial,?_,?_⟩
     . exact DV
     . exact DV
     . exact Vk
     refine⟨Vi (fun _=>iB (bK bs ((aQ l).getD k Tc.al.aa).box).1) (fun _=>((aQ l).getD k Tc.al.aa).au) (fun _=>je bs ((aQ l).take k)) (fun _ => [(1:Int),2]),?_⟩
     conv=>arg 1; cbv
     refine⟨?_,fun (j:Nat) hj => ?_⟩
     . exact xf
     have gE:j<=([(1:Int),2]).length:=hj
     conv=>arg 1; cbv
     simp (maxSteps:=4000000) only [aK];clear g3 g4 hj h9;have c8:=fun key=>HV (c:=((aQ l).getD k Tc.al.aa).au) (tR (bK bs ((aQ l).getD k Tc.al.aa).box).1) (([(1:Int),2]).take j) (je bs ((aQ l).take k)) y5 key;have Vl:=fun h=>Vj (t:=iB (bK bs ((aQ l).getD k Tc.al.aa).box).1) (c:=((aQ l).getD k Tc.al.aa).au) (m:=je bs ((aQ l).take k)) (hs := [(1:Int),2]) (j:=j) h;have DW:=Ve s.aD bs (aQ l) k;have DX:=Vg (bs:=bs) ah;unfold zl at DW;unfold sC at DX;simp only [H4];generalize hX:(aQ l).getD k Tc.al.aa=x at *
     generalize hM:je bs ((aQ l).take k)=M0 at *
     generalize (bK bs x.box).1=b at *
     simp only [Hq,Hr,ia];refine⟨fun g6 => ?_,fun g6 => ?_⟩
     . have nK:∀ y ∈ [(1:Int),2],1<=y/\y<=2:=by simp [gh]
       have HU:([(1:Int),2]).length<=2:=by simp
       generalize [(1:Int),2]=hs at *
       exact s_4
     . have hT:([(1:Int),2]).take j = [(1:Int),2]:=jC oo;have xi:oh x.half = [(1:Int),2]:=by
        unfold oh;simp [gh]
       have Vm:jT (s.aD.getD x.au.toNat Tc.au.aa) x.half=(s.aD.getD x.au.toNat Tc.au.aa).x:=by
        unfold jT;simp [gh]
       exact Vn
 . have cH:(aQ l).length<=k:=by
    have sB:decide ((k:Int)<((aQ l).length:Int))=false:=g3;simp only [fQ] at sB;omega
   have jJ:k=(aQ l).length:=oo
   simp (maxSteps:=4000000) only [aK];rw [hc,jJ];exact⟨rfl,rfl⟩
def vB(cX row:Int)(fl:Bool)(c:dv):Bool:=decide (c.cX=cX)&&(decide (c.row=row)&&decide (c.fl=fl))
def aAz(f:FuncId):AV->Option (Unit->Int×Int×Bool)
 | .fn g [.bh [.int .i64 a] 0,.bh [.int .i64 b] 0,.bh [.bool c] 0]=>if g=f then some fun _=>(a (),b (),c ()) else none
 | _=>none
def agq:aN:=u5 169 SM GG GG kPB (fun _ _ _ _=>True) (fun c a b d => .bool fun _=>vB (a ()) (b ()) (d ()) (c ()))
theorem avo:aU Tryz.prog agq:=by
 refine cD [] trivial Tryz.func169 (by kernel_rfl) fun ai res h hp => ?_;obtain⟨(c:dv),(a:Int),(b:Int),(d:Bool),rfl,rfl⟩:=yY h;clear h;refine⟨[],?_⟩
 conv=>arg 1; cbv
 simp (maxSteps:=4000000) only [aK];unfold vB;grind
def vC(p : α->Bool)(d : α)(l:List α)(k:Nat):List Int:=((List.range k).filter fun j=>p (l.getD j d)).map fun (j:Nat)=>j
theorem avp(p)(d)(l:List α)(k):vC p d l (k+1)=vC p d l k++cond (p (l.getD k d)) [(k:Int)] []:=by
 unfold vC;rw [um,BZ,jg];congr 1;cases h:p (l.getD k d)<;>simp [h,-List.getD_eq_getElem?_getD]
theorem avq(p)(d)(l:List α)(k):(vC p d l k).length<=k:=by
 unfold vC;rw [fk];exact dQ (List.length_filter_le _ _) (by simp)
def Vo:aN:=⟨168,[.sl .au,.fn [.bh [.int .i64],.bh [.int .i64],.bh [.bool]]],fun
 | [x0,.fn g [.bh [.int .i64 a] 0,.bh [.int .i64 b] 0,.bh [.bool d] 0]]=>(x0.LK).bind fun l=>if g=169 then some ⟨fun _=>(l ()).length<=1000000,.sl true .int fun _=>vC (vB (a ()) (b ()) (d ())) Tc.au.aa (l ()) (l ()).length⟩ else none
 | _=>none⟩
def avr(l:List dv)(p:dv->Bool):Lp where
 X:=Nat
 ov k := [(10,.int .i64 fun _=>(k:Int)),(5,.own 0)]
 oe k := [(0,.row true .int 3 fun _=>vC p Tc.au.aa l k)]
 I k:=k<=l.length
 μ k _:=l.length - k
 x0:=0
 nx:=some fun k=>k+1
theorem avt:aU Tryz.prog Vo:=by
 refine cD [agq] ⟨avo,trivial⟩ Tryz.func168 (by kernel_rfl) fun ai res h hp => ?_;simp only [Vo] at h;split at h
 case h_2=>cases h
 rename_i x0 g a b d;simp only [mQ] at h;obtain⟨l,e0,h⟩:=h;split at h
 case isFalse=>cases h
 rename_i hg;subst hg;cases h;obtain rfl:=AV.acf e0;clear e0;obtain⟨l,rfl⟩:=eta (α:=List dv) l;obtain⟨a,rfl⟩:=eta (α:=Int) a;obtain⟨b,rfl⟩:=eta (α:=Int) b;obtain⟨d,rfl⟩:=eta (α:=Bool) d;have hl:l.length<=1000000:=hp;refine bW (vB a b d) fun p hpp => ?_;refine⟨[(3,avr l p)],?_⟩
 conv=>arg 1; cbv
 refine⟨?_,fun (k:Nat) hk => ?_⟩
 . exact xf
 have e9:k<=l.length:=hk
 conv=>arg 1; cbv
 simp (maxSteps:=4000000) only [aK];simp only [hpp,afw];have hlen:=avq p Tc.au.aa l k;have re:=avp p Tc.au.aa l k;refine⟨fun g1 => ?_,fun g1 => ?_⟩
 . have ah:k<l.length:=oo
   refine⟨oo,trivial,fun h => ?_,fun h => ?_⟩
   . rw [h,eG] at re;exact⟨by simp only [cB,ej]; omega,⟨oo,oo⟩,⟨ah,oo⟩,oo,re.symm⟩
   . rw [h,gj,oz] at re;exact⟨⟨oo,oo⟩,⟨ah,oo⟩,oo,re.symm⟩
 . rw [show k=l.length from oo]
def sE(cs:List dv)(a b:Int)(d:Bool):List Int:=vC (vB a b d) Tc.au.aa cs cs.length
def agr:aN:=u5 107 tF kI kI kB (fun s _ _ _=>(s ()).aD.length<=1000000) (fun s a b d => .ba [.int .i64 fun _=>(sE (s ()).aD (a ()) (b ()) (d ())).headD 0,.bool fun _ => !(sE (s ()).aD (a ()) (b ()) (d ())).isEmpty])
theorem avv:aU Tryz.prog agr:=by
 refine cD [Vo] ⟨avt,trivial⟩ Tryz.func107 (by kernel_rfl) fun ai res h hp => ?_;obtain⟨(s:bC),(a:Int),(b:Int),(d:Bool),rfl,rfl⟩:=yY h;clear h;have hl:s.aD.length<=1000000:=hp;refine⟨[],?_⟩
 conv=>arg 1; cbv
 refine bW (sE s.aD a b d) fun L hL => ?_;simp (maxSteps:=4000000) only [aK];have hL':vC (vB a b d) Tc.au.aa s.aD s.aD.length=L:=hL;simp only [hL',hL]
 cases L with
 | nil=>simp [hl]
 | cons x L=>simp [hl]; omega
def vD(c t:Nat)(sz:Int):List Slot:=(lW sz).map fun h=>⟨ c,t,h⟩
def sF(c:Nat)(sz:Int):Nat->List Slot
 | 0 => []
 | t+1=>sF c sz t++vD c t sz
def qf(ts:List Int)(sz:Int):Nat->List Slot
 | 0 => []
 | c+1=>qf ts sz c++sF c sz (ts.getD c 0).toNat
theorem Vp(c t)(sz):(vD c t sz).length=(lW sz).length:=by simp [vD]
theorem Vq(c)(sz):∀ t,(sF c sz t).length<=2*t
 | 0=>aA _
 | t+1=>by
  unfold sF;rw [dp,Vp];have:=Vq c sz t;have:=Uc sz;omega
theorem M4(ts)(sz)(rW:∀ t∈ts,t<=1000):∀ c,(qf ts sz c).length<=2000*c
 | 0=>aA _
 | c+1=>by
  unfold qf;rw [dp];have h1:=M4 ts sz rW c;have h2:=Vq c sz (ts.getD c 0).toNat;have h3:(ts.getD c 0).toNat<=1000:=by
   by_cases hc:c<ts.length
   . have:=rW _ (gw 0 hc);omega
   . rw [aX,sQ oo];simp
  omega
theorem avx(c t)(sz)(hh:h<(lW sz).length):sF c sz t++(vD c t sz).take h ++ [⟨ c,t,(lW sz).getD h 0⟩]=sF c sz t++(vD c t sz).take (h+1):=by
 rw [fR];congr 1;rw [List.take_add_one,vD,ga,bc hh,aX,bc hh];rfl
theorem avy(size)(w):Calls Tryz.prog 210 #[.int .u8 size] w fun e w'=>∃ A c,e = .returned (.slice A (lW size).length c)/\Rd w' w'.heap.size 1 A ((lW size).map A9)/\(∀ a,A=some a->∃ cur,w'.heap[a.block]? = some (.cells cur 5 (0,0)))/\cW w w':=by
 by_cases h4:size=40
 . subst h4
   go_enter Tryz.func210,Tryz.ntmps210
   go_wp2
   go_ret
   exact⟨_,_,rfl,Rd.rows (css := [[.int .u8 0]]) (rA w _) rfl (by simp),fun a e=>by cases e; exact⟨_,rA w _⟩,(cu _ _).alloc (aA _) _⟩
 . by_cases h2:size=20
   . subst h2
     go_enter Tryz.func210,Tryz.ntmps210
     go_wp2
     go_ret
     exact⟨_,_,rfl,Rd.rows (css := [[.int .u8 1],[.int .u8 2]]) (rA w _) rfl (by simp),fun a e=>by cases e; exact⟨_,rA w _⟩,(cu _ _).alloc (aA _) _⟩
   . have e:lW size = []:=by unfold lW; rw [aw h4,aw h2]
     have Gi:(size==40)=false:=by simpa using h4
     have Z4:(size==20)=false:=by simpa using h2
     rw [e]
     go_enter Tryz.func210,Tryz.ntmps210
     go_wp2
     go_ret
     exact⟨none,0,rfl,Rd.nil _ _ _ _,(fun a e=>by cases e),cu _ _⟩
theorem avz(v)(vs)(hv:v = .agg vs)(sz)(w):Calls Tryz.prog 170 #[v,.int .u8 sz] w fun e w'=>e = .returned (.func (.func 209) #[] #[.pointer (some ⟨w.heap.size,0,none⟩),.pointer (some ⟨w.heap.size+1,0,none⟩)])/\w'=(w.alloc (.cells vs 32 (0,0))).alloc (.cells #[.int .u8 sz] 5 (0,0)):=by
 subst hv
 go_enter Tryz.func170,Tryz.ntmps170
 go_wp2
 go_ret
 exact⟨rfl,rfl⟩
open Go.Shelf
attribute [local go_sem] Oper.semAt_some
def M5(x:Slot):Array Value := #[x.val]
def om(n0:Nat)(W W':World):Prop:=Below n0 W W'/\∀ (b:Nat) cur,W.heap[b]? = some (.cells cur 5 (0,0))->W'.heap[b]? = some (.cells cur 5 (0,0))
theorem om.trans(h:om n0 A B)(k:om n0 B C):om n0 A C:=⟨h.1.trans k.1,fun b cur hb=>k.2 b cur (h.2 b cur hb)⟩
theorem om.from(h:cW A B)(hn:n0<=A.heap.size):om n0 A B:=⟨h.mono hn,fun b cur hb=>(h.block b (jA.1 hb).1).trans hb⟩
theorem avA:vU Tryz.prog 127 12:=⟨_,Tryz.underlying127,by kernel_rfl,by kernel_rfl⟩
theorem avB:(Tryz.prog.info? 127).map (·.size)=some 12:=by kernel_rfl
theorem avC(h:cW A B):A.grownBy B none:=⟨h.os,h.tape,h.output,h.size,fun k hk _=>h.block k hk⟩
set_option maxHeartbeats 2000000 in
theorem avD(n0 Bs Bz nc cc)(A)(sz)(css)(ts)(w)(uR:n0<=w.heap.size)(hs:w.cell? ⟨Bs,0,none⟩=some (.slice A nc cc))(sA:Bs<w.heap.size)(hz:w.heap[Bz]? = some (.cells #[.int .u8 sz] 5 (0,0)))(gU:Rd w n0 12 A css)(M6:css.length=nc)(ah:ts.length=nc)(lP:nc<=1000)(rW:∀ t∈ts,0<=t/\t<=1000)(ja:∀ cs∈css,∀ u∈cs,u.oneCell'=true)(aF:∀ k cs,css[k]? = some cs->∃ v0 v1 v2 v4 v5 v6 v7 v8 v9 v10 v11:Value,cs = [v0,v1,v2,.int .i64 (ts.getD k 0),v4,v5,v6,v7,v8,v9,v10,v11]) :
 SeqStopsK Fence.wide 2 Tryz.prog 209 #[.pointer (some ⟨Bs,0,none⟩),.pointer (some ⟨Bz,0,none⟩)] M5 (om n0) (fun xs=>xs=qf ts sz nc) (fun _=>True) 3000000 w:=fun lp J Jx W hW hJ hJx hY h0=>by
 refine callsIn_of_wp Tryz.func209 rfl trivial ?_ rfl;simp only [Tryz.ntmps209,xz,cB,ej,Nat.reduceAdd,Nat.reduceSub,NU,NT,NZ,NX,pt,kW];have Vr:∀ pre W1 W2,J pre W1->cW W1 W2->J pre W2:=fun pre W1 W2 h1 h2=>hJ pre W1 W2 none h1 (avC h2) (fun r e=>by cases e);have ji:W.cell? ⟨Bs,0,none⟩=some (.slice A nc cc):=(hW.cell (p:=⟨Bs,0,none⟩) sA).trans hs;have hz1:W.heap[Bz]? = some (.cells #[.int .u8 sz] 5 (0,0)):=(hW.block Bz (jA.1 hz).1).trans hz;have agt:Rd W n0 12 A css:=gU.below (hW.mono uR) (aA _);have j8:n0<=W.heap.size:=dQ uR hW.size;clear hs hz gU hW;refine wpIn_wide.2 ?_
 go_wp2
 go_loopw [12] (fun cv wr=>∃ c:Nat,c<=nc/\cv = .int .i64 c/\J (qf ts sz c) wr/\om n0 W wr/\W.heap.size<=wr.heap.size) (fun cv _=>nc - (intOf cv).toNat)
 case atStart=>exact⟨0,bO _,rfl,h0,⟨cu _ _,fun b cur h=>h⟩,aA _⟩
 case round =>
  obtain⟨c,hc,rfl,hJc,hK,aO⟩:=hrel;by_cases H5:c=nc
  . subst H5;clear hY
    go_wp2
    go_end0
    exact⟨⟨_,rfl⟩,.inl ⟨_,rfl,hJc⟩⟩
  . have Fh:(c:Int)<(nc:Int):=oo
    have M3:c<css.length:=oo
    obtain⟨v0,v1,v2,v4,v5,v6,v7,v8,v9,v10,v11,uT⟩:=aF c css[c] (bc M3);obtain⟨g,off,rfl,hg,agv⟩:=Rd.ld avA agt (bc M3);have xe:=agv wr hK.1;rw [uT] at xe;have htc:=rW (ts.getD c 0) (gw 0 oo);have re:qf ts sz (c+1)=qf ts sz c++sF c sz (ts.getD c 0).toNat:=rfl;obtain⟨T,hT⟩:∃ T:Nat,ts.getD c 0=(T:Int):=⟨(ts.getD c 0).toNat,oo⟩
    rw [hT] at xe re htc;clear aF agv;have tS:=aZ ((Mem.nil wr).alloc 127 [.int .i64 0,.int .i64 0,.bool false,.int .i64 0,.int .i64 0,.int .i64 0,.int .i64 0,.int .i64 0,.slice none 0 0,.int .i64 0,.int .i64 0,.int .i64 0]);have M7:=ja _ (iT M3);rw [uT] at M7;rw [hT] at M7
    go_wp2_with (first
     | ((with_reducible refine qq 127 ?_); refine oD rfl _ _ rfl _ rfl _ xe ?_)
     | ((with_reducible refine xH 127 ?_); refine xW (cs' := [v0,v1,v2,.int .i64 T,v4,v5,v6,v7,v8,v9,v10,v11]) rfl _ _ rfl tS.out 0 rfl rfl rfl avB rfl rfl rfl M7 ?_; intro w6 h6; have y8:=aZ h6; clear h6)
     | ((with_reducible refine qq 3 ?_); refine oD rfl _ _ rfl _ rfl _ (y8.out.zP EZ (i:=0) rfl rfl _ (cu _ _)) ?_))
    have M8:cW wr w6:=y8.out.from_;have hJ6:=Vr _ _ _ hJc M8;have hK6:=hK.trans (om.from M8 (dQ j8 aO));have hs6:W.heap.size<=w6.heap.size:=dQ aO M8.size;clear y8 tS xe M7 M8 ja agt
    go_loopw [20] (fun tv wq=>∃ t:Nat,t<=T/\tv = .int .i64 t/\J (qf ts sz c++sF c sz t) wq/\om n0 W wq/\W.heap.size<=wq.heap.size) (fun tv _=>T - (intOf tv).toNat)
    case atStart=>exact⟨0,bO _,rfl,by rw [show sF c sz 0 = [] from rfl,oz]; exact hJ6,hK6,hs6⟩
    case round =>
     obtain⟨t,ht,rfl,Vs,zm,hst⟩:=hrel;by_cases xN:t=T
     . subst xN;clear hY
       go_wp2
       go_roundw
       case rel=>exact⟨c+1,oo,by simp,by rw [re]; simpa using Vs,zm,hst⟩
       case measure=>simp [intOf]; omega
     . have aAA:(t:Int)<(T:Int):=oo
       have Py:wr.cell? ⟨Bz,0,none⟩=some (.int .u8 sz):=by
        have:=zm.2 Bz _ hz1;simp [World.cell?,this]
       have uS:sF c sz (t+1)=sF c sz t++vD c t sz:=rfl
       go_wp2_with (go_at_call 210; refine (avy sz _).mono ?_; rintro e w7 ⟨A2,c2,rfl,hr7,hb7,M9⟩)
       have hJ7:=Vr _ _ _ Vs M9;have mY:n0<=wr.heap.size:=dQ j8 hst;have hK7:=zm.trans (om.from M9 mY);have hs7:W.heap.size<=w7.heap.size:=dQ hst M9.size;obtain⟨H,hH⟩:∃ H,H=(lW sz).length:=⟨_,rfl⟩
       have hH2:H<=2:=by rw [hH]; exact Uc sz
       rw [<- hH];have cz:=M4 ts sz (fun t h=>(rW t h).2) c;have htl:=Vq c sz t;clear Py zm Vs M9 hst mY
       go_loopw [26] (fun hv wh=>∃ h:Nat,h<=H/\hv = .int .i64 h/\J (qf ts sz c++(sF c sz t++(vD c t sz).take h)) wh/\om n0 W wh/\W.heap.size<=wh.heap.size/\om n0 w7 wh) (fun hv _=>H - (intOf hv).toNat)
       case atStart=>exact⟨0,bO _,rfl,by rw [Er,oz]; exact hJ7,hK7,hs7,⟨cu _ _,fun b cur h=>h⟩⟩
       case round =>
        obtain⟨h,hh,rfl,H6,hKh,nZ,hk7⟩:=hrel;by_cases avL:h=H
        . have avM:(vD c t sz).take h=vD c t sz:=jC (by rw [Vp]; omega);rw [avM,<- uS] at H6;subst avL;clear hY
          go_wp2
          go_roundw
          case rel=>exact⟨t+1,oo,by simp,H6,hKh,nZ⟩
          case measure=>simp [intOf]; omega
        . have aAC:(h:Int)<(H:Int):=oo
          have Vt:h<(lW sz).length:=oo
          obtain⟨g2,o2,Uw,FY,_,dt⟩:=hr7 h _ (by rw [ga,bc Vt]; rfl);obtain⟨x,hx⟩:∃ x,x=(lW sz).getD h 0:=⟨_,rfl⟩
          subst Uw;obtain⟨cur,qt⟩:=hb7 _ rfl;have Xs:wr.cell? ⟨g2,o2+h,none⟩=some (.int .u8 x):=by
           have h1:=dt 0 _ rfl;have h2:=hk7.2 g2 cur qt;rw [Jg (w:=w7) (w':=wr) (by rw [h2]; exact qt.symm)];rw [hx,aX,bc Vt];simpa using h1
          have H7:=avx c t sz Vt;rw [<- hx] at H7;obtain⟨fn,tmps,assign,body,hy,hR⟩:=hY _ ⟨(c:Int),(t:Int),x⟩ wr H6 (by
           rw [dp,dp,cL,Vp]
           omega)
          unfold M5 Slot.val at hy;clear hY Vr dt hr7 hb7 hx hH
          go_upto_region 9 with fail
          refine (wpIn_wide (n:=2)).1 ?_
          gi_wp2
          refine hR.mono ?_
          rintro e W3 (⟨rfl,I9,DY⟩|⟨rfl,Xt⟩)
          . rw [fR,H7] at I9;clear hJx hJ H6 hR hy
            gi_wp2
            go_wp2
            go_roundw
            case rel=>exact⟨h+1,oo,by simp,I9,hKh.trans DY,dQ nZ DY.1.size,hk7.trans DY⟩
            case measure=>simp [intOf]; omega
          . clear hJx hJ H6 hR hy
            gi_wp2
            go_wp2
            exact Xu
open Go.RowKit
section
variable{F:Fence}{n:Nat}{P:Program}{w w':World}{ops:Array Oper}{rest:List Oper}{o:Oper}{a:Act}{Q:Exit->Act->World->Prop}{v:Value}
theorem Vu(ic:o.guard=none)(T:Nat)(x:Operand)(ho:o.op = .load T x)(ad:Addr)(hx:a.eval x = .pointer (some ad))(v:Value)(ki:(loadVar T ad).run P w = .ok v w)(h:wpListIn F n P ops Q rest (a.put o.dst v) w):wpListIn F n P ops Q (o::rest) a w:=by
 refine wpListIn_plain ic fun K hK => ?_;unfold Oper.wpIn;refine⟨fun f hf=>by simp [Oper.about,ho] at hf,?_⟩;rw [Oper.semAt_plain F _ _ (by rw [ho]; intro c hc; cases hc)];unfold execOp;simp only [ho,hx,Instr.loadAt,Instr.sureAddr,bp,bL,bI,ki];exact hK _ _ h
theorem avN{M:List bP}{g m:Nat}{cs cs':List Value}(ic:o.guard=none)(x y:Operand)(ho:o.op = .store T x y)(H:Mem w0 w M)(i:Nat)(hi:M[i]? = some (.box g T cs))(hx:a.eval x = .pointer (some ⟨g,0,.none⟩))(hy:a.eval y=v)(aO:(P.info? T).map (·.size)=some m)(hv:v.cells.toList=cs')(cg:cs'.length=m)(hl:cs.length=m)(h1:∀ u∈cs',u.oneCell'=true)(h:∀ w',Mem w0 w' (M.set i (.box g T cs'))->w.grownBy w' (some g)->wpListIn F n P ops Q rest (a.put o.dst undef) w'):wpListIn F n P ops Q (o::rest) a w:=by
 have hg:=H.cells hi;have hr:=IU (P:=P) (off:=0) aO hv cg hg (by simp [hl]) h1;refine wpListIn_plain ic fun K hK => ?_;unfold Oper.wpIn;refine⟨fun f hf=>by simp [Oper.about,ho] at hf,?_⟩;rw [Oper.semAt_plain F _ _ (by rw [ho]; intro c hc; cases hc)];unfold execOp;simp only [ho,hx,hy,Instr.storeAt,Instr.sureAddr,bp,bL,bI,hr];have gr:w.grownBy (w.setRow g (List.take 0 cs.toArray.toList++cs'++List.drop (0+m) cs.toArray.toList).toArray) (some g):=⟨rfl,rfl,rfl,by simp,fun k _ hk=>Eu w g k _ (fun e=>hk (by simp [e]))⟩
 refine hK _ _ (h _ (H.put i _ hi gr ⟨(H.OW hi).1,?_⟩ (.inl rfl)) gr);rw [Oc w g _ _ T _ hg];simp [hl,cg]
theorem avO{M:List bP}{t e size bytes c m cn:Nat}{A X:Option Addr}{css news:List (List Value)}(ic:o.guard=none)(s x:Operand)(ho:o.op = .call { callee := .builtin .append,args := #[s,x],argTypes := #[t,t] })(hE:EI P t e size bytes)(n':Nat)(hn:n'=css.length)(hs:a.eval s = .slice A n' c)(H:Mem w0 w M)(i:Nat)(hi:M[i]? = some (.row e size A c css))(hx:a.eval x = .slice X m cn)(hr:Rd w w.heap.size size X news)(hm:m=news.length)(h1:∀ cs∈news,∀ u∈cs,u.oneCell'=true)(nI:css.length+m<=maxLen)(vS:(css.length+m)*bytes<=140737488355328)(h:∀ A' c' w',Mem w0 w' (M.set i (.row e size A' c' (css++news)))->w.grownBy w' (A.map (·.block))->wpListIn F n P ops Q rest (a.put o.dst (.slice A' (css++news).length c')) w'):wpListIn F n P ops Q (o::rest) a w:=by
 subst hn;obtain⟨A',c',w',cC,h2,h3,h5⟩:=Qr (P:=P) (ty:=o.type) (cn:=cn) hE (H.own hi) w.heap.size hr hm h1 nI vS H.from_.size;refine wpListIn_plain ic fun K hK => ?_;unfold Oper.wpIn;refine⟨fun f hf=>by simp [Oper.about,ho,resolve,Target.leads,bL] at hf,?_⟩;rw [Oper.semAt_plain F _ _ (by rw [ho]; intro c hc; cases hc)];unfold execOp;simp only [ho,resolve,invoke,builtin,bp,bL,bI,Eg,gz,sS,hs,hx,cC];refine hK _ _ (h A' c' w' (H.put i _ hi h3 h2 ?_) h3);rcases h5 with h5|h5
 . exact .inl h5
 . exact .inr fun b hb=>by rw [show (bP.row e size A' c' (css++news)).b8=A'.map (·.block) from rfl,h5.1] at hb; injection hb with hb; omega
end
theorem bP.agC{e:bP}(h:e.ok w base)(hb:e.b8=some b)(bt:∀ s A css,e ≠ .ro s A css):∃ o:Obj,w.heap[b]? = some o/\o.isCells=true:=by
 cases e with
 | row T size A c css =>
  obtain⟨q,hq,rfl⟩:=kS.1 hb;subst hq;rcases h.1.2 with ⟨h2,_⟩|⟨g,cap,cur,h2,_,h4,_⟩
  . cases h2
  . injection h2 with h2;injection h2 with h2;subst h2;exact⟨_,h4,rfl⟩
 | box g T cs =>
  injection hb with hb;subst hb;exact⟨_,h.2,rfl⟩
 | ro size A css=>exact absurd rfl (bt size A css)
def bP.Na:bP->Nat
 | .row T _ _ _ _=>T
 | .box _ T _=>T
 | .ro _ _ _=>0
theorem bP.heap{e:bP}(h:e.ok w base)(hb:e.b8=some b)(bt:∀ s A css,e ≠ .ro s A css):∃ cur,w.heap[b]? = some (.cells cur e.Na (0,0)):=by
 cases e with
 | row T size A c css =>
  obtain⟨q,hq,rfl⟩:=kS.1 hb;subst hq;rcases h.1.2 with ⟨h2,_⟩|⟨g,cap,cur,h2,_,h4,_⟩
  . cases h2
  . injection h2 with h2;injection h2 with h2;subst h2;exact⟨_,h4⟩
 | box g T cs =>
  injection hb with hb;subst hb;exact⟨_,h.2⟩
 | ro size A css=>exact absurd rfl (bt size A css)
theorem Mem.step{M:List bP}(h:Mem w0 w M){e:bP}(hi:M[i]? = some e)(bt:∀ s A css,e ≠ .ro s A css)(hg:w.grownBy w' e.b8) :
 KeepsOthers w w'/\Below w0.heap.size w w'/\∀ (T b:Nat) cur,T≠e.Na->w.heap[b]? = some (.cells cur T (0,0))->w'.heap[b]? = some (.cells cur T (0,0)):=by
 have aI:=h.ok _ (eY hi);refine⟨KeepsOthers.of_grownBy hg fun j o hj ho => ?_,(cu _ _).grown hg h.from_.size fun k hk=>(bP.lt aI hk).1,fun T b cur hT hb=>(hg.block b (jA.1 hb).1 fun e1 => ?_).trans hb⟩
 . obtain⟨o',ho',hc⟩:=bP.agC aI hj bt;rw [ho] at ho';cases ho';exact hc
 . obtain⟨mT,h1⟩:=bP.heap aI e1.symm bt;rw [hb] at h1;cases h1;exact hT rfl
theorem Mem.grown{M:List bP}{row:Option Nat}(h:Mem w0 w M)(bt:∀ e∈M,∀ s A css,e ≠ .ro s A css)(hg:w.grownBy w' row)(hr:∀ r,row=some r->w0.heap.size<=r/\∃ o:Obj,w.heap[r]? = some o/\o.isCells=false):Mem w0 w' M:=by
 refine⟨h.from_.grown hg h.from_.size fun k e=>(hr k e).1,fun e he=>bP.jF (h.ok e he) fun b hb => ?_,h.apart⟩;refine hg.block b (bP.lt (h.ok e he) hb).2 fun e1 => ?_;obtain⟨o,ho,hc⟩:=(hr b e1.symm).2;obtain⟨o',ho',Cm⟩:=bP.agC (h.ok e he) hb (bt e he);rw [ho] at ho';cases ho';rw [hc] at Cm;cases Cm
theorem avP(h:Below A.heap.size A B):A.grownBy B none:=⟨h.os,h.tape,h.output,h.size,fun k hk _=>h.block k hk⟩
section
variable{F:Fence}{n:Nat}{P:Program}{α:Type}
theorem avQ{g:Operand}{ps:Array Tmp}{assign body:Code}{Q:Exit->Act->World->Prop}{a:Act}(bt:F.round=none)(h1:1<=n){lb:Array Value}(hg:a.eval g = .func (.func gf) #[] lb)(OI:F.fn gf)(eg:∀ args W,(callFunc gf args).run P W = .ok (.enter gf args) W){encs : α->Array Value}{Kp:World->World->Prop}{S Sp:List α->Prop}(OJ:SeqStopsK F (n - 1) P gf lb encs Kp S Sp N w0)(zm:∀ {A B C:World},Kp A B->Kp B C->Kp A C)(hKb:∀ (W:World) (l:Nat) (o o':Obj),w.heap.size<=l->W.heap[l]? = some o->o.isCells=false->Kp W (W.putObj l o'))(jG:Below w0.heap.size w0 w)(vW:∀ x,(encs x).size=ps.size)(I:List α->World->Prop)(hI:OwnFrom w.heap.size I)(hKf:∀ pre W W1,I pre W->Below W.heap.size W W1->Kp W W1)(h0:I [] w)(box : α->Obj)(a₁ : Nat -> α->Act)(EN:∀ (l:Nat) (x : α) (W:World) (K:Act->World->Prop),(∀ W1,Below W.heap.size W W1->W1.heap[W.heap.size]? = some (box x)->K (a₁ W.heap.size x) W1)->assign.wpIn (F.inRound l) (n - 1 - 1) P (Exit.then K (fun _ _ _=>False)) { tmps:=(ps.zip (encs x)).foldl (fun t (p,v)=>t.setIfInBounds p v) a.tmps,defers := [] } W)(vX:∀ (l:Nat) (pre:List α) (x : α) (b:Nat) (W:World),I pre W->pre.length<N->W.heap[b]? = some (box x)->body.wpIn (F.inRound l) (n - 1 - 1) P (fun e _ W2=>e = .normal/\KeepsOthers W W2/\Kp W W2/\I (pre ++ [x]) W2) (a₁ b x) W)(xO:∀ (D:Nat) (xs:List α) (W:World),w.heap.size<=D->S xs->I xs W->W.heap[D]? = some (.deferred (some []))->Q .normal { a with defers := { target := .collected D,args := #[] }::a.defers } W) :
 (Code.rangeFunc g ps assign body).wpIn F n P Q a w:=by
 refine wpIn_rangeFunc fun fn uA => ?_;rw [bt];obtain⟨r,hr⟩:∃ r:Loop,r = { state := .ready,pending:=none,fn:=fn,tmps:=a.tmps,params:=ps,assign:=assign,body:=body,defers:=w.heap.size }:=⟨_,rfl⟩
 have vY:=run_enterLoop_outer (P:=P) (w:=w) fn a.tmps ps assign body;rw [<- hr] at vY;have mW:((w.alloc (.deferred (some []))).alloc (.loop r)).heap[w.heap.size+1]? = some (.loop r):=by
  have:=World.alloc_heap_new (w.alloc (.deferred (some []))) (.loop r);rwa [qk] at this
 have uz:((w.alloc (.deferred (some []))).alloc (.loop r)).heap[w.heap.size]? = some (.deferred (some [])):=(ql _ _ _ (by simp)).trans (World.alloc_heap_new w _);have sY:I [] ((w.alloc (.deferred (some []))).alloc (.loop r)):=hI.alloc _ (hI.alloc _ h0);have OK:Below w0.heap.size w0 ((w.alloc (.deferred (some []))).alloc (.loop r)):=jG.trans ((((cu _ w).alloc (aA _) _).alloc (by simp) _).mono jG.size);have Vv:w.heap.size<=((w.alloc (.deferred (some []))).alloc (.loop r)).heap.size:=by simp; omega
 generalize (w.alloc (.deferred (some []))).alloc (.loop r)=W0 at *
 refine⟨w.heap.size+1,[{ target := .collected w.heap.size,args := #[] }],W0,{ target := .fn (.func gf) lb,args := #[.func (.yield (w.heap.size+1)) #[] #[]] },W0,gf,#[.func (.yield (w.heap.size+1)) #[] #[]]++lb,W0,vY,?_,?_,?_,fun _=>h1,?_⟩
 . simp only [resolve,hg];simp [go_sem]
 . intro f' oH;simp [Target.leads] at oH;rw [<- oH];exact OI
 . simp [invoke,go_sem,eg]
 . have Gf:∀ {A B:World} {row:Option Nat},(∀ r,row=some r->W0.heap.size<=r/\∃ o:Obj,A.heap[r]? = some o/\o.isWalk=true)->(∀ r,row=some r->w.heap.size<=r/\∃ o:Obj,A.heap[r]? = some o/\o.isCells=false) :=
    fun hr r e=>by obtain⟨hB,o,ho,hw⟩:=hr r e; exact⟨oo,o,ho,Obj.not_cells_of_walk hw⟩
   refine (OJ (w.heap.size+1) (fun pre W=>I pre W/\W.heap[w.heap.size+1]? = some (.loop r)/\W.heap[w.heap.size]? = some (.deferred (some []))) (fun _ _=>False) W0 OK
    (fun s A B row hs rH kz=>⟨hI s A B row hs.1 rH (Gf (B:=B) kz),(grownBy_keeps rH (fun r e=>(kz r e).2) hs.2.1 rfl).trans hs.2.1,(grownBy_keeps rH (fun r e=>(kz r e).2) hs.2.2 rfl).trans hs.2.2⟩)
    (fun s A B row hs rH kz=>hs) ?_ ⟨sY,mW,uz⟩).mono ?_
   . rintro pre x W ⟨hi,hl,hk⟩ hlen
     have ah:w.heap.size+1<W.heap.size:=(jA.1 hl).1;have hy:=run_yield (P:=P) (args:=encs x) hl (by rw [hr]; exact vW x);rw [hr] at hy;refine⟨fn,_,assign,body,hy,roundIn_of_wpIn uA (EN _ x W _ fun W1 hf uB => ?_)⟩;have pS:W1.heap[w.heap.size+1]? = some (.loop r):=(hf.block _ ah).trans hl;have cR:W1.heap[w.heap.size]? = some (.deferred (some [])):=(hf.block _ oo).trans hk;have zN:I pre W1:=hI _ _ _ none hi (avP hf) (fun _ e=>by cases e);have H5:=(jA.1 pS).1;refine⟨_,run_beginRound pS (by rw [hr]),?_⟩;have qG:(W1.putObj (w.heap.size+1) (.loop { r with state := .busy })).heap[w.heap.size+1]? = some (.loop { r with state := .busy }):=World.putObj_heap_same H5;have bU:(W1.putObj (w.heap.size+1) (.loop { r with state := .busy })).heap[w.heap.size]? = some (.deferred (some [])):=(World.putObj_heap_other oo).trans cR;have eP:(W1.putObj (w.heap.size+1) (.loop { r with state := .busy })).heap[W.heap.size]? = some (box x):=(World.putObj_heap_other oo).trans uB;have hkp:Kp W (W1.putObj (w.heap.size+1) (.loop { r with state := .busy })):=zm (hKf _ _ _ hi hf) (hKb _ _ _ _ oo pS rfl);refine wpIn_mono (vX _ pre x _ _ (hI.putObj _ zN oo pS rfl) hlen eP) ?_
     rintro e a3 W3 ⟨rfl,DY,avS,hi3⟩
     have oG:=DY.same _ _ qG rfl;have xN:=(jA.1 oG).1;refine⟨_,_,run_endRound (P:=P) none oG,.inl ⟨rfl,⟨hI.putObj _ hi3 oo oG rfl,?_,?_⟩,zm (zm hkp avS) (hKb _ _ _ _ oo oG rfl)⟩⟩
     . rw [World.putObj_heap_same xN,hr];rfl
     . exact (World.putObj_heap_other oo).trans (DY.same _ _ bU rfl)
   . rintro e W2 ⟨⟨v,rfl⟩,⟨xs,hS,hi,hl,hk⟩|⟨pre,_,h⟩⟩
     . have OL:r.pending=none:=by rw [hr]
       have gT:=run_endLoop (P:=P) hl (by rw [hr]; simp);rw [OL] at gT;exact⟨none,_,gT,xO _ xs _ (aA _) hS (hI.putObj _ hi oo hl rfl) ((World.putObj_heap_other oo).trans hk)⟩
     . exact h.elim
end
end Go.Proofs.YtamjbkaclhgffaaGreat
