/-
  The library's stable sort, at Stowed by tiers: at most 40 of them.
-/
import Derived.Test.YtlpikgchnjajmaaGreatTp22
set_option linter.all false
set_option maxRecDepth 100000
set_option maxHeartbeats 4000000
namespace Go.Proofs.YtlpikgchnjajmaaGreat
open Go.RowKit
variable{bs:List aJ}{l:List ay}{h j k q:Nat}{α:Type}{s:aZ}
def aV(l:List ay):List ay:=AP jR Tc.aq.aa 0 l.length l
def Tf:fk:=⟨248,[.zH .aq,.int .i64,.fn []],1,fun ai es=>match ai,es with
 | [.own 0,.int .i64 n,.fn f []],[(0,.row false .aq T l)]=>if f=147 then some ⟨fun _=>n ()=((l ()).length:Int)/\(l ()).length<=40,.aU [],[(0,.row false .aq T fun _=>aV (l ()))]⟩ else none
 | _,_=>none,true⟩
theorem Tg(l):aV l=cJ ay.aF 0 l.length l:=S9 LC (cm _) (az _)
def mb(l:List ay):Nat->List ay
 | 0=>l
 | q+1=>cJ ay.aF (20*q) (20*q+20) (mb l q)
theorem Th(l):∀ q,20*q<=l.length->(mb l q).length=l.length
 | 0,_=>rfl
 | q+1,h=>by
  have:=Th l q oo;show (cJ ay.aF (20*q) (20*q+20) (mb l q)).length=_
  rw [(p9 oo oo).len,this]
theorem aqz(hq:20*q<=l.length/\l.length<20*q+20)(hl:l.length<=40) :
 (cJ ay.aF (20*q) l.length (mb l q)).length=l.length/\(l.length<=20->cJ ay.aF (20*q) l.length (mb l q)=aV l)/\(20<l.length->(eh ay.aF Tc.aq.aa 0 20 (cJ ay.aF (20*q) l.length (mb l q))/\eh ay.aF Tc.aq.aa 20 l.length (cJ ay.aF (20*q) l.length (mb l q)))/\cJ ay.aF 0 l.length (cJ ay.aF (20*q) l.length (mb l q))=aV l):=by
 have hn:=Th l q hq.1;have r:=p9 (key:=ay.aF) (l:=mb l q) (a:=20*q) (b:=l.length) hq.1 oo;have st:=xc (key:=ay.aF) (d:=Tc.aq.aa) (l:=mb l q) (a:=20*q) (b:=l.length) hq.1 oo;refine⟨by rw [r.len,hn],fun h => ?_,fun h => ?_⟩
 . rw [Tg];have:q=0\/(q=1/\l.length=20):=oo
   rcases this with h0|⟨h0,h1⟩
   . subst h0; rfl
   . subst h0;rw [h1];show cJ ay.aF 20 20 (cJ ay.aF 0 20 l)=_
     refine Gx (d:=Tc.aq.aa) (az _) (by rw [(p9 oo oo).len]; omega) fun i k h1 h2 h3=>oo
 . have r1:Ren ay.aF 0 20 l (cJ ay.aF 0 20 l):=p9 oo oo;have s1:eh ay.aF Tc.aq.aa 0 20 (cJ ay.aF 0 20 l):=xc oo oo;have:q=1\/(q=2/\l.length=40):=oo
   have hB:Ren ay.aF 0 l.length l (cJ ay.aF (20*q) l.length (mb l q))/\eh ay.aF Tc.aq.aa 0 20 (cJ ay.aF (20*q) l.length (mb l q))/\eh ay.aF Tc.aq.aa 20 l.length (cJ ay.aF (20*q) l.length (mb l q)):=by
    rcases this with h0|⟨h0,h1⟩
    . subst h0;exact⟨(r1.wide (az _) oo).trans (r.wide oo (az _)),s1.out r (.inl oo),st⟩
    . subst h0;have r2:Ren ay.aF 20 40 (cJ ay.aF 0 20 l) (mb l 2):=p9 oo (by show _<=(cJ ay.aF 0 20 l).length; rw [r1.len]; omega);have s2:eh ay.aF Tc.aq.aa 20 40 (mb l 2):=xc oo (by show _<=(cJ ay.aF 0 20 l).length; rw [r1.len]; omega);refine⟨((r1.wide (az _) oo).trans (r2.wide oo oo)).trans (r.wide oo (az _)),(s1.out r2 (.inl (az _))).out r (.inl oo),?_⟩;rw [h1] at r ⊢;exact s2.out r (.inl (az _))
   refine⟨hB.2,?_⟩;rw [Tg];exact CU (d:=Tc.aq.aa) (cm _) (az _) (hB.1.trans (p9 (cm _) (by rw [hB.1.len]; exact az _))) (xc (cm _) (by rw [hB.1.len]; exact az _))
def aqA(T:Nat)(l:List ay):Lp where
 X:=Nat
 ov q := [(7,.int .i64 fun _=>((20*q:Nat):Int)),(8,.int .i64 fun _=>((20*q+20:Nat):Int)),(0,.own 0)]
 oe q := [(0,.row false .aq T fun _=>mb l q)]
 I q:=20*q<=l.length
 μ q _:=l.length - 20*q
 x0:=0
 nx:=some fun q=>q+1
def aqB(T:Nat)(B S:List ay):Lp where
 X:=Nat
 ov t := [(6,.int .i64 fun _=>((20*(t+1):Nat):Int)),(0,.own 0)]
 oe t := [(0,.row false .aq T fun _=>cond (decide (t=0)) B S)]
 I t:=t=0\/(t=1/\20<B.length)
 μ t _:=1 - t
 x0:=0
 nx:=none
def aqC(T:Nat)(B S:List ay):Lp where
 X:=Nat
 ov u := [(7,.int .i64 fun _=>((40*u:Nat):Int)),(8,.int .i64 fun _=>((40*u+40:Nat):Int)),(0,.own 0)]
 oe u := [(0,.row false .aq T fun _=>cond (decide (u=0)) B S)]
 I u:=u=0\/(u=1/\B.length=40)
 μ u _:=1 - u
 x0:=0
 nx:=none
theorem aqD:gp Tryz.prog Tf:=by
 refine FV { kp := [(0,[0,1,2]),(1,[0,1,2,6]),(2,[0,1,2,6,7,8]),(3,[0,1,2,6,7,8]),(4,[0,1,2,6,8]),(5,[0,1,2,6,7,8]),(6,[0,1,2,6,7]),(7,[0,1,2,6]),(8,[0,1,2,6]),(9,[0,1,2,6,7,8]),(10,[0,1,2,6,7,8]),(11,[0,1,2,6,8]),(12,[0,1,2,6,7,8]),(13,[0,1,2,6,7]),(14,[0,1,2,6,7,9]),(15,[0,1,2,6,7,9]),(16,[0,1,2,6])] } [] trivial [SV,Gz 40] ⟨aqc,acQ 40,trivial⟩ Tryz.func248 (by kernel_rfl) fun ai es res h hp => ?_;simp only [Tf] at h;split at h
 case h_2=>cases h
 split at h
 case isFalse=>cases h
 rename_i n f T l hf;subst hf;cases h;obtain⟨l,rfl⟩:=eta (α:=List ay) l;obtain⟨n,rfl⟩:=eta (α:=Int) n;have dZ:n=(l.length:Int)/\l.length<=40:=hp;have h1:=dZ.1;have h2:=dZ.2;subst h1;refine⟨[(2,aqA T l)],?_⟩
 conv=>arg 1; cbv
 refine⟨?_,fun (q:Nat) hq => ?_⟩
 . simp (maxSteps:=4000000) only [aB];exact⟨cm _,rfl,rfl,rfl⟩
 have uT:20*q<=l.length:=hq;clear hq
 conv=>arg 1; cbv
 simp (maxSteps:=4000000) only [aB];have hlb:=Th l q uT;refine⟨fun g => ?_,fun g => ?_⟩
 . exact⟨⟨oo,oo,oo,oo⟩,ii,⟨oo,oo⟩,oo,oo,S9 LC oo oo⟩
 obtain⟨N9,hB1,CB⟩:=aqz (l:=l) (q:=q) ⟨uT,oo⟩ h2;have aqE:AP jR Tc.aq.aa (20*q) l.length (mb l q)=cJ ay.aF (20*q) l.length (mb l q):=S9 LC uT oo;simp only [aqE];generalize cJ ay.aF (20*q) l.length (mb l q)=B at *
 refine cL (aV l) fun S hS => ?_;rw [hS] at hB1 CB;have hSl:S.length=l.length:=by rw [<- hS,Tg]; exact (p9 (cm _) (az _)).len
 refine⟨⟨oo,oo,oo,oo⟩,aqB T B S,?_⟩
 conv=>arg 1; cbv
 refine⟨?_,fun (t:Nat) ht => ?_⟩
 . exact u7
 have Ti:t=0\/(t=1/\20<B.length):=ht;clear ht
 conv=>arg 1; cbv
 simp (maxSteps:=4000000) only [aB];refine⟨fun g1 => ?_,fun g1 => ?_⟩
 . have Tj:t=0:=oo
   subst Tj;have aqF:20<l.length:=oo
   obtain⟨⟨nU,we⟩,GB⟩:=CB aqF;refine⟨ii,aqC T B S,?_⟩
   conv=>arg 1; cbv
   refine⟨?_,fun (u:Nat) hu => ?_⟩
   . exact u7
   have ub:u=0\/(u=1/\B.length=40):=hu;clear hu;rcases ub with hu|⟨hu,V4⟩
   . subst hu
     conv=>arg 1; cbv
     simp (maxSteps:=4000000) only [aB];have e20:(((40*0:Nat):Int)+((20*(0+1):Nat):Int)).toNat=20:=rfl;rw [e20];refine⟨fun g2=>⟨ii,⟨⟨oo,oo,oo⟩,⟨by show _<=(B.length:Int); omega,oo⟩,by show B.length<=_; omega,nU,?_⟩,ii,ii,⟨1,⟨⟨.inr ⟨rfl,oo⟩,oo⟩,?_⟩⟩⟩,fun g2=>⟨ii,fun g3=>⟨⟨⟨oo,oo,oo⟩,⟨by show _<=(B.length:Int); omega,oo⟩,by show B.length<=_; omega,nU,?_⟩,ii,⟨1,⟨⟨.inr ⟨rfl,oo⟩,oo⟩,?_⟩⟩⟩,fun g3=>oo⟩⟩
     . rw [show l.length=40 from oo] at we;exact we
     . conv=>arg 1; cbv
       simp (maxSteps:=4000000) only [aB];have h40:l.length=40:=oo
       rw [h40] at GB;exact⟨trivial,oo,GB⟩
     . exact we
     . conv=>arg 1; cbv
       simp (maxSteps:=4000000) only [aB];exact⟨oo,GB⟩
   . subst hu
     conv=>arg 1; cbv
     simp (maxSteps:=4000000) only [aB];refine⟨fun g2=>oo,fun g2=>⟨ii,fun g3=>oo,fun g3=>⟨ii,⟨1,⟨⟨.inr ⟨rfl,oo⟩,oo⟩,?_⟩⟩⟩⟩⟩
     exact no_implicit_lambda% LJ
 . rw [hS];rcases Ti with h0|⟨h0,h3⟩
   . rw [h0];exact hB1 oo
   . rw [h0];rfl
def Tk:fk:=⟨146,[.zH .aq,.fn []],1,fun ai es=>match ai,es with
 | [.own 0,.fn f []],[(0,.row false .aq T l)]=>if f=147 then some ⟨fun _=>(l ()).length<=40,.aU [],[(0,.row false .aq T fun _=>aV (l ()))]⟩ else none
 | _,_=>none,true⟩
theorem aqI:gp Tryz.prog Tk:=by
 refine AA [] trivial [Tf] ⟨aqD,trivial⟩ Tryz.func146 (by kernel_rfl) fun ai es res h hp => ?_;simp only [Tk] at h;split at h
 case h_2=>cases h
 split at h
 case isFalse=>cases h
 rename_i f T l hf;subst hf;cases h;obtain⟨l,rfl⟩:=eta (α:=List ay) l;have cf:l.length<=40:=hp;refine⟨[],?_⟩
 conv=>arg 1; cbv
 simp (maxSteps:=4000000) only [aB];exact⟨⟨trivial,cf⟩,trivial⟩
/- aqJ changes zG order only -/
theorem aqK(d)(l:List α)(j)(h:j+1<l.length):(swapAt d l j).Perm l:=by
 unfold swapAt;have e1:l.getD j d=l[j]:=by rw [ba,bp oo,gZ]
 have e2:l.getD (j+1) d=l[j+1]:=by rw [ba,bp h,gZ]
 rw [e1,e2];have:l=l.take j++l[j]::l[j+1]::l.drop (j+2):=by
  rw [Vn,Vn,jg]
 have h3:(l.set (j+1) l[j]).set j l[j+1]=l.take j++l[j+1]::l[j]::l.drop (j+2):=by
  exact acF
 rw [h3]
 conv=>rhs; rw [this]
 exact List.Perm.append_left _ (List.Perm.swap _ _ _)
theorem acX{α:Type}(lt)(d)(a):∀ (j) (l:List α),j<l.length->(kO lt d a j l).Perm l
 | 0,l,_=>ahJ _
 | j+1,l,h=>by
  unfold kO
  cases decide (a<j+1)&&lt (l.getD (j+1) d) (l.getD j d) with
  | true =>
   rw [eG];exact (acX lt d a j _ (by rw [yV]; omega)).trans (aqK d l j h)
  | false=>exact ahJ _
theorem acY{α:Type}(lt)(d)(a)(l:List α):∀ n,a+1+n<=l.length\/n=0->(oy lt d a l n).Perm l
 | 0,_=>ahJ _
 | n+1,h=>by
  unfold oy;exact (acX lt d a _ _ (by rw [LA]; omega)).trans (acY lt d a l n oo)
theorem CW(l):(aV l).Perm l:=acY _ _ _ _ _ oo
def acZ:aH:=dU 143 pZ (fun l=>(l ()).length<=1000000000000/\∀ b∈l (),b.num.size<=140737488351232) (fun l => .aU [.int .i64 fun _=>(mR (l ())).1,.int .i64 fun _=>(mR (l ())).2])
def vh(l:List aJ):Nat->List Kx->Option Int
 | 0=>fun _=>none
 | k+1=>cond (decide (((l.getD k Tc.box.aa).num)=ic)) (vh l k) (fl (vh l k) [.s (l.getD k Tc.box.aa).num] (k:Int))
def lpV(l:List aJ):Lp where
 X:=Nat
 ov k := [(16,.int .i64 fun _=>(k:Int)),(5,.int .i64 fun _=>vd l k)]
 oe k := [(0,.map true false (.one .str) .int 329 fun _=>vh l k)]
 I k:=k<=l.length/\∀ j,j<k->mQ l j=false
 μ k _:=l.length - k
 x0:=0
 nx:=some fun k=>k+1
theorem ac0(l)(s):∀ k,k<=l.length->(vh l k [.s s]).isSome=u9 l k s
 | 0,_=>by rw [ape]; rfl
 | k+1,hk=>by
  have ih:=ac0 l s k oo;have Tl:r5=ic:=rfl;rw [apf l k s oo,<- ih,Tl];have e:l.getD k Tc.box.aa=l[k]:=by simp [ba,bp (show k<l.length from oo)]
  have hu:vh l (k+1)=cond (decide ((l.getD k Tc.box.aa).num=ic)) (vh l k) (fl (vh l k) [.s (l.getD k Tc.box.aa).num] (k:Int)):=rfl;rw [hu,e];by_cases hn:l[k].num=ic
  . simp only [hn,qm,eG,gA,vJ,fM]
  . simp only [hn,tZ,fG,Ns,dL];unfold fl;by_cases hs:l[k].num=s
    . simp only [hs,eH,Option.isSome_some,qm,Bool.or_true]
    . have:¬ [Kx.s s] = [Kx.s l[k].num]:=by simpa using fun e=>hs e.symm
      simp only [hs,this,dB,tZ,fM]
theorem aqM:aK Tryz.prog acZ:=by
 refine cd [abQ] ⟨aps,trivial⟩ Tryz.func143 (by kernel_rfl) fun ai res h hp => ?_;obtain⟨(l:List aJ),rfl,rfl⟩:=eu h;clear h;have GC:l.length<=1000000000000/\∀ b∈l,b.num.size<=140737488351232:=hp;have kf:=GC.1;have jO:=GC.2;refine⟨[(5,lpV l)],?_⟩
 conv=>arg 1; cbv
 refine⟨fun h1 => ?_,fun h1=>⟨?_,fun (k:Nat) hk => ?_⟩⟩
 . simp only [aI,gV] at h1;have h2:mR l=(-1,5):=by unfold mR; rw [aw oo]
   simp only [FX,CG,wV,h2,DP]
 . refine⟨⟨cm _,fun j hj=>absurd hj (oJ j)⟩,?_⟩;simp only [FX,CG,wV,Ry];exact⟨rfl,(aph l).symm,rfl⟩
 . conv=>arg 1; cbv
   have cR:k<=l.length/\∀ j,j<k->mQ l j=false:=hk;have cZ:=cR.1;have cg:=cR.2;have h5:l.length<=2000:=by simp only [fR,gV] at h1; omega
   simp only [KY,Rw,FX,wV,CG,Ry,gV,aaZ,dV,aI,fR,ac0 l _ k cZ];refine⟨fun h2=>⟨oo,?_⟩,fun h2 => ?_⟩
   . have aj:k<l.length:=oo
     have e:l.getD k Tc.box.aa=l[k]:=by simp [ba,bp aj]
     have ox:mQ l k=(u9 l k l[k].num||decide (l[k].id<=vd l k) || !nw l[k]):=by unfold mQ; rw [bp aj]
     simp only [e];have hf:mQ l k=true->(k:Int)=(mR l).1/\60=(mR l).2:=fun h=>by rw [apc h5 aj cg h]; exact⟨rfl,rfl⟩
     refine⟨fun h3=>hf (by rw [ox,h3]; rfl),fun h3=>⟨fun h4=>hf (by rw [ox,h3]; simp [h4]),fun h4=>⟨jO _ (mj aj),fun h6=>hf ?_,fun h6 => ?_⟩⟩⟩
     . rw [ox];have Tm:(!nw l[k])=true:=h6;rw [Tm];simp
     . have Tm:(!nw l[k])=false:=h6;have SG:mQ l k=false:=by rw [ox,h3,Tm]; simp [h4]
       have hI:k+1<=l.length/\∀ j,j<k+1->mQ l j=false:=⟨aj,fun j hj=>by
        rcases cw j k with h|h
        . exact cg j h
        . rw [show j=k from oo]; exact SG⟩
       have hM:vh l (k+1)=cond (decide (l[k].num=ic)) (vh l k) (fl (vh l k) [.s l[k].num] (k:Int)):=by
        show cond _ _ _=_
        rw [e]
       have rN:aY ((k:Int)+1)/\((k+1<=l.length/\∀ j,j<k+1->mQ l j=false)/\l.length - (k+1)<l.length - k)/\(k:Int)+1=((k+1:Nat):Int)/\l[k].id=vd l (k+1):=⟨⟨oo,oo⟩,⟨hI,oo⟩,oo,(apg l k aj).symm⟩
       refine⟨fun h7=>⟨rN.1,rN.2.1,rN.2.2.1,rN.2.2.2,?_⟩,fun h7=>⟨rN.1,rN.2.1,rN.2.2.1,rN.2.2.2,?_⟩⟩
       . have h8:(!decide (l[k].num=ic))=true:=h7;have Tn:decide (l[k].num=ic)=false:=by simpa using h8
         rw [hM,Tn];rfl
       . have h8:(!decide (l[k].num=ic))=false:=h7;have Tn:decide (l[k].num=ic)=true:=by simpa using h8
         rw [hM,Tn];rfl
   . have:k=l.length:=oo
     subst this;rw [apd h5 cg];exact⟨rfl,rfl⟩
def pg(h:Int):List Int:=cond (decide (h=1)) [1] (cond (decide (h=2)) [2] [1,2])
def je(c h:Int):List Kx := [.i .i64 c,.i .i64 h]
def qW(t c:Int)(m:List Kx->Option Int)(hs:List Int):List Kx->Option Int:=hs.foldl (fun m h=>fl m (je c h) ((m (je c h)).getD 0+t)) m
def sk(bs:List aJ)(m:List Kx->Option Int)(x:ay):List Kx->Option Int:=qW (jd (bZ bs x.box).1) x.ax m (pg x.half)
def jv(bs:List aJ)(l:List ay):List Kx->Option Int:=l.foldl (sk bs) fun _=>none
def tt(c:dp)(h:Int):Int:=cond (decide (h=1)) (c.x+3050) (cond (decide (h=2)) (c.x - 3050) c.x)
def AR(cs:List dp)(bs:List aJ)(m:List Kx->Option Int)(x:ay):sK :=
 ⟨(bZ bs x.box).1,tt (cs.getD x.ax.toNat Tc.ax.aa) x.half,(cs.getD x.ax.toNat Tc.ax.aa).y,2*((cs.getD x.ax.toNat Tc.ax.aa).z+(m (je x.ax ((pg x.half).headD 0))).getD 0)+jd (bZ bs x.box).1⟩
def yZ(cs:List dp)(bs:List aJ)(l:List ay)(k:Nat):List sK:=(List.range k).map fun j=>AR cs bs (jv bs (l.take j)) (l.getD j Tc.aq.aa)
def CX(cs:List dp)(bs:List aJ)(l:List ay):List sK:=yZ cs bs l l.length
theorem To(cs)(bs)(l)(k):yZ cs bs l (k+1)=yZ cs bs l k ++ [AR cs bs (jv bs (l.take k)) (l.getD k Tc.aq.aa)]:=by
 unfold yZ;rw [ahH,sC];rfl
theorem ac1(cs)(bs)(l)(k):(yZ cs bs l k).length=k:=by unfold yZ; simp
theorem Tp(h:k<l.length):jv bs (l.take (k+1))=sk bs (jv bs (l.take k)) (l.getD k Tc.aq.aa):=by
 unfold jv;rw [yR Tc.aq.aa h,ahv];rfl
theorem GD{t c B:Int}(ht:0<=t/\t<=2896):∀ (hs) (m),(∀ k,0<=(m k).getD 0/\(m k).getD 0<=B)->∀ k,0<=(qW t c m hs k).getD 0/\(qW t c m hs k).getD 0<=B+2896*hs.length
 | [],m,h,k=>by have:=h k; simpa [qW] using this
 | x::hs,m,h,k=>by
  have h2:∀ k,0<=((fl m (je c x) ((m (je c x)).getD 0+t)) k).getD 0/\((fl m (je c x) ((m (je c x)).getD 0+t)) k).getD 0<=B+2896:=fun k=>by
   have h3:=h k;have h4:=h (je c x);unfold fl;split
   . simp only [gZ]; omega
   . omega
  have h5:=GD (c:=c) (B:=B+2896) ht hs _ h2 k;have e:qW t c m (x::hs)=qW t c (fl m (je c x) ((m (je c x)).getD 0+t)) hs:=rfl;rw [e];simp only [c9];omega
theorem aqN(h):(pg h).length<=2/\1<=(pg h).length:=by
 unfold pg;cases decide (h=1)<;>cases decide (h=2)<;>simp
theorem aqO(bs)(l)(k):0<=(jv bs l k).getD 0/\(jv bs l k).getD 0<=5792*l.length:=by
 have:∀ (l:List ay) (m:List Kx->Option Int) (B:Int),(∀ k,0<=(m k).getD 0/\(m k).getD 0<=B)->∀ k,0<=(l.foldl (sk bs) m k).getD 0/\(l.foldl (sk bs) m k).getD 0<=B+5792*(l.length:Int):=by
  intro l
  induction l with
  | nil=>intro m B h k; simpa using h k
  | cons x l ih =>
   intro m B h k;have h1:=GD (c:=x.ax) (u6 (bZ bs x.box).1) (pg x.half) m h;have h2:=aqN x.half;have h3:=ih (sk bs m x) (B+5792) (fun k=>by
    have:=h1 k;unfold sk
    omega) k
   simp only [Nr,c9];omega
 have:=this l (fun _=>none) 0 (fun k=>by simp) k;unfold jv;omega
theorem aqP{x:ay}(h:ee s bs l=true)(hx:x∈l):0<=x.ax/\x.ax<s.aE.length:=by
 obtain⟨k,hk,rfl⟩:=zn hx;unfold ee at h;simp only [au,aI] at h;have h1:=h.2.1 k hk;unfold mS r9 at h1;have e:l.getD k Tc.aq.aa=l[k]:=by rw [ba,bp hk,gZ]
 rw [e] at h1;simp only [au,aI] at h1;exact⟨h1.2.1.1.1,h1.2.1.1.2.1⟩
theorem aqQ(h:gu s=true)(hk:k<s.aE.length):(-500000<=(s.aE.getD k Tc.ax.aa).x/\(s.aE.getD k Tc.ax.aa).x<=500000)/\(-500000<=(s.aE.getD k Tc.ax.aa).y/\(s.aE.getD k Tc.ax.aa).y<=500000) /\ -500000<=(s.aE.getD k Tc.ax.aa).z/\(s.aE.getD k Tc.ax.aa).z<=500000:=by
 unfold gu at h;simp only [au] at h;have h6:=dK.1 h.2.1 _ (lG Tc.ax.aa hk);generalize s.aE.getD k Tc.ax.aa=c at *
 unfold jQ at h6;simp only [au] at h6;have hx:=dK.1 h6.2 ⟨c.x,-500000,500000⟩ (by simp [sd]);have hy:=dK.1 h6.2 ⟨c.y,-500000,500000⟩ (by simp [sd]);have hz:=dK.1 h6.2 ⟨c.z,-500000,500000⟩ (by simp [sd]);unfold nB at hx hy hz;simp only [au,aI] at hx hy hz;exact⟨hx,hy,hz⟩
def jS(s:aZ)(bs:List aJ)(l:List ay):Bool:=decide ((mR bs).2=0)&&ee s bs l
def vi(bs:List aJ):Prop:=bs.length<=1000000000000/\∀ b∈bs,b.num.size<=140737488351232
def ac2:aH:=lE 69 ou pZ u2 (fun s bs l=>p7 (s ())/\vi (bs ())/\(l ()).length<=40) (fun s bs l => .aU [.sl true .mid fun _=>cond (jS (s ()) (bs ()) (l ())) (CX (s ()).aE (bs ()) (aV (l ()))) [],.bool fun _=>jS (s ()) (bs ()) (l ())])
def aqR(cs:List dp)(bs:List aJ)(L:Unit->List ay):Lp where
 X:=Nat
 ov k := [(42,.int .i64 fun _=>(k:Int)),(11,.own 3)]
 oe k := [(2,.map true false (.arr 2 (.int .i64)) .int 243 fun _=>jv bs ((L ()).take k)),(3,.row true .mid 141 fun _=>yZ cs bs (L ()) k)]
 I k:=k<=(L ()).length
 μ k _:=(L ()).length - k
 x0:=0
 nx:=some fun k=>k+1
def Tq(t c:Unit->Int)(m:Unit->List Kx->Option Int)(hs:Unit->List Int):Lp where
 X:=Nat
 ov j := [(106,.int .i64 fun _=>(j:Int))]
 oe j := [(2,.map true false (.arr 2 (.int .i64)) .int 243 fun _=>qW (t ()) (c ()) (m ()) ((hs ()).take j))]
 I j:=j<=(hs ()).length
 μ j _:=(hs ()).length - j
 x0:=0
 nx:=some fun j=>j+1
theorem GF(b):(⟨b.id,b.num,b.size,b.high,b.af,b.load,b.kz,b.cls,b.vU⟩:aJ)=b:=rfl
theorem Tr{t c:Int}{m:List Kx->Option Int}{hs:List Int}(h:j<hs.length):fl (qW t c m (hs.take j)) [Kx.i .i64 c,Kx.i .i64 (hs.getD j Tc.u8.aa)] ((qW t c m (hs.take j) [Kx.i .i64 c,Kx.i .i64 (hs.getD j Tc.u8.aa)]).getD Tc.int.aa+t)=qW t c m (hs.take (j+1)):=by
 unfold qW;rw [yR (Tc.u8.aa) h,ahv];rfl
theorem all_true{A B C D E:Prop}(hA:A)(hB:B)(hC:C)(hD:D)(hE:E):A=True/\B=True/\C=True/\D=True/\E=True:=⟨eq_true hA,eq_true hB,eq_true hC,eq_true hD,eq_true hE⟩
theorem aqS:aK Tryz.prog ac2:=by
 refine ano [] [(8,[1,2,3,10,11]),(22,[1,3,10,11,13,14,17,18,40,41,42]),(27,[10,11,17,42])] [(21,bo [0,1,2,3,4,5,6,7,8,9,10,11,12,13,14,15,16,17,18] .nil),(25,bo [0,1,2,4,5] (.alt (.op 3 (.alt (.op 6 (.alt (bo [7,8,9,10,11,12,13] .nil) (.op 8 (.alt (bo [7,9,10,11,12,13] .nil) (.op 9 (.alt (bo [7,10,11,12,13] .nil) (bo [11,12,7,10,13] .nil))))))) (.op 8 (.alt (.op 6 (.alt (bo [7,9,10,11,12,13] .nil) (.op 9 (.alt (bo [7,10,11,12,13] .nil) (bo [11,12,7,10,13] .nil))))) (bo [9,6] (.alt (bo [7,10,11,12,13] .nil) (bo [11,12,7,10,13] .nil))))))) (.op 8 (.alt (.op 3 (.alt (.op 6 (.alt (bo [7,9,10,11,12,13] .nil) (.op 9 (.alt (bo [7,10,11,12,13] .nil) (bo [11,12,7,10,13] .nil))))) (bo [9,6] (.alt (bo [7,10,11,12,13] .nil) (bo [11,12,7,10,13] .nil))))) (bo [9,3,6] (.alt (bo [7,10,11,12,13] .nil) (bo [11,12,7,10,13] .nil)))))))] [acZ,SE,abC,abE] ⟨aqM,aca,aoW,aoY,trivial⟩ [SQ,Tk] ⟨ap8,aqI,trivial⟩ Tryz.func69 (by kernel_rfl) fun ai res h hp => ?_;obtain⟨(s:aZ),(bs:List aJ),(l:List ay),rfl,rfl⟩:=mO h;clear h;have cf:p7 s/\vi bs/\l.length<=40:=hp;have h1:=cf.1;have h2:=cf.2.1;have h3:=cf.2.2;have BS:(aV l).length=l.length:=(CW l).length_eq;clear hp cf;refine⟨[(9,aqR s.aE bs fun _=>aV l)],?_⟩
 conv=>arg 1; cbv
 refine⟨h2,fun g1 => ?_,fun g1=>⟨⟨h1,h2.1,e8 h3 (by decide)⟩,fun g2 => ?_,fun g2=>⟨e8 h3 (by decide),h3,?_,fun (k:Nat) hk => ?_⟩⟩⟩
 . have tq:(!decide ((mR bs).2=0))=true:=g1;have hc:jS s bs l=false:=by
    unfold jS;simp only [iG] at tq;rw [tq];rfl
   simp (maxSteps:=4000000) only [aB];rw [hc];exact⟨rfl,rfl⟩
 . have qV:(!ee s bs l)=true:=g2;have hc:jS s bs l=false:=by
    unfold jS;simp only [iG] at qV;rw [qV,tY]
   simp (maxSteps:=4000000) only [aB];rw [hc];exact⟨rfl,rfl⟩
 . simp (maxSteps:=4000000) only [aB];exact⟨cm _,rfl,rfl,rfl⟩
 have tq:(!decide ((mR bs).2=0))=false:=g1;have qV:(!ee s bs l)=false:=g2;simp only [jY] at tq qV;have hc:jS s bs l=true:=by
  unfold jS;rw [tq,qV];rfl
 have fP:k<=(aV l).length:=hk;have AM:gu s=true:=by
  unfold ee at qV;simp only [au] at qV;exact qV.1
 clear hk g1 g2
 conv=>arg 1; cbv
 refine⟨fun g3 => ?_,fun g3 => ?_⟩
 . have aj:k<(aV l).length:=by
    have sh:decide ((k:Int)<((aV l).length:Int))=true:=g3;simp only [aI] at sh;omega
   have aqT:=aqP qV ((CW l).mem_iff.1 (lG Tc.aq.aa aj));have LK:=aqQ AM (k:=((aV l).getD k Tc.aq.aa).ax.toNat) oo;have y0:=aqO bs ((aV l).take k);have vj:((aV l).take k).length<=40:=by rw [c6]; omega
   refine⟨⟨Vm k,tW g3⟩,h2.1,aqT,fun g4 => ?_,fun g4=>⟨fun g5 => ?_,fun g5 => ?_⟩⟩
   . have gh:((aV l).getD k Tc.aq.aa).half=1:=tW g4;refine⟨⟨by simp only [gV,dV]; omega,by simp only [gV,dV]; omega⟩,?_⟩;have eW:(Tc.int.aa:Int)=0:=rfl;have h9:=y0 [Kx.i .i64 ((aV l).getD k Tc.aq.aa).ax,Kx.i .i64 (([((aV l).getD k Tc.aq.aa).half]).getD (Int.toNat 0) Tc.u8.aa)];have ht:=u6 (bZ bs ((aV l).getD k Tc.aq.aa).box).1;refine⟨⟨j3 0,by simp⟩,(show aY (([((aV l).getD k Tc.aq.aa).half]).getD (Int.toNat 0) Tc.u8.aa) from by rw [show [((aV l).getD k Tc.aq.aa).half].getD (Int.toNat 0) Tc.u8.aa=((aV l).getD k Tc.aq.aa).half from rfl,gh]; exact⟨oo,oo⟩),?_,?_,trivial,?_,?_⟩
     . exact CY
     . exact CY
     . exact Ts
     refine⟨Tq (fun _=>jd (bZ bs ((aV l).getD k Tc.aq.aa).box).1) (fun _=>((aV l).getD k Tc.aq.aa).ax) (fun _=>jv bs ((aV l).take k)) (fun _ => [((aV l).getD k Tc.aq.aa).half]),?_⟩
     conv=>arg 1; cbv
     refine⟨?_,fun (j:Nat) hj => ?_⟩
     . exact xb
     have gQ:j<=([((aV l).getD k Tc.aq.aa).half]).length:=hj
     conv=>arg 1; cbv
     simp (maxSteps:=4000000) only [aB];clear g3 g4 hj h9;have cN:=fun key=>GD (c:=((aV l).getD k Tc.aq.aa).ax) (u6 (bZ bs ((aV l).getD k Tc.aq.aa).box).1) (([((aV l).getD k Tc.aq.aa).half]).take j) (jv bs ((aV l).take k)) y0 key;have Tt:=fun h=>Tr (t:=jd (bZ bs ((aV l).getD k Tc.aq.aa).box).1) (c:=((aV l).getD k Tc.aq.aa).ax) (m:=jv bs ((aV l).take k)) (hs := [((aV l).getD k Tc.aq.aa).half]) (j:=j) h;have CZ:=To s.aE bs (aV l) k;have C1:=Tp (bs:=bs) aj;unfold AR at CZ;unfold sk at C1;simp only [GF];generalize hX:(aV l).getD k Tc.aq.aa=x at *
     generalize hM:jv bs ((aV l).take k)=M0 at *
     generalize (bZ bs x.box).1=b at *
     simp only [Gm,Gn,gZ];refine⟨fun g6 => ?_,fun g6 => ?_⟩
     . exact ac3
     . have hT:([x.half]).take j = [x.half]:=lL oo;have Tu:pg x.half = [x.half]:=by
        unfold pg;simp [gh]
       have Tv:tt (s.aE.getD x.ax.toNat Tc.ax.aa) x.half=(s.aE.getD x.ax.toNat Tc.ax.aa).x+3050:=by
        unfold tt;simp [gh]
       exact Tw
   . have gh:((aV l).getD k Tc.aq.aa).half=2:=tW g5;refine⟨⟨by simp only [gV,dV]; omega,by simp only [gV,dV]; omega⟩,?_⟩;clear g4;have g4:=g5;clear g5;have eW:(Tc.int.aa:Int)=0:=rfl;have h9:=y0 [Kx.i .i64 ((aV l).getD k Tc.aq.aa).ax,Kx.i .i64 (([((aV l).getD k Tc.aq.aa).half]).getD (Int.toNat 0) Tc.u8.aa)];have ht:=u6 (bZ bs ((aV l).getD k Tc.aq.aa).box).1;refine⟨⟨j3 0,by simp⟩,(show aY (([((aV l).getD k Tc.aq.aa).half]).getD (Int.toNat 0) Tc.u8.aa) from by rw [show [((aV l).getD k Tc.aq.aa).half].getD (Int.toNat 0) Tc.u8.aa=((aV l).getD k Tc.aq.aa).half from rfl,gh]; exact⟨oo,oo⟩),?_,?_,trivial,?_,?_⟩
     . exact CY
     . exact CY
     . exact Ts
     refine⟨Tq (fun _=>jd (bZ bs ((aV l).getD k Tc.aq.aa).box).1) (fun _=>((aV l).getD k Tc.aq.aa).ax) (fun _=>jv bs ((aV l).take k)) (fun _ => [((aV l).getD k Tc.aq.aa).half]),?_⟩
     conv=>arg 1; cbv
     refine⟨?_,fun (j:Nat) hj => ?_⟩
     . exact xb
     have gQ:j<=([((aV l).getD k Tc.aq.aa).half]).length:=hj
     conv=>arg 1; cbv
     simp (maxSteps:=4000000) only [aB];clear g3 g4 hj h9;have cN:=fun key=>GD (c:=((aV l).getD k Tc.aq.aa).ax) (u6 (bZ bs ((aV l).getD k Tc.aq.aa).box).1) (([((aV l).getD k Tc.aq.aa).half]).take j) (jv bs ((aV l).take k)) y0 key;have Tt:=fun h=>Tr (t:=jd (bZ bs ((aV l).getD k Tc.aq.aa).box).1) (c:=((aV l).getD k Tc.aq.aa).ax) (m:=jv bs ((aV l).take k)) (hs := [((aV l).getD k Tc.aq.aa).half]) (j:=j) h;have CZ:=To s.aE bs (aV l) k;have C1:=Tp (bs:=bs) aj;unfold AR at CZ;unfold sk at C1;simp only [GF];generalize hX:(aV l).getD k Tc.aq.aa=x at *
     generalize hM:jv bs ((aV l).take k)=M0 at *
     generalize (bZ bs x.box).1=b at *
     simp only [Gm,Gn,gZ];refine⟨fun g6 => ?_,fun g6 => ?_⟩
     . exact ac3
     . have hT:([x.half]).take j = [x.half]:=lL oo;have Tu:pg x.half = [x.half]:=by
        unfold pg;simp [gh]
       have Tv:tt (s.aE.getD x.ax.toNat Tc.ax.aa) x.half=(s.aE.getD x.ax.toNat Tc.ax.aa).x - 3050:=by
        unfold tt;simp [gh]
       exact Tw
   . have gh:¬ ((aV l).getD k Tc.aq.aa).half=1/\¬ ((aV l).getD k Tc.aq.aa).half=2:=⟨Ni g4,Ni g5⟩
     clear g4;have g4:=g5;clear g5;have eW:(Tc.int.aa:Int)=0:=rfl;have h9:=y0 [Kx.i .i64 ((aV l).getD k Tc.aq.aa).ax,Kx.i .i64 (([(1:Int),2]).getD (Int.toNat 0) Tc.u8.aa)];have ht:=u6 (bZ bs ((aV l).getD k Tc.aq.aa).box).1;refine⟨⟨j3 0,by simp⟩,(show aY (([(1:Int),2]).getD (Int.toNat 0) Tc.u8.aa) from ⟨by decide,by decide⟩),?_,?_,trivial,?_,?_⟩
     . exact CY
     . exact CY
     . exact Ts
     refine⟨Tq (fun _=>jd (bZ bs ((aV l).getD k Tc.aq.aa).box).1) (fun _=>((aV l).getD k Tc.aq.aa).ax) (fun _=>jv bs ((aV l).take k)) (fun _ => [(1:Int),2]),?_⟩
     conv=>arg 1; cbv
     refine⟨?_,fun (j:Nat) hj => ?_⟩
     . exact xb
     have gQ:j<=([(1:Int),2]).length:=hj
     conv=>arg 1; cbv
     simp (maxSteps:=4000000) only [aB];clear g3 g4 hj h9;have cN:=fun key=>GD (c:=((aV l).getD k Tc.aq.aa).ax) (u6 (bZ bs ((aV l).getD k Tc.aq.aa).box).1) (([(1:Int),2]).take j) (jv bs ((aV l).take k)) y0 key;have Tt:=fun h=>Tr (t:=jd (bZ bs ((aV l).getD k Tc.aq.aa).box).1) (c:=((aV l).getD k Tc.aq.aa).ax) (m:=jv bs ((aV l).take k)) (hs := [(1:Int),2]) (j:=j) h;have CZ:=To s.aE bs (aV l) k;have C1:=Tp (bs:=bs) aj;unfold AR at CZ;unfold sk at C1;simp only [GF];generalize hX:(aV l).getD k Tc.aq.aa=x at *
     generalize hM:jv bs ((aV l).take k)=M0 at *
     generalize (bZ bs x.box).1=b at *
     simp only [Gm,Gn,gZ];refine⟨fun g6 => ?_,fun g6 => ?_⟩
     . have nT:∀ y ∈ [(1:Int),2],1<=y/\y<=2:=by simp [gh]
       have GB:([(1:Int),2]).length<=2:=by simp
       generalize [(1:Int),2]=hs at *
       exact s_3
     . have hT:([(1:Int),2]).take j = [(1:Int),2]:=lL oo;have Tu:pg x.half = [(1:Int),2]:=by
        unfold pg;simp [gh]
       have Tv:tt (s.aE.getD x.ax.toNat Tc.ax.aa) x.half=(s.aE.getD x.ax.toNat Tc.ax.aa).x:=by
        unfold tt;simp [gh]
       exact Tw
 . have cF:(aV l).length<=k:=by
    have sh:decide ((k:Int)<((aV l).length:Int))=false:=g3;simp only [fR] at sh;omega
   have jJ:k=(aV l).length:=oo
   simp (maxSteps:=4000000) only [aB];rw [hc,jJ];exact⟨rfl,rfl⟩
def vk(cV row:Int)(fv:Bool)(c:dp):Bool:=decide (c.cV=cV)&&(decide (c.row=row)&&decide (c.fv=fv))
def ax6(f:FuncId):AV->Option (Unit->Int×Int×Bool)
 | .fn g [.bg [.int .i64 a] 0,.bg [.int .i64 b] 0,.bg [.bool c] 0]=>if g=f then some fun _=>(a (),b (),c ()) else none
 | _=>none
def ac5:aH:=uY 294 R0 F6 F6 kPB (fun _ _ _ _=>True) (fun c a b d => .bool fun _=>vk (a ()) (b ()) (d ()) (c ()))
theorem aqU:aK Tryz.prog ac5:=by
 refine cd [] trivial Tryz.func294 (by kernel_rfl) fun ai res h hp => ?_;obtain⟨(c:dp),(a:Int),(b:Int),(d:Bool),rfl,rfl⟩:=yN h;clear h;refine⟨[],?_⟩
 conv=>arg 1; cbv
 simp (maxSteps:=4000000) only [aB];unfold vk;grind
def vl(p : α->Bool)(d : α)(l:List α)(k:Nat):List Int:=((List.range k).filter fun j=>p (l.getD j d)).map fun (j:Nat)=>j
theorem aqV(p)(d)(l:List α)(k):vl p d l (k+1)=vl p d l k++cond (p (l.getD k d)) [(k:Int)] []:=by
 unfold vl;rw [ahH,HV,sC];congr 1;cases h:p (l.getD k d)<;>simp [h,-List.getD_eq_getElem?_getD]
theorem aqW(p)(d)(l:List α)(k):(vl p d l k).length<=k:=by
 unfold vl;rw [iQ];exact e8 (List.length_filter_le _ _) (by simp)
def Tx:aH:=⟨293,[.sl .ax,.fn [.bg [.int .i64],.bg [.int .i64],.bg [.bool]]],fun
 | [x0,.fn g [.bg [.int .i64 a] 0,.bg [.int .i64 b] 0,.bg [.bool d] 0]]=>(x0.K4).bind fun l=>if g=294 then some ⟨fun _=>(l ()).length<=1000000,.sl true .int fun _=>vl (vk (a ()) (b ()) (d ())) Tc.ax.aa (l ()) (l ()).length⟩ else none
 | _=>none⟩
def aqX(l:List dp)(p:dp->Bool):Lp where
 X:=Nat
 ov k := [(10,.int .i64 fun _=>(k:Int)),(5,.own 0)]
 oe k := [(0,.row true .int 3 fun _=>vl p Tc.ax.aa l k)]
 I k:=k<=l.length
 μ k _:=l.length - k
 x0:=0
 nx:=some fun k=>k+1
theorem aqY:aK Tryz.prog Tx:=by
 refine cd [ac5] ⟨aqU,trivial⟩ Tryz.func293 (by kernel_rfl) fun ai res h hp => ?_;simp only [Tx] at h;split at h
 case h_2=>cases h
 rename_i x0 g a b d;simp only [lK] at h;obtain⟨l,e0,h⟩:=h;split at h
 case isFalse=>cases h
 rename_i hg;subst hg;cases h;obtain rfl:=AV.aa6 e0;clear e0;obtain⟨l,rfl⟩:=eta (α:=List dp) l;obtain⟨a,rfl⟩:=eta (α:=Int) a;obtain⟨b,rfl⟩:=eta (α:=Int) b;obtain⟨d,rfl⟩:=eta (α:=Bool) d;have hl:l.length<=1000000:=hp;refine cL (vk a b d) fun p hpp => ?_;refine⟨[(3,aqX l p)],?_⟩
 conv=>arg 1; cbv
 refine⟨?_,fun (k:Nat) hk => ?_⟩
 . exact xb
 have fP:k<=l.length:=hk
 conv=>arg 1; cbv
 simp (maxSteps:=4000000) only [aB];simp only [hpp,ab4];have hlen:=aqW p Tc.ax.aa l k;have qX:=aqV p Tc.ax.aa l k;refine⟨fun g1 => ?_,fun g1 => ?_⟩
 . have aj:k<l.length:=oo
   refine⟨oo,trivial,fun h => ?_,fun h => ?_⟩
   . rw [h,eG] at qX;exact⟨by simp only [c9,fE]; omega,⟨oo,oo⟩,⟨aj,oo⟩,oo,qX.symm⟩
   . rw [h,fG,qk] at qX;exact⟨⟨oo,oo⟩,⟨aj,oo⟩,oo,qX.symm⟩
 . rw [show k=l.length from oo]
def sm(cs:List dp)(a b:Int)(d:Bool):List Int:=vl (vk a b d) Tc.ax.aa cs cs.length
def ac6:aH:=uY 239 ou kI kI kB (fun s _ _ _=>(s ()).aE.length<=1000000) (fun s a b d => .aU [.int .i64 fun _=>(sm (s ()).aE (a ()) (b ()) (d ())).headD 0,.bool fun _ => !(sm (s ()).aE (a ()) (b ()) (d ())).isEmpty])
theorem aq0:aK Tryz.prog ac6:=by
 refine cd [Tx] ⟨aqY,trivial⟩ Tryz.func239 (by kernel_rfl) fun ai res h hp => ?_;obtain⟨(s:aZ),(a:Int),(b:Int),(d:Bool),rfl,rfl⟩:=yN h;clear h;have hl:s.aE.length<=1000000:=hp;refine⟨[],?_⟩
 conv=>arg 1; cbv
 refine cL (sm s.aE a b d) fun L hL => ?_;simp (maxSteps:=4000000) only [aB];have hL':vl (vk a b d) Tc.ax.aa s.aE s.aE.length=L:=hL;simp only [hL',hL]
 cases L with
 | nil=>simp [hl]
 | cons x L=>simp [hl]; omega
def vm(c t:Nat)(sz:Int):List Slot:=(l8 sz).map fun h=>⟨ c,t,h⟩
def so(c:Nat)(sz:Int):Nat->List Slot
 | 0 => []
 | t+1=>so c sz t++vm c t sz
def qb(ts:List Int)(sz:Int):Nat->List Slot
 | 0 => []
 | c+1=>qb ts sz c++so c sz (ts.getD c 0).toNat
theorem Ty(c t)(sz):(vm c t sz).length=(l8 sz).length:=by simp [vm]
theorem Tz(c)(sz):∀ t,(so c sz t).length<=2*t
 | 0=>az _
 | t+1=>by
  unfold so;rw [ej,Ty];have:=Tz c sz t;have:=Sy sz;omega
theorem LM(ts)(sz)(rX:∀ t∈ts,t<=1000):∀ c,(qb ts sz c).length<=2000*c
 | 0=>az _
 | c+1=>by
  unfold qb;rw [ej];have h1:=LM ts sz rX c;have h2:=Tz c sz (ts.getD c 0).toNat;have h3:(ts.getD c 0).toNat<=1000:=by
   by_cases hc:c<ts.length
   . have:=rX _ (lG 0 hc);omega
   . rw [ba,sA oo];simp
  omega
theorem aq2(c t)(sz)(hh:h<(l8 sz).length):so c sz t++(vm c t sz).take h ++ [⟨ c,t,(l8 sz).getD h 0⟩]=so c sz t++(vm c t sz).take (h+1):=by
 rw [gv];congr 1;rw [List.take_add_one,vm,gY,bp hh,ba,bp hh];rfl
theorem aq3(size)(w):Calls Tryz.prog 309 #[.int .u8 size] w fun e w'=>∃ A c,e = .returned (.slice A (l8 size).length c)/\Rd w' w'.heap.size 1 A ((l8 size).map AE)/\(∀ a,A=some a->∃ cur,w'.heap[a.block]? = some (.cells cur 5 (0,0)))/\cU w w':=by
 by_cases h4:size=40
 . subst h4
   go_enter Tryz.func309,Tryz.ntmps309
   go_wp2
   go_ret
   exact⟨_,_,rfl,Rd.rows (css := [[.int .u8 0]]) (ry w _) rfl (by simp),fun a e=>by cases e; exact⟨_,ry w _⟩,(cA _ _).alloc (az _) _⟩
 . by_cases h2:size=20
   . subst h2
     go_enter Tryz.func309,Tryz.ntmps309
     go_wp2
     go_ret
     exact⟨_,_,rfl,Rd.rows (css := [[.int .u8 1],[.int .u8 2]]) (ry w _) rfl (by simp),fun a e=>by cases e; exact⟨_,ry w _⟩,(cA _ _).alloc (az _) _⟩
   . have e:l8 size = []:=by unfold l8; rw [ar h4,ar h2]
     have FF:(size==40)=false:=by simpa using h4
     have YX:(size==20)=false:=by simpa using h2
     rw [e]
     go_enter Tryz.func309,Tryz.ntmps309
     go_wp2
     go_ret
     exact⟨none,0,rfl,Rd.nil _ _ _ _,(fun a e=>by cases e),cA _ _⟩
theorem aq4(v)(vs)(hv:v = .agg vs)(sz)(w):Calls Tryz.prog 295 #[v,.int .u8 sz] w fun e w'=>e = .returned (.func (.func 336) #[] #[.pointer (some ⟨w.heap.size,0,none⟩),.pointer (some ⟨w.heap.size+1,0,none⟩)])/\w'=(w.alloc (.cells vs 32 (0,0))).alloc (.cells #[.int .u8 sz] 5 (0,0)):=by
 subst hv
 go_enter Tryz.func295,Tryz.ntmps295
 go_wp2
 go_ret
 exact⟨rfl,rfl⟩
end Go.Proofs.YtlpikgchnjajmaaGreat
