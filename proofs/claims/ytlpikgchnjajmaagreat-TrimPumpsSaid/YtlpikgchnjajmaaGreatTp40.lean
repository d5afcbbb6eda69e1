/-
  trim by the abstract run: State, Faults, sums, Ballast.
-/
import Derived.Test.YtlpikgchnjajmaaGreatTp39
set_option linter.all false
set_option maxRecDepth 100000
set_option maxHeartbeats 4000000
namespace Go.Proofs.YtlpikgchnjajmaaGreat
open Go.RowKit
variable{w:List Int}{s:aZ}
def zi(s:aZ)(bs:List aJ)(l:List ay)(w:List Int):Prop:=(Dv s/\vi bs)/\l.length<=40/\w.length<=1000000000000
def MR:aH:=uY 21 ou pZ u2 nu (fun s bs l w=>zi (s ()) (bs ()) (l ()) (w ())) (fun s bs l w => .aU [.agg (agy fun _=>(jf (s ()) (bs ()) (l ()) (w ())).1),.int .i64 fun _=>(jf (s ()) (bs ()) (l ()) (w ())).2])
theorem U9:aK Tryz.prog MR:=by
 refine eE { kp := [(0,[0,1,2,3]),(1,[1,2,3,4,8]),(2,[3,4,8,10,11]),(3,[8,11]),(4,[3,4,8,10])],lt := [] } [U6,U7] ⟨agx,agB,trivial⟩ [] trivial Tryz.func21 (by kernel_rfl) fun ai res h hp => ?_;obtain⟨(s:aZ),(bs:List aJ),(l:List ay),(w:List Int),rfl,rfl⟩:=yN h;clear h;have cf:zi s bs l w:=hp;refine⟨[],?_⟩
 conv=>arg 1; cbv
 simp (maxSteps:=4000000) only [aB,aR,aS,bw];have es:(⟨s.aE,s.dh,s.lk,s.lx,s.ly,s.lz,s.rows,s.uZ,s.aM,s.m1,s.m2,s.m3,s.m4⟩:aZ)=s:=rfl;simp only [es,xm];refine⟨cf,fun c => ?_,fun c=>⟨⟨cf.1.1,cf.2.2⟩,?_⟩⟩
 . have g:(gM s bs l w).2≠0:=by simpa using c
   have e:jf s bs l w=(vy,(gM s bs l w).2):=by unfold jf; rw [aw g]
   rw [e];exact⟨rfl,cz rfl (cz rfl (cz rfl (cz rfl (cz rfl rfl))))⟩
 . have g:(gM s bs l w).2=0:=by simpa using c
   have e:jf s bs l w=kS s (gM s bs l w).1 w:=by unfold jf; rw [ar (fun q=>q g)]
   rw [e];exact⟨rfl,cq rfl (cq rfl (cq rfl (cq rfl (cq rfl rfl))))⟩
def mg.fits(f:mg):Prop:=(f.dr.fits/\f.tr.fits)/\f.de.fits/\f.y.fits/\f.st.fits
theorem agC(s:aZ)(l:Ld)(w:List Int):(kS s l w).1.fits:=by
 have hz:vy.fits:=⟨⟨jC,jC⟩,jC,jC,jC⟩
 unfold kS;split
 . exact hz
 . split
   . exact hz
   . split
     . exact hz
     . exact⟨⟨(agA _ _).1.1,NV _ _⟩,aib _ _,(aev _).2.1,NU _ _⟩
theorem MS(s:aZ)(bs:List aJ)(l:List ay)(w:List Int):(jf s bs l w).1.fits:=by
 unfold jf;split
 . exact⟨⟨jC,jC⟩,jC,jC,jC⟩
 . exact agC _ _ _
def MT(f:mg):px:=⟨f.af,eX f.dr,eX f.tr,eX f.de,eX f.y,eX f.st⟩
theorem agD(f:mg):afY (MT f):=⟨mf _,mf _,mf _,mf _,mf _⟩
theorem agE{f:mg}(h:f.fits):tN (MT f)=f:=by
 unfold tN MT;dsimp only;rw [iO h.1.1,iO h.1.2,iO h.2.1,iO h.2.2.1,iO h.2.2.2]
theorem agF(f:mg):(⟨f.af,eX f.dr,eX f.tr,eX f.de,eX f.y,eX f.st⟩:px)=MT f:=rfl
theorem agG{bs:List aJ}{l:List ay}(h:(gM s bs l w).2≠2):mW s=true/\dR s.aM w=true:=by
 unfold gM at h;split at h
 . rename_i c;rwa [au] at c
 . exact absurd rfl h
theorem avT(h:mW s=true):(0<=s.m2/\s.m2<=1000000)/\(0<=s.m3/\s.m3<=1000000)/\0<=s.m4/\s.m4<=1000000:=by
 exact agw
theorem agH(h:mW s=true):aY s.m2/\aY s.m3/\aY s.m4:=by
 have:=avT h;exact⟨ii,ii,ii⟩
def agI:aH:=K0 34 ou pZ u2 nu kI (fun s bs l w d=>zi (s ()) (bs ()) (l ()) (w ())/\aY (d ())) (fun s bs l w d => .aU [.int .u8 fun _=>(Ba (s ()) (bs ()) (l ()) (w ()) (d ())).1,.int .i64 fun _=>(Ba (s ()) (bs ()) (l ()) (w ()) (d ())).2])
theorem avU:aK Tryz.prog agI:=by
 refine eE { kp := [(0,[0,1,2,3,4]),(1,[1,2,3,4,5]),(2,[4,5,12,13]),(3,[13]),(4,[4,5,12])],lt := [],ct := [4] } [MR,U1] ⟨U9,af4,trivial⟩ [] trivial Tryz.func34 (by kernel_rfl) fun ai res h hp => ?_;obtain⟨(s:aZ),(bs:List aJ),(l:List ay),(w:List Int),(d:Int),rfl,rfl⟩:=aa2 h;clear h;have Hq:zi s bs l w/\aY d:=hp;have cf:=Hq.1;have hd:=Hq.2;refine⟨[],?_⟩
 conv=>arg 1; cbv
 simp (maxSteps:=4000000) only [aB,aR,aS,bw];have es:(⟨s.aE,s.dh,s.lk,s.lx,s.ly,s.lz,s.rows,s.uZ,s.aM,s.m1,s.m2,s.m3,s.m4⟩:aZ)=s:=rfl;simp only [es,xm];refine⟨cf,fun c => ?_,fun c => ?_⟩
 . have g:(jf s bs l w).2≠0:=by simpa using c
   have e:Ba s bs l w d=(0,(jf s bs l w).2):=by unfold Ba; rw [aw g]
   rw [e];exact⟨rfl,rfl⟩
 have g:(jf s bs l w).2=0:=by simpa using c
 have e:Ba s bs l w d=(Dk (jf s bs l w).1 s.m2 s.m3 s.m4 d,0):=by unfold Ba; rw [ar (fun q=>q g)]
 have vQ:(gM s bs l w).2≠2:=fun q=>by
  unfold jf at g;rw [q,aw (by decide)] at g;cases g
 have hl:=agH (agG vQ).1;have hf:=MS s bs l w;rw [e];refine fun _ _ => ?_
 conv=>arg 1; cbv
 simp (maxSteps:=4000000) only [aB,aR,aS,bw];generalize (jf s bs l w).1=F at *
 simp only [es,xm,pn,agF,agE hf];exact⟨⟨agD _,hl.1,hl.2.1,hl.2.2,hd⟩,trivial⟩
def avV(s a:Nat)(l:List Int):Lp where
 X:=Nat
 ov k := [(s,.int .i64 fun _=>(k:Int)),(a,.int .i64 fun _=>tP l k)]
 oe _ := []
 I k:=k<=l.length
 μ k _:=l.length - k
 x0:=0
 nx:=some fun k=>k+1
def agJ:aH:=dU 89 nu (fun l=>(l ()).length<=1000/\∀ k,k<(l ()).length->0<=(l ()).getD k Tc.int.aa/\(l ()).getD k Tc.int.aa<=500000000) (fun l => .int .i64 fun _=>tP (l ()) (l ()).length)
theorem avW:aK Tryz.prog agJ:=by
 refine eE { kp := [(0,[0]),(1,[0]),(2,[0,3]),(3,[3,6,7,8]),(4,[3,6,7,8]),(5,[3,5,6,7,8]),(6,[3,6,7,8]),(7,[3])],lt := [] } [] trivial [] trivial Tryz.func89 (by kernel_rfl) fun ai res h hp => ?_;obtain⟨(l:List Int),rfl,rfl⟩:=eu h;clear h;have nK:l.length<=1000/\∀ k,k<l.length->0<=l.getD k Tc.int.aa/\l.getD k Tc.int.aa<=500000000:=hp;have hl:=nK.1;have hx:=nK.2;refine⟨[(3,avV 8 3 l)],?_⟩
 conv=>arg 1; cbv
 simp (maxSteps:=4000000) only [aB,aR,aS,bw];refine⟨⟨cm _,rfl,rfl⟩,fun (k:Nat) hk => ?_⟩;have cZ:k<=l.length:=hk;clear hk
 conv=>arg 1; cbv
 simp (maxSteps:=4000000) only [aB,aR,aS,bw];refine⟨fun g => ?_,fun g => ?_⟩
 . have hk:k<l.length:=oo
   have h1:=agn hx (k+1) oo;have e:tP l (k+1)=tP l k+l.getD k Tc.int.aa:=rfl;exact⟨⟨oo,oo⟩,ii,ii,⟨oo,oo⟩,oo,rfl⟩
 . rw [show k=l.length from oo]
open Go.RowKit
theorem agK{l:List bX}{w:List Int}(h:dR l w=true)(n:Int):∀ k,k<=l.length->∀ j,j<l.length->0<=(gN l w n k).1.getD j Tc.int.aa/\(gN l w n k).1.getD j Tc.int.aa<=(l.getD j Tc.bD.aa).af
 | 0,_,j,hj=>by
  have:=((gW l w).1 h).2.2 j hj;unfold rj jV at this;rwa [au,aI,aI] at this
 | k+1,hk,j,hj=>by
  have ih:=agK h n k oo j hj;obtain⟨hT,hl,_⟩:=(gW l w).1 h;unfold gN;split
  . exact ih
  . rename_i c;dsimp only;have hlen:=MO l w n k;by_cases e:j=l.length - 1 - k
    . subst e;rw [ba,ahk oo,gZ];have hs:=((tK _).1 (((lI l).1 hT).2 (l.length - 1 - k) hj)).2;have hi:((gN l w n k).2 % (fX l (l.length - 1 - k)).length).toNat<(fX l (l.length - 1 - k)).length:=by
       have m1:=ahI (gN l w n k).2 (show ((fX l (l.length - 1 - k)).length:Int)≠0 from oo);have m2:=ahs (gN l w n k).2 (show 0<((fX l (l.length - 1 - k)).length:Int) from oo);omega
      generalize ((gN l w n k).2 % (fX l (l.length - 1 - k)).length).toNat=i at hi ⊢;have h1:=aff (l.getD (l.length - 1 - k) Tc.bD.aa) i hi fun q hq=>hs q (by show q<(fX l (l.length - 1 - k)).length; omega);have h2:=hs i hi;unfold oE at h2;rw [au,aI,aI] at h2;exact⟨h1,h2.2⟩
    . rw [ba,M7 (fun q=>e q.symm),<- ba];exact ih
theorem avX{l:List bX}(h:dR l w=true)(n:Int):(fY l w n).1.length<=30/\∀ k,k<(fY l w n).1.length->0<=(fY l w n).1.getD k Tc.int.aa/\(fY l w n).1.getD k Tc.int.aa<=500000000:=by
 obtain⟨hT,hl,_⟩:=(gW l w).1 h;have Hg:=((lI l).1 hT).1;have h0:([]:List Int).length<=30/\∀ k,k<([]:List Int).length->0<=([]:List Int).getD k Tc.int.aa/\([]:List Int).getD k Tc.int.aa<=500000000:=⟨cm _,fun k hk=>absurd hk (oJ _)⟩
 unfold fY;split
 . exact h0
 . split
   . exact h0
   . dsimp only;have hn:=MO l w n l.length;refine⟨oo,fun k hk => ?_⟩;have h1:=agK h n l.length (Nat.le_refl _) k oo;have h2:=((tK _).1 (((lI l).1 hT).2 k oo)).1.1.2;omega
def avY(s:aZ)(l:Ld)(w:List Int)(d:Int)(m:Nat)(hv:Bool):Lp where
 X:=Nat
 ov n := [(18,.int .i64 fun _=>(n:Int)),(16,.sl true .int fun _=>(oG s l w d n).1),(17,.int .i64 fun _=>(oG s l w d n).2)]
 oe _ := []
 I n:=n<=m/\(hv=true->n=0)
 μ n _:=m - n
 x0:=0
 nx:=some fun n=>n+1
def agL:aH:=K0 35 ou pZ u2 nu kI (fun s bs l w d=>zi (s ()) (bs ()) (l ()) (w ())/\aY (d ())) (fun s bs l w d => .aU [.sl true .int fun _=>(rn (s ()) (bs ()) (l ()) (w ()) (d ())).1,.int .i64 fun _=>(rn (s ()) (bs ()) (l ()) (w ()) (d ())).2])
theorem avZ:aK Tryz.prog agL:=by
 refine eE { kp := [(0,[0,1,2,3,4]),(1,[1,2,3,4,5]),(2,[3,4,5,12,13]),(3,[13]),(4,[3,4,5,12,13]),(5,[3,4,5,12,14]),(6,[3,4,5,12,13,14,15]),(7,[13]),(8,[3,4,5,12,14,15]),(9,[3,4,5,12,14,15,16]),(10,[3,4,5,12,14,15,16,17]),(11,[3,4,5,12,14,15,16,17,18]),(12,[3,4,5,12,14,15,16,17,18]),(13,[3,4,5,12,14,15,16,17,18]),(14,[3,4,5,12,14,15,16,17,18,19]),(15,[3,4,5,12,14,15,16,17,18,19]),(16,[3,4,5,12,14,15,16,17,18,19,21,22]),(17,[3,4,5,12,14,15,18,19]),(18,[16,17]),(19,[]),(20,[16])],lt := [],ct := [8,15] } [U6,U4,agu,agJ,U7,U1] ⟨agx,agp,avM,avW,agB,af4,trivial⟩ [] trivial Tryz.func35 (by kernel_rfl) fun ai res h hp => ?_;obtain⟨(s:aZ),(bs:List aJ),(l:List ay),(w:List Int),(d:Int),rfl,rfl⟩:=aa2 h;clear h;have Hq:zi s bs l w/\aY d:=hp;have cf:=Hq.1;have hd:=Hq.2;obtain⟨hv,MU⟩:∃ hv:Bool,hv = !decide ((gM s bs l w).2=0):=⟨_,rfl⟩
 obtain⟨D,hD⟩:∃ D,D=(gM s bs l w).1:=⟨_,rfl⟩
 obtain⟨m,hm⟩:∃ m,m=(jX s.aM).1.toNat:=⟨_,rfl⟩
 refine⟨[(11,avY s D w d m hv)],?_⟩
 conv=>arg 1; cbv
 simp (maxSteps:=4000000) only [aB,aR,aS,bw];have es:(⟨s.aE,s.dh,s.lk,s.lx,s.ly,s.lz,s.rows,s.uZ,s.aM,s.m1,s.m2,s.m3,s.m4⟩:aZ)=s:=rfl;simp only [es,xm];refine⟨cf,fun c => ?_,fun c1 => ?_⟩
 . have e:rn s bs l w d=([],2):=by unfold rn; rw [aw c]
   rw [e];exact⟨rfl,c⟩
 have hT:=agG c1;have ayE:=((lI _).1 ((gW _ _).1 hT.2).1).1;refine⟨oo,fun c => ?_,fun c2=>fun _ _ => ?_⟩
 . have g:(jX s.aM).2≠0:=by simpa using c
   have e:rn s bs l w d=([],(jX s.aM).2):=by unfold rn; rw [ar c1,aw g]
   rw [e];exact⟨rfl,rfl⟩
 have g2:(jX s.aM).2=0:=by simpa using c2
 conv=>arg 1; cbv
 simp (maxSteps:=4000000) only [aB,aR,aS,bw];refine⟨⟨⟨cm _,fun _=>trivial⟩,rfl,rfl,rfl⟩,fun (n:Nat) hn => ?_⟩;have agM:n<=m/\(hv=true->n=0):=hn;have jG:=agM.1;have lT:=agM.2;clear hn
 conv=>arg 1; cbv
 simp (maxSteps:=4000000) only [aB,aR,aS,bw];have ki:=MN s.aM s.aM.length;have hcn:0<=(jX s.aM).1:=by
  unfold jX;split
  . split
    . dsimp only; omega
    . decide
  . decide
 have KL:(jX s.aM).1<=4096:=by
  unfold jX;split
  . split
    . rename_i q;exact (Hp.1 q).2
    . decide
  . decide
 have lD:oG s D w d (n+1)=if 0<=(oG s D w d n).2/\(oG s D w d n).2<=tP (fY s.aM w n).1 (fY s.aM w n).1.length then oG s D w d n
  else if (kS s D (fY s.aM w n).1).2=0/\Dk (kS s D (fY s.aM w n).1).1 s.m2 s.m3 s.m4 d=0 then ((fY s.aM w n).1,tP (fY s.aM w n).1 (fY s.aM w n).1.length) else oG s D w d n:=rfl
 have mJ:=avX hT.2 n;have av1:=cf.2.2;have agN:(fY s.aM w n).1.length<=1000/\∀ (k:Nat),k<(fY s.aM w n).1.length->0<=(fY s.aM w n).1.getD k Tc.int.aa/\(fY s.aM w n).1.getD k Tc.int.aa<=500000000:=⟨oo,mJ.2⟩
 have stop:(hv=true\/(jX s.aM).1<=n)->((oG s D w d n).2<0->([]:List Int)=(rn s bs l w d).1/\6=(rn s bs l w d).2)/\(¬(oG s D w d n).2<0->(oG s D w d n).1=(rn s bs l w d).1/\0=(rn s bs l w d).2):=fun h=>by
  unfold rn;rw [ar c1,ar (fun q=>q g2)]
  cases hv with
  | true =>
   have g3:(gM s bs l w).2≠0:=by simpa using MU.symm
   rw [aw g3,lT rfl];exact⟨fun _=>⟨rfl,rfl⟩,fun q=>absurd (show (-1:Int)<0 by decide) q⟩
  | false =>
   have g3:(gM s bs l w).2=0:=by simpa using MU.symm
   have e:n=(jX s.aM).1.toNat:=by
    rcases h with h|h
    . cases h
    . omega
   rw [ar (fun q=>q g3),<- hD,<- e];refine⟨fun q => ?_,fun q => ?_⟩
   . rw [aw q]; exact⟨rfl,rfl⟩
   . rw [ar q]; exact⟨rfl,rfl⟩
 refine⟨fun g=>⟨fun hb => ?_,fun hb => ?_⟩,fun g => ?_⟩
 . have re:hv=false:=by
    rw [MU]
    cases hq:decide ((gM s bs l w).2=0) with
    | true=>rfl
    | false=>rw [hq] at hb; cases hb
   have i1:aY ((n:Int)+1):=ii
   have nx:aY ((n:Int)+1)/\((n+1<=m/\(hv=true->n+1=0))/\m - (n+1)<m - n)/\(n:Int)+1=((n+1:Nat):Int):=⟨i1,⟨⟨oo,fun q=>by rw [re] at q; cases q⟩,oo⟩,oo⟩
   refine⟨⟨oo,av1⟩,fun k0=>⟨agN,fun k1 => ?_,fun k1 => ?_⟩,fun k0 => ?_⟩
   . rw [lD,aw ⟨k0,k1⟩];exact⟨nx.1,nx.2.1,nx.2.2,rfl,rfl⟩
   . rw [ar (fun q=>k1 q.2)] at lD;exact no_implicit_lambda% s_9
   . rw [ar (fun q=>k0 q.1)] at lD;exact no_implicit_lambda% s_9
 . have q:=stop (.inl (by
    rw [MU]
    cases hq:decide ((gM s bs l w).2=0) with
    | true=>rw [hq] at hb; cases hb
    | false=>rfl))
   exact⟨fun k=>⟨(q.1 k).1.symm,(q.1 k).2⟩,q.2⟩
 . have q:=stop (.inr oo);exact⟨fun k=>⟨(q.1 k).1.symm,(q.1 k).2⟩,q.2⟩
open Go.RowKit
def agP:aH:=df 58 nu nu (fun a b=>a ()=b ()/\(a ()).length<=17592186043904) (fun _ _ => .aG true)
theorem av2:aK Tryz.prog agP:=by
 refine cd [] trivial Tryz.func58 (by kernel_rfl) fun ai res h hp => ?_;obtain⟨(a:List Int),(b:List Int),rfl,rfl⟩:=dz h;clear h;have cf:a=b/\a.length<=17592186043904:=hp;clear hp;obtain⟨rfl,hl⟩:=cf;refine⟨[(4,Mn 5 a fun _=>True)],?_⟩
 conv=>arg 1; cbv
 simp (maxSteps:=4000000) only [aB,aR,aS,bw];refine⟨fun h=>absurd h (by simp),fun _=>⟨⟨⟨cm _,fun _ _=>trivial⟩,rfl⟩,fun (k:Nat) hk => ?_⟩⟩;have cR:k<=a.length/\∀ j,j<k->True:=hk;have cZ:=cR.1;have _:=cR.2
 conv=>arg 1; cbv
 simp (maxSteps:=4000000) only [aB,aR,aS,bw];exact⟨fun g=>⟨⟨oo,oo⟩,⟨oo,oo⟩,fun h=>absurd h (by simp),fun _=>⟨ ii,⟨⟨oo,fun _ _=>trivial⟩,oo⟩,oo⟩⟩,fun _=>trivial⟩
open Go.RowKit
def jy:aZ:=⟨Mh,Mg,100000,0,0,2000,[⟨1000,100000,0,9000,50000⟩,⟨3000,300000,0,9000,50000⟩],[],[⟨20000,0,1000,1000,3000000,[0,10000,20000]⟩],0,300,100,6000⟩
def agQ:aH:=CH 15 (True) (.aU [.agg (CI fun _=>jy),.sl true .box fun _=>rf,.sl true .aq fun _=>tG])
theorem av3:aK Tryz.prog agQ:=by
 refine eE { kp := [(0,[]),(1,[0]),(2,[0,3,4,5]),(3,[0,3,4,5]),(4,[0,3,4,5]),(5,[0,3,4,5]),(6,[0,3,4,5])],lt := [] } [] trivial [Un] ⟨atu,trivial⟩ Tryz.func15 (by kernel_rfl) fun ai res h hp => ?_;obtain⟨rfl,rfl⟩:=KZ h;clear h;refine⟨[],?_⟩
 conv=>arg 1; cbv
 simp (maxSteps:=4000000) only [aB,aR,aS,bw];exact⟨rfl,rfl,rfl,rfl,rfl,rfl,rfl,rfl,rfl,rfl,rfl,rfl,rfl⟩
def agR:aH:=df 29 kI kI (fun a b=>aY (a ())/\aY (b ())) (fun a b => .agg (kj fun _=>(fI (a ()) (b ())).1))
theorem av4:aK Tryz.prog agR:=by
 refine cd [G6] ⟨Mf,trivial⟩ Tryz.func29 (by kernel_rfl) fun ai res h hp => ?_;obtain⟨(a:Int),(b:Int),rfl,rfl⟩:=dz h;clear h;refine⟨[],?_⟩
 conv=>arg 1; cbv
 simp (maxSteps:=4000000) only [aB,aR,aS,bw];exact hp
def fl0:mg:=⟨123000,iR 1230,iR 277,(fI 2737 2).1,(fI (-11500) 123).1,(fI 1607537 246).1⟩
theorem av6:jf jy rf tG [0]=(fl0,0):=by kernel_rfl
theorem MV:(jf jy rf tG [10000]).2=0/\(jf jy rf tG [10000]).1.de=(fI 2937 2).1/\(jf jy rf tG [10000]).1.y=(fI (-1500) 133).1/\(jf jy rf tG [10000]).1.st=(fI 1761537 266).1:=⟨by kernel_rfl,by kernel_rfl,by kernel_rfl,by kernel_rfl⟩
theorem av7:Ba jy rf tG [0] 1400=(8,0):=by kernel_rfl
theorem av8:rn jy rf tG [7] 1469=([10000],0):=by kernel_rfl
theorem av9:(rn jy rf tG [7] 1468).2=6:=by kernel_rfl
def Hr:List AV := .aG false::List.replicate 16 (.lit .u32 0)
def Hs:List Lk := .bool::List.replicate 16 (.int .u32)
def awa:eS:=⟨86,.struct [(0,1,false),(1,17,true),(18,17,true),(35,17,true),(52,17,true),(69,17,true)],.lit .i64 0::(Hr++(Hr++(Hr++(Hr++Hr)))),.int .i64::(Hs++(Hs++(Hs++(Hs++Hs))))⟩
def agS:aH:=CH 13 (True) (.aG true)
theorem awb:aK Tryz.prog agS:=by
 refine ann { kp := [(0,[]),(1,[]),(2,[1,2,3]),(3,[1,2,3,4,5]),(4,[1,2,3,4,5,6,7]),(5,[1,2,3,4,5,6,7,8,9]),(6,[1,2,3,4,5,6,7,8,9,10,11]),(7,[4,5,6,7,8,9,10,11,13]),(8,[]),(9,[4,6]),(10,[4,6,14])],lt := [(10,⟨[0,1,2,3,4,5,6,7,8,9,10,11,12,13,14,15,16,17,18,19,20,21],[0,1,2,3,4,5,6,7,8,9,10,11,12,13,14,15,16,17,18,19,20,21],[],[],[]⟩)],ct := [7,10] } [(73,awa)] (by kernel_rfl) [agQ,MR,agI,agL,A7,agR,agP] ⟨av3,U9,avU,avZ,De,av4,av2,trivial⟩ [] trivial Tryz.func13 (by kernel_rfl) fun ai res h hp => ?_;obtain⟨rfl,rfl⟩:=KZ h;clear h;refine⟨[],?_⟩
 conv=>arg 1; cbv
 simp (maxSteps:=4000000) only [aB,aR,aS,bw];have es:(⟨jy.aE,jy.dh,jy.lk,jy.lx,jy.ly,jy.lz,jy.rows,jy.uZ,jy.aM,jy.m1,jy.m2,jy.m3,jy.m4⟩:aZ)=jy:=rfl;have jm:∀ n:Int,zi jy rf tG [n]:=fun n=>⟨⟨⟨aum,by decide,by decide⟩,aun⟩,by decide,by simp⟩
 simp only [es,jm,aR];refine⟨⟨by decide,by decide⟩,⟨by decide,by decide⟩,⟨by decide,by decide⟩,?_⟩;refine fun _ _ => ?_
 conv=>arg 1; cbv
 simp (maxSteps:=4000000) only [aB,aR,aS,bw];simp only [es,av6,MV.1,av7,av8,av9];have d2:∀ {a b:Int},-9223372036854775808<=a/\a<=9223372036854775807 -> -9223372036854775808<=b/\b<=9223372036854775807->aY a/\aY b:=fun h h'=>⟨h,h'⟩
 refine⟨⟨by decide,by decide⟩,⟨by decide,by decide⟩,⟨by decide,by decide⟩,fun h=>by simp at h,fun _=>⟨fun h=>by simp at h,fun _=>⟨fun h=>by simp at h,fun _=>⟨⟨trivial,by decide⟩,⟨by decide,by decide⟩,⟨by decide,by decide⟩,d2 (by decide) (by decide),d2 (by decide) (by decide),d2 (by decide) (by decide),?_⟩⟩⟩⟩;refine fun _ _ => ?_
 conv=>arg 1; cbv
 simp (maxSteps:=4000000) only [aB,aR,aS,bw];rw [MV.2.1,MV.2.2.1,MV.2.2.2];exact⟨fun _=>⟨d2 (by decide) (by decide),fun _=>⟨d2 (by decide) (by decide),fun _=>⟨d2 (by decide) (by decide),rfl⟩,fun c=>absurd rfl c⟩,fun c=>absurd rfl c⟩,fun c=>absurd rfl c⟩
end Go.Proofs.YtlpikgchnjajmaaGreat
