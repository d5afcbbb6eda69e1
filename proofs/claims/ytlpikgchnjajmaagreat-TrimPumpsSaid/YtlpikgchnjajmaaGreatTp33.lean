/-
  twistlocklaw17.Made by the abstract run.
-/
import Derived.Test.YtlpikgchnjajmaaGreatTp32
set_option linter.all false
set_option maxRecDepth 100000
set_option maxHeartbeats 4000000
namespace Go.Proofs.YtlpikgchnjajmaaGreat
open Go.RowKit
variable{M a b c d k z:Int}{l:List cX}{A i j n:Nat}{p q:Rat}
def atS(l:List j8)(fill:List Int)(m:Nat):Lp where
 X:=Nat
 ov k := [(19,.int .i64 fun _=>(k:Int)),(6,.own 0),(7,.own 1)]
 oe k := [(0,.row true .bD 46 fun _=>ri l k),(1,.row true .int 3 fun _=>tJ l fill k)]
 I k:=k<=m
 μ k _:=m - k
 x0:=0
 nx:=some fun k=>k+1
def atT(x:j8):Lp where
 X:=Nat
 ov j := [(45,.int .i64 fun _=>(j:Int))]
 oe j := [(3,.box 46 [.int .i64 fun _=>eR x,.int .i64 fun _=>x.x,.int .i64 fun _=>x.y,.int .i64 fun _=>x.z,.int .i64 fun _=>100*x.xJ,.own 4]),(4,.row true .int 3 fun _=>tI (eR x) x.steps j)]
 I j:=j<=5
 μ j _:=5 - j
 x0:=0
 nx:=some fun j=>j+1
def aeQ:aH:=df 66 an5 aa8 (fun l f=>((∀ x∈l (),x.ok)/\(l ()).length<=140737488351232)/\(∀ x∈f (),0<=x/\x<=255)/\(f ()).length<=140737488351232) (fun l f => .aU [.sl true .bD fun _=>ri (l ()) (min (l ()).length 8),.sl true .int fun _=>tJ (l ()) (f ()) (min (l ()).length 8)])
theorem atU:aK Tryz.prog aeQ:=by
 refine eE { kp := [(0,[0,1]),(1,[0,1]),(2,[0,1,6]),(3,[0,1,6,7]),(4,[1,6,7,17,18,19]),(5,[1,6,7,17,18,19]),(6,[1,6,7,8,9,17,18,19]),(7,[1,6,7,8,9,10,17,18,19]),(8,[1,6,7,8,9,10,17,18,19]),(9,[1,6,7,8,9,10,17,18,19,45]),(10,[1,6,7,8,9,10,17,18,19,45]),(11,[1,6,7,8,9,10,11,17,18,19,45]),(12,[1,6,7,8,9,10,11,17,18,19,45]),(13,[1,6,7,8,9,10,17,18,19,45]),(14,[1,6,7,8,10,17,18,19]),(15,[1,6,7,8,10,12,17,18,19]),(16,[1,6,7,8,10,17,18,19]),(17,[1,6,7,10,12,17,18,19]),(18,[1,6,7,17,18,19]),(19,[6,7])],lt := [(16,⟨[0,1,2,3,4,5,6,7,8,9,10,11,12],[0,1,2,3,4,5,6,7,8,9,10,11,12],[],[],[]⟩)] } [] trivial [] trivial Tryz.func66 (by kernel_rfl) fun ai res h hp => ?_;obtain⟨(l:List j8),(f:List Int),rfl,rfl⟩:=dz h;clear h;obtain⟨⟨hx,hl⟩,hf,Xn⟩:((∀ x∈l,x.ok)/\l.length<=140737488351232)/\(∀ x∈f,0<=x/\x<=255)/\f.length<=140737488351232:=hp;refine cL (min l.length 8) fun m hm => ?_;refine⟨[(4,atS l f m)],?_⟩;have AS:(bif decide ((8:Int)<(l.length:Int)) then (8:Int) else (l.length:Int))=(m:Int):=by
  by_cases h:(8:Int)<(l.length:Int)
  . rw [c8 h,eG]; omega
  . exact LV
 refine fm ?_;refine⟨by rw [AS]; omega,⟨cm _,rfl,rfl,rfl⟩,fun (k:Nat) hk => ?_⟩;have cZ:k<=m:=hk;clear hk;refine fm ?_;simp only [AS,dV];refine⟨fun g => ?_,fun g => ?_⟩
 . have xd:k<m:=oo
   have lO:k<l.length:=oo
   have Gj:(l.getD k Tc.ij.aa).ok:=hx _ (by rw [ba,bp lO]; exact mj lO);have e1:ri l (k+1)=ri l k ++ [y9 (l.getD k Tc.ij.aa) k]:=rfl;have e2:tJ l f (k+1)=tJ l f k ++ [xj (l.getD k Tc.ij.aa) f k]:=rfl;have l1:=xl l k;have l2:=Ha l f k;simp only [e1,e2];clear e1 e2;generalize l.getD k Tc.ij.aa=x at Gj ⊢;obtain⟨x1,x2,x3,x4,x5,x6⟩:=Gj;have hK:1000*(1+x.af)=eR x:=rfl;have yA:1000<=eR x/\eR x<=256000:=by unfold eR; omega
   simp only [hK];have hT:((k:Int).tmod (f.length:Int))=((k % f.length:Nat):Int):=HG oo;have D2:0<f.length->(0<=f.getD (k % f.length) Tc.u8.aa/\f.getD (k % f.length) Tc.u8.aa<=255)/\k % f.length<f.length:=fun h=>by
    have h2:=oL k h;refine⟨hf _ ?_,h2⟩;rw [ba,bp h2];exact mj h2
   have KP:xj x f k=cond (decide (0<f.length)) ((eR x*f.getD (k % f.length) Tc.u8.aa).tdiv 255) 0:=rfl;obtain⟨q,hq⟩:∃ q,q=f.getD (k % f.length) Tc.u8.aa:=⟨_,rfl⟩
   rw [<- hq] at D2 KP;have GY:0<f.length->0<=eR x*q/\eR x*q<=65280000:=fun h=>by
    have h1:=(D2 h).1;have h2:=DL (a:=eR x) (b:=q) oo h1.1;have h3:=tR h1.2 (show 0<=eR x from oo);omega
   have pK:0<f.length->IntKind.i64.wrap ((eR x*q).tdiv 255)=xj x f k:=fun h=>by
    have h1:=GY h;rw [KP,c8 h,eG,ahD,DA h1.1];omega
   have kH:¬ 0<f.length->xj x f k=0:=fun h=>by rw [KP,gw h,fG]
   refine⟨oo,ii,ii,ii,ii,ii,ii,ii,ii,fun c => ?_,fun c => ?_⟩
   . refine⟨atT x,?_⟩;refine fm ?_;refine⟨⟨cm _,rfl,rfl⟩,fun (j:Nat) hj => ?_⟩;have xN:j<=5:=hj;clear hj;have l3:=Ut (eR x) x.steps j;have e3:tI (eR x) x.steps (j+1)=tI (eR x) x.steps j++cond (pq x.steps (j:Int)) [(eR x*(j:Int)).tdiv 4] []:=rfl;refine fm ?_;simp only [e3];have hKj:0<=eR x*(j:Int)/\eR x*(j:Int)<=1280000:=by
      have h2:=DL (a:=eR x) (b:=(j:Int)) oo oo;have h3:=tR (show (j:Int)<=5 from oo) (show 0<=eR x from oo);omega
     have hWj:IntKind.i64.wrap ((eR x*(j:Int)).tdiv 4)=(eR x*(j:Int)).tdiv 4:=by
      rw [ahD,DA hKj.1];omega
     rw [hWj];refine⟨fun g1=>⟨oo,fun c1 => ?_,fun c1 => ?_⟩,fun g1 => ?_⟩
     . have hb:pq x.steps (j:Int)=true:=c8 c1;rw [hb,eG];exact⟨ii,oo,by simp only [c9,fE]; omega,ii,oo,oo,rfl⟩
     . have hb:pq x.steps (j:Int)=false:=gw c1;rw [hb,fG,qk];exact⟨ii,oo,oo,rfl⟩
     . have Uu:j=5:=oo
       subst Uu;have hS:y9 x k=⟨eR x,x.x,x.y,x.z,100*x.xJ,tI (eR x) x.steps 5⟩:=by
        unfold y9;rw [c8 c];rfl
       exact aeR
   . have hS:y9 x k=⟨eR x,x.x,x.y,x.z,100*x.xJ,[]⟩:=by
      unfold y9;rw [gw c];rfl
     exact aeR
 . have xd:k=min l.length 8:=oo
   rw [xd];exact⟨rfl,rfl⟩
def Mn{α:Type}(s:Nat)(l:List α)(P:Nat->Prop):Lp where
 X:=Nat
 ov k := [(s,.int .i64 fun _=>(k:Int))]
 oe _ := []
 I k:=k<=l.length/\∀ j,j<k->P j
 μ k _:=l.length - k
 x0:=0
 nx:=some fun k=>k+1
theorem Uv{k:Nat}{P:Nat->Prop}(hn:n<=1000000000000)(hk:k<n)(h2:∀ j,j<k->P j)(h:P k):aY (k+1)/\((k+1<=n/\∀ j,j<k+1->P j)/\n - (k+1)<n - k)/\k+1=((k+1:Nat):Int):=⟨ii,⟨⟨hk,wZ h2 h⟩,oo⟩,oo⟩
def jV(n low high:Int):Bool:=decide (low<=n)&&decide (n<=high)
def atX:xF:=⟨0,0,0,0,0⟩
def aeS(l:List xF)(i:Nat):Int:=(l.getD i atX).x
def hX(l:List xF)(i:Nat):Int:=aeS l i+aeS l (i+1)
def oD(S:List qu):qu:=S.foldl qu.add qu.zero
theorem atY{d:Nat}(hd:d≠0):(((z:Rat) / (d:Rat)).num.natAbs<=z.natAbs)/\((z:Rat) / (d:Rat)).den<=d:=by
 have h:(z:Rat) / (d:Rat)=Rat.normalize z d hd:=by rw [ahj,ahy]
 rw [h,Rat.normalize_eq hd];constructor
 . show (z / ((z.natAbs.gcd d:Nat):Int)).natAbs<=z.natAbs
   exact Int.natAbs_ediv_le_natAbs _ _
 . exact Vy _ _
theorem atZ(h:sH (p+q)):(sG (ofRat p) (ofRat q)).1=ofRat (p+q):=by
 unfold sG;rw [uj,uj,zs,aw rfl,VY,D1 h]
theorem at0(h:sH (p - q)):(j7 (ofRat p) (ofRat q)).1=ofRat (p - q):=by
 unfold j7;rw [uj,uj,zs,aw rfl,aie,VY,<- Rat.sub_eq_add_neg,D1 h]
theorem mulR(h:sH (p*q)):(mulL (ofRat p) (ofRat q)).1=ofRat (p*q):=by
 rw [aih,D1 h]
theorem at1(hq:q≠0)(h:sH (p / q)):(m7 (ofRat p) (ofRat q)).1=ofRat (p / q):=by
 rw [aii p q hq,D1 h]
theorem at2(hb:b≠0)(h:sH ((a:Rat) / (b:Rat))):(fI a b).1=ofRat ((a:Rat) / (b:Rat)):=by
 rw [aij a b hb,D1 h]
structure at3 (S:List qu) (D:Nat):Prop where
 w:0<=(oD S).a0/\(oD S).a0<=500000000
 a5:0<(oD S).a5
 D_:(D:Int)=10000*(oD S).a5
 aeT:∀ j,(-2000000000000<=(oD (S.take j)).a0/\(oD (S.take j)).a0<=2000000000000)/\(-2000000000000000000<=(oD (S.take j)).a1/\(oD (S.take j)).a1<=2000000000000000000)/\(-10000<=(oD (S.take j)).a2/\(oD (S.take j)).a2<=10000)/\(-10000000000<=(oD (S.take j)).a3/\(oD (S.take j)).a3<=10000000000)/\(-1740000000<=(oD (S.take j)).a4/\(oD (S.take j)).a4<=1740000000)/\(-1740000000000000<=(oD (S.take j)).a5/\(oD (S.take j)).a5<=1740000000000000)
section
variable{S:List qu}{D:Nat}(h:at3 S D)
include h
end
open Go.RowKit
def A8(l:List cX)(i:Nat):Prop:=((0<=(l.getD i Tc.bE.aa).nW/\(l.getD i Tc.bE.aa).nW<=50000)/\(1<=(l.getD i Tc.bE.aa).af/\(l.getD i Tc.bE.aa).af<=500000000)/\(-500000<=(l.getD i Tc.bE.aa).mr/\(l.getD i Tc.bE.aa).mr<=500000)/\(0<=(l.getD i Tc.bE.aa).mc/\(l.getD i Tc.bE.aa).mc<=500000)/\(1<=(l.getD i Tc.bE.aa).jE/\(l.getD i Tc.bE.aa).jE<=10000000000))/\(0<i->(l.getD (i - 1) Tc.bE.aa).nW<(l.getD i Tc.bE.aa).nW/\(l.getD (i - 1) Tc.bE.aa).af<(l.getD i Tc.bE.aa).af)
instance (l:List cX) (i:Nat):Decidable (A8 l i):=by unfold A8; infer_instance
def gL(l:List cX):Bool:=decide (2<=l.length/\l.length<=100)&&(List.range l.length).all fun i=>decide (A8 l i)
theorem za(l:List cX):gL l=true↔(2<=l.length/\l.length<=100)/\∀ i,i<l.length->A8 l i:=by
 unfold gL;rw [au,aI,dK];exact and_congr Iff.rfl ⟨fun h i hi=>tW (h i (gP.2 hi)),fun h i hi=>c8 (h i (gP.1 hi))⟩
theorem Hb{l:List cX}(h:gL l=true){i:Nat}:∀ j,i<j->j<l.length->(l.getD i Tc.bE.aa).af<(l.getD j Tc.bE.aa).af
 | 0,h1,_=>absurd h1 (oJ _)
 | j+1,h1,h2=>by
  have h3:=(((za l).1 h).2 (j+1) h2).2 oo;rw [vH] at h3;rcases cw i j with h4|h4
  . have:=Hb h (i:=i) j h4 oo;omega
  . rw [show i=j from oo];exact h3.2
def km:List cX->Int->Nat
 | [],_=>0
 | r::l,k=>if k<=r.af then 0 else km l k+1
theorem Mo:∀ (l:List cX) (k:Int) (i:Nat),i<=l.length->(∀ j,j<i->(l.getD j Tc.bE.aa).af<k)->(i<l.length->k<=(l.getD i Tc.bE.aa).af)->km l k=i
 | [],k,i,h1,_,_=>(Nat.le_zero.1 h1).symm
 | r::l,k,0,_,_,h3=>aw (h3 (Nat.zero_lt_succ _))
 | r::l,k,i+1,h1,h2,h3=>by
  have h0:r.af<k:=h2 0 (Nat.zero_lt_succ _);unfold km;rw [ar oo,Mo l k i (Nat.le_of_succ_le_succ h1) (fun j hj=>h2 (j+1) oo) fun h=>h3 (Nat.succ_lt_succ h)]
theorem aeU:∀ (l:List cX) (k:Int),km l k<=l.length
 | [],_=>az _
 | r::l,k=>by
  have:=aeU l k;unfold km;split
  . exact cm _
  . exact Nat.succ_le_succ this
theorem aeV:∀ (l:List cX) (k:Int) (j:Nat),j<km l k->(l.getD j Tc.bE.aa).af<k
 | [],_,j,h=>absurd h (oJ _)
 | r::l,k,j,h=>by
  unfold km at h;split at h
  . exact absurd h (oJ _)
  . cases j with
    | zero=>show r.af<k; omega
    | succ j=>exact aeV l k j oo
theorem aeW:∀ (l:List cX) (k:Int),km l k<l.length->k<=(l.getD (km l k) Tc.bE.aa).af
 | [],_,h=>absurd h (oJ _)
 | r::l,k,h=>by
  unfold km at h ⊢;split
  . rename_i c;exact c
  . rename_i c;rw [ar c] at h;exact aeW l k (Nat.lt_of_succ_lt_succ h)
def jx(l:List cX)(k:Int):Nat:=max (km l k) 1
def zb(l:List cX):Int:=(l.getD 0 Tc.bE.aa).af
def zc(l:List cX):Int:=(l.getD (l.length - 1) Tc.bE.aa).af
theorem aeX(h:gL l=true)(h1:zb l<=k)(h2:k<=zc l):(1<=jx l k/\jx l k<l.length)/\(l.getD (jx l k - 1) Tc.bE.aa).af<=k/\k<=(l.getD (jx l k) Tc.bE.aa).af/\(∀ j,j<jx l k - 1->(l.getD (j+1) Tc.bE.aa).af<k):=by
 have hl:=((za l).1 h).1;have h3:=aeV l k;have h4:=aeW l k;have h5:=aeU l k;have aj:km l k<l.length:=by
  rcases cw (km l k) l.length with q|q
  . exact q
  . have:=h3 (l.length - 1) oo;unfold zc at h2;omega
 have h4:=h4 aj;unfold jx;rcases zo (km l k) with q|q
 . rw [q,show max 0 1=1 from rfl];rw [q] at h4;have h6:=Hb h (i:=0) 1 oo oo;unfold zb at h1;exact⟨oo,h1,oo,fun j hj=>absurd hj (oJ _)⟩
 . rw [Nat.max_eq_left q];have h6:=h3 (km l k - 1) oo;exact⟨oo,oo,h4,fun j hj=>h3 (j+1) oo⟩
theorem Mp(h:gL l=true)(h1:i<=j)(h2:j<l.length):(l.getD i Tc.bE.aa).af<=(l.getD j Tc.bE.aa).af:=by
 rcases cw i j with c|c
 . exact Nx (Hb h j c h2)
 . rw [show i=j from oo];exact j3 _
theorem ayw(h:gL l=true)(hi:i+1<l.length)(h1:(l.getD i Tc.bE.aa).af<=k)(h2:k<=(l.getD (i+1) Tc.bE.aa).af)(h3:∀ j,j<i->¬((l.getD j Tc.bE.aa).af<=k/\k<=(l.getD (j+1) Tc.bE.aa).af)):jx l k=i+1/\zb l<=k/\k<=zc l:=by
 refine⟨?_,?_,?_⟩
 . unfold jx;rcases Nw (l.getD i Tc.bE.aa).af k with c|c
   . rw [Mo l k (i+1) oo (fun j hj=>by have:=Mp h (i:=j) (j:=i) oo oo; omega) fun _=>h2];omega
   . cases i with
     | zero =>
      rw [Mo l k 0 oo (fun j hj=>absurd hj (oJ _)) fun _=>c];rfl
     | succ i =>
      have:=Hb h (i:=i) (i+1) oo oo;exact absurd ⟨oo,c⟩ (h3 i oo)
 . have:=Mp h (i:=0) (j:=i) oo oo;unfold zb;omega
 . have:=Mp h (i:=i+1) (j:=l.length - 1) oo oo;unfold zc;omega
structure Df where
 dr:bH
 bu:bH
 mc:bH
 tu:bH
def Uw:Df:=⟨fH,fH,fH,fH⟩
def sr(a b ka kb k:Int):Int:=a*(kb - k)+b*(k - ka)
def Hc(a b ka kb k:Int):bH:=(fI (sr a b ka kb k) (kb - ka)).1
def vv(a b:cX)(k:Int):Df:=⟨Hc a.nW b.nW a.af b.af k,Hc a.mr b.mr a.af b.af k,Hc a.mc b.mc a.af b.af k,Hc a.jE b.jE a.af b.af k⟩
def fQ(l:List cX)(k:Int):Df×Int:=if gL l then if zb l<=k/\k<=zc l then (vv (l.getD (jx l k - 1) Tc.bE.aa) (l.getD (jx l k) Tc.bE.aa) k,0) else (Uw,6) else (Uw,2)
theorem at4{p q:Int}(hp:0<=p)(hq:0<=q)(ha:a<=M)(hb:b<=M):a*p+b*q<=M*(p+q):=by
 have h1:=tS ha hp;have h2:=tS hb hq;rw [VF];omega
theorem at5{p q:Int}(hp:0<=p)(hq:0<=q)(ha:M<=a)(hb:M<=b):M*(p+q)<=a*p+b*q:=by
 have h1:=tS ha hp;have h2:=tS hb hq;rw [VF];omega
theorem Hd{ka kb L H:Int}(h1:ka<=k)(h2:k<=kb)(ha:L<=a/\a<=H)(hb:L<=b/\b<=H):L*(kb - ka)<=sr a b ka kb k/\sr a b ka kb k<=H*(kb - ka):=by
 have e:kb - ka=(kb - k)+(k - ka):=oo
 rw [e];exact⟨at5 oo oo ha.1 hb.1,at4 oo oo ha.2 hb.2⟩
structure Dg (a b:cX) (k:Int):Prop where
 le:a.af<=k/\k<=b.af
 lt:a.af<b.af
 ka:1<=a.af
 kb:b.af<=500000000
 dr:(0<=a.nW/\a.nW<=50000)/\0<=b.nW/\b.nW<=50000
 bu:(-500000<=a.mr/\a.mr<=500000) /\ -500000<=b.mr/\b.mr<=500000
 mc:(0<=a.mc/\a.mc<=500000)/\0<=b.mc/\b.mc<=500000
 tu:(1<=a.jE/\a.jE<=10000000000)/\1<=b.jE/\b.jE<=10000000000
theorem at6(h:gL l=true)(hi:i+1<l.length)(h1:(l.getD i Tc.bE.aa).af<=k)(h2:k<=(l.getD (i+1) Tc.bE.aa).af):Dg (l.getD i Tc.bE.aa) (l.getD (i+1) Tc.bE.aa) k:=by
 have a:=(((za l).1 h).2 i oo).1;have b:=(((za l).1 h).2 (i+1) hi).1;have c:=Hb h (i:=i) (i+1) oo hi;exact⟨⟨h1,h2⟩,c,a.2.1.1,b.2.1.2,⟨a.1,b.1⟩,⟨a.2.2.1,b.2.2.1⟩,⟨a.2.2.2.1,b.2.2.2.1⟩,⟨a.2.2.2.2,b.2.2.2.2⟩⟩
theorem aeY(h:gL l=true)(h1:zb l<=k)(h2:k<=zc l):Dg (l.getD (jx l k - 1) Tc.bE.aa) (l.getD (jx l k) Tc.bE.aa) k:=by
 have p:=aeX h h1 h2;have e:jx l k=jx l k - 1+1:=oo
 have b:=at6 h (i:=jx l k - 1) (k:=k) oo p.2.1 (by rw [<- e]; exact p.2.2.1);rwa [<- e] at b
def fr(z d:Int):bH:=ofRat ((z:Rat) / (d:Rat))
theorem su(h:0<d):(d:Rat)≠0:=fun e=>by
 have:d=0:=by exact_mod_cast e
 omega
theorem cast_pos(h:0<d):(0:Rat)<(d:Rat):=by exact_mod_cast h
theorem He(hd:0<d)(hz:z.natAbs<dM)(h:d.natAbs<dM):sH ((z:Rat) / (d:Rat)):=by
 obtain⟨n,rfl⟩:=oI (show 0<=d from oo);have hn:n≠0:=oo
 have e:(((n:Int)):Rat)=(n:Rat):=aho n;rw [e];obtain⟨h1,h2⟩:=atY (z:=z) hn;exact⟨oo,oo⟩
theorem div_eq(hb:0<b)(hd:0<d)(h:a*d=c*b):(a:Rat) / (b:Rat)=(c:Rat) / (d:Rat):=by
 have h1:=su hb;have h2:=su hd;have h3:(a:Rat)*(d:Rat)=(c:Rat)*(b:Rat):=by exact_mod_cast h
 grind
theorem aeZ(hb:0<b)(hd:0<d)(h:a*d=c*b):fr a b=fr c d:=by
 unfold fr;rw [div_eq hb hd h]
theorem ae0(hb:0<b)(hd:0<d):(a:Rat) / (b:Rat)<(c:Rat) / (d:Rat)↔a*d<c*b:=by
 have h1:=cast_pos hb;have h2:=cast_pos hd;have e:a*d<c*b↔(a:Rat)*(d:Rat)<(c:Rat)*(b:Rat):=by
  constructor
  . intro h
    exact_mod_cast h
  . intro h
    exact_mod_cast h
 rw [e,Rat.div_lt_iff h1];have e2:(c:Rat) / (d:Rat)*(b:Rat)=(c:Rat)*(b:Rat) / (d:Rat):=by grind
 rw [e2,Rat.lt_div_iff h2]
structure b8 (f:bH) (z d:Int) (B C:Nat):Prop where
 eq:f=fr z d
 pos:0<d
 num:z.natAbs<=B
 den:d.natAbs<=C
section
variable{f g:bH}{z d y e:Int}{B C B' C':Nat}
theorem kn(h:a.natAbs<=A)(h':b.natAbs<=B):(a*b).natAbs<=A*B:=by
 rw [Int.natAbs_mul];exact Nat.mul_le_mul h h'
theorem b8.int(n:Int)(h:n.natAbs<=B):b8 (iR n) n 1 B 1:=by
 refine⟨?_,by decide,h,by decide⟩;unfold fr;rw [aif];congr 1;show (n:Rat)=(n:Rat) / ((1:Int):Rat)
 have:((1:Int):Rat)=1:=rfl;rw [this];grind
theorem b8.ratio(hb:0<b)(h:a.natAbs<=B)(h':b.natAbs<=C)(hB:B<dM)(hC:C<dM):b8 (fI a b).1 a b B C :=
 ⟨at2 oo (He hb oo oo),hb,h,h'⟩
theorem b8.add(h:b8 f z d B C)(h':b8 g y e B' C')(hB:B*C'+B'*C<dM)(hC:C*C'<dM):b8 (sG f g).1 (z*e+y*d) (d*e) (B*C'+B'*C) (C*C'):=by
 have p:=sF h.pos h'.pos;have n1:(z*e+y*d).natAbs<=B*C'+B'*C:=by
  have:=Int.natAbs_add_le (z*e) (y*d);have:=kn h.num h'.den;have:=kn h'.num h.den;omega
 have n2:=kn h.den h'.den;have h1:=su h.pos;have h2:=su h'.pos;have q:(z:Rat) / (d:Rat)+(y:Rat) / (e:Rat)=((z*e+y*d:Int):Rat) / ((d*e:Int):Rat):=by
  rw [Rat.intCast_add,xv,xv,xv];grind
 have k:=He (z:=z*e+y*d) p oo oo;refine⟨?_,p,n1,n2⟩;rw [h.eq,h'.eq];unfold fr;rw [atZ (by rw [q]; exact k),q]
theorem b8.sub(h:b8 f z d B C)(h':b8 g y e B' C')(hB:B*C'+B'*C<dM)(hC:C*C'<dM):b8 (j7 f g).1 (z*e - y*d) (d*e) (B*C'+B'*C) (C*C'):=by
 have p:=sF h.pos h'.pos;have n1:(z*e - y*d).natAbs<=B*C'+B'*C:=by
  have:=ahw (z*e) (y*d);have:=kn h.num h'.den;have:=kn h'.num h.den;omega
 have n2:=kn h.den h'.den;have h1:=su h.pos;have h2:=su h'.pos;have q:(z:Rat) / (d:Rat) - (y:Rat) / (e:Rat)=((z*e - y*d:Int):Rat) / ((d*e:Int):Rat):=by
  rw [Rat.intCast_sub,xv,xv,xv];grind
 have k:=He (z:=z*e - y*d) p oo oo;refine⟨?_,p,n1,n2⟩;rw [h.eq,h'.eq];unfold fr;rw [at0 (by rw [q]; exact k),q]
theorem b8.mul(h:b8 f z d B C)(h':b8 g y e B' C')(hB:B*B'<dM)(hC:C*C'<dM):b8 (mulL f g).1 (z*y) (d*e) (B*B') (C*C'):=by
 have p:=sF h.pos h'.pos;have n1:=kn h.num h'.num;have n2:=kn h.den h'.den;have h1:=su h.pos;have h2:=su h'.pos;have q:(z:Rat) / (d:Rat)*((y:Rat) / (e:Rat))=((z*y:Int):Rat) / ((d*e:Int):Rat):=by
  rw [xv,xv];grind
 have k:=He (z:=z*y) p oo oo;refine⟨?_,p,n1,n2⟩;rw [h.eq,h'.eq];unfold fr;rw [mulR (by rw [q]; exact k),q]
theorem b8.div(h:b8 f z d B C)(h':b8 g y e B' C')(hy:0<y)(hB:B*C'<dM)(hC:C*B'<dM):b8 (m7 f g).1 (z*e) (d*y) (B*C') (C*B'):=by
 have p:=sF h.pos hy;have n1:=kn h.num h'.den;have n2:=kn h.den h'.num;have h1:=su h.pos;have h2:=su h'.pos;have h3:=su hy;have q:(z:Rat) / (d:Rat) / ((y:Rat) / (e:Rat))=((z*e:Int):Rat) / ((d*y:Int):Rat):=by
  rw [xv,xv];grind
 have k:=He (z:=z*e) p oo oo;have h0:(y:Rat) / (e:Rat)≠0:=by grind
 refine⟨?_,p,n1,n2⟩;rw [h.eq,h'.eq];unfold fr;rw [at1 h0 (by rw [q]; exact k),q]
theorem b8.to(h:b8 f z d B C)(he:0<e)(q:z*e=y*d)(hn:y.natAbs<=B')(hd:e.natAbs<=C'):b8 f y e B' C':=⟨h.eq.trans (aeZ h.pos he q),he,hn,hd⟩
theorem b8.same(h:b8 f z d B C)(h':b8 g y e B' C')(q:z*e=y*d):f=g:=h.eq.trans ((aeZ h.pos h'.pos q).trans h'.eq.symm)
theorem b8.cmp(h:b8 f z d B C)(h':b8 g y e B' C'):rG f g=(if z*e<y*d then -1 else if y*d<z*e then 1 else 0,0):=by
 rw [h.eq,h'.eq];unfold fr;rw [aik];simp only [ae0 h.pos h'.pos,ae0 h'.pos h.pos]
theorem ae1{z d:Rat}(hz:0<=z)(hd:0<d):0<=z / d:=Rat.not_lt.1 fun h=>by
 have h1:=(Rat.div_lt_iff hd).1 h;rw [Rat.zero_mul] at h1;exact absurd hz (Rat.not_le.2 h1)
def vw(f:bH):bH:=⟨false,f.num,f.den⟩
theorem ae2(q:Rat)(h:0<=q):vw (ofRat q)=ofRat q:=by
 unfold vw ofRat;have:0<=q.num:=Rat.num_nonneg.2 h;rw [gw oo]
theorem at7(q:Rat):vw (ofRat (-q))=vw (ofRat q):=by
 unfold vw ofRat;rw [Rat.neg_num,Rat.neg_den,Int.natAbs_neg]
theorem b8.abs(h:b8 f z d B C):b8 (vw f) (z.natAbs:Int) d B C:=by
 refine⟨?_,h.pos,by rw [Int.natAbs_natCast]; exact h.num,h.den⟩;rw [h.eq];unfold fr;have h1:=cast_pos h.pos;rcases Int.le_total 0 z with c|c
 . rw [show ((z.natAbs:Nat):Int)=z from oo];refine ae2 _ ?_;have hz:(0:Rat)<=(z:Rat):=by exact_mod_cast c
   exact ae1 hz h1
 . rw [show ((z.natAbs:Nat):Int) = -z from oo];have e:((-z:Int):Rat) / (d:Rat) = -((z:Rat) / (d:Rat)):=by
    rw [Rat.intCast_neg];have:=su h.pos;grind
   have hz:(0:Rat)<=((-z:Int):Rat):=by
    have:0 <= -z:=oo
    exact_mod_cast this
   rw [<- ae2 (((-z:Int):Rat) / (d:Rat)) (ae1 hz h1),e,at7]
end
open Go.RowKit
def at8(l:List bX):Lp where
 X:=Nat
 ov k := [(8,.int .i64 fun _=>(k:Int))]
 oe k := [(0,.fh fun _=>k+1)]
 I k:=k<=l.length
 μ k _:=l.length - k
 x0:=0
 nx:=some fun k=>k+1
def Mq:It:=SK 151 (Lu qP) (Lu nu) (fun l w=>(l ()).length<=1000000000000/\(l ()).length<=(w ()).length) (fun l _=>(l ()).length) (fun l w k => [.agg (aO false .bD fun _=>(l ()).getD (k ()) Tc.bD.aa),.int .i64 fun _=>(w ()).getD (k ()) Tc.int.aa])
theorem Ux:pT Tryz.prog Mq:=by
 refine Rv {} [] trivial Tryz.func151 (by kernel_rfl) fun ai res h hp ll => ?_;obtain⟨(l:List bX),(w:List Int),rfl,rfl⟩:=ap0 h;clear h;have nK:l.length<=1000000000000/\l.length<=w.length:=hp;have hl:=nK.1;have hw:=nK.2;refine⟨[(1,at8 l)],?_⟩;refine fm ?_;refine⟨⟨cm _,rfl⟩,fun (k:Nat) hk => ?_⟩;have cZ:k<=l.length:=hk;clear hk hp;refine fm ?_;simp only [vH,bw,aR,aS,or_true];exact⟨fun g=>⟨⟨oo,oo⟩,⟨oo,oo⟩,⟨oo,oo⟩,ii,⟨oo,oo⟩,oo⟩,fun g => .inl oo⟩
def Mr:aH:=df 71 qP nu (fun _ _=>True) (fun l w => .fn 151 [.bg [.sl false .bD l] 0,.bg [.sl false .int w] 0])
theorem Uy:aK Tryz.prog Mr:=by
 refine cd [] trivial Tryz.func71 (by kernel_rfl) fun ai res h hp => ?_;obtain⟨(l:List bX),(w:List Int),rfl,rfl⟩:=dz h;clear h;refine⟨[],?_⟩
 exact no_implicit_lambda% L4
def Ms:aH:=lE 150 kI kI kI (fun _ _ _=>True) (fun n low high => .bool fun _=>jV (n ()) (low ()) (high ()))
theorem Uz:aK Tryz.prog Ms:=by
 refine cd [] trivial Tryz.func150 (by kernel_rfl) fun ai res h hp => ?_;obtain⟨(n:Int),(low:Int),(high:Int),rfl,rfl⟩:=mO h;clear h;refine⟨[],?_⟩
 exact no_implicit_lambda% ae3
def zd(n:Int):Bool := !jV n (-500000) 500000
def ae4:aH:=dU 264 kI (fun _=>True) (fun n => .bool fun _=>zd (n ()))
theorem at9:aK Tryz.prog ae4:=by
 refine cd [Ms] ⟨Uz,trivial⟩ Tryz.func264 (by kernel_rfl) fun ai res h hp => ?_;obtain⟨(n:Int),rfl,rfl⟩:=eu h;clear h;refine⟨[],?_⟩
 exact no_implicit_lambda% ae5
def ae6:aH:=df 320 nu (F7 264) (fun l _=>(l ()).length<=1000000000000) (fun l _ => .int .i64 fun _=>idx zd (l ()))
theorem aua:aK Tryz.prog ae6:=by
 refine cd [ae4] ⟨at9,trivial⟩ Tryz.func320 (by kernel_rfl) fun ai res h hp => ?_;obtain⟨(l:List Int),(f:Unit),rfl,rfl⟩:=dz h;clear h;have hl:l.length<=1000000000000:=hp;refine⟨[(2,Mn 8 l fun j=>zd (l.getD j Tc.int.aa)=false)],?_⟩
 conv=>arg 1; cbv
 simp (maxSteps:=4000000) only [aB,aR,aS,bw];refine⟨⟨⟨cm _,fun j hj=>absurd hj (oJ _)⟩,rfl⟩,fun (k:Nat) hk => ?_⟩;have cR:k<=l.length/\∀ j,j<k->zd (l.getD j Tc.int.aa)=false:=hk;have cZ:=cR.1;have cg:=cR.2
 exact no_implicit_lambda% ae7
def ae8:aH:=df 263 nu (F7 264) (fun l _=>(l ()).length<=1000000000000) (fun l _ => .bool fun _=>(l ()).any zd)
theorem aub:aK Tryz.prog ae8:=by
 refine cd [ae6] ⟨aua,trivial⟩ Tryz.func263 (by kernel_rfl) fun ai res h hp => ?_;obtain⟨(l:List Int),(f:Unit),rfl,rfl⟩:=dz h;clear h;refine⟨[],?_⟩
 exact no_implicit_lambda% ae9
def ze(l:List Int)(k:Nat):Int:=if k=0 then -1 else l.getD (k - 1) 0
def oE(t:bX)(k:Nat):Bool:=decide (ze t.steps k<t.steps.getD k 0)&&decide (t.steps.getD k 0<=t.af)
def sx(t:bX):Bool:=jV t.af 1 500000000&&(jV t.sL 0 1000000000000&&decide (t.steps.length<=64))&&((List.range t.steps.length).all (oE t) && ![t.x,t.y,t.z].any zd)
def auc(t:bX):Lp where
 X:=Nat
 ov k := [(25,.int .i64 fun _=>(k:Int)),(3,.int .i64 fun _=>ze t.steps k)]
 oe _ := []
 I k:=k<=t.steps.length/\∀ j,j<k->oE t j=true
 μ k _:=t.steps.length - k
 x0:=0
 nx:=some fun k=>k+1
theorem afa(t):(List.range t.steps.length).all (oE t)=true↔∀ j,j<t.steps.length->oE t j=true:=by
 rw [dK];exact⟨fun h j hj=>h j (gP.2 hj),fun h j hj=>h j (gP.1 hj)⟩
def afb:aH:=dU 169 abf (fun _=>True) (fun t => .bool fun _=>sx (t ()))
theorem aud:aK Tryz.prog afb:=by
 refine eE { kp := [(0,[0]),(1,[1]),(2,[]),(3,[1]),(4,[1,3]),(5,[1,3,23,24,25]),(6,[1,3,23,24,25]),(7,[1,3,5,23,24,25]),(8,[]),(9,[1,5,23,24,25]),(10,[1,3,23,24,25]),(11,[1])],lt := [] } [Ms,ae8] ⟨Uz,aub,trivial⟩ [] trivial Tryz.func169 (by kernel_rfl) fun ai res h hp => ?_;obtain⟨(t:bX),rfl,rfl⟩:=eu h;clear h;refine⟨[(5,auc t)],?_⟩
 conv=>arg 1; cbv
 simp (maxSteps:=4000000) only [aB,aR,aS,bw];have hA:=afa t;have hF:(sx t=true->False)->false=sx t:=fun h=>by
  cases hB:sx t with
  | false=>rfl
  | true=>exact (h hB).elim
 have hT:sx t=true->(jV t.af 1 500000000=true/\jV t.sL 0 1000000000000=true/\t.steps.length<=64)/\(∀ j,j<t.steps.length->oE t j=true) /\ [t.x,t.y,t.z].any zd=false:=fun h=>by
  unfold sx at h;simp only [au,aI,iG,hA] at h;exact h
 refine⟨fun c=>hF fun q=>(by rw [(hT q).1.1] at c; cases c),fun c1=>⟨fun c=>hF fun q=>(by rw [(hT q).1.2.1] at c; cases c),fun c2=>⟨fun c=>hF fun q=>(by have:=(hT q).1.2.2; omega),fun c3=>⟨⟨⟨cm _,fun j hj=>absurd hj (oJ _)⟩,rfl,rfl⟩,fun (k:Nat) hk => ?_⟩⟩⟩⟩;have cR:k<=t.steps.length/\∀ j,j<k->oE t j=true:=hk;have cZ:=cR.1;have cg:=cR.2;clear hk
 conv=>arg 1; cbv
 simp (maxSteps:=4000000) only [aB,aR,aS,bw];have eW:Tc.int.aa=0:=rfl;have hL:∀ q:Nat,ze t.steps (q+1)=t.steps.getD q 0:=fun q=>by unfold ze; rw [ar oo]; rfl
 simp only [eW,aY];have hS:k<t.steps.length->(oE t k=true↔ze t.steps k<t.steps.getD k 0/\t.steps.getD k 0<=t.af):=fun _=>by
  unfold oE;simp only [au,aI]
 refine⟨fun g=>⟨⟨oo,oo⟩,fun c=>hF fun q => ?_,fun c=>⟨fun c4=>hF fun q => ?_,fun c4=>⟨oo,⟨⟨oo,wZ cg ((hS oo).2 ⟨oo,oo⟩)⟩,oo⟩,oo,(hL k).symm⟩⟩⟩,fun g => ?_⟩
 . have:=(hS oo).1 ((hT q).2.1 k oo);omega
 . have:=(hS oo).1 ((hT q).2.1 k oo);omega
 . have cr:(List.range t.steps.length).all (oE t)=true:=hA.2 fun j hj=>cg j oo;have h1:jV t.af 1 500000000=true:=by simpa using c1
   have h2:jV t.sL 0 1000000000000=true:=by simpa using c2
   unfold sx;rw [h1,h2,cr,c8 (show t.steps.length<=64 from oo)];simp only [dL];exact⟨by simp only [c9,fE]; omega,trivial⟩
def afc:aH:=dU 168 abf (fun _=>True) (fun t => .bool fun _ => !sx (t ()))
theorem aue:aK Tryz.prog afc:=by
 refine cd [afb] ⟨aud,trivial⟩ Tryz.func168 (by kernel_rfl) fun ai res h hp => ?_;obtain⟨(t:bX),rfl,rfl⟩:=eu h;clear h;refine⟨[],?_⟩
 exact no_implicit_lambda% ae5
def A9(t:bX):Bool := !sx t
def afd:aH:=df 262 qP (F7 168) (fun l _=>(l ()).length<=1000000000000) (fun l _ => .int .i64 fun _=>idx A9 (l ()))
theorem auf:aK Tryz.prog afd:=by
 refine cd [afc] ⟨aue,trivial⟩ Tryz.func262 (by kernel_rfl) fun ai res h hp => ?_;obtain⟨(l:List bX),(f:Unit),rfl,rfl⟩:=dz h;clear h;have hl:l.length<=1000000000000:=hp;refine⟨[(2,Mn 8 l fun j=>A9 (l.getD j Tc.bD.aa)=false)],?_⟩
 conv=>arg 1; cbv
 simp (maxSteps:=4000000) only [aB,aR,aS,bw];refine⟨⟨⟨cm _,fun j hj=>absurd hj (oJ _)⟩,rfl⟩,fun (k:Nat) hk => ?_⟩;have cR:k<=l.length/\∀ j,j<k->A9 (l.getD j Tc.bD.aa)=false:=hk;have cZ:=cR.1;have cg:=cR.2
 exact no_implicit_lambda% ae7
def afe:aH:=df 167 qP (F7 168) (fun l _=>(l ()).length<=1000000000000) (fun l _ => .bool fun _=>(l ()).any A9)
theorem aug:aK Tryz.prog afe:=by
 refine cd [afd] ⟨auf,trivial⟩ Tryz.func167 (by kernel_rfl) fun ai res h hp => ?_;obtain⟨(l:List bX),(f:Unit),rfl,rfl⟩:=dz h;clear h;refine⟨[],?_⟩
 exact no_implicit_lambda% ae9
def pr(l:List bX):Bool:=decide (l.length<=30) && !l.any A9
def Mt:aH:=dU 92 qP (fun l=>(l ()).length<=1000000000000) (fun l => .bool fun _=>pr (l ()))
theorem UA:aK Tryz.prog Mt:=by
 refine cd [afe] ⟨aug,trivial⟩ Tryz.func92 (by kernel_rfl) fun ai res h hp => ?_;obtain⟨(l:List bX),rfl,rfl⟩:=eu h;clear h;refine⟨[],?_⟩
 conv=>arg 1; cbv
 simp (maxSteps:=4000000) only [aB,aR,aS,bw];have hl:l.length<=1000000000000:=hp;unfold pr;refine⟨fun g=>⟨hl,?_⟩,fun g => ?_⟩
 . rw [c8 (show l.length<=30 from oo),dL]
 . rw [gw (show ¬ l.length<=30 from oo),vJ]
end Go.Proofs.YtlpikgchnjajmaaGreat
