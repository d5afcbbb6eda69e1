/-
  strength by the abstract run: are all weights of a kind; Right.
-/
import Derived.Test.YtamjbkaclhgffaaGreatSh24
set_option linter.all false
set_option maxRecDepth 100000
set_option maxHeartbeats 4000000
namespace Go.Proofs.YtamjbkaclhgffaaGreat
open Go.RowKit
variable{A B a b x:Int}{ws:List Wt}{i j:Nat}
def ahv:aC:=bE 122 Cm (yc 61) (fun l _=>(l ()).length<=1000000000000) (fun l _ => .int .i64 fun _=>idx lA (l ()))
theorem ayC:aE Tryz.prog ahv:=by
 refine bD [ahu] ⟨ayB,trivial⟩ Tryz.func122 (by kernel_rfl) fun ah res h hp => ?_;obtain⟨(l:List Wt),(f:Unit),rfl,rfl⟩:=bG h;clear h;have hl:l.length<=1000000000000:=hp;refine⟨[(2,jP 8 l fun j=>lA (l.getD j Tc.wx.aa)=false)],?_⟩
 conv=>arg 1; cbv
 simp (maxSteps:=4000000) only [ay,aJ,aH,aO];refine⟨⟨⟨bw _,fun j hj=>absurd hj (jB _)⟩,rfl⟩,fun (k:Nat) hk => ?_⟩;have bu:k<=l.length/\∀ j,j<k->lA (l.getD j Tc.wx.aa)=false:=hk;have bM:=bu.1;have bm:=bu.2
 exact Wb
def ahw:aC:=bE 60 Cm (yc 61) (fun l _=>(l ()).length<=1000000000000) (fun l _ => .bool fun _=>(l ()).any lA)
theorem ayD:aE Tryz.prog ahw:=by
 refine bD [ahv] ⟨ayC,trivial⟩ Tryz.func60 (by kernel_rfl) fun ah res h hp => ?_;obtain⟨(l:List Wt),(f:Unit),rfl,rfl⟩:=bG h;clear h;refine⟨[],?_⟩
 exact Ox
theorem Wc{l:List aw}{k:Nat}(h:k<l.length):gR (l.take (k+1))=gR (l.take k)+(l.getD k Tc.cu.aa).share:=by
 rw [o4 Tc.cu.aa h];generalize l.take k=m;generalize l.getD k Tc.cu.aa=f;unfold gR
 exact ahx
def ahy(p:Option Int)(x:Int):Prop:=∀ y,p=some y->y<x
theorem ahz:∀ (l:List aw) (p:Option Int),rL p l=true↔∀ j,j<l.length->(l.getD j Tc.cu.aa).ok=true/\ahy (if j=0 then p else some (l.getD (j - 1) Tc.cu.aa).x) (l.getD j Tc.cu.aa).x
 | [],p=>⟨fun _ j hj=>absurd hj (jB _),fun _=>rfl⟩
 | f::l,p=>by
  unfold rL;simp only [aD];rw [ahz l];have hp:(match p with|none=>true|some x=>decide (x<f.x))=true↔ahy p f.x:=by
   cases p with
   | none=>exact⟨fun _ y h=>(by cases h),fun _=>rfl⟩
   | some x=>exact⟨fun h y e=>(by cases e; exact r8 h),fun h=>cT (h x rfl)⟩
  refine (and_congr (and_congr Iff.rfl hp) Iff.rfl).trans ?_;constructor
  . rintro⟨⟨h1,h2⟩,h3⟩ j hj
    cases j with
    | zero=>exact⟨h1,h2⟩
    | succ j =>
     have:=h3 j (by simpa using hj)
     cases j with
     | zero=>exact this
     | succ j=>exact this
  . intro h;refine⟨h 0 (by simp),fun j hj => ?_⟩;have:=h (j+1) (by simpa using hj)
    cases j with
    | zero=>exact this
    | succ j=>exact this
def vp(l:List aw)(j:Nat):Prop:=(l.getD j Tc.cu.aa).ok=true/\(0<j->(l.getD (j - 1) Tc.cu.aa).x<(l.getD j Tc.cu.aa).x)
theorem ahA(l:List aw):rL none l=true↔∀ j,j<l.length->vp l j:=by
 rw [ahz];constructor
 . intro h j hj;refine⟨(h j hj).1,fun h0 => ?_⟩;have:=(h j hj).2;rw [ax oo] at this;exact this _ rfl
 . intro h j hj;refine⟨(h j hj).1,fun y hy => ?_⟩;by_cases h0:j=0
   . rw [aG h0] at hy; cases hy
   . rw [ax h0] at hy;cases hy;exact (h j hj).2 oo
def Ae(f:aw):Bool:=fU f.x (-500000) 500000&&(fU f.iG 0 500000000&&(fU f.share 0 10000&&(fU f.dk 0 1000000000000000&&fU f.cV 0 1000000000000000)))
theorem Fc(f:aw):Ae f=f.ok:=by
 unfold Ae aw.ok fU;simp only [YT,Bool.and_assoc]
theorem ahB{l:List aw}(h:0<l.length):rM l=l.getD (l.length - 1) Tc.cu.aa:=by
 unfold rM;rw [aD4,YA,aY];rfl
theorem Fe(l:List aw):gq l=true↔(3<=l.length/\l.length<=30)/\(∀ j,j<l.length->vp l j)/\Ad l<=500000000/\gR l=10000/\(rM l).iG=0/\(rM l).share=0:=by
 unfold gq;simp only [aD,aU,ahA];exact⟨fun ⟨⟨⟨⟨⟨a,b⟩,c⟩,d⟩,e⟩,f⟩=>⟨a,b,c,d,e,f⟩,fun ⟨a,b,c,d,e,f⟩=>⟨⟨⟨⟨⟨a,b⟩,c⟩,d⟩,e⟩,f⟩⟩
theorem We{l:List aw}:∀ k,k<=l.length->(∀ j,j<k->vp l j)->0<=gR (l.take k)/\gR (l.take k)<=10000*(k:Int)
 | 0,_,_=>by simp [gR]
 | k+1,h,hk=>by
  have ih:=We k oo fun j hj=>hk j oo;rw [Wc oo];have:=(aw.mP (hk k oo).1).2.2.1;omega
theorem Wg{l:List aw}(h:∀ j,j<l.length->vp l j):∀ f∈l,f.ok=true:=fun f hf=>by
 obtain⟨j,hj,rfl⟩:=qK hf;have:=(h j hj).1;exact Oy
def ayE(l:List aw):Lp where
 X:=Nat
 ov k := [(13,.int .i64 fun _=>(k:Int)),(3,.int .i64 fun _=>gR (l.take k))]
 oe _ := []
 I k:=k<=l.length/\∀ j,j<k->vp l j
 μ k _:=l.length - k
 x0:=0
 nx:=some fun k=>k+1
def Oz:aC:=cL 40 qv (fun l=>(l ()).length<=1000000000000) (fun l => .bool fun _=>gq (l ()))
theorem Wh:aE Tryz.prog Oz:=by
 refine bZ { kp := [(0,[0]),(1,[0]),(2,[]),(3,[0]),(4,[0,3]),(5,[0,3,11,12,13]),(6,[0,3,11,12,13]),(7,[0,3,4,5,11,12,13]),(8,[]),(9,[0,3,4,5,11,12,13]),(10,[]),(11,[0,3,5,11,12,13]),(12,[0,3,11,12,13]),(13,[0,3]),(14,[0,3,6])],lt := [(9,⟨[0,1,2,3,4,5,6,7,8,9,10,11,12],[0,1,2,3,4,5,6,7,8,9,10,11,12],[],[],[]⟩)] } [V6,V8] ⟨ahp,ahr,trivial⟩ [] trivial Tryz.func40 (by kernel_rfl) fun ah res h hp => ?_;obtain⟨(l:List aw),rfl,rfl⟩:=cS h;clear h;refine⟨[(5,ayE l)],?_⟩
 conv=>arg 1; cbv
 simp (maxSteps:=4000000) only [ay,aJ,aH,aO];refine⟨fun g => ?_,fun g=>⟨⟨⟨bw _,fun j hj=>absurd hj (jB _)⟩,rfl,rfl⟩,fun (k:Nat) hk => ?_⟩⟩
 . have hI:=Fe l;rw [yQ,<- xw,hI]
   rintro⟨⟨h1,h2⟩,_⟩
   unfold fU at g;rw [cT (show (3:Int)<=(l.length:Int) from oo),cT (show (l.length:Int)<=30 from oo)] at g;cases g
 have bu:k<=l.length/\∀ j,j<k->vp l j:=hk;have bM:=bu.1;have bm:=bu.2;clear hk
 conv=>arg 1; cbv
 simp (maxSteps:=4000000) only [ay,aJ,aH,aO];have hI:=Fe l;have hn:3<=l.length/\l.length<=30:=by
  unfold fU at g;simp only [iR,aD,aU] at g;omega
 have hF:(gq l=true->False)->false=gq l:=fun h=>by
  cases hB:gq l with
  | false=>rfl
  | true=>exact (h hB).elim
 have hr:=We k bM bm;clear g;refine⟨fun g0 => ?_,fun g0 => ?_⟩
 . have af:k<l.length:=oo
   have hB:gq l=true->Ae (l.getD k Tc.cu.aa)=true/\(0<k->(l.getD (k - 1) Tc.cu.aa).x<(l.getD k Tc.cu.aa).x):=fun q=>by
    have:=(hI.1 q).2.1 k af;exact⟨(Fc _).trans this.1,this.2⟩
   have hN:Ae (l.getD k Tc.cu.aa)=true->(0<k->(l.getD (k - 1) Tc.cu.aa).x<(l.getD k Tc.cu.aa).x)->∀ j,j<k+1->vp l j:=fun h1 h2=>tQ bm ⟨(Fc _).symm.trans h1,h2⟩;have hS:=Wc af;have hO:=fun h=>(aw.mP ((Fc (l.getD k Tc.cu.aa)).symm.trans h)).2.2.1;clear hI;unfold Ae at hB hN hO;generalize l.getD k Tc.cu.aa=f at *
   generalize fU f.x (-500000) 500000=b1 at *
   generalize fU f.iG 0 500000000=b2 at *
   generalize fU f.share 0 10000=b3 at *
   generalize fU f.dk 0 1000000000000000=b4 at *
   generalize fU f.cV 0 1000000000000000=b5 at *
   refine⟨⟨oo,oo⟩,fun c=>hF fun q=>by have:=(hB q).1; simp_all,fun c1=>⟨fun c=>hF fun q=>by have:=(hB q).1; simp_all,fun c2=>⟨fun c=>hF fun q=>by have:=(hB q).1; simp_all,fun c3=>⟨fun c=>hF fun q=>by have:=(hB q).1; simp_all,fun c4=>⟨fun c=>hF fun q=>by have:=(hB q).1; simp_all,fun c5 => ?_⟩⟩⟩⟩⟩;have ch:(b1&&(b2&&(b3&&(b4&&b5))))=true:=by simp_all
   have Jo:=hN ch;have TZ:=hO ch;clear hN hO c1 c2 c3 c4 c5;simp only [aP];refine⟨fun h0=>⟨oo,⟨oo,oo⟩,fun c=>hF fun q=>by have:=(hB q).2 oo; omega,fun c=>⟨oo,oo,⟨⟨oo,Jo oo⟩,oo⟩,oo,hS.symm⟩⟩,fun h0=>⟨oo,oo,⟨⟨oo,Jo oo⟩,oo⟩,oo,hS.symm⟩⟩
 . have lY:k=l.length:=oo
   subst lY;rw [vG] at hr ⊢;have tH:=ahB (l:=l) oo;rw [<- tH];have hT:gq l=true↔Ad l<=500000000/\gR l=10000/\(rM l).iG=0/\(rM l).share=0:=hI.trans ⟨fun h=>h.2.2,fun h=>⟨hn,bm,h⟩⟩;refine⟨ii,⟨oo,oo⟩,⟨Wg bm,oo⟩,fun c1=>⟨fun c2=>⟨fun c3 => ?_,fun c=>hF fun q=>c (hT.1 q).2.2.1⟩,fun c=>hF fun q=>c (hT.1 q).2.1⟩,fun c=>hF fun q=>c (hT.1 q).1⟩;rw [vO,YM,hT];exact⟨fun h=>⟨c1,c2,c3,h⟩,fun h=>h.2.2.2⟩
def tR(l:List aw):Prop:=∀ p q,p<q->∀ (hq:q<l.length) (hp:p<l.length),l[p].x<l[q].x
theorem Wi:∀ (l:List aw) (p:Option Int),rL p l=true->tR l/\∀ x,p=some x->∀ f∈l,x<f.x
 | [],p,_=>⟨fun p q _ hq=>by simp at hq,fun x _ f hf=>by cases hf⟩
 | f::l,p,h=>by
  unfold rL at h;simp only [aD] at h;obtain⟨⟨h1,h2⟩,h3⟩:=h;obtain⟨i1,i2⟩:=Wi l (some f.x) h3;have ch:=i2 f.x rfl;refine⟨fun p q hpq hq hp => ?_,fun x hx g hg => ?_⟩
  . cases q with
    | zero=>omega
    | succ q =>
     cases p with
     | zero=>exact ch _ (lV (by simpa using hq))
     | succ p=>exact i1 p q oo (by simpa using hq) (by simpa using hp)
  . subst hx;have h4:x<f.x:=by simpa using h2
    rcases gD.1 hg with rfl|h5
    . exact h4
    . have:=ch g h5;omega
def Splits(l:List aw)(x:Int)(i:Nat):Prop:=i<=l.length/\(∀ p (h:p<l.length),p<i->l[p].x<=x)/\(∀ p (h:p<l.length),i<=p->x<l[p].x)
theorem ayF{l:List aw}{k:Nat}{f:aw}(hf:l[k]? = some f):gR (l.drop k)=f.share+gR (l.drop (k+1)):=by
 have hk:=(c8.1 hf).1;have he:=(c8.1 hf).2;rw [rZ hk,he];rfl
theorem pN(h1 : -A<=a/\a<=A)(h2 : -B<=b/\b<=B) : -(A*B)<=a*b/\a*b<=A*B:=by
 have hA:a.natAbs<=A.natAbs:=oo
 have hB:b.natAbs<=B.natAbs:=oo
 have h3:(a*b).natAbs<=(A*B).natAbs:=by
  rw [yL,yL];exact vP hA hB
 have h4:0<=A*B:=P3 oo oo;omega
def fF:aw:=⟨0,0,0,0,0⟩
def bH(l:List aw)(i:Nat):Int:=(l.getD i fF).x
def hX(l:List aw)(i:Nat):Int:=bH l i+bH l (i+1)
def cN(l:List aw):Nat->Int
 | 0=>0
 | k+1=>cN l k+hX l k
def fV(l:List aw)(n:Nat)(all:Int)(i:Nat):au :=
 ⟨(l.getD i fF).iG,(l.getD i fF).iG*hX l i,(l.getD i fF).share,(l.getD i fF).share*hX l i,(n:Int)*hX l i - all,((n:Int)*hX l i - all)*hX l i⟩
def iP(w:Wt):au:=⟨w.aI,2*w.aI*w.x,0,0,0,0⟩
def dw(l:List aw)(x:Int):Nat:=(l.filter fun f=>decide (f.x<=x)).length
def Af(l:List aw)(n:Nat)(S:List au)(w:Wt):Option (List au) :=
 if dw l w.x=0\/n<dw l w.x then none else some (S.set (dw l w.x - 1) ((S.getD (dw l w.x - 1) au.zero).add (iP w)))
def o5(l:List aw)(n:Nat):List au->List Wt->Option (List au)
 | S,[]=>some S
 | S,w::ws=>match Af l n S w with|none=>none|some S'=>o5 l n S' ws
def tS(l:List aw):List au:=(List.range (l.length - 1)).map (fV l (l.length - 1) (cN l (l.length - 1)))
def kC(l:List aw)(ws:List Wt):Option (List au):=o5 l (l.length - 1) (tS l) ws
theorem ahD{l:List aw}(h:Splits l x i):i=dw l x:=by
 obtain⟨h1,h2,h3⟩:=h;unfold dw;have e:l=l.take i++l.drop i:=(lT i l).symm;have f1:(l.take i).filter (fun f=>decide (f.x<=x))=l.take i:=by
  rw [List.filter_eq_self];intro f hf;obtain⟨j,hj,rfl⟩:=FT.1 hf;have sP:j<i:=by simp at hj; omega
  have gL:j<l.length:=oo
  rw [anb];exact cT (h2 j gL sP)
 have f2:(l.drop i).filter (fun f=>decide (f.x<=x)) = []:=by
  rw [YF];intro f hf;obtain⟨j,hj,rfl⟩:=FT.1 hf;have gL:i+j<l.length:=by simp at hj; omega
  rw [anc];have:=h3 (i+j) gL oo
  simp; omega
 conv=>rhs; rw [e]
 rw [Dg,f1,f2,th,cy];omega
theorem tT{l:List aw}(h:i<l.length):bH l i=l[i].x:=by
 unfold bH;simp [h]
theorem vq{l:List aw}(aR:∀ f∈l,f.ok=true)(i:Nat) : -500000<=bH l i/\bH l i<=500000:=by
 unfold bH;rcases cv i l.length with h|h
 . have e:l.getD i fF=l[i]:=by simp [h]
   rw [e];exact (aw.mP (aR _ (lV h))).1
 . have e:l.getD i fF=fF:=by simp [h]
   rw [e];exact⟨by decide,by decide⟩
theorem Ag{l:List aw}(aR:∀ f∈l,f.ok=true)(i:Nat) : -1000000<=hX l i/\hX l i<=1000000:=by
 have h1:=vq aR i;have h2:=vq aR (i+1);unfold hX;omega
theorem Ff{l:List aw}(aR:∀ f∈l,f.ok=true):∀ k:Nat,-1000000*(k:Int)<=cN l k/\cN l k<=1000000*(k:Int)
 | 0=>by simp [cN]
 | k+1=>by
  have h1:=Ff aR k;have h2:=Ag aR k;unfold cN;omega
def nD(k:Nat)(a:au):Prop:=(0<=a.a0/\a.a0<=500000000*(k+1))/\(-(500000000000000*(k+1))<=a.a1/\a.a1<=500000000000000*(k+1))/\(0<=a.a2/\a.a2<=10000)/\(-10000000000<=a.a3/\a.a3<=10000000000)/\(-60000000<=a.a4/\a.a4<=60000000)/\(-60000000000000<=a.a5/\a.a5<=60000000000000)
theorem Wj{l:List aw}(aR:∀ f∈l,f.ok=true){n:Nat}(hn:n<=29)(hi:i<l.length):nD 0 (fV l n (cN l n) i):=by
 have hf:=aw.mP (aR l[i] (lV hi));have e:l.getD i fF=l[i]:=by simp [hi]
 have hh:=Ag aR i;have ha:=Ff aR n;have m1:=pN (a:=l[i].iG) (A:=500000000) (b:=hX l i) (B:=1000000) oo hh;have m2:=pN (a:=l[i].share) (A:=10000) (b:=hX l i) (B:=1000000) oo hh;have m3:=pN (a:=(n:Int)) (A:=29) (b:=hX l i) (B:=1000000) oo hh;have m4:=pN (a:=(n:Int)*hX l i - cN l n) (A:=60000000) (b:=hX l i) (B:=1000000) oo hh;unfold nD fV;simp only [e];omega
def vr(l:List aw)(k:Nat)(all:Int)(j:Nat):List au:=(List.range k).map fun i=>if i<j then fV l k all i else au.zero
theorem ahE(l:List aw)(k:Nat)(all:Int)(j:Nat):(vr l k all j).length=k:=by simp [vr]
theorem ayG(l:List aw)(k:Nat)(all:Int):vr l k all 0=List.replicate k au.zero:=by
 unfold vr;apply P6
 . simp
 . intro i h1 h2;simp
theorem ayH(l:List aw)(k:Nat)(all:Int)(j:Nat):(vr l k all j).set j (fV l k all j)=vr l k all (j+1):=by
 unfold vr;apply P6
 . simp
 . intro i h1 h2;rw [List.getElem_set];simp only [YS,List.getElem_range];by_cases e:j=i
   . subst e;simp
   . rw [ax e];by_cases h3:i<j
     . rw [aG h3,aG oo]
     . rw [ax h3,ax oo]
theorem ahF(l:List aw)(k:Nat)(all:Int):vr l k all k=(List.range k).map (fV l k all):=by
 unfold vr;apply P6
 . simp
 . intro i h1 h2;simp only [YS,List.getElem_range];rw [aG (by simpa using h1)]
def jQ(f:au->Int):List au->Nat
 | []=>0
 | a::S=>(f a).natAbs+jQ f S
structure Part (f:au->Int):Prop where
 add:∀ a b,f (a.add b)=f a+f b
 zero:f au.zero=0
theorem Fg:Part au.a0:=⟨fun _ _=>rfl,rfl⟩
theorem Fh:Part au.a1:=⟨fun _ _=>rfl,rfl⟩
theorem CK:Part au.a2:=⟨fun _ _=>rfl,rfl⟩
theorem Fi:Part au.a3:=⟨fun _ _=>rfl,rfl⟩
theorem CL:Part au.a4:=⟨fun _ _=>rfl,rfl⟩
theorem tU:Part au.a5:=⟨fun _ _=>rfl,rfl⟩
theorem ahG{f:au->Int}(hf:Part f)(c:au):∀ (S:List au) (i:Nat),jQ f (S.set i ((S.getD i au.zero).add c))<=jQ f S+(f c).natAbs
 | [],i=>by simp [jQ]
 | a::S,0=>by
  simp only [AJ,List.getD_cons_zero,jQ,hf.add];have:=anf (f a) (f c);omega
 | a::S,i+1=>by
  simp only [FX,am1,jQ];have:=ahG hf c S i;omega
def aM(S:List au):au:=S.foldl au.add au.zero
theorem ahH{f:au->Int}(hf:Part f):∀ (S:List au) (a:au),(f (S.foldl au.add a)).natAbs<=(f a).natAbs+jQ f S
 | [],a=>by simp [jQ]
 | b::S,a=>by
  simp only [F7,jQ];have h1:=ahH hf S (a.add b);rw [hf.add] at h1;have h2:=anf (f a) (f b);omega
theorem ahI{f:au->Int}:∀ (S:List au) (j:Nat),jQ f (S.take j)<=jQ f S
 | [],j=>by simp [jQ]
 | a::S,0=>by simp [jQ]
 | a::S,j+1=>by
  simp only [Kl,jQ];have:=ahI (f:=f) S j;omega
theorem tV{f:au->Int}(hf:Part f)(S:List au)(j:Nat):(f (aM (S.take j))).natAbs<=jQ f S:=by
 have h1:=ahH hf (S.take j) au.zero;rw [hf.zero] at h1;have h2:=ahI (f:=f) S j;unfold aM;simp only [Int.natAbs_zero,ia] at h1;omega
theorem ayI(S:List au)(h:j<S.length):aM (S.take (j+1))=(aM (S.take j)).add S[j]:=by
 unfold aM;rw [Dc h,ane];rfl
theorem CM{f:au->Int}{g:Nat->au}{b:Nat->Nat}(hb:∀ i,(f (g i)).natAbs<=b i):∀ is:List Nat,jQ f (is.map g)<=(is.map b).sum
 | []=>by simp [jQ]
 | i::is=>by
  simp only [jj,jQ,xx];have:=CM hb is;have:=hb i;omega
theorem CN{f:au->Int}(hf:Part f){l:List aw}{n:Nat}{B:Nat}:∀ (ws:List Wt) (S S':List au),(∀ u∈ws,dw l u.x≠0->¬ n<dw l u.x->(f (iP u)).natAbs<=B)->o5 l n S ws=some S'->jQ f S'<=jQ f S+B*ws.length
 | [],S,S',_,h=>by
  unfold o5 at h;injection h with h;subst h;simp
 | u::ws,S,S',hB,h=>by
  unfold o5 at h;by_cases hc:dw l u.x=0\/n<dw l u.x
  . unfold Af at h;rw [aG hc] at h;cases h
  . unfold Af at h;rw [ax hc] at h;have h1:=CN hf ws _ S' (fun v hv=>hB v (by simp [hv])) h;have h2:=ahG hf (iP u) S (dw l u.x - 1);have h3:=hB u (by simp) (fun e=>hc (.inl e)) (fun e=>hc (.inr e));simp only [dE,ow,lX];omega
theorem OA{l:List aw}(aR:∀ f∈l,f.ok=true)(h0:dw l x≠0)(hn:dw l x<l.length) : -500000<=x/\x<=500000:=by
 unfold dw at h0 hn;constructor
 . have h1:(l.filter fun f=>decide (f.x<=x)) ≠ []:=by
    intro e;rw [e] at h0;exact h0 rfl
   obtain⟨f,hf⟩:=List.exists_mem_of_ne_nil _ h1;rw [Ks] at hf;have h2:=(aw.mP (aR f hf.1)).1;have h3:=r8 hf.2;omega
 . rcases P9 500000 x with h|h
   . exfalso;have h1:(l.filter fun f=>decide (f.x<=x))=l:=by
      rw [List.filter_eq_self];intro f hf;have h2:=(aw.mP (aR f hf)).1;exact cT oo
     rw [h1] at hn;omega
   . exact h
theorem ayJ{l:List aw}(aR:∀ f∈l,f.ok=true):0<=gR l:=by
 induction l with
 | nil=>exact yO _
 | cons f l ih =>
  have h1:=ih (fun g hg=>aR g (by simp [hg]));have h2:=(aw.mP (aR f (by simp))).2.2.1;have e:gR (f::l)=f.share+gR l:=rfl;omega
theorem ahJ{l:List aw}(aR:∀ f∈l,f.ok=true):∀ k,k<=l.length->((((List.range k).map fun i=>(l.getD i fF).share.natAbs).sum:Nat):Int)+gR (l.drop k)=gR l
 | 0,_=>by simp
 | k+1,h=>by
  have ih:=ahJ aR k oo;have hk:k<l.length:=oo
  have e:l.getD k fF=l[k]:=by simp [hk]
  have h2:=(aw.mP (aR l[k] (lV hk))).2.2.1;rw [ayF (bq hk)] at ih;rw [AL,ot,YL];simp only [jj,uj,xx,List.sum_nil,jD,e];omega
theorem OB(n b:Nat):((List.range n).map fun _=>b).sum=b*n:=by
 induction n with
 | zero=>simp
 | succ n ih =>
  rw [AL,ot,YL,ih];simp [ow]
theorem ahK(b:Nat->Nat)(c:Nat):∀ is:List Nat,(is.map fun i=>c*b i).sum=c*(is.map b).sum
 | []=>by simp
 | i::is=>by
  simp only [jj,xx,ahK b c is,ow]
theorem ahL{l:List aw}{S:List au}(vu:rL none l=true)(vY:3<=l.length)(hl:l.length<=30)(zF:gR l=10000)(hk:∀ x∈ws,0<=x.aI/\x.aI<=500000000)(h:kC l ws=some S) :
 jQ au.a0 S<=500000000*(29+ws.length)/\jQ au.a1 S<=500000000000000*(29+ws.length)/\jQ au.a2 S<=10000/\jQ au.a3 S<=10000000000/\jQ au.a4 S<=1740000000/\jQ au.a5 S<=1740000000000000:=by
 have aR:=yo none l vu;obtain⟨n,hn⟩:∃ n,n=l.length - 1:=⟨_,rfl⟩
 unfold kC tS at h;rw [<- hn] at h;have hb:∀ i,nD 0 (fV l n (cN l n) i):=by
  intro i;rcases cv i l.length with hi|hi
  . exact Wj aR oo hi
  . have e:l.getD i fF=fF:=by simp [hi]
    have hh:=Ag aR i;have ha:=Ff aR n;have m3:=pN (a:=(n:Int)) (A:=29) (b:=hX l i) (B:=1000000) oo hh;have m4:=pN (a:=(n:Int)*hX l i - cN l n) (A:=60000000) (b:=hX l i) (B:=1000000) oo hh;unfold nD fV;simp only [e];simp only [fF,Int.zero_mul];omega
 have hx:∀ u∈ws,dw l u.x≠0->¬ n<dw l u.x -> -500000<=u.x/\u.x<=500000:=fun u _ h0 h1=>OA aR h0 oo;have hs:=ahJ aR n oo;have wb:=ayJ (l:=l.drop n) (fun f hf=>aR f (PZ hf));refine⟨?_,?_,?_,?_,?_,?_⟩
 . have h1:=CN Fg (B:=500000000) ws _ S (fun u hu _ _=>by have:=hk u hu; show (u.aI).natAbs<=_; omega) h;have h2:=CM (f:=au.a0) (g:=fV l n (cN l n)) (b:=fun _=>500000000) (fun i=>by have:=(hb i).1; omega) (List.range n);rw [OB] at h2;omega
 . have h1:=CN Fh (B:=500000000000000) ws _ S (fun u hu h0 h1=>by
    have h2:=hk u hu;have h3:=hx u hu h0 h1;have m:=pN (a:=2*u.aI) (A:=1000000000) (b:=u.x) (B:=500000) oo oo;show (2*u.aI*u.x).natAbs<=_
    omega) h
   have h2:=CM (f:=au.a1) (g:=fV l n (cN l n)) (b:=fun _=>500000000000000) (fun i=>by have:=(hb i).2.1; omega) (List.range n);rw [OB] at h2;omega
 . have h1:=CN CK (B:=0) ws _ S (fun u hu _ _=>aN _) h;have h2:=CM (f:=au.a2) (g:=fV l n (cN l n)) (b:=fun i=>(l.getD i fF).share.natAbs) (fun i=>aN _) (List.range n);omega
 . have h1:=CN Fi (B:=0) ws _ S (fun u hu _ _=>aN _) h;have h2:=CM (f:=au.a3) (g:=fV l n (cN l n)) (b:=fun i=>1000000*(l.getD i fF).share.natAbs) (fun i=>by
    have hh:=Ag aR i;show ((l.getD i fF).share*hX l i).natAbs<=_
    rw [yL,j8];exact pd _ oo) (List.range n)
   rw [ahK] at h2;omega
 . have h1:=CN CL (B:=0) ws _ S (fun u hu _ _=>aN _) h;have h2:=CM (f:=au.a4) (g:=fV l n (cN l n)) (b:=fun _=>60000000) (fun i=>by have:=(hb i).2.2.2.2.1; omega) (List.range n);rw [OB] at h2;omega
 . have h1:=CN tU (B:=0) ws _ S (fun u hu _ _=>aN _) h;have h2:=CM (f:=au.a5) (g:=fV l n (cN l n)) (b:=fun _=>60000000000000) (fun i=>by have:=(hb i).2.2.2.2.2; omega) (List.range n);rw [OB] at h2;omega
def pO(W:Int)(k:ba)(share CO:Int):ba:=(fW (kJ (W*share) 10000).1 (mulL k (cr CO)).1).1
structure lO where
 dk:ba
 cV:ba
deriving DecidableEq
def kF(S:List au):ba:=(gM (gG (cr (aM S).a1) (pO (aM S).a0 (cr 0) (aM S).a3 0)).1 (cr (aM S).a5)).1
def vv(S:List au)(W:Int)(k:ba)(j:Nat):ba:=(gG (cr (aM (S.take j)).a0) (pO W k (aM (S.take j)).a2 (aM (S.take j)).a4)).1
def Fj(l:List aw)(S:List au)(W:Int)(k:ba)(j:Nat):ba:=(mulL (vv S W k j) (cr (2*bH l j))).1
def Fk(l:List aw)(S:List au)(W:Int)(k:ba)(j:Nat):ba:=(gG (fW (Fj l S W k j) (pO W k (aM (S.take j)).a3 (aM (S.take j)).a5)).1 (cr (aM (S.take j)).a1)).1
def OC(l:List aw)(S:List au)(W:Int)(k:ba)(j:Nat):lO:=⟨vv S W k j,(gM (Fk l S W k j) (cr 2)).1⟩
def CP(l:List aw)(S:List au):List lO:=(List.range l.length).map (OC l S (aM S).a0 (kF S))
def tW(l:List aw)(ws:List Wt):List lO×Int :=
 if !gq l||ws.any lA then ([],2)
 else if 3000<ws.length then ([],5)
 else match kC l ws with
  | none=>([],6)
  | some S=>if 500000000<(aM S).a0 then ([],3) else (CP l S,0)
theorem yp{l:List aw}(h:gq l=true):3<=l.length/\l.length<=30/\rL none l=true/\gR l=10000:=by
 unfold gq at h;simp only [aD,aU] at h;exact⟨h.1.1.1.1.1.1,h.1.1.1.1.1.2,h.1.1.1.1.2,h.1.1.2⟩
theorem Jp(h:ws.any lA=false):∀ x∈ws,0<=x.aI/\x.aI<=500000000:=by
 intro x hx;rw [AK] at h;have:=h x hx;unfold lA at this;simpa using this
open Go.RowKit
def CQ(f:ba)(n:Int):Bool:=decide (0<(KG ⟨false,f.num,f.den⟩ (cr n)).1)
def xb(s:lO):Bool := !s.dk.right || !s.cV.right
def Wk:lO:=⟨qU,qU⟩
def Fl(l:List aw)(ss:List lO)(i:Nat):Bool:=CQ (ss.getD i Wk).dk (l.getD i ⟨0,0,0,0,0⟩).dk||CQ (ss.getD i Wk).cV (l.getD i ⟨0,0,0,0,0⟩).cV
def tX(l:List aw)(ss:List lO)(k:Nat):List Nat:=(List.range k).filter (Fl l ss)
def CR(l:List aw)(ss:List lO):List Int×Int :=
 if !gq l||decide (ss.length≠l.length)||ss.any xb then ([],2) else ((tX l ss ss.length).map (fun i:Nat=>(i:Int)),0)
theorem ayK(l:List aw)(ss:List lO)(k:Nat):tX l ss (k+1)=if Fl l ss k then tX l ss k ++ [k] else tX l ss k:=by
 unfold tX;rw [AL,Dg];cases h:Fl l ss k<;>simp [List.filter,h]
theorem ayL(l:List aw)(ss:List lO)(k:Nat):(tX l ss k).length<=k:=by
 have:=List.length_filter_le (Fl l ss) (List.range k);simpa [tX] using this
def AV.Wl:AV->Option (Unit->lB)
 | .agg l=>match xK (l.take 17),xK (l.drop 17) with
  | some a,some b=>some fun _=>⟨a (),b ()⟩
  | _,_=>none
 | _=>none
theorem AV.ayM{x:AV}{n:Unit->lB}(h:x.Wl=some n):x = .agg (bf false .cE n):=by
 unfold AV.Wl at h;split at h
 . rename_i l;split at h
   . rename_i a b ha hb;cases h;have e:bf false .cE (fun _=>(⟨a (),b ()⟩:lB))=bf false .jm a++bf false .jm b:=rfl;rw [e,(By ha).1,(By hb).1,lT]
   . cases h
 . cases h
abbrev ayN:Kd:=⟨lB,.agg (NO++NO),fun n => .agg (bf false .cE n),AV.Wl,AV.ayM⟩
theorem ahM(x:lB):(⟨⟨x.dk.neg,x.dk.n0,x.dk.n1,x.dk.n2,x.dk.n3,x.dk.n4,x.dk.n5,x.dk.n6,x.dk.n7,x.dk.d0,x.dk.d1,x.dk.d2,x.dk.d3,x.dk.d4,x.dk.d5,x.dk.d6,x.dk.d7⟩,⟨x.cV.neg,x.cV.n0,x.cV.n1,x.cV.n2,x.cV.n3,x.cV.n4,x.cV.n5,x.cV.n6,x.cV.n7,x.cV.d0,x.cV.d1,x.cV.d2,x.cV.d3,x.cV.d4,x.cV.d5,x.cV.d6,x.cV.d7⟩⟩:lB)=x:=rfl
def CS(x:lB):Prop:=eh x.dk/\eh x.cV
def strOf(x:lB):lO:=⟨aB x.dk,aB x.cV⟩
def ahN:aC:=bE 90 gn kI (fun f n=>eh (f ())/\aP (n ())) (fun f n => .bool fun _=>CQ (aB (f ())) (n ()))
theorem ayO:aE Tryz.prog ahN:=by
 refine bZ { kp := [(0,[0,1]),(1,[1,2]),(2,[1,2]),(3,[5])],lt := [(2,⟨[0,1,2,3,4,5,6,7,8],[0,1,2,3,4,5,6,7,8],[],[],[]⟩)] } [IY,afX] ⟨N7,av3,trivial⟩ [] trivial Tryz.func90 (by kernel_rfl) fun ah res h hp => ?_;obtain⟨(f:bh),(n:Int),rfl,rfl⟩:=bG h;clear h;refine⟨[],?_⟩
 conv=>arg 1; cbv
 simp (maxSteps:=4000000) only [ay,aJ,aH,aO];have hn:=jM hp.2;simp only [jJ,jK,hn,aH];exact⟨hp.2,hp.1,rfl⟩
def ahO:aC:=cL 88 ayN (fun x=>CS (x ())) (fun x => .bool fun _=>xb (strOf (x ())))
theorem ayP:aE Tryz.prog ahO:=by
 refine bZ { kp := [(0,[0]),(1,[1])] } [CB] ⟨EW,trivial⟩ [] trivial Tryz.func88 (by kernel_rfl) fun ah res h hp => ?_;obtain⟨(x:lB),rfl,rfl⟩:=cS h;clear h;refine⟨[],?_⟩
 conv=>arg 1; cbv
 simp (maxSteps:=4000000) only [ay,aJ,aH,aO];simp only [oT];unfold xb strOf;refine⟨hp.1,fun h => ?_,fun h=>⟨hp.2,?_⟩⟩
 . rw [h]; rfl
 . rw [h]; rfl
def ahP:aC:=bE 151 Iz (yc 88) (fun l _=>(l ()).length<=1000000000000/\∀ x∈l (),CS x) (fun l _ => .int .i64 fun _=>idx (fun x=>xb (strOf x)) (l ()))
theorem ayQ:aE Tryz.prog ahP:=by
 refine bD [ahO] ⟨ayP,trivial⟩ Tryz.func151 (by kernel_rfl) fun ah res h hp => ?_;obtain⟨(l:List lB),(f:Unit),rfl,rfl⟩:=bG h;clear h;have fA:l.length<=1000000000000/\∀ x∈l,CS x:=hp;have hl:=fA.1;have aR:=fA.2;refine⟨[(2,jP 8 l fun j=>xb (strOf (l.getD j Tc.cE.aa))=false)],?_⟩
 conv=>arg 1; cbv
 simp (maxSteps:=4000000) only [ay,aJ,aH,aO];refine⟨⟨⟨bw _,fun j hj=>absurd hj (jB _)⟩,rfl⟩,fun (k:Nat) hk => ?_⟩;have bu:k<=l.length/\∀ j,j<k->xb (strOf (l.getD j Tc.cE.aa))=false:=hk;have bM:=bu.1;have bm:=bu.2
 conv=>arg 1; cbv
 simp (maxSteps:=4000000) only [ay,aJ,aH,aO];simp only [ahM];refine⟨fun g=>⟨⟨oo,oo⟩,aR _ (eJ Tc.cE.aa oo),fun c => ?_,fun c => ?_⟩,fun g => ?_⟩
 . exact (E7 bm oo c).symm
 . exact j5 hl oo bm c
 . exact (E8 bm oo).symm
def ahQ:aC:=bE 87 Iz (yc 88) (fun l _=>(l ()).length<=1000000000000/\∀ x∈l (),CS x) (fun l _ => .bool fun _=>(l ()).any fun x=>xb (strOf x))
theorem ayR:aE Tryz.prog ahQ:=by
 refine bD [ahP] ⟨ayQ,trivial⟩ Tryz.func87 (by kernel_rfl) fun ah res h hp => ?_;obtain⟨(l:List lB),(f:Unit),rfl,rfl⟩:=bG h;clear h;refine⟨[],?_⟩
 exact Ox
def ayS(l:List aw)(S:List lO)(n:Nat)(T:Nat):Lp where
 X:=Nat
 ov k := [(25,.int .i64 fun _=>(k:Int)),(6,.own 0)]
 oe k := [(0,.row true .int T fun _=>(tX l S k).map fun i:Nat=>(i:Int))]
 I k:=k<=n
 μ k _:=n - k
 x0:=0
 nx:=some fun k=>k+1
def ahR:aC:=bE 36 qv Iz (fun l ss=>(l ()).length<=1000000000000/\(ss ()).length<=1000000000000/\∀ x∈ss (),CS x) (fun l ss => .bp [.sl true .int fun _=>(CR (l ()) ((ss ()).map strOf)).1,.int .i64 fun _=>(CR (l ()) ((ss ()).map strOf)).2])
theorem ayT:aE Tryz.prog ahR:=by
 refine bZ { kp := [(0,[0,1]),(1,[0,1]),(2,[]),(3,[0,1]),(4,[0,1,6]),(5,[0,6,23,24,25]),(6,[0,6,23,24,25]),(7,[0,6,7,8,23,24,25]),(8,[0,6,7,23,24,25]),(9,[0,6,23,24,25]),(10,[6])],lt := [(7,⟨[0,1,2,3,4,5,6,7,8,9,10,11,12,13,14,15,16,17],[0,1,2,3,4,5,6,7,8,9,10,11,12,13,14,15,16,17],[],[],[]⟩)] } [Oz,ahQ,ahN] ⟨Wh,ayR,ayO,trivial⟩ [] trivial Tryz.func36 (by kernel_rfl) fun ah res h hp => ?_;obtain⟨(l:List aw),(ss:List lB),rfl,rfl⟩:=bG h;clear h;have fA:l.length<=1000000000000/\ss.length<=1000000000000/\∀ x∈ss,CS x:=hp;have hl:=fA.1;have hs:=fA.2.1;have aR:=fA.2.2;obtain⟨S,hS⟩:∃ S,S=ss.map strOf:=⟨_,rfl⟩
 obtain⟨n,hn⟩:∃ n,n=ss.length:=⟨_,rfl⟩
 have hSl:S.length=n:=by rw [hS,di,hn]
 have tD:(ss.any fun x=>xb (strOf x))=S.any xb:=by rw [hS,List.any_map]; rfl
 refine⟨[(5,ayS l S n 3)],?_⟩
 conv=>arg 1; cbv
 simp (maxSteps:=4000000) only [ay,aJ,aH,aO];rw [<- hS,tD,<- hn];have j4:(!gq l||decide (S.length≠l.length)||S.any xb)=true->CR l S=([],2):=fun h=>by unfold CR; rw [aG h]
 refine⟨hl,fun c=>by rw [j4 (by rw [c]; rfl)]; exact⟨rfl,rfl⟩,fun c1=>⟨fun c => ?_,fun c2=>⟨⟨oo,aR⟩,fun c=>by rw [j4 (by rw [c,Gc])]; exact⟨rfl,rfl⟩,fun c3=>⟨⟨bw _,rfl,rfl⟩,fun (k:Nat) hk => ?_⟩⟩⟩⟩
 . have h:¬(n:Int)=l.length:=by simpa using c
   rw [j4 (by rw [cT (show S.length≠l.length from oo),Gc]; rfl)];exact⟨rfl,rfl⟩
 have bM:k<=n:=hk;clear hk;have hr:gq l=true:=by simpa using c1
 have oD:n=l.length:=by
  have h:(n:Int)=l.length:=by simpa using c2
  omega
 have Jq:CR l S=((tX l S n).map (fun i:Nat=>(i:Int)),0):=by
  unfold CR;rw [ax,hSl];rw [hr,c3,dB (show ¬S.length≠l.length from oo)];decide
 conv=>arg 1; cbv
 simp (maxSteps:=4000000) only [ay,aJ,aH,aO];simp only [oT,ahM];rw [Jq,<- hn];refine⟨fun g => ?_,fun g => ?_⟩
 . have lY:k<ss.length:=oo
   have hx:S.getD k Wk=strOf (ss.getD k Tc.cE.aa):=by
    rw [hS,aY,gC,aY,bq lY];rfl
   have nn:=aR _ (eJ Tc.cE.aa lY);have zi:=yo none l (yp hr).2.2.1 _ (eJ Tc.cu.aa (show k<l.length from oo));unfold aw.ok at zi;simp only [aD,aU] at zi;have OD:Fl l S k=(CQ (aB (ss.getD k Tc.cE.aa).dk) (l.getD k Tc.cu.aa).dk||CQ (aB (ss.getD k Tc.cE.aa).cV) (l.getD k Tc.cu.aa).cV):=by
    unfold Fl;rw [hx];rfl
   have hlen:=ayL l S k;have oP:=ayK l S k;rw [OD] at oP;have i1:aP ((k:Int)+1):=ii
   have oH:((List.map NatCast.natCast (tX l S k):List Int).length + [(k:Int)].length)*8<=140737488355328:=by simp only [di,dE,hZ]; omega
   have yes:(CQ (aB (ss.getD k Tc.cE.aa).dk) (l.getD k Tc.cu.aa).dk||CQ (aB (ss.getD k Tc.cE.aa).cV) (l.getD k Tc.cu.aa).cV)=true->List.map NatCast.natCast (tX l S k) ++ [(k:Int)]=List.map NatCast.natCast (tX l S (k+1)):=fun h=>by
    rw [oP,aG h,ot];rfl
   refine⟨⟨oo,oo⟩,⟨oo,oo⟩,⟨nn.1,ii⟩,fun c=>⟨oH,i1,⟨oo,oo⟩,oo,yes (by rw [c]; rfl)⟩,fun c=>⟨⟨oo,oo⟩,⟨nn.2,ii⟩,fun d=>⟨oH,i1,⟨oo,oo⟩,oo,yes (by rw [d,Gc])⟩,fun d=>⟨i1,⟨oo,oo⟩,oo,?_⟩⟩⟩;rw [oP,c,d];rfl
 . have eV:k=n:=oo
   rw [eV];exact⟨rfl,rfl⟩
end Go.Proofs.YtamjbkaclhgffaaGreat
