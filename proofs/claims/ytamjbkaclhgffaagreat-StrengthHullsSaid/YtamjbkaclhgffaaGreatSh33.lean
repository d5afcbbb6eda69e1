/-
  Plain laws: the sorted state is sorted by tiers; heights of the halves of columns as sums.
-/
import Derived.Test.YtamjbkaclhgffaaGreatSh32
set_option linter.all false
set_option maxRecDepth 100000
set_option maxHeartbeats 4000000
namespace Go.Proofs.YtamjbkaclhgffaaGreat
open Go.RowKit
variable{x:Bool}{a a' c c' t z:Int}{bs:List aL}{i j:Nat}{e y:aA}{s:bB}
/- aBv -/
def mj(l:List aA)(i:Nat):Int:=(l.getD i Tc.ai.aa).aK
theorem akz(n:Nat):∀ (j:Nat) (l:List aA),j<l.length->n<=l.length->j<n->(∀ i k,i<k->k<n->i≠j->k≠j->mj l i<=mj l k)->(∀ k,j<k->k<n->mj l j<=mj l k)->∀ i k,i<k->k<n->mj (mi lq Tc.ai.aa 0 j l) i<=mj (mi lq Tc.ai.aa 0 j l) k
 | 0,l,hj,hn,qo,h1,h2,i,k,mb,hk=>by
  unfold mi;by_cases hi:i=0
  . subst hi; exact h2 k mb hk
  . exact h1 i k mb hk hi oo
 | j+1,l,hj,hn,qo,h1,h2,i,k,mb,hk=>by
  unfold mi;rw [Pc];have e0:decide (0<j+1)=true:=by simp
  rw [e0,fe];by_cases af:(l.getD (j+1) Tc.ai.aa).aK<(l.getD j Tc.ai.aa).aK
  . rw [cT af,pg];have hg:∀ q,mj (swapAt Tc.ai.aa l j) q=if q=j then mj l (j+1) else if q=j+1 then mj l j else mj l q:=fun q=>by
     unfold mj;rw [Xo _ _ _ _ hj];split
     . rfl
     . split<;>rfl
    have KZ:mj l (j+1)<mj l j:=af;refine akz n j _ (by rw [Az]; omega) (by rw [Az]; exact hn) oo (fun a b bJ hb E3 c6 => ?_) (fun b hb wg => ?_) i k mb hk
    . rw [hg,hg,ax E3,ax c6];by_cases ha:a=j+1
      . rw [aG ha,ax oo];exact h1 j b oo hb oo oo
      . rw [ax ha];by_cases eR:b=j+1
        . rw [aG eR];exact h1 a j oo oo ha oo
        . rw [ax eR];exact h1 a b bJ hb ha eR
    . rw [hg,hg,aG rfl,ax oo];by_cases eR:b=j+1
      . rw [aG eR]; omega
      . rw [ax eR];exact h2 b oo wg
  . rw [dB af,qP];have KZ:mj l j<=mj l (j+1):=by unfold mj; omega
    by_cases hi:i=j+1
    . subst hi; exact h2 k mb hk
    . by_cases bm:k=j+1
      . subst bm;by_cases iH:i=j
        . subst iH; exact KZ
        . have:=h1 i j oo oo hi oo;omega
      . exact h1 i k mb hk hi bm
theorem akA(l:List aA):∀ (n:Nat),n+1<=l.length->∀ i k,i<k->k<n+1->mj (pU lq Tc.ai.aa 0 l n) i<=mj (pU lq Tc.ai.aa 0 l n) k
 | 0,hn,i,k,mb,hk=>oo
 | n+1,hn,i,k,mb,hk=>by
  unfold pU;have hl:=Pb lq Tc.ai.aa 0 l n;have ih:=akA l n oo;rw [show 0+1+n=n+1 from oo];exact akz (n+2) (n+1) _ oo oo oo (fun a b bJ hb ha eR=>ih a b bJ oo) (fun b hb eR=>absurd hb oo) i k mb oo
theorem aBL(l:List aA){k:Nat}(mb:i<k)(hk:k<l.length):mj (aW l) i<=mj (aW l) k:=by
 unfold aW CY;exact akA l (l.length - (0+1)) oo i k mb oo
/- aFr -/
theorem aBM(h:¬ (c=c'/\a=a')):j6 c a≠j6 c' a':=by
 intro e;unfold j6 at e;simp only [vL,Kx.i.injEq,aJ,aH] at e;exact h e
theorem aBN(m:List Kx->Option Int){x:aA}(hf:(bI bs x.box).2=true)(hh:x.half=0\/x.half=1\/x.half=2)(c:Int)(ha:a=1\/a=2):(ub bs m x (j6 c a)).getD 0=(m (j6 c a)).getD 0+hH bs c a x:=by
 unfold ub sZ hH;rw [aG hf];by_cases hc:x.ar=c
 . subst hc;rcases hh with hh|hh|hh<;>rcases ha with ha|ha<;>subst ha<;>simp [hh,qG,ft,j6]
 . have hn:∀ a',j6 c a≠j6 x.ar a':=fun a'=>aBM (fun e=>hc e.1.symm);have hz:∀ (hs:List Int) (m:List Kx->Option Int),(hs.foldl (fun m h=>ft m (j6 x.ar h) ((m (j6 x.ar h)).getD 0+fw (bI bs x.box).1)) m) (j6 c a)=m (j6 c a):=by
    intro hs
    induction hs with
    | nil=>intro m; rfl
    | cons h hs ih =>
     intro m;rw [F7,ih];unfold ft;rw [ax (hn h)]
   rw [hz,ax (fun e=>hc e.1)];omega
theorem aBO{l:List aA}(h:∀ x∈l,(bI bs x.box).2=true/\(x.half=0\/x.half=1\/x.half=2))(c:Int)(ha:a=1\/a=2):(ji bs l (j6 c a)).getD 0=eI bs l c a:=by
 have:∀ (l:List aA) (m:List Kx->Option Int),(∀ x∈l,(bI bs x.box).2=true/\(x.half=0\/x.half=1\/x.half=2))->(l.foldl (ub bs) m (j6 c a)).getD 0=(m (j6 c a)).getD 0+(l.map (hH bs c a)).sum:=by
  intro l
  induction l with
  | nil=>intro m _; simp
  | cons x l ih =>
   intro m h;have hx:=h x (.head _);rw [F7,ih _ (fun y hy=>h y (.tail _ hy)),aBN m hx.1 hx.2 c ha,jj,xx];omega
 have h2:=this l (fun _=>none) h;unfold ji eI;rw [h2];simp
theorem XQ{l:List aA}(h:ev s bs l=true):∀ x∈l,(bI bs x.box).2=true/\(x.half=0\/x.half=1\/x.half=2):=fun x hx=>⟨C2 h x hx,by
 rcases akw h hx with h1|h1
 . exact .inl h1.1
 . exact .inr h1.1⟩
theorem akB{l:List aA}(h:ev s bs l=true):l.Nodup:=by
 have af:∀ i k,i<k->k<l.length->(l.getD i Tc.ai.aa).box<(l.getD k Tc.ai.aa).box:=by
  exact akC
 unfold List.Nodup;rw [yH];intro i k hi hk mb e;have:=af i k mb hk;rw [aY,bq hi,aY,bq hk] at this;simp only [iD] at this;rw [e] at this;omega
def kE(bs:List aL)(l:List aA)(c a t:Int):Int:=eI bs (l.filter fun x=>decide (x.aK<t)) c a
def jy(h:Int):Int:=cond (decide (h=2)) 2 1
theorem aBP(h:Int):(qG h).headD 0=jy h:=by
 unfold qG jy;by_cases h1:h=1
 . subst h1; rfl
 . by_cases h2:h=2
   . subst h2; rfl
   . simp [h1,h2]
theorem akD(h:Int):jy h=1\/jy h=2:=by
 unfold jy;cases decide (h=2)<;>simp
theorem aBQ{l m:List aA}(h:l.Perm m)(c a:Int):eI bs l c a=eI bs m c a:=by
 unfold eI
 induction h with
 | nil=>rfl
 | cons x _ ih=>rw [jj,jj,xx,xx,ih]
 | swap x y l=>simp only [jj,xx]; omega
 | trans _ _ XR JX=>exact XR.trans JX
theorem akE(l m:List aA)(c a:Int):eI bs (l++m) c a=eI bs l c a+eI bs m c a:=by
 unfold eI;rw [ot,YL]
theorem XS{bs:List aL}{c a:Int}(p:aA->Bool):∀ (l:List aA),(∀ x∈l,p x=false->hH bs c a x=0)->eI bs (l.filter p) c a=eI bs l c a
 | [],_=>rfl
 | x::l,h=>by
  have ih:=XS (bs:=bs) (c:=c) (a:=a) p l fun y hy=>h y (.tail _ hy);unfold eI at ih ⊢;rw [Dk]
  cases hp:p x with
  | true=>simp only [fH,jj,xx,ih]
  | false =>
   rw [jj,xx,h x (.head _) hp,Int.zero_add];simpa using ih
theorem XT{l:List aA}(h:ev s bs l=true):∀ i k,i<k->k<l.length->(l.getD i Tc.ai.aa).box<(l.getD k Tc.ai.aa).box:=by
 exact akC
theorem aBR{l:List aA}(h:ev s bs l=true){x:aA}(hx:x∈l)(hy:y∈l)(he:x.box=y.box):x=y:=by
 obtain⟨i,hi,rfl⟩:=qK hx;obtain⟨k,hk,rfl⟩:=qK hy;have g:∀ j (hj:j<l.length),l.getD j Tc.ai.aa=l[j]:=fun j hj=>by rw [aY,bq hj]; rfl
 rcases am7 i k with h1|h1|h1
 . have:=XT h i k h1 hk;rw [g i hi,g k hk,he] at this;omega
 . subst h1; rfl
 . have:=XT h k i h1 hi;rw [g i hi,g k hk,he] at this;omega
theorem aBS{l:List aA}(h:ev s bs l=true)(hj:j<(aW l).length)(ha:((aW l)[j]).half=0\/a=((aW l)[j]).half):eI bs ((aW l).take j) ((aW l)[j]).ar a=kE bs l ((aW l)[j]).ar a ((aW l)[j]).aK:=by
 have jY:=yz l;have hlen:=jY.length_eq;have jI:(aW l).Nodup:=jY.nodup_iff.2 (akB h);obtain⟨X,hX⟩:∃ X,X=(aW l)[j]:=⟨_,rfl⟩
 have hXl:X∈l:=jY.mem_iff.1 (by rw [hX]; exact lV hj);rw [<- hX] at ha ⊢;have akF:∀ i k,(mb:i<k)->(hk:k<(aW l).length)->((aW l)[i]'oo).aK<=((aW l)[k]).aK:=fun i k mb hk=>by
  have:=aBL l mb oo;unfold mj at this;rw [aY,bq (show i<(aW l).length from oo),aY,bq hk] at this;exact this
 unfold kE;rw [<- aBQ (jY.filter fun x=>decide (x.aK<X.aK))];have SP:aW l=(aW l).take j++(aW l).drop j:=(lT j _).symm;rw [congrArg (List.filter fun x=>decide (x.aK<X.aK)) SP,Dg,akE];have h2:((aW l).drop j).filter (fun x=>decide (x.aK<X.aK)) = []:=by
  rw [YF];intro y hy;obtain⟨i,hi,rfl⟩:=qK hy;rw [iU] at hi;rw [anc,aU,hX];by_cases he:i=0
  . subst he; simp
  . have:=akF j (j+i) oo oo;omega
 rw [h2,XS]
 . simp [eI]
 . intro y hy hn;obtain⟨i,hi,rfl⟩:=qK hy;rw [cy] at hi;have iH:i<j:=oo
   rw [anb] at hn ⊢;simp only [ew] at hn;have h1:=akF i j iH hj;rw [<- hX] at h1;unfold hH;rw [ax]
   rintro⟨hc,hh⟩
   have pH:(aW l)[i]'oo∈l:=jY.mem_iff.1 (lV _);have:=aky h pH hXl (by
    unfold jZ sV ej;have:((aW l)[i]'oo).aK=X.aK:=oo
    simp only [hc,this,qN,fe];rcases ha with ha|ha
    . simp [ha]
    . rcases hh with hh|hh
      . simp [hh,ha]
      . simp [hh])
   rw [hX] at this;exact (yH.1 jI) i j oo hj iH this
theorem AE{l:List aA}(h:gA s bs l=true):ev s bs l=true:=by
 unfold gA at h;simp only [aD] at h;exact h.2
def lP(s:bB)(bs:List aL)(l:List aA)(e:aA):Int×Int×Int :=
 (mR (s.aF.getD e.ar.toNat Tc.ar.aa) e.half,(s.aF.getD e.ar.toNat Tc.ar.aa).y,2*((s.aF.getD e.ar.toNat Tc.ar.aa).z+kE bs l e.ar (jy e.half) e.aK)+fw (bI bs e.box).1)
theorem XU{l:List aA}(h:ev s bs l=true)(hj:j<(aW l).length):s6 s.aF bs (ji bs ((aW l).take j)) ((aW l)[j])=⟨(bI bs ((aW l)[j]).box).1,(lP s bs l ((aW l)[j])).1,(lP s bs l ((aW l)[j])).2.1,(lP s bs l ((aW l)[j])).2.2⟩:=by
 have jY:=yz l;have hM:∀ x∈(aW l).take j,x∈l:=fun x hx=>jY.mem_iff.1 (xt hx);have hX:=XQ h _ (jY.mem_iff.1 (lV hj));unfold s6 lP;rw [aBP,aBO (fun x hx=>XQ h x (hM x hx)) _ (akD _),aBS h hj];rcases hX.2 with h0|h0|h0
 . exact .inl h0
 . exact .inr (by rw [h0]; rfl)
 . exact .inr (by rw [h0]; rfl)
theorem akG{l:List aA}(h:gA s bs l=true)(he:e∈l):vB s bs l e.box=((lP s bs l e).1,(lP s bs l e).2.1,(lP s bs l e).2.2,0):=by
 have hs:=AE h;have hf:=C2 hs e he;have hlen:(lr s.aF bs (aW l)).length=(aW l).length:=by unfold lr; rw [Po]
 have lF:∀ (j:Nat) (hj:j<(aW l).length),(lr s.aF bs (aW l)).getD j Tc.mid.aa=s6 s.aF bs (ji bs ((aW l).take j)) ((aW l)[j]):=fun j hj=>by
  unfold lr yA;rw [getD_map (fun j=>s6 s.aF bs (ji bs ((aW l).take j)) ((aW l).getD j Tc.ai.aa)) _ 0 Tc.mid.aa (by simpa using hj)];have hr:(List.range (aW l).length).getD j 0=j:=by rw [aY,xu hj]; rfl
  rw [hr,aY,bq hj];rfl
 obtain⟨j,hj,hej⟩:=qK ((yz l).mem_iff.2 he);rcases Gd (yB e.box) (lr s.aF bs (aW l)) with ⟨_,hn⟩|⟨k,hk,h1,h2,_⟩
 . exfalso;have hm:s6 s.aF bs (ji bs ((aW l).take j)) ((aW l).getD j Tc.ai.aa)∈lr s.aF bs (aW l):=lW.2 ⟨j,iV.2 hj,rfl⟩;have h2:=hn _ hm;unfold yB s6 at h2;rw [aY,bq hj,iD,hej,(Pt hf).1] at h2;simp at h2
 . rw [hlen] at hk;have hgk:=lF k hk;have Pu:(lr s.aF bs (aW l))[k]'oo=s6 s.aF bs (ji bs ((aW l).take k)) ((aW l)[k]):=by
    rw [<- hgk,aY,bq oo];rfl
   rw [Pu,XU hs hk] at h2;have tL:(aW l)[k]∈l:=(yz l).mem_iff.1 (lV hk);have hid:((aW l)[k]).box=e.box:=by
    unfold yB at h2;simp only [aU] at h2;rw [(Pt (C2 hs _ tL)).1] at h2;exact h2
   have hx:=aBR hs tL he hid;unfold vB;rw [h,h1,pg,dB oo,qP];unfold Pr;rw [show ((k:Int)).toNat=k from oo,hgk,XU hs hk,hx]
theorem aBV{l:List aA}(h:gA s bs l=true){id:Int}(hn:∀ e∈l,e.box≠id):vB s bs l id=(0,0,0,6):=by
 have hs:=AE h;rcases Gd (yB id) (lr s.aF bs (aW l)) with ⟨h1,_⟩|⟨k,hk,h1,h2,_⟩
 . unfold vB;rw [h,h1];rfl
 . exfalso;have hlen:(lr s.aF bs (aW l)).length=(aW l).length:=by unfold lr; rw [Po]
   have hm:=lV hk;obtain⟨j,hj,he⟩:=lW.1 hm;rw [iV] at hj;rw [<- he] at h2;unfold yB s6 at h2;simp only [aU] at h2;rw [aY,bq hj,iD] at h2;have tL:(aW l)[j]∈l:=(yz l).mem_iff.1 (lV hj);rw [(Pt (C2 hs _ tL)).1] at h2;exact hn _ tL h2
def JY(l:List aA)(i k:Nat):Prop:=¬ (l.getD i Tc.ai.aa).box<=(l.getD k Tc.ai.aa).box/\jZ (ej (l.getD k Tc.ai.aa)) (ej (l.getD i Tc.ai.aa))=false
def JZ(s:bB)(bs:List aL)(l:List aA)(i:Nat):Prop:=((bI bs (l.getD i Tc.ai.aa).box).2=true/\mh s.aF (ej (l.getD i Tc.ai.aa)) (bI bs (l.getD i Tc.ai.aa).box).1.size=true/\rK (ej (l.getD i Tc.ai.aa)) (l.map ej)=true)/\∀ k,k<i->JY l i k
theorem akI(a b:Slot):jZ a b=jZ b a:=by
 unfold jZ sV;rw [show decide (a.ar=b.ar)=decide (b.ar=a.ar) from by simp [yQ],show decide (a.aK=b.aK)=decide (b.aK=a.aK) from by simp [yQ],show decide (a.half=b.half)=decide (b.half=a.half) from by simp [yQ],Bool.or_comm (decide (a.half=0))]
theorem akJ{l:List aA}(h:j<l.length):(l.map ej).getD j Tc.slot.aa=ej (l.getD j Tc.ai.aa):=by
 rw [oc _ (by simpa using h),oc _ h,YS]
theorem akK(hs:gS s=true)(bs:List aL)(l:List aA){c:Nat}(hc:c<s.aF.length):yn s.aF bs l (c:Int) = !yx s.aF bs l (c:Int):=by
 have h:=(((Fv s).1 hs).2.1 c hc).1;unfold jf rT at h;simp only [AN,Kw,gU,aD,nC,aU] at h;have h0:0<=(s.aF.getD c Tc.ar.aa).mZ:=h.2.2.2.2.1.1;unfold yn yx;rw [fB];generalize (s.aF.getD c Tc.ar.aa).mZ=H at h0;generalize eI bs l (c:Int) 1=A;generalize eI bs l (c:Int) 2=B;by_cases e:H=0
 . rw [cT (show H<=0 from oo),cT e]; rfl
 . rw [dB (show ¬ H<=0 from oo),dB e,uo,P7,fe,Bool.not_or];by_cases a:A<=H<;>by_cases b:B<=H<;>simp [a,b]<;>omega
theorem XV(s:bB)(bs:List aL)(l:List aA):ev s bs l=true↔gS s=true/\(∀ i,i<l.length->JZ s bs l i)/\∀ c,c<s.aF.length->yx s.aF bs l (c:Int)=false:=by
 constructor
 . intro h;have af:=XT h;unfold ev at h;simp only [aD,aU] at h;obtain⟨h1,h2,h3⟩:=h;refine⟨h1,fun i hi => ?_,fun c hc => ?_⟩
   . have h4:=h2 i hi;unfold od at h4;simp only [aD,aU] at h4;refine⟨⟨h4.1.1,h4.2.1.1,h4.2.1.2⟩,fun k hk=>⟨?_,?_⟩⟩
     . have:=af k i hk hi;omega
     . have:=h4.2.2 k hk;rw [akJ oo] at this;rw [akI];exact this
   . have h4:=h3 c hc;rw [akK h1 bs l hc] at h4;simpa using h4
 . rintro⟨h1,h2,h3⟩
   unfold ev;simp only [aD,aU];refine⟨h1,fun i hi => ?_,fun c hc=>by rw [akK h1 bs l hc,h3 c hc]; rfl⟩;obtain⟨⟨h4,h5,h6⟩,h7⟩:=h2 i hi;unfold od;simp only [aD,aU,fM];refine⟨⟨h4,?_⟩,⟨h5,h6⟩,fun j hj => ?_⟩
   . rcases vH i with h0|h0
     . exact .inl h0
     . have:=(h7 (i - 1) oo).1;exact .inr oo
   . rw [akJ oo,akI];exact (h7 j hj).2
theorem aBW(hs:gS s=true){x:Slot}(h:mh s.aF x z=true):x.aK<=1000000:=by
 unfold mh at h;simp only [aD,aU] at h;have h1:=(((Fv s).1 hs).2.1 x.ar.toNat oo).1;unfold jf rT at h1;simp only [AN,Kw,gU,aD,nC,aU] at h1;have h2:=h1.2.2.2.1.2;omega
theorem akL(h:(!x)=true):x=false:=by simpa using h
theorem Pv(h:(!x)=false):x=true:=by simpa using h
theorem aBX{id:Int}(h:∀ b∈bs,aP b.size):aP (bI bs id).1.size:=by
 unfold bI
 cases hf:bs.find? (nB id) with
 | none =>
  show aP (0:Int)
  simp only [aP];omega
 | some x=>exact h x (amP hf)
def aBY(s:bB)(bs:List aL)(l:List aA):Lp where
 X:=Nat
 ov k := [(11,.int .i64 fun _=>(k:Int))]
 oe _ := []
 I k:=k<=s.aF.length/\∀ j,j<k->yx s.aF bs l ((j:Nat):Int)=false
 μ k _:=s.aF.length - k
 x0:=0
 nx:=some fun k=>k+1
def akM:aC:=ns 137 ko jc lL (fun s bs l=>pT (s ())/\((bs ()).length<=1000000000000/\∀ b∈bs (),aP b.size)/\(l ()).length<=1000000) (fun s bs l => .bool fun _=>ev (s ()) (bs ()) (l ()))
theorem aBZ:aE Tryz.prog akM:=by
 refine bZ { kp := [(0,[0,1,2]),(1,[1,2,3]),(2,[]),(3,[1,2,3]),(4,[1,2,3,7]),(5,[1,2,3,7]),(6,[1,2,3,7]),(7,[1,2,3,7,8,9]),(8,[]),(9,[1,2,3,7]),(10,[1,2,3,7,10]),(11,[1,2,3,7,10]),(12,[1,2,3,7,10]),(13,[]),(14,[1,2,3]),(15,[1,2,3,11]),(16,[1,2,3,11]),(17,[1,2,3,11]),(18,[]),(19,[])] } [ajD,Pa,ahn,ajN,ahm,ahk,ajO] ⟨aAH,Xj,ayy,aAR,ayx,ayv,aAS,trivial⟩ [] trivial Tryz.func137 (by kernel_rfl) fun ah res h hp => ?_;obtain⟨(s:bB),(bs:List aL),(l:List aA),rfl,rfl⟩:=oR h;clear h;obtain⟨ja,⟨fJ,hbz⟩,kf⟩:pT s/\(bs.length<=1000000000000/\∀ b∈bs,aP b.size)/\l.length<=1000000:=hp;refine⟨[(4,jP 7 l (JZ s bs l)),(15,aBY s bs l)],?_⟩;have hF:∀ {P:Prop},(ev s bs l=true->P)->¬ P->false=ev s bs l:=fun h hn=>by
  cases hs:ev s bs l with
  | false=>rfl
  | true=>exact absurd (h hs) hn
 have hI:=XV s bs l;refine fm ?_
 try simp only [XN]
 refine⟨ja,fun h=>hF (fun hs=>(hI.1 hs).1) (by simpa using h),fun h=>⟨⟨⟨bw _,fun j hj=>absurd hj (jB _)⟩,rfl⟩,fun (k:Nat) hk => ?_⟩⟩;have CG:gS s=true:=by simpa using h
 have Z0:=((Fv s).1 CG).1.1;have bu:k<=l.length/\∀ j,j<k->JZ s bs l j:=hk;have bM:=bu.1;have bm:=bu.2;refine fm ?_
 try simp only [XN]
 refine⟨fun g => ?_,fun g => ?_⟩
 . have af:k<l.length:=oo
   have Fw:¬ JZ s bs l k->false=ev s bs l:=fun q=>hF (fun hs=>(hI.1 hs).2.1 k af) q;refine⟨⟨oo,oo⟩,fJ,fun a=>Fw fun q=>(by rw [q.1.1] at a; cases a),fun a=>⟨⟨oo,oo⟩,aBX hbz,fun b=>Fw fun q => ?_,fun b=>⟨⟨oo,oo⟩,kf,⟨by rw [di]; omega,?_⟩,fun c=>Fw fun q => ?_,fun c=>⟨ua 10 k (JY l k),?_⟩⟩⟩⟩
   . have e:mh s.aF (ej (l.getD k Tc.ai.aa)) (bI bs (l.getD k Tc.ai.aa).box).1.size=false:=akL b;rw [q.1.2.1] at e;cases e
   . have e:mh s.aF (ej (l.getD k Tc.ai.aa)) (bI bs (l.getD k Tc.ai.aa).box).1.size=true:=Pv b;exact aBW CG e
   . have e:rK (ej (l.getD k Tc.ai.aa)) (l.map ej)=false:=akL c;rw [q.1.2.2] at e;cases e
   have ea:(bI bs (l.getD k Tc.ai.aa).box).2=true:=Pv a;have eb:mh s.aF (ej (l.getD k Tc.ai.aa)) (bI bs (l.getD k Tc.ai.aa).box).1.size=true:=Pv b;have ec:rK (ej (l.getD k Tc.ai.aa)) (l.map ej)=true:=Pv c
   conv=>arg 1; cbv
   refine⟨?_,fun (m:Nat) hm => ?_⟩
   . exact ajE
   have Ay:m<=k/\∀ q,q<m->JY l k q:=hm;have BR:=Ay.1;have uU:=Ay.2;refine fm ?_;refine⟨fun g5 => ?_,fun g5=>j5 (n:=l.length) (P:=JZ s bs l) oo af bm ⟨⟨ea,eb,ec⟩,fun q hq=>uU q oo⟩⟩;have Pu:m<k:=oo
   have hN:=fun q=>j5 (P:=JY l k) (show k<=1000000000000 from oo) Pu uU q;have hFm:¬ JY l k m->false=ev s bs l:=fun q=>Fw fun h=>q (h.2 m Pu);exact⟨⟨oo,oo⟩,⟨oo,oo⟩,fun a=>hFm fun q=>q.1 a,fun a=>⟨⟨oo,oo⟩,⟨oo,oo⟩,fun b=>hFm fun q=>absurd (q.2.symm.trans b) (by decide),fun b=>hN ⟨a,b⟩⟩⟩
 . refine⟨⟨⟨bw _,fun j hj=>absurd hj (jB _)⟩,rfl⟩,fun (i:Nat) hi => ?_⟩;have rP:i<=s.aF.length/\∀ j,j<i->yx s.aF bs l ((j:Nat):Int)=false:=hi;have uF:=rP.1;have mw:=rP.2;refine fm ?_
   try simp only [XN]
   have hFi:¬ (yx s.aF bs l ((i:Nat):Int)=false)->i<s.aF.length->false=ev s bs l:=fun q hq=>hF (fun hs=>(hI.1 hs).2.2 i hq) q;refine⟨fun g6=>⟨⟨fJ,kf,oo,oo⟩,fun a=>hFi (by rw [a]; decide) oo,fun a => ?_⟩,fun g6=>(hI.2 ⟨CG,fun j hj=>bm j oo,fun j hj=>mw j oo⟩).symm⟩;exact j5 (n:=s.aF.length) (P:=fun j=>yx s.aF bs l ((j:Nat):Int)=false) oo oo mw a
def akO:aC:=cL 197 Cj (fun _=>True) (fun b => .int .i64 fun _=>fw (b ()))
theorem aB2:aE Tryz.prog akO:=by
 refine bD [] trivial Tryz.func197 (by kernel_rfl) fun ah res h hp => ?_;obtain⟨(b:aL),rfl,rfl⟩:=cS h;clear h;refine⟨[],?_⟩;refine fm ?_;refine⟨fun g => ?_,fun g => ?_⟩<;>unfold fw<;>rw [g]<;>rfl
def AF(bs:List aL)(c a t:Int)(y:aA):Int:=cond (decide (y.aK<t)) (hH bs c a y) 0
theorem akP(hf:(bI bs y.box).2=true)(h1:y.ar=c)(h2:y.aK<t)(h3:y.half=a\/y.half=0):AF bs c a t y=fw (bI bs y.box).1:=by
 unfold AF hH;rw [cT h2,pg,aG ⟨h1,h3⟩,aG hf]
theorem XW(h:¬ y.ar=c\/¬ y.aK<t\/(¬ y.half=a/\¬ y.half=0)):AF bs c a t y=0:=by
 unfold AF hH;rcases h with h|h|h
 . rw [ax fun q=>h q.1]; cases decide (y.aK<t)<;>rfl
 . rw [dB h]; rfl
 . rw [ax fun q=>q.2.elim h.1 h.2]; cases decide (y.aK<t)<;>rfl
theorem akQ(bs:List aL)(l:List aA)(c a t:Int):0<=kE bs l c a t/\kE bs l c a t<=2896*(l.length:Int):=by
 have h:0<=kE bs l c a t/\kE bs l c a t<=2896*((l.filter fun x=>decide (x.aK<t)).length:Int):=Oo _ (On bs c a) _;have:=List.length_filter_le (fun x:aA=>decide (x.aK<t)) l;omega
theorem aB3{l:List aA}{k:Nat}(af:k<l.length):kE bs (l.take (k+1)) c a t=kE bs (l.take k) c a t+AF bs c a t (l.getD k Tc.ai.aa):=by
 unfold kE AF;rw [show l.take (k+1)=l.take k ++ [l[k]] from by rw [YH,bq af]; rfl,Dg,akE,oc _ af];congr 1
 cases hd:decide (l[k].aK<t) with
 | true=>simp [Dk,hd,eI]
 | false=>simp [Dk,hd,eI]
def aB4(bs:List aL)(l:List aA)(i:Nat):Lp where
 X:=Nat
 ov k := [(15,.int .i64 fun _=>(k:Int)),(14,.int .i64 fun _=>kE bs (l.take k) (l.getD i Tc.ai.aa).ar (jy (l.getD i Tc.ai.aa).half) (l.getD i Tc.ai.aa).aK)]
 oe _ := []
 I k:=k<=l.length
 μ k _:=l.length - k
 x0:=0
 nx:=some fun k=>k+1
def akR:aC:=oS 139 ko jc lL kI (fun s bs l i=>ev (s ()) (bs ()) (l ())=true/\(bs ()).length<=1000000000000/\(l ()).length<=1000000/\0<=i ()/\i ()<((l ()).length:Int)) (fun s bs l i => .bp [.int .i64 fun _=>(lP (s ()) (bs ()) (l ()) ((l ()).getD (i ()).toNat Tc.ai.aa)).1,.int .i64 fun _=>(lP (s ()) (bs ()) (l ()) ((l ()).getD (i ()).toNat Tc.ai.aa)).2.1,.int .i64 fun _=>(lP (s ()) (bs ()) (l ()) ((l ()).getD (i ()).toNat Tc.ai.aa)).2.2])
theorem aB5:aE Tryz.prog akR:=by
 refine bZ { kp := [(0,[0,1,2,3]),(1,[1,2,3,4]),(2,[1,2,3,4,11]),(3,[1,2,3,11,12]),(4,[1,2,3,11,12,13]),(5,[1,2,3,11,12]),(6,[1,2,3,11,12,13]),(7,[1,2,3,11,12,13,14]),(8,[1,2,3,11,12,13,14,15]),(9,[1,2,3,11,12,13,14,15]),(10,[1,2,3,11,12,13,14,15]),(11,[1,2,3,11,12,13,14,15,16]),(12,[1,2,3,11,12,13,14,15]),(13,[1,2,3,11,12,13,14,15,17]),(14,[1,2,3,11,12,14]),(15,[1,2,3,11,12,14,19]),(16,[1,2,3,11,12,14,19]),(17,[1,2,3,11,12,14,19]),(18,[1,2,3,12,14,19]),(19,[1,2,3,12,14,19]),(20,[12,14,19,20])] } [Pa,akO] ⟨Xj,aB2,trivial⟩ [] trivial Tryz.func139 (by kernel_rfl) fun ah res h hp => ?_;obtain⟨(s:bB),(bs:List aL),(l:List aA),(i:Int),rfl,rfl⟩:=qu h;clear h;have J0:ev s bs l=true/\bs.length<=1000000000000/\l.length<=1000000/\0<=i/\i<(l.length:Int):=hp;have hs:=J0.1;have fJ:=J0.2.1;have kf:=J0.2.2.1;have uy:=J0.2.2.2.1;have uF:=J0.2.2.2.2;obtain⟨i,rfl⟩:=om uy;have pj:i<l.length:=oo
 refine⟨[(8,aB4 bs l i)],?_⟩;refine fm ?_;have hr:=JW hs pj;unfold od at hr;simp only [aD,aU] at hr;have nn:=hr.2.1.1;unfold mh at nn;simp only [aD,aU] at nn;have Pp:0<=(l.getD i Tc.ai.aa).ar/\(l.getD i Tc.ai.aa).ar<(s.aF.length:Int):=⟨nn.1,nn.2.1⟩
 have h3:=(XQ hs _ (eJ Tc.ai.aa pj)).2;have Bb:∀ j,j<l.length->(bI bs (l.getD j Tc.ai.aa).box).2=true:=fun j hj=>C2 hs _ (eJ Tc.ai.aa hj);have oK:=(((Fv s).1 ((XV s bs l).1 hs).1).2.1 (l.getD i Tc.ai.aa).ar.toNat oo).1;unfold jf rT at oK;simp only [AN,Kw,gU,aD,nC,aU] at oK;obtain⟨_,_,_,_,_,_,_,_,hx,hy,hz⟩:=oK;clear hr nn;refine⟨⟨oo,oo⟩,Pp,fun h0=>⟨⟨bw _,rfl,rfl⟩,fun (k:Nat) hk => ?_⟩,fun h0=>⟨⟨bw _,rfl,rfl⟩,fun (k:Nat) hk => ?_⟩⟩
 . have bM:k<=l.length:=hk;have ha:jy (l.getD i Tc.ai.aa).half=1:=by rw [h0]; rfl
   exact no_implicit_lambda% s_0
 . have bM:k<=l.length:=hk;have ha:jy (l.getD i Tc.ai.aa).half=(l.getD i Tc.ai.aa).half:=by rcases h3 with h|h|h<;>first|exact absurd h h0|(rw [h]; rfl)
   exact no_implicit_lambda% s_0
/- C3 -/
theorem aB6{l m:List Ld}(h:l.Perm m):jR l=jR m:=by
 induction h with
 | nil=>rfl
 | cons x _ ih=>rw [uc,uc,ih]
 | swap x y l=>rw [uc,uc,uc,uc,<- JV,<- JV,akt y x]
 | trans _ _ XR JX=>exact XR.trans JX
def Pw(s:bB)(bs:List aL)(l:List aA)(e:aA):qV:=⟨(bI bs e.box).1,(lP s bs l e).1,(lP s bs l e).2.1,(lP s bs l e).2.2⟩
theorem aB7{l:List aA}(h:ev s bs l=true):lr s.aF bs (aW l)=(aW l).map (Pw s bs l):=by
 apply xv;intro j;unfold lr yA;rw [gC,gC];by_cases hj:j<(aW l).length
 . rw [xu hj,bq hj,dG,dG,aY,bq hj,iD,XU h hj];rfl
 . rw [vF (by rw [vK]; omega),vF oo];rfl
def C4(s:bB)(bs:List aL)(l:List aA)(e:aA):Ld:=XP (Pw s bs l e)
theorem aB8{m:qV}(h:(0<=m.box.aI/\m.box.aI<=40000)/\(-1100000<=m.x/\m.x<=1100000)/\(-1100000<=m.y/\m.y<=1100000) /\ -1100000<=m.h/\m.h<=1100000):xn m=XP m/\jx (XP m)=true:=by
 constructor
 . unfold xn qy;rw [aG]
   . rfl
   . simp only [aD];exact⟨CH.2 oo,w8.2 oo,w8.2 oo,w8.2 oo⟩
 . have arm:∀ x:Int,-1100000<=x->x<=1100000 -> -(m.box.aI*1100000)<=m.box.aI*x/\m.box.aI*x<=m.box.aI*1100000:=fun x h3 h4=>by
    have h5:m.box.aI*x<=m.box.aI*1100000:=Yz oo h.1.1;have h6:m.box.aI*(-1100000)<=m.box.aI*x:=Yz oo h.1.1;omega
   exact ag7 ⟨⟨h.1.1,by show m.box.aI<=_; omega⟩,arm _ oo oo,arm _ oo oo,arm _ oo oo⟩
theorem aB9(h:(jN bs).2=0):∀ b∈bs,kz b=true:=by
 intro b hb;obtain⟨k,hk,rfl⟩:=qK hb;unfold jN at h;split at h
 . cases h
 split at h
 . cases h
 rename_i h1;rw [YO] at h1;have h2:=h1 k (iV.2 hk);unfold kA at h2;rw [bq hk] at h2;simp only [fM,yR,xw,iR] at h2;exact h2.2
theorem aCa{b:aL}(h:kz b=true):1<=b.aI/\b.aI<=40000:=by
 unfold kz at h;simp only [aD] at h;have h3:wZ b.aI 1 (ym b.size)=true:=h.1.1.2;unfold wZ ym at h3;simp only [aD,aU] at h3;split at h3<;>omega
theorem akT{l:List aA}(h:gA s bs l=true)(id:Int):0<=(bI bs id).1.aI/\(bI bs id).1.aI<=40000:=by
 unfold gA at h;simp only [aD,aU] at h;exact aBI (fun b hb=>by have:=aCa (aB9 h.1 b hb); omega) oo id
theorem Px{l:List aA}(h:ev s bs l=true)(he:e∈l):(0<=e.aK/\e.aK<=9)/\(-500000<=(s.aF.getD e.ar.toNat Tc.ar.aa).x/\(s.aF.getD e.ar.toNat Tc.ar.aa).x<=500000)/\(-500000<=(s.aF.getD e.ar.toNat Tc.ar.aa).y/\(s.aF.getD e.ar.toNat Tc.ar.aa).y<=500000)/\(-500000<=(s.aF.getD e.ar.toNat Tc.ar.aa).z/\(s.aF.getD e.ar.toNat Tc.ar.aa).z<=500000):=by
 obtain⟨i,hi,rfl⟩:=qK he;have hr:=JW h hi;rw [show l[i]=l.getD i Tc.ai.aa from by rw [aY,bq hi]; rfl];unfold od at hr;simp only [aD,aU] at hr;have nn:=hr.2.1.1;unfold mh at nn;simp only [aD,aU] at nn;have fy:0<=(l.getD i Tc.ai.aa).ar/\(l.getD i Tc.ai.aa).ar<(s.aF.length:Int)/\0<=(l.getD i Tc.ai.aa).aK/\(l.getD i Tc.ai.aa).aK<(s.aF.getD (l.getD i Tc.ai.aa).ar.toNat Tc.ar.aa).dC/\_:=nn;have h1:=fy.1;have h2:=fy.2.1;have h3:=fy.2.2.1;have h4:=fy.2.2.2.1;have _:=fy.2.2.2.2;have oK:=(((Fv s).1 ((XV s bs l).1 h).1).2.1 (l.getD i Tc.ai.aa).ar.toNat oo).1;unfold jf rT at oK;simp only [AN,Kw,gU,aD,nC,aU] at oK;obtain⟨_,_,_,ht,_,_,_,_,hx,hy,hz⟩:=oK;omega
theorem aCb{l:List aA}(h:ev s bs l=true)(he:e∈l):0<=kE bs l e.ar (jy e.half) e.aK/\kE bs l e.ar (jy e.half) e.aK<=2896*e.aK:=by
 have h0:=(Px h he).1.1;refine bk (jy e.half) fun a ha => ?_;have ha0:a≠0:=by have:=akD e.half; omega
 rw [ha];unfold kE;refine bk (l.filter fun x=>decide (x.aK<e.aK)) fun L hL => ?_;rw [hL];have hp:=XS (bs:=bs) (c:=e.ar) (a:=a) (fun x=>decide (x.ar=e.ar)&&(decide (x.half=a)||decide (x.half=0))) L fun x _ hx=>by
  unfold hH;rw [ax]
  rintro⟨q1,q2⟩
  simp only [YJ,lU,ew] at hx;rcases hx with hx|hx
  . exact hx q1
  . exact q2.elim hx.1 hx.2
 rw [<- hp];refine bk (L.filter fun x=>decide (x.ar=e.ar)&&(decide (x.half=a)||decide (x.half=0))) fun M hM => ?_;rw [hM];have hb:0<=eI bs M e.ar a/\eI bs M e.ar a<=2896*(M.length:Int):=Oo _ (On bs e.ar a) _;have hlen:M.length<=e.aK.toNat:=by
  have e1:M.length=(M.map (·.aK)).length:=by rw [di]
  have pG:∀ x∈M,x∈l/\x.aK<e.aK/\x.ar=e.ar/\(x.half=a\/x.half=0):=fun x hx=>by
   rw [<- hM,Ks,<- hL,Ks] at hx;simp only [aD,fM,aU] at hx;exact⟨hx.1.1,hx.1.2,hx.2.1,hx.2.2⟩
  have VH:M.Sublist l:=by rw [<- hM,<- hL]; exact List.filter_sublist.trans List.filter_sublist
  rw [e1];have:((List.range e.aK.toNat).map fun k:Nat=>(k:Int)).length=e.aK.toNat:=by rw [di,vK]
  rw [<- this];refine List.Nodup.length_le_of_subset ?_ fun t ht => ?_
  . unfold List.Nodup;rw [ana];refine List.Pairwise.imp_of_mem ?_ ((akB h).sublist VH);intro x y hx hy bg ht;have q1:=pG x hx;have q2:=pG y hy;refine bg (aky h q1.1 q2.1 ?_);unfold jZ sV ej;rcases q1.2.2.2 with g1|g1<;>rcases q2.2.2.2 with g2|g2<;>simp [q1.2.2.1,q2.2.2.1,g1,g2,ht]
  . obtain⟨x,hx,rfl⟩:=lW.1 ht;have q1:=pG x hx;have q2:=(Px h q1.1).1.1;exact lW.2 ⟨x.aK.toNat,iV.2 oo,oo⟩
 omega
theorem aCc{l:List aA}(h:ev s bs l=true)(he:e∈l):(-1100000<=(lP s bs l e).1/\(lP s bs l e).1<=1100000)/\(-1100000<=(lP s bs l e).2.1/\(lP s bs l e).2.1<=1100000) /\ -1100000<=(lP s bs l e).2.2/\(lP s bs l e).2.2<=1100000:=by
 have h1:=Px h he;have h2:=aCb h he;have h3:=tP (bI bs e.box).1;refine⟨?_,?_,?_⟩
 . show -1100000<=mR _ _/\mR _ _<=1100000
   unfold mR;cases decide (e.half=1)<;>cases decide (e.half=2)<;>simp only [pg,qP]<;>omega
 . show -1100000<=(s.aF.getD _ Tc.ar.aa).y/\(s.aF.getD _ Tc.ar.aa).y<=1100000
   omega
 . show -1100000<=2*(_+_)+fw _/\2*(_+_)+fw _<=1100000
   omega
theorem akU{l:List aA}(h:gA s bs l=true)(he:e∈l):xn (Pw s bs l e)=C4 s bs l e/\jx (C4 s bs l e)=true :=
 aB8 ⟨akT h e.box,aCc (AE h) he⟩
theorem akV{s:bB}{bs:List aL}{l:List aA}(h:gA s bs l=true):∀ m:List aA,0<=(jR (m.map (C4 s bs l))).aI/\(jR (m.map (C4 s bs l))).aI<=40000*(m.length:Int)
 | []=>by simp [jR,gz]
 | e::m=>by
  have h1:=akV h m;have h2:=akT h e.box;rw [jj,uc];show 0<=(bI bs e.box).1.aI+_/\(bI bs e.box).1.aI+_<=_
  simp only [dE];omega
theorem aCd{l:List aA}(h:gA s bs l=true)(hl:l.length<=1000):xo s bs l=(jR (l.map (C4 s bs l)),0):=by
 have hst:=AE h;have hp:=yz l;unfold xo;rw [h,pg,aB7 hst,xz];have e:(aW l).map (xn∘Pw s bs l)=(aW l).map (C4 s bs l):=FU fun x hx=>(akU h (hp.mem_iff.1 hx)).1;rw [e,<- aB6 (hp.map (C4 s bs l))];refine aBH (fun x hx => ?_) ?_
 . obtain⟨m,hm,rfl⟩:=lW.1 hx;exact (akU h (hp.mem_iff.1 hm)).2
 . have:=akV h (aW l);rw [hp.length_eq] at this;omega
def yC(s:bB)(bs:List aL)(l:List aA):Prop:=pT s/\(xm bs/\∀ b∈bs,aP b.size)/\l.length<=1000
def XX:aC:=ns 78 ko jc lL (fun s bs l=>yC (s ()) (bs ()) (l ())) (fun s bs l => .bool fun _=>gA (s ()) (bs ()) (l ()))
theorem akW:aE Tryz.prog XX:=by
 refine bD [ajI,akM] ⟨aAJ,aBZ,trivial⟩ Tryz.func78 (by kernel_rfl) fun ah res h hp => ?_;obtain⟨(s:bB),(bs:List aL),(l:List aA),rfl,rfl⟩:=oR h;clear h;obtain⟨h1,h2,h3⟩:yC s bs l:=hp;refine⟨[],?_⟩
 conv=>arg 1; cbv
 simp (maxSteps:=4000000) only [ay,aJ,aH,aO];refine⟨⟨h2.1.1,h2.1.2⟩,fun g=>⟨⟨h1,⟨h2.1.1,h2.2⟩,oo⟩,?_⟩,fun g => ?_⟩
 . unfold gA;rw [cT g,fe]
 . unfold gA;rw [dB g];rfl
def akX:aC:=oS 80 ko jc lL kI (fun s bs l _=>yC (s ()) (bs ()) (l ())) (fun s bs l id => .bp [.int .i64 fun _=>(vB (s ()) (bs ()) (l ()) (id ())).1,.int .i64 fun _=>(vB (s ()) (bs ()) (l ()) (id ())).2.1,.int .i64 fun _=>(vB (s ()) (bs ()) (l ()) (id ())).2.2.1,.int .i64 fun _=>(vB (s ()) (bs ()) (l ()) (id ())).2.2.2])
theorem aCe:aE Tryz.prog akX:=by
 refine bZ { kp := [(0,[0,1,2,3]),(1,[1,2,3,4]),(2,[]),(3,[1,2,3,4]),(4,[1,2,3,4,12]),(5,[1,2,3,4,12]),(6,[1,2,3,4,12]),(7,[1,2,4,12]),(8,[13,14,15]),(9,[])] } [XX,akR] ⟨akW,aB5,trivial⟩ [] trivial Tryz.func80 (by kernel_rfl) fun ah res h hp => ?_;obtain⟨(s:bB),(bs:List aL),(l:List aA),(id:Int),rfl,rfl⟩:=qu h;clear h;have bC:yC s bs l:=hp;refine⟨[(4,jP 12 l fun j=>(l.getD j Tc.ai.aa).box≠id)],?_⟩
 conv=>arg 1; cbv
 simp (maxSteps:=4000000) only [ay,aJ,aH,aO];have es:(⟨s.aF,s.bO,s.lk,s.lx,s.ly,s.lz,s.rows,s.ee,s.fv,s.m1,s.m2,s.m3,s.m4⟩:bB)=s:=rfl;simp only [es];refine⟨bC,fun g => ?_,fun g=>⟨⟨⟨bw _,fun j hj=>absurd hj (jB _)⟩,rfl⟩,fun (k:Nat) hk => ?_⟩⟩
 . have hc:gA s bs l=false:=by simpa using g
   have e:vB s bs l id=(0,0,0,2):=by unfold vB; rw [hc]; rfl
   rw [e];exact⟨rfl,rfl,rfl,rfl⟩
 have bu:k<=l.length/\∀ j,j<k->(l.getD j Tc.ai.aa).box≠id:=hk;have bM:=bu.1;have bm:=bu.2;have hc:gA s bs l=true:=by simpa using g
 have hl:=bC.2.2
 conv=>arg 1; cbv
 simp (maxSteps:=4000000) only [ay,aJ,aH,aO];simp only [es];refine⟨fun gk => ?_,fun gk => ?_⟩
 . have af:k<l.length:=oo
   refine⟨⟨oo,oo⟩,fun c => ?_,fun c=>j5 (P:=fun j=>(l.getD j Tc.ai.aa).box≠id) oo af bm c⟩;have hm:=akG hc (eJ Tc.ai.aa af);rw [c] at hm;rw [hm];refine⟨⟨AE hc,bC.2.1.1.1,oo,oo,oo⟩,?_⟩
   first|exact⟨rfl,rfl,rfl⟩|exact⟨rfl,rfl,rfl,rfl⟩|trivial
 . have hm:=aBV (id:=id) hc fun e he=>by
    obtain⟨j,hj,rfl⟩:=qK he;have:=bm j oo;exact Oy
   rw [hm];exact⟨rfl,rfl,rfl,rfl⟩
def C5(s:bB)(bs:List aL)(x:aA):Wt:=⟨mR (s.aF.getD x.ar.toNat Tc.ar.aa) x.half,(bI bs x.box).1.aI⟩
def qH(t:List dN)(w:List Int):Nat->List Wt
 | 0 => []
 | i+1=>if w.getD i 0=0 then qH t w i else qH t w i ++ [⟨(t.getD i Tc.dW.aa).x,w.getD i 0⟩]
theorem Py(t:List dN)(w:List Int):∀ j,(qH t w j).length<=j
 | 0=>aN _
 | j+1=>by
  have:=Py t w j;unfold qH;split
  . omega
  . rw [c9,dE,hZ]; omega
def AG(s:bB)(bs:List aL)(l:List aA)(w:List Int):Bool:=gA s bs l&&(qz s.fv w&&(gq s.ee&&decide (lh s.ee=s.lk)))
def lS(s:bB)(bs:List aL)(l:List aA)(w:List Int):List Wt×Int:=if AG s bs l w then (l.map (C5 s bs)++qH s.fv w w.length,0) else ([],2)
theorem akY{l:List aA}{w:List Int}(h:AG s bs l w=true->False):lS s bs l w=([],2):=ax h
theorem XY(s:bB)(bs:List aL)(l:List aA)(w:List Int):AG s bs l w=true↔gA s bs l=true/\qz s.fv w=true/\gq s.ee=true/\lh s.ee=s.lk:=by
 unfold AG;exact OR
def aCf(l:List aw):Lp where
 X:=Nat
 ov k := [(11,.int .i64 fun _=>(k:Int)),(10,.int .i64 fun _=>lh (l.take k))]
 oe _ := []
 I k:=k<=l.length
 μ k _:=l.length - k
 x0:=0
 nx:=some fun k=>k+1
def aCg(l:List aA)(Q:List Wt):Lp where
 X:=Nat
 ov k := [(13,.int .i64 fun _=>(k:Int)),(12,.own 1)]
 oe k := [(1,.row true .wx 94 fun _=>Q.take k)]
 I k:=k<=l.length
 μ k _:=l.length - k
 x0:=0
 nx:=some fun k=>k+1
def aCh(t:List dN)(w:List Int)(Q:List Wt):Lp where
 X:=Nat
 ov k := [(18,.int .i64 fun _=>(k:Int)),(12,.own 1)]
 oe k := [(1,.row true .wx 94 fun _=>Q++qH t w k)]
 I k:=k<=w.length
 μ k _:=w.length - k
 x0:=0
 nx:=some fun k=>k+1
def XZ:aC:=oS 29 ko jc lL gi (fun s bs l w=>yC (s ()) (bs ()) (l ())/\(s ()).fv.length<=1000000000000/\(s ()).ee.length<=1000000000000/\(w ()).length<=1000000000000) (fun s bs l w => .bp [.sl true .wx fun _=>(lS (s ()) (bs ()) (l ()) (w ())).1,.int .i64 fun _=>(lS (s ()) (bs ()) (l ()) (w ())).2])
theorem akZ:aE Tryz.prog XZ:=by
 refine bZ { kp := [(0,[0,1,2,3]),(1,[1,2,3,4]),(2,[]),(3,[1,2,3,4]),(4,[1,2,3,4,10]),(5,[1,2,3,4,10,11]),(6,[1,2,3,4,10,11]),(7,[1,2,3,4,10,11]),(8,[1,2,3,4,10]),(9,[]),(10,[1,2,3,4]),(11,[1,2,3,4,12]),(12,[1,2,3,4,12,13]),(13,[1,2,3,4,12,13]),(14,[1,2,3,4,12,13]),(15,[1,2,3,4,12,13,14]),(16,[3,4,12]),(17,[3,4,12,18]),(18,[3,4,12,18]),(19,[3,4,12,18]),(20,[3,4,12,18]),(21,[12])],lt := [(14,⟨[0,1,2,3,4,5,6,7,8,9,10,11,12,13,14,15,16,17],[0,1,2,3,4,5,6,7,8,9,10,11,12,13,14,15,16,17],[],[],[]⟩),(20,⟨[0,1,2,3,4,5,6,7,8,9,10,11,12,13,14],[0,1,2,3,4,5,6,7,8,9,10,11],[12,13,14],[],[]⟩)] } [XX,aiU,W4,akX,aiW] ⟨akW,azY,aja,aCe,az0,trivial⟩ [] trivial Tryz.func29 (by kernel_rfl) fun ah res h hp => ?_;obtain⟨(s:bB),(bs:List aL),(l:List aA),(w:List Int),rfl,rfl⟩:=qu h;clear h;have nF:yC s bs l/\s.fv.length<=1000000000000/\s.ee.length<=1000000000000/\w.length<=1000000000000:=hp;have hc:=nF.1;have ht:=nF.2.1;have hf:=nF.2.2.1;have hw:=nF.2.2.2;have hI:=XY s bs l w;refine bk (l.map (C5 s bs)) fun Q hQ => ?_;refine bk s.ee fun F hF => ?_;refine bk s.fv fun T hT => ?_;refine⟨[(5,aCf F),(12,aCg l Q),(17,aCh T w Q)],?_⟩
 conv=>arg 1; cbv
 simp (maxSteps:=4000000) only [ay,aJ,aH,aO];have eS:(⟨s.aF,s.bO,s.lk,s.lx,s.ly,s.lz,s.rows,s.ee,s.fv,s.m1,s.m2,s.m3,s.m4⟩:bB)=s:=rfl;have hB:(AG s bs l w=true->False)->(lS s bs l w).1 = []/\(2:Int)=(lS s bs l w).2:=fun h=>by rw [akY h]; exact⟨rfl,rfl⟩
 simp only [eS];simp only [hF,hT] at hI ht hf ⊢;refine⟨hc,fun c=>hB fun q=>(by rw [(hI.1 q).1] at c; cases c),fun c1=>⟨ht,fun c=>hB fun q=>(by rw [(hI.1 q).2.1] at c; cases c),fun c2=>⟨hf,fun c=>hB fun q=>(by rw [(hI.1 q).2.2.1] at c; cases c),fun c3=>⟨⟨bw _,rfl,rfl⟩,fun (k:Nat) hk => ?_⟩⟩⟩⟩;have bM:k<=F.length:=hk;clear hk;have d1:gA s bs l=true:=by simpa using c1
 have d2:qz T w=true:=by simpa using c2
 have d3:gq F=true:=by simpa using c3
 clear c1 c2 c3;obtain⟨r1,r2,r3,r4⟩:=yp d3;have df:=((Fe F).1 d3).2.1;have aR:=yo none F r3
 conv=>arg 1; cbv
 simp (maxSteps:=4000000) only [ay,aJ,aH,aO];refine⟨fun g => ?_,fun g => ?_⟩
 . have af:k<F.length:=oo
   have h1:=WY af;have h2:=O3 (k+1) oo (fun j hj=>df j oo);have h3:=O3 k oo (fun j hj=>df j oo);have i1:aP ((k:Int)+1):=ii
   exact⟨⟨oo,oo⟩,by rw [<- h1]; simp only [aP]; omega,i1,⟨oo,oo⟩,oo,h1.symm⟩
 have hkF:k=F.length:=oo
 subst hkF;rw [vG];have d4:∀ {P:Prop},P->P:=fun h=>h;refine⟨fun c=>hB fun q=>(by rw [(hI.1 q).2.2.2] at c; simp at c),fun c4=>⟨⟨bw _,rfl,rfl⟩,fun (i:Nat) hi => ?_⟩⟩;have uF:i<=l.length:=hi;clear hi;have d4:lh F=s.lk:=by simpa using c4
 have X0:AG s bs l w=true:=hI.2 ⟨d1,d2,d3,d4⟩;have hR:lS s bs l w=(Q++qH T w w.length,0):=by unfold lS; rw [aG X0,hQ,hT]
 conv=>arg 1; cbv
 simp (maxSteps:=4000000) only [ay,aJ,aH,aO];simp only [eS,hR];have hst:=AE d1;refine⟨fun g1 => ?_,fun g1 => ?_⟩
 . have X1:(⟨s.aF,s.bO,s.lk,s.lx,s.ly,s.lz,s.rows,F,T,s.m1,s.m2,s.m3,s.m4⟩:bB)=s:=by rw [<- hF,<- hT]
   simp only [X1];have af:i<l.length:=oo
   have he:=eJ Tc.ai.aa af;have fJ:bs.length<=1000000000000:=hc.2.1.1.1;have kf:l.length<=1000:=hc.2.2;have vw:Q.length=l.length:=by rw [<- hQ,di]
   have yw:Q.take (i+1)=Q.take i ++ [C5 s bs (l.getD i Tc.ai.aa)]:=by
    rw [o4 Tc.wx.aa oo];congr 2;rw [<- hQ,aY,gC,aY,bq af];rfl
   have hm:=akG d1 he;have Bb:=C2 hst _ he;generalize l.getD i Tc.ai.aa=e at *
   rcases Jj bs e.box with ⟨_,q2⟩|⟨k,q1,q2,q3⟩
   . rw [q2] at Bb; cases Bb
   have hw1:C5 s bs e=⟨(vB s bs l e.box).1,(bs.getD k Tc.box.aa).aI⟩:=by
    unfold C5;rw [hm,q3];rfl
   rw [q1,fB,<- hw1,yw];exact⟨⟨oo,oo⟩,hc,⟨oo,oo⟩,fJ,⟨oo,oo⟩,by simp only [cy,dE,hZ]; omega,ii,⟨oo,oo⟩,oo,rfl⟩
 . have pj:i=l.length:=oo
   subst pj;have vw:Q.length=l.length:=by rw [<- hQ,di]
   rw [ez oo];refine⟨⟨bw _,rfl,(th Q).symm⟩,fun (j:Nat) hj => ?_⟩;have p7:j<=w.length:=hj;clear hj
   conv=>arg 1; cbv
   simp (maxSteps:=4000000) only [ay,aJ,aH,aO];have J1:=(Jw T w).1 d2;have ak1:=((OS T).1 J1.1).1;have dr:Tc.int.aa=0:=rfl;have kf:l.length<=1000:=hc.2.2;have oE:=Py T w j;have jS:qH T w (j+1)=if w.getD j 0=0 then qH T w j else qH T w j ++ [⟨(T.getD j Tc.dW.aa).x,w.getD j 0⟩]:=rfl;have i1:aP ((j:Int)+1):=ii
   simp only [dr];refine⟨fun g2=>⟨⟨oo,oo⟩,fun c => ?_,fun c => ?_⟩,fun g2 => ?_⟩
   . rw [ax (by simpa using c)] at jS;rw [jS,fl];exact⟨⟨oo,oo⟩,⟨oo,oo⟩,by simp only [c9,dE,hZ]; omega,i1,⟨oo,oo⟩,oo,rfl⟩
   . rw [aG (by simpa using c)] at jS;rw [jS];exact⟨i1,⟨oo,oo⟩,oo,rfl⟩
   . rw [show j=w.length from oo]
end Go.Proofs.YtamjbkaclhgffaaGreat
