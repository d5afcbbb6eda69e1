/-
  twistlockref18.total by the abstract run.
-/
import Derived.Test.YtamjbkaclhgffaaGreatSh33
set_option linter.all false
set_option maxRecDepth 100000
set_option maxHeartbeats 4000000
namespace Go.Proofs.YtamjbkaclhgffaaGreat
open Go.RowKit
variable{a b m x z:Int}{F:List aw}{B B' D E K d:Nat}{p q:Rat}{f g:ba}
def aCj(l:List aw)(n:Nat):Lp where
 X:=Nat
 ov k := [(8,.int .i64 fun _=>(k:Int)),(6,.int .i64 fun _=>qA l k)]
 oe k := [(1,.box 108 (gp fun _=>vy l k))]
 I k:=k<=n
 μ k _:=n - k
 x0:=0
 nx:=some fun k=>k+1
def aCk(l:List aw)(ws:List Wt)(a:Int)(m:ba):Lp where
 X:=Nat
 ov k := [(9,.int .i64 fun _=>(k:Int)),(6,.int .i64 fun _=>sW a ws k)]
 oe k := [(1,.box 108 (gp fun _=>xe m ws k))]
 I k:=k<=ws.length
 μ k _:=ws.length - k
 x0:=0
 nx:=some fun k=>k+1
def X2:aC:=bE 93 qv Cm (fun l ws=>((∀ f∈l (),f.ok=true)/\1<=(l ()).length/\(l ()).length<=1000)/\(∀ x∈ws (),0<=x.aI/\x.aI<=500000000)/\(ws ()).length<=3000/\∀ x∈ws (),aP x.x) (fun l ws => .bp [.int .i64 fun _=>qB (l ()) (ws ()),.agg (gp fun _=>mQ (l ()) (ws ()))])
theorem ak2:aE Tryz.prog X2:=by
 refine bZ { kp := [(0,[0,1]),(1,[0,1,5]),(2,[0,1,5,6,7]),(3,[0,1,5,6,7,8]),(4,[0,1,5,6,7,8]),(5,[0,1,5,6,7,8]),(6,[0,1,5,6,7,8]),(7,[1,5,6,7]),(8,[1,5,6,7,9]),(9,[1,5,6,7,9]),(10,[1,5,6,7,9]),(11,[1,5,6,7,9]),(12,[5,6,7])],lt := [(6,⟨[0,1,2,3,4,5,6,7,8,9,10,11,12],[0,1,2,3,4,5,6,7,8,9,10,11],[12],[],[]⟩),(11,⟨[0,1,2,3,4,5,6,7,8,9,10,11,12,13,14,15],[0,1,2,3,4,5,6,7,8,9,10,11,12,13,14],[15],[],[]⟩),(12,⟨[0,1,2,3],[0,1,2],[3],[],[]⟩)] } [JD,OZ,O1,O2] ⟨OY,WS,WU,WW,trivial⟩ [] trivial Tryz.func93 (by kernel_rfl) fun ah res h hp => ?_;obtain⟨(l:List aw),(ws:List Wt),rfl,rfl⟩:=bG h;clear h;obtain⟨⟨aR,x4,oH⟩,C6,hw3,FF⟩:((∀ f∈l,f.ok=true)/\1<=l.length/\l.length<=1000)/\(∀ x∈ws,0<=x.aI/\x.aI<=500000000)/\ws.length<=3000/\∀ x∈ws,aP x.x:=hp;refine bk (l.length - 1) fun n hn => ?_;refine bk (qA l n) fun a ha => ?_;refine bk (vy l n) fun m hm => ?_;refine⟨[(3,aCj l n),(8,aCk l ws a m)],?_⟩
 conv=>arg 1; cbv
 simp (maxSteps:=4000000) only [ay,aJ,aH,aO];have z0:aP 0:=ii
 have hz:=jM z0;refine⟨z0,⟨bw _,rfl,?_⟩,fun (k:Nat) hk => ?_⟩
 . repeat' apply And.intro
   all_goals rfl
 have fO:k<=n:=hk;clear hk
 conv=>arg 1; cbv
 simp (maxSteps:=4000000) only [ay,aJ,aH,aO];have FG:∀ k,aB (dD (ob l k))=ob l k:=fun k=>wM _ _;have rD:∀ k,aB (dD (vy l k))=vy l k:=fun k=>pI (OU l k);have rI:m.fits:=hm▸OU l n;have FH:∀ k,aB (dD (xe m ws k))=xe m ws k:=fun k=>pI (WO ws rI k);have hD:∀ k,(l.getD k Tc.cu.aa).iG=o8 l k:=fun _=>rfl;have XD:=OV aR;have i1:aP ((k:Int)+1):=ii
 refine⟨i1,fun g => ?_,fun g => ?_⟩
 . have af:k<l.length:=oo
   have b1:=XD (k+1) oo;have b2:=(aw.mP (aR _ (eJ Tc.cu.aa af))).2.1;have iL:aP (o8 l k):=by rw [<- hD]; simp only [aP]; omega
   have X3:=jM iL;have eW:qA l k+o8 l k=qA l (k+1):=rfl;have eM:(fW (vy l k) (mulL (cr (o8 l k)) (ob l k)).1).1=vy l (k+1):=rfl;simp only [hD,jJ,jK,u7,wK,X3,FG,rD,iL,eM,eW,aJ,aH,aO,pY];exact⟨⟨oo,oo⟩,ii,⟨oo,oo⟩,⟨aR,oo,oo,oH⟩,i1,⟨oo,oo⟩,oo⟩
 . have eV:k=n:=oo
   subst eV;rw [hm,ha];have E3:0<=a/\a<=500000000*(l.length:Int):=by have:=XD k oo; omega
   refine⟨⟨bw _,rfl,rfl,?_⟩,fun (j:Nat) hj => ?_⟩
   . repeat' apply And.intro
     all_goals rfl
   have gE:j<=ws.length:=hj;clear hj
   conv=>arg 1; cbv
   simp (maxSteps:=4000000) only [ay,aJ,aH,aO];refine⟨fun g => ?_,fun g => ?_⟩
   . have af:j<ws.length:=oo
     have hK:(ws.getD j Tc.wx.aa).aI=(ws.getD j eo).aI:=rfl;have hX:(ws.getD j Tc.wx.aa).x=(ws.getD j eo).x:=rfl;have b1:=OW (a:=a) C6 (j+1) oo;have b2:=C6 _ (eJ eo af);have iX:=FF _ (eJ eo af);have iK:aP (ws.getD j eo).aI:=ii
     have Pz:=jM iK;have J2:=jM iX;have eW:sW a ws j+(ws.getD j eo).aI=sW a ws (j+1):=rfl;have eM:(fW (xe m ws j) (mulL (cr (ws.getD j eo).aI) (cr (ws.getD j eo).x)).1).1=xe m ws (j+1):=rfl;have ij:aP ((j:Int)+1):=ii
     simp only [hK,hX,jJ,jK,u7,wK,Pz,J2,FH,iK,iX,ij,eM,eW,aJ,aH,aO,pY];exact⟨⟨oo,oo⟩,ii,⟨oo,oo⟩,⟨oo,oo⟩,⟨oo,oo⟩,oo⟩
   . have qo:j=ws.length:=oo
     subst qo;have eW:sW a ws ws.length=qB l ws:=by unfold qB; rw [hn,ha]
     have eM:xe m ws ws.length=mQ l ws:=by unfold mQ; rw [hn,hm]
     simp only [eW,eM,aJ,aH,aO]
def aCl(l:List aw)(n:Nat):Lp where
 X:=Nat
 ov k := [(9,.int .i64 fun _=>(k:Int)),(8,.int .i64 fun _=>vz l k)]
 oe k := []
 I k:=k<=n
 μ k _:=n - k
 x0:=0
 nx:=some fun k=>k+1
def aCm(l:List aw)(n:Nat)(W:Int)(M:ba)(Q:List bh):Lp where
 X:=Nat
 ov k := [(13,.int .i64 fun _=>(k:Int)),(10,.own 3)]
 oe k := [(3,.row true .jm 108 fun _=>Q.take k),(1,.box 108 (gp fun _=>xf l W M k)),(2,.box 108 (gp fun _=>xg l k))]
 I k:=k<=n
 μ k _:=n - k
 x0:=0
 nx:=some fun k=>k+1
def aCn(l:List aw)(n:Nat)(Q R:List bh):Lp where
 X:=Nat
 ov k := [(16,.int .i64 fun _=>(k:Int)),(10,.own 3)]
 oe k := [(3,.row true .jm 108 fun _=>R.take k++Q.drop k)]
 I k:=k<=n
 μ k _:=n - k
 x0:=0
 nx:=some fun k=>k+1
def ak4:aC:=bE 94 qv Cm (fun l ws=>((∀ f∈l (),f.ok=true)/\1<=(l ()).length/\(l ()).length<=1000)/\(∀ x∈ws (),0<=x.aI/\x.aI<=500000000)/\(ws ()).length<=3000/\∀ x∈ws (),aP x.x) (fun l ws => .sl true .jm fun _=>(List.range ((l ()).length - 1)).map fun i=>dD (sX (l ()) (qB (l ()) (ws ())) (mQ (l ()) (ws ())) i))
theorem aCo:aE Tryz.prog ak4:=by
 refine bZ { kp := [(0,[0,1]),(1,[0,1]),(2,[0,5,6]),(3,[0,5,6,7,8]),(4,[0,5,6,7,8,9]),(5,[0,5,6,7,8,9]),(6,[0,5,6,7,8,9]),(7,[0,5,6,7,8]),(8,[0,5,6,7,8,10]),(9,[0,5,7,8,10,11,12]),(10,[0,5,7,8,10,11,12,13]),(11,[0,5,7,8,10,11,12,13]),(12,[0,5,7,8,10,11,12,13]),(13,[0,5,7,8,10,11,12,13,14]),(14,[0,5,7,8,10,11,12,13,14]),(15,[0,5,7,8,10,11,12,13,14]),(16,[0,7,8,10,11,12]),(17,[0,7,8,10,15]),(18,[0,7,8,10,15,16]),(19,[0,7,8,10,15,16]),(20,[0,7,8,10,15,16]),(21,[10])],lt := [(6,⟨[0,1,2,3,4,5,6,7,8,9,10,11,12,13,14],[0,1,2,3,4,5,6,7,8,9,10,11,12,13,14],[],[],[]⟩),(8,⟨[0,1,2,3,4,5],[],[],[⟨[],[0,5,6,7,8,10,11,12,45,46],(0,0),[(0,0,1),(1,1,2),(2,2,3),(3,3,4)]⟩,⟨[0],[0,5,7,8,10,11,12,45,46],(0,0),[(1,1,5),(2,2,6),(3,3,7)]⟩,⟨[1],[0,5,6,7,8,10,11,12,45,46],(0,1),[(0,0,5),(2,2,8),(3,3,9)]⟩,⟨[2],[0,5,6,7,8,10,11,12,45,46],(0,2),[(0,0,6),(1,1,8),(3,3,10)]⟩,⟨[3],[0,5,6,7,8,10,11,12,45,46],(0,3),[(0,0,7),(1,1,9),(2,2,10)]⟩,⟨[0,1],[0,5,7,8,10,11,12,45,46],(1,1),[(2,2,11),(3,3,12)]⟩,⟨[0,2],[0,5,7,8,10,11,12,45,46],(1,2),[(1,1,11),(3,3,13)]⟩,⟨[0,3],[0,5,7,8,10,11,12,45,46],(1,3),[(1,1,12),(2,2,13)]⟩,⟨[1,2],[0,5,6,7,8,10,11,12,45,46],(2,2),[(0,0,11),(3,3,14)]⟩,⟨[1,3],[0,5,6,7,8,10,11,12,45,46],(2,3),[(0,0,12),(2,2,14)]⟩,⟨[2,3],[0,5,6,7,8,10,11,12,45,46],(3,3),[(0,0,13),(1,1,14)]⟩,⟨[0,1,2],[0,5,7,8,10,11,12,45,46],(5,2),[(3,3,15)]⟩,⟨[0,1,3],[0,5,7,8,10,11,12,45,46],(5,3),[(2,2,15)]⟩,⟨[0,2,3],[0,5,7,8,10,11,12,45,46],(6,3),[(1,1,15)]⟩,⟨[1,2,3],[0,5,6,7,8,10,11,12,45,46],(8,3),[(0,0,15)]⟩,⟨[0,1,2,3],[0,5,7,8,10,11,12,45,46],(11,3),[]⟩],[4,5]⟩),(12,⟨[0,2,3,4,5,1,6,7,8,9,10,11,12],[0,2,3,4,5],[],[⟨[0,1,2,3,4],[0,5,7,8,10,11,12,13,14,52,53,57,58,59,60,61,62],(0,0),[(5,1,1),(6,6,2),(11,11,3)]⟩,⟨[0,1,2,3,4,5],[0,5,7,8,10,11,12,13,14,53,57,58,59,60,61,62],(0,1),[(6,6,4),(11,11,5)]⟩,⟨[0,1,2,3,4,6],[0,5,7,8,10,11,12,13,14,52,53,58,59,60,61,62],(0,6),[(5,1,4),(11,11,6)]⟩,⟨[0,1,2,3,4,11],[0,5,7,8,10,11,12,13,14,52,53,57,58,59,60,61,62],(0,11),[(5,1,5),(6,6,6)]⟩,⟨[0,1,2,3,4,5,6],[0,5,7,8,10,11,12,13,14,53,58,59,60,61,62],(1,6),[(7,7,7),(11,11,8)]⟩,⟨[0,1,2,3,4,5,11],[0,5,7,8,10,11,12,13,14,53,57,58,59,60,61,62],(1,11),[(6,6,8)]⟩,⟨[0,1,2,3,4,6,11],[0,5,7,8,10,11,12,13,14,52,53,58,59,60,61,62],(2,11),[(5,1,8)]⟩,⟨[0,1,2,3,4,5,6,7],[0,5,7,8,10,11,12,13,14,53,59,60,61,62],(4,7),[(8,8,9),(11,11,10)]⟩,⟨[0,1,2,3,4,5,6,11],[0,5,7,8,10,11,12,13,14,53,58,59,60,61,62],(4,11),[(7,7,10)]⟩,⟨[0,1,2,3,4,5,6,7,8],[0,5,7,8,10,11,12,13,14,60,61,62],(7,8),[(9,9,11),(11,11,12)]⟩,⟨[0,1,2,3,4,5,6,7,11],[0,5,7,8,10,11,12,13,14,53,59,60,61,62],(7,11),[(8,8,12)]⟩,⟨[0,1,2,3,4,5,6,7,8,9],[0,5,7,8,10,11,12,13,14,60,61,62],(9,9),[(10,10,13),(11,11,14)]⟩,⟨[0,1,2,3,4,5,6,7,8,11],[0,5,7,8,10,11,12,13,14,60,61,62],(9,11),[(9,9,14)]⟩,⟨[0,1,2,3,4,5,6,7,8,9,10],[0,5,7,8,10,11,12,13,14,62],(11,10),[(11,11,15)]⟩,⟨[0,1,2,3,4,5,6,7,8,9,11],[0,5,7,8,10,11,12,13,14,60,61,62],(11,11),[(10,10,15)]⟩,⟨[0,1,2,3,4,5,6,7,8,9,10,11],[0,5,7,8,10,11,12,13,14,62],(13,11),[]⟩],[12]⟩),(13,⟨[0,1,2,3,4,5,6,7],[0,1,2,3,4,5,6],[7],[],[]⟩),(14,⟨[0,1,2,3,4,5,6,7,8,9,10,11,12,13,14,15,16,17,18,19,20,21,22,23],[0,1,2,3,4,5,6,7,8,9,10,11,12,13,14,15,16,17,18,19,20,21,22],[23],[],[]⟩),(20,⟨[0,1,2,3,4,5,6,7,8,9,10,11,12,13,14,15,16,17,18,19,20,21,22,23,24,25,26,27],[0,1,2,3,4,5,6,7,8,9,10,11,12,13,14,15,16,17,18,19,20,21,22,23,24,25,26],[27],[],[]⟩)],ct := [13,14,15,17] } [JD,OZ,O1,O2,WV,WT,X2] ⟨OY,WS,WU,WW,ai9,ai8,ak2,trivial⟩ [] trivial Tryz.func94 (by kernel_rfl) fun ah res h hp => ?_;obtain⟨(l:List aw),(ws:List Wt),rfl,rfl⟩:=bG h;clear h;have iJ:=hp;obtain⟨⟨aR,x4,oH⟩,C6,hw3,FF⟩:((∀ f∈l,f.ok=true)/\1<=l.length/\l.length<=1000)/\(∀ x∈ws,0<=x.aI/\x.aI<=500000000)/\ws.length<=3000/\∀ x∈ws,aP x.x:=hp;refine bk (l.length - 1) fun n hn => ?_;refine bk (qB l ws) fun W hW => ?_;refine bk (mQ l ws) fun M hM => ?_;refine bk ((List.range n).map fun i=>dD (qC l W i)) fun Q hQ => ?_;refine⟨[(4,aCl l n),(10,aCm l n W M Q)],?_⟩
 conv=>arg 1; cbv
 simp (maxSteps:=4000000) only [ay,aJ,aH,aO];have z0:aP 0:=ii
 have hz:=jM z0;have hnI:((l.length:Int) - 1)=(n:Int):=oo
 simp only [hW,hM,hnI];refine⟨iJ,ii,⟨bw _,rfl,rfl⟩,fun (k:Nat) hk => ?_⟩;have fO:k<=n:=hk;clear hk
 conv=>arg 1; cbv
 simp (maxSteps:=4000000) only [ay,aJ,aH,aO];have X4:=aiX aR;have rX:∀ x:Int,-2000000000<=x->x<=2000000000->aP x:=fun x h1 h2=>ii
 have tk:∀ k:Nat,((k:Int)+1).toNat=k+1:=fun k=>oo
 simp only [tk,Ar];have hx:=fun q=>vq aR q;refine⟨fun g => ?_,fun g => ?_⟩
 . have:=hx k;have:=hx (k+1);have b1:=X4 k oo;refine⟨⟨oo,oo⟩,rX _ oo oo,rX _ oo oo,⟨oo,oo⟩,rX _ oo oo,rX _ oo oo,⟨oo,oo⟩,oo,rfl⟩
 have eV:k=n:=oo
 subst eV;simp only [z0,aJ];refine⟨⟨bw _,rfl,?_⟩,fun (j:Nat) hj => ?_⟩
 . repeat' apply And.intro
   all_goals rfl
 have gE:j<=k:=hj;clear hj
 conv=>arg 1; cbv
 simp (maxSteps:=4000000) only [ay,aJ,aH,aO];have rI:M.fits:=hM▸WO ws (OU l _) _;have FG:∀ k,aB (dD (ob l k))=ob l k:=fun k=>wM _ _;have rD:∀ k,aB (dD (xf l W M k))=xf l W M k:=fun k=>pI (az1 rI k);have FH:∀ k,aB (dD (xg l k))=xg l k:=fun k=>pI (az2 l k);have PA:∀ k,aB (dD (qC l W k))=qC l W k:=fun k=>wM _ _;have iW:aP W:=by
  have h1:=OW (a:=qA l (l.length - 1)) C6 ws.length oo;have h2:=OV aR (l.length - 1) oo;have:qB l ws=sW (qA l (l.length - 1)) ws ws.length:=rfl;simp only [aP];omega
 have aCq:=jM iW;have hS:∀ q,(l.getD q Tc.cu.aa).share=(l.getD q fF).share:=fun _=>rfl;have i4:aP 10000:=rX _ oo oo;have aCr:=jM i4;refine⟨fun g => ?_,fun g => ?_⟩
 . have af:j<l.length:=oo
   have iS:aP (l.getD j fF).share:=by
    have:=(aw.mP (aR _ (eJ fF af))).2.2.1;exact rX _ oo oo
   have aCs:=jM iS;have eB:(gM (mulL (cr W) (cr (l.getD j fF).share)).1 (cr 10000)).1=qC l W j:=rfl;simp only [hS,jJ,jK,u7,wM,aCq,aCs,aCr,iW,iS,i4,eB,aJ,aH,aO,pY];refine⟨oo,?_⟩;refine fun _ _ => ?_
   conv=>arg 1; cbv
   simp (maxSteps:=4000000) only [ay,aJ,aH,aO];have eM:(gG (xf l W M j) (mulL (qC l W j) (ob l j)).1).1=xf l W M (j+1):=rfl;simp only [jJ,jK,u7,wL,FG,rD,PA,eM,aJ,aH,aO,pY];refine⟨⟨aR,oo,oo,oH⟩,?_⟩;refine fun _ _ => ?_
   conv=>arg 1; cbv
   simp (maxSteps:=4000000) only [ay,aJ,aH,aO];have i1:aP ((j:Int)+1):=rX _ oo oo;have x1:=hx j;have x2:=hx (j+1);have X5:aP (bH l j+bH l (j+1)):=rX _ oo oo;have bX:=X4 k oo;have mX:=pN (a:=(k:Int)) (A:=1000) (b:=bH l j+bH l (j+1)) (B:=1000000) oo oo;have eO:(k:Int)*(bH l j+bH l (j+1)) - vz l k=o9 l j:=by unfold o9; rw [hn]
   have FI:aP ((k:Int)*(bH l j+bH l (j+1))):=rX _ oo oo;have iO:aP (o9 l j):=by rw [<- eO]; exact rX _ oo oo
   have X6:=jM iO;have eF:(fW (xg l j) (mulL (cr (o9 l j)) (ob l j)).1).1=xg l (j+1):=rfl;simp only [tk,Ar,i1,X5,FI,eO,iO,jJ,jK,u7,wK,X6,FG,FH,eF,aJ,aH,aO,pY];refine⟨⟨oo,oo⟩,⟨oo,oo⟩,⟨aR,oo,oo,oH⟩,?_⟩;refine fun _ _ => ?_
   conv=>arg 1; cbv
   simp (maxSteps:=4000000) only [ay,aJ,aH,aO];simp only [jJ,jK,i1,aJ,aH,aO,pY];have vw:Q.length=k:=by rw [<- hQ,di,vK]
   have yw:Q.take (j+1)=Q.take j ++ [dD (qC l W j)]:=by
    rw [o4 Tc.jm.aa oo];congr 2;rw [<- hQ,aY,gC,xu oo];rfl
   rw [yw];exact⟨by simp only [cy,dE,hZ]; omega,⟨oo,oo⟩,oo,rfl⟩
 . have mq:j=k:=oo
   subst mq;have eK:(gM (xf l W M j) (xg l j)).1=kV l W M:=by unfold kV; rw [hn]
   simp only [jJ,jK,wM,rD,FH,eK,aJ,aH,aO,pY];refine fun _ _ => ?_;refine bk ((List.range j).map fun i=>dD (sX l W M i)) fun R hR => ?_
   conv=>arg 1; cbv
   refine⟨aCn l j Q R,?_⟩
   conv=>arg 1; cbv
   simp (maxSteps:=4000000) only [ay,aJ,aH,aO];refine⟨⟨bw _,rfl,?_⟩,fun (i:Nat) hi => ?_⟩
   . have vw:Q.length=j:=by rw [<- hQ,di,vK]
     rw [F9,yK,tg,ez oo]
   have mr:i<=j:=hi;clear hi
   conv=>arg 1; cbv
   simp (maxSteps:=4000000) only [ay,aJ,aH,aO];have PB:aB (dD (kV l W M))=kV l W M:=wM _ _;have vw:Q.length=j:=by rw [<- hQ,di,vK]
   have VE:R.length=j:=by rw [<- hR,di,vK]
   refine⟨fun g1 => ?_,fun g1 => ?_⟩
   . have i1:aP ((i:Int)+1):=rX _ oo oo;have x1:=hx i;have x2:=hx (i+1);have X5:aP (bH l i+bH l (i+1)):=rX _ oo oo;have bX:=X4 j oo;have mX:=pN (a:=(j:Int)) (A:=1000) (b:=bH l i+bH l (i+1)) (B:=1000000) oo oo;have eO:(j:Int)*(bH l i+bH l (i+1)) - vz l j=o9 l i:=by unfold o9; rw [hn]
     have FI:aP ((j:Int)*(bH l i+bH l (i+1))):=rX _ oo oo;have iO:aP (o9 l i):=by rw [<- eO]; exact rX _ oo oo
     have X6:=jM iO;have lF:(R.take i++Q.drop i).getD i Tc.jm.aa=dD (qC l W i):=by
      rw [aY,r6 (by rw [cy]; omega),cy,tf oo,vS,mo,jD,<- hQ,gC,xu oo];rfl
     have hR1:R.take (i+1)=R.take i ++ [dD (sX l W M i)]:=by
      rw [o4 Tc.jm.aa oo];congr 2;rw [<- hR,aY,gC,xu oo];rfl
     have eL:(fW (qC l W i) (mulL (kV l W M) (cr (o9 l i))).1).1=sX l W M i:=rfl;simp only [tk,Ar,i1,X5,FI,eO,iO,lF,oT,jJ,jK,u7,wK,X6,PA,PB,eL,aJ,aH,aO,pY];have hlen:(R.take i++Q.drop i).length=j:=by rw [c9,cy,iU]; omega
     rw [hlen];refine⟨⟨oo,oo⟩,⟨oo,oo⟩,⟨oo,oo⟩,⟨oo,oo⟩,⟨oo,oo⟩,oo,?_⟩;rw [hR1,YI _ _ (by rw [cy]; omega),cy,tf oo,vS,rZ (show i<Q.length from oo),AJ,fl];rfl
   . have iH:i=j:=oo
     subst iH;have hE:(List.range (l.length - 1)).map (fun i=>dD (sX l (qB l ws) (mQ l ws) i))=R:=by rw [hn,hW,hM]; exact hR
     have hD:R.take i++Q.drop i=R:=by rw [ez oo,yI oo,th]
     rw [hD]
     first|exact hE.symm|exact hR.symm|(rw [hn]; exact hR.symm)
def aCu(n:Nat)(Q:List lB):Lp where
 X:=Nat
 ov k := [(12,.int .i64 fun _=>(k:Int)),(11,.own 1)]
 oe k := [(1,.row true .cE 110 fun _=>Q.take k)]
 I k:=k<=n
 μ k _:=n - k
 x0:=0
 nx:=some fun k=>k+1
def aCv(l:List aw)(W:Int)(M:ba)(j n:Nat):Lp where
 X:=Nat
 ov t := [(15,.int .i64 fun _=>((j+t:Nat):Int))]
 oe t := [(2,.box 108 (gp fun _=>xh l W M j t)),(3,.box 108 (gp fun _=>xi l W M j t))]
 I t:=j+t+1<=n
 μ t _:=n - t
 x0:=0
 nx:=some fun t=>t+1
def aCw(s b:ba)(ws:List Wt)(x:Int):Lp where
 X:=Nat
 ov k := [(17,.int .i64 fun _=>(k:Int))]
 oe k := [(2,.box 108 (gp fun _=>rQ s ws x k)),(3,.box 108 (gp fun _=>rR b ws x k))]
 I k:=k<=ws.length
 μ k _:=ws.length - k
 x0:=0
 nx:=some fun k=>k+1
def ak5:aC:=bE 39 qv Cm (fun l ws=>(l ()).length<=1000000000000/\(ws ()).length<=1000000000000) (fun l ws => .bp [.sl true .cE fun _=>(Aw (l ()) (ws ())).1.map yv,.int .i64 fun _=>(Aw (l ()) (ws ())).2])
theorem aCx:aE Tryz.prog ak5:=by
 refine bZ { kp := [(0,[0,1]),(1,[0,1]),(2,[]),(3,[0,1]),(4,[0,1,6]),(5,[0,1,6]),(6,[0,1,6]),(7,[]),(8,[0,1]),(9,[]),(10,[0,1]),(11,[0,1,7]),(12,[0,1,7]),(13,[0,1,7]),(14,[]),(15,[0,1]),(16,[0,1,8]),(17,[]),(18,[0,1]),(19,[0,1,10]),(20,[0,1,10,11]),(21,[0,1,10,11,12]),(22,[0,1,10,11,12]),(23,[0,1,10,11,12]),(24,[0,1,10,11,12,13,14]),(25,[0,1,10,11,12,13,14,15]),(26,[0,1,10,11,12,13,14,15]),(27,[0,1,10,11,12,13,14,15]),(28,[0,1,10,11,12,13,14,15,16]),(29,[0,1,10,11,12,13,14,15,16]),(30,[0,1,10,11,12,13,14]),(31,[0,1,10,11,12,13,14,17]),(32,[0,1,10,11,12,13,14,17]),(33,[0,1,10,11,12,13,14,17]),(34,[0,1,10,11,12,13,14,17]),(35,[0,1,10,11,12,13,14,17]),(36,[0,1,10,11,12,13,14]),(37,[11])],lt := [(13,⟨[0,1,2,3,4,5,6,7,8,9,10,11,12,13,14,15,16,17,18,19,20,21,22,23,24],[0,1,2,3,4,5,6,7,8,9,10,11,12,13,14,15,16,17,18,19,20,21,22,23,24],[],[],[]⟩),(27,⟨[0,1,2,4,5,6,7,3,8,9,10,11,12],[0,1,2,4,5,6,7],[],[⟨[0,1,2,3,4,5,6],[0,1,10,11,12,13,14,15,16,97,98,102,103,104,105],(0,0),[(7,3,1),(8,8,2),(11,11,3)]⟩,⟨[0,1,2,3,4,5,6,7],[0,1,10,11,12,13,14,15,16,98,102,103,104,105],(0,3),[(8,8,4),(11,11,5)]⟩,⟨[0,1,2,3,4,5,6,8],[0,1,10,11,12,13,14,15,16,97,98,103,104,105],(0,8),[(7,3,4),(9,9,6),(11,11,7)]⟩,⟨[0,1,2,3,4,5,6,11],[0,1,10,11,12,13,14,15,16,97,98,102,103,104,105],(0,11),[(8,8,7)]⟩,⟨[0,1,2,3,4,5,6,7,8],[0,1,10,11,12,13,14,15,16,98,103,104,105],(1,8),[(9,9,8),(11,11,9)]⟩,⟨[0,1,2,3,4,5,6,7,11],[0,1,10,11,12,13,14,15,16,98,102,103,104,105],(1,11),[(8,8,9)]⟩,⟨[0,1,2,3,4,5,6,8,9],[0,1,10,11,12,13,14,15,16,97,98,104,105],(2,9),[(7,3,8),(11,11,10)]⟩,⟨[0,1,2,3,4,5,6,8,11],[0,1,10,11,12,13,14,15,16,97,98,103,104,105],(2,11),[(7,3,9),(9,9,10)]⟩,⟨[0,1,2,3,4,5,6,7,8,9],[0,1,10,11,12,13,14,15,16,98,104,105],(4,9),[(10,10,11),(11,11,12)]⟩,⟨[0,1,2,3,4,5,6,7,8,11],[0,1,10,11,12,13,14,15,16,98,103,104,105],(4,11),[(9,9,12)]⟩,⟨[0,1,2,3,4,5,6,8,9,11],[0,1,10,11,12,13,14,15,16,97,98,104,105],(6,11),[(7,3,12)]⟩,⟨[0,1,2,3,4,5,6,7,8,9,10],[0,1,10,11,12,13,14,15,16,105],(8,10),[(11,11,13)]⟩,⟨[0,1,2,3,4,5,6,7,8,9,11],[0,1,10,11,12,13,14,15,16,98,104,105],(8,11),[(10,10,13)]⟩,⟨[0,1,2,3,4,5,6,7,8,9,10,11],[0,1,10,11,12,13,14,15,16,105],(11,11),[]⟩],[12]⟩),(29,⟨[0,1,2,3,4,5,6,7,8,9,10,11,12,13,14],[0,1,2,3,4,5,6,7,8,9,10,11,12,13],[14],[],[]⟩),(33,⟨[0,1,2,3,4,5,6,7,8,9,10],[0,1,2,3,4,5,6,7,8,9,10],[],[],[]⟩),(34,⟨[0,1,2,3,4,5,6,7,8],[0,1,2,3,4,5,6,7],[8],[],[]⟩),(35,⟨[0,1,2,3,4,5,6,7,8,9,10,11,12,13,14,15,16,17,18,19,20,21],[0,1,2,3,4,5,6,7,8,9,10,11,12,13,14,15,16,17,18,19,20],[21],[],[]⟩)],ct := [28,29,30,34,35,36] } [WR,W4,JD,OZ,O1,O2,WT,X2,ak4] ⟨ai7,aja,OY,WS,WU,WW,ai8,ak2,aCo,trivial⟩ [] trivial Tryz.func39 (by kernel_rfl) fun ah res h hp => ?_;obtain⟨(l:List aw),(ws:List Wt),rfl,rfl⟩:=bG h;clear h;have fA:l.length<=1000000000000/\ws.length<=1000000000000:=hp;have hl:=fA.1;have hw:=fA.2;refine⟨[(4,jP 6 ws fun j=>lA (ws.getD j Tc.wx.aa)=false),(11,jP 7 ws fun j=>qD l (ws.getD j Tc.wx.aa)=false)],?_⟩
 conv=>arg 1; cbv
 simp (maxSteps:=4000000) only [ay,aJ,aH,aO];have hWB:∀ u:Wt,(!fU u.aI 0 500000000)=lA u:=fun u=>by unfold lA fU; simp only [YT]
 refine⟨hl,fun c1 => ?_,fun c1=>⟨⟨⟨bw _,fun j hj=>absurd hj (jB _)⟩,rfl⟩,fun (a:Nat) ha => ?_⟩⟩
 . unfold Aw; rw [aG c1]; exact⟨rfl,rfl⟩
 have ak7:a<=ws.length/\∀ j,j<a->lA (ws.getD j Tc.wx.aa)=false:=ha;have E3:=ak7.1;have Cy:=ak7.2;clear ha;have e1:Aw l ws=JC l ws:=ax (by rw [c1]; decide);rw [e1] at *
 conv=>arg 1; cbv
 simp (maxSteps:=4000000) only [ay,aJ,aH,aO];simp only [hWB];refine⟨fun g=>⟨⟨oo,oo⟩,fun c => ?_,fun c => ?_⟩,fun g => ?_⟩
 . rw [aiY (Jn (d:=Tc.wx.aa) oo c)]; exact⟨rfl,rfl⟩
 . exact j5 hw oo Cy c
 have hA:ws.any lA=false:=Ow (d:=Tc.wx.aa) (fun j hj=>by rw [Cy j hj]; decide) oo;clear g E3 Cy;rw [aiZ hA];refine⟨fun c => ?_,fun c3=>⟨⟨⟨bw _,fun j hj=>absurd hj (jB _)⟩,rfl⟩,fun (b:Nat) hb => ?_⟩⟩
 . rw [ai0 oo]; exact⟨rfl,rfl⟩
 have ak8:b<=ws.length/\∀ j,j<b->qD l (ws.getD j Tc.wx.aa)=false:=hb;have c6:=ak8.1;have eR:=ak8.2;clear hb
 conv=>arg 1; cbv
 simp (maxSteps:=4000000) only [ay,aJ,aH,aO];have Jv:gq l=true:=by simpa using c1
 obtain⟨r1,r2,r3,r4⟩:=yp Jv;have aR:=yo none l r3;have hlen:3<=l.length/\l.length<=30:=oo
 have C6:=Jp hA;have hOut:∀ u:Wt,qD l u=(decide (u.x<bH l 0)||decide (bH l (l.length - 1)<=u.x)):=fun _=>rfl;have eF:∀ q,(l.getD q Tc.cu.aa).x=bH l q:=fun _=>rfl;have iL:aP ((l.length:Int) - 1):=ii
 rw [ai1 oo];simp only [eF,anp];refine⟨fun g=>⟨⟨oo,oo⟩,⟨oo,oo⟩,fun c => ?_,fun c=>⟨⟨oo,oo⟩,iL,⟨oo,oo⟩,fun d => ?_,fun d => ?_⟩⟩,fun g => ?_⟩
 . rw [WQ (Jn (d:=Tc.wx.aa) (k:=b) oo (by rw [hOut,cT c]; rfl))]; exact⟨rfl,rfl⟩
 . rw [WQ (Jn (d:=Tc.wx.aa) (k:=b) oo (by rw [hOut,cT d,Gc]))]; exact⟨rfl,rfl⟩
 . exact j5 hw oo eR (by rw [hOut,dB c,dB d]; rfl)
 have hB:ws.any (qD l)=false:=Ow (d:=Tc.wx.aa) (fun j hj=>by rw [eR j hj]; decide) oo;clear g c6 eR e1;rw [ai2 hB];have hx:=fun q=>vq aR q;have FF:∀ u∈ws,bH l 0<=u.x/\u.x<bH l (l.length - 1):=fun u hu=>by
  have:=(AK.1 hB) u hu;rw [hOut] at this;simp only [fM,aU] at this;omega
 have hwi:∀ u∈ws,aP u.x:=fun u hu=>by
  have:=FF u hu;have:=hx 0;have:=hx (l.length - 1);simp only [aP];omega
 have X7:((∀ f∈l,f.ok=true)/\1<=l.length/\l.length<=1000)/\(∀ x∈ws,0<=x.aI/\x.aI<=500000000)/\ws.length<=3000/\∀ x∈ws,aP x.x:=⟨⟨aR,oo,oo⟩,C6,oo,hwi⟩
 have h4:Jz l ws=if 500000000<qB l ws then ([],3) else ((List.range l.length).map (Jy l ws (qB l ws) (mQ l ws)),0):=rfl;rw [h4];have rI:(mQ l ws).fits:=WO ws (OU l _) _;clear h4 hB hA c3 hWB c1 hOut;generalize qB l ws=W at *
 generalize mQ l ws=M at *
 refine⟨X7,fun c => ?_,fun c=>⟨X7,?_⟩⟩
 . rw [aG c]; exact⟨rfl,rfl⟩
 rw [ax c];refine bk (((List.range l.length).map (Jy l ws W M)).map yv) fun Q hQ => ?_;refine bk l.length fun n hn => ?_
 conv=>arg 1; cbv
 refine⟨aCu n Q,?_⟩
 conv=>arg 1; cbv
 simp (maxSteps:=4000000) only [ay,aJ,aH,aO];refine⟨⟨bw _,rfl,rfl⟩,fun (j:Nat) hj => ?_⟩;have gE:j<=n:=hj;clear hj
 conv=>arg 1; cbv
 simp (maxSteps:=4000000) only [ay,aJ,aH,aO];have z0:aP 0:=ii
 refine⟨fun g=>⟨z0,z0,aCv l W M j n,?_⟩,fun g => ?_⟩
 . conv=>arg 1; cbv
   simp (maxSteps:=4000000) only [ay,aJ,aH,aO];refine⟨⟨oo,rfl,?_⟩,fun (t:Nat) ht => ?_⟩
   . repeat' apply And.intro
     all_goals rfl
   have Pn:j+t+1<=n:=ht;clear ht
   conv=>arg 1; cbv
   simp (maxSteps:=4000000) only [ay,aJ,aH,aO];have FG:∀ k,aB (dD (ob l k))=ob l k:=fun k=>wM _ _;have rD:∀ t,aB (dD (xh l W M j t))=xh l W M j t:=fun t=>pI (ai3 l W M j t);have FH:∀ t,aB (dD (xi l W M j t))=xi l W M j t:=fun t=>pI (ai4 l W M j t);have PA:∀ i,aB (dD (sX l W M i))=sX l W M i:=fun i=>wK _ _;have PB:∀ i,aB (dD (Av l W M i))=Av l W M i:=fun i=>wL _ _;have i1:aP (((j+t:Nat):Int)+1):=ii
   have vw:((List.range (l.length - 1)).map fun i=>dD (sX l W M i)).length=n - 1:=by rw [di,vK,hn]
   have iX:aP (bH l j):=by have:=hx j; simp only [aP]; omega
   have J2:=jM iX;have hD:∀ k,(l.getD k Tc.cu.aa).iG=o8 l k:=fun _=>rfl;refine⟨i1,fun g1 => ?_,fun g1 => ?_⟩
   . have lF:((List.range (l.length - 1)).map fun i=>dD (sX l W M i)).getD (j+t) Tc.jm.aa=dD (sX l W M (j+t)):=by
      rw [aY,gC,xu oo];rfl
     have iL:aP (o8 l (j+t)):=by
      have:=(aw.mP (aR _ (eJ fF (show j+t<l.length from oo)))).2.1;show aP (l.getD (j+t) fF).iG
      simp only [aP];omega
     have X3:=jM iL;have eN:(gG (sX l W M (j+t)) (cr (o8 l (j+t)))).1=Av l W M (j+t):=rfl;simp only [hD,vw,lF,oT,jJ,jK,wL,X3,PA,iL,eN,aJ,aH,aO,pY];refine⟨⟨oo,oo⟩,⟨oo,oo⟩,?_⟩;refine fun _ _ => ?_
     conv=>arg 1; cbv
     simp (maxSteps:=4000000) only [ay,aJ,aH,aO];have eSh:(fW (xh l W M j t) (Av l W M (j+t))).1=xh l W M j (t+1):=rfl;simp only [jJ,jK,wK,rD,PB,eSh,aJ,aH,aO,pY];refine fun _ _ => ?_
     conv=>arg 1; cbv
     simp (maxSteps:=4000000) only [ay,aJ,aH,aO];have eBe:(gG (xi l W M j t) (mulL (Av l W M (j+t)) (gG (ob l (j+t)) (cr (bH l j))).1).1).1=xi l W M j (t+1):=rfl;simp only [eF,jJ,jK,wL,u7,J2,FG,FH,PB,iX,eBe,aJ,aH,aO,pY];exact⟨⟨aR,oo,oo,oo⟩,⟨oo,oo⟩,i1,⟨oo,oo⟩,oo⟩
   . have ht2:t=n - 1 - j:=oo
     refine bk (xh l W M j t) fun s hs => ?_;refine bk (xi l W M j t) fun e he => ?_;refine bk (bH l j) fun x FJ => ?_;have hsf:s.fits:=hs▸ai3 l W M j t;have hef:e.fits:=he▸ai4 l W M j t;rw [hs,he];refine fun _ _ => ?_
     conv=>arg 1; cbv
     refine⟨aCw s e ws x,?_⟩
     conv=>arg 1; cbv
     simp (maxSteps:=4000000) only [ay,aJ,aH,aO];refine⟨⟨bw _,rfl,?_⟩,fun (k:Nat) hk => ?_⟩
     . repeat' apply And.intro
       all_goals rfl
     have fO:k<=ws.length:=hk;clear hk
     conv=>arg 1; cbv
     simp (maxSteps:=4000000) only [ay,aJ,aH,aO];have B7:∀ k,aB (dD (rQ s ws x k))=rQ s ws x k:=fun k=>pI (ai5 hsf ws x k);have hg3:∀ k,aB (dD (rR e ws x k))=rR e ws x k:=fun k=>pI (ai6 hef ws x k);simp only [eF,FJ];refine⟨fun g2 => ?_,fun g2 => ?_⟩
     . have hK:(ws.getD k Tc.wx.aa).aI=(ws.getD k eo).aI:=rfl;have hX:(ws.getD k Tc.wx.aa).x=(ws.getD k eo).x:=rfl;have hm:=eJ eo (show k<ws.length from oo);have b2:=C6 _ hm;have b3:=FF _ hm;have b0:=hx 0;have b4:=hx (l.length - 1);have b5:=hx j;rw [FJ] at b5;have iK:aP (ws.getD k eo).aI:=ii
       have iX2:aP ((ws.getD k eo).x - x):=ii
       have Pz:=jM iK;have aCF:=jM iX2;have ik:aP ((k:Int)+1):=ii
       have PC:rQ s ws x (k+1)=if x<=(ws.getD k eo).x then (gG (rQ s ws x k) (cr (ws.getD k eo).aI)).1 else rQ s ws x k:=rfl;have PD:rR e ws x (k+1)=if x<=(ws.getD k eo).x then (fW (rR e ws x k) (mulL (cr (ws.getD k eo).aI) (cr ((ws.getD k eo).x - x))).1).1 else rR e ws x k:=rfl;simp only [hK,hX];refine⟨⟨oo,oo⟩,⟨oo,oo⟩,fun d => ?_,fun d => ?_⟩
       . rw [aG d] at PC PD;have X1:=PC.symm;have eE2:=PD.symm;refine fun _ _ => ?_
         conv=>arg 1; cbv
         simp (maxSteps:=4000000) only [ay,aJ,aH,aO];simp only [hK,hX,jJ,jK,wL,Pz,B7,iK,X1,aJ,aH,aO,pY];refine⟨⟨oo,oo⟩,?_⟩;refine fun _ _ => ?_
         conv=>arg 1; cbv
         simp (maxSteps:=4000000) only [ay,aJ,aH,aO];simp only [eF,FJ,hK,hX,jJ,jK,wK,u7,Pz,aCF,B7,hg3,iK,iX2,ik,eE2,aJ,aH,aO,pY];exact⟨⟨oo,oo⟩,⟨oo,oo⟩,⟨oo,oo⟩,⟨oo,oo⟩,oo⟩
       . rw [ax d] at PC PD;rw [PC,PD]
         first|exact⟨ik,⟨⟨oo,oo⟩,oo,rfl,rfl,rfl,rfl,rfl,rfl,rfl,rfl,rfl,rfl,rfl,rfl,rfl,rfl,rfl,rfl,rfl,rfl,rfl,rfl,rfl,rfl,rfl,rfl,rfl,rfl,rfl,rfl,rfl,rfl,rfl,rfl,rfl,rfl⟩⟩
     . have hkw:k=ws.length:=oo
       subst hkw;refine fun _ _ => ?_
       conv=>arg 1; cbv
       simp (maxSteps:=4000000) only [ay,aJ,aH,aO];have vw:Q.length=n:=by rw [<- hQ,di,di,vK,hn]
       have yw:Q.take (j+1)=Q.take j ++ [⟨dD (rQ s ws x ws.length),dD (rR e ws x ws.length)⟩]:=by
        rw [o4 Tc.cE.aa oo];congr 2;rw [<- hQ,xz,aY,gC,xu oo,<- hs,<- he,<- FJ,ht2,<- hn];rfl
       simp only [jJ];rw [yw];exact⟨by simp only [cy,dE,hZ]; omega,ii,⟨oo,oo⟩,oo,rfl⟩
 . have qo:j=n:=oo
   subst qo;have vw:Q.length=j:=by rw [<- hQ,di,di,vK,hn]
   rw [ez oo]
   first|exact⟨hQ.symm,rfl⟩|exact hQ.symm
theorem X8{s:bB}{bs:List aL}{l:List aA}{w:List Int}(hl:l.length<=1000):(lS s bs l w).1.length<=1030:=by
 unfold lS;split
 . rename_i h;have h2:=(Jw _ _).1 ((XY s bs l w).1 h).2.1;have h3:=((OS _).1 h2.1).1;have h4:=Py s.fv w w.length;rw [c9,di];omega
 . simp
def yD(s:bB)(bs:List aL)(l:List aA)(w:List Int):List lO×Int:=if (lS s bs l w).2=0 then Aw s.ee (lS s bs l w).1 else ([],(lS s bs l w).2)
def ala:aC:=oS 30 ko jc lL gi (fun s bs l w=>yC (s ()) (bs ()) (l ())/\(s ()).fv.length<=1000000000000/\(s ()).ee.length<=1000000000000/\(w ()).length<=1000000000000) (fun s bs l w => .bp [.sl true .cE fun _=>(yD (s ()) (bs ()) (l ()) (w ())).1.map yv,.int .i64 fun _=>(yD (s ()) (bs ()) (l ()) (w ())).2])
theorem aCI:aE Tryz.prog ala:=by
 refine bZ { kp := [(0,[0,1,2,3]),(1,[1,2,3,4]),(2,[4,10,11]),(3,[11]),(4,[4,10])],lt := [] } [XZ,ak5] ⟨akZ,aCx,trivial⟩ [] trivial Tryz.func30 (by kernel_rfl) fun ah res h hp => ?_;obtain⟨(s:bB),(bs:List aL),(l:List aA),(w:List Int),rfl,rfl⟩:=qu h;clear h;have iJ:=hp;have nF:yC s bs l/\s.fv.length<=1000000000000/\s.ee.length<=1000000000000/\w.length<=1000000000000:=hp;have hc:=nF.1;have ht:=nF.2.1;have hf:=nF.2.2.1;have hw:=nF.2.2.2;have hlen:=X8 (s:=s) (bs:=bs) (w:=w) hc.2.2;refine⟨[],?_⟩
 conv=>arg 1; cbv
 simp (maxSteps:=4000000) only [ay,aJ,aH,aO];have eS:(⟨s.aF,s.bO,s.lk,s.lx,s.ly,s.lz,s.rows,s.ee,s.fv,s.m1,s.m2,s.m3,s.m4⟩:bB)=s:=rfl;simp only [eS];refine⟨iJ,fun c => ?_,fun c=>⟨⟨hf,oo⟩,?_⟩⟩
 . exact alb
 . have h0:(lS s bs l w).2=0:=by simpa using c
   unfold yD;rw [aG h0];exact⟨rfl,rfl⟩
theorem aCJ(hd:d≠0):(((z:Rat) / (d:Rat)).num.natAbs<=z.natAbs)/\((z:Rat) / (d:Rat)).den<=d:=by
 have h:(z:Rat) / (d:Rat)=Rat.normalize z d hd:=by rw [amU,ang]
 rw [h,Rat.normalize_eq hd];constructor
 . show (z / ((z.natAbs.gcd d:Nat):Int)).natAbs<=z.natAbs
   exact Int.natAbs_ediv_le_natAbs _ _
 . exact yJ _ _
theorem PE(h:sq (p+q)):(fW (ofRat p) (ofRat q)).1=ofRat (p+q):=by
 unfold fW;rw [yU,yU,P8,aG rfl,Zm,Gp h]
theorem PF(h:sq (p - q)):(gG (ofRat p) (ofRat q)).1=ofRat (p - q):=by
 unfold gG;rw [yU,yU,P8,aG rfl,anR,Zm,<- Rat.sub_eq_add_neg,Gp h]
theorem mulR(h:sq (p*q)):(mulL (ofRat p) (ofRat q)).1=ofRat (p*q):=by
 rw [anS,Gp h]
theorem J3(hq:q≠0)(h:sq (p / q)):(gM (ofRat p) (ofRat q)).1=ofRat (p / q):=by
 rw [anT p q hq,Gp h]
theorem alc(hb:b≠0)(h:sq ((a:Rat) / (b:Rat))):(kJ a b).1=ofRat ((a:Rat) / (b:Rat)):=by
 rw [anV a b hb,Gp h]
def Bd(D B:Nat)(q:Rat):Prop:=∃ z:Int,q*(D:Rat)=(z:Rat)/\z.natAbs<=B
theorem Bd.fits(h:Bd D B q)(hD:D≠0)(hD2:D<cA)(hB:B<cA):sq q:=by
 obtain⟨z,hz,hb⟩:=h;have hDr:(D:Rat)≠0:=by
  intro e;apply hD
  exact_mod_cast e
 have e:q=(z:Rat) / (D:Rat):=by
  rw [<- hz];grind
 rw [e];obtain⟨h1,h2⟩:=aCJ (z:=z) hD;exact⟨oo,oo⟩
theorem Bd.mono(h:Bd D B q)(hB:B<=B'):Bd D B' q:=by
 obtain⟨z,hz,hb⟩:=h;exact⟨z,hz,cd hb hB⟩
theorem Bd.add(h:Bd D B p)(h':Bd D B' q):Bd D (B+B') (p+q):=by
 obtain⟨z,hz,hb⟩:=h;obtain⟨y,hy,bo⟩:=h';refine⟨z+y,?_,?_⟩
 . rw [ank,<- hz,<- hy];grind
 . have:=anf z y;omega
theorem Bd.sub(h:Bd D B p)(h':Bd D B' q):Bd D (B+B') (p - q):=by
 obtain⟨z,hz,hb⟩:=h;obtain⟨y,hy,bo⟩:=h';refine⟨z - y,?_,?_⟩
 . rw [Rat.intCast_sub,<- hz,<- hy];grind
 . have:=Int.natAbs_sub_le z y;omega
theorem Bd.mul{M:Nat}(h:Bd D B p)(m:Int)(hm:m.natAbs<=M):Bd D (B*M) (p*(m:Rat)):=by
 obtain⟨z,hz,hb⟩:=h;refine⟨z*m,?_,?_⟩
 . rw [nI,<- hz];grind
 . rw [yL];exact vP hb hm
theorem Bd.int{M:Nat}(m:Int)(hm:m.natAbs<=M):Bd D (M*D) (m:Rat):=by
 refine⟨m*(D:Int),?_,?_⟩
 . rw [nI,PV]
 . rw [yL,Int.natAbs_natCast];exact pd _ hm
theorem Bd.half(h:Bd D B p):Bd (2*D) B (p / 2):=by
 obtain⟨z,hz,hb⟩:=h;refine⟨z,?_,hb⟩;rw [<- hz];push_cast;grind
def kR(S:List au):Rat:=(((aM S).a1:Rat) - (((aM S).a0*(aM S).a3:Int):Rat) / ((10000:Int):Rat)) / ((aM S).a5:Rat)
def kG(S:List au)(sh fa:Int):Rat:=(((aM S).a0*sh:Int):Rat) / ((10000:Int):Rat)+kR S*(fa:Rat)
def vC(S:List au)(j:Nat):Rat:=((aM (S.take j)).a0:Rat) - kG S (aM (S.take j)).a2 (aM (S.take j)).a4
def J4(F:List aw)(S:List au)(j:Nat):Rat:=vC S j*((2*bH F j:Int):Rat)+kG S (aM (S.take j)).a3 (aM (S.take j)).a5 - ((aM (S.take j)).a1:Rat)
def J5(F:List aw)(S:List au)(j:Nat):Rat:=J4 F S j / ((2:Int):Rat)
structure nG (S:List au) (D:Nat):Prop where
 w:0<=(aM S).a0/\(aM S).a0<=500000000
 a5:0<(aM S).a5
 D_:(D:Int)=10000*(aM S).a5
 C3:∀ j,(-2000000000000<=(aM (S.take j)).a0/\(aM (S.take j)).a0<=2000000000000)/\(-2000000000000000000<=(aM (S.take j)).a1/\(aM (S.take j)).a1<=2000000000000000000)/\(-10000<=(aM (S.take j)).a2/\(aM (S.take j)).a2<=10000)/\(-10000000000<=(aM (S.take j)).a3/\(aM (S.take j)).a3<=10000000000)/\(-1740000000<=(aM (S.take j)).a4/\(aM (S.take j)).a4<=1740000000)/\(-1740000000000000<=(aM (S.take j)).a5/\(aM (S.take j)).a5<=1740000000000000)
section
variable{S:List au}{D:Nat}(h:nG S D)
include h
theorem nG.all:(-2000000000000000000<=(aM S).a1/\(aM S).a1<=2000000000000000000)/\(-10000000000<=(aM S).a3/\(aM S).a3<=10000000000)/\(aM S).a5<=1740000000000000:=by
 have:=h.C3 S.length;rw [vG] at this;omega
theorem nG.rY:D≠0/\D<=17400000000000000000:=by
 have h1:=h.D_;have h2:=h.a5;have h3:=h.all;omega
theorem nG.fits(hq:Bd D B q)(hB:B<cA):sq q:=by
 have h1:=h.rY;exact hq.fits h1.1 (pX h1.2 (by decide)) hB
theorem nG.ratio(sh:Int)(hs:sh.natAbs<=10000000000):Bd D 8700000000000000000000000000000000 ((((aM S).a0*sh:Int):Rat) / ((10000:Int):Rat)):=by
 refine⟨(aM S).a0*sh*(aM S).a5,?_,?_⟩
 . have e:(D:Rat)=10000*((aM S).a5:Rat):=by
    have h1:=h.D_;exact ald
   rw [e,nI];have e2:((10000:Int):Rat)=10000:=rfl;rw [e2];grind
 . have h1:=h.w;have h2:=h.all;have h3:=h.a5;rw [yL,yL];have a1:(aM S).a0.natAbs<=500000000:=oo
   have a2:(aM S).a5.natAbs<=1740000000000000:=oo
   exact cd (vP (vP a1 hs) a2) (by decide)
theorem nG.PG:((aM S).a5:Rat)≠0:=by
 have:=h.a5;intro e;have e2:(aM S).a5=0:=by exact_mod_cast e
 omega
theorem nG.k:Bd D 30000000000000000000000 (kR S):=by
 refine⟨10000*(aM S).a1 - (aM S).a0*(aM S).a3,?_,?_⟩
 . have e:(D:Rat)=10000*((aM S).a5:Rat):=by
    have h1:=h.D_;exact ald
   have e2:((10000:Int):Rat)=10000:=rfl;have bg:=h.PG;unfold kR;rw [e,Rat.intCast_sub,nI,nI,e2];grind
 . have h1:=h.w;have h2:=h.all;have a0:=Int.natAbs_sub_le (10000*(aM S).a1) ((aM S).a0*(aM S).a3);rw [yL (aM S).a0] at a0;have nc:(10000*(aM S).a1).natAbs<=20000000000000000000000:=oo
   have a1:(aM S).a0.natAbs<=500000000:=oo
   have a2:(aM S).a3.natAbs<=10000000000:=oo
   have a3:=vP a1 a2;omega
theorem nG.lift(sh fa:Int)(hs:sh.natAbs<=10000000000)(hf:fa.natAbs<=1740000000000000):Bd D 60000000000000000000000000000000000000 (kG S sh fa):=by
 unfold kG;exact ((h.ratio sh hs).add (h.k.mul fa hf)).mono (by decide)
theorem nG.pO{kq:ba}(hk:kq=ofRat (kR S))(sh fa:Int)(hs:sh.natAbs<=10000000000)(hf:fa.natAbs<=1740000000000000):pO (aM S).a0 kq sh fa=ofRat (kG S sh fa):=by
 unfold Go.Proofs.YtamjbkaclhgffaaGreat.pO;subst hk;have h1:=h.ratio sh hs;have h2:=h.k.mul fa hf;rw [alc (by decide) (h.fits h1 (by decide)),tn,mulR (h.fits h2 (by decide)),PE (h.fits (h1.add h2) (by decide))];rfl
theorem nG.kF:kF S=ofRat (kR S):=by
 unfold Go.Proofs.YtamjbkaclhgffaaGreat.kF Go.Proofs.YtamjbkaclhgffaaGreat.pO;have kX:=h.all;have h1:=h.ratio (aM S).a3 oo;have h0:(mulL (cr 0) (cr 0)).1=ofRat 0:=by decide
 have h2:Bd D 0 (0:Rat):=⟨0,by grind,by decide⟩
 have h3:=h1.add h2;have h4:=(Bd.int (D:=D) (M:=2000000000000000000) (aM S).a1 oo).sub h3;have hD:=h.rY;have IK:2000000000000000000*D+(8700000000000000000000000000000000+0)<cA:=pX (Nat.add_le_add_right (j7 _ hD.2) _) (by decide);rw [alc (by decide) (h.fits h1 (by decide)),h0,PE (h.fits h3 (by decide)),tn,PF (h.fits h4 IK),tn,J3 h.PG]
 . congr 1;unfold kR;grind
 . have h5:=h.fits h.k (by decide);have e:(((aM S).a1:Rat) - ((((aM S).a0*(aM S).a3:Int):Rat) / ((10000:Int):Rat)+0)) / ((aM S).a5:Rat)=kR S:=by
    unfold kR;grind
   rw [e];exact h5
theorem nG.down(j:Nat):Bd D 70000000000000000000000000000000000000 (vC S j):=by
 have hs:=h.C3 j;have hD:=h.rY;unfold vC;refine ((Bd.int (D:=D) (M:=2000000000000) (aM (S.take j)).a0 oo).sub (h.lift _ _ oo oo)).mono ?_;exact cd (Nat.add_le_add_right (j7 _ hD.2) _) (by decide)
theorem nG.vv{l:Nat}:vv S (aM S).a0 (Go.Proofs.YtamjbkaclhgffaaGreat.kF S) l=ofRat (vC S l):=by
 unfold Go.Proofs.YtamjbkaclhgffaaGreat.vv;have hs:=h.C3 l;rw [h.pO h.kF _ _ oo oo,tn,PF (h.fits (h.down l) (by decide))];rfl
theorem nG.arm(j:Nat)(hx:(bH F j).natAbs<=500000):Bd D 70000000000000000000000000000000000000000000 (vC S j*((2*bH F j:Int):Rat)) :=
 ((h.down j).mul (2*bH F j) (M:=1000000) oo).mono (by decide)
theorem nG.ale(j:Nat)(hx:(bH F j).natAbs<=500000):Bd D 90000000000000000000000000000000000000000000 (J4 F S j):=by
 have hs:=h.C3 j;have hD:=h.rY;unfold J4;refine (((h.arm j hx).add (h.lift _ _ oo oo)).sub (Bd.int (D:=D) (M:=2000000000000000000) (aM (S.take j)).a1 oo)).mono ?_;exact cd (am0 (j7 _ hD.2) _) (by decide)
theorem nG.cV(j:Nat)(hx:(bH F j).natAbs<=500000):Bd (2*D) 90000000000000000000000000000000000000000000 (J5 F S j):=(h.ale j hx).half
theorem nG.aCK(hq:Bd (2*D) B q)(hB:B<cA):sq q:=by
 have h1:=h.rY;exact hq.fits oo (pX (j7 2 h1.2) (by decide)) hB
theorem nG.str(j:Nat)(hx:(bH F j).natAbs<=500000):OC F S (aM S).a0 (Go.Proofs.YtamjbkaclhgffaaGreat.kF S) j=⟨ofRat (vC S j),ofRat (J5 F S j)⟩:=by
 have hs:=h.C3 j;have h1:=h.arm j hx;have h2:=h1.add (h.lift (aM (S.take j)).a3 (aM (S.take j)).a5 oo oo);unfold OC Fk Fj;rw [h.vv,tn,mulR (h.fits h1 (by decide)),h.pO h.kF _ _ oo oo,PE (h.fits h2 (by decide)),tn,PF (h.fits (h.ale (F:=F) j hx) (by decide)),tn];show lO.mk (ofRat (vC S j)) (gM (ofRat (J4 F S j)) (ofRat ((2:Int):Rat))).1=_
 rw [J3 (by decide) (h.aCK (h.cV j hx) (by decide))];rfl
end
def du(E B:Nat)(f:ba)(q:Rat):Prop:=f=ofRat q/\Bd E B q
structure C7 (E:Nat):Prop where
 ne:E≠0
 lt:E<cA
theorem du.mono(h:du E B f q)(hB:B<=B'):du E B' f q:=⟨h.1,h.2.mono hB⟩
theorem du.add(hE:C7 E)(h:du E B f p)(h':du E B' g q)(hB:B+B'<cA):du E (B+B') (fW f g).1 (p+q):=by
 have h1:=h.2.add h'.2;refine⟨?_,h1⟩;rw [h.1,h'.1,PE (h1.fits hE.ne hE.lt hB)]
theorem du.sub(hE:C7 E)(h:du E B f p)(h':du E B' g q)(hB:B+B'<cA):du E (B+B') (gG f g).1 (p - q):=by
 have h1:=h.2.sub h'.2;refine⟨?_,h1⟩;rw [h.1,h'.1,PF (h1.fits hE.ne hE.lt hB)]
theorem du.int(m:Int)(hm:m.natAbs<=K):du E (K*E) (cr m) (m:Rat):=⟨tn m,Bd.int m hm⟩
theorem du.PH(hE:C7 E)(h:du E B f p)(m:Int)(hm:m.natAbs<=K)(hB:B*K<cA):du E (B*K) (mulL f (cr m)).1 (p*(m:Rat)):=by
 have h1:=h.2.mul m hm;refine⟨?_,h1⟩;rw [h.1,tn,mulR (h1.fits hE.ne hE.lt hB)]
theorem Bd.aCL(h:Bd D B p)(m:Int)(hm:m.natAbs<=K):Bd (2*D) (B*K) (p*((m:Rat) / ((2:Int):Rat))):=by
 obtain⟨z,hz,hb⟩:=h;refine⟨z*m,?_,?_⟩
 . rw [nI,<- hz];push_cast;grind
 . rw [yL];exact vP hb hm
theorem du.half(hE:C7 (2*D))(m:Int)(hm:m.natAbs<=K)(hK:K*D<cA):du (2*D) (K*D) (gM (cr m) (cr 2)).1 ((m:Rat) / ((2:Int):Rat)):=by
 have h1:Bd (2*D) (K*D) ((m:Rat) / ((2:Int):Rat)):=by
  refine⟨m*(D:Int),?_,?_⟩
  . rw [nI,PV];push_cast;grind
  . rw [yL,Int.natAbs_natCast];exact pd _ hm
 refine⟨?_,h1⟩;rw [tn,tn,J3 (by decide) (h1.fits hE.ne hE.lt hK)]
theorem du.PI(hE:C7 (2*D))(h:du D B f p)(hg:g=ofRat ((m:Rat) / ((2:Int):Rat)))(hm:m.natAbs<=K)(hB:B*K<cA):du (2*D) (B*K) (mulL f g).1 (p*((m:Rat) / ((2:Int):Rat))):=by
 have h1:=h.2.aCL m hm;refine⟨?_,h1⟩;rw [h.1,hg,mulR (h1.fits hE.ne hE.lt hB)]
theorem du.eq(h:du E B f p)(e:p=q):du E B f q:=e▸h
def iB(f:au->Int)(S:List au):Int:=(S.map f).foldr (· + ·) 0
theorem yE(f:au->Int)(a:au)(S:List au):iB f (a::S)=f a+iB f S:=rfl
theorem alf{f:au->Int}(hf:Part f):∀ (S:List au) (a:au),f (S.foldl au.add a)=f a+iB f S
 | [],a=>by simp [iB]
 | b::S,a=>by
  rw [F7,alf hf S (a.add b),hf.add,yE];omega
theorem aCM{f:au->Int}(hf:Part f)(S:List au):f (aM S)=iB f S:=by
 unfold aM;rw [alf hf,hf.zero];omega
theorem alg{f:au->Int}(hf:Part f)(c:au):∀ (S:List au) (i:Nat),i<S.length->iB f (S.set i ((S.getD i au.zero).add c))=iB f S+f c
 | [],i,h=>by cases h
 | a::S,0,_=>by
  simp only [AJ,List.getD_cons_zero,yE,hf.add];omega
 | a::S,i+1,h=>by
  simp only [FX,am1,yE];rw [alg hf c S i (by simpa using h)];omega
def gT(f:au->Int)(ws:List Wt):Int:=(ws.map fun u=>f (iP u)).foldr (· + ·) 0
theorem alh{l:List aw}{n:Nat}:∀ (ws:List Wt) (S:List au),S.length=n->(∀ u∈ws,dw l u.x≠0/\dw l u.x<=n)->∃ S',o5 l n S ws=some S'/\S'.length=n/\∀ f,Part f->iB f S'=iB f S+gT f ws
 | [],S,hS,_=>⟨S,rfl,hS,fun f hf=>by simp [gT]⟩
 | u::ws,S,hS,h=>by
  have hu:=h u (by simp);obtain⟨S',h1,h2,h3⟩:=alh (l:=l) (n:=n) ws (S.set (dw l u.x - 1) ((S.getD (dw l u.x - 1) au.zero).add (iP u))) (by rw [r9]; exact hS) (fun v hv=>h v (by simp [hv]));refine⟨S',?_,h2,fun f hf => ?_⟩
  . unfold o5 Af;rw [ax oo];exact h1
  . rw [h3 f hf,alg hf _ _ _ oo];show _=_+(f (iP u)+gT f ws)
    omega
theorem X9(l:List aw):(tS l).length=l.length - 1:=by simp [tS]
theorem Ya(f:au->Int)(u:Wt):∀ ws:List Wt,gT f (ws ++ [u])=gT f ws+f (iP u)
 | []=>by simp [gT]
 | v::ws=>by
  show f (iP v)+gT f (ws ++ [u])=f (iP v)+gT f ws+_
  rw [Ya f u ws];omega
theorem ali(f:aw)(l:List aw):gR (f::l)=f.share+gR l:=rfl
theorem Yb(f:aw):∀ l:List aw,gR (l ++ [f])=gR l+f.share
 | []=>by simp [gR]
 | g::l=>by rw [qL,ali,ali,Yb f l]; omega
theorem au.add_comm(a b:au):a.add b=b.add a:=by
 unfold au.add;rw [au.mk.injEq];omega
theorem au.add_assoc(a b c:au):(a.add b).add c=a.add (b.add c):=by
 unfold au.add;rw [au.mk.injEq];simp only;omega
theorem au.add_zero(a:au):a.add au.zero=a:=by
 cases a;unfold au.add au.zero;rw [au.mk.injEq];simp only;omega
theorem au.zero_add(a:au):au.zero.add a=a:=by rw [au.add_comm,au.add_zero]
def s7(F:List aw)(i:Nat):List Wt->au
 | []=>au.zero
 | u::ws=>(if dw F u.x=i+1 then iP u else au.zero).add (s7 F i ws)
theorem Yc(F:List aw)(i:Nat):∀ a b:List Wt,s7 F i (a++b)=(s7 F i a).add (s7 F i b)
 | [],b=>by rw [tg]; exact (au.zero_add _).symm
 | u::a,b=>by
  rw [qL];show (au.add _ (s7 F i (a++b)))=_
  rw [Yc F i a b,<- au.add_assoc];rfl
theorem aCN(F:List aw)(i:Nat):∀ a:List Wt,s7 F i a.reverse=s7 F i a
 | []=>rfl
 | u::a=>by
  rw [List.reverse_cons,Yc,aCN F i a,au.add_comm];show au.add (au.add _ au.zero) _=_
  rw [au.add_zero];rfl
theorem alj{f:au->Int}(hf:Part f)(h0:∀ u,f (iP u)=0)(F:List aw)(i:Nat):∀ a:List Wt,f (s7 F i a)=0
 | []=>hf.zero
 | u::a=>by
  show f (au.add _ _)=0
  rw [hf.add,alj hf h0 F i a];split
  . rw [h0]; rfl
  . rw [hf.zero]; rfl
theorem alk{F:List aw}{n:Nat}:∀ (ws:List Wt) (S S':List au),S.length=n->o5 F n S ws=some S'->S'.length=n/\∀ i,i<n->S'.getD i au.zero=(S.getD i au.zero).add (s7 F i ws)
 | [],S,S',hS,h=>by
  injection h with h;subst h;exact⟨hS,fun i _=>(au.add_zero _).symm⟩
 | u::ws,S,S',hS,h=>by
  unfold o5 Af at h;by_cases hc:dw F u.x=0\/n<dw F u.x
  . rw [aG hc] at h;cases h
  . rw [ax hc] at h;obtain⟨h1,h2⟩:=alk ws _ S' (by rw [r9]; exact hS) h;refine⟨h1,fun i hi => ?_⟩;rw [h2 i hi];show _=(S.getD i au.zero).add (au.add _ _)
    rw [<- au.add_assoc];congr 1;by_cases he:dw F u.x=i+1
    . rw [aG he,he,pf];simp [aY,List.getElem?_set_self (show i<S.length from oo)]
    . rw [ax he,au.add_zero];simp [aY,YK (show dw F u.x - 1≠i from oo)]
def cP(F:List aw)(ws:List Wt):List au:=(List.range (F.length - 1)).map fun i=>(fV F (F.length - 1) (cN F (F.length - 1)) i).add (s7 F i ws)
theorem alm(F:List aw)(ws:List Wt):(cP F ws).length=F.length - 1:=by simp [cP]
theorem aCO{ws:List Wt}{S:List au}(h:kC F ws=some S):S=cP F ws:=by
 obtain⟨h1,h2⟩:=alk ws _ S (X9 F) h;apply P6
 . rw [h1,alm]
 . intro i hi mr;have h3:=h2 i oo;have e1:S.getD i au.zero=S[i]:=by simp [hi]
   have hb:i<(tS F).length:=by rw [X9]; omega
   have e2:(tS F).getD i au.zero=fV F (F.length - 1) (cN F (F.length - 1)) i:=by
    rw [aY,bq hb];simp [tS]
   rw [e1,e2] at h3;rw [h3];simp [cP]
def iC(f:au->Int)(F:List aw)(j:Nat):Int:=iB f ((List.range (min j (F.length - 1))).map (fV F (F.length - 1) (cN F (F.length - 1))))
def ud(f:au->Int)(F:List aw)(ws:List Wt)(j:Nat):Int:=iB f ((List.range (min j (F.length - 1))).map fun i=>s7 F i ws)
theorem Yd{f:au->Int}(hf:Part f)(g h:Nat->au):∀ is:List Nat,iB f (is.map fun i=>(g i).add (h i))=iB f (is.map g)+iB f (is.map h)
 | []=>rfl
 | i::is=>by
  simp only [jj,yE,hf.add];rw [Yd hf g h is];omega
theorem Ye{f:au->Int}(hf:Part f)(F:List aw)(ws:List Wt)(j:Nat):f (aM ((cP F ws).take j))=iC f F j+ud f F ws j:=by
 rw [aCM hf];unfold cP iC ud;rw [<- Ku,List.take_range,Yd hf]
theorem C8{f:au->Int}(hf:Part f)(F:List aw)(ws:List Wt):f (aM (cP F ws))=iC f F (F.length - 1)+ud f F ws (F.length - 1):=by
 have h:=Ye hf F ws (F.length - 1);rw [ez (by rw [alm]; exact aN _)] at h;exact h
theorem aln{f:au->Int}(hf:Part f)(F:List aw)(a b:List Wt)(j:Nat):ud f F (a++b) j=ud f F a j+ud f F b j:=by
 unfold ud;rw [<- Yd hf];congr 2;funext i;exact Yc F i a b
theorem aCP{f:au->Int}(hf:Part f)(F:List aw)(j:Nat):ud f F [] j=0:=by
 have h:=aln hf F [] [] j;rw [tg] at h;omega
theorem C9{f:au->Int}(hf:Part f)(h0:∀ u,f (iP u)=0)(F:List aw)(ws:List Wt)(j:Nat):ud f F ws j=0:=by
 unfold ud;generalize List.range (min j (F.length - 1))=is
 induction is with
 | nil=>rfl
 | cons i is ih =>
  rw [jj,yE,ih,alj hf h0];rfl
theorem sq_nonneg(x:Int):0<=x*x:=by
 rcases Int.le_total 0 x with h|h
 . exact P3 h h
 . exact Int.mul_nonneg_of_nonpos_of_nonpos h h
theorem sq_pos(h:x≠0):0<x*x:=by
 have h1:=sq_nonneg x;have h2:x*x≠0:=fun e=>by
  rcases Int.mul_eq_zero.1 e with h3|h3<;>exact h h3
 omega
def s8(l:List aw):Nat->Int
 | 0=>0
 | k+1=>s8 l k+hX l k*hX l k
def ue(l:List aw)(h:Int):Nat->Int
 | 0=>0
 | k+1=>ue l h k+(h - hX l k)*(h - hX l k)
theorem alo(l:List aw)(h:Int):∀ k:Nat,ue l h k=s8 l k - 2*h*cN l k+k*(h*h)
 | 0=>by simp [ue,s8,cN]
 | k+1=>by
  unfold ue s8 cN;rw [alo l h k];push_cast;grind
theorem alp(l:List aw)(h:Int):∀ k,0<=ue l h k
 | 0=>by simp [ue]
 | k+1=>by
  unfold ue;have:=alp l h k;have:=sq_nonneg (h - hX l k);omega
theorem alq(l:List aw)(h:Int)(h0:h≠hX l 0):∀ k,0<k->0<ue l h k
 | 1,_=>by
  unfold ue ue;have:=sq_pos (x:=h - hX l 0) oo;omega
 | k+2,_=>by
  unfold ue;have:=alq l h h0 (k+1) oo;have:=sq_nonneg (h - hX l (k+1));omega
theorem alr(l:List aw)(k:Nat):((k+1:Nat):Int)*s8 l (k+1) - cN l (k+1)*cN l (k+1)=(k*s8 l k - cN l k*cN l k)+ue l (hX l k) k:=by
 rw [alo];show ((k+1:Nat):Int)*(s8 l k+hX l k*hX l k) - (cN l k+hX l k)*(cN l k+hX l k)=_
 push_cast;grind
theorem als(l:List aw):∀ k:Nat,0<=(k:Int)*s8 l k - cN l k*cN l k
 | 0=>by simp [s8,cN]
 | k+1=>by
  rw [alr];have:=als l k;have:=alp l (hX l k) k;omega
theorem aCQ(l:List aw)(k:Nat)(hk:0<k)(h:hX l k≠hX l 0):0<((k+1:Nat):Int)*s8 l (k+1) - cN l (k+1)*cN l (k+1):=by
 rw [alr];have:=als l k;have:=alq l (hX l k) h k hk;omega
theorem alu(l:List aw)(n:Nat)(all:Int):∀ k,iB au.a5 ((List.range k).map (fV l n all))=n*s8 l k - all*cN l k
 | 0=>by simp [iB,s8,cN]
 | k+1=>by
  have e:∀ (S:List au) (a:au),iB au.a5 (S ++ [a])=iB au.a5 S+a.a5:=by
   exact Yf
  rw [AL,ot,YN,e,alu l n all k];show _+((n:Int)*hX l k - all)*hX l k=(n:Int)*(s8 l k+hX l k*hX l k) - all*(cN l k+hX l k)
  grind
theorem aCR{l:List aw}(ho:tR l)(h3:3<=l.length)(ws:List Wt):0<(aM (cP l ws)).a5:=by
 have h:=C8 tU l ws;rw [C9 tU (fun _=>rfl)] at h;unfold iC at h;rw [YU,alu] at h;obtain⟨k,hk⟩:∃ k,l.length - 1=k+1:=⟨l.length - 2,oo⟩
 rw [hk] at h;have h1:hX l k≠hX l 0:=by
  unfold hX;have e:∀ i,i<l.length->∀ (hi:i<l.length),bH l i=l[i].x:=fun i _ hi=>tT hi;rw [tT (show k<l.length from oo),tT (show k+1<l.length from oo),tT (show 0<l.length from oo),tT (show 0+1<l.length from oo)];have q1:=ho 0 1 oo oo oo;have q2:=ho 0 k oo oo oo;have q3:=ho 1 (k+1) oo oo oo;simp only [ia] at *
  omega
 have:=aCQ l k oo h1;omega
end Go.Proofs.YtamjbkaclhgffaaGreat
