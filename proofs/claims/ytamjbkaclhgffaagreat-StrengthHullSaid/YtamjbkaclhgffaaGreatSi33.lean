/-
  The kit: what is the same.
-/
import Derived.Test.YtamjbkaclhgffaaGreatSi32
import Derived.ProofKit
import Derived.SizedLaws
set_option linter.all false
set_option maxRecDepth 100000
set_option maxHeartbeats 4000000
namespace Go.Proofs.YtamjbkaclhgffaaGreat
open Go.RowKit
variable{i j:Nat}{T α:Type}{e t:TypeId}
def aiM:aN:=c6 37 u6 u6 (fun a b=>a ()=b ()/\(a ()).length<=17592186043904) (fun _ _ => .aR true)
theorem aye:aU Tryz.prog aiM:=by
 refine cD [] trivial Tryz.func37 (by kernel_rfl) fun ai res h hp => ?_;obtain⟨(a:List Int),(b:List Int),rfl,rfl⟩:=dh h;clear h;have cQ:a=b/\a.length<=17592186043904:=hp;clear hp;obtain⟨rfl,hl⟩:=cQ;refine⟨[(4,Hj 5 a fun _=>True)],?_⟩
 conv=>arg 1; cbv
 simp (maxSteps:=4000000) only [aK,bu,bn,bX];refine⟨fun h=>absurd h (by simp),fun _=>⟨⟨⟨bO _,fun _ _=>trivial⟩,rfl⟩,fun (k:Nat) hk => ?_⟩⟩;have cp:k<=a.length/\∀ j,j<k->True:=hk;have cR:=cp.1;have _:=cp.2
 conv=>arg 1; cbv
 simp (maxSteps:=4000000) only [aK,bu,bn,bX];exact⟨fun g=>⟨⟨oo,oo⟩,⟨oo,oo⟩,fun h=>absurd h (by simp),fun _=>⟨ ii,⟨⟨oo,fun _ _=>trivial⟩,oo⟩,oo⟩⟩,fun _=>trivial⟩
def Wn:List ar := [⟨0,10,2500,100,500⟩,⟨100,0,2500,9,434⟩,⟨200,20,5000,5,579⟩,⟨400,0,0,0,0⟩]
def BR:List kd := [⟨cS 0,cS 0⟩,⟨(mU (-165) 19).1,(mU (-8250) 19).1⟩,⟨(mU 110 19).1,(mU (-11000) 19).1⟩,⟨cS 0,cS 0⟩]
theorem ayf:kM Wn [⟨150,30⟩]=(BR,0):=by kernel_rfl
theorem ayg:BP Wn BR=([1,2],0):=by kernel_rfl
def aiN:aN:=LG 9 (True) (.sl true .bZ fun _=>Wn)
theorem ayh:aU Tryz.prog aiN:=by
 refine cD [] trivial Tryz.func9 (by kernel_rfl) fun ai res h hp => ?_;obtain⟨rfl,rfl⟩:=ab8 h;clear h;refine⟨[],?_⟩
 conv=>arg 1; cbv
 simp (maxSteps:=4000000) only [aK,bu,bn,bX];rfl
def aiO:aN:=c6 12 kI kI (fun a b=>bq (a ())/\bq (b ())) (fun a b => .agg (r9 fun _=>(mU (a ()) (b ())).1))
theorem ayi:aU Tryz.prog aiO:=by
 refine cD [TK] ⟨adu,trivial⟩ Tryz.func12 (by kernel_rfl) fun ai res h hp => ?_;obtain⟨(a:Int),(b:Int),rfl,rfl⟩:=dh h;clear h;refine⟨[],?_⟩
 conv=>arg 1; cbv
 simp (maxSteps:=4000000) only [aK,bu,bn,bX];exact hp
def zu:List AV := .aR false::List.replicate 16 (.lit .u32 0)
def zv:List Lk := .bool::List.replicate 16 (.int .u32)
def ayj:eH:=⟨136,.array 4 55 34 true,zu++zu++(zu++zu)++(zu++zu++(zu++zu)),zv++zv++(zv++zv)++(zv++zv++(zv++zv))⟩
def aiP:aN:=LG 7 (True) (.aR true)
theorem ayk:aU Tryz.prog aiP:=by
 refine ao9 { kp := [(0,[]),(1,[]),(2,[1,2]),(3,[]),(4,[1]),(5,[1,3]),(6,[1,3,4,5])],lt := [(6,⟨[0,1,2,3,4,5,6,7,8,9,10,11,12,13,14],[0,1,2,3,4,5,6,7,8,9,10],[11,12,13,14],[],[]⟩)] } [(99,ayj)] (by kernel_rfl) [aiN,MK,G8,aiO,aiL,aiM] ⟨ayh,Us,Mg,ayi,ayd,aye,trivial⟩ [] trivial Tryz.func7 (by kernel_rfl) fun ai res h hp => ?_;obtain⟨rfl,rfl⟩:=ab8 h;clear h;refine⟨[],?_⟩
 conv=>arg 1; cbv
 simp (maxSteps:=4000000) only [aK,bu,bn,bX];have hs:(BR.map ze).map strOf=BR:=by
  have h0:=u9 (n:=0) ⟨by decide,by decide⟩;unfold BR;simp only [gz,sS,ze,strOf,acD,h0]
 have aI:∀ x∈BR.map ze,BQ x:=fun x hx=>by
  obtain⟨y,_,rfl⟩:=gi.1 hx;exact⟨tG _,tG _⟩
 simp only [ayf,hs,ayg];refine⟨⟨by decide,by decide⟩,fun h=>by simp at h,fun _=>⟨fun h=>by simp [BR] at h,fun _=>⟨⟨by decide,by decide⟩,⟨by decide,by decide⟩,⟨⟨by decide,by decide⟩,by decide,by decide⟩,⟨⟨by decide,by decide⟩,by decide,by decide⟩,⟨⟨by decide,by decide⟩,by decide,by decide⟩,⟨⟨by decide,by decide⟩,by decide,by decide⟩,⟨by decide,by decide⟩,⟨by decide,by decide⟩,⟨by decide,by decide,aI⟩,by decide,fun _=>⟨fun _=>⟨trivial,by decide⟩,fun h=>absurd trivial h⟩,fun h=>absurd rfl h⟩⟩⟩
def ayl(S:bC)(F:List ar)(T:List dR):Lp where
 X:=Nat
 ov k := [(76,.int .i64 fun _=>(k:Int))]
 oe k := [(0,.box 32 [.sl false .au fun _=>S.aD,.sl false .eQ fun _=>S.dG,.int .i64 fun _=>cO (F.take k),.int .i64 fun _=>S.lx,.int .i64 fun _=>S.ly,.int .i64 fun _=>S.lz,.sl false .fU fun _=>S.rows,.own 1,.sl true .di fun _=>T,.int .i64 fun _=>S.m1,.int .i64 fun _=>S.m2,.int .i64 fun _=>S.m3,.int .i64 fun _=>S.m4])]
 I k:=k<=F.length
 μ k _:=F.length - k
 x0:=0
 nx:=some fun k=>k+1
theorem aym{l:List α}(v d : α)(h:i≠j):(l.set i v).getD j d=l.getD j d:=by
 rw [aX,aX,NS h]
def ayn(m:Nat):Lp where
 X:=Nat
 ov k := [(154,.int .i64 fun _=>(k:Int))]
 oe _ := []
 I k:=k<=m
 μ k _:=m - k
 x0:=0
 nx:=some fun k=>k+1
def ayo(ws:List Wt):Lp where
 X:=Nat
 ov k := [(169,.int .i64 fun _=>(k:Int)),(32,.int .i64 fun _=>(kP ws k).1),(33,.int .i64 fun _=>(kP ws k).2)]
 oe _ := []
 I k:=k<=ws.length
 μ k _:=ws.length - k
 x0:=0
 nx:=some fun k=>k+1
def ayp:aN:=Se 5 SE SG SF aiw SD axR (fun p n d t f l=>(((∀ x∈p (),mJ x)/\(p ()).length<=140737488351232)/\(0<=n ()/\n ()<=4294967295)/\(∀ x∈d (),rf x)/\(d ()).length<=140737488351232)/\(((∀ x∈t (),x.ok)/\(t ()).length<=140737488351232)/\(∀ x∈f (),0<=x/\x<=255)/\(f ()).length<=140737488351232)/\(∀ x∈l (),x.ok)/\(l ()).length<=140737488351232) (fun _ _ _ _ _ _ => .bool fun _=>true)
theorem ayq:aU Tryz.prog ayp:=by
 refine fH { kp := [(0,[0,1,2,3,4,5]),(1,[0,1,2,3,4,5]),(2,[]),(3,[0,1,2,3,4,5]),(4,[3,4,5,13,14,15]),(5,[3,4,5,13,14,15]),(6,[5,13,14,15,16]),(7,[13,14,15,16]),(8,[13,14,15,16]),(9,[13,14,15,16,74,75,76]),(10,[13,14,15,16,74,75,76]),(11,[13,14,15,16,18,74,75,76]),(12,[13,14,15,16,74,75,76]),(13,[13,14,15,16]),(14,[13,14,15,16,19,20]),(15,[13,14,15,16,19,20,21,22]),(16,[13,14,15,16,19,20,21,22,23,24]),(17,[13,14,15,16,19,20,22,24,25,26]),(18,[13,14,15,16,19,20,22,24,25,26,27,28]),(19,[13,14,15,16,19,20,22,24,25,26,27,28,29,30]),(20,[]),(21,[13,14,15,16,19,25,27,29]),(22,[13,14,15,16,19,25,27,29,153,154]),(23,[13,14,15,16,19,25,27,29,153,154]),(24,[13,14,15,16,19,25,27,29,31,153,154]),(25,[]),(26,[13,14,15,16,19,25,27,29,153,154]),(27,[13,14,15,16,19,25]),(28,[13,14,15,16,19,25,32,33]),(29,[13,14,15,16,25,32,33,167,168,169]),(30,[13,14,15,16,25,32,33,167,168,169]),(31,[13,14,15,16,25,32,33,35,167,168,169]),(32,[13,14,15,16,25,32,33,167,168,169]),(33,[13,14,15,16,25,32,33]),(34,[13,14,15,16,25,32,33]),(35,[25,32,33,37])],lt := [(7,⟨[0,2,4,1,3,5,6,7,8,9,10,11,12,13],[0,2,4],[],[⟨[0,1,2],[13,14,15,16,61,62,63,64,65,66,67,68,69,70,71,72],(0,0),[(3,1,1),(4,3,2),(5,5,3)]⟩,⟨[0,1,2,3],[13,14,15,16,62,63,64,65,66,67,68,69,70,71,72],(0,1),[(8,8,4)]⟩,⟨[0,1,2,4],[13,14,15,16,61,62,64,65,66,67,68,69,70,71,72],(0,3),[(3,1,5),(5,5,6)]⟩,⟨[0,1,2,5],[13,14,15,16,61,62,63,64,66,67,68,69,70,71,72],(0,5),[(3,1,7),(4,3,6),(6,6,8)]⟩,⟨[0,1,2,3,8],[13,14,15,16,63,64,65,66,67,68,69,70,71,72],(1,8),[(9,9,9)]⟩,⟨[0,1,2,3,4],[13,14,15,16,62,64,65,66,67,68,69,70,71,72],(2,1),[(8,8,10)]⟩,⟨[0,1,2,4,5],[13,14,15,16,61,62,64,66,67,68,69,70,71,72],(2,5),[(3,1,11),(6,6,12)]⟩,⟨[0,1,2,3,5],[13,14,15,16,62,63,64,66,67,68,69,70,71,72],(3,1),[(8,8,13)]⟩,⟨[0,1,2,5,6],[13,14,15,16,61,62,63,64,67,68,69,70,71,72],(3,6),[(7,7,14)]⟩,⟨[0,1,2,3,8,9],[13,14,15,16,63,64,65,66,67,68,70,71,72],(4,9),[(4,3,15),(5,5,16),(10,10,17)]⟩,⟨[0,1,2,3,4,8],[13,14,15,16,64,65,66,67,68,69,70,71,72],(5,8),[(9,9,15)]⟩,⟨[0,1,2,3,4,5],[13,14,15,16,62,64,66,67,68,69,70,71,72],(6,1),[(8,8,18)]⟩,⟨[0,1,2,4,5,6],[13,14,15,16,61,62,64,67,68,69,70,71,72],(6,6),[(7,7,19)]⟩,⟨[0,1,2,3,5,8],[13,14,15,16,63,64,66,67,68,69,70,71,72],(7,8),[(9,9,16)]⟩,⟨[0,1,2,5,6,7],[13,14,15,16,61,62,63,64,68,69,70,71,72],(8,7),[(3,1,20)]⟩,⟨[0,1,2,3,4,8,9],[13,14,15,16,64,65,66,67,68,70,71,72],(9,3),[(5,5,21),(10,10,22)]⟩,⟨[0,1,2,3,5,8,9],[13,14,15,16,63,64,66,67,68,70,71,72],(9,5),[(4,3,21),(6,6,23),(10,10,24)]⟩,⟨[0,1,2,3,8,9,10],[13,14,15,16,63,64,65,66,67,68,71,72],(9,10),[(5,5,24)]⟩,⟨[0,1,2,3,4,5,8],[13,14,15,16,64,66,67,68,69,70,71,72],(11,8),[(9,9,21)]⟩,⟨[0,1,2,4,5,6,7],[13,14,15,16,61,62,64,68,69,70,71,72],(12,7),[(3,1,25)]⟩,⟨[0,1,2,3,5,6,7],[13,14,15,16,62,63,64,68,69,70,71,72],(14,1),[(8,8,26)]⟩,⟨[0,1,2,3,4,5,8,9],[13,14,15,16,64,66,67,68,70,71,72],(15,5),[(6,6,27),(10,10,28)]⟩,⟨[0,1,2,3,4,8,9,10],[13,14,15,16,64,65,66,67,68,71,72],(15,10),[(5,5,28)]⟩,⟨[0,1,2,3,5,6,8,9],[13,14,15,16,63,64,67,68,70,71,72],(16,6),[(7,7,29)]⟩,⟨[0,1,2,3,5,8,9,10],[13,14,15,16,63,64,66,67,68,71,72],(16,10),[(4,3,28),(6,6,30)]⟩,⟨[0,1,2,3,4,5,6,7],[13,14,15,16,62,64,68,69,70,71,72],(19,1),[(8,8,31)]⟩,⟨[0,1,2,3,5,6,7,8],[13,14,15,16,63,64,68,69,70,71,72],(20,8),[(9,9,29)]⟩,⟨[0,1,2,3,4,5,6,8,9],[13,14,15,16,64,67,68,70,71,72],(21,6),[(7,7,32)]⟩,⟨[0,1,2,3,4,5,8,9,10],[13,14,15,16,64,66,67,68,71,72],(21,10),[(6,6,33)]⟩,⟨[0,1,2,3,5,6,7,8,9],[13,14,15,16,63,64,68,70,71,72],(23,7),[(4,3,32),(10,10,34)]⟩,⟨[0,1,2,3,5,6,8,9,10],[13,14,15,16,63,64,67,68,71,72],(24,6),[(7,7,34)]⟩,⟨[0,1,2,3,4,5,6,7,8],[13,14,15,16,64,68,69,70,71,72],(25,8),[(9,9,32)]⟩,⟨[0,1,2,3,4,5,6,7,8,9],[13,14,15,16,64,68,70,71,72],(27,7),[(10,10,35)]⟩,⟨[0,1,2,3,4,5,6,8,9,10],[13,14,15,16,64,67,68,71,72],(28,6),[(7,7,35)]⟩,⟨[0,1,2,3,5,6,7,8,9,10],[13,14,15,16,63,64,68,71,72],(29,10),[(4,3,35)]⟩,⟨[0,1,2,3,4,5,6,7,8,9,10],[13,14,15,16,64,68,71,72],(32,10),[]⟩],[11,12,13]⟩),(24,⟨[0,1,2,3,4,5,6,7,8],[0,1,2,3,4,5,6,7,8],[],[],[]⟩),(31,⟨[0,1,2,3,4,5,6,7,8,9,10,11,12],[0,1,2,3,4,5,6,7,8,9,10,11,12],[],[],[]⟩)] } [aiP,ag4,aix,Wk,VF,ain,Mu,aiF,MK] ⟨ayk,awt,axU,aiD,ag6,axB,T9,ax3,Us,trivial⟩ [We] ⟨axO,trivial⟩ Tryz.func5 (by kernel_rfl) fun ai res h hp => ?_;obtain⟨(p:List iV),(n:Int),(d:List iW),(t:List j4),(f:List Int),(l:List iX),rfl,rfl⟩:=aph h;clear h;have eM:(((∀ x∈p,mJ x)/\p.length<=140737488351232)/\(0<=n/\n<=4294967295)/\(∀ x∈d,rf x)/\d.length<=140737488351232)/\(((∀ x∈t,x.ok)/\t.length<=140737488351232)/\(∀ x∈f,0<=x/\x<=255)/\f.length<=140737488351232)/\(∀ x∈l,x.ok)/\l.length<=140737488351232:=hp;have h1:=eM.1;have h2:=eM.2.1;have h3:=eM.2.2;refine⟨[],?_⟩;refine fm ?_;obtain⟨tt,r,hF,-,M,htl⟩:=aif h3.1;have hFl:(fD l).length=tt.length+3:=by rw [hF]; simp
 have h7:=M.len;simp only [nH];have iI:bq (((fD l).length:Int) - 1):=ii
 refine⟨h1,h2,h3,oo,oo,oo,iI,oo,iI,oo,iI,oo,iI,⟨iI,True.intro⟩,⟨iI,True.intro⟩,oo,?_⟩;have e0:∀ v,((fD l).set (Int.toNat 0) v).getD ((fD l).length - 1) Tc.bZ.aa=(fD l).getD ((fD l).length - 1) Tc.bZ.aa:=fun v=>aym v _ (by show 0≠_; omega);simp only [e0];have hG:((fD l).set (Int.toNat 0) ⟨-90000,((fD l).getD (Int.toNat 0) Tc.bZ.aa).ch,((fD l).getD (Int.toNat 0) Tc.bZ.aa).share,((fD l).getD (Int.toNat 0) Tc.bZ.aa).cM,((fD l).getD (Int.toNat 0) Tc.bZ.aa).cy⟩).set ((fD l).length - 1) ⟨90000,((fD l).getD ((fD l).length - 1) Tc.bZ.aa).ch,((fD l).getD ((fD l).length - 1) Tc.bZ.aa).share,((fD l).getD ((fD l).length - 1) Tc.bZ.aa).cM,((fD l).getD ((fD l).length - 1) Tc.bZ.aa).cy⟩=D5 (fD l):=rfl;rw [hG];have Wo:(fD l).length=(D5 (fD l)).length:=by unfold D5; rw [nH,nH]
 rw [Wo];rw [Wo] at hFl iI;have zo:=awy (n:=n) h1.1.1 h1.2.2.1;have l9:(BE p n).lk=0:=rfl;have hmw:=axz h2.1.1 h2.2.1 (min t.length 8) oo oo;have ka:=zt t (min t.length 8);have qU:=Iq t f (min t.length 8);have hbp:=aws d;have sf:∀ j,j<(pj t (min t.length 8)).length->((pj t (min t.length 8)).getD j Tc.di.aa).aq<=256000 /\ -32768<=((pj t (min t.length 8)).getD j Tc.di.aa).x/\((pj t (min t.length 8)).getD j Tc.di.aa).x<=32767:=fun j hj=>by
  rw [ka] at hj;have h:=h2.1.1 _ (gw Tc.iF.aa (show j<t.length from oo));rw [NG t _ hj];exact⟨by show 1000*(1+_)<=_; have:=h.1; omega,h.2.2.1⟩
 have ayu:od (BE p n):=agY h1.1.1;generalize D5 (fD l)=F at *
 clear e0 hG Wo hF;generalize BE p n=S at *
 generalize uc d=bs at *
 generalize BF p n d=st at *
 have hm8:min t.length 8<=8:=oo
 generalize pj t (min t.length 8)=T at *
 generalize ug t f (min t.length 8)=W at *
 refine⟨ayl S F T,?_⟩;refine fm ?_;refine⟨⟨bO _,rfl,l9⟩,fun (k:Nat) hk => ?_⟩;have cR:k<=F.length:=hk;clear hk;refine fm ?_;refine⟨fun g => ?_,fun g => ?_⟩
 . have gD:k<F.length:=oo
   have ji:=at9 gD;have TR:=Wb M k;have aAQ:=Wb M (k+1);exact⟨⟨oo,oo⟩,by rw [<- ji]; simp only [bq]; omega,ii,oo,oo,ji.symm⟩
 have hkF:k=F.length:=oo
 subst hkF;have eS:(⟨S.aD,S.dG,cO F,S.lx,S.ly,S.lz,S.rows,F,T,S.m1,S.m2,S.m3,S.m4⟩:bC)=kQ S F T (cO F):=rfl;have eLd:∀ A:Ld,(⟨A.aq,A.x,A.y,A.z⟩:Ld)=A:=fun _=>rfl;obtain⟨g1,g2,g3,g4,g5,g6,g7,g8,g9⟩:=axE (S:=kQ S F T (cO F)) (W:=W) (axD zo F T _) M hmw (by show T.length<=8; omega) sf rfl;have D9:(kP (jV (kQ S F T (cO F)) bs st W) (jV (kQ S F T (cO F)) bs st W).length).1=((ow (kQ S F T (cO F)) bs st).add (mN T W)).aq:=g6;have Ir:(kP (jV (kQ S F T (cO F)) bs st W) (jV (kQ S F T (cO F)) bs st W).length).2=((ow (kQ S F T (cO F)) bs st).add (mN T W)).x:=g7;clear g6 g7;have MT:BM T W=(mN T W,0):=g4;have o9:(kM F (jV (kQ S F T (cO F)) bs st W)).2=0:=g2;have DR:o7 [ow (kQ S F T (cO F)) bs st,mN T W]=((ow (kQ S F T (cO F)) bs st).add (mN T W),0):=g5;have hh:zq (kQ S F T (cO F)) bs st W=kM F (jV (kQ S F T (cO F)) bs st W):=by
  unfold zq;rw [g1,aC rfl,aib];rfl
 have jr:od (kQ S F T (cO F)):=ayu;have hst:=zo.sH;simp only [uk,eS,g1,g3,MT,eLd,DR,hh,o9];clear g1 g2 g3 g4 MT g5 DR hh;have cz:=axG F (jV (kQ S F T (cO F)) bs st W);generalize (ow (kQ S F T (cO F)) bs st).add (mN T W)=AB at *
 have ah:([ow (kQ S F T (cO F)) bs st,mN T W]).length<=1000000:=by simp only [cB,ej]; omega
 generalize jV (kQ S F T (cO F)) bs st W=ws at *
 have pP:((kM F ws).1.map ze).length<=F.length:=by rw [fk]; exact cz
 generalize (kM F ws).1.map ze=C at *
 have oV:(od (kQ S F T (cO F))/\vA bs/\st.length<=40):=⟨jr,hbp,oo⟩
 have fX:T.length<=1000000000000/\F.length<=1000000000000/\W.length<=1000000000000:=oo
 refine⟨⟨oV,fX⟩,oV,⟨fX.1,fX.2.2⟩,ah,⟨oV,fX⟩,⟨fX.2.1,oo⟩,ii,ii,ii,ii,ii,fun c=>by simp at c,fun _=>⟨fun c=>by simp at c,fun _ => ?_⟩⟩;refine bW C.length fun m hm => ?_;refine⟨ayn m,?_⟩;refine fm ?_;refine⟨⟨bO _,rfl⟩,fun (i:Nat) hi => ?_⟩;have zN:i<=m:=hi;clear hi;refine fm ?_;refine⟨fun g=>⟨oo,oo,fun c=>by simp at c,fun _=>⟨ii,oo,oo⟩⟩,fun g => ?_⟩;refine⟨ayo ws,?_⟩;refine fm ?_;refine⟨⟨bO _,rfl,rfl,rfl⟩,fun (j:Nat) hj => ?_⟩;have rL:j<=ws.length:=hj;clear hj;have TR:=Wc g9 j rL;refine fm ?_;have aAR:=g8;refine⟨fun g0 => ?_,fun g0 => ?_⟩
 . have c8:=Wc g9 (j+1) oo;have e1:(kP ws j).1+(ws.getD j Tc.wx.aa).aq=(kP ws (j+1)).1:=rfl;have e2:(kP ws j).2+(ws.getD j Tc.wx.aa).aq*(ws.getD j Tc.wx.aa).x=(kP ws (j+1)).2:=rfl;rw [e1,e2];exact⟨⟨oo,oo⟩,ii,ii,ii,ii,oo,oo,rfl,rfl⟩
 . have hjw:j=ws.length:=oo
   rw [hjw];have pS:=Wb M F.length;rw [uk] at pS;exact⟨ii,⟨oV,fX⟩,fun _=>⟨fun _=>axH (S:=kQ S F T (cO F+1)) fun h=>(by have h:cO F=cO F+1:=h; omega),fun c=>absurd Ir c⟩,fun c=>absurd D9 c⟩
open Go.ChangeShapes Go.Deep Go.WideShapes
theorem aiQ{T:Type}{p:Nat->T->Prop}:∀ (n:Nat),(∀ i,i<n->∃ x,p i x)->∃ l:List T,l.length=n/\∀ i (h:i<l.length),p i l[i]
 | 0,_=>⟨[],rfl,by simp⟩
 | n+1,h=>by
  obtain⟨l,hl,hp⟩:=aiQ n (fun i hi=>h i oo);obtain⟨x,hx⟩:=h n oo;refine⟨l ++ [x],by simp [hl],fun i hi => ?_⟩;by_cases e:i<l.length
  . rw [List.getElem_append_left e];exact hp i e
  . have e2:i=n:=by simp at hi; omega
    subst e2;rw [List.getElem_append_right oo];simpa using hx
theorem aiR{H:Type}{enc:TypeId×Value->H}{P:Program}(hl:laidOutB P=true){W W':World}(hb:Below W.heap.size W W'):∀ {ts:List TypeId} {vs:List Value} {ds:List (DataW H)} {ps:List MemPlace},(ts.all fun t=>P.readableRec t&&decide (t<P.types.size))=true ->
 DataW.TrodAll enc P W 0 (fun _=>true) true ts vs ds ps->(∀ x∈ps,x.block<W.heap.size)->DataW.TrodAll enc P W' 0 (fun b=>decide (b<W.heap.size)) true ts vs ds ps
 | [],vs,ds,ps,_,h,_=>by
  obtain⟨rfl,rfl,rfl⟩:=trodAll_nil h;exact trodAll_mk0
 | t::ts,vs,ds,ps,ht,h,ah=>by
  obtain⟨v,vs',d,ds',p,q,rfl,rfl,rfl,hd,hr⟩:=trodAll_cons h;simp only [IQ,ax,aL] at ht;exact⟨p,q,Below.trod hl ht.1.1 ht.1.2 hd hb (fun x hx=>ah x (ajd _ hx)),aiR hl hb (by simpa using ht.2) hr (fun x hx=>ah x (List.mem_append_right _ hx)),rfl⟩
theorem Tryz.own:ownKnob Tryz.prog.godebug=none:=by kernel_rfl
theorem Tryz.laidOut:laidOutB Tryz.prog=true:=by kernel_rfl
section
variable{H:Type}{enc:TypeId×Value->H}{P:Program}{w:World}{base:Nat}{held:Bool}
def Fits(P:Program)(t:TypeId)(d:DataW H):Prop:=∀ k∈d.weights P t,k<=140737488351232
theorem aiS{t:TypeId}:∀ {ds:List (DataW H)} {d:DataW H},d∈ds->∀ k∈d.weights P t,k∈DataW.weightsAll P t ds
 | [],_,h,_,_=>by cases h
 | d0::ds,d,h,k,hk=>by
  unfold DataW.weightsAll;rw [iU];rcases fM.1 h with h|h
  . subst h; exact .inl hk
  . exact .inr (aiS h k hk)
theorem Fits.elem{Is sp:List (DataW H)}{d:DataW H}(ht:P.underlying t=some (.slice e))(h:Fits P t (.slice Is sp))(hd:d∈Is):Fits P e d:=fun k hk=>h k (by
 simp only [DataW.weights,ht,fM,iU];exact .inr (.inl (aiS hd k hk)))
theorem Fits.size{Is sp:List (DataW H)}(ht:P.underlying t=some (.slice e))(h:Fits P t (.slice Is sp)):(Is.length+sp.length)*P.bytesOf e<=140737488351232:=h _ (by
 simp only [DataW.weights,ht,fM];exact .inl trivial)
theorem Fits.field{fs:Array Field}{parts:List (DataW H)}{f:Field}{d:DataW H}(ht:P.underlying t=some (.struct fs))(h:Fits P t (.agg parts))(hj:fs[j]? = some f)(hd:parts[j]? = some d):Fits P f.type d:=fun k hk=>h k (by
 simp only [DataW.weights,ht];exact DataW.weights_mem_each (j:=j) (t:=f.type) (by simp [hj]) hd k hk)
theorem Iu{ts:List TypeId}{ds:List (DataW H)}(h:(DataW.weightsEach P ts ds).all (· <= reachBytes)=true){d:DataW H}(ht:ts[j]? = some t)(hd:ds[j]? = some d):Fits P t d:=fun k hk=>by
 have:=dL.1 h _ (DataW.weights_mem_each ht hd k hk);exact rv this
theorem ayy{cells:T->List Value}{wf:T->Prop}{t e size bytes fuel:Nat}{v:Value}{x:DataW H×List MemPlace}(ht:P.underlying t=some (.slice e))(hC:P.cellsOf e=size)(h0:0<size)(hB:P.bytesOf e=bytes)(gT:∀ n cs (y:DataW H×List MemPlace),DataW.trod enc P w base (fun _=>true) held n e cs=some y->Fits P e y.1->∃ b:T,cs=cells b/\wf b)(h:DataW.trod enc P w base (fun _=>true) held fuel t [v]=some x)(hf:Fits P t x.1) :
 ∃ (A:Option Addr) (l:List T) (c:Nat),v = .slice A l.length c/\Rd w w.heap.size size A (l.map cells)/\(∀ b∈l,wf b)/\l.length*bytes<=140737488351232/\l.length<=c:=by
 rcases open_slice ht h with ⟨aF,hx⟩|⟨a,len,cap,m,n,D,Pl,aF,hb,hl,hm,Hs,hx,hi⟩
 . injection aF with hv _;subst hv;exact⟨none,[],0,rfl,Rd.nil _ _ _ _,by simp,by simp,by simp⟩
 . injection aF with hv _;subst hv;subst hx;simp only [eO] at Hs;subst Hs;have aO:=Fits.size ht hf;rw [hB] at aO;simp only [fk,IK] at aO;have key:∀ i,i<len->∃ b:T,wf b/\(cells b).length=size/\∀ j u,(cells b)[j]? = some u->w.cell? ((a.add (i*size)).add j)=some u:=fun i ah=>by
    obtain⟨cs,hc,Vc⟩:=hi i oo;obtain⟨b,rfl,hw⟩:=gT n cs (D i,Pl i) Vc (Fits.elem ht hf (List.mem_map_of_mem (gA.2 ah)));obtain⟨_,cz,NI⟩:=World.cells?_some hc;rw [hC] at cz NI hc;refine⟨b,hw,cz,fun j u hu => ?_⟩;rw [NI j (by rw [<- cz]; exact (cF.1 hu).1)];exact hu
   obtain⟨l,m6,hp⟩:=aiQ len key;subst m6;refine⟨some a,l,m,rfl,fun k cs hk => ?_,fun b aW => ?_,dQ (oy bytes oo) aO,oo⟩
   . rw [ga] at hk;obtain⟨b,tg,rfl⟩:=kS.1 hk;have gD:k<l.length:=(cF.1 tg).1;obtain⟨_,cz,hc⟩:=hp k gD;have hbe:l[k]=b:=by rw [bc gD] at tg; injection tg
     rw [hbe] at cz hc;have hu0:(cells b)[0]? = some ((cells b)[0]'oo):=bc oo;have pH:=hc 0 _ hu0;have ah:=block_lt_of_cell pH;obtain⟨_,aAU,hcz⟩:=hp 0 oo;have xK:=World.cell?_spot (hcz 0 _ (bc oo));obtain⟨ab,ao,asp⟩:=a;have has:asp=none:=by simpa [Addr.add] using xK
     subst has;refine⟨ab,ao,rfl,by simpa [sW] using ah,cz,fun j u hu => ?_⟩;have:=hc j u hu;rwa [sW,sW] at this
   . obtain⟨k,hk,rfl⟩:=Eh.1 aW;exact (hp k hk).1
end
end Go.Proofs.YtamjbkaclhgffaaGreat
