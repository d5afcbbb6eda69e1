/-
  The kit: what is kept.
-/
import Derived.Test.YtamjbkaclhgffaaGreatSh35
import Derived.ProofKit
import Derived.SizedLaws
set_option linter.all false
set_option maxRecDepth 100000
set_option maxHeartbeats 4000000
namespace Go.Proofs.YtamjbkaclhgffaaGreat
open Go.RowKit
variable{fs:Array Field}{ah:List AV}{bs:List aL}{j n:Nat}{T α β:Type}{e t:TypeId}{s:bB}
def J8:aC:=bE 35 atw gi (fun o l=>o ()=(l ()++marks xd,(l ()).length)/\(l ()).length<=17592186043904) (fun _ _ => .aV true)
theorem PN:aE Tryz.prog J8:=by
 refine bZ { kp := [(0,[0,1]),(1,[0,1]),(2,[]),(3,[0,1]),(4,[1,5]),(5,[1,5,6]),(6,[1,5,6]),(7,[1,5,6]),(8,[]),(9,[])] } [xc] ⟨yq,trivial⟩ [] trivial Tryz.func35 (by kernel_rfl) fun ah res h hp => ?_;obtain⟨(o:List Int×Nat),(l:List Int),rfl,rfl⟩:=bG h;clear h;have bC:o=(l++marks xd,l.length)/\l.length<=17592186043904:=hp;clear hp;obtain⟨rfl,hl⟩:=bC;refine bk (marks xd) fun M hM => ?_;refine bk (l++M) fun L hL => ?_;refine bk (l.length+12) fun n hn => ?_;rw [hM,hL];have lf:M.length=12:=by rw [<- hM,oa]
 have Db:L.length=n:=by rw [<- hL,c9,lf]; omega
 refine⟨[(5,ua 6 n fun _=>True)],?_⟩
 conv=>arg 1; cbv
 simp (maxSteps:=4000000) only [ay,aJ,aH,aO];refine⟨fun h=>absurd h (by simp),fun _=>⟨ii,⟨oo,oo⟩,⟨⟨bw _,fun _ _=>trivial⟩,rfl⟩,fun (k:Nat) hk => ?_⟩⟩;have bM:k<=n:=hk.1
 conv=>arg 1; cbv
 simp (maxSteps:=4000000) only [ay,aJ,aH,aO];have hA:k<l.length->L.getD k Tc.int.aa=(l.getD k Tc.int.aa):=fun h=>by rw [<- hL,Ai oo]
 have hB:l.length<=k->k<n->L.getD k Tc.int.aa=xd (1000003*(1+7)+((k:Int) - (l.length:Int))):=fun h1 h2=>by
  exact J9
 exact Ka
def al2:aC:=bE 85 atx NF (fun o l=>o ()=(l ()++marks yr,(l ()).length)/\(l ()).length<=1000000) (fun _ _ => .aV true)
theorem aDb:aE Tryz.prog al2:=by
 refine bZ { kp := [(0,[0,1]),(1,[0,1]),(2,[]),(3,[0,1]),(4,[1,5]),(5,[1,5,6]),(6,[1,5,6]),(7,[1,5,6]),(8,[]),(9,[])] } [Wo] ⟨ahW,trivial⟩ [] trivial Tryz.func85 (by kernel_rfl) fun ah res h hp => ?_;obtain⟨(o:List m7×Nat),(l:List m7),rfl,rfl⟩:=bG h;clear h;have bC:o=(l++marks yr,l.length)/\l.length<=1000000:=hp;clear hp;obtain⟨rfl,hl⟩:=bC;refine bk (marks yr) fun M hM => ?_;refine bk (l++M) fun L hL => ?_;refine bk (l.length+12) fun n hn => ?_;rw [hM,hL];have lf:M.length=12:=by rw [<- hM,oa]
 have Db:L.length=n:=by rw [<- hL,c9,lf]; omega
 refine⟨[(5,ua 6 n fun _=>True)],?_⟩
 conv=>arg 1; cbv
 simp (maxSteps:=4000000) only [ay,aJ,aH,aO];refine⟨fun h=>absurd h (by simp),fun _=>⟨ii,⟨oo,oo⟩,⟨⟨bw _,fun _ _=>trivial⟩,rfl⟩,fun (k:Nat) hk => ?_⟩⟩;have bM:k<=n:=hk.1
 conv=>arg 1; cbv
 simp (maxSteps:=4000000) only [ay,aJ,aH,aO];have hA:k<l.length->L.getD k Tc.dO.aa=(l.getD k Tc.dO.aa):=fun h=>by rw [<- hL,Ai oo]
 have hB:l.length<=k->k<n->L.getD k Tc.dO.aa=yr (1000003*(1+7)+((k:Int) - (l.length:Int))):=fun h1 h2=>by
  exact J9
 exact Ka
def al3:aC:=bE 43 aty qv (fun o l=>o ()=(l ()++marks yu,(l ()).length)/\(l ()).length<=1000000) (fun _ _ => .aV true)
theorem aDc:aE Tryz.prog al3:=by
 refine bZ { kp := [(0,[0,1]),(1,[0,1]),(2,[]),(3,[0,1]),(4,[1,5]),(5,[1,5,6]),(6,[1,5,6]),(7,[1,5,6]),(8,[]),(9,[])] } [Wp] ⟨ahX,trivial⟩ [] trivial Tryz.func43 (by kernel_rfl) fun ah res h hp => ?_;obtain⟨(o:List aw×Nat),(l:List aw),rfl,rfl⟩:=bG h;clear h;have bC:o=(l++marks yu,l.length)/\l.length<=1000000:=hp;clear hp;obtain⟨rfl,hl⟩:=bC;refine bk (marks yu) fun M hM => ?_;refine bk (l++M) fun L hL => ?_;refine bk (l.length+12) fun n hn => ?_;rw [hM,hL];have lf:M.length=12:=by rw [<- hM,oa]
 have Db:L.length=n:=by rw [<- hL,c9,lf]; omega
 refine⟨[(5,ua 6 n fun _=>True)],?_⟩
 conv=>arg 1; cbv
 simp (maxSteps:=4000000) only [ay,aJ,aH,aO];refine⟨fun h=>absurd h (by simp),fun _=>⟨ii,⟨oo,oo⟩,⟨⟨bw _,fun _ _=>trivial⟩,rfl⟩,fun (k:Nat) hk => ?_⟩⟩;have bM:k<=n:=hk.1
 conv=>arg 1; cbv
 simp (maxSteps:=4000000) only [ay,aJ,aH,aO];have hA:k<l.length->L.getD k Tc.cu.aa=(l.getD k Tc.cu.aa):=fun h=>by rw [<- hL,Ai oo]
 have hB:l.length<=k->k<n->L.getD k Tc.cu.aa=yu (1000003*(1+7)+((k:Int) - (l.length:Int))):=fun h1 h2=>by
  exact J9
 exact Ka
def al4:aC:=bE 33 atA jc (fun o l=>o ()=(l ()++marks Ak,(l ()).length)/\(l ()).length<=1000000) (fun _ _ => .aV true)
theorem aDd:aE Tryz.prog al4:=by
 refine bZ { kp := [(0,[0,1]),(1,[0,1]),(2,[]),(3,[0,1]),(4,[1,5]),(5,[1,5,6]),(6,[1,5,6]),(7,[1,5,6]),(8,[]),(9,[])] } [Wq] ⟨ahY,trivial⟩ [] trivial Tryz.func33 (by kernel_rfl) fun ah res h hp => ?_;obtain⟨(o:List aL×Nat),(l:List aL),rfl,rfl⟩:=bG h;clear h;have bC:o=(l++marks Ak,l.length)/\l.length<=1000000:=hp;clear hp;obtain⟨rfl,hl⟩:=bC;refine bk (marks Ak) fun M hM => ?_;refine bk (l++M) fun L hL => ?_;refine bk (l.length+12) fun n hn => ?_;rw [hM,hL];have lf:M.length=12:=by rw [<- hM,oa]
 have Db:L.length=n:=by rw [<- hL,c9,lf]; omega
 refine⟨[(5,ua 6 n fun _=>True)],?_⟩
 conv=>arg 1; cbv
 simp (maxSteps:=4000000) only [ay,aJ,aH,aO];refine⟨fun h=>absurd h (by simp),fun _=>⟨ii,⟨oo,oo⟩,⟨⟨bw _,fun _ _=>trivial⟩,rfl⟩,fun (k:Nat) hk => ?_⟩⟩;have bM:k<=n:=hk.1
 conv=>arg 1; cbv
 simp (maxSteps:=4000000) only [ay,aJ,aH,aO];have hA:k<l.length->L.getD k Tc.box.aa=(l.getD k Tc.box.aa):=fun h=>by rw [<- hL,Ai oo]
 have hB:l.length<=k->k<n->L.getD k Tc.box.aa=Ak (1000003*(1+7)+((k:Int) - (l.length:Int))):=fun h1 h2=>by
  exact J9
 exact Ka
def al5:aC:=bE 34 atC lL (fun o l=>o ()=(l ()++marks Al,(l ()).length)/\(l ()).length<=1000000) (fun _ _ => .aV true)
theorem aDe:aE Tryz.prog al5:=by
 refine bZ { kp := [(0,[0,1]),(1,[0,1]),(2,[]),(3,[0,1]),(4,[1,5]),(5,[1,5,6]),(6,[1,5,6]),(7,[1,5,6]),(8,[]),(9,[])] } [Wr] ⟨ahZ,trivial⟩ [] trivial Tryz.func34 (by kernel_rfl) fun ah res h hp => ?_;obtain⟨(o:List aA×Nat),(l:List aA),rfl,rfl⟩:=bG h;clear h;have bC:o=(l++marks Al,l.length)/\l.length<=1000000:=hp;clear hp;obtain⟨rfl,hl⟩:=bC;refine bk (marks Al) fun M hM => ?_;refine bk (l++M) fun L hL => ?_;refine bk (l.length+12) fun n hn => ?_;rw [hM,hL];have lf:M.length=12:=by rw [<- hM,oa]
 have Db:L.length=n:=by rw [<- hL,c9,lf]; omega
 refine⟨[(5,ua 6 n fun _=>True)],?_⟩
 conv=>arg 1; cbv
 simp (maxSteps:=4000000) only [ay,aJ,aH,aO];refine⟨fun h=>absurd h (by simp),fun _=>⟨ii,⟨oo,oo⟩,⟨⟨bw _,fun _ _=>trivial⟩,rfl⟩,fun (k:Nat) hk => ?_⟩⟩;have bM:k<=n:=hk.1
 conv=>arg 1; cbv
 simp (maxSteps:=4000000) only [ay,aJ,aH,aO];have hA:k<l.length->L.getD k Tc.ai.aa=(l.getD k Tc.ai.aa):=fun h=>by rw [<- hL,Ai oo]
 have hB:l.length<=k->k<n->L.getD k Tc.ai.aa=Al (1000003*(1+7)+((k:Int) - (l.length:Int))):=fun h1 h2=>by
  exact J9
 exact Ka
def al6:aC:=bE 145 atP Ck (fun x y=>x ()=pP (y ())/\(y ()).cf.length<=17592186043904) (fun _ _ => .aV true)
theorem aDf:aE Tryz.prog al6:=by
 refine bD [OG,J8] ⟨WA,PN,trivial⟩ Tryz.func145 (by kernel_rfl) fun ah res h hp => ?_;obtain⟨(x:su),(y:dM),rfl,rfl⟩:=bG h;clear h;have bC:x=pP y/\y.cf.length<=17592186043904:=hp;clear hp;obtain⟨rfl,hl⟩:=bC;refine⟨[],?_⟩
 conv=>arg 1; cbv
 simp (maxSteps:=4000000) only [ay,aJ,aH,aO];have ht:(pP y).cf.take (pP y).KP=y.cf:=vQ;rw [ht];exact⟨⟨rfl,hl⟩,rfl,hl⟩
def al7:aC:=bE 83 atD NB (fun o l=>o ()=((l ()).map pP++marks Am,(l ()).length)/\(l ()).length<=1000000/\∀ c∈l (),c.cf.length<=17592186043904) (fun _ _ => .aV true)
theorem aDg:aE Tryz.prog al7:=by
 refine bZ { kp := [(0,[0,1]),(1,[0,1]),(2,[]),(3,[0,1]),(4,[1,5]),(5,[1,5,6]),(6,[1,5,6]),(7,[1,5,6]),(8,[]),(9,[])] } [Ws,al6,OG] ⟨ah0,aDf,WA,trivial⟩ [] trivial Tryz.func83 (by kernel_rfl) fun ah res h hp => ?_;obtain⟨(o:List su×Nat),(l:List dM),rfl,rfl⟩:=bG h;clear h;have bC:o=(l.map pP++marks Am,l.length)/\l.length<=1000000/\∀ c∈l,c.cf.length<=17592186043904:=hp;clear hp;obtain⟨rfl,hl,hf⟩:=bC;refine bk (marks Am) fun M hM => ?_;refine bk (l.map pP++M) fun L hL => ?_;refine bk (l.length+12) fun n hn => ?_;rw [hM,hL];have lf:M.length=12:=by rw [<- hM,oa]
 have Db:L.length=n:=by rw [<- hL,c9,lf]; simp only [di]; omega
 refine⟨[(5,ua 6 n fun _=>True)],?_⟩
 conv=>arg 1; cbv
 simp (maxSteps:=4000000) only [ay,aJ,aH,aO];refine⟨fun h=>absurd h (by simp),fun _=>⟨ii,⟨oo,oo⟩,⟨⟨bw _,fun _ _=>trivial⟩,rfl⟩,fun (k:Nat) hk => ?_⟩⟩;have bM:k<=n:=hk.1
 conv=>arg 1; cbv
 simp (maxSteps:=4000000) only [ay,aJ,aH,aO];have hA:k<l.length->L.getD k Tc.kK.aa=pP (l.getD k Tc.ar.aa):=fun h=>by rw [<- hL,Ai Yn]; exact Fo _ _ _ h
 have hB:l.length<=k->k<n->L.getD k Tc.kK.aa=Am (1000003*(1+7)+((k:Int) - (l.length:Int))):=fun h1 h2=>by
  exact Yo
 have hN:k<n->aP ((k:Int)+1)/\((k+1<=n/\∀ j,j<k+1->True)/\n - (k+1)<n - k)/\(k:Int)+1=((k+1:Nat):Int):=fun h=>⟨ii,⟨⟨oo,fun _ _=>trivial⟩,oo⟩,oo⟩
 refine⟨fun g=>⟨fun g1 => ?_,fun g1 => ?_⟩,fun g=>trivial⟩
 . have e:=hA oo;exact⟨⟨oo,oo⟩,⟨oo,oo⟩,⟨e,hf _ (eJ Tc.ar.aa (show k<l.length from oo))⟩,fun g2=>oo,fun _=>hN oo⟩
 . have e:=hB oo oo;exact Yp
def al8:aC:=bE 147 atT NN (fun x y=>x ()=pQ (y ())/\(y ()).rows.length<=17592186043904) (fun _ _ => .aV true)
theorem aDh:aE Tryz.prog al8:=by
 refine bD [OH,J8] ⟨WC,PN,trivial⟩ Tryz.func147 (by kernel_rfl) fun ah res h hp => ?_;obtain⟨(x:sv),(y:gN),rfl,rfl⟩:=bG h;clear h;have bC:x=pQ y/\y.rows.length<=17592186043904:=hp;clear hp;obtain⟨rfl,hl⟩:=bC;refine⟨[],?_⟩
 conv=>arg 1; cbv
 simp (maxSteps:=4000000) only [ay,aJ,aH,aO];have ht:(pQ y).rows.take (pQ y).A7=y.rows:=vQ;rw [ht];exact⟨⟨rfl,hl⟩,rfl,hl⟩
def al9:aC:=bE 84 atE NC (fun o l=>o ()=((l ()).map pQ++marks An,(l ()).length)/\(l ()).length<=1000000/\∀ c∈l (),c.rows.length<=17592186043904) (fun _ _ => .aV true)
theorem aDi:aE Tryz.prog al9:=by
 refine bZ { kp := [(0,[0,1]),(1,[0,1]),(2,[]),(3,[0,1]),(4,[1,5]),(5,[1,5,6]),(6,[1,5,6]),(7,[1,5,6]),(8,[]),(9,[])] } [Wu,al8,OH] ⟨ah1,aDh,WC,trivial⟩ [] trivial Tryz.func84 (by kernel_rfl) fun ah res h hp => ?_;obtain⟨(o:List sv×Nat),(l:List gN),rfl,rfl⟩:=bG h;clear h;have bC:o=(l.map pQ++marks An,l.length)/\l.length<=1000000/\∀ c∈l,c.rows.length<=17592186043904:=hp;clear hp;obtain⟨rfl,hl,hf⟩:=bC;refine bk (marks An) fun M hM => ?_;refine bk (l.map pQ++M) fun L hL => ?_;refine bk (l.length+12) fun n hn => ?_;rw [hM,hL];have lf:M.length=12:=by rw [<- hM,oa]
 have Db:L.length=n:=by rw [<- hL,c9,lf]; simp only [di]; omega
 refine⟨[(5,ua 6 n fun _=>True)],?_⟩
 conv=>arg 1; cbv
 simp (maxSteps:=4000000) only [ay,aJ,aH,aO];refine⟨fun h=>absurd h (by simp),fun _=>⟨ii,⟨oo,oo⟩,⟨⟨bw _,fun _ _=>trivial⟩,rfl⟩,fun (k:Nat) hk => ?_⟩⟩;have bM:k<=n:=hk.1
 conv=>arg 1; cbv
 simp (maxSteps:=4000000) only [ay,aJ,aH,aO];have hA:k<l.length->L.getD k Tc.kL.aa=pQ (l.getD k Tc.cD.aa):=fun h=>by rw [<- hL,Ai Yn]; exact Fo _ _ _ h
 have hB:l.length<=k->k<n->L.getD k Tc.kL.aa=An (1000003*(1+7)+((k:Int) - (l.length:Int))):=fun h1 h2=>by
  exact Yo
 have hN:k<n->aP ((k:Int)+1)/\((k+1<=n/\∀ j,j<k+1->True)/\n - (k+1)<n - k)/\(k:Int)+1=((k+1:Nat):Int):=fun h=>⟨ii,⟨⟨oo,fun _ _=>trivial⟩,oo⟩,oo⟩
 refine⟨fun g=>⟨fun g1 => ?_,fun g1 => ?_⟩,fun g=>trivial⟩
 . have e:=hA oo;exact⟨⟨oo,oo⟩,⟨oo,oo⟩,⟨e,hf _ (eJ Tc.cD.aa (show k<l.length from oo))⟩,fun g2=>oo,fun _=>hN oo⟩
 . have e:=hB oo oo;exact Yp
def ama:aC:=bE 149 atW EJ (fun x y=>x ()=pR (y ())/\(y ()).steps.length<=17592186043904) (fun _ _ => .aV true)
theorem aDj:aE Tryz.prog ama:=by
 refine bD [OI,J8] ⟨WD,PN,trivial⟩ Tryz.func149 (by kernel_rfl) fun ah res h hp => ?_;obtain⟨(x:sx),(y:dN),rfl,rfl⟩:=bG h;clear h;have bC:x=pR y/\y.steps.length<=17592186043904:=hp;clear hp;obtain⟨rfl,hl⟩:=bC;refine⟨[],?_⟩
 conv=>arg 1; cbv
 simp (maxSteps:=4000000) only [ay,aJ,aH,aO];have ht:(pR y).steps.take (pR y).KR=y.steps:=vQ;rw [ht];exact⟨⟨rfl,hl⟩,rfl,hl⟩
def amb:aC:=bE 86 atF tJ (fun o l=>o ()=((l ()).map pR++marks Ao,(l ()).length)/\(l ()).length<=1000000/\∀ c∈l (),c.steps.length<=17592186043904) (fun _ _ => .aV true)
theorem aDk:aE Tryz.prog amb:=by
 refine bZ { kp := [(0,[0,1]),(1,[0,1]),(2,[]),(3,[0,1]),(4,[1,5]),(5,[1,5,6]),(6,[1,5,6]),(7,[1,5,6]),(8,[]),(9,[])] } [Wv,ama,OI] ⟨ah2,aDj,WD,trivial⟩ [] trivial Tryz.func86 (by kernel_rfl) fun ah res h hp => ?_;obtain⟨(o:List sx×Nat),(l:List dN),rfl,rfl⟩:=bG h;clear h;have bC:o=(l.map pR++marks Ao,l.length)/\l.length<=1000000/\∀ c∈l,c.steps.length<=17592186043904:=hp;clear hp;obtain⟨rfl,hl,hf⟩:=bC;refine bk (marks Ao) fun M hM => ?_;refine bk (l.map pR++M) fun L hL => ?_;refine bk (l.length+12) fun n hn => ?_;rw [hM,hL];have lf:M.length=12:=by rw [<- hM,oa]
 have Db:L.length=n:=by rw [<- hL,c9,lf]; simp only [di]; omega
 refine⟨[(5,ua 6 n fun _=>True)],?_⟩
 conv=>arg 1; cbv
 simp (maxSteps:=4000000) only [ay,aJ,aH,aO];refine⟨fun h=>absurd h (by simp),fun _=>⟨ii,⟨oo,oo⟩,⟨⟨bw _,fun _ _=>trivial⟩,rfl⟩,fun (k:Nat) hk => ?_⟩⟩;have bM:k<=n:=hk.1
 conv=>arg 1; cbv
 simp (maxSteps:=4000000) only [ay,aJ,aH,aO];have hA:k<l.length->L.getD k Tc.kM.aa=pR (l.getD k Tc.dW.aa):=fun h=>by rw [<- hL,Ai Yn]; exact Fo _ _ _ h
 have hB:l.length<=k->k<n->L.getD k Tc.kM.aa=Ao (1000003*(1+7)+((k:Int) - (l.length:Int))):=fun h1 h2=>by
  exact Yo
 have hN:k<n->aP ((k:Int)+1)/\((k+1<=n/\∀ j,j<k+1->True)/\n - (k+1)<n - k)/\(k:Int)+1=((k+1:Nat):Int):=fun h=>⟨ii,⟨⟨oo,fun _ _=>trivial⟩,oo⟩,oo⟩
 refine⟨fun g=>⟨fun g1 => ?_,fun g1 => ?_⟩,fun g=>trivial⟩
 . have e:=hA oo;exact⟨⟨oo,oo⟩,⟨oo,oo⟩,⟨e,hf _ (eJ Tc.dW.aa (show k<l.length from oo))⟩,fun g2=>oo,fun _=>hN oo⟩
 . have e:=hB oo oo;exact Yp
def amc:aC:=bE 32 atZ ko (fun x y=>x ()=Fp (y ())/\Aq (y ())) (fun _ _ => .aV true)
def PO(q:Cl):bB:=⟨(q.aF.take q.aev).map fun x=>⟨x.fI,x.row,x.mv,x.dC,x.mZ,x.uA,x.uB,x.uC,x.cf.take x.KP,x.x,x.y,x.z⟩,(q.bO.take q.aew).map fun x=>⟨x.fI,x.rows.take x.A7⟩,q.lk,q.lx,q.ly,q.lz,q.rows.take q.A7,q.ee.take q.aex,(q.fv.take q.aey).map fun x=>⟨x.aI,x.x,x.y,x.z,x.uD,x.steps.take x.KR⟩,q.m1,q.m2,q.m3,q.m4⟩
theorem Yq{f : α -> β}{g : β -> α}(h:∀ x,g (f x)=x)(l:List α)(m:List β):((l.map f++m).take l.length).map g=l:=by
 have e:(l.map f).length=l.length:=di _;rw [<- e,vQ,xz]
 conv=>rhs; rw [<- Qc l]
 exact FU fun x _=>h x
theorem amd(y:bB):PO (Fp y)=y:=by
 unfold PO Fp;dsimp only;rw [Yq,Yq,Yq,List.take_left,List.take_left]
 . intro x;unfold pR;dsimp only;rw [List.take_left]
 . intro x;unfold pQ;dsimp only;rw [List.take_left]
 . intro x;unfold pP;dsimp only;rw [List.take_left]
theorem aDl:aE Tryz.prog amc:=by
 refine bD [aij,al7,al9,al2,al3,amb] ⟨aze,aDg,aDi,aDb,aDc,aDk,trivial⟩ Tryz.func32 (by kernel_rfl) fun ah res h hp => ?_;obtain⟨(x:Cl),(y:bB),rfl,rfl⟩:=bG h;clear h;have bC:x=Fp y/\Aq y:=hp;clear hp;obtain⟨rfl,hl⟩:=bC;refine⟨[],?_⟩
 conv=>arg 1; cbv
 simp (maxSteps:=4000000) only [ay,aJ,aH,aO];have hb:=amd y;obtain⟨h1,h2,h3,h4,h5⟩:=hl;exact⟨⟨hb,by show Aq (PO (Fp y)); rw [hb]; exact⟨h1,h2,h3,h4,h5⟩⟩,⟨rfl,h1⟩,⟨rfl,h2⟩,⟨rfl,h3⟩,⟨rfl,h4⟩,rfl,h5⟩
def yG(s:bB)(bs:List aL)(l:List aA):Bool:=(((decide (s.aF.length<=40)&&decide (s.bO.length<=40))&&(decide (bs.length<=60)&&decide (l.length<=40)))&&((s.aF.all fun c=>decide (c.cf.length<=20))&&(s.bO.all fun c=>decide (c.rows.length<=40))))&&decide (s.rows.length+s.ee.length+s.fv.length<=200)
theorem Yr(s:bB)(bs:List aL)(l:List aA):yG s bs l=true↔(((s.aF.length<=40/\s.bO.length<=40)/\bs.length<=60/\l.length<=40)/\(∀ j,j<s.aF.length->(s.aF.getD j Tc.ar.aa).cf.length<=20)/\∀ j,j<s.bO.length->(s.bO.getD j Tc.cD.aa).rows.length<=40)/\s.rows.length+s.ee.length+s.fv.length<=200:=by
 unfold yG;simp only [aD,aU,Fu Tc.ar.aa,Fu Tc.cD.aa]
def Ys(s:bB):Prop:=(s.rows.length<=140737488351232/\s.ee.length<=140737488351232/\s.fv.length<=140737488351232)/\(∀ c∈s.aF,aP c.dC)/\∀ c∈s.fv,c.steps.length<=17592186043904
def ame:aC:=ns 24 ko jc lL (fun s _ _=>Ys (s ())) (fun s bs l => .bool fun _=>yG (s ()) (bs ()) (l ()))
theorem aDm:aE Tryz.prog ame:=by
 refine bZ { kp := [(0,[0,1,2]),(1,[1,2,3]),(2,[]),(3,[3]),(4,[3,32,33,34]),(5,[3,32,33,34]),(6,[3,8,32,33,34]),(7,[]),(8,[3,32,33,34]),(9,[3]),(10,[3,44,45,46]),(11,[3,44,45,46]),(12,[3,10,44,45,46]),(13,[]),(14,[3,44,45,46]),(15,[3])] } [] trivial [] trivial Tryz.func24 (by kernel_rfl) fun ah res h hp => ?_;obtain⟨(s:bB),(bs:List aL),(l:List aA),rfl,rfl⟩:=oR h;clear h;obtain⟨⟨hw1,hw2,hw3⟩,_⟩:Ys s:=hp;refine⟨[(4,jP 34 s.aF fun j=>(s.aF.getD j Tc.ar.aa).cf.length<=20),(10,jP 46 s.bO fun j=>(s.bO.getD j Tc.cD.aa).rows.length<=40)],?_⟩
 conv=>arg 1; cbv
 simp (maxSteps:=4000000) only [ay,aJ,aH,aO];have hI:=Yr s bs l;have hF:(yG s bs l=true->False)->false=yG s bs l:=fun h=>by
  cases hB:yG s bs l with
  | false=>rfl
  | true=>exact (h hB).elim
 refine⟨fun h=>hF fun q=>by have:=(hI.1 q).1.1.1.1; omega,fun a1=>⟨fun h=>hF fun q=>by have:=(hI.1 q).1.1.1.2; omega,fun a2=>⟨fun h=>hF fun q=>by have:=(hI.1 q).1.1.2.1; omega,fun a3=>⟨fun h=>hF fun q=>by have:=(hI.1 q).1.1.2.2; omega,fun a4=>⟨⟨⟨bw _,fun j hj=>absurd hj (jB _)⟩,rfl⟩,fun (k:Nat) hk => ?_⟩⟩⟩⟩⟩;have bu:k<=s.aF.length/\∀ j,j<k->(s.aF.getD j Tc.ar.aa).cf.length<=20:=hk;have bM:=bu.1;have bm:=bu.2
 conv=>arg 1; cbv
 simp (maxSteps:=4000000) only [ay,aJ,aH,aO];refine⟨fun g=>⟨⟨oo,oo⟩,fun c=>hF fun q=>by have:=(hI.1 q).1.2.1 k oo; omega,fun c=>j5 (n:=s.aF.length) (P:=fun j=>(s.aF.getD j Tc.ar.aa).cf.length<=20) oo oo bm oo⟩,fun g=>⟨⟨⟨bw _,fun j hj=>absurd hj (jB _)⟩,rfl⟩,fun (i:Nat) hi => ?_⟩⟩;have rP:i<=s.bO.length/\∀ j,j<i->(s.bO.getD j Tc.cD.aa).rows.length<=40:=hi;have uF:=rP.1;have mw:=rP.2
 conv=>arg 1; cbv
 simp (maxSteps:=4000000) only [ay,aJ,aH,aO];refine⟨fun g=>⟨⟨oo,oo⟩,fun c=>hF fun q=>by have:=(hI.1 q).1.2.2 i oo; omega,fun c=>j5 (n:=s.bO.length) (P:=fun j=>(s.bO.getD j Tc.cD.aa).rows.length<=40) oo oo mw oo⟩,fun g=>⟨ii,ii,?_⟩⟩;have hQ:=fun (q:s.rows.length+s.ee.length+s.fv.length<=200)=>hI.2 ⟨⟨⟨⟨oo,oo⟩,oo,oo⟩,fun j hj=>bm j oo,fun j hj=>mw j oo⟩,q⟩
 cases hB:yG s bs l with
 | true =>
  have:=(hI.1 hB).2;exact cT oo
 | false =>
  refine dB fun q => ?_;have:=hQ oo;rw [hB] at this;cases this
def FL(s:bB)(bs:List aL):Prop:=Ys s/\∀ b∈bs,b.num.size<=140737488351232/\aP b.size
theorem aDn{l:List aA}(h:yG s bs l=true)(hp:FL s bs):Aq s/\yC s bs l/\bs.length<=60/\l.length<=40:=by
 obtain⟨⟨⟨⟨h1,h2⟩,h3,h4⟩,h5,h6⟩,h7⟩:=(Yr s bs l).1 h;obtain⟨⟨⟨w1,w2,w3⟩,w4,w5⟩,w6⟩:=hp;have hc:∀ c∈s.aF,c.cf.length<=20:=fun c hc=>by
  obtain⟨j,hj,rfl⟩:=qK hc;have:=h5 j hj;exact Oy
 have hv:∀ c∈s.bO,c.rows.length<=40:=fun c hc=>by
  obtain⟨j,hj,rfl⟩:=qK hc;have:=h6 j hj;exact Oy
 refine⟨⟨⟨oo,fun c hm=>by have:=hc c hm; omega⟩,⟨oo,fun c hm=>by have:=hv c hm; omega⟩,oo,oo,oo,w5⟩,⟨⟨fun c hm=>⟨by have:=hc c hm; omega,w4 c hm⟩,fun c hm=>by have:=hv c hm; omega⟩,⟨⟨oo,fun b hb=>(w6 b hb).1⟩,fun b hb=>(w6 b hb).2⟩,oo⟩,h3,h4⟩
def amf(slot n:Nat):Lp where
 X:=Nat
 ov k := [(slot,.int .i64 fun _=>(k:Int))]
 oe _ := []
 I k:=k<=n
 μ k _:=n - k
 x0:=0
 nx:=some fun k=>k+1
def amg:aC:=oS 31 Iz kI Iz kI (fun l e m f=>l ()=m ()/\e ()=f ()/\(l ()).length<=1000000) (fun _ _ _ _ => .aV true)
theorem aDo:aE Tryz.prog amg:=by
 refine bZ { kp := [(0,[0,1,2,3]),(1,[0,1,2,3]),(2,[]),(3,[0,2]),(4,[0,21,22,23]),(5,[0,21,22,23]),(6,[0,9,10,21,22,23]),(7,[]),(8,[0,21,22,23]),(9,[])],lt := [(6,⟨[0,1,2,3,4,5,6,7,8,9],[0,1,2,3,4,5,6,7,8,9],[],[],[]⟩)] } [] trivial [] trivial Tryz.func31 (by kernel_rfl) fun ah res h hp => ?_;obtain⟨(l:List lB),(e:Int),(m:List lB),(f:Int),rfl,rfl⟩:=qu h;clear h;have Yt:l=m/\e=f/\l.length<=1000000:=hp;have he:=Yt.1;have hf:=Yt.2.1;have hl:=Yt.2.2;subst he;subst hf;obtain⟨n,hn⟩:∃ n,n=l.length:=⟨_,rfl⟩
 refine⟨[(4,amf 23 n)],?_⟩
 conv=>arg 1; cbv
 simp (maxSteps:=4000000) only [ay,aJ,aH,aO];refine⟨fun h=>by simp at h,fun _=>⟨fun h=>by simp at h,fun _=>⟨⟨bw _,rfl⟩,fun (k:Nat) hk => ?_⟩⟩⟩;have bM:k<=n:=hk
 conv=>arg 1; cbv
 simp (maxSteps:=4000000) only [ay,aJ,aH,aO];exact⟨fun g=>⟨⟨oo,oo⟩,⟨oo,oo⟩,fun h=>by simp at h,fun _=>⟨ii,⟨oo,oo⟩,oo⟩⟩,fun _=>trivial⟩
def amh:aC:=oS 6 ko jc lL gi (fun s bs _ _=>FL (s ()) (bs ())) (fun _ _ _ _ => .aV true)
theorem aDp:aE Tryz.prog amh:=by
 refine bZ { kp := [(0,[0,1,2,3]),(1,[1,2,3,4]),(2,[]),(3,[1,2,3,4]),(4,[1,2,3,4,9,10,11,12]),(5,[1,2,3,4,9,10,11,12,13,14]),(6,[1,2,3,4,9,10,11,12,13,14,15,16]),(7,[1,2,3,4,9,10,11,12,13,14,15,16,17,18]),(8,[1,2,3,4,9,10,11,12,13,14,15,16,17,18,19,20]),(9,[]),(10,[1,2,3,4,9,10,11,12,13,15]),(11,[1,2,3,4,9,10,11,12,13,15,108,109]),(12,[1,2,3,4,9,10,11,12,13,15,108,109]),(13,[1,2,3,4,9,10,11,12,13,15,21,108,109]),(14,[]),(15,[1,2,3,4,9,10,11,12,13,15,108,109]),(16,[1,2,3,4,9,10,11,12])],lt := [(13,⟨[0,1,2,3,4,5,6,7,8],[0,1,2,3,4,5,6,7,8],[],[],[]⟩)] } [ame,aik,ah5,ah6,Jr,Ym,XZ,al1,ala,amg,amc,al4,al5,J8] ⟨aDm,azf,ay1,ay2,OE,alZ,akZ,aDa,aCI,aDo,aDl,aDd,aDe,PN,trivial⟩ [] trivial Tryz.func6 (by kernel_rfl) fun ah res h hp => ?_;obtain⟨(s:bB),(bs:List aL),(l:List aA),(w:List Int),rfl,rfl⟩:=qu h;clear h;have bC:FL s bs:=hp;clear hp;obtain⟨n,hn⟩:∃ n,n=(lS s bs l w).1.length:=⟨_,rfl⟩
 refine⟨[(11,amf 109 n)],?_⟩
 conv=>arg 1; cbv
 simp (maxSteps:=4000000) only [ay,true_and,and_true,eq_self];have es:(⟨s.aF,s.bO,s.lk,s.lx,s.ly,s.lz,s.rows,s.ee,s.fv,s.m1,s.m2,s.m3,s.m4⟩:bB)=s:=rfl;have eb:=amd s;unfold PO at eb;simp only [es,eb,List.take_left];have eT:=congrArg bB.fv eb;have eF:=congrArg bB.ee eb;dsimp only at eT eF;rw [eT,eF];refine⟨bC.1,fun _=>trivial,fun hf=>⟨fun _=>trivial,fun h1=>⟨fun _=>trivial,fun h2=>⟨fun _=>trivial,fun h3=>⟨fun _=>trivial,fun h4 => ?_⟩⟩⟩⟩⟩;have sr:yG s bs l=true:=by simpa using hf
 obtain⟨q1,q2,q3,q4⟩:=aDn sr bC;have q5:pT s/\xm bs/\l.length<=40:=⟨q2.1,q2.2.1.1,q4⟩
 have h5:=((Yr s bs l).1 sr).2;have hlen:(yD s bs l w).1.length<=s.ee.length:=by
  unfold yD;split
  . unfold Aw JC JB JA Jz
    (repeat' split)<;>simp
  . simp
 refine⟨q1,oo,oo,oo,⟨q5,oo,oo,oo⟩,⟨q2,oo,oo,oo⟩,⟨q5,oo,oo,oo⟩,⟨q2,oo,oo,oo⟩,fun h=>by simp at h,fun _=>⟨fun h=>by simp at h,fun _=>⟨⟨trivial,trivial,by rw [di]; omega⟩,⟨bw _,rfl⟩,fun (k:Nat) hk => ?_⟩⟩⟩;have bM:k<=n:=hk
 conv=>arg 1; cbv
 simp (maxSteps:=4000000) only [ay,aJ,aH,aO];have kf:=X8 (s:=s) (bs:=bs) (w:=w) (l:=l) oo;exact⟨fun g=>⟨⟨oo,oo⟩,⟨oo,oo⟩,fun h=>by simp at h,fun _=>⟨ii,⟨oo,oo⟩,oo⟩⟩,fun _=>⟨q1,oo,oo,oo⟩⟩
def aDq:aC:=oS 3 ko jc lL gi (fun s bs _ _=>FL (s ()) (bs ())) (fun _ _ _ _ => .bool fun _=>true)
theorem aDr:aE Tryz.prog aDq:=by
 refine bD [amh,aiF] ⟨aDp,azI,trivial⟩ Tryz.func3 (by kernel_rfl) fun ah res h hp => ?_;obtain⟨(s:bB),(bs:List aL),(l:List aA),(w:List Int),rfl,rfl⟩:=qu h;clear h;have bC:FL s bs:=hp;refine⟨[],?_⟩
 conv=>arg 1; cbv
 simp (maxSteps:=4000000) only [ay];exact⟨bC,trivial,trivial⟩
open Go.ChangeShapes Go.Deep Go.WideShapes
theorem ami{T:Type}{p:Nat->T->Prop}:∀ (n:Nat),(∀ i,i<n->∃ x,p i x)->∃ l:List T,l.length=n/\∀ i (h:i<l.length),p i l[i]
 | 0,_=>⟨[],rfl,by simp⟩
 | n+1,h=>by
  obtain⟨l,hl,hp⟩:=ami n (fun i hi=>h i oo);obtain⟨x,hx⟩:=h n oo;refine⟨l ++ [x],by simp [hl],fun i hi => ?_⟩;by_cases e:i<l.length
  . rw [List.getElem_append_left e];exact hp i e
  . have e2:i=n:=by simp at hi; omega
    subst e2;rw [List.getElem_append_right oo];simpa using hx
theorem amj{H:Type}{enc:TypeId×Value->H}{P:Program}(hl:laidOutB P=true){W W':World}(hb:Below W.heap.size W W'):∀ {ts:List TypeId} {vs:List Value} {ds:List (DataW H)} {ps:List MemPlace},(ts.all fun t=>P.readableRec t&&decide (t<P.types.size))=true ->
 DataW.TrodAll enc P W 0 (fun _=>true) true ts vs ds ps->(∀ x∈ps,x.block<W.heap.size)->DataW.TrodAll enc P W' 0 (fun b=>decide (b<W.heap.size)) true ts vs ds ps
 | [],vs,ds,ps,_,h,_=>by
  obtain⟨rfl,rfl,rfl⟩:=trodAll_nil h;exact trodAll_mk0
 | t::ts,vs,ds,ps,ht,h,af=>by
  obtain⟨v,vs',d,ds',p,q,rfl,rfl,rfl,hd,hr⟩:=trodAll_cons h;simp only [AN,aD,aU] at ht;exact⟨p,q,Below.trod hl ht.1.1 ht.1.2 hd hb (fun x hx=>af x (amW _ hx)),amj hl hb (by simpa using ht.2) hr (fun x hx=>af x (List.mem_append_right _ hx)),rfl⟩
theorem Tryz.own:ownKnob Tryz.prog.godebug=none:=by kernel_rfl
theorem Tryz.laidOut:laidOutB Tryz.prog=true:=by kernel_rfl
section
variable{H:Type}{enc:TypeId×Value->H}{P:Program}{w:World}{base:Nat}{held:Bool}
def Fits(P:Program)(t:TypeId)(d:DataW H):Prop:=∀ k∈d.weights P t,k<=140737488351232
theorem amk{t:TypeId}:∀ {ds:List (DataW H)} {d:DataW H},d∈ds->∀ k∈d.weights P t,k∈DataW.weightsAll P t ds
 | [],_,h,_,_=>by cases h
 | d0::ds,d,h,k,hk=>by
  unfold DataW.weightsAll;rw [nJ];rcases gD.1 h with h|h
  . subst h; exact .inl hk
  . exact .inr (amk h k hk)
theorem Fits.elem{Kb sp:List (DataW H)}{d:DataW H}(ht:P.underlying t=some (.slice e))(h:Fits P t (.slice Kb sp))(hd:d∈Kb):Fits P e d:=fun k hk=>h k (by
 simp only [DataW.weights,ht,gD,nJ];exact .inr (.inl (amk hd k hk)))
theorem Fits.size{Kb sp:List (DataW H)}(ht:P.underlying t=some (.slice e))(h:Fits P t (.slice Kb sp)):(Kb.length+sp.length)*P.bytesOf e<=140737488351232:=h _ (by
 simp only [DataW.weights,ht,gD];exact .inl trivial)
theorem Fits.field{parts:List (DataW H)}{f:Field}{d:DataW H}(ht:P.underlying t=some (.struct fs))(h:Fits P t (.agg parts))(hj:fs[j]? = some f)(hd:parts[j]? = some d):Fits P f.type d:=fun k hk=>h k (by
 simp only [DataW.weights,ht];exact DataW.weights_mem_each (j:=j) (t:=f.type) (by simp [hj]) hd k hk)
theorem PQ{ts:List TypeId}{ds:List (DataW H)}(h:(DataW.weightsEach P ts ds).all (· <= reachBytes)=true){d:DataW H}(ht:ts[j]? = some t)(hd:ds[j]? = some d):Fits P t d:=fun k hk=>by
 have:=fc.1 h _ (DataW.weights_mem_each ht hd k hk);exact r8 this
theorem aDs{cells:T->List Value}{wf:T->Prop}{t e size bytes fuel:Nat}{v:Value}{x:DataW H×List MemPlace}(ht:P.underlying t=some (.slice e))(hC:P.cellsOf e=size)(h0:0<size)(hB:P.bytesOf e=bytes)(jE:∀ n cs (y:DataW H×List MemPlace),DataW.trod enc P w base (fun _=>true) held n e cs=some y->Fits P e y.1->∃ b:T,cs=cells b/\wf b)(h:DataW.trod enc P w base (fun _=>true) held fuel t [v]=some x)(hf:Fits P t x.1) :
 ∃ (A:Option Addr) (l:List T) (c:Nat),v = .slice A l.length c/\Rd w w.heap.size size A (l.map cells)/\(∀ b∈l,wf b)/\l.length*bytes<=140737488351232/\l.length<=c:=by
 rcases open_slice ht h with ⟨aS,hx⟩|⟨a,len,cap,m,n,D,Pl,aS,hb,hl,hm,vi,hx,hi⟩
 . injection aS with hv _;subst hv;exact⟨none,[],0,rfl,Rd.nil _ _ _ _,by simp,by simp,by simp⟩
 . injection aS with hv _;subst hv;subst hx;simp only [fH] at vi;subst vi;have bc:=Fits.size ht hf;rw [hB] at bc;simp only [di,vK] at bc;have key:∀ i,i<len->∃ b:T,wf b/\(cells b).length=size/\∀ j u,(cells b)[j]? = some u->w.cell? ((a.add (i*size)).add j)=some u:=fun i af=>by
    obtain⟨cs,hc,Pn⟩:=hi i oo;obtain⟨b,rfl,hw⟩:=jE n cs (D i,Pl i) Pn (Fits.elem ht hf (List.mem_map_of_mem (iV.2 af)));obtain⟨_,c7,OD⟩:=World.cells?_some hc;rw [hC] at c7 OD hc;refine⟨b,hw,c7,fun j u hu => ?_⟩;rw [OD j (by rw [<- c7]; exact (c8.1 hu).1)];exact hu
   obtain⟨l,kf,hp⟩:=ami len key;subst kf;refine⟨some a,l,m,rfl,fun k cs hk => ?_,fun b bo => ?_,cd (pd bytes oo) bc,oo⟩
   . rw [gC] at hk;obtain⟨b,uK,rfl⟩:=nH.1 hk;have lY:k<l.length:=(c8.1 uK).1;obtain⟨_,c7,hc⟩:=hp k lY;have hbe:l[k]=b:=by rw [bq lY] at uK; injection uK
     rw [hbe] at c7 hc;have hu0:(cells b)[0]? = some ((cells b)[0]'oo):=bq oo;have qd:=hc 0 _ hu0;have af:=block_lt_of_cell qd;obtain⟨_,aFy,hcz⟩:=hp 0 oo;have yV:=World.cell?_spot (hcz 0 _ (bq oo));obtain⟨ab,ao,asp⟩:=a;have has:asp=none:=by simpa [Addr.add] using yV
     subst has;refine⟨ab,ao,rfl,by simpa [ur] using af,c7,fun j u hu => ?_⟩;have:=hc j u hu;rwa [ur,ur] at this
   . obtain⟨k,hk,rfl⟩:=FT.1 bo;exact (hp k hk).1
end
def PR:Sg->Sg->Bool
 | .int k,.int k'=>decide (k=k')
 | .bool,.bool=>true
 | .str,.str=>true
 | .sl t,.sl t'=>decide (t=t')
 | _,_=>false
def FM:List Sg->List Sg->Bool
 | [],[]=>true
 | a::l,b::m=>PR a b&&FM l m
 | _,_=>false
theorem aDx{a b:Sg}(h:PR a b=true):a=b:=by
 unfold PR at h;split at h<;>first|rfl|(simp only [aU] at h; rw [h])|cases h
theorem aml:∀ {a b:List Sg},FM a b=true->a=b
 | [],[],_=>rfl
 | a::l,b::m,h=>by
  simp only [FM,aD] at h;rw [aDx h.1,aml h.2]
 | [],_::_,h=>by cases h
 | _::_,[],h=>by cases h
def Ke(P:Program)(g:TypeId->Option (List Sg)):List Field->Nat->Option (List Sg)
 | [],_=>some []
 | f::fs,o=>match g f.type,Ke P g fs (o+P.cellsOf f.type) with
  | some a,some b=>if f.offset==o&&a.length==P.cellsOf f.type then some (a++b) else none
  | _,_=>none
def Tc.Kf:Tc->Nat
 | .int=>17592186043904
 | _=>140737488351232
def FN(P:Program)(tc:List (Nat×Tc)):Nat->TypeId->Option (List Sg)
 | 0,_=>none
 | n+1,T=>match P.underlying T with
  | some (.int k)=>some [.int k]
  | some .bool=>some [.bool]
  | some .string=>some [.str]
  | some (.slice e)=>match al tc e with
   | some t=>match FN P tc n e with
    | some ss=>if FM ss (DY t)&&P.cellsOf e==t.size&&decide (140737488351232<(t.Kf+1)*P.bytesOf e) then some [.sl t] else none
    | none=>none
   | none=>none
  | some (.struct fs)=>match Ke P (FN P tc n) fs.toList 0 with
   | some ss=>if ss.length==P.cellsOf T then some ss else none
   | none=>none
  | _=>none
def Sh:Sg->AV->Prop
 | .int k,x=>∃ n:Int,x = .int k fun _=>n
 | .bool,x=>∃ b:Bool,x = .bool fun _=>b
 | .str,x=>∃ s:ByteArray,x = .str fun _=>s
 | .sl t,x=>∃ l:List t.el,x = .sl false t fun _=>l
 | _,_=>False
def xp:List Sg->List AV->Prop
 | [],l=>l = []
 | s::ss,l=>∃ x xs,l=x::xs/\Sh s x/\xp ss xs
def oh:Nat->AV->Prop
 | 0,_=>True
 | _+1,.int k n=>(Lit.int k (n ())).wf=true
 | _+1,.str s=>(s ()).size<=140737488351232
 | d+1,.sl _ t l=>(l ()).length<=t.Kf/\∀ e∈l (),∀ x∈bf false t (fun _=>e),oh d x
 | _,_=>True
theorem oh.down:∀ (d:Nat) (x:AV),oh (d+1) x->oh d x
 | 0,_,_=>trivial
 | d+1,.int _ _,h=>h
 | d+1,.str _,h=>h
 | d+1,.sl _ _ _,h=>⟨h.1,fun e he x hx=>oh.down d x (h.2 e he x hx)⟩
 | d+1,.un,_=>trivial
 | d+1,.lit _ _,_=>trivial
 | d+1,.bool _,_=>trivial
 | d+1,.aV _,_=>trivial
 | d+1,.nil,_=>trivial
 | d+1,.wide _ _ _ _,_=>trivial
 | d+1,.bP _ _,_=>trivial
 | d+1,.ptr _ _,_=>trivial
 | d+1,.own _,_=>trivial
 | d+1,.dv _ _ _ _,_=>trivial
 | d+1,.cW _ _ _ _,_=>trivial
 | d+1,.fX _ _ _,_=>trivial
 | d+1,.gv _,_=>trivial
 | d+1,.mp _,_=>trivial
 | d+1,.bL _,_=>trivial
 | d+1,.it _ _,_=>trivial
 | d+1,.agg _,_=>trivial
 | d+1,.bp _,_=>trivial
 | d+1,.fn _ _,_=>trivial
theorem xp.app:∀ {a b:List Sg} {l m:List AV},xp a l->xp b m->xp (a++b) (l++m)
 | [],b,l,m,h,h2=>by
  rw [show l = [] from h];exact h2
 | s::a,b,l,m,h,h2=>by
  obtain⟨x,xs,rfl,h3,h4⟩:=h;exact⟨x,xs++m,rfl,h3,h4.app h2⟩
set_option maxHeartbeats 1000000 in
theorem aDy{t:Tc}(h:xp (DY t) ah)(hq:(DY t).all (fun s=>match s with | .wide _=>false|_=>true)=true):∃ e:t.el,ah=bf false t fun _=>e:=by
 cases t<;>first
  | (exact absurd hq (by decide))
  | (simp only [DY] at h
     repeat (obtain⟨_,_,rfl,⟨_,rfl⟩,h⟩:=h)
     first
      | exact⟨(_:Int),rfl⟩
      | exact⟨⟨_,_⟩,rfl⟩
      | exact⟨⟨_,_,_⟩,rfl⟩
      | exact⟨⟨_,_,_,_⟩,rfl⟩
      | exact⟨⟨_,_,_,_,_⟩,rfl⟩
      | exact⟨⟨_,_,_,_,_,_⟩,rfl⟩
      | exact⟨⟨_,_,_,_,_,_,_,_,_⟩,rfl⟩
      | exact⟨⟨_,_,_,_,_,_,_,_,_,_,_,_⟩,rfl⟩
      | exact⟨⟨⟨_,_,_,_,_,_,_,_,_⟩,_,_,_⟩,rfl⟩
      | exact⟨⟨_,_,_,_,_,_,_,_,_,_,_,_,_,_,_,_,_⟩,rfl⟩
      | exact⟨⟨⟨_,_,_,_,_,_,_,_,_,_,_,_,_,_,_,_,_⟩,⟨_,_,_,_,_,_,_,_,_,_,_,_,_,_,_,_,_⟩⟩,rfl⟩)
section
variable{H:Type}{enc:TypeId×Value->H}{P:Program}{w:World}{held:Bool}{tc:List (Nat×Tc)}
def vD(w:World):Nat->Prop:=fun b=>b<w.heap.size
theorem amm{g:TypeId->Option (List Sg)}{m:Nat}{cs:List Value}{T:TypeId}{fields:Array Field}{parts:List (DataW H×List MemPlace)}(hT:P.underlying T=some (.struct fields))(nL:Fits P T (.agg (parts.map (·.1))))(hg:∀ (f:Field) (ss:List Sg) (cs:List Value) (y:DataW H×List MemPlace),g f.type=some ss->DataW.trod enc P w 0 (fun _=>true) held m f.type cs=some y->Fits P f.type y.1->∃ ah,bn w (fun _=>none) 0 (vD w) ah cs/\xp ss ah/\∀ x∈ah,oh 4 x)(amn:∀ (i:Nat) (f:Field),fields[i]? = some f->DataW.trod enc P w 0 (fun _=>true) held m f.type ((cs.drop f.offset).take (P.cellsOf f.type))=parts[i]?)(dh:parts.length=fields.size) :
 ∀ (fs:List Field) (i o:Nat) (ss:List Sg),fields.toList.drop i=fs->Ke P g fs o=some ss->∃ ah,bn w (fun _=>none) 0 (vD w) ah ((cs.drop o).take ss.length)/\xp ss ah/\∀ x∈ah,oh 4 x
 | [],i,o,ss,hi,h=>by
  simp only [Ke,bU] at h;subst h;exact⟨[],by simpa using bn.nil,rfl,by simp⟩
 | f::fs,i,o,ss,hi,h=>by
  unfold Ke at h;split at h
  . rename_i a b ha hb;split at h
    . rename_i hc;simp only [aD,cC] at hc;obtain⟨iw,tC⟩:=hc;cases h;have pj:i<fields.toList.length:=by
       rcases cv i fields.toList.length with h|h
       . exact h
       . rw [YG h] at hi; cases hi
      rw [rZ pj] at hi;injection hi with h1 h2;have hf:fields[i]? = some f:=by rw [<- h1]; simp
      have hp:=amn i f hf;have hip:i<parts.length:=by rw [dh]; simpa using pj
      rw [bq hip] at hp;obtain⟨ah,q1,q2,q3⟩:=hg f a _ _ ha hp (Fits.field hT nL hf (by simp [hip]));obtain⟨bvs,r1,r2,r3⟩:=amm hT nL hg amn dh fs (i+1) (o+P.cellsOf f.type) b h2 hb;refine⟨ah++bvs,?_,q2.app r2,fun x hx => ?_⟩
      . rw [iw] at q1;have e:(cs.drop o).take (a++b).length=(cs.drop o).take (P.cellsOf f.type)++(cs.drop (o+P.cellsOf f.type)).take b.length:=by
         rw [c9,tC,List.take_add,vN]
        rw [e];exact q1.append r1
      . rcases nJ.1 hx with h|h
        . exact q3 x h
        . exact r3 x h
    . cases h
  . cases h
theorem PS:∀ (n m:Nat) (T:TypeId) (ss:List Sg) (cs:List Value) (y:DataW H×List MemPlace),FN P tc n T=some ss->DataW.trod enc P w 0 (fun _=>true) held m T cs=some y->Fits P T y.1->∃ ah,bn w (fun _=>none) 0 (vD w) ah cs/\xp ss ah/\∀ x∈ah,oh 4 x
 | 0,_,_,_,_,_,h,_,_=>by cases h
 | n+1,m,T,ss,cs,y,h,ht,hf=>by
  unfold FN at h;split at h
  . rename_i k hu;cases h;obtain⟨z,rfl,_,hw⟩:=DataW.trod_int hu ht;refine⟨[.int k fun _=>z],.cons (.int k _) .nil,⟨_,_,rfl,⟨z,rfl⟩,rfl⟩,?_⟩;intro x hx;rw [oq.1 hx];exact hw
  . rename_i hu;cases h;obtain⟨z,rfl,_⟩:=DataW.trod_bool hu ht;refine⟨[.bool fun _=>z],.cons (.bool _) .nil,⟨_,_,rfl,⟨z,rfl⟩,rfl⟩,?_⟩;intro x hx;rw [oq.1 hx];trivial
  . rename_i hu;cases h;obtain⟨z,rfl,hy,_⟩:=DataW.trod_string hu ht;refine⟨[.str fun _=>z],.cons (.str _) .nil,⟨_,_,rfl,⟨z,rfl⟩,rfl⟩,?_⟩;intro x hx;rw [oq.1 hx];exact hf z.size (by rw [hy]; simp [DataW.weights,hu])
  . rename_i e hu;split at h
    . rename_i t htc;split at h
      . rename_i se qc;split at h
        . rename_i hc;cases h;simp only [aD,cC,aU] at hc;obtain⟨⟨iw,tC⟩,n8⟩:=hc;have hss:=aml iw;have hq:(DY t).all (fun s=>match s with | .wide _=>false|_=>true)=true:=by
           rw [<- hss,fc];intro s hs;have:∀ {a b:List Sg},FM a b=true->∀ s∈a,(match s with | .wide _=>false|_=>true)=true:=by
            intro a
            induction a with
            | nil=>intro b _ s hs; cases hs
            | cons x a ih =>
             intro b h s hs
             cases b with
             | nil=>cases h
             | cons z b =>
              simp only [FM,aD] at h;rcases gD.1 hs with rfl|hs
              . have h1:=h.1;unfold PR at h1;split at h1<;>first|rfl|cases h1
              . exact ih h.2 s hs
           exact this iw s hs
          have nk:∃ v,cs = [v]:=by
           rcases open_slice hu ht with ⟨aS,_⟩|⟨a,len,cap,m',n',D,Pl,aS,_⟩<;>exact⟨_,aS⟩
          obtain⟨v,rfl⟩:=nk;obtain⟨A,l,c,hv,hr,hw,hby,hlc⟩:=aDs (T:=List Value×t.el) (cells:=fun p=>p.1) (wf:=fun p=>bn w (fun _=>none) 0 (vD w) (bf false t fun _=>p.2) p.1/\∀ x∈bf false t (fun _=>p.2),oh 4 x) (size:=t.size) (bytes:=P.bytesOf e) hu tC (aoZ t) rfl (fun n' cs' y' h1 h2=>by
           obtain⟨ah,q1,q2,q3⟩:=PS n n' e se cs' y' qc h1 h2;rw [hss] at q2;obtain⟨el,rfl⟩:=aDy q2 hq;exact⟨(cs',el),rfl,q1,q3⟩) ht hf
          have kf:l.length<=t.Kf:=by
           rcases cv t.Kf l.length with Yu|Yu
           . have:(t.Kf+1)*P.bytesOf e<=l.length*P.bytesOf e:=pd _ Yu;omega
           . exact Yu
          refine⟨[.sl false t fun _=>l.map (·.2)],.cons ?_ .nil,⟨_,_,rfl,⟨_,rfl⟩,rfl⟩,?_⟩
          . rw [hv];have key:aj w (fun _=>none) 0 (vD w) (.sl false t fun _=>l.map (·.2)) (.slice A (l.map (·.2)).length c):=by
             refine aj.sl (ro:=vD w) false t (fun _=>l.map (·.2)) A c (l.map (·.1)) (by simp) (by simpa using hlc) hr (fun a ha bg=>Rd.bound hr bg a ha) (fun h=>by cases h) fun k cs j x v h1 h2 h3 => ?_;rw [gC] at h1;obtain⟨p,hp,rfl⟩:=nH.1 h1;have hpm:=hw p (gK hp);have e1:(l.map (·.2)).getD k t.aa=p.2:=by simp [aY,hp]
             rw [e1] at h2;exact hpm.1.2 j x v h2 h3
            rwa [di] at key
          . intro x hx;rw [oq.1 hx];refine⟨by rw [di]; exact kf,fun el jE z hz => ?_⟩;obtain⟨p,hp,rfl⟩:=lW.1 jE;exact oh.down 3 z ((hw p hp).2 z hz)
        . cases h
      . cases h
    . cases h
  . rename_i fs hu;split at h
    . rename_i ss' jo;split at h
      . rename_i hlen;cases h;simp only [cC] at hlen;obtain⟨xs,n2,rfl,hx,c7,tL,hg⟩:=DataW.trod_struct hu ht;subst hx;obtain⟨ah,q1,q2,q3⟩:=amm (m:=n2) hu hf (fun f ss cs y h1 h2 h3=>PS n n2 f.type ss cs y h1 h2 h3) hg tL fs.toList 0 0 ss rfl jo;rw [yK,ez oo] at q1;exact⟨ah,q1,q2,q3⟩
      . cases h
    . cases h
  . cases h
section
variable{b0 m:Nat}{r:Reach}{T:TypeId}{v:Value}{y:DataW H×List MemPlace}
theorem Yv{t:Tc}(hT:P.underlying T=some (.slice e))(ho:FN P tc n T=some [.sl t])(hv:Value.okWide P w r b0 T v)(ht:DataW.trod enc P w 0 (fun _=>true) held m T v.cells.toList=some y)(hf:Fits P T y.1):∃ l:List t.el,aj w (fun _=>none) 0 (vD w) (.sl false t fun _=>l) v/\oh 4 (.sl false t fun _=>l):=by
 obtain⟨a,len,cap,rfl⟩:=okWide_slice hT hv;obtain⟨ah,q1,q2,q3⟩:=PS (tc:=tc) n m T _ _ _ ho ht hf;obtain⟨x,xs,rfl,⟨l,rfl⟩,h⟩:=q2;rw [show xs = [] from h] at q1 q3;refine⟨l,?_,q3 _ (.head _)⟩;exact q1.2 0 _ _ rfl rfl
theorem aDC{ss:List Sg}(hT:P.underlying T=some (.struct fs))(ho:FN P tc n T=some ss)(hv:Value.okWide P w r b0 T v)(ht:DataW.trod enc P w 0 (fun _=>true) held m T v.cells.toList=some y)(hf:Fits P T y.1):∃ ah:List AV,aj w (fun _=>none) 0 (vD w) (.agg ah) v/\xp ss ah/\∀ x∈ah,oh 4 x:=by
 obtain⟨cs,rfl,bc⟩:=okWide_struct hT hv;obtain⟨ah,q1,q2,q3⟩:=PS (tc:=tc) n m T _ _ _ ho ht hf;refine⟨ah,?_,q2,q3⟩;have e:Value.agg cs = .agg cs.toList.toArray:=by simp
 rw [e];exact .agg _ _ q1.1 q1.2
end
end
theorem aDD{c:aC}{res:Bk}(hc:aE Tryz.prog c)(kd:c.go ah=some res)(eU:res.av = .bool fun _=>true){W:World}{eu:List Value}(hE:bn W (fun _=>none) 0 (vD W) ah eu)(ja:res.pre ()):Calls Tryz.prog c.f eu.toArray W fun e w'=>e = .returned (.bool true)/\Below W.heap.size W w' :=
 (hc.2 ah res kd W (vD W) eu (fun _ h=>h) hE ja).mono fun e w' ⟨v,h1,h2,h3⟩=>by
  rw [eU] at h3;rw [h1,h3.qb];exact⟨rfl,h2⟩
theorem amq{k:IntKind}{n:Int}(h:(Lit.int k n).wf=true):k.min<=n/\n<=k.max:=by
 simpa [Lit.wf] using h
open Go.RowKit
theorem aDE(h0:∀ x∈zR (fun _=>s),oh 4 x)(h1:oh 4 (.sl false .box fun _=>bs)):FL s bs:=by
 have c:oh 4 (.sl false .ar fun _=>s.aF):=h0 _ (by simp [zR]);have r:oh 4 (.sl false .dO fun _=>s.rows):=h0 _ (by simp [zR]);have f:oh 4 (.sl false .cu fun _=>s.ee):=h0 _ (by simp [zR]);have t:oh 4 (.sl false .dW fun _=>s.fv):=h0 _ (by simp [zR]);refine⟨⟨⟨r.1,f.1,t.1⟩,fun x hx => ?_,fun x hx => ?_⟩,fun b hb => ?_⟩
 . have h:=c.2 x hx (.int .i64 fun _=>x.dC) (by simp [bf]);exact amq h
 . have h:=t.2 x hx (.sl false .int fun _=>x.steps) (by simp [bf]);exact h.1
 . have h2:=h1.2 b hb (.str fun _=>b.num) (by simp [bf]);have h3:=amq (h1.2 b hb (.int .u8 fun _=>b.size) (by simp [bf]));refine⟨h2,?_⟩;have h4:0<=b.size/\b.size<=255:=h3;simp only [aP];omega
end Go.Proofs.YtamjbkaclhgffaaGreat
