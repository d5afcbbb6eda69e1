/-
  The kit: what is lent, with marks behind it.
-/
import Derived.Test.YtamjbkaclhgffaaGreatSh24
set_option linter.all false
set_option maxRecDepth 100000
set_option maxHeartbeats 4000000
namespace Go.Proofs.YtamjbkaclhgffaaGreat
open Go.RowKit
variable{α β:Type}
def marks(f:Int -> α):List α:=(List.range 12).map fun i:Nat=>f (8000024+(i:Int))
theorem oa(f:Int -> α):(marks f).length=12:=by simp [marks]
theorem Ah(f:Int -> α){k:Nat}(h:k<12):(marks f).take (k+1)=(marks f).take k ++ [f (1000003*(1+7)+(k:Int))]:=by
 rw [Dc (by rw [oa]; exact h)];simp [marks]
theorem ahT(f:Int -> α)(d : α){k:Nat}(h:k<12):(marks f).getD k d=f (1000003*(1+7)+(k:Int)):=by
 rw [aY,bq (by rw [oa]; exact h)];simp [marks]
theorem ahU{l m:List α}{k:Nat}{d : α}(h:l.length<=k):(l++m).getD k d=m.getD (k - l.length) d:=by
 rw [aY,r6 h,<- aY]
theorem Ai{l m:List α}{k:Nat}{d : α}(h:k<l.length):(l++m).getD k d=l.getD k d:=by
 rw [aY,r7 h,<- aY]
theorem Fo(f : α -> β){l:List α}{k:Nat}(d : α)(d' : β)(h:k<l.length):(l.map f).getD k d'=f (l.getD k d):=by
 exact ahV
theorem Wm{l:List α}{k:Nat}(d : α)(h:k<l.length):l.take (k+1)=l.take k ++ [l.getD k d]:=by
 rw [YH,bq h,aY,bq h];rfl
def xc:aC:=bE 77 kI kI (fun k i=>(0<=k ()/\k ()<=1000000)/\0<=i ()/\i ()<=1000000) (fun k i => .int .i64 fun _=>1000003*(k ()+7)+i ())
theorem yq:aE Tryz.prog xc:=by
 refine bD [] trivial Tryz.func77 (by kernel_rfl) fun ah res h hp => ?_;obtain⟨(k:Int),(i:Int),rfl,rfl⟩:=bG h;clear h;obtain⟨⟨h1,h2⟩,h3,h4⟩:(0<=k/\k<=1000000)/\0<=i/\i<=1000000:=hp;refine⟨[],?_⟩
 conv=>arg 1; cbv
 simp (maxSteps:=4000000) only [ay];simp only [aP]
 and_intros<;>first|trivial|omega|rfl
def Aj(t:Tc)(T p r:Nat)(l m:List t.el):Lp where
 X:=Nat
 ov k := [(r,.int .i64 fun _=>(k:Int)),(3,.own p)]
 oe k := [(p,.row true t T fun _=>l++m.take k)]
 I k:=k<=12
 μ k _:=12 - k
 x0:=0
 nx:=some fun k=>k+1
def Wn(t:Tc)(T p:Nat)(l:List t.el):Lp where
 X:=Nat
 ov k := [(4,.int .i64 fun _=>(k:Int)),(3,.own p)]
 oe k := [(p,.row true t T fun _=>l.take k)]
 I k:=k<=l.length
 μ k _:=l.length - k
 x0:=0
 nx:=some fun k=>k+1
def ayU(b:Unit->m7):List AV:=bf true .dO b
def ayV(b:Unit->aw):List AV:=bf true .cu b
def xd(k:Int):Int:=k
def yr(k:Int):m7:=⟨0,k,0,0,0⟩
def yu(k:Int):aw:=⟨k,0,0,0,0⟩
def Ak(k:Int):aL:=⟨k,jF,0,false,0,0,0,0,false⟩
def Al(k:Int):aA:=⟨k,0,0,0⟩
def ayW(k:Int):dM:=⟨k,0,false,0,0,0,0,0,[],0,0,0⟩
def Am(k:Int):su:=⟨k,0,false,0,0,0,0,0,[],0,0,0,0⟩
def pP(c:dM):su:=⟨c.fI,c.row,c.mv,c.dC,c.mZ,c.uA,c.uB,c.uC,c.cf++marks xd,c.cf.length,c.x,c.y,c.z⟩
def ayX(k:Int):gN:=⟨k,[]⟩
def An(k:Int):sv:=⟨k,[],0⟩
def pQ(c:gN):sv:=⟨c.fI,c.rows++marks xd,c.rows.length⟩
def ayY(k:Int):dN:=⟨k,0,0,0,0,[]⟩
def Ao(k:Int):sx:=⟨k,0,0,0,0,[],0⟩
def pR(c:dN):sx:=⟨c.aI,c.x,c.y,c.z,c.uD,c.steps++marks xd,c.steps.length⟩
def Wo:aC:=bE 133 kI kI (fun k i=>(0<=k ()/\k ()<=1000000)/\0<=i ()/\i ()<=1000000) (fun k i => .agg (ayU fun _=>yr (1000003*(k ()+7)+i ())))
theorem ahW:aE Tryz.prog Wo:=by
 refine bD [xc] ⟨yq,trivial⟩ Tryz.func133 (by kernel_rfl) fun ah res h hp => ?_;obtain⟨(k:Int),(i:Int),rfl,rfl⟩:=bG h;clear h;have hk:(0<=k/\k<=1000000)/\0<=i/\i<=1000000:=hp;refine⟨[],?_⟩;refine fm ?_
 exact CT
def Wp:aC:=bE 91 kI kI (fun k i=>(0<=k ()/\k ()<=1000000)/\0<=i ()/\i ()<=1000000) (fun k i => .agg (ayV fun _=>yu (1000003*(k ()+7)+i ())))
theorem ahX:aE Tryz.prog Wp:=by
 refine bD [xc] ⟨yq,trivial⟩ Tryz.func91 (by kernel_rfl) fun ah res h hp => ?_;obtain⟨(k:Int),(i:Int),rfl,rfl⟩:=bG h;clear h;have hk:(0<=k/\k<=1000000)/\0<=i/\i<=1000000:=hp;refine⟨[],?_⟩;refine fm ?_
 exact CT
def Wq:aC:=bE 75 kI kI (fun k i=>(0<=k ()/\k ()<=1000000)/\0<=i ()/\i ()<=1000000) (fun k i => .agg (Cg fun _=>Ak (1000003*(k ()+7)+i ())))
theorem ahY:aE Tryz.prog Wq:=by
 refine bD [xc] ⟨yq,trivial⟩ Tryz.func75 (by kernel_rfl) fun ah res h hp => ?_;obtain⟨(k:Int),(i:Int),rfl,rfl⟩:=bG h;clear h;have hk:(0<=k/\k<=1000000)/\0<=i/\i<=1000000:=hp;refine⟨[],?_⟩;refine fm ?_
 exact CT
def Wr:aC:=bE 76 kI kI (fun k i=>(0<=k ()/\k ()<=1000000)/\0<=i ()/\i ()<=1000000) (fun k i => .agg (Ud fun _=>Al (1000003*(k ()+7)+i ())))
theorem ahZ:aE Tryz.prog Wr:=by
 refine bD [xc] ⟨yq,trivial⟩ Tryz.func76 (by kernel_rfl) fun ah res h hp => ?_;obtain⟨(k:Int),(i:Int),rfl,rfl⟩:=bG h;clear h;have hk:(0<=k/\k<=1000000)/\0<=i/\i<=1000000:=hp;refine⟨[],?_⟩;refine fm ?_
 exact CT
def Ws:aC:=bE 130 kI kI (fun k i=>(0<=k ()/\k ()<=1000000)/\0<=i ()/\i ()<=1000000) (fun k i => .agg (bf true .ar fun _=>ayW (1000003*(k ()+7)+i ())))
theorem ah0:aE Tryz.prog Ws:=by
 refine bD [xc] ⟨yq,trivial⟩ Tryz.func130 (by kernel_rfl) fun ah res h hp => ?_;obtain⟨(k:Int),(i:Int),rfl,rfl⟩:=bG h;clear h;have hk:(0<=k/\k<=1000000)/\0<=i/\i<=1000000:=hp;refine⟨[],?_⟩;refine fm ?_
 exact CT
def Wu:aC:=bE 132 kI kI (fun k i=>(0<=k ()/\k ()<=1000000)/\0<=i ()/\i ()<=1000000) (fun k i => .agg (bf true .cD fun _=>ayX (1000003*(k ()+7)+i ())))
theorem ah1:aE Tryz.prog Wu:=by
 refine bD [xc] ⟨yq,trivial⟩ Tryz.func132 (by kernel_rfl) fun ah res h hp => ?_;obtain⟨(k:Int),(i:Int),rfl,rfl⟩:=bG h;clear h;have hk:(0<=k/\k<=1000000)/\0<=i/\i<=1000000:=hp;refine⟨[],?_⟩;refine fm ?_
 exact CT
def Wv:aC:=bE 135 kI kI (fun k i=>(0<=k ()/\k ()<=1000000)/\0<=i ()/\i ()<=1000000) (fun k i => .agg (bf true .dW fun _=>ayY (1000003*(k ()+7)+i ())))
theorem ah2:aE Tryz.prog Wv:=by
 refine bD [xc] ⟨yq,trivial⟩ Tryz.func135 (by kernel_rfl) fun ah res h hp => ?_;obtain⟨(k:Int),(i:Int),rfl,rfl⟩:=bG h;clear h;have hk:(0<=k/\k<=1000000)/\0<=i/\i<=1000000:=hp;refine⟨[],?_⟩;refine fm ?_
 exact CT
def Jr:aC:=cL 28 gi (fun l=>(l ()).length<=17592186043904) (fun l => .wide true .int (fun _=>l ()++marks xd) fun _=>(l ()).length)
theorem OE:aE Tryz.prog Jr:=by
 refine bZ { fz := [(7,[0])] } [xc] ⟨yq,trivial⟩ [] trivial Tryz.func28 (by kernel_rfl) fun ah res h hp => ?_;obtain⟨(l:List Int),rfl,rfl⟩:=cS h;clear h;have hl:l.length<=17592186043904:=hp;refine bk (marks xd) fun M hM => ?_;have lf:M.length=12:=by rw [<- hM,oa]
 clear hp;refine⟨[(4,Aj .int 3 0 4 l M)],?_⟩
 conv=>arg 1; cbv
 simp only [tI,u4,oQ,fL,hM];refine⟨?_,?_,?_,?_,fun (k:Nat) hk => ?_⟩
 . simp only [aP]; omega
 . exact⟨oo,by simp; omega⟩
 . simp; omega
 . exact Js
 have bM:k<=12:=hk;refine fm ?_;refine⟨fun g => ?_,fun g => ?_⟩
 . have bm:k<12:=oo
   have rN:l++M.take k ++ [xd (1000003*(1+7)+(k:Int))]=l++M.take (k+1):=by rw [<- hM,Ah _ bm,fl]
   exact Ap
 . exact Jt
def ah3:aC:=cL 73 NF (fun l=>(l ()).length<=1000000) (fun l => .wide true .dO (fun _=>l ()++marks yr) fun _=>(l ()).length)
theorem ayZ:aE Tryz.prog ah3:=by
 refine bZ { fz := [(7,[0])] } [Wo] ⟨ahW,trivial⟩ [] trivial Tryz.func73 (by kernel_rfl) fun ah res h hp => ?_;obtain⟨(l:List m7),rfl,rfl⟩:=cS h;clear h;have hl:l.length<=1000000:=hp;refine bk (marks yr) fun M hM => ?_;have lf:M.length=12:=by rw [<- hM,oa]
 clear hp;refine⟨[(4,Aj .dO 234 0 4 l M)],?_⟩
 conv=>arg 1; cbv
 simp only [tI,u4,oQ,fL,hM];refine⟨?_,?_,?_,?_,fun (k:Nat) hk => ?_⟩
 . simp only [aP]; omega
 . exact⟨oo,by simp; omega⟩
 . simp; omega
 . exact Js
 have bM:k<=12:=hk;refine fm ?_;refine⟨fun g => ?_,fun g => ?_⟩
 . have bm:k<12:=oo
   have rN:l++M.take k ++ [yr (1000003*(1+7)+(k:Int))]=l++M.take (k+1):=by rw [<- hM,Ah _ bm,fl]
   exact Ap
 . exact Jt
def ah4:aC:=cL 38 qv (fun l=>(l ()).length<=1000000) (fun l => .wide true .cu (fun _=>l ()++marks yu) fun _=>(l ()).length)
theorem ay0:aE Tryz.prog ah4:=by
 refine bZ { fz := [(7,[0])] } [Wp] ⟨ahX,trivial⟩ [] trivial Tryz.func38 (by kernel_rfl) fun ah res h hp => ?_;obtain⟨(l:List aw),rfl,rfl⟩:=cS h;clear h;have hl:l.length<=1000000:=hp;refine bk (marks yu) fun M hM => ?_;have lf:M.length=12:=by rw [<- hM,oa]
 clear hp;refine⟨[(4,Aj .cu 45 0 4 l M)],?_⟩
 conv=>arg 1; cbv
 simp only [tI,u4,oQ,fL,hM];refine⟨?_,?_,?_,?_,fun (k:Nat) hk => ?_⟩
 . simp only [aP]; omega
 . exact⟨oo,by simp; omega⟩
 . simp; omega
 . exact Js
 have bM:k<=12:=hk;refine fm ?_;refine⟨fun g => ?_,fun g => ?_⟩
 . have bm:k<12:=oo
   have rN:l++M.take k ++ [yu (1000003*(1+7)+(k:Int))]=l++M.take (k+1):=by rw [<- hM,Ah _ bm,fl]
   exact Ap
 . exact Jt
def ah5:aC:=cL 26 jc (fun l=>(l ()).length<=1000000) (fun l => .wide true .box (fun _=>l ()++marks Ak) fun _=>(l ()).length)
theorem ay1:aE Tryz.prog ah5:=by
 refine bZ { fz := [(7,[0])] } [Wq] ⟨ahY,trivial⟩ [] trivial Tryz.func26 (by kernel_rfl) fun ah res h hp => ?_;obtain⟨(l:List aL),rfl,rfl⟩:=cS h;clear h;have hl:l.length<=1000000:=hp;refine bk (marks Ak) fun M hM => ?_;have lf:M.length=12:=by rw [<- hM,oa]
 clear hp;refine⟨[(4,Aj .box 141 0 4 l M)],?_⟩
 conv=>arg 1; cbv
 simp only [tI,u4,oQ,fL,hM];refine⟨?_,?_,?_,?_,fun (k:Nat) hk => ?_⟩
 . simp only [aP]; omega
 . exact⟨oo,by simp; omega⟩
 . simp; omega
 . exact Js
 have bM:k<=12:=hk;refine fm ?_;refine⟨fun g => ?_,fun g => ?_⟩
 . have bm:k<12:=oo
   have rN:l++M.take k ++ [Ak (1000003*(1+7)+(k:Int))]=l++M.take (k+1):=by rw [<- hM,Ah _ bm,fl]
   exact Ap
 . exact Jt
def ah6:aC:=cL 27 lL (fun l=>(l ()).length<=1000000) (fun l => .wide true .ai (fun _=>l ()++marks Al) fun _=>(l ()).length)
theorem ay2:aE Tryz.prog ah6:=by
 refine bZ { fz := [(7,[0])] } [Wr] ⟨ahZ,trivial⟩ [] trivial Tryz.func27 (by kernel_rfl) fun ah res h hp => ?_;obtain⟨(l:List aA),rfl,rfl⟩:=cS h;clear h;have hl:l.length<=1000000:=hp;refine bk (marks Al) fun M hM => ?_;have lf:M.length=12:=by rw [<- hM,oa]
 clear hp;refine⟨[(4,Aj .ai 125 0 4 l M)],?_⟩
 conv=>arg 1; cbv
 simp only [tI,u4,oQ,fL,hM];refine⟨?_,?_,?_,?_,fun (k:Nat) hk => ?_⟩
 . simp only [aP]; omega
 . exact⟨oo,by simp; omega⟩
 . simp; omega
 . exact Js
 have bM:k<=12:=hk;refine fm ?_;refine⟨fun g => ?_,fun g => ?_⟩
 . have bm:k<12:=oo
   have rN:l++M.take k ++ [Al (1000003*(1+7)+(k:Int))]=l++M.take (k+1):=by rw [<- hM,Ah _ bm,fl]
   exact Ap
 . exact Jt
def ah7:aC:=cL 129 Ck (fun c=>(c ()).cf.length<=17592186043904) (fun c => .agg (bf true .kK fun _=>pP (c ())))
theorem ay3:aE Tryz.prog ah7:=by
 refine bD [Jr] ⟨OE,trivial⟩ Tryz.func129 (by kernel_rfl) fun ah res h hp => ?_;obtain⟨(c:dM),rfl,rfl⟩:=cS h;clear h;have hl:c.cf.length<=17592186043904:=hp;refine⟨[],?_⟩;refine fm ?_
 and_intros<;>first|exact hl|trivial|rfl
def ah8:aC:=cL 71 NB (fun l=>(l ()).length<=1000000/\∀ c∈l (),c.cf.length<=17592186043904) (fun l => .wide true .kK (fun _=>(l ()).map pP++marks Am) fun _=>(l ()).length)
theorem ay4:aE Tryz.prog ah8:=by
 refine bZ { fz := [(11,[0])],tc := [(127,.kK)] } [ah7,Ws] ⟨ay3,ah0,trivial⟩ [] trivial Tryz.func71 (by kernel_rfl) fun ah res h hp => ?_;obtain⟨(l:List dM),rfl,rfl⟩:=cS h;clear h;have fA:l.length<=1000000/\∀ c∈l,c.cf.length<=17592186043904:=hp;have hl:=fA.1;have hf:=fA.2;refine bk (marks Am) fun M hM => ?_;refine bk (l.map pP) fun L hL => ?_;have lf:M.length=12:=by rw [<- hM,oa]
 have tM:L.length=l.length:=by rw [<- hL,di]
 clear hp;refine⟨[(3,Wn .kK 127 0 L),(8,Aj .kK 127 0 6 L M)],?_⟩
 conv=>arg 1; cbv
 simp only [tI,u4,oQ,fL,hM,hL];refine⟨?_,?_,?_,fun (k:Nat) hk => ?_⟩
 . simp only [aP]; omega
 . exact⟨oo,by simp; omega⟩
 . exact Ww
 have bM:k<=L.length:=hk;refine fm ?_;refine⟨fun g => ?_,fun g => ?_⟩
 . have af:k<l.length:=oo
   have rN:L.take k ++ [pP (l.getD k Tc.ar.aa)]=L.take (k+1):=by rw [Wm (pP Tc.ar.aa) (show k<L.length from oo),<- hL,Fo pP Tc.ar.aa _ af]
   refine⟨⟨oo,oo⟩,hf _ (eJ Tc.ar.aa af),?_,ii,⟨oo,oo⟩,oo,rN⟩;exact Wx
 have im:L.take k=L:=ez oo;refine⟨⟨bw _,rfl,by rw [im]; simp⟩,fun (j:Nat) hj => ?_⟩;have p7:j<=12:=hj;refine fm ?_;refine⟨fun g => ?_,fun g => ?_⟩
 . have gI:j<12:=oo
   have rN:L++M.take j ++ [Am (1000003*(1+7)+(j:Int))]=L++M.take (j+1):=by rw [<- hM,Ah _ gI,fl]
   exact Ap
 . exact Wy
def ah9:aC:=cL 131 NN (fun c=>(c ()).rows.length<=17592186043904) (fun c => .agg (bf true .kL fun _=>pQ (c ())))
theorem ay5:aE Tryz.prog ah9:=by
 refine bD [Jr] ⟨OE,trivial⟩ Tryz.func131 (by kernel_rfl) fun ah res h hp => ?_;obtain⟨(c:gN),rfl,rfl⟩:=cS h;clear h;have hl:c.rows.length<=17592186043904:=hp;refine⟨[],?_⟩;refine fm ?_
 and_intros<;>first|exact hl|trivial|rfl
def aia:aC:=cL 72 NC (fun l=>(l ()).length<=1000000/\∀ c∈l (),c.rows.length<=17592186043904) (fun l => .wide true .kL (fun _=>(l ()).map pQ++marks An) fun _=>(l ()).length)
theorem ay6:aE Tryz.prog aia:=by
 refine bZ { fz := [(11,[0])],tc := [(167,.kL)] } [ah9,Wu] ⟨ay5,ah1,trivial⟩ [] trivial Tryz.func72 (by kernel_rfl) fun ah res h hp => ?_;obtain⟨(l:List gN),rfl,rfl⟩:=cS h;clear h;have fA:l.length<=1000000/\∀ c∈l,c.rows.length<=17592186043904:=hp;have hl:=fA.1;have hf:=fA.2;refine bk (marks An) fun M hM => ?_;refine bk (l.map pQ) fun L hL => ?_;have lf:M.length=12:=by rw [<- hM,oa]
 have tM:L.length=l.length:=by rw [<- hL,di]
 clear hp;refine⟨[(3,Wn .kL 167 0 L),(8,Aj .kL 167 0 6 L M)],?_⟩
 conv=>arg 1; cbv
 simp only [tI,u4,oQ,fL,hM,hL];refine⟨?_,?_,?_,fun (k:Nat) hk => ?_⟩
 . simp only [aP]; omega
 . exact⟨oo,by simp; omega⟩
 . exact Ww
 have bM:k<=L.length:=hk;refine fm ?_;refine⟨fun g => ?_,fun g => ?_⟩
 . have af:k<l.length:=oo
   have rN:L.take k ++ [pQ (l.getD k Tc.cD.aa)]=L.take (k+1):=by rw [Wm (pQ Tc.cD.aa) (show k<L.length from oo),<- hL,Fo pQ Tc.cD.aa _ af]
   refine⟨⟨oo,oo⟩,hf _ (eJ Tc.cD.aa af),?_,ii,⟨oo,oo⟩,oo,rN⟩;exact Wx
 have im:L.take k=L:=ez oo;refine⟨⟨bw _,rfl,by rw [im]; simp⟩,fun (j:Nat) hj => ?_⟩;have p7:j<=12:=hj;refine fm ?_;refine⟨fun g => ?_,fun g => ?_⟩
 . have gI:j<12:=oo
   have rN:L++M.take j ++ [An (1000003*(1+7)+(j:Int))]=L++M.take (j+1):=by rw [<- hM,Ah _ gI,fl]
   exact Ap
 . exact Wy
def aib:aC:=cL 134 EJ (fun c=>(c ()).steps.length<=17592186043904) (fun c => .agg (bf true .kM fun _=>pR (c ())))
theorem ay7:aE Tryz.prog aib:=by
 refine bD [Jr] ⟨OE,trivial⟩ Tryz.func134 (by kernel_rfl) fun ah res h hp => ?_;obtain⟨(c:dN),rfl,rfl⟩:=cS h;clear h;have hl:c.steps.length<=17592186043904:=hp;refine⟨[],?_⟩;refine fm ?_
 and_intros<;>first|exact hl|trivial|rfl
def aic:aC:=cL 74 tJ (fun l=>(l ()).length<=1000000/\∀ c∈l (),c.steps.length<=17592186043904) (fun l => .wide true .kM (fun _=>(l ()).map pR++marks Ao) fun _=>(l ()).length)
theorem ay8:aE Tryz.prog aic:=by
 refine bZ { fz := [(11,[0])],tc := [(121,.kM)] } [aib,Wv] ⟨ay7,ah2,trivial⟩ [] trivial Tryz.func74 (by kernel_rfl) fun ah res h hp => ?_;obtain⟨(l:List dN),rfl,rfl⟩:=cS h;clear h;have fA:l.length<=1000000/\∀ c∈l,c.steps.length<=17592186043904:=hp;have hl:=fA.1;have hf:=fA.2;refine bk (marks Ao) fun M hM => ?_;refine bk (l.map pR) fun L hL => ?_;have lf:M.length=12:=by rw [<- hM,oa]
 have tM:L.length=l.length:=by rw [<- hL,di]
 clear hp;refine⟨[(3,Wn .kM 121 0 L),(8,Aj .kM 121 0 6 L M)],?_⟩
 conv=>arg 1; cbv
 simp only [tI,u4,oQ,fL,hM,hL];refine⟨?_,?_,?_,fun (k:Nat) hk => ?_⟩
 . simp only [aP]; omega
 . exact⟨oo,by simp; omega⟩
 . exact Ww
 have bM:k<=L.length:=hk;refine fm ?_;refine⟨fun g => ?_,fun g => ?_⟩
 . have af:k<l.length:=oo
   have rN:L.take k ++ [pR (l.getD k Tc.dW.aa)]=L.take (k+1):=by rw [Wm (pR Tc.dW.aa) (show k<L.length from oo),<- hL,Fo pR Tc.dW.aa _ af]
   refine⟨⟨oo,oo⟩,hf _ (eJ Tc.dW.aa af),?_,ii,⟨oo,oo⟩,oo,rN⟩;exact Wx
 have im:L.take k=L:=ez oo;refine⟨⟨bw _,rfl,by rw [im]; simp⟩,fun (j:Nat) hj => ?_⟩;have p7:j<=12:=hj;refine fm ?_;refine⟨fun g => ?_,fun g => ?_⟩
 . have gI:j<12:=oo
   have rN:L++M.take j ++ [Ao (1000003*(1+7)+(j:Int))]=L++M.take (j+1):=by rw [<- hM,Ah _ gI,fl]
   exact Ap
 . exact Wy
def Ju:aC:=bE 37 gi gi (fun a b=>a ()=b ()/\(a ()).length<=17592186043904) (fun _ _ => .aV true)
theorem OF:aE Tryz.prog Ju:=by
 refine bD [] trivial Tryz.func37 (by kernel_rfl) fun ah res h hp => ?_;obtain⟨(a:List Int),(b:List Int),rfl,rfl⟩:=bG h;clear h;have bC:a=b/\a.length<=17592186043904:=hp;clear hp;obtain⟨rfl,hl⟩:=bC;refine⟨[(4,jP 5 a fun _=>True)],?_⟩
 exact Wz
def aid:aC:=bE 142 NF NF (fun a b=>a ()=b ()/\(a ()).length<=1000000) (fun _ _ => .aV true)
theorem ay9:aE Tryz.prog aid:=by
 refine bD [] trivial Tryz.func142 (by kernel_rfl) fun ah res h hp => ?_;obtain⟨(a:List m7),(b:List m7),rfl,rfl⟩:=bG h;clear h;have bC:a=b/\a.length<=1000000:=hp;clear hp;obtain⟨rfl,hl⟩:=bC;refine⟨[(4,jP 5 a fun _=>True)],?_⟩
 exact Wz
def aie:aC:=bE 143 qv qv (fun a b=>a ()=b ()/\(a ()).length<=1000000) (fun _ _ => .aV true)
theorem aza:aE Tryz.prog aie:=by
 refine bD [] trivial Tryz.func143 (by kernel_rfl) fun ah res h hp => ?_;obtain⟨(a:List aw),(b:List aw),rfl,rfl⟩:=bG h;clear h;have bC:a=b/\a.length<=1000000:=hp;clear hp;obtain⟨rfl,hl⟩:=bC;refine⟨[(4,jP 5 a fun _=>True)],?_⟩
 exact Wz
def OG:aC:=bE 146 Ck Ck (fun a b=>a ()=b ()/\(a ()).cf.length<=17592186043904) (fun _ _ => .aV true)
theorem WA:aE Tryz.prog OG:=by
 refine bD [Ju] ⟨OF,trivial⟩ Tryz.func146 (by kernel_rfl) fun ah res h hp => ?_;obtain⟨(a:dM),(b:dM),rfl,rfl⟩:=bG h;clear h;have bC:a=b/\a.cf.length<=17592186043904:=hp;clear hp;obtain⟨rfl,hl⟩:=bC;refine⟨[],?_⟩
 exact WB
def aif:aC:=bE 140 NB NB (fun a b=>a ()=b ()/\(a ()).length<=1000000/\∀ c∈a (),c.cf.length<=17592186043904) (fun _ _ => .aV true)
theorem azb:aE Tryz.prog aif:=by
 refine bD [OG] ⟨WA,trivial⟩ Tryz.func140 (by kernel_rfl) fun ah res h hp => ?_;obtain⟨(a:List dM),(b:List dM),rfl,rfl⟩:=bG h;clear h;have bC:a=b/\a.length<=1000000/\∀ c∈a,c.cf.length<=17592186043904:=hp;clear hp;obtain⟨rfl,hl,hf⟩:=bC;refine⟨[(4,jP 5 a fun _=>True)],?_⟩
 conv=>arg 1; cbv
 simp (maxSteps:=4000000) only [ay,aJ,aH,aO];refine⟨fun h=>absurd h (by simp),fun _=>⟨⟨⟨bw _,fun _ _=>trivial⟩,rfl⟩,fun (k:Nat) hk => ?_⟩⟩;have bu:k<=a.length/\∀ j,j<k->True:=hk;have bM:=bu.1;have _:=bu.2
 conv=>arg 1; cbv
 simp (maxSteps:=4000000) only [ay,aJ,aH,aO];exact⟨fun g=>⟨⟨oo,oo⟩,⟨oo,oo⟩,hf _ (eJ Tc.ar.aa (show k<a.length from oo)),  ii,⟨⟨oo,fun _ _=>trivial⟩,oo⟩,oo⟩,fun _=>trivial⟩
def OH:aC:=bE 148 NN NN (fun a b=>a ()=b ()/\(a ()).rows.length<=17592186043904) (fun _ _ => .aV true)
theorem WC:aE Tryz.prog OH:=by
 refine bD [Ju] ⟨OF,trivial⟩ Tryz.func148 (by kernel_rfl) fun ah res h hp => ?_;obtain⟨(a:gN),(b:gN),rfl,rfl⟩:=bG h;clear h;have bC:a=b/\a.rows.length<=17592186043904:=hp;clear hp;obtain⟨rfl,hl⟩:=bC;refine⟨[],?_⟩
 exact WB
def aih:aC:=bE 141 NC NC (fun a b=>a ()=b ()/\(a ()).length<=1000000/\∀ c∈a (),c.rows.length<=17592186043904) (fun _ _ => .aV true)
theorem azc:aE Tryz.prog aih:=by
 refine bD [OH] ⟨WC,trivial⟩ Tryz.func141 (by kernel_rfl) fun ah res h hp => ?_;obtain⟨(a:List gN),(b:List gN),rfl,rfl⟩:=bG h;clear h;have bC:a=b/\a.length<=1000000/\∀ c∈a,c.rows.length<=17592186043904:=hp;clear hp;obtain⟨rfl,hl,hf⟩:=bC;refine⟨[(4,jP 5 a fun _=>True)],?_⟩
 conv=>arg 1; cbv
 simp (maxSteps:=4000000) only [ay,aJ,aH,aO];refine⟨fun h=>absurd h (by simp),fun _=>⟨⟨⟨bw _,fun _ _=>trivial⟩,rfl⟩,fun (k:Nat) hk => ?_⟩⟩;have bu:k<=a.length/\∀ j,j<k->True:=hk;have bM:=bu.1;have _:=bu.2
 conv=>arg 1; cbv
 simp (maxSteps:=4000000) only [ay,aJ,aH,aO];exact⟨fun g=>⟨⟨oo,oo⟩,⟨oo,oo⟩,hf _ (eJ Tc.cD.aa (show k<a.length from oo)),  ii,⟨⟨oo,fun _ _=>trivial⟩,oo⟩,oo⟩,fun _=>trivial⟩
def OI:aC:=bE 150 EJ EJ (fun a b=>a ()=b ()/\(a ()).steps.length<=17592186043904) (fun _ _ => .aV true)
theorem WD:aE Tryz.prog OI:=by
 refine bD [Ju] ⟨OF,trivial⟩ Tryz.func150 (by kernel_rfl) fun ah res h hp => ?_;obtain⟨(a:dN),(b:dN),rfl,rfl⟩:=bG h;clear h;have bC:a=b/\a.steps.length<=17592186043904:=hp;clear hp;obtain⟨rfl,hl⟩:=bC;refine⟨[],?_⟩
 exact WB
def aii:aC:=bE 144 tJ tJ (fun a b=>a ()=b ()/\(a ()).length<=1000000/\∀ c∈a (),c.steps.length<=17592186043904) (fun _ _ => .aV true)
theorem azd:aE Tryz.prog aii:=by
 refine bD [OI] ⟨WD,trivial⟩ Tryz.func144 (by kernel_rfl) fun ah res h hp => ?_;obtain⟨(a:List dN),(b:List dN),rfl,rfl⟩:=bG h;clear h;have bC:a=b/\a.length<=1000000/\∀ c∈a,c.steps.length<=17592186043904:=hp;clear hp;obtain⟨rfl,hl,hf⟩:=bC;refine⟨[(4,jP 5 a fun _=>True)],?_⟩
 conv=>arg 1; cbv
 simp (maxSteps:=4000000) only [ay,aJ,aH,aO];refine⟨fun h=>absurd h (by simp),fun _=>⟨⟨⟨bw _,fun _ _=>trivial⟩,rfl⟩,fun (k:Nat) hk => ?_⟩⟩;have bu:k<=a.length/\∀ j,j<k->True:=hk;have bM:=bu.1;have _:=bu.2
 conv=>arg 1; cbv
 simp (maxSteps:=4000000) only [ay,aJ,aH,aO];exact⟨fun g=>⟨⟨oo,oo⟩,⟨oo,oo⟩,hf _ (eJ Tc.dW.aa (show k<a.length from oo)),  ii,⟨⟨oo,fun _ _=>trivial⟩,oo⟩,oo⟩,fun _=>trivial⟩
def Aq(s:bB):Prop:=(s.aF.length<=1000000/\∀ c∈s.aF,c.cf.length<=17592186043904)/\(s.bO.length<=1000000/\∀ c∈s.bO,c.rows.length<=17592186043904)/\s.rows.length<=1000000/\s.ee.length<=1000000/\s.fv.length<=1000000/\∀ c∈s.fv,c.steps.length<=17592186043904
def aij:aC:=bE 82 ko ko (fun a b=>a ()=b ()/\Aq (a ())) (fun _ _ => .aV true)
theorem aze:aE Tryz.prog aij:=by
 refine bD [aif,aih,aid,aie,aii] ⟨azb,azc,ay9,aza,azd,trivial⟩ Tryz.func82 (by kernel_rfl) fun ah res h hp => ?_;obtain⟨(a:bB),(b:bB),rfl,rfl⟩:=bG h;clear h;have bC:a=b/\Aq a:=hp;clear hp;obtain⟨rfl,h1,h2,h3,h4,h5⟩:=bC;refine⟨[],?_⟩
 conv=>arg 1; cbv
 simp (maxSteps:=4000000) only [ay,aJ,aH,aO];simp [h1.1,h2.1,h3,h4,h5.1];exact⟨h1.2,h2.2,h5.2⟩
def Fp(s:bB):Cl:=⟨s.aF.map pP++marks Am,s.aF.length,s.bO.map pQ++marks An,s.bO.length,s.lk,s.lx,s.ly,s.lz,s.rows++marks yr,s.rows.length,s.ee++marks yu,s.ee.length,s.fv.map pR++marks Ao,s.fv.length,s.m1,s.m2,s.m3,s.m4⟩
def aik:aC:=cL 25 ko (fun s=>Aq (s ())) (fun s => .agg (Uz true fun _=>Fp (s ())))
theorem azf:aE Tryz.prog aik:=by
 refine bD [ah8,aia,ah3,ah4,aic] ⟨ay4,ay6,ayZ,ay0,ay8,trivial⟩ Tryz.func25 (by kernel_rfl) fun ah res h hp => ?_;obtain⟨(s:bB),rfl,rfl⟩:=cS h;clear h;obtain⟨h1,h2,h3,h4,h5⟩:Aq s:=hp;refine⟨[],?_⟩
 conv=>arg 1; cbv
 simp (maxSteps:=4000000) only [ay,aJ,aH,aO];refine⟨h1,h2,h3,h4,h5,?_⟩
 and_intros<;>rfl
end Go.Proofs.YtamjbkaclhgffaaGreat
