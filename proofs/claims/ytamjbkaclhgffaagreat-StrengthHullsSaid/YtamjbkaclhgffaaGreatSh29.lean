/-
  tank by the abstract run: which tanks are right.
-/
import Derived.Test.YtamjbkaclhgffaaGreatSh28
set_option linter.all false
set_option maxRecDepth 100000
set_option maxHeartbeats 4000000
namespace Go.Proofs.YtamjbkaclhgffaaGreat
open Go.RowKit
variable{s:ByteArray}{b n x:Int}{ws:List Wt}{i:Nat}
def OQ:aC:=ns 111 kI kI kI (fun _ _ _=>True) (fun n low high => .bool fun _=>fU (n ()) (low ()) (high ()))
theorem WN:aE Tryz.prog OQ:=by
 refine bD [] trivial Tryz.func111 (by kernel_rfl) fun ah res h hp => ?_;obtain⟨(n:Int),(low:Int),(high:Int),rfl,rfl⟩:=oR h;clear h;refine⟨[],?_⟩
 exact no_implicit_lambda% V7
def Au(n:Int):Bool := !fU n (-500000) 500000
def aiI:aC:=cL 220 kI (fun _=>True) (fun n => .bool fun _=>Au (n ()))
theorem azM:aE Tryz.prog aiI:=by
 refine bD [OQ] ⟨WN,trivial⟩ Tryz.func220 (by kernel_rfl) fun ah res h hp => ?_;obtain⟨(n:Int),rfl,rfl⟩:=cS h;clear h;refine⟨[],?_⟩
 exact no_implicit_lambda% aiJ
def aiK:aC:=bE 249 gi (yc 220) (fun l _=>(l ()).length<=1000000000000) (fun l _ => .int .i64 fun _=>idx Au (l ()))
theorem azN:aE Tryz.prog aiK:=by
 refine bD [aiI] ⟨azM,trivial⟩ Tryz.func249 (by kernel_rfl) fun ah res h hp => ?_;obtain⟨(l:List Int),(f:Unit),rfl,rfl⟩:=bG h;clear h;have hl:l.length<=1000000000000:=hp;refine⟨[(2,jP 8 l fun j=>Au (l.getD j Tc.int.aa)=false)],?_⟩
 conv=>arg 1; cbv
 simp (maxSteps:=4000000) only [ay,aJ,aH,aO];refine⟨⟨⟨bw _,fun j hj=>absurd hj (jB _)⟩,rfl⟩,fun (k:Nat) hk => ?_⟩;have bu:k<=l.length/\∀ j,j<k->Au (l.getD j Tc.int.aa)=false:=hk;have bM:=bu.1;have bm:=bu.2
 exact no_implicit_lambda% Wb
def aiL:aC:=bE 219 gi (yc 220) (fun l _=>(l ()).length<=1000000000000) (fun l _ => .bool fun _=>(l ()).any Au)
theorem azO:aE Tryz.prog aiL:=by
 refine bD [aiK] ⟨azN,trivial⟩ Tryz.func219 (by kernel_rfl) fun ah res h hp => ?_;obtain⟨(l:List Int),(f:Unit),rfl,rfl⟩:=bG h;clear h;refine⟨[],?_⟩
 exact no_implicit_lambda% Ox
def vx(l:List Int)(k:Nat):Int:=if k=0 then -1 else l.getD (k - 1) 0
def o6(t:dN)(k:Nat):Bool:=decide (vx t.steps k<t.steps.getD k 0)&&decide (t.steps.getD k 0<=t.aI)
def o7(t:dN):Bool:=(fU t.aI 1 500000000&&(fU t.uD 0 1000000000000&&decide (t.steps.length<=64)))&&((List.range t.steps.length).all (o6 t) && ![t.x,t.y,t.z].any Au)
def azP(t:dN):Lp where
 X:=Nat
 ov k := [(25,.int .i64 fun _=>(k:Int)),(3,.int .i64 fun _=>vx t.steps k)]
 oe _ := []
 I k:=k<=t.steps.length/\∀ j,j<k->o6 t j=true
 μ k _:=t.steps.length - k
 x0:=0
 nx:=some fun k=>k+1
theorem aiM(t:dN):(List.range t.steps.length).all (o6 t)=true↔∀ j,j<t.steps.length->o6 t j=true:=by
 rw [fc];exact⟨fun h j hj=>h j (iV.2 hj),fun h j hj=>h j (iV.1 hj)⟩
def aiN:aC:=cL 180 EJ (fun _=>True) (fun t => .bool fun _=>o7 (t ()))
theorem azQ:aE Tryz.prog aiN:=by
 refine bZ { kp := [(0,[0]),(1,[1]),(2,[]),(3,[1]),(4,[1,3]),(5,[1,3,23,24,25]),(6,[1,3,23,24,25]),(7,[1,3,5,23,24,25]),(8,[]),(9,[1,5,23,24,25]),(10,[1,3,23,24,25]),(11,[1])],lt := [] } [OQ,aiL] ⟨WN,azO,trivial⟩ [] trivial Tryz.func180 (by kernel_rfl) fun ah res h hp => ?_;obtain⟨(t:dN),rfl,rfl⟩:=cS h;clear h;refine⟨[(5,azP t)],?_⟩
 conv=>arg 1; cbv
 simp (maxSteps:=4000000) only [ay,aJ,aH,aO];have hA:=aiM t;have hF:(o7 t=true->False)->false=o7 t:=fun h=>by
  cases hB:o7 t with
  | false=>rfl
  | true=>exact (h hB).elim
 have hT:o7 t=true->(fU t.aI 1 500000000=true/\fU t.uD 0 1000000000000=true/\t.steps.length<=64)/\(∀ j,j<t.steps.length->o6 t j=true) /\ [t.x,t.y,t.z].any Au=false:=fun h=>by
  unfold o7 at h;simp only [aD,aU,fG,hA] at h;exact h
 refine⟨fun c=>hF fun q=>(by rw [(hT q).1.1] at c; cases c),fun c1=>⟨fun c=>hF fun q=>(by rw [(hT q).1.2.1] at c; cases c),fun c2=>⟨fun c=>hF fun q=>(by have:=(hT q).1.2.2; omega),fun c3=>⟨⟨⟨bw _,fun j hj=>absurd hj (jB _)⟩,rfl,rfl⟩,fun (k:Nat) hk => ?_⟩⟩⟩⟩;have bu:k<=t.steps.length/\∀ j,j<k->o6 t j=true:=hk;have bM:=bu.1;have bm:=bu.2;clear hk
 conv=>arg 1; cbv
 simp (maxSteps:=4000000) only [ay,aJ,aH,aO];have dr:Tc.int.aa=0:=rfl;have hL:∀ q:Nat,vx t.steps (q+1)=t.steps.getD q 0:=fun q=>by unfold vx; rw [ax oo]; rfl
 simp only [dr,aP];have hS:k<t.steps.length->(o6 t k=true↔vx t.steps k<t.steps.getD k 0/\t.steps.getD k 0<=t.aI):=fun _=>by
  unfold o6;exact OR
 refine⟨fun g=>⟨⟨oo,oo⟩,fun c=>hF fun q => ?_,fun c=>⟨fun c4=>hF fun q => ?_,fun c4=>⟨oo,⟨⟨oo,tQ bm ((hS oo).2 ⟨oo,oo⟩)⟩,oo⟩,oo,(hL k).symm⟩⟩⟩,fun g => ?_⟩
 . have:=(hS oo).1 ((hT q).2.1 k oo);omega
 . have:=(hS oo).1 ((hT q).2.1 k oo);omega
 . have ch:(List.range t.steps.length).all (o6 t)=true:=hA.2 fun j hj=>bm j oo;have h1:fU t.aI 1 500000000=true:=by simpa using c1
   have h2:fU t.uD 0 1000000000000=true:=by simpa using c2
   unfold o7;rw [h1,h2,ch,cT (show t.steps.length<=64 from oo)];simp only [fe];exact⟨by simp only [dE,hZ]; omega,trivial⟩
def aiO:aC:=cL 179 EJ (fun _=>True) (fun t => .bool fun _ => !o7 (t ()))
theorem azR:aE Tryz.prog aiO:=by
 refine bD [aiN] ⟨azQ,trivial⟩ Tryz.func179 (by kernel_rfl) fun ah res h hp => ?_;obtain⟨(t:dN),rfl,rfl⟩:=cS h;clear h;refine⟨[],?_⟩
 exact no_implicit_lambda% aiJ
def CV(t:dN):Bool := !o7 t
def aiP:aC:=bE 218 tJ (yc 179) (fun l _=>(l ()).length<=1000000000000) (fun l _ => .int .i64 fun _=>idx CV (l ()))
theorem azS:aE Tryz.prog aiP:=by
 refine bD [aiO] ⟨azR,trivial⟩ Tryz.func218 (by kernel_rfl) fun ah res h hp => ?_;obtain⟨(l:List dN),(f:Unit),rfl,rfl⟩:=bG h;clear h;have hl:l.length<=1000000000000:=hp;refine⟨[(2,jP 8 l fun j=>CV (l.getD j Tc.dW.aa)=false)],?_⟩
 conv=>arg 1; cbv
 simp (maxSteps:=4000000) only [ay,aJ,aH,aO];refine⟨⟨⟨bw _,fun j hj=>absurd hj (jB _)⟩,rfl⟩,fun (k:Nat) hk => ?_⟩;have bu:k<=l.length/\∀ j,j<k->CV (l.getD j Tc.dW.aa)=false:=hk;have bM:=bu.1;have bm:=bu.2
 exact no_implicit_lambda% Wb
def aiQ:aC:=bE 178 tJ (yc 179) (fun l _=>(l ()).length<=1000000000000) (fun l _ => .bool fun _=>(l ()).any CV)
theorem azT:aE Tryz.prog aiQ:=by
 refine bD [aiP] ⟨azS,trivial⟩ Tryz.func178 (by kernel_rfl) fun ah res h hp => ?_;obtain⟨(l:List dN),(f:Unit),rfl,rfl⟩:=bG h;clear h;refine⟨[],?_⟩
 exact no_implicit_lambda% Ox
def rO(l:List dN):Bool:=decide (l.length<=30) && !l.any CV
def aiR:aC:=cL 110 tJ (fun l=>(l ()).length<=1000000000000) (fun l => .bool fun _=>rO (l ()))
theorem azU:aE Tryz.prog aiR:=by
 refine bD [aiQ] ⟨azT,trivial⟩ Tryz.func110 (by kernel_rfl) fun ah res h hp => ?_;obtain⟨(l:List dN),rfl,rfl⟩:=cS h;clear h;refine⟨[],?_⟩
 conv=>arg 1; cbv
 simp (maxSteps:=4000000) only [ay,aJ,aH,aO];have hl:l.length<=1000000000000:=hp;unfold rO;refine⟨fun g=>⟨hl,?_⟩,fun g => ?_⟩
 . rw [cT (show l.length<=30 from oo),fe]
 . rw [dB (show ¬ l.length<=30 from oo),yM]
theorem azV(t:dN):o7 t=true↔((1<=t.aI/\t.aI<=500000000)/\(-500000<=t.x/\t.x<=500000)/\(-500000<=t.y/\t.y<=500000)/\(-500000<=t.z/\t.z<=500000)/\(0<=t.uD/\t.uD<=1000000000000)/\t.steps.length<=64)/\∀ j,j<t.steps.length->o6 t j=true:=by
 have hA:=aiM t;unfold o7;simp only [aD,aU,fG,hA,List.any_cons,List.any_nil,iY,lU,Au,fU,iR,YT];constructor
 . rintro⟨⟨a,b,c⟩,d,e,f,g⟩
   exact⟨⟨a,e,f,g,b,c⟩,d⟩
 . rintro⟨⟨a,e,f,g,b,c⟩,d⟩
   exact⟨⟨a,b,c⟩,d,e,f,g⟩
theorem OS(l:List dN):rO l=true↔l.length<=30/\∀ j,j<l.length->o7 (l.getD j Tc.dW.aa)=true:=by
 unfold rO;rw [aD,aU,fG,AK];refine and_congr Iff.rfl ⟨fun h j hj => ?_,fun h x hx => ?_⟩
 . have:=h _ (eJ Tc.dW.aa hj);unfold CV at this;simpa using this
 . obtain⟨j,hj,rfl⟩:=qK hx;have:=h j hj;rw [aY,bq hj] at this;unfold CV;simpa using this
theorem aiS(t:dN):∀ k,k<t.steps.length->(∀ j,j<=k->o6 t j=true)->0<=t.steps.getD k 0
 | 0,_,h=>by
  have:=h 0 (aN _);unfold o6 vx at this;simp only [aD,aU,aG] at this;omega
 | k+1,h1,h=>by
  have ih:=aiS t k oo fun j hj=>h j oo;have:=h (k+1) (aN _);unfold o6 vx at this;rw [ax oo,pf] at this;simp only [aD,aU] at this;omega
def aiT:aC:=cL 138 tJ (fun l=>(l ()).length<=1000000000000) (fun l => .bool fun _=>rO (l ()))
theorem azW:aE Tryz.prog aiT:=by
 refine bZ { kp := [(0,[0]),(1,[0]),(2,[]),(3,[0]),(4,[0,3]),(5,[0,3]),(6,[0,3]),(7,[0,3,4]),(8,[]),(9,[0,3,4]),(10,[0,3,4,5]),(11,[0,3,4,5]),(12,[0,3,4,5]),(13,[]),(14,[])],lt := [(12,⟨[0,1,2,3,4,5,6,7,8,9,10,11,12,13,14,15,16,17,18,19,20,21,22,23,24,25,26,27,28,29,30,31,32,33],[0,1,2,3,4,5,6,7,8,9,10,11,12,13,14,15,16,17,18,19,20,21,22,23,24,25,26,27,28,29,30,31,32,33],[],[],[]⟩)] } [] trivial [] trivial Tryz.func138 (by kernel_rfl) fun ah res h hp => ?_;obtain⟨(l:List dN),rfl,rfl⟩:=cS h;clear h;have hl:l.length<=1000000000000:=hp;have hI:=OS l;have hF:(rO l=true->False)->false=rO l:=fun h=>by
  cases hB:rO l with
  | false=>rfl
  | true=>exact (h hB).elim
 refine⟨[(4,jP 3 l fun j=>o7 (l.getD j Tc.dW.aa)=true)],?_⟩
 conv=>arg 1; cbv
 simp (maxSteps:=4000000) only [ay,aJ,aH,aO];refine⟨fun g=>hF fun q=>by have:=(hI.1 q).1; omega,fun g0=>⟨⟨⟨bw _,fun j hj=>absurd hj (jB _)⟩,rfl⟩,fun (i:Nat) hi => ?_⟩⟩;have rP:i<=l.length/\∀ j,j<i->o7 (l.getD j Tc.dW.aa)=true:=hi;have uF:=rP.1;have mw:=rP.2;clear hi
 conv=>arg 1; cbv
 simp (maxSteps:=4000000) only [ay,aJ,aH,aO];refine⟨fun g => ?_,fun g => ?_⟩
 . have hB:rO l=true->o7 (l.getD i Tc.dW.aa)=true:=fun q=>(hI.1 q).2 i oo;have hN:o7 (l.getD i Tc.dW.aa)=true->∀ j,j<i+1->o7 (l.getD j Tc.dW.aa)=true:=fun h1=>tQ mw h1;generalize l.getD i Tc.dW.aa=t at *
   have hT:=azV t;refine⟨⟨oo,oo⟩,⟨fun c=>hF fun q=>(by have:=(hT.1 (hB q)).1; omega),fun a1=>⟨fun c=>hF fun q=>(by have:=(hT.1 (hB q)).1; omega),fun a2=>⟨fun c=>hF fun q=>(by have:=(hT.1 (hB q)).1; omega),fun a3=>⟨fun c=>hF fun q=>(by have:=(hT.1 (hB q)).1; omega),fun a4=>⟨fun c=>hF fun q=>(by have:=(hT.1 (hB q)).1; omega),fun a5=>⟨fun c=>hF fun q=>(by have:=(hT.1 (hB q)).1; omega),fun a6=>⟨fun c=>hF fun q=>(by have:=(hT.1 (hB q)).1; omega),fun a7=>⟨fun c=>hF fun q=>(by have:=(hT.1 (hB q)).1; omega),fun a8=>⟨fun c=>hF fun q=>(by have:=(hT.1 (hB q)).1; omega),fun a9=>⟨fun c=>hF fun q=>(by have:=(hT.1 (hB q)).1; omega),fun nc=>⟨fun c=>hF fun q=>(by have:=(hT.1 (hB q)).1; omega),fun nQ => ?_⟩⟩⟩⟩⟩⟩⟩⟩⟩⟩⟩⟩;refine⟨jP 5 t.steps fun j=>o6 t j=true,?_⟩
   conv=>arg 1; cbv
   simp (maxSteps:=4000000) only [ay,aJ,aH,aO];refine⟨⟨⟨bw _,fun j hj=>absurd hj (jB _)⟩,rfl⟩,fun (k:Nat) hk => ?_⟩;have bu:k<=t.steps.length/\∀ j,j<k->o6 t j=true:=hk;have bM:=bu.1;have bm:=bu.2;clear hk
   conv=>arg 1; cbv
   simp (maxSteps:=4000000) only [ay,aJ,aH,aO];have dr:Tc.int.aa=0:=rfl;simp only [dr];have hS:o6 t k=true↔vx t.steps k<t.steps.getD k 0/\t.steps.getD k 0<=t.aI:=by
    unfold o6;exact OR
   have hL0:¬ 0<(k:Int)->vx t.steps k = -1:=fun h=>aG oo;have Fq:0<(k:Int)->vx t.steps k=t.steps.getD (k - 1) 0:=fun h=>ax oo;refine⟨fun g1 => ?_,fun g1 => ?_⟩
   . have af:k<t.steps.length:=oo
     have hq:rO l=true->0<=t.steps.getD k 0/\vx t.steps k<t.steps.getD k 0/\t.steps.getD k 0<=t.aI:=fun q=>by
      have h1:=(hT.1 (hB q)).2;exact⟨aiS t k af fun j hj=>h1 j oo,hS.1 (h1 k af)⟩
     refine⟨⟨oo,oo⟩,fun c=>hF fun q=>(by have:=hq q; omega),fun c1=>⟨⟨oo,oo⟩,fun c=>hF fun q=>(by have:=hq q; omega),fun c2=>⟨fun h0=>⟨ii,⟨oo,oo⟩,⟨oo,oo⟩,fun c=>hF fun q=>(by have:=hq q; have:=Fq h0; omega),fun c3 => ?_⟩,fun h0 => ?_⟩⟩⟩
     . exact j5 (n:=t.steps.length) oo af bm (hS.2 ⟨by rw [Fq h0]; omega,oo⟩)
     . exact j5 (n:=t.steps.length) oo af bm (hS.2 ⟨by rw [hL0 h0]; omega,oo⟩)
   . exact⟨ii,⟨⟨oo,hN (hT.2 ⟨oo,fun j hj=>bm j oo⟩)⟩,oo⟩,oo⟩
 . have:=hI.2 ⟨oo,fun j hj=>mw j oo⟩;exact this.symm
def tY(l:List dN)(w:List Int)(i:Nat):Bool:=fU (w.getD i Tc.int.aa) 0 (l.getD i Tc.dW.aa).aI
def qz(l:List dN)(w:List Int):Bool:=rO l&&(decide (w.length=l.length)&&(List.range l.length).all (tY l w))
theorem Jw(l:List dN)(w:List Int):qz l w=true↔rO l=true/\w.length=l.length/\∀ i,i<l.length->tY l w i=true:=by
 unfold qz;simp only [aD,aU,fc,iV]
def aiU:aC:=bE 79 tJ gi (fun l _=>(l ()).length<=1000000000000) (fun l w => .bool fun _=>qz (l ()) (w ()))
theorem azY:aE Tryz.prog aiU:=by
 refine bZ { kp := [(0,[0,1]),(1,[0,1]),(2,[]),(3,[0,1]),(4,[0,1,5]),(5,[0,1,5]),(6,[0,1,5]),(7,[]),(8,[])],lt := [(6,⟨[0,1,2,3,4,5,6,7,8,9,10,11,12,13,14,15,16],[0,1,2,3,4,5,6,7,8,9,10,11,12,13,14,15,16],[],[],[]⟩)] } [aiT] ⟨azW,trivial⟩ [] trivial Tryz.func79 (by kernel_rfl) fun ah res h hp => ?_;obtain⟨(l:List dN),(w:List Int),rfl,rfl⟩:=bG h;clear h;have hl:l.length<=1000000000000:=hp;have hI:=Jw l w;have hF:(qz l w=true->False)->false=qz l w:=fun h=>by
  cases hB:qz l w with
  | false=>rfl
  | true=>exact (h hB).elim
 refine⟨[(4,jP 5 l fun j=>tY l w j=true)],?_⟩
 conv=>arg 1; cbv
 simp (maxSteps:=4000000) only [ay,aJ,aH,aO];refine⟨hl,fun c=>hF fun q=>(by rw [(hI.1 q).1] at c; cases c),fun c1=>⟨fun c=>hF fun q=>(by have:=(hI.1 q).2.1; simp at c; omega),fun c2=>⟨⟨⟨bw _,fun j hj=>absurd hj (jB _)⟩,rfl⟩,fun (i:Nat) hi => ?_⟩⟩⟩;have c4:l.length=w.length:=by simp at c2; omega
 have rP:i<=l.length/\∀ j,j<i->tY l w j=true:=hi;have uF:=rP.1;have mw:=rP.2;clear hi
 conv=>arg 1; cbv
 simp (maxSteps:=4000000) only [ay,aJ,aH,aO];have hS:tY l w i=true↔0<=w.getD i Tc.int.aa/\w.getD i Tc.int.aa<=(l.getD i Tc.dW.aa).aI:=by
  unfold tY fU;exact OR
 have hq:i<l.length->qz l w=true->0<=w.getD i Tc.int.aa/\w.getD i Tc.int.aa<=(l.getD i Tc.dW.aa).aI:=fun h q=>hS.1 ((hI.1 q).2.2 i h);have c3:rO l=true:=by simpa using c1
 refine⟨fun g=>⟨⟨oo,oo⟩,fun c=>hF fun q=>(by have:=hq oo q; omega),fun d1=>⟨⟨oo,oo⟩,⟨oo,oo⟩,fun c=>hF fun q=>(by have:=hq oo q; omega),fun d2 => ?_⟩⟩,fun g => ?_⟩
 . exact j5 hl oo mw (hS.2 ⟨oo,oo⟩)
 . exact (hI.2 ⟨c3,oo,fun j hj=>mw j oo⟩).symm
def aiV:aC:=bE 51 tJ gi (fun l w=>(l ()).length<=1000000000000/\(w ()).length<=1000000000000) (fun l w => .bool fun _=>qz (l ()) (w ()))
theorem azZ:aE Tryz.prog aiV:=by
 refine aeb {} [aiR,OQ,aiH] ⟨azU,WN,azL,trivial⟩ [] trivial [aiG] ⟨azK,trivial⟩ Tryz.func51 (by kernel_rfl) fun ah res h hp => ?_;obtain⟨(l:List dN),(w:List Int),rfl,rfl⟩:=bG h;clear h;have fA:l.length<=1000000000000/\w.length<=1000000000000:=hp;have hl:=fA.1;have hw:=fA.2;refine⟨[],?_⟩
 conv=>arg 1; cbv
 simp (maxSteps:=4000000) only [ay,aJ,aH,aO];have hI:=Jw l w;have hF:(qz l w=true->False)->false=qz l w:=fun h=>by
  cases hB:qz l w with
  | true=>exact (h hB).elim
  | false=>rfl
 refine⟨hl,fun c=>hF fun q=>(by rw [(hI.1 q).1] at c; cases c),fun c1=>⟨fun c=>hF fun q=>(by rw [cT (show (w.length:Int)=l.length by have:=(hI.1 q).2.1; omega)] at c; cases c),fun c2 => ?_⟩⟩;have Cz:w.length=l.length:=by
  have h:(w.length:Int)=l.length:=by simpa using c2
  omega
 have ht:rO l=true:=by simpa using c1
 refine⟨⟨fun _ => [(0,.box 4 [.aV false])],fun k=>∀ i,i<k->tY l w i=true⟩,?_⟩
 conv=>arg 1; cbv
 simp (maxSteps:=4000000) only [ay,aJ,aH,aO];refine⟨⟨⟨hl,oo⟩,fun i hi=>absurd hi (jB _)⟩,fun (k:Nat) hk => ?_⟩;have bu:(∀ i,i<k->tY l w i=true)/\k<=l.length:=hk;have bM:=bu.1;have bm:=bu.2;clear hk
 conv=>arg 1; cbv
 simp (maxSteps:=4000000) only [ay,aJ,aH,aO];refine⟨fun _ eV => ?_,fun _ eV => ?_⟩
 . have eV:k<l.length:=eV
   conv=>arg 1; cbv
   simp (maxSteps:=4000000) only [ay,aJ,aH,aO];refine⟨fun c=>hF fun q => ?_,fun c i hi => ?_⟩
   . have h:tY l w k=true:=(hI.1 q).2.2 k eV;unfold tY at h;rw [h] at c;cases c
   . rcases cv i k with h|h
     . exact bM i h
     . rw [show i=k from oo];unfold tY;simpa using c
 . have eV:k=l.length:=eV
   conv=>arg 1; cbv
   simp (maxSteps:=4000000) only [ay,aJ,aH,aO];exact (hI.2 ⟨ht,Cz,fun i hi=>bM i oo⟩).symm
def aiW:aC:=bE 81 jc kI (fun l _=>(l ()).length<=1000000000000) (fun l id => .int .i64 fun _=>idx (nB (id ())) (l ()))
theorem az0:aE Tryz.prog aiW:=by
 refine bD [] trivial Tryz.func81 (by kernel_rfl) fun ah res h hp => ?_;obtain⟨(l:List aL),(id:Int),rfl,rfl⟩:=bG h;clear h;have hl:l.length<=1000000000000:=hp;refine⟨[(2,jP 5 l fun j=>nB id (l.getD j Tc.box.aa)=false)],?_⟩
 conv=>arg 1; cbv
 simp (maxSteps:=4000000) only [ay,aJ,aH,aO];refine⟨⟨⟨bw _,fun j hj=>absurd hj (jB _)⟩,rfl⟩,fun (k:Nat) hk => ?_⟩;have bu:k<=l.length/\∀ j,j<k->nB id (l.getD j Tc.box.aa)=false:=hk;have bM:=bu.1;have bm:=bu.2
 conv=>arg 1; cbv
 simp (maxSteps:=4000000) only [ay,aJ,aH,aO];refine⟨fun g=>⟨⟨oo,oo⟩,fun c => ?_,fun c => ?_⟩,fun g => ?_⟩
 . exact (E7 bm oo (cT c)).symm
 . exact j5 hl oo bm (dB c)
 . exact (E8 bm oo).symm
theorem OT(h:n.natAbs<=9223372036854775807):(cr n).fits:=⟨by show n.natAbs<cA; unfold cA; omega,by show 1<cA; decide⟩
def ob(l:List aw)(i:Nat):ba:=(gM (cr (bH l i+bH l (i+1))) (cr 2)).1
def o8(l:List aw)(i:Nat):Int:=(l.getD i fF).iG
def eo:Wt:=⟨0,0⟩
def qA(l:List aw):Nat->Int
 | 0=>0
 | i+1=>qA l i+o8 l i
def vy(l:List aw):Nat->ba
 | 0=>cr 0
 | i+1=>(fW (vy l i) (mulL (cr (o8 l i)) (ob l i)).1).1
def sW(a:Int)(ws:List Wt):Nat->Int
 | 0=>a
 | i+1=>sW a ws i+(ws.getD i eo).aI
def xe(m:ba)(ws:List Wt):Nat->ba
 | 0=>m
 | i+1=>(fW (xe m ws i) (mulL (cr (ws.getD i eo).aI) (cr (ws.getD i eo).x)).1).1
def qB(l:List aw)(ws:List Wt):Int:=sW (qA l (l.length - 1)) ws ws.length
def mQ(l:List aw)(ws:List Wt):ba:=xe (vy l (l.length - 1)) ws ws.length
theorem OU(l:List aw):∀ i,(vy l i).fits
 | 0=>OT (by decide)
 | _+1=>DA _ _
theorem WO{m:ba}(ws:List Wt)(h:m.fits):∀ i,(xe m ws i).fits
 | 0=>h
 | _+1=>DA _ _
theorem getD_some{α:Type}{l:List α}(a : α)(h:i<l.length):l[i]? = some (l.getD i a):=by
 rw [aY,bq h];rfl
theorem OV{l:List aw}(aR:∀ f∈l,f.ok=true):∀ i,i<=l.length->0<=qA l i/\qA l i<=500000000*(i:Int)
 | 0,_=>by unfold qA; omega
 | i+1,h=>by
  have ih:=OV aR i oo;have h1:=(aw.mP (aR _ (gK (getD_some fF (show i<l.length from oo))))).2.1;unfold qA o8;omega
theorem OW{ws:List Wt}{a:Int}(aR:∀ x∈ws,0<=x.aI/\x.aI<=500000000):∀ i,i<=ws.length->a<=sW a ws i/\sW a ws i<=a+500000000*(i:Int)
 | 0,_=>by unfold sW; omega
 | i+1,h=>by
  have ih:=OW (a:=a) aR i oo;have h1:=aR _ (gK (getD_some eo (show i<ws.length from oo)));unfold sW;omega
def vz(l:List aw):Nat->Int
 | 0=>0
 | i+1=>vz l i+bH l i+bH l (i+1)
def o9(l:List aw)(i:Nat):Int:=((l.length - 1:Nat):Int)*(bH l i+bH l (i+1)) - vz l (l.length - 1)
def qC(l:List aw)(W:Int)(i:Nat):ba:=(gM (mulL (cr W) (cr (l.getD i fF).share)).1 (cr 10000)).1
def xf(l:List aw)(W:Int)(M:ba):Nat->ba
 | 0=>M
 | i+1=>(gG (xf l W M i) (mulL (qC l W i) (ob l i)).1).1
def xg(l:List aw):Nat->ba
 | 0=>cr 0
 | i+1=>(fW (xg l i) (mulL (cr (o9 l i)) (ob l i)).1).1
def kV(l:List aw)(W:Int)(M:ba):ba:=(gM (xf l W M (l.length - 1)) (xg l (l.length - 1))).1
def sX(l:List aw)(W:Int)(M:ba)(i:Nat):ba:=(fW (qC l W i) (mulL (kV l W M) (cr (o9 l i))).1).1
theorem az1{l:List aw}{W:Int}{M:ba}(h:M.fits):∀ i,(xf l W M i).fits
 | 0=>h
 | _+1=>KH _ _
theorem az2(l:List aw):∀ i,(xg l i).fits
 | 0=>OT (by decide)
 | _+1=>DA _ _
theorem OX{l:List aw}(aR:∀ f∈l,f.ok=true)(h:i<l.length) : -500000<=bH l i/\bH l i<=500000:=(aw.mP (aR _ (gK (getD_some fF h)))).1
theorem aiX{l:List aw}(aR:∀ f∈l,f.ok=true):∀ i,i+1<=l.length -> -1000000*(i:Int)<=vz l i/\vz l i<=1000000*(i:Int)
 | 0,_=>by unfold vz; omega
 | i+1,h=>by
  have ih:=aiX aR i oo;have h1:=OX aR (i:=i) oo;have h2:=OX aR (i:=i+1) oo;unfold vz;omega
def Av(l:List aw)(W:Int)(M:ba)(i:Nat):ba:=(gG (sX l W M i) (cr (o8 l i))).1
def xh(l:List aw)(W:Int)(M:ba)(j:Nat):Nat->ba
 | 0=>cr 0
 | t+1=>(fW (xh l W M j t) (Av l W M (j+t))).1
def xi(l:List aw)(W:Int)(M:ba)(j:Nat):Nat->ba
 | 0=>cr 0
 | t+1=>(gG (xi l W M j t) (mulL (Av l W M (j+t)) (gG (ob l (j+t)) (cr (bH l j))).1).1).1
def rQ(s:ba)(ws:List Wt)(xj:Int):Nat->ba
 | 0=>s
 | k+1=>if xj<=(ws.getD k eo).x then (gG (rQ s ws xj k) (cr (ws.getD k eo).aI)).1 else rQ s ws xj k
def rR(b:ba)(ws:List Wt)(xj:Int):Nat->ba
 | 0=>b
 | k+1=>if xj<=(ws.getD k eo).x then (fW (rR b ws xj k) (mulL (cr (ws.getD k eo).aI) (cr ((ws.getD k eo).x - xj))).1).1 else rR b ws xj k
def Jy(l:List aw)(ws:List Wt)(W:Int)(M:ba)(j:Nat):lO :=
 ⟨rQ (xh l W M j (l.length - 1 - j)) ws (bH l j) ws.length,rR (xi l W M j (l.length - 1 - j)) ws (bH l j) ws.length⟩
def qD(l:List aw)(x:Wt):Bool:=decide (x.x<bH l 0)||decide (bH l (l.length - 1)<=x.x)
def Jz(l:List aw)(ws:List Wt):List lO×Int:=if 500000000<qB l ws then ([],3) else ((List.range l.length).map (Jy l ws (qB l ws) (mQ l ws)),0)
def JA(l:List aw)(ws:List Wt):List lO×Int:=if ws.any (qD l) then ([],6) else Jz l ws
def JB(l:List aw)(ws:List Wt):List lO×Int:=if 3000<ws.length then ([],5) else JA l ws
def JC(l:List aw)(ws:List Wt):List lO×Int:=if ws.any lA then ([],2) else JB l ws
def Aw(l:List aw)(ws:List Wt):List lO×Int:=if !gq l then ([],2) else JC l ws
theorem aiY{l:List aw}(h:ws.any lA=true):JC l ws=([],2):=aG h
theorem aiZ{l:List aw}(h:ws.any lA=false):JC l ws=JB l ws:=ax (by rw [h]; simp)
theorem ai0{l:List aw}(h:3000<ws.length):JB l ws=([],5):=aG h
theorem ai1{l:List aw}(h:¬ 3000<ws.length):JB l ws=JA l ws:=ax h
theorem WQ{l:List aw}(h:ws.any (qD l)=true):JA l ws=([],6):=aG h
theorem ai2{l:List aw}(h:ws.any (qD l)=false):JA l ws=Jz l ws:=ax (by rw [h]; simp)
theorem ai3(l:List aw)(W:Int)(M:ba)(j:Nat):∀ t,(xh l W M j t).fits
 | 0=>OT (by decide)
 | _+1=>DA _ _
theorem ai4(l:List aw)(W:Int)(M:ba)(j:Nat):∀ t,(xi l W M j t).fits
 | 0=>OT (by decide)
 | _+1=>KH _ _
theorem ai5{s:ba}(h:s.fits)(ws:List Wt)(xj:Int):∀ k,(rQ s ws xj k).fits
 | 0=>h
 | k+1=>by
  unfold rQ;split
  . exact KH _ _
  . exact ai5 h ws xj k
theorem ai6{s:ba}(h:s.fits)(ws:List Wt)(xj:Int):∀ k,(rR s ws xj k).fits
 | 0=>h
 | k+1=>by
  unfold rR;split
  . exact DA _ _
  . exact ai6 h ws xj k
open Go.RowKit
def WR:aC:=ns 92 kI kI kI (fun _ _ _=>True) (fun n low high => .bool fun _=>fU (n ()) (low ()) (high ()))
theorem ai7:aE Tryz.prog WR:=by
 refine bD [] trivial Tryz.func92 (by kernel_rfl) fun ah res h hp => ?_;obtain⟨(n:Int),(low:Int),(high:Int),rfl,rfl⟩:=oR h;clear h;refine⟨[],?_⟩
 exact no_implicit_lambda% V7
def JD:aC:=cL 95 kI (fun a=>aP (a ())) (fun a => .agg (gp fun _=>cr (a ())))
theorem OY:aE Tryz.prog JD:=by
 refine bD [agr] ⟨awW,trivial⟩ Tryz.func95 (by kernel_rfl) fun ah res h hp => ?_;obtain⟨(a:Int),rfl,rfl⟩:=cS h;clear h;refine⟨[],?_⟩
 exact no_implicit_lambda% aiE
def OZ:aC:=bE 97 gn gn (fun f g=>eh (f ())/\eh (g ())) (fun f g => .agg (gp fun _=>(fW (aB (f ())) (aB (g ()))).1))
theorem WS:aE Tryz.prog OZ:=by
 refine bD [VN] ⟨agt,trivial⟩ Tryz.func97 (by kernel_rfl) fun ah res h hp => ?_;obtain⟨(f:bh),(g:bh),rfl,rfl⟩:=bG h;clear h;refine⟨[],?_⟩
 exact no_implicit_lambda% O0
def WT:aC:=bE 96 gn gn (fun f g=>eh (f ())/\eh (g ())) (fun f g => .agg (gp fun _=>(gG (aB (f ())) (aB (g ()))).1))
theorem ai8:aE Tryz.prog WT:=by
 refine bD [agu] ⟨aw1,trivial⟩ Tryz.func96 (by kernel_rfl) fun ah res h hp => ?_;obtain⟨(f:bh),(g:bh),rfl,rfl⟩:=bG h;clear h;refine⟨[],?_⟩
 exact no_implicit_lambda% O0
def O1:aC:=bE 98 gn gn (fun f g=>eh (f ())/\eh (g ())) (fun f g => .agg (gp fun _=>(mulL (aB (f ())) (aB (g ()))).1))
theorem WU:aE Tryz.prog O1:=by
 refine bD [agv] ⟨aw2,trivial⟩ Tryz.func98 (by kernel_rfl) fun ah res h hp => ?_;obtain⟨(f:bh),(g:bh),rfl,rfl⟩:=bG h;clear h;refine⟨[],?_⟩
 exact no_implicit_lambda% O0
def WV:aC:=bE 153 gn gn (fun f g=>eh (f ())/\eh (g ())) (fun f g => .agg (gp fun _=>(gM (aB (f ())) (aB (g ()))).1))
theorem ai9:aE Tryz.prog WV:=by
 refine bD [agw] ⟨aw3,trivial⟩ Tryz.func153 (by kernel_rfl) fun ah res h hp => ?_;obtain⟨(f:bh),(g:bh),rfl,rfl⟩:=bG h;clear h;refine⟨[],?_⟩
 exact no_implicit_lambda% O0
def O2:aC:=bE 99 qv kI (fun l i=>(∀ f∈l (),f.ok=true)/\0<=i ()/\i ()+1<((l ()).length:Int)/\(l ()).length<=1000) (fun l i => .agg (gp fun _=>ob (l ()) (i ()).toNat))
theorem WW:aE Tryz.prog O2:=by
 refine bZ { kp := [(0,[0,1]),(1,[0,1,4])],lt := [(1,⟨[0,1,2,3,4,5,6,7,8,9,10,11,12,13,14,15],[0,1,2,3,4,5,6,7,8,9,10,11,12,13,14],[15],[],[]⟩)] } [JD,WV] ⟨OY,ai9,trivial⟩ [] trivial Tryz.func99 (by kernel_rfl) fun ah res h hp => ?_;obtain⟨(l:List aw),(i:Int),rfl,rfl⟩:=bG h;clear h;have vg:(∀ f∈l,f.ok=true)/\0<=i/\i+1<(l.length:Int)/\l.length<=1000:=hp;have aR:=vg.1;have h0:=vg.2.1;have h1:=vg.2.2.1;have hl:=vg.2.2.2;obtain⟨q,rfl⟩:∃ q:Nat,i=(q:Int):=⟨i.toNat,oo⟩
 refine⟨[],?_⟩
 conv=>arg 1; cbv
 simp (maxSteps:=4000000) only [ay,aJ,aH,aO];have t1:((q:Int)+1).toNat=q+1:=oo
 have nM:=vq aR q;have we:=vq aR (q+1);have ix:aP (bH l q+bH l (q+1)):=ii
 have i2:aP 2:=ii
 have iq:aP ((q:Int)+1):=ii
 have vu:=jM ix;have WX:=jM i2;have eM:(gM (cr (bH l q+bH l (q+1))) (cr 2)).1=ob l q:=rfl;have ea:(0<=(q:Int)/\(q:Int)<(l.length:Int))/\(0<=(q:Int)+1/\(q:Int)+1<(l.length:Int)):=oo
 simp only [t1,fB,Ar,jJ,jK,vu,WX,ix,i2,iq,eM,ea.1.1,ea.1.2,ea.2.1,ea.2.2,aJ,aH]
def lh(l:List aw):Int:=(l.map aw.iG).foldr (· + ·) 0
theorem WY{l:List aw}{k:Nat}(h:k<l.length):lh (l.take (k+1))=lh (l.take k)+(l.getD k Tc.cu.aa).iG:=by
 rw [o4 Tc.cu.aa h];generalize l.take k=m;generalize l.getD k Tc.cu.aa=f;unfold lh
 exact ahx
theorem WZ:∀ (l:List aw) (s:Int),(∀ f∈l,f.ok=true)->(mO s l<=500000000↔s+lh l<=500000000)/\0<=lh l
 | [],s,_=>⟨by show s<=500000000↔s+0<=500000000; omega,yO _⟩
 | f::l,s,h=>by
  have hf:=(aw.mP (h f (.head _))).2.1;have e:lh (f::l)=f.iG+lh l:=rfl;unfold mO;obtain⟨i1,i2⟩:=WZ l (if s<=500000000 then s+f.iG else s) fun g hg=>h g (.tail _ hg);rw [i1,e];refine⟨?_,oo⟩;split<;>omega
theorem O3{l:List aw}:∀ k,k<=l.length->(∀ j,j<k->vp l j)->0<=lh (l.take k)/\lh (l.take k)<=500000000*(k:Int)
 | 0,_,_=>by simp [lh]
 | k+1,h,hk=>by
  have ih:=O3 k oo fun j hj=>hk j oo;rw [WY oo];have:=(aw.mP (hk k oo).1).2.1;omega
def az3(l:List aw):Lp where
 X:=Nat
 ov k := [(5,.int .i64 fun _=>(k:Int)),(3,.int .i64 fun _=>lh (l.take k)),(4,.int .i64 fun _=>gR (l.take k))]
 oe _ := []
 I k:=k<=l.length/\∀ j,j<k->vp l j
 μ k _:=l.length - k
 x0:=0
 nx:=some fun k=>k+1
def W4:aC:=cL 41 qv (fun l=>(l ()).length<=1000000000000) (fun l => .bool fun _=>gq (l ()))
theorem aja:aE Tryz.prog W4:=by
 refine bZ { kp := [(0,[0]),(1,[0]),(2,[]),(3,[0]),(4,[0,3,4]),(5,[0,3,4,5]),(6,[0,3,4,5]),(7,[0,3,4,5]),(8,[0,3,4,5,6]),(9,[]),(10,[0,3,4,5,6]),(11,[0,3,4,5,6]),(12,[0,3,4])],lt := [(8,⟨[0,1,2,3,4,5,6,7,8,9,10,11,12,13,14,15,16,17,18,19,20,21,22,23,24,25,26,27,28,29,30,31,32,33,34,35,36,37,38,39,40,41,42],[0,1,2,3,4,5,6,7,8,9,10,11,12,13,14,15,16,17,18,19,20,21,22,23,24,25,26,27,28,29,30,31,32,33,34,35,36,37,38,39,40,41,42],[],[],[]⟩)] } [WR] ⟨ai7,trivial⟩ [] trivial Tryz.func41 (by kernel_rfl) fun ah res h hp => ?_;obtain⟨(l:List aw),rfl,rfl⟩:=cS h;clear h;have hI:=Fe l;have hF:(gq l=true->False)->false=gq l:=fun h=>by
  cases hB:gq l with
  | false=>rfl
  | true=>exact (h hB).elim
 refine⟨[(5,az3 l)],?_⟩
 conv=>arg 1; cbv
 simp (maxSteps:=4000000) only [ay,aJ,aH,aO];refine⟨fun g=>hF fun q=>by have:=(hI.1 q).1; omega,fun g1=>⟨fun g=>hF fun q=>by have:=(hI.1 q).1; omega,fun g2=>⟨⟨⟨bw _,fun j hj=>absurd hj (jB _)⟩,rfl,rfl,rfl⟩,fun (k:Nat) hk => ?_⟩⟩⟩;have bu:k<=l.length/\∀ j,j<k->vp l j:=hk;have bM:=bu.1;have bm:=bu.2;clear hk
 conv=>arg 1; cbv
 simp (maxSteps:=4000000) only [ay,aJ,aH,aO];have hn:3<=l.length/\l.length<=30:=oo
 have hr:=We k bM bm;have uR:=O3 k bM bm;clear g1 g2;refine⟨fun g0 => ?_,fun g0 => ?_⟩
 . have af:k<l.length:=oo
   have hB:gq l=true->Ae (l.getD k Tc.cu.aa)=true/\(0<k->(l.getD (k - 1) Tc.cu.aa).x<(l.getD k Tc.cu.aa).x):=fun q=>by
    have:=(hI.1 q).2.1 k af;exact⟨(Fc _).trans this.1,this.2⟩
   have hN:Ae (l.getD k Tc.cu.aa)=true->(0<k->(l.getD (k - 1) Tc.cu.aa).x<(l.getD k Tc.cu.aa).x)->∀ j,j<k+1->vp l j:=fun h1 h2=>tQ bm ⟨(Fc _).symm.trans h1,h2⟩;have hS:=Wc af;have wy:=WY af;have hO:=fun h=>(aw.mP ((Fc (l.getD k Tc.cu.aa)).symm.trans h))
   clear hI;unfold Ae at hB hN hO;generalize l.getD k Tc.cu.aa=f at *
   generalize fU f.x (-500000) 500000=b1 at *
   generalize fU f.iG 0 500000000=b2 at *
   generalize fU f.share 0 10000=b3 at *
   generalize fU f.dk 0 1000000000000000=b4 at *
   generalize fU f.cV 0 1000000000000000=b5 at *
   refine⟨⟨oo,oo⟩,fun c=>hF fun q=>by have:=(hB q).1; simp_all,fun c1=>⟨fun c=>hF fun q=>by have:=(hB q).1; simp_all,fun c2=>⟨fun c=>hF fun q=>by have:=(hB q).1; simp_all,fun c3=>⟨fun c=>hF fun q=>by have:=(hB q).1; simp_all,fun c4=>⟨fun c=>hF fun q=>by have:=(hB q).1; simp_all,fun c5 => ?_⟩⟩⟩⟩⟩;have ch:(b1&&(b2&&(b3&&(b4&&b5))))=true:=by simp_all
   have Jo:=hN ch;have hO1:=(hO ch).2.1;have hO2:=(hO ch).2.2.1;clear hN hO c1 c2 c3 c4 c5;simp only [aP];refine⟨fun h0=>⟨oo,⟨oo,oo⟩,fun c=>hF fun q=>by have:=(hB q).2 oo; omega,fun c=>⟨oo,oo,oo,⟨⟨oo,Jo oo⟩,oo⟩,oo,wy.symm,hS.symm⟩⟩,fun h0=>⟨oo,oo,oo,⟨⟨oo,Jo oo⟩,oo⟩,oo,wy.symm,hS.symm⟩⟩
 . have lY:k=l.length:=oo
   subst lY;rw [vG] at hr uR ⊢;have tH:=ahB (l:=l) oo;rw [<- tH];have hL:Ad l<=500000000↔lh l<=500000000:=by
    have:=(WZ l 0 (Wg bm)).1;rwa [Int.zero_add] at this
   have hT:gq l=true↔lh l<=500000000/\gR l=10000/\(rM l).iG=0/\(rM l).share=0:=hI.trans ⟨fun h=>⟨hL.1 h.2.2.1,h.2.2.2⟩,fun h=>⟨hn,bm,hL.2 h.1,h.2⟩⟩;refine⟨fun c1=>⟨fun c2=>⟨ii,⟨oo,oo⟩,fun c3=>⟨ii,⟨oo,oo⟩,?_⟩,fun c=>hF fun q=>c (hT.1 q).2.2.1⟩,fun c=>hF fun q=>c (hT.1 q).2.1⟩,fun c=>hF fun q=>c (hT.1 q).1⟩;rw [vO,YM,hT];exact⟨fun h=>⟨c1,c2,c3,h⟩,fun h=>h.2.2.2⟩
def rS(k:Nat):Int:=10+(k:Int)+((k:Int)+9) / 10
set_option maxHeartbeats 1000000 in
theorem O4(b:Int)(w:World)(h0:65<=b)(h1:b<=90) :
 Calls Tryz.prog 253 #[.int .u8 b] w fun e w'=>e = .returned (.int .i64 (10+(b - 65)+(b - 65+9) / 10))/\w=w':=by
 go_enter Tryz.func253,Tryz.ntmps253
 go_wp2
 go_loop [3,4] (fun n c=>∃ k:Nat,(k:Int)<=b - 65/\c = .int .u8 (65+(k:Int))/\n = .int .i64 (rS k)) (fun _ c=>(b - intOf c).toNat)
 case atStart=>exact⟨0,oo,rfl,rfl⟩
 case round =>
  obtain⟨k,hk,rfl,rfl⟩:=hrel;have hv:rS k=10+(k:Int)+((k:Int)+9) / 10:=rfl;have p8:rS (k+1)=10+((k:Int)+1)+((k:Int)+10) / 10:=by unfold rS; omega
  have c6:10<=rS k:=oo
  have eR:rS k<=40:=oo
  by_cases af:65+(k:Int)<b
  . by_cases hm:(rS k+1) % 11=0
    . have pq:((rS k+1) % 11==0)=true:=by simp [hm]
      have e:rS (k+1)=rS k+1+1:=oo
      have HE:=bt e;exact ajb
    . have pq:((rS k+1) % 11==0)=false:=by simp [hm]
      have e:rS (k+1)=rS k+1:=oo
      have HE:=bt e;exact ajb
  . have e:rS k=10+(b - 65)+(b - 65+9) / 10:=by rw [hv]; omega
    have HE:=bt e;clear e hv p8
    go_wp2
    go_ret
    exact⟨anw HE.out,rfl⟩
theorem az4{k:Nat}(kn:s.size=11)(hk:k<s.size)(h:oY s k=false):mg s=false:=by
 unfold mg wX;have:¬ ∀ i,i<s.size->oY s i=true:=fun ch=>by rw [ch k hk] at h; cases h
 simp [this]
theorem az5(kn:s.size=11)(h:∀ j,j<10->oY s j=true):mg s=(nA s 10 - 48==j3 s 10 % 11 % 10):=by
 have mY:=Jg s 10;unfold mg;by_cases he:nA s 10 - 48=j3 s 10 % 11 % 10
 . have hf:wX s=true:=by
    unfold wX;rw [aU];intro i hi;rcases cv i 10 with h1|h1
    . exact h i h1
    . obtain rfl:i=10:=oo
      unfold oY Aa pL;simp;omega
   rw [hf];simp [kn,he];omega
 . have:¬ 48+j3 s 10 % 11 % 10=nA s 10:=oo
   simp [this,he]
theorem O5(h:65<=b/\b<=90):fT b=10+(b - 65)+(b - 65+9) / 10:=by
 exact agx
theorem az6(h:48<=b/\b<=57):fT b=b - 48:=by
 unfold fT pL;rw [aG (by simp; omega)]
theorem JE(h1 : -1000000<=x)(h2:x<=1000000):wrap64 x=x:=by unfold wrap64; omega
theorem az7(s:ByteArray)(w:World)(hs:s.size<=140737488351232) :
 Calls Tryz.prog 234 #[.string s] w fun e w'=>e = .returned (.bool (mg s))/\w=w':=by
 by_cases kn:s.size=11
 . have bg:((s.size:Int) != 11)=false:=by simp [kn]
   have cR:10<s.size:=oo
   have hle:s.size<=11:=oo
   have Ol:=bt kn;clear kn
   go_enter Tryz.func234,Tryz.ntmps234
   go_wp2
   clear bg
   go_loop [3,4] (fun u i=>∃ k:Nat,k<=10/\i = .int .i64 k/\u = .int .i64 (j3 s k)/\∀ j,j<k->oY s j=true) (fun _ i=>10 - (intOf i).toNat)
   case atStart=>exact⟨0,oo,rfl,rfl,oo⟩
   case round =>
    obtain⟨k,hk,rfl,rfl,hj⟩:=hrel;have HJ:=bt hj;have CG:=Jg s k;obtain⟨sb1,sb2⟩:=CG;clear hj;by_cases af:k<10
    . have aR:=agz (s:=s) (k:=k) oo;have tE:=agF (s:=s) (k:=k) oo af;obtain⟨c,hc⟩:∃ c:Int,c=(s[k].toNat:Int):=⟨_,rfl⟩
      have qd:0<=c:=oo
      have aFe:c<=255:=by have:=s[k].toNat_lt; omega
      rw [<- hc] at aR tE;have CE:=bt aR;have O6:=bt tE;have aS:=hc.symm;clear aR tE hc
      cases hm:Aa k c with
      | true =>
       have vk:oY s k=true:=by rw [CE.out,hm]; simp; omega
       have Oi:=bt vk;have W5:(k<3/\65<=c/\c<=90)\/(k=3/\c=85)\/(k=3/\c=74)\/(k=3/\c=90)\/(3<k/\48<=c/\c<=57):=by
        exact ajc
       clear vk hm;rcases W5 with ⟨a1,a2,a3⟩|⟨a1,a2⟩|⟨a1,a2⟩|⟨a1,a2⟩|⟨a1,a2,a3⟩
       . have b1:((k:Int)==3)=false:=by simp; omega
         have hv:10+(c - 65)+(c - 65+9) / 10=fT c:=(O5 oo).symm;have HV0:Hid (0<=fT c):=by unfold Hid; rw [<- hv]; omega
         have HV1:Hid (fT c<=38):=by unfold Hid; rw [<- hv]; omega
         have HV:=bt hv;clear hv
         go_wp2_with (go_at_call 253; refine (O4 _ _ oo oo).mono ?_; rintro _ _ ⟨rfl,rfl⟩)
         exact s_8
       . subst a1;subst a2;have hx:j3 s (3+1)=j3 s 3+256:=by
          have h1:=O6.out;have h2:wrap64 (fT 85*2^3)=256:=by rw [O5 oo,JE oo oo]; rfl
          exact W6
         have HX:=bt hx;clear hx
         go_wp2_with (go_at_call 253; refine (O4 _ _ oo oo).mono ?_; rintro _ _ ⟨rfl,rfl⟩)
         go_loop [6,7] (fun v t=>∃ j:Nat,j<=3/\t = .int .i64 j/\v = .int .i64 (32*2^j)) (fun _ t=>3 - (intOf t).toNat)
         case atStart=>exact⟨0,oo,rfl,rfl⟩
         case round =>
          exact W7
       . subst a1;subst a2;have hx:j3 s (3+1)=j3 s 3+160:=by
          have h1:=O6.out;have h2:wrap64 (fT 74*2^3)=160:=by rw [O5 oo,JE oo oo]; rfl
          exact W6
         have HX:=bt hx;clear hx
         go_wp2_with (go_at_call 253; refine (O4 _ _ oo oo).mono ?_; rintro _ _ ⟨rfl,rfl⟩)
         go_loop [6,7] (fun v t=>∃ j:Nat,j<=3/\t = .int .i64 j/\v = .int .i64 (20*2^j)) (fun _ t=>3 - (intOf t).toNat)
         case atStart=>exact⟨0,oo,rfl,rfl⟩
         case round =>
          exact W7
       . subst a1;subst a2;have hx:j3 s (3+1)=j3 s 3+304:=by
          have h1:=O6.out;have h2:wrap64 (fT 90*2^3)=304:=by rw [O5 oo,JE oo oo]; rfl
          exact W6
         have HX:=bt hx;clear hx
         go_wp2_with (go_at_call 253; refine (O4 _ _ oo oo).mono ?_; rintro _ _ ⟨rfl,rfl⟩)
         go_loop [6,7] (fun v t=>∃ j:Nat,j<=3/\t = .int .i64 j/\v = .int .i64 (38*2^j)) (fun _ t=>3 - (intOf t).toNat)
         case atStart=>exact⟨0,oo,rfl,rfl⟩
         case round =>
          exact W7
       . have b1:((k:Int)==3)=false:=by simp; omega
         have hv:c - 48=fT c:=(az6 oo).symm;have HV0:Hid (0<=fT c):=by unfold Hid; rw [<- hv]; omega
         have HV1:Hid (fT c<=38):=by unfold Hid; rw [<- hv]; omega
         have HV:=bt hv;clear hv
         go_wp2
         exact s_8
      | false =>
       have vk:oY s k=false:=by rw [CE.out,hm]; simp
       have HB:=bt (az4 Ol.out oo vk);have W5:(k<3/\c<65)\/(k<3/\90<c)\/(k=3/\c<65)\/(k=3/\90<c)\/(k=3/\65<=c/\c<=90/\c≠85/\c≠74/\c≠90)\/(3<k/\c<48)\/(3<k/\57<c):=by
        exact ajc
       clear vk hm;rcases W5 with ⟨a1,a2⟩|⟨a1,a2⟩|⟨a1,a2⟩|⟨a1,a2⟩|⟨a1,a2,a3,a4,a5,a6⟩|⟨a1,a2⟩|⟨a1,a2⟩
       . exact CW
       . exact CW
       . subst a1
         exact CW
       . subst a1
         exact CW
       . subst a1;have b1:(c != 85)=true:=by simpa using a4
         have b2:(c != 74)=true:=by simpa using a5
         have b3:(c != 90)=true:=by simpa using a6
         clear a4 a5 a6
         exact CW
       . have b1:((k:Int)==3)=false:=by simp; omega
         exact CW
       . have b1:((k:Int)==3)=false:=by simp; omega
         exact CW
    . obtain rfl:k=10:=oo
      have gH:=az5 Ol.out HJ.out;have hix:∀ w,(Instr.index 9 (.string s) (.int .i64 10)).run Tryz.prog w = .ok (.int .u8 (nA s 10)) w:=fun w=>by
       rw [E5 cR];simp [Instr.index,asIntOf,qM Tryz.underlying9,cR]
      have az8:=bt gH;have Eh:=VO s 10;obtain⟨bb1,bb2⟩:=Eh;clear gH
      go_wp2
      go_ret
      exact⟨by rw [az8.out]; rfl,rfl⟩
 . have bg:((s.size:Int) != 11)=true:=by simp; omega
   have HI:Hid (mg s=false):=by unfold Hid mg; simp [kn]
   go_enter Tryz.func234,Tryz.ntmps234
   go_wp2
   go_ret
   exact⟨by rw [HI.out]; rfl,rfl⟩
def ajg:aC:=cL 112 jc (fun l=>(l ()).length<=1000000000000/\∀ b∈l (),b.num.size<=140737488351232) (fun l => .bp [.int .i64 fun _=>(jN (l ())).1,.int .i64 fun _=>(jN (l ())).2])
def xk(l:List aL):Nat->List Kx->Option Int
 | 0=>fun _=>none
 | k+1=>cond (decide (((l.getD k Tc.box.aa).num)=jF)) (xk l k) (ft (xk l k) [.s (l.getD k Tc.box.aa).num] (k:Int))
def lpV(l:List aL):Lp where
 X:=Nat
 ov k := [(16,.int .i64 fun _=>(k:Int)),(5,.int .i64 fun _=>vo l k)]
 oe k := [(0,.map true false (.one .str) .int 271 fun _=>xk l k)]
 I k:=k<=l.length/\∀ j,j<k->kA l j=false
 μ k _:=l.length - k
 x0:=0
 nx:=some fun k=>k+1
theorem ajh(l:List aL)(s:ByteArray):∀ k,k<=l.length->(xk l k [.s s]).isSome=vn l k s
 | 0,_=>by rw [ax5]; rfl
 | k+1,hk=>by
  have ih:=ajh l s k oo;have Cq:vm=jF:=rfl;rw [ax6 l k s oo,<- ih,Cq];have e:l.getD k Tc.box.aa=l[k]:=by simp [aY,bq (show k<l.length from oo)]
  have hu:xk l (k+1)=cond (decide ((l.getD k Tc.box.aa).num=jF)) (xk l k) (ft (xk l k) [.s (l.getD k Tc.box.aa).num] (k:Int)):=rfl;rw [hu,e];by_cases hn:l[k].num=jF
  . simp only [hn,qN,pg,jC,yM,iY]
  . simp only [hn,xy,qP,P7,fe];unfold ft;by_cases hs:l[k].num=s
    . simp only [hs,fH,Option.isSome_some,qN,Gc]
    . have:¬ [Kx.s s] = [Kx.s l[k].num]:=by simpa using fun e=>hs e.symm
      simp only [hs,this,dK,xy,iY]
theorem aAa:aE Tryz.prog ajg:=by
 refine bD [aha] ⟨ayi,trivial⟩ Tryz.func112 (by kernel_rfl) fun ah res h hp => ?_;obtain⟨(l:List aL),rfl,rfl⟩:=cS h;clear h;have JF:l.length<=1000000000000/\∀ b∈l,b.num.size<=140737488351232:=hp;have xW:=JF.1;have iJ:=JF.2;refine⟨[(5,lpV l)],?_⟩
 conv=>arg 1; cbv
 refine⟨fun h1 => ?_,fun h1=>⟨?_,fun (k:Nat) hk => ?_⟩⟩
 . simp only [aU,fL] at h1;have h2:jN l=(-1,5):=by unfold jN; rw [aG oo]
   simp only [Iq,EE,oQ,h2,Qd]
 . refine⟨⟨bw _,fun j hj=>absurd hj (jB j)⟩,?_⟩;simp only [Iq,EE,oQ,Ua];exact⟨rfl,(ax7 l).symm,rfl⟩
 . conv=>arg 1; cbv
   have bu:k<=l.length/\∀ j,j<k->kA l j=false:=hk;have bM:=bu.1;have bm:=bu.2;have h5:l.length<=2000:=by simp only [ew,fL] at h1; omega
   simp only [tI,T9,Iq,oQ,EE,Ua,fL,aee,fB,aU,ew,ajh l _ k bM];refine⟨fun h2=>⟨oo,?_⟩,fun h2 => ?_⟩
   . have af:k<l.length:=oo
     have e:l.getD k Tc.box.aa=l[k]:=by simp [aY,bq af]
     have j4:kA l k=(vn l k l[k].num||decide (l[k].id<=vo l k) || !kz l[k]):=by unfold kA; rw [bq af]
     simp only [e];have hf:kA l k=true->(k:Int)=(jN l).1/\60=(jN l).2:=fun h=>by rw [ag2 h5 af bm h]; exact⟨rfl,rfl⟩
     refine⟨fun h3=>hf (by rw [j4,h3]; rfl),fun h3=>⟨fun h4=>hf (by rw [j4,h3]; simp [h4]),fun h4=>⟨iJ _ (lV af),fun h6=>hf ?_,fun h6 => ?_⟩⟩⟩
     . rw [j4];have W8:(!kz l[k])=true:=h6;rw [W8];simp
     . have W8:(!kz l[k])=false:=h6;have Jq:kA l k=false:=by rw [j4,h3,W8]; simp [h4]
       have hI:k+1<=l.length/\∀ j,j<k+1->kA l j=false:=⟨af,fun j hj=>by
        rcases cv j k with h|h
        . exact bm j h
        . rw [show j=k from oo]; exact Jq⟩
       have hM:xk l (k+1)=cond (decide (l[k].num=jF)) (xk l k) (ft (xk l k) [.s l[k].num] (k:Int)):=by
        show cond _ _ _=_
        rw [e]
       have tt:aP ((k:Int)+1)/\((k+1<=l.length/\∀ j,j<k+1->kA l j=false)/\l.length - (k+1)<l.length - k)/\(k:Int)+1=((k+1:Nat):Int)/\l[k].id=vo l (k+1):=⟨⟨oo,oo⟩,⟨hI,oo⟩,oo,(ag4 l k af).symm⟩
       refine⟨fun h7=>⟨tt.1,tt.2.1,tt.2.2.1,tt.2.2.2,?_⟩,fun h7=>⟨tt.1,tt.2.1,tt.2.2.1,tt.2.2.2,?_⟩⟩
       . have h8:(!decide (l[k].num=jF))=true:=h7;have W9:decide (l[k].num=jF)=false:=by simpa using h8
         rw [hM,W9];rfl
       . have h8:(!decide (l[k].num=jF))=false:=h7;have W9:decide (l[k].num=jF)=true:=by simpa using h8
         rw [hM,W9];rfl
   . have:k=l.length:=oo
     subst this;rw [ag3 h5 bm];exact⟨rfl,rfl⟩
def aji:aC:=cL 234 kS (fun s=>(s ()).size<=140737488351232) (fun s => .bool fun _=>mg (s ()))
theorem aAb:aE Tryz.prog aji:=by
 refine EF Tryz.func234 (by kernel_rfl) fun ah res h w ra eu hE hp => ?_;obtain⟨(s:ByteArray),rfl,rfl⟩:=cS h;clear h;obtain⟨v0,zT,rfl,nj,h0⟩:=hE.head;obtain rfl:=h0.none;obtain rfl:=nj.y7;exact (az7 s w hp).mono fun e w' ⟨k1,k2⟩=>⟨_,k1,by rw [<- k2]; exact dU _ _,.bool _⟩
theorem ajj(b:aL):kz b=true↔(1<=b.id/\b.id<=999999)/\(b.num=jF\/mg b.num=true)/\(b.high=false\/b.size=40)/\((b.size=20/\b.aI<=32000)\/(b.size=40/\b.aI<=40000))/\1<=b.aI/\((0<=b.load/\b.load<b.jT)/\b.jT<20)/\b.cls<=9:=by
 have hk:(1<=b.aI/\b.aI<=ym b.size)↔((b.size=20/\b.aI<=32000)\/(b.size=40/\b.aI<=40000))/\1<=b.aI:=by
  unfold ym;split
  . omega
  . split<;>omega
 have e:kz b=true↔(1<=b.id/\b.id<=999999)/\(b.num=jF\/mg b.num=true)/\(b.high=false\/b.size=40)/\(1<=b.aI/\b.aI<=ym b.size)/\((0<=b.load/\b.load<b.jT)/\b.jT<20)/\b.cls<=9:=by
  unfold kz iz wZ;simp only [aD,fM,aU,fG,show vm=jF from rfl];constructor
  . rintro⟨⟨⟨⟨⟨h1,h2⟩,h3⟩,h4⟩,h5⟩,h6⟩
    exact⟨h1,h2,h3,h4,h5,h6⟩
  . rintro⟨h1,h2,h3,h4,h5,h6⟩
    exact⟨⟨⟨⟨⟨h1,h2⟩,h3⟩,h4⟩,h5⟩,h6⟩
 rw [e,hk];constructor
 . rintro⟨h1,h2,h3,⟨h4,zK⟩,h5,h6⟩
   exact⟨h1,h2,h3,h4,zK,h5,h6⟩
 . rintro⟨h1,h2,h3,h4,zK,h5,h6⟩
   exact⟨h1,h2,h3,⟨h4,zK⟩,h5,h6⟩
def ajk:aC:=cL 189 Cj (fun b=>(b ()).num.size<=140737488351232) (fun b => .bool fun _=>kz (b ()))
theorem aAc:aE Tryz.prog ajk:=by
 refine bD [aji] ⟨aAb,trivial⟩ Tryz.func189 (by kernel_rfl) fun ah res h hp => ?_;obtain⟨(b:aL),rfl,rfl⟩:=cS h;clear h;have hn:b.num.size<=140737488351232:=hp;refine⟨[],?_⟩;refine fm ?_;have hI:=ajj b;simp only [fG,iR,ew,aU,show ({ data := { toList := [] } }:ByteArray)=jF from rfl]
 cases hB:kz b with
 | true =>
  obtain⟨h1,h2,h3,h4,h5,h6,h7⟩:=hI.1 hB
  (repeat' (first|apply And.intro|intro _))<;>first
   | exact hn
   | (exfalso; omega)
   | (exact cT oo)
   | (exfalso; rcases h3 with h3|h3<;>simp_all)
   | (exfalso; rcases h2 with h2|h2<;>simp_all)
 | false =>
  have hN:¬ _:=fun q=>Bool.noConfusion (hB.symm.trans (hI.2 q))
  (repeat' (first|apply And.intro|intro _))<;>first
   | rfl
   | exact hn
   | (refine dB fun hc=>hN ⟨oo,?_,?_,oo,oo,oo,oo⟩
      . first|exact .inr (by assumption)|exact .inl (by assumption)
      . first|exact .inl (by assumption)|exact .inr oo)
end Go.Proofs.YtamjbkaclhgffaaGreat
