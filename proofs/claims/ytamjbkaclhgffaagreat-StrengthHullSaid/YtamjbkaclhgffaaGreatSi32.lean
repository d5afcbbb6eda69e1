/-
  twistlocklaw17.Made by the abstract run.
-/
import Derived.Test.YtamjbkaclhgffaaGreatSi31
set_option linter.all false
set_option maxRecDepth 100000
set_option maxHeartbeats 4000000
namespace Go.Proofs.YtamjbkaclhgffaaGreat
open Go.RowKit
variable{bs:List aJ}
def axS(l:List j4)(fill:List Int)(m:Nat):Lp where
 X:=Nat
 ov k := [(19,.int .i64 fun _=>(k:Int)),(6,.own 0),(7,.own 1)]
 oe k := [(0,.row true .di 121 fun _=>pj l k),(1,.row true .int 3 fun _=>ug l fill k)]
 I k:=k<=m
 μ k _:=m - k
 x0:=0
 nx:=some fun k=>k+1
def axT(x:j4):Lp where
 X:=Nat
 ov j := [(45,.int .i64 fun _=>(j:Int))]
 oe j := [(3,.box 121 [.int .i64 fun _=>eF x,.int .i64 fun _=>x.x,.int .i64 fun _=>x.y,.int .i64 fun _=>x.z,.int .i64 fun _=>100*x.xS,.own 4]),(4,.row true .int 3 fun _=>uf (eF x) x.steps j)]
 I j:=j<=5
 μ j _:=5 - j
 x0:=0
 nx:=some fun j=>j+1
def aix:aN:=c6 16 aiw SD (fun l f=>((∀ x∈l (),x.ok)/\(l ()).length<=140737488351232)/\(∀ x∈f (),0<=x/\x<=255)/\(f ()).length<=140737488351232) (fun l f => .ba [.sl true .di fun _=>pj (l ()) (min (l ()).length 8),.sl true .int fun _=>ug (l ()) (f ()) (min (l ()).length 8)])
theorem axU:aU Tryz.prog aix:=by
 refine fH { kp := [(0,[0,1]),(1,[0,1]),(2,[0,1,6]),(3,[0,1,6,7]),(4,[1,6,7,17,18,19]),(5,[1,6,7,17,18,19]),(6,[1,6,7,8,9,17,18,19]),(7,[1,6,7,8,9,10,17,18,19]),(8,[1,6,7,8,9,10,17,18,19]),(9,[1,6,7,8,9,10,17,18,19,45]),(10,[1,6,7,8,9,10,17,18,19,45]),(11,[1,6,7,8,9,10,11,17,18,19,45]),(12,[1,6,7,8,9,10,11,17,18,19,45]),(13,[1,6,7,8,9,10,17,18,19,45]),(14,[1,6,7,8,10,17,18,19]),(15,[1,6,7,8,10,12,17,18,19]),(16,[1,6,7,8,10,17,18,19]),(17,[1,6,7,10,12,17,18,19]),(18,[1,6,7,17,18,19]),(19,[6,7])],lt := [(16,⟨[0,1,2,3,4,5,6,7,8,9,10,11,12],[0,1,2,3,4,5,6,7,8,9,10,11,12],[],[],[]⟩)] } [] trivial [] trivial Tryz.func16 (by kernel_rfl) fun ai res h hp => ?_;obtain⟨(l:List j4),(f:List Int),rfl,rfl⟩:=dh h;clear h;obtain⟨⟨hx,hl⟩,hf,Yu⟩:((∀ x∈l,x.ok)/\l.length<=140737488351232)/\(∀ x∈f,0<=x/\x<=255)/\f.length<=140737488351232:=hp;refine bW (min l.length 8) fun m hm => ?_;refine⟨[(4,axS l f m)],?_⟩;have vF:(bif decide ((8:Int)<(l.length:Int)) then (8:Int) else (l.length:Int))=(m:Int):=by
  exact aiv
 refine fm ?_;refine⟨by rw [vF]; omega,⟨bO _,rfl,rfl,rfl⟩,fun (k:Nat) hk => ?_⟩;have cR:k<=m:=hk;clear hk;refine fm ?_;simp only [vF,fE];refine⟨fun g => ?_,fun g => ?_⟩
 . have sd:k<m:=oo
   have gD:k<l.length:=oo
   have Hh:(l.getD k Tc.iF.aa).ok:=hx _ (by rw [aX,bc gD]; exact iT gD);have e1:pj l (k+1)=pj l k ++ [zs (l.getD k Tc.iF.aa) k]:=rfl;have e2:ug l f (k+1)=ug l f k ++ [xr (l.getD k Tc.iF.aa) f k]:=rfl;have l1:=zt l k;have l2:=Iq l f k;simp only [e1,e2];clear e1 e2;generalize l.getD k Tc.iF.aa=x at Hh ⊢;obtain⟨x1,x2,x3,x4,x5,x6⟩:=Hh;have hK:1000*(1+x.aq)=eF x:=rfl;have yK:1000<=eF x/\eF x<=256000:=by unfold eF; omega
   simp only [hK];have hT:((k:Int).tmod (f.length:Int))=((k % f.length:Nat):Int):=NL oo;have EG:0<f.length->(0<=f.getD (k % f.length) Tc.u8.aa/\f.getD (k % f.length) Tc.u8.aa<=255)/\k % f.length<f.length:=fun h=>by
    have h2:=oC k h;refine⟨hf _ ?_,h2⟩;rw [aX,bc h2];exact iT h2
   have Lw:xr x f k=cond (decide (0<f.length)) ((eF x*f.getD (k % f.length) Tc.u8.aa).tdiv 255) 0:=rfl;obtain⟨q,hq⟩:∃ q,q=f.getD (k % f.length) Tc.u8.aa:=⟨_,rfl⟩
   rw [<- hq] at EG Lw;have DC:0<f.length->0<=eF x*q/\eF x*q<=65280000:=fun h=>by
    have h1:=(EG h).1;have h2:=B7 (a:=eF x) (b:=q) oo h1.1;have h3:=vI h1.2 (show 0<=eF x from oo);omega
   have jl:0<f.length->IntKind.i64.wrap ((eF x*q).tdiv 255)=xr x f k:=fun h=>by
    have h1:=DC h;rw [Lw,dP h,eG,IntKind.wrap_i64,Wu h1.1];omega
   have jw:¬ 0<f.length->xr x f k=0:=fun h=>by rw [Lw,jW h,gj]
   refine⟨oo,ii,ii,ii,ii,ii,ii,ii,ii,fun c => ?_,fun c => ?_⟩
   . refine⟨axT x,?_⟩;refine fm ?_;refine⟨⟨bO _,rfl,rfl⟩,fun (j:Nat) hj => ?_⟩;have rL:j<=5:=hj;clear hj;have l3:=V3 (eF x) x.steps j;have e3:uf (eF x) x.steps (j+1)=uf (eF x) x.steps j++cond (ph x.steps (j:Int)) [(eF x*(j:Int)).tdiv 4] []:=rfl;refine fm ?_;simp only [e3];have hKj:0<=eF x*(j:Int)/\eF x*(j:Int)<=1280000:=by
      have h2:=B7 (a:=eF x) (b:=(j:Int)) oo oo;have h3:=vI (show (j:Int)<=5 from oo) (show 0<=eF x from oo);omega
     have hWj:IntKind.i64.wrap ((eF x*(j:Int)).tdiv 4)=(eF x*(j:Int)).tdiv 4:=by
      rw [IntKind.wrap_i64,Wu hKj.1];omega
     rw [hWj];refine⟨fun g1=>⟨oo,fun c1 => ?_,fun c1 => ?_⟩,fun g1 => ?_⟩
     . have hb:ph x.steps (j:Int)=true:=dP c1;rw [hb,eG];exact⟨ii,oo,by simp only [cB,ej]; omega,ii,oo,oo,rfl⟩
     . have hb:ph x.steps (j:Int)=false:=jW c1;rw [hb,gj,oz];exact⟨ii,oo,oo,rfl⟩
     . have Wj:j=5:=oo
       subst Wj;have hS:zs x k=⟨eF x,x.x,x.y,x.z,100*x.xS,uf (eF x) x.steps 5⟩:=by
        unfold zs;rw [dP c];rfl
       exact s_9
   . have hS:zs x k=⟨eF x,x.x,x.y,x.z,100*x.xS,[]⟩:=by
      unfold zs;rw [jW c];rfl
     exact s_9
 . have sd:k=min l.length 8:=oo
   rw [sd];exact⟨rfl,rfl⟩
def BN(l:List aJ):Nat->List Kx->Option Int
 | 0=>fun _=>none
 | k+1=>eB (BN l k) [.i .i64 (l.getD k Tc.box.aa).id] (l.getD k Tc.box.aa).aq
theorem aiz(h:(jP bs).2=0){k:Nat}(hk:k+1<bs.length):(bs.getD k Tc.box.aa).id<(bs.getD (k+1) Tc.box.aa).id:=by
 unfold jP at h;split at h
 . cases h
 split at h
 . cases h
 rename_i h1;rw [ID] at h1;have h2:=h1 (k+1) (gA.2 hk);unfold lX at h2;rw [bc hk,aec bs k oo] at h2;simp only [gR,xG,aL] at h2;rw [aX,bc (show k<bs.length from oo),aX,bc hk];have:=h2.1.2;simp only [ia];omega
theorem aiA{bs:List aJ}(h:(jP bs).2=0)(i):∀ d,i+d+1<bs.length->(bs.getD i Tc.box.aa).id<(bs.getD (i+d+1) Tc.box.aa).id
 | 0,hk=>aiz h hk
 | d+1,hk=>by
  have h1:=aiA h i d oo;have h2:=aiz h (k:=i+d+1) hk;have e:i+(d+1)+1=i+d+1+1:=oo
  rw [e];omega
theorem aiB{bs:List aJ}(h:(jP bs).2=0){j:Nat}:∀ k,j<k->k<=bs.length->BN bs k [.i .i64 (bs.getD j Tc.box.aa).id]=some (bs.getD j Tc.box.aa).aq
 | 0,hj,_=>absurd hj (rz _)
 | k+1,hj,hk=>by
  have hu:BN bs (k+1)=eB (BN bs k) [.i .i64 (bs.getD k Tc.box.aa).id] (bs.getD k Tc.box.aa).aq:=rfl;rw [hu];unfold eB;rcases b9 j k with h1|h1
  . have h2:=aiA h j (k - j - 1) oo;rw [show j+(k - j - 1)+1=k from oo] at h2;rw [aw (fun e=>by simp only [ry,Kx.i.injEq,bu,bn] at e; omega)];exact aiB h k h1 oo
  . rw [show j=k from oo,aC rfl]
theorem axX{s:bC}{l:List az}(h:hZ s bs l=true){e:az}(he:e∈l):(BN bs bs.length [.i .i64 e.box]).getD 0=(bK bs e.box).1.aq:=by
 have hv:(jP bs).2=0:=by
  unfold hZ at h;simp only [ax,aL] at h;exact h.1
 have hf:=VE (Nl h) e he;rcases adV bs e.box with ⟨_,q⟩|⟨k,_,q1,q2⟩
 . rw [q] at hf; cases hf
 . have hid:=(awz hf).1;rw [q2] at hid ⊢;have hk:=aiB hv (j:=k) bs.length q1 (aA _);rw [show (bs.getD k Tc.box.aa).id=e.box from hid] at hk;rw [hk];rfl
theorem aiC:∀ (l) (s),(∀ f∈l,f.ok=true)->jQ s l<=500000000->jQ s l=s+cO l
 | [],s,_,_=>by simp [jQ,cO]
 | f::l,s,h,hle=>by
  have h2:=afm l s (fun g hg=>h g (.tail _ hg));have e:cO (f::l)=f.ch+cO l:=rfl;unfold jQ at hle ⊢;by_cases c:s<=500000000
  . rw [aC c] at hle ⊢;rw [aiC l _ (fun g hg=>h g (.tail _ hg)) hle,e];omega
  . rw [aw c] at hle ⊢;have:=h2.1.1 hle;omega
def axY(l:List aJ):Lp where
 X:=Nat
 ov k := [(55,.int .i64 fun _=>(k:Int))]
 oe k := [(2,.map true false (.one (.int .i64)) .int 139 fun _=>BN l k)]
 I k:=k<=l.length
 μ k _:=l.length - k
 x0:=0
 nx:=some fun k=>k+1
def axZ(l:List az)(Q:List Wt)(E:Nat):Lp where
 X:=Nat
 ov k := [(67,.int .i64 fun _=>(k:Int)),(15,.own 3)]
 oe k := [(3,.row true .wx E fun _=>Q.take k)]
 I k:=k<=l.length
 μ k _:=l.length - k
 x0:=0
 nx:=some fun k=>k+1
def ax0(t:List dR)(w:List Int)(Q:List Wt)(E:Nat):Lp where
 X:=Nat
 ov k := [(97,.int .i64 fun _=>(k:Int)),(15,.own 3)]
 oe k := [(3,.row true .wx E fun _=>Q++l4 t w k)]
 I k:=k<=w.length
 μ k _:=w.length - k
 x0:=0
 nx:=some fun k=>k+1
def Wk:aN:=u5 18 tF r7 y0 u6 (fun s bs l w=>(od (s ())/\vA (bs ())/\(l ()).length<=40)/\(s ()).eU.length<=1000000000000/\(s ()).iL.length<=1000000000000/\(w ()).length<=1000000000000) (fun s bs l w => .ba [.sl true .wx fun _=>(ou (s ()) (bs ()) (l ()) (w ())).1,.int .i64 fun _=>(ou (s ()) (bs ()) (l ()) (w ())).2])
theorem aiD:aU Tryz.prog Wk:=by
 refine fH { kp := [(0,[0,1,2,3]),(1,[1,2,3,4]),(2,[1,2,3,4,11]),(3,[]),(4,[1,2,3,4]),(5,[1,2,3,4,12]),(6,[2,3,4,12,53,54,55]),(7,[2,3,4,12,53,54,55]),(8,[2,3,4,12,14,53,54,55]),(9,[2,3,4,12,53,54,55]),(10,[2,3,4,12]),(11,[2,3,4,12,15]),(12,[3,4,12,15,65,66,67]),(13,[3,4,12,15,65,66,67]),(14,[3,4,12,15,17,65,66,67]),(15,[3,4,12,15,17,18,65,66,67]),(16,[3,4,12,15,65,66,67]),(17,[3,4,15]),(18,[4,15,95,96,97]),(19,[4,15,95,96,97]),(20,[4,15,19,20,95,96,97]),(21,[4,15,19,20,95,96,97]),(22,[4,15,95,96,97]),(23,[15])],lt := [(2,⟨[0,1,2,3,4,5,6,7,8,9,10,11,12,13,14,15,16,17,18,19,20,21,22,23],[0,1,2,3,4,5,6,7,8,9,10,11,12,13,14,15,16,17,18,19,20,21,22,23],[],[],[]⟩),(15,⟨[0,1,2,3,4,5,6,7,8,9,10,11,12,13,14,15,16,17,18],[0,1,2,3,4,5,6,7,8,9,10,11,12,13,14,15],[16,17,18],[],[]⟩)] } [VF,V6,My,Uf] ⟨ag6,aim,Uk,aes,trivial⟩ [] trivial Tryz.func18 (by kernel_rfl) fun ai res h hp => ?_;obtain⟨(s:bC),(bs:List aJ),(l:List az),(w:List Int),rfl,rfl⟩:=yY h;clear h;have xt:(od s/\vA bs/\l.length<=40)/\s.eU.length<=1000000000000/\s.iL.length<=1000000000000/\w.length<=1000000000000:=hp;have hc:=xt.1;have ht:=xt.2.1;have hf:=xt.2.2.1;have hw:=xt.2.2.2;refine⟨[(6,axY bs)],?_⟩
 conv=>arg 1; cbv
 simp (maxSteps:=4000000) only [aK,bu,bn,bX];have eS:(⟨s.aD,s.dG,s.lk,s.lx,s.ly,s.lz,s.rows,s.iL,s.eU,s.m1,s.m2,s.m3,s.m4⟩:bC)=s:=rfl;have hI:=No s bs l w;have hB:(BH s bs l w=true->False)->(ou s bs l w).1 = []/\(2:Int)=(ou s bs l w).2:=fun h=>by rw [ahu h]; exact⟨rfl,rfl⟩
 simp only [eS];have hcg:(qh s bs l).2=0↔hZ s bs l=true:=by
  constructor
  . intro h
    cases hb:hZ s bs l with
    | true=>rfl
    | false =>
     unfold qh at h;rw [hb] at h;cases h
  . intro h;rw [awZ h oo]
 refine⟨hc,fun c=>hB fun q=>(by rw [hcg.2 (hI.1 q).1] at c; cases c),fun c1=>⟨⟨ht,hw⟩,fun c=>hB fun q=>(by rw [(hI.1 q).2.1] at c; cases c),fun c2=>⟨hf,fun c=>hB fun q=>(by rw [(hI.1 q).2.2.1] at c; cases c),fun c3 => ?_⟩⟩⟩;have d1:hZ s bs l=true:=hcg.1 (by simpa using c1);have d2:mH s.eU w=true:=by simpa using c2
 have d3:gP s.iL=true:=by simpa using c3
 clear c1 c2 c3;obtain⟨r1,r2,r3,r4⟩:=Bw d3;have aI:=xh none s.iL r3;have Au:xg s.iL=cO s.iL:=by
  have h:=aiC s.iL 0 aI ((Mx s.iL).1 d3).2.2.1;show jQ 0 s.iL=_
  omega
 refine⟨⟨aI,oo⟩,fun c=>hB fun q=>(by rw [Au,(hI.1 q).2.2.2,dP rfl] at c; cases c),fun c4=>⟨⟨bO _,rfl,rfl⟩,fun (k:Nat) hk => ?_⟩⟩;have d4:cO s.iL=s.lk:=by
  rw [<- Au];have h:s.lk=xg s.iL:=by simpa using c4
  exact h.symm
 clear c4;have cR:k<=bs.length:=hk;clear hk;have hOk:BH s bs l w=true:=hI.2 ⟨d1,d2,d3,d4⟩;have iG:bs.length<=1000000000000:=hc.2.1.1
 conv=>arg 1; cbv
 simp (maxSteps:=4000000) only [aK,bu,bn,bX];refine⟨fun g=>⟨⟨oo,oo⟩,ii,⟨oo,oo⟩,oo,rfl⟩,fun g => ?_⟩;have OH:k=bs.length:=oo
 subst OH;obtain⟨Q,hQ⟩:∃ Q,Q=l.map (D3 s bs):=⟨_,rfl⟩
 obtain⟨T,hT⟩:∃ T,T=s.eU:=⟨_,rfl⟩
 obtain⟨M,hM⟩:∃ M,M=BN bs bs.length:=⟨_,rfl⟩
 have hQl:Q.length=l.length:=by rw [hQ,fk]
 have hR:ou s bs l w=(Q++l4 T w w.length,0):=by unfold ou; rw [aC hOk,hQ,hT]
 rw [<- hM,<- hT];refine⟨axZ l Q 41,?_⟩
 conv=>arg 1; cbv
 simp (maxSteps:=4000000) only [aK,bu,bn,bX];refine⟨⟨bO _,rfl,rfl⟩,fun (i:Nat) hi => ?_⟩;have zN:i<=l.length:=hi;clear hi
 conv=>arg 1; cbv
 simp (maxSteps:=4000000) only [aK,bu,bn,bX];simp only [hR];refine⟨fun g1 => ?_,fun g1 => ?_⟩
 . have ah:i<l.length:=oo
   have he:=gw Tc.al.aa ah;have hst:=Nl d1;have agn:=Vh hst he;have hhf:=ahf hst he;have hx:=(Nm hst he).2;have Ux:Q.take (i+1)=Q.take i ++ [D3 s bs (l.getD i Tc.al.aa)]:=by
    rw [qa Tc.wx.aa oo];congr 2;rw [hQ,aX,ga,aX,bc ah];rfl
   have hk:=axX d1 he;rw [<- hM] at hk;have er:Tc.int.aa=0:=rfl;rw [Ux,er,hk];generalize l.getD i Tc.al.aa=e at *
   have nZ:((s.aD.getD e.au.toNat Tc.au.aa).x+bif decide (e.half=((0:Nat):Int)) then 0 else bif decide (e.half=((1:Nat):Int)) then 3050 else -3050)=jT (s.aD.getD e.au.toNat Tc.au.aa) e.half:=by
    unfold jT;have:e.half=0\/e.half=1\/e.half=2:=oo
    rcases this with h|h|h<;>rw [h]
    . show _+0=_
      exact Int.add_zero _
    . rfl
    . rfl
   rw [nZ];have hb : -600000<=jT (s.aD.getD e.au.toNat Tc.au.aa) e.half/\jT (s.aD.getD e.au.toNat Tc.au.aa) e.half<=600000:=by
    rw [<- nZ];generalize (s.aD.getD e.au.toNat Tc.au.aa).x=X at *
    cases decide (e.half=((0:Nat):Int))<;>cases decide (e.half=((1:Nat):Int))<;>simp only [eG,gj]<;>omega
   exact⟨⟨oo,oo⟩,⟨oo,oo⟩,⟨oo,oo⟩,ii,by simp only [cL,cB,ej]; omega,ii,⟨oo,oo⟩,oo,rfl⟩
 have sX:i=l.length:=oo
 subst sX;refine⟨ax0 T w Q 41,?_⟩
 conv=>arg 1; cbv
 simp (maxSteps:=4000000) only [aK,bu,bn,bX];refine⟨⟨bO _,rfl,?_⟩,fun (j:Nat) hj => ?_⟩
 . rw [jC oo];exact (oz Q).symm
 have rL:j<=w.length:=hj;clear hj
 conv=>arg 1; cbv
 simp (maxSteps:=4000000) only [aK,bu,bn,bX];have D7:=(vu s.eU w).1 d2;have ax2:=((Bn s.eU).1 D7.1).1;rw [<- hT] at D7 ax2;have er:Tc.int.aa=0:=rfl;have mj:=Nn T w j;have ji:l4 T w (j+1)=if w.getD j 0=0 then l4 T w j else l4 T w j ++ [⟨(T.getD j Tc.di.aa).x,w.getD j 0⟩]:=rfl;simp only [er,hR];have i1:bq ((j:Int)+1):=ii
 have Dv:j<w.length->0<=w.getD j 0:=fun h=>by
  have h2:=D7.2.2 j oo;unfold vr gY at h2;simp only [ax,aL] at h2;exact h2.1
 refine⟨fun g2=>⟨⟨oo,oo⟩,fun c => ?_,fun c => ?_⟩,fun g2 => ?_⟩
 . rw [aw oo] at ji;rw [ji,fR];exact⟨⟨oo,oo⟩,by simp only [dp,cB,ej]; omega,i1,⟨oo,oo⟩,oo,rfl⟩
 . have:=Dv oo;rw [aC oo] at ji;rw [ji];exact⟨i1,⟨oo,oo⟩,oo,rfl⟩
 . rw [show j=w.length from oo]
def aiF:aN:=u5 22 tF r7 y0 u6 (fun s bs l w=>(od (s ())/\vA (bs ())/\(l ()).length<=40)/\(s ()).eU.length<=1000000000000/\(s ()).iL.length<=1000000000000/\(w ()).length<=1000000000000) (fun s bs l w => .ba [.sl true .cr fun _=>(zq (s ()) (bs ()) (l ()) (w ())).1.map ze,.int .i64 fun _=>(zq (s ()) (bs ()) (l ()) (w ())).2])
theorem ax3:aU Tryz.prog aiF:=by
 refine fH { kp := [(0,[0,1,2,3]),(1,[1,2,3,4]),(2,[4,10,11]),(3,[11]),(4,[4,10])] } [Wk,MK] ⟨aiD,Us,trivial⟩ [] trivial Tryz.func22 (by kernel_rfl) fun ai res h hp => ?_;obtain⟨(s:bC),(bs:List aJ),(l:List az),(w:List Int),rfl,rfl⟩:=yY h;clear h;have fX:=hp;have xt:(od s/\vA bs/\l.length<=40)/\s.eU.length<=1000000000000/\s.iL.length<=1000000000000/\w.length<=1000000000000:=hp;have hc:=xt.1;have ht:=xt.2.1;have hf:=xt.2.2.1;have hw:=xt.2.2.2;refine⟨[],?_⟩
 conv=>arg 1; cbv
 simp (maxSteps:=4000000) only [aK,bu,bn,bX];have eS:(⟨s.aD,s.dG,s.lk,s.lx,s.ly,s.lz,s.rows,s.iL,s.eU,s.m1,s.m2,s.m3,s.m4⟩:bC)=s:=rfl;simp only [eS];have hlen:=aw0 (s:=s) (bs:=bs) (w:=w) (l:=l) oo;refine⟨fX,fun c => ?_,fun c=>⟨⟨hf,oo⟩,?_⟩⟩
 . have h0:¬ (ou s bs l w).2=0:=by simpa using c
   unfold zq;rw [aw h0];exact⟨rfl,rfl⟩
 . have h0:(ou s bs l w).2=0:=by simpa using c
   unfold zq;rw [aC h0,aib];exact⟨rfl,rfl⟩
def BO(f:aY)(n:Int):Bool:=decide (0<(I0 ⟨false,f.num,f.den⟩ (cS n)).1)
def vH(s:kd):Bool := !s.cM.right || !s.cy.right
def Wl:kd:=⟨py,py⟩
def D8(l:List ar)(ss:List kd)(i:Nat):Bool:=BO (ss.getD i Wl).cM (l.getD i ⟨0,0,0,0,0⟩).cM||BO (ss.getD i Wl).cy (l.getD i ⟨0,0,0,0,0⟩).cy
def sO(l:List ar)(ss:List kd)(k:Nat):List Nat:=(List.range k).filter (D8 l ss)
def BP(l:List ar)(ss:List kd):List Int×Int :=
 if !gP l||decide (ss.length≠l.length)||ss.any vH then ([],2) else ((sO l ss ss.length).map (fun i:Nat=>(i:Int)),0)
theorem ax4(l:List ar)(ss:List kd)(k:Nat):sO l ss (k+1)=if D8 l ss k then sO l ss k ++ [k] else sO l ss k:=by
 unfold sO;rw [um,BZ];cases h:D8 l ss k<;>simp [List.filter,h]
theorem ax5(l:List ar)(ss:List kd)(k:Nat):(sO l ss k).length<=k:=by
 have:=List.length_filter_le (D8 l ss) (List.range k);simpa [sO] using this
def AV.Wm:AV->Option (Unit->mb)
 | .agg l=>match wu (l.take 17),wu (l.drop 17) with
  | some a,some b=>some fun _=>⟨a (),b ()⟩
  | _,_=>none
 | _=>none
theorem AV.ax6{x:AV}{n:Unit->mb}(h:x.Wm=some n):x = .agg (aP false .cr n):=by
 unfold AV.Wm at h;split at h
 . rename_i l;split at h
   . rename_i a b ha hb;cases h;have e:aP false .cr (fun _=>(⟨a (),b ()⟩:mb))=aP false .kZ a++aP false .kZ b:=rfl;rw [e,(Ab ha).1,(Ab hb).1,jB]
   . cases h
 . cases h
abbrev ax7:Kd:=⟨mb,.agg (LR++LR),fun n => .agg (aP false .cr n),AV.Wm,AV.ax6⟩
theorem aiG(x):(⟨⟨x.cM.neg,x.cM.n0,x.cM.n1,x.cM.n2,x.cM.n3,x.cM.n4,x.cM.n5,x.cM.n6,x.cM.n7,x.cM.d0,x.cM.d1,x.cM.d2,x.cM.d3,x.cM.d4,x.cM.d5,x.cM.d6,x.cM.d7⟩,⟨x.cy.neg,x.cy.n0,x.cy.n1,x.cy.n2,x.cy.n3,x.cy.n4,x.cy.n5,x.cy.n6,x.cy.n7,x.cy.d0,x.cy.d1,x.cy.d2,x.cy.d3,x.cy.d4,x.cy.d5,x.cy.d6,x.cy.d7⟩⟩:mb)=x:=rfl
def BQ(x:mb):Prop:=iM x.cM/\iM x.cy
def strOf(x:mb):kd:=⟨bj x.cM,bj x.cy⟩
def aiH:aN:=c6 90 nk kI (fun f n=>iM (f ())/\bq (n ())) (fun f n => .bool fun _=>BO (bj (f ())) (n ()))
theorem ax8:aU Tryz.prog aiH:=by
 refine fH { kp := [(0,[0,1]),(1,[1,2]),(2,[1,2]),(3,[5])],lt := [(2,⟨[0,1,2,3,4,5,6,7,8],[0,1,2,3,4,5,6,7,8],[],[],[]⟩)] } [G8,adF] ⟨Mg,arQ,trivial⟩ [] trivial Tryz.func90 (by kernel_rfl) fun ai res h hp => ?_;obtain⟨(f:bB),(n:Int),rfl,rfl⟩:=dh h;clear h;refine⟨[],?_⟩
 conv=>arg 1; cbv
 simp (maxSteps:=4000000) only [aK,bu,bn,bX];have hn:=u9 hp.2;simp only [wY,tG,hn,bn];exact⟨hp.2,hp.1,rfl⟩
def aiI:aN:=fY 88 ax7 (fun x=>BQ (x ())) (fun x => .bool fun _=>vH (strOf (x ())))
theorem ax9:aU Tryz.prog aiI:=by
 refine fH { kp := [(0,[0]),(1,[1])] } [A8] ⟨DF,trivial⟩ [] trivial Tryz.func88 (by kernel_rfl) fun ai res h hp => ?_;obtain⟨(x:mb),rfl,rfl⟩:=gM h;clear h;refine⟨[],?_⟩
 conv=>arg 1; cbv
 simp (maxSteps:=4000000) only [aK,bu,bn,bX];simp only [u7];unfold vH strOf;refine⟨hp.1,fun h => ?_,fun h=>⟨hp.2,?_⟩⟩
 . rw [h]; rfl
 . rw [h]; rfl
def aiJ:aN:=c6 151 SS (wW 88) (fun l _=>(l ()).length<=1000000000000/\∀ x∈l (),BQ x) (fun l _ => .int .i64 fun _=>idx (fun x=>vH (strOf x)) (l ()))
theorem aya:aU Tryz.prog aiJ:=by
 refine cD [aiI] ⟨ax9,trivial⟩ Tryz.func151 (by kernel_rfl) fun ai res h hp => ?_;obtain⟨(l:List mb),(f:Unit),rfl,rfl⟩:=dh h;clear h;have kL:l.length<=1000000000000/\∀ x∈l,BQ x:=hp;have hl:=kL.1;have aI:=kL.2;refine⟨[(2,Hj 8 l fun j=>vH (strOf (l.getD j Tc.cr.aa))=false)],?_⟩
 conv=>arg 1; cbv
 simp (maxSteps:=4000000) only [aK,bu,bn,bX];refine⟨⟨⟨bO _,fun j hj=>absurd hj (rz _)⟩,rfl⟩,fun (k:Nat) hk => ?_⟩;have cp:k<=l.length/\∀ j,j<k->vH (strOf (l.getD j Tc.cr.aa))=false:=hk;have cR:=cp.1;have bU:=cp.2
 conv=>arg 1; cbv
 simp (maxSteps:=4000000) only [aK,bu,bn,bX];simp only [aiG];refine⟨fun g=>⟨⟨oo,oo⟩,aI _ (gw Tc.cr.aa oo),fun c => ?_,fun c => ?_⟩,fun g => ?_⟩
 . exact (Mn bU oo c).symm
 . exact aen hl oo bU c
 . exact (Mo bU oo).symm
def aiK:aN:=c6 87 SS (wW 88) (fun l _=>(l ()).length<=1000000000000/\∀ x∈l (),BQ x) (fun l _ => .bool fun _=>(l ()).any fun x=>vH (strOf x))
theorem ayb:aU Tryz.prog aiK:=by
 refine cD [aiJ] ⟨aya,trivial⟩ Tryz.func87 (by kernel_rfl) fun ai res h hp => ?_;obtain⟨(l:List mb),(f:Unit),rfl,rfl⟩:=dh h;clear h;refine⟨[],?_⟩
 exact no_implicit_lambda% Mw
def ayc(l:List ar)(S:List kd)(n:Nat)(T:Nat):Lp where
 X:=Nat
 ov k := [(25,.int .i64 fun _=>(k:Int)),(6,.own 0)]
 oe k := [(0,.row true .int T fun _=>(sO l S k).map fun i:Nat=>(i:Int))]
 I k:=k<=n
 μ k _:=n - k
 x0:=0
 nx:=some fun k=>k+1
def aiL:aN:=c6 36 Dn SS (fun l ss=>(l ()).length<=1000000000000/\(ss ()).length<=1000000000000/\∀ x∈ss (),BQ x) (fun l ss => .ba [.sl true .int fun _=>(BP (l ()) ((ss ()).map strOf)).1,.int .i64 fun _=>(BP (l ()) ((ss ()).map strOf)).2])
theorem ayd:aU Tryz.prog aiL:=by
 refine fH { kp := [(0,[0,1]),(1,[0,1]),(2,[]),(3,[0,1]),(4,[0,1,6]),(5,[0,6,23,24,25]),(6,[0,6,23,24,25]),(7,[0,6,7,8,23,24,25]),(8,[0,6,7,23,24,25]),(9,[0,6,23,24,25]),(10,[6])],lt := [(7,⟨[0,1,2,3,4,5,6,7,8,9,10,11,12,13,14,15,16,17],[0,1,2,3,4,5,6,7,8,9,10,11,12,13,14,15,16,17],[],[],[]⟩)] } [My,aiK,aiH] ⟨Uk,ayb,ax8,trivial⟩ [] trivial Tryz.func36 (by kernel_rfl) fun ai res h hp => ?_;obtain⟨(l:List ar),(ss:List mb),rfl,rfl⟩:=dh h;clear h;have kL:l.length<=1000000000000/\ss.length<=1000000000000/\∀ x∈ss,BQ x:=hp;have hl:=kL.1;have hs:=kL.2.1;have aI:=kL.2.2;obtain⟨S,hS⟩:∃ S,S=ss.map strOf:=⟨_,rfl⟩
 obtain⟨n,hn⟩:∃ n,n=ss.length:=⟨_,rfl⟩
 have hSl:S.length=n:=by rw [hS,fk,hn]
 have rX:(ss.any fun x=>vH (strOf x))=S.any vH:=by rw [hS,List.any_map]; rfl
 refine⟨[(5,ayc l S n 3)],?_⟩
 conv=>arg 1; cbv
 simp (maxSteps:=4000000) only [aK,bu,bn,bX];rw [<- hS,rX,<- hn];have nu:(!gP l||decide (S.length≠l.length)||S.any vH)=true->BP l S=([],2):=fun h=>by unfold BP; rw [aC h]
 refine⟨hl,fun c=>by rw [nu (by rw [c]; rfl)]; exact⟨rfl,rfl⟩,fun c1=>⟨fun c => ?_,fun c2=>⟨⟨oo,aI⟩,fun c=>by rw [nu (by rw [c,Ob])]; exact⟨rfl,rfl⟩,fun c3=>⟨⟨bO _,rfl,rfl⟩,fun (k:Nat) hk => ?_⟩⟩⟩⟩
 . have h:¬(n:Int)=l.length:=by simpa using c
   rw [nu (by rw [dP (show S.length≠l.length from oo),Ob]; rfl)];exact⟨rfl,rfl⟩
 have cR:k<=n:=hk;clear hk;have hr:gP l=true:=by simpa using c1
 have oN:n=l.length:=by
  have h:(n:Int)=l.length:=by simpa using c2
  omega
 have Hp:BP l S=((sO l S n).map (fun i:Nat=>(i:Int)),0):=by
  unfold BP;rw [aw,hSl];rw [hr,c3,jW (show ¬S.length≠l.length from oo)];decide
 conv=>arg 1; cbv
 simp (maxSteps:=4000000) only [aK,bu,bn,bX];simp only [u7,aiG];rw [Hp,<- hn];refine⟨fun g => ?_,fun g => ?_⟩
 . have gD:k<ss.length:=oo
   have hx:S.getD k Wl=strOf (ss.getD k Tc.cr.aa):=by
    rw [hS,aX,ga,aX,bc gD];rfl
   have qO:=aI _ (gw Tc.cr.aa gD);have yn:=xh none l (Bw hr).2.2.1 _ (gw Tc.bZ.aa (show k<l.length from oo));unfold ar.ok at yn;simp only [ax,aL] at yn;have NI:D8 l S k=(BO (bj (ss.getD k Tc.cr.aa).cM) (l.getD k Tc.bZ.aa).cM||BO (bj (ss.getD k Tc.cr.aa).cy) (l.getD k Tc.bZ.aa).cy):=by
    unfold D8;rw [hx];rfl
   have hlen:=ax5 l S k;have lC:=ax4 l S k;rw [NI] at lC;have i1:bq ((k:Int)+1):=ii
   have qG:((List.map NatCast.natCast (sO l S k):List Int).length + [(k:Int)].length)*8<=140737488355328:=by simp only [fk,cB,ej]; omega
   have yes:(BO (bj (ss.getD k Tc.cr.aa).cM) (l.getD k Tc.bZ.aa).cM||BO (bj (ss.getD k Tc.cr.aa).cy) (l.getD k Tc.bZ.aa).cy)=true->List.map NatCast.natCast (sO l S k) ++ [(k:Int)]=List.map NatCast.natCast (sO l S (k+1)):=fun h=>by
    rw [lC,aC h,jg];rfl
   refine⟨⟨oo,oo⟩,⟨oo,oo⟩,⟨qO.1,ii⟩,fun c=>⟨qG,i1,⟨oo,oo⟩,oo,yes (by rw [c]; rfl)⟩,fun c=>⟨⟨oo,oo⟩,⟨qO.2,ii⟩,fun d=>⟨qG,i1,⟨oo,oo⟩,oo,yes (by rw [d,Ob])⟩,fun d=>⟨i1,⟨oo,oo⟩,oo,?_⟩⟩⟩;rw [lC,c,d];rfl
 . have dN:k=n:=oo
   rw [dN];exact⟨rfl,rfl⟩
end Go.Proofs.YtamjbkaclhgffaaGreat
