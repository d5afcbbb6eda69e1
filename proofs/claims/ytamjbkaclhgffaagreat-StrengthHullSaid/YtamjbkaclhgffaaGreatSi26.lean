/-
  Contracts of ship: is a ship right?
-/
import Derived.Test.YtamjbkaclhgffaaGreatSi25
set_option linter.all false
set_option maxRecDepth 100000
set_option maxHeartbeats 4000000
namespace Go.Proofs.YtamjbkaclhgffaaGreat
open Go.RowKit
variable{t z:Int}{key y:List Kx}{i j:Nat}{α:Type}{s:bC}{x:lK}
def nC(ks:List (List Kx)):List Kx->Option Int:=fun k=>if ks.count k=0 then none else some (ks.count k)
theorem UK(ks)(k)(d)(h:d=0):(nC ks k).getD d=ks.count k:=by
 subst h;unfold nC;split
 . rename_i h; rw [h]; rfl
 . rfl
theorem afv(ks)(k):eB (nC ks) k (ks.count k+1)=nC (ks ++ [k]):=by
 funext k';unfold eB nC;rw [List.count_append];by_cases h:k'=k
 . subst h;simp
 . rw [aw h];have:List.count k' [k]=0:=List.count_eq_zero.2 (by simpa using h);rw [this,jE]
theorem Hq(m)(k)(x y : α):eB (eB m k x) k y=eB m k y:=by
 funext k';unfold eB;by_cases h:k'=k<;>simp [h]
theorem Hr(m)(k)(x : α):eB m k x k=some x:=by unfold eB; rw [aC rfl]
def fK(c:dv):List Kx := [.i .i64 c.cX,.i .i64 c.row,.i .i64 (cond c.fl 1 0)]
def eE(x:lK):List (List Kx):=x.rows.map fun r => [.i .i64 x.cX,.i .i64 r,.i .i64 2]
def nD(x:lK):Bool:=decide (0<=x.cX)&&decide (x.cX<40)&&(!decide (x.rows.length=0)&&lZ 30 x.rows)
def vx(s:bC):List (List Kx):=s.aD.map fK++s.dG.flatMap eE
def im(s:bC):Bool:=decide (1<=s.aD.length)&&(decide (s.aD.length<=200)&&decide (s.dG.length<=40))&&(s.aD.all jR&&(s.dG.all nD&&decide (vx s).Nodup))
theorem afw(c):(⟨c.cX,c.row,c.fl,c.cY,c.ma,c.xP,c.xQ,c.xR,c.fT,c.x,c.y,c.z⟩:dv)=c:=rfl
theorem aui(h:j<x.rows.length):(eE x).take (j+1)=(eE x).take j ++ [[Kx.i IntKind.i64 x.cX,Kx.i IntKind.i64 (x.rows.getD j Tc.int.aa),Kx.i IntKind.i64 2]]:=by
 unfold eE;rw [<- IP,<- IP,qa Tc.int.aa h,jg];rfl
theorem afx:∀ (l:List lK),(∀ y∈l,y.rows.length<=1000000000000)->(l.flatMap eE).length<=l.length*1000000000000
 | [],_=>by simp
 | y::l,h=>by
  have e3:=h y (.head _);have e4:=afx l fun z hz=>h z (.tail _ hz);simp only [List.flatMap_cons,dp,cB,eE,fk] at e4 ⊢;omega
theorem afy(key)(l:List (List Kx))(h:l.length<=1000000000000000):bq (l.count key+1):=by
 have:=List.count_le_length (a:=key) (l:=l);unfold bq;omega
theorem auj(h:key∈vx s):dC (Kc.arr 3 (Lk.int IntKind.i64)).ls key=true:=by
 unfold vx at h;rcases iU.1 h with h|h
 . obtain⟨c,_,rfl⟩:=gi.1 h;rfl
 . obtain⟨x,_,h⟩:=WG.1 h;obtain⟨r,_,rfl⟩:=gi.1 h;rfl
def afz:aN:=fY 171 tF (fun s=>(∀ c∈(s ()).aD,c.fT.length<=1000000000000/\bq c.cY)/\∀ x∈(s ()).dG,x.rows.length<=1000000000000) (fun s => .bool fun _=>im (s ()))
def auk(s:bC):Lp where
 X:=Nat
 ov k := [(33,.int .i64 fun _=>(k:Int))]
 oe k := [(1,.map true false (.arr 3 (.int .i64)) .int 286 fun _=>nC ((s.aD.take k).map fK))]
 I k:=k<=s.aD.length/\(s.aD.take k).all jR=true
 μ k _:=s.aD.length - k
 x0:=0
 nx:=some fun k=>k+1
def aul(s:bC):Lp where
 X:=Nat
 ov k := [(57,.int .i64 fun _=>(k:Int))]
 oe k := [(1,.map true false (.arr 3 (.int .i64)) .int 286 fun _=>nC (s.aD.map fK++(s.dG.take k).flatMap eE))]
 I k:=k<=s.dG.length/\(s.dG.take k).all nD=true
 μ k _:=s.dG.length - k
 x0:=0
 nx:=some fun k=>k+1
def aum(s:bC)(k:Nat)(x:lK):Lp where
 X:=Nat
 ov j := [(78,.int .i64 fun _=>(j:Int))]
 oe j := [(1,.map true false (.arr 3 (.int .i64)) .int 286 fun _=>nC (s.aD.map fK++(s.dG.take k).flatMap eE++(eE x).take j))]
 I j:=j<=x.rows.length/\∀ i,i<j->qY 30 x.rows i=true
 μ j _:=x.rows.length - j
 x0:=0
 nx:=some fun j=>j+1
def aun(ks:List (List Kx))(n:Nat):Lp where
 X:=List (List Kx)×Nat
 ov _ := []
 oe p := [(2,.iter 1 (.arr 3 (.int .i64)) (fun _=>p.1) fun _=>p.2)]
 I p:=∀ key∈p.1,∀ x,nC ks key=some x->x<=1
 μ p _:=p.2
 x0:=([],n)
 nx:=none
theorem auo:aU Tryz.prog afz:=by
 refine cD [afu] ⟨auh,trivial⟩ Tryz.func171 (by kernel_rfl) fun ai res h hp => ?_;obtain⟨(s:bC),rfl,rfl⟩:=gM h;clear h;have eM:(∀ c∈s.aD,c.fT.length<=1000000000000/\bq c.cY)/\∀ x∈s.dG,x.rows.length<=1000000000000:=hp;have h1:=eM.1;have h2:=eM.2;refine⟨[(5,auk s),(15,aul s)],?_⟩
 conv=>arg 1; cbv
 refine⟨fun g1 => ?_,fun g1=>⟨fun g2 => ?_,fun g2=>⟨fun g3 => ?_,fun g3=>⟨?_,fun (k:Nat) hk => ?_⟩⟩⟩⟩
 . simp (maxSteps:=4000000) only [aK];simp only [aL] at g1;unfold im;grind
 . simp (maxSteps:=4000000) only [aK];simp only [aL] at g2;unfold im;grind
 . simp (maxSteps:=4000000) only [aK];simp only [aL] at g3;unfold im;grind
 . simp (maxSteps:=4000000) only [aK];exact⟨⟨bO _,rfl⟩,rfl,rfl⟩
 simp only [fQ,gX] at g1 g2 g3;have cp:k<=s.aD.length/\(s.aD.take k).all jR=true:=hk;have cR:=cp.1;have bU:=cp.2
 conv=>arg 1; cbv
 refine⟨fun g4 => ?_,fun g4 => ?_⟩
 . simp only [aL,gX] at g4;have ah:k<s.aD.length:=oo
   have gW:=gw Tc.au.aa ah;have hZp:=h1 _ gW;have oV:=hZp.1;have fX:=hZp.2;simp (maxSteps:=4000000) only [aK];simp only [Hr,Hq,ia,UK _ _ Tc.int.aa rfl];simp only [afw];have hA:=Ua (p:=jR) (d:=Tc.au.aa) ah;have hB:=Mv (d:=Tc.au.aa) bU ah;have hS:s.aD.all jR=false->im s=false:=fun h=>by unfold im; rw [h]; simp
   have hC:∀ key,bq (((List.map fK (List.take k s.aD)).count key:Int)+1):=fun key=>afy key _ (by simp; omega);have hM:List.map fK (List.take (k+1) s.aD)=List.map fK (List.take k s.aD) ++ [fK (s.aD.getD k Tc.au.aa)]:=by rw [qa Tc.au.aa ah,jg]; rfl
   rw [hM,<- afv];have yJ:(s.aD.getD k Tc.au.aa).fl=true->fK (s.aD.getD k Tc.au.aa) = [Kx.i IntKind.i64 (s.aD.getD k Tc.au.aa).cX,Kx.i IntKind.i64 (s.aD.getD k Tc.au.aa).row,Kx.i IntKind.i64 1]:=fun h=>by unfold fK; rw [h]; rfl
   have yK:(s.aD.getD k Tc.au.aa).fl=false->fK (s.aD.getD k Tc.au.aa) = [Kx.i IntKind.i64 (s.aD.getD k Tc.au.aa).cX,Kx.i IntKind.i64 (s.aD.getD k Tc.au.aa).row,Kx.i IntKind.i64 0]:=fun h=>by unfold fK; rw [h]; rfl
   have aAq:bq ((k:Int)+1):=⟨oo,oo⟩
   generalize s.aD.getD k Tc.au.aa=c at *
   generalize List.map fK (List.take k s.aD)=L at *
   refine⟨⟨oo,g4⟩,fun hd => ?_,fun hd => ?_⟩
   . have hk:=yJ hd;rw [<- hk];generalize fK c=key at *
     clear yJ yK;grind
   . have hk:=yK hd;rw [<- hk];generalize fK c=key at *
     clear yJ yK;grind
 have jJ:s.aD.length<=k:=by simp only [fQ,gX] at g4; omega
 have aup:s.aD.all jR=true:=Ub bU jJ;have iz:List.map fK (List.take k s.aD)=s.aD.map fK:=by rw [jC jJ]
 clear g4;refine⟨?_,fun (m:Nat) hm => ?_⟩
 . simp (maxSteps:=4000000) only [aK];rw [iz];refine⟨⟨bO _,rfl⟩,rfl,?_⟩;simp
 have afB:m<=s.dG.length/\(s.dG.take m).all nD=true:=hm;have FK:=afB.1;have C2:=afB.2
 conv=>arg 1; cbv
 refine⟨fun g4 => ?_,fun g4 => ?_⟩
 . simp only [aL,gX] at g4;have ah:m<s.dG.length:=oo
   have gW:=gw Tc.eQ.aa ah;have fX:=h2 _ gW;have hA:=Ua (p:=nD) (d:=Tc.eQ.aa) ah;have hB:=Mv (d:=Tc.eQ.aa) C2 ah;have hS:s.dG.all nD=false->im s=false:=fun h=>by unfold im; rw [h]; simp
   refine⟨⟨Wy m,g4⟩,fun g5 => ?_,fun g5=>⟨fun g6 => ?_,fun g6=>⟨fun g7 => ?_,fun g7 => ?_⟩⟩⟩
   all_goals simp only [aL,fQ,gX,fE] at *
   . exact UL
   . exact UL
   . exact UL
   . refine bW (s.dG.getD m Tc.eQ.aa) fun x hx => ?_;refine⟨aum s m x,?_⟩
     conv=>arg 1; cbv
     have uT:nD (s.dG.getD m Tc.eQ.aa)=lZ 30 (s.dG.getD m Tc.eQ.aa).rows:=by
      unfold nD;grind
     rw [hx] at uT hA hB fX gW;refine⟨?_,fun (j:Nat) hj => ?_⟩
     . simp (maxSteps:=4000000) only [aK];refine⟨⟨bO _,by simp⟩,rfl,?_⟩;simp
     have zg:j<=x.rows.length/\∀ i,i<j->qY 30 x.rows i=true:=hj;have rL:=zg.1;have mf:=zg.2
     conv=>arg 1; cbv
     simp (maxSteps:=4000000) only [aK];rw [hx];simp only [Hr,Hq,ia,UK _ _ Tc.int.aa rfl];have auq:bq ((m:Int)+1):=⟨oo,oo⟩
     refine⟨fun g8 => ?_,fun g8 => ?_⟩
     . have h8:j<x.rows.length:=oo
       have aAr:bq ((j:Int)+1):=⟨oo,oo⟩
       have hC:∀ key,bq (((List.map fK s.aD++List.flatMap eE (List.take m s.dG)++List.take j (eE x)).count key:Int)+1):=fun key=>by
        refine afy key _ ?_;have e5:=afx (List.take m s.dG) fun y hy=>h2 y (sR hy);have e6:(List.take m s.dG).length<=40:=by rw [cL]; omega
        have e7:(List.take j (eE x)).length<=1000000000000:=by
         rw [cL]; omega
        simp only [dp,fk];omega
       rw [aui h8,<- fR,<- afv];have ha:=afp (t:=30) h8;have hb:=vm (k:=j) mf;have he:qY 30 x.rows j=((decide (0<=x.rows.getD j Tc.int.aa)&&decide (x.rows.getD j Tc.int.aa<=30))&&(decide (j=0)||decide (x.rows.getD (j - 1) Tc.int.aa<x.rows.getD j Tc.int.aa))):=rfl;generalize x.rows.getD j Tc.int.aa=u at *
       generalize x.rows.getD (j - 1) Tc.int.aa=v at *
       generalize List.map fK s.aD++List.flatMap eE (List.take m s.dG)++List.take j (eE x)=L at *
       generalize [Kx.i IntKind.i64 x.cX,Kx.i IntKind.i64 u,Kx.i IntKind.i64 2]=key at *
       generalize qY 30 x.rows=R at *
       generalize lZ 30 x.rows=RR at *
       clear gW hx mf;have hjp:0<(j:Int)->bq ((j:Int) - 1):=fun h=>⟨oo,oo⟩
       grind
     . have h8:x.rows.length<=j:=oo
       have hr:=afq h8 mf;rw [<- uT] at hr;have hT:(eE x).take j=eE x:=jC (by unfold eE; rw [fk]; exact h8);have hU:List.flatMap eE (List.take (m+1) s.dG)=List.flatMap eE (List.take m s.dG)++eE x:=by
        rw [qa Tc.eQ.aa ah,hx,WA];simp
       rw [hT,hU,<- fR];exact⟨auq,⟨⟨ah,hB hr⟩,oo⟩,oo,rfl⟩
 . have Hs:s.dG.length<=m:=by simp only [fQ,gX] at g4; omega
   have aur:s.dG.all nD=true:=Ub C2 Hs;have hT:List.take m s.dG=s.dG:=jC Hs;clear g4;intro n _;refine bW (vx s) fun ks m9 => ?_
   conv=>arg 1; cbv
   refine⟨aun ks n,?_⟩
   conv=>arg 1; cbv
   refine⟨?_,fun (p:List (List Kx)×Nat) hp => ?_⟩
   . exact vn
   have cQ:∀ key∈p.1,∀ x,nC ks key=some x->x<=1:=hp;have UM:nC (List.map fK s.aD++List.flatMap eE (List.take m s.dG))=nC ks:=by rw [hT,<- m9]; rfl
   conv=>arg 1; cbv
   refine⟨fun g5=>fun (u:Unit) hu => ?_,fun g5=>fun (q:List Kx×Nat) hq => ?_⟩
   . conv=>arg 1; cbv
     simp (maxSteps:=4000000) only [aK];have uq:∀ (key:List Kx) (x:Int),dC (Kc.arr 3 (Lk.int IntKind.i64)).ls key=true->nC (List.map fK s.aD++List.flatMap eE (List.take m s.dG)) key=some x->key∈p.1:=hu;rw [UM] at uq;have iK:(vx s).Nodup:=by
      rw [List.nodup_iff_count];intro key;rcases BX (ks.count key) with h0|h0
      . rw [m9,h0]; omega
      . have nY:key∈vx s:=by rw [m9]; exact List.count_pos_iff.1 h0
        have he:nC ks key=some (ks.count key:Int):=by unfold nC; rw [aw oo]
        have:=cQ key (uq key _ (auj nY) he) _ he;rw [m9];omega
     unfold im;rw [aup,aur];simp only [iK,rB,ib];grind
   . have uZ:dC (Kc.arr 3 (Lk.int IntKind.i64)).ls q.1=true/\(nC (List.map fK s.aD++List.flatMap eE (List.take m s.dG)) q.1).isSome=true/\¬ q.1∈p.1/\q.2<p.2:=hq;have q1:=uZ.1;have q2:=uZ.2.1;have q3:=uZ.2.2.1;have q4:=uZ.2.2.2;rw [UM] at q2
     conv=>arg 1; cbv
     simp (maxSteps:=4000000) only [aK];simp only [UM,List.headD_cons,UK _ _ Tc.int.aa rfl];refine⟨by simp,fun h => ?_,fun h => ?_⟩
     . have iK:¬ (vx s).Nodup:=fun hn=>by
        have:=List.nodup_iff_count.1 hn q.1;rw [m9] at this;omega
       unfold im;simp [iK]
     . refine⟨(q.1::p.1,q.2),⟨fun jm e9 x hx => ?_,q4⟩,?_⟩
       . rcases fM.1 e9 with rfl|e9
         . unfold nC at hx;split at hx
           . cases hx
           . cases hx; omega
         . exact cQ jm e9 x hx
       . conv=>arg 1; cbv
         exact vn
def afC(cs:List dv)(i k:Nat):Prop:=¬ ((cs.getD k Tc.au.aa).cX=(cs.getD i Tc.au.aa).cX/\(cs.getD k Tc.au.aa).row=(cs.getD i Tc.au.aa).row/\(cs.getD k Tc.au.aa).fl=(cs.getD i Tc.au.aa).fl)
def aus(cs:List dv)(i:Nat):Prop:=jR (cs.getD i Tc.au.aa)=true/\∀ k,k<i->afC cs i k
def afD(cs:List lK)(i j k:Nat):Prop:=¬ ((cs.getD k Tc.eQ.aa).cX=(cs.getD i Tc.eQ.aa).cX/\(cs.getD k Tc.eQ.aa).rows.any (fun y=>decide (y=(cs.getD i Tc.eQ.aa).rows.getD j Tc.int.aa))=true)
def aut(cs:List lK)(i j:Nat):Prop:=qY 30 (cs.getD i Tc.eQ.aa).rows j=true/\∀ k,k<i->afD cs i j k
def auu(cs:List lK)(i:Nat):Prop:=((0<=(cs.getD i Tc.eQ.aa).cX/\(cs.getD i Tc.eQ.aa).cX<=39)/\¬ (cs.getD i Tc.eQ.aa).rows.length=0)/\∀ j,j<(cs.getD i Tc.eQ.aa).rows.length->aut cs i j
theorem afE{a b:dv}:fK a=fK b↔a.cX=b.cX/\a.row=b.row/\a.fl=b.fl:=by
 unfold fK;cases a.fl<;>cases b.fl<;>simp
theorem nE{l:List α}(d)(h):l.getD i d=l[i]:=by rw [aX,bc h]; rfl
theorem auv(cs):(cs.map fK).Nodup↔∀ i,i<cs.length->∀ k,k<i->afC cs i k:=by
 unfold List.Nodup;rw [ajk,xw];constructor
 . intro h i hi k hk hq;rw [nE _ hi,nE _ (show k<cs.length from oo)] at hq;exact h k i oo hi hk (afE.2 hq)
 . intro h i j hi hj iu hq;refine h j hj i iu ?_;rw [nE _ hi,nE _ hj];exact afE.1 hq
theorem auw{l:List Int}(h:lZ t l=true):∀ j,j<l.length->∀ i,i<j->l.getD i 0<l.getD j 0:=by
 unfold lZ at h;rw [aL] at h;intro j
 induction j with
 | zero=>intro _ i hi; omega
 | succ j ih =>
  intro hj i hi;have h1:=h (j+1) hj;unfold qY at h1;simp only [ax,gR,aL,xx] at h1;have h2:l.getD j 0<l.getD (j+1) 0:=h1.2.resolve_left oo;rcases b9 i j with h3|h3
  . have:=ih oo i h3;omega
  . rw [show i=j from oo]; exact h2
theorem Ht:y∈eE x↔∃ r∈x.rows,y = [.i .i64 x.cX,.i .i64 r,.i .i64 2]:=by
 unfold eE;rw [gi];exact⟨fun ⟨r,h,e⟩=>⟨r,h,e.symm⟩,fun ⟨r,h,e⟩=>⟨r,h,e.symm⟩⟩
theorem auy(h:lZ 30 x.rows=true):(eE x).Nodup:=by
 unfold eE List.Nodup;rw [ajk,xw];intro i j hi hj iu hq;have:=auw h j hj i iu;rw [nE _ hi,nE _ hj] at this;simp only [ry,Kx.i.injEq,bn,bu] at hq;omega
theorem afF{cs:List lK}(h:∀ x∈cs,lZ 30 x.rows=true):(cs.flatMap eE).Nodup↔∀ i,i<cs.length->∀ j,j<(cs.getD i Tc.eQ.aa).rows.length->∀ k,k<i->afD cs i j k:=by
 unfold List.Nodup;rw [List.pairwise_flatMap,xw];constructor
 . intro ⟨_,h2⟩ i hi j hj k hk ⟨h3,h4⟩;rw [N4] at h4;obtain⟨r,h5,h6⟩:=h4;have h6:=rv h6;rw [nE _ hi] at hj h6 h3;rw [nE _ (show k<cs.length from oo)] at h3 h5;refine h2 k i oo hi hk _ (Ht.2 ⟨r,h5,rfl⟩) _ (Ht.2 ⟨r,by rw [h6]; exact gw _ hj,rfl⟩) ?_;rw [h3]
 . intro h2;refine⟨fun x hx=>auy (h x hx),fun k i hk hi Df a ha b hb bk => ?_⟩;obtain⟨r,h3,rfl⟩:=Ht.1 ha;obtain⟨r',h4,rfl⟩:=Ht.1 hb;simp only [ry,Kx.i.injEq,bn,bu] at bk;obtain⟨h5,rfl⟩:=bk;obtain⟨j,hj,h6⟩:=Eh.1 h4;refine h2 i hi j (by rw [nE _ hi]; exact hj) k Df ⟨by rw [nE _ hi,nE _ hk]; exact h5,?_⟩;rw [N4];refine⟨r,by rw [nE _ hk]; exact h3,?_⟩;rw [aL,nE _ hi,nE _ hj];exact h6.symm
theorem auz(cs:List dv)(vs:List lK):∀ a∈cs.map fK,∀ b∈vs.flatMap eE,a≠b:=by
 intro a ha b hb bk;obtain⟨c,_,rfl⟩:=gi.1 ha;obtain⟨v,_,hv⟩:=WG.1 hb;obtain⟨r,_,rfl⟩:=Ht.1 hv;unfold fK at bk;cases hd:c.fl<;>rw [hd] at bk<;>simp at bk
theorem MR{p : α->Bool}{l:List α}(d):l.all p=true↔∀ i,i<l.length->p (l.getD i d)=true:=by
 rw [dL];constructor
 . exact fun h i hi=>h _ (gw d hi)
 . intro h x hx;obtain⟨j,hj,rfl⟩:=Eh.1 hx;have:=h j hj;rwa [nE d hj] at this
theorem afG(s):im s=true↔((1<=s.aD.length/\s.aD.length<=200)/\s.dG.length<=40)/\(∀ i,i<s.aD.length->aus s.aD i)/\∀ i,i<s.dG.length->auu s.dG i:=by
 unfold im vx;simp only [ax,aL,Ek];rw [MR Tc.au.aa,MR Tc.eQ.aa,auv];constructor
 . rintro⟨⟨h1,h2,h3⟩,h4,h5,h6,h7,_⟩
   have hr:∀ x∈s.dG,lZ 30 x.rows=true:=fun x hx=>by
    have:=(MR (p:=nD) Tc.eQ.aa).2 h5;exact afH
   rw [afF hr] at h7;refine⟨⟨⟨h1,h2⟩,h3⟩,fun i hi=>⟨h4 i hi,h6 i hi⟩,fun i hi => ?_⟩;have h8:=h5 i hi;unfold nD at h8;simp only [ax,jf,aL,fQ] at h8;refine⟨⟨⟨h8.1.1,oo⟩,h8.2.1⟩,fun j hj=>⟨?_,h7 i hi j hj⟩⟩;have:=h8.2.2;unfold lZ at this;exact rv this j hj
 . rintro⟨⟨⟨h1,h2⟩,h3⟩,h4,h5⟩
   have h6:∀ i,i<s.dG.length->nD (s.dG.getD i Tc.eQ.aa)=true:=fun i hi=>by
    obtain⟨⟨⟨h7,h8⟩,h9⟩,oF⟩:=h5 i hi;unfold nD lZ;simp only [ax,jf,aL,fQ];exact⟨⟨h7,oo⟩,h9,fun j hj=>(oF j hj).1⟩
   refine⟨⟨h1,h2,h3⟩,fun i hi=>(h4 i hi).1,h6,fun i hi=>(h4 i hi).2,?_,auz _ _⟩;refine (afF fun x hx => ?_).2 fun i hi j hj=>((h5 i hi).2 j hj).2;have:=(MR (p:=nD) Tc.eQ.aa).2 h6;exact afH
def mI(cs:List dv)(bs:List aJ)(l:List az)(k:Nat):Bool :=
 (bK bs (l.getD k Tc.al.aa).box).2&&(decide (k=0)||decide ((l.getD (k - 1) Tc.al.aa).box<(l.getD k Tc.al.aa).box)) &&
 (sk cs (fA (l.getD k Tc.al.aa)) (bK bs (l.getD k Tc.al.aa).box).1.size&&xd (fA (l.getD k Tc.al.aa)) (l.map fA) &&
 decide (∀ j,j<k->kK (fA (l.getD k Tc.al.aa)) ((l.map fA).getD j Tc.slot.aa)=false))
def dO(s:bC)(bs:List aJ)(l:List az):Bool :=
 im s&&(decide (∀ k,k<l.length->mI s.aD bs l k=true)&&decide (∀ c,c<s.aD.length->tU s.aD bs l c=true))
theorem auA{bs:List aJ}{l:List az}{k:Nat}(hk:k<l.length)(h:mI s.aD bs l k=false):dO s bs l=false:=by
 unfold dO;have:decide (∀ k,k<l.length->mI s.aD bs l k=true)=false:=by
  rw [fQ];intro h2;rw [h2 k hk] at h;cases h
 rw [this];simp
theorem auB{x:Slot}(h:im s=true)(hx:sk s.aD x z=true):x.aH<=1000000:=by
 unfold sk at hx;simp only [ax,aL] at hx;obtain⟨h1,h2,h3,h4,h5⟩:=hx;unfold im at h;simp only [ax] at h;have h6:=dL.1 h.2.1 _ (gw Tc.au.aa (show x.au.toNat<s.aD.length from oo));generalize s.aD.getD x.au.toNat Tc.au.aa=c at *
 unfold jR at h6;simp only [ax] at h6;have h7:=dL.1 h6.2 ⟨c.cY,1,10⟩ (by simp [sy]);unfold ny at h7;simp only [ax,aL] at h7;omega
def od(s:bC):Prop:=(∀ c∈s.aD,c.fT.length<=1000000000000/\bq c.cY)/\∀ x∈s.dG,x.rows.length<=1000000000000
def UN:aN:=qR 109 tF r7 y0 (fun s bs l=>od (s ())/\(bs ()).length<=1000000000000/\(l ()).length<=1000000) (fun s bs l => .bool fun _=>dO (s ()) (bs ()) (l ()))
def auC(s:bC)(bs:List aJ)(l:List az):Lp where
 X:=Nat
 ov k := [(22,.int .i64 fun _=>(k:Int))]
 oe _ := []
 I k:=k<=l.length/\∀ j,j<k->mI s.aD bs l j=true
 μ k _:=l.length - k
 x0:=0
 nx:=some fun k=>k+1
def auD(x:Slot)(all:List Slot)(k:Nat):Lp where
 X:=Nat
 ov j := [(71,.int .i64 fun _=>(j:Int))]
 oe _ := []
 I j:=j<=k/\∀ i,i<j->kK x (all.getD i Tc.slot.aa)=false
 μ j _:=k - j
 x0:=0
 nx:=some fun k=>k+1
def auE(s:bC)(bs:List aJ)(l:List az):Lp where
 X:=Nat
 ov k := [(84,.int .i64 fun _=>(k:Int))]
 oe _ := []
 I k:=k<=s.aD.length/\∀ j,j<k->tU s.aD bs l (j:Int)=true
 μ k _:=s.aD.length - k
 x0:=0
 nx:=some fun k=>k+1
theorem afI:aU Tryz.prog UN:=by
 refine cD [afz,aej,TW,ael,ad8,aea,aek] ⟨auo,ath,adW,atj,asS,asU,ati,trivial⟩ Tryz.func109 (by kernel_rfl) fun ai res h hp => ?_;obtain⟨(s:bC),(bs:List aJ),(l:List az),rfl,rfl⟩:=tE h;clear h;have UO:od s/\bs.length<=1000000000000/\l.length<=1000000:=hp;have vW:=UO.1;have sA:=UO.2.1;have hl:=UO.2.2;refine⟨[(5,auC s bs l),(18,auE s bs l)],?_⟩
 conv=>arg 1; cbv
 refine⟨vW,fun g1 => ?_,fun g1=>⟨hl,⟨?_,fun (k:Nat) hk => ?_⟩⟩⟩
 . simp (maxSteps:=4000000) only [aK];unfold dO;simp only [jf] at g1;have tZ:im s=false:=g1;rw [tZ];rfl
 . exact vn
 have By:im s=true:=by
  have tZ:(!im s)=false:=g1;simpa using tZ
 have cp:k<=l.length/\∀ j,j<k->mI s.aD bs l j=true:=hk;have cR:=cp.1;have bU:=cp.2
 conv=>arg 1; cbv
 refine⟨fun g2 => ?_,fun g2 => ?_⟩
 . have ah:k<l.length:=by simp only [aL,gX] at g2; omega
   refine bW (l.getD k Tc.al.aa) fun x hx => ?_;refine bW (l.getD (k - 1) Tc.al.aa) fun y hy => ?_;have lE:mI s.aD bs l k=(((bK bs x.box).2&&(decide (k=0)||decide (y.box<x.box)))&&((sk s.aD (fA x) (bK bs x.box).1.size&&xd (fA x) (l.map fA))&&decide (∀ j,j<k->kK (fA x) ((l.map fA).getD j Tc.slot.aa)=false))):=by rw [<- hx,<- hy]; rfl
   have nu:=auA (s:=s) (bs:=bs) ah;have Hp:=vm (k:=k) bU;refine⟨⟨Wy k,rv g2⟩,sA,fun g3 => ?_,fun g3=>⟨fun g4=>⟨⟨by simp only [gX]; omega,by simp only [gX]; omega⟩,⟨by simp only [aL,gX] at g4 ⊢; omega,by simp only [gX]; omega⟩,fun g5 => ?_,fun g5 => ?_⟩,fun g4 => ?_⟩⟩
   . simp (maxSteps:=4000000) only [aK];refine (nu ?_).symm;have sB:(!(bK bs (l.getD k Tc.al.aa).box).2)=true:=g3;rw [lE,<- hx];grind
   . simp (maxSteps:=4000000) only [aK];refine (nu ?_).symm;have sB:(!(bK bs (l.getD k Tc.al.aa).box).2)=false:=g3;have MT:decide (0<(k:Int))=true:=g4;have DR:decide ((l.getD k Tc.al.aa).box<=(l.getD ((k:Int) - 1).toNat Tc.al.aa).box)=true:=g5;rw [Sc,hx,hy] at DR;rw [lE];grind
   . have ho:(decide (k=0)||decide (y.box<x.box))=true:=by
      have DR:decide ((l.getD k Tc.al.aa).box<=(l.getD ((k:Int) - 1).toNat Tc.al.aa).box)=false:=g5;rw [Sc,hx,hy] at DR;grind
     exact no_implicit_lambda% s_1
   . have ho:(decide (k=0)||decide (y.box<x.box))=true:=by
      have MT:decide (0<(k:Int))=false:=g4;grind
     exact no_implicit_lambda% s_1
 . have jJ:l.length<=k:=by simp only [fQ,gX] at g2; omega
   refine⟨?_,fun (c:Nat) hc => ?_⟩
   . exact vn
   have afK:c<=s.aD.length/\∀ j,j<c->tU s.aD bs l (j:Int)=true:=hc;have gL:=afK.1;have tw:=afK.2
   conv=>arg 1; cbv
   simp (maxSteps:=4000000) only [aK];have hlen:s.aD.length<=200:=by
    unfold im at By;simp only [ax,aL] at By;exact By.1.2.1
   refine⟨fun g3 => ?_,fun g3 => ?_⟩
   . have h3:c<s.aD.length:=oo
     refine⟨⟨sA,hl,oo,g3⟩,fun g4 => ?_,fun g4=>⟨⟨oo,oo⟩,⟨⟨h3,vm tw (by simpa using g4)⟩,oo⟩,oo⟩⟩;unfold dO;have:decide (∀ c,c<s.aD.length->tU s.aD bs l (c:Int)=true)=false:=by
      rw [fQ];intro h;rw [h c h3] at g4;cases g4
     rw [this];simp
   . unfold dO;have e1:decide (∀ k,k<l.length->mI s.aD bs l k=true)=true:=by
      rw [aL];exact fun i hi=>bU i oo
     have e2:decide (∀ c,c<s.aD.length->tU s.aD bs l (c:Int)=true)=true:=by
      rw [aL];exact fun i hi=>tw i oo
     rw [By,e1,e2];rfl
def UP(cs:List dv)(bs:List aJ)(l:List az)(c:Int):Bool := !decide ((cs.getD c.toNat Tc.au.aa).ma=0)&&(decide ((cs.getD c.toNat Tc.au.aa).ma<fy bs l c 1)||decide ((cs.getD c.toNat Tc.au.aa).ma<fy bs l c 2))
theorem auF(A:Option Addr)(c:Nat)(l:List az)(n:Nat)(hn:n=l.length)(w:World)(hA:Rd w w.heap.size 4 A (l.map az.cells))(hl:l.length<=1000000) :
 Calls Tryz.prog 113 #[.slice A n c] w fun e w'=>∃ A' c',e = .returned (.slice A' l.length c')/\cw w' w.heap.size 125 4 A' c' (l.map az.cells)/\Below w.heap.size w w':=by
 subst hn
 cases A with
 | none =>
  have mW:l = []:=by
   rcases l with _|⟨x,l⟩
   . rfl
   . obtain⟨_,_,h,_⟩:=hA 0 x.cells rfl;cases h
  subst mW;have heq:=fun w=>Go.Lib.run_eql_slice_nil (P:=Tryz.prog) w 34 125 none 0 c 0 0 Tryz.underlying34
  go_enter Tryz.func113,Tryz.ntmps113
  go_wp2
  go_ret
  exact⟨none,0,rfl,cw.nil _ _ _ _,cu _ _⟩
 | some ad =>
  have heq:=fun w=>Go.Lib.run_eql_slice_nil (P:=Tryz.prog) w 34 125 (some ad) l.length c 0 0 Tryz.underlying34;have c8:Below w.heap.size w (w.alloc (Obj.cells #[] 125)):=(cu _ _).alloc (aA _) _;have Dw:=aZ ((hA.below c8 (aA _)).more c8.size);have Te:=aZ (cw.Xv w w.heap.size 125 4 (aA _));have GR:=aZ c8;clear hA c8
  go_enter Tryz.func113,Tryz.ntmps113
  go_wp2_with (first
   | (at_builtin; go_loud (refine W5 rfl _ _ rfl az.ei 0 rfl rfl Te.out rfl _ Dw.out (by simp) (az.OO l) (by unfold maxLen; simp; omega) (by simp; omega) GR.out.size ?_); intro A4 c4 w4 Tf hg4 GS))
  go_ret
  exact⟨A4,c4,by simp,by simpa using Tf,GR.out.trans GS⟩
def UQ:fO:=⟨113,[.sl .al],0,fun ai es=>match ai,es with
 | [x],[]=>x.LM.bind fun l=>some ⟨fun _=>(l ()).length<=1000000,.own 0,[(0,.row true .al 125 l)]⟩
 | _,_=>none,false⟩
theorem auG:ij Tryz.prog UQ:=by
 refine⟨fun args w=>yV Tryz.func113 (by kernel_rfl) (by kernel_rfl) args w,fun ai es res h w ρ ra dM nj hE lu jx cP bw hp => ?_⟩;simp only [UQ] at h;split at h
 case h_2=>cases h
 rename_i x;simp only [mQ,bF] at h;obtain⟨l,e0,rfl⟩:=h;obtain rfl:=AV.acg e0;obtain⟨v0,y4,rfl,lT,h0⟩:=hE.head;obtain rfl:=h0.none;obtain⟨A0,q0,rfl,pH,vd⟩:=lT.as9;refine (auF A0 q0 (l ()) _ rfl w vd hp).mono fun e w' ⟨A',c',k1,k2,k3⟩ => ?_;obtain⟨ρ1,fc,hL,hv⟩:=acI (t := .al) (l:=l) az.cells (fun _=>rfl) (fun _=>rfl) (fun l=>cP l (bO _)) nj k3 k2;exact⟨_,ρ1,fc,k1,hL,hv⟩
section
variable{α:Type}
def swapAt(d : α)(l:List α)(j:Nat):List α:=(l.set (j+1) (l.getD j d)).set j (l.getD (j+1) d)
def kN(lt : α -> α->Bool)(d : α)(a:Nat):Nat->List α->List α
 | 0,l=>l
 | j+1,l=>cond (decide (a<j+1)&&lt (l.getD (j+1) d) (l.getD j d)) (kN lt d a j (swapAt d l j)) l
def og(lt : α -> α->Bool)(d : α)(a:Nat)(l:List α):Nat->List α
 | 0=>l
 | n+1=>kN lt d a (a+1+n) (og lt d a l n)
def BA(lt : α -> α->Bool)(d : α)(a b:Nat)(l:List α):List α:=og lt d a l (b - (a+1))
theorem zh(d)(l:List α)(j):(swapAt d l j).length=l.length:=by unfold swapAt; simp
theorem UR(lt)(d)(a):∀ (j) (l:List α),(kN lt d a j l).length=l.length
 | 0,l=>rfl
 | j+1,l=>by
  unfold kN
  cases decide (a<j+1)&&lt (l.getD (j+1) d) (l.getD j d) with
  | true=>rw [eG,UR lt d a j,zh]
  | false=>rfl
theorem MU(lt)(d)(a)(l:List α):∀ n,(og lt d a l n).length=l.length
 | 0=>rfl
 | n+1=>by unfold og; rw [UR,MU lt d a l n]
end
def BC(a b:Int):Int:=cond (decide (a<b)) (-1) (cond (decide (b<a)) 1 0)
def afL:aN:=fY 183 kI (fun _=>True) (fun _ => .aR false)
theorem auH:aU Tryz.prog afL:=by
 refine cD [] trivial Tryz.func183 (by kernel_rfl) fun ai res h hp => ?_;obtain⟨(a:Int),rfl,rfl⟩:=gM h;clear h;refine⟨[],?_⟩
 conv=>arg 1; cbv
 simp [GA,wV]
def afM:aN:=c6 116 kI kI (fun _ _=>True) (fun a b => .int .i64 fun _=>BC (a ()) (b ()))
theorem auI:aU Tryz.prog afM:=by
 refine cD [afL] ⟨auH,trivial⟩ Tryz.func116 (by kernel_rfl) fun ai res h hp => ?_;obtain⟨(a:Int),(b:Int),rfl,rfl⟩:=dh h;clear h;refine⟨[],?_⟩
 conv=>arg 1; cbv
 simp (maxSteps:=4000000) only [aK];unfold BC;grind
def US:aN:=c6 115 ack ack (fun _ _=>True) (fun x y => .int .i64 fun _=>BC (x ()).aH (y ()).aH)
theorem afN:aU Tryz.prog US:=by
 refine cD [afM] ⟨auI,trivial⟩ Tryz.func115 (by kernel_rfl) fun ai res h hp => ?_;obtain⟨(x:az),(y:az),rfl,rfl⟩:=dh h;clear h;refine⟨[],?_⟩
 exact no_implicit_lambda% ME
def jS(a b:az):Bool:=decide (BC a.aH b.aH<0)
def UT:fO:=⟨232,[.zS .al,.int .i64,.int .i64,.fn []],1,fun ai es=>match ai,es with
 | [.own 0,.int .i64 a,.int .i64 b,.fn f []],[(0,.row false .al T l)]=>if f=115 then some ⟨fun _=>0<=a ()/\a ()<=b ()/\b ()<=((l ()).length:Int)/\(l ()).length<=1000000,.ba [],[(0,.row false .al T fun _=>BA jS Tc.al.aa (a ()).toNat (b ()).toNat (l ()))]⟩ else none
 | _,_=>none,true⟩
def auJ(T:Nat)(l:List az)(a b:Nat):Lp where
 X:=Nat
 ov n := [(8,.int .i64 fun _=>((a+1+n:Nat):Int)),(0,.own 0)]
 oe n := [(0,.row false .al T fun _=>og jS Tc.al.aa a l n)]
 I n:=n<=b - (a+1)
 μ n _:=b - (a+1) - n
 x0:=0
 nx:=some fun n=>n+1
def auK(T:Nat)(a i:Nat)(R L1:List az):Lp where
 X:=Nat×List az
 ov p := [(9,.int .i64 fun _=>(p.1:Int)),(0,.own 0)]
 oe p := [(0,.row false .al T fun _=>p.2)]
 I p:=a<=p.1/\p.1<=i/\p.2.length=R.length/\kN jS Tc.al.aa a p.1 p.2=R
 μ p _:=p.1
 x0:=(i,L1)
 nx:=none
theorem auL:ij Tryz.prog UT:=by
 refine Gz [US] ⟨afN,trivial⟩ [] trivial Tryz.func232 (by kernel_rfl) fun ai es res h hp => ?_;simp only [UT] at h;split at h
 case h_2=>cases h
 split at h
 case isFalse=>cases h
 rename_i a b f T l hf;subst hf;cases h;obtain⟨l,rfl⟩:=eta (α:=List az) l;obtain⟨a,rfl⟩:=eta (α:=Int) a;obtain⟨b,rfl⟩:=eta (α:=Int) b;have eM:0<=a/\a<=b/\b<=(l.length:Int)/\l.length<=1000000:=hp;have h1:=eM.1;have h2:=eM.2.1;have h3:=eM.2.2.1;have h4:=eM.2.2.2;obtain⟨a,rfl⟩:=pq h1;obtain⟨b,rfl⟩:=pq (show 0<=b from oo);refine⟨[(1,auJ T l a b)],?_⟩
 conv=>arg 1; cbv
 refine⟨⟨by simp only [gX]; omega,by simp only [gX]; omega⟩,⟨?_,fun (n:Nat) hn => ?_⟩⟩
 . simp (maxSteps:=4000000) only [aK];exact⟨bO _,oo,rfl⟩
 have Lg:n<=b - (a+1):=hn
 conv=>arg 1; cbv
 refine⟨fun g1 => ?_,fun g1 => ?_⟩
 . have tZ:a+1+n<b:=by simp only [aL,gX] at g1; omega
   refine bW (og jS Tc.al.aa a l n) fun L1 UU => ?_;refine bW (a+1+n) fun i hi => ?_;refine bW (kN jS Tc.al.aa a i L1) fun R hR => ?_;have wN:L1.length=l.length:=by rw [<- UU,MU]
   have aAt:R.length=l.length:=by rw [<- hR,UR,wN]
   refine⟨auK T a i R L1,?_⟩
   conv=>arg 1; cbv
   refine⟨?_,fun (p:Nat×List az) hp => ?_⟩
   . simp (maxSteps:=4000000) only [aK];refine⟨⟨oo,aA _,oo,hR⟩,by rw [hi],UU⟩
   . have cQ:a<=p.1/\p.1<=i/\p.2.length=R.length/\kN jS Tc.al.aa a p.1 p.2=R:=hp;have p1:=cQ.1;have p2:=cQ.2.1;have p3:=cQ.2.2.1;have p4:=cQ.2.2.2;clear hn hp cQ eM;have hup:og jS Tc.al.aa a l (n+1)=R:=by rw [<- hR,<- hi,<- UU]; rfl
     have r6:kN jS Tc.al.aa a p.1 p.2=p.2->bq (((a+1+n:Nat):Int)+1)/\(n+1<=b - (a+1)/\b - (a+1) - (n+1)<b - (a+1) - n)/\((a+1+n:Nat):Int)+1=((a+1+(n+1):Nat):Int)/\p.2=og jS Tc.al.aa a l (n+1):=fun h=>by
      rw [p4] at h;exact⟨⟨oo,oo⟩,⟨oo,oo⟩,oo,by rw [hup,h]⟩
     conv=>arg 1; cbv
     refine bW (p.1 - 1) fun j hj => ?_;refine bW (swapAt Tc.al.aa p.2 j) fun L2 qL => ?_;have h5:(p.2.length:Int)<=1000000:=oo
     have Hu:kN jS Tc.al.aa a p.1 p.2=cond (decide (p.1=0)) p.2 (cond (decide (a<p.1)&&jS (p.2.getD p.1 Tc.al.aa) (p.2.getD j Tc.al.aa)) (kN jS Tc.al.aa a j L2) p.2):=by
      rw [<- qL]
      cases hc:p.1 with
      | zero=>rfl
      | succ m =>
       have:j=m:=oo
       subst this;rfl
     have ah:p.1<p.2.length:=oo
     simp (maxSteps:=4000000) only [aK];refine⟨fun g2 => ?_,fun g2=>r6 ?_⟩
     . have o9:a<p.1:=oo
       have mf:p.1=j+1:=oo
       have aT:decide (p.1=0)=false:=by simp; omega
       refine⟨⟨oo,oo⟩,⟨oo,oo⟩,⟨oo,oo⟩,trivial,fun g3 => ?_,fun g3=>r6 ?_⟩
       . refine⟨⟨oo,oo⟩,⟨oo,oo⟩,⟨oo,oo⟩,⟨oo,oo⟩,⟨oo,oo⟩,⟨oo,by rw [nH]; omega⟩,⟨oo,oo⟩,⟨(j,L2),⟨⟨oo,oo,?_,?_⟩,oo⟩,?_⟩⟩
         . rw [<- qL,zh]; exact p3
         . rw [aT,gj,dP o9,eu] at Hu;have sB:jS (p.2.getD p.1 Tc.al.aa) (p.2.getD j Tc.al.aa)=true:=by rw [<- hj]; exact dP g3
           rw [sB,eG] at Hu;rw [<- Hu];exact p4
         . conv=>arg 1; cbv
           simp (maxSteps:=4000000) only [aK];refine⟨oo,?_⟩;rw [<- qL,hj,mf];rfl
       . rw [Hu,aT,gj];have sB:jS (p.2.getD p.1 Tc.al.aa) (p.2.getD j Tc.al.aa)=false:=by rw [<- hj]; exact jW g3
         rw [sB,zC,gj]
     . have o9:decide (a<p.1)=false:=by simp; omega
       rw [Hu,o9,B8,gj];cases decide (p.1=0)<;>rfl
 . simp (maxSteps:=4000000) only [aK];have tZ:¬ a+1+n<b:=by simp only [fQ,gX] at g1; omega
   unfold BA;rw [show b - (a+1)=n from oo]
end Go.Proofs.YtamjbkaclhgffaaGreat
