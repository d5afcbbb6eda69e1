/-
  Contracts of ship: is a column right?
-/
import Derived.Test.YtamjbkaclhgffaaGreatSh29
set_option linter.all false
set_option maxRecDepth 100000
set_option maxHeartbeats 4000000
namespace Go.Proofs.YtamjbkaclhgffaaGreat
open Go.RowKit
variable{t z:Int}{key y:List Kx}{base i j:Nat}{α:Type}{s:bB}{x:gN}
def rT(c:dM):List xC := [⟨c.fI,0,39⟩,⟨c.row,0,30⟩,⟨c.dC,1,10⟩,⟨c.mZ,0,40000⟩,⟨c.uA,0,500000000⟩,⟨c.uB,0,500000000⟩,⟨c.uC,0,1000000000000⟩,⟨c.x,-500000,500000⟩,⟨c.y,-500000,500000⟩,⟨c.z,-500000,500000⟩]
def kD(t:Int)(l:List Int)(i:Nat):Bool:=(decide (0<=l.getD i 0)&&decide (l.getD i 0<=t))&&(decide (i=0)||decide (l.getD (i - 1) 0<l.getD i 0))
def pS(t:Int)(l:List Int):Bool:=decide (∀ i,i<l.length->kD t l i=true)
def jf(c:dM):Bool:=pS (c.dC - 1) c.cf&&(rT c).all nC
theorem Xa{l:List Int}{k:Nat}(hk:k<l.length)(h:kD t l k=false):pS t l=false:=by
 unfold pS;rw [ew];intro h2;rw [h2 k hk] at h;cases h
theorem Xb{l:List Int}{k:Nat}(hk:l.length<=k)(h:∀ j,j<k->kD t l j=true):pS t l=true:=by
 unfold pS;rw [aU];exact fun i hi=>h i oo
def aAd:aC:=cL 211 Ck (fun c=>(c ()).cf.length<=1000000000000/\aP ((c ()).dC - 1)) (fun c => .bool fun _=>jf (c ()))
def aAe(c:dM):Lp where
 X:=Nat
 ov k := [(9,.int .i64 fun _=>(k:Int))]
 oe _ := []
 I k:=k<=c.cf.length/\∀ j,j<k->kD (c.dC - 1) c.cf j=true
 μ k _:=c.cf.length - k
 x0:=0
 nx:=some fun k=>k+1
theorem ajl:aE Tryz.prog aAd:=by
 refine bD [V5] ⟨ahi,trivial⟩ Tryz.func211 (by kernel_rfl) fun ah res h hp => ?_;obtain⟨(c:dM),rfl,rfl⟩:=cS h;clear h;have fy:c.cf.length<=1000000000000/\aP (c.dC - 1):=hp;have h1:=fy.1;have h2:=fy.2;refine⟨[(3,aAe c)],?_⟩
 conv=>arg 1; cbv
 refine⟨?_,fun (k:Nat) hk => ?_⟩
 . exact pM
 . conv=>arg 1; cbv
   have bu:k<=c.cf.length/\∀ j,j<k->kD (c.dC - 1) c.cf j=true:=hk;have bM:=bu.1;have bm:=bu.2;simp (maxSteps:=4000000) only [ay];refine⟨fun h => ?_,fun h => ?_⟩
   . have h3:k<c.cf.length:=oo
     have ha:=Xa (t:=c.dC - 1) h3;have hb:=tQ (k:=k) bm;have hc:jf c=(pS (c.dC - 1) c.cf&&(rT c).all nC):=rfl;have he:kD (c.dC - 1) c.cf k=((decide (0<=c.cf.getD k Tc.int.aa)&&decide (c.cf.getD k Tc.int.aa<=c.dC - 1))&&(decide (k=0)||decide (c.cf.getD (k - 1) Tc.int.aa<c.cf.getD k Tc.int.aa))):=rfl;generalize c.cf.getD k Tc.int.aa=x at *
     generalize c.cf.getD (k - 1) Tc.int.aa=y at *
     rw [hc];clear hc bm;generalize kD (c.dC - 1) c.cf=R at *
     generalize (rT c).all nC=z at *
     simp only [aP,nC,AN,Kw,gU,dE,hZ] at *
     grind
   . have hc:jf c=(rT c).all nC:=by unfold jf; rw [Xb oo bm,fe]
     rw [hc];exact⟨by simp,rfl⟩
def ajm:aC:=⟨211,[],fun
 | [.agg [.int .i64 a,.int .i64 b,.bool d,.lit .i64 n,.int .i64 h,.int .i64 i,.int .i64 j,.int .i64 k,.sl false .int l,.int .i64 x,.int .i64 y,.int .i64 z]]=>if n = -9223372036854775808 then some ⟨fun _=>(l ()).length<=1000000000000,.bool fun _=>false⟩ else none
 | _=>none⟩
def aAf(l:List Int):Lp where
 X:=Nat
 ov k := [(9,.int .i64 fun _=>(k:Int))]
 oe _ := []
 I k:=k<=l.length
 μ k _:=l.length - k
 x0:=0
 nx:=some fun k=>k+1
theorem aAg:aE Tryz.prog ajm:=by
 refine bD [V5] ⟨ahi,trivial⟩ Tryz.func211 (by kernel_rfl) fun ah res h hp => ?_;simp only [ajm] at h;split at h
 case h_2=>cases h
 rename_i a b d n hh i j k l x y z;split at h
 case isFalse=>cases h
 rename_i hn;subst hn;cases h;obtain⟨l,rfl⟩:=eta (α:=List Int) l;have hl:l.length<=1000000000000:=hp;refine⟨[(3,aAf l)],?_⟩
 conv=>arg 1; cbv
 refine⟨?_,fun (k:Nat) hk => ?_⟩
 . exact pM
 have bM:k<=l.length:=hk;refine fm ?_;have hN:k<l.length->aP ((k:Int)+1)/\(k+1<=l.length/\l.length - (k+1)<l.length - k)/\(k:Int)+1=((k+1:Nat):Int):=fun h=>⟨ii,⟨oo,oo⟩,oo⟩
 exact⟨fun g=>⟨⟨oo,oo⟩,by simp,fun _=>trivial,fun _=>⟨fun g1=>⟨ii,⟨oo,oo⟩,fun _=>trivial,fun _=>hN oo⟩,fun g1=>hN oo⟩⟩,fun g=>⟨by simp,by simp [nC]⟩⟩
theorem aAh{w:World}{ρ:Nat->Option Rl}{ro:Nat->Prop}{l:List AV}{vs:List Value}{k:IntKind}{n:Unit->Int}(h:bn w ρ base ro l vs)(hi:l[i]? = some (.int k n)):bn w ρ base ro (l.set i (.lit k (n ()))) vs:=by
 refine⟨by rw [r9]; exact h.1,fun j x v h1 h2 => ?_⟩;rw [te] at h1;split at h1
 . rename_i e;subst e;split at h1
   . cases h1;rw [(h.2 i _ v hi h2).jU];exact .lit _ _
   . cases h1
 . exact h.2 j x v h1 h2
def ajn:aC:=cL 211 Ck (fun c=>(c ()).cf.length<=1000000000000/\aP (c ()).dC) (fun c => .bool fun _=>jf (c ()))
theorem aAi:aE Tryz.prog ajn:=by
 refine⟨ajl.1,fun ah res h w ra eu af hE hp => ?_⟩;obtain⟨(c:dM),rfl,rfl⟩:=cS h;clear h;have bC:c.cf.length<=1000000000000/\aP c.dC:=hp;by_cases ht:c.dC = -9223372036854775808
 . obtain⟨v,us,rfl,hv,h2⟩:=hE.head;obtain rfl:=h2.none;obtain⟨vs,rfl,h3⟩:=hv.rf;have h4:=aAh (i:=3) h3 rfl;have hc:jf c=false:=by
    unfold jf rT nC;simp [ht]
   have h5:=aAg.2 [.agg ((Nt fun _=>c).set 3 (.lit .i64 c.dC))] ⟨fun _=>c.cf.length<=1000000000000,.bool fun _=>false⟩ (aG ht) w ra [.agg vs.toArray] af (.cons (.agg _ _ h4.1 h4.2) .nil) bC.1;rw [show (AV.bool fun _=>jf ((fun _=>c) ()))=AV.bool fun _=>false by rw [hc]];exact h5
 . exact ajl.2 [.agg (Nt fun _=>c)] ⟨fun _=>c.cf.length<=1000000000000/\aP (c.dC - 1),.bool fun _=>jf c⟩ rfl w ra eu af hE ⟨bC.1,by have:=bC.2; simp only [aP] at this ⊢; omega⟩
def pa(ks:List (List Kx)):List Kx->Option Int:=fun k=>if ks.count k=0 then none else some (ks.count k:Int)
theorem Xc(ks:List (List Kx))(k:List Kx)(d:Int)(h:d=0):(pa ks k).getD d=(ks.count k:Int):=by
 subst h;unfold pa;split
 . rename_i h; rw [h]; rfl
 . rfl
theorem ajo(ks:List (List Kx))(k:List Kx):ft (pa ks) k ((ks.count k:Int)+1)=pa (ks ++ [k]):=by
 funext k';unfold ft pa;rw [List.count_append];by_cases h:k'=k
 . subst h;simp
 . rw [ax h];have:List.count k' [k]=0:=List.count_eq_zero.2 (by simpa using h);rw [this,jD]
theorem JG(m:List Kx->Option α)(k:List Kx)(x y : α):ft (ft m k x) k y=ft m k y:=by
 funext k';unfold ft;by_cases h:k'=k<;>simp [h]
theorem JH(m:List Kx->Option α)(k:List Kx)(x : α):ft m k x k=some x:=by unfold ft; rw [aG rfl]
def jg(c:dM):List Kx := [.i .i64 c.fI,.i .i64 c.row,.i .i64 (cond c.mv 1 0)]
def iQ(x:gN):List (List Kx):=x.rows.map fun r => [.i .i64 x.fI,.i .i64 r,.i .i64 2]
def qE(x:gN):Bool:=(decide (0<=x.fI)&&decide (x.fI<40))&&(!decide (x.rows.length=0)&&pS 30 x.rows)
def Ax(s:bB):List (List Kx):=s.aF.map jg++s.bO.flatMap iQ
def gS(s:bB):Bool:=(decide (1<=s.aF.length)&&(decide (s.aF.length<=200)&&decide (s.bO.length<=40)))&&(s.aF.all jf&&(s.bO.all qE&&decide ((Ax s).Nodup)))
theorem ajp(c:dM):(⟨c.fI,c.row,c.mv,c.dC,c.mZ,c.uA,c.uB,c.uC,c.cf,c.x,c.y,c.z⟩:dM)=c:=rfl
theorem aAj(h:j<x.rows.length):(iQ x).take (j+1)=(iQ x).take j ++ [[Kx.i IntKind.i64 x.fI,Kx.i IntKind.i64 (x.rows.getD j Tc.int.aa),Kx.i IntKind.i64 2]]:=by
 unfold iQ;rw [<- Ku,<- Ku,o4 Tc.int.aa h,ot];rfl
theorem ajq:∀ (l:List gN),(∀ y∈l,y.rows.length<=1000000000000)->(l.flatMap iQ).length<=l.length*1000000000000
 | [],_=>by simp
 | y::l,h=>by
  have e3:=h y (.head _);have e4:=ajq l fun z hz=>h z (.tail _ hz);simp only [YQ,c9,dE,iQ,di] at e4 ⊢;omega
theorem ajr(key:List Kx)(l:List (List Kx))(h:l.length<=1000000000000000):aP ((l.count key:Int)+1):=by
 have:=List.count_le_length (a:=key) (l:=l);unfold aP;omega
theorem aAk(h:key∈Ax s):dP (Kc.arr 3 (Lk.int IntKind.i64)).ls key=true:=by
 unfold Ax at h;rcases nJ.1 h with h|h
 . obtain⟨c,_,rfl⟩:=lW.1 h;rfl
 . obtain⟨x,_,h⟩:=List.mem_flatMap.1 h;obtain⟨r,_,rfl⟩:=lW.1 h;rfl
def ajs:aC:=cL 171 ko (fun s=>(∀ c∈(s ()).aF,c.cf.length<=1000000000000/\aP c.dC)/\∀ x∈(s ()).bO,x.rows.length<=1000000000000) (fun s => .bool fun _=>gS (s ()))
def aAl(s:bB):Lp where
 X:=Nat
 ov k := [(33,.int .i64 fun _=>(k:Int))]
 oe k := [(1,.map true false (.arr 3 (.int .i64)) .int 286 fun _=>pa ((s.aF.take k).map jg))]
 I k:=k<=s.aF.length/\(s.aF.take k).all jf=true
 μ k _:=s.aF.length - k
 x0:=0
 nx:=some fun k=>k+1
def aAm(s:bB):Lp where
 X:=Nat
 ov k := [(57,.int .i64 fun _=>(k:Int))]
 oe k := [(1,.map true false (.arr 3 (.int .i64)) .int 286 fun _=>pa (s.aF.map jg++(s.bO.take k).flatMap iQ))]
 I k:=k<=s.bO.length/\(s.bO.take k).all qE=true
 μ k _:=s.bO.length - k
 x0:=0
 nx:=some fun k=>k+1
def aAn(s:bB)(k:Nat)(x:gN):Lp where
 X:=Nat
 ov j := [(78,.int .i64 fun _=>(j:Int))]
 oe j := [(1,.map true false (.arr 3 (.int .i64)) .int 286 fun _=>pa (s.aF.map jg++(s.bO.take k).flatMap iQ++(iQ x).take j))]
 I j:=j<=x.rows.length/\∀ i,i<j->kD 30 x.rows i=true
 μ j _:=x.rows.length - j
 x0:=0
 nx:=some fun j=>j+1
def aAo(ks:List (List Kx))(n:Nat):Lp where
 X:=List (List Kx)×Nat
 ov _ := []
 oe p := [(2,.iter 1 (.arr 3 (.int .i64)) (fun _=>p.1) fun _=>p.2)]
 I p:=∀ key∈p.1,∀ x,pa ks key=some x->x<=1
 μ p _:=p.2
 x0:=([],n)
 nx:=none
theorem aAp:aE Tryz.prog ajs:=by
 refine bD [ajn] ⟨aAi,trivial⟩ Tryz.func171 (by kernel_rfl) fun ah res h hp => ?_;obtain⟨(s:bB),rfl,rfl⟩:=cS h;clear h;have fy:(∀ c∈s.aF,c.cf.length<=1000000000000/\aP c.dC)/\∀ x∈s.bO,x.rows.length<=1000000000000:=hp;have h1:=fy.1;have h2:=fy.2;refine⟨[(5,aAl s),(15,aAm s)],?_⟩
 conv=>arg 1; cbv
 refine⟨fun g1 => ?_,fun g1=>⟨fun g2 => ?_,fun g2=>⟨fun g3 => ?_,fun g3=>⟨?_,fun (k:Nat) hk => ?_⟩⟩⟩⟩
 . simp (maxSteps:=4000000) only [ay];simp only [aU] at g1;unfold gS;grind
 . simp (maxSteps:=4000000) only [ay];simp only [aU] at g2;unfold gS;grind
 . simp (maxSteps:=4000000) only [ay];simp only [aU] at g3;unfold gS;grind
 . simp (maxSteps:=4000000) only [ay];exact⟨⟨bw _,rfl⟩,rfl,rfl⟩
 simp only [ew,fL] at g1 g2 g3;have bu:k<=s.aF.length/\(s.aF.take k).all jf=true:=hk;have bM:=bu.1;have bm:=bu.2
 conv=>arg 1; cbv
 refine⟨fun g4 => ?_,fun g4 => ?_⟩
 . simp only [aU,fL] at g4;have af:k<s.aF.length:=oo
   have iM:=eJ Tc.ar.aa af;have hZp:=h1 _ iM;have xW:=hZp.1;have iJ:=hZp.2;simp (maxSteps:=4000000) only [ay];simp only [JH,JG,iD,Xc _ _ Tc.int.aa rfl];simp only [ajp];have hA:=V2 (p:=jf) (d:=Tc.ar.aa) af;have hB:=V3 (d:=Tc.ar.aa) bm af;have hS:s.aF.all jf=false->gS s=false:=fun h=>by unfold gS; rw [h]; simp
   have hC:∀ key,aP (((List.map jg (List.take k s.aF)).count key:Int)+1):=fun key=>ajr key _ (by simp; omega);have hM:List.map jg (List.take (k+1) s.aF)=List.map jg (List.take k s.aF) ++ [jg (s.aF.getD k Tc.ar.aa)]:=by rw [o4 Tc.ar.aa af,ot]; rfl
   rw [hM,<- ajo];have zD:(s.aF.getD k Tc.ar.aa).mv=true->jg (s.aF.getD k Tc.ar.aa) = [Kx.i IntKind.i64 (s.aF.getD k Tc.ar.aa).fI,Kx.i IntKind.i64 (s.aF.getD k Tc.ar.aa).row,Kx.i IntKind.i64 1]:=fun h=>by unfold jg; rw [h]; rfl
   have BZ:(s.aF.getD k Tc.ar.aa).mv=false->jg (s.aF.getD k Tc.ar.aa) = [Kx.i IntKind.i64 (s.aF.getD k Tc.ar.aa).fI,Kx.i IntKind.i64 (s.aF.getD k Tc.ar.aa).row,Kx.i IntKind.i64 0]:=fun h=>by unfold jg; rw [h]; rfl
   have aFh:aP ((k:Int)+1):=⟨oo,oo⟩
   generalize s.aF.getD k Tc.ar.aa=c at *
   generalize List.map jg (List.take k s.aF)=L at *
   refine⟨⟨oo,g4⟩,fun hd => ?_,fun hd => ?_⟩
   . have hk:=zD hd;rw [<- hk];generalize jg c=key at *
     clear zD BZ;grind
   . have hk:=BZ hd;rw [<- hk];generalize jg c=key at *
     clear zD BZ;grind
 have im:s.aF.length<=k:=by simp only [ew,fL] at g4; omega
 have aAq:s.aF.all jf=true:=V4 bm im;have jr:List.map jg (List.take k s.aF)=s.aF.map jg:=by rw [ez im]
 clear g4;refine⟨?_,fun (m:Nat) hm => ?_⟩
 . simp (maxSteps:=4000000) only [ay];rw [jr];refine⟨⟨bw _,rfl⟩,rfl,?_⟩;simp
 have Ay:m<=s.bO.length/\(s.bO.take m).all qE=true:=hm;have BR:=Ay.1;have uU:=Ay.2
 conv=>arg 1; cbv
 refine⟨fun g4 => ?_,fun g4 => ?_⟩
 . simp only [aU,fL] at g4;have af:m<s.bO.length:=oo
   have iM:=eJ Tc.cD.aa af;have iJ:=h2 _ iM;have hA:=V2 (p:=qE) (d:=Tc.cD.aa) af;have hB:=V3 (d:=Tc.cD.aa) uU af;have hS:s.bO.all qE=false->gS s=false:=fun h=>by unfold gS; rw [h]; simp
   refine⟨⟨YD m,g4⟩,fun g5 => ?_,fun g5=>⟨fun g6 => ?_,fun g6=>⟨fun g7 => ?_,fun g7 => ?_⟩⟩⟩
   all_goals simp only [aU,ew,fL,fB] at *
   . exact Xd
   . exact Xd
   . exact Xd
   . refine bk (s.bO.getD m Tc.cD.aa) fun x hx => ?_;refine⟨aAn s m x,?_⟩
     conv=>arg 1; cbv
     have B4:qE (s.bO.getD m Tc.cD.aa)=pS 30 (s.bO.getD m Tc.cD.aa).rows:=by
      unfold qE;grind
     rw [hx] at B4 hA hB iJ iM;refine⟨?_,fun (j:Nat) hj => ?_⟩
     . simp (maxSteps:=4000000) only [ay];refine⟨⟨bw _,by simp⟩,rfl,?_⟩;simp
     have rU:j<=x.rows.length/\∀ i,i<j->kD 30 x.rows i=true:=hj;have p7:=rU.1;have gI:=rU.2
     conv=>arg 1; cbv
     simp (maxSteps:=4000000) only [ay];rw [hx];simp only [JH,JG,iD,Xc _ _ Tc.int.aa rfl];have aAr:aP ((m:Int)+1):=⟨oo,oo⟩
     refine⟨fun g8 => ?_,fun g8 => ?_⟩
     . have h8:j<x.rows.length:=oo
       have aFi:aP ((j:Int)+1):=⟨oo,oo⟩
       have hC:∀ key,aP (((List.map jg s.aF++List.flatMap iQ (List.take m s.bO)++List.take j (iQ x)).count key:Int)+1):=fun key=>by
        refine ajr key _ ?_;have e5:=ajq (List.take m s.bO) fun y hy=>h2 y (xt hy);have e6:(List.take m s.bO).length<=40:=by rw [cy]; omega
        have e7:(List.take j (iQ x)).length<=1000000000000:=by
         rw [cy]; omega
        simp only [c9,di];omega
       rw [aAj h8,<- fl,<- ajo];have ha:=Xa (t:=30) h8;have hb:=tQ (k:=j) gI;have he:kD 30 x.rows j=((decide (0<=x.rows.getD j Tc.int.aa)&&decide (x.rows.getD j Tc.int.aa<=30))&&(decide (j=0)||decide (x.rows.getD (j - 1) Tc.int.aa<x.rows.getD j Tc.int.aa))):=rfl;generalize x.rows.getD j Tc.int.aa=u at *
       generalize x.rows.getD (j - 1) Tc.int.aa=v at *
       generalize List.map jg s.aF++List.flatMap iQ (List.take m s.bO)++List.take j (iQ x)=L at *
       generalize [Kx.i IntKind.i64 x.fI,Kx.i IntKind.i64 u,Kx.i IntKind.i64 2]=key at *
       generalize kD 30 x.rows=R at *
       generalize pS 30 x.rows=RR at *
       clear iM hx gI;have hjp:0<(j:Int)->aP ((j:Int) - 1):=fun h=>⟨oo,oo⟩
       grind
     . have h8:x.rows.length<=j:=oo
       have hr:=Xb h8 gI;rw [<- B4] at hr;have hT:(iQ x).take j=iQ x:=ez (by unfold iQ; rw [di]; exact h8);have hU:List.flatMap iQ (List.take (m+1) s.bO)=List.flatMap iQ (List.take m s.bO)++iQ x:=by
        rw [o4 Tc.cD.aa af,hx,List.flatMap_append];simp
       rw [hT,hU,<- fl];exact⟨aAr,⟨⟨af,hB hr⟩,oo⟩,oo,rfl⟩
 . have vi:s.bO.length<=m:=by simp only [ew,fL] at g4; omega
   have aAs:s.bO.all qE=true:=V4 uU vi;have hT:List.take m s.bO=s.bO:=ez vi;clear g4;intro n _;refine bk (Ax s) fun ks oI => ?_
   conv=>arg 1; cbv
   refine⟨aAo ks n,?_⟩
   conv=>arg 1; cbv
   refine⟨?_,fun (p:List (List Kx)×Nat) hp => ?_⟩
   . exact pM
   have bC:∀ key∈p.1,∀ x,pa ks key=some x->x<=1:=hp;have Xe:pa (List.map jg s.aF++List.flatMap iQ (List.take m s.bO))=pa ks:=by rw [hT,<- oI]; rfl
   conv=>arg 1; cbv
   refine⟨fun g5=>fun (u:Unit) hu => ?_,fun g5=>fun (q:List Kx×Nat) hq => ?_⟩
   . conv=>arg 1; cbv
     simp (maxSteps:=4000000) only [ay];have vU:∀ (key:List Kx) (x:Int),dP (Kc.arr 3 (Lk.int IntKind.i64)).ls key=true->pa (List.map jg s.aF++List.flatMap iQ (List.take m s.bO)) key=some x->key∈p.1:=hu;rw [Xe] at vU;have jI:(Ax s).Nodup:=by
      rw [List.nodup_iff_count];intro key;rcases vH (ks.count key) with h0|h0
      . rw [oI,h0]; omega
      . have pG:key∈Ax s:=by rw [oI]; exact List.count_pos_iff.1 h0
        have he:pa ks key=some (ks.count key:Int):=by unfold pa; rw [ax oo]
        have:=bC key (vU key _ (aAk pG) he) _ he;rw [oI];omega
     unfold gS;rw [aAq,aAs];simp only [jI,qN,gU];grind
   . have wF:dP (Kc.arr 3 (Lk.int IntKind.i64)).ls q.1=true/\(pa (List.map jg s.aF++List.flatMap iQ (List.take m s.bO)) q.1).isSome=true/\¬ q.1∈p.1/\q.2<p.2:=hq;have q1:=wF.1;have q2:=wF.2.1;have q3:=wF.2.2.1;have q4:=wF.2.2.2;rw [Xe] at q2
     conv=>arg 1; cbv
     simp (maxSteps:=4000000) only [ay];simp only [Xe,List.headD_cons,Xc _ _ Tc.int.aa rfl];refine⟨by simp,fun h => ?_,fun h => ?_⟩
     . have jI:¬ (Ax s).Nodup:=fun hn=>by
        have:=List.nodup_iff_count.1 hn q.1;rw [oI] at this;omega
       unfold gS;simp [jI]
     . refine⟨(q.1::p.1,q.2),⟨fun kc fO x hx => ?_,q4⟩,?_⟩
       . rcases gD.1 fO with rfl|fO
         . unfold pa at hx;split at hx
           . cases hx
           . cases hx; omega
         . exact bC kc fO x hx
       . conv=>arg 1; cbv
         exact pM
def iA(n a b:Int):Bool:=decide (a<=n)&&decide (n<=b)
def Xf:aC:=ns 235 kI kI kI (fun _ _ _=>True) (fun n a b => .bool fun _=>iA (n ()) (a ()) (b ()))
theorem aju:aE Tryz.prog Xf:=by
 refine bD [] trivial Tryz.func235 (by kernel_rfl) fun ah res h hp => ?_;obtain⟨(n:Int),(a:Int),(b:Int),rfl,rfl⟩:=oR h;clear h;refine⟨[],?_⟩;refine fm ?_;exact⟨fun h=>by unfold iA; rw [cT h]; rfl,fun h=>by unfold iA; rw [dB h]; rfl⟩
def ajv:aC:=bE 237 gi kI (fun l _=>(l ()).length<=1000000000000) (fun l x => .bool fun _=>(l ()).any fun y=>decide (y=x ()))
theorem aAt:aE Tryz.prog ajv:=by
 refine bD [] trivial Tryz.func237 (by kernel_rfl) fun ah res h hp => ?_;obtain⟨(l:List Int),(x:Int),rfl,rfl⟩:=bG h;clear h;have hl:l.length<=1000000000000:=hp;refine⟨[(2,jP 5 l fun j=>¬ l.getD j Tc.int.aa=x)],?_⟩
 conv=>arg 1; cbv
 refine⟨?_,fun (k:Nat) hk => ?_⟩
 . exact pM
 have bu:k<=l.length/\∀ j,j<k->¬ l.getD j Tc.int.aa=x:=hk;have bM:=bu.1;have bm:=bu.2;refine fm ?_;refine⟨fun g => ?_,fun g=>(Ow (p:=fun y=>decide (y=x)) (fun j hj=>by simpa using bm j hj) oo).symm⟩;have af:k<l.length:=oo
 exact⟨⟨oo,oo⟩,fun c=>(Jn (p:=fun y=>decide (y=x)) (d:=Tc.int.aa) af (cT c)).symm,fun c=>j5 hl af bm c⟩
def ajw:aC:=cL 236 Ck (fun c=>(c ()).cf.length<=1000000000000/\aP (c ()).dC) (fun c => .bool fun _=>jf (c ()))
theorem aAu:aE Tryz.prog ajw:=by
 refine bD [Xf] ⟨aju,trivial⟩ Tryz.func236 (by kernel_rfl) fun ah res h hp => ?_;obtain⟨(c:dM),rfl,rfl⟩:=cS h;clear h;have fA:c.cf.length<=1000000000000/\aP c.dC:=hp;have hl:=fA.1;have ht:=fA.2;refine⟨[(2,jP 3 c.cf fun j=>kD (c.dC - 1) c.cf j=true)],?_⟩
 conv=>arg 1; cbv
 refine⟨?_,fun (k:Nat) hk => ?_⟩
 . exact pM
 have bu:k<=c.cf.length/\∀ j,j<k->kD (c.dC - 1) c.cf j=true:=hk;have bM:=bu.1;have bm:=bu.2;refine fm ?_;refine⟨fun g => ?_,fun g => ?_⟩
 . have af:k<c.cf.length:=oo
   have hN:=fun h=>j5 (P:=fun j=>kD (c.dC - 1) c.cf j=true) hl af bm h;have j4:kD (c.dC - 1) c.cf k=false->false=jf c:=fun h=>by unfold jf; rw [Xa af h]; rfl
   have e:∀ b1 b2 b3,decide (0<=c.cf.getD k 0)=b1->decide (c.cf.getD k 0<=c.dC - 1)=b2->(decide (k=0)||decide (c.cf.getD (k - 1) 0<c.cf.getD k 0))=b3->kD (c.dC - 1) c.cf k=((b1&&b2)&&b3):=fun b1 b2 b3 h1 h2 h3=>by unfold kD; rw [h1,h2,h3]
   refine⟨⟨oo,oo⟩,fun a=>j4 ?_,fun a=>⟨⟨oo,oo⟩,fun b=>j4 ?_,fun b=>⟨fun z=>⟨ii,⟨oo,oo⟩,⟨oo,oo⟩,fun d=>j4 ?_,fun d=>hN ?_⟩,fun z=>hN ?_⟩⟩⟩
   . have a:c.cf.getD k 0<0:=a;rw [e _ _ _ (dB oo) rfl rfl]; rfl
   all_goals have a:¬ c.cf.getD k 0<0:=a
   . have b:c.dC<=c.cf.getD k 0:=b;rw [e _ _ _ rfl (dB oo) rfl,nK]; rfl
   all_goals have b:¬ c.dC<=c.cf.getD k 0:=b
   . have d:c.cf.getD k 0<=c.cf.getD (k - 1) 0:=d;rw [e _ _ false rfl rfl (by rw [dB oo,dB oo]; rfl),nK]
   . have d:¬ c.cf.getD k 0<=c.cf.getD (k - 1) 0:=d;rw [e _ _ true (cT oo) (cT oo) (by rw [cT (show c.cf.getD (k - 1) 0<c.cf.getD k 0 from oo),Gc])]; rfl
   . rw [e _ _ true (cT oo) (cT oo) (by rw [cT (show k=0 from oo)]; rfl)]; rfl
 . have hr:=Xb (t:=c.dC - 1) (l:=c.cf) (k:=k) oo bm;have e:jf c=(iA c.fI 0 39&&(iA c.row 0 30&&(iA c.dC 1 10&&(iA c.mZ 0 40000&&(iA c.uA 0 500000000&&(iA c.uB 0 500000000&&(iA c.uC 0 1000000000000&&(iA c.x (-500000) 500000&&(iA c.y (-500000) 500000&&iA c.z (-500000) 500000))))))))):=by
    unfold jf;rw [hr];simp only [rT,AN,Kw,gU,fe,nC,iA]
   rw [e];generalize iA c.fI 0 39=b1;generalize iA c.row 0 30=b2;generalize iA c.dC 1 10=b3;generalize iA c.mZ 0 40000=b4;generalize iA c.uA 0 500000000=b5;generalize iA c.uB 0 500000000=b6;generalize iA c.uC 0 1000000000000=b7;generalize iA c.x (-500000) 500000=b8;generalize iA c.y (-500000) 500000=b9;generalize iA c.z (-500000) 500000=b10;simp +contextual
def Fs(cs:List dM)(i k:Nat):Prop:=¬ ((cs.getD k Tc.ar.aa).fI=(cs.getD i Tc.ar.aa).fI/\(cs.getD k Tc.ar.aa).row=(cs.getD i Tc.ar.aa).row/\(cs.getD k Tc.ar.aa).mv=(cs.getD i Tc.ar.aa).mv)
def O7(cs:List dM)(i:Nat):Prop:=jf (cs.getD i Tc.ar.aa)=true/\∀ k,k<i->Fs cs i k
def JI(cs:List gN)(i j k:Nat):Prop:=¬ ((cs.getD k Tc.cD.aa).fI=(cs.getD i Tc.cD.aa).fI/\(cs.getD k Tc.cD.aa).rows.any (fun y=>decide (y=(cs.getD i Tc.cD.aa).rows.getD j Tc.int.aa))=true)
def Ft(cs:List gN)(i j:Nat):Prop:=kD 30 (cs.getD i Tc.cD.aa).rows j=true/\∀ k,k<i->JI cs i j k
def O8(cs:List gN)(i:Nat):Prop:=((0<=(cs.getD i Tc.cD.aa).fI/\(cs.getD i Tc.cD.aa).fI<=39)/\¬ (cs.getD i Tc.cD.aa).rows.length=0)/\∀ j,j<(cs.getD i Tc.cD.aa).rows.length->Ft cs i j
theorem ajx{a b:dM}:jg a=jg b↔a.fI=b.fI/\a.row=b.row/\a.mv=b.mv:=by
 unfold jg;cases a.mv<;>cases b.mv<;>simp
theorem oc{l:List α}(d : α)(h:i<l.length):l.getD i d=l[i]:=by rw [aY,bq h]; rfl
theorem aAv(cs:List dM):(cs.map jg).Nodup↔∀ i,i<cs.length->∀ k,k<i->Fs cs i k:=by
 unfold List.Nodup;rw [ana,yH];constructor
 . intro h i hi k hk hq;rw [oc _ hi,oc _ (show k<cs.length from oo)] at hq;exact h k i oo hi hk (ajx.2 hq)
 . intro h i j hi hj iH hq;refine h j hj i iH ?_;rw [oc _ hi,oc _ hj];exact ajx.1 hq
theorem aAw{l:List Int}(h:pS t l=true):∀ j,j<l.length->∀ i,i<j->l.getD i 0<l.getD j 0:=by
 unfold pS at h;rw [aU] at h;intro j
 induction j with
 | zero=>intro _ i hi; omega
 | succ j ih =>
  intro hj i hi;have h1:=h (j+1) hj;unfold kD at h1;simp only [aD,fM,aU,pf] at h1;have h2:l.getD j 0<l.getD (j+1) 0:=h1.2.resolve_left oo;rcases cv i j with h3|h3
  . have:=ih oo i h3;omega
  . rw [show i=j from oo]; exact h2
theorem JJ:y∈iQ x↔∃ r∈x.rows,y = [.i .i64 x.fI,.i .i64 r,.i .i64 2]:=by
 unfold iQ;rw [lW];exact⟨fun ⟨r,h,e⟩=>⟨r,h,e.symm⟩,fun ⟨r,h,e⟩=>⟨r,h,e.symm⟩⟩
theorem aAx(h:pS 30 x.rows=true):(iQ x).Nodup:=by
 unfold iQ List.Nodup;rw [ana,yH];intro i j hi hj iH hq;have:=aAw h j hj i iH;rw [oc _ hi,oc _ hj] at this;simp only [vL,Kx.i.injEq,aH,aJ] at hq;omega
theorem ajy{cs:List gN}(h:∀ x∈cs,pS 30 x.rows=true):(cs.flatMap iQ).Nodup↔∀ i,i<cs.length->∀ j,j<(cs.getD i Tc.cD.aa).rows.length->∀ k,k<i->JI cs i j k:=by
 unfold List.Nodup;rw [List.pairwise_flatMap,yH];constructor
 . intro ⟨_,h2⟩ i hi j hj k hk ⟨h3,h4⟩;rw [F0] at h4;obtain⟨r,h5,h6⟩:=h4;have h6:=r8 h6;rw [oc _ hi] at hj h6 h3;rw [oc _ (show k<cs.length from oo)] at h3 h5;refine h2 k i oo hi hk _ (JJ.2 ⟨r,h5,rfl⟩) _ (JJ.2 ⟨r,by rw [h6]; exact eJ _ hj,rfl⟩) ?_;rw [h3]
 . intro h2;refine⟨fun x hx=>aAx (h x hx),fun k i hk hi TE a ha b hb bJ => ?_⟩;obtain⟨r,h3,rfl⟩:=JJ.1 ha;obtain⟨r',h4,rfl⟩:=JJ.1 hb;simp only [vL,Kx.i.injEq,aH,aJ] at bJ;obtain⟨h5,rfl⟩:=bJ;obtain⟨j,hj,h6⟩:=FT.1 h4;refine h2 i hi j (by rw [oc _ hi]; exact hj) k TE ⟨by rw [oc _ hi,oc _ hk]; exact h5,?_⟩;rw [F0];refine⟨r,by rw [oc _ hk]; exact h3,?_⟩;rw [aU,oc _ hi,oc _ hj];exact h6.symm
theorem aAy(cs:List dM)(vs:List gN):∀ a∈cs.map jg,∀ b∈vs.flatMap iQ,a≠b:=by
 intro a ha b hb bJ;obtain⟨c,_,rfl⟩:=lW.1 ha;obtain⟨v,_,hv⟩:=List.mem_flatMap.1 hb;obtain⟨r,_,rfl⟩:=JJ.1 hv;unfold jg at bJ;cases hd:c.mv<;>rw [hd] at bJ<;>simp at bJ
theorem Fu{p : α->Bool}{l:List α}(d : α):l.all p=true↔∀ i,i<l.length->p (l.getD i d)=true:=by
 rw [fc];constructor
 . exact fun h i hi=>h _ (eJ d hi)
 . intro h x hx;obtain⟨j,hj,rfl⟩:=FT.1 hx;have:=h j hj;rwa [oc d hj] at this
theorem Fv(s:bB):gS s=true↔((1<=s.aF.length/\s.aF.length<=200)/\s.bO.length<=40)/\(∀ i,i<s.aF.length->O7 s.aF i)/\∀ i,i<s.bO.length->O8 s.bO i:=by
 unfold gS Ax;simp only [aD,aU,List.nodup_append];rw [Fu Tc.ar.aa,Fu Tc.cD.aa,aAv];constructor
 . rintro⟨⟨h1,h2,h3⟩,h4,h5,h6,h7,_⟩
   have hr:∀ x∈s.bO,pS 30 x.rows=true:=fun x hx=>by
    have:=(Fu (p:=qE) Tc.cD.aa).2 h5;exact ajz
   rw [ajy hr] at h7;refine⟨⟨⟨h1,h2⟩,h3⟩,fun i hi=>⟨h4 i hi,h6 i hi⟩,fun i hi => ?_⟩;have h8:=h5 i hi;unfold qE at h8;simp only [aD,fG,aU,ew] at h8;refine⟨⟨⟨h8.1.1,oo⟩,h8.2.1⟩,fun j hj=>⟨?_,h7 i hi j hj⟩⟩;have:=h8.2.2;unfold pS at this;exact r8 this j hj
 . rintro⟨⟨⟨h1,h2⟩,h3⟩,h4,h5⟩
   have h6:∀ i,i<s.bO.length->qE (s.bO.getD i Tc.cD.aa)=true:=fun i hi=>by
    obtain⟨⟨⟨h7,h8⟩,h9⟩,mY⟩:=h5 i hi;unfold qE pS;simp only [aD,fG,aU,ew];exact⟨⟨h7,oo⟩,h9,fun j hj=>(mY j hj).1⟩
   refine⟨⟨h1,h2,h3⟩,fun i hi=>(h4 i hi).1,h6,fun i hi=>(h4 i hi).2,?_,aAy _ _⟩;refine (ajy fun x hx => ?_).2 fun i hi j hj=>((h5 i hi).2 j hj).2;have:=(Fu (p:=qE) Tc.cD.aa).2 h6;exact ajz
def od(cs:List dM)(bs:List aL)(l:List aA)(k:Nat):Bool :=
 ((bI bs (l.getD k Tc.ai.aa).box).2&&(decide (k=0)||decide ((l.getD (k - 1) Tc.ai.aa).box<(l.getD k Tc.ai.aa).box))) &&
 ((mh cs (ej (l.getD k Tc.ai.aa)) (bI bs (l.getD k Tc.ai.aa).box).1.size&&rK (ej (l.getD k Tc.ai.aa)) (l.map ej)) &&
 decide (∀ j,j<k->jZ (ej (l.getD k Tc.ai.aa)) ((l.map ej).getD j Tc.slot.aa)=false))
def ev(s:bB)(bs:List aL)(l:List aA):Bool :=
 gS s&&(decide (∀ k,k<l.length->od s.aF bs l k=true)&&decide (∀ c,c<s.aF.length->yn s.aF bs l (c:Int)=true))
theorem aAz{bs:List aL}{l:List aA}{k:Nat}(hk:k<l.length)(h:od s.aF bs l k=false):ev s bs l=false:=by
 unfold ev;have:decide (∀ k,k<l.length->od s.aF bs l k=true)=false:=by
  rw [ew];intro h2;rw [h2 k hk] at h;cases h
 rw [this];simp
theorem aAA{x:Slot}(h:gS s=true)(hx:mh s.aF x z=true):x.aK<=1000000:=by
 unfold mh at hx;simp only [aD,aU] at hx;obtain⟨h1,h2,h3,h4,h5⟩:=hx;unfold gS at h;simp only [aD] at h;have h6:=fc.1 h.2.1 _ (eJ Tc.ar.aa (show x.ar.toNat<s.aF.length from oo));generalize s.aF.getD x.ar.toNat Tc.ar.aa=c at *
 unfold jf at h6;simp only [aD] at h6;have h7:=fc.1 h6.2 ⟨c.dC,1,10⟩ (by simp [rT]);unfold nC at h7;simp only [aD,aU] at h7;omega
def pT(s:bB):Prop:=(∀ c∈s.aF,c.cf.length<=1000000000000/\aP c.dC)/\∀ x∈s.bO,x.rows.length<=1000000000000
def ajA:aC:=ns 109 ko jc lL (fun s bs l=>pT (s ())/\(bs ()).length<=1000000000000/\(l ()).length<=1000000) (fun s bs l => .bool fun _=>ev (s ()) (bs ()) (l ()))
def aAB(s:bB)(bs:List aL)(l:List aA):Lp where
 X:=Nat
 ov k := [(22,.int .i64 fun _=>(k:Int))]
 oe _ := []
 I k:=k<=l.length/\∀ j,j<k->od s.aF bs l j=true
 μ k _:=l.length - k
 x0:=0
 nx:=some fun k=>k+1
def aAC(x:Slot)(all:List Slot)(k:Nat):Lp where
 X:=Nat
 ov j := [(71,.int .i64 fun _=>(j:Int))]
 oe _ := []
 I j:=j<=k/\∀ i,i<j->jZ x (all.getD i Tc.slot.aa)=false
 μ j _:=k - j
 x0:=0
 nx:=some fun k=>k+1
def aAD(s:bB)(bs:List aL)(l:List aA):Lp where
 X:=Nat
 ov k := [(84,.int .i64 fun _=>(k:Int))]
 oe _ := []
 I k:=k<=s.aF.length/\∀ j,j<k->yn s.aF bs l (j:Int)=true
 μ k _:=s.aF.length - k
 x0:=0
 nx:=some fun k=>k+1
theorem aAE:aE Tryz.prog ajA:=by
 refine bD [ajs,ahf,VU,ahh,agX,agZ,ahg] ⟨aAp,ayp,agM,ays,ax0,ax2,ayq,trivial⟩ Tryz.func109 (by kernel_rfl) fun ah res h hp => ?_;obtain⟨(s:bB),(bs:List aL),(l:List aA),rfl,rfl⟩:=oR h;clear h;have Xg:pT s/\bs.length<=1000000000000/\l.length<=1000000:=hp;have A5:=Xg.1;have hbs:=Xg.2.1;have hl:=Xg.2.2;refine⟨[(5,aAB s bs l),(18,aAD s bs l)],?_⟩
 conv=>arg 1; cbv
 refine⟨A5,fun g1 => ?_,fun g1=>⟨hl,⟨?_,fun (k:Nat) hk => ?_⟩⟩⟩
 . simp (maxSteps:=4000000) only [ay];unfold ev;simp only [fG] at g1;have vA:gS s=false:=g1;rw [vA];rfl
 . exact pM
 have CX:gS s=true:=by
  have vA:(!gS s)=false:=g1;simpa using vA
 have bu:k<=l.length/\∀ j,j<k->od s.aF bs l j=true:=hk;have bM:=bu.1;have bm:=bu.2
 conv=>arg 1; cbv
 refine⟨fun g2 => ?_,fun g2 => ?_⟩
 . have af:k<l.length:=by simp only [aU,fL] at g2; omega
   refine bk (l.getD k Tc.ai.aa) fun x hx => ?_;refine bk (l.getD (k - 1) Tc.ai.aa) fun y hy => ?_;have hH:od s.aF bs l k=(((bI bs x.box).2&&(decide (k=0)||decide (y.box<x.box)))&&((mh s.aF (ej x) (bI bs x.box).1.size&&rK (ej x) (l.map ej))&&decide (∀ j,j<k->jZ (ej x) ((l.map ej).getD j Tc.slot.aa)=false))):=by rw [<- hx,<- hy]; rfl
   have j4:=aAz (s:=s) (bs:=bs) af;have Jq:=tQ (k:=k) bm;refine⟨⟨YD k,r8 g2⟩,hbs,fun g3 => ?_,fun g3=>⟨fun g4=>⟨⟨by simp only [fL]; omega,by simp only [fL]; omega⟩,⟨by simp only [aU,fL] at g4 ⊢; omega,by simp only [fL]; omega⟩,fun g5 => ?_,fun g5 => ?_⟩,fun g4 => ?_⟩⟩
   . simp (maxSteps:=4000000) only [ay];refine (j4 ?_).symm;have tZ:(!(bI bs (l.getD k Tc.ai.aa).box).2)=true:=g3;rw [hH,<- hx];grind
   . simp (maxSteps:=4000000) only [ay];refine (j4 ?_).symm;have tZ:(!(bI bs (l.getD k Tc.ai.aa).box).2)=false:=g3;have g4':decide (0<(k:Int))=true:=g4;have Xh:decide ((l.getD k Tc.ai.aa).box<=(l.getD ((k:Int) - 1).toNat Tc.ai.aa).box)=true:=g5;rw [Ub,hx,hy] at Xh;rw [hH];grind
   . have ho:(decide (k=0)||decide (y.box<x.box))=true:=by
      have Xh:decide ((l.getD k Tc.ai.aa).box<=(l.getD ((k:Int) - 1).toNat Tc.ai.aa).box)=false:=g5;rw [Ub,hx,hy] at Xh;grind
     exact no_implicit_lambda% s_3
   . have ho:(decide (k=0)||decide (y.box<x.box))=true:=by
      have g4':decide (0<(k:Int))=false:=g4;grind
     exact no_implicit_lambda% s_3
 . have im:l.length<=k:=by simp only [ew,fL] at g2; omega
   refine⟨?_,fun (c:Nat) hc => ?_⟩
   . exact pM
   have I7:c<=s.aF.length/\∀ j,j<c->yn s.aF bs l (j:Int)=true:=hc;have iw:=I7.1;have tC:=I7.2
   conv=>arg 1; cbv
   simp (maxSteps:=4000000) only [ay];have hlen:s.aF.length<=200:=by
    unfold gS at CX;simp only [aD,aU] at CX;exact CX.1.2.1
   refine⟨fun g3 => ?_,fun g3 => ?_⟩
   . have h3:c<s.aF.length:=oo
     refine⟨⟨hbs,hl,oo,g3⟩,fun g4 => ?_,fun g4=>⟨⟨oo,oo⟩,⟨⟨h3,tQ tC (by simpa using g4)⟩,oo⟩,oo⟩⟩;unfold ev;have:decide (∀ c,c<s.aF.length->yn s.aF bs l (c:Int)=true)=false:=by
      rw [ew];intro h;rw [h c h3] at g4;cases g4
     rw [this];simp
   . unfold ev;have e1:decide (∀ k,k<l.length->od s.aF bs l k=true)=true:=by
      rw [aU];exact fun i hi=>bm i oo
     have e2:decide (∀ c,c<s.aF.length->yn s.aF bs l (c:Int)=true)=true:=by
      rw [aU];exact fun i hi=>tC i oo
     rw [CX,e1,e2];rfl
def ua(s i:Nat)(P:Nat->Prop):Lp where
 X:=Nat
 ov k := [(s,.int .i64 fun _=>(k:Int))]
 oe _ := []
 I k:=k<=i/\∀ j,j<k->P j
 μ k _:=i - k
 x0:=0
 nx:=some fun k=>k+1
def aAG(vs:List gN)(i:Nat):Lp where
 X:=Nat
 ov k := [(7,.int .i64 fun _=>(k:Int))]
 oe _ := []
 I k:=k<=(vs.getD i Tc.cD.aa).rows.length/\∀ j,j<k->Ft vs i j
 μ k _:=(vs.getD i Tc.cD.aa).rows.length - k
 x0:=0
 nx:=some fun k=>k+1
def ajD:aC:=cL 190 ko (fun s=>pT (s ())) (fun s => .bool fun _=>gS (s ()))
theorem aAH:aE Tryz.prog ajD:=by
 refine bZ { kp := [(0,[0]),(1,[1]),(2,[]),(3,[1]),(4,[1,3]),(5,[1,3]),(6,[1,3]),(7,[]),(8,[1,3]),(9,[1,3,4]),(10,[1,3,4]),(11,[1,3,4]),(12,[]),(13,[1]),(14,[1,5]),(15,[1,5]),(16,[1,5]),(17,[1,5,6]),(18,[]),(19,[1,5,6]),(20,[1,5,6,7]),(21,[1,5,6,7]),(22,[1,5,6,7]),(23,[]),(24,[1,5,6,7]),(25,[1,5,6,7,8]),(26,[1,5,6,7,8]),(27,[1,5,6,7,8]),(28,[]),(29,[])] } [Xf,ajw,ajv] ⟨aju,aAu,aAt,trivial⟩ [] trivial Tryz.func190 (by kernel_rfl) fun ah res h hp => ?_;obtain⟨(s:bB),rfl,rfl⟩:=cS h;clear h;have ja:pT s:=hp;refine⟨[(4,jP 3 s.aF (O7 s.aF)),(14,jP 5 s.bO (O8 s.bO))],?_⟩;have hF:∀ {P:Prop},(gS s=true->P)->¬ P->false=gS s:=fun h hn=>by
  cases hs:gS s with
  | false=>rfl
  | true=>exact absurd (h hs) hn
 have hI:=Fv s;refine fm ?_;refine⟨fun h=>hF (fun hs=>(hI.1 hs).1.1) (by simp only [iA,fG,YJ,ew] at h; omega),fun h=>⟨fun h=>hF (fun hs=>(hI.1 hs).1.2) oo,fun h'=>⟨⟨⟨bw _,fun j hj=>absurd hj (jB _)⟩,rfl⟩,fun (k:Nat) hk => ?_⟩⟩⟩;simp only [iA,iR,aD,aU] at h;have bu:k<=s.aF.length/\∀ j,j<k->O7 s.aF j:=hk;have bM:=bu.1;have bm:=bu.2;refine fm ?_;refine⟨fun g => ?_,fun g => ?_⟩
 . have af:k<s.aF.length:=oo
   have hc:=ja.1 _ (eJ Tc.ar.aa af);simp only [ajp];refine⟨⟨oo,oo⟩,hc,fun h1=>hF (fun hs=>((hI.1 hs).2.1 k af).1) (by simpa using h1),fun h1=>⟨ua 4 k (Fs s.aF k),?_⟩⟩;have oK:jf (s.aF.getD k Tc.ar.aa)=true:=by simpa using h1
   conv=>arg 1; cbv
   refine⟨?_,fun (j:Nat) hj => ?_⟩
   . simp (maxSteps:=4000000) only [ay,aJ,aH,aO];simp
   have rU:j<=k/\∀ i,i<j->Fs s.aF k i:=hj;have p7:=rU.1;have gI:=rU.2;refine fm ?_;refine⟨fun gj => ?_,fun gj=>j5 (n:=s.aF.length) (P:=O7 s.aF) oo af bm ⟨oK,fun i hi=>gI i oo⟩⟩;have mq:j<k:=oo
   have hN:=fun q=>j5 (P:=Fs s.aF k) (show k<=1000000000000 from oo) mq gI q;have Fw:¬ Fs s.aF k j->false=gS s:=fun q=>hF (fun hs=>((hI.1 hs).2.1 k af).2 j mq) q;exact⟨⟨oo,oo⟩,⟨oo,oo⟩,fun a=>⟨⟨oo,oo⟩,⟨oo,oo⟩,fun b=>⟨⟨oo,oo⟩,⟨oo,oo⟩,fun c=>Fw fun q=>q ⟨a,b,eq_of_beq c⟩,fun c=>hN fun q=>(Kk.1 c) q.2.2⟩,fun b=>hN fun q=>b q.2.1⟩,fun a=>hN fun q=>a q.1⟩
 . refine⟨⟨⟨bw _,fun j hj=>absurd hj (jB _)⟩,rfl⟩,fun (i:Nat) hi => ?_⟩;have rP:i<=s.bO.length/\∀ j,j<i->O8 s.bO j:=hi;have uF:=rP.1;have mw:=rP.2;refine fm ?_;refine⟨fun g3 => ?_,fun g3=>(hI.2 ⟨⟨oo,oo⟩,fun j hj=>bm j oo,fun j hj=>mw j oo⟩).symm⟩;have vZ:i<s.bO.length:=oo
   have hr:=ja.2 _ (eJ Tc.cD.aa vZ);refine⟨⟨oo,oo⟩,fun a=>hF (fun hs=>((hI.1 hs).2.2 i vZ).1.1) (by simp only [iA,fG,YJ,ew] at a; omega),fun a=>⟨fun b=>hF (fun hs=>((hI.1 hs).2.2 i vZ).1.2) (fun q=>q oo),fun b=>⟨aAG s.bO i,?_⟩⟩⟩;simp only [iA,iR,aD,aU] at a
   conv=>arg 1; cbv
   refine⟨?_,fun (j:Nat) hj => ?_⟩
   . exact ajE
   have rU:j<=(s.bO.getD i Tc.cD.aa).rows.length/\∀ i',i'<j->Ft s.bO i i':=hj;have p7:=rU.1;have gI:=rU.2;refine fm ?_;refine⟨fun g4 => ?_,fun g4=>j5 (n:=s.bO.length) (P:=O8 s.bO) oo vZ mw ⟨⟨a,oo⟩,fun j hj=>gI j oo⟩⟩;have hjr:j<(s.bO.getD i Tc.cD.aa).rows.length:=oo
   have Xi:¬ Ft s.bO i j->false=gS s:=fun q=>hF (fun hs=>((hI.1 hs).2.2 i vZ).2 j hjr) q;have sU:=fun (q:Ft s.bO i j)=>q.1;unfold kD at sU;simp only [aD,fM,aU] at sU;refine⟨⟨oo,oo⟩,fun c=>Xi fun q => ?_,fun c=>⟨fun z=>⟨ii,⟨oo,oo⟩,⟨oo,oo⟩,fun e=>Xi fun q => ?_,fun e => ?_⟩,fun z => ?_⟩⟩
   . have q1:0<=(s.bO.getD i Tc.cD.aa).rows.getD j Tc.int.aa:=(sU q).1.1;have q2:(s.bO.getD i Tc.cD.aa).rows.getD j Tc.int.aa<=30:=(sU q).1.2;simp only [iA,cT q1,cT q2] at c;cases c
   . have q1:(s.bO.getD i Tc.cD.aa).rows.getD (j - 1) Tc.int.aa<(s.bO.getD i Tc.cD.aa).rows.getD j Tc.int.aa:=(sU q).2.resolve_left oo;omega
   all_goals simp only [iA,iR,aD,aU] at c
   . have ajG:kD 30 (s.bO.getD i Tc.cD.aa).rows j=true:=by
      unfold kD;simp only [aD,fM,aU];exact⟨c,.inr (Int.not_le.1 e)⟩
     exact no_implicit_lambda% ajH
   . have ajG:kD 30 (s.bO.getD i Tc.cD.aa).rows j=true:=by
      unfold kD;simp only [aD,fM,aU];exact⟨c,.inl oo⟩
     exact no_implicit_lambda% ajH
def Fy(l:List aL)(k j:Nat):Prop:=(l.getD k Tc.box.aa).num≠jF/\(l.getD j Tc.box.aa).num=(l.getD k Tc.box.aa).num
theorem aAI{l:List aL}{k:Nat}(hk:k<l.length):kA l k=true↔kz (l.getD k Tc.box.aa)=false\/(0<k/\(l.getD k Tc.box.aa).id<=(l.getD (k - 1) Tc.box.aa).id)\/∃ j,j<k/\Fy l k j:=by
 have hg:∀ i (hi:i<l.length),l.getD i Tc.box.aa=l[i]:=fun i hi=>by rw [aY,bq hi]; rfl
 have h1:kA l k=(vn l k l[k].num||decide (l[k].id<=vo l k) || !kz l[k]):=by unfold kA; rw [bq hk]
 have h2:vo l k=if k=0 then 0 else (l.getD (k - 1) Tc.box.aa).id:=by
  unfold vo;split
  . rfl
  . rw [bq oo,hg _ oo];rfl
 have h3:vn l k l[k].num=true↔∃ j,j<k/\Fy l k j:=by
  unfold vn Fy;rw [F0,hg k hk];constructor
  . rintro⟨b,hb,he⟩
    obtain⟨j,hj,rfl⟩:=aD3.1 hb;simp only [aD,fG,ew,aU] at he;refine⟨j,oo,fun e=>he.1 ?_,?_⟩
    . rw [he.2,e]; rfl
    . rw [hg j oo]; exact he.2
  . rintro⟨j,hj,h4,h5⟩
    rw [hg j oo] at h5;refine⟨l[j],aD3.2 ⟨j,oo,rfl⟩,?_⟩;simp only [aD,fG,ew,aU];exact⟨fun e=>h4 (by rw [<- h5,e]; rfl),h5⟩
 rw [h1,fM,fM,h3,aU,h2,hg k hk,fG];constructor
 . rintro ((h|h)|h)
   . exact .inr (.inr h)
   . split at h
     . cases hB:kz l[k] with
       | false=>exact .inl rfl
       | true=>have:=((ajj _).1 hB).1; omega
     . exact .inr (.inl ⟨oo,h⟩)
   . exact .inl h
 . rintro (h|⟨h,h'⟩|h)
   . exact .inr h
   . exact .inl (.inr (by rw [ax oo]; exact h'))
   . exact .inl (.inl h)
def ajI:aC:=cL 136 jc (fun l=>(l ()).length<=1000000000000/\∀ b∈l (),b.num.size<=140737488351232) (fun l => .bp [.int .i64 fun _=>(jN (l ())).1,.int .i64 fun _=>(jN (l ())).2])
theorem aAJ:aE Tryz.prog ajI:=by
 refine bZ { kp := [(0,[0]),(1,[0]),(2,[]),(3,[0]),(4,[0,4]),(5,[0,4]),(6,[0,4]),(7,[4]),(8,[0,4]),(9,[0,4,5]),(10,[0,4,5]),(11,[0,4,5]),(12,[4]),(13,[])] } [ajk] ⟨aAc,trivial⟩ [] trivial Tryz.func136 (by kernel_rfl) fun ah res h hp => ?_;obtain⟨(l:List aL),rfl,rfl⟩:=cS h;clear h;have JF:l.length<=1000000000000/\∀ b∈l,b.num.size<=140737488351232:=hp;have xW:=JF.1;have iJ:=JF.2;refine⟨[(4,jP 4 l fun j=>kA l j=false)],?_⟩;refine fm ?_;refine⟨fun h => ?_,fun h=>⟨⟨⟨bw _,fun j hj=>absurd hj (jB _)⟩,rfl⟩,fun (k:Nat) hk => ?_⟩⟩
 . have e:jN l=(-1,5):=by unfold jN; rw [aG oo]
   rw [e];exact⟨rfl,rfl⟩
 have bu:k<=l.length/\∀ j,j<k->kA l j=false:=hk;have bM:=bu.1;have bm:=bu.2;refine fm ?_;have h5:l.length<=2000:=oo
 refine⟨fun g => ?_,fun g => ?_⟩
 . have af:k<l.length:=oo
   have j4:kA l k=true->(k:Int)=(jN l).1/\60=(jN l).2:=fun h=>by rw [ag2 h5 af bm h]; exact⟨rfl,rfl⟩
   have O9:=aAI af;refine⟨⟨oo,oo⟩,iJ _ (eJ Tc.box.aa af),fun b=>j4 (O9.2 (.inl (by simpa using b))),fun b=>⟨fun c=>⟨⟨oo,oo⟩,ii,⟨oo,oo⟩,fun d=>j4 (O9.2 (.inr (.inl ⟨oo,d⟩))),fun d => ?_⟩,fun c => ?_⟩⟩
   . have hI:k=0\/(l.getD (k - 1) Tc.box.aa).id<(l.getD k Tc.box.aa).id := .inr oo;exact no_implicit_lambda% ajJ
   . have hI:k=0\/(l.getD (k - 1) Tc.box.aa).id<(l.getD k Tc.box.aa).id := .inl oo;exact no_implicit_lambda% ajJ
 . have im:k=l.length:=oo
   subst im;rw [ag3 h5 bm];exact⟨rfl,rfl⟩
end Go.Proofs.YtamjbkaclhgffaaGreat
