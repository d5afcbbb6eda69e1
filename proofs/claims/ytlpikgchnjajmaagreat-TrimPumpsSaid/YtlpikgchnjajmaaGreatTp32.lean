/-
  The examples of the chapters 7 and 15.
-/
import Derived.Test.YtlpikgchnjajmaaGreatTp31
set_option linter.all false
set_option maxRecDepth 100000
set_option maxHeartbeats 4000000
namespace Go.Proofs.YtlpikgchnjajmaaGreat
open Go.RowKit
variable{a n sz:Int}{bs:List aJ}{st:List ay}{cs:List dp}{l:List iT}{d:List iU}{i j k:Nat}{α:Type}{b:aJ}{s:aZ}{c c':dp}
def ats:List dp := [⟨0,0,false,2,0,0,0,0,[],0,0,0⟩,⟨0,1,false,2,0,0,0,0,[],0,0,0⟩,⟨0,0,true,3,0,0,0,0,[],0,0,0⟩,⟨0,1,true,3,0,0,0,0,[],0,0,0⟩,⟨1,1,true,4,0,0,0,0,[],0,0,0⟩]
def Mg:List lg := [⟨0,[0,1]⟩]
def Mh:List dp := [⟨0,0,false,2,0,0,0,0,[],1000,-500,2000⟩,⟨0,1,false,2,0,0,0,0,[],0,0,0⟩,⟨0,0,true,3,0,0,0,0,[],0,0,0⟩,⟨0,1,true,3,0,0,0,0,[],0,0,0⟩,⟨1,1,true,4,0,0,0,0,[],0,0,0⟩]
def rf:List aJ := [⟨1,ic,20,false,5000,0,1,0,false⟩,⟨2,ic,20,false,8000,0,1,0,false⟩,⟨3,ic,40,true,10000,0,1,0,false⟩]
def tG:List ay := [⟨1,0,0,1⟩,⟨2,0,0,2⟩,⟨3,0,1,0⟩]
def aex(loc:Nat):AV := .agg [.own loc,.sl true .e9 fun _=>Mg,.lit .i64 0,.lit .i64 0,.lit .i64 0,.lit .i64 0,.nil,.nil,.nil,.lit .i64 0,.lit .i64 0,.lit .i64 0,.lit .i64 0]
def Um:fk:=⟨140,[],0,fun ai es=>match ai,es with
 | [],[]=>some ⟨fun _=>True,aex 1,[(1,.row true .ax 49 fun _=>ats)]⟩
 | _,_=>none,false⟩
def Un:fk:=⟨64,[],0,fun ai es=>match ai,es with
 | [],[]=>some ⟨fun _=>True,.aU [aex 2,.own 4,.own 5],[(2,.row true .ax 49 fun _=>Mh),(4,.row true .box 139 fun _=>rf),(5,.row true .aq 98 fun _=>tG)]⟩
 | _,_=>none,false⟩
theorem att:gp Tryz.prog Um:=by
 refine AA [] trivial [] trivial Tryz.func140 (by kernel_rfl) fun ai es res h hp => ?_;simp only [Um] at h;split at h
 case h_2=>cases h
 exact no_implicit_lambda% aey
theorem atu:gp Tryz.prog Un:=by
 refine FV { jn := [(2,[0,1,2,3])],sc := [(2,bo [0,2,4] (.alt (bo [1,6,7] (.alt (.op 3 (.alt (bo [5,8,9,10,11,12,13,14] .nil) (bo [8,9,10] (.alt (bo [5,11,12,13,14] .nil) (bo [11,5,12,13,14] .nil))))) (.alt (.op 5 (.alt (bo [3,8,9,10,11,12,13,14] .nil) (bo [8,3,9,10,11,12,13,14] .nil))) (.op 8 (.alt (bo [3,9,10] (.alt (bo [5,11,12,13,14] .nil) (bo [11,5,12,13,14] .nil))) (bo [5,3,9,10,11,12,13,14] .nil)))))) (.alt (.op 3 (.alt (bo [1,6,7] (.alt (bo [5,8,9,10,11,12,13,14] .nil) (bo [8,9,10] (.alt (bo [5,11,12,13,14] .nil) (bo [11,5,12,13,14] .nil))))) (bo [5,1,6,7,8,9,10,11,12,13,14] .nil))) (.op 5 (.alt (bo [1,6,7] (.alt (bo [3,8,9,10,11,12,13,14] .nil) (bo [8,3,9,10,11,12,13,14] .nil))) (bo [3,1,6,7,8,9,10,11,12,13,14] .nil))))))] } [] trivial [Um] ⟨att,trivial⟩ Tryz.func64 (by kernel_rfl) fun ai es res h hp => ?_;simp only [Un] at h;split at h
 case h_2=>cases h
 exact no_implicit_lambda% aey
def sq(d:iU):Prop:=(0<=d.ax/\d.ax<=255)/\0<=d.af/\d.af<=255
def rh(i:Nat)(d:iU):aJ:=⟨5*(i+1),ic,cond d.small 20 40,cond d.small false d.high,1000+100*d.af,0,1,0,false⟩
def jU(l:List iU)(k:Nat):List aJ:=(List.range k).map fun i=>rh i (l.getD i Tc.fO.aa)
def Mi(id:Int)(x:Slot):ay:=⟨id,x.ax,x.aF,x.half⟩
def Mj(s:aZ)(bs:List aJ)(st:List ay)(id c:Int)(x:Slot):Bool:=decide (x.ax=c.tmod s.aE.length)&&ee s bs (st ++ [Mi id x])
def oB(s:aZ)(l:List iU):Nat->List ay
 | 0 => []
 | k+1=>match (y4 s.aE (rh k (l.getD k Tc.fO.aa)).size).find? (Mj s (jU l (k+1)) (oB s l k) (5*((k:Int)+1)) (l.getD k Tc.fO.aa).ax) with
  | some x=>oB s l k ++ [Mi (5*((k:Int)+1)) x]
  | none=>oB s l k
theorem aez(l)(k):jU l (k+1)=jU l k ++ [rh k (l.getD k Tc.fO.aa)]:=by
 unfold jU;rw [ahH,sC];rfl
theorem G7(l)(k):(jU l k).length=k:=by simp [jU]
theorem Uo(s)(l):∀ k,(oB s l k).length<=k
 | 0=>az _
 | k+1=>by
  unfold oB;have:=Uo s l k;split
  . rw [ej];simp only [c9,fE];omega
  . omega
theorem atv(h1:cs.length<=1000)(h2:∀ c∈cs,0<=c.cW/\c.cW<=1000):(y4 cs sz).length<=2000000:=by
 have:=LM (cs.map (·.cW)) sz (fun t ht=>by
  obtain⟨c,hc,rfl⟩:=iq.1 ht;exact (h2 c hc).2) cs.length
 unfold y4;omega
theorem atw{p : α->Bool}{l:List α}(d)(h:(l.take j).all (fun x => !p x)=true)(hj:j<l.length)(hp:p (l.getD j d)=true):l.find? p=some (l.getD j d):=by
 have e:l.getD j d=l[j]:=by rw [ba,bp hj]; rfl
 rw [e] at hp ⊢;have h1:(l.take j).find? p=none:=by
  exact aeA
 rw [show l.find? p=(l.take j++l.drop j).find? p from by rw [jg],List.find?_append,h1,vD hj,List.find?_cons,hp];rfl
theorem atx{p : α->Bool}{l:List α}(h:(l.take j).all (fun x => !p x)=true)(hj:l.length<=j):l.find? p=none:=by
 rw [lL hj] at h;exact aeA
theorem aty(s):(⟨s.aE,s.dh,s.lk,s.lx,s.ly,s.lz,s.rows,s.uZ,s.aM,s.m1,s.m2,s.m3,s.m4⟩:aZ)=s:=rfl
def atz(s:aZ)(l:List iU)(m:Nat):Lp where
 X:=Nat
 ov k := [(23,.int .i64 fun _=>(k:Int)),(8,.own 1),(9,.sl true .aq fun _=>oB s l k)]
 oe k := [(1,.row true .box 139 fun _=>jU l k)]
 I k:=k<=m
 μ k _:=m - k
 x0:=0
 nx:=some fun k=>k+1
def atA(xs:List Slot)(st:List ay)(p:Slot->Bool):Lp where
 X:=Nat
 ov j := [(52,.int .i64 fun _=>(j:Int)),(9,.sl true .aq fun _=>st)]
 oe j := []
 I j:=j<=xs.length/\(xs.take j).all (fun x => !p x)=true
 μ j _:=xs.length - j
 x0:=0
 nx:=some fun j=>j+1
def aeB:aH:=lE 142 ou abc kI (fun s l mV=>(p7 (s ())/\(s ()).aE ≠ []/\(s ()).aE.length<=1000/\∀ c∈(s ()).aE,0<=c.cW/\c.cW<=1000)/\(∀ d∈l (),sq d)/\(0<=mV ()/\mV ()<=1000)/\(l ()).length<=140737488351232) (fun s l mV => .aU [.sl true .box fun _=>jU (l ()) (min (l ()).length (mV ()).toNat),.sl true .aq fun _=>oB (s ()) (l ()) (min (l ()).length (mV ()).toNat)])
theorem atB:aK Tryz.prog aeB:=by
 refine eE { fz := [(15,[6,7])],kp := [(10,[23,8,9,11,12]),(13,[52,9,14]),(14,[52,9,14,15]),(15,[15])],sc := [(13,bo [1,3] (.alt (.op 0 (.alt (.op 2 (.alt (bo [4,5,6,7,8,9] .nil) (bo [5,4,6,7,8,9] .nil))) (.alt (.op 4 (.alt (bo [2,5,6,7,8,9] .nil) (.op 5 (.alt (bo [2,6,7,8,9] .nil) (.op 6 (.alt (bo [2,7,8,9] .nil) (bo [7,2,8,9] .nil))))))) (.op 5 (.alt (bo [2,4,6,7,8,9] .nil) (.op 4 (.alt (bo [2,6,7,8,9] .nil) (.op 6 (.alt (bo [2,7,8,9] .nil) (bo [7,2,8,9] .nil)))))))))) (.alt (.op 4 (.alt (.op 0 (.alt (bo [2,5,6,7,8,9] .nil) (.op 5 (.alt (bo [2,6,7,8,9] .nil) (.op 6 (.alt (bo [2,7,8,9] .nil) (bo [7,2,8,9] .nil))))))) (.op 5 (.alt (.op 0 (.alt (bo [2,6,7,8,9] .nil) (.op 6 (.alt (bo [2,7,8,9] .nil) (bo [7,2,8,9] .nil))))) (.op 6 (.alt (.op 0 (.alt (bo [2,7,8,9] .nil) (bo [7,2,8,9] .nil))) (bo [7,0,2,8,9] .nil))))))) (.op 5 (.alt (.op 0 (.alt (bo [2,4,6,7,8,9] .nil) (.op 4 (.alt (bo [2,6,7,8,9] .nil) (.op 6 (.alt (bo [2,7,8,9] .nil) (bo [7,2,8,9] .nil))))))) (.op 4 (.alt (.op 0 (.alt (bo [2,6,7,8,9] .nil) (.op 6 (.alt (bo [2,7,8,9] .nil) (bo [7,2,8,9] .nil))))) (.op 6 (.alt (.op 0 (.alt (bo [2,7,8,9] .nil) (bo [7,2,8,9] .nil))) (bo [7,0,2,8,9] .nil)))))))))),(14,bo [0,1,2,3,4,5,6,7,8,9,10,11,12,13,14,15] .nil)] } [adv,SE] ⟨arC,aca,trivial⟩ [] trivial Tryz.func142 (by kernel_rfl) fun ai res h hp => ?_;obtain⟨(s:aZ),(l:List iU),(mV:Int),rfl,rfl⟩:=mO h;clear h;have Mk:(p7 s/\s.aE ≠ []/\s.aE.length<=1000/\∀ c∈s.aE,0<=c.cW/\c.cW<=1000)/\(∀ d∈l,sq d)/\(0<=mV/\mV<=1000)/\l.length<=140737488351232:=hp;have hs:=Mk.1;have hw:=Mk.2.1;have Lj:=Mk.2.2.1;have hl:=Mk.2.2.2;refine cL (min l.length mV.toNat) fun m hm => ?_;refine⟨[(4,atz s l m)],?_⟩;have AS:(bif decide (mV<(l.length:Int)) then mV else (l.length:Int))=(m:Int):=by
  by_cases h:mV<(l.length:Int)
  . rw [c8 h,eG]; omega
  . exact LV
 conv=>arg 1; cbv
 simp (maxSteps:=4000000) only [aB];refine⟨by rw [AS]; omega,⟨cm _,rfl,rfl,rfl⟩,fun (k:Nat) hk => ?_⟩;have fP:k<=m:=hk
 conv=>arg 1; cbv
 simp (maxSteps:=4000000) only [aB];simp only [AS,dV];refine⟨fun g => ?_,fun g => ?_⟩
 . have xd:k<m:=oo
   have hq:=hw _ (lG Tc.fO.aa (show k<l.length from oo));have sf:=aez l k;have iV:=G7 l k;have BS:=Uo s l k;have oC:oB s l (k+1)=match (y4 s.aE (rh k (l.getD k Tc.fO.aa)).size).find? (Mj s (jU l (k+1)) (oB s l k) (5*((k:Int)+1)) (l.getD k Tc.fO.aa).ax) with
    | some x=>oB s l k ++ [Mi (5*((k:Int)+1)) x]
    | none=>oB s l k:=rfl
   generalize l.getD k Tc.fO.aa=d at hq sf oC ⊢;obtain⟨dc,dk,dsm,dhi⟩:=d;obtain⟨⟨gG,s8⟩,cZ,cg⟩:(0<=dc/\dc<=255)/\0<=dk/\dk<=255:=hq;refine⟨⟨oo,oo⟩,ii,ii,ii,ii,ii,fun G8 => ?_,fun G8 => ?_⟩
   . simp only at G8;subst G8;simp only [rh,eG,fG] at sf oC;refine⟨by rw [iV]; simp only [c9,fE]; omega,⟨hs.2.2.1,hs.2.2.2⟩,?_⟩;simp only [<- sf];have Up:=G7 l (k+1);clear sf iV;generalize hB:jU l (k+1)=bs at Up oC ⊢;generalize hS:oB s l k=st at BS oC ⊢;generalize hX:y4 s.aE 20=xs at oC ⊢;exact no_implicit_lambda% s_2
   . simp only at G8;subst G8;simp only [rh,eG,fG] at sf oC;refine⟨by rw [iV]; simp only [c9,fE]; omega,⟨hs.2.2.1,hs.2.2.2⟩,?_⟩;simp only [<- sf];have Up:=G7 l (k+1);clear sf iV;generalize hB:jU l (k+1)=bs at Up oC ⊢;generalize hS:oB s l k=st at BS oC ⊢;generalize hX:y4 s.aE 40=xs at oC ⊢;exact no_implicit_lambda% s_2
 . rw [hm,show k=m from oo];exact⟨rfl,rfl⟩
theorem Uq{l:List iT}(hw:∀ p∈l,nH p):∀ {k:Nat},k<=l.length->∀ c∈iN l k,∃ p,nH p/\c=ph p
 | 0,_,c,h=>by cases h
 | k+1,hk,c,h=>by
  unfold iN at h;have hq:=hw _ (lG Tc.fc.aa (show k<l.length from oo))
  cases hE:(sm (iN l k) (ph (l.getD k Tc.fc.aa)).cV (ph (l.getD k Tc.fc.aa)).row (l.getD k Tc.fc.aa).fv).isEmpty with
  | true =>
   rw [hE,eG,ku] at h;rcases h with h|h
   . exact Uq hw oo c h
   . rw [kq] at h;exact⟨_,hq,h⟩
  | false =>
   rw [hE,fG] at h;exact Uq hw oo c h
theorem atC{b:Int}{d:Bool}(h:(sm cs a b d).isEmpty=true):∀ c∈cs,vk a b d c=false:=by
 intro c hc;obtain⟨j,hj⟩:=kW.1 hc;obtain⟨aj,he⟩:=cM.1 hj
 cases hb:vk a b d c with
 | false=>rfl
 | true =>
  exfalso;have:(j:Int)∈sm cs a b d:=by
   unfold sm vl;refine iq.2 ⟨j,H8.2 ⟨gP.2 aj,?_⟩,rfl⟩;rw [ba,hj];exact hb
  rw [Bl.1 h] at this;cases this
theorem atD{b:Int}{d:Bool}(h:vk a b d c=false)(h1:c'.cV=a)(h2:c'.row=b)(h3:c'.fv=d):fK c≠fK c':=by
 intro e;unfold fK at e;rw [h1,h2,h3] at e;simp only [sB,Kx.i.injEq,aR,aS] at e;obtain⟨e1,e2,e3⟩:=e;have e4:c.fv=d:=by cases hc:c.fv<;>cases d<;>simp_all
 unfold vk at h;rw [e1,e2,e4] at h;simp at h
theorem aeD(l):∀ k,((iN l k).map fK).Nodup
 | 0=>VA
 | k+1=>by
  unfold iN;have ih:=aeD l k
  cases hE:(sm (iN l k) (ph (l.getD k Tc.fc.aa)).cV (ph (l.getD k Tc.fc.aa)).row (l.getD k Tc.fc.aa).fv).isEmpty with
  | true =>
   rw [eG,sC,DE];refine⟨ih,by simp,fun a ha b hb => ?_⟩;obtain⟨c,hc,rfl⟩:=iq.1 ha;rw [List.map_singleton,kq] at hb;subst hb;exact atD (atC hE c hc) rfl rfl rfl
  | false=>exact ih
theorem Ml(n):∀ k,∀ x∈pk n k,∃ j,j<k/\x.cV=j/\(x.rows = [0,1]\/x.rows = [2,3,4])
 | 0,x,h=>by cases h
 | k+1,x,h=>by
  unfold pk at h;rw [ku,ku] at h;rcases h with (h|h)|h
  . obtain⟨j,h1,h2⟩:=Ml n k x h;exact⟨j,oo,h2⟩
  . cases hb:tw n (2*(k:Int)) with
    | true=>rw [hb,eG,kq] at h; subst h; exact⟨k,oo,rfl,.inl rfl⟩
    | false=>rw [hb,fG] at h; cases h
  . cases hb:tw n (2*(k:Int)+1) with
    | true=>rw [hb,eG,kq] at h; subst h; exact⟨k,oo,rfl,.inr rfl⟩
    | false=>rw [hb,fG] at h; cases h
theorem aeE{x:lg}{key:List Kx}(h:key∈eQ x):∃ r∈x.rows,key = [.i .i64 x.cV,.i .i64 r,.i .i64 2]:=by
 obtain⟨r,h1,h2⟩:=iq.1 h;exact⟨r,h1,h2.symm⟩
theorem aeF(n):∀ k,((pk n k).flatMap eQ).Nodup
 | 0=>VA
 | k+1=>by
  unfold pk;have ih:=aeF n k;have hold:∀ a∈(pk n k).flatMap eQ,∃ (j:Nat) (r:Int),j<k/\a = [.i .i64 (j:Int),.i .i64 r,.i .i64 2]:=fun a ha=>by
   obtain⟨x,hx,ke⟩:=Vw.1 ha;obtain⟨j,hj,hb,_⟩:=Ml n k x hx;obtain⟨r,_,e⟩:=aeE ke;exact⟨j,r,hj,by rw [e,hb]⟩
  have Fv:∀ (rs:List Int),∀ a∈(pk n k).flatMap eQ,∀ b∈rs.map (fun r => [Kx.i .i64 (k:Int),Kx.i .i64 r,Kx.i .i64 2]),a≠b:=fun rs a ha b hb e=>by
   obtain⟨j,r,hj,rfl⟩:=hold a ha;obtain⟨r',_,rfl⟩:=iq.1 hb;simp only [sB,Kx.i.injEq,aR,aS] at e;omega
  cases tw n (2*(k:Int))<;>cases tw n (2*(k:Int)+1)<;>simp only [eG,fG,qk]
  . exact ih
  . rw [Vq,DE];exact⟨ih,by simp [eQ],fun a ha b hb=>Fv [2,3,4] a ha b (by simpa [eQ] using hb)⟩
  . rw [Vq,DE];exact⟨ih,by simp [eQ],fun a ha b hb=>Fv [0,1] a ha b (by simpa [eQ] using hb)⟩
  . rw [gv,Vq,DE];exact⟨ih,by simp [eQ],fun a ha b hb=>Fv [0,1,2,3,4] a ha b (by simpa [eQ] using hb)⟩
theorem Ur(l):pj l = [LU]\/pj l=iN l (min l.length 12)/\iN l (min l.length 12) ≠ []:=by
 unfold pj
 cases hE:iN l (min l.length 12) with
 | nil=>exact .inl rfl
 | cons x xs=>exact .inr ⟨rfl,by simp⟩
theorem aeG(l):1<=(pj l).length/\(pj l).length<=12:=by
 rcases Ur l with h|⟨h,h2⟩
 . rw [h]; simp
 . rw [h];have:=TG l (min l.length 12);have:=List.length_pos_iff.2 h2;omega
def Mm(c:dp):Prop:=(0<=c.cV/\c.cV<=4)/\(0<=c.row/\c.row<=4)/\(2<=c.cW/\c.cW<=5)/\(c.mq=0/\c.xG=500000000/\c.xH=500000000/\c.xI=0/\c.fS = [])/\(-26000<=c.x/\c.x<=26000)/\(-5000<=c.y/\c.y<=5000)/\2000<=c.z/\c.z<=20000
theorem G9(hw:∀ p∈l,nH p):∀ c∈pj l,Mm c:=by
 intro c hc;rcases Ur l with h|⟨h,_⟩
 . rw [h,kq] at hc;subst hc;simp [Mm,LU]
 . rw [h] at hc;obtain⟨p,⟨⟨a1,a2⟩,⟨b1,b2⟩,c1,c2⟩,rfl⟩:=Uq hw (Nat.min_le_left _ _) c hc;simp only [Mm,ph,aR,aS];cases p.fv<;>simp only [eG,fG]<;>omega
theorem atE(h:Mm c):jQ c=true:=by
 obtain⟨h1,h2,h3,⟨h4,h5,h6,h7,h8⟩,h9,oO,qQ⟩:=h;unfold jQ l9 sd;rw [h8,h4,h5,h6,h7];simp [nB];omega
theorem atG(l):((pj l).map fK).Nodup:=by
 rcases Ur l with h|⟨h,_⟩
 . rw [h]; simp
 . rw [h]; exact aeD _ _
theorem aeH(hw:∀ p∈l,nH p):gu (vn l n)=true:=by
 have h1:=aeG l;have h2:=TH n 5;have hk:(vf (vn l n)).Nodup:=by
  unfold vf vn;rw [DE];refine⟨atG l,aeF n 5,fun a ha b hb e => ?_⟩;obtain⟨c,_,rfl⟩:=iq.1 ha;obtain⟨x,_,hx⟩:=Vw.1 hb;obtain⟨r,_,rfl⟩:=aeE hx;unfold fK at e;simp only [sB,Kx.i.injEq,aR,aS] at e;have e3:=e.2.2;cases hd:c.fv<;>rw [hd] at e3<;>simp at e3
 have hc:(vn l n).aE.all jQ=true:=dK.2 fun c hc=>atE (G9 hw c hc);have hv:(vn l n).dh.all nD=true:=dK.2 fun x hx=>by
  obtain⟨j,hj,hb,hr⟩:=Ml n 5 x hx;unfold nD;rw [hb];have r1:l9 30 [0,1]=true:=by decide
  have r2:l9 30 [2,3,4]=true:=by decide
  have r3:(0:Int)<=(j:Int)/\(j:Int)<40:=oo
  rcases hr with hr|hr<;>rw [hr]<;>simp [r1,r2,r3]
 unfold gu;rw [hc,hv,c8 hk];simp only [ga,dL,au,aI];exact⟨h1.1,by show (pj l).length<=200; omega,by show (pk n 5).length<=40; omega⟩
theorem aeI(hw:∀ p∈l,nH p):p7 (vn l n):=by
 refine⟨fun c hc => ?_,fun x hx => ?_⟩
 . obtain⟨h1,h2,h3,⟨h4,h5,h6,h7,h8⟩,_⟩:=G9 hw c hc;rw [h8];exact⟨by simp,ii⟩
 . obtain⟨j,hj,hb,hr⟩:=Ml n 5 x hx;rcases hr with hr|hr<;>rw [hr]<;>simp
theorem atH{d:iU}(h:sq d)(hi:i<=1000):nw (rh i d)=true:=by
 obtain⟨h1,h2⟩:=h;unfold nw gI rh;cases d.small<;>cases d.high<;>simp [u5,AJ,r5,ic]<;>omega
theorem aeJ{l:List iU}(hi:i<k):(jU l k)[i]? = some (rh i (l.getD i Tc.fO.aa)):=by
 unfold jU;rw [gY,Nf hi];rfl
theorem atI(i)(d):(rh i d).num=r5:=rfl
theorem atJ{l:List iU}(hw:∀ d∈l,sq d)(hk:k<=l.length)(cg:k<=1000)(i)(hi:i<k):mQ (jU l k) i=false:=by
 have hs:u9 (jU l k) i (rh i (l.getD i Tc.fO.aa)).num=false:=by
  unfold u9;rw [DF];intro b hb;have aW:=vF hb;unfold jU at aW;obtain⟨j,_,rfl⟩:=iq.1 aW;simp [atI]
 have hb:=atH (hw _ (lG Tc.fO.aa (show i<l.length from oo))) (show i<=1000 from oo);have hid:decide ((rh i (l.getD i Tc.fO.aa)).id<=vd (jU l k) i)=false:=by
  rw [fR];unfold vd;by_cases h0:i=0
  . rw [aw h0];show ¬ (5*((i:Int)+1)<=0)
    omega
  . rw [ar h0,aeJ (show i - 1<k from oo)];show ¬ (5*((i:Int)+1)<=5*(((i - 1:Nat):Int)+1))
    omega
 unfold mQ;rw [aeJ hi];simp only [hs,hid,hb,fM,gA]
theorem atK{l:List iU}(hw:∀ d∈l,sq d)(hk:k<=l.length)(cg:k<=1000):mR (jU l k)=(-1,0):=by
 unfold mR;rw [G7,ar oo];have:(List.range k).find? (mQ (jU l k))=none:=by
  rw [M4];intro i hi;rw [atJ hw hk cg i (gP.1 hi)];simp
 rw [this]
theorem aeK{id:Int}(h:(bZ bs id).2=true):bZ (bs ++ [b]) id=bZ bs id:=by
 unfold bZ at h ⊢;rw [List.find?_append]
 cases hf:bs.find? (r6 id) with
 | none=>rw [hf] at h; cases h
 | some x=>rfl
theorem aeL(h:mS cs bs st k=true):(bZ bs (st.getD k Tc.aq.aa).box).2=true:=by
 unfold mS at h;simp only [au] at h;exact h.1.1
theorem aeM(h:ee s bs st=true):∀ x∈st,(bZ bs x.box).2=true:=by
 intro x hx;unfold ee at h;simp only [au,aI] at h;obtain⟨j,hj⟩:=kW.1 hx;obtain⟨aj,he⟩:=cM.1 hj;have:=aeL (h.2.1 j aj);rwa [ba,hj] at this
theorem aeN(h:∀ x∈st,(bZ bs x.box).2=true)(c z):fB (bs ++ [b]) st c z=fB bs st c z:=by
 unfold fB;congr 1;refine Nc fun x hx => ?_;unfold lF;rw [aeK (h x hx)]
theorem atL(h:ee s bs st=true):ee s (bs ++ [b]) st=true:=by
 have hf:=aeM h;unfold ee at h ⊢;simp only [au,aI] at h ⊢;refine⟨h.1,fun k hk => ?_,fun c hc => ?_⟩
 . have h1:=h.2.1 k hk;have h2:=aeK (b:=b) (aeL h1);unfold mS at h1 ⊢;rw [h2];exact h1
 . have h1:=h.2.2 c hc;unfold tp at h1 ⊢;rw [aeN hf,aeN hf];exact h1
theorem atM(h:gu s=true)(h0:∀ c∈s.aE,c.mq=0):ee s [] []=true:=by
 unfold ee;simp only [h,dL,au,aI];refine⟨fun k hk=>absurd hk (by simp),fun c hc => ?_⟩;unfold tp;rw [h0 _ (lG Tc.ax.aa (show ((c:Int)).toNat<s.aE.length by simpa using hc))];rfl
theorem aeO{s:aZ}{l:List iU}(h:gu s=true)(h0:∀ c∈s.aE,c.mq=0):∀ k,ee s (jU l k) (oB s l k)=true
 | 0=>atM h h0
 | k+1=>by
  have ih:=atL (b:=rh k (l.getD k Tc.fO.aa)) (aeO (l:=l) h h0 k);rw [<- aez] at ih;unfold oB;split
  . rename_i x hx;have:=List.find?_some hx;unfold Mj at this;simp only [au] at this;exact this.2
  . exact ih
/- Made -/
def tH(l:List iT)(n:Int):aZ:=vn l n
def dQ(d:List iU):List aJ:=jU d (min d.length 16)
def dJ(l:List iT)(n:Int)(d:List iU):List ay:=oB (vn l n) d (min d.length 16)
theorem atN(hw:∀ p∈l,nH p):ee (tH l n) (dQ d) (dJ l n d)=true :=
 aeO (aeH hw) (fun c hc=>(G9 hw c hc).2.2.2.1.1) _
theorem atO(hw:∀ p∈l,nH p)(hd:∀ x∈d,sq x):jS (tH l n) (dQ d) (dJ l n d)=true:=by
 unfold jS;rw [atN hw,show (mR (dQ d)).2=0 by unfold dQ; rw [atK hd (Nat.min_le_left _ _) oo]];rfl
theorem Us(l)(n)(d):(dJ l n d).length<=16:=by
 have:=Uo (vn l n) d (min d.length 16);unfold dJ;omega
theorem atP(d):vi (dQ d):=by
 refine⟨by unfold dQ; rw [G7]; omega,fun b hb => ?_⟩;unfold dQ jU at hb;obtain⟨i,_,rfl⟩:=iq.1 hb;show (0:Nat)<=_
 omega
def aeP:aH:=lE 65 abb RT abc (fun l n d=>((∀ p∈l (),nH p)/\(l ()).length<=140737488351232)/\(0<=n ()/\n ()<=4294967295)/\(∀ x∈d (),sq x)/\(d ()).length<=140737488351232) (fun l n d => .aU [.agg (CI fun _=>tH (l ()) (n ())),.sl true .box fun _=>dQ (d ()),.sl true .aq fun _=>dJ (l ()) (n ()) (d ())])
theorem atQ:aK Tryz.prog aeP:=by
 refine cd [adt,aeB] ⟨arz,atB,trivial⟩ Tryz.func65 (by kernel_rfl) fun ai res h hp => ?_;obtain⟨(l:List iT),(n:Int),(d:List iU),rfl,rfl⟩:=mO h;clear h;obtain⟨⟨h1,h2⟩,h3,h4,h5⟩:((∀ p∈l,nH p)/\l.length<=140737488351232)/\(0<=n/\n<=4294967295)/\(∀ x∈d,sq x)/\d.length<=140737488351232:=hp;refine⟨[],?_⟩
 conv=>arg 1; cbv
 simp (maxSteps:=4000000) only [aB];have hc:=aeG l;have qE:=G9 h1;refine⟨⟨h1,h3,h2⟩,⟨⟨aeI h1,fun h0 => ?_,?_,fun c hx => ?_⟩,h4,oo,h5⟩,rfl,rfl,rfl,rfl,rfl,rfl,rfl,rfl,rfl,rfl,rfl,rfl,rfl,rfl,rfl⟩
 . have h6:pj l = []:=h0;rw [h6] at hc;simp at hc
 . show (pj l).length<=1000
   omega
 . have:=(qE c hx).2.2.1;omega
def j8.ok(b:j8):Prop:=(0<=b.af/\b.af<=255)/\(0<=b.steps/\b.steps<=255)/\(-32768<=b.x/\b.x<=32767)/\(-32768<=b.y/\b.y<=32767)/\(-32768<=b.z/\b.z<=32767)/\0<=b.xJ/\b.xJ<=65535
def pq(s k:Int):Bool:=decide (sP BinOp.and IntKind.u8 (lV BinOp.shr IntKind.u8 s k) 1=1)
def tI(K s:Int):Nat->List Int
 | 0 => []
 | k+1=>tI K s k++cond (pq s (k:Int)) [(K*(k:Int)).tdiv 4] []
theorem Ut(K s:Int):∀ k,(tI K s k).length<=k
 | 0=>az _
 | k+1=>by
  have:=Ut K s k;unfold tI;cases pq s (k:Int)<;>simp only [eG,fG,ej,c9,fE]<;>omega
def eR(x:j8):Int:=1000*(1+x.af)
def y9(x:j8)(i:Nat):bX:=⟨eR x,x.x,x.y,x.z,100*x.xJ,cond (decide ((i:Int)<4)) (tI (eR x) x.steps 5) []⟩
def xj(x:j8)(fill:List Int)(i:Nat):Int:=cond (decide (0<fill.length)) ((eR x*fill.getD (i % fill.length) Tc.u8.aa).tdiv 255) 0
def ri(l:List j8):Nat->List bX
 | 0 => []
 | k+1=>ri l k ++ [y9 (l.getD k Tc.ij.aa) k]
def tJ(l:List j8)(fill:List Int):Nat->List Int
 | 0 => []
 | k+1=>tJ l fill k ++ [xj (l.getD k Tc.ij.aa) fill k]
theorem xl(l:List j8):∀ k,(ri l k).length=k
 | 0=>rfl
 | k+1=>by unfold ri; rw [ej,xl l k]; rfl
theorem Ha(l:List j8)(fill:List Int):∀ k,(tJ l fill k).length=k
 | 0=>rfl
 | k+1=>by unfold tJ; rw [ej,Ha l fill k]; rfl
end Go.Proofs.YtlpikgchnjajmaaGreat
