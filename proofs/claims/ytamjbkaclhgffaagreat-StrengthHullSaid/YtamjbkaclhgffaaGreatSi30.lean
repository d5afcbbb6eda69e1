/-
  Plain laws: under a whole box both halves are as high; ships that are mirrored and turned round.
-/
import Derived.Test.YtamjbkaclhgffaaGreatSi29
set_option linter.all false
namespace Go.Proofs.YtamjbkaclhgffaaGreat
open Go.RowKit
variable{a m x y z:Int}{w:List Int}{bs:List aJ}{F G:List ar}{B B' D E K c d i j:Nat}{p q:Rat}{f g:aY}{e:az}{s:bC}
theorem ahl{l:List az}(h:dO s bs l=true):l.Nodup:=by
 have ah:∀ i k,i<k->k<l.length->(l.getD i Tc.al.aa).box<(l.getD k Tc.al.aa).box:=by
  exact ahm
 unfold List.Nodup;rw [xw];intro i k hi hk kJ e;have:=ah i k kJ hk;rw [aX,bc hi,aX,bc hk] at this;simp only [ia] at this;rw [e] at this;omega
def D2(bs:List aJ)(l:List az)(c a t:Int):Int:=fy bs (l.filter fun x=>decide (x.aH<t)) c a
def xo(h:Int):Int:=cond (decide (h=2)) 2 1
theorem awH(h):(oh h).headD 0=xo h:=by
 unfold oh xo;by_cases h1:h=1
 . subst h1; rfl
 . by_cases h2:h=2
   . subst h2; rfl
   . simp [h1,h2]
theorem ahn(h):xo h=1\/xo h=2:=by
 unfold xo;cases decide (h=2)<;>simp
theorem awI{l m:List az}(h:l.Perm m)(c a):fy bs l c a=fy bs m c a:=by
 unfold fy
 induction h with
 | nil=>rfl
 | cons x _ ih=>rw [gz,gz,vO,vO,ih]
 | swap x y l=>simp only [gz,vO]; omega
 | trans _ _ VJ Ig=>exact VJ.trans Ig
theorem awJ(l m)(c a):fy bs (l++m) c a=fy bs l c a+fy bs m c a:=by
 unfold fy;rw [jg,WL]
theorem VK{bs:List aJ}{c a:Int}(p):∀ (l),(∀ x∈l,p x=false->lE bs c a x=0)->fy bs (l.filter p) c a=fy bs l c a
 | [],_=>rfl
 | x::l,h=>by
  have ih:=VK (bs:=bs) (c:=c) (a:=a) p l fun y hy=>h y (.tail _ hy);unfold fy at ih ⊢;rw [IN]
  cases hp:p x with
  | true=>simp only [eO,gz,vO,ih]
  | false =>
   rw [gz,vO,h x (.head _) hp,Int.zero_add];simpa using ih
theorem awK{l:List az}(h:dO s bs l=true):∀ i k,i<k->k<l.length->(l.getD i Tc.al.aa).box<(l.getD k Tc.al.aa).box:=by
 exact ahm
theorem awL{l:List az}(h:dO s bs l=true)(hj)(ha:(aQ l)[j].half=0\/a=(aQ l)[j].half):fy bs ((aQ l).take j) (aQ l)[j].au a=D2 bs l (aQ l)[j].au a (aQ l)[j].aH:=by
 have jb:=ua l;have hlen:=jb.length_eq;have iK:(aQ l).Nodup:=jb.nodup_iff.2 (ahl h);obtain⟨X,hX⟩:∃ X,X=(aQ l)[j]:=⟨_,rfl⟩
 have hXl:X∈l:=jb.mem_iff.1 (by rw [hX]; exact iT hj);rw [<- hX] at ha ⊢;have aho:∀ i k,(kJ:i<k)->(hk:k<(aQ l).length)->((aQ l)[i]'oo).aH<=((aQ l)[k]).aH:=fun i k kJ hk=>by
  have:=awD l kJ oo;unfold kO at this;rw [aX,bc (show i<(aQ l).length from oo),aX,bc hk] at this;exact this
 unfold D2;rw [<- awI (jb.filter fun x=>decide (x.aH<X.aH))];have QT:aQ l=(aQ l).take j++(aQ l).drop j:=(jB j _).symm;rw [congrArg (List.filter fun x=>decide (x.aH<X.aH)) QT,BZ,awJ];have h2:((aQ l).drop j).filter (fun x=>decide (x.aH<X.aH)) = []:=by
  rw [NP];intro y hy;obtain⟨i,hi,rfl⟩:=xy hy;rw [iD] at hi;rw [ajm,aL,hX];by_cases he:i=0
  . subst he; simp
  . have:=aho j (j+i) oo oo;omega
 rw [h2,VK]
 . simp [fy]
 . intro y hy hn;obtain⟨i,hi,rfl⟩:=xy hy;rw [cL] at hi;have iu:i<j:=oo
   rw [ajl] at hn ⊢;simp only [fQ] at hn;have h1:=aho i j iu hj;rw [<- hX] at h1;unfold lE;rw [aw]
   rintro⟨hc,hh⟩
   have qP:(aQ l)[i]'oo∈l:=jb.mem_iff.1 (iT _);have:=ahh h qP hXl (by
    unfold kK xc fA;have:((aQ l)[i]'oo).aH=X.aH:=oo
    simp only [hc,this,rB,eu];rcases ha with ha|ha
    . simp [ha]
    . rcases hh with hh|hh
      . simp [hh,ha]
      . simp [hh])
   rw [hX] at this;exact (xw.1 iK) i j oo hj iu this
theorem Nl{l:List az}(h:hZ s bs l=true):dO s bs l=true:=by
 unfold hZ at h;simp only [ax] at h;exact h.2
def ri(s:bC)(bs:List aJ)(l:List az)(e:az):Int×Int×Int :=
 (jT (s.aD.getD e.au.toNat Tc.au.aa) e.half,(s.aD.getD e.au.toNat Tc.au.aa).y,2*((s.aD.getD e.au.toNat Tc.au.aa).z+D2 bs l e.au (xo e.half) e.aH)+iB (bK bs e.box).1)
theorem awN{l:List az}(h:dO s bs l=true)(hj):zl s.aD bs (je bs ((aQ l).take j)) (aQ l)[j]=⟨(bK bs (aQ l)[j].box).1,(ri s bs l (aQ l)[j]).1,(ri s bs l (aQ l)[j]).2.1,(ri s bs l (aQ l)[j]).2.2⟩:=by
 have jb:=ua l;have hM:∀ x∈(aQ l).take j,x∈l:=fun x hx=>jb.mem_iff.1 (sR hx);have hX:=ahk h _ (jb.mem_iff.1 (iT hj));unfold zl ri;rw [awH,awG (fun x hx=>ahk h x (hM x hx)) _ (ahn _),awL h hj];rcases hX.2 with h0|h0|h0
 . exact .inl h0
 . exact .inr (by rw [h0]; rfl)
 . exact .inr (by rw [h0]; rfl)
def awO(l:List az)(i k:Nat):Prop:=¬ (l.getD i Tc.al.aa).box<=(l.getD k Tc.al.aa).box/\kK (fA (l.getD k Tc.al.aa)) (fA (l.getD i Tc.al.aa))=false
def awP(s:bC)(bs:List aJ)(l:List az)(i:Nat):Prop:=((bK bs (l.getD i Tc.al.aa).box).2=true/\sk s.aD (fA (l.getD i Tc.al.aa)) (bK bs (l.getD i Tc.al.aa).box).1.size=true/\xd (fA (l.getD i Tc.al.aa)) (l.map fA)=true)/\∀ k,k<i->awO l i k
theorem ahp(a b):kK a b=kK b a:=by
 unfold kK xc;rw [show decide (a.au=b.au)=decide (b.au=a.au) from by simp [Ce],show decide (a.aH=b.aH)=decide (b.aH=a.aH) from by simp [Ce],show decide (a.half=b.half)=decide (b.half=a.half) from by simp [Ce],Bool.or_comm (decide (a.half=0))]
theorem ahq{l:List az}(h:j<l.length):(l.map fA).getD j Tc.slot.aa=fA (l.getD j Tc.al.aa):=by
 rw [nE _ (by simpa using h),nE _ h,WH]
theorem ahr(hs:im s=true)(bs)(l)(hc:c<s.aD.length):tU s.aD bs l c = !UP s.aD bs l c:=by
 have h:=(((afG s).1 hs).2.1 c hc).1;unfold jR sy at h;simp only [IQ,List.all_nil,ib,ax,ny,aL] at h;have h0:0<=(s.aD.getD c Tc.au.aa).ma:=h.2.2.2.2.1.1;unfold tU UP;rw [fE];generalize (s.aD.getD c Tc.au.aa).ma=H at h0;generalize fy bs l (c:Int) 1=A;generalize fy bs l (c:Int) 2=B;by_cases e:H=0
 . rw [dP (show H<=0 from oo),dP e]; rfl
 . rw [jW (show ¬ H<=0 from oo),jW e,sV,WN,eu,Bool.not_or];by_cases a:A<=H<;>by_cases b:B<=H<;>simp [a,b]<;>omega
theorem awQ(s)(bs)(l):dO s bs l=true↔im s=true/\(∀ i,i<l.length->awP s bs l i)/\∀ c,c<s.aD.length->UP s.aD bs l c=false:=by
 constructor
 . intro h;have ah:=awK h;unfold dO at h;simp only [ax,aL] at h;obtain⟨h1,h2,h3⟩:=h;refine⟨h1,fun i hi => ?_,fun c hc => ?_⟩
   . have h4:=h2 i hi;unfold mI at h4;simp only [ax,aL] at h4;refine⟨⟨h4.1.1,h4.2.1.1,h4.2.1.2⟩,fun k hk=>⟨?_,?_⟩⟩
     . have:=ah k i hk hi;omega
     . have:=h4.2.2 k hk;rw [ahq oo] at this;rw [ahp];exact this
   . have h4:=h3 c hc;rw [ahr h1 bs l hc] at h4;simpa using h4
 . rintro⟨h1,h2,h3⟩
   unfold dO;simp only [ax,aL];refine⟨h1,fun i hi => ?_,fun c hc=>by rw [ahr h1 bs l hc,h3 c hc]; rfl⟩;obtain⟨⟨h4,h5,h6⟩,h7⟩:=h2 i hi;unfold mI;simp only [ax,aL,gR];refine⟨⟨h4,?_⟩,⟨h5,h6⟩,fun j hj => ?_⟩
   . rcases BX i with h0|h0
     . exact .inl h0
     . have:=(h7 (i - 1) oo).1;exact .inr oo
   . rw [ahq oo,ahp];exact (h7 j hj).2
/- BG -/
theorem ahs{l m:List Ld}(h:l.Perm m):cA l=cA m:=by
 induction h with
 | nil=>rfl
 | cons x _ ih=>rw [pf,pf,ih]
 | swap x y l=>rw [pf,pf,pf,pf,<- Ic,<- Ic,ag7 y x]
 | trans _ _ VJ Ig=>exact VJ.trans Ig
def Ih(s:bC)(bs:List aJ)(l:List az)(e:az):pz:=⟨(bK bs e.box).1,(ri s bs l e).1,(ri s bs l e).2.1,(ri s bs l e).2.2⟩
theorem VL{l:List az}(h:dO s bs l=true):sD s.aD bs (aQ l)=(aQ l).map (Ih s bs l):=by
 apply vL;intro j;unfold sD vz;rw [ga,ga];by_cases hj:j<(aQ l).length
 . rw [IG hj,bc hj,du,du,aX,bc hj,ia,awN h hj];rfl
 . rw [sQ (by rw [IK]; omega),sQ oo];rfl
def ud(s:bC)(bs:List aJ)(l:List az)(e:az):Ld:=xn (Ih s bs l e)
theorem awR{l:List az}(h:Small s bs l):qh s bs l=(cA (l.map (ud s bs l)),0):=by
 rw [h.sum,VL h.VI,xE];exact congrArg (·,0) (ahs ((ua l).map _))
theorem awS{a b:Ld}(ha:fB a=true)(hb:fB b=true)(h:a.aq+b.aq<=500000000):o7 [a,b]=(a.add b,0):=by
 have n1:=(Mr ha).1;have n2:=(Mr hb).1;unfold o7;rw [aw (by simp [Bh,ha,hb])];unfold sj;rw [aC (vq.2 (by show 0<=(0:Int)+a.aq/\(0:Int)+a.aq<=_; omega))];unfold sj;rw [aC (vq.2 (by show 0<=(0:Int)+a.aq+b.aq/\(0:Int)+a.aq+b.aq<=_; omega)),zp];rfl
theorem awT{m:pz}(h:(0<=m.box.aq/\m.box.aq<=40000)/\(-1100000<=m.x/\m.x<=1100000)/\(-1100000<=m.y/\m.y<=1100000) /\ -1100000<=m.h/\m.h<=1100000):sG m=xn m/\fB (xn m)=true:=by
 constructor
 . exact ahb
 . have arm:∀ x:Int,-1100000<=x->x<=1100000 -> -(m.box.aq*1100000)<=m.box.aq*x/\m.box.aq*x<=m.box.aq*1100000:=fun x h3 h4=>by
    exact ahc
   exact ahd
theorem awU(h:(jP bs).2=0):∀ b∈bs,nv b=true:=by
 intro b hb;obtain⟨k,hk,rfl⟩:=xy hb;unfold jP at h;split at h
 . cases h
 split at h
 . cases h
 rename_i h1;rw [ID] at h1;have h2:=h1 k (gA.2 hk);unfold lX at h2;rw [bc hk] at h2;simp only [gR,xG,vM,ke] at h2;exact h2.2
theorem awV{b:aJ}(h:nv b=true):1<=b.aq/\b.aq<=40000:=by
 unfold nv at h;simp only [ax] at h;have h3:vl b.aq 1 (Bf b.size)=true:=h.1.1.2;unfold vl Bf at h3;simp only [ax,aL] at h3;split at h3<;>omega
theorem aht{l:List az}(h:hZ s bs l=true)(id):0<=(bK bs id).1.aq/\(bK bs id).1.aq<=40000:=by
 unfold hZ at h;simp only [ax,aL] at h;exact ag9 (fun b hb=>by have:=awV (awU h.1 b hb); omega) oo id
theorem Nm{l:List az}(h:dO s bs l=true)(he:e∈l):(0<=e.aH/\e.aH<=9)/\(-500000<=(s.aD.getD e.au.toNat Tc.au.aa).x/\(s.aD.getD e.au.toNat Tc.au.aa).x<=500000)/\(-500000<=(s.aD.getD e.au.toNat Tc.au.aa).y/\(s.aD.getD e.au.toNat Tc.au.aa).y<=500000) /\ -500000<=(s.aD.getD e.au.toNat Tc.au.aa).z/\(s.aD.getD e.au.toNat Tc.au.aa).z<=500000:=by
 obtain⟨i,hi,rfl⟩:=xy he;have hr:=Nk h hi;rw [show l[i]=l.getD i Tc.al.aa from by rw [aX,bc hi]; rfl];unfold mI at hr;simp only [ax,aL] at hr;have qO:=hr.2.1.1;unfold sk at qO;simp only [ax,aL] at qO;have eM:0<=(l.getD i Tc.al.aa).au/\(l.getD i Tc.al.aa).au<(s.aD.length:Int)/\0<=(l.getD i Tc.al.aa).aH/\(l.getD i Tc.al.aa).aH<(s.aD.getD (l.getD i Tc.al.aa).au.toNat Tc.au.aa).cY/\_:=qO;have h1:=eM.1;have h2:=eM.2.1;have h3:=eM.2.2.1;have h4:=eM.2.2.2.1;have _:=eM.2.2.2.2;have tr:=(((afG s).1 ((awQ s bs l).1 h).1).2.1 (l.getD i Tc.al.aa).au.toNat oo).1;unfold jR sy at tr;simp only [IQ,List.all_nil,ib,ax,ny,aL] at tr;obtain⟨_,_,_,ht,_,_,_,_,hx,hy,hz⟩:=tr;omega
theorem awW{l:List az}(h:dO s bs l=true)(he:e∈l):0<=D2 bs l e.au (xo e.half) e.aH/\D2 bs l e.au (xo e.half) e.aH<=2896*e.aH:=by
 have h0:=(Nm h he).1.1;refine bW (xo e.half) fun a ha => ?_;have ha0:a≠0:=by have:=ahn e.half; omega
 rw [ha];unfold D2;refine bW (l.filter fun x=>decide (x.aH<e.aH)) fun L hL => ?_;rw [hL];have hp:=VK (bs:=bs) (c:=e.au) (a:=a) (fun x=>decide (x.au=e.au)&&(decide (x.half=a)||decide (x.half=0))) L fun x _ hx=>by
  unfold lE;rw [aw]
  rintro⟨q1,q2⟩
  simp only [Bool.and_eq_false_iff,kf,fQ] at hx;rcases hx with hx|hx
  . exact hx q1
  . exact q2.elim hx.1 hx.2
 rw [<- hp];refine bW (L.filter fun x=>decide (x.au=e.au)&&(decide (x.half=a)||decide (x.half=0))) fun M hM => ?_;rw [hM];have hb:0<=fy bs M e.au a/\fy bs M e.au a<=2896*(M.length:Int):=adR _ (adQ bs e.au a) _;have hlen:M.length<=e.aH.toNat:=by
  have e1:M.length=(M.map (·.aH)).length:=by rw [fk]
  have nY:∀ x∈M,x∈l/\x.aH<e.aH/\x.au=e.au/\(x.half=a\/x.half=0):=fun x hx=>by
   rw [<- hM,Eo,<- hL,Eo] at hx;simp only [ax,gR,aL] at hx;exact⟨hx.1.1,hx.1.2,hx.2.1,hx.2.2⟩
  have awX:M.Sublist l:=by rw [<- hM,<- hL]; exact List.filter_sublist.trans List.filter_sublist
  rw [e1];have:((List.range e.aH.toNat).map fun k:Nat=>(k:Int)).length=e.aH.toNat:=by rw [fk,IK]
  rw [<- this];refine List.Nodup.length_le_of_subset ?_ fun t ht => ?_
  . unfold List.Nodup;rw [ajk];refine List.Pairwise.imp_of_mem ?_ ((ahl h).sublist awX);intro x y hx hy aT ht;have q1:=nY x hx;have q2:=nY y hy;refine aT (ahh h q1.1 q2.1 ?_);unfold kK xc fA;rcases q1.2.2.2 with g1|g1<;>rcases q2.2.2.2 with g2|g2<;>simp [q1.2.2.1,q2.2.2.1,g1,g2,ht]
  . obtain⟨x,hx,rfl⟩:=gi.1 ht;have q1:=nY x hx;have q2:=(Nm h q1.1).1.1;exact gi.2 ⟨x.aH.toNat,gA.2 oo,oo⟩
 omega
theorem awY{l:List az}(h:dO s bs l=true)(he:e∈l):(-1100000<=(ri s bs l e).1/\(ri s bs l e).1<=1100000)/\(-1100000<=(ri s bs l e).2.1/\(ri s bs l e).2.1<=1100000) /\ -1100000<=(ri s bs l e).2.2/\(ri s bs l e).2.2<=1100000:=by
 have h1:=Nm h he;have h2:=awW h he;have h3:=tR (bK bs e.box).1;refine⟨?_,?_,?_⟩
 . show -1100000<=jT _ _/\jT _ _<=1100000
   unfold jT;cases decide (e.half=1)<;>cases decide (e.half=2)<;>simp only [eG,gj]<;>omega
 . show -1100000<=(s.aD.getD _ Tc.au.aa).y/\(s.aD.getD _ Tc.au.aa).y<=1100000
   omega
 . show -1100000<=2*(_+_)+iB _/\2*(_+_)+iB _<=1100000
   omega
theorem VM{l:List az}(h:hZ s bs l=true)(he:e∈l):sG (Ih s bs l e)=ud s bs l e/\fB (ud s bs l e)=true :=
 awT ⟨aht h e.box,awY (Nl h) he⟩
theorem VN{s:bC}{bs:List aJ}{l:List az}(h:hZ s bs l=true):∀ m:List az,0<=(cA (m.map (ud s bs l))).aq/\(cA (m.map (ud s bs l))).aq<=40000*m.length
 | []=>by simp [cA,fi]
 | e::m=>by
  have h1:=VN h m;have h2:=aht h e.box;rw [gz,pf];show 0<=(bK bs e.box).1.aq+_/\(bK bs e.box).1.aq+_<=_
  simp only [cB];omega
theorem awZ{l:List az}(h:hZ s bs l=true)(hl:l.length<=1000):qh s bs l=(cA (l.map (ud s bs l)),0):=by
 have hst:=Nl h;have hp:=ua l;unfold qh;rw [h,eG,VL hst,xE];have e:(aQ l).map (sG∘Ih s bs l)=(aQ l).map (ud s bs l):=Ei fun x hx=>(VM h (hp.mem_iff.1 hx)).1;rw [e,<- ahs (hp.map (ud s bs l))];refine VH (fun x hx => ?_) ?_
 . obtain⟨m,hm,rfl⟩:=gi.1 hx;exact (VM h (hp.mem_iff.1 hm)).2
 . have:=VN h (aQ l);rw [hp.length_eq] at this;omega
def D3(s:bC)(bs:List aJ)(x:az):Wt:=⟨jT (s.aD.getD x.au.toNat Tc.au.aa) x.half,(bK bs x.box).1.aq⟩
def l4(t:List dR)(w:List Int):Nat->List Wt
 | 0 => []
 | i+1=>if w.getD i 0=0 then l4 t w i else l4 t w i ++ [⟨(t.getD i Tc.di.aa).x,w.getD i 0⟩]
theorem Nn(t)(w):∀ j,(l4 t w j).length<=j
 | 0=>aA _
 | j+1=>by
  have:=Nn t w j;unfold l4;split
  . omega
  . rw [dp,cB,ej]; omega
def BH(s:bC)(bs:List aJ)(l:List az)(w:List Int):Bool:=hZ s bs l&&(mH s.eU w&&(gP s.iL&&decide (cO s.iL=s.lk)))
def ou(s:bC)(bs:List aJ)(l:List az)(w:List Int):List Wt×Int:=if BH s bs l w then (l.map (D3 s bs)++l4 s.eU w w.length,0) else ([],2)
theorem ahu{l:List az}(h:BH s bs l w=true->False):ou s bs l w=([],2):=aw h
theorem No(s)(bs)(l)(w):BH s bs l w=true↔hZ s bs l=true/\mH s.eU w=true/\gP s.iL=true/\cO s.iL=s.lk:=by
 unfold BH;simp only [ax,aL]
theorem aw0{l:List az}(hl:l.length<=1000):(ou s bs l w).1.length<=1030:=by
 unfold ou;split
 . rename_i h;have h2:=(vu _ _).1 ((No s bs l w).1 h).2.1;have h3:=((Bn _).1 h2.1).1;have h4:=Nn s.eU w w.length;rw [dp,fk];omega
 . simp
def zq(s:bC)(bs:List aJ)(l:List az)(w:List Int):List kd×Int:=if (ou s bs l w).2=0 then UH s.iL (ou s bs l w).1 else ([],(ou s bs l w).2)
theorem aw1(hd:d≠0):(((z:Rat) / (d:Rat)).num.natAbs<=z.natAbs)/\((z:Rat) / (d:Rat)).den<=d:=by
 have h:(z:Rat) / (d:Rat)=Rat.normalize z d hd:=by rw [ajb,ajo]
 rw [h,Rat.normalize_eq hd];constructor
 . show (z / ((z.natAbs.gcd d:Nat):Int)).natAbs<=z.natAbs
   exact Int.natAbs_ediv_le_natAbs _ _
 . exact WI _ _
theorem Np(h:qv (p+q)):(kj (ofRat p) (ofRat q)).1=ofRat (p+q):=by
 unfold kj;rw [xJ,xJ,N6,aC rfl,Xe,EF h]
theorem Nq(h:qv (p - q)):(jh (ofRat p) (ofRat q)).1=ofRat (p - q):=by
 unfold jh;rw [xJ,xJ,N6,aC rfl,aj4,Xe,<- Rat.sub_eq_add_neg,EF h]
theorem mulR(h:qv (p*q)):(mulL (ofRat p) (ofRat q)).1=ofRat (p*q):=by
 rw [aj5,EF h]
theorem Ii(hq:q≠0)(h:qv (p / q)):(jZ (ofRat p) (ofRat q)).1=ofRat (p / q):=by
 rw [aj6 p q hq,EF h]
theorem ahv{b:Int}(hb:b≠0)(h:qv ((a:Rat) / (b:Rat))):(mU a b).1=ofRat ((a:Rat) / (b:Rat)):=by
 rw [aj7 a b hb,EF h]
def Bd(D B:Nat)(q:Rat):Prop:=∃ z:Int,q*(D:Rat)=(z:Rat)/\z.natAbs<=B
theorem Bd.fits(h:Bd D B q)(hD:D≠0)(hD2:D<c7)(hB:B<c7):qv q:=by
 obtain⟨z,hz,hb⟩:=h;have hDr:(D:Rat)≠0:=by
  intro e;apply hD
  exact_mod_cast e
 have e:q=(z:Rat) / (D:Rat):=by
  rw [<- hz];grind
 rw [e];obtain⟨h1,h2⟩:=aw1 (z:=z) hD;exact⟨oo,oo⟩
theorem Bd.mono(h:Bd D B q)(hB:B<=B'):Bd D B' q:=by
 obtain⟨z,hz,hb⟩:=h;exact⟨z,hz,dQ hb hB⟩
theorem Bd.add(h:Bd D B p)(h':Bd D B' q):Bd D (B+B') (p+q):=by
 obtain⟨z,hz,hb⟩:=h;obtain⟨y,hy,aW⟩:=h';refine⟨z+y,?_,?_⟩
 . rw [ajt,<- hz,<- hy];grind
 . have:=ajn z y;omega
theorem Bd.sub(h:Bd D B p)(h':Bd D B' q):Bd D (B+B') (p - q):=by
 obtain⟨z,hz,hb⟩:=h;obtain⟨y,hy,aW⟩:=h';refine⟨z - y,?_,?_⟩
 . rw [Rat.intCast_sub,<- hz,<- hy];grind
 . have:=Int.natAbs_sub_le z y;omega
theorem Bd.mul{M:Nat}(h:Bd D B p)(m:Int)(hm:m.natAbs<=M):Bd D (B*M) (p*(m:Rat)):=by
 obtain⟨z,hz,hb⟩:=h;refine⟨z*m,?_,?_⟩
 . rw [l7,<- hz];grind
 . rw [xC];exact xB hb hm
theorem Bd.int{M:Nat}(m:Int)(hm:m.natAbs<=M):Bd D (M*D) (m:Rat):=by
 refine⟨m*(D:Int),?_,?_⟩
 . rw [l7,NM]
 . rw [xC,Int.natAbs_natCast];exact oy _ hm
theorem Bd.half(h:Bd D B p):Bd (2*D) B (p / 2):=by
 obtain⟨z,hz,hb⟩:=h;refine⟨z,?_,hb⟩;rw [<- hz];push_cast;grind
def kR(S:List ak):Rat:=(((aB S).a1:Rat) - (((aB S).a0*(aB S).a3:Int):Rat) / ((10000:Int):Rat)) / ((aB S).a5:Rat)
def jz(S:List ak)(sh fa:Int):Rat:=(((aB S).a0*sh:Int):Rat) / ((10000:Int):Rat)+kR S*(fa:Rat)
def ue(S:List ak)(j:Nat):Rat:=((aB (S.take j)).a0:Rat) - jz S (aB (S.take j)).a2 (aB (S.take j)).a4
def Ij(F:List ar)(S:List ak)(j:Nat):Rat:=ue S j*((2*bV F j:Int):Rat)+jz S (aB (S.take j)).a3 (aB (S.take j)).a5 - ((aB (S.take j)).a1:Rat)
def Ik(F:List ar)(S:List ak)(j:Nat):Rat:=Ij F S j / ((2:Int):Rat)
structure l5 (S:List ak) (D:Nat):Prop where
 w:0<=(aB S).a0/\(aB S).a0<=500000000
 a5:0<(aB S).a5
 D_:(D:Int)=10000*(aB S).a5
 BG:∀ j,(-2000000000000<=(aB (S.take j)).a0/\(aB (S.take j)).a0<=2000000000000)/\(-2000000000000000000<=(aB (S.take j)).a1/\(aB (S.take j)).a1<=2000000000000000000)/\(-10000<=(aB (S.take j)).a2/\(aB (S.take j)).a2<=10000)/\(-10000000000<=(aB (S.take j)).a3/\(aB (S.take j)).a3<=10000000000)/\(-1740000000<=(aB (S.take j)).a4/\(aB (S.take j)).a4<=1740000000)/\(-1740000000000000<=(aB (S.take j)).a5/\(aB (S.take j)).a5<=1740000000000000)
section
variable{S:List ak}{D:Nat}(h:l5 S D)
include h
theorem l5.all:(-2000000000000000000<=(aB S).a1/\(aB S).a1<=2000000000000000000)/\(-10000000000<=(aB S).a3/\(aB S).a3<=10000000000)/\(aB S).a5<=1740000000000000:=by
 have:=h.BG S.length;rw [uk] at this;omega
theorem l5.qi:D≠0/\D<=17400000000000000000:=by
 have h1:=h.D_;have h2:=h.a5;have h3:=h.all;omega
theorem l5.fits(hq:Bd D B q)(hB:B<c7):qv q:=by
 have h1:=h.qi;exact hq.fits h1.1 (pr h1.2 (by decide)) hB
theorem l5.ratio(sh:Int)(hs:sh.natAbs<=10000000000):Bd D 8700000000000000000000000000000000 ((((aB S).a0*sh:Int):Rat) / ((10000:Int):Rat)):=by
 refine⟨(aB S).a0*sh*(aB S).a5,?_,?_⟩
 . have e:(D:Rat)=10000*((aB S).a5:Rat):=by
    have h1:=h.D_;exact ahw
   rw [e,l7];have e2:((10000:Int):Rat)=10000:=rfl;rw [e2];grind
 . have h1:=h.w;have h2:=h.all;have h3:=h.a5;rw [xC,xC];have a1:(aB S).a0.natAbs<=500000000:=oo
   have a2:(aB S).a5.natAbs<=1740000000000000:=oo
   exact dQ (xB (xB a1 hs) a2) (by decide)
theorem l5.Nr:((aB S).a5:Rat)≠0:=by
 have:=h.a5;intro e;have e2:(aB S).a5=0:=by exact_mod_cast e
 omega
theorem l5.k:Bd D 30000000000000000000000 (kR S):=by
 refine⟨10000*(aB S).a1 - (aB S).a0*(aB S).a3,?_,?_⟩
 . have e:(D:Rat)=10000*((aB S).a5:Rat):=by
    have h1:=h.D_;exact ahw
   have e2:((10000:Int):Rat)=10000:=rfl;have aT:=h.Nr;unfold kR;rw [e,Rat.intCast_sub,l7,l7,e2];grind
 . have h1:=h.w;have h2:=h.all;have a0:=Int.natAbs_sub_le (10000*(aB S).a1) ((aB S).a0*(aB S).a3);rw [xC (aB S).a0] at a0;have yq:(10000*(aB S).a1).natAbs<=20000000000000000000000:=oo
   have a1:(aB S).a0.natAbs<=500000000:=oo
   have a2:(aB S).a3.natAbs<=10000000000:=oo
   have a3:=xB a1 a2;omega
theorem l5.lift(sh fa:Int)(hs:sh.natAbs<=10000000000)(hf:fa.natAbs<=1740000000000000):Bd D 60000000000000000000000000000000000000 (jz S sh fa):=by
 unfold jz;exact ((h.ratio sh hs).add (h.k.mul fa hf)).mono (by decide)
theorem l5.oc{kq:aY}(hk:kq=ofRat (kR S))(sh fa:Int)(hs:sh.natAbs<=10000000000)(hf:fa.natAbs<=1740000000000000):oc (aB S).a0 kq sh fa=ofRat (jz S sh fa):=by
 unfold Go.Proofs.YtamjbkaclhgffaaGreat.oc;subst hk;have h1:=h.ratio sh hs;have h2:=h.k.mul fa hf;rw [ahv (by decide) (h.fits h1 (by decide)),rI,mulR (h.fits h2 (by decide)),Np (h.fits (h1.add h2) (by decide))];rfl
theorem l5.kF:kF S=ofRat (kR S):=by
 unfold Go.Proofs.YtamjbkaclhgffaaGreat.kF Go.Proofs.YtamjbkaclhgffaaGreat.oc;have pR:=h.all;have h1:=h.ratio (aB S).a3 oo;have h0:(mulL (cS 0) (cS 0)).1=ofRat 0:=by decide
 have h2:Bd D 0 (0:Rat):=⟨0,by grind,by decide⟩
 have h3:=h1.add h2;have h4:=(Bd.int (D:=D) (M:=2000000000000000000) (aB S).a1 oo).sub h3;have hD:=h.qi;have GS:2000000000000000000*D+(8700000000000000000000000000000000+0)<c7:=pr (Nat.add_le_add_right (kU _ hD.2) _) (by decide);rw [ahv (by decide) (h.fits h1 (by decide)),h0,Np (h.fits h3 (by decide)),rI,Nq (h.fits h4 GS),rI,Ii h.Nr]
 . congr 1;unfold kR;grind
 . have h5:=h.fits h.k (by decide);have e:(((aB S).a1:Rat) - ((((aB S).a0*(aB S).a3:Int):Rat) / ((10000:Int):Rat)+0)) / ((aB S).a5:Rat)=kR S:=by
    unfold kR;grind
   rw [e];exact h5
theorem l5.down(j:Nat):Bd D 70000000000000000000000000000000000000 (ue S j):=by
 have hs:=h.BG j;have hD:=h.qi;unfold ue;refine ((Bd.int (D:=D) (M:=2000000000000) (aB (S.take j)).a0 oo).sub (h.lift _ _ oo oo)).mono ?_;exact dQ (Nat.add_le_add_right (kU _ hD.2) _) (by decide)
theorem l5.tW{l:Nat}:tW S (aB S).a0 (Go.Proofs.YtamjbkaclhgffaaGreat.kF S) l=ofRat (ue S l):=by
 unfold Go.Proofs.YtamjbkaclhgffaaGreat.tW;have hs:=h.BG l;rw [h.oc h.kF _ _ oo oo,rI,Nq (h.fits (h.down l) (by decide))];rfl
theorem l5.arm(j:Nat)(hx:(bV F j).natAbs<=500000):Bd D 70000000000000000000000000000000000000000000 (ue S j*((2*bV F j:Int):Rat)) :=
 ((h.down j).mul (2*bV F j) (M:=1000000) oo).mono (by decide)
theorem l5.ahx(j:Nat)(hx:(bV F j).natAbs<=500000):Bd D 90000000000000000000000000000000000000000000 (Ij F S j):=by
 have hs:=h.BG j;have hD:=h.qi;unfold Ij;refine (((h.arm j hx).add (h.lift _ _ oo oo)).sub (Bd.int (D:=D) (M:=2000000000000000000) (aB (S.take j)).a1 oo)).mono ?_;exact dQ (aje (kU _ hD.2) _) (by decide)
theorem l5.cy(j:Nat)(hx:(bV F j).natAbs<=500000):Bd (2*D) 90000000000000000000000000000000000000000000 (Ik F S j):=(h.ahx j hx).half
theorem l5.aw2(hq:Bd (2*D) B q)(hB:B<c7):qv q:=by
 have h1:=h.qi;exact hq.fits oo (pr (kU 2 h1.2) (by decide)) hB
theorem l5.str(j:Nat)(hx:(bV F j).natAbs<=500000):MF F S (aB S).a0 (Go.Proofs.YtamjbkaclhgffaaGreat.kF S) j=⟨ofRat (ue S j),ofRat (Ik F S j)⟩:=by
 have hs:=h.BG j;have h1:=h.arm j hx;have h2:=h1.add (h.lift (aB (S.take j)).a3 (aB (S.take j)).a5 oo oo);unfold MF DP DO;rw [h.tW,rI,mulR (h.fits h1 (by decide)),h.oc h.kF _ _ oo oo,Np (h.fits h2 (by decide)),rI,Nq (h.fits (h.ahx (F:=F) j hx) (by decide)),rI];show kd.mk (ofRat (ue S j)) (jZ (ofRat (Ij F S j)) (ofRat ((2:Int):Rat))).1=_
 rw [Ii (by decide) (h.aw2 (h.cy j hx) (by decide))];rfl
end
def cV(E B:Nat)(f:aY)(q:Rat):Prop:=f=ofRat q/\Bd E B q
structure BI (E:Nat):Prop where
 ne:E≠0
 lt:E<c7
theorem cV.mono(h:cV E B f q)(hB:B<=B'):cV E B' f q:=⟨h.1,h.2.mono hB⟩
theorem cV.add(hE:BI E)(h:cV E B f p)(h':cV E B' g q)(hB:B+B'<c7):cV E (B+B') (kj f g).1 (p+q):=by
 have h1:=h.2.add h'.2;refine⟨?_,h1⟩;rw [h.1,h'.1,Np (h1.fits hE.ne hE.lt hB)]
theorem cV.sub(hE:BI E)(h:cV E B f p)(h':cV E B' g q)(hB:B+B'<c7):cV E (B+B') (jh f g).1 (p - q):=by
 have h1:=h.2.sub h'.2;refine⟨?_,h1⟩;rw [h.1,h'.1,Nq (h1.fits hE.ne hE.lt hB)]
theorem cV.int(m:Int)(hm:m.natAbs<=K):cV E (K*E) (cS m) (m:Rat):=⟨rI m,Bd.int m hm⟩
theorem cV.Ns(hE:BI E)(h:cV E B f p)(m:Int)(hm:m.natAbs<=K)(hB:B*K<c7):cV E (B*K) (mulL f (cS m)).1 (p*(m:Rat)):=by
 have h1:=h.2.mul m hm;refine⟨?_,h1⟩;rw [h.1,rI,mulR (h1.fits hE.ne hE.lt hB)]
theorem Bd.aw3(h:Bd D B p)(m:Int)(hm:m.natAbs<=K):Bd (2*D) (B*K) (p*((m:Rat) / ((2:Int):Rat))):=by
 obtain⟨z,hz,hb⟩:=h;refine⟨z*m,?_,?_⟩
 . rw [l7,<- hz];push_cast;grind
 . rw [xC];exact xB hb hm
theorem cV.half(hE:BI (2*D))(m:Int)(hm:m.natAbs<=K)(hK:K*D<c7):cV (2*D) (K*D) (jZ (cS m) (cS 2)).1 ((m:Rat) / ((2:Int):Rat)):=by
 have h1:Bd (2*D) (K*D) ((m:Rat) / ((2:Int):Rat)):=by
  refine⟨m*(D:Int),?_,?_⟩
  . rw [l7,NM];push_cast;grind
  . rw [xC,Int.natAbs_natCast];exact oy _ hm
 refine⟨?_,h1⟩;rw [rI,rI,Ii (by decide) (h1.fits hE.ne hE.lt hK)]
theorem cV.Nt(hE:BI (2*D))(h:cV D B f p)(hg:g=ofRat ((m:Rat) / ((2:Int):Rat)))(hm:m.natAbs<=K)(hB:B*K<c7):cV (2*D) (B*K) (mulL f g).1 (p*((m:Rat) / ((2:Int):Rat))):=by
 have h1:=h.2.aw3 m hm;refine⟨?_,h1⟩;rw [h.1,hg,mulR (h1.fits hE.ne hE.lt hB)]
theorem cV.eq(h:cV E B f p)(e:p=q):cV E B f q:=e▸h
def fL(f:ak->Int)(S:List ak):Int:=(S.map f).foldr (· + ·) 0
theorem xp(f:ak->Int)(a:ak)(S:List ak):fL f (a::S)=f a+fL f S:=rfl
theorem ahy{f:ak->Int}(hf:Part f):∀ (S:List ak) (a:ak),f (S.foldl ak.add a)=f a+fL f S
 | [],a=>by simp [fL]
 | b::S,a=>by
  rw [Ep,ahy hf S (a.add b),hf.add,xp];omega
theorem ahz{f:ak->Int}(hf:Part f)(S:List ak):f (aB S)=fL f S:=by
 unfold aB;rw [ahy hf,hf.zero];omega
theorem ahA{f:ak->Int}(hf:Part f)(c:ak):∀ (S:List ak) (i:Nat),i<S.length->fL f (S.set i ((S.getD i ak.zero).add c))=fL f S+f c
 | [],i,h=>by cases h
 | a::S,0,_=>by
  simp only [BY,List.getD_cons_zero,xp,hf.add];omega
 | a::S,i+1,h=>by
  simp only [Ej,ajf,xp];rw [ahA hf c S i (by simpa using h)];omega
def eN(f:ak->Int)(ws:List Wt):Int:=(ws.map fun u=>f (gZ u)).foldr (· + ·) 0
theorem VO{l:List ar}{n:Nat}:∀ (ws:List Wt) (S:List ak),S.length=n->(∀ u∈ws,cJ l u.x≠0/\cJ l u.x<=n)->∃ S',nB l n S ws=some S'/\S'.length=n/\∀ f,Part f->fL f S'=fL f S+eN f ws
 | [],S,hS,_=>⟨S,rfl,hS,fun f hf=>by simp [eN]⟩
 | u::ws,S,hS,h=>by
  have hu:=h u (by simp);obtain⟨S',h1,h2,h3⟩:=VO (l:=l) (n:=n) ws (S.set (cJ l u.x - 1) ((S.getD (cJ l u.x - 1) ak.zero).add (gZ u))) (by rw [nH]; exact hS) (fun v hv=>h v (by simp [hv]));refine⟨S',?_,h2,fun f hf => ?_⟩
  . unfold nB za;rw [aw oo];exact h1
  . rw [h3 f hf,ahA hf _ _ _ oo];show _=_+(f (gZ u)+eN f ws)
    omega
theorem Nu(l:List ar):(qc l).length=l.length - 1:=by simp [qc]
theorem VP(f:ak->Int)(u:Wt):∀ ws:List Wt,eN f (ws ++ [u])=eN f ws+f (gZ u)
 | []=>by simp [eN]
 | v::ws=>by
  show f (gZ v)+eN f (ws ++ [u])=f (gZ v)+eN f ws+_
  rw [VP f u ws];omega
theorem aw4(h0:∃ f∈F,f.x<=y)(h1:∃ f∈F,y<f.x):cJ F y≠0/\cJ F y<=F.length - 1:=by
 unfold cJ;constructor
 . obtain⟨f,hf,hx⟩:=h0;intro h;have h2:=vJ h;rw [NP] at h2;exact h2 f hf (by simpa using hx)
 . obtain⟨f,hf,hx⟩:=h1;have h2:(F.filter fun g=>decide (g.x<=y)).length<F.length:=by
    rw [List.length_filter_lt_length_iff_exists];exact⟨f,hf,by simpa using hx⟩
   omega
theorem aw5{ws:List Wt}(h:∀ u∈ws,0<=u.aq/\u.aq<=500000000):ws.any lJ=false:=by
 rw [zz];intro u hu;unfold lJ;simp [h u hu]
theorem Nv(f:ar)(l:List ar):fC (f::l)=f.share+fC l:=rfl
theorem Il(f:ar):∀ l:List ar,fC (l ++ [f])=fC l+f.share
 | []=>by simp [fC]
 | g::l=>by rw [kW,Nv,Nv,Il f l]; omega
theorem VQ(g:ar)(hg:g.ok=true):∀ (L:List ar) (p:Option Int),jc p L=true->(∀ f∈L,f.x<g.x)->(∀ x,p=some x->x<g.x)->jc p (L ++ [g])=true
 | [],p,_,_,hp=>by
  unfold jc jc
  cases p with
  | none=>simp [hg]
  | some x=>simp [hg,hp x rfl]
 | f::L,p,h,hf,hp=>by
  unfold jc at h;simp only [ax] at h;rw [kW];unfold jc;rw [VQ g hg L _ h.2 (fun f oH=>hf f (by simp [oH])) (fun x hx=>by injection hx with hx; rw [<- hx]; exact hf f (by simp)),h.1.1,h.1.2];rfl
theorem aw6(f:ar)(l:List ar):o8 (l ++ [f])=f:=by simp [o8]
theorem ak.add_comm(a b:ak):a.add b=b.add a:=by
 unfold ak.add;rw [ak.mk.injEq];omega
theorem ak.add_assoc(a b c:ak):(a.add b).add c=a.add (b.add c):=by
 unfold ak.add;rw [ak.mk.injEq];simp only;omega
theorem ak.add_zero(a:ak):a.add ak.zero=a:=by
 cases a;unfold ak.add ak.zero;rw [ak.mk.injEq];simp only;omega
theorem ak.zero_add(a:ak):ak.zero.add a=a:=by rw [ak.add_comm,ak.add_zero]
def rj(F:List ar)(i:Nat):List Wt->ak
 | []=>ak.zero
 | u::ws=>(if cJ F u.x=i+1 then gZ u else ak.zero).add (rj F i ws)
theorem VR(F:List ar)(i:Nat):∀ a b:List Wt,rj F i (a++b)=(rj F i a).add (rj F i b)
 | [],b=>by rw [pt]; exact (ak.zero_add _).symm
 | u::a,b=>by
  rw [kW];show (ak.add _ (rj F i (a++b)))=_
  rw [VR F i a b,<- ak.add_assoc];rfl
theorem aw7(F:List ar)(i:Nat):∀ a:List Wt,rj F i a.reverse=rj F i a
 | []=>rfl
 | u::a=>by
  rw [List.reverse_cons,VR,aw7 F i a,ak.add_comm];show ak.add (ak.add _ ak.zero) _=_
  rw [ak.add_zero];rfl
theorem ahB{f:ak->Int}(hf:Part f)(h0:∀ u,f (gZ u)=0)(F:List ar)(i:Nat):∀ a:List Wt,f (rj F i a)=0
 | []=>hf.zero
 | u::a=>by
  show f (ak.add _ _)=0
  rw [hf.add,ahB hf h0 F i a];split
  . rw [h0]; rfl
  . rw [hf.zero]; rfl
theorem ahC{F:List ar}{n:Nat}:∀ (ws:List Wt) (S S':List ak),S.length=n->nB F n S ws=some S'->S'.length=n/\∀ i,i<n->S'.getD i ak.zero=(S.getD i ak.zero).add (rj F i ws)
 | [],S,S',hS,h=>by
  injection h with h;subst h;exact⟨hS,fun i _=>(ak.add_zero _).symm⟩
 | u::ws,S,S',hS,h=>by
  unfold nB za at h;by_cases hc:cJ F u.x=0\/n<cJ F u.x
  . rw [aC hc] at h;cases h
  . rw [aw hc] at h;obtain⟨h1,h2⟩:=ahC ws _ S' (by rw [nH]; exact hS) h;refine⟨h1,fun i hi => ?_⟩;rw [h2 i hi];show _=(S.getD i ak.zero).add (ak.add _ _)
    rw [<- ak.add_assoc];congr 1;by_cases he:cJ F u.x=i+1
    . rw [aC he,he,xx];simp [aX,List.getElem?_set_self (show i<S.length from oo)]
    . rw [aw he,ak.add_zero];simp [aX,NS (show cJ F u.x - 1≠i from oo)]
def cq(F:List ar)(ws:List Wt):List ak:=(List.range (F.length - 1)).map fun i=>(eX F (F.length - 1) (ck F (F.length - 1)) i).add (rj F i ws)
theorem ahD(F:List ar)(ws:List Wt):(cq F ws).length=F.length - 1:=by simp [cq]
theorem aw8{ws:List Wt}{S:List ak}(h:jd F ws=some S):S=cq F ws:=by
 obtain⟨h1,h2⟩:=ahC ws _ S (Nu F) h;apply N3
 . rw [h1,ahD]
 . intro i hi lI;have h3:=h2 i oo;have e1:S.getD i ak.zero=S[i]:=by simp [hi]
   have hb:i<(qc F).length:=by rw [Nu]; omega
   have e2:(qc F).getD i ak.zero=eX F (F.length - 1) (ck F (F.length - 1)) i:=by
    rw [aX,bc hb];simp [qc]
   rw [e1,e2] at h3;rw [h3];simp [cq]
def gQ(f:ak->Int)(F:List ar)(j:Nat):Int:=fL f ((List.range (min j (F.length - 1))).map (eX F (F.length - 1) (ck F (F.length - 1))))
def sI(f:ak->Int)(F:List ar)(ws:List Wt)(j:Nat):Int:=fL f ((List.range (min j (F.length - 1))).map fun i=>rj F i ws)
theorem VS{f:ak->Int}(hf:Part f)(g h:Nat->ak):∀ is:List Nat,fL f (is.map fun i=>(g i).add (h i))=fL f (is.map g)+fL f (is.map h)
 | []=>rfl
 | i::is=>by
  simp only [gz,xp,hf.add];rw [VS hf g h is];omega
theorem VT{f:ak->Int}(hf:Part f)(F:List ar)(ws:List Wt)(j:Nat):f (aB ((cq F ws).take j))=gQ f F j+sI f F ws j:=by
 rw [ahz hf];unfold cq gQ sI;rw [<- IP,List.take_range,VS hf]
theorem BJ{f:ak->Int}(hf:Part f)(F:List ar)(ws:List Wt):f (aB (cq F ws))=gQ f F (F.length - 1)+sI f F ws (F.length - 1):=by
 have h:=VT hf F ws (F.length - 1);rw [jC (by rw [ahD]; exact aA _)] at h;exact h
theorem ahE{f:ak->Int}(hf:Part f)(F:List ar)(a b:List Wt)(j:Nat):sI f F (a++b) j=sI f F a j+sI f F b j:=by
 unfold sI;rw [<- VS hf];congr 2;funext i;exact VR F i a b
theorem aw9{f:ak->Int}(hf:Part f)(F:List ar)(j:Nat):sI f F [] j=0:=by
 have h:=ahE hf F [] [] j;rw [pt] at h;omega
theorem BK{f:ak->Int}(hf:Part f)(h0:∀ u,f (gZ u)=0)(F:List ar)(ws:List Wt)(j:Nat):sI f F ws j=0:=by
 unfold sI;generalize List.range (min j (F.length - 1))=is
 induction is with
 | nil=>rfl
 | cons i is ih =>
  rw [gz,xp,ih,ahB hf h0];rfl
theorem sq_nonneg(x:Int):0<=x*x:=by
 rcases Int.le_total 0 x with h|h
 . exact B7 h h
 . exact Int.mul_nonneg_of_nonpos_of_nonpos h h
theorem sq_pos(h:x≠0):0<x*x:=by
 have h1:=sq_nonneg x;have h2:x*x≠0:=fun e=>by
  rcases Int.mul_eq_zero.1 e with h3|h3<;>exact h h3
 omega
def rk(l:List ar):Nat->Int
 | 0=>0
 | k+1=>rk l k+hX l k*hX l k
def sJ(l:List ar)(h:Int):Nat->Int
 | 0=>0
 | k+1=>sJ l h k+(h - hX l k)*(h - hX l k)
theorem ahF(l:List ar)(h:Int):∀ k:Nat,sJ l h k=rk l k - 2*h*ck l k+k*(h*h)
 | 0=>by simp [sJ,rk,ck]
 | k+1=>by
  unfold sJ rk ck;rw [ahF l h k];push_cast;grind
theorem ahG(l:List ar)(h:Int):∀ k,0<=sJ l h k
 | 0=>by simp [sJ]
 | k+1=>by
  unfold sJ;have:=ahG l h k;have:=sq_nonneg (h - hX l k);omega
theorem ahH(l:List ar)(h:Int)(h0:h≠hX l 0):∀ k,0<k->0<sJ l h k
 | 1,_=>by
  unfold sJ sJ;have:=sq_pos (x:=h - hX l 0) oo;omega
 | k+2,_=>by
  unfold sJ;have:=ahH l h h0 (k+1) oo;have:=sq_nonneg (h - hX l (k+1));omega
theorem ahI(l:List ar)(k:Nat):((k+1:Nat):Int)*rk l (k+1) - ck l (k+1)*ck l (k+1)=(k*rk l k - ck l k*ck l k)+sJ l (hX l k) k:=by
 rw [ahF];show ((k+1:Nat):Int)*(rk l k+hX l k*hX l k) - (ck l k+hX l k)*(ck l k+hX l k)=_
 push_cast;grind
theorem ahJ(l:List ar):∀ k:Nat,0<=(k:Int)*rk l k - ck l k*ck l k
 | 0=>by simp [rk,ck]
 | k+1=>by
  rw [ahI];have:=ahJ l k;have:=ahG l (hX l k) k;omega
theorem axa(l:List ar)(k:Nat)(hk:0<k)(h:hX l k≠hX l 0):0<((k+1:Nat):Int)*rk l (k+1) - ck l (k+1)*ck l (k+1):=by
 rw [ahI];have:=ahJ l k;have:=ahH l (hX l k) h k hk;omega
theorem ahK(l:List ar)(n:Nat)(all:Int):∀ k,fL ak.a5 ((List.range k).map (eX l n all))=n*rk l k - all*ck l k
 | 0=>by simp [fL,rk,ck]
 | k+1=>by
  have e:∀ (S:List ak) (a:ak),fL ak.a5 (S ++ [a])=fL ak.a5 S+a.a5:=by
   exact Nw
  rw [um,jg,II,e,ahK l n all k];show _+((n:Int)*hX l k - all)*hX l k=(n:Int)*(rk l k+hX l k*hX l k) - all*(ck l k+hX l k)
  grind
theorem axb{l:List ar}(ho:sq l)(h3:3<=l.length)(ws:List Wt):0<(aB (cq l ws)).a5:=by
 have h:=BJ su l ws;rw [BK su (fun _=>rfl)] at h;unfold gQ at h;rw [WO,ahK] at h;obtain⟨k,hk⟩:∃ k,l.length - 1=k+1:=⟨l.length - 2,oo⟩
 rw [hk] at h;have h1:hX l k≠hX l 0:=by
  unfold hX;have e:∀ i,i<l.length->∀ (hi:i<l.length),bV l i=l[i].x:=fun i _ hi=>sr hi;rw [sr (show k<l.length from oo),sr (show k+1<l.length from oo),sr (show 0<l.length from oo),sr (show 0+1<l.length from oo)];have q1:=ho 0 1 oo oo oo;have q2:=ho 0 k oo oo oo;have q3:=ho 1 (k+1) oo oo oo;simp only [gC] at *
  omega
 have:=axa l k oo h1;omega
theorem ahL{l:List ar}(h:jc none l=true):sq l:=(Un l none h).1
def dF(F:List ar):Nat:=(10000*(aB (cq F [])).a5).toNat
theorem axc(F:List ar)(ws:List Wt):(aB (cq F ws)).a5=(aB (cq F [])).a5:=by
 rw [BJ su,BJ su,BK su (fun _=>rfl),BK su (fun _=>rfl)]
theorem ahM(l:List ar)(n:Nat)(all:Int):∀ k:Nat,fL ak.a4 ((List.range k).map (eX l n all))=n*ck l k - k*all
 | 0=>by simp [fL,ck]
 | k+1=>by
  have e:∀ (S:List ak) (a:ak),fL ak.a4 (S ++ [a])=fL ak.a4 S+a.a4:=by
   exact Nw
  rw [um,jg,II,e,ahM l n all k];show _+((n:Int)*hX l k - all)=(n:Int)*(ck l k+hX l k) - ((k+1:Nat):Int)*all
  push_cast;grind
theorem axd(G:List ar)(ws:List Wt):(aB (cq G ws)).a4=0:=by
 rw [BJ Br,BK Br (fun _=>rfl)];unfold gQ;rw [WO,ahM];grind
theorem axe:∀ (l:List ar) (n:Nat) (all:Int) (k:Nat),k<=l.length->fL ak.a2 ((List.range k).map (eX l n all))=fC (l.take k):=by
 intro l n all k
 induction k with
 | zero=>intro _; simp [fL,fC]
 | succ k ih =>
  intro h;have e:∀ (S:List ak) (a:ak),fL ak.a2 (S ++ [a])=fL ak.a2 S+a.a2:=by
   exact Nw
  rw [um,jg,II,e,ih oo,xv oo,Il];congr 1;show (l.getD k eV).share=_
  simp [show k<l.length from oo]
theorem axf(hR:gP G=true)(ws:List Wt):(aB (cq G ws)).a2=10000:=by
 obtain⟨p1,p2,p3,p4⟩:=Bw hR;rw [BJ Bq,BK Bq (fun _=>rfl)];unfold gQ;rw [WO,axe _ _ _ _ oo];have aT:G ≠ []:=by intro e; rw [e] at p1; simp at p1
 have hl:(o8 G).share=0:=by
  unfold gP at hR;simp only [ax,aL] at hR;exact hR.2
 have e:G=G.take (G.length - 1) ++ [o8 G]:=by
  have h1:=azc aT;rw [List.dropLast_eq_take] at h1;unfold o8;rw [azi,azb aT];exact h1.symm
 have h2:fC G=fC (G.take (G.length - 1))+(o8 G).share:=by
  conv=>lhs; rw [e]
  rw [Il]
 omega
theorem VU(S:List ak)(a b c d:Int):jz S (a+b) (c+d)=jz S a c+jz S b d:=by
 unfold jz;rw [l7,l7,l7,ajt,ajt];generalize kR S=k;have e:((10000:Int):Rat)=10000:=rfl;rw [e];grind
theorem axg{S:List ak}(h5:((aB S).a5:Rat)≠0):jz S (aB S).a3 (aB S).a5=((aB S).a1:Rat):=by
 unfold jz kR;rw [Rat.div_def _ ((aB S).a5:Rat)];have e:=Rat.inv_mul_cancel _ h5;generalize ((aB S).a5:Rat)⁻¹ = i at *
 grind
theorem axh{S:List ak}:jz S 10000 0=((aB S).a0:Rat):=by
 unfold jz;rw [l7];generalize kR S=k;have e:((10000:Int):Rat)=10000:=rfl;have e0:((0:Int):Rat)=0:=rfl;rw [e,e0];grind
theorem axi(S:List ak)(sh fa hh:Int):jz S sh fa*(hh:Rat)=jz S (sh*hh) (fa*hh):=by
 unfold jz;rw [l7,l7,l7,l7];generalize kR S=k;have e:((10000:Int):Rat)=10000:=rfl;rw [e];grind
theorem ahN{F:List ar}(ho:sq F)(y:Int):∀ n,n<=F.length->∃ i,i<=n/\(∀ j (hj:j<F.length),j<i->F[j].x<=y)/\∀ j (hj:j<F.length),i<=j->j<n->y<F[j].x
 | 0,_=>⟨0,aA _,fun j _ h=>oo,fun j _ _ h=>oo⟩
 | n+1,hn=>by
  obtain⟨i,h1,h2,h3⟩:=ahN ho y n oo;rcases b9 i n with h|h
  . refine⟨i,oo,h2,fun j hj iu pX => ?_⟩;rcases b9 j n with h4|h4
    . exact h3 j hj iu h4
    . obtain rfl:j=n:=oo
      have h5:=h3 i oo (aA _) h;have h6:=ho i j h hj oo;omega
  . obtain rfl:i=n:=oo
    by_cases hx:(F[i]'oo).x<=y
    . refine⟨i+1,aA _,fun j hj n8 => ?_,fun j hj h4 h5=>oo⟩;rcases b9 j i with h4|h4
      . exact h2 j hj h4
      . obtain rfl:j=i:=oo
        exact hx
    . refine⟨i,oo,h2,fun j hj h4 h5 => ?_⟩;obtain rfl:j=i:=oo
      omega
theorem ahO(ho:sq F)(y:Int):Splits F y (cJ F y):=by
 obtain⟨i,h1,h2,h3⟩:=ahN ho y F.length (aA _);have hs:Splits F y i:=⟨h1,h2,fun j hj iu=>h3 j hj iu hj⟩
 rw [<- aeR hs];exact hs
theorem axj{l:List ar}{ws:List Wt}{S:List ak}(xi:jc none l=true)(oG:3<=l.length)(hl:l.length<=30)(nZ:fC l=10000)(hw:ws.length<=3000)(hk:∀ x∈ws,0<=x.aq/\x.aq<=500000000)(h:jd l ws=some S)(j:Nat) :
 (-2000000000000<=(aB (S.take j)).a0/\(aB (S.take j)).a0<=2000000000000)/\(-2000000000000000000<=(aB (S.take j)).a1/\(aB (S.take j)).a1<=2000000000000000000)/\(-10000<=(aB (S.take j)).a2/\(aB (S.take j)).a2<=10000)/\(-10000000000<=(aB (S.take j)).a3/\(aB (S.take j)).a3<=10000000000)/\(-1740000000<=(aB (S.take j)).a4/\(aB (S.take j)).a4<=1740000000)/\(-1740000000000000<=(aB (S.take j)).a5/\(aB (S.take j)).a5<=1740000000000000):=by
 obtain⟨q0,q1,q2,q3,q4,q5⟩:=aeZ xi oG hl nZ hk h;have r0:=sx zc S j;have r1:=sx DM S j;have r2:=sx Bq S j;have r3:=sx DN S j;have r4:=sx Br S j;have r5:=sx su S j;omega
section
variable(F:List ar)(j:Nat)
theorem Nx{f:ak->Int}(hf:Part f)(h0:∀ u,f (gZ u)=0)(ws:List Wt):f (aB ((cq F ws).take j))=gQ f F j:=by
 rw [VT hf,BK hf h0];omega
theorem D4{f:ak->Int}(hf:Part f)(h0:∀ u,f (gZ u)=0)(ws:List Wt):f (aB (cq F ws))=gQ f F (F.length - 1):=by
 rw [BJ hf,BK hf h0];omega
end
theorem Ny{l:List ar}(ho:sq l)(h3:3<=l.length)(u:Wt):tY l u=false↔cJ l u.x≠0/\cJ l u.x<=l.length - 1:=by
 obtain⟨h1,h2,h4⟩:=ahO ho u.x;unfold tY;rw [sr (show 0<l.length from oo),sr (show l.length - 1<l.length from oo)];simp only [kf,fQ];constructor
 . rintro⟨a,b⟩
   constructor
   . intro e;exact a (h4 0 oo oo)
   . rcases b9 (l.length - 1) (cJ l u.x) with h|h
     . exact absurd (h2 (l.length - 1) oo h) b
     . exact h
 . rintro⟨a,b⟩
   have q1:=h2 0 oo oo;have q2:=h4 (l.length - 1) oo b;omega
theorem ahP{l:List ar}{n:Nat}:∀ (ws:List Wt) (S:List ak),(∃ u∈ws,cJ l u.x=0\/n<cJ l u.x)->nB l n S ws=none
 | [],_,h=>by obtain⟨u,hu,_⟩:=h; cases hu
 | v::ws,S,h=>by
  unfold nB za;by_cases hc:cJ l v.x=0\/n<cJ l v.x
  . rw [aC hc]
  . rw [aw hc];refine ahP ws _ ?_;obtain⟨u,hu,h1⟩:=h;rcases fM.1 hu with rfl|h2
    . exact absurd h1 hc
    . exact⟨u,h2,h1⟩
theorem VV(f:ak->Int)(a:ak):∀ S:List ak,fL f (S ++ [a])=fL f S+f a
 | []=>by show f a+0=0+f a; omega
 | b::S=>by rw [kW,xp,xp,VV f a S]; omega
theorem rm(f:ak->Int){l:List ar}(h:j<l.length - 1):gQ f l (j+1)=gQ f l j+f (eX l (l.length - 1) (ck l (l.length - 1)) j):=by
 unfold gQ;rw [xA oo,xA oo,um,jg];exact VV f _ _
theorem VW(f:ak->Int)(l:List ar):gQ f l 0=0:=by
 unfold gQ;rw [Nat.zero_min];rfl
theorem ahQ{f:ak->Int}(hf:Part f)(F:List ar)(u:Wt):∀ m:Nat,fL f ((List.range m).map fun i=>rj F i [u])=if cJ F u.x≠0/\cJ F u.x<=m then f (gZ u) else 0
 | 0=>by
  rw [aw oo];rfl
 | m+1=>by
  rw [um,jg,II,VV,ahQ hf F u m];have e:rj F m [u]=(if cJ F u.x=m+1 then gZ u else ak.zero):=ak.add_zero _;rw [e];by_cases h:cJ F u.x=m+1
  . rw [aC h,aw oo,aC oo];omega
  . rw [aw h,hf.zero];by_cases h1:cJ F u.x≠0/\cJ F u.x<=m
    . rw [aC h1,aC oo];omega
    . rw [aw h1,aw oo];rfl
def lF(f:ak->Int)(y:Int):List Wt->Int
 | []=>0
 | u::ws=>(if u.x<y then f (gZ u) else 0)+lF f y ws
def xq(y:Int):List Wt->Int
 | []=>0
 | u::ws=>(if y<=u.x then u.aq else 0)+xq y ws
def sK(y:Int):List Wt->Int
 | []=>0
 | u::ws=>(if y<=u.x then u.aq*(u.x - y) else 0)+sK y ws
theorem ahR(y:Int)(u:Wt):∀ ws,xq y (ws ++ [u])=xq y ws+if y<=u.x then u.aq else 0
 | []=>by show _+0=0+_; omega
 | v::ws=>by rw [kW]; show _+xq y (ws ++ [u])=(_+xq y ws)+_; rw [ahR y u ws]; omega
theorem ahS(y:Int)(u:Wt):∀ ws,sK y (ws ++ [u])=sK y ws+if y<=u.x then u.aq*(u.x - y) else 0
 | []=>by show _+0=0+_; omega
 | v::ws=>by rw [kW]; show _+sK y (ws ++ [u])=(_+sK y ws)+_; rw [ahS y u ws]; omega
theorem Nz(f:ak->Int)(u:Wt)(ws:List Wt):eN f (u::ws)=f (gZ u)+eN f ws:=rfl
theorem ahT(y:Int):∀ ws,xq y ws=eN ak.a0 ws - lF ak.a0 y ws
 | []=>rfl
 | u::ws=>by
  rw [Nz];show _+xq y ws=u.aq+eN ak.a0 ws - (_+lF ak.a0 y ws)
  rw [ahT y ws];show (if y<=u.x then u.aq else 0)+_=_ - ((if u.x<y then u.aq else 0)+_)
  by_cases h:y<=u.x
  . rw [aC h,aw oo]; omega
  . rw [aw h,aC oo]; omega
theorem ahU(y:Int):∀ ws,2*sK y ws=(eN ak.a1 ws - lF ak.a1 y ws) - 2*y*(eN ak.a0 ws - lF ak.a0 y ws)
 | []=>by show 2*0=(0 - 0) - 2*y*(0 - 0); simp
 | u::ws=>by
  have ih:=ahU y ws;rw [Nz,Nz];show 2*((if y<=u.x then u.aq*(u.x - y) else 0)+sK y ws)=(2*u.aq*u.x+eN ak.a1 ws - ((if u.x<y then 2*u.aq*u.x else 0)+lF ak.a1 y ws)) - 2*y*(u.aq+eN ak.a0 ws - ((if u.x<y then u.aq else 0)+lF ak.a0 y ws))
  by_cases h:y<=u.x
  . rw [aC h,aw oo,aw oo];exact ahV
  . rw [aw h,aC oo,aC oo];exact ahV
theorem VX{f:ak->Int}(hf:Part f){l:List ar}(ho:sq l){j:Nat}(hj:j<=l.length - 1)(h3:3<=l.length):∀ ws:List Wt,(∀ u∈ws,tY l u=false)->sI f l ws j=lF f (bV l j) ws
 | [],_=>aw9 hf l j
 | u::ws,h=>by
  have ih:=VX hf ho hj h3 ws (fun v hv=>h v (by simp [hv]));have h1:=ahE hf l [u] ws j;rw [List.singleton_append] at h1;rw [h1,ih];show _=(if u.x<bV l j then f (gZ u) else 0)+lF f (bV l j) ws
  congr 1;unfold sI;rw [ahQ hf,xA hj];have hu:=(Ny ho h3 u).1 (h u (by simp));obtain⟨_,h2,h4⟩:=ahO ho u.x;have e:=sr (l:=l) (i:=j) oo;by_cases hx:u.x<bV l j
  . rw [aC hx,aC];refine⟨hu.1,?_⟩;rcases b9 j (cJ l u.x) with h5|h5
    . have:=h2 j oo h5;omega
    . exact h5
  . rw [aw hx,aw]
    rintro⟨_,h5⟩
    have:=h4 j oo h5;omega
structure sL (l:List ar) (ws:List Wt):Prop where
 right:gP l=true
 Im:∀ x∈ws,0<=x.aq/\x.aq<=500000000
 ins:∀ u∈ws,tY l u=false
 sH:ws.length<=3000
theorem ahW(f:ak->Int)(y:Int):∀ ws:List Wt,(∀ u∈ws,u.x<y)->lF f y ws=eN f ws
 | [],_=>rfl
 | u::ws,h=>by
  rw [Nz];show (if u.x<y then f (gZ u) else 0)+lF f y ws=_
  rw [aC (h u (by simp)),ahW f y ws (fun v hv=>h v (by simp [hv]))]
theorem ahX(l:List ar):∀ i,MO l i=ck l i
 | 0=>rfl
 | i+1=>by
  unfold MO ck hX;rw [ahX l i];omega
theorem NA{ws:List Wt}{k:Nat}(h:k<ws.length):ws.take (k+1)=ws.take k ++ [ws.getD k iP]:=by
 exact ady
theorem ahY(a:Int)(ws:List Wt):∀ k,k<=ws.length->zf a ws k=a+eN ak.a0 (ws.take k)
 | 0,_=>by show a=a+0; omega
 | k+1,h=>by
  unfold zf;rw [ahY a ws k oo,NA oo,VP];show a+_+_=a+(_+(ws.getD k iP).aq)
  omega
theorem ahZ{l:List ar}:∀ i,i<=l.length - 1->xk l i=gQ ak.a0 l i
 | 0,_=>(VW _ _).symm
 | i+1,h=>by
  unfold xk;rw [ahZ i oo,rm _ oo];rfl
section
variable{l:List ar}{ws:List Wt}(R:sL l ws)
include R
theorem sL.parts:3<=l.length/\l.length<=30/\jc none l=true/\fC l=10000:=Bw R.right
theorem sL.ord:sq l:=ahL R.parts.2.2.1
theorem sL.ok:∀ f∈l,f.ok=true:=xh none l R.parts.2.2.1
theorem sL.ah0:jd l ws=some (cq l ws):=by
 obtain⟨S,h1,_,_⟩:=VO (l:=l) (n:=l.length - 1) ws (qc l) (Nu l) (fun u hu=>(Ny R.ord R.parts.1 u).1 (R.ins u hu));have h2:jd l ws=some S:=h1;rw [h2,aw8 h2]
theorem sL.s8:∀ u∈ws,u.x<bV l (l.length - 1):=by
 intro u hu;have h:=R.ins u hu;unfold tY at h;simp only [kf,fQ] at h;omega
theorem sL.sum{f:ak->Int}(hf:Part f):f (aB (cq l ws))=gQ f l (l.length - 1)+eN f ws:=by
 rw [BJ hf,VX hf R.ord (aA _) R.parts.1 ws R.ins,ahW f _ ws R.s8]
theorem sL.pre{f:ak->Int}(hf:Part f)(hj:j<=l.length - 1):f (aB ((cq l ws).take j))=gQ f l j+lF f (bV l j) ws:=by
 rw [VT hf,VX hf R.ord hj R.parts.1 ws R.ins]
theorem sL.W:Hl l ws=(aB (cq l ws)).a0:=by
 rw [R.sum zc];unfold Hl;rw [ahY _ ws ws.length (aA _),uk,ahZ _ (aA _)]
theorem sL.axk(hW:(aB (cq l ws)).a0<=500000000):l5 (cq l ws) (dF l):=by
 obtain⟨p1,p2,p3,p4⟩:=R.parts;have h5:=axb R.ord p1 ws;have h0:0<=(aB (cq l ws)).a0:=by
  rw [<- R.W];have a1:=afi R.ok (l.length - 1) oo;have a2:=afj (a:=xk l (l.length - 1)) R.Im ws.length (aA _);unfold Hl;omega
 refine⟨⟨h0,hW⟩,h5,?_,fun j=>axj p3 p1 p2 p4 R.sH R.Im R.ah0 j⟩;unfold dF;rw [<- axc l ws];omega
end
structure ee (l:List ar) (ws:List Wt) (D:Nat):Prop where
 r:sL l ws
 b:l5 (cq l ws) D
section
variable{l:List ar}{ws:List Wt}{D:Nat}(R:ee l ws D)
include R
theorem ee.E2:BI (2*D):=⟨by have:=R.b.qi; omega,pr (kU 2 R.b.qi.2) (by decide)⟩
theorem ee.E1:BI D:=⟨R.b.qi.1,pr R.b.qi.2 (by decide)⟩
theorem ee.lt(K:Nat)(h:K*17400000000000000000<c7):K*D<c7:=pr (kU K R.b.qi.2) h
theorem ee.hX(i:Nat):(Go.Proofs.YtamjbkaclhgffaaGreat.hX l i).natAbs<=1000000:=by have:=zb R.r.ok i; omega
theorem ee.mid(i:Nat):cV (2*D) (1000000*D) (DQ l i) ((Go.Proofs.YtamjbkaclhgffaaGreat.hX l i:Rat) / ((2:Int):Rat)):=cV.half R.E2 _ (R.hX i) (R.lt _ (by decide))
theorem ee.wx{u:Wt}(hu:u∈ws):u.x.natAbs<=500000:=by
 have h1:=(Ny R.r.ord R.r.parts.1 u).1 (R.r.ins u hu);have h2:=R.r.parts.1;have:=MA R.r.ok (x:=u.x) h1.1 oo;omega
theorem ee.ch(h:i<l.length):(vv l i).natAbs<=500000000:=by
 have:=(ar.nA (R.r.ok _ (eY (getD_some eV h)))).2.1;unfold vv;omega
theorem ee.share(h:i<l.length):((l.getD i eV).share).natAbs<=10000:=by
 have:=(ar.nA (R.r.ok _ (eY (getD_some eV h)))).2.2.1;omega
theorem ee.ah1:∀ i,i<=l.length - 1->cV (2*D) (i*(500000000000000*D)) (MN l i) ((gQ ak.a1 l i:Rat) / ((2:Int):Rat))
 | 0,_=>by
  exact ah2
 | i+1,h=>by
  have ih:=ee.ah1 i oo;have h1:=(cV.int (E:=D) (K:=500000000) (vv l i) (R.ch oo)).Nt R.E2 (R.mid i).1 (R.hX i) (by
   have:=R.lt 500000000000000 (by decide);rw [aji];exact this)
  have e:500000000*D*1000000=500000000000000*D:=oo
  rw [e] at h1;have hb:i*(500000000000000*D)+500000000000000*D<c7:=by
   have h2:=R.r.parts.2.1;have h3:=R.lt (30*500000000000000) (by decide);have h4:(i+1)*(500000000000000*D)<=30*(500000000000000*D):=oy _ oo;rw [lH] at h4;omega
  have h5:=ih.add R.E2 h1 hb;rw [lH,IT];refine h5.eq ?_;rw [rm _ oo];show _=(((gQ ak.a1 l i+vv l i*Go.Proofs.YtamjbkaclhgffaaGreat.hX l i:Int)):Rat) / _
  push_cast;grind
end
end Go.Proofs.YtamjbkaclhgffaaGreat
