/-
  The abstract run: every operation that it takes is sound.
-/
import Derived.Test.YtlpikgchnjajmaaGreatTp10
set_option linter.all false
namespace Go.Proofs.YtlpikgchnjajmaaGreat
open Go.RowKit
variable{av x:AV}{aft:Array Edge}{b r:Bool}{C:Cx}{f:FuncId}{cs xs:List AV}{l rest:List Oper}{vcs:List VC}{T T' d i j loc off s:Nat}{L:Nat->Bool}{o oj:Oper}{gd:Option (Nat×Bool)}{pos:String}{S' S2:Sx}{K:Sx->Fm}{t:Tc}{ty:TypeId}{v:Value}
section
variable{P:Program}{w w' w0:World}{ρ ρ':Nat->Option Rl}{base:Nat}{ro ro':Nat->Prop}{S0:Pm}{Φ : Pm->Prop}{N:Nat}{B:Bs}{S:Sx}{a:Act}
theorem akY(aA:cS P C.ty)(H:aP w0 Φ N B S a w){e sz b len:Nat}{parts:Array (Nat×Operand)}{f:Bool}{es:List (Unit->t.el)}(hT:fy C.ty T=some (.slice e sz b))(mJ:zW 0 (parts.toList.map fun p=>(p.1,bT B S p.2))=some xs)(lS:Ca t xs=some (f,es))(aN:t.size=sz)(hlen:es.length=len)(axw:len*sz<=16777216)(hB:ak B.e S.n=none)(hp:bP B ⟨S.t,(S.n,.row f t e fun _=>es.map fun g=>g ())::S.e,S.n+1⟩ N d (.own S.n)=some S') :
 gq P ⟨some d,.buildSlice T len parts,ty,pos,aft,gd⟩ a w (aP w0 Φ N B S'):=by
 obtain⟨S0,hS,ρ,ro,H⟩:=H;obtain⟨i,_,hi,kG⟩:=eU aA hT;obtain⟨⟨hu,j,z,hj,hz,wF,_,vN,nT⟩,_⟩:=Af kG hi;subst aN;obtain⟨h1,h2⟩:=Yp mJ;have hE:aQ w ρ w0.heap.size ro (parts.toList.map fun p=>bT B S p.2) (parts.toList.map fun p=>a.eval p.2):=wg fun p _=>H.get p.2;have Qh:xs=parts.toList.map fun p=>bT B S p.2:=by rw [<- h1]; simp
 rw [<- Qh] at hE;obtain⟨css,q1,q2,q3⟩:=Yh lS hE;have cH:∀ cs∈css,cs.length=t.size:=fun cs aC=>by
  obtain⟨k,hk⟩:=kW.1 aC;have aj:=(cM.1 hk).1;exact (q3 k cs _ hk (bp oo)).1
 have cO:parts.toList.length=len:=by
  have:css.length=parts.toList.length:=by
   have:=congrArg List.length q1;simpa using this.symm
  omega
 have YX:parts.toList.map (·.1)=List.range' 0 parts.toList.length:=by simpa [Function.comp_def] using h2
 have YY:=Yq (size:=t.size) (parts.toList.map fun p=>(p.1,a.eval p.2)) css 0 [] (((Array.range (len*t.size)).map fun (k:Nat)=>z.cells[k % z.cells.size]!).toList) (by rw [<- q1]; simp) (by simpa [Function.comp_def] using YX) cH (by simp) (by simp [<- cO]);have cB:(execOp a.eval ⟨some d,.buildSlice T len parts,ty,pos,aft,gd⟩).run P w = .ok (.value (.slice (some ⟨w.heap.size,0,none⟩) len len)) (w.alloc (.cells css.flatten.toArray e)):=by
  have YZ:(parts.map fun (i,x)=>(i,a.eval x)).toList=parts.toList.map fun p=>(p.1,a.eval p.2):=by simp
  have xC:=Yj (w:=w) hj hz;unfold execOp;simp only [Instr.buildSlice,underlying,sizeOf,typeInfo,bt,bU,bM,m5,hu,hj,wF];by_cases h0:len=0
  . subst h0;have Al:parts.toList = []:=xp cO;have oU:css = []:=xp oo;simp only [Nu,show ¬ (0>2^24) by decide,eH,dB,bt,bU,bM,YZ,Al,vE,oU];rw [Instr.fill];have e0:Array.range 0 = #[]:=by apply xx; simp
    simp only [e0,DD,vE,List.flatten_nil];rfl
  have aT:¬ len*t.size=0:=fun h=>by rcases Nat.mul_eq_zero.1 h with h|h<;>omega
  simp only [show ¬ (len*t.size>2^24) from oo,aT,dB,bt,bU,bM,xC,YZ];rw [rv,Array.toArray_toList] at YY;rw [YY,rv];rfl
 have fq:=H.fresh S.n (az _);have gi:∀ q,q<w.heap.size->(w.alloc (.cells css.flatten.toArray e)).heap[q]? = w.heap[q]? := fun q hq=>qj w _ q hq;have Y0:(es.map fun g=>g ()).length=len:=by simp [hlen]
 have Y1:css.length=len:=oo
 have lX:css.length<=maxLen:=by
  have:len*1<=len*t.size:=tT _ nT;unfold maxLen;omega
 have bC:=ake (base:=rb f w0.heap.size) (ry w (.cells css.flatten.toArray e)) cH (e8 (IN _ _) H.from_.size) lX;rw [Y1] at bC;have H2:=H.oY (w':=w.alloc (.cells css.flatten.toArray e)) (loc:=S.n) (n:=S.n+1) (r := .row (some ⟨w.heap.size,0,none⟩) len len) (e := .row f t e fun _=>es.map fun g=>g ()) (H.from_.alloc _) (by simp) (fun q hq _=>gi q hq) (fun q pK=>by
  have kH:some w.heap.size=some q:=pK;injection kH with kH;subst kH;exact .inr ⟨az _,by simp⟩) hB (Bu _) (zp _) (.inl (qD fq)) (.inl fun b hb=>by rw [fq] at hb; cases hb) (by
  refine⟨some ⟨w.heap.size,0,none⟩,len,css,by rw [Y0]; exact iL _ _ _,bC,by rw [Y0]; exact Y1,fun k cs j y u r1 r2 r3 => ?_⟩
  . have hk:=(cM.1 r1).1;have nm:es[k]? = some (es[k]'oo):=bp _;have r4:=(q3 k cs _ r1 nm).2;rw [show ((es.map fun g=>g ()).getD k t.aa)=(es[k]'oo) () by simp [ba,nm]] at r2;exact (r4.2 j y u r2 r3).mono (fun q _ aj=>gi q aj) (qD fq) (az _) fun _ h=>h)
 refine .inl ⟨_,_,cB,S0,hS,_,_,H2.put hp (.own _ _ _ _ (iL _ _ _))⟩
theorem akZ(aA:cS P C.ty)(H:aP w0 Φ N B S a w){i:eS}{x y:Operand}{k:Unit->Int}{fr f:Bool}{l:Unit->List t.el}{e:Unit->t.el}(hi:ak C.ty T=some i)(hc:cellsOf (bT B S y)=some cs)(hx:bT B S x = .cY t loc k off)(he:bc B S loc=some (.row fr t T' l))(hl:cs.length=i.sz)(jB:off+i.sz<=t.size)(h1:cs.all AV.one=true)(hB:ak B.e loc=none)(gR:wy t (.agg ((aO fr t fun _=>(l ()).getD (k ()).toNat t.aa).take off++cs++(aO fr t fun _=>(l ()).getD (k ()).toNat t.aa).drop (off+i.sz)))=some (f,e))(hf:fr=true->f=true) :
 gq P ⟨none,.store T x y,ty,pos,aft,gd⟩ a w (aP w0 Φ N B ⟨S.t,(loc,.row fr t T' fun _=>(l ()).set (k ()).toNat (e ()))::S.e,S.n⟩):=by
 obtain⟨S0,hS,ρ,ro,H⟩:=H;have ke:=H.get x;rw [hx] at ke;obtain⟨A,n,c,b,hA,rfl,um,cT,mG⟩:=ke.I2;obtain⟨A',c',css,bK,bC,hlen,du⟩:=H.en _ _ he;rw [hA] at bK;injection bK with bK;injection bK with e1 e2 e3;subst e1; subst e2; subst e3;obtain⟨vs,hv,pR⟩:=JR hc (H.get y);obtain⟨j,hj,wF,_⟩:=I5 (aA T i hi);have mH:vs.length=i.sz:=by rw [<- pR.1]; exact hl
 obtain⟨kk,jJ⟩:∃ kk:Nat,kk=(k ()).toNat:=⟨_,rfl⟩
 rw [<- jJ] at mG gR ⊢;have Fe:kk<css.length:=oo
 obtain⟨nQ,h0⟩|⟨g,cap,cur,heq,ir,hg,lW,qE,aC,rD⟩:=bC.1.2
 . cases nQ
 . simp only [Value.slice.injEq,bI,Addr.mk.injEq,aS,aR] at heq;obtain⟨rfl,rfl⟩:=heq;have ak0:=pC css bC.2;have axx:kk*t.size+off+i.sz<=css.length*t.size:=by
    have:(kk+1)*t.size<=css.length*t.size:=xr _ Fe;rw [xw] at this;omega
   have axy:css.length*t.size<=c*t.size:=xr _ lW;have cB:=Ic (P:=P) (w:=w) (T:=T) (n:=i.sz) (g:=b) (off:=kk*t.size+off) (t:=T') (cur:=cur) (v:=a.eval y) (cs:=vs) (by rw [hj]; simp [wF]) (Yk hv) mH hg oo (PL h1 pR);generalize Y2:(cur.toList.take (kk*t.size+off)++vs++cur.toList.drop (kk*t.size+off+i.sz)).toArray=m6 at cB;have o6:(execOp a.eval ⟨none,.store T x y,ty,pos,aft,gd⟩).run P w = .ok .skip (w.setRow b m6):=by
    exact Yn
   have ng:loc<S.n:=by
    exact PS
   have kJ:¬ ro b:=(H.own loc _ b hA rfl).2.1;have hw:∀ b',ro b'->b'<w.heap.size->(w.setRow b m6).heap[b']? = w.heap[b']? := fun b' aW _=>DN _ _ _ _ (fun e=>kJ (e▸aW));generalize bE:(css[kk]).take off++vs++(css[kk]).drop (off+i.sz)=Cr at *
   have yy:(css[kk]).length=t.size:=bC.2 _ (mj Fe);have Y3:Cr.length=t.size:=by rw [<- bE]; simp [yy,mH]; omega
   have o7:m6.toList.take (css.length*t.size)=(css.set kk Cr).flatten:=by
    have JZ:=Yo css bC.2 kk off i.sz vs Fe jB mH;rw [bE] at JZ;rw [<- JZ,<- Y2];have Qi:cur.toList=css.flatten++cur.toList.drop (css.length*t.size):=by
     rw [<- rD,jg]
    have e1:(css.flatten++cur.toList.drop (css.length*t.size)).take (kk*t.size+off)=css.flatten.take (kk*t.size+off):=ahb oo;have e2:(css.flatten++cur.toList.drop (css.length*t.size)).drop (kk*t.size+off+i.sz)=css.flatten.drop (kk*t.size+off+i.sz)++cur.toList.drop (css.length*t.size):=ahc oo;rw [Qi,e1,e2,<- gv];exact ahG (by simp only [ej,c6,iH,ak0,mH]; omega)
   have E8:cy (w.setRow b m6) (rb fr w0.heap.size) T' t.size (some ⟨b,0,none⟩) c (css.set kk Cr):=by
    refine⟨⟨?_,.inr ⟨b,c,m6,by simp,ir,Ny w b _ _ T' _ hg,by simpa using lW,qE,?_,?_⟩⟩,fun r hr => ?_⟩
    . rw [mZ];rw [pC (css.set kk Cr) (fun r hr=>by
       rcases Vj hr with h|h
       . exact bC.2 r h
       . rw [h]; exact Y3),mZ]
    . rw [<- Y2];simp [mH];omega
    . rw [mZ]; exact o7
    . rcases Vj hr with h|h
      . exact bC.2 r h
      . rw [h]; exact Y3
   have hold:aQ w ρ w0.heap.size ro (aO fr t fun _=>(l ()).getD kk t.aa) css[kk]:=ux yy fun j y v q1 q2=>du _ _ j y v (bp Fe) q1 q2;have pO:=(((hold.take off).append pR).append (hold.drop (off+i.sz)))
   rw [bE] at pO;obtain⟨us,Ja,axz,hE3⟩:=JS gR (.agg _ _ pO.1 pO.2);have ak2:us=Cr:=by
    have:Cr.toArray=us.toArray:=Ja;exact (Nm this).symm
   subst ak2;have H2:=H.oY (w':=w.setRow b m6) (loc:=loc) (n:=S.n) (r := .row (some ⟨b,0,none⟩) (l ()).length c) (e := .row fr t T' fun _=>(l ()).set kk (e ())) (H.from_.grown (PN _ _ _) (H.Ae hA rfl)) (by rw [setRow_size]; exact az _) (fun b' aW aT=>DN _ _ _ _ (fun e=>aT _ hA (by rw [e]; rfl))) (fun b' aW => .inl ⟨_,hA,aW⟩) hB (az _) ng (.inl Qf) (.inl fun q hq=>by rw [hA] at hq; cases hq) (by
    refine⟨some ⟨b,0,none⟩,c,css.set kk us,by simp only [mZ]; exact iL _ _ _,E8,by simp [hlen],fun k' cs' j y u q1 q2 q3 => ?_⟩;rw [sX hA];refine ah.mono ?_ hw (Ext.refl _) (az _) fun _ h=>h;rw [ru] at q1;split at q1
    . rename_i ak3;subst ak3
      first|rw [aw Fe] at q1|skip
      injection q1 with q1;subst q1;rw [show ((l ()).set kk (e ())).getD kk t.aa=e () by simp [ba,ahk (show kk<(l ()).length from oo)]] at q2;exact (Ad hE3 hf).2 j y u q2 q3
    . rename_i aT;rw [show ((l ()).set kk (e ())).getD k' t.aa=(l ()).getD k' t.aa by simp [ba,M7 aT]] at q2;exact du k' cs' j y u q1 q2 q3)
   exact .inr (.inl ⟨_,o6,S0,hS,_,_,H2⟩)
theorem ak4(iJ:∀ S0,Φ S0->S0.fx=C.fx)(aA:cS P C.ty)(H:aP w0 Φ N B S a w)(h:Jr C N B S o=some (S',vcs))(hv:∀ c∈vcs,c ()):gq P o a w (aP w0 Φ N B S'):=by
 obtain⟨dst,op,ty,pos,aft,gd⟩:=o;unfold Jr at h;dsimp only at h;split at h
 . rename_i T;split at h
   . rename_i i d hi;split at h
     . cases h
     . rename_i hc;simp only [gz,zv,vI,Dz,iF] at hc
       cases hp:bP B ⟨S.t,(S.n,.box T i.z)::S.e,S.n+1⟩ N d (.ptr S.n 0) with
       | none=>rw [hp] at h; cases h
       | some S2=>rw [hp] at h; cases h; exact akb aA H hi hc.1 hc.2 hp
   . cases h
 . rename_i T x;split at h
   . rename_i cs d aC;split at h
     . cases h
     . rename_i hc;simp only [vI,Dz,iF] at hc
       cases hp:bP B ⟨S.t,(S.n,.box T cs)::S.e,S.n+1⟩ N d (.ptr S.n 0) with
       | none=>rw [hp] at h; cases h
       | some S2=>rw [hp] at h; cases h; exact akc H aC hc hp
   . cases h
 . rename_i T ad x;split at h
   . rename_i i cs loc off hi aC hx;split at h
     . rename_i T' cells he;split at h
       . rename_i hc;simp only [au,b9,aI,iF] at hc;cases h;exact akd aA H hi aC hx he hc.1.1.1 hc.1.1.2 hc.1.2 hc.2
       . cases h
     . cases h
   . rename_i i cs t loc k off hi aC hx;split at h
     . rename_i fr t' T' l he;split at h
       . rename_i ht;subst ht;split at h
         . rename_i hc;simp only [au,b9,aI,iF] at hc;split at h
           . rename_i f e gR;split at h
             . rename_i BP;cases h;exact akZ aA H hi aC hx he hc.1.1.1 hc.1.1.2 hc.1.2 hc.2 gR (fun cK=>by rw [cK] at BP; simpa using BP)
             . cases h
           . cases h
         . cases h
       . cases h
     . cases h
   . cases h
 . rename_i T len parts;split at h
   . rename_i e sz b d hT;split at h
     . rename_i t ht;split at h
       . rename_i xs mJ;split at h
         . rename_i f es lS;split at h
           . rename_i hc;simp only [au,b9,aI,iF] at hc
             cases hp:bP B ⟨S.t,(S.n,.row f t e fun _=>es.map fun g=>g ())::S.e,S.n+1⟩ N d (.own S.n) with
             | none=>rw [hp] at h; cases h
             | some S2=>rw [hp] at h; cases h; exact akY aA H hT mJ lS hc.1.1.1 hc.1.1.2 hc.1.2 hc.2 hp
           . cases h
         . cases h
       . cases h
     . cases h
   . cases h
 . rename_i T l c;split at h
   . rename_i e sz b d hT;split at h
     . rename_i t ht;split at h
       . rename_i k0 kk k hl hk;split at h
         . rename_i hc;simp only [au,b9,iF] at hc
           cases hp:bP B ⟨S.t,(S.n,.row true t e fun _ => [])::S.e,S.n+1⟩ N d (.own S.n) with
           | none=>rw [hp] at h; cases h
           | some S2=>rw [hp] at h; cases h; exact akT aA H hT hl hk hc.1 hc.2 hp (hv _ (.head _))
         . cases h
       . rename_i k0 n kk k hl hk;split at h
         . rename_i ie zR;split at h
           . rename_i f x gR;split at h
             . rename_i hc;simp only [au,b9,iF,iG] at hc
               cases hp:bP B ⟨S.t,(S.n,.row f t e fun _=>List.replicate (n ()).toNat (x ()))::S.e,S.n+1⟩ N d (.own S.n) with
               | none=>rw [hp] at h; cases h
               | some S2=>rw [hp] at h; cases h; exact akU aA H hT hl hk zR gR hc.2 hc.1.1 hc.1.2 hp (hv _ (.head _))
             . cases h
           . cases h
         . cases h
       . cases h
     . cases h
   . cases h
 . rename_i T;split at h
   . rename_i kt et c t ag d hT;split at h
     . cases h
     . rename_i hc;simp only [vI,Dz,iF] at hc
       cases hp:bP B ⟨S.t,(S.n,.map true ag c t T fun _ _=>none)::S.e,S.n+1⟩ N d (.mp S.n) with
       | none=>rw [hp] at h; cases h
       | some S2=>rw [hp] at h; cases h; exact akr H hc hp
   . cases h
 . rename_i T x i v;split at h
   . rename_i kt et c t ag loc hT hx;split at h
     . rename_i fr jI c' t' T' m k he hk;split at h
       . rename_i hc;obtain⟨rfl,rfl,rfl⟩:=hc;split at h
         . rename_i f e gR;split at h
           . rename_i hb;simp only [au,iF] at hb;cases h;exact akt aA H hT hx he hk gR hb.1 hb.2
           . cases h
         . cases h
       . cases h
     . cases h
   . cases h
 . rename_i T x i;split at h
   . rename_i kt et c t ag loc d hT hx;split at h
     . rename_i fr jI c' t' T' m k he hk;split at h
       . rename_i hc;obtain⟨rfl,rfl,rfl⟩:=hc;split at h
         . rename_i hb;simp only [au,iF] at hb
           cases hp:bP B ⟨S.t,(S.n,.bq loc c' k)::(loc,.map fr jI c' t' T' fun _=>fl (m ()) (k ()) ((m () (k ())).getD t'.aa))::lA loc S.e,S.n+1⟩ N d (.aU [eD jI fr t' fun _=>(m () (k ())).getD t'.aa,.bq S.n]) with
           | none=>rw [hp] at h; cases h
           | some S2=>rw [hp] at h; cases h; exact aku aA H hT hx he hk hb.1.1 hb.1.2 hb.2 hp
         . cases h
       . cases h
     . cases h
   . cases h
 . rename_i T x s v;split at h
   . rename_i loc l2 hx hs;split at h
     . rename_i fr ag c t T' m ml c' key he qF;split at h
       . rename_i hc;obtain⟨rfl,rfl⟩:=hc;split at h
         . rename_i f e gR;split at h
           . rename_i hb;simp only [au,iF] at hb;cases h;exact akw H hx hs he qF gR hb.1 hb.2
           . cases h
         . cases h
       . cases h
     . cases h
   . cases h
 . rename_i c;obtain⟨callee,iY,oW⟩:=c;dsimp only at h;split at h
   . rename_i s x T T2 d Am rX;have ha:iY = #[s,x]:=by simpa using congrArg List.toArray Am
     have ht:oW = #[T,T2]:=by simpa using congrArg List.toArray rX
     subst ha; subst ht;split at h
     . rename_i Qj;have ak5:=eq_of_beq Qj;subst ak5;split at h
       . rename_i e sz b hT;split at h
         . rename_i loc hs;split at h
           . rename_i fr t e' l he;split at h
             . rename_i hc;simp only [au,b9,iF] at hc;obtain⟨⟨⟨⟨rfl,aN⟩,hB⟩,hq⟩,Qk⟩:=hc;split at h
               . rename_i f m hn;split at h
                 . cases h
                 . cases hp:bP B ⟨(kill loc S).t,(loc,.row (fr&&f) t e' fun _=>l ()++m ())::(kill loc S).e,S.n⟩ N d (.own loc) with
                   | none=>rw [hp] at h; cases h
                   | some S2=>rw [hp] at h; cases h; exact akm aA H hT hs he aN hB hq hn hp (hv _ (.head _)) (fun S0 hS=>by rw [iJ S0 hS]; simpa using Qk)
               . cases h
             . cases h
           . cases h
         . rename_i t0 loc a0 b0 hs;split at h
           . rename_i fr t e' l he;split at h
             . rename_i hc;simp only [au,b9,iF] at hc;obtain⟨⟨⟨⟨rfl,aN⟩,hB⟩,hq⟩,Qk⟩:=hc;split at h
               . rename_i f m hn
                 cases hp:bP B ⟨(kill loc S).t,(loc,.row (fr&&f) t e' fun _=>(l ()).take (b0 ())++m ())::(kill loc S).e,S.n⟩ N d (.own loc) with
                 | none=>rw [hp] at h; cases h
                 | some S2=>rw [hp] at h; cases h; exact akn aA H hT hs he aN hB hq hn hp (hv _ (.head _)) (hv _ (.tail _ (.head _))) (fun S0 hS=>by rw [iJ S0 hS]; simpa using Qk)
               . cases h
             . cases h
           . cases h
         . rename_i hs;split at h
           . rename_i t ht;split at h
             . rename_i hc;simp only [au,b9,iF] at hc;split at h
               . rename_i f m hn
                 cases hp:bP B ⟨S.t,(S.n,.row f t e m)::S.e,S.n+1⟩ N d (.own S.n) with
                 | none=>rw [hp] at h; cases h
                 | some S2=>rw [hp] at h; cases h; exact ako aA H hT hs hc.1 hc.2 hn hp (hv _ (.head _))
               . cases h
             . cases h
           . cases h
         . cases h
       . cases h
     . cases h
   . rename_i s x T T2 d Am rX;have ha:iY = #[s,x]:=by simpa using congrArg List.toArray Am
     have ht:oW = #[T,T2]:=by simpa using congrArg List.toArray rX
     subst ha; subst ht;exact akX aA H h
   . cases h
 . cases h
structure Y4 (J:Nat->(Nat->Prop)->(Nat->Prop)->World->Prop):Prop where
 oa:∀ p O R W b,J p O R W->R b\/O b->b<W.heap.size
 yd:∀ p O R (W W':World),J p O R W->W'.os=W.os->W'.tape=W.tape->W'.output=W.output->W.heap.size<=W'.heap.size->(∀ b,R b\/O b->W'.heap[b]? = W.heap[b]?)->J p O R W'
structure Ql (O O' R R' rr:Nat->Prop) (W W':World):Prop where
 os:W'.os=W.os
 tape:W'.tape=W.tape
 output:W'.output=W.output
 size:W.heap.size<=W'.heap.size
 jA:∀ b,b<W.heap.size->¬ O b->W'.heap[b]? = W.heap[b]?
 own:∀ b,O' b->O b\/W.heap.size<=b
 jK:∀ b,R' b->R b\/rr b\/W.heap.size<=b
def pT(P:Program)(c:It):Prop:=(∀ args w,(callFunc c.f args).run P w = .ok (.enter c.f args) w) /\
 ∀ ai res,c.go ai=some res->∀ (w) (ra) (dt) (l) (J) (O R),Y4 J->(∀ b,ra b->b<w.heap.size/\¬ O b)->aQ w (fun _=>none) 0 ra ai dt->res.pre ()->J 1 O R w ->
  (∀ p O R W args rr,J (p+1) O R W->p<res.n ()->aQ W (fun _=>none) 0 rr (res.el fun _=>p) args->(∀ b,rr b->b<W.heap.size/\¬ O b/\(b<w.heap.size->ra b))->YieldAt Fence.wide 0 P l args.toArray W fun e W'=>∃ ok O' R',e = .returned (.bool ok)/\J (cond ok (p+2) 0) O' R' W'/\Ql O O' R R' rr W W') ->
  CallsIn Fence.wide 0 P c.f (#[.func (.yield l) #[] #[]]++dt.toArray) w fun e w'=>(∃ v,e = .returned v)/\∃ O R,J (res.n ()+1) O R w'\/J 0 O R w'
structure mK (P:Program) (C:Cx) (w0:World) (Φ : Pm->Prop):Prop where
 cs:∀ c∈C.cs,aK P c
 fs:∀ c∈C.fs,gp P c
 lY:∀ c∈C.lY,pT P c
 dm:∀ S0 S1,Φ S0 -> Φ S1->∀ l r,S1.pl l=some r->(r.dC||S1.fx)=true->∃ r',S0.pl l=some r'/\(r'.dC||S0.fx)=true
 yl:∀ y,C.yl=some y->∀ S0,Φ S0->(∀ b,S0.ex b)/\∃ p,(S0.pl=fun l=>if l=0 then some (.bq p) else none)/\∀ W args rr,S0.inv W->0<p->p<=y.n ()->aQ W (fun _=>none) 0 rr (y.el fun _=>p - 1) args->(∀ b,rr b->b<W.heap.size/\¬ S0.own b/\(b<w0.heap.size->S0.rd b))->YieldAt Fence.wide 0 P (y.l ()) args.toArray W fun e W'=>∃ ok S1,e = .returned (.bool ok) /\ Φ S1/\S1.rd=S0.rd/\S1.fx=S0.fx/\S1.ds=S0.ds/\S1.fm=S0.fm/\(S1.pl=fun l=>if l=0 then some (.bq (cond ok (p+1) 0)) else none)/\S1.inv W'/\Ql S0.own S1.own S0.jK S1.jK rr W W'
 fx:∀ S0,Φ S0->S0.fx=C.fx
 pl:∀ S0,Φ S0->∀ l r,S0.pl l=some r->l<C.nb
theorem Y5{cs:List fk}{c:fk}(aC:∀ c∈cs,gp P c)(h:zV cs f=some c):gp P c/\c.f=f:=by
 induction cs with
 | nil=>cases h
 | cons c' cs ih =>
  unfold zV at h;exact XG
theorem Y6(aC:mK P C w0 Φ)(hS : Φ S0)(H:bh w0 S0 N B S a w ρ ro){dst:Option Nat}{op:Op}{dt:List Value}(h:EK C N B S ⟨dst,op,ty,pos,aft,gd⟩ f xs=some (S',vcs))(hv:∀ c∈vcs,c ())(hE:aQ w ρ w0.heap.size ro xs dt)(cB:(∀ args w,(callFunc f args).run P w = .ok (.enter f args) w)->(execOp a.eval ⟨dst,op,ty,pos,aft,gd⟩).run P w = .ok (.enter f dt.toArray) w):gq P ⟨dst,op,ty,pos,aft,gd⟩ a w (aP w0 Φ N B S'):=by
 unfold EK at h;dsimp only at h;split at h
 . rename_i fo ED;split at h
   . rename_i ai st uA;split at h
     . rename_i res qx;split at h
       . rename_i hc;simp only [au,b9] at hc;obtain⟨⟨⟨⟨hlen,Ah⟩,cr⟩,pO⟩,Qm⟩:=hc;obtain⟨bS,rfl⟩:=Y5 aC.fs ED;have Qn:S0.fx=true->fo.fix=true:=fun h=>by rw [aC.fx S0 hS] at h; simpa [h] using Qm
         split at h
         . rename_i d
           cases hp:bP B ⟨(forget fo.fix st.aD S).t,kA (iZ st.aD S.n) res.es++(forget fo.fix st.aD S).e,S.n+(ni fo.n (dI res.es) - fo.n)⟩ N d (AV.fU (iZ st.aD S.n) res.av) with
           | none=>rw [hp] at h; cases h
           | some S2 =>
            rw [hp] at h;cases h;have jm:=hv _ (.head _);obtain⟨Qo,Am⟩:=PZ (fun l e he=>H.en l e he) _ _ _ _ _ _ uA hE;have iM:=Qo.nodup VA;have E6:∀ l∈st.aD,∃ r,ρ l=some r:=fun l hl=>(Qo.some_ l hl).resolve_left (by simp);have s7:=bS.2 ai st.es res qx w (ρL ρ st.aD) ro dt H.gn (Am st.aD ⟨[],by simp⟩) (fun l e he=>(Qo.en st.aD ⟨[],by simp⟩ l e he).resolve_left (by simp [ak])) (fun l l' r r' b aT h1 h2 h3 h4=>by
             obtain⟨x,hx,Qp⟩ := uH h1;obtain⟨y,hy,Ff⟩ := uH h2;refine H.apart x y r r' b (fun e=>aT ?_) Qp Ff h3 h4;subst e;exact (List.getElem?_inj (cM.1 hx).1 iM).1 (hx.trans hy.symm)) (fun l hl=>by unfold ρL; rw [sA oo]) (fun l r b h1 h2=>by
             obtain⟨x,hx,Qp⟩ := uH h1;have:=H.own x r b Qp h2;exact⟨this.1,this.2.1⟩) jm
            refine .inr (.inr (.inl ⟨_,_,cB bS.1,s7.mono fun e w' hq => ?_⟩));obtain⟨v,ρ1,eV,rfl,hL,hr⟩:=hq;obtain⟨ρ',H2,Qq⟩:=H.called hlen iM E6 Ah cr pO Qn hL;exact⟨v,rfl,S0,hS,ρ',_,H2.put hp ((hr.fU Qq).mono (fun _ _ _=>rfl) (Ext.refl _) H.from_.size fun b hb => .inr hb)⟩
         . cases h
       . cases h
     . cases h
   . cases h
 . cases h
theorem ak6(aC:mK P C w0 Φ)(H:aP w0 Φ N B S a w)(h:Cc C N B S o=some (S',vcs))(hv:∀ c∈vcs,c ()):gq P o a w (aP w0 Φ N B S'):=by
 obtain⟨dst,op,ty,pos,aft,gd⟩:=o;obtain⟨S0,hS,ρ,ro,H⟩:=H;unfold Cc at h;dsimp only at h;split at h
 . rename_i c;obtain⟨callee,iY,oW⟩:=c;dsimp only at h;split at h
   . rename_i f;refine Y6 aC hS H h hv (wg (h:=a.eval) fun x _=>H.get x) fun oP => ?_;have:=EB (P:=P) (r:=a.eval) (d:=dst) (ty:=ty) (pos:=pos) (aft:=aft) (gd:=gd) (w:=w) (c := .func f) (xs:=iY) (ts:=oW) (vs := []) (F:=f) rfl oP;simpa using this
   . rename_i x _;split at h
     . split at h
       . rename_i f dw hg;have hx:=H.get x;rw [hg] at hx;obtain⟨vs,hvx,hE⟩:=hx.Eu
         . refine Y6 aC hS H h hv ((wg (h:=a.eval) fun x _=>H.get x).append hE) fun oP => ?_;exact EB hvx oP
       . cases h
     . cases h
   . cases h
 . cases h
theorem Qr(t)(x):AV.uE (aO true t x)=true:=by cases t<;>rfl
theorem An:∀ {l:List AV} {j:Nat} {x:AV},AV.uE l=true->l[j]? = some x->AV.pM x=true
 | y::l,0,x,h,hx=>by
  simp only [oH,bI] at hx;subst hx;simp only [AV.uE,au] at h;exact h.1
 | y::l,j+1,x,h,hx=>by
  simp only [AV.uE,au] at h;exact An h.2 (by simpa using hx)
 | [],j,x,_,hx=>by simp at hx
theorem ak8(ag)(t)(x):AV.pM (eD ag true t x)=true:=by
 unfold eD;have h:=Qr t x
 cases ag with
 | true=>exact h
 | false =>
  simp only [dS,dB]
  cases hc:aO true t x with
  | nil=>rfl
  | cons c l =>
   rw [hc] at h
   cases l with
   | nil=>simpa [AV.uE] using h
   | cons c2 l=>rfl
theorem ah.Cs(h:ah w ρ base ro x v)(hx:AV.pM x=true):ah w ρ base (fun b=>ro b/\base<=b) x v:=by
 induction h with
 | un=>exact .un _
 | fJ=>exact .fJ _
 | int=>exact .int _ _
 | lit=>exact .lit _ _
 | bool=>exact .bool _
 | aG=>exact .aG _
 | str=>exact .str _
 | nil=>exact .nil
 | sl fr t l A c css hl hc hr lr cK h ih =>
  have hf:fr=true:=by simpa [AV.pM] using hx
  subst hf;exact .sl true t l A c css hl hc hr (fun a ha hn=>⟨lr a ha hn,cK rfl a ha hn⟩) cK fun k cs j y v h1 h2 h3=>ih k cs j y v h1 h2 h3 (An (Qr _ _) h2)
 | wide fr t l n A c hn h ih=>exact .wide fr t l n A c hn (ih Kh)
 | bg cells off b o cs hr aj hl hc h ih=>cases hx
 | ptr l off b h=>exact .ptr _ _ _ h
 | fw l off n b h=>exact .fw _ _ _ _ h
 | own l A n c h=>exact .own _ _ _ _ h
 | cY t l k off A n c b h hA h0 hn=>exact .cY _ _ _ _ _ _ _ _ h hA h0 hn
 | cE t l a b A n c h bm=>exact .cE _ _ _ _ _ _ _ h bm
 | mp l b h=>exact .mp _ _ h
 | bq l b h=>exact .bq _ _ h
 | it l l2 b h=>exact .it _ _ _ h
 | agg l vs hl h ih=>exact .agg _ _ hl fun j y v h1 h2=>ih j y v h1 h2 (An Kh h1)
 | aU l vs hl h ih=>exact .aU _ _ hl fun j y v h1 h2=>ih j y v h1 h2 (An Kh h1)
 | fn f dw vs hl h ih=>exact .fn _ _ _ hl fun j y v h1 h2=>ih j y v h1 h2 (An Kh h1)
theorem c7.Cs{l:Nat}{e:En}(h:c7 w ρ base ro l e)(hx:En.pM e=true):c7 w ρ base (fun b=>ro b/\base<=b) l e:=by
 cases e with
 | box T cells =>
  obtain⟨b,cs,h1,h4,h5⟩:=h;exact⟨b,cs,h1,h4,h5.1,fun j x v wi hv=>(h5.2 j x v wi hv).Cs (An (by simpa [En.pM] using hx) wi)⟩
 | row fr t T m =>
  obtain⟨A,c,css,h1,h2,h3,h5⟩:=h;have hf:fr=true:=by simpa [En.pM] using hx
  subst hf;exact⟨A,c,css,h1,h2,h3,fun k cs j x v k1 k2 k3=>(h5 k cs j x v k1 k2 k3).Cs (An (Qr _ _) k2)⟩
 | map fr ag c t T m =>
  obtain⟨b,es,clock,h1,h2,h3,h4⟩:=h;have hf:fr=true:=by simpa [En.pM] using hx
  subst hf;exact⟨b,es,clock,h1,h2,h3,h4.rQ fun x v hx=>hx.Cs (ak8 _ _ _)⟩
 | iter ml c seen left=>cases hx
 | bq ml c key=>cases hx
 | fh k=>cases hx
 | dead=>cases hx
theorem Y7:∀ {l:List (Nat×En)} {k:Nat} {e:En},Js l=true->ak l k=some e->En.pM e=true
 | (j,y)::l,k,e,h,he=>by
  unfold Js at h;simp only [au] at h;rw [cu] at he;split at he
  . cases he; exact h.1
  . exact Y7 h.2 he
 | [],_,_,_,he=>by cases he
theorem ak9(aC:mK P C w0 Φ)(H:aP w0 Φ N B S a w)(h:EL C N B S o=some (S',vcs))(hv:∀ c∈vcs,c ()):gq P o a w (aP w0 Φ N B S'):=by
 obtain⟨dst,op,ty,pos,aft,gd⟩:=o;unfold EL at h;dsimp only at h;split at h
 . rename_i c;obtain⟨callee,iY,oW⟩:=c;dsimp only at h;split at h
   . rename_i f;split at h
     . rename_i fo ED;split at h
       . rename_i ai uA;split at h
         . rename_i res qx;split at h
           . rename_i hc;simp only [au,b9] at hc;obtain⟨⟨⟨⟨uJ,PU⟩,aT⟩,pO⟩,Qm⟩:=hc;obtain⟨bS,rfl⟩:=Y5 aC.fs ED;obtain⟨S0,hS,ρ,ro,H⟩:=H;have Qn:S0.fx=true->fo.fix=true:=fun h=>by rw [aC.fx S0 hS] at h; simpa [h] using Qm
             split at h
             . rename_i d
               cases hp:bP B ⟨(forget fo.fix [] S).t,kA (iZ [] S.n) res.es++(forget fo.fix [] S).e,S.n+(ni 0 (dI res.es) - 0)⟩ N d (AV.fU (iZ [] S.n) res.av) with
               | none=>rw [hp] at h; cases h
               | some S2 =>
                rw [hp] at h;cases h;have jm:=hv _ (.head _);have hE:aQ w ρ w0.heap.size ro (iY.toList.map (bT B S)) (iY.toList.map a.eval):=wg fun x _=>H.get x;have Am:=wj (fun l e he=>H.en l e he) H.gn _ _ _ _ uA hE (.inr fun _ h=>h);have s7:=bS.2 ai [] res qx w (fun _=>none) (fun b=>b<w.heap.size) (iY.toList.map a.eval) (fun _ h=>h) Am (fun l e he=>by cases he) (fun _ _ _ _ _ _ h=>by cases h) (fun _ _=>rfl) (fun _ _ _ h=>by cases h) jm;have cB:(execOp a.eval ⟨some d,.call { callee := .value (.func fo.f),args:=iY,argTypes:=oW },ty,pos,aft,gd⟩).run P w = .ok (.enter fo.f (iY.toList.map a.eval).toArray) w:=by
                 have:=EB (P:=P) (r:=a.eval) (d:=some d) (ty:=ty) (pos:=pos) (aft:=aft) (gd:=gd) (w:=w) (c := .func fo.f) (xs:=iY) (ts:=oW) (vs := []) (F:=fo.f) rfl bS.1;simpa using this
                refine .inr (.inr (.inl ⟨_,_,cB,s7.mono fun e w' hq => ?_⟩));obtain⟨v,ρ1,eV,rfl,hL,hr⟩:=hq;have qJ:Left w w' (ρL ρ []) ρ1 ro (fun b=>eV b/\w.heap.size<=b) res.es fo.fix:=by
                 have e : ρL ρ []=fun _=>none:=funext fun k=>by unfold ρL; simp
                 rw [e];exact⟨hL.from_,fun l e he=>(hL.en l e he).Cs (Y7 aT he),hL.apart,hL.fresh,fun l r b h1 h2=>⟨(hL.own l r b h1 h2).1,fun h4=>(hL.own l r b h1 h2).2.1 h4.1,(hL.own l r b h1 h2).2.2⟩,fun b hb=>⟨(hL.rd b hb.1).1,fun h=>absurd hb.2 oo⟩,hL.dC⟩
                obtain⟨ρ',H2,Qq⟩:=H.called (aD := []) (n:=0) rfl VA (fun _ h=>by cases h) rfl rfl pO Qn qJ;exact⟨v,rfl,S0,hS,ρ',_,H2.put hp (((hr.Cs PU).fU Qq).mono (fun _ _ _=>rfl) (Ext.refl _) H.from_.size fun b hb => .inr hb)⟩
             . cases h
           . cases h
         . cases h
       . cases h
     . cases h
   . cases h
 . cases h
theorem Y8(aA:cS P C.ty)(aC:mK P C w0 Φ)(H:aP w0 Φ N B S a w)(h:Jy C N B S o=some (S',vcs))(hv:∀ c∈vcs,c ()):gq P o a w (aP w0 Φ N B S'):=by
 unfold Jy at h;split at h
 case h_2=>cases h
 rename_i av Ki ns;obtain⟨S0,hS,ρ,ro,H⟩:=H;obtain⟨dst,op,ty,pos,aft,gd⟩:=o;have ala:vcs=Ki:=by
  split at h
  . rename_i d hd
    cases hp:bP B S N d av with
    | none=>rw [hp] at h; cases h
    | some S2=>rw [hp] at h; cases h; rfl
  . cases h; rfl
 subst ala;have h1:=XJ (d:=dst) (ty:=ty) (pos:=pos) (aft:=aft) (gd:=gd) (r:=a.eval) aA aC.cs (fun l e he=>H.en l e he) (fun x _=>H.get x) H.gn H.from_.size ns hv;have fA:∀ v w',cU w w'->ah w' ρ w0.heap.size (fun b=>ro b\/w.heap.size<=b) av v->aP w0 Φ N B S' (a.put dst v) w':=by
  intro v w' hb er;have H2:=H.calm hb
  cases dst with
  | some d =>
   dsimp only at h
   cases hp:bP B S N d av with
   | none=>rw [hp] at h; cases h
   | some S2=>rw [hp] at h; cases h; exact⟨S0,hS,_,_,H2.put hp er.calm⟩
  | none =>
   cases h;exact⟨S0,hS,_,_,H2⟩
 rcases h1 with ⟨v,w',h2,h3,h4⟩|⟨f,args,h2,h3⟩
 . exact .inl ⟨v,w',h2,fA v w' h3 h4⟩
 . exact .inr (.inr (.inl ⟨f,args,h2,h3.mono fun e w' ⟨v,q1,q2,q3⟩=>⟨v,q1,fA v w' q2 q3⟩⟩))
theorem Y9(aA:cS P C.ty)(aC:mK P C w0 Φ)(H:aP w0 Φ N B S a w)(h:og C N B S o=some (S',vcs))(hv:∀ c∈vcs,c ()):gq P o a w (aP w0 Φ N B S'):=by
 unfold og at h;split at h
 . rename_i av Ki ns;exact Y8 aA aC H (by unfold Jy; rw [ns]; exact h) hv
 . split at h
   . rename_i r hm;cases h;have H1:aP w0 Φ N B (cond C.fx S (Ju C.nb B S o.op)) a w:=by
      cases hc:C.fx with
      | true=>exact H
      | false=>exact aj4 aC.pl (fun S0 hS=>by rw [aC.fx S0 hS,hc]) H _
     exact ak4 aC.fx aA H1 hm hv
   . split at h
     . rename_i r hm;cases h;exact ak6 aC H hm hv
     . split at h
       . rename_i r hm;cases h;exact ak9 aC H hm hv
       . unfold Jz at h;split at h
         . split at h
           . split at h
             . rename_i hc;simp only [au,iG] at hc;exact Y8 aA aC (zZ aC.pl (fun S0 hS=>by rw [aC.fx S0 hS,hc.2]) H) h hv
             . cases h
           . cases h
         . cases h
theorem Za:ah w ρ base ro (.aU []) undef := .aU [] [] rfl fun j x v h=>by simp at h
theorem Qs(H:aP w0 Φ N B S a w)(h:pQ N B S o=some S'):aP w0 Φ N B S' (a.put o.dst undef) w:=by
 obtain⟨S0,hS,ρ,ro,H⟩:=H;unfold pQ at h;split at h
 . rename_i d hd;rw [hd];exact⟨S0,hS,_,_,H.put h Za⟩
 . rename_i hd;rw [hd];cases h;exact⟨S0,hS,_,_,H⟩
theorem Fg:∀ {l:List VC},ob l->∀ c∈l,c ()
 | [],_,c,hc=>by cases hc
 | [c],h,c',hc=>by rw [kq] at hc; subst hc; exact h
 | c::d::l,h,c',hc=>by
  rcases fZ.1 hc with rfl|hc
  . exact h.1
  . exact Fg h.2 c' hc
theorem Zb(h:bP B S N d x=some S'):S'=⟨(d,x)::S.t,S.e,S.n⟩:=by
 unfold bP at h;split at h
 . cases h
 . cases h; rfl
theorem Qt{l:Nat}{e:En}:∀ {es:List (Nat×En)},EP es=true->ak es l=some e->En.under nz e=true
 | (k,e')::es,h,he=>by
  simp only [EP,au] at h;rw [cu] at he;split at he
  . cases he; exact h.1
  . exact Qt h.2 he
 | [],_,he=>by cases he
theorem ah.alb{l:Unit->Nat}(h:ah w ρ base ro (.fJ l) v):v = .func (.yield (l ())) #[] #[]:=by cases h; rfl
theorem alc(aC:mK P C w0 Φ)(H:aP w0 Φ N B S a w){c:Call}{x:Operand}{l k:Unit->Nat}{y:Yl}{S1:Sx}(hc:c.callee = .value x)(hx:bT B S x = .fJ l)(hy:C.yl=some y)(he:bc B S 0=some (.fh k))(hq:Pv B S=true)(hu:AV.mC (fun _=>false) (y.el fun _=>k () - 1)=true)(hE:sS none B S (c.args.toList.map (bT B S)) (y.el fun _=>k () - 1)=some vcs)(h1:bP B S N d (.aG true)=some S1)(h2:bP B S N d (.aG false)=some S2)(hv:∀ v∈vcs,v ())(hl:l ()=y.l ()/\0<k ()/\k ()<=y.n ())(yz:(K ⟨S1.t,(0,.fh fun _=>k ()+1)::S1.e,S1.n⟩).P)(yA:(K ⟨S2.t,(0,.fh fun _=>0)::S2.e,S2.n⟩).P):gq P ⟨some d,.call c,ty,pos,aft,gd⟩ a w fun a' w'=>∃ S',aP w0 Φ N B S' a' w'/\(K S').P:=by
 obtain⟨S0,hS,ρ,ro,H⟩:=H;have mG:a.eval x = .func (.yield (l ())) #[] #[]:=by
  have h:=H.get x;rw [hx] at h;exact h.alb
 obtain⟨hex,p,cO,hY⟩:=aC.yl y hy S0 hS;have h0 : ρ 0=some (.bq (k ())):=H.en _ _ he;have hp:k ()=p:=by
  have h:=H.dC 0 (.bq p) (by rw [cO]; rfl) rfl;rw [h0] at h;injection h with h;injection h
 unfold Pv at hq;simp only [au,iF] at hq;obtain⟨N9,hqS,hqB,hqe,hqE⟩:=hq;have Kj:=yv (ρ2:=fun _=>none) (ro2:=ro) (p:=fun _=>false) H ⟨fun _ _ _ h=>(by cases h),fun _ h=>h,fun _ _ _ h=>(by cases h),fun _ h _ _ _ _ _ _=>(by cases h)⟩ _ _ vcs (c.args.toList.map a.eval) hE hv (wg fun x _=>H.get x) hu;rw [hp] at Kj;obtain⟨fn,tmps,ag,bd,cB,alh⟩:=hY w _ ro H.from_.inv oo oo (Kj.mono (fun _ _ _=>rfl) (Ext.refl _) (cm _) fun _ h=>h) fun b hb=>⟨H.gn b hb,(H.eN b hb).2,(H.eN b hb).1⟩
 have o6:(execOp a.eval ⟨some d,.call c,ty,pos,aft,gd⟩).run P w = .ok (.round (y.l ()) fn tmps ag bd) w:=by
  rw [<- hl.1] at cB ⊢;obtain⟨callee,iY,oW⟩:=c;dsimp only at hc;subst hc;unfold execOp;generalize a.eval=r at mG cB ⊢;have e:(iY.toList.map r).toArray=iY.map r:=by rw [<- Array.toList_map]
  rw [e] at cB;simp [resolve,invoke,go_sem,mG,cB]
 have h0n:0<S.n:=by
  rcases zo S.n with h|h
  . have:=H.fresh 0 oo;rw [h0] at this;cases this
  . exact h
 refine .inr (.inr (.inr ⟨_,fn,tmps,ag,bd,o6,alh.mono fun e w' hq => ?_⟩));obtain⟨ok,T0,rfl,Ct,e1,e2,e3,e4,e5,e6,R⟩:=hq;refine⟨_,rfl,?_⟩;have hρ:∀ l' r,ρ l'=some r->nz l'=true->fe ρ 0 (.bq (cond ok (p+1) 0)) l'=some r:=fun l' r h2 h1=>by
  unfold fe;rw [ar (by rintro rfl; cases h1)];exact h2
 have fi:∀ l' r b,fe ρ 0 (.bq (cond ok (p+1) 0)) l'=some r->r.ca=some b->l'≠0 /\ ρ l'=some r:=fun l' r b h1 h2=>by
  unfold fe at h1;split at h1
  . cases h1; cases h2
  . rename_i aT; exact⟨aT,h1⟩
 have hw:∀ b,ro b->b<w.heap.size->w'.heap[b]? = w.heap[b]? := fun b hb aj=>R.jA b aj (H.eN b hb).2;have gi:∀ l' r b,ρ l'=some r->r.ca=some b->w'.heap[b]? = w.heap[b]? := fun l' r b q1 q2=>R.jA b (H.own l' r b q1 q2).1 fun h=>(H.own l' r b q1 q2).2.2.2 (S0.yc b h);have HS:bh w0 T0 N B ⟨S.t,(0,.fh fun _=>cond ok (p+1) 0)::S.e,S.n⟩ a w' (fe ρ 0 (.bq (cond ok (p+1) 0))) ro:=by
  refine⟨⟨R.os.trans H.from_.os,R.tape.trans H.from_.tape,R.output.trans H.from_.output,e8 H.from_.size R.size,fun k hk hn hx => ?_,e6⟩,H.size,by rw [e3]; exact H.defers,fun b hb=>iP (H.gn b hb) R.size,fun s x h => ?_,fun l' e h => ?_,fun l1 l2 r r' b aT k1 k2 k3 k4 => ?_,fun l' cp => ?_,fun l' r b k1 k2 => ?_,fun b hb=>⟨by rw [e1]; exact (H.eN b hb).1,fun ho => ?_⟩,fun l' r k1 k2 => ?_,H.jL,fun l' e h => ?_,by rw [e4]; exact H.fm⟩
  . exact absurd ((aC.yl y hy T0 Ct).1 k) hx
  . obtain⟨u,q1,q2⟩:=H.tm s x h;refine⟨u,q1,(q2.yw ?_ hρ).mono hw (Ext.refl _) (az _) fun _ h=>h⟩;unfold dH at h;split at h
    . rename_i z hz;cases h;exact Kf hqS hz
    . exact Kf hqB h
  . unfold bc at h;rw [cu] at h;by_cases kZ:0=l'
    . rw [aw kZ] at h;cases h;subst kZ;exact iL _ _ _
    . rw [ar kZ] at h;have hnz:nz l'=true:=by
       unfold nz;simp only [iG,Na];exact fun e=>kZ e.symm
      have hue:En.under nz e=true:=by
       split at h
       . rename_i z hz;cases h;exact Qt hqe hz
       . exact Qt hqE h
      exact ((H.en l' e h).mono hw gi (Ext.refl _) fun _ h=>h).fixed hnz hue hρ
  . obtain⟨_,q1⟩:=fi l1 r b k1 k3;obtain⟨_,q2⟩:=fi l2 r' b k2 k4;exact H.apart l1 l2 r r' b aT q1 q2 k3 k4
  . unfold fe;rw [ar (by simp only at cp; omega)];exact H.fresh l' cp
  . obtain⟨q1,q2⟩:=fi l' r b k1 k2;have q3:=H.own l' r b q2 k2;refine⟨iP q3.1 R.size,q3.2.1,?_,fun hf => ?_⟩
    . rcases q3.2.2.1 with q4|⟨r0,q4,_⟩
      . exact .inl q4
      . rw [cO] at q4;dsimp only at q4;rw [if_neg q1] at q4;cases q4
    . rcases R.jK b hf with q4|q4|q4
      . exact q3.2.2.2 q4
      . exact q3.2.1 q4
      . omega
  . rcases R.own b ho with q4|q4
    . exact (H.eN b hb).2 q4
    . have:=H.gn b hb; omega
  . rw [e5] at k1;dsimp only at k1;split at k1
    . rename_i h;subst h;rw [iL];exact k1
    . cases k1
  . rw [cu,ar (by rintro rfl; rw [N9] at h; cases h)];exact H.jM l' e h
 rw [hp] at yz;have q1:=Zb h1;have q2:=Zb h2;subst q1; subst q2
 cases ok with
 | true=>exact⟨_,⟨T0,Ct,_,_,HS.put (JY h1) (.aG true)⟩,yz⟩
 | false=>exact⟨_,⟨T0,Ct,_,_,HS.put (JY h2) (.aG false)⟩,yA⟩
theorem Zc(aA:cS P C.ty)(aC:mK P C w0 Φ)(H:aP w0 Φ N B S a w){f:(Sx->Fm)->Fm}(h:mE C N B S o=some f)(hK:(f K).P):gq P o a w fun a' w'=>∃ S',aP w0 Φ N B S' a' w'/\(K S').P:=by
 obtain⟨dst,op,ty,pos,aft,gd⟩:=o;unfold mE at h;dsimp only at h;split at h
 . rename_i T x;split at h
   . rename_i kt et c t ag loc d hT hx;split at h
     . rename_i fr jI c' t' T' m he;split at h
       . rename_i S' hb hp;cases h;simp only [iF] at hb;exact akA aA H hT hx he hb hp hK
       . cases h
     . cases h
   . cases h
 . rename_i x;split at h
   . rename_i loc l2 d hx;split at h
     . rename_i fr ag c t T m ml c' seen left he hi;split at h
       . rename_i hc;obtain⟨rfl,rfl,hb⟩:=hc;simp only [iF] at hb;split at h
         . rename_i S1 S2 kf jO;cases h;exact akD H hx he hi hb kf jO hK
         . cases h
       . cases h
     . cases h
   . cases h
 . rename_i c;split at h
   . rename_i x hc;split at h
     . rename_i l y k d hx hy he;split at h
       . rename_i vcs S1 S2 hq hE h1 h2;cases h;simp only [au] at hq;obtain⟨hv,yz,yA⟩:=hK;have hv:=Fg hv;exact alc aC H hc hx hy he hq.1 hq.2 hE h1 h2 (fun v hv'=>hv v (.tail _ hv')) (hv _ (.head _)) yz yA
       . cases h
     . cases h
   . cases h
 . cases h
end
section
variable{P:Program}{w w' w0:World}{ρ ρ':Nat->Option Rl}{base:Nat}{ro ro':Nat->Prop}{S0:Pm}{Φ : Pm->Prop}{N:Nat}{B:Bs}{S:Sx}{a a0:Act}{C:Cx}{Q:Exit->Act->World->Prop}
theorem alm(h:a.tmps[d]? = some v):a.put (some d) v=a:=by
 unfold Act.put;have aj:=(jz.1 h).1;have:a.tmps.setIfInBounds d v=a.tmps:=by
  apply Array.ext_getElem?;intro i;rw [Hz];split
  . rename_i e;subst e;rw [h]
  . rfl
 simp only [this]
theorem Ao(h:n9 B S d=x)(hx:x ≠ .un):dH B S d=some x:=by
 unfold n9 at h
 cases hl:dH B S d with
 | none=>rw [hl] at h; exact absurd h.symm hx
 | some y =>
  rw [hl] at h;have h':y=x:=h;rw [h']
theorem aP.aln(H:aP w0 Φ N B S a w){c:Unit->Bool}(hd:n9 B S d = .bool c)(hp:bP B S N d (.aG (c ()))=some S'):a.tmps[d]? = some (.bool (c ()))/\aP w0 Φ N B S' a w:=by
 obtain⟨S0,hS,ρ,ro,H⟩:=H;obtain⟨u,h1,h2⟩:=H.tm d _ (Ao hd (by simp));have h3:=h2.oR;subst h3;refine⟨h1,S0,hS,ρ,ro,?_⟩;have H2:=H.put hp (.aG (c ()));rwa [alm h1] at H2
inductive pU (B:Bs) (N:Nat) (l:List Oper) (S:Sx) (o:Oper):Bool->Sx->Prop
 | free (h:o.guard=none):pU B N l S o true S
 | lit (j d:Nat) (b c:Bool) (oj:Oper) (h:o.guard=some (j,b)) (hj:l[j]? = some oj) (hd:oj.dst=some d) (hc:n9 B S d = .aG c):pU B N l S o (c==b) S
 | gone (j d:Nat) (b:Bool) (oj:Oper) (h:o.guard=some (j,b)) (hj:l[j]? = some oj) (hd:oj.dst=some d) (hc:n9 B S d = .aU []):pU B N l S o false S
 | ask (j d:Nat) (b:Bool) (c:Unit->Bool) (oj:Oper) (S':Sx) (h:o.guard=some (j,b)) (hj:l[j]? = some oj) (hd:oj.dst=some d) (hc:n9 B S d = .bool c) (hp:bP B S N d (.aG (c ()))=some S'):pU B N l S o (c ()==b) S'
theorem Zd(h:o.guard=some (j,b))(hj:l[j]? = some oj)(hd:oj.dst=some d)(hu:a.tmps[d]? = some undef):Region.wanted o (yielded l.toArray a.tmps)=false:=by
 have h1:yielded l.toArray a.tmps j=none:=by
  unfold yielded;have h2:((l.toArray[j]?).bind (·.dst)).bind (a.tmps[·]?)=some undef:=by simp [hj,hd,hu]
  rw [h2];rfl
 unfold Region.wanted;rw [h];simp only [h1];rfl
theorem Ze(h:ah w ρ base ro (.aU []) v):v=undef:=by
 obtain⟨vs,rfl,hE⟩:=h.I1;rw [hE.none];rfl
theorem pU.seq(h:pU B N l S o r S')(H:aP w0 Φ N B S a w):Region.wanted o (yielded l.toArray a.tmps)=r/\aP w0 Φ N B S' a w:=by
 cases h with
 | free h=>exact⟨VU h _,H⟩
 | lit j d b c oj h hj hd hc =>
  obtain⟨S0,hS,ρ,ro,HR⟩:=H;obtain⟨u,h1,h2⟩:=HR.tm d _ (Ao hc (by simp));rw [h2.pH] at h1;exact⟨Ij h (by simpa using hj) hd h1 rfl,S0,hS,ρ,ro,HR⟩
 | gone j d b oj h hj hd hc =>
  obtain⟨S0,hS,ρ,ro,HR⟩:=H;obtain⟨u,h1,h2⟩:=HR.tm d _ (Ao hc (by simp));rw [Ze h2] at h1;exact⟨Zd h hj hd h1,S0,hS,ρ,ro,HR⟩
 | ask j d b c oj S' h hj hd hc hp =>
  obtain⟨h1,h2⟩:=H.aln hc hp;exact⟨Ij h (by simpa using hj) hd h1 rfl,h2⟩
theorem Kk{k:Sx->Fm}(h:(ch C N B l (o::rest) S k).P):∃ r S1,pU B N l S o r S1 /\
 (r=true/\((∃ S2 vcs,og C N B S1 o=some (S2,vcs)/\(∀ c∈vcs,c ())/\(ch C N B l rest S2 k).P)\/∃ f,mE C N B S1 o=some f/\(f fun S'=>ch C N B l rest S' k).P)\/r=false/\∃ S2,pQ N B S1 o=some S2/\(ch C N B l rest S2 k).P):=by
 have jk:∀ S1,(match mE C N B S1 o with
  | some f=>f fun S'=>ch C N B l rest S' k
  | none=>match og C N B S1 o with
   | some (S',[])=>ch C N B l rest S' k
   | some (S',vcs) => .vc vcs (ch C N B l rest S' k)
   | none => .ff (1000+rest.length):Fm).P->(∃ S2 vcs,og C N B S1 o=some (S2,vcs)/\(∀ c∈vcs,c ())/\(ch C N B l rest S2 k).P)\/∃ f,mE C N B S1 o=some f/\(f fun S'=>ch C N B l rest S' k).P:=by
  intro S1 h
  cases uk:mE C N B S1 o with
  | some f =>
   rw [uk] at h;exact .inr ⟨f,rfl,h⟩
  | none =>
   rw [uk] at h;dsimp only at h;left;split at h
   . rename_i S2 hs;exact⟨S2,[],hs,(fun c hc=>by cases hc),h⟩
   . rename_i S2 vcs _ hs;exact⟨S2,vcs,hs,Fg h.1,h.2⟩
   . exact h.elim
 have jl:∀ S1,(match pQ N B S1 o with
  | some S'=>ch C N B l rest S' k
  | none => .ff 3:Fm).P->∃ S2,pQ N B S1 o=some S2/\(ch C N B l rest S2 k).P:=by
  intro S1 h;split at h
  . rename_i S2 hs;exact⟨S2,hs,h⟩
  . exact h.elim
 unfold ch at h;dsimp only at h;split at h
 . rename_i hw;unfold od at hw;split at hw
   . rename_i hg;exact⟨true,S,.free hg,.inl ⟨rfl,jk S h⟩⟩
   . rename_i j b hg;split at hw
     . rename_i d hd;obtain⟨oj,eo,gC⟩:=lK.1 hd;split at hw
       . rename_i c hc;split at hw
         . rename_i sZ;exact⟨_,S,.lit j d b c oj hg eo gC hc,.inl ⟨by rw [sZ]; simp,jk S h⟩⟩
         . cases hw
       . cases hw
       . cases hw
       . cases hw
     . cases hw
 . rename_i hw;unfold od at hw;split at hw
   . cases hw
   . rename_i j b hg;split at hw
     . rename_i d hd;obtain⟨oj,eo,gC⟩:=lK.1 hd;split at hw
       . rename_i c hc;split at hw
         . cases hw
         . rename_i sZ;exact⟨_,S,.lit j d b c oj hg eo gC hc,.inr ⟨by simpa using sZ,jl S h⟩⟩
       . cases hw
       . rename_i hc;exact⟨false,S,.gone j d b oj hg eo gC hc,.inr ⟨rfl,jl S h⟩⟩
       . cases hw
     . cases hw
 . rename_i d c b hw;unfold od at hw;split at hw
   . cases hw
   . rename_i j b' hg;split at hw
     . rename_i d' hd;obtain⟨oj,eo,gC⟩:=lK.1 hd;split at hw
       . split at hw<;>cases hw
       . rename_i c' hc;injection hw with e1 e2 e3;subst e1; subst e2; subst e3;split at h
         . rename_i S1 S2 h1 h2;have lq:∀ S',bP B S N d' (.aG (c' ()))=some S'->pU B N l S o (c' ()==b') S':=fun S' hp => .ask j d' b' c' oj S' hg eo gC hc hp;obtain⟨ht,hf⟩:=h
           cases uL:c' () with
           | true =>
            rw [uL] at lq;refine⟨_,S1,lq S1 h1,?_⟩;have h3:=ht uL
            cases b' with
            | true=>exact .inl ⟨rfl,jk S1 h3⟩
            | false=>exact .inr ⟨rfl,jl S1 h3⟩
           | false =>
            rw [uL] at lq;refine⟨_,S2,lq S2 h2,?_⟩;have h3:=hf uL
            cases b' with
            | true=>exact .inr ⟨rfl,jl S2 h3⟩
            | false=>exact .inl ⟨rfl,jk S2 h3⟩
         . exact h.elim
       . cases hw
       . cases hw
     . cases hw
 . exact h.elim
theorem Fh(aA:cS P C.ty)(aC:mK P C w0 Φ){l:List Oper}{k:Sx->Fm}(hk:∀ S' a' w',aP w0 Φ N B S' a' w'->(k S').P->Q .normal a' w'):∀ {rest:List Oper} {S:Sx} {a:Act} {w:World},(ch C N B l rest S k).P->aP w0 Φ N B S a w->wpListIn Fence.wide 0 P l.toArray Q rest a w
 | [],S,a,w,h,H=>hk S a w H h
 | o::rest,S,a,w,h,H=>by
  obtain⟨r,S1,lq,Ap⟩:=Kk h;obtain⟨hw,H1⟩:=lq.seq H;unfold wpListIn;rcases Ap with ⟨rfl,⟨S2,vcs,hs,hv,h2⟩|⟨f,hs,h2⟩⟩|⟨rfl,S2,hs,h2⟩
  . rw [aw hw];exact (Y9 aA aC H1 hs hv).wp fun a' w' H2=>Fh aA aC hk h2 H2
  . rw [aw hw];exact (Zc aA aC H1 hs h2).wp fun a' w' ⟨S',H2,h3⟩=>Fh aA aC hk h3 H2
  . rw [ar (by rw [hw]; simp)];exact⟨fun _ _=>trivial,Fh aA aC hk h2 (Qs H1 hs)⟩
/- a region XZ axB lY order -/
inductive Path (C:Cx) (N:Nat) (B:Bs) (l:List Oper):Sx->List Oper->List (Option AV)->Sx->Prop
 | nil (S0:Sx):Path C N B l S0 [] [] S0
 | go {S0 S1 S2 S':Sx} {o:Oper} {rest:List Oper} {av:AV} {vcs:List VC} {ai:List (Option AV)} {d:Nat} (hw:pU B N l S0 o true S1) (hp:nX C.ty C.cs (bc B S1) (bT B S1) o.op=some (av,vcs)) (hv:∀ c∈vcs,c ()) (hd:o.dst=some d) (gH:bP B S1 N d av=some S2) (h:Path C N B l S2 rest ai S'):Path C N B l S0 (o::rest) (some av::ai) S'
 | no {S0 S1 S2 S':Sx} {o:Oper} {rest:List Oper} {ai:List (Option AV)} {d:Nat} (hw:pU B N l S0 o false S1) (hd:o.dst=some d) (gH:bP B S1 N d (.aU [])=some S2) (h:Path C N B l S2 rest ai S'):Path C N B l S0 (o::rest) (none::ai) S'
theorem Zf(h:kD (cb C) o.op=true):Jr C N B S o=none:=by
 obtain⟨dst,op,ty,pos,aft,gd⟩:=o;cases op<;>first|rfl|(cases h; done)|skip
 rename_i c;obtain⟨callee,iY,oW⟩:=c
 cases callee with
 | value f=>rfl
 | invoke r m=>rfl
 | builtin b=>cases b<;>first|rfl|cases h
theorem Qu{f:Nat}:∀ {cs:List fk},bF f (jo cs)=false->zV cs f=none
 | [],_=>rfl
 | c::cs,h=>by
  have h':(c.f==f)=false/\bF f (jo cs)=false:=by
   unfold jo at h
   cases hb:O5 c.sig with
   | true =>
    rw [hb] at h;simp only [eG,bF,jZ] at h;exact h.2
   | false =>
    rw [hb] at h;simp only [fG,bF,jZ] at h;exact h
  unfold zV;rw [ar (by rw [h'.1]; simp)];exact Qu h'.2
theorem Qv{f:Nat}(h:bF f (cb C)=false):bF f (jo C.fs)=false:=by
 unfold cb at h;split at h
 . simp only [bF,jZ] at h;exact h.2
 . exact h
theorem Zg(h:kD (cb C) o.op=true):Cc C N B S o=none:=by
 obtain⟨dst,op,ty,pos,aft,gd⟩:=o;cases op<;>first|rfl|skip
 rename_i c;obtain⟨callee,iY,oW⟩:=c
 cases callee with
 | value x =>
  cases x with
  | func f =>
   have hm:bF f (cb C)=false:=by simpa [kD] using h
   unfold Cc;dsimp only;unfold EK;rw [Qu (Qv hm)]
  | tmp d =>
   exact Qw
  | const v =>
   exact Qw
  | global g =>
   exact Qw
 | invoke r m=>rfl
 | builtin b=>rfl
theorem Zh(h:kD (cb C) o.op=true):EL C N B S o=none:=by
 obtain⟨dst,op,ty,pos,aft,gd⟩:=o;cases op<;>first|rfl|skip
 rename_i c;obtain⟨callee,iY,oW⟩:=c
 cases callee with
 | value x =>
  cases x with
  | func f =>
   have hm:bF f (cb C)=false:=by simpa [kD] using h
   unfold EL;dsimp only;rw [Qu (Qv hm)]
  | tmp d=>rfl
  | const v=>rfl
  | global g=>rfl
 | invoke r m=>rfl
 | builtin b=>rfl
theorem Zi(h:kD (cb C) o.op=true):Jz C N B S o=none:=by
 obtain⟨dst,op,ty,pos,aft,gd⟩:=o;unfold Jz;cases op<;>first|rfl|skip
 rename_i c;obtain⟨callee,iY,oW⟩:=c;cases callee<;>first|rfl|skip
 rename_i v;cases v<;>first|rfl|skip
 rename_i f;have hf:bF f (cb C)=false:=by simpa [kD] using h
 simp only [hf,vJ]
theorem Zj(h:kD (cb C) o.op=true):mE C N B S o=none:=by
 obtain⟨dst,op,ty,pos,aft,gd⟩:=o;cases op<;>first|rfl|(cases h; done)|skip
 rename_i c;obtain⟨callee,iY,oW⟩:=c;cases callee<;>first|rfl|skip
 rename_i x;unfold mE;dsimp only
 cases hy:C.yl with
 | none=>cases bT B S x<;>rfl
 | some y =>
  have he:cb C=999999999::jo C.fs:=by unfold cb; rw [hy]
  cases x with
  | func f=>rfl
  | tmp d=>simp [kD,he,bF] at h
  | const v=>simp [kD,he,bF] at h
  | global g=>simp [kD,he,bF] at h
theorem Qx{l:List Oper}{k:Sx->Fm}:∀ {pre tail:List Oper} {S:Sx},(∀ o∈pre,kD (cb C) o.op=true/\∃ d,o.dst=some d)->(ch C N B l (pre++tail) S k).P->∃ ai S',Path C N B l S pre ai S'/\(ch C N B l tail S' k).P
 | [],tail,S,_,h=>⟨[],S,.nil S,h⟩
 | o::pre,tail,S,hp,h=>by
  obtain⟨r,S1,lq,Ap⟩:=Kk h;obtain⟨ns,d,hd⟩:=hp o (.head _);have cf:∀ o∈pre,kD (cb C) o.op=true/\∃ d,o.dst=some d:=fun o ho=>hp o (.tail _ ho);rcases Ap with ⟨rfl,⟨S2,vcs,hs,hv,h2⟩|⟨f,hs,h2⟩⟩|⟨rfl,S2,hs,h2⟩
  rotate_left
  . rw [Zj ns] at hs;cases hs
  rotate_left
  . unfold og at hs;split at hs
    . rename_i av Ki uM;rw [hd] at hs;dsimp only at hs
      cases gH:bP B S1 N d av with
      | none=>rw [gH] at hs; cases hs
      | some S3 =>
       rw [gH] at hs;cases hs;obtain⟨ai,S',h3,h4⟩:=Qx cf h2;exact⟨_,S',.go lq uM hv hd gH h3,h4⟩
    . rw [Zf ns] at hs;dsimp only at hs;rw [Zg ns] at hs;dsimp only at hs;rw [Zh ns] at hs;dsimp only at hs;rw [Zi ns] at hs;cases hs
  . unfold pQ at hs;rw [hd] at hs;obtain⟨ai,S',h3,h4⟩:=Qx cf h2;exact⟨_,S',.no lq hd hs h3,h4⟩
theorem Cu(h:bP B S N d x=some S'):S'.e=S.e/\S'.n=S.n/\∀ y,dH B S' s=some y->s=d/\y=x\/s≠d/\dH B S s=some y:=by
 unfold bP at h;split at h
 . cases h
 . cases h;refine⟨rfl,rfl,fun y hy => ?_⟩;unfold dH at hy ⊢;rw [cu] at hy;by_cases e:d=s
   . rw [aw e] at hy;injection hy with hy;exact .inl ⟨e.symm,hy.symm⟩
   . rw [ar e] at hy;exact .inr ⟨fun e'=>e e'.symm,hy⟩
def Claim(B:Bs)(l:List Oper)(a0:Act)(w:World)(ρ:Nat->Option Rl)(base:Nat)(ro:Nat->Prop)(L:Nat->Bool)(val:Nat->Value)(i:Nat)(S:Sx):Prop :=
 ∀ s x,dH B S s=some x->match qv l s i with
  | none=>∃ u,a0.tmps[s]? = some u/\ah w ρ base ro x u
  | some j=>L j=true->ah w ρ base ro x (val j)
theorem Claim.dec{val:Nat->Value}(h:Claim B l a0 w ρ base ro L val i S)(hd:pU B N l S o r S'):Claim B l a0 w ρ base ro L val i S'/\S'.e=S.e/\S'.n=S.n:=by
 cases hd with
 | free=>exact⟨h,rfl,rfl⟩
 | lit=>exact⟨h,rfl,rfl⟩
 | gone=>exact⟨h,rfl,rfl⟩
 | ask j d b c oj S' hg hj gC hc hp =>
  refine⟨fun s x hx => ?_,(Cu (s:=0) hp).1,(Cu (s:=0) hp).2.1⟩;rcases (Cu (s:=s) hp).2.2 x hx with ⟨rfl,rfl⟩|⟨_,h2⟩
  . have h3:=h s _ (Ao hc (by simp));split
    . rename_i Qy;rw [Qy] at h3;obtain⟨u,h4,h5⟩:=h3;exact⟨u,h4,by rw [h5.oR]; exact .aG _⟩
    . rename_i j' Qy;rw [Qy] at h3;intro hL;rw [(h3 hL).oR];exact .aG _
  . exact h s x h2
theorem Zk:qv l s (i+1)=if l[i]?.bind (·.dst)==some s then some i else qv l s i:=rfl
theorem Claim.put{val:Nat->Value}(h:Claim B l a0 w ρ base ro L val i S)(ho:l[i]? = some o)(hd:o.dst=some d)(hp:bP B S N d av=some S')(hv:L i=true->ah w ρ base ro av (val i)):Claim B l a0 w ρ base ro L val (i+1) S':=by
 intro s x hx;rw [Zk,ho];simp only [DH,hd];rcases (Cu (s:=s) hp).2.2 x hx with ⟨rfl,rfl⟩|⟨h1,h2⟩
 . rw [aw (by simp)];exact hv
 . rw [ar (by simpa using fun e=>h1 e.symm)];exact h s x h2
theorem Path.yB{l:List Oper}{L:Nat->Bool}{val:Nat->Value}:∀ {rest:List Oper} {S S':Sx} {ai:List (Option AV)} {i:Nat},Path C N B l S rest ai S'->(∀ j o,rest[j]? = some o->l[i+j]? = some o)->Claim B l a0 w ρ base ro L val i S->(∀ j av,ai[j]? = some (some av)->L (i+j)=true->ah w ρ base ro av (val (i+j)))->(∀ j,ai[j]? = some none->L (i+j)=true->val (i+j)=undef) ->
 (∀ m o,rest[m]? = some o->∃ S0 S1 r,Claim B l a0 w ρ base ro L val (i+m) S0/\Claim B l a0 w ρ base ro L val (i+m) S1/\S1.e=S.e/\pU B N l S0 o r S1/\((r=true/\∃ av vcs,ai[m]? = some (some av)/\nX C.ty C.cs (bc B S1) (bT B S1) o.op=some (av,vcs)/\∀ c∈vcs,c ())\/r=false/\ai[m]? = some none))/\Claim B l a0 w ρ base ro L val (i+rest.length) S'/\S'.e=S.e/\S'.n=S.n/\ai.length=rest.length
 | [],S,S',ai,i,h,_,hc,_,_=>by
  cases h;exact⟨fun m o hm=>by simp at hm,hc,rfl,rfl,rfl⟩
 | o::rest,S,S',ai,i,h,hl,hc,er,Qz=>by
  cases h with
  | @go _ S1 S2 _ _ _ av vcs ai d hw hp hv hd gH h =>
   obtain⟨gG,jN,jG⟩:=hc.dec hw;have ho:l[i]? = some o:=by simpa using hl 0 o rfl
   have s8:Claim B l a0 w ρ base ro L val (i+1) S2:=gG.put ho hd gH (fun hL=>by simpa using er 0 av rfl (by simpa using hL));obtain⟨q1,q2,q3,q4,q5⟩:=Path.yB (i:=i+1) h (fun j o' hj=>by rw [show i+1+j=i+(j+1) from oo]; exact hl (j+1) o' (by simpa using hj)) s8 (fun j mA hj hL=>by rw [show i+1+j=i+(j+1) from oo] at hL ⊢; exact er (j+1) mA (by simpa using hj) hL) (fun j hj hL=>by rw [show i+1+j=i+(j+1) from oo] at hL ⊢; exact Qz (j+1) (by simpa using hj) hL);have jO:=Cu (s:=0) gH;refine⟨fun m o' hm => ?_,by rw [c9,show i+(rest.length+1)=i+1+rest.length from oo]; exact q2,by rw [q3,jO.1,jN],by rw [q4,jO.2.1,jG],by simp [q5]⟩
   cases m with
   | zero =>
    simp only [oH,bI] at hm;subst hm;exact⟨S,S1,true,hc,gG,jN,hw,.inl ⟨rfl,av,vcs,rfl,hp,hv⟩⟩
   | succ m =>
    exact Zl
  | @no _ S1 S2 _ _ _ ai d hw hd gH h =>
   obtain⟨gG,jN,jG⟩:=hc.dec hw;have ho:l[i]? = some o:=by simpa using hl 0 o rfl
   have s8:Claim B l a0 w ρ base ro L val (i+1) S2:=gG.put ho hd gH (fun hL=>by rw [show val i=undef by simpa using Qz 0 rfl (by simpa using hL)]; exact Za);obtain⟨q1,q2,q3,q4,q5⟩:=Path.yB (i:=i+1) h (fun j o' hj=>by rw [show i+1+j=i+(j+1) from oo]; exact hl (j+1) o' (by simpa using hj)) s8 (fun j mA hj hL=>by rw [show i+1+j=i+(j+1) from oo] at hL ⊢; exact er (j+1) mA (by simpa using hj) hL) (fun j hj hL=>by rw [show i+1+j=i+(j+1) from oo] at hL ⊢; exact Qz (j+1) (by simpa using hj) hL);have jO:=Cu (s:=0) gH;refine⟨fun m o' hm => ?_,by rw [c9,show i+(rest.length+1)=i+1+rest.length from oo]; exact q2,by rw [q3,jO.1,jN],by rw [q4,jO.2.1,jG],by simp [q5]⟩
   cases m with
   | zero =>
    simp only [oH,bI] at hm;subst hm;exact⟨S,S1,false,hc,gG,jN,hw,.inr ⟨rfl,rfl⟩⟩
   | succ m =>
    exact Zl
theorem QA(h:bP B S N d x=some S')(hd:∀ d x,ak B.t d=some x->ak S.t d=none):∀ d x,ak B.t d=some x->ak S'.t d=none:=by
 unfold bP at h;split at h
 . cases h
 . rename_i hc;simp only [gz,zv,vI,Dz,iF] at hc;cases h;intro s y hy;rw [cu,ar (by rintro rfl; rw [hc.1] at hy; cases hy)];exact hd s y hy
theorem pU.kz(h:pU B N l S o r S')(hd:∀ d x,ak B.t d=some x->ak S.t d=none):∀ d x,ak B.t d=some x->ak S'.t d=none:=by
 cases h with
 | free=>exact hd
 | lit=>exact hd
 | gone=>exact hd
 | ask j d b c oj S2 hg hj gC hc hp=>exact QA hp hd
theorem Path.kz:∀ {rest:List Oper} {S S':Sx} {ai:List (Option AV)},Path C N B l S rest ai S'->(∀ d x,ak B.t d=some x->ak S.t d=none)->∀ d x,ak B.t d=some x->ak S'.t d=none:=by
 intro rest S S' ai h
 induction h with
 | nil=>exact id
 | go hw hp hv hd gH h ih =>
  intro eW;exact ih (QA gH (hw.kz eW))
 | no hw hd gH h ih =>
  intro eW;exact ih (QA gH (hw.kz eW))
theorem alo(h:bP B S N d x=some S'):ak B.t d=none:=by
 unfold bP at h;split at h
 . cases h
 . rename_i hc;simp only [gz,zv,vI,Dz,iF] at hc;exact hc.1
theorem Path.noB{ai:List (Option AV)}(h:Path C N B l S rest ai S'):∀ o∈rest,∀ d,o.dst=some d->ak B.t d=none:=by
 induction h with
 | nil=>intro o ho; cases ho
 | go hw hp hv hd gH h ih =>
  exact Zm
 | no hw hd gH h ih =>
  exact Zm
end
end Go.Proofs.YtlpikgchnjajmaaGreat
