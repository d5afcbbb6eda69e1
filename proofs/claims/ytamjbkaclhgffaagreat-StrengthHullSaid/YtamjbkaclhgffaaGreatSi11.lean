/-
  The abstract run: every operation that it takes is sound.
-/
import Derived.Test.YtamjbkaclhgffaaGreatSi10
set_option linter.all false
namespace Go.Proofs.YtamjbkaclhgffaaGreat
open Go.RowKit
variable{av x:AV}{aft:Array Edge}{b fr r:Bool}{C:Cx}{cs xs:List AV}{l rest:List Oper}{vcs:List VC}{T T' d i j loc off s:Nat}{L:Nat->Bool}{o oj:Oper}{gd:Option (Nat×Bool)}{pos:String}{S' S2:Sx}{K:Sx->Fm}{t:Tc}{ty:TypeId}{v:Value}
section
variable{P:Program}{w w' w0:World}{ρ ρ':Nat->Option Rl}{base:Nat}{ro ro':Nat->Prop}{S0:Pm}{Φ : Pm->Prop}{N:Nat}{B:Bs}{S:Sx}{a:Act}
theorem amM(aE:cT P C.ty)(H:aS w0 Φ N B S a w){e sz b len:Nat}{parts:Array (Nat×Operand)}{f:Bool}{es:List (Unit->t.el)}(hT:fu C.ty T=some (.slice e sz b))(nY:Ad 0 (parts.toList.map fun p=>(p.1,bM B S p.2))=some xs)(lL:CM t xs=some (f,es))(aO:t.size=sz)(hlen:es.length=len)(azI:len*sz<=16777216)(hB:aj B.e S.n=none)(hp:bJ B ⟨S.t,(S.n,.row f t e fun _=>es.map fun g=>g ())::S.e,S.n+1⟩ N d (.own S.n)=some S') :
 gK P ⟨some d,.buildSlice T len parts,ty,pos,aft,gd⟩ a w (aS w0 Φ N B S'):=by
 obtain⟨S0,hS,ρ,ro,H⟩:=H;obtain⟨i,_,hi,ky⟩:=eI aE hT;obtain⟨⟨hu,j,z,hj,hz,wG,_,vT,nK⟩,_⟩:=Aq ky hi;subst aO;obtain⟨h1,h2⟩:=Zw nY;have hE:aV w ρ w0.heap.size ro (parts.toList.map fun p=>bM B S p.2) (parts.toList.map fun p=>a.eval p.2):=ye fun p _=>H.get p.2;have QS:xs=parts.toList.map fun p=>bM B S p.2:=by rw [<- h1]; simp
 rw [<- QS] at hE;obtain⟨css,q1,q2,q3⟩:=Zp lL hE;have cz:∀ cs∈css,cs.length=t.size:=fun cs aF=>by
  obtain⟨k,hk⟩:=kT.1 aF;have ah:=(cF.1 hk).1;exact (q3 k cs _ hk (bc oo)).1
 have cU:parts.toList.length=len:=by
  have:css.length=parts.toList.length:=by
   have:=congrArg List.length q1;simpa using this.symm
  omega
 have Z4:parts.toList.map (·.1)=List.range' 0 parts.toList.length:=by simpa [Function.comp_def] using h2
 have Z5:=Zx (size:=t.size) (parts.toList.map fun p=>(p.1,a.eval p.2)) css 0 [] (((Array.range (len*t.size)).map fun (k:Nat)=>z.cells[k % z.cells.size]!).toList) (by rw [<- q1]; simp) (by simpa [Function.comp_def] using Z4) cz (by simp) (by simp [<- cU]);have cC:(execOp a.eval ⟨some d,.buildSlice T len parts,ty,pos,aft,gd⟩).run P w = .ok (.value (.slice (some ⟨w.heap.size,0,none⟩) len len)) (w.alloc (.cells css.flatten.toArray e)):=by
  have Z6:(parts.map fun (i,x)=>(i,a.eval x)).toList=parts.toList.map fun p=>(p.1,a.eval p.2):=by simp
  have xM:=Zr (w:=w) hj hz;unfold execOp;simp only [Instr.buildSlice,underlying,sizeOf,typeInfo,bp,bL,bI,mR,hu,hj,wG];by_cases h0:len=0
  . subst h0;have C4:parts.toList = []:=vJ cU;have pH:css = []:=vJ oo;simp only [xD,show ¬ (0>2^24) by decide,eO,dw,bp,bL,bI,Z6,C4,sS,pH];rw [Instr.fill];have e0:Array.range 0 = #[]:=by apply xF; simp
    simp only [e0,Eg,sS,List.flatten_nil];rfl
  have aT:¬ len*t.size=0:=fun h=>by rcases Nat.mul_eq_zero.1 h with h|h<;>omega
  simp only [show ¬ (len*t.size>2^24) from oo,aT,dw,bp,bL,bI,xM,Z6];rw [pt,Array.toArray_toList] at Z5;rw [Z5,pt];rfl
 have fw:=H.fresh S.n (aA _);have gp:∀ q,q<w.heap.size->(w.alloc (.cells css.flatten.toArray e)).heap[q]? = w.heap[q]? := fun q hq=>ql w _ q hq;have Z7:(es.map fun g=>g ()).length=len:=by simp [hlen]
 have Z8:css.length=len:=oo
 have ka:css.length<=maxLen:=by
  have:len*1<=len*t.size:=kU _ nK;unfold maxLen;omega
 have bw:=al2 (base:=rb f w0.heap.size) (rA w (.cells css.flatten.toArray e)) cz (dQ (Js _ _) H.from_.size) ka;rw [Z8] at bw;have H2:=H.oP (w':=w.alloc (.cells css.flatten.toArray e)) (loc:=S.n) (n:=S.n+1) (r := .row (some ⟨w.heap.size,0,none⟩) len len) (e := .row f t e fun _=>es.map fun g=>g ()) (H.from_.alloc _) (by simp) (fun q hq _=>gp q hq) (fun q jl=>by
  have jw:some w.heap.size=some q:=jl;injection jw with jw;subst jw;exact .inr ⟨aA _,by simp⟩) hB (Cd _) (B3 _) (.inl (qF fw)) (.inl fun b hb=>by rw [fw] at hb; cases hb) (by
  refine⟨some ⟨w.heap.size,0,none⟩,len,css,by rw [Z7]; exact iJ _ _ _,bw,by rw [Z7]; exact Z8,fun k cs j y u r1 r2 r3 => ?_⟩
  . have hk:=(cF.1 r1).1;have na:es[k]? = some (es[k]'oo):=bc _;have r4:=(q3 k cs _ r1 na).2;rw [show ((es.map fun g=>g ()).getD k t.aa)=(es[k]'oo) () by simp [aX,na]] at r2;exact (r4.2 j y u r2 r3).mono (fun q _ ah=>gp q ah) (qF fw) (aA _) fun _ h=>h)
 refine .inl ⟨_,_,cC,S0,hS,_,_,H2.put hp (.own _ _ _ _ (iJ _ _ _))⟩
theorem amN(aE:cT P C.ty)(H:aS w0 Φ N B S a w){i:eH}{x y:Operand}{k:Unit->Int}{f:Bool}{l:Unit->List t.el}{e:Unit->t.el}(hi:aj C.ty T=some i)(hc:cellsOf (bM B S y)=some cs)(hx:bM B S x = .cZ t loc k off)(he:bf B S loc=some (.row fr t T' l))(hl:cs.length=i.sz)(l8:off+i.sz<=t.size)(h1:cs.all AV.one=true)(hB:aj B.e loc=none)(gT:wz t (.agg ((aP fr t fun _=>(l ()).getD (k ()).toNat t.aa).take off++cs++(aP fr t fun _=>(l ()).getD (k ()).toNat t.aa).drop (off+i.sz)))=some (f,e))(hf:fr=true->f=true) :
 gK P ⟨none,.store T x y,ty,pos,aft,gd⟩ a w (aS w0 Φ N B ⟨S.t,(loc,.row fr t T' fun _=>(l ()).set (k ()).toNat (e ()))::S.e,S.n⟩):=by
 obtain⟨S0,hS,ρ,ro,H⟩:=H;have kb:=H.get x;rw [hx] at kb;obtain⟨A,n,c,b,hA,rfl,uz,dN,mu⟩:=kb.JH;obtain⟨A',c',css,bG,bw,hlen,dt⟩:=H.en _ _ he;rw [hA] at bG;injection bG with bG;injection bG with e1 e2 e3;subst e1; subst e2; subst e3;obtain⟨vs,hv,pO⟩:=KB hc (H.get y);obtain⟨j,hj,wG,_⟩:=JK (aE T i hi);have mv:vs.length=i.sz:=by rw [<- pO.1]; exact hl
 obtain⟨kk,jJ⟩:∃ kk:Nat,kk=(k ()).toNat:=⟨_,rfl⟩
 rw [<- jJ] at mu gT ⊢;have FR:kk<css.length:=oo
 obtain⟨nI,h0⟩|⟨g,cap,cur,heq,gS,hg,lP,pP,aF,rE⟩:=bw.1.2
 . cases nI
 . simp only [Value.slice.injEq,bF,Addr.mk.injEq,bn,bu] at heq;obtain⟨rfl,rfl⟩:=heq;have amO:=pw css bw.2;have azJ:kk*t.size+off+i.sz<=css.length*t.size:=by
    have:(kk+1)*t.size<=css.length*t.size:=oy _ FR;rw [lH] at this;omega
   have azK:css.length*t.size<=c*t.size:=oy _ lP;have cC:=IU (P:=P) (w:=w) (T:=T) (n:=i.sz) (g:=b) (off:=kk*t.size+off) (t:=T') (cur:=cur) (v:=a.eval y) (cs:=vs) (by rw [hj]; simp [wG]) (Zs hv) mv hg oo (Qn h1 pO);generalize Z9:(cur.toList.take (kk*t.size+off)++vs++cur.toList.drop (kk*t.size+off+i.sz)).toArray=mT at cC;have oT:(execOp a.eval ⟨none,.store T x y,ty,pos,aft,gd⟩).run P w = .ok .skip (w.setRow b mT):=by
    exact Zu
   have mj:loc<S.n:=by
    exact Qt
   have kA:¬ ro b:=(H.own loc _ b hA rfl).2.1;have hw:∀ b',ro b'->b'<w.heap.size->(w.setRow b mT).heap[b']? = w.heap[b']? := fun b' aW _=>Eu _ _ _ _ (fun e=>kA (e▸aW));generalize fU:(css[kk]).take off++vs++(css[kk]).drop (off+i.sz)=C5 at *
   have yI:(css[kk]).length=t.size:=bw.2 _ (iT FR);have aaa:C5.length=t.size:=by rw [<- fU]; simp [yI,mv]; omega
   have oW:mT.toList.take (css.length*t.size)=(css.set kk C5).flatten:=by
    have As:=Zv css bw.2 kk off i.sz vs FR l8 mv;rw [fU] at As;rw [<- As,<- Z9];have QT:cur.toList=css.flatten++cur.toList.drop (css.length*t.size):=by
     rw [<- rE,jB]
    have e1:(css.flatten++cur.toList.drop (css.length*t.size)).take (kk*t.size+off)=css.flatten.take (kk*t.size+off):=ai3 oo;have e2:(css.flatten++cur.toList.drop (css.length*t.size)).drop (kk*t.size+off+i.sz)=css.flatten.drop (kk*t.size+off+i.sz)++cur.toList.drop (css.length*t.size):=ai4 oo;rw [QT,e1,e2,<- fR];exact WK (by simp only [dp,cL,iD,amO,mv]; omega)
   have FM:cw (w.setRow b mT) (rb fr w0.heap.size) T' t.size (some ⟨b,0,none⟩) c (css.set kk C5):=by
    refine⟨⟨?_,.inr ⟨b,c,mT,by simp,gS,Oc w b _ _ T' _ hg,by simpa using lP,pP,?_,?_⟩⟩,fun r hr => ?_⟩
    . rw [nH];rw [pw (css.set kk C5) (fun r hr=>by
       rcases IB hr with h|h
       . exact bw.2 r h
       . rw [h]; exact aaa),nH]
    . rw [<- Z9];simp [mv];omega
    . rw [nH]; exact oW
    . rcases IB hr with h|h
      . exact bw.2 r h
      . rw [h]; exact aaa
   have hold:aV w ρ w0.heap.size ro (aP fr t fun _=>(l ()).getD kk t.aa) css[kk]:=uH yI fun j y v q1 q2=>dt _ _ j y v (bc FR) q1 q2;have pL:=(((hold.take off).append pO).append (hold.drop (off+i.sz)))
   rw [fU] at pL;obtain⟨us,JP,azL,hE3⟩:=KC gT (.agg _ _ pL.1 pL.2);have amQ:us=C5:=by
    have:C5.toArray=us.toArray:=JP;exact (N1 this).symm
   subst amQ;have H2:=H.oP (w':=w.setRow b mT) (loc:=loc) (n:=S.n) (r := .row (some ⟨b,0,none⟩) (l ()).length c) (e := .row fr t T' fun _=>(l ()).set kk (e ())) (H.from_.grown (Qp _ _ _) (H.Ap hA rfl)) (by rw [setRow_size]; exact aA _) (fun b' aW aT=>Eu _ _ _ _ (fun e=>aT _ hA (by rw [e]; rfl))) (fun b' aW => .inl ⟨_,hA,aW⟩) hB (aA _) mj (.inl QQ) (.inl fun q hq=>by rw [hA] at hq; cases hq) (by
    refine⟨some ⟨b,0,none⟩,c,css.set kk us,by simp only [nH]; exact iJ _ _ _,FM,by simp [hlen],fun k' cs' j y u q1 q2 q3 => ?_⟩;rw [tn hA];refine af.mono ?_ hw (Ext.refl _) (aA _) fun _ h=>h;rw [ru] at q1;split at q1
    . rename_i amR;subst amR
      first|rw [aC FR] at q1|skip
      injection q1 with q1;subst q1;rw [show ((l ()).set kk (e ())).getD kk t.aa=e () by simp [aX,List.getElem?_set_self (show kk<(l ()).length from oo)]] at q2;exact (Ao hE3 hf).2 j y u q2 q3
    . rename_i aT;rw [show ((l ()).set kk (e ())).getD k' t.aa=(l ()).getD k' t.aa by simp [aX,NS aT]] at q2;exact dt k' cs' j y u q1 q2 q3)
   exact .inr (.inl ⟨_,oT,S0,hS,_,_,H2⟩)
theorem amS(iH:∀ S0,Φ S0->S0.fx=C.fx)(aE:cT P C.ty)(H:aS w0 Φ N B S a w)(h:J7 C N B S o=some (S',vcs))(hv:∀ c∈vcs,c ()):gK P o a w (aS w0 Φ N B S'):=by
 obtain⟨dst,op,ty,pos,aft,gd⟩:=o;unfold J7 at h;dsimp only at h;split at h
 . rename_i T;split at h
   . rename_i i d hi;split at h
     . cases h
     . rename_i hc;simp only [gR,xG,vM,Ed,iC] at hc
       cases hp:bJ B ⟨S.t,(S.n,.box T i.z)::S.e,S.n+1⟩ N d (.ptr S.n 0) with
       | none=>rw [hp] at h; cases h
       | some S2=>rw [hp] at h; cases h; exact alZ aE H hi hc.1 hc.2 hp
   . cases h
 . rename_i T x;split at h
   . rename_i cs d aF;split at h
     . cases h
     . rename_i hc;simp only [vM,Ed,iC] at hc
       cases hp:bJ B ⟨S.t,(S.n,.box T cs)::S.e,S.n+1⟩ N d (.ptr S.n 0) with
       | none=>rw [hp] at h; cases h
       | some S2=>rw [hp] at h; cases h; exact al0 H aF hc hp
   . cases h
 . rename_i T ad x;split at h
   . rename_i i cs loc off hi aF hx;split at h
     . rename_i T' cells he;split at h
       . rename_i hc;simp only [ax,cb,aL,iC] at hc;cases h;exact al1 aE H hi aF hx he hc.1.1.1 hc.1.1.2 hc.1.2 hc.2
       . cases h
     . cases h
   . rename_i i cs t loc k off hi aF hx;split at h
     . rename_i fr t' T' l he;split at h
       . rename_i ht;subst ht;split at h
         . rename_i hc;simp only [ax,cb,aL,iC] at hc;split at h
           . rename_i f e gT;split at h
             . rename_i Cu;cases h;exact amN aE H hi aF hx he hc.1.1.1 hc.1.1.2 hc.1.2 hc.2 gT (fun cP=>by rw [cP] at Cu; simpa using Cu)
             . cases h
           . cases h
         . cases h
       . cases h
     . cases h
   . cases h
 . rename_i T len parts;split at h
   . rename_i e sz b d hT;split at h
     . rename_i t ht;split at h
       . rename_i xs nY;split at h
         . rename_i f es lL;split at h
           . rename_i hc;simp only [ax,cb,aL,iC] at hc
             cases hp:bJ B ⟨S.t,(S.n,.row f t e fun _=>es.map fun g=>g ())::S.e,S.n+1⟩ N d (.own S.n) with
             | none=>rw [hp] at h; cases h
             | some S2=>rw [hp] at h; cases h; exact amM aE H hT nY lL hc.1.1.1 hc.1.1.2 hc.1.2 hc.2 hp
           . cases h
         . cases h
       . cases h
     . cases h
   . cases h
 . rename_i T l c;split at h
   . rename_i e sz b d hT;split at h
     . rename_i t ht;split at h
       . rename_i k0 kk k hl hk;split at h
         . rename_i hc;simp only [ax,cb,iC] at hc
           cases hp:bJ B ⟨S.t,(S.n,.row true t e fun _ => [])::S.e,S.n+1⟩ N d (.own S.n) with
           | none=>rw [hp] at h; cases h
           | some S2=>rw [hp] at h; cases h; exact amH aE H hT hl hk hc.1 hc.2 hp (hv _ (.head _))
         . cases h
       . rename_i k0 n kk k hl hk;split at h
         . rename_i ie z8;split at h
           . rename_i f x gT;split at h
             . rename_i hc;simp only [ax,cb,iC,jf] at hc
               cases hp:bJ B ⟨S.t,(S.n,.row f t e fun _=>List.replicate (n ()).toNat (x ()))::S.e,S.n+1⟩ N d (.own S.n) with
               | none=>rw [hp] at h; cases h
               | some S2=>rw [hp] at h; cases h; exact amI aE H hT hl hk z8 gT hc.2 hc.1.1 hc.1.2 hp (hv _ (.head _))
             . cases h
           . cases h
         . cases h
       . cases h
     . cases h
   . cases h
 . rename_i T;split at h
   . rename_i kt et c t ag d hT;split at h
     . cases h
     . rename_i hc;simp only [vM,Ed,iC] at hc
       cases hp:bJ B ⟨S.t,(S.n,.map true ag c t T fun _ _=>none)::S.e,S.n+1⟩ N d (.mp S.n) with
       | none=>rw [hp] at h; cases h
       | some S2=>rw [hp] at h; cases h; exact amf H hc hp
   . cases h
 . rename_i T x i v;split at h
   . rename_i kt et c t ag loc hT hx;split at h
     . rename_i fr jI c' t' T' m k he hk;split at h
       . rename_i hc;obtain⟨rfl,rfl,rfl⟩:=hc;split at h
         . rename_i f e gT;split at h
           . rename_i hb;simp only [ax,iC] at hb;cases h;exact amh aE H hT hx he hk gT hb.1 hb.2
           . cases h
         . cases h
       . cases h
     . cases h
   . cases h
 . rename_i T x i;split at h
   . rename_i kt et c t ag loc d hT hx;split at h
     . rename_i fr jI c' t' T' m k he hk;split at h
       . rename_i hc;obtain⟨rfl,rfl,rfl⟩:=hc;split at h
         . rename_i hb;simp only [ax,iC] at hb
           cases hp:bJ B ⟨S.t,(S.n,.bo loc c' k)::(loc,.map fr jI c' t' T' fun _=>eB (m ()) (k ()) ((m () (k ())).getD t'.aa))::lr loc S.e,S.n+1⟩ N d (.ba [eo jI fr t' fun _=>(m () (k ())).getD t'.aa,.bo S.n]) with
           | none=>rw [hp] at h; cases h
           | some S2=>rw [hp] at h; cases h; exact ami aE H hT hx he hk hb.1.1 hb.1.2 hb.2 hp
         . cases h
       . cases h
     . cases h
   . cases h
 . rename_i T x s v;split at h
   . rename_i loc l2 hx hs;split at h
     . rename_i fr ag c t T' m ml c' key he qH;split at h
       . rename_i hc;obtain⟨rfl,rfl⟩:=hc;split at h
         . rename_i f e gT;split at h
           . rename_i hb;simp only [ax,iC] at hb;cases h;exact amk H hx hs he qH gT hb.1 hb.2
           . cases h
         . cases h
       . cases h
     . cases h
   . cases h
 . rename_i c;obtain⟨callee,gJ,nO⟩:=c;dsimp only at h;split at h
   . rename_i s x T T2 d Az rW;have ha:gJ = #[s,x]:=by simpa using congrArg List.toArray Az
     have ht:nO = #[T,T2]:=by simpa using congrArg List.toArray rW
     subst ha; subst ht;split at h
     . rename_i QU;have amT:=eq_of_beq QU;subst amT;split at h
       . rename_i e sz b hT;split at h
         . rename_i loc hs;split at h
           . rename_i fr t e' l he;split at h
             . rename_i hc;simp only [ax,cb,iC] at hc;obtain⟨⟨⟨⟨rfl,aO⟩,hB⟩,hq⟩,QV⟩:=hc;split at h
               . rename_i f m hn;split at h
                 . cases h
                 . cases hp:bJ B ⟨(kill loc S).t,(loc,.row (fr&&f) t e' fun _=>l ()++m ())::(kill loc S).e,S.n⟩ N d (.own loc) with
                   | none=>rw [hp] at h; cases h
                   | some S2=>rw [hp] at h; cases h; exact ama aE H hT hs he aO hB hq hn hp (hv _ (.head _)) (fun S0 hS=>by rw [iH S0 hS]; simpa using QV)
               . cases h
             . cases h
           . cases h
         . rename_i t0 loc a0 b0 hs;split at h
           . rename_i fr t e' l he;split at h
             . rename_i hc;simp only [ax,cb,iC] at hc;obtain⟨⟨⟨⟨rfl,aO⟩,hB⟩,hq⟩,QV⟩:=hc;split at h
               . rename_i f m hn
                 cases hp:bJ B ⟨(kill loc S).t,(loc,.row (fr&&f) t e' fun _=>(l ()).take (b0 ())++m ())::(kill loc S).e,S.n⟩ N d (.own loc) with
                 | none=>rw [hp] at h; cases h
                 | some S2=>rw [hp] at h; cases h; exact amb aE H hT hs he aO hB hq hn hp (hv _ (.head _)) (hv _ (.tail _ (.head _))) (fun S0 hS=>by rw [iH S0 hS]; simpa using QV)
               . cases h
             . cases h
           . cases h
         . rename_i hs;split at h
           . rename_i t ht;split at h
             . rename_i hc;simp only [ax,cb,iC] at hc;split at h
               . rename_i f m hn
                 cases hp:bJ B ⟨S.t,(S.n,.row f t e m)::S.e,S.n+1⟩ N d (.own S.n) with
                 | none=>rw [hp] at h; cases h
                 | some S2=>rw [hp] at h; cases h; exact amc aE H hT hs hc.1 hc.2 hn hp (hv _ (.head _))
               . cases h
             . cases h
           . cases h
         . cases h
       . cases h
     . cases h
   . rename_i s x T T2 d Az rW;have ha:gJ = #[s,x]:=by simpa using congrArg List.toArray Az
     have ht:nO = #[T,T2]:=by simpa using congrArg List.toArray rW
     subst ha; subst ht;exact amL aE H h
   . cases h
 . cases h
structure JOk (J:Nat->(Nat->Prop)->(Nat->Prop)->World->Prop):Prop where
 nR:∀ p O R W b,J p O R W->R b\/O b->b<W.heap.size
 yp:∀ p O R (W W':World),J p O R W->W'.os=W.os->W'.tape=W.tape->W'.output=W.output->W.heap.size<=W'.heap.size->(∀ b,R b\/O b->W'.heap[b]? = W.heap[b]?)->J p O R W'
structure QW (O O' R R' rr:Nat->Prop) (W W':World):Prop where
 os:W'.os=W.os
 tape:W'.tape=W.tape
 output:W'.output=W.output
 size:W.heap.size<=W'.heap.size
 jF:∀ b,b<W.heap.size->¬ O b->W'.heap[b]? = W.heap[b]?
 own:∀ b,O' b->O b\/W.heap.size<=b
 jK:∀ b,R' b->R b\/rr b\/W.heap.size<=b
def qK(P:Program)(c:It):Prop:=(∀ args w,(callFunc c.f args).run P w = .ok (.enter c.f args) w) /\
 ∀ ai res,c.go ai=some res->∀ (w) (ra) (dM) (l) (J) (O R),JOk J->(∀ b,ra b->b<w.heap.size/\¬ O b)->aV w (fun _=>none) 0 ra ai dM->res.pre ()->J 1 O R w ->
  (∀ p O R W args rr,J (p+1) O R W->p<res.n ()->aV W (fun _=>none) 0 rr (res.el fun _=>p) args->(∀ b,rr b->b<W.heap.size/\¬ O b/\(b<w.heap.size->ra b))->YieldAt Fence.wide 0 P l args.toArray W fun e W'=>∃ ok O' R',e = .returned (.bool ok)/\J (cond ok (p+2) 0) O' R' W'/\QW O O' R R' rr W W') ->
  CallsIn Fence.wide 0 P c.f (#[.func (.yield l) #[] #[]]++dM.toArray) w fun e w'=>(∃ v,e = .returned v)/\∃ O R,J (res.n ()+1) O R w'\/J 0 O R w'
structure nh (P:Program) (C:Cx) (w0:World) (Φ : Pm->Prop):Prop where
 cs:∀ c∈C.cs,aU P c
 fs:∀ c∈C.fs,ij P c
 lQ:∀ c∈C.lQ,qK P c
 dm:∀ S0 S1,Φ S0 -> Φ S1->∀ l r,S1.pl l=some r->(r.dz||S1.fx)=true->∃ r',S0.pl l=some r'/\(r'.dz||S0.fx)=true
 yl:∀ y,C.yl=some y->∀ S0,Φ S0->(∀ b,S0.ex b)/\∃ p,(S0.pl=fun l=>if l=0 then some (.bo p) else none)/\∀ W args rr,S0.inv W->0<p->p<=y.n ()->aV W (fun _=>none) 0 rr (y.el fun _=>p - 1) args->(∀ b,rr b->b<W.heap.size/\¬ S0.own b/\(b<w0.heap.size->S0.rd b))->YieldAt Fence.wide 0 P (y.l ()) args.toArray W fun e W'=>∃ ok S1,e = .returned (.bool ok) /\ Φ S1/\S1.rd=S0.rd/\S1.fx=S0.fx/\S1.ds=S0.ds/\S1.fm=S0.fm/\(S1.pl=fun l=>if l=0 then some (.bo (cond ok (p+1) 0)) else none)/\S1.inv W'/\QW S0.own S1.own S0.jK S1.jK rr W W'
 fx:∀ S0,Φ S0->S0.fx=C.fx
 pl:∀ S0,Φ S0->∀ l r,S0.pl l=some r->l<C.nb
theorem aac{cs:List fO}{f:FuncId}{c:fO}(aF:∀ c∈cs,ij P c)(h:Ac cs f=some c):ij P c/\c.f=f:=by
 induction cs with
 | nil=>cases h
 | cons c' cs ih =>
  unfold Ac at h;exact YN
theorem amU(aF:nh P C w0 Φ)(H:aS w0 Φ N B S a w)(h:Fp C N B S o=some (S',vcs))(hv:∀ c∈vcs,c ()):gK P o a w (aS w0 Φ N B S'):=by
 obtain⟨dst,op,ty,pos,aft,gd⟩:=o;unfold Fp at h;dsimp only at h;split at h
 . rename_i c;obtain⟨callee,gJ,nO⟩:=c;dsimp only at h;split at h
   . rename_i f;split at h
     . rename_i fo yn;split at h
       . rename_i ai st uL;split at h
         . rename_i res qz;split at h
           . rename_i hc;simp only [ax,cb] at hc;obtain⟨⟨⟨⟨hlen,Av⟩,bS⟩,pL⟩,QX⟩:=hc;obtain⟨aI,rfl⟩:=aac aF.fs yn;obtain⟨S0,hS,ρ,ro,H⟩:=H;have QY:S0.fx=true->fo.fix=true:=fun h=>by rw [aF.fx S0 hS] at h; simpa [h] using QX
             split at h
             . rename_i d
               cases hp:bJ B ⟨(forget fo.fix st.aG S).t,ko (iZ st.aG S.n) res.es++(forget fo.fix st.aG S).e,S.n+(m7 fo.n (dE res.es) - fo.n)⟩ N d (AV.fW (iZ st.aG S.n) res.av) with
               | none=>rw [hp] at h; cases h
               | some S2 =>
                rw [hp] at h;cases h;have jr:=hv _ (.head _);have hE:aV w ρ w0.heap.size ro (gJ.toList.map (bM B S)) (gJ.toList.map a.eval):=ye fun x _=>H.get x;obtain⟨QZ,Az⟩:=QB (fun l e he=>H.en l e he) _ _ _ _ _ _ uL hE;have iK:=QZ.nodup WM;have tp:∀ l∈st.aG,∃ r,ρ l=some r:=fun l hl=>(QZ.some_ l hl).resolve_left (by simp);have tu:=aI.2 ai st.es res qz w (ρL ρ st.aG) ro (gJ.toList.map a.eval) H.gu (Az st.aG ⟨[],by simp⟩) (fun l e he=>(QZ.en st.aG ⟨[],by simp⟩ l e he).resolve_left (by simp [aj])) (fun l l' r r' b aT h1 h2 h3 h4=>by
                 obtain⟨x,hx,Q0⟩ := uQ h1;obtain⟨y,hy,FT⟩ := uQ h2;refine H.apart x y r r' b (fun e=>aT ?_) Q0 FT h3 h4;subst e;exact (List.getElem?_inj (cF.1 hx).1 iK).1 (hx.trans hy.symm)) (fun l hl=>by unfold ρL; rw [sQ oo]) (fun l r b h1 h2=>by
                 obtain⟨x,hx,Q0⟩ := uQ h1;have:=H.own x r b Q0 h2;exact⟨this.1,this.2.1⟩) jr
                have cC:(execOp a.eval ⟨some d,.call { callee := .value (.func fo.f),args:=gJ,argTypes:=nO },ty,pos,aft,gd⟩).run P w = .ok (.enter fo.f (gJ.toList.map a.eval).toArray) w:=by
                 have:=JT (P:=P) (r:=a.eval) (d:=some d) (ty:=ty) (pos:=pos) (aft:=aft) (gd:=gd) (w:=w) (c := .func fo.f) (xs:=gJ) (ts:=nO) (vs := []) (F:=fo.f) rfl aI.1;simpa using this
                refine .inr (.inr (.inl ⟨_,_,cC,tu.mono fun e w' hq => ?_⟩));obtain⟨v,ρ1,fc,rfl,hL,hr⟩:=hq;obtain⟨ρ',H2,Q1⟩:=H.called hlen iK tp Av bS pL QY hL;exact⟨v,rfl,S0,hS,ρ',_,H2.put hp ((hr.fW Q1).mono (fun _ _ _=>rfl) (Ext.refl _) H.from_.size fun b hb => .inr hb)⟩
             . cases h
           . cases h
         . cases h
       . cases h
     . cases h
   . cases h
 . cases h
theorem Q3(t)(x):AV.uO (aP true t x)=true:=by cases t<;>rfl
theorem AA:∀ {l:List AV} {j:Nat} {x:AV},AV.uO l=true->l[j]? = some x->AV.pJ x=true
 | y::l,0,x,h,hx=>by
  simp only [ox,bF] at hx;subst hx;simp only [AV.uO,ax] at h;exact h.1
 | y::l,j+1,x,h,hx=>by
  simp only [AV.uO,ax] at h;exact AA h.2 (by simpa using hx)
 | [],j,x,_,hx=>by simp at hx
theorem amV(ag)(t)(x):AV.pJ (eo ag true t x)=true:=by
 unfold eo;have h:=Q3 t x
 cases ag with
 | true=>exact h
 | false =>
  simp only [dV,dw]
  cases hc:aP true t x with
  | nil=>rfl
  | cons c l =>
   rw [hc] at h
   cases l with
   | nil=>simpa [AV.uO] using h
   | cons c2 l=>rfl
theorem af.C6(h:af w ρ base ro x v)(hx:AV.pJ x=true):af w ρ base (fun b=>ro b/\base<=b) x v:=by
 induction h with
 | un=>exact .un _
 | fG=>exact .fG _
 | int=>exact .int _ _
 | lit=>exact .lit _ _
 | bool=>exact .bool _
 | aR=>exact .aR _
 | str=>exact .str _
 | nil=>exact .nil
 | sl fr t l A c css hl hc hr lh cP h ih =>
  have hf:fr=true:=by simpa [AV.pJ] using hx
  subst hf;exact .sl true t l A c css hl hc hr (fun a ha hn=>⟨lh a ha hn,cP rfl a ha hn⟩) cP fun k cs j y v h1 h2 h3=>ih k cs j y v h1 h2 h3 (AA (Q3 _ _) h2)
 | wide fr t l n A c hn h ih=>exact .wide fr t l n A c hn (ih KW)
 | bh cells off b o cs hr ah hl hc h ih=>cases hx
 | ptr l off b h=>exact .ptr _ _ _ h
 | fq l off n b h=>exact .fq _ _ _ _ h
 | own l A n c h=>exact .own _ _ _ _ h
 | cZ t l k off A n c b h hA h0 hn=>exact .cZ _ _ _ _ _ _ _ _ h hA h0 hn
 | cG t l a b A n c h bk=>exact .cG _ _ _ _ _ _ _ h bk
 | mp l b h=>exact .mp _ _ h
 | bo l b h=>exact .bo _ _ h
 | it l l2 b h=>exact .it _ _ _ h
 | agg l vs hl h ih=>exact .agg _ _ hl fun j y v h1 h2=>ih j y v h1 h2 (AA KW h1)
 | ba l vs hl h ih=>exact .ba _ _ hl fun j y v h1 h2=>ih j y v h1 h2 (AA KW h1)
 | fn f dH vs hl h ih=>exact .fn _ _ _ hl fun j y v h1 h2=>ih j y v h1 h2 (AA KW h1)
theorem c9.C6{l:Nat}{e:En}(h:c9 w ρ base ro l e)(hx:En.pJ e=true):c9 w ρ base (fun b=>ro b/\base<=b) l e:=by
 cases e with
 | box T cells =>
  obtain⟨b,cs,h1,h4,h5⟩:=h;exact⟨b,cs,h1,h4,h5.1,fun j x v pG hv=>(h5.2 j x v pG hv).C6 (AA (by simpa [En.pJ] using hx) pG)⟩
 | row fr t T m =>
  obtain⟨A,c,css,h1,h2,h3,h5⟩:=h;have hf:fr=true:=by simpa [En.pJ] using hx
  subst hf;exact⟨A,c,css,h1,h2,h3,fun k cs j x v k1 k2 k3=>(h5 k cs j x v k1 k2 k3).C6 (AA (Q3 _ _) k2)⟩
 | map fr ag c t T m =>
  obtain⟨b,es,clock,h1,h2,h3,h4⟩:=h;have hf:fr=true:=by simpa [En.pJ] using hx
  subst hf;exact⟨b,es,clock,h1,h2,h3,h4.rQ fun x v hx=>hx.C6 (amV _ _ _)⟩
 | iter ml c seen left=>cases hx
 | bo ml c key=>cases hx
 | ft k=>cases hx
 | dead=>cases hx
theorem aad:∀ {l:List (Nat×En)} {k:Nat} {e:En},J8 l=true->aj l k=some e->En.pJ e=true
 | (j,y)::l,k,e,h,he=>by
  unfold J8 at h;simp only [ax] at h;rw [cm] at he;split at he
  . cases he; exact h.1
  . exact aad h.2 he
 | [],_,_,_,he=>by cases he
theorem amW(aF:nh P C w0 Φ)(H:aS w0 Φ N B S a w)(h:Fq C N B S o=some (S',vcs))(hv:∀ c∈vcs,c ()):gK P o a w (aS w0 Φ N B S'):=by
 obtain⟨dst,op,ty,pos,aft,gd⟩:=o;unfold Fq at h;dsimp only at h;split at h
 . rename_i c;obtain⟨callee,gJ,nO⟩:=c;dsimp only at h;split at h
   . rename_i f;split at h
     . rename_i fo yn;split at h
       . rename_i ai uL;split at h
         . rename_i res qz;split at h
           . rename_i hc;simp only [ax,cb] at hc;obtain⟨⟨⟨⟨uR,Qv⟩,aT⟩,pL⟩,QX⟩:=hc;obtain⟨aI,rfl⟩:=aac aF.fs yn;obtain⟨S0,hS,ρ,ro,H⟩:=H;have QY:S0.fx=true->fo.fix=true:=fun h=>by rw [aF.fx S0 hS] at h; simpa [h] using QX
             split at h
             . rename_i d
               cases hp:bJ B ⟨(forget fo.fix [] S).t,ko (iZ [] S.n) res.es++(forget fo.fix [] S).e,S.n+(m7 0 (dE res.es) - 0)⟩ N d (AV.fW (iZ [] S.n) res.av) with
               | none=>rw [hp] at h; cases h
               | some S2 =>
                rw [hp] at h;cases h;have jr:=hv _ (.head _);have hE:aV w ρ w0.heap.size ro (gJ.toList.map (bM B S)) (gJ.toList.map a.eval):=ye fun x _=>H.get x;have Az:=wk (fun l e he=>H.en l e he) H.gu _ _ _ _ uL hE (.inr fun _ h=>h);have tu:=aI.2 ai [] res qz w (fun _=>none) (fun b=>b<w.heap.size) (gJ.toList.map a.eval) (fun _ h=>h) Az (fun l e he=>by cases he) (fun _ _ _ _ _ _ h=>by cases h) (fun _ _=>rfl) (fun _ _ _ h=>by cases h) jr;have cC:(execOp a.eval ⟨some d,.call { callee := .value (.func fo.f),args:=gJ,argTypes:=nO },ty,pos,aft,gd⟩).run P w = .ok (.enter fo.f (gJ.toList.map a.eval).toArray) w:=by
                 have:=JT (P:=P) (r:=a.eval) (d:=some d) (ty:=ty) (pos:=pos) (aft:=aft) (gd:=gd) (w:=w) (c := .func fo.f) (xs:=gJ) (ts:=nO) (vs := []) (F:=fo.f) rfl aI.1;simpa using this
                refine .inr (.inr (.inl ⟨_,_,cC,tu.mono fun e w' hq => ?_⟩));obtain⟨v,ρ1,fc,rfl,hL,hr⟩:=hq;have qL:Left w w' (ρL ρ []) ρ1 ro (fun b=>fc b/\w.heap.size<=b) res.es fo.fix:=by
                 have e : ρL ρ []=fun _=>none:=funext fun k=>by unfold ρL; simp
                 rw [e];exact⟨hL.from_,fun l e he=>(hL.en l e he).C6 (aad aT he),hL.apart,hL.fresh,fun l r b h1 h2=>⟨(hL.own l r b h1 h2).1,fun h4=>(hL.own l r b h1 h2).2.1 h4.1,(hL.own l r b h1 h2).2.2⟩,fun b hb=>⟨(hL.rd b hb.1).1,fun h=>absurd hb.2 oo⟩,hL.dz⟩
                obtain⟨ρ',H2,Q1⟩:=H.called (aG := []) (n:=0) rfl WM (fun _ h=>by cases h) rfl rfl pL QY qL;exact⟨v,rfl,S0,hS,ρ',_,H2.put hp (((hr.C6 Qv).fW Q1).mono (fun _ _ _=>rfl) (Ext.refl _) H.from_.size fun b hb => .inr hb)⟩
             . cases h
           . cases h
         . cases h
       . cases h
     . cases h
   . cases h
 . cases h
theorem aae(aE:cT P C.ty)(aF:nh P C w0 Φ)(H:aS w0 Φ N B S a w)(h:Kf C N B S o=some (S',vcs))(hv:∀ c∈vcs,c ()):gK P o a w (aS w0 Φ N B S'):=by
 unfold Kf at h;split at h
 case h_2=>cases h
 rename_i av KX ni;obtain⟨S0,hS,ρ,ro,H⟩:=H;obtain⟨dst,op,ty,pos,aft,gd⟩:=o;have amX:vcs=KX:=by
  split at h
  . rename_i d hd
    cases hp:bJ B S N d av with
    | none=>rw [hp] at h; cases h
    | some S2=>rw [hp] at h; cases h; rfl
  . cases h; rfl
 subst amX;have h1:=YQ (d:=dst) (ty:=ty) (pos:=pos) (aft:=aft) (gd:=gd) (r:=a.eval) aE aF.cs (fun l e he=>H.en l e he) (fun x _=>H.get x) H.gu H.from_.size ni hv;have fv:∀ v w',cW w w'->af w' ρ w0.heap.size (fun b=>ro b\/w.heap.size<=b) av v->aS w0 Φ N B S' (a.put dst v) w':=by
  intro v w' hb dX;have H2:=H.calm hb
  cases dst with
  | some d =>
   dsimp only at h
   cases hp:bJ B S N d av with
   | none=>rw [hp] at h; cases h
   | some S2=>rw [hp] at h; cases h; exact⟨S0,hS,_,_,H2.put hp dX.calm⟩
  | none =>
   cases h;exact⟨S0,hS,_,_,H2⟩
 rcases h1 with ⟨v,w',h2,h3,h4⟩|⟨f,args,h2,h3⟩
 . exact .inl ⟨v,w',h2,fv v w' h3 h4⟩
 . exact .inr (.inr (.inl ⟨f,args,h2,h3.mono fun e w' ⟨v,q1,q2,q3⟩=>⟨v,q1,fv v w' q2 q3⟩⟩))
theorem aaf(aE:cT P C.ty)(aF:nh P C w0 Φ)(H:aS w0 Φ N B S a w)(h:nV C N B S o=some (S',vcs))(hv:∀ c∈vcs,c ()):gK P o a w (aS w0 Φ N B S'):=by
 unfold nV at h;split at h
 . rename_i av KX ni;exact aae aE aF H (by unfold Kf; rw [ni]; exact h) hv
 . split at h
   . rename_i r hm;cases h;have H1:aS w0 Φ N B (cond C.fx S (Ka C.nb B S o.op)) a w:=by
      cases hc:C.fx with
      | true=>exact H
      | false=>exact alS aF.pl (fun S0 hS=>by rw [aF.fx S0 hS,hc]) H _
     exact amS aF.fx aE H1 hm hv
   . split at h
     . rename_i r hm;cases h;exact amU aF H hm hv
     . split at h
       . rename_i r hm;cases h;exact amW aF H hm hv
       . unfold Kg at h;split at h
         . split at h
           . split at h
             . rename_i hc;simp only [ax,jf] at hc;exact aae aE aF (Ag aF.pl (fun S0 hS=>by rw [aF.fx S0 hS,hc.2]) H) h hv
             . cases h
           . cases h
         . cases h
theorem aag:af w ρ base ro (.ba []) undef := .ba [] [] rfl fun j x v h=>by simp at h
theorem Q4(H:aS w0 Φ N B S a w)(h:pN N B S o=some S'):aS w0 Φ N B S' (a.put o.dst undef) w:=by
 obtain⟨S0,hS,ρ,ro,H⟩:=H;unfold pN at h;split at h
 . rename_i d hd;rw [hd];exact⟨S0,hS,_,_,H.put h aag⟩
 . rename_i hd;rw [hd];cases h;exact⟨S0,hS,_,_,H⟩
theorem FU:∀ {l:List VC},nS l->∀ c∈l,c ()
 | [],_,c,hc=>by cases hc
 | [c],h,c',hc=>by rw [jD] at hc; subst hc; exact h
 | c::d::l,h,c',hc=>by
  rcases fM.1 hc with rfl|hc
  . exact h.1
  . exact FU h.2 c' hc
theorem aah(h:bJ B S N d x=some S'):S'=⟨(d,x)::S.t,S.e,S.n⟩:=by
 unfold bJ at h;split at h
 . cases h
 . cases h; rfl
theorem Q5{l:Nat}{e:En}:∀ {es:List (Nat×En)},Fv es=true->aj es l=some e->En.under nz e=true
 | (k,e')::es,h,he=>by
  simp only [Fv,ax] at h;rw [cm] at he;split at he
  . cases he; exact h.1
  . exact Q5 h.2 he
 | [],_,he=>by cases he
theorem af.amY{l:Unit->Nat}(h:af w ρ base ro (.fG l) v):v = .func (.yield (l ())) #[] #[]:=by cases h; rfl
theorem amZ(aF:nh P C w0 Φ)(H:aS w0 Φ N B S a w){c:Call}{x:Operand}{l k:Unit->Nat}{y:Yl}{S1:Sx}(hc:c.callee = .value x)(hx:bM B S x = .fG l)(hy:C.yl=some y)(he:bf B S 0=some (.ft k))(hq:P7 B S=true)(hu:AV.mn (fun _=>false) (y.el fun _=>k () - 1)=true)(hE:th none B S (c.args.toList.map (bM B S)) (y.el fun _=>k () - 1)=some vcs)(h1:bJ B S N d (.aR true)=some S1)(h2:bJ B S N d (.aR false)=some S2)(hv:∀ v∈vcs,v ())(hl:l ()=y.l ()/\0<k ()/\k ()<=y.n ())(yJ:(K ⟨S1.t,(0,.ft fun _=>k ()+1)::S1.e,S1.n⟩).P)(yK:(K ⟨S2.t,(0,.ft fun _=>0)::S2.e,S2.n⟩).P):gK P ⟨some d,.call c,ty,pos,aft,gd⟩ a w fun a' w'=>∃ S',aS w0 Φ N B S' a' w'/\(K S').P:=by
 obtain⟨S0,hS,ρ,ro,H⟩:=H;have mu:a.eval x = .func (.yield (l ())) #[] #[]:=by
  have h:=H.get x;rw [hx] at h;exact h.amY
 obtain⟨hex,p,cU,hY⟩:=aF.yl y hy S0 hS;have h0 : ρ 0=some (.bo (k ())):=H.en _ _ he;have hp:k ()=p:=by
  have h:=H.dz 0 (.bo p) (by rw [cU]; rfl) rfl;rw [h0] at h;injection h with h;injection h
 unfold P7 at hq;simp only [ax,iC] at hq;obtain⟨OM,hqS,hqB,hqe,hqE⟩:=hq;have KY:=yF (ρ2:=fun _=>none) (ro2:=ro) (p:=fun _=>false) H ⟨fun _ _ _ h=>(by cases h),fun _ h=>h,fun _ _ _ h=>(by cases h),fun _ h _ _ _ _ _ _=>(by cases h)⟩ _ _ vcs (c.args.toList.map a.eval) hE hv (ye fun x _=>H.get x) hu;rw [hp] at KY;obtain⟨fn,tmps,ag,bd,cC,am4⟩:=hY w _ ro H.from_.inv oo oo (KY.mono (fun _ _ _=>rfl) (Ext.refl _) (bO _) fun _ h=>h) fun b hb=>⟨H.gu b hb,(H.ew b hb).2,(H.ew b hb).1⟩
 have oT:(execOp a.eval ⟨some d,.call c,ty,pos,aft,gd⟩).run P w = .ok (.round (y.l ()) fn tmps ag bd) w:=by
  rw [<- hl.1] at cC ⊢;obtain⟨callee,gJ,nO⟩:=c;dsimp only at hc;subst hc;unfold execOp;generalize a.eval=r at mu cC ⊢;have e:(gJ.toList.map r).toArray=gJ.map r:=by rw [<- Array.toList_map]
  rw [e] at cC;simp [resolve,invoke,go_sem,mu,cC]
 have h0n:0<S.n:=by
  rcases BX S.n with h|h
  . have:=H.fresh 0 oo;rw [h0] at this;cases this
  . exact h
 refine .inr (.inr (.inr ⟨_,fn,tmps,ag,bd,oT,am4.mono fun e w' hq => ?_⟩));obtain⟨ok,T0,rfl,C7,e1,e2,e3,e4,e5,e6,R⟩:=hq;refine⟨_,rfl,?_⟩;have hρ:∀ l' r,ρ l'=some r->nz l'=true->eR ρ 0 (.bo (cond ok (p+1) 0)) l'=some r:=fun l' r h2 h1=>by
  unfold eR;rw [aw (by rintro rfl; cases h1)];exact h2
 have e8:∀ l' r b,eR ρ 0 (.bo (cond ok (p+1) 0)) l'=some r->r.b8=some b->l'≠0 /\ ρ l'=some r:=fun l' r b h1 h2=>by
  unfold eR at h1;split at h1
  . cases h1; cases h2
  . rename_i aT; exact⟨aT,h1⟩
 have hw:∀ b,ro b->b<w.heap.size->w'.heap[b]? = w.heap[b]? := fun b hb ah=>R.jF b ah (H.ew b hb).2;have gp:∀ l' r b,ρ l'=some r->r.b8=some b->w'.heap[b]? = w.heap[b]? := fun l' r b q1 q2=>R.jF b (H.own l' r b q1 q2).1 fun h=>(H.own l' r b q1 q2).2.2.2 (S0.yo b h);have HS:bm w0 T0 N B ⟨S.t,(0,.ft fun _=>cond ok (p+1) 0)::S.e,S.n⟩ a w' (eR ρ 0 (.bo (cond ok (p+1) 0))) ro:=by
  refine⟨⟨R.os.trans H.from_.os,R.tape.trans H.from_.tape,R.output.trans H.from_.output,dQ H.from_.size R.size,fun k hk hn hx => ?_,e6⟩,H.size,by rw [e3]; exact H.defers,fun b hb=>iS (H.gu b hb) R.size,fun s x h => ?_,fun l' e h => ?_,fun l1 l2 r r' b aT k1 k2 k3 k4 => ?_,fun l' cg => ?_,fun l' r b k1 k2 => ?_,fun b hb=>⟨by rw [e1]; exact (H.ew b hb).1,fun ho => ?_⟩,fun l' r k1 k2 => ?_,H.jL,fun l' e h => ?_,by rw [e4]; exact H.fm⟩
  . exact absurd ((aF.yl y hy T0 C7).1 k) hx
  . obtain⟨u,q1,q2⟩:=H.tm s x h;refine⟨u,q1,(q2.yG ?_ hρ).mono hw (Ext.refl _) (aA _) fun _ h=>h⟩;unfold dD at h;split at h
    . rename_i z hz;cases h;exact KU hqS hz
    . exact KU hqB h
  . unfold bf at h;rw [cm] at h;by_cases mW:0=l'
    . rw [aC mW] at h;cases h;subst mW;exact iJ _ _ _
    . rw [aw mW] at h;have hnz:nz l'=true:=by
       unfold nz;simp only [jf,NV];exact fun e=>mW e.symm
      have hue:En.under nz e=true:=by
       split at h
       . rename_i z hz;cases h;exact Q5 hqe hz
       . exact Q5 hqE h
      exact ((H.en l' e h).mono hw gp (Ext.refl _) fun _ h=>h).fixed hnz hue hρ
  . obtain⟨_,q1⟩:=e8 l1 r b k1 k3;obtain⟨_,q2⟩:=e8 l2 r' b k2 k4;exact H.apart l1 l2 r r' b aT q1 q2 k3 k4
  . unfold eR;rw [aw (by simp only at cg; omega)];exact H.fresh l' cg
  . obtain⟨q1,q2⟩:=e8 l' r b k1 k2;have q3:=H.own l' r b q2 k2;refine⟨iS q3.1 R.size,q3.2.1,?_,fun hf => ?_⟩
    . rcases q3.2.2.1 with q4|⟨r0,q4,_⟩
      . exact .inl q4
      . rw [cU] at q4;dsimp only at q4;rw [if_neg q1] at q4;cases q4
    . rcases R.jK b hf with q4|q4|q4
      . exact q3.2.2.2 q4
      . exact q3.2.1 q4
      . omega
  . rcases R.own b ho with q4|q4
    . exact (H.ew b hb).2 q4
    . have:=H.gu b hb; omega
  . rw [e5] at k1;dsimp only at k1;split at k1
    . rename_i h;subst h;rw [iJ];exact k1
    . cases k1
  . rw [cm,aw (by rintro rfl; rw [OM] at h; cases h)];exact H.jM l' e h
 rw [hp] at yJ;have q1:=aah h1;have q2:=aah h2;subst q1; subst q2
 cases ok with
 | true=>exact⟨_,⟨T0,C7,_,_,HS.put (KI h1) (.aR true)⟩,yJ⟩
 | false=>exact⟨_,⟨T0,C7,_,_,HS.put (KI h2) (.aR false)⟩,yK⟩
theorem aai(aE:cT P C.ty)(aF:nh P C w0 Φ)(H:aS w0 Φ N B S a w){f:(Sx->Fm)->Fm}(h:mq C N B S o=some f)(hK:(f K).P):gK P o a w fun a' w'=>∃ S',aS w0 Φ N B S' a' w'/\(K S').P:=by
 obtain⟨dst,op,ty,pos,aft,gd⟩:=o;unfold mq at h;dsimp only at h;split at h
 . rename_i T x;split at h
   . rename_i kt et c t ag loc d hT hx;split at h
     . rename_i fr jI c' t' T' m he;split at h
       . rename_i S' hb hp;cases h;simp only [iC] at hb;exact amo aE H hT hx he hb hp hK
       . cases h
     . cases h
   . cases h
 . rename_i x;split at h
   . rename_i loc l2 d hx;split at h
     . rename_i fr ag c t T m ml c' seen left he hi;split at h
       . rename_i hc;obtain⟨rfl,rfl,hb⟩:=hc;simp only [iC] at hb;split at h
         . rename_i S1 S2 oV fX;cases h;exact amr H hx he hi hb oV fX hK
         . cases h
       . cases h
     . cases h
   . cases h
 . rename_i c;split at h
   . rename_i x hc;split at h
     . rename_i l y k d hx hy he;split at h
       . rename_i vcs S1 S2 hq hE h1 h2;cases h;simp only [ax] at hq;obtain⟨hv,yJ,yK⟩:=hK;have hv:=FU hv;exact amZ aF H hc hx hy he hq.1 hq.2 hE h1 h2 (fun v hv'=>hv v (.tail _ hv')) (hv _ (.head _)) yJ yK
       . cases h
     . cases h
   . cases h
 . cases h
end
section
variable{P:Program}{w w' w0:World}{ρ ρ':Nat->Option Rl}{base:Nat}{ro ro':Nat->Prop}{S0:Pm}{Φ : Pm->Prop}{N:Nat}{B:Bs}{S:Sx}{a a0:Act}{C:Cx}{Q:Exit->Act->World->Prop}
theorem am8(h:a.tmps[d]? = some v):a.put (some d) v=a:=by
 unfold Act.put;have ah:=(jA.1 h).1;have:a.tmps.setIfInBounds d v=a.tmps:=by
  apply Array.ext_getElem?;intro i;rw [IA];split
  . rename_i e;subst e;rw [h]
  . rfl
 simp only [this]
theorem AD(h:nQ B S d=x)(hx:x ≠ .un):dD B S d=some x:=by
 unfold nQ at h
 cases hl:dD B S d with
 | none=>rw [hl] at h; exact absurd h.symm hx
 | some y =>
  rw [hl] at h;have h':y=x:=h;rw [h']
theorem aS.am9(H:aS w0 Φ N B S a w){c:Unit->Bool}(hd:nQ B S d = .bool c)(hp:bJ B S N d (.aR (c ()))=some S'):a.tmps[d]? = some (.bool (c ()))/\aS w0 Φ N B S' a w:=by
 obtain⟨S0,hS,ρ,ro,H⟩:=H;obtain⟨u,h1,h2⟩:=H.tm d _ (AD hd (by simp));have h3:=h2.oJ;subst h3;refine⟨h1,S0,hS,ρ,ro,?_⟩;have H2:=H.put hp (.aR (c ()));rwa [am8 h1] at H2
inductive pT (B:Bs) (N:Nat) (l:List Oper) (S:Sx) (o:Oper):Bool->Sx->Prop
 | free (h:o.guard=none):pT B N l S o true S
 | lit (j d:Nat) (b c:Bool) (oj:Oper) (h:o.guard=some (j,b)) (hj:l[j]? = some oj) (hd:oj.dst=some d) (hc:nQ B S d = .aR c):pT B N l S o (c==b) S
 | gone (j d:Nat) (b:Bool) (oj:Oper) (h:o.guard=some (j,b)) (hj:l[j]? = some oj) (hd:oj.dst=some d) (hc:nQ B S d = .ba []):pT B N l S o false S
 | ask (j d:Nat) (b:Bool) (c:Unit->Bool) (oj:Oper) (S':Sx) (h:o.guard=some (j,b)) (hj:l[j]? = some oj) (hd:oj.dst=some d) (hc:nQ B S d = .bool c) (hp:bJ B S N d (.aR (c ()))=some S'):pT B N l S o (c ()==b) S'
theorem aaj(h:o.guard=some (j,b))(hj:l[j]? = some oj)(hd:oj.dst=some d)(hu:a.tmps[d]? = some undef):Region.wanted o (yielded l.toArray a.tmps)=false:=by
 have h1:yielded l.toArray a.tmps j=none:=by
  unfold yielded;have h2:((l.toArray[j]?).bind (·.dst)).bind (a.tmps[·]?)=some undef:=by simp [hj,hd,hu]
  rw [h2];rfl
 unfold Region.wanted;rw [h];simp only [h1];rfl
theorem aak(h:af w ρ base ro (.ba []) v):v=undef:=by
 obtain⟨vs,rfl,hE⟩:=h.JF;rw [hE.none];rfl
theorem pT.seq(h:pT B N l S o r S')(H:aS w0 Φ N B S a w):Region.wanted o (yielded l.toArray a.tmps)=r/\aS w0 Φ N B S' a w:=by
 cases h with
 | free h=>exact⟨Xa h _,H⟩
 | lit j d b c oj h hj hd hc =>
  obtain⟨S0,hS,ρ,ro,HR⟩:=H;obtain⟨u,h1,h2⟩:=HR.tm d _ (AD hc (by simp));rw [h2.pD] at h1;exact⟨IZ h (by simpa using hj) hd h1 rfl,S0,hS,ρ,ro,HR⟩
 | gone j d b oj h hj hd hc =>
  obtain⟨S0,hS,ρ,ro,HR⟩:=H;obtain⟨u,h1,h2⟩:=HR.tm d _ (AD hc (by simp));rw [aak h2] at h1;exact⟨aaj h hj hd h1,S0,hS,ρ,ro,HR⟩
 | ask j d b c oj S' h hj hd hc hp =>
  obtain⟨h1,h2⟩:=H.am9 hc hp;exact⟨IZ h (by simpa using hj) hd h1 rfl,h2⟩
theorem KZ{k:Sx->Fm}(h:(cd C N B l (o::rest) S k).P):∃ r S1,pT B N l S o r S1 /\
 (r=true/\((∃ S2 vcs,nV C N B S1 o=some (S2,vcs)/\(∀ c∈vcs,c ())/\(cd C N B l rest S2 k).P)\/∃ f,mq C N B S1 o=some f/\(f fun S'=>cd C N B l rest S' k).P)\/r=false/\∃ S2,pN N B S1 o=some S2/\(cd C N B l rest S2 k).P):=by
 have jo:∀ S1,(match mq C N B S1 o with
  | some f=>f fun S'=>cd C N B l rest S' k
  | none=>match nV C N B S1 o with
   | some (S',[])=>cd C N B l rest S' k
   | some (S',vcs) => .vc vcs (cd C N B l rest S' k)
   | none => .ff (1000+rest.length):Fm).P->(∃ S2 vcs,nV C N B S1 o=some (S2,vcs)/\(∀ c∈vcs,c ())/\(cd C N B l rest S2 k).P)\/∃ f,mq C N B S1 o=some f/\(f fun S'=>cd C N B l rest S' k).P:=by
  intro S1 h
  cases xK:mq C N B S1 o with
  | some f =>
   rw [xK] at h;exact .inr ⟨f,rfl,h⟩
  | none =>
   rw [xK] at h;dsimp only at h;left;split at h
   . rename_i S2 hs;exact⟨S2,[],hs,(fun c hc=>by cases hc),h⟩
   . rename_i S2 vcs _ hs;exact⟨S2,vcs,hs,FU h.1,h.2⟩
   . exact h.elim
 have jq:∀ S1,(match pN N B S1 o with
  | some S'=>cd C N B l rest S' k
  | none => .ff 3:Fm).P->∃ S2,pN N B S1 o=some S2/\(cd C N B l rest S2 k).P:=by
  intro S1 h;split at h
  . rename_i S2 hs;exact⟨S2,hs,h⟩
  . exact h.elim
 unfold cd at h;dsimp only at h;split at h
 . rename_i hw;unfold nU at hw;split at hw
   . rename_i hg;exact⟨true,S,.free hg,.inl ⟨rfl,jo S h⟩⟩
   . rename_i j b hg;split at hw
     . rename_i d hd;obtain⟨oj,dW,gF⟩:=mQ.1 hd;split at hw
       . rename_i c hc;split at hw
         . rename_i tr;exact⟨_,S,.lit j d b c oj hg dW gF hc,.inl ⟨by rw [tr]; simp,jo S h⟩⟩
         . cases hw
       . cases hw
       . cases hw
       . cases hw
     . cases hw
 . rename_i hw;unfold nU at hw;split at hw
   . cases hw
   . rename_i j b hg;split at hw
     . rename_i d hd;obtain⟨oj,dW,gF⟩:=mQ.1 hd;split at hw
       . rename_i c hc;split at hw
         . cases hw
         . rename_i tr;exact⟨_,S,.lit j d b c oj hg dW gF hc,.inr ⟨by simpa using tr,jq S h⟩⟩
       . cases hw
       . rename_i hc;exact⟨false,S,.gone j d b oj hg dW gF hc,.inr ⟨rfl,jq S h⟩⟩
       . cases hw
     . cases hw
 . rename_i d c b hw;unfold nU at hw;split at hw
   . cases hw
   . rename_i j b' hg;split at hw
     . rename_i d' hd;obtain⟨oj,dW,gF⟩:=mQ.1 hd;split at hw
       . split at hw<;>cases hw
       . rename_i c' hc;injection hw with e1 e2 e3;subst e1; subst e2; subst e3;split at h
         . rename_i S1 S2 h1 h2;have lg:∀ S',bJ B S N d' (.aR (c' ()))=some S'->pT B N l S o (c' ()==b') S':=fun S' hp => .ask j d' b' c' oj S' hg dW gF hc hp;obtain⟨ht,hf⟩:=h
           cases uT:c' () with
           | true =>
            rw [uT] at lg;refine⟨_,S1,lg S1 h1,?_⟩;have h3:=ht uT
            cases b' with
            | true=>exact .inl ⟨rfl,jo S1 h3⟩
            | false=>exact .inr ⟨rfl,jq S1 h3⟩
           | false =>
            rw [uT] at lg;refine⟨_,S2,lg S2 h2,?_⟩;have h3:=hf uT
            cases b' with
            | true=>exact .inr ⟨rfl,jq S2 h3⟩
            | false=>exact .inl ⟨rfl,jo S2 h3⟩
         . exact h.elim
       . cases hw
       . cases hw
     . cases hw
 . exact h.elim
theorem FV(aE:cT P C.ty)(aF:nh P C w0 Φ){l:List Oper}{k:Sx->Fm}(hk:∀ S' a' w',aS w0 Φ N B S' a' w'->(k S').P->Q .normal a' w'):∀ {rest:List Oper} {S:Sx} {a:Act} {w:World},(cd C N B l rest S k).P->aS w0 Φ N B S a w->wpListIn Fence.wide 0 P l.toArray Q rest a w
 | [],S,a,w,h,H=>hk S a w H h
 | o::rest,S,a,w,h,H=>by
  obtain⟨r,S1,lg,AE⟩:=KZ h;obtain⟨hw,H1⟩:=lg.seq H;unfold wpListIn;rcases AE with ⟨rfl,⟨S2,vcs,hs,hv,h2⟩|⟨f,hs,h2⟩⟩|⟨rfl,S2,hs,h2⟩
  . rw [aC hw];exact (aaf aE aF H1 hs hv).wp fun a' w' H2=>FV aE aF hk h2 H2
  . rw [aC hw];exact (aai aE aF H1 hs h2).wp fun a' w' ⟨S',H2,h3⟩=>FV aE aF hk h3 H2
  . rw [aw (by rw [hw]; simp)];exact⟨fun _ _=>trivial,FV aE aF hk h2 (Q4 H1 hs)⟩
/- a region Y7 azN lQ order -/
inductive Path (C:Cx) (N:Nat) (B:Bs) (l:List Oper):Sx->List Oper->List (Option AV)->Sx->Prop
 | nil (S0:Sx):Path C N B l S0 [] [] S0
 | go {S0 S1 S2 S':Sx} {o:Oper} {rest:List Oper} {av:AV} {vcs:List VC} {ai:List (Option AV)} {d:Nat} (hw:pT B N l S0 o true S1) (hp:nM C.ty C.cs (bf B S1) (bM B S1) o.op=some (av,vcs)) (hv:∀ c∈vcs,c ()) (hd:o.dst=some d) (fg:bJ B S1 N d av=some S2) (h:Path C N B l S2 rest ai S'):Path C N B l S0 (o::rest) (some av::ai) S'
 | no {S0 S1 S2 S':Sx} {o:Oper} {rest:List Oper} {ai:List (Option AV)} {d:Nat} (hw:pT B N l S0 o false S1) (hd:o.dst=some d) (fg:bJ B S1 N d (.ba [])=some S2) (h:Path C N B l S2 rest ai S'):Path C N B l S0 (o::rest) (none::ai) S'
theorem aal(h:lv (ca C) o.op=true):J7 C N B S o=none:=by
 obtain⟨dst,op,ty,pos,aft,gd⟩:=o;cases op<;>first|rfl|(cases h; done)|skip
 rename_i c;obtain⟨callee,gJ,nO⟩:=c
 cases callee with
 | value f=>rfl
 | invoke r m=>rfl
 | builtin b=>cases b<;>first|rfl|cases h
theorem Q6{f:Nat}:∀ {cs:List fO},bD f (kn cs)=false->Ac cs f=none
 | [],_=>rfl
 | c::cs,h=>by
  simp only [kn,bD,kf] at h;unfold Ac;rw [aw (by rw [h.1]; simp)];exact Q6 h.2
theorem aam{f:Nat}(h:bD f (ca C)=false):bD f (kn C.fs)=false:=by
 unfold ca at h;split at h
 . simp only [bD,kf] at h;exact h.2
 . exact h
theorem aan(h:lv (ca C) o.op=true):Fp C N B S o=none:=by
 obtain⟨dst,op,ty,pos,aft,gd⟩:=o;cases op<;>first|rfl|skip
 rename_i c;obtain⟨callee,gJ,nO⟩:=c
 cases callee with
 | value x =>
  cases x with
  | func f =>
   have hm:bD f (ca C)=false:=by simpa [lv] using h
   unfold Fp;dsimp only;rw [Q6 (aam hm)]
  | tmp d=>rfl
  | const v=>rfl
  | global g=>rfl
 | invoke r m=>rfl
 | builtin b=>rfl
theorem aao(h:lv (ca C) o.op=true):Fq C N B S o=none:=by
 obtain⟨dst,op,ty,pos,aft,gd⟩:=o;cases op<;>first|rfl|skip
 rename_i c;obtain⟨callee,gJ,nO⟩:=c
 cases callee with
 | value x =>
  cases x with
  | func f =>
   have hm:bD f (ca C)=false:=by simpa [lv] using h
   unfold Fq;dsimp only;rw [Q6 (aam hm)]
  | tmp d=>rfl
  | const v=>rfl
  | global g=>rfl
 | invoke r m=>rfl
 | builtin b=>rfl
theorem aap(h:lv (ca C) o.op=true):Kg C N B S o=none:=by
 obtain⟨dst,op,ty,pos,aft,gd⟩:=o;unfold Kg;cases op<;>first|rfl|skip
 rename_i c;obtain⟨callee,gJ,nO⟩:=c;cases callee<;>first|rfl|skip
 rename_i v;cases v<;>first|rfl|skip
 rename_i f;have hf:bD f (ca C)=false:=by simpa [lv] using h
 simp only [hf,B8]
theorem aaq(h:lv (ca C) o.op=true):mq C N B S o=none:=by
 obtain⟨dst,op,ty,pos,aft,gd⟩:=o;cases op<;>first|rfl|(cases h; done)|skip
 rename_i c;obtain⟨callee,gJ,nO⟩:=c;cases callee<;>first|rfl|skip
 rename_i x;unfold mq;dsimp only
 cases hy:C.yl with
 | none=>cases bM B S x<;>rfl
 | some y =>
  have he:ca C=999999999::kn C.fs:=by unfold ca; rw [hy]
  cases x with
  | func f=>rfl
  | tmp d=>simp [lv,he,bD] at h
  | const v=>simp [lv,he,bD] at h
  | global g=>simp [lv,he,bD] at h
theorem Q7{l:List Oper}{k:Sx->Fm}:∀ {pre tail:List Oper} {S:Sx},(∀ o∈pre,lv (ca C) o.op=true/\∃ d,o.dst=some d)->(cd C N B l (pre++tail) S k).P->∃ ai S',Path C N B l S pre ai S'/\(cd C N B l tail S' k).P
 | [],tail,S,_,h=>⟨[],S,.nil S,h⟩
 | o::pre,tail,S,hp,h=>by
  obtain⟨r,S1,lg,AE⟩:=KZ h;obtain⟨ni,d,hd⟩:=hp o (.head _);have cQ:∀ o∈pre,lv (ca C) o.op=true/\∃ d,o.dst=some d:=fun o ho=>hp o (.tail _ ho);rcases AE with ⟨rfl,⟨S2,vcs,hs,hv,h2⟩|⟨f,hs,h2⟩⟩|⟨rfl,S2,hs,h2⟩
  rotate_left
  . rw [aaq ni] at hs;cases hs
  rotate_left
  . unfold nV at hs;split at hs
    . rename_i av KX uU;rw [hd] at hs;dsimp only at hs
      cases fg:bJ B S1 N d av with
      | none=>rw [fg] at hs; cases hs
      | some S3 =>
       rw [fg] at hs;cases hs;obtain⟨ai,S',h3,h4⟩:=Q7 cQ h2;exact⟨_,S',.go lg uU hv hd fg h3,h4⟩
    . rw [aal ni] at hs;dsimp only at hs;rw [aan ni] at hs;dsimp only at hs;rw [aao ni] at hs;dsimp only at hs;rw [aap ni] at hs;cases hs
  . unfold pN at hs;rw [hd] at hs;obtain⟨ai,S',h3,h4⟩:=Q7 cQ h2;exact⟨_,S',.no lg hd hs h3,h4⟩
theorem C8(h:bJ B S N d x=some S'):S'.e=S.e/\S'.n=S.n/\∀ y,dD B S' s=some y->s=d/\y=x\/s≠d/\dD B S s=some y:=by
 unfold bJ at h;split at h
 . cases h
 . cases h;refine⟨rfl,rfl,fun y hy => ?_⟩;unfold dD at hy ⊢;rw [cm] at hy;by_cases e:d=s
   . rw [aC e] at hy;injection hy with hy;exact .inl ⟨e.symm,hy.symm⟩
   . rw [aw e] at hy;exact .inr ⟨fun e'=>e e'.symm,hy⟩
def Claim(B:Bs)(l:List Oper)(a0:Act)(w:World)(ρ:Nat->Option Rl)(base:Nat)(ro:Nat->Prop)(L:Nat->Bool)(val:Nat->Value)(i:Nat)(S:Sx):Prop :=
 ∀ s x,dD B S s=some x->match qx l s i with
  | none=>∃ u,a0.tmps[s]? = some u/\af w ρ base ro x u
  | some j=>L j=true->af w ρ base ro x (val j)
theorem Claim.dec{val:Nat->Value}(h:Claim B l a0 w ρ base ro L val i S)(hd:pT B N l S o r S'):Claim B l a0 w ρ base ro L val i S'/\S'.e=S.e/\S'.n=S.n:=by
 cases hd with
 | free=>exact⟨h,rfl,rfl⟩
 | lit=>exact⟨h,rfl,rfl⟩
 | gone=>exact⟨h,rfl,rfl⟩
 | ask j d b c oj S' hg hj gF hc hp =>
  refine⟨fun s x hx => ?_,(C8 (s:=0) hp).1,(C8 (s:=0) hp).2.1⟩;rcases (C8 (s:=s) hp).2.2 x hx with ⟨rfl,rfl⟩|⟨_,h2⟩
  . have h3:=h s _ (AD hc (by simp));split
    . rename_i Q8;rw [Q8] at h3;obtain⟨u,h4,h5⟩:=h3;exact⟨u,h4,by rw [h5.oJ]; exact .aR _⟩
    . rename_i j' Q8;rw [Q8] at h3;intro hL;rw [(h3 hL).oJ];exact .aR _
  . exact h s x h2
theorem aar:qx l s (i+1)=if l[i]?.bind (·.dst)==some s then some i else qx l s i:=rfl
theorem Claim.put{val:Nat->Value}(h:Claim B l a0 w ρ base ro L val i S)(ho:l[i]? = some o)(hd:o.dst=some d)(hp:bJ B S N d av=some S')(hv:L i=true->af w ρ base ro av (val i)):Claim B l a0 w ρ base ro L val (i+1) S':=by
 intro s x hx;rw [aar,ho];simp only [Em,hd];rcases (C8 (s:=s) hp).2.2 x hx with ⟨rfl,rfl⟩|⟨h1,h2⟩
 . rw [aC (by simp)];exact hv
 . rw [aw (by simpa using fun e=>h1 e.symm)];exact h s x h2
theorem Path.yL{l:List Oper}{L:Nat->Bool}{val:Nat->Value}:∀ {rest:List Oper} {S S':Sx} {ai:List (Option AV)} {i:Nat},Path C N B l S rest ai S'->(∀ j o,rest[j]? = some o->l[i+j]? = some o)->Claim B l a0 w ρ base ro L val i S->(∀ j av,ai[j]? = some (some av)->L (i+j)=true->af w ρ base ro av (val (i+j)))->(∀ j,ai[j]? = some none->L (i+j)=true->val (i+j)=undef) ->
 (∀ m o,rest[m]? = some o->∃ S0 S1 r,Claim B l a0 w ρ base ro L val (i+m) S0/\Claim B l a0 w ρ base ro L val (i+m) S1/\S1.e=S.e/\pT B N l S0 o r S1/\((r=true/\∃ av vcs,ai[m]? = some (some av)/\nM C.ty C.cs (bf B S1) (bM B S1) o.op=some (av,vcs)/\∀ c∈vcs,c ())\/r=false/\ai[m]? = some none))/\Claim B l a0 w ρ base ro L val (i+rest.length) S'/\S'.e=S.e/\S'.n=S.n/\ai.length=rest.length
 | [],S,S',ai,i,h,_,hc,_,_=>by
  cases h;exact⟨fun m o hm=>by simp at hm,hc,rfl,rfl,rfl⟩
 | o::rest,S,S',ai,i,h,hl,hc,dX,Q9=>by
  cases h with
  | @go _ S1 S2 _ _ _ av vcs ai d hw hp hv hd fg h =>
   obtain⟨gL,jN,j8⟩:=hc.dec hw;have ho:l[i]? = some o:=by simpa using hl 0 o rfl
   have tw:Claim B l a0 w ρ base ro L val (i+1) S2:=gL.put ho hd fg (fun hL=>by simpa using dX 0 av rfl (by simpa using hL));obtain⟨q1,q2,q3,q4,q5⟩:=Path.yL (i:=i+1) h (fun j o' hj=>by rw [show i+1+j=i+(j+1) from oo]; exact hl (j+1) o' (by simpa using hj)) tw (fun j mi hj hL=>by rw [show i+1+j=i+(j+1) from oo] at hL ⊢; exact dX (j+1) mi (by simpa using hj) hL) (fun j hj hL=>by rw [show i+1+j=i+(j+1) from oo] at hL ⊢; exact Q9 (j+1) (by simpa using hj) hL);have fX:=C8 (s:=0) fg;refine⟨fun m o' hm => ?_,by rw [cB,show i+(rest.length+1)=i+1+rest.length from oo]; exact q2,by rw [q3,fX.1,jN],by rw [q4,fX.2.1,j8],by simp [q5]⟩
   cases m with
   | zero =>
    simp only [ox,bF] at hm;subst hm;exact⟨S,S1,true,hc,gL,jN,hw,.inl ⟨rfl,av,vcs,rfl,hp,hv⟩⟩
   | succ m =>
    exact aas
  | @no _ S1 S2 _ _ _ ai d hw hd fg h =>
   obtain⟨gL,jN,j8⟩:=hc.dec hw;have ho:l[i]? = some o:=by simpa using hl 0 o rfl
   have tw:Claim B l a0 w ρ base ro L val (i+1) S2:=gL.put ho hd fg (fun hL=>by rw [show val i=undef by simpa using Q9 0 rfl (by simpa using hL)]; exact aag);obtain⟨q1,q2,q3,q4,q5⟩:=Path.yL (i:=i+1) h (fun j o' hj=>by rw [show i+1+j=i+(j+1) from oo]; exact hl (j+1) o' (by simpa using hj)) tw (fun j mi hj hL=>by rw [show i+1+j=i+(j+1) from oo] at hL ⊢; exact dX (j+1) mi (by simpa using hj) hL) (fun j hj hL=>by rw [show i+1+j=i+(j+1) from oo] at hL ⊢; exact Q9 (j+1) (by simpa using hj) hL);have fX:=C8 (s:=0) fg;refine⟨fun m o' hm => ?_,by rw [cB,show i+(rest.length+1)=i+1+rest.length from oo]; exact q2,by rw [q3,fX.1,jN],by rw [q4,fX.2.1,j8],by simp [q5]⟩
   cases m with
   | zero =>
    simp only [ox,bF] at hm;subst hm;exact⟨S,S1,false,hc,gL,jN,hw,.inr ⟨rfl,rfl⟩⟩
   | succ m =>
    exact aas
theorem Ra(h:bJ B S N d x=some S')(hd:∀ d x,aj B.t d=some x->aj S.t d=none):∀ d x,aj B.t d=some x->aj S'.t d=none:=by
 unfold bJ at h;split at h
 . cases h
 . rename_i hc;simp only [gR,xG,vM,Ed,iC] at hc;cases h;intro s y hy;rw [cm,aw (by rintro rfl; rw [hc.1] at hy; cases hy)];exact hd s y hy
theorem pT.km(h:pT B N l S o r S')(hd:∀ d x,aj B.t d=some x->aj S.t d=none):∀ d x,aj B.t d=some x->aj S'.t d=none:=by
 cases h with
 | free=>exact hd
 | lit=>exact hd
 | gone=>exact hd
 | ask j d b c oj S2 hg hj gF hc hp=>exact Ra hp hd
theorem Path.km:∀ {rest:List Oper} {S S':Sx} {ai:List (Option AV)},Path C N B l S rest ai S'->(∀ d x,aj B.t d=some x->aj S.t d=none)->∀ d x,aj B.t d=some x->aj S'.t d=none:=by
 intro rest S S' ai h
 induction h with
 | nil=>exact id
 | go hw hp hv hd fg h ih =>
  intro er;exact ih (Ra fg (hw.km er))
 | no hw hd fg h ih =>
  intro er;exact ih (Ra fg (hw.km er))
theorem ana(h:bJ B S N d x=some S'):aj B.t d=none:=by
 unfold bJ at h;split at h
 . cases h
 . rename_i hc;simp only [gR,xG,vM,Ed,iC] at hc;exact hc.1
theorem Path.noB{ai:List (Option AV)}(h:Path C N B l S rest ai S'):∀ o∈rest,∀ d,o.dst=some d->aj B.t d=none:=by
 induction h with
 | nil=>intro o ho; cases ho
 | go hw hp hv hd fg h ih =>
  exact aat
 | no hw hd fg h ih =>
  exact aat
end
end Go.Proofs.YtamjbkaclhgffaaGreat
