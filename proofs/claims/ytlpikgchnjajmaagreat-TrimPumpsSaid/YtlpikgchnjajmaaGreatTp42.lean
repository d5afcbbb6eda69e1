/-
  Arguments opened, in general: a slice reads as rows; the sizes that the form of the claims allows.
-/
import Derived.Test.YtlpikgchnjajmaaGreatTp35
import Derived.ProofKit
import Derived.SizedLaws
set_option linter.all false
namespace Go.Proofs.YtlpikgchnjajmaaGreat
open Go.ChangeShapes Go.Deep Go.RowKit Go.WideShapes
variable{fs:Array Field}{n:Int}{k:IntKind}{ai:List AV}{j:Nat}{e t:TypeId}
theorem agY{T:Type}{p:Nat->T->Prop}:∀ (n:Nat),(∀ i,i<n->∃ x,p i x)->∃ l:List T,l.length=n/\∀ i (h:i<l.length),p i l[i]
 | 0,_=>⟨[],rfl,by simp⟩
 | n+1,h=>by
  obtain⟨l,hl,hp⟩:=agY n (fun i hi=>h i oo);obtain⟨x,hx⟩:=h n oo;refine⟨l ++ [x],by simp [hl],fun i hi => ?_⟩;by_cases e:i<l.length
  . rw [List.getElem_append_left e];exact hp i e
  . have e2:i=n:=by simp at hi; omega
    subst e2;rw [List.getElem_append_right oo];simpa using hx
theorem agZ{H:Type}{enc:TypeId×Value->H}{P:Program}(hl:laidOutB P=true){W W':World}(hb:Below W.heap.size W W'):∀ {ts:List TypeId} {vs:List Value} {ds:List (DataW H)} {ps:List MemPlace},(ts.all fun t=>P.readableRec t&&decide (t<P.types.size))=true ->
 DataW.TrodAll enc P W 0 (fun _=>true) true ts vs ds ps->(∀ x∈ps,x.block<W.heap.size)->DataW.TrodAll enc P W' 0 (fun b=>decide (b<W.heap.size)) true ts vs ds ps
 | [],vs,ds,ps,_,h,_=>by
  obtain⟨rfl,rfl,rfl⟩:=trodAll_nil h;exact trodAll_mk0
 | t::ts,vs,ds,ps,ht,h,aj=>by
  obtain⟨v,vs',d,ds',p,q,rfl,rfl,rfl,hd,hr⟩:=trodAll_cons h;simp only [H9,au,aI] at ht;exact⟨p,q,Below.trod hl ht.1.1 ht.1.2 hd hb (fun x hx=>aj x (ahn _ hx)),agZ hl hb (by simpa using ht.2) hr (fun x hx=>aj x (List.mem_append_right _ hx)),rfl⟩
theorem Tryz.own:ownKnob Tryz.prog.godebug=none:=by kernel_rfl
theorem Tryz.laidOut:laidOutB Tryz.prog=true:=by kernel_rfl
section
variable{H:Type}{enc:TypeId×Value->H}{P:Program}{w:World}{base:Nat}{held:Bool}
def Fits(P:Program)(t:TypeId)(d:DataW H):Prop:=∀ k∈d.weights P t,k<=140737488351232
theorem ag0{t:TypeId}:∀ {ds:List (DataW H)} {d:DataW H},d∈ds->∀ k∈d.weights P t,k∈DataW.weightsAll P t ds
 | [],_,h,_,_=>by cases h
 | d0::ds,d,h,k,hk=>by
  unfold DataW.weightsAll;rw [ku];rcases fZ.1 h with h|h
  . subst h; exact .inl hk
  . exact .inr (ag0 h k hk)
theorem Fits.elem{Hu sp:List (DataW H)}{d:DataW H}(ht:P.underlying t=some (.slice e))(h:Fits P t (.slice Hu sp))(hd:d∈Hu):Fits P e d:=fun k hk=>h k (by
 simp only [DataW.weights,ht,fZ,ku];exact .inr (.inl (ag0 hd k hk)))
theorem Fits.size{Hu sp:List (DataW H)}(ht:P.underlying t=some (.slice e))(h:Fits P t (.slice Hu sp)):(Hu.length+sp.length)*P.bytesOf e<=140737488351232:=h _ (by
 simp only [DataW.weights,ht,fZ];exact .inl trivial)
theorem Fits.field{parts:List (DataW H)}{f:Field}{d:DataW H}(ht:P.underlying t=some (.struct fs))(h:Fits P t (.agg parts))(hj:fs[j]? = some f)(hd:parts[j]? = some d):Fits P f.type d:=fun k hk=>h k (by
 simp only [DataW.weights,ht];exact DataW.weights_mem_each (j:=j) (t:=f.type) (by simp [hj]) hd k hk)
theorem awh{ts:List TypeId}{ds:List (DataW H)}(h:(DataW.weightsEach P ts ds).all (· <= reachBytes)=true){d:DataW H}(ht:ts[j]? = some t)(hd:ds[j]? = some d):Fits P t d:=fun k hk=>by
 have:=dK.1 h _ (DataW.weights_mem_each ht hd k hk);exact tW this
theorem awi{T:Type}{cells:T->List Value}{wf:T->Prop}{t e size bytes fuel:Nat}{v:Value}{x:DataW H×List MemPlace}(ht:P.underlying t=some (.slice e))(hC:P.cellsOf e=size)(h0:0<size)(hB:P.bytesOf e=bytes)(gR:∀ n cs (y:DataW H×List MemPlace),DataW.trod enc P w base (fun _=>true) held n e cs=some y->Fits P e y.1->∃ b:T,cs=cells b/\wf b)(h:DataW.trod enc P w base (fun _=>true) held fuel t [v]=some x)(hf:Fits P t x.1) :
 ∃ (A:Option Addr) (l:List T) (c:Nat),v = .slice A l.length c/\Rd w w.heap.size size A (l.map cells)/\(∀ b∈l,wf b)/\l.length*bytes<=140737488351232/\l.length<=c:=by
 rcases open_slice ht h with ⟨aC,hx⟩|⟨a,len,cap,m,n,D,Pl,aC,hb,hl,hm,Gp,hx,hi⟩
 . injection aC with hv _;subst hv;exact⟨none,[],0,rfl,Rd.nil _ _ _ _,by simp,by simp,by simp⟩
 . injection aC with hv _;subst hv;subst hx;simp only [eH] at Gp;subst Gp;have aN:=Fits.size ht hf;rw [hB] at aN;simp only [iQ,Vu] at aN;have key:∀ i,i<len->∃ b:T,wf b/\(cells b).length=size/\∀ j u,(cells b)[j]? = some u->w.cell? ((a.add (i*size)).add j)=some u:=fun i aj=>by
    obtain⟨cs,hc,Ti⟩:=hi i oo;obtain⟨b,rfl,hw⟩:=gR n cs (D i,Pl i) Ti (Fits.elem ht hf (List.mem_map_of_mem (gP.2 aj)));obtain⟨_,cH,hat⟩:=World.cells?_some hc;rw [hC] at cH hat hc;refine⟨b,hw,cH,fun j u hu => ?_⟩;rw [hat j (by rw [<- cH]; exact (cM.1 hu).1)];exact hu
   obtain⟨l,nh,hp⟩:=agY len key;subst nh;refine⟨some a,l,m,rfl,fun k cs hk => ?_,fun b aW => ?_,e8 (xr bytes oo) aN,oo⟩
   . rw [gY] at hk;obtain⟨b,sR,rfl⟩:=kV.1 hk;have lO:k<l.length:=(cM.1 sR).1;obtain⟨_,cH,hc⟩:=hp k lO;have hbe:l[k]=b:=by rw [bp lO] at sR; injection sR
     rw [hbe] at cH hc;have hu0:(cells b)[0]? = some ((cells b)[0]'oo):=bp oo;have oU:=hc 0 _ hu0;have aj:=block_lt_of_cell oU;obtain⟨_,ayJ,hcz⟩:=hp 0 oo;have uk:=World.cell?_spot (hcz 0 _ (bp oo));obtain⟨ab,ao,asp⟩:=a;have has:asp=none:=by simpa [Addr.add] using uk
     subst has;refine⟨ab,ao,rfl,by simpa [sE] using aj,cH,fun j u hu => ?_⟩;have:=hc j u hu;rwa [sE,sE] at this
   . obtain⟨k,hk,rfl⟩:=M5.1 aW;exact (hp k hk).1
end
def MW:Sg->Sg->Bool
 | .int k,.int k'=>decide (k=k')
 | .bool,.bool=>true
 | .str,.str=>true
 | .sl t,.sl t'=>decide (t=t')
 | _,_=>false
def Dx:List Sg->List Sg->Bool
 | [],[]=>true
 | a::l,b::m=>MW a b&&Dx l m
 | _,_=>false
theorem awn{a b:Sg}(h:MW a b=true):a=b:=by
 unfold MW at h;split at h<;>first|rfl|(simp only [aI] at h; rw [h])|cases h
theorem ag2:∀ {a b:List Sg},Dx a b=true->a=b
 | [],[],_=>rfl
 | a::l,b::m,h=>by
  simp only [Dx,au] at h;rw [awn h.1,ag2 h.2]
 | [],_::_,h=>by cases h
 | _::_,[],h=>by cases h
def Hv(P:Program)(g:TypeId->Option (List Sg)):List Field->Nat->Option (List Sg)
 | [],_=>some []
 | f::fs,o=>match g f.type,Hv P g fs (o+P.cellsOf f.type) with
  | some a,some b=>if f.offset==o&&a.length==P.cellsOf f.type then some (a++b) else none
  | _,_=>none
def Tc.mV:Tc->Nat
 | .int=>17592186043904
 | _=>140737488351232
def Hx(P:Program)(tc:List (Nat×Tc)):Nat->TypeId->Option (List Sg)
 | 0,_=>none
 | n+1,T=>match P.underlying T with
  | some (.int k)=>some [.int k]
  | some .bool=>some [.bool]
  | some .string=>some [.str]
  | some (.slice e)=>match ak tc e with
   | some t=>match Hx P tc n e with
    | some ss=>if Dx ss (B6 t)&&P.cellsOf e==t.size&&decide (140737488351232<(t.mV+1)*P.bytesOf e) then some [.sl t] else none
    | none=>none
   | none=>none
  | some (.struct fs)=>match Hv P (Hx P tc n) fs.toList 0 with
   | some ss=>if ss.length==P.cellsOf T then some ss else none
   | none=>none
  | _=>none
def Sh:Sg->AV->Prop
 | .int k,x=>∃ n:Int,x = .int k fun _=>n
 | .bool,x=>∃ b:Bool,x = .bool fun _=>b
 | .str,x=>∃ s:ByteArray,x = .str fun _=>s
 | .sl t,x=>∃ l:List t.el,x = .sl false t fun _=>l
 | _,_=>False
def vB:List Sg->List AV->Prop
 | [],l=>l = []
 | s::ss,l=>∃ x xs,l=x::xs/\Sh s x/\vB ss xs
def mY:Nat->AV->Prop
 | 0,_=>True
 | _+1,.int k n=>(Lit.int k (n ())).wf=true
 | _+1,.str s=>(s ()).size<=140737488351232
 | d+1,.sl _ t l=>(l ()).length<=t.mV/\∀ e∈l (),∀ x∈aO false t (fun _=>e),mY d x
 | _,_=>True
theorem mY.down:∀ (d) (x),mY (d+1) x->mY d x
 | 0,_,_=>trivial
 | d+1,.int _ _,h=>h
 | d+1,.str _,h=>h
 | d+1,.sl _ _ _,h=>⟨h.1,fun e he x hx=>mY.down d x (h.2 e he x hx)⟩
 | d+1,.un,_=>trivial
 | d+1,.lit _ _,_=>trivial
 | d+1,.bool _,_=>trivial
 | d+1,.aG _,_=>trivial
 | d+1,.nil,_=>trivial
 | d+1,.wide _ _ _ _,_=>trivial
 | d+1,.bg _ _,_=>trivial
 | d+1,.ptr _ _,_=>trivial
 | d+1,.own _,_=>trivial
 | d+1,.cY _ _ _ _,_=>trivial
 | d+1,.cE _ _ _ _,_=>trivial
 | d+1,.fw _ _ _,_=>trivial
 | d+1,.fJ _,_=>trivial
 | d+1,.mp _,_=>trivial
 | d+1,.bq _,_=>trivial
 | d+1,.it _ _,_=>trivial
 | d+1,.agg _,_=>trivial
 | d+1,.aU _,_=>trivial
 | d+1,.fn _ _,_=>trivial
theorem vB.app:∀ {a b:List Sg} {l m:List AV},vB a l->vB b m->vB (a++b) (l++m)
 | [],b,l,m,h,h2=>by
  rw [show l = [] from h];exact h2
 | s::a,b,l,m,h,h2=>by
  obtain⟨x,xs,rfl,h3,h4⟩:=h;exact⟨x,xs++m,rfl,h3,h4.app h2⟩
set_option maxHeartbeats 1000000 in
theorem awo{t:Tc}(h:vB (B6 t) ai)(hq:(B6 t).all (fun s=>match s with | .wide _=>false|_=>true)=true):∃ e,ai=aO false t fun _=>e:=by
 cases t<;>first
  | (exact absurd hq (by decide))
  | (simp only [B6] at h
     repeat (obtain⟨_,_,rfl,⟨_,rfl⟩,h⟩:=h)
     first
      | exact⟨(_:Int),rfl⟩
      | exact⟨⟨_,_⟩,rfl⟩
      | exact⟨⟨_,_,_⟩,rfl⟩
      | exact⟨⟨_,_,_,_⟩,rfl⟩
      | exact⟨⟨_,_,_,_,_⟩,rfl⟩
      | exact⟨⟨_,_,_,_,_,_⟩,rfl⟩
      | exact⟨⟨_,_,_,_,_,_,_,_,_⟩,rfl⟩
      | exact⟨⟨_,_,_,_,_,_,_,_,_,_,_,_⟩,rfl⟩
      | exact⟨⟨⟨_,_,_,_,_,_,_,_,_⟩,_,_,_⟩,rfl⟩
      | exact⟨⟨_,_,_,_,_,_,_,_,_,_,_,_,_,_,_,_,_⟩,rfl⟩
      | exact⟨⟨⟨_,_,_,_,_,_,_,_,_,_,_,_,_,_,_,_,_⟩,⟨_,_,_,_,_,_,_,_,_,_,_,_,_,_,_,_,_⟩⟩,rfl⟩)
section
variable{H:Type}{enc:TypeId×Value->H}{P:Program}{w:World}{held:Bool}{tc:List (Nat×Tc)}
def tQ(w:World):Nat->Prop:=fun b=>b<w.heap.size
theorem ag3{g:TypeId->Option (List Sg)}{m:Nat}{cs:List Value}{T:TypeId}{fields:Array Field}{parts:List (DataW H×List MemPlace)}(hT:P.underlying T=some (.struct fields))(jB:Fits P T (.agg (parts.map (·.1))))(hg:∀ (f:Field) (ss) (cs) (y),g f.type=some ss->DataW.trod enc P w 0 (fun _=>true) held m f.type cs=some y->Fits P f.type y.1->∃ ai,aQ w (fun _=>none) 0 (tQ w) ai cs/\vB ss ai/\∀ x∈ai,mY 4 x)(ag4:∀ (i:Nat) (f),fields[i]? = some f->DataW.trod enc P w 0 (fun _=>true) held m f.type ((cs.drop f.offset).take (P.cellsOf f.type))=parts[i]?)(cO:parts.length=fields.size) :
 ∀ (fs) (i o) (ss),fields.toList.drop i=fs->Hv P g fs o=some ss->∃ ai,aQ w (fun _=>none) 0 (tQ w) ai ((cs.drop o).take ss.length)/\vB ss ai/\∀ x∈ai,mY 4 x
 | [],i,o,ss,hi,h=>by
  simp only [Hv,bI] at h;subst h;exact⟨[],by simpa using aQ.nil,rfl,by simp⟩
 | f::fs,i,o,ss,hi,h=>by
  unfold Hv at h;split at h
  . rename_i a b ha hb;split at h
    . rename_i hc;simp only [au,b9] at hc;obtain⟨gG,s8⟩:=hc;cases h;have xB:i<fields.toList.length:=by
       rcases cw i fields.toList.length with h|h
       . exact h
       . rw [List.drop_of_length_le h] at hi; cases hi
      rw [vD xB] at hi;injection hi with h1 h2;have hf:fields[i]? = some f:=by rw [<- h1]; simp
      have hp:=ag4 i f hf;have hip:i<parts.length:=by rw [cO]; simpa using xB
      rw [bp hip] at hp;obtain⟨ai,q1,q2,q3⟩:=hg f a _ _ ha hp (Fits.field hT jB hf (by simp [hip]));obtain⟨bvs,r1,r2,r3⟩:=ag3 hT jB hg ag4 cO fs (i+1) (o+P.cellsOf f.type) b h2 hb;refine⟨ai++bvs,?_,q2.app r2,fun x hx => ?_⟩
      . rw [gG] at q1;have e:(cs.drop o).take (a++b).length=(cs.drop o).take (P.cellsOf f.type)++(cs.drop (o+P.cellsOf f.type)).take b.length:=by
         rw [ej,s8,List.take_add,tX]
        rw [e];exact q1.append r1
      . rcases ku.1 hx with h|h
        . exact q3 x h
        . exact r3 x h
    . cases h
  . cases h
theorem Ve:∀ (n m) (T) (ss) (cs) (y),Hx P tc n T=some ss->DataW.trod enc P w 0 (fun _=>true) held m T cs=some y->Fits P T y.1->∃ ai,aQ w (fun _=>none) 0 (tQ w) ai cs/\vB ss ai/\∀ x∈ai,mY 4 x
 | 0,_,_,_,_,_,h,_,_=>by cases h
 | n+1,m,T,ss,cs,y,h,ht,hf=>by
  unfold Hx at h;split at h
  . rename_i k hu;cases h;obtain⟨z,rfl,_,hw⟩:=DataW.trod_int hu ht;refine⟨[.int k fun _=>z],.cons (.int k _) .nil,⟨_,_,rfl,⟨z,rfl⟩,rfl⟩,?_⟩;intro x hx;rw [kq.1 hx];exact hw
  . rename_i hu;cases h;obtain⟨z,rfl,_⟩:=DataW.trod_bool hu ht;refine⟨[.bool fun _=>z],.cons (.bool _) .nil,⟨_,_,rfl,⟨z,rfl⟩,rfl⟩,?_⟩;intro x hx;rw [kq.1 hx];trivial
  . rename_i hu;cases h;obtain⟨z,rfl,hy,_⟩:=DataW.trod_string hu ht;refine⟨[.str fun _=>z],.cons (.str _) .nil,⟨_,_,rfl,⟨z,rfl⟩,rfl⟩,?_⟩;intro x hx;rw [kq.1 hx];exact hf z.size (by rw [hy]; simp [DataW.weights,hu])
  . rename_i e hu;split at h
    . rename_i t htc;split at h
      . rename_i se oT;split at h
        . rename_i hc;cases h;simp only [au,b9,aI] at hc;obtain⟨⟨gG,s8⟩,mN⟩:=hc;have oC:=ag2 gG;have hq:(B6 t).all (fun s=>match s with | .wide _=>false|_=>true)=true:=by
           rw [<- oC,dK];intro s hs;have:∀ {a b:List Sg},Dx a b=true->∀ s∈a,(match s with | .wide _=>false|_=>true)=true:=by
            intro a
            induction a with
            | nil=>intro b _ s hs; cases hs
            | cons x a ih =>
             intro b h s hs
             cases b with
             | nil=>cases h
             | cons z b =>
              simp only [Dx,au] at h;rcases fZ.1 hs with rfl|hs
              . have h1:=h.1;unfold MW at h1;split at h1<;>first|rfl|cases h1
              . exact ih h.2 s hs
           exact this gG s hs
          have jb:∃ v,cs = [v]:=by
           rcases open_slice hu ht with ⟨aC,_⟩|⟨a,len,cap,m',n',D,Pl,aC,_⟩<;>exact⟨_,aC⟩
          obtain⟨v,rfl⟩:=jb;obtain⟨A,l,c,hv,hr,hw,hby,LO⟩:=awi (T:=List Value×t.el) (cells:=fun p=>p.1) (wf:=fun p=>aQ w (fun _=>none) 0 (tQ w) (aO false t fun _=>p.2) p.1/\∀ x∈aO false t (fun _=>p.2),mY 4 x) (size:=t.size) (bytes:=P.bytesOf e) hu s8 (ajk t) rfl (fun n' cs' y' h1 h2=>by
           obtain⟨ai,q1,q2,q3⟩:=Ve n n' e se cs' y' oT h1 h2;rw [oC] at q2;obtain⟨el,rfl⟩:=awo q2 hq;exact⟨(cs',el),rfl,q1,q3⟩) ht hf
          have nh:l.length<=t.mV:=by
           rcases cw t.mV l.length with Vf|Vf
           . have:(t.mV+1)*P.bytesOf e<=l.length*P.bytesOf e:=xr _ Vf;omega
           . exact Vf
          refine⟨[.sl false t fun _=>l.map (·.2)],.cons ?_ .nil,⟨_,_,rfl,⟨_,rfl⟩,rfl⟩,?_⟩
          . rw [hv];have key:ah w (fun _=>none) 0 (tQ w) (.sl false t fun _=>l.map (·.2)) (.slice A (l.map (·.2)).length c):=by
             refine ah.sl (ro:=tQ w) false t (fun _=>l.map (·.2)) A c (l.map (·.1)) (by simp) (by simpa using LO) hr (fun a ha aT=>Rd.bound hr aT a ha) (fun h=>by cases h) fun k cs j x v h1 h2 h3 => ?_;rw [gY] at h1;obtain⟨p,hp,rfl⟩:=kV.1 h1;have hpm:=hw p (gX hp);have e1:(l.map (·.2)).getD k t.aa=p.2:=by simp [ba,hp]
             rw [e1] at h2;exact hpm.1.2 j x v h2 h3
            rwa [iQ] at key
          . intro x hx;rw [kq.1 hx];refine⟨by rw [iQ]; exact nh,fun el gR z hz => ?_⟩;obtain⟨p,hp,rfl⟩:=iq.1 gR;exact mY.down 3 z ((hw p hp).2 z hz)
        . cases h
      . cases h
    . cases h
  . rename_i fs hu;split at h
    . rename_i ss' iw;split at h
      . rename_i hlen;cases h;simp only [b9] at hlen;obtain⟨xs,n2,rfl,hx,cH,G3,hg⟩:=DataW.trod_struct hu ht;subst hx;obtain⟨ai,q1,q2,q3⟩:=ag3 (m:=n2) hu hf (fun f ss cs y h1 h2 h3=>Ve n n2 f.type ss cs y h1 h2 h3) hg G3 fs.toList 0 0 ss rfl iw;rw [zr,lL oo] at q1;exact⟨ai,q1,q2,q3⟩
      . cases h
    . cases h
  . cases h
section
variable{b0 m:Nat}{r:Reach}{T:TypeId}{v:Value}{y:DataW H×List MemPlace}
theorem open_int(hT:P.underlying T=some (.int k))(hv:Value.okWide P w r b0 T v)(ht:DataW.trod enc P w 0 (fun _=>true) held m T v.cells.toList=some y):∃ n,ah w (fun _=>none) 0 (tQ w) (.int k fun _=>n) v/\(Lit.int k n).wf=true:=by
 obtain⟨n,rfl⟩:=okWide_int hT hv;obtain⟨z,e,_,hw⟩:=DataW.trod_int hT ht;have e2 : [Value.int k n] = [Value.int k z]:=e;injection e2 with e2;injection e2 with _ e2;subst e2;exact⟨n,.int k _,hw⟩
theorem awr{ss:List Sg}{n:Nat}(hT:P.underlying T=some (.struct fs))(ho:Hx P tc n T=some ss)(hv:Value.okWide P w r b0 T v)(ht:DataW.trod enc P w 0 (fun _=>true) held m T v.cells.toList=some y)(hf:Fits P T y.1):∃ ai,ah w (fun _=>none) 0 (tQ w) (.agg ai) v/\vB ss ai/\∀ x∈ai,mY 4 x:=by
 obtain⟨cs,rfl,aN⟩:=okWide_struct hT hv;obtain⟨ai,q1,q2,q3⟩:=Ve (tc:=tc) n m T _ _ _ ho ht hf;refine⟨ai,?_,q2,q3⟩;have e:Value.agg cs = .agg cs.toList.toArray:=by simp
 rw [e];exact .agg _ _ q1.1 q1.2
end
end
theorem aws{c:aH}{res:xS}(hc:aK Tryz.prog c)(jk:c.go ai=some res)(er:res.av = .bool fun _=>true){W:World}{dt:List Value}(hE:aQ W (fun _=>none) 0 (tQ W) ai dt)(jm:res.pre ()):Calls Tryz.prog c.f dt.toArray W fun e w'=>e = .returned (.bool true)/\Below W.heap.size W w' :=
 (hc.2 ai res jk W (tQ W) dt (fun _ h=>h) hE jm).mono fun e w' ⟨v,h1,h2,h3⟩=>by
  rw [er] at h3;rw [h1,h3.oR];exact⟨rfl,h2⟩
theorem lJ(h:(Lit.int k n).wf=true):k.min<=n/\n<=k.max:=by
 simpa [Lit.wf] using h
open Go.RowKit
theorem awt{p:iT}(h:∀ x∈aO false .fc (fun _=>p),mY 3 x):nH p:=by
 have h1:=h (.int .u8 fun _=>p.cV) (by simp [aO]);have h2:=h (.int .u8 fun _=>p.row) (by simp [aO]);have h3:=h (.int .u8 fun _=>p.cW) (by simp [aO]);exact⟨lJ h1,lJ h2,lJ h3⟩
theorem awu{d:iU}(h:∀ x∈aO false .fO (fun _=>d),mY 3 x):sq d:=by
 have h1:=h (.int .u8 fun _=>d.ax) (by simp [aO]);have h2:=h (.int .u8 fun _=>d.af) (by simp [aO]);exact⟨lJ h1,lJ h2⟩
theorem awv{l:List iT}{d:List iU}(h0:mY 4 (.sl false .fc fun _=>l))(h1:(Lit.int .u32 n).wf=true)(h2:mY 4 (.sl false .fO fun _=>d)):((∀ p∈l,nH p)/\l.length<=140737488351232)/\(0<=n/\n<=4294967295)/\(∀ x∈d,sq x)/\d.length<=140737488351232 :=
 ⟨⟨fun p hp=>awt (h0.2 p hp),h0.1⟩,lJ h1,fun x hx=>awu (h2.2 x hx),h2.1⟩
theorem aww{x:j8}(h:∀ y∈aO false .ij (fun _=>x),mY 3 y):x.ok:=by
 have h1:=h (.int .u8 fun _=>x.af) (by simp [aO]);have h2:=h (.int .u8 fun _=>x.steps) (by simp [aO]);have h3:=h (.int .i16 fun _=>x.x) (by simp [aO]);have h4:=h (.int .i16 fun _=>x.y) (by simp [aO]);have h5:=h (.int .i16 fun _=>x.z) (by simp [aO]);have h6:=h (.int .u16 fun _=>x.xJ) (by simp [aO]);exact⟨lJ h1,lJ h2,lJ h3,lJ h4,lJ h5,lJ h6⟩
theorem awx(h:∀ y∈aO false .u8 (fun _=>n),mY 3 y):0<=n/\n<=255:=lJ (h (.int .u8 fun _=>n) (by simp [aO]))
theorem awy{x:p6}(h:∀ y∈qR (fun _=>x),mY 4 y):vA x:=by
 have h0:=h (.sl false .fc fun _=>x.cG) (by simp [qR]);have h1:=h (.int .u32 fun _=>x.cQ) (by simp [qR]);have h2:=h (.sl false .fO fun _=>x.bO) (by simp [qR]);have h3:=h (.sl false .ij fun _=>x.ow) (by simp [qR]);have h4:=h (.sl false .u8 fun _=>x.fill) (by simp [qR]);have h5:=h (.int .u16 fun _=>x.t) (by simp [qR]);have h6:=h (.int .u16 fun _=>x.l) (by simp [qR]);have h7:=h (.int .u16 fun _=>x.b) (by simp [qR]);have h8:=h (.int .i16 fun _=>x.lf) (by simp [qR]);exact⟨awv h0 h1 h2,⟨⟨fun y hy=>aww (h3.2 y hy),h3.1⟩,fun y hy=>awx (h4.2 y hy),h4.1⟩,lJ h5,lJ h6,lJ h7,lJ h8⟩
end Go.Proofs.YtlpikgchnjajmaaGreat
