/-
  Arguments opened: what the form of the claims says of them, as trees of the abstract run.
-/
import Derived.Test.YtamjbkaclhgffaaGreatSi33
set_option linter.all false
namespace Go.Proofs.YtamjbkaclhgffaaGreat
open Go.ChangeShapes Go.Deep Go.RowKit Go.WideShapes
variable{n:Int}{ai:List AV}
def NJ:Sg->Sg->Bool
 | .int k,.int k'=>decide (k=k')
 | .bool,.bool=>true
 | .str,.str=>true
 | .sl t,.sl t'=>decide (t=t')
 | _,_=>false
def Ea:List Sg->List Sg->Bool
 | [],[]=>true
 | a::l,b::m=>NJ a b&&Ea l m
 | _,_=>false
theorem ayD{a b:Sg}(h:NJ a b=true):a=b:=by
 unfold NJ at h;split at h<;>first|rfl|(simp only [aL] at h; rw [h])|cases h
theorem aiT:∀ {a b:List Sg},Ea a b=true->a=b
 | [],[],_=>rfl
 | a::l,b::m,h=>by
  simp only [Ea,ax] at h;rw [ayD h.1,aiT h.2]
 | [],_::_,h=>by cases h
 | _::_,[],h=>by cases h
def Iv(P:Program)(g:TypeId->Option (List Sg)):List Field->Nat->Option (List Sg)
 | [],_=>some []
 | f::fs,o=>match g f.type,Iv P g fs (o+P.cellsOf f.type) with
  | some a,some b=>if f.offset==o&&a.length==P.cellsOf f.type then some (a++b) else none
  | _,_=>none
def Tc.mK:Tc->Nat
 | .int=>17592186043904
 | _=>140737488351232
def Iw(P:Program)(tc:List (Nat×Tc)):Nat->TypeId->Option (List Sg)
 | 0,_=>none
 | n+1,T=>match P.underlying T with
  | some (.int k)=>some [.int k]
  | some .bool=>some [.bool]
  | some .string=>some [.str]
  | some (.slice e)=>match aj tc e with
   | some t=>match Iw P tc n e with
    | some ss=>if Ea ss (CI t)&&P.cellsOf e==t.size&&decide (140737488351232<(t.mK+1)*P.bytesOf e) then some [.sl t] else none
    | none=>none
   | none=>none
  | some (.struct fs)=>match Iv P (Iw P tc n) fs.toList 0 with
   | some ss=>if ss.length==P.cellsOf T then some ss else none
   | none=>none
  | _=>none
def Sh:Sg->AV->Prop
 | .int k,x=>∃ n:Int,x = .int k fun _=>n
 | .bool,x=>∃ b:Bool,x = .bool fun _=>b
 | .str,x=>∃ s:ByteArray,x = .str fun _=>s
 | .sl t,x=>∃ l:List t.el,x = .sl false t fun _=>l
 | _,_=>False
def xu:List Sg->List AV->Prop
 | [],l=>l = []
 | s::ss,l=>∃ x xs,l=x::xs/\Sh s x/\xu ss xs
def mO:Nat->AV->Prop
 | 0,_=>True
 | _+1,.int k n=>(Lit.int k (n ())).wf=true
 | _+1,.str s=>(s ()).size<=140737488351232
 | d+1,.sl _ t l=>(l ()).length<=t.mK/\∀ e∈l (),∀ x∈aP false t (fun _=>e),mO d x
 | _,_=>True
theorem mO.down:∀ (d) (x),mO (d+1) x->mO d x
 | 0,_,_=>trivial
 | d+1,.int _ _,h=>h
 | d+1,.str _,h=>h
 | d+1,.sl _ _ _,h=>⟨h.1,fun e he x hx=>mO.down d x (h.2 e he x hx)⟩
 | d+1,.un,_=>trivial
 | d+1,.lit _ _,_=>trivial
 | d+1,.bool _,_=>trivial
 | d+1,.aR _,_=>trivial
 | d+1,.nil,_=>trivial
 | d+1,.wide _ _ _ _,_=>trivial
 | d+1,.bh _ _,_=>trivial
 | d+1,.ptr _ _,_=>trivial
 | d+1,.own _,_=>trivial
 | d+1,.cZ _ _ _ _,_=>trivial
 | d+1,.cG _ _ _ _,_=>trivial
 | d+1,.fq _ _ _,_=>trivial
 | d+1,.fG _,_=>trivial
 | d+1,.mp _,_=>trivial
 | d+1,.bo _,_=>trivial
 | d+1,.it _ _,_=>trivial
 | d+1,.agg _,_=>trivial
 | d+1,.ba _,_=>trivial
 | d+1,.fn _ _,_=>trivial
theorem xu.app:∀ {a b:List Sg} {l m:List AV},xu a l->xu b m->xu (a++b) (l++m)
 | [],b,l,m,h,h2=>by
  rw [show l = [] from h];exact h2
 | s::a,b,l,m,h,h2=>by
  obtain⟨x,xs,rfl,h3,h4⟩:=h;exact⟨x,xs++m,rfl,h3,h4.app h2⟩
set_option maxHeartbeats 1000000 in
theorem ayE{t:Tc}(h:xu (CI t) ai)(hq:(CI t).all (fun s=>match s with | .wide _=>false|_=>true)=true):∃ e,ai=aP false t fun _=>e:=by
 cases t<;>first
  | (exact absurd hq (by decide))
  | (simp only [CI] at h
     repeat (obtain⟨_,_,rfl,⟨_,rfl⟩,h⟩:=h)
     first
      | exact⟨(_:Int),rfl⟩
      | exact⟨⟨_,_⟩,rfl⟩
      | exact⟨⟨_,_,_⟩,rfl⟩
      | exact⟨⟨_,_,_,_⟩,rfl⟩
      | exact⟨⟨_,_,_,_,_⟩,rfl⟩
      | exact⟨⟨_,_,_,_,_,_⟩,rfl⟩
      | exact⟨⟨_,_,_,_,_,_,_,_,_⟩,rfl⟩
      | exact⟨⟨_,_,_,_,_,_,_,_,_,_,_,_⟩,rfl⟩
      | exact⟨⟨⟨_,_,_,_,_,_,_,_,_⟩,_,_,_⟩,rfl⟩
      | exact⟨⟨_,_,_,_,_,_,_,_,_,_,_,_,_,_,_,_,_⟩,rfl⟩
      | exact⟨⟨⟨_,_,_,_,_,_,_,_,_,_,_,_,_,_,_,_,_⟩,⟨_,_,_,_,_,_,_,_,_,_,_,_,_,_,_,_,_⟩⟩,rfl⟩)
section
variable{H:Type}{enc:TypeId×Value->H}{P:Program}{w:World}{held:Bool}{tc:List (Nat×Tc)}
def uh(w:World):Nat->Prop:=fun b=>b<w.heap.size
theorem aiU{g:TypeId->Option (List Sg)}{m:Nat}{cs:List Value}{T:TypeId}{fields:Array Field}{parts:List (DataW H×List MemPlace)}(hT:P.underlying T=some (.struct fields))(l8:Fits P T (.agg (parts.map (·.1))))(hg:∀ (f:Field) (ss) (cs) (y),g f.type=some ss->DataW.trod enc P w 0 (fun _=>true) held m f.type cs=some y->Fits P f.type y.1->∃ ai,aV w (fun _=>none) 0 (uh w) ai cs/\xu ss ai/\∀ x∈ai,mO 4 x)(aiV:∀ (i:Nat) (f),fields[i]? = some f->DataW.trod enc P w 0 (fun _=>true) held m f.type ((cs.drop f.offset).take (P.cellsOf f.type))=parts[i]?)(cU:parts.length=fields.size) :
 ∀ (fs) (i o) (ss),fields.toList.drop i=fs->Iv P g fs o=some ss->∃ ai,aV w (fun _=>none) 0 (uh w) ai ((cs.drop o).take ss.length)/\xu ss ai/\∀ x∈ai,mO 4 x
 | [],i,o,ss,hi,h=>by
  simp only [Iv,bF] at h;subst h;exact⟨[],by simpa using aV.nil,rfl,by simp⟩
 | f::fs,i,o,ss,hi,h=>by
  unfold Iv at h;split at h
  . rename_i a b ha hb;split at h
    . rename_i hc;simp only [ax,cb] at hc;obtain⟨gL,tw⟩:=hc;cases h;have sX:i<fields.toList.length:=by
       rcases b9 i fields.toList.length with h|h
       . exact h
       . rw [List.drop_of_length_le h] at hi; cases hi
      rw [sP sX] at hi;injection hi with h1 h2;have hf:fields[i]? = some f:=by rw [<- h1]; simp
      have hp:=aiV i f hf;have hip:i<parts.length:=by rw [cU]; simpa using sX
      rw [bc hip] at hp;obtain⟨ai,q1,q2,q3⟩:=hg f a _ _ ha hp (Fits.field hT l8 hf (by simp [hip]));obtain⟨bvs,r1,r2,r3⟩:=aiU hT l8 hg aiV cU fs (i+1) (o+P.cellsOf f.type) b h2 hb;refine⟨ai++bvs,?_,q2.app r2,fun x hx => ?_⟩
      . rw [gL] at q1;have e:(cs.drop o).take (a++b).length=(cs.drop o).take (P.cellsOf f.type)++(cs.drop (o+P.cellsOf f.type)).take b.length:=by
         rw [dp,tw,List.take_add,uo]
        rw [e];exact q1.append r1
      . rcases iU.1 hx with h|h
        . exact q3 x h
        . exact r3 x h
    . cases h
  . cases h
theorem Wp:∀ (n m) (T) (ss) (cs) (y),Iw P tc n T=some ss->DataW.trod enc P w 0 (fun _=>true) held m T cs=some y->Fits P T y.1->∃ ai,aV w (fun _=>none) 0 (uh w) ai cs/\xu ss ai/\∀ x∈ai,mO 4 x
 | 0,_,_,_,_,_,h,_,_=>by cases h
 | n+1,m,T,ss,cs,y,h,ht,hf=>by
  unfold Iw at h;split at h
  . rename_i k hu;cases h;obtain⟨z,rfl,_,hw⟩:=DataW.trod_int hu ht;refine⟨[.int k fun _=>z],.cons (.int k _) .nil,⟨_,_,rfl,⟨z,rfl⟩,rfl⟩,?_⟩;intro x hx;rw [jD.1 hx];exact hw
  . rename_i hu;cases h;obtain⟨z,rfl,_⟩:=DataW.trod_bool hu ht;refine⟨[.bool fun _=>z],.cons (.bool _) .nil,⟨_,_,rfl,⟨z,rfl⟩,rfl⟩,?_⟩;intro x hx;rw [jD.1 hx];trivial
  . rename_i hu;cases h;obtain⟨z,rfl,hy,_⟩:=DataW.trod_string hu ht;refine⟨[.str fun _=>z],.cons (.str _) .nil,⟨_,_,rfl,⟨z,rfl⟩,rfl⟩,?_⟩;intro x hx;rw [jD.1 hx];exact hf z.size (by rw [hy]; simp [DataW.weights,hu])
  . rename_i e hu;split at h
    . rename_i t htc;split at h
      . rename_i se oL;split at h
        . rename_i hc;cases h;simp only [ax,cb,aL] at hc;obtain⟨⟨gL,tw⟩,mC⟩:=hc;have ot:=aiT gL;have hq:(CI t).all (fun s=>match s with | .wide _=>false|_=>true)=true:=by
           rw [<- ot,dL];intro s hs;have:∀ {a b:List Sg},Ea a b=true->∀ s∈a,(match s with | .wide _=>false|_=>true)=true:=by
            intro a
            induction a with
            | nil=>intro b _ s hs; cases hs
            | cons x a ih =>
             intro b h s hs
             cases b with
             | nil=>cases h
             | cons z b =>
              simp only [Ea,ax] at h;rcases fM.1 hs with rfl|hs
              . have h1:=h.1;unfold NJ at h1;split at h1<;>first|rfl|cases h1
              . exact ih h.2 s hs
           exact this gL s hs
          have ja:∃ v,cs = [v]:=by
           rcases open_slice hu ht with ⟨aF,_⟩|⟨a,len,cap,m',n',D,Pl,aF,_⟩<;>exact⟨_,aF⟩
          obtain⟨v,rfl⟩:=ja;obtain⟨A,l,c,hv,hr,hw,hby,M6⟩:=ayy (T:=List Value×t.el) (cells:=fun p=>p.1) (wf:=fun p=>aV w (fun _=>none) 0 (uh w) (aP false t fun _=>p.2) p.1/\∀ x∈aP false t (fun _=>p.2),mO 4 x) (size:=t.size) (bytes:=P.bytesOf e) hu tw (ak7 t) rfl (fun n' cs' y' h1 h2=>by
           obtain⟨ai,q1,q2,q3⟩:=Wp n n' e se cs' y' oL h1 h2;rw [ot] at q2;obtain⟨el,rfl⟩:=ayE q2 hq;exact⟨(cs',el),rfl,q1,q3⟩) ht hf
          have m6:l.length<=t.mK:=by
           rcases b9 t.mK l.length with Wq|Wq
           . have:(t.mK+1)*P.bytesOf e<=l.length*P.bytesOf e:=oy _ Wq;omega
           . exact Wq
          refine⟨[.sl false t fun _=>l.map (·.2)],.cons ?_ .nil,⟨_,_,rfl,⟨_,rfl⟩,rfl⟩,?_⟩
          . rw [hv];have key:af w (fun _=>none) 0 (uh w) (.sl false t fun _=>l.map (·.2)) (.slice A (l.map (·.2)).length c):=by
             refine af.sl (ro:=uh w) false t (fun _=>l.map (·.2)) A c (l.map (·.1)) (by simp) (by simpa using M6) hr (fun a ha aT=>Rd.bound hr aT a ha) (fun h=>by cases h) fun k cs j x v h1 h2 h3 => ?_;rw [ga] at h1;obtain⟨p,hp,rfl⟩:=kS.1 h1;have hpm:=hw p (eY hp);have e1:(l.map (·.2)).getD k t.aa=p.2:=by simp [aX,hp]
             rw [e1] at h2;exact hpm.1.2 j x v h2 h3
            rwa [fk] at key
          . intro x hx;rw [jD.1 hx];refine⟨by rw [fk]; exact m6,fun el gT z hz => ?_⟩;obtain⟨p,hp,rfl⟩:=gi.1 gT;exact mO.down 3 z ((hw p hp).2 z hz)
        . cases h
      . cases h
    . cases h
  . rename_i fs hu;split at h
    . rename_i ss' ir;split at h
      . rename_i hlen;cases h;simp only [cb] at hlen;obtain⟨xs,n2,rfl,hx,cz,G6,hg⟩:=DataW.trod_struct hu ht;subst hx;obtain⟨ai,q1,q2,q3⟩:=aiU (m:=n2) hu hf (fun f ss cs y h1 h2 h3=>Wp n n2 f.type ss cs y h1 h2 h3) hg G6 fs.toList 0 0 ss rfl ir;rw [zA,jC oo] at q1;exact⟨ai,q1,q2,q3⟩
      . cases h
    . cases h
  . cases h
section
variable{b0 m:Nat}{r:Reach}{T:TypeId}{v:Value}{y:DataW H×List MemPlace}
theorem open_int{k:IntKind}(hT:P.underlying T=some (.int k))(hv:Value.okWide P w r b0 T v)(ht:DataW.trod enc P w 0 (fun _=>true) held m T v.cells.toList=some y):∃ n,af w (fun _=>none) 0 (uh w) (.int k fun _=>n) v/\(Lit.int k n).wf=true:=by
 obtain⟨n,rfl⟩:=okWide_int hT hv;obtain⟨z,e,_,hw⟩:=DataW.trod_int hT ht;have e2 : [Value.int k n] = [Value.int k z]:=e;injection e2 with e2;injection e2 with _ e2;subst e2;exact⟨n,.int k _,hw⟩
theorem Iy{e:TypeId}{t:Tc}{n:Nat}(hT:P.underlying T=some (.slice e))(ho:Iw P tc n T=some [.sl t])(hv:Value.okWide P w r b0 T v)(ht:DataW.trod enc P w 0 (fun _=>true) held m T v.cells.toList=some y)(hf:Fits P T y.1):∃ l,af w (fun _=>none) 0 (uh w) (.sl false t fun _=>l) v/\mO 4 (.sl false t fun _=>l):=by
 obtain⟨a,len,cap,rfl⟩:=okWide_slice hT hv;obtain⟨ai,q1,q2,q3⟩:=Wp (tc:=tc) n m T _ _ _ ho ht hf;obtain⟨x,xs,rfl,⟨l,rfl⟩,h⟩:=q2;rw [show xs = [] from h] at q1 q3;refine⟨l,?_,q3 _ (.head _)⟩;exact q1.2 0 _ _ rfl rfl
end
end
theorem ayH{c:aN}{res:x7}(hc:aU Tryz.prog c)(jo:c.go ai=some res)(dX:res.av = .bool fun _=>true){W:World}{dM:List Value}(hE:aV W (fun _=>none) 0 (uh W) ai dM)(jr:res.pre ()):Calls Tryz.prog c.f dM.toArray W fun e w'=>e = .returned (.bool true)/\Below W.heap.size W w' :=
 (hc.2 ai res jo W (uh W) dM (fun _ h=>h) hE jr).mono fun e w' ⟨v,h1,h2,h3⟩=>by
  rw [dX] at h3;rw [h1,h3.oJ];exact⟨rfl,h2⟩
theorem mP{k:IntKind}(h:(Lit.int k n).wf=true):k.min<=n/\n<=k.max:=by
 simpa [Lit.wf] using h
open Go.RowKit
theorem ayI{p:iV}(h:∀ x∈aP false .fp (fun _=>p),mO 3 x):mJ p:=by
 have h1:=h (.int .u8 fun _=>p.cX) (by simp [aP]);have h2:=h (.int .u8 fun _=>p.row) (by simp [aP]);have h3:=h (.int .u8 fun _=>p.cY) (by simp [aP]);exact⟨mP h1,mP h2,mP h3⟩
theorem ayJ{d:iW}(h:∀ x∈aP false .gq (fun _=>d),mO 3 x):rf d:=by
 have h1:=h (.int .u8 fun _=>d.au) (by simp [aP]);have h2:=h (.int .u8 fun _=>d.aq) (by simp [aP]);exact⟨mP h1,mP h2⟩
theorem ayK{l:List iV}{d:List iW}(h0:mO 4 (.sl false .fp fun _=>l))(h1:(Lit.int .u32 n).wf=true)(h2:mO 4 (.sl false .gq fun _=>d)):((∀ p∈l,mJ p)/\l.length<=140737488351232)/\(0<=n/\n<=4294967295)/\(∀ x∈d,rf x)/\d.length<=140737488351232 :=
 ⟨⟨fun p hp=>ayI (h0.2 p hp),h0.1⟩,mP h1,fun x hx=>ayJ (h2.2 x hx),h2.1⟩
theorem ayL{x:j4}(h:∀ y∈aP false .iF (fun _=>x),mO 3 y):x.ok:=by
 have h1:=h (.int .u8 fun _=>x.aq) (by simp [aP]);have h2:=h (.int .u8 fun _=>x.steps) (by simp [aP]);have h3:=h (.int .i16 fun _=>x.x) (by simp [aP]);have h4:=h (.int .i16 fun _=>x.y) (by simp [aP]);have h5:=h (.int .i16 fun _=>x.z) (by simp [aP]);have h6:=h (.int .u16 fun _=>x.xS) (by simp [aP]);exact⟨mP h1,mP h2,mP h3,mP h4,mP h5,mP h6⟩
theorem ayM{x:iX}(h:∀ y∈aP false .j5 (fun _=>x),mO 3 y):x.ok:=by
 have h1:0<=x.step/\x.step<=65535:=mP (h (.int .u16 fun _=>x.step) (by simp [aP]));have h2:0<=x.ch/\x.ch<=65535:=mP (h (.int .u16 fun _=>x.ch) (by simp [aP]));have h3:0<=x.at_/\x.at_<=65535:=mP (h (.int .u16 fun _=>x.at_) (by simp [aP]));have h4:0<=x.aq/\x.aq<=65535:=mP (h (.int .u16 fun _=>x.aq) (by simp [aP]));have h5:0<=x.share/\x.share<=255:=mP (h (.int .u8 fun _=>x.share) (by simp [aP]));refine⟨?_,?_,?_,?_,?_⟩<;>omega
theorem ayN(h:∀ y∈aP false .u8 (fun _=>n),mO 3 y):0<=n/\n<=255:=mP (h (.int .u8 fun _=>n) (by simp [aP]))
end Go.Proofs.YtamjbkaclhgffaaGreat
