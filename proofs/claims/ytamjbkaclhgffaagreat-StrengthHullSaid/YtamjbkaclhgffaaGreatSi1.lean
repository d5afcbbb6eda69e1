/-
  What a slice of rows of cells reads as, what a call owns, and the laws on append for them; over any program.
-/
import Derived.Test.YtamjbkaclhgffaaGreatSi0
import Derived.WalkKit
import Derived.WalkSpells
import Derived.WalkLawsBesides
import Derived.BigQuiet
import Derived.Deep.QuietTactic
import Derived.Deep.LoopGhost
import Derived.Deep.Slices
import Derived.Maps.AppendAt
import Derived.Lib.Hide
import Derived.Test.YtamjbkaclhgffaaGreatRows
set_option linter.all false
namespace Go.Proofs.YtamjbkaclhgffaaGreat
open Go.RowKit
variable{a:Act}{ad:Addr}{listed:Array Bool}{aft:Array Edge}{ops:Array Oper}{cur:Array Value}{Q:Exit->Act->World->Prop}{css ds news:List (List Value)}{js l u:List Nat}{rest:List Oper}{cs:List Value}{B B' N T V base by_ bytes c cn e g j m n np off r s t vt y yt:Nat}{o oj:Oper}{x:Operand}{gd:Option (Nat×Bool)}{A X:Option Addr}{d:Option Nat}{pos:String}{α:Type}{ty:TypeId}{v z:Value}{w w':World}
def Rd(w:World)(B size:Nat)(A:Option Addr)(css:List (List Value)):Prop :=
 ∀ k cs,css[k]? = some cs->∃ b off,A=some ⟨b,off,none⟩/\b<B/\cs.length=size/\∀ j u,cs[j]? = some u->w.cell? ⟨b,off+k*size+j,none⟩=some u
theorem Rd.nil(w:World)(B size:Nat)(A:Option Addr):Rd w B size A []:=by intro k cs h; simp at h
theorem Rd.below{size:Nat}(h:Rd w B size A css)(hb:Below B' w w')(hB:B<=B'):Rd w' B size A css:=by
 intro k cs hk;obtain⟨b,off,e,ah,hl,hc⟩:=h k cs hk;exact⟨b,off,e,ah,hl,fun j u hu=>(hb.cell (p:=⟨b,_,none⟩) (by simp; omega)).trans (hc j u hu)⟩
theorem Rd.more{size:Nat}(h:Rd w B size A css)(hB:B<=B'):Rd w B' size A css:=by
 intro k cs hk;obtain⟨b,off,e,ah,hl,hc⟩:=h k cs hk;exact⟨b,off,e,oo,hl,hc⟩
theorem Rd.pre{size:Nat}(h:Rd w B size A (css++ds)):Rd w B size A css:=by
 intro k cs hk;exact h k cs (by rw [qj (cF.1 hk).1]; exact hk)
theorem Rd.take{size:Nat}(h:Rd w B size A css)(n:Nat):Rd w B size A (css.take n):=by
 rw [<- jB n css] at h;exact h.pre
theorem Ev{size:Nat}:∀ (css:List (List Value)),(∀ cs∈css,cs.length=size)->∀ k j,j<size->css.flatten[k*size+j]? = css[k]?.bind (·[j]?)
 | [],_,k,j,_=>by simp
 | cs::css,h,0,j,hj=>by
  have hl:=h cs (by simp);simp only [IL,xD,gC,ox,Em];rw [qj oo]
 | cs::css,h,k+1,j,hj=>by
  have hl:=h cs (by simp);have ih:=Ev css (fun c hc=>h c (by simp [hc])) k j hj;simp only [IL,NN];rw [rq (by rw [hl,B9]; omega),hl,<- ih];congr 1;rw [B9]; omega
theorem pw{size:Nat}:∀ (css:List (List Value)),(∀ cs∈css,cs.length=size)->css.flatten.length=css.length*size
 | [],_=>by simp
 | cs::css,h=>by
  have hl:=h cs (by simp);have ih:=pw css (fun c hc=>h c (by simp [hc]));simp only [IL,dp,cB,ih,hl,B9];omega
theorem Rd.len{size:Nat}(h:Rd w B size A css):∀ cs∈css,cs.length=size:=by
 intro cs hc;obtain⟨k,hk,e⟩:=Eh.1 hc;obtain⟨_,_,_,_,hl,_⟩:=h k cs (by rw [bc hk,e]);exact hl
theorem Rd.flat{size:Nat}(h:Rd w B size A css):∀ j u,css.flatten[j]? = some u->∃ ad,A=some ad/\w.cell? (ad.add j)=some u:=by
 intro j u hu;rcases BX size with h0|h0
 . subst h0;have:=pw css h.len;rw [Cb] at this;rw [vJ this] at hu;simp at hu
 . have e:j=j / size*size+j % size:=by rw [kX]; exact (WJ j size).symm
   rw [e,Ev css h.len _ _ (oC _ h0)] at hu;obtain⟨cs,aF,hju⟩:=mQ.1 hu;obtain⟨b,off,hA,_,_,hc⟩:=h _ cs aF;refine⟨_,hA,?_⟩;rw [sW];have:=hc _ _ hju;rw [oA,<- e] at this;exact this
def EI(P:Program)(t e size bytes:Nat):Prop :=
 P.underlying t=some (.slice e)/\∃ i z,P.info? e=some i/\i.zero=some z/\i.size=size/\i.bytes=bytes/\z.cells.size=size/\0<size
theorem EI.mk{P:Program}{size:Nat}(ht:P.underlying t=some (.slice e))(h:(P.info? e).map (fun i=>(i.zero,i.size,i.bytes))=some (some z,size,bytes))(hz:z.cells.size=size)(hs:0<size):EI P t e size bytes:=by
 obtain⟨i,h1,h2,h3,h4⟩:=info_parts h;exact⟨ht,i,z,h1,h2,h3,h4,hz,hs⟩
def cw(w:World)(base e size:Nat)(A:Option Addr)(c:Nat)(css:List (List Value)):Prop :=
 w.ownsRow base e size (.slice A css.length c) css.length css.flatten/\∀ cs∈css,cs.length=size
section
variable{w w':World}{base e size c:Nat}{A:Option Addr}{css:List (List Value)}
theorem cw.nil(w:World)(base e size:Nat):cw w base e size none 0 []:=⟨World.ownsRow_nil w base e size,by simp⟩
theorem cw.of(h:w.ownsRow base e size v n css.flatten)(hn:n=css.length)(hl:∀ cs∈css,cs.length=size):∃ A c,v = .slice A css.length c/\cw w base e size A c css:=by
 subst hn;rcases h.2 with ⟨rfl,h0⟩|⟨g,cap,cur,rfl,r⟩
 . have hc:css = []:=vJ h0;subst hc;exact⟨none,0,rfl,cw.nil _ _ _ _⟩
 . exact⟨_,_,rfl,h,hl⟩
theorem cw.lt(h:cw w base e size A c css){a:Addr}(ha:A=some a):base<=a.block/\a.block<w.heap.size:=by
 subst ha;exact h.1.lt a.block rfl
theorem cw.cap(h:cw w base e size A c css):css.length<=c/\c<=maxLen:=by
 rcases h.1.2 with ⟨h1,h2⟩|⟨g,cap,cur,h1,_,_,h2,h3,_⟩
 . injection h1 with _ h3 h4;exact⟨oo,by rw [h4]; exact bO _⟩
 . simp at h1;rw [h1.2];exact⟨h2,h3⟩
theorem cw.rd(h:cw w base e size A c css):Rd w w.heap.size size A css:=by
 intro k cs hk;have gD:=(cF.1 hk).1;rcases h.1.2 with ⟨h1,h2⟩|⟨g,cap,cur,h1,_,hg,_,_,_,rE⟩
 . omega
 . simp at h1;obtain⟨rfl,rfl⟩:=h1;have hlen:cs.length=size:=h.2 cs (eY hk);refine⟨g,0,rfl,(jA.1 hg).1,hlen,fun j u hu => ?_⟩;have hj:j<size:=by rw [<- hlen]; exact (cF.1 hu).1
   have hf:css.flatten[k*size+j]? = some u:=by rw [Ev css h.2 k j hj,hk]; exact hu
   have:=h.1.cells (g:=g) rfl _ _ hf;rw [sW] at this;rw [oA];exact this
theorem cw.block(h:cw w base e size A c css):(A=none/\c=0/\css = [])\/∃ g cur,A=some ⟨g,0,none⟩/\base<=g/\w.heap[g]? = some (.cells cur e (0,0))/\cur.size=c*size:=by
 rcases h.1.2 with ⟨h1,h2⟩|⟨g,cap,cur,h1,hb,hg,_,_,hs,_⟩
 . injection h1 with h3 _ h4;exact .inl ⟨h3,h4,vJ h2⟩
 . simp at h1;obtain⟨rfl,rfl⟩:=h1;exact .inr ⟨g,cur,rfl,hb,hg,hs⟩
theorem cw.jF(h:cw w base e size A c css)(hk:∀ a,A=some a->w'.heap[a.block]? = w.heap[a.block]?):cw w' base e size A c css:=by
 refine⟨⟨h.1.1,?_⟩,h.2⟩;rcases h.1.2 with h1|⟨g,cap,cur,h1,hb,hg,r⟩
 . exact .inl h1
 . refine .inr ⟨g,cap,cur,h1,hb,?_,r⟩;simp at h1;rw [hk _ h1.1];exact hg
theorem cw.Cf{b:Nat}(h:cw w base e size A c css)(hb:b<=base):cw w b e size A c css:=by
 refine⟨⟨h.1.1,?_⟩,h.2⟩;rcases h.1.2 with h1|⟨g,cap,cur,h1,hg,r⟩
 . exact .inl h1
 . exact .inr ⟨g,cap,cur,h1,oo,r⟩
end
section
variable{P:Program}{w:World}{ops:Array Oper}{rest:List Oper}{o:Oper}{a:Act}{Q:Exit->Act->World->Prop}
theorem ajz{size ty:Nat}(hE:EI P t e size bytes)(bw:cw w base e size A c css)(B:Nat)(hr:Rd w B size X news)(hm:m=news.length)(h1:∀ cs∈news,∀ u∈cs,u.oneCell'=true)(nI:css.length+m<=maxLen)(vS:(css.length+m)*bytes<=140737488355328)(gS:base<=w.heap.size) :
 ∃ A' c' w',(Builtin.append_ #[t,t] ty #[.slice A css.length c,.slice X m cn]).run P w = .ok (.slice A' (css++news).length c') w'/\cw w' base e size A' c' (css++news)/\w.grownBy w' (Value.ownBlock (.slice A css.length c))/\Below base w w':=by
 subst hm;obtain⟨ht,i,z,hi,hz,hs,hb,vT,h0⟩:=hE;have hlen:∀ cs∈css++news,cs.length=size:=fun cs hc=>by
  rcases iU.1 hc with h|h
  . exact bw.2 cs h
  . exact hr.len cs h
 have fin:∀ v' w',w'.ownsRow base e size v' (css.length+news.length) (css.flatten++news.flatten)->w.grownBy w' (Value.ownBlock (.slice A css.length c))->(Builtin.append_ #[t,t] ty #[.slice A css.length c,.slice X news.length cn]).run P w = .ok v' w' ->
  ∃ A' c' w',(Builtin.append_ #[t,t] ty #[.slice A css.length c,.slice X news.length cn]).run P w = .ok (.slice A' (css++news).length c') w'/\cw w' base e size A' c' (css++news)/\w.grownBy w' (Value.ownBlock (.slice A css.length c))/\Below base w w':=by
  intro v' w' h2 h3 cC;obtain⟨A',c',rfl,h4⟩:=cw.of (css:=css++news) (by rw [NW]; exact h2) (by simp) hlen;exact⟨A',c',w',cC,h4,h3,(cu _ _).grown h3 gS (fun k hk=>(bw.1.lt k hk).1)⟩
 rcases X with _|ad
 . have hn:news = []:=by
    rcases news with _|⟨x,l⟩
    . rfl
    . obtain⟨_,_,h,_⟩:=hr 0 x rfl;cases h
   subst hn;refine fin (.slice A css.length c) w (by simpa using bw.1) (World.grownBy.refl w _) ?_;exact WS
 . obtain⟨v',w',cC,h2,h3,_,_⟩:=run_append_own_at (P:=P) w base t ty e i z size bytes ht hi hz hs hb vT h0 _ css.length css.flatten bw.1 ad news.length cn news.flatten (pw news hr.len)
    (fun j u hu=>by obtain⟨ad',h,hc⟩:=hr.flat j u hu; injection h with h; rw [h]; exact hc)
    (fun u hu=>by obtain⟨cs,aF,uq⟩:=ajr.1 hu; exact h1 cs aF u uq) nI vS gS
   exact fin v' w' h2 h3 cC
theorem ajB{size:Nat}(ic:o.guard=none)(s x:Operand)(ho:o.op = .call { callee := .builtin .append,args := #[s,x],argTypes := #[t,t] })(hE:EI P t e size bytes)(hs:a.eval s = .slice A css.length c)(bw:cw w base e size A c css)(hx:a.eval x = .slice X m cn)(B:Nat)(hr:Rd w B size X news)(hm:m=news.length)(h1:∀ cs∈news,∀ u∈cs,u.oneCell'=true)(nI:css.length+m<=maxLen)(vS:(css.length+m)*bytes<=140737488355328)(gS:base<=w.heap.size)(h:∀ A' c' w',cw w' base e size A' c' (css++news)->w.grownBy w' (Value.ownBlock (.slice A css.length c))->Below base w w'->wpList P ops Q rest (a.put o.dst (.slice A' (css++news).length c')) w'):wpList P ops Q (o::rest) a w:=by
 obtain⟨A',c',w',cC,h2,h3,h4⟩:=ajz (P:=P) (ty:=o.type) (cn:=cn) hE bw B hr hm h1 nI vS gS;refine wpList_plain ic fun K hK => ?_;unfold Oper.wp execOp;simp only [ho,resolve,invoke,builtin,bp,bL,bI,Eg,gz,sS,hs,hx,cC];exact hK _ _ (h A' c' w' h2 h3 h4)
end
def vU(P:Program)(T n:Nat):Prop:=∃ d,P.underlying T=some d/\(match d with | .struct _ | .array _ _=>true|_=>false)=true/\(P.info? T).map (·.size)=some n
theorem Od{P:Program}(hT:vU P T n)(hn:cs.length=n)(h:∀ j u,cs[j]? = some u->w.cell? (ad.add j)=some u) :
 (loadVar T ad).run P w = .ok (.agg cs.toArray) w:=by
 obtain⟨d,hu,hd,hi⟩:=hT;subst hn;have hl:(loadCells ad cs.length).run P w = .ok cs.toArray w:=run_loadCells_list (P:=P) w ad cs h
 cases hq:P.info? T with
 | none=>simp [hq] at hi
 | some i =>
  have hs:i.size=cs.length:=by simpa [hq] using hi
  have Oe:(isAgg T).run P w = .ok true w:=by
   unfold isAgg;rw [bp,qm hu w];cases d<;>simp_all
  simp [loadVar,bp,Oe,sizeOf,typeInfo,hq,hs,hl]
theorem Cg{P:Program}{d:TypeDesc}(hT:P.underlying T=some d)(hd:(match d with | .struct _ | .array _ _=>false|_=>true)=true)(h:w.cell? ad=some v):(loadVar T ad).run P w = .ok v w:=by
 have Oe:(isAgg T).run P w = .ok false w:=by
  unfold isAgg;rw [bp,qm hT w];cases d<;>simp_all
 simp [loadVar,bp,Oe,h]
theorem Rd.ld{P:Program}{size:Nat}(hT:vU P T size)(h:Rd w B size A css){k:Nat}(hk:css[k]? = some cs) :
 ∃ b off,A=some ⟨b,off,none⟩/\b<B/\∀ w',Below B w w'->(loadVar T ⟨b,off+k*size,none⟩).run P w' = .ok (.agg cs.toArray) w':=by
 obtain⟨b,off,e,ah,hl,hc⟩:=h k cs hk;refine⟨b,off,e,ah,fun w' hb=>Od hT hl fun j u hu => ?_⟩;rw [sW];exact (hb.cell (p:=⟨b,_,none⟩) Ch).trans (hc j u hu)
section
variable{P:Program}{w:World}{ops:Array Oper}{rest:List Oper}{o:Oper}{a:Act}{Q:Exit->Act->World->Prop}{C:World->Prop}{K:Act->Prop}
theorem oD(ic:o.guard=none)(T:Nat)(x:Operand)(ho:o.op = .load T x)(ad:Addr)(hx:a.eval x = .pointer (some ad))(v:Value)(ki:(loadVar T ad).run P w = .ok v w)(h:wpList P ops Q rest (a.put o.dst v) w):wpList P ops Q (o::rest) a w:=by
 refine wpList_plain ic fun K hK => ?_;unfold Oper.wp execOp;simp only [ho,hx,Instr.loadAt,Instr.sureAddr,bp,bL,bI,ki];exact hK _ _ h
theorem WT(hw:Region.wanted o (yielded ops a.tmps)=true)(T:Nat)(x:Operand)(ho:o.op = .load T x)(ad:Addr)(hx:a.eval x = .pointer (some ad))(v:Value)(ki:(loadVar T ad).run P w = .ok v w)(h:wpList P ops Q rest (a.put o.dst v) w):wpList P ops Q (o::rest) a w:=by
 refine wpList_step fun K hK => ?_;rw [aC hw];unfold Oper.wp execOp;simp only [ho,hx,Instr.loadAt,Instr.sureAddr,bp,bL,bI,ki];exact hK _ _ h
theorem IU(hi:(P.info? T).map (·.size)=some n)(hv:v.cells.toList=cs)(hn:cs.length=n)(hg:w.heap[g]? = some (.cells cur t (0,0)))(l8:off+n<=cur.size)(h1:∀ u∈cs,u.oneCell'=true) :
 (storeVar T ⟨g,off,none⟩ v).run P w = .ok () (w.setRow g (cur.toList.take off++cs++cur.toList.drop (off+n)).toArray):=by
 subst hv
 cases hq:P.info? T with
 | none=>simp [hq] at hi
 | some i =>
  have hs:i.size=n:=by simpa [hq] using hi
  have hst:=run_storeCells_at P g off t v.cells.toList 0 cur w hg (by simp only [jE]; omega) h1;simp only [jE] at hst;have aO:v.cells.size=n:=by simpa using hn
  unfold storeVar;simp only [bp,sizeOf,typeInfo,mR,hq,bL,bI,hs,aO,ne_eq,Eb,dw];rw [hst,hn]
theorem Of(ic:o.guard=none)(x y:Operand)(ho:o.op = .store T x y)(hx:a.eval x = .pointer (some ⟨g,off,none⟩))(hy:a.eval y=v)(hi:(P.info? T).map (·.size)=some n)(hv:v.cells.toList=cs)(hn:cs.length=n)(hg:w.heap[g]? = some (.cells cur t (0,0)))(l8:off+n<=cur.size)(h1:∀ u∈cs,u.oneCell'=true)(h:∀ (mT:Array Value) w',mT.toList=cur.toList.take off++cs++cur.toList.drop (off+n)->mT.size=cur.size->w'.heap[g]? = some (.cells mT t (0,0))->w.grownBy w' (some g)->wpList P ops Q rest (a.put o.dst undef) w') :
 wpList P ops Q (o::rest) a w:=by
 have hr:=IU (P:=P) hi hv hn hg l8 h1;refine wpList_plain ic fun K hK => ?_;unfold Oper.wp execOp;simp only [ho,hx,hy,Instr.storeAt,Instr.sureAddr,bp,bL,bI,hr];refine hK _ _ (h _ _ rfl ?_ (Oc w g cur _ t _ hg) ⟨rfl,rfl,rfl,by simp,fun k _ hk=>Eu w g k _ (fun e=>hk (by simp [e]))⟩);simp only [xz,dp,cL,iD,ajg];omega
theorem Og(T:Nat)(x:Operand)(ho:o.op = .load T x)(ad:Addr)(hx:a.eval x = .pointer (some ad))(v:Value)(ki:∀ w',C w'->(loadVar T ad).run P w' = .ok v w')(hk:K (a.put o.dst v)):o.quiet P a C K:=by
 refine⟨v,fun w' hC => ?_,hk⟩;unfold Oper.quietAt execOp;simp only [ho,hx,Instr.loadAt,Instr.sureAddr,bp,bL,bI,ki w' hC];exact⟨rfl,rfl⟩
theorem IV{id:Nat}{l:List Oper}(hm:P.follows .mixedOrders=true)(hB:Region.lexB .any l.toArray=true)(N:Nat)(h:wpQuiet P l.toArray (fun w'=>Below N w w') (fun a'=>∀ w',Below N w w'->Q .normal a' w') l a):(Code.region id l.toArray true).wp P Q a w :=
 wp_region_quiet (C:=fun w'=>Below N w w') hm hB (cu _ _).drew (by simpa using h)
end
theorem ajC(w:World)(A B:Obj):((w.alloc A).alloc B).heap.size=w.heap.size+2:=by simp
theorem below_drewN{a:World}(h:Below B a w)(n:Nat):Below B a (w.drewN n):=⟨h.os,h.tape,h.output,h.size,h.block⟩
theorem toList_inj{a b:ByteArray}:(a.toList==b.toList)=decide (a=b):=by
 rw [<- beq_toListBytes];obtain⟨⟨x⟩⟩:=a;obtain⟨⟨y⟩⟩:=b;show ((⟨x⟩:Array UInt8)==⟨y⟩)=_
 by_cases h:x=y<;>simp [h]
theorem toList_eq{a b:ByteArray}:(a.toList=b.toList)=(a=b):=by
 have h:=toList_inj (a:=a) (b:=b);by_cases e:a=b
 . simp [e]
 . simp [e] at h;simp [e,h]
def WU(P:Program)(w:World)(fn:FuncId)(dH:Array Value)(val : α->Value)(p : α->Bool)(l:List α):Prop :=
 ∀ x∈l,∀ w',Below w.heap.size w w'->Calls P fn (#[val x]++dH) w' fun e w2=>e = .returned (.bool (p x))/\Below w'.heap.size w' w2
def idx(p : α->Bool)(l:List α):Int:=match l.findIdx? p with|some i=>i|none => -1
theorem Oh{p : α->Bool}{l:List α}{k:Nat}(hk:k<l.length)(hj:∀ j,(h:j<k)->p l[j]=false)(hx:p l[k]=true):idx p l=k:=by
 have:l.findIdx? p=some k:=by
  rw [ay9];exact⟨hk,hx,fun j qo=>by simp [hj j qo]⟩
 unfold idx;rw [this]
theorem Oi{p : α->Bool}{l:List α}(hj:∀ j,(h:j<l.length)->p l[j]=false):idx p l = -1:=by
 have:l.findIdx? p=none:=by
  rw [List.findIdx?_eq_none_iff];intro x hx;obtain⟨j,gE,rfl⟩:=Eh.1 hx;exact hj j gE
 unfold idx;rw [this]
theorem Oj(p : α->Bool)(l:List α):(idx p l = -1/\∀ x∈l,p x=false)\/∃ k,∃ h:k<l.length,idx p l=k/\p l[k]=true/\l.find? p=some l[k]:=by
 unfold idx
 cases hf:l.findIdx? p with
 | none=>exact .inl ⟨rfl,by simpa using hf⟩
 | some k =>
  rw [ay9] at hf;obtain⟨h,h1,h2⟩:=hf;refine .inr ⟨k,h,rfl,h1,?_⟩;rw [List.find?_eq_some_iff_getElem];exact⟨h1,k,h,rfl,fun j hj=>by have:=h2 j hj; simpa using this⟩
def bE(B:Nat):List Nat->Nat
 | []=>0
 | d::l=>d+B*bE B l
def zF(B:Nat):Nat->Nat->List Nat
 | 0,_ => []
 | f+1,n=>if n=0 then [] else (n % B)::zF B f (n / B)
def bg(B n:Nat):List Nat:=zF B n n
theorem ajD(B:Nat):bE B []=0:=rfl
theorem vV(B d:Nat)(l:List Nat):bE B (d::l)=d+B*bE B l:=rfl
theorem IW(B:Nat):∀ (l m:List Nat),bE B (l++m)=bE B l+B^l.length*bE B m
 | [],m=>by simp [bE]
 | d::l,m=>by
  simp only [kW,vV,IW B l m,cB,kg,qn];rw [kX (B^l.length) B,Et];omega
theorem ajE(B:Nat)(l:List Nat)(d:Nat):bE B (l ++ [d])=bE B l+B^l.length*d:=by
 rw [IW]; simp [bE]
theorem Ok{k:Nat}(h:k<l.length):bE B (l.take (k+1))=bE B (l.take k)+B^k*l[k]:=by
 rw [xv h,ajE,Ee (N7 h)]
theorem ur{B:Nat}:∀ (l:List Nat),(∀ d∈l,d<B)->bE B l<B^l.length
 | [],_=>by simp [bE]
 | d::l,h=>by
  have h1:=h d (by simp);have ih:=ur l (fun x hx=>h x (by simp [hx]));simp only [vV,cB,kg];have h2:B*(bE B l+1)<=B*B^l.length:=kU B ih;rw [kX (B^l.length) B];rw [qn] at h2;omega
theorem ajF(B k:Nat):bE B (List.replicate k 0)=0:=by
 induction k with
 | zero=>rfl
 | succ k ih=>simp [List.replicate_succ,bE,ih]
section
variable{B:Nat}(hB:2<=B)
include hB
theorem Ew(h:n≠0):n / B<n:=Nat.div_lt_self oo oo
theorem Ol:∀ (f n:Nat),n<=f->zF B f n=zF B n n
 | 0,n,h=>by
  have:n=0:=oo
  subst this;rfl
 | f+1,n,h=>by
  by_cases h0:n=0
  . subst h0; simp [zF]
  . obtain⟨m,rfl⟩:∃ m,n=m+1:=⟨n - 1,oo⟩
    have ah:=Ew hB h0;simp only [zF,aw h0];rw [Ol f ((m+1) / B) oo,Ol m ((m+1) / B) oo]
theorem uu:bg B 0 = []:=by
 have _h:=hB;rfl
theorem rF(h:n≠0):bg B n=(n % B)::bg B (n / B):=by
 obtain⟨m,rfl⟩:∃ m,n=m+1:=⟨n - 1,oo⟩
 have ah:=Ew hB h;unfold bg;simp only [zF,aw h];rw [Ol hB m ((m+1) / B) oo]
theorem uv(n:Nat):bE B (bg B n)=n:=by
 induction n using Nat.strongRecOn with
 | ind n ih =>
  by_cases h:n=0
  . subst h; rfl
  . rw [rF hB h,vV,ih _ (Ew hB h)];exact N5 n B
theorem ajG(h:bg B m=bg B n):m=n:=by rw [<- uv hB m,<- uv hB n,h]
theorem WV(n:Nat):∀ d∈bg B n,d<B:=by
 induction n using Nat.strongRecOn with
 | ind n ih =>
  by_cases h:n=0
  . subst h; simp [uu hB]
  . rw [rF hB h];intro d hd;rcases fM.1 hd with h1|h1
    . subst h1; exact oC _ oo
    . exact ih _ (Ew hB h) d h1
theorem ajH{d:Nat}(hd:d<B)(h:n≠0\/d≠0):bg B (d+B*n)=d::bg B n:=by
 have aT:d+B*n≠0:=by
  rcases h with h|h
  . have:0<B*n:=zE oo oo;omega
  . omega
 rw [rF hB aT,zw,fF hd,zy _ _ oo,l6 hd,gC]
theorem WW:∀ (l:List Nat),(∀ d∈l,d<B)->(∀ d,l.getLast? = some d->d≠0)->bg B (bE B l)=l
 | [],_,_=>rfl
 | d::l,h,hl=>by
  have h1:=h d (by simp);have cg:∀ e,l.getLast? = some e->e≠0:=fun e he=>hl e (by rw [List.getLast?_cons,he]; rfl);have ih:=WW l (fun x hx=>h x (by simp [hx])) cg;rw [vV,ajH hB h1,ih]
  cases l with
  | nil=>exact .inr (hl d rfl)
  | cons e l =>
   left;intro h0;rw [h0] at ih;cases ih
theorem ajI{d:Nat}(h:(bg B n).getLast? = some d):d≠0:=by
 induction n using Nat.strongRecOn generalizing d with
 | ind n ih =>
  by_cases h0:n=0
  . subst h0; simp [uu hB] at h
  . rw [rF hB h0,List.getLast?_cons] at h;by_cases h1:n / B=0
    . rw [h1,uu hB] at h;simp at h;subst h;have:=N5 n B;rw [h1] at this;intro h2;rw [h2] at this;simp at this;omega
    . cases hq:(bg B (n / B)).getLast? with
      | none =>
       rw [List.getLast?_eq_none_iff] at hq;rw [rF hB h1] at hq;cases hq
      | some e =>
       rw [hq] at h;simp at h;subst h;exact ih _ (Ew hB h0) hq
theorem uw{k:Nat}(h:n<B^k):(bg B n).length<=k:=by
 induction k generalizing n with
 | zero =>
  have:n=0:=by simpa using h
  subst this;simp [uu hB]
 | succ k ih =>
  by_cases h0:n=0
  . subst h0; simp [uu hB]
  . rw [rF hB h0];have:n / B<B^k:=by
     rw [IC oo];rwa [kg] at h
    have:=ih this;simp only [cB];omega
theorem iE{k:Nat}(h:(bg B n).length<=k):n<B^k:=by
 have h1:=ur (bg B n) (WV hB n);rw [uv hB] at h1;exact iS h1 (zx oo h)
theorem Ex{k:Nat}:k<(bg B n).length↔B^k<=n:=by
 constructor
 . intro h;rcases b9 n (B^k) with h1|h1
   . have:=uw hB h1; omega
   . exact h1
 . intro h;rcases b9 k (bg B n).length with h1|h1
   . exact h1
   . have:=iE hB h1; omega
theorem WX(h:n≠0):0<(bg B n).length:=by rw [rF hB h]; simp
theorem Om(h:(bg B m).length<(bg B n).length):m<n :=
 iS (iE hB (aA _)) ((Ex hB).1 h)
theorem ajJ:bg B 1 = [1]:=by
 rw [rF hB oo,fF oo,l6 oo,uu hB]
end
theorem IX(B:Nat)(l:List Nat)(k:Nat):bE B l=bE B (l.take k)+B^(l.take k).length*bE B (l.drop k):=by
 rw [<- IW,jB]
theorem ajK{a b:List Nat}(ha:∀ d∈a,d<B)(hl:a.length=b.length){k:Nat}(hk:k<a.length)(ah:a[k]<b[k]'oo)(hd:a.drop (k+1)=b.drop (k+1)):bE B a<bE B b:=by
 rw [IX B a (k+1),IX B b (k+1),hd,Ok hk,Ok oo];have e1:(a.take (k+1)).length=k+1:=by simp; omega
 have e2:(b.take (k+1)).length=k+1:=by simp; omega
 rw [e1,e2];have h1:=ur (B:=B) (a.take k) (fun d hd=>ha d (sR hd));rw [Ee oo] at h1;have h2:B^k*(a[k]+1)<=B^k*b[k]'oo:=kU _ ah;rw [qn] at h2;omega
def dr(B:Nat)(l:List Nat):Prop:=∀ d∈l,d<B
theorem dr.take(h:dr B l)(k:Nat):dr B (l.take k):=fun d hd=>h d (sR hd)
theorem dr.drop(h:dr B l)(k:Nat):dr B (l.drop k):=fun d hd=>h d (IE hd)
theorem dr.get(h:dr B l){k:Nat}(hk:k<l.length):l[k]<B:=h _ (iT hk)
theorem dr.set(h:dr B l)(k x:Nat)(hx:x<B):dr B (l.set k x):=fun d hd=>by
 rcases IB hd with h1|h1
 . exact h d h1
 . rw [h1]; exact hx
theorem dr.append{m:List Nat}(h:dr B l)(h':dr B m):dr B (l++m):=fun d hd=>by
 rcases iU.1 hd with h1|h1
 . exact h d h1
 . exact h' d h1
theorem dr.ajL(hB:0<B)(n:Nat):dr B (List.replicate n 0):=fun d hd=>by
 rw [(ajj.1 hd).2]; exact hB
theorem dr.getD(h:dr B l)(hB:0<B)(k:Nat):l.getD k 0<B:=by
 rcases b9 k l.length with hk|hk
 . have e:l.getD k 0=l[k]:=by simp [hk]
   rw [e]; exact h.get hk
 . have e:l.getD k 0=0:=by simp [hk]
   rw [e]; exact hB
theorem dr.bg(hB:2<=B)(n:Nat):dr B (bg B n):=WV hB n
theorem WY(B:Nat)(l:List Nat)(i:Nat):bE B (l.take (i+1))=bE B (l.take i)+B^i*l.getD i 0:=by
 rcases b9 i l.length with h|h
 . have e:l.getD i 0=l[i]:=by simp [h]
   rw [e,Ok h]
 . have e:l.getD i 0=0:=by simp [h]
   rw [e,jC oo,jC h,Cb,jE]
theorem take_set(l:List Nat)(i x:Nat):(l.set i x).take i=l.take i:=by
 rw [List.take_set];exact List.set_eq_of_length_le (by simp; omega)
theorem drop_set(l:List Nat)(i x:Nat):(l.set i x).drop (i+1)=l.drop (i+1):=by
 rw [List.drop_set];simp
theorem ajM(h:∀ d∈l,d=0):bE B l=0:=by
 induction l with
 | nil=>rfl
 | cons d l ih =>
  rw [vV,h d (by simp),ih (fun e he=>h e (by simp [he]))];simp
theorem ajN{k:Nat}(h:∀ d∈l.drop k,d=0):bE B (l.take k)=bE B l:=by
 rw [IX B l k,ajM h];simp
theorem IY(hB:2<=B)(hl:dr B l){k:Nat}(hk:k<=l.length)(hz:∀ d∈l.drop k,d=0)(he:k=0\/∃ j,k=j+1/\l.getD j 0≠0):bg B (bE B l)=l.take k:=by
 rw [<- ajN hz];refine WW hB _ (hl.take k) fun d hd => ?_;rcases he with rfl|⟨j,rfl,hj⟩
 . simp at hd
 . rw [ai8] at hd;have e:(l.take (j+1)).length - 1=j:=by simp; omega
   rw [e,eh,aC oo] at hd;have eZ:j<l.length:=oo
   rw [bc eZ] at hd;injection hd with hd;simp [eZ] at hj;omega
theorem WZ(B:Nat){i:Nat}(h:i<l.length):bE B (l.drop i)=l[i]+B*bE B (l.drop (i+1)):=by
 rw [sP h,vV]
theorem ajO(B:Nat){i x:Nat}(h:i<l.length):bE B ((l.set i x).drop i)=x+B*bE B (l.drop (i+1)):=by
 rw [WZ B (by simpa using h),drop_set];simp
theorem ajP{a o:List Nat}{i:Nat}(hi:i<a.length)(ho:o.length=a.length)(h:bE B (a.drop (i+1))=bE B (o.drop (i+1))*by_+r) :
 bE B (a.drop i)=bE B ((o.set i ((r*B+a[i]) / by_)).drop i)*by_+(r*B+a[i]) % by_:=by
 rw [WZ B hi,ajO B oo,h];have h1:=N5 (r*B+a[i]) by_;generalize (r*B+a[i]) % by_=m at *
 generalize (r*B+a[i]) / by_=q at *
 grind
theorem ajQ{W top lo lov:Nat}(hB:0<B)(hv:V=lov+B^n*vt)(hw:W=lo+B^n*top)(ux:lo<B^n)(zG:0<vt):W / V<=top / vt:=by
 have hP:0<B^n:=Nat.pow_pos hB;have hV:0<V:=by
  have:0<B^n*vt:=zE hP zG;omega
 rw [Nat.le_div_iff_mul_le zG];have h1:W / V*V<=W:=Nat.div_mul_le_self W V;have h2:W / V*(B^n*vt)<=W / V*V:=kU _ oo;have h3:W / V*(B^n*vt)=B^n*(W / V*vt):=by grind
 rw [h3] at h2;have h4:B^n*(W / V*vt)<B^n*(top+1):=by
  rw [qn];omega
 have:=Nat.lt_of_mul_lt_mul_left h4;omega
def pad(B:Nat):Nat->Nat->List Nat
 | 0,_ => []
 | k+1,x=>(x % B)::pad B k (x / B)
theorem ev(B:Nat):∀ k x,(pad B k x).length=k
 | 0,_=>rfl
 | k+1,x=>by simp [pad,ev B k]
theorem rG{B:Nat}(hB:0<B):∀ k x,dr B (pad B k x)
 | 0,_=>by intro d hd; simp [pad] at hd
 | k+1,x=>by
  intro d hd;rcases fM.1 hd with h|h
  . rw [h]; exact oC _ hB
  . exact rG hB k _ d h
theorem nJ{B:Nat}(hB:0<B):∀ k x,x<B^k->bE B (pad B k x)=x
 | 0,x,h=>by simp at h; subst h; rfl
 | k+1,x,h=>by
  have h1:x / B<B^k:=by
   rw [IC hB];rwa [kg] at h
  simp only [pad,vV,nJ hB k _ h1];exact N5 x B
theorem Ci{B:Nat}(hB:0<B):∀ (l:List Nat),dr B l->pad B l.length (bE B l)=l
 | [],_=>rfl
 | d::l,h=>by
  have h1:=h d (by simp);have ih:=Ci hB l (fun x hx=>h x (by simp [hx]));simp only [cB,pad,vV];rw [zw,fF h1,zy _ _ hB,l6 h1,gC,ih]
theorem W4(B:Nat):∀ k,pad B k 0=List.replicate k 0
 | 0=>rfl
 | k+1=>by simp [pad,W4 B k,List.replicate_succ]
theorem On(hB:2<=B){k x:Nat}(h:x<B^k):pad B k x=bg B x++List.replicate (k - (bg B x).length) 0:=by
 have h1:dr B (bg B x++List.replicate (k - (bg B x).length) 0):=(dr.bg hB x).append (dr.ajL oo _);have h2:bE B (bg B x++List.replicate (k - (bg B x).length) 0)=x:=by
  rw [IW,ajF,uv hB];simp
 have h3:(bg B x++List.replicate (k - (bg B x).length) 0).length=k:=by
  have:=uw hB h;simp;omega
 have h4:=Ci oo _ h1;rw [h2,h3] at h4;exact h4
theorem ajS(hB:2<=B){k x:Nat}(h:x<B^k):bg B x=(pad B k x).take (bg B x).length:=by
 rw [On hB h];simp
open Go.RowKit
section
variable{P:Program}{ops:Array Oper}{md:Region.Mode}{C:World->Prop}{io:Nat}{oo:Oper}{R:Value->World->Prop}{D:World->World->Prop}{Q:Value->World->Act->Prop}
def waits(md:Region.Mode)(ops:Array Oper):Nat->Nat->Nat->Bool
 | 0,_,_=>false
 | fuel+1,j,i=>match ops[j]? with
  | some o=>o.after.any fun e=>Region.binds md e&&(e.on==i||waits md ops fuel e.on i)
  | none=>false
def qp(md:Region.Mode)(ops:Array Oper)(listed:Array Bool):Prop :=
 ∀ j oj,ops[j]? = some oj->listed.getD j false=true->∀ e∈oj.after,Region.binds md e=true->listed.getD e.on false=true
theorem Oo{listed:Array Bool}(hc:qp md ops listed):∀ (fuel j i:Nat) (oj:Oper),ops[j]? = some oj->(∀ e∈oj.after,Region.binds md e=true->listed.getD e.on false=true)->waits md ops fuel j i=true->listed.getD i false=true
 | 0,_,_,_,_,_,h=>by simp [waits] at h
 | fuel+1,j,i,oj,hj,bS,h=>by
  simp only [waits,hj] at h;obtain⟨e,he,hb⟩:=IJ.1 h;simp only [ax,gR,cb] at hb;have h1:=bS e he hb.1;rcases hb.2 with h2|h2
  . rw [<- h2]; exact h1
  . cases ho:ops[e.on]? with
    | none=>cases fuel<;>simp [waits,ho] at h2
    | some oe=>exact Oo hc fuel e.on i oe ho (hc e.on oe ho h1) h2
theorem qp.Cj(hc:qp md ops listed)(hj:j∈Region.ready md ops listed):qp md ops (listed.setIfInBounds j true):=by
 intro k ok hk hl e he hb;by_cases qo:j=k
 . subst qo;obtain⟨_,oj,dW,bS⟩:=mem_ready.1 hj;rw [hk] at dW;injection dW with dW;subst dW;exact getD_set_true (bS e he hb)
 . rw [getD_set_ne false qo] at hl;exact getD_set_true (hc k ok hk hl e he hb)
end
abbrev cW(w:World)(w':World):Prop:=Below w.heap.size w w'
section
variable{P:Program}{ops:Array Oper}{md:Region.Mode}{C0 C:World->Prop}
end
theorem qq{P:Program}(T:Nat)(h:wpList P ops Q (⟨d,.load T x,ty,pos,aft,gd⟩::rest) a w):wpList P ops Q (⟨d,.load T x,ty,pos,aft,gd⟩::rest) a w:=h
theorem xH{P:Program}(T:Nat){y:Operand}(h:wpList P ops Q (⟨d,.store T x y,ty,pos,aft,gd⟩::rest) a w):wpList P ops Q (⟨d,.store T x y,ty,pos,aft,gd⟩::rest) a w:=h
theorem W5{P:Program}{size:Nat}(ic:o.guard=none)(s x:Operand)(ho:o.op = .call { callee := .builtin .append,args := #[s,x],argTypes := #[t,t] })(hE:EI P t e size bytes)(n:Nat)(hn:n=css.length)(hs:a.eval s = .slice A n c)(bw:cw w base e size A c css)(hx:a.eval x = .slice X m cn)(B:Nat)(hr:Rd w B size X news)(hm:m=news.length)(h1:∀ cs∈news,∀ u∈cs,u.oneCell'=true)(nI:css.length+m<=maxLen)(vS:(css.length+m)*bytes<=140737488355328)(gS:base<=w.heap.size)(h:∀ A' c' w',cw w' base e size A' c' (css++news)->w.grownBy w' (Value.ownBlock (.slice A css.length c))->Below base w w'->wpList P ops Q rest (a.put o.dst (.slice A' (n+m) c')) w'):wpList P ops Q (o::rest) a w:=by
 subst hn;refine ajB ic s x ho hE hs bw hx B hr hm h1 nI vS gS fun A' c' w' h2 h3 h4 => ?_;have:=h A' c' w' h2 h3 h4;rwa [dp,<- hm]
theorem Rd.rows{size:Nat}{t:TypeId}{fr:Nat×Nat}(hg:w.heap[g]? = some (.cells cur t fr))(qt:cur.toList=css.flatten)(hl:∀ cs∈css,cs.length=size):Rd w w.heap.size size (some ⟨g,0,none⟩) css:=by
 intro k cs hk;have hlen:=hl _ (eY hk);refine⟨g,0,rfl,(jA.1 hg).1,hlen,fun j u hu => ?_⟩;have hj:j<size:=by rw [<- hlen]; exact (cF.1 hu).1
 rw [zD w g (0+k*size+j) _ _ _ hg,<- Array.getElem?_toList,qt,gC,Ev css hl k j hj,hk];exact hu
section
variable{P:Program}{md:Region.Mode}{ops:Array Oper}{Q:Exit->Act->World->Prop}
end
def preB(ops:Array Oper)(pre:List (Nat×List Nat)):Bool:=pre.all fun p=>p.2.all fun j=>((ops[p.1]?).map fun o=>o.after.any fun e=>Region.binds .any e&&e.on==j).getD false
theorem azn{pre:List (Nat×List Nat)}{i:Nat}(hp:preB ops pre=true)(hi:i∈Region.ready .any ops listed)(hm:(i,js)∈pre):∀ j∈js,listed.getD j false=true:=by
 intro j hj;unfold preB at hp;rw [dL] at hp;have h1:=hp _ hm;rw [dL] at h1;have h2:=h1 j hj;obtain⟨_,o,ho,bS⟩:=mem_ready.1 hi;rw [ho] at h2;simp only [du,ia] at h2;rw [IJ] at h2;obtain⟨e,he,hb⟩:=h2;simp only [ax,cb] at hb;have:=bS e he hb.1;rw [hb.2] at this;exact this
def LL(listed:Array Bool)(j:Nat):Bool:=listed.getD j false
theorem Ck{i:Nat}(h:i<listed.size)(j:Nat):LL (listed.setIfInBounds i true) j=if j=i then true else LL listed j:=by
 unfold LL;rw [pn,pn,IA];by_cases e:j=i
 . subst e;simp [h]
 . rw [aw (fun h=>e h.symm),aw e]
theorem Ey{d:Nat}(hd:d<a.tmps.size)(s:Nat):(a.put (some d) v).tmps[s]? = if s=d then some v else a.tmps[s]? := by
 unfold Act.put;simp only;rw [IA];by_cases e:s=d
 . subst e;simp [hd]
 . rw [aw (fun h=>e h.symm),aw e]
theorem W6(h:a.tmps[s]? = some v):a.eval (.tmp s)=v:=by
 unfold Act.eval;simp only;rw [pn,h];rfl
section
variable{P:Program}{ops:Array Oper}{Q:Exit->Act->World->Prop}{a:Act}{w:World}{K:Act->World->Prop}{i:Nat}{o:Oper}
end
theorem ajT(a:Act)(d:Nat)(v:Value):(a.put (some d) v).tmps.size=a.tmps.size:=by simp [Act.put]
structure Made (w0:World) (a0:Act) (l:List Oper) (np:Nat) (R:Nat->Value->Nat->Nat->World->Prop) (L:Nat->Bool) (a:Act) (w:World) (val:Nat->Value) (lo hi:Nat->Nat):Prop where
 defers:a.defers=a0.defers
 Oq:a.tmps.size=a0.tmps.size
 zH:cW w0 w
 rows:∀ i,i<np->L i=true->w0.heap.size<=lo i/\lo i<=hi i/\hi i<=w.heap.size/\R i (val i) (lo i) (hi i) w
 apart:∀ i j,i<np->j<np->L i=true->L j=true->i≠j->hi i<=lo j\/hi j<=lo i
 Ez:∀ i o d,i<np->l[i]? = some o->o.dst=some d->L i=true->a.tmps[d]? = some (val i)
 Cl:∀ s,(∀ i o,i<np->l[i]? = some o->o.dst=some s->L i=false)->a.tmps[s]? = a0.tmps[s]?
def zI(l:List Oper)(np n:Nat):Bool :=
 (List.range np).all fun i=>match l[i]? with
  | some o=>match o.dst with
   | some d=>decide (d<n)&&(List.range np).all fun j=>i==j||(match l[j]? with|some o'=>o'.dst != some d|none=>true)
   | none=>false
  | none=>false
theorem EA{l:List Oper}{i:Nat}(h:zI l np n=true)(hi:i<np)(ho:l[i]? = some o):∃ d,o.dst=some d/\d<n/\∀ j o',j<np->l[j]? = some o'->o'.dst=some d->j=i:=by
 unfold zI at h;have h1:=dL.1 h i (gA.2 hi);rw [ho] at h1;simp only at h1
 cases hd:o.dst with
 | none=>rw [hd] at h1; cases h1
 | some d =>
  rw [hd] at h1;simp only [ax,aL] at h1;refine⟨d,rfl,h1.1,fun j o' hj ho' px => ?_⟩;have h2:=dL.1 h1.2 j (gA.2 hj);rw [ho'] at h2;simp only [px,WD,fS,cb] at h2;exact h2.symm
def oE(val:Nat->Value):Nat->List Oper->Act->Act
 | _,[],a=>a
 | k,o::l,a=>oE val (k+1) l (a.put o.dst (val k))
theorem Ot(a:Act)(d:Option Nat)(v:Value):(a.put d v).tmps.size=a.tmps.size:=by cases d<;>simp [Act.put]
theorem W7(a:Act)(d:Option Nat)(v:Value):(a.put d v).defers=a.defers:=by cases d<;>rfl
theorem W8(val:Nat->Value):∀ (l:List Oper) (k:Nat) (a:Act),(oE val k l a).tmps.size=a.tmps.size
 | [],_,_=>rfl
 | o::l,k,a=>by unfold oE; rw [W8 val l,Ot]
theorem Ou(val:Nat->Value):∀ (l:List Oper) (k:Nat) (a:Act),(oE val k l a).defers=a.defers
 | [],_,_=>rfl
 | o::l,k,a=>by unfold oE; rw [Ou val l,W7]
theorem EB(val:Nat->Value)(s:Nat):∀ (l:List Oper) (k:Nat) (a:Act),(∀ o∈l,o.dst≠some s)->(oE val k l a).tmps[s]? = a.tmps[s]?
 | [],_,_,_=>rfl
 | o::l,k,a,h=>by
  unfold oE;rw [EB val s l _ _ (fun o' ho'=>h o' (NR _ ho'))];have h1:=h o (by simp)
  cases hd:o.dst with
  | none=>rfl
  | some d =>
   rw [hd] at h1;unfold Act.put;simp only [IA];rw [aw (fun e=>h1 (by rw [e]))]
theorem Ov(val:Nat->Value)(s:Nat):∀ (l:List Oper) (k:Nat) (a:Act) (i:Nat) (o:Oper),l[i]? = some o->o.dst=some s->(∀ j o',l[j]? = some o'->o'.dst=some s->j=i)->s<a.tmps.size->(oE val k l a).tmps[s]? = some (val (k+i))
 | [],_,_,i,o,h,_,_,_=>by simp at h
 | o::l,k,a,0,o1,h,hd,hu,hs=>by
  simp at h;subst h;unfold oE;rw [EB val s l _ _ (fun o' ho' px=>by
   obtain⟨j,hj⟩:=kT.1 ho';have:=hu (j+1) o' (by simpa using hj) px
   omega),hd,Ey hs]
  simp
 | o::l,k,a,i+1,o1,h,hd,hu,hs=>by
  unfold oE;rw [Ov val s l (k+1) _ i o1 (by simpa using h) hd (fun j o' ho' px=>by have:=hu (j+1) o' (by simpa using ho') px; omega) (by rw [Ot]; exact hs)];congr 2;omega
section
variable{w0 w:World}{a0 a:Act}{l:List Oper}{np:Nat}{R:Nat->Value->Nat->Nat->World->Prop}{L:Nat->Bool}{val:Nat->Value}{lo hi:Nat->Nat}
theorem Made.act(M:Made w0 a0 l np R L a w val lo hi)(bS:∀ i,i<np->L i=true)(hd:zI l np a0.tmps.size=true):a=oE val 0 (l.take np) a0:=by
 have e:a.tmps=(oE val 0 (l.take np) a0).tmps:=by
  apply Array.ext_getElem?;intro s;by_cases h:∃ i o,i<np/\l[i]? = some o/\o.dst=some s
  . obtain⟨i,o,hi,ho,hs⟩:=h;obtain⟨d,fN,zJ,EC⟩:=EA hd hi ho;rw [hs] at fN;injection fN with fN;subst fN;rw [M.Ez i o s hi ho hs (bS i hi)];have:=Ov val s (l.take np) 0 a0 i o (by rw [eh,aC hi]; exact ho) hs (fun j o' ho' px=>by
     rw [eh] at ho';split at ho'
     . exact EC j o' (by assumption) ho' px
     . cases ho') zJ
    rw [this,gC]
  . rw [M.Cl s (fun i o hi ho hs=>(h ⟨i,o,hi,ho,hs⟩).elim),EB val s _ _ _ (fun o ho hs=>by
     obtain⟨i,hi⟩:=kT.1 ho;rw [eh] at hi;split at hi
     . exact h ⟨i,o,by assumption,hi,hs⟩
     . cases hi)]
 have e2:a.defers=(oE val 0 (l.take np) a0).defers:=by rw [Ou]; exact M.defers
 obtain⟨t,d⟩:=a;simp only at e e2;rw [e,e2]
theorem Made.next(M:Made w0 a0 l np R L a w val lo hi){i:Nat}(lI:i<np)(ho:l[i]? = some o)(hd:zI l np a0.tmps.size=true)(hR:∀ i v lo hi w w',R i v lo hi w->hi<=w.heap.size->cW w w'->R i v lo hi w')(hw:cW w w')(hv:R i v w.heap.size w'.heap.size w'){L':Nat->Bool}(hL:∀ j,L' j=if j=i then true else L j)(hn:L i=false) :
 Made w0 a0 l np R L' (a.put o.dst v) w' (fun j=>if j=i then v else val j) (fun j=>if j=i then w.heap.size else lo j) (fun j=>if j=i then w'.heap.size else hi j):=by
 obtain⟨d,fN,zJ,EC⟩:=EA hd lI ho;refine⟨by rw [W7]; exact M.defers,by rw [Ot]; exact M.Oq,M.zH.trans (hw.mono M.zH.size),fun j hj hl => ?_,fun j k hj hk uy l9 qo => ?_,fun j oj dj hj dW gF uy => ?_,fun s hs => ?_⟩
 . by_cases e:j=i
   . subst e;simp only [eO];exact⟨M.zH.size,hw.size,aA _,hv⟩
   . simp only [e,dw];rw [hL,aw e] at hl;obtain⟨h1,h2,h3,h4⟩:=M.rows j hj hl;have W9:=hw.size;have h0:=M.zH.size;exact⟨h1,h2,oo,hR j _ _ _ w w' h4 h3 hw⟩
 . rw [hL] at uy l9;by_cases e1:j=i
   . by_cases e2:k=i
     . omega
     . simp only [e1,e2,eO,dw];rw [aw e2] at l9;exact .inr (M.rows k hk l9).2.2.1
   . rw [aw e1] at uy;by_cases e2:k=i
     . simp only [e1,e2,eO,dw];exact .inl (M.rows j hj uy).2.2.1
     . simp only [e1,e2,dw];rw [aw e2] at l9;exact M.apart j k hj hk uy l9 qo
 . rw [fN];rw [Ey (by rw [M.Oq]; exact zJ)];by_cases e:j=i
   . subst e;rw [ho] at dW;injection dW with dW;subst dW;rw [fN] at gF;injection gF with gF;subst gF;simp
   . have aT:dj≠d:=fun h=>e (EC j oj hj dW (by rw [gF,h]));rw [hL,aw e] at uy;simp only [aT,e,dw];exact M.Ez j oj dj hj dW gF uy
 . rw [fN];rw [Ey (by rw [M.Oq]; exact zJ)];have aT:s≠d:=fun h=>by
    have:=hs i o lI ho (by rw [fN,h]);rw [hL,aC rfl] at this;cases this
   rw [aw aT];refine M.Cl s (fun j oj hj dW gF => ?_);have:=hs j oj hj dW gF;rw [hL] at this;by_cases e:j=i
   . rw [aC e] at this;cases this
   . rw [aw e] at this;exact this
end
section
variable{P:Program}{ops:Array Oper}{Q:Exit->Act->World->Prop}{a:Act}{w:World}{K:Act->World->Prop}{i:Nat}{o:Oper}
end
theorem Ow{i:Nat}(h:listed.getD i true=false):LL listed i=false/\i<listed.size:=by
 have ah:i<listed.size:=by
  rcases b9 i listed.size with h'|h'
  . exact h'
  . simp [Ef h'] at h
 refine⟨?_,ah⟩;unfold LL;simp [ah] at h ⊢;exact h
section
variable{P:Program}{ops:Array Oper}{Q:Exit->Act->World->Prop}{a:Act}{w:World}{K:Act->World->Prop}{i:Nat}{o:Oper}
theorem Xa(h:o.guard=none)(f:Nat->Option Bool):Region.wanted o f=true:=by unfold Region.wanted; rw [h]
theorem IZ{b c r:Bool}{d:Nat}(h:o.guard=some (j,b))(hj:ops[j]? = some oj)(hd:oj.dst=some d)(hs:a.tmps[d]? = some (.bool c))(hr:(c==b)=r):Region.wanted o (yielded ops a.tmps)=r:=by
 subst hr;unfold Region.wanted yielded;rw [h];simp only [hj,Em,hd,hs];cases b<;>cases c<;>rfl
end
def kY(k:IntKind)(l:List Nat):List (List Value):=l.map fun (n:Nat) => [Value.int k (n:Int)]
theorem Ox(k:IntKind)(l:List Nat):(kY k l).length=l.length:=by simp [kY]
theorem Xb{k:IntKind}{i:Nat}(h:i<l.length):(kY k l)[i]? = some [Value.int k (l[i]:Int)]:=by
 unfold kY;rw [ga,bc h];rfl
theorem ajU(k:IntKind)(l:List Nat)(n:Nat):kY k (l.take n)=(kY k l).take n:=by simp [kY,IP]
section
variable{P:Program}{w:World}{ops:Array Oper}{rest:List Oper}{o:Oper}{a:Act}{Q:Exit->Act->World->Prop}
theorem ajV{d:TypeDesc}(hT:P.underlying T=some d)(hd:(match d with | .struct _ | .array _ _=>false|_=>true)=true){k:IntKind}(h:Rd w B 1 A (kY k l)){i:Nat}(hi:i<l.length) :
 ∃ b off,A=some ⟨b,off,none⟩/\b<B/\∀ w',Below B w w'->(loadVar T ⟨b,off+i,none⟩).run P w' = .ok (.int k (l[i]:Int)) w':=by
 obtain⟨b,off,e,ah,hl,hc⟩:=h i _ (Xb hi);refine⟨b,off,e,ah,fun w' hb=>Cg hT hd ?_⟩;have h1:=hc 0 _ rfl;simp only [mS,jE] at h1;exact (hb.cell (p:=⟨b,_,none⟩) Ch).trans h1
end
structure aY where
 neg:Bool
 num:Nat
 den:Nat
deriving DecidableEq
abbrev c7:Nat:=115792089237316195423570985008687907853269984665640564039457584007913129639936
def aY.fits(f:aY):Prop:=f.num<c7/\f.den<c7
def aY.right(f:aY):Bool:=decide (f.den≠0)&&decide (Nat.gcd f.num f.den=1) && !(f.neg&&decide (f.num=0))
def py:aY:=⟨false,0,0⟩
def jX(neg:Bool)(n d:Nat):aY×Int :=
 if n / Nat.gcd n d<c7/\d / Nat.gcd n d<c7 then (⟨neg&&decide (n / Nat.gcd n d≠0),n / Nat.gcd n d,d / Nat.gcd n d⟩,0) else (py,3)
def jY(f:aY):aY:=⟨!f.neg&&decide (f.num≠0),f.num,f.den⟩
def qu(f g:aY):aY×Int :=
 if f.neg=g.neg then jX f.neg (f.num*g.den+g.num*f.den) (f.den*g.den)
 else if f.num*g.den<g.num*f.den then jX g.neg (g.num*f.den - f.num*g.den) (f.den*g.den)
 else jX f.neg (f.num*g.den - g.num*f.den) (f.den*g.den)
def kj(f g:aY):aY×Int:=if f.right&&g.right then qu f g else (py,2)
def jh(f g:aY):aY×Int:=if f.right&&g.right then qu f (jY g) else (py,2)
def mulL(f g:aY):aY×Int:=if f.right&&g.right then jX (f.neg != g.neg) (f.num*g.num) (f.den*g.den) else (py,2)
def jZ(f g:aY):aY×Int:=if f.right&&g.right&&decide (g.num≠0) then jX (f.neg != g.neg) (f.num*g.den) (f.den*g.num) else (py,2)
def mU(a b:Int):aY×Int:=if b=0 then (py,2) else jX (decide (a<0) != decide (b<0)) a.natAbs b.natAbs
def cS(n:Int):aY:=⟨decide (n<0),n.natAbs,1⟩
def mV(x y:Nat):Int:=if x<y then -1 else if y<x then 1 else 0
def I0(f g:aY):Int×Int :=
 if f.right&&g.right then
  (if f.neg && !g.neg then -1 else if g.neg && !f.neg then 1 else if f.neg then mV (g.num*f.den) (f.num*g.den) else mV (f.num*g.den) (g.num*f.den),0)
 else (0,2)
theorem ajW(neg:Bool)(n d k:Nat)(hk:0<k):jX neg (n*k) (d*k)=jX neg n d:=by
 unfold jX;rw [Nat.gcd_mul_right,ajc _ _ hk,ajc _ _ hk]
theorem ED(neg:Bool)(n d:Nat):(jX neg n d).1.fits:=by
 unfold jX;split
 . rename_i h;exact h
 . unfold py aY.fits;exact⟨by decide,by decide⟩
theorem ajX(neg:Bool)(n:Nat)(h:n<c7):jX neg n 1=(⟨neg&&decide (n≠0),n,1⟩,0):=by
 unfold jX;rw [Nat.gcd_one_right,vR,vR,aC ⟨h,by decide⟩]
theorem EE:py.fits:=⟨by decide,by decide⟩
theorem ajY(a b:Int):(mU a b).1.fits:=by
 unfold mU;split
 . exact EE
 . exact ED _ _ _
theorem Xc(f g:aY):(qu f g).1.fits:=by
 unfold qu;split
 . exact ED _ _ _
 . split<;>exact ED _ _ _
theorem ajZ(f g:aY):(kj f g).1.fits:=by
 unfold kj;split
 . exact Xc _ _
 . exact EE
theorem aj0(f g:aY):(jh f g).1.fits:=by
 unfold jh;split
 . exact Xc _ _
 . exact EE
theorem aj1(f g:aY):(mulL f g).1.fits:=by
 unfold mulL;split
 . exact ED _ _ _
 . exact EE
theorem aj2(f g:aY):(jZ f g).1.fits:=by
 unfold jZ;split
 . exact ED _ _ _
 . exact EE
def ofRat(q:Rat):aY:=⟨decide (q.num<0),q.num.natAbs,q.den⟩
def qv(q:Rat):Prop:=q.num.natAbs<c7/\q.den<c7
instance (q:Rat):Decidable (qv q):=by unfold qv; infer_instance
def xI(q:Rat):aY×Int:=if qv q then (ofRat q,0) else (py,3)
theorem EF{q:Rat}(h:qv q):xI q=(ofRat q,0):=by unfold xI; rw [aC h]
theorem Xd(q:Rat):q=(q.num:Rat) / (q.den:Rat):=by
 have h1:=Rat.num_divInt_den q;rw [Rat.divInt_eq_div,NM] at h1;exact h1.symm
theorem xJ(q:Rat):(ofRat q).right=true:=by
 unfold ofRat aY.right;have h1:=q.den_nz;have h2:Nat.gcd q.num.natAbs q.den=1:=q.reduced;simp only [h1,h2,ne_eq,NQ,rB,eu,jf,Bool.and_eq_false_iff,fQ];omega
theorem zK(neg:Bool)(n d:Nat)(hd:d≠0):jX neg n d=xI (Rat.normalize (if neg then -(n:Int) else n) d hd):=by
 have e:(if neg then -(n:Int) else (n:Int)).natAbs=n:=by cases neg<;>simp
 have hg:0<Nat.gcd n d:=azk _ (WB hd);have hdv:Nat.gcd n d ∣ n:=Nat.gcd_dvd_left n d;rw [Rat.normalize_eq hd];unfold xI qv ofRat jX;simp only [e];generalize Nat.gcd n d=g at *
 obtain⟨m,rfl⟩:=hdv;have h1:g*m / g=m:=Nat.mul_div_cancel_left m hg;have h2:(if neg then -((g*m:Nat):Int) else ((g*m:Nat):Int)) / (g:Int)=if neg then -(m:Int) else m:=by
  have rH:(g:Int)≠0:=oo
  cases neg
  . simp only [dV,dw];rw [NY,azm _ rH]
  . simp only [eO];rw [NY,<- Int.mul_neg,azm _ rH]
 rw [h1,h2];have h3:(if neg then -(m:Int) else (m:Int)).natAbs=m:=by cases neg<;>simp
 rw [h3];split
 . congr 2;cases neg
   . simp
   . by_cases hm:m=0
     . simp [hm]
     . have h4 : -(m:Int)<0:=oo
       simp [hm];omega
 . rfl
theorem aj4(q:Rat):jY (ofRat q)=ofRat (-q):=by
 unfold jY ofRat;simp only [Rat.neg_num,Rat.neg_den,Int.natAbs_neg,aY.mk.injEq,bn];by_cases h:q.num<0
 . have h2:¬ -q.num<0:=oo
   simp [h];omega
 . by_cases h0:q.num=0
   . simp [h0]
   . have h2 : -q.num<0:=oo
     have h3:q.num.natAbs≠0:=oo
     simp [h,h0];omega
theorem rI(n:Int):cS n=ofRat (n:Rat):=by
 unfold cS ofRat;simp only [Rat.num_intCast,Rat.den_intCast];congr 1
theorem Xe(p q:Rat):qu (ofRat p) (ofRat q)=xI (p+q):=by
 have hd:p.den*q.den≠0:=aju p.den_nz q.den_nz;rw [Rat.add_def];unfold qu ofRat;simp only;have ep:p.num=if p.num<0 then -(p.num.natAbs:Int) else (p.num.natAbs:Int):=by split<;>omega
 have eq:q.num=if q.num<0 then -(q.num.natAbs:Int) else (q.num.natAbs:Int):=by split<;>omega
 generalize p.num.natAbs=a at *
 generalize q.num.natAbs=b at *
 by_cases h1:p.num<0<;>by_cases h2:q.num<0
 . simp only [h1,h2,rB,eO] at *
   rw [zK _ _ _ hd];congr 2;rw [ep,eq];simp only [eO];push_cast;grind
 . simp only [h1,h2,rB,vP,eO,dw,Bool.true_eq_false] at *
   split
   . exact Xf
   . exact Xg
 . simp only [h1,h2,rB,vP,eO,dw,dV] at *
   split
   . exact Xg
   . exact Xf
 . simp only [h1,h2,vP,eO,dw] at *
   rw [zK _ _ _ hd];congr 2;rw [ep,eq];simp only [dV,dw];push_cast;grind
theorem aj5(p q:Rat):mulL (ofRat p) (ofRat q)=xI (p*q):=by
 have hd:p.den*q.den≠0:=aju p.den_nz q.den_nz;rw [Rat.mul_def];unfold mulL;rw [xJ,xJ];simp only [N6,eO];unfold ofRat;simp only;rw [zK _ _ _ hd];have ep:p.num=if p.num<0 then -(p.num.natAbs:Int) else (p.num.natAbs:Int):=by split<;>omega
 have eq:q.num=if q.num<0 then -(q.num.natAbs:Int) else (q.num.natAbs:Int):=by split<;>omega
 generalize p.num.natAbs=a at *
 generalize q.num.natAbs=b at *
 congr 2;by_cases h1:p.num<0<;>by_cases h2:q.num<0<;>simp [h1,h2] at ep eq ⊢ <;> rw [ep,eq]<;>push_cast<;>grind
theorem Xh(s t:Bool)(a b c d:Nat)(hb:b≠0)(hc:c≠0)(hd:d≠0) :
 (((if (s != t)=true then -((a*d:Nat):Int) else ((a*d:Nat):Int):Int)):Rat) / ((c*b:Nat):Rat)=(((if s=true then -(a:Int) else (a:Int):Int)):Rat) / (c:Rat) / ((((if t=true then -(b:Int) else (b:Int):Int)):Rat) / (d:Rat)):=by
 have aW:(b:Rat)≠0:=by simpa using hb
 have Cm:(c:Rat)≠0:=by simpa using hc
 have px:(d:Rat)≠0:=by simpa using hd
 cases s<;>cases t<;>simp only [WD,dV,dw,eO,Bool.true_bne,Bool.false_bne,WN,Rat.intCast_neg,NM,Rat.natCast_mul]<;>grind
theorem I1(n:Int):n=if (decide (n<0))=true then -(n.natAbs:Int) else (n.natAbs:Int):=by
 by_cases h:n<0
 . simp only [h,rB,eO]; omega
 . simp only [h,vP,dV,dw]; omega
theorem aj6(p q:Rat)(hq:q≠0):jZ (ofRat p) (ofRat q)=xI (p / q):=by
 have EG:q.num≠0:=fun h=>hq (Rat.num_eq_zero.1 h);have hn:q.num.natAbs≠0:=oo
 have hd:p.den*q.num.natAbs≠0:=aju p.den_nz hn;unfold jZ;rw [xJ,xJ];have h0:decide ((ofRat q).num≠0)=true:=by unfold ofRat; simpa using EG
 rw [h0];simp only [N6,eO];unfold ofRat;simp only;rw [zK _ _ _ hd];congr 1;rw [ajb,ajo,Xh _ _ _ _ _ _ hn p.den_nz q.den_nz,<- I1,<- I1,<- Xd,<- Xd]
theorem aj7(a b:Int)(hb:b≠0):mU a b=xI ((a:Rat) / (b:Rat)):=by
 unfold mU;rw [aw hb,zK _ _ _ oo];congr 1;have h:=Xh (decide (a<0)) (decide (b<0)) a.natAbs b.natAbs 1 1 oo oo oo;rw [<- I1,<- I1] at h;simp only [mS,IT] at h;rw [ajb,ajo,h];have e1:((1:Nat):Rat)=1:=rfl;rw [e1];grind
open Go.RowKit
abbrev ae:Nat:=4294967296
abbrev B16:Nat:=65536
theorem bT:2<=ae:=by decide
abbrev aM(x:Nat):Nat:=(bg ae x).length
abbrev Oy(w:World)(A:Option Addr)(x:Nat):Prop:=Rd w w.heap.size 1 A (kY .u32 (bg ae x))
theorem Rd.from{size:Nat}(h:Rd w w.heap.size size A css)(hb:cW w w'):Rd w' w'.heap.size size A css:=(h.below hb (aA _)).more hb.size
theorem aj9:(Tryz.prog.info? 49).map (fun i=>(i.zero,i.size,i.bytes))=some (some (.int .u32 0),1,4):=by kernel_rfl
theorem aka(hB:2<=B)(hl:dr B l):bg B (bE B l)=l.take (bg B (bE B l)).length:=by
 have h:=ajS hB (k:=l.length) (ur l hl);rw [Ci oo l hl] at h;exact h
theorem Xi(hB:2<=B){k:IntKind}(h:Rd w N 1 A (kY k l))(hl:dr B l):Rd w N 1 A (kY k (bg B (bE B l))):=by
 rw [aka hB hl,ajU];exact h.take _
theorem wrap_u64{n:Int}(h0:0<=n)(h:n<18446744073709551616):IntKind.u64.wrap n=n:=by
 unfold IntKind.wrap;simp [IntKind.bits,IntKind.signed];omega
theorem wrap_u32(n:Nat):IntKind.u32.wrap (n:Int)=((n % 4294967296:Nat):Int):=by
 unfold IntKind.wrap;simp [IntKind.bits,IntKind.signed]
theorem wrap_i64{n:Int}(h1 : -9223372036854775808<=n)(h2:n<=9223372036854775807):IntKind.i64.wrap n=n:=by
 unfold IntKind.wrap;simp [IntKind.bits,IntKind.signed];split<;>omega
def aY.cells(f:aY):List Value := [.bool f.neg]++((pad ae 8 f.num).map fun (n:Nat)=>Value.int .u32 (n:Int))++((pad ae 8 f.den).map fun (n:Nat)=>Value.int .u32 (n:Int))
def aY.val(f:aY):Value := .agg f.cells.toArray
theorem aY.akb(f:aY){i:Nat}(h:i<8):f.cells[1+i]? = some (.int .u32 ((pad ae 8 f.num)[i]'(by rw [ev]; exact h):Nat)):=by
 unfold aY.cells;rw [fR,rq (by simp),qj (by simp [ev]; omega)];simp [ev,h]
theorem aY.akc(f:aY){i:Nat}(h:i<8):f.cells[9+i]? = some (.int .u32 ((pad ae 8 f.den)[i]'(by rw [ev]; exact h):Nat)):=by
 unfold aY.cells;rw [fR,rq (by simp only [cB,ej]; omega),rq (by simp only [fk,ev,cB,ej]; omega)];have e:9+i - [Value.bool f.neg].length - ((pad ae 8 f.num).map fun (n:Nat)=>Value.int .u32 (n:Int)).length=i:=by simp only [fk,ev,cB,ej]; omega
 rw [e];simp [ev,h]
theorem EH:ae^8=c7:=by decide
theorem I2{f:aY}(h:w.heap[g]? = some (.cells f.cells.toArray 52 (0,0))) :
 Rd w w.heap.size 1 (some ⟨g,1,none⟩) (kY .u32 (pad ae 8 f.num))/\Rd w w.heap.size 1 (some ⟨g,9,none⟩) (kY .u32 (pad ae 8 f.den)):=by
 have ah:=(jA.1 h).1;constructor
 . intro i cs hi;unfold kY at hi;rw [ga] at hi;obtain⟨n,hn,rfl⟩:=kS.1 hi;have sX:i<8:=by have:=(cF.1 hn).1; rwa [ev] at this
   refine⟨g,1,rfl,ah,rfl,fun j u hu => ?_⟩
   match j,hu with
   | 0,hu =>
    simp at hu;subst hu;rw [zD w g _ _ _ _ h];simp only [mS,jE,Ec];rw [f.akb sX];exact Xj
 . intro i cs hi;unfold kY at hi;rw [ga] at hi;obtain⟨n,hn,rfl⟩:=kS.1 hi;have sX:i<8:=by have:=(cF.1 hn).1; rwa [ev] at this
   refine⟨g,9,rfl,ah,rfl,fun j u hu => ?_⟩
   match j,hu with
   | 0,hu =>
    simp at hu;subst hu;rw [zD w g _ _ _ _ h];simp only [mS,jE,Ec];rw [f.akc sX];exact Xj
theorem Oz(hl:dr B l){k:Nat}(h:l.length=k+1):bE B l=bE B (l.take k)+B^k*l.getD k 0/\bE B (l.take k)<B^k:=by
 have h1:=WY B l k;rw [jC oo] at h1;have h2:=ur (l.take k) (hl.take k);rw [Ee oo] at h2;exact⟨h1,h2⟩
theorem akd(hl:dr B l){k:Nat}(h:l.length=k+2):bE B l=bE B (l.take k)+B^k*(l.getD k 0+B*l.getD (k+1) 0)/\bE B (l.take k)<B^k:=by
 have h1:=(Oz hl (k:=k+1) h).1;have h2:=WY B l k;have h3:=ur (l.take k) (hl.take k);rw [Ee oo] at h3;refine⟨?_,h3⟩;rw [h1,h2,kg];grind
theorem OA{k:Nat}(h:aM y=k+1):(bg ae y).getD k 0≠0:=by
 refine ajI bT (n:=y) ?_;have h':(bg ae y).length=k+1:=h;rw [ai8,h'];simp [List.getD,h']
theorem ake{k:Nat}(h:aM y=k+1)(EJ:yt=(bg ae y).getD k 0)(hs:s=ae / (yt+1)):0<s/\s<ae/\aM (y*s)=k+1:=by
 have h0:=OA h;rw [<- EJ] at h0;have hd:=dr.bg bT y;have ah:yt<ae:=by rw [EJ]; exact hd.getD (by decide) k
 have xK:=Oz hd h;rw [uv bT,<- EJ] at xK;have nK:0<s:=by rw [hs]; exact Nat.div_pos oo oo
 have hm:s*(yt+1)<=ae:=by rw [hs]; exact Nat.div_mul_le_self _ _
 have ji:s<ae:=by
  have h1:s*2<=s*(yt+1):=kU _ oo;omega
 refine⟨nK,ji,?_⟩;have hB:ae^(k+1)=ae^k*ae:=kg ..;have EK:y<ae^k*(yt+1):=by
  rw [qn,mS];omega
 have h3:y*s<ae^(k+1):=by
  have h4:y*s<ae^k*(yt+1)*s:=NK EK nK;have h5:ae^k*(yt+1)*s=ae^k*(s*(yt+1)):=by grind
  have h6:ae^k*(s*(yt+1))<=ae^k*ae:=kU _ hm;rw [hB];omega
 have h7:ae^k<=y:=(Ex bT).1 (show k<aM y from oo);have h8:y*1<=y*s:=kU _ nK;have h9:k<aM (y*s):=(Ex bT).2 oo;have oF:=uw bT h3;have:aM (y*s)<=k+1:=oF;omega
theorem akf(hu:dr ae u)(EL:u.length=n+1)(rJ:aM V=n)(hn:0<n)(zG:vt=(bg ae V).getD (n - 1) 0)(ah:bE ae u<V*ae)(hg:g=min ((u.getD n 0*4294967296+u.getD (n - 1) 0) / vt) 4294967295):bE ae u / V<=g:=by
 obtain⟨k,rfl⟩:∃ k,n=k+1:=⟨n - 1,oo⟩
 simp only [xx] at zG hg;have h0:=OA rJ;rw [<- zG] at h0;obtain⟨rK,_⟩:=Oz (dr.bg bT V) (k:=k) rJ;rw [uv bT,<- zG] at rK;obtain⟨Xk,OB⟩:=akd hu (k:=k) oo;have jj:0<V:=by
  have:0<ae^k*vt:=zE (Nat.pow_pos (by decide)) oo;omega
 have h1:=ajQ (B:=ae) (n:=k) (by decide) rK Xk OB oo;have hB:ae=4294967296:=rfl;have e:u.getD k 0+ae*u.getD (k+1) 0=u.getD (k+1) 0*4294967296+u.getD k 0:=by rw [hB]; omega
 rw [e] at h1;have h2:bE ae u / V<ae:=by
  rw [IC jj,kX]; exact ah
 rw [hg];omega
end Go.Proofs.YtamjbkaclhgffaaGreat
