/-
  What a slice of rows of cells reads as, what a call owns, and the laws on append for them; over any program.
-/
import Derived.Test.YtamjbkaclhgffaaGreatSh0
import Derived.WalkKit
import Derived.WalkSpells
import Derived.WalkLawsBesides
import Derived.BigQuiet
import Derived.Deep.QuietTactic
import Derived.Deep.LoopGhost
import Derived.Deep.Slices
import Derived.Maps.AppendAt
import Derived.Lib.Hide
import Derived.Test.YtamjbkaclhgffaaGreatRows
set_option linter.all false
namespace Go.Proofs.YtamjbkaclhgffaaGreat
open Go.RowKit
variable{a:Act}{ad:Addr}{listed:Array Bool}{aft:Array Edge}{ops:Array Oper}{cur:Array Value}{Q:Exit->Act->World->Prop}{css ds news:List (List Value)}{js u:List Nat}{rest:List Oper}{cs:List Value}{B B' N T V base by_ bytes c cn e g j m n np off r s t top vt y yt:Nat}{o oj:Oper}{x:Operand}{gd:Option (Nat×Bool)}{A X:Option Addr}{d:Option Nat}{pos:String}{α:Type}{ty:TypeId}{v z:Value}{w w':World}
def Rd(w:World)(B size:Nat)(A:Option Addr)(css:List (List Value)):Prop :=
 ∀ k cs,css[k]? = some cs->∃ b off,A=some ⟨b,off,none⟩/\b<B/\cs.length=size/\∀ j u,cs[j]? = some u->w.cell? ⟨b,off+k*size+j,none⟩=some u
theorem Rd.nil(w:World)(B size:Nat)(A:Option Addr):Rd w B size A []:=by intro k cs h; simp at h
theorem Rd.below{size:Nat}(h:Rd w B size A css)(hb:Below B' w w')(hB:B<=B'):Rd w' B size A css:=by
 intro k cs hk;obtain⟨b,off,e,af,hl,hc⟩:=h k cs hk;exact⟨b,off,e,af,hl,fun j u hu=>(hb.cell (p:=⟨b,_,none⟩) (by simp; omega)).trans (hc j u hu)⟩
theorem Rd.more{size:Nat}(h:Rd w B size A css)(hB:B<=B'):Rd w B' size A css:=by
 intro k cs hk;obtain⟨b,off,e,af,hl,hc⟩:=h k cs hk;exact⟨b,off,e,oo,hl,hc⟩
theorem Rd.pre{size:Nat}(h:Rd w B size A (css++ds)):Rd w B size A css:=by
 intro k cs hk;exact h k cs (by rw [r7 (c8.1 hk).1]; exact hk)
theorem Rd.take{size:Nat}(h:Rd w B size A css)(n:Nat):Rd w B size A (css.take n):=by
 rw [<- lT n css] at h;exact h.pre
theorem KA{size:Nat}:∀ (css:List (List Value)),(∀ cs∈css,cs.length=size)->∀ k j,j<size->css.flatten[k*size+j]? = css[k]?.bind (·[j]?)
 | [],_,k,j,_=>by simp
 | cs::css,h,0,j,hj=>by
  have hl:=h cs (by simp);simp only [Kq,vR,ia,pW,FY];rw [r7 oo]
 | cs::css,h,k+1,j,hj=>by
  have hl:=h cs (by simp);have ih:=KA css (fun c hc=>h c (by simp [hc])) k j hj;simp only [Kq,PW];rw [r6 (by rw [hl,Dn]; omega),hl,<- ih];congr 1;rw [Dn]; omega
theorem qQ{size:Nat}:∀ (css:List (List Value)),(∀ cs∈css,cs.length=size)->css.flatten.length=css.length*size
 | [],_=>by simp
 | cs::css,h=>by
  have hl:=h cs (by simp);have ih:=qQ css (fun c hc=>h c (by simp [hc]));simp only [Kq,c9,dE,ih,hl,Dn];omega
theorem Rd.len{size:Nat}(h:Rd w B size A css):∀ cs∈css,cs.length=size:=by
 intro cs hc;obtain⟨k,hk,e⟩:=FT.1 hc;obtain⟨_,_,_,_,hl,_⟩:=h k cs (by rw [bq hk,e]);exact hl
theorem Rd.flat{size:Nat}(h:Rd w B size A css):∀ j u,css.flatten[j]? = some u->∃ ad,A=some ad/\w.cell? (ad.add j)=some u:=by
 intro j u hu;rcases vH size with h0|h0
 . subst h0;have:=qQ css h.len;rw [uq] at this;rw [De this] at hu;simp at hu
 . have e:j=j / size*size+j % size:=by rw [j8]; exact (Dm j size).symm
   rw [e,KA css h.len _ _ (jk _ h0)] at hu;obtain⟨cs,aS,hju⟩:=mm.1 hu;obtain⟨b,off,hA,_,_,hc⟩:=h _ cs aS;refine⟨_,hA,?_⟩;rw [ur];have:=hc _ _ hju;rw [pZ,<- e] at this;exact this
def EI(P:Program)(t e size bytes:Nat):Prop :=
 P.underlying t=some (.slice e)/\∃ i z,P.info? e=some i/\i.zero=some z/\i.size=size/\i.bytes=bytes/\z.cells.size=size/\0<size
theorem EI.mk{P:Program}{size:Nat}(ht:P.underlying t=some (.slice e))(h:(P.info? e).map (fun i=>(i.zero,i.size,i.bytes))=some (some z,size,bytes))(hz:z.cells.size=size)(hs:0<size):EI P t e size bytes:=by
 obtain⟨i,h1,h2,h3,h4⟩:=info_parts h;exact⟨ht,i,z,h1,h2,h3,h4,hz,hs⟩
def dc(w:World)(base e size:Nat)(A:Option Addr)(c:Nat)(css:List (List Value)):Prop :=
 w.ownsRow base e size (.slice A css.length c) css.length css.flatten/\∀ cs∈css,cs.length=size
section
variable{w w':World}{base e size c:Nat}{A:Option Addr}{css:List (List Value)}
theorem dc.nil(w:World)(base e size:Nat):dc w base e size none 0 []:=⟨World.ownsRow_nil w base e size,by simp⟩
theorem dc.of(h:w.ownsRow base e size v n css.flatten)(hn:n=css.length)(hl:∀ cs∈css,cs.length=size):∃ A c,v = .slice A css.length c/\dc w base e size A c css:=by
 subst hn;rcases h.2 with ⟨rfl,h0⟩|⟨g,cap,cur,rfl,r⟩
 . have hc:css = []:=De h0;subst hc;exact⟨none,0,rfl,dc.nil _ _ _ _⟩
 . exact⟨_,_,rfl,h,hl⟩
theorem dc.lt(h:dc w base e size A c css){a:Addr}(ha:A=some a):base<=a.block/\a.block<w.heap.size:=by
 subst ha;exact h.1.lt a.block rfl
theorem dc.cap(h:dc w base e size A c css):css.length<=c/\c<=maxLen:=by
 rcases h.1.2 with ⟨h1,h2⟩|⟨g,cap,cur,h1,_,_,h2,h3,_⟩
 . injection h1 with _ h3 h4;exact⟨oo,by rw [h4]; exact bw _⟩
 . simp at h1;rw [h1.2];exact⟨h2,h3⟩
theorem dc.rd(h:dc w base e size A c css):Rd w w.heap.size size A css:=by
 intro k cs hk;have lY:=(c8.1 hk).1;rcases h.1.2 with ⟨h1,h2⟩|⟨g,cap,cur,h1,_,hg,_,_,_,tj⟩
 . omega
 . simp at h1;obtain⟨rfl,rfl⟩:=h1;have hlen:cs.length=size:=h.2 cs (gK hk);refine⟨g,0,rfl,(pV.1 hg).1,hlen,fun j u hu => ?_⟩;have hj:j<size:=by rw [<- hlen]; exact (c8.1 hu).1
   have hf:css.flatten[k*size+j]? = some u:=by rw [KA css h.2 k j hj,hk]; exact hu
   have:=h.1.cells (g:=g) rfl _ _ hf;rw [ur] at this;rw [pZ];exact this
theorem dc.block(h:dc w base e size A c css):(A=none/\c=0/\css = [])\/∃ g cur,A=some ⟨g,0,none⟩/\base<=g/\w.heap[g]? = some (.cells cur e (0,0))/\cur.size=c*size:=by
 rcases h.1.2 with ⟨h1,h2⟩|⟨g,cap,cur,h1,hb,hg,_,_,hs,_⟩
 . injection h1 with h3 _ h4;exact .inl ⟨h3,h4,De h2⟩
 . simp at h1;obtain⟨rfl,rfl⟩:=h1;exact .inr ⟨g,cur,rfl,hb,hg,hs⟩
theorem dc.lu(h:dc w base e size A c css)(hk:∀ a,A=some a->w'.heap[a.block]? = w.heap[a.block]?):dc w' base e size A c css:=by
 refine⟨⟨h.1.1,?_⟩,h.2⟩;rcases h.1.2 with h1|⟨g,cap,cur,h1,hb,hg,r⟩
 . exact .inl h1
 . refine .inr ⟨g,cap,cur,h1,hb,?_,r⟩;simp at h1;rw [hk _ h1.1];exact hg
theorem dc.Dr{b:Nat}(h:dc w base e size A c css)(hb:b<=base):dc w b e size A c css:=by
 refine⟨⟨h.1.1,?_⟩,h.2⟩;rcases h.1.2 with h1|⟨g,cap,cur,h1,hg,r⟩
 . exact .inl h1
 . exact .inr ⟨g,cap,cur,h1,oo,r⟩
end
section
variable{P:Program}{w:World}{ops:Array Oper}{rest:List Oper}{o:Oper}{a:Act}{Q:Exit->Act->World->Prop}
theorem ans{size ty:Nat}(hE:EI P t e size bytes)(bS:dc w base e size A c css)(B:Nat)(hr:Rd w B size X news)(hm:m=news.length)(h1:∀ cs∈news,∀ u∈cs,u.oneCell'=true)(qR:css.length+m<=maxLen)(AP:(css.length+m)*bytes<=140737488355328)(iF:base<=w.heap.size) :
 ∃ A' c' w',(Builtin.append_ #[t,t] ty #[.slice A css.length c,.slice X m cn]).run P w = .ok (.slice A' (css++news).length c') w'/\dc w' base e size A' c' (css++news)/\w.grownBy w' (Value.ownBlock (.slice A css.length c))/\Below base w w':=by
 subst hm;obtain⟨ht,i,z,hi,hz,hs,hb,xA,h0⟩:=hE;have hlen:∀ cs∈css++news,cs.length=size:=fun cs hc=>by
  rcases nJ.1 hc with h|h
  . exact bS.2 cs h
  . exact hr.len cs h
 have fin:∀ v' w',w'.ownsRow base e size v' (css.length+news.length) (css.flatten++news.flatten)->w.grownBy w' (Value.ownBlock (.slice A css.length c))->(Builtin.append_ #[t,t] ty #[.slice A css.length c,.slice X news.length cn]).run P w = .ok v' w' ->
  ∃ A' c' w',(Builtin.append_ #[t,t] ty #[.slice A css.length c,.slice X news.length cn]).run P w = .ok (.slice A' (css++news).length c') w'/\dc w' base e size A' c' (css++news)/\w.grownBy w' (Value.ownBlock (.slice A css.length c))/\Below base w w':=by
  intro v' w' h2 h3 cZ;obtain⟨A',c',rfl,h4⟩:=dc.of (css:=css++news) (by rw [P2]; exact h2) (by simp) hlen;exact⟨A',c',w',cZ,h4,h3,(dU _ _).grown h3 iF (fun k hk=>(bS.1.lt k hk).1)⟩
 rcases X with _|ad
 . have hn:news = []:=by
    rcases news with _|⟨x,l⟩
    . rfl
    . obtain⟨_,_,h,_⟩:=hr 0 x rfl;cases h
   subst hn;refine fin (.slice A css.length c) w (by simpa using bS.1) (World.grownBy.refl w _) ?_;exact YY
 . obtain⟨v',w',cZ,h2,h3,_,_⟩:=run_append_own_at (P:=P) w base t ty e i z size bytes ht hi hz hs hb xA h0 _ css.length css.flatten bS.1 ad news.length cn news.flatten (qQ news hr.len)
    (fun j u hu=>by obtain⟨ad',h,hc⟩:=hr.flat j u hu; injection h with h; rw [h]; exact hc)
    (fun u hu=>by obtain⟨cs,aS,vU⟩:=anj.1 hu; exact h1 cs aS u vU) qR AP iF
   exact fin v' w' h2 h3 cZ
theorem anu{size:Nat}(lv:o.guard=none)(s x:Operand)(ho:o.op = .call { callee := .builtin .append,args := #[s,x],argTypes := #[t,t] })(hE:EI P t e size bytes)(hs:a.eval s = .slice A css.length c)(bS:dc w base e size A c css)(hx:a.eval x = .slice X m cn)(B:Nat)(hr:Rd w B size X news)(hm:m=news.length)(h1:∀ cs∈news,∀ u∈cs,u.oneCell'=true)(qR:css.length+m<=maxLen)(AP:(css.length+m)*bytes<=140737488355328)(iF:base<=w.heap.size)(h:∀ A' c' w',dc w' base e size A' c' (css++news)->w.grownBy w' (Value.ownBlock (.slice A css.length c))->Below base w w'->wpList P ops Q rest (a.put o.dst (.slice A' (css++news).length c')) w'):wpList P ops Q (o::rest) a w:=by
 obtain⟨A',c',w',cZ,h2,h3,h4⟩:=ans (P:=P) (ty:=o.type) (cn:=cn) hE bS B hr hm h1 qR AP iF;refine wpList_plain lv fun K hK => ?_;unfold Oper.wp execOp;simp only [ho,resolve,invoke,builtin,bQ,cq,cg,Kj,jj,uj,hs,hx,cZ];exact hK _ _ (h A' c' w' h2 h3 h4)
end
def AQ(P:Program)(T n:Nat):Prop:=∃ d,P.underlying T=some d/\(match d with | .struct _ | .array _ _=>true|_=>false)=true/\(P.info? T).map (·.size)=some n
theorem YZ{P:Program}(hT:AQ P T n)(hn:cs.length=n)(h:∀ j u,cs[j]? = some u->w.cell? (ad.add j)=some u) :
 (loadVar T ad).run P w = .ok (.agg cs.toArray) w:=by
 obtain⟨d,hu,hd,hi⟩:=hT;subst hn;have hl:(loadCells ad cs.length).run P w = .ok cs.toArray w:=run_loadCells_list (P:=P) w ad cs h
 cases hq:P.info? T with
 | none=>simp [hq] at hi
 | some i =>
  have hs:i.size=cs.length:=by simpa [hq] using hi
  have Qe:(isAgg T).run P w = .ok true w:=by
   unfold isAgg;rw [bQ,qM hu w];cases d<;>simp_all
  simp [loadVar,bQ,Qe,sizeOf,typeInfo,hq,hs,hl]
theorem Ds{P:Program}{d:TypeDesc}(hT:P.underlying T=some d)(hd:(match d with | .struct _ | .array _ _=>false|_=>true)=true)(h:w.cell? ad=some v):(loadVar T ad).run P w = .ok v w:=by
 have Qe:(isAgg T).run P w = .ok false w:=by
  unfold isAgg;rw [bQ,qM hT w];cases d<;>simp_all
 simp [loadVar,bQ,Qe,h]
theorem Rd.ld{P:Program}{size:Nat}(hT:AQ P T size)(h:Rd w B size A css){k:Nat}(hk:css[k]? = some cs) :
 ∃ b off,A=some ⟨b,off,none⟩/\b<B/\∀ w',Below B w w'->(loadVar T ⟨b,off+k*size,none⟩).run P w' = .ok (.agg cs.toArray) w':=by
 obtain⟨b,off,e,af,hl,hc⟩:=h k cs hk;refine⟨b,off,e,af,fun w' hb=>YZ hT hl fun j u hu => ?_⟩;rw [ur];exact (hb.cell (p:=⟨b,_,none⟩) Dt).trans (hc j u hu)
section
variable{P:Program}{w:World}{ops:Array Oper}{rest:List Oper}{o:Oper}{a:Act}{Q:Exit->Act->World->Prop}{C:World->Prop}{K:Act->Prop}
theorem si(lv:o.guard=none)(T:Nat)(x:Operand)(ho:o.op = .load T x)(ad:Addr)(hx:a.eval x = .pointer (some ad))(v:Value)(mW:(loadVar T ad).run P w = .ok v w)(h:wpList P ops Q rest (a.put o.dst v) w):wpList P ops Q (o::rest) a w:=by
 refine wpList_plain lv fun K hK => ?_;unfold Oper.wp execOp;simp only [ho,hx,Instr.loadAt,Instr.sureAddr,bQ,cq,cg,mW];exact hK _ _ h
theorem Y0(hw:Region.wanted o (yielded ops a.tmps)=true)(T:Nat)(x:Operand)(ho:o.op = .load T x)(ad:Addr)(hx:a.eval x = .pointer (some ad))(v:Value)(mW:(loadVar T ad).run P w = .ok v w)(h:wpList P ops Q rest (a.put o.dst v) w):wpList P ops Q (o::rest) a w:=by
 refine wpList_step fun K hK => ?_;rw [aG hw];unfold Oper.wp execOp;simp only [ho,hx,Instr.loadAt,Instr.sureAddr,bQ,cq,cg,mW];exact hK _ _ h
theorem Qf(hi:(P.info? T).map (·.size)=some n)(hv:v.cells.toList=cs)(hn:cs.length=n)(hg:w.heap[g]? = some (.cells cur t (0,0)))(nL:off+n<=cur.size)(h1:∀ u∈cs,u.oneCell'=true) :
 (storeVar T ⟨g,off,none⟩ v).run P w = .ok () (w.setRow g (cur.toList.take off++cs++cur.toList.drop (off+n)).toArray):=by
 subst hv
 cases hq:P.info? T with
 | none=>simp [hq] at hi
 | some i =>
  have hs:i.size=n:=by simpa [hq] using hi
  have hst:=run_storeCells_at P g off t v.cells.toList 0 cur w hg (by simp only [jD]; omega) h1;simp only [jD] at hst;have bc:v.cells.size=n:=by simpa using hn
  unfold storeVar;simp only [bQ,sizeOf,typeInfo,ou,hq,cq,cg,hs,bc,ne_eq,Kg,dK];rw [hst,hn]
theorem Qg(lv:o.guard=none)(x y:Operand)(ho:o.op = .store T x y)(hx:a.eval x = .pointer (some ⟨g,off,none⟩))(hy:a.eval y=v)(hi:(P.info? T).map (·.size)=some n)(hv:v.cells.toList=cs)(hn:cs.length=n)(hg:w.heap[g]? = some (.cells cur t (0,0)))(nL:off+n<=cur.size)(h1:∀ u∈cs,u.oneCell'=true)(h:∀ (ph:Array Value) w',ph.toList=cur.toList.take off++cs++cur.toList.drop (off+n)->ph.size=cur.size->w'.heap[g]? = some (.cells ph t (0,0))->w.grownBy w' (some g)->wpList P ops Q rest (a.put o.dst undef) w') :
 wpList P ops Q (o::rest) a w:=by
 have hr:=Qf (P:=P) hi hv hn hg nL h1;refine wpList_plain lv fun K hK => ?_;unfold Oper.wp execOp;simp only [ho,hx,hy,Instr.storeAt,Instr.sureAddr,bQ,cq,cg,hr];refine hK _ _ (h _ _ rfl ?_ (YX w g cur _ t _ hg) ⟨rfl,rfl,rfl,by simp,fun k _ hk=>Kv w g k _ (fun e=>hk (by simp [e]))⟩);simp only [Dh,c9,cy,iU,am3];omega
theorem Qh(T:Nat)(x:Operand)(ho:o.op = .load T x)(ad:Addr)(hx:a.eval x = .pointer (some ad))(v:Value)(mW:∀ w',C w'->(loadVar T ad).run P w' = .ok v w')(hk:K (a.put o.dst v)):o.quiet P a C K:=by
 refine⟨v,fun w' hC => ?_,hk⟩;unfold Oper.quietAt execOp;simp only [ho,hx,Instr.loadAt,Instr.sureAddr,bQ,cq,cg,mW w' hC];exact⟨rfl,rfl⟩
theorem KB{id:Nat}{l:List Oper}(hm:P.follows .mixedOrders=true)(hB:Region.lexB .any l.toArray=true)(N:Nat)(h:wpQuiet P l.toArray (fun w'=>Below N w w') (fun a'=>∀ w',Below N w w'->Q .normal a' w') l a):(Code.region id l.toArray true).wp P Q a w :=
 wp_region_quiet (C:=fun w'=>Below N w w') hm hB (dU _ _).drew (by simpa using h)
end
theorem anv(w:World)(A B:Obj):((w.alloc A).alloc B).heap.size=w.heap.size+2:=by simp
theorem below_drewN{a:World}(h:Below B a w)(n:Nat):Below B a (w.drewN n):=⟨h.os,h.tape,h.output,h.size,h.block⟩
theorem toList_inj{a b:ByteArray}:(a.toList==b.toList)=decide (a=b):=by
 rw [<- beq_toListBytes];obtain⟨⟨x⟩⟩:=a;obtain⟨⟨y⟩⟩:=b;show ((⟨x⟩:Array UInt8)==⟨y⟩)=_
 by_cases h:x=y<;>simp [h]
theorem toList_eq{a b:ByteArray}:(a.toList=b.toList)=(a=b):=by
 have h:=toList_inj (a:=a) (b:=b);by_cases e:a=b
 . simp [e]
 . simp [e] at h;simp [e,h]
theorem anw{k:IntKind}{a b:Int}(h:a=b):Ending.returned (.int k a) = .returned (.int k b):=by rw [h]
def Y1(P:Program)(w:World)(fn:FuncId)(dV:Array Value)(val : α->Value)(p : α->Bool)(l:List α):Prop :=
 ∀ x∈l,∀ w',Below w.heap.size w w'->Calls P fn (#[val x]++dV) w' fun e w2=>e = .returned (.bool (p x))/\Below w'.heap.size w' w2
def idx(p : α->Bool)(l:List α):Int:=match l.findIdx? p with|some i=>i|none => -1
theorem Qi{p : α->Bool}{l:List α}{k:Nat}(hk:k<l.length)(hj:∀ j,(h:j<k)->p l[j]=false)(hx:p l[k]=true):idx p l=k:=by
 have:l.findIdx? p=some k:=by
  rw [aDU];exact⟨hk,hx,fun j mq=>by simp [hj j mq]⟩
 unfold idx;rw [this]
theorem Qj{p : α->Bool}{l:List α}(hj:∀ j,(h:j<l.length)->p l[j]=false):idx p l = -1:=by
 have:l.findIdx? p=none:=by
  rw [List.findIdx?_eq_none_iff];intro x hx;obtain⟨j,gE,rfl⟩:=FT.1 hx;exact hj j gE
 unfold idx;rw [this]
theorem Gd(p : α->Bool)(l:List α):(idx p l = -1/\∀ x∈l,p x=false)\/∃ k,∃ h:k<l.length,idx p l=k/\p l[k]=true/\l.find? p=some l[k]:=by
 unfold idx
 cases hf:l.findIdx? p with
 | none=>exact .inl ⟨rfl,by simpa using hf⟩
 | some k =>
  rw [aDU] at hf;obtain⟨h,h1,h2⟩:=hf;refine .inr ⟨k,h,rfl,h1,?_⟩;rw [List.find?_eq_some_iff_getElem];exact⟨h1,k,h,rfl,fun j hj=>by have:=h2 j hj; simpa using this⟩
def aZ(B:Nat):List Nat->Nat
 | []=>0
 | d::l=>d+B*aZ B l
def AR(B:Nat):Nat->Nat->List Nat
 | 0,_ => []
 | f+1,n=>if n=0 then [] else (n % B)::AR B f (n / B)
def aq(B n:Nat):List Nat:=AR B n n
theorem Y2(B:Nat):aZ B []=0:=rfl
theorem uv(B d:Nat)(l:List Nat):aZ B (d::l)=d+B*aZ B l:=rfl
theorem KC(B:Nat):∀ (l m:List Nat),aZ B (l++m)=aZ B l+B^l.length*aZ B m
 | [],m=>by simp [aZ]
 | d::l,m=>by
  simp only [qL,uv,KC B l m,dE,iE,ow];rw [j8 (B^l.length) B,Ga];omega
theorem KD(B:Nat)(l:List Nat)(d:Nat):aZ B (l ++ [d])=aZ B l+B^l.length*d:=by
 rw [KC]; simp [aZ]
theorem Qk{l:List Nat}{k:Nat}(h:k<l.length):aZ B (l.take (k+1))=aZ B (l.take k)+B^k*l[k]:=by
 rw [Dc h,KD,FQ (AO h)]
theorem sj{B:Nat}:∀ (l:List Nat),(∀ d∈l,d<B)->aZ B l<B^l.length
 | [],_=>by simp [aZ]
 | d::l,h=>by
  have h1:=h d (by simp);have ih:=sj l (fun x hx=>h x (by simp [hx]));simp only [uv,dE,iE];have h2:B*(aZ B l+1)<=B*B^l.length:=j7 B ih;rw [j8 (B^l.length) B];rw [ow] at h2;omega
theorem anx(B k:Nat):aZ B (List.replicate k 0)=0:=by
 induction k with
 | zero=>rfl
 | succ k ih=>simp [List.replicate_succ,aZ,ih]
section
variable{B:Nat}(hB:2<=B)
include hB
theorem Ge(h:n≠0):n / B<n:=Nat.div_lt_self oo oo
theorem Ql:∀ (f n:Nat),n<=f->AR B f n=AR B n n
 | 0,n,h=>by
  have:n=0:=oo
  subst this;rfl
 | f+1,n,h=>by
  by_cases h0:n=0
  . subst h0; simp [AR]
  . obtain⟨m,rfl⟩:∃ m,n=m+1:=⟨n - 1,oo⟩
    have af:=Ge hB h0;simp only [AR,ax h0];rw [Ql f ((m+1) / B) oo,Ql m ((m+1) / B) oo]
theorem vV:aq B 0 = []:=by
 have _h:=hB;rfl
theorem sk(h:n≠0):aq B n=(n % B)::aq B (n / B):=by
 obtain⟨m,rfl⟩:∃ m,n=m+1:=⟨n - 1,oo⟩
 have af:=Ge hB h;unfold aq;simp only [AR,ax h];rw [Ql hB m ((m+1) / B) oo]
theorem kH(n:Nat):aZ B (aq B n)=n:=by
 induction n using Nat.strongRecOn with
 | ind n ih =>
  by_cases h:n=0
  . subst h; rfl
  . rw [sk hB h,uv,ih _ (Ge hB h)];exact F6 n B
theorem Y3(h:aq B m=aq B n):m=n:=by rw [<- kH hB m,<- kH hB n,h]
theorem Y4(n:Nat):∀ d∈aq B n,d<B:=by
 induction n using Nat.strongRecOn with
 | ind n ih =>
  by_cases h:n=0
  . subst h; simp [vV hB]
  . rw [sk hB h];intro d hd;rcases gD.1 hd with h1|h1
    . subst h1; exact jk _ oo
    . exact ih _ (Ge hB h) d h1
theorem anz{d:Nat}(hd:d<B)(h:n≠0\/d≠0):aq B (d+B*n)=d::aq B n:=by
 have bg:d+B*n≠0:=by
  rcases h with h|h
  . have:0<B*n:=uu oo oo;omega
  . omega
 rw [sk hB bg,xq,er hd,xr _ _ oo,jA hd,ia]
theorem Y5:∀ (l:List Nat),(∀ d∈l,d<B)->(∀ d,l.getLast? = some d->d≠0)->aq B (aZ B l)=l
 | [],_,_=>rfl
 | d::l,h,hl=>by
  have h1:=h d (by simp);have cQ:∀ e,l.getLast? = some e->e≠0:=fun e he=>hl e (by rw [List.getLast?_cons,he]; rfl);have ih:=Y5 l (fun x hx=>h x (by simp [hx])) cQ;rw [uv,anz hB h1,ih]
  cases l with
  | nil=>exact .inr (hl d rfl)
  | cons e l =>
   left;intro h0;rw [h0] at ih;cases ih
theorem Y6{d:Nat}(h:(aq B n).getLast? = some d):d≠0:=by
 induction n using Nat.strongRecOn generalizing d with
 | ind n ih =>
  by_cases h0:n=0
  . subst h0; simp [vV hB] at h
  . rw [sk hB h0,List.getLast?_cons] at h;by_cases h1:n / B=0
    . rw [h1,vV hB] at h;simp at h;subst h;have:=F6 n B;rw [h1] at this;intro h2;rw [h2] at this;simp at this;omega
    . cases hq:(aq B (n / B)).getLast? with
      | none =>
       rw [List.getLast?_eq_none_iff] at hq;rw [sk hB h1] at hq;cases hq
      | some e =>
       rw [hq] at h;simp at h;subst h;exact ih _ (Ge hB h0) hq
theorem gr{k:Nat}(h:n<B^k):(aq B n).length<=k:=by
 induction k generalizing n with
 | zero =>
  have:n=0:=by simpa using h
  subst this;simp [vV hB]
 | succ k ih =>
  by_cases h0:n=0
  . subst h0; simp [vV hB]
  . rw [sk hB h0];have:n / B<B^k:=by
     rw [AH oo];rwa [iE] at h
    have:=ih this;simp only [dE];omega
theorem eC{k:Nat}(h:(aq B n).length<=k):n<B^k:=by
 have h1:=sj (aq B n) (Y4 hB n);rw [kH hB] at h1;exact iT h1 (ui oo h)
theorem uw{k:Nat}:k<(aq B n).length↔B^k<=n:=by
 constructor
 . intro h;rcases cv n (B^k) with h1|h1
   . have:=gr hB h1; omega
   . exact h1
 . intro h;rcases cv k (aq B n).length with h1|h1
   . exact h1
   . have:=eC hB h1; omega
theorem Gf(h:n≠0):0<(aq B n).length:=by rw [sk hB h]; simp
theorem Du(h:(aq B m).length<(aq B n).length):m<n :=
 iT (eC hB (aN _)) ((uw hB).1 h)
theorem Y7:aq B 1 = [1]:=by
 rw [sk hB oo,er oo,jA oo,vV hB]
end
theorem Gg(B:Nat)(l:List Nat)(k:Nat):aZ B l=aZ B (l.take k)+B^(l.take k).length*aZ B (l.drop k):=by
 rw [<- KC,lT]
theorem Y8{a b:List Nat}(ha:∀ d∈a,d<B)(hl:a.length=b.length){k:Nat}(hk:k<a.length)(af:a[k]<b[k]'oo)(hd:a.drop (k+1)=b.drop (k+1)):aZ B a<aZ B b:=by
 rw [Gg B a (k+1),Gg B b (k+1),hd,Qk hk,Qk oo];have e1:(a.take (k+1)).length=k+1:=by simp; omega
 have e2:(b.take (k+1)).length=k+1:=by simp; omega
 rw [e1,e2];have h1:=sj (B:=B) (a.take k) (fun d hd=>ha d (xt hd));rw [FQ oo] at h1;have h2:B^k*(a[k]+1)<=B^k*b[k]'oo:=j7 _ af;rw [ow] at h2;omega
def cz(B:Nat)(l:List Nat):Prop:=∀ d∈l,d<B
theorem cz.take{l:List Nat}(h:cz B l)(k:Nat):cz B (l.take k):=fun d hd=>h d (xt hd)
theorem cz.drop{l:List Nat}(h:cz B l)(k:Nat):cz B (l.drop k):=fun d hd=>h d (PZ hd)
theorem cz.get{l:List Nat}(h:cz B l){k:Nat}(hk:k<l.length):l[k]<B:=h _ (lV hk)
theorem cz.set{l:List Nat}(h:cz B l)(k x:Nat)(hx:x<B):cz B (l.set k x):=fun d hd=>by
 rcases Ki hd with h1|h1
 . exact h d h1
 . rw [h1]; exact hx
theorem cz.append{l m:List Nat}(h:cz B l)(h':cz B m):cz B (l++m):=fun d hd=>by
 rcases nJ.1 hd with h1|h1
 . exact h d h1
 . exact h' d h1
theorem cz.anA(hB:0<B)(n:Nat):cz B (List.replicate n 0):=fun d hd=>by
 rw [(am5.1 hd).2]; exact hB
theorem cz.getD{l:List Nat}(h:cz B l)(hB:0<B)(k:Nat):l.getD k 0<B:=by
 rcases cv k l.length with hk|hk
 . have e:l.getD k 0=l[k]:=by simp [hk]
   rw [e]; exact h.get hk
 . have e:l.getD k 0=0:=by simp [hk]
   rw [e]; exact hB
theorem cz.aq(hB:2<=B)(n:Nat):cz B (aq B n):=Y4 hB n
theorem yS(B:Nat)(l:List Nat)(i:Nat):aZ B (l.take (i+1))=aZ B (l.take i)+B^i*l.getD i 0:=by
 rcases cv i l.length with h|h
 . have e:l.getD i 0=l[i]:=by simp [h]
   rw [e,Qk h]
 . have e:l.getD i 0=0:=by simp [h]
   rw [e,ez oo,ez h,uq,jD]
theorem take_set(l:List Nat)(i x:Nat):(l.set i x).take i=l.take i:=by
 rw [List.take_set];exact List.set_eq_of_length_le (by simp; omega)
theorem drop_set(l:List Nat)(i x:Nat):(l.set i x).drop (i+1)=l.drop (i+1):=by
 rw [List.drop_set];simp
theorem anB{l:List Nat}(h:∀ d∈l,d=0):aZ B l=0:=by
 induction l with
 | nil=>rfl
 | cons d l ih =>
  rw [uv,h d (by simp),ih (fun e he=>h e (by simp [he]))];simp
theorem anC{l:List Nat}{k:Nat}(h:∀ d∈l.drop k,d=0):aZ B (l.take k)=aZ B l:=by
 rw [Gg B l k,anB h];simp
theorem Dv(hB:2<=B){l:List Nat}(hl:cz B l){k:Nat}(hk:k<=l.length)(hz:∀ d∈l.drop k,d=0)(he:k=0\/∃ j,k=j+1/\l.getD j 0≠0):aq B (aZ B l)=l.take k:=by
 rw [<- anC hz];refine Y5 hB _ (hl.take k) fun d hd => ?_;rcases he with rfl|⟨j,rfl,hj⟩
 . simp at hd
 . rw [YA] at hd;have e:(l.take (j+1)).length - 1=j:=by simp; omega
   rw [e,e9,aG oo] at hd;have gL:j<l.length:=oo
   rw [bq gL] at hd;injection hd with hd;simp [gL] at hj;omega
theorem Y9(B:Nat){l:List Nat}{i:Nat}(h:i<l.length):aZ B (l.drop i)=l[i]+B*aZ B (l.drop (i+1)):=by
 rw [rZ h,uv]
theorem anD(B:Nat){l:List Nat}{i x:Nat}(h:i<l.length):aZ B ((l.set i x).drop i)=x+B*aZ B (l.drop (i+1)):=by
 rw [Y9 B (by simpa using h),drop_set];simp
theorem anE{a o:List Nat}{i:Nat}(hi:i<a.length)(ho:o.length=a.length)(h:aZ B (a.drop (i+1))=aZ B (o.drop (i+1))*by_+r) :
 aZ B (a.drop i)=aZ B ((o.set i ((r*B+a[i]) / by_)).drop i)*by_+(r*B+a[i]) % by_:=by
 rw [Y9 B hi,anD B oo,h];have h1:=F6 (r*B+a[i]) by_;generalize (r*B+a[i]) % by_=m at *
 generalize (r*B+a[i]) / by_=q at *
 grind
theorem Za{W lo lov:Nat}(hB:0<B)(hv:V=lov+B^n*vt)(hw:W=lo+B^n*top)(qS:lo<B^n)(AS:0<vt):W / V<=top / vt:=by
 have hP:0<B^n:=yN hB;have hV:0<V:=by
  have:0<B^n*vt:=uu hP AS;omega
 rw [PY AS];have h1:W / V*V<=W:=amZ W V;have h2:W / V*(B^n*vt)<=W / V*V:=j7 _ oo;have h3:W / V*(B^n*vt)=B^n*(W / V*vt):=by grind
 rw [h3] at h2;have h4:B^n*(W / V*vt)<B^n*(top+1):=by
  rw [ow];omega
 have:=aD2 h4;omega
theorem anG{W lo:Nat}(hv:V<B^n*(vt+1))(hw:W=lo+B^n*top)(hV:0<V):top / (vt+1)<=W / V:=by
 rw [PY hV];have h1:top / (vt+1)*(vt+1)<=top:=amZ _ _;have h2:top / (vt+1)*V<=top / (vt+1)*(B^n*(vt+1)):=j7 _ oo;have h3:top / (vt+1)*(B^n*(vt+1))=B^n*(top / (vt+1)*(vt+1)):=by grind
 rw [h3] at h2;have h4:B^n*(top / (vt+1)*(vt+1))<=B^n*top:=j7 _ h1;omega
def pad(B:Nat):Nat->Nat->List Nat
 | 0,_ => []
 | k+1,x=>(x % B)::pad B k (x / B)
theorem fg(B:Nat):∀ k x,(pad B k x).length=k
 | 0,_=>rfl
 | k+1,x=>by simp [pad,fg B k]
theorem sm{B:Nat}(hB:0<B):∀ k x,cz B (pad B k x)
 | 0,_=>by intro d hd; simp [pad] at hd
 | k+1,x=>by
  intro d hd;rcases gD.1 hd with h|h
  . rw [h]; exact jk _ hB
  . exact sm hB k _ d h
theorem ox{B:Nat}(hB:0<B):∀ k x,x<B^k->aZ B (pad B k x)=x
 | 0,x,h=>by simp at h; subst h; rfl
 | k+1,x,h=>by
  have h1:x / B<B^k:=by
   rw [AH hB];rwa [iE] at h
  simp only [pad,uv,ox hB k _ h1];exact F6 x B
theorem Dw{B:Nat}(hB:0<B):∀ (l:List Nat),cz B l->pad B l.length (aZ B l)=l
 | [],_=>rfl
 | d::l,h=>by
  have h1:=h d (by simp);have ih:=Dw hB l (fun x hx=>h x (by simp [hx]));simp only [dE,pad,uv];rw [xq,er h1,xr _ _ hB,jA h1,ia,ih]
theorem Zb(B:Nat):∀ k,pad B k 0=List.replicate k 0
 | 0=>rfl
 | k+1=>by simp [pad,Zb B k,List.replicate_succ]
theorem KE(hB:2<=B){k x:Nat}(h:x<B^k):pad B k x=aq B x++List.replicate (k - (aq B x).length) 0:=by
 have h1:cz B (aq B x++List.replicate (k - (aq B x).length) 0):=(cz.aq hB x).append (cz.anA oo _);have h2:aZ B (aq B x++List.replicate (k - (aq B x).length) 0)=x:=by
  rw [KC,anx,kH hB];simp
 have h3:(aq B x++List.replicate (k - (aq B x).length) 0).length=k:=by
  have:=gr hB h;simp;omega
 have h4:=Dw oo _ h1;rw [h2,h3] at h4;exact h4
theorem anH(hB:2<=B){k x:Nat}(h:x<B^k):aq B x=(pad B k x).take (aq B x).length:=by
 rw [KE hB h];simp
open Go.RowKit
section
variable{P:Program}{ops:Array Oper}{md:Region.Mode}{C:World->Prop}{io:Nat}{oo:Oper}{R:Value->World->Prop}{D:World->World->Prop}{Q:Value->World->Act->Prop}
def waits(md:Region.Mode)(ops:Array Oper):Nat->Nat->Nat->Bool
 | 0,_,_=>false
 | fuel+1,j,i=>match ops[j]? with
  | some o=>o.after.any fun e=>Region.binds md e&&(e.on==i||waits md ops fuel e.on i)
  | none=>false
def so(md:Region.Mode)(ops:Array Oper)(listed:Array Bool):Prop :=
 ∀ j oj,ops[j]? = some oj->listed.getD j false=true->∀ e∈oj.after,Region.binds md e=true->listed.getD e.on false=true
theorem Qm{listed:Array Bool}(hc:so md ops listed):∀ (fuel j i:Nat) (oj:Oper),ops[j]? = some oj->(∀ e∈oj.after,Region.binds md e=true->listed.getD e.on false=true)->waits md ops fuel j i=true->listed.getD i false=true
 | 0,_,_,_,_,_,h=>by simp [waits] at h
 | fuel+1,j,i,oj,hj,ch,h=>by
  simp only [waits,hj] at h;obtain⟨e,he,hb⟩:=Km.1 h;simp only [aD,fM,cC] at hb;have h1:=ch e he hb.1;rcases hb.2 with h2|h2
  . rw [<- h2]; exact h1
  . cases ho:ops[e.on]? with
    | none=>cases fuel<;>simp [waits,ho] at h2
    | some oe=>exact Qm hc fuel e.on i oe ho (hc e.on oe ho h1) h2
theorem so.Dx(hc:so md ops listed)(hj:j∈Region.ready md ops listed):so md ops (listed.setIfInBounds j true):=by
 intro k ok hk hl e he hb;by_cases mq:j=k
 . subst mq;obtain⟨_,oj,eQ,ch⟩:=mem_ready.1 hj;rw [hk] at eQ;injection eQ with eQ;subst eQ;exact getD_set_true (ch e he hb)
 . rw [getD_set_ne false mq] at hl;exact getD_set_true (hc k ok hk hl e he hb)
end
abbrev dL(w:World)(w':World):Prop:=Below w.heap.size w w'
section
variable{P:Program}{ops:Array Oper}{md:Region.Mode}{C0 C:World->Prop}
end
theorem ux{P:Program}(T:Nat)(h:wpList P ops Q (⟨d,.load T x,ty,pos,aft,gd⟩::rest) a w):wpList P ops Q (⟨d,.load T x,ty,pos,aft,gd⟩::rest) a w:=h
theorem AT{P:Program}(T:Nat){y:Operand}(h:wpList P ops Q (⟨d,.store T x y,ty,pos,aft,gd⟩::rest) a w):wpList P ops Q (⟨d,.store T x y,ty,pos,aft,gd⟩::rest) a w:=h
theorem Zc{P:Program}{size:Nat}(lv:o.guard=none)(s x:Operand)(ho:o.op = .call { callee := .builtin .append,args := #[s,x],argTypes := #[t,t] })(hE:EI P t e size bytes)(n:Nat)(hn:n=css.length)(hs:a.eval s = .slice A n c)(bS:dc w base e size A c css)(hx:a.eval x = .slice X m cn)(B:Nat)(hr:Rd w B size X news)(hm:m=news.length)(h1:∀ cs∈news,∀ u∈cs,u.oneCell'=true)(qR:css.length+m<=maxLen)(AP:(css.length+m)*bytes<=140737488355328)(iF:base<=w.heap.size)(h:∀ A' c' w',dc w' base e size A' c' (css++news)->w.grownBy w' (Value.ownBlock (.slice A css.length c))->Below base w w'->wpList P ops Q rest (a.put o.dst (.slice A' (n+m) c')) w'):wpList P ops Q (o::rest) a w:=by
 subst hn;refine anu lv s x ho hE hs bS hx B hr hm h1 qR AP iF fun A' c' w' h2 h3 h4 => ?_;have:=h A' c' w' h2 h3 h4;rwa [c9,<- hm]
section
variable{P:Program}{md:Region.Mode}{ops:Array Oper}{Q:Exit->Act->World->Prop}
end
def preB(ops:Array Oper)(pre:List (Nat×List Nat)):Bool:=pre.all fun p=>p.2.all fun j=>((ops[p.1]?).map fun o=>o.after.any fun e=>Region.binds .any e&&e.on==j).getD false
theorem aD8{pre:List (Nat×List Nat)}{i:Nat}(hp:preB ops pre=true)(hi:i∈Region.ready .any ops listed)(hm:(i,js)∈pre):∀ j∈js,listed.getD j false=true:=by
 intro j hj;unfold preB at hp;rw [fc] at hp;have h1:=hp _ hm;rw [fc] at h1;have h2:=h1 j hj;obtain⟨_,o,ho,ch⟩:=mem_ready.1 hi;rw [ho] at h2;simp only [dG,iD] at h2;rw [Km] at h2;obtain⟨e,he,hb⟩:=h2;simp only [aD,cC] at hb;have:=ch e he hb.1;rw [hb.2] at this;exact this
def LL(listed:Array Bool)(j:Nat):Bool:=listed.getD j false
theorem Dy{i:Nat}(h:i<listed.size)(j:Nat):LL (listed.setIfInBounds i true) j=if j=i then true else LL listed j:=by
 unfold LL;rw [qI,qI,Kh];by_cases e:j=i
 . subst e;simp [h]
 . rw [ax (fun h=>e h.symm),ax e]
theorem Gh{d:Nat}(hd:d<a.tmps.size)(s:Nat):(a.put (some d) v).tmps[s]? = if s=d then some v else a.tmps[s]? := by
 unfold Act.put;simp only;rw [Kh];by_cases e:s=d
 . subst e;simp [hd]
 . rw [ax (fun h=>e h.symm),ax e]
theorem Zd(h:a.tmps[s]? = some v):a.eval (.tmp s)=v:=by
 unfold Act.eval;simp only;rw [qI,h];rfl
section
variable{P:Program}{ops:Array Oper}{Q:Exit->Act->World->Prop}{a:Act}{w:World}{K:Act->World->Prop}{i:Nat}{o:Oper}
end
theorem anI(a:Act)(d:Nat)(v:Value):(a.put (some d) v).tmps.size=a.tmps.size:=by simp [Act.put]
structure Made (w0:World) (a0:Act) (l:List Oper) (np:Nat) (R:Nat->Value->Nat->Nat->World->Prop) (L:Nat->Bool) (a:Act) (w:World) (val:Nat->Value) (lo hi:Nat->Nat):Prop where
 defers:a.defers=a0.defers
 Qn:a.tmps.size=a0.tmps.size
 AU:dL w0 w
 rows:∀ i,i<np->L i=true->w0.heap.size<=lo i/\lo i<=hi i/\hi i<=w.heap.size/\R i (val i) (lo i) (hi i) w
 apart:∀ i j,i<np->j<np->L i=true->L j=true->i≠j->hi i<=lo j\/hi j<=lo i
 Gi:∀ i o d,i<np->l[i]? = some o->o.dst=some d->L i=true->a.tmps[d]? = some (val i)
 Dz:∀ s,(∀ i o,i<np->l[i]? = some o->o.dst=some s->L i=false)->a.tmps[s]? = a0.tmps[s]?
def AW(l:List Oper)(np n:Nat):Bool :=
 (List.range np).all fun i=>match l[i]? with
  | some o=>match o.dst with
   | some d=>decide (d<n)&&(List.range np).all fun j=>i==j||(match l[j]? with|some o'=>o'.dst != some d|none=>true)
   | none=>false
  | none=>false
theorem Gj{l:List Oper}{i:Nat}(h:AW l np n=true)(hi:i<np)(ho:l[i]? = some o):∃ d,o.dst=some d/\d<n/\∀ j o',j<np->l[j]? = some o'->o'.dst=some d->j=i:=by
 unfold AW at h;have h1:=fc.1 h i (iV.2 hi);rw [ho] at h1;simp only at h1
 cases hd:o.dst with
 | none=>rw [hd] at h1; cases h1
 | some d =>
  rw [hd] at h1;simp only [aD,aU] at h1;refine⟨d,rfl,h1.1,fun j o' hj ho' qT => ?_⟩;have h2:=fc.1 h1.2 j (iV.2 hj);rw [ho'] at h2;simp only [qT,YP,iY,cC] at h2;exact h2.symm
def p5(val:Nat->Value):Nat->List Oper->Act->Act
 | _,[],a=>a
 | k,o::l,a=>p5 val (k+1) l (a.put o.dst (val k))
theorem Qo(a:Act)(d:Option Nat)(v:Value):(a.put d v).tmps.size=a.tmps.size:=by cases d<;>simp [Act.put]
theorem Ze(a:Act)(d:Option Nat)(v:Value):(a.put d v).defers=a.defers:=by cases d<;>rfl
theorem Zf(val:Nat->Value):∀ (l:List Oper) (k:Nat) (a:Act),(p5 val k l a).tmps.size=a.tmps.size
 | [],_,_=>rfl
 | o::l,k,a=>by unfold p5; rw [Zf val l,Qo]
theorem Qp(val:Nat->Value):∀ (l:List Oper) (k:Nat) (a:Act),(p5 val k l a).defers=a.defers
 | [],_,_=>rfl
 | o::l,k,a=>by unfold p5; rw [Qp val l,Ze]
theorem Gk(val:Nat->Value)(s:Nat):∀ (l:List Oper) (k:Nat) (a:Act),(∀ o∈l,o.dst≠some s)->(p5 val k l a).tmps[s]? = a.tmps[s]?
 | [],_,_,_=>rfl
 | o::l,k,a,h=>by
  unfold p5;rw [Gk val s l _ _ (fun o' ho'=>h o' (P0 _ ho'))];have h1:=h o (by simp)
  cases hd:o.dst with
  | none=>rfl
  | some d =>
   rw [hd] at h1;unfold Act.put;simp only [Kh];rw [ax (fun e=>h1 (by rw [e]))]
theorem Qq(val:Nat->Value)(s:Nat):∀ (l:List Oper) (k:Nat) (a:Act) (i:Nat) (o:Oper),l[i]? = some o->o.dst=some s->(∀ j o',l[j]? = some o'->o'.dst=some s->j=i)->s<a.tmps.size->(p5 val k l a).tmps[s]? = some (val (k+i))
 | [],_,_,i,o,h,_,_,_=>by simp at h
 | o::l,k,a,0,o1,h,hd,hu,hs=>by
  simp at h;subst h;unfold p5;rw [Gk val s l _ _ (fun o' ho' qT=>by
   obtain⟨j,hj⟩:=mn.1 ho';have:=hu (j+1) o' (by simpa using hj) qT
   omega),hd,Gh hs]
  simp
 | o::l,k,a,i+1,o1,h,hd,hu,hs=>by
  unfold p5;rw [Qq val s l (k+1) _ i o1 (by simpa using h) hd (fun j o' ho' qT=>by have:=hu (j+1) o' (by simpa using ho') qT; omega) (by rw [Qo]; exact hs)];congr 2;omega
section
variable{w0 w:World}{a0 a:Act}{l:List Oper}{np:Nat}{R:Nat->Value->Nat->Nat->World->Prop}{L:Nat->Bool}{val:Nat->Value}{lo hi:Nat->Nat}
theorem Made.act(M:Made w0 a0 l np R L a w val lo hi)(ch:∀ i,i<np->L i=true)(hd:AW l np a0.tmps.size=true):a=p5 val 0 (l.take np) a0:=by
 have e:a.tmps=(p5 val 0 (l.take np) a0).tmps:=by
  apply Array.ext_getElem?;intro s;by_cases h:∃ i o,i<np/\l[i]? = some o/\o.dst=some s
  . obtain⟨i,o,hi,ho,hs⟩:=h;obtain⟨d,gF,AX,Gl⟩:=Gj hd hi ho;rw [hs] at gF;injection gF with gF;subst gF;rw [M.Gi i o s hi ho hs (ch i hi)];have:=Qq val s (l.take np) 0 a0 i o (by rw [e9,aG hi]; exact ho) hs (fun j o' ho' qT=>by
     rw [e9] at ho';split at ho'
     . exact Gl j o' (by assumption) ho' qT
     . cases ho') AX
    rw [this,ia]
  . rw [M.Dz s (fun i o hi ho hs=>(h ⟨i,o,hi,ho,hs⟩).elim),Gk val s _ _ _ (fun o ho hs=>by
     obtain⟨i,hi⟩:=mn.1 ho;rw [e9] at hi;split at hi
     . exact h ⟨i,o,by assumption,hi,hs⟩
     . cases hi)]
 have e2:a.defers=(p5 val 0 (l.take np) a0).defers:=by rw [Qp]; exact M.defers
 obtain⟨t,d⟩:=a;simp only at e e2;rw [e,e2]
theorem Made.next(M:Made w0 a0 l np R L a w val lo hi){i:Nat}(mr:i<np)(ho:l[i]? = some o)(hd:AW l np a0.tmps.size=true)(hR:∀ i v lo hi w w',R i v lo hi w->hi<=w.heap.size->dL w w'->R i v lo hi w')(hw:dL w w')(hv:R i v w.heap.size w'.heap.size w'){L':Nat->Bool}(hL:∀ j,L' j=if j=i then true else L j)(hn:L i=false) :
 Made w0 a0 l np R L' (a.put o.dst v) w' (fun j=>if j=i then v else val j) (fun j=>if j=i then w.heap.size else lo j) (fun j=>if j=i then w'.heap.size else hi j):=by
 obtain⟨d,gF,AX,Gl⟩:=Gj hd mr ho;refine⟨by rw [Ze]; exact M.defers,by rw [Qo]; exact M.Qn,M.AU.trans (hw.mono M.AU.size),fun j hj hl => ?_,fun j k hj hk vW tl mq => ?_,fun j oj dj hj eQ ib vW => ?_,fun s hs => ?_⟩
 . by_cases e:j=i
   . subst e;simp only [fH];exact⟨M.AU.size,hw.size,aN _,hv⟩
   . simp only [e,dK];rw [hL,ax e] at hl;obtain⟨h1,h2,h3,h4⟩:=M.rows j hj hl;have Zg:=hw.size;have h0:=M.AU.size;exact⟨h1,h2,oo,hR j _ _ _ w w' h4 h3 hw⟩
 . rw [hL] at vW tl;by_cases e1:j=i
   . by_cases e2:k=i
     . omega
     . simp only [e1,e2,fH,dK];rw [ax e2] at tl;exact .inr (M.rows k hk tl).2.2.1
   . rw [ax e1] at vW;by_cases e2:k=i
     . simp only [e1,e2,fH,dK];exact .inl (M.rows j hj vW).2.2.1
     . simp only [e1,e2,dK];rw [ax e2] at tl;exact M.apart j k hj hk vW tl mq
 . rw [gF];rw [Gh (by rw [M.Qn]; exact AX)];by_cases e:j=i
   . subst e;rw [ho] at eQ;injection eQ with eQ;subst eQ;rw [gF] at ib;injection ib with ib;subst ib;simp
   . have bg:dj≠d:=fun h=>e (Gl j oj hj eQ (by rw [ib,h]));rw [hL,ax e] at vW;simp only [bg,e,dK];exact M.Gi j oj dj hj eQ ib vW
 . rw [gF];rw [Gh (by rw [M.Qn]; exact AX)];have bg:s≠d:=fun h=>by
    have:=hs i o mr ho (by rw [gF,h]);rw [hL,aG rfl] at this;cases this
   rw [ax bg];refine M.Dz s (fun j oj hj eQ ib => ?_);have:=hs j oj hj eQ ib;rw [hL] at this;by_cases e:j=i
   . rw [aG e] at this;cases this
   . rw [ax e] at this;exact this
end
section
variable{P:Program}{ops:Array Oper}{Q:Exit->Act->World->Prop}{a:Act}{w:World}{K:Act->World->Prop}{i:Nat}{o:Oper}
end
theorem Qr{i:Nat}(h:listed.getD i true=false):LL listed i=false/\i<listed.size:=by
 have af:i<listed.size:=by
  rcases cv i listed.size with h'|h'
  . exact h'
  . simp [FR h'] at h
 refine⟨?_,af⟩;unfold LL;simp [af] at h ⊢;exact h
section
variable{P:Program}{ops:Array Oper}{Q:Exit->Act->World->Prop}{a:Act}{w:World}{K:Act->World->Prop}{i:Nat}{o:Oper}
theorem Zh(h:o.guard=none)(f:Nat->Option Bool):Region.wanted o f=true:=by unfold Region.wanted; rw [h]
theorem KF{b c r:Bool}{d:Nat}(h:o.guard=some (j,b))(hj:ops[j]? = some oj)(hd:oj.dst=some d)(hs:a.tmps[d]? = some (.bool c))(hr:(c==b)=r):Region.wanted o (yielded ops a.tmps)=r:=by
 subst hr;unfold Region.wanted yielded;rw [h];simp only [hj,FY,hd,hs];cases b<;>cases c<;>rfl
end
def mu(k:IntKind)(l:List Nat):List (List Value):=l.map fun (n:Nat) => [Value.int k (n:Int)]
theorem Qs(k:IntKind)(l:List Nat):(mu k l).length=l.length:=by simp [mu]
theorem Zi{k:IntKind}{l:List Nat}{i:Nat}(h:i<l.length):(mu k l)[i]? = some [Value.int k (l[i]:Int)]:=by
 unfold mu;rw [gC,bq h];rfl
theorem anJ(k:IntKind)(l:List Nat)(n:Nat):mu k (l.take n)=(mu k l).take n:=by simp [mu,Ku]
section
variable{P:Program}{w:World}{ops:Array Oper}{rest:List Oper}{o:Oper}{a:Act}{Q:Exit->Act->World->Prop}
theorem anK{d:TypeDesc}(hT:P.underlying T=some d)(hd:(match d with | .struct _ | .array _ _=>false|_=>true)=true){k:IntKind}{l:List Nat}(h:Rd w B 1 A (mu k l)){i:Nat}(hi:i<l.length) :
 ∃ b off,A=some ⟨b,off,none⟩/\b<B/\∀ w',Below B w w'->(loadVar T ⟨b,off+i,none⟩).run P w' = .ok (.int k (l[i]:Int)) w':=by
 obtain⟨b,off,e,af,hl,hc⟩:=h i _ (Zi hi);refine⟨b,off,e,af,fun w' hb=>Ds hT hd ?_⟩;have h1:=hc 0 _ rfl;simp only [lX,jD] at h1;exact (hb.cell (p:=⟨b,_,none⟩) Dt).trans h1
end
structure ba where
 neg:Bool
 num:Nat
 den:Nat
deriving DecidableEq
abbrev cA:Nat:=115792089237316195423570985008687907853269984665640564039457584007913129639936
def ba.fits(f:ba):Prop:=f.num<cA/\f.den<cA
def ba.right(f:ba):Bool:=decide (f.den≠0)&&decide (Nat.gcd f.num f.den=1) && !(f.neg&&decide (f.num=0))
def qU:ba:=⟨false,0,0⟩
def jl(neg:Bool)(n d:Nat):ba×Int :=
 if n / Nat.gcd n d<cA/\d / Nat.gcd n d<cA then (⟨neg&&decide (n / Nat.gcd n d≠0),n / Nat.gcd n d,d / Nat.gcd n d⟩,0) else (qU,3)
def j9(f:ba):ba:=⟨!f.neg&&decide (f.num≠0),f.num,f.den⟩
def oy(f g:ba):ba×Int :=
 if f.neg=g.neg then jl f.neg (f.num*g.den+g.num*f.den) (f.den*g.den)
 else if f.num*g.den<g.num*f.den then jl g.neg (g.num*f.den - f.num*g.den) (f.den*g.den)
 else jl f.neg (f.num*g.den - g.num*f.den) (f.den*g.den)
def fW(f g:ba):ba×Int:=if f.right&&g.right then oy f g else (qU,2)
def gG(f g:ba):ba×Int:=if f.right&&g.right then oy f (j9 g) else (qU,2)
def mulL(f g:ba):ba×Int:=if f.right&&g.right then jl (f.neg != g.neg) (f.num*g.num) (f.den*g.den) else (qU,2)
def gM(f g:ba):ba×Int:=if f.right&&g.right&&decide (g.num≠0) then jl (f.neg != g.neg) (f.num*g.den) (f.den*g.num) else (qU,2)
def kJ(a b:Int):ba×Int:=if b=0 then (qU,2) else jl (decide (a<0) != decide (b<0)) a.natAbs b.natAbs
def cr(n:Int):ba:=⟨decide (n<0),n.natAbs,1⟩
def oz(x y:Nat):Int:=if x<y then -1 else if y<x then 1 else 0
def KG(f g:ba):Int×Int :=
 if f.right&&g.right then
  (if f.neg && !g.neg then -1 else if g.neg && !f.neg then 1 else if f.neg then oz (g.num*f.den) (f.num*g.den) else oz (f.num*g.den) (g.num*f.den),0)
 else (0,2)
theorem anL(neg:Bool)(n d k:Nat)(hk:0<k):jl neg (n*k) (d*k)=jl neg n d:=by
 unfold jl;rw [Nat.gcd_mul_right,amV _ _ hk,amV _ _ hk]
theorem Gm(neg:Bool)(n d:Nat):(jl neg n d).1.fits:=by
 unfold jl;split
 . rename_i h;exact h
 . unfold qU ba.fits;exact⟨by decide,by decide⟩
theorem Zj(neg:Bool)(n:Nat)(h:n<cA):jl neg n 1=(⟨neg&&decide (n≠0),n,1⟩,0):=by
 unfold jl;rw [Nat.gcd_one_right,sf,sf,aG ⟨h,by decide⟩]
theorem anM(n:Int)(h:n.natAbs<cA):kJ n 1=(cr n,0):=by
 unfold kJ cr;rw [ax oo];have e:(1:Int).natAbs=1:=rfl;rw [e,Zj _ _ h];by_cases hn:n<0
 . simp [hn]; omega
 . simp [hn]
theorem Gn:qU.fits:=⟨by decide,by decide⟩
theorem anN(a b:Int):(kJ a b).1.fits:=by
 unfold kJ;split
 . exact Gn
 . exact Gm _ _ _
theorem Zk(f g:ba):(oy f g).1.fits:=by
 unfold oy;split
 . exact Gm _ _ _
 . split<;>exact Gm _ _ _
theorem DA(f g:ba):(fW f g).1.fits:=by
 unfold fW;split
 . exact Zk _ _
 . exact Gn
theorem KH(f g:ba):(gG f g).1.fits:=by
 unfold gG;split
 . exact Zk _ _
 . exact Gn
theorem anO(f g:ba):(mulL f g).1.fits:=by
 unfold mulL;split
 . exact Gm _ _ _
 . exact Gn
theorem anP(f g:ba):(gM f g).1.fits:=by
 unfold gM;split
 . exact Gm _ _ _
 . exact Gn
def ofRat(q:Rat):ba:=⟨decide (q.num<0),q.num.natAbs,q.den⟩
def sq(q:Rat):Prop:=q.num.natAbs<cA/\q.den<cA
instance (q:Rat):Decidable (sq q):=by unfold sq; infer_instance
def yT(q:Rat):ba×Int:=if sq q then (ofRat q,0) else (qU,3)
theorem Gp{q:Rat}(h:sq q):yT q=(ofRat q,0):=by unfold yT; rw [aG h]
theorem Zl(q:Rat):q=(q.num:Rat) / (q.den:Rat):=by
 have h1:=Rat.num_divInt_den q;rw [Rat.divInt_eq_div,PV] at h1;exact h1.symm
theorem yU(q:Rat):(ofRat q).right=true:=by
 unfold ofRat ba.right;have h1:=q.den_nz;have h2:Nat.gcd q.num.natAbs q.den=1:=q.reduced;simp only [h1,h2,ne_eq,Ko,qN,fe,fG,YJ,ew];omega
theorem AY(neg:Bool)(n d:Nat)(hd:d≠0):jl neg n d=yT (Rat.normalize (if neg then -(n:Int) else n) d hd):=by
 have e:(if neg then -(n:Int) else (n:Int)).natAbs=n:=by cases neg<;>simp
 have hg:0<Nat.gcd n d:=amR _ (FW hd);have hdv:Nat.gcd n d ∣ n:=Nat.gcd_dvd_left n d;rw [Rat.normalize_eq hd];unfold yT sq ofRat jl;simp only [e];generalize Nat.gcd n d=g at *
 obtain⟨m,rfl⟩:=hdv;have h1:g*m / g=m:=Nat.mul_div_cancel_left m hg;have h2:(if neg then -((g*m:Nat):Int) else ((g*m:Nat):Int)) / (g:Int)=if neg then -(m:Int) else m:=by
  have AZ:(g:Int)≠0:=oo
  cases neg
  . simp only [fk,dK];rw [Kn,aD7 _ AZ]
  . simp only [fH];rw [Kn,<- Int.mul_neg,aD7 _ AZ]
 rw [h1,h2];have h3:(if neg then -(m:Int) else (m:Int)).natAbs=m:=by cases neg<;>simp
 rw [h3];split
 . congr 2;cases neg
   . simp
   . by_cases hm:m=0
     . simp [hm]
     . have h4 : -(m:Int)<0:=oo
       simp [hm];omega
 . rfl
theorem anR(q:Rat):j9 (ofRat q)=ofRat (-q):=by
 unfold j9 ofRat;simp only [Rat.neg_num,Rat.neg_den,Int.natAbs_neg,ba.mk.injEq,aH];by_cases h:q.num<0
 . have h2:¬ -q.num<0:=oo
   simp [h];omega
 . by_cases h0:q.num=0
   . simp [h0]
   . have h2 : -q.num<0:=oo
     have h3:q.num.natAbs≠0:=oo
     simp [h,h0];omega
theorem tn(n:Int):cr n=ofRat (n:Rat):=by
 unfold cr ofRat;simp only [Rat.num_intCast,Rat.den_intCast];congr 1
theorem Zm(p q:Rat):oy (ofRat p) (ofRat q)=yT (p+q):=by
 have hd:p.den*q.den≠0:=anl p.den_nz q.den_nz;rw [Rat.add_def];unfold oy ofRat;simp only;have ep:p.num=if p.num<0 then -(p.num.natAbs:Int) else (p.num.natAbs:Int):=by split<;>omega
 have eq:q.num=if q.num<0 then -(q.num.natAbs:Int) else (q.num.natAbs:Int):=by split<;>omega
 generalize p.num.natAbs=a at *
 generalize q.num.natAbs=b at *
 by_cases h1:p.num<0<;>by_cases h2:q.num<0
 . simp only [h1,h2,qN,fH] at *
   rw [AY _ _ _ hd];congr 2;rw [ep,eq];simp only [fH];push_cast;grind
 . simp only [h1,h2,qN,xy,fH,dK,Bool.true_eq_false] at *
   split
   . exact Zn
   . exact Zo
 . simp only [h1,h2,qN,xy,fH,dK,fk] at *
   split
   . exact Zo
   . exact Zn
 . simp only [h1,h2,xy,fH,dK] at *
   rw [AY _ _ _ hd];congr 2;rw [ep,eq];simp only [fk,dK];push_cast;grind
theorem anS(p q:Rat):mulL (ofRat p) (ofRat q)=yT (p*q):=by
 have hd:p.den*q.den≠0:=anl p.den_nz q.den_nz;rw [Rat.mul_def];unfold mulL;rw [yU,yU];simp only [P8,fH];unfold ofRat;simp only;rw [AY _ _ _ hd];have ep:p.num=if p.num<0 then -(p.num.natAbs:Int) else (p.num.natAbs:Int):=by split<;>omega
 have eq:q.num=if q.num<0 then -(q.num.natAbs:Int) else (q.num.natAbs:Int):=by split<;>omega
 generalize p.num.natAbs=a at *
 generalize q.num.natAbs=b at *
 congr 2;by_cases h1:p.num<0<;>by_cases h2:q.num<0<;>simp [h1,h2] at ep eq ⊢ <;> rw [ep,eq]<;>push_cast<;>grind
theorem Zp(s t:Bool)(a b c d:Nat)(hb:b≠0)(hc:c≠0)(hd:d≠0) :
 (((if (s != t)=true then -((a*d:Nat):Int) else ((a*d:Nat):Int):Int)):Rat) / ((c*b:Nat):Rat)=(((if s=true then -(a:Int) else (a:Int):Int)):Rat) / (c:Rat) / ((((if t=true then -(b:Int) else (b:Int):Int)):Rat) / (d:Rat)):=by
 have bo:(b:Rat)≠0:=by simpa using hb
 have Qt:(c:Rat)≠0:=by simpa using hc
 have qT:(d:Rat)≠0:=by simpa using hd
 cases s<;>cases t<;>simp only [YP,fk,dK,fH,Bool.true_bne,Bool.false_bne,P7,Rat.intCast_neg,PV,Rat.natCast_mul]<;>grind
theorem KI(n:Int):n=if (decide (n<0))=true then -(n.natAbs:Int) else (n.natAbs:Int):=by
 by_cases h:n<0
 . simp only [h,qN,fH]; omega
 . simp only [h,xy,fk,dK]; omega
theorem anT(p q:Rat)(hq:q≠0):gM (ofRat p) (ofRat q)=yT (p / q):=by
 have hq0:q.num≠0:=fun h=>hq (Rat.num_eq_zero.1 h);have hn:q.num.natAbs≠0:=oo
 have hd:p.den*q.num.natAbs≠0:=anl p.den_nz hn;unfold gM;rw [yU,yU];have h0:decide ((ofRat q).num≠0)=true:=by unfold ofRat; simpa using hq0
 rw [h0];simp only [P8,fH];unfold ofRat;simp only;rw [AY _ _ _ hd];congr 1;rw [amU,ang,Zp _ _ _ _ _ _ hn p.den_nz q.den_nz,<- KI,<- KI,<- Zl,<- Zl]
theorem anV(a b:Int)(hb:b≠0):kJ a b=yT ((a:Rat) / (b:Rat)):=by
 unfold kJ;rw [ax hb,AY _ _ _ oo];congr 1;have h:=Zp (decide (a<0)) (decide (b<0)) a.natAbs b.natAbs 1 1 oo oo oo;rw [<- KI,<- KI] at h;simp only [lX,Ky] at h;rw [amU,ang,h];have e1:((1:Nat):Rat)=1:=rfl;rw [e1];grind
open Go.RowKit
abbrev ae:Nat:=4294967296
abbrev ak:Nat:=65536
theorem cw:2<=ae:=by decide
theorem bT:2<=ak:=by decide
abbrev aX(x:Nat):Nat:=(aq ae x).length
abbrev cK(x:Nat):Nat:=(aq ak x).length
abbrev Qu(w:World)(A:Option Addr)(x:Nat):Prop:=Rd w w.heap.size 1 A (mu .u32 (aq ae x))
theorem Rd.from{size:Nat}(h:Rd w w.heap.size size A css)(hb:dL w w'):Rd w' w'.heap.size size A css:=(h.below hb (aN _)).more hb.size
theorem anW:(Tryz.prog.info? 49).map (fun i=>(i.zero,i.size,i.bytes))=some (some (.int .u32 0),1,4):=by kernel_rfl
theorem Zq(hB:2<=B){l:List Nat}(hl:cz B l):aq B (aZ B l)=l.take (aq B (aZ B l)).length:=by
 have h:=anH hB (k:=l.length) (sj l hl);rw [Dw oo l hl] at h;exact h
theorem Zr(hB:2<=B){k:IntKind}{l:List Nat}(h:Rd w N 1 A (mu k l))(hl:cz B l):Rd w N 1 A (mu k (aq B (aZ B l))):=by
 rw [Zq hB hl,anJ];exact h.take _
theorem wrap_u64{n:Int}(h0:0<=n)(h:n<18446744073709551616):IntKind.u64.wrap n=n:=by
 unfold IntKind.wrap;simp [IntKind.bits,IntKind.signed];omega
theorem wrap_u32(n:Nat):IntKind.u32.wrap (n:Int)=((n % 4294967296:Nat):Int):=by
 unfold IntKind.wrap;simp [IntKind.bits,IntKind.signed]
theorem wrap_i64{n:Int}(h1 : -9223372036854775808<=n)(h2:n<=9223372036854775807):IntKind.i64.wrap n=n:=by
 unfold IntKind.wrap;simp [IntKind.bits,IntKind.signed];split<;>omega
def ba.cells(f:ba):List Value := [.bool f.neg]++((pad ae 8 f.num).map fun (n:Nat)=>Value.int .u32 (n:Int))++((pad ae 8 f.den).map fun (n:Nat)=>Value.int .u32 (n:Int))
def ba.val(f:ba):Value := .agg f.cells.toArray
theorem ba.anX(f:ba){i:Nat}(h:i<8):f.cells[1+i]? = some (.int .u32 ((pad ae 8 f.num)[i]'(by rw [fg]; exact h):Nat)):=by
 unfold ba.cells;rw [fl,r6 (by simp),r7 (by simp [fg]; omega)];simp [fg,h]
theorem ba.anY(f:ba){i:Nat}(h:i<8):f.cells[9+i]? = some (.int .u32 ((pad ae 8 f.den)[i]'(by rw [fg]; exact h):Nat)):=by
 unfold ba.cells;rw [fl,r6 (by simp only [dE,hZ]; omega),r6 (by simp only [di,fg,dE,hZ]; omega)];have e:9+i - [Value.bool f.neg].length - ((pad ae 8 f.num).map fun (n:Nat)=>Value.int .u32 (n:Int)).length=i:=by simp only [di,fg,dE,hZ]; omega
 rw [e];simp [fg,h]
theorem Gq:ae^8=cA:=by decide
theorem KJ{f:ba}(h:w.heap[g]? = some (.cells f.cells.toArray 52 (0,0))) :
 Rd w w.heap.size 1 (some ⟨g,1,none⟩) (mu .u32 (pad ae 8 f.num))/\Rd w w.heap.size 1 (some ⟨g,9,none⟩) (mu .u32 (pad ae 8 f.den)):=by
 have af:=(pV.1 h).1;constructor
 . intro i cs hi;unfold mu at hi;rw [gC] at hi;obtain⟨n,hn,rfl⟩:=nH.1 hi;have pj:i<8:=by have:=(c8.1 hn).1; rwa [fg] at this
   refine⟨g,1,rfl,af,rfl,fun j u hu => ?_⟩
   match j,hu with
   | 0,hu =>
    simp at hu;subst hu;rw [Dp w g _ _ _ _ h];simp only [lX,jD,FO];rw [f.anX pj];exact Zs
 . intro i cs hi;unfold mu at hi;rw [gC] at hi;obtain⟨n,hn,rfl⟩:=nH.1 hi;have pj:i<8:=by have:=(c8.1 hn).1; rwa [fg] at this
   refine⟨g,9,rfl,af,rfl,fun j u hu => ?_⟩
   match j,hu with
   | 0,hu =>
    simp at hu;subst hu;rw [Dp w g _ _ _ _ h];simp only [lX,jD,FO];rw [f.anY pj];exact Zs
theorem Qv{l:List Nat}(hl:cz B l){k:Nat}(h:l.length=k+1):aZ B l=aZ B (l.take k)+B^k*l.getD k 0/\aZ B (l.take k)<B^k:=by
 have h1:=yS B l k;rw [ez oo] at h1;have h2:=sj (l.take k) (hl.take k);rw [FQ oo] at h2;exact⟨h1,h2⟩
theorem anZ{l:List Nat}(hl:cz B l){k:Nat}(h:l.length=k+2):aZ B l=aZ B (l.take k)+B^k*(l.getD k 0+B*l.getD (k+1) 0)/\aZ B (l.take k)<B^k:=by
 have h1:=(Qv hl (k:=k+1) h).1;have h2:=yS B l k;have h3:=sj (l.take k) (hl.take k);rw [FQ oo] at h3;refine⟨?_,h3⟩;rw [h1,h2,iE];grind
theorem Qw{k:Nat}(h:aX y=k+1):(aq ae y).getD k 0≠0:=by
 refine Y6 cw (n:=y) ?_;have h':(aq ae y).length=k+1:=h;rw [YA,h'];simp [List.getD,h']
theorem an0{k:Nat}(h:aX y=k+1)(Gr:yt=(aq ae y).getD k 0)(hs:s=ae / (yt+1)):0<s/\s<ae/\aX (y*s)=k+1:=by
 have h0:=Qw h;rw [<- Gr] at h0;have hd:=cz.aq cw y;have af:yt<ae:=by rw [Gr]; exact hd.getD (by decide) k
 have yV:=Qv hd h;rw [kH cw,<- Gr] at yV;have pk:0<s:=by rw [hs]; exact Nat.div_pos oo oo
 have hm:s*(yt+1)<=ae:=by rw [hs]; exact amZ _ _
 have jS:s<ae:=by
  have h1:s*2<=s*(yt+1):=j7 _ oo;omega
 refine⟨pk,jS,?_⟩;have hB:ae^(k+1)=ae^k*ae:=iE ..;have A3:y<ae^k*(yt+1):=by
  rw [ow,lX];omega
 have h3:y*s<ae^(k+1):=by
  have h4:y*s<ae^k*(yt+1)*s:=PU A3 pk;have h5:ae^k*(yt+1)*s=ae^k*(s*(yt+1)):=by grind
  have h6:ae^k*(s*(yt+1))<=ae^k*ae:=j7 _ hm;rw [hB];omega
 have h7:ae^k<=y:=(uw cw).1 (show k<aX y from oo);have h8:y*1<=y*s:=j7 _ pk;have h9:k<aX (y*s):=(uw cw).2 oo;have mY:=gr cw h3;have:aX (y*s)<=k+1:=mY;omega
theorem an1(hu:cz ae u)(Gs:u.length=n+1)(tp:aX V=n)(hn:0<n)(AS:vt=(aq ae V).getD (n - 1) 0)(af:aZ ae u<V*ae)(hg:g=min ((u.getD n 0*4294967296+u.getD (n - 1) 0) / vt) 4294967295):aZ ae u / V<=g:=by
 obtain⟨k,rfl⟩:∃ k,n=k+1:=⟨n - 1,oo⟩
 simp only [pf] at AS hg;have h0:=Qw tp;rw [<- AS] at h0;obtain⟨vX,_⟩:=Qv (cz.aq cw V) (k:=k) tp;rw [kH cw,<- AS] at vX;obtain⟨Zt,Qx⟩:=anZ hu (k:=k) oo;have ka:0<V:=by
  have:0<ae^k*vt:=uu (yN (by decide)) oo;omega
 have h1:=Za (B:=ae) (n:=k) (by decide) vX Zt Qx oo;have hB:ae=4294967296:=rfl;have e:u.getD k 0+ae*u.getD (k+1) 0=u.getD (k+1) 0*4294967296+u.getD k 0:=by rw [hB]; omega
 rw [e] at h1;have h2:aZ ae u / V<ae:=by
  rw [AH ka,j8]; exact af
 rw [hg];omega
end Go.Proofs.YtamjbkaclhgffaaGreat
