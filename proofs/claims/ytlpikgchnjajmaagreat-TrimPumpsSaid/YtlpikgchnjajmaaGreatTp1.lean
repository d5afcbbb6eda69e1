/-
  What a slice of rows of cells reads as, what a call owns, and the laws on append for them; over any program.
-/
import Derived.Test.YtlpikgchnjajmaaGreatTp0
import Derived.WalkKit
import Derived.WalkSpells
import Derived.WalkLawsBesides
import Derived.BigQuiet
import Derived.Deep.QuietTactic
import Derived.Deep.LoopGhost
import Derived.Deep.Slices
import Derived.Maps.AppendAt
import Derived.Lib.Hide
import Derived.Test.YtlpikgchnjajmaaGreatRows
set_option linter.all false
namespace Go.Proofs.YtlpikgchnjajmaaGreat
open Go.RowKit
variable{a:Act}{ad:Addr}{listed:Array Bool}{aft:Array Edge}{ops:Array Oper}{cur:Array Value}{Q:Exit->Act->World->Prop}{css ds news:List (List Value)}{js l u:List Nat}{rest:List Oper}{cs:List Value}{B B' N T V base by_ bytes c cn e g j k m n np off r s t vt y yt:Nat}{o oj:Oper}{x:Operand}{gd:Option (Nat×Bool)}{A X:Option Addr}{d:Option Nat}{pos:String}{α:Type}{ty:TypeId}{v z:Value}{w w':World}
def Rd(w:World)(B size:Nat)(A:Option Addr)(css:List (List Value)):Prop :=
 ∀ k cs,css[k]? = some cs->∃ b off,A=some ⟨b,off,none⟩/\b<B/\cs.length=size/\∀ j u,cs[j]? = some u->w.cell? ⟨b,off+k*size+j,none⟩=some u
theorem Rd.nil(w:World)(B size:Nat)(A:Option Addr):Rd w B size A []:=by intro k cs h; simp at h
theorem Rd.below{size:Nat}(h:Rd w B size A css)(hb:Below B' w w')(hB:B<=B'):Rd w' B size A css:=by
 intro k cs hk;obtain⟨b,off,e,aj,hl,hc⟩:=h k cs hk;exact⟨b,off,e,aj,hl,fun j u hu=>(hb.cell (p:=⟨b,_,none⟩) (by simp; omega)).trans (hc j u hu)⟩
theorem Rd.more{size:Nat}(h:Rd w B size A css)(hB:B<=B'):Rd w B' size A css:=by
 intro k cs hk;obtain⟨b,off,e,aj,hl,hc⟩:=h k cs hk;exact⟨b,off,e,oo,hl,hc⟩
theorem Rd.pre{size:Nat}(h:Rd w B size A (css++ds)):Rd w B size A css:=by
 intro k cs hk;exact h k cs (by rw [qh (cM.1 hk).1]; exact hk)
theorem Rd.take{size:Nat}(h:Rd w B size A css)(n:Nat):Rd w B size A (css.take n):=by
 rw [<- jg n css] at h;exact h.pre
theorem DR{size:Nat}:∀ (css:List (List Value)),(∀ cs∈css,cs.length=size)->∀ k j,j<size->css.flatten[k*size+j]? = css[k]?.bind (·[j]?)
 | [],_,k,j,_=>by simp
 | cs::css,h,0,j,hj=>by
  have hl:=h cs (by simp);simp only [H6,Nu,hZ,oH,DH];rw [qh oo]
 | cs::css,h,k+1,j,hj=>by
  have hl:=h cs (by simp);have ih:=DR css (fun c hc=>h c (by simp [hc])) k j hj;simp only [H6,M1];rw [rq (by rw [hl,Bp]; omega),hl,<- ih];congr 1;rw [Bp]; omega
theorem pC{size:Nat}:∀ (css:List (List Value)),(∀ cs∈css,cs.length=size)->css.flatten.length=css.length*size
 | [],_=>by simp
 | cs::css,h=>by
  have hl:=h cs (by simp);have ih:=pC css (fun c hc=>h c (by simp [hc]));simp only [H6,ej,c9,ih,hl,Bp];omega
theorem Rd.len{size:Nat}(h:Rd w B size A css):∀ cs∈css,cs.length=size:=by
 intro cs hc;obtain⟨k,hk,e⟩:=M5.1 hc;obtain⟨_,_,_,_,hl,_⟩:=h k cs (by rw [bp hk,e]);exact hl
theorem Rd.flat{size:Nat}(h:Rd w B size A css):∀ j u,css.flatten[j]? = some u->∃ ad,A=some ad/\w.cell? (ad.add j)=some u:=by
 intro j u hu;rcases zo size with h0|h0
 . subst h0;have:=pC css h.len;rw [Br] at this;rw [xp this] at hu;simp at hu
 . have e:j=j / size*size+j % size:=by rw [lN]; exact (Vz j size).symm
   rw [e,DR css h.len _ _ (oL _ h0)] at hu;obtain⟨cs,aC,hju⟩:=lK.1 hu;obtain⟨b,off,hA,_,_,hc⟩:=h _ cs aC;refine⟨_,hA,?_⟩;rw [sE];have:=hc _ _ hju;rw [rA,<- e] at this;exact this
def EI(P:Program)(t e size bytes:Nat):Prop :=
 P.underlying t=some (.slice e)/\∃ i z,P.info? e=some i/\i.zero=some z/\i.size=size/\i.bytes=bytes/\z.cells.size=size/\0<size
theorem EI.mk{P:Program}{size:Nat}(ht:P.underlying t=some (.slice e))(h:(P.info? e).map (fun i=>(i.zero,i.size,i.bytes))=some (some z,size,bytes))(hz:z.cells.size=size)(hs:0<size):EI P t e size bytes:=by
 obtain⟨i,h1,h2,h3,h4⟩:=info_parts h;exact⟨ht,i,z,h1,h2,h3,h4,hz,hs⟩
def cy(w:World)(base e size:Nat)(A:Option Addr)(c:Nat)(css:List (List Value)):Prop :=
 w.ownsRow base e size (.slice A css.length c) css.length css.flatten/\∀ cs∈css,cs.length=size
section
variable{w w':World}{base e size c:Nat}{A:Option Addr}{css:List (List Value)}
theorem cy.nil(w:World)(base e size:Nat):cy w base e size none 0 []:=⟨World.ownsRow_nil w base e size,by simp⟩
theorem cy.of(h:w.ownsRow base e size v n css.flatten)(hn:n=css.length)(hl:∀ cs∈css,cs.length=size):∃ A c,v = .slice A css.length c/\cy w base e size A c css:=by
 subst hn;rcases h.2 with ⟨rfl,h0⟩|⟨g,cap,cur,rfl,r⟩
 . have hc:css = []:=xp h0;subst hc;exact⟨none,0,rfl,cy.nil _ _ _ _⟩
 . exact⟨_,_,rfl,h,hl⟩
theorem cy.lt(h:cy w base e size A c css){a:Addr}(ha:A=some a):base<=a.block/\a.block<w.heap.size:=by
 subst ha;exact h.1.lt a.block rfl
theorem cy.cap(h:cy w base e size A c css):css.length<=c/\c<=maxLen:=by
 rcases h.1.2 with ⟨h1,h2⟩|⟨g,cap,cur,h1,_,_,h2,h3,_⟩
 . injection h1 with _ h3 h4;exact⟨oo,by rw [h4]; exact cm _⟩
 . simp at h1;rw [h1.2];exact⟨h2,h3⟩
theorem cy.rd(h:cy w base e size A c css):Rd w w.heap.size size A css:=by
 intro k cs hk;have lO:=(cM.1 hk).1;rcases h.1.2 with ⟨h1,h2⟩|⟨g,cap,cur,h1,_,hg,_,_,_,rD⟩
 . omega
 . simp at h1;obtain⟨rfl,rfl⟩:=h1;have hlen:cs.length=size:=h.2 cs (gX hk);refine⟨g,0,rfl,(jz.1 hg).1,hlen,fun j u hu => ?_⟩;have hj:j<size:=by rw [<- hlen]; exact (cM.1 hu).1
   have hf:css.flatten[k*size+j]? = some u:=by rw [DR css h.2 k j hj,hk]; exact hu
   have:=h.1.cells (g:=g) rfl _ _ hf;rw [sE] at this;rw [rA];exact this
theorem cy.block(h:cy w base e size A c css):(A=none/\c=0/\css = [])\/∃ g cur,A=some ⟨g,0,none⟩/\base<=g/\w.heap[g]? = some (.cells cur e (0,0))/\cur.size=c*size:=by
 rcases h.1.2 with ⟨h1,h2⟩|⟨g,cap,cur,h1,hb,hg,_,_,hs,_⟩
 . injection h1 with h3 _ h4;exact .inl ⟨h3,h4,xp h2⟩
 . simp at h1;obtain⟨rfl,rfl⟩:=h1;exact .inr ⟨g,cur,rfl,hb,hg,hs⟩
theorem cy.jA(h:cy w base e size A c css)(hk:∀ a,A=some a->w'.heap[a.block]? = w.heap[a.block]?):cy w' base e size A c css:=by
 refine⟨⟨h.1.1,?_⟩,h.2⟩;rcases h.1.2 with h1|⟨g,cap,cur,h1,hb,hg,r⟩
 . exact .inl h1
 . refine .inr ⟨g,cap,cur,h1,hb,?_,r⟩;simp at h1;rw [hk _ h1.1];exact hg
theorem cy.Bv{b:Nat}(h:cy w base e size A c css)(hb:b<=base):cy w b e size A c css:=by
 refine⟨⟨h.1.1,?_⟩,h.2⟩;rcases h.1.2 with h1|⟨g,cap,cur,h1,hg,r⟩
 . exact .inl h1
 . exact .inr ⟨g,cap,cur,h1,oo,r⟩
end
section
variable{P:Program}{w:World}{ops:Array Oper}{rest:List Oper}{o:Oper}{a:Act}{Q:Exit->Act->World->Prop}
theorem ahM{size ty:Nat}(hE:EI P t e size bytes)(bC:cy w base e size A c css)(B:Nat)(hr:Rd w B size X news)(hm:m=news.length)(h1:∀ cs∈news,∀ u∈cs,u.oneCell'=true)(nQ:css.length+m<=maxLen)(vM:(css.length+m)*bytes<=140737488355328)(ir:base<=w.heap.size) :
 ∃ A' c' w',(Builtin.append_ #[t,t] ty #[.slice A css.length c,.slice X m cn]).run P w = .ok (.slice A' (css++news).length c') w'/\cy w' base e size A' c' (css++news)/\w.grownBy w' (Value.ownBlock (.slice A css.length c))/\Below base w w':=by
 subst hm;obtain⟨ht,i,z,hi,hz,hs,hb,vN,h0⟩:=hE;have hlen:∀ cs∈css++news,cs.length=size:=fun cs hc=>by
  rcases ku.1 hc with h|h
  . exact bC.2 cs h
  . exact hr.len cs h
 have fin:∀ v' w',w'.ownsRow base e size v' (css.length+news.length) (css.flatten++news.flatten)->w.grownBy w' (Value.ownBlock (.slice A css.length c))->(Builtin.append_ #[t,t] ty #[.slice A css.length c,.slice X news.length cn]).run P w = .ok v' w' ->
  ∃ A' c' w',(Builtin.append_ #[t,t] ty #[.slice A css.length c,.slice X news.length cn]).run P w = .ok (.slice A' (css++news).length c') w'/\cy w' base e size A' c' (css++news)/\w.grownBy w' (Value.ownBlock (.slice A css.length c))/\Below base w w':=by
  intro v' w' h2 h3 cB;obtain⟨A',c',rfl,h4⟩:=cy.of (css:=css++news) (by rw [Ng]; exact h2) (by simp) hlen;exact⟨A',c',w',cB,h4,h3,(cA _ _).grown h3 ir (fun k hk=>(bC.1.lt k hk).1)⟩
 rcases X with _|ad
 . have hn:news = []:=by
    rcases news with _|⟨x,l⟩
    . rfl
    . obtain⟨_,_,h,_⟩:=hr 0 x rfl;cases h
   subst hn;refine fin (.slice A css.length c) w (by simpa using bC.1) (World.grownBy.refl w _) ?_;exact VH
 . obtain⟨v',w',cB,h2,h3,_,_⟩:=run_append_own_at (P:=P) w base t ty e i z size bytes ht hi hz hs hb vN h0 _ css.length css.flatten bC.1 ad news.length cn news.flatten (pC news hr.len)
    (fun j u hu=>by obtain⟨ad',h,hc⟩:=hr.flat j u hu; injection h with h; rw [h]; exact hc)
    (fun u hu=>by obtain⟨cs,aC,ub⟩:=ahC.1 hu; exact h1 cs aC u ub) nQ vM ir
   exact fin v' w' h2 h3 cB
theorem ahO{size:Nat}(ia:o.guard=none)(s x:Operand)(ho:o.op = .call { callee := .builtin .append,args := #[s,x],argTypes := #[t,t] })(hE:EI P t e size bytes)(hs:a.eval s = .slice A css.length c)(bC:cy w base e size A c css)(hx:a.eval x = .slice X m cn)(B:Nat)(hr:Rd w B size X news)(hm:m=news.length)(h1:∀ cs∈news,∀ u∈cs,u.oneCell'=true)(nQ:css.length+m<=maxLen)(vM:(css.length+m)*bytes<=140737488355328)(ir:base<=w.heap.size)(h:∀ A' c' w',cy w' base e size A' c' (css++news)->w.grownBy w' (Value.ownBlock (.slice A css.length c))->Below base w w'->wpList P ops Q rest (a.put o.dst (.slice A' (css++news).length c')) w'):wpList P ops Q (o::rest) a w:=by
 obtain⟨A',c',w',cB,h2,h3,h4⟩:=ahM (P:=P) (ty:=o.type) (cn:=cn) hE bC B hr hm h1 nQ vM ir;refine wpList_plain ia fun K hK => ?_;unfold Oper.wp execOp;simp only [ho,resolve,invoke,builtin,bt,bU,bM,DD,kX,vE,hs,hx,cB];exact hK _ _ (h A' c' w' h2 h3 h4)
end
def vO(P:Program)(T n:Nat):Prop:=∃ d,P.underlying T=some d/\(match d with | .struct _ | .array _ _=>true|_=>false)=true/\(P.info? T).map (·.size)=some n
theorem NA{P:Program}(hT:vO P T n)(hn:cs.length=n)(h:∀ j u,cs[j]? = some u->w.cell? (ad.add j)=some u) :
 (loadVar T ad).run P w = .ok (.agg cs.toArray) w:=by
 obtain⟨d,hu,hd,hi⟩:=hT;subst hn;have hl:(loadCells ad cs.length).run P w = .ok cs.toArray w:=run_loadCells_list (P:=P) w ad cs h
 cases hq:P.info? T with
 | none=>simp [hq] at hi
 | some i =>
  have hs:i.size=cs.length:=by simpa [hq] using hi
  have NB:(isAgg T).run P w = .ok true w:=by
   unfold isAgg;rw [bt,ql hu w];cases d<;>simp_all
  simp [loadVar,bt,NB,sizeOf,typeInfo,hq,hs,hl]
theorem Bw{P:Program}{d:TypeDesc}(hT:P.underlying T=some d)(hd:(match d with | .struct _ | .array _ _=>false|_=>true)=true)(h:w.cell? ad=some v):(loadVar T ad).run P w = .ok v w:=by
 have NB:(isAgg T).run P w = .ok false w:=by
  unfold isAgg;rw [bt,ql hT w];cases d<;>simp_all
 simp [loadVar,bt,NB,h]
theorem Rd.ld{P:Program}{size:Nat}(hT:vO P T size)(h:Rd w B size A css)(hk:css[k]? = some cs) :
 ∃ b off,A=some ⟨b,off,none⟩/\b<B/\∀ w',Below B w w'->(loadVar T ⟨b,off+k*size,none⟩).run P w' = .ok (.agg cs.toArray) w':=by
 obtain⟨b,off,e,aj,hl,hc⟩:=h k cs hk;refine⟨b,off,e,aj,fun w' hb=>NA hT hl fun j u hu => ?_⟩;rw [sE];exact (hb.cell (p:=⟨b,_,none⟩) Bx).trans (hc j u hu)
section
variable{P:Program}{w:World}{ops:Array Oper}{rest:List Oper}{o:Oper}{a:Act}{Q:Exit->Act->World->Prop}{C:World->Prop}{K:Act->Prop}
theorem oM(ia:o.guard=none)(T:Nat)(x:Operand)(ho:o.op = .load T x)(ad:Addr)(hx:a.eval x = .pointer (some ad))(v:Value)(ky:(loadVar T ad).run P w = .ok v w)(h:wpList P ops Q rest (a.put o.dst v) w):wpList P ops Q (o::rest) a w:=by
 refine wpList_plain ia fun K hK => ?_;unfold Oper.wp execOp;simp only [ho,hx,Instr.loadAt,Instr.sureAddr,bt,bU,bM,ky];exact hK _ _ h
theorem VI(hw:Region.wanted o (yielded ops a.tmps)=true)(T:Nat)(x:Operand)(ho:o.op = .load T x)(ad:Addr)(hx:a.eval x = .pointer (some ad))(v:Value)(ky:(loadVar T ad).run P w = .ok v w)(h:wpList P ops Q rest (a.put o.dst v) w):wpList P ops Q (o::rest) a w:=by
 refine wpList_step fun K hK => ?_;rw [aw hw];unfold Oper.wp execOp;simp only [ho,hx,Instr.loadAt,Instr.sureAddr,bt,bU,bM,ky];exact hK _ _ h
theorem Ic(hi:(P.info? T).map (·.size)=some n)(hv:v.cells.toList=cs)(hn:cs.length=n)(hg:w.heap[g]? = some (.cells cur t (0,0)))(jB:off+n<=cur.size)(h1:∀ u∈cs,u.oneCell'=true) :
 (storeVar T ⟨g,off,none⟩ v).run P w = .ok () (w.setRow g (cur.toList.take off++cs++cur.toList.drop (off+n)).toArray):=by
 subst hv
 cases hq:P.info? T with
 | none=>simp [hq] at hi
 | some i =>
  have hs:i.size=n:=by simpa [hq] using hi
  have hst:=run_storeCells_at P g off t v.cells.toList 0 cur w hg (by simp only [kY]; omega) h1;simp only [kY] at hst;have aN:v.cells.size=n:=by simpa using hn
  unfold storeVar;simp only [bt,sizeOf,typeInfo,m5,hq,bU,bM,hs,aN,ne_eq,vC,dB];rw [hst,hn]
theorem NC(ia:o.guard=none)(x y:Operand)(ho:o.op = .store T x y)(hx:a.eval x = .pointer (some ⟨g,off,none⟩))(hy:a.eval y=v)(hi:(P.info? T).map (·.size)=some n)(hv:v.cells.toList=cs)(hn:cs.length=n)(hg:w.heap[g]? = some (.cells cur t (0,0)))(jB:off+n<=cur.size)(h1:∀ u∈cs,u.oneCell'=true)(h:∀ (m6:Array Value) w',m6.toList=cur.toList.take off++cs++cur.toList.drop (off+n)->m6.size=cur.size->w'.heap[g]? = some (.cells m6 t (0,0))->w.grownBy w' (some g)->wpList P ops Q rest (a.put o.dst undef) w') :
 wpList P ops Q (o::rest) a w:=by
 have hr:=Ic (P:=P) hi hv hn hg jB h1;refine wpList_plain ia fun K hK => ?_;unfold Oper.wp execOp;simp only [ho,hx,hy,Instr.storeAt,Instr.sureAddr,bt,bU,bM,hr];refine hK _ _ (h _ _ rfl ?_ (Ny w g cur _ t _ hg) ⟨rfl,rfl,rfl,by simp,fun k _ hk=>DN w g k _ (fun e=>hk (by simp [e]))⟩);simp only [xt,ej,c6,iH,ahp];omega
theorem ND(T:Nat)(x:Operand)(ho:o.op = .load T x)(ad:Addr)(hx:a.eval x = .pointer (some ad))(v:Value)(ky:∀ w',C w'->(loadVar T ad).run P w' = .ok v w')(hk:K (a.put o.dst v)):o.quiet P a C K:=by
 refine⟨v,fun w' hC => ?_,hk⟩;unfold Oper.quietAt execOp;simp only [ho,hx,Instr.loadAt,Instr.sureAddr,bt,bU,bM,ky w' hC];exact⟨rfl,rfl⟩
theorem Ie{id:Nat}{l:List Oper}(hm:P.follows .mixedOrders=true)(hB:Region.lexB .any l.toArray=true)(N:Nat)(h:wpQuiet P l.toArray (fun w'=>Below N w w') (fun a'=>∀ w',Below N w w'->Q .normal a' w') l a):(Code.region id l.toArray true).wp P Q a w :=
 wp_region_quiet (C:=fun w'=>Below N w w') hm hB (cA _ _).drew (by simpa using h)
end
theorem ahP(w:World)(A B:Obj):((w.alloc A).alloc B).heap.size=w.heap.size+2:=by simp
theorem below_drewN{a:World}(h:Below B a w)(n:Nat):Below B a (w.drewN n):=⟨h.os,h.tape,h.output,h.size,h.block⟩
theorem toList_inj{a b:ByteArray}:(a.toList==b.toList)=decide (a=b):=by
 rw [<- beq_toListBytes];obtain⟨⟨x⟩⟩:=a;obtain⟨⟨y⟩⟩:=b;show ((⟨x⟩:Array UInt8)==⟨y⟩)=_
 by_cases h:x=y<;>simp [h]
theorem toList_eq{a b:ByteArray}:(a.toList=b.toList)=(a=b):=by
 have h:=toList_inj (a:=a) (b:=b);by_cases e:a=b
 . simp [e]
 . simp [e] at h;simp [e,h]
def VJ(P:Program)(w:World)(fn:FuncId)(dw:Array Value)(val : α->Value)(p : α->Bool)(l:List α):Prop :=
 ∀ x∈l,∀ w',Below w.heap.size w w'->Calls P fn (#[val x]++dw) w' fun e w2=>e = .returned (.bool (p x))/\Below w'.heap.size w' w2
def idx(p : α->Bool)(l:List α):Int:=match l.findIdx? p with|some i=>i|none => -1
theorem NF{p : α->Bool}{l:List α}(hk:k<l.length)(hj:∀ j,(h:j<k)->p l[j]=false)(hx:p l[k]=true):idx p l=k:=by
 have:l.findIdx? p=some k:=by
  rw [awY];exact⟨hk,hx,fun j qn=>by simp [hj j qn]⟩
 unfold idx;rw [this]
theorem NG{p : α->Bool}{l:List α}(hj:∀ j,(h:j<l.length)->p l[j]=false):idx p l = -1:=by
 have:l.findIdx? p=none:=by
  rw [List.findIdx?_eq_none_iff];intro x hx;obtain⟨j,gQ,rfl⟩:=M5.1 hx;exact hj j gQ
 unfold idx;rw [this]
theorem NH(p : α->Bool)(l:List α):(idx p l = -1/\∀ x∈l,p x=false)\/∃ k,∃ h:k<l.length,idx p l=k/\p l[k]=true/\l.find? p=some l[k]:=by
 unfold idx
 cases hf:l.findIdx? p with
 | none=>exact .inl ⟨rfl,by simpa using hf⟩
 | some k =>
  rw [awY] at hf;obtain⟨h,h1,h2⟩:=hf;refine .inr ⟨k,h,rfl,h1,?_⟩;rw [List.find?_eq_some_iff_getElem];exact⟨h1,k,h,rfl,fun j hj=>by have:=h2 j hj; simpa using this⟩
def bJ(B:Nat):List Nat->Nat
 | []=>0
 | d::l=>d+B*bJ B l
def zw(B:Nat):Nat->Nat->List Nat
 | 0,_ => []
 | f+1,n=>if n=0 then [] else (n % B)::zw B f (n / B)
def bf(B n:Nat):List Nat:=zw B n n
theorem ahQ(B:Nat):bJ B []=0:=rfl
theorem vP(B d:Nat)(l:List Nat):bJ B (d::l)=d+B*bJ B l:=rfl
theorem Ig(B:Nat):∀ (l m:List Nat),bJ B (l++m)=bJ B l+B^l.length*bJ B m
 | [],m=>by simp [bJ]
 | d::l,m=>by
  simp only [xu,vP,Ig B l m,c9,kx,ua];rw [lN (B^l.length) B,DM];omega
theorem ahR(B:Nat)(l:List Nat)(d:Nat):bJ B (l ++ [d])=bJ B l+B^l.length*d:=by
 rw [Ig]; simp [bJ]
theorem NI(h:k<l.length):bJ B (l.take (k+1))=bJ B (l.take k)+B^k*l[k]:=by
 rw [MY h,ahR,DB (Nv h)]
theorem uc{B:Nat}:∀ (l:List Nat),(∀ d∈l,d<B)->bJ B l<B^l.length
 | [],_=>by simp [bJ]
 | d::l,h=>by
  have h1:=h d (by simp);have ih:=uc l (fun x hx=>h x (by simp [hx]));simp only [vP,c9,kx];have h2:B*(bJ B l+1)<=B*B^l.length:=tT B ih;rw [lN (B^l.length) B];rw [ua] at h2;omega
theorem ahS(B k:Nat):bJ B (List.replicate k 0)=0:=by
 induction k with
 | zero=>rfl
 | succ k ih=>simp [List.replicate_succ,bJ,ih]
section
variable{B:Nat}(hB:2<=B)
include hB
theorem DS(h:n≠0):n / B<n:=Nat.div_lt_self oo oo
theorem NJ:∀ (f n:Nat),n<=f->zw B f n=zw B n n
 | 0,n,h=>by
  have:n=0:=oo
  subst this;rfl
 | f+1,n,h=>by
  by_cases h0:n=0
  . subst h0; simp [zw]
  . obtain⟨m,rfl⟩:∃ m,n=m+1:=⟨n - 1,oo⟩
    have aj:=DS hB h0;simp only [zw,ar h0];rw [NJ f ((m+1) / B) oo,NJ m ((m+1) / B) oo]
theorem ud:bf B 0 = []:=by
 have _h:=hB;rfl
theorem rE(h:n≠0):bf B n=(n % B)::bf B (n / B):=by
 obtain⟨m,rfl⟩:∃ m,n=m+1:=⟨n - 1,oo⟩
 have aj:=DS hB h;unfold bf;simp only [zw,ar h];rw [NJ hB m ((m+1) / B) oo]
theorem ue(n:Nat):bJ B (bf B n)=n:=by
 induction n using Nat.strongRecOn with
 | ind n ih =>
  by_cases h:n=0
  . subst h; rfl
  . rw [rE hB h,vP,ih _ (DS hB h)];exact Nq n B
theorem ahT(h:bf B m=bf B n):m=n:=by rw [<- ue hB m,<- ue hB n,h]
theorem VK(n:Nat):∀ d∈bf B n,d<B:=by
 induction n using Nat.strongRecOn with
 | ind n ih =>
  by_cases h:n=0
  . subst h; simp [ud hB]
  . rw [rE hB h];intro d hd;rcases fZ.1 hd with h1|h1
    . subst h1; exact oL _ oo
    . exact ih _ (DS hB h) d h1
theorem ahU{d:Nat}(hd:d<B)(h:n≠0\/d≠0):bf B (d+B*n)=d::bf B n:=by
 have aT:d+B*n≠0:=by
  rcases h with h|h
  . have:0<B*n:=zu oo oo;omega
  . omega
 rw [rE hB aT,zj,fF hd,zm _ _ oo,mi hd,hZ]
theorem VL:∀ (l:List Nat),(∀ d∈l,d<B)->(∀ d,l.getLast? = some d->d≠0)->bf B (bJ B l)=l
 | [],_,_=>rfl
 | d::l,h,hl=>by
  have h1:=h d (by simp);have cp:∀ e,l.getLast? = some e->e≠0:=fun e he=>hl e (by rw [List.getLast?_cons,he]; rfl);have ih:=VL l (fun x hx=>h x (by simp [hx])) cp;rw [vP,ahU hB h1,ih]
  cases l with
  | nil=>exact .inr (hl d rfl)
  | cons e l =>
   left;intro h0;rw [h0] at ih;cases ih
theorem ahV{d:Nat}(h:(bf B n).getLast? = some d):d≠0:=by
 induction n using Nat.strongRecOn generalizing d with
 | ind n ih =>
  by_cases h0:n=0
  . subst h0; simp [ud hB] at h
  . rw [rE hB h0,List.getLast?_cons] at h;by_cases h1:n / B=0
    . rw [h1,ud hB] at h;simp at h;subst h;have:=Nq n B;rw [h1] at this;intro h2;rw [h2] at this;simp at this;omega
    . cases hq:(bf B (n / B)).getLast? with
      | none =>
       rw [List.getLast?_eq_none_iff] at hq;rw [rE hB h1] at hq;cases hq
      | some e =>
       rw [hq] at h;simp at h;subst h;exact ih _ (DS hB h0) hq
theorem uf(h:n<B^k):(bf B n).length<=k:=by
 induction k generalizing n with
 | zero =>
  have:n=0:=by simpa using h
  subst this;simp [ud hB]
 | succ k ih =>
  by_cases h0:n=0
  . subst h0; simp [ud hB]
  . rw [rE hB h0];have:n / B<B^k:=by
     rw [HH oo];rwa [kx] at h
    have:=ih this;simp only [c9];omega
theorem iI(h:(bf B n).length<=k):n<B^k:=by
 have h1:=uc (bf B n) (VK hB n);rw [ue hB] at h1;exact iP h1 (zl oo h)
theorem DT:k<(bf B n).length↔B^k<=n:=by
 constructor
 . intro h;rcases cw n (B^k) with h1|h1
   . have:=uf hB h1; omega
   . exact h1
 . intro h;rcases cw k (bf B n).length with h1|h1
   . exact h1
   . have:=iI hB h1; omega
theorem VM(h:n≠0):0<(bf B n).length:=by rw [rE hB h]; simp
theorem NK(h:(bf B m).length<(bf B n).length):m<n :=
 iP (iI hB (az _)) ((DT hB).1 h)
theorem ahW:bf B 1 = [1]:=by
 rw [rE hB oo,fF oo,mi oo,ud hB]
end
theorem Ih(B:Nat)(l:List Nat)(k:Nat):bJ B l=bJ B (l.take k)+B^(l.take k).length*bJ B (l.drop k):=by
 rw [<- Ig,jg]
theorem ahX{a b:List Nat}(ha:∀ d∈a,d<B)(hl:a.length=b.length)(hk:k<a.length)(aj:a[k]<b[k]'oo)(hd:a.drop (k+1)=b.drop (k+1)):bJ B a<bJ B b:=by
 rw [Ih B a (k+1),Ih B b (k+1),hd,NI hk,NI oo];have e1:(a.take (k+1)).length=k+1:=by simp; omega
 have e2:(b.take (k+1)).length=k+1:=by simp; omega
 rw [e1,e2];have h1:=uc (B:=B) (a.take k) (fun d hd=>ha d (vF hd));rw [DB oo] at h1;have h2:B^k*(a[k]+1)<=B^k*b[k]'oo:=tT _ aj;rw [ua] at h2;omega
def di(B:Nat)(l:List Nat):Prop:=∀ d∈l,d<B
theorem di.take(h:di B l)(k:Nat):di B (l.take k):=fun d hd=>h d (vF hd)
theorem di.drop(h:di B l)(k:Nat):di B (l.drop k):=fun d hd=>h d (Vp hd)
theorem di.get(h:di B l)(hk:k<l.length):l[k]<B:=h _ (mj hk)
theorem di.set(h:di B l)(k x:Nat)(hx:x<B):di B (l.set k x):=fun d hd=>by
 rcases Vj hd with h1|h1
 . exact h d h1
 . rw [h1]; exact hx
theorem di.append{m:List Nat}(h:di B l)(h':di B m):di B (l++m):=fun d hd=>by
 rcases ku.1 hd with h1|h1
 . exact h d h1
 . exact h' d h1
theorem di.ahY(hB:0<B)(n:Nat):di B (List.replicate n 0):=fun d hd=>by
 rw [(ahq.1 hd).2]; exact hB
theorem di.getD(h:di B l)(hB:0<B)(k:Nat):l.getD k 0<B:=by
 rcases cw k l.length with hk|hk
 . have e:l.getD k 0=l[k]:=by simp [hk]
   rw [e]; exact h.get hk
 . have e:l.getD k 0=0:=by simp [hk]
   rw [e]; exact hB
theorem di.bf(hB:2<=B)(n:Nat):di B (bf B n):=VK hB n
theorem VN(B:Nat)(l:List Nat)(i:Nat):bJ B (l.take (i+1))=bJ B (l.take i)+B^i*l.getD i 0:=by
 rcases cw i l.length with h|h
 . have e:l.getD i 0=l[i]:=by simp [h]
   rw [e,NI h]
 . have e:l.getD i 0=0:=by simp [h]
   rw [e,lL oo,lL h,Br,kY]
theorem take_set(l:List Nat)(i x:Nat):(l.set i x).take i=l.take i:=by
 rw [List.take_set];exact List.set_eq_of_length_le (by simp; omega)
theorem drop_set(l:List Nat)(i x:Nat):(l.set i x).drop (i+1)=l.drop (i+1):=by
 rw [List.drop_set];simp
theorem ahZ(h:∀ d∈l,d=0):bJ B l=0:=by
 induction l with
 | nil=>rfl
 | cons d l ih =>
  rw [vP,h d (by simp),ih (fun e he=>h e (by simp [he]))];simp
theorem ah0(h:∀ d∈l.drop k,d=0):bJ B (l.take k)=bJ B l:=by
 rw [Ih B l k,ahZ h];simp
theorem Ii(hB:2<=B)(hl:di B l)(hk:k<=l.length)(hz:∀ d∈l.drop k,d=0)(he:k=0\/∃ j,k=j+1/\l.getD j 0≠0):bf B (bJ B l)=l.take k:=by
 rw [<- ah0 hz];refine VL hB _ (hl.take k) fun d hd => ?_;rcases he with rfl|⟨j,rfl,hj⟩
 . simp at hd
 . rw [aw3] at hd;have e:(l.take (j+1)).length - 1=j:=by simp; omega
   rw [e,eC,aw oo] at hd;have ib:j<l.length:=oo
   rw [bp ib] at hd;injection hd with hd;simp [ib] at hj;omega
theorem VO(B:Nat){i:Nat}(h:i<l.length):bJ B (l.drop i)=l[i]+B*bJ B (l.drop (i+1)):=by
 rw [vD h,vP]
theorem ah1(B:Nat){i x:Nat}(h:i<l.length):bJ B ((l.set i x).drop i)=x+B*bJ B (l.drop (i+1)):=by
 rw [VO B (by simpa using h),drop_set];simp
theorem ah2{a o:List Nat}{i:Nat}(hi:i<a.length)(ho:o.length=a.length)(h:bJ B (a.drop (i+1))=bJ B (o.drop (i+1))*by_+r) :
 bJ B (a.drop i)=bJ B ((o.set i ((r*B+a[i]) / by_)).drop i)*by_+(r*B+a[i]) % by_:=by
 rw [VO B hi,ah1 B oo,h];have h1:=Nq (r*B+a[i]) by_;generalize (r*B+a[i]) % by_=m at *
 generalize (r*B+a[i]) / by_=q at *
 grind
theorem ah3{W top lo lov:Nat}(hB:0<B)(hv:V=lov+B^n*vt)(hw:W=lo+B^n*top)(ug:lo<B^n)(zx:0<vt):W / V<=top / vt:=by
 have hP:0<B^n:=Nat.pow_pos hB;have hV:0<V:=by
  have:0<B^n*vt:=zu hP zx;omega
 rw [Nat.le_div_iff_mul_le zx];have h1:W / V*V<=W:=Nat.div_mul_le_self W V;have h2:W / V*(B^n*vt)<=W / V*V:=tT _ oo;have h3:W / V*(B^n*vt)=B^n*(W / V*vt):=by grind
 rw [h3] at h2;have h4:B^n*(W / V*vt)<B^n*(top+1):=by
  rw [ua];omega
 have:=Nat.lt_of_mul_lt_mul_left h4;omega
def pad(B:Nat):Nat->Nat->List Nat
 | 0,_ => []
 | k+1,x=>(x % B)::pad B k (x / B)
theorem eI(B:Nat):∀ k x,(pad B k x).length=k
 | 0,_=>rfl
 | k+1,x=>by simp [pad,eI B k]
theorem rF{B:Nat}(hB:0<B):∀ k x,di B (pad B k x)
 | 0,_=>by intro d hd; simp [pad] at hd
 | k+1,x=>by
  intro d hd;rcases fZ.1 hd with h|h
  . rw [h]; exact oL _ hB
  . exact rF hB k _ d h
theorem nR{B:Nat}(hB:0<B):∀ k x,x<B^k->bJ B (pad B k x)=x
 | 0,x,h=>by simp at h; subst h; rfl
 | k+1,x,h=>by
  have h1:x / B<B^k:=by
   rw [HH hB];rwa [kx] at h
  simp only [pad,vP,nR hB k _ h1];exact Nq x B
theorem By{B:Nat}(hB:0<B):∀ (l:List Nat),di B l->pad B l.length (bJ B l)=l
 | [],_=>rfl
 | d::l,h=>by
  have h1:=h d (by simp);have ih:=By hB l (fun x hx=>h x (by simp [hx]));simp only [c9,pad,vP];rw [zj,fF h1,zm _ _ hB,mi h1,hZ,ih]
theorem VP(B:Nat):∀ k,pad B k 0=List.replicate k 0
 | 0=>rfl
 | k+1=>by simp [pad,VP B k,List.replicate_succ]
theorem NL(hB:2<=B){x:Nat}(h:x<B^k):pad B k x=bf B x++List.replicate (k - (bf B x).length) 0:=by
 have h1:di B (bf B x++List.replicate (k - (bf B x).length) 0):=(di.bf hB x).append (di.ahY oo _);have h2:bJ B (bf B x++List.replicate (k - (bf B x).length) 0)=x:=by
  rw [Ig,ahS,ue hB];simp
 have h3:(bf B x++List.replicate (k - (bf B x).length) 0).length=k:=by
  have:=uf hB h;simp;omega
 have h4:=By oo _ h1;rw [h2,h3] at h4;exact h4
theorem ah5(hB:2<=B){x:Nat}(h:x<B^k):bf B x=(pad B k x).take (bf B x).length:=by
 rw [NL hB h];simp
open Go.RowKit
section
variable{P:Program}{ops:Array Oper}{md:Region.Mode}{C:World->Prop}{io:Nat}{oo:Oper}{R:Value->World->Prop}{D:World->World->Prop}{Q:Value->World->Act->Prop}
def waits(md:Region.Mode)(ops:Array Oper):Nat->Nat->Nat->Bool
 | 0,_,_=>false
 | fuel+1,j,i=>match ops[j]? with
  | some o=>o.after.any fun e=>Region.binds md e&&(e.on==i||waits md ops fuel e.on i)
  | none=>false
def qo(md:Region.Mode)(ops:Array Oper)(listed:Array Bool):Prop :=
 ∀ j oj,ops[j]? = some oj->listed.getD j false=true->∀ e∈oj.after,Region.binds md e=true->listed.getD e.on false=true
theorem NM{listed:Array Bool}(hc:qo md ops listed):∀ (fuel j i:Nat) (oj:Oper),ops[j]? = some oj->(∀ e∈oj.after,Region.binds md e=true->listed.getD e.on false=true)->waits md ops fuel j i=true->listed.getD i false=true
 | 0,_,_,_,_,_,h=>by simp [waits] at h
 | fuel+1,j,i,oj,hj,cr,h=>by
  simp only [waits,hj] at h;obtain⟨e,he,hb⟩:=H4.1 h;simp only [au,gz,b9] at hb;have h1:=cr e he hb.1;rcases hb.2 with h2|h2
  . rw [<- h2]; exact h1
  . cases ho:ops[e.on]? with
    | none=>cases fuel<;>simp [waits,ho] at h2
    | some oe=>exact NM hc fuel e.on i oe ho (hc e.on oe ho h1) h2
theorem qo.BA(hc:qo md ops listed)(hj:j∈Region.ready md ops listed):qo md ops (listed.setIfInBounds j true):=by
 intro k ok hk hl e he hb;by_cases qn:j=k
 . subst qn;obtain⟨_,oj,eo,cr⟩:=mem_ready.1 hj;rw [hk] at eo;injection eo with eo;subst eo;exact getD_set_true (cr e he hb)
 . rw [getD_set_ne false qn] at hl;exact getD_set_true (hc k ok hk hl e he hb)
end
abbrev cU(w:World)(w':World):Prop:=Below w.heap.size w w'
section
variable{P:Program}{ops:Array Oper}{md:Region.Mode}{C0 C:World->Prop}
end
theorem qp{P:Program}(T:Nat)(h:wpList P ops Q (⟨d,.load T x,ty,pos,aft,gd⟩::rest) a w):wpList P ops Q (⟨d,.load T x,ty,pos,aft,gd⟩::rest) a w:=h
theorem xy{P:Program}(T:Nat){y:Operand}(h:wpList P ops Q (⟨d,.store T x y,ty,pos,aft,gd⟩::rest) a w):wpList P ops Q (⟨d,.store T x y,ty,pos,aft,gd⟩::rest) a w:=h
theorem NN{P:Program}{size:Nat}(ia:o.guard=none)(s x:Operand)(ho:o.op = .call { callee := .builtin .append,args := #[s,x],argTypes := #[t,t] })(hE:EI P t e size bytes)(n:Nat)(hn:n=css.length)(hs:a.eval s = .slice A n c)(bC:cy w base e size A c css)(hx:a.eval x = .slice X m cn)(B:Nat)(hr:Rd w B size X news)(hm:m=news.length)(h1:∀ cs∈news,∀ u∈cs,u.oneCell'=true)(nQ:css.length+m<=maxLen)(vM:(css.length+m)*bytes<=140737488355328)(ir:base<=w.heap.size)(h:∀ A' c' w',cy w' base e size A' c' (css++news)->w.grownBy w' (Value.ownBlock (.slice A css.length c))->Below base w w'->wpList P ops Q rest (a.put o.dst (.slice A' (n+m) c')) w'):wpList P ops Q (o::rest) a w:=by
 subst hn;refine ahO ia s x ho hE hs bC hx B hr hm h1 nQ vM ir fun A' c' w' h2 h3 h4 => ?_;have:=h A' c' w' h2 h3 h4;rwa [ej,<- hm]
theorem Rd.rows{size:Nat}{t:TypeId}{fr:Nat×Nat}(hg:w.heap[g]? = some (.cells cur t fr))(uh:cur.toList=css.flatten)(hl:∀ cs∈css,cs.length=size):Rd w w.heap.size size (some ⟨g,0,none⟩) css:=by
 intro k cs hk;have hlen:=hl _ (gX hk);refine⟨g,0,rfl,(jz.1 hg).1,hlen,fun j u hu => ?_⟩;have hj:j<size:=by rw [<- hlen]; exact (cM.1 hu).1
 rw [zt w g (0+k*size+j) _ _ _ hg,<- Array.getElem?_toList,uh,hZ,DR css hl k j hj,hk];exact hu
section
variable{P:Program}{md:Region.Mode}{ops:Array Oper}{Q:Exit->Act->World->Prop}
end
def preB(ops:Array Oper)(pre:List (Nat×List Nat)):Bool:=pre.all fun p=>p.2.all fun j=>((ops[p.1]?).map fun o=>o.after.any fun e=>Region.binds .any e&&e.on==j).getD false
theorem aw8{pre:List (Nat×List Nat)}{i:Nat}(hp:preB ops pre=true)(hi:i∈Region.ready .any ops listed)(hm:(i,js)∈pre):∀ j∈js,listed.getD j false=true:=by
 intro j hj;unfold preB at hp;rw [dK] at hp;have h1:=hp _ hm;rw [dK] at h1;have h2:=h1 j hj;obtain⟨_,o,ho,cr⟩:=mem_ready.1 hi;rw [ho] at h2;simp only [dv,gZ] at h2;rw [H4] at h2;obtain⟨e,he,hb⟩:=h2;simp only [au,b9] at hb;have:=cr e he hb.1;rw [hb.2] at this;exact this
def LL(listed:Array Bool)(j:Nat):Bool:=listed.getD j false
theorem BC{i:Nat}(h:i<listed.size)(j:Nat):LL (listed.setIfInBounds i true) j=if j=i then true else LL listed j:=by
 unfold LL;rw [pz,pz,Hz];by_cases e:j=i
 . subst e;simp [h]
 . rw [ar (fun h=>e h.symm),ar e]
theorem DU{d:Nat}(hd:d<a.tmps.size)(s:Nat):(a.put (some d) v).tmps[s]? = if s=d then some v else a.tmps[s]? := by
 unfold Act.put;simp only;rw [Hz];by_cases e:s=d
 . subst e;simp [hd]
 . rw [ar (fun h=>e h.symm),ar e]
theorem VQ(h:a.tmps[s]? = some v):a.eval (.tmp s)=v:=by
 unfold Act.eval;simp only;rw [pz,h];rfl
section
variable{P:Program}{ops:Array Oper}{Q:Exit->Act->World->Prop}{a:Act}{w:World}{K:Act->World->Prop}{i:Nat}{o:Oper}
end
theorem ah6(a:Act)(d:Nat)(v:Value):(a.put (some d) v).tmps.size=a.tmps.size:=by simp [Act.put]
structure Made (w0:World) (a0:Act) (l:List Oper) (np:Nat) (R:Nat->Value->Nat->Nat->World->Prop) (L:Nat->Bool) (a:Act) (w:World) (val:Nat->Value) (lo hi:Nat->Nat):Prop where
 defers:a.defers=a0.defers
 NO:a.tmps.size=a0.tmps.size
 zy:cU w0 w
 rows:∀ i,i<np->L i=true->w0.heap.size<=lo i/\lo i<=hi i/\hi i<=w.heap.size/\R i (val i) (lo i) (hi i) w
 apart:∀ i j,i<np->j<np->L i=true->L j=true->i≠j->hi i<=lo j\/hi j<=lo i
 DV:∀ i o d,i<np->l[i]? = some o->o.dst=some d->L i=true->a.tmps[d]? = some (val i)
 BD:∀ s,(∀ i o,i<np->l[i]? = some o->o.dst=some s->L i=false)->a.tmps[s]? = a0.tmps[s]?
def zz(l:List Oper)(np n:Nat):Bool :=
 (List.range np).all fun i=>match l[i]? with
  | some o=>match o.dst with
   | some d=>decide (d<n)&&(List.range np).all fun j=>i==j||(match l[j]? with|some o'=>o'.dst != some d|none=>true)
   | none=>false
  | none=>false
theorem DW{l:List Oper}{i:Nat}(h:zz l np n=true)(hi:i<np)(ho:l[i]? = some o):∃ d,o.dst=some d/\d<n/\∀ j o',j<np->l[j]? = some o'->o'.dst=some d->j=i:=by
 unfold zz at h;have h1:=dK.1 h i (gP.2 hi);rw [ho] at h1;simp only at h1
 cases hd:o.dst with
 | none=>rw [hd] at h1; cases h1
 | some d =>
  rw [hd] at h1;simp only [au,aI] at h1;refine⟨d,rfl,h1.1,fun j o' hj ho' pD => ?_⟩;have h2:=dK.1 h1.2 j (gP.2 hj);rw [ho'] at h2;simp only [pD,H5,fM,b9] at h2;exact h2.symm
def oN(val:Nat->Value):Nat->List Oper->Act->Act
 | _,[],a=>a
 | k,o::l,a=>oN val (k+1) l (a.put o.dst (val k))
theorem NP(a:Act)(d:Option Nat)(v:Value):(a.put d v).tmps.size=a.tmps.size:=by cases d<;>simp [Act.put]
theorem VR(a:Act)(d:Option Nat)(v:Value):(a.put d v).defers=a.defers:=by cases d<;>rfl
theorem VS(val:Nat->Value):∀ (l:List Oper) (k:Nat) (a:Act),(oN val k l a).tmps.size=a.tmps.size
 | [],_,_=>rfl
 | o::l,k,a=>by unfold oN; rw [VS val l,NP]
theorem NQ(val:Nat->Value):∀ (l:List Oper) (k:Nat) (a:Act),(oN val k l a).defers=a.defers
 | [],_,_=>rfl
 | o::l,k,a=>by unfold oN; rw [NQ val l,VR]
theorem DX(val:Nat->Value)(s:Nat):∀ (l:List Oper) (k:Nat) (a:Act),(∀ o∈l,o.dst≠some s)->(oN val k l a).tmps[s]? = a.tmps[s]?
 | [],_,_,_=>rfl
 | o::l,k,a,h=>by
  unfold oN;rw [DX val s l _ _ (fun o' ho'=>h o' (M6 _ ho'))];have h1:=h o (by simp)
  cases hd:o.dst with
  | none=>rfl
  | some d =>
   rw [hd] at h1;unfold Act.put;simp only [Hz];rw [ar (fun e=>h1 (by rw [e]))]
theorem NR(val:Nat->Value)(s:Nat):∀ (l:List Oper) (k:Nat) (a:Act) (i:Nat) (o:Oper),l[i]? = some o->o.dst=some s->(∀ j o',l[j]? = some o'->o'.dst=some s->j=i)->s<a.tmps.size->(oN val k l a).tmps[s]? = some (val (k+i))
 | [],_,_,i,o,h,_,_,_=>by simp at h
 | o::l,k,a,0,o1,h,hd,hu,hs=>by
  simp at h;subst h;unfold oN;rw [DX val s l _ _ (fun o' ho' pD=>by
   obtain⟨j,hj⟩:=kW.1 ho';have:=hu (j+1) o' (by simpa using hj) pD
   omega),hd,DU hs]
  simp
 | o::l,k,a,i+1,o1,h,hd,hu,hs=>by
  unfold oN;rw [NR val s l (k+1) _ i o1 (by simpa using h) hd (fun j o' ho' pD=>by have:=hu (j+1) o' (by simpa using ho') pD; omega) (by rw [NP]; exact hs)];congr 2;omega
section
variable{w0 w:World}{a0 a:Act}{l:List Oper}{np:Nat}{R:Nat->Value->Nat->Nat->World->Prop}{L:Nat->Bool}{val:Nat->Value}{lo hi:Nat->Nat}
theorem Made.act(M:Made w0 a0 l np R L a w val lo hi)(cr:∀ i,i<np->L i=true)(hd:zz l np a0.tmps.size=true):a=oN val 0 (l.take np) a0:=by
 have e:a.tmps=(oN val 0 (l.take np) a0).tmps:=by
  apply Array.ext_getElem?;intro s;by_cases h:∃ i o,i<np/\l[i]? = some o/\o.dst=some s
  . obtain⟨i,o,hi,ho,hs⟩:=h;obtain⟨d,fN,vQ,DY⟩:=DW hd hi ho;rw [hs] at fN;injection fN with fN;subst fN;rw [M.DV i o s hi ho hs (cr i hi)];have:=NR val s (l.take np) 0 a0 i o (by rw [eC,aw hi]; exact ho) hs (fun j o' ho' pD=>by
     rw [eC] at ho';split at ho'
     . exact DY j o' (by assumption) ho' pD
     . cases ho') vQ
    rw [this,hZ]
  . rw [M.BD s (fun i o hi ho hs=>(h ⟨i,o,hi,ho,hs⟩).elim),DX val s _ _ _ (fun o ho hs=>by
     obtain⟨i,hi⟩:=kW.1 ho;rw [eC] at hi;split at hi
     . exact h ⟨i,o,by assumption,hi,hs⟩
     . cases hi)]
 have e2:a.defers=(oN val 0 (l.take np) a0).defers:=by rw [NQ]; exact M.defers
 obtain⟨t,d⟩:=a;simp only at e e2;rw [e,e2]
theorem Made.next(M:Made w0 a0 l np R L a w val lo hi){i:Nat}(mn:i<np)(ho:l[i]? = some o)(hd:zz l np a0.tmps.size=true)(hR:∀ i v lo hi w w',R i v lo hi w->hi<=w.heap.size->cU w w'->R i v lo hi w')(hw:cU w w')(hv:R i v w.heap.size w'.heap.size w'){L':Nat->Bool}(hL:∀ j,L' j=if j=i then true else L j)(hn:L i=false) :
 Made w0 a0 l np R L' (a.put o.dst v) w' (fun j=>if j=i then v else val j) (fun j=>if j=i then w.heap.size else lo j) (fun j=>if j=i then w'.heap.size else hi j):=by
 obtain⟨d,fN,vQ,DY⟩:=DW hd mn ho;refine⟨by rw [VR]; exact M.defers,by rw [NP]; exact M.NO,M.zy.trans (hw.mono M.zy.size),fun j hj hl => ?_,fun j k hj hk ui nS qn => ?_,fun j oj dj hj eo gC ui => ?_,fun s hs => ?_⟩
 . by_cases e:j=i
   . subst e;simp only [eH];exact⟨M.zy.size,hw.size,az _,hv⟩
   . simp only [e,dB];rw [hL,ar e] at hl;obtain⟨h1,h2,h3,h4⟩:=M.rows j hj hl;have VT:=hw.size;have h0:=M.zy.size;exact⟨h1,h2,oo,hR j _ _ _ w w' h4 h3 hw⟩
 . rw [hL] at ui nS;by_cases e1:j=i
   . by_cases e2:k=i
     . omega
     . simp only [e1,e2,eH,dB];rw [ar e2] at nS;exact .inr (M.rows k hk nS).2.2.1
   . rw [ar e1] at ui;by_cases e2:k=i
     . simp only [e1,e2,eH,dB];exact .inl (M.rows j hj ui).2.2.1
     . simp only [e1,e2,dB];rw [ar e2] at nS;exact M.apart j k hj hk ui nS qn
 . rw [fN];rw [DU (by rw [M.NO]; exact vQ)];by_cases e:j=i
   . subst e;rw [ho] at eo;injection eo with eo;subst eo;rw [fN] at gC;injection gC with gC;subst gC;simp
   . have aT:dj≠d:=fun h=>e (DY j oj hj eo (by rw [gC,h]));rw [hL,ar e] at ui;simp only [aT,e,dB];exact M.DV j oj dj hj eo gC ui
 . rw [fN];rw [DU (by rw [M.NO]; exact vQ)];have aT:s≠d:=fun h=>by
    have:=hs i o mn ho (by rw [fN,h]);rw [hL,aw rfl] at this;cases this
   rw [ar aT];refine M.BD s (fun j oj hj eo gC => ?_);have:=hs j oj hj eo gC;rw [hL] at this;by_cases e:j=i
   . rw [aw e] at this;cases this
   . rw [ar e] at this;exact this
end
section
variable{P:Program}{ops:Array Oper}{Q:Exit->Act->World->Prop}{a:Act}{w:World}{K:Act->World->Prop}{i:Nat}{o:Oper}
end
theorem NS{i:Nat}(h:listed.getD i true=false):LL listed i=false/\i<listed.size:=by
 have aj:i<listed.size:=by
  rcases cw i listed.size with h'|h'
  . exact h'
  . simp [DC h'] at h
 refine⟨?_,aj⟩;unfold LL;simp [aj] at h ⊢;exact h
section
variable{P:Program}{ops:Array Oper}{Q:Exit->Act->World->Prop}{a:Act}{w:World}{K:Act->World->Prop}{i:Nat}{o:Oper}
theorem VU(h:o.guard=none)(f:Nat->Option Bool):Region.wanted o f=true:=by unfold Region.wanted; rw [h]
theorem Ij{b c r:Bool}{d:Nat}(h:o.guard=some (j,b))(hj:ops[j]? = some oj)(hd:oj.dst=some d)(hs:a.tmps[d]? = some (.bool c))(hr:(c==b)=r):Region.wanted o (yielded ops a.tmps)=r:=by
 subst hr;unfold Region.wanted yielded;rw [h];simp only [hj,DH,hd,hs];cases b<;>cases c<;>rfl
end
def j4(k:IntKind)(l:List Nat):List (List Value):=l.map fun (n:Nat) => [Value.int k (n:Int)]
theorem NT(k:IntKind)(l:List Nat):(j4 k l).length=l.length:=by simp [j4]
theorem VV{k:IntKind}{i:Nat}(h:i<l.length):(j4 k l)[i]? = some [Value.int k (l[i]:Int)]:=by
 unfold j4;rw [gY,bp h];rfl
theorem ah7(k:IntKind)(l:List Nat)(n:Nat):j4 k (l.take n)=(j4 k l).take n:=by simp [j4,Nt]
section
variable{P:Program}{w:World}{ops:Array Oper}{rest:List Oper}{o:Oper}{a:Act}{Q:Exit->Act->World->Prop}
theorem ah8{d:TypeDesc}(hT:P.underlying T=some d)(hd:(match d with | .struct _ | .array _ _=>false|_=>true)=true){k:IntKind}(h:Rd w B 1 A (j4 k l)){i:Nat}(hi:i<l.length) :
 ∃ b off,A=some ⟨b,off,none⟩/\b<B/\∀ w',Below B w w'->(loadVar T ⟨b,off+i,none⟩).run P w' = .ok (.int k (l[i]:Int)) w':=by
 obtain⟨b,off,e,aj,hl,hc⟩:=h i _ (VV hi);refine⟨b,off,e,aj,fun w' hb=>Bw hT hd ?_⟩;have h1:=hc 0 _ rfl;simp only [nP,kY] at h1;exact (hb.cell (p:=⟨b,_,none⟩) Bx).trans h1
end
structure bH where
 neg:Bool
 num:Nat
 den:Nat
deriving DecidableEq
abbrev dM:Nat:=115792089237316195423570985008687907853269984665640564039457584007913129639936
def bH.fits(f:bH):Prop:=f.num<dM/\f.den<dM
def bH.right(f:bH):Bool:=decide (f.den≠0)&&decide (Nat.gcd f.num f.den=1) && !(f.neg&&decide (f.num=0))
def fH:bH:=⟨false,0,0⟩
def j5(neg:Bool)(n d:Nat):bH×Int :=
 if n / Nat.gcd n d<dM/\d / Nat.gcd n d<dM then (⟨neg&&decide (n / Nat.gcd n d≠0),n / Nat.gcd n d,d / Nat.gcd n d⟩,0) else (fH,3)
def j6(f:bH):bH:=⟨!f.neg&&decide (f.num≠0),f.num,f.den⟩
def qq(f g:bH):bH×Int :=
 if f.neg=g.neg then j5 f.neg (f.num*g.den+g.num*f.den) (f.den*g.den)
 else if f.num*g.den<g.num*f.den then j5 g.neg (g.num*f.den - f.num*g.den) (f.den*g.den)
 else j5 f.neg (f.num*g.den - g.num*f.den) (f.den*g.den)
def sG(f g:bH):bH×Int:=if f.right&&g.right then qq f g else (fH,2)
def j7(f g:bH):bH×Int:=if f.right&&g.right then qq f (j6 g) else (fH,2)
def mulL(f g:bH):bH×Int:=if f.right&&g.right then j5 (f.neg != g.neg) (f.num*g.num) (f.den*g.den) else (fH,2)
def m7(f g:bH):bH×Int:=if f.right&&g.right&&decide (g.num≠0) then j5 (f.neg != g.neg) (f.num*g.den) (f.den*g.num) else (fH,2)
def fI(a b:Int):bH×Int:=if b=0 then (fH,2) else j5 (decide (a<0) != decide (b<0)) a.natAbs b.natAbs
def iR(n:Int):bH:=⟨decide (n<0),n.natAbs,1⟩
def mo(x y:Nat):Int:=if x<y then -1 else if y<x then 1 else 0
def rG(f g:bH):Int×Int :=
 if f.right&&g.right then
  (if f.neg && !g.neg then -1 else if g.neg && !f.neg then 1 else if f.neg then mo (g.num*f.den) (f.num*g.den) else mo (f.num*g.den) (g.num*f.den),0)
 else (0,2)
theorem ah9(neg:Bool)(n d k:Nat)(hk:0<k):j5 neg (n*k) (d*k)=j5 neg n d:=by
 unfold j5;rw [Nat.gcd_mul_right,ahm _ _ hk,ahm _ _ hk]
theorem DZ(neg:Bool)(n d:Nat):(j5 neg n d).1.fits:=by
 unfold j5;split
 . rename_i h;exact h
 . unfold fH bH.fits;exact⟨by decide,by decide⟩
theorem aia(neg:Bool)(n:Nat)(h:n<dM):j5 neg n 1=(⟨neg&&decide (n≠0),n,1⟩,0):=by
 unfold j5;rw [Nat.gcd_one_right,vL,vL,aw ⟨h,by decide⟩]
theorem jC:fH.fits:=⟨by decide,by decide⟩
theorem xz(a b:Int):(fI a b).1.fits:=by
 unfold fI;split
 . exact jC
 . exact DZ _ _ _
theorem VW(f g:bH):(qq f g).1.fits:=by
 unfold qq;split
 . exact DZ _ _ _
 . split<;>exact DZ _ _ _
theorem aib(f g:bH):(sG f g).1.fits:=by
 unfold sG;split
 . exact VW _ _
 . exact jC
theorem NU(f g:bH):(j7 f g).1.fits:=by
 unfold j7;split
 . exact VW _ _
 . exact jC
theorem aic(f g:bH):(mulL f g).1.fits:=by
 unfold mulL;split
 . exact DZ _ _ _
 . exact jC
theorem NV(f g:bH):(m7 f g).1.fits:=by
 unfold m7;split
 . exact DZ _ _ _
 . exact jC
def ofRat(q:Rat):bH:=⟨decide (q.num<0),q.num.natAbs,q.den⟩
def sH(q:Rat):Prop:=q.num.natAbs<dM/\q.den<dM
instance (q:Rat):Decidable (sH q):=by unfold sH; infer_instance
def xA(q:Rat):bH×Int:=if sH q then (ofRat q,0) else (fH,3)
theorem D1{q:Rat}(h:sH q):xA q=(ofRat q,0):=by unfold xA; rw [aw h]
theorem VX(q:Rat):q=(q.num:Rat) / (q.den:Rat):=by
 have h1:=Rat.num_divInt_den q;rw [Rat.divInt_eq_div,aho] at h1;exact h1.symm
theorem uj(q:Rat):(ofRat q).right=true:=by
 unfold ofRat bH.right;have h1:=q.den_nz;have h2:Nat.gcd q.num.natAbs q.den=1:=q.reduced;simp only [h1,h2,ne_eq,Bk,qm,dL,iG,Vo,fR];omega
theorem zA(neg:Bool)(n d:Nat)(hd:d≠0):j5 neg n d=xA (Rat.normalize (if neg then -(n:Int) else n) d hd):=by
 have e:(if neg then -(n:Int) else (n:Int)).natAbs=n:=by cases neg<;>simp
 have hg:0<Nat.gcd n d:=aw5 _ (HO hd);have hdv:Nat.gcd n d ∣ n:=Nat.gcd_dvd_left n d;rw [Rat.normalize_eq hd];unfold xA sH ofRat j5;simp only [e];generalize Nat.gcd n d=g at *
 obtain⟨m,rfl⟩:=hdv;have h1:g*m / g=m:=Nat.mul_div_cancel_left m hg;have h2:(if neg then -((g*m:Nat):Int) else ((g*m:Nat):Int)) / (g:Int)=if neg then -(m:Int) else m:=by
  have rH:(g:Int)≠0:=oo
  cases neg
  . simp only [dS,dB];rw [Nk,aw7 _ rH]
  . simp only [eH];rw [Nk,<- Int.mul_neg,aw7 _ rH]
 rw [h1,h2];have h3:(if neg then -(m:Int) else (m:Int)).natAbs=m:=by cases neg<;>simp
 rw [h3];split
 . congr 2;cases neg
   . simp
   . by_cases hm:m=0
     . simp [hm]
     . have h4 : -(m:Int)<0:=oo
       simp [hm];omega
 . rfl
theorem aie(q:Rat):j6 (ofRat q)=ofRat (-q):=by
 unfold j6 ofRat;simp only [Rat.neg_num,Rat.neg_den,Int.natAbs_neg,bH.mk.injEq,aS];by_cases h:q.num<0
 . have h2:¬ -q.num<0:=oo
   simp [h];omega
 . by_cases h0:q.num=0
   . simp [h0]
   . have h2 : -q.num<0:=oo
     have h3:q.num.natAbs≠0:=oo
     simp [h,h0];omega
theorem aif(n:Int):iR n=ofRat (n:Rat):=by
 unfold iR ofRat;simp only [Rat.num_intCast,Rat.den_intCast];congr 1
theorem VY(p q:Rat):qq (ofRat p) (ofRat q)=xA (p+q):=by
 have hd:p.den*q.den≠0:=ahE p.den_nz q.den_nz;rw [Rat.add_def];unfold qq ofRat;simp only;have ep:p.num=if p.num<0 then -(p.num.natAbs:Int) else (p.num.natAbs:Int):=by split<;>omega
 have eq:q.num=if q.num<0 then -(q.num.natAbs:Int) else (q.num.natAbs:Int):=by split<;>omega
 generalize p.num.natAbs=a at *
 generalize q.num.natAbs=b at *
 by_cases h1:p.num<0<;>by_cases h2:q.num<0
 . simp only [h1,h2,qm,eH] at *
   rw [zA _ _ _ hd];congr 2;rw [ep,eq];simp only [eH];push_cast;grind
 . simp only [h1,h2,qm,tZ,eH,dB,Vs] at *
   split
   . exact VZ
   . exact V0
 . simp only [h1,h2,qm,tZ,eH,dB,dS] at *
   split
   . exact V0
   . exact VZ
 . simp only [h1,h2,tZ,eH,dB] at *
   rw [zA _ _ _ hd];congr 2;rw [ep,eq];simp only [dS,dB];push_cast;grind
theorem aih(p q:Rat):mulL (ofRat p) (ofRat q)=xA (p*q):=by
 have hd:p.den*q.den≠0:=ahE p.den_nz q.den_nz;rw [Rat.mul_def];unfold mulL;rw [uj,uj];simp only [zs,eH];unfold ofRat;simp only;rw [zA _ _ _ hd];have ep:p.num=if p.num<0 then -(p.num.natAbs:Int) else (p.num.natAbs:Int):=by split<;>omega
 have eq:q.num=if q.num<0 then -(q.num.natAbs:Int) else (q.num.natAbs:Int):=by split<;>omega
 generalize p.num.natAbs=a at *
 generalize q.num.natAbs=b at *
 congr 2;by_cases h1:p.num<0<;>by_cases h2:q.num<0<;>simp [h1,h2] at ep eq ⊢ <;> rw [ep,eq]<;>push_cast<;>grind
theorem V1(s t:Bool)(a b c d:Nat)(hb:b≠0)(hc:c≠0)(hd:d≠0) :
 (((if (s != t)=true then -((a*d:Nat):Int) else ((a*d:Nat):Int):Int)):Rat) / ((c*b:Nat):Rat)=(((if s=true then -(a:Int) else (a:Int):Int)):Rat) / (c:Rat) / ((((if t=true then -(b:Int) else (b:Int):Int)):Rat) / (d:Rat)):=by
 have aW:(b:Rat)≠0:=by simpa using hb
 have BE:(c:Rat)≠0:=by simpa using hc
 have pD:(d:Rat)≠0:=by simpa using hd
 cases s<;>cases t<;>simp only [H5,dS,dB,eH,Bool.true_bne,Bool.false_bne,Ns,Rat.intCast_neg,aho,Rat.natCast_mul]<;>grind
theorem Ik(n:Int):n=if (decide (n<0))=true then -(n.natAbs:Int) else (n.natAbs:Int):=by
 by_cases h:n<0
 . simp only [h,qm,eH]; omega
 . simp only [h,tZ,dS,dB]; omega
theorem aii(p q:Rat)(hq:q≠0):m7 (ofRat p) (ofRat q)=xA (p / q):=by
 have D2:q.num≠0:=fun h=>hq (Rat.num_eq_zero.1 h);have hn:q.num.natAbs≠0:=oo
 have hd:p.den*q.num.natAbs≠0:=ahE p.den_nz hn;unfold m7;rw [uj,uj];have h0:decide ((ofRat q).num≠0)=true:=by unfold ofRat; simpa using D2
 rw [h0];simp only [zs,eH];unfold ofRat;simp only;rw [zA _ _ _ hd];congr 1;rw [ahj,ahy,V1 _ _ _ _ _ _ hn p.den_nz q.den_nz,<- Ik,<- Ik,<- VX,<- VX]
theorem aij(a b:Int)(hb:b≠0):fI a b=xA ((a:Rat) / (b:Rat)):=by
 unfold fI;rw [ar hb,zA _ _ _ oo];congr 1;have h:=V1 (decide (a<0)) (decide (b<0)) a.natAbs b.natAbs 1 1 oo oo oo;rw [<- Ik,<- Ik] at h;simp only [nP,Nat.one_mul] at h;rw [ahj,ahy,h];have e1:((1:Nat):Rat)=1:=rfl;rw [e1];grind
theorem aik(p q:Rat):rG (ofRat p) (ofRat q)=(if p<q then -1 else if q<p then 1 else 0,0):=by
 unfold rG;rw [uj,uj];simp only [zs,eH,rz,aS,Rat.lt_iff];unfold ofRat mo;simp only;have ep:p.num=if p.num<0 then -(p.num.natAbs:Int) else (p.num.natAbs:Int):=by split<;>omega
 have eq:q.num=if q.num<0 then -(q.num.natAbs:Int) else (q.num.natAbs:Int):=by split<;>omega
 have hpd:=HO p.den_nz;have hqd:=HO q.den_nz;have hpn:p.num<0->0<p.num.natAbs:=oo
 have hqn:q.num<0->0<q.num.natAbs:=oo
 generalize p.num.natAbs=a at *
 generalize q.num.natAbs=b at *
 generalize p.den=c at *
 generalize q.den=d at *
 have h1:∀ x y:Nat,((x:Int)*(y:Int))=((x*y:Nat):Int):=fun x y=>by push_cast; rfl
 have m1:0<=(a:Int)*(d:Int):=by rw [h1]; omega
 have m2:0<=(b:Int)*(c:Int):=by rw [h1]; omega
 by_cases hp:p.num<0<;>by_cases hq:q.num<0<;>simp only [hp,hq,eH,dB,qm,tZ,gA,Ns,ga,tY,dS] at ep eq ⊢ <;> rw [ep,eq]
 . rw [Ia,Ia,h1,h1];split<;>split<;>(try split)<;>(try split)<;>omega
 . have h2:0<(a:Int)*(d:Int):=sF (by have:=hpn hp; omega) oo;rw [Ia];rw [aw oo]
 . have h2:0<(b:Int)*(c:Int):=sF (by have:=hqn hq; omega) oo;rw [Ia];rw [ar oo,aw oo]
 . rw [h1,h1];split<;>split<;>(try split)<;>(try split)<;>omega
open Go.RowKit
abbrev ae:Nat:=4294967296
abbrev B16:Nat:=65536
theorem bW:2<=ae:=by decide
abbrev aL(x:Nat):Nat:=(bf ae x).length
abbrev NW(w:World)(A:Option Addr)(x:Nat):Prop:=Rd w w.heap.size 1 A (j4 .u32 (bf ae x))
theorem Rd.from{size:Nat}(h:Rd w w.heap.size size A css)(hb:cU w w'):Rd w' w'.heap.size size A css:=(h.below hb (az _)).more hb.size
theorem aio:(Tryz.prog.info? 52).map (fun i=>(i.zero,i.size,i.bytes))=some (some (.int .u32 0),1,4):=by kernel_rfl
theorem aip(hB:2<=B)(hl:di B l):bf B (bJ B l)=l.take (bf B (bJ B l)).length:=by
 have h:=ah5 hB (k:=l.length) (uc l hl);rw [By oo l hl] at h;exact h
theorem V2(hB:2<=B){k:IntKind}(h:Rd w N 1 A (j4 k l))(hl:di B l):Rd w N 1 A (j4 k (bf B (bJ B l))):=by
 rw [aip hB hl,ah7];exact h.take _
theorem wrap_u64{n:Int}(h0:0<=n)(h:n<18446744073709551616):IntKind.u64.wrap n=n:=by
 unfold IntKind.wrap;simp [IntKind.bits,IntKind.signed];omega
theorem wrap_u32(n:Nat):IntKind.u32.wrap (n:Int)=((n % 4294967296:Nat):Int):=by
 unfold IntKind.wrap;simp [IntKind.bits,IntKind.signed]
theorem wrap_i64{n:Int}(h1 : -9223372036854775808<=n)(h2:n<=9223372036854775807):IntKind.i64.wrap n=n:=by
 unfold IntKind.wrap;simp [IntKind.bits,IntKind.signed];split<;>omega
def bH.cells(f:bH):List Value := [.bool f.neg]++((pad ae 8 f.num).map fun (n:Nat)=>Value.int .u32 (n:Int))++((pad ae 8 f.den).map fun (n:Nat)=>Value.int .u32 (n:Int))
def bH.val(f:bH):Value := .agg f.cells.toArray
theorem bH.aiq(f:bH){i:Nat}(h:i<8):f.cells[1+i]? = some (.int .u32 ((pad ae 8 f.num)[i]'(by rw [eI]; exact h):Nat)):=by
 unfold bH.cells;rw [gv,rq (by simp),qh (by simp [eI]; omega)];simp [eI,h]
theorem bH.air(f:bH){i:Nat}(h:i<8):f.cells[9+i]? = some (.int .u32 ((pad ae 8 f.den)[i]'(by rw [eI]; exact h):Nat)):=by
 unfold bH.cells;rw [gv,rq (by simp only [c9,fE]; omega),rq (by simp only [iQ,eI,c9,fE]; omega)];have e:9+i - [Value.bool f.neg].length - ((pad ae 8 f.num).map fun (n:Nat)=>Value.int .u32 (n:Int)).length=i:=by simp only [iQ,eI,c9,fE]; omega
 rw [e];simp [eI,h]
theorem D3:ae^8=dM:=by decide
theorem Il{f:bH}(h:w.heap[g]? = some (.cells f.cells.toArray 71 (0,0))) :
 Rd w w.heap.size 1 (some ⟨g,1,none⟩) (j4 .u32 (pad ae 8 f.num))/\Rd w w.heap.size 1 (some ⟨g,9,none⟩) (j4 .u32 (pad ae 8 f.den)):=by
 have aj:=(jz.1 h).1;constructor
 . intro i cs hi;unfold j4 at hi;rw [gY] at hi;obtain⟨n,hn,rfl⟩:=kV.1 hi;have xB:i<8:=by have:=(cM.1 hn).1; rwa [eI] at this
   refine⟨g,1,rfl,aj,rfl,fun j u hu => ?_⟩
   match j,hu with
   | 0,hu =>
    simp at hu;subst hu;rw [zt w g _ _ _ _ h];simp only [nP,kY,Dy];rw [f.aiq xB];exact V3
 . intro i cs hi;unfold j4 at hi;rw [gY] at hi;obtain⟨n,hn,rfl⟩:=kV.1 hi;have xB:i<8:=by have:=(cM.1 hn).1; rwa [eI] at this
   refine⟨g,9,rfl,aj,rfl,fun j u hu => ?_⟩
   match j,hu with
   | 0,hu =>
    simp at hu;subst hu;rw [zt w g _ _ _ _ h];simp only [nP,kY,Dy];rw [f.air xB];exact V3
theorem NX(hl:di B l)(h:l.length=k+1):bJ B l=bJ B (l.take k)+B^k*l.getD k 0/\bJ B (l.take k)<B^k:=by
 have h1:=VN B l k;rw [lL oo] at h1;have h2:=uc (l.take k) (hl.take k);rw [DB oo] at h2;exact⟨h1,h2⟩
theorem ais(hl:di B l)(h:l.length=k+2):bJ B l=bJ B (l.take k)+B^k*(l.getD k 0+B*l.getD (k+1) 0)/\bJ B (l.take k)<B^k:=by
 have h1:=(NX hl (k:=k+1) h).1;have h2:=VN B l k;have h3:=uc (l.take k) (hl.take k);rw [DB oo] at h3;refine⟨?_,h3⟩;rw [h1,h2,kx];grind
theorem NY(h:aL y=k+1):(bf ae y).getD k 0≠0:=by
 refine ahV bW (n:=y) ?_;have h':(bf ae y).length=k+1:=h;rw [aw3,h'];simp [List.getD,h']
theorem ait(h:aL y=k+1)(D4:yt=(bf ae y).getD k 0)(hs:s=ae / (yt+1)):0<s/\s<ae/\aL (y*s)=k+1:=by
 have h0:=NY h;rw [<- D4] at h0;have hd:=di.bf bW y;have aj:yt<ae:=by rw [D4]; exact hd.getD (by decide) k
 have uk:=NX hd h;rw [ue bW,<- D4] at uk;have nT:0<s:=by rw [hs]; exact Nat.div_pos oo oo
 have hm:s*(yt+1)<=ae:=by rw [hs]; exact Nat.div_mul_le_self _ _
 have nU:s<ae:=by
  have h1:s*2<=s*(yt+1):=tT _ oo;omega
 refine⟨nT,nU,?_⟩;have hB:ae^(k+1)=ae^k*ae:=kx ..;have D5:y<ae^k*(yt+1):=by
  rw [ua,nP];omega
 have h3:y*s<ae^(k+1):=by
  have h4:y*s<ae^k*(yt+1)*s:=MZ D5 nT;have h5:ae^k*(yt+1)*s=ae^k*(s*(yt+1)):=by grind
  have h6:ae^k*(s*(yt+1))<=ae^k*ae:=tT _ hm;rw [hB];omega
 have h7:ae^k<=y:=(DT bW).1 (show k<aL y from oo);have h8:y*1<=y*s:=tT _ nT;have h9:k<aL (y*s):=(DT bW).2 oo;have oO:=uf bW h3;have:aL (y*s)<=k+1:=oO;omega
theorem aiu(hu:di ae u)(D6:u.length=n+1)(rI:aL V=n)(hn:0<n)(zx:vt=(bf ae V).getD (n - 1) 0)(aj:bJ ae u<V*ae)(hg:g=min ((u.getD n 0*4294967296+u.getD (n - 1) 0) / vt) 4294967295):bJ ae u / V<=g:=by
 obtain⟨k,rfl⟩:∃ k,n=k+1:=⟨n - 1,oo⟩
 simp only [vH] at zx hg;have h0:=NY rI;rw [<- zx] at h0;obtain⟨rJ,_⟩:=NX (di.bf bW V) (k:=k) rI;rw [ue bW,<- zx] at rJ;obtain⟨V4,NZ⟩:=ais hu (k:=k) oo;have jh:0<V:=by
  have:0<ae^k*vt:=zu (Nat.pow_pos (by decide)) oo;omega
 have h1:=ah3 (B:=ae) (n:=k) (by decide) rJ V4 NZ oo;have hB:ae=4294967296:=rfl;have e:u.getD k 0+ae*u.getD (k+1) 0=u.getD (k+1) 0*4294967296+u.getD k 0:=by rw [hB]; omega
 rw [e] at h1;have h2:bJ ae u / V<ae:=by
  rw [HH jh,lN]; exact aj
 rw [hg];omega
end Go.Proofs.YtlpikgchnjajmaaGreat
