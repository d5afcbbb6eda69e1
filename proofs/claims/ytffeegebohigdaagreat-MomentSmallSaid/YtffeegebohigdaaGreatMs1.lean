/-
  What a slice of rows of cells reads as, what a call owns, and the laws on append for them; over any program.
-/
import Derived.WalkKit
import Derived.WalkSpells
import Derived.WalkLawsBesides
import Derived.BigQuiet
import Derived.Deep.QuietTactic
import Derived.Deep.LoopGhost
import Derived.Deep.Slices
import Derived.Maps.AppendAt
import Derived.Lib.Hide
import Derived.Test.YtffeegebohigdaaGreatRows
set_option linter.unusedVariables false
set_option linter.unusedSimpArgs false
namespace Go.Proofs.YtffeegebohigdaaGreat
open Go.RowKit
def Rd (w:World) (B size:Nat) (A:Option Addr) (css:List (List Value)):Prop :=
 ∀ k cs,css[k]? = some cs->∃ b off,A=some ⟨b,off,none⟩/\b<B/\cs.length=size/\∀ j u,cs[j]? = some u->w.cell? ⟨b,off+k*size+j,none⟩=some u
theorem Rd.nil (w:World) (B size:Nat) (A:Option Addr):Rd w B size A []:=by intro k cs h; simp at h
theorem Rd.below {w w':World} {B B' size:Nat} {A:Option Addr} {css:List (List Value)} (h:Rd w B size A css) (hb:Below B' w w') (hB:B<=B'):Rd w' B size A css:=by
 intro k cs hk;obtain⟨b,off,e,hlt,hl,hc⟩:=h k cs hk;exact⟨b,off,e,hlt,hl,fun j u hu=>(hb.cell (p:=⟨b,_,none⟩) (by simp; omega)).trans (hc j u hu)⟩
theorem Rd.more {w:World} {B B' size:Nat} {A:Option Addr} {css:List (List Value)} (h:Rd w B size A css) (hB:B<=B'):Rd w B' size A css:=by
 intro k cs hk;obtain⟨b,off,e,hlt,hl,hc⟩:=h k cs hk;exact⟨b,off,e,by omega,hl,hc⟩
theorem Rd.pre {w:World} {B size:Nat} {A:Option Addr} {css ds:List (List Value)} (h:Rd w B size A (css++ds)):Rd w B size A css:=by
 intro k cs hk;exact h k cs (by rw [List.getElem?_append_left (List.getElem?_eq_some_iff.1 hk).1]; exact hk)
theorem Rd.take {w:World} {B size:Nat} {A:Option Addr} {css:List (List Value)} (h:Rd w B size A css) (n:Nat):Rd w B size A (css.take n):=by
 rw [<- List.take_append_drop n css] at h;exact h.pre
theorem Qac {size:Nat}:∀ (css:List (List Value)),(∀ cs∈css,cs.length=size)->∀ k j,j<size->css.flatten[k*size+j]? = css[k]?.bind (·[j]?)
 | [],_,k,j,_=>by simp
 | cs::css,h,0,j,hj=>by
  have hl:=h cs (by simp);simp only [List.flatten_cons,Nat.zero_mul,Nat.zero_add,List.getElem?_cons_zero,Option.bind_some];rw [List.getElem?_append_left (by omega)]
 | cs::css,h,k+1,j,hj=>by
  have hl:=h cs (by simp);have ih:=Qac css (fun c hc=>h c (by simp [hc])) k j hj;simp only [List.flatten_cons,List.getElem?_cons_succ];rw [List.getElem?_append_right (by rw [hl,Nat.succ_mul]; omega),hl,<- ih];congr 1;rw [Nat.succ_mul]; omega
theorem J0 {size:Nat}:∀ (css:List (List Value)),(∀ cs∈css,cs.length=size)->css.flatten.length=css.length*size
 | [],_=>by simp
 | cs::css,h=>by
  have hl:=h cs (by simp);have ih:=J0 css (fun c hc=>h c (by simp [hc]));simp only [List.flatten_cons,List.length_append,List.length_cons,ih,hl,Nat.succ_mul];omega
theorem Rd.len {w:World} {B size:Nat} {A:Option Addr} {css:List (List Value)} (h:Rd w B size A css):∀ cs∈css,cs.length=size:=by
 intro cs hc;obtain⟨k,hk,e⟩:=List.mem_iff_getElem.1 hc;obtain⟨_,_,_,_,hl,_⟩:=h k cs (by rw [List.getElem?_eq_getElem hk,e]);exact hl
theorem Rd.flat {w:World} {B size:Nat} {A:Option Addr} {css:List (List Value)} (h:Rd w B size A css):∀ j u,css.flatten[j]? = some u->∃ ad,A=some ad/\w.cell? (ad.add j)=some u:=by
 intro j u hu;rcases Nat.eq_zero_or_pos size with h0|h0
 . subst h0;have:=J0 css h.len;rw [Nat.mul_zero] at this;rw [List.eq_nil_of_length_eq_zero this] at hu;simp at hu
 . have e:j=j / size*size+j % size:=by rw [Nat.mul_comm]; exact (Nat.div_add_mod j size).symm
   rw [e,Qac css h.len _ _ (Nat.mod_lt _ h0)] at hu;obtain⟨cs,hcs,hju⟩:=Option.bind_eq_some_iff.1 hu;obtain⟨b,off,hA,_,_,hc⟩:=h _ cs hcs;refine⟨_,hA,?_⟩;rw [Addr.add_lit];have:=hc _ _ hju;rw [Nat.add_assoc,<- e] at this;exact this
def EI (P:Program) (t e size bytes:Nat):Prop :=
 P.underlying t=some (.slice e)/\∃ i z,P.info? e=some i/\i.zero=some z/\i.size=size/\i.bytes=bytes/\z.cells.size=size/\0<size
theorem EI.mk {P:Program} {t e size bytes:Nat} {z:Value} (ht:P.underlying t=some (.slice e)) (h:(P.info? e).map (fun i=>(i.zero,i.size,i.bytes))=some (some z,size,bytes)) (hz:z.cells.size=size) (hs:0<size):EI P t e size bytes:=by
 obtain⟨i,h1,h2,h3,h4⟩:=info_parts h;exact⟨ht,i,z,h1,h2,h3,h4,hz,hs⟩
def Z1 (w:World) (base e size:Nat) (A:Option Addr) (c:Nat) (css:List (List Value)):Prop :=
 w.ownsRow base e size (.slice A css.length c) css.length css.flatten/\∀ cs∈css,cs.length=size
section
variable {w w':World} {base e size c:Nat} {A:Option Addr} {css:List (List Value)}
theorem Z1.nil (w:World) (base e size:Nat):Z1 w base e size none 0 []:=⟨World.ownsRow_nil w base e size,by simp⟩
theorem Z1.of {v:Value} {n:Nat} (h:w.ownsRow base e size v n css.flatten) (hn:n=css.length) (hl:∀ cs∈css,cs.length=size):∃ A c,v = .slice A css.length c/\Z1 w base e size A c css:=by
 subst hn;rcases h.2 with ⟨rfl,h0⟩|⟨g,cap,cur,rfl,r⟩
 . have hc:css = []:=List.eq_nil_of_length_eq_zero h0;subst hc;exact⟨none,0,rfl,Z1.nil _ _ _ _⟩
 . exact⟨_,_,rfl,h,hl⟩
theorem Z1.lt (h:Z1 w base e size A c css) {a:Addr} (ha:A=some a):base<=a.block/\a.block<w.heap.size:=by
 subst ha;exact h.1.lt a.block rfl
theorem Z1.cap (h:Z1 w base e size A c css):css.length<=c/\c<=maxLen:=by
 rcases h.1.2 with ⟨h1,h2⟩|⟨g,cap,cur,h1,_,_,h2,h3,_⟩
 . injection h1 with _ h3 h4;exact⟨by omega,by rw [h4]; exact Nat.zero_le _⟩
 . simp at h1;rw [h1.2];exact⟨h2,h3⟩
theorem Z1.rd (h:Z1 w base e size A c css):Rd w w.heap.size size A css:=by
 intro k cs hk;have hkl:=(List.getElem?_eq_some_iff.1 hk).1;rcases h.1.2 with ⟨h1,h2⟩|⟨g,cap,cur,h1,_,hg,_,_,_,htake⟩
 . omega
 . simp at h1;obtain⟨rfl,rfl⟩:=h1;have hlen:cs.length=size:=h.2 cs (List.mem_of_getElem? hk);refine⟨g,0,rfl,(Array.getElem?_eq_some_iff.1 hg).1,hlen,fun j u hu => ?_⟩;have hj:j<size:=by rw [<- hlen]; exact (List.getElem?_eq_some_iff.1 hu).1
   have hf:css.flatten[k*size+j]? = some u:=by rw [Qac css h.2 k j hj,hk]; exact hu
   have:=h.1.cells (g:=g) rfl _ _ hf;rw [Addr.add_lit] at this;rw [Nat.add_assoc];exact this
theorem Z1.block (h:Z1 w base e size A c css):(A=none/\c=0/\css = [])\/∃ g cur,A=some ⟨g,0,none⟩/\base<=g/\w.heap[g]? = some (.cells cur e (0,0))/\cur.size=c*size:=by
 rcases h.1.2 with ⟨h1,h2⟩|⟨g,cap,cur,h1,hb,hg,_,_,hs,_⟩
 . injection h1 with h3 _ h4;exact .inl ⟨h3,h4,List.eq_nil_of_length_eq_zero h2⟩
 . simp at h1;obtain⟨rfl,rfl⟩:=h1;exact .inr ⟨g,cur,rfl,hb,hg,hs⟩
theorem Z1.keep (h:Z1 w base e size A c css) (hk:∀ a,A=some a->w'.heap[a.block]? = w.heap[a.block]?):Z1 w' base e size A c css:=by
 refine⟨⟨h.1.1,?_⟩,h.2⟩;rcases h.1.2 with h1|⟨g,cap,cur,h1,hb,hg,r⟩
 . exact .inl h1
 . refine .inr ⟨g,cap,cur,h1,hb,?_,r⟩;simp at h1;rw [hk _ h1.1];exact hg
theorem Z1.base_le {b:Nat} (h:Z1 w base e size A c css) (hb:b<=base):Z1 w b e size A c css:=by
 refine⟨⟨h.1.1,?_⟩,h.2⟩;rcases h.1.2 with h1|⟨g,cap,cur,h1,hg,r⟩
 . exact .inl h1
 . exact .inr ⟨g,cap,cur,h1,by omega,r⟩
end
section
variable {P:Program} {w:World} {ops:Array Oper} {rest:List Oper} {o:Oper} {a:Act} {Q:Exit->Act->World->Prop}
theorem Qei {t e size bytes base c m cn ty:Nat} {A X:Option Addr} {css news:List (List Value)} (hE:EI P t e size bytes) (hown:Z1 w base e size A c css) (B:Nat) (hr:Rd w B size X news) (hm:m=news.length)
 (h1:∀ cs∈news,∀ u∈cs,u.oneCell'=true) (h63:css.length+m<=maxLen) (hbytes:(css.length+m)*bytes<=140737488355328) (hbase:base<=w.heap.size) :
 ∃ A' c' w',(Builtin.append_ #[t,t] ty #[.slice A css.length c,.slice X m cn]).run P w = .ok (.slice A' (css++news).length c') w'/\Z1 w' base e size A' c' (css++news)/\w.grownBy w' (Value.ownBlock (.slice A css.length c))/\Below base w w':=by
 subst hm;obtain⟨ht,i,z,hi,hz,hs,hb,hzs,h0⟩:=hE;have hlen:∀ cs∈css++news,cs.length=size:=fun cs hc=>by
  rcases List.mem_append.1 hc with h|h
  . exact hown.2 cs h
  . exact hr.len cs h
 have fin:∀ v' w',w'.ownsRow base e size v' (css.length+news.length) (css.flatten++news.flatten)->w.grownBy w' (Value.ownBlock (.slice A css.length c))->(Builtin.append_ #[t,t] ty #[.slice A css.length c,.slice X news.length cn]).run P w = .ok v' w' ->
  ∃ A' c' w',(Builtin.append_ #[t,t] ty #[.slice A css.length c,.slice X news.length cn]).run P w = .ok (.slice A' (css++news).length c') w'/\Z1 w' base e size A' c' (css++news)/\w.grownBy w' (Value.ownBlock (.slice A css.length c))/\Below base w w':=by
  intro v' w' h2 h3 hrun;obtain⟨A',c',rfl,h4⟩:=Z1.of (css:=css++news) (by rw [List.flatten_append]; exact h2) (by simp) hlen;exact⟨A',c',w',hrun,h4,h3,(Below.refl _ _).grown h3 hbase (fun k hk=>(hown.1.lt k hk).1)⟩
 rcases X with _|ad
 . have hn:news = []:=by
    rcases news with _|⟨x,l⟩
    . rfl
    . obtain⟨_,_,h,_⟩:=hr 0 x rfl;cases h
   subst hn;refine fin (.slice A css.length c) w (by simpa using hown.1) (World.grownBy.refl w _) ?_;rcases hown.1.2 with ⟨h2,h3⟩|⟨g,cap,cur,h2,_,_,hnc,_⟩
   . rw [h2];simp [Builtin.append_,run_underlying ht,sizeOf,typeInfo,hi,Builtin.lenOf,Builtin.firstCells]
   . rw [h2];simp [Builtin.append_,run_underlying ht,sizeOf,typeInfo,hi,Builtin.lenOf,Builtin.firstCells,hnc,storeCells]
 . obtain⟨v',w',hrun,h2,h3,_,_⟩:=run_append_own_at (P:=P) w base t ty e i z size bytes ht hi hz hs hb hzs h0 _ css.length css.flatten hown.1 ad news.length cn news.flatten (J0 news hr.len)
    (fun j u hu=>by obtain⟨ad',h,hc⟩:=hr.flat j u hu; injection h with h; rw [h]; exact hc)
    (fun u hu=>by obtain⟨cs,hcs,hu'⟩:=List.mem_flatten.1 hu; exact h1 cs hcs u hu') h63 hbytes hbase
   exact fin v' w' h2 h3 hrun
theorem Qh2 {t e size bytes base c m cn:Nat} {A X:Option Addr} {css news:List (List Value)} (hgd:o.guard=none) (s x:Operand)
 (ho:o.op = .call { callee := .builtin .append,args := #[s,x],argTypes := #[t,t] })
 (hE:EI P t e size bytes) (hs:a.eval s = .slice A css.length c) (hown:Z1 w base e size A c css) (hx:a.eval x = .slice X m cn) (B:Nat) (hr:Rd w B size X news) (hm:m=news.length)
 (h1:∀ cs∈news,∀ u∈cs,u.oneCell'=true) (h63:css.length+m<=maxLen) (hbytes:(css.length+m)*bytes<=140737488355328) (hbase:base<=w.heap.size)
 (h:∀ A' c' w',Z1 w' base e size A' c' (css++news)->w.grownBy w' (Value.ownBlock (.slice A css.length c))->Below base w w'->wpList P ops Q rest (a.put o.dst (.slice A' (css++news).length c')) w'):wpList P ops Q (o::rest) a w:=by
 obtain⟨A',c',w',hrun,h2,h3,h4⟩:=Qei (P:=P) (ty:=o.type) (cn:=cn) hE hown B hr hm h1 h63 hbytes hbase;refine wpList_plain hgd fun K hK => ?_;unfold Oper.wp execOp;simp only [ho,resolve,invoke,builtin,Sem.run_bind,Sem.run_pure,Result.andThen_ok,List.map_toArray,List.map_cons,List.map_nil,hs,hx,hrun];exact hK _ _ (h A' c' w' h2 h3 h4)
theorem Rd.one {w:World} {g size t:Nat} {cs:List Value} {fr:Nat×Nat} (hg:w.heap[g]? = some (.cells cs.toArray t fr)) (hl:cs.length=size):Rd w w.heap.size size (some ⟨g,0,none⟩) [cs]:=by
 intro k ds hk
 match k,hk with
 | 0,hk =>
  simp at hk;subst hk;refine⟨g,0,rfl,(Array.getElem?_eq_some_iff.1 hg).1,hl,fun j u hu => ?_⟩;rw [cell_of_row w g _ cs.toArray t fr hg];simpa using hu
theorem Rd.new2 (w:World) (t size:Nat) (cs:List Value) (hl:cs.length=size):Rd (w.alloc (.cells cs.toArray t)) (w.alloc (.cells cs.toArray t)).heap.size size (some ⟨w.heap.size,0,none⟩) [cs] :=
 Rd.one (w:=w.alloc (.cells cs.toArray t)) (heap_alloc_new w _) hl
end
def Q3k (P:Program) (T n:Nat):Prop:=∃ d,P.underlying T=some d/\(match d with | .struct _ | .array _ _=>true|_=>false)=true/\(P.info? T).map (·.size)=some n
theorem Q45 {P:Program} {w:World} {T n:Nat} {ad:Addr} {cs:List Value} (hT:Q3k P T n) (hn:cs.length=n) (h:∀ j u,cs[j]? = some u->w.cell? (ad.add j)=some u) :
 (loadVar T ad).run P w = .ok (.agg cs.toArray) w:=by
 obtain⟨d,hu,hd,hi⟩:=hT;subst hn;have hl:(loadCells ad cs.length).run P w = .ok cs.toArray w:=run_loadCells_list (P:=P) w ad cs h
 cases hq:P.info? T with
 | none=>simp [hq] at hi
 | some i =>
  have hs:i.size=cs.length:=by simpa [hq] using hi
  have hagg:(isAgg T).run P w = .ok true w:=by
   unfold isAgg;rw [Sem.run_bind,run_underlying hu w];cases d<;>simp_all
  simp [loadVar,Sem.run_bind,hagg,sizeOf,typeInfo,hq,hs,hl]
theorem Gc {P:Program} {w:World} {T:Nat} {d:TypeDesc} {ad:Addr} {v:Value} (hT:P.underlying T=some d) (hd:(match d with | .struct _ | .array _ _=>false|_=>true)=true) (h:w.cell? ad=some v):(loadVar T ad).run P w = .ok v w:=by
 have hagg:(isAgg T).run P w = .ok false w:=by
  unfold isAgg;rw [Sem.run_bind,run_underlying hT w];cases d<;>simp_all
 simp [loadVar,Sem.run_bind,hagg,h]
theorem Rd.ld {P:Program} {T size:Nat} (hT:Q3k P T size) {w:World} {B:Nat} {A:Option Addr} {css:List (List Value)} (h:Rd w B size A css) {k:Nat} {cs:List Value} (hk:css[k]? = some cs) :
 ∃ b off,A=some ⟨b,off,none⟩/\b<B/\∀ w',Below B w w'->(loadVar T ⟨b,off+k*size,none⟩).run P w' = .ok (.agg cs.toArray) w':=by
 obtain⟨b,off,e,hlt,hl,hc⟩:=h k cs hk;refine⟨b,off,e,hlt,fun w' hb=>Q45 hT hl fun j u hu => ?_⟩;rw [Addr.add_lit];exact (hb.cell (p:=⟨b,_,none⟩) (by simpa using hlt)).trans (hc j u hu)
section
variable {P:Program} {w:World} {ops:Array Oper} {rest:List Oper} {o:Oper} {a:Act} {Q:Exit->Act->World->Prop} {C:World->Prop} {K:Act->Prop}
theorem Q9 (hgd:o.guard=none) (T:Nat) (x:Operand) (ho:o.op = .load T x) (ad:Addr) (hx:a.eval x = .pointer (some ad)) (v:Value) (hld:(loadVar T ad).run P w = .ok v w)
 (h:wpList P ops Q rest (a.put o.dst v) w):wpList P ops Q (o::rest) a w:=by
 refine wpList_plain hgd fun K hK => ?_;unfold Oper.wp execOp;simp only [ho,hx,Instr.loadAt,Instr.sureAddr,Sem.run_bind,Sem.run_pure,Result.andThen_ok,hld];exact hK _ _ h
theorem Q1o (hw:Region.wanted o (yielded ops a.tmps)=true) (T:Nat) (x:Operand) (ho:o.op = .load T x) (ad:Addr) (hx:a.eval x = .pointer (some ad)) (v:Value) (hld:(loadVar T ad).run P w = .ok v w)
 (h:wpList P ops Q rest (a.put o.dst v) w):wpList P ops Q (o::rest) a w:=by
 refine wpList_step fun K hK => ?_;rw [if_pos hw];unfold Oper.wp execOp;simp only [ho,hx,Instr.loadAt,Instr.sureAddr,Sem.run_bind,Sem.run_pure,Result.andThen_ok,hld];exact hK _ _ h
theorem Q3m {P:Program} {w:World} {T n g off t:Nat} {cur:Array Value} {v:Value} {cs:List Value} (hi:(P.info? T).map (·.size)=some n) (hv:v.cells.toList=cs) (hn:cs.length=n)
 (hg:w.heap[g]? = some (.cells cur t (0,0))) (hfit:off+n<=cur.size) (h1:∀ u∈cs,u.oneCell'=true) :
 (storeVar T ⟨g,off,none⟩ v).run P w = .ok () (w.setRow g (cur.toList.take off++cs++cur.toList.drop (off+n)).toArray):=by
 subst hv
 cases hq:P.info? T with
 | none=>simp [hq] at hi
 | some i =>
  have hs:i.size=n:=by simpa [hq] using hi
  have hst:=run_storeCells_at P g off t v.cells.toList 0 cur w hg (by simp only [Nat.add_zero]; omega) h1;simp only [Nat.add_zero] at hst;have hsz:v.cells.size=n:=by simpa using hn
  unfold storeVar;simp only [Sem.run_bind,sizeOf,typeInfo,run_program,hq,Sem.run_pure,Result.andThen_ok,hs,hsz,ne_eq,not_true_eq_false,if_false];rw [hst,hn]
theorem Q37 {T n g off t:Nat} {cur:Array Value} {v:Value} {cs:List Value} (hgd:o.guard=none) (x y:Operand) (ho:o.op = .store T x y) (hx:a.eval x = .pointer (some ⟨g,off,none⟩)) (hy:a.eval y=v)
 (hi:(P.info? T).map (·.size)=some n) (hv:v.cells.toList=cs) (hn:cs.length=n) (hg:w.heap[g]? = some (.cells cur t (0,0))) (hfit:off+n<=cur.size) (h1:∀ u∈cs,u.oneCell'=true)
 (h:∀ (cur':Array Value) w',cur'.toList=cur.toList.take off++cs++cur.toList.drop (off+n)->cur'.size=cur.size->w'.heap[g]? = some (.cells cur' t (0,0))->w.grownBy w' (some g)->wpList P ops Q rest (a.put o.dst undef) w') :
 wpList P ops Q (o::rest) a w:=by
 have hr:=Q3m (P:=P) hi hv hn hg hfit h1;refine wpList_plain hgd fun K hK => ?_;unfold Oper.wp execOp;simp only [ho,hx,hy,Instr.storeAt,Instr.sureAddr,Sem.run_bind,Sem.run_pure,Result.andThen_ok,hr];refine hK _ _ (h _ _ rfl ?_ (setRow_heap w g cur _ t _ hg) ⟨rfl,rfl,rfl,by simp,fun k _ hk=>setRow_other w g k _ (fun e=>hk (by simp [e]))⟩);simp only [List.size_toArray,List.length_append,List.length_take,List.length_drop,Array.length_toList];omega
theorem Qi3 (T:Nat) (x:Operand) (ho:o.op = .load T x) (ad:Addr) (hx:a.eval x = .pointer (some ad)) (v:Value) (hld:∀ w',C w'->(loadVar T ad).run P w' = .ok v w')
 (hk:K (a.put o.dst v)):o.quiet P a C K:=by
 refine⟨v,fun w' hC => ?_,hk⟩;unfold Oper.quietAt execOp;simp only [ho,hx,Instr.loadAt,Instr.sureAddr,Sem.run_bind,Sem.run_pure,Result.andThen_ok,hld w' hC];exact⟨rfl,rfl⟩
theorem Q0p {id:Nat} {l:List Oper} (hm:P.follows .mixedOrders=true) (hB:Region.lexB .any l.toArray=true) (N:Nat)
 (h:wpQuiet P l.toArray (fun w'=>Below N w w') (fun a'=>∀ w',Below N w w'->Q .normal a' w') l a):(Code.region id l.toArray true).wp P Q a w :=
 wp_region_quiet (C:=fun w'=>Below N w w') hm hB (Below.refl _ _).drew (by simpa using h)
end
theorem Qtq (w:World) (A B:Obj):((w.alloc A).alloc B).heap.size=w.heap.size+2:=by simp
theorem Qaq {a b:ByteArray}:(a.toList==b.toList)=decide (a=b):=by
 rw [<- beq_toListBytes];obtain⟨⟨x⟩⟩:=a;obtain⟨⟨y⟩⟩:=b;show ((⟨x⟩:Array UInt8)==⟨y⟩)=_
 by_cases h:x=y<;>simp [h]
theorem Z0v {a b:ByteArray}:(a.toList=b.toList)=(a=b):=by
 have h:=Qaq (a:=a) (b:=b);by_cases e:a=b
 . simp [e]
 . simp [e] at h;simp [e,h]
theorem Z6c {k:IntKind} {a b:Int} (h:a=b):Ending.returned (.int k a) = .returned (.int k b):=by rw [h]
section
variable {P:Program} {ops:Array Oper} {md:Region.Mode} {C:World->Prop} {io:Nat} {oo:Oper} {R:Value->World->Prop} {D:World->World->Prop} {Q:Value->World->Act->Prop}
def Q1r (md:Region.Mode) (ops:Array Oper):Nat->Nat->Nat->Bool
 | 0,_,_=>false
 | fuel+1,j,i=>match ops[j]? with
  | some o=>o.after.any fun e=>Region.binds md e&&(e.on==i||Q1r md ops fuel e.on i)
  | none=>false
def Vz (md:Region.Mode) (ops:Array Oper) (listed:Array Bool):Prop :=
 ∀ j oj,ops[j]? = some oj->listed.getD j false=true->∀ e∈oj.after,Region.binds md e=true->listed.getD e.on false=true
theorem J2 {listed:Array Bool} (hc:Vz md ops listed):∀ (fuel j i:Nat) (oj:Oper),ops[j]? = some oj->(∀ e∈oj.after,Region.binds md e=true->listed.getD e.on false=true)->Q1r md ops fuel j i=true->listed.getD i false=true
 | 0,_,_,_,_,_,h=>by simp [Q1r] at h
 | fuel+1,j,i,oj,hj,hall,h=>by
  simp only [Q1r,hj] at h;obtain⟨e,he,hb⟩:=Array.any_eq_true'.1 h;simp only [Bool.and_eq_true,Bool.or_eq_true,beq_iff_eq] at hb;have h1:=hall e he hb.1;rcases hb.2 with h2|h2
  . rw [<- h2]; exact h1
  . cases ho:ops[e.on]? with
    | none=>cases fuel<;>simp [Q1r,ho] at h2
    | some oe=>exact J2 hc fuel e.on i oe ho (hc e.on oe ho h1) h2
theorem Vz.set_ {listed:Array Bool} (hc:Vz md ops listed) {j:Nat} (hj:j∈Region.ready md ops listed):Vz md ops (listed.setIfInBounds j true):=by
 intro k ok hk hl e he hb;by_cases hjk:j=k
 . subst hjk;obtain⟨_,oj,hoj,hall⟩:=mem_ready.1 hj;rw [hk] at hoj;injection hoj with hoj;subst hoj;exact getD_set_true (hall e he hb)
 . rw [getD_set_ne false hjk] at hl;exact getD_set_true (hc k ok hk hl e he hb)
end
abbrev Qe (w:World) (w':World):Prop:=Below w.heap.size w w'
section
variable {P:Program} {ops:Array Oper} {md:Region.Mode} {C0 C:World->Prop}
end
structure Frm where
 x:Int
 light:Int
 share:Int
 shear:Int
 bend:Int
deriving DecidableEq
theorem Z4 {P:Program} {w:World} {ops:Array Oper} {rest:List Oper} {a:Act} {Q:Exit->Act->World->Prop} (T:Nat) {x:Operand} {d:Option Nat} {ty:TypeId} {pos:String} {aft:Array Edge} {gd:Option (Nat×Bool)}
 (h:wpList P ops Q (⟨d,.load T x,ty,pos,aft,gd⟩::rest) a w):wpList P ops Q (⟨d,.load T x,ty,pos,aft,gd⟩::rest) a w:=h
theorem Z5 {P:Program} {w:World} {ops:Array Oper} {rest:List Oper} {a:Act} {Q:Exit->Act->World->Prop} (T:Nat) {x y:Operand} {d:Option Nat} {ty:TypeId} {pos:String} {aft:Array Edge} {gd:Option (Nat×Bool)}
 (h:wpList P ops Q (⟨d,.store T x y,ty,pos,aft,gd⟩::rest) a w):wpList P ops Q (⟨d,.store T x y,ty,pos,aft,gd⟩::rest) a w:=h
theorem Q3e {P:Program} {w:World} {ops:Array Oper} {rest:List Oper} {o:Oper} {a:Act} {Q:Exit->Act->World->Prop} {t e size bytes base c m cn:Nat} {A X:Option Addr} {css news:List (List Value)} (hgd:o.guard=none) (s x:Operand)
 (ho:o.op = .call { callee := .builtin .append,args := #[s,x],argTypes := #[t,t] })
 (hE:EI P t e size bytes) (n:Nat) (hn:n=css.length) (hs:a.eval s = .slice A n c) (hown:Z1 w base e size A c css) (hx:a.eval x = .slice X m cn) (B:Nat) (hr:Rd w B size X news) (hm:m=news.length)
 (h1:∀ cs∈news,∀ u∈cs,u.oneCell'=true) (h63:css.length+m<=maxLen) (hbytes:(css.length+m)*bytes<=140737488355328) (hbase:base<=w.heap.size)
 (h:∀ A' c' w',Z1 w' base e size A' c' (css++news)->w.grownBy w' (Value.ownBlock (.slice A css.length c))->Below base w w'->wpList P ops Q rest (a.put o.dst (.slice A' (n+m) c')) w'):wpList P ops Q (o::rest) a w:=by
 subst hn;refine Qh2 hgd s x ho hE hs hown hx B hr hm h1 h63 hbytes hbase fun A' c' w' h2 h3 h4 => ?_;have:=h A' c' w' h2 h3 h4;rwa [List.length_append,<- hm]
section
variable {P:Program} {md:Region.Mode} {ops:Array Oper} {Q:Exit->Act->World->Prop}
theorem Q7y:∀ (l:List Bool) (i:Nat),l[i]? = some false->(l.set i true).count false+1=l.count false
 | [],i,h=>by simp at h
 | b::l,0,h=>by
  simp at h;subst h;simp
 | b::l,i+1,h=>by
  have ih:=Q7y l i (by simpa using h);simp only [List.set_cons_succ,List.count_cons];omega
theorem Qcm (Inv:Array Bool->Act->World->Prop) (hend:∀ listed a w,Inv listed a w->Region.ready md ops listed = []->Q .normal a w)
 (hstep:∀ listed a w i,Inv listed a w->i∈Region.ready md ops listed->wpOp P ops Q i (Inv (listed.setIfInBounds i true)) a w) :
 ∀ (fuel:Nat) (listed:Array Bool) (a:Act) (w:World),listed.toList.count false<=fuel->Inv listed a w->wpAny P md ops Q fuel listed a w
 | 0,listed,a,w,hc,h=>by
  have hr:Region.ready md ops listed = []:=by
   rw [List.eq_nil_iff_forall_not_mem];intro i hi;have h1:=(mem_ready.1 hi).1;have h2:listed.toList[i]? = some false:=by
    rcases Nat.lt_or_ge i listed.size with h'|h'
    . simp [h'] at h1;simp [h',h1]
    . simp [Array.getElem?_eq_none h'] at h1
   have:=List.count_pos_iff.2 (List.mem_of_getElem? h2);omega
  exact⟨hr,hend listed a w h hr⟩
 | fuel+1,listed,a,w,hc,h=>by
  refine⟨hend listed a w h,fun i hi=>wpOp_mono (fun a' w' h' => ?_) (hstep listed a w i h hi)⟩;refine Qcm Inv hend hstep fuel _ a' w' ?_ h';have h1:=(mem_ready.1 hi).1;have h2:listed.toList[i]? = some false:=by
   rcases Nat.lt_or_ge i listed.size with h''|h''
   . simp [h''] at h1;simp [h'',h1]
   . simp [Array.getElem?_eq_none h''] at h1
  have:=Q7y listed.toList i h2;simp only [Array.toList_setIfInBounds];omega
end
def Z4l (ops:Array Oper) (pre:List (Nat×List Nat)):Bool:=pre.all fun p=>p.2.all fun j=>((ops[p.1]?).map fun o=>o.after.any fun e=>Region.binds .any e&&e.on==j).getD false
theorem Z92 {ops:Array Oper} {pre:List (Nat×List Nat)} {listed:Array Bool} {i:Nat} {js:List Nat} (hp:Z4l ops pre=true) (hi:i∈Region.ready .any ops listed) (hm:(i,js)∈pre):∀ j∈js,listed.getD j false=true:=by
 intro j hj;unfold Z4l at hp;rw [List.all_eq_true] at hp;have h1:=hp _ hm;rw [List.all_eq_true] at h1;have h2:=h1 j hj;obtain⟨_,o,ho,hall⟩:=mem_ready.1 hi;rw [ho] at h2;simp only [Option.map_some,Option.getD_some] at h2;rw [Array.any_eq_true'] at h2;obtain⟨e,he,hb⟩:=h2;simp only [Bool.and_eq_true,beq_iff_eq] at hb;have:=hall e he hb.1;rw [hb.2] at this;exact this
def LL (listed:Array Bool) (j:Nat):Bool:=listed.getD j false
theorem Q5q {listed:Array Bool} {i:Nat} (h:i<listed.size) (j:Nat):LL (listed.setIfInBounds i true) j=if j=i then true else LL listed j:=by
 unfold LL;rw [Array.getD_eq_getD_getElem?,Array.getD_eq_getD_getElem?,Array.getElem?_setIfInBounds];by_cases e:j=i
 . subst e;simp [h]
 . rw [if_neg (fun h=>e h.symm),if_neg e]
theorem Qeo {a:Act} {d:Nat} {v:Value} (hd:d<a.tmps.size) (s:Nat):(a.put (some d) v).tmps[s]? = if s=d then some v else a.tmps[s]? := by
 unfold Act.put;simp only;rw [Array.getElem?_setIfInBounds];by_cases e:s=d
 . subst e;simp [hd]
 . rw [if_neg (fun h=>e h.symm),if_neg e]
theorem V6 {a:Act} {s:Nat} {v:Value} (h:a.tmps[s]? = some v):a.eval (.tmp s)=v:=by
 unfold Act.eval;simp only;rw [Array.getD_eq_getD_getElem?,h];rfl
section
variable {P:Program} {ops:Array Oper} {Q:Exit->Act->World->Prop} {a:Act} {w:World} {K:Act->World->Prop} {i:Nat} {o:Oper}
theorem Q04 (ho:ops[i]? = some o) (hg:o.guard=none) {v:Value} {w':World} (hr:(execOp a.eval o).run P w = .ok (.value v) w') (hK:K (a.put o.dst v) w'):wpOp P ops Q i K a w:=by
 unfold wpOp;simp only [ho];have hw:Region.wanted o (yielded ops a.tmps)=true:=by unfold Region.wanted; rw [hg]
 rw [if_pos hw];refine .inl ?_;unfold Oper.wp;rw [hr];exact hK
theorem Qxx (ho:ops[i]? = some o) (hg:o.guard=none) {f:FuncId} {args:Array Value} (hr:(execOp a.eval o).run P w = .ok (.enter f args) w) (hc:Calls P f args w fun e w'=>∃ v,e = .returned v/\K (a.put o.dst v) w'):wpOp P ops Q i K a w:=by
 unfold wpOp;simp only [ho];have hw:Region.wanted o (yielded ops a.tmps)=true:=by unfold Region.wanted; rw [hg]
 rw [if_pos hw];refine .inl ?_;unfold Oper.wp;rw [hr];refine hc.mono ?_
 rintro e w' ⟨v,rfl,h⟩
 exact h
end
theorem Z2s (a:Act) (d:Nat) (v:Value):(a.put (some d) v).tmps.size=a.tmps.size:=by simp [Act.put]
structure Q08 (w0:World) (a0:Act) (l:List Oper) (np:Nat) (R:Nat->Value->Nat->Nat->World->Prop) (L:Nat->Bool) (a:Act) (w:World) (val:Nat->Value) (lo hi:Nat->Nat):Prop where
 defers:a.defers=a0.defers
 tsize:a.tmps.size=a0.tmps.size
 from0:Qe w0 w
 rows:∀ i,i<np->L i=true->w0.heap.size<=lo i/\lo i<=hi i/\hi i<=w.heap.size/\R i (val i) (lo i) (hi i) w
 apart:∀ i j,i<np->j<np->L i=true->L j=true->i≠j->hi i<=lo j\/hi j<=lo i
 slots:∀ i o d,i<np->l[i]? = some o->o.dst=some d->L i=true->a.tmps[d]? = some (val i)
 old:∀ s,(∀ i o,i<np->l[i]? = some o->o.dst=some s->L i=false)->a.tmps[s]? = a0.tmps[s]?
def Q1l (l:List Oper) (np n:Nat):Bool :=
 (List.range np).all fun i=>match l[i]? with
  | some o=>match o.dst with
   | some d=>decide (d<n)&&(List.range np).all fun j=>i==j||(match l[j]? with|some o'=>o'.dst != some d|none=>true)
   | none=>false
  | none=>false
def Q3s (l:List Oper) (np:Nat):Bool :=
 (List.range l.length).all fun j=>match l[j]? with
  | some o=>(o.after.all fun e => !Region.binds .any e||decide (e.on<j))&&(decide (j<np)||(List.range j).all fun i=>Q1r .any l.toArray l.length j i)
  | none=>false
theorem Q1s {l:List Oper} {np n i:Nat} {o:Oper} (h:Q1l l np n=true) (hi:i<np) (ho:l[i]? = some o):∃ d,o.dst=some d/\d<n/\∀ j o',j<np->l[j]? = some o'->o'.dst=some d->j=i:=by
 unfold Q1l at h;have h1:=List.all_eq_true.1 h i (List.mem_range.2 hi);rw [ho] at h1;simp only at h1
 cases hd:o.dst with
 | none=>rw [hd] at h1; cases h1
 | some d =>
  rw [hd] at h1;simp only [Bool.and_eq_true,decide_eq_true_eq] at h1;refine⟨d,rfl,h1.1,fun j o' hj ho' hd' => ?_⟩;have h2:=List.all_eq_true.1 h1.2 j (List.mem_range.2 hj);rw [ho'] at h2;simp only [hd',bne_self_eq_false,Bool.or_false,beq_iff_eq] at h2;exact h2.symm
theorem Q9c {l:List Oper} {np j:Nat} {o:Oper} (h:Q3s l np=true) (ho:l[j]? = some o):∀ e∈o.after,Region.binds .any e=true->e.on<j:=by
 intro e he hb;have hj:=(List.getElem?_eq_some_iff.1 ho).1;unfold Q3s at h;have h1:=List.all_eq_true.1 h j (List.mem_range.2 hj);rw [ho] at h1;simp only [Bool.and_eq_true] at h1;have h2:=(Array.all_eq_true_iff_forall_mem.1 h1.1) e he;simpa [hb] using h2
theorem Q6e {l:List Oper} {np j:Nat} {o:Oper} (h:Q3s l np=true) (ho:l[j]? = some o) (hn:np<=j):∀ i,i<j->Q1r .any l.toArray l.length j i=true:=by
 intro i hi;have hj:=(List.getElem?_eq_some_iff.1 ho).1;unfold Q3s at h;have h1:=List.all_eq_true.1 h j (List.mem_range.2 hj);rw [ho] at h1;simp only [Bool.and_eq_true,Bool.or_eq_true,decide_eq_true_eq] at h1;rcases h1.2 with h2|h2
 . omega
 . exact List.all_eq_true.1 h2 i (List.mem_range.2 hi)
def Kn (val:Nat->Value):Nat->List Oper->Act->Act
 | _,[],a=>a
 | k,o::l,a=>Kn val (k+1) l (a.put o.dst (val k))
theorem Q77 (a:Act) (d:Option Nat) (v:Value):(a.put d v).tmps.size=a.tmps.size:=by cases d<;>simp [Act.put]
theorem Q9g (a:Act) (d:Option Nat) (v:Value):(a.put d v).defers=a.defers:=by cases d<;>rfl
theorem Qfq (val:Nat->Value):∀ (l:List Oper) (k:Nat) (a:Act),(Kn val k l a).tmps.size=a.tmps.size
 | [],_,_=>rfl
 | o::l,k,a=>by unfold Kn; rw [Qfq val l,Q77]
theorem Q5v (val:Nat->Value):∀ (l:List Oper) (k:Nat) (a:Act),(Kn val k l a).defers=a.defers
 | [],_,_=>rfl
 | o::l,k,a=>by unfold Kn; rw [Q5v val l,Q9g]
theorem Q6q (val:Nat->Value) (s:Nat):∀ (l:List Oper) (k:Nat) (a:Act),(∀ o∈l,o.dst≠some s)->(Kn val k l a).tmps[s]? = a.tmps[s]?
 | [],_,_,_=>rfl
 | o::l,k,a,h=>by
  unfold Kn;rw [Q6q val s l _ _ (fun o' ho'=>h o' (List.mem_cons_of_mem _ ho'))];have h1:=h o (by simp)
  cases hd:o.dst with
  | none=>rfl
  | some d =>
   rw [hd] at h1;unfold Act.put;simp only [Array.getElem?_setIfInBounds];rw [if_neg (fun e=>h1 (by rw [e]))]
theorem Qba (val:Nat->Value) (s:Nat):∀ (l:List Oper) (k:Nat) (a:Act) (i:Nat) (o:Oper),l[i]? = some o->o.dst=some s->(∀ j o',l[j]? = some o'->o'.dst=some s->j=i)->s<a.tmps.size->(Kn val k l a).tmps[s]? = some (val (k+i))
 | [],_,_,i,o,h,_,_,_=>by simp at h
 | o::l,k,a,0,o1,h,hd,hu,hs=>by
  simp at h;subst h;unfold Kn;rw [Q6q val s l _ _ (fun o' ho' hd'=>by
   obtain⟨j,hj⟩:=List.mem_iff_getElem?.1 ho';have:=hu (j+1) o' (by simpa using hj) hd'
   omega),hd,Qeo hs]
  simp
 | o::l,k,a,i+1,o1,h,hd,hu,hs=>by
  unfold Kn;rw [Qba val s l (k+1) _ i o1 (by simpa using h) hd (fun j o' ho' hd'=>by have:=hu (j+1) o' (by simpa using ho') hd'; omega) (by rw [Q77]; exact hs)];congr 2;omega
section
variable {w0 w:World} {a0 a:Act} {l:List Oper} {np:Nat} {R:Nat->Value->Nat->Nat->World->Prop} {L:Nat->Bool} {val:Nat->Value} {lo hi:Nat->Nat}
theorem Q08.old_ (M:Q08 w0 a0 l np R L a w val lo hi) {s:Nat} (h:((l.take np).all fun o=>o.dst != some s)=true):a.tmps[s]? = a0.tmps[s]? :=
 M.old s fun i o hi ho hd=>by
  have h1:=List.all_eq_true.1 h o (List.mem_of_getElem? (i:=i) (by rw [List.getElem?_take,if_pos hi]; exact ho));rw [hd] at h1;simp at h1
theorem Q08.act (M:Q08 w0 a0 l np R L a w val lo hi) (hall:∀ i,i<np->L i=true) (hd:Q1l l np a0.tmps.size=true):a=Kn val 0 (l.take np) a0:=by
 have e:a.tmps=(Kn val 0 (l.take np) a0).tmps:=by
  apply Array.ext_getElem?;intro s;by_cases h:∃ i o,i<np/\l[i]? = some o/\o.dst=some s
  . obtain⟨i,o,hi,ho,hs⟩:=h;obtain⟨d,hd1,hd2,hd3⟩:=Q1s hd hi ho;rw [hs] at hd1;injection hd1 with hd1;subst hd1;rw [M.slots i o s hi ho hs (hall i hi)];have:=Qba val s (l.take np) 0 a0 i o (by rw [List.getElem?_take,if_pos hi]; exact ho) hs (fun j o' ho' hd'=>by
     rw [List.getElem?_take] at ho';split at ho'
     . exact hd3 j o' (by assumption) ho' hd'
     . cases ho') hd2
    rw [this,Nat.zero_add]
  . rw [M.old s (fun i o hi ho hs=>(h ⟨i,o,hi,ho,hs⟩).elim),Q6q val s _ _ _ (fun o ho hs=>by
     obtain⟨i,hi⟩:=List.mem_iff_getElem?.1 ho;rw [List.getElem?_take] at hi;split at hi
     . exact h ⟨i,o,by assumption,hi,hs⟩
     . cases hi)]
 have e2:a.defers=(Kn val 0 (l.take np) a0).defers:=by rw [Q5v]; exact M.defers
 obtain⟨t,d⟩:=a;simp only at e e2;rw [e,e2]
theorem Q08.next (M:Q08 w0 a0 l np R L a w val lo hi) {i:Nat} {o:Oper} {v:Value} {w':World} (hi':i<np) (ho:l[i]? = some o) (hd:Q1l l np a0.tmps.size=true)
 (hR:∀ i v lo hi w w',R i v lo hi w->hi<=w.heap.size->Qe w w'->R i v lo hi w') (hw:Qe w w') (hv:R i v w.heap.size w'.heap.size w')
 {L':Nat->Bool} (hL:∀ j,L' j=if j=i then true else L j) (hn:L i=false) :
 Q08 w0 a0 l np R L' (a.put o.dst v) w' (fun j=>if j=i then v else val j) (fun j=>if j=i then w.heap.size else lo j) (fun j=>if j=i then w'.heap.size else hi j):=by
 obtain⟨d,hd1,hd2,hd3⟩:=Q1s hd hi' ho;refine⟨by rw [Q9g]; exact M.defers,by rw [Q77]; exact M.tsize,M.from0.trans (hw.mono M.from0.size),fun j hj hl => ?_,fun j k hj hk hlj hlk hjk => ?_,fun j oj dj hj hoj hdj hlj => ?_,fun s hs => ?_⟩
 . by_cases e:j=i
   . subst e;simp only [if_true];exact⟨M.from0.size,hw.size,Nat.le_refl _,hv⟩
   . simp only [e,if_false];rw [hL,if_neg e] at hl;obtain⟨h1,h2,h3,h4⟩:=M.rows j hj hl;have hws:=hw.size;have h0:=M.from0.size;exact⟨h1,h2,by omega,hR j _ _ _ w w' h4 h3 hw⟩
 . rw [hL] at hlj hlk;by_cases e1:j=i
   . by_cases e2:k=i
     . omega
     . simp only [e1,e2,if_true,if_false];rw [if_neg e2] at hlk;exact .inr (M.rows k hk hlk).2.2.1
   . rw [if_neg e1] at hlj;by_cases e2:k=i
     . simp only [e1,e2,if_true,if_false];exact .inl (M.rows j hj hlj).2.2.1
     . simp only [e1,e2,if_false];rw [if_neg e2] at hlk;exact M.apart j k hj hk hlj hlk hjk
 . rw [hd1];rw [Qeo (by rw [M.tsize]; exact hd2)];by_cases e:j=i
   . subst e;rw [ho] at hoj;injection hoj with hoj;subst hoj;rw [hd1] at hdj;injection hdj with hdj;subst hdj;simp
   . have hne:dj≠d:=fun h=>e (hd3 j oj hj hoj (by rw [hdj,h]));rw [hL,if_neg e] at hlj;simp only [hne,e,if_false];exact M.slots j oj dj hj hoj hdj hlj
 . rw [hd1];rw [Qeo (by rw [M.tsize]; exact hd2)];have hne:s≠d:=fun h=>by
    have:=hs i o hi' ho (by rw [hd1,h]);rw [hL,if_pos rfl] at this;cases this
   rw [if_neg hne];refine M.old s (fun j oj hj hoj hdj => ?_);have:=hs j oj hj hoj hdj;rw [hL] at this;by_cases e:j=i
   . rw [if_pos e] at this;cases this
   . rw [if_neg e] at this;exact this
end
section
variable {P:Program} {ops:Array Oper} {Q:Exit->Act->World->Prop} {a:Act} {w:World} {K:Act->World->Prop} {i:Nat} {o:Oper}
theorem Z07 (ho:ops[i]? = some o) (hg:o.guard=none) {F:FuncId} {xs:Array Operand} {ts:Array TypeId} (hop:o.op = .call { callee := .value (.func F),args:=xs,argTypes:=ts }) {args:Array Value} (hx:xs.map a.eval=args) (hcf:(callFunc F args).run P w = .ok (.enter F args) w) (hc:Calls P F args w fun e w'=>∃ v,e = .returned v/\K (a.put o.dst v) w'):wpOp P ops Q i K a w :=
 Qxx ho hg (by subst hx; unfold execOp; simp only [hop]; go_simp) hc
end
theorem Q0z {listed:Array Bool} {i:Nat} (h:listed.getD i true=false):LL listed i=false/\i<listed.size:=by
 have hlt:i<listed.size:=by
  rcases Nat.lt_or_ge i listed.size with h'|h'
  . exact h'
  . simp [Array.getElem?_eq_none h'] at h
 refine⟨?_,hlt⟩;unfold LL;simp [hlt] at h ⊢;exact h
theorem Qms {P:Program} {id:Nat} {Q:Exit->Act->World->Prop} {a0:Act} {w0:World} {l:List Oper} (np:Nat) (R:Nat->Value->Nat->Nat->World->Prop) (hm:P.follows .mixedOrders=true) (hO:Q3s l np=true) (hnp:np<=l.length) (hd:Q1l l np a0.tmps.size=true)
 (hR:∀ i v lo hi w w',R i v lo hi w->hi<=w.heap.size->Qe w w'->R i v lo hi w')
 (hstep:∀ i o,i<np->l[i]? = some o->∀ (L:Nat->Bool) (a:Act) (w:World) (val:Nat->Value) (lo hi:Nat->Nat),Q08 w0 a0 l np R L a w val lo hi->(∀ e∈o.after,Region.binds .any e=true->L e.on=true) ->
  wpOp P l.toArray Q i (fun a' w'=>∃ v,a'=a.put o.dst v/\Qe w w'/\R i v w.heap.size w'.heap.size w') a w)
 (hK:∀ (val:Nat->Value) (lo hi:Nat->Nat) (w:World),Qe w0 w->(∀ i,i<np->w0.heap.size<=lo i/\lo i<=hi i/\hi i<=w.heap.size/\R i (val i) (lo i) (hi i) w)->(∀ i j,i<np->j<np->i≠j->hi i<=lo j\/hi j<=lo i)->wpList P l.toArray Q (l.drop np) (Kn val 0 (l.take np) a0) w) :
 (Code.region id l.toArray true).wp P Q a0 w0:=by
 refine wp_region_any hm (Qcm (fun listed a w=>listed.size=l.length/\Vz .any l.toArray listed/\((∃ val lo hi,Q08 w0 a0 l np R (LL listed) a w val lo hi/\∀ j,np<=j->LL listed j=false)\/∃ k,np<=k/\(∀ j,LL listed j=decide (j<k))/\wpList P l.toArray Q (l.drop k) a w)) ?_ ?_ _ _ _ _ ?_ ?_)
 . rintro listed a w ⟨hsz,hcl,H⟩ hr
   have hall:∀ j,j<l.length->LL listed j=true:=by
    intro j
    induction j using Nat.strongRecOn with
    | ind j ih =>
     intro hj
     cases hq:LL listed j with
     | true=>rfl
     | false =>
      exfalso;have hmem:j∈Region.ready .any l.toArray listed:=by
       rw [mem_ready];refine⟨?_,l[j],by simp [hj],fun e he hb => ?_⟩
       . unfold LL at hq;rw [Array.getD_eq_getD_getElem?,Array.getElem?_eq_getElem (by omega)] at hq ⊢;exact hq
       . have h1:=Q9c hO (List.getElem?_eq_getElem hj) e he hb;exact ih e.on h1 (by omega)
      rw [hr] at hmem;cases hmem
   rcases H with ⟨val,lo,hi,M,hpost⟩|⟨k,hk,hL,hw⟩
   . have hnl:np=l.length:=by
      rcases Nat.lt_or_ge np l.length with h|h
      . have h1:=hall np h;rw [hpost np (Nat.le_refl _)] at h1;cases h1
      . omega
     have hact:=M.act (fun i hi=>hall i (by omega)) hd;have h1:=hK val lo hi w M.from0 (fun i hi=>M.rows i hi (hall i (by omega))) (fun i j hi hj hij=>M.apart i j hi hj (hall i (by omega)) (hall j (by omega)) hij);rw [hnl,List.drop_length] at h1;rw [hact,hnl];exact h1
   . have hk2:l.length<=k:=by
      rcases Nat.lt_or_ge k l.length with h|h
      . have h1:=hall k h;rw [hL k] at h1;simp at h1
      . exact h
     rw [List.drop_eq_nil_of_le hk2] at hw;exact hw
 . rintro listed a w i ⟨hsz,hcl,H⟩ hr
   obtain⟨hun,o,ho,haft⟩:=mem_ready.1 hr;obtain⟨hn,hlt⟩:=Q0z hun;have ho':l[i]? = some o:=by simpa using ho
   have hL:=Q5q (listed:=listed) (i:=i) hlt;have post:∀ k,np<=k->(∀ j,LL listed j=decide (j<k))->wpList P l.toArray Q (l.drop k) a w->wpOp P l.toArray Q i (fun a w=>(listed.setIfInBounds i true).size=l.length/\Vz .any l.toArray (listed.setIfInBounds i true)/\((∃ val lo hi,Q08 w0 a0 l np R (LL (listed.setIfInBounds i true)) a w val lo hi/\∀ j,np<=j->LL (listed.setIfInBounds i true) j=false)\/∃ k,np<=k/\(∀ j,LL (listed.setIfInBounds i true) j=decide (j<k))/\wpList P l.toArray Q (l.drop k) a w)) a w:=by
    intro k hk hLk hw;have hki:i=k:=by
     have h1:¬ i<k:=by
      intro h;rw [hLk i] at hn;simp [h] at hn
     rcases Nat.lt_or_ge k i with h|h
     . have h2:=J2 hcl _ i k o ho haft (Q6e hO ho' (by omega) k h);have h3:=hLk k;unfold LL at h3;rw [h2] at h3;simp at h3
     . omega
    subst hki;have hlt':i<l.length:=(List.getElem?_eq_some_iff.1 ho').1;rw [List.drop_eq_getElem_cons hlt'] at hw;have hoi:l[i]=o:=by rw [List.getElem?_eq_getElem hlt'] at ho'; injection ho'
    rw [hoi] at hw;have hst:wpOp P l.toArray Q i (wpList P l.toArray Q (l.drop (i+1))) a w:=by
     unfold wpOp;simp only [ho];exact hw
    refine wpOp_mono (fun a' w' h'=>⟨by simp [hsz],hcl.set_ hr,.inr ⟨i+1,by omega,fun j => ?_,h'⟩⟩) hst;rw [hL,hLk];by_cases e:j=i
    . simp [e]
    . rw [if_neg e];by_cases h:j<i
      . simp [h,show j<i+1 by omega]
      . simp [h,show ¬ j<i+1 by omega]
   rcases H with ⟨val,lo,hi,M,hpost⟩|⟨k,hk,hLk,hw⟩
   . rcases Nat.lt_or_ge i np with hinp|hinp
     . refine wpOp_mono (fun a' w' h' => ?_) (hstep i o hinp ho' (LL listed) a w val lo hi M (fun e he hb=>by have:=haft e he hb; unfold LL; exact this));obtain⟨v,rfl,hf,hv⟩:=h';refine⟨by simp [hsz],hcl.set_ hr,.inl ⟨_,_,_,M.next hinp ho' hd hR hf hv hL hn,fun j hj => ?_⟩⟩;rw [hL,if_neg (by omega)];exact hpost j hj
     . have hi0:∀ j,j<i->LL listed j=true:=fun j hj=>by
        exact J2 hcl _ i j o ho haft (Q6e hO ho' hinp j hj)
       have hinp':i=np:=by
        rcases Nat.lt_or_ge np i with h|h
        . have h1:=hi0 np h;rw [hpost np (Nat.le_refl _)] at h1;cases h1
        . omega
       have hact:=M.act (fun j hj=>hi0 j (by omega)) hd;have h1:=hK val lo hi w M.from0 (fun j hj=>M.rows j hj (hi0 j (by omega))) (fun j k hj hk hjk=>M.apart j k hj hk (hi0 j (by omega)) (hi0 k (by omega)) hjk);rw [<- hact] at h1;refine post np (Nat.le_refl _) (fun j => ?_) h1;rcases Nat.lt_or_ge j np with h|h
       . rw [hi0 j (by omega)]; simp [h]
       . rw [hpost j h]; simp [Nat.not_lt.2 h]
   . exact post k hk hLk hw
 . simp
 . have h0:∀ j,LL (Array.replicate l.toArray.size false) j=false:=fun j=>by
    unfold LL;rw [Array.getD_eq_getD_getElem?,Array.getElem?_replicate];split<;>rfl
   refine⟨by simp,fun j oj _ hl=>(by simp [Array.getElem?_replicate] at hl; split at hl<;>simp at hl),.inl ⟨fun _=>undef,fun _=>0,fun _=>0,⟨rfl,rfl,(Below.refl _ _).drew,fun i _ h => ?_,fun i j _ _ h => ?_,fun i o d _ _ _ h => ?_,fun s _=>rfl⟩,fun j _ => ?_⟩⟩
   . rw [h0] at h; cases h
   . rw [h0] at h; cases h
   . rw [h0] at h; cases h
   . exact h0 j
section
variable {P:Program} {ops:Array Oper} {Q:Exit->Act->World->Prop} {a:Act} {w:World} {K:Act->World->Prop} {i:Nat} {o:Oper}
theorem Qg7 (ho:ops[i]? = some o) (hw:Region.wanted o (yielded ops a.tmps)=true) {v:Value} {w':World} (hr:(execOp a.eval o).run P w = .ok (.value v) w') (hK:K (a.put o.dst v) w'):wpOp P ops Q i K a w:=by
 unfold wpOp;simp only [ho];rw [if_pos hw];refine .inl ?_;unfold Oper.wp;rw [hr];exact hK
theorem Qga (ho:ops[i]? = some o) (hw:Region.wanted o (yielded ops a.tmps)=true) {f:FuncId} {args:Array Value} (hr:(execOp a.eval o).run P w = .ok (.enter f args) w) (hc:Calls P f args w fun e w'=>∃ v,e = .returned v/\K (a.put o.dst v) w'):wpOp P ops Q i K a w:=by
 unfold wpOp;simp only [ho];rw [if_pos hw];refine .inl ?_;unfold Oper.wp;rw [hr];refine hc.mono ?_
 rintro e w' ⟨v,rfl,h⟩
 exact h
theorem Qqd (ho:ops[i]? = some o) (hw:Region.wanted o (yielded ops a.tmps)=false) (hK:K (a.put o.dst undef) w):wpOp P ops Q i K a w:=by
 unfold wpOp;simp only [ho];rw [if_neg (by rw [hw]; simp)];exact hK
theorem Q97 (h:o.guard=none) (f:Nat->Option Bool):Region.wanted o f=true:=by unfold Region.wanted; rw [h]
theorem Q25 {j:Nat} {b c r:Bool} {oj:Oper} {d:Nat} (h:o.guard=some (j,b)) (hj:ops[j]? = some oj) (hd:oj.dst=some d) (hs:a.tmps[d]? = some (.bool c)) (hr:(c==b)=r):Region.wanted o (yielded ops a.tmps)=r:=by
 subst hr;unfold Region.wanted yielded;rw [h];simp only [hj,Option.bind_some,hd,hs];cases b<;>cases c<;>rfl
end
def Zc (k:IntKind) (l:List Nat):List (List Value):=l.map fun (n:Nat) => [Value.int k (n:Int)]
theorem Ye (k:IntKind) (l:List Nat):(Zc k l).length=l.length:=by simp [Zc]
theorem Qnk (k:IntKind) (l:List Nat):∀ cs∈Zc k l,∀ u∈cs,u.oneCell'=true:=by
 intro cs h;obtain⟨n,_,rfl⟩:=List.mem_map.1 h;simp [Value.oneCell']
theorem Vu {k:IntKind} {l:List Nat} {i:Nat} (h:i<l.length):(Zc k l)[i]? = some [Value.int k (l[i]:Int)]:=by
 unfold Zc;rw [List.getElem?_map,List.getElem?_eq_getElem h];rfl
theorem Jh (k:IntKind) (l m:List Nat):Zc k (l++m)=Zc k l++Zc k m:=by simp [Zc]
theorem Qnw (k:IntKind) (l:List Nat) (n:Nat):Zc k (l.take n)=(Zc k l).take n:=by simp [Zc,List.map_take]
theorem Qzu (k:IntKind) (l:List Nat):(Zc k l).flatten=l.map fun (n:Nat)=>Value.int k (n:Int):=by
 induction l with
 | nil=>rfl
 | cons n l ih=>simp only [Zc,List.map_cons,List.flatten_cons] at *; rw [ih]; rfl
section
variable {P:Program} {w:World} {ops:Array Oper} {rest:List Oper} {o:Oper} {a:Act} {Q:Exit->Act->World->Prop}
theorem Vb {T:Nat} {d:TypeDesc} (hT:P.underlying T=some d) (hd:(match d with | .struct _ | .array _ _=>false|_=>true)=true) {B:Nat} {A:Option Addr} {k:IntKind} {l:List Nat} (h:Rd w B 1 A (Zc k l)) {i:Nat} (hi:i<l.length) :
 ∃ b off,A=some ⟨b,off,none⟩/\b<B/\∀ w',Below B w w'->(loadVar T ⟨b,off+i,none⟩).run P w' = .ok (.int k (l[i]:Int)) w':=by
 obtain⟨b,off,e,hlt,hl,hc⟩:=h i _ (Vu hi);refine⟨b,off,e,hlt,fun w' hb=>Gc hT hd ?_⟩;have h1:=hc 0 _ rfl;simp only [Nat.mul_one,Nat.add_zero] at h1;exact (hb.cell (p:=⟨b,_,none⟩) (by simpa using hlt)).trans h1
theorem Z67 {T:Nat} {d:TypeDesc} (hT:P.underlying T=some d) (hd:(match d with | .struct _ | .array _ _=>false|_=>true)=true) {B b off:Nat} {k:IntKind} {l:List Nat} (h:Rd w B 1 (some ⟨b,off,none⟩) (Zc k l)) {i:Nat} (hi:i<l.length) :
 ∀ w',Below B w w'->(loadVar T ⟨b,off+i,none⟩).run P w' = .ok (.int k (l[i]:Int)) w':=by
 obtain⟨b',off',e,_,hld⟩:=Vb hT hd h hi;injection e with e;injection e with e1 e2;subst e1; subst e2;exact hld
def NB (w:World) (g E:Nat) (k:IntKind) (l:List Nat):Prop:=w.heap[g]? = some (.cells (l.map fun (n:Nat)=>Value.int k (n:Int)).toArray E (0,0))
theorem NB.lt {g E:Nat} {k:IntKind} {l:List Nat} (h:NB w g E k l):g<w.heap.size:=(Array.getElem?_eq_some_iff.1 h).1
theorem NB.keep {w':World} {g E:Nat} {k:IntKind} {l:List Nat} (h:NB w g E k l) (hg:w'.heap[g]? = w.heap[g]?):NB w' g E k l:=hg.trans h
theorem NB.below {w':World} {B g E:Nat} {k:IntKind} {l:List Nat} (h:NB w g E k l) (hb:Below B w w') (hg:g<B):NB w' g E k l:=h.keep (hb.block g hg)
theorem NB.rd {g E off:Nat} {k:IntKind} {l m:List Nat} (h:NB w g E k l) (hm:∀ i,i<m.length->l[off+i]? = m[i]?):Rd w w.heap.size 1 (some ⟨g,off,none⟩) (Zc k m):=by
 intro i cs hi;unfold Zc at hi;rw [List.getElem?_map] at hi;obtain⟨n,hn,rfl⟩:=Option.map_eq_some_iff.1 hi;refine⟨g,off,rfl,h.lt,rfl,fun j u hu => ?_⟩
 match j,hu with
 | 0,hu =>
  simp at hu;subst hu;have hil:i<m.length:=(List.getElem?_eq_some_iff.1 hn).1;rw [cell_of_row w g _ _ _ _ h];simp [hm i hil,hn]
theorem NB.rd0 {g E:Nat} {k:IntKind} {l:List Nat} (h:NB w g E k l):Rd w w.heap.size 1 (some ⟨g,0,none⟩) (Zc k l):=h.rd (fun i _=>by simp)
theorem NB.ld {T:Nat} {d:TypeDesc} (hT:P.underlying T=some d) (hd:(match d with | .struct _ | .array _ _=>false|_=>true)=true) {g E:Nat} {k:IntKind} {l:List Nat} (h:NB w g E k l) {i:Nat} (hi:i<l.length):(loadVar T ⟨g,i,none⟩).run P w = .ok (.int k (l[i]:Int)) w:=by
 refine Gc hT hd ?_;rw [cell_of_row w g i _ _ _ h];simp [hi]
theorem Q5y {t e bytes n:Nat} {k kl kc:IntKind} {L C:Int} (hgd:o.guard=none) (l c:Operand) (ho:o.op = .makeSlice t l c) (ht:P.underlying t=some (.slice e)) (hz:(P.info? e).map (fun i=>(i.zero,i.size,i.bytes))=some (some (.int k 0),1,bytes))
 (hl:a.eval l = .int kl L) (hc:a.eval c = .int kc C) (hL:L=(n:Int)) (hC:C=(n:Int)) (b2:bytes*n<=281474976710656) (b3:n<=maxLen)
 (h:∀ w',NB w' w.heap.size e k (List.replicate n 0)->Below w.heap.size w w'->w.heap.size<w'.heap.size->wpList P ops Q rest (a.put o.dst (.slice (some ⟨w.heap.size,0,none⟩) n n)) w'):wpList P ops Q (o::rest) a w:=by
 obtain⟨i,hi,hz1,hz2,hz3⟩:=info_parts hz;refine wpList_make_full w hgd l c t ho w.heap.size e i (.int k 0) 1 ht hi hz1 hz2 kl kc L C n hl hc hL hC (by rw [hz3]; exact b2) b3 (Nat.le_refl _) fun w' h1 h2 => ?_;have hb:Below w.heap.size w w':=(Below.refl _ _).grown h2 (Nat.le_refl _) (by simp);rcases h1.2 with ⟨h3,_⟩|⟨g,cap,cur,h3,hbg,hg,hnc,_,hsz,htk⟩
 . injection h3 with h3 _ _;cases h3
 . injection h3 with h3 _ h4;injection h3 with h3;injection h3 with h3;subst h3;subst h4;refine h w' ?_ hb (Array.getElem?_eq_some_iff.1 hg).1;unfold NB;rw [hg];have e1:cur.toList=(List.replicate n 0).map fun (m:Nat)=>Value.int k (m:Int):=by
    rw [Nat.mul_one] at hsz htk;have e2:cur.toList.take n=cur.toList:=List.take_of_length_le (by simp; omega);rw [<- e2,htk];simp [madeCells];apply List.ext_getElem?;intro j;by_cases hj:j<n
    . simp [hj,Value.cells,Nat.mod_one]
    . simp [hj]
   congr 2;apply Array.ext';rw [e1]
theorem Je {T g E i:Nat} {k:IntKind} {l:List Nat} {v:Int} {m:Nat} (hgd:o.guard=none) (x y:Operand) (ho:o.op = .store T x y) (hx:a.eval x = .pointer (some ⟨g,i,none⟩)) (hy:a.eval y = .int k v) (hv:v=(m:Int)) (hi:(P.info? T).map (·.size)=some 1)
 (hnb:NB w g E k l) (hil:i<l.length)
 (h:∀ w',NB w' g E k (l.set i m)->w.grownBy w' (some g)->wpList P ops Q rest (a.put o.dst undef) w'):wpList P ops Q (o::rest) a w:=by
 subst hv;refine Q37 (cs := [.int k (m:Int)]) hgd x y ho hx hy hi rfl rfl hnb (by simp; omega) (by simp [Value.oneCell']) fun cur' w' hc hs hg hgr=>h w' ?_ hgr;unfold NB;rw [hg];congr 2;apply Array.ext';rw [hc];show (l.map fun (n:Nat)=>Value.int k (n:Int)).take i ++ [Value.int k (m:Int)]++(l.map fun (n:Nat)=>Value.int k (n:Int)).drop (i+1)=(l.set i m).map fun (n:Nat)=>Value.int k (n:Int)
 rw [List.map_set,List.set_eq_take_append_cons_drop,if_pos (by simpa using hil)];simp
end
end Go.Proofs.YtffeegebohigdaaGreat
namespace Go.Proofs.YtffeegebohigdaaGreat
def Q5 (B:Nat):List Nat->Nat
 | []=>0
 | d::l=>d+B*Q5 B l
def Qh8 (B:Nat):Nat->Nat->List Nat
 | 0,_ => []
 | f+1,n=>if n=0 then [] else (n % B)::Qh8 B f (n / B)
def dig (B n:Nat):List Nat:=Qh8 B n n
theorem Q7p (B:Nat):Q5 B []=0:=rfl
theorem Gm (B d:Nat) (l:List Nat):Q5 B (d::l)=d+B*Q5 B l:=rfl
theorem Jk (B:Nat):∀ (l m:List Nat),Q5 B (l++m)=Q5 B l+B^l.length*Q5 B m
 | [],m=>by simp [Q5]
 | d::l,m=>by
  simp only [List.cons_append,Gm,Jk B l m,List.length_cons,Nat.pow_succ,Nat.mul_add];rw [Nat.mul_comm (B^l.length) B,Nat.mul_assoc];omega
theorem Qdw (B:Nat) (l:List Nat) (d:Nat):Q5 B (l ++ [d])=Q5 B l+B^l.length*d:=by
 rw [Jk]; simp [Q5]
theorem Q1w {B:Nat} {l:List Nat} {k:Nat} (h:k<l.length):Q5 B (l.take (k+1))=Q5 B (l.take k)+B^k*l[k]:=by
 rw [List.take_succ_eq_append_getElem h,Qdw,List.length_take_of_le (Nat.le_of_lt h)]
theorem Y6 {B:Nat}:∀ (l:List Nat),(∀ d∈l,d<B)->Q5 B l<B^l.length
 | [],_=>by simp [Q5]
 | d::l,h=>by
  have h1:=h d (by simp);have ih:=Y6 l (fun x hx=>h x (by simp [hx]));simp only [Gm,List.length_cons,Nat.pow_succ];have h2:B*(Q5 B l+1)<=B*B^l.length:=Nat.mul_le_mul_left B ih;rw [Nat.mul_comm (B^l.length) B];rw [Nat.mul_add] at h2;omega
theorem Q4o (B k:Nat):Q5 B (List.replicate k 0)=0:=by
 induction k with
 | zero=>rfl
 | succ k ih=>simp [List.replicate_succ,Q5,ih]
section
variable {B:Nat} (hB:2<=B)
include hB
theorem Q0s {n:Nat} (h:n≠0):n / B<n:=Nat.div_lt_self (by omega) (by omega)
theorem Qe8:∀ (f n:Nat),n<=f->Qh8 B f n=Qh8 B n n
 | 0,n,h=>by
  have:n=0:=by omega
  subst this;rfl
 | f+1,n,h=>by
  by_cases h0:n=0
  . subst h0; simp [Qh8]
  . obtain⟨m,rfl⟩:∃ m,n=m+1:=⟨n - 1,by omega⟩
    have hlt:=Q0s hB h0;simp only [Qh8,if_neg h0];rw [Qe8 f ((m+1) / B) (by omega),Qe8 m ((m+1) / B) (by omega)]
theorem Vs:dig B 0 = []:=by
 have _h:=hB;rfl
theorem Ve {n:Nat} (h:n≠0):dig B n=(n % B)::dig B (n / B):=by
 obtain⟨m,rfl⟩:∃ m,n=m+1:=⟨n - 1,by omega⟩
 have hlt:=Q0s hB h;unfold dig;simp only [Qh8,if_neg h];rw [Qe8 hB m ((m+1) / B) (by omega)]
theorem Zt (n:Nat):Q5 B (dig B n)=n:=by
 induction n using Nat.strongRecOn with
 | ind n ih =>
  by_cases h:n=0
  . subst h; rfl
  . rw [Ve hB h,Gm,ih _ (Q0s hB h)];exact Nat.mod_add_div n B
theorem Qvs {m n:Nat} (h:dig B m=dig B n):m=n:=by rw [<- Zt hB m,<- Zt hB n,h]
theorem Z0y (n:Nat):∀ d∈dig B n,d<B:=by
 induction n using Nat.strongRecOn with
 | ind n ih =>
  by_cases h:n=0
  . subst h; simp [Vs hB]
  . rw [Ve hB h];intro d hd;rcases List.mem_cons.1 hd with h1|h1
    . subst h1; exact Nat.mod_lt _ (by omega)
    . exact ih _ (Q0s hB h) d h1
theorem Z4c {d n:Nat} (hd:d<B) (h:n≠0\/d≠0):dig B (d+B*n)=d::dig B n:=by
 have hne:d+B*n≠0:=by
  rcases h with h|h
  . have:0<B*n:=Nat.mul_pos (by omega) (by omega);omega
  . omega
 rw [Ve hB hne,Nat.add_mul_mod_self_left,Nat.mod_eq_of_lt hd,Nat.add_mul_div_left _ _ (by omega),Nat.div_eq_of_lt hd,Nat.zero_add]
theorem Qvb:∀ (l:List Nat),(∀ d∈l,d<B)->(∀ d,l.getLast? = some d->d≠0)->dig B (Q5 B l)=l
 | [],_,_=>rfl
 | d::l,h,hl=>by
  have h1:=h d (by simp);have hl':∀ e,l.getLast? = some e->e≠0:=fun e he=>hl e (by rw [List.getLast?_cons,he]; rfl);have ih:=Qvb l (fun x hx=>h x (by simp [hx])) hl';rw [Gm,Z4c hB h1,ih]
  cases l with
  | nil=>exact .inr (hl d rfl)
  | cons e l =>
   left;intro h0;rw [h0] at ih;cases ih
theorem Qgf {n d:Nat} (h:(dig B n).getLast? = some d):d≠0:=by
 induction n using Nat.strongRecOn generalizing d with
 | ind n ih =>
  by_cases h0:n=0
  . subst h0; simp [Vs hB] at h
  . rw [Ve hB h0,List.getLast?_cons] at h;by_cases h1:n / B=0
    . rw [h1,Vs hB] at h;simp at h;subst h;have:=Nat.mod_add_div n B;rw [h1] at this;intro h2;rw [h2] at this;simp at this;omega
    . cases hq:(dig B (n / B)).getLast? with
      | none =>
       rw [List.getLast?_eq_none_iff] at hq;rw [Ve hB h1] at hq;cases hq
      | some e =>
       rw [hq] at h;simp at h;subst h;exact ih _ (Q0s hB h0) hq
theorem Z3 {n k:Nat} (h:n<B^k):(dig B n).length<=k:=by
 induction k generalizing n with
 | zero =>
  have:n=0:=by simpa using h
  subst this;simp [Vs hB]
 | succ k ih =>
  by_cases h0:n=0
  . subst h0; simp [Vs hB]
  . rw [Ve hB h0];have:n / B<B^k:=by
     rw [Nat.div_lt_iff_lt_mul (by omega)];rwa [Nat.pow_succ] at h
    have:=ih this;simp only [List.length_cons];omega
theorem Qv {n k:Nat} (h:(dig B n).length<=k):n<B^k:=by
 have h1:=Y6 (dig B n) (Z0y hB n);rw [Zt hB] at h1;exact Nat.lt_of_lt_of_le h1 (Nat.pow_le_pow_right (by omega) h)
theorem Vt {n k:Nat}:k<(dig B n).length↔B^k<=n:=by
 constructor
 . intro h;rcases Nat.lt_or_ge n (B^k) with h1|h1
   . have:=Z3 hB h1; omega
   . exact h1
 . intro h;rcases Nat.lt_or_ge k (dig B n).length with h1|h1
   . exact h1
   . have:=Qv hB h1; omega
theorem K8 {n:Nat} (h:n≠0):0<(dig B n).length:=by rw [Ve hB h]; simp
theorem Q0w {m n:Nat} (h:(dig B m).length<(dig B n).length):m<n :=
 Nat.lt_of_lt_of_le (Qv hB (Nat.le_refl _)) ((Vt hB).1 h)
theorem Qv0:dig B 1 = [1]:=by
 rw [Ve hB (by omega),Nat.mod_eq_of_lt (by omega),Nat.div_eq_of_lt (by omega),Vs hB]
end
theorem V7 (B:Nat) (l:List Nat) (k:Nat):Q5 B l=Q5 B (l.take k)+B^(l.take k).length*Q5 B (l.drop k):=by
 rw [<- Jk,List.take_append_drop]
theorem Q7b {B:Nat} {a b:List Nat} (ha:∀ d∈a,d<B) (hl:a.length=b.length) {k:Nat} (hk:k<a.length) (hlt:a[k]<b[k]'(by omega)) (hd:a.drop (k+1)=b.drop (k+1)):Q5 B a<Q5 B b:=by
 rw [V7 B a (k+1),V7 B b (k+1),hd,Q1w hk,Q1w (by omega)];have e1:(a.take (k+1)).length=k+1:=by simp; omega
 have e2:(b.take (k+1)).length=k+1:=by simp; omega
 rw [e1,e2];have h1:=Y6 (B:=B) (a.take k) (fun d hd=>ha d (List.mem_of_mem_take hd));rw [List.length_take_of_le (by omega)] at h1;have h2:B^k*(a[k]+1)<=B^k*b[k]'(by omega):=Nat.mul_le_mul_left _ hlt;rw [Nat.mul_add] at h2;omega
end Go.Proofs.YtffeegebohigdaaGreat
