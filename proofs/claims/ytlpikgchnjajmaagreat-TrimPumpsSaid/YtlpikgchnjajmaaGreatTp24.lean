/-
  slot: the iterator over a ship's slots, for every body that keeps what lay before.
-/
import Derived.Test.YtlpikgchnjajmaaGreatTp23
set_option linter.all false
set_option maxRecDepth 100000
set_option maxHeartbeats 4000000
namespace Go.Proofs.YtlpikgchnjajmaaGreat
open Go.RowKit Go.Shelf
variable{N T b base c gf i k m n n0 x:Nat}{ρ:Nat->Option Rl}{ra ro:Nat->Prop}{A X:Option Addr}{B C w w' w0:World}
attribute [local go_sem] Oper.semAt_some
def LN(x:Slot):Array Value := #[x.val]
def oz(n0:Nat)(W W':World):Prop:=Below n0 W W'/\∀ (b:Nat) cur,W.heap[b]? = some (.cells cur 5 (0,0))->W'.heap[b]? = some (.cells cur 5 (0,0))
theorem oz.trans{A:World}(h:oz n0 A B)(k:oz n0 B C):oz n0 A C:=⟨h.1.trans k.1,fun b cur hb=>k.2 b cur (h.2 b cur hb)⟩
theorem oz.from{A:World}(h:cU A B)(hn:n0<=A.heap.size):oz n0 A B:=⟨h.mono hn,fun b cur hb=>(h.block b (jz.1 hb).1).trans hb⟩
theorem aq5:vO Tryz.prog 49 12:=⟨_,Tryz.underlying49,by kernel_rfl,by kernel_rfl⟩
theorem aq6:(Tryz.prog.info? 49).map (·.size)=some 12:=by kernel_rfl
theorem aq7{A:World}(h:cU A B):A.grownBy B none:=⟨h.os,h.tape,h.output,h.size,fun k hk _=>h.block k hk⟩
set_option maxHeartbeats 2000000 in
theorem aq8(n0 Bs Bz nc cc)(A)(sz)(css)(ts)(w)(uJ:n0<=w.heap.size)(hs:w.cell? ⟨Bs,0,none⟩=some (.slice A nc cc))(sf:Bs<w.heap.size)(hz:w.heap[Bz]? = some (.cells #[.int .u8 sz] 5 (0,0)))(gS:Rd w n0 12 A css)(LO:css.length=nc)(aj:ts.length=nc)(lW:nc<=1000)(rX:∀ t∈ts,0<=t/\t<=1000)(jb:∀ cs∈css,∀ u∈cs,u.oneCell'=true)(aC:∀ k cs,css[k]? = some cs->∃ v0 v1 v2 v4 v5 v6 v7 v8 v9 v10 v11:Value,cs = [v0,v1,v2,.int .i64 (ts.getD k 0),v4,v5,v6,v7,v8,v9,v10,v11]) :
 SeqStopsK Fence.wide 2 Tryz.prog 336 #[.pointer (some ⟨Bs,0,none⟩),.pointer (some ⟨Bz,0,none⟩)] LN (oz n0) (fun xs=>xs=qb ts sz nc) (fun _=>True) 3000000 w:=fun lp J Jx W hW hJ hJx hY h0=>by
 refine callsIn_of_wp Tryz.func336 rfl trivial ?_ rfl;simp only [Tryz.ntmps336,xt,c9,fE,Nat.reduceAdd,Nat.reduceSub,M9,M8,Nl,Nh,rv,xu];have TA:∀ pre W1 W2,J pre W1->cU W1 W2->J pre W2:=fun pre W1 W2 h1 h2=>hJ pre W1 W2 none h1 (aq7 h2) (fun r e=>by cases e);have nU:W.cell? ⟨Bs,0,none⟩=some (.slice A nc cc):=(hW.cell (p:=⟨Bs,0,none⟩) sf).trans hs;have hz1:W.heap[Bz]? = some (.cells #[.int .u8 sz] 5 (0,0)):=(hW.block Bz (jz.1 hz).1).trans hz;have ac8:Rd W n0 12 A css:=gS.below (hW.mono uJ) (az _);have jG:n0<=W.heap.size:=e8 uJ hW.size;clear hs hz gS hW;refine wpIn_wide.2 ?_
 go_wp2
 go_loopw [12] (fun cv wr=>∃ c:Nat,c<=nc/\cv = .int .i64 c/\J (qb ts sz c) wr/\oz n0 W wr/\W.heap.size<=wr.heap.size) (fun cv _=>nc - (intOf cv).toNat)
 case atStart=>exact⟨0,cm _,rfl,h0,⟨cA _ _,fun b cur h=>h⟩,az _⟩
 case round =>
  obtain⟨c,hc,rfl,hJc,hK,aN⟩:=hrel;by_cases GG:c=nc
  . subst GG;clear hY
    go_wp2
    go_end0
    exact⟨⟨_,rfl⟩,.inl ⟨_,rfl,hJc⟩⟩
  . have EC:(c:Int)<(nc:Int):=oo
    have LK:c<css.length:=oo
    obtain⟨v0,v1,v2,v4,v5,v6,v7,v8,v9,v10,v11,uL⟩:=aC c css[c] (bp LK);obtain⟨g,off,rfl,hg,ada⟩:=Rd.ld aq5 ac8 (bp LK);have wY:=ada wr hK.1;rw [uL] at wY;have htc:=rX (ts.getD c 0) (lG 0 oo);have qX:qb ts sz (c+1)=qb ts sz c++so c sz (ts.getD c 0).toNat:=rfl;obtain⟨T,hT⟩:∃ T:Nat,ts.getD c 0=(T:Int):=⟨(ts.getD c 0).toNat,oo⟩
    rw [hT] at wY qX htc;clear aC ada;have tl:=aX ((Mem.nil wr).alloc 49 [.int .i64 0,.int .i64 0,.bool false,.int .i64 0,.int .i64 0,.int .i64 0,.int .i64 0,.int .i64 0,.slice none 0 0,.int .i64 0,.int .i64 0,.int .i64 0]);have LP:=jb _ (mj LK);rw [uL] at LP;rw [hT] at LP
    go_wp2_with (first
     | ((with_reducible refine qp 49 ?_); refine oM rfl _ _ rfl _ rfl _ wY ?_)
     | ((with_reducible refine xy 49 ?_); refine xO (cs' := [v0,v1,v2,.int .i64 T,v4,v5,v6,v7,v8,v9,v10,v11]) rfl _ _ rfl tl.out 0 rfl rfl rfl aq6 rfl rfl rfl LP ?_; intro w6 h6; have yQ:=aX h6; clear h6)
     | ((with_reducible refine qp 3 ?_); refine oM rfl _ _ rfl _ rfl _ (yQ.out.zE Ek (i:=0) rfl rfl _ (cA _ _)) ?_))
    have LQ:cU wr w6:=yQ.out.from_;have hJ6:=TA _ _ _ hJc LQ;have hK6:=hK.trans (oz.from LQ (e8 jG aN));have hs6:W.heap.size<=w6.heap.size:=e8 aN LQ.size;clear yQ tl wY LP LQ jb ac8
    go_loopw [20] (fun tv wq=>∃ t:Nat,t<=T/\tv = .int .i64 t/\J (qb ts sz c++so c sz t) wq/\oz n0 W wq/\W.heap.size<=wq.heap.size) (fun tv _=>T - (intOf tv).toNat)
    case atStart=>exact⟨0,cm _,rfl,by rw [show so c sz 0 = [] from rfl,qk]; exact hJ6,hK6,hs6⟩
    case round =>
     obtain⟨t,ht,rfl,TB,y3,hst⟩:=hrel;by_cases xD:t=T
     . subst xD;clear hY
       go_wp2
       go_roundw
       case rel=>exact⟨c+1,oo,by simp,by rw [qX]; simpa using TB,y3,hst⟩
       case measure=>simp [intOf]; omega
     . have ax7:(t:Int)<(T:Int):=oo
       have OS:wr.cell? ⟨Bz,0,none⟩=some (.int .u8 sz):=by
        have:=y3.2 Bz _ hz1;simp [World.cell?,this]
       have uK:so c sz (t+1)=so c sz t++vm c t sz:=rfl
       go_wp2_with (go_at_call 309; refine (aq3 sz _).mono ?_; rintro e w7 ⟨A2,c2,rfl,hr7,hb7,LR⟩)
       have hJ7:=TA _ _ _ TB LR;have lT:n0<=wr.heap.size:=e8 jG hst;have hK7:=y3.trans (oz.from LR lT);have hs7:W.heap.size<=w7.heap.size:=e8 hst LR.size;obtain⟨H,hH⟩:∃ H,H=(l8 sz).length:=⟨_,rfl⟩
       have hH2:H<=2:=by rw [hH]; exact Sy sz
       rw [<- hH];have cH:=LM ts sz (fun t h=>(rX t h).2) c;have htl:=Tz c sz t;clear OS y3 TB LR hst lT
       go_loopw [26] (fun hv wh=>∃ h:Nat,h<=H/\hv = .int .i64 h/\J (qb ts sz c++(so c sz t++(vm c t sz).take h)) wh/\oz n0 W wh/\W.heap.size<=wh.heap.size/\oz n0 w7 wh) (fun hv _=>H - (intOf hv).toNat)
       case atStart=>exact⟨0,cm _,rfl,by rw [DJ,qk]; exact hJ7,hK7,hs7,⟨cA _ _,fun b cur h=>h⟩⟩
       case round =>
        obtain⟨h,hh,rfl,GH,hKh,Fl,hk7⟩:=hrel;by_cases ari:h=H
        . have arj:(vm c t sz).take h=vm c t sz:=lL (by rw [Ty]; omega);rw [arj,<- uK] at GH;subst ari;clear hY
          go_wp2
          go_roundw
          case rel=>exact⟨t+1,oo,by simp,GH,hKh,Fl⟩
          case measure=>simp [intOf]; omega
        . have aya:(h:Int)<(H:Int):=oo
          have TC:h<(l8 sz).length:=oo
          obtain⟨g2,o2,hA2,Fk,_,du⟩:=hr7 h _ (by rw [gY,bp TC]; rfl);obtain⟨x,hx⟩:∃ x,x=(l8 sz).getD h 0:=⟨_,rfl⟩
          subst hA2;obtain⟨cur,uh⟩:=hb7 _ rfl;have Wc:wr.cell? ⟨g2,o2+h,none⟩=some (.int .u8 x):=by
           have h1:=du 0 _ rfl;have h2:=hk7.2 g2 cur uh;rw [IC (w:=w7) (w':=wr) (by rw [h2]; exact uh.symm)];rw [hx,ba,bp TC];simpa using h1
          have GI:=aq2 c t sz TC;rw [<- hx] at GI;obtain⟨fn,tmps,assign,body,hy,hR⟩:=hY _ ⟨(c:Int),(t:Int),x⟩ wr GH (by
           rw [ej,ej,c6,Ty]
           omega)
          unfold LN Slot.val at hy;clear hY TA du hr7 hb7 hx hH
          go_upto_region 9 with fail
          refine (wpIn_wide (n:=2)).1 ?_
          gi_wp2
          refine hR.mono ?_
          rintro e W3 (⟨rfl,Iu,C2⟩|⟨rfl,We⟩)
          . rw [gv,GI] at Iu;clear hJx hJ GH hR hy
            gi_wp2
            go_wp2
            go_roundw
            case rel=>exact⟨h+1,oo,by simp,Iu,hKh.trans C2,e8 Fl C2.1.size,hk7.trans C2⟩
            case measure=>simp [intOf]; omega
          . clear hJx hJ GH hR hy
            gi_wp2
            go_wp2
            exact Wg
open Go.RowKit
section
variable{F:Fence}{n:Nat}{P:Program}{w w':World}{ops:Array Oper}{rest:List Oper}{o:Oper}{a:Act}{Q:Exit->Act->World->Prop}{v:Value}
theorem TD(ia:o.guard=none)(T:Nat)(x:Operand)(ho:o.op = .load T x)(ad:Addr)(hx:a.eval x = .pointer (some ad))(v:Value)(ky:(loadVar T ad).run P w = .ok v w)(h:wpListIn F n P ops Q rest (a.put o.dst v) w):wpListIn F n P ops Q (o::rest) a w:=by
 refine wpListIn_plain ia fun K hK => ?_;unfold Oper.wpIn;refine⟨fun f hf=>by simp [Oper.about,ho] at hf,?_⟩;rw [Oper.semAt_plain F _ _ (by rw [ho]; intro c hc; cases hc)];unfold execOp;simp only [ho,hx,Instr.loadAt,Instr.sureAddr,bt,bU,bM,ky];exact hK _ _ h
theorem arl{M:List bV}{g:Nat}{cs cs':List Value}(ia:o.guard=none)(x y:Operand)(ho:o.op = .store T x y)(H:Mem w0 w M)(i:Nat)(hi:M[i]? = some (.box g T cs))(hx:a.eval x = .pointer (some ⟨g,0,.none⟩))(hy:a.eval y=v)(aN:(P.info? T).map (·.size)=some m)(hv:v.cells.toList=cs')(cp:cs'.length=m)(hl:cs.length=m)(h1:∀ u∈cs',u.oneCell'=true)(h:∀ w',Mem w0 w' (M.set i (.box g T cs'))->w.grownBy w' (some g)->wpListIn F n P ops Q rest (a.put o.dst undef) w'):wpListIn F n P ops Q (o::rest) a w:=by
 have hg:=H.cells hi;have hr:=Ic (P:=P) (off:=0) aN hv cp hg (by simp [hl]) h1;refine wpListIn_plain ia fun K hK => ?_;unfold Oper.wpIn;refine⟨fun f hf=>by simp [Oper.about,ho] at hf,?_⟩;rw [Oper.semAt_plain F _ _ (by rw [ho]; intro c hc; cases hc)];unfold execOp;simp only [ho,hx,hy,Instr.storeAt,Instr.sureAddr,bt,bU,bM,hr];have gj:w.grownBy (w.setRow g (List.take 0 cs.toArray.toList++cs'++List.drop (0+m) cs.toArray.toList).toArray) (some g):=⟨rfl,rfl,rfl,by simp,fun k _ hk=>DN w g k _ (fun e=>hk (by simp [e]))⟩
 refine hK _ _ (h _ (H.put i _ hi gj ⟨(H.Oj hi).1,?_⟩ (.inl rfl)) gj);rw [Ny w g _ _ T _ hg];simp [hl,cp]
theorem arn{M:List bV}{t e size bytes cn:Nat}{css news:List (List Value)}(ia:o.guard=none)(s x:Operand)(ho:o.op = .call { callee := .builtin .append,args := #[s,x],argTypes := #[t,t] })(hE:EI P t e size bytes)(n':Nat)(hn:n'=css.length)(hs:a.eval s = .slice A n' c)(H:Mem w0 w M)(i:Nat)(hi:M[i]? = some (.row e size A c css))(hx:a.eval x = .slice X m cn)(hr:Rd w w.heap.size size X news)(hm:m=news.length)(h1:∀ cs∈news,∀ u∈cs,u.oneCell'=true)(nQ:css.length+m<=maxLen)(vM:(css.length+m)*bytes<=140737488355328)(h:∀ A' c' w',Mem w0 w' (M.set i (.row e size A' c' (css++news)))->w.grownBy w' (A.map (·.block))->wpListIn F n P ops Q rest (a.put o.dst (.slice A' (css++news).length c')) w'):wpListIn F n P ops Q (o::rest) a w:=by
 subst hn;obtain⟨A',c',w',cB,h2,h3,h5⟩:=PQ (P:=P) (ty:=o.type) (cn:=cn) hE (H.own hi) w.heap.size hr hm h1 nQ vM H.from_.size;refine wpListIn_plain ia fun K hK => ?_;unfold Oper.wpIn;refine⟨fun f hf=>by simp [Oper.about,ho,resolve,Target.leads,bU] at hf,?_⟩;rw [Oper.semAt_plain F _ _ (by rw [ho]; intro c hc; cases hc)];unfold execOp;simp only [ho,resolve,invoke,builtin,bt,bU,bM,DD,kX,vE,hs,hx,cB];refine hK _ _ (h A' c' w' (H.put i _ hi h3 h2 ?_) h3);rcases h5 with h5|h5
 . exact .inl h5
 . exact .inr fun b hb=>by rw [show (bV.row e size A' c' (css++news)).ca=A'.map (·.block) from rfl,h5.1] at hb; injection hb with hb; omega
end
theorem bV.adi{e:bV}(h:e.ok w base)(hb:e.ca=some b)(bB:∀ s A css,e ≠ .ro s A css):∃ o:Obj,w.heap[b]? = some o/\o.isCells=true:=by
 cases e with
 | row T size A c css =>
  obtain⟨q,hq,rfl⟩:=kV.1 hb;subst hq;rcases h.1.2 with ⟨h2,_⟩|⟨g,cap,cur,h2,_,h4,_⟩
  . cases h2
  . injection h2 with h2;injection h2 with h2;subst h2;exact⟨_,h4,rfl⟩
 | box g T cs =>
  injection hb with hb;subst hb;exact⟨_,h.2,rfl⟩
 | ro size A css=>exact absurd rfl (bB size A css)
def bV.LS:bV->Nat
 | .row T _ _ _ _=>T
 | .box _ T _=>T
 | .ro _ _ _=>0
theorem bV.heap{e:bV}(h:e.ok w base)(hb:e.ca=some b)(bB:∀ s A css,e ≠ .ro s A css):∃ cur,w.heap[b]? = some (.cells cur e.LS (0,0)):=by
 cases e with
 | row T size A c css =>
  obtain⟨q,hq,rfl⟩:=kV.1 hb;subst hq;rcases h.1.2 with ⟨h2,_⟩|⟨g,cap,cur,h2,_,h4,_⟩
  . cases h2
  . injection h2 with h2;injection h2 with h2;subst h2;exact⟨_,h4⟩
 | box g T cs =>
  injection hb with hb;subst hb;exact⟨_,h.2⟩
 | ro size A css=>exact absurd rfl (bB size A css)
theorem Mem.step{M:List bV}(h:Mem w0 w M){e:bV}(hi:M[i]? = some e)(bB:∀ s A css,e ≠ .ro s A css)(hg:w.grownBy w' e.ca) :
 KeepsOthers w w'/\Below w0.heap.size w w'/\∀ (T b:Nat) cur,T≠e.LS->w.heap[b]? = some (.cells cur T (0,0))->w'.heap[b]? = some (.cells cur T (0,0)):=by
 have bS:=h.ok _ (gX hi);refine⟨KeepsOthers.of_grownBy hg fun j o hj ho => ?_,(cA _ _).grown hg h.from_.size fun k hk=>(bV.lt bS hk).1,fun T b cur hT hb=>(hg.block b (jz.1 hb).1 fun e1 => ?_).trans hb⟩
 . obtain⟨o',ho',hc⟩:=bV.adi bS hj bB;rw [ho] at ho';cases ho';exact hc
 . obtain⟨m6,h1⟩:=bV.heap bS e1.symm bB;rw [hb] at h1;cases h1;exact hT rfl
theorem Mem.grown{M:List bV}{row:Option Nat}(h:Mem w0 w M)(bB:∀ e∈M,∀ s A css,e ≠ .ro s A css)(hg:w.grownBy w' row)(hr:∀ r,row=some r->w0.heap.size<=r/\∃ o:Obj,w.heap[r]? = some o/\o.isCells=false):Mem w0 w' M:=by
 refine⟨h.from_.grown hg h.from_.size fun k e=>(hr k e).1,fun e he=>bV.jA (h.ok e he) fun b hb => ?_,h.apart⟩;refine hg.block b (bV.lt (h.ok e he) hb).2 fun e1 => ?_;obtain⟨o,ho,hc⟩:=(hr b e1.symm).2;obtain⟨o',ho',BE⟩:=bV.adi (h.ok e he) hb (bB e he);rw [ho] at ho';cases ho';rw [hc] at BE;cases BE
theorem aro{A:World}(h:Below A.heap.size A B):A.grownBy B none:=⟨h.os,h.tape,h.output,h.size,fun k hk _=>h.block k hk⟩
section
variable{F:Fence}{n:Nat}{P:Program}{α:Type}
theorem arp{g:Operand}{ps:Array Tmp}{assign body:Code}{Q:Exit->Act->World->Prop}{a:Act}(bB:F.round=none)(h1:1<=n){lb:Array Value}(hg:a.eval g = .func (.func gf) #[] lb)(N5:F.fn gf)(eg:∀ args W,(callFunc gf args).run P W = .ok (.enter gf args) W){encs : α->Array Value}{Kp:World->World->Prop}{S Sp:List α->Prop}(N6:SeqStopsK F (n - 1) P gf lb encs Kp S Sp N w0)(y3:∀ {A B C:World},Kp A B->Kp B C->Kp A C)(hKb:∀ (W:World) (l:Nat) (o o':Obj),w.heap.size<=l->W.heap[l]? = some o->o.isCells=false->Kp W (W.putObj l o'))(jD:Below w0.heap.size w0 w)(vR:∀ x,(encs x).size=ps.size)(I:List α->World->Prop)(hI:OwnFrom w.heap.size I)(hKf:∀ pre W W1,I pre W->Below W.heap.size W W1->Kp W W1)(h0:I [] w)(box : α->Obj)(a₁ : Nat -> α->Act)(D9:∀ (l:Nat) (x : α) (W:World) (K:Act->World->Prop),(∀ W1,Below W.heap.size W W1->W1.heap[W.heap.size]? = some (box x)->K (a₁ W.heap.size x) W1)->assign.wpIn (F.inRound l) (n - 1 - 1) P (Exit.then K (fun _ _ _=>False)) { tmps:=(ps.zip (encs x)).foldl (fun t (p,v)=>t.setIfInBounds p v) a.tmps,defers := [] } W)(vS:∀ (l:Nat) (pre:List α) (x : α) (b:Nat) (W:World),I pre W->pre.length<N->W.heap[b]? = some (box x)->body.wpIn (F.inRound l) (n - 1 - 1) P (fun e _ W2=>e = .normal/\KeepsOthers W W2/\Kp W W2/\I (pre ++ [x]) W2) (a₁ b x) W)(xE:∀ (D:Nat) (xs:List α) (W:World),w.heap.size<=D->S xs->I xs W->W.heap[D]? = some (.deferred (some []))->Q .normal { a with defers := { target := .collected D,args := #[] }::a.defers } W) :
 (Code.rangeFunc g ps assign body).wpIn F n P Q a w:=by
 refine wpIn_rangeFunc fun fn uo => ?_;rw [bB];obtain⟨r,hr⟩:∃ r:Loop,r = { state := .ready,pending:=none,fn:=fn,tmps:=a.tmps,params:=ps,assign:=assign,body:=body,defers:=w.heap.size }:=⟨_,rfl⟩
 have vT:=run_enterLoop_outer (P:=P) (w:=w) fn a.tmps ps assign body;rw [<- hr] at vT;have kZ:((w.alloc (.deferred (some []))).alloc (.loop r)).heap[w.heap.size+1]? = some (.loop r):=by
  have:=World.alloc_heap_new (w.alloc (.deferred (some []))) (.loop r);rwa [qi] at this
 have um:((w.alloc (.deferred (some []))).alloc (.loop r)).heap[w.heap.size]? = some (.deferred (some [])):=(qj _ _ _ (by simp)).trans (World.alloc_heap_new w _);have sI:I [] ((w.alloc (.deferred (some []))).alloc (.loop r)):=hI.alloc _ (hI.alloc _ h0);have N7:Below w0.heap.size w0 ((w.alloc (.deferred (some []))).alloc (.loop r)):=jD.trans ((((cA _ w).alloc (az _) _).alloc (by simp) _).mono jD.size);have TE:w.heap.size<=((w.alloc (.deferred (some []))).alloc (.loop r)).heap.size:=by simp; omega
 generalize (w.alloc (.deferred (some []))).alloc (.loop r)=W0 at *
 refine⟨w.heap.size+1,[{ target := .collected w.heap.size,args := #[] }],W0,{ target := .fn (.func gf) lb,args := #[.func (.yield (w.heap.size+1)) #[] #[]] },W0,gf,#[.func (.yield (w.heap.size+1)) #[] #[]]++lb,W0,vT,?_,?_,?_,fun _=>h1,?_⟩
 . simp only [resolve,hg];simp [go_sem]
 . intro f' qt;simp [Target.leads] at qt;rw [<- qt];exact N5
 . simp [invoke,go_sem,eg]
 . have FC:∀ {A B:World} {row:Option Nat},(∀ r,row=some r->W0.heap.size<=r/\∃ o:Obj,A.heap[r]? = some o/\o.isWalk=true)->(∀ r,row=some r->w.heap.size<=r/\∃ o:Obj,A.heap[r]? = some o/\o.isCells=false) :=
    fun hr r e=>by obtain⟨hB,o,ho,hw⟩:=hr r e; exact⟨oo,o,ho,Obj.not_cells_of_walk hw⟩
   refine (N6 (w.heap.size+1) (fun pre W=>I pre W/\W.heap[w.heap.size+1]? = some (.loop r)/\W.heap[w.heap.size]? = some (.deferred (some []))) (fun _ _=>False) W0 N7
    (fun s A B row hs rH l4=>⟨hI s A B row hs.1 rH (FC (B:=B) l4),(grownBy_keeps rH (fun r e=>(l4 r e).2) hs.2.1 rfl).trans hs.2.1,(grownBy_keeps rH (fun r e=>(l4 r e).2) hs.2.2 rfl).trans hs.2.2⟩)
    (fun s A B row hs rH l4=>hs) ?_ ⟨sI,kZ,um⟩).mono ?_
   . rintro pre x W ⟨hi,hl,hk⟩ hlen
     have aj:w.heap.size+1<W.heap.size:=(jz.1 hl).1;have hy:=run_yield (P:=P) (args:=encs x) hl (by rw [hr]; exact vR x);rw [hr] at hy;refine⟨fn,_,assign,body,hy,roundIn_of_wpIn uo (D9 _ x W _ fun W1 hf uq => ?_)⟩;have uI:W1.heap[w.heap.size+1]? = some (.loop r):=(hf.block _ aj).trans hl;have cZ:W1.heap[w.heap.size]? = some (.deferred (some [])):=(hf.block _ oo).trans hk;have BK:I pre W1:=hI _ _ _ none hi (aro hf) (fun _ e=>by cases e);have GG:=(jz.1 uI).1;refine⟨_,run_beginRound uI (by rw [hr]),?_⟩;have uG:(W1.putObj (w.heap.size+1) (.loop { r with state := .busy })).heap[w.heap.size+1]? = some (.loop { r with state := .busy }):=World.putObj_heap_same GG;have cg:(W1.putObj (w.heap.size+1) (.loop { r with state := .busy })).heap[w.heap.size]? = some (.deferred (some [])):=(World.putObj_heap_other oo).trans cZ;have fu:(W1.putObj (w.heap.size+1) (.loop { r with state := .busy })).heap[W.heap.size]? = some (box x):=(World.putObj_heap_other oo).trans uq;have hkp:Kp W (W1.putObj (w.heap.size+1) (.loop { r with state := .busy })):=y3 (hKf _ _ _ hi hf) (hKb _ _ _ _ oo uI rfl);refine wpIn_mono (vS _ pre x _ _ (hI.putObj _ BK oo uI rfl) hlen fu) ?_
     rintro e a3 W3 ⟨rfl,C2,ars,hi3⟩
     have rK:=C2.same _ _ uG rfl;have xD:=(jz.1 rK).1;refine⟨_,_,run_endRound (P:=P) none rK,.inl ⟨rfl,⟨hI.putObj _ hi3 oo rK rfl,?_,?_⟩,y3 (y3 hkp ars) (hKb _ _ _ _ oo rK rfl)⟩⟩
     . rw [World.putObj_heap_same xD,hr];rfl
     . exact (World.putObj_heap_other oo).trans (C2.same _ _ cg rfl)
   . rintro e W2 ⟨⟨v,rfl⟩,⟨xs,hS,hi,hl,hk⟩|⟨pre,_,h⟩⟩
     . have N8:r.pending=none:=by rw [hr]
       have gR:=run_endLoop (P:=P) hl (by rw [hr]; simp);rw [N8] at gR;exact⟨none,_,gR,xE _ xs _ (az _) hS (hI.putObj _ hi oo hl rfl) ((World.putObj_heap_other oo).trans hk)⟩
     . exact h.elim
end
open Go.Shelf
attribute [local go_sem] Oper.semAt_some
set_option maxHeartbeats 2000000 in
theorem aru(nc cc)(A)(sz)(css)(ts)(w)(v1 v2 v3 v4 v5 v6 v7 v8 v9 v10 v11 qc)(gS:Rd w w.heap.size 12 A css)(LO:css.length=nc)(aj:ts.length=nc)(lW:nc<=1000)(rX:∀ t∈ts,0<=t/\t<=1000)(jb:∀ cs∈css,∀ u∈cs,u.oneCell'=true)(aC:∀ k cs,css[k]? = some cs->∃ v0 v1 v2 v4 v5 v6 v7 v8 v9 v10 v11:Value,cs = [v0,v1,v2,.int .i64 (ts.getD k 0),v4,v5,v6,v7,v8,v9,v10,v11]) :
 Calls Tryz.prog 240 #[.agg #[.slice A nc cc,v1,v2,v3,v4,v5,v6,v7,v8,v9,v10,v11,qc],.int .u8 sz] w fun e w'=>∃ D d,e = .returned (.slice D (qb ts sz nc).length d)/\cy w' w.heap.size 96 3 D d ((qb ts sz nc).map Slot.cells)/\cU w w':=by
 refine (callsIn_wide (n:=3)).1 ?_;refine callsIn_of_wp_marks Tryz.func240 rfl trivial ?_ rfl;simp only [Tryz.ntmps240,xt,c9,fE,Nat.reduceAdd,Nat.reduceSub,M9,M8,Nl,Nh,rv,xu];have yU:=aX gS;have HCS:=aX aC;have adk:=aX jb;clear gS aC jb
 gi_wp2_with (refine⟨trivial,?_⟩; gi_at_call 295; refine (callsIn_wide.2 (aq4 _ _ rfl _ _)).mono ?_; rintro e w' ⟨rfl,rfl⟩)
 obtain⟨sv,uK⟩:∃ sv:Value,sv = .agg #[.slice A nc cc,v1,v2,v3,v4,v5,v6,v7,v8,v9,v10,v11,qc]:=⟨_,rfl⟩
 rw [<- uK];have HM:=(((Mem.nil w).any (.cells #[.slice A nc cc,v1,v2,v3,v4,v5,v6,v7,v8,v9,v10,v11,qc] 32 (0,0))).alloc 327 [.slice none 0 0]).none 96 3;have tn:=(HM.any (.cells #[.slice A nc cc,v1,v2,v3,v4,v5,v6,v7,v8,v9,v10,v11,qc] 32 (0,0))).any (.cells #[.int .u8 sz] 5 (0,0));rw [qi] at tn;have hsA:(((w.alloc (.cells #[.slice A nc cc,v1,v2,v3,v4,v5,v6,v7,v8,v9,v10,v11,qc] 32 (0,0))).alloc (.cells #[.slice none 0 0] 327)).alloc (.cells #[.slice A nc cc,v1,v2,v3,v4,v5,v6,v7,v8,v9,v10,v11,qc] 32 (0,0))).heap[w.heap.size+1+1]? = some (.cells #[.slice A nc cc,v1,v2,v3,v4,v5,v6,v7,v8,v9,v10,v11,qc] 32 (0,0)):=by
  have:=World.alloc_heap_new ((w.alloc (.cells #[.slice A nc cc,v1,v2,v3,v4,v5,v6,v7,v8,v9,v10,v11,qc] 32 (0,0))).alloc (.cells #[.slice none 0 0] 327)) (.cells #[.slice A nc cc,v1,v2,v3,v4,v5,v6,v7,v8,v9,v10,v11,qc] 32 (0,0));rwa [qi,qi] at this
 obtain⟨wS,GJ⟩:∃ wS,wS=(((w.alloc (.cells #[.slice A nc cc,v1,v2,v3,v4,v5,v6,v7,v8,v9,v10,v11,qc] 32 (0,0))).alloc (.cells #[.slice none 0 0] 327)).alloc (.cells #[.slice A nc cc,v1,v2,v3,v4,v5,v6,v7,v8,v9,v10,v11,qc] 32 (0,0))).alloc (.cells #[.int .u8 sz] 5 (0,0)):=⟨_,rfl⟩
 have ayb:wS.heap.size=w.heap.size+4:=by rw [GJ]; simp
 have hcS:wS.cell? ⟨w.heap.size+1+1,0,none⟩=some (.slice A nc cc):=by
  have h1:wS.heap[w.heap.size+1+1]? = some (.cells #[.slice A nc cc,v1,v2,v3,v4,v5,v6,v7,v8,v9,v10,v11,qc] 32 (0,0)):=by
   rw [GJ];exact (qj _ _ _ (by simp)).trans hsA
  simp [World.cell?,h1]
 have hzS:wS.heap[w.heap.size+1+1+1]? = some (.cells #[.int .u8 sz] 5 (0,0)):=by
  have:=World.alloc_heap_new (((w.alloc (.cells #[.slice A nc cc,v1,v2,v3,v4,v5,v6,v7,v8,v9,v10,v11,qc] 32 (0,0))).alloc (.cells #[.slice none 0 0] 327)).alloc (.cells #[.slice A nc cc,v1,v2,v3,v4,v5,v6,v7,v8,v9,v10,v11,qc] 32 (0,0))) (.cells #[.int .u8 sz] 5 (0,0));rw [qi,qi,qi] at this;rw [GJ];exact this
 rw [<- GJ] at tn ⊢;clear GJ hsA HM;have ado:Rd wS w.heap.size 12 A css:=yU.out.below tn.from_ (az _);have hlen:(qb ts sz nc).length<=2000000:=by
  have:=LM ts sz (fun t h=>(rX t h).2) nc;omega
 refine arp (F:=Fence.wide) (n:=3) (ps := #[10]) (encs:=LN) rfl (by decide) (gf:=336) (lb := #[.pointer (some ⟨w.heap.size+1+1,0,none⟩),.pointer (some ⟨w.heap.size+1+1+1,0,none⟩)]) rfl trivial (enters_of Tryz.func336 (by kernel_rfl) rfl)
  (aq8 w.heap.size _ _ nc cc A sz css ts wS oo hcS oo hzS ado LO aj lW rX adk.out HCS.out) (fun h k=>h.trans k) ?hKb (cA _ _) (fun _=>rfl)
  (fun pre W=>∃ D d,Mem w W [.row 96 3 D d (pre.map Slot.cells),.box (w.heap.size+1) 327 [.slice D pre.length d]]) ?hI ?hKf ⟨none,0,tn⟩ (fun x => .cells #[.int .i64 x.ax,.int .i64 x.aF,.int .u8 x.half] 96 (0,0))
  (fun b x => { tmps := #[sv,.int .u8 sz,.pointer (some ⟨w.heap.size,0,none⟩),undef,.slice none 0 0,.pointer (some ⟨w.heap.size+1,0,none⟩),.pointer (some ⟨b,0,none⟩),sv,.int .u8 sz,.func (.func 336) #[] #[.pointer (some ⟨w.heap.size+1+1,0,none⟩),.pointer (some ⟨w.heap.size+1+1+1,0,none⟩)],x.val,undef,undef,undef,undef,undef],defers := [] }) ?assign ?body ?done
 case hKb =>
  intro W l o o' hl ho hc;refine⟨(cA _ W).grown (grownBy_putObj' W l o') (by have:=(jz.1 ho).1; omega) (fun k e=>by cases e; omega),fun b cur hb=>(World.putObj_heap_other (fun e => ?_)).trans hb⟩;subst e;rw [hb] at ho;cases ho;cases hc
 case hI =>
  rintro pre W W' row ⟨D,d,h⟩ hg hr
  exact⟨D,d,h.grown (fun e he s A css h1=>by
   simp only [fZ,No,Ib] at he;rcases he with rfl|rfl<;>cases h1) hg (fun r e=>⟨by have:=(hr r e).1; omega,(hr r e).2⟩)⟩
 case hKf =>
  rintro pre W W1 ⟨D,d,h⟩ hb
  exact oz.from hb h.from_.size
 case assign =>
  intro l x W K hK;have HMa:=aX ((Mem.nil W).alloc 96 [.int .i64 0,.int .i64 0,.int .u8 0]);subst uK;unfold LN Slot.val
  gi_wp2
  exact hK _ ((cA _ W).alloc (az _) _) (World.alloc_heap_new _ _)
 case body =>
  rintro l pre x b W ⟨D,d,h⟩ GG uq
  have TF:ur Tryz.prog 327=true:=by kernel_rfl
  have hci:(Tryz.prog.info? 327).map (·.size)=some 1:=by kernel_rfl
  have HX:Hid ((loadVar 96 ⟨b,0,none⟩).run Tryz.prog W = .ok x.val W):=NA Slot.row (cs:=x.cells) rfl (fun j u hu=>by
   rw [show (⟨b,0,none⟩:Addr).add j=⟨b,j,none⟩ from by rw [Ed,hZ]];simp only [World.cell?,uq];simpa [Slot.cells] using hu)
  have HM:=aX h;have HA:=aX (h.any (.cells #[.int .i64 x.ax,.int .i64 x.aF,.int .u8 x.half] 96 (0,0)));have cO:(pre.map Slot.cells).length+1<=3000000:=by rw [iQ]; omega
  clear h uq GG
  gi_wp2_with (first
   | (refine TD rfl 327 _ rfl _ rfl _ (HM.out.zE TF (i:=1) rfl rfl _ (cA _ _)) ?_)
   | (refine TD rfl 96 _ rfl _ rfl _ HX.out ?_)
   | (refine arn rfl _ _ rfl Slot.ei pre.length (by rw [iQ]) rfl HA.out 0 rfl rfl (Rd.rows (css := [x.cells]) (ry W _) rfl (by simp [Slot.cells])) rfl (by simp [Slot.cells,Value.oneCell']) (by unfold maxLen; omega) oo ?_; intro A' c' w5 h5 hg5; have HB:=aX h5; have HG5:=aX hg5; clear h5 hg5)
   | (refine arl (cs' := [.slice A' (pre.map Slot.cells ++ [x.cells]).length c']) rfl _ _ rfl HB.out 1 rfl rfl rfl hci rfl rfl rfl (by simp [Value.oneCell']) ?_; intro w6 h6 hg6))
  have s5:=HA.out.step (i:=0) rfl (fun s A css h=>by cases h) HG5.out;have s6:=HB.out.step (i:=1) rfl (fun s A css h=>by cases h) hg6;have cK:cU W (W.alloc (.cells #[.int .i64 x.ax,.int .i64 x.aF,.int .u8 x.half] 96 (0,0))):=(cA _ W).alloc (az _) _;refine⟨(KeepsOthers.alloc W _).trans (s5.1.trans s6.1),(oz.from cK HM.out.from_.size).trans (oz.trans ⟨s5.2.1,fun b cur hb=>s5.2.2 _ b cur (by simp [bV.LS]) hb⟩ ⟨s6.2.1,fun b cur hb=>s6.2.2 _ b cur (by simp [bV.LS]) hb⟩),A',c',?_⟩;simpa using h6
 case done =>
  rintro D0 xs W hD rfl ⟨D,d,h⟩ hK
  have TF:ur Tryz.prog 327=true:=by kernel_rfl
  have HM:=aX h;clear yU HCS adk ado hcS hzS tn
  gi_wp2_with (refine TD rfl 327 _ rfl _ rfl _ (HM.out.zE TF (i:=1) rfl rfl _ (cA _ _)) ?_)
  refine⟨by simp,.inl ⟨_,_,rfl,run_takeDeferred hK,?_⟩⟩;have hM3:=HM.out.grown (fun e he s A css h1=>by
   simp only [fZ,No,Ib] at he;rcases he with rfl|rfl<;>cases h1) (grownBy_putObj' W D0 (.deferred none)) (fun r e=>by cases e; exact⟨oo,_,hK,rfl⟩)
  refine⟨.slice D (qb ts sz nc).length d,?_,D,d,rfl,hM3.own (i:=0) rfl,hM3.from_⟩;simp [results,Tryz.f240,go_sem]
open Go.RowKit
def nH(p:iT):Prop:=(0<=p.cV/\p.cV<=255)/\(0<=p.row/\p.row<=255)/\0<=p.cW/\p.cW<=255
def ph(p:iT):dp:=⟨p.cV % 5,p.row % 5,p.fv,2+p.cW % 4,0,500000000,500000000,0,[],13000*(p.cV % 5) - 26000,2500*(p.row % 5) - 5000,cond p.fv 20000 2000⟩
def iN(l:List iT):Nat->List dp
 | 0 => []
 | k+1=>cond (sm (iN l k) (ph (l.getD k Tc.fc.aa)).cV (ph (l.getD k Tc.fc.aa)).row (l.getD k Tc.fc.aa).fv).isEmpty (iN l k ++ [ph (l.getD k Tc.fc.aa)]) (iN l k)
theorem TG(l):∀ k,(iN l k).length<=k
 | 0=>az _
 | k+1=>by
  unfold iN;have:=TG l k
  cases (sm (iN l k) (ph (l.getD k Tc.fc.aa)).cV (ph (l.getD k Tc.fc.aa)).row (l.getD k Tc.fc.aa).fv).isEmpty with
  | true=>simp only [eG,ej,c9,fE]; omega
  | false=>simp only [fG]; omega
def LU:dp:=⟨0,0,false,3,0,500000000,500000000,0,[],0,0,2000⟩
def pj(l:List iT):List dp:=cond (iN l (min l.length 12)).isEmpty [LU] (iN l (min l.length 12))
def tw(n k:Int):Bool:=decide (sP BinOp.and IntKind.u32 (lV BinOp.shr IntKind.u32 n k) 1=1)
def pk(n:Int):Nat->List lg
 | 0 => []
 | k+1=>pk n k++cond (tw n (2*k)) [⟨(k:Int),[0,1]⟩] []++cond (tw n (2*k+1)) [⟨(k:Int),[2,3,4]⟩] []
theorem TH(n):∀ k,(pk n k).length<=2*k
 | 0=>az _
 | k+1=>by
  unfold pk;have:=TH n k;cases tw n (2*k)<;>cases tw n (2*k+1)<;>simp only [eG,fG,ej,c9,fE]<;>omega
def vn(l:List iT)(n:Int):aZ:=⟨pj l,pk n 5,0,0,0,0,[],[],[],0,0,0,0⟩
def adr(x y:AV):List AV := [x,y,.lit .i64 0,.lit .i64 0,.lit .i64 0,.lit .i64 0,.nil,.nil,.nil,.lit .i64 0,.lit .i64 0,.lit .i64 0,.lit .i64 0]
def ary(l:List iT)(m:Nat):Lp where
 X:=Nat
 ov k := [(18,.int .i64 fun _=>(k:Int))]
 oe k := [(1,.box 32 (adr (.own 2) .nil)),(2,.row true .ax 49 fun _=>iN l k)]
 I k:=k<=m
 μ k _:=m - k
 x0:=0
 nx:=some fun k=>k+1
def ads(n:Int)(c d:Nat):Lp where
 X:=Nat
 ov j := [(11,.int .i64 fun _=>(j:Int))]
 oe j := [(1,.box 32 (adr (.own c) (.own d))),(d,.row true .e9 175 fun _=>pk n j)]
 I j:=j<=5
 μ j _:=5 - j
 x0:=0
 nx:=some fun j=>j+1
def adt:aH:=df 141 abb RT (fun l n=>(∀ p∈l (),nH p)/\(0<=n ()/\n ()<=4294967295)/\(l ()).length<=140737488351232) (fun l n => .agg (CI fun _=>vn (l ()) (n ())))
theorem arz:aK Tryz.prog adt:=by
 refine eE { jn := [] } [ac6] ⟨aq0,trivial⟩ [] trivial Tryz.func141 (by kernel_rfl) fun ai res h hp => ?_;obtain⟨(l:List iT),(n:Int),rfl,rfl⟩:=dz h;clear h;have TJ:(∀ p∈l,nH p)/\(0<=n/\n<=4294967295)/\l.length<=140737488351232:=hp;have hw:=TJ.1;have hn:=TJ.2.1;have hl:=TJ.2.2;refine cL (min l.length 12) fun m hm => ?_;refine⟨[(3,ary l m)],?_⟩;have AS:(bif decide ((12:Int)<(l.length:Int)) then (12:Int) else (l.length:Int))=(m:Int):=by
  by_cases h:(12:Int)<(l.length:Int)
  . rw [c8 h,eG]; omega
  . exact LV
 conv=>arg 1; cbv
 simp (maxSteps:=4000000) only [aB];refine⟨by rw [AS]; omega,⟨cm _,rfl,rfl⟩,fun (k:Nat) hk => ?_⟩;have fP:k<=m:=hk
 conv=>arg 1; cbv
 simp (maxSteps:=4000000) only [aB];refine⟨fun g => ?_,fun g=>⟨fun h0 => ?_,fun h0 => ?_⟩⟩
 . have xd:k<m:=oo
   have lO:k<l.length:=oo
   have hq:nH (l.getD k Tc.fc.aa):=hw _ (by
    rw [ba,bp lO];exact mj _)
   have hlen:=TG l k;have qX:iN l (k+1)=cond (sm (iN l k) (ph (l.getD k Tc.fc.aa)).cV (ph (l.getD k Tc.fc.aa)).row (l.getD k Tc.fc.aa).fv).isEmpty (iN l k ++ [ph (l.getD k Tc.fc.aa)]) (iN l k):=rfl;generalize l.getD k Tc.fc.aa=p at hq qX ⊢;obtain⟨cV,row,cW,fv⟩:=p;simp only [ph] at qX;simp only [nH] at hq;have t1:cV.tmod 5=cV % 5:=HG hq.1.1;have t2:row.tmod 5=row % 5:=HG hq.2.1.1;have t3:cW.tmod 4=cW % 4:=HG hq.2.2.1;simp only [t1,t2,t3,qX,c9,fE];generalize iN l k=cs at hlen ⊢;cases fv<;>cases (sm cs (cV % 5) (row % 5) _).isEmpty<;>simp only [eG,fG,gA,Ns,dS,Vs,reduceCtorEq,Vv,Vx,aS,aR,forall_const,aY]<;>omega
 . have oP:pj l = [LU]:=by
    unfold pj;rw [hm,<- (show k=m from oo),xp (show (iN l k).length=0 from oo)];rfl
   refine⟨ads n 3 4,?_⟩
   exact no_implicit_lambda% s_5
 . have oP:pj l=iN l k:=by
    unfold pj;rw [hm,<- (show k=m from oo)]
    cases hE:iN l k with
    | nil=>rw [hE] at h0; exact absurd rfl h0
    | cons x xs=>rfl
   refine⟨ads n 2 3,?_⟩
   exact no_implicit_lambda% s_5
def y4(cs:List dp)(sz:Int):List Slot:=qb (cs.map (·.cW)) sz cs.length
theorem arA{t:Tc}{l:Unit->List t.el}(f)(ht:∀ x,(aO true t fun _=>x).all AV.flat=true)(hf:∀ x,(aO true t fun _=>x).map AV.valOf=f x)(ho:cy w' w.heap.size T t.size A c ((l ()).map f)):ah w' ρ w.heap.size (fun b=>ra b\/w.heap.size<=b) (.sl true t l) (.slice A (l ()).length c):=by
 refine .sl true t l A c ((l ()).map f) (by simp) ?_ ho.rd (fun a ha _ => .inr (ho.lt ha).1) (fun _ a ha _=>(ho.lt ha).1) fun k cs j x v hk hx hv => ?_
 . rcases ho.1.2 with ⟨h2,h3⟩|⟨g,cap,cur,h2,h3,_,h5,_⟩
   . rw [h3];exact cm _
   . injection h2 with _ _ h6;rw [h6];exact h5
 . rw [gY] at hk
   cases nS:(l ())[k]? with
   | none=>rw [nS] at hk; cases hk
   | some y =>
    rw [nS] at hk;injection hk with hk;subst hk;have hy:(l ()).getD k t.aa=y:=by rw [ba,nS]; rfl
    rw [hy] at hx;have hE:aQ w' ρ w.heap.size (fun b=>ra b\/w.heap.size<=b) (aO true t fun _=>y) (f y):=by
     rw [<- hf];exact FZ (ht y)
    exact hE.2 j x v hx hv
theorem ah.arB{v:Value}{fr:Bool}{l:Unit->List dp}(h:ah w ρ base ro (.sl fr .ax l) v):∃ A c css,v = .slice A (l ()).length c/\css.length=(l ()).length/\Rd w w.heap.size 12 A css/\(∀ cs∈css,∀ u∈cs,u.oneCell'=true) /\
 ∀ k cs,css[k]? = some cs->∃ v0 v1 v2 v4 v5 v6 v7 v8 v9 v10 v11:Value,cs = [v0,v1,v2,.int .i64 (((l ()).map (·.cW)).getD k 0),v4,v5,v6,v7,v8,v9,v10,v11]:=by
 cases h with
 | sl _ _ _ A c css hl hc hr bB cK h =>
  refine⟨A,c,css,rfl,hl,hr,E1 hr h,fun k cs hk => ?_⟩;have hlen:cs.length=12:=hr.len cs (gX hk);have lO:k<(l ()).length:=by have:=(cM.1 hk).1; omega
  match cs,hlen with
  | [v0,v1,v2,v3,v4,v5,v6,v7,v8,v9,v10,v11],_ =>
   have h3:=h k _ 3 _ v3 hk rfl rfl;have e3:=h3.iA;refine⟨v0,v1,v2,v4,v5,v6,v7,v8,v9,v10,v11,?_⟩;rw [e3];simp only [ba,gY,bp lO,dv,gZ]
def adv:aH:=df 240 ou u1 (fun s _=>(s ()).aE.length<=1000/\∀ c∈(s ()).aE,0<=c.cW/\c.cW<=1000) (fun s sz => .sl true .slot fun _=>y4 (s ()).aE (sz ()))
theorem arC:aK Tryz.prog adv:=by
 refine AB Tryz.func240 (by kernel_rfl) fun ai res h w ra dt hE hp => ?_;obtain⟨(s:aZ),(sz:Int),rfl,rfl⟩:=dz h;clear h;obtain⟨v0,ve,rfl,jP,h0⟩:=hE.head;obtain⟨v1,Ss,rfl,rJ,h1⟩:=h0.head;obtain rfl:=h1.none;obtain rfl:=rJ.iA;obtain⟨vs,rfl,rO⟩:=jP.oS;have GC:s.aE.length<=1000/\∀ c∈s.aE,0<=c.cW/\c.cW<=1000:=hp;have kf:=GC.1;have jO:=GC.2;have arD:vs.length=13:=rO.1.symm
 match vs,arD with
 | [w0,w1,w2,w3,w4,w5,w6,w7,w8,w9,w10,w11,w12],_ =>
  obtain⟨A,c,css,e0,e1,e2,e3,e4⟩:=(rO.2 0 _ w0 rfl rfl).arB;subst e0;exact (aru _ c A sz css (s.aE.map (·.cW)) w w1 w2 w3 w4 w5 w6 w7 w8 w9 w10 w11 w12 e2 e1 (by simp) kf (fun t ht=>by
   obtain⟨c,hc,rfl⟩:=iq.1 ht;exact jO c hc) e3 e4).mono fun e w' ⟨D,d,k1,k2,k3⟩=>⟨_,k1,k3,arA (t := .slot) (l:=fun _=>y4 s.aE sz) Slot.cells (fun _=>rfl) (fun _=>rfl) k2⟩
structure y5 where
 x:bH
 y:bH
 z:bH
def LW:y5:=⟨fH,fH,fH⟩
def findF(l:Ld):y5×Int:=if cC l then if l.af=0 then (LW,6) else (⟨(fI l.x l.af).1,(fI l.y l.af).1,(fI l.z (2*l.af)).1⟩,0) else (LW,2)
theorem eight{l:List Nat}(hl:l.length=8):∃ a0 a1 a2 a3 a4 a5 a6 a7,l = [a0,a1,a2,a3,a4,a5,a6,a7]:=by
 match l,hl with
 | [a0,a1,a2,a3,a4,a5,a6,a7],_=>exact⟨_,_,_,_,_,_,_,_,rfl⟩
def al(n i:Nat):Int:=(pad ae 8 n).getD i 0
theorem fW:∀ i,i<8->al 0 i=0:=by decide
def kj(f:Unit->bH):List AV := [.bool fun _=>(f ()).neg,.int .u32 fun _=>al (f ()).num 0,.int .u32 fun _=>al (f ()).num 1,.int .u32 fun _=>al (f ()).num 2,.int .u32 fun _=>al (f ()).num 3,.int .u32 fun _=>al (f ()).num 4,.int .u32 fun _=>al (f ()).num 5,.int .u32 fun _=>al (f ()).num 6,.int .u32 fun _=>al (f ()).num 7,.int .u32 fun _=>al (f ()).den 0,.int .u32 fun _=>al (f ()).den 1,.int .u32 fun _=>al (f ()).den 2,.int .u32 fun _=>al (f ()).den 3,.int .u32 fun _=>al (f ()).den 4,.int .u32 fun _=>al (f ()).den 5,.int .u32 fun _=>al (f ()).den 6,.int .u32 fun _=>al (f ()).den 7]
theorem LX(n) : [al n 0,al n 1,al n 2,al n 3,al n 4,al n 5,al n 6,al n 7]=(pad ae 8 n).map fun (k:Nat)=>(k:Int):=by
 obtain⟨a0,a1,a2,a3,a4,a5,a6,a7,h⟩:=eight (eI ae 8 n);unfold al;rw [h];rfl
theorem LY:ae^8=dM:=by decide
def xe(n:Nat):List Kx := [.i .u32 (al n 0),.i .u32 (al n 1),.i .u32 (al n 2),.i .u32 (al n 3),.i .u32 (al n 4),.i .u32 (al n 5),.i .u32 (al n 6),.i .u32 (al n 7)]
theorem LZ(hm:m<dM)(hn:n<dM)(h:xe m=xe n):m=n:=by
 have h1 : [al m 0,al m 1,al m 2,al m 3,al m 4,al m 5,al m 6,al m 7] = [al n 0,al n 1,al n 2,al n 3,al n 4,al n 5,al n 6,al n 7]:=by
  unfold xe at h;simp only [sB,Kx.i.injEq,aR,aS] at h ⊢;exact h
 rw [LX,LX] at h1;have h2:pad ae 8 m=pad ae 8 n:=(List.map_inj_right (f:=fun (k:Nat)=>(k:Int)) (fun a b h=>Int.ofNat.inj h)).1 h1;rw [<- nR (B:=ae) (by decide) 8 m (by rw [LY]; exact hm),<- nR (B:=ae) (by decide) 8 n (by rw [LY]; exact hn),h2]
def GK(f:bH):List Kx := .f f.neg::(xe f.num++xe f.den)
theorem arH{f g:bH}(hf:f.fits)(hg:g.fits)(h:GK f=GK g):f=g:=by
 unfold GK at h;have h1:=List.cons.inj h;have h2:=List.append_inj h1.2 rfl;obtain⟨a,b,c⟩:=f;obtain⟨a',b',c'⟩:=g;have e1:a=a':=by have:=h1.1; simpa using this
 have e2:b=b':=LZ hf.1 hg.1 h2.1;have e3:c=c':=LZ hf.2 hg.2 h2.2;rw [e1,e2,e3]
section
variable{w:World}{ρ:Nat->Option Rl}{base:Nat}{ro:Nat->Prop}{v:Value}
end
def eX(v:bH):bj:=⟨v.neg,al v.num 0,al v.num 1,al v.num 2,al v.num 3,al v.num 4,al v.num 5,al v.num 6,al v.num 7,al v.den 0,al v.den 1,al v.den 2,al v.den 3,al v.den 4,al v.den 5,al v.den 6,al v.den 7⟩
theorem pn(v):⟨v.neg,al v.num 0,al v.num 1,al v.num 2,al v.num 3,al v.num 4,al v.num 5,al v.num 6,al v.num 7,al v.den 0,al v.den 1,al v.den 2,al v.den 3,al v.den 4,al v.den 5,al v.den 6,al v.den 7⟩=eX v:=rfl
theorem qY(c):(⟨c.neg,c.n0,c.n1,c.n2,c.n3,c.n4,c.n5,c.n6,c.n7,c.d0,c.d1,c.d2,c.d3,c.d4,c.d5,c.d6,c.d7⟩:bj)=c:=rfl
def bj.j4(c:bj):List Int := [c.n0,c.n1,c.n2,c.n3,c.n4,c.n5,c.n6,c.n7]
def bj.adw(c:bj):List Int := [c.d0,c.d1,c.d2,c.d3,c.d4,c.d5,c.d6,c.d7]
def bn(c:bj):bH:=⟨c.neg,bJ ae (c.j4.map Int.toNat),bJ ae (c.adw.map Int.toNat)⟩
def C3(l:List Int):Prop:=l.length=8/\∀ n∈l,0<=n/\n<4294967296
def gK(c:bj):Prop:=C3 c.j4/\C3 c.adw
theorem adx(n):C3 [al n 0,al n 1,al n 2,al n 3,al n 4,al n 5,al n 6,al n 7]:=by
 refine⟨rfl,fun x hx => ?_⟩;rw [LX] at hx;obtain⟨k,hk,rfl⟩:=iq.1 hx;have:=rF (B:=ae) (by decide) 8 n k hk;unfold ae at this;omega
theorem mf(v):gK (eX v):=⟨adx _,adx _⟩
theorem ady(n)(h:n<dM):bJ ae ([al n 0,al n 1,al n 2,al n 3,al n 4,al n 5,al n 6,al n 7].map Int.toNat)=n:=by
 rw [LX,DO];have:(Int.toNat∘fun (k:Nat)=>(k:Int))=id:=by funext k; simp
 rw [this,List.map_id];exact nR (by decide) 8 n (by rw [LY]; exact h)
theorem iO{v:bH}(h:v.fits):bn (eX v)=v:=by
 show (⟨v.neg,bJ ae ([al v.num 0,al v.num 1,al v.num 2,al v.num 3,al v.num 4,al v.num 5,al v.num 6,al v.num 7].map Int.toNat),bJ ae ([al v.den 0,al v.den 1,al v.den 2,al v.den 3,al v.den 4,al v.den 5,al v.den 6,al v.den 7].map Int.toNat)⟩:bH)=v
 rw [ady _ h.1,ady _ h.2]
theorem nI{c:bj}(h:gK c):(aO false .iu fun _=>c).map AV.valOf=(bn c).cells/\(bn c).fits/\eX (bn c)=c:=by
 have key:∀ {l:List Int},C3 l->pad ae 8 (bJ ae (l.map Int.toNat))=l.map Int.toNat/\bJ ae (l.map Int.toNat)<dM:=by
  intro l hl;have hd:di ae (l.map Int.toNat):=fun k hk=>by
   obtain⟨x,hx,rfl⟩:=iq.1 hk;have:=hl.2 x hx;unfold ae;omega
  have hp:=By (B:=ae) (by decide) _ hd;rw [iQ,hl.1] at hp;refine⟨hp,?_⟩;rw [<- LY];have:=uc (B:=ae) _ hd;rwa [iQ,hl.1] at this
 obtain⟨k1,k2⟩:=key h.1;obtain⟨m1,m2⟩:=key h.2;have e:∀ {l:List Int},C3 l->(l.map Int.toNat).map (fun (n:Nat)=>Value.int .u32 (n:Int))=l.map (Value.int .u32):=by
  intro l hl;rw [DO];refine Nc fun x hx => ?_;have:=(hl.2 x hx).1;show Value.int .u32 ((x.toNat:Nat):Int)=_
  rw [Int.toNat_of_nonneg this]
 refine⟨?_,⟨k2,m2⟩,?_⟩
 . unfold bH.cells bn;dsimp only;rw [k1,m1,e h.1,e h.2];rfl
 . have g:∀ {l:List Int},C3 l->∀ i,i<8->al (bJ ae (l.map Int.toNat)) i=l.getD i 0:=by
    intro l hl i hi;unfold al;rw [(key hl).1,ba,gY,ba];have aj:i<l.length:=by rw [hl.1]; exact hi
    rw [bp aj];have:=(hl.2 _ (mj aj)).1;show (((l[i]).toNat:Nat):Int)=l[i]
    omega
   have g1 := @g _ h.1;have g2 := @g _ h.2;obtain⟨s,a0,a1,a2,a3,a4,a5,a6,a7,b0,b1,b2,b3,b4,b5,b6,b7⟩:=c;show eX ⟨s,_,_⟩=_
   unfold eX;dsimp only;rw [g1 0 (by decide),g1 1 (by decide),g1 2 (by decide),g1 3 (by decide),g1 4 (by decide),g1 5 (by decide),g1 6 (by decide),g1 7 (by decide),g2 0 (by decide),g2 1 (by decide),g2 2 (by decide),g2 3 (by decide),g2 4 (by decide),g2 5 (by decide),g2 6 (by decide),g2 7 (by decide)];rfl
theorem arI(f g):bn (eX (j7 f g).1)=(j7 f g).1:=iO (NU f g)
theorem adz(f g):bn (eX (mulL f g).1)=(mulL f g).1:=iO (aic f g)
theorem arJ(f g):bn (eX (m7 f g).1)=(m7 f g).1:=iO (NV f g)
theorem y6{n:Int}(h:aY n):bn (eX (iR n))=iR n:=iO ⟨by have h1:=h.1; have h2:=h.2; show n.natAbs<dM; unfold dM; omega,by show 1<dM; decide⟩
theorem adA(h:NW w A n)(hc:aL n<=c)(bB:∀ a,A=some a->ro a.block):ah w ρ base ro (.sl false .u32 fun _=>bL n) (.slice A (aL n) c):=by
 rw [<- ew n] at hc ⊢;refine .sl false .u32 (fun _=>bL n) A c (j4 .u32 (bf ae n)) (by rw [NT,ew]) (by rw [NT]; rw [ew] at hc; exact hc) h (fun a ha _=>bB a ha) (fun h=>by cases h) fun k cs j x v hk hx hv => ?_;have aj:k<(bf ae n).length:=by
  have:=(cM.1 hk).1;rwa [NT] at this
 rw [VV aj] at hk;injection hk with hk;subst hk
 match j,hx,hv with
 | 0,hx,hv =>
  cases hx;cases hv;refine ah.int_eq ?_;show (bL n).getD k 0=_
  rw [si,ba,bp aj];rfl
def TK(w:World)(g:Nat)(f:bH):Prop:=w.heap[g]? = some (.cells f.cells.toArray 71 (0,0))
theorem arK(f:bH)(hf:f.fits)(w):Calls Tryz.prog 80 #[f.val] w fun e w'=>e = .returned (.tuple #[.slice (some ⟨w.heap.size,1,none⟩) (aL f.num) 8,.slice (some ⟨w.heap.size,9,none⟩) (aL f.den) 8])/\NW w' (some ⟨w.heap.size,1,none⟩) f.num/\NW w' (some ⟨w.heap.size,9,none⟩) f.den/\cU w w':=by
 have kf:f.num<ae^8:=by rw [D3]; exact hf.1
 have jO:f.den<ae^8:=by rw [D3]; exact hf.2
 have TL:=aX (fun (w1:World) (h:TK w1 w.heap.size f)=>V9 (some ⟨w.heap.size,1,none⟩) 8 8 (pad ae 8 f.num) (eI _ _ _).symm w1 (Il h).1 (rF (by decide) _ _) xf (by rw [eI]; omega));have TM:=aX (fun (w1:World) (h:TK w1 w.heap.size f)=>V9 (some ⟨w.heap.size,9,none⟩) 8 8 (pad ae 8 f.den) (eI _ _ _).symm w1 (Il h).2 (rF (by decide) _ _) (by rw [eI]; omega) (by rw [eI]; omega));rw [nR (by decide) _ _ kf] at TL;rw [nR (by decide) _ _ jO] at TM;have hmo:Tryz.prog.follows .mixedOrders=true:=by kernel_rfl
 have HF:Hid (∀ n,TK ((w.alloc (.cells f.cells.toArray 71)).drewN n) w.heap.size f):=fun n=>(show ((w.alloc (.cells f.cells.toArray 71)).drewN n).heap[w.heap.size]? = (w.alloc (.cells f.cells.toArray 71)).heap[w.heap.size]? by simp).trans (ry w _);obtain⟨ln,ng⟩:∃ ln,ln=aL f.num:=⟨_,rfl⟩
 obtain⟨ld,ky⟩:∃ ld,ld=aL f.den:=⟨_,rfl⟩
 rw [<- ng] at TL;rw [<- ky] at TM;have HL:=aX (And.intro ng ky);clear kf jO ng ky;unfold bH.val
 go_enter Tryz.func80,Tryz.ntmps80
 go_wp2
 go_quiet (first
  | (go_at_call_of 162 (Value.slice (some ⟨w.heap.size,1,none⟩) 8 8); exact Calls.quiet_of_same (TL.out _ (HF.out _)))
  | (go_at_call_of 162 (Value.slice (some ⟨w.heap.size,9,none⟩) 8 8); exact Calls.quiet_of_same (TM.out _ (HF.out _))))
 go_wp2
 go_ret2
 have qw:=HF.out nq;have r1:=V2 bW (Il qw).1 (rF (by decide) _ _);have r2:=V2 bW (Il qw).2 (rF (by decide) _ _);rw [nR (by decide) _ _ (by rw [D3]; exact hf.1)] at r1;rw [nR (by decide) _ _ (by rw [D3]; exact hf.2)] at r2;exact⟨by rw [<- HL.out.1,<- HL.out.2]; rfl,r1,r2,below_drewN ((cA _ _).alloc (az _) _) nq⟩
def C4:aH:=dU 80 ma (fun f=>gK (f ())) (fun f => .aU [.sl false .u32 fun _=>bL (bn (f ())).num,.sl false .u32 fun _=>bL (bn (f ())).den])
theorem GL:aK Tryz.prog C4:=by
 refine AB Tryz.func80 (by kernel_rfl) fun ai res h w ra dt hE hp => ?_;obtain⟨(f:bj),rfl,rfl⟩:=eu h;clear h;obtain⟨v0,ve,rfl,jP,h0⟩:=hE.head;obtain rfl:=h0.none;obtain⟨hf,Ax,_⟩:=nI hp;obtain rfl:=jP.RA rfl;rw [hf];exact (arK (bn f) Ax w).mono fun e w' ⟨k1,k2,k3,k4⟩=>⟨_,k1,k4,RB (adA k2 (gg Ax.1) fun a h=>by cases h; exact .inr (az _)) (adA k3 (gg Ax.2) fun a h=>by cases h; exact .inr (az _))⟩
def arM(l:List Nat)(n:Nat):Lp where
 X:=Nat
 ov k := [(0,.sl false .u32 fun _=>cl (l.take k))]
 oe _ := []
 I k:=k<=l.length/\∀ d∈l.drop k,d=0
 μ k _:=k
 x0:=n
 nx:=some fun k=>k - 1
def C5:aH:=dU 162 kN (fun a=>d32 (a ())) (fun a => .sl false .u32 fun _=>bL (dN (a ())))
theorem GM:aK Tryz.prog C5:=by
 refine cd [] trivial Tryz.func162 (by kernel_rfl) fun ai res h hp => ?_;obtain⟨(a:List Int),rfl,rfl⟩:=eu h;clear h;obtain⟨l,rfl,hd⟩:=Lx (B:=ae) hp.1;have hl:l.length<=1000000:=by have:=hp.2; rwa [lH] at this
 clear hp;refine cL l.length fun n Tl => ?_;refine⟨[(1,arM l n)],?_⟩
 conv=>arg 1; cbv
 refine⟨?_,fun (k:Nat) hk => ?_⟩
 . simp (maxSteps:=4000000) only [aB,aR,aS,bw];subst Tl;refine⟨⟨az _,fun d hd => ?_⟩,?_⟩
   . rw [List.drop_length] at hd;cases hd
   . rw [ahB]
 have cR:k<=l.length/\∀ d∈l.drop k,d=0:=hk;have cZ:=cR.1;have cg:=cR.2;refine fm ?_;have hn:(cl (l.take k)).length=k:=by rw [lH,c6]; omega
 have eW:Tc.u32.aa=0:=rfl;simp only [hn,p8,eW];refine⟨fun g=>⟨ii,⟨oo,oo⟩,fun z=>⟨ii,⟨oo,oo⟩,⟨⟨oo,fun d hd => ?_⟩,oo⟩,?_⟩,fun z => ?_⟩,fun g => ?_⟩
 . rw [vD (show k - 1<l.length from oo)] at hd;rw [AN,ba,eC,aw oo,bp (show k - 1<l.length from oo),gZ] at z;rcases fZ.1 hd with h|h
   . omega
   . exact cg d (by rwa [show k - 1+1=k from oo] at h)
 . show _=cl (l.take (k - 1))
   rw [yT,DK,DI oo]
 . unfold bL;rw [Ii bW hd cZ cg (.inr ⟨k - 1,oo,fun e=>z ?_⟩)];rw [AN,ba,eC,aw oo,<- ba,e];rfl
 . have um:k=0:=oo
   unfold bL;rw [Ii bW hd cZ cg (.inl um)]
theorem GN:gp Tryz.prog (giveUp 162):=acn Tryz.func162 (by kernel_rfl)
def L0:aH:=dU 84 apY (fun a=>0<=a ()/\a ()<18446744073709551616) (fun a => .sl false .u32 fun _=>bL (a ()).toNat)
theorem TN:aK Tryz.prog L0:=by
 refine eE {} [C5] ⟨GM,trivial⟩ [giveUp 162] ⟨GN,trivial⟩ Tryz.func84 (by kernel_rfl) fun ai res h hp => ?_;obtain⟨(a:Int),rfl,rfl⟩:=eu h;clear h;have GO:0<=a/\a<18446744073709551616:=hp;have h0:=GO.1;have h1:=GO.2;obtain⟨n,rfl⟩:=oI h0;have hn:n<18446744073709551616:=oo
 refine⟨[],?_⟩;refine fm ?_;rw [Gr,wrap_u32,wrap_u32,fF (show n / 4294967296<4294967296 from oo)];have hds:di ae [n % 4294967296,n / 4294967296]:=by
  intro d hd;simp only [fZ,No,Ib] at hd;rcases hd with rfl|rfl<;>(show _<4294967296; omega)
 refine⟨oo,CR hds (show 2<=1000000 by decide),?_⟩;have e:dN (cl [n % 4294967296,n / 4294967296])=n:=by
  rw [p8];show n % 4294967296+4294967296*(n / 4294967296+4294967296*0)=n
  omega
 exact congrArg bL e
def TO:aH:=dU 158 kN (fun a=>ev (a ())) (fun a => .bool fun _=>decide (dN (a ())=1))
theorem adB:aK Tryz.prog TO:=by
 refine cd [] trivial Tryz.func158 (by kernel_rfl) fun ai res h hp => ?_;obtain⟨(a:List Int),rfl,rfl⟩:=eu h;clear h;obtain⟨x,rfl,hx⟩:=mT hp;refine⟨[],?_⟩;refine fm ?_;rw [ik];have eW:Tc.u32.aa=0:=rfl;simp only [ew,eW];refine⟨fun g=>⟨⟨oo,oo⟩,?_⟩,fun g => ?_⟩
 . have e:=aix (x:=x) oo;have e2:(bL x).getD (Int.toNat 0) 0=(x:Int):=by unfold bL; rw [e]; rfl
   rw [e2];exact DG.2 oo
 . rw [DQ,fR]
   rintro rfl
   exact g (by unfold aL; rw [ahW bW]; rfl)
def AT(x m k:Nat):Nat:=bJ ae (((bf ae x).drop k).take (m - k))
theorem adC(hm:m<=2)(hk:0<k):AT x m k<4294967296:=by
 have h:=uc (B:=ae) (((bf ae x).drop k).take (m - k)) (((di.bf bW x).drop k).take _);have h2:ae^(((bf ae x).drop k).take (m - k)).length<=ae^1:=zl (by decide) (by rw [c6]; omega);exact iP h h2
theorem arO(hm:m<=2)(hk:0<k)(xd:k<=m)(hx:m<=(bf ae x).length):sP .or .u64 (lV .shl .u64 (AT x m k) 32) ((bf ae x).getD (k - 1) 0)=AT x m (k - 1):=by
 rw [aci (adC hm hk),acj (adC hm hk) ((di.bf bW x).getD (by decide) _)];have aj:k - 1<(bf ae x).length:=oo
 congr 1;unfold AT;rw [N2 aj,show m - (k - 1)=(m - k)+1 from oo,Nb,show k - 1+1=k from oo,vP];show _*4294967296+_=_+4294967296*_
 omega
def arP(x m:Nat):Lp where
 X:=Nat
 ov k := [(4,.int .i64 fun _=>(k:Int) - 1),(3,.int .u64 fun _=>(AT x m k:Nat))]
 oe _ := []
 I k:=k<=m
 μ k _:=k
 x0:=m
 nx:=some fun k=>k - 1
def adD:aH:=dU 95 kN (fun a=>ev (a ())) (fun a => .int .u64 fun _=>((dN (a ()) % 18446744073709551616:Nat):Int))
theorem arQ:aK Tryz.prog adD:=by
 refine cd [] trivial Tryz.func95 (by kernel_rfl) fun ai res h hp => ?_;obtain⟨(a:List Int),rfl,rfl⟩:=eu h;clear h;obtain⟨x,rfl,hx⟩:=mT hp;refine cL (min (aL x) 2) fun m hm => ?_;refine⟨[(3,arP x m)],?_⟩;refine fm ?_;have hl:(bL x).length=aL x:=ew x;have e1:(bif decide (2<((bL x).length:Int)) then 2 else ((bL x).length:Int))=(m:Int):=by
  cases h:decide (2<((bL x).length:Int)) with
  | true=>have:=tW h; simp only [eG]; omega
  | false=>have:=Ni h; simp only [fG]; omega
 rw [e1];have e2:AT x m m=0:=by unfold AT; rw [Bq,DJ]; rfl
 refine⟨ii,⟨az _,rfl,by rw [e2]; rfl⟩,fun (k:Nat) hk => ?_⟩;have cZ:k<=m:=hk;clear hk hp;refine fm ?_;have eW:Tc.u32.aa=0:=rfl;simp only [eW,si,hl];refine⟨fun g=>⟨oo,⟨oo,oo⟩,ii,⟨oo,oo⟩,oo,?_⟩,fun g => ?_⟩
 . rw [fV (VB ((di.bf bW x).getD (by decide) _) (by decide))];exact arO oo oo cZ (show m<=aL x from oo)
 . have um:k=0:=oo
   subst um;rw [ik,<- aiy,hm];rfl
end Go.Proofs.YtlpikgchnjajmaaGreat
