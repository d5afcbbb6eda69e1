/-
  frac.small, in place, by a walk of the old kind; what lies behind the numbers stays.
-/
import Derived.Test.YtlpikgchnjajmaaGreatTp25
set_option linter.all false
set_option maxRecDepth 100000
set_option maxHeartbeats 4000000
namespace Go.Proofs.YtlpikgchnjajmaaGreat
open Go.RowKit Go.Shelf
variable{p:Addr}{k:IntKind}{l:List Nat}{R:List Value}{B D E b g i:Nat}{W W' w w':World}
attribute [local go_sem] Oper.semAt_some
theorem not_row{c:Array Value}{t:TypeId}{f:Nat×Nat}{row:Option Nat}(h:W.heap[b]? = some (.cells c t f))(hr:∀ r,row=some r->B<=r/\∃ o,W.heap[r]? = some o/\o.isCells=false):some b≠row:=by
 intro e;obtain⟨_,o,ho,hc⟩:=hr b e.symm;rw [h] at ho;injection ho with ho;subst ho;cases hc
theorem L6{t:Nat}{v:Value}{row:Option Nat}(h:Boxed W b t v)(hg:W.grownBy W' row)(hr:∀ r,row=some r->B<=r/\∃ o,W.heap[r]? = some o/\o.isCells=false):Boxed W' b t v:=h.kept hg (not_row h hr)
theorem asq{row:Option Nat}(h:w.grownBy W (some g))(hB:w.heap.size<=B)(hg:W.grownBy W' row)(hr:∀ r,row=some r->B<=r/\∃ o,W.heap[r]? = some o/\o.isCells=false):w.grownBy W' (some g) :=
 ⟨hg.os.trans h.os,hg.tape.trans h.tape,hg.output.trans h.output,e8 h.size hg.size,fun k hk aT=>(hg.block k (iP hk h.size) (fun e=>by have:=(hr k e.symm).1; omega)).trans (h.block k hk aT)⟩
theorem TY(h:w.grownBy W (some g))(hp:p.block=g\/w.heap.size<=p.block)(u):w.grownBy (W.setCell p u) (some g) :=
 ⟨h.os,h.tape,h.output,by simp; exact h.size,fun k hk aT=>(tV _ _ _ _ (fun e=>by
  rcases hp with hp|hp
  . exact aT (by rw [e,hp])
  . omega)).trans (h.block k hk aT)⟩
theorem L7(h:w.grownBy W (some g))(o):w.grownBy (W.alloc o) (some g) :=
 ⟨h.os,h.tape,h.output,by simp; exact Nat.le_succ_of_le h.size,fun k hk aT=>(qj _ _ _ (iP hk h.size)).trans (h.block k hk aT)⟩
theorem asr(h:w.grownBy W (some g))(hD:w.heap.size<=D)(o):w.grownBy (W.putObj D o) (some g) :=
 ⟨h.os,h.tape,h.output,by simp; exact h.size,fun k hk aT=>(World.putObj_heap_other oo).trans (h.block k hk aT)⟩
def im(w:World)(g E:Nat)(k:IntKind)(R:List Value)(l:List Nat):Prop:=w.heap[g]? = some (.cells (sJ k l++R).toArray E (0,0))
theorem im.lt(h:im w g E k R l):g<w.heap.size:=(jz.1 h).1
theorem im.jA(h:im w g E k R l)(hg:w'.heap[g]? = w.heap[g]?):im w' g E k R l:=hg.trans h
theorem im.cell(h:im w g E k R l)(hi):w.cell? ⟨g,i,none⟩=some (.int k l[i]):=BG.cell ⟨R,h⟩ hi
theorem im.frozen(h:im w g E k R l)(i):w.frozen? ⟨g,i,none⟩=false:=BG.frozen ⟨R,h⟩ i
theorem im.setCell(h:im w g E k R l)(hi:i<l.length)(m:Nat):im (w.setCell ⟨g,i,none⟩ (.int k m)) g E k R (l.set i m):=by
 unfold im at *
 rw [heap_setCell h];congr 2;apply xx;rw [aw1,List.toList_toArray,List.toList_toArray];rw [List.set_append_left _ _ (by rw [Eb]; exact hi)];unfold sJ;rw [List.map_set]
theorem im.other(h:im w g E k R l)(aT:g≠p.block)(u):im (w.setCell p u) g E k R l:=h.jA (tV _ _ _ _ aT)
theorem im.row{row:Option Nat}(h:im W g E k R l)(hg:W.grownBy W' row)(hr:∀ r,row=some r->B<=r/\∃ o,W.heap[r]? = some o/\o.isCells=false):im W' g E k R l:=(hg.block g h.lt (not_row h hr)).trans h
def ass(R:List Value)(w:World)(g n c by_:Nat)(l:List Nat)(pre:List (Nat×Nat))(W:World):Prop:=∃ (o:List Nat) (r:Nat),pre.length<=n/\o.length=n/\di ae o/\o.take (n - pre.length)=l.take (n - pre.length)/\r<by_/\bJ ae (l.drop (n - pre.length))=bJ ae (o.drop (n - pre.length))*by_+r/\im W g 52 .u32 R o /\
 Boxed W w.heap.size 153 (.slice (some ⟨g,0,none⟩) n c)/\Boxed W (w.heap.size+1) 52 (.int .u32 (by_:Int))/\Boxed W (w.heap.size+2) 160 (.int .u64 (r:Int))/\Boxed W (w.heap.size+3) 153 (.slice (some ⟨g,0,none⟩) n c)/\w.grownBy W (some g)
theorem ast(R)(g c n by_:Nat)(l)(hn:n=l.length)(w)(hL:im w g 52 .u32 R l)(hd:di ae l)(hlen:l.length<=1000)(h0:0<by_)(hby:by_<4294967296) :
 Calls Tryz.prog 171 #[.slice (some ⟨g,0,none⟩) n c,.int .u32 by_] w fun e w'=>∃ o,e = .returned (.int .u32 (bJ ae l % by_:Nat))/\o.length=l.length/\di ae o/\bJ ae o=bJ ae l / by_/\im w' g 52 .u32 R o/\w.grownBy w' (some g):=by
 have jG:n<=1000:=oo
 have HN:=aX hn;have HL:=aX hL;clear hn hL;refine (callsIn_wide (n:=3)).1 ?_;refine callsIn_of_wp_marks Tryz.func171 rfl trivial ?_ rfl;simp only [Tryz.ntmps171,xt,c9,fE,Nat.reduceAdd,Nat.reduceSub,M9,M8,Nl,Nh,rv,xu]
 gi_wp2_with (refine⟨trivial,?_⟩; gi_at_call 163; refine (aiL Fence.wide _ trivial rfl _ _ _ _).mono ?_; rintro e w' ⟨rfl,rfl⟩)
 obtain⟨W0,ot⟩:∃ W0,W0=((((w.alloc (.cells #[.slice (some ⟨g,0,none⟩) n c] 153)).alloc (.cells #[.int .u32 (by_:Int)] 52)).alloc (.cells #[.int .u64 0] 160)).alloc (.cells #[.slice (some ⟨g,0,none⟩) n c] 153)):=⟨_,rfl⟩
 have aN:W0.heap.size=w.heap.size+4:=by rw [ot]; simp
 have bA:Boxed W0 w.heap.size 153 (.slice (some ⟨g,0,none⟩) n c):=by rw [ot]; exact (((Boxed.new w _ _).alloc _).alloc _).alloc _
 have bY:Boxed W0 (w.heap.size+1) 52 (.int .u32 (by_:Int)):=by rw [ot]; have:=Boxed.new (w.alloc (.cells #[.slice (some ⟨g,0,none⟩) n c] 153)) 52 (.int .u32 (by_:Int)); rw [qi] at this; exact (this.alloc _).alloc _
 have bR:Boxed W0 (w.heap.size+2) 160 (.int .u64 ((0:Nat):Int)):=by rw [ot]; have:=Boxed.new ((w.alloc (.cells #[.slice (some ⟨g,0,none⟩) n c] 153)).alloc (.cells #[.int .u32 (by_:Int)] 52)) 160 (.int .u64 0); rw [qi,qi] at this; exact this.alloc _
 have bN:Boxed W0 (w.heap.size+3) 153 (.slice (some ⟨g,0,none⟩) n c):=by rw [ot]; have:=Boxed.new (((w.alloc (.cells #[.slice (some ⟨g,0,none⟩) n c] 153)).alloc (.cells #[.int .u32 (by_:Int)] 52)).alloc (.cells #[.int .u64 0] 160)) 153 (.slice (some ⟨g,0,none⟩) n c); rw [qi,qi,qi] at this; exact this
 have TZ:w.grownBy W0 (some g):=by rw [ot]; exact L7 (L7 (L7 (L7 ⟨rfl,rfl,rfl,az _,fun _ _ _=>rfl⟩ _) _) _) _
 have T3:im W0 g 52 .u32 R l:=by rw [ot]; exact HL.out.jA ((qj _ _ _ (by have:=HL.out.lt; simp; omega)).trans ((qj _ _ _ (by have:=HL.out.lt; simp; omega)).trans ((qj _ _ _ (by have:=HL.out.lt; simp; omega)).trans (qj _ _ _ HL.out.lt))))
 rw [<- ot];refine aiH (F:=Fence.wide) (n:=3) (ps := #[10,11]) (encs:=Is) rfl (by decide) (gf:=255) (lb := #[.pointer (some ⟨w.heap.size+1+1+1,0,none⟩)]) rfl trivial (enters_of Tryz.func255 (by kernel_rfl) rfl)
  (aiK Fence.wide 2 trivial rfl (by decide) (w.heap.size+1+1+1) n c (some ⟨g,0,none⟩) l jG _) (cA _ _) (fun _=>rfl)
  (ass R w g n c by_ l) (fun _ _ _=>False) (fun pre W hI => ?hIG) (fun pre A B row hs hg hr => ?hI) (fun _ _ _ _ _ hs _ _=>hs) ?hst
  (fun x => { tmps := #[.slice (some ⟨g,0,none⟩) n c,.int .u32 (by_:Int),.pointer (some ⟨w.heap.size,0,none⟩),.pointer (some ⟨w.heap.size+1,0,none⟩),.int .u32 0,.pointer (some ⟨w.heap.size+1+1,0,none⟩),.int .i64 (x.1:Int),.int .u32 (x.2:Int),.slice (some ⟨g,0,none⟩) n c,.func (.func 255) #[] #[.pointer (some ⟨w.heap.size+1+1+1,0,none⟩)],.int .i64 (x.1:Int),.int .u32 (x.2:Int),undef,undef,undef,undef,undef,undef,undef,undef,undef,undef,undef,undef,undef,undef,undef,undef,undef,undef,undef],defers := [] }) ?assign ?body ?done ?stop
 case hIG =>
  obtain⟨o,r,cO,A3,C9,vj,hr,hv,kJ,b1,b2,b3,b4,gj⟩:=hI;refine⟨b4.cell,fun j hj=>⟨g,0,rfl,?_⟩⟩;have Da:j<o.length:=oo
  have ib:j<l.length:=by have:=HN.out; omega
  have h1:=kJ.cell Da;have e:o[j]=l.getD j 0:=by
   have h2:=congrArg (fun q=>q[j]?) vj;simp only [eC,show j<n - pre.length from oo,eH] at h2;rw [bp Da] at h2;rw [ba,<- h2];rfl
  rw [hZ,h1,e]
 case hI =>
  obtain⟨o,r,cO,A3,C9,vj,l4,hv,kJ,b1,b2,b3,b4,gj⟩:=hs;exact⟨o,r,cO,A3,C9,vj,l4,hv,kJ.row hg hr,L6 b1 hg hr,L6 b2 hg hr,L6 b3 hg hr,L6 b4 hg hr,asq gj (by rw [aN]; omega) hg hr⟩
 case hst =>
  exact⟨l,0,cm _,HN.out.symm,hd,rfl,h0,by rw [fE,rC,Bh (vK HN.out.symm)]; simp [bJ],T3,bA,bY,bR,bN,TZ⟩
 case assign =>
  intro lp x W K hK;unfold Is
  gi_wp2
  exact hK
 case body =>
  rintro lp pre x0 W ⟨o,r,cO,A3,C9,vj,l4,hv,kJ,b1,b2,b3,b4,gj⟩ ⟨aj,rfl⟩
  obtain⟨j,hj⟩:∃ j,j+pre.length+1=n:=⟨n - 1 - pre.length,oo⟩
  have e1:n - 1 - pre.length=j:=oo
  have e3:n - pre.length=j+1:=oo
  rw [e3] at vj hv;unfold Ea;rw [e1];obtain⟨d,L8⟩:∃ d,d=l.getD j 0:=⟨_,rfl⟩
  have Ay:d<4294967296:=by rw [L8]; exact hd.getD (by decide) j
  rw [<- L8];have c1:=b1.cell;have c2:=b2.cell;have c3:=b3.cell;have f3:=b3.frozen;have Da:j<o.length:=oo
  have cj:=kJ.cell Da;have fj:=kJ.frozen j;have yy:r<4294967296:=oo
  have hor:=Lib.hid (aiD yy Ay);clear bA bY bR bN TZ T3;have x7:g<w.heap.size:=HL.out.lt;have vQ:IntKind.u64.wrap (d:Int)=(d:Int):=wrap_u64 oo oo;have HDD:=Lib.hid L8;have HHD:=Lib.hid hd;clear L8 hd;dsimp only
  gi_wp2
  obtain⟨s,hs⟩:∃ s,s=r*4294967296+d:=⟨_,rfl⟩
  rw [hor.out,<- hs];have L9:Boxed (W.setCell ⟨w.heap.size+1+1,0,none⟩ (.int .u64 (s:Int))) w.heap.size 153 (.slice (some ⟨g,0,none⟩) n c):=(tV _ _ _ _ (by simp; omega)).trans b1;have E3:Boxed (W.setCell ⟨w.heap.size+1+1,0,none⟩ (.int .u64 (s:Int))) (w.heap.size+1) 52 (.int .u32 (by_:Int)):=(tV _ _ _ _ (by simp)).trans b2;have Ma:Boxed (W.setCell ⟨w.heap.size+1+1,0,none⟩ (.int .u64 (s:Int))) (w.heap.size+2) 160 (.int .u64 (s:Int)):=one_setCell b3;have T4:Boxed (W.setCell ⟨w.heap.size+1+1,0,none⟩ (.int .u64 (s:Int))) (w.heap.size+3) 153 (.slice (some ⟨g,0,none⟩) n c):=(tV _ _ _ _ (by simp)).trans b4;have GX:im (W.setCell ⟨w.heap.size+1+1,0,none⟩ (.int .u64 (s:Int))) g 52 .u32 R o:=kJ.other (by simp; omega) _;have T5:w.grownBy (W.setCell ⟨w.heap.size+1+1,0,none⟩ (.int .u64 (s:Int))) (some g):=TY gj (.inr (by simp; omega)) _;have T6:KeepsOthers W (W.setCell ⟨w.heap.size+1+1,0,none⟩ (.int .u64 (s:Int))):=KeepsOthers.setCell _ _ _;clear b1 b2 b3 b4 c1 c2 c3 f3 cj fj kJ gj;generalize W.setCell ⟨w.heap.size+1+1,0,none⟩ (.int .u64 (s:Int))=W1 at *
  have uR:(j:Int)<(n:Int):=oo
  have ayg:s<18446744073709551616:=oo
  have hmo:Tryz.prog.follows .mixedOrders=true:=by kernel_rfl
  have jD:¬ ((by_:Int)=0):=oo
  have hwb:IntKind.u64.wrap (by_:Int)=(by_:Int):=wrap_u64 oo oo;obtain⟨q,hq⟩:∃ q,q=s / by_:=⟨_,rfl⟩
  obtain⟨r2,wK⟩:∃ r2,r2=s % by_:=⟨_,rfl⟩
  have GY:q<4294967296:=by
   rw [hq];refine (HH h0).2 ?_;have h1:(r+1)*4294967296<=by_*4294967296:=xr _ l4;rw [lN 4294967296 by_];omega
  have hqi:(s:Int) / (by_:Int)=(q:Int):=by rw [hq]; exact (Int.natCast_ediv s by_).symm
  have o8:(s:Int) % (by_:Int)=(r2:Int):=by rw [wK]; exact (Int.natCast_emod s by_).symm
  have asx:r2<by_:=by rw [wK]; exact oL _ h0
  have hwq:IntKind.u32.wrap (q:Int)=(q:Int):=by rw [wrap_u32,fF GY]
  have ib:j<l.length:=by have:=HN.out; omega
  have yC:Hid (bJ ae (l.drop j)=bJ ae ((o.set j q).drop j)*by_+r2):=by
   have h1:=ah2 (B:=ae) (by_:=by_) (a:=l) (o:=o) (i:=j) (r:=r) ib (by rw [A3]; exact HN.out) hv;have e:l[j]=d:=by have:=HDD.out; rw [this,ba,bp ib]; rfl
   rw [e] at h1;have e2:r*ae+d=s:=hs.symm;rw [e2,<- hq,<- wK] at h1;exact h1
  have HVS:=aX hs;have HQS:=aX hq;have HRS:=aX wK;have HTK:=aX vj;clear hs hq wK hv vj;rename_i Q2 K2 ha2;have hw2:∃ W2,W2=(W1.setCell ⟨g,j,none⟩ (.int .u32 (q:Int))).drew:=⟨_,rfl⟩
  obtain⟨W2,vo⟩:=hw2;have HQ:Exit.then K2 (Exit.inBlock 1 Q2) Exit.normal { tmps := #[.slice (some ⟨g,0,none⟩) n c,.int .u32 (by_:Int),.pointer (some ⟨w.heap.size,0,none⟩),.pointer (some ⟨w.heap.size+1,0,none⟩),.int .u32 0,.pointer (some ⟨w.heap.size+1+1,0,none⟩),.int .i64 (j:Int),.int .u32 (d:Int),.slice (some ⟨g,0,none⟩) n c,.func (.func 255) #[] #[.pointer (some ⟨w.heap.size+1+1+1,0,none⟩)],.int .i64 (j:Int),.int .u32 (d:Int),.int .u64 (r:Int),.int .u64 ((r:Int)*4294967296),.int .u32 (d:Int),.int .u64 (d:Int),.int .u64 (s:Int),.slice (some ⟨g,0,none⟩) n c,.int .i64 (j:Int),.int .u64 (s:Int),.int .u32 (by_:Int),.int .u64 (by_:Int),.int .u64 (q:Int),.int .u32 (q:Int),.pointer (some ⟨g,j,none⟩),undef,undef,undef,undef,undef,undef],defers := [] } W2:=by
   have b1:Boxed W2 w.heap.size 153 (.slice (some ⟨g,0,none⟩) n c):=by rw [vo]; exact (tV _ _ _ _ (by simp; omega)).trans L9
   have b2:Boxed W2 (w.heap.size+1) 52 (.int .u32 (by_:Int)):=by rw [vo]; exact (tV _ _ _ _ (by simp; omega)).trans E3
   have b3:Boxed W2 (w.heap.size+2) 160 (.int .u64 (s:Int)):=by rw [vo]; exact (tV _ _ _ _ (by simp; omega)).trans Ma
   have b4:Boxed W2 (w.heap.size+3) 153 (.slice (some ⟨g,0,none⟩) n c):=by rw [vo]; exact (tV _ _ _ _ (by simp; omega)).trans T4
   have kJ:im W2 g 52 .u32 R (o.set j q):=by rw [vo]; exact (GX.setCell Da q).jA rfl
   have gj:w.grownBy W2 (some g):=by rw [vo]; exact (fun h=>⟨h.os,h.tape,h.output,h.size,h.block⟩) (TY (p:=⟨g,j,none⟩) T5 (.inl rfl) (.int .u32 (q:Int)))
   have adZ:KeepsOthers W W2:=by rw [vo]; exact T6.trans ((KeepsOthers.setCell _ _ _).trans (KeepsOthers.drew _))
   have b1s:Boxed (W2.setCell ⟨w.heap.size+1+1,0,none⟩ (.int .u64 (r2:Int))) w.heap.size 153 (.slice (some ⟨g,0,none⟩) n c):=(tV _ _ _ _ (by simp; omega)).trans b1;have b2s:Boxed (W2.setCell ⟨w.heap.size+1+1,0,none⟩ (.int .u64 (r2:Int))) (w.heap.size+1) 52 (.int .u32 (by_:Int)):=(tV _ _ _ _ (by simp)).trans b2;have b3s:Boxed (W2.setCell ⟨w.heap.size+1+1,0,none⟩ (.int .u64 (r2:Int))) (w.heap.size+2) 160 (.int .u64 (r2:Int)):=one_setCell b3;have b4s:Boxed (W2.setCell ⟨w.heap.size+1+1,0,none⟩ (.int .u64 (r2:Int))) (w.heap.size+3) 153 (.slice (some ⟨g,0,none⟩) n c):=(tV _ _ _ _ (by simp)).trans b4;have asF:im (W2.setCell ⟨w.heap.size+1+1,0,none⟩ (.int .u64 (r2:Int))) g 52 .u32 R (o.set j q):=kJ.other (by simp; omega) _;have asG:w.grownBy (W2.setCell ⟨w.heap.size+1+1,0,none⟩ (.int .u64 (r2:Int))) (some g):=TY gj (.inr (by simp; omega)) _;have asH:KeepsOthers W (W2.setCell ⟨w.heap.size+1+1,0,none⟩ (.int .u64 (r2:Int))):=adZ.trans (KeepsOthers.setCell _ _ _);have c2:=b2.cell;have c3:W2.cell? ⟨w.heap.size+1+1,0,none⟩=_:=b3.cell;have f3:W2.frozen? ⟨w.heap.size+1+1,0,none⟩=_:=b3.frozen;clear vo L9 E3 Ma T4 GX T5 T6 b1 b2 b3 b4 kJ gj adZ;refine ha2 _ _ ?_
   gi_wp2
   refine⟨asH,o.set j q,r2,by simp; omega,by simp [A3],C9.set _ _ GY,?_,asx,?_,asF,b1s,b2s,b3s,b4s,asG⟩
   . have e:n - (pre ++ [(j,d)]).length=j:=by simp; omega
     rw [e,take_set];have:=congrArg (fun q=>q.take j) HTK.out;simpa [DK] using this
   . have e:n - (pre ++ [(j,d)]).length=j:=by simp; omega
     rw [e];exact yC.out
  have c1:W1.drew.cell? ⟨w.heap.size,0,none⟩=_:=L9.cell;have c2:W1.drew.cell? ⟨w.heap.size+1,0,none⟩=_:=E3.cell;have c3:W1.drew.cell? ⟨w.heap.size+1+1,0,none⟩=_:=Ma.cell;have cj:W1.drew.cell? ⟨g,j,none⟩=_:=GX.cell Da;have fj:W1.drew.frozen? ⟨g,j,none⟩=_:=GX.frozen j;rw [vo] at HQ;have HQ':=aX HQ;clear HQ vo L9 E3 Ma T4 GX T5 T6
  gi_region_with_o (fail)
  all_goals exact HQ'.out
 case done =>
  rintro D0 xs W hD Qh ⟨o,r,cO,A3,C9,vj,l4,hv,kJ,b1,b2,b3,b4,gj⟩ hK
  rw [Qh,Bq,zr,zr] at hv;have c3:W.cell? ⟨w.heap.size+1+1,0,none⟩=_:=b3.cell;have yy:r<4294967296:=oo
  have hwr:IntKind.u32.wrap (r:Int)=(r:Int):=by rw [wrap_u32,fF yy]
  have asJ:Hid (r=bJ ae l % by_):=by
   unfold Hid;rw [hv,lN,Nat.mul_add_mod,fF l4]
  have hdiv:Hid (bJ ae o=bJ ae l / by_):=by
   unfold Hid;rw [hv,lN,Nat.mul_add_div h0,mi l4,kY]
  have HNB:=aX (kJ.jA (w':=W.putObj D0 (.deferred none)) (World.putObj_heap_other (by
   intro e;have hh:W.heap[g]? = _:=kJ;rw [e,hK] at hh;cases hh)))
  have HGR:=aX (asr gj (D:=D0) oo (.deferred none));have asM:Hid (o.length=l.length):=by unfold Hid; rw [A3]; exact HN.out
  clear hv vj kJ bA bY bR bN TZ T3 b1 b2 b3 b4 gj
  gi_wp2
  refine⟨by simp,.inl ⟨_,_,rfl,run_takeDeferred hK,?_⟩⟩;exact⟨_,results_tmp rfl _ _ _,o,by rw [<- asJ.out]; rfl,asM.out,C9,hdiv.out,HNB.out,HGR.out⟩
 case stop =>
  rintro D0 cc pre W _ _ h _
  exact h.elim
end Go.Proofs.YtlpikgchnjajmaaGreat
