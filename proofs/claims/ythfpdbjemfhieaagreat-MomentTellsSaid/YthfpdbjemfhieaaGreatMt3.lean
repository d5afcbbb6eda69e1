/-
  frac: small, in place.
-/
import Derived.Test.YthfpdbjemfhieaaGreatMt2
import Derived.Laws.CopyOwn
import Derived.Deep.Cut
import Derived.LoopN
set_option linter.unusedVariables false
set_option linter.unusedSimpArgs false
namespace Go.Proofs.YthfpdbjemfhieaaGreat
open Go.RowKit Go.Shelf
attribute [local go_sem] Oper.semAt_some
theorem not_row {W:World} {b:Nat} {c:Array Value} {t:TypeId} {f:Nat×Nat} {row:Option Nat} {B:Nat} (h:W.heap[b]? = some (.cells c t f)) (hr:∀ r,row=some r->B<=r/\∃ o:Obj,W.heap[r]? = some o/\o.isCells=false):some b≠row:=by
 intro e;obtain⟨_,o,ho,hc⟩:=hr b e.symm;rw [h] at ho;injection ho with ho;subst ho;cases hc
theorem NBx.row {W W':World} {g E:Nat} {k:IntKind} {l:List Nat} {row:Option Nat} {B:Nat} (h:NBx W g E k l) (hg:W.grownBy W' row) (hr:∀ r,row=some r->B<=r/\∃ o:Obj,W.heap[r]? = some o/\o.isCells=false):NBx W' g E k l:=by
 obtain⟨r,hh⟩:=h;exact⟨r,(hg.block g (Array.getElem?_eq_some_iff.1 hh).1 (not_row hh hr)).trans hh⟩
theorem Boxed_row {W W':World} {b t:Nat} {v:Value} {row:Option Nat} {B:Nat} (h:Boxed W b t v) (hg:W.grownBy W' row) (hr:∀ r,row=some r->B<=r/\∃ o:Obj,W.heap[r]? = some o/\o.isCells=false):Boxed W' b t v:=h.kept hg (not_row h hr)
theorem grown_row {w W W':World} {g:Nat} {row:Option Nat} {B:Nat} (h:w.grownBy W (some g)) (hB:w.heap.size<=B) (hg:W.grownBy W' row) (hr:∀ r,row=some r->B<=r/\∃ o:Obj,W.heap[r]? = some o/\o.isCells=false):w.grownBy W' (some g) :=
 ⟨hg.os.trans h.os,hg.tape.trans h.tape,hg.output.trans h.output,Nat.le_trans h.size hg.size,fun k hk hne=>(hg.block k (Nat.lt_of_lt_of_le hk h.size) (fun e=>by have:=(hr k e.symm).1; omega)).trans (h.block k hk hne)⟩
theorem grown_set {w W:World} {g:Nat} (h:w.grownBy W (some g)) {p:Addr} (hp:p.block=g\/w.heap.size<=p.block) (u:Value):w.grownBy (W.setCell p u) (some g) :=
 ⟨h.os,h.tape,h.output,by simp; exact h.size,fun k hk hne=>(Below.heap_setCell _ _ _ _ (fun e=>by
  rcases hp with hp|hp
  . exact hne (by rw [e,hp])
  . omega)).trans (h.block k hk hne)⟩
theorem grown_alloc {w W:World} {g:Nat} (h:w.grownBy W (some g)) (o:Obj):w.grownBy (W.alloc o) (some g) :=
 ⟨h.os,h.tape,h.output,by simp; exact Nat.le_succ_of_le h.size,fun k hk hne=>(Below.heap_alloc _ _ _ (Nat.lt_of_lt_of_le hk h.size)).trans (h.block k hk hne)⟩
theorem grown_put {w W:World} {g D:Nat} (h:w.grownBy W (some g)) (hD:w.heap.size<=D) (o:Obj):w.grownBy (W.putObj D o) (some g) :=
 ⟨h.os,h.tape,h.output,by simp; exact h.size,fun k hk hne=>(World.putObj_heap_other (by omega)).trans (h.block k hk hne)⟩
def SmallI (w:World) (g n c by_:Nat) (l:List Nat) (pre:List (Nat×Nat)) (W:World):Prop:=∃ (o:List Nat) (r:Nat),pre.length<=n/\o.length=n/\Digs B32 o/\o.take (n - pre.length)=l.take (n - pre.length)/\r<by_/\valB B32 (l.drop (n - pre.length))=valB B32 (o.drop (n - pre.length))*by_+r/\NBx W g 63 .u32 o /\
 Boxed W w.heap.size 145 (.slice (some ⟨g,0,none⟩) n c)/\Boxed W (w.heap.size+1) 63 (.int .u32 (by_:Int))/\Boxed W (w.heap.size+2) 148 (.int .u64 (r:Int))/\Boxed W (w.heap.size+3) 145 (.slice (some ⟨g,0,none⟩) n c)/\w.grownBy W (some g)
set_option maxRecDepth 100000 in
set_option maxHeartbeats 4000000 in
theorem frac_small (g c n by_:Nat) (l:List Nat) (hn:n=l.length) (w:World) (hL:NBx w g 63 .u32 l) (hd:Digs B32 l) (hlen:l.length<=1000) (h0:0<by_) (hby:by_<4294967296) :
 Calls Tryz.prog 187 #[.slice (some ⟨g,0,none⟩) n c,.int .u32 by_] w fun e w'=>∃ o,e = .returned (.int .u32 (valB B32 l % by_:Nat))/\o.length=l.length/\Digs B32 o/\valB B32 o=valB B32 l / by_/\NBx w' g 63 .u32 o/\w.grownBy w' (some g):=by
 have hn1:n<=1000:=by omega
 have HN:=Lib.hid hn;have HL:=Lib.hid hL;clear hn hL;refine (callsIn_wide (n:=3)).1 ?_;refine callsIn_of_wp_marks Tryz.func187 rfl trivial ?_ rfl;simp only [Tryz.ntmps187,List.size_toArray,List.length_cons,List.length_nil,Nat.reduceAdd,Nat.reduceSub,Array.replicate_succ,Array.replicate_zero,List.push_toArray,List.append_toArray,List.nil_append,List.cons_append]
 gi_wp2_with (refine⟨trivial,?_⟩; gi_at_call 228; refine (back_in Fence.wide _ trivial rfl _ _ _ _).mono ?_; rintro e w' ⟨rfl,rfl⟩)
 obtain⟨W0,hW0⟩:∃ W0,W0=((((w.alloc (.cells #[.slice (some ⟨g,0,none⟩) n c] 145)).alloc (.cells #[.int .u32 (by_:Int)] 63)).alloc (.cells #[.int .u64 0] 148)).alloc (.cells #[.slice (some ⟨g,0,none⟩) n c] 145)):=⟨_,rfl⟩
 have hsz:W0.heap.size=w.heap.size+4:=by rw [hW0]; simp
 have bA:Boxed W0 w.heap.size 145 (.slice (some ⟨g,0,none⟩) n c):=by rw [hW0]; exact (((Boxed.new w _ _).alloc _).alloc _).alloc _
 have bY:Boxed W0 (w.heap.size+1) 63 (.int .u32 (by_:Int)):=by rw [hW0]; have:=Boxed.new (w.alloc (.cells #[.slice (some ⟨g,0,none⟩) n c] 145)) 63 (.int .u32 (by_:Int)); rw [World.size_alloc] at this; exact (this.alloc _).alloc _
 have bR:Boxed W0 (w.heap.size+2) 148 (.int .u64 ((0:Nat):Int)):=by rw [hW0]; have:=Boxed.new ((w.alloc (.cells #[.slice (some ⟨g,0,none⟩) n c] 145)).alloc (.cells #[.int .u32 (by_:Int)] 63)) 148 (.int .u64 0); rw [World.size_alloc,World.size_alloc] at this; exact this.alloc _
 have bN:Boxed W0 (w.heap.size+3) 145 (.slice (some ⟨g,0,none⟩) n c):=by rw [hW0]; have:=Boxed.new (((w.alloc (.cells #[.slice (some ⟨g,0,none⟩) n c] 145)).alloc (.cells #[.int .u32 (by_:Int)] 63)).alloc (.cells #[.int .u64 0] 148)) 145 (.slice (some ⟨g,0,none⟩) n c); rw [World.size_alloc,World.size_alloc,World.size_alloc] at this; exact this
 have hgr0:w.grownBy W0 (some g):=by rw [hW0]; exact grown_alloc (grown_alloc (grown_alloc (grown_alloc ⟨rfl,rfl,rfl,Nat.le_refl _,fun _ _ _=>rfl⟩ _) _) _) _
 have hnb0:NBx W0 g 63 .u32 l:=by rw [hW0]; exact HL.out.keep ((Below.heap_alloc _ _ _ (by have:=HL.out.lt; simp; omega)).trans ((Below.heap_alloc _ _ _ (by have:=HL.out.lt; simp; omega)).trans ((Below.heap_alloc _ _ _ (by have:=HL.out.lt; simp; omega)).trans (Below.heap_alloc _ _ _ HL.out.lt))))
 rw [<- hW0];refine range_told (F:=Fence.wide) (n:=3) (ps := #[10,11]) (encs:=backVals) rfl (by decide) (gf:=264) (lb := #[.pointer (some ⟨w.heap.size+1+1+1,0,none⟩)]) rfl trivial (enters_of Tryz.func264 (by kernel_rfl) rfl)
  (back_told Fence.wide 2 trivial rfl (by decide) (w.heap.size+1+1+1) n c (some ⟨g,0,none⟩) l hn1 _) (Below.refl _ _) (fun _=>rfl)
  (SmallI w g n c by_ l) (fun _ _ _=>False) (fun pre W hI => ?hIG) (fun pre A B row hs hg hr => ?hI) (fun _ _ _ _ _ hs _ _=>hs) ?hst
  (fun x => { tmps := #[.slice (some ⟨g,0,none⟩) n c,.int .u32 (by_:Int),.pointer (some ⟨w.heap.size,0,none⟩),.pointer (some ⟨w.heap.size+1,0,none⟩),.int .u32 0,.pointer (some ⟨w.heap.size+1+1,0,none⟩),.int .i64 (x.1:Int),.int .u32 (x.2:Int),.slice (some ⟨g,0,none⟩) n c,.func (.func 264) #[] #[.pointer (some ⟨w.heap.size+1+1+1,0,none⟩)],.int .i64 (x.1:Int),.int .u32 (x.2:Int),undef,undef,undef,undef,undef,undef,undef,undef,undef,undef,undef,undef,undef,undef,undef,undef,undef,undef,undef],defers := [] }) ?assign ?body ?done ?stop
 case hIG =>
  obtain⟨o,r,hpl,hol,hod,htk,hr,hv,hnb,b1,b2,b3,b4,hgr⟩:=hI;refine⟨b4.cell,fun j hj=>⟨g,0,rfl,?_⟩⟩;have hjo:j<o.length:=by omega
  have hjl:j<l.length:=by have:=HN.out; omega
  have h1:=hnb.cell hjo;have e:o[j]=l.getD j 0:=by
   have h2:=congrArg (fun q=>q[j]?) htk;simp only [List.getElem?_take,show j<n - pre.length by omega,if_true] at h2;rw [List.getElem?_eq_getElem hjo] at h2;rw [List.getD_eq_getElem?_getD,<- h2];rfl
  rw [Nat.zero_add,h1,e]
 case hI =>
  obtain⟨o,r,hpl,hol,hod,htk,hr',hv,hnb,b1,b2,b3,b4,hgr⟩:=hs;exact⟨o,r,hpl,hol,hod,htk,hr',hv,hnb.row hg hr,Boxed_row b1 hg hr,Boxed_row b2 hg hr,Boxed_row b3 hg hr,Boxed_row b4 hg hr,grown_row hgr (by rw [hsz]; omega) hg hr⟩
 case hst =>
  exact⟨l,0,Nat.zero_le _,HN.out.symm,hd,rfl,h0,by rw [List.length_nil,Nat.sub_zero,List.drop_eq_nil_of_le (Nat.le_of_eq HN.out.symm)]; simp [valB],hnb0,bA,bY,bR,bN,hgr0⟩
 case assign =>
  intro lp x W K hK;unfold backVals
  gi_wp2
  exact hK
 case body =>
  rintro lp pre x0 W ⟨o,r,hpl,hol,hod,htk,hr',hv,hnb,b1,b2,b3,b4,hgr⟩ ⟨hlt,rfl⟩
  obtain⟨j,hj⟩:∃ j,j+pre.length+1=n:=⟨n - 1 - pre.length,by omega⟩
  have e1:n - 1 - pre.length=j:=by omega
  have e3:n - pre.length=j+1:=by omega
  rw [e3] at htk hv;unfold backOne;rw [e1];obtain⟨d,hdd⟩:∃ d,d=l.getD j 0:=⟨_,rfl⟩
  have hdl:d<4294967296:=by rw [hdd]; exact hd.getD (by decide) j
  rw [<- hdd];have c1:=b1.cell;have c2:=b2.cell;have c3:=b3.cell;have f3:=b3.frozen;have hjo:j<o.length:=by omega
  have cj:=hnb.cell hjo;have fj:=hnb.frozen j;have hrl:r<4294967296:=by omega
  have hor:=Lib.hid (or32 hrl hdl);clear bA bY bR bN hgr0 hnb0;have hgl:g<w.heap.size:=HL.out.lt;have hd2:IntKind.u64.wrap (d:Int)=(d:Int):=wrap_u64 (by omega) (by omega);have HDD:=Lib.hid hdd;have HHD:=Lib.hid hd;clear hdd hd;dsimp only
  gi_wp2
  obtain⟨s,hs⟩:∃ s,s=r*4294967296+d:=⟨_,rfl⟩
  rw [hor.out,<- hs];have b1':Boxed (W.setCell ⟨w.heap.size+1+1,0,none⟩ (.int .u64 (s:Int))) w.heap.size 145 (.slice (some ⟨g,0,none⟩) n c):=(Below.heap_setCell _ _ _ _ (by simp; omega)).trans b1;have b2':Boxed (W.setCell ⟨w.heap.size+1+1,0,none⟩ (.int .u64 (s:Int))) (w.heap.size+1) 63 (.int .u32 (by_:Int)):=(Below.heap_setCell _ _ _ _ (by simp)).trans b2;have b3':Boxed (W.setCell ⟨w.heap.size+1+1,0,none⟩ (.int .u64 (s:Int))) (w.heap.size+2) 148 (.int .u64 (s:Int)):=one_setCell b3;have b4':Boxed (W.setCell ⟨w.heap.size+1+1,0,none⟩ (.int .u64 (s:Int))) (w.heap.size+3) 145 (.slice (some ⟨g,0,none⟩) n c):=(Below.heap_setCell _ _ _ _ (by simp)).trans b4;have hnb':NBx (W.setCell ⟨w.heap.size+1+1,0,none⟩ (.int .u64 (s:Int))) g 63 .u32 o:=hnb.other (by simp; omega) _;have hgr':w.grownBy (W.setCell ⟨w.heap.size+1+1,0,none⟩ (.int .u64 (s:Int))) (some g):=grown_set hgr (.inr (by simp; omega)) _;have hko:KeepsOthers W (W.setCell ⟨w.heap.size+1+1,0,none⟩ (.int .u64 (s:Int))):=KeepsOthers.setCell _ _ _;clear b1 b2 b3 b4 c1 c2 c3 f3 cj fj hnb hgr;generalize W.setCell ⟨w.heap.size+1+1,0,none⟩ (.int .u64 (s:Int))=W1 at *
  have hjn:(j:Int)<(n:Int):=by omega
  have hslt:s<18446744073709551616:=by omega
  have hmo:Tryz.prog.follows .mixedOrders=true:=by kernel_rfl
  have hb0:¬ ((by_:Int)=0):=by omega
  have hwb:IntKind.u64.wrap (by_:Int)=(by_:Int):=wrap_u64 (by omega) (by omega);obtain⟨q,hq⟩:∃ q,q=s / by_:=⟨_,rfl⟩
  obtain⟨r2,hr2⟩:∃ r2,r2=s % by_:=⟨_,rfl⟩
  have hq1:q<4294967296:=by
   rw [hq];refine (Nat.div_lt_iff_lt_mul h0).2 ?_;have h1:(r+1)*4294967296<=by_*4294967296:=Nat.mul_le_mul_right _ hr';rw [Nat.mul_comm 4294967296 by_];omega
  have hqi:(s:Int) / (by_:Int)=(q:Int):=by rw [hq]; exact (Int.natCast_ediv s by_).symm
  have hri:(s:Int) % (by_:Int)=(r2:Int):=by rw [hr2]; exact (Int.natCast_emod s by_).symm
  have hr2b:r2<by_:=by rw [hr2]; exact Nat.mod_lt _ h0
  have hwq:IntKind.u32.wrap (q:Int)=(q:Int):=by rw [wrap_u32,Nat.mod_eq_of_lt hq1]
  have hjl:j<l.length:=by have:=HN.out; omega
  have hstep:Hid (valB B32 (l.drop j)=valB B32 ((o.set j q).drop j)*by_+r2):=by
   have h1:=small_step (B:=B32) (by_:=by_) (a:=l) (o:=o) (i:=j) (r:=r) hjl (by rw [hol]; exact HN.out) hv;have e:l[j]=d:=by have:=HDD.out; rw [this,List.getD_eq_getElem?_getD,List.getElem?_eq_getElem hjl]; rfl
   rw [e] at h1;have e2:r*B32+d=s:=hs.symm;rw [e2,<- hq,<- hr2] at h1;exact h1
  have HVS:=Lib.hid hs;have HQS:=Lib.hid hq;have HRS:=Lib.hid hr2;have HTK:=Lib.hid htk;clear hs hq hr2 hv htk;rename_i Q2 K2 ha2;have hw2:∃ W2,W2=(W1.setCell ⟨g,j,none⟩ (.int .u32 (q:Int))).drew:=⟨_,rfl⟩
  obtain⟨W2,hW2⟩:=hw2;have HQ:Exit.then K2 (Exit.inBlock 1 Q2) Exit.normal { tmps := #[.slice (some ⟨g,0,none⟩) n c,.int .u32 (by_:Int),.pointer (some ⟨w.heap.size,0,none⟩),.pointer (some ⟨w.heap.size+1,0,none⟩),.int .u32 0,.pointer (some ⟨w.heap.size+1+1,0,none⟩),.int .i64 (j:Int),.int .u32 (d:Int),.slice (some ⟨g,0,none⟩) n c,.func (.func 264) #[] #[.pointer (some ⟨w.heap.size+1+1+1,0,none⟩)],.int .i64 (j:Int),.int .u32 (d:Int),.int .u64 (r:Int),.int .u64 ((r:Int)*4294967296),.int .u32 (d:Int),.int .u64 (d:Int),.int .u64 (s:Int),.slice (some ⟨g,0,none⟩) n c,.int .i64 (j:Int),.int .u64 (s:Int),.int .u32 (by_:Int),.int .u64 (by_:Int),.int .u64 (q:Int),.int .u32 (q:Int),.pointer (some ⟨g,j,none⟩),undef,undef,undef,undef,undef,undef],defers := [] } W2:=by
   have b1:Boxed W2 w.heap.size 145 (.slice (some ⟨g,0,none⟩) n c):=by rw [hW2]; exact (Below.heap_setCell _ _ _ _ (by simp; omega)).trans b1'
   have b2:Boxed W2 (w.heap.size+1) 63 (.int .u32 (by_:Int)):=by rw [hW2]; exact (Below.heap_setCell _ _ _ _ (by simp; omega)).trans b2'
   have b3:Boxed W2 (w.heap.size+2) 148 (.int .u64 (s:Int)):=by rw [hW2]; exact (Below.heap_setCell _ _ _ _ (by simp; omega)).trans b3'
   have b4:Boxed W2 (w.heap.size+3) 145 (.slice (some ⟨g,0,none⟩) n c):=by rw [hW2]; exact (Below.heap_setCell _ _ _ _ (by simp; omega)).trans b4'
   have hnb:NBx W2 g 63 .u32 (o.set j q):=by rw [hW2]; exact hnb'.setCell hjo q
   have hgr:w.grownBy W2 (some g):=by rw [hW2]; exact (fun h=>⟨h.os,h.tape,h.output,h.size,h.block⟩) (grown_set (p:=⟨g,j,none⟩) hgr' (.inl rfl) (.int .u32 (q:Int)))
   have hko2:KeepsOthers W W2:=by rw [hW2]; exact hko.trans ((KeepsOthers.setCell _ _ _).trans (KeepsOthers.drew _))
   have b1s:Boxed (W2.setCell ⟨w.heap.size+1+1,0,none⟩ (.int .u64 (r2:Int))) w.heap.size 145 (.slice (some ⟨g,0,none⟩) n c):=(Below.heap_setCell _ _ _ _ (by simp; omega)).trans b1;have b2s:Boxed (W2.setCell ⟨w.heap.size+1+1,0,none⟩ (.int .u64 (r2:Int))) (w.heap.size+1) 63 (.int .u32 (by_:Int)):=(Below.heap_setCell _ _ _ _ (by simp)).trans b2;have b3s:Boxed (W2.setCell ⟨w.heap.size+1+1,0,none⟩ (.int .u64 (r2:Int))) (w.heap.size+2) 148 (.int .u64 (r2:Int)):=one_setCell b3;have b4s:Boxed (W2.setCell ⟨w.heap.size+1+1,0,none⟩ (.int .u64 (r2:Int))) (w.heap.size+3) 145 (.slice (some ⟨g,0,none⟩) n c):=(Below.heap_setCell _ _ _ _ (by simp)).trans b4;have hnbs:NBx (W2.setCell ⟨w.heap.size+1+1,0,none⟩ (.int .u64 (r2:Int))) g 63 .u32 (o.set j q):=hnb.other (by simp; omega) _;have hgrs:w.grownBy (W2.setCell ⟨w.heap.size+1+1,0,none⟩ (.int .u64 (r2:Int))) (some g):=grown_set hgr (.inr (by simp; omega)) _;have hkos:KeepsOthers W (W2.setCell ⟨w.heap.size+1+1,0,none⟩ (.int .u64 (r2:Int))):=hko2.trans (KeepsOthers.setCell _ _ _);have c2:=b2.cell;have c3:W2.cell? ⟨w.heap.size+1+1,0,none⟩=_:=b3.cell;have f3:W2.frozen? ⟨w.heap.size+1+1,0,none⟩=_:=b3.frozen;clear hW2 b1' b2' b3' b4' hnb' hgr' hko b1 b2 b3 b4 hnb hgr hko2;refine ha2 _ _ ?_
   gi_wp2
   refine⟨hkos,o.set j q,r2,by simp; omega,by simp [hol],hod.set _ _ hq1,?_,hr2b,?_,hnbs,b1s,b2s,b3s,b4s,hgrs⟩
   . have e:n - (pre ++ [(j,d)]).length=j:=by simp; omega
     rw [e,take_set];have:=congrArg (fun q=>q.take j) HTK.out;simpa [List.take_take] using this
   . have e:n - (pre ++ [(j,d)]).length=j:=by simp; omega
     rw [e];exact hstep.out
  have c1:W1.drew.cell? ⟨w.heap.size,0,none⟩=_:=b1'.cell;have c2:W1.drew.cell? ⟨w.heap.size+1,0,none⟩=_:=b2'.cell;have c3:W1.drew.cell? ⟨w.heap.size+1+1,0,none⟩=_:=b3'.cell;have cj:W1.drew.cell? ⟨g,j,none⟩=_:=hnb'.cell hjo;have fj:W1.drew.frozen? ⟨g,j,none⟩=_:=hnb'.frozen j;rw [hW2] at HQ;have HQ':=Lib.hid HQ;clear HQ hW2 b1' b2' b3' b4' hnb' hgr' hko
  gi_region_with_o (fail)
  all_goals exact HQ'.out
 case done =>
  rintro D0 xs W hD hxs ⟨o,r,hpl,hol,hod,htk,hr',hv,hnb,b1,b2,b3,b4,hgr⟩ hK
  rw [hxs,Nat.sub_self,List.drop_zero,List.drop_zero] at hv;have c3:W.cell? ⟨w.heap.size+1+1,0,none⟩=_:=b3.cell;have hrl:r<4294967296:=by omega
  have hwr:IntKind.u32.wrap (r:Int)=(r:Int):=by rw [wrap_u32,Nat.mod_eq_of_lt hrl]
  have hmod:Hid (r=valB B32 l % by_):=by
   unfold Hid;rw [hv,Nat.mul_comm,Nat.mul_add_mod,Nat.mod_eq_of_lt hr']
  have hdiv:Hid (valB B32 o=valB B32 l / by_):=by
   unfold Hid;rw [hv,Nat.mul_comm,Nat.mul_add_div h0,Nat.div_eq_of_lt hr',Nat.add_zero]
  have HNB:=Lib.hid (hnb.keep (w':=W.putObj D0 (.deferred none)) (World.putObj_heap_other (by
   intro e;obtain⟨rr,hh⟩:=hnb;rw [e] at hh;rw [hh] at hK;cases hK)))
  have HGR:=Lib.hid (grown_put hgr (D:=D0) (by omega) (.deferred none));have hol2:Hid (o.length=l.length):=by unfold Hid; rw [hol]; exact HN.out
  clear hv htk hnb bA bY bR bN hgr0 hnb0 b1 b2 b3 b4 hgr
  gi_wp2
  refine⟨by simp,.inl ⟨_,_,rfl,run_takeDeferred hK,?_⟩⟩;exact⟨_,results_tmp rfl _ _ _,o,by rw [<- hmod.out]; rfl,hol2.out,hod,hdiv.out,HNB.out,HGR.out⟩
 case stop =>
  rintro D0 cc pre W _ _ h _
  exact h.elim
end Go.Proofs.YthfpdbjemfhieaaGreat
namespace Go.Proofs.YthfpdbjemfhieaaGreat
open Go.RowKit
def DivPost (w:World) (x y:Nat) (e:Ending) (w':World):Prop:=∃ A1 c1 A2 c2,e = .returned (.tuple #[.slice A1 (len32 (x / y)) c1,.slice A2 (len32 (x % y)) c2])/\Rd32 w' A1 (x / y)/\Rd32 w' A2 (x % y)/\len32 (x / y)<=c1/\len32 (x % y)<=c2/\Below w.heap.size w w'
theorem low_small {x:Nat} (h:len32 x<=2):x<18446744073709551616:=by
 have:=lt_of_dig_len hB32 (n:=x) (k:=2) h;have h2:B32^2=18446744073709551616:=by decide
 omega
set_option maxRecDepth 100000 in
set_option maxHeartbeats 4000000 in
theorem divide_less (A D:Option Addr) (ca cd x y n m:Nat) (hn:n=len32 x) (hm:m=len32 y) (w:World) (h:Rd32 w A x) (h':Rd32 w D y) (hx:len32 x<=1000) (hy:len32 y<=1000) (hxy:x<y) :
 Calls Tryz.prog 127 #[.slice A n ca,.slice D m cd] w (DivPost w x y):=by
 have HC:=Lib.hid (frac_cmp A D ca cd x y n m hn hm w h h' hx hy);rw [cmpNat_lt hxy] at HC;have HL:=Lib.hid (fun (w1:World) (hb:Below w.heap.size w w1)=>clone_nat A ca x n hn w1 (h.from hb) hx);have HX:=Lib.hid hxy;clear h h' hxy hn hm
 go_enter Tryz.func127,Tryz.ntmps127
 go_wp2_with (first
  | (go_at_call 184; refine (HC.out).mono ?_; rintro e w1 ⟨rfl,hb1⟩; have HB1:=Lib.hid hb1; clear hb1)
  | (go_at_call 185; refine (HL.out _ HB1.out).mono ?_; rintro e w2 ⟨A2,c2,rfl,hown2,hc2,hb2⟩))
 go_ret2
 have hdiv:x / y=0:=Nat.div_eq_of_lt HX.out;have hmod:x % y=x:=Nat.mod_eq_of_lt HX.out;unfold DivPost;rw [hdiv,hmod];exact⟨none,0,A2,c2,rfl,Rd.nil _ _ _ _,hown2.rd,Nat.zero_le _,hc2,HB1.out.trans (hb2.mono HB1.out.size)⟩
set_option maxRecDepth 100000 in
set_option maxHeartbeats 4000000 in
theorem divide_two (A D:Option Addr) (ca cd x y n m:Nat) (hn:n=len32 x) (hm:m=len32 y) (w:World) (h:Rd32 w A x) (h':Rd32 w D y) (hx:len32 x<=2) (hy0:0<y) (hxy:y<=x) :
 Calls Tryz.prog 127 #[.slice A n ca,.slice D m cd] w (DivPost w x y):=by
 have hy:len32 y<=2:=Nat.le_trans (dig_len_le hB32 (Nat.lt_of_le_of_lt hxy (lt_of_dig_len hB32 (Nat.le_refl _)))) hx;have HC:=Lib.hid (frac_cmp A D ca cd x y n m hn hm w h h' (by omega) (by omega));have hc:¬ cmpNat x y<0:=by
  unfold cmpNat;rw [if_neg (by omega)];split<;>decide
 have hxs:=low_small hx;have hys:=low_small hy;have HLX:=Lib.hid (fun (w1:World) (hb:Below w.heap.size w w1)=>frac_low A ca n x hn w1 (h.from hb) (by omega) x (Nat.mod_eq_of_lt hxs).symm);have HLY:=Lib.hid (fun (w1:World) (hb:Below w.heap.size w w1)=>frac_low D cd m y hm w1 (h'.from hb) (by omega) y (Nat.mod_eq_of_lt hys).symm);obtain⟨q,hq⟩:∃ q,q=x / y:=⟨_,rfl⟩
 obtain⟨r,hr⟩:∃ r,r=x % y:=⟨_,rfl⟩
 have hqi:(x:Int) / (y:Int)=(q:Int):=by rw [hq]; exact (Int.natCast_ediv x y).symm
 have hri:(x:Int) % (y:Int)=(r:Int):=by rw [hr]; exact (Int.natCast_emod x y).symm
 have hqs:q<18446744073709551616:=by rw [hq]; exact Nat.lt_of_le_of_lt (Nat.div_le_self _ _) hxs
 have hrs:r<18446744073709551616:=by rw [hr]; exact Nat.lt_of_le_of_lt (Nat.mod_le _ _) hxs
 have HQ:=Lib.hid (fun (w1:World)=>frac_of q hqs w1);have HR:=Lib.hid (fun (w1:World)=>frac_of r hrs w1);have hy1:¬ ((y:Int)=0):=by omega
 have hn2:(n:Int)<=2:=by omega
 have HQE:=Lib.hid hq;have HRE:=Lib.hid hr;generalize cmpNat x y=cv at *
 clear h h' hxy hn hm hx hy hq hr
 go_enter Tryz.func127,Tryz.ntmps127
 go_wp2_with (first
  | (go_at_call 184; refine (HC.out).mono ?_; rintro e w1 ⟨rfl,hb1⟩; have HB1:=Lib.hid hb1; have P1:=HB1; clear hb1)
  | (go_at_call 186; refine (HLX.out _ P1.out).mono ?_; rintro e w2 ⟨rfl,rfl⟩; have P2:=P1; clear P1)
  | (go_at_call 186; refine (HLY.out _ P2.out).mono ?_; rintro e w2 ⟨rfl,rfl⟩; have P3:=P2; clear P2)
  | (go_at_call 64; refine (HQ.out _).mono ?_; rintro e w3 ⟨A3,c3,rfl,hrd3,hc3,hb3⟩; have HB3:=Lib.hid (HB1.out.trans (hb3.mono HB1.out.size)); have P1:=HB3; have HRD3:=Lib.hid hrd3; have HC3:=Lib.hid hc3; clear hb3 hrd3 hc3 HQ)
  | (go_at_call 64; refine (HR.out _).mono ?_; rintro e w4 ⟨A4,c4,rfl,hrd4,hc4,hb4⟩))
 go_ret2
 unfold DivPost;rw [<- HQE.out,<- HRE.out];exact⟨A3,c3,A4,c4,rfl,HRD3.out.from hb4,hrd4,HC3.out,hc4,HB3.out.trans (hb4.mono HB3.out.size)⟩
theorem dig_limb {y:Nat} (h:len32 y=1):dig B32 y = [y]/\0<y/\y<4294967296:=by
 have h1:y<B32^1:=lt_of_dig_len hB32 (show len32 y<=1 by omega);have hB:B32=4294967296:=rfl;have h2:y≠0:=by
  rintro rfl
  exact absurd h (by decide)
 rw [Nat.pow_one] at h1;refine⟨?_,by omega,by omega⟩;rw [dig_pos hB32 h2,Nat.mod_eq_of_lt h1,Nat.div_eq_of_lt h1,dig_zero hB32]
theorem len_div (x y:Nat):len32 (x / y)<=len32 x:=dig_len_le hB32 (Nat.lt_of_le_of_lt (Nat.div_le_self x y) (lt_of_dig_len hB32 (Nat.le_refl _)))
set_option maxRecDepth 100000 in
set_option maxHeartbeats 4000000 in
theorem divide_one (A D:Option Addr) (ca cd x y n m:Nat) (hn:n=len32 x) (hm:m=len32 y) (w:World) (h:Rd32 w A x) (h':Rd32 w D y) (hx:len32 x<=1000) (hx2:2<len32 x) (hy:len32 y=1) :
 Calls Tryz.prog 127 #[.slice A n ca,.slice D m cd] w (DivPost w x y):=by
 have hyx:y<=x:=Nat.le_of_lt (lt_of_len_lt hB32 (m:=y) (n:=x) (show len32 y<len32 x by omega));have HC:=Lib.hid (frac_cmp A D ca cd x y n m hn hm w h h' (by omega) (by omega));have hc:¬ cmpNat x y<0:=by
  unfold cmpNat;rw [if_neg (by omega)];split<;>decide
 obtain⟨hyd,hy0,hyB⟩:=dig_limb hy;obtain⟨l,hl⟩:∃ l,l=dig B32 x:=⟨_,rfl⟩
 have hll:l.length=n:=by rw [hl,hn]
 have hld:Digs B32 l:=by rw [hl]; exact Digs.dig hB32 x
 have hlv:valB B32 l=x:=by rw [hl]; exact val_dig hB32 x
 obtain⟨r,hr⟩:∃ r,r=x % y:=⟨_,rfl⟩
 have hrs:r<4294967296:=by rw [hr]; exact Nat.lt_trans (Nat.mod_lt _ hy0) hyB
 have HL:=Lib.hid (fun (w1:World) (hb:Below w.heap.size w w1)=>clone_nat A ca x n hn w1 (h.from hb) hx);have HS:=Lib.hid (fun (g c:Nat) (w1:World) (hL:NBx w1 g 63 .u32 l)=>frac_small g c n y l hll.symm w1 hL hld (by omega) hy0 hyB);have HT:=Lib.hid (fun (g c:Nat) (o:List Nat) (ho:o.length=n) (hod:Digs B32 o) (hc:n<=c) (w1:World) (hL:NBx w1 g 63 .u32 o)=>frac_trim (some ⟨g,0,none⟩) c n o ho.symm w1 hL.rd hod (by omega) (by omega));have HR:=Lib.hid (fun (w1:World)=>frac_of r (by omega) w1);obtain⟨b0,o0,rfl,hb0,hld0⟩:=num_ld Tryz.underlying63 rfl h' (i:=0) (show 0<(dig B32 y).length by show 0<len32 y; omega);have HLD:=Lib.hid (fun (w1:World) (hb:Below w.heap.size w w1)=>by
  have h1:=hld0 w1 hb;have e:(dig B32 y)[0]'(show 0<(dig B32 y).length by show 0<len32 y; omega)=y:=by simp [hyd]
  rw [e] at h1;exact h1)
 have hn2:¬ (n:Int)<=2:=by omega
 have hm1:m=1:=by omega
 subst hm1;have wr:=wrap_u64 (n:=(r:Int)) (by omega) (by omega);have HQE:Hid (∀ o,valB B32 o=valB B32 l / y->valB B32 o=x / y):=by unfold Hid; intro o ho; rw [ho,hlv]
 have HRE:Hid (valB B32 l % y=r):=by unfold Hid; rw [hlv,hr]
 have HR2:=Lib.hid hr;have HN:=Lib.hid hn;have HLL:=Lib.hid (hl.symm);have hnpos:0<n:=by omega
 generalize cmpNat x y=cv at *
 clear h h' hyx hy hx hx2 hr hll hld hlv hyd hl hn hm hld0
 go_enter Tryz.func127,Tryz.ntmps127
 go_wp2_with (first
  | (go_at_call 184; refine (HC.out).mono ?_; rintro e w1 ⟨rfl,hb1⟩; have HB1:=Lib.hid hb1; clear hb1)
  | (go_at_call 185; refine (HL.out _ HB1.out).mono ?_; rintro e w2 ⟨A2,c2,rfl,hown2,hc2,hb2⟩; rw [HLL.out] at hown2; obtain⟨g,rfl,hg,hnb⟩:=hown2.nbx (by rw [<- HLL.out]; show 0<len32 x; rw [<- HN.out]; exact hnpos); have HC2:Hid (n<=c2):=by unfold Hid; rw [HN.out]; exact hc2
     have HB2:=Lib.hid (HB1.out.trans (hb2.mono HB1.out.size)); have HG:=Lib.hid (Nat.le_trans HB1.out.size hg); have HNB:=Lib.hid hnb; rw [<- HN.out]; clear hown2 hb2 hc2 hg hnb)
  | ((with_reducible refine g_ld 63 ?_); refine wpList_ld rfl _ _ rfl _ rfl _ (HLD.out _ HB2.out) ?_)
  | (go_at_call 187; refine (HS.out g c2 _ HNB.out).mono ?_; rintro e w3 ⟨o,rfl,hol,hod,hov,hnb3,hgr3⟩; rw [HRE.out]; have HOV:=Lib.hid (HQE.out o hov); have HOL:=Lib.hid hol; have HOD:=Lib.hid hod; have HNB3:=Lib.hid hnb3
     have HB3:=Lib.hid (HB2.out.grown hgr3 HB2.out.size (by intro k hk; injection hk with hk; rw [<- hk]; exact HG.out)); clear hol hod hov hnb3 hgr3)
  | (go_at_call 128; refine (HT.out g c2 o (by rw [HOL.out,<- HLL.out]; exact HN.out.symm) HOD.out HC2.out _ HNB3.out).mono ?_; rintro e w4 ⟨rfl,rfl⟩)
  | (go_at_call 64; refine (HR.out _).mono ?_; rintro e w5 ⟨A5,c5,rfl,hrd5,hc5,hb5⟩))
 go_ret2
 unfold DivPost;refine⟨some ⟨g,0,none⟩,c2,A5,c5,?_,?_,?_,?_,?_,HB3.out.trans (hb5.mono HB3.out.size)⟩
 . rw [HOV.out,HR2.out]; rfl
 . have h1:=rd_trim hB32 HNB3.out.rd HOD.out;rw [HOV.out] at h1;exact Rd.from h1 hb5
 . rw [<- HR2.out]; exact hrd5
 . exact Nat.le_trans (len_div x y) (by rw [<- HN.out]; exact HC2.out)
 . rw [<- HR2.out]; exact hc5
end Go.Proofs.YthfpdbjemfhieaaGreat
namespace Go.Proofs.YthfpdbjemfhieaaGreat
theorem top_split {B:Nat} {l:List Nat} (hl:Digs B l) {k:Nat} (h:l.length=k+1):valB B l=valB B (l.take k)+B^k*l.getD k 0/\valB B (l.take k)<B^k:=by
 have h1:=valB_take_getD B l k;rw [List.take_of_length_le (by omega)] at h1;have h2:=valB_lt (l.take k) (hl.take k);rw [List.length_take_of_le (by omega)] at h2;exact⟨h1,h2⟩
theorem top_split2 {B:Nat} {l:List Nat} (hl:Digs B l) {k:Nat} (h:l.length=k+2):valB B l=valB B (l.take k)+B^k*(l.getD k 0+B*l.getD (k+1) 0)/\valB B (l.take k)<B^k:=by
 have h1:=(top_split hl (k:=k+1) h).1;have h2:=valB_take_getD B l k;have h3:=valB_lt (l.take k) (hl.take k);rw [List.length_take_of_le (by omega)] at h3;refine⟨?_,h3⟩;rw [h1,h2,Nat.pow_succ];grind
theorem top_ne {y k:Nat} (h:len32 y=k+1):(dig B32 y).getD k 0≠0:=by
 refine dig_getLast hB32 (n:=y) ?_;have h':(dig B32 y).length=k+1:=h;rw [List.getLast?_eq_getElem?,h'];simp [List.getD,h']
theorem norm_len {y k s yt:Nat} (h:len32 y=k+1) (hyt:yt=(dig B32 y).getD k 0) (hs:s=B32 / (yt+1)):0<s/\s<B32/\len32 (y*s)=k+1:=by
 have h0:=top_ne h;rw [<- hyt] at h0;have hd:=Digs.dig hB32 y;have hlt:yt<B32:=by rw [hyt]; exact hd.getD (by decide) k
 have hsp:=top_split hd h;rw [val_dig hB32,<- hyt] at hsp;have hs0:0<s:=by rw [hs]; exact Nat.div_pos (by omega) (by omega)
 have hm:s*(yt+1)<=B32:=by rw [hs]; exact Nat.div_mul_le_self _ _
 have hs1:s<B32:=by
  have h1:s*2<=s*(yt+1):=Nat.mul_le_mul_left _ (by omega);omega
 refine⟨hs0,hs1,?_⟩;have hB:B32^(k+1)=B32^k*B32:=Nat.pow_succ ..;have hy1:y<B32^k*(yt+1):=by
  rw [Nat.mul_add,Nat.mul_one];omega
 have h3:y*s<B32^(k+1):=by
  have h4:y*s<B32^k*(yt+1)*s:=Nat.mul_lt_mul_of_pos_right hy1 hs0;have h5:B32^k*(yt+1)*s=B32^k*(s*(yt+1)):=by grind
  have h6:B32^k*(s*(yt+1))<=B32^k*B32:=Nat.mul_le_mul_left _ hm;rw [hB];omega
 have h7:B32^k<=y:=(dig_len_lt_iff hB32).1 (show k<len32 y by omega);have h8:y*1<=y*s:=Nat.mul_le_mul_left _ hs0;have h9:k<len32 (y*s):=(dig_len_lt_iff hB32).2 (by omega);have h10:=dig_len_le hB32 h3;have:len32 (y*s)<=k+1:=h10;omega
structure DivI (X V n m j:Nat) (L Q:List Nat):Prop where
 l:L.length=m+n+1
 q:Q.length=m+1
 dl:Digs B32 L
 dq:Digs B32 Q
 eq:X=valB B32 (Q.drop j)*(V*B32^j)+valB B32 L
 lt:valB B32 L<V*B32^j
theorem DivI.start {X V n m x y s:Nat} (hx:len32 x=m+n) (hy:len32 y=n) (hn:0<n) (hs0:0<s) (_hs:s<B32) (hX:X=x*s) (hV:V=y*s) {L:List Nat} (hL:L.length=m+n+1) (hd:Digs B32 L) (hv:valB B32 L=X):DivI X V n m (m+1) L (List.replicate (m+1) 0):=by
 refine⟨hL,by simp,hd,Digs.zeros (by decide) _,?_,?_⟩
 . rw [List.drop_of_length_le (by simp),valB_nil,Nat.zero_mul,Nat.zero_add,hv]
 . rw [hv,hX,hV];have h1:x<B32^(m+n):=lt_of_dig_len hB32 (by show len32 x<=_; omega);obtain⟨k,rfl⟩:∃ k,n=k+1:=⟨n - 1,by omega⟩
   have h2:B32^k<=y:=(dig_len_lt_iff hB32).1 (show k<len32 y by omega);have h3:B32^(m+(k+1))=B32^k*B32^(m+1):=by rw [<- Nat.pow_add]; congr 1; omega
   have h4:B32^k*B32^(m+1)<=y*B32^(m+1):=Nat.mul_le_mul_right _ h2;have h5:x*s<y*B32^(m+1)*s:=Nat.mul_lt_mul_of_pos_right (by omega) hs0;have h6:y*B32^(m+1)*s=y*s*B32^(m+1):=by grind
   omega
abbrev winD (L:List Nat) (j n:Nat):List Nat:=(L.drop j).take (n+1)
theorem DivI.split {X V n m j:Nat} {L Q:List Nat} (h:DivI X V n m (j+1) L Q) (hV:len32 V=n) (hj:j<=m):valB B32 L=valB B32 (L.take j)+B32^j*valB B32 (winD L j n)/\valB B32 (L.take j)<B32^j/\valB B32 (winD L j n)<V*B32:=by
 have hP:0<B32^j:=Nat.pow_pos (by decide);have hlj:(L.take j).length=j:=List.length_take_of_le (by have:=h.l; omega);have h1:=valB_split B32 L j;rw [hlj] at h1;have hlen:(L.drop j).length=m+n+1 - j:=by simp [h.l]
 have hwl:(winD L j n).length=n+1:=List.length_take_of_le (by omega);have h2:=valB_split B32 (L.drop j) (n+1);rw [hwl] at h2;have hVB:V<B32^n:=lt_of_dig_len hB32 (by show len32 V<=_; omega);have hz:valB B32 ((L.drop j).drop (n+1))=0:=by
  rcases Nat.eq_zero_or_pos (valB B32 ((L.drop j).drop (n+1))) with h0|h0
  . exact h0
  . exfalso;have a1:B32^(n+1)*1<=B32^(n+1)*valB B32 ((L.drop j).drop (n+1)):=Nat.mul_le_mul_left _ h0;have a2:B32^j*B32^(n+1)<=B32^j*valB B32 (L.drop j):=Nat.mul_le_mul_left _ (by omega);have a3:V*B32^(j+1)<B32^n*B32^(j+1):=Nat.mul_lt_mul_of_pos_right hVB (Nat.pow_pos (by decide));have a4:B32^n*B32^(j+1)=B32^j*B32^(n+1):=by rw [<- Nat.pow_add,<- Nat.pow_add]; congr 1; omega
    have:=h.lt;omega
 rw [hz,Nat.mul_zero,Nat.add_zero] at h2;have h2':valB B32 (L.drop j)=valB B32 (winD L j n):=h2;rw [h2'] at h1;refine⟨h1,?_,?_⟩
 . have:=valB_lt (L.take j) (h.dl.take j);rwa [hlj] at this
 . have:=h.lt;have e:V*B32^(j+1)=B32^j*(V*B32):=by rw [Nat.pow_succ]; grind
   rw [e] at this;exact Nat.lt_of_mul_lt_mul_left (Nat.lt_of_le_of_lt (by omega) this)
theorem DivI.step {X V n m j:Nat} {L Q:List Nat} (h:DivI X V n m (j+1) L Q) (hV:len32 V=n) (hj:j<=m) (hV0:0<V) {o:List Nat} (ho:o.length=n+1) (hod:Digs B32 o) (hov:valB B32 o=valB B32 (winD L j n) % V) :
 DivI X V n m j (L.take j++o++L.drop (j+(n+1))) (Q.set j (valB B32 (winD L j n) / V)):=by
 obtain⟨h1,h2,h3⟩:=h.split hV hj;have hjl:(L.take j).length=j:=List.length_take_of_le (by have:=h.l; omega);have hq:valB B32 (winD L j n) / V<B32:=by
  rw [Nat.div_lt_iff_lt_mul hV0,Nat.mul_comm]; exact h3
 have hz:valB B32 (L.drop (j+(n+1)))=0:=by
  have e:=valB_split B32 (L.drop j) (n+1);have hwl:((L.drop j).take (n+1)).length=n+1:=List.length_take_of_le (by have:=h.l; simp; omega);rw [hwl] at e;have e2:=valB_split B32 L j;rw [hjl] at e2;rw [List.drop_drop] at e;have hP:0<B32^j:=Nat.pow_pos (by decide);have e3:B32^j*valB B32 (L.drop j)=B32^j*valB B32 (winD L j n):=by omega
  have e4:=Nat.eq_of_mul_eq_mul_left hP e3;have hP2:0<B32^(n+1):=Nat.pow_pos (by decide);rcases Nat.eq_zero_or_pos (valB B32 (L.drop (j+(n+1)))) with h0|h0
  . exact h0
  . have:=Nat.mul_pos hP2 h0;have e5:valB B32 (winD L j n)=valB B32 ((L.drop j).take (n+1)):=rfl;omega
 have hnew:valB B32 (L.take j++o++L.drop (j+(n+1)))=valB B32 (L.take j)+B32^j*(valB B32 (winD L j n) % V):=by
  rw [valB_append,hz,Nat.mul_zero,Nat.add_zero,valB_append,hjl,hov]
 have hd:=div_digit (B:=B32) (j:=j) (X:=X) (V:=V) (Q:=valB B32 (Q.drop (j+1))) (U:=valB B32 L) (lo:=valB B32 (L.take j)) (W:=valB B32 (winD L j n)) (q:=valB B32 (winD L j n) / V) (W1:=valB B32 (winD L j n) % V) h.eq h1 h2 (by rw [Nat.mul_comm]; exact (Nat.div_add_mod _ _).symm) (Nat.mod_lt _ hV0);refine⟨?_,by simp [h.q],(((h.dl.take j).append hod).append (h.dl.drop _)),h.dq.set _ _ hq,?_,?_⟩
 . have:=h.l;simp [ho];omega
 . rw [hnew,valB_drop_set B32 (by rw [h.q]; omega)];exact hd.1
 . rw [hnew];exact hd.2
theorem guess_start {V n vt g:Nat} {u:List Nat} (hu:Digs B32 u) (hul:u.length=n+1) (hVn:len32 V=n) (hn:0<n) (hvt:vt=(dig B32 V).getD (n - 1) 0) (hlt:valB B32 u<V*B32)
 (hg:g=min ((u.getD n 0*4294967296+u.getD (n - 1) 0) / vt) 4294967295):valB B32 u / V<=g:=by
 obtain⟨k,rfl⟩:∃ k,n=k+1:=⟨n - 1,by omega⟩
 simp only [Nat.add_sub_cancel] at hvt hg;have h0:=top_ne hVn;rw [<- hvt] at h0;obtain⟨hv1,_⟩:=top_split (Digs.dig hB32 V) (k:=k) hVn;rw [val_dig hB32,<- hvt] at hv1;obtain⟨hu1,hu2⟩:=top_split2 hu (k:=k) (by omega);have hV0:0<V:=by
  have:0<B32^k*vt:=Nat.mul_pos (Nat.pow_pos (by decide)) (by omega);omega
 have h1:=guess_ge (B:=B32) (n:=k) (by decide) hv1 hu1 hu2 (by omega);have hB:B32=4294967296:=rfl;have e:u.getD k 0+B32*u.getD (k+1) 0=u.getD (k+1) 0*4294967296+u.getD k 0:=by rw [hB]; omega
 rw [e] at h1;have h2:valB B32 u / V<B32:=by
  rw [Nat.div_lt_iff_lt_mul hV0,Nat.mul_comm]; exact hlt
 rw [hg];omega
def GuessI (V W n g:Nat) (owed:Bool) (o:List Nat):Prop :=
 (owed=true->valB B32 o+g*V=W+B32^(n+1)/\W / V<g)/\(owed=false->g=W / V/\valB B32 o=W % V)
theorem GuessI.taken {V W n g c:Nat} {o:List Nat} (hV:0<V) (hg:W / V<=g) (hc:c<=1) (ho:o.length=n+1) (hod:Digs B32 o) (h:valB B32 o+g*V=W+B32^(n+1)*c):GuessI V W n g (decide (0<c)) o:=by
 have hlt:=valB_lt o hod;rw [ho] at hlt;refine⟨fun h1 => ?_,fun h1 => ?_⟩
 . obtain rfl:c=1:=by have:=of_decide_eq_true h1; omega
   rw [Nat.mul_one] at h;exact⟨h,guess_gt h hlt hV⟩
 . obtain rfl:c=0:=by have:=of_decide_eq_false h1; omega
   rw [Nat.mul_zero,Nat.add_zero] at h;exact guess_eq hV hg h
theorem GuessI.given {V W n g c:Nat} {o o':List Nat} (hV:0<V) (hi:GuessI V W n g true o) (hc:c<=1) (ho:o'.length=n+1) (hod:Digs B32 o') (h:valB B32 o'+B32^(n+1)*c=valB B32 o+V):GuessI V W n (g - 1) (!decide (0<c)) o':=by
 obtain⟨h1,h2⟩:=hi.1 rfl;have hlt:=valB_lt o' hod;rw [ho] at hlt;obtain⟨k,rfl⟩:∃ k,g=k+1:=⟨g - 1,by have:=Nat.lt_of_le_of_lt (Nat.zero_le _) h2; omega⟩
 rw [Nat.add_sub_cancel];rw [Nat.add_mul,Nat.one_mul] at h1;refine⟨fun h3 => ?_,fun h3 => ?_⟩
 . have hc0:c=0:=by
    rcases Nat.eq_zero_or_pos c with h0|h0
    . exact h0
    . simp [h0] at h3
   subst hc0;rw [Nat.mul_zero,Nat.add_zero] at h;have e:valB B32 o'+k*V=W+B32^(n+1):=by omega
   exact⟨e,guess_gt e hlt hV⟩
 . have hc1:c=1:=by
    rcases Nat.eq_zero_or_pos c with h0|h0
    . simp [h0] at h3
    . omega
   subst hc1;rw [Nat.mul_one] at h;exact guess_eq hV (by omega) (by omega)
theorem DivI.done {n m x y s:Nat} {L Q:List Nat} (h:DivI (x*s) (y*s) n m 0 L Q) (hs:0<s) (hV:len32 (y*s)=n):valB B32 Q=x / y/\valB B32 (L.take n)=x % y*s/\x % y*s / s=x % y:=by
 have h1:=h.eq;have h2:=h.lt;rw [List.drop_zero,Nat.pow_zero,Nat.mul_one] at h1;rw [Nat.pow_zero,Nat.mul_one] at h2;obtain⟨h3,h4⟩:=div_scaled hs h1 h2;refine⟨h3,?_,Nat.mul_div_cancel _ hs⟩;rw [<- h4];have h5:y*s<B32^n:=lt_of_dig_len hB32 (by show len32 (y*s)<=_; omega);have h6:=valB_split B32 L n;rw [List.length_take_of_le (by have:=h.l; omega)] at h6;rcases Nat.eq_zero_or_pos (valB B32 (L.drop n)) with h0|h0
 . rw [h0,Nat.mul_zero,Nat.add_zero] at h6;exact h6.symm
 . have:B32^n*1<=B32^n*valB B32 (L.drop n):=Nat.mul_le_mul_left _ h0;omega
open Go.RowKit
theorem wp_region_keep {P:Program} {id:Nat} {Q:Exit->Act->World->Prop} {a0:Act} {w0:World} {l:List Oper} (np:Nat) (R:Nat->Value->World->Prop) (hR:∀ i v w w',R i v w->From w w'->R i v w') (hm:P.follows .mixedOrders=true) (hO:orderB l np=true) (hnp:np<=l.length) (hd:dstsB l np a0.tmps.size=true)
 (hstep:∀ i o,i<np->l[i]? = some o->∀ (a:Act) (w:World),From w0 w->(∀ j oj d,j<np->l[j]? = some oj->oj.dst=some d->(o.after.any fun e=>Region.binds .any e&&e.on==j)=true->∃ v,a.tmps[d]? = some v/\R j v w) ->
  (∀ s,((l.take np).all fun o=>o.dst != some s)=true->a.tmps[s]? = a0.tmps[s]?)->wpOp P l.toArray Q i (fun a' w'=>∃ v,a'=a.put o.dst v/\From w w'/\R i v w') a w)
 (hK:∀ (val:Nat->Value) (w:World),From w0 w->(∀ i,i<np->R i (val i) w)->wpList P l.toArray Q (l.drop np) (putAll val 0 (l.take np) a0) w) :
 (Code.region id l.toArray true).wp P Q a0 w0:=by
 refine wp_region_made np (fun i v _ _ w=>R i v w) hm hO hnp hd (fun i v lo hi w w' h _ hb=>hR i v w w' h hb) ?_ ?_
 . intro i o hi ho L a w val lo hi' M haft;refine hstep i o hi ho a w M.from0 (fun j oj d hj hoj hdj he => ?_) (fun s hs=>M.old_ hs);rw [Array.any_eq_true'] at he;obtain⟨e,he,hb⟩:=he;simp only [Bool.and_eq_true,beq_iff_eq] at hb;have hL:=haft e he hb.1;rw [hb.2] at hL;exact⟨val j,M.slots j oj d hj hoj hdj hL,(M.rows j hj hL).2.2.2⟩
 . intro val lo hi w hb hrows _;exact hK val w hb (fun i hi=>(hrows i hi).2.2.2)
theorem apart_zero {w:World} {g k V:Nat} {A:Option Addr} (hz:NB w g 63 .u32 (List.replicate k 0)) (hA:Rd32 w A V) (hV:V≠0):∀ q,A=some q->q.block≠g:=by
 rintro q rfl hq
 have hl:=dig_len_pos hB32 hV;obtain⟨j,hj⟩:∃ j,(dig B32 V).length=j+1:=⟨(dig B32 V).length - 1,by omega⟩
 have htop:(dig B32 V).getD j 0≠0:=top_ne hj;obtain⟨b,off,e,hb,hlen,hc⟩:=hA j _ (nums_get (k := .u32) (l:=dig B32 V) (i:=j) (by omega));injection e with e;rw [e] at hq;have h1:=hc 0 _ rfl;simp only at hq;subst hq;rw [cell_of_row w b _ _ _ _ hz] at h1;simp only [List.map_replicate,List.getElem?_toArray,List.getElem?_replicate] at h1;split at h1
 . injection h1 with h1;injection h1 with _ h1;apply htop;have h3:(dig B32 V)[j]'(by omega)=0:=by omega
   simp [hj,h3]
 . cases h1
def divR (base:Nat) (A D:Option Addr) (ca cd la n s V:Nat):Nat->Value->World->Prop:=fun i v w =>
 match i with
 | 0=>v = .slice A la ca
 | 1=>v = .int .i64 (la:Int)
 | 2=>v = .int .i64 ((la+1:Nat):Int)
 | 3=>∃ g,v = .slice (some ⟨g,0,none⟩) (la+1) (la+1)/\NB w g 63 .u32 (List.replicate (la+1) 0)/\base<=g
 | 4=>v = .slice D n cd
 | 5=>v = .int .u32 (s:Int)
 | 6=>∃ B,v = .slice B 1 1/\Rd32 w B s
 | 7=>∃ A' c',v = .slice A' (len32 V) c'/\Rd32 w A' V
 | _=>True
theorem divR_stays {base:Nat} {A D:Option Addr} {ca cd la n s V:Nat}:∀ i v (w w':World),divR base A D ca cd la n s V i v w->From w w'->divR base A D ca cd la n s V i v w':=by
 intro i v w w' h hb
 match i,h with
 | 0,h=>exact h
 | 1,h=>exact h
 | 2,h=>exact h
 | 3,⟨g,h1,h2,h3⟩=>exact⟨g,h1,h2.below hb h2.lt,h3⟩
 | 4,h=>exact h
 | 5,h=>exact h
 | 6,⟨B,h1,h2⟩=>exact⟨B,h1,h2.from hb⟩
 | 7,⟨A',c',h1,h2⟩=>exact⟨A',c',h1,h2.from hb⟩
 | _+8,_=>trivial
theorem times_cf (w:World) (args:Array Value):(callFunc 148 args).run Tryz.prog w = .ok (.enter 148 args) w:=by
 go_simp
theorem rd_limb {w:World} {s:Nat} (h0:0<s) (h1:s<4294967296):Rd32 (w.alloc (.cells #[.int .u32 (s:Int)] 63)) (some ⟨w.heap.size,0,none⟩) s:=by
 have hnb:NB (w.alloc (.cells #[.int .u32 (s:Int)] 63)) w.heap.size 63 .u32 [s]:=heap_alloc_new w _;have e:dig B32 s = [s]:=by
  rw [dig_pos hB32 (by omega),Nat.mod_eq_of_lt h1,Nat.div_eq_of_lt h1,dig_zero hB32]
 unfold Rd32;rw [e];exact hnb.rd0
theorem run_make_N {P:Program} {t e bytes n:Nat} {k kl kc:IntKind} (w:World) (ht:P.underlying t=some (.slice e)) (hz:(P.info? e).map (fun i=>(i.zero,i.size,i.bytes))=some (some (.int k 0),1,bytes)) (b2:bytes*n<=281474976710656) (b3:n<=maxLen) {a:Act} {o:Oper} (l c:Operand) (ho:o.op = .makeSlice t l c) (hl:a.eval l = .int kl (n:Int)) (hc:a.eval c = .int kc (n:Int)) :
 ∃ w',(execOp a.eval o).run P w = .ok (.value (.slice (some ⟨w.heap.size,0,none⟩) n n)) w'/\NB w' w.heap.size e k (List.replicate n 0)/\Below w.heap.size w w':=by
 obtain⟨i,hi,hz1,hz2,hz3⟩:=info_parts hz;obtain⟨w',hrun,h1,h2⟩:=run_make_full (P:=P) w w.heap.size t e i (.int k 0) 1 ht hi hz1 hz2 kl kc n (by rw [hz3]; exact b2) b3 (Nat.le_refl _);refine⟨w',by simp [execOp,ho,hl,hc,hrun,Result.andThen],?_,(Below.refl _ _).grown h2 (Nat.le_refl _) (by simp)⟩;rcases h1.2 with ⟨h3,_⟩|⟨g,cap,cur,h3,hbg,hg,hnc,_,hsz,htk⟩
 . injection h3 with h3 _ _;cases h3
 . injection h3 with h3 _ h4;injection h3 with h3;injection h3 with h3;subst h3;subst h4;unfold NB;rw [hg];have e1:cur.toList=(List.replicate n 0).map fun (m:Nat)=>Value.int k (m:Int):=by
    rw [Nat.mul_one] at hsz htk;have e2:cur.toList.take n=cur.toList:=List.take_of_length_le (by simp; omega);rw [<- e2,htk];simp [madeCells];apply List.ext_getElem?;intro j;by_cases hj:j<n
    . simp [hj,Value.cells,Nat.mod_one]
    . simp [hj]
   rw [<- e1]
set_option maxHeartbeats 2000000 in
theorem region_div {id:Nat} {Q:Exit->Act->World->Prop} {a0:Act} {w0:World} {l:List Oper} {A D:Option Addr} {ca cd la n s y:Nat}
 {t0 t1 t2 t3 t4 t5 t6 t7 t8 t9:TypeId} {x0 x1 x2 x3 x4 x5 x6 x7 x8 x9:String} {e0 e1 e2 e3 e4 e5 e6 e7 e8 e9:Array Edge}
 (hl:l = [⟨some 68,.move (.tmp 0),t0,x0,e0,none⟩,⟨some 69,.call { callee := .builtin .len,args := #[.tmp 68],argTypes := #[145] },t1,x1,e1,none⟩,⟨some 70,.binOp .add 3 (.tmp 69) (.const (.int .i64 1)) 3,t2,x2,e2,none⟩,⟨some 71,.makeSlice 145 (.tmp 70) (.tmp 70),t3,x3,e3,none⟩,⟨some 72,.move (.tmp 1),t4,x4,e4,none⟩,⟨some 73,.move (.tmp 9),t5,x5,e5,none⟩,⟨some 74,.buildSlice 145 1 #[(0,.tmp 73)],t6,x6,e6,none⟩,⟨some 75,.call { callee := .value (.func 148),args := #[.tmp 72,.tmp 74],argTypes := #[145,145] },t7,x7,e7,none⟩,⟨some 10,.assign (.tmp 71),t8,x8,e8,none⟩,⟨some 11,.assign (.tmp 75),t9,x9,e9,none⟩])
 (hO:orderB l 8=true) (hd:dstsB l 8 a0.tmps.size=true)
 (hpre:preB l.toArray [(1,[0]),(2,[1]),(3,[2]),(6,[5]),(7,[4,6])]=true)
 (k0:a0.tmps[0]? = some (.slice A la ca)) (k1:a0.tmps[1]? = some (.slice D n cd)) (k9:a0.tmps[9]? = some (.int .u32 (s:Int)))
 (hla:la<=1000) (hn:n=len32 y) (hy:len32 y<=1000) (hs0:0<s) (hs:s<4294967296) (hD:Rd32 w0 D y)
 (hK:∀ (g:Nat) (B A':Option Addr) (c':Nat) (w:World),From w0 w->w0.heap.size<=g->NB w g 63 .u32 (List.replicate (la+1) 0)->Rd32 w A' (y*s) ->
  Q .normal ((((((((((a0.put (some 68) (.slice A la ca)).put (some 69) (.int .i64 (la:Int))).put (some 70) (.int .i64 ((la+1:Nat):Int))).put (some 71) (.slice (some ⟨g,0,none⟩) (la+1) (la+1))).put (some 72) (.slice D n cd)).put (some 73) (.int .u32 (s:Int))).put (some 74) (.slice B 1 1)).put (some 75) (.slice A' (len32 (y*s)) c')).put (some 10) (.slice (some ⟨g,0,none⟩) (la+1) (la+1))).put (some 11) (.slice A' (len32 (y*s)) c')) w)
 (hsz:76<a0.tmps.size) :
 (Code.region id l.toArray true).wp Tryz.prog Q a0 w0:=by
 have hlen:l.length=10:=by rw [hl]; rfl
 have hpz:=List.all_eq_true.1 hpre;refine wp_region_keep 8 (divR w0.heap.size A D ca cd la n s (y*s)) divR_stays (by kernel_rfl) hO (by omega) hd ?_ ?_
 . intro i o hi ho a w hb hval hold;have ho':l.toArray[i]? = some o:=by simpa using ho
   have hedge:∀ js,(i,js) ∈ [((1:Nat),[(0:Nat)]),(2,[1]),(3,[2]),(6,[5]),(7,[4,6])]->∀ j∈js,(o.after.any fun e=>Region.binds .any e&&e.on==j)=true:=fun js hm j hj=>by
    have h1:=List.all_eq_true.1 (hpz _ hm) j hj;rw [ho'] at h1;simpa using h1
   have hcase:i=0\/i=1\/i=2\/i=3\/i=4\/i=5\/i=6\/i=7:=by omega
   rcases hcase with rfl|rfl|rfl|rfl|rfl|rfl|rfl|rfl
   . rw [hl] at ho;injection ho with ho;subst ho;have b0:=eval_get ((hold 0 (by rw [hl]; rfl)).trans k0);exact wpOp_value ho' rfl (v := .slice A la ca) (by go_simp) ⟨_,rfl,Below.refl _ _,rfl⟩
   . obtain⟨v,hv1,hv2⟩:=hval 0 _ 68 (by omega) (by rw [hl]; rfl) rfl (hedge [0] (by simp) 0 (by simp));simp only [divR] at hv2;subst hv2;have b0:=eval_get hv1;rw [hl] at ho;injection ho with ho;subst ho;exact wpOp_value ho' rfl (w':=w) (by go_simp) ⟨_,rfl,Below.refl _ _,rfl⟩
   . obtain⟨v,hv1,hv2⟩:=hval 1 _ 69 (by omega) (by rw [hl]; rfl) rfl (hedge [1] (by simp) 1 (by simp));simp only [divR] at hv2;subst hv2;have b0:=eval_get hv1;have w1:IntKind.i64.wrap ((la:Int)+1)=((la+1:Nat):Int):=by rw [wrap_i64 (by omega) (by omega)]; omega
     rw [hl] at ho;injection ho with ho;subst ho;exact wpOp_value ho' rfl (w':=w) (by go_simp) ⟨_,rfl,Below.refl _ _,rfl⟩
   . obtain⟨v,hv1,hv2⟩:=hval 2 _ 70 (by omega) (by rw [hl]; rfl) rfl (hedge [2] (by simp) 2 (by simp));simp only [divR] at hv2;subst hv2;have b0:=eval_get hv1;rw [hl] at ho;injection ho with ho;subst ho;obtain⟨w',hrun,h1,h2⟩:=run_make_N (P:=Tryz.prog) (n:=la+1) w Tryz.underlying145 info_u32 (by omega) (by unfold maxLen; omega) (a:=a) (o:=⟨some 71,.makeSlice 145 (.tmp 70) (.tmp 70),t3,x3,e3,none⟩) (.tmp 70) (.tmp 70) rfl b0 b0;exact wpOp_value ho' rfl hrun ⟨_,rfl,h2,w.heap.size,rfl,h1,hb.size⟩
   . rw [hl] at ho;injection ho with ho;subst ho;have b0:=eval_get ((hold 1 (by rw [hl]; rfl)).trans k1);exact wpOp_value ho' rfl (w':=w) (by go_simp) ⟨_,rfl,Below.refl _ _,rfl⟩
   . rw [hl] at ho;injection ho with ho;subst ho;have b0:=eval_get ((hold 9 (by rw [hl]; rfl)).trans k9);exact wpOp_value ho' rfl (w':=w) (by go_simp) ⟨_,rfl,Below.refl _ _,rfl⟩
   . obtain⟨v,hv1,hv2⟩:=hval 5 _ 73 (by omega) (by rw [hl]; rfl) rfl (hedge [5] (by simp) 5 (by simp));simp only [divR] at hv2;subst hv2;have b0:=eval_get hv1;rw [hl] at ho;injection ho with ho;subst ho;exact wpOp_value ho' rfl (v := .slice (some ⟨w.heap.size,0,none⟩) 1 1) (w':=w.alloc (.cells #[.int .u32 (s:Int)] 63)) (by go_simp) ⟨_,rfl,(Below.refl _ _).alloc (Nat.le_refl _) _,_,rfl,rd_limb hs0 hs⟩
   . obtain⟨v,hv1,hv2⟩:=hval 4 _ 72 (by omega) (by rw [hl]; rfl) rfl (hedge [4,6] (by simp) 4 (by simp));obtain⟨u,hu1,hu2⟩:=hval 6 _ 74 (by omega) (by rw [hl]; rfl) rfl (hedge [4,6] (by simp) 6 (by simp));simp only [divR] at hv2 hu2;subst hv2;obtain⟨B,rfl,hrdB⟩:=hu2;rw [hl] at ho;injection ho with ho;subst ho;have hls:1=len32 s:=by
      show 1=(dig B32 s).length
      rw [dig_pos hB32 (by omega),Nat.mod_eq_of_lt hs,Nat.div_eq_of_lt hs,dig_zero hB32];rfl
     refine wpOp_call ho' rfl rfl (args := #[.slice D n cd,.slice B 1 1]) (by simp [eval_get hv1,eval_get hu1]) (times_cf _ _) ((frac_times D B cd 1 y s n 1 hn hls w (hD.from hb) hrdB hy (by omega)).mono ?_)
     rintro e w' ⟨A',c',rfl,hrd,hc,hbb⟩
     exact⟨_,rfl,_,rfl,hbb,A',c',rfl,hrd⟩
 . intro val w hb hrows;have v0:val 0=_:=hrows 0 (by omega);have v1:val 1=_:=hrows 1 (by omega);have v2:val 2=_:=hrows 2 (by omega);have v4:val 4=_:=hrows 4 (by omega);have v5:val 5=_:=hrows 5 (by omega);obtain⟨g,v3,hnb,hg⟩:=hrows 3 (by omega);obtain⟨B,v6,hrdB⟩:=hrows 6 (by omega);obtain⟨A',c',v7,hrd⟩:=hrows 7 (by omega);have hF:=hK g B A' c' w hb hg hnb hrd;subst hl;simp only [List.drop_succ_cons,List.drop_zero,List.take_succ_cons,List.take_zero,putAll,Nat.zero_add,Nat.reduceAdd,v0,v1,v2,v3,v4,v5,v6,v7];generalize hA:((((((((a0.put (some 68) (.slice A la ca)).put (some 69) (.int .i64 (la:Int))).put (some 70) (.int .i64 ((la+1:Nat):Int))).put (some 71) (.slice (some ⟨g,0,none⟩) (la+1) (la+1))).put (some 72) (.slice D n cd)).put (some 73) (.int .u32 (s:Int))).put (some 74) (.slice B 1 1)).put (some 75) (.slice A' (len32 (y*s)) c'))=aF at hF ⊢;have f71:aF.tmps[71]? = some (.slice (some ⟨g,0,none⟩) (la+1) (la+1)):=by
    rw [<- hA];simp [Act.put,Array.getElem?_setIfInBounds];omega
   have f75:(aF.put (some 10) (.slice (some ⟨g,0,none⟩) (la+1) (la+1))).tmps[75]? = some (.slice A' (len32 (y*s)) c'):=by
    rw [<- hA];simp [Act.put,Array.getElem?_setIfInBounds];omega
   have g71:=eval_get f71;have g75:=eval_get f75;refine wpList_plain rfl fun K hK1 => ?_;unfold Oper.wp;simp only [execOp,g71,Sem.run_pure];refine hK1 _ _ (wpList_plain rfl fun K2 hK2 => ?_);unfold Oper.wp;simp only [execOp,g75,Sem.run_pure];exact hK2 _ _ (wpList_nil hF)
theorem wpList_copyN {P:Program} {w:World} {ops:Array Oper} {rest:List Oper} {o:Oper} {a:Act} {Q:Exit->Act->World->Prop} (hgd:o.guard=none) (d s:Operand) (dT sT:TypeId)
 (ho:o.op = .call { callee := .builtin .copy,args := #[d,s],argTypes := #[dT,sT] }) (elem:TypeId) (hu:P.underlying dT=some (.slice elem)) (hsz:(P.info? elem).map (·.size)=some 1)
 {g E dl dc sl sc:Nat} {k:IntKind} {L l:List Nat} {A:Option Addr} (hd:a.eval d = .slice (some ⟨g,0,none⟩) dl dc) (hs:a.eval s = .slice A sl sc) (hdl:dl=L.length) (hsl:sl=l.length) (hle:l.length<=L.length) (hl0:0<l.length)
 (hnb:NB w g E k L) (hrd:Rd w w.heap.size 1 A (nums k l))
 (h:∀ w',NB w' g E k (l++L.drop l.length)->w.grownBy w' (some g)->wpList P ops Q rest (a.put o.dst (.int .i64 (l.length:Int))) w'):wpList P ops Q (o::rest) a w:=by
 obtain⟨b,off,rfl,_,_,_⟩:=hrd 0 _ (nums_get (k:=k) hl0);have hcl:(l.map fun (n:Nat)=>Value.int k (n:Int)).length=l.length:=by simp
 have hnb':w.heap[g]? = some (.cells (L.map fun (n:Nat)=>Value.int k (n:Int)).toArray E (0,0)):=hnb;refine wpList_copy_own hgd d s dT sT ho elem hu hsz g 0 dl dc ⟨b,off,none⟩ sl sc hd hs _ E hnb' (l.map fun (n:Nat)=>Value.int k (n:Int)) (by rw [hcl,hdl,hsl]; exact (Nat.min_eq_left hle).symm) ?_ (by simp; omega) (by simp [Value.oneCell']) ?_
 . intro j v hv;rw [List.getElem?_map] at hv;obtain⟨n,hn,rfl⟩:=Option.map_eq_some_iff.1 hv;have hjl:=(List.getElem?_eq_some_iff.1 hn).1;obtain⟨b',off',e,_,_,hc⟩:=hrd j _ (nums_get (k:=k) hjl);injection e with e;injection e with e1 e2;subst e1; subst e2;have h1:=hc 0 _ rfl;rw [Addr.add_lit];simp only [Nat.mul_one,Nat.add_zero] at h1;rw [h1];have h2:=(List.getElem?_eq_some_iff.1 hn).2;rw [h2]
 . have h1:=h (w.setRow g (List.take 0 (L.map fun (n:Nat)=>Value.int k (n:Int)).toArray.toList++((l.map fun (n:Nat)=>Value.int k (n:Int))++List.drop (0+(l.map fun (n:Nat)=>Value.int k (n:Int)).length) (L.map fun (n:Nat)=>Value.int k (n:Int)).toArray.toList)).toArray) ?_ ⟨rfl,rfl,rfl,by simp,fun q _ hq=>setRow_other w g q _ (fun e=>hq (by rw [e]))⟩
   . rw [hcl];rw [hcl] at h1;exact h1
   . unfold NB;rw [setRow_heap w g _ _ E (0,0) hnb'];simp [List.map_append,List.map_drop]
theorem clone_nums (b off c n:Nat) (l:List Nat) (hn:n=l.length) (w:World) (hA:Rd w w.heap.size 1 (some ⟨b,off,none⟩) (nums .u32 l)) (hl:l.length<=1000) :
 Calls Tryz.prog 185 #[.slice (some ⟨b,off,none⟩) n c] w fun e w'=>∃ A' c',e = .returned (.slice A' n c')/\OwnS w' w.heap.size 63 1 A' c' (nums .u32 l)/\n<=c'/\Below w.heap.size w w':=by
 subst hn;have heq:=fun w=>Go.Lib.run_eql_slice_nil (P:=Tryz.prog) w 145 63 (some ⟨b,off,none⟩) l.length c 0 0 Tryz.underlying145;have hb1:Below w.heap.size w (w.alloc (Obj.cells #[] 63)):=(Below.refl _ _).alloc (Nat.le_refl _) _;have HRD:=Lib.hid ((hA.below hb1 (Nat.le_refl _)).more hb1.size);have HOW:=Lib.hid (OwnS.empty_new w w.heap.size 63 1 (Nat.le_refl _));have HB1:=Lib.hid hb1;clear hA hb1
 go_enter Tryz.func185,Tryz.ntmps185
 go_wp2_with (first
  | (at_builtin; go_loud (refine wpList_append_n rfl _ _ rfl u32_ei 0 rfl rfl HOW.out rfl _ HRD.out (by rw [nums_len]) (nums_ones _ l) (by unfold maxLen; simp; omega) (by simp; omega) HB1.out.size ?_); intro A4 c4 w4 hown4 hg4 hb4))
 go_ret
 have hcap:=hown4.cap.1;rw [List.nil_append,nums_len] at hcap;exact⟨A4,c4,by simp,by simpa using hown4,hcap,HB1.out.trans hb4⟩
theorem NB.nbx {w:World} {g E:Nat} {k:IntKind} {L:List Nat} (h:NB w g E k L) (n:Nat):NBx w g E k (L.take n):=by
 refine⟨numCells k (L.drop n),?_⟩;have e:numCells k (L.take n)++numCells k (L.drop n)=L.map fun (n:Nat)=>Value.int k (n:Int):=by
  unfold numCells;rw [<- List.map_append,List.take_append_drop]
 rw [e];exact h
def FB (w:World) (g:Nat) (f:FracV):Prop:=w.heap[g]? = some (.cells f.cells.toArray 66 (0,0))
theorem FB.lt {w:World} {g:Nat} {f:FracV} (h:FB w g f):g<w.heap.size:=(Array.getElem?_eq_some_iff.1 h).1
theorem FB.keep {w w':World} {g:Nat} {f:FracV} (h:FB w g f) (hg:w'.heap[g]? = w.heap[g]?):FB w' g f:=hg.trans h
theorem FB.below {w w':World} {B g:Nat} {f:FracV} (h:FB w g f) (hb:Below B w w') (hg:g<B):FB w' g f:=h.keep (hb.block g hg)
theorem FB.new (w:World) (f:FracV):FB (w.alloc (.cells f.cells.toArray 66)) w.heap.size f:=heap_alloc_new w _
theorem frac_row:IsRow Tryz.prog 66 17:=⟨_,Tryz.underlying66,by kernel_rfl,by kernel_rfl⟩
theorem frac_size:(Tryz.prog.info? 66).map (·.size)=some 17:=by kernel_rfl
theorem FB.ld {w:World} {g:Nat} {f:FracV} (h:FB w g f):(loadVar 66 ⟨g,0,none⟩).run Tryz.prog w = .ok f.val w :=
 run_load_cells (cs:=f.cells) frac_row f.cells_len (fun j x hx=>by
  rw [Addr.add_lit,cell_of_row w g (0+j) _ _ _ h];simpa using hx)
theorem wpList_stF {w:World} {ops:Array Oper} {rest:List Oper} {o:Oper} {a:Act} {Q:Exit->Act->World->Prop} {g:Nat} {f f0:FracV} (hgd:o.guard=none) (x y:Operand) (ho:o.op = .store 66 x y) (hx:a.eval x = .pointer (some ⟨g,0,none⟩)) (hy:a.eval y=f.val) (hfb:FB w g f0)
 (h:∀ w',FB w' g f->w.grownBy w' (some g)->wpList Tryz.prog ops Q rest (a.put o.dst undef) w'):wpList Tryz.prog ops Q (o::rest) a w:=by
 refine wpList_st (cs:=f.cells) hgd x y ho hx hy frac_size rfl f.cells_len hfb (by simp [f0.cells_len]) f.ones fun cur' w' hc hs hg hgr=>h w' ?_ hgr;have e:cur'=f.cells.toArray:=by
  apply Array.ext';rw [hc];simp [f0.cells_len]
 rw [e] at hg;exact hg
theorem pad_cells {x:Nat} (h:len32 x<=8):(pad B32 8 x).map (fun (n:Nat)=>Value.int .u32 (n:Int))=(dig B32 x).map (fun (n:Nat)=>Value.int .u32 (n:Int))++((pad B32 8 0).map fun (n:Nat)=>Value.int .u32 (n:Int)).drop (len32 x):=by
 have hx:x<B32^8:=lt_of_dig_len hB32 h;rw [pad_dig hB32 hx,pad_zero,List.map_append,<- List.map_drop,List.drop_replicate]
set_option maxRecDepth 100000 in
theorem wpList_copyF {w:World} {ops:Array Oper} {rest:List Oper} {o:Oper} {a:Act} {Q:Exit->Act->World->Prop} (hgd:o.guard=none) (d s:Operand) (dT sT:TypeId)
 (ho:o.op = .call { callee := .builtin .copy,args := #[d,s],argTypes := #[dT,sT] }) (elem:TypeId) (hu:Tryz.prog.underlying dT=some (.slice elem)) (hsz:(Tryz.prog.info? elem).map (·.size)=some 1)
 {g off x sl sc:Nat} {A:Option Addr} (f f':FracV) (hd:a.eval d = .slice (some ⟨g,off,none⟩) 8 8) (hs:a.eval s = .slice A sl sc) (hsl:sl=len32 x) (hle:len32 x<=8)
 (hoff:off+8<=17) (hf:f'.cells=f.cells.take off++((dig B32 x).map (fun (n:Nat)=>Value.int .u32 (n:Int))++f.cells.drop (off+len32 x))) (hfb:FB w g f) (hrd:Rd32 w A x)
 (h:∀ w',FB w' g f'->w.grownBy w' (some g)->wpList Tryz.prog ops Q rest (a.put o.dst (.int .i64 (sl:Int))) w'):wpList Tryz.prog ops Q (o::rest) a w:=by
 have hcl:((dig B32 x).map fun (n:Nat)=>Value.int .u32 (n:Int)).length=len32 x:=by simp
 by_cases h0:len32 x=0
 . have hd0:dig B32 x = []:=List.eq_nil_of_length_eq_zero h0;refine wpList_copy_nothing hgd d s dT sT ho elem hu hsz _ _ _ _ _ _ hd hs (by rw [hsl,h0]; rfl) ?_;have e:f'.cells=f.cells:=by
    rw [hf,hd0,h0];simp
   have h1:=h w (by unfold FB at *; rw [e]; exact hfb) ⟨rfl,rfl,rfl,Nat.le_refl _,fun _ _ _=>rfl⟩;rw [hsl,h0] at h1;exact h1
 . obtain⟨b,off',rfl,_,_,_⟩:=hrd 0 _ (nums_get (k := .u32) (l:=dig B32 x) (show 0<len32 x by omega));refine wpList_copy_own hgd d s dT sT ho elem hu hsz g off 8 8 ⟨b,off',none⟩ sl sc hd hs _ _ hfb ((dig B32 x).map fun (n:Nat)=>Value.int .u32 (n:Int)) (by rw [hcl,hsl]; exact (Nat.min_eq_left hle).symm) ?_ (by rw [hcl]; simp [f.cells_len]; omega) (by simp [Value.oneCell']) ?_
   . intro j v hv;rw [List.getElem?_map] at hv;obtain⟨n,hn,rfl⟩:=Option.map_eq_some_iff.1 hv;have hjl:=(List.getElem?_eq_some_iff.1 hn).1;obtain⟨b',off2,e,_,_,hc⟩:=hrd j _ (nums_get (k := .u32) hjl);injection e with e;injection e with e1 e2;subst e1; subst e2;have h1:=hc 0 _ rfl;rw [Addr.add_lit];simp only [Nat.mul_one,Nat.add_zero] at h1;rw [h1];have h2:=(List.getElem?_eq_some_iff.1 hn).2;rw [h2]
   . have h1:=h (w.setRow g (f.cells.toArray.toList.take off++(((dig B32 x).map fun (n:Nat)=>Value.int .u32 (n:Int))++f.cells.toArray.toList.drop (off+((dig B32 x).map fun (n:Nat)=>Value.int .u32 (n:Int)).length))).toArray) ?_ ⟨rfl,rfl,rfl,by simp,fun q _ hq=>setRow_other w g q _ (fun e=>hq (by rw [e]))⟩
     . rw [hcl,<- hsl];rw [hcl,<- hsl] at h1;exact h1
     . unfold FB;rw [setRow_heap w g _ _ _ (0,0) hfb,hcl,hf]
theorem num_cells (b:Bool) (x d:Nat) (h:len32 x<=8):(FracV.mk b x d).cells=(FracV.mk b 0 d).cells.take 1++((dig B32 x).map (fun (n:Nat)=>Value.int .u32 (n:Int))++(FracV.mk b 0 d).cells.drop (1+len32 x)):=by
 unfold FracV.cells;rw [pad_cells h];simp only [List.cons_append,List.nil_append,List.take_succ_cons,List.take_zero,List.append_assoc];rw [show 1+len32 x=len32 x+1 by omega,List.drop_succ_cons,List.drop_append_of_le_length (by rw [List.length_map,pad_len]; exact h)]
theorem den_cells (b:Bool) (x d:Nat) (h:len32 d<=8):(FracV.mk b x d).cells=(FracV.mk b x 0).cells.take 9++((dig B32 d).map (fun (n:Nat)=>Value.int .u32 (n:Int))++(FracV.mk b x 0).cells.drop (9+len32 d)):=by
 unfold FracV.cells;rw [pad_cells h];have hl:([Value.bool b]++(pad B32 8 x).map (fun (n:Nat)=>Value.int .u32 (n:Int))).length=9:=by simp [pad_len]
 have e1:([Value.bool b]++(pad B32 8 x).map (fun (n:Nat)=>Value.int .u32 (n:Int))++(pad B32 8 0).map (fun (n:Nat)=>Value.int .u32 (n:Int))).take 9 = [Value.bool b]++(pad B32 8 x).map (fun (n:Nat)=>Value.int .u32 (n:Int)):=List.take_left' hl;have e2:([Value.bool b]++(pad B32 8 x).map (fun (n:Nat)=>Value.int .u32 (n:Int))++(pad B32 8 0).map (fun (n:Nat)=>Value.int .u32 (n:Int))).drop (9+len32 d)=((pad B32 8 0).map (fun (n:Nat)=>Value.int .u32 (n:Int))).drop (len32 d):=by
  rw [<- List.drop_drop,List.drop_left' hl]
 simp only [] at *
 rw [e1,e2]
theorem results_frac_err {fn:Func} {p t:Tmp} (h:fn.results = #[.cell p 66,.tmp t]) (tmps:Array Value) {w:World} {g:Nat} {f:FracV} (hp:tmps.getD p undef = .pointer (some ⟨g,0,none⟩)) (hfb:FB w g f) :
 (results fn tmps).run Tryz.prog w = .ok (.tuple #[f.val,tmps.getD t undef]) w:=by
 have hl:=hfb.ld;have hp':tmps[p]?.getD undef = .pointer (some ⟨g,0,none⟩):=by simpa using hp
 simp [results,h,hp',asAddr,hl]
theorem results_frac {fn:Func} {p:Tmp} (h:fn.results = #[.cell p 66]) (tmps:Array Value) {w:World} {g:Nat} {f:FracV} (hp:tmps.getD p undef = .pointer (some ⟨g,0,none⟩)) (hfb:FB w g f) :
 (results fn tmps).run Tryz.prog w = .ok f.val w:=by
 have hl:=hfb.ld;have hp':tmps[p]?.getD undef = .pointer (some ⟨g,0,none⟩):=by simpa using hp
 simp [results,h,hp',asAddr,hl]
end Go.Proofs.YthfpdbjemfhieaaGreat
namespace Go.Proofs.YthfpdbjemfhieaaGreat
def frm0:Frm:=⟨0,0,0,0,0⟩
def frmX (l:List Frm) (i:Nat):Int:=(l.getD i frm0).x
def hX (l:List Frm) (i:Nat):Int:=frmX l i+frmX l (i+1)
open Go.RowKit
def Tells {α:Type} (P:Program) (w:World) (fn:FuncId) (caps:Array Value) (val : α->Value) (p : α->Bool) (l:List α):Prop :=
 ∀ x∈l,∀ w',Below w.heap.size w w'->Calls P fn (#[val x]++caps) w' fun e w2=>e = .returned (.bool (p x))/\Below w'.heap.size w' w2
def idx {α:Type} (p : α->Bool) (l:List α):Int:=match l.findIdx? p with|some i=>i|none => -1
theorem idx_found {α:Type} {p : α->Bool} {l:List α} {k:Nat} (hk:k<l.length) (hj:∀ j,(h:j<k)->p l[j]=false) (hx:p l[k]=true):idx p l=k:=by
 have:l.findIdx? p=some k:=by
  rw [List.findIdx?_eq_some_iff_getElem];exact⟨hk,hx,fun j hjk=>by simp [hj j hjk]⟩
 unfold idx;rw [this]
theorem idx_none {α:Type} {p : α->Bool} {l:List α} (hj:∀ j,(h:j<l.length)->p l[j]=false):idx p l = -1:=by
 have:l.findIdx? p=none:=by
  rw [List.findIdx?_eq_none_iff];intro x hx;obtain⟨j,hj',rfl⟩:=List.mem_iff_getElem.1 hx;exact hj j hj'
 unfold idx;rw [this]
theorem idx_cases {α:Type} (p : α->Bool) (l:List α):(idx p l = -1/\∀ x∈l,p x=false)\/∃ k,∃ h:k<l.length,idx p l=k/\p l[k]=true/\l.find? p=some l[k]:=by
 unfold idx
 cases hf:l.findIdx? p with
 | none=>exact .inl ⟨rfl,by simpa using hf⟩
 | some k =>
  rw [List.findIdx?_eq_some_iff_getElem] at hf;obtain⟨h,h1,h2⟩:=hf;refine .inr ⟨k,h,rfl,h1,?_⟩;rw [List.find?_eq_some_iff_getElem];exact⟨h1,k,h,rfl,fun j hj=>by have:=h2 j hj; simpa using this⟩
structure Box where
 id:Int
 num:ByteArray
 size:Int
 high:Bool
 kilos:Int
 load:Int
 dis:Int
 cls:Int
 reefer:Bool
deriving DecidableEq
def Box.cells (b:Box):List Value := [.int .i64 b.id,.string b.num,.int .u8 b.size,.bool b.high,.int .i64 b.kilos,.int .i64 b.load,.int .i64 b.dis,.int .u8 b.cls,.bool b.reefer]
abbrev Box.val (b:Box):Value := .agg #[.int .i64 b.id,.string b.num,.int .u8 b.size,.bool b.high,.int .i64 b.kilos,.int .i64 b.load,.int .i64 b.dis,.int .u8 b.cls,.bool b.reefer]
structure Stowed where
 box:Int
 col:Int
 tier:Int
 half:Int
deriving DecidableEq
def Stowed.cells (b:Stowed):List Value := [.int .i64 b.box,.int .i64 b.col,.int .i64 b.tier,.int .u8 b.half]
theorem Stowed.one (b:Stowed):∀ u∈b.cells,u.oneCell'=true:=by simp [Stowed.cells,Value.oneCell']
theorem Stowed.ones (l:List Stowed):∀ cs∈l.map Stowed.cells,∀ u∈cs,u.oneCell'=true:=by
 intro cs h;obtain⟨b,_,rfl⟩:=List.mem_map.1 h;exact b.one
theorem Stowed.ei:EI Tryz.prog 34 42 4 32:=EI.mk (z := .agg #[.int .i64 0,.int .i64 0,.int .i64 0,.int .u8 0]) Tryz.underlying34 (by kernel_rfl) rfl (by omega)
structure Slot where
 col:Int
 tier:Int
 half:Int
deriving DecidableEq
structure Ld where
 kilos:Int
 x:Int
 y:Int
 z:Int
deriving DecidableEq
def Ld.cells (b:Ld):List Value := [.int .i64 b.kilos,.int .i64 b.x,.int .i64 b.y,.int .i64 b.z]
abbrev Ld.val (b:Ld):Value := .agg #[.int .i64 b.kilos,.int .i64 b.x,.int .i64 b.y,.int .i64 b.z]
theorem Ld.len (b:Ld):b.cells.length=4:=rfl
theorem Ld.one (b:Ld):∀ u∈b.cells,u.oneCell'=true:=by simp [Ld.cells,Value.oneCell']
theorem Ld.row:IsRow Tryz.prog 48 4:=⟨_,Tryz.underlying48,by kernel_rfl,by kernel_rfl⟩
theorem Ld.ld {w:World} {B:Nat} {A:Option Addr} {css:List (List Value)} (h:Rd w B 4 A css) {k:Nat} {b:Ld} (hk:css[k]? = some b.cells) :
 ∃ g off,A=some ⟨g,off,none⟩/\g<B/\∀ w',Below B w w'->(loadVar 48 ⟨g,off+k*4,none⟩).run Tryz.prog w' = .ok b.val w':=h.ld Ld.row hk
structure Spn where
 n:Int
 low:Int
 high:Int
deriving DecidableEq
end Go.Proofs.YthfpdbjemfhieaaGreat
