/-
  frac: cmp.
-/
import Derived.Test.YtffeegebohigdaaGreatMs2
import Derived.Lib.SliceRun
set_option linter.unusedVariables false
set_option linter.unusedSimpArgs false
set_option maxRecDepth 100000
set_option maxHeartbeats 4000000
namespace Go.Proofs.YtffeegebohigdaaGreat
open Go.RowKit Go.Shelf
attribute [local go_sem] Oper.semAt_some
theorem Qej {x y:Nat} (h:x<y):Kl x y = -1:=by unfold Kl; rw [if_pos h]
theorem Qof {x y:Nat} (h:y<x):Kl x y=1:=by unfold Kl; rw [if_neg (by omega),if_pos h]
theorem Qzm (x:Nat):Kl x x=0:=by unfold Kl; rw [if_neg (by omega),if_neg (by omega)]
theorem Qw5 {w:World} {A:Option Addr} {k:IntKind} {l:List Nat} (h:Rd w w.heap.size 1 A (Zc k l)) {j:Nat} (hj:j<l.length):∃ b off,A=some ⟨b,off,none⟩/\b<w.heap.size/\w.cell? ⟨b,off+j,none⟩=some (.int k (l.getD j 0:Nat)):=by
 obtain⟨b,off,hA,hb,_,hc⟩:=h j _ (Vu hj);refine⟨b,off,hA,hb,?_⟩;have:=hc 0 _ rfl;rw [Nat.mul_one,Nat.add_zero] at this;rw [this,List.getD_eq_getElem?_getD,List.getElem?_eq_getElem hj];rfl
theorem Q8q {l:List Nat} {j:Nat} (hj:j<l.length):l.drop j=l.getD j 0::l.drop (j+1):=by
 rw [List.drop_eq_getElem_cons hj,List.getD_eq_getElem?_getD,List.getElem?_eq_getElem hj];rfl
theorem Qby {x y j:Nat} (hl:Q4 x=Q4 y) (hj:j<Q4 x) (hd:(dig B32 x).drop (j+1)=(dig B32 y).drop (j+1)) (hlt:(dig B32 x).getD j 0<(dig B32 y).getD j 0):x<y:=by
 have hjy:j<(dig B32 y).length:=by
  have:j<Q4 y:=by omega
  exact this
 have h:=Q7b (B:=B32) (a:=dig B32 x) (b:=dig B32 y) (Ql.dig Qn x) hl hj (by
  rw [List.getD_eq_getElem?_getD,List.getElem?_eq_getElem hj,List.getD_eq_getElem?_getD,List.getElem?_eq_getElem hjy] at hlt;exact hlt) hd
 rwa [Zt Qn,Zt Qn] at h
set_option maxHeartbeats 2000000 in
theorem Qbi (A D:Option Addr) (ca cd x y n m:Nat) (hn:n=Q4 x) (hm:m=Q4 y) (w:World) (h:Zk w A x) (h':Zk w D y) (hx:Q4 x<=1000) (_hy:Q4 y<=1000) :
 Calls Tryz.prog 183 #[.slice A n ca,.slice D m cd] w fun e w'=>e = .returned (.int .i64 (Kl x y))/\Below w.heap.size w w':=by
 subst hn hm;by_cases hlen:Q4 x=Q4 y
 . refine (callsIn_wide (n:=3)).1 ?_;refine callsIn_of_wp_marks Tryz.func183 rfl trivial ?_ rfl;simp only [Tryz.ntmps183,List.size_toArray,List.length_cons,List.length_nil,Nat.reduceAdd,Nat.reduceSub,Array.replicate_succ,Array.replicate_zero,List.push_toArray,List.append_toArray,List.nil_append,List.cons_append];obtain⟨len,hlx'⟩:∃ len,len=Q4 x:=⟨_,rfl⟩
   rw [<- hlen,<- hlx'];rw [<- hlx'] at hlen hx;have hlx:=Lib.hid hlx';have hly:=Lib.hid hlen;have hle:len<=1000:=hx;clear _hy hlx' hlen hx
   gi_wp2_with (refine⟨trivial,?_⟩; gi_at_call 227; refine (Qw2 Fence.wide _ trivial rfl _ _ _ _).mono ?_; rintro e w' ⟨rfl,rfl⟩)
   have bB:=(Boxed.new w 145 (.slice D len cd)).alloc (.cells #[.int .i64 0] 3);have bR:=Boxed.new (w.alloc (.cells #[.slice D len cd] 145)) 3 (.int .i64 0);have bN:=Boxed.new ((w.alloc (.cells #[.slice D len cd] 145)).alloc (.cells #[.int .i64 0] 3)) 145 (.slice A len ca);rw [World.size_alloc] at bR bN;rw [World.size_alloc] at bN;have hB0:Below w.heap.size w (((w.alloc (.cells #[.slice D len cd] 145)).alloc (.cells #[.int .i64 0] 3)).alloc (.cells #[.slice A len ca] 145)):=(((Below.refl _ w).alloc (Nat.le_refl _) _).alloc (by simp) _).alloc (by simp; omega) _;refine Qk1 (F:=Fence.wide) (n:=3) (ps := #[19,20]) (encs:=Q4y) rfl (by decide) (gf:=263) (lb := #[.pointer (some ⟨w.heap.size+1+1,0,none⟩)]) rfl trivial (enters_of Tryz.func263 (by kernel_rfl) rfl)
    (Qp2 Fence.wide 2 trivial rfl (by decide) (w.heap.size+1+1) len ca A (dig B32 x) hle _) (Below.refl _ _) (fun _=>rfl)
    (fun pre W=>((W.cell? ⟨w.heap.size,0,none⟩=some (.slice D len cd)/\W.cell? ⟨w.heap.size+1,0,none⟩=some (.int .i64 0)/\W.frozen? ⟨w.heap.size+1,0,none⟩=false/\W.cell? ⟨w.heap.size+1+1,0,none⟩=some (.slice A len ca))/\pre.length<=len/\(dig B32 x).drop (len - pre.length)=(dig B32 y).drop (len - pre.length))/\Below w.heap.size w W)
    (fun c _ W=>(c = .ret/\W.cell? ⟨w.heap.size+1,0,none⟩=some (.int .i64 (Kl x y)))/\Below w.heap.size w W)
    (fun pre W hI => ?hIG)
    (OwnFrom.and (Own.from (fun s A B row hs hg hr=>⟨⟨cell_kept hs.1.1 hg hr,cell_kept hs.1.2.1 hg hr,(frozen_kept hs.1.2.1 hg hr).trans hs.1.2.2.1,cell_kept hs.1.2.2.2 hg hr⟩,hs.2⟩) _) (ownFrom_below (Nat.le_refl _) (by simp; omega)))
    (fun c=>OwnFrom.and (Own.from (fun s A B row hs hg hr=>⟨hs.1,cell_kept hs.2 hg hr⟩) _) (ownFrom_below (Nat.le_refl _) (by simp; omega)))
    ⟨⟨⟨(bB.alloc _).cell,(bR.alloc _).cell,(bR.alloc _).frozen,bN.cell⟩,Nat.zero_le _,?hst⟩,hB0⟩
    (fun x => { tmps := #[.slice A len ca,.slice D len cd,undef,.pointer (some ⟨w.heap.size,0,none⟩),.pointer (some ⟨w.heap.size+1,0,none⟩),.int .i64 (x.1:Int),.int .u32 (x.2:Int),.slice A len ca,.int .i64 (len:Int),.slice D len cd,.int .i64 (len:Int),.bool false,undef,undef,undef,undef,undef,.slice A len ca,.func (.func 263) #[] #[.pointer (some ⟨w.heap.size+1+1,0,none⟩)],.int .i64 (x.1:Int),.int .u32 (x.2:Int),undef,undef,undef,undef,undef,undef,undef,undef,undef,undef,undef,undef],defers := [] }) ?assign ?body ?done ?stop
   case hIG =>
    obtain⟨⟨⟨_,_,_,hbx⟩,hpl,_⟩,hbw⟩:=hI;refine⟨hbx,fun j hj => ?_⟩;obtain⟨b,off,rfl,hb,hc⟩:=Qw5 h (j:=j) (by have:=hlx.out; show j<Q4 x; omega);exact⟨b,off,rfl,(hbw.cell (p:=⟨b,off+j,none⟩) hb).trans hc⟩
   case hst =>
    rw [List.length_nil,Nat.sub_zero,List.drop_eq_nil_of_le (by have:=hlx.out; show Q4 x<=len; omega),List.drop_eq_nil_of_le (by have:=hly.out; show Q4 y<=len; omega)]
   case assign =>
    intro l x W K hK;unfold Q4y
    gi_wp2
    exact hK
   case body =>
    rintro l pre x0 W ⟨⟨⟨hbB,hbR,hfR,hbN⟩,hpl,hdr⟩,hbw⟩ ⟨hlt,rfl⟩
    obtain⟨j,hj⟩:∃ j,j+pre.length+1=len:=⟨len - 1 - pre.length,by omega⟩
    have e1:len - 1 - pre.length=j:=by omega
    have e3:len - pre.length=j+1:=by omega
    have e4:len - (pre ++ [Q1v (dig B32 x) len pre.length]).length=j:=by simp; omega
    have e5:(pre ++ [Q1v (dig B32 x) len pre.length]).length<=len:=by simp; omega
    have hjx:j<(dig B32 x).length:=by have:=hlx.out; show j<Q4 x; omega
    have hjy:j<(dig B32 y).length:=by have:=hly.out; show j<Q4 y; omega
    obtain⟨b,off,rfl,hb,hc⟩:=Qw5 h' hjy;have hcW:=(hbw.cell (p:=⟨b,off+j,none⟩) hb).trans hc;have hdx:=Q8q hjx;have hdy:=Q8q hjy;rw [e3] at hdr;unfold Q1v;rw [e1];obtain⟨d,hd⟩:∃ d,d=(dig B32 x).getD j 0:=⟨_,rfl⟩
    obtain⟨d',hd'⟩:∃ d',d'=(dig B32 y).getD j 0:=⟨_,rfl⟩
    rw [<- hd'] at hcW;have hdl:d<4294967296:=by rw [hd]; exact (Ql.dig Qn x).getD (by decide) j
    have hdl':d'<4294967296:=by rw [hd']; exact (Ql.dig Qn y).getD (by decide) j
    rw [<- hd];rw [<- hd] at hdx;rw [<- hd'] at hdy;have hlt1:=Lib.hid (fun q:d<d'=>Qej (Qby (x:=x) (y:=y) (by rw [<- hlx.out,<- hly.out]) hjx hdr (by rw [<- hd,<- hd']; exact q)));have hgt1:=Lib.hid (fun q:d'<d=>Qof (Qby (x:=y) (y:=x) (by rw [<- hlx.out,<- hly.out]) hjy hdr.symm (by rw [<- hd,<- hd']; exact q)));have hnx:=Lib.hid (fun q:d=d'=>show (dig B32 x).drop j=(dig B32 y).drop j by rw [hdx,hdy,q,hdr]);have E4:=Lib.hid e4;have E5:=Lib.hid e5;unfold Q1v at E4 E5;rw [e1,<- hd] at E4 E5;have hjlen:j<len:=by omega
    clear e1 e3 e4 e5 hd hd' hdx hdy hdr hjx hjy h h' hc bB bR bN hB0;dsimp only
    gi_wp2
    . have hq:d<d':=by assumption
      exact⟨KeepsOthers.setCell _ _ _,⟨rfl,by rw [hlt1.out hq]; exact World.cell?_setCell_same' _ _ _ (by rw [hbR]; rfl)⟩,hbw.setCell (p:=⟨w.heap.size+1,0,none⟩) (Nat.le_succ _) _⟩
    . have hq:d'<d:=by assumption
      exact⟨KeepsOthers.setCell _ _ _,⟨rfl,by rw [hgt1.out hq]; exact World.cell?_setCell_same' _ _ _ (by rw [hbR]; rfl)⟩,hbw.setCell (p:=⟨w.heap.size+1,0,none⟩) (Nat.le_succ _) _⟩
    . have hq:d=d':=by omega
      exact⟨KeepsOthers.refl _,⟨⟨hbB,hbR,hfR,hbN⟩,E5.out,by rw [E4.out]; exact hnx.out hq⟩,hbw⟩
   case done =>
    rintro D0 xs W hD hxs ⟨⟨⟨hbB,hbR,hfR,hbN⟩,hpl,hdr⟩,hbw⟩ hK
    have hxy:Hid (Kl x y=0):=by
     rw [hxs,Nat.sub_self,List.drop_zero,List.drop_zero] at hdr;have:=Qvs Qn hdr;subst this;exact Qzm x
    clear bB bR bN hB0 h h' hdr
    gi_wp2
    have hK':=(KeepsOthers.setCell W ⟨w.heap.size+1,0,none⟩ (.int .i64 0)).same D0 _ hK rfl;refine⟨by simp,.inl ⟨_,_,rfl,run_takeDeferred hK',?_⟩⟩;have hc5:=cell_kept (World.cell?_setCell_same' W ⟨w.heap.size+1,0,none⟩ (.int .i64 0) (by rw [hbR]; rfl)) (grownBy_putObj' _ D0 (.deferred none)) (fun r e=>by cases e; exact⟨_,hK',rfl⟩);refine⟨.int .i64 0,?_,by rw [hxy.out],(hbw.setCell (p:=⟨w.heap.size+1,0,none⟩) (Nat.le_succ _) _).trans (belowK_b (w:=w) (Nat.le_refl _) _ D0 _ _ (by simp at hD; omega) hK' rfl rfl)⟩;simp [results,Tryz.f183,go_sem,hc5]
   case stop =>
    rintro D0 c pre W hD _ ⟨⟨rfl,hcr⟩,hbw⟩ hK
    clear bB bR bN hB0 h h'
    gi_wp2
    refine⟨by simp,.inl ⟨_,_,rfl,run_takeDeferred hK,?_⟩⟩;have hc5:=cell_kept hcr (grownBy_putObj' _ D0 (.deferred none)) (fun r e=>by cases e; exact⟨_,hK,rfl⟩);refine⟨.int .i64 (Kl x y),?_,rfl,hbw.trans (belowK_b (w:=w) (Nat.le_refl _) _ D0 _ _ (by simp at hD; omega) hK rfl rfl)⟩;simp [results,Tryz.f183,go_sem,hc5]
 . go_enter Tryz.func183,Tryz.ntmps183
   by_cases hlt:Q4 x<Q4 y
   . have hxy:Kl x y = -1:=Qej (Q0w Qn hlt);have hl1:(((Q4 x:Nat):Int)<((Q4 y:Nat):Int)):=by omega
     have hcell:=(Boxed.new (w.alloc (.cells #[.slice D (Q4 y) cd] 145)) 3 (.int .i64 (-1))).cell;rw [World.size_alloc] at hcell;have HX:=Lib.hid hxy;clear hxy
     go_wp2
     refine bodyPost_ret (v := .int .i64 (-1)) (by simp [results,Tryz.f183,go_sem,hcell]) rfl ?_;exact⟨by rw [HX.out],((Below.refl _ w).alloc (Nat.le_refl _) _).alloc (by simp) _⟩
   . have hxy:Kl x y=1:=Qof (Q0w Qn (by show Q4 y<Q4 x; omega));have hl1:¬ (((Q4 x:Nat):Int)<((Q4 y:Nat):Int)):=by omega
     have hcell:=(Boxed.new (w.alloc (.cells #[.slice D (Q4 y) cd] 145)) 3 (.int .i64 1)).cell;rw [World.size_alloc] at hcell;have HX:=Lib.hid hxy;clear hxy
     go_wp2
     refine bodyPost_ret (v := .int .i64 1) (by simp [results,Tryz.f183,go_sem,hcell]) rfl ?_;exact⟨by rw [HX.out],((Below.refl _ w).alloc (Nat.le_refl _) _).alloc (by simp) _⟩
end Go.Proofs.YtffeegebohigdaaGreat
namespace Go.Proofs.YtffeegebohigdaaGreat
open Go.RowKit
def Gw (k:IntKind) (l:List Nat):List Value:=l.map fun (n:Nat)=>Value.int k (n:Int)
def NBx (w:World) (g E:Nat) (k:IntKind) (l:List Nat):Prop:=∃ rest:List Value,w.heap[g]? = some (.cells (Gw k l++rest).toArray E (0,0))
theorem Qeb (k:IntKind) (l:List Nat):(Gw k l).length=l.length:=by simp [Gw]
theorem Qsh {k:IntKind} {l:List Nat} {i:Nat} (h:i<l.length):(Gw k l)[i]? = some (.int k (l[i]:Int)):=by simp [Gw,h]
theorem NBx.lt {w:World} {g E:Nat} {k:IntKind} {l:List Nat} (h:NBx w g E k l):g<w.heap.size:=by
 obtain⟨r,h⟩:=h;exact (Array.getElem?_eq_some_iff.1 h).1
theorem NBx.keep {w w':World} {g E:Nat} {k:IntKind} {l:List Nat} (h:NBx w g E k l) (hg:w'.heap[g]? = w.heap[g]?):NBx w' g E k l:=by
 obtain⟨r,h⟩:=h;exact⟨r,hg.trans h⟩
theorem NBx.cell {w:World} {g E:Nat} {k:IntKind} {l:List Nat} (h:NBx w g E k l) {i:Nat} (hi:i<l.length):w.cell? ⟨g,i,none⟩=some (.int k (l[i]:Int)):=by
 obtain⟨r,h⟩:=h;have:=cell_of_row w g i _ _ _ h;rw [this];rw [List.getElem?_toArray,List.getElem?_append_left (by rw [Qeb]; exact hi),Qsh hi]
theorem NBx.frozen {w:World} {g E:Nat} {k:IntKind} {l:List Nat} (h:NBx w g E k l) (i:Nat):w.frozen? ⟨g,i,none⟩=false:=by
 obtain⟨r,h⟩:=h;simp [World.frozen?,h]
theorem NBx.rd {w:World} {g E:Nat} {k:IntKind} {l:List Nat} (h:NBx w g E k l):Rd w w.heap.size 1 (some ⟨g,0,none⟩) (Zc k l):=by
 intro i cs hi;unfold Zc at hi;rw [List.getElem?_map] at hi;obtain⟨n,hn,rfl⟩:=Option.map_eq_some_iff.1 hi;have hil:=(List.getElem?_eq_some_iff.1 hn).1;refine⟨g,0,rfl,h.lt,rfl,fun j u hu => ?_⟩
 match j,hu with
 | 0,hu =>
  simp at hu;subst hu;have:=h.cell hil;rw [List.getElem?_eq_getElem hil] at hn;injection hn with hn;rw [hn] at this;rw [Nat.mul_one,Nat.add_zero,Nat.zero_add];exact this
theorem heap_setCell {w:World} {b:Nat} {c:Array Value} {t:TypeId} {fr:Nat×Nat} (h:w.heap[b]? = some (.cells c t fr)) (i:Nat) (u:Value):(w.setCell ⟨b,i,none⟩ u).heap[b]? = some (.cells (c.setIfInBounds i u) t fr):=by
 have hlt:=lt_of_block h;have h':w.heap[b] = .cells c t fr:=by simpa [Array.getElem?_eq_getElem hlt] using h
 show (w.heap.modify b _)[b]? = _
 rw [Array.getElem?_eq_getElem (by simpa using hlt),Array.getElem_modify_self,h'];rfl
theorem NBx.setCell {w:World} {g E:Nat} {k:IntKind} {l:List Nat} (h:NBx w g E k l) {i:Nat} (hi:i<l.length) (m:Nat):NBx (w.setCell ⟨g,i,none⟩ (.int k (m:Int))) g E k (l.set i m):=by
 obtain⟨r,hr⟩:=h;refine⟨r,?_⟩;rw [heap_setCell hr];congr 2;apply Array.ext';rw [Array.toList_setIfInBounds,List.toList_toArray,List.toList_toArray];rw [List.set_append_left _ _ (by rw [Qeb]; exact hi)];unfold Gw;rw [List.map_set]
theorem NBx.other {w:World} {g E:Nat} {k:IntKind} {l:List Nat} (h:NBx w g E k l) {p:Addr} (hne:g≠p.block) (u:Value):NBx (w.setCell p u) g E k l:=h.keep (Below.heap_setCell _ _ _ _ hne)
theorem Z09:EI Tryz.prog 145 63 1 4:=EI.mk (z := .int .u32 0) Tryz.underlying145 (by kernel_rfl) rfl (by omega)
theorem Q3j:EI Tryz.prog 43 3 1 8:=EI.mk (z := .int .i64 0) Tryz.underlying43 (by kernel_rfl) rfl (by omega)
theorem Z1.empty_new (w:World) (base e size:Nat) (hb:base<=w.heap.size):Z1 (w.alloc (.cells #[] e)) base e size (some ⟨w.heap.size,0,none⟩) 0 [] :=
 ⟨⟨by simp,.inr ⟨w.heap.size,0,#[],rfl,hb,heap_alloc_new w _,Nat.le_refl _,Nat.zero_le _,by simp,by simp⟩⟩,by simp⟩
theorem Z1.nbx {w:World} {base e c:Nat} {A:Option Addr} {k:IntKind} {l:List Nat} (h:Z1 w base e 1 A c (Zc k l)) (hl:0<l.length):∃ g,A=some ⟨g,0,none⟩/\base<=g/\NBx w g e k l:=by
 rcases h.1.2 with ⟨h1,h2⟩|⟨g,cap,cur,h1,hb,hg,_,_,hs,htk⟩
 . rw [Ye] at h2;omega
 . simp at h1;obtain⟨rfl,rfl⟩:=h1;refine⟨g,rfl,hb,cur.toList.drop l.length,?_⟩;rw [hg];congr 2;apply Array.ext';rw [List.toList_toArray];rw [Ye,Nat.mul_one,Qzu] at htk;unfold Gw;rw [<- htk,List.take_append_drop]
theorem Qnp (A:Option Addr) (c x:Nat) (n:Nat) (hn:n=Q4 x) (w:World) (hA:Zk w A x) (hl:Q4 x<=1000) :
 Calls Tryz.prog 184 #[.slice A n c] w fun e w'=>∃ A' c',e = .returned (.slice A' (Q4 x) c')/\Z1 w' w.heap.size 63 1 A' c' (Zc .u32 (dig B32 x))/\Q4 x<=c'/\Below w.heap.size w w':=by
 subst hn
 cases A with
 | none =>
  have hl0:dig B32 x = []:=by
   rcases hd:dig B32 x with _|⟨d,l⟩
   . rfl
   . unfold Zk at hA;rw [hd] at hA;obtain⟨_,_,h,_⟩:=hA 0 [.int .u32 (d:Int)] rfl;cases h
  have hl1:Q4 x=0:=by show (dig B32 x).length=0; rw [hl0]; rfl
  rw [hl1,hl0];have heq:=fun w=>Go.Lib.run_eql_slice_nil (P:=Tryz.prog) w 145 63 none 0 c 0 0 Tryz.underlying145
  go_enter Tryz.func184,Tryz.ntmps184
  go_wp2
  go_ret
  exact⟨none,0,rfl,Z1.nil _ _ _ _,Nat.zero_le _,Below.refl _ _⟩
 | some ad =>
  obtain⟨l,hld⟩:∃ l,l=dig B32 x:=⟨_,rfl⟩
  have hll:Q4 x=l.length:=by rw [hld]
  rw [hll] at hl;rw [hll];unfold Zk at hA;rw [<- hld] at hA ⊢;clear hll hld;have heq:=fun w=>Go.Lib.run_eql_slice_nil (P:=Tryz.prog) w 145 63 (some ad) l.length c 0 0 Tryz.underlying145;have hb1:Below w.heap.size w (w.alloc (Obj.cells #[] 63)):=(Below.refl _ _).alloc (Nat.le_refl _) _;have HRD:=Lib.hid ((hA.below hb1 (Nat.le_refl _)).more hb1.size);have HOW:=Lib.hid (Z1.empty_new w w.heap.size 63 1 (Nat.le_refl _));have HB1:=Lib.hid hb1;clear hA hb1
  go_enter Tryz.func184,Tryz.ntmps184
  go_wp2_with (first
   | (at_builtin; go_loud (refine Q3e rfl _ _ rfl Z09 0 rfl rfl HOW.out rfl _ HRD.out (by rw [Ye]) (Qnk _ l) (by unfold maxLen; simp; omega) (by simp; omega) HB1.out.size ?_); intro A4 c4 w4 hown4 hg4 hb4))
  go_ret
  have hcap:=hown4.cap.1;rw [List.nil_append,Ye] at hcap;exact⟨A4,c4,by simp,by simpa using hown4,hcap,HB1.out.trans hb4⟩
open Go.Shelf
attribute [local go_sem] Oper.semAt_some
theorem Qvp {W:World} {b:Nat} {c:Array Value} {t:TypeId} {f:Nat×Nat} {row:Option Nat} {B:Nat} (h:W.heap[b]? = some (.cells c t f)) (hr:∀ r,row=some r->B<=r/\∃ o:Obj,W.heap[r]? = some o/\o.isCells=false):some b≠row:=by
 intro e;obtain⟨_,o,ho,hc⟩:=hr b e.symm;rw [h] at ho;injection ho with ho;subst ho;cases hc
theorem NBx.row {W W':World} {g E:Nat} {k:IntKind} {l:List Nat} {row:Option Nat} {B:Nat} (h:NBx W g E k l) (hg:W.grownBy W' row) (hr:∀ r,row=some r->B<=r/\∃ o:Obj,W.heap[r]? = some o/\o.isCells=false):NBx W' g E k l:=by
 obtain⟨r,hh⟩:=h;exact⟨r,(hg.block g (Array.getElem?_eq_some_iff.1 hh).1 (Qvp hh hr)).trans hh⟩
theorem Q83 {W W':World} {b t:Nat} {v:Value} {row:Option Nat} {B:Nat} (h:Boxed W b t v) (hg:W.grownBy W' row) (hr:∀ r,row=some r->B<=r/\∃ o:Obj,W.heap[r]? = some o/\o.isCells=false):Boxed W' b t v:=h.kept hg (Qvp h hr)
theorem Qzq {w W W':World} {g:Nat} {row:Option Nat} {B:Nat} (h:w.grownBy W (some g)) (hB:w.heap.size<=B) (hg:W.grownBy W' row) (hr:∀ r,row=some r->B<=r/\∃ o:Obj,W.heap[r]? = some o/\o.isCells=false):w.grownBy W' (some g) :=
 ⟨hg.os.trans h.os,hg.tape.trans h.tape,hg.output.trans h.output,Nat.le_trans h.size hg.size,fun k hk hne=>(hg.block k (Nat.lt_of_lt_of_le hk h.size) (fun e=>by have:=(hr k e.symm).1; omega)).trans (h.block k hk hne)⟩
theorem Qd6 {w W:World} {g:Nat} (h:w.grownBy W (some g)) {p:Addr} (hp:p.block=g\/w.heap.size<=p.block) (u:Value):w.grownBy (W.setCell p u) (some g) :=
 ⟨h.os,h.tape,h.output,by simp; exact h.size,fun k hk hne=>(Below.heap_setCell _ _ _ _ (fun e=>by
  rcases hp with hp|hp
  . exact hne (by rw [e,hp])
  . omega)).trans (h.block k hk hne)⟩
theorem Q5b {w W:World} {g:Nat} (h:w.grownBy W (some g)) (o:Obj):w.grownBy (W.alloc o) (some g) :=
 ⟨h.os,h.tape,h.output,by simp; exact Nat.le_succ_of_le h.size,fun k hk hne=>(Below.heap_alloc _ _ _ (Nat.lt_of_lt_of_le hk h.size)).trans (h.block k hk hne)⟩
theorem Z0c {w W:World} {g D:Nat} (h:w.grownBy W (some g)) (hD:w.heap.size<=D) (o:Obj):w.grownBy (W.putObj D o) (some g) :=
 ⟨h.os,h.tape,h.output,by simp; exact h.size,fun k hk hne=>(World.putObj_heap_other (by omega)).trans (h.block k hk hne)⟩
def Z7r (w:World) (g n c by_:Nat) (l:List Nat) (pre:List (Nat×Nat)) (W:World):Prop:=∃ (o:List Nat) (r:Nat),pre.length<=n/\o.length=n/\Ql B32 o/\o.take (n - pre.length)=l.take (n - pre.length)/\r<by_/\Q5 B32 (l.drop (n - pre.length))=Q5 B32 (o.drop (n - pre.length))*by_+r/\NBx W g 63 .u32 o /\
 Boxed W w.heap.size 145 (.slice (some ⟨g,0,none⟩) n c)/\Boxed W (w.heap.size+1) 63 (.int .u32 (by_:Int))/\Boxed W (w.heap.size+2) 148 (.int .u64 (r:Int))/\Boxed W (w.heap.size+3) 145 (.slice (some ⟨g,0,none⟩) n c)/\w.grownBy W (some g)
theorem Qky (g c n by_:Nat) (l:List Nat) (hn:n=l.length) (w:World) (hL:NBx w g 63 .u32 l) (hd:Ql B32 l) (hlen:l.length<=1000) (h0:0<by_) (hby:by_<4294967296) :
 Calls Tryz.prog 186 #[.slice (some ⟨g,0,none⟩) n c,.int .u32 by_] w fun e w'=>∃ o,e = .returned (.int .u32 (Q5 B32 l % by_:Nat))/\o.length=l.length/\Ql B32 o/\Q5 B32 o=Q5 B32 l / by_/\NBx w' g 63 .u32 o/\w.grownBy w' (some g):=by
 have hn1:n<=1000:=by omega
 have HN:=Lib.hid hn;have HL:=Lib.hid hL;clear hn hL;refine (callsIn_wide (n:=3)).1 ?_;refine callsIn_of_wp_marks Tryz.func186 rfl trivial ?_ rfl;simp only [Tryz.ntmps186,List.size_toArray,List.length_cons,List.length_nil,Nat.reduceAdd,Nat.reduceSub,Array.replicate_succ,Array.replicate_zero,List.push_toArray,List.append_toArray,List.nil_append,List.cons_append]
 gi_wp2_with (refine⟨trivial,?_⟩; gi_at_call 227; refine (Qw2 Fence.wide _ trivial rfl _ _ _ _).mono ?_; rintro e w' ⟨rfl,rfl⟩)
 obtain⟨W0,hW0⟩:∃ W0,W0=((((w.alloc (.cells #[.slice (some ⟨g,0,none⟩) n c] 145)).alloc (.cells #[.int .u32 (by_:Int)] 63)).alloc (.cells #[.int .u64 0] 148)).alloc (.cells #[.slice (some ⟨g,0,none⟩) n c] 145)):=⟨_,rfl⟩
 have hsz:W0.heap.size=w.heap.size+4:=by rw [hW0]; simp
 have bA:Boxed W0 w.heap.size 145 (.slice (some ⟨g,0,none⟩) n c):=by rw [hW0]; exact (((Boxed.new w _ _).alloc _).alloc _).alloc _
 have bY:Boxed W0 (w.heap.size+1) 63 (.int .u32 (by_:Int)):=by rw [hW0]; have:=Boxed.new (w.alloc (.cells #[.slice (some ⟨g,0,none⟩) n c] 145)) 63 (.int .u32 (by_:Int)); rw [World.size_alloc] at this; exact (this.alloc _).alloc _
 have bR:Boxed W0 (w.heap.size+2) 148 (.int .u64 ((0:Nat):Int)):=by rw [hW0]; have:=Boxed.new ((w.alloc (.cells #[.slice (some ⟨g,0,none⟩) n c] 145)).alloc (.cells #[.int .u32 (by_:Int)] 63)) 148 (.int .u64 0); rw [World.size_alloc,World.size_alloc] at this; exact this.alloc _
 have bN:Boxed W0 (w.heap.size+3) 145 (.slice (some ⟨g,0,none⟩) n c):=by rw [hW0]; have:=Boxed.new (((w.alloc (.cells #[.slice (some ⟨g,0,none⟩) n c] 145)).alloc (.cells #[.int .u32 (by_:Int)] 63)).alloc (.cells #[.int .u64 0] 148)) 145 (.slice (some ⟨g,0,none⟩) n c); rw [World.size_alloc,World.size_alloc,World.size_alloc] at this; exact this
 have hgr0:w.grownBy W0 (some g):=by rw [hW0]; exact Q5b (Q5b (Q5b (Q5b ⟨rfl,rfl,rfl,Nat.le_refl _,fun _ _ _=>rfl⟩ _) _) _) _
 have hnb0:NBx W0 g 63 .u32 l:=by rw [hW0]; exact HL.out.keep ((Below.heap_alloc _ _ _ (by have:=HL.out.lt; simp; omega)).trans ((Below.heap_alloc _ _ _ (by have:=HL.out.lt; simp; omega)).trans ((Below.heap_alloc _ _ _ (by have:=HL.out.lt; simp; omega)).trans (Below.heap_alloc _ _ _ HL.out.lt))))
 rw [<- hW0];refine Qk1 (F:=Fence.wide) (n:=3) (ps := #[10,11]) (encs:=Q4y) rfl (by decide) (gf:=263) (lb := #[.pointer (some ⟨w.heap.size+1+1+1,0,none⟩)]) rfl trivial (enters_of Tryz.func263 (by kernel_rfl) rfl)
  (Qp2 Fence.wide 2 trivial rfl (by decide) (w.heap.size+1+1+1) n c (some ⟨g,0,none⟩) l hn1 _) (Below.refl _ _) (fun _=>rfl)
  (Z7r w g n c by_ l) (fun _ _ _=>False) (fun pre W hI => ?hIG) (fun pre A B row hs hg hr => ?hI) (fun _ _ _ _ _ hs _ _=>hs) ?hst
  (fun x => { tmps := #[.slice (some ⟨g,0,none⟩) n c,.int .u32 (by_:Int),.pointer (some ⟨w.heap.size,0,none⟩),.pointer (some ⟨w.heap.size+1,0,none⟩),.int .u32 0,.pointer (some ⟨w.heap.size+1+1,0,none⟩),.int .i64 (x.1:Int),.int .u32 (x.2:Int),.slice (some ⟨g,0,none⟩) n c,.func (.func 263) #[] #[.pointer (some ⟨w.heap.size+1+1+1,0,none⟩)],.int .i64 (x.1:Int),.int .u32 (x.2:Int),undef,undef,undef,undef,undef,undef,undef,undef,undef,undef,undef,undef,undef,undef,undef,undef,undef,undef,undef],defers := [] }) ?assign ?body ?done ?stop
 case hIG =>
  obtain⟨o,r,hpl,hol,hod,htk,hr,hv,hnb,b1,b2,b3,b4,hgr⟩:=hI;refine⟨b4.cell,fun j hj=>⟨g,0,rfl,?_⟩⟩;have hjo:j<o.length:=by omega
  have hjl:j<l.length:=by have:=HN.out; omega
  have h1:=hnb.cell hjo;have e:o[j]=l.getD j 0:=by
   have h2:=congrArg (fun q=>q[j]?) htk;simp only [List.getElem?_take,show j<n - pre.length by omega,if_true] at h2;rw [List.getElem?_eq_getElem hjo] at h2;rw [List.getD_eq_getElem?_getD,<- h2];rfl
  rw [Nat.zero_add,h1,e]
 case hI =>
  obtain⟨o,r,hpl,hol,hod,htk,hr',hv,hnb,b1,b2,b3,b4,hgr⟩:=hs;exact⟨o,r,hpl,hol,hod,htk,hr',hv,hnb.row hg hr,Q83 b1 hg hr,Q83 b2 hg hr,Q83 b3 hg hr,Q83 b4 hg hr,Qzq hgr (by rw [hsz]; omega) hg hr⟩
 case hst =>
  exact⟨l,0,Nat.zero_le _,HN.out.symm,hd,rfl,h0,by rw [List.length_nil,Nat.sub_zero,List.drop_eq_nil_of_le (Nat.le_of_eq HN.out.symm)]; simp [Q5],hnb0,bA,bY,bR,bN,hgr0⟩
 case assign =>
  intro lp x W K hK;unfold Q4y
  gi_wp2
  exact hK
 case body =>
  rintro lp pre x0 W ⟨o,r,hpl,hol,hod,htk,hr',hv,hnb,b1,b2,b3,b4,hgr⟩ ⟨hlt,rfl⟩
  obtain⟨j,hj⟩:∃ j,j+pre.length+1=n:=⟨n - 1 - pre.length,by omega⟩
  have e1:n - 1 - pre.length=j:=by omega
  have e3:n - pre.length=j+1:=by omega
  rw [e3] at htk hv;unfold Q1v;rw [e1];obtain⟨d,hdd⟩:∃ d,d=l.getD j 0:=⟨_,rfl⟩
  have hdl:d<4294967296:=by rw [hdd]; exact hd.getD (by decide) j
  rw [<- hdd];have c1:=b1.cell;have c2:=b2.cell;have c3:=b3.cell;have f3:=b3.frozen;have hjo:j<o.length:=by omega
  have cj:=hnb.cell hjo;have fj:=hnb.frozen j;have hrl:r<4294967296:=by omega
  have hor:=Lib.hid (Z31 hrl hdl);clear bA bY bR bN hgr0 hnb0;have hgl:g<w.heap.size:=HL.out.lt;have hd2:IntKind.u64.wrap (d:Int)=(d:Int):=Qu (by omega) (by omega);have HDD:=Lib.hid hdd;have HHD:=Lib.hid hd;clear hdd hd;dsimp only
  gi_wp2
  obtain⟨s,hs⟩:∃ s,s=r*4294967296+d:=⟨_,rfl⟩
  rw [hor.out,<- hs];have b1':Boxed (W.setCell ⟨w.heap.size+1+1,0,none⟩ (.int .u64 (s:Int))) w.heap.size 145 (.slice (some ⟨g,0,none⟩) n c):=(Below.heap_setCell _ _ _ _ (by simp; omega)).trans b1;have b2':Boxed (W.setCell ⟨w.heap.size+1+1,0,none⟩ (.int .u64 (s:Int))) (w.heap.size+1) 63 (.int .u32 (by_:Int)):=(Below.heap_setCell _ _ _ _ (by simp)).trans b2;have b3':Boxed (W.setCell ⟨w.heap.size+1+1,0,none⟩ (.int .u64 (s:Int))) (w.heap.size+2) 148 (.int .u64 (s:Int)):=one_setCell b3;have b4':Boxed (W.setCell ⟨w.heap.size+1+1,0,none⟩ (.int .u64 (s:Int))) (w.heap.size+3) 145 (.slice (some ⟨g,0,none⟩) n c):=(Below.heap_setCell _ _ _ _ (by simp)).trans b4;have hnb':NBx (W.setCell ⟨w.heap.size+1+1,0,none⟩ (.int .u64 (s:Int))) g 63 .u32 o:=hnb.other (by simp; omega) _;have hgr':w.grownBy (W.setCell ⟨w.heap.size+1+1,0,none⟩ (.int .u64 (s:Int))) (some g):=Qd6 hgr (.inr (by simp; omega)) _;have hko:KeepsOthers W (W.setCell ⟨w.heap.size+1+1,0,none⟩ (.int .u64 (s:Int))):=KeepsOthers.setCell _ _ _;clear b1 b2 b3 b4 c1 c2 c3 f3 cj fj hnb hgr;generalize W.setCell ⟨w.heap.size+1+1,0,none⟩ (.int .u64 (s:Int))=W1 at *
  have hjn:(j:Int)<(n:Int):=by omega
  have hslt:s<18446744073709551616:=by omega
  have hmo:Tryz.prog.follows .mixedOrders=true:=by kernel_rfl
  have hb0:¬ ((by_:Int)=0):=by omega
  have hwb:IntKind.u64.wrap (by_:Int)=(by_:Int):=Qu (by omega) (by omega);obtain⟨q,hq⟩:∃ q,q=s / by_:=⟨_,rfl⟩
  obtain⟨r2,hr2⟩:∃ r2,r2=s % by_:=⟨_,rfl⟩
  have hq1:q<4294967296:=by
   rw [hq];refine (Nat.div_lt_iff_lt_mul h0).2 ?_;have h1:(r+1)*4294967296<=by_*4294967296:=Nat.mul_le_mul_right _ hr';rw [Nat.mul_comm 4294967296 by_];omega
  have hqi:(s:Int) / (by_:Int)=(q:Int):=by rw [hq]; exact (Int.natCast_ediv s by_).symm
  have hri:(s:Int) % (by_:Int)=(r2:Int):=by rw [hr2]; exact (Int.natCast_emod s by_).symm
  have hr2b:r2<by_:=by rw [hr2]; exact Nat.mod_lt _ h0
  have hwq:IntKind.u32.wrap (q:Int)=(q:Int):=by rw [K7,Nat.mod_eq_of_lt hq1]
  have hjl:j<l.length:=by have:=HN.out; omega
  have hstep:Hid (Q5 B32 (l.drop j)=Q5 B32 ((o.set j q).drop j)*by_+r2):=by
   have h1:=Qwl (B:=B32) (by_:=by_) (a:=l) (o:=o) (i:=j) (r:=r) hjl (by rw [hol]; exact HN.out) hv;have e:l[j]=d:=by have:=HDD.out; rw [this,List.getD_eq_getElem?_getD,List.getElem?_eq_getElem hjl]; rfl
   rw [e] at h1;have e2:r*B32+d=s:=hs.symm;rw [e2,<- hq,<- hr2] at h1;exact h1
  have HVS:=Lib.hid hs;have HQS:=Lib.hid hq;have HRS:=Lib.hid hr2;have HTK:=Lib.hid htk;clear hs hq hr2 hv htk;rename_i Q2 K2 ha2;have hw2:∃ W2,W2=(W1.setCell ⟨g,j,none⟩ (.int .u32 (q:Int))).drew:=⟨_,rfl⟩
  obtain⟨W2,hW2⟩:=hw2;have HQ:Exit.then K2 (Exit.inBlock 1 Q2) Exit.normal { tmps := #[.slice (some ⟨g,0,none⟩) n c,.int .u32 (by_:Int),.pointer (some ⟨w.heap.size,0,none⟩),.pointer (some ⟨w.heap.size+1,0,none⟩),.int .u32 0,.pointer (some ⟨w.heap.size+1+1,0,none⟩),.int .i64 (j:Int),.int .u32 (d:Int),.slice (some ⟨g,0,none⟩) n c,.func (.func 263) #[] #[.pointer (some ⟨w.heap.size+1+1+1,0,none⟩)],.int .i64 (j:Int),.int .u32 (d:Int),.int .u64 (r:Int),.int .u64 ((r:Int)*4294967296),.int .u32 (d:Int),.int .u64 (d:Int),.int .u64 (s:Int),.slice (some ⟨g,0,none⟩) n c,.int .i64 (j:Int),.int .u64 (s:Int),.int .u32 (by_:Int),.int .u64 (by_:Int),.int .u64 (q:Int),.int .u32 (q:Int),.pointer (some ⟨g,j,none⟩),undef,undef,undef,undef,undef,undef],defers := [] } W2:=by
   have b1:Boxed W2 w.heap.size 145 (.slice (some ⟨g,0,none⟩) n c):=by rw [hW2]; exact (Below.heap_setCell _ _ _ _ (by simp; omega)).trans b1'
   have b2:Boxed W2 (w.heap.size+1) 63 (.int .u32 (by_:Int)):=by rw [hW2]; exact (Below.heap_setCell _ _ _ _ (by simp; omega)).trans b2'
   have b3:Boxed W2 (w.heap.size+2) 148 (.int .u64 (s:Int)):=by rw [hW2]; exact (Below.heap_setCell _ _ _ _ (by simp; omega)).trans b3'
   have b4:Boxed W2 (w.heap.size+3) 145 (.slice (some ⟨g,0,none⟩) n c):=by rw [hW2]; exact (Below.heap_setCell _ _ _ _ (by simp; omega)).trans b4'
   have hnb:NBx W2 g 63 .u32 (o.set j q):=by rw [hW2]; exact hnb'.setCell hjo q
   have hgr:w.grownBy W2 (some g):=by rw [hW2]; exact (fun h=>⟨h.os,h.tape,h.output,h.size,h.block⟩) (Qd6 (p:=⟨g,j,none⟩) hgr' (.inl rfl) (.int .u32 (q:Int)))
   have hko2:KeepsOthers W W2:=by rw [hW2]; exact hko.trans ((KeepsOthers.setCell _ _ _).trans (KeepsOthers.drew _))
   have b1s:Boxed (W2.setCell ⟨w.heap.size+1+1,0,none⟩ (.int .u64 (r2:Int))) w.heap.size 145 (.slice (some ⟨g,0,none⟩) n c):=(Below.heap_setCell _ _ _ _ (by simp; omega)).trans b1;have b2s:Boxed (W2.setCell ⟨w.heap.size+1+1,0,none⟩ (.int .u64 (r2:Int))) (w.heap.size+1) 63 (.int .u32 (by_:Int)):=(Below.heap_setCell _ _ _ _ (by simp)).trans b2;have b3s:Boxed (W2.setCell ⟨w.heap.size+1+1,0,none⟩ (.int .u64 (r2:Int))) (w.heap.size+2) 148 (.int .u64 (r2:Int)):=one_setCell b3;have b4s:Boxed (W2.setCell ⟨w.heap.size+1+1,0,none⟩ (.int .u64 (r2:Int))) (w.heap.size+3) 145 (.slice (some ⟨g,0,none⟩) n c):=(Below.heap_setCell _ _ _ _ (by simp)).trans b4;have hnbs:NBx (W2.setCell ⟨w.heap.size+1+1,0,none⟩ (.int .u64 (r2:Int))) g 63 .u32 (o.set j q):=hnb.other (by simp; omega) _;have hgrs:w.grownBy (W2.setCell ⟨w.heap.size+1+1,0,none⟩ (.int .u64 (r2:Int))) (some g):=Qd6 hgr (.inr (by simp; omega)) _;have hkos:KeepsOthers W (W2.setCell ⟨w.heap.size+1+1,0,none⟩ (.int .u64 (r2:Int))):=hko2.trans (KeepsOthers.setCell _ _ _);have c2:=b2.cell;have c3:W2.cell? ⟨w.heap.size+1+1,0,none⟩=_:=b3.cell;have f3:W2.frozen? ⟨w.heap.size+1+1,0,none⟩=_:=b3.frozen;clear hW2 b1' b2' b3' b4' hnb' hgr' hko b1 b2 b3 b4 hnb hgr hko2;refine ha2 _ _ ?_
   gi_wp2
   refine⟨hkos,o.set j q,r2,by simp; omega,by simp [hol],hod.set _ _ hq1,?_,hr2b,?_,hnbs,b1s,b2s,b3s,b4s,hgrs⟩
   . have e:n - (pre ++ [(j,d)]).length=j:=by simp; omega
     rw [e,take_set];have:=congrArg (fun q=>q.take j) HTK.out;simpa [List.take_take] using this
   . have e:n - (pre ++ [(j,d)]).length=j:=by simp; omega
     rw [e];exact hstep.out
  have c1:W1.drew.cell? ⟨w.heap.size,0,none⟩=_:=b1'.cell;have c2:W1.drew.cell? ⟨w.heap.size+1,0,none⟩=_:=b2'.cell;have c3:W1.drew.cell? ⟨w.heap.size+1+1,0,none⟩=_:=b3'.cell;have cj:W1.drew.cell? ⟨g,j,none⟩=_:=hnb'.cell hjo;have fj:W1.drew.frozen? ⟨g,j,none⟩=_:=hnb'.frozen j;rw [hW2] at HQ;have HQ':=Lib.hid HQ;clear HQ hW2 b1' b2' b3' b4' hnb' hgr' hko
  gi_region_with_o (fail)
  all_goals exact HQ'.out
 case done =>
  rintro D0 xs W hD hxs ⟨o,r,hpl,hol,hod,htk,hr',hv,hnb,b1,b2,b3,b4,hgr⟩ hK
  rw [hxs,Nat.sub_self,List.drop_zero,List.drop_zero] at hv;have c3:W.cell? ⟨w.heap.size+1+1,0,none⟩=_:=b3.cell;have hrl:r<4294967296:=by omega
  have hwr:IntKind.u32.wrap (r:Int)=(r:Int):=by rw [K7,Nat.mod_eq_of_lt hrl]
  have hmod:Hid (r=Q5 B32 l % by_):=by
   unfold Hid;rw [hv,Nat.mul_comm,Nat.mul_add_mod,Nat.mod_eq_of_lt hr']
  have hdiv:Hid (Q5 B32 o=Q5 B32 l / by_):=by
   unfold Hid;rw [hv,Nat.mul_comm,Nat.mul_add_div h0,Nat.div_eq_of_lt hr',Nat.add_zero]
  have HNB:=Lib.hid (hnb.keep (w':=W.putObj D0 (.deferred none)) (World.putObj_heap_other (by
   intro e;obtain⟨rr,hh⟩:=hnb;rw [e] at hh;rw [hh] at hK;cases hK)))
  have HGR:=Lib.hid (Z0c hgr (D:=D0) (by omega) (.deferred none));have hol2:Hid (o.length=l.length):=by unfold Hid; rw [hol]; exact HN.out
  clear hv htk hnb bA bY bR bN hgr0 hnb0 b1 b2 b3 b4 hgr
  gi_wp2
  refine⟨by simp,.inl ⟨_,_,rfl,run_takeDeferred hK,?_⟩⟩;exact⟨_,results_tmp rfl _ _ _,o,by rw [<- hmod.out]; rfl,hol2.out,hod,hdiv.out,HNB.out,HGR.out⟩
 case stop =>
  rintro D0 cc pre W _ _ h _
  exact h.elim
end Go.Proofs.YtffeegebohigdaaGreat
namespace Go.Proofs.YtffeegebohigdaaGreat
open Go.RowKit
def Q1p (w:World) (x y:Nat) (e:Ending) (w':World):Prop:=∃ A1 c1 A2 c2,e = .returned (.tuple #[.slice A1 (Q4 (x / y)) c1,.slice A2 (Q4 (x % y)) c2])/\Zk w' A1 (x / y)/\Zk w' A2 (x % y)/\Q4 (x / y)<=c1/\Q4 (x % y)<=c2/\Below w.heap.size w w'
theorem Qnd {x:Nat} (h:Q4 x<=2):x<18446744073709551616:=by
 have:=Qv Qn (n:=x) (k:=2) h;have h2:B32^2=18446744073709551616:=by decide
 omega
theorem Qug (A D:Option Addr) (ca cd x y n m:Nat) (hn:n=Q4 x) (hm:m=Q4 y) (w:World) (h:Zk w A x) (h':Zk w D y) (hx:Q4 x<=1000) (hy:Q4 y<=1000) (hxy:x<y) :
 Calls Tryz.prog 126 #[.slice A n ca,.slice D m cd] w (Q1p w x y):=by
 have HC:=Lib.hid (Qbi A D ca cd x y n m hn hm w h h' hx hy);rw [Qej hxy] at HC;have HL:=Lib.hid (fun (w1:World) (hb:Below w.heap.size w w1)=>Qnp A ca x n hn w1 (h.from hb) hx);have HX:=Lib.hid hxy;clear h h' hxy hn hm
 go_enter Tryz.func126,Tryz.ntmps126
 go_wp2_with (first
  | (go_at_call 183; refine (HC.out).mono ?_; rintro e w1 ⟨rfl,hb1⟩; have HB1:=Lib.hid hb1; clear hb1)
  | (go_at_call 184; refine (HL.out _ HB1.out).mono ?_; rintro e w2 ⟨A2,c2,rfl,hown2,hc2,hb2⟩))
 go_ret2
 have hdiv:x / y=0:=Nat.div_eq_of_lt HX.out;have hmod:x % y=x:=Nat.mod_eq_of_lt HX.out;unfold Q1p;rw [hdiv,hmod];exact⟨none,0,A2,c2,rfl,Rd.nil _ _ _ _,hown2.rd,Nat.zero_le _,hc2,HB1.out.trans (hb2.mono HB1.out.size)⟩
theorem Qwz (A D:Option Addr) (ca cd x y n m:Nat) (hn:n=Q4 x) (hm:m=Q4 y) (w:World) (h:Zk w A x) (h':Zk w D y) (hx:Q4 x<=2) (hy0:0<y) (hxy:y<=x) :
 Calls Tryz.prog 126 #[.slice A n ca,.slice D m cd] w (Q1p w x y):=by
 have hy:Q4 y<=2:=Nat.le_trans (Z3 Qn (Nat.lt_of_le_of_lt hxy (Qv Qn (Nat.le_refl _)))) hx;have HC:=Lib.hid (Qbi A D ca cd x y n m hn hm w h h' (by omega) (by omega));have hc:¬ Kl x y<0:=by
  unfold Kl;rw [if_neg (by omega)];split<;>decide
 have hxs:=Qnd hx;have hys:=Qnd hy;have HLX:=Lib.hid (fun (w1:World) (hb:Below w.heap.size w w1)=>Qrk A ca n x hn w1 (h.from hb) (by omega) x (Nat.mod_eq_of_lt hxs).symm);have HLY:=Lib.hid (fun (w1:World) (hb:Below w.heap.size w w1)=>Qrk D cd m y hm w1 (h'.from hb) (by omega) y (Nat.mod_eq_of_lt hys).symm);obtain⟨q,hq⟩:∃ q,q=x / y:=⟨_,rfl⟩
 obtain⟨r,hr⟩:∃ r,r=x % y:=⟨_,rfl⟩
 have hqi:(x:Int) / (y:Int)=(q:Int):=by rw [hq]; exact (Int.natCast_ediv x y).symm
 have hri:(x:Int) % (y:Int)=(r:Int):=by rw [hr]; exact (Int.natCast_emod x y).symm
 have hqs:q<18446744073709551616:=by rw [hq]; exact Nat.lt_of_le_of_lt (Nat.div_le_self _ _) hxs
 have hrs:r<18446744073709551616:=by rw [hr]; exact Nat.lt_of_le_of_lt (Nat.mod_le _ _) hxs
 have HQ:=Lib.hid (fun (w1:World)=>Qa5 q hqs w1);have HR:=Lib.hid (fun (w1:World)=>Qa5 r hrs w1);have hy1:¬ ((y:Int)=0):=by omega
 have hn2:(n:Int)<=2:=by omega
 have HQE:=Lib.hid hq;have HRE:=Lib.hid hr;generalize Kl x y=cv at *
 clear h h' hxy hn hm hx hy hq hr
 go_enter Tryz.func126,Tryz.ntmps126
 go_wp2_with (first
  | (go_at_call 183; refine (HC.out).mono ?_; rintro e w1 ⟨rfl,hb1⟩; have HB1:=Lib.hid hb1; have P1:=HB1; clear hb1)
  | (go_at_call 185; refine (HLX.out _ P1.out).mono ?_; rintro e w2 ⟨rfl,rfl⟩; have P2:=P1; clear P1)
  | (go_at_call 185; refine (HLY.out _ P2.out).mono ?_; rintro e w2 ⟨rfl,rfl⟩; have P3:=P2; clear P2)
  | (go_at_call 63; refine (HQ.out _).mono ?_; rintro e w3 ⟨A3,c3,rfl,hrd3,hc3,hb3⟩; have HB3:=Lib.hid (HB1.out.trans (hb3.mono HB1.out.size)); have P1:=HB3; have HRD3:=Lib.hid hrd3; have HC3:=Lib.hid hc3; clear hb3 hrd3 hc3 HQ)
  | (go_at_call 63; refine (HR.out _).mono ?_; rintro e w4 ⟨A4,c4,rfl,hrd4,hc4,hb4⟩))
 go_ret2
 unfold Q1p;rw [<- HQE.out,<- HRE.out];exact⟨A3,c3,A4,c4,rfl,HRD3.out.from hb4,hrd4,HC3.out,hc4,HB3.out.trans (hb4.mono HB3.out.size)⟩
theorem Z4k {y:Nat} (h:Q4 y=1):dig B32 y = [y]/\0<y/\y<4294967296:=by
 have h1:y<B32^1:=Qv Qn (show Q4 y<=1 by omega);have hB:B32=4294967296:=rfl;have h2:y≠0:=by
  rintro rfl
  exact absurd h (by decide)
 rw [Nat.pow_one] at h1;refine⟨?_,by omega,by omega⟩;rw [Ve Qn h2,Nat.mod_eq_of_lt h1,Nat.div_eq_of_lt h1,Vs Qn]
theorem Z6d (x y:Nat):Q4 (x / y)<=Q4 x:=Z3 Qn (Nat.lt_of_le_of_lt (Nat.div_le_self x y) (Qv Qn (Nat.le_refl _)))
theorem Qyk (A D:Option Addr) (ca cd x y n m:Nat) (hn:n=Q4 x) (hm:m=Q4 y) (w:World) (h:Zk w A x) (h':Zk w D y) (hx:Q4 x<=1000) (hx2:2<Q4 x) (hy:Q4 y=1) :
 Calls Tryz.prog 126 #[.slice A n ca,.slice D m cd] w (Q1p w x y):=by
 have hyx:y<=x:=Nat.le_of_lt (Q0w Qn (m:=y) (n:=x) (show Q4 y<Q4 x by omega));have HC:=Lib.hid (Qbi A D ca cd x y n m hn hm w h h' (by omega) (by omega));have hc:¬ Kl x y<0:=by
  unfold Kl;rw [if_neg (by omega)];split<;>decide
 obtain⟨hyd,hy0,hyB⟩:=Z4k hy;obtain⟨l,hl⟩:∃ l,l=dig B32 x:=⟨_,rfl⟩
 have hll:l.length=n:=by rw [hl,hn]
 have hld:Ql B32 l:=by rw [hl]; exact Ql.dig Qn x
 have hlv:Q5 B32 l=x:=by rw [hl]; exact Zt Qn x
 obtain⟨r,hr⟩:∃ r,r=x % y:=⟨_,rfl⟩
 have hrs:r<4294967296:=by rw [hr]; exact Nat.lt_trans (Nat.mod_lt _ hy0) hyB
 have HL:=Lib.hid (fun (w1:World) (hb:Below w.heap.size w w1)=>Qnp A ca x n hn w1 (h.from hb) hx);have HS:=Lib.hid (fun (g c:Nat) (w1:World) (hL:NBx w1 g 63 .u32 l)=>Qky g c n y l hll.symm w1 hL hld (by omega) hy0 hyB);have HT:=Lib.hid (fun (g c:Nat) (o:List Nat) (ho:o.length=n) (hod:Ql B32 o) (hc:n<=c) (w1:World) (hL:NBx w1 g 63 .u32 o)=>Q5m (some ⟨g,0,none⟩) c n o ho.symm w1 hL.rd hod (by omega) (by omega));have HR:=Lib.hid (fun (w1:World)=>Qa5 r (by omega) w1);obtain⟨b0,o0,rfl,hb0,hld0⟩:=Vb Tryz.underlying63 rfl h' (i:=0) (show 0<(dig B32 y).length by show 0<Q4 y; omega);have HLD:=Lib.hid (fun (w1:World) (hb:Below w.heap.size w w1)=>by
  have h1:=hld0 w1 hb;have e:(dig B32 y)[0]'(show 0<(dig B32 y).length by show 0<Q4 y; omega)=y:=by simp [hyd]
  rw [e] at h1;exact h1)
 have hn2:¬ (n:Int)<=2:=by omega
 have hm1:m=1:=by omega
 subst hm1;have wr:=Qu (n:=(r:Int)) (by omega) (by omega);have HQE:Hid (∀ o,Q5 B32 o=Q5 B32 l / y->Q5 B32 o=x / y):=by unfold Hid; intro o ho; rw [ho,hlv]
 have HRE:Hid (Q5 B32 l % y=r):=by unfold Hid; rw [hlv,hr]
 have HR2:=Lib.hid hr;have HN:=Lib.hid hn;have HLL:=Lib.hid (hl.symm);have hnpos:0<n:=by omega
 generalize Kl x y=cv at *
 clear h h' hyx hy hx hx2 hr hll hld hlv hyd hl hn hm hld0
 go_enter Tryz.func126,Tryz.ntmps126
 go_wp2_with (first
  | (go_at_call 183; refine (HC.out).mono ?_; rintro e w1 ⟨rfl,hb1⟩; have HB1:=Lib.hid hb1; clear hb1)
  | (go_at_call 184; refine (HL.out _ HB1.out).mono ?_; rintro e w2 ⟨A2,c2,rfl,hown2,hc2,hb2⟩; rw [HLL.out] at hown2; obtain⟨g,rfl,hg,hnb⟩:=hown2.nbx (by rw [<- HLL.out]; show 0<Q4 x; rw [<- HN.out]; exact hnpos); have HC2:Hid (n<=c2):=by unfold Hid; rw [HN.out]; exact hc2
     have HB2:=Lib.hid (HB1.out.trans (hb2.mono HB1.out.size)); have HG:=Lib.hid (Nat.le_trans HB1.out.size hg); have HNB:=Lib.hid hnb; rw [<- HN.out]; clear hown2 hb2 hc2 hg hnb)
  | ((with_reducible refine Z4 63 ?_); refine Q9 rfl _ _ rfl _ rfl _ (HLD.out _ HB2.out) ?_)
  | (go_at_call 186; refine (HS.out g c2 _ HNB.out).mono ?_; rintro e w3 ⟨o,rfl,hol,hod,hov,hnb3,hgr3⟩; rw [HRE.out]; have HOV:=Lib.hid (HQE.out o hov); have HOL:=Lib.hid hol; have HOD:=Lib.hid hod; have HNB3:=Lib.hid hnb3
     have HB3:=Lib.hid (HB2.out.grown hgr3 HB2.out.size (by intro k hk; injection hk with hk; rw [<- hk]; exact HG.out)); clear hol hod hov hnb3 hgr3)
  | (go_at_call 127; refine (HT.out g c2 o (by rw [HOL.out,<- HLL.out]; exact HN.out.symm) HOD.out HC2.out _ HNB3.out).mono ?_; rintro e w4 ⟨rfl,rfl⟩)
  | (go_at_call 63; refine (HR.out _).mono ?_; rintro e w5 ⟨A5,c5,rfl,hrd5,hc5,hb5⟩))
 go_ret2
 unfold Q1p;refine⟨some ⟨g,0,none⟩,c2,A5,c5,?_,?_,?_,?_,?_,HB3.out.trans (hb5.mono HB3.out.size)⟩
 . rw [HOV.out,HR2.out]; rfl
 . have h1:=Q20 Qn HNB3.out.rd HOD.out;rw [HOV.out] at h1;exact Rd.from h1 hb5
 . rw [<- HR2.out]; exact hrd5
 . exact Nat.le_trans (Z6d x y) (by rw [<- HN.out]; exact HC2.out)
 . rw [<- HR2.out]; exact hc5
end Go.Proofs.YtffeegebohigdaaGreat
namespace Go.Proofs.YtffeegebohigdaaGreat
theorem Qem {B:Nat} {l:List Nat} (hl:Ql B l) {k:Nat} (h:l.length=k+1):Q5 B l=Q5 B (l.take k)+B^k*l.getD k 0/\Q5 B (l.take k)<B^k:=by
 have h1:=Zx B l k;rw [List.take_of_length_le (by omega)] at h1;have h2:=Y6 (l.take k) (hl.take k);rw [List.length_take_of_le (by omega)] at h2;exact⟨h1,h2⟩
theorem Qwi {B:Nat} {l:List Nat} (hl:Ql B l) {k:Nat} (h:l.length=k+2):Q5 B l=Q5 B (l.take k)+B^k*(l.getD k 0+B*l.getD (k+1) 0)/\Q5 B (l.take k)<B^k:=by
 have h1:=(Qem hl (k:=k+1) h).1;have h2:=Zx B l k;have h3:=Y6 (l.take k) (hl.take k);rw [List.length_take_of_le (by omega)] at h3;refine⟨?_,h3⟩;rw [h1,h2,Nat.pow_succ];grind
theorem Qkh {y k:Nat} (h:Q4 y=k+1):(dig B32 y).getD k 0≠0:=by
 refine Qgf Qn (n:=y) ?_;have h':(dig B32 y).length=k+1:=h;rw [List.getLast?_eq_getElem?,h'];simp [List.getD,h']
theorem Z2o {y k s yt:Nat} (h:Q4 y=k+1) (hyt:yt=(dig B32 y).getD k 0) (hs:s=B32 / (yt+1)):0<s/\s<B32/\Q4 (y*s)=k+1:=by
 have h0:=Qkh h;rw [<- hyt] at h0;have hd:=Ql.dig Qn y;have hlt:yt<B32:=by rw [hyt]; exact hd.getD (by decide) k
 have hsp:=Qem hd h;rw [Zt Qn,<- hyt] at hsp;have hs0:0<s:=by rw [hs]; exact Nat.div_pos (by omega) (by omega)
 have hm:s*(yt+1)<=B32:=by rw [hs]; exact Nat.div_mul_le_self _ _
 have hs1:s<B32:=by
  have h1:s*2<=s*(yt+1):=Nat.mul_le_mul_left _ (by omega);omega
 refine⟨hs0,hs1,?_⟩;have hB:B32^(k+1)=B32^k*B32:=Nat.pow_succ ..;have hy1:y<B32^k*(yt+1):=by
  rw [Nat.mul_add,Nat.mul_one];omega
 have h3:y*s<B32^(k+1):=by
  have h4:y*s<B32^k*(yt+1)*s:=Nat.mul_lt_mul_of_pos_right hy1 hs0;have h5:B32^k*(yt+1)*s=B32^k*(s*(yt+1)):=by grind
  have h6:B32^k*(s*(yt+1))<=B32^k*B32:=Nat.mul_le_mul_left _ hm;rw [hB];omega
 have h7:B32^k<=y:=(Vt Qn).1 (show k<Q4 y by omega);have h8:y*1<=y*s:=Nat.mul_le_mul_left _ hs0;have h9:k<Q4 (y*s):=(Vt Qn).2 (by omega);have h10:=Z3 Qn h3;have:Q4 (y*s)<=k+1:=h10;omega
structure Q64 (X V n m j:Nat) (L Q:List Nat):Prop where
 l:L.length=m+n+1
 q:Q.length=m+1
 dl:Ql B32 L
 dq:Ql B32 Q
 eq:X=Q5 B32 (Q.drop j)*(V*B32^j)+Q5 B32 L
 lt:Q5 B32 L<V*B32^j
theorem Q64.start {X V n m x y s:Nat} (hx:Q4 x=m+n) (hy:Q4 y=n) (hn:0<n) (hs0:0<s) (_hs:s<B32) (hX:X=x*s) (hV:V=y*s) {L:List Nat} (hL:L.length=m+n+1) (hd:Ql B32 L) (hv:Q5 B32 L=X):Q64 X V n m (m+1) L (List.replicate (m+1) 0):=by
 refine⟨hL,by simp,hd,Ql.zeros (by decide) _,?_,?_⟩
 . rw [List.drop_of_length_le (by simp),Q7p,Nat.zero_mul,Nat.zero_add,hv]
 . rw [hv,hX,hV];have h1:x<B32^(m+n):=Qv Qn (by show Q4 x<=_; omega);obtain⟨k,rfl⟩:∃ k,n=k+1:=⟨n - 1,by omega⟩
   have h2:B32^k<=y:=(Vt Qn).1 (show k<Q4 y by omega);have h3:B32^(m+(k+1))=B32^k*B32^(m+1):=by rw [<- Nat.pow_add]; congr 1; omega
   have h4:B32^k*B32^(m+1)<=y*B32^(m+1):=Nat.mul_le_mul_right _ h2;have h5:x*s<y*B32^(m+1)*s:=Nat.mul_lt_mul_of_pos_right (by omega) hs0;have h6:y*B32^(m+1)*s=y*s*B32^(m+1):=by grind
   omega
abbrev Q22 (L:List Nat) (j n:Nat):List Nat:=(L.drop j).take (n+1)
theorem Q64.split {X V n m j:Nat} {L Q:List Nat} (h:Q64 X V n m (j+1) L Q) (hV:Q4 V=n) (hj:j<=m):Q5 B32 L=Q5 B32 (L.take j)+B32^j*Q5 B32 (Q22 L j n)/\Q5 B32 (L.take j)<B32^j/\Q5 B32 (Q22 L j n)<V*B32:=by
 have hP:0<B32^j:=Nat.pow_pos (by decide);have hlj:(L.take j).length=j:=List.length_take_of_le (by have:=h.l; omega);have h1:=V7 B32 L j;rw [hlj] at h1;have hlen:(L.drop j).length=m+n+1 - j:=by simp [h.l]
 have hwl:(Q22 L j n).length=n+1:=List.length_take_of_le (by omega);have h2:=V7 B32 (L.drop j) (n+1);rw [hwl] at h2;have hVB:V<B32^n:=Qv Qn (by show Q4 V<=_; omega);have hz:Q5 B32 ((L.drop j).drop (n+1))=0:=by
  rcases Nat.eq_zero_or_pos (Q5 B32 ((L.drop j).drop (n+1))) with h0|h0
  . exact h0
  . exfalso;have a1:B32^(n+1)*1<=B32^(n+1)*Q5 B32 ((L.drop j).drop (n+1)):=Nat.mul_le_mul_left _ h0;have a2:B32^j*B32^(n+1)<=B32^j*Q5 B32 (L.drop j):=Nat.mul_le_mul_left _ (by omega);have a3:V*B32^(j+1)<B32^n*B32^(j+1):=Nat.mul_lt_mul_of_pos_right hVB (Nat.pow_pos (by decide));have a4:B32^n*B32^(j+1)=B32^j*B32^(n+1):=by rw [<- Nat.pow_add,<- Nat.pow_add]; congr 1; omega
    have:=h.lt;omega
 rw [hz,Nat.mul_zero,Nat.add_zero] at h2;have h2':Q5 B32 (L.drop j)=Q5 B32 (Q22 L j n):=h2;rw [h2'] at h1;refine⟨h1,?_,?_⟩
 . have:=Y6 (L.take j) (h.dl.take j);rwa [hlj] at this
 . have:=h.lt;have e:V*B32^(j+1)=B32^j*(V*B32):=by rw [Nat.pow_succ]; grind
   rw [e] at this;exact Nat.lt_of_mul_lt_mul_left (Nat.lt_of_le_of_lt (by omega) this)
theorem Q64.step {X V n m j:Nat} {L Q:List Nat} (h:Q64 X V n m (j+1) L Q) (hV:Q4 V=n) (hj:j<=m) (hV0:0<V) {o:List Nat} (ho:o.length=n+1) (hod:Ql B32 o) (hov:Q5 B32 o=Q5 B32 (Q22 L j n) % V) :
 Q64 X V n m j (L.take j++o++L.drop (j+(n+1))) (Q.set j (Q5 B32 (Q22 L j n) / V)):=by
 obtain⟨h1,h2,h3⟩:=h.split hV hj;have hjl:(L.take j).length=j:=List.length_take_of_le (by have:=h.l; omega);have hq:Q5 B32 (Q22 L j n) / V<B32:=by
  rw [Nat.div_lt_iff_lt_mul hV0,Nat.mul_comm]; exact h3
 have hz:Q5 B32 (L.drop (j+(n+1)))=0:=by
  have e:=V7 B32 (L.drop j) (n+1);have hwl:((L.drop j).take (n+1)).length=n+1:=List.length_take_of_le (by have:=h.l; simp; omega);rw [hwl] at e;have e2:=V7 B32 L j;rw [hjl] at e2;rw [List.drop_drop] at e;have hP:0<B32^j:=Nat.pow_pos (by decide);have e3:B32^j*Q5 B32 (L.drop j)=B32^j*Q5 B32 (Q22 L j n):=by omega
  have e4:=Nat.eq_of_mul_eq_mul_left hP e3;have hP2:0<B32^(n+1):=Nat.pow_pos (by decide);rcases Nat.eq_zero_or_pos (Q5 B32 (L.drop (j+(n+1)))) with h0|h0
  . exact h0
  . have:=Nat.mul_pos hP2 h0;have e5:Q5 B32 (Q22 L j n)=Q5 B32 ((L.drop j).take (n+1)):=rfl;omega
 have hnew:Q5 B32 (L.take j++o++L.drop (j+(n+1)))=Q5 B32 (L.take j)+B32^j*(Q5 B32 (Q22 L j n) % V):=by
  rw [Jk,hz,Nat.mul_zero,Nat.add_zero,Jk,hjl,hov]
 have hd:=Qz9 (B:=B32) (j:=j) (X:=X) (V:=V) (Q:=Q5 B32 (Q.drop (j+1))) (U:=Q5 B32 L) (lo:=Q5 B32 (L.take j)) (W:=Q5 B32 (Q22 L j n)) (q:=Q5 B32 (Q22 L j n) / V) (W1:=Q5 B32 (Q22 L j n) % V) h.eq h1 h2 (by rw [Nat.mul_comm]; exact (Nat.div_add_mod _ _).symm) (Nat.mod_lt _ hV0);refine⟨?_,by simp [h.q],(((h.dl.take j).append hod).append (h.dl.drop _)),h.dq.set _ _ hq,?_,?_⟩
 . have:=h.l;simp [ho];omega
 . rw [hnew,Q5u B32 (by rw [h.q]; omega)];exact hd.1
 . rw [hnew];exact hd.2
theorem Quc {V n vt g:Nat} {u:List Nat} (hu:Ql B32 u) (hul:u.length=n+1) (hVn:Q4 V=n) (hn:0<n) (hvt:vt=(dig B32 V).getD (n - 1) 0) (hlt:Q5 B32 u<V*B32)
 (hg:g=min ((u.getD n 0*4294967296+u.getD (n - 1) 0) / vt) 4294967295):Q5 B32 u / V<=g:=by
 obtain⟨k,rfl⟩:∃ k,n=k+1:=⟨n - 1,by omega⟩
 simp only [Nat.add_sub_cancel] at hvt hg;have h0:=Qkh hVn;rw [<- hvt] at h0;obtain⟨hv1,_⟩:=Qem (Ql.dig Qn V) (k:=k) hVn;rw [Zt Qn,<- hvt] at hv1;obtain⟨hu1,hu2⟩:=Qwi hu (k:=k) (by omega);have hV0:0<V:=by
  have:0<B32^k*vt:=Nat.mul_pos (Nat.pow_pos (by decide)) (by omega);omega
 have h1:=Qqv (B:=B32) (n:=k) (by decide) hv1 hu1 hu2 (by omega);have hB:B32=4294967296:=rfl;have e:u.getD k 0+B32*u.getD (k+1) 0=u.getD (k+1) 0*4294967296+u.getD k 0:=by rw [hB]; omega
 rw [e] at h1;have h2:Q5 B32 u / V<B32:=by
  rw [Nat.div_lt_iff_lt_mul hV0,Nat.mul_comm]; exact hlt
 rw [hg];omega
def Q5r (V W n g:Nat) (owed:Bool) (o:List Nat):Prop :=
 (owed=true->Q5 B32 o+g*V=W+B32^(n+1)/\W / V<g)/\(owed=false->g=W / V/\Q5 B32 o=W % V)
theorem Q5r.taken {V W n g c:Nat} {o:List Nat} (hV:0<V) (hg:W / V<=g) (hc:c<=1) (ho:o.length=n+1) (hod:Ql B32 o) (h:Q5 B32 o+g*V=W+B32^(n+1)*c):Q5r V W n g (decide (0<c)) o:=by
 have hlt:=Y6 o hod;rw [ho] at hlt;refine⟨fun h1 => ?_,fun h1 => ?_⟩
 . obtain rfl:c=1:=by have:=of_decide_eq_true h1; omega
   rw [Nat.mul_one] at h;exact⟨h,Qrd h hlt hV⟩
 . obtain rfl:c=0:=by have:=of_decide_eq_false h1; omega
   rw [Nat.mul_zero,Nat.add_zero] at h;exact Qr3 hV hg h
theorem Q5r.given {V W n g c:Nat} {o o':List Nat} (hV:0<V) (hi:Q5r V W n g true o) (hc:c<=1) (ho:o'.length=n+1) (hod:Ql B32 o') (h:Q5 B32 o'+B32^(n+1)*c=Q5 B32 o+V):Q5r V W n (g - 1) (!decide (0<c)) o':=by
 obtain⟨h1,h2⟩:=hi.1 rfl;have hlt:=Y6 o' hod;rw [ho] at hlt;obtain⟨k,rfl⟩:∃ k,g=k+1:=⟨g - 1,by have:=Nat.lt_of_le_of_lt (Nat.zero_le _) h2; omega⟩
 rw [Nat.add_sub_cancel];rw [Nat.add_mul,Nat.one_mul] at h1;refine⟨fun h3 => ?_,fun h3 => ?_⟩
 . have hc0:c=0:=by
    rcases Nat.eq_zero_or_pos c with h0|h0
    . exact h0
    . simp [h0] at h3
   subst hc0;rw [Nat.mul_zero,Nat.add_zero] at h;have e:Q5 B32 o'+k*V=W+B32^(n+1):=by omega
   exact⟨e,Qrd e hlt hV⟩
 . have hc1:c=1:=by
    rcases Nat.eq_zero_or_pos c with h0|h0
    . simp [h0] at h3
    . omega
   subst hc1;rw [Nat.mul_one] at h;exact Qr3 hV (by omega) (by omega)
theorem Q64.done {n m x y s:Nat} {L Q:List Nat} (h:Q64 (x*s) (y*s) n m 0 L Q) (hs:0<s) (hV:Q4 (y*s)=n):Q5 B32 Q=x / y/\Q5 B32 (L.take n)=x % y*s/\x % y*s / s=x % y:=by
 have h1:=h.eq;have h2:=h.lt;rw [List.drop_zero,Nat.pow_zero,Nat.mul_one] at h1;rw [Nat.pow_zero,Nat.mul_one] at h2;obtain⟨h3,h4⟩:=Qz6 hs h1 h2;refine⟨h3,?_,Nat.mul_div_cancel _ hs⟩;rw [<- h4];have h5:y*s<B32^n:=Qv Qn (by show Q4 (y*s)<=_; omega);have h6:=V7 B32 L n;rw [List.length_take_of_le (by have:=h.l; omega)] at h6;rcases Nat.eq_zero_or_pos (Q5 B32 (L.drop n)) with h0|h0
 . rw [h0,Nat.mul_zero,Nat.add_zero] at h6;exact h6.symm
 . have:B32^n*1<=B32^n*Q5 B32 (L.drop n):=Nat.mul_le_mul_left _ h0;omega
open Go.RowKit
theorem Qmr {P:Program} {id:Nat} {Q:Exit->Act->World->Prop} {a0:Act} {w0:World} {l:List Oper} (np:Nat) (R:Nat->Value->World->Prop) (hR:∀ i v w w',R i v w->Qe w w'->R i v w') (hm:P.follows .mixedOrders=true) (hO:Q3s l np=true) (hnp:np<=l.length) (hd:Q1l l np a0.tmps.size=true)
 (hstep:∀ i o,i<np->l[i]? = some o->∀ (a:Act) (w:World),Qe w0 w->(∀ j oj d,j<np->l[j]? = some oj->oj.dst=some d->(o.after.any fun e=>Region.binds .any e&&e.on==j)=true->∃ v,a.tmps[d]? = some v/\R j v w) ->
  (∀ s,((l.take np).all fun o=>o.dst != some s)=true->a.tmps[s]? = a0.tmps[s]?)->wpOp P l.toArray Q i (fun a' w'=>∃ v,a'=a.put o.dst v/\Qe w w'/\R i v w') a w)
 (hK:∀ (val:Nat->Value) (w:World),Qe w0 w->(∀ i,i<np->R i (val i) w)->wpList P l.toArray Q (l.drop np) (Kn val 0 (l.take np) a0) w) :
 (Code.region id l.toArray true).wp P Q a0 w0:=by
 refine Qms np (fun i v _ _ w=>R i v w) hm hO hnp hd (fun i v lo hi w w' h _ hb=>hR i v w w' h hb) ?_ ?_
 . intro i o hi ho L a w val lo hi' M haft;refine hstep i o hi ho a w M.from0 (fun j oj d hj hoj hdj he => ?_) (fun s hs=>M.old_ hs);rw [Array.any_eq_true'] at he;obtain⟨e,he,hb⟩:=he;simp only [Bool.and_eq_true,beq_iff_eq] at hb;have hL:=haft e he hb.1;rw [hb.2] at hL;exact⟨val j,M.slots j oj d hj hoj hdj hL,(M.rows j hj hL).2.2.2⟩
 . intro val lo hi w hb hrows _;exact hK val w hb (fun i hi=>(hrows i hi).2.2.2)
theorem Qjb {w:World} {g k V:Nat} {A:Option Addr} (hz:NB w g 63 .u32 (List.replicate k 0)) (hA:Zk w A V) (hV:V≠0):∀ q,A=some q->q.block≠g:=by
 rintro q rfl hq
 have hl:=K8 Qn hV;obtain⟨j,hj⟩:∃ j,(dig B32 V).length=j+1:=⟨(dig B32 V).length - 1,by omega⟩
 have htop:(dig B32 V).getD j 0≠0:=Qkh hj;obtain⟨b,off,e,hb,hlen,hc⟩:=hA j _ (Vu (k := .u32) (l:=dig B32 V) (i:=j) (by omega));injection e with e;rw [e] at hq;have h1:=hc 0 _ rfl;simp only at hq;subst hq;rw [cell_of_row w b _ _ _ _ hz] at h1;simp only [List.map_replicate,List.getElem?_toArray,List.getElem?_replicate] at h1;split at h1
 . injection h1 with h1;injection h1 with _ h1;apply htop;have h3:(dig B32 V)[j]'(by omega)=0:=by omega
   simp [hj,h3]
 . cases h1
def Qe9 (base:Nat) (A D:Option Addr) (ca cd la n s V:Nat):Nat->Value->World->Prop:=fun i v w =>
 match i with
 | 0=>v = .slice A la ca
 | 1=>v = .int .i64 (la:Int)
 | 2=>v = .int .i64 ((la+1:Nat):Int)
 | 3=>∃ g,v = .slice (some ⟨g,0,none⟩) (la+1) (la+1)/\NB w g 63 .u32 (List.replicate (la+1) 0)/\base<=g
 | 4=>v = .slice D n cd
 | 5=>v = .int .u32 (s:Int)
 | 6=>∃ B,v = .slice B 1 1/\Zk w B s
 | 7=>∃ A' c',v = .slice A' (Q4 V) c'/\Zk w A' V
 | _=>True
theorem Qxw {base:Nat} {A D:Option Addr} {ca cd la n s V:Nat}:∀ i v (w w':World),Qe9 base A D ca cd la n s V i v w->Qe w w'->Qe9 base A D ca cd la n s V i v w':=by
 intro i v w w' h hb
 match i,h with
 | 0,h=>exact h
 | 1,h=>exact h
 | 2,h=>exact h
 | 3,⟨g,h1,h2,h3⟩=>exact⟨g,h1,h2.below hb h2.lt,h3⟩
 | 4,h=>exact h
 | 5,h=>exact h
 | 6,⟨B,h1,h2⟩=>exact⟨B,h1,h2.from hb⟩
 | 7,⟨A',c',h1,h2⟩=>exact⟨A',c',h1,h2.from hb⟩
 | _+8,_=>trivial
theorem Z3m (w:World) (args:Array Value):(callFunc 147 args).run Tryz.prog w = .ok (.enter 147 args) w:=by
 go_simp
theorem Qvg {w:World} {s:Nat} (h0:0<s) (h1:s<4294967296):Zk (w.alloc (.cells #[.int .u32 (s:Int)] 63)) (some ⟨w.heap.size,0,none⟩) s:=by
 have hnb:NB (w.alloc (.cells #[.int .u32 (s:Int)] 63)) w.heap.size 63 .u32 [s]:=heap_alloc_new w _;have e:dig B32 s = [s]:=by
  rw [Ve Qn (by omega),Nat.mod_eq_of_lt h1,Nat.div_eq_of_lt h1,Vs Qn]
 unfold Zk;rw [e];exact hnb.rd0
theorem Qxv {P:Program} {t e bytes n:Nat} {k kl kc:IntKind} (w:World) (ht:P.underlying t=some (.slice e)) (hz:(P.info? e).map (fun i=>(i.zero,i.size,i.bytes))=some (some (.int k 0),1,bytes)) (b2:bytes*n<=281474976710656) (b3:n<=maxLen) {a:Act} {o:Oper} (l c:Operand) (ho:o.op = .makeSlice t l c) (hl:a.eval l = .int kl (n:Int)) (hc:a.eval c = .int kc (n:Int)) :
 ∃ w',(execOp a.eval o).run P w = .ok (.value (.slice (some ⟨w.heap.size,0,none⟩) n n)) w'/\NB w' w.heap.size e k (List.replicate n 0)/\Below w.heap.size w w':=by
 obtain⟨i,hi,hz1,hz2,hz3⟩:=info_parts hz;obtain⟨w',hrun,h1,h2⟩:=run_make_full (P:=P) w w.heap.size t e i (.int k 0) 1 ht hi hz1 hz2 kl kc n (by rw [hz3]; exact b2) b3 (Nat.le_refl _);refine⟨w',by simp [execOp,ho,hl,hc,hrun,Result.andThen],?_,(Below.refl _ _).grown h2 (Nat.le_refl _) (by simp)⟩;rcases h1.2 with ⟨h3,_⟩|⟨g,cap,cur,h3,hbg,hg,hnc,_,hsz,htk⟩
 . injection h3 with h3 _ _;cases h3
 . injection h3 with h3 _ h4;injection h3 with h3;injection h3 with h3;subst h3;subst h4;unfold NB;rw [hg];have e1:cur.toList=(List.replicate n 0).map fun (m:Nat)=>Value.int k (m:Int):=by
    rw [Nat.mul_one] at hsz htk;have e2:cur.toList.take n=cur.toList:=List.take_of_length_le (by simp; omega);rw [<- e2,htk];simp [madeCells];apply List.ext_getElem?;intro j;by_cases hj:j<n
    . simp [hj,Value.cells,Nat.mod_one]
    . simp [hj]
   rw [<- e1]
set_option maxHeartbeats 2000000 in
theorem Qyg {id:Nat} {Q:Exit->Act->World->Prop} {a0:Act} {w0:World} {l:List Oper} {A D:Option Addr} {ca cd la n s y:Nat}
 {t0 t1 t2 t3 t4 t5 t6 t7 t8 t9:TypeId} {x0 x1 x2 x3 x4 x5 x6 x7 x8 x9:String} {e0 e1 e2 e3 e4 e5 e6 e7 e8 e9:Array Edge}
 (hl:l = [⟨some 68,.move (.tmp 0),t0,x0,e0,none⟩,⟨some 69,.call { callee := .builtin .len,args := #[.tmp 68],argTypes := #[145] },t1,x1,e1,none⟩,⟨some 70,.binOp .add 3 (.tmp 69) (.const (.int .i64 1)) 3,t2,x2,e2,none⟩,⟨some 71,.makeSlice 145 (.tmp 70) (.tmp 70),t3,x3,e3,none⟩,⟨some 72,.move (.tmp 1),t4,x4,e4,none⟩,⟨some 73,.move (.tmp 9),t5,x5,e5,none⟩,⟨some 74,.buildSlice 145 1 #[(0,.tmp 73)],t6,x6,e6,none⟩,⟨some 75,.call { callee := .value (.func 147),args := #[.tmp 72,.tmp 74],argTypes := #[145,145] },t7,x7,e7,none⟩,⟨some 10,.assign (.tmp 71),t8,x8,e8,none⟩,⟨some 11,.assign (.tmp 75),t9,x9,e9,none⟩])
 (hO:Q3s l 8=true) (hd:Q1l l 8 a0.tmps.size=true)
 (hpre:Z4l l.toArray [(1,[0]),(2,[1]),(3,[2]),(6,[5]),(7,[4,6])]=true)
 (k0:a0.tmps[0]? = some (.slice A la ca)) (k1:a0.tmps[1]? = some (.slice D n cd)) (k9:a0.tmps[9]? = some (.int .u32 (s:Int)))
 (hla:la<=1000) (hn:n=Q4 y) (hy:Q4 y<=1000) (hs0:0<s) (hs:s<4294967296) (hD:Zk w0 D y)
 (hK:∀ (g:Nat) (B A':Option Addr) (c':Nat) (w:World),Qe w0 w->w0.heap.size<=g->NB w g 63 .u32 (List.replicate (la+1) 0)->Zk w A' (y*s) ->
  Q .normal ((((((((((a0.put (some 68) (.slice A la ca)).put (some 69) (.int .i64 (la:Int))).put (some 70) (.int .i64 ((la+1:Nat):Int))).put (some 71) (.slice (some ⟨g,0,none⟩) (la+1) (la+1))).put (some 72) (.slice D n cd)).put (some 73) (.int .u32 (s:Int))).put (some 74) (.slice B 1 1)).put (some 75) (.slice A' (Q4 (y*s)) c')).put (some 10) (.slice (some ⟨g,0,none⟩) (la+1) (la+1))).put (some 11) (.slice A' (Q4 (y*s)) c')) w)
 (hsz:76<a0.tmps.size) :
 (Code.region id l.toArray true).wp Tryz.prog Q a0 w0:=by
 have hlen:l.length=10:=by rw [hl]; rfl
 have hpz:=List.all_eq_true.1 hpre;refine Qmr 8 (Qe9 w0.heap.size A D ca cd la n s (y*s)) Qxw (by kernel_rfl) hO (by omega) hd ?_ ?_
 . intro i o hi ho a w hb hval hold;have ho':l.toArray[i]? = some o:=by simpa using ho
   have hedge:∀ js,(i,js) ∈ [((1:Nat),[(0:Nat)]),(2,[1]),(3,[2]),(6,[5]),(7,[4,6])]->∀ j∈js,(o.after.any fun e=>Region.binds .any e&&e.on==j)=true:=fun js hm j hj=>by
    have h1:=List.all_eq_true.1 (hpz _ hm) j hj;rw [ho'] at h1;simpa using h1
   have hcase:i=0\/i=1\/i=2\/i=3\/i=4\/i=5\/i=6\/i=7:=by omega
   rcases hcase with rfl|rfl|rfl|rfl|rfl|rfl|rfl|rfl
   . rw [hl] at ho;injection ho with ho;subst ho;have b0:=V6 ((hold 0 (by rw [hl]; rfl)).trans k0);exact Q04 ho' rfl (v := .slice A la ca) (by go_simp) ⟨_,rfl,Below.refl _ _,rfl⟩
   . obtain⟨v,hv1,hv2⟩:=hval 0 _ 68 (by omega) (by rw [hl]; rfl) rfl (hedge [0] (by simp) 0 (by simp));simp only [Qe9] at hv2;subst hv2;have b0:=V6 hv1;rw [hl] at ho;injection ho with ho;subst ho;exact Q04 ho' rfl (w':=w) (by go_simp) ⟨_,rfl,Below.refl _ _,rfl⟩
   . obtain⟨v,hv1,hv2⟩:=hval 1 _ 69 (by omega) (by rw [hl]; rfl) rfl (hedge [1] (by simp) 1 (by simp));simp only [Qe9] at hv2;subst hv2;have b0:=V6 hv1;have w1:IntKind.i64.wrap ((la:Int)+1)=((la+1:Nat):Int):=by rw [Qk (by omega) (by omega)]; omega
     rw [hl] at ho;injection ho with ho;subst ho;exact Q04 ho' rfl (w':=w) (by go_simp) ⟨_,rfl,Below.refl _ _,rfl⟩
   . obtain⟨v,hv1,hv2⟩:=hval 2 _ 70 (by omega) (by rw [hl]; rfl) rfl (hedge [2] (by simp) 2 (by simp));simp only [Qe9] at hv2;subst hv2;have b0:=V6 hv1;rw [hl] at ho;injection ho with ho;subst ho;obtain⟨w',hrun,h1,h2⟩:=Qxv (P:=Tryz.prog) (n:=la+1) w Tryz.underlying145 Qgv (by omega) (by unfold maxLen; omega) (a:=a) (o:=⟨some 71,.makeSlice 145 (.tmp 70) (.tmp 70),t3,x3,e3,none⟩) (.tmp 70) (.tmp 70) rfl b0 b0;exact Q04 ho' rfl hrun ⟨_,rfl,h2,w.heap.size,rfl,h1,hb.size⟩
   . rw [hl] at ho;injection ho with ho;subst ho;have b0:=V6 ((hold 1 (by rw [hl]; rfl)).trans k1);exact Q04 ho' rfl (w':=w) (by go_simp) ⟨_,rfl,Below.refl _ _,rfl⟩
   . rw [hl] at ho;injection ho with ho;subst ho;have b0:=V6 ((hold 9 (by rw [hl]; rfl)).trans k9);exact Q04 ho' rfl (w':=w) (by go_simp) ⟨_,rfl,Below.refl _ _,rfl⟩
   . obtain⟨v,hv1,hv2⟩:=hval 5 _ 73 (by omega) (by rw [hl]; rfl) rfl (hedge [5] (by simp) 5 (by simp));simp only [Qe9] at hv2;subst hv2;have b0:=V6 hv1;rw [hl] at ho;injection ho with ho;subst ho;exact Q04 ho' rfl (v := .slice (some ⟨w.heap.size,0,none⟩) 1 1) (w':=w.alloc (.cells #[.int .u32 (s:Int)] 63)) (by go_simp) ⟨_,rfl,(Below.refl _ _).alloc (Nat.le_refl _) _,_,rfl,Qvg hs0 hs⟩
   . obtain⟨v,hv1,hv2⟩:=hval 4 _ 72 (by omega) (by rw [hl]; rfl) rfl (hedge [4,6] (by simp) 4 (by simp));obtain⟨u,hu1,hu2⟩:=hval 6 _ 74 (by omega) (by rw [hl]; rfl) rfl (hedge [4,6] (by simp) 6 (by simp));simp only [Qe9] at hv2 hu2;subst hv2;obtain⟨B,rfl,hrdB⟩:=hu2;rw [hl] at ho;injection ho with ho;subst ho;have hls:1=Q4 s:=by
      show 1=(dig B32 s).length
      rw [Ve Qn (by omega),Nat.mod_eq_of_lt hs,Nat.div_eq_of_lt hs,Vs Qn];rfl
     refine Z07 ho' rfl rfl (args := #[.slice D n cd,.slice B 1 1]) (by simp [V6 hv1,V6 hu1]) (Z3m _ _) ((Ql1 D B cd 1 y s n 1 hn hls w (hD.from hb) hrdB hy (by omega)).mono ?_)
     rintro e w' ⟨A',c',rfl,hrd,hc,hbb⟩
     exact⟨_,rfl,_,rfl,hbb,A',c',rfl,hrd⟩
 . intro val w hb hrows;have v0:val 0=_:=hrows 0 (by omega);have v1:val 1=_:=hrows 1 (by omega);have v2:val 2=_:=hrows 2 (by omega);have v4:val 4=_:=hrows 4 (by omega);have v5:val 5=_:=hrows 5 (by omega);obtain⟨g,v3,hnb,hg⟩:=hrows 3 (by omega);obtain⟨B,v6,hrdB⟩:=hrows 6 (by omega);obtain⟨A',c',v7,hrd⟩:=hrows 7 (by omega);have hF:=hK g B A' c' w hb hg hnb hrd;subst hl;simp only [List.drop_succ_cons,List.drop_zero,List.take_succ_cons,List.take_zero,Kn,Nat.zero_add,Nat.reduceAdd,v0,v1,v2,v3,v4,v5,v6,v7];generalize hA:((((((((a0.put (some 68) (.slice A la ca)).put (some 69) (.int .i64 (la:Int))).put (some 70) (.int .i64 ((la+1:Nat):Int))).put (some 71) (.slice (some ⟨g,0,none⟩) (la+1) (la+1))).put (some 72) (.slice D n cd)).put (some 73) (.int .u32 (s:Int))).put (some 74) (.slice B 1 1)).put (some 75) (.slice A' (Q4 (y*s)) c'))=aF at hF ⊢;have f71:aF.tmps[71]? = some (.slice (some ⟨g,0,none⟩) (la+1) (la+1)):=by
    rw [<- hA];simp [Act.put,Array.getElem?_setIfInBounds];omega
   have f75:(aF.put (some 10) (.slice (some ⟨g,0,none⟩) (la+1) (la+1))).tmps[75]? = some (.slice A' (Q4 (y*s)) c'):=by
    rw [<- hA];simp [Act.put,Array.getElem?_setIfInBounds];omega
   have g71:=V6 f71;have g75:=V6 f75;refine wpList_plain rfl fun K hK1 => ?_;unfold Oper.wp;simp only [execOp,g71,Sem.run_pure];refine hK1 _ _ (wpList_plain rfl fun K2 hK2 => ?_);unfold Oper.wp;simp only [execOp,g75,Sem.run_pure];exact hK2 _ _ (wpList_nil hF)
end Go.Proofs.YtffeegebohigdaaGreat
