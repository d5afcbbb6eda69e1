/-
  The reference of the chapter 7: columns and covers.
-/
import Derived.Test.YthfpdbjemfhieaaGreatMt18
set_option linter.unusedVariables false
set_option linter.unusedSimpArgs false
namespace Go.Proofs.YthfpdbjemfhieaaGreat
open Go.RowKit
def inB (n a b:Int):Bool:=decide (a<=n)&&decide (n<=b)
def conRWithin:Con:=con3 255 kI kI kI (fun _ _ _=>True) (fun n a b => .bool fun _=>inB (n ()) (a ()) (b ()))
set_option maxRecDepth 100000 in
set_option maxHeartbeats 4000000 in
theorem conRWithin_ok:ConOk Tryz.prog conRWithin:=by
 refine fnOk [] trivial Tryz.func255 (by kernel_rfl) fun avs res h hp => ?_;obtain⟨(n:Int),(a:Int),(b:Int),rfl,rfl⟩:=gop3 h;clear h;refine⟨[],?_⟩
 conv=>arg 1; cbv
 simp (maxSteps:=4000000) only [fms,true_and,and_true,eq_self];exact⟨fun h=>by unfold inB; rw [decide_eq_true h]; rfl,fun h=>by unfold inB; rw [decide_eq_false h]; rfl⟩
def conRInside:Con:=con2 257 kInts kI (fun l _=>(l ()).length<=1000000000000) (fun l x => .bool fun _=>(l ()).any fun y=>decide (y=x ()))
set_option maxRecDepth 100000 in
set_option maxHeartbeats 4000000 in
theorem conRInside_ok:ConOk Tryz.prog conRInside:=by
 refine fnOk [] trivial Tryz.func257 (by kernel_rfl) fun avs res h hp => ?_;obtain⟨(l:List Int),(x:Int),rfl,rfl⟩:=gop2 h;clear h;have hl:l.length<=1000000000000:=hp;refine⟨[(2,lpUp 5 l fun j=>¬ l.getD j Tc.int.dflt=x)],?_⟩
 conv=>arg 1; cbv
 refine⟨?_,fun (k:Nat) hk => ?_⟩
 . simp (maxSteps:=4000000) only [fms];simp
 have hZhk1:k<=l.length/\∀ j,j<k->¬ l.getD j Tc.int.dflt=x:=hk;have hk1:=hZhk1.1;have hk2:=hZhk1.2
 conv=>arg 1; cbv
 simp (maxSteps:=4000000) only [fms,true_and,and_true,eq_self];refine⟨fun g => ?_,fun g=>(any_no (p:=fun y=>decide (y=x)) (fun j hj=>by simpa using hk2 j hj) (by omega)).symm⟩;have hlt:k<l.length:=by omega
 exact⟨⟨by omega,by omega⟩,fun c=>(any_at (p:=fun y=>decide (y=x)) (d:=Tc.int.dflt) hlt (decide_eq_true c)).symm,fun c=>up_next hl hlt hk2 c⟩
def conRColumn:Con:=con1 256 kCol (fun c=>(c ()).plugs.length<=1000000000000/\inI64 (c ()).tiers) (fun c => .bool fun _=>colB (c ()))
set_option maxRecDepth 100000 in
set_option maxHeartbeats 4000000 in
theorem conRColumn_ok:ConOk Tryz.prog conRColumn:=by
 refine fnOk [conRWithin] ⟨conRWithin_ok,trivial⟩ Tryz.func256 (by kernel_rfl) fun avs res h hp => ?_;obtain⟨(c:Col),rfl,rfl⟩:=gop1 h;clear h;have hZhl:c.plugs.length<=1000000000000/\inI64 c.tiers:=hp;have hl:=hZhl.1;have ht:=hZhl.2;refine⟨[(2,lpUp 3 c.plugs fun j=>riseB (c.tiers - 1) c.plugs j=true)],?_⟩
 conv=>arg 1; cbv
 refine⟨?_,fun (k:Nat) hk => ?_⟩
 . simp (maxSteps:=4000000) only [fms];simp
 have hZhk1:k<=c.plugs.length/\∀ j,j<k->riseB (c.tiers - 1) c.plugs j=true:=hk;have hk1:=hZhk1.1;have hk2:=hZhk1.2
 conv=>arg 1; cbv
 simp (maxSteps:=4000000) only [fms,true_and,and_true,eq_self];refine⟨fun g => ?_,fun g => ?_⟩
 . have hlt:k<c.plugs.length:=by omega
   have hN:=fun h=>up_next (P:=fun j=>riseB (c.tiers - 1) c.plugs j=true) hl hlt hk2 h;have hbad:riseB (c.tiers - 1) c.plugs k=false->false=colB c:=fun h=>by unfold colB; rw [rises_bad hlt h]; rfl
   have e:∀ b1 b2 b3,decide (0<=c.plugs.getD k 0)=b1->decide (c.plugs.getD k 0<=c.tiers - 1)=b2->(decide (k=0)||decide (c.plugs.getD (k - 1) 0<c.plugs.getD k 0))=b3->riseB (c.tiers - 1) c.plugs k=((b1&&b2)&&b3):=fun b1 b2 b3 h1 h2 h3=>by unfold riseB; rw [h1,h2,h3]
   refine⟨⟨by omega,by omega⟩,fun a=>hbad ?_,fun a=>⟨⟨by omega,by omega⟩,fun b=>hbad ?_,fun b=>⟨fun z=>⟨by simp only [inI64]; omega,⟨by omega,by omega⟩,⟨by omega,by omega⟩,fun d=>hbad ?_,fun d=>hN ?_⟩,fun z=>hN ?_⟩⟩⟩
   . have a:c.plugs.getD k 0<0:=a;rw [e _ _ _ (decide_eq_false (by omega)) rfl rfl]; rfl
   all_goals have a:¬ c.plugs.getD k 0<0:=a
   . have b:c.tiers<=c.plugs.getD k 0:=b;rw [e _ _ _ rfl (decide_eq_false (by omega)) rfl,Bool.and_false]; rfl
   all_goals have b:¬ c.tiers<=c.plugs.getD k 0:=b
   . have d:c.plugs.getD k 0<=c.plugs.getD (k - 1) 0:=d;rw [e _ _ false rfl rfl (by rw [decide_eq_false (by omega),decide_eq_false (by omega)]; rfl),Bool.and_false]
   . have d:¬ c.plugs.getD k 0<=c.plugs.getD (k - 1) 0:=d;rw [e _ _ true (decide_eq_true (by omega)) (decide_eq_true (by omega)) (by rw [decide_eq_true (show c.plugs.getD (k - 1) 0<c.plugs.getD k 0 by omega),Bool.or_true])]; rfl
   . rw [e _ _ true (decide_eq_true (by omega)) (decide_eq_true (by omega)) (by rw [decide_eq_true (show k=0 by omega)]; rfl)]; rfl
 . have hr:=rises_end (t:=c.tiers - 1) (l:=c.plugs) (k:=k) (by omega) hk2;have e:colB c=(inB c.bay 0 39&&(inB c.row 0 30&&(inB c.tiers 1 10&&(inB c.height 0 40000&&(inB c.k20 0 500000000&&(inB c.k40 0 500000000&&(inB c.lash 0 1000000000000&&(inB c.x (-500000) 500000&&(inB c.y (-500000) 500000&&inB c.z (-500000) 500000))))))))):=by
    unfold colB;rw [hr];simp only [colSpans,List.all_cons,List.all_nil,Bool.and_true,Bool.true_and,spnB,inB]
   rw [e];generalize inB c.bay 0 39=b1;generalize inB c.row 0 30=b2;generalize inB c.tiers 1 10=b3;generalize inB c.height 0 40000=b4;generalize inB c.k20 0 500000000=b5;generalize inB c.k40 0 500000000=b6;generalize inB c.lash 0 1000000000000=b7;generalize inB c.x (-500000) 500000=b8;generalize inB c.y (-500000) 500000=b9;generalize inB c.z (-500000) 500000=b10;simp +contextual
def colApart (cs:List Col) (i k:Nat):Prop:=¬ ((cs.getD k Tc.col.dflt).bay=(cs.getD i Tc.col.dflt).bay/\(cs.getD k Tc.col.dflt).row=(cs.getD i Tc.col.dflt).row/\(cs.getD k Tc.col.dflt).deck=(cs.getD i Tc.col.dflt).deck)
def colGood (cs:List Col) (i:Nat):Prop:=colB (cs.getD i Tc.col.dflt)=true/\∀ k,k<i->colApart cs i k
def covApart (cs:List Cov) (i j k:Nat):Prop:=¬ ((cs.getD k Tc.cov.dflt).bay=(cs.getD i Tc.cov.dflt).bay/\(cs.getD k Tc.cov.dflt).rows.any (fun y=>decide (y=(cs.getD i Tc.cov.dflt).rows.getD j Tc.int.dflt))=true)
def rowGood (cs:List Cov) (i j:Nat):Prop:=riseB 30 (cs.getD i Tc.cov.dflt).rows j=true/\∀ k,k<i->covApart cs i j k
def covGood (cs:List Cov) (i:Nat):Prop:=((0<=(cs.getD i Tc.cov.dflt).bay/\(cs.getD i Tc.cov.dflt).bay<=39)/\¬ (cs.getD i Tc.cov.dflt).rows.length=0)/\∀ j,j<(cs.getD i Tc.cov.dflt).rows.length->rowGood cs i j
theorem colKey_eq {a b:Col}:colKey a=colKey b↔a.bay=b.bay/\a.row=b.row/\a.deck=b.deck:=by
 unfold colKey;cases a.deck<;>cases b.deck<;>simp
theorem getD_at {α:Type} {l:List α} {i:Nat} (d : α) (h:i<l.length):l.getD i d=l[i]:=by rw [List.getD_eq_getElem?_getD,List.getElem?_eq_getElem h]; rfl
theorem cols_nodup (cs:List Col):(cs.map colKey).Nodup↔∀ i,i<cs.length->∀ k,k<i->colApart cs i k:=by
 unfold List.Nodup;rw [List.pairwise_map,List.pairwise_iff_getElem];constructor
 . intro h i hi k hk hq;rw [getD_at _ hi,getD_at _ (show k<cs.length by omega)] at hq;exact h k i (by omega) hi hk (colKey_eq.2 hq)
 . intro h i j hi hj hij hq;refine h j hj i hij ?_;rw [getD_at _ hi,getD_at _ hj];exact colKey_eq.1 hq
theorem rises_lt {t:Int} {l:List Int} (h:risesB t l=true):∀ j,j<l.length->∀ i,i<j->l.getD i 0<l.getD j 0:=by
 unfold risesB at h;rw [decide_eq_true_eq] at h;intro j
 induction j with
 | zero=>intro _ i hi; omega
 | succ j ih =>
  intro hj i hi;have h1:=h (j+1) hj;unfold riseB at h1;simp only [Bool.and_eq_true,Bool.or_eq_true,decide_eq_true_eq,Nat.add_sub_cancel] at h1;have h2:l.getD j 0<l.getD (j+1) 0:=h1.2.resolve_left (by omega);rcases Nat.lt_or_ge i j with h3|h3
  . have:=ih (by omega) i h3;omega
  . rw [show i=j by omega]; exact h2
theorem covKey_mem {x:Cov} {y:List Kx}:y∈covKeys x↔∃ r∈x.rows,y = [.i .i64 x.bay,.i .i64 r,.i .i64 2]:=by
 unfold covKeys;rw [List.mem_map];exact⟨fun ⟨r,h,e⟩=>⟨r,h,e.symm⟩,fun ⟨r,h,e⟩=>⟨r,h,e.symm⟩⟩
theorem cov_nodup {x:Cov} (h:risesB 30 x.rows=true):(covKeys x).Nodup:=by
 unfold covKeys List.Nodup;rw [List.pairwise_map,List.pairwise_iff_getElem];intro i j hi hj hij hq;have:=rises_lt h j hj i hij;rw [getD_at _ hi,getD_at _ hj] at this;simp only [List.cons.injEq,Kx.i.injEq,and_true,true_and] at hq;omega
theorem covs_nodup {cs:List Cov} (h:∀ x∈cs,risesB 30 x.rows=true):(cs.flatMap covKeys).Nodup↔∀ i,i<cs.length->∀ j,j<(cs.getD i Tc.cov.dflt).rows.length->∀ k,k<i->covApart cs i j k:=by
 unfold List.Nodup;rw [List.pairwise_flatMap,List.pairwise_iff_getElem];constructor
 . intro ⟨_,h2⟩ i hi j hj k hk ⟨h3,h4⟩;rw [List.any_eq_true] at h4;obtain⟨r,h5,h6⟩:=h4;have h6:=of_decide_eq_true h6;rw [getD_at _ hi] at hj h6 h3;rw [getD_at _ (show k<cs.length by omega)] at h3 h5;refine h2 k i (by omega) hi hk _ (covKey_mem.2 ⟨r,h5,rfl⟩) _ (covKey_mem.2 ⟨r,by rw [h6]; exact getD_mem _ hj,rfl⟩) ?_;rw [h3]
 . intro h2;refine⟨fun x hx=>cov_nodup (h x hx),fun k i hk hi hki a ha b hb hab => ?_⟩;obtain⟨r,h3,rfl⟩:=covKey_mem.1 ha;obtain⟨r',h4,rfl⟩:=covKey_mem.1 hb;simp only [List.cons.injEq,Kx.i.injEq,and_true,true_and] at hab;obtain⟨h5,rfl⟩:=hab;obtain⟨j,hj,h6⟩:=List.mem_iff_getElem.1 h4;refine h2 i hi j (by rw [getD_at _ hi]; exact hj) k hki ⟨by rw [getD_at _ hi,getD_at _ hk]; exact h5,?_⟩;rw [List.any_eq_true];refine⟨r,by rw [getD_at _ hk]; exact h3,?_⟩;rw [decide_eq_true_eq,getD_at _ hi,getD_at _ hj];exact h6.symm
theorem keys_apart (cs:List Col) (vs:List Cov):∀ a∈cs.map colKey,∀ b∈vs.flatMap covKeys,a≠b:=by
 intro a ha b hb hab;obtain⟨c,_,rfl⟩:=List.mem_map.1 ha;obtain⟨v,_,hv⟩:=List.mem_flatMap.1 hb;obtain⟨r,_,rfl⟩:=covKey_mem.1 hv;unfold colKey at hab;cases hd:c.deck<;>rw [hd] at hab<;>simp at hab
theorem all_getD {α:Type} {p : α->Bool} {l:List α} (d : α):l.all p=true↔∀ i,i<l.length->p (l.getD i d)=true:=by
 rw [List.all_eq_true];constructor
 . exact fun h i hi=>h _ (getD_mem d hi)
 . intro h x hx;obtain⟨j,hj,rfl⟩:=List.mem_iff_getElem.1 hx;have:=h j hj;rwa [getD_at d hj] at this
theorem ship_iff (s:Shp):shipB s=true↔((1<=s.cols.length/\s.cols.length<=200)/\s.covs.length<=40)/\(∀ i,i<s.cols.length->colGood s.cols i)/\∀ i,i<s.covs.length->covGood s.covs i:=by
 unfold shipB shipKeys;simp only [Bool.and_eq_true,decide_eq_true_eq,List.nodup_append];rw [all_getD Tc.col.dflt,all_getD Tc.cov.dflt,cols_nodup];constructor
 . rintro⟨⟨h1,h2,h3⟩,h4,h5,h6,h7,_⟩
   have hr:∀ x∈s.covs,risesB 30 x.rows=true:=fun x hx=>by
    have:=(all_getD (p:=covB) Tc.cov.dflt).2 h5;rw [List.all_eq_true] at this;have:=this x hx;unfold covB at this;simp only [Bool.and_eq_true] at this;exact this.2.2
   rw [covs_nodup hr] at h7;refine⟨⟨⟨h1,h2⟩,h3⟩,fun i hi=>⟨h4 i hi,h6 i hi⟩,fun i hi => ?_⟩;have h8:=h5 i hi;unfold covB at h8;simp only [Bool.and_eq_true,Bool.not_eq_true',decide_eq_true_eq,decide_eq_false_iff_not] at h8;refine⟨⟨⟨h8.1.1,by omega⟩,h8.2.1⟩,fun j hj=>⟨?_,h7 i hi j hj⟩⟩;have:=h8.2.2;unfold risesB at this;exact of_decide_eq_true this j hj
 . rintro⟨⟨⟨h1,h2⟩,h3⟩,h4,h5⟩
   have h6:∀ i,i<s.covs.length->covB (s.covs.getD i Tc.cov.dflt)=true:=fun i hi=>by
    obtain⟨⟨⟨h7,h8⟩,h9⟩,h10⟩:=h5 i hi;unfold covB risesB;simp only [Bool.and_eq_true,Bool.not_eq_true',decide_eq_true_eq,decide_eq_false_iff_not];exact⟨⟨h7,by omega⟩,h9,fun j hj=>(h10 j hj).1⟩
   refine⟨⟨h1,h2,h3⟩,fun i hi=>(h4 i hi).1,h6,fun i hi=>(h4 i hi).2,?_,keys_apart _ _⟩;refine (covs_nodup fun x hx => ?_).2 fun i hi j hj=>((h5 i hi).2 j hj).2;have:=(all_getD (p:=covB) Tc.cov.dflt).2 h6;rw [List.all_eq_true] at this;have:=this x hx;unfold covB at this;simp only [Bool.and_eq_true] at this;exact this.2.2
def stowAt (cs:List Col) (bs:List Box) (l:List Stowed) (k:Nat):Bool :=
 ((findV bs (l.getD k Tc.stowed.dflt).box).2&&(decide (k=0)||decide ((l.getD (k - 1) Tc.stowed.dflt).box<(l.getD k Tc.stowed.dflt).box))) &&
 ((slotOk cs (slotOf (l.getD k Tc.stowed.dflt)) (findV bs (l.getD k Tc.stowed.dflt).box).1.size&&heldB (slotOf (l.getD k Tc.stowed.dflt)) (l.map slotOf)) &&
 decide (∀ j,j<k->meetB (slotOf (l.getD k Tc.stowed.dflt)) ((l.map slotOf).getD j Tc.slot.dflt)=false))
def stowB (s:Shp) (bs:List Box) (l:List Stowed):Bool :=
 shipB s&&(decide (∀ k,k<l.length->stowAt s.cols bs l k=true)&&decide (∀ c,c<s.cols.length->fitsB s.cols bs l (c:Int)=true))
theorem stow_bad {s:Shp} {bs:List Box} {l:List Stowed} {k:Nat} (hk:k<l.length) (h:stowAt s.cols bs l k=false):stowB s bs l=false:=by
 unfold stowB;have:decide (∀ k,k<l.length->stowAt s.cols bs l k=true)=false:=by
  rw [decide_eq_false_iff_not];intro h2;rw [h2 k hk] at h;cases h
 rw [this];simp
theorem tier_small {s:Shp} {x:Slot} {z:Int} (h:shipB s=true) (hx:slotOk s.cols x z=true):x.tier<=1000000:=by
 unfold slotOk at hx;simp only [Bool.and_eq_true,decide_eq_true_eq] at hx;obtain⟨h1,h2,h3,h4,h5⟩:=hx;unfold shipB at h;simp only [Bool.and_eq_true] at h;have h6:=List.all_eq_true.1 h.2.1 _ (getD_mem Tc.col.dflt (show x.col.toNat<s.cols.length by omega));generalize s.cols.getD x.col.toNat Tc.col.dflt=c at *
 unfold colB at h6;simp only [Bool.and_eq_true] at h6;have h7:=List.all_eq_true.1 h6.2 ⟨c.tiers,1,10⟩ (by simp [colSpans]);unfold spnB at h7;simp only [Bool.and_eq_true,decide_eq_true_eq] at h7;omega
def shipPre (s:Shp):Prop:=(∀ c∈s.cols,c.plugs.length<=1000000000000/\inI64 c.tiers)/\∀ x∈s.covs,x.rows.length<=1000000000000
def conStowRight:Con:=con3 131 kShip kBoxes kStos (fun s bs l=>shipPre (s ())/\(bs ()).length<=1000000000000/\(l ()).length<=1000000) (fun s bs l => .bool fun _=>stowB (s ()) (bs ()) (l ()))
def lpStow (s:Shp) (bs:List Box) (l:List Stowed):Lp where
 X:=Nat
 ov k := [(22,.int .i64 fun _=>(k:Int))]
 oe _ := []
 I k:=k<=l.length/\∀ j,j<k->stowAt s.cols bs l j=true
 μ k _:=l.length - k
 x0:=0
 nx:=some fun k=>k+1
def lpMeet (x:Slot) (all:List Slot) (k:Nat):Lp where
 X:=Nat
 ov j := [(71,.int .i64 fun _=>(j:Int))]
 oe _ := []
 I j:=j<=k/\∀ i,i<j->meetB x (all.getD i Tc.slot.dflt)=false
 μ j _:=k - j
 x0:=0
 nx:=some fun k=>k+1
def lpFits (s:Shp) (bs:List Box) (l:List Stowed):Lp where
 X:=Nat
 ov k := [(84,.int .i64 fun _=>(k:Int))]
 oe _ := []
 I k:=k<=s.cols.length/\∀ j,j<k->fitsB s.cols bs l (j:Int)=true
 μ k _:=s.cols.length - k
 x0:=0
 nx:=some fun k=>k+1
set_option maxRecDepth 100000 in
set_option maxHeartbeats 4000000 in
theorem conStowRight_ok:ConOk Tryz.prog conStowRight:=by
 refine fnOk [conShipRight,conTaken,conStowFind,conSlotRight,conHeld,conMeet,conFits] ⟨conShipRight_ok,conTaken_ok,conStowFind_ok,conSlotRight_ok,conHeld_ok,conMeet_ok,conFits_ok,trivial⟩ Tryz.func131 (by kernel_rfl) fun avs res h hp => ?_;obtain⟨(s:Shp),(bs:List Box),(l:List Stowed),rfl,rfl⟩:=gop3 h;clear h;have hZhps:shipPre s/\bs.length<=1000000000000/\l.length<=1000000:=hp;have hps:=hZhps.1;have hbs:=hZhps.2.1;have hl:=hZhps.2.2;refine⟨[(5,lpStow s bs l),(18,lpFits s bs l)],?_⟩
 conv=>arg 1; cbv
 refine⟨hps,fun g1 => ?_,fun g1=>⟨hl,⟨?_,fun (k:Nat) hk => ?_⟩⟩⟩
 . simp (maxSteps:=4000000) only [fms];unfold stowB;simp only [Bool.not_eq_true'] at g1;have g1':shipB s=false:=g1;rw [g1'];rfl
 . simp (maxSteps:=4000000) only [fms];simp
 have hsB:shipB s=true:=by
  have g1':(!shipB s)=false:=g1;simpa using g1'
 have hZhk1:k<=l.length/\∀ j,j<k->stowAt s.cols bs l j=true:=hk;have hk1:=hZhk1.1;have hk2:=hZhk1.2
 conv=>arg 1; cbv
 refine⟨fun g2 => ?_,fun g2 => ?_⟩
 . have hlt:k<l.length:=by simp only [decide_eq_true_eq,castK] at g2; omega
   refine nameIt (l.getD k Tc.stowed.dflt) fun x hx => ?_;refine nameIt (l.getD (k - 1) Tc.stowed.dflt) fun y hy => ?_;have hAt:stowAt s.cols bs l k=(((findV bs x.box).2&&(decide (k=0)||decide (y.box<x.box)))&&((slotOk s.cols (slotOf x) (findV bs x.box).1.size&&heldB (slotOf x) (l.map slotOf))&&decide (∀ j,j<k->meetB (slotOf x) ((l.map slotOf).getD j Tc.slot.dflt)=false))):=by rw [<- hx,<- hy]; rfl
   have hbad:=stow_bad (s:=s) (bs:=bs) hlt;have hgood:=upto_more (k:=k) hk2;refine⟨⟨Int.natCast_nonneg k,of_decide_eq_true g2⟩,hbs,fun g3 => ?_,fun g3=>⟨fun g4=>⟨⟨by simp only [castK]; omega,by simp only [castK]; omega⟩,⟨by simp only [decide_eq_true_eq,castK] at g4 ⊢; omega,by simp only [castK]; omega⟩,fun g5 => ?_,fun g5 => ?_⟩,fun g4 => ?_⟩⟩
   . simp (maxSteps:=4000000) only [fms];refine (hbad ?_).symm;have g3':(!(findV bs (l.getD k Tc.stowed.dflt).box).2)=true:=g3;rw [hAt,<- hx];grind
   . simp (maxSteps:=4000000) only [fms];refine (hbad ?_).symm;have g3':(!(findV bs (l.getD k Tc.stowed.dflt).box).2)=false:=g3;have g4':decide (0<(k:Int))=true:=g4;have g5':decide ((l.getD k Tc.stowed.dflt).box<=(l.getD ((k:Int) - 1).toNat Tc.stowed.dflt).box)=true:=g5;rw [predK,hx,hy] at g5';rw [hAt];grind
   . have ho:(decide (k=0)||decide (y.box<x.box))=true:=by
      have g5':decide ((l.getD k Tc.stowed.dflt).box<=(l.getD ((k:Int) - 1).toNat Tc.stowed.dflt).box)=false:=g5;rw [predK,hx,hy] at g5';grind
     refine⟨trivial,fun g6 => ?_,fun g6 => ?_⟩
     . simp (maxSteps:=4000000) only [fms];refine (hbad ?_).symm;have g6':(!slotOk s.cols (slotOf (l.getD k Tc.stowed.dflt)) (findV bs (l.getD k Tc.stowed.dflt).box).1.size)=true:=g6;rw [hAt,<- hx];grind
     have g6':(!slotOk s.cols (slotOf (l.getD k Tc.stowed.dflt)) (findV bs (l.getD k Tc.stowed.dflt).box).1.size)=false:=g6;rw [hx,Bool.not_eq_false'] at g6';refine⟨⟨by simp; omega,?_⟩,fun g7 => ?_,fun g7 => ?_⟩
     . have:=tier_small hsB g6';rw [<- hx] at this;exact this
     . simp (maxSteps:=4000000) only [fms];refine (hbad ?_).symm;have g7':(!heldB (slotOf (l.getD k Tc.stowed.dflt)) (l.map slotOf))=true:=g7;rw [hAt,<- hx];grind
     have g7':(!heldB (slotOf (l.getD k Tc.stowed.dflt)) (l.map slotOf))=false:=g7;rw [hx,Bool.not_eq_false'] at g7';have g3':(!(findV bs (l.getD k Tc.stowed.dflt).box).2)=false:=g3;rw [hx,Bool.not_eq_false'] at g3';refine nameIt (l.map slotOf) fun all hall => ?_;have hlen:all.length=l.length:=by rw [<- hall]; simp
     refine⟨⟨Int.natCast_nonneg k,by simp only [castK,List.length_map]; omega⟩,?_⟩;refine nameIt (slotOf x) fun z hz => ?_;refine⟨lpMeet z all k,?_⟩
     conv=>arg 1; cbv
     refine⟨?_,fun (j:Nat) hj => ?_⟩
     . simp (maxSteps:=4000000) only [fms];simp
     have hZhj1:j<=k/\∀ i,i<j->meetB z (all.getD i Tc.slot.dflt)=false:=hj;have hj1:=hZhj1.1;have hj2:=hZhj1.2
     conv=>arg 1; cbv
     simp (maxSteps:=4000000) only [fms];have e1:∀ u:Slot,(⟨u.col,u.tier,u.half⟩:Slot)=u:=fun _=>rfl;have e2:(⟨(l.getD k Tc.stowed.dflt).col,(l.getD k Tc.stowed.dflt).tier,(l.getD k Tc.stowed.dflt).half⟩:Slot)=z:=by rw [hx,<- hz]; rfl
     simp only [hall,e1,e2];refine⟨fun g8 => ?_,fun g8 => ?_⟩
     . have h8:j<k:=by omega
       refine⟨⟨by omega,by omega⟩,trivial,fun g9=>(hbad ?_).symm,fun g9=>⟨⟨by omega,by omega⟩,⟨⟨h8,upto_more hj2 g9⟩,by omega⟩,by omega⟩⟩;have hd:decide (∀ j,j<k->meetB z (all.getD j Tc.slot.dflt)=false)=false:=by
        rw [decide_eq_false_iff_not];intro h;rw [h j h8] at g9;cases g9
       rw [hAt,hz,hall,hd];simp
     . have hd:decide (∀ j,j<k->meetB z (all.getD j Tc.slot.dflt)=false)=true:=by
        rw [decide_eq_true_eq];exact fun i hi=>hj2 i (by omega)
       refine⟨⟨by omega,by omega⟩,⟨⟨hlt,hgood ?_⟩,by omega⟩,by omega⟩;rw [hAt,g3',ho,g6',g7',hz,hall,hd];rfl
   . have ho:(decide (k=0)||decide (y.box<x.box))=true:=by
      have g4':decide (0<(k:Int))=false:=g4;grind
     refine⟨trivial,fun g6 => ?_,fun g6 => ?_⟩
     . simp (maxSteps:=4000000) only [fms];refine (hbad ?_).symm;have g6':(!slotOk s.cols (slotOf (l.getD k Tc.stowed.dflt)) (findV bs (l.getD k Tc.stowed.dflt).box).1.size)=true:=g6;rw [hAt,<- hx];grind
     have g6':(!slotOk s.cols (slotOf (l.getD k Tc.stowed.dflt)) (findV bs (l.getD k Tc.stowed.dflt).box).1.size)=false:=g6;rw [hx,Bool.not_eq_false'] at g6';refine⟨⟨by simp; omega,?_⟩,fun g7 => ?_,fun g7 => ?_⟩
     . have:=tier_small hsB g6';rw [<- hx] at this;exact this
     . simp (maxSteps:=4000000) only [fms];refine (hbad ?_).symm;have g7':(!heldB (slotOf (l.getD k Tc.stowed.dflt)) (l.map slotOf))=true:=g7;rw [hAt,<- hx];grind
     have g7':(!heldB (slotOf (l.getD k Tc.stowed.dflt)) (l.map slotOf))=false:=g7;rw [hx,Bool.not_eq_false'] at g7';have g3':(!(findV bs (l.getD k Tc.stowed.dflt).box).2)=false:=g3;rw [hx,Bool.not_eq_false'] at g3';refine nameIt (l.map slotOf) fun all hall => ?_;have hlen:all.length=l.length:=by rw [<- hall]; simp
     refine⟨⟨Int.natCast_nonneg k,by simp only [castK,List.length_map]; omega⟩,?_⟩;refine nameIt (slotOf x) fun z hz => ?_;refine⟨lpMeet z all k,?_⟩
     conv=>arg 1; cbv
     refine⟨?_,fun (j:Nat) hj => ?_⟩
     . simp (maxSteps:=4000000) only [fms];simp
     have hZhj1:j<=k/\∀ i,i<j->meetB z (all.getD i Tc.slot.dflt)=false:=hj;have hj1:=hZhj1.1;have hj2:=hZhj1.2
     conv=>arg 1; cbv
     simp (maxSteps:=4000000) only [fms];have e1:∀ u:Slot,(⟨u.col,u.tier,u.half⟩:Slot)=u:=fun _=>rfl;have e2:(⟨(l.getD k Tc.stowed.dflt).col,(l.getD k Tc.stowed.dflt).tier,(l.getD k Tc.stowed.dflt).half⟩:Slot)=z:=by rw [hx,<- hz]; rfl
     simp only [hall,e1,e2];refine⟨fun g8 => ?_,fun g8 => ?_⟩
     . have h8:j<k:=by omega
       refine⟨⟨by omega,by omega⟩,trivial,fun g9=>(hbad ?_).symm,fun g9=>⟨⟨by omega,by omega⟩,⟨⟨h8,upto_more hj2 g9⟩,by omega⟩,by omega⟩⟩;have hd:decide (∀ j,j<k->meetB z (all.getD j Tc.slot.dflt)=false)=false:=by
        rw [decide_eq_false_iff_not];intro h;rw [h j h8] at g9;cases g9
       rw [hAt,hz,hall,hd];simp
     . have hd:decide (∀ j,j<k->meetB z (all.getD j Tc.slot.dflt)=false)=true:=by
        rw [decide_eq_true_eq];exact fun i hi=>hj2 i (by omega)
       refine⟨⟨by omega,by omega⟩,⟨⟨hlt,hgood ?_⟩,by omega⟩,by omega⟩;rw [hAt,g3',ho,g6',g7',hz,hall,hd];rfl
 . have hkk:l.length<=k:=by simp only [decide_eq_false_iff_not,castK] at g2; omega
   refine⟨?_,fun (c:Nat) hc => ?_⟩
   . simp (maxSteps:=4000000) only [fms];simp
   have hZhc1:c<=s.cols.length/\∀ j,j<c->fitsB s.cols bs l (j:Int)=true:=hc;have hc1:=hZhc1.1;have hc2:=hZhc1.2
   conv=>arg 1; cbv
   simp (maxSteps:=4000000) only [fms];have hlen:s.cols.length<=200:=by
    unfold shipB at hsB;simp only [Bool.and_eq_true,decide_eq_true_eq] at hsB;exact hsB.1.2.1
   refine⟨fun g3 => ?_,fun g3 => ?_⟩
   . have h3:c<s.cols.length:=by omega
     refine⟨⟨hbs,hl,by omega,g3⟩,fun g4 => ?_,fun g4=>⟨⟨by omega,by omega⟩,⟨⟨h3,upto_more hc2 (by simpa using g4)⟩,by omega⟩,by omega⟩⟩;unfold stowB;have:decide (∀ c,c<s.cols.length->fitsB s.cols bs l (c:Int)=true)=false:=by
      rw [decide_eq_false_iff_not];intro h;rw [h c h3] at g4;cases g4
     rw [this];simp
   . unfold stowB;have e1:decide (∀ k,k<l.length->stowAt s.cols bs l k=true)=true:=by
      rw [decide_eq_true_eq];exact fun i hi=>hk2 i (by omega)
     have e2:decide (∀ c,c<s.cols.length->fitsB s.cols bs l (c:Int)=true)=true:=by
      rw [decide_eq_true_eq];exact fun i hi=>hc2 i (by omega)
     rw [hsB,e1,e2];rfl
def lpBelow (s i:Nat) (P:Nat->Prop):Lp where
 X:=Nat
 ov k := [(s,.int .i64 fun _=>(k:Int))]
 oe _ := []
 I k:=k<=i/\∀ j,j<k->P j
 μ k _:=i - k
 x0:=0
 nx:=some fun k=>k+1
def lpRRows (vs:List Cov) (i:Nat):Lp where
 X:=Nat
 ov k := [(7,.int .i64 fun _=>(k:Int))]
 oe _ := []
 I k:=k<=(vs.getD i Tc.cov.dflt).rows.length/\∀ j,j<k->rowGood vs i j
 μ k _:=(vs.getD i Tc.cov.dflt).rows.length - k
 x0:=0
 nx:=some fun k=>k+1
def conRShip:Con:=con1 212 kShip (fun s=>shipPre (s ())) (fun s => .bool fun _=>shipB (s ()))
set_option maxRecDepth 100000 in
set_option maxHeartbeats 4000000 in
theorem conRShip_ok:ConOk Tryz.prog conRShip:=by
 refine fnOkO { kp := [(0,[0]),(1,[1]),(2,[]),(3,[1]),(4,[1,3]),(5,[1,3]),(6,[1,3]),(7,[]),(8,[1,3]),(9,[1,3,4]),(10,[1,3,4]),(11,[1,3,4]),(12,[]),(13,[1]),(14,[1,5]),(15,[1,5]),(16,[1,5]),(17,[1,5,6]),(18,[]),(19,[1,5,6]),(20,[1,5,6,7]),(21,[1,5,6,7]),(22,[1,5,6,7]),(23,[]),(24,[1,5,6,7]),(25,[1,5,6,7,8]),(26,[1,5,6,7,8]),(27,[1,5,6,7,8]),(28,[]),(29,[])] } [conRWithin,conRColumn,conRInside] ⟨conRWithin_ok,conRColumn_ok,conRInside_ok,trivial⟩ [] trivial Tryz.func212 (by kernel_rfl) fun avs res h hp => ?_;obtain⟨(s:Shp),rfl,rfl⟩:=gop1 h;clear h;have hpre:shipPre s:=hp;refine⟨[(4,lpUp 3 s.cols (colGood s.cols)),(14,lpUp 5 s.covs (covGood s.covs))],?_⟩;have hF:∀ {P:Prop},(shipB s=true->P)->¬ P->false=shipB s:=fun h hn=>by
  cases hs:shipB s with
  | false=>rfl
  | true=>exact absurd (h hs) hn
 have hI:=ship_iff s
 conv=>arg 1; cbv
 simp (maxSteps:=4000000) only [fms,true_and,and_true,eq_self];refine⟨fun h=>hF (fun hs=>(hI.1 hs).1.1) (by simp only [inB,Bool.not_eq_true',Bool.and_eq_false_iff,decide_eq_false_iff_not] at h; omega),fun h=>⟨fun h=>hF (fun hs=>(hI.1 hs).1.2) (by omega),fun h'=>⟨⟨⟨Nat.zero_le _,fun j hj=>absurd hj (Nat.not_lt_zero _)⟩,rfl⟩,fun (k:Nat) hk => ?_⟩⟩⟩;simp only [inB,Bool.not_eq_false',Bool.and_eq_true,decide_eq_true_eq] at h;have hZhk1:k<=s.cols.length/\∀ j,j<k->colGood s.cols j:=hk;have hk1:=hZhk1.1;have hk2:=hZhk1.2
 conv=>arg 1; cbv
 simp (maxSteps:=4000000) only [fms,true_and,and_true,eq_self];refine⟨fun g => ?_,fun g => ?_⟩
 . have hlt:k<s.cols.length:=by omega
   have hc:=hpre.1 _ (getD_mem Tc.col.dflt hlt);simp only [col_eta];refine⟨⟨by omega,by omega⟩,hc,fun h1=>hF (fun hs=>((hI.1 hs).2.1 k hlt).1) (by simpa using h1),fun h1=>⟨lpBelow 4 k (colApart s.cols k),?_⟩⟩;have hcb:colB (s.cols.getD k Tc.col.dflt)=true:=by simpa using h1
   conv=>arg 1; cbv
   refine⟨?_,fun (j:Nat) hj => ?_⟩
   . simp (maxSteps:=4000000) only [fms,true_and,and_true,eq_self];simp
   have hZhj1:j<=k/\∀ i,i<j->colApart s.cols k i:=hj;have hj1:=hZhj1.1;have hj2:=hZhj1.2
   conv=>arg 1; cbv
   simp (maxSteps:=4000000) only [fms,true_and,and_true,eq_self];refine⟨fun gj => ?_,fun gj=>up_next (n:=s.cols.length) (P:=colGood s.cols) (by omega) hlt hk2 ⟨hcb,fun i hi=>hj2 i (by omega)⟩⟩;have hjk:j<k:=by omega
   have hN:=fun q=>up_next (P:=colApart s.cols k) (show k<=1000000000000 by omega) hjk hj2 q;have hFk:¬ colApart s.cols k j->false=shipB s:=fun q=>hF (fun hs=>((hI.1 hs).2.1 k hlt).2 j hjk) q;exact⟨⟨by omega,by omega⟩,⟨by omega,by omega⟩,fun a=>⟨⟨by omega,by omega⟩,⟨by omega,by omega⟩,fun b=>⟨⟨by omega,by omega⟩,⟨by omega,by omega⟩,fun c=>hFk fun q=>q ⟨a,b,eq_of_beq c⟩,fun c=>hN fun q=>(beq_eq_false_iff_ne.1 c) q.2.2⟩,fun b=>hN fun q=>b q.2.1⟩,fun a=>hN fun q=>a q.1⟩
 . refine⟨⟨⟨Nat.zero_le _,fun j hj=>absurd hj (Nat.not_lt_zero _)⟩,rfl⟩,fun (i:Nat) hi => ?_⟩;have hZhi1:i<=s.covs.length/\∀ j,j<i->covGood s.covs j:=hi;have hi1:=hZhi1.1;have hi2:=hZhi1.2
   conv=>arg 1; cbv
   simp (maxSteps:=4000000) only [fms,true_and,and_true,eq_self];refine⟨fun g3 => ?_,fun g3=>(hI.2 ⟨⟨by omega,by omega⟩,fun j hj=>hk2 j (by omega),fun j hj=>hi2 j (by omega)⟩).symm⟩;have hlt3:i<s.covs.length:=by omega
   have hr:=hpre.2 _ (getD_mem Tc.cov.dflt hlt3);refine⟨⟨by omega,by omega⟩,fun a=>hF (fun hs=>((hI.1 hs).2.2 i hlt3).1.1) (by simp only [inB,Bool.not_eq_true',Bool.and_eq_false_iff,decide_eq_false_iff_not] at a; omega),fun a=>⟨fun b=>hF (fun hs=>((hI.1 hs).2.2 i hlt3).1.2) (fun q=>q (by omega)),fun b=>⟨lpRRows s.covs i,?_⟩⟩⟩;simp only [inB,Bool.not_eq_false',Bool.and_eq_true,decide_eq_true_eq] at a
   conv=>arg 1; cbv
   refine⟨?_,fun (j:Nat) hj => ?_⟩
   . simp (maxSteps:=4000000) only [fms,true_and,and_true,eq_self];exact⟨⟨Nat.zero_le _,fun j hj=>absurd hj (Nat.not_lt_zero _)⟩,rfl⟩
   have hZhj1:j<=(s.covs.getD i Tc.cov.dflt).rows.length/\∀ i',i'<j->rowGood s.covs i i':=hj;have hj1:=hZhj1.1;have hj2:=hZhj1.2
   conv=>arg 1; cbv
   simp (maxSteps:=4000000) only [fms,true_and,and_true,eq_self];refine⟨fun g4 => ?_,fun g4=>up_next (n:=s.covs.length) (P:=covGood s.covs) (by omega) hlt3 hi2 ⟨⟨a,by omega⟩,fun j hj=>hj2 j (by omega)⟩⟩;have hjr:j<(s.covs.getD i Tc.cov.dflt).rows.length:=by omega
   have hFr:¬ rowGood s.covs i j->false=shipB s:=fun q=>hF (fun hs=>((hI.1 hs).2.2 i hlt3).2 j hjr) q;have hrb:=fun (q:rowGood s.covs i j)=>q.1;unfold riseB at hrb;simp only [Bool.and_eq_true,Bool.or_eq_true,decide_eq_true_eq] at hrb;refine⟨⟨by omega,by omega⟩,fun c=>hFr fun q => ?_,fun c=>⟨fun z=>⟨by simp only [inI64]; omega,⟨by omega,by omega⟩,⟨by omega,by omega⟩,fun e=>hFr fun q => ?_,fun e => ?_⟩,fun z => ?_⟩⟩
   . have q1:0<=(s.covs.getD i Tc.cov.dflt).rows.getD j Tc.int.dflt:=(hrb q).1.1;have q2:(s.covs.getD i Tc.cov.dflt).rows.getD j Tc.int.dflt<=30:=(hrb q).1.2;simp only [inB,decide_eq_true q1,decide_eq_true q2] at c;cases c
   . have q1:(s.covs.getD i Tc.cov.dflt).rows.getD (j - 1) Tc.int.dflt<(s.covs.getD i Tc.cov.dflt).rows.getD j Tc.int.dflt:=(hrb q).2.resolve_left (by omega);omega
   all_goals simp only [inB,Bool.not_eq_false',Bool.and_eq_true,decide_eq_true_eq] at c
   . have hrise:riseB 30 (s.covs.getD i Tc.cov.dflt).rows j=true:=by
      unfold riseB;simp only [Bool.and_eq_true,Bool.or_eq_true,decide_eq_true_eq];exact⟨c,.inr (Int.not_le.1 e)⟩
     refine⟨lpBelow 8 i (covApart s.covs i j),?_⟩
     conv=>arg 1; cbv
     refine⟨?_,fun (m:Nat) hm => ?_⟩
     . simp (maxSteps:=4000000) only [fms,true_and,and_true,eq_self];exact⟨⟨Nat.zero_le _,fun j hj=>absurd hj (Nat.not_lt_zero _)⟩,rfl⟩
     have hZhm1:m<=i/\∀ q,q<m->covApart s.covs i j q:=hm;have hm1:=hZhm1.1;have hm2:=hZhm1.2
     conv=>arg 1; cbv
     simp (maxSteps:=4000000) only [fms,true_and,and_true,eq_self];refine⟨fun g5 => ?_,fun g5=>up_next (n:=(s.covs.getD i Tc.cov.dflt).rows.length) (P:=rowGood s.covs i) hr hjr hj2 ⟨hrise,fun q hq=>hm2 q (by omega)⟩⟩;have hmi:m<i:=by omega
     have hN:=fun q=>up_next (P:=covApart s.covs i j) (show i<=1000000000000 by omega) hmi hm2 q;exact⟨⟨by omega,by omega⟩,fun a2=>⟨⟨by omega,by omega⟩,⟨by omega,by omega⟩,hpre.2 _ (getD_mem Tc.cov.dflt (show m<s.covs.length by omega)),fun d=>hFr fun q=>q.2 m hmi ⟨a2,d⟩,fun d=>hN fun q=>by rw [q.2] at d; cases d⟩,fun a2=>hN fun q=>a2 q.1⟩
   . have hrise:riseB 30 (s.covs.getD i Tc.cov.dflt).rows j=true:=by
      unfold riseB;simp only [Bool.and_eq_true,Bool.or_eq_true,decide_eq_true_eq];exact⟨c,.inl (by omega)⟩
     refine⟨lpBelow 8 i (covApart s.covs i j),?_⟩
     conv=>arg 1; cbv
     refine⟨?_,fun (m:Nat) hm => ?_⟩
     . simp (maxSteps:=4000000) only [fms,true_and,and_true,eq_self];exact⟨⟨Nat.zero_le _,fun j hj=>absurd hj (Nat.not_lt_zero _)⟩,rfl⟩
     have hZhm1:m<=i/\∀ q,q<m->covApart s.covs i j q:=hm;have hm1:=hZhm1.1;have hm2:=hZhm1.2
     conv=>arg 1; cbv
     simp (maxSteps:=4000000) only [fms,true_and,and_true,eq_self];refine⟨fun g5 => ?_,fun g5=>up_next (n:=(s.covs.getD i Tc.cov.dflt).rows.length) (P:=rowGood s.covs i) hr hjr hj2 ⟨hrise,fun q hq=>hm2 q (by omega)⟩⟩;have hmi:m<i:=by omega
     have hN:=fun q=>up_next (P:=covApart s.covs i j) (show i<=1000000000000 by omega) hmi hm2 q;exact⟨⟨by omega,by omega⟩,fun a2=>⟨⟨by omega,by omega⟩,⟨by omega,by omega⟩,hpre.2 _ (getD_mem Tc.cov.dflt (show m<s.covs.length by omega)),fun d=>hFr fun q=>q.2 m hmi ⟨a2,d⟩,fun d=>hN fun q=>by rw [q.2] at d; cases d⟩,fun a2=>hN fun q=>a2 q.1⟩
def numTwice (l:List Box) (k j:Nat):Prop:=(l.getD k Tc.box.dflt).num≠noText/\(l.getD j Tc.box.dflt).num=(l.getD k Tc.box.dflt).num
theorem boxBad_iff {l:List Box} {k:Nat} (hk:k<l.length):boxBad l k=true↔boxB (l.getD k Tc.box.dflt)=false\/(0<k/\(l.getD k Tc.box.dflt).id<=(l.getD (k - 1) Tc.box.dflt).id)\/∃ j,j<k/\numTwice l k j:=by
 have hg:∀ i (hi:i<l.length),l.getD i Tc.box.dflt=l[i]:=fun i hi=>by rw [List.getD_eq_getElem?_getD,List.getElem?_eq_getElem hi]; rfl
 have h1:boxBad l k=(seenN l k l[k].num||decide (l[k].id<=lastId l k) || !boxB l[k]):=by unfold boxBad; rw [List.getElem?_eq_getElem hk]
 have h2:lastId l k=if k=0 then 0 else (l.getD (k - 1) Tc.box.dflt).id:=by
  unfold lastId;split
  . rfl
  . rw [List.getElem?_eq_getElem (by omega),hg _ (by omega)];rfl
 have h3:seenN l k l[k].num=true↔∃ j,j<k/\numTwice l k j:=by
  unfold seenN numTwice;rw [List.any_eq_true,hg k hk];constructor
  . rintro⟨b,hb,he⟩
    obtain⟨j,hj,rfl⟩:=List.mem_take_iff_getElem.1 hb;simp only [Bool.and_eq_true,Bool.not_eq_true',decide_eq_false_iff_not,decide_eq_true_eq] at he;refine⟨j,by omega,fun e=>he.1 ?_,?_⟩
    . rw [he.2,e]; rfl
    . rw [hg j (by omega)]; exact he.2
  . rintro⟨j,hj,h4,h5⟩
    rw [hg j (by omega)] at h5;refine⟨l[j],List.mem_take_iff_getElem.2 ⟨j,by omega,rfl⟩,?_⟩;simp only [Bool.and_eq_true,Bool.not_eq_true',decide_eq_false_iff_not,decide_eq_true_eq];exact⟨fun e=>h4 (by rw [<- h5,e]; rfl),h5⟩
 rw [h1,Bool.or_eq_true,Bool.or_eq_true,h3,decide_eq_true_eq,h2,hg k hk,Bool.not_eq_true'];constructor
 . rintro ((h|h)|h)
   . exact .inr (.inr h)
   . split at h
     . cases hB:boxB l[k] with
       | false=>exact .inl rfl
       | true=>have:=((boxB_iff _).1 hB).1; omega
     . exact .inr (.inl ⟨by omega,h⟩)
   . exact .inl h
 . rintro (h|⟨h,h'⟩|h)
   . exact .inr h
   . exact .inl (.inr (by rw [if_neg (by omega)]; exact h'))
   . exact .inl (.inl h)
def conRValid:Con:=con1 157 kBoxes (fun l=>(l ()).length<=1000000000000/\∀ b∈l (),b.num.size<=140737488351232) (fun l => .tup [.int .i64 fun _=>(boxValid (l ())).1,.int .i64 fun _=>(boxValid (l ())).2])
set_option maxRecDepth 100000 in
set_option maxHeartbeats 4000000 in
theorem conRValid_ok:ConOk Tryz.prog conRValid:=by
 refine fnOkO { kp := [(0,[0]),(1,[0]),(2,[]),(3,[0]),(4,[0,4]),(5,[0,4]),(6,[0,4]),(7,[4]),(8,[0,4]),(9,[0,4,5]),(10,[0,4,5]),(11,[0,4,5]),(12,[4]),(13,[])] } [conRBox] ⟨conRBox_ok,trivial⟩ [] trivial Tryz.func157 (by kernel_rfl) fun avs res h hp => ?_;obtain⟨(l:List Box),rfl,rfl⟩:=gop1 h;clear h;have hZhp1:l.length<=1000000000000/\∀ b∈l,b.num.size<=140737488351232:=hp;have hp1:=hZhp1.1;have hp2:=hZhp1.2;refine⟨[(4,lpUp 4 l fun j=>boxBad l j=false)],?_⟩
 conv=>arg 1; cbv
 simp (maxSteps:=4000000) only [fms,true_and,and_true,eq_self];refine⟨fun h => ?_,fun h=>⟨⟨⟨Nat.zero_le _,fun j hj=>absurd hj (Nat.not_lt_zero _)⟩,rfl⟩,fun (k:Nat) hk => ?_⟩⟩
 . have e:boxValid l=(-1,5):=by unfold boxValid; rw [if_pos (by omega)]
   rw [e];exact⟨rfl,rfl⟩
 have hZhk1:k<=l.length/\∀ j,j<k->boxBad l j=false:=hk;have hk1:=hZhk1.1;have hk2:=hZhk1.2
 conv=>arg 1; cbv
 simp (maxSteps:=4000000) only [fms,true_and,and_true,eq_self];have h5:l.length<=2000:=by omega
 refine⟨fun g => ?_,fun g => ?_⟩
 . have hlt:k<l.length:=by omega
   have hbad:boxBad l k=true->(k:Int)=(boxValid l).1/\60=(boxValid l).2:=fun h=>by rw [boxValid_found h5 hlt hk2 h]; exact⟨rfl,rfl⟩
   have hiff:=boxBad_iff hlt;refine⟨⟨by omega,by omega⟩,hp2 _ (getD_mem Tc.box.dflt hlt),fun b=>hbad (hiff.2 (.inl (by simpa using b))),fun b=>⟨fun c=>⟨⟨by omega,by omega⟩,by simp only [inI64]; omega,⟨by omega,by omega⟩,fun d=>hbad (hiff.2 (.inr (.inl ⟨by omega,d⟩))),fun d => ?_⟩,fun c => ?_⟩⟩
   . have hI:k=0\/(l.getD (k - 1) Tc.box.dflt).id<(l.getD k Tc.box.dflt).id := .inr (by omega);have hB:boxB (l.getD k Tc.box.dflt)=true:=by simpa using b
     refine⟨lpBelow 5 k fun j=>¬ numTwice l k j,?_⟩
     conv=>arg 1; cbv
     refine⟨?_,fun (j:Nat) hj => ?_⟩
     . simp (maxSteps:=4000000) only [fms,true_and,and_true,eq_self];simp
     have hZhj1:j<=k/\∀ i,i<j->¬ numTwice l k i:=hj;have hj1:=hZhj1.1;have hj2:=hZhj1.2
     conv=>arg 1; cbv
     simp (maxSteps:=4000000) only [fms,true_and,and_true,eq_self];refine⟨fun gj => ?_,fun gj=>up_next (n:=l.length) (P:=fun j=>boxBad l j=false) (by omega) hlt hk2 ?_⟩
     . have hN:=fun q=>up_next (P:=fun j=>¬ numTwice l k j) (show k<=1000000000000 by omega) (show j<k by omega) hj2 q;refine⟨⟨by omega,by omega⟩,fun a=>⟨⟨by omega,by omega⟩,⟨by omega,by omega⟩,fun c=>hbad (hiff.2 (.inr (.inr ⟨j,by omega,?_,c⟩))),fun c=>hN fun q=>c q.2⟩,fun a=>hN fun q=>q.1 ?_⟩
       . simp only [Bool.not_eq_true',decide_eq_false_iff_not] at a;exact a
       . simp only [Bool.not_eq_false',decide_eq_true_eq] at a;exact a
     . cases hb:boxBad l k with
       | false=>rfl
       | true =>
        rcases hiff.1 hb with h1|⟨h1,h2⟩|⟨i,h1,h2⟩
        . rw [hB] at h1; cases h1
        . rcases hI with h3|h3<;>omega
        . exact absurd h2 (hj2 i (by omega))
   . have hI:k=0\/(l.getD (k - 1) Tc.box.dflt).id<(l.getD k Tc.box.dflt).id := .inl (by omega);have hB:boxB (l.getD k Tc.box.dflt)=true:=by simpa using b
     refine⟨lpBelow 5 k fun j=>¬ numTwice l k j,?_⟩
     conv=>arg 1; cbv
     refine⟨?_,fun (j:Nat) hj => ?_⟩
     . simp (maxSteps:=4000000) only [fms,true_and,and_true,eq_self];simp
     have hZhj1:j<=k/\∀ i,i<j->¬ numTwice l k i:=hj;have hj1:=hZhj1.1;have hj2:=hZhj1.2
     conv=>arg 1; cbv
     simp (maxSteps:=4000000) only [fms,true_and,and_true,eq_self];refine⟨fun gj => ?_,fun gj=>up_next (n:=l.length) (P:=fun j=>boxBad l j=false) (by omega) hlt hk2 ?_⟩
     . have hN:=fun q=>up_next (P:=fun j=>¬ numTwice l k j) (show k<=1000000000000 by omega) (show j<k by omega) hj2 q;refine⟨⟨by omega,by omega⟩,fun a=>⟨⟨by omega,by omega⟩,⟨by omega,by omega⟩,fun c=>hbad (hiff.2 (.inr (.inr ⟨j,by omega,?_,c⟩))),fun c=>hN fun q=>c q.2⟩,fun a=>hN fun q=>q.1 ?_⟩
       . simp only [Bool.not_eq_true',decide_eq_false_iff_not] at a;exact a
       . simp only [Bool.not_eq_false',decide_eq_true_eq] at a;exact a
     . cases hb:boxBad l k with
       | false=>rfl
       | true =>
        rcases hiff.1 hb with h1|⟨h1,h2⟩|⟨i,h1,h2⟩
        . rw [hB] at h1; cases h1
        . rcases hI with h3|h3<;>omega
        . exact absurd h2 (hj2 i (by omega))
 . have hkk:k=l.length:=by omega
   subst hkk;rw [boxValid_none h5 hk2];exact⟨rfl,rfl⟩
theorem findV_at {l:List Box} {id:Int} {k:Nat} (h2:∀ j,j<k->¬ (l.getD j Tc.box.dflt).id=id) (hk:k<l.length) (h:(l.getD k Tc.box.dflt).id=id):findV l id=(l.getD k Tc.box.dflt,true):=by
 have h1:=idx_at (p:=isId id) (d:=Tc.box.dflt) (fun j hj=>decide_eq_false (h2 j hj)) hk (decide_eq_true h);rcases find_idx l id with ⟨h3,h4⟩|⟨k',h3,h4,h5⟩
 . omega
 . rw [h5,show k'=k by omega]
theorem findV_no {l:List Box} {id:Int} {k:Nat} (h2:∀ j,j<k->¬ (l.getD j Tc.box.dflt).id=id) (hk:l.length<=k):findV l id=(box0,false):=by
 have h1:=idx_no (p:=isId id) (d:=Tc.box.dflt) (fun j hj=>decide_eq_false (h2 j hj)) hk;rcases find_idx l id with ⟨h3,h4⟩|⟨k',h3,h4,h5⟩
 . exact h4
 . omega
def lpRFind (l:List Box) (id:Int):Lp where
 X:=Nat
 ov k := [(6,.int .i64 fun _=>(k:Int))]
 oe _ := [(0,.box 44 (boxL fun _=>box0))]
 I k:=k<=l.length/\∀ j,j<k->¬ (l.getD j Tc.box.dflt).id=id
 μ k _:=l.length - k
 x0:=0
 nx:=some fun k=>k+1
def conRFind:Con:=con2 97 kBoxes kI (fun l _=>(l ()).length<=1000000000000) (fun l id => .tup [.agg (boxL fun _=>(findV (l ()) (id ())).1),.bool fun _=>(findV (l ()) (id ())).2])
set_option maxRecDepth 100000 in
set_option maxHeartbeats 4000000 in
theorem conRFind_ok:ConOk Tryz.prog conRFind:=by
 refine fnOk [] trivial Tryz.func97 (by kernel_rfl) fun avs res h hp => ?_;obtain⟨(l:List Box),(id:Int),rfl,rfl⟩:=gop2 h;clear h;have hl:l.length<=1000000000000:=hp;refine⟨[(2,lpRFind l id)],?_⟩
 conv=>arg 1; cbv
 refine⟨?_,fun (k:Nat) hk => ?_⟩
 . simp (maxSteps:=4000000) only [fms,true_and,and_true,eq_self]
   and_intros<;>first|omega|rfl|(intro j hj; omega)
 have hZhk1:k<=l.length/\∀ j,j<k->¬ (l.getD j Tc.box.dflt).id=id:=hk;have hk1:=hZhk1.1;have hk2:=hZhk1.2
 conv=>arg 1; cbv
 simp (maxSteps:=4000000) only [fms,true_and,and_true,eq_self];refine⟨fun g => ?_,fun g => ?_⟩
 . have hlt:k<l.length:=by omega
   refine⟨⟨by omega,by omega⟩,fun c => ?_,fun c=>up_next hl hlt hk2 c⟩;rw [findV_at hk2 hlt c]
   and_intros<;>first|omega|rfl
 . rw [findV_no hk2 (by omega)]
   and_intros<;>first|omega|rfl
theorem height_next {bs:List Box} {l:List Stowed} {c h:Int} {k:Nat} (hlt:k<l.length):heightF bs (l.take (k+1)) c h=heightF bs (l.take k) c h+hAt bs c h (l.getD k Tc.stowed.dflt):=by
 unfold heightF;rw [show l.take (k+1)=l.take k ++ [l[k]] from by rw [List.take_add_one,List.getElem?_eq_getElem hlt]; rfl,List.map_append,List.sum_append,List.getD_eq_getElem?_getD,List.getElem?_eq_getElem hlt];simp only [List.map_cons,List.map_nil,List.sum_cons,List.sum_nil,Option.getD_some];omega
def lpRHgt (bs:List Box) (l:List Stowed) (c h:Int):Lp where
 X:=Nat
 ov k := [(10,.int .i64 fun _=>(k:Int)),(9,.int .i64 fun _=>heightF bs (l.take k) c h)]
 oe _ := []
 I k:=k<=l.length
 μ k _:=l.length - k
 x0:=0
 nx:=some fun k=>k+1
def conRHeight:Con:=con4 260 kBoxes kStos kI kU8 (fun bs l _ _=>(bs ()).length<=1000000000000/\(l ()).length<=1000000) (fun bs l col half => .int .i64 fun _=>heightF (bs ()) (l ()) (col ()) (half ()))
set_option maxRecDepth 100000 in
set_option maxHeartbeats 4000000 in
theorem conRHeight_ok:ConOk Tryz.prog conRHeight:=by
 refine fnOk [conRFind] ⟨conRFind_ok,trivial⟩ Tryz.func260 (by kernel_rfl) fun avs res h hp => ?_;obtain⟨(bs:List Box),(l:List Stowed),(col:Int),(half:Int),rfl,rfl⟩:=gop4 h;clear h;have hZhl1:bs.length<=1000000000000/\l.length<=1000000:=hp;have hl1:=hZhl1.1;have hl2:=hZhl1.2;refine⟨[(3,lpRHgt bs l col half)],?_⟩
 conv=>arg 1; cbv
 refine⟨?_,fun (k:Nat) hk => ?_⟩
 . simp (maxSteps:=4000000) only [fms];simp [heightF]
 have hk1:k<=l.length:=hk
 conv=>arg 1; cbv
 simp (maxSteps:=4000000) only [fms,true_and,and_true,eq_self];refine⟨fun g => ?_,fun g=>by rw [List.take_of_length_le (by omega)]⟩;have hlt:k<l.length:=by omega
 have hst:=height_next (bs:=bs) (c:=col) (h:=half) hlt;have hb:0<=heightF bs (l.take k) col half/\heightF bs (l.take k) col half<=2896*((l.take k).length:Int):=sum_bound _ (hAt_bound bs col half) _;rw [List.length_take] at hb;have h1:∀ P,P->inI64 ((k:Int)+1)/\(k+1<=l.length/\l.length - (k+1)<l.length - k)/\(k:Int)+1=((k+1:Nat):Int)/\P:=fun P h=>⟨by simp only [inI64]; omega,by omega,by omega,h⟩
 rw [hst];generalize heightF bs (l.take k) col half=H at *
 have h2:inI64 (H+2896)/\inI64 (H+2591):=by constructor<;>simp only [inI64]<;>omega
 have e1:(findV bs (l.getD k Tc.stowed.dflt).box).2=false->hAt bs col half (l.getD k Tc.stowed.dflt)=0:=fun e=>by unfold hAt; rw [e]; simp
 have e2:¬ (l.getD k Tc.stowed.dflt).col=col->hAt bs col half (l.getD k Tc.stowed.dflt)=0:=fun e=>by unfold hAt; rw [if_neg fun q=>e q.1]
 have e3:¬ (l.getD k Tc.stowed.dflt).half=half->¬ (l.getD k Tc.stowed.dflt).half=0->hAt bs col half (l.getD k Tc.stowed.dflt)=0:=fun e e'=>by unfold hAt; rw [if_neg fun q=>q.2.elim e e']
 have e4:(findV bs (l.getD k Tc.stowed.dflt).box).2=true->(l.getD k Tc.stowed.dflt).col=col->((l.getD k Tc.stowed.dflt).half=half\/(l.getD k Tc.stowed.dflt).half=0)->hAt bs col half (l.getD k Tc.stowed.dflt)=tallB (findV bs (l.getD k Tc.stowed.dflt).box).1:=fun e e' e''=>by unfold hAt; rw [if_pos ⟨e',e''⟩,if_pos e]
 have t1:(findV bs (l.getD k Tc.stowed.dflt).box).1.high=true->tallB (findV bs (l.getD k Tc.stowed.dflt).box).1=2896:=fun e=>by unfold tallB; rw [if_pos e]
 have t2:(findV bs (l.getD k Tc.stowed.dflt).box).1.high=false->tallB (findV bs (l.getD k Tc.stowed.dflt).box).1=2591:=fun e=>by unfold tallB; rw [e]; rfl
 clear hst hb;refine⟨⟨by omega,by omega⟩,hl1,fun f=>h1 _ (by rw [e1 (by simpa using f)]; omega),fun f=>⟨⟨by omega,by omega⟩,fun c=>h1 _ (by rw [e2 (by simpa using c)]; omega),fun c=>⟨⟨by omega,by omega⟩,fun a=>⟨⟨by omega,by omega⟩,fun z=>h1 _ (by rw [e3 (by simpa using a) (by simpa using z)]; omega),fun z => ?_⟩,fun a => ?_⟩⟩⟩
 . have e5:=e4 (by simpa using f) (by simpa using c) (.inr (by simpa using z));exact⟨fun hh=>⟨h2.1,h1 _ (by rw [e5,t1 hh])⟩,fun hh=>⟨h2.2,h1 _ (by rw [e5,t2 hh])⟩⟩
 . have e5:=e4 (by simpa using f) (by simpa using c) (.inl (by simpa using a));exact⟨fun hh=>⟨h2.1,h1 _ (by rw [e5,t1 hh])⟩,fun hh=>⟨h2.2,h1 _ (by rw [e5,t2 hh])⟩⟩
def lpRSlots (l:List Stowed):Lp where
 X:=Nat
 ov k := [(4,.int .i64 fun _=>(k:Int)),(3,.own 0)]
 oe k := [(0,.row true .slot 40 fun _=>(l.take k).map slotOf)]
 I k:=k<=l.length
 μ k _:=l.length - k
 x0:=0
 nx:=some fun k=>k+1
def conRSlots:Con:=con1 215 kStos (fun l=>(l ()).length<=1000000) (fun l => .sl true .slot fun _=>(l ()).map slotOf)
set_option maxRecDepth 100000 in
set_option maxHeartbeats 4000000 in
theorem conRSlots_ok:ConOk Tryz.prog conRSlots:=by
 refine fnOk [] trivial Tryz.func215 (by kernel_rfl) fun avs res h hp => ?_;obtain⟨(l:List Stowed),rfl,rfl⟩:=gop1 h;clear h;have hl:l.length<=1000000:=hp;refine⟨[(3,lpRSlots l)],?_⟩
 conv=>arg 1; cbv
 refine⟨?_,fun (k:Nat) hk => ?_⟩
 . simp (maxSteps:=4000000) only [fms];simp
 have hk1:k<=l.length:=hk
 conv=>arg 1; cbv
 simp (maxSteps:=4000000) only [fms,true_and,and_true,eq_self];refine⟨fun g => ?_,fun g=>by rw [List.take_of_length_le (by omega)]⟩;have hlt:k<l.length:=by omega
 refine⟨⟨by omega,by omega⟩,?_,by simp only [inI64]; omega,⟨by omega,by omega⟩,by omega,?_⟩
 . simp only [List.length_map,List.length_take,List.length_cons,List.length_nil];omega
 . rw [show l.take (k+1)=l.take k ++ [l.getD k Tc.stowed.dflt] from by rw [List.take_add_one,List.getElem?_eq_getElem hlt,List.getD_eq_getElem?_getD,List.getElem?_eq_getElem hlt]; rfl,List.map_append];rfl
def highB (cs:List Col) (bs:List Box) (l:List Stowed) (c:Int):Bool := !decide ((cs.getD c.toNat Tc.col.dflt).height=0)&&(decide ((cs.getD c.toNat Tc.col.dflt).height<heightF bs l c 1)||decide ((cs.getD c.toNat Tc.col.dflt).height<heightF bs l c 2))
def conRHigh:Con:=con4 217 kShip kBoxes kStos kI (fun s bs l c=>(bs ()).length<=1000000000000/\(l ()).length<=1000000/\0<=c ()/\c ()<((s ()).cols.length:Int)) (fun s bs l c => .bool fun _=>highB (s ()).cols (bs ()) (l ()) (c ()))
set_option maxRecDepth 100000 in
set_option maxHeartbeats 4000000 in
theorem conRHigh_ok:ConOk Tryz.prog conRHigh:=by
 refine fnOk [conRHeight] ⟨conRHeight_ok,trivial⟩ Tryz.func217 (by kernel_rfl) fun avs res h hp => ?_;obtain⟨(s:Shp),(bs:List Box),(l:List Stowed),(c:Int),rfl,rfl⟩:=gop4 h;clear h;have hZh1:bs.length<=1000000000000/\l.length<=1000000/\0<=c/\c<(s.cols.length:Int):=hp;have h1:=hZh1.1;have h2:=hZh1.2.1;have h3:=hZh1.2.2.1;have h4:=hZh1.2.2.2;refine⟨[],?_⟩
 conv=>arg 1; cbv
 simp (maxSteps:=4000000) only [fms,true_and,and_true,eq_self];unfold highB;refine⟨⟨h3,h4⟩,fun e=>by rw [e]; rfl,fun e => ?_⟩;rw [decide_eq_false e];exact⟨⟨h1,h2⟩,⟨h3,h4⟩,fun g=>by rw [decide_eq_true g]; rfl,fun g=>⟨⟨h1,h2⟩,⟨h3,h4⟩,by rw [decide_eq_false g]; rfl⟩⟩
theorem new_row {w w':World} {ρ:Nat->Option Rl} {ra:Nat->Prop} {T:Nat} {t:Tc} {l:Unit->List t.el} {A:Option Addr} {c:Nat} (f:t.el->List Value) (ht:∀ x:t.el,(cellsAV true t fun _=>x).all AV.flat=true) (hf:∀ x:t.el,(cellsAV true t fun _=>x).map AV.valOf=f x)
 (hρ:∀ l,ρ l=none) (hra:∀ b,ra b->b<w.heap.size) (hb:From w w') (ho:OwnS w' w.heap.size T t.size A c ((l ()).map f)):∃ ρ1 ra1,Left w w' ρ ρ1 ra ra1 [(0,.row true t T l)] false/\AVR w' ρ1 w.heap.size ra1 (.own 0) (.slice A (l ()).length c):=by
 have hr:∀ l' r,updR ρ 0 (.row A (l ()).length c) l'=some r->l'=0/\r = .row A (l ()).length c:=by
  intro l' r h;unfold updR at h;split at h
  . rename_i e;cases h;exact⟨e,rfl⟩
  . rw [hρ] at h;cases h
 have hblk:∀ b,(Rl.row A (l ()).length c).blk=some b->w.heap.size<=b/\b<w'.heap.size:=by
  intro b h;simp only [Rl.blk] at h;obtain⟨a,ha,rfl⟩:=Option.map_eq_some_iff.1 h;exact ho.lt ha
 refine⟨updR ρ 0 (.row A (l ()).length c),ra,⟨?_,fun l' e he => ?_,fun l1 l2 r r' b hne h1 h2 _ _ => ?_,fun l' hl' => ?_,fun l' r b h hbk => ?_,fun b hb' => ?_,fun l' r h _=>by rw [hρ] at h; cases h⟩,.own 0 A _ c (updR_self _ _ _)⟩
 . exact⟨hb.os,hb.tape,hb.output,hb.size,fun k hk _=>hb.block k hk⟩
 . simp only [alook] at he;split at he
   . rename_i e0;have:l'=0:=by simpa using (beq_iff_eq.1 e0).symm
     subst this;cases he;refine⟨A,c,(l ()).map f,updR_self _ _ _,ho,by simp,fun k cs j x v hk hx hv => ?_⟩;rw [List.getElem?_map] at hk
     cases hlk:(l ())[k]? with
     | none=>rw [hlk] at hk; cases hk
     | some y =>
      rw [hlk] at hk;injection hk with hk;subst hk;have hy:(l ()).getD k t.dflt=y:=by rw [List.getD_eq_getElem?_getD,hlk]; rfl
      rw [hy] at hx;have hE:Each w' (updR ρ 0 (.row A (l ()).length c)) w.heap.size ra (cellsAV true t fun _=>y) (f y):=by
       rw [<- hf];exact each_flat (ht y)
      exact hE.2 j x v hx hv
   . cases he
 . exact absurd ((hr _ _ h1).1.trans (hr _ _ h2).1.symm) hne
 . have:l'≠0:=by
    rintro rfl
    simp [keysOf,memN] at hl'
   unfold updR;rw [if_neg this,hρ]
 . obtain⟨rfl,rfl⟩:=hr _ _ h;have h3:=hblk b hbk;exact⟨h3.2,fun h4=>by have:=hra b h4; omega,.inl h3.1⟩
 . exact⟨Nat.lt_of_lt_of_le (hra b hb') hb.size,fun _=>hb'⟩
set_option maxRecDepth 100000 in
theorem clone_sto (A:Option Addr) (c:Nat) (l:List Stowed) (n:Nat) (hn:n=l.length) (w:World) (hA:Rd w w.heap.size 4 A (l.map Stowed.cells)) (hl:l.length<=1000000) :
 Calls Tryz.prog 135 #[.slice A n c] w fun e w'=>∃ A' c',e = .returned (.slice A' l.length c')/\OwnS w' w.heap.size 42 4 A' c' (l.map Stowed.cells)/\Below w.heap.size w w':=by
 subst hn
 cases A with
 | none =>
  have hl0:l = []:=by
   rcases l with _|⟨x,l⟩
   . rfl
   . obtain⟨_,_,h,_⟩:=hA 0 x.cells rfl;cases h
  subst hl0;have heq:=fun w=>Go.Lib.run_eql_slice_nil (P:=Tryz.prog) w 34 42 none 0 c 0 0 Tryz.underlying34
  go_enter Tryz.func135,Tryz.ntmps135
  go_wp2
  go_ret
  exact⟨none,0,rfl,OwnS.nil _ _ _ _,Below.refl _ _⟩
 | some ad =>
  have heq:=fun w=>Go.Lib.run_eql_slice_nil (P:=Tryz.prog) w 34 42 (some ad) l.length c 0 0 Tryz.underlying34;have hb1:Below w.heap.size w (w.alloc (Obj.cells #[] 42)):=(Below.refl _ _).alloc (Nat.le_refl _) _;have HRD:=Lib.hid ((hA.below hb1 (Nat.le_refl _)).more hb1.size);have HOW:=Lib.hid (OwnS.empty_new w w.heap.size 42 4 (Nat.le_refl _));have HB1:=Lib.hid hb1;clear hA hb1
  go_enter Tryz.func135,Tryz.ntmps135
  go_wp2_with (first
   | (at_builtin; go_loud (refine wpList_append_n rfl _ _ rfl Stowed.ei 0 rfl rfl HOW.out rfl _ HRD.out (by simp) (Stowed.ones l) (by unfold maxLen; simp; omega) (by simp; omega) HB1.out.size ?_); intro A4 c4 w4 hown4 hg4 hb4))
  go_ret
  exact⟨A4,c4,by simp,by simpa using hown4,HB1.out.trans hb4⟩
def fonClone:Fon:=⟨135,[.sl .stowed],0,fun avs es=>match avs,es with
 | [x],[]=>x.toStos.bind fun l=>some ⟨fun _=>(l ()).length<=1000000,.own 0,[(0,.row true .stowed 42 l)]⟩
 | _,_=>none,false⟩
theorem fonClone_ok:FonOk Tryz.prog fonClone:=by
 refine⟨fun args w=>callFunc_ok Tryz.func135 (by kernel_rfl) (by kernel_rfl) args w,fun avs es res h w ρ ra vals hra hE hen hap hfr hown hp => ?_⟩;simp only [fonClone] at h;split at h
 case h_2=>cases h
 rename_i x;simp only [Option.bind_eq_some_iff,Option.some.injEq] at h;obtain⟨l,e0,rfl⟩:=h;obtain rfl:=AV.toStos_ e0;obtain⟨v0,us0,rfl,hv0,h0⟩:=hE.head;obtain rfl:=h0.none;obtain⟨A0,q0,rfl,hc0,hr0⟩:=hv0.stos;refine (clone_sto A0 q0 (l ()) _ rfl w hr0 hp).mono fun e w' ⟨A',c',k1,k2,k3⟩ => ?_;obtain⟨ρ1,ra1,hL,hv⟩:=new_row (t := .stowed) (l:=l) Stowed.cells (fun _=>rfl) (fun _=>rfl) (fun l=>hfr l (Nat.zero_le _)) hra k3 k2;exact⟨_,ρ1,ra1,k1,hL,hv⟩
end Go.Proofs.YthfpdbjemfhieaaGreat
