/-
  The reference of the chapter 15: where a box's middle is.
-/
import Derived.Test.YthfpdbjemfhieaaGreatMt22
set_option linter.unusedVariables false
set_option linter.unusedSimpArgs false
namespace Go.Proofs.YthfpdbjemfhieaaGreat
open Go.RowKit
def conRTall:Con:=con1 159 kBox (fun _=>True) (fun b => .int .i64 fun _=>tallB (b ()))
set_option maxRecDepth 100000 in
set_option maxHeartbeats 4000000 in
theorem conRTall_ok:ConOk Tryz.prog conRTall:=by
 refine fnOk [] trivial Tryz.func159 (by kernel_rfl) fun avs res h hp => ?_;obtain⟨(b:Box),rfl,rfl⟩:=gop1 h;clear h;refine⟨[],?_⟩
 conv=>arg 1; cbv
 simp (maxSteps:=4000000) only [fms,true_and,and_true,eq_self];refine⟨fun g => ?_,fun g => ?_⟩<;>unfold tallB<;>rw [g]<;>rfl
def uAt (bs:List Box) (c a t:Int) (y:Stowed):Int:=cond (decide (y.tier<t)) (hAt bs c a y) 0
theorem uAt_yes {bs:List Box} {c a t:Int} {y:Stowed} (hf:(findV bs y.box).2=true) (h1:y.col=c) (h2:y.tier<t) (h3:y.half=a\/y.half=0):uAt bs c a t y=tallB (findV bs y.box).1:=by
 unfold uAt hAt;rw [decide_eq_true h2,cond_true,if_pos ⟨h1,h3⟩,if_pos hf]
theorem uAt_no {bs:List Box} {c a t:Int} {y:Stowed} (h:¬ y.col=c\/¬ y.tier<t\/(¬ y.half=a/\¬ y.half=0)):uAt bs c a t y=0:=by
 unfold uAt hAt;rcases h with h|h|h
 . rw [if_neg fun q=>h q.1]; cases decide (y.tier<t)<;>rfl
 . rw [decide_eq_false h]; rfl
 . rw [if_neg fun q=>q.2.elim h.1 h.2]; cases decide (y.tier<t)<;>rfl
theorem under_bound (bs:List Box) (l:List Stowed) (c a t:Int):0<=underF bs l c a t/\underF bs l c a t<=2896*(l.length:Int):=by
 have h:0<=underF bs l c a t/\underF bs l c a t<=2896*((l.filter fun x=>decide (x.tier<t)).length:Int):=sum_bound _ (hAt_bound bs c a) _;have:=List.length_filter_le (fun x:Stowed=>decide (x.tier<t)) l;omega
theorem under_next {bs:List Box} {l:List Stowed} {c a t:Int} {k:Nat} (hlt:k<l.length):underF bs (l.take (k+1)) c a t=underF bs (l.take k) c a t+uAt bs c a t (l.getD k Tc.stowed.dflt):=by
 unfold underF uAt;rw [show l.take (k+1)=l.take k ++ [l[k]] from by rw [List.take_add_one,List.getElem?_eq_getElem hlt]; rfl,List.filter_append,heightF_app,getD_at _ hlt];congr 1
 cases hd:decide (l[k].tier<t) with
 | true=>simp [List.filter_cons,hd,heightF]
 | false=>simp [List.filter_cons,hd,heightF]
def lpPlace (bs:List Box) (l:List Stowed) (i:Nat):Lp where
 X:=Nat
 ov k := [(15,.int .i64 fun _=>(k:Int)),(14,.int .i64 fun _=>underF bs (l.take k) (l.getD i Tc.stowed.dflt).col (halfA (l.getD i Tc.stowed.dflt).half) (l.getD i Tc.stowed.dflt).tier)]
 oe _ := []
 I k:=k<=l.length
 μ k _:=l.length - k
 x0:=0
 nx:=some fun k=>k+1
def conRPlace:Con:=con4 96 kShip kBoxes kStos kI (fun s bs l i=>stowB (s ()) (bs ()) (l ())=true/\(bs ()).length<=1000000000000/\(l ()).length<=1000000/\0<=i ()/\i ()<((l ()).length:Int)) (fun s bs l i => .tup [.int .i64 fun _=>(placeF (s ()) (bs ()) (l ()) ((l ()).getD (i ()).toNat Tc.stowed.dflt)).1,.int .i64 fun _=>(placeF (s ()) (bs ()) (l ()) ((l ()).getD (i ()).toNat Tc.stowed.dflt)).2.1,.int .i64 fun _=>(placeF (s ()) (bs ()) (l ()) ((l ()).getD (i ()).toNat Tc.stowed.dflt)).2.2])
set_option maxRecDepth 100000 in
set_option maxHeartbeats 4000000 in
theorem conRPlace_ok:ConOk Tryz.prog conRPlace:=by
 refine fnOkO { kp := [(0,[0,1,2,3]),(1,[1,2,3,4]),(2,[1,2,3,4,11]),(3,[1,2,3,11,12]),(4,[1,2,3,11,12,13]),(5,[1,2,3,11,12]),(6,[1,2,3,11,12,13]),(7,[1,2,3,11,12,13,14]),(8,[1,2,3,11,12,13,14,15]),(9,[1,2,3,11,12,13,14,15]),(10,[1,2,3,11,12,13,14,15]),(11,[1,2,3,11,12,13,14,15,16]),(12,[1,2,3,11,12,13,14,15]),(13,[1,2,3,11,12,13,14,15,17]),(14,[1,2,3,11,12,14]),(15,[1,2,3,11,12,14,19]),(16,[1,2,3,11,12,14,19]),(17,[1,2,3,11,12,14,19]),(18,[1,2,3,12,14,19]),(19,[1,2,3,12,14,19]),(20,[12,14,19,20])] } [conRFind,conRTall] ⟨conRFind_ok,conRTall_ok,trivial⟩ [] trivial Tryz.func96 (by kernel_rfl) fun avs res h hp => ?_;obtain⟨(s:Shp),(bs:List Box),(l:List Stowed),(i:Int),rfl,rfl⟩:=gop4 h;clear h;have hZhs:stowB s bs l=true/\bs.length<=1000000000000/\l.length<=1000000/\0<=i/\i<(l.length:Int):=hp;have hs:=hZhs.1;have hbl:=hZhs.2.1;have hll:=hZhs.2.2.1;have hi0:=hZhs.2.2.2.1;have hi1:=hZhs.2.2.2.2;obtain⟨i,rfl⟩:=Int.eq_ofNat_of_zero_le hi0;have hil:i<l.length:=by omega
 refine⟨[(8,lpPlace bs l i)],?_⟩
 conv=>arg 1; cbv
 simp (maxSteps:=4000000) only [fms,true_and,and_true,eq_self];have hr:=stow_row hs hil;unfold stowAt at hr;simp only [Bool.and_eq_true,decide_eq_true_eq] at hr;have hso:=hr.2.1.1;unfold slotOk at hso;simp only [Bool.and_eq_true,decide_eq_true_eq] at hso;have hcol:0<=(l.getD i Tc.stowed.dflt).col/\(l.getD i Tc.stowed.dflt).col<(s.cols.length:Int):=⟨hso.1,hso.2.1⟩
 have h3:=(stow_three hs _ (getD_mem Tc.stowed.dflt hil)).2;have hfd:∀ j,j<l.length->(findV bs (l.getD j Tc.stowed.dflt).box).2=true:=fun j hj=>stow_found hs _ (getD_mem Tc.stowed.dflt hj);have hcb:=(((ship_iff s).1 ((stow_iff s bs l).1 hs).1).2.1 (l.getD i Tc.stowed.dflt).col.toNat (by omega)).1;unfold colB colSpans at hcb;simp only [List.all_cons,List.all_nil,Bool.and_true,Bool.and_eq_true,spnB,decide_eq_true_eq] at hcb;obtain⟨_,_,_,_,_,_,_,_,hx,hy,hz⟩:=hcb;clear hr hso;refine⟨⟨by omega,by omega⟩,hcol,fun h0=>⟨⟨Nat.zero_le _,rfl,rfl⟩,fun (k:Nat) hk => ?_⟩,fun h0=>⟨⟨Nat.zero_le _,rfl,rfl⟩,fun (k:Nat) hk => ?_⟩⟩
 . have hk1:k<=l.length:=hk;have ha:halfA (l.getD i Tc.stowed.dflt).half=1:=by rw [h0]; rfl
   conv=>arg 1; cbv
   simp (maxSteps:=4000000) only [fms,true_and,and_true,eq_self];have hub:=under_bound bs (l.take k) (l.getD i Tc.stowed.dflt).col (halfA (l.getD i Tc.stowed.dflt).half) (l.getD i Tc.stowed.dflt).tier;rw [List.length_take] at hub;have hkl:min k l.length=k:=by omega
   rw [hkl] at hub;refine⟨fun g => ?_,fun g => ?_⟩
   . have hlt:k<l.length:=by omega
     have hn:=under_next (bs:=bs) (c:=(l.getD i Tc.stowed.dflt).col) (a:=halfA (l.getD i Tc.stowed.dflt).half) (t:=(l.getD i Tc.stowed.dflt).tier) hlt;have hN:uAt bs (l.getD i Tc.stowed.dflt).col (halfA (l.getD i Tc.stowed.dflt).half) (l.getD i Tc.stowed.dflt).tier (l.getD k Tc.stowed.dflt)=0->inI64 ((k:Int)+1)/\(k+1<=l.length/\l.length - (k+1)<l.length - k)/\(k:Int)+1=((k+1:Nat):Int)/\underF bs (l.take k) (l.getD i Tc.stowed.dflt).col (halfA (l.getD i Tc.stowed.dflt).half) (l.getD i Tc.stowed.dflt).tier=underF bs (l.take (k+1)) (l.getD i Tc.stowed.dflt).col (halfA (l.getD i Tc.stowed.dflt).half) (l.getD i Tc.stowed.dflt).tier:=fun e=>⟨by simp only [inI64]; omega,⟨by omega,by omega⟩,by omega,by rw [hn,e]; omega⟩
     have htb:=tallB_bound (findV bs (l.getD k Tc.stowed.dflt).box).1;have hY:_:=(fun e=>⟨⟨by omega,by omega⟩,hbl,by simp only [inI64]; omega,by simp only [inI64]; omega,⟨by omega,by omega⟩,by omega,by rw [hn,e]⟩:uAt bs (l.getD i Tc.stowed.dflt).col (halfA (l.getD i Tc.stowed.dflt).half) (l.getD i Tc.stowed.dflt).tier (l.getD k Tc.stowed.dflt)=tallB (findV bs (l.getD k Tc.stowed.dflt).box).1->(0<=(k:Int)/\(k:Int)<(l.length:Int))/\bs.length<=1000000000000/\inI64 (underF bs (l.take k) (l.getD i Tc.stowed.dflt).col (halfA (l.getD i Tc.stowed.dflt).half) (l.getD i Tc.stowed.dflt).tier+tallB (findV bs (l.getD k Tc.stowed.dflt).box).1)/\inI64 ((k:Int)+1)/\(k+1<=l.length/\l.length - (k+1)<l.length - k)/\(k:Int)+1=((k+1:Nat):Int)/\underF bs (l.take k) (l.getD i Tc.stowed.dflt).col (halfA (l.getD i Tc.stowed.dflt).half) (l.getD i Tc.stowed.dflt).tier+tallB (findV bs (l.getD k Tc.stowed.dflt).box).1=underF bs (l.take (k+1)) (l.getD i Tc.stowed.dflt).col (halfA (l.getD i Tc.stowed.dflt).half) (l.getD i Tc.stowed.dflt).tier)
     exact⟨⟨by omega,by omega⟩,fun c=>⟨fun t=>⟨fun z=>hY (uAt_yes (hfd k hlt) c t (.inr z)),fun z=>⟨fun e=>hY (uAt_yes (hfd k hlt) c t (.inl (e.trans ha.symm))),fun e=>hN (uAt_no (.inr (.inr ⟨fun q=>e (q.trans ha),z⟩)))⟩⟩,fun t=>hN (uAt_no (.inr (.inl t)))⟩,fun c=>hN (uAt_no (.inl c))⟩
   have hkk:k=l.length:=by omega
   subst hkk;simp only [List.take_length];have hU:=under_bound bs l (l.getD i Tc.stowed.dflt).col (halfA (l.getD i Tc.stowed.dflt).half) (l.getD i Tc.stowed.dflt).tier;have hT:=tallB_bound (findV bs (l.getD i Tc.stowed.dflt).box).1;have hE:∀ X,X=midX (s.cols.getD (l.getD i Tc.stowed.dflt).col.toNat Tc.col.dflt) (l.getD i Tc.stowed.dflt).half->(0<=(i:Int)/\(i:Int)<(l.length:Int))/\bs.length<=1000000000000/\inI64 (2*(s.cols.getD (l.getD i Tc.stowed.dflt).col.toNat Tc.col.dflt).z)/\inI64 (2*underF bs l (l.getD i Tc.stowed.dflt).col (halfA (l.getD i Tc.stowed.dflt).half) (l.getD i Tc.stowed.dflt).tier)/\inI64 (2*(s.cols.getD (l.getD i Tc.stowed.dflt).col.toNat Tc.col.dflt).z+2*underF bs l (l.getD i Tc.stowed.dflt).col (halfA (l.getD i Tc.stowed.dflt).half) (l.getD i Tc.stowed.dflt).tier)/\inI64 (2*(s.cols.getD (l.getD i Tc.stowed.dflt).col.toNat Tc.col.dflt).z+2*underF bs l (l.getD i Tc.stowed.dflt).col (halfA (l.getD i Tc.stowed.dflt).half) (l.getD i Tc.stowed.dflt).tier+tallB (findV bs (l.getD i Tc.stowed.dflt).box).1)/\X=(placeF s bs l (l.getD i Tc.stowed.dflt)).1/\(s.cols.getD (l.getD i Tc.stowed.dflt).col.toNat Tc.col.dflt).y=(placeF s bs l (l.getD i Tc.stowed.dflt)).2.1/\2*(s.cols.getD (l.getD i Tc.stowed.dflt).col.toNat Tc.col.dflt).z+2*underF bs l (l.getD i Tc.stowed.dflt).col (halfA (l.getD i Tc.stowed.dflt).half) (l.getD i Tc.stowed.dflt).tier+tallB (findV bs (l.getD i Tc.stowed.dflt).box).1=(placeF s bs l (l.getD i Tc.stowed.dflt)).2.2:=fun X e=>⟨⟨by omega,by omega⟩,hbl,by simp only [inI64]; omega,by simp only [inI64]; omega,by simp only [inI64]; omega,by simp only [inI64]; omega,e,rfl,by show _=2*((s.cols.getD (l.getD i Tc.stowed.dflt).col.toNat Tc.col.dflt).z+underF bs l (l.getD i Tc.stowed.dflt).col (halfA (l.getD i Tc.stowed.dflt).half) (l.getD i Tc.stowed.dflt).tier)+tallB (findV bs (l.getD i Tc.stowed.dflt).box).1; omega⟩
   exact⟨fun o=>⟨by simp only [inI64]; omega,fun w=>absurd (o.symm.trans w) (by decide),fun w=>hE _ (by unfold midX; rw [decide_eq_true o]; rfl)⟩,fun o=>⟨fun w=>⟨by simp only [inI64]; omega,hE _ (by unfold midX; rw [decide_eq_false o,decide_eq_true w]; rfl)⟩,fun w=>hE _ (by unfold midX; rw [decide_eq_false o,decide_eq_false w]; rfl)⟩⟩
 . have hk1:k<=l.length:=hk;have ha:halfA (l.getD i Tc.stowed.dflt).half=(l.getD i Tc.stowed.dflt).half:=by rcases h3 with h|h|h<;>first|exact absurd h h0|(rw [h]; rfl)
   conv=>arg 1; cbv
   simp (maxSteps:=4000000) only [fms,true_and,and_true,eq_self];have hub:=under_bound bs (l.take k) (l.getD i Tc.stowed.dflt).col (halfA (l.getD i Tc.stowed.dflt).half) (l.getD i Tc.stowed.dflt).tier;rw [List.length_take] at hub;have hkl:min k l.length=k:=by omega
   rw [hkl] at hub;refine⟨fun g => ?_,fun g => ?_⟩
   . have hlt:k<l.length:=by omega
     have hn:=under_next (bs:=bs) (c:=(l.getD i Tc.stowed.dflt).col) (a:=halfA (l.getD i Tc.stowed.dflt).half) (t:=(l.getD i Tc.stowed.dflt).tier) hlt;have hN:uAt bs (l.getD i Tc.stowed.dflt).col (halfA (l.getD i Tc.stowed.dflt).half) (l.getD i Tc.stowed.dflt).tier (l.getD k Tc.stowed.dflt)=0->inI64 ((k:Int)+1)/\(k+1<=l.length/\l.length - (k+1)<l.length - k)/\(k:Int)+1=((k+1:Nat):Int)/\underF bs (l.take k) (l.getD i Tc.stowed.dflt).col (halfA (l.getD i Tc.stowed.dflt).half) (l.getD i Tc.stowed.dflt).tier=underF bs (l.take (k+1)) (l.getD i Tc.stowed.dflt).col (halfA (l.getD i Tc.stowed.dflt).half) (l.getD i Tc.stowed.dflt).tier:=fun e=>⟨by simp only [inI64]; omega,⟨by omega,by omega⟩,by omega,by rw [hn,e]; omega⟩
     have htb:=tallB_bound (findV bs (l.getD k Tc.stowed.dflt).box).1;have hY:_:=(fun e=>⟨⟨by omega,by omega⟩,hbl,by simp only [inI64]; omega,by simp only [inI64]; omega,⟨by omega,by omega⟩,by omega,by rw [hn,e]⟩:uAt bs (l.getD i Tc.stowed.dflt).col (halfA (l.getD i Tc.stowed.dflt).half) (l.getD i Tc.stowed.dflt).tier (l.getD k Tc.stowed.dflt)=tallB (findV bs (l.getD k Tc.stowed.dflt).box).1->(0<=(k:Int)/\(k:Int)<(l.length:Int))/\bs.length<=1000000000000/\inI64 (underF bs (l.take k) (l.getD i Tc.stowed.dflt).col (halfA (l.getD i Tc.stowed.dflt).half) (l.getD i Tc.stowed.dflt).tier+tallB (findV bs (l.getD k Tc.stowed.dflt).box).1)/\inI64 ((k:Int)+1)/\(k+1<=l.length/\l.length - (k+1)<l.length - k)/\(k:Int)+1=((k+1:Nat):Int)/\underF bs (l.take k) (l.getD i Tc.stowed.dflt).col (halfA (l.getD i Tc.stowed.dflt).half) (l.getD i Tc.stowed.dflt).tier+tallB (findV bs (l.getD k Tc.stowed.dflt).box).1=underF bs (l.take (k+1)) (l.getD i Tc.stowed.dflt).col (halfA (l.getD i Tc.stowed.dflt).half) (l.getD i Tc.stowed.dflt).tier)
     exact⟨⟨by omega,by omega⟩,fun c=>⟨fun t=>⟨fun z=>hY (uAt_yes (hfd k hlt) c t (.inr z)),fun z=>⟨fun e=>hY (uAt_yes (hfd k hlt) c t (.inl (e.trans ha.symm))),fun e=>hN (uAt_no (.inr (.inr ⟨fun q=>e (q.trans ha),z⟩)))⟩⟩,fun t=>hN (uAt_no (.inr (.inl t)))⟩,fun c=>hN (uAt_no (.inl c))⟩
   have hkk:k=l.length:=by omega
   subst hkk;simp only [List.take_length];have hU:=under_bound bs l (l.getD i Tc.stowed.dflt).col (halfA (l.getD i Tc.stowed.dflt).half) (l.getD i Tc.stowed.dflt).tier;have hT:=tallB_bound (findV bs (l.getD i Tc.stowed.dflt).box).1;have hE:∀ X,X=midX (s.cols.getD (l.getD i Tc.stowed.dflt).col.toNat Tc.col.dflt) (l.getD i Tc.stowed.dflt).half->(0<=(i:Int)/\(i:Int)<(l.length:Int))/\bs.length<=1000000000000/\inI64 (2*(s.cols.getD (l.getD i Tc.stowed.dflt).col.toNat Tc.col.dflt).z)/\inI64 (2*underF bs l (l.getD i Tc.stowed.dflt).col (halfA (l.getD i Tc.stowed.dflt).half) (l.getD i Tc.stowed.dflt).tier)/\inI64 (2*(s.cols.getD (l.getD i Tc.stowed.dflt).col.toNat Tc.col.dflt).z+2*underF bs l (l.getD i Tc.stowed.dflt).col (halfA (l.getD i Tc.stowed.dflt).half) (l.getD i Tc.stowed.dflt).tier)/\inI64 (2*(s.cols.getD (l.getD i Tc.stowed.dflt).col.toNat Tc.col.dflt).z+2*underF bs l (l.getD i Tc.stowed.dflt).col (halfA (l.getD i Tc.stowed.dflt).half) (l.getD i Tc.stowed.dflt).tier+tallB (findV bs (l.getD i Tc.stowed.dflt).box).1)/\X=(placeF s bs l (l.getD i Tc.stowed.dflt)).1/\(s.cols.getD (l.getD i Tc.stowed.dflt).col.toNat Tc.col.dflt).y=(placeF s bs l (l.getD i Tc.stowed.dflt)).2.1/\2*(s.cols.getD (l.getD i Tc.stowed.dflt).col.toNat Tc.col.dflt).z+2*underF bs l (l.getD i Tc.stowed.dflt).col (halfA (l.getD i Tc.stowed.dflt).half) (l.getD i Tc.stowed.dflt).tier+tallB (findV bs (l.getD i Tc.stowed.dflt).box).1=(placeF s bs l (l.getD i Tc.stowed.dflt)).2.2:=fun X e=>⟨⟨by omega,by omega⟩,hbl,by simp only [inI64]; omega,by simp only [inI64]; omega,by simp only [inI64]; omega,by simp only [inI64]; omega,e,rfl,by show _=2*((s.cols.getD (l.getD i Tc.stowed.dflt).col.toNat Tc.col.dflt).z+underF bs l (l.getD i Tc.stowed.dflt).col (halfA (l.getD i Tc.stowed.dflt).half) (l.getD i Tc.stowed.dflt).tier)+tallB (findV bs (l.getD i Tc.stowed.dflt).box).1; omega⟩
   exact⟨fun o=>⟨by simp only [inI64]; omega,fun w=>absurd (o.symm.trans w) (by decide),fun w=>hE _ (by unfold midX; rw [decide_eq_true o]; rfl)⟩,fun o=>⟨fun w=>⟨by simp only [inI64]; omega,hE _ (by unfold midX; rw [decide_eq_false o,decide_eq_true w]; rfl)⟩,fun w=>hE _ (by unfold midX; rw [decide_eq_false o,decide_eq_false w]; rfl)⟩⟩
/- sums -/
theorem sumW_perm {l m:List Ld} (h:l.Perm m):sumW l=sumW m:=by
 induction h with
 | nil=>rfl
 | cons x _ ih=>rw [sumW_cons,sumW_cons,ih]
 | swap x y l=>rw [sumW_cons,sumW_cons,sumW_cons,sumW_cons,<- add_assoc',<- add_assoc',add_comm' y x]
 | trans _ _ ih1 ih2=>exact ih1.trans ih2
def midE (s:Shp) (bs:List Box) (l:List Stowed) (e:Stowed):Mid:=⟨(findV bs e.box).1,(placeF s bs l e).1,(placeF s bs l e).2.1,(placeF s bs l e).2.2⟩
theorem mids_map {s:Shp} {bs:List Box} {l:List Stowed} (h:stowB s bs l=true):midsL s.cols bs (sortT l)=(sortT l).map (midE s bs l):=by
 apply List.ext_getElem?;intro j;unfold midsL midsK;rw [List.getElem?_map,List.getElem?_map];by_cases hj:j<(sortT l).length
 . rw [List.getElem?_range hj,List.getElem?_eq_getElem hj,Option.map_some,Option.map_some,List.getD_eq_getElem?_getD,List.getElem?_eq_getElem hj,Option.getD_some,mid_place h hj];rfl
 . rw [List.getElem?_eq_none (by rw [List.length_range]; omega),List.getElem?_eq_none (by omega)];rfl
def rawE (s:Shp) (bs:List Box) (l:List Stowed) (e:Stowed):Ld:=rawP (midE s bs l e)
theorem point_raw {m:Mid} (h:(0<=m.box.kilos/\m.box.kilos<=40000)/\(-1100000<=m.x/\m.x<=1100000)/\(-1100000<=m.y/\m.y<=1100000) /\ -1100000<=m.h/\m.h<=1100000):pointOf m=rawP m/\ldOk (rawP m)=true:=by
 constructor
 . unfold pointOf pointF;rw [if_pos]
   . rfl
   . simp only [Bool.and_eq_true];exact⟨wOk_iff.2 (by omega),inArm_iff.2 (by omega),inArm_iff.2 (by omega),inArm_iff.2 (by omega)⟩
 . have arm:∀ x:Int,-1100000<=x->x<=1100000 -> -(m.box.kilos*1100000)<=m.box.kilos*x/\m.box.kilos*x<=m.box.kilos*1100000:=fun x h3 h4=>by
    have h5:m.box.kilos*x<=m.box.kilos*1100000:=Int.mul_le_mul_of_nonneg_left (by omega) h.1.1;have h6:m.box.kilos*(-1100000)<=m.box.kilos*x:=Int.mul_le_mul_of_nonneg_left (by omega) h.1.1;omega
   exact ldOk_of ⟨⟨h.1.1,by show m.box.kilos<=_; omega⟩,arm _ (by omega) (by omega),arm _ (by omega) (by omega),arm _ (by omega) (by omega)⟩
theorem valid_all {bs:List Box} (h:(boxValid bs).2=0):∀ b∈bs,boxB b=true:=by
 intro b hb;obtain⟨k,hk,rfl⟩:=List.getElem_of_mem hb;unfold boxValid at h;split at h
 . cases h
 split at h
 . cases h
 rename_i h1;rw [List.find?_eq_none] at h1;have h2:=h1 k (List.mem_range.2 hk);unfold boxBad at h2;rw [List.getElem?_eq_getElem hk] at h2;simp only [Bool.or_eq_true,not_or,Bool.not_eq_true,Bool.not_eq_false'] at h2;exact h2.2
theorem boxB_kilos {b:Box} (h:boxB b=true):1<=b.kilos/\b.kilos<=40000:=by
 unfold boxB at h;simp only [Bool.and_eq_true] at h;have h3:bWithin b.kilos 1 (kMost b.size)=true:=h.1.1.2;unfold bWithin kMost at h3;simp only [Bool.and_eq_true,decide_eq_true_eq] at h3;split at h3<;>omega
theorem cargo_kilos {s:Shp} {bs:List Box} {l:List Stowed} (h:cargoB s bs l=true) (id:Int):0<=(findV bs id).1.kilos/\(findV bs id).1.kilos<=40000:=by
 unfold cargoB at h;simp only [Bool.and_eq_true,decide_eq_true_eq] at h;exact findV_kilos (fun b hb=>by have:=boxB_kilos (valid_all h.1 b hb); omega) (by omega) id
theorem stow_tier {s:Shp} {bs:List Box} {l:List Stowed} (h:stowB s bs l=true) {e:Stowed} (he:e∈l):(0<=e.tier/\e.tier<=9)/\(-500000<=(s.cols.getD e.col.toNat Tc.col.dflt).x/\(s.cols.getD e.col.toNat Tc.col.dflt).x<=500000)/\(-500000<=(s.cols.getD e.col.toNat Tc.col.dflt).y/\(s.cols.getD e.col.toNat Tc.col.dflt).y<=500000)/\(-500000<=(s.cols.getD e.col.toNat Tc.col.dflt).z/\(s.cols.getD e.col.toNat Tc.col.dflt).z<=500000):=by
 obtain⟨i,hi,rfl⟩:=List.getElem_of_mem he;have hr:=stow_row h hi;rw [show l[i]=l.getD i Tc.stowed.dflt from by rw [List.getD_eq_getElem?_getD,List.getElem?_eq_getElem hi]; rfl];unfold stowAt at hr;simp only [Bool.and_eq_true,decide_eq_true_eq] at hr;have hso:=hr.2.1.1;unfold slotOk at hso;simp only [Bool.and_eq_true,decide_eq_true_eq] at hso;have hZh1:0<=(l.getD i Tc.stowed.dflt).col/\(l.getD i Tc.stowed.dflt).col<(s.cols.length:Int)/\0<=(l.getD i Tc.stowed.dflt).tier/\(l.getD i Tc.stowed.dflt).tier<(s.cols.getD (l.getD i Tc.stowed.dflt).col.toNat Tc.col.dflt).tiers/\_:=hso;have h1:=hZh1.1;have h2:=hZh1.2.1;have h3:=hZh1.2.2.1;have h4:=hZh1.2.2.2.1;have _:=hZh1.2.2.2.2;have hcb:=(((ship_iff s).1 ((stow_iff s bs l).1 h).1).2.1 (l.getD i Tc.stowed.dflt).col.toNat (by omega)).1;unfold colB colSpans at hcb;simp only [List.all_cons,List.all_nil,Bool.and_true,Bool.and_eq_true,spnB,decide_eq_true_eq] at hcb;obtain⟨_,_,_,ht,_,_,_,_,hx,hy,hz⟩:=hcb;omega
theorem under_tier {s:Shp} {bs:List Box} {l:List Stowed} (h:stowB s bs l=true) {e:Stowed} (he:e∈l):0<=underF bs l e.col (halfA e.half) e.tier/\underF bs l e.col (halfA e.half) e.tier<=2896*e.tier:=by
 have h0:=(stow_tier h he).1.1;refine nameIt (halfA e.half) fun a ha => ?_;have ha0:a≠0:=by have:=halfA_two e.half; omega
 rw [ha];unfold underF;refine nameIt (l.filter fun x=>decide (x.tier<e.tier)) fun L hL => ?_;rw [hL];have hp:=heightF_part (bs:=bs) (c:=e.col) (a:=a) (fun x=>decide (x.col=e.col)&&(decide (x.half=a)||decide (x.half=0))) L fun x _ hx=>by
  unfold hAt;rw [if_neg]
  rintro⟨q1,q2⟩
  simp only [Bool.and_eq_false_iff,Bool.or_eq_false_iff,decide_eq_false_iff_not] at hx;rcases hx with hx|hx
  . exact hx q1
  . exact q2.elim hx.1 hx.2
 rw [<- hp];refine nameIt (L.filter fun x=>decide (x.col=e.col)&&(decide (x.half=a)||decide (x.half=0))) fun M hM => ?_;rw [hM];have hb:0<=heightF bs M e.col a/\heightF bs M e.col a<=2896*(M.length:Int):=sum_bound _ (hAt_bound bs e.col a) _;have hlen:M.length<=e.tier.toNat:=by
  have e1:M.length=(M.map (·.tier)).length:=by rw [List.length_map]
  have hin:∀ x∈M,x∈l/\x.tier<e.tier/\x.col=e.col/\(x.half=a\/x.half=0):=fun x hx=>by
   rw [<- hM,List.mem_filter,<- hL,List.mem_filter] at hx;simp only [Bool.and_eq_true,Bool.or_eq_true,decide_eq_true_eq] at hx;exact⟨hx.1.1,hx.1.2,hx.2.1,hx.2.2⟩
  have hsub:M.Sublist l:=by rw [<- hM,<- hL]; exact List.filter_sublist.trans List.filter_sublist
  rw [e1];have:((List.range e.tier.toNat).map fun k:Nat=>(k:Int)).length=e.tier.toNat:=by rw [List.length_map,List.length_range]
  rw [<- this];refine List.Nodup.length_le_of_subset ?_ fun t ht => ?_
  . unfold List.Nodup;rw [List.pairwise_map];refine List.Pairwise.imp_of_mem ?_ ((stow_nodup h).sublist hsub);intro x y hx hy hne ht;have q1:=hin x hx;have q2:=hin y hy;refine hne (stow_alone h q1.1 q2.1 ?_);unfold meetB sharesB slotOf;rcases q1.2.2.2 with g1|g1<;>rcases q2.2.2.2 with g2|g2<;>simp [q1.2.2.1,q2.2.2.1,g1,g2,ht]
  . obtain⟨x,hx,rfl⟩:=List.mem_map.1 ht;have q1:=hin x hx;have q2:=(stow_tier h q1.1).1.1;exact List.mem_map.2 ⟨x.tier.toNat,List.mem_range.2 (by omega),by omega⟩
 omega
theorem place_bound {s:Shp} {bs:List Box} {l:List Stowed} (h:stowB s bs l=true) {e:Stowed} (he:e∈l):(-1100000<=(placeF s bs l e).1/\(placeF s bs l e).1<=1100000)/\(-1100000<=(placeF s bs l e).2.1/\(placeF s bs l e).2.1<=1100000) /\ -1100000<=(placeF s bs l e).2.2/\(placeF s bs l e).2.2<=1100000:=by
 have h1:=stow_tier h he;have h2:=under_tier h he;have h3:=tallB_bound (findV bs e.box).1;refine⟨?_,?_,?_⟩
 . show -1100000<=midX _ _/\midX _ _<=1100000
   unfold midX;cases decide (e.half=1)<;>cases decide (e.half=2)<;>simp only [cond_true,cond_false]<;>omega
 . show -1100000<=(s.cols.getD _ Tc.col.dflt).y/\(s.cols.getD _ Tc.col.dflt).y<=1100000
   omega
 . show -1100000<=2*(_+_)+tallB _/\2*(_+_)+tallB _<=1100000
   omega
theorem raw_ok {s:Shp} {bs:List Box} {l:List Stowed} (h:cargoB s bs l=true) {e:Stowed} (he:e∈l):pointOf (midE s bs l e)=rawE s bs l e/\ldOk (rawE s bs l e)=true :=
 point_raw ⟨cargo_kilos h e.box,place_bound (cargo_stow h) he⟩
theorem sum_kilos {s:Shp} {bs:List Box} {l:List Stowed} (h:cargoB s bs l=true):∀ m:List Stowed,0<=(sumW (m.map (rawE s bs l))).kilos/\(sumW (m.map (rawE s bs l))).kilos<=40000*(m.length:Int)
 | []=>by simp [sumW,ld0]
 | e::m=>by
  have h1:=sum_kilos h m;have h2:=cargo_kilos h e.box;rw [List.map_cons,sumW_cons];show 0<=(findV bs e.box).1.kilos+_/\(findV bs e.box).1.kilos+_<=_
  simp only [List.length_cons];omega
theorem cargo_raw {s:Shp} {bs:List Box} {l:List Stowed} (h:cargoB s bs l=true) (hl:l.length<=1000):cargoF s bs l=(sumW (l.map (rawE s bs l)),0):=by
 have hst:=cargo_stow h;have hp:=sortT_perm l;unfold cargoF;rw [h,cond_true,mids_map hst,List.map_map];have e:(sortT l).map (pointOf∘midE s bs l)=(sortT l).map (rawE s bs l):=List.map_congr_left fun x hx=>(raw_ok h (hp.mem_iff.1 hx)).1;rw [e,<- sumW_perm (hp.map (rawE s bs l))];refine addF_sum (fun x hx => ?_) ?_
 . obtain⟨m,hm,rfl⟩:=List.mem_map.1 hx;exact (raw_ok h (hp.mem_iff.1 hm)).2
 . have:=sum_kilos h (sortT l);rw [hp.length_eq] at this;omega
def cargoPre (s:Shp) (bs:List Box) (l:List Stowed):Prop:=shipPre s/\(boxesPre bs/\∀ b∈bs,inI64 b.size)/\l.length<=1000
def conRSound:Con:=con3 95 kShip kBoxes kStos (fun s bs l=>cargoPre (s ()) (bs ()) (l ())) (fun s bs l => .bool fun _=>cargoB (s ()) (bs ()) (l ()))
set_option maxRecDepth 100000 in
set_option maxHeartbeats 4000000 in
theorem conRSound_ok:ConOk Tryz.prog conRSound:=by
 refine fnOk [conRValid,conRStow] ⟨conRValid_ok,conRStow_ok,trivial⟩ Tryz.func95 (by kernel_rfl) fun avs res h hp => ?_;obtain⟨(s:Shp),(bs:List Box),(l:List Stowed),rfl,rfl⟩:=gop3 h;clear h;obtain⟨h1,h2,h3⟩:cargoPre s bs l:=hp;refine⟨[],?_⟩
 conv=>arg 1; cbv
 simp (maxSteps:=4000000) only [fms,true_and,and_true,eq_self];refine⟨⟨h2.1.1,h2.1.2⟩,fun g=>⟨⟨h1,⟨h2.1.1,h2.2⟩,by omega⟩,?_⟩,fun g => ?_⟩
 . unfold cargoB;rw [decide_eq_true g,Bool.true_and]
 . unfold cargoB;rw [decide_eq_false g];rfl
def conRMiddle:Con:=con4 35 kShip kBoxes kStos kI (fun s bs l _=>cargoPre (s ()) (bs ()) (l ())) (fun s bs l id => .tup [.int .i64 fun _=>(middleF (s ()) (bs ()) (l ()) (id ())).1,.int .i64 fun _=>(middleF (s ()) (bs ()) (l ()) (id ())).2.1,.int .i64 fun _=>(middleF (s ()) (bs ()) (l ()) (id ())).2.2.1,.int .i64 fun _=>(middleF (s ()) (bs ()) (l ()) (id ())).2.2.2])
set_option maxRecDepth 100000 in
set_option maxHeartbeats 4000000 in
theorem conRMiddle_ok:ConOk Tryz.prog conRMiddle:=by
 refine fnOkO { kp := [(0,[0,1,2,3]),(1,[1,2,3,4]),(2,[]),(3,[1,2,3,4]),(4,[1,2,3,4,12]),(5,[1,2,3,4,12]),(6,[1,2,3,4,12]),(7,[1,2,4,12]),(8,[13,14,15]),(9,[])] } [conRSound,conRPlace] ⟨conRSound_ok,conRPlace_ok,trivial⟩ [] trivial Tryz.func35 (by kernel_rfl) fun avs res h hp => ?_;obtain⟨(s:Shp),(bs:List Box),(l:List Stowed),(id:Int),rfl,rfl⟩:=gop4 h;clear h;have hp':cargoPre s bs l:=hp;refine⟨[(4,lpUp 12 l fun j=>(l.getD j Tc.stowed.dflt).box≠id)],?_⟩
 conv=>arg 1; cbv
 simp (maxSteps:=4000000) only [fms,true_and,and_true,eq_self];have es:(⟨s.cols,s.covs,s.lk,s.lx,s.ly,s.lz,s.rows,s.frms,s.tnks,s.m1,s.m2,s.m3,s.m4⟩:Shp)=s:=rfl;simp only [es];refine⟨hp',fun g => ?_,fun g=>⟨⟨⟨Nat.zero_le _,fun j hj=>absurd hj (Nat.not_lt_zero _)⟩,rfl⟩,fun (k:Nat) hk => ?_⟩⟩
 . have hc:cargoB s bs l=false:=by simpa using g
   have e:middleF s bs l id=(0,0,0,2):=by unfold middleF; rw [hc]; rfl
   rw [e];exact⟨rfl,rfl,rfl,rfl⟩
 have hZhk1:k<=l.length/\∀ j,j<k->(l.getD j Tc.stowed.dflt).box≠id:=hk;have hk1:=hZhk1.1;have hk2:=hZhk1.2;have hc:cargoB s bs l=true:=by simpa using g
 have hl:=hp'.2.2
 conv=>arg 1; cbv
 simp (maxSteps:=4000000) only [fms,true_and,and_true,eq_self];simp only [es];refine⟨fun gk => ?_,fun gk => ?_⟩
 . have hlt:k<l.length:=by omega
   refine⟨⟨by omega,by omega⟩,fun c => ?_,fun c=>up_next (P:=fun j=>(l.getD j Tc.stowed.dflt).box≠id) (by omega) hlt hk2 c⟩;have hm:=middle_there hc (getD_mem Tc.stowed.dflt hlt);rw [c] at hm;rw [hm];refine⟨⟨cargo_stow hc,hp'.2.1.1.1,by omega,by omega,by omega⟩,?_⟩
   first|exact⟨rfl,rfl,rfl⟩|exact⟨rfl,rfl,rfl,rfl⟩|trivial
 . have hm:=middle_none (id:=id) hc fun e he=>by
    obtain⟨j,hj,rfl⟩:=List.getElem_of_mem he;have:=hk2 j (by omega);rwa [List.getD_eq_getElem?_getD,List.getElem?_eq_getElem hj] at this
   rw [hm];exact⟨rfl,rfl,rfl,rfl⟩
def conRLight:Con:=con1 38 kShip (fun _=>True) (fun s => .tup [.agg (ldL fun _=>(lightM (s ()).lk (s ()).lx (s ()).ly (s ()).lz).1),.int .i64 fun _=>(lightM (s ()).lk (s ()).lx (s ()).ly (s ()).lz).2])
set_option maxRecDepth 100000 in
set_option maxHeartbeats 4000000 in
theorem conRLight_ok:ConOk Tryz.prog conRLight:=by
 refine fnOk [conIn15,conPoint15] ⟨conIn15_ok,conPoint15_ok,trivial⟩ Tryz.func38 (by kernel_rfl) fun avs res h hp => ?_;obtain⟨(s:Shp),rfl,rfl⟩:=gop1 h;clear h;refine⟨[],?_⟩
 conv=>arg 1; cbv
 simp (maxSteps:=4000000) only [fms,true_and,and_true,eq_self];unfold lightM
 cases hz:inArm s.lz 1100000 with
 | false =>
  have:¬ (-1100000<=s.lz/\s.lz<=1100000):=fun q=>by
   have:=inArm_iff.2 q;rw [hz] at this;cases this
  simp [ld0];intro q1 q2;exact absurd ⟨q1,q2⟩ this
 | true =>
  have:=inArm_iff.1 hz;simp [inI64,show s.lz+s.lz=2*s.lz by omega];omega
def lpRCargo (s:Shp) (bs:List Box) (l:List Stowed):Lp where
 X:=Nat
 ov k := [(9,.int .i64 fun _=>(k:Int))]
 oe k := [(2,.box 102 (ldL fun _=>sumW ((l.take k).map (rawE s bs l))))]
 I k:=k<=l.length
 μ k _:=l.length - k
 x0:=0
 nx:=some fun k=>k+1
def conRCargo:Con:=con3 36 kShip kBoxes kStos (fun s bs l=>cargoPre (s ()) (bs ()) (l ())) (fun s bs l => .tup [.agg (ldL fun _=>(cargoF (s ()) (bs ()) (l ())).1),.int .i64 fun _=>(cargoF (s ()) (bs ()) (l ())).2])
set_option maxRecDepth 100000 in
set_option maxHeartbeats 4000000 in
theorem conRCargo_ok:ConOk Tryz.prog conRCargo:=by
 refine fnOkO { kp := [(0,[0,1,2]),(1,[1,2,3,6]),(2,[6]),(3,[1,2,3,6]),(4,[1,2,3,6,8]),(5,[1,2,3,6,8,9]),(6,[1,2,3,6,8,9]),(7,[1,2,3,6,8,9]),(8,[1,2,3,6,8,9,10,11,12]),(9,[1,2,3,6,8,9,10,11,12,13]),(10,[1,2,3,6,8,9,10,11,12,13]),(11,[1,2,3,6,8,9,11,12,13]),(12,[1,2,3,6,8,9,12,13]),(13,[6,8])] } [conRSound,conRPlace,conRFind] ⟨conRSound_ok,conRPlace_ok,conRFind_ok,trivial⟩ [] trivial Tryz.func36 (by kernel_rfl) fun avs res h hp => ?_;obtain⟨(s:Shp),(bs:List Box),(l:List Stowed),rfl,rfl⟩:=gop3 h;clear h;have hp':cargoPre s bs l:=hp;refine⟨[(5,lpRCargo s bs l)],?_⟩
 conv=>arg 1; cbv
 simp (maxSteps:=4000000) only [fms,true_and,and_true,eq_self];have es:(⟨s.cols,s.covs,s.lk,s.lx,s.ly,s.lz,s.rows,s.frms,s.tnks,s.m1,s.m2,s.m3,s.m4⟩:Shp)=s:=rfl;simp only [es];refine⟨hp',fun g => ?_,fun g=>⟨⟨Nat.zero_le _,rfl,rfl,rfl,rfl,rfl⟩,fun (k:Nat) hk => ?_⟩⟩
 . have hc:cargoB s bs l=false:=by simpa using g
   have e:cargoF s bs l=(ld0,2):=by unfold cargoF; rw [hc]; rfl
   rw [e];exact⟨rfl,rfl,rfl,rfl,rfl⟩
 have hk1:k<=l.length:=hk;have hc:cargoB s bs l=true:=by simpa using g
 have hl:=hp'.2.2
 conv=>arg 1; cbv
 simp (maxSteps:=4000000) only [fms,true_and,and_true,eq_self];simp only [es];have hall:∀ m:List Stowed,(∀ e∈m,e∈l)->m.length<=1000->ldOk (sumW (m.map (rawE s bs l)))=true:=fun m hm hn=>(sumW_ok _ (fun x hx=>by
  obtain⟨e,he,rfl⟩:=List.mem_map.1 hx;exact (raw_ok hc (hm e he)).2) (by have:=sum_kilos hc m; omega)).1
 refine⟨fun gk => ?_,fun gk => ?_⟩
 . have hlt:k<l.length:=by omega
   have b1:=ldOk_in (hall (l.take k) (fun e he=>List.mem_of_mem_take he) (by rw [List.length_take]; omega));have b2:=ldOk_in (raw_ok hc (getD_mem Tc.stowed.dflt hlt)).2;have hnx:sumW ((l.take (k+1)).map (rawE s bs l))=(sumW ((l.take k).map (rawE s bs l))).add (rawE s bs l (l.getD k Tc.stowed.dflt)):=by
    rw [take_getD Tc.stowed.dflt hlt,List.map_append,sumW_app,List.map_cons,List.map_nil,sumW_cons];congr 1;unfold Ld.add;apply Ld.ext'<;>simp [sumW,ld0]
   rw [hnx];generalize sumW ((l.take k).map (rawE s bs l))=A at b1 ⊢;generalize l.getD k Tc.stowed.dflt=e at b2 ⊢;have c1:(0<=(findV bs e.box).1.kilos/\(findV bs e.box).1.kilos<=500000000)/\(-550000000000000<=(findV bs e.box).1.kilos*(placeF s bs l e).1/\(findV bs e.box).1.kilos*(placeF s bs l e).1<=550000000000000)/\(-550000000000000<=(findV bs e.box).1.kilos*(placeF s bs l e).2.1/\(findV bs e.box).1.kilos*(placeF s bs l e).2.1<=550000000000000)/\(-550000000000000<=(findV bs e.box).1.kilos*(placeF s bs l e).2.2/\(findV bs e.box).1.kilos*(placeF s bs l e).2.2<=550000000000000):=b2;clear b2 hnx;refine⟨⟨cargo_stow hc,hp'.2.1.1.1,by omega,by omega,by omega⟩,⟨by omega,by omega⟩,hp'.2.1.1.1,?_,?_,?_,?_,?_,?_,?_,by simp only [inI64]; omega,⟨by omega,by omega⟩,by omega,rfl,rfl,rfl,rfl⟩
   all_goals (simp only [inI64]; omega)
 . rw [List.take_of_length_le (by omega),cargo_raw hc hl];exact⟨rfl,rfl,rfl,rfl,rfl⟩
structure Shpq where
 cols:List Colq
 colsN:Nat
 covs:List Covq
 covsN:Nat
 lk:Int
 lx:Int
 ly:Int
 lz:Int
 rows:List Hrow
 rowsN:Nat
 frms:List Frm
 frmsN:Nat
 tnks:List Tnkq
 tnksN:Nat
 m1:Int
 m2:Int
 m3:Int
 m4:Int
def AV.toWInts:AV->Option (Unit->List Int×Nat)
 | .wide false .int l n=>some fun _=>(l (),n ())
 | _=>none
theorem AV.toWInts_ {x:AV} {f:Unit->List Int×Nat} (h:x.toWInts=some f):x = .wide false .int (fun _=>(f ()).1) fun _=>(f ()).2:=by
 unfold AV.toWInts at h;split at h<;>cases h
 rfl
abbrev kWInts:Kd:=⟨List Int×Nat,.wide .int,fun f => .wide false .int (fun _=>(f ()).1) fun _=>(f ()).2,AV.toWInts,AV.toWInts_⟩
def AV.toWHrows:AV->Option (Unit->List Hrow×Nat)
 | .wide false .hrow l n=>some fun _=>(l (),n ())
 | _=>none
theorem AV.toWHrows_ {x:AV} {f:Unit->List Hrow×Nat} (h:x.toWHrows=some f):x = .wide false .hrow (fun _=>(f ()).1) fun _=>(f ()).2:=by
 unfold AV.toWHrows at h;split at h<;>cases h
 rfl
abbrev kWHrows:Kd:=⟨List Hrow×Nat,.wide .hrow,fun f => .wide false .hrow (fun _=>(f ()).1) fun _=>(f ()).2,AV.toWHrows,AV.toWHrows_⟩
def AV.toWFrms:AV->Option (Unit->List Frm×Nat)
 | .wide false .frm l n=>some fun _=>(l (),n ())
 | _=>none
theorem AV.toWFrms_ {x:AV} {f:Unit->List Frm×Nat} (h:x.toWFrms=some f):x = .wide false .frm (fun _=>(f ()).1) fun _=>(f ()).2:=by
 unfold AV.toWFrms at h;split at h<;>cases h
 rfl
abbrev kWFrms:Kd:=⟨List Frm×Nat,.wide .frm,fun f => .wide false .frm (fun _=>(f ()).1) fun _=>(f ()).2,AV.toWFrms,AV.toWFrms_⟩
def AV.toWBoxes:AV->Option (Unit->List Box×Nat)
 | .wide false .box l n=>some fun _=>(l (),n ())
 | _=>none
theorem AV.toWBoxes_ {x:AV} {f:Unit->List Box×Nat} (h:x.toWBoxes=some f):x = .wide false .box (fun _=>(f ()).1) fun _=>(f ()).2:=by
 unfold AV.toWBoxes at h;split at h<;>cases h
 rfl
abbrev kWBoxes:Kd:=⟨List Box×Nat,.wide .box,fun f => .wide false .box (fun _=>(f ()).1) fun _=>(f ()).2,AV.toWBoxes,AV.toWBoxes_⟩
def AV.toWStos:AV->Option (Unit->List Stowed×Nat)
 | .wide false .stowed l n=>some fun _=>(l (),n ())
 | _=>none
theorem AV.toWStos_ {x:AV} {f:Unit->List Stowed×Nat} (h:x.toWStos=some f):x = .wide false .stowed (fun _=>(f ()).1) fun _=>(f ()).2:=by
 unfold AV.toWStos at h;split at h<;>cases h
 rfl
abbrev kWStos:Kd:=⟨List Stowed×Nat,.wide .stowed,fun f => .wide false .stowed (fun _=>(f ()).1) fun _=>(f ()).2,AV.toWStos,AV.toWStos_⟩
def AV.toWColqs:AV->Option (Unit->List Colq×Nat)
 | .wide false .colq l n=>some fun _=>(l (),n ())
 | _=>none
theorem AV.toWColqs_ {x:AV} {f:Unit->List Colq×Nat} (h:x.toWColqs=some f):x = .wide false .colq (fun _=>(f ()).1) fun _=>(f ()).2:=by
 unfold AV.toWColqs at h;split at h<;>cases h
 rfl
abbrev kWColqs:Kd:=⟨List Colq×Nat,.wide .colq,fun f => .wide false .colq (fun _=>(f ()).1) fun _=>(f ()).2,AV.toWColqs,AV.toWColqs_⟩
def AV.toWCovqs:AV->Option (Unit->List Covq×Nat)
 | .wide false .covq l n=>some fun _=>(l (),n ())
 | _=>none
theorem AV.toWCovqs_ {x:AV} {f:Unit->List Covq×Nat} (h:x.toWCovqs=some f):x = .wide false .covq (fun _=>(f ()).1) fun _=>(f ()).2:=by
 unfold AV.toWCovqs at h;split at h<;>cases h
 rfl
abbrev kWCovqs:Kd:=⟨List Covq×Nat,.wide .covq,fun f => .wide false .covq (fun _=>(f ()).1) fun _=>(f ()).2,AV.toWCovqs,AV.toWCovqs_⟩
def AV.toWTnkqs:AV->Option (Unit->List Tnkq×Nat)
 | .wide false .tnkq l n=>some fun _=>(l (),n ())
 | _=>none
theorem AV.toWTnkqs_ {x:AV} {f:Unit->List Tnkq×Nat} (h:x.toWTnkqs=some f):x = .wide false .tnkq (fun _=>(f ()).1) fun _=>(f ()).2:=by
 unfold AV.toWTnkqs at h;split at h<;>cases h
 rfl
abbrev kWTnkqs:Kd:=⟨List Tnkq×Nat,.wide .tnkq,fun f => .wide false .tnkq (fun _=>(f ()).1) fun _=>(f ()).2,AV.toWTnkqs,AV.toWTnkqs_⟩
def AV.toHrow:AV->Option (Unit->Hrow)
 | .agg [a0,a1,a2,a3,a4]=>a0.toI.bind fun a0=>a1.toI.bind fun a1=>a2.toI.bind fun a2=>a3.toI.bind fun a3=>a4.toI.bind fun a4=>some fun _=>⟨a0 (),a1 (),a2 (),a3 (),a4 ()⟩
 | _=>none
theorem AV.toHrow_ {x:AV} {b:Unit->Hrow} (h:x.toHrow=some b):x = .agg (cellsAV false .hrow b):=by
 unfold AV.toHrow at h;split at h
 . simp only [Option.bind_eq_some_iff,Option.some.injEq] at h;obtain⟨a0,h0,a1,h1,a2,h2,a3,h3,a4,h4,rfl⟩:=h;rw [AV.toI_ h0,AV.toI_ h1,AV.toI_ h2,AV.toI_ h3,AV.toI_ h4];rfl
 . cases h
def covSg:List Sg := [.int .i64,.sl .int]
def AV.toCov:AV->Option (Unit->Cov)
 | .agg [a0,a1]=>a0.toI.bind fun a0=>a1.toInts.bind fun a1=>some fun _=>⟨a0 (),a1 ()⟩
 | _=>none
theorem AV.toCov_ {x:AV} {b:Unit->Cov} (h:x.toCov=some b):x = .agg (cellsAV false .cov b):=by
 unfold AV.toCov at h;split at h
 . simp only [Option.bind_eq_some_iff,Option.some.injEq] at h;obtain⟨a0,h0,a1,h1,rfl⟩:=h;rw [AV.toI_ h0,AV.toInts_ h1];rfl
 . cases h
abbrev kCov:Kd:=⟨Cov,.agg covSg,fun b => .agg (cellsAV false .cov b),AV.toCov,AV.toCov_⟩
def tnkSg:List Sg := [.int .i64,.int .i64,.int .i64,.int .i64,.int .i64,.sl .int]
def AV.toTnk:AV->Option (Unit->Tnk)
 | .agg [a0,a1,a2,a3,a4,a5]=>a0.toI.bind fun a0=>a1.toI.bind fun a1=>a2.toI.bind fun a2=>a3.toI.bind fun a3=>a4.toI.bind fun a4=>a5.toInts.bind fun a5=>some fun _=>⟨a0 (),a1 (),a2 (),a3 (),a4 (),a5 ()⟩
 | _=>none
theorem AV.toTnk_ {x:AV} {b:Unit->Tnk} (h:x.toTnk=some b):x = .agg (cellsAV false .tnk b):=by
 unfold AV.toTnk at h;split at h
 . simp only [Option.bind_eq_some_iff,Option.some.injEq] at h;obtain⟨a0,h0,a1,h1,a2,h2,a3,h3,a4,h4,a5,h5,rfl⟩:=h;rw [AV.toI_ h0,AV.toI_ h1,AV.toI_ h2,AV.toI_ h3,AV.toI_ h4,AV.toInts_ h5];rfl
 . cases h
abbrev kTnk:Kd:=⟨Tnk,.agg tnkSg,fun b => .agg (cellsAV false .tnk b),AV.toTnk,AV.toTnk_⟩
def colqSg:List Sg := [.int .i64,.int .i64,.bool,.int .i64,.int .i64,.int .i64,.int .i64,.int .i64,.wide .int,.int .i64,.int .i64,.int .i64]
def AV.toColq:AV->Option (Unit->Colq)
 | .agg [a0,a1,a2,a3,a4,a5,a6,a7,a8,a9,a10,a11]=>a0.toI.bind fun a0=>a1.toI.bind fun a1=>a2.toB.bind fun a2=>a3.toI.bind fun a3=>a4.toI.bind fun a4=>a5.toI.bind fun a5=>a6.toI.bind fun a6=>a7.toI.bind fun a7=>a8.toWInts.bind fun a8=>a9.toI.bind fun a9=>a10.toI.bind fun a10=>a11.toI.bind fun a11=>some fun _=>⟨a0 (),a1 (),a2 (),a3 (),a4 (),a5 (),a6 (),a7 (),(a8 ()).1,(a8 ()).2,a9 (),a10 (),a11 ()⟩
 | _=>none
theorem AV.toColq_ {x:AV} {b:Unit->Colq} (h:x.toColq=some b):x = .agg (cellsAV false .colq b):=by
 unfold AV.toColq at h;split at h
 . simp only [Option.bind_eq_some_iff,Option.some.injEq] at h;obtain⟨a0,h0,a1,h1,a2,h2,a3,h3,a4,h4,a5,h5,a6,h6,a7,h7,a8,h8,a9,h9,a10,h10,a11,h11,rfl⟩:=h;rw [AV.toI_ h0,AV.toI_ h1,AV.toB_ h2,AV.toI_ h3,AV.toI_ h4,AV.toI_ h5,AV.toI_ h6,AV.toI_ h7,AV.toWInts_ h8,AV.toI_ h9,AV.toI_ h10,AV.toI_ h11];rfl
 . cases h
abbrev kColq:Kd:=⟨Colq,.agg colqSg,fun b => .agg (cellsAV false .colq b),AV.toColq,AV.toColq_⟩
def covqSg:List Sg := [.int .i64,.wide .int]
def AV.toCovq:AV->Option (Unit->Covq)
 | .agg [a0,a1]=>a0.toI.bind fun a0=>a1.toWInts.bind fun a1=>some fun _=>⟨a0 (),(a1 ()).1,(a1 ()).2⟩
 | _=>none
theorem AV.toCovq_ {x:AV} {b:Unit->Covq} (h:x.toCovq=some b):x = .agg (cellsAV false .covq b):=by
 unfold AV.toCovq at h;split at h
 . simp only [Option.bind_eq_some_iff,Option.some.injEq] at h;obtain⟨a0,h0,a1,h1,rfl⟩:=h;rw [AV.toI_ h0,AV.toWInts_ h1];rfl
 . cases h
abbrev kCovq:Kd:=⟨Covq,.agg covqSg,fun b => .agg (cellsAV false .covq b),AV.toCovq,AV.toCovq_⟩
def tnkqSg:List Sg := [.int .i64,.int .i64,.int .i64,.int .i64,.int .i64,.wide .int]
def AV.toTnkq:AV->Option (Unit->Tnkq)
 | .agg [a0,a1,a2,a3,a4,a5]=>a0.toI.bind fun a0=>a1.toI.bind fun a1=>a2.toI.bind fun a2=>a3.toI.bind fun a3=>a4.toI.bind fun a4=>a5.toWInts.bind fun a5=>some fun _=>⟨a0 (),a1 (),a2 (),a3 (),a4 (),(a5 ()).1,(a5 ()).2⟩
 | _=>none
theorem AV.toTnkq_ {x:AV} {b:Unit->Tnkq} (h:x.toTnkq=some b):x = .agg (cellsAV false .tnkq b):=by
 unfold AV.toTnkq at h;split at h
 . simp only [Option.bind_eq_some_iff,Option.some.injEq] at h;obtain⟨a0,h0,a1,h1,a2,h2,a3,h3,a4,h4,a5,h5,rfl⟩:=h;rw [AV.toI_ h0,AV.toI_ h1,AV.toI_ h2,AV.toI_ h3,AV.toI_ h4,AV.toWInts_ h5];rfl
 . cases h
abbrev kTnkq:Kd:=⟨Tnkq,.agg tnkqSg,fun b => .agg (cellsAV false .tnkq b),AV.toTnkq,AV.toTnkq_⟩
def shpqL (fr:Bool) (b:Unit->Shpq):List AV := [.wide fr .colq (fun _=>(b ()).cols) (fun _=>(b ()).colsN),.wide fr .covq (fun _=>(b ()).covs) (fun _=>(b ()).covsN),.int .i64 fun _=>(b ()).lk,.int .i64 fun _=>(b ()).lx,.int .i64 fun _=>(b ()).ly,.int .i64 fun _=>(b ()).lz,.wide fr .hrow (fun _=>(b ()).rows) (fun _=>(b ()).rowsN),.wide fr .frm (fun _=>(b ()).frms) (fun _=>(b ()).frmsN),.wide fr .tnkq (fun _=>(b ()).tnks) (fun _=>(b ()).tnksN),.int .i64 fun _=>(b ()).m1,.int .i64 fun _=>(b ()).m2,.int .i64 fun _=>(b ()).m3,.int .i64 fun _=>(b ()).m4]
def shpqSg:List Sg := [.wide .colq,.wide .covq,.int .i64,.int .i64,.int .i64,.int .i64,.wide .hrow,.wide .frm,.wide .tnkq,.int .i64,.int .i64,.int .i64,.int .i64]
def AV.toShpq:AV->Option (Unit->Shpq)
 | .agg [a0,a1,a2,a3,a4,a5,a6,a7,a8,a9,a10,a11,a12]=>a0.toWColqs.bind fun a0=>a1.toWCovqs.bind fun a1=>a2.toI.bind fun a2=>a3.toI.bind fun a3=>a4.toI.bind fun a4=>a5.toI.bind fun a5=>a6.toWHrows.bind fun a6=>a7.toWFrms.bind fun a7=>a8.toWTnkqs.bind fun a8=>a9.toI.bind fun a9=>a10.toI.bind fun a10=>a11.toI.bind fun a11=>a12.toI.bind fun a12=>some fun _=>⟨(a0 ()).1,(a0 ()).2,(a1 ()).1,(a1 ()).2,a2 (),a3 (),a4 (),a5 (),(a6 ()).1,(a6 ()).2,(a7 ()).1,(a7 ()).2,(a8 ()).1,(a8 ()).2,a9 (),a10 (),a11 (),a12 ()⟩
 | _=>none
theorem AV.toShpq_ {x:AV} {b:Unit->Shpq} (h:x.toShpq=some b):x = .agg (shpqL false b):=by
 unfold AV.toShpq at h;split at h
 . simp only [Option.bind_eq_some_iff,Option.some.injEq] at h;obtain⟨a0,h0,a1,h1,a2,h2,a3,h3,a4,h4,a5,h5,a6,h6,a7,h7,a8,h8,a9,h9,a10,h10,a11,h11,a12,h12,rfl⟩:=h;rw [AV.toWColqs_ h0,AV.toWCovqs_ h1,AV.toI_ h2,AV.toI_ h3,AV.toI_ h4,AV.toI_ h5,AV.toWHrows_ h6,AV.toWFrms_ h7,AV.toWTnkqs_ h8,AV.toI_ h9,AV.toI_ h10,AV.toI_ h11,AV.toI_ h12];rfl
 . cases h
abbrev kShpq:Kd:=⟨Shpq,.agg shpqSg,fun b => .agg (shpqL false b),AV.toShpq,AV.toShpq_⟩
end Go.Proofs.YthfpdbjemfhieaaGreat
