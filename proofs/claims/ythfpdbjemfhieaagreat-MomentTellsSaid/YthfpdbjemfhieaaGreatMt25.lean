/-
  The kit: what is kept.
-/
import Derived.Test.YthfpdbjemfhieaaGreatMt24
import Derived.ProofKit
import Derived.SizedLaws
set_option linter.unusedVariables false
set_option linter.unusedSimpArgs false
namespace Go.Proofs.YthfpdbjemfhieaaGreat
open Go.RowKit
def conKeptInts:Con:=con2 53 kWInts kInts (fun o l=>o ()=(l ()++marks markI,(l ()).length)/\(l ()).length<=17592186043904) (fun _ _ => .blit true)
set_option maxRecDepth 100000 in
set_option maxHeartbeats 4000000 in
theorem conKeptInts_ok:ConOk Tryz.prog conKeptInts:=by
 refine fnOkO { kp := [(0,[0,1]),(1,[0,1]),(2,[]),(3,[0,1]),(4,[1,5]),(5,[1,5,6]),(6,[1,5,6]),(7,[1,5,6]),(8,[]),(9,[])] } [conKMark] ⟨conKMark_ok,trivial⟩ [] trivial Tryz.func53 (by kernel_rfl) fun avs res h hp => ?_;obtain⟨(o:List Int×Nat),(l:List Int),rfl,rfl⟩:=gop2 h;clear h;have hp':o=(l++marks markI,l.length)/\l.length<=17592186043904:=hp;clear hp;obtain⟨rfl,hl⟩:=hp';refine nameIt (marks markI) fun M hM => ?_;refine nameIt (l++M) fun L hL => ?_;refine nameIt (l.length+12) fun n hn => ?_;rw [hM,hL];have hM12:M.length=12:=by rw [<- hM,marks_len]
 have hLn:L.length=n:=by rw [<- hL,List.length_append,hM12]; omega
 refine⟨[(5,lpBelow 6 n fun _=>True)],?_⟩
 conv=>arg 1; cbv
 simp (maxSteps:=4000000) only [fms,true_and,and_true,eq_self];refine⟨fun h=>absurd h (by simp),fun _=>⟨by simp only [inI64]; omega,⟨by omega,by omega⟩,⟨⟨Nat.zero_le _,fun _ _=>trivial⟩,rfl⟩,fun (k:Nat) hk => ?_⟩⟩;have hk1:k<=n:=hk.1
 conv=>arg 1; cbv
 simp (maxSteps:=4000000) only [fms,true_and,and_true,eq_self];have hA:k<l.length->L.getD k Tc.int.dflt=(l.getD k Tc.int.dflt):=fun h=>by rw [<- hL,ahead_get (by omega)]
 have hB:l.length<=k->k<n->L.getD k Tc.int.dflt=markI (1000003*(1+7)+((k:Int) - (l.length:Int))):=fun h1 h2=>by
  rw [<- hL,behind_get (by omega),<- hM,marks_get _ _ (by omega),show ((k - l.length:Nat):Int)=(k:Int) - (l.length:Int) by omega]
 have hN:k<n->inI64 ((k:Int)+1)/\((k+1<=n/\∀ j,j<k+1->True)/\n - (k+1)<n - k)/\(k:Int)+1=((k+1:Nat):Int):=fun h=>⟨by simp only [inI64]; omega,⟨⟨by omega,fun _ _=>trivial⟩,by omega⟩,by omega⟩
 refine⟨fun g=>⟨fun g1 => ?_,fun g1 => ?_⟩,fun g=>trivial⟩
 . have e:=hA (by omega);exact⟨⟨by omega,by omega⟩,⟨by omega,by omega⟩,fun q=>by simp only [Bool.not_eq_true',decide_eq_false_iff_not] at q; exact (q (by rw [e])).elim,fun _=>⟨fun g2=>by omega,fun _=>hN (by omega)⟩⟩
 . have e:=hB (by omega) (by omega);exact⟨fun g2=>⟨⟨by omega,by omega⟩,by simp only [inI64]; omega,⟨⟨by omega,by omega⟩,by omega,by omega⟩,fun q=>by simp only [Bool.not_eq_true',decide_eq_false_iff_not] at q; exact (q (by rw [e]; first|done|rfl)).elim,fun _=>hN (by omega)⟩,fun g2=>by omega⟩
def conKeptRows:Con:=con2 103 kWHrows kHrows (fun o l=>o ()=(l ()++marks markRow,(l ()).length)/\(l ()).length<=1000000) (fun _ _ => .blit true)
set_option maxRecDepth 100000 in
set_option maxHeartbeats 4000000 in
theorem conKeptRows_ok:ConOk Tryz.prog conKeptRows:=by
 refine fnOkO { kp := [(0,[0,1]),(1,[0,1]),(2,[]),(3,[0,1]),(4,[1,5]),(5,[1,5,6]),(6,[1,5,6]),(7,[1,5,6]),(8,[]),(9,[])] } [conKMarkRow] ⟨conKMarkRow_ok,trivial⟩ [] trivial Tryz.func103 (by kernel_rfl) fun avs res h hp => ?_;obtain⟨(o:List Hrow×Nat),(l:List Hrow),rfl,rfl⟩:=gop2 h;clear h;have hp':o=(l++marks markRow,l.length)/\l.length<=1000000:=hp;clear hp;obtain⟨rfl,hl⟩:=hp';refine nameIt (marks markRow) fun M hM => ?_;refine nameIt (l++M) fun L hL => ?_;refine nameIt (l.length+12) fun n hn => ?_;rw [hM,hL];have hM12:M.length=12:=by rw [<- hM,marks_len]
 have hLn:L.length=n:=by rw [<- hL,List.length_append,hM12]; omega
 refine⟨[(5,lpBelow 6 n fun _=>True)],?_⟩
 conv=>arg 1; cbv
 simp (maxSteps:=4000000) only [fms,true_and,and_true,eq_self];refine⟨fun h=>absurd h (by simp),fun _=>⟨by simp only [inI64]; omega,⟨by omega,by omega⟩,⟨⟨Nat.zero_le _,fun _ _=>trivial⟩,rfl⟩,fun (k:Nat) hk => ?_⟩⟩;have hk1:k<=n:=hk.1
 conv=>arg 1; cbv
 simp (maxSteps:=4000000) only [fms,true_and,and_true,eq_self];have hA:k<l.length->L.getD k Tc.hrow.dflt=(l.getD k Tc.hrow.dflt):=fun h=>by rw [<- hL,ahead_get (by omega)]
 have hB:l.length<=k->k<n->L.getD k Tc.hrow.dflt=markRow (1000003*(1+7)+((k:Int) - (l.length:Int))):=fun h1 h2=>by
  rw [<- hL,behind_get (by omega),<- hM,marks_get _ _ (by omega),show ((k - l.length:Nat):Int)=(k:Int) - (l.length:Int) by omega]
 have hN:k<n->inI64 ((k:Int)+1)/\((k+1<=n/\∀ j,j<k+1->True)/\n - (k+1)<n - k)/\(k:Int)+1=((k+1:Nat):Int):=fun h=>⟨by simp only [inI64]; omega,⟨⟨by omega,fun _ _=>trivial⟩,by omega⟩,by omega⟩
 refine⟨fun g=>⟨fun g1 => ?_,fun g1 => ?_⟩,fun g=>trivial⟩
 . have e:=hA (by omega);exact⟨⟨by omega,by omega⟩,⟨by omega,by omega⟩,fun q=>by simp only [Bool.not_eq_true',decide_eq_false_iff_not] at q; exact (q (by rw [e])).elim,fun _=>⟨fun g2=>by omega,fun _=>hN (by omega)⟩⟩
 . have e:=hB (by omega) (by omega);exact⟨fun g2=>⟨⟨by omega,by omega⟩,by simp only [inI64]; omega,⟨⟨by omega,by omega⟩,by omega,by omega⟩,fun q=>by simp only [Bool.not_eq_true',decide_eq_false_iff_not] at q; exact (q (by rw [e]; first|done|rfl)).elim,fun _=>hN (by omega)⟩,fun g2=>by omega⟩
def conKeptFrames:Con:=con2 61 kWFrms kFrms (fun o l=>o ()=(l ()++marks markFrm,(l ()).length)/\(l ()).length<=1000000) (fun _ _ => .blit true)
set_option maxRecDepth 100000 in
set_option maxHeartbeats 4000000 in
theorem conKeptFrames_ok:ConOk Tryz.prog conKeptFrames:=by
 refine fnOkO { kp := [(0,[0,1]),(1,[0,1]),(2,[]),(3,[0,1]),(4,[1,5]),(5,[1,5,6]),(6,[1,5,6]),(7,[1,5,6]),(8,[]),(9,[])] } [conKMarkFrame] ⟨conKMarkFrame_ok,trivial⟩ [] trivial Tryz.func61 (by kernel_rfl) fun avs res h hp => ?_;obtain⟨(o:List Frm×Nat),(l:List Frm),rfl,rfl⟩:=gop2 h;clear h;have hp':o=(l++marks markFrm,l.length)/\l.length<=1000000:=hp;clear hp;obtain⟨rfl,hl⟩:=hp';refine nameIt (marks markFrm) fun M hM => ?_;refine nameIt (l++M) fun L hL => ?_;refine nameIt (l.length+12) fun n hn => ?_;rw [hM,hL];have hM12:M.length=12:=by rw [<- hM,marks_len]
 have hLn:L.length=n:=by rw [<- hL,List.length_append,hM12]; omega
 refine⟨[(5,lpBelow 6 n fun _=>True)],?_⟩
 conv=>arg 1; cbv
 simp (maxSteps:=4000000) only [fms,true_and,and_true,eq_self];refine⟨fun h=>absurd h (by simp),fun _=>⟨by simp only [inI64]; omega,⟨by omega,by omega⟩,⟨⟨Nat.zero_le _,fun _ _=>trivial⟩,rfl⟩,fun (k:Nat) hk => ?_⟩⟩;have hk1:k<=n:=hk.1
 conv=>arg 1; cbv
 simp (maxSteps:=4000000) only [fms,true_and,and_true,eq_self];have hA:k<l.length->L.getD k Tc.frm.dflt=(l.getD k Tc.frm.dflt):=fun h=>by rw [<- hL,ahead_get (by omega)]
 have hB:l.length<=k->k<n->L.getD k Tc.frm.dflt=markFrm (1000003*(1+7)+((k:Int) - (l.length:Int))):=fun h1 h2=>by
  rw [<- hL,behind_get (by omega),<- hM,marks_get _ _ (by omega),show ((k - l.length:Nat):Int)=(k:Int) - (l.length:Int) by omega]
 have hN:k<n->inI64 ((k:Int)+1)/\((k+1<=n/\∀ j,j<k+1->True)/\n - (k+1)<n - k)/\(k:Int)+1=((k+1:Nat):Int):=fun h=>⟨by simp only [inI64]; omega,⟨⟨by omega,fun _ _=>trivial⟩,by omega⟩,by omega⟩
 refine⟨fun g=>⟨fun g1 => ?_,fun g1 => ?_⟩,fun g=>trivial⟩
 . have e:=hA (by omega);exact⟨⟨by omega,by omega⟩,⟨by omega,by omega⟩,fun q=>by simp only [Bool.not_eq_true',decide_eq_false_iff_not] at q; exact (q (by rw [e])).elim,fun _=>⟨fun g2=>by omega,fun _=>hN (by omega)⟩⟩
 . have e:=hB (by omega) (by omega);exact⟨fun g2=>⟨⟨by omega,by omega⟩,by simp only [inI64]; omega,⟨⟨by omega,by omega⟩,by omega,by omega⟩,fun q=>by simp only [Bool.not_eq_true',decide_eq_false_iff_not] at q; exact (q (by rw [e]; first|done|rfl)).elim,fun _=>hN (by omega)⟩,fun g2=>by omega⟩
def conKeptBoxes:Con:=con2 40 kWBoxes kBoxes (fun o l=>o ()=(l ()++marks markBox,(l ()).length)/\(l ()).length<=1000000) (fun _ _ => .blit true)
set_option maxRecDepth 100000 in
set_option maxHeartbeats 4000000 in
theorem conKeptBoxes_ok:ConOk Tryz.prog conKeptBoxes:=by
 refine fnOkO { kp := [(0,[0,1]),(1,[0,1]),(2,[]),(3,[0,1]),(4,[1,5]),(5,[1,5,6]),(6,[1,5,6]),(7,[1,5,6]),(8,[]),(9,[])] } [conKMarkBox] ⟨conKMarkBox_ok,trivial⟩ [] trivial Tryz.func40 (by kernel_rfl) fun avs res h hp => ?_;obtain⟨(o:List Box×Nat),(l:List Box),rfl,rfl⟩:=gop2 h;clear h;have hp':o=(l++marks markBox,l.length)/\l.length<=1000000:=hp;clear hp;obtain⟨rfl,hl⟩:=hp';refine nameIt (marks markBox) fun M hM => ?_;refine nameIt (l++M) fun L hL => ?_;refine nameIt (l.length+12) fun n hn => ?_;rw [hM,hL];have hM12:M.length=12:=by rw [<- hM,marks_len]
 have hLn:L.length=n:=by rw [<- hL,List.length_append,hM12]; omega
 refine⟨[(5,lpBelow 6 n fun _=>True)],?_⟩
 conv=>arg 1; cbv
 simp (maxSteps:=4000000) only [fms,true_and,and_true,eq_self];refine⟨fun h=>absurd h (by simp),fun _=>⟨by simp only [inI64]; omega,⟨by omega,by omega⟩,⟨⟨Nat.zero_le _,fun _ _=>trivial⟩,rfl⟩,fun (k:Nat) hk => ?_⟩⟩;have hk1:k<=n:=hk.1
 conv=>arg 1; cbv
 simp (maxSteps:=4000000) only [fms,true_and,and_true,eq_self];have hA:k<l.length->L.getD k Tc.box.dflt=(l.getD k Tc.box.dflt):=fun h=>by rw [<- hL,ahead_get (by omega)]
 have hB:l.length<=k->k<n->L.getD k Tc.box.dflt=markBox (1000003*(1+7)+((k:Int) - (l.length:Int))):=fun h1 h2=>by
  rw [<- hL,behind_get (by omega),<- hM,marks_get _ _ (by omega),show ((k - l.length:Nat):Int)=(k:Int) - (l.length:Int) by omega]
 have hN:k<n->inI64 ((k:Int)+1)/\((k+1<=n/\∀ j,j<k+1->True)/\n - (k+1)<n - k)/\(k:Int)+1=((k+1:Nat):Int):=fun h=>⟨by simp only [inI64]; omega,⟨⟨by omega,fun _ _=>trivial⟩,by omega⟩,by omega⟩
 refine⟨fun g=>⟨fun g1 => ?_,fun g1 => ?_⟩,fun g=>trivial⟩
 . have e:=hA (by omega);exact⟨⟨by omega,by omega⟩,⟨by omega,by omega⟩,fun q=>by simp only [Bool.not_eq_true',decide_eq_false_iff_not] at q; exact (q (by rw [e])).elim,fun _=>⟨fun g2=>by omega,fun _=>hN (by omega)⟩⟩
 . have e:=hB (by omega) (by omega);exact⟨fun g2=>⟨⟨by omega,by omega⟩,by simp only [inI64]; omega,⟨⟨by omega,by omega⟩,by omega,by omega⟩,fun q=>by simp only [Bool.not_eq_true',decide_eq_false_iff_not] at q; exact (q (by rw [e]; first|done|rfl)).elim,fun _=>hN (by omega)⟩,fun g2=>by omega⟩
def conKeptStoweds:Con:=con2 41 kWStos kStos (fun o l=>o ()=(l ()++marks markSto,(l ()).length)/\(l ()).length<=1000000) (fun _ _ => .blit true)
set_option maxRecDepth 100000 in
set_option maxHeartbeats 4000000 in
theorem conKeptStoweds_ok:ConOk Tryz.prog conKeptStoweds:=by
 refine fnOkO { kp := [(0,[0,1]),(1,[0,1]),(2,[]),(3,[0,1]),(4,[1,5]),(5,[1,5,6]),(6,[1,5,6]),(7,[1,5,6]),(8,[]),(9,[])] } [conKMarkStowed] ⟨conKMarkStowed_ok,trivial⟩ [] trivial Tryz.func41 (by kernel_rfl) fun avs res h hp => ?_;obtain⟨(o:List Stowed×Nat),(l:List Stowed),rfl,rfl⟩:=gop2 h;clear h;have hp':o=(l++marks markSto,l.length)/\l.length<=1000000:=hp;clear hp;obtain⟨rfl,hl⟩:=hp';refine nameIt (marks markSto) fun M hM => ?_;refine nameIt (l++M) fun L hL => ?_;refine nameIt (l.length+12) fun n hn => ?_;rw [hM,hL];have hM12:M.length=12:=by rw [<- hM,marks_len]
 have hLn:L.length=n:=by rw [<- hL,List.length_append,hM12]; omega
 refine⟨[(5,lpBelow 6 n fun _=>True)],?_⟩
 conv=>arg 1; cbv
 simp (maxSteps:=4000000) only [fms,true_and,and_true,eq_self];refine⟨fun h=>absurd h (by simp),fun _=>⟨by simp only [inI64]; omega,⟨by omega,by omega⟩,⟨⟨Nat.zero_le _,fun _ _=>trivial⟩,rfl⟩,fun (k:Nat) hk => ?_⟩⟩;have hk1:k<=n:=hk.1
 conv=>arg 1; cbv
 simp (maxSteps:=4000000) only [fms,true_and,and_true,eq_self];have hA:k<l.length->L.getD k Tc.stowed.dflt=(l.getD k Tc.stowed.dflt):=fun h=>by rw [<- hL,ahead_get (by omega)]
 have hB:l.length<=k->k<n->L.getD k Tc.stowed.dflt=markSto (1000003*(1+7)+((k:Int) - (l.length:Int))):=fun h1 h2=>by
  rw [<- hL,behind_get (by omega),<- hM,marks_get _ _ (by omega),show ((k - l.length:Nat):Int)=(k:Int) - (l.length:Int) by omega]
 have hN:k<n->inI64 ((k:Int)+1)/\((k+1<=n/\∀ j,j<k+1->True)/\n - (k+1)<n - k)/\(k:Int)+1=((k+1:Nat):Int):=fun h=>⟨by simp only [inI64]; omega,⟨⟨by omega,fun _ _=>trivial⟩,by omega⟩,by omega⟩
 refine⟨fun g=>⟨fun g1 => ?_,fun g1 => ?_⟩,fun g=>trivial⟩
 . have e:=hA (by omega);exact⟨⟨by omega,by omega⟩,⟨by omega,by omega⟩,fun q=>by simp only [Bool.not_eq_true',decide_eq_false_iff_not] at q; exact (q (by rw [e])).elim,fun _=>⟨fun g2=>by omega,fun _=>hN (by omega)⟩⟩
 . have e:=hB (by omega) (by omega);exact⟨fun g2=>⟨⟨by omega,by omega⟩,by simp only [inI64]; omega,⟨⟨by omega,by omega⟩,by omega,by omega⟩,fun q=>by simp only [Bool.not_eq_true',decide_eq_false_iff_not] at q; exact (q (by rw [e]; first|done|rfl)).elim,fun _=>hN (by omega)⟩,fun g2=>by omega⟩
def conKeptColumn:Con:=con2 165 kColq kCol (fun x y=>x ()=lentColumn (y ())/\(y ()).plugs.length<=17592186043904) (fun _ _ => .blit true)
set_option maxRecDepth 100000 in
set_option maxHeartbeats 4000000 in
theorem conKeptColumn_ok:ConOk Tryz.prog conKeptColumn:=by
 refine fnOk [conSameColumn,conKeptInts] ⟨conSameColumn_ok,conKeptInts_ok,trivial⟩ Tryz.func165 (by kernel_rfl) fun avs res h hp => ?_;obtain⟨(x:Colq),(y:Col),rfl,rfl⟩:=gop2 h;clear h;have hp':x=lentColumn y/\y.plugs.length<=17592186043904:=hp;clear hp;obtain⟨rfl,hl⟩:=hp';refine⟨[],?_⟩
 conv=>arg 1; cbv
 simp (maxSteps:=4000000) only [fms,true_and,and_true,eq_self];have ht:(lentColumn y).plugs.take (lentColumn y).plugsN=y.plugs:=List.take_left;rw [ht];exact⟨⟨rfl,hl⟩,rfl,hl⟩
def conKeptColumns:Con:=con2 101 kWColqs kCols (fun o l=>o ()=((l ()).map lentColumn++marks markColq,(l ()).length)/\(l ()).length<=1000000/\∀ c∈l (),c.plugs.length<=17592186043904) (fun _ _ => .blit true)
set_option maxRecDepth 100000 in
set_option maxHeartbeats 4000000 in
theorem conKeptColumns_ok:ConOk Tryz.prog conKeptColumns:=by
 refine fnOkO { kp := [(0,[0,1]),(1,[0,1]),(2,[]),(3,[0,1]),(4,[1,5]),(5,[1,5,6]),(6,[1,5,6]),(7,[1,5,6]),(8,[]),(9,[])] } [conKMarkColumn,conKeptColumn,conSameColumn] ⟨conKMarkColumn_ok,conKeptColumn_ok,conSameColumn_ok,trivial⟩ [] trivial Tryz.func101 (by kernel_rfl) fun avs res h hp => ?_;obtain⟨(o:List Colq×Nat),(l:List Col),rfl,rfl⟩:=gop2 h;clear h;have hp':o=(l.map lentColumn++marks markColq,l.length)/\l.length<=1000000/\∀ c∈l,c.plugs.length<=17592186043904:=hp;clear hp;obtain⟨rfl,hl,hf⟩:=hp';refine nameIt (marks markColq) fun M hM => ?_;refine nameIt (l.map lentColumn++M) fun L hL => ?_;refine nameIt (l.length+12) fun n hn => ?_;rw [hM,hL];have hM12:M.length=12:=by rw [<- hM,marks_len]
 have hLn:L.length=n:=by rw [<- hL,List.length_append,hM12]; simp only [List.length_map]; omega
 refine⟨[(5,lpBelow 6 n fun _=>True)],?_⟩
 conv=>arg 1; cbv
 simp (maxSteps:=4000000) only [fms,true_and,and_true,eq_self];refine⟨fun h=>absurd h (by simp),fun _=>⟨by simp only [inI64]; omega,⟨by omega,by omega⟩,⟨⟨Nat.zero_le _,fun _ _=>trivial⟩,rfl⟩,fun (k:Nat) hk => ?_⟩⟩;have hk1:k<=n:=hk.1
 conv=>arg 1; cbv
 simp (maxSteps:=4000000) only [fms,true_and,and_true,eq_self];have hA:k<l.length->L.getD k Tc.colq.dflt=lentColumn (l.getD k Tc.col.dflt):=fun h=>by rw [<- hL,ahead_get (by simp only [List.length_map]; omega)]; exact mapd_get _ _ _ h
 have hB:l.length<=k->k<n->L.getD k Tc.colq.dflt=markColq (1000003*(1+7)+((k:Int) - (l.length:Int))):=fun h1 h2=>by
  rw [<- hL,behind_get (by simp only [List.length_map]; omega),<- hM,List.length_map,marks_get _ _ (by omega),show ((k - l.length:Nat):Int)=(k:Int) - (l.length:Int) by omega]
 have hN:k<n->inI64 ((k:Int)+1)/\((k+1<=n/\∀ j,j<k+1->True)/\n - (k+1)<n - k)/\(k:Int)+1=((k+1:Nat):Int):=fun h=>⟨by simp only [inI64]; omega,⟨⟨by omega,fun _ _=>trivial⟩,by omega⟩,by omega⟩
 refine⟨fun g=>⟨fun g1 => ?_,fun g1 => ?_⟩,fun g=>trivial⟩
 . have e:=hA (by omega);exact⟨⟨by omega,by omega⟩,⟨by omega,by omega⟩,⟨e,hf _ (getD_mem Tc.col.dflt (show k<l.length by omega))⟩,fun g2=>by omega,fun _=>hN (by omega)⟩
 . have e:=hB (by omega) (by omega);exact⟨fun g2=>⟨⟨by omega,by omega⟩,by simp only [inI64]; omega,⟨⟨by omega,by omega⟩,by omega,by omega⟩,⟨by rw [e]; rfl,by rw [e]; exact Nat.zero_le _⟩,hN (by omega)⟩,fun g2=>by omega⟩
def conKeptCover:Con:=con2 167 kCovq kCov (fun x y=>x ()=lentCover (y ())/\(y ()).rows.length<=17592186043904) (fun _ _ => .blit true)
set_option maxRecDepth 100000 in
set_option maxHeartbeats 4000000 in
theorem conKeptCover_ok:ConOk Tryz.prog conKeptCover:=by
 refine fnOk [conSameCover,conKeptInts] ⟨conSameCover_ok,conKeptInts_ok,trivial⟩ Tryz.func167 (by kernel_rfl) fun avs res h hp => ?_;obtain⟨(x:Covq),(y:Cov),rfl,rfl⟩:=gop2 h;clear h;have hp':x=lentCover y/\y.rows.length<=17592186043904:=hp;clear hp;obtain⟨rfl,hl⟩:=hp';refine⟨[],?_⟩
 conv=>arg 1; cbv
 simp (maxSteps:=4000000) only [fms,true_and,and_true,eq_self];have ht:(lentCover y).rows.take (lentCover y).rowsN=y.rows:=List.take_left;rw [ht];exact⟨⟨rfl,hl⟩,rfl,hl⟩
def conKeptCovers:Con:=con2 102 kWCovqs kCovs (fun o l=>o ()=((l ()).map lentCover++marks markCovq,(l ()).length)/\(l ()).length<=1000000/\∀ c∈l (),c.rows.length<=17592186043904) (fun _ _ => .blit true)
set_option maxRecDepth 100000 in
set_option maxHeartbeats 4000000 in
theorem conKeptCovers_ok:ConOk Tryz.prog conKeptCovers:=by
 refine fnOkO { kp := [(0,[0,1]),(1,[0,1]),(2,[]),(3,[0,1]),(4,[1,5]),(5,[1,5,6]),(6,[1,5,6]),(7,[1,5,6]),(8,[]),(9,[])] } [conKMarkCover,conKeptCover,conSameCover] ⟨conKMarkCover_ok,conKeptCover_ok,conSameCover_ok,trivial⟩ [] trivial Tryz.func102 (by kernel_rfl) fun avs res h hp => ?_;obtain⟨(o:List Covq×Nat),(l:List Cov),rfl,rfl⟩:=gop2 h;clear h;have hp':o=(l.map lentCover++marks markCovq,l.length)/\l.length<=1000000/\∀ c∈l,c.rows.length<=17592186043904:=hp;clear hp;obtain⟨rfl,hl,hf⟩:=hp';refine nameIt (marks markCovq) fun M hM => ?_;refine nameIt (l.map lentCover++M) fun L hL => ?_;refine nameIt (l.length+12) fun n hn => ?_;rw [hM,hL];have hM12:M.length=12:=by rw [<- hM,marks_len]
 have hLn:L.length=n:=by rw [<- hL,List.length_append,hM12]; simp only [List.length_map]; omega
 refine⟨[(5,lpBelow 6 n fun _=>True)],?_⟩
 conv=>arg 1; cbv
 simp (maxSteps:=4000000) only [fms,true_and,and_true,eq_self];refine⟨fun h=>absurd h (by simp),fun _=>⟨by simp only [inI64]; omega,⟨by omega,by omega⟩,⟨⟨Nat.zero_le _,fun _ _=>trivial⟩,rfl⟩,fun (k:Nat) hk => ?_⟩⟩;have hk1:k<=n:=hk.1
 conv=>arg 1; cbv
 simp (maxSteps:=4000000) only [fms,true_and,and_true,eq_self];have hA:k<l.length->L.getD k Tc.covq.dflt=lentCover (l.getD k Tc.cov.dflt):=fun h=>by rw [<- hL,ahead_get (by simp only [List.length_map]; omega)]; exact mapd_get _ _ _ h
 have hB:l.length<=k->k<n->L.getD k Tc.covq.dflt=markCovq (1000003*(1+7)+((k:Int) - (l.length:Int))):=fun h1 h2=>by
  rw [<- hL,behind_get (by simp only [List.length_map]; omega),<- hM,List.length_map,marks_get _ _ (by omega),show ((k - l.length:Nat):Int)=(k:Int) - (l.length:Int) by omega]
 have hN:k<n->inI64 ((k:Int)+1)/\((k+1<=n/\∀ j,j<k+1->True)/\n - (k+1)<n - k)/\(k:Int)+1=((k+1:Nat):Int):=fun h=>⟨by simp only [inI64]; omega,⟨⟨by omega,fun _ _=>trivial⟩,by omega⟩,by omega⟩
 refine⟨fun g=>⟨fun g1 => ?_,fun g1 => ?_⟩,fun g=>trivial⟩
 . have e:=hA (by omega);exact⟨⟨by omega,by omega⟩,⟨by omega,by omega⟩,⟨e,hf _ (getD_mem Tc.cov.dflt (show k<l.length by omega))⟩,fun g2=>by omega,fun _=>hN (by omega)⟩
 . have e:=hB (by omega) (by omega);exact⟨fun g2=>⟨⟨by omega,by omega⟩,by simp only [inI64]; omega,⟨⟨by omega,by omega⟩,by omega,by omega⟩,⟨by rw [e]; rfl,by rw [e]; exact Nat.zero_le _⟩,hN (by omega)⟩,fun g2=>by omega⟩
def conKeptTank:Con:=con2 169 kTnkq kTnk (fun x y=>x ()=lentTank (y ())/\(y ()).steps.length<=17592186043904) (fun _ _ => .blit true)
set_option maxRecDepth 100000 in
set_option maxHeartbeats 4000000 in
theorem conKeptTank_ok:ConOk Tryz.prog conKeptTank:=by
 refine fnOk [conSameTank,conKeptInts] ⟨conSameTank_ok,conKeptInts_ok,trivial⟩ Tryz.func169 (by kernel_rfl) fun avs res h hp => ?_;obtain⟨(x:Tnkq),(y:Tnk),rfl,rfl⟩:=gop2 h;clear h;have hp':x=lentTank y/\y.steps.length<=17592186043904:=hp;clear hp;obtain⟨rfl,hl⟩:=hp';refine⟨[],?_⟩
 conv=>arg 1; cbv
 simp (maxSteps:=4000000) only [fms,true_and,and_true,eq_self];have ht:(lentTank y).steps.take (lentTank y).stepsN=y.steps:=List.take_left;rw [ht];exact⟨⟨rfl,hl⟩,rfl,hl⟩
def conKeptTanks:Con:=con2 104 kWTnkqs kTnks (fun o l=>o ()=((l ()).map lentTank++marks markTnkq,(l ()).length)/\(l ()).length<=1000000/\∀ c∈l (),c.steps.length<=17592186043904) (fun _ _ => .blit true)
set_option maxRecDepth 100000 in
set_option maxHeartbeats 4000000 in
theorem conKeptTanks_ok:ConOk Tryz.prog conKeptTanks:=by
 refine fnOkO { kp := [(0,[0,1]),(1,[0,1]),(2,[]),(3,[0,1]),(4,[1,5]),(5,[1,5,6]),(6,[1,5,6]),(7,[1,5,6]),(8,[]),(9,[])] } [conKMarkTank,conKeptTank,conSameTank] ⟨conKMarkTank_ok,conKeptTank_ok,conSameTank_ok,trivial⟩ [] trivial Tryz.func104 (by kernel_rfl) fun avs res h hp => ?_;obtain⟨(o:List Tnkq×Nat),(l:List Tnk),rfl,rfl⟩:=gop2 h;clear h;have hp':o=(l.map lentTank++marks markTnkq,l.length)/\l.length<=1000000/\∀ c∈l,c.steps.length<=17592186043904:=hp;clear hp;obtain⟨rfl,hl,hf⟩:=hp';refine nameIt (marks markTnkq) fun M hM => ?_;refine nameIt (l.map lentTank++M) fun L hL => ?_;refine nameIt (l.length+12) fun n hn => ?_;rw [hM,hL];have hM12:M.length=12:=by rw [<- hM,marks_len]
 have hLn:L.length=n:=by rw [<- hL,List.length_append,hM12]; simp only [List.length_map]; omega
 refine⟨[(5,lpBelow 6 n fun _=>True)],?_⟩
 conv=>arg 1; cbv
 simp (maxSteps:=4000000) only [fms,true_and,and_true,eq_self];refine⟨fun h=>absurd h (by simp),fun _=>⟨by simp only [inI64]; omega,⟨by omega,by omega⟩,⟨⟨Nat.zero_le _,fun _ _=>trivial⟩,rfl⟩,fun (k:Nat) hk => ?_⟩⟩;have hk1:k<=n:=hk.1
 conv=>arg 1; cbv
 simp (maxSteps:=4000000) only [fms,true_and,and_true,eq_self];have hA:k<l.length->L.getD k Tc.tnkq.dflt=lentTank (l.getD k Tc.tnk.dflt):=fun h=>by rw [<- hL,ahead_get (by simp only [List.length_map]; omega)]; exact mapd_get _ _ _ h
 have hB:l.length<=k->k<n->L.getD k Tc.tnkq.dflt=markTnkq (1000003*(1+7)+((k:Int) - (l.length:Int))):=fun h1 h2=>by
  rw [<- hL,behind_get (by simp only [List.length_map]; omega),<- hM,List.length_map,marks_get _ _ (by omega),show ((k - l.length:Nat):Int)=(k:Int) - (l.length:Int) by omega]
 have hN:k<n->inI64 ((k:Int)+1)/\((k+1<=n/\∀ j,j<k+1->True)/\n - (k+1)<n - k)/\(k:Int)+1=((k+1:Nat):Int):=fun h=>⟨by simp only [inI64]; omega,⟨⟨by omega,fun _ _=>trivial⟩,by omega⟩,by omega⟩
 refine⟨fun g=>⟨fun g1 => ?_,fun g1 => ?_⟩,fun g=>trivial⟩
 . have e:=hA (by omega);exact⟨⟨by omega,by omega⟩,⟨by omega,by omega⟩,⟨e,hf _ (getD_mem Tc.tnk.dflt (show k<l.length by omega))⟩,fun g2=>by omega,fun _=>hN (by omega)⟩
 . have e:=hB (by omega) (by omega);exact⟨fun g2=>⟨⟨by omega,by omega⟩,by simp only [inI64]; omega,⟨⟨by omega,by omega⟩,by omega,by omega⟩,⟨by rw [e]; rfl,by rw [e]; exact Nat.zero_le _⟩,hN (by omega)⟩,fun g2=>by omega⟩
def conKeptShip:Con:=con2 39 kShpq kShip (fun x y=>x ()=lentS (y ())/\lentPre (y ())) (fun _ _ => .blit true)
def plainS (q:Shpq):Shp:=⟨(q.cols.take q.colsN).map fun x=>⟨x.bay,x.row,x.deck,x.tiers,x.height,x.k20,x.k40,x.lash,x.plugs.take x.plugsN,x.x,x.y,x.z⟩,(q.covs.take q.covsN).map fun x=>⟨x.bay,x.rows.take x.rowsN⟩,q.lk,q.lx,q.ly,q.lz,q.rows.take q.rowsN,q.frms.take q.frmsN,(q.tnks.take q.tnksN).map fun x=>⟨x.kilos,x.x,x.y,x.z,x.surface,x.steps.take x.stepsN⟩,q.m1,q.m2,q.m3,q.m4⟩
theorem back_map {α β:Type} {f : α -> β} {g : β -> α} (h:∀ x,g (f x)=x) (l:List α) (m:List β):((l.map f++m).take l.length).map g=l:=by
 have e:(l.map f).length=l.length:=List.length_map _;rw [<- e,List.take_left,List.map_map]
 conv=>rhs; rw [<- List.map_id l]
 exact List.map_congr_left fun x _=>h x
theorem plainS_lent (y:Shp):plainS (lentS y)=y:=by
 unfold plainS lentS;dsimp only;rw [back_map,back_map,back_map,List.take_left,List.take_left]
 . intro x;unfold lentTank;dsimp only;rw [List.take_left]
 . intro x;unfold lentCover;dsimp only;rw [List.take_left]
 . intro x;unfold lentColumn;dsimp only;rw [List.take_left]
set_option maxRecDepth 100000 in
set_option maxHeartbeats 4000000 in
theorem conKeptShip_ok:ConOk Tryz.prog conKeptShip:=by
 refine fnOk [conSameShip,conKeptColumns,conKeptCovers,conKeptRows,conKeptFrames,conKeptTanks] ⟨conSameShip_ok,conKeptColumns_ok,conKeptCovers_ok,conKeptRows_ok,conKeptFrames_ok,conKeptTanks_ok,trivial⟩ Tryz.func39 (by kernel_rfl) fun avs res h hp => ?_;obtain⟨(x:Shpq),(y:Shp),rfl,rfl⟩:=gop2 h;clear h;have hp':x=lentS y/\lentPre y:=hp;clear hp;obtain⟨rfl,hl⟩:=hp';refine⟨[],?_⟩
 conv=>arg 1; cbv
 simp (maxSteps:=4000000) only [fms,true_and,and_true,eq_self];have hb:=plainS_lent y;obtain⟨h1,h2,h3,h4,h5⟩:=hl;exact⟨⟨hb,by show lentPre (plainS (lentS y)); rw [hb]; exact⟨h1,h2,h3,h4,h5⟩⟩,⟨rfl,h1⟩,⟨rfl,h2⟩,⟨rfl,h3⟩,⟨rfl,h4⟩,rfl,h5⟩
def fewB (s:Shp) (bs:List Box) (l:List Stowed):Bool:=(((decide (s.cols.length<=40)&&decide (s.covs.length<=40))&&(decide (bs.length<=60)&&decide (l.length<=40)))&&((s.cols.all fun c=>decide (c.plugs.length<=20))&&(s.covs.all fun c=>decide (c.rows.length<=40))))&&decide (s.rows.length+s.frms.length+s.tnks.length<=200)
theorem few_iff (s:Shp) (bs:List Box) (l:List Stowed):fewB s bs l=true↔(((s.cols.length<=40/\s.covs.length<=40)/\bs.length<=60/\l.length<=40)/\(∀ j,j<s.cols.length->(s.cols.getD j Tc.col.dflt).plugs.length<=20)/\∀ j,j<s.covs.length->(s.covs.getD j Tc.cov.dflt).rows.length<=40)/\s.rows.length+s.frms.length+s.tnks.length<=200:=by
 unfold fewB;simp only [Bool.and_eq_true,decide_eq_true_eq,all_getD Tc.col.dflt,all_getD Tc.cov.dflt]
def wholeS (s:Shp):Prop:=(s.rows.length<=140737488351232/\s.frms.length<=140737488351232/\s.tnks.length<=140737488351232)/\(∀ c∈s.cols,inI64 c.tiers)/\∀ c∈s.tnks,c.steps.length<=17592186043904
def conFew:Con:=con3 30 kShip kBoxes kStos (fun s _ _=>wholeS (s ())) (fun s bs l => .bool fun _=>fewB (s ()) (bs ()) (l ()))
set_option maxRecDepth 100000 in
set_option maxHeartbeats 4000000 in
theorem conFew_ok:ConOk Tryz.prog conFew:=by
 refine fnOkO { kp := [(0,[0,1,2]),(1,[1,2,3]),(2,[]),(3,[3]),(4,[3,32,33,34]),(5,[3,32,33,34]),(6,[3,8,32,33,34]),(7,[]),(8,[3,32,33,34]),(9,[3]),(10,[3,44,45,46]),(11,[3,44,45,46]),(12,[3,10,44,45,46]),(13,[]),(14,[3,44,45,46]),(15,[3])] } [] trivial [] trivial Tryz.func30 (by kernel_rfl) fun avs res h hp => ?_;obtain⟨(s:Shp),(bs:List Box),(l:List Stowed),rfl,rfl⟩:=gop3 h;clear h;obtain⟨⟨hw1,hw2,hw3⟩,_⟩:wholeS s:=hp;refine⟨[(4,lpUp 34 s.cols fun j=>(s.cols.getD j Tc.col.dflt).plugs.length<=20),(10,lpUp 46 s.covs fun j=>(s.covs.getD j Tc.cov.dflt).rows.length<=40)],?_⟩
 conv=>arg 1; cbv
 simp (maxSteps:=4000000) only [fms,true_and,and_true,eq_self];have hI:=few_iff s bs l;have hF:(fewB s bs l=true->False)->false=fewB s bs l:=fun h=>by
  cases hB:fewB s bs l with
  | false=>rfl
  | true=>exact (h hB).elim
 refine⟨fun h=>hF fun q=>by have:=(hI.1 q).1.1.1.1; omega,fun a1=>⟨fun h=>hF fun q=>by have:=(hI.1 q).1.1.1.2; omega,fun a2=>⟨fun h=>hF fun q=>by have:=(hI.1 q).1.1.2.1; omega,fun a3=>⟨fun h=>hF fun q=>by have:=(hI.1 q).1.1.2.2; omega,fun a4=>⟨⟨⟨Nat.zero_le _,fun j hj=>absurd hj (Nat.not_lt_zero _)⟩,rfl⟩,fun (k:Nat) hk => ?_⟩⟩⟩⟩⟩;have hZhk1:k<=s.cols.length/\∀ j,j<k->(s.cols.getD j Tc.col.dflt).plugs.length<=20:=hk;have hk1:=hZhk1.1;have hk2:=hZhk1.2
 conv=>arg 1; cbv
 simp (maxSteps:=4000000) only [fms,true_and,and_true,eq_self];refine⟨fun g=>⟨⟨by omega,by omega⟩,fun c=>hF fun q=>by have:=(hI.1 q).1.2.1 k (by omega); omega,fun c=>up_next (n:=s.cols.length) (P:=fun j=>(s.cols.getD j Tc.col.dflt).plugs.length<=20) (by omega) (by omega) hk2 (by omega)⟩,fun g=>⟨⟨⟨Nat.zero_le _,fun j hj=>absurd hj (Nat.not_lt_zero _)⟩,rfl⟩,fun (i:Nat) hi => ?_⟩⟩;have hZhi1:i<=s.covs.length/\∀ j,j<i->(s.covs.getD j Tc.cov.dflt).rows.length<=40:=hi;have hi1:=hZhi1.1;have hi2:=hZhi1.2
 conv=>arg 1; cbv
 simp (maxSteps:=4000000) only [fms,true_and,and_true,eq_self];refine⟨fun g=>⟨⟨by omega,by omega⟩,fun c=>hF fun q=>by have:=(hI.1 q).1.2.2 i (by omega); omega,fun c=>up_next (n:=s.covs.length) (P:=fun j=>(s.covs.getD j Tc.cov.dflt).rows.length<=40) (by omega) (by omega) hi2 (by omega)⟩,fun g=>⟨by simp only [inI64]; omega,by simp only [inI64]; omega,?_⟩⟩;have hQ:=fun (q:s.rows.length+s.frms.length+s.tnks.length<=200)=>hI.2 ⟨⟨⟨⟨by omega,by omega⟩,by omega,by omega⟩,fun j hj=>hk2 j (by omega),fun j hj=>hi2 j (by omega)⟩,q⟩
 cases hB:fewB s bs l with
 | true =>
  have:=(hI.1 hB).2;exact decide_eq_true (by omega)
 | false =>
  refine decide_eq_false fun q => ?_;have:=hQ (by omega);rw [hB] at this;cases this
def tellsPre (s:Shp) (bs:List Box):Prop:=wholeS s/\∀ b∈bs,b.num.size<=140737488351232/\inI64 b.size
theorem few_pre {s:Shp} {bs:List Box} {l:List Stowed} (h:fewB s bs l=true) (hp:tellsPre s bs):lentPre s/\cargoPre s bs l/\bs.length<=60/\l.length<=40:=by
 obtain⟨⟨⟨⟨h1,h2⟩,h3,h4⟩,h5,h6⟩,h7⟩:=(few_iff s bs l).1 h;obtain⟨⟨⟨w1,w2,w3⟩,w4,w5⟩,w6⟩:=hp;have hc:∀ c∈s.cols,c.plugs.length<=20:=fun c hc=>by
  obtain⟨j,hj,rfl⟩:=List.getElem_of_mem hc;have:=h5 j hj;rwa [List.getD_eq_getElem?_getD,List.getElem?_eq_getElem hj] at this
 have hv:∀ c∈s.covs,c.rows.length<=40:=fun c hc=>by
  obtain⟨j,hj,rfl⟩:=List.getElem_of_mem hc;have:=h6 j hj;rwa [List.getD_eq_getElem?_getD,List.getElem?_eq_getElem hj] at this
 refine⟨⟨⟨by omega,fun c hm=>by have:=hc c hm; omega⟩,⟨by omega,fun c hm=>by have:=hv c hm; omega⟩,by omega,by omega,by omega,w5⟩,⟨⟨fun c hm=>⟨by have:=hc c hm; omega,w4 c hm⟩,fun c hm=>by have:=hv c hm; omega⟩,⟨⟨by omega,fun b hb=>(w6 b hb).1⟩,fun b hb=>(w6 b hb).2⟩,by omega⟩,h3,h4⟩
def conTells:Con:=con4 8 kShip kBoxes kStos kI (fun s bs _ _=>tellsPre (s ()) (bs ())) (fun _ _ _ _ => .blit true)
set_option maxRecDepth 100000 in
set_option maxHeartbeats 4000000 in
theorem conTells_ok:ConOk Tryz.prog conTells:=by
 refine fnOkO { kp := [(0,[0,1,2,3]),(1,[1,2,3,4]),(2,[]),(3,[1,2,3,4]),(4,[1,2,3,4,9,10,11]),(5,[1,2,3,4,9,10,11,12,13,14,15]),(6,[1,2,4,9,10,11,12,13,14,15,16,17,18,19]),(7,[1,2,4,9,10,11,12,13,14,15,16,17,18,19,20,21]),(8,[1,2,4,9,10,11,12,13,14,15,16,17,18,19,20,21,22,23]),(9,[1,2,4,9,10,11,12,13,14,15,16,17,18,19,20,21,22,23,24,25]),(10,[1,2,4,9,10,11,12,13,14,15,16,17,18,19,20,21,22,23,24,25,26,27]),(11,[]),(12,[1,2,4,9,10,11])],lt := [] } [conFew,conLentShip,conLentBoxes,conLentStoweds,conMiddle,conRMiddle,conCargo,conRCargo,conLight,conRLight,conKeptShip,conKeptBoxes,conKeptStoweds] ⟨conFew_ok,conLentShip_ok,conLentBoxes_ok,conLentStoweds_ok,conMiddle_ok,conRMiddle_ok,conCargo_ok,conRCargo_ok,conLight_ok,conRLight_ok,conKeptShip_ok,conKeptBoxes_ok,conKeptStoweds_ok,trivial⟩ [] trivial Tryz.func8 (by kernel_rfl) fun avs res h hp => ?_;obtain⟨(s:Shp),(bs:List Box),(l:List Stowed),(id:Int),rfl,rfl⟩:=gop4 h;clear h;have hp':tellsPre s bs:=hp;clear hp;refine⟨[],?_⟩
 conv=>arg 1; cbv
 simp (maxSteps:=4000000) only [fms,true_and,and_true,eq_self];have es:(⟨s.cols,s.covs,s.lk,s.lx,s.ly,s.lz,s.rows,s.frms,s.tnks,s.m1,s.m2,s.m3,s.m4⟩:Shp)=s:=rfl;have eb:=plainS_lent s;unfold plainS at eb;simp only [es,eb,List.take_left];simp only [show (lentS s).lk=s.lk from rfl,show (lentS s).lx=s.lx from rfl,show (lentS s).ly=s.ly from rfl,show (lentS s).lz=s.lz from rfl];refine⟨hp'.1,fun _=>trivial,fun hf => ?_⟩;have hf':fewB s bs l=true:=by simpa using hf
 obtain⟨q1,q2,q3,q4⟩:=few_pre hf' hp';have q5:shipPre s/\boxesPre bs/\l.length<=40:=⟨q2.1,q2.2.1.1,q4⟩
 refine⟨q1,by omega,by omega,q5,q2,q5,q2,?_⟩;simp;exact⟨q1,by omega,by omega⟩
def conMomentTells:Con:=con4 3 kShip kBoxes kStos kI (fun s bs _ _=>tellsPre (s ()) (bs ())) (fun _ _ _ _ => .bool fun _=>true)
set_option maxRecDepth 100000 in
set_option maxHeartbeats 4000000 in
theorem conMomentTells_ok:ConOk Tryz.prog conMomentTells:=by
 refine fnOk [conTells,conAwake] ⟨conTells_ok,conAwake_ok,trivial⟩ Tryz.func3 (by kernel_rfl) fun avs res h hp => ?_;obtain⟨(s:Shp),(bs:List Box),(l:List Stowed),(id:Int),rfl,rfl⟩:=gop4 h;clear h;have hp':tellsPre s bs:=hp;refine⟨[],?_⟩
 conv=>arg 1; cbv
 simp (maxSteps:=4000000) only [fms];exact⟨hp',trivial,trivial⟩
open Go.ChangeShapes Go.Deep Go.WideShapes
theorem list_of {T:Type} {p:Nat->T->Prop}:∀ (n:Nat),(∀ i,i<n->∃ x,p i x)->∃ l:List T,l.length=n/\∀ i (h:i<l.length),p i l[i]
 | 0,_=>⟨[],rfl,by simp⟩
 | n+1,h=>by
  obtain⟨l,hl,hp⟩:=list_of n (fun i hi=>h i (by omega));obtain⟨x,hx⟩:=h n (by omega);refine⟨l ++ [x],by simp [hl],fun i hi => ?_⟩;by_cases e:i<l.length
  . rw [List.getElem_append_left e];exact hp i e
  . have e2:i=n:=by simp at hi; omega
    subst e2;rw [List.getElem_append_right (by omega)];simpa using hx
theorem below_all {H:Type} {enc:TypeId×Value->H} {P:Program} (hl:laidOutB P=true) {W W':World} (hb:Below W.heap.size W W'):∀ {ts:List TypeId} {vs:List Value} {ds:List (DataW H)} {ps:List MemPlace},(ts.all fun t=>P.readableRec t&&decide (t<P.types.size))=true ->
 DataW.TrodAll enc P W 0 (fun _=>true) true ts vs ds ps->(∀ x∈ps,x.block<W.heap.size)->DataW.TrodAll enc P W' 0 (fun b=>decide (b<W.heap.size)) true ts vs ds ps
 | [],vs,ds,ps,_,h,_=>by
  obtain⟨rfl,rfl,rfl⟩:=trodAll_nil h;exact trodAll_mk0
 | t::ts,vs,ds,ps,ht,h,hlt=>by
  obtain⟨v,vs',d,ds',p,q,rfl,rfl,rfl,hd,hr⟩:=trodAll_cons h;simp only [List.all_cons,Bool.and_eq_true,decide_eq_true_eq] at ht;exact⟨p,q,Below.trod hl ht.1.1 ht.1.2 hd hb (fun x hx=>hlt x (List.mem_append_left _ hx)),below_all hl hb (by simpa using ht.2) hr (fun x hx=>hlt x (List.mem_append_right _ hx)),rfl⟩
theorem Tryz.own:ownKnob Tryz.prog.godebug=none:=by kernel_rfl
theorem Tryz.laidOut:laidOutB Tryz.prog=true:=by kernel_rfl
section
variable {H:Type} {enc:TypeId×Value->H} {P:Program} {w:World} {base:Nat} {held:Bool}
def Fits (P:Program) (t:TypeId) (d:DataW H):Prop:=∀ k∈d.weights P t,k<=140737488351232
theorem weightsAll_mem {t:TypeId}:∀ {ds:List (DataW H)} {d:DataW H},d∈ds->∀ k∈d.weights P t,k∈DataW.weightsAll P t ds
 | [],_,h,_,_=>by cases h
 | d0::ds,d,h,k,hk=>by
  unfold DataW.weightsAll;rw [List.mem_append];rcases List.mem_cons.1 h with h|h
  . subst h; exact .inl hk
  . exact .inr (weightsAll_mem h k hk)
theorem Fits.elem {t e:TypeId} {els sp:List (DataW H)} {d:DataW H} (ht:P.underlying t=some (.slice e)) (h:Fits P t (.slice els sp)) (hd:d∈els):Fits P e d:=fun k hk=>h k (by
 simp only [DataW.weights,ht,List.mem_cons,List.mem_append];exact .inr (.inl (weightsAll_mem hd k hk)))
theorem Fits.size {t e:TypeId} {els sp:List (DataW H)} (ht:P.underlying t=some (.slice e)) (h:Fits P t (.slice els sp)):(els.length+sp.length)*P.bytesOf e<=140737488351232:=h _ (by
 simp only [DataW.weights,ht,List.mem_cons];exact .inl trivial)
theorem Fits.field {t:TypeId} {fs:Array Field} {parts:List (DataW H)} {j:Nat} {f:Field} {d:DataW H} (ht:P.underlying t=some (.struct fs)) (h:Fits P t (.agg parts)) (hj:fs[j]? = some f) (hd:parts[j]? = some d):Fits P f.type d:=fun k hk=>h k (by
 simp only [DataW.weights,ht];exact DataW.weights_mem_each (j:=j) (t:=f.type) (by simp [hj]) hd k hk)
theorem fits_of {ts:List TypeId} {ds:List (DataW H)} (h:(DataW.weightsEach P ts ds).all (· <= reachBytes)=true) {j:Nat} {t:TypeId} {d:DataW H} (ht:ts[j]? = some t) (hd:ds[j]? = some d):Fits P t d:=fun k hk=>by
 have:=List.all_eq_true.1 h _ (DataW.weights_mem_each ht hd k hk);exact of_decide_eq_true this
theorem open_rows {T:Type} {cells:T->List Value} {wf:T->Prop} {t e size bytes fuel:Nat} {v:Value} {x:DataW H×List MemPlace} (ht:P.underlying t=some (.slice e)) (hC:P.cellsOf e=size) (h0:0<size) (hB:P.bytesOf e=bytes)
 (hel:∀ n cs (y:DataW H×List MemPlace),DataW.trod enc P w base (fun _=>true) held n e cs=some y->Fits P e y.1->∃ b:T,cs=cells b/\wf b)
 (h:DataW.trod enc P w base (fun _=>true) held fuel t [v]=some x) (hf:Fits P t x.1) :
 ∃ (A:Option Addr) (l:List T) (c:Nat),v = .slice A l.length c/\Rd w w.heap.size size A (l.map cells)/\(∀ b∈l,wf b)/\l.length*bytes<=140737488351232/\l.length<=c:=by
 rcases open_slice ht h with ⟨hcs,hx⟩|⟨a,len,cap,m,n,D,Pl,hcs,hb,hl,hm,hmm,hx,hi⟩
 . injection hcs with hv _;subst hv;exact⟨none,[],0,rfl,Rd.nil _ _ _ _,by simp,by simp,by simp⟩
 . injection hcs with hv _;subst hv;subst hx;simp only [if_true] at hmm;subst hmm;have hsz:=Fits.size ht hf;rw [hB] at hsz;simp only [List.length_map,List.length_range] at hsz;have key:∀ i,i<len->∃ b:T,wf b/\(cells b).length=size/\∀ j u,(cells b)[j]? = some u->w.cell? ((a.add (i*size)).add j)=some u:=fun i hlt=>by
    obtain⟨cs,hc,ht'⟩:=hi i (by omega);obtain⟨b,rfl,hw⟩:=hel n cs (D i,Pl i) ht' (Fits.elem ht hf (List.mem_map_of_mem (List.mem_range.2 hlt)));obtain⟨_,hcl,hat⟩:=World.cells?_some hc;rw [hC] at hcl hat hc;refine⟨b,hw,hcl,fun j u hu => ?_⟩;rw [hat j (by rw [<- hcl]; exact (List.getElem?_eq_some_iff.1 hu).1)];exact hu
   obtain⟨l,hll,hp⟩:=list_of len key;subst hll;refine⟨some a,l,m,rfl,fun k cs hk => ?_,fun b hb' => ?_,Nat.le_trans (Nat.mul_le_mul_right bytes (by omega)) hsz,by omega⟩
   . rw [List.getElem?_map] at hk;obtain⟨b,hbk,rfl⟩:=Option.map_eq_some_iff.1 hk;have hkl:k<l.length:=(List.getElem?_eq_some_iff.1 hbk).1;obtain⟨_,hcl,hc⟩:=hp k hkl;have hbe:l[k]=b:=by rw [List.getElem?_eq_getElem hkl] at hbk; injection hbk
     rw [hbe] at hcl hc;have hu0:(cells b)[0]? = some ((cells b)[0]'(by omega)):=List.getElem?_eq_getElem (by omega);have hc0:=hc 0 _ hu0;have hlt:=block_lt_of_cell hc0;obtain⟨_,hcl0,hcz⟩:=hp 0 (by omega);have hsp:=World.cell?_spot (hcz 0 _ (List.getElem?_eq_getElem (by omega)));obtain⟨ab,ao,asp⟩:=a;have has:asp=none:=by simpa [Addr.add] using hsp
     subst has;refine⟨ab,ao,rfl,by simpa [Addr.add_lit] using hlt,hcl,fun j u hu => ?_⟩;have:=hc j u hu;rwa [Addr.add_lit,Addr.add_lit] at this
   . obtain⟨k,hk,rfl⟩:=List.mem_iff_getElem.1 hb';exact (hp k hk).1
end
section
variable {H:Type} {enc:TypeId×Value->H} {w:World} {base:Nat} {spare:Nat->Bool} {held:Bool}
end
def sgB:Sg->Sg->Bool
 | .int k,.int k'=>decide (k=k')
 | .bool,.bool=>true
 | .str,.str=>true
 | .sl t,.sl t'=>decide (t=t')
 | _,_=>false
def sgLB:List Sg->List Sg->Bool
 | [],[]=>true
 | a::l,b::m=>sgB a b&&sgLB l m
 | _,_=>false
theorem sgB_eq {a b:Sg} (h:sgB a b=true):a=b:=by
 unfold sgB at h;split at h<;>first|rfl|(simp only [decide_eq_true_eq] at h; rw [h])|cases h
theorem sgLB_eq:∀ {a b:List Sg},sgLB a b=true->a=b
 | [],[],_=>rfl
 | a::l,b::m,h=>by
  simp only [sgLB,Bool.and_eq_true] at h;rw [sgB_eq h.1,sgLB_eq h.2]
 | [],_::_,h=>by cases h
 | _::_,[],h=>by cases h
def opnFs (P:Program) (g:TypeId->Option (List Sg)):List Field->Nat->Option (List Sg)
 | [],_=>some []
 | f::fs,o=>match g f.type,opnFs P g fs (o+P.cellsOf f.type) with
  | some a,some b=>if f.offset==o&&a.length==P.cellsOf f.type then some (a++b) else none
  | _,_=>none
def Tc.most:Tc->Nat
 | .int=>17592186043904
 | _=>140737488351232
def opn (P:Program) (tc:List (Nat×Tc)):Nat->TypeId->Option (List Sg)
 | 0,_=>none
 | n+1,T=>match P.underlying T with
  | some (.int k)=>some [.int k]
  | some .bool=>some [.bool]
  | some .string=>some [.str]
  | some (.slice e)=>match alook tc e with
   | some t=>match opn P tc n e with
    | some ss=>if sgLB ss (sgOf t)&&P.cellsOf e==t.size&&decide (140737488351232<(t.most+1)*P.bytesOf e) then some [.sl t] else none
    | none=>none
   | none=>none
  | some (.struct fs)=>match opnFs P (opn P tc n) fs.toList 0 with
   | some ss=>if ss.length==P.cellsOf T then some ss else none
   | none=>none
  | _=>none
def Sh:Sg->AV->Prop
 | .int k,x=>∃ n:Int,x = .int k fun _=>n
 | .bool,x=>∃ b:Bool,x = .bool fun _=>b
 | .str,x=>∃ s:ByteArray,x = .str fun _=>s
 | .sl t,x=>∃ l:List t.el,x = .sl false t fun _=>l
 | _,_=>False
def ShL:List Sg->List AV->Prop
 | [],l=>l = []
 | s::ss,l=>∃ x xs,l=x::xs/\Sh s x/\ShL ss xs
def WfAV:Nat->AV->Prop
 | 0,_=>True
 | _+1,.int k n=>(Lit.int k (n ())).wf=true
 | _+1,.str s=>(s ()).size<=140737488351232
 | d+1,.sl _ t l=>(l ()).length<=t.most/\∀ e∈l (),∀ x∈cellsAV false t (fun _=>e),WfAV d x
 | _,_=>True
theorem WfAV.down:∀ (d:Nat) (x:AV),WfAV (d+1) x->WfAV d x
 | 0,_,_=>trivial
 | d+1,.int _ _,h=>h
 | d+1,.str _,h=>h
 | d+1,.sl _ _ _,h=>⟨h.1,fun e he x hx=>WfAV.down d x (h.2 e he x hx)⟩
 | d+1,.un,_=>trivial
 | d+1,.lit _ _,_=>trivial
 | d+1,.bool _,_=>trivial
 | d+1,.blit _,_=>trivial
 | d+1,.nil,_=>trivial
 | d+1,.wide _ _ _ _,_=>trivial
 | d+1,.pto _ _,_=>trivial
 | d+1,.ptr _ _,_=>trivial
 | d+1,.own _,_=>trivial
 | d+1,.orp _ _ _ _,_=>trivial
 | d+1,.mp _,_=>trivial
 | d+1,.stamp _,_=>trivial
 | d+1,.it _ _,_=>trivial
 | d+1,.agg _,_=>trivial
 | d+1,.tup _,_=>trivial
 | d+1,.fn _ _,_=>trivial
theorem ShL.app:∀ {a b:List Sg} {l m:List AV},ShL a l->ShL b m->ShL (a++b) (l++m)
 | [],b,l,m,h,h2=>by
  rw [show l = [] from h];exact h2
 | s::a,b,l,m,h,h2=>by
  obtain⟨x,xs,rfl,h3,h4⟩:=h;exact⟨x,xs++m,rfl,h3,h4.app h2⟩
set_option maxHeartbeats 1000000 in
theorem mk_of {t:Tc} {avs:List AV} (h:ShL (sgOf t) avs) (hq:(sgOf t).all (fun s=>match s with | .wide _=>false|_=>true)=true):∃ e:t.el,avs=cellsAV false t fun _=>e:=by
 cases t<;>first
  | (exact absurd hq (by decide))
  | (simp only [sgOf] at h
     repeat (obtain⟨_,_,rfl,⟨_,rfl⟩,h⟩:=h)
     first
      | exact⟨(_:Int),rfl⟩
      | exact⟨⟨_,_⟩,rfl⟩
      | exact⟨⟨_,_,_⟩,rfl⟩
      | exact⟨⟨_,_,_,_⟩,rfl⟩
      | exact⟨⟨_,_,_,_,_⟩,rfl⟩
      | exact⟨⟨_,_,_,_,_,_⟩,rfl⟩
      | exact⟨⟨_,_,_,_,_,_,_,_,_⟩,rfl⟩
      | exact⟨⟨_,_,_,_,_,_,_,_,_,_,_,_⟩,rfl⟩
      | exact⟨⟨⟨_,_,_,_,_,_,_,_,_⟩,_,_,_⟩,rfl⟩)
section
variable {H:Type} {enc:TypeId×Value->H} {P:Program} {w:World} {held:Bool} {tc:List (Nat×Tc)}
def allRo (w:World):Nat->Prop:=fun b=>b<w.heap.size
theorem fs_ok {g:TypeId->Option (List Sg)} {m:Nat} {cs:List Value} {T:TypeId} {fields:Array Field} {parts:List (DataW H×List MemPlace)} (hT:P.underlying T=some (.struct fields)) (hfit:Fits P T (.agg (parts.map (·.1))))
 (hg:∀ (f:Field) (ss:List Sg) (cs:List Value) (y:DataW H×List MemPlace),g f.type=some ss->DataW.trod enc P w 0 (fun _=>true) held m f.type cs=some y->Fits P f.type y.1->∃ avs,Each w (fun _=>none) 0 (allRo w) avs cs/\ShL ss avs/\∀ x∈avs,WfAV 4 x)
 (hfield:∀ (i:Nat) (f:Field),fields[i]? = some f->DataW.trod enc P w 0 (fun _=>true) held m f.type ((cs.drop f.offset).take (P.cellsOf f.type))=parts[i]?) (hpl:parts.length=fields.size) :
 ∀ (fs:List Field) (i o:Nat) (ss:List Sg),fields.toList.drop i=fs->opnFs P g fs o=some ss->∃ avs,Each w (fun _=>none) 0 (allRo w) avs ((cs.drop o).take ss.length)/\ShL ss avs/\∀ x∈avs,WfAV 4 x
 | [],i,o,ss,hi,h=>by
  simp only [opnFs,Option.some.injEq] at h;subst h;exact⟨[],by simpa using Each.nil,rfl,by simp⟩
 | f::fs,i,o,ss,hi,h=>by
  unfold opnFs at h;split at h
  . rename_i a b ha hb;split at h
    . rename_i hc;simp only [Bool.and_eq_true,beq_iff_eq] at hc;obtain⟨hc1,hc2⟩:=hc;cases h;have hil:i<fields.toList.length:=by
       rcases Nat.lt_or_ge i fields.toList.length with h|h
       . exact h
       . rw [List.drop_of_length_le h] at hi; cases hi
      rw [List.drop_eq_getElem_cons hil] at hi;injection hi with h1 h2;have hf:fields[i]? = some f:=by rw [<- h1]; simp
      have hp:=hfield i f hf;have hip:i<parts.length:=by rw [hpl]; simpa using hil
      rw [List.getElem?_eq_getElem hip] at hp;obtain⟨avs,q1,q2,q3⟩:=hg f a _ _ ha hp (Fits.field hT hfit hf (by simp [hip]));obtain⟨bvs,r1,r2,r3⟩:=fs_ok hT hfit hg hfield hpl fs (i+1) (o+P.cellsOf f.type) b h2 hb;refine⟨avs++bvs,?_,q2.app r2,fun x hx => ?_⟩
      . rw [hc1] at q1;have e:(cs.drop o).take (a++b).length=(cs.drop o).take (P.cellsOf f.type)++(cs.drop (o+P.cellsOf f.type)).take b.length:=by
         rw [List.length_append,hc2,List.take_add,List.drop_drop]
        rw [e];exact q1.append r1
      . rcases List.mem_append.1 hx with h|h
        . exact q3 x h
        . exact r3 x h
    . cases h
  . cases h
theorem opn_ok:∀ (n m:Nat) (T:TypeId) (ss:List Sg) (cs:List Value) (y:DataW H×List MemPlace),opn P tc n T=some ss->DataW.trod enc P w 0 (fun _=>true) held m T cs=some y->Fits P T y.1->∃ avs,Each w (fun _=>none) 0 (allRo w) avs cs/\ShL ss avs/\∀ x∈avs,WfAV 4 x
 | 0,_,_,_,_,_,h,_,_=>by cases h
 | n+1,m,T,ss,cs,y,h,ht,hf=>by
  unfold opn at h;split at h
  . rename_i k hu;cases h;obtain⟨z,rfl,_,hw⟩:=DataW.trod_int hu ht;refine⟨[.int k fun _=>z],.cons (.int k _) .nil,⟨_,_,rfl,⟨z,rfl⟩,rfl⟩,?_⟩;intro x hx;rw [List.mem_singleton.1 hx];exact hw
  . rename_i hu;cases h;obtain⟨z,rfl,_⟩:=DataW.trod_bool hu ht;refine⟨[.bool fun _=>z],.cons (.bool _) .nil,⟨_,_,rfl,⟨z,rfl⟩,rfl⟩,?_⟩;intro x hx;rw [List.mem_singleton.1 hx];trivial
  . rename_i hu;cases h;obtain⟨z,rfl,hy,_⟩:=DataW.trod_string hu ht;refine⟨[.str fun _=>z],.cons (.str _) .nil,⟨_,_,rfl,⟨z,rfl⟩,rfl⟩,?_⟩;intro x hx;rw [List.mem_singleton.1 hx];exact hf z.size (by rw [hy]; simp [DataW.weights,hu])
  . rename_i e hu;split at h
    . rename_i t htc;split at h
      . rename_i se hse;split at h
        . rename_i hc;cases h;simp only [Bool.and_eq_true,beq_iff_eq,decide_eq_true_eq] at hc;obtain⟨⟨hc1,hc2⟩,hc3⟩:=hc;have hss:=sgLB_eq hc1;have hq:(sgOf t).all (fun s=>match s with | .wide _=>false|_=>true)=true:=by
           rw [<- hss,List.all_eq_true];intro s hs;have:∀ {a b:List Sg},sgLB a b=true->∀ s∈a,(match s with | .wide _=>false|_=>true)=true:=by
            intro a
            induction a with
            | nil=>intro b _ s hs; cases hs
            | cons x a ih =>
             intro b h s hs
             cases b with
             | nil=>cases h
             | cons z b =>
              simp only [sgLB,Bool.and_eq_true] at h;rcases List.mem_cons.1 hs with rfl|hs
              . have h1:=h.1;unfold sgB at h1;split at h1<;>first|rfl|cases h1
              . exact ih h.2 s hs
           exact this hc1 s hs
          have hone:∃ v,cs = [v]:=by
           rcases open_slice hu ht with ⟨hcs,_⟩|⟨a,len,cap,m',n',D,Pl,hcs,_⟩<;>exact⟨_,hcs⟩
          obtain⟨v,rfl⟩:=hone;obtain⟨A,l,c,hv,hr,hw,hby,hlc⟩:=open_rows (T:=List Value×t.el) (cells:=fun p=>p.1) (wf:=fun p=>Each w (fun _=>none) 0 (allRo w) (cellsAV false t fun _=>p.2) p.1/\∀ x∈cellsAV false t (fun _=>p.2),WfAV 4 x) (size:=t.size) (bytes:=P.bytesOf e) hu hc2 (tc_size t) rfl (fun n' cs' y' h1 h2=>by
           obtain⟨avs,q1,q2,q3⟩:=opn_ok n n' e se cs' y' hse h1 h2;rw [hss] at q2;obtain⟨el,rfl⟩:=mk_of q2 hq;exact⟨(cs',el),rfl,q1,q3⟩) ht hf
          have hll:l.length<=t.most:=by
           rcases Nat.lt_or_ge t.most l.length with hgt|hgt
           . have:(t.most+1)*P.bytesOf e<=l.length*P.bytesOf e:=Nat.mul_le_mul_right _ hgt;omega
           . exact hgt
          refine⟨[.sl false t fun _=>l.map (·.2)],.cons ?_ .nil,⟨_,_,rfl,⟨_,rfl⟩,rfl⟩,?_⟩
          . rw [hv];have key:AVR w (fun _=>none) 0 (allRo w) (.sl false t fun _=>l.map (·.2)) (.slice A (l.map (·.2)).length c):=by
             refine AVR.sl (ro:=allRo w) false t (fun _=>l.map (·.2)) A c (l.map (·.1)) (by simp) (by simpa using hlc) hr (fun a ha hne=>Rd.bound hr hne a ha) (fun h=>by cases h) fun k cs j x v h1 h2 h3 => ?_;rw [List.getElem?_map] at h1;obtain⟨p,hp,rfl⟩:=Option.map_eq_some_iff.1 h1;have hpm:=hw p (List.mem_of_getElem? hp);have e1:(l.map (·.2)).getD k t.dflt=p.2:=by simp [List.getD_eq_getElem?_getD,hp]
             rw [e1] at h2;exact hpm.1.2 j x v h2 h3
            rwa [List.length_map] at key
          . intro x hx;rw [List.mem_singleton.1 hx];refine⟨by rw [List.length_map]; exact hll,fun el hel z hz => ?_⟩;obtain⟨p,hp,rfl⟩:=List.mem_map.1 hel;exact WfAV.down 3 z ((hw p hp).2 z hz)
        . cases h
      . cases h
    . cases h
  . rename_i fs hu;split at h
    . rename_i ss' hfs;split at h
      . rename_i hlen;cases h;simp only [beq_iff_eq] at hlen;obtain⟨xs,n2,rfl,hx,hcl,hxl,hg⟩:=DataW.trod_struct hu ht;subst hx;obtain⟨avs,q1,q2,q3⟩:=fs_ok (m:=n2) hu hf (fun f ss cs y h1 h2 h3=>opn_ok n n2 f.type ss cs y h1 h2 h3) hg hxl fs.toList 0 0 ss rfl hfs;rw [List.drop_zero,List.take_of_length_le (by omega)] at q1;exact⟨avs,q1,q2,q3⟩
      . cases h
    . cases h
  . cases h
section
variable {b0 m:Nat} {r:Reach} {T:TypeId} {v:Value} {y:DataW H×List MemPlace}
theorem open_int {k:IntKind} (hT:P.underlying T=some (.int k)) (hv:Value.okWide P w r b0 T v) (ht:DataW.trod enc P w 0 (fun _=>true) held m T v.cells.toList=some y):∃ n:Int,AVR w (fun _=>none) 0 (allRo w) (.int k fun _=>n) v/\(Lit.int k n).wf=true:=by
 obtain⟨n,rfl⟩:=okWide_int hT hv;obtain⟨z,e,_,hw⟩:=DataW.trod_int hT ht;have e2 : [Value.int k n] = [Value.int k z]:=e;injection e2 with e2;injection e2 with _ e2;subst e2;exact⟨n,.int k _,hw⟩
theorem open_sl {e:TypeId} {t:Tc} {n:Nat} (hT:P.underlying T=some (.slice e)) (ho:opn P tc n T=some [.sl t]) (hv:Value.okWide P w r b0 T v) (ht:DataW.trod enc P w 0 (fun _=>true) held m T v.cells.toList=some y) (hf:Fits P T y.1):∃ l:List t.el,AVR w (fun _=>none) 0 (allRo w) (.sl false t fun _=>l) v/\WfAV 4 (.sl false t fun _=>l):=by
 obtain⟨a,len,cap,rfl⟩:=okWide_slice hT hv;obtain⟨avs,q1,q2,q3⟩:=opn_ok (tc:=tc) n m T _ _ _ ho ht hf;obtain⟨x,xs,rfl,⟨l,rfl⟩,h⟩:=q2;rw [show xs = [] from h] at q1 q3;refine⟨l,?_,q3 _ (.head _)⟩;exact q1.2 0 _ _ rfl rfl
theorem open_agg {fs:Array Field} {ss:List Sg} {n:Nat} (hT:P.underlying T=some (.struct fs)) (ho:opn P tc n T=some ss) (hv:Value.okWide P w r b0 T v) (ht:DataW.trod enc P w 0 (fun _=>true) held m T v.cells.toList=some y) (hf:Fits P T y.1):∃ avs:List AV,AVR w (fun _=>none) 0 (allRo w) (.agg avs) v/\ShL ss avs/\∀ x∈avs,WfAV 4 x:=by
 obtain⟨cs,rfl,hsz⟩:=okWide_struct hT hv;obtain⟨avs,q1,q2,q3⟩:=opn_ok (tc:=tc) n m T _ _ _ ho ht hf;refine⟨avs,?_,q2,q3⟩;have e:Value.agg cs = .agg cs.toList.toArray:=by simp
 rw [e];exact .agg _ _ q1.1 q1.2
end
end
theorem law_of {c:Con} {res:Res} {avs:List AV} (hc:ConOk Tryz.prog c) (hgo:c.go avs=some res) (hav:res.av = .bool fun _=>true) {W:World} {vals:List Value} (hE:Each W (fun _=>none) 0 (allRo W) avs vals) (hpre:res.pre ()):Calls Tryz.prog c.f vals.toArray W fun e w'=>e = .returned (.bool true)/\Below W.heap.size W w' :=
 (hc.2 avs res hgo W (allRo W) vals (fun _ h=>h) hE hpre).mono fun e w' ⟨v,h1,h2,h3⟩=>by
  rw [hav] at h3;rw [h1,h3.bool_];exact⟨rfl,h2⟩
end Go.Proofs.YthfpdbjemfhieaaGreat
namespace Go.Proofs.YthfpdbjemfhieaaGreat
open Go.RowKit
theorem lit_wf {k:IntKind} {n:Int} (h:(Lit.int k n).wf=true):k.min<=n/\n<=k.max:=by
 simpa [Lit.wf] using h
theorem tells_wf {s:Shp} {bs:List Box} (h0:∀ x∈shipL (fun _=>s),WfAV 4 x) (h1:WfAV 4 (.sl false .box fun _=>bs)):tellsPre s bs:=by
 have c:WfAV 4 (.sl false .col fun _=>s.cols):=h0 _ (by simp [shipL]);have r:WfAV 4 (.sl false .hrow fun _=>s.rows):=h0 _ (by simp [shipL]);have f:WfAV 4 (.sl false .frm fun _=>s.frms):=h0 _ (by simp [shipL]);have t:WfAV 4 (.sl false .tnk fun _=>s.tnks):=h0 _ (by simp [shipL]);refine⟨⟨⟨r.1,f.1,t.1⟩,fun x hx => ?_,fun x hx => ?_⟩,fun b hb => ?_⟩
 . have h:=c.2 x hx (.int .i64 fun _=>x.tiers) (by simp [cellsAV]);exact lit_wf h
 . have h:=t.2 x hx (.sl false .int fun _=>x.steps) (by simp [cellsAV]);exact h.1
 . have h2:=h1.2 b hb (.str fun _=>b.num) (by simp [cellsAV]);have h3:=lit_wf (h1.2 b hb (.int .u8 fun _=>b.size) (by simp [cellsAV]));refine⟨h2,?_⟩;have h4:0<=b.size/\b.size<=255:=h3;simp only [inI64];omega
end Go.Proofs.YthfpdbjemfhieaaGreat
