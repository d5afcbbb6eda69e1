/-
  Plain laws: where the middle of a box is, told by the boxes below it.
-/
import Derived.Test.YtffeegebohigdaaGreatMs24
set_option linter.unusedVariables false
set_option linter.unusedSimpArgs false
set_option maxRecDepth 100000
set_option maxHeartbeats 4000000
namespace Go.Proofs.YtffeegebohigdaaGreat
open Go.RowKit
def Zo (bs:List Box) (l:List Q0) (c a t:Int):Int:=Qt bs (l.filter fun x=>decide (x.tier<t)) c a
def Zl (h:Int):Int:=cond (decide (h=2)) 2 1
theorem Z3i (h:Int):(Q2n h).headD 0=Zl h:=by
 unfold Q2n Zl;by_cases h1:h=1
 . subst h1; rfl
 . by_cases h2:h=2
   . subst h2; rfl
   . simp [h1,h2]
theorem Qn8 (h:Int):Zl h=1\/Zl h=2:=by
 unfold Zl;cases decide (h=2)<;>simp
theorem Qqs {bs:List Box} {l m:List Q0} (h:l.Perm m) (c a:Int):Qt bs l c a=Qt bs m c a:=by
 unfold Qt
 induction h with
 | nil=>rfl
 | cons x _ ih=>rw [List.map_cons,List.map_cons,List.sum_cons,List.sum_cons,ih]
 | swap x y l=>simp only [List.map_cons,List.sum_cons]; omega
 | trans _ _ ih1 ih2=>exact ih1.trans ih2
theorem Qgc {bs:List Box} (l m:List Q0) (c a:Int):Qt bs (l++m) c a=Qt bs l c a+Qt bs m c a:=by
 unfold Qt;rw [List.map_append,List.sum_append]
theorem Q7e {bs:List Box} {c a:Int} (p:Q0->Bool):∀ (l:List Q0),(∀ x∈l,p x=false->hAt bs c a x=0)->Qt bs (l.filter p) c a=Qt bs l c a
 | [],_=>rfl
 | x::l,h=>by
  have ih:=Q7e (bs:=bs) (c:=c) (a:=a) p l fun y hy=>h y (.tail _ hy);unfold Qt at ih ⊢;rw [List.filter_cons]
  cases hp:p x with
  | true=>simp only [if_true,List.map_cons,List.sum_cons,ih]
  | false =>
   rw [List.map_cons,List.sum_cons,h x (.head _) hp,Int.zero_add];simpa using ih
theorem Qm7 {s:Shp} {bs:List Box} {l:List Q0} (h:Zj s bs l=true):∀ i k,i<k->k<l.length->(l.getD i Tc.stowed.dflt).box<(l.getD k Tc.stowed.dflt).box:=by
 intro i k hik hk
 induction k with
 | zero=>omega
 | succ k ih =>
  have h1:=Q4k h hk;unfold Vd at h1;simp only [Bool.and_eq_true,Bool.or_eq_true,decide_eq_true_eq] at h1;have h2:(l.getD k Tc.stowed.dflt).box<(l.getD (k+1) Tc.stowed.dflt).box:=by
   rcases h1.1.2 with h2|h2
   . omega
   . simpa using h2
  by_cases he:i=k
  . subst he; exact h2
  . have:=ih (by omega) (by omega);omega
theorem Z60 {s:Shp} {bs:List Box} {l:List Q0} (h:Zj s bs l=true) {x y:Q0} (hx:x∈l) (hy:y∈l) (he:x.box=y.box):x=y:=by
 obtain⟨i,hi,rfl⟩:=List.getElem_of_mem hx;obtain⟨k,hk,rfl⟩:=List.getElem_of_mem hy;have g:∀ j (hj:j<l.length),l.getD j Tc.stowed.dflt=l[j]:=fun j hj=>by rw [List.getD_eq_getElem?_getD,List.getElem?_eq_getElem hj]; rfl
 rcases Nat.lt_trichotomy i k with h1|h1|h1
 . have:=Qm7 h i k h1 hk;rw [g i hi,g k hk,he] at this;omega
 . subst h1; rfl
 . have:=Qm7 h k i h1 hi;rw [g i hi,g k hk,he] at this;omega
theorem Qq9 {s:Shp} {bs:List Box} {l:List Q0} (h:Zj s bs l=true) {j:Nat} (hj:j<(Q6 l).length) {a:Int} (ha:((Q6 l)[j]).half=0\/a=((Q6 l)[j]).half):Qt bs ((Q6 l).take j) ((Q6 l)[j]).col a=Zo bs l ((Q6 l)[j]).col a ((Q6 l)[j]).tier:=by
 have hperm:=Vv l;have hlen:=hperm.length_eq;have hnd:(Q6 l).Nodup:=hperm.nodup_iff.2 (Qlc h);obtain⟨X,hX⟩:∃ X,X=(Q6 l)[j]:=⟨_,rfl⟩
 have hXl:X∈l:=hperm.mem_iff.1 (by rw [hX]; exact List.getElem_mem hj);rw [<- hX] at ha ⊢;have hsrt:∀ i k,(hik:i<k)->(hk:k<(Q6 l).length)->((Q6 l)[i]'(by omega)).tier<=((Q6 l)[k]).tier:=fun i k hik hk=>by
  have:=Qs3 l hik (by omega);unfold tAt at this;rw [List.getD_eq_getElem?_getD,List.getElem?_eq_getElem (show i<(Q6 l).length by omega),List.getD_eq_getElem?_getD,List.getElem?_eq_getElem hk] at this;exact this
 unfold Zo;rw [<- Qqs (hperm.filter fun x=>decide (x.tier<X.tier))];have hsplit:Q6 l=(Q6 l).take j++(Q6 l).drop j:=(List.take_append_drop j _).symm;rw [congrArg (List.filter fun x=>decide (x.tier<X.tier)) hsplit,List.filter_append,Qgc];have h2:((Q6 l).drop j).filter (fun x=>decide (x.tier<X.tier)) = []:=by
  rw [List.filter_eq_nil_iff];intro y hy;obtain⟨i,hi,rfl⟩:=List.getElem_of_mem hy;rw [List.length_drop] at hi;rw [List.getElem_drop,decide_eq_true_eq,hX];by_cases he:i=0
  . subst he; simp
  . have:=hsrt j (j+i) (by omega) (by omega);omega
 rw [h2,Q7e]
 . simp [Qt]
 . intro y hy hn;obtain⟨i,hi,rfl⟩:=List.getElem_of_mem hy;rw [List.length_take] at hi;have hij:i<j:=by omega
   rw [List.getElem_take] at hn ⊢;simp only [decide_eq_false_iff_not] at hn;have h1:=hsrt i j hij hj;rw [<- hX] at h1;unfold hAt;rw [if_neg]
   rintro⟨hc,hh⟩
   have hyl:(Q6 l)[i]'(by omega)∈l:=hperm.mem_iff.1 (List.getElem_mem _);have:=Qjv h hyl hXl (by
    unfold K0 Gu Qs;have:((Q6 l)[i]'(by omega)).tier=X.tier:=by omega
    simp only [hc,this,decide_true,Bool.true_and];rcases ha with ha|ha
    . simp [ha]
    . rcases hh with hh|hh
      . simp [hh,ha]
      . simp [hh])
   rw [hX] at this;exact (List.pairwise_iff_getElem.1 hnd) i j (by omega) hj hij this
theorem Q1z {s:Shp} {bs:List Box} {l:List Q0} (h:Y4 s bs l=true):Zj s bs l=true:=by
 unfold Y4 at h;simp only [Bool.and_eq_true] at h;exact h.2
def Y1 (s:Shp) (bs:List Box) (l:List Q0) (e:Q0):Int×Int×Int :=
 (Q0b (s.cols.getD e.col.toNat Tc.col.dflt) e.half,(s.cols.getD e.col.toNat Tc.col.dflt).y,2*((s.cols.getD e.col.toNat Tc.col.dflt).z+Zo bs l e.col (Zl e.half) e.tier)+Z9 (Qa bs e.box).1)
theorem Qcq {s:Shp} {bs:List Box} {l:List Q0} (h:Zj s bs l=true) {j:Nat} (hj:j<(Q6 l).length):Q1h s.cols bs (K3 bs ((Q6 l).take j)) ((Q6 l)[j])=⟨(Qa bs ((Q6 l)[j]).box).1,(Y1 s bs l ((Q6 l)[j])).1,(Y1 s bs l ((Q6 l)[j])).2.1,(Y1 s bs l ((Q6 l)[j])).2.2⟩:=by
 have hperm:=Vv l;have hM:∀ x∈(Q6 l).take j,x∈l:=fun x hx=>hperm.mem_iff.1 (List.mem_of_mem_take hx);have hX:=Qak h _ (hperm.mem_iff.1 (List.getElem_mem hj));unfold Q1h Y1;rw [Z3i,Z45 (fun x hx=>Qak h x (hM x hx)) _ (Qn8 _),Qq9 h hj];rcases hX.2 with h0|h0|h0
 . exact .inl h0
 . exact .inr (by rw [h0]; rfl)
 . exact .inr (by rw [h0]; rfl)
theorem Qri {s:Shp} {bs:List Box} {l:List Q0} (h:Y4 s bs l=true) {e:Q0} (he:e∈l):Ky s bs l e.box=((Y1 s bs l e).1,(Y1 s bs l e).2.1,(Y1 s bs l e).2.2,0):=by
 have hs:=Q1z h;have hf:=Q3x hs e he;have hlen:(K9 s.cols bs (Q6 l)).length=(Q6 l).length:=by unfold K9; rw [Q0t]
 have hget:∀ (j:Nat) (hj:j<(Q6 l).length),(K9 s.cols bs (Q6 l)).getD j Tc.mid.dflt=Q1h s.cols bs (K3 bs ((Q6 l).take j)) ((Q6 l)[j]):=fun j hj=>by
  unfold K9 Q6c;rw [Z2u (fun j=>Q1h s.cols bs (K3 bs ((Q6 l).take j)) ((Q6 l).getD j Tc.stowed.dflt)) _ 0 Tc.mid.dflt (by simpa using hj)];have hr:(List.range (Q6 l).length).getD j 0=j:=by rw [List.getD_eq_getElem?_getD,List.getElem?_range hj]; rfl
  rw [hr,List.getD_eq_getElem?_getD,List.getElem?_eq_getElem hj];rfl
 obtain⟨j,hj,hej⟩:=List.getElem_of_mem ((Vv l).mem_iff.2 he);rcases Q33 (G6 e.box) (K9 s.cols bs (Q6 l)) with ⟨_,hn⟩|⟨k,hk,h1,h2,_⟩
 . exfalso;have hm:Q1h s.cols bs (K3 bs ((Q6 l).take j)) ((Q6 l).getD j Tc.stowed.dflt)∈K9 s.cols bs (Q6 l):=List.mem_map.2 ⟨j,List.mem_range.2 hj,rfl⟩;have h2:=hn _ hm;unfold G6 Q1h at h2;rw [List.getD_eq_getElem?_getD,List.getElem?_eq_getElem hj,Option.getD_some,hej,(Qgr hf).1] at h2;simp at h2
 . rw [hlen] at hk;have hgk:=hget k hk;have hmk:(K9 s.cols bs (Q6 l))[k]'(by omega)=Q1h s.cols bs (K3 bs ((Q6 l).take k)) ((Q6 l)[k]):=by
    rw [<- hgk,List.getD_eq_getElem?_getD,List.getElem?_eq_getElem (by omega)];rfl
   rw [hmk,Qcq hs hk] at h2;have hxl:(Q6 l)[k]∈l:=(Vv l).mem_iff.1 (List.getElem_mem hk);have hid:((Q6 l)[k]).box=e.box:=by
    unfold G6 at h2;simp only [decide_eq_true_eq] at h2;rw [(Qgr (Q3x hs _ hxl)).1] at h2;exact h2
   have hx:=Z60 hs hxl he hid;unfold Ky;rw [h,h1,cond_true,decide_eq_false (by omega),cond_false];unfold Qj7;rw [show ((k:Int)).toNat=k by omega,hgk,Qcq hs hk,hx]
theorem Qup {s:Shp} {bs:List Box} {l:List Q0} (h:Y4 s bs l=true) {id:Int} (hn:∀ e∈l,e.box≠id):Ky s bs l id=(0,0,0,6):=by
 have hs:=Q1z h;rcases Q33 (G6 id) (K9 s.cols bs (Q6 l)) with ⟨h1,_⟩|⟨k,hk,h1,h2,_⟩
 . unfold Ky;rw [h,h1];rfl
 . exfalso;have hlen:(K9 s.cols bs (Q6 l)).length=(Q6 l).length:=by unfold K9; rw [Q0t]
   have hm:=List.getElem_mem hk;obtain⟨j,hj,he⟩:=List.mem_map.1 hm;rw [List.mem_range] at hj;rw [<- he] at h2;unfold G6 Q1h at h2;simp only [decide_eq_true_eq] at h2;rw [List.getD_eq_getElem?_getD,List.getElem?_eq_getElem hj,Option.getD_some] at h2;have hxl:(Q6 l)[j]∈l:=(Vv l).mem_iff.1 (List.getElem_mem hj);rw [(Qgr (Q3x hs _ hxl)).1] at h2;exact hn _ hxl h2
def Q7i (l:List Q0) (i k:Nat):Prop:=¬ (l.getD i Tc.stowed.dflt).box<=(l.getD k Tc.stowed.dflt).box/\K0 (Qs (l.getD k Tc.stowed.dflt)) (Qs (l.getD i Tc.stowed.dflt))=false
def Q9e (s:Shp) (bs:List Box) (l:List Q0) (i:Nat):Prop:=((Qa bs (l.getD i Tc.stowed.dflt).box).2=true/\K6 s.cols (Qs (l.getD i Tc.stowed.dflt)) (Qa bs (l.getD i Tc.stowed.dflt).box).1.size=true/\Js (Qs (l.getD i Tc.stowed.dflt)) (l.map Qs)=true)/\∀ k,k<i->Q7i l i k
theorem Qjd (a b:Za):K0 a b=K0 b a:=by
 unfold K0 Gu;rw [show decide (a.col=b.col)=decide (b.col=a.col) from by simp [eq_comm],show decide (a.tier=b.tier)=decide (b.tier=a.tier) from by simp [eq_comm],show decide (a.half=b.half)=decide (b.half=a.half) from by simp [eq_comm],Bool.or_comm (decide (a.half=0))]
theorem Qtd {l:List Q0} {j:Nat} (h:j<l.length):(l.map Qs).getD j Tc.slot.dflt=Qs (l.getD j Tc.stowed.dflt):=by
 rw [Kk _ (by simpa using h),Kk _ h,List.getElem_map]
theorem Qo3 {s:Shp} (hs:Yg s=true) (bs:List Box) (l:List Q0) {c:Nat} (hc:c<s.cols.length):Q68 s.cols bs l (c:Int) = !Q6g s.cols bs l (c:Int):=by
 have h:=(((Q4p s).1 hs).2.1 c hc).1;unfold Vm V4 at h;simp only [List.all_cons,List.all_nil,Bool.and_true,Bool.and_eq_true,Q0a,decide_eq_true_eq] at h;have h0:0<=(s.cols.getD c Tc.col.dflt).height:=h.2.2.2.2.1.1;unfold Q68 Q6g;rw [Int.toNat_natCast];generalize (s.cols.getD c Tc.col.dflt).height=H at h0;generalize Qt bs l (c:Int) 1=A;generalize Qt bs l (c:Int) 2=B;by_cases e:H=0
 . rw [decide_eq_true (show H<=0 by omega),decide_eq_true e]; rfl
 . rw [decide_eq_false (show ¬ H<=0 by omega),decide_eq_false e,Bool.false_or,Bool.not_false,Bool.true_and,Bool.not_or];by_cases a:A<=H<;>by_cases b:B<=H<;>simp [a,b]<;>omega
theorem Qht (s:Shp) (bs:List Box) (l:List Q0):Zj s bs l=true↔Yg s=true/\(∀ i,i<l.length->Q9e s bs l i)/\∀ c,c<s.cols.length->Q6g s.cols bs l (c:Int)=false:=by
 constructor
 . intro h;have hlt:=Qm7 h;unfold Zj at h;simp only [Bool.and_eq_true,decide_eq_true_eq] at h;obtain⟨h1,h2,h3⟩:=h;refine⟨h1,fun i hi => ?_,fun c hc => ?_⟩
   . have h4:=h2 i hi;unfold Vd at h4;simp only [Bool.and_eq_true,decide_eq_true_eq] at h4;refine⟨⟨h4.1.1,h4.2.1.1,h4.2.1.2⟩,fun k hk=>⟨?_,?_⟩⟩
     . have:=hlt k i hk hi;omega
     . have:=h4.2.2 k hk;rw [Qtd (by omega)] at this;rw [Qjd];exact this
   . have h4:=h3 c hc;rw [Qo3 h1 bs l hc] at h4;simpa using h4
 . rintro⟨h1,h2,h3⟩
   unfold Zj;simp only [Bool.and_eq_true,decide_eq_true_eq];refine⟨h1,fun i hi => ?_,fun c hc=>by rw [Qo3 h1 bs l hc,h3 c hc]; rfl⟩;obtain⟨⟨h4,h5,h6⟩,h7⟩:=h2 i hi;unfold Vd;simp only [Bool.and_eq_true,decide_eq_true_eq,Bool.or_eq_true];refine⟨⟨h4,?_⟩,⟨h5,h6⟩,fun j hj => ?_⟩
   . rcases Nat.eq_zero_or_pos i with h0|h0
     . exact .inl h0
     . have:=(h7 (i - 1) (by omega)).1;exact .inr (by omega)
   . rw [Qtd (by omega),Qjd];exact (h7 j hj).2
theorem Qtp {s:Shp} (hs:Yg s=true) {x:Za} {z:Int} (h:K6 s.cols x z=true):x.tier<=1000000:=by
 unfold K6 at h;simp only [Bool.and_eq_true,decide_eq_true_eq] at h;have h1:=(((Q4p s).1 hs).2.1 x.col.toNat (by omega)).1;unfold Vm V4 at h1;simp only [List.all_cons,List.all_nil,Bool.and_true,Bool.and_eq_true,Q0a,decide_eq_true_eq] at h1;have h2:=h1.2.2.2.1.2;omega
theorem Z7a {x:Bool} (h:(!x)=true):x=false:=by simpa using h
theorem Qy5 {x:Bool} (h:(!x)=false):x=true:=by simpa using h
theorem Qy2 {bs:List Box} {id:Int} (h:∀ b∈bs,Q1 b.size):Q1 (Qa bs id).1.size:=by
 unfold Qa
 cases hf:bs.find? (Q19 id) with
 | none =>
  show Q1 (0:Int)
  simp only [Q1];omega
 | some x=>exact h x (List.mem_of_find?_eq_some hf)
def Z8j (s:Shp) (bs:List Box) (l:List Q0):Lp where
 X:=Nat
 ov k := [(11,.int .i64 fun _=>(k:Int))]
 oe _ := []
 I k:=k<=s.cols.length/\∀ j,j<k->Q6g s.cols bs l ((j:Nat):Int)=false
 μ k _:=s.cols.length - k
 x0:=0
 nx:=some fun k=>k+1
def Qqq:Con:=Q2r 157 Va Yw Gk (fun s bs l=>Vg (s ())/\((bs ()).length<=1000000000000/\∀ b∈bs (),Q1 b.size)/\(l ()).length<=1000000) (fun s bs l => .bool fun _=>Zj (s ()) (bs ()) (l ()))
theorem Qty:Q7 Tryz.prog Qqq:=by
 refine Kp { kp := [(0,[0,1,2]),(1,[1,2,3]),(2,[]),(3,[1,2,3]),(4,[1,2,3,7]),(5,[1,2,3,7]),(6,[1,2,3,7]),(7,[1,2,3,7,8,9]),(8,[]),(9,[1,2,3,7]),(10,[1,2,3,7,10]),(11,[1,2,3,7,10]),(12,[1,2,3,7,10]),(13,[]),(14,[1,2,3]),(15,[1,2,3,11]),(16,[1,2,3,11]),(17,[1,2,3,11]),(18,[]),(19,[])] } [Qr4,Q7k,Qqt,Qnj,Qqx,Qt1,Qsp] ⟨Qul,Q5j,Qtw,Qs0,Qtz,Qu3,Qtv,trivial⟩ [] trivial Tryz.func157 (by kernel_rfl) fun avs res h hp => ?_;obtain⟨(s:Shp),(bs:List Box),(l:List Q0),rfl,rfl⟩:=Q47 h;clear h;obtain⟨hpre,⟨hbl,hbz⟩,hll⟩:Vg s/\(bs.length<=1000000000000/\∀ b∈bs,Q1 b.size)/\l.length<=1000000:=hp;refine⟨[(4,Q23 7 l (Q9e s bs l)),(15,Z8j s bs l)],?_⟩;have hF:∀ {P:Prop},(Zj s bs l=true->P)->¬ P->false=Zj s bs l:=fun h hn=>by
  cases hs:Zj s bs l with
  | false=>rfl
  | true=>exact absurd (h hs) hn
 have hI:=Qht s bs l
 conv=>arg 1; cbv
 simp (maxSteps:=4000000) only [fms,true_and,and_true,eq_self]
 try simp only [Qm4]
 refine⟨hpre,fun h=>hF (fun hs=>(hI.1 hs).1) (by simpa using h),fun h=>⟨⟨⟨Nat.zero_le _,fun j hj=>absurd hj (Nat.not_lt_zero _)⟩,rfl⟩,fun (k:Nat) hk => ?_⟩⟩;have hsb:Yg s=true:=by simpa using h
 have hsl:=((Q4p s).1 hsb).1.1;have hZhk1:k<=l.length/\∀ j,j<k->Q9e s bs l j:=hk;have hk1:=hZhk1.1;have hk2:=hZhk1.2
 conv=>arg 1; cbv
 simp (maxSteps:=4000000) only [fms,true_and,and_true,eq_self]
 try simp only [Qm4]
 refine⟨fun g => ?_,fun g => ?_⟩
 . have hlt:k<l.length:=by omega
   have hFk:¬ Q9e s bs l k->false=Zj s bs l:=fun q=>hF (fun hs=>(hI.1 hs).2.1 k hlt) q;refine⟨⟨by omega,by omega⟩,hbl,fun a=>hFk fun q=>(by rw [q.1.1] at a; cases a),fun a=>⟨⟨by omega,by omega⟩,Qy2 hbz,fun b=>hFk fun q => ?_,fun b=>⟨⟨by omega,by omega⟩,hll,⟨by rw [List.length_map]; omega,?_⟩,fun c=>hFk fun q => ?_,fun c=>⟨G4 10 k (Q7i l k),?_⟩⟩⟩⟩
   . have e:K6 s.cols (Qs (l.getD k Tc.stowed.dflt)) (Qa bs (l.getD k Tc.stowed.dflt).box).1.size=false:=Z7a b;rw [q.1.2.1] at e;cases e
   . have e:K6 s.cols (Qs (l.getD k Tc.stowed.dflt)) (Qa bs (l.getD k Tc.stowed.dflt).box).1.size=true:=Qy5 b;exact Qtp hsb e
   . have e:Js (Qs (l.getD k Tc.stowed.dflt)) (l.map Qs)=false:=Z7a c;rw [q.1.2.2] at e;cases e
   have ea:(Qa bs (l.getD k Tc.stowed.dflt).box).2=true:=Qy5 a;have eb:K6 s.cols (Qs (l.getD k Tc.stowed.dflt)) (Qa bs (l.getD k Tc.stowed.dflt).box).1.size=true:=Qy5 b;have ec:Js (Qs (l.getD k Tc.stowed.dflt)) (l.map Qs)=true:=Qy5 c
   conv=>arg 1; cbv
   refine⟨?_,fun (m:Nat) hm => ?_⟩
   . simp (maxSteps:=4000000) only [fms,true_and,and_true,eq_self];exact⟨⟨Nat.zero_le _,fun j hj=>absurd hj (Nat.not_lt_zero _)⟩,rfl⟩
   have hZhm1:m<=k/\∀ q,q<m->Q7i l k q:=hm;have hm1:=hZhm1.1;have hm2:=hZhm1.2
   conv=>arg 1; cbv
   simp (maxSteps:=4000000) only [fms,true_and,and_true,eq_self];refine⟨fun g5 => ?_,fun g5=>Yr (n:=l.length) (P:=Q9e s bs l) (by omega) hlt hk2 ⟨⟨ea,eb,ec⟩,fun q hq=>hm2 q (by omega)⟩⟩;have hmk:m<k:=by omega
   have hN:=fun q=>Yr (P:=Q7i l k) (show k<=1000000000000 by omega) hmk hm2 q;have hFm:¬ Q7i l k m->false=Zj s bs l:=fun q=>hFk fun h=>q (h.2 m hmk);exact⟨⟨by omega,by omega⟩,⟨by omega,by omega⟩,fun a=>hFm fun q=>q.1 a,fun a=>⟨⟨by omega,by omega⟩,⟨by omega,by omega⟩,fun b=>hFm fun q=>absurd (q.2.symm.trans b) (by decide),fun b=>hN ⟨a,b⟩⟩⟩
 . refine⟨⟨⟨Nat.zero_le _,fun j hj=>absurd hj (Nat.not_lt_zero _)⟩,rfl⟩,fun (i:Nat) hi => ?_⟩;have hZhi1:i<=s.cols.length/\∀ j,j<i->Q6g s.cols bs l ((j:Nat):Int)=false:=hi;have hi1:=hZhi1.1;have hi2:=hZhi1.2
   conv=>arg 1; cbv
   simp (maxSteps:=4000000) only [fms,true_and,and_true,eq_self]
   try simp only [Qm4]
   have hFi:¬ (Q6g s.cols bs l ((i:Nat):Int)=false)->i<s.cols.length->false=Zj s bs l:=fun q hq=>hF (fun hs=>(hI.1 hs).2.2 i hq) q;refine⟨fun g6=>⟨⟨hbl,hll,by omega,by omega⟩,fun a=>hFi (by rw [a]; decide) (by omega),fun a => ?_⟩,fun g6=>(hI.2 ⟨hsb,fun j hj=>hk2 j (by omega),fun j hj=>hi2 j (by omega)⟩).symm⟩;exact Yr (n:=s.cols.length) (P:=fun j=>Q6g s.cols bs l ((j:Nat):Int)=false) (by omega) (by omega) hi2 a
def Qra:Con:=Yd 158 Qhw (fun _=>True) (fun b => .int .i64 fun _=>Z9 (b ()))
theorem Qu7:Q7 Tryz.prog Qra:=by
 refine Qp [] trivial Tryz.func158 (by kernel_rfl) fun avs res h hp => ?_;obtain⟨(b:Box),rfl,rfl⟩:=Yk h;clear h;refine⟨[],?_⟩
 conv=>arg 1; cbv
 simp (maxSteps:=4000000) only [fms,true_and,and_true,eq_self];refine⟨fun g => ?_,fun g => ?_⟩<;>unfold Z9<;>rw [g]<;>rfl
def uAt (bs:List Box) (c a t:Int) (y:Q0):Int:=cond (decide (y.tier<t)) (hAt bs c a y) 0
theorem Qf2 {bs:List Box} {c a t:Int} {y:Q0} (hf:(Qa bs y.box).2=true) (h1:y.col=c) (h2:y.tier<t) (h3:y.half=a\/y.half=0):uAt bs c a t y=Z9 (Qa bs y.box).1:=by
 unfold uAt hAt;rw [decide_eq_true h2,cond_true,if_pos ⟨h1,h3⟩,if_pos hf]
theorem Q9j {bs:List Box} {c a t:Int} {y:Q0} (h:¬ y.col=c\/¬ y.tier<t\/(¬ y.half=a/\¬ y.half=0)):uAt bs c a t y=0:=by
 unfold uAt hAt;rcases h with h|h|h
 . rw [if_neg fun q=>h q.1]; cases decide (y.tier<t)<;>rfl
 . rw [decide_eq_false h]; rfl
 . rw [if_neg fun q=>q.2.elim h.1 h.2]; cases decide (y.tier<t)<;>rfl
theorem Q59 (bs:List Box) (l:List Q0) (c a t:Int):0<=Zo bs l c a t/\Zo bs l c a t<=2896*(l.length:Int):=by
 have h:0<=Zo bs l c a t/\Zo bs l c a t<=2896*((l.filter fun x=>decide (x.tier<t)).length:Int):=Q8e _ (Q7z bs c a) _;have:=List.length_filter_le (fun x:Q0=>decide (x.tier<t)) l;omega
theorem Qje {bs:List Box} {l:List Q0} {c a t:Int} {k:Nat} (hlt:k<l.length):Zo bs (l.take (k+1)) c a t=Zo bs (l.take k) c a t+uAt bs c a t (l.getD k Tc.stowed.dflt):=by
 unfold Zo uAt;rw [show l.take (k+1)=l.take k ++ [l[k]] from by rw [List.take_add_one,List.getElem?_eq_getElem hlt]; rfl,List.filter_append,Qgc,Kk _ hlt];congr 1
 cases hd:decide (l[k].tier<t) with
 | true=>simp [List.filter_cons,hd,Qt]
 | false=>simp [List.filter_cons,hd,Qt]
def Z55 (bs:List Box) (l:List Q0) (i:Nat):Lp where
 X:=Nat
 ov k := [(15,.int .i64 fun _=>(k:Int)),(14,.int .i64 fun _=>Zo bs (l.take k) (l.getD i Tc.stowed.dflt).col (Zl (l.getD i Tc.stowed.dflt).half) (l.getD i Tc.stowed.dflt).tier)]
 oe _ := []
 I k:=k<=l.length
 μ k _:=l.length - k
 x0:=0
 nx:=some fun k=>k+1
def Qd2:Con:=Q63 95 Va Yw Gk kI (fun s bs l i=>Zj (s ()) (bs ()) (l ())=true/\(bs ()).length<=1000000000000/\(l ()).length<=1000000/\0<=i ()/\i ()<((l ()).length:Int)) (fun s bs l i => .tup [.int .i64 fun _=>(Y1 (s ()) (bs ()) (l ()) ((l ()).getD (i ()).toNat Tc.stowed.dflt)).1,.int .i64 fun _=>(Y1 (s ()) (bs ()) (l ()) ((l ()).getD (i ()).toNat Tc.stowed.dflt)).2.1,.int .i64 fun _=>(Y1 (s ()) (bs ()) (l ()) ((l ()).getD (i ()).toNat Tc.stowed.dflt)).2.2])
theorem Qdj:Q7 Tryz.prog Qd2:=by
 refine Kp { kp := [(0,[0,1,2,3]),(1,[1,2,3,4]),(2,[1,2,3,4,11]),(3,[1,2,3,11,12]),(4,[1,2,3,11,12,13]),(5,[1,2,3,11,12]),(6,[1,2,3,11,12,13]),(7,[1,2,3,11,12,13,14]),(8,[1,2,3,11,12,13,14,15]),(9,[1,2,3,11,12,13,14,15]),(10,[1,2,3,11,12,13,14,15]),(11,[1,2,3,11,12,13,14,15,16]),(12,[1,2,3,11,12,13,14,15]),(13,[1,2,3,11,12,13,14,15,17]),(14,[1,2,3,11,12,14]),(15,[1,2,3,11,12,14,19]),(16,[1,2,3,11,12,14,19]),(17,[1,2,3,11,12,14,19]),(18,[1,2,3,12,14,19]),(19,[1,2,3,12,14,19]),(20,[12,14,19,20])] } [Q7k,Qra] ⟨Q5j,Qu7,trivial⟩ [] trivial Tryz.func95 (by kernel_rfl) fun avs res h hp => ?_;obtain⟨(s:Shp),(bs:List Box),(l:List Q0),(i:Int),rfl,rfl⟩:=Q8t h;clear h;have hZhs:Zj s bs l=true/\bs.length<=1000000000000/\l.length<=1000000/\0<=i/\i<(l.length:Int):=hp;have hs:=hZhs.1;have hbl:=hZhs.2.1;have hll:=hZhs.2.2.1;have hi0:=hZhs.2.2.2.1;have hi1:=hZhs.2.2.2.2;obtain⟨i,rfl⟩:=Int.eq_ofNat_of_zero_le hi0;have hil:i<l.length:=by omega
 refine⟨[(8,Z55 bs l i)],?_⟩
 conv=>arg 1; cbv
 simp (maxSteps:=4000000) only [fms,true_and,and_true,eq_self];have hr:=Q4k hs hil;unfold Vd at hr;simp only [Bool.and_eq_true,decide_eq_true_eq] at hr;have hso:=hr.2.1.1;unfold K6 at hso;simp only [Bool.and_eq_true,decide_eq_true_eq] at hso;have hcol:0<=(l.getD i Tc.stowed.dflt).col/\(l.getD i Tc.stowed.dflt).col<(s.cols.length:Int):=⟨hso.1,hso.2.1⟩
 have h3:=(Qak hs _ (Z7 Tc.stowed.dflt hil)).2;have hfd:∀ j,j<l.length->(Qa bs (l.getD j Tc.stowed.dflt).box).2=true:=fun j hj=>Q3x hs _ (Z7 Tc.stowed.dflt hj);have hcb:=(((Q4p s).1 ((Qht s bs l).1 hs).1).2.1 (l.getD i Tc.stowed.dflt).col.toNat (by omega)).1;unfold Vm V4 at hcb;simp only [List.all_cons,List.all_nil,Bool.and_true,Bool.and_eq_true,Q0a,decide_eq_true_eq] at hcb;obtain⟨_,_,_,_,_,_,_,_,hx,hy,hz⟩:=hcb;clear hr hso;refine⟨⟨by omega,by omega⟩,hcol,fun h0=>⟨⟨Nat.zero_le _,rfl,rfl⟩,fun (k:Nat) hk => ?_⟩,fun h0=>⟨⟨Nat.zero_le _,rfl,rfl⟩,fun (k:Nat) hk => ?_⟩⟩
 . have hk1:k<=l.length:=hk;have ha:Zl (l.getD i Tc.stowed.dflt).half=1:=by rw [h0]; rfl
   conv=>arg 1; cbv
   simp (maxSteps:=4000000) only [fms,true_and,and_true,eq_self];have hub:=Q59 bs (l.take k) (l.getD i Tc.stowed.dflt).col (Zl (l.getD i Tc.stowed.dflt).half) (l.getD i Tc.stowed.dflt).tier;rw [List.length_take] at hub;have hkl:min k l.length=k:=by omega
   rw [hkl] at hub;refine⟨fun g => ?_,fun g => ?_⟩
   . have hlt:k<l.length:=by omega
     have hn:=Qje (bs:=bs) (c:=(l.getD i Tc.stowed.dflt).col) (a:=Zl (l.getD i Tc.stowed.dflt).half) (t:=(l.getD i Tc.stowed.dflt).tier) hlt;have hN:uAt bs (l.getD i Tc.stowed.dflt).col (Zl (l.getD i Tc.stowed.dflt).half) (l.getD i Tc.stowed.dflt).tier (l.getD k Tc.stowed.dflt)=0->Q1 ((k:Int)+1)/\(k+1<=l.length/\l.length - (k+1)<l.length - k)/\(k:Int)+1=((k+1:Nat):Int)/\Zo bs (l.take k) (l.getD i Tc.stowed.dflt).col (Zl (l.getD i Tc.stowed.dflt).half) (l.getD i Tc.stowed.dflt).tier=Zo bs (l.take (k+1)) (l.getD i Tc.stowed.dflt).col (Zl (l.getD i Tc.stowed.dflt).half) (l.getD i Tc.stowed.dflt).tier:=fun e=>⟨by simp only [Q1]; omega,⟨by omega,by omega⟩,by omega,by rw [hn,e]; omega⟩
     have htb:=Yf (Qa bs (l.getD k Tc.stowed.dflt).box).1;have hY:_:=(fun e=>⟨⟨by omega,by omega⟩,hbl,by simp only [Q1]; omega,by simp only [Q1]; omega,⟨by omega,by omega⟩,by omega,by rw [hn,e]⟩:uAt bs (l.getD i Tc.stowed.dflt).col (Zl (l.getD i Tc.stowed.dflt).half) (l.getD i Tc.stowed.dflt).tier (l.getD k Tc.stowed.dflt)=Z9 (Qa bs (l.getD k Tc.stowed.dflt).box).1->(0<=(k:Int)/\(k:Int)<(l.length:Int))/\bs.length<=1000000000000/\Q1 (Zo bs (l.take k) (l.getD i Tc.stowed.dflt).col (Zl (l.getD i Tc.stowed.dflt).half) (l.getD i Tc.stowed.dflt).tier+Z9 (Qa bs (l.getD k Tc.stowed.dflt).box).1)/\Q1 ((k:Int)+1)/\(k+1<=l.length/\l.length - (k+1)<l.length - k)/\(k:Int)+1=((k+1:Nat):Int)/\Zo bs (l.take k) (l.getD i Tc.stowed.dflt).col (Zl (l.getD i Tc.stowed.dflt).half) (l.getD i Tc.stowed.dflt).tier+Z9 (Qa bs (l.getD k Tc.stowed.dflt).box).1=Zo bs (l.take (k+1)) (l.getD i Tc.stowed.dflt).col (Zl (l.getD i Tc.stowed.dflt).half) (l.getD i Tc.stowed.dflt).tier)
     exact⟨⟨by omega,by omega⟩,fun c=>⟨fun t=>⟨fun z=>hY (Qf2 (hfd k hlt) c t (.inr z)),fun z=>⟨fun e=>hY (Qf2 (hfd k hlt) c t (.inl (e.trans ha.symm))),fun e=>hN (Q9j (.inr (.inr ⟨fun q=>e (q.trans ha),z⟩)))⟩⟩,fun t=>hN (Q9j (.inr (.inl t)))⟩,fun c=>hN (Q9j (.inl c))⟩
   have hkk:k=l.length:=by omega
   subst hkk;simp only [List.take_length];have hU:=Q59 bs l (l.getD i Tc.stowed.dflt).col (Zl (l.getD i Tc.stowed.dflt).half) (l.getD i Tc.stowed.dflt).tier;have hT:=Yf (Qa bs (l.getD i Tc.stowed.dflt).box).1;have hE:∀ X,X=Q0b (s.cols.getD (l.getD i Tc.stowed.dflt).col.toNat Tc.col.dflt) (l.getD i Tc.stowed.dflt).half->(0<=(i:Int)/\(i:Int)<(l.length:Int))/\bs.length<=1000000000000/\Q1 (2*(s.cols.getD (l.getD i Tc.stowed.dflt).col.toNat Tc.col.dflt).z)/\Q1 (2*Zo bs l (l.getD i Tc.stowed.dflt).col (Zl (l.getD i Tc.stowed.dflt).half) (l.getD i Tc.stowed.dflt).tier)/\Q1 (2*(s.cols.getD (l.getD i Tc.stowed.dflt).col.toNat Tc.col.dflt).z+2*Zo bs l (l.getD i Tc.stowed.dflt).col (Zl (l.getD i Tc.stowed.dflt).half) (l.getD i Tc.stowed.dflt).tier)/\Q1 (2*(s.cols.getD (l.getD i Tc.stowed.dflt).col.toNat Tc.col.dflt).z+2*Zo bs l (l.getD i Tc.stowed.dflt).col (Zl (l.getD i Tc.stowed.dflt).half) (l.getD i Tc.stowed.dflt).tier+Z9 (Qa bs (l.getD i Tc.stowed.dflt).box).1)/\X=(Y1 s bs l (l.getD i Tc.stowed.dflt)).1/\(s.cols.getD (l.getD i Tc.stowed.dflt).col.toNat Tc.col.dflt).y=(Y1 s bs l (l.getD i Tc.stowed.dflt)).2.1/\2*(s.cols.getD (l.getD i Tc.stowed.dflt).col.toNat Tc.col.dflt).z+2*Zo bs l (l.getD i Tc.stowed.dflt).col (Zl (l.getD i Tc.stowed.dflt).half) (l.getD i Tc.stowed.dflt).tier+Z9 (Qa bs (l.getD i Tc.stowed.dflt).box).1=(Y1 s bs l (l.getD i Tc.stowed.dflt)).2.2:=fun X e=>⟨⟨by omega,by omega⟩,hbl,by simp only [Q1]; omega,by simp only [Q1]; omega,by simp only [Q1]; omega,by simp only [Q1]; omega,e,rfl,by show _=2*((s.cols.getD (l.getD i Tc.stowed.dflt).col.toNat Tc.col.dflt).z+Zo bs l (l.getD i Tc.stowed.dflt).col (Zl (l.getD i Tc.stowed.dflt).half) (l.getD i Tc.stowed.dflt).tier)+Z9 (Qa bs (l.getD i Tc.stowed.dflt).box).1; omega⟩
   exact⟨fun o=>⟨by simp only [Q1]; omega,fun w=>absurd (o.symm.trans w) (by decide),fun w=>hE _ (by unfold Q0b; rw [decide_eq_true o]; rfl)⟩,fun o=>⟨fun w=>⟨by simp only [Q1]; omega,hE _ (by unfold Q0b; rw [decide_eq_false o,decide_eq_true w]; rfl)⟩,fun w=>hE _ (by unfold Q0b; rw [decide_eq_false o,decide_eq_false w]; rfl)⟩⟩
 . have hk1:k<=l.length:=hk;have ha:Zl (l.getD i Tc.stowed.dflt).half=(l.getD i Tc.stowed.dflt).half:=by rcases h3 with h|h|h<;>first|exact absurd h h0|(rw [h]; rfl)
   conv=>arg 1; cbv
   simp (maxSteps:=4000000) only [fms,true_and,and_true,eq_self];have hub:=Q59 bs (l.take k) (l.getD i Tc.stowed.dflt).col (Zl (l.getD i Tc.stowed.dflt).half) (l.getD i Tc.stowed.dflt).tier;rw [List.length_take] at hub;have hkl:min k l.length=k:=by omega
   rw [hkl] at hub;refine⟨fun g => ?_,fun g => ?_⟩
   . have hlt:k<l.length:=by omega
     have hn:=Qje (bs:=bs) (c:=(l.getD i Tc.stowed.dflt).col) (a:=Zl (l.getD i Tc.stowed.dflt).half) (t:=(l.getD i Tc.stowed.dflt).tier) hlt;have hN:uAt bs (l.getD i Tc.stowed.dflt).col (Zl (l.getD i Tc.stowed.dflt).half) (l.getD i Tc.stowed.dflt).tier (l.getD k Tc.stowed.dflt)=0->Q1 ((k:Int)+1)/\(k+1<=l.length/\l.length - (k+1)<l.length - k)/\(k:Int)+1=((k+1:Nat):Int)/\Zo bs (l.take k) (l.getD i Tc.stowed.dflt).col (Zl (l.getD i Tc.stowed.dflt).half) (l.getD i Tc.stowed.dflt).tier=Zo bs (l.take (k+1)) (l.getD i Tc.stowed.dflt).col (Zl (l.getD i Tc.stowed.dflt).half) (l.getD i Tc.stowed.dflt).tier:=fun e=>⟨by simp only [Q1]; omega,⟨by omega,by omega⟩,by omega,by rw [hn,e]; omega⟩
     have htb:=Yf (Qa bs (l.getD k Tc.stowed.dflt).box).1;have hY:_:=(fun e=>⟨⟨by omega,by omega⟩,hbl,by simp only [Q1]; omega,by simp only [Q1]; omega,⟨by omega,by omega⟩,by omega,by rw [hn,e]⟩:uAt bs (l.getD i Tc.stowed.dflt).col (Zl (l.getD i Tc.stowed.dflt).half) (l.getD i Tc.stowed.dflt).tier (l.getD k Tc.stowed.dflt)=Z9 (Qa bs (l.getD k Tc.stowed.dflt).box).1->(0<=(k:Int)/\(k:Int)<(l.length:Int))/\bs.length<=1000000000000/\Q1 (Zo bs (l.take k) (l.getD i Tc.stowed.dflt).col (Zl (l.getD i Tc.stowed.dflt).half) (l.getD i Tc.stowed.dflt).tier+Z9 (Qa bs (l.getD k Tc.stowed.dflt).box).1)/\Q1 ((k:Int)+1)/\(k+1<=l.length/\l.length - (k+1)<l.length - k)/\(k:Int)+1=((k+1:Nat):Int)/\Zo bs (l.take k) (l.getD i Tc.stowed.dflt).col (Zl (l.getD i Tc.stowed.dflt).half) (l.getD i Tc.stowed.dflt).tier+Z9 (Qa bs (l.getD k Tc.stowed.dflt).box).1=Zo bs (l.take (k+1)) (l.getD i Tc.stowed.dflt).col (Zl (l.getD i Tc.stowed.dflt).half) (l.getD i Tc.stowed.dflt).tier)
     exact⟨⟨by omega,by omega⟩,fun c=>⟨fun t=>⟨fun z=>hY (Qf2 (hfd k hlt) c t (.inr z)),fun z=>⟨fun e=>hY (Qf2 (hfd k hlt) c t (.inl (e.trans ha.symm))),fun e=>hN (Q9j (.inr (.inr ⟨fun q=>e (q.trans ha),z⟩)))⟩⟩,fun t=>hN (Q9j (.inr (.inl t)))⟩,fun c=>hN (Q9j (.inl c))⟩
   have hkk:k=l.length:=by omega
   subst hkk;simp only [List.take_length];have hU:=Q59 bs l (l.getD i Tc.stowed.dflt).col (Zl (l.getD i Tc.stowed.dflt).half) (l.getD i Tc.stowed.dflt).tier;have hT:=Yf (Qa bs (l.getD i Tc.stowed.dflt).box).1;have hE:∀ X,X=Q0b (s.cols.getD (l.getD i Tc.stowed.dflt).col.toNat Tc.col.dflt) (l.getD i Tc.stowed.dflt).half->(0<=(i:Int)/\(i:Int)<(l.length:Int))/\bs.length<=1000000000000/\Q1 (2*(s.cols.getD (l.getD i Tc.stowed.dflt).col.toNat Tc.col.dflt).z)/\Q1 (2*Zo bs l (l.getD i Tc.stowed.dflt).col (Zl (l.getD i Tc.stowed.dflt).half) (l.getD i Tc.stowed.dflt).tier)/\Q1 (2*(s.cols.getD (l.getD i Tc.stowed.dflt).col.toNat Tc.col.dflt).z+2*Zo bs l (l.getD i Tc.stowed.dflt).col (Zl (l.getD i Tc.stowed.dflt).half) (l.getD i Tc.stowed.dflt).tier)/\Q1 (2*(s.cols.getD (l.getD i Tc.stowed.dflt).col.toNat Tc.col.dflt).z+2*Zo bs l (l.getD i Tc.stowed.dflt).col (Zl (l.getD i Tc.stowed.dflt).half) (l.getD i Tc.stowed.dflt).tier+Z9 (Qa bs (l.getD i Tc.stowed.dflt).box).1)/\X=(Y1 s bs l (l.getD i Tc.stowed.dflt)).1/\(s.cols.getD (l.getD i Tc.stowed.dflt).col.toNat Tc.col.dflt).y=(Y1 s bs l (l.getD i Tc.stowed.dflt)).2.1/\2*(s.cols.getD (l.getD i Tc.stowed.dflt).col.toNat Tc.col.dflt).z+2*Zo bs l (l.getD i Tc.stowed.dflt).col (Zl (l.getD i Tc.stowed.dflt).half) (l.getD i Tc.stowed.dflt).tier+Z9 (Qa bs (l.getD i Tc.stowed.dflt).box).1=(Y1 s bs l (l.getD i Tc.stowed.dflt)).2.2:=fun X e=>⟨⟨by omega,by omega⟩,hbl,by simp only [Q1]; omega,by simp only [Q1]; omega,by simp only [Q1]; omega,by simp only [Q1]; omega,e,rfl,by show _=2*((s.cols.getD (l.getD i Tc.stowed.dflt).col.toNat Tc.col.dflt).z+Zo bs l (l.getD i Tc.stowed.dflt).col (Zl (l.getD i Tc.stowed.dflt).half) (l.getD i Tc.stowed.dflt).tier)+Z9 (Qa bs (l.getD i Tc.stowed.dflt).box).1; omega⟩
   exact⟨fun o=>⟨by simp only [Q1]; omega,fun w=>absurd (o.symm.trans w) (by decide),fun w=>hE _ (by unfold Q0b; rw [decide_eq_true o]; rfl)⟩,fun o=>⟨fun w=>⟨by simp only [Q1]; omega,hE _ (by unfold Q0b; rw [decide_eq_false o,decide_eq_true w]; rfl)⟩,fun w=>hE _ (by unfold Q0b; rw [decide_eq_false o,decide_eq_false w]; rfl)⟩⟩
/- sums -/
theorem Z0l {l m:List Ld} (h:l.Perm m):Yx l=Yx m:=by
 induction h with
 | nil=>rfl
 | cons x _ ih=>rw [Ku,Ku,ih]
 | swap x y l=>rw [Ku,Ku,Ku,Ku,<- Q3f,<- Q3f,Qox y x]
 | trans _ _ ih1 ih2=>exact ih1.trans ih2
def Qys (s:Shp) (bs:List Box) (l:List Q0) (e:Q0):Mid:=⟨(Qa bs e.box).1,(Y1 s bs l e).1,(Y1 s bs l e).2.1,(Y1 s bs l e).2.2⟩
theorem Z23 {s:Shp} {bs:List Box} {l:List Q0} (h:Zj s bs l=true):K9 s.cols bs (Q6 l)=(Q6 l).map (Qys s bs l):=by
 apply List.ext_getElem?;intro j;unfold K9 Q6c;rw [List.getElem?_map,List.getElem?_map];by_cases hj:j<(Q6 l).length
 . rw [List.getElem?_range hj,List.getElem?_eq_getElem hj,Option.map_some,Option.map_some,List.getD_eq_getElem?_getD,List.getElem?_eq_getElem hj,Option.getD_some,Qcq h hj];rfl
 . rw [List.getElem?_eq_none (by rw [List.length_range]; omega),List.getElem?_eq_none (by omega)];rfl
def Q52 (s:Shp) (bs:List Box) (l:List Q0) (e:Q0):Ld:=Z34 (Qys s bs l e)
theorem Z20 {m:Mid} (h:(0<=m.box.kilos/\m.box.kilos<=40000)/\(-1100000<=m.x/\m.x<=1100000)/\(-1100000<=m.y/\m.y<=1100000) /\ -1100000<=m.h/\m.h<=1100000):Q0f m=Z34 m/\Yi (Z34 m)=true:=by
 constructor
 . unfold Q0f Kr;rw [if_pos]
   . rfl
   . simp only [Bool.and_eq_true];exact⟨Q1n.2 (by omega),Ks.2 (by omega),Ks.2 (by omega),Ks.2 (by omega)⟩
 . have arm:∀ x:Int,-1100000<=x->x<=1100000 -> -(m.box.kilos*1100000)<=m.box.kilos*x/\m.box.kilos*x<=m.box.kilos*1100000:=fun x h3 h4=>by
    have h5:m.box.kilos*x<=m.box.kilos*1100000:=Int.mul_le_mul_of_nonneg_left (by omega) h.1.1;have h6:m.box.kilos*(-1100000)<=m.box.kilos*x:=Int.mul_le_mul_of_nonneg_left (by omega) h.1.1;omega
   exact Qvc ⟨⟨h.1.1,by show m.box.kilos<=_; omega⟩,arm _ (by omega) (by omega),arm _ (by omega) (by omega),arm _ (by omega) (by omega)⟩
theorem Z1a {bs:List Box} (h:(Y5 bs).2=0):∀ b∈bs,G8 b=true:=by
 intro b hb;obtain⟨k,hk,rfl⟩:=List.getElem_of_mem hb;unfold Y5 at h;split at h
 . cases h
 split at h
 . cases h
 rename_i h1;rw [List.find?_eq_none] at h1;have h2:=h1 k (List.mem_range.2 hk);unfold Yo at h2;rw [List.getElem?_eq_getElem hk] at h2;simp only [Bool.or_eq_true,not_or,Bool.not_eq_true,Bool.not_eq_false'] at h2;exact h2.2
theorem Qxu {b:Box} (h:G8 b=true):1<=b.kilos/\b.kilos<=40000:=by
 unfold G8 at h;simp only [Bool.and_eq_true] at h;have h3:Q0h b.kilos 1 (Q6i b.size)=true:=h.1.1.2;unfold Q0h Q6i at h3;simp only [Bool.and_eq_true,decide_eq_true_eq] at h3;split at h3<;>omega
theorem Qg4 {s:Shp} {bs:List Box} {l:List Q0} (h:Y4 s bs l=true) (id:Int):0<=(Qa bs id).1.kilos/\(Qa bs id).1.kilos<=40000:=by
 unfold Y4 at h;simp only [Bool.and_eq_true,decide_eq_true_eq] at h;exact Quk (fun b hb=>by have:=Qxu (Z1a h.1 b hb); omega) (by omega) id
theorem Qe6 {s:Shp} {bs:List Box} {l:List Q0} (h:Zj s bs l=true) {e:Q0} (he:e∈l):(0<=e.tier/\e.tier<=9)/\(-500000<=(s.cols.getD e.col.toNat Tc.col.dflt).x/\(s.cols.getD e.col.toNat Tc.col.dflt).x<=500000)/\(-500000<=(s.cols.getD e.col.toNat Tc.col.dflt).y/\(s.cols.getD e.col.toNat Tc.col.dflt).y<=500000)/\(-500000<=(s.cols.getD e.col.toNat Tc.col.dflt).z/\(s.cols.getD e.col.toNat Tc.col.dflt).z<=500000):=by
 obtain⟨i,hi,rfl⟩:=List.getElem_of_mem he;have hr:=Q4k h hi;rw [show l[i]=l.getD i Tc.stowed.dflt from by rw [List.getD_eq_getElem?_getD,List.getElem?_eq_getElem hi]; rfl];unfold Vd at hr;simp only [Bool.and_eq_true,decide_eq_true_eq] at hr;have hso:=hr.2.1.1;unfold K6 at hso;simp only [Bool.and_eq_true,decide_eq_true_eq] at hso;have hZh1:0<=(l.getD i Tc.stowed.dflt).col/\(l.getD i Tc.stowed.dflt).col<(s.cols.length:Int)/\0<=(l.getD i Tc.stowed.dflt).tier/\(l.getD i Tc.stowed.dflt).tier<(s.cols.getD (l.getD i Tc.stowed.dflt).col.toNat Tc.col.dflt).tiers/\_:=hso;have h1:=hZh1.1;have h2:=hZh1.2.1;have h3:=hZh1.2.2.1;have h4:=hZh1.2.2.2.1;have _:=hZh1.2.2.2.2;have hcb:=(((Q4p s).1 ((Qht s bs l).1 h).1).2.1 (l.getD i Tc.stowed.dflt).col.toNat (by omega)).1;unfold Vm V4 at hcb;simp only [List.all_cons,List.all_nil,Bool.and_true,Bool.and_eq_true,Q0a,decide_eq_true_eq] at hcb;obtain⟨_,_,_,ht,_,_,_,_,hx,hy,hz⟩:=hcb;omega
theorem Qye {s:Shp} {bs:List Box} {l:List Q0} (h:Zj s bs l=true) {e:Q0} (he:e∈l):0<=Zo bs l e.col (Zl e.half) e.tier/\Zo bs l e.col (Zl e.half) e.tier<=2896*e.tier:=by
 have h0:=(Qe6 h he).1.1;refine Qc (Zl e.half) fun a ha => ?_;have ha0:a≠0:=by have:=Qn8 e.half; omega
 rw [ha];unfold Zo;refine Qc (l.filter fun x=>decide (x.tier<e.tier)) fun L hL => ?_;rw [hL];have hp:=Q7e (bs:=bs) (c:=e.col) (a:=a) (fun x=>decide (x.col=e.col)&&(decide (x.half=a)||decide (x.half=0))) L fun x _ hx=>by
  unfold hAt;rw [if_neg]
  rintro⟨q1,q2⟩
  simp only [Bool.and_eq_false_iff,Bool.or_eq_false_iff,decide_eq_false_iff_not] at hx;rcases hx with hx|hx
  . exact hx q1
  . exact q2.elim hx.1 hx.2
 rw [<- hp];refine Qc (L.filter fun x=>decide (x.col=e.col)&&(decide (x.half=a)||decide (x.half=0))) fun M hM => ?_;rw [hM];have hb:0<=Qt bs M e.col a/\Qt bs M e.col a<=2896*(M.length:Int):=Q8e _ (Q7z bs e.col a) _;have hlen:M.length<=e.tier.toNat:=by
  have e1:M.length=(M.map (·.tier)).length:=by rw [List.length_map]
  have hin:∀ x∈M,x∈l/\x.tier<e.tier/\x.col=e.col/\(x.half=a\/x.half=0):=fun x hx=>by
   rw [<- hM,List.mem_filter,<- hL,List.mem_filter] at hx;simp only [Bool.and_eq_true,Bool.or_eq_true,decide_eq_true_eq] at hx;exact⟨hx.1.1,hx.1.2,hx.2.1,hx.2.2⟩
  have hsub:M.Sublist l:=by rw [<- hM,<- hL]; exact List.filter_sublist.trans List.filter_sublist
  rw [e1];have:((List.range e.tier.toNat).map fun k:Nat=>(k:Int)).length=e.tier.toNat:=by rw [List.length_map,List.length_range]
  rw [<- this];refine List.Nodup.length_le_of_subset ?_ fun t ht => ?_
  . unfold List.Nodup;rw [List.pairwise_map];refine List.Pairwise.imp_of_mem ?_ ((Qlc h).sublist hsub);intro x y hx hy hne ht;have q1:=hin x hx;have q2:=hin y hy;refine hne (Qjv h q1.1 q2.1 ?_);unfold K0 Gu Qs;rcases q1.2.2.2 with g1|g1<;>rcases q2.2.2.2 with g2|g2<;>simp [q1.2.2.1,q2.2.2.1,g1,g2,ht]
  . obtain⟨x,hx,rfl⟩:=List.mem_map.1 ht;have q1:=hin x hx;have q2:=(Qe6 h q1.1).1.1;exact List.mem_map.2 ⟨x.tier.toNat,List.mem_range.2 (by omega),by omega⟩
 omega
theorem Qu9 {s:Shp} {bs:List Box} {l:List Q0} (h:Zj s bs l=true) {e:Q0} (he:e∈l):(-1100000<=(Y1 s bs l e).1/\(Y1 s bs l e).1<=1100000)/\(-1100000<=(Y1 s bs l e).2.1/\(Y1 s bs l e).2.1<=1100000) /\ -1100000<=(Y1 s bs l e).2.2/\(Y1 s bs l e).2.2<=1100000:=by
 have h1:=Qe6 h he;have h2:=Qye h he;have h3:=Yf (Qa bs e.box).1;refine⟨?_,?_,?_⟩
 . show -1100000<=Q0b _ _/\Q0b _ _<=1100000
   unfold Q0b;cases decide (e.half=1)<;>cases decide (e.half=2)<;>simp only [cond_true,cond_false]<;>omega
 . show -1100000<=(s.cols.getD _ Tc.col.dflt).y/\(s.cols.getD _ Tc.col.dflt).y<=1100000
   omega
 . show -1100000<=2*(_+_)+Z9 _/\2*(_+_)+Z9 _<=1100000
   omega
theorem Qkn {s:Shp} {bs:List Box} {l:List Q0} (h:Y4 s bs l=true) {e:Q0} (he:e∈l):Q0f (Qys s bs l e)=Q52 s bs l e/\Yi (Q52 s bs l e)=true :=
 Z20 ⟨Qg4 h e.box,Qu9 (Q1z h) he⟩
theorem Qdd {s:Shp} {bs:List Box} {l:List Q0} (h:Y4 s bs l=true):∀ m:List Q0,0<=(Yx (m.map (Q52 s bs l))).kilos/\(Yx (m.map (Q52 s bs l))).kilos<=40000*(m.length:Int)
 | []=>by simp [Yx,ld0]
 | e::m=>by
  have h1:=Qdd h m;have h2:=Qg4 h e.box;rw [List.map_cons,Ku];show 0<=(Qa bs e.box).1.kilos+_/\(Qa bs e.box).1.kilos+_<=_
  simp only [List.length_cons];omega
theorem Z0b {s:Shp} {bs:List Box} {l:List Q0} (h:Y4 s bs l=true) (hl:l.length<=1000):Jv s bs l=(Yx (l.map (Q52 s bs l)),0):=by
 have hst:=Q1z h;have hp:=Vv l;unfold Jv;rw [h,cond_true,Z23 hst,List.map_map];have e:(Q6 l).map (Q0f∘Qys s bs l)=(Q6 l).map (Q52 s bs l):=List.map_congr_left fun x hx=>(Qkn h (hp.mem_iff.1 hx)).1;rw [e,<- Z0l (hp.map (Q52 s bs l))];refine Z3b (fun x hx => ?_) ?_
 . obtain⟨m,hm,rfl⟩:=List.mem_map.1 hx;exact (Qkn h (hp.mem_iff.1 hm)).2
 . have:=Qdd h (Q6 l);rw [hp.length_eq] at this;omega
def Q2q (s:Shp) (bs:List Box) (l:List Q0):Prop:=Vg s/\(Jm bs/\∀ b∈bs,Q1 b.size)/\l.length<=1000
def Qdh:Con:=Q2r 94 Va Yw Gk (fun s bs l=>Q2q (s ()) (bs ()) (l ())) (fun s bs l => .bool fun _=>Y4 (s ()) (bs ()) (l ()))
theorem Qd8:Q7 Tryz.prog Qdh:=by
 refine Qp [Qn1,Qqq] ⟨Qrt,Qty,trivial⟩ Tryz.func94 (by kernel_rfl) fun avs res h hp => ?_;obtain⟨(s:Shp),(bs:List Box),(l:List Q0),rfl,rfl⟩:=Q47 h;clear h;obtain⟨h1,h2,h3⟩:Q2q s bs l:=hp;refine⟨[],?_⟩
 conv=>arg 1; cbv
 simp (maxSteps:=4000000) only [fms,true_and,and_true,eq_self];refine⟨⟨h2.1.1,h2.1.2⟩,fun g=>⟨⟨h1,⟨h2.1.1,h2.2⟩,by omega⟩,?_⟩,fun g => ?_⟩
 . unfold Y4;rw [decide_eq_true g,Bool.true_and]
 . unfold Y4;rw [decide_eq_false g];rfl
def Qjo:Con:=Q63 35 Va Yw Gk kI (fun s bs l _=>Q2q (s ()) (bs ()) (l ())) (fun s bs l id => .tup [.int .i64 fun _=>(Ky (s ()) (bs ()) (l ()) (id ())).1,.int .i64 fun _=>(Ky (s ()) (bs ()) (l ()) (id ())).2.1,.int .i64 fun _=>(Ky (s ()) (bs ()) (l ()) (id ())).2.2.1,.int .i64 fun _=>(Ky (s ()) (bs ()) (l ()) (id ())).2.2.2])
theorem Qp5:Q7 Tryz.prog Qjo:=by
 refine Kp { kp := [(0,[0,1,2,3]),(1,[1,2,3,4]),(2,[]),(3,[1,2,3,4]),(4,[1,2,3,4,12]),(5,[1,2,3,4,12]),(6,[1,2,3,4,12]),(7,[1,2,4,12]),(8,[13,14,15]),(9,[])] } [Qdh,Qd2] ⟨Qd8,Qdj,trivial⟩ [] trivial Tryz.func35 (by kernel_rfl) fun avs res h hp => ?_;obtain⟨(s:Shp),(bs:List Box),(l:List Q0),(id:Int),rfl,rfl⟩:=Q8t h;clear h;have hp':Q2q s bs l:=hp;refine⟨[(4,Q23 12 l fun j=>(l.getD j Tc.stowed.dflt).box≠id)],?_⟩
 conv=>arg 1; cbv
 simp (maxSteps:=4000000) only [fms,true_and,and_true,eq_self];have es:(⟨s.cols,s.covs,s.lk,s.lx,s.ly,s.lz,s.rows,s.frms,s.tnks,s.m1,s.m2,s.m3,s.m4⟩:Shp)=s:=rfl;simp only [es];refine⟨hp',fun g => ?_,fun g=>⟨⟨⟨Nat.zero_le _,fun j hj=>absurd hj (Nat.not_lt_zero _)⟩,rfl⟩,fun (k:Nat) hk => ?_⟩⟩
 . have hc:Y4 s bs l=false:=by simpa using g
   have e:Ky s bs l id=(0,0,0,2):=by unfold Ky; rw [hc]; rfl
   rw [e];exact⟨rfl,rfl,rfl,rfl⟩
 have hZhk1:k<=l.length/\∀ j,j<k->(l.getD j Tc.stowed.dflt).box≠id:=hk;have hk1:=hZhk1.1;have hk2:=hZhk1.2;have hc:Y4 s bs l=true:=by simpa using g
 have hl:=hp'.2.2
 conv=>arg 1; cbv
 simp (maxSteps:=4000000) only [fms,true_and,and_true,eq_self];simp only [es];refine⟨fun gk => ?_,fun gk => ?_⟩
 . have hlt:k<l.length:=by omega
   refine⟨⟨by omega,by omega⟩,fun c => ?_,fun c=>Yr (P:=fun j=>(l.getD j Tc.stowed.dflt).box≠id) (by omega) hlt hk2 c⟩;have hm:=Qri hc (Z7 Tc.stowed.dflt hlt);rw [c] at hm;rw [hm];refine⟨⟨Q1z hc,hp'.2.1.1.1,by omega,by omega,by omega⟩,?_⟩
   first|exact⟨rfl,rfl,rfl⟩|exact⟨rfl,rfl,rfl,rfl⟩|trivial
 . have hm:=Qup (id:=id) hc fun e he=>by
    obtain⟨j,hj,rfl⟩:=List.getElem_of_mem he;have:=hk2 j (by omega);rwa [List.getD_eq_getElem?_getD,List.getElem?_eq_getElem hj] at this
   rw [hm];exact⟨rfl,rfl,rfl,rfl⟩
def Qo8:Con:=Yd 38 Va (fun _=>True) (fun s => .tup [.agg (ldL fun _=>(Q9v (s ()).lk (s ()).lx (s ()).ly (s ()).lz).1),.int .i64 fun _=>(Q9v (s ()).lk (s ()).lx (s ()).ly (s ()).lz).2])
theorem Qrj:Q7 Tryz.prog Qo8:=by
 refine Qp [Qeu,Qb5] ⟨Qao,Qc4,trivial⟩ Tryz.func38 (by kernel_rfl) fun avs res h hp => ?_;obtain⟨(s:Shp),rfl,rfl⟩:=Yk h;clear h;refine⟨[],?_⟩
 conv=>arg 1; cbv
 simp (maxSteps:=4000000) only [fms,true_and,and_true,eq_self];unfold Q9v
 cases hz:Yb s.lz 1100000 with
 | false =>
  have:¬ (-1100000<=s.lz/\s.lz<=1100000):=fun q=>by
   have:=Ks.2 q;rw [hz] at this;cases this
  simp [ld0];intro q1 q2;exact absurd ⟨q1,q2⟩ this
 | true =>
  have:=Ks.1 hz;simp [Q1,show s.lz+s.lz=2*s.lz by omega];omega
def Z49 (s:Shp) (bs:List Box) (l:List Q0):Lp where
 X:=Nat
 ov k := [(9,.int .i64 fun _=>(k:Int))]
 oe k := [(2,.box 103 (ldL fun _=>Yx ((l.take k).map (Q52 s bs l))))]
 I k:=k<=l.length
 μ k _:=l.length - k
 x0:=0
 nx:=some fun k=>k+1
def Qnn:Con:=Q2r 36 Va Yw Gk (fun s bs l=>Q2q (s ()) (bs ()) (l ())) (fun s bs l => .tup [.agg (ldL fun _=>(Jv (s ()) (bs ()) (l ())).1),.int .i64 fun _=>(Jv (s ()) (bs ()) (l ())).2])
theorem Qt3:Q7 Tryz.prog Qnn:=by
 refine Kp { kp := [(0,[0,1,2]),(1,[1,2,3,6]),(2,[6]),(3,[1,2,3,6]),(4,[1,2,3,6,8]),(5,[1,2,3,6,8,9]),(6,[1,2,3,6,8,9]),(7,[1,2,3,6,8,9]),(8,[1,2,3,6,8,9,10,11,12]),(9,[1,2,3,6,8,9,10,11,12,13]),(10,[1,2,3,6,8,9,10,11,12,13]),(11,[1,2,3,6,8,9,11,12,13]),(12,[1,2,3,6,8,9,12,13]),(13,[6,8])] } [Qdh,Qd2,Q7k] ⟨Qd8,Qdj,Q5j,trivial⟩ [] trivial Tryz.func36 (by kernel_rfl) fun avs res h hp => ?_;obtain⟨(s:Shp),(bs:List Box),(l:List Q0),rfl,rfl⟩:=Q47 h;clear h;have hp':Q2q s bs l:=hp;refine⟨[(5,Z49 s bs l)],?_⟩
 conv=>arg 1; cbv
 simp (maxSteps:=4000000) only [fms,true_and,and_true,eq_self];have es:(⟨s.cols,s.covs,s.lk,s.lx,s.ly,s.lz,s.rows,s.frms,s.tnks,s.m1,s.m2,s.m3,s.m4⟩:Shp)=s:=rfl;simp only [es];refine⟨hp',fun g => ?_,fun g=>⟨⟨Nat.zero_le _,rfl,rfl,rfl,rfl,rfl⟩,fun (k:Nat) hk => ?_⟩⟩
 . have hc:Y4 s bs l=false:=by simpa using g
   have e:Jv s bs l=(ld0,2):=by unfold Jv; rw [hc]; rfl
   rw [e];exact⟨rfl,rfl,rfl,rfl,rfl⟩
 have hk1:k<=l.length:=hk;have hc:Y4 s bs l=true:=by simpa using g
 have hl:=hp'.2.2
 conv=>arg 1; cbv
 simp (maxSteps:=4000000) only [fms,true_and,and_true,eq_self];simp only [es];have hall:∀ m:List Q0,(∀ e∈m,e∈l)->m.length<=1000->Yi (Yx (m.map (Q52 s bs l)))=true:=fun m hm hn=>(Qmb _ (fun x hx=>by
  obtain⟨e,he,rfl⟩:=List.mem_map.1 hx;exact (Qkn hc (hm e he)).2) (by have:=Qdd hc m; omega)).1
 refine⟨fun gk => ?_,fun gk => ?_⟩
 . have hlt:k<l.length:=by omega
   have b1:=Q50 (hall (l.take k) (fun e he=>List.mem_of_mem_take he) (by rw [List.length_take]; omega));have b2:=Q50 (Qkn hc (Z7 Tc.stowed.dflt hlt)).2;have hnx:Yx ((l.take (k+1)).map (Q52 s bs l))=(Yx ((l.take k).map (Q52 s bs l))).add (Q52 s bs l (l.getD k Tc.stowed.dflt)):=by
    rw [Gp Tc.stowed.dflt hlt,List.map_append,Z24,List.map_cons,List.map_nil,Ku];congr 1;unfold Ld.add;apply Ld.ext'<;>simp [Yx,ld0]
   rw [hnx];generalize Yx ((l.take k).map (Q52 s bs l))=A at b1 ⊢;generalize l.getD k Tc.stowed.dflt=e at b2 ⊢;have c1:(0<=(Qa bs e.box).1.kilos/\(Qa bs e.box).1.kilos<=500000000)/\(-550000000000000<=(Qa bs e.box).1.kilos*(Y1 s bs l e).1/\(Qa bs e.box).1.kilos*(Y1 s bs l e).1<=550000000000000)/\(-550000000000000<=(Qa bs e.box).1.kilos*(Y1 s bs l e).2.1/\(Qa bs e.box).1.kilos*(Y1 s bs l e).2.1<=550000000000000)/\(-550000000000000<=(Qa bs e.box).1.kilos*(Y1 s bs l e).2.2/\(Qa bs e.box).1.kilos*(Y1 s bs l e).2.2<=550000000000000):=b2;clear b2 hnx;refine⟨⟨Q1z hc,hp'.2.1.1.1,by omega,by omega,by omega⟩,⟨by omega,by omega⟩,hp'.2.1.1.1,?_,?_,?_,?_,?_,?_,?_,by simp only [Q1]; omega,⟨by omega,by omega⟩,by omega,rfl,rfl,rfl,rfl⟩
   all_goals (simp only [Q1]; omega)
 . rw [List.take_of_length_le (by omega),Z0b hc hl];exact⟨rfl,rfl,rfl,rfl,rfl⟩
structure Qgq where
 cols:List Q4e
 colsN:Nat
 covs:List Q48
 covsN:Nat
 lk:Int
 lx:Int
 ly:Int
 lz:Int
 rows:List Q01
 rowsN:Nat
 frms:List Frm
 frmsN:Nat
 tnks:List Q4t
 tnksN:Nat
 m1:Int
 m2:Int
 m3:Int
 m4:Int
def AV.toWInts:AV->Option (Unit->List Int×Nat)
 | .wide false .int l n=>some fun _=>(l (),n ())
 | _=>none
theorem AV.toWInts_ {x:AV} {f:Unit->List Int×Nat} (h:x.toWInts=some f):x = .wide false .int (fun _=>(f ()).1) fun _=>(f ()).2:=by
 unfold AV.toWInts at h;split at h<;>cases h
 rfl
abbrev Z7q:Kd:=⟨List Int×Nat,.wide .int,fun f => .wide false .int (fun _=>(f ()).1) fun _=>(f ()).2,AV.toWInts,AV.toWInts_⟩
def AV.toWHrows:AV->Option (Unit->List Q01×Nat)
 | .wide false .hrow l n=>some fun _=>(l (),n ())
 | _=>none
theorem AV.toWHrows_ {x:AV} {f:Unit->List Q01×Nat} (h:x.toWHrows=some f):x = .wide false .hrow (fun _=>(f ()).1) fun _=>(f ()).2:=by
 unfold AV.toWHrows at h;split at h<;>cases h
 rfl
abbrev Z5l:Kd:=⟨List Q01×Nat,.wide .hrow,fun f => .wide false .hrow (fun _=>(f ()).1) fun _=>(f ()).2,AV.toWHrows,AV.toWHrows_⟩
def AV.toWFrms:AV->Option (Unit->List Frm×Nat)
 | .wide false .frm l n=>some fun _=>(l (),n ())
 | _=>none
theorem AV.toWFrms_ {x:AV} {f:Unit->List Frm×Nat} (h:x.toWFrms=some f):x = .wide false .frm (fun _=>(f ()).1) fun _=>(f ()).2:=by
 unfold AV.toWFrms at h;split at h<;>cases h
 rfl
abbrev Z7s:Kd:=⟨List Frm×Nat,.wide .frm,fun f => .wide false .frm (fun _=>(f ()).1) fun _=>(f ()).2,AV.toWFrms,AV.toWFrms_⟩
def AV.toWBoxes:AV->Option (Unit->List Box×Nat)
 | .wide false .box l n=>some fun _=>(l (),n ())
 | _=>none
theorem AV.toWBoxes_ {x:AV} {f:Unit->List Box×Nat} (h:x.toWBoxes=some f):x = .wide false .box (fun _=>(f ()).1) fun _=>(f ()).2:=by
 unfold AV.toWBoxes at h;split at h<;>cases h
 rfl
abbrev Z5v:Kd:=⟨List Box×Nat,.wide .box,fun f => .wide false .box (fun _=>(f ()).1) fun _=>(f ()).2,AV.toWBoxes,AV.toWBoxes_⟩
def AV.toWStos:AV->Option (Unit->List Q0×Nat)
 | .wide false .stowed l n=>some fun _=>(l (),n ())
 | _=>none
theorem AV.toWStos_ {x:AV} {f:Unit->List Q0×Nat} (h:x.toWStos=some f):x = .wide false .stowed (fun _=>(f ()).1) fun _=>(f ()).2:=by
 unfold AV.toWStos at h;split at h<;>cases h
 rfl
abbrev Z7h:Kd:=⟨List Q0×Nat,.wide .stowed,fun f => .wide false .stowed (fun _=>(f ()).1) fun _=>(f ()).2,AV.toWStos,AV.toWStos_⟩
def AV.toWColqs:AV->Option (Unit->List Q4e×Nat)
 | .wide false .colq l n=>some fun _=>(l (),n ())
 | _=>none
theorem AV.toWColqs_ {x:AV} {f:Unit->List Q4e×Nat} (h:x.toWColqs=some f):x = .wide false .colq (fun _=>(f ()).1) fun _=>(f ()).2:=by
 unfold AV.toWColqs at h;split at h<;>cases h
 rfl
abbrev Z5r:Kd:=⟨List Q4e×Nat,.wide .colq,fun f => .wide false .colq (fun _=>(f ()).1) fun _=>(f ()).2,AV.toWColqs,AV.toWColqs_⟩
def AV.toWCovqs:AV->Option (Unit->List Q48×Nat)
 | .wide false .covq l n=>some fun _=>(l (),n ())
 | _=>none
theorem AV.toWCovqs_ {x:AV} {f:Unit->List Q48×Nat} (h:x.toWCovqs=some f):x = .wide false .covq (fun _=>(f ()).1) fun _=>(f ()).2:=by
 unfold AV.toWCovqs at h;split at h<;>cases h
 rfl
abbrev Z6t:Kd:=⟨List Q48×Nat,.wide .covq,fun f => .wide false .covq (fun _=>(f ()).1) fun _=>(f ()).2,AV.toWCovqs,AV.toWCovqs_⟩
def AV.toWTnkqs:AV->Option (Unit->List Q4t×Nat)
 | .wide false .tnkq l n=>some fun _=>(l (),n ())
 | _=>none
theorem AV.toWTnkqs_ {x:AV} {f:Unit->List Q4t×Nat} (h:x.toWTnkqs=some f):x = .wide false .tnkq (fun _=>(f ()).1) fun _=>(f ()).2:=by
 unfold AV.toWTnkqs at h;split at h<;>cases h
 rfl
abbrev Z6v:Kd:=⟨List Q4t×Nat,.wide .tnkq,fun f => .wide false .tnkq (fun _=>(f ()).1) fun _=>(f ()).2,AV.toWTnkqs,AV.toWTnkqs_⟩
def AV.toHrow:AV->Option (Unit->Q01)
 | .agg [a0,a1,a2,a3,a4]=>a0.toI.bind fun a0=>a1.toI.bind fun a1=>a2.toI.bind fun a2=>a3.toI.bind fun a3=>a4.toI.bind fun a4=>some fun _=>⟨a0 (),a1 (),a2 (),a3 (),a4 ()⟩
 | _=>none
theorem AV.toHrow_ {x:AV} {b:Unit->Q01} (h:x.toHrow=some b):x = .agg (Q8 false .hrow b):=by
 unfold AV.toHrow at h;split at h
 . simp only [Option.bind_eq_some_iff,Option.some.injEq] at h;obtain⟨a0,h0,a1,h1,a2,h2,a3,h3,a4,h4,rfl⟩:=h;rw [AV.toI_ h0,AV.toI_ h1,AV.toI_ h2,AV.toI_ h3,AV.toI_ h4];rfl
 . cases h
def Z8r:List Sg := [.int .i64,.sl .int]
def AV.toCov:AV->Option (Unit->Cov)
 | .agg [a0,a1]=>a0.toI.bind fun a0=>a1.toInts.bind fun a1=>some fun _=>⟨a0 (),a1 ()⟩
 | _=>none
theorem AV.toCov_ {x:AV} {b:Unit->Cov} (h:x.toCov=some b):x = .agg (Q8 false .cov b):=by
 unfold AV.toCov at h;split at h
 . simp only [Option.bind_eq_some_iff,Option.some.injEq] at h;obtain⟨a0,h0,a1,h1,rfl⟩:=h;rw [AV.toI_ h0,AV.toInts_ h1];rfl
 . cases h
abbrev Qyb:Kd:=⟨Cov,.agg Z8r,fun b => .agg (Q8 false .cov b),AV.toCov,AV.toCov_⟩
def Z9g:List Sg := [.int .i64,.int .i64,.int .i64,.int .i64,.int .i64,.sl .int]
def AV.toTnk:AV->Option (Unit->Tnk)
 | .agg [a0,a1,a2,a3,a4,a5]=>a0.toI.bind fun a0=>a1.toI.bind fun a1=>a2.toI.bind fun a2=>a3.toI.bind fun a3=>a4.toI.bind fun a4=>a5.toInts.bind fun a5=>some fun _=>⟨a0 (),a1 (),a2 (),a3 (),a4 (),a5 ()⟩
 | _=>none
theorem AV.toTnk_ {x:AV} {b:Unit->Tnk} (h:x.toTnk=some b):x = .agg (Q8 false .tnk b):=by
 unfold AV.toTnk at h;split at h
 . simp only [Option.bind_eq_some_iff,Option.some.injEq] at h;obtain⟨a0,h0,a1,h1,a2,h2,a3,h3,a4,h4,a5,h5,rfl⟩:=h;rw [AV.toI_ h0,AV.toI_ h1,AV.toI_ h2,AV.toI_ h3,AV.toI_ h4,AV.toInts_ h5];rfl
 . cases h
abbrev Qxy:Kd:=⟨Tnk,.agg Z9g,fun b => .agg (Q8 false .tnk b),AV.toTnk,AV.toTnk_⟩
def Z7y:List Sg := [.int .i64,.int .i64,.bool,.int .i64,.int .i64,.int .i64,.int .i64,.int .i64,.wide .int,.int .i64,.int .i64,.int .i64]
def AV.toColq:AV->Option (Unit->Q4e)
 | .agg [a0,a1,a2,a3,a4,a5,a6,a7,a8,a9,a10,a11]=>a0.toI.bind fun a0=>a1.toI.bind fun a1=>a2.toB.bind fun a2=>a3.toI.bind fun a3=>a4.toI.bind fun a4=>a5.toI.bind fun a5=>a6.toI.bind fun a6=>a7.toI.bind fun a7=>a8.toWInts.bind fun a8=>a9.toI.bind fun a9=>a10.toI.bind fun a10=>a11.toI.bind fun a11=>some fun _=>⟨a0 (),a1 (),a2 (),a3 (),a4 (),a5 (),a6 (),a7 (),(a8 ()).1,(a8 ()).2,a9 (),a10 (),a11 ()⟩
 | _=>none
theorem AV.toColq_ {x:AV} {b:Unit->Q4e} (h:x.toColq=some b):x = .agg (Q8 false .colq b):=by
 unfold AV.toColq at h;split at h
 . simp only [Option.bind_eq_some_iff,Option.some.injEq] at h;obtain⟨a0,h0,a1,h1,a2,h2,a3,h3,a4,h4,a5,h5,a6,h6,a7,h7,a8,h8,a9,h9,a10,h10,a11,h11,rfl⟩:=h;rw [AV.toI_ h0,AV.toI_ h1,AV.toB_ h2,AV.toI_ h3,AV.toI_ h4,AV.toI_ h5,AV.toI_ h6,AV.toI_ h7,AV.toWInts_ h8,AV.toI_ h9,AV.toI_ h10,AV.toI_ h11];rfl
 . cases h
abbrev Z8o:Kd:=⟨Q4e,.agg Z7y,fun b => .agg (Q8 false .colq b),AV.toColq,AV.toColq_⟩
def Z72:List Sg := [.int .i64,.wide .int]
def AV.toCovq:AV->Option (Unit->Q48)
 | .agg [a0,a1]=>a0.toI.bind fun a0=>a1.toWInts.bind fun a1=>some fun _=>⟨a0 (),(a1 ()).1,(a1 ()).2⟩
 | _=>none
theorem AV.toCovq_ {x:AV} {b:Unit->Q48} (h:x.toCovq=some b):x = .agg (Q8 false .covq b):=by
 unfold AV.toCovq at h;split at h
 . simp only [Option.bind_eq_some_iff,Option.some.injEq] at h;obtain⟨a0,h0,a1,h1,rfl⟩:=h;rw [AV.toI_ h0,AV.toWInts_ h1];rfl
 . cases h
abbrev Z9h:Kd:=⟨Q48,.agg Z72,fun b => .agg (Q8 false .covq b),AV.toCovq,AV.toCovq_⟩
def Z7j:List Sg := [.int .i64,.int .i64,.int .i64,.int .i64,.int .i64,.wide .int]
def AV.toTnkq:AV->Option (Unit->Q4t)
 | .agg [a0,a1,a2,a3,a4,a5]=>a0.toI.bind fun a0=>a1.toI.bind fun a1=>a2.toI.bind fun a2=>a3.toI.bind fun a3=>a4.toI.bind fun a4=>a5.toWInts.bind fun a5=>some fun _=>⟨a0 (),a1 (),a2 (),a3 (),a4 (),(a5 ()).1,(a5 ()).2⟩
 | _=>none
theorem AV.toTnkq_ {x:AV} {b:Unit->Q4t} (h:x.toTnkq=some b):x = .agg (Q8 false .tnkq b):=by
 unfold AV.toTnkq at h;split at h
 . simp only [Option.bind_eq_some_iff,Option.some.injEq] at h;obtain⟨a0,h0,a1,h1,a2,h2,a3,h3,a4,h4,a5,h5,rfl⟩:=h;rw [AV.toI_ h0,AV.toI_ h1,AV.toI_ h2,AV.toI_ h3,AV.toI_ h4,AV.toWInts_ h5];rfl
 . cases h
abbrev Z9c:Kd:=⟨Q4t,.agg Z7j,fun b => .agg (Q8 false .tnkq b),AV.toTnkq,AV.toTnkq_⟩
def Qy7 (fr:Bool) (b:Unit->Qgq):List AV := [.wide fr .colq (fun _=>(b ()).cols) (fun _=>(b ()).colsN),.wide fr .covq (fun _=>(b ()).covs) (fun _=>(b ()).covsN),.int .i64 fun _=>(b ()).lk,.int .i64 fun _=>(b ()).lx,.int .i64 fun _=>(b ()).ly,.int .i64 fun _=>(b ()).lz,.wide fr .hrow (fun _=>(b ()).rows) (fun _=>(b ()).rowsN),.wide fr .frm (fun _=>(b ()).frms) (fun _=>(b ()).frmsN),.wide fr .tnkq (fun _=>(b ()).tnks) (fun _=>(b ()).tnksN),.int .i64 fun _=>(b ()).m1,.int .i64 fun _=>(b ()).m2,.int .i64 fun _=>(b ()).m3,.int .i64 fun _=>(b ()).m4]
def Z7o:List Sg := [.wide .colq,.wide .covq,.int .i64,.int .i64,.int .i64,.int .i64,.wide .hrow,.wide .frm,.wide .tnkq,.int .i64,.int .i64,.int .i64,.int .i64]
def AV.toShpq:AV->Option (Unit->Qgq)
 | .agg [a0,a1,a2,a3,a4,a5,a6,a7,a8,a9,a10,a11,a12]=>a0.toWColqs.bind fun a0=>a1.toWCovqs.bind fun a1=>a2.toI.bind fun a2=>a3.toI.bind fun a3=>a4.toI.bind fun a4=>a5.toI.bind fun a5=>a6.toWHrows.bind fun a6=>a7.toWFrms.bind fun a7=>a8.toWTnkqs.bind fun a8=>a9.toI.bind fun a9=>a10.toI.bind fun a10=>a11.toI.bind fun a11=>a12.toI.bind fun a12=>some fun _=>⟨(a0 ()).1,(a0 ()).2,(a1 ()).1,(a1 ()).2,a2 (),a3 (),a4 (),a5 (),(a6 ()).1,(a6 ()).2,(a7 ()).1,(a7 ()).2,(a8 ()).1,(a8 ()).2,a9 (),a10 (),a11 (),a12 ()⟩
 | _=>none
theorem AV.toShpq_ {x:AV} {b:Unit->Qgq} (h:x.toShpq=some b):x = .agg (Qy7 false b):=by
 unfold AV.toShpq at h;split at h
 . simp only [Option.bind_eq_some_iff,Option.some.injEq] at h;obtain⟨a0,h0,a1,h1,a2,h2,a3,h3,a4,h4,a5,h5,a6,h6,a7,h7,a8,h8,a9,h9,a10,h10,a11,h11,a12,h12,rfl⟩:=h;rw [AV.toWColqs_ h0,AV.toWCovqs_ h1,AV.toI_ h2,AV.toI_ h3,AV.toI_ h4,AV.toI_ h5,AV.toWHrows_ h6,AV.toWFrms_ h7,AV.toWTnkqs_ h8,AV.toI_ h9,AV.toI_ h10,AV.toI_ h11,AV.toI_ h12];rfl
 . cases h
abbrev Z8s:Kd:=⟨Qgq,.agg Z7o,fun b => .agg (Qy7 false b),AV.toShpq,AV.toShpq_⟩
end Go.Proofs.YtffeegebohigdaaGreat
