/-
  The reference of the chapter 7: columns and covers.
-/
import Derived.Test.YtffeegebohigdaaGreatMs19
set_option linter.unusedVariables false
set_option linter.unusedSimpArgs false
set_option maxRecDepth 100000
set_option maxHeartbeats 4000000
namespace Go.Proofs.YtffeegebohigdaaGreat
open Go.RowKit
def inB (n a b:Int):Bool:=decide (a<=n)&&decide (n<=b)
def Qaj:Con:=Q2r 254 kI kI kI (fun _ _ _=>True) (fun n a b => .bool fun _=>inB (n ()) (a ()) (b ()))
theorem Qc3:Q7 Tryz.prog Qaj:=by
 refine Qp [] trivial Tryz.func254 (by kernel_rfl) fun avs res h hp => ?_;obtain⟨(n:Int),(a:Int),(b:Int),rfl,rfl⟩:=Q47 h;clear h;refine⟨[],?_⟩
 conv=>arg 1; cbv
 simp (maxSteps:=4000000) only [fms,true_and,and_true,eq_self];exact⟨fun h=>by unfold inB; rw [decide_eq_true h]; rfl,fun h=>by unfold inB; rw [decide_eq_false h]; rfl⟩
def Qjf:Con:=Ze 256 Qlb kI (fun l _=>(l ()).length<=1000000000000) (fun l x => .bool fun _=>(l ()).any fun y=>decide (y=x ()))
theorem Qpd:Q7 Tryz.prog Qjf:=by
 refine Qp [] trivial Tryz.func256 (by kernel_rfl) fun avs res h hp => ?_;obtain⟨(l:List Int),(x:Int),rfl,rfl⟩:=Zf h;clear h;have hl:l.length<=1000000000000:=hp;refine⟨[(2,Q23 5 l fun j=>¬ l.getD j Tc.int.dflt=x)],?_⟩
 conv=>arg 1; cbv
 refine⟨?_,fun (k:Nat) hk => ?_⟩
 . simp (maxSteps:=4000000) only [fms];simp
 have hZhk1:k<=l.length/\∀ j,j<k->¬ l.getD j Tc.int.dflt=x:=hk;have hk1:=hZhk1.1;have hk2:=hZhk1.2
 conv=>arg 1; cbv
 simp (maxSteps:=4000000) only [fms,true_and,and_true,eq_self];refine⟨fun g => ?_,fun g=>(Z1h (p:=fun y=>decide (y=x)) (fun j hj=>by simpa using hk2 j hj) (by omega)).symm⟩;have hlt:k<l.length:=by omega
 exact⟨⟨by omega,by omega⟩,fun c=>(Z1q (p:=fun y=>decide (y=x)) (d:=Tc.int.dflt) hlt (decide_eq_true c)).symm,fun c=>Yr hl hlt hk2 c⟩
def Qkk:Con:=Yd 255 Qhk (fun c=>(c ()).plugs.length<=1000000000000/\Q1 (c ()).tiers) (fun c => .bool fun _=>Vm (c ()))
theorem Qpb:Q7 Tryz.prog Qkk:=by
 refine Qp [Qaj] ⟨Qc3,trivial⟩ Tryz.func255 (by kernel_rfl) fun avs res h hp => ?_;obtain⟨(c:Col),rfl,rfl⟩:=Yk h;clear h;have hZhl:c.plugs.length<=1000000000000/\Q1 c.tiers:=hp;have hl:=hZhl.1;have ht:=hZhl.2;refine⟨[(2,Q23 3 c.plugs fun j=>Kz (c.tiers - 1) c.plugs j=true)],?_⟩
 conv=>arg 1; cbv
 refine⟨?_,fun (k:Nat) hk => ?_⟩
 . simp (maxSteps:=4000000) only [fms];simp
 have hZhk1:k<=c.plugs.length/\∀ j,j<k->Kz (c.tiers - 1) c.plugs j=true:=hk;have hk1:=hZhk1.1;have hk2:=hZhk1.2
 conv=>arg 1; cbv
 simp (maxSteps:=4000000) only [fms,true_and,and_true,eq_self];refine⟨fun g => ?_,fun g => ?_⟩
 . have hlt:k<c.plugs.length:=by omega
   have hN:=fun h=>Yr (P:=fun j=>Kz (c.tiers - 1) c.plugs j=true) hl hlt hk2 h;have hbad:Kz (c.tiers - 1) c.plugs k=false->false=Vm c:=fun h=>by unfold Vm; rw [Qcb hlt h]; rfl
   have e:∀ b1 b2 b3,decide (0<=c.plugs.getD k 0)=b1->decide (c.plugs.getD k 0<=c.tiers - 1)=b2->(decide (k=0)||decide (c.plugs.getD (k - 1) 0<c.plugs.getD k 0))=b3->Kz (c.tiers - 1) c.plugs k=((b1&&b2)&&b3):=fun b1 b2 b3 h1 h2 h3=>by unfold Kz; rw [h1,h2,h3]
   refine⟨⟨by omega,by omega⟩,fun a=>hbad ?_,fun a=>⟨⟨by omega,by omega⟩,fun b=>hbad ?_,fun b=>⟨fun z=>⟨by simp only [Q1]; omega,⟨by omega,by omega⟩,⟨by omega,by omega⟩,fun d=>hbad ?_,fun d=>hN ?_⟩,fun z=>hN ?_⟩⟩⟩
   . have a:c.plugs.getD k 0<0:=a;rw [e _ _ _ (decide_eq_false (by omega)) rfl rfl]; rfl
   all_goals have a:¬ c.plugs.getD k 0<0:=a
   . have b:c.tiers<=c.plugs.getD k 0:=b;rw [e _ _ _ rfl (decide_eq_false (by omega)) rfl,Bool.and_false]; rfl
   all_goals have b:¬ c.tiers<=c.plugs.getD k 0:=b
   . have d:c.plugs.getD k 0<=c.plugs.getD (k - 1) 0:=d;rw [e _ _ false rfl rfl (by rw [decide_eq_false (by omega),decide_eq_false (by omega)]; rfl),Bool.and_false]
   . have d:¬ c.plugs.getD k 0<=c.plugs.getD (k - 1) 0:=d;rw [e _ _ true (decide_eq_true (by omega)) (decide_eq_true (by omega)) (by rw [decide_eq_true (show c.plugs.getD (k - 1) 0<c.plugs.getD k 0 by omega),Bool.or_true])]; rfl
   . rw [e _ _ true (decide_eq_true (by omega)) (decide_eq_true (by omega)) (by rw [decide_eq_true (show k=0 by omega)]; rfl)]; rfl
 . have hr:=Qd3 (t:=c.tiers - 1) (l:=c.plugs) (k:=k) (by omega) hk2;have e:Vm c=(inB c.bay 0 39&&(inB c.row 0 30&&(inB c.tiers 1 10&&(inB c.height 0 40000&&(inB c.k20 0 500000000&&(inB c.k40 0 500000000&&(inB c.lash 0 1000000000000&&(inB c.x (-500000) 500000&&(inB c.y (-500000) 500000&&inB c.z (-500000) 500000))))))))):=by
    unfold Vm;rw [hr];simp only [V4,List.all_cons,List.all_nil,Bool.and_true,Bool.true_and,Q0a,inB]
   rw [e];generalize inB c.bay 0 39=b1;generalize inB c.row 0 30=b2;generalize inB c.tiers 1 10=b3;generalize inB c.height 0 40000=b4;generalize inB c.k20 0 500000000=b5;generalize inB c.k40 0 500000000=b6;generalize inB c.lash 0 1000000000000=b7;generalize inB c.x (-500000) 500000=b8;generalize inB c.y (-500000) 500000=b9;generalize inB c.z (-500000) 500000=b10;simp +contextual
def Q49 (cs:List Col) (i k:Nat):Prop:=¬ ((cs.getD k Tc.col.dflt).bay=(cs.getD i Tc.col.dflt).bay/\(cs.getD k Tc.col.dflt).row=(cs.getD i Tc.col.dflt).row/\(cs.getD k Tc.col.dflt).deck=(cs.getD i Tc.col.dflt).deck)
def Qfa (cs:List Col) (i:Nat):Prop:=Vm (cs.getD i Tc.col.dflt)=true/\∀ k,k<i->Q49 cs i k
def Q0v (cs:List Cov) (i j k:Nat):Prop:=¬ ((cs.getD k Tc.cov.dflt).bay=(cs.getD i Tc.cov.dflt).bay/\(cs.getD k Tc.cov.dflt).rows.any (fun y=>decide (y=(cs.getD i Tc.cov.dflt).rows.getD j Tc.int.dflt))=true)
def Q4q (cs:List Cov) (i j:Nat):Prop:=Kz 30 (cs.getD i Tc.cov.dflt).rows j=true/\∀ k,k<i->Q0v cs i j k
def Qf9 (cs:List Cov) (i:Nat):Prop:=((0<=(cs.getD i Tc.cov.dflt).bay/\(cs.getD i Tc.cov.dflt).bay<=39)/\¬ (cs.getD i Tc.cov.dflt).rows.length=0)/\∀ j,j<(cs.getD i Tc.cov.dflt).rows.length->Q4q cs i j
theorem Qo4 {a b:Col}:Y8 a=Y8 b↔a.bay=b.bay/\a.row=b.row/\a.deck=b.deck:=by
 unfold Y8;cases a.deck<;>cases b.deck<;>simp
theorem Kk {α:Type} {l:List α} {i:Nat} (d : α) (h:i<l.length):l.getD i d=l[i]:=by rw [List.getD_eq_getElem?_getD,List.getElem?_eq_getElem h]; rfl
theorem Qxd (cs:List Col):(cs.map Y8).Nodup↔∀ i,i<cs.length->∀ k,k<i->Q49 cs i k:=by
 unfold List.Nodup;rw [List.pairwise_map,List.pairwise_iff_getElem];constructor
 . intro h i hi k hk hq;rw [Kk _ hi,Kk _ (show k<cs.length by omega)] at hq;exact h k i (by omega) hi hk (Qo4.2 hq)
 . intro h i j hi hj hij hq;refine h j hj i hij ?_;rw [Kk _ hi,Kk _ hj];exact Qo4.1 hq
theorem Z26 {t:Int} {l:List Int} (h:Ge t l=true):∀ j,j<l.length->∀ i,i<j->l.getD i 0<l.getD j 0:=by
 unfold Ge at h;rw [decide_eq_true_eq] at h;intro j
 induction j with
 | zero=>intro _ i hi; omega
 | succ j ih =>
  intro hj i hi;have h1:=h (j+1) hj;unfold Kz at h1;simp only [Bool.and_eq_true,Bool.or_eq_true,decide_eq_true_eq,Nat.add_sub_cancel] at h1;have h2:l.getD j 0<l.getD (j+1) 0:=h1.2.resolve_left (by omega);rcases Nat.lt_or_ge i j with h3|h3
  . have:=ih (by omega) i h3;omega
  . rw [show i=j by omega]; exact h2
theorem Q3i {x:Cov} {y:List Kx}:y∈Zp x↔∃ r∈x.rows,y = [.i .i64 x.bay,.i .i64 r,.i .i64 2]:=by
 unfold Zp;rw [List.mem_map];exact⟨fun ⟨r,h,e⟩=>⟨r,h,e.symm⟩,fun ⟨r,h,e⟩=>⟨r,h,e.symm⟩⟩
theorem Z0j {x:Cov} (h:Ge 30 x.rows=true):(Zp x).Nodup:=by
 unfold Zp List.Nodup;rw [List.pairwise_map,List.pairwise_iff_getElem];intro i j hi hj hij hq;have:=Z26 h j hj i hij;rw [Kk _ hi,Kk _ hj] at this;simp only [List.cons.injEq,Kx.i.injEq,and_true,true_and] at hq;omega
theorem Qiq {cs:List Cov} (h:∀ x∈cs,Ge 30 x.rows=true):(cs.flatMap Zp).Nodup↔∀ i,i<cs.length->∀ j,j<(cs.getD i Tc.cov.dflt).rows.length->∀ k,k<i->Q0v cs i j k:=by
 unfold List.Nodup;rw [List.pairwise_flatMap,List.pairwise_iff_getElem];constructor
 . intro ⟨_,h2⟩ i hi j hj k hk ⟨h3,h4⟩;rw [List.any_eq_true] at h4;obtain⟨r,h5,h6⟩:=h4;have h6:=of_decide_eq_true h6;rw [Kk _ hi] at hj h6 h3;rw [Kk _ (show k<cs.length by omega)] at h3 h5;refine h2 k i (by omega) hi hk _ (Q3i.2 ⟨r,h5,rfl⟩) _ (Q3i.2 ⟨r,by rw [h6]; exact Z7 _ hj,rfl⟩) ?_;rw [h3]
 . intro h2;refine⟨fun x hx=>Z0j (h x hx),fun k i hk hi hki a ha b hb hab => ?_⟩;obtain⟨r,h3,rfl⟩:=Q3i.1 ha;obtain⟨r',h4,rfl⟩:=Q3i.1 hb;simp only [List.cons.injEq,Kx.i.injEq,and_true,true_and] at hab;obtain⟨h5,rfl⟩:=hab;obtain⟨j,hj,h6⟩:=List.mem_iff_getElem.1 h4;refine h2 i hi j (by rw [Kk _ hi]; exact hj) k hki ⟨by rw [Kk _ hi,Kk _ hk]; exact h5,?_⟩;rw [List.any_eq_true];refine⟨r,by rw [Kk _ hk]; exact h3,?_⟩;rw [decide_eq_true_eq,Kk _ hi,Kk _ hj];exact h6.symm
theorem Qxg (cs:List Col) (vs:List Cov):∀ a∈cs.map Y8,∀ b∈vs.flatMap Zp,a≠b:=by
 intro a ha b hb hab;obtain⟨c,_,rfl⟩:=List.mem_map.1 ha;obtain⟨v,_,hv⟩:=List.mem_flatMap.1 hb;obtain⟨r,_,rfl⟩:=Q3i.1 hv;unfold Y8 at hab;cases hd:c.deck<;>rw [hd] at hab<;>simp at hab
theorem Q4m {α:Type} {p : α->Bool} {l:List α} (d : α):l.all p=true↔∀ i,i<l.length->p (l.getD i d)=true:=by
 rw [List.all_eq_true];constructor
 . exact fun h i hi=>h _ (Z7 d hi)
 . intro h x hx;obtain⟨j,hj,rfl⟩:=List.mem_iff_getElem.1 hx;have:=h j hj;rwa [Kk d hj] at this
theorem Q4p (s:Shp):Yg s=true↔((1<=s.cols.length/\s.cols.length<=200)/\s.covs.length<=40)/\(∀ i,i<s.cols.length->Qfa s.cols i)/\∀ i,i<s.covs.length->Qf9 s.covs i:=by
 unfold Yg Q12;simp only [Bool.and_eq_true,decide_eq_true_eq,List.nodup_append];rw [Q4m Tc.col.dflt,Q4m Tc.cov.dflt,Qxd];constructor
 . rintro⟨⟨h1,h2,h3⟩,h4,h5,h6,h7,_⟩
   have hr:∀ x∈s.covs,Ge 30 x.rows=true:=fun x hx=>by
    have:=(Q4m (p:=Q0n) Tc.cov.dflt).2 h5;rw [List.all_eq_true] at this;have:=this x hx;unfold Q0n at this;simp only [Bool.and_eq_true] at this;exact this.2.2
   rw [Qiq hr] at h7;refine⟨⟨⟨h1,h2⟩,h3⟩,fun i hi=>⟨h4 i hi,h6 i hi⟩,fun i hi => ?_⟩;have h8:=h5 i hi;unfold Q0n at h8;simp only [Bool.and_eq_true,Bool.not_eq_true',decide_eq_true_eq,decide_eq_false_iff_not] at h8;refine⟨⟨⟨h8.1.1,by omega⟩,h8.2.1⟩,fun j hj=>⟨?_,h7 i hi j hj⟩⟩;have:=h8.2.2;unfold Ge at this;exact of_decide_eq_true this j hj
 . rintro⟨⟨⟨h1,h2⟩,h3⟩,h4,h5⟩
   have h6:∀ i,i<s.covs.length->Q0n (s.covs.getD i Tc.cov.dflt)=true:=fun i hi=>by
    obtain⟨⟨⟨h7,h8⟩,h9⟩,h10⟩:=h5 i hi;unfold Q0n Ge;simp only [Bool.and_eq_true,Bool.not_eq_true',decide_eq_true_eq,decide_eq_false_iff_not];exact⟨⟨h7,by omega⟩,h9,fun j hj=>(h10 j hj).1⟩
   refine⟨⟨h1,h2,h3⟩,fun i hi=>(h4 i hi).1,h6,fun i hi=>(h4 i hi).2,?_,Qxg _ _⟩;refine (Qiq fun x hx => ?_).2 fun i hi j hj=>((h5 i hi).2 j hj).2;have:=(Q4m (p:=Q0n) Tc.cov.dflt).2 h6;rw [List.all_eq_true] at this;have:=this x hx;unfold Q0n at this;simp only [Bool.and_eq_true] at this;exact this.2.2
def Vd (cs:List Col) (bs:List Box) (l:List Q0) (k:Nat):Bool :=
 ((Qa bs (l.getD k Tc.stowed.dflt).box).2&&(decide (k=0)||decide ((l.getD (k - 1) Tc.stowed.dflt).box<(l.getD k Tc.stowed.dflt).box))) &&
 ((K6 cs (Qs (l.getD k Tc.stowed.dflt)) (Qa bs (l.getD k Tc.stowed.dflt).box).1.size&&Js (Qs (l.getD k Tc.stowed.dflt)) (l.map Qs)) &&
 decide (∀ j,j<k->K0 (Qs (l.getD k Tc.stowed.dflt)) ((l.map Qs).getD j Tc.slot.dflt)=false))
def Zj (s:Shp) (bs:List Box) (l:List Q0):Bool :=
 Yg s&&(decide (∀ k,k<l.length->Vd s.cols bs l k=true)&&decide (∀ c,c<s.cols.length->Q68 s.cols bs l (c:Int)=true))
theorem Z43 {s:Shp} {bs:List Box} {l:List Q0} {k:Nat} (hk:k<l.length) (h:Vd s.cols bs l k=false):Zj s bs l=false:=by
 unfold Zj;have:decide (∀ k,k<l.length->Vd s.cols bs l k=true)=false:=by
  rw [decide_eq_false_iff_not];intro h2;rw [h2 k hk] at h;cases h
 rw [this];simp
theorem Ql3 {s:Shp} {x:Za} {z:Int} (h:Yg s=true) (hx:K6 s.cols x z=true):x.tier<=1000000:=by
 unfold K6 at hx;simp only [Bool.and_eq_true,decide_eq_true_eq] at hx;obtain⟨h1,h2,h3,h4,h5⟩:=hx;unfold Yg at h;simp only [Bool.and_eq_true] at h;have h6:=List.all_eq_true.1 h.2.1 _ (Z7 Tc.col.dflt (show x.col.toNat<s.cols.length by omega));generalize s.cols.getD x.col.toNat Tc.col.dflt=c at *
 unfold Vm at h6;simp only [Bool.and_eq_true] at h6;have h7:=List.all_eq_true.1 h6.2 ⟨c.tiers,1,10⟩ (by simp [V4]);unfold Q0a at h7;simp only [Bool.and_eq_true,decide_eq_true_eq] at h7;omega
def Vg (s:Shp):Prop:=(∀ c∈s.cols,c.plugs.length<=1000000000000/\Q1 c.tiers)/\∀ x∈s.covs,x.rows.length<=1000000000000
def Qcu:Con:=Q2r 130 Va Yw Gk (fun s bs l=>Vg (s ())/\(bs ()).length<=1000000000000/\(l ()).length<=1000000) (fun s bs l => .bool fun _=>Zj (s ()) (bs ()) (l ()))
def Z8a (s:Shp) (bs:List Box) (l:List Q0):Lp where
 X:=Nat
 ov k := [(22,.int .i64 fun _=>(k:Int))]
 oe _ := []
 I k:=k<=l.length/\∀ j,j<k->Vd s.cols bs l j=true
 μ k _:=l.length - k
 x0:=0
 nx:=some fun k=>k+1
def Qzs (x:Za) (all:List Za) (k:Nat):Lp where
 X:=Nat
 ov j := [(71,.int .i64 fun _=>(j:Int))]
 oe _ := []
 I j:=j<=k/\∀ i,i<j->K0 x (all.getD i Tc.slot.dflt)=false
 μ j _:=k - j
 x0:=0
 nx:=some fun k=>k+1
def Z84 (s:Shp) (bs:List Box) (l:List Q0):Lp where
 X:=Nat
 ov k := [(84,.int .i64 fun _=>(k:Int))]
 oe _ := []
 I k:=k<=s.cols.length/\∀ j,j<k->Q68 s.cols bs l (j:Int)=true
 μ k _:=s.cols.length - k
 x0:=0
 nx:=some fun k=>k+1
theorem Ql0:Q7 Tryz.prog Qcu:=by
 refine Qp [Qef,Qq8,Q9a,Qct,Qv6,Qw9,Qw1] ⟨Qj9,Quz,Q9m,Qin,Qy1,Qxe,Qyw,trivial⟩ Tryz.func130 (by kernel_rfl) fun avs res h hp => ?_;obtain⟨(s:Shp),(bs:List Box),(l:List Q0),rfl,rfl⟩:=Q47 h;clear h;have hZhps:Vg s/\bs.length<=1000000000000/\l.length<=1000000:=hp;have hps:=hZhps.1;have hbs:=hZhps.2.1;have hl:=hZhps.2.2;refine⟨[(5,Z8a s bs l),(18,Z84 s bs l)],?_⟩
 conv=>arg 1; cbv
 refine⟨hps,fun g1 => ?_,fun g1=>⟨hl,⟨?_,fun (k:Nat) hk => ?_⟩⟩⟩
 . simp (maxSteps:=4000000) only [fms];unfold Zj;simp only [Bool.not_eq_true'] at g1;have g1':Yg s=false:=g1;rw [g1'];rfl
 . simp (maxSteps:=4000000) only [fms];simp
 have hsB:Yg s=true:=by
  have g1':(!Yg s)=false:=g1;simpa using g1'
 have hZhk1:k<=l.length/\∀ j,j<k->Vd s.cols bs l j=true:=hk;have hk1:=hZhk1.1;have hk2:=hZhk1.2
 conv=>arg 1; cbv
 refine⟨fun g2 => ?_,fun g2 => ?_⟩
 . have hlt:k<l.length:=by simp only [decide_eq_true_eq,Z8] at g2; omega
   refine Qc (l.getD k Tc.stowed.dflt) fun x hx => ?_;refine Qc (l.getD (k - 1) Tc.stowed.dflt) fun y hy => ?_;have hAt:Vd s.cols bs l k=(((Qa bs x.box).2&&(decide (k=0)||decide (y.box<x.box)))&&((K6 s.cols (Qs x) (Qa bs x.box).1.size&&Js (Qs x) (l.map Qs))&&decide (∀ j,j<k->K0 (Qs x) ((l.map Qs).getD j Tc.slot.dflt)=false))):=by rw [<- hx,<- hy]; rfl
   have hbad:=Z43 (s:=s) (bs:=bs) hlt;have hgood:=Vj (k:=k) hk2;refine⟨⟨Int.natCast_nonneg k,of_decide_eq_true g2⟩,hbs,fun g3 => ?_,fun g3=>⟨fun g4=>⟨⟨by simp only [Z8]; omega,by simp only [Z8]; omega⟩,⟨by simp only [decide_eq_true_eq,Z8] at g4 ⊢; omega,by simp only [Z8]; omega⟩,fun g5 => ?_,fun g5 => ?_⟩,fun g4 => ?_⟩⟩
   . simp (maxSteps:=4000000) only [fms];refine (hbad ?_).symm;have g3':(!(Qa bs (l.getD k Tc.stowed.dflt).box).2)=true:=g3;rw [hAt,<- hx];grind
   . simp (maxSteps:=4000000) only [fms];refine (hbad ?_).symm;have g3':(!(Qa bs (l.getD k Tc.stowed.dflt).box).2)=false:=g3;have g4':decide (0<(k:Int))=true:=g4;have g5':decide ((l.getD k Tc.stowed.dflt).box<=(l.getD ((k:Int) - 1).toNat Tc.stowed.dflt).box)=true:=g5;rw [Qz0,hx,hy] at g5';rw [hAt];grind
   . have ho:(decide (k=0)||decide (y.box<x.box))=true:=by
      have g5':decide ((l.getD k Tc.stowed.dflt).box<=(l.getD ((k:Int) - 1).toNat Tc.stowed.dflt).box)=false:=g5;rw [Qz0,hx,hy] at g5';grind
     refine⟨trivial,fun g6 => ?_,fun g6 => ?_⟩
     . simp (maxSteps:=4000000) only [fms];refine (hbad ?_).symm;have g6':(!K6 s.cols (Qs (l.getD k Tc.stowed.dflt)) (Qa bs (l.getD k Tc.stowed.dflt).box).1.size)=true:=g6;rw [hAt,<- hx];grind
     have g6':(!K6 s.cols (Qs (l.getD k Tc.stowed.dflt)) (Qa bs (l.getD k Tc.stowed.dflt).box).1.size)=false:=g6;rw [hx,Bool.not_eq_false'] at g6';refine⟨⟨by simp; omega,?_⟩,fun g7 => ?_,fun g7 => ?_⟩
     . have:=Ql3 hsB g6';rw [<- hx] at this;exact this
     . simp (maxSteps:=4000000) only [fms];refine (hbad ?_).symm;have g7':(!Js (Qs (l.getD k Tc.stowed.dflt)) (l.map Qs))=true:=g7;rw [hAt,<- hx];grind
     have g7':(!Js (Qs (l.getD k Tc.stowed.dflt)) (l.map Qs))=false:=g7;rw [hx,Bool.not_eq_false'] at g7';have g3':(!(Qa bs (l.getD k Tc.stowed.dflt).box).2)=false:=g3;rw [hx,Bool.not_eq_false'] at g3';refine Qc (l.map Qs) fun all hall => ?_;have hlen:all.length=l.length:=by rw [<- hall]; simp
     refine⟨⟨Int.natCast_nonneg k,by simp only [Z8,List.length_map]; omega⟩,?_⟩;refine Qc (Qs x) fun z hz => ?_;refine⟨Qzs z all k,?_⟩
     conv=>arg 1; cbv
     refine⟨?_,fun (j:Nat) hj => ?_⟩
     . simp (maxSteps:=4000000) only [fms];simp
     have hZhj1:j<=k/\∀ i,i<j->K0 z (all.getD i Tc.slot.dflt)=false:=hj;have hj1:=hZhj1.1;have hj2:=hZhj1.2
     conv=>arg 1; cbv
     simp (maxSteps:=4000000) only [fms];have e1:∀ u:Za,(⟨u.col,u.tier,u.half⟩:Za)=u:=fun _=>rfl;have e2:(⟨(l.getD k Tc.stowed.dflt).col,(l.getD k Tc.stowed.dflt).tier,(l.getD k Tc.stowed.dflt).half⟩:Za)=z:=by rw [hx,<- hz]; rfl
     simp only [hall,e1,e2];refine⟨fun g8 => ?_,fun g8 => ?_⟩
     . have h8:j<k:=by omega
       refine⟨⟨by omega,by omega⟩,trivial,fun g9=>(hbad ?_).symm,fun g9=>⟨⟨by omega,by omega⟩,⟨⟨h8,Vj hj2 g9⟩,by omega⟩,by omega⟩⟩;have hd:decide (∀ j,j<k->K0 z (all.getD j Tc.slot.dflt)=false)=false:=by
        rw [decide_eq_false_iff_not];intro h;rw [h j h8] at g9;cases g9
       rw [hAt,hz,hall,hd];simp
     . have hd:decide (∀ j,j<k->K0 z (all.getD j Tc.slot.dflt)=false)=true:=by
        rw [decide_eq_true_eq];exact fun i hi=>hj2 i (by omega)
       refine⟨⟨by omega,by omega⟩,⟨⟨hlt,hgood ?_⟩,by omega⟩,by omega⟩;rw [hAt,g3',ho,g6',g7',hz,hall,hd];rfl
   . have ho:(decide (k=0)||decide (y.box<x.box))=true:=by
      have g4':decide (0<(k:Int))=false:=g4;grind
     refine⟨trivial,fun g6 => ?_,fun g6 => ?_⟩
     . simp (maxSteps:=4000000) only [fms];refine (hbad ?_).symm;have g6':(!K6 s.cols (Qs (l.getD k Tc.stowed.dflt)) (Qa bs (l.getD k Tc.stowed.dflt).box).1.size)=true:=g6;rw [hAt,<- hx];grind
     have g6':(!K6 s.cols (Qs (l.getD k Tc.stowed.dflt)) (Qa bs (l.getD k Tc.stowed.dflt).box).1.size)=false:=g6;rw [hx,Bool.not_eq_false'] at g6';refine⟨⟨by simp; omega,?_⟩,fun g7 => ?_,fun g7 => ?_⟩
     . have:=Ql3 hsB g6';rw [<- hx] at this;exact this
     . simp (maxSteps:=4000000) only [fms];refine (hbad ?_).symm;have g7':(!Js (Qs (l.getD k Tc.stowed.dflt)) (l.map Qs))=true:=g7;rw [hAt,<- hx];grind
     have g7':(!Js (Qs (l.getD k Tc.stowed.dflt)) (l.map Qs))=false:=g7;rw [hx,Bool.not_eq_false'] at g7';have g3':(!(Qa bs (l.getD k Tc.stowed.dflt).box).2)=false:=g3;rw [hx,Bool.not_eq_false'] at g3';refine Qc (l.map Qs) fun all hall => ?_;have hlen:all.length=l.length:=by rw [<- hall]; simp
     refine⟨⟨Int.natCast_nonneg k,by simp only [Z8,List.length_map]; omega⟩,?_⟩;refine Qc (Qs x) fun z hz => ?_;refine⟨Qzs z all k,?_⟩
     conv=>arg 1; cbv
     refine⟨?_,fun (j:Nat) hj => ?_⟩
     . simp (maxSteps:=4000000) only [fms];simp
     have hZhj1:j<=k/\∀ i,i<j->K0 z (all.getD i Tc.slot.dflt)=false:=hj;have hj1:=hZhj1.1;have hj2:=hZhj1.2
     conv=>arg 1; cbv
     simp (maxSteps:=4000000) only [fms];have e1:∀ u:Za,(⟨u.col,u.tier,u.half⟩:Za)=u:=fun _=>rfl;have e2:(⟨(l.getD k Tc.stowed.dflt).col,(l.getD k Tc.stowed.dflt).tier,(l.getD k Tc.stowed.dflt).half⟩:Za)=z:=by rw [hx,<- hz]; rfl
     simp only [hall,e1,e2];refine⟨fun g8 => ?_,fun g8 => ?_⟩
     . have h8:j<k:=by omega
       refine⟨⟨by omega,by omega⟩,trivial,fun g9=>(hbad ?_).symm,fun g9=>⟨⟨by omega,by omega⟩,⟨⟨h8,Vj hj2 g9⟩,by omega⟩,by omega⟩⟩;have hd:decide (∀ j,j<k->K0 z (all.getD j Tc.slot.dflt)=false)=false:=by
        rw [decide_eq_false_iff_not];intro h;rw [h j h8] at g9;cases g9
       rw [hAt,hz,hall,hd];simp
     . have hd:decide (∀ j,j<k->K0 z (all.getD j Tc.slot.dflt)=false)=true:=by
        rw [decide_eq_true_eq];exact fun i hi=>hj2 i (by omega)
       refine⟨⟨by omega,by omega⟩,⟨⟨hlt,hgood ?_⟩,by omega⟩,by omega⟩;rw [hAt,g3',ho,g6',g7',hz,hall,hd];rfl
 . have hkk:l.length<=k:=by simp only [decide_eq_false_iff_not,Z8] at g2; omega
   refine⟨?_,fun (c:Nat) hc => ?_⟩
   . simp (maxSteps:=4000000) only [fms];simp
   have hZhc1:c<=s.cols.length/\∀ j,j<c->Q68 s.cols bs l (j:Int)=true:=hc;have hc1:=hZhc1.1;have hc2:=hZhc1.2
   conv=>arg 1; cbv
   simp (maxSteps:=4000000) only [fms];have hlen:s.cols.length<=200:=by
    unfold Yg at hsB;simp only [Bool.and_eq_true,decide_eq_true_eq] at hsB;exact hsB.1.2.1
   refine⟨fun g3 => ?_,fun g3 => ?_⟩
   . have h3:c<s.cols.length:=by omega
     refine⟨⟨hbs,hl,by omega,g3⟩,fun g4 => ?_,fun g4=>⟨⟨by omega,by omega⟩,⟨⟨h3,Vj hc2 (by simpa using g4)⟩,by omega⟩,by omega⟩⟩;unfold Zj;have:decide (∀ c,c<s.cols.length->Q68 s.cols bs l (c:Int)=true)=false:=by
      rw [decide_eq_false_iff_not];intro h;rw [h c h3] at g4;cases g4
     rw [this];simp
   . unfold Zj;have e1:decide (∀ k,k<l.length->Vd s.cols bs l k=true)=true:=by
      rw [decide_eq_true_eq];exact fun i hi=>hk2 i (by omega)
     have e2:decide (∀ c,c<s.cols.length->Q68 s.cols bs l (c:Int)=true)=true:=by
      rw [decide_eq_true_eq];exact fun i hi=>hc2 i (by omega)
     rw [hsB,e1,e2];rfl
def G4 (s i:Nat) (P:Nat->Prop):Lp where
 X:=Nat
 ov k := [(s,.int .i64 fun _=>(k:Int))]
 oe _ := []
 I k:=k<=i/\∀ j,j<k->P j
 μ k _:=i - k
 x0:=0
 nx:=some fun k=>k+1
def Z6l (vs:List Cov) (i:Nat):Lp where
 X:=Nat
 ov k := [(7,.int .i64 fun _=>(k:Int))]
 oe _ := []
 I k:=k<=(vs.getD i Tc.cov.dflt).rows.length/\∀ j,j<k->Q4q vs i j
 μ k _:=(vs.getD i Tc.cov.dflt).rows.length - k
 x0:=0
 nx:=some fun k=>k+1
def Qr4:Con:=Yd 211 Va (fun s=>Vg (s ())) (fun s => .bool fun _=>Yg (s ()))
theorem Qul:Q7 Tryz.prog Qr4:=by
 refine Kp { kp := [(0,[0]),(1,[1]),(2,[]),(3,[1]),(4,[1,3]),(5,[1,3]),(6,[1,3]),(7,[]),(8,[1,3]),(9,[1,3,4]),(10,[1,3,4]),(11,[1,3,4]),(12,[]),(13,[1]),(14,[1,5]),(15,[1,5]),(16,[1,5]),(17,[1,5,6]),(18,[]),(19,[1,5,6]),(20,[1,5,6,7]),(21,[1,5,6,7]),(22,[1,5,6,7]),(23,[]),(24,[1,5,6,7]),(25,[1,5,6,7,8]),(26,[1,5,6,7,8]),(27,[1,5,6,7,8]),(28,[]),(29,[])] } [Qaj,Qkk,Qjf] ⟨Qc3,Qpb,Qpd,trivial⟩ [] trivial Tryz.func211 (by kernel_rfl) fun avs res h hp => ?_;obtain⟨(s:Shp),rfl,rfl⟩:=Yk h;clear h;have hpre:Vg s:=hp;refine⟨[(4,Q23 3 s.cols (Qfa s.cols)),(14,Q23 5 s.covs (Qf9 s.covs))],?_⟩;have hF:∀ {P:Prop},(Yg s=true->P)->¬ P->false=Yg s:=fun h hn=>by
  cases hs:Yg s with
  | false=>rfl
  | true=>exact absurd (h hs) hn
 have hI:=Q4p s
 conv=>arg 1; cbv
 simp (maxSteps:=4000000) only [fms,true_and,and_true,eq_self];refine⟨fun h=>hF (fun hs=>(hI.1 hs).1.1) (by simp only [inB,Bool.not_eq_true',Bool.and_eq_false_iff,decide_eq_false_iff_not] at h; omega),fun h=>⟨fun h=>hF (fun hs=>(hI.1 hs).1.2) (by omega),fun h'=>⟨⟨⟨Nat.zero_le _,fun j hj=>absurd hj (Nat.not_lt_zero _)⟩,rfl⟩,fun (k:Nat) hk => ?_⟩⟩⟩;simp only [inB,Bool.not_eq_false',Bool.and_eq_true,decide_eq_true_eq] at h;have hZhk1:k<=s.cols.length/\∀ j,j<k->Qfa s.cols j:=hk;have hk1:=hZhk1.1;have hk2:=hZhk1.2
 conv=>arg 1; cbv
 simp (maxSteps:=4000000) only [fms,true_and,and_true,eq_self];refine⟨fun g => ?_,fun g => ?_⟩
 . have hlt:k<s.cols.length:=by omega
   have hc:=hpre.1 _ (Z7 Tc.col.dflt hlt);simp only [Qvu];refine⟨⟨by omega,by omega⟩,hc,fun h1=>hF (fun hs=>((hI.1 hs).2.1 k hlt).1) (by simpa using h1),fun h1=>⟨G4 4 k (Q49 s.cols k),?_⟩⟩;have hcb:Vm (s.cols.getD k Tc.col.dflt)=true:=by simpa using h1
   conv=>arg 1; cbv
   refine⟨?_,fun (j:Nat) hj => ?_⟩
   . simp (maxSteps:=4000000) only [fms,true_and,and_true,eq_self];simp
   have hZhj1:j<=k/\∀ i,i<j->Q49 s.cols k i:=hj;have hj1:=hZhj1.1;have hj2:=hZhj1.2
   conv=>arg 1; cbv
   simp (maxSteps:=4000000) only [fms,true_and,and_true,eq_self];refine⟨fun gj => ?_,fun gj=>Yr (n:=s.cols.length) (P:=Qfa s.cols) (by omega) hlt hk2 ⟨hcb,fun i hi=>hj2 i (by omega)⟩⟩;have hjk:j<k:=by omega
   have hN:=fun q=>Yr (P:=Q49 s.cols k) (show k<=1000000000000 by omega) hjk hj2 q;have hFk:¬ Q49 s.cols k j->false=Yg s:=fun q=>hF (fun hs=>((hI.1 hs).2.1 k hlt).2 j hjk) q;exact⟨⟨by omega,by omega⟩,⟨by omega,by omega⟩,fun a=>⟨⟨by omega,by omega⟩,⟨by omega,by omega⟩,fun b=>⟨⟨by omega,by omega⟩,⟨by omega,by omega⟩,fun c=>hFk fun q=>q ⟨a,b,eq_of_beq c⟩,fun c=>hN fun q=>(beq_eq_false_iff_ne.1 c) q.2.2⟩,fun b=>hN fun q=>b q.2.1⟩,fun a=>hN fun q=>a q.1⟩
 . refine⟨⟨⟨Nat.zero_le _,fun j hj=>absurd hj (Nat.not_lt_zero _)⟩,rfl⟩,fun (i:Nat) hi => ?_⟩;have hZhi1:i<=s.covs.length/\∀ j,j<i->Qf9 s.covs j:=hi;have hi1:=hZhi1.1;have hi2:=hZhi1.2
   conv=>arg 1; cbv
   simp (maxSteps:=4000000) only [fms,true_and,and_true,eq_self];refine⟨fun g3 => ?_,fun g3=>(hI.2 ⟨⟨by omega,by omega⟩,fun j hj=>hk2 j (by omega),fun j hj=>hi2 j (by omega)⟩).symm⟩;have hlt3:i<s.covs.length:=by omega
   have hr:=hpre.2 _ (Z7 Tc.cov.dflt hlt3);refine⟨⟨by omega,by omega⟩,fun a=>hF (fun hs=>((hI.1 hs).2.2 i hlt3).1.1) (by simp only [inB,Bool.not_eq_true',Bool.and_eq_false_iff,decide_eq_false_iff_not] at a; omega),fun a=>⟨fun b=>hF (fun hs=>((hI.1 hs).2.2 i hlt3).1.2) (fun q=>q (by omega)),fun b=>⟨Z6l s.covs i,?_⟩⟩⟩;simp only [inB,Bool.not_eq_false',Bool.and_eq_true,decide_eq_true_eq] at a
   conv=>arg 1; cbv
   refine⟨?_,fun (j:Nat) hj => ?_⟩
   . simp (maxSteps:=4000000) only [fms,true_and,and_true,eq_self];exact⟨⟨Nat.zero_le _,fun j hj=>absurd hj (Nat.not_lt_zero _)⟩,rfl⟩
   have hZhj1:j<=(s.covs.getD i Tc.cov.dflt).rows.length/\∀ i',i'<j->Q4q s.covs i i':=hj;have hj1:=hZhj1.1;have hj2:=hZhj1.2
   conv=>arg 1; cbv
   simp (maxSteps:=4000000) only [fms,true_and,and_true,eq_self];refine⟨fun g4 => ?_,fun g4=>Yr (n:=s.covs.length) (P:=Qf9 s.covs) (by omega) hlt3 hi2 ⟨⟨a,by omega⟩,fun j hj=>hj2 j (by omega)⟩⟩;have hjr:j<(s.covs.getD i Tc.cov.dflt).rows.length:=by omega
   have hFr:¬ Q4q s.covs i j->false=Yg s:=fun q=>hF (fun hs=>((hI.1 hs).2.2 i hlt3).2 j hjr) q;have hrb:=fun (q:Q4q s.covs i j)=>q.1;unfold Kz at hrb;simp only [Bool.and_eq_true,Bool.or_eq_true,decide_eq_true_eq] at hrb;refine⟨⟨by omega,by omega⟩,fun c=>hFr fun q => ?_,fun c=>⟨fun z=>⟨by simp only [Q1]; omega,⟨by omega,by omega⟩,⟨by omega,by omega⟩,fun e=>hFr fun q => ?_,fun e => ?_⟩,fun z => ?_⟩⟩
   . have q1:0<=(s.covs.getD i Tc.cov.dflt).rows.getD j Tc.int.dflt:=(hrb q).1.1;have q2:(s.covs.getD i Tc.cov.dflt).rows.getD j Tc.int.dflt<=30:=(hrb q).1.2;simp only [inB,decide_eq_true q1,decide_eq_true q2] at c;cases c
   . have q1:(s.covs.getD i Tc.cov.dflt).rows.getD (j - 1) Tc.int.dflt<(s.covs.getD i Tc.cov.dflt).rows.getD j Tc.int.dflt:=(hrb q).2.resolve_left (by omega);omega
   all_goals simp only [inB,Bool.not_eq_false',Bool.and_eq_true,decide_eq_true_eq] at c
   . have hrise:Kz 30 (s.covs.getD i Tc.cov.dflt).rows j=true:=by
      unfold Kz;simp only [Bool.and_eq_true,Bool.or_eq_true,decide_eq_true_eq];exact⟨c,.inr (Int.not_le.1 e)⟩
     refine⟨G4 8 i (Q0v s.covs i j),?_⟩
     conv=>arg 1; cbv
     refine⟨?_,fun (m:Nat) hm => ?_⟩
     . simp (maxSteps:=4000000) only [fms,true_and,and_true,eq_self];exact⟨⟨Nat.zero_le _,fun j hj=>absurd hj (Nat.not_lt_zero _)⟩,rfl⟩
     have hZhm1:m<=i/\∀ q,q<m->Q0v s.covs i j q:=hm;have hm1:=hZhm1.1;have hm2:=hZhm1.2
     conv=>arg 1; cbv
     simp (maxSteps:=4000000) only [fms,true_and,and_true,eq_self];refine⟨fun g5 => ?_,fun g5=>Yr (n:=(s.covs.getD i Tc.cov.dflt).rows.length) (P:=Q4q s.covs i) hr hjr hj2 ⟨hrise,fun q hq=>hm2 q (by omega)⟩⟩;have hmi:m<i:=by omega
     have hN:=fun q=>Yr (P:=Q0v s.covs i j) (show i<=1000000000000 by omega) hmi hm2 q;exact⟨⟨by omega,by omega⟩,fun a2=>⟨⟨by omega,by omega⟩,⟨by omega,by omega⟩,hpre.2 _ (Z7 Tc.cov.dflt (show m<s.covs.length by omega)),fun d=>hFr fun q=>q.2 m hmi ⟨a2,d⟩,fun d=>hN fun q=>by rw [q.2] at d; cases d⟩,fun a2=>hN fun q=>a2 q.1⟩
   . have hrise:Kz 30 (s.covs.getD i Tc.cov.dflt).rows j=true:=by
      unfold Kz;simp only [Bool.and_eq_true,Bool.or_eq_true,decide_eq_true_eq];exact⟨c,.inl (by omega)⟩
     refine⟨G4 8 i (Q0v s.covs i j),?_⟩
     conv=>arg 1; cbv
     refine⟨?_,fun (m:Nat) hm => ?_⟩
     . simp (maxSteps:=4000000) only [fms,true_and,and_true,eq_self];exact⟨⟨Nat.zero_le _,fun j hj=>absurd hj (Nat.not_lt_zero _)⟩,rfl⟩
     have hZhm1:m<=i/\∀ q,q<m->Q0v s.covs i j q:=hm;have hm1:=hZhm1.1;have hm2:=hZhm1.2
     conv=>arg 1; cbv
     simp (maxSteps:=4000000) only [fms,true_and,and_true,eq_self];refine⟨fun g5 => ?_,fun g5=>Yr (n:=(s.covs.getD i Tc.cov.dflt).rows.length) (P:=Q4q s.covs i) hr hjr hj2 ⟨hrise,fun q hq=>hm2 q (by omega)⟩⟩;have hmi:m<i:=by omega
     have hN:=fun q=>Yr (P:=Q0v s.covs i j) (show i<=1000000000000 by omega) hmi hm2 q;exact⟨⟨by omega,by omega⟩,fun a2=>⟨⟨by omega,by omega⟩,⟨by omega,by omega⟩,hpre.2 _ (Z7 Tc.cov.dflt (show m<s.covs.length by omega)),fun d=>hFr fun q=>q.2 m hmi ⟨a2,d⟩,fun d=>hN fun q=>by rw [q.2] at d; cases d⟩,fun a2=>hN fun q=>a2 q.1⟩
def Q09 (l:List Box) (k j:Nat):Prop:=(l.getD k Tc.box.dflt).num≠Y0/\(l.getD j Tc.box.dflt).num=(l.getD k Tc.box.dflt).num
theorem Qwt {l:List Box} {k:Nat} (hk:k<l.length):Yo l k=true↔G8 (l.getD k Tc.box.dflt)=false\/(0<k/\(l.getD k Tc.box.dflt).id<=(l.getD (k - 1) Tc.box.dflt).id)\/∃ j,j<k/\Q09 l k j:=by
 have hg:∀ i (hi:i<l.length),l.getD i Tc.box.dflt=l[i]:=fun i hi=>by rw [List.getD_eq_getElem?_getD,List.getElem?_eq_getElem hi]; rfl
 have h1:Yo l k=(Q40 l k l[k].num||decide (l[k].id<=Q1f l k) || !G8 l[k]):=by unfold Yo; rw [List.getElem?_eq_getElem hk]
 have h2:Q1f l k=if k=0 then 0 else (l.getD (k - 1) Tc.box.dflt).id:=by
  unfold Q1f;split
  . rfl
  . rw [List.getElem?_eq_getElem (by omega),hg _ (by omega)];rfl
 have h3:Q40 l k l[k].num=true↔∃ j,j<k/\Q09 l k j:=by
  unfold Q40 Q09;rw [List.any_eq_true,hg k hk];constructor
  . rintro⟨b,hb,he⟩
    obtain⟨j,hj,rfl⟩:=List.mem_take_iff_getElem.1 hb;simp only [Bool.and_eq_true,Bool.not_eq_true',decide_eq_false_iff_not,decide_eq_true_eq] at he;refine⟨j,by omega,fun e=>he.1 ?_,?_⟩
    . rw [he.2,e]; rfl
    . rw [hg j (by omega)]; exact he.2
  . rintro⟨j,hj,h4,h5⟩
    rw [hg j (by omega)] at h5;refine⟨l[j],List.mem_take_iff_getElem.2 ⟨j,by omega,rfl⟩,?_⟩;simp only [Bool.and_eq_true,Bool.not_eq_true',decide_eq_false_iff_not,decide_eq_true_eq];exact⟨fun e=>h4 (by rw [<- h5,e]; rfl),h5⟩
 rw [h1,Bool.or_eq_true,Bool.or_eq_true,h3,decide_eq_true_eq,h2,hg k hk,Bool.not_eq_true'];constructor
 . rintro ((h|h)|h)
   . exact .inr (.inr h)
   . split at h
     . cases hB:G8 l[k] with
       | false=>exact .inl rfl
       | true=>have:=((Qqr _).1 hB).1; omega
     . exact .inr (.inl ⟨by omega,h⟩)
   . exact .inl h
 . rintro (h|⟨h,h'⟩|h)
   . exact .inr h
   . exact .inl (.inr (by rw [if_neg (by omega)]; exact h'))
   . exact .inl (.inl h)
def Qn1:Con:=Yd 156 Yw (fun l=>(l ()).length<=1000000000000/\∀ b∈l (),b.num.size<=140737488351232) (fun l => .tup [.int .i64 fun _=>(Y5 (l ())).1,.int .i64 fun _=>(Y5 (l ())).2])
theorem Qrt:Q7 Tryz.prog Qn1:=by
 refine Kp { kp := [(0,[0]),(1,[0]),(2,[]),(3,[0]),(4,[0,4]),(5,[0,4]),(6,[0,4]),(7,[4]),(8,[0,4]),(9,[0,4,5]),(10,[0,4,5]),(11,[0,4,5]),(12,[4]),(13,[])] } [Qvh] ⟨Qyl,trivial⟩ [] trivial Tryz.func156 (by kernel_rfl) fun avs res h hp => ?_;obtain⟨(l:List Box),rfl,rfl⟩:=Yk h;clear h;have hZhp1:l.length<=1000000000000/\∀ b∈l,b.num.size<=140737488351232:=hp;have hp1:=hZhp1.1;have hp2:=hZhp1.2;refine⟨[(4,Q23 4 l fun j=>Yo l j=false)],?_⟩
 conv=>arg 1; cbv
 simp (maxSteps:=4000000) only [fms,true_and,and_true,eq_self];refine⟨fun h => ?_,fun h=>⟨⟨⟨Nat.zero_le _,fun j hj=>absurd hj (Nat.not_lt_zero _)⟩,rfl⟩,fun (k:Nat) hk => ?_⟩⟩
 . have e:Y5 l=(-1,5):=by unfold Y5; rw [if_pos (by omega)]
   rw [e];exact⟨rfl,rfl⟩
 have hZhk1:k<=l.length/\∀ j,j<k->Yo l j=false:=hk;have hk1:=hZhk1.1;have hk2:=hZhk1.2
 conv=>arg 1; cbv
 simp (maxSteps:=4000000) only [fms,true_and,and_true,eq_self];have h5:l.length<=2000:=by omega
 refine⟨fun g => ?_,fun g => ?_⟩
 . have hlt:k<l.length:=by omega
   have hbad:Yo l k=true->(k:Int)=(Y5 l).1/\60=(Y5 l).2:=fun h=>by rw [Q9n h5 hlt hk2 h]; exact⟨rfl,rfl⟩
   have hiff:=Qwt hlt;refine⟨⟨by omega,by omega⟩,hp2 _ (Z7 Tc.box.dflt hlt),fun b=>hbad (hiff.2 (.inl (by simpa using b))),fun b=>⟨fun c=>⟨⟨by omega,by omega⟩,by simp only [Q1]; omega,⟨by omega,by omega⟩,fun d=>hbad (hiff.2 (.inr (.inl ⟨by omega,d⟩))),fun d => ?_⟩,fun c => ?_⟩⟩
   . have hI:k=0\/(l.getD (k - 1) Tc.box.dflt).id<(l.getD k Tc.box.dflt).id := .inr (by omega);have hB:G8 (l.getD k Tc.box.dflt)=true:=by simpa using b
     refine⟨G4 5 k fun j=>¬ Q09 l k j,?_⟩
     conv=>arg 1; cbv
     refine⟨?_,fun (j:Nat) hj => ?_⟩
     . simp (maxSteps:=4000000) only [fms,true_and,and_true,eq_self];simp
     have hZhj1:j<=k/\∀ i,i<j->¬ Q09 l k i:=hj;have hj1:=hZhj1.1;have hj2:=hZhj1.2
     conv=>arg 1; cbv
     simp (maxSteps:=4000000) only [fms,true_and,and_true,eq_self];refine⟨fun gj => ?_,fun gj=>Yr (n:=l.length) (P:=fun j=>Yo l j=false) (by omega) hlt hk2 ?_⟩
     . have hN:=fun q=>Yr (P:=fun j=>¬ Q09 l k j) (show k<=1000000000000 by omega) (show j<k by omega) hj2 q;refine⟨⟨by omega,by omega⟩,fun a=>⟨⟨by omega,by omega⟩,⟨by omega,by omega⟩,fun c=>hbad (hiff.2 (.inr (.inr ⟨j,by omega,?_,c⟩))),fun c=>hN fun q=>c q.2⟩,fun a=>hN fun q=>q.1 ?_⟩
       . simp only [Bool.not_eq_true',decide_eq_false_iff_not] at a;exact a
       . simp only [Bool.not_eq_false',decide_eq_true_eq] at a;exact a
     . cases hb:Yo l k with
       | false=>rfl
       | true =>
        rcases hiff.1 hb with h1|⟨h1,h2⟩|⟨i,h1,h2⟩
        . rw [hB] at h1; cases h1
        . rcases hI with h3|h3<;>omega
        . exact absurd h2 (hj2 i (by omega))
   . have hI:k=0\/(l.getD (k - 1) Tc.box.dflt).id<(l.getD k Tc.box.dflt).id := .inl (by omega);have hB:G8 (l.getD k Tc.box.dflt)=true:=by simpa using b
     refine⟨G4 5 k fun j=>¬ Q09 l k j,?_⟩
     conv=>arg 1; cbv
     refine⟨?_,fun (j:Nat) hj => ?_⟩
     . simp (maxSteps:=4000000) only [fms,true_and,and_true,eq_self];simp
     have hZhj1:j<=k/\∀ i,i<j->¬ Q09 l k i:=hj;have hj1:=hZhj1.1;have hj2:=hZhj1.2
     conv=>arg 1; cbv
     simp (maxSteps:=4000000) only [fms,true_and,and_true,eq_self];refine⟨fun gj => ?_,fun gj=>Yr (n:=l.length) (P:=fun j=>Yo l j=false) (by omega) hlt hk2 ?_⟩
     . have hN:=fun q=>Yr (P:=fun j=>¬ Q09 l k j) (show k<=1000000000000 by omega) (show j<k by omega) hj2 q;refine⟨⟨by omega,by omega⟩,fun a=>⟨⟨by omega,by omega⟩,⟨by omega,by omega⟩,fun c=>hbad (hiff.2 (.inr (.inr ⟨j,by omega,?_,c⟩))),fun c=>hN fun q=>c q.2⟩,fun a=>hN fun q=>q.1 ?_⟩
       . simp only [Bool.not_eq_true',decide_eq_false_iff_not] at a;exact a
       . simp only [Bool.not_eq_false',decide_eq_true_eq] at a;exact a
     . cases hb:Yo l k with
       | false=>rfl
       | true =>
        rcases hiff.1 hb with h1|⟨h1,h2⟩|⟨i,h1,h2⟩
        . rw [hB] at h1; cases h1
        . rcases hI with h3|h3<;>omega
        . exact absurd h2 (hj2 i (by omega))
 . have hkk:k=l.length:=by omega
   subst hkk;rw [Qc1 h5 hk2];exact⟨rfl,rfl⟩
theorem Z3z {l:List Box} {id:Int} {k:Nat} (h2:∀ j,j<k->¬ (l.getD j Tc.box.dflt).id=id) (hk:k<l.length) (h:(l.getD k Tc.box.dflt).id=id):Qa l id=(l.getD k Tc.box.dflt,true):=by
 have h1:=Qcf (p:=Q19 id) (d:=Tc.box.dflt) (fun j hj=>decide_eq_false (h2 j hj)) hk (decide_eq_true h);rcases Qb2 l id with ⟨h3,h4⟩|⟨k',h3,h4,h5⟩
 . omega
 . rw [h5,show k'=k by omega]
theorem Z4f {l:List Box} {id:Int} {k:Nat} (h2:∀ j,j<k->¬ (l.getD j Tc.box.dflt).id=id) (hk:l.length<=k):Qa l id=(Qlj,false):=by
 have h1:=Qck (p:=Q19 id) (d:=Tc.box.dflt) (fun j hj=>decide_eq_false (h2 j hj)) hk;rcases Qb2 l id with ⟨h3,h4⟩|⟨k',h3,h4,h5⟩
 . exact h4
 . omega
def Z6i (l:List Box) (id:Int):Lp where
 X:=Nat
 ov k := [(6,.int .i64 fun _=>(k:Int))]
 oe _ := [(0,.box 42 (Qad fun _=>Qlj))]
 I k:=k<=l.length/\∀ j,j<k->¬ (l.getD j Tc.box.dflt).id=id
 μ k _:=l.length - k
 x0:=0
 nx:=some fun k=>k+1
def Q7k:Con:=Ze 96 Yw kI (fun l _=>(l ()).length<=1000000000000) (fun l id => .tup [.agg (Qad fun _=>(Qa (l ()) (id ())).1),.bool fun _=>(Qa (l ()) (id ())).2])
theorem Q5j:Q7 Tryz.prog Q7k:=by
 refine Qp [] trivial Tryz.func96 (by kernel_rfl) fun avs res h hp => ?_;obtain⟨(l:List Box),(id:Int),rfl,rfl⟩:=Zf h;clear h;have hl:l.length<=1000000000000:=hp;refine⟨[(2,Z6i l id)],?_⟩
 conv=>arg 1; cbv
 refine⟨?_,fun (k:Nat) hk => ?_⟩
 . simp (maxSteps:=4000000) only [fms,true_and,and_true,eq_self]
   and_intros<;>first|omega|rfl|(intro j hj; omega)
 have hZhk1:k<=l.length/\∀ j,j<k->¬ (l.getD j Tc.box.dflt).id=id:=hk;have hk1:=hZhk1.1;have hk2:=hZhk1.2
 conv=>arg 1; cbv
 simp (maxSteps:=4000000) only [fms,true_and,and_true,eq_self];refine⟨fun g => ?_,fun g => ?_⟩
 . have hlt:k<l.length:=by omega
   refine⟨⟨by omega,by omega⟩,fun c => ?_,fun c=>Yr hl hlt hk2 c⟩;rw [Z3z hk2 hlt c]
   and_intros<;>first|omega|rfl
 . rw [Z4f hk2 (by omega)]
   and_intros<;>first|omega|rfl
theorem Qtx {bs:List Box} {l:List Q0} {c h:Int} {k:Nat} (hlt:k<l.length):Qt bs (l.take (k+1)) c h=Qt bs (l.take k) c h+hAt bs c h (l.getD k Tc.stowed.dflt):=by
 unfold Qt;rw [show l.take (k+1)=l.take k ++ [l[k]] from by rw [List.take_add_one,List.getElem?_eq_getElem hlt]; rfl,List.map_append,List.sum_append,List.getD_eq_getElem?_getD,List.getElem?_eq_getElem hlt];simp only [List.map_cons,List.map_nil,List.sum_cons,List.sum_nil,Option.getD_some];omega
def Z7z (bs:List Box) (l:List Q0) (c h:Int):Lp where
 X:=Nat
 ov k := [(10,.int .i64 fun _=>(k:Int)),(9,.int .i64 fun _=>Qt bs (l.take k) c h)]
 oe _ := []
 I k:=k<=l.length
 μ k _:=l.length - k
 x0:=0
 nx:=some fun k=>k+1
def Qj3:Con:=Q63 259 Yw Gk kI kU8 (fun bs l _ _=>(bs ()).length<=1000000000000/\(l ()).length<=1000000) (fun bs l col half => .int .i64 fun _=>Qt (bs ()) (l ()) (col ()) (half ()))
theorem Qp9:Q7 Tryz.prog Qj3:=by
 refine Qp [Q7k] ⟨Q5j,trivial⟩ Tryz.func259 (by kernel_rfl) fun avs res h hp => ?_;obtain⟨(bs:List Box),(l:List Q0),(col:Int),(half:Int),rfl,rfl⟩:=Q8t h;clear h;have hZhl1:bs.length<=1000000000000/\l.length<=1000000:=hp;have hl1:=hZhl1.1;have hl2:=hZhl1.2;refine⟨[(3,Z7z bs l col half)],?_⟩
 conv=>arg 1; cbv
 refine⟨?_,fun (k:Nat) hk => ?_⟩
 . simp (maxSteps:=4000000) only [fms];simp [Qt]
 have hk1:k<=l.length:=hk
 conv=>arg 1; cbv
 simp (maxSteps:=4000000) only [fms,true_and,and_true,eq_self];refine⟨fun g => ?_,fun g=>by rw [List.take_of_length_le (by omega)]⟩;have hlt:k<l.length:=by omega
 have hst:=Qtx (bs:=bs) (c:=col) (h:=half) hlt;have hb:0<=Qt bs (l.take k) col half/\Qt bs (l.take k) col half<=2896*((l.take k).length:Int):=Q8e _ (Q7z bs col half) _;rw [List.length_take] at hb;have h1:∀ P,P->Q1 ((k:Int)+1)/\(k+1<=l.length/\l.length - (k+1)<l.length - k)/\(k:Int)+1=((k+1:Nat):Int)/\P:=fun P h=>⟨by simp only [Q1]; omega,by omega,by omega,h⟩
 rw [hst];generalize Qt bs (l.take k) col half=H at *
 have h2:Q1 (H+2896)/\Q1 (H+2591):=by constructor<;>simp only [Q1]<;>omega
 have e1:(Qa bs (l.getD k Tc.stowed.dflt).box).2=false->hAt bs col half (l.getD k Tc.stowed.dflt)=0:=fun e=>by unfold hAt; rw [e]; simp
 have e2:¬ (l.getD k Tc.stowed.dflt).col=col->hAt bs col half (l.getD k Tc.stowed.dflt)=0:=fun e=>by unfold hAt; rw [if_neg fun q=>e q.1]
 have e3:¬ (l.getD k Tc.stowed.dflt).half=half->¬ (l.getD k Tc.stowed.dflt).half=0->hAt bs col half (l.getD k Tc.stowed.dflt)=0:=fun e e'=>by unfold hAt; rw [if_neg fun q=>q.2.elim e e']
 have e4:(Qa bs (l.getD k Tc.stowed.dflt).box).2=true->(l.getD k Tc.stowed.dflt).col=col->((l.getD k Tc.stowed.dflt).half=half\/(l.getD k Tc.stowed.dflt).half=0)->hAt bs col half (l.getD k Tc.stowed.dflt)=Z9 (Qa bs (l.getD k Tc.stowed.dflt).box).1:=fun e e' e''=>by unfold hAt; rw [if_pos ⟨e',e''⟩,if_pos e]
 have t1:(Qa bs (l.getD k Tc.stowed.dflt).box).1.high=true->Z9 (Qa bs (l.getD k Tc.stowed.dflt).box).1=2896:=fun e=>by unfold Z9; rw [if_pos e]
 have t2:(Qa bs (l.getD k Tc.stowed.dflt).box).1.high=false->Z9 (Qa bs (l.getD k Tc.stowed.dflt).box).1=2591:=fun e=>by unfold Z9; rw [e]; rfl
 clear hst hb;refine⟨⟨by omega,by omega⟩,hl1,fun f=>h1 _ (by rw [e1 (by simpa using f)]; omega),fun f=>⟨⟨by omega,by omega⟩,fun c=>h1 _ (by rw [e2 (by simpa using c)]; omega),fun c=>⟨⟨by omega,by omega⟩,fun a=>⟨⟨by omega,by omega⟩,fun z=>h1 _ (by rw [e3 (by simpa using a) (by simpa using z)]; omega),fun z => ?_⟩,fun a => ?_⟩⟩⟩
 . have e5:=e4 (by simpa using f) (by simpa using c) (.inr (by simpa using z));exact⟨fun hh=>⟨h2.1,h1 _ (by rw [e5,t1 hh])⟩,fun hh=>⟨h2.2,h1 _ (by rw [e5,t2 hh])⟩⟩
 . have e5:=e4 (by simpa using f) (by simpa using c) (.inl (by simpa using a));exact⟨fun hh=>⟨h2.1,h1 _ (by rw [e5,t1 hh])⟩,fun hh=>⟨h2.2,h1 _ (by rw [e5,t2 hh])⟩⟩
def Z2r (l:List Q0):Lp where
 X:=Nat
 ov k := [(4,.int .i64 fun _=>(k:Int)),(3,.own 0)]
 oe k := [(0,.row true .slot 38 fun _=>(l.take k).map Qs)]
 I k:=k<=l.length
 μ k _:=l.length - k
 x0:=0
 nx:=some fun k=>k+1
def Qnj:Con:=Yd 214 Gk (fun l=>(l ()).length<=1000000) (fun l => .sl true .slot fun _=>(l ()).map Qs)
theorem Qs0:Q7 Tryz.prog Qnj:=by
 refine Qp [] trivial Tryz.func214 (by kernel_rfl) fun avs res h hp => ?_;obtain⟨(l:List Q0),rfl,rfl⟩:=Yk h;clear h;have hl:l.length<=1000000:=hp;refine⟨[(3,Z2r l)],?_⟩
 conv=>arg 1; cbv
 refine⟨?_,fun (k:Nat) hk => ?_⟩
 . simp (maxSteps:=4000000) only [fms];simp
 have hk1:k<=l.length:=hk
 conv=>arg 1; cbv
 simp (maxSteps:=4000000) only [fms,true_and,and_true,eq_self];refine⟨fun g => ?_,fun g=>by rw [List.take_of_length_le (by omega)]⟩;have hlt:k<l.length:=by omega
 refine⟨⟨by omega,by omega⟩,?_,by simp only [Q1]; omega,⟨by omega,by omega⟩,by omega,?_⟩
 . simp only [List.length_map,List.length_take,List.length_cons,List.length_nil];omega
 . rw [show l.take (k+1)=l.take k ++ [l.getD k Tc.stowed.dflt] from by rw [List.take_add_one,List.getElem?_eq_getElem hlt,List.getD_eq_getElem?_getD,List.getElem?_eq_getElem hlt]; rfl,List.map_append];rfl
def Q6g (cs:List Col) (bs:List Box) (l:List Q0) (c:Int):Bool := !decide ((cs.getD c.toNat Tc.col.dflt).height=0)&&(decide ((cs.getD c.toNat Tc.col.dflt).height<Qt bs l c 1)||decide ((cs.getD c.toNat Tc.col.dflt).height<Qt bs l c 2))
def Qsp:Con:=Q63 216 Va Yw Gk kI (fun s bs l c=>(bs ()).length<=1000000000000/\(l ()).length<=1000000/\0<=c ()/\c ()<((s ()).cols.length:Int)) (fun s bs l c => .bool fun _=>Q6g (s ()).cols (bs ()) (l ()) (c ()))
theorem Qtv:Q7 Tryz.prog Qsp:=by
 refine Qp [Qj3] ⟨Qp9,trivial⟩ Tryz.func216 (by kernel_rfl) fun avs res h hp => ?_;obtain⟨(s:Shp),(bs:List Box),(l:List Q0),(c:Int),rfl,rfl⟩:=Q8t h;clear h;have hZh1:bs.length<=1000000000000/\l.length<=1000000/\0<=c/\c<(s.cols.length:Int):=hp;have h1:=hZh1.1;have h2:=hZh1.2.1;have h3:=hZh1.2.2.1;have h4:=hZh1.2.2.2;refine⟨[],?_⟩
 conv=>arg 1; cbv
 simp (maxSteps:=4000000) only [fms,true_and,and_true,eq_self];unfold Q6g;refine⟨⟨h3,h4⟩,fun e=>by rw [e]; rfl,fun e => ?_⟩;rw [decide_eq_false e];exact⟨⟨h1,h2⟩,⟨h3,h4⟩,fun g=>by rw [decide_eq_true g]; rfl,fun g=>⟨⟨h1,h2⟩,⟨h3,h4⟩,by rw [decide_eq_false g]; rfl⟩⟩
theorem Z6p {w w':World} {ρ:Nat->Option Rl} {ra:Nat->Prop} {T:Nat} {t:Tc} {l:Unit->List t.el} {A:Option Addr} {c:Nat} (f:t.el->List Value) (ht:∀ x:t.el,(Q8 true t fun _=>x).all AV.flat=true) (hf:∀ x:t.el,(Q8 true t fun _=>x).map AV.valOf=f x)
 (hρ:∀ l,ρ l=none) (hra:∀ b,ra b->b<w.heap.size) (hb:Qe w w') (ho:Z1 w' w.heap.size T t.size A c ((l ()).map f)):∃ ρ1 ra1,Qmt w w' ρ ρ1 ra ra1 [(0,.row true t T l)] false/\AVR w' ρ1 w.heap.size ra1 (.own 0) (.slice A (l ()).length c):=by
 have hr:∀ l' r,Kq ρ 0 (.row A (l ()).length c) l'=some r->l'=0/\r = .row A (l ()).length c:=by
  intro l' r h;unfold Kq at h;split at h
  . rename_i e;cases h;exact⟨e,rfl⟩
  . rw [hρ] at h;cases h
 have hblk:∀ b,(Rl.row A (l ()).length c).blk=some b->w.heap.size<=b/\b<w'.heap.size:=by
  intro b h;simp only [Rl.blk] at h;obtain⟨a,ha,rfl⟩:=Option.map_eq_some_iff.1 h;exact ho.lt ha
 refine⟨Kq ρ 0 (.row A (l ()).length c),ra,⟨?_,fun l' e he => ?_,fun l1 l2 r r' b hne h1 h2 _ _ => ?_,fun l' hl' => ?_,fun l' r b h hbk => ?_,fun b hb' => ?_,fun l' r h _=>by rw [hρ] at h; cases h⟩,.own 0 A _ c (Zr _ _ _)⟩
 . exact⟨hb.os,hb.tape,hb.output,hb.size,fun k hk _=>hb.block k hk⟩
 . simp only [Q3] at he;split at he
   . rename_i e0;have:l'=0:=by simpa using (beq_iff_eq.1 e0).symm
     subst this;cases he;refine⟨A,c,(l ()).map f,Zr _ _ _,ho,by simp,fun k cs j x v hk hx hv => ?_⟩;rw [List.getElem?_map] at hk
     cases hlk:(l ())[k]? with
     | none=>rw [hlk] at hk; cases hk
     | some y =>
      rw [hlk] at hk;injection hk with hk;subst hk;have hy:(l ()).getD k t.dflt=y:=by rw [List.getD_eq_getElem?_getD,hlk]; rfl
      rw [hy] at hx;have hE:Qj w' (Kq ρ 0 (.row A (l ()).length c)) w.heap.size ra (Q8 true t fun _=>y) (f y):=by
       rw [<- hf];exact Qee (ht y)
      exact hE.2 j x v hx hv
   . cases he
 . exact absurd ((hr _ _ h1).1.trans (hr _ _ h2).1.symm) hne
 . have:l'≠0:=by
    rintro rfl
    simp [Zg,Qw] at hl'
   unfold Kq;rw [if_neg this,hρ]
 . obtain⟨rfl,rfl⟩:=hr _ _ h;have h3:=hblk b hbk;exact⟨h3.2,fun h4=>by have:=hra b h4; omega,.inl h3.1⟩
 . exact⟨Nat.lt_of_lt_of_le (hra b hb') hb.size,fun _=>hb'⟩
theorem Qzz (A:Option Addr) (c:Nat) (l:List Q0) (n:Nat) (hn:n=l.length) (w:World) (hA:Rd w w.heap.size 4 A (l.map Q0.cells)) (hl:l.length<=1000000) :
 Calls Tryz.prog 134 #[.slice A n c] w fun e w'=>∃ A' c',e = .returned (.slice A' l.length c')/\Z1 w' w.heap.size 40 4 A' c' (l.map Q0.cells)/\Below w.heap.size w w':=by
 subst hn
 cases A with
 | none =>
  have hl0:l = []:=by
   rcases l with _|⟨x,l⟩
   . rfl
   . obtain⟨_,_,h,_⟩:=hA 0 x.cells rfl;cases h
  subst hl0;have heq:=fun w=>Go.Lib.run_eql_slice_nil (P:=Tryz.prog) w 34 40 none 0 c 0 0 Tryz.underlying34
  go_enter Tryz.func134,Tryz.ntmps134
  go_wp2
  go_ret
  exact⟨none,0,rfl,Z1.nil _ _ _ _,Below.refl _ _⟩
 | some ad =>
  have heq:=fun w=>Go.Lib.run_eql_slice_nil (P:=Tryz.prog) w 34 40 (some ad) l.length c 0 0 Tryz.underlying34;have hb1:Below w.heap.size w (w.alloc (Obj.cells #[] 40)):=(Below.refl _ _).alloc (Nat.le_refl _) _;have HRD:=Lib.hid ((hA.below hb1 (Nat.le_refl _)).more hb1.size);have HOW:=Lib.hid (Z1.empty_new w w.heap.size 40 4 (Nat.le_refl _));have HB1:=Lib.hid hb1;clear hA hb1
  go_enter Tryz.func134,Tryz.ntmps134
  go_wp2_with (first
   | (at_builtin; go_loud (refine Q3e rfl _ _ rfl Q0.ei 0 rfl rfl HOW.out rfl _ HRD.out (by simp) (Q0.ones l) (by unfold maxLen; simp; omega) (by simp; omega) HB1.out.size ?_); intro A4 c4 w4 hown4 hg4 hb4))
  go_ret
  exact⟨A4,c4,by simp,by simpa using hown4,HB1.out.trans hb4⟩
def Qh9:Fon:=⟨134,[.sl .stowed],0,fun avs es=>match avs,es with
 | [x],[]=>x.toStos.bind fun l=>some ⟨fun _=>(l ()).length<=1000000,.own 0,[(0,.row true .stowed 40 l)]⟩
 | _,_=>none,false⟩
theorem Qu0:Vx Tryz.prog Qh9:=by
 refine⟨fun args w=>Q5c Tryz.func134 (by kernel_rfl) (by kernel_rfl) args w,fun avs es res h w ρ ra vals hra hE hen hap hfr hown hp => ?_⟩;simp only [Qh9] at h;split at h
 case h_2=>cases h
 rename_i x;simp only [Option.bind_eq_some_iff,Option.some.injEq] at h;obtain⟨l,e0,rfl⟩:=h;obtain rfl:=AV.toStos_ e0;obtain⟨v0,us0,rfl,hv0,h0⟩:=hE.head;obtain rfl:=h0.none;obtain⟨A0,q0,rfl,hc0,hr0⟩:=hv0.stos;refine (Qzz A0 q0 (l ()) _ rfl w hr0 hp).mono fun e w' ⟨A',c',k1,k2,k3⟩ => ?_;obtain⟨ρ1,ra1,hL,hv⟩:=Z6p (t := .stowed) (l:=l) Q0.cells (fun _=>rfl) (fun _=>rfl) (fun l=>hfr l (Nat.zero_le _)) hra k3 k2;exact⟨_,ρ1,ra1,k1,hL,hv⟩
section
variable {α:Type}
def V2 (d : α) (l:List α) (j:Nat):List α:=(l.set (j+1) (l.getD j d)).set j (l.getD (j+1) d)
def Ys (lt : α -> α->Bool) (d : α) (a:Nat):Nat->List α->List α
 | 0,l=>l
 | j+1,l=>cond (decide (a<j+1)&&lt (l.getD (j+1) d) (l.getD j d)) (Ys lt d a j (V2 d l j)) l
def Vh (lt : α -> α->Bool) (d : α) (a:Nat) (l:List α):Nat->List α
 | 0=>l
 | n+1=>Ys lt d a (a+1+n) (Vh lt d a l n)
def Q46 (lt : α -> α->Bool) (d : α) (a b:Nat) (l:List α):List α:=Vh lt d a l (b - (a+1))
theorem Ja (d : α) (l:List α) (j:Nat):(V2 d l j).length=l.length:=by unfold V2; simp
theorem Q95 (lt : α -> α->Bool) (d : α) (a:Nat):∀ (j:Nat) (l:List α),(Ys lt d a j l).length=l.length
 | 0,l=>rfl
 | j+1,l=>by
  unfold Ys
  cases decide (a<j+1)&&lt (l.getD (j+1) d) (l.getD j d) with
  | true=>rw [cond_true,Q95 lt d a j,Ja]
  | false=>rfl
theorem Q5f (lt : α -> α->Bool) (d : α) (a:Nat) (l:List α):∀ n,(Vh lt d a l n).length=l.length
 | 0=>rfl
 | n+1=>by unfold Vh; rw [Q95,Q5f lt d a l n]
end
def Qi4 (a b:Int):Int:=cond (decide (a<b)) (-1) (cond (decide (b<a)) 1 0)
def Z0w:Con:=Yd 204 kI (fun _=>True) (fun _ => .blit false)
theorem Z08:Q7 Tryz.prog Z0w:=by
 refine Qp [] trivial Tryz.func204 (by kernel_rfl) fun avs res h hp => ?_;obtain⟨(a:Int),rfl,rfl⟩:=Yk h;clear h;refine⟨[],?_⟩
 conv=>arg 1; cbv
 simp [Qk2,V0]
def Z00:Con:=Ze 137 kI kI (fun _ _=>True) (fun a b => .int .i64 fun _=>Qi4 (a ()) (b ()))
theorem Z1b:Q7 Tryz.prog Z00:=by
 refine Qp [Z0w] ⟨Z08,trivial⟩ Tryz.func137 (by kernel_rfl) fun avs res h hp => ?_;obtain⟨(a:Int),(b:Int),rfl,rfl⟩:=Zf h;clear h;refine⟨[],?_⟩
 conv=>arg 1; cbv
 simp (maxSteps:=4000000) only [fms];unfold Qi4;grind
def Qmf:Con:=Ze 136 Z7b Z7b (fun _ _=>True) (fun x y => .int .i64 fun _=>Qi4 (x ()).tier (y ()).tier)
theorem Qjj:Q7 Tryz.prog Qmf:=by
 refine Qp [Z00] ⟨Z1b,trivial⟩ Tryz.func136 (by kernel_rfl) fun avs res h hp => ?_;obtain⟨(x:Q0),(y:Q0),rfl,rfl⟩:=Zf h;clear h;refine⟨[],?_⟩
 conv=>arg 1; cbv
 simp (maxSteps:=4000000) only [fms];exact⟨trivial,trivial⟩
def Vc (a b:Q0):Bool:=decide (Qi4 a.tier b.tier<0)
def Qsn:Fon:=⟨251,[.ownr .stowed,.int .i64,.int .i64,.fn []],1,fun avs es=>match avs,es with
 | [.own 0,.int .i64 a,.int .i64 b,.fn f []],[(0,.row false .stowed T l)]=>if f=136 then some ⟨fun _=>0<=a ()/\a ()<=b ()/\b ()<=((l ()).length:Int)/\(l ()).length<=1000000,.tup [],[(0,.row false .stowed T fun _=>Q46 Vc Tc.stowed.dflt (a ()).toNat (b ()).toNat (l ()))]⟩ else none
 | _,_=>none,true⟩
def Z8p (T:Nat) (l:List Q0) (a b:Nat):Lp where
 X:=Nat
 ov n := [(8,.int .i64 fun _=>((a+1+n:Nat):Int)),(0,.own 0)]
 oe n := [(0,.row false .stowed T fun _=>Vh Vc Tc.stowed.dflt a l n)]
 I n:=n<=b - (a+1)
 μ n _:=b - (a+1) - n
 x0:=0
 nx:=some fun n=>n+1
def Z7w (T:Nat) (a i:Nat) (R L1:List Q0):Lp where
 X:=Nat×List Q0
 ov p := [(9,.int .i64 fun _=>(p.1:Int)),(0,.own 0)]
 oe p := [(0,.row false .stowed T fun _=>p.2)]
 I p:=a<=p.1/\p.1<=i/\p.2.length=R.length/\Ys Vc Tc.stowed.dflt a p.1 p.2=R
 μ p _:=p.1
 x0:=(i,L1)
 nx:=none
theorem Qzl:Vx Tryz.prog Qsn:=by
 refine Qez [Qmf] ⟨Qjj,trivial⟩ [] trivial Tryz.func251 (by kernel_rfl) fun avs es res h hp => ?_;simp only [Qsn] at h;split at h
 case h_2=>cases h
 split at h
 case isFalse=>cases h
 rename_i a b f T l hf;subst hf;cases h;obtain⟨l,rfl⟩:=eta (α:=List Q0) l;obtain⟨a,rfl⟩:=eta (α:=Int) a;obtain⟨b,rfl⟩:=eta (α:=Int) b;have hZh1:0<=a/\a<=b/\b<=(l.length:Int)/\l.length<=1000000:=hp;have h1:=hZh1.1;have h2:=hZh1.2.1;have h3:=hZh1.2.2.1;have h4:=hZh1.2.2.2;obtain⟨a,rfl⟩:=Int.eq_ofNat_of_zero_le h1;obtain⟨b,rfl⟩:=Int.eq_ofNat_of_zero_le (show 0<=b by omega);refine⟨[(1,Z8p T l a b)],?_⟩
 conv=>arg 1; cbv
 refine⟨⟨by simp only [Z8]; omega,by simp only [Z8]; omega⟩,⟨?_,fun (n:Nat) hn => ?_⟩⟩
 . simp (maxSteps:=4000000) only [fms];exact⟨Nat.zero_le _,by omega,rfl⟩
 have hn':n<=b - (a+1):=hn
 conv=>arg 1; cbv
 refine⟨fun g1 => ?_,fun g1 => ?_⟩
 . have g1':a+1+n<b:=by simp only [decide_eq_true_eq,Z8] at g1; omega
   refine Qc (Vh Vc Tc.stowed.dflt a l n) fun L1 hL1 => ?_;refine Qc (a+1+n) fun i hi => ?_;refine Qc (Ys Vc Tc.stowed.dflt a i L1) fun R hR => ?_;have hlen1:L1.length=l.length:=by rw [<- hL1,Q5f]
   have hlenR:R.length=l.length:=by rw [<- hR,Q95,hlen1]
   refine⟨Z7w T a i R L1,?_⟩
   conv=>arg 1; cbv
   refine⟨?_,fun (p:Nat×List Q0) hp => ?_⟩
   . simp (maxSteps:=4000000) only [fms];refine⟨⟨by omega,Nat.le_refl _,by omega,hR⟩,by rw [hi],hL1⟩
   . have hp':a<=p.1/\p.1<=i/\p.2.length=R.length/\Ys Vc Tc.stowed.dflt a p.1 p.2=R:=hp;have p1:=hp'.1;have p2:=hp'.2.1;have p3:=hp'.2.2.1;have p4:=hp'.2.2.2;clear hn hp hp' hZh1;have hup:Vh Vc Tc.stowed.dflt a l (n+1)=R:=by rw [<- hR,<- hi,<- hL1]; rfl
     have hlast:Ys Vc Tc.stowed.dflt a p.1 p.2=p.2->Q1 (((a+1+n:Nat):Int)+1)/\(n+1<=b - (a+1)/\b - (a+1) - (n+1)<b - (a+1) - n)/\((a+1+n:Nat):Int)+1=((a+1+(n+1):Nat):Int)/\p.2=Vh Vc Tc.stowed.dflt a l (n+1):=fun h=>by
      rw [p4] at h;exact⟨⟨by omega,by omega⟩,⟨by omega,by omega⟩,by omega,by rw [hup,h]⟩
     conv=>arg 1; cbv
     refine Qc (p.1 - 1) fun j hj => ?_;refine Qc (V2 Tc.stowed.dflt p.2 j) fun L2 hL2 => ?_;have h5:(p.2.length:Int)<=1000000:=by omega
     have hdown:Ys Vc Tc.stowed.dflt a p.1 p.2=cond (decide (p.1=0)) p.2 (cond (decide (a<p.1)&&Vc (p.2.getD p.1 Tc.stowed.dflt) (p.2.getD j Tc.stowed.dflt)) (Ys Vc Tc.stowed.dflt a j L2) p.2):=by
      rw [<- hL2]
      cases hc:p.1 with
      | zero=>rfl
      | succ m =>
       have:j=m:=by omega
       subst this;rfl
     have hlt:p.1<p.2.length:=by omega
     simp (maxSteps:=4000000) only [fms];refine⟨fun g2 => ?_,fun g2=>hlast ?_⟩
     . have g2':a<p.1:=by omega
       have hj2:p.1=j+1:=by omega
       have hne:decide (p.1=0)=false:=by simp; omega
       refine⟨⟨by omega,by omega⟩,⟨by omega,by omega⟩,⟨by omega,by omega⟩,trivial,fun g3 => ?_,fun g3=>hlast ?_⟩
       . refine⟨⟨by omega,by omega⟩,⟨by omega,by omega⟩,⟨by omega,by omega⟩,⟨by omega,by omega⟩,⟨by omega,by omega⟩,⟨by omega,by rw [List.length_set]; omega⟩,⟨by omega,by omega⟩,⟨(j,L2),⟨⟨by omega,by omega,?_,?_⟩,by omega⟩,?_⟩⟩
         . rw [<- hL2,Ja]; exact p3
         . rw [hne,cond_false,decide_eq_true g2',Bool.true_and] at hdown;have g3':Vc (p.2.getD p.1 Tc.stowed.dflt) (p.2.getD j Tc.stowed.dflt)=true:=by rw [<- hj]; exact decide_eq_true g3
           rw [g3',cond_true] at hdown;rw [<- hdown];exact p4
         . conv=>arg 1; cbv
           simp (maxSteps:=4000000) only [fms];refine⟨by omega,?_⟩;rw [<- hL2,hj,hj2];rfl
       . rw [hdown,hne,cond_false];have g3':Vc (p.2.getD p.1 Tc.stowed.dflt) (p.2.getD j Tc.stowed.dflt)=false:=by rw [<- hj]; exact decide_eq_false g3
         rw [g3',Bool.and_false,cond_false]
     . have g2':decide (a<p.1)=false:=by simp; omega
       rw [hdown,g2',Bool.false_and,cond_false];cases decide (p.1=0)<;>rfl
 . simp (maxSteps:=4000000) only [fms];have g1':¬ a+1+n<b:=by simp only [decide_eq_false_iff_not,Z8] at g1; omega
   unfold Q46;rw [show b - (a+1)=n by omega]
end Go.Proofs.YtffeegebohigdaaGreat
