/-
  MomentTells: the law's functions tell true.
-/
import Derived.Test.YtffeegebohigdaaGreatMs26
import Derived.ProofKit
import Derived.SizedLaws
set_option linter.unusedVariables false
set_option linter.unusedSimpArgs false
set_option maxRecDepth 100000
set_option maxHeartbeats 4000000
namespace Go.Proofs.YtffeegebohigdaaGreat
open Go.RowKit
def Qab (s:Shp) (bs:List Box) (l:List Q0):Bool:=(((decide (s.cols.length<=40)&&decide (s.covs.length<=40))&&(decide (bs.length<=60)&&decide (l.length<=40)))&&((s.cols.all fun c=>decide (c.plugs.length<=20))&&(s.covs.all fun c=>decide (c.rows.length<=40))))&&decide (s.rows.length+s.frms.length+s.tnks.length<=200)
theorem Qw7 (s:Shp) (bs:List Box) (l:List Q0):Qab s bs l=true↔(((s.cols.length<=40/\s.covs.length<=40)/\bs.length<=60/\l.length<=40)/\(∀ j,j<s.cols.length->(s.cols.getD j Tc.col.dflt).plugs.length<=20)/\∀ j,j<s.covs.length->(s.covs.getD j Tc.cov.dflt).rows.length<=40)/\s.rows.length+s.frms.length+s.tnks.length<=200:=by
 unfold Qab;simp only [Bool.and_eq_true,decide_eq_true_eq,Q4m Tc.col.dflt,Q4m Tc.cov.dflt]
def Qso (s:Shp):Prop:=(s.rows.length<=140737488351232/\s.frms.length<=140737488351232/\s.tnks.length<=140737488351232)/\(∀ c∈s.cols,Q1 c.tiers)/\∀ c∈s.tnks,c.steps.length<=17592186043904
def Z1i:Con:=Q2r 30 Va Yw Gk (fun s _ _=>Qso (s ())) (fun s bs l => .bool fun _=>Qab (s ()) (bs ()) (l ()))
theorem Qzf:Q7 Tryz.prog Z1i:=by
 refine Kp { kp := [(0,[0,1,2]),(1,[1,2,3]),(2,[]),(3,[3]),(4,[3,32,33,34]),(5,[3,32,33,34]),(6,[3,8,32,33,34]),(7,[]),(8,[3,32,33,34]),(9,[3]),(10,[3,44,45,46]),(11,[3,44,45,46]),(12,[3,10,44,45,46]),(13,[]),(14,[3,44,45,46]),(15,[3])] } [] trivial [] trivial Tryz.func30 (by kernel_rfl) fun avs res h hp => ?_;obtain⟨(s:Shp),(bs:List Box),(l:List Q0),rfl,rfl⟩:=Q47 h;clear h;obtain⟨⟨hw1,hw2,hw3⟩,_⟩:Qso s:=hp;refine⟨[(4,Q23 34 s.cols fun j=>(s.cols.getD j Tc.col.dflt).plugs.length<=20),(10,Q23 46 s.covs fun j=>(s.covs.getD j Tc.cov.dflt).rows.length<=40)],?_⟩
 conv=>arg 1; cbv
 simp (maxSteps:=4000000) only [fms,true_and,and_true,eq_self];have hI:=Qw7 s bs l;have hF:(Qab s bs l=true->False)->false=Qab s bs l:=fun h=>by
  cases hB:Qab s bs l with
  | false=>rfl
  | true=>exact (h hB).elim
 refine⟨fun h=>hF fun q=>by have:=(hI.1 q).1.1.1.1; omega,fun a1=>⟨fun h=>hF fun q=>by have:=(hI.1 q).1.1.1.2; omega,fun a2=>⟨fun h=>hF fun q=>by have:=(hI.1 q).1.1.2.1; omega,fun a3=>⟨fun h=>hF fun q=>by have:=(hI.1 q).1.1.2.2; omega,fun a4=>⟨⟨⟨Nat.zero_le _,fun j hj=>absurd hj (Nat.not_lt_zero _)⟩,rfl⟩,fun (k:Nat) hk => ?_⟩⟩⟩⟩⟩;have hZhk1:k<=s.cols.length/\∀ j,j<k->(s.cols.getD j Tc.col.dflt).plugs.length<=20:=hk;have hk1:=hZhk1.1;have hk2:=hZhk1.2
 conv=>arg 1; cbv
 simp (maxSteps:=4000000) only [fms,true_and,and_true,eq_self];refine⟨fun g=>⟨⟨by omega,by omega⟩,fun c=>hF fun q=>by have:=(hI.1 q).1.2.1 k (by omega); omega,fun c=>Yr (n:=s.cols.length) (P:=fun j=>(s.cols.getD j Tc.col.dflt).plugs.length<=20) (by omega) (by omega) hk2 (by omega)⟩,fun g=>⟨⟨⟨Nat.zero_le _,fun j hj=>absurd hj (Nat.not_lt_zero _)⟩,rfl⟩,fun (i:Nat) hi => ?_⟩⟩;have hZhi1:i<=s.covs.length/\∀ j,j<i->(s.covs.getD j Tc.cov.dflt).rows.length<=40:=hi;have hi1:=hZhi1.1;have hi2:=hZhi1.2
 conv=>arg 1; cbv
 simp (maxSteps:=4000000) only [fms,true_and,and_true,eq_self];refine⟨fun g=>⟨⟨by omega,by omega⟩,fun c=>hF fun q=>by have:=(hI.1 q).1.2.2 i (by omega); omega,fun c=>Yr (n:=s.covs.length) (P:=fun j=>(s.covs.getD j Tc.cov.dflt).rows.length<=40) (by omega) (by omega) hi2 (by omega)⟩,fun g=>⟨by simp only [Q1]; omega,by simp only [Q1]; omega,?_⟩⟩;have hQ:=fun (q:s.rows.length+s.frms.length+s.tnks.length<=200)=>hI.2 ⟨⟨⟨⟨by omega,by omega⟩,by omega,by omega⟩,fun j hj=>hk2 j (by omega),fun j hj=>hi2 j (by omega)⟩,q⟩
 cases hB:Qab s bs l with
 | true =>
  have:=(hI.1 hB).2;exact decide_eq_true (by omega)
 | false =>
  refine decide_eq_false fun q => ?_;have:=hQ (by omega);rw [hB] at this;cases this
def Qb4 (s:Shp) (bs:List Box):Prop:=Qso s/\∀ b∈bs,b.num.size<=140737488351232/\Q1 b.size
theorem Z6f {s:Shp} {bs:List Box} {l:List Q0} (h:Qab s bs l=true) (hp:Qb4 s bs):Q30 s/\Q2q s bs l/\bs.length<=60/\l.length<=40:=by
 obtain⟨⟨⟨⟨h1,h2⟩,h3,h4⟩,h5,h6⟩,h7⟩:=(Qw7 s bs l).1 h;obtain⟨⟨⟨w1,w2,w3⟩,w4,w5⟩,w6⟩:=hp;have hc:∀ c∈s.cols,c.plugs.length<=20:=fun c hc=>by
  obtain⟨j,hj,rfl⟩:=List.getElem_of_mem hc;have:=h5 j hj;rwa [List.getD_eq_getElem?_getD,List.getElem?_eq_getElem hj] at this
 have hv:∀ c∈s.covs,c.rows.length<=40:=fun c hc=>by
  obtain⟨j,hj,rfl⟩:=List.getElem_of_mem hc;have:=h6 j hj;rwa [List.getD_eq_getElem?_getD,List.getElem?_eq_getElem hj] at this
 refine⟨⟨⟨by omega,fun c hm=>by have:=hc c hm; omega⟩,⟨by omega,fun c hm=>by have:=hv c hm; omega⟩,by omega,by omega,by omega,w5⟩,⟨⟨fun c hm=>⟨by have:=hc c hm; omega,w4 c hm⟩,fun c hm=>by have:=hv c hm; omega⟩,⟨⟨by omega,fun b hb=>(w6 b hb).1⟩,fun b hb=>(w6 b hb).2⟩,by omega⟩,h3,h4⟩
def Qry:Con:=Q63 8 Va Yw Gk kI (fun s bs _ _=>Qb4 (s ()) (bs ())) (fun _ _ _ _ => .blit true)
theorem Qtr:Q7 Tryz.prog Qry:=by
 refine Kp { kp := [(0,[0,1,2,3]),(1,[1,2,3,4]),(2,[]),(3,[1,2,3,4]),(4,[1,2,3,4,9,10,11]),(5,[1,2,3,4,9,10,11,12,13,14,15]),(6,[1,2,4,9,10,11,12,13,14,15,16,17,18,19]),(7,[1,2,4,9,10,11,12,13,14,15,16,17,18,19,20,21]),(8,[1,2,4,9,10,11,12,13,14,15,16,17,18,19,20,21,22,23]),(9,[1,2,4,9,10,11,12,13,14,15,16,17,18,19,20,21,22,23,24,25]),(10,[1,2,4,9,10,11,12,13,14,15,16,17,18,19,20,21,22,23,24,25,26,27]),(11,[]),(12,[1,2,4,9,10,11])],lt := [] } [Z1i,Qgl,Qdk,Q9r,Qek,Qjo,Qgt,Qnn,Qq6,Qo8,Qfl,Qe0,Qa2] ⟨Qzf,Qlh,Qik,Qfd,Qcy,Qp5,Qfo,Qt3,Qtn,Qrj,Qly,Qi9,Qfi,trivial⟩ [] trivial Tryz.func8 (by kernel_rfl) fun avs res h hp => ?_;obtain⟨(s:Shp),(bs:List Box),(l:List Q0),(id:Int),rfl,rfl⟩:=Q8t h;clear h;have hp':Qb4 s bs:=hp;clear hp;refine⟨[],?_⟩
 conv=>arg 1; cbv
 simp (maxSteps:=4000000) only [fms,true_and,and_true,eq_self];have es:(⟨s.cols,s.covs,s.lk,s.lx,s.ly,s.lz,s.rows,s.frms,s.tnks,s.m1,s.m2,s.m3,s.m4⟩:Shp)=s:=rfl;have eb:=Qg9 s;unfold Qkb at eb;simp only [es,eb,List.take_left];simp only [show (Q5d s).lk=s.lk from rfl,show (Q5d s).lx=s.lx from rfl,show (Q5d s).ly=s.ly from rfl,show (Q5d s).lz=s.lz from rfl];refine⟨hp'.1,fun _=>trivial,fun hf => ?_⟩;have hf':Qab s bs l=true:=by simpa using hf
 obtain⟨q1,q2,q3,q4⟩:=Z6f hf' hp';have q5:Vg s/\Jm bs/\l.length<=40:=⟨q2.1,q2.2.1.1,q4⟩
 refine⟨q1,by omega,by omega,q5,q2,q5,q2,?_⟩;simp;exact⟨q1,by omega,by omega⟩
def Qqg:Con:=Yd 45 kLd (fun _=>True) (fun _ => .blit true)
theorem Quo:Q7 Tryz.prog Qqg:=by
 refine Qp [Qmd,Qo0,Qn5,Q6o] ⟨Qki,Qsj,Qqf,Q5s,trivial⟩ Tryz.func45 (by kernel_rfl) fun avs res h hp => ?_;obtain⟨(x:Ld),rfl,rfl⟩:=Yk h;clear h;refine⟨[],?_⟩
 conv=>arg 1; cbv
 simp (maxSteps:=4000000) only [fms];simp [Q7q]
def Qs2:Con:=Z37 9 Z3c kI kI kI kI (fun _ _ _ _ _=>True) (fun _ _ _ _ _ => .blit true)
def Z57 (l:List Ld):Lp where
 X:=Nat
 ov k := [(30,.int .i64 fun _=>(k:Int)),(11,.own 0)]
 oe k := [(0,.row true .ld 103 fun _=>l.take k)]
 I k:=k<=l.length
 μ k _:=l.length - k
 x0:=0
 nx:=some fun k=>k+1
def Z7p (n:Nat):Lp where
 X:=Nat
 ov k := [(91,.int .i64 fun _=>(k:Int))]
 oe _ := []
 I k:=k<=n
 μ k _:=n - k
 x0:=0
 nx:=some fun k=>k+1
theorem Z4n {α:Type} {l m:List α} {k:Nat} {d : α} (h:k<l.length):(l++m).getD k d=l.getD k d:=by
 rw [List.getD_eq_getElem?_getD,List.getD_eq_getElem?_getD,List.getElem?_append_left h]
theorem Qux:Q7 Tryz.prog Qs2:=by
 refine Qp [Q8f,Qb5,Qll,Qro,Qqg] ⟨Q7d,Qc4,Qih,Quh,Quo,trivial⟩ Tryz.func9 (by kernel_rfl) fun avs res h hp => ?_;obtain⟨(l:List Ld),(k:Int),(x:Int),(y:Int),(z:Int),rfl,rfl⟩:=Z9q h;clear h;refine Qc (l.length+1) fun n hn => ?_;refine⟨[(5,Z57 l),(17,Z7p n)],?_⟩
 conv=>arg 1; cbv
 refine⟨fun g => ?_,fun g => ?_⟩
 . simp (maxSteps:=4000000) only [fms]
 have hl:l.length<=40:=by
  have g':decide (40<(l.length:Int))=false:=g;simp only [decide_eq_false_iff_not] at g';omega
 clear g;refine⟨?_,fun (j:Nat) hj => ?_⟩
 . simp (maxSteps:=4000000) only [fms];exact⟨Nat.zero_le _,rfl,rfl⟩
 have hj':j<=l.length:=hj;clear hj
 conv=>arg 1; cbv
 refine⟨fun g => ?_,fun g => ?_⟩
 . simp (maxSteps:=4000000) only [fms];simp only [Q7q];have hlt:j<l.length:=by
    have g':decide ((j:Int)<(l.length:Int))=true:=g;simp only [decide_eq_true_eq] at g';omega
   rw [Gp Tc.ld.dflt hlt];exact⟨by omega,by simp; omega,⟨by omega,by omega⟩,⟨hlt,by omega⟩,by omega,rfl⟩
 have hge:l.length<=j:=by
  have g':decide ((j:Int)<(l.length:Int))=false:=g;simp only [decide_eq_false_iff_not] at g';omega
 clear g;have hT:l.take j=l:=List.take_of_length_le hge;refine Qc (Kr k x y z).1 fun a ha => ?_;simp (maxSteps:=4000000) only [fms];simp only [hT,Q7q,ha,List.nil_append,decide_true,Bool.not_true,Bool.false_eq_true,false_implies,true_implies,true_and];refine⟨by simp; omega,by omega,by omega,by simp; omega,⟨by omega,rfl⟩,fun (q:Nat) hq => ?_⟩;have hq':q<=n:=hq;clear hq
 conv=>arg 1; cbv
 simp (maxSteps:=4000000) only [fms];have hlen:(l ++ [a]).length=n:=by rw [<- hn]; simp
 rw [hlen];refine⟨fun h1=>⟨⟨by omega,h1⟩,fun h2 => ?_,fun h2=>⟨trivial,⟨by omega,by omega⟩,⟨by omega,by omega⟩,by omega⟩⟩,fun _=>trivial⟩;have hlt:q<l.length:=by omega
 simp only [Z4n hlt,decide_true,Bool.not_true,Bool.false_eq_true,false_implies,true_implies,true_and];exact⟨⟨by omega,h2⟩,⟨by omega,by omega⟩,⟨by omega,by omega⟩,by omega⟩
def Z9l:Lp where
 X:=Nat
 ov k := [(5,.int .i64 fun _=>(k:Int) - 1)]
 oe _ := []
 I k:=k<=6
 μ k _:=6 - k
 x0:=0
 nx:=some fun k=>k+1
def Z75 (s:Nat):Lp where
 X:=Nat
 ov k := [(s,.int .i64 fun _=>(k:Int))]
 oe _ := []
 I k:=k<=13
 μ k _:=13 - k
 x0:=0
 nx:=some fun k=>k+1
def tpB (s:Shp) (bs:List Box):Bool:=(decide (s.rows.length<=3)&&(decide (s.frms.length<=3)&&decide (s.tnks.length=0)))&&((s.cols.all fun c=>decide (0<=c.tiers)&&decide (c.tiers<=100))&&bs.all fun b=>decide (b.num.size<=100)&&(decide (0<=b.size)&&decide (b.size<=255)))
theorem Z51 {s:Shp} {bs:List Box} (h:tpB s bs=true):Qb4 s bs:=by
 unfold tpB at h;simp only [Bool.and_eq_true,decide_eq_true_eq,List.all_eq_true] at h;obtain⟨⟨h1,h2,h3⟩,h4,h5⟩:=h;have e:s.tnks = []:=List.eq_nil_of_length_eq_zero h3;refine⟨⟨⟨by omega,by omega,by omega⟩,fun c hc => ?_,fun c hc => ?_⟩,fun b hb => ?_⟩
 . have:=h4 c hc;simp only [Q1];omega
 . rw [e] at hc;cases hc
 . have:=h5 b hb;refine⟨by omega,?_⟩;simp only [Q1];omega
theorem Z9f {j:Nat} (h:j<=6):IntKind.i64.wrap ((j:Int) - 1+1)=((j+1:Nat):Int) - 1:=(Vk (by simp only [Q1]; omega)).trans (by omega)
theorem Z4x {j:Nat} (h:j<=1000):IntKind.i64.wrap ((j:Int)+1)=((j+1:Nat):Int):=(Vk (by simp only [Q1]; omega)).trans (by omega)
def Qls:Con:=Qyp 3 (True) (.bool fun _=>true)
theorem Qff:Q7 Tryz.prog Qls:=by
 refine Z8y { kp := [(0,[]),(1,[]),(2,[1]),(3,[1]),(4,[1]),(5,[1,2,3,4]),(6,[1,2,3,4,26]),(7,[1,2,3,4,26]),(8,[1,2,3,4,26]),(9,[1,2,3,4]),(10,[1,2,3,4,26]),(11,[1,2,3,4]),(12,[1,2,3,4,26]),(13,[1,2,3,4]),(14,[1,2,3,4,26]),(15,[1,2,3,4]),(16,[1,2,3,4,26]),(17,[1,2,3,4]),(18,[1,2,3,4,26]),(19,[1,2,3,4]),(20,[1,2,3,4,26]),(21,[1,2,3,4]),(22,[1,2,3,4,26]),(23,[1,2,3,4]),(24,[1,2,3,4,26]),(25,[1,2,3,4]),(26,[1,2,3,4,26]),(27,[1,2,3,4]),(28,[1,2,3,4,26]),(29,[1,2,3,4]),(30,[1,2,3,4,26]),(31,[1,2,3]),(32,[1,2,3,4,26]),(33,[1,2,3,4]),(34,[1,2,3,4]),(35,[1,2,3,4,5]),(36,[1,2,3,4,5]),(37,[1,2,3,4,5]),(38,[]),(39,[]),(40,[6]),(41,[6,122,123,124]),(42,[6,122,123,124]),(43,[6,7,8,122,123,124]),(44,[6,7,8,122,123,124,129,130,131]),(45,[6,7,8,122,123,124,129,130,131]),(46,[6,7,8,9,10,122,123,124,129,130,131]),(47,[6,7,8,10,11,12,122,123,124,129,130,131]),(48,[6,7,8,10,11,12,13,122,123,124,129,130,131]),(49,[6,7,8,10,11,12,13,122,123,124,129,130,131]),(50,[6,7,8,10,11,12,13,16,122,123,124,129,130,131]),(51,[]),(52,[6,7,8,122,123,124,129,130,131]),(53,[6,122,123,124]),(54,[])],lt := [(9,⟨[0,1,2,3,4,5,6,7,8],[0,1,2,3,4,5,6],[7,8],[],[]⟩),(33,⟨[0,1,2,3,4,5,6,7,8,9,10,11],[0,1,2,3,4,5,6,7,8],[9,10,11],[],[]⟩),(46,⟨[0,1,2,3,4,5,6,7,8,9,10,11,12,13,14,15,16,17,18,19,20],[0,1,2,3,4,5,6,7,8,9,10,11,12,13,14,15,16,17,18,19,20],[],[],[]⟩)],fz := [(25,[81])],ul := [2],ct := [34,46] } [(3,⟨1,.intw,[.lit .i64 0],[]⟩)] (by kernel_rfl) [Qry,Qs2,Qrh] ⟨Qtr,Qux,Quy,trivial⟩ [Qf5] ⟨Ql7,trivial⟩ Tryz.func3 (by kernel_rfl) fun avs res h hp => ?_;obtain⟨rfl,rfl⟩:=Z82 h;clear h;refine⟨[(35,Z9l),(41,Z75 124),(44,Z75 131)],?_⟩
 conv=>arg 1; cbv
 simp (maxSteps:=4000000) only [fms,true_and,and_true,eq_self]
 iterate 16
  (first|refine fun _ _ => ?_|refine⟨by decide,fun _ _ => ?_⟩|refine⟨by decide,by decide,fun _ _ => ?_⟩|refine⟨by decide,by decide,by decide,fun _ _ => ?_⟩|refine⟨by decide,by decide,by decide,by decide,fun _ _ => ?_⟩)
  conv=>arg 1; cbv
  simp (maxSteps:=4000000) only [fms,true_and,and_true,eq_self];refine⟨⟨by omega,rfl⟩,fun (j:Nat) hj => ?_⟩;have hj':j<=6:=hj;clear hj
  conv=>arg 1; cbv
  simp (maxSteps:=4000000) only [fms,true_and,and_true,eq_self];refine⟨fun g=>⟨Z51 rfl,⟨by omega,by omega⟩,Z9f hj'⟩,fun g => ?_⟩;clear g hj'
 refine⟨⟨by omega,rfl⟩,fun (i:Nat) hi => ?_⟩;have hi':i<=13:=hi;clear hi
 conv=>arg 1; cbv
 simp (maxSteps:=4000000) only [fms,true_and,and_true,eq_self];refine⟨fun g => ?_,fun g => ?_⟩
 rotate_left
 . trivial
 refine⟨⟨by omega,g⟩,⟨by omega,rfl⟩,fun (k:Nat) hk => ?_⟩;have hk':k<=13:=hk;clear hk
 conv=>arg 1; cbv
 simp (maxSteps:=4000000) only [fms,true_and,and_true,eq_self];refine⟨fun g2 => ?_,fun g2 => ?_⟩
 rotate_left
 . simp only [List.length_cons,List.length_nil] at g g2;exact⟨⟨by omega,by omega⟩,Z4x (by omega)⟩
 refine⟨⟨by omega,g2⟩,fun _ _ => ?_⟩
 conv=>arg 1; cbv
 simp (maxSteps:=4000000) only [fms,true_and,and_true,eq_self];simp only [List.length_cons,List.length_nil,Nat.reduceAdd] at g g2 ⊢;have w0:IntKind.i64.wrap (2*(k:Int))=2*(k:Int):=Vk (by simp only [Q1]; omega);have w1:IntKind.i64.wrap ((i:Int)+(k:Int))=(i:Int)+(k:Int):=Vk (by simp only [Q1]; omega);have w2:IntKind.i64.wrap ((i:Int)+2*(k:Int))=(i:Int)+2*(k:Int):=Vk (by simp only [Q1]; omega);have t:∀ n:Int,0<=n->0<=n.tmod ((13:Nat):Int)/\n.tmod ((13:Nat):Int)<((13:Nat):Int):=fun n h=>by rw [Int.tmod_eq_emod_of_nonneg h]; omega
 simp only [w0,w1,w2];exact⟨by omega,t _ (by omega),by omega,t _ (by omega),Z51 rfl,⟨by omega,by omega⟩,Z4x (by omega)⟩
open Go.ChangeShapes Go.Deep Go.WideShapes
theorem Qp4 {H:Type} {enc:TypeId×Value->H} {P:Program} (hl:laidOutB P=true) {W W':World} (hb:Below W.heap.size W W'):∀ {ts:List TypeId} {vs:List Value} {ds:List (DataW H)} {ps:List MemPlace},(ts.all fun t=>P.readableRec t&&decide (t<P.types.size))=true ->
 DataW.TrodAll enc P W 0 (fun _=>true) true ts vs ds ps->(∀ x∈ps,x.block<W.heap.size)->DataW.TrodAll enc P W' 0 (fun b=>decide (b<W.heap.size)) true ts vs ds ps
 | [],vs,ds,ps,_,h,_=>by
  obtain⟨rfl,rfl,rfl⟩:=trodAll_nil h;exact trodAll_mk0
 | t::ts,vs,ds,ps,ht,h,hlt=>by
  obtain⟨v,vs',d,ds',p,q,rfl,rfl,rfl,hd,hr⟩:=trodAll_cons h;simp only [List.all_cons,Bool.and_eq_true,decide_eq_true_eq] at ht;exact⟨p,q,Below.trod hl ht.1.1 ht.1.2 hd hb (fun x hx=>hlt x (List.mem_append_left _ hx)),Qp4 hl hb (by simpa using ht.2) hr (fun x hx=>hlt x (List.mem_append_right _ hx)),rfl⟩
theorem Tryz.own:ownKnob Tryz.prog.godebug=none:=by kernel_rfl
theorem Tryz.laidOut:laidOutB Tryz.prog=true:=by kernel_rfl
section
variable {H:Type} {enc:TypeId×Value->H} {P:Program} {w:World} {base:Nat} {held:Bool}
end
section
variable {H:Type} {enc:TypeId×Value->H} {w:World} {base:Nat} {spare:Nat->Bool} {held:Bool}
end
section
variable {H:Type} {enc:TypeId×Value->H} {P:Program} {w:World} {held:Bool} {tc:List (Nat×Tc)}
def Qxf (w:World):Nat->Prop:=fun b=>b<w.heap.size
section
variable {b0 m:Nat} {r:Reach} {T:TypeId} {v:Value} {y:DataW H×List MemPlace}
end
end
theorem Z7d {c:Con} {res:Res} {avs:List AV} (hc:Q7 Tryz.prog c) (hgo:c.go avs=some res) (hav:res.av = .bool fun _=>true) {W:World} {vals:List Value} (hE:Qj W (fun _=>none) 0 (Qxf W) avs vals) (hpre:res.pre ()):Calls Tryz.prog c.f vals.toArray W fun e w'=>e = .returned (.bool true)/\Below W.heap.size W w' :=
 (hc.2 avs res hgo W (Qxf W) vals (fun _ h=>h) hE hpre).mono fun e w' ⟨v,h1,h2,h3⟩=>by
  rw [hav] at h3;rw [h1,h3.bool_];exact⟨rfl,h2⟩
end Go.Proofs.YtffeegebohigdaaGreat
