/-
  trim by the abstract run: Right, dry, floats, State, Faults.
-/
import Derived.Test.YtlpikgchnjajmaaGreatTp36
import Derived.Test.YtlpikgchnjajmaaGreatTp38
set_option linter.all false
set_option maxRecDepth 100000
set_option maxHeartbeats 4000000
namespace Go.Proofs.YtlpikgchnjajmaaGreat
open Go.RowKit
def Dv(s:aZ):Prop:=p7 s/\s.rows.length<=1000000000000/\s.aM.length<=1000000000000
def agv:aH:=dU 36 ou (fun s=>Dv (s ())) (fun s => .bool fun _=>mW (s ()))
theorem avN:aK Tryz.prog agv:=by
 refine eE { kp := [(0,[0]),(1,[1]),(2,[1,16,17,18]),(3,[1,16,17,18]),(4,[1,4,16,17,18]),(5,[]),(6,[1,16,17,18]),(7,[1]),(8,[1,6])],lt := [],ul := [2],ct := [2,7] } [UD,SB,U3,Mt] ⟨afk,ab7,af6,UA,trivial⟩ [] trivial Tryz.func36 (by kernel_rfl) fun ai res h hp => ?_;obtain⟨(s:aZ),rfl,rfl⟩:=eu h;clear h;have dZ:p7 s/\s.rows.length<=1000000000000/\s.aM.length<=1000000000000:=hp;have h1:=dZ.1;have h2:=dZ.2.1;have h3:=dZ.2.2;refine⟨[],?_⟩
 conv=>arg 1; cbv
 simp (maxSteps:=4000000) only [aB,aR,aS,bw];have hL:mW s=true->(0<=s.m2/\s.m2<=1000000)/\(0<=s.m3/\s.m3<=1000000)/\0<=s.m4/\s.m4<=1000000:=fun h=>by
  exact agw
 have hF:(((0<=s.m2/\s.m2<=1000000)/\(0<=s.m3/\s.m3<=1000000)/\0<=s.m4/\s.m4<=1000000)->False)->false=mW s:=fun h=>by
  cases hB:mW s with
  | false=>rfl
  | true=>exact (h (hL hB)).elim
 refine fun _ _ => ?_
 conv=>arg 1; cbv
 simp (maxSteps:=4000000) only [aB,aR,aS,bw];refine⟨fun _=>⟨⟨by decide,by simp⟩,fun c=>hF fun q=>by have:s.m2<0:=c; omega,fun c2=>⟨fun c=>hF fun q=>by have:1000000<s.m2:=c; omega,fun d2 => ?_⟩⟩,fun c=>(c (by simp)).elim⟩;refine fun _ _ => ?_
 conv=>arg 1; cbv
 simp (maxSteps:=4000000) only [aB,aR,aS,bw];refine⟨fun _=>⟨⟨by decide,by simp⟩,fun c=>hF fun q=>by have:s.m3<0:=c; omega,fun c3=>⟨fun c=>hF fun q=>by have:1000000<s.m3:=c; omega,fun d3 => ?_⟩⟩,fun c=>(c (by simp)).elim⟩;refine fun _ _ => ?_
 conv=>arg 1; cbv
 simp (maxSteps:=4000000) only [aB,aR,aS,bw];refine⟨fun _=>⟨⟨by decide,by simp⟩,fun c=>hF fun q=>by have:s.m4<0:=c; omega,fun c4=>⟨fun c=>hF fun q=>by have:1000000<s.m4:=c; omega,fun d4 => ?_⟩⟩,fun c=>(c (by simp)).elim⟩;refine fun _ _ => ?_
 conv=>arg 1; cbv
 simp (maxSteps:=4000000) only [aB,aR,aS,bw];refine⟨fun c=>absurd c (by simp),fun _ => ?_⟩;refine fun _ _ => ?_
 conv=>arg 1; cbv
 simp (maxSteps:=4000000) only [aB,aR,aS,bw];have es:(⟨s.aE,s.dh,s.lk,s.lx,s.ly,s.lz,s.rows,s.uZ,s.aM,s.m1,s.m2,s.m3,s.m4⟩:aZ)=s:=rfl;simp only [es];have a2:¬s.m2<0:=c2;have a3:¬s.m3<0:=c3;have a4:¬s.m4<0:=c4;have b2:¬1000000<s.m2:=d2;have b3:¬1000000<s.m3:=d3;have b4:¬1000000<s.m4:=d4;have hl:Dj s=true:=by
  unfold Dj;rw [c8 (show 0<=s.m2/\s.m2<=1000000 from oo),c8 (show 0<=s.m3/\s.m3<=1000000 from oo),c8 (show 0<=s.m4/\s.m4<=1000000 from oo)];rfl
 unfold mW;rw [hl,dL];refine⟨fun h0 => ?_,fun h0=>by rw [gw h0]; rfl⟩;rw [c8 h0,dL];refine⟨h1,fun h5 => ?_,fun h5=>by rw [h5]; rfl⟩;rw [h5,dL];exact⟨h2,fun h6=>⟨h3,by rw [h6]; rfl⟩,fun h6=>by rw [h6]; rfl⟩
def U6:aH:=uY 76 ou pZ u2 nu (fun s bs l w=>(Dv (s ())/\vi (bs ()))/\(l ()).length<=40/\(w ()).length<=1000000000000) (fun s bs l w => .aU [.agg (u0 fun _=>(gM (s ()) (bs ()) (l ()) (w ())).1),.int .i64 fun _=>(gM (s ()) (bs ()) (l ()) (w ())).2])
theorem agx:aK Tryz.prog U6:=by
 refine eE { kp := [(0,[0,1,2,3]),(1,[1,2,3,4,8]),(2,[8]),(3,[1,2,4,8]),(4,[4,8,10,11]),(5,[8]),(6,[4,8,10]),(7,[8,10,12])],lt := [] } [agv,Hf,afi,UD,Gl] ⟨avN,Mu,auk,afk,Lq,trivial⟩ [] trivial Tryz.func76 (by kernel_rfl) fun ai res h hp => ?_;obtain⟨(s:aZ),(bs:List aJ),(l:List ay),(w:List Int),rfl,rfl⟩:=yN h;clear h;obtain⟨⟨h1,h2⟩,h3,h4⟩:(Dv s/\vi bs)/\l.length<=40/\w.length<=1000000000000:=hp;refine⟨[],?_⟩
 conv=>arg 1; cbv
 simp (maxSteps:=4000000) only [aB,aR,aS,bw];have es:(⟨s.aE,s.dh,s.lk,s.lx,s.ly,s.lz,s.rows,s.uZ,s.aM,s.m1,s.m2,s.m3,s.m4⟩:aZ)=s:=rfl;simp only [es,xm];have hD:(mW s=true->dR s.aM w=true->False)->gM s bs l w=(dA,2):=fun h=>by
  unfold gM;rw [ar];intro q;rw [au] at q;exact h q.1 q.2
 refine⟨h1,fun c => ?_,fun c1=>⟨⟨h1.2.2,h4⟩,fun c => ?_,fun c2=>⟨⟨h1.1,h2,h3⟩,fun c => ?_,fun c3=>⟨by simp only [c9,fE]; omega,?_⟩⟩⟩⟩
 . rw [hD fun q _=>by rw [q] at c; cases c];exact⟨rfl,rfl,rfl,rfl,rfl⟩
 . rw [hD fun _ q=>by rw [q] at c; cases c];exact⟨rfl,rfl,rfl,rfl,rfl⟩
 . have g1:mW s=true:=by simpa using c1
   have g2:dR s.aM w=true:=by simpa using c2
   have g3:(rk s bs l).2≠0:=by simpa using c
   have e:gM s bs l w=(dA,2):=by
    unfold gM;rw [g1,g2,zs,aw rfl,aw g3]
   rw [e];exact⟨rfl,rfl,rfl,rfl,rfl⟩
 . have g1:mW s=true:=by simpa using c1
   have g2:dR s.aM w=true:=by simpa using c2
   have g3:(rk s bs l).2=0:=by simpa using c3
   have e:gM s bs l w=dY [(nL s.lk s.lx s.ly s.lz).1,(rk s bs l).1]:=by
    unfold gM;rw [g1,g2,zs,aw rfl,ar (fun q=>q g3)]
   rw [e];exact⟨rfl,rfl,rfl,rfl,rfl⟩
def agy(f:Unit->mg):List AV := .int .i64 (fun _=>(f ()).af)::(kj (fun _=>(f ()).dr)++(kj (fun _=>(f ()).tr)++(kj (fun _=>(f ()).de)++(kj (fun _=>(f ()).y)++kj fun _=>(f ()).st))))
theorem agz:∀ (l:List Ld) (s:Ld),(∀ x∈l,cC x=true)->cC s=true->(pd s l).2=0->cC (pd s l).1=true
 | [],s,_,h,_=>h
 | x::l,s,h,hs,h0=>by
  unfold pd at h0 ⊢;split at h0
  . rename_i c;rw [aw c];refine agz l (s.add x) (fun y hy=>h y (.tail _ hy)) ?_ h0;have a:=yP hs;have b:=yP (h x (.head _));have k:=r7.1 c;refine Gi ⟨k,?_,?_,?_⟩<;>(show -((s.af+x.af)*1100000)<=_+_/\_+_<=(s.af+x.af)*1100000)<;>omega
  . cases h0
theorem avO{l:List Ld}(h:(dY l).2=0):cC (dY l).1=true:=by
 unfold dY at h ⊢;split at h
 . cases h
 . rename_i c;rw [ar c];refine agz l dA (fun x hx => ?_) (by decide) h
   cases hb:cC x with
   | true=>rfl
   | false =>
    exact absurd (Np.2 ⟨x,hx,by unfold xa; rw [hb]; rfl⟩) c
theorem avP(l:List bX)(w:List Int):0<=(kR l w).1/\(kR l w).1<=30000000000000:=by
 unfold kR;split
 . rename_i c;have h0:=((gW l w).1 c).1;have h1:=MP h0 w l.length (Nat.le_refl _);have h2:=((lI l).1 h0).1;dsimp only;omega
 . exact⟨by decide,by decide⟩
theorem agA(l:List cX)(k:Int):((fQ l k).1.dr.fits/\(fQ l k).1.bu.fits)/\(fQ l k).1.mc.fits/\(fQ l k).1.tu.fits:=by
 unfold fQ;split
 . split
   . exact⟨⟨xz _ _,xz _ _⟩,xz _ _,xz _ _⟩
   . exact⟨⟨jC,jC⟩,jC,jC⟩
 . exact⟨⟨jC,jC⟩,jC,jC⟩
def U7:aH:=lE 77 ou yO nu (fun s _ w=>Dv (s ())/\(w ()).length<=1000000000000) (fun s l w => .aU [.agg (agy fun _=>(kS (s ()) (l ()) (w ())).1),.int .i64 fun _=>(kS (s ()) (l ()) (w ())).2])
theorem agB:aK Tryz.prog U7:=by
 refine eE { kp := [(0,[0,1,2]),(1,[2,3,4,6]),(2,[2,3,4,6,8,9]),(3,[6,9]),(4,[2,3,4,6,8]),(5,[2,3,4,6,9]),(6,[6,9]),(7,[2,3,4,6]),(8,[2,3,4,6,9,10]),(9,[6,9]),(10,[2,3,4,6,10]),(11,[4,6,10,11]),(12,[4,6,10,11,13]),(13,[4,6,10,13,15]),(14,[4,6,10,13,15,17]),(15,[6,10,13,15,17,18]),(16,[6,10,13,15,18]),(17,[6,10,13,15,18]),(18,[6,18])],lt := [(13,⟨[0,3,6,1,2,4,5,7,8,9,10,11,12,13,14,15,16,17],[0,3,6],[],[⟨[0,1,2],[4,6,10,13,15,17,72,73,74,75,76,77,78,79,80,81,82,83,84,85,86,87],(0,0),[(3,1,1),(5,4,2),(7,7,3),(16,16,4)]⟩,⟨[0,1,2,3],[4,6,10,13,15,17,73,74,75,76,77,78,79,80,81,82,83,84,85,86,87],(0,1),[(4,2,5),(5,4,6),(7,7,7),(16,16,8)]⟩,⟨[0,1,2,5],[4,6,10,13,15,17,72,73,74,76,77,78,79,80,81,82,83,84,85,86,87],(0,4),[(3,1,6),(7,7,9),(16,16,10)]⟩,⟨[0,1,2,7],[4,6,10,13,15,17,72,73,74,75,76,77,79,80,81,82,83,84,85,86,87],(0,7),[(3,1,7),(5,4,9),(16,16,11)]⟩,⟨[0,1,2,16],[4,6,10,13,15,17,72,73,74,75,76,77,78,79,80,81,82,83,84,85,86,87],(0,16),[(3,1,8)]⟩,⟨[0,1,2,3,4],[4,6,10,13,15,17,74,75,76,77,78,79,80,81,82,83,84,85,86,87],(1,2),[(5,4,12),(7,7,13),(16,16,14)]⟩,⟨[0,1,2,3,5],[4,6,10,13,15,17,73,74,76,77,78,79,80,81,82,83,84,85,86,87],(1,4),[(4,2,12),(7,7,15),(16,16,16)]⟩,⟨[0,1,2,3,7],[4,6,10,13,15,17,73,74,75,76,77,79,80,81,82,83,84,85,86,87],(1,7),[(4,2,13),(5,4,15),(16,16,17)]⟩,⟨[0,1,2,3,16],[4,6,10,13,15,17,73,74,75,76,77,78,79,80,81,82,83,84,85,86,87],(1,16),[(4,2,14),(5,4,16),(7,7,17)]⟩,⟨[0,1,2,5,7],[4,6,10,13,15,17,72,73,74,76,77,79,80,81,82,83,84,85,86,87],(2,7),[(3,1,15),(16,16,18)]⟩,⟨[0,1,2,5,16],[4,6,10,13,15,17,72,73,74,76,77,78,79,80,81,82,83,84,85,86,87],(2,16),[(3,1,16)]⟩,⟨[0,1,2,7,16],[4,6,10,13,15,17,72,73,74,75,76,77,79,80,81,82,83,84,85,86,87],(3,16),[(3,1,17)]⟩,⟨[0,1,2,3,4,5],[4,6,10,13,15,17,74,76,77,78,79,80,81,82,83,84,85,86,87],(5,4),[(6,5,19),(7,7,20),(16,16,21)]⟩,⟨[0,1,2,3,4,7],[4,6,10,13,15,17,74,75,76,77,79,80,81,82,83,84,85,86,87],(5,7),[(5,4,20),(16,16,22)]⟩,⟨[0,1,2,3,4,16],[4,6,10,13,15,17,74,75,76,77,78,79,80,81,82,83,84,85,86,87],(5,16),[(5,4,21)]⟩,⟨[0,1,2,3,5,7],[4,6,10,13,15,17,73,74,76,77,79,80,81,82,83,84,85,86,87],(6,7),[(4,2,20),(16,16,23)]⟩,⟨[0,1,2,3,5,16],[4,6,10,13,15,17,73,74,76,77,78,79,80,81,82,83,84,85,86,87],(6,16),[(4,2,21),(7,7,23)]⟩,⟨[0,1,2,3,7,16],[4,6,10,13,15,17,73,74,75,76,77,79,80,81,82,83,84,85,86,87],(7,16),[(4,2,22),(5,4,23)]⟩,⟨[0,1,2,5,7,16],[4,6,10,13,15,17,72,73,74,76,77,79,80,81,82,83,84,85,86,87],(9,16),[(3,1,23)]⟩,⟨[0,1,2,3,4,5,6],[4,6,10,13,15,17,74,77,78,79,80,81,82,83,84,85,86,87],(12,5),[(7,7,24),(16,16,25)]⟩,⟨[0,1,2,3,4,5,7],[4,6,10,13,15,17,74,76,77,79,80,81,82,83,84,85,86,87],(12,7),[(6,5,24),(16,16,26)]⟩,⟨[0,1,2,3,4,5,16],[4,6,10,13,15,17,74,76,77,78,79,80,81,82,83,84,85,86,87],(12,16),[(6,5,25),(7,7,26)]⟩,⟨[0,1,2,3,4,7,16],[4,6,10,13,15,17,74,75,76,77,79,80,81,82,83,84,85,86,87],(13,16),[(5,4,26)]⟩,⟨[0,1,2,3,5,7,16],[4,6,10,13,15,17,73,74,76,77,79,80,81,82,83,84,85,86,87],(15,16),[(4,2,26)]⟩,⟨[0,1,2,3,4,5,6,7],[4,6,10,13,15,17,74,77,79,80,81,82,83,84,85,86,87],(19,7),[(8,8,27),(16,16,28)]⟩,⟨[0,1,2,3,4,5,6,16],[4,6,10,13,15,17,74,77,78,79,80,81,82,83,84,85,86,87],(19,16),[(7,7,28)]⟩,⟨[0,1,2,3,4,5,7,16],[4,6,10,13,15,17,74,76,77,79,80,81,82,83,84,85,86,87],(20,16),[(6,5,28)]⟩,⟨[0,1,2,3,4,5,6,7,8],[4,6,10,13,15,17,74,80,81,82,83,84,85,86,87],(24,8),[(9,9,29)]⟩,⟨[0,1,2,3,4,5,6,7,16],[4,6,10,13,15,17,74,77,79,80,81,82,83,84,85,86,87],(24,16),[(8,8,30)]⟩,⟨[0,1,2,3,4,5,6,7,8,9],[4,6,10,13,15,17,74,80,81,82,83,84,85,86,87],(27,9),[(10,10,31)]⟩,⟨[0,1,2,3,4,5,6,7,8,16],[4,6,10,13,15,17,74,80,81,82,83,84,85,86,87],(28,8),[(9,9,32)]⟩,⟨[0,1,2,3,4,5,6,7,8,9,10],[4,6,10,13,15,17,74,81,82,83,84,85,86,87],(29,10),[(11,11,33),(16,16,34)]⟩,⟨[0,1,2,3,4,5,6,7,8,9,16],[4,6,10,13,15,17,74,80,81,82,83,84,85,86,87],(30,9),[(10,10,34)]⟩,⟨[0,1,2,3,4,5,6,7,8,9,10,11],[4,6,10,13,15,17,74,83,84,85,86,87],(31,11),[(12,12,35),(16,16,36)]⟩,⟨[0,1,2,3,4,5,6,7,8,9,10,16],[4,6,10,13,15,17,74,81,82,83,84,85,86,87],(31,16),[(11,11,36)]⟩,⟨[0,1,2,3,4,5,6,7,8,9,10,11,12],[4,6,10,13,15,17,84,85,86,87],(33,12),[(13,13,37)]⟩,⟨[0,1,2,3,4,5,6,7,8,9,10,11,16],[4,6,10,13,15,17,74,83,84,85,86,87],(33,16),[(12,12,38)]⟩,⟨[0,1,2,3,4,5,6,7,8,9,10,11,12,13],[4,6,10,13,15,17,84,85,86,87],(35,13),[(14,14,39)]⟩,⟨[0,1,2,3,4,5,6,7,8,9,10,11,12,16],[4,6,10,13,15,17,84,85,86,87],(36,12),[(13,13,40)]⟩,⟨[0,1,2,3,4,5,6,7,8,9,10,11,12,13,14],[4,6,10,13,15,17,85,86,87],(37,14),[(15,15,41),(16,16,42)]⟩,⟨[0,1,2,3,4,5,6,7,8,9,10,11,12,13,16],[4,6,10,13,15,17,84,85,86,87],(38,13),[(14,14,42)]⟩,⟨[0,1,2,3,4,5,6,7,8,9,10,11,12,13,14,15],[4,6,10,13,15,17,87],(39,15),[(16,16,43)]⟩,⟨[0,1,2,3,4,5,6,7,8,9,10,11,12,13,14,16],[4,6,10,13,15,17,85,86,87],(39,16),[(15,15,43)]⟩,⟨[0,1,2,3,4,5,6,7,8,9,10,11,12,13,14,15,16],[4,6,10,13,15,17,87],(41,16),[]⟩],[17]⟩),(16,⟨[0,1,2,3,4,5,6,7,8,9,10,11,12,13,14,15],[0,1,2,3,4,5,6,7,8,9,10,11,12,13,14],[15],[],[]⟩),(17,⟨[0,1,2,3,4,5,6,7,8,9,10,11,12,13,14],[0,1,2,3,4,5,6,7,8,9,10,11,12,13],[14],[],[]⟩)],ct := [10,13,15,16,17] } [afg,Gl,agi,ago,agj,G6,A7,aer,Uk,aet,aeq,UY,ML] ⟨auh,Lq,avz,avE,avA,Mf,De,atp,aes,atq,ato,afX,U0,trivial⟩ [] trivial Tryz.func77 (by kernel_rfl) fun ai res h hp => ?_;obtain⟨(s:aZ),(l:Ld),(w:List Int),rfl,rfl⟩:=mO h;clear h;obtain⟨⟨h1,h2,h3⟩,h4⟩:Dv s/\w.length<=1000000000000:=hp;refine⟨[],?_⟩
 conv=>arg 1; cbv
 simp (maxSteps:=4000000) only [aB,aR,aS,bw];simp only [xm];have hz:∀ {F:mg×Int} {e:Int},F=(vy,e)->F.1.af=0/\F.1.dr=fH/\F.1.tr=fH/\F.1.de=fH/\F.1.y=fH/\F.1.st=fH/\F.2=e:=fun h=>by
  rw [h];exact⟨rfl,rfl,rfl,rfl,rfl,rfl,rfl⟩
 refine⟨⟨h3,h4⟩,fun c => ?_,fun c1=>⟨by simp only [c9,fE]; omega,fun c => ?_,fun c2=>⟨h2,fun c => ?_,fun c3 => ?_⟩⟩⟩
 . have g:(fD s.aM w).2≠0:=by simpa using c
   obtain⟨k,z1,z2,z3,z4,z5,z6⟩:=hz (F:=kS s l w) (by unfold kS; rw [aw g]);exact U8
 . have g1:(fD s.aM w).2=0:=by simpa using c1
   have g:(dY [l,(fD s.aM w).1]).2≠0:=by simpa using c
   obtain⟨k,z1,z2,z3,z4,z5,z6⟩:=hz (F:=kS s l w) (by unfold kS; rw [ar (fun q=>q g1),aw g]);exact U8
 . have g1:(fD s.aM w).2=0:=by simpa using c1
   have g2:(dY [l,(fD s.aM w).1]).2=0:=by simpa using c2
   have g:(fQ s.rows (dY [l,(fD s.aM w).1]).1.af).2≠0:=by simpa using c
   obtain⟨k,z1,z2,z3,z4,z5,z6⟩:=hz (F:=kS s l w) (by unfold kS; rw [ar (fun q=>q g1),ar (fun q=>q g2),aw g]);exact U8
 have g1:(fD s.aM w).2=0:=by simpa using c1
 have g2:(dY [l,(fD s.aM w).1]).2=0:=by simpa using c2
 have g3:(fQ s.rows (dY [l,(fD s.aM w).1]).1.af).2=0:=by simpa using c3
 have hF:kS s l w=(Di (dY [l,(fD s.aM w).1]).1 (fQ s.rows (dY [l,(fD s.aM w).1]).1.af).1 (findF (dY [l,(fD s.aM w).1]).1).1 (fI (kR s.aM w).1 (dY [l,(fD s.aM w).1]).1.af).1,0):=by
  unfold kS;rw [ar (fun q=>q g1),ar (fun q=>q g2),ar (fun q=>q g3)]
 rw [hF];have okA:cC (dY [l,(fD s.aM w).1]).1=true:=avO g2;have okS:=avP s.aM w;have hv:((fQ s.rows (dY [l,(fD s.aM w).1]).1.af).1.dr.fits/\(fQ s.rows (dY [l,(fD s.aM w).1]).1.af).1.bu.fits)/\(fQ s.rows (dY [l,(fD s.aM w).1]).1.af).1.mc.fits/\(fQ s.rows (dY [l,(fD s.aM w).1]).1.af).1.tu.fits:=agA _ _;clear hF hz g1 g2 g3 c1 c2 c3;generalize (dY [l,(fD s.aM w).1]).1=A at *
 generalize (fQ s.rows A.af).1=V at *
 have hf:=aev A;have n:=MA okA;have iK:aY A.af:=ii
 have iX:aY A.x:=ii
 have i2:aY 2:=⟨by decide,by decide⟩
 refine fun _ _ => ?_
 conv=>arg 1; cbv
 simp (maxSteps:=4000000) only [aB,aR,aS,bw];generalize (kR s.aM w).1=S at *
 have iS:aY S:=ii
 refine⟨⟨h3,h4⟩,⟨iS,iK⟩,?_⟩;have BS:=xz S A.af;generalize (fI S A.af).1=sl at *
 refine fun _ _ => ?_
 conv=>arg 1; cbv
 simp (maxSteps:=4000000) only [aB,aR,aS,bw];simp only [pn,mf,y6 iX,y6 iK,iO hv.1.2,adz,iX,iK,aR,aS];have hlv:=NU (iR A.x) (mulL (iR A.af) V.bu).1;unfold Di Mv;generalize (j7 (iR A.x) (mulL (iR A.af) V.bu).1).1=lv at *
 refine fun _ _ => ?_
 conv=>arg 1; cbv
 simp (maxSteps:=4000000) only [aB,aR,aS,bw];simp only [pn,mf,iO hlv,iO hv.2.2,aR,aS];have htr:=NV lv V.tu;generalize (m7 lv V.tu).1=tr at *
 refine fun _ _ => ?_
 conv=>arg 1; cbv
 simp (maxSteps:=4000000) only [aB,aR,aS,bw];have e1:∀ v:bH,(⟨(kU (eX v)).neg,(kU (eX v)).n0,(kU (eX v)).n1,(kU (eX v)).n2,(kU (eX v)).n3,(kU (eX v)).n4,(kU (eX v)).n5,(kU (eX v)).n6,(kU (eX v)).n7,(kU (eX v)).d0,(kU (eX v)).d1,(kU (eX v)).d2,(kU (eX v)).d3,(kU (eX v)).d4,(kU (eX v)).d5,(kU (eX v)).d6,(kU (eX v)).d7⟩:bj)=kU (eX v):=fun _=>rfl;simp only [pn,mf,e1,UZ (mf _),MK,iO htr,iO hv.1.1,y6 i2,arJ,i2,aR,aS];refine fun _ _ => ?_
 conv=>arg 1; cbv
 simp (maxSteps:=4000000) only [aB,aR,aS,bw];simp only [xm];generalize (findF A).1=C at *
 simp only [pn,mf,iO hv.2.1,iO hf.2.2,iO BS,arI,aR,aS]
end Go.Proofs.YtlpikgchnjajmaaGreat
