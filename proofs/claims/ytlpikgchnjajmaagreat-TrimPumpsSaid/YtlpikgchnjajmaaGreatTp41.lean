/-
  twistlocklaw19.TrimPumps by the abstract run.
-/
import Derived.Test.YtlpikgchnjajmaaGreatTp40
set_option linter.all false
set_option maxRecDepth 100000
set_option maxHeartbeats 4000000
namespace Go.Proofs.YtlpikgchnjajmaaGreat
open Go.RowKit
theorem agT{x:p6}(h:vA x){i k:Nat}(hi:i<(bQ x).aM.length)(hk:k<(bQ x).aM.length){n:Int}(h0:0<=n)(h1:n<=(bG x).getD i 0)(h2:n<=((bQ x).aM.getD k Tc.bD.aa).af - (bG x).getD k 0)(he:i=k->n=0) :
 xo (bQ x) (dQ x.bO) (dJ x.cG x.cQ x.bO) (mh (bG x) i k n)/\fg (bQ x) (dQ x.bO) (dJ x.cG x.cQ x.bO) (mh (bG x) i k n)=(fg (bQ x) (dQ x.bO) (dJ x.cG x.cQ x.bO) (bG x)).eZ (n*(((bQ x).aM.getD k Tc.bD.aa).x - ((bQ x).aM.getD i Tc.bD.aa).x)) (n*(((bQ x).aM.getD k Tc.bD.aa).y - ((bQ x).aM.getD i Tc.bD.aa).y)) (2*n*(((bQ x).aM.getD k Tc.bD.aa).z - ((bQ x).aM.getD i Tc.bD.aa).z)):=by
 have f:=afT h;obtain⟨hw,hl⟩:=ave f.sound.nO hi hk h0 h1 h2 he;have e:fg (bQ x) (dQ x.bO) (dJ x.cG x.cQ x.bO) (mh (bG x) i k n)=(fg (bQ x) (dQ x.bO) (dJ x.cG x.cQ x.bO) (bG x)).eZ (n*(((bQ x).aM.getD k Tc.bD.aa).x - ((bQ x).aM.getD i Tc.bD.aa).x)) (n*(((bQ x).aM.getD k Tc.bD.aa).y - ((bQ x).aM.getD i Tc.bD.aa).y)) (2*n*(((bQ x).aM.getD k Tc.bD.aa).z - ((bQ x).aM.getD i Tc.bD.aa).z)):=by
  unfold fg;rw [hl];unfold Ld.add Ld.eZ;dsimp only;congr 1<;>omega
 have ek:(fg (bQ x) (dQ x.bO) (dJ x.cG x.cQ x.bO) (mh (bG x) i k n)).af=(fg (bQ x) (dQ x.bO) (dJ x.cG x.cQ x.bO) (bG x)).af:=by rw [e]; rfl
 exact⟨⟨⟨f.sound.trim,f.sound.zg,hw,f.sound.Dp⟩,rfl,by rw [ek]; exact f.low,by rw [ek]; exact f.high⟩,e⟩
def Dw(d n:Int):Int:=if d*n<0 then -1 else if 0<d*n then 1 else 0
def agU:aH:=df 31 kI F6 (fun d n=>aY (d ()*n ())) (fun d n => .int .i64 fun _=>Dw (d ()) (n ()))
theorem awc:aK Tryz.prog agU:=by
 refine cd [] trivial Tryz.func31 (by kernel_rfl) fun ai res h hp => ?_;obtain⟨(d:Int),(n:Int),rfl,rfl⟩:=dz h;clear h;refine⟨[],?_⟩
 conv=>arg 1; cbv
 simp (maxSteps:=4000000) only [aB,aR,aS,bw];refine⟨hp,?_⟩;unfold Dw;generalize d*n=m;by_cases h1:m < -1
 . rw [c8 h1,eG,gw (by decide),fG,aw oo]
 . rw [gw h1,fG];by_cases h2:1<m
   . rw [c8 h2,eG,ar oo,aw oo]
   . rw [gw h2,fG];split
     . omega
     . split<;>omega
def awd:aH:=uY 7 abh u1 u1 RT (fun x f t p=>vA (x ())/\(0<=f ()/\f ()<=255)/\(0<=t ()/\t ()<=255)/\0<=p ()/\p ()<=4294967295) (fun _ _ _ _ => .bool fun _=>true)
theorem awe:aK Tryz.prog awd:=by
 refine eE { kp := [(0,[0,1,2,3]),(1,[1,2,3,4]),(2,[]),(3,[1,2,3,4]),(4,[1,2,3,9,10,11,12]),(5,[1,2,3,9,10,11,12,13,14]),(6,[14]),(7,[1,2,3,9,10,11,12,13,14]),(8,[3,9,10,11,12,13,14,15,16]),(9,[9,10,11,12,13,14,15,16,17]),(10,[9,10,11,12,13,14,15,16,17]),(11,[9,10,11,12,13,14,15,16,17]),(12,[9,10,11,13,14,15,16,17,18]),(13,[9,10,11,13,14,15,16,17,18]),(14,[9,10,11,13,14,15,16,17,18]),(15,[9,13,14,15,16,17,19,20]),(16,[9,13,14,15,16,17,19,20,21,22]),(17,[9,13,14,15,16,17,19,20,21,22,23,24]),(18,[9,13,14,15,16,19,20,21,22,23,24,25])],lt := [(7,⟨[0,1,2,3,4,5,6,7,8,9,10,11],[0,1,2,3,4,5,6,7,8,9,10,11],[],[],[]⟩),(8,⟨[0,1,2,3,4,6,8,12,13,14,5,7,9,10,11,15,16,17,18,19,20,21],[0,1,2,3,4,6,8,12,13,14],[],[⟨[0,1,2,3,4,5,6,7,8,9],[9,10,11,12,13,14,15,16,17,59,62,63,64,65,66,67,68,69,72,73,74,75,76,77],(0,0),[(10,5,1),(11,7,2),(15,15,3),(20,20,4)]⟩,⟨[0,1,2,3,4,5,6,7,8,9,10],[9,10,11,12,13,14,15,16,17,59,63,64,65,66,67,68,69,72,73,74,75,76,77],(0,5),[(11,7,5),(15,15,6),(20,20,7)]⟩,⟨[0,1,2,3,4,5,6,7,8,9,11],[9,10,11,12,13,14,15,16,17,59,62,63,65,66,67,68,69,72,73,74,75,76,77],(0,7),[(12,9,8)]⟩,⟨[0,1,2,3,4,5,6,7,8,9,15],[9,10,11,12,13,14,15,16,17,59,62,63,64,65,66,67,68,69,73,74,75,76,77],(0,15),[(10,5,6),(11,7,9),(20,20,10)]⟩,⟨[0,1,2,3,4,5,6,7,8,9,20],[9,10,11,12,13,14,15,16,17,59,62,63,64,65,66,67,68,69,72,73,74,75,76,77],(0,20),[(11,7,11)]⟩,⟨[0,1,2,3,4,5,6,7,8,9,10,11],[9,10,11,12,13,14,15,16,17,59,63,65,66,67,68,69,72,73,74,75,76,77],(1,7),[(12,9,12)]⟩,⟨[0,1,2,3,4,5,6,7,8,9,10,15],[9,10,11,12,13,14,15,16,17,59,63,64,65,66,67,68,69,73,74,75,76,77],(1,15),[(11,7,13),(20,20,14)]⟩,⟨[0,1,2,3,4,5,6,7,8,9,10,20],[9,10,11,12,13,14,15,16,17,59,63,64,65,66,67,68,69,72,73,74,75,76,77],(1,20),[(11,7,15)]⟩,⟨[0,1,2,3,4,5,6,7,8,9,11,12],[9,10,11,12,13,14,15,16,17,59,62,63,67,68,69,72,73,74,75,76,77],(2,9),[(13,10,16)]⟩,⟨[0,1,2,3,4,5,6,7,8,9,11,15],[9,10,11,12,13,14,15,16,17,59,62,63,65,66,67,68,69,73,74,75,76,77],(3,7),[(12,9,17)]⟩,⟨[0,1,2,3,4,5,6,7,8,9,15,20],[9,10,11,12,13,14,15,16,17,59,62,63,64,65,66,67,68,69,73,74,75,76,77],(3,20),[(11,7,18)]⟩,⟨[0,1,2,3,4,5,6,7,8,9,11,20],[9,10,11,12,13,14,15,16,17,59,62,63,65,66,67,68,69,72,73,74,75,76,77],(4,7),[(12,9,19)]⟩,⟨[0,1,2,3,4,5,6,7,8,9,10,11,12],[9,10,11,12,13,14,15,16,17,59,63,67,68,69,72,73,74,75,76,77],(5,9),[(13,10,20)]⟩,⟨[0,1,2,3,4,5,6,7,8,9,10,11,15],[9,10,11,12,13,14,15,16,17,59,63,65,66,67,68,69,73,74,75,76,77],(6,7),[(12,9,21)]⟩,⟨[0,1,2,3,4,5,6,7,8,9,10,15,20],[9,10,11,12,13,14,15,16,17,59,63,64,65,66,67,68,69,73,74,75,76,77],(6,20),[(11,7,22)]⟩,⟨[0,1,2,3,4,5,6,7,8,9,10,11,20],[9,10,11,12,13,14,15,16,17,59,63,65,66,67,68,69,72,73,74,75,76,77],(7,7),[(12,9,23)]⟩,⟨[0,1,2,3,4,5,6,7,8,9,11,12,13],[9,10,11,12,13,14,15,16,17,59,62,63,68,69,72,73,74,75,76,77],(8,10),[(10,5,20),(14,11,24),(15,15,25),(20,20,26)]⟩,⟨[0,1,2,3,4,5,6,7,8,9,11,12,15],[9,10,11,12,13,14,15,16,17,59,62,63,67,68,69,73,74,75,76,77],(9,9),[(13,10,25)]⟩,⟨[0,1,2,3,4,5,6,7,8,9,11,15,20],[9,10,11,12,13,14,15,16,17,59,62,63,65,66,67,68,69,73,74,75,76,77],(10,7),[(12,9,27)]⟩,⟨[0,1,2,3,4,5,6,7,8,9,11,12,20],[9,10,11,12,13,14,15,16,17,59,62,63,67,68,69,72,73,74,75,76,77],(11,9),[(13,10,26)]⟩,⟨[0,1,2,3,4,5,6,7,8,9,10,11,12,13],[9,10,11,12,13,14,15,16,17,59,63,68,69,72,73,74,75,76,77],(12,10),[(14,11,28),(15,15,29),(20,20,30)]⟩,⟨[0,1,2,3,4,5,6,7,8,9,10,11,12,15],[9,10,11,12,13,14,15,16,17,59,63,67,68,69,73,74,75,76,77],(13,9),[(13,10,29)]⟩,⟨[0,1,2,3,4,5,6,7,8,9,10,11,15,20],[9,10,11,12,13,14,15,16,17,59,63,65,66,67,68,69,73,74,75,76,77],(14,7),[(12,9,31)]⟩,⟨[0,1,2,3,4,5,6,7,8,9,10,11,12,20],[9,10,11,12,13,14,15,16,17,59,63,67,68,69,72,73,74,75,76,77],(15,9),[(13,10,30)]⟩,⟨[0,1,2,3,4,5,6,7,8,9,11,12,13,14],[9,10,11,12,13,14,15,16,17,59,62,63,69,72,73,74,75,76,77],(16,11),[(10,5,28),(15,15,32),(20,20,33)]⟩,⟨[0,1,2,3,4,5,6,7,8,9,11,12,13,15],[9,10,11,12,13,14,15,16,17,59,62,63,68,69,73,74,75,76,77],(16,15),[(10,5,29),(14,11,32),(20,20,34)]⟩,⟨[0,1,2,3,4,5,6,7,8,9,11,12,13,20],[9,10,11,12,13,14,15,16,17,59,62,63,68,69,72,73,74,75,76,77],(16,20),[(14,11,33)]⟩,⟨[0,1,2,3,4,5,6,7,8,9,11,12,15,20],[9,10,11,12,13,14,15,16,17,59,62,63,67,68,69,73,74,75,76,77],(18,9),[(13,10,34)]⟩,⟨[0,1,2,3,4,5,6,7,8,9,10,11,12,13,14],[9,10,11,12,13,14,15,16,17,59,63,69,72,73,74,75,76,77],(20,11),[(15,15,35),(20,20,36)]⟩,⟨[0,1,2,3,4,5,6,7,8,9,10,11,12,13,15],[9,10,11,12,13,14,15,16,17,59,63,68,69,73,74,75,76,77],(20,15),[(14,11,35),(20,20,37)]⟩,⟨[0,1,2,3,4,5,6,7,8,9,10,11,12,13,20],[9,10,11,12,13,14,15,16,17,59,63,68,69,72,73,74,75,76,77],(20,20),[(14,11,36)]⟩,⟨[0,1,2,3,4,5,6,7,8,9,10,11,12,15,20],[9,10,11,12,13,14,15,16,17,59,63,67,68,69,73,74,75,76,77],(22,9),[(13,10,37)]⟩,⟨[0,1,2,3,4,5,6,7,8,9,11,12,13,14,15],[9,10,11,12,13,14,15,16,17,59,62,63,69,73,74,75,76,77],(24,15),[(16,16,38)]⟩,⟨[0,1,2,3,4,5,6,7,8,9,11,12,13,14,20],[9,10,11,12,13,14,15,16,17,59,62,63,69,72,73,74,75,76,77],(24,20),[(15,15,39)]⟩,⟨[0,1,2,3,4,5,6,7,8,9,11,12,13,15,20],[9,10,11,12,13,14,15,16,17,59,62,63,68,69,73,74,75,76,77],(25,20),[(14,11,39)]⟩,⟨[0,1,2,3,4,5,6,7,8,9,10,11,12,13,14,15],[9,10,11,12,13,14,15,16,17,59,63,69,73,74,75,76,77],(28,15),[(16,16,40)]⟩,⟨[0,1,2,3,4,5,6,7,8,9,10,11,12,13,14,20],[9,10,11,12,13,14,15,16,17,59,63,69,72,73,74,75,76,77],(28,20),[(15,15,41)]⟩,⟨[0,1,2,3,4,5,6,7,8,9,10,11,12,13,15,20],[9,10,11,12,13,14,15,16,17,59,63,68,69,73,74,75,76,77],(29,20),[(14,11,41)]⟩,⟨[0,1,2,3,4,5,6,7,8,9,11,12,13,14,15,16],[9,10,11,12,13,14,15,16,17,59,62,63,74,75,76,77],(32,16),[(10,5,40),(20,20,42)]⟩,⟨[0,1,2,3,4,5,6,7,8,9,11,12,13,14,15,20],[9,10,11,12,13,14,15,16,17,59,62,63,69,73,74,75,76,77],(33,15),[(16,16,42)]⟩,⟨[0,1,2,3,4,5,6,7,8,9,10,11,12,13,14,15,16],[9,10,11,12,13,14,15,16,17,59,63,74,75,76,77],(35,16),[(17,17,43),(20,20,44)]⟩,⟨[0,1,2,3,4,5,6,7,8,9,10,11,12,13,14,15,20],[9,10,11,12,13,14,15,16,17,59,63,69,73,74,75,76,77],(36,15),[(16,16,44)]⟩,⟨[0,1,2,3,4,5,6,7,8,9,11,12,13,14,15,16,20],[9,10,11,12,13,14,15,16,17,59,62,63,74,75,76,77],(38,20),[(10,5,44)]⟩,⟨[0,1,2,3,4,5,6,7,8,9,10,11,12,13,14,15,16,17],[9,10,11,12,13,14,15,16,17,59,75,76,77],(40,17),[(18,18,45)]⟩,⟨[0,1,2,3,4,5,6,7,8,9,10,11,12,13,14,15,16,20],[9,10,11,12,13,14,15,16,17,59,63,74,75,76,77],(40,20),[(17,17,46)]⟩,⟨[0,1,2,3,4,5,6,7,8,9,10,11,12,13,14,15,16,17,18],[9,10,11,12,13,14,15,16,17,59,76,77],(43,18),[(19,19,47)]⟩,⟨[0,1,2,3,4,5,6,7,8,9,10,11,12,13,14,15,16,17,20],[9,10,11,12,13,14,15,16,17,59,75,76,77],(44,17),[(18,18,48)]⟩,⟨[0,1,2,3,4,5,6,7,8,9,10,11,12,13,14,15,16,17,18,19],[9,10,11,12,13,14,15,16,17,77],(45,19),[(20,20,49)]⟩,⟨[0,1,2,3,4,5,6,7,8,9,10,11,12,13,14,15,16,17,18,20],[9,10,11,12,13,14,15,16,17,59,76,77],(46,18),[(19,19,49)]⟩,⟨[0,1,2,3,4,5,6,7,8,9,10,11,12,13,14,15,16,17,18,19,20],[9,10,11,12,13,14,15,16,17,77],(47,20),[]⟩],[21]⟩),(12,⟨[0,1,2,3,4,5,6,7],[0,1,2,3,4,5,6],[7],[],[]⟩),(13,⟨[0,1,2,3,4,5,6,7],[0,1,2,3,4,5,6],[7],[],[]⟩),(18,⟨[0,1,2,3,4,5,6,7,8,9,10,11,12,13,14,15,16,17,18,19,20,21,22,23,24,25,26,27,28,29,30,31,32,33,34,35,36,37,38,39,40,41,42,43,44,45,46,47,48,49,50,51,52,53,54,55,56,57,58,59,60],[0,1,2,3,4,5,6,7,8,9,10,11,12,13,14,15,16,17,18,19,20,21,22,23,24,25,26,27,28,29,30,31,32,33,34,35,36,37,38,39,40,41,42,43,44,45,46,47,48,49,50,51,52,53,54,55,56,57,58,59,60],[],[],[]⟩)],ct := [5,7,8,9,12,14,15,16,18] } [agS,afQ,MR,Ul,agU] ⟨awb,ava,U9,aeu,awc,trivial⟩ [MQ] ⟨agr,trivial⟩ Tryz.func7 (by kernel_rfl) fun ai res h hp => ?_;obtain⟨(x:p6),(f:Int),(t:Int),(p:Int),rfl,rfl⟩:=yN h;clear h;have agV:vA x/\(0<=f/\f<=255)/\(0<=t/\t<=255)/\0<=p/\p<=4294967295:=hp;have hx:=agV.1;have hn:=agV.2;have ex:(⟨x.cG,x.cQ,x.bO,x.ow,x.fill,x.t,x.l,x.b,x.lf⟩:p6)=x:=rfl;have es:∀ s:aZ,(⟨s.aE,s.dh,s.lk,s.lx,s.ly,s.lz,s.rows,s.uZ,s.aM,s.m1,s.m2,s.m3,s.m4⟩:aZ)=s:=fun _=>rfl;have hf:=afT hx;have hm:=Us x.cG x.cQ x.bO;have Va:(bG x).length<=8:=by unfold bG; rw [Ha]; omega
 have ht8:(bQ x).aM.length<=8:=by show (ri _ _).length<=8; rw [xl]; omega
 have uk:p7 (bQ x):=aeI (n:=x.cQ) hx.1.1.1;have hbp:=atP x.bO;have Vb:∀ W:List Int,W.length<=8->zi (bQ x) (dQ x.bO) (dJ x.cG x.cQ x.bO) W:=fun W hW=>⟨⟨⟨uk,(by decide:tM.length<=1000000000000),e8 ht8 (by decide)⟩,hbp⟩,oo,oo⟩
 have eW:=Vb (bG x) Va;have jB:(ko (fg (bQ x) (dQ x.bO) (dJ x.cG x.cQ x.bO) (bG x)) (kR (bQ x).aM (bG x)).1).fits:=by
  have:=MS (bQ x) (dQ x.bO) (dJ x.cG x.cQ x.bO) (bG x);rw [hf.state] at this;exact this
 refine⟨[],?_⟩
 conv=>arg 1; cbv
 simp (maxSteps:=4000000) only [aB,aR,aS,bw];simp only [ex,es,hf.state,eW,aR];refine⟨hx,fun _ _ => ?_⟩
 conv=>arg 1; cbv
 simp (maxSteps:=4000000) only [aB,aR,aS,bw];refine⟨fun _=>trivial,fun c=>fun _ _ => ?_⟩
 conv=>arg 1; cbv
 simp (maxSteps:=4000000) only [aB,aR,aS,bw];have kZ:0<(bG x).length:=oo
 have tA:(bG x).length=(bQ x).aM.length:=((gW _ _).1 hf.sound.nO).2.1;have tm:∀ a:Int,0<=a->∃ i:Nat,a.tmod ((bG x).length:Int)=(i:Int)/\i<(bG x).length:=fun a ha=>by
  have h1:=Hl (m:=((bG x).length:Int)) ha oo;exact⟨(a.tmod ((bG x).length:Int)).toNat,oo,oo⟩
 obtain⟨i,ei,hi⟩:=tm f hn.1.1;obtain⟨k,ek,hk⟩:=tm t hn.2.1.1;refine⟨ii,c,ii,c,fun _ _ => ?_⟩
 conv=>arg 1; cbv
 simp (maxSteps:=4000000) only [aB,aR,aS,bw];simp only [ei,ek,dV];have e0:Tc.int.aa=(0:Int):=rfl;simp only [e0];have bnd:∀ j,j<(bG x).length->(0<=(bG x).getD j 0/\(bG x).getD j 0<=((bQ x).aM.getD j Tc.bD.aa).af)/\((bQ x).aM.getD j Tc.bD.aa).af<=500000000:=fun j hj=>by
  have h1:=(Dr hf.sound.nO (k:=j) oo).2.1;have h2:=((gW _ _).1 hf.sound.nO).2.2 j oo;have h3:=((tK _).1 (((lI _).1 ((gW _ _).1 hf.sound.nO).1).2 j oo)).1.1.2;unfold rj jV at h2;rw [au,aI,aI,e0] at h2;exact⟨h2,h3⟩
 have bi:=bnd i hi;have bk:=bnd k hk;obtain⟨M,hM⟩:∃ M,M=(bif decide (((bQ x).aM.getD k Tc.bD.aa).af - (bG x).getD k 0<(bG x).getD i 0) then ((bQ x).aM.getD k Tc.bD.aa).af - (bG x).getD k 0 else (bG x).getD i 0):=⟨_,rfl⟩
 have hMb:0<=M/\M<=(bG x).getD i 0/\M<=((bQ x).aM.getD k Tc.bD.aa).af - (bG x).getD k 0:=by
  by_cases h:((bQ x).aM.getD k Tc.bD.aa).af - (bG x).getD k 0<(bG x).getD i 0
  . rw [c8 h,eG] at hM;omega
  . rw [gw h,fG] at hM;omega
 have hN:=Hl (m:=M+1) hn.2.2.1 oo;simp only [<- hM];generalize p.tmod (M+1)=n at *
 have c1:(0<=(k:Int)/\(k:Int)<(bQ x).aM.length):=oo
 have c2:aY (((bQ x).aM.getD k Tc.bD.aa).af - (bG x).getD k 0):=ii
 have c3:aY (M+1):=ii
 have c4:¬M+1=0:=oo
 simp only [c1,c2,c3,c4,aR,Bk,DP];refine⟨ii,oo,oo,fun _ _ => ?_⟩
 conv=>arg 1; cbv
 simp (maxSteps:=4000000) only [aB,aR,aS,bw];refine⟨fun ju=>⟨oo,?_⟩,fun ju=>⟨oo,?_⟩⟩
 . have kf:=agT hx (i:=i) (k:=k) (n:=0) oo oo oo oo oo (fun _=>rfl);have uB:=kf.1.state;rw [kf.2] at uB;refine fun _ _ => ?_
   conv=>arg 1; cbv
   simp (maxSteps:=4000000) only [aB,aR,aS,bw];simp only [ei,ek,e0,dV,mZ];have gs:((bG x).set i ((bG x).getD i 0 - 0)).getD k 0=if k=i then (bG x).getD i 0 - 0 else (bG x).getD k 0:=Hm _ _ hi;have d1:aY ((bG x).getD i 0 - 0):=ii
   have d2:aY (((bG x).set i ((bG x).getD i 0 - 0)).getD k 0+0):=by
    rw [gs];split<;>(simp only [aY]; omega)
   refine⟨⟨oo,oo⟩,d1,⟨oo,oo⟩,⟨oo,oo⟩,d2,⟨oo,oo⟩,?_⟩;have Vc:((bG x).set i ((bG x).getD i 0 - 0)).set k (((bG x).set i ((bG x).getD i 0 - 0)).getD k 0+0)=mh (bG x) i k 0:=rfl;have cO:(mh (bG x) i k 0).length<=8:=by unfold mh; rw [mZ,mZ]; exact Va
   have Bd:=MS (bQ x) (dQ x.bO) (dJ x.cG x.cQ x.bO) (mh (bG x) i k 0);rw [uB] at Bd;have Ht:=kf.1.ok;rw [kf.2] at Ht;have law:=afP hf.low hf.high (MI hf.sound.nO) (MI kf.1.sound.nO) hf.ok Ht;have eK:(ko (fg (bQ x) (dQ x.bO) (dJ x.cG x.cQ x.bO) (bG x)) (kR (bQ x).aM (bG x)).1).af=(fg (bQ x) (dQ x.bO) (dJ x.cG x.cQ x.bO) (bG x)).af:=rfl;have Vd:∀ a b c,(ko ((fg (bQ x) (dQ x.bO) (dJ x.cG x.cQ x.bO) (bG x)).eZ a b c) (kR (bQ x).aM (mh (bG x) i k 0)).1).af=(fg (bQ x) (dQ x.bO) (dJ x.cG x.cQ x.bO) (bG x)).af:=fun _ _ _=>rfl;refine fun _ _ => ?_
   conv=>arg 1; cbv
   simp (maxSteps:=4000000) only [aB,aR,aS,bw];simp only [es,e0,ei,ek,dV,Vc,Vb _ cO,uB,aR];refine fun _ _ => ?_
   conv=>arg 1; cbv
   simp (maxSteps:=4000000) only [aB,aR,aS,bw];simp only [pn,mf,iO jB.1.2,iO Bd.1.2,law.2.2.2.1,aR,aS];refine fun _ _ => ?_
   conv=>arg 1; cbv
   simp (maxSteps:=4000000) only [aB,aR,aS,bw];simp only [pn,mf,iO jB.2.2.1,iO Bd.2.2.1,law.2.2.2.2,aR,aS];refine fun _ _ => ?_
   conv=>arg 1; cbv
   simp (maxSteps:=4000000) only [aB,aR,aS,bw];simp only [ei,ek,dV,law.1,law.2.1,law.2.2.1,law.2.2.2.1,law.2.2.2.2,eK,Vd,Int.add_zero,bw,Vx,vC,Vv,aS];have sg:∀ d:Int,(if 0*d<0 then (-1:Int) else if 0<0*d then 1 else 0)=Dw d (0):=fun d=>by unfold Dw; rw [Int.mul_comm]
   have q0:(0:Int)<=0/\(0:Int)<=500000000:=oo
   have ml:∀ d:Int,-1000000<=d->d<=1000000->aY (d*0):=fun d h1 h2=>by
    have a1:=tS h1 q0.1;have a2:=tS h2 q0.1;simp only [aY];omega
   exact s_8
 . have kf:=agT hx (i:=i) (k:=k) (n:=n) oo oo oo oo oo (fun q=>absurd oo ju);have uB:=kf.1.state;rw [kf.2] at uB;refine fun _ _ => ?_
   conv=>arg 1; cbv
   simp (maxSteps:=4000000) only [aB,aR,aS,bw];simp only [ei,ek,e0,dV,mZ];have gs:((bG x).set i ((bG x).getD i 0 - n)).getD k 0=if k=i then (bG x).getD i 0 - n else (bG x).getD k 0:=Hm _ _ hi;have d1:aY ((bG x).getD i 0 - n):=ii
   have d2:aY (((bG x).set i ((bG x).getD i 0 - n)).getD k 0+n):=by
    rw [gs];split<;>(simp only [aY]; omega)
   refine⟨⟨oo,oo⟩,d1,⟨oo,oo⟩,⟨oo,oo⟩,d2,⟨oo,oo⟩,?_⟩;have Vc:((bG x).set i ((bG x).getD i 0 - n)).set k (((bG x).set i ((bG x).getD i 0 - n)).getD k 0+n)=mh (bG x) i k n:=rfl;have cO:(mh (bG x) i k n).length<=8:=by unfold mh; rw [mZ,mZ]; exact Va
   have Bd:=MS (bQ x) (dQ x.bO) (dJ x.cG x.cQ x.bO) (mh (bG x) i k n);rw [uB] at Bd;have Ht:=kf.1.ok;rw [kf.2] at Ht;have law:=afP hf.low hf.high (MI hf.sound.nO) (MI kf.1.sound.nO) hf.ok Ht;have eK:(ko (fg (bQ x) (dQ x.bO) (dJ x.cG x.cQ x.bO) (bG x)) (kR (bQ x).aM (bG x)).1).af=(fg (bQ x) (dQ x.bO) (dJ x.cG x.cQ x.bO) (bG x)).af:=rfl;have Vd:∀ a b c,(ko ((fg (bQ x) (dQ x.bO) (dJ x.cG x.cQ x.bO) (bG x)).eZ a b c) (kR (bQ x).aM (mh (bG x) i k n)).1).af=(fg (bQ x) (dQ x.bO) (dJ x.cG x.cQ x.bO) (bG x)).af:=fun _ _ _=>rfl;refine fun _ _ => ?_
   conv=>arg 1; cbv
   simp (maxSteps:=4000000) only [aB,aR,aS,bw];simp only [es,e0,ei,ek,dV,Vc,Vb _ cO,uB,aR];refine fun _ _ => ?_
   conv=>arg 1; cbv
   simp (maxSteps:=4000000) only [aB,aR,aS,bw];simp only [pn,mf,iO jB.1.2,iO Bd.1.2,law.2.2.2.1,aR,aS];refine fun _ _ => ?_
   conv=>arg 1; cbv
   simp (maxSteps:=4000000) only [aB,aR,aS,bw];simp only [pn,mf,iO jB.2.2.1,iO Bd.2.2.1,law.2.2.2.2,aR,aS];refine fun _ _ => ?_
   conv=>arg 1; cbv
   simp (maxSteps:=4000000) only [aB,aR,aS,bw];simp only [ei,ek,dV,law.1,law.2.1,law.2.2.1,law.2.2.2.1,law.2.2.2.2,eK,Vd,Int.add_zero,bw,Vx,vC,Vv,aS];have sg:∀ d:Int,(if n*d<0 then (-1:Int) else if 0<n*d then 1 else 0)=Dw d (n):=fun d=>by unfold Dw; rw [Int.mul_comm]
   have q0:(0:Int)<=n/\(n:Int)<=500000000:=oo
   have ml:∀ d:Int,-1000000<=d->d<=1000000->aY (d*n):=fun d h1 h2=>by
    have a1:=tS h1 q0.1;have a2:=tS h2 q0.1;simp only [aY];omega
   exact s_8
end Go.Proofs.YtlpikgchnjajmaaGreat
