/-
  strength by the abstract run: the buoyancy of shares and factors; Curve.
-/
import Derived.Test.YtamjbkaclhgffaaGreatSi24
set_option linter.all false
set_option maxRecDepth 100000
set_option maxHeartbeats 4000000
namespace Go.Proofs.YtamjbkaclhgffaaGreat
open Go.RowKit
variable{t:Int}{ws:List Wt}{l:List ar}{base i:Nat}
def afa:aN:=u5 65 kI kI GG apZ (fun share Bv w k=>iM (k ())/\bq (w ()*share ())/\bq (Bv ())) (fun share Bv w k => .agg (r9 fun _=>oc (w ()) (bj (k ())) (share ()) (Bv ())))
theorem atW:aU Tryz.prog afa:=by
 refine fH { kp := [(0,[0,1,2,3]),(1,[0,1,2,3,6]),(2,[1,3,6,7])],lt := [(2,⟨[0,1,2,3,4,5,6,7,8,9,10,11,12],[0,1,2,3,4,5,6,7,8,9,10,11],[12],[],[]⟩)] } [TK,G8,TN,TM,Ug] ⟨adu,Mg,adD,adB,aet,trivial⟩ [] trivial Tryz.func65 (by kernel_rfl) fun ai res h hp => ?_;obtain⟨(share:Int),(Bv:Int),(w:Int),(k:bB),rfl,rfl⟩:=yY h;clear h;have Ur:iM k/\bq (w*share)/\bq Bv:=hp;have hk:=Ur.1;have hw:=Ur.2.1;have hf:=Ur.2.2;refine⟨[],?_⟩
 conv=>arg 1; cbv
 simp (maxSteps:=4000000) only [aK,bu,bn,bX];have xi:=u9 hf;simp only [wY,u7,S5,S6,acD,tG,xi,bu,bn];simp only [oc,bn];exact⟨hw,⟨hw,ii⟩,hf,hk⟩
theorem afb{l:List ar}(aI:∀ f∈l,f.ok=true){n:Nat}(hn:l.length=n+1):∀ (ws:List Wt) (k:Nat) (S S':List ak),(∀ u∈ws,0<=u.aq/\u.aq<=500000000)->(∀ a∈S,lY k a)->S.length=n->nB l n S ws=some S'->(∀ a∈S',lY (k+ws.length) a)/\S'.length=n
 | [],k,S,S',_,h2,h3,h4=>by
  injection h4 with h4;subst h4;exact⟨h2,h3⟩
 | u::ws,k,S,S',h1,h2,h3,h4=>by
  unfold nB at h4;have fg:za l n S u=if cJ l u.x=0\/n<cJ l u.x then none else some (S.set (cJ l u.x - 1) ((S.getD (cJ l u.x - 1) ak.zero).add (gZ u))):=rfl;have hx:=MA aI (x:=u.x);generalize cJ l u.x=i at *
  have Uq:=h1 u (.head _);by_cases hc:i=0\/n<i
  . rw [fg,aC hc] at h4; cases h4
  rw [fg,aw hc] at h4;have MJ:=h2 _ (gw ak.zero (show i - 1<S.length from oo));have hM:=qb (a:=2*u.aq) (A:=1000000000) (b:=u.x) (B:=500000) oo (hx oo oo);generalize S.getD (i - 1) ak.zero=A at *
  have Dh:lY (k+1) (A.add (gZ u)):=by
   unfold lY at MJ ⊢;unfold ak.add gZ;dsimp only;omega
  have:=afb aI hn ws (k+1) _ S' (fun v hv=>h1 v (.tail _ hv)) (fun a ha=>by
   rcases IB ha with h|h
   . have:=h2 a h;unfold lY at this ⊢;omega
   . rw [h]; exact Dh) (by rw [nH]; exact h3) h4
  rwa [oA,N8 1] at this
theorem afc:∀ (S:List ak) (a:ak),(∀ b∈S,0<=b.a0)->0<=a.a0->0<=(S.foldl ak.add a).a0
 | [],a,_,h=>h
 | b::S,a,h,h0=>afc S _ (fun c hc=>h c (.tail _ hc)) (by have:=h b (.head _); show 0<=a.a0+b.a0; omega)
theorem afd{S:List ak}(hR:gP l=true)(hW:ws.any lJ=false)(h:jd l ws=some S):S.length=l.length - 1/\0<=(aB S).a0:=by
 obtain⟨r1,r2,r3,r4⟩:=Bw hR;have aI:=xh none l r3;have hb:∀ a∈qc l,lY 0 a:=fun a ha=>by
  exact ae6
 have:=afb aI (n:=l.length - 1) oo ws 0 (qc l) S (MG hW) hb (by unfold qc; simp) h;exact⟨this.2,afc S _ (fun b hb=>(this.1 b hb).1.1) (by decide)⟩
theorem atX(A:ak):(⟨A.a0,A.a1,A.a2,A.a3,A.a4,A.a5⟩:ak)=A:=rfl
def ze(s:kd):mb:=⟨kE s.cM,kE s.cy⟩
def atY(S:List ak):Lp where
 X:=Nat
 ov k := [(44,.int .i64 fun _=>(k:Int))]
 oe k := [(0,.box 162 (GI fun _=>aB (S.take k)))]
 I k:=k<=S.length
 μ k _:=S.length - k
 x0:=0
 nx:=some fun k=>k+1
def atZ(S:List ak)(R:List mb)(K:aY)(n:Nat):Lp where
 X:=Nat
 ov j := [(78,.int .i64 fun _=>(j:Int)),(14,.own 4)]
 oe j := [(4,.row true .cr 55 fun _=>R.take j),(3,.box 162 (GI fun _=>aB (S.take (j - 1)))),(2,.box 52 (r9 fun _=>K))]
 I j:=j<=n
 μ j _:=n - j
 x0:=0
 nx:=some fun j=>j+1
def MK:aN:=c6 23 Dn LU (fun l ws=>(l ()).length<=1000000000000/\(ws ()).length<=1000000000000) (fun l ws => .ba [.sl true .cr fun _=>(kM (l ()) (ws ())).1.map ze,.int .i64 fun _=>(kM (l ()) (ws ())).2])
theorem Us:aU Tryz.prog MK:=by
 refine fH { kp := [(0,[0,1]),(1,[0,1]),(2,[]),(3,[0,1]),(4,[]),(5,[0,1]),(6,[0,6,7]),(7,[]),(8,[0,6]),(9,[0,6,8]),(10,[0,6,8,42,43,44]),(11,[0,6,8,42,43,44]),(12,[0,6,8,10,42,43,44]),(13,[0,6,8,42,43,44]),(14,[0,6,8]),(15,[0,6,8,11]),(16,[]),(17,[0,6,8,11]),(18,[0,6,8,11,12]),(19,[0,6,8,12,13]),(20,[0,6,13]),(21,[0,6,13,14]),(22,[0,6,13,14,15]),(23,[6,13,14,15,76,77,78]),(24,[6,13,14,15,76,77,78]),(25,[6,13,14,15,16,17,76,77,78]),(26,[6,13,14,15,16,17,76,77,78]),(27,[6,13,14,15,17,76,77,78]),(28,[6,13,14,15,17,18,76,77,78]),(29,[6,13,14,15,17,19,76,77,78]),(30,[6,13,14,15,19,20,76,77,78]),(31,[6,13,14,15,19,21,76,77,78]),(32,[6,13,14,15,76,77,78]),(33,[14])],lt := [(19,⟨[0,1,2,3,4,5,6,7,8,9,10,11,12,13,14,15,16,17,18],[0,1,2,3,4,5,6,7,8,9,10,11,12,13,14,15,16,17],[18],[],[]⟩),(26,⟨[0,1,2,3,4,5,6,7],[0,1,2,3,4,5,6],[7],[],[]⟩),(28,⟨[0,1,2,3,4,5,6,7,8,9],[0],[],[⟨[0],[6,13,14,15,17,18,19,76,77,78,98,99,100,101,102,103,104,105],(0,0),[(1,1,1),(3,3,2),(8,8,3)]⟩,⟨[0,1],[6,13,14,15,17,18,19,76,77,78,99,100,101,102,103,104,105],(0,1),[(2,2,4),(3,3,5),(8,8,6)]⟩,⟨[0,3],[6,13,14,15,17,19,76,77,78,98,99,100,101,102,103,104,105],(0,3),[(1,1,5),(8,8,7)]⟩,⟨[0,8],[6,13,14,15,17,18,19,76,77,78,98,99,100,101,102,103,104,105],(0,8),[(1,1,6)]⟩,⟨[0,1,2],[6,13,14,15,17,18,19,76,77,78,100,101,102,103,104,105],(1,2),[(3,3,8),(8,8,9)]⟩,⟨[0,1,3],[6,13,14,15,17,19,76,77,78,99,100,101,102,103,104,105],(1,3),[(2,2,8),(8,8,10)]⟩,⟨[0,1,8],[6,13,14,15,17,18,19,76,77,78,99,100,101,102,103,104,105],(1,8),[(2,2,9),(3,3,10)]⟩,⟨[0,3,8],[6,13,14,15,17,19,76,77,78,98,99,100,101,102,103,104,105],(2,8),[(1,1,10)]⟩,⟨[0,1,2,3],[6,13,14,15,17,19,76,77,78,100,101,102,103,104,105],(4,3),[(4,4,11),(8,8,12)]⟩,⟨[0,1,2,8],[6,13,14,15,17,18,19,76,77,78,100,101,102,103,104,105],(4,8),[(3,3,12)]⟩,⟨[0,1,3,8],[6,13,14,15,17,19,76,77,78,99,100,101,102,103,104,105],(5,8),[(2,2,12)]⟩,⟨[0,1,2,3,4],[6,13,14,15,17,19,76,77,78,102,103,104,105],(8,4),[(5,5,13)]⟩,⟨[0,1,2,3,8],[6,13,14,15,17,19,76,77,78,100,101,102,103,104,105],(8,8),[(4,4,14)]⟩,⟨[0,1,2,3,4,5],[6,13,14,15,17,19,76,77,78,102,103,104,105],(11,5),[(6,6,15)]⟩,⟨[0,1,2,3,4,8],[6,13,14,15,17,19,76,77,78,102,103,104,105],(12,4),[(5,5,16)]⟩,⟨[0,1,2,3,4,5,6],[6,13,14,15,17,19,76,77,78,103,104,105],(13,6),[(7,7,17),(8,8,18)]⟩,⟨[0,1,2,3,4,5,8],[6,13,14,15,17,19,76,77,78,102,103,104,105],(14,5),[(6,6,18)]⟩,⟨[0,1,2,3,4,5,6,7],[6,13,14,15,17,19,76,77,78,105],(15,7),[(8,8,19)]⟩,⟨[0,1,2,3,4,5,6,8],[6,13,14,15,17,19,76,77,78,103,104,105],(15,8),[(7,7,19)]⟩,⟨[0,1,2,3,4,5,6,7,8],[6,13,14,15,17,19,76,77,78,105],(17,8),[]⟩],[9]⟩),(29,⟨[1,0,2,3,4,5,6,7,8,9,10],[1],[],[⟨[0],[6,13,14,15,19,20,76,77,78,106,107,108,109,110,111,112,113,114],(0,0),[(1,0,1),(2,2,2),(9,9,3)]⟩,⟨[0,1],[6,13,14,15,19,20,76,77,78,106,107,108,109,110,111,112,113,114],(0,0),[(2,2,4),(9,9,5)]⟩,⟨[0,2],[6,13,14,15,19,20,76,77,78,106,108,109,110,111,112,113,114],(0,2),[(3,3,6)]⟩,⟨[0,9],[6,13,14,15,19,20,76,77,78,106,107,108,109,110,111,112,113,114],(0,9),[(2,2,7)]⟩,⟨[0,1,2],[6,13,14,15,19,20,76,77,78,106,108,109,110,111,112,113,114],(1,2),[(3,3,8)]⟩,⟨[0,1,9],[6,13,14,15,19,20,76,77,78,106,107,108,109,110,111,112,113,114],(1,9),[(2,2,9)]⟩,⟨[0,2,3],[6,13,14,15,19,20,76,77,78,106,109,110,111,112,113,114],(2,3),[(1,0,8),(4,4,10),(9,9,11)]⟩,⟨[0,2,9],[6,13,14,15,19,20,76,77,78,106,108,109,110,111,112,113,114],(3,2),[(3,3,11)]⟩,⟨[0,1,2,3],[6,13,14,15,19,20,76,77,78,106,109,110,111,112,113,114],(4,3),[(4,4,12),(9,9,13)]⟩,⟨[0,1,2,9],[6,13,14,15,19,20,76,77,78,106,108,109,110,111,112,113,114],(5,2),[(3,3,13)]⟩,⟨[0,2,3,4],[6,13,14,15,19,20,76,77,78,106,110,111,112,113,114],(6,4),[(1,0,12),(9,9,14)]⟩,⟨[0,2,3,9],[6,13,14,15,19,20,76,77,78,106,109,110,111,112,113,114],(6,9),[(1,0,13),(4,4,14)]⟩,⟨[0,1,2,3,4],[6,13,14,15,19,20,76,77,78,106,110,111,112,113,114],(8,4),[(5,5,15),(9,9,16)]⟩,⟨[0,1,2,3,9],[6,13,14,15,19,20,76,77,78,106,109,110,111,112,113,114],(8,9),[(4,4,16)]⟩,⟨[0,2,3,4,9],[6,13,14,15,19,20,76,77,78,106,110,111,112,113,114],(10,9),[(1,0,16)]⟩,⟨[0,1,2,3,4,5],[6,13,14,15,19,20,76,77,78,111,112,113,114],(12,5),[(6,6,17)]⟩,⟨[0,1,2,3,4,9],[6,13,14,15,19,20,76,77,78,106,110,111,112,113,114],(12,9),[(5,5,18)]⟩,⟨[0,1,2,3,4,5,6],[6,13,14,15,19,20,76,77,78,111,112,113,114],(15,6),[(7,7,19)]⟩,⟨[0,1,2,3,4,5,9],[6,13,14,15,19,20,76,77,78,111,112,113,114],(16,5),[(6,6,20)]⟩,⟨[0,1,2,3,4,5,6,7],[6,13,14,15,19,20,76,77,78,112,113,114],(17,7),[(8,8,21),(9,9,22)]⟩,⟨[0,1,2,3,4,5,6,9],[6,13,14,15,19,20,76,77,78,111,112,113,114],(18,6),[(7,7,22)]⟩,⟨[0,1,2,3,4,5,6,7,8],[6,13,14,15,19,20,76,77,78,114],(19,8),[(9,9,23)]⟩,⟨[0,1,2,3,4,5,6,7,9],[6,13,14,15,19,20,76,77,78,112,113,114],(19,9),[(8,8,23)]⟩,⟨[0,1,2,3,4,5,6,7,8,9],[6,13,14,15,19,20,76,77,78,114],(21,9),[]⟩],[10]⟩),(30,⟨[1,2,4,11,0,3,5,6,7,8,9,10,12,13,14,15,16,17,18,19],[1,2,4,11],[],[⟨[0,1,2,3],[6,13,14,15,19,20,21,76,77,78,115,116,117,118,119,120,121,122,123,124,125,126,127,128,129,130,131,132],(0,0),[(4,0,1),(5,3,2),(6,5,3),(12,12,4),(18,18,5)]⟩,⟨[0,1,2,3,4],[6,13,14,15,19,21,76,77,78,115,116,117,118,119,120,121,122,123,124,125,126,127,128,129,130,131,132],(0,0),[(5,3,6),(6,5,7),(12,12,8),(18,18,9)]⟩,⟨[0,1,2,3,5],[6,13,14,15,19,20,21,76,77,78,115,116,118,119,120,121,122,123,124,125,126,127,128,129,130,131,132],(0,3),[(4,0,6),(6,5,10),(12,12,11),(18,18,12)]⟩,⟨[0,1,2,3,6],[6,13,14,15,19,20,21,76,77,78,115,116,117,118,120,121,122,123,124,125,126,127,128,129,130,131,132],(0,5),[(4,0,7),(5,3,10),(12,12,13),(18,18,14)]⟩,⟨[0,1,2,3,12],[6,13,14,15,19,20,21,76,77,78,115,116,117,118,119,120,121,122,123,124,125,127,128,129,130,131,132],(0,12),[(4,0,8),(5,3,11),(6,5,13),(18,18,15)]⟩,⟨[0,1,2,3,18],[6,13,14,15,19,20,21,76,77,78,115,116,117,118,119,120,121,122,123,124,125,126,127,128,129,130,131,132],(0,18),[(5,3,12)]⟩,⟨[0,1,2,3,4,5],[6,13,14,15,19,21,76,77,78,115,116,118,119,120,121,122,123,124,125,126,127,128,129,130,131,132],(1,3),[(6,5,16),(12,12,17),(18,18,18)]⟩,⟨[0,1,2,3,4,6],[6,13,14,15,19,21,76,77,78,115,116,117,118,120,121,122,123,124,125,126,127,128,129,130,131,132],(1,5),[(5,3,16),(12,12,19),(18,18,20)]⟩,⟨[0,1,2,3,4,12],[6,13,14,15,19,21,76,77,78,115,116,117,118,119,120,121,122,123,124,125,127,128,129,130,131,132],(1,12),[(5,3,17),(6,5,19),(18,18,21)]⟩,⟨[0,1,2,3,4,18],[6,13,14,15,19,21,76,77,78,115,116,117,118,119,120,121,122,123,124,125,126,127,128,129,130,131,132],(1,18),[(5,3,18)]⟩,⟨[0,1,2,3,5,6],[6,13,14,15,19,20,21,76,77,78,115,116,118,120,121,122,123,124,125,126,127,128,129,130,131,132],(2,5),[(4,0,16),(7,6,22),(12,12,23),(18,18,24)]⟩,⟨[0,1,2,3,5,12],[6,13,14,15,19,20,21,76,77,78,115,116,118,119,120,121,122,123,124,125,127,128,129,130,131,132],(2,12),[(4,0,17),(6,5,23),(18,18,25)]⟩,⟨[0,1,2,3,5,18],[6,13,14,15,19,20,21,76,77,78,115,116,118,119,120,121,122,123,124,125,126,127,128,129,130,131,132],(2,18),[(6,5,24)]⟩,⟨[0,1,2,3,6,12],[6,13,14,15,19,20,21,76,77,78,115,116,117,118,120,121,122,123,124,125,127,128,129,130,131,132],(3,12),[(4,0,19),(5,3,23),(18,18,26)]⟩,⟨[0,1,2,3,6,18],[6,13,14,15,19,20,21,76,77,78,115,116,117,118,120,121,122,123,124,125,126,127,128,129,130,131,132],(3,18),[(5,3,24)]⟩,⟨[0,1,2,3,12,18],[6,13,14,15,19,20,21,76,77,78,115,116,117,118,119,120,121,122,123,124,125,127,128,129,130,131,132],(4,18),[(5,3,25)]⟩,⟨[0,1,2,3,4,5,6],[6,13,14,15,19,21,76,77,78,115,116,118,120,121,122,123,124,125,126,127,128,129,130,131,132],(6,5),[(7,6,27),(12,12,28),(18,18,29)]⟩,⟨[0,1,2,3,4,5,12],[6,13,14,15,19,21,76,77,78,115,116,118,119,120,121,122,123,124,125,127,128,129,130,131,132],(6,12),[(6,5,28),(18,18,30)]⟩,⟨[0,1,2,3,4,5,18],[6,13,14,15,19,21,76,77,78,115,116,118,119,120,121,122,123,124,125,126,127,128,129,130,131,132],(6,18),[(6,5,29)]⟩,⟨[0,1,2,3,4,6,12],[6,13,14,15,19,21,76,77,78,115,116,117,118,120,121,122,123,124,125,127,128,129,130,131,132],(7,12),[(5,3,28),(18,18,31)]⟩,⟨[0,1,2,3,4,6,18],[6,13,14,15,19,21,76,77,78,115,116,117,118,120,121,122,123,124,125,126,127,128,129,130,131,132],(7,18),[(5,3,29)]⟩,⟨[0,1,2,3,4,12,18],[6,13,14,15,19,21,76,77,78,115,116,117,118,119,120,121,122,123,124,125,127,128,129,130,131,132],(8,18),[(5,3,30)]⟩,⟨[0,1,2,3,5,6,7],[6,13,14,15,19,20,21,76,77,78,115,121,122,123,124,125,126,127,128,129,130,131,132],(10,6),[(4,0,27),(12,12,32),(18,18,33)]⟩,⟨[0,1,2,3,5,6,12],[6,13,14,15,19,20,21,76,77,78,115,116,118,120,121,122,123,124,125,127,128,129,130,131,132],(10,12),[(4,0,28),(7,6,32),(18,18,34)]⟩,⟨[0,1,2,3,5,6,18],[6,13,14,15,19,20,21,76,77,78,115,116,118,120,121,122,123,124,125,126,127,128,129,130,131,132],(10,18),[(4,0,29),(7,6,33),(12,12,34)]⟩,⟨[0,1,2,3,5,12,18],[6,13,14,15,19,20,21,76,77,78,115,116,118,119,120,121,122,123,124,125,127,128,129,130,131,132],(11,18),[(6,5,34)]⟩,⟨[0,1,2,3,6,12,18],[6,13,14,15,19,20,21,76,77,78,115,116,117,118,120,121,122,123,124,125,127,128,129,130,131,132],(13,18),[(5,3,34)]⟩,⟨[0,1,2,3,4,5,6,7],[6,13,14,15,19,21,76,77,78,115,121,122,123,124,125,126,127,128,129,130,131,132],(16,6),[(8,7,35),(12,12,36),(18,18,37)]⟩,⟨[0,1,2,3,4,5,6,12],[6,13,14,15,19,21,76,77,78,115,116,118,120,121,122,123,124,125,127,128,129,130,131,132],(16,12),[(7,6,36),(18,18,38)]⟩,⟨[0,1,2,3,4,5,6,18],[6,13,14,15,19,21,76,77,78,115,116,118,120,121,122,123,124,125,126,127,128,129,130,131,132],(16,18),[(7,6,37),(12,12,38)]⟩,⟨[0,1,2,3,4,5,12,18],[6,13,14,15,19,21,76,77,78,115,116,118,119,120,121,122,123,124,125,127,128,129,130,131,132],(17,18),[(6,5,38)]⟩,⟨[0,1,2,3,4,6,12,18],[6,13,14,15,19,21,76,77,78,115,116,117,118,120,121,122,123,124,125,127,128,129,130,131,132],(19,18),[(5,3,38)]⟩,⟨[0,1,2,3,5,6,7,12],[6,13,14,15,19,20,21,76,77,78,115,121,122,123,124,125,127,128,129,130,131,132],(22,12),[(4,0,36),(18,18,39)]⟩,⟨[0,1,2,3,5,6,7,18],[6,13,14,15,19,20,21,76,77,78,115,121,122,123,124,125,126,127,128,129,130,131,132],(22,18),[(4,0,37)]⟩,⟨[0,1,2,3,5,6,12,18],[6,13,14,15,19,20,21,76,77,78,115,116,118,120,121,122,123,124,125,127,128,129,130,131,132],(23,18),[(4,0,38),(7,6,39)]⟩,⟨[0,1,2,3,4,5,6,7,8],[6,13,14,15,19,21,76,77,78,122,123,124,125,126,127,128,129,130,131,132],(27,7),[(9,8,40)]⟩,⟨[0,1,2,3,4,5,6,7,12],[6,13,14,15,19,21,76,77,78,115,121,122,123,124,125,127,128,129,130,131,132],(27,12),[(8,7,41),(18,18,42)]⟩,⟨[0,1,2,3,4,5,6,7,18],[6,13,14,15,19,21,76,77,78,115,121,122,123,124,125,126,127,128,129,130,131,132],(27,18),[(8,7,43),(12,12,42)]⟩,⟨[0,1,2,3,4,5,6,12,18],[6,13,14,15,19,21,76,77,78,115,116,118,120,121,122,123,124,125,127,128,129,130,131,132],(28,18),[(7,6,42)]⟩,⟨[0,1,2,3,5,6,7,12,18],[6,13,14,15,19,20,21,76,77,78,115,121,122,123,124,125,127,128,129,130,131,132],(32,18),[(4,0,42)]⟩,⟨[0,1,2,3,4,5,6,7,8,9],[6,13,14,15,19,21,76,77,78,122,123,124,125,126,127,128,129,130,131,132],(35,8),[(10,9,44)]⟩,⟨[0,1,2,3,4,5,6,7,8,12],[6,13,14,15,19,21,76,77,78,122,123,124,125,127,128,129,130,131,132],(36,7),[(9,8,45)]⟩,⟨[0,1,2,3,4,5,6,7,12,18],[6,13,14,15,19,21,76,77,78,115,121,122,123,124,125,127,128,129,130,131,132],(36,18),[(8,7,46)]⟩,⟨[0,1,2,3,4,5,6,7,8,18],[6,13,14,15,19,21,76,77,78,122,123,124,125,126,127,128,129,130,131,132],(37,7),[(9,8,47)]⟩,⟨[0,1,2,3,4,5,6,7,8,9,10],[6,13,14,15,19,21,76,77,78,123,124,125,126,127,128,129,130,131,132],(40,9),[(11,10,48),(12,12,49),(18,18,50)]⟩,⟨[0,1,2,3,4,5,6,7,8,9,12],[6,13,14,15,19,21,76,77,78,122,123,124,125,127,128,129,130,131,132],(41,8),[(10,9,49)]⟩,⟨[0,1,2,3,4,5,6,7,8,12,18],[6,13,14,15,19,21,76,77,78,122,123,124,125,127,128,129,130,131,132],(42,7),[(9,8,51)]⟩,⟨[0,1,2,3,4,5,6,7,8,9,18],[6,13,14,15,19,21,76,77,78,122,123,124,125,126,127,128,129,130,131,132],(43,8),[(10,9,50)]⟩,⟨[0,1,2,3,4,5,6,7,8,9,10,11],[6,13,14,15,19,21,76,77,78,125,126,127,128,129,130,131,132],(44,10),[(12,12,52),(18,18,53)]⟩,⟨[0,1,2,3,4,5,6,7,8,9,10,12],[6,13,14,15,19,21,76,77,78,123,124,125,127,128,129,130,131,132],(44,12),[(11,10,52),(18,18,54)]⟩,⟨[0,1,2,3,4,5,6,7,8,9,10,18],[6,13,14,15,19,21,76,77,78,123,124,125,126,127,128,129,130,131,132],(44,18),[(11,10,53),(12,12,54)]⟩,⟨[0,1,2,3,4,5,6,7,8,9,12,18],[6,13,14,15,19,21,76,77,78,122,123,124,125,127,128,129,130,131,132],(46,8),[(10,9,54)]⟩,⟨[0,1,2,3,4,5,6,7,8,9,10,11,12],[6,13,14,15,19,21,76,77,78,125,127,128,129,130,131,132],(48,12),[(13,13,55),(18,18,56)]⟩,⟨[0,1,2,3,4,5,6,7,8,9,10,11,18],[6,13,14,15,19,21,76,77,78,125,126,127,128,129,130,131,132],(48,18),[(12,12,56)]⟩,⟨[0,1,2,3,4,5,6,7,8,9,10,12,18],[6,13,14,15,19,21,76,77,78,123,124,125,127,128,129,130,131,132],(49,18),[(11,10,56)]⟩,⟨[0,1,2,3,4,5,6,7,8,9,10,11,12,13],[6,13,14,15,19,21,76,77,78,125,128,129,130,131,132],(52,13),[(14,14,57),(18,18,58)]⟩,⟨[0,1,2,3,4,5,6,7,8,9,10,11,12,18],[6,13,14,15,19,21,76,77,78,125,127,128,129,130,131,132],(52,18),[(13,13,58)]⟩,⟨[0,1,2,3,4,5,6,7,8,9,10,11,12,13,14],[6,13,14,15,19,21,76,77,78,129,130,131,132],(55,14),[(15,15,59)]⟩,⟨[0,1,2,3,4,5,6,7,8,9,10,11,12,13,18],[6,13,14,15,19,21,76,77,78,125,128,129,130,131,132],(55,18),[(14,14,60)]⟩,⟨[0,1,2,3,4,5,6,7,8,9,10,11,12,13,14,15],[6,13,14,15,19,21,76,77,78,129,130,131,132],(57,15),[(16,16,61)]⟩,⟨[0,1,2,3,4,5,6,7,8,9,10,11,12,13,14,18],[6,13,14,15,19,21,76,77,78,129,130,131,132],(58,14),[(15,15,62)]⟩,⟨[0,1,2,3,4,5,6,7,8,9,10,11,12,13,14,15,16],[6,13,14,15,19,21,76,77,78,130,131,132],(59,16),[(17,17,63),(18,18,64)]⟩,⟨[0,1,2,3,4,5,6,7,8,9,10,11,12,13,14,15,18],[6,13,14,15,19,21,76,77,78,129,130,131,132],(60,15),[(16,16,64)]⟩,⟨[0,1,2,3,4,5,6,7,8,9,10,11,12,13,14,15,16,17],[6,13,14,15,19,21,76,77,78,132],(61,17),[(18,18,65)]⟩,⟨[0,1,2,3,4,5,6,7,8,9,10,11,12,13,14,15,16,18],[6,13,14,15,19,21,76,77,78,130,131,132],(61,18),[(17,17,65)]⟩,⟨[0,1,2,3,4,5,6,7,8,9,10,11,12,13,14,15,16,17,18],[6,13,14,15,19,21,76,77,78,132],(63,18),[]⟩],[19]⟩),(31,⟨[0,1,2,3,4,5,6,7,8,9,10,11],[0,1,2,3,4,5,6,7,8],[9,10,11],[],[]⟩)],ct := [22,26,27,28,29,30,31] } [My,aex,ae3,Uh,G8,afa,adC,Ug,adE,TN,TM] ⟨Uk,atp,atP,aeu,Mg,atW,arO,aet,arP,adD,adB,trivial⟩ [] trivial Tryz.func23 (by kernel_rfl) fun ai res h hp => ?_;obtain⟨(l:List ar),(ws:List Wt),rfl,rfl⟩:=dh h;clear h;have kL:l.length<=1000000000000/\ws.length<=1000000000000:=hp;have hl:=kL.1;have hw:=kL.2;refine bW ((jd l ws).getD []) fun S hS => ?_;refine bW (kM l ws) fun R hR => ?_;refine⟨[(10,atY S)],?_⟩
 conv=>arg 1; cbv
 simp (maxSteps:=4000000) only [aK,bu,bn,bX];refine⟨hl,fun c1 => ?_,fun c1=>⟨hw,fun c2 => ?_,fun c2=>⟨fun c3 => ?_,fun c3=>⟨⟨?_,c2,?_⟩,fun c4 => ?_,fun c4=>⟨⟨bO _,rfl,rfl,rfl,rfl,rfl,rfl,rfl⟩,fun (k:Nat) hk => ?_⟩⟩⟩⟩⟩
 . unfold kM; rw [aC (by rw [c1]; rfl)]; exact⟨rfl,rfl⟩
 . unfold kM; rw [aC (by rw [c2,Ob])]; exact⟨rfl,rfl⟩
 . unfold kM; rw [aw (by rw [c1,c2]; decide),aC oo]; exact⟨rfl,rfl⟩
 . simpa using c1
 . omega
 . unfold kM; rw [aw (by rw [c1,c2]; decide),aw oo];have:jd l ws=none:=by
    cases h:jd l ws with
    | none=>rfl
    | some S2=>rw [h] at c4; cases c4
   rw [this];exact⟨rfl,rfl⟩
 have e9:k<=S.length:=hk;clear hk;have tp:jd l ws=some S:=by
  cases h:jd l ws with
  | none=>rw [h] at c4; cases c4
  | some S2=>rw [h] at hS; rw [<- hS]; rfl
 have Ut:gP l=true:=by simpa using c1
 obtain⟨r1,r2,r3,r4⟩:=Bw Ut;obtain⟨s0,s1,s2,s3,s4,s5⟩:=aeZ r3 r1 r2 r4 (MG c2) tp;have Uu:R=if 500000000<(aB S).a0 then ([],3) else (zd l S,0):=by
  rw [<- hR]; unfold kM; rw [aw (by rw [c1,c2]; decide),aw oo,tp]
 have Uv:=hR.symm;have Dv:=(afd Ut c2 tp).2;clear c1 c4 hS hR;have b0:=fun j=>sx zc S j;have b1:=fun j=>sx DM S j;have b2:=fun j=>sx Bq S j;have b3:=fun j=>sx DN S j;have b4:=fun j=>sx Br S j;have b5:=fun j=>sx su S j
 conv=>arg 1; cbv
 simp (maxSteps:=4000000) only [aK,bu,bn,bX];have qI:(jd l ws).getD []=S:=by rw [tp]; rfl
 simp only [qI];have bS:S.take S.length=S:=uk;have As:∀ j,j<S.length->aB (S.take (j+1))=(aB (S.take j)).add (S.getD j Tc.qw.aa):=fun j hj=>by
  rw [atE S hj,aX,bc hj];rfl
 have hlen:S.length=l.length - 1:=(afd Ut c2 tp).1;refine⟨fun g => ?_,fun g => ?_⟩
 . have ah:k<S.length:=oo
   have e:=As k ah;have q0:=b0 (k+1);have q1:=b1 (k+1);have q2:=b2 (k+1);have q3:=b3 (k+1);have q4:=b4 (k+1);have q5:=b5 (k+1);rw [e] at q0 q1 q2 q3 q4 q5;unfold ak.add at q0 q1 q2 q3 q4 q5;simp only [e,bq];dsimp only at q0 q1 q2 q3 q4 q5;exact⟨⟨oo,oo⟩,⟨⟨oo,oo,oo⟩,oo,oo,oo⟩,oo,⟨oo,oo⟩,oo,by first|trivial|exact⟨rfl,rfl,rfl,rfl,rfl,rfl⟩|exact⟨trivial,trivial,trivial,trivial,trivial,trivial⟩⟩
 have hkS:k=S.length:=oo
 subst hkS;simp only [bS];clear g e9;have i0:bq 0:=ii
 have afe:=u9 i0;have z0:=b0 S.length;have z1:=b1 S.length;have z2:=b2 S.length;have z3:=b3 S.length;have z4:=b4 S.length;have z5:=b5 S.length;rw [bS] at z0 z1 z2 z3 z4 z5;have i1:bq (aB S).a1:=ii
 have i5:bq (aB S).a5:=ii
 have ML:=u9 i1;have aff:=u9 i5;have MM:∀ W k s f,bj (kE (oc W k s f))=oc W k s f:=fun W k s f=>S5 _ _;have eK:(jZ (jh (cS (aB S).a1) (oc (aB S).a0 (cS 0) (aB S).a3 0)).1 (cS (aB S).a5)).1=kF S:=rfl;simp only [wY,tG,GM,S7,afe,ML,aff,MM,eK,i0,i1,i5,bu,bn];have hKf:bj (kE (kF S))=kF S:=S7 _ _;have qt:∀ d:¬ 500000000<(aB S).a0,kM l ws=(zd l S,0):=fun d=>by rw [<- Uv,Uu,aw d]
 refine⟨fun d => ?_,fun d=>⟨?_,fun _ _ => ?_⟩⟩
 . rw [<- Uv,Uu,aC d]; exact⟨rfl,rfl⟩
 . have:=qb (a:=(aB S).a0) (A:=500000000) (b:=(aB S).a3) (B:=10000000000) oo oo;simp only [bq];omega
 rw [qt d];clear qt Uu Uv eK afe ML aff i0 i1 i5;refine bW ((zd l S).map ze) fun Q hQ => ?_;refine bW (kF S) fun K hK => ?_;refine bW l.length fun n hn => ?_;rw [hK] at hKf;simp only [hK]
 conv=>arg 1; cbv
 refine⟨atZ S Q K n,?_⟩
 conv=>arg 1; cbv
 simp (maxSteps:=4000000) only [aK,bu,bn,bX];refine⟨⟨bO _,rfl,rfl,rfl,rfl,rfl,rfl,rfl,rfl⟩,fun (j:Nat) hj => ?_⟩;have gE:j<=n:=hj;clear hj
 conv=>arg 1; cbv
 simp (maxSteps:=4000000) only [aK,bu,bn,bX];have aI:=xh none l r3;have hQl:Q.length=n:=by rw [<- hQ,fk,<- hn]; unfold zd; rw [fk,IK]
 have at1:(∀ q,bq (aB (S.take q)).a0/\bq (aB (S.take q)).a1/\bq (aB (S.take q)).a4/\bq (aB (S.take q)).a5)/\∀ q,bq ((aB S).a0*(aB (S.take q)).a2)/\bq ((aB S).a0*(aB (S.take q)).a3):=by
  refine⟨fun q => ?_,fun q => ?_⟩
  . have:=b0 q;have:=b1 q;have:=b4 q;have:=b5 q;simp only [bq];omega
  . have h2:=b2 q;have h3:=b3 q;have m2:=qb (a:=(aB S).a0) (A:=500000000) (b:=(aB (S.take q)).a2) (B:=10000) oo oo;have m3:=qb (a:=(aB S).a0) (A:=500000000) (b:=(aB (S.take q)).a3) (B:=10000000000) oo oo;simp only [bq];omega
 obtain⟨hA1,Uw⟩:=at1;obtain⟨t0,t1,t4,t5⟩:=hA1 j;obtain⟨t2,t3⟩:=Uw j;have Ux:j<n->Q.take (j+1)=Q.take j ++ [⟨kE (tW S (aB S).a0 K j),kE (jZ (DP l S (aB S).a0 K j) (cS 2)).1⟩]:=fun ah=>by
  rw [qa Tc.cr.aa oo];congr 2;rw [<- hQ,aX];unfold zd;rw [hn,hK,xE,ga,IG ah];rfl
 refine⟨fun g=>⟨⟨oo,oo⟩,fun g0 => ?_,fun g0 => ?_⟩,fun g => ?_⟩
 . have e:=As (j - 1) oo;rw [show j - 1+1=j from oo] at e;refine fun _ _ => ?_
   conv=>arg 1; cbv
   simp (maxSteps:=4000000) only [aK,true_and,and_true,eq_self];simp only [atX,<- e];have q0:=b0 j;have q1:=b1 j;have q2:=b2 j;have q3:=b3 j;have q4:=b4 j;have q5:=b5 j;rw [e] at q0 q1 q2 q3 q4 q5;unfold ak.add at q0 q1 q2 q3 q4 q5;dsimp only at q0 q1 q2 q3 q4 q5;refine⟨ii,⟨oo,oo⟩,⟨⟨ii,ii,ii⟩,ii,ii,ii⟩,?_⟩;clear q0 q1 q2 q3 q4 q5;refine fun _ _ => ?_
   exact no_implicit_lambda% s_3
 . have e:aB (S.take (j - 1))=aB (S.take j):=by rw [show j - 1=j from oo]
   simp only [e];refine fun _ _ => ?_
   exact no_implicit_lambda% s_3
 . rw [jC oo];exact hQ.symm
def DQ(l:List ar)(i:Nat):aY:=(jZ (cS (bV l i+bV l (i+1))) (cS 2)).1
def vv(l:List ar)(i:Nat):Int:=(l.getD i eV).ch
def iP:Wt:=⟨0,0⟩
def xk(l:List ar):Nat->Int
 | 0=>0
 | i+1=>xk l i+vv l i
def MN(l:List ar):Nat->aY
 | 0=>cS 0
 | i+1=>(kj (MN l i) (mulL (cS (vv l i)) (DQ l i)).1).1
def zf(a:Int)(ws:List Wt):Nat->Int
 | 0=>a
 | i+1=>zf a ws i+(ws.getD i iP).aq
def Uy(m:aY)(ws:List Wt):Nat->aY
 | 0=>m
 | i+1=>(kj (Uy m ws i) (mulL (cS (ws.getD i iP).aq) (cS (ws.getD i iP).x)).1).1
def Hl(l:List ar)(ws:List Wt):Int:=zf (xk l (l.length - 1)) ws ws.length
def tX(l:List ar)(ws:List Wt):aY:=Uy (MN l (l.length - 1)) ws ws.length
theorem getD_some{α:Type}{l:List α}(a : α)(h:i<l.length):l[i]? = some (l.getD i a):=by
 rw [aX,bc h];rfl
theorem afi{l:List ar}(aI:∀ f∈l,f.ok=true):∀ i,i<=l.length->0<=xk l i/\xk l i<=500000000*(i:Int)
 | 0,_=>by unfold xk; omega
 | i+1,h=>by
  have ih:=afi aI i oo;have h1:=(ar.nA (aI _ (eY (getD_some eV (show i<l.length from oo))))).2.1;unfold xk vv;omega
theorem afj{ws:List Wt}{a:Int}(aI:∀ x∈ws,0<=x.aq/\x.aq<=500000000):∀ i,i<=ws.length->a<=zf a ws i/\zf a ws i<=a+500000000*(i:Int)
 | 0,_=>by unfold zf; omega
 | i+1,h=>by
  have ih:=afj (a:=a) aI i oo;have h1:=aI _ (eY (getD_some iP (show i<ws.length from oo)));unfold zf;omega
def MO(l:List ar):Nat->Int
 | 0=>0
 | i+1=>MO l i+bV l i+bV l (i+1)
def xl(l:List ar)(i:Nat):Int:=((l.length - 1:Nat):Int)*(bV l i+bV l (i+1)) - MO l (l.length - 1)
def Bx(l:List ar)(W:Int)(i:Nat):aY:=(jZ (mulL (cS W) (cS (l.getD i eV).share)).1 (cS 10000)).1
def Uz(l:List ar)(W:Int)(M:aY):Nat->aY
 | 0=>M
 | i+1=>(jh (Uz l W M i) (mulL (Bx l W i) (DQ l i)).1).1
def UA(l:List ar):Nat->aY
 | 0=>cS 0
 | i+1=>(kj (UA l i) (mulL (cS (xl l i)) (DQ l i)).1).1
def kV(l:List ar)(W:Int)(M:aY):aY:=(jZ (Uz l W M (l.length - 1)) (UA l (l.length - 1))).1
def afk(l:List ar)(W:Int)(M:aY)(i:Nat):aY:=(kj (Bx l W i) (mulL (kV l W M) (cS (xl l i))).1).1
theorem afl(aI:∀ f∈l,f.ok=true)(h:i<l.length) : -500000<=bV l i/\bV l i<=500000:=(ar.nA (aI _ (eY (getD_some eV h)))).1
def UB(l:List ar)(W:Int)(M:aY)(i:Nat):aY:=(jh (afk l W M i) (cS (vv l i))).1
def UC(l:List ar)(W:Int)(M:aY)(j:Nat):Nat->aY
 | 0=>cS 0
 | t+1=>(kj (UC l W M j t) (UB l W M (j+t))).1
def UD(l:List ar)(W:Int)(M:aY)(j:Nat):Nat->aY
 | 0=>cS 0
 | t+1=>(jh (UD l W M j t) (mulL (UB l W M (j+t)) (jh (DQ l (j+t)) (cS (bV l j))).1).1).1
def Hm(s:aY)(ws:List Wt)(xj:Int):Nat->aY
 | 0=>s
 | k+1=>if xj<=(ws.getD k iP).x then (jh (Hm s ws xj k) (cS (ws.getD k iP).aq)).1 else Hm s ws xj k
def Hn(b:aY)(ws:List Wt)(xj:Int):Nat->aY
 | 0=>b
 | k+1=>if xj<=(ws.getD k iP).x then (kj (Hn b ws xj k) (mulL (cS (ws.getD k iP).aq) (cS ((ws.getD k iP).x - xj))).1).1 else Hn b ws xj k
def UE(l:List ar)(ws:List Wt)(W:Int)(M:aY)(j:Nat):kd :=
 ⟨Hm (UC l W M j (l.length - 1 - j)) ws (bV l j) ws.length,Hn (UD l W M j (l.length - 1 - j)) ws (bV l j) ws.length⟩
def tY(l:List ar)(x:Wt):Bool:=decide (x.x<bV l 0)||decide (bV l (l.length - 1)<=x.x)
def UF(l:List ar)(ws:List Wt):List kd×Int:=if 500000000<Hl l ws then ([],3) else ((List.range l.length).map (UE l ws (Hl l ws) (tX l ws)),0)
def MP(l:List ar)(ws:List Wt):List kd×Int:=if ws.any (tY l) then ([],6) else UF l ws
def MQ(l:List ar)(ws:List Wt):List kd×Int:=if 3000<ws.length then ([],5) else MP l ws
def UG(l:List ar)(ws:List Wt):List kd×Int:=if ws.any lJ then ([],2) else MQ l ws
def UH(l:List ar)(ws:List Wt):List kd×Int:=if !gP l then ([],2) else UG l ws
theorem at3(h:ws.any lJ=true):UG l ws=([],2):=aC h
theorem at4(h:ws.any lJ=false):UG l ws=MQ l ws:=aw (by rw [h]; simp)
theorem at5(h:3000<ws.length):MQ l ws=([],5):=aC h
theorem at6(h:¬ 3000<ws.length):MQ l ws=MP l ws:=aw h
theorem at7(h:ws.any (tY l)=true):MP l ws=([],6):=aC h
theorem at8(h:ws.any (tY l)=false):MP l ws=UF l ws:=aw (by rw [h]; simp)
open Go.RowKit
def cO(l:List ar):Int:=(l.map ar.ch).foldr (· + ·) 0
theorem at9{k:Nat}(h:k<l.length):cO (l.take (k+1))=cO (l.take k)+(l.getD k Tc.bZ.aa).ch:=by
 rw [qa Tc.bZ.aa h];generalize l.take k=m;generalize l.getD k Tc.bZ.aa=f;unfold cO
 exact aez
theorem afm:∀ (l) (s),(∀ f∈l,f.ok=true)->(jQ s l<=500000000↔s+cO l<=500000000)/\0<=cO l
 | [],s,_=>⟨by show s<=500000000↔s+0<=500000000; omega,rD _⟩
 | f::l,s,h=>by
  have hf:=(ar.nA (h f (.head _))).2.1;have e:cO (f::l)=f.ch+cO l:=rfl;unfold jQ;obtain⟨i1,i2⟩:=afm l (if s<=500000000 then s+f.ch else s) fun g hg=>h g (.tail _ hg);rw [i1,e];refine⟨?_,oo⟩;split<;>omega
def afn:aN:=fY 112 r7 (fun l=>(l ()).length<=1000000000000/\∀ b∈l (),b.num.size<=140737488351232) (fun l => .ba [.int .i64 fun _=>(jP (l ())).1,.int .i64 fun _=>(jP (l ())).2])
def vw(l:List aJ):Nat->List Kx->Option Int
 | 0=>fun _=>none
 | k+1=>cond (decide (((l.getD k Tc.box.aa).num)=j3)) (vw l k) (eB (vw l k) [.s (l.getD k Tc.box.aa).num] (k:Int))
def lpV(l:List aJ):Lp where
 X:=Nat
 ov k := [(16,.int .i64 fun _=>(k:Int)),(5,.int .i64 fun _=>vp l k)]
 oe k := [(0,.map true false (.one .str) .int 271 fun _=>vw l k)]
 I k:=k<=l.length/\∀ j,j<k->lX l j=false
 μ k _:=l.length - k
 x0:=0
 nx:=some fun k=>k+1
theorem afo(l)(s):∀ k,k<=l.length->(vw l k [.s s]).isSome=vo l k s
 | 0,_=>by rw [asZ]; rfl
 | k+1,hk=>by
  have ih:=afo l s k oo;have Dv:si=j3:=rfl;rw [as0 l k s oo,<- ih,Dv];have e:l.getD k Tc.box.aa=l[k]:=by simp [aX,bc (show k<l.length from oo)]
  have hu:vw l (k+1)=cond (decide ((l.getD k Tc.box.aa).num=j3)) (vw l k) (eB (vw l k) [.s (l.getD k Tc.box.aa).num] (k:Int)):=rfl;rw [hu,e];by_cases hn:l[k].num=j3
  . simp only [hn,rB,eG,gg,B8,fS]
  . simp only [hn,vP,gj,WN,eu];unfold eB;by_cases hs:l[k].num=s
    . simp only [hs,eO,Option.isSome_some,rB,Ob]
    . have:¬ [Kx.s s] = [Kx.s l[k].num]:=by simpa using fun e=>hs e.symm
      simp only [hs,this,dw,vP,fS]
theorem aub:aU Tryz.prog afn:=by
 refine cD [aef] ⟨atc,trivial⟩ Tryz.func112 (by kernel_rfl) fun ai res h hp => ?_;obtain⟨(l:List aJ),rfl,rfl⟩:=gM h;clear h;have Ho:l.length<=1000000000000/\∀ b∈l,b.num.size<=140737488351232:=hp;have oV:=Ho.1;have fX:=Ho.2;refine⟨[(5,lpV l)],?_⟩
 conv=>arg 1; cbv
 refine⟨fun h1 => ?_,fun h1=>⟨?_,fun (k:Nat) hk => ?_⟩⟩
 . simp only [aL,gX] at h1;have h2:jP l=(-1,5):=by unfold jP; rw [aC oo]
   simp only [GA,Dj,wV,h2,IS]
 . refine⟨⟨bO _,fun j hj=>absurd hj (rz j)⟩,?_⟩;simp only [GA,Dj,wV,Sa];exact⟨rfl,(as1 l).symm,rfl⟩
 . conv=>arg 1; cbv
   have cp:k<=l.length/\∀ j,j<k->lX l j=false:=hk;have cR:=cp.1;have bU:=cp.2;have h5:l.length<=2000:=by simp only [fQ,gX] at h1; omega
   simp only [LD,R8,GA,wV,Dj,Sa,gX,ab6,fE,aL,fQ,afo l _ k cR];refine⟨fun h2=>⟨oo,?_⟩,fun h2 => ?_⟩
   . have ah:k<l.length:=oo
     have e:l.getD k Tc.box.aa=l[k]:=by simp [aX,bc ah]
     have nu:lX l k=(vo l k l[k].num||decide (l[k].id<=vp l k) || !nv l[k]):=by unfold lX; rw [bc ah]
     simp only [e];have hf:lX l k=true->(k:Int)=(jP l).1/\60=(jP l).2:=fun h=>by rw [asX h5 ah bU h]; exact⟨rfl,rfl⟩
     refine⟨fun h3=>hf (by rw [nu,h3]; rfl),fun h3=>⟨fun h4=>hf (by rw [nu,h3]; simp [h4]),fun h4=>⟨fX _ (iT ah),fun h6=>hf ?_,fun h6 => ?_⟩⟩⟩
     . rw [nu];have UI:(!nv l[k])=true:=h6;rw [UI];simp
     . have UI:(!nv l[k])=false:=h6;have Hp:lX l k=false:=by rw [nu,h3,UI]; simp [h4]
       have hI:k+1<=l.length/\∀ j,j<k+1->lX l j=false:=⟨ah,fun j hj=>by
        rcases b9 j k with h|h
        . exact bU j h
        . rw [show j=k from oo]; exact Hp⟩
       have hM:vw l (k+1)=cond (decide (l[k].num=j3)) (vw l k) (eB (vw l k) [.s l[k].num] (k:Int)):=by
        show cond _ _ _=_
        rw [e]
       have rO:bq ((k:Int)+1)/\((k+1<=l.length/\∀ j,j<k+1->lX l j=false)/\l.length - (k+1)<l.length - k)/\(k:Int)+1=((k+1:Nat):Int)/\l[k].id=vp l (k+1):=⟨⟨oo,oo⟩,⟨hI,oo⟩,oo,(aec l k ah).symm⟩
       refine⟨fun h7=>⟨rO.1,rO.2.1,rO.2.2.1,rO.2.2.2,?_⟩,fun h7=>⟨rO.1,rO.2.1,rO.2.2.1,rO.2.2.2,?_⟩⟩
       . have h8:(!decide (l[k].num=j3))=true:=h7;have UJ:decide (l[k].num=j3)=false:=by simpa using h8
         rw [hM,UJ];rfl
       . have h8:(!decide (l[k].num=j3))=false:=h7;have UJ:decide (l[k].num=j3)=true:=by simpa using h8
         rw [hM,UJ];rfl
   . have:k=l.length:=oo
     subst this;rw [asY h5 bU];exact⟨rfl,rfl⟩
def sy(c:dv):List wa := [⟨c.cX,0,39⟩,⟨c.row,0,30⟩,⟨c.cY,1,10⟩,⟨c.ma,0,40000⟩,⟨c.xP,0,500000000⟩,⟨c.xQ,0,500000000⟩,⟨c.xR,0,1000000000000⟩,⟨c.x,-500000,500000⟩,⟨c.y,-500000,500000⟩,⟨c.z,-500000,500000⟩]
def qY(t:Int)(l:List Int)(i:Nat):Bool:=decide (0<=l.getD i 0)&&decide (l.getD i 0<=t)&&(decide (i=0)||decide (l.getD (i - 1) 0<l.getD i 0))
def lZ(t:Int)(l:List Int):Bool:=decide (∀ i,i<l.length->qY t l i=true)
def jR(c:dv):Bool:=lZ (c.cY - 1) c.fT&&(sy c).all ny
theorem afp{l:List Int}{k:Nat}(hk:k<l.length)(h:qY t l k=false):lZ t l=false:=by
 unfold lZ;rw [fQ];intro h2;rw [h2 k hk] at h;cases h
theorem afq{l:List Int}{k:Nat}(hk:l.length<=k)(h:∀ j,j<k->qY t l j=true):lZ t l=true:=by
 unfold lZ;rw [aL];exact fun i hi=>h i oo
def auc:aN:=fY 211 SM (fun c=>(c ()).fT.length<=1000000000000/\bq ((c ()).cY - 1)) (fun c => .bool fun _=>jR (c ()))
def aud(c:dv):Lp where
 X:=Nat
 ov k := [(9,.int .i64 fun _=>(k:Int))]
 oe _ := []
 I k:=k<=c.fT.length/\∀ j,j<k->qY (c.cY - 1) c.fT j=true
 μ k _:=c.fT.length - k
 x0:=0
 nx:=some fun k=>k+1
theorem afr:aU Tryz.prog auc:=by
 refine cD [Ud] ⟨aem,trivial⟩ Tryz.func211 (by kernel_rfl) fun ai res h hp => ?_;obtain⟨(c:dv),rfl,rfl⟩:=gM h;clear h;have eM:c.fT.length<=1000000000000/\bq (c.cY - 1):=hp;have h1:=eM.1;have h2:=eM.2;refine⟨[(3,aud c)],?_⟩
 conv=>arg 1; cbv
 refine⟨?_,fun (k:Nat) hk => ?_⟩
 . exact vn
 . conv=>arg 1; cbv
   have cp:k<=c.fT.length/\∀ j,j<k->qY (c.cY - 1) c.fT j=true:=hk;have cR:=cp.1;have bU:=cp.2;simp (maxSteps:=4000000) only [aK];refine⟨fun h => ?_,fun h => ?_⟩
   . have h3:k<c.fT.length:=oo
     have ha:=afp (t:=c.cY - 1) h3;have hb:=vm (k:=k) bU;have hc:jR c=(lZ (c.cY - 1) c.fT&&(sy c).all ny):=rfl;have he:qY (c.cY - 1) c.fT k=((decide (0<=c.fT.getD k Tc.int.aa)&&decide (c.fT.getD k Tc.int.aa<=c.cY - 1))&&(decide (k=0)||decide (c.fT.getD (k - 1) Tc.int.aa<c.fT.getD k Tc.int.aa))):=rfl;generalize c.fT.getD k Tc.int.aa=x at *
     generalize c.fT.getD (k - 1) Tc.int.aa=y at *
     rw [hc];clear hc bU;generalize qY (c.cY - 1) c.fT=R at *
     generalize (sy c).all ny=z at *
     simp only [bq,ny,IQ,List.all_nil,ib,cB,ej] at *
     grind
   . have hc:jR c=(sy c).all ny:=by unfold jR; rw [afq oo bU,eu]
     rw [hc];exact⟨by simp,rfl⟩
def afs:aN:=⟨211,[],fun
 | [.agg [.int .i64 a,.int .i64 b,.bool d,.lit .i64 n,.int .i64 h,.int .i64 i,.int .i64 j,.int .i64 k,.sl false .int l,.int .i64 x,.int .i64 y,.int .i64 z]]=>if n = -9223372036854775808 then some ⟨fun _=>(l ()).length<=1000000000000,.bool fun _=>false⟩ else none
 | _=>none⟩
def aue(l:List Int):Lp where
 X:=Nat
 ov k := [(9,.int .i64 fun _=>(k:Int))]
 oe _ := []
 I k:=k<=l.length
 μ k _:=l.length - k
 x0:=0
 nx:=some fun k=>k+1
theorem auf:aU Tryz.prog afs:=by
 refine cD [Ud] ⟨aem,trivial⟩ Tryz.func211 (by kernel_rfl) fun ai res h hp => ?_;simp only [afs] at h;split at h
 case h_2=>cases h
 rename_i a b d n hh i j k l x y z;split at h
 case isFalse=>cases h
 rename_i hn;subst hn;cases h;obtain⟨l,rfl⟩:=eta (α:=List Int) l;have hl:l.length<=1000000000000:=hp;refine⟨[(3,aue l)],?_⟩
 conv=>arg 1; cbv
 refine⟨?_,fun (k:Nat) hk => ?_⟩
 . exact vn
 have cR:k<=l.length:=hk;refine fm ?_;have hN:k<l.length->bq ((k:Int)+1)/\(k+1<=l.length/\l.length - (k+1)<l.length - k)/\(k:Int)+1=((k+1:Nat):Int):=fun h=>⟨ii,⟨oo,oo⟩,oo⟩
 exact⟨fun g=>⟨⟨oo,oo⟩,by simp,fun _=>trivial,fun _=>⟨fun g1=>⟨ii,⟨oo,oo⟩,fun _=>trivial,fun _=>hN oo⟩,fun g1=>hN oo⟩⟩,fun g=>⟨by simp,by simp [ny]⟩⟩
theorem aug{w:World}{ρ:Nat->Option Rl}{ro:Nat->Prop}{l:List AV}{vs:List Value}{k:IntKind}{n:Unit->Int}(h:aV w ρ base ro l vs)(hi:l[i]? = some (.int k n)):aV w ρ base ro (l.set i (.lit k (n ()))) vs:=by
 refine⟨by rw [nH]; exact h.1,fun j x v h1 h2 => ?_⟩;rw [ru] at h1;split at h1
 . rename_i e;subst e;split at h1
   . cases h1;rw [(h.2 i _ v hi h2).iw];exact .lit _ _
   . cases h1
 . exact h.2 j x v h1 h2
def afu:aN:=fY 211 SM (fun c=>(c ()).fT.length<=1000000000000/\bq (c ()).cY) (fun c => .bool fun _=>jR (c ()))
theorem auh:aU Tryz.prog afu:=by
 refine⟨afr.1,fun ai res h w ra dM ah hE hp => ?_⟩;obtain⟨(c:dv),rfl,rfl⟩:=gM h;clear h;have cQ:c.fT.length<=1000000000000/\bq c.cY:=hp;by_cases ht:c.cY = -9223372036854775808
 . obtain⟨v,us,rfl,hv,h2⟩:=hE.head;obtain rfl:=h2.none;obtain⟨vs,rfl,h3⟩:=hv.oK;have h4:=aug (i:=3) h3 rfl;have hc:jR c=false:=by
    unfold jR sy ny;simp [ht]
   have h5:=auf.2 [.agg ((LI fun _=>c).set 3 (.lit .i64 c.cY))] ⟨fun _=>c.fT.length<=1000000000000,.bool fun _=>false⟩ (aC ht) w ra [.agg vs.toArray] ah (.cons (.agg _ _ h4.1 h4.2) .nil) cQ.1;rw [show (AV.bool fun _=>jR ((fun _=>c) ()))=AV.bool fun _=>false by rw [hc]];exact h5
 . exact afr.2 [.agg (LI fun _=>c)] ⟨fun _=>c.fT.length<=1000000000000/\bq (c.cY - 1),.bool fun _=>jR c⟩ rfl w ra dM ah hE ⟨cQ.1,by have:=cQ.2; simp only [bq] at this ⊢; omega⟩
end Go.Proofs.YtamjbkaclhgffaaGreat
