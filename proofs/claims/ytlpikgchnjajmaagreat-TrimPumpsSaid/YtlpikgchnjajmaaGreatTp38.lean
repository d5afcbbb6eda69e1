/-
  moment.Find by the abstract run.
-/
import Derived.Test.YtlpikgchnjajmaaGreatTp37
set_option linter.all false
set_option maxRecDepth 100000
set_option maxHeartbeats 4000000
namespace Go.Proofs.YtlpikgchnjajmaaGreat
open Go.RowKit
variable{l:List bX}{base k:Nat}
def agj:aH:=dU 155 yO (fun _=>True) (fun x => .aU [.agg (atr fun _=>(findF (x ())).1),.int .i64 fun _=>(findF (x ())).2])
theorem avA:aK Tryz.prog agj:=by
 refine eE { kp := [(0,[0]),(1,[1,2]),(2,[2]),(3,[1,2]),(4,[2]),(5,[1,2]),(6,[1,2,4]),(7,[1,2,4,6]),(8,[2,4,6,8])],lt := [],ct := [3,5] } [abS,G6] ⟨apu,Mf,trivial⟩ [] trivial Tryz.func155 (by kernel_rfl) fun ai res h hp => ?_;obtain⟨(x:Ld),rfl,rfl⟩:=eu h;clear h;refine⟨[],?_⟩
 conv=>arg 1; cbv
 simp (maxSteps:=4000000) only [aB,aR,aS,bw];have eL:(⟨x.af,x.x,x.y,x.z⟩:Ld)=x:=rfl;have eT:∀ {F:y5×Int} {c:y5} {e:Int},F=(c,e)->F.1.x=c.x/\F.1.y=c.y/\F.1.z=c.z/\F.2=e:=fun h=>by rw [h]; exact⟨rfl,rfl,rfl,rfl⟩
 rw [eL];refine⟨fun c => ?_,fun c => ?_⟩
 . obtain⟨z1,z2,z3,z4⟩:=eT (F:=findF x) (c:=LW) (e:=2) (by unfold findF; rw [ar (by simpa using c)]);exact cz z1 (cz z2 (cz z3 z4.symm))
 have bS:cC x=true:=by simpa using c
 have hn:=yP bS;refine fun _ _ => ?_
 conv=>arg 1; cbv
 simp (maxSteps:=4000000) only [aB,aR,aS,bw];refine⟨fun c1 => ?_,fun c1 => ?_⟩
 . obtain⟨z1,z2,z3,z4⟩:=eT (F:=findF x) (c:=LW) (e:=6) (by unfold findF; rw [aw bS,aw c1]);exact cz z1 (cz z2 (cz z3 z4.symm))
 refine fun _ _ => ?_
 conv=>arg 1; cbv
 simp (maxSteps:=4000000) only [aB,aR,aS,bw];have hF:findF x=(⟨(fI x.x x.af).1,(fI x.y x.af).1,(fI x.z (2*x.af)).1⟩,0):=by
  unfold findF;rw [aw bS,ar c1]
 rw [hF];have i1:aY x.af:=ii
 have i2:aY x.x:=ii
 have i3:aY x.y:=ii
 have i4:aY x.z:=ii
 have i5:aY (2*x.af):=ii
 exact⟨⟨i2,i1⟩,⟨i3,i1⟩,i5,⟨i4,i5⟩,cq rfl (cq rfl (cq rfl rfl))⟩
def fX(l:List bX)(k:Nat):List Int:=(l.getD k Tc.bD.aa).steps
def eF(l:List bX):Nat->Int×Int
 | 0=>(1,0)
 | k+1=>if (fX l k).length=0 then eF l k else ((eF l k).1*(fX l k).length,(eF l k).2+1)
def zh(p:Int×Int):Bool:=decide (p.2<=6/\p.1<=4096)
def jX(l:List bX):Int×Int:=if pr l then if zh (eF l l.length) then ((eF l l.length).1,0) else (0,5) else (0,2)
theorem MN(l:List bX):∀ k,1<=(eF l k).1/\0<=(eF l k).2
 | 0=>⟨j3 _,j3 _⟩
 | k+1=>by
  have h:=MN l k;unfold eF;split
  . exact h
  . exact agk
theorem avB(l:List bX)(k:Nat):(eF l k).1<=(eF l (k+1)).1/\(eF l k).2<=(eF l (k+1)).2:=by
 have h:=MN l k;rw [show eF l (k+1)=if (fX l k).length=0 then eF l k else ((eF l k).1*(fX l k).length,(eF l k).2+1) from rfl];split
 . exact⟨j3 _,j3 _⟩
 . exact agk
theorem agl(l:List bX){j:Nat}:∀ k,j<=k->(eF l j).1<=(eF l k).1/\(eF l j).2<=(eF l k).2
 | 0,h=>by rw [show j=0 from oo]; exact⟨j3 _,j3 _⟩
 | k+1,h=>by
  rcases cw j (k+1) with c|c
  . have h1:=agl l (j:=j) k oo;have h2:=avB l k;omega
  . rw [show j=k+1 from oo];exact⟨j3 _,j3 _⟩
theorem Hp{p:Int×Int}:zh p=true↔p.2<=6/\p.1<=4096:=by
 unfold zh;rw [aI]
theorem avC(h:zh (eF l l.length)=true)(hk:k<=l.length):(eF l k).2<=6/\(eF l k).1<=4096:=by
 have h1:=Hp.1 h;have h2:=agl l l.length hk;omega
theorem avD(hk:k<=l.length)(h:6<(eF l k).2\/4096<(eF l k).1):zh (eF l l.length)=false:=by
 cases hB:zh (eF l l.length) with
 | false=>rfl
 | true =>
  have:=avC hB hk;omega
def gN(l:List bX)(w:List Int)(n:Int):Nat->List Int×Int
 | 0=>(w,n)
 | k+1=>if (fX l (l.length - 1 - k)).length=0 then gN l w n k else ((gN l w n k).1.set (l.length - 1 - k) ((fX l (l.length - 1 - k)).getD ((gN l w n k).2 % (fX l (l.length - 1 - k)).length).toNat Tc.int.aa),(gN l w n k).2 / (fX l (l.length - 1 - k)).length)
def py(l:List bX)(w:List Int):Int×Int:=if dR l w then jX l else (0,2)
def fY(l:List bX)(w:List Int)(n:Int):List Int×Int:=if (py l w).2≠0 then ([],(py l w).2) else if n<0\/(py l w).1<=n then ([],6) else ((gN l w n l.length).1,0)
theorem MO(l:List bX)(w:List Int)(n:Int):∀ k,(gN l w n k).1.length=w.length
 | 0=>rfl
 | k+1=>by
  have h:=MO l w n k;unfold gN;split
  . exact h
  . dsimp only;rw [List.length_set,h]
theorem agm(l:List bX)(w:List Int){n:Int}(h0:0<=n):∀ k,0<=(gN l w n k).2/\(gN l w n k).2<=n
 | 0=>⟨h0,j3 _⟩
 | k+1=>by
  have h:=agm l w h0 k;unfold gN;split
  . exact h
  . rename_i c;dsimp only;refine⟨Int.ediv_nonneg h.1 oo,?_⟩;have:=Int.ediv_le_self (fX l (l.length - 1 - k)).length h.1;omega
def tP:List Int->Nat->Int
 | _,0=>0
 | l,k+1=>tP l k+l.getD k Tc.int.aa
theorem agn{l:List Int}{B:Int}(h:∀ k,k<l.length->0<=l.getD k Tc.int.aa/\l.getD k Tc.int.aa<=B):∀ k,k<=l.length->0<=tP l k/\tP l k<=B*k
 | 0,_=>by
  show (0:Int)<=0/\(0:Int)<=B*((0:Nat):Int)
  rw [show ((0:Nat):Int)=0 from rfl,Int.mul_zero];omega
 | k+1,hk=>by
  have h1:=agn h k oo;have h2:=h k oo;have e:B*((k+1:Nat):Int)=B*k+B:=by rw [zq,VF]; simp
  rw [e];show 0<=_+_/\_+_<=_
  omega
def oG(s:aZ)(l:Ld)(w:List Int)(d:Int):Nat->List Int×Int
 | 0=>([],-1)
 | n+1=>if 0<=(oG s l w d n).2/\(oG s l w d n).2<=tP (fY s.aM w n).1 (fY s.aM w n).1.length then oG s l w d n
  else if (kS s l (fY s.aM w n).1).2=0/\Dk (kS s l (fY s.aM w n).1).1 s.m2 s.m3 s.m4 d=0 then ((fY s.aM w n).1,tP (fY s.aM w n).1 (fY s.aM w n).1.length) else oG s l w d n
def rn(s:aZ)(bs:List aJ)(st:List ay)(w:List Int)(d:Int):List Int×Int :=
 if (gM s bs st w).2=2 then ([],2)
 else if (jX s.aM).2≠0 then ([],(jX s.aM).2)
 else if (gM s bs st w).2≠0 then ([],6)
 else if (oG s (gM s bs st w).1 w d (jX s.aM).1.toNat).2<0 then ([],6)
 else ((oG s (gM s bs st w).1 w d (jX s.aM).1.toNat).1,0)
theorem MP{l:List bX}(h:pr l=true)(w:List Int):∀ k,k<=l.length->0<=tL l w k/\tL l w k<=1000000000000*k
 | 0,_=>⟨j3 _,j3 _⟩
 | k+1,hk=>by
  have h1:=MP h w k oo;have h2:=((tK _).1 (((lI l).1 h).2 k oo)).1.2.2.2.2.1;unfold tL;split<;>omega
def ago:aH:=df 154 qP nu (fun l w=>(l ()).length<=1000000000000/\(w ()).length<=1000000000000) (fun l w => .aU [.int .i64 fun _=>(kR (l ()) (w ())).1,.int .i64 fun _=>(kR (l ()) (w ())).2])
theorem avE:aK Tryz.prog ago:=by
 refine FW {} [Hf,Mr] ⟨Mu,Uy,trivial⟩ [] trivial [Mq] ⟨Ux,trivial⟩ Tryz.func154 (by kernel_rfl) fun ai res h hp => ?_;obtain⟨(l:List bX),(w:List Int),rfl,rfl⟩:=dz h;clear h;have nK:l.length<=1000000000000/\w.length<=1000000000000:=hp;have hl:=nK.1;have hw:=nK.2;refine⟨[],?_⟩;refine fm ?_;refine⟨⟨hl,hw⟩,fun c => ?_,fun c => ?_⟩
 . have hB:dR l w=false:=by simpa using c
   unfold kR;rw [hB];exact⟨rfl,rfl⟩
 have hB:dR l w=true:=by simpa using c
 have tA:=((gW l w).1 hB).2.1;have hT:=((gW l w).1 hB).1;have Hg:=((lI l).1 hT).1;refine⟨⟨fun k => [(0,.box 3 [.int .i64 fun _=>tL l w k])],fun k=>True⟩,?_⟩;refine fm ?_;refine⟨⟨⟨hl,oo⟩,rfl⟩,fun (k:Nat) hk => ?_⟩;have cZ:k<=l.length:=hk;clear hk;refine fm ?_;refine⟨fun _ cT => ?_,fun _ cT => ?_⟩
 . have cT:k<l.length:=cT;refine fm ?_;have b1:=MP hT w k cZ;have b2:=MP hT w (k+1) cT;have e:tL l w (k+1)=tL l w k+if 0<w.getD k Tc.int.aa/\w.getD k Tc.int.aa<(l.getD k Tc.bD.aa).af then (l.getD k Tc.bD.aa).sL else 0:=rfl;refine⟨fun c1=>⟨fun c2 => ?_,fun c2 => ?_⟩,fun c1 => ?_⟩
   . rw [aw ⟨c1,c2⟩] at e;exact⟨ii,e.symm⟩
   . rw [ar (fun h=>c2 h.2)] at e;omega
   . rw [ar (fun h=>c1 h.1)] at e;omega
 . have cT:k=l.length:=cT;refine fm ?_;subst cT;unfold kR;rw [hB,aw rfl];exact⟨rfl,rfl⟩
def avF(l:List bX):Lp where
 X:=Nat
 ov k := [(13,.int .i64 fun _=>(k:Int)),(4,.int .i64 fun _=>(eF l k).1),(5,.int .i64 fun _=>(eF l k).2)]
 oe _ := []
 I k:=k<=l.length/\zh (eF l k)=true
 μ k _:=l.length - k
 x0:=0
 nx:=some fun k=>k+1
def U4:aH:=dU 39 qP (fun l=>(l ()).length<=1000000000000) (fun l => .aU [.int .i64 fun _=>(jX (l ())).1,.int .i64 fun _=>(jX (l ())).2])
theorem agp:aK Tryz.prog U4:=by
 refine eE { kp := [(0,[0]),(1,[0]),(2,[]),(3,[0]),(4,[0,4,5]),(5,[4,5,11,12,13]),(6,[4,5,11,12,13]),(7,[4,5,7,11,12,13]),(8,[4,5,7,11,12,13]),(9,[4,5,7,11,12,13]),(10,[4,5,11,12,13]),(11,[]),(12,[4,5,11,12,13]),(13,[4])],lt := [] } [Mt] ⟨UA,trivial⟩ [] trivial Tryz.func39 (by kernel_rfl) fun ai res h hp => ?_;obtain⟨(l:List bX),rfl,rfl⟩:=eu h;clear h;have hl:l.length<=1000000000000:=hp;refine⟨[(5,avF l)],?_⟩;refine fm ?_;refine⟨hl,fun c => ?_,fun c=>⟨⟨⟨cm _,rfl⟩,rfl,rfl,rfl⟩,fun (k:Nat) hk => ?_⟩⟩
 . have hB:pr l=false:=by simpa using c
   unfold jX;rw [hB];exact⟨rfl,rfl⟩
 have hB:pr l=true:=by simpa using c
 have cR:k<=l.length/\zh (eF l k)=true:=hk;have cZ:=cR.1;have cg:=cR.2;clear hk;refine fm ?_;have st:(l.getD k Tc.bD.aa).steps=fX l k:=rfl;simp only [st];have Hg:=((lI l).1 hB).1;have hc:=Hp.1 cg;have Al:=MN l k;have e1:(fX l k).length=0->eF l (k+1)=eF l k:=fun h=>aw h;have e2:¬(fX l k).length=0->eF l (k+1)=((eF l k).1*(fX l k).length,(eF l k).2+1):=fun h=>ar h;have bad:k<l.length->(6<(eF l (k+1)).2\/4096<(eF l (k+1)).1)->0=(jX l).1/\5=(jX l).2:=fun h q=>by
  unfold jX;rw [hB,aw rfl,avD (show k+1<=l.length from oo) q];exact⟨rfl,rfl⟩
 refine⟨fun g=>⟨⟨oo,oo⟩,fun c1 => ?_,fun c1 => ?_⟩,fun g => ?_⟩
 . rw [e1 oo];exact⟨ii,⟨⟨oo,cg⟩,oo⟩,oo,rfl,rfl⟩
 . have h64:(fX l k).length<=64:=((tK _).1 (((lI l).1 hB).2 k oo)).1.2.2.2.2.2;have hm:=Int.mul_le_mul hc.2 (show ((fX l k).length:Int)<=64 from oo) oo (by decide);have Lj:0<=(eF l k).1*((fX l k).length:Int):=Int.mul_nonneg oo oo;have e:=e2 oo;rw [e] at bad ⊢;refine⟨ii,ii,fun c2=>bad oo (.inl c2),fun c2=>⟨fun c3=>bad oo (.inr c3),fun c3=>⟨ii,⟨⟨oo,Hp.2 ⟨by dsimp only; omega,by dsimp only; omega⟩⟩,oo⟩,oo,rfl,rfl⟩⟩⟩
 . have hk:k=l.length:=oo
   subst hk;unfold jX;rw [hB,aw rfl,cg,aw rfl];exact⟨rfl,rfl⟩
def agq:aH:=df 96 qP nu (fun l w=>(l ()).length<=1000000000000/\(w ()).length<=1000000000000) (fun l w => .aU [.int .i64 fun _=>(py (l ()) (w ())).1,.int .i64 fun _=>(py (l ()) (w ())).2])
theorem avG:aK Tryz.prog agq:=by
 refine eE { kp := [(0,[0,1]),(1,[0,1]),(2,[]),(3,[0])],lt := [] } [Hf,U4] ⟨Mu,agp,trivial⟩ [] trivial Tryz.func96 (by kernel_rfl) fun ai res h hp => ?_;obtain⟨(l:List bX),(w:List Int),rfl,rfl⟩:=dz h;clear h;refine⟨[],?_⟩;refine fm ?_;refine⟨hp,fun c => ?_,fun c=>⟨hp.1,?_⟩⟩
 . have hB:dR l w=false:=by simpa using c
   unfold py;rw [hB];exact⟨rfl,rfl⟩
 . have hB:dR l w=true:=by simpa using c
   unfold py;rw [hB];exact⟨rfl,rfl⟩
theorem avH(A:Option Addr)(c:Nat)(l:List lR)(n:Nat)(hn:n=l.length)(w:World)(hA:Rd w w.heap.size 1 A (l.map lR.cells))(hl:l.length<=1000000) :
 Calls Tryz.prog 30 #[.slice A n c] w fun e w'=>∃ A' c',e = .returned (.slice A' l.length c')/\cy w' w.heap.size 3 1 A' c' (l.map lR.cells)/\Below w.heap.size w w':=by
 subst hn
 cases A with
 | none =>
  have kZ:l = []:=by
   rcases l with _|⟨x,l⟩
   . rfl
   . obtain⟨_,_,h,_⟩:=hA 0 (lR.cells x) rfl;cases h
  subst kZ;have heq:=fun w=>Go.Lib.run_eql_slice_nil (P:=Tryz.prog) w 35 3 none 0 c 0 0 Tryz.underlying35
  go_enter Tryz.func30,Tryz.ntmps30
  exact SM
 | some ad =>
  have heq:=fun w=>Go.Lib.run_eql_slice_nil (P:=Tryz.prog) w 35 3 (some ad) l.length c 0 0 Tryz.underlying35;have cN:Below w.heap.size w (w.alloc (Obj.cells #[] 3)):=(cA _ _).alloc (az _) _;have yU:=aX ((hA.below cN (az _)).more cN.size);have Gs:=aX (cy.Ob w w.heap.size 3 1 (az _));have CS:=aX cN;clear hA cN
  go_enter Tryz.func30,Tryz.ntmps30
  go_wp2_with (first
   | (at_builtin; go_loud (refine NN rfl _ _ rfl lR.ei 0 rfl rfl Gs.out rfl _ yU.out (by simp) (lR.Ec l) (by unfold maxLen; simp; omega) (by simp; omega) CS.out.size ?_); intro A4 c4 w4 SN hg4 SO))
  exact SP
theorem ah.j4{w:World}{ρ:Nat->Option Rl}{ro:Nat->Prop}{v:Value}{fr:Bool}{l:Unit->List Int}(h:ah w ρ base ro (.sl fr .int l) v):∃ A c,v = .slice A (l ()).length c/\(l ()).length<=c/\Rd w w.heap.size 1 A ((l ()).map lR.cells):=ah.F0 (t := .int) (l:=l) lR.cells (fun _=>rfl) (fun _=>rfl) h
def MQ:fk:=⟨30,[.sl .int],0,fun ai es=>match ai,es with
 | [x],[]=>x.CK.bind fun l=>some ⟨fun _=>(l ()).length<=1000000,.own 0,[(0,.row true .int 3 l)]⟩
 | _,_=>none,false⟩
theorem agr:gp Tryz.prog MQ:=by
 refine⟨fun args w=>wT Tryz.func30 (by kernel_rfl) (by kernel_rfl) args w,fun ai es res h w ρ ra dt l6 hE kC ja cK bC hp => ?_⟩;simp only [MQ] at h;split at h
 case h_2=>cases h
 rename_i x;simp only [lK,bI] at h;obtain⟨l,e0,rfl⟩:=h;obtain rfl:=AV.K9 e0;obtain⟨v0,ve,rfl,jP,h0⟩:=hE.head;obtain rfl:=h0.none;obtain⟨A0,q0,rfl,oU,r8⟩:=jP.j4;refine (avH A0 q0 (l ()) _ rfl w r8 hp).mono fun e w' ⟨A',c',k1,k2,k3⟩ => ?_;obtain⟨ρ1,eV,hL,hv⟩:=SL (t := .int) (l:=l) lR.cells (fun _=>rfl) (fun _=>rfl) (fun l=>cK l (cm _)) l6 k3 k2;exact⟨_,ρ1,eV,k1,hL,hv⟩
def avI(l:List bX):Lp where
 X:=Nat
 ov k := [(3,.int .i64 fun _=>(l.length:Int) - 1 - (k:Int))]
 oe k := [(0,.fh fun _=>k+1)]
 I k:=k<=l.length
 μ k _:=l.length - k
 x0:=0
 nx:=some fun k=>k+1
def ags:It:=Lv 174 (Lu qP) (fun l=>(l ()).length<=1000000) (fun l=>(l ()).length) (fun l k => [.int .i64 fun _=>((l ()).length:Int) - 1 - (k ():Int),.agg (aO false .bD fun _=>(l ()).getD ((l ()).length - 1 - k ()) Tc.bD.aa)])
theorem avJ:pT Tryz.prog ags:=by
 refine Rv {} [] trivial Tryz.func174 (by kernel_rfl) fun ai res h hp ll => ?_;obtain⟨(l:List bX),rfl,rfl⟩:=acf h;clear h;have hl:l.length<=1000000:=hp;refine⟨[(1,avI l)],?_⟩
 conv=>arg 1; cbv
 simp (maxSteps:=4000000) only [aB,aR,aS,bw];refine⟨ii,⟨⟨cm _,oo⟩,fun (k:Nat) hk => ?_⟩⟩;have cZ:k<=l.length:=hk;clear hk hp
 conv=>arg 1; cbv
 simp (maxSteps:=4000000) only [aB,aR,aS,bw];simp only [vH,bw,aR,aS,or_true];refine⟨fun g=>⟨⟨oo,oo⟩,⟨⟨oo,oo⟩,?_⟩,ii,⟨oo,oo⟩,oo⟩,fun g => .inl oo⟩;rw [show ((l.length:Int) - 1 - (k:Int)).toNat=l.length - 1 - k from oo];exact⟨rfl,rfl,rfl,rfl,rfl,rfl⟩
def agt:aH:=dU 98 qP (fun _=>True) (fun l => .fn 174 [.bg [.sl false .bD l] 0])
theorem avK:aK Tryz.prog agt:=by
 refine cd [] trivial Tryz.func98 (by kernel_rfl) fun ai res h hp => ?_;obtain⟨(l:List bX),rfl,rfl⟩:=eu h;clear h;refine⟨[],?_⟩
 exact no_implicit_lambda% L4
def U5:fk:=⟨97,[.int .i64,.Oy [.int .i64]],1,fun ai es=>match ai,es with
 | [.int .i64 b,.ptr 0 0],[(0,.box T [.int .i64 n])]=>some ⟨fun _=>0<b ()/\0<=n ()/\n ()<=1000000000000,.int .i64 fun _=>n () % b (),[(0,.box T [.int .i64 fun _=>n () / b ()])]⟩
 | _,_=>none,true⟩
theorem avL:gp Tryz.prog U5:=by
 refine AA [] trivial [] trivial Tryz.func97 (by kernel_rfl) fun ai es res h hp => ?_;simp only [U5] at h;split at h
 case h_2=>cases h
 rename_i b T n;cases h;obtain⟨b,rfl⟩:=eta (α:=Int) b;obtain⟨n,rfl⟩:=eta (α:=Int) n;have dZ:0<b/\0<=n/\n<=1000000000000:=hp;have h1:=dZ.1;have h2:=dZ.2.1;have h3:=dZ.2.2;refine⟨[],?_⟩
 conv=>arg 1; cbv
 simp (maxSteps:=4000000) only [aB,aR,aS,bw];rw [HG h2,DA h2];have d1:=Int.ediv_nonneg h2 (show 0<=b from oo);have d2:=Int.ediv_le_self b h2;exact⟨oo,oo,rfl,by rw [ahD]; omega⟩
def agu:aH:=lE 40 qP nu kI (fun l w _=>(l ()).length<=1000000000000/\(w ()).length<=1000000000000) (fun l w n => .aU [.sl true .int fun _=>(fY (l ()) (w ()) (n ())).1,.int .i64 fun _=>(fY (l ()) (w ()) (n ())).2])
theorem avM:aK Tryz.prog agu:=by
 refine FW { kp := [(0,[0,1,2,35,36]),(1,[0,1,5,35,36]),(2,[0,1,5,8,9,35,36]),(3,[9]),(4,[0,1,5,8,35,36]),(5,[]),(6,[0,1,5,35,36]),(7,[0,5,10,35,36]),(8,[0,10,11,35,36]),(9,[10,11,35,36]),(10,[10,11,12,35,36]),(11,[10,11,12,13,35,36]),(12,[10,11,12,13,35,36]),(13,[10])],lt := [(12,⟨[1,2,5,0,3,4,6,7,8,9,10,11,12],[1,2,5],[6],[⟨[0,1,2,6],[10,11,35,36,41,42,43,44,45,47,48,49,50,51,52],(0,6),[(3,0,1),(4,3,2),(5,4,3),(7,7,4)]⟩,⟨[0,1,2,3,6],[10,11,35,36,41,42,43,44,45,47,48,49,50,51,52],(0,0),[(4,3,5),(5,4,6),(7,7,7)]⟩,⟨[0,1,2,4,6],[10,11,35,36,41,42,44,45,47,48,49,50,51,52],(0,3),[(3,0,5),(5,4,8),(7,7,9)]⟩,⟨[0,1,2,5,6],[10,11,35,36,41,42,43,44,45,47,48,49,50,51,52],(0,4),[(3,0,6),(4,3,8),(7,7,10)]⟩,⟨[0,1,2,6,7],[10,11,35,36,41,42,43,44,45,48,49,50,51,52],(0,7),[(5,4,10)]⟩,⟨[0,1,2,3,4,6],[10,11,35,36,41,42,44,45,47,48,49,50,51,52],(1,3),[(5,4,11),(7,7,12)]⟩,⟨[0,1,2,3,5,6],[10,11,35,36,41,42,43,44,45,47,48,49,50,51,52],(1,4),[(4,3,11),(7,7,13)]⟩,⟨[0,1,2,3,6,7],[10,11,35,36,41,42,43,44,45,48,49,50,51,52],(1,7),[(5,4,13)]⟩,⟨[0,1,2,4,5,6],[10,11,35,36,41,42,44,45,47,48,49,50,51,52],(2,4),[(3,0,11),(7,7,14)]⟩,⟨[0,1,2,4,6,7],[10,11,35,36,41,42,44,45,48,49,50,51,52],(2,7),[(5,4,14)]⟩,⟨[0,1,2,5,6,7],[10,11,35,36,41,42,43,44,45,48,49,50,51,52],(3,7),[(3,0,13),(4,3,14),(8,8,15)]⟩,⟨[0,1,2,3,4,5,6],[10,11,35,36,41,42,44,45,47,48,49,50,51,52],(5,4),[(7,7,16)]⟩,⟨[0,1,2,3,4,6,7],[10,11,35,36,41,42,44,45,48,49,50,51,52],(5,7),[(5,4,16)]⟩,⟨[0,1,2,3,5,6,7],[10,11,35,36,41,42,43,44,45,48,49,50,51,52],(6,7),[(4,3,16),(8,8,17)]⟩,⟨[0,1,2,4,5,6,7],[10,11,35,36,41,42,44,45,48,49,50,51,52],(8,7),[(3,0,16),(8,8,18)]⟩,⟨[0,1,2,5,6,7,8],[10,11,35,36,41,42,43,44,49,50,51,52],(10,8),[(3,0,17)]⟩,⟨[0,1,2,3,4,5,6,7],[10,11,35,36,41,42,44,45,48,49,50,51,52],(11,7),[(8,8,19)]⟩,⟨[0,1,2,3,5,6,7,8],[10,11,35,36,41,42,43,44,49,50,51,52],(13,8),[(4,3,19)]⟩,⟨[0,1,2,4,5,6,7,8],[10,11,35,36,41,42,44,49,50,51,52],(14,8),[(9,9,20)]⟩,⟨[0,1,2,3,4,5,6,7,8],[10,11,35,36,41,42,44,49,50,51,52],(16,8),[(9,9,21)]⟩,⟨[0,1,2,4,5,6,7,8,9],[10,11,35,36,41,42,50,51,52],(18,9),[(3,0,21)]⟩,⟨[0,1,2,3,4,5,6,7,8,9],[10,11,35,36,41,42,50,51,52],(19,9),[]⟩],[10,11,12]⟩)],ct := [12] } [agq,agt] ⟨avG,avK,trivial⟩ [MQ,U5] ⟨agr,avL,trivial⟩ [ags] ⟨avJ,trivial⟩ Tryz.func40 (by kernel_rfl) fun ai res h hp => ?_;obtain⟨(l:List bX),(w:List Int),(n:Int),rfl,rfl⟩:=mO h;clear h;have nK:l.length<=1000000000000/\w.length<=1000000000000:=hp;have hl:=nK.1;have hw:=nK.2;refine⟨[],?_⟩
 conv=>arg 1; cbv
 simp (maxSteps:=4000000) only [aB,aR,aS,bw];have ox:(py l w).2≠0->fY l w n=([],(py l w).2):=fun h=>by unfold fY; rw [aw h]
 refine⟨⟨hl,hw⟩,fun c => ?_,fun c0 => ?_⟩
 . have h:(py l w).2≠0:=by simpa using c
   rw [ox h];exact⟨rfl,rfl⟩
 have h0:(py l w).2=0:=by simpa using c0
 have hB:dR l w=true:=by
  cases h:dR l w with
  | true=>rfl
  | false=>unfold py at h0; rw [h] at h0; cases h0
 have tA:=((gW l w).1 hB).2.1;have hT:=((gW l w).1 hB).1;have Hg:=((lI l).1 hT).1;have fq:n<0\/(py l w).1<=n->fY l w n=([],6):=fun h=>by unfold fY; rw [ar (fun q=>q h0),aw h]
 refine⟨fun c=>by rw [fq (.inl c)]; exact⟨rfl,rfl⟩,fun c1=>⟨fun c=>by rw [fq (.inr c)]; exact⟨rfl,rfl⟩,fun c2=>⟨oo,?_⟩⟩⟩;have hN:fY l w n=((gN l w n l.length).1,0):=by unfold fY; rw [ar (fun q=>q h0),ar oo]
 have ayC:n<=1000000000000:=by
  have h1:(py l w).1<=4096:=by
   unfold py jX;rw [hB,aw rfl,hT,aw rfl];split
   . rename_i q;exact (Hp.1 q).2
   . decide
  omega
 rw [hN];clear ox fq;refine⟨⟨fun k => [(0,.box 3 [.int .i64 fun _=>(gN l w n k).2]),(1,.row true .int 3 fun _=>(gN l w n k).1),(2,.box 35 [.own 1])],fun k=>True⟩,?_⟩
 conv=>arg 1; cbv
 simp (maxSteps:=4000000) only [aB,aR,aS,bw];refine⟨⟨oo,rfl,rfl⟩,fun (k:Nat) hk => ?_⟩;have cZ:k<=l.length:=hk;clear hk
 conv=>arg 1; cbv
 simp (maxSteps:=4000000) only [aB,aR,aS,bw];refine⟨fun _ cT => ?_,fun _ cT => ?_⟩
 . have cT:k<l.length:=cT
   conv=>arg 1; cbv
   simp (maxSteps:=4000000) only [aB,aR,aS,bw];have e1:(fX l (l.length - 1 - k)).length=0->gN l w n (k+1)=gN l w n k:=fun h=>aw h;have e2:¬(fX l (l.length - 1 - k)).length=0->gN l w n (k+1)=((gN l w n k).1.set (l.length - 1 - k) ((fX l (l.length - 1 - k)).getD ((gN l w n k).2 % (fX l (l.length - 1 - k)).length).toNat Tc.int.aa),(gN l w n k).2 / (fX l (l.length - 1 - k)).length):=fun h=>ar h;refine⟨fun g => ?_,fun g => ?_⟩
   . refine fun _ _ => ?_
     conv=>arg 1; cbv
     simp (maxSteps:=4000000) only [aB,aR,aS,bw];have st:(l.getD (l.length - 1 - k) Tc.bD.aa).steps=fX l (l.length - 1 - k):=rfl;rw [st] at g;simp only [st];rw [e2 oo,show ((l.length:Int) - 1 - (k:Int)).toNat=l.length - 1 - k from oo];have nn:=agm l w (show 0<=n from oo) k;have nl:=MO l w n k;have m1:=ahI (gN l w n k).2 (show ((fX l (l.length - 1 - k)).length:Int)≠0 from oo);have m2:=ahs (gN l w n k).2 g;have a:0<((fX l (l.length - 1 - k)).length:Int)/\0<=(gN l w n k).2/\(gN l w n k).2<=1000000000000:=⟨g,nn.1,oo⟩
     exact⟨a,a,a,a,⟨m1,m2⟩,⟨m1,m2⟩,⟨oo,oo⟩,rfl,rfl⟩
   . rw [e1 (by have st:(l.getD (l.length - 1 - k) Tc.bD.aa).steps=fX l (l.length - 1 - k):=rfl; rw [st] at g; omega)];exact⟨rfl,rfl⟩
 . have cT:k=l.length:=cT
   conv=>arg 1; cbv
   simp (maxSteps:=4000000) only [aB,aR,aS,bw];rw [cT]
end Go.Proofs.YtlpikgchnjajmaaGreat
