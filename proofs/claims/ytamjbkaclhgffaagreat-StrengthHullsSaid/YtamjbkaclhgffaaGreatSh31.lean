/-
  The reference of the chapter 9: finding, heights, slots.
-/
import Derived.Test.YtamjbkaclhgffaaGreatSh24
set_option linter.all false
set_option maxRecDepth 100000
set_option maxHeartbeats 4000000
namespace Go.Proofs.YtamjbkaclhgffaaGreat
open Go.RowKit
variable{N a a' b b' c e i j m s x:Nat}
theorem aAK{l:List aL}{id:Int}{k:Nat}(h2:∀ j,j<k->¬ (l.getD j Tc.box.aa).id=id)(hk:k<l.length)(h:(l.getD k Tc.box.aa).id=id):bI l id=(l.getD k Tc.box.aa,true):=by
 have h1:=E7 (p:=nB id) (d:=Tc.box.aa) (fun j hj=>dB (h2 j hj)) hk (cT h);rcases Jj l id with ⟨h3,h4⟩|⟨k',h3,h4,h5⟩
 . omega
 . rw [h5,show k'=k from oo]
theorem aAL{l:List aL}{id:Int}{k:Nat}(h2:∀ j,j<k->¬ (l.getD j Tc.box.aa).id=id)(hk:l.length<=k):bI l id=(Ji,false):=by
 have h1:=E8 (p:=nB id) (d:=Tc.box.aa) (fun j hj=>dB (h2 j hj)) hk;rcases Jj l id with ⟨h3,h4⟩|⟨k',h3,h4,h5⟩
 . exact h4
 . omega
def aAM(l:List aL)(id:Int):Lp where
 X:=Nat
 ov k := [(6,.int .i64 fun _=>(k:Int))]
 oe _ := [(0,.box 141 (Cg fun _=>Ji))]
 I k:=k<=l.length/\∀ j,j<k->¬ (l.getD j Tc.box.aa).id=id
 μ k _:=l.length - k
 x0:=0
 nx:=some fun k=>k+1
def Pa:aC:=bE 191 jc kI (fun l _=>(l ()).length<=1000000000000) (fun l id => .bp [.agg (Cg fun _=>(bI (l ()) (id ())).1),.bool fun _=>(bI (l ()) (id ())).2])
theorem Xj:aE Tryz.prog Pa:=by
 refine bD [] trivial Tryz.func191 (by kernel_rfl) fun ah res h hp => ?_;obtain⟨(l:List aL),(id:Int),rfl,rfl⟩:=bG h;clear h;have hl:l.length<=1000000000000:=hp;refine⟨[(2,aAM l id)],?_⟩
 conv=>arg 1; cbv
 refine⟨?_,fun (k:Nat) hk => ?_⟩
 . simp (maxSteps:=4000000) only [ay,aJ,aH,aO]
   and_intros<;>first|omega|rfl|(intro j hj; omega)
 have bu:k<=l.length/\∀ j,j<k->¬ (l.getD j Tc.box.aa).id=id:=hk;have bM:=bu.1;have bm:=bu.2;refine fm ?_;refine⟨fun g => ?_,fun g => ?_⟩
 . have af:k<l.length:=oo
   refine⟨⟨oo,oo⟩,fun c => ?_,fun c=>j5 hl af bm c⟩;rw [aAK bm af c]
   and_intros<;>first|omega|rfl
 . rw [aAL bm oo]
   and_intros<;>first|omega|rfl
theorem aAN{bs:List aL}{l:List aA}{c h:Int}{k:Nat}(af:k<l.length):eI bs (l.take (k+1)) c h=eI bs (l.take k) c h+hH bs c h (l.getD k Tc.ai.aa):=by
 exact ag1
def aAO(bs:List aL)(l:List aA)(c h:Int):Lp where
 X:=Nat
 ov k := [(10,.int .i64 fun _=>(k:Int)),(9,.int .i64 fun _=>eI bs (l.take k) c h)]
 oe _ := []
 I k:=k<=l.length
 μ k _:=l.length - k
 x0:=0
 nx:=some fun k=>k+1
def ajK:aC:=oS 240 jc lL kI u5 (fun bs l _ _=>(bs ()).length<=1000000000000/\(l ()).length<=1000000) (fun bs l ar half => .int .i64 fun _=>eI (bs ()) (l ()) (ar ()) (half ()))
theorem aAP:aE Tryz.prog ajK:=by
 refine bD [Pa] ⟨Xj,trivial⟩ Tryz.func240 (by kernel_rfl) fun ah res h hp => ?_;obtain⟨(bs:List aL),(l:List aA),(ar:Int),(half:Int),rfl,rfl⟩:=qu h;clear h;have ajL:bs.length<=1000000000000/\l.length<=1000000:=hp;have x4:=ajL.1;have oH:=ajL.2;refine⟨[(3,aAO bs l ar half)],?_⟩
 conv=>arg 1; cbv
 refine⟨?_,fun (k:Nat) hk => ?_⟩
 . simp (maxSteps:=4000000) only [ay];simp [eI]
 have bM:k<=l.length:=hk;refine fm ?_;refine⟨fun g => ?_,fun g=>by rw [ez oo]⟩;have af:k<l.length:=oo
 have hst:=aAN (bs:=bs) (c:=ar) (h:=half) af;have hb:0<=eI bs (l.take k) ar half/\eI bs (l.take k) ar half<=2896*((l.take k).length:Int):=Oo _ (On bs ar half) _;rw [cy] at hb;have h1:∀ P,P->aP ((k:Int)+1)/\(k+1<=l.length/\l.length - (k+1)<l.length - k)/\(k:Int)+1=((k+1:Nat):Int)/\P:=fun P h=>⟨ii,oo,oo,h⟩
 rw [hst];generalize eI bs (l.take k) ar half=H at *
 have h2:aP (H+2896)/\aP (H+2591):=by constructor<;>simp only [aP]<;>omega
 have e1:(bI bs (l.getD k Tc.ai.aa).box).2=false->hH bs ar half (l.getD k Tc.ai.aa)=0:=fun e=>by unfold hH; rw [e]; simp
 have e2:¬ (l.getD k Tc.ai.aa).ar=ar->hH bs ar half (l.getD k Tc.ai.aa)=0:=fun e=>by unfold hH; rw [ax fun q=>e q.1]
 have e3:¬ (l.getD k Tc.ai.aa).half=half->¬ (l.getD k Tc.ai.aa).half=0->hH bs ar half (l.getD k Tc.ai.aa)=0:=fun e e'=>by unfold hH; rw [ax fun q=>q.2.elim e e']
 have e4:(bI bs (l.getD k Tc.ai.aa).box).2=true->(l.getD k Tc.ai.aa).ar=ar->((l.getD k Tc.ai.aa).half=half\/(l.getD k Tc.ai.aa).half=0)->hH bs ar half (l.getD k Tc.ai.aa)=fw (bI bs (l.getD k Tc.ai.aa).box).1:=fun e e' Rm=>by unfold hH; rw [aG ⟨e',Rm⟩,aG e]
 have t1:(bI bs (l.getD k Tc.ai.aa).box).1.high=true->fw (bI bs (l.getD k Tc.ai.aa).box).1=2896:=fun e=>by unfold fw; rw [aG e]
 have t2:(bI bs (l.getD k Tc.ai.aa).box).1.high=false->fw (bI bs (l.getD k Tc.ai.aa).box).1=2591:=fun e=>by unfold fw; rw [e]; rfl
 clear hst hb;refine⟨⟨oo,oo⟩,x4,fun f=>h1 _ (by rw [e1 (by simpa using f)]; omega),fun f=>⟨⟨oo,oo⟩,fun c=>h1 _ (by rw [e2 (by simpa using c)]; omega),fun c=>⟨⟨oo,oo⟩,fun a=>⟨⟨oo,oo⟩,fun z=>h1 _ (by rw [e3 (by simpa using a) (by simpa using z)]; omega),fun z => ?_⟩,fun a => ?_⟩⟩⟩
 . have e5:=e4 (by simpa using f) (by simpa using c) (.inr (by simpa using z));exact ajM
 . have e5:=e4 (by simpa using f) (by simpa using c) (.inl (by simpa using a));exact ajM
def aAQ(l:List aA):Lp where
 X:=Nat
 ov k := [(4,.int .i64 fun _=>(k:Int)),(3,.own 0)]
 oe k := [(0,.row true .slot 123 fun _=>(l.take k).map ej)]
 I k:=k<=l.length
 μ k _:=l.length - k
 x0:=0
 nx:=some fun k=>k+1
def ajN:aC:=cL 194 lL (fun l=>(l ()).length<=1000000) (fun l => .sl true .slot fun _=>(l ()).map ej)
theorem aAR:aE Tryz.prog ajN:=by
 refine bD [] trivial Tryz.func194 (by kernel_rfl) fun ah res h hp => ?_;obtain⟨(l:List aA),rfl,rfl⟩:=cS h;clear h;have hl:l.length<=1000000:=hp;refine⟨[(3,aAQ l)],?_⟩
 conv=>arg 1; cbv
 refine⟨?_,fun (k:Nat) hk => ?_⟩
 . exact pM
 have bM:k<=l.length:=hk;refine fm ?_;refine⟨fun g => ?_,fun g=>by rw [ez oo]⟩;have af:k<l.length:=oo
 refine⟨⟨oo,oo⟩,?_,ii,⟨oo,oo⟩,oo,?_⟩
 . simp only [di,cy,dE,hZ];omega
 . rw [show l.take (k+1)=l.take k ++ [l.getD k Tc.ai.aa] from by rw [YH,bq af,aY,bq af]; rfl,ot];rfl
def yx(cs:List dM)(bs:List aL)(l:List aA)(c:Int):Bool := !decide ((cs.getD c.toNat Tc.ar.aa).mZ=0)&&(decide ((cs.getD c.toNat Tc.ar.aa).mZ<eI bs l c 1)||decide ((cs.getD c.toNat Tc.ar.aa).mZ<eI bs l c 2))
def ajO:aC:=oS 196 ko jc lL kI (fun s bs l c=>(bs ()).length<=1000000000000/\(l ()).length<=1000000/\0<=c ()/\c ()<((s ()).aF.length:Int)) (fun s bs l c => .bool fun _=>yx (s ()).aF (bs ()) (l ()) (c ()))
theorem aAS:aE Tryz.prog ajO:=by
 refine bD [ajK] ⟨aAP,trivial⟩ Tryz.func196 (by kernel_rfl) fun ah res h hp => ?_;obtain⟨(s:bB),(bs:List aL),(l:List aA),(c:Int),rfl,rfl⟩:=qu h;clear h;have fy:bs.length<=1000000000000/\l.length<=1000000/\0<=c/\c<(s.aF.length:Int):=hp;have h1:=fy.1;have h2:=fy.2.1;have h3:=fy.2.2.1;have h4:=fy.2.2.2;refine⟨[],?_⟩;refine fm ?_;unfold yx;refine⟨⟨h3,h4⟩,fun e=>by rw [e]; rfl,fun e => ?_⟩;rw [dB e];exact⟨⟨h1,h2⟩,⟨h3,h4⟩,fun g=>by rw [cT g]; rfl,fun g=>⟨⟨h1,h2⟩,⟨h3,h4⟩,by rw [dB g]; rfl⟩⟩
theorem aAT(A:Option Addr)(c:Nat)(l:List aA)(n:Nat)(hn:n=l.length)(w:World)(hA:Rd w w.heap.size 4 A (l.map aA.cells))(hl:l.length<=1000000) :
 Calls Tryz.prog 113 #[.slice A n c] w fun e w'=>∃ A' c',e = .returned (.slice A' l.length c')/\dc w' w.heap.size 125 4 A' c' (l.map aA.cells)/\Below w.heap.size w w':=by
 subst hn
 cases A with
 | none =>
  have p6:l = []:=by
   rcases l with _|⟨x,l⟩
   . rfl
   . obtain⟨_,_,h,_⟩:=hA 0 x.cells rfl;cases h
  subst p6;have heq:=fun w=>Go.Lib.run_eql_slice_nil (P:=Tryz.prog) w 34 125 none 0 c 0 0 Tryz.underlying34
  go_enter Tryz.func113,Tryz.ntmps113
  go_wp2
  go_ret
  exact⟨none,0,rfl,dc.nil _ _ _ _,dU _ _⟩
 | some ad =>
  have heq:=fun w=>Go.Lib.run_eql_slice_nil (P:=Tryz.prog) w 34 125 (some ad) l.length c 0 0 Tryz.underlying34;have c6:Below w.heap.size w (w.alloc (Obj.cells #[] 125)):=(dU _ _).alloc (aN _) _;have UT:=bt ((hA.below c6 (aN _)).more c6.size);have UU:=bt (dc.ZA w w.heap.size 125 4 (aN _));have IJ:=bt c6;clear hA c6
  go_enter Tryz.func113,Tryz.ntmps113
  go_wp2_with (first
   | (at_builtin; go_loud (refine Zc rfl _ _ rfl aA.ei 0 rfl rfl UU.out rfl _ UT.out (by simp) (aA.QI l) (by unfold maxLen; simp; omega) (by simp; omega) IJ.out.size ?_); intro A4 c4 w4 UW hg4 IK))
  go_ret
  exact⟨A4,c4,by simp,by simpa using UW,IJ.out.trans IK⟩
def Xk:fi:=⟨113,[.sl .ai],0,fun ah es=>match ah,es with
 | [x],[]=>x.Nx.bind fun l=>some ⟨fun _=>(l ()).length<=1000000,.own 0,[(0,.row true .ai 125 l)]⟩
 | _,_=>none,false⟩
theorem aAU:jb Tryz.prog Xk:=by
 refine⟨fun args w=>zP Tryz.func113 (by kernel_rfl) (by kernel_rfl) args w,fun ah es res h w ρ ra eu jv hE mG kj df bS hp => ?_⟩;simp only [Xk] at h;split at h
 case h_2=>cases h
 rename_i x;simp only [mm,bU] at h;obtain⟨l,e0,rfl⟩:=h;obtain rfl:=AV.aep e0;obtain⟨v0,zT,rfl,nj,h0⟩:=hE.head;obtain rfl:=h0.none;obtain⟨A0,q0,rfl,qd,wO⟩:=nj.ayf;refine (aAT A0 q0 (l ()) _ rfl w wO hp).mono fun e w' ⟨A',c',k1,k2,k3⟩ => ?_;obtain⟨ρ1,fP,hL,hv⟩:=ae4 (t := .ai) (l:=l) aA.cells (fun _=>rfl) (fun _=>rfl) (fun l=>df l (bw _)) jv k3 k2;exact⟨_,ρ1,fP,k1,hL,hv⟩
section
variable{α:Type}
def swapAt(d : α)(l:List α)(j:Nat):List α:=(l.set (j+1) (l.getD j d)).set j (l.getD (j+1) d)
def mi(lt : α -> α->Bool)(d : α)(a:Nat):Nat->List α->List α
 | 0,l=>l
 | j+1,l=>cond (decide (a<j+1)&&lt (l.getD (j+1) d) (l.getD j d)) (mi lt d a j (swapAt d l j)) l
def pU(lt : α -> α->Bool)(d : α)(a:Nat)(l:List α):Nat->List α
 | 0=>l
 | n+1=>mi lt d a (a+1+n) (pU lt d a l n)
def CY(lt : α -> α->Bool)(d : α)(a b:Nat)(l:List α):List α:=pU lt d a l (b - (a+1))
theorem Az(d : α)(l:List α)(j:Nat):(swapAt d l j).length=l.length:=by unfold swapAt; simp
theorem Xl(lt : α -> α->Bool)(d : α)(a:Nat):∀ (j:Nat) (l:List α),(mi lt d a j l).length=l.length
 | 0,l=>rfl
 | j+1,l=>by
  unfold mi
  cases decide (a<j+1)&&lt (l.getD (j+1) d) (l.getD j d) with
  | true=>rw [pg,Xl lt d a j,Az]
  | false=>rfl
theorem Pb(lt : α -> α->Bool)(d : α)(a:Nat)(l:List α):∀ n,(pU lt d a l n).length=l.length
 | 0=>rfl
 | n+1=>by unfold pU; rw [Xl,Pb lt d a l n]
end
def CZ(a b:Int):Int:=cond (decide (a<b)) (-1) (cond (decide (b<a)) 1 0)
def ajP:aC:=cL 183 kI (fun _=>True) (fun _ => .aV false)
theorem aAV:aE Tryz.prog ajP:=by
 refine bD [] trivial Tryz.func183 (by kernel_rfl) fun ah res h hp => ?_;obtain⟨(a:Int),rfl,rfl⟩:=cS h;clear h;refine⟨[],?_⟩
 conv=>arg 1; cbv
 simp [Iq,oQ]
def ajQ:aC:=bE 116 kI kI (fun _ _=>True) (fun a b => .int .i64 fun _=>CZ (a ()) (b ()))
theorem aAW:aE Tryz.prog ajQ:=by
 refine bD [ajP] ⟨aAV,trivial⟩ Tryz.func116 (by kernel_rfl) fun ah res h hp => ?_;obtain⟨(a:Int),(b:Int),rfl,rfl⟩:=bG h;clear h;refine⟨[],?_⟩
 conv=>arg 1; cbv
 simp (maxSteps:=4000000) only [ay];unfold CZ;grind
def Xm:aC:=bE 115 aeu aeu (fun _ _=>True) (fun x y => .int .i64 fun _=>CZ (x ()).aK (y ()).aK)
theorem ajR:aE Tryz.prog Xm:=by
 refine bD [ajQ] ⟨aAW,trivial⟩ Tryz.func115 (by kernel_rfl) fun ah res h hp => ?_;obtain⟨(x:aA),(y:aA),rfl,rfl⟩:=bG h;clear h;refine⟨[],?_⟩
 exact no_implicit_lambda% OK
def lq(a b:aA):Bool:=decide (CZ a.aK b.aK<0)
def Xn:fi:=⟨232,[.Bj .ai,.int .i64,.int .i64,.fn []],1,fun ah es=>match ah,es with
 | [.own 0,.int .i64 a,.int .i64 b,.fn f []],[(0,.row false .ai T l)]=>if f=115 then some ⟨fun _=>0<=a ()/\a ()<=b ()/\b ()<=((l ()).length:Int)/\(l ()).length<=1000000,.bp [],[(0,.row false .ai T fun _=>CY lq Tc.ai.aa (a ()).toNat (b ()).toNat (l ()))]⟩ else none
 | _,_=>none,true⟩
def aAX(T:Nat)(l:List aA)(a b:Nat):Lp where
 X:=Nat
 ov n := [(8,.int .i64 fun _=>((a+1+n:Nat):Int)),(0,.own 0)]
 oe n := [(0,.row false .ai T fun _=>pU lq Tc.ai.aa a l n)]
 I n:=n<=b - (a+1)
 μ n _:=b - (a+1) - n
 x0:=0
 nx:=some fun n=>n+1
def aAY(T:Nat)(a i:Nat)(R L1:List aA):Lp where
 X:=Nat×List aA
 ov p := [(9,.int .i64 fun _=>(p.1:Int)),(0,.own 0)]
 oe p := [(0,.row false .ai T fun _=>p.2)]
 I p:=a<=p.1/\p.1<=i/\p.2.length=R.length/\mi lq Tc.ai.aa a p.1 p.2=R
 μ p _:=p.1
 x0:=(i,L1)
 nx:=none
theorem aAZ:jb Tryz.prog Xn:=by
 refine Ip [Xm] ⟨ajR,trivial⟩ [] trivial Tryz.func232 (by kernel_rfl) fun ah es res h hp => ?_;simp only [Xn] at h;split at h
 case h_2=>cases h
 split at h
 case isFalse=>cases h
 rename_i a b f T l hf;subst hf;cases h;obtain⟨l,rfl⟩:=eta (α:=List aA) l;obtain⟨a,rfl⟩:=eta (α:=Int) a;obtain⟨b,rfl⟩:=eta (α:=Int) b;have fy:0<=a/\a<=b/\b<=(l.length:Int)/\l.length<=1000000:=hp;have h1:=fy.1;have h2:=fy.2.1;have h3:=fy.2.2.1;have h4:=fy.2.2.2;obtain⟨a,rfl⟩:=om h1;obtain⟨b,rfl⟩:=om (show 0<=b from oo);refine⟨[(1,aAX T l a b)],?_⟩
 conv=>arg 1; cbv
 refine⟨⟨by simp only [fL]; omega,by simp only [fL]; omega⟩,⟨?_,fun (n:Nat) hn => ?_⟩⟩
 . simp (maxSteps:=4000000) only [ay];exact⟨bw _,oo,rfl⟩
 have M3:n<=b - (a+1):=hn
 conv=>arg 1; cbv
 refine⟨fun g1 => ?_,fun g1 => ?_⟩
 . have vA:a+1+n<b:=by simp only [aU,fL] at g1; omega
   refine bk (pU lq Tc.ai.aa a l n) fun L1 Fq => ?_;refine bk (a+1+n) fun i hi => ?_;refine bk (mi lq Tc.ai.aa a i L1) fun R hR => ?_;have x5:L1.length=l.length:=by rw [<- Fq,Pb]
   have aFl:R.length=l.length:=by rw [<- hR,Xl,x5]
   refine⟨aAY T a i R L1,?_⟩
   conv=>arg 1; cbv
   refine⟨?_,fun (p:Nat×List aA) hp => ?_⟩
   . simp (maxSteps:=4000000) only [ay];refine⟨⟨oo,aN _,oo,hR⟩,by rw [hi],Fq⟩
   . have bC:a<=p.1/\p.1<=i/\p.2.length=R.length/\mi lq Tc.ai.aa a p.1 p.2=R:=hp;have p1:=bC.1;have p2:=bC.2.1;have p3:=bC.2.2.1;have p4:=bC.2.2.2;clear hn hp bC fy;have hup:pU lq Tc.ai.aa a l (n+1)=R:=by rw [<- hR,<- hi,<- Fq]; rfl
     have tH:mi lq Tc.ai.aa a p.1 p.2=p.2->aP (((a+1+n:Nat):Int)+1)/\(n+1<=b - (a+1)/\b - (a+1) - (n+1)<b - (a+1) - n)/\((a+1+n:Nat):Int)+1=((a+1+(n+1):Nat):Int)/\p.2=pU lq Tc.ai.aa a l (n+1):=fun h=>by
      rw [p4] at h;exact⟨⟨oo,oo⟩,⟨oo,oo⟩,oo,by rw [hup,h]⟩
     conv=>arg 1; cbv
     refine bk (p.1 - 1) fun j hj => ?_;refine bk (swapAt Tc.ai.aa p.2 j) fun L2 oN => ?_;have h5:(p.2.length:Int)<=1000000:=oo
     have JK:mi lq Tc.ai.aa a p.1 p.2=cond (decide (p.1=0)) p.2 (cond (decide (a<p.1)&&lq (p.2.getD p.1 Tc.ai.aa) (p.2.getD j Tc.ai.aa)) (mi lq Tc.ai.aa a j L2) p.2):=by
      rw [<- oN]
      cases hc:p.1 with
      | zero=>rfl
      | succ m =>
       have:j=m:=oo
       subst this;rfl
     have af:p.1<p.2.length:=oo
     simp (maxSteps:=4000000) only [ay];refine⟨fun g2 => ?_,fun g2=>tH ?_⟩
     . have sY:a<p.1:=oo
       have gI:p.1=j+1:=oo
       have bg:decide (p.1=0)=false:=by simp; omega
       refine⟨⟨oo,oo⟩,⟨oo,oo⟩,⟨oo,oo⟩,trivial,fun g3 => ?_,fun g3=>tH ?_⟩
       . refine⟨⟨oo,oo⟩,⟨oo,oo⟩,⟨oo,oo⟩,⟨oo,oo⟩,⟨oo,oo⟩,⟨oo,by rw [r9]; omega⟩,⟨oo,oo⟩,⟨(j,L2),⟨⟨oo,oo,?_,?_⟩,oo⟩,?_⟩⟩
         . rw [<- oN,Az]; exact p3
         . rw [bg,qP,cT sY,fe] at JK;have tZ:lq (p.2.getD p.1 Tc.ai.aa) (p.2.getD j Tc.ai.aa)=true:=by rw [<- hj]; exact cT g3
           rw [tZ,pg] at JK;rw [<- JK];exact p4
         . conv=>arg 1; cbv
           simp (maxSteps:=4000000) only [ay];refine⟨oo,?_⟩;rw [<- oN,hj,gI];rfl
       . rw [JK,bg,qP];have tZ:lq (p.2.getD p.1 Tc.ai.aa) (p.2.getD j Tc.ai.aa)=false:=by rw [<- hj]; exact dB g3
         rw [tZ,nK,qP]
     . have sY:decide (a<p.1)=false:=by simp; omega
       rw [JK,sY,yM,qP];cases decide (p.1=0)<;>rfl
 . simp (maxSteps:=4000000) only [ay];have vA:¬ a+1+n<b:=by simp only [ew,fL] at g1; omega
   unfold CY;rw [show b - (a+1)=n from oo]
theorem Xo{α:Type}(d : α)(l:List α)(j i:Nat)(hj:j+1<l.length):(swapAt d l j).getD i d=if i=j then l.getD (j+1) d else if i=j+1 then l.getD j d else l.getD i d:=by
 unfold swapAt;rw [aY,te,te];by_cases h1:i=j
 . subst h1;simp [show i<l.length from oo]
 . rw [ax (fun e=>h1 e.symm),ax h1];by_cases h2:i=j+1
   . subst h2;simp [hj]
   . rw [ax (fun e=>h2 e.symm),ax h2,aY]
theorem Pc(a b:aA):lq a b=decide (a.aK<b.aK):=by
 unfold lq CZ;by_cases h:a.aK<b.aK
 . simp [h]
 . by_cases h2:b.aK<a.aK<;>simp [h,h2]
section
variable{α:Type}(key : α->Int)(d : α)
def keyed(t:Int)(l:List α):List α:=l.filter fun x=>decide (key x=t)
structure Ren (a b:Nat) (l m:List α):Prop where
 len:m.length=l.length
 out:∀ i,i<a\/b<=i->m[i]? = l[i]?
 JL:∀ t,keyed key t m=keyed key t l
def eP(a b:Nat)(l:List α):Prop:=∀ i k,a<=i->i<k->k<b->key (l.getD i d)<=key (l.getD k d)
theorem Ren.refl(a b:Nat)(l:List α):Ren key a b l l:=⟨rfl,fun _ _=>rfl,fun _=>rfl⟩
variable{key}
theorem Ren.trans{l m n:List α}(h:Ren key a b l m)(g:Ren key a b m n):Ren key a b l n :=
 ⟨g.len.trans h.len,fun i hi=>(g.out i hi).trans (h.out i hi),fun t=>(g.JL t).trans (h.JL t)⟩
theorem Ren.wide{l m:List α}(h:Ren key a b l m)(ha:a'<=a)(hb:b<=b'):Ren key a' b' l m :=
 ⟨h.len,fun i hi=>h.out i oo,h.JL⟩
variable{d}
theorem Ren.get{l m:List α}(h:Ren key a b l m)(hi:i<a\/b<=i):m.getD i d=l.getD i d:=by
 rw [aY,h.out i hi,<- aY]
theorem eP.le{l:List α}(h:eP key d a b l){k:Nat}(hi:a<=i)(mb:i<=k)(hk:k<b):key (l.getD i d)<=key (l.getD k d):=by
 rcases cv i k with g|g
 . exact h i k hi g hk
 . rw [show i=k from oo]; exact yO _
theorem ajS:∀ {l m:List α},l.Pairwise (fun x y=>key x<=key y)->m.Pairwise (fun x y=>key x<=key y)->(∀ t,keyed key t l=keyed key t m)->l=m
 | [],[],_,_,_=>rfl
 | [],y::m,_,_,h=>by
  have:=h (key y);simp [keyed] at this
 | x::l,[],_,_,h=>by
  have:=h (key x);simp [keyed] at this
 | x::l,y::m,h1,h2,h=>by
  have hx:x∈keyed key (key x) (y::m):=by rw [<- h]; simp [keyed]
  have hy:y∈keyed key (key y) (x::l):=by rw [h]; simp [keyed]
  have Xp:=(Ks.1 hx).1;have pH:=(Ks.1 hy).1;have e1:key y<=key x:=by
   rcases gD.1 Xp with g|g
   . rw [g]; exact yO _
   . exact (vI.1 h2).1 x g
  have e2:key x<=key y:=by
   rcases gD.1 pH with g|g
   . rw [g]; exact yO _
   . exact (vI.1 h1).1 y g
  have e:key x=key y:=oo
  have h3:=h (key x);simp only [keyed,Dk,qN,fH,e,vL] at h3;obtain⟨rfl,h4⟩:=h3;have h5:∀ t,keyed key t l=keyed key t m:=fun t=>by
   have:=h t;simp only [keyed,Dk] at this;split at this
   . exact (List.cons.inj this).2
   . exact this
  rw [ajS (vI.1 h1).2 (vI.1 h2).2 h5]
theorem Fz{l:List α}(bJ:a<=b):l=l.take a++((l.take b).drop a++l.drop b):=by
 rw [<- fl]
 conv=>lhs; rw [<- lT b l]
 congr 1
 conv=>lhs; rw [<- lT a (l.take b)]
 rw [F5,tf bJ]
theorem ajT{l:List α}(hb:b<=l.length)(h:eP key d a b l):((l.take b).drop a).Pairwise fun x y=>key x<=key y:=by
 rw [yH];intro i j hi hj iH;simp only [iU,cy] at hi hj;have:=h (a+i) (a+j) oo oo oo;rw [aY,aY,bq oo,bq oo] at this;simpa [anc,anb] using this
theorem aA1{l m n:List α}(bJ:a<=b)(hb:b<=l.length)(h1:Ren key a b l m)(h2:Ren key a b l n)(s1:eP key d a b m)(s2:eP key d a b n):m=n:=by
 have ht:m.take a=n.take a:=xv fun i=>by
  rw [e9,e9];split
  . rw [h1.out i (.inl oo),h2.out i (.inl oo)]
  . rfl
 have hd:m.drop b=n.drop b:=xv fun i=>by
  rw [mo,mo,h1.out _ (.inr oo),h2.out _ (.inr oo)]
 rw [Fz (l:=m) bJ,Fz (l:=n) bJ,ht,hd];congr 2;refine ajS (key:=key) (ajT (by rw [h1.len]; exact hb) s1) (ajT (by rw [h2.len]; exact hb) s2) fun t => ?_;have h:=(h1.JL t).trans (h2.JL t).symm;rw [Fz (l:=m) bJ,Fz (l:=n) bJ,ht,hd] at h;simp only [keyed,Dg] at h;exact List.append_cancel_right (List.append_cancel_left h)
def qF(key : α->Int)(x : α):List α->List α
 | [] => [x]
 | y::l=>if key x<=key y then x::y::l else y::qF key x l
def pb(key : α->Int)(l:List α):List α:=l.foldr (qF key) []
theorem ajU(t:Int)(x : α):∀ l,keyed key t (qF key x l)=keyed key t (x::l)
 | []=>rfl
 | y::l=>by
  unfold qF;split
  . rfl
  . have:=ajU t x l;simp only [keyed,Dk] at this ⊢;rw [this];by_cases h1:key x=t<;>by_cases h2:key y=t<;>simp [h1,h2]
    omega
theorem ajV(t:Int):∀ l,keyed key t (pb key l)=keyed key t l
 | []=>rfl
 | x::l=>by
  have h:=ajU (key:=key) t x (pb key l);have ih:=ajV t l;simp only [keyed,Dk] at h ih ⊢;rw [show pb key (x::l)=qF key x (pb key l) from rfl,h,ih]
theorem ajW(x : α):∀ l,(qF key x l).length=l.length+1
 | []=>rfl
 | y::l=>by
  unfold qF;split
  . rfl
  . rw [dE,ajW x l,dE]
theorem Pf:∀ l,(pb key l).length=l.length
 | []=>rfl
 | x::l=>by
  rw [show pb key (x::l)=qF key x (pb key l) from rfl,ajW,Pf l,dE]
theorem Xq(x : α):∀ {l} {y},y∈qF key x l->y=x\/y∈l
 | [],y,h => .inl (by simpa [qF] using h)
 | z::l,y,h=>by
  unfold qF at h;split at h
  . simpa using h
  . rcases gD.1 h with g|g
    . exact .inr (by simp [g])
    . rcases Xq x g with g|g
      . exact .inl g
      . exact .inr (by simp [g])
theorem ajX(x : α):∀ {l:List α},l.Pairwise (fun x y=>key x<=key y)->(qF key x l).Pairwise fun x y=>key x<=key y
 | [],_=>by simp [qF]
 | y::l,h=>by
  obtain⟨h1,h2⟩:=vI.1 h;unfold qF;split
  . rename_i g;exact vI.2 ⟨fun z hz=>by
     rcases gD.1 hz with e|e
     . rw [e]; exact g
     . exact Int.le_trans g (h1 z e),h⟩
  . rename_i g;exact vI.2 ⟨fun z hz=>by
     rcases Xq x hz with e|e
     . rw [e]; omega
     . exact h1 z e,ajX x h2⟩
theorem ajY:∀ l:List α,(pb key l).Pairwise fun x y=>key x<=key y
 | []=>List.Pairwise.nil
 | x::l=>ajX x (ajY l)
def cY(key : α->Int)(a b:Nat)(l:List α):List α:=l.take a++(pb key ((l.take b).drop a)++l.drop b)
theorem rV{l:List α}(bJ:a<=b)(hb:b<=l.length):Ren key a b l (cY key a b l):=by
 have hn:(pb key ((l.take b).drop a)).length=b - a:=by rw [Pf,iU,cy]; omega
 refine⟨?_,fun i hi => ?_,fun t => ?_⟩
 . unfold cY;simp only [c9,hn,cy,iU];omega
 . unfold cY;rw [Df];simp only [cy];rcases hi with hi|hi
   . rw [aG oo,e9,aG hi]
   . rw [ax oo,Df,hn,ax oo,mo];congr 1;omega
 . unfold cY;have h:=ajV (key:=key) t ((l.take b).drop a)
   conv=>rhs; rw [Fz (l:=l) bJ]
   simp only [keyed,Dg] at h ⊢;rw [h]
theorem yy{l:List α}(bJ:a<=b)(hb:b<=l.length):eP key d a b (cY key a b l):=by
 have hn:(pb key ((l.take b).drop a)).length=b - a:=by rw [Pf,iU,cy]; omega
 intro i k hi mb hk;have hg:∀ j,a<=j->(hj:j<b)->(cY key a b l).getD j d=(pb key ((l.take b).drop a))[j - a]'oo:=fun j h1 h2=>by
  exact ajZ
 rw [hg i hi oo,hg k oo hk];exact yH.1 (ajY _) _ _ _ _ oo
theorem FA{l m:List α}(bJ:a<=b)(hb:b<=l.length)(h:Ren key a b l m)(s:eP key d a b m):m=cY key a b l :=
 aA1 bJ hb h (rV bJ hb) s (yy bJ hb)
theorem aj0:∀ {l:List α} {y},y∈pb key l->y∈l
 | [],y,h=>h
 | x::l,y,h=>by
  rcases Xq x (show y∈qF key x (pb key l) from h) with g|g
  . rw [g]; exact am6
  . exact P0 _ (aj0 g)
theorem aj1{l:List α}(bJ:a<=b)(hb:b<=l.length)(h1:a<=x)(h2:x<b):∃ i,a<=i/\i<b/\(cY key a b l).getD x d=l.getD i d:=by
 have hn:(pb key ((l.take b).drop a)).length=b - a:=by rw [Pf,iU,cy]; omega
 have hg:(cY key a b l).getD x d=(pb key ((l.take b).drop a))[x - a]'oo:=by
  exact ajZ
 obtain⟨i,hi⟩:=mn.1 (aj0 (lV (show x - a<(pb key ((l.take b).drop a)).length from oo)));rw [mo,e9] at hi;split at hi
 . exact⟨a+i,oo,oo,by rw [hg,aY,hi]; rfl⟩
 . cases hi
/- two aa8 lie side by side -/
theorem aj2{l:List α}(hj:j+1<l.length)(ha:a<=j)(hb:j+1<b)(h:key (l.getD (j+1) d)≠key (l.getD j d)):Ren key a b l (swapAt d l j):=by
 refine⟨Az d l j,fun i hi => ?_,fun t => ?_⟩
 . unfold swapAt;rw [YK oo,YK oo]
 . have e1:l.getD j d=l[j]:=by rw [aY,bq oo,iD]
   have e2:l.getD (j+1) d=l[j+1]:=by rw [aY,bq hj,iD]
   have h1:l=l.take j++l[j]::l[j+1]::l.drop (j+2):=by
    rw [YE,YE,lT]
   have h2:swapAt d l j=l.take j++l[j+1]::l[j]::l.drop (j+2):=by
    unfold swapAt;rw [e1,e2];exact aj3
   rw [h2]
   conv=>rhs; rw [h1]
   rw [e1,e2] at h;simp only [keyed,Dg,Dk];congr 1;by_cases g1:key l[j]=t<;>by_cases g2:key l[j+1]=t<;>simp [g1,g2]
   omega
/- one aA2 up,one aA2 down -/
def xl(d : α)(l:List α)(a:Nat):Nat->List α
 | 0=>l
 | n+1=>swapAt d (xl d l a n) (a+n)
theorem Pg(l:List α)(a:Nat):∀ n,(xl d l a n).length=l.length
 | 0=>rfl
 | n+1=>by unfold xl; rw [Az,Pg l a n]
theorem JM(l:List α)(a:Nat):∀ n,a+n<l.length->∀ i,(xl d l a n).getD i d=if a<=i/\i<a+n then l.getD (i+1) d else if i=a+n then l.getD a d else l.getD i d
 | 0,hn,i=>by
  unfold xl;rw [ax oo];split
  . rename_i h; rw [h]; rfl
  . rfl
 | n+1,hn,i=>by
  have ih:=JM l a n oo;unfold xl;rw [Xo _ _ _ _ (by rw [Pg]; omega),ih,ih,ih];grind
theorem aj4{l:List α}{a b:Nat}:∀ n,a+n<l.length->a+n<b->(∀ i,a<i->i<=a+n->key (l.getD i d)<key (l.getD a d))->Ren key a b l (xl d l a n)
 | 0,_,_,_=>Ren.refl key a b l
 | n+1,hn,hb,h=>by
  refine (aj4 n oo oo fun i h1 h2=>h i h1 oo).trans (aj2 (by rw [Pg]; omega) oo oo ?_);rw [JM l a n oo,JM l a n oo,ax oo,ax oo,ax oo,aG rfl];have:=h (a+n+1) oo oo;omega
theorem aA3{l:List α}(hb:b<=l.length)(hi:a+1<=i/\i<=b)(s:eP key d (a+1) b l)(h1:∀ k,a+1<=k->k<i->key (l.getD k d)<key (l.getD a d))(h2:∀ k,i<=k->k<b->key (l.getD a d)<=key (l.getD k d)):xl d l a (i - 1 - a)=cY key a b l:=by
 refine FA (d:=d) oo hb (aj4 _ oo oo fun k g1 g2=>h1 k oo oo) fun x y g1 g2 g3 => ?_;rw [JM l a _ oo,JM l a _ oo];have e:a+(i - 1 - a)=i - 1:=oo
 rw [e];by_cases c1:x<i - 1
 . rw [aG ⟨g1,c1⟩];by_cases c2:y<i - 1
   . rw [aG ⟨oo,c2⟩];exact FB
   . rw [ax oo];split
     . exact Qa (h1 _ oo oo)
     . exact FB
 . rw [ax (show ¬ (a<=x/\x<i - 1) from oo),ax (show ¬ (a<=y/\y<i - 1) from oo),ax (show ¬ y=i - 1 from oo)];split
   . exact h2 _ oo oo
   . exact FB
def pc(d : α)(l:List α)(m:Nat):Nat->List α
 | 0=>l
 | n+1=>swapAt d (pc d l m n) (m - n - 1)
theorem Ph(l:List α)(m:Nat):∀ n,(pc d l m n).length=l.length
 | 0=>rfl
 | n+1=>by unfold pc; rw [Az,Ph l m n]
theorem C1(l:List α)(m:Nat)(hm:m<l.length):∀ n,n<=m->∀ i,(pc d l m n).getD i d=if m - n<i/\i<=m then l.getD (i - 1) d else if i=m - n then l.getD m d else l.getD i d
 | 0,hn,i=>by
  unfold pc;rw [ax oo];split
  . rename_i h; rw [h]; rfl
  . rfl
 | n+1,hn,i=>by
  have ih:=C1 l m hm n oo;unfold pc;rw [Xo _ _ _ _ (by rw [Ph]; omega),ih,ih,ih];grind
theorem aj5{l:List α}{a b m:Nat}(hm:m<l.length)(hb:m<b):∀ n,a+n<=m->(∀ i,m - n<=i->i<m->key (l.getD m d)<key (l.getD i d))->Ren key a b l (pc d l m n)
 | 0,_,_=>Ren.refl key a b l
 | n+1,hn,h=>by
  refine (aj5 hm hb n oo fun i h1 h2=>h i oo oo).trans (aj2 (by rw [Ph]; omega) oo oo ?_);rw [C1 l m hm n oo,C1 l m hm n oo,ax oo,aG oo,ax oo,ax oo];have:=h (m - n - 1) oo oo;omega
theorem Xr{l:List α}(hm:m<l.length)(hi:a<=i/\i<=m)(s:eP key d a m l)(h1:∀ k,a<=k->k<i->key (l.getD k d)<=key (l.getD m d))(h2:∀ k,i<=k->k<m->key (l.getD m d)<key (l.getD k d)):pc d l m (m - i)=cY key a (m+1) l:=by
 refine FA (d:=d) oo oo (aj5 hm oo _ oo fun k g1 g2=>h2 k oo oo) fun x y g1 g2 g3 => ?_;rw [C1 l m hm _ oo,C1 l m hm _ oo];have e:m - (m - i)=i:=oo
 rw [e];by_cases c1:x<i
 . rw [ax oo,ax oo];by_cases c2:y<i
   . rw [ax oo,ax oo];exact FB
   . by_cases c3:y=i
     . rw [ax oo,aG c3];exact h1 _ oo oo
     . rw [aG oo];exact FB
 . rw [aG (show i<y/\y<=m from oo)];by_cases c2:x=i
   . rw [ax oo,aG c2];exact Qa (h2 _ oo oo)
   . rw [aG oo];exact FB
/- blocks -/
def JN(d : α)(l:List α)(i j:Nat):List α:=(l.set i (l.getD j d)).set j (l.getD i d)
def rW(d : α)(l:List α)(a b:Nat):Nat->List α
 | 0=>l
 | n+1=>JN d (rW d l a b n) (a+n) (b+n)
theorem aA4(l:List α)(i j:Nat):(JN d l i j).length=l.length:=by unfold JN; simp
theorem aA5(l:List α)(hi:i<l.length)(hj:j<l.length)(k:Nat):(JN d l i j)[k]? = if k=j then l[i]? else if k=i then l[j]? else l[k]? := by
 unfold JN;rw [te,te,r9,aY,aY,bq hi,bq hj];by_cases h1:j=k
 . subst h1; simp [hj]
 . rw [ax h1,ax (show ¬ k=j from fun e=>h1 e.symm)];by_cases h2:i=k
   . subst h2; simp [hi]
   . rw [ax h2,ax (show ¬ k=i from fun e=>h2 e.symm)]
theorem AA(l:List α)(a b:Nat):∀ n,(rW d l a b n).length=l.length
 | 0=>rfl
 | n+1=>by unfold rW; rw [aA4,AA l a b n]
theorem AB(l:List α)(a b:Nat):∀ n,a+n<=b->b+n<=l.length->∀ k,(rW d l a b n)[k]? = if a<=k/\k<a+n then l[b+(k - a)]? else if b<=k/\k<b+n then l[a+(k - b)]? else l[k]?
 | 0,h1,h2,k=>by unfold rW; rw [ax oo,ax oo]
 | n+1,h1,h2,k=>by
  have ih:=AB l a b n oo oo;unfold rW;rw [aA5 _ (by rw [AA]; omega) (by rw [AA]; omega),ih,ih,ih];grind
def jh(a m b:Nat)(l:List α):List α:=l.take a++((l.take b).drop m++((l.take m).drop a++l.drop b))
theorem Xs{l:List α}(h1:a<=m)(h2:m<=b)(h3:b<=l.length):(jh a m b l).length=l.length:=by
 unfold jh;simp only [c9,iU,cy];omega
theorem AD{l:List α}(h1:a<=m)(h2:m<=b)(h3:b<=l.length)(k:Nat):(jh a m b l)[k]? = if a<=k/\k<a+(b - m) then l[m+(k - a)]? else if a+(b - m)<=k/\k<b then l[k - (b - m)]? else l[k]? := by
 unfold jh;rw [Df];simp only [cy,show min a l.length=a from oo];by_cases c1:k<a
 . rw [aG c1,ax oo,ax oo,e9,aG c1]
 . rw [ax c1,Df];simp only [iU,cy,show min b l.length=b from oo];by_cases c2:k - a<b - m
   . rw [aG c2,aG (show a<=k/\k<a+(b - m) from oo),mo,e9,aG oo]
   . rw [ax c2,ax (show ¬ (a<=k/\k<a+(b - m)) from oo),Df];simp only [iU,cy,show min m l.length=m from oo];by_cases c3:k - a - (b - m)<m - a
     . rw [aG c3,aG oo,mo,e9,aG oo];congr 1;omega
     . rw [ax c3,ax oo,mo];congr 1;omega
theorem aA6{l:List α}(h1:a<m)(h3:b<=l.length)(hj:b=m+j)(af:j<m - a):jh (a+j) m b (rW d l a m j)=jh a m b l:=by
 apply xv;intro k;rw [AD oo oo (by rw [AA]; omega),AD oo oo h3,AB l a m j oo oo,AB l a m j oo oo,AB l a m j oo oo];grind
theorem aA7{l:List α}(h3:b<=l.length)(hm:m=a+i)(af:i<b - m):jh a m (b - i) (rW d l a (b - i) i)=jh a m b l:=by
 apply xv;intro k;rw [AD oo oo (by rw [AA]; omega),AD oo oo h3,AB l a _ i oo oo,AB l a _ i oo oo,AB l a _ i oo oo]
 repeat' split
 all_goals first|(exfalso; omega)|(congr 1; omega)|rfl
theorem aA8{l:List α}(h1:a<=m)(h3:b<=l.length)(he:m - a=b - m)(h2:m<=b):rW d l a m (m - a)=jh a m b l:=by
 apply xv;intro k;rw [AD oo oo h3,AB l a m _ oo oo];grind
theorem aA9{l:List α}{A B:Nat}(h1:a<=m)(h2:m<=b)(h3:b<=l.length)(hA:A<=a)(hB:b<=B)(h:∀ i k,a<=i->i<m->m<=k->k<b->key (l.getD k d)<key (l.getD i d)):Ren key A B l (jh a m b l):=by
 refine⟨Xs h1 h2 h3,fun i hi=>by rw [AD h1 h2 h3,ax oo,ax oo],fun t => ?_⟩;have e:l=l.take a++((l.take m).drop a++((l.take b).drop m++l.drop b)):=by
  conv=>lhs; rw [Fz (l:=l) (a:=a) (b:=b) oo]
  congr 1;rw [<- fl];congr 1
  conv=>lhs; rw [<- lT (m - a) ((l.take b).drop a)]
  rw [vN,show a+(m - a)=m from oo,<- List.drop_take,F5,show min m b=m from oo]
 conv=>rhs; rw [e]
 unfold jh;simp only [keyed,Dg];congr 1;rw [<- fl,<- fl];congr 1;have hx:∀ x∈(l.take m).drop a,∃ i,a<=i/\i<m/\l.getD i d=x:=fun x hx=>by
  obtain⟨i,hi⟩:=mn.1 hx;rw [mo,e9] at hi;split at hi
  . exact⟨a+i,oo,oo,by rw [aY,hi]; rfl⟩
  . cases hi
 have hy:∀ y∈(l.take b).drop m,∃ k,m<=k/\k<b/\l.getD k d=y:=fun x hx=>by
  obtain⟨i,hi⟩:=mn.1 hx;rw [mo,e9] at hi;split at hi
  . exact⟨m+i,oo,oo,by rw [aY,hi]; rfl⟩
  . cases hi
 by_cases g:∃ x∈(l.take m).drop a,key x=t
 . obtain⟨x,Xp,hxt⟩:=g;obtain⟨i,i1,i2,i3⟩:=hx x Xp;have:((l.take b).drop m).filter (fun x=>decide (key x=t)) = []:=by
    rw [YF];intro y yk;obtain⟨k,k1,k2,k3⟩:=hy y yk;have:=h i k i1 i2 k1 k2;rw [i3,k3] at this;simp only [aU];omega
   rw [this,tg,th]
 . have:((l.take m).drop a).filter (fun x=>decide (key x=t)) = []:=by
    rw [YF];intro y yk Gr;exact g ⟨y,yk,r8 Gr⟩
   rw [this,tg,th]
theorem aBa{l l1 l2 l3:List α}(hb:b<=l.length)(h:a<=s/\s<=m/\m<=e/\e<=b)(hc:c=s+(e - m))(sa:eP key d a m l)(sb:eP key d m b l)(qS:s=a\/e=b\/key (l.getD (s - 1) d)<=key (l.getD e d))(sC:s=m\/e=m\/key (l.getD (e - 1) d)<key (l.getD s d))(h1:l1=jh s m e l)(h2:l2=cY key a c l1)(h3:l3=cY key c b l2):l3=cY key a b l:=by
 have aj6:∀ i k,s<=i->i<m->m<=k->k<e->key (l.getD k d)<key (l.getD i d):=fun i k i1 i2 k1 k2=>by
  have q:key (l.getD (e - 1) d)<key (l.getD s d):=by rcases sC with g|g|g<;>first|exact g|omega
  have q1:=sb.le k1 (show k<=e - 1 from oo) oo;have q2:=sa.le (show a<=s from oo) i1 i2;omega
 have r1:Ren key a b l l1:=by rw [h1]; exact aA9 oo oo oo oo oo aj6
 have n1:=r1.len;have r2:Ren key a c l1 l2:=by rw [h2]; exact rV oo oo
 have n2:=r2.len;have r3:Ren key c b l2 l3:=by rw [h3]; exact rV oo oo
 refine FA (d:=d) oo hb ((r1.trans (r2.wide oo oo)).trans (r3.wide oo oo)) fun x y g1 g2 g3 => ?_;have s2:eP key d a c l2:=by rw [h2]; exact yy oo oo
 have s3:eP key d c b l3:=by rw [h3]; exact yy oo oo
 by_cases c1:c<=x
 . exact s3 x y c1 g2 g3
 by_cases c2:y<c
 . rw [r3.get (.inl oo),r3.get (.inl oo)];exact s2 x y g1 g2 c2
 obtain⟨i,i1,i2,i3⟩:=aj1 (key:=key) (d:=d) (l:=l1) (a:=a) (b:=c) oo oo g1 (show x<c from oo);obtain⟨k,k1,k2,k3⟩:=aj1 (key:=key) (d:=d) (l:=l2) (a:=c) (b:=b) oo oo (show c<=y from oo) g3;rw [r3.get (.inl oo),h2,i3,h3,k3,r2.get (.inr oo),h1];have hr:∀ q,(jh s m e l).getD q d=if s<=q/\q<s+(e - m) then l.getD (m+(q - s)) d else if s+(e - m)<=q/\q<e then l.getD (q - (e - m)) d else l.getD q d:=fun q=>by
  exact aj7
 rw [hr,hr];by_cases q1:i<s
 . rw [ax oo,ax oo,ax oo];by_cases q2:k<e
   . rw [aG oo];exact Xt
   . rw [ax oo];have p1:key (l.getD (s - 1) d)<=key (l.getD e d):=by rcases qS with g|g|g<;>first|exact g|omega
     have p2:=sa.le (show a<=i from oo) (show i<=s - 1 from oo) oo;have p3:=sb.le (show m<=e from oo) (show e<=k from oo) k2;omega
 . rw [aG oo,ax oo];by_cases q2:k<e
   . rw [aG oo];exact Qa (aj6 _ _ oo oo oo oo)
   . rw [ax oo];exact Xu
theorem aBb{l:List α}(h1:s<=m)(h2:m<=e)(h3:e<=l.length)(h:s=m\/m=e):jh s m e l=l:=by
 apply xv;intro k;rw [AD h1 h2 h3];grind
theorem JO{l:List α}(bJ:a<=b)(hb:b<=l.length)(h:eP key d a b l):cY key a b l=l:=(FA bJ hb (Ren.refl key a b l) h).symm
theorem aBc{l:List α}(hb:b<=l.length)(h:a<=s/\s<=m/\m<=e/\e<=b)(sa:eP key d a m l)(sb:eP key d m b l) :
 (eP key d a s (jh s m e l)/\eP key d s (s+(e - m)) (jh s m e l))/\eP key d (s+(e - m)) e (jh s m e l)/\eP key d e b (jh s m e l):=by
 have hr:∀ q,(jh s m e l).getD q d=if s<=q/\q<s+(e - m) then l.getD (m+(q - s)) d else if s+(e - m)<=q/\q<e then l.getD (q - (e - m)) d else l.getD q d:=fun q=>by
  exact aj7
 refine⟨⟨fun i k h1 h2 h3 => ?_,fun i k h1 h2 h3 => ?_⟩,fun i k h1 h2 h3 => ?_,fun i k h1 h2 h3 => ?_⟩<;>rw [hr,hr]
 . rw [ax oo,ax oo,ax oo,ax oo];exact Xt
 . rw [aG oo,aG oo];exact Xu
 . rw [ax oo,aG oo,ax oo,aG oo];exact Xt
 . rw [ax oo,ax oo,ax oo,ax oo];exact Xu
theorem eP.out{l n:List α}(h:eP key d a b l)(hr:Ren key a' b' l n)(hd:b<=a'\/b'<=a):eP key d a b n:=fun i k h1 h2 h3=>by
 rw [hr.get oo,hr.get oo];exact h i k h1 h2 h3
def JP(key : α->Int)(d : α)(b e mid N:Nat)(Y G:List α):Prop :=
 ((mid:Int)<(e:Int)->((e:Int)<(b:Int)->((0<=(mid:Int)/\(mid:Int)<(e:Int)/\(e:Int)<(b:Int))/\((b:Int)<=(Y.length:Int)/\(b:Int) - (mid:Int)<=(N:Int))/\Y.length<=1000000/\eP key d mid e Y/\eP key d e b Y)/\cY key mid b Y=G)/\(¬ (e:Int)<(b:Int)->Y=G))/\(¬ (mid:Int)<(e:Int)->Y=G)
def aj8(key : α->Int)(d : α)(a b s e mid N:Nat)(X G:List α):Prop :=
 ((a:Int)<(s:Int)->((s:Int)<(mid:Int)->((0<=(a:Int)/\(a:Int)<(s:Int)/\(s:Int)<(mid:Int))/\((mid:Int)<=(X.length:Int)/\(mid:Int) - (a:Int)<=(N:Int))/\X.length<=1000000/\eP key d a s X/\eP key d s mid X)/\JP key d b e mid N (cY key a mid X) G)/\(¬ (s:Int)<(mid:Int)->JP key d b e mid N X G))/\(¬ (a:Int)<(s:Int)->JP key d b e mid N X G)
theorem aj9{mid:Nat}{Y G:List α}(hb:b<=Y.length)(hY:Y.length<=1000000)(hN:b<=mid+N)(he:mid<=e/\e<=b)(h3:eP key d mid e Y)(h4:eP key d e b Y)(hG:cY key mid b Y=G):JP key d b e mid N Y G:=by
 have hid:e=b\/mid=e->Y=G:=fun h=>by
  rw [<- hG];refine (JO (d:=d) oo hb ?_).symm;rcases h with h|h
  . rw [<- h]; exact h3
  . rw [h]; exact h4
 exact⟨fun g1=>⟨fun g2=>⟨⟨⟨oo,g1,g2⟩,⟨oo,oo⟩,hY,h3,h4⟩,hG⟩,fun g2=>hid (.inl oo)⟩,fun g1=>hid (.inr oo)⟩
theorem aka{l:List α}{mid:Nat}(hb:b<=l.length)(hl:l.length<=1000000)(hN:b<=mid+N/\mid<=a+N)(h:a<=s/\s<=m/\m<=e/\e<=b)(hc:mid=s+(e - m))(bJ:a<=mid)(sa:eP key d a m l)(sb:eP key d m b l)(qS:s=a\/e=b\/key (l.getD (s - 1) d)<=key (l.getD e d))(sC:s=m\/e=m\/key (l.getD (e - 1) d)<key (l.getD s d)):aj8 key d a b s e mid N (jh s m e l) (cY key a b l):=by
 have hW:=aBa (key:=key) (d:=d) hb h hc sa sb qS sC rfl rfl rfl;obtain⟨⟨p1,p2⟩,p3,p4⟩:=aBc (key:=key) (d:=d) hb h sa sb;rw [<- hc] at p2 p3;have n1:(jh s m e l).length=l.length:=Xs oo oo oo;generalize jh s m e l=X at *
 have r2:Ren key a mid X (cY key a mid X):=rV bJ oo;have hid:s=a\/s=mid->cY key a mid X=X:=fun g=>JO (d:=d) bJ oo (by
  rcases g with g|g
  . rw [<- g]; exact p2
  . rw [<- g]; exact p1)
 have hY:s=a\/s=mid->JP key d b e mid N X (cY key a b l):=fun g=>aj9 oo oo hN.1 oo p3 p4 (by rw [<- hW,hid g]);exact⟨fun g1=>⟨fun g2=>⟨⟨⟨oo,g1,g2⟩,⟨oo,oo⟩,oo,p1,p2⟩,aj9 (by rw [r2.len]; omega) (by rw [r2.len]; omega) hN.1 oo (p3.out r2 (.inr (aN _))) (p4.out r2 (.inr oo)) hW⟩,fun g2=>hY (.inr oo)⟩,fun g1=>hY (.inl oo)⟩
theorem aBd{l:List α}(h1:a<=c)(h2:c<=b)(hb:b<=l.length)(d : α):cY key a b (cY key a c l)=cY key a b l:=by
 have r1:Ren key a c l (cY key a c l):=rV h1 oo;exact FA (d:=d) oo hb ((r1.wide (aN _) h2).trans (rV oo (by rw [r1.len]; exact hb))) (yy oo (by rw [r1.len]; exact hb))
theorem akb{lt : α -> α->Bool}(af:∀ x y,lt x y=decide (key x<key y)){l:List α}{a m:Nat}(ham:a<=m)(hm:m<l.length)(s:eP key d a m l):∀ r n,m - n=a+r->n<=m->(∀ k,m - n<=k->k<m->key (l.getD m d)<key (l.getD k d))->mi lt d a (m - n) (pc d l m n)=cY key a (m+1) l
 | 0,n,hr,hn,h=>by
  have gH:=Xr (key:=key) (d:=d) (a:=a) (i:=a) hm ⟨aN _,ham⟩ s (fun k k1 k2=>absurd k2 oo) (fun k k1 k2=>h k oo k2);rw [show m - a=n from oo] at gH;rw [<- gH]
  cases hj:m - n with
  | zero=>rfl
  | succ j =>
   unfold mi;rw [dB oo,yM,qP]
 | r+1,n,hr,hn,h=>by
  obtain⟨j,hj⟩:∃ j,m - n=j+1:=⟨m - n - 1,oo⟩
  have e1:(pc d l m n).getD (j+1) d=l.getD m d:=by rw [C1 l m hm n hn,ax oo,aG oo]
  have e2:(pc d l m n).getD j d=l.getD j d:=by rw [C1 l m hm n hn,ax oo,ax oo]
  rw [hj];unfold mi;rw [e1,e2,af,cT (show a<j+1 from oo),fe];by_cases hk:key (l.getD m d)<key (l.getD j d)
  . rw [cT hk,pg];have ih:=akb af ham hm s r (n+1) oo oo fun k k1 k2=>by
     by_cases e:k=j
     . rw [e]; exact hk
     . exact h k oo k2
    rw [show m - (n+1)=j from oo] at ih;rw [<- ih];show mi lt d a j (swapAt d (pc d l m n) j)=mi lt d a j (swapAt d (pc d l m n) (m - n - 1))
    rw [show m - n - 1=j from oo]
  . rw [dB hk,qP];have gH:=Xr (key:=key) (d:=d) (a:=a) (i:=m - n) hm ⟨oo,oo⟩ s (fun k k1 k2=>by
     have:=s.le k1 (show k<=j from oo) oo
     omega) h
    rw [show m - (m - n)=n from oo] at gH;exact gH
theorem akd{lt : α -> α->Bool}(af:∀ x y,lt x y=decide (key x<key y)){l:List α}{a:Nat}:∀ n,a+1+n<=l.length->pU lt d a l n=cY key a (a+1+n) l
 | 0,h=>(JO (d:=d) oo h fun i k h1 h2 h3=>oo).symm
 | n+1,h=>by
  have ih:pU lt d a l n=cY key a (a+1+n) l:=akd af n oo;have r1:Ren key a (a+1+n) l (cY key a (a+1+n) l):=rV oo oo;unfold pU;rw [ih];have:=akb (key:=key) (d:=d) af (l:=cY key a (a+1+n) l) (a:=a) (m:=a+1+n) oo (by rw [r1.len]; omega) (yy (l:=l) (a:=a) (b:=a+1+n) oo oo) (n+1) 0 oo oo (fun k h1 h2=>oo);rw [show a+1+n - 0=a+1+n from oo] at this;rw [show pc d (cY key a (a+1+n) l) (a+1+n) 0=cY key a (a+1+n) l from rfl] at this;rw [this];exact aBd (l:=l) (a:=a) (c:=a+1+n) (b:=a+1+n+1) oo oo oo d
theorem Xv{lt : α -> α->Bool}(af:∀ x y,lt x y=decide (key x<key y)){l:List α}(bJ:a<=b)(hb:b<=l.length):CY lt d a b l=cY key a b l:=by
 unfold CY;by_cases h:b<=a+1
 . rw [show b - (a+1)=0 from oo];exact (JO (d:=d) bJ hb fun i k h1 h2 h3=>oo).symm
 . rw [akd (l:=l) (a:=a) af (b - (a+1)) oo,show a+1+(b - (a+1))=b from oo]
end
def Xw:fi:=⟨257,[.Bj .ai,.int .i64,.int .i64,.int .i64,.fn []],1,fun ah es=>match ah,es with
 | [.own 0,.int .i64 a,.int .i64 b,.int .i64 n,.fn f []],[(0,.row false .ai T l)]=>some ⟨fun _=>(0<=a ()/\0<=n ()/\0<=b ())/\a ()+n ()<=((l ()).length:Int)/\b ()+n ()<=((l ()).length:Int)/\(l ()).length<=1000000,.bp [],[(0,.row false .ai T fun _=>rW Tc.ai.aa (l ()) (a ()).toNat (b ()).toNat (n ()).toNat)]⟩
 | _,_=>none,true⟩
def aBe(T:Nat)(l:List aA)(a b n:Nat):Lp where
 X:=Nat
 ov k := [(10,.int .i64 fun _=>(k:Int)),(0,.own 0)]
 oe k := [(0,.row false .ai T fun _=>rW Tc.ai.aa l a b k)]
 I k:=k<=n
 μ k _:=n - k
 x0:=0
 nx:=some fun k=>k+1
theorem aBf:jb Tryz.prog Xw:=by
 refine Ip [] trivial [] trivial Tryz.func257 (by kernel_rfl) fun ah es res h hp => ?_;simp only [Xw] at h;split at h
 case h_2=>cases h
 rename_i a b n f T l;cases h;obtain⟨l,rfl⟩:=eta (α:=List aA) l;obtain⟨a,rfl⟩:=eta (α:=Int) a;obtain⟨b,rfl⟩:=eta (α:=Int) b;obtain⟨n,rfl⟩:=eta (α:=Int) n;obtain⟨⟨h1,h2,h3⟩,h4,h5,h6⟩:(0<=a/\0<=n/\0<=b)/\a+n<=(l.length:Int)/\b+n<=(l.length:Int)/\l.length<=1000000:=hp;obtain⟨a,rfl⟩:=om h1;obtain⟨b,rfl⟩:=om h3;obtain⟨n,rfl⟩:=om h2;refine⟨[(1,aBe T l a b n)],?_⟩
 conv=>arg 1; cbv
 refine⟨?_,fun (k:Nat) hk => ?_⟩
 . exact Ac
 have fO:k<=n:=hk
 conv=>arg 1; cbv
 refine bk (rW Tc.ai.aa l a b k) fun L hL => ?_;have hlen:L.length=l.length:=by rw [<- hL,AA]
 simp (maxSteps:=4000000) only [ay];simp only [hL];refine⟨fun g => ?_,fun g => ?_⟩
 . refine⟨ii,ii,ii,⟨oo,oo⟩,ii,⟨oo,oo⟩,⟨oo,oo⟩,⟨oo,by rw [r9]; omega⟩,ii,⟨oo,oo⟩,oo,?_⟩;rw [show ((a:Int)+(k:Int)).toNat=a+k from oo,show ((b:Int)+(k:Int)).toNat=b+k from oo,<- hL];rfl
 . rw [<- hL,show k=n from oo]
def Xx:fi:=⟨252,[.Bj .ai,.int .i64,.int .i64,.int .i64,.fn []],1,fun ah es=>match ah,es with
 | [.own 0,.int .i64 a,.int .i64 m,.int .i64 b,.fn f []],[(0,.row false .ai T l)]=>some ⟨fun _=>(0<=a ()/\a ()<m ()/\m ()<b ())/\b ()<=((l ()).length:Int)/\(l ()).length<=1000000,.bp [],[(0,.row false .ai T fun _=>jh (a ()).toNat (m ()).toNat (b ()).toNat (l ()))]⟩
 | _,_=>none,true⟩
def aBg(T:Nat)(l R:List aA)(m i j:Nat):Lp where
 X:=Nat×Nat×List aA
 ov p := [(10,.int .i64 fun _=>(p.1:Int)),(11,.int .i64 fun _=>(p.2.1:Int)),(0,.own 0)]
 oe p := [(0,.row false .ai T fun _=>p.2.2)]
 I p:=(1<=p.1/\p.1<=i)/\(1<=p.2.1/\p.2.1<=j)/\p.2.2.length=R.length/\jh (m - p.1) m (m+p.2.1) p.2.2=R
 μ p _:=p.1+p.2.1
 x0:=(i,j,l)
 nx:=none
theorem aBh:jb Tryz.prog Xx:=by
 refine Ip [] trivial [Xw] ⟨aBf,trivial⟩ Tryz.func252 (by kernel_rfl) fun ah es res h hp => ?_;simp only [Xx] at h;split at h
 case h_2=>cases h
 rename_i a m b f T l;cases h;obtain⟨l,rfl⟩:=eta (α:=List aA) l;obtain⟨a,rfl⟩:=eta (α:=Int) a;obtain⟨b,rfl⟩:=eta (α:=Int) b;obtain⟨m,rfl⟩:=eta (α:=Int) m;obtain⟨⟨h1,h2,h3⟩,h4,h5⟩:(0<=a/\a<m/\m<b)/\b<=(l.length:Int)/\l.length<=1000000:=hp;obtain⟨a,rfl⟩:=om h1;obtain⟨b,rfl⟩:=om (show 0<=b from oo);obtain⟨m,rfl⟩:=om (show 0<=m from oo);refine bk (jh a m b l) fun R hR => ?_;have hlR:R.length=l.length:=by rw [<- hR]; exact Xs oo oo oo
 refine bk (m - a) fun i0 uy => ?_;refine bk (b - m) fun j0 hj0 => ?_;refine⟨[(2,aBg T l R m i0 j0)],?_⟩
 conv=>arg 1; cbv
 simp only [tI,u4,oQ,EE,fL];refine⟨ii,ii,?_,fun (p:Nat×Nat×List aA) hp => ?_⟩
 . simp (maxSteps:=4000000) only [ay];refine⟨⟨⟨oo,oo⟩,⟨oo,oo⟩,oo,?_⟩,oo,oo,trivial⟩;rw [show m - i0=a from oo,show m+j0=b from oo];exact hR
 obtain⟨p1,p2,L⟩:=p;have bC:(1<=p1/\p1<=i0)/\(1<=p2/\p2<=j0)/\L.length=R.length/\jh (m - p1) m (m+p2) L=R:=hp;have q1:=bC.1;have q2:=bC.2.1;have q3:=bC.2.2.1;have q4:=bC.2.2.2;clear hp bC
 conv=>arg 1; cbv
 simp (maxSteps:=4000000) only [ay];refine⟨fun g=>⟨fun g2 => ?_,fun g2 => ?_⟩,fun g => ?_⟩
 . have g1:p2<p1:=oo
   refine bk (p1 - p2) fun i hi => ?_;refine bk (rW Tc.ai.aa L (m - p1) m p2) fun L2 oN => ?_;have Xy:L2.length=R.length:=by rw [<- oN,AA]; exact q3
   have hI:(1<=i/\i<=i0)/\(1<=p2/\p2<=j0)/\L2.length=R.length/\jh (m - i) m (m+p2) L2=R:=by
    refine⟨⟨oo,oo⟩,q2,Xy,?_⟩;rw [<- q4,<- oN,<- hi,show m - (p1 - p2)=m - p1+p2 from oo];exact aA6 oo oo rfl oo
   refine⟨ii,⟨⟨oo,oo,oo⟩,oo,oo,oo⟩,ii,⟨(i,p2,L2),⟨hI,by show i+p2<p1+p2; omega⟩,?_⟩⟩
   conv=>arg 1; cbv
   simp (maxSteps:=4000000) only [ay];refine⟨oo,trivial,?_⟩;rw [show ((m:Int) - (p1:Int)).toNat=m - p1 from oo,oN]
 . have g1:p1<p2:=by
    simp only [fG,ew] at g;omega
   refine bk (p2 - p1) fun j hj => ?_;refine bk (rW Tc.ai.aa L (m - p1) (m+p2 - p1) p1) fun L2 oN => ?_;have Xy:L2.length=R.length:=by rw [<- oN,AA]; exact q3
   have hI:(1<=p1/\p1<=i0)/\(1<=j/\j<=j0)/\L2.length=R.length/\jh (m - p1) m (m+j) L2=R:=by
    refine⟨q1,⟨oo,oo⟩,Xy,?_⟩;rw [<- q4,<- oN,<- hj,show m+(p2 - p1)=m+p2 - p1 from oo];exact aA7 oo oo oo
   refine⟨ii,ii,ii,⟨⟨oo,oo,oo⟩,oo,oo,oo⟩,ii,⟨(p1,j,L2),⟨hI,by show p1+j<p1+p2; omega⟩,?_⟩⟩
   conv=>arg 1; cbv
   simp (maxSteps:=4000000) only [ay];refine⟨trivial,oo,?_⟩;rw [show ((m:Int) - (p1:Int)).toNat=m - p1 from oo,show ((m:Int)+(p2:Int) - (p1:Int)).toNat=m+p2 - p1 from oo,oN]
 . have g1:p1=p2:=by
    simp only [iR,aU] at g;omega
   refine⟨ii,⟨⟨oo,oo,oo⟩,oo,oo,oo⟩,?_⟩;rw [show ((m:Int) - (p1:Int)).toNat=m - p1 from oo,hR,<- q4];have:=aA8 (d:=Tc.ai.aa) (l:=L) (a:=m - p1) (m:=m) (b:=m+p2) oo oo oo oo;rw [<- this,show m - (m - p1)=p1 from oo]
end Go.Proofs.YtamjbkaclhgffaaGreat
