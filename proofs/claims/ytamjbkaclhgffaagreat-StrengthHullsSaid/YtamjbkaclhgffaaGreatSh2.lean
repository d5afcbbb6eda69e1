/-
  Plain laws of frac's numbers: parts of lists of digits, comparisons, lengths.
-/
import Derived.Test.YtamjbkaclhgffaaGreatSh1
import Derived.RangeFuncFrom
import Derived.RangeFuncNested
import Derived.RangeFuncBound
import Derived.RangeFuncCalls
import Derived.RangeFuncLeaves
import Derived.Shelf.Abstract
import Derived.Shelf.RegionOpen
import Derived.OwnWalkIn
import Derived.TacticsInMore
import Derived.LoopNIn
import Derived.LoopIn
import Derived.Lib.SliceRun
import Derived.Laws.CopyOwn
import Derived.Deep.Cut
import Derived.LoopN
set_option linter.all false
set_option maxRecDepth 100000
set_option maxHeartbeats 4000000
namespace Go.Proofs.YtamjbkaclhgffaaGreat
open Go.RowKit
variable{a:Act}{ad:Addr}{aft:Array Edge}{ps:Array Tmp}{c lb vs:Array Value}{b neg:Bool}{assign body:Code}{Q:Exit->Act->World->Prop}{m n z:Int}{css:List (List Value)}{cs cs':List Value}{B D E T T1 base g gf i j p sz:Nat}{x y:Operand}{ρ:Operand->Value}{gd:Option (Nat×Bool)}{A:Option Addr}{d:Option Nat}{pos:String}{α β:Type}{e t t' ty:TypeId}{v:Value}{w w' w0 w1:World}
theorem an2{L o:List α}{m:Nat}{r : α}(ho:o.length=m)(hi:i<m)(Qy:j+m<=L.length):(L.take j++o++L.drop (j+m)).set (j+i) r=L.take j++o.set i r++L.drop (j+m):=by
 have hl:(L.take j).length=j:=FQ oo;rw [fl,List.set_append,hl,ax oo,List.set_append,fl];have e:j+i - j=i:=oo
 rw [e,aG oo]
theorem an3{L o:List α}{m:Nat}(ho:o.length=m)(hi:i<m)(Qy:j+m<=L.length):(L.take j++o++L.drop (j+m))[j+i]? = o[i]? := by
 have hl:(L.take j).length=j:=FQ oo;rw [fl,r6 oo,hl,r7 oo];congr 1;omega
theorem Zu(L:List α)(j m:Nat):L.take j++(L.drop j).take m++L.drop (j+m)=L:=by
 exact Zv
theorem an4{x:Nat}(h:aX x=1):aq ae x = [x]:=by
 have af:=eC cw (n:=x) (k:=1) (mU h);rw [Qb] at af;have h0:x≠0:=by
  intro h0;subst h0;cases h
 rw [sk cw h0,er af,jA af];rfl
theorem an5(x:Nat):aZ ae ((aq ae x).take (min (aX x) 2))=x % 18446744073709551616:=by
 have hs:=Gg ae (aq ae x) (min (aX x) 2);rw [kH cw] at hs;have hl:((aq ae x).take (min (aX x) 2)).length=min (aX x) 2:=by
  rw [cy];show min _ (aX x)=_
  omega
 have af:=sj ((aq ae x).take (min (aX x) 2)) ((cz.aq cw x).take _);rw [hl] at hs af;by_cases h:aX x<=2
 . have e:(aq ae x).drop (min (aX x) 2) = []:=by
    apply yI;show aX x<=_
    omega
   rw [e,Y2,uq,jD] at hs;have:ae^min (aX x) 2<=ae^2:=ui (by decide) oo;have h2:ae^2=18446744073709551616:=by decide
   rw [<- hs,er oo]
 . have e:min (aX x) 2=2:=oo
   rw [e] at hs af ⊢;have h2:ae^2=18446744073709551616:=by decide
   rw [h2] at hs af
   conv=>rhs; rw [hs]
   rw [xq,er af]
theorem KK{x y:Nat}(h:x<y):oz x y = -1:=by unfold oz; rw [aG h]
theorem KL{x y:Nat}(h:y<x):oz x y=1:=by unfold oz; rw [ax oo,aG h]
theorem Qz(x:Nat):oz x x=0:=by unfold oz; rw [ax oo,ax oo]
theorem QA{l:List Nat}(hj:j<l.length):l.drop j=l.getD j 0::l.drop (j+1):=by
 rw [rZ hj,aY,bq hj];rfl
theorem Zw{x y:Nat}(hl:aX x=aX y)(hj:j<aX x)(hd:(aq ae x).drop (j+1)=(aq ae y).drop (j+1))(af:(aq ae x).getD j 0<(aq ae y).getD j 0):x<y:=by
 have DB:j<(aq ae y).length:=by
  have:j<aX y:=oo
  exact this
 have h:=Y8 (B:=ae) (a:=aq ae x) (b:=aq ae y) (cz.aq cw x) hl hj (by
  rw [aY,bq hj,aY,bq DB] at af;exact af) hd
 rwa [kH cw,kH cw] at h
theorem an6{x:Nat}(h:aX x<=2):x<18446744073709551616:=by
 have:=eC cw (n:=x) (k:=2) h;have h2:ae^2=18446744073709551616:=by decide
 omega
theorem an7{y:Nat}(h:aX y=1):aq ae y = [y]/\0<y/\y<4294967296:=by
 have h1:y<ae^1:=eC cw (show aX y<=1 from oo);have hB:ae=4294967296:=rfl;have h2:y≠0:=by
  rintro rfl
  exact absurd h (by decide)
 rw [Qb] at h1;refine⟨?_,oo,oo⟩;rw [sk cw h2,er h1,jA h1,vV cw]
theorem an8{L o:List α}{m:Nat}(ho:o.length=m)(hj:j<=L.length):(L.take j++o++L.drop (j+m)).take j=L.take j/\(L.take j++o++L.drop (j+m)).drop (j+m)=L.drop (j+m)/\((L.take j++o++L.drop (j+m)).drop j).take m=o:=by
 have hl:(L.take j).length=j:=FQ hj;refine⟨?_,?_,?_⟩
 . rw [fl,amK oo,F5,YU]
 . exact List.drop_left' (by simp [hl,ho])
 . rw [fl,List.drop_left' hl];exact ann ho
theorem QB(x:Nat):x<cA↔aX x<=8:=by
 rw [<- Gq];constructor
 . exact fun h=>gr cw h
 . exact fun h=>eC cw h
theorem QC{x y gc x1 y1:Nat}(hgc:gc=Nat.gcd x y)(nM:x1=x / gc)(A3:y1=y / gc):jl neg x y=if x1<cA/\y1<cA then (⟨neg&&decide (x1≠0),x1,y1⟩,0) else (qU,3):=by
 unfold jl;rw [nM,A3,hgc]
theorem gV{x:Nat}(h:x<cA):aX x<=8:=(QB x).1 h
theorem Gt{x:Nat}:aX x=0↔x=0:=by
 constructor
 . intro h;rcases vH x with h1|h1
   . exact h1
   . have:0<aX x:=Gf cw oo;omega
 . rintro rfl; rfl
def lenOf:Value->Nat
 | .slice _ n _=>n
 | _=>0
set_option maxHeartbeats 1000000 in
theorem Zx(A:Option Addr)(c n:Nat)(l:List Nat)(hn:n=l.length)(w:World)(h:Rd w w.heap.size 1 A (mu .u32 l))(hl:cz ae l)(hlen:l.length<=1000000000)(QD:l.length<=c) :
 Calls Tryz.prog 105 #[.slice A n c] w fun e w'=>e = .returned (.slice A (aX (aZ ae l)) c)/\w'=w:=by
 subst hn
 go_enter Tryz.func105,Tryz.ntmps105
 go_wp2
 go_loop [0] (fun v=>∃ k:Nat,k<=l.length/\v = .slice A k c/\∀ d∈l.drop k,d=0) (fun v=>lenOf v)
 case atStart=>exact⟨l.length,aN _,rfl,by simp⟩
 case round =>
  obtain⟨k,hk,rfl,hz⟩:=hrel;have HZ:=bt hz;clear hz;by_cases tq:k=0
  . subst tq;have HT:Hid (aX (aZ ae l)=0):=by unfold Hid aX; rw [Dv cw hl (bw _) HZ.out (.inl rfl)]; simp
    go_wp2
    go_ret
    exact⟨by rw [HT.out]; rfl,rfl⟩
  . obtain⟨j,rfl⟩:∃ j,k=j+1:=⟨k - 1,oo⟩
    obtain⟨b,off,rfl,hb,mW⟩:=anK Tryz.underlying49 rfl h (show j<l.length from oo);have HL:=bt (mW w (dU _ _));clear mW;by_cases yW:l[j]=0
    . have e0:((l[j]:Int)==0)=true:=by simp [yW]
      have hcj:¬ c<j:=oo
      go_wp2_with (first
       | ((with_reducible refine ux 49 ?_); (first|refine si rfl _ _ rfl _ rfl _ HL.out ?_|refine Y0 rfl _ _ rfl _ rfl _ HL.out ?_)))
      go_round
      case rel =>
       refine⟨j,oo,by simp,fun d hd => ?_⟩;rw [rZ (show j<l.length from oo)] at hd;rcases gD.1 hd with h1|h1
       . rw [h1,yW]
       . exact HZ.out d h1
      case measure=>simp [lenOf]
    . have HT:Hid (aX (aZ ae l)=j+1):=by
       unfold Hid aX;rw [Dv cw hl hk HZ.out (.inr ⟨j,rfl,by simp [show j<l.length from oo]; exact yW⟩)];simp;omega
      have e0:((l[j]:Int)==0)=false:=by simp [yW]
      go_wp2_with (first
       | ((with_reducible refine ux 49 ?_); (first|refine si rfl _ _ rfl _ rfl _ HL.out ?_|refine Y0 rfl _ _ rfl _ rfl _ HL.out ?_)))
      go_ret
      exact⟨by rw [HT.out]; rfl,rfl⟩
theorem aoa{a d:Nat}(ha:a<4294967296)(hd:d<4294967296):bits .or .u64 ((a:Int)*4294967296) (d:Int)=((a*4294967296+d:Nat):Int):=by
 have h:=bits_join .u64 64 (by decide) (fun n h0 h1=>wrap_u64 h0 h1) 32 ((a:Int)*4294967296) (d:Int) oo oo oo oo oo oo;rw [h];omega
def Zy(F:Fence)(n:Nat)(P:Program)(gf:Nat)(lb:Array Value)(encs : α->Array Value)(G:List α->World->Prop)(V:List α -> α->Prop)(S Sp:List α->Prop)(w0:World):Prop :=
 ∀ (l:Nat) (J Jx:List α->World->Prop) (W:World),Below w0.heap.size w0 W->(∀ pre W1,J pre W1->G pre W1) ->
  (∀ pre x W1,J pre W1->V pre x->YieldAt F (n - 1) P l (encs x) W1 fun e W2=>(e = .returned (.bool true)/\J (pre ++ [x]) W2)\/(e = .returned (.bool false)/\Jx (pre ++ [x]) W2)) ->
  J [] W->CallsIn F n P gf (#[.func (.yield l) #[] #[]]++lb) W fun e W2=>(∃ v,e = .returned v)/\((∃ xs,S xs/\J xs W2)\/(∃ pre,Sp pre/\Jx pre W2))
def Zz(I:List α->World->Prop)(Ix:Code->List α->World->Prop)(xs:List α)(W:World):Exit->Act->World->Prop:=fun e _ W2 =>
 KeepsOthers W W2/\match e with
  | .normal=>I xs W2
  | .ret=>Ix .ret xs W2
  | .exit id=>Ix (.exit id) xs W2
  | .goto t=>Ix (.goto t) xs W2
  | _=>False
section
variable{F:Fence}{n:Nat}{P:Program}{α:Type}
theorem aob{W:World}{fn:FuncId}{encs : α->Array Value}{I:List α->World->Prop}{Ix:Code->List α->World->Prop}{pre:List α}{x : α}(a₁ : α->Act){l:Nat}{r:Loop}(yX:F.fn fn)(hr:r = { state := .ready,pending:=none,fn:=fn,tmps:=a.tmps,params:=ps,assign:=assign,body:=body,defers:=D })(hB:B<=l)(KM:D≠l)(hI:OwnFrom B I)(DC:∀ c,OwnFrom B (Ix c))(A5:(encs x).size=ps.size)(QE:∀ K:Act->World->Prop,K (a₁ x) W->assign.wpIn (F.inRound l) (n - 1 - 1) P (Exit.then K (fun _ _ _=>False)) { tmps:=(ps.zip (encs x)).foldl (fun t (p,v)=>t.setIfInBounds p v) a.tmps,defers := [] } W)(A6:∀ W1,I pre W1->body.wpIn (F.inRound l) (n - 1 - 1) P (Zz I Ix (pre ++ [x]) W1) (a₁ x) W1)(hi:I pre W)(hl:W.heap[l]? = some (.loop r))(hk:W.heap[D]? = some (.deferred (some []))) :
 YieldAt F (n - 1 - 1) P l (encs x) W fun e W2 =>
  (e = .returned (.bool true)/\I (pre ++ [x]) W2/\W2.heap[l]? = some (.loop r)/\W2.heap[D]? = some (.deferred (some []))) \/
  (e = .returned (.bool false)/\∃ c,Ix c (pre ++ [x]) W2/\W2.heap[l]? = some (.loop { r with state := .done,pending:=some c })/\W2.heap[D]? = some (.deferred (some []))):=by
 have af:l<W.heap.size:=(pV.1 hl).1;have hy:=run_yield (P:=P) (args:=encs x) hl (by rw [hr]; exact A5);rw [hr] at hy;refine⟨fn,_,assign,body,hy,roundIn_of_wpIn yX (QE _ ⟨_,run_beginRound hl (by rw [hr]),?_⟩)⟩;have aoc:(W.putObj l (.loop { r with state := .busy })).heap[l]? = some (.loop { r with state := .busy }):=World.putObj_heap_same af;have QF:(W.putObj l (.loop { r with state := .busy })).heap[D]? = some (.deferred (some [])):=(World.putObj_heap_other KM).trans hk;refine wpIn_mono (A6 _ (hI.putObj _ hi hB hl rfl)) fun e a2 W3 hp => ?_;obtain⟨gW,hp⟩:=hp;have vY:=gW.same _ _ aoc rfl;have vZ:=(pV.1 vY).1;have gH:=fun j:Option Code=>run_endRound (P:=P) j vY;have KN:∀ o,(W3.putObj l o).heap[D]? = some (.deferred (some [])):=fun o=>(World.putObj_heap_other KM).trans (gW.same _ _ QF rfl)
 cases e with
 | normal=>exact⟨_,_,gH none,.inl ⟨rfl,hI.putObj _ hp hB vY rfl,by rw [World.putObj_heap_same vZ,hr]; rfl,KN _⟩⟩
 | ret=>exact⟨_,_,gH (some .ret),.inr ⟨rfl,.ret,(DC _).putObj _ hp hB vY rfl,by rw [World.putObj_heap_same vZ]; rfl,KN _⟩⟩
 | exit id=>exact⟨_,_,gH (some (.exit id)),.inr ⟨rfl,.exit id,(DC _).putObj _ hp hB vY rfl,by rw [World.putObj_heap_same vZ]; rfl,KN _⟩⟩
 | goto t=>exact⟨_,_,gH (some (.goto t)),.inr ⟨rfl,.goto t,(DC _).putObj _ hp hB vY rfl,by rw [World.putObj_heap_same vZ]; rfl,KN _⟩⟩
 | panic c=>exact hp.elim
 | outgrown=>exact hp.elim
theorem aod{g:Operand}(ck:F.round=none)(h1:1<=n)(hg:a.eval g = .func (.func gf) #[] lb)(hFg:F.fn gf)(eg:∀ args W,(callFunc gf args).run P W = .ok (.enter gf args) W){encs : α->Array Value}{G:List α->World->Prop}{V:List α -> α->Prop}{S Sp:List α->Prop}(aof:Zy F (n - 1) P gf lb encs G V S Sp w0)(gu:Below w0.heap.size w0 w)(A5:∀ x,(encs x).size=ps.size)(I:List α->World->Prop)(Ix:Code->List α->World->Prop)(hIG:∀ pre W,I pre W->G pre W)(hI:OwnFrom w.heap.size I)(DC:∀ c,OwnFrom w.heap.size (Ix c))(h0:I [] w)(a₁ : α->Act)(QE:∀ (l:Nat) (x : α) (W:World) (K:Act->World->Prop),K (a₁ x) W->assign.wpIn (F.inRound l) (n - 1 - 1) P (Exit.then K (fun _ _ _=>False)) { tmps:=(ps.zip (encs x)).foldl (fun t (p,v)=>t.setIfInBounds p v) a.tmps,defers := [] } W)(A6:∀ (l:Nat) (pre:List α) (x : α) (W:World),I pre W->V pre x->body.wpIn (F.inRound l) (n - 1 - 1) P (Zz I Ix (pre ++ [x]) W) (a₁ x) W)(DD:∀ (D:Nat) (xs:List α) (W:World),w.heap.size<=D->S xs->I xs W->W.heap[D]? = some (.deferred (some []))->Q .normal { a with defers := { target := .collected D,args := #[] }::a.defers } W)(aog:∀ (D:Nat) (c:Code) (pre:List α) (W:World),w.heap.size<=D->Sp pre->Ix c pre W->W.heap[D]? = some (.deferred (some []))->c.wpIn F n P Q { a with defers := { target := .collected D,args := #[] }::a.defers } W) :
 (Code.rangeFunc g ps assign body).wpIn F n P Q a w:=by
 refine wpIn_rangeFunc fun fn yX => ?_;rw [ck];obtain⟨r,hr⟩:∃ r:Loop,r = { state := .ready,pending:=none,fn:=fn,tmps:=a.tmps,params:=ps,assign:=assign,body:=body,defers:=w.heap.size }:=⟨_,rfl⟩
 have DE:=run_enterLoop_outer (P:=P) (w:=w) fn a.tmps ps assign body;rw [<- hr] at DE;have p6:((w.alloc (.deferred (some []))).alloc (.loop r)).heap[w.heap.size+1]? = some (.loop r):=by
  have:=World.alloc_heap_new (w.alloc (.deferred (some []))) (.loop r);rwa [Di] at this
 have tq:((w.alloc (.deferred (some []))).alloc (.loop r)).heap[w.heap.size]? = some (.deferred (some [])):=(uk _ _ _ (by simp)).trans (World.alloc_heap_new w _);have uy:I [] ((w.alloc (.deferred (some []))).alloc (.loop r)):=hI.alloc _ (hI.alloc _ h0);have hbw:Below w0.heap.size w0 ((w.alloc (.deferred (some []))).alloc (.loop r)):=gu.trans ((((dU _ w).alloc (aN _) _).alloc (by simp) _).mono gu.size);generalize (w.alloc (.deferred (some []))).alloc (.loop r)=W0 at *
 refine⟨w.heap.size+1,[{ target := .collected w.heap.size,args := #[] }],W0,{ target := .fn (.func gf) lb,args := #[.func (.yield (w.heap.size+1)) #[] #[]] },W0,gf,#[.func (.yield (w.heap.size+1)) #[] #[]]++lb,W0,DE,?_,?_,?_,fun _=>h1,?_⟩
 . simp only [resolve,hg];simp [go_sem]
 . intro f' sr;simp [Target.leads] at sr;rw [<- sr];exact hFg
 . simp [invoke,go_sem,eg]
 . refine (aof (w.heap.size+1) (fun pre W=>I pre W/\W.heap[w.heap.size+1]? = some (.loop r)/\W.heap[w.heap.size]? = some (.deferred (some [])))
    (fun pre W=>∃ c,Ix c pre W/\W.heap[w.heap.size+1]? = some (.loop { r with state := .done,pending:=some c })/\W.heap[w.heap.size]? = some (.deferred (some []))) W0 hbw (fun pre W1 h=>hIG pre W1 h.1) ?_ ⟨uy,p6,tq⟩).mono ?_
   . rintro pre x W ⟨hi,hl,hk⟩ hv
     exact aob a₁ yX hr oo oo hI DC (A5 x) (QE _ x W) (fun W1 h=>A6 _ pre x W1 h hv) hi hl hk
   . rintro e W2 ⟨⟨v,rfl⟩,⟨xs,hs,hi,hl,hk⟩|⟨pre,hs,c,hi,hl,hk⟩⟩
     . have aoi:r.pending=none:=by rw [hr]
       have jE:=run_endLoop (P:=P) hl (by rw [hr]; simp);rw [aoi] at jE;exact⟨none,_,jE,DD _ xs _ (aN _) hs (hI.putObj _ hi oo hl rfl) ((World.putObj_heap_other oo).trans hk)⟩
     . exact⟨some c,_,run_endLoop (P:=P) hl (by simp),aog _ c pre _ (aN _) hs ((DC c).putObj _ hi oo hl rfl) ((World.putObj_heap_other oo).trans hk)⟩
end
open Go.Shelf
attribute [local go_sem] Oper.semAt_some
def aoj(Bs:Nat)(A:Option Addr)(len cap:Nat)(l:List Nat)(k:Nat)(W:World):Prop :=
 W.cell? ⟨Bs,0,none⟩=some (.slice A len cap)/\∀ j,j+k+1=len->∃ b off,A=some ⟨b,off,none⟩/\W.cell? ⟨b,off+j,none⟩=some (.int .u32 (l.getD j 0:Nat))
def Gu(l:List Nat)(len k:Nat):Nat×Nat:=(len - 1 - k,l.getD (len - 1 - k) 0)
def KO(x:Nat×Nat):Array Value := #[Value.int .i64 (x.1:Int),Value.int .u32 (x.2:Int)]
set_option maxHeartbeats 2000000 in
theorem aok(F:Fence)(n:Nat)(h1:F.fn 244)(ck:F.round=none)(hn:1<=n)(Bs len cap:Nat)(A:Option Addr)(l:List Nat)(aEa:len<=1000)(w0:World) :
 Zy F n Tryz.prog 244 #[.pointer (some ⟨Bs,0,none⟩)] KO (fun pre W=>aoj Bs A len cap l pre.length W) (fun pre x=>pre.length<len/\x=Gu l len pre.length) (fun xs=>xs.length=len) (fun _=>True) w0:=fun lp J Jx W hW hG hY h0=>by
 refine callsIn_of_wp Tryz.func244 rfl h1 ?_ ck;simp only [Tryz.ntmps244,Dh,dE,hZ,Nat.reduceAdd,Nat.reduceSub,amY,amX,am9,am2,tg,qL];have QG:=(hG _ _ h0).1
 gi_wp2
 gi_loopw [3] (fun i wr=>∃ pre:List (Nat×Nat),pre.length<=len/\i = .int .i64 ((len:Int) - 1 - pre.length)/\J pre wr)
  (fun i _=>(intOf i+1).toNat)
 case atStart=>exact⟨[],bw _,by simp,h0⟩
 case round =>
  obtain⟨pre,hk,rfl,QH⟩:=hrel;obtain⟨Gv,jE⟩:=hG _ _ QH;by_cases af:pre.length<len
  . obtain⟨j,hj⟩:∃ j,j+pre.length+1=len:=⟨len - 1 - pre.length,oo⟩
    obtain⟨b,off,rfl,hcx⟩:=jE j hj;obtain⟨fn,tmps,assign,body,hy,hR⟩:=hY _ (Gu l len pre.length) wr QH ⟨af,rfl⟩;have e1:len - 1 - pre.length=j:=oo
    have e2:(len:Int) - 1 - pre.length=(j:Int):=oo
    unfold KO Gu at hy;rw [e1] at hy;rw [e2];dsimp only at hy;have gL:j<len:=oo
    obtain⟨d,hd⟩:∃ d,d=l.getD j 0:=⟨_,rfl⟩
    rw [<- hd] at hy hcx;clear jE hd e1 e2 hG hY h0
    gi_wp2
    refine hR.mono ?_
    rintro e W3 (⟨rfl,hJ3⟩|⟨rfl,aon⟩)
    . gi_wp2
      go_roundw
      case rel=>exact⟨pre ++ [Gu l len pre.length],by simp<;>omega,by simp<;>omega,hJ3⟩
      case measure=>simp [intOf]<;>omega
    . gi_wp2
      refine bodyPost_ret (results_none rfl _ _ _) rfl ?_;exact⟨⟨_,rfl⟩,.inr ⟨_,trivial,aon⟩⟩
  . have e2:(len:Int) - 1 - pre.length = -1:=oo
    rw [e2]
    gi_wp2
    go_end0
    exact⟨⟨_,rfl⟩,.inl ⟨_,oo,QH⟩⟩
set_option maxHeartbeats 1000000 in
theorem aoo(F:Fence)(n:Nat)(h5:F.fn 208)(ck:F.round=none)(a:Option Addr)(len cap:Nat)(w:World) :
 CallsIn F n Tryz.prog 208 #[.slice a len cap] w fun e w'=>e = .returned (.func (.func 244) #[] #[.pointer (some ⟨w.heap.size,0,none⟩)])/\w'=w.alloc (.cells #[.slice a len cap] 114):=by
 refine callsIn_of_wp Tryz.func208 rfl h5 ?_ ck;simp only [Tryz.ntmps208,Dh,dE,hZ,Nat.reduceAdd,Nat.reduceSub,amY,amX,am9,am2,tg,qL]
 gi_wp2
 go_ret
 exact⟨rfl,rfl⟩
open Go.RowKit
def uz(k:IntKind)(l:List Nat):List Value:=l.map fun (n:Nat)=>Value.int k (n:Int)
def DF(w:World)(g E:Nat)(k:IntKind)(l:List Nat):Prop:=∃ rest:List Value,w.heap[g]? = some (.cells (uz k l++rest).toArray E (0,0))
theorem Gw(k:IntKind)(l:List Nat):(uz k l).length=l.length:=by simp [uz]
theorem aop{k:IntKind}{l:List Nat}(h:i<l.length):(uz k l)[i]? = some (.int k (l[i]:Int)):=by simp [uz,h]
theorem DF.cell{k:IntKind}{l:List Nat}(h:DF w g E k l)(hi:i<l.length):w.cell? ⟨g,i,none⟩=some (.int k (l[i]:Int)):=by
 obtain⟨r,h⟩:=h;have:=Dp w g i _ _ _ h;rw [this];rw [FO,r7 (by rw [Gw]; exact hi),aop hi]
theorem DF.frozen{k:IntKind}{l:List Nat}(h:DF w g E k l)(i:Nat):w.frozen? ⟨g,i,none⟩=false:=by
 obtain⟨r,h⟩:=h;simp [World.frozen?,h]
theorem heap_setCell{b:Nat}{fr:Nat×Nat}(h:w.heap[b]? = some (.cells c t fr))(i:Nat)(u:Value):(w.setCell ⟨b,i,none⟩ u).heap[b]? = some (.cells (c.setIfInBounds i u) t fr):=by
 have af:=lt_of_block h;have h':w.heap[b] = .cells c t fr:=by simpa [qJ af] using h
 show (w.heap.modify b _)[b]? = _
 rw [qJ Dt,Array.getElem_modify_self,h'];rfl
theorem dc.ZA(w:World)(base e size:Nat)(hb:base<=w.heap.size):dc (w.alloc (.cells #[] e)) base e size (some ⟨w.heap.size,0,none⟩) 0 [] :=
 ⟨⟨by simp,.inr ⟨w.heap.size,0,#[],rfl,hb,AM w _,aN _,bw _,by simp,by simp⟩⟩,by simp⟩
structure aL where
 id:Int
 num:ByteArray
 size:Int
 high:Bool
 aI:Int
 load:Int
 jT:Int
 cls:Int
 xB:Bool
deriving DecidableEq
def aL.cells(b:aL):List Value := [.int .i64 b.id,.string b.num,.int .u8 b.size,.bool b.high,.int .i64 b.aI,.int .i64 b.load,.int .i64 b.jT,.int .u8 b.cls,.bool b.xB]
abbrev aL.val(b:aL):Value := .agg #[.int .i64 b.id,.string b.num,.int .u8 b.size,.bool b.high,.int .i64 b.aI,.int .i64 b.load,.int .i64 b.jT,.int .u8 b.cls,.bool b.xB]
structure aA where
 box:Int
 ar:Int
 aK:Int
 half:Int
deriving DecidableEq
def aA.cells(b:aA):List Value := [.int .i64 b.box,.int .i64 b.ar,.int .i64 b.aK,.int .u8 b.half]
theorem aA.one(b:aA):∀ u∈b.cells,u.oneCell'=true:=by simp [aA.cells,Value.oneCell']
theorem aA.QI(l:List aA):∀ cs∈l.map aA.cells,∀ u∈cs,u.oneCell'=true:=by
 intro cs h;obtain⟨b,_,rfl⟩:=lW.1 h;exact b.one
theorem aA.ei:EI Tryz.prog 34 125 4 32:=EI.mk (z := .agg #[.int .i64 0,.int .i64 0,.int .i64 0,.int .u8 0]) Tryz.underlying34 (by kernel_rfl) rfl oo
structure Slot where
 ar:Int
 aK:Int
 half:Int
deriving DecidableEq
structure Ld where
 aI:Int
 x:Int
 y:Int
 z:Int
deriving DecidableEq
def Ld.cells(b:Ld):List Value := [.int .i64 b.aI,.int .i64 b.x,.int .i64 b.y,.int .i64 b.z]
abbrev Ld.val(b:Ld):Value := .agg #[.int .i64 b.aI,.int .i64 b.x,.int .i64 b.y,.int .i64 b.z]
theorem Ld.len(b:Ld):b.cells.length=4:=rfl
theorem Ld.one(b:Ld):∀ u∈b.cells,u.oneCell'=true:=by simp [Ld.cells,Value.oneCell']
theorem Ld.row:AQ Tryz.prog 73 4:=⟨_,Tryz.underlying73,by kernel_rfl,by kernel_rfl⟩
theorem Ld.ld(h:Rd w B 4 A css){k:Nat}{b:Ld}(hk:css[k]? = some b.cells) :
 ∃ g off,A=some ⟨g,off,none⟩/\g<B/\∀ w',Below B w w'->(loadVar 73 ⟨g,off+k*4,none⟩).run Tryz.prog w' = .ok b.val w':=h.ld Ld.row hk
structure xC where
 n:Int
 low:Int
 high:Int
deriving DecidableEq
structure qV where
 box:aL
 x:Int
 y:Int
 h:Int
deriving DecidableEq
theorem QJ(f : α -> β)(l:List α)(k:Nat)(h:k<l.length):(l.map f)[k]? = some (f l[k]):=by simp [h]
set_option maxHeartbeats 1000000 in
theorem aoq(A:Option Addr)(c:Nat)(l:List Ld)(n:Nat)(hn:n=l.length)(fn:FuncId)(dV:Array Value)(p:Ld->Bool)(w:World)(hA:Rd w w.heap.size 4 A (l.map Ld.cells))(hl:l.length<=1000000000000)(yY:∀ w args,(callFunc fn args).run Tryz.prog w = .ok (.enter fn args) w)(hf:Y1 Tryz.prog w fn dV Ld.val p l) :
 Calls Tryz.prog 121 #[.slice A n c,.func (.func fn) #[] dV] w fun e w'=>e = .returned (.int .i64 (idx p l))/\Below w.heap.size w w':=by
 subst hn
 go_enter Tryz.func121,Tryz.ntmps121
 go_wp2
 have HF:=bt hf;clear hf
 go_loopw [5,8] (fun _ i wr=>∃ k:Nat,k<=l.length/\i = .int .i64 k/\(∀ j,(h:j<k)->(h2:j<l.length)->p l[j]=false)/\Below w.heap.size w wr) (fun _ i _=>l.length - (intOf i).toNat)
 case atStart=>exact⟨0,oo,rfl,oo,dU _ _⟩
 case round =>
  obtain⟨k,hk,rfl,hj,hb⟩:=hrel;have HJ:=bt hj;clear hj;by_cases af:k<l.length
  . obtain⟨b,off,rfl,c6,mW⟩:=Ld.ld hA (QJ Ld.cells l k af);have HL:=bt mW;clear mW
    go_wp2_with (first
     | (refine si rfl _ _ rfl _ rfl _ (HL.out _ hb) ?_)
     | (refine (HF.out l[k] (lV af) _ hb).mono ?_; rintro e w' ⟨rfl,pn⟩))
    . have ht:p l[k]=true:=by assumption
      go_ret
      exact⟨by rw [Qi af (fun j h=>HJ.out j h oo) ht]; rfl,hb.trans (pn.mono hb.size)⟩
    . have sr:p l[k]=false:=by assumption
      go_roundw
      case rel =>
       refine⟨k+1,oo,by go_num,fun j h h2 => ?_,hb.trans (pn.mono hb.size)⟩;rcases cv j k with h3|h3
       . exact HJ.out j h3 h2
       . obtain rfl:j=k:=oo
         exact sr
      case measure=>simp [intOf]; omega
  . obtain rfl:k=l.length:=oo
    have HI:=bt (Qj (fun j h=>HJ.out j h h))
    go_wp2
    go_ret
    exact⟨by rw [HI.out]; rfl,hb⟩
theorem ZB(p : α->Bool)(l:List α):l.any p=decide (0<=idx p l):=by
 rcases Gd p l with ⟨h1,h2⟩|⟨k,hk,h1,h2,_⟩
 . have h3:l.any p=false:=by
    rw [AK];intro x hx;simp [h2 x hx]
   rw [h1,h3];rfl
 . have h3:l.any p=true:=by
    rw [F0];exact⟨_,lV hk,h2⟩
   rw [h1,h3];simp
theorem aor(A:Option Addr)(c:Nat)(l:List Ld)(n:Nat)(hn:n=l.length)(fn:FuncId)(dV:Array Value)(p:Ld->Bool)(w:World)(hA:Rd w w.heap.size 4 A (l.map Ld.cells))(hl:l.length<=1000000000000)(yY:∀ w args,(callFunc fn args).run Tryz.prog w = .ok (.enter fn args) w)(hf:Y1 Tryz.prog w fn dV Ld.val p l) :
 Calls Tryz.prog 56 #[.slice A n c,.func (.func fn) #[] dV] w fun e w'=>e = .returned (.bool (l.any p))/\Below w.heap.size w w':=by
 have HI:=bt (aoq A c l n hn fn dV p w hA hl yY hf);rw [ZB];generalize idx p l=z at HI ⊢;clear hA hn hl yY hf
 go_enter Tryz.func56,Tryz.ntmps56
 go_wp2_with (go_at_call 121; refine (HI.out).mono ?_; rintro e w2 ⟨rfl,eR⟩)
 go_ret
 exact⟨by first|rfl|simp,eR⟩
structure aw where
 x:Int
 iG:Int
 share:Int
 dk:Int
 cV:Int
deriving DecidableEq
structure Wt where
 x:Int
 aI:Int
deriving DecidableEq
structure au where
 a0:Int
 a1:Int
 a2:Int
 a3:Int
 a4:Int
 a5:Int
deriving DecidableEq
def au.add(a b:au):au:=⟨a.a0+b.a0,a.a1+b.a1,a.a2+b.a2,a.a3+b.a3,a.a4+b.a4,a.a5+b.a5⟩
def au.zero:au:=⟨0,0,0,0,0,0⟩
def lA(u:Wt):Bool := !decide (0<=u.aI/\u.aI<=500000000)
def jF:ByteArray:=⟨#[]⟩
structure dM where
 fI:Int
 row:Int
 mv:Bool
 dC:Int
 mZ:Int
 uA:Int
 uB:Int
 uC:Int
 cf:List Int
 x:Int
 y:Int
 z:Int
deriving DecidableEq
structure gN where
 fI:Int
 rows:List Int
deriving DecidableEq
structure m7 where
 aos:Int
 aI:Int
 aot:Int
 mc:Int
 v5:Int
deriving DecidableEq
structure dN where
 aI:Int
 x:Int
 y:Int
 z:Int
 uD:Int
 steps:List Int
deriving DecidableEq
structure su where
 fI:Int
 row:Int
 mv:Bool
 dC:Int
 mZ:Int
 uA:Int
 uB:Int
 uC:Int
 cf:List Int
 KP:Nat
 x:Int
 y:Int
 z:Int
deriving DecidableEq
structure sv where
 fI:Int
 rows:List Int
 A7:Nat
deriving DecidableEq
structure sx where
 aI:Int
 x:Int
 y:Int
 z:Int
 uD:Int
 steps:List Int
 KR:Nat
deriving DecidableEq
structure ZC where
 fI:Int
 row:Int
 dC:Int
 mv:Bool
deriving DecidableEq
structure ZD where
 ar:Int
 aI:Int
 small:Bool
 high:Bool
deriving DecidableEq
structure ZE where
 aI:Int
 x:Int
 y:Int
 z:Int
deriving DecidableEq
structure bh where
 neg:Bool
 n0:Int
 n1:Int
 n2:Int
 n3:Int
 n4:Int
 n5:Int
 n6:Int
 n7:Int
 d0:Int
 d1:Int
 d2:Int
 d3:Int
 d4:Int
 d5:Int
 d6:Int
 d7:Int
deriving DecidableEq
structure lB where
 dk:bh
 cV:bh
deriving DecidableEq
inductive Tc where
 | int|u8|u32|box|ai|slot|ld|qW|ar|cD|mid|dO|cu|dW|kK|kL|kM|A9|Ba|DG|wx|sy|jm|cE
deriving DecidableEq
abbrev Tc.el:Tc->Type
 | .int=>Int
 | .u8=>Int
 | .u32=>Int
 | .box=>aL
 | .ai=>aA
 | .slot=>Slot
 | .ld=>Ld
 | .qW=>xC
 | .ar=>dM
 | .cD=>gN
 | .mid=>qV
 | .dO=>m7
 | .cu=>aw
 | .dW=>dN
 | .kK=>su
 | .kL=>sv
 | .kM=>sx
 | .A9=>ZC
 | .Ba=>ZD
 | .DG=>ZE
 | .wx=>Wt
 | .sy=>au
 | .jm=>bh
 | .cE=>lB
def Tc.size:Tc->Nat
 | .int=>1
 | .u8=>1
 | .u32=>1
 | .box=>9
 | .ai=>4
 | .slot=>3
 | .ld=>4
 | .qW=>3
 | .ar=>12
 | .cD=>2
 | .mid=>12
 | .dO=>5
 | .cu=>5
 | .dW=>6
 | .kK=>12
 | .kL=>2
 | .kM=>6
 | .A9=>4
 | .Ba=>4
 | .DG=>4
 | .wx=>2
 | .sy=>6
 | .jm=>17
 | .cE=>34
def Tc.aa:(t:Tc)->t.el
 | .int=>(0:Int)
 | .u8=>(0:Int)
 | .u32=>(0:Int)
 | .box=>(⟨0,jF,0,false,0,0,0,0,false⟩:aL)
 | .ai=>(⟨0,0,0,0⟩:aA)
 | .slot=>(⟨0,0,0⟩:Slot)
 | .ld=>(⟨0,0,0,0⟩:Ld)
 | .qW=>(⟨0,0,0⟩:xC)
 | .ar=>(⟨0,0,false,0,0,0,0,0,[],0,0,0⟩:dM)
 | .cD=>(⟨0,[]⟩:gN)
 | .mid=>(⟨⟨0,jF,0,false,0,0,0,0,false⟩,0,0,0⟩:qV)
 | .dO=>(⟨0,0,0,0,0⟩:m7)
 | .cu=>(⟨0,0,0,0,0⟩:aw)
 | .dW=>(⟨0,0,0,0,0,[]⟩:dN)
 | .kK=>(⟨0,0,false,0,0,0,0,0,[],0,0,0,0⟩:su)
 | .kL=>(⟨0,[],0⟩:sv)
 | .kM=>(⟨0,0,0,0,0,[],0⟩:sx)
 | .A9=>(⟨0,0,0,false⟩:ZC)
 | .Ba=>(⟨0,0,false,false⟩:ZD)
 | .DG=>(⟨0,0,0,0⟩:ZE)
 | .wx=>(⟨0,0⟩:Wt)
 | .sy=>(⟨0,0,0,0,0,0⟩:au)
 | .jm=>(⟨false,0,0,0,0,0,0,0,0,0,0,0,0,0,0,0,0⟩:bh)
 | .cE=>(⟨⟨false,0,0,0,0,0,0,0,0,0,0,0,0,0,0,0,0⟩,⟨false,0,0,0,0,0,0,0,0,0,0,0,0,0,0,0,0⟩⟩:lB)
open Go.RowKit
theorem aou{P:Program}{T:TypeId}(hx : ρ x = .pointer (some ad))(h:(loadVar T ad).run P w = .ok v w) :
 (execOp ρ ⟨d,.load T x,ty,pos,aft,gd⟩).run P w = .ok (.value v) w:=by
 unfold execOp;simp only [hx,Instr.loadAt,Instr.sureAddr,bQ,cq,cg,h]
theorem ZF{P:Program}(hx : ρ x=v):(execOp ρ ⟨d,.move x,ty,pos,aft,gd⟩).run P w = .ok (.value v) w:=by
 subst hx; rfl
theorem ZG{P:Program}(hx : ρ x=v):(execOp ρ ⟨d,.assign x,ty,pos,aft,gd⟩).run P w = .ok (.value v) w:=by
 subst hx; rfl
section
variable{P:Program}{ρ:Operand->Value}{d:Option Nat}{ty:TypeId}{pos:String}{aft:Array Edge}{gd:Option (Nat×Bool)}{v:Value}{w:World}
def KS(P:Program)(s f:Nat):Option Nat :=
 match P.underlying s with
 | some (.struct fs)=>match fs[f]? with
  | some fd=>match P.info? fd.type with
   | some i=>if i.size=0 then none else some fd.offset
   | none=>none
  | none=>none
 | _=>none
theorem KT(b o n:Nat):(⟨b,o,none⟩:Addr).add n=⟨b,o+n,none⟩:=by
 unfold Addr.add;split
 . rename_i h; subst h; rfl
 . rfl
theorem ZH{f k b o:Nat}(hx : ρ x = .pointer (some ⟨b,o,none⟩))(hf:KS P T f=some k)(hv:v = .pointer (some ⟨b,o+k,none⟩)):(execOp ρ ⟨d,.fieldAddr T x f,ty,pos,aft,gd⟩).run P w = .ok (.value v) w:=by
 subst hv;unfold KS at hf;split at hf
 . rename_i fs jo;split at hf
   . rename_i fd Bb;split at hf
     . rename_i i hi;split at hf
       . cases hf
       . rename_i bc;injection hf with hf;subst hf;unfold execOp;simp only [hx,Instr.fieldAt,underlying,bQ,cq,cg,jo,ou];simp only [Bb,Instr.sureAddr,fieldPlace,sizeOf,typeInfo,bQ,cq,cg,ou,hi,bc,dK,KT]
     . cases hf
   . cases hf
 . cases hf
def elemOf(P:Program)(t:Nat):Option (Nat×Nat) :=
 match P.underlying t with
 | some (.slice e)=>(P.info? e).map fun i=>(e,i.size)
 | _=>none
theorem ZI{t e:Nat}(h:elemOf P t=some (e,sz)):P.underlying t=some (.slice e)/\∃ i,P.info? e=some i/\i.size=sz:=by
 unfold elemOf at h;split at h
 . rename_i e' he
   cases hi:P.info? e' with
   | none=>rw [hi] at h; cases h
   | some i=>rw [hi] at h; simp only [dG,bU,um] at h; obtain⟨rfl,rfl⟩:=h; exact⟨he,i,hi,rfl⟩
 . cases h
theorem QK{t e k n c b o:Nat}{kk:IntKind}(hx : ρ x = .slice (some ⟨b,o,none⟩) n c)(hy : ρ y = .int kk (k:Int))(he:elemOf P t=some (e,sz))(hk:(k:Int)<(n:Int))(hv:v = .pointer (some ⟨b,o+k*sz,none⟩)):(execOp ρ ⟨d,.indexAddr t x y,ty,pos,aft,gd⟩).run P w = .ok (.value v) w:=by
 subst hv;obtain⟨h1,i,h2,rfl⟩:=ZI he;have h3:0<=(k:Int)/\(k:Int)<(n:Int):=⟨oo,hk⟩
 unfold execOp;simp only [hx,hy,Instr.indexAt,asIntOf,underlying,bQ,cq,cg,h1,ou];simp only [h3,Qd,fH,sizeOf,typeInfo,bQ,cq,cg,ou,h2,fB,KT]
theorem aov{t n c:Nat}(hx : ρ x = .slice A n c)(ht:P.underlying t=some (.slice e))(hv:v = .int .i64 (n:Int)):(execOp ρ ⟨d,.call { callee := .builtin .len,args := #[x],argTypes := #[t] },ty,pos,aft,gd⟩).run P w = .ok (.value v) w:=by
 subst hv;exact ZJ
theorem ZK(hx : ρ x = .tuple vs)(hv:vs[i]? = some v):(execOp ρ ⟨d,.extract x i,ty,pos,aft,gd⟩).run P w = .ok (.value v) w:=by
 unfold execOp;simp only [hx,Instr.extract,hv,bQ,cq,cg]
theorem QL{c:Operand}(hc : ρ c = .bool b)(hv:(if b then ρ x else ρ y)=v):(execOp ρ ⟨d,.pick c x y,ty,pos,aft,gd⟩).run P w = .ok (.value v) w:=by
 unfold execOp;simp only [hc,asBool,bQ,cq,cg,hv]
theorem KU(hx : ρ x = .bool b)(hv:v = .bool (!b)):(execOp ρ ⟨d,.unOp .not t x,ty,pos,aft,gd⟩).run P w = .ok (.value v) w:=by
 subst hv;unfold execOp;simp only [hx,Op.unary,bQ,cq,cg]
theorem KV{k:IntKind}(hx : ρ x = .int k m)(hy : ρ y = .int k n)(hz:k.wrap (m+n)=z)(hv:v = .int k z):(execOp ρ ⟨d,.binOp .add t x y t',ty,pos,aft,gd⟩).run P w = .ok (.value v) w:=by
 exact QM
theorem KW{k:IntKind}(hx : ρ x = .int k m)(hy : ρ y = .int k n)(hz:k.wrap (m - n)=z)(hv:v = .int k z):(execOp ρ ⟨d,.binOp .sub t x y t',ty,pos,aft,gd⟩).run P w = .ok (.value v) w:=by
 exact QM
theorem KX{k:IntKind}(hx : ρ x = .int k m)(hy : ρ y = .int k n)(hz:k.wrap (m*n)=z)(hv:v = .int k z):(execOp ρ ⟨d,.binOp .mul t x y t',ty,pos,aft,gd⟩).run P w = .ok (.value v) w:=by
 exact QM
def ZL(op:BinOp)(m n:Int):Option Bool :=
 match op with
 | .eql=>some (m==n)
 | .neq=>some (m != n)
 | .lss=>some (decide (m<n))
 | .leq=>some (decide (m<=n))
 | .gtr=>some (decide (m>n))
 | .geq=>some (decide (m≥n))
 | _=>none
theorem Bc{op:BinOp}{k:IntKind}(hx : ρ x = .int k m)(hy : ρ y = .int k n)(hb:ZL op m n=some b)(hv:v = .bool b):(execOp ρ ⟨d,.binOp op t x y t',ty,pos,aft,gd⟩).run P w = .ok (.value v) w:=by
 subst hv;cases op<;>simp only [ZL] at hb<;>cases hb
 all_goals
  unfold execOp;simp only [hx,hy,eqGuard,binOp,Op.intCmp,ne_eq,Kg,dK,bQ,cq];rfl
end
def zB(l:List Oper)(np:Nat)(Z:List Nat):Bool:=Z.all fun i=>decide (i<np)&&match l[i]? with|some o=>o.after.all fun e => !Region.binds .any e|none=>true
inductive St where
 | val (v:Value)
 | call (v:Value)
 | new (R:Value->World->Prop)
 | dep (R:Value->World->Prop)
 | skip
def sA(l:List Oper)(s:Nat):Nat->Option Nat
 | 0=>none
 | i+1=>if ((l[i]?).bind (·.dst))==some s then some i else sA l s i
theorem KY{l:List Oper}{s:Nat}:∀ {i j:Nat},sA l s i=some j->j<i/\∃ o,l[j]? = some o/\o.dst=some s
 | 0,_,h=>by cases h
 | i+1,j,h=>by
  unfold sA at h;split at h
  . rename_i hb;injection h with h;subst h;have h1:=eq_of_beq hb
    cases ho:l[i]? with
    | none=>rw [ho] at h1; cases h1
    | some o=>rw [ho] at h1; exact⟨oo,o,rfl,h1⟩
  . obtain⟨h1,h2⟩:=KY h;exact⟨oo,h2⟩
def aEb(l:List Oper)(S:List St)(a0:Act)(i:Nat):Operand->St
 | .tmp s=>match sA l s i with
  | some j=>S.getD j .skip
  | none => .val (a0.tmps.getD s undef)
 | x => .val (a0.eval x)
def QN(l:List Oper)(np i:Nat)(o:Oper)(s:Nat):Bool :=
 match sA l s i with
 | some j=>o.after.any fun e=>Region.binds .any e&&e.on==j
 | none=>(List.range np).all fun k=>match l[k]? with
  | some ok=>ok.dst != some s||ok.after.any fun e=>Region.binds .any e&&e.on==i
  | none=>true
def QO:Op->Bool
 | .select _ _=>true
 | _=>false
def aow(P:Program)(ρ:Operand->Value)(o:Oper)(w:World)(R:Value->World->Prop):Prop :=
 (∃ v w',(execOp ρ o).run P w = .ok (.value v) w'/\dL w w'/\R v w') \/
 ∃ f args,(execOp ρ o).run P w = .ok (.enter f args) w/\Calls P f args w fun e w'=>∃ v,e = .returned v/\dL w w'/\R v w'
theorem aox{e size:Nat}(h:w.heap[g]? = some (.cells cs.toArray e (0,0)))(hl:cs.length=size)(hb:base<=g):dc w base e size (some ⟨g,0,none⟩) 1 [cs] :=
 ⟨⟨by simp [hl],.inr ⟨g,1,cs.toArray,rfl,hb,h,aN _,by unfold maxLen; omega,by simp [hl],by simp; exact ez oo⟩⟩,by intro c hc; rw [oq] at hc; subst hc; exact hl⟩
theorem aoy{size c:Nat}(hT:AQ Tryz.prog T size)(h:dc w base T size (some ⟨g,0,none⟩) c css)(hi:css[i]? = some cs)(hp:p=i*size):∀ w1,dL w w1->(loadVar T ⟨g,p,none⟩).run Tryz.prog w1 = .ok (.agg cs.toArray) w1:=by
 intro w1 hb;subst hp;obtain⟨b,off,e,_,hl⟩:=h.rd.ld hT hi;simp only [bU,Addr.mk.injEq,aH] at e;obtain⟨rfl,rfl⟩:=e;have h1:=hl w1 hb;rw [ia] at h1;exact h1
theorem QP(A:Option Addr)(n c:Nat):Value.ownBlock (.slice A n c)=A.map (·.block):=by cases A<;>rfl
inductive dA where
 | row (T size:Nat) (A:Option Addr) (c:Nat) (css:List (List Value))
 | box (g T:Nat) (cs:List Value)
 | ro (size:Nat) (A:Option Addr) (css:List (List Value))
def dA.ok(w:World)(base:Nat):dA->Prop
 | .row T size A c css=>dc w base T size A c css
 | .box g T cs=>base<=g/\w.heap[g]? = some (.cells cs.toArray T (0,0))
 | .ro size A css=>Rd w w.heap.size size A css/\∀ a,A=some a->base<=a.block/\a.block<w.heap.size
def dA.cH:dA->Option Nat
 | .row _ _ A _ _=>A.map (·.block)
 | .box g _ _=>some g
 | .ro _ A _=>A.map (·.block)
theorem dA.lt{b:Nat}{e:dA}(h:e.ok w base)(hb:e.cH=some b):base<=b/\b<w.heap.size:=by
 cases e with
 | row T size A c css =>
  obtain⟨a,ha,rfl⟩:=nH.1 hb;exact dc.lt h ha
 | box g T cs =>
  injection hb with hb;subst hb;exact⟨h.1,(pV.1 h.2).1⟩
 | ro size A css =>
  obtain⟨a,ha,rfl⟩:=nH.1 hb;exact h.2 a ha
theorem QQ(h:w'.heap[g]? = w.heap[g]?):w'.cell? ⟨g,p,.none⟩=w.cell? ⟨g,p,.none⟩:=by simp only [World.cell?,h]
theorem Rd.lu{size:Nat}(h:Rd w w.heap.size size A css)(hk:∀ a,A=some a->w'.heap[a.block]? = w.heap[a.block]?):Rd w' w'.heap.size size A css:=by
 intro k cs oA;obtain⟨g,off,e,af,hl,hc⟩:=h k cs oA;have h1:=hk _ e;have KZ:g<w'.heap.size:=by
  rcases cv g w'.heap.size with h2|h2
  . exact h2
  . rw [FR h2,qJ af] at h1;cases h1
 exact⟨g,off,e,KZ,hl,fun j u hu=>by rw [QQ h1]; exact hc j u hu⟩
theorem dA.lu{e:dA}(h:e.ok w base)(hk:∀ b,e.cH=some b->w'.heap[b]? = w.heap[b]?):e.ok w' base:=by
 cases e with
 | ro size A css =>
  refine⟨Rd.lu h.1 fun a ha=>hk _ (by simp [dA.cH,ha]),fun a ha=>⟨(h.2 a ha).1,?_⟩⟩;have h1:=hk a.block (by simp [dA.cH,ha]);rcases cv a.block w'.heap.size with h2|h2
  . exact h2
  . rw [FR h2,qJ (h.2 a ha).2] at h1;cases h1
 | row T size A c css=>exact dc.lu h fun a ha=>hk _ (by simp [dA.cH,ha])
 | box g T cs=>exact⟨h.1,(hk g rfl).trans h.2⟩
theorem dA.less{b:Nat}{e:dA}(h:e.ok w base)(hb:b<=base):e.ok w b:=by
 cases e with
 | row T size A c css=>exact dc.Dr h hb
 | box g T cs=>exact⟨cd hb h.1,h.2⟩
 | ro size A css=>exact⟨h.1,fun a ha=>⟨cd hb (h.2 a ha).1,(h.2 a ha).2⟩⟩
def dA.uE(e f:dA):Prop:=∀ b,e.cH=some b->f.cH≠some b
theorem dA.uE.symm{e f:dA}(h:e.uE f):f.uE e:=fun b hb hc=>h b hc hb
structure Mem (w0 w:World) (M:List dA):Prop where
 from_:dL w0 w
 ok:∀ e∈M,e.ok w w0.heap.size
 apart:M.Pairwise dA.uE
theorem Mem.nil(w:World):Mem w w []:=⟨dU _ _,fun _ h=>(by cases h),.nil⟩
theorem Mem.call{M:List dA}(h:Mem w0 w M)(hb:dL w w'):Mem w0 w' M :=
 ⟨h.from_.trans (hb.mono h.from_.size),fun e he=>dA.lu (h.ok e he) fun _ bo=>hb.block _ (dA.lt (h.ok e he) bo).2,h.apart⟩
theorem Mem.sub{M M':List dA}(h:Mem w0 w M)(hs:M'.Sublist M):Mem w0 w M':=⟨h.from_,fun e he=>h.ok e (hs.subset he),h.apart.sublist hs⟩
theorem Mem.add{M:List dA}(h:Mem w0 w M)(hb:dL w w')(e:dA)(he:e.ok w' w.heap.size):Mem w0 w' (e::M):=by
 have h1:=h.call hb;refine⟨h1.from_,fun f hf => ?_,vI.2 ⟨fun f hf b c6 eR => ?_,h1.apart⟩⟩
 . rcases gD.1 hf with rfl|hf
   . exact dA.less he h.from_.size
   . exact h1.ok f hf
 . have h2:=(dA.lt he c6).1;have h3:=(dA.lt (h.ok f hf) eR).2;omega
theorem Mem.alloc{M:List dA}(h:Mem w0 w M)(T:Nat)(cs:List Value):Mem w0 (w.alloc (.cells cs.toArray T)) (.box w.heap.size T cs::M) :=
 h.add ((dU _ _).alloc (aN _) _) _ ⟨aN _,AM w _⟩
theorem ZM{e:dA}:∀ {M:List dA} {i:Nat},i<M.length->M.Pairwise dA.uE->(∀ j f,j≠i->M[j]? = some f->e.uE f)->(M.set i e).Pairwise dA.uE
 | [],_,hi,_,_=>by cases hi
 | f::M,0,_,hp,h=>by
  rw [AJ];have h1:=vI.1 hp;refine vI.2 ⟨fun g hg => ?_,h1.2⟩;obtain⟨j,hj⟩:=mn.1 hg;exact h (j+1) g oo (by simpa using hj)
 | f::M,i+1,hi,hp,h=>by
  rw [FX];have h1:=vI.1 hp;refine vI.2 ⟨fun g hg => ?_,ZM (by simpa using hi) h1.2 fun j f' hj hf=>h (j+1) f' oo (by simpa using hf)⟩;rcases Ki hg with hg|rfl
  . exact h1.1 g hg
  . exact (h 0 f oo (by simp)).symm
theorem ZN{M:List dA}(hp:M.Pairwise dA.uE){e f:dA}(hi:M[i]? = some e)(hj:M[j]? = some f)(iH:i≠j):e.uE f:=by
 obtain⟨uF,mw⟩:=c8.1 hi;obtain⟨p7,gI⟩:=c8.1 hj;rw [yH] at hp;rcases Nat.lt_or_gt_of_ne iH with h|h
 . have:=hp i j uF p7 h;rwa [mw,gI] at this
 . have:=hp j i p7 uF h;rw [mw,gI] at this;exact this.symm
theorem Mem.put{M:List dA}(h:Mem w0 w M)(i:Nat){e:dA}(e':dA)(hi:M[i]? = some e)(hg:w.grownBy w' e.cH)(he:e'.ok w' w0.heap.size)(fJ:e'.cH=e.cH\/∀ b,e'.cH=some b->w.heap.size<=b):Mem w0 w' (M.set i e'):=by
 have af:i<M.length:=(c8.1 hi).1;have hek:=h.ok e (gK hi);refine⟨h.from_.grown hg h.from_.size fun k hk=>(dA.lt hek hk).1,fun f hf => ?_,ZM af h.apart fun j f hj hf b c6 eR => ?_⟩
 . obtain⟨j,hj⟩:=mn.1 hf;rw [te] at hj;split at hj
   . injection hj with hj;subst hj;exact he
   . rename_i bg;have Be:=h.ok f (gK hj);refine dA.lu Be fun b hb=>hg.block b (dA.lt Be hb).2 fun hc => ?_;exact ZN h.apart hi hj bg b hc.symm hb
 . have Be:=h.ok f (gK hf);rcases fJ with fJ|fJ
   . rw [fJ] at c6;exact ZN h.apart hi hf (fun e=>hj e.symm) b c6 eR
   . have h1:=fJ b c6;have h2:=(dA.lt Be eR).2;omega
theorem Mem.cells{M:List dA}(h:Mem w0 w M)(hi:M[i]? = some (.box g T cs)):w.heap[g]? = some (.cells cs.toArray T (0,0)):=(h.ok _ (gK hi)).2
theorem Mem.ZO{M:List dA}(h:Mem w0 w M)(hi:M[i]? = some (.box g T cs)):w0.heap.size<=g/\g<w.heap.size:=dA.lt (h.ok _ (gK hi)) rfl
theorem Mem.DH{M:List dA}(h:Mem w0 w M){n:Nat}(hT:AQ Tryz.prog T n)(hn:cs.length=n)(hi:M[i]? = some (.box g T cs))(w1:World)(hb:dL w w1):(loadVar T ⟨g,0,.none⟩).run Tryz.prog w1 = .ok (.agg cs.toArray) w1:=by
 have h1:=aox (base:=0) (h.cells hi) hn (bw _);exact aoy hT h1 (i:=0) (cs:=cs) rfl (p:=0) oo w1 hb
def yZ(P:Program)(T:Nat):Bool :=
 match P.underlying T with
 | some (.struct _)=>false
 | some (.array _ _)=>false
 | some _=>true
 | _=>false
theorem QR{P:Program}(hT:yZ P T=true)(h:w.cell? ad=some v):(loadVar T ad).run P w = .ok v w:=by
 unfold yZ at hT
 cases hd:P.underlying T with
 | none=>rw [hd] at hT; cases hT
 | some d=>exact Ds hd (by rw [hd] at hT; cases d<;>first|rfl|cases hT) h
theorem Mem.K0{M:List dA}(h:Mem w0 w M)(hT:yZ Tryz.prog T1=true)(hi:M[i]? = some (.box g T cs))(hj:cs[j]? = some v)(w1:World)(hb:dL w w1):(loadVar T1 ⟨g,j,.none⟩).run Tryz.prog w1 = .ok v w1:=by
 have h1:=h.cells hi;have h2:w1.heap[g]? = some (.cells cs.toArray T (0,0)):=(hb.block g (h.ZO hi).2).trans h1;refine QR hT ?_;rw [Dp w1 g j _ _ _ h2];simpa using hj
theorem Rd.cell{P:Program}{off size k:Nat}(h:Rd w B size (some ⟨g,off,none⟩) css)(hb:Below B w w1)(hT:yZ P T1=true)(hk:css[k]? = some cs)(hj:cs[j]? = some v)(hp:p=off+k*size+j):(loadVar T1 ⟨g,p,none⟩).run P w1 = .ok v w1:=by
 subst hp;obtain⟨b,tr,e,af,_,hc⟩:=h k cs hk;simp only [bU,Addr.mk.injEq,aH] at e;obtain⟨rfl,rfl⟩:=e;refine QR hT ?_;rw [QQ (hb.block _ af)];exact hc j _ hj
theorem Rd.bound{size:Nat}(h:Rd w B size A css)(hn:css ≠ []):∀ a,A=some a->a.block<B:=by
 intro a ha;obtain⟨cs,DI,rfl⟩:=aDZ hn;obtain⟨g,off,e,af,_,_⟩:=h 0 cs rfl;rw [ha] at e;injection e with e;subst e;exact af
theorem Bf{M:List dA}{ops:Array Oper}{rest:List Oper}{o:Oper}{n:Nat}(lv:o.guard=none)(x y:Operand)(ho:o.op = .store T x y)(H:Mem w0 w M)(i:Nat)(hi:M[i]? = some (.box g T cs))(hx:a.eval x = .pointer (some ⟨g,0,.none⟩))(hy:a.eval y=v)(bc:(Tryz.prog.info? T).map (·.size)=some n)(hv:v.cells.toList=cs')(cQ:cs'.length=n)(hl:cs.length=n)(h1:∀ u∈cs',u.oneCell'=true)(h:∀ w',Mem w0 w' (M.set i (.box g T cs'))->wpList Tryz.prog ops Q rest (a.put o.dst undef) w'):wpList Tryz.prog ops Q (o::rest) a w:=by
 refine Qg (cs:=cs') lv x y ho hx hy bc hv cQ (H.cells hi) (by simp [hl]) h1 fun ph w' hc hs AZ iZ=>h w' (H.put i (.box g T cs') hi iZ ⟨(H.ZO hi).1,?_⟩ (.inl rfl));have:ph=cs'.toArray:=by
  apply yP;rw [hc];simp [hl]
 rw [<- this];exact AZ
theorem Mem.tail{e:dA}{M:List dA}(h:Mem w0 w (e::M)):Mem w0 w M:=h.sub (List.sublist_cons_self _ _)
end Go.Proofs.YtamjbkaclhgffaaGreat
