/-
  Plain laws of frac's numbers: parts of lists of digits, comparisons, lengths.
-/
import Derived.Test.YtlpikgchnjajmaaGreatTp1
import Derived.RangeFuncFrom
import Derived.RangeFuncNested
import Derived.RangeFuncBound
import Derived.RangeFuncCalls
import Derived.RangeFuncLeaves
import Derived.Shelf.Abstract
import Derived.Shelf.RegionOpen
import Derived.OwnWalkIn
import Derived.TacticsInMore
import Derived.LoopNIn
import Derived.LoopIn
import Derived.Lib.SliceRun
import Derived.Laws.CopyOwn
import Derived.Deep.Cut
import Derived.LoopN
set_option linter.all false
set_option maxRecDepth 100000
set_option maxHeartbeats 4000000
namespace Go.Proofs.YtlpikgchnjajmaaGreat
open Go.RowKit
variable{a:Act}{ad:Addr}{aft:Array Edge}{ps:Array Tmp}{lb vs:Array Value}{b neg:Bool}{assign body:Code}{Q:Exit->Act->World->Prop}{m n z:Int}{k kk:IntKind}{css:List (List Value)}{l:List Nat}{cs cs':List Value}{B D E T T1 base c g gf i j p sz:Nat}{x y:Operand}{ρ:Operand->Value}{gd:Option (Nat×Bool)}{A:Option Addr}{d:Option Nat}{pos:String}{α β:Type}{e t t' ty:TypeId}{v:Value}{W w w' w0 w1:World}
theorem aiv{L o:List α}{m:Nat}{r : α}(ho:o.length=m)(hi:i<m)(N0:j+m<=L.length):(L.take j++o++L.drop (j+m)).set (j+i) r=L.take j++o.set i r++L.drop (j+m):=by
 have hl:(L.take j).length=j:=DB oo;rw [gv,List.set_append,hl,ar oo,List.set_append,gv];have e:j+i - j=i:=oo
 rw [e,aw oo]
theorem aiw{L o:List α}{m:Nat}(ho:o.length=m)(hi:i<m)(N0:j+m<=L.length):(L.take j++o++L.drop (j+m))[j+i]? = o[i]? := by
 have hl:(L.take j).length=j:=DB oo;rw [gv,rq oo,hl,qh oo];congr 1;omega
theorem V5(L:List α)(j m:Nat):L.take j++(L.drop j).take m++L.drop (j+m)=L:=by
 exact V6
theorem aix{x:Nat}(h:aL x=1):bf ae x = [x]:=by
 have aj:=iI bW (n:=x) (k:=1) (vK h);rw [Nat.pow_one] at aj;have h0:x≠0:=by
  intro h0;subst h0;cases h
 rw [rE bW h0,fF aj,mi aj];rfl
theorem aiy(x:Nat):bJ ae ((bf ae x).take (min (aL x) 2))=x % 18446744073709551616:=by
 have hs:=Ih ae (bf ae x) (min (aL x) 2);rw [ue bW] at hs;have hl:((bf ae x).take (min (aL x) 2)).length=min (aL x) 2:=by
  rw [c6];show min _ (aL x)=_
  omega
 have aj:=uc ((bf ae x).take (min (aL x) 2)) ((di.bf bW x).take _);rw [hl] at hs aj;by_cases h:aL x<=2
 . have e:(bf ae x).drop (min (aL x) 2) = []:=by
    apply Bh;show aL x<=_
    omega
   rw [e,ahQ,Br,kY] at hs;have:ae^min (aL x) 2<=ae^2:=zl (by decide) oo;have h2:ae^2=18446744073709551616:=by decide
   rw [<- hs,fF oo]
 . have e:min (aL x) 2=2:=oo
   rw [e] at hs aj ⊢;have h2:ae^2=18446744073709551616:=by decide
   rw [h2] at hs aj
   conv=>rhs; rw [hs]
   rw [zj,fF aj]
theorem Im{x y:Nat}(h:x<y):mo x y = -1:=by unfold mo; rw [aw h]
theorem Io{x y:Nat}(h:y<x):mo x y=1:=by unfold mo; rw [ar oo,aw h]
theorem N1(x:Nat):mo x x=0:=by unfold mo; rw [ar oo,ar oo]
theorem N2(hj:j<l.length):l.drop j=l.getD j 0::l.drop (j+1):=by
 rw [vD hj,ba,bp hj];rfl
theorem V7{x y:Nat}(hl:aL x=aL y)(hj:j<aL x)(hd:(bf ae x).drop (j+1)=(bf ae y).drop (j+1))(aj:(bf ae x).getD j 0<(bf ae y).getD j 0):x<y:=by
 have Ip:j<(bf ae y).length:=by
  have:j<aL y:=oo
  exact this
 have h:=ahX (B:=ae) (a:=bf ae x) (b:=bf ae y) (di.bf bW x) hl hj (by
  rw [ba,bp hj,ba,bp Ip] at aj;exact aj) hd
 rwa [ue bW,ue bW] at h
theorem aiz{x:Nat}(h:aL x<=2):x<18446744073709551616:=by
 have:=iI bW (n:=x) (k:=2) h;have h2:ae^2=18446744073709551616:=by decide
 omega
theorem aiA{y:Nat}(h:aL y=1):bf ae y = [y]/\0<y/\y<4294967296:=by
 have h1:y<ae^1:=iI bW (show aL y<=1 from oo);have hB:ae=4294967296:=rfl;have h2:y≠0:=by
  rintro rfl
  exact absurd h (by decide)
 rw [Nat.pow_one] at h1;refine⟨?_,oo,oo⟩;rw [rE bW h2,fF h1,mi h1,ud bW]
theorem aiB{L o:List α}{m:Nat}(ho:o.length=m)(hj:j<=L.length):(L.take j++o++L.drop (j+m)).take j=L.take j/\(L.take j++o++L.drop (j+m)).drop (j+m)=L.drop (j+m)/\((L.take j++o++L.drop (j+m)).drop j).take m=o:=by
 have hl:(L.take j).length=j:=DB hj;refine⟨?_,?_,?_⟩
 . rw [gv,ahb oo,DK,Nat.min_self]
 . exact List.drop_left' (by simp [hl,ho])
 . rw [gv,List.drop_left' hl];exact ahG ho
theorem N3(x:Nat):x<dM↔aL x<=8:=by
 rw [<- D3];constructor
 . exact fun h=>uf bW h
 . exact fun h=>iI bW h
theorem V8{x y gc x1 y1:Nat}(hgc:gc=Nat.gcd x y)(D7:x1=x / gc)(D5:y1=y / gc):j5 neg x y=if x1<dM/\y1<dM then (⟨neg&&decide (x1≠0),x1,y1⟩,0) else (fH,3):=by
 unfold j5;rw [D7,D5,hgc]
theorem gg{x:Nat}(h:x<dM):aL x<=8:=(N3 x).1 h
theorem D8{x:Nat}:aL x=0↔x=0:=by
 constructor
 . intro h;rcases zo x with h1|h1
   . exact h1
   . have:0<aL x:=VM bW oo;omega
 . rintro rfl; rfl
def lenOf:Value->Nat
 | .slice _ n _=>n
 | _=>0
set_option maxHeartbeats 1000000 in
theorem V9(A:Option Addr)(c n:Nat)(l:List Nat)(hn:n=l.length)(w:World)(h:Rd w w.heap.size 1 A (j4 .u32 l))(hl:di ae l)(hlen:l.length<=1000000000)(N4:l.length<=c) :
 Calls Tryz.prog 162 #[.slice A n c] w fun e w'=>e = .returned (.slice A (aL (bJ ae l)) c)/\w'=w:=by
 subst hn
 go_enter Tryz.func162,Tryz.ntmps162
 go_wp2
 go_loop [0] (fun v=>∃ k:Nat,k<=l.length/\v = .slice A k c/\∀ d∈l.drop k,d=0) (fun v=>lenOf v)
 case atStart=>exact⟨l.length,az _,rfl,by simp⟩
 case round =>
  obtain⟨k,hk,rfl,hz⟩:=hrel;have HZ:=aX hz;clear hz;by_cases um:k=0
  . subst um;have HT:Hid (aL (bJ ae l)=0):=by unfold Hid aL; rw [Ii bW hl (cm _) HZ.out (.inl rfl)]; simp
    go_wp2
    go_ret
    exact⟨by rw [HT.out]; rfl,rfl⟩
  . obtain⟨j,rfl⟩:∃ j,k=j+1:=⟨k - 1,oo⟩
    obtain⟨b,off,rfl,hb,ky⟩:=ah8 Tryz.underlying52 rfl h (show j<l.length from oo);have HL:=aX (ky w (cA _ _));clear ky;by_cases xC:l[j]=0
    . have e0:((l[j]:Int)==0)=true:=by simp [xC]
      have hcj:¬ c<j:=oo
      go_wp2_with (first
       | ((with_reducible refine qp 52 ?_); (first|refine oM rfl _ _ rfl _ rfl _ HL.out ?_|refine VI rfl _ _ rfl _ rfl _ HL.out ?_)))
      go_round
      case rel =>
       refine⟨j,oo,by simp,fun d hd => ?_⟩;rw [vD (show j<l.length from oo)] at hd;rcases fZ.1 hd with h1|h1
       . rw [h1,xC]
       . exact HZ.out d h1
      case measure=>simp [lenOf]
    . have HT:Hid (aL (bJ ae l)=j+1):=by
       unfold Hid aL;rw [Ii bW hl hk HZ.out (.inr ⟨j,rfl,by simp [show j<l.length from oo]; exact xC⟩)];simp;omega
      have e0:((l[j]:Int)==0)=false:=by simp [xC]
      go_wp2_with (first
       | ((with_reducible refine qp 52 ?_); (first|refine oM rfl _ _ rfl _ rfl _ HL.out ?_|refine VI rfl _ _ rfl _ rfl _ HL.out ?_)))
      go_ret
      exact⟨by rw [HT.out]; rfl,rfl⟩
theorem aiD{a d:Nat}(ha:a<4294967296)(hd:d<4294967296):bits .or .u64 ((a:Int)*4294967296) (d:Int)=((a*4294967296+d:Nat):Int):=by
 have h:=bits_join .u64 64 (by decide) (fun n h0 h1=>wrap_u64 h0 h1) 32 ((a:Int)*4294967296) (d:Int) oo oo oo oo oo oo;rw [h];omega
def Wa(F:Fence)(n:Nat)(P:Program)(gf:Nat)(lb:Array Value)(encs : α->Array Value)(G:List α->World->Prop)(V:List α -> α->Prop)(S Sp:List α->Prop)(w0:World):Prop :=
 ∀ (l:Nat) (J Jx:List α->World->Prop) (W:World),Below w0.heap.size w0 W->(∀ pre W1,J pre W1->G pre W1) ->
  (∀ pre x W1,J pre W1->V pre x->YieldAt F (n - 1) P l (encs x) W1 fun e W2=>(e = .returned (.bool true)/\J (pre ++ [x]) W2)\/(e = .returned (.bool false)/\Jx (pre ++ [x]) W2)) ->
  J [] W->CallsIn F n P gf (#[.func (.yield l) #[] #[]]++lb) W fun e W2=>(∃ v,e = .returned v)/\((∃ xs,S xs/\J xs W2)\/(∃ pre,Sp pre/\Jx pre W2))
def Wb(I:List α->World->Prop)(Ix:Code->List α->World->Prop)(xs:List α)(W:World):Exit->Act->World->Prop:=fun e _ W2 =>
 KeepsOthers W W2/\match e with
  | .normal=>I xs W2
  | .ret=>Ix .ret xs W2
  | .exit id=>Ix (.exit id) xs W2
  | .goto t=>Ix (.goto t) xs W2
  | _=>False
section
variable{F:Fence}{n:Nat}{P:Program}{α:Type}
theorem aiE{fn:FuncId}{encs : α->Array Value}{I:List α->World->Prop}{Ix:Code->List α->World->Prop}{pre:List α}{x : α}(a₁ : α->Act){l:Nat}{r:Loop}(uo:F.fn fn)(hr:r = { state := .ready,pending:=none,fn:=fn,tmps:=a.tmps,params:=ps,assign:=assign,body:=body,defers:=D })(hB:B<=l)(Iq:D≠l)(hI:OwnFrom B I)(BF:∀ c,OwnFrom B (Ix c))(vR:(encs x).size=ps.size)(D9:∀ K:Act->World->Prop,K (a₁ x) W->assign.wpIn (F.inRound l) (n - 1 - 1) P (Exit.then K (fun _ _ _=>False)) { tmps:=(ps.zip (encs x)).foldl (fun t (p,v)=>t.setIfInBounds p v) a.tmps,defers := [] } W)(vS:∀ W1,I pre W1->body.wpIn (F.inRound l) (n - 1 - 1) P (Wb I Ix (pre ++ [x]) W1) (a₁ x) W1)(hi:I pre W)(hl:W.heap[l]? = some (.loop r))(hk:W.heap[D]? = some (.deferred (some []))) :
 YieldAt F (n - 1 - 1) P l (encs x) W fun e W2 =>
  (e = .returned (.bool true)/\I (pre ++ [x]) W2/\W2.heap[l]? = some (.loop r)/\W2.heap[D]? = some (.deferred (some []))) \/
  (e = .returned (.bool false)/\∃ c,Ix c (pre ++ [x]) W2/\W2.heap[l]? = some (.loop { r with state := .done,pending:=some c })/\W2.heap[D]? = some (.deferred (some []))):=by
 have aj:l<W.heap.size:=(jz.1 hl).1;have hy:=run_yield (P:=P) (args:=encs x) hl (by rw [hr]; exact vR);rw [hr] at hy;refine⟨fn,_,assign,body,hy,roundIn_of_wpIn uo (D9 _ ⟨_,run_beginRound hl (by rw [hr]),?_⟩)⟩;have aiF:(W.putObj l (.loop { r with state := .busy })).heap[l]? = some (.loop { r with state := .busy }):=World.putObj_heap_same aj;have hkb:(W.putObj l (.loop { r with state := .busy })).heap[D]? = some (.deferred (some [])):=(World.putObj_heap_other Iq).trans hk;refine wpIn_mono (vS _ (hI.putObj _ hi hB hl rfl)) fun e a2 W3 hp => ?_;obtain⟨gi,hp⟩:=hp;have rK:=gi.same _ _ aiF rfl;have xD:=(jz.1 rK).1;have gD:=fun j:Option Code=>run_endRound (P:=P) j rK;have Ir:∀ o,(W3.putObj l o).heap[D]? = some (.deferred (some [])):=fun o=>(World.putObj_heap_other Iq).trans (gi.same _ _ hkb rfl)
 cases e with
 | normal=>exact⟨_,_,gD none,.inl ⟨rfl,hI.putObj _ hp hB rK rfl,by rw [World.putObj_heap_same xD,hr]; rfl,Ir _⟩⟩
 | ret=>exact⟨_,_,gD (some .ret),.inr ⟨rfl,.ret,(BF _).putObj _ hp hB rK rfl,by rw [World.putObj_heap_same xD]; rfl,Ir _⟩⟩
 | exit id=>exact⟨_,_,gD (some (.exit id)),.inr ⟨rfl,.exit id,(BF _).putObj _ hp hB rK rfl,by rw [World.putObj_heap_same xD]; rfl,Ir _⟩⟩
 | goto t=>exact⟨_,_,gD (some (.goto t)),.inr ⟨rfl,.goto t,(BF _).putObj _ hp hB rK rfl,by rw [World.putObj_heap_same xD]; rfl,Ir _⟩⟩
 | panic c=>exact hp.elim
 | outgrown=>exact hp.elim
theorem aiH{g:Operand}(bB:F.round=none)(h1:1<=n)(hg:a.eval g = .func (.func gf) #[] lb)(N5:F.fn gf)(eg:∀ args W,(callFunc gf args).run P W = .ok (.enter gf args) W){encs : α->Array Value}{G:List α->World->Prop}{V:List α -> α->Prop}{S Sp:List α->Prop}(N6:Wa F (n - 1) P gf lb encs G V S Sp w0)(jD:Below w0.heap.size w0 w)(vR:∀ x,(encs x).size=ps.size)(I:List α->World->Prop)(Ix:Code->List α->World->Prop)(hIG:∀ pre W,I pre W->G pre W)(hI:OwnFrom w.heap.size I)(BF:∀ c,OwnFrom w.heap.size (Ix c))(h0:I [] w)(a₁ : α->Act)(D9:∀ (l:Nat) (x : α) (W:World) (K:Act->World->Prop),K (a₁ x) W->assign.wpIn (F.inRound l) (n - 1 - 1) P (Exit.then K (fun _ _ _=>False)) { tmps:=(ps.zip (encs x)).foldl (fun t (p,v)=>t.setIfInBounds p v) a.tmps,defers := [] } W)(vS:∀ (l:Nat) (pre:List α) (x : α) (W:World),I pre W->V pre x->body.wpIn (F.inRound l) (n - 1 - 1) P (Wb I Ix (pre ++ [x]) W) (a₁ x) W)(xE:∀ (D:Nat) (xs:List α) (W:World),w.heap.size<=D->S xs->I xs W->W.heap[D]? = some (.deferred (some []))->Q .normal { a with defers := { target := .collected D,args := #[] }::a.defers } W)(aiI:∀ (D:Nat) (c:Code) (pre:List α) (W:World),w.heap.size<=D->Sp pre->Ix c pre W->W.heap[D]? = some (.deferred (some []))->c.wpIn F n P Q { a with defers := { target := .collected D,args := #[] }::a.defers } W) :
 (Code.rangeFunc g ps assign body).wpIn F n P Q a w:=by
 refine wpIn_rangeFunc fun fn uo => ?_;rw [bB];obtain⟨r,hr⟩:∃ r:Loop,r = { state := .ready,pending:=none,fn:=fn,tmps:=a.tmps,params:=ps,assign:=assign,body:=body,defers:=w.heap.size }:=⟨_,rfl⟩
 have vT:=run_enterLoop_outer (P:=P) (w:=w) fn a.tmps ps assign body;rw [<- hr] at vT;have kZ:((w.alloc (.deferred (some []))).alloc (.loop r)).heap[w.heap.size+1]? = some (.loop r):=by
  have:=World.alloc_heap_new (w.alloc (.deferred (some []))) (.loop r);rwa [qi] at this
 have um:((w.alloc (.deferred (some []))).alloc (.loop r)).heap[w.heap.size]? = some (.deferred (some [])):=(qj _ _ _ (by simp)).trans (World.alloc_heap_new w _);have sI:I [] ((w.alloc (.deferred (some []))).alloc (.loop r)):=hI.alloc _ (hI.alloc _ h0);have N7:Below w0.heap.size w0 ((w.alloc (.deferred (some []))).alloc (.loop r)):=jD.trans ((((cA _ w).alloc (az _) _).alloc (by simp) _).mono jD.size);generalize (w.alloc (.deferred (some []))).alloc (.loop r)=W0 at *
 refine⟨w.heap.size+1,[{ target := .collected w.heap.size,args := #[] }],W0,{ target := .fn (.func gf) lb,args := #[.func (.yield (w.heap.size+1)) #[] #[]] },W0,gf,#[.func (.yield (w.heap.size+1)) #[] #[]]++lb,W0,vT,?_,?_,?_,fun _=>h1,?_⟩
 . simp only [resolve,hg];simp [go_sem]
 . intro f' qt;simp [Target.leads] at qt;rw [<- qt];exact N5
 . simp [invoke,go_sem,eg]
 . refine (N6 (w.heap.size+1) (fun pre W=>I pre W/\W.heap[w.heap.size+1]? = some (.loop r)/\W.heap[w.heap.size]? = some (.deferred (some [])))
    (fun pre W=>∃ c,Ix c pre W/\W.heap[w.heap.size+1]? = some (.loop { r with state := .done,pending:=some c })/\W.heap[w.heap.size]? = some (.deferred (some []))) W0 N7 (fun pre W1 h=>hIG pre W1 h.1) ?_ ⟨sI,kZ,um⟩).mono ?_
   . rintro pre x W ⟨hi,hl,hk⟩ hv
     exact aiE a₁ uo hr oo oo hI BF (vR x) (D9 _ x W) (fun W1 h=>vS _ pre x W1 h hv) hi hl hk
   . rintro e W2 ⟨⟨v,rfl⟩,⟨xs,hs,hi,hl,hk⟩|⟨pre,hs,c,hi,hl,hk⟩⟩
     . have N8:r.pending=none:=by rw [hr]
       have gR:=run_endLoop (P:=P) hl (by rw [hr]; simp);rw [N8] at gR;exact⟨none,_,gR,xE _ xs _ (az _) hs (hI.putObj _ hi oo hl rfl) ((World.putObj_heap_other oo).trans hk)⟩
     . exact⟨some c,_,run_endLoop (P:=P) hl (by simp),aiI _ c pre _ (az _) hs ((BF c).putObj _ hi oo hl rfl) ((World.putObj_heap_other oo).trans hk)⟩
end
open Go.Shelf
attribute [local go_sem] Oper.semAt_some
def aiJ(Bs:Nat)(A:Option Addr)(len cap:Nat)(l:List Nat)(k:Nat)(W:World):Prop :=
 W.cell? ⟨Bs,0,none⟩=some (.slice A len cap)/\∀ j,j+k+1=len->∃ b off,A=some ⟨b,off,none⟩/\W.cell? ⟨b,off+j,none⟩=some (.int .u32 (l.getD j 0:Nat))
def Ea(l:List Nat)(len k:Nat):Nat×Nat:=(len - 1 - k,l.getD (len - 1 - k) 0)
def Is(x:Nat×Nat):Array Value := #[Value.int .i64 (x.1:Int),Value.int .u32 (x.2:Int)]
set_option maxHeartbeats 2000000 in
theorem aiK(F:Fence)(n:Nat)(h1:F.fn 255)(bB:F.round=none)(hn:1<=n)(Bs len cap:Nat)(A:Option Addr)(l:List Nat)(axc:len<=1000)(w0:World) :
 Wa F n Tryz.prog 255 #[.pointer (some ⟨Bs,0,none⟩)] Is (fun pre W=>aiJ Bs A len cap l pre.length W) (fun pre x=>pre.length<len/\x=Ea l len pre.length) (fun xs=>xs.length=len) (fun _=>True) w0:=fun lp J Jx W hW hG hY h0=>by
 refine callsIn_of_wp Tryz.func255 rfl h1 ?_ bB;simp only [Tryz.ntmps255,xt,c9,fE,Nat.reduceAdd,Nat.reduceSub,M9,M8,Nl,Nh,rv,xu];have N9:=(hG _ _ h0).1
 gi_wp2
 gi_loopw [3] (fun i wr=>∃ pre:List (Nat×Nat),pre.length<=len/\i = .int .i64 ((len:Int) - 1 - pre.length)/\J pre wr)
  (fun i _=>(intOf i+1).toNat)
 case atStart=>exact⟨[],cm _,by simp,h0⟩
 case round =>
  obtain⟨pre,hk,rfl,Oa⟩:=hrel;obtain⟨uq,gR⟩:=hG _ _ Oa;by_cases aj:pre.length<len
  . obtain⟨j,hj⟩:∃ j,j+pre.length+1=len:=⟨len - 1 - pre.length,oo⟩
    obtain⟨b,off,rfl,Wc⟩:=gR j hj;obtain⟨fn,tmps,assign,body,hy,hR⟩:=hY _ (Ea l len pre.length) wr Oa ⟨aj,rfl⟩;have e1:len - 1 - pre.length=j:=oo
    have e2:(len:Int) - 1 - pre.length=(j:Int):=oo
    unfold Is Ea at hy;rw [e1] at hy;rw [e2];dsimp only at hy;have ib:j<len:=oo
    obtain⟨d,hd⟩:∃ d,d=l.getD j 0:=⟨_,rfl⟩
    rw [<- hd] at hy Wc;clear gR hd e1 e2 hG hY h0
    gi_wp2
    refine hR.mono ?_
    rintro e W3 (⟨rfl,Iu⟩|⟨rfl,We⟩)
    . gi_wp2
      go_roundw
      case rel=>exact⟨pre ++ [Ea l len pre.length],by simp<;>omega,by simp<;>omega,Iu⟩
      case measure=>simp [intOf]<;>omega
    . gi_wp2
      exact Wg
  . have e2:(len:Int) - 1 - pre.length = -1:=oo
    rw [e2]
    gi_wp2
    go_end0
    exact⟨⟨_,rfl⟩,.inl ⟨_,oo,Oa⟩⟩
set_option maxHeartbeats 1000000 in
theorem aiL(F:Fence)(n:Nat)(h5:F.fn 163)(bB:F.round=none)(a:Option Addr)(len cap:Nat)(w:World) :
 CallsIn F n Tryz.prog 163 #[.slice a len cap] w fun e w'=>e = .returned (.func (.func 255) #[] #[.pointer (some ⟨w.heap.size,0,none⟩)])/\w'=w.alloc (.cells #[.slice a len cap] 153):=by
 refine callsIn_of_wp Tryz.func163 rfl h5 ?_ bB;simp only [Tryz.ntmps163,xt,c9,fE,Nat.reduceAdd,Nat.reduceSub,M9,M8,Nl,Nh,rv,xu]
 gi_wp2
 go_ret
 exact⟨rfl,rfl⟩
open Go.RowKit
def sJ(k:IntKind)(l:List Nat):List Value:=l.map fun (n:Nat)=>Value.int k (n:Int)
def BG(w:World)(g E:Nat)(k:IntKind)(l:List Nat):Prop:=∃ rest:List Value,w.heap[g]? = some (.cells (sJ k l++rest).toArray E (0,0))
theorem Eb(k:IntKind)(l:List Nat):(sJ k l).length=l.length:=by simp [sJ]
theorem aiM(h:i<l.length):(sJ k l)[i]? = some (.int k (l[i]:Int)):=by simp [sJ,h]
theorem BG.cell(h:BG w g E k l)(hi:i<l.length):w.cell? ⟨g,i,none⟩=some (.int k (l[i]:Int)):=by
 obtain⟨r,h⟩:=h;have:=zt w g i _ _ _ h;rw [this];rw [Dy,qh (by rw [Eb]; exact hi),aiM hi]
theorem BG.frozen(h:BG w g E k l)(i:Nat):w.frozen? ⟨g,i,none⟩=false:=by
 obtain⟨r,h⟩:=h;simp [World.frozen?,h]
theorem heap_setCell{b:Nat}{c:Array Value}{fr:Nat×Nat}(h:w.heap[b]? = some (.cells c t fr))(i:Nat)(u:Value):(w.setCell ⟨b,i,none⟩ u).heap[b]? = some (.cells (c.setIfInBounds i u) t fr):=by
 have aj:=lt_of_block h;have h':w.heap[b] = .cells c t fr:=by simpa [pA aj] using h
 show (w.heap.modify b _)[b]? = _
 rw [pA Bx,Array.getElem_modify_self,h'];rfl
theorem cy.Ob(w:World)(base e size:Nat)(hb:base<=w.heap.size):cy (w.alloc (.cells #[] e)) base e size (some ⟨w.heap.size,0,none⟩) 0 [] :=
 ⟨⟨by simp,.inr ⟨w.heap.size,0,#[],rfl,hb,ry w _,az _,cm _,by simp,by simp⟩⟩,by simp⟩
structure aJ where
 id:Int
 num:ByteArray
 size:Int
 high:Bool
 af:Int
 load:Int
 kz:Int
 cls:Int
 vU:Bool
deriving DecidableEq
def aJ.cells(b:aJ):List Value := [.int .i64 b.id,.string b.num,.int .u8 b.size,.bool b.high,.int .i64 b.af,.int .i64 b.load,.int .i64 b.kz,.int .u8 b.cls,.bool b.vU]
abbrev aJ.val(b:aJ):Value := .agg #[.int .i64 b.id,.string b.num,.int .u8 b.size,.bool b.high,.int .i64 b.af,.int .i64 b.load,.int .i64 b.kz,.int .u8 b.cls,.bool b.vU]
structure ay where
 box:Int
 ax:Int
 aF:Int
 half:Int
deriving DecidableEq
def ay.cells(b:ay):List Value := [.int .i64 b.box,.int .i64 b.ax,.int .i64 b.aF,.int .u8 b.half]
theorem ay.one(b:ay):∀ u∈b.cells,u.oneCell'=true:=by simp [ay.cells,Value.oneCell']
theorem ay.Ec(l:List ay):∀ cs∈l.map ay.cells,∀ u∈cs,u.oneCell'=true:=by
 intro cs h;obtain⟨b,_,rfl⟩:=iq.1 h;exact b.one
theorem ay.ei:EI Tryz.prog 34 98 4 32:=EI.mk (z := .agg #[.int .i64 0,.int .i64 0,.int .i64 0,.int .u8 0]) Tryz.underlying34 (by kernel_rfl) rfl oo
structure Slot where
 ax:Int
 aF:Int
 half:Int
deriving DecidableEq
def Slot.cells(b:Slot):List Value := [.int .i64 b.ax,.int .i64 b.aF,.int .u8 b.half]
abbrev Slot.val(b:Slot):Value := .agg #[.int .i64 b.ax,.int .i64 b.aF,.int .u8 b.half]
theorem Slot.row:vO Tryz.prog 96 3:=⟨_,Tryz.underlying96,by kernel_rfl,by kernel_rfl⟩
theorem Slot.ei:EI Tryz.prog 327 96 3 24:=EI.mk (z := .agg #[.int .i64 0,.int .i64 0,.int .u8 0]) Tryz.underlying327 (by kernel_rfl) rfl oo
structure Ld where
 af:Int
 x:Int
 y:Int
 z:Int
deriving DecidableEq
def Ld.cells(b:Ld):List Value := [.int .i64 b.af,.int .i64 b.x,.int .i64 b.y,.int .i64 b.z]
abbrev Ld.val(b:Ld):Value := .agg #[.int .i64 b.af,.int .i64 b.x,.int .i64 b.y,.int .i64 b.z]
theorem Ld.len(b:Ld):b.cells.length=4:=rfl
theorem Ld.one(b:Ld):∀ u∈b.cells,u.oneCell'=true:=by simp [Ld.cells,Value.oneCell']
theorem Ld.row:vO Tryz.prog 62 4:=⟨_,Tryz.underlying62,by kernel_rfl,by kernel_rfl⟩
theorem Ld.ld(h:Rd w B 4 A css){k:Nat}{b:Ld}(hk:css[k]? = some b.cells) :
 ∃ g off,A=some ⟨g,off,none⟩/\g<B/\∀ w',Below B w w'->(loadVar 62 ⟨g,off+k*4,none⟩).run Tryz.prog w' = .ok b.val w':=h.ld Ld.row hk
structure vV where
 n:Int
 low:Int
 high:Int
deriving DecidableEq
structure sK where
 box:aJ
 x:Int
 y:Int
 h:Int
deriving DecidableEq
theorem Oc(f : α -> β)(l:List α)(k:Nat)(h:k<l.length):(l.map f)[k]? = some (f l[k]):=by simp [h]
set_option maxHeartbeats 1000000 in
theorem aiN(A:Option Addr)(c:Nat)(l:List Ld)(n:Nat)(hn:n=l.length)(fn:FuncId)(dw:Array Value)(p:Ld->Bool)(w:World)(hA:Rd w w.heap.size 4 A (l.map Ld.cells))(hl:l.length<=1000000000000)(oP:∀ w args,(callFunc fn args).run Tryz.prog w = .ok (.enter fn args) w)(hf:VJ Tryz.prog w fn dw Ld.val p l) :
 Calls Tryz.prog 152 #[.slice A n c,.func (.func fn) #[] dw] w fun e w'=>e = .returned (.int .i64 (idx p l))/\Below w.heap.size w w':=by
 subst hn
 go_enter Tryz.func152,Tryz.ntmps152
 go_wp2
 have HF:=aX hf;clear hf
 go_loopw [5,8] (fun _ i wr=>∃ k:Nat,k<=l.length/\i = .int .i64 k/\(∀ j,(h:j<k)->(h2:j<l.length)->p l[j]=false)/\Below w.heap.size w wr) (fun _ i _=>l.length - (intOf i).toNat)
 case atStart=>exact⟨0,oo,rfl,oo,cA _ _⟩
 case round =>
  obtain⟨k,hk,rfl,hj,hb⟩:=hrel;have HJ:=aX hj;clear hj;by_cases aj:k<l.length
  . obtain⟨b,off,rfl,cN,ky⟩:=Ld.ld hA (Oc Ld.cells l k aj);have HL:=aX ky;clear ky
    go_wp2_with (first
     | (refine oM rfl _ _ rfl _ rfl _ (HL.out _ hb) ?_)
     | (refine (HF.out l[k] (mj aj) _ hb).mono ?_; rintro e w' ⟨rfl,nV⟩))
    . have ht:p l[k]=true:=by assumption
      go_ret
      exact⟨by rw [NF aj (fun j h=>HJ.out j h oo) ht]; rfl,hb.trans (nV.mono hb.size)⟩
    . have qt:p l[k]=false:=by assumption
      go_roundw
      case rel =>
       refine⟨k+1,oo,by go_num,fun j h h2 => ?_,hb.trans (nV.mono hb.size)⟩;rcases cw j k with h3|h3
       . exact HJ.out j h3 h2
       . obtain rfl:j=k:=oo
         exact qt
      case measure=>simp [intOf]; omega
  . obtain rfl:k=l.length:=oo
    have HI:=aX (NG (fun j h=>HJ.out j h h))
    go_wp2
    go_ret
    exact⟨by rw [HI.out]; rfl,hb⟩
theorem Wh(p : α->Bool)(l:List α):l.any p=decide (0<=idx p l):=by
 rcases NH p l with ⟨h1,h2⟩|⟨k,hk,h1,h2,_⟩
 . have h3:l.any p=false:=by
    rw [DF];intro x hx;simp [h2 x hx]
   rw [h1,h3];rfl
 . have h3:l.any p=true:=by
    rw [Np];exact⟨_,mj hk,h2⟩
   rw [h1,h3];simp
theorem aiO(A:Option Addr)(c:Nat)(l:List Ld)(n:Nat)(hn:n=l.length)(fn:FuncId)(dw:Array Value)(p:Ld->Bool)(w:World)(hA:Rd w w.heap.size 4 A (l.map Ld.cells))(hl:l.length<=1000000000000)(oP:∀ w args,(callFunc fn args).run Tryz.prog w = .ok (.enter fn args) w)(hf:VJ Tryz.prog w fn dw Ld.val p l) :
 Calls Tryz.prog 72 #[.slice A n c,.func (.func fn) #[] dw] w fun e w'=>e = .returned (.bool (l.any p))/\Below w.heap.size w w':=by
 have HI:=aX (aiN A c l n hn fn dw p w hA hl oP hf);rw [Wh];generalize idx p l=z at HI ⊢;clear hA hn hl oP hf
 go_enter Tryz.func72,Tryz.ntmps72
 go_wp2_with (go_at_call 152; refine (HI.out).mono ?_; rintro e w2 ⟨rfl,fu⟩)
 go_ret
 exact⟨by first|rfl|simp,fu⟩
structure xF where
 x:Int
 lf:Int
 share:Int
 lP:Int
 lQ:Int
deriving DecidableEq
structure Wt where
 x:Int
 af:Int
deriving DecidableEq
abbrev lR:=Int
def lR.cells(n:lR):List Value := [.int .i64 n]
theorem lR.one(n:lR):∀ u∈n.cells,u.oneCell'=true:=by simp [lR.cells,Value.oneCell']
theorem lR.Ec(l:List lR):∀ cs∈l.map lR.cells,∀ u∈cs,u.oneCell'=true:=by
 intro cs h;obtain⟨b,_,rfl⟩:=iq.1 h;exact lR.one b
theorem lR.ei:EI Tryz.prog 35 3 1 8:=EI.mk (z := .int .i64 0) Tryz.underlying35 (by kernel_rfl) rfl oo
structure qu where
 a0:Int
 a1:Int
 a2:Int
 a3:Int
 a4:Int
 a5:Int
deriving DecidableEq
def qu.add(a b:qu):qu:=⟨a.a0+b.a0,a.a1+b.a1,a.a2+b.a2,a.a3+b.a3,a.a4+b.a4,a.a5+b.a5⟩
def qu.zero:qu:=⟨0,0,0,0,0,0⟩
def ic:ByteArray:=⟨#[]⟩
structure dp where
 cV:Int
 row:Int
 fv:Bool
 cW:Int
 mq:Int
 xG:Int
 xH:Int
 xI:Int
 fS:List Int
 x:Int
 y:Int
 z:Int
deriving DecidableEq
structure lg where
 cV:Int
 rows:List Int
deriving DecidableEq
structure cX where
 nW:Int
 af:Int
 mr:Int
 mc:Int
 jE:Int
deriving DecidableEq
structure bX where
 af:Int
 x:Int
 y:Int
 z:Int
 sL:Int
 steps:List Int
deriving DecidableEq
structure Wi where
 cV:Int
 row:Int
 fv:Bool
 cW:Int
 mq:Int
 xG:Int
 xH:Int
 xI:Int
 fS:List Int
 Wj:Nat
 x:Int
 y:Int
 z:Int
deriving DecidableEq
structure Wk where
 cV:Int
 rows:List Int
 Wl:Nat
deriving DecidableEq
structure Wm where
 af:Int
 x:Int
 y:Int
 z:Int
 sL:Int
 steps:List Int
 Wn:Nat
deriving DecidableEq
structure iT where
 cV:Int
 row:Int
 cW:Int
 fv:Bool
deriving DecidableEq
structure iU where
 ax:Int
 af:Int
 small:Bool
 high:Bool
deriving DecidableEq
structure Wo where
 af:Int
 x:Int
 y:Int
 z:Int
deriving DecidableEq
structure bj where
 neg:Bool
 n0:Int
 n1:Int
 n2:Int
 n3:Int
 n4:Int
 n5:Int
 n6:Int
 n7:Int
 d0:Int
 d1:Int
 d2:Int
 d3:Int
 d4:Int
 d5:Int
 d6:Int
 d7:Int
deriving DecidableEq
structure Wp where
 lP:bj
 lQ:bj
deriving DecidableEq
structure j8 where
 af:Int
 steps:Int
 x:Int
 y:Int
 z:Int
 xJ:Int
deriving DecidableEq
structure Wq where
 step:Int
 lf:Int
 at_:Int
 af:Int
 share:Int
deriving DecidableEq
inductive Tc where
 | int|u8|u32|box|aq|slot|ld|pE|ax|e9|mid|bE|sM|bD|xK|xL|xM|fc|fO|BH|wx|BI|iu|eJ|ij|BJ
deriving DecidableEq
abbrev Tc.el:Tc->Type
 | .int=>Int
 | .u8=>Int
 | .u32=>Int
 | .box=>aJ
 | .aq=>ay
 | .slot=>Slot
 | .ld=>Ld
 | .pE=>vV
 | .ax=>dp
 | .e9=>lg
 | .mid=>sK
 | .bE=>cX
 | .sM=>xF
 | .bD=>bX
 | .xK=>Wi
 | .xL=>Wk
 | .xM=>Wm
 | .fc=>iT
 | .fO=>iU
 | .BH=>Wo
 | .wx=>Wt
 | .BI=>qu
 | .iu=>bj
 | .eJ=>Wp
 | .ij=>j8
 | .BJ=>Wq
def Tc.size:Tc->Nat
 | .int=>1
 | .u8=>1
 | .u32=>1
 | .box=>9
 | .aq=>4
 | .slot=>3
 | .ld=>4
 | .pE=>3
 | .ax=>12
 | .e9=>2
 | .mid=>12
 | .bE=>5
 | .sM=>5
 | .bD=>6
 | .xK=>12
 | .xL=>2
 | .xM=>6
 | .fc=>4
 | .fO=>4
 | .BH=>4
 | .wx=>2
 | .BI=>6
 | .iu=>17
 | .eJ=>34
 | .ij=>6
 | .BJ=>5
def Tc.aa:(t:Tc)->t.el
 | .int=>(0:Int)
 | .u8=>(0:Int)
 | .u32=>(0:Int)
 | .box=>(⟨0,ic,0,false,0,0,0,0,false⟩:aJ)
 | .aq=>(⟨0,0,0,0⟩:ay)
 | .slot=>(⟨0,0,0⟩:Slot)
 | .ld=>(⟨0,0,0,0⟩:Ld)
 | .pE=>(⟨0,0,0⟩:vV)
 | .ax=>(⟨0,0,false,0,0,0,0,0,[],0,0,0⟩:dp)
 | .e9=>(⟨0,[]⟩:lg)
 | .mid=>(⟨⟨0,ic,0,false,0,0,0,0,false⟩,0,0,0⟩:sK)
 | .bE=>(⟨0,0,0,0,0⟩:cX)
 | .sM=>(⟨0,0,0,0,0⟩:xF)
 | .bD=>(⟨0,0,0,0,0,[]⟩:bX)
 | .xK=>(⟨0,0,false,0,0,0,0,0,[],0,0,0,0⟩:Wi)
 | .xL=>(⟨0,[],0⟩:Wk)
 | .xM=>(⟨0,0,0,0,0,[],0⟩:Wm)
 | .fc=>(⟨0,0,0,false⟩:iT)
 | .fO=>(⟨0,0,false,false⟩:iU)
 | .BH=>(⟨0,0,0,0⟩:Wo)
 | .wx=>(⟨0,0⟩:Wt)
 | .BI=>(⟨0,0,0,0,0,0⟩:qu)
 | .iu=>(⟨false,0,0,0,0,0,0,0,0,0,0,0,0,0,0,0,0⟩:bj)
 | .eJ=>(⟨⟨false,0,0,0,0,0,0,0,0,0,0,0,0,0,0,0,0⟩,⟨false,0,0,0,0,0,0,0,0,0,0,0,0,0,0,0,0⟩⟩:Wp)
 | .ij=>(⟨0,0,0,0,0,0⟩:j8)
 | .BJ=>(⟨0,0,0,0,0⟩:Wq)
open Go.RowKit
theorem aiP{P:Program}{T:TypeId}(hx : ρ x = .pointer (some ad))(h:(loadVar T ad).run P w = .ok v w) :
 (execOp ρ ⟨d,.load T x,ty,pos,aft,gd⟩).run P w = .ok (.value v) w:=by
 unfold execOp;simp only [hx,Instr.loadAt,Instr.sureAddr,bt,bU,bM,h]
theorem Wr{P:Program}(hx : ρ x=v):(execOp ρ ⟨d,.move x,ty,pos,aft,gd⟩).run P w = .ok (.value v) w:=by
 subst hx; rfl
theorem Ws{P:Program}(hx : ρ x=v):(execOp ρ ⟨d,.assign x,ty,pos,aft,gd⟩).run P w = .ok (.value v) w:=by
 subst hx; rfl
section
variable{P:Program}{ρ:Operand->Value}{d:Option Nat}{ty:TypeId}{pos:String}{aft:Array Edge}{gd:Option (Nat×Bool)}{v:Value}{w:World}
def Iv(P:Program)(s f:Nat):Option Nat :=
 match P.underlying s with
 | some (.struct fs)=>match fs[f]? with
  | some fd=>match P.info? fd.type with
   | some i=>if i.size=0 then none else some fd.offset
   | none=>none
  | none=>none
 | _=>none
theorem Ed(b o n:Nat):(⟨b,o,none⟩:Addr).add n=⟨b,o+n,none⟩:=by
 unfold Addr.add;split
 . rename_i h; subst h; rfl
 . rfl
theorem Wu{f k b o:Nat}(hx : ρ x = .pointer (some ⟨b,o,none⟩))(hf:Iv P T f=some k)(hv:v = .pointer (some ⟨b,o+k,none⟩)):(execOp ρ ⟨d,.fieldAddr T x f,ty,pos,aft,gd⟩).run P w = .ok (.value v) w:=by
 subst hv;unfold Iv at hf;split at hf
 . rename_i fs iw;split at hf
   . rename_i fd hfd;split at hf
     . rename_i i hi;split at hf
       . cases hf
       . rename_i aN;injection hf with hf;subst hf;unfold execOp;simp only [hx,Instr.fieldAt,underlying,bt,bU,bM,iw,m5];simp only [hfd,Instr.sureAddr,fieldPlace,sizeOf,typeInfo,bt,bU,bM,m5,hi,aN,dB,Ed]
     . cases hf
   . cases hf
 . cases hf
def elemOf(P:Program)(t:Nat):Option (Nat×Nat) :=
 match P.underlying t with
 | some (.slice e)=>(P.info? e).map fun i=>(e,i.size)
 | _=>none
theorem Wv{t e:Nat}(h:elemOf P t=some (e,sz)):P.underlying t=some (.slice e)/\∃ i,P.info? e=some i/\i.size=sz:=by
 unfold elemOf at h;split at h
 . rename_i e' he
   cases hi:P.info? e' with
   | none=>rw [hi] at h; cases h
   | some i=>rw [hi] at h; simp only [dv,bI,rz] at h; obtain⟨rfl,rfl⟩:=h; exact⟨he,i,hi,rfl⟩
 . cases h
theorem Od{t e k n b o:Nat}(hx : ρ x = .slice (some ⟨b,o,none⟩) n c)(hy : ρ y = .int kk (k:Int))(he:elemOf P t=some (e,sz))(hk:(k:Int)<(n:Int))(hv:v = .pointer (some ⟨b,o+k*sz,none⟩)):(execOp ρ ⟨d,.indexAddr t x y,ty,pos,aft,gd⟩).run P w = .ok (.value v) w:=by
 subst hv;obtain⟨h1,i,h2,rfl⟩:=Wv he;have h3:0<=(k:Int)/\(k:Int)<(n:Int):=⟨oo,hk⟩
 unfold execOp;simp only [hx,hy,Instr.indexAt,asIntOf,underlying,bt,bU,bM,h1,m5];simp only [h3,DP,eH,sizeOf,typeInfo,bt,bU,bM,m5,h2,dV,Ed]
theorem aiR{t n:Nat}(hx : ρ x = .slice A n c)(ht:P.underlying t=some (.slice e))(hv:v = .int .i64 (n:Int)):(execOp ρ ⟨d,.call { callee := .builtin .len,args := #[x],argTypes := #[t] },ty,pos,aft,gd⟩).run P w = .ok (.value v) w:=by
 subst hv;exact Ww
theorem Wx(hx : ρ x = .tuple vs)(hv:vs[i]? = some v):(execOp ρ ⟨d,.extract x i,ty,pos,aft,gd⟩).run P w = .ok (.value v) w:=by
 unfold execOp;simp only [hx,Instr.extract,hv,bt,bU,bM]
theorem Oe{c:Operand}(hc : ρ c = .bool b)(hv:(if b then ρ x else ρ y)=v):(execOp ρ ⟨d,.pick c x y,ty,pos,aft,gd⟩).run P w = .ok (.value v) w:=by
 unfold execOp;simp only [hc,asBool,bt,bU,bM,hv]
theorem Iw(hx : ρ x = .bool b)(hv:v = .bool (!b)):(execOp ρ ⟨d,.unOp .not t x,ty,pos,aft,gd⟩).run P w = .ok (.value v) w:=by
 subst hv;unfold execOp;simp only [hx,Op.unary,bt,bU,bM]
theorem Iy(hx : ρ x = .int k m)(hy : ρ y = .int k n)(hz:k.wrap (m+n)=z)(hv:v = .int k z):(execOp ρ ⟨d,.binOp .add t x y t',ty,pos,aft,gd⟩).run P w = .ok (.value v) w:=by
 exact Of
theorem Iz(hx : ρ x = .int k m)(hy : ρ y = .int k n)(hz:k.wrap (m - n)=z)(hv:v = .int k z):(execOp ρ ⟨d,.binOp .sub t x y t',ty,pos,aft,gd⟩).run P w = .ok (.value v) w:=by
 exact Of
theorem IA(hx : ρ x = .int k m)(hy : ρ y = .int k n)(hz:k.wrap (m*n)=z)(hv:v = .int k z):(execOp ρ ⟨d,.binOp .mul t x y t',ty,pos,aft,gd⟩).run P w = .ok (.value v) w:=by
 exact Of
def Wy(op:BinOp)(m n:Int):Option Bool :=
 match op with
 | .eql=>some (m==n)
 | .neq=>some (m != n)
 | .lss=>some (decide (m<n))
 | .leq=>some (decide (m<=n))
 | .gtr=>some (decide (m>n))
 | .geq=>some (decide (m≥n))
 | _=>none
theorem zC{op:BinOp}(hx : ρ x = .int k m)(hy : ρ y = .int k n)(hb:Wy op m n=some b)(hv:v = .bool b):(execOp ρ ⟨d,.binOp op t x y t',ty,pos,aft,gd⟩).run P w = .ok (.value v) w:=by
 subst hv;cases op<;>simp only [Wy] at hb<;>cases hb
 all_goals
  unfold execOp;simp only [hx,hy,eqGuard,binOp,Op.intCmp,ne_eq,vC,dB,bt,bU];rfl
end
def zB(l:List Oper)(np:Nat)(Z:List Nat):Bool:=Z.all fun i=>decide (i<np)&&match l[i]? with|some o=>o.after.all fun e => !Region.binds .any e|none=>true
inductive St where
 | val (v:Value)
 | call (v:Value)
 | new (R:Value->World->Prop)
 | dep (R:Value->World->Prop)
 | skip
def qv(l:List Oper)(s:Nat):Nat->Option Nat
 | 0=>none
 | i+1=>if ((l[i]?).bind (·.dst))==some s then some i else qv l s i
theorem IB{l:List Oper}{s:Nat}:∀ {i j:Nat},qv l s i=some j->j<i/\∃ o,l[j]? = some o/\o.dst=some s
 | 0,_,h=>by cases h
 | i+1,j,h=>by
  unfold qv at h;split at h
  . rename_i hb;injection h with h;subst h;have h1:=eq_of_beq hb
    cases ho:l[i]? with
    | none=>rw [ho] at h1; cases h1
    | some o=>rw [ho] at h1; exact⟨oo,o,rfl,h1⟩
  . obtain⟨h1,h2⟩:=IB h;exact⟨oo,h2⟩
def axd(l:List Oper)(S:List St)(a0:Act)(i:Nat):Operand->St
 | .tmp s=>match qv l s i with
  | some j=>S.getD j .skip
  | none => .val (a0.tmps.getD s undef)
 | x => .val (a0.eval x)
def Og(l:List Oper)(np i:Nat)(o:Oper)(s:Nat):Bool :=
 match qv l s i with
 | some j=>o.after.any fun e=>Region.binds .any e&&e.on==j
 | none=>(List.range np).all fun k=>match l[k]? with
  | some ok=>ok.dst != some s||ok.after.any fun e=>Region.binds .any e&&e.on==i
  | none=>true
def Oh:Op->Bool
 | .select _ _=>true
 | _=>false
def aiS(P:Program)(ρ:Operand->Value)(o:Oper)(w:World)(R:Value->World->Prop):Prop :=
 (∃ v w',(execOp ρ o).run P w = .ok (.value v) w'/\cU w w'/\R v w') \/
 ∃ f args,(execOp ρ o).run P w = .ok (.enter f args) w/\Calls P f args w fun e w'=>∃ v,e = .returned v/\cU w w'/\R v w'
theorem aiT{e size:Nat}(h:w.heap[g]? = some (.cells cs.toArray e (0,0)))(hl:cs.length=size)(hb:base<=g):cy w base e size (some ⟨g,0,none⟩) 1 [cs] :=
 ⟨⟨by simp [hl],.inr ⟨g,1,cs.toArray,rfl,hb,h,az _,by unfold maxLen; omega,by simp [hl],by simp; exact lL oo⟩⟩,by intro c hc; rw [kq] at hc; subst hc; exact hl⟩
theorem aiU{size:Nat}(hT:vO Tryz.prog T size)(h:cy w base T size (some ⟨g,0,none⟩) c css)(hi:css[i]? = some cs)(hp:p=i*size):∀ w1,cU w w1->(loadVar T ⟨g,p,none⟩).run Tryz.prog w1 = .ok (.agg cs.toArray) w1:=by
 intro w1 hb;subst hp;obtain⟨b,off,e,_,hl⟩:=h.rd.ld hT hi;simp only [bI,Addr.mk.injEq,aS] at e;obtain⟨rfl,rfl⟩:=e;have h1:=hl w1 hb;rw [hZ] at h1;exact h1
theorem Oi(A:Option Addr)(n c:Nat):Value.ownBlock (.slice A n c)=A.map (·.block):=by cases A<;>rfl
inductive bV where
 | row (T size:Nat) (A:Option Addr) (c:Nat) (css:List (List Value))
 | box (g T:Nat) (cs:List Value)
 | ro (size:Nat) (A:Option Addr) (css:List (List Value))
def bV.ok(w:World)(base:Nat):bV->Prop
 | .row T size A c css=>cy w base T size A c css
 | .box g T cs=>base<=g/\w.heap[g]? = some (.cells cs.toArray T (0,0))
 | .ro size A css=>Rd w w.heap.size size A css/\∀ a,A=some a->base<=a.block/\a.block<w.heap.size
def bV.ca:bV->Option Nat
 | .row _ _ A _ _=>A.map (·.block)
 | .box g _ _=>some g
 | .ro _ A _=>A.map (·.block)
theorem bV.lt{b:Nat}{e:bV}(h:e.ok w base)(hb:e.ca=some b):base<=b/\b<w.heap.size:=by
 cases e with
 | row T size A c css =>
  obtain⟨a,ha,rfl⟩:=kV.1 hb;exact cy.lt h ha
 | box g T cs =>
  injection hb with hb;subst hb;exact⟨h.1,(jz.1 h.2).1⟩
 | ro size A css =>
  obtain⟨a,ha,rfl⟩:=kV.1 hb;exact h.2 a ha
theorem IC(h:w'.heap[g]? = w.heap[g]?):w'.cell? ⟨g,p,.none⟩=w.cell? ⟨g,p,.none⟩:=by simp only [World.cell?,h]
theorem Rd.jA{size:Nat}(h:Rd w w.heap.size size A css)(hk:∀ a,A=some a->w'.heap[a.block]? = w.heap[a.block]?):Rd w' w'.heap.size size A css:=by
 intro k cs m8;obtain⟨g,off,e,aj,hl,hc⟩:=h k cs m8;have h1:=hk _ e;have ID:g<w'.heap.size:=by
  rcases cw g w'.heap.size with h2|h2
  . exact h2
  . rw [DC h2,pA aj] at h1;cases h1
 exact⟨g,off,e,ID,hl,fun j u hu=>by rw [IC h1]; exact hc j u hu⟩
theorem bV.jA{e:bV}(h:e.ok w base)(hk:∀ b,e.ca=some b->w'.heap[b]? = w.heap[b]?):e.ok w' base:=by
 cases e with
 | ro size A css =>
  refine⟨Rd.jA h.1 fun a ha=>hk _ (by simp [bV.ca,ha]),fun a ha=>⟨(h.2 a ha).1,?_⟩⟩;have h1:=hk a.block (by simp [bV.ca,ha]);rcases cw a.block w'.heap.size with h2|h2
  . exact h2
  . rw [DC h2,pA (h.2 a ha).2] at h1;cases h1
 | row T size A c css=>exact cy.jA h fun a ha=>hk _ (by simp [bV.ca,ha])
 | box g T cs=>exact⟨h.1,(hk g rfl).trans h.2⟩
theorem bV.less{b:Nat}{e:bV}(h:e.ok w base)(hb:b<=base):e.ok w b:=by
 cases e with
 | row T size A c css=>exact cy.Bv h hb
 | box g T cs=>exact⟨e8 hb h.1,h.2⟩
 | ro size A css=>exact⟨h.1,fun a ha=>⟨e8 hb (h.2 a ha).1,(h.2 a ha).2⟩⟩
def bV.vW(e f:bV):Prop:=∀ b,e.ca=some b->f.ca≠some b
theorem bV.vW.symm{e f:bV}(h:e.vW f):f.vW e:=fun b hb hc=>h b hc hb
structure Mem (w0 w:World) (M:List bV):Prop where
 from_:cU w0 w
 ok:∀ e∈M,e.ok w w0.heap.size
 apart:M.Pairwise bV.vW
theorem Mem.nil(w:World):Mem w w []:=⟨cA _ _,fun _ h=>(by cases h),.nil⟩
theorem Mem.call{M:List bV}(h:Mem w0 w M)(hb:cU w w'):Mem w0 w' M :=
 ⟨h.from_.trans (hb.mono h.from_.size),fun e he=>bV.jA (h.ok e he) fun _ aW=>hb.block _ (bV.lt (h.ok e he) aW).2,h.apart⟩
theorem Mem.sub{M M':List bV}(h:Mem w0 w M)(hs:M'.Sublist M):Mem w0 w M':=⟨h.from_,fun e he=>h.ok e (hs.subset he),h.apart.sublist hs⟩
theorem Mem.add{M:List bV}(h:Mem w0 w M)(hb:cU w w')(e:bV)(he:e.ok w' w.heap.size):Mem w0 w' (e::M):=by
 have h1:=h.call hb;refine⟨h1.from_,fun f hf => ?_,tU.2 ⟨fun f hf b cN fu => ?_,h1.apart⟩⟩
 . rcases fZ.1 hf with rfl|hf
   . exact bV.less he h.from_.size
   . exact h1.ok f hf
 . have h2:=(bV.lt he cN).1;have h3:=(bV.lt (h.ok f hf) fu).2;omega
theorem Mem.none{M:List bV}(h:Mem w0 w M)(T size:Nat):Mem w0 w (.row T size none 0 []::M) :=
 h.add (cA _ _) _ (cy.nil _ _ _ _)
theorem Mem.alloc{M:List bV}(h:Mem w0 w M)(T:Nat)(cs:List Value):Mem w0 (w.alloc (.cells cs.toArray T)) (.box w.heap.size T cs::M) :=
 h.add ((cA _ _).alloc (az _) _) _ ⟨az _,ry w _⟩
theorem Mem.any{M:List bV}(h:Mem w0 w M)(o:Obj):Mem w0 (w.alloc o) M:=h.call ((cA _ _).alloc (az _) _)
theorem Wz{e:bV}:∀ {M:List bV} {i:Nat},i<M.length->M.Pairwise bV.vW->(∀ j f,j≠i->M[j]? = some f->e.vW f)->(M.set i e).Pairwise bV.vW
 | [],_,hi,_,_=>by cases hi
 | f::M,0,_,hp,h=>by
  rw [HU];have h1:=tU.1 hp;refine tU.2 ⟨fun g hg => ?_,h1.2⟩;obtain⟨j,hj⟩:=kW.1 hg;exact h (j+1) g oo (by simpa using hj)
 | f::M,i+1,hi,hp,h=>by
  rw [Nj];have h1:=tU.1 hp;refine tU.2 ⟨fun g hg => ?_,Wz (by simpa using hi) h1.2 fun j f' hj hf=>h (j+1) f' oo (by simpa using hf)⟩;rcases Vj hg with hg|rfl
  . exact h1.1 g hg
  . exact (h 0 f oo (by simp)).symm
theorem WA{M:List bV}(hp:M.Pairwise bV.vW){e f:bV}(hi:M[i]? = some e)(hj:M[j]? = some f)(jF:i≠j):e.vW f:=by
 obtain⟨BK,vX⟩:=cM.1 hi;obtain⟨xN,mu⟩:=cM.1 hj;rw [xq] at hp;rcases Nat.lt_or_gt_of_ne jF with h|h
 . have:=hp i j BK xN h;rwa [vX,mu] at this
 . have:=hp j i xN BK h;rw [vX,mu] at this;exact this.symm
theorem Mem.put{M:List bV}(h:Mem w0 w M)(i:Nat){e:bV}(e':bV)(hi:M[i]? = some e)(hg:w.grownBy w' e.ca)(he:e'.ok w' w0.heap.size)(iV:e'.ca=e.ca\/∀ b,e'.ca=some b->w.heap.size<=b):Mem w0 w' (M.set i e'):=by
 have aj:i<M.length:=(cM.1 hi).1;have hek:=h.ok e (gX hi);refine⟨h.from_.grown hg h.from_.size fun k hk=>(bV.lt hek hk).1,fun f hf => ?_,Wz aj h.apart fun j f hj hf b cN fu => ?_⟩
 . obtain⟨j,hj⟩:=kW.1 hf;rw [ru] at hj;split at hj
   . injection hj with hj;subst hj;exact he
   . rename_i aT;have zD:=h.ok f (gX hj);refine bV.jA zD fun b hb=>hg.block b (bV.lt zD hb).2 fun hc => ?_;exact WA h.apart hi hj aT b hc.symm hb
 . have zD:=h.ok f (gX hf);rcases iV with iV|iV
   . rw [iV] at cN;exact WA h.apart hi hf (fun e=>hj e.symm) b cN fu
   . have h1:=iV b cN;have h2:=(bV.lt zD fu).2;omega
theorem Mem.own{M:List bV}(h:Mem w0 w M){size:Nat}(hi:M[i]? = some (.row T size A c css)):cy w w0.heap.size T size A c css:=h.ok _ (gX hi)
theorem Mem.cells{M:List bV}(h:Mem w0 w M)(hi:M[i]? = some (.box g T cs)):w.heap[g]? = some (.cells cs.toArray T (0,0)):=(h.ok _ (gX hi)).2
theorem Mem.Oj{M:List bV}(h:Mem w0 w M)(hi:M[i]? = some (.box g T cs)):w0.heap.size<=g/\g<w.heap.size:=bV.lt (h.ok _ (gX hi)) rfl
theorem Mem.BL{M:List bV}(h:Mem w0 w M){n:Nat}(hT:vO Tryz.prog T n)(hn:cs.length=n)(hi:M[i]? = some (.box g T cs))(w1:World)(hb:cU w w1):(loadVar T ⟨g,0,.none⟩).run Tryz.prog w1 = .ok (.agg cs.toArray) w1:=by
 have h1:=aiT (base:=0) (h.cells hi) hn (cm _);exact aiU hT h1 (i:=0) (cs:=cs) rfl (p:=0) oo w1 hb
def ur(P:Program)(T:Nat):Bool :=
 match P.underlying T with
 | some (.struct _)=>false
 | some (.array _ _)=>false
 | some _=>true
 | _=>false
theorem Ok{P:Program}(hT:ur P T=true)(h:w.cell? ad=some v):(loadVar T ad).run P w = .ok v w:=by
 unfold ur at hT
 cases hd:P.underlying T with
 | none=>rw [hd] at hT; cases hT
 | some d=>exact Bw hd (by rw [hd] at hT; cases d<;>first|rfl|cases hT) h
theorem Mem.zE{M:List bV}(h:Mem w0 w M)(hT:ur Tryz.prog T1=true)(hi:M[i]? = some (.box g T cs))(hj:cs[j]? = some v)(w1:World)(hb:cU w w1):(loadVar T1 ⟨g,j,.none⟩).run Tryz.prog w1 = .ok v w1:=by
 have h1:=h.cells hi;have h2:w1.heap[g]? = some (.cells cs.toArray T (0,0)):=(hb.block g (h.Oj hi).2).trans h1;refine Ok hT ?_;rw [zt w1 g j _ _ _ h2];simpa using hj
theorem Rd.cell{P:Program}{off size k:Nat}(h:Rd w B size (some ⟨g,off,none⟩) css)(hb:Below B w w1)(hT:ur P T1=true)(hk:css[k]? = some cs)(hj:cs[j]? = some v)(hp:p=off+k*size+j):(loadVar T1 ⟨g,p,none⟩).run P w1 = .ok v w1:=by
 subst hp;obtain⟨b,rL,e,aj,_,hc⟩:=h k cs hk;simp only [bI,Addr.mk.injEq,aS] at e;obtain⟨rfl,rfl⟩:=e;refine Ok hT ?_;rw [IC (hb.block _ aj)];exact hc j _ hj
theorem Rd.bound{size:Nat}(h:Rd w B size A css)(hn:css ≠ []):∀ a,A=some a->a.block<B:=by
 intro a ha;obtain⟨cs,BM,rfl⟩:=aw0 hn;obtain⟨g,off,e,aj,_,_⟩:=h 0 cs rfl;rw [ha] at e;injection e with e;subst e;exact aj
theorem xO{M:List bV}{ops:Array Oper}{rest:List Oper}{o:Oper}{n:Nat}(ia:o.guard=none)(x y:Operand)(ho:o.op = .store T x y)(H:Mem w0 w M)(i:Nat)(hi:M[i]? = some (.box g T cs))(hx:a.eval x = .pointer (some ⟨g,0,.none⟩))(hy:a.eval y=v)(aN:(Tryz.prog.info? T).map (·.size)=some n)(hv:v.cells.toList=cs')(cp:cs'.length=n)(hl:cs.length=n)(h1:∀ u∈cs',u.oneCell'=true)(h:∀ w',Mem w0 w' (M.set i (.box g T cs'))->wpList Tryz.prog ops Q rest (a.put o.dst undef) w'):wpList Tryz.prog ops Q (o::rest) a w:=by
 refine NC (cs:=cs') ia x y ho hx hy aN hv cp (H.cells hi) (by simp [hl]) h1 fun m6 w' hc hs rH gj=>h w' (H.put i (.box g T cs') hi gj ⟨(H.Oj hi).1,?_⟩ (.inl rfl));have:m6=cs'.toArray:=by
  apply xx;rw [hc];simp [hl]
 rw [<- this];exact rH
theorem Mem.tail{e:bV}{M:List bV}(h:Mem w0 w (e::M)):Mem w0 w M:=h.sub (List.sublist_cons_self _ _)
end Go.Proofs.YtlpikgchnjajmaaGreat
