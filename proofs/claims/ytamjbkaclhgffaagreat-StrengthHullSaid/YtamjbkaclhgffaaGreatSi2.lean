/-
  Plain laws of frac's numbers: parts of lists of digits, comparisons, lengths.
-/
import Derived.Test.YtamjbkaclhgffaaGreatSi1
import Derived.RangeFuncFrom
import Derived.RangeFuncNested
import Derived.RangeFuncBound
import Derived.RangeFuncCalls
import Derived.RangeFuncLeaves
import Derived.Shelf.Abstract
import Derived.Shelf.RegionOpen
import Derived.OwnWalkIn
import Derived.TacticsInMore
import Derived.LoopNIn
import Derived.LoopIn
import Derived.Lib.SliceRun
import Derived.Laws.CopyOwn
import Derived.Deep.Cut
import Derived.LoopN
set_option linter.all false
set_option maxRecDepth 100000
set_option maxHeartbeats 4000000
namespace Go.Proofs.YtamjbkaclhgffaaGreat
open Go.RowKit
variable{a:Act}{ad:Addr}{aft:Array Edge}{ps:Array Tmp}{lb vs:Array Value}{b neg:Bool}{assign body:Code}{Q:Exit->Act->World->Prop}{m n z:Int}{css:List (List Value)}{l:List Nat}{cs cs':List Value}{B D E T T1 base c g gf i j p sz:Nat}{x y:Operand}{ρ:Operand->Value}{gd:Option (Nat×Bool)}{A:Option Addr}{d:Option Nat}{pos:String}{α β:Type}{e t t' ty:TypeId}{v:Value}{w w' w0 w1:World}
theorem akg{L o:List α}{m:Nat}{r : α}(ho:o.length=m)(hi:i<m)(OC:j+m<=L.length):(L.take j++o++L.drop (j+m)).set (j+i) r=L.take j++o.set i r++L.drop (j+m):=by
 have hl:(L.take j).length=j:=Ee oo;rw [fR,List.set_append,hl,aw oo,List.set_append,fR];have e:j+i - j=i:=oo
 rw [e,aC oo]
theorem akh{L o:List α}{m:Nat}(ho:o.length=m)(hi:i<m)(OC:j+m<=L.length):(L.take j++o++L.drop (j+m))[j+i]? = o[i]? := by
 have hl:(L.take j).length=j:=Ee oo;rw [fR,rq oo,hl,qj oo];congr 1;omega
theorem Xl(L:List α)(j m:Nat):L.take j++(L.drop j).take m++L.drop (j+m)=L:=by
 exact Xm
theorem aki{x:Nat}(h:aM x=1):bg ae x = [x]:=by
 have ah:=iE bT (n:=x) (k:=1) (vQ h);rw [Nat.pow_one] at ah;have h0:x≠0:=by
  intro h0;subst h0;cases h
 rw [rF bT h0,fF ah,l6 ah];rfl
theorem akj(x:Nat):bE ae ((bg ae x).take (min (aM x) 2))=x % 18446744073709551616:=by
 have hs:=IX ae (bg ae x) (min (aM x) 2);rw [uv bT] at hs;have hl:((bg ae x).take (min (aM x) 2)).length=min (aM x) 2:=by
  rw [cL];show min _ (aM x)=_
  omega
 have ah:=ur ((bg ae x).take (min (aM x) 2)) ((dr.bg bT x).take _);rw [hl] at hs ah;by_cases h:aM x<=2
 . have e:(bg ae x).drop (min (aM x) 2) = []:=by
    apply BV;show aM x<=_
    omega
   rw [e,ajD,Cb,jE] at hs;have:ae^min (aM x) 2<=ae^2:=zx (by decide) oo;have h2:ae^2=18446744073709551616:=by decide
   rw [<- hs,fF oo]
 . have e:min (aM x) 2=2:=oo
   rw [e] at hs ah ⊢;have h2:ae^2=18446744073709551616:=by decide
   rw [h2] at hs ah
   conv=>rhs; rw [hs]
   rw [zw,fF ah]
theorem I3{x y:Nat}(h:x<y):mV x y = -1:=by unfold mV; rw [aC h]
theorem I4{x y:Nat}(h:y<x):mV x y=1:=by unfold mV; rw [aw oo,aC h]
theorem OD(x:Nat):mV x x=0:=by unfold mV; rw [aw oo,aw oo]
theorem OE(hj:j<l.length):l.drop j=l.getD j 0::l.drop (j+1):=by
 rw [sP hj,aX,bc hj];rfl
theorem Xn{x y:Nat}(hl:aM x=aM y)(hj:j<aM x)(hd:(bg ae x).drop (j+1)=(bg ae y).drop (j+1))(ah:(bg ae x).getD j 0<(bg ae y).getD j 0):x<y:=by
 have I5:j<(bg ae y).length:=by
  have:j<aM y:=oo
  exact this
 have h:=ajK (B:=ae) (a:=bg ae x) (b:=bg ae y) (dr.bg bT x) hl hj (by
  rw [aX,bc hj,aX,bc I5] at ah;exact ah) hd
 rwa [uv bT,uv bT] at h
theorem akk{x:Nat}(h:aM x<=2):x<18446744073709551616:=by
 have:=iE bT (n:=x) (k:=2) h;have h2:ae^2=18446744073709551616:=by decide
 omega
theorem akl{y:Nat}(h:aM y=1):bg ae y = [y]/\0<y/\y<4294967296:=by
 have h1:y<ae^1:=iE bT (show aM y<=1 from oo);have hB:ae=4294967296:=rfl;have h2:y≠0:=by
  rintro rfl
  exact absurd h (by decide)
 rw [Nat.pow_one] at h1;refine⟨?_,oo,oo⟩;rw [rF bT h2,fF h1,l6 h1,uu bT]
theorem akm{L o:List α}{m:Nat}(ho:o.length=m)(hj:j<=L.length):(L.take j++o++L.drop (j+m)).take j=L.take j/\(L.take j++o++L.drop (j+m)).drop (j+m)=L.drop (j+m)/\((L.take j++o++L.drop (j+m)).drop j).take m=o:=by
 have hl:(L.take j).length=j:=Ee hj;refine⟨?_,?_,?_⟩
 . rw [fR,ai3 oo,Es,WO]
 . exact List.drop_left' (by simp [hl,ho])
 . rw [fR,List.drop_left' hl];exact WK ho
theorem OF(x:Nat):x<c7↔aM x<=8:=by
 rw [<- EH];constructor
 . exact fun h=>uw bT h
 . exact fun h=>iE bT h
theorem Xo{x y gc x1 y1:Nat}(hgc:gc=Nat.gcd x y)(xL:x1=x / gc)(EK:y1=y / gc):jX neg x y=if x1<c7/\y1<c7 then (⟨neg&&decide (x1≠0),x1,y1⟩,0) else (py,3):=by
 unfold jX;rw [xL,EK,hgc]
theorem gn{x:Nat}(h:x<c7):aM x<=8:=(OF x).1 h
theorem EM{x:Nat}:aM x=0↔x=0:=by
 constructor
 . intro h;rcases BX x with h1|h1
   . exact h1
   . have:0<aM x:=WX bT oo;omega
 . rintro rfl; rfl
def lenOf:Value->Nat
 | .slice _ n _=>n
 | _=>0
set_option maxHeartbeats 1000000 in
theorem Xp(A:Option Addr)(c n:Nat)(l:List Nat)(hn:n=l.length)(w:World)(h:Rd w w.heap.size 1 A (kY .u32 l))(hl:dr ae l)(hlen:l.length<=1000000000)(OG:l.length<=c) :
 Calls Tryz.prog 105 #[.slice A n c] w fun e w'=>e = .returned (.slice A (aM (bE ae l)) c)/\w'=w:=by
 subst hn
 go_enter Tryz.func105,Tryz.ntmps105
 go_wp2
 go_loop [0] (fun v=>∃ k:Nat,k<=l.length/\v = .slice A k c/\∀ d∈l.drop k,d=0) (fun v=>lenOf v)
 case atStart=>exact⟨l.length,aA _,rfl,by simp⟩
 case round =>
  obtain⟨k,hk,rfl,hz⟩:=hrel;have HZ:=aZ hz;clear hz;by_cases uz:k=0
  . subst uz;have HT:Hid (aM (bE ae l)=0):=by unfold Hid aM; rw [IY bT hl (bO _) HZ.out (.inl rfl)]; simp
    go_wp2
    go_ret
    exact⟨by rw [HT.out]; rfl,rfl⟩
  . obtain⟨j,rfl⟩:∃ j,k=j+1:=⟨k - 1,oo⟩
    obtain⟨b,off,rfl,hb,ki⟩:=ajV Tryz.underlying49 rfl h (show j<l.length from oo);have HL:=aZ (ki w (cu _ _));clear ki;by_cases xM:l[j]=0
    . have e0:((l[j]:Int)==0)=true:=by simp [xM]
      have hcj:¬ c<j:=oo
      go_wp2_with (first
       | ((with_reducible refine qq 49 ?_); (first|refine oD rfl _ _ rfl _ rfl _ HL.out ?_|refine WT rfl _ _ rfl _ rfl _ HL.out ?_)))
      go_round
      case rel =>
       refine⟨j,oo,by simp,fun d hd => ?_⟩;rw [sP (show j<l.length from oo)] at hd;rcases fM.1 hd with h1|h1
       . rw [h1,xM]
       . exact HZ.out d h1
      case measure=>simp [lenOf]
    . have HT:Hid (aM (bE ae l)=j+1):=by
       unfold Hid aM;rw [IY bT hl hk HZ.out (.inr ⟨j,rfl,by simp [show j<l.length from oo]; exact xM⟩)];simp;omega
      have e0:((l[j]:Int)==0)=false:=by simp [xM]
      go_wp2_with (first
       | ((with_reducible refine qq 49 ?_); (first|refine oD rfl _ _ rfl _ rfl _ HL.out ?_|refine WT rfl _ _ rfl _ rfl _ HL.out ?_)))
      go_ret
      exact⟨by rw [HT.out]; rfl,rfl⟩
theorem ako{a d:Nat}(ha:a<4294967296)(hd:d<4294967296):bits .or .u64 ((a:Int)*4294967296) (d:Int)=((a*4294967296+d:Nat):Int):=by
 have h:=bits_join .u64 64 (by decide) (fun n h0 h1=>wrap_u64 h0 h1) 32 ((a:Int)*4294967296) (d:Int) oo oo oo oo oo oo;rw [h];omega
def Xq(F:Fence)(n:Nat)(P:Program)(gf:Nat)(lb:Array Value)(encs : α->Array Value)(G:List α->World->Prop)(V:List α -> α->Prop)(S Sp:List α->Prop)(w0:World):Prop :=
 ∀ (l:Nat) (J Jx:List α->World->Prop) (W:World),Below w0.heap.size w0 W->(∀ pre W1,J pre W1->G pre W1) ->
  (∀ pre x W1,J pre W1->V pre x->YieldAt F (n - 1) P l (encs x) W1 fun e W2=>(e = .returned (.bool true)/\J (pre ++ [x]) W2)\/(e = .returned (.bool false)/\Jx (pre ++ [x]) W2)) ->
  J [] W->CallsIn F n P gf (#[.func (.yield l) #[] #[]]++lb) W fun e W2=>(∃ v,e = .returned v)/\((∃ xs,S xs/\J xs W2)\/(∃ pre,Sp pre/\Jx pre W2))
def Xr(I:List α->World->Prop)(Ix:Code->List α->World->Prop)(xs:List α)(W:World):Exit->Act->World->Prop:=fun e _ W2 =>
 KeepsOthers W W2/\match e with
  | .normal=>I xs W2
  | .ret=>Ix .ret xs W2
  | .exit id=>Ix (.exit id) xs W2
  | .goto t=>Ix (.goto t) xs W2
  | _=>False
section
variable{F:Fence}{n:Nat}{P:Program}{α:Type}
theorem akp{W:World}{fn:FuncId}{encs : α->Array Value}{I:List α->World->Prop}{Ix:Code->List α->World->Prop}{pre:List α}{x : α}(a₁ : α->Act){l:Nat}{r:Loop}(uA:F.fn fn)(hr:r = { state := .ready,pending:=none,fn:=fn,tmps:=a.tmps,params:=ps,assign:=assign,body:=body,defers:=D })(hB:B<=l)(I6:D≠l)(hI:OwnFrom B I)(Cn:∀ c,OwnFrom B (Ix c))(vW:(encs x).size=ps.size)(EN:∀ K:Act->World->Prop,K (a₁ x) W->assign.wpIn (F.inRound l) (n - 1 - 1) P (Exit.then K (fun _ _ _=>False)) { tmps:=(ps.zip (encs x)).foldl (fun t (p,v)=>t.setIfInBounds p v) a.tmps,defers := [] } W)(vX:∀ W1,I pre W1->body.wpIn (F.inRound l) (n - 1 - 1) P (Xr I Ix (pre ++ [x]) W1) (a₁ x) W1)(hi:I pre W)(hl:W.heap[l]? = some (.loop r))(hk:W.heap[D]? = some (.deferred (some []))) :
 YieldAt F (n - 1 - 1) P l (encs x) W fun e W2 =>
  (e = .returned (.bool true)/\I (pre ++ [x]) W2/\W2.heap[l]? = some (.loop r)/\W2.heap[D]? = some (.deferred (some []))) \/
  (e = .returned (.bool false)/\∃ c,Ix c (pre ++ [x]) W2/\W2.heap[l]? = some (.loop { r with state := .done,pending:=some c })/\W2.heap[D]? = some (.deferred (some []))):=by
 have ah:l<W.heap.size:=(jA.1 hl).1;have hy:=run_yield (P:=P) (args:=encs x) hl (by rw [hr]; exact vW);rw [hr] at hy;refine⟨fn,_,assign,body,hy,roundIn_of_wpIn uA (EN _ ⟨_,run_beginRound hl (by rw [hr]),?_⟩)⟩;have akq:(W.putObj l (.loop { r with state := .busy })).heap[l]? = some (.loop { r with state := .busy }):=World.putObj_heap_same ah;have OH:(W.putObj l (.loop { r with state := .busy })).heap[D]? = some (.deferred (some [])):=(World.putObj_heap_other I6).trans hk;refine wpIn_mono (vX _ (hI.putObj _ hi hB hl rfl)) fun e a2 W3 hp => ?_;obtain⟨gp,hp⟩:=hp;have oG:=gp.same _ _ akq rfl;have xN:=(jA.1 oG).1;have gG:=fun j:Option Code=>run_endRound (P:=P) j oG;have I7:∀ o,(W3.putObj l o).heap[D]? = some (.deferred (some [])):=fun o=>(World.putObj_heap_other I6).trans (gp.same _ _ OH rfl)
 cases e with
 | normal=>exact⟨_,_,gG none,.inl ⟨rfl,hI.putObj _ hp hB oG rfl,by rw [World.putObj_heap_same xN,hr]; rfl,I7 _⟩⟩
 | ret=>exact⟨_,_,gG (some .ret),.inr ⟨rfl,.ret,(Cn _).putObj _ hp hB oG rfl,by rw [World.putObj_heap_same xN]; rfl,I7 _⟩⟩
 | exit id=>exact⟨_,_,gG (some (.exit id)),.inr ⟨rfl,.exit id,(Cn _).putObj _ hp hB oG rfl,by rw [World.putObj_heap_same xN]; rfl,I7 _⟩⟩
 | goto t=>exact⟨_,_,gG (some (.goto t)),.inr ⟨rfl,.goto t,(Cn _).putObj _ hp hB oG rfl,by rw [World.putObj_heap_same xN]; rfl,I7 _⟩⟩
 | panic c=>exact hp.elim
 | outgrown=>exact hp.elim
theorem akr{g:Operand}(bt:F.round=none)(h1:1<=n)(hg:a.eval g = .func (.func gf) #[] lb)(OI:F.fn gf)(eg:∀ args W,(callFunc gf args).run P W = .ok (.enter gf args) W){encs : α->Array Value}{G:List α->World->Prop}{V:List α -> α->Prop}{S Sp:List α->Prop}(OJ:Xq F (n - 1) P gf lb encs G V S Sp w0)(jG:Below w0.heap.size w0 w)(vW:∀ x,(encs x).size=ps.size)(I:List α->World->Prop)(Ix:Code->List α->World->Prop)(hIG:∀ pre W,I pre W->G pre W)(hI:OwnFrom w.heap.size I)(Cn:∀ c,OwnFrom w.heap.size (Ix c))(h0:I [] w)(a₁ : α->Act)(EN:∀ (l:Nat) (x : α) (W:World) (K:Act->World->Prop),K (a₁ x) W->assign.wpIn (F.inRound l) (n - 1 - 1) P (Exit.then K (fun _ _ _=>False)) { tmps:=(ps.zip (encs x)).foldl (fun t (p,v)=>t.setIfInBounds p v) a.tmps,defers := [] } W)(vX:∀ (l:Nat) (pre:List α) (x : α) (W:World),I pre W->V pre x->body.wpIn (F.inRound l) (n - 1 - 1) P (Xr I Ix (pre ++ [x]) W) (a₁ x) W)(xO:∀ (D:Nat) (xs:List α) (W:World),w.heap.size<=D->S xs->I xs W->W.heap[D]? = some (.deferred (some []))->Q .normal { a with defers := { target := .collected D,args := #[] }::a.defers } W)(aks:∀ (D:Nat) (c:Code) (pre:List α) (W:World),w.heap.size<=D->Sp pre->Ix c pre W->W.heap[D]? = some (.deferred (some []))->c.wpIn F n P Q { a with defers := { target := .collected D,args := #[] }::a.defers } W) :
 (Code.rangeFunc g ps assign body).wpIn F n P Q a w:=by
 refine wpIn_rangeFunc fun fn uA => ?_;rw [bt];obtain⟨r,hr⟩:∃ r:Loop,r = { state := .ready,pending:=none,fn:=fn,tmps:=a.tmps,params:=ps,assign:=assign,body:=body,defers:=w.heap.size }:=⟨_,rfl⟩
 have vY:=run_enterLoop_outer (P:=P) (w:=w) fn a.tmps ps assign body;rw [<- hr] at vY;have mW:((w.alloc (.deferred (some []))).alloc (.loop r)).heap[w.heap.size+1]? = some (.loop r):=by
  have:=World.alloc_heap_new (w.alloc (.deferred (some []))) (.loop r);rwa [qk] at this
 have uz:((w.alloc (.deferred (some []))).alloc (.loop r)).heap[w.heap.size]? = some (.deferred (some [])):=(ql _ _ _ (by simp)).trans (World.alloc_heap_new w _);have sY:I [] ((w.alloc (.deferred (some []))).alloc (.loop r)):=hI.alloc _ (hI.alloc _ h0);have OK:Below w0.heap.size w0 ((w.alloc (.deferred (some []))).alloc (.loop r)):=jG.trans ((((cu _ w).alloc (aA _) _).alloc (by simp) _).mono jG.size);generalize (w.alloc (.deferred (some []))).alloc (.loop r)=W0 at *
 refine⟨w.heap.size+1,[{ target := .collected w.heap.size,args := #[] }],W0,{ target := .fn (.func gf) lb,args := #[.func (.yield (w.heap.size+1)) #[] #[]] },W0,gf,#[.func (.yield (w.heap.size+1)) #[] #[]]++lb,W0,vY,?_,?_,?_,fun _=>h1,?_⟩
 . simp only [resolve,hg];simp [go_sem]
 . intro f' oH;simp [Target.leads] at oH;rw [<- oH];exact OI
 . simp [invoke,go_sem,eg]
 . refine (OJ (w.heap.size+1) (fun pre W=>I pre W/\W.heap[w.heap.size+1]? = some (.loop r)/\W.heap[w.heap.size]? = some (.deferred (some [])))
    (fun pre W=>∃ c,Ix c pre W/\W.heap[w.heap.size+1]? = some (.loop { r with state := .done,pending:=some c })/\W.heap[w.heap.size]? = some (.deferred (some []))) W0 OK (fun pre W1 h=>hIG pre W1 h.1) ?_ ⟨sY,mW,uz⟩).mono ?_
   . rintro pre x W ⟨hi,hl,hk⟩ hv
     exact akp a₁ uA hr oo oo hI Cn (vW x) (EN _ x W) (fun W1 h=>vX _ pre x W1 h hv) hi hl hk
   . rintro e W2 ⟨⟨v,rfl⟩,⟨xs,hs,hi,hl,hk⟩|⟨pre,hs,c,hi,hl,hk⟩⟩
     . have OL:r.pending=none:=by rw [hr]
       have gT:=run_endLoop (P:=P) hl (by rw [hr]; simp);rw [OL] at gT;exact⟨none,_,gT,xO _ xs _ (aA _) hs (hI.putObj _ hi oo hl rfl) ((World.putObj_heap_other oo).trans hk)⟩
     . exact⟨some c,_,run_endLoop (P:=P) hl (by simp),aks _ c pre _ (aA _) hs ((Cn c).putObj _ hi oo hl rfl) ((World.putObj_heap_other oo).trans hk)⟩
end
open Go.Shelf
attribute [local go_sem] Oper.semAt_some
def akt(Bs:Nat)(A:Option Addr)(len cap:Nat)(l:List Nat)(k:Nat)(W:World):Prop :=
 W.cell? ⟨Bs,0,none⟩=some (.slice A len cap)/\∀ j,j+k+1=len->∃ b off,A=some ⟨b,off,none⟩/\W.cell? ⟨b,off+j,none⟩=some (.int .u32 (l.getD j 0:Nat))
def EO(l:List Nat)(len k:Nat):Nat×Nat:=(len - 1 - k,l.getD (len - 1 - k) 0)
def I8(x:Nat×Nat):Array Value := #[Value.int .i64 (x.1:Int),Value.int .u32 (x.2:Int)]
set_option maxHeartbeats 2000000 in
theorem aku(F:Fence)(n:Nat)(h1:F.fn 244)(bt:F.round=none)(hn:1<=n)(Bs len cap:Nat)(A:Option Addr)(l:List Nat)(azp:len<=1000)(w0:World) :
 Xq F n Tryz.prog 244 #[.pointer (some ⟨Bs,0,none⟩)] I8 (fun pre W=>akt Bs A len cap l pre.length W) (fun pre x=>pre.length<len/\x=EO l len pre.length) (fun xs=>xs.length=len) (fun _=>True) w0:=fun lp J Jx W hW hG hY h0=>by
 refine callsIn_of_wp Tryz.func244 rfl h1 ?_ bt;simp only [Tryz.ntmps244,xz,cB,ej,Nat.reduceAdd,Nat.reduceSub,NU,NT,NZ,NX,pt,kW];have OM:=(hG _ _ h0).1
 gi_wp2
 gi_loopw [3] (fun i wr=>∃ pre:List (Nat×Nat),pre.length<=len/\i = .int .i64 ((len:Int) - 1 - pre.length)/\J pre wr)
  (fun i _=>(intOf i+1).toNat)
 case atStart=>exact⟨[],bO _,by simp,h0⟩
 case round =>
  obtain⟨pre,hk,rfl,ON⟩:=hrel;obtain⟨uB,gT⟩:=hG _ _ ON;by_cases ah:pre.length<len
  . obtain⟨j,hj⟩:∃ j,j+pre.length+1=len:=⟨len - 1 - pre.length,oo⟩
    obtain⟨b,off,rfl,Xs⟩:=gT j hj;obtain⟨fn,tmps,assign,body,hy,hR⟩:=hY _ (EO l len pre.length) wr ON ⟨ah,rfl⟩;have e1:len - 1 - pre.length=j:=oo
    have e2:(len:Int) - 1 - pre.length=(j:Int):=oo
    unfold I8 EO at hy;rw [e1] at hy;rw [e2];dsimp only at hy;have eZ:j<len:=oo
    obtain⟨d,hd⟩:∃ d,d=l.getD j 0:=⟨_,rfl⟩
    rw [<- hd] at hy Xs;clear gT hd e1 e2 hG hY h0
    gi_wp2
    refine hR.mono ?_
    rintro e W3 (⟨rfl,I9⟩|⟨rfl,Xt⟩)
    . gi_wp2
      go_roundw
      case rel=>exact⟨pre ++ [EO l len pre.length],by simp<;>omega,by simp<;>omega,I9⟩
      case measure=>simp [intOf]<;>omega
    . gi_wp2
      exact Xu
  . have e2:(len:Int) - 1 - pre.length = -1:=oo
    rw [e2]
    gi_wp2
    go_end0
    exact⟨⟨_,rfl⟩,.inl ⟨_,oo,ON⟩⟩
set_option maxHeartbeats 1000000 in
theorem akv(F:Fence)(n:Nat)(h5:F.fn 208)(bt:F.round=none)(a:Option Addr)(len cap:Nat)(w:World) :
 CallsIn F n Tryz.prog 208 #[.slice a len cap] w fun e w'=>e = .returned (.func (.func 244) #[] #[.pointer (some ⟨w.heap.size,0,none⟩)])/\w'=w.alloc (.cells #[.slice a len cap] 114):=by
 refine callsIn_of_wp Tryz.func208 rfl h5 ?_ bt;simp only [Tryz.ntmps208,xz,cB,ej,Nat.reduceAdd,Nat.reduceSub,NU,NT,NZ,NX,pt,kW]
 gi_wp2
 go_ret
 exact⟨rfl,rfl⟩
open Go.RowKit
def sZ(k:IntKind)(l:List Nat):List Value:=l.map fun (n:Nat)=>Value.int k (n:Int)
def Co(w:World)(g E:Nat)(k:IntKind)(l:List Nat):Prop:=∃ rest:List Value,w.heap[g]? = some (.cells (sZ k l++rest).toArray E (0,0))
theorem EP(k:IntKind)(l:List Nat):(sZ k l).length=l.length:=by simp [sZ]
theorem akw{k:IntKind}(h:i<l.length):(sZ k l)[i]? = some (.int k (l[i]:Int)):=by simp [sZ,h]
theorem Co.cell{k:IntKind}(h:Co w g E k l)(hi:i<l.length):w.cell? ⟨g,i,none⟩=some (.int k (l[i]:Int)):=by
 obtain⟨r,h⟩:=h;have:=zD w g i _ _ _ h;rw [this];rw [Ec,qj (by rw [EP]; exact hi),akw hi]
theorem Co.frozen{k:IntKind}(h:Co w g E k l)(i:Nat):w.frozen? ⟨g,i,none⟩=false:=by
 obtain⟨r,h⟩:=h;simp [World.frozen?,h]
theorem heap_setCell{b:Nat}{c:Array Value}{fr:Nat×Nat}(h:w.heap[b]? = some (.cells c t fr))(i:Nat)(u:Value):(w.setCell ⟨b,i,none⟩ u).heap[b]? = some (.cells (c.setIfInBounds i u) t fr):=by
 have ah:=lt_of_block h;have h':w.heap[b] = .cells c t fr:=by simpa [po ah] using h
 show (w.heap.modify b _)[b]? = _
 rw [po Ch,Array.getElem_modify_self,h'];rfl
theorem cw.Xv(w:World)(base e size:Nat)(hb:base<=w.heap.size):cw (w.alloc (.cells #[] e)) base e size (some ⟨w.heap.size,0,none⟩) 0 [] :=
 ⟨⟨by simp,.inr ⟨w.heap.size,0,#[],rfl,hb,rA w _,aA _,bO _,by simp,by simp⟩⟩,by simp⟩
structure aJ where
 id:Int
 num:ByteArray
 size:Int
 high:Bool
 aq:Int
 load:Int
 km:Int
 cls:Int
 vZ:Bool
deriving DecidableEq
def aJ.cells(b:aJ):List Value := [.int .i64 b.id,.string b.num,.int .u8 b.size,.bool b.high,.int .i64 b.aq,.int .i64 b.load,.int .i64 b.km,.int .u8 b.cls,.bool b.vZ]
abbrev aJ.val(b:aJ):Value := .agg #[.int .i64 b.id,.string b.num,.int .u8 b.size,.bool b.high,.int .i64 b.aq,.int .i64 b.load,.int .i64 b.km,.int .u8 b.cls,.bool b.vZ]
structure az where
 box:Int
 au:Int
 aH:Int
 half:Int
deriving DecidableEq
def az.cells(b:az):List Value := [.int .i64 b.box,.int .i64 b.au,.int .i64 b.aH,.int .u8 b.half]
theorem az.one(b:az):∀ u∈b.cells,u.oneCell'=true:=by simp [az.cells,Value.oneCell']
theorem az.OO(l:List az):∀ cs∈l.map az.cells,∀ u∈cs,u.oneCell'=true:=by
 intro cs h;obtain⟨b,_,rfl⟩:=gi.1 h;exact b.one
theorem az.ei:EI Tryz.prog 34 125 4 32:=EI.mk (z := .agg #[.int .i64 0,.int .i64 0,.int .i64 0,.int .u8 0]) Tryz.underlying34 (by kernel_rfl) rfl oo
structure Slot where
 au:Int
 aH:Int
 half:Int
deriving DecidableEq
def Slot.cells(b:Slot):List Value := [.int .i64 b.au,.int .i64 b.aH,.int .u8 b.half]
abbrev Slot.val(b:Slot):Value := .agg #[.int .i64 b.au,.int .i64 b.aH,.int .u8 b.half]
theorem Slot.row:vU Tryz.prog 123 3:=⟨_,Tryz.underlying123,by kernel_rfl,by kernel_rfl⟩
theorem Slot.ei:EI Tryz.prog 209 123 3 24:=EI.mk (z := .agg #[.int .i64 0,.int .i64 0,.int .u8 0]) Tryz.underlying209 (by kernel_rfl) rfl oo
structure Ld where
 aq:Int
 x:Int
 y:Int
 z:Int
deriving DecidableEq
def Ld.cells(b:Ld):List Value := [.int .i64 b.aq,.int .i64 b.x,.int .i64 b.y,.int .i64 b.z]
abbrev Ld.val(b:Ld):Value := .agg #[.int .i64 b.aq,.int .i64 b.x,.int .i64 b.y,.int .i64 b.z]
theorem Ld.len(b:Ld):b.cells.length=4:=rfl
theorem Ld.one(b:Ld):∀ u∈b.cells,u.oneCell'=true:=by simp [Ld.cells,Value.oneCell']
theorem Ld.row:vU Tryz.prog 73 4:=⟨_,Tryz.underlying73,by kernel_rfl,by kernel_rfl⟩
theorem Ld.ld(h:Rd w B 4 A css){k:Nat}{b:Ld}(hk:css[k]? = some b.cells) :
 ∃ g off,A=some ⟨g,off,none⟩/\g<B/\∀ w',Below B w w'->(loadVar 73 ⟨g,off+k*4,none⟩).run Tryz.prog w' = .ok b.val w':=h.ld Ld.row hk
structure wa where
 n:Int
 low:Int
 high:Int
deriving DecidableEq
structure pz where
 box:aJ
 x:Int
 y:Int
 h:Int
deriving DecidableEq
theorem OP(f : α -> β)(l:List α)(k:Nat)(h:k<l.length):(l.map f)[k]? = some (f l[k]):=by simp [h]
set_option maxHeartbeats 1000000 in
theorem akx(A:Option Addr)(c:Nat)(l:List Ld)(n:Nat)(hn:n=l.length)(fn:FuncId)(dH:Array Value)(p:Ld->Bool)(w:World)(hA:Rd w w.heap.size 4 A (l.map Ld.cells))(hl:l.length<=1000000000000)(s7:∀ w args,(callFunc fn args).run Tryz.prog w = .ok (.enter fn args) w)(hf:WU Tryz.prog w fn dH Ld.val p l) :
 Calls Tryz.prog 121 #[.slice A n c,.func (.func fn) #[] dH] w fun e w'=>e = .returned (.int .i64 (idx p l))/\Below w.heap.size w w':=by
 subst hn
 go_enter Tryz.func121,Tryz.ntmps121
 go_wp2
 have HF:=aZ hf;clear hf
 go_loopw [5,8] (fun _ i wr=>∃ k:Nat,k<=l.length/\i = .int .i64 k/\(∀ j,(h:j<k)->(h2:j<l.length)->p l[j]=false)/\Below w.heap.size w wr) (fun _ i _=>l.length - (intOf i).toNat)
 case atStart=>exact⟨0,oo,rfl,oo,cu _ _⟩
 case round =>
  obtain⟨k,hk,rfl,hj,hb⟩:=hrel;have HJ:=aZ hj;clear hj;by_cases ah:k<l.length
  . obtain⟨b,off,rfl,c8,ki⟩:=Ld.ld hA (OP Ld.cells l k ah);have HL:=aZ ki;clear ki
    go_wp2_with (first
     | (refine oD rfl _ _ rfl _ rfl _ (HL.out _ hb) ?_)
     | (refine (HF.out l[k] (iT ah) _ hb).mono ?_; rintro e w' ⟨rfl,nL⟩))
    . have ht:p l[k]=true:=by assumption
      go_ret
      exact⟨by rw [Oh ah (fun j h=>HJ.out j h oo) ht]; rfl,hb.trans (nL.mono hb.size)⟩
    . have oH:p l[k]=false:=by assumption
      go_roundw
      case rel =>
       refine⟨k+1,oo,by go_num,fun j h h2 => ?_,hb.trans (nL.mono hb.size)⟩;rcases b9 j k with h3|h3
       . exact HJ.out j h3 h2
       . obtain rfl:j=k:=oo
         exact oH
      case measure=>simp [intOf]; omega
  . obtain rfl:k=l.length:=oo
    have HI:=aZ (Oi (fun j h=>HJ.out j h h))
    go_wp2
    go_ret
    exact⟨by rw [HI.out]; rfl,hb⟩
theorem Xw(p : α->Bool)(l:List α):l.any p=decide (0<=idx p l):=by
 rcases Oj p l with ⟨h1,h2⟩|⟨k,hk,h1,h2,_⟩
 . have h3:l.any p=false:=by
    rw [zz];intro x hx;simp [h2 x hx]
   rw [h1,h3];rfl
 . have h3:l.any p=true:=by
    rw [N4];exact⟨_,iT hk,h2⟩
   rw [h1,h3];simp
theorem aky(A:Option Addr)(c:Nat)(l:List Ld)(n:Nat)(hn:n=l.length)(fn:FuncId)(dH:Array Value)(p:Ld->Bool)(w:World)(hA:Rd w w.heap.size 4 A (l.map Ld.cells))(hl:l.length<=1000000000000)(s7:∀ w args,(callFunc fn args).run Tryz.prog w = .ok (.enter fn args) w)(hf:WU Tryz.prog w fn dH Ld.val p l) :
 Calls Tryz.prog 56 #[.slice A n c,.func (.func fn) #[] dH] w fun e w'=>e = .returned (.bool (l.any p))/\Below w.heap.size w w':=by
 have HI:=aZ (akx A c l n hn fn dH p w hA hl s7 hf);rw [Xw];generalize idx p l=z at HI ⊢;clear hA hn hl s7 hf
 go_enter Tryz.func56,Tryz.ntmps56
 go_wp2_with (go_at_call 121; refine (HI.out).mono ?_; rintro e w2 ⟨rfl,eP⟩)
 go_ret
 exact⟨by first|rfl|simp,eP⟩
structure ar where
 x:Int
 ch:Int
 share:Int
 cM:Int
 cy:Int
deriving DecidableEq
structure Wt where
 x:Int
 aq:Int
deriving DecidableEq
structure ak where
 a0:Int
 a1:Int
 a2:Int
 a3:Int
 a4:Int
 a5:Int
deriving DecidableEq
def ak.add(a b:ak):ak:=⟨a.a0+b.a0,a.a1+b.a1,a.a2+b.a2,a.a3+b.a3,a.a4+b.a4,a.a5+b.a5⟩
def ak.zero:ak:=⟨0,0,0,0,0,0⟩
def lJ(u:Wt):Bool := !decide (0<=u.aq/\u.aq<=500000000)
def j3:ByteArray:=⟨#[]⟩
structure dv where
 cX:Int
 row:Int
 fl:Bool
 cY:Int
 ma:Int
 xP:Int
 xQ:Int
 xR:Int
 fT:List Int
 x:Int
 y:Int
 z:Int
deriving DecidableEq
structure lK where
 cX:Int
 rows:List Int
deriving DecidableEq
structure zL where
 akz:Int
 aq:Int
 akA:Int
 mc:Int
 uC:Int
deriving DecidableEq
structure dR where
 aq:Int
 x:Int
 y:Int
 z:Int
 wb:Int
 steps:List Int
deriving DecidableEq
structure Xx where
 cX:Int
 row:Int
 fl:Bool
 cY:Int
 ma:Int
 xP:Int
 xQ:Int
 xR:Int
 fT:List Int
 Xy:Nat
 x:Int
 y:Int
 z:Int
deriving DecidableEq
structure Xz where
 cX:Int
 rows:List Int
 XA:Nat
deriving DecidableEq
structure XB where
 aq:Int
 x:Int
 y:Int
 z:Int
 wb:Int
 steps:List Int
 XC:Nat
deriving DecidableEq
structure iV where
 cX:Int
 row:Int
 cY:Int
 fl:Bool
deriving DecidableEq
structure iW where
 au:Int
 aq:Int
 small:Bool
 high:Bool
deriving DecidableEq
structure XD where
 aq:Int
 x:Int
 y:Int
 z:Int
deriving DecidableEq
structure bB where
 neg:Bool
 n0:Int
 n1:Int
 n2:Int
 n3:Int
 n4:Int
 n5:Int
 n6:Int
 n7:Int
 d0:Int
 d1:Int
 d2:Int
 d3:Int
 d4:Int
 d5:Int
 d6:Int
 d7:Int
deriving DecidableEq
structure mb where
 cM:bB
 cy:bB
deriving DecidableEq
structure j4 where
 aq:Int
 steps:Int
 x:Int
 y:Int
 z:Int
 xS:Int
deriving DecidableEq
structure iX where
 step:Int
 ch:Int
 at_:Int
 aq:Int
 share:Int
deriving DecidableEq
inductive Tc where
 | int|u8|u32|box|al|slot|ld|pA|au|eQ|mid|fU|bZ|di|xT|xU|xV|fp|gq|Cp|wx|qw|kZ|cr|iF|j5
deriving DecidableEq
abbrev Tc.el:Tc->Type
 | .int=>Int
 | .u8=>Int
 | .u32=>Int
 | .box=>aJ
 | .al=>az
 | .slot=>Slot
 | .ld=>Ld
 | .pA=>wa
 | .au=>dv
 | .eQ=>lK
 | .mid=>pz
 | .fU=>zL
 | .bZ=>ar
 | .di=>dR
 | .xT=>Xx
 | .xU=>Xz
 | .xV=>XB
 | .fp=>iV
 | .gq=>iW
 | .Cp=>XD
 | .wx=>Wt
 | .qw=>ak
 | .kZ=>bB
 | .cr=>mb
 | .iF=>j4
 | .j5=>iX
def Tc.size:Tc->Nat
 | .int=>1
 | .u8=>1
 | .u32=>1
 | .box=>9
 | .al=>4
 | .slot=>3
 | .ld=>4
 | .pA=>3
 | .au=>12
 | .eQ=>2
 | .mid=>12
 | .fU=>5
 | .bZ=>5
 | .di=>6
 | .xT=>12
 | .xU=>2
 | .xV=>6
 | .fp=>4
 | .gq=>4
 | .Cp=>4
 | .wx=>2
 | .qw=>6
 | .kZ=>17
 | .cr=>34
 | .iF=>6
 | .j5=>5
def Tc.aa:(t:Tc)->t.el
 | .int=>(0:Int)
 | .u8=>(0:Int)
 | .u32=>(0:Int)
 | .box=>(⟨0,j3,0,false,0,0,0,0,false⟩:aJ)
 | .al=>(⟨0,0,0,0⟩:az)
 | .slot=>(⟨0,0,0⟩:Slot)
 | .ld=>(⟨0,0,0,0⟩:Ld)
 | .pA=>(⟨0,0,0⟩:wa)
 | .au=>(⟨0,0,false,0,0,0,0,0,[],0,0,0⟩:dv)
 | .eQ=>(⟨0,[]⟩:lK)
 | .mid=>(⟨⟨0,j3,0,false,0,0,0,0,false⟩,0,0,0⟩:pz)
 | .fU=>(⟨0,0,0,0,0⟩:zL)
 | .bZ=>(⟨0,0,0,0,0⟩:ar)
 | .di=>(⟨0,0,0,0,0,[]⟩:dR)
 | .xT=>(⟨0,0,false,0,0,0,0,0,[],0,0,0,0⟩:Xx)
 | .xU=>(⟨0,[],0⟩:Xz)
 | .xV=>(⟨0,0,0,0,0,[],0⟩:XB)
 | .fp=>(⟨0,0,0,false⟩:iV)
 | .gq=>(⟨0,0,false,false⟩:iW)
 | .Cp=>(⟨0,0,0,0⟩:XD)
 | .wx=>(⟨0,0⟩:Wt)
 | .qw=>(⟨0,0,0,0,0,0⟩:ak)
 | .kZ=>(⟨false,0,0,0,0,0,0,0,0,0,0,0,0,0,0,0,0⟩:bB)
 | .cr=>(⟨⟨false,0,0,0,0,0,0,0,0,0,0,0,0,0,0,0,0⟩,⟨false,0,0,0,0,0,0,0,0,0,0,0,0,0,0,0,0⟩⟩:mb)
 | .iF=>(⟨0,0,0,0,0,0⟩:j4)
 | .j5=>(⟨0,0,0,0,0⟩:iX)
open Go.RowKit
theorem akB{P:Program}{T:TypeId}(hx : ρ x = .pointer (some ad))(h:(loadVar T ad).run P w = .ok v w) :
 (execOp ρ ⟨d,.load T x,ty,pos,aft,gd⟩).run P w = .ok (.value v) w:=by
 unfold execOp;simp only [hx,Instr.loadAt,Instr.sureAddr,bp,bL,bI,h]
theorem XE{P:Program}(hx : ρ x=v):(execOp ρ ⟨d,.move x,ty,pos,aft,gd⟩).run P w = .ok (.value v) w:=by
 subst hx; rfl
theorem XF{P:Program}(hx : ρ x=v):(execOp ρ ⟨d,.assign x,ty,pos,aft,gd⟩).run P w = .ok (.value v) w:=by
 subst hx; rfl
section
variable{P:Program}{ρ:Operand->Value}{d:Option Nat}{ty:TypeId}{pos:String}{aft:Array Edge}{gd:Option (Nat×Bool)}{v:Value}{w:World}
def Ja(P:Program)(s f:Nat):Option Nat :=
 match P.underlying s with
 | some (.struct fs)=>match fs[f]? with
  | some fd=>match P.info? fd.type with
   | some i=>if i.size=0 then none else some fd.offset
   | none=>none
  | none=>none
 | _=>none
theorem ER(b o n:Nat):(⟨b,o,none⟩:Addr).add n=⟨b,o+n,none⟩:=by
 unfold Addr.add;split
 . rename_i h; subst h; rfl
 . rfl
theorem XG{f k b o:Nat}(hx : ρ x = .pointer (some ⟨b,o,none⟩))(hf:Ja P T f=some k)(hv:v = .pointer (some ⟨b,o+k,none⟩)):(execOp ρ ⟨d,.fieldAddr T x f,ty,pos,aft,gd⟩).run P w = .ok (.value v) w:=by
 subst hv;unfold Ja at hf;split at hf
 . rename_i fs ir;split at hf
   . rename_i fd hfd;split at hf
     . rename_i i hi;split at hf
       . cases hf
       . rename_i aO;injection hf with hf;subst hf;unfold execOp;simp only [hx,Instr.fieldAt,underlying,bp,bL,bI,ir,mR];simp only [hfd,Instr.sureAddr,fieldPlace,sizeOf,typeInfo,bp,bL,bI,mR,hi,aO,dw,ER]
     . cases hf
   . cases hf
 . cases hf
def elemOf(P:Program)(t:Nat):Option (Nat×Nat) :=
 match P.underlying t with
 | some (.slice e)=>(P.info? e).map fun i=>(e,i.size)
 | _=>none
theorem XH{t e:Nat}(h:elemOf P t=some (e,sz)):P.underlying t=some (.slice e)/\∃ i,P.info? e=some i/\i.size=sz:=by
 unfold elemOf at h;split at h
 . rename_i e' he
   cases hi:P.info? e' with
   | none=>rw [hi] at h; cases h
   | some i=>rw [hi] at h; simp only [du,bF,sU] at h; obtain⟨rfl,rfl⟩:=h; exact⟨he,i,hi,rfl⟩
 . cases h
theorem OQ{t e k n b o:Nat}{kk:IntKind}(hx : ρ x = .slice (some ⟨b,o,none⟩) n c)(hy : ρ y = .int kk (k:Int))(he:elemOf P t=some (e,sz))(hk:(k:Int)<(n:Int))(hv:v = .pointer (some ⟨b,o+k*sz,none⟩)):(execOp ρ ⟨d,.indexAddr t x y,ty,pos,aft,gd⟩).run P w = .ok (.value v) w:=by
 subst hv;obtain⟨h1,i,h2,rfl⟩:=XH he;have h3:0<=(k:Int)/\(k:Int)<(n:Int):=⟨oo,hk⟩
 unfold execOp;simp only [hx,hy,Instr.indexAt,asIntOf,underlying,bp,bL,bI,h1,mR];simp only [h3,IS,eO,sizeOf,typeInfo,bp,bL,bI,mR,h2,fE,ER]
theorem akD{t n:Nat}(hx : ρ x = .slice A n c)(ht:P.underlying t=some (.slice e))(hv:v = .int .i64 (n:Int)):(execOp ρ ⟨d,.call { callee := .builtin .len,args := #[x],argTypes := #[t] },ty,pos,aft,gd⟩).run P w = .ok (.value v) w:=by
 subst hv;exact XI
theorem XJ(hx : ρ x = .tuple vs)(hv:vs[i]? = some v):(execOp ρ ⟨d,.extract x i,ty,pos,aft,gd⟩).run P w = .ok (.value v) w:=by
 unfold execOp;simp only [hx,Instr.extract,hv,bp,bL,bI]
theorem OR{c:Operand}(hc : ρ c = .bool b)(hv:(if b then ρ x else ρ y)=v):(execOp ρ ⟨d,.pick c x y,ty,pos,aft,gd⟩).run P w = .ok (.value v) w:=by
 unfold execOp;simp only [hc,asBool,bp,bL,bI,hv]
theorem Jb(hx : ρ x = .bool b)(hv:v = .bool (!b)):(execOp ρ ⟨d,.unOp .not t x,ty,pos,aft,gd⟩).run P w = .ok (.value v) w:=by
 subst hv;unfold execOp;simp only [hx,Op.unary,bp,bL,bI]
theorem Jc{k:IntKind}(hx : ρ x = .int k m)(hy : ρ y = .int k n)(hz:k.wrap (m+n)=z)(hv:v = .int k z):(execOp ρ ⟨d,.binOp .add t x y t',ty,pos,aft,gd⟩).run P w = .ok (.value v) w:=by
 exact OS
theorem Jd{k:IntKind}(hx : ρ x = .int k m)(hy : ρ y = .int k n)(hz:k.wrap (m - n)=z)(hv:v = .int k z):(execOp ρ ⟨d,.binOp .sub t x y t',ty,pos,aft,gd⟩).run P w = .ok (.value v) w:=by
 exact OS
theorem Je{k:IntKind}(hx : ρ x = .int k m)(hy : ρ y = .int k n)(hz:k.wrap (m*n)=z)(hv:v = .int k z):(execOp ρ ⟨d,.binOp .mul t x y t',ty,pos,aft,gd⟩).run P w = .ok (.value v) w:=by
 exact OS
def XK(op:BinOp)(m n:Int):Option Bool :=
 match op with
 | .eql=>some (m==n)
 | .neq=>some (m != n)
 | .lss=>some (decide (m<n))
 | .leq=>some (decide (m<=n))
 | .gtr=>some (decide (m>n))
 | .geq=>some (decide (m≥n))
 | _=>none
theorem zM{op:BinOp}{k:IntKind}(hx : ρ x = .int k m)(hy : ρ y = .int k n)(hb:XK op m n=some b)(hv:v = .bool b):(execOp ρ ⟨d,.binOp op t x y t',ty,pos,aft,gd⟩).run P w = .ok (.value v) w:=by
 subst hv;cases op<;>simp only [XK] at hb<;>cases hb
 all_goals
  unfold execOp;simp only [hx,hy,eqGuard,binOp,Op.intCmp,ne_eq,Eb,dw,bp,bL];rfl
end
def zB(l:List Oper)(np:Nat)(Z:List Nat):Bool:=Z.all fun i=>decide (i<np)&&match l[i]? with|some o=>o.after.all fun e => !Region.binds .any e|none=>true
inductive St where
 | val (v:Value)
 | call (v:Value)
 | new (R:Value->World->Prop)
 | dep (R:Value->World->Prop)
 | skip
def qx(l:List Oper)(s:Nat):Nat->Option Nat
 | 0=>none
 | i+1=>if ((l[i]?).bind (·.dst))==some s then some i else qx l s i
theorem Jf{l:List Oper}{s:Nat}:∀ {i j:Nat},qx l s i=some j->j<i/\∃ o,l[j]? = some o/\o.dst=some s
 | 0,_,h=>by cases h
 | i+1,j,h=>by
  unfold qx at h;split at h
  . rename_i hb;injection h with h;subst h;have h1:=eq_of_beq hb
    cases ho:l[i]? with
    | none=>rw [ho] at h1; cases h1
    | some o=>rw [ho] at h1; exact⟨oo,o,rfl,h1⟩
  . obtain⟨h1,h2⟩:=Jf h;exact⟨oo,h2⟩
def azq(l:List Oper)(S:List St)(a0:Act)(i:Nat):Operand->St
 | .tmp s=>match qx l s i with
  | some j=>S.getD j .skip
  | none => .val (a0.tmps.getD s undef)
 | x => .val (a0.eval x)
def OT(l:List Oper)(np i:Nat)(o:Oper)(s:Nat):Bool :=
 match qx l s i with
 | some j=>o.after.any fun e=>Region.binds .any e&&e.on==j
 | none=>(List.range np).all fun k=>match l[k]? with
  | some ok=>ok.dst != some s||ok.after.any fun e=>Region.binds .any e&&e.on==i
  | none=>true
def OU:Op->Bool
 | .select _ _=>true
 | _=>false
def akE(P:Program)(ρ:Operand->Value)(o:Oper)(w:World)(R:Value->World->Prop):Prop :=
 (∃ v w',(execOp ρ o).run P w = .ok (.value v) w'/\cW w w'/\R v w') \/
 ∃ f args,(execOp ρ o).run P w = .ok (.enter f args) w/\Calls P f args w fun e w'=>∃ v,e = .returned v/\cW w w'/\R v w'
theorem akF{e size:Nat}(h:w.heap[g]? = some (.cells cs.toArray e (0,0)))(hl:cs.length=size)(hb:base<=g):cw w base e size (some ⟨g,0,none⟩) 1 [cs] :=
 ⟨⟨by simp [hl],.inr ⟨g,1,cs.toArray,rfl,hb,h,aA _,by unfold maxLen; omega,by simp [hl],by simp; exact jC oo⟩⟩,by intro c hc; rw [jD] at hc; subst hc; exact hl⟩
theorem akG{size:Nat}(hT:vU Tryz.prog T size)(h:cw w base T size (some ⟨g,0,none⟩) c css)(hi:css[i]? = some cs)(hp:p=i*size):∀ w1,cW w w1->(loadVar T ⟨g,p,none⟩).run Tryz.prog w1 = .ok (.agg cs.toArray) w1:=by
 intro w1 hb;subst hp;obtain⟨b,off,e,_,hl⟩:=h.rd.ld hT hi;simp only [bF,Addr.mk.injEq,bn] at e;obtain⟨rfl,rfl⟩:=e;have h1:=hl w1 hb;rw [gC] at h1;exact h1
theorem OV(A:Option Addr)(n c:Nat):Value.ownBlock (.slice A n c)=A.map (·.block):=by cases A<;>rfl
inductive bP where
 | row (T size:Nat) (A:Option Addr) (c:Nat) (css:List (List Value))
 | box (g T:Nat) (cs:List Value)
 | ro (size:Nat) (A:Option Addr) (css:List (List Value))
def bP.ok(w:World)(base:Nat):bP->Prop
 | .row T size A c css=>cw w base T size A c css
 | .box g T cs=>base<=g/\w.heap[g]? = some (.cells cs.toArray T (0,0))
 | .ro size A css=>Rd w w.heap.size size A css/\∀ a,A=some a->base<=a.block/\a.block<w.heap.size
def bP.b8:bP->Option Nat
 | .row _ _ A _ _=>A.map (·.block)
 | .box g _ _=>some g
 | .ro _ A _=>A.map (·.block)
theorem bP.lt{b:Nat}{e:bP}(h:e.ok w base)(hb:e.b8=some b):base<=b/\b<w.heap.size:=by
 cases e with
 | row T size A c css =>
  obtain⟨a,ha,rfl⟩:=kS.1 hb;exact cw.lt h ha
 | box g T cs =>
  injection hb with hb;subst hb;exact⟨h.1,(jA.1 h.2).1⟩
 | ro size A css =>
  obtain⟨a,ha,rfl⟩:=kS.1 hb;exact h.2 a ha
theorem Jg(h:w'.heap[g]? = w.heap[g]?):w'.cell? ⟨g,p,.none⟩=w.cell? ⟨g,p,.none⟩:=by simp only [World.cell?,h]
theorem Rd.jF{size:Nat}(h:Rd w w.heap.size size A css)(hk:∀ a,A=some a->w'.heap[a.block]? = w.heap[a.block]?):Rd w' w'.heap.size size A css:=by
 intro k cs mX;obtain⟨g,off,e,ah,hl,hc⟩:=h k cs mX;have h1:=hk _ e;have Jh:g<w'.heap.size:=by
  rcases b9 g w'.heap.size with h2|h2
  . exact h2
  . rw [Ef h2,po ah] at h1;cases h1
 exact⟨g,off,e,Jh,hl,fun j u hu=>by rw [Jg h1]; exact hc j u hu⟩
theorem bP.jF{e:bP}(h:e.ok w base)(hk:∀ b,e.b8=some b->w'.heap[b]? = w.heap[b]?):e.ok w' base:=by
 cases e with
 | ro size A css =>
  refine⟨Rd.jF h.1 fun a ha=>hk _ (by simp [bP.b8,ha]),fun a ha=>⟨(h.2 a ha).1,?_⟩⟩;have h1:=hk a.block (by simp [bP.b8,ha]);rcases b9 a.block w'.heap.size with h2|h2
  . exact h2
  . rw [Ef h2,po (h.2 a ha).2] at h1;cases h1
 | row T size A c css=>exact cw.jF h fun a ha=>hk _ (by simp [bP.b8,ha])
 | box g T cs=>exact⟨h.1,(hk g rfl).trans h.2⟩
theorem bP.less{b:Nat}{e:bP}(h:e.ok w base)(hb:b<=base):e.ok w b:=by
 cases e with
 | row T size A c css=>exact cw.Cf h hb
 | box g T cs=>exact⟨dQ hb h.1,h.2⟩
 | ro size A css=>exact⟨h.1,fun a ha=>⟨dQ hb (h.2 a ha).1,(h.2 a ha).2⟩⟩
def bP.s8(e f:bP):Prop:=∀ b,e.b8=some b->f.b8≠some b
theorem bP.s8.symm{e f:bP}(h:e.s8 f):f.s8 e:=fun b hb hc=>h b hc hb
structure Mem (w0 w:World) (M:List bP):Prop where
 from_:cW w0 w
 ok:∀ e∈M,e.ok w w0.heap.size
 apart:M.Pairwise bP.s8
theorem Mem.nil(w:World):Mem w w []:=⟨cu _ _,fun _ h=>(by cases h),.nil⟩
theorem Mem.call{M:List bP}(h:Mem w0 w M)(hb:cW w w'):Mem w0 w' M :=
 ⟨h.from_.trans (hb.mono h.from_.size),fun e he=>bP.jF (h.ok e he) fun _ aW=>hb.block _ (bP.lt (h.ok e he) aW).2,h.apart⟩
theorem Mem.sub{M M':List bP}(h:Mem w0 w M)(hs:M'.Sublist M):Mem w0 w M':=⟨h.from_,fun e he=>h.ok e (hs.subset he),h.apart.sublist hs⟩
theorem Mem.add{M:List bP}(h:Mem w0 w M)(hb:cW w w')(e:bP)(he:e.ok w' w.heap.size):Mem w0 w' (e::M):=by
 have h1:=h.call hb;refine⟨h1.from_,fun f hf => ?_,ui.2 ⟨fun f hf b c8 eP => ?_,h1.apart⟩⟩
 . rcases fM.1 hf with rfl|hf
   . exact bP.less he h.from_.size
   . exact h1.ok f hf
 . have h2:=(bP.lt he c8).1;have h3:=(bP.lt (h.ok f hf) eP).2;omega
theorem Mem.none{M:List bP}(h:Mem w0 w M)(T size:Nat):Mem w0 w (.row T size none 0 []::M) :=
 h.add (cu _ _) _ (cw.nil _ _ _ _)
theorem Mem.alloc{M:List bP}(h:Mem w0 w M)(T:Nat)(cs:List Value):Mem w0 (w.alloc (.cells cs.toArray T)) (.box w.heap.size T cs::M) :=
 h.add ((cu _ _).alloc (aA _) _) _ ⟨aA _,rA w _⟩
theorem Mem.any{M:List bP}(h:Mem w0 w M)(o:Obj):Mem w0 (w.alloc o) M:=h.call ((cu _ _).alloc (aA _) _)
theorem XL{e:bP}:∀ {M:List bP} {i:Nat},i<M.length->M.Pairwise bP.s8->(∀ j f,j≠i->M[j]? = some f->e.s8 f)->(M.set i e).Pairwise bP.s8
 | [],_,hi,_,_=>by cases hi
 | f::M,0,_,hp,h=>by
  rw [BY];have h1:=ui.1 hp;refine ui.2 ⟨fun g hg => ?_,h1.2⟩;obtain⟨j,hj⟩:=kT.1 hg;exact h (j+1) g oo (by simpa using hj)
 | f::M,i+1,hi,hp,h=>by
  rw [Ej];have h1:=ui.1 hp;refine ui.2 ⟨fun g hg => ?_,XL (by simpa using hi) h1.2 fun j f' hj hf=>h (j+1) f' oo (by simpa using hf)⟩;rcases IB hg with hg|rfl
  . exact h1.1 g hg
  . exact (h 0 f oo (by simp)).symm
theorem XM{M:List bP}(hp:M.Pairwise bP.s8){e f:bP}(hi:M[i]? = some e)(hj:M[j]? = some f)(iu:i≠j):e.s8 f:=by
 obtain⟨zN,ES⟩:=cF.1 hi;obtain⟨rL,mf⟩:=cF.1 hj;rw [xw] at hp;rcases Nat.lt_or_gt_of_ne iu with h|h
 . have:=hp i j zN rL h;rwa [ES,mf] at this
 . have:=hp j i rL zN h;rw [ES,mf] at this;exact this.symm
theorem Mem.put{M:List bP}(h:Mem w0 w M)(i:Nat){e:bP}(e':bP)(hi:M[i]? = some e)(hg:w.grownBy w' e.b8)(he:e'.ok w' w0.heap.size)(iG:e'.b8=e.b8\/∀ b,e'.b8=some b->w.heap.size<=b):Mem w0 w' (M.set i e'):=by
 have ah:i<M.length:=(cF.1 hi).1;have hek:=h.ok e (eY hi);refine⟨h.from_.grown hg h.from_.size fun k hk=>(bP.lt hek hk).1,fun f hf => ?_,XL ah h.apart fun j f hj hf b c8 eP => ?_⟩
 . obtain⟨j,hj⟩:=kT.1 hf;rw [ru] at hj;split at hj
   . injection hj with hj;subst hj;exact he
   . rename_i aT;have zO:=h.ok f (eY hj);refine bP.jF zO fun b hb=>hg.block b (bP.lt zO hb).2 fun hc => ?_;exact XM h.apart hi hj aT b hc.symm hb
 . have zO:=h.ok f (eY hf);rcases iG with iG|iG
   . rw [iG] at c8;exact XM h.apart hi hf (fun e=>hj e.symm) b c8 eP
   . have h1:=iG b c8;have h2:=(bP.lt zO eP).2;omega
theorem Mem.own{M:List bP}(h:Mem w0 w M){size:Nat}(hi:M[i]? = some (.row T size A c css)):cw w w0.heap.size T size A c css:=h.ok _ (eY hi)
theorem Mem.cells{M:List bP}(h:Mem w0 w M)(hi:M[i]? = some (.box g T cs)):w.heap[g]? = some (.cells cs.toArray T (0,0)):=(h.ok _ (eY hi)).2
theorem Mem.OW{M:List bP}(h:Mem w0 w M)(hi:M[i]? = some (.box g T cs)):w0.heap.size<=g/\g<w.heap.size:=bP.lt (h.ok _ (eY hi)) rfl
theorem Mem.Cq{M:List bP}(h:Mem w0 w M){n:Nat}(hT:vU Tryz.prog T n)(hn:cs.length=n)(hi:M[i]? = some (.box g T cs))(w1:World)(hb:cW w w1):(loadVar T ⟨g,0,.none⟩).run Tryz.prog w1 = .ok (.agg cs.toArray) w1:=by
 have h1:=akF (base:=0) (h.cells hi) hn (bO _);exact akG hT h1 (i:=0) (cs:=cs) rfl (p:=0) oo w1 hb
def uD(P:Program)(T:Nat):Bool :=
 match P.underlying T with
 | some (.struct _)=>false
 | some (.array _ _)=>false
 | some _=>true
 | _=>false
theorem OX{P:Program}(hT:uD P T=true)(h:w.cell? ad=some v):(loadVar T ad).run P w = .ok v w:=by
 unfold uD at hT
 cases hd:P.underlying T with
 | none=>rw [hd] at hT; cases hT
 | some d=>exact Cg hd (by rw [hd] at hT; cases d<;>first|rfl|cases hT) h
theorem Mem.zP{M:List bP}(h:Mem w0 w M)(hT:uD Tryz.prog T1=true)(hi:M[i]? = some (.box g T cs))(hj:cs[j]? = some v)(w1:World)(hb:cW w w1):(loadVar T1 ⟨g,j,.none⟩).run Tryz.prog w1 = .ok v w1:=by
 have h1:=h.cells hi;have h2:w1.heap[g]? = some (.cells cs.toArray T (0,0)):=(hb.block g (h.OW hi).2).trans h1;refine OX hT ?_;rw [zD w1 g j _ _ _ h2];simpa using hj
theorem Rd.cell{P:Program}{off size k:Nat}(h:Rd w B size (some ⟨g,off,none⟩) css)(hb:Below B w w1)(hT:uD P T1=true)(hk:css[k]? = some cs)(hj:cs[j]? = some v)(hp:p=off+k*size+j):(loadVar T1 ⟨g,p,none⟩).run P w1 = .ok v w1:=by
 subst hp;obtain⟨b,rM,e,ah,_,hc⟩:=h k cs hk;simp only [bF,Addr.mk.injEq,bn] at e;obtain⟨rfl,rfl⟩:=e;refine OX hT ?_;rw [Jg (hb.block _ ah)];exact hc j _ hj
theorem Rd.bound{size:Nat}(h:Rd w B size A css)(hn:css ≠ []):∀ a,A=some a->a.block<B:=by
 intro a ha;obtain⟨cs,Cr,rfl⟩:=aze hn;obtain⟨g,off,e,ah,_,_⟩:=h 0 cs rfl;rw [ha] at e;injection e with e;subst e;exact ah
theorem xW{M:List bP}{ops:Array Oper}{rest:List Oper}{o:Oper}{n:Nat}(ic:o.guard=none)(x y:Operand)(ho:o.op = .store T x y)(H:Mem w0 w M)(i:Nat)(hi:M[i]? = some (.box g T cs))(hx:a.eval x = .pointer (some ⟨g,0,.none⟩))(hy:a.eval y=v)(aO:(Tryz.prog.info? T).map (·.size)=some n)(hv:v.cells.toList=cs')(cg:cs'.length=n)(hl:cs.length=n)(h1:∀ u∈cs',u.oneCell'=true)(h:∀ w',Mem w0 w' (M.set i (.box g T cs'))->wpList Tryz.prog ops Q rest (a.put o.dst undef) w'):wpList Tryz.prog ops Q (o::rest) a w:=by
 refine Of (cs:=cs') ic x y ho hx hy aO hv cg (H.cells hi) (by simp [hl]) h1 fun mT w' hc hs rH gr=>h w' (H.put i (.box g T cs') hi gr ⟨(H.OW hi).1,?_⟩ (.inl rfl));have:mT=cs'.toArray:=by
  apply xF;rw [hc];simp [hl]
 rw [<- this];exact rH
theorem Mem.tail{e:bP}{M:List bP}(h:Mem w0 w (e::M)):Mem w0 w M:=h.sub (List.sublist_cons_self _ _)
end Go.Proofs.YtamjbkaclhgffaaGreat
