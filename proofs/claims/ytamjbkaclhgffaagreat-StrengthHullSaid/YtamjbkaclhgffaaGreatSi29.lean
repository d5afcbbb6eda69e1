/-
  slot.All: the slots of a ship.
-/
import Derived.Test.YtamjbkaclhgffaaGreatSi28
set_option linter.all false
set_option maxRecDepth 100000
set_option maxHeartbeats 4000000
namespace Go.Proofs.YtamjbkaclhgffaaGreat
open Go.RowKit Go.Shelf
variable{B a a' n sz:Int}{bs:List aJ}{L l st:List az}{cs:List dv}{d:List iW}{T base i j:Nat}{ρ:Nat->Option Rl}{ra ro:Nat->Prop}{α:Type}{w w':World}{b:aJ}{x y:az}{s:bC}{c c':dv}{m:pz}
attribute [local go_sem] Oper.semAt_some
set_option maxHeartbeats 2000000 in
theorem avU(nc cc)(A)(sz)(css)(ts)(w)(v1 v2 v3 v4 v5 v6 v7 v8 v9 v10 v11 qg)(gU:Rd w w.heap.size 12 A css)(M6:css.length=nc)(ah:ts.length=nc)(lP:nc<=1000)(rW:∀ t∈ts,0<=t/\t<=1000)(ja:∀ cs∈css,∀ u∈cs,u.oneCell'=true)(aF:∀ k cs,css[k]? = some cs->∃ v0 v1 v2 v4 v5 v6 v7 v8 v9 v10 v11:Value,cs = [v0,v1,v2,.int .i64 (ts.getD k 0),v4,v5,v6,v7,v8,v9,v10,v11]) :
 Calls Tryz.prog 108 #[.agg #[.slice A nc cc,v1,v2,v3,v4,v5,v6,v7,v8,v9,v10,v11,qg],.int .u8 sz] w fun e w'=>∃ D d,e = .returned (.slice D (qf ts sz nc).length d)/\cw w' w.heap.size 123 3 D d ((qf ts sz nc).map Slot.cells)/\cW w w':=by
 refine (callsIn_wide (n:=3)).1 ?_;refine callsIn_of_wp_marks Tryz.func108 rfl trivial ?_ rfl;simp only [Tryz.ntmps108,xz,cB,ej,Nat.reduceAdd,Nat.reduceSub,NU,NT,NZ,NX,pt,kW];have Dw:=aZ gU;have HCS:=aZ aF;have agE:=aZ ja;clear gU aF ja
 gi_wp2_with (refine⟨trivial,?_⟩; gi_at_call 170; refine (callsIn_wide.2 (avz _ _ rfl _ _)).mono ?_; rintro e w' ⟨rfl,rfl⟩)
 obtain⟨sv,uS⟩:∃ sv:Value,sv = .agg #[.slice A nc cc,v1,v2,v3,v4,v5,v6,v7,v8,v9,v10,v11,qg]:=⟨_,rfl⟩
 rw [<- uS];have HM:=(((Mem.nil w).any (.cells #[.slice A nc cc,v1,v2,v3,v4,v5,v6,v7,v8,v9,v10,v11,qg] 32 (0,0))).alloc 209 [.slice none 0 0]).none 123 3;have tT:=(HM.any (.cells #[.slice A nc cc,v1,v2,v3,v4,v5,v6,v7,v8,v9,v10,v11,qg] 32 (0,0))).any (.cells #[.int .u8 sz] 5 (0,0));rw [qk] at tT;have hsA:(((w.alloc (.cells #[.slice A nc cc,v1,v2,v3,v4,v5,v6,v7,v8,v9,v10,v11,qg] 32 (0,0))).alloc (.cells #[.slice none 0 0] 209)).alloc (.cells #[.slice A nc cc,v1,v2,v3,v4,v5,v6,v7,v8,v9,v10,v11,qg] 32 (0,0))).heap[w.heap.size+1+1]? = some (.cells #[.slice A nc cc,v1,v2,v3,v4,v5,v6,v7,v8,v9,v10,v11,qg] 32 (0,0)):=by
  have:=World.alloc_heap_new ((w.alloc (.cells #[.slice A nc cc,v1,v2,v3,v4,v5,v6,v7,v8,v9,v10,v11,qg] 32 (0,0))).alloc (.cells #[.slice none 0 0] 209)) (.cells #[.slice A nc cc,v1,v2,v3,v4,v5,v6,v7,v8,v9,v10,v11,qg] 32 (0,0));rwa [qk,qk] at this
 obtain⟨wS,H8⟩:∃ wS,wS=(((w.alloc (.cells #[.slice A nc cc,v1,v2,v3,v4,v5,v6,v7,v8,v9,v10,v11,qg] 32 (0,0))).alloc (.cells #[.slice none 0 0] 209)).alloc (.cells #[.slice A nc cc,v1,v2,v3,v4,v5,v6,v7,v8,v9,v10,v11,qg] 32 (0,0))).alloc (.cells #[.int .u8 sz] 5 (0,0)):=⟨_,rfl⟩
 have aAD:wS.heap.size=w.heap.size+4:=by rw [H8]; simp
 have hcS:wS.cell? ⟨w.heap.size+1+1,0,none⟩=some (.slice A nc cc):=by
  have h1:wS.heap[w.heap.size+1+1]? = some (.cells #[.slice A nc cc,v1,v2,v3,v4,v5,v6,v7,v8,v9,v10,v11,qg] 32 (0,0)):=by
   rw [H8];exact (ql _ _ _ (by simp)).trans hsA
  simp [World.cell?,h1]
 have hzS:wS.heap[w.heap.size+1+1+1]? = some (.cells #[.int .u8 sz] 5 (0,0)):=by
  have:=World.alloc_heap_new (((w.alloc (.cells #[.slice A nc cc,v1,v2,v3,v4,v5,v6,v7,v8,v9,v10,v11,qg] 32 (0,0))).alloc (.cells #[.slice none 0 0] 209)).alloc (.cells #[.slice A nc cc,v1,v2,v3,v4,v5,v6,v7,v8,v9,v10,v11,qg] 32 (0,0))) (.cells #[.int .u8 sz] 5 (0,0));rw [qk,qk,qk] at this;rw [H8];exact this
 rw [<- H8] at tT ⊢;clear H8 hsA HM;have agI:Rd wS w.heap.size 12 A css:=Dw.out.below tT.from_ (aA _);have hlen:(qf ts sz nc).length<=2000000:=by
  have:=M4 ts sz (fun t h=>(rW t h).2) nc;omega
 refine avQ (F:=Fence.wide) (n:=3) (ps := #[10]) (encs:=M5) rfl (by decide) (gf:=209) (lb := #[.pointer (some ⟨w.heap.size+1+1,0,none⟩),.pointer (some ⟨w.heap.size+1+1+1,0,none⟩)]) rfl trivial (enters_of Tryz.func209 (by kernel_rfl) rfl)
  (avD w.heap.size _ _ nc cc A sz css ts wS oo hcS oo hzS agI M6 ah lP rW agE.out HCS.out) (fun h k=>h.trans k) ?hKb (cu _ _) (fun _=>rfl)
  (fun pre W=>∃ D d,Mem w W [.row 123 3 D d (pre.map Slot.cells),.box (w.heap.size+1) 209 [.slice D pre.length d]]) ?hI ?hKf ⟨none,0,tT⟩ (fun x => .cells #[.int .i64 x.au,.int .i64 x.aH,.int .u8 x.half] 123 (0,0))
  (fun b x => { tmps := #[sv,.int .u8 sz,.pointer (some ⟨w.heap.size,0,none⟩),undef,.slice none 0 0,.pointer (some ⟨w.heap.size+1,0,none⟩),.pointer (some ⟨b,0,none⟩),sv,.int .u8 sz,.func (.func 209) #[] #[.pointer (some ⟨w.heap.size+1+1,0,none⟩),.pointer (some ⟨w.heap.size+1+1+1,0,none⟩)],x.val,undef,undef,undef,undef,undef],defers := [] }) ?assign ?body ?done
 case hKb =>
  intro W l o o' hl ho hc;refine⟨(cu _ W).grown (grownBy_putObj' W l o') (by have:=(jA.1 ho).1; omega) (fun k e=>by cases e; omega),fun b cur hb=>(World.putObj_heap_other (fun e => ?_)).trans hb⟩;subst e;rw [hb] at ho;cases ho;cases hc
 case hI =>
  rintro pre W W' row ⟨D,d,h⟩ hg hr
  exact⟨D,d,h.grown (fun e he s A css h1=>by
   simp only [fM,IM,or_false] at he;rcases he with rfl|rfl<;>cases h1) hg (fun r e=>⟨by have:=(hr r e).1; omega,(hr r e).2⟩)⟩
 case hKf =>
  rintro pre W W1 ⟨D,d,h⟩ hb
  exact om.from hb h.from_.size
 case assign =>
  intro l x W K hK;have HMa:=aZ ((Mem.nil W).alloc 123 [.int .i64 0,.int .i64 0,.int .u8 0]);subst uS;unfold M5 Slot.val
  gi_wp2
  exact hK _ ((cu _ W).alloc (aA _) _) (World.alloc_heap_new _ _)
 case body =>
  rintro l pre x b W ⟨D,d,h⟩ H5 uB
  have Vw:uD Tryz.prog 209=true:=by kernel_rfl
  have hci:(Tryz.prog.info? 209).map (·.size)=some 1:=by kernel_rfl
  have HX:Hid ((loadVar 123 ⟨b,0,none⟩).run Tryz.prog W = .ok x.val W):=Od Slot.row (cs:=x.cells) rfl (fun j u hu=>by
   rw [show (⟨b,0,none⟩:Addr).add j=⟨b,j,none⟩ from by rw [ER,gC]];simp only [World.cell?,uB];simpa [Slot.cells] using hu)
  have HM:=aZ h;have HA:=aZ (h.any (.cells #[.int .i64 x.au,.int .i64 x.aH,.int .u8 x.half] 123 (0,0)));have cU:(pre.map Slot.cells).length+1<=3000000:=by rw [fk]; omega
  clear h uB H5
  gi_wp2_with (first
   | (refine Vu rfl 209 _ rfl _ rfl _ (HM.out.zP Vw (i:=1) rfl rfl _ (cu _ _)) ?_)
   | (refine Vu rfl 123 _ rfl _ rfl _ HX.out ?_)
   | (refine avO rfl _ _ rfl Slot.ei pre.length (by rw [fk]) rfl HA.out 0 rfl rfl (Rd.rows (css := [x.cells]) (rA W _) rfl (by simp [Slot.cells])) rfl (by simp [Slot.cells,Value.oneCell']) (by unfold maxLen; omega) oo ?_; intro A' c' w5 h5 hg5; have HB:=aZ h5; have HG5:=aZ hg5; clear h5 hg5)
   | (refine avN (cs' := [.slice A' (pre.map Slot.cells ++ [x.cells]).length c']) rfl _ _ rfl HB.out 1 rfl rfl rfl hci rfl rfl rfl (by simp [Value.oneCell']) ?_; intro w6 h6 hg6))
  have s5:=HA.out.step (i:=0) rfl (fun s A css h=>by cases h) HG5.out;have s6:=HB.out.step (i:=1) rfl (fun s A css h=>by cases h) hg6;have cP:cW W (W.alloc (.cells #[.int .i64 x.au,.int .i64 x.aH,.int .u8 x.half] 123 (0,0))):=(cu _ W).alloc (aA _) _;refine⟨(KeepsOthers.alloc W _).trans (s5.1.trans s6.1),(om.from cP HM.out.from_.size).trans (om.trans ⟨s5.2.1,fun b cur hb=>s5.2.2 _ b cur (by simp [bP.Na]) hb⟩ ⟨s6.2.1,fun b cur hb=>s6.2.2 _ b cur (by simp [bP.Na]) hb⟩),A',c',?_⟩;simpa using h6
 case done =>
  rintro D0 xs W hD rfl ⟨D,d,h⟩ hK
  have Vw:uD Tryz.prog 209=true:=by kernel_rfl
  have HM:=aZ h;clear Dw HCS agE agI hcS hzS tT
  gi_wp2_with (refine Vu rfl 209 _ rfl _ rfl _ (HM.out.zP Vw (i:=1) rfl rfl _ (cu _ _)) ?_)
  refine⟨by simp,.inl ⟨_,_,rfl,run_takeDeferred hK,?_⟩⟩;have hM3:=HM.out.grown (fun e he s A css h1=>by
   simp only [fM,IM,or_false] at he;rcases he with rfl|rfl<;>cases h1) (grownBy_putObj' W D0 (.deferred none)) (fun r e=>by cases e; exact⟨oo,_,hK,rfl⟩)
  refine⟨.slice D (qf ts sz nc).length d,?_,D,d,rfl,hM3.own (i:=0) rfl,hM3.from_⟩;simp [results,Tryz.f108,go_sem]
open Go.RowKit
def mJ(p:iV):Prop:=(0<=p.cX/\p.cX<=255)/\(0<=p.row/\p.row<=255)/\0<=p.cY/\p.cY<=255
def pb(p:iV):dv:=⟨p.cX % 5,p.row % 5,p.fl,2+p.cY % 4,0,500000000,500000000,0,[],13000*(p.cX % 5) - 26000,2500*(p.row % 5) - 5000,cond p.fl 20000 2000⟩
def iR(l:List iV):Nat->List dv
 | 0 => []
 | k+1=>cond (sE (iR l k) (pb (l.getD k Tc.fp.aa)).cX (pb (l.getD k Tc.fp.aa)).row (l.getD k Tc.fp.aa).fl).isEmpty (iR l k ++ [pb (l.getD k Tc.fp.aa)]) (iR l k)
theorem Vx(l):∀ k,(iR l k).length<=k
 | 0=>aA _
 | k+1=>by
  unfold iR;have:=Vx l k
  cases (sE (iR l k) (pb (l.getD k Tc.fp.aa)).cX (pb (l.getD k Tc.fp.aa)).row (l.getD k Tc.fp.aa).fl).isEmpty with
  | true=>simp only [eG,dp,cB,ej]; omega
  | false=>simp only [gj]; omega
def Nb:dv:=⟨0,0,false,3,0,500000000,500000000,0,[],0,0,2000⟩
def pc(l:List iV):List dv:=cond (iR l (min l.length 12)).isEmpty [Nb] (iR l (min l.length 12))
def ub(n k:Int):Bool:=decide (te BinOp.and IntKind.u32 (lN BinOp.shr IntKind.u32 n k) 1=1)
def pd(n:Int):Nat->List lK
 | 0 => []
 | k+1=>pd n k++cond (ub n (2*k)) [⟨(k:Int),[0,1]⟩] []++cond (ub n (2*k+1)) [⟨(k:Int),[2,3,4]⟩] []
theorem Vy(n):∀ k,(pd n k).length<=2*k
 | 0=>aA _
 | k+1=>by
  unfold pd;have:=Vy n k;cases ub n (2*k)<;>cases ub n (2*k+1)<;>simp only [eG,gj,dp,cB,ej]<;>omega
def vE(l:List iV)(n:Int):bC:=⟨pc l,pd n 5,0,0,0,0,[],[],[],0,0,0,0⟩
def agL(x y:AV):List AV := [x,y,.lit .i64 0,.lit .i64 0,.lit .i64 0,.lit .i64 0,.nil,.nil,.nil,.lit .i64 0,.lit .i64 0,.lit .i64 0,.lit .i64 0]
def avY(l:List iV)(m:Nat):Lp where
 X:=Nat
 ov k := [(18,.int .i64 fun _=>(k:Int))]
 oe k := [(1,.box 32 (agL (.own 2) .nil)),(2,.row true .au 127 fun _=>iR l k)]
 I k:=k<=m
 μ k _:=m - k
 x0:=0
 nx:=some fun k=>k+1
def agM(n:Int)(c d:Nat):Lp where
 X:=Nat
 ov j := [(11,.int .i64 fun _=>(j:Int))]
 oe j := [(1,.box 32 (agL (.own c) (.own d))),(d,.row true .eQ 167 fun _=>pd n j)]
 I j:=j<=5
 μ j _:=5 - j
 x0:=0
 nx:=some fun j=>j+1
def agN:aN:=c6 49 SE SG (fun l n=>(∀ p∈l (),mJ p)/\(0<=n ()/\n ()<=4294967295)/\(l ()).length<=140737488351232) (fun l n => .agg (LJ fun _=>vE (l ()) (n ())))
theorem avZ:aU Tryz.prog agN:=by
 refine fH { jn := [] } [agr] ⟨avv,trivial⟩ [] trivial Tryz.func49 (by kernel_rfl) fun ai res h hp => ?_;obtain⟨(l:List iV),(n:Int),rfl,rfl⟩:=dh h;clear h;have DZ:(∀ p∈l,mJ p)/\(0<=n/\n<=4294967295)/\l.length<=140737488351232:=hp;have hw:=DZ.1;have hn:=DZ.2.1;have hl:=DZ.2.2;refine bW (min l.length 12) fun m hm => ?_;refine⟨[(3,avY l m)],?_⟩;have vF:(bif decide ((12:Int)<(l.length:Int)) then (12:Int) else (l.length:Int))=(m:Int):=by
  by_cases h:(12:Int)<(l.length:Int)
  . rw [dP h,eG]; omega
  . exact H9
 conv=>arg 1; cbv
 simp (maxSteps:=4000000) only [aK];refine⟨by rw [vF]; omega,⟨bO _,rfl,rfl⟩,fun (k:Nat) hk => ?_⟩;have e9:k<=m:=hk
 conv=>arg 1; cbv
 simp (maxSteps:=4000000) only [aK];refine⟨fun g => ?_,fun g=>⟨fun h0 => ?_,fun h0 => ?_⟩⟩
 . have sd:k<m:=oo
   have gD:k<l.length:=oo
   have hq:mJ (l.getD k Tc.fp.aa):=hw _ (by
    rw [aX,bc gD];exact iT _)
   have hlen:=Vx l k;have re:iR l (k+1)=cond (sE (iR l k) (pb (l.getD k Tc.fp.aa)).cX (pb (l.getD k Tc.fp.aa)).row (l.getD k Tc.fp.aa).fl).isEmpty (iR l k ++ [pb (l.getD k Tc.fp.aa)]) (iR l k):=rfl;generalize l.getD k Tc.fp.aa=p at hq re ⊢;obtain⟨cX,row,cY,fl⟩:=p;simp only [pb] at re;simp only [mJ] at hq;have t1:cX.tmod 5=cX % 5:=NL hq.1.1;have t2:row.tmod 5=row % 5:=NL hq.2.1.1;have t3:cY.tmod 4=cY % 4:=NL hq.2.2.1;simp only [t1,t2,t3,re,cB,ej];generalize iR l k=cs at hlen ⊢;cases fl<;>cases (sE cs (cX % 5) (row % 5) _).isEmpty<;>simp only [eG,gj,gg,WN,dV,Bool.true_eq_false,reduceCtorEq,false_implies,true_implies,bn,bu,forall_const,bq]<;>omega
 . have s7:pc l = [Nb]:=by
    unfold pc;rw [hm,<- (show k=m from oo),vJ (show (iR l k).length=0 from oo)];rfl
   refine⟨agM n 3 4,?_⟩
   exact no_implicit_lambda% s_6
 . have s7:pc l=iR l k:=by
    unfold pc;rw [hm,<- (show k=m from oo)]
    cases hE:iR l k with
    | nil=>rw [hE] at h0; exact absurd rfl h0
    | cons x xs=>rfl
   refine⟨agM n 2 3,?_⟩
   exact no_implicit_lambda% s_6
def zn(cs:List dv)(sz:Int):List Slot:=qf (cs.map (·.cY)) sz cs.length
theorem av0{t:Tc}{l:Unit->List t.el}{A:Option Addr}{c:Nat}(f)(ht:∀ x,(aP true t fun _=>x).all AV.flat=true)(hf:∀ x,(aP true t fun _=>x).map AV.valOf=f x)(ho:cw w' w.heap.size T t.size A c ((l ()).map f)):af w' ρ w.heap.size (fun b=>ra b\/w.heap.size<=b) (.sl true t l) (.slice A (l ()).length c):=by
 refine .sl true t l A c ((l ()).map f) (by simp) ?_ ho.rd (fun a ha _ => .inr (ho.lt ha).1) (fun _ a ha _=>(ho.lt ha).1) fun k cs j x v hk hx hv => ?_
 . rcases ho.1.2 with ⟨h2,h3⟩|⟨g,cap,cur,h2,h3,_,h5,_⟩
   . rw [h3];exact bO _
   . injection h2 with _ _ h6;rw [h6];exact h5
 . rw [ga] at hk
   cases l9:(l ())[k]? with
   | none=>rw [l9] at hk; cases hk
   | some y =>
    rw [l9] at hk;injection hk with hk;subst hk;have hy:(l ()).getD k t.aa=y:=by rw [aX,l9]; rfl
    rw [hy] at hx;have hE:aV w' ρ w.heap.size (fun b=>ra b\/w.heap.size<=b) (aP true t fun _=>y) (f y):=by
     rw [<- hf];exact GC (ht y)
    exact hE.2 j x v hx hv
theorem af.av1{v:Value}{fr:Bool}{l:Unit->List dv}(h:af w ρ base ro (.sl fr .au l) v):∃ A c css,v = .slice A (l ()).length c/\css.length=(l ()).length/\Rd w w.heap.size 12 A css/\(∀ cs∈css,∀ u∈cs,u.oneCell'=true) /\
 ∀ k cs,css[k]? = some cs->∃ v0 v1 v2 v4 v5 v6 v7 v8 v9 v10 v11:Value,cs = [v0,v1,v2,.int .i64 (((l ()).map (·.cY)).getD k 0),v4,v5,v6,v7,v8,v9,v10,v11]:=by
 cases h with
 | sl _ _ _ A c css hl hc hr bt cP h =>
  refine⟨A,c,css,rfl,hl,hr,FH hr h,fun k cs hk => ?_⟩;have hlen:cs.length=12:=hr.len cs (eY hk);have gD:k<(l ()).length:=by have:=(cF.1 hk).1; omega
  match cs,hlen with
  | [v0,v1,v2,v3,v4,v5,v6,v7,v8,v9,v10,v11],_ =>
   have h3:=h k _ 3 _ v3 hk rfl rfl;have e3:=h3.iw;refine⟨v0,v1,v2,v4,v5,v6,v7,v8,v9,v10,v11,?_⟩;rw [e3];simp only [aX,ga,bc gD,du,ia]
def agP:aN:=c6 108 tF yZ (fun s _=>(s ()).aD.length<=1000/\∀ c∈(s ()).aD,0<=c.cY/\c.cY<=1000) (fun s sz => .sl true .slot fun _=>zn (s ()).aD (sz ()))
theorem av2:aU Tryz.prog agP:=by
 refine Dk Tryz.func108 (by kernel_rfl) fun ai res h w ra dM hE hp => ?_;obtain⟨(s:bC),(sz:Int),rfl,rfl⟩:=dh h;clear h;obtain⟨v0,y4,rfl,lT,h0⟩:=hE.head;obtain⟨v1,Ty,rfl,rK,h1⟩:=h0.head;obtain rfl:=h1.none;obtain rfl:=rK.iw;obtain⟨vs,rfl,rP⟩:=lT.oK;have Ho:s.aD.length<=1000/\∀ c∈s.aD,0<=c.cY/\c.cY<=1000:=hp;have oV:=Ho.1;have fX:=Ho.2;have av3:vs.length=13:=rP.1.symm
 match vs,av3 with
 | [w0,w1,w2,w3,w4,w5,w6,w7,w8,w9,w10,w11,w12],_ =>
  obtain⟨A,c,css,e0,e1,e2,e3,e4⟩:=(rP.2 0 _ w0 rfl rfl).av1;subst e0;exact (avU _ c A sz css (s.aD.map (·.cY)) w w1 w2 w3 w4 w5 w6 w7 w8 w9 w10 w11 w12 e2 e1 (by simp) oV (fun t ht=>by
   obtain⟨c,hc,rfl⟩:=gi.1 ht;exact fX c hc) e3 e4).mono fun e w' ⟨D,d,k1,k2,k3⟩=>⟨_,k1,k3,av0 (t := .slot) (l:=fun _=>zn s.aD sz) Slot.cells (fun _=>rfl) (fun _=>rfl) k2⟩
def rf(d:iW):Prop:=(0<=d.au/\d.au<=255)/\0<=d.aq/\d.aq<=255
def rh(i:Nat)(d:iW):aJ:=⟨5*(i+1),j3,cond d.small 20 40,cond d.small false d.high,1000+100*d.aq,0,1,0,false⟩
def jU(l:List iW)(k:Nat):List aJ:=(List.range k).map fun i=>rh i (l.getD i Tc.gq.aa)
def Nc(id:Int)(x:Slot):az:=⟨id,x.au,x.aH,x.half⟩
def Nf(s:bC)(bs:List aJ)(st:List az)(id c:Int)(x:Slot):Bool:=decide (x.au=c.tmod s.aD.length)&&dO s bs (st ++ [Nc id x])
def oq(s:bC)(l:List iW):Nat->List az
 | 0 => []
 | k+1=>match (zn s.aD (rh k (l.getD k Tc.gq.aa)).size).find? (Nf s (jU l (k+1)) (oq s l k) (5*((k:Int)+1)) (l.getD k Tc.gq.aa).au) with
  | some x=>oq s l k ++ [Nc (5*((k:Int)+1)) x]
  | none=>oq s l k
theorem agQ(l)(k):jU l (k+1)=jU l k ++ [rh k (l.getD k Tc.gq.aa)]:=by
 unfold jU;rw [um,jg];rfl
theorem Ia(l)(k):(jU l k).length=k:=by simp [jU]
theorem Vz(s)(l):∀ k,(oq s l k).length<=k
 | 0=>aA _
 | k+1=>by
  unfold oq;have:=Vz s l k;split
  . rw [dp];simp only [cB,ej];omega
  . omega
theorem av7(h1:cs.length<=1000)(h2:∀ c∈cs,0<=c.cY/\c.cY<=1000):(zn cs sz).length<=2000000:=by
 have:=M4 (cs.map (·.cY)) sz (fun t ht=>by
  obtain⟨c,hc,rfl⟩:=gi.1 ht;exact (h2 c hc).2) cs.length
 unfold zn;omega
theorem av8{p : α->Bool}{l:List α}(d)(h:(l.take j).all (fun x => !p x)=true)(hj:j<l.length)(hp:p (l.getD j d)=true):l.find? p=some (l.getD j d):=by
 have e:l.getD j d=l[j]:=by rw [aX,bc hj]; rfl
 rw [e] at hp ⊢;have h1:(l.take j).find? p=none:=by
  exact agR
 rw [show l.find? p=(l.take j++l.drop j).find? p from by rw [jB],List.find?_append,h1,sP hj,List.find?_cons,hp];rfl
theorem av9{p : α->Bool}{l:List α}(h:(l.take j).all (fun x => !p x)=true)(hj:l.length<=j):l.find? p=none:=by
 rw [jC hj] at h;exact agR
theorem awa(s):(⟨s.aD,s.dG,s.lk,s.lx,s.ly,s.lz,s.rows,s.iL,s.eU,s.m1,s.m2,s.m3,s.m4⟩:bC)=s:=rfl
def awb(s:bC)(l:List iW)(m:Nat):Lp where
 X:=Nat
 ov k := [(23,.int .i64 fun _=>(k:Int)),(8,.own 1),(9,.sl true .al fun _=>oq s l k)]
 oe k := [(1,.row true .box 141 fun _=>jU l k)]
 I k:=k<=m
 μ k _:=m - k
 x0:=0
 nx:=some fun k=>k+1
def awc(xs:List Slot)(st:List az)(p:Slot->Bool):Lp where
 X:=Nat
 ov j := [(52,.int .i64 fun _=>(j:Int)),(9,.sl true .al fun _=>st)]
 oe j := []
 I j:=j<=xs.length/\(xs.take j).all (fun x => !p x)=true
 μ j _:=xs.length - j
 x0:=0
 nx:=some fun j=>j+1
def agS:aN:=qR 50 tF SF kI (fun s l mK=>(od (s ())/\(s ()).aD ≠ []/\(s ()).aD.length<=1000/\∀ c∈(s ()).aD,0<=c.cY/\c.cY<=1000)/\(∀ d∈l (),rf d)/\(0<=mK ()/\mK ()<=1000)/\(l ()).length<=140737488351232) (fun s l mK => .ba [.sl true .box fun _=>jU (l ()) (min (l ()).length (mK ()).toNat),.sl true .al fun _=>oq (s ()) (l ()) (min (l ()).length (mK ()).toNat)])
theorem awd:aU Tryz.prog agS:=by
 refine fH { fz := [(15,[6,7])],kp := [(10,[23,8,9,11,12]),(13,[52,9,14]),(14,[52,9,14,15]),(15,[15])],sc := [(13,bQ [1,3] (.alt (.op 0 (.alt (.op 2 (.alt (bQ [4,5,6,7,8,9] .nil) (bQ [5,4,6,7,8,9] .nil))) (.alt (.op 4 (.alt (bQ [2,5,6,7,8,9] .nil) (.op 5 (.alt (bQ [2,6,7,8,9] .nil) (.op 6 (.alt (bQ [2,7,8,9] .nil) (bQ [7,2,8,9] .nil))))))) (.op 5 (.alt (bQ [2,4,6,7,8,9] .nil) (.op 4 (.alt (bQ [2,6,7,8,9] .nil) (.op 6 (.alt (bQ [2,7,8,9] .nil) (bQ [7,2,8,9] .nil)))))))))) (.alt (.op 4 (.alt (.op 0 (.alt (bQ [2,5,6,7,8,9] .nil) (.op 5 (.alt (bQ [2,6,7,8,9] .nil) (.op 6 (.alt (bQ [2,7,8,9] .nil) (bQ [7,2,8,9] .nil))))))) (.op 5 (.alt (.op 0 (.alt (bQ [2,6,7,8,9] .nil) (.op 6 (.alt (bQ [2,7,8,9] .nil) (bQ [7,2,8,9] .nil))))) (.op 6 (.alt (.op 0 (.alt (bQ [2,7,8,9] .nil) (bQ [7,2,8,9] .nil))) (bQ [7,0,2,8,9] .nil))))))) (.op 5 (.alt (.op 0 (.alt (bQ [2,4,6,7,8,9] .nil) (.op 4 (.alt (bQ [2,6,7,8,9] .nil) (.op 6 (.alt (bQ [2,7,8,9] .nil) (bQ [7,2,8,9] .nil))))))) (.op 4 (.alt (.op 0 (.alt (bQ [2,6,7,8,9] .nil) (.op 6 (.alt (bQ [2,7,8,9] .nil) (bQ [7,2,8,9] .nil))))) (.op 6 (.alt (.op 0 (.alt (bQ [2,7,8,9] .nil) (bQ [7,2,8,9] .nil))) (bQ [7,0,2,8,9] .nil)))))))))),(14,bQ [0,1,2,3,4,5,6,7,8,9,10,11,12,13,14,15] .nil)] } [agP,UN] ⟨av2,afI,trivial⟩ [] trivial Tryz.func50 (by kernel_rfl) fun ai res h hp => ?_;obtain⟨(s:bC),(l:List iW),(mK:Int),rfl,rfl⟩:=tE h;clear h;have Ng:(od s/\s.aD ≠ []/\s.aD.length<=1000/\∀ c∈s.aD,0<=c.cY/\c.cY<=1000)/\(∀ d∈l,rf d)/\(0<=mK/\mK<=1000)/\l.length<=140737488351232:=hp;have hs:=Ng.1;have hw:=Ng.2.1;have Mp:=Ng.2.2.1;have hl:=Ng.2.2.2;refine bW (min l.length mK.toNat) fun m hm => ?_;refine⟨[(4,awb s l m)],?_⟩;have vF:(bif decide (mK<(l.length:Int)) then mK else (l.length:Int))=(m:Int):=by
  by_cases h:mK<(l.length:Int)
  . rw [dP h,eG]; omega
  . exact H9
 conv=>arg 1; cbv
 simp (maxSteps:=4000000) only [aK];refine⟨by rw [vF]; omega,⟨bO _,rfl,rfl,rfl⟩,fun (k:Nat) hk => ?_⟩;have e9:k<=m:=hk
 conv=>arg 1; cbv
 simp (maxSteps:=4000000) only [aK];simp only [vF,fE];refine⟨fun g => ?_,fun g => ?_⟩
 . have sd:k<m:=oo
   have hq:=hw _ (gw Tc.gq.aa (show k<l.length from oo));have sA:=agQ l k;have iG:=Ia l k;have Jr:=Vz s l k;have ot:oq s l (k+1)=match (zn s.aD (rh k (l.getD k Tc.gq.aa)).size).find? (Nf s (jU l (k+1)) (oq s l k) (5*((k:Int)+1)) (l.getD k Tc.gq.aa).au) with
    | some x=>oq s l k ++ [Nc (5*((k:Int)+1)) x]
    | none=>oq s l k:=rfl
   generalize l.getD k Tc.gq.aa=d at hq sA ot ⊢;obtain⟨dc,dk,dsm,dhi⟩:=d;obtain⟨⟨gL,tw⟩,cR,bU⟩:(0<=dc/\dc<=255)/\0<=dk/\dk<=255:=hq;refine⟨⟨oo,oo⟩,ii,ii,ii,ii,ii,fun zo => ?_,fun zo => ?_⟩
   . simp only at zo;subst zo;simp only [rh,eG,gj] at sA ot;refine⟨by rw [iG]; simp only [cB,ej]; omega,⟨hs.2.2.1,hs.2.2.2⟩,?_⟩;simp only [<- sA];have VA:=Ia l (k+1);clear sA iG;generalize hB:jU l (k+1)=bs at VA ot ⊢;generalize hS:oq s l k=st at Jr ot ⊢;generalize hX:zn s.aD 20=xs at ot ⊢;exact no_implicit_lambda% s_2
   . simp only at zo;subst zo;simp only [rh,eG,gj] at sA ot;refine⟨by rw [iG]; simp only [cB,ej]; omega,⟨hs.2.2.1,hs.2.2.2⟩,?_⟩;simp only [<- sA];have VA:=Ia l (k+1);clear sA iG;generalize hB:jU l (k+1)=bs at VA ot ⊢;generalize hS:oq s l k=st at Jr ot ⊢;generalize hX:zn s.aD 40=xs at ot ⊢;exact no_implicit_lambda% s_2
 . rw [hm,show k=m from oo];exact⟨rfl,rfl⟩
theorem VB{l:List iV}(hw:∀ p∈l,mJ p):∀ {k:Nat},k<=l.length->∀ c∈iR l k,∃ p,mJ p/\c=pb p
 | 0,_,c,h=>by cases h
 | k+1,hk,c,h=>by
  unfold iR at h;have hq:=hw _ (gw Tc.fp.aa (show k<l.length from oo))
  cases hE:(sE (iR l k) (pb (l.getD k Tc.fp.aa)).cX (pb (l.getD k Tc.fp.aa)).row (l.getD k Tc.fp.aa).fl).isEmpty with
  | true =>
   rw [hE,eG,iU] at h;rcases h with h|h
   . exact VB hw oo c h
   . rw [jD] at h;exact⟨_,hq,h⟩
  | false =>
   rw [hE,gj] at h;exact VB hw oo c h
theorem awe{b:Int}{d:Bool}(h:(sE cs a b d).isEmpty=true):∀ c∈cs,vB a b d c=false:=by
 intro c hc;obtain⟨j,hj⟩:=kT.1 hc;obtain⟨ah,he⟩:=cF.1 hj
 cases hb:vB a b d c with
 | false=>rfl
 | true =>
  exfalso;have:(j:Int)∈sE cs a b d:=by
   unfold sE vC;refine gi.2 ⟨j,Eo.2 ⟨gA.2 ah,?_⟩,rfl⟩;rw [aX,hj];exact hb
  rw [B4.1 h] at this;cases this
theorem awf{b:Int}{d:Bool}(h:vB a b d c=false)(h1:c'.cX=a)(h2:c'.row=b)(h3:c'.fl=d):fK c≠fK c':=by
 intro e;unfold fK at e;rw [h1,h2,h3] at e;simp only [ry,Kx.i.injEq,bu,bn] at e;obtain⟨e1,e2,e3⟩:=e;have e4:c.fl=d:=by cases hc:c.fl<;>cases d<;>simp_all
 unfold vB at h;rw [e1,e2,e4] at h;simp at h
theorem agU(l):∀ k,((iR l k).map fK).Nodup
 | 0=>WM
 | k+1=>by
  unfold iR;have ih:=agU l k
  cases hE:(sE (iR l k) (pb (l.getD k Tc.fp.aa)).cX (pb (l.getD k Tc.fp.aa)).row (l.getD k Tc.fp.aa).fl).isEmpty with
  | true =>
   rw [eG,jg,Ek];refine⟨ih,by simp,fun a ha b hb => ?_⟩;obtain⟨c,hc,rfl⟩:=gi.1 ha;rw [II,jD] at hb;subst hb;exact awf (awe hE c hc) rfl rfl rfl
  | false=>exact ih
theorem Nh(n):∀ k,∀ x∈pd n k,∃ j,j<k/\x.cX=j/\(x.rows = [0,1]\/x.rows = [2,3,4])
 | 0,x,h=>by cases h
 | k+1,x,h=>by
  unfold pd at h;rw [iU,iU] at h;rcases h with (h|h)|h
  . obtain⟨j,h1,h2⟩:=Nh n k x h;exact⟨j,oo,h2⟩
  . cases hb:ub n (2*(k:Int)) with
    | true=>rw [hb,eG,jD] at h; subst h; exact⟨k,oo,rfl,.inl rfl⟩
    | false=>rw [hb,gj] at h; cases h
  . cases hb:ub n (2*(k:Int)+1) with
    | true=>rw [hb,eG,jD] at h; subst h; exact⟨k,oo,rfl,.inr rfl⟩
    | false=>rw [hb,gj] at h; cases h
theorem agV{x:lK}{key:List Kx}(h:key∈eE x):∃ r∈x.rows,key = [.i .i64 x.cX,.i .i64 r,.i .i64 2]:=by
 obtain⟨r,h1,h2⟩:=gi.1 h;exact⟨r,h1,h2.symm⟩
theorem agW(n):∀ k,((pd n k).flatMap eE).Nodup
 | 0=>WM
 | k+1=>by
  unfold pd;have ih:=agW n k;have hold:∀ a∈(pd n k).flatMap eE,∃ (j:Nat) (r:Int),j<k/\a = [.i .i64 (j:Int),.i .i64 r,.i .i64 2]:=fun a ha=>by
   obtain⟨x,hx,kb⟩:=WG.1 ha;obtain⟨j,hj,hb,_⟩:=Nh n k x hx;obtain⟨r,_,e⟩:=agV kb;exact⟨j,r,hj,by rw [e,hb]⟩
  have F9:∀ (rs:List Int),∀ a∈(pd n k).flatMap eE,∀ b∈rs.map (fun r => [Kx.i .i64 (k:Int),Kx.i .i64 r,Kx.i .i64 2]),a≠b:=fun rs a ha b hb e=>by
   obtain⟨j,r,hj,rfl⟩:=hold a ha;obtain⟨r',_,rfl⟩:=gi.1 hb;simp only [ry,Kx.i.injEq,bu,bn] at e;omega
  cases ub n (2*(k:Int))<;>cases ub n (2*(k:Int)+1)<;>simp only [eG,gj,oz]
  . exact ih
  . rw [WA,Ek];exact⟨ih,by simp [eE],fun a ha b hb=>F9 [2,3,4] a ha b (by simpa [eE] using hb)⟩
  . rw [WA,Ek];exact⟨ih,by simp [eE],fun a ha b hb=>F9 [0,1] a ha b (by simpa [eE] using hb)⟩
  . rw [fR,WA,Ek];exact⟨ih,by simp [eE],fun a ha b hb=>F9 [0,1,2,3,4] a ha b (by simpa [eE] using hb)⟩
theorem VD(l):pc l = [Nb]\/pc l=iR l (min l.length 12)/\iR l (min l.length 12) ≠ []:=by
 unfold pc
 cases hE:iR l (min l.length 12) with
 | nil=>exact .inl rfl
 | cons x xs=>exact .inr ⟨rfl,by simp⟩
theorem agX(l):1<=(pc l).length/\(pc l).length<=12:=by
 rcases VD l with h|⟨h,h2⟩
 . rw [h]; simp
 . rw [h];have:=Vx l (min l.length 12);have:=List.length_pos_iff.2 h2;omega
def Ni(c:dv):Prop:=(0<=c.cX/\c.cX<=4)/\(0<=c.row/\c.row<=4)/\(2<=c.cY/\c.cY<=5)/\(c.ma=0/\c.xP=500000000/\c.xQ=500000000/\c.xR=0/\c.fT = [])/\(-26000<=c.x/\c.x<=26000)/\(-5000<=c.y/\c.y<=5000)/\2000<=c.z/\c.z<=20000
theorem Ib{l:List iV}(hw:∀ p∈l,mJ p):∀ c∈pc l,Ni c:=by
 intro c hc;rcases VD l with h|⟨h,_⟩
 . rw [h,jD] at hc;subst hc;simp [Ni,Nb]
 . rw [h] at hc;obtain⟨p,⟨⟨a1,a2⟩,⟨b1,b2⟩,c1,c2⟩,rfl⟩:=VB hw (Nat.min_le_left _ _) c hc;simp only [Ni,pb,bu,bn];cases p.fl<;>simp only [eG,gj]<;>omega
theorem awg(h:Ni c):jR c=true:=by
 obtain⟨h1,h2,h3,⟨h4,h5,h6,h7,h8⟩,h9,oF,qS⟩:=h;unfold jR lZ sy;rw [h8,h4,h5,h6,h7];simp [ny];omega
theorem awh(l):((pc l).map fK).Nodup:=by
 rcases VD l with h|⟨h,_⟩
 . rw [h]; simp
 . rw [h]; exact agU _ _
theorem awi{l:List iV}(hw:∀ p∈l,mJ p):im (vE l n)=true:=by
 have h1:=agX l;have h2:=Vy n 5;have hk:(vx (vE l n)).Nodup:=by
  unfold vx vE;rw [Ek];refine⟨awh l,agW n 5,fun a ha b hb e => ?_⟩;obtain⟨c,_,rfl⟩:=gi.1 ha;obtain⟨x,_,hx⟩:=WG.1 hb;obtain⟨r,_,rfl⟩:=agV hx;unfold fK at e;simp only [ry,Kx.i.injEq,bu,bn] at e;have e3:=e.2.2;cases hd:c.fl<;>rw [hd] at e3<;>simp at e3
 have hc:(vE l n).aD.all jR=true:=dL.2 fun c hc=>awg (Ib hw c hc);have hv:(vE l n).dG.all nD=true:=dL.2 fun x hx=>by
  obtain⟨j,hj,hb,hr⟩:=Nh n 5 x hx;unfold nD;rw [hb];have r1:lZ 30 [0,1]=true:=by decide
  have r2:lZ 30 [2,3,4]=true:=by decide
  have r3:(0:Int)<=(j:Int)/\(j:Int)<40:=oo
  rcases hr with hr|hr<;>rw [hr]<;>simp [r1,r2,r3]
 unfold im;rw [hc,hv,dP hk];simp only [ib,eu,ax,aL];exact⟨h1.1,by show (pc l).length<=200; omega,by show (pd n 5).length<=40; omega⟩
theorem agY{l:List iV}(hw:∀ p∈l,mJ p):od (vE l n):=by
 refine⟨fun c hc => ?_,fun x hx => ?_⟩
 . obtain⟨h1,h2,h3,⟨h4,h5,h6,h7,h8⟩,_⟩:=Ib hw c hc;rw [h8];exact⟨by simp,ii⟩
 . obtain⟨j,hj,hb,hr⟩:=Nh n 5 x hx;rcases hr with hr|hr<;>rw [hr]<;>simp
theorem awj{d:iW}(h:rf d)(hi:i<=1000):nv (rh i d)=true:=by
 obtain⟨h1,h2⟩:=h;unfold nv gN rh;cases d.small<;>cases d.high<;>simp [vl,Bf,si,j3]<;>omega
theorem agZ{l:List iW}{k:Nat}(hi:i<k):(jU l k)[i]? = some (rh i (l.getD i Tc.gq.aa)):=by
 unfold jU;rw [ga,IG hi];rfl
theorem awk(i)(d):(rh i d).num=si:=rfl
theorem awl{l:List iW}{k:Nat}(hw:∀ d∈l,rf d)(hk:k<=l.length)(bU:k<=1000)(i)(hi:i<k):lX (jU l k) i=false:=by
 have hs:vo (jU l k) i (rh i (l.getD i Tc.gq.aa)).num=false:=by
  unfold vo;rw [zz];intro b hb;have aW:=sR hb;unfold jU at aW;obtain⟨j,_,rfl⟩:=gi.1 aW;simp [awk]
 have hb:=awj (hw _ (gw Tc.gq.aa (show i<l.length from oo))) (show i<=1000 from oo);have hid:decide ((rh i (l.getD i Tc.gq.aa)).id<=vp (jU l k) i)=false:=by
  rw [fQ];unfold vp;by_cases h0:i=0
  . rw [aC h0];show ¬ (5*((i:Int)+1)<=0)
    omega
  . rw [aw h0,agZ (show i - 1<k from oo)];show ¬ (5*((i:Int)+1)<=5*(((i - 1:Nat):Int)+1))
    omega
 unfold lX;rw [agZ hi];simp only [hs,hid,hb,fS,gg]
theorem awm{l:List iW}{k:Nat}(hw:∀ d∈l,rf d)(hk:k<=l.length)(bU:k<=1000):jP (jU l k)=(-1,0):=by
 unfold jP;rw [Ia,aw oo];have:(List.range k).find? (lX (jU l k))=none:=by
  rw [ID];intro i hi;rw [awl hw hk bU i (gA.1 hi)];simp
 rw [this]
theorem ag0{id:Int}(h:(bK bs id).2=true):bK (bs ++ [b]) id=bK bs id:=by
 unfold bK at h ⊢;rw [List.find?_append]
 cases hf:bs.find? (p9 id) with
 | none=>rw [hf] at h; cases h
 | some x=>rfl
theorem ag1{k:Nat}(h:mI cs bs st k=true):(bK bs (st.getD k Tc.al.aa).box).2=true:=by
 unfold mI at h;simp only [ax] at h;exact h.1.1
theorem VE(h:dO s bs st=true):∀ x∈st,(bK bs x.box).2=true:=by
 intro x hx;unfold dO at h;simp only [ax,aL] at h;obtain⟨j,hj⟩:=kT.1 hx;obtain⟨ah,he⟩:=cF.1 hj;have:=ag1 (h.2.1 j ah);rwa [aX,hj] at this
theorem ag2(h:∀ x∈st,(bK bs x.box).2=true)(c z):fy (bs ++ [b]) st c z=fy bs st c z:=by
 unfold fy;congr 1;refine Ei fun x hx => ?_;unfold lE;rw [ag0 (h x hx)]
theorem awn(h:dO s bs st=true):dO s (bs ++ [b]) st=true:=by
 have hf:=VE h;unfold dO at h ⊢;simp only [ax,aL] at h ⊢;refine⟨h.1,fun k hk => ?_,fun c hc => ?_⟩
 . have h1:=h.2.1 k hk;have h2:=ag0 (b:=b) (ag1 h1);unfold mI at h1 ⊢;rw [h2];exact h1
 . have h1:=h.2.2 c hc;unfold tU at h1 ⊢;rw [ag2 hf,ag2 hf];exact h1
theorem awo(h:im s=true)(h0:∀ c∈s.aD,c.ma=0):dO s [] []=true:=by
 unfold dO;simp only [h,eu,ax,aL];refine⟨fun k hk=>absurd hk (by simp),fun c hc => ?_⟩;unfold tU;rw [h0 _ (gw Tc.au.aa (show ((c:Int)).toNat<s.aD.length by simpa using hc))];rfl
theorem ag3{s:bC}{l:List iW}(h:im s=true)(h0:∀ c∈s.aD,c.ma=0):∀ k,dO s (jU l k) (oq s l k)=true
 | 0=>awo h h0
 | k+1=>by
  have ih:=awn (b:=rh k (l.getD k Tc.gq.aa)) (ag3 (l:=l) h h0 k);rw [<- agQ] at ih;unfold oq;split
  . rename_i x hx;have:=List.find?_some hx;unfold Nf at this;simp only [ax] at this;exact this.2
  . exact ih
/- Made -/
def BE(l:List iV)(n:Int):bC:=vE l n
def uc(d:List iW):List aJ:=jU d (min d.length 16)
def BF(l:List iV)(n:Int)(d:List iW):List az:=oq (vE l n) d (min d.length 16)
theorem awp{l:List iV}(hw:∀ p∈l,mJ p):dO (BE l n) (uc d) (BF l n d)=true :=
 ag3 (awi hw) (fun c hc=>(Ib hw c hc).2.2.2.1.1) _
theorem awq{l:List iV}(hw:∀ p∈l,mJ p)(hd:∀ x∈d,rf x):hZ (BE l n) (uc d) (BF l n d)=true:=by
 unfold hZ;rw [awp hw,show (jP (uc d)).2=0 by unfold uc; rw [awm hd (Nat.min_le_left _ _) oo]];rfl
theorem awr(l)(n)(d):(BF l n d).length<=16:=by
 have:=Vz (vE l n) d (min d.length 16);unfold BF;omega
theorem aws(d):vA (uc d):=by
 refine⟨by unfold uc; rw [Ia]; omega,fun b hb => ?_⟩;unfold uc jU at hb;obtain⟨i,_,rfl⟩:=gi.1 hb;show (0:Nat)<=_
 omega
def ag4:aN:=qR 15 SE SG SF (fun l n d=>((∀ p∈l (),mJ p)/\(l ()).length<=140737488351232)/\(0<=n ()/\n ()<=4294967295)/\(∀ x∈d (),rf x)/\(d ()).length<=140737488351232) (fun l n d => .ba [.agg (LJ fun _=>BE (l ()) (n ())),.sl true .box fun _=>uc (d ()),.sl true .al fun _=>BF (l ()) (n ()) (d ())])
theorem awt:aU Tryz.prog ag4:=by
 refine cD [agN,agS] ⟨avZ,awd,trivial⟩ Tryz.func15 (by kernel_rfl) fun ai res h hp => ?_;obtain⟨(l:List iV),(n:Int),(d:List iW),rfl,rfl⟩:=tE h;clear h;obtain⟨⟨h1,h2⟩,h3,h4,h5⟩:((∀ p∈l,mJ p)/\l.length<=140737488351232)/\(0<=n/\n<=4294967295)/\(∀ x∈d,rf x)/\d.length<=140737488351232:=hp;refine⟨[],?_⟩
 conv=>arg 1; cbv
 simp (maxSteps:=4000000) only [aK];have hc:=agX l;have pP:=Ib h1;refine⟨⟨h1,h3,h2⟩,⟨⟨agY h1,fun h0 => ?_,?_,fun c hx => ?_⟩,h4,oo,h5⟩,rfl,rfl,rfl,rfl,rfl,rfl,rfl,rfl,rfl,rfl,rfl,rfl,rfl,rfl,rfl⟩
 . have h6:pc l = []:=h0;rw [h6] at hc;simp at hc
 . show (pc l).length<=1000
   omega
 . have:=(pP c hx).2.2.1;omega
theorem awu{s x:Ld}(hs:fB s=true)(hx:fB x=true)(h:s.aq+x.aq<=500000000):fB (s.add x)=true:=by
 unfold fB nw iN Ld.add at *
 simp only [ax,aL] at *
 omega
theorem ag5{s:Ld}(hs:fB s=true):(0<=s.aq/\s.aq<=500000000)/\(-550000000000000<=s.x/\s.x<=550000000000000)/\(-550000000000000<=s.y/\s.y<=550000000000000) /\ -550000000000000<=s.z/\s.z<=550000000000000:=by
 unfold fB nw iN at hs;simp only [ax,aL] at hs;omega
theorem awv(l):(⟨l.aq,l.x,l.y,l.z⟩:Ld)=l:=rfl
def sG(m:pz):Ld:=(mG m.box.aq m.x m.y m.h).1
def qh(s:bC)(bs:List aJ)(l:List az):Ld×Int:=cond (hZ s bs l) (o7 ((sD s.aD bs (aQ l)).map sG)) (fi,2)
def VF:aN:=qR 19 tF r7 y0 (fun s bs l=>od (s ())/\vA (bs ())/\(l ()).length<=40) (fun s bs l => .ba [.agg (Dl fun _=>(qh (s ()) (bs ()) (l ())).1),.int .i64 fun _=>(qh (s ()) (bs ()) (l ())).2])
def aww(ms:Unit->List pz):Lp where
 X:=Nat
 ov k := [(27,.int .i64 fun _=>(k:Int)),(10,.own 2)]
 oe k := [(2,.row true .ld 73 fun _=>((ms ()).take k).map sG)]
 I k:=k<=(ms ()).length
 μ k _:=(ms ()).length - k
 x0:=0
 nx:=some fun k=>k+1
theorem ag6:aU Tryz.prog VF:=by
 refine cD [agm,T8,Mu] ⟨avn,aeh,T9,trivial⟩ Tryz.func19 (by kernel_rfl) fun ai res h hp => ?_;obtain⟨(s:bC),(bs:List aJ),(l:List az),rfl,rfl⟩:=tE h;clear h;have eM:od s/\vA bs/\l.length<=40:=hp;have h1:=eM.1;have h2:=eM.2.1;have h3:=eM.2.2;refine bW (sD s.aD bs (aQ l)) fun ms VG => ?_;have hlen:ms.length<=40:=by
  rw [<- VG];unfold sD;rw [Vf];have:=(ua l).length_eq;omega
 refine⟨[(6,aww fun _=>ms)],?_⟩
 conv=>arg 1; cbv
 refine⟨⟨h1,h2,h3⟩,fun g => ?_,fun g => ?_⟩
 . have g':(!hZ s bs l)=true:=g;simp only [jf] at g';have hc:qh s bs l=(fi,2):=by unfold qh; rw [g']; rfl
   simp (maxSteps:=4000000) only [aK];rw [hc];simp [fi]
 have g':(!hZ s bs l)=false:=g;simp only [ke] at g';have hc:qh s bs l=o7 (ms.map sG):=by unfold qh; rw [g',VG]; rfl
 clear g;refine⟨?_,fun (k:Nat) hk => ?_⟩
 . exact xf
 have e9:k<=ms.length:=hk
 conv=>arg 1; cbv
 simp (maxSteps:=4000000) only [aK];simp only [VG,g',eG,awv,H4];refine⟨fun g1 => ?_,fun g1 => ?_⟩
 . have ah:k<ms.length:=oo
   have e1:(ms.take (k+1)).map sG=(ms.take k).map sG ++ [sG (ms.getD k Tc.mid.aa)]:=by rw [qa Tc.mid.aa ah,jg]; rfl
   rw [e1];refine⟨oo,trivial,?_,⟨oo,oo⟩,⟨oo,oo⟩,oo,?_⟩
   . simp only [fk,cL,cB,ej]; omega
   . rfl
 . have cH:ms.length<=k:=oo
   rw [jC cH,hc];refine⟨by rw [fk]; omega,?_⟩;simp
/- BG -/
def cA(l:List Ld):Ld:=l.foldl Ld.add fi
theorem Ld.ext'{a b:Ld}(h1:a.aq=b.aq)(h2:a.x=b.x)(h3:a.y=b.y)(h4:a.z=b.z):a=b:=by
 cases a; cases b; simp only at h1 h2 h3 h4; subst h1; subst h2; subst h3; subst h4; rfl
theorem Ic(a b c:Ld):(a.add b).add c=a.add (b.add c):=by unfold Ld.add; apply Ld.ext'<;>simp only<;>omega
theorem ag7(a b:Ld):a.add b=b.add a:=by unfold Ld.add; apply Ld.ext'<;>simp only<;>omega
theorem add_zero'(a:Ld):a.add fi=a:=by unfold Ld.add fi; apply Ld.ext'<;>simp only<;>omega
theorem zp(a):fi.add a=a:=by rw [ag7,add_zero']
theorem foldl_add:∀ (l) (s:Ld),l.foldl Ld.add s=s.add (cA l)
 | [],s=>(add_zero' s).symm
 | x::l,s=>by
  unfold cA;simp only [Ep];rw [foldl_add l,foldl_add l (fi.add x),zp,Ic]
theorem pf(x)(l):cA (x::l)=x.add (cA l):=by
 show l.foldl Ld.add (fi.add x)=_
 rw [foldl_add,zp]
theorem Ie(l m):cA (l++m)=(cA l).add (cA m):=by
 unfold cA;rw [N0,foldl_add];rfl
theorem Nj:∀ (l),(∀ x∈l,fB x=true)->(cA l).aq<=500000000->fB (cA l)=true/\∀ k,0<=(cA (l.take k)).aq/\(cA (l.take k)).aq<=(cA l).aq
 | [],_,_=>⟨by decide,fun k=>by simp [cA,fi]⟩
 | x::l,h,hs=>by
  rw [pf] at hs ⊢;have hx:=ag5 (h x (.head _));have jJ:(x.add (cA l)).aq=x.aq+(cA l).aq:=rfl;have hl:(cA l).aq<=500000000:=oo
  obtain⟨h1,h2⟩:=Nj l (fun y hy=>h y (.tail _ hy)) hl;refine⟨awu (h x (.head _)) h1 oo,fun k => ?_⟩
  cases k with
  | zero =>
   have:=ag5 h1;simp only [Er];show 0<=(0:Int)/\(0:Int)<=_
   omega
  | succ k =>
   rw [IF,pf];have h3:=h2 k;show 0<=x.aq+_/\x.aq+_<=x.aq+_
   omega
theorem ag8:∀ (l) (s),(∀ k,0<=(s.add (cA (l.take k))).aq/\(s.add (cA (l.take k))).aq<=500000000)->sj s l=(s.add (cA l),0)
 | [],s,_=>by rw [show cA []=fi from rfl,add_zero']; rfl
 | x::l,s,h=>by
  unfold sj;have h1:=h 1;rw [IF,Er,pf,show cA []=fi from rfl,add_zero'] at h1;have pQ:0<=s.aq+x.aq/\s.aq+x.aq<=500000000:=h1;rw [aC (vq.2 pQ),ag8 l (s.add x) (fun k=>by
   have h2:=h (k+1);rw [IF,pf,<- Ic] at h2;exact h2),pf,Ic]
theorem VH{l:List Ld}(h:∀ x∈l,fB x=true)(hs:(cA l).aq<=500000000):o7 l=(cA l,0):=by
 unfold o7;have h0:l.any Bh=false:=by
  rw [zz];intro x hx;unfold Bh;rw [h x hx];simp
 rw [aw (by rw [h0]; simp),ag8 l fi (fun k=>by
  rw [zp];have:=(Nj l h hs).2 k
  omega),zp]
def xn(m:pz):Ld:=⟨m.box.aq,m.box.aq*m.x,m.box.aq*m.y,m.box.aq*m.h⟩
theorem awx{k:Nat}(h:m∈vz cs bs L k):∃ j,j<k/\m=zl cs bs (je bs (L.take j)) (L.getD j Tc.al.aa):=by
 unfold vz at h;obtain⟨j,hj,rfl⟩:=gi.1 h;exact⟨j,gA.1 hj,rfl⟩
theorem ag9(h:∀ b∈bs,0<=b.aq/\b.aq<=B)(hB:0<=B)(id):0<=(bK bs id).1.aq/\(bK bs id).1.aq<=B:=by
 unfold bK;split
 . rename_i b hb;exact h b (azh hb)
 . exact⟨rD _,hB⟩
structure Small (s:bC) (bs:List aJ) (l:List az):Prop where
 D1:hZ s bs l=true
 aq:∀ b∈bs,0<=b.aq/\b.aq<=27000
 sH:l.length<=16
 aD:∀ c∈s.aD,(-60000<=c.x/\c.x<=60000)/\(-60000<=c.y/\c.y<=60000) /\ -60000<=c.z/\c.z<=60000
theorem Small.VI(h:Small s bs l):dO s bs l=true:=by
 have:=h.D1;unfold hZ at this;simp only [ax] at this;exact this.2
theorem Small.au(h:Small s bs l)(hx:x∈aQ l):x.au.toNat<s.aD.length/\0<=x.au:=by
 have:=Vh h.VI ((ua l).mem_iff.1 hx);omega
theorem Small.mid(h:Small s bs l):∀ m∈sD s.aD bs (aQ l),(0<=m.box.aq/\m.box.aq<=27000)/\(-64000<=m.x/\m.x<=64000)/\(-64000<=m.y/\m.y<=64000) /\ -400000<=m.h/\m.h<=400000:=by
 intro m hm;have hlen:(aQ l).length<=16:=by rw [(ua l).length_eq]; exact h.sH
 obtain⟨j,hj,rfl⟩:=awx hm;have hc:=h.aD _ (gw Tc.au.aa (h.au (gw Tc.al.aa hj)).1);have ht:=agl bs ((aQ l).take j) (iQ ((aQ l).getD j Tc.al.aa).au ((oh ((aQ l).getD j Tc.al.aa).half).headD 0));rw [cL] at ht;have hb:=tR (bK bs ((aQ l).getD j Tc.al.aa).box).1;refine⟨ag9 h.aq oo _,?_,?_,?_⟩
 . show -64000<=jT _ _/\jT _ _<=64000
   unfold jT;cases decide (((aQ l).getD j Tc.al.aa).half=1)<;>cases decide (((aQ l).getD j Tc.al.aa).half=2)<;>simp only [eG,gj]<;>omega
 . show -64000<=(s.aD.getD _ Tc.au.aa).y/\(s.aD.getD _ Tc.au.aa).y<=64000
   omega
 . show -400000<=2*(_+_)+iB _/\2*(_+_)+iB _<=400000
   omega
theorem aha(h:(0<=m.box.aq/\m.box.aq<=27000)/\(-64000<=m.x/\m.x<=64000)/\(-64000<=m.y/\m.y<=64000) /\ -400000<=m.h/\m.h<=400000):sG m=xn m/\fB (xn m)=true:=by
 constructor
 . exact ahb
 . have arm:∀ x:Int,-400000<=x->x<=400000 -> -(m.box.aq*1100000)<=m.box.aq*x/\m.box.aq*x<=m.box.aq*1100000:=fun x h3 h4=>by
    exact ahc
   exact ahd
theorem ahe:∀ (ms:List pz),(∀ m∈ms,0<=m.box.aq/\m.box.aq<=27000)->0<=(cA (ms.map xn)).aq/\(cA (ms.map xn)).aq<=27000*ms.length
 | [],_=>by simp [cA,fi]
 | m::ms,h=>by
  have h1:=ahe ms fun m hm=>h m (.tail _ hm);have h2:=h m (.head _);rw [gz,pf];show 0<=m.box.aq+_/\m.box.aq+_<=_
  simp only [cB];omega
theorem Small.sum(h:Small s bs l):qh s bs l=(cA ((sD s.aD bs (aQ l)).map xn),0):=by
 unfold qh;rw [h.D1,eG];have hm:=h.mid;have hlen:(sD s.aD bs (aQ l)).length<=16:=by unfold sD; rw [Vf,(ua l).length_eq]; exact h.sH
 have e:(sD s.aD bs (aQ l)).map sG=(sD s.aD bs (aQ l)).map xn:=Ei fun m hx=>(aha (hm m hx)).1;rw [e];refine VH (fun x hx => ?_) ?_
 . obtain⟨m,C2,rfl⟩:=gi.1 hx;exact (aha (hm m C2)).2
 . have:=ahe _ fun m hx=>(hm m hx).1;omega
theorem awy{l:List iV}(hw:∀ p∈l,mJ p)(hd:∀ x∈d,rf x):Small (BE l n) (uc d) (BF l n d):=by
 refine⟨awq hw hd,fun b hb => ?_,awr l n d,fun c hc => ?_⟩
 . unfold uc jU at hb;obtain⟨i,hi,rfl⟩:=gi.1 hb;have h1:=hd _ (gw Tc.gq.aa (show i<d.length by have:=gA.1 hi; omega));obtain⟨_,h2,h3⟩:=h1;show 0<=1000+100*(d.getD i Tc.gq.aa).aq/\1000+100*(d.getD i Tc.gq.aa).aq<=27000
   omega
 . obtain⟨_,_,_,_,h1,h2,h3⟩:=Ib hw c hc;omega
theorem awz{id:Int}(h:(bK bs id).2=true):(bK bs id).1.id=id/\(bK bs id).1∈bs:=by
 unfold bK at h ⊢
 cases hf:bs.find? (p9 id) with
 | none=>rw [hf] at h; cases h
 | some b =>
  have:=List.find?_some hf;unfold p9 at this;exact⟨by simpa using this,azh hf⟩
theorem Nk(h:dO s bs l=true){k:Nat}(hk:k<l.length):mI s.aD bs l k=true:=by
 unfold dO at h;simp only [ax,aL] at h;exact h.2.1 k hk
theorem awA(h:dO s bs l=true)(hx:x∈l):xd (fA x) (l.map fA)=true/\0<=x.aH/\(lW (bK bs x.box).1.size).any (fun y=>decide (x.half=y))=true:=by
 obtain⟨k,hk,rfl⟩:=xy hx;have h1:=Nk h hk;have e:l.getD k Tc.al.aa=l[k]:=by rw [aX,bc hk,ia]
 unfold mI sk at h1;rw [e] at h1;simp only [ax,aL] at h1;exact⟨h1.2.1.2,h1.2.1.1.2.2.1,h1.2.1.1.2.2.2.2⟩
theorem ahf(h:dO s bs l=true)(hx:x∈l):x.half=0/\(bK bs x.box).1.size=40\/(x.half=1\/x.half=2)/\(bK bs x.box).1.size=20:=by
 have h1:=(awA h hx).2.2;unfold lW at h1;by_cases h4:(bK bs x.box).1.size=40
 . rw [aC h4] at h1;simp at h1;exact .inl ⟨h1,h4⟩
 . rw [aw h4] at h1;by_cases h2:(bK bs x.box).1.size=20
   . rw [aC h2] at h1;simp at h1;exact .inr ⟨h1,h2⟩
   . rw [aw h2] at h1;simp at h1
theorem ahg(h:dO s bs l=true)(iu:i<j)(hj):kK (fA l[j]) (fA l[i])=false:=by
 have h1:=Nk h hj;have e:l.getD j Tc.al.aa=l[j]:=by rw [aX,bc hj,ia]
 unfold mI at h1;rw [e] at h1;simp only [ax,aL] at h1;have h2:=h1.2.2 i iu;rwa [aX,ga,bc (show i<l.length from oo)] at h2
theorem awB(a b):kK a b=kK b a:=by
 unfold kK xc;rw [vN];simp only [ax,gR,aL];constructor<;>(rintro⟨h1,h2,h3⟩; refine⟨h1.symm,h2.symm,?_⟩; rcases h3 with h3|h3|h3)<;>simp [h3]
theorem ahh(h:dO s bs l=true)(hx:x∈l)(hy:y∈l)(hm:kK (fA x) (fA y)=true):x=y:=by
 obtain⟨i,hi,rfl⟩:=xy hx;obtain⟨j,hj,rfl⟩:=xy hy;rcases Nat.lt_trichotomy i j with h1|h1|h1
 . rw [awB,ahg h h1 hj] at hm;cases hm
 . subst h1;rfl
 . rw [ahg h h1 hi] at hm;cases hm
/- avi -/
def kO(l:List az)(i:Nat):Int:=(l.getD i Tc.al.aa).aH
theorem ahi(n):∀ (j) (l),j<l.length->n<=l.length->j<n->(∀ i k,i<k->k<n->i≠j->k≠j->kO l i<=kO l k)->(∀ k,j<k->k<n->kO l j<=kO l k)->∀ i k,i<k->k<n->kO (kN jS Tc.al.aa 0 j l) i<=kO (kN jS Tc.al.aa 0 j l) k
 | 0,l,hj,hn,pX,h1,h2,i,k,kJ,hk=>by
  unfold kN;by_cases hi:i=0
  . subst hi; exact h2 k kJ hk
  . exact h1 i k kJ hk hi oo
 | j+1,l,hj,hn,pX,h1,h2,i,k,kJ,hk=>by
  unfold kN;rw [MV];have e0:decide (0<j+1)=true:=by simp
  rw [e0,eu];by_cases ah:(l.getD (j+1) Tc.al.aa).aH<(l.getD j Tc.al.aa).aH
  . rw [dP ah,eG];have hg:∀ q,kO (swapAt Tc.al.aa l j) q=if q=j then kO l (j+1) else if q=j+1 then kO l j else kO l q:=fun q=>by
     unfold kO;rw [UW _ _ _ _ hj];split
     . rfl
     . split<;>rfl
    have Jh:kO l (j+1)<kO l j:=ah;refine ahi n j _ (by rw [zh]; omega) (by rw [zh]; exact hn) oo (fun a b bk hb ha1 c8 => ?_) (fun b hb uJ => ?_) i k kJ hk
    . rw [hg,hg,aw ha1,aw c8];by_cases ha:a=j+1
      . rw [aC ha,aw oo];exact h1 j b oo hb oo oo
      . rw [aw ha];by_cases eP:b=j+1
        . rw [aC eP];exact h1 a j oo oo ha oo
        . rw [aw eP];exact h1 a b bk hb ha eP
    . rw [hg,hg,aC rfl,aw oo];by_cases eP:b=j+1
      . rw [aC eP]; omega
      . rw [aw eP];exact h2 b oo uJ
  . rw [jW ah,gj];have Jh:kO l j<=kO l (j+1):=by unfold kO; omega
    by_cases hi:i=j+1
    . subst hi; exact h2 k kJ hk
    . by_cases bU:k=j+1
      . subst bU;by_cases iu:i=j
        . subst iu; exact Jh
        . have:=h1 i j oo oo hi oo;omega
      . exact h1 i k kJ hk hi bU
theorem ahj(l):∀ (n),n+1<=l.length->∀ i k,i<k->k<n+1->kO (og jS Tc.al.aa 0 l n) i<=kO (og jS Tc.al.aa 0 l n) k
 | 0,hn,i,k,kJ,hk=>oo
 | n+1,hn,i,k,kJ,hk=>by
  unfold og;have hl:=MU jS Tc.al.aa 0 l n;have ih:=ahj l n oo;rw [show 0+1+n=n+1 from oo];exact ahi (n+2) (n+1) _ oo oo oo (fun a b bk hb ha eP=>ih a b bk oo) (fun b hb eP=>absurd hb oo) i k kJ oo
theorem awD(l){k:Nat}(kJ:i<k)(hk:k<l.length):kO (aQ l) i<=kO (aQ l) k:=by
 unfold aQ BA;exact ahj l (l.length - (0+1)) oo i k kJ oo
/- aAH -/
theorem awE{c c':Int}(h:¬ (c=c'/\a=a')):iQ c a≠iQ c' a':=by
 intro e;unfold iQ at e;simp only [ry,Kx.i.injEq,bu,bn] at e;exact h e
theorem awF(m)(hf:(bK bs x.box).2=true)(hh:x.half=0\/x.half=1\/x.half=2)(c)(ha:a=1\/a=2):(sC bs m x (iQ c a)).getD 0=(m (iQ c a)).getD 0+lE bs c a x:=by
 unfold sC qZ lE;rw [aC hf];by_cases hc:x.au=c
 . subst hc;rcases hh with hh|hh|hh<;>rcases ha with ha|ha<;>subst ha<;>simp [hh,oh,eB,iQ]
 . have hn:∀ a',iQ c a≠iQ x.au a':=fun a'=>awE (fun e=>hc e.1.symm);have hz:∀ (hs:List Int) (m:List Kx->Option Int),(hs.foldl (fun m h=>eB m (iQ x.au h) ((m (iQ x.au h)).getD 0+iB (bK bs x.box).1)) m) (iQ c a)=m (iQ c a):=by
    intro hs
    induction hs with
    | nil=>intro m; rfl
    | cons h hs ih =>
     intro m;rw [Ep,ih];unfold eB;rw [aw (hn h)]
   rw [hz,aw (fun e=>hc e.1)];omega
theorem awG(h:∀ x∈l,(bK bs x.box).2=true/\(x.half=0\/x.half=1\/x.half=2))(c)(ha:a=1\/a=2):(je bs l (iQ c a)).getD 0=fy bs l c a:=by
 have:∀ (l:List az) (m:List Kx->Option Int),(∀ x∈l,(bK bs x.box).2=true/\(x.half=0\/x.half=1\/x.half=2))->(l.foldl (sC bs) m (iQ c a)).getD 0=(m (iQ c a)).getD 0+(l.map (lE bs c a)).sum:=by
  intro l
  induction l with
  | nil=>intro m _; simp
  | cons x l ih =>
   intro m h;have hx:=h x (.head _);rw [Ep,ih _ (fun y hy=>h y (.tail _ hy)),awF m hx.1 hx.2 c ha,gz,vO];omega
 have h2:=this l (fun _=>none) h;unfold je fy;rw [h2];simp
theorem ahk(h:dO s bs l=true):∀ x∈l,(bK bs x.box).2=true/\(x.half=0\/x.half=1\/x.half=2):=fun x hx=>⟨VE h x hx,by
 rcases ahf h hx with h1|h1
 . exact .inl h1.1
 . exact .inr h1.1⟩
end Go.Proofs.YtamjbkaclhgffaaGreat
