/-
  Contracts of stow: is a state right?
-/
import Derived.Test.YtlpikgchnjajmaaGreatTp19
set_option linter.all false
set_option maxRecDepth 100000
set_option maxHeartbeats 4000000
namespace Go.Proofs.YtlpikgchnjajmaaGreat
open Go.RowKit
variable{f:FuncId}{r:IQ}{z:Int}{l:List Int}{o:List Nat}{B T a base c d e k m n:Nat}{ρ:Nat->Option Rl}{ra ro:Nat->Prop}{w w':World}{s:aZ}
def mS(cs:List dp)(bs:List aJ)(l:List ay)(k:Nat):Bool :=
 (bZ bs (l.getD k Tc.aq.aa).box).2&&(decide (k=0)||decide ((l.getD (k - 1) Tc.aq.aa).box<(l.getD k Tc.aq.aa).box)) &&
 (r9 cs (fC (l.getD k Tc.aq.aa)) (bZ bs (l.getD k Tc.aq.aa).box).1.size&&wX (fC (l.getD k Tc.aq.aa)) (l.map fC) &&
 decide (∀ j,j<k->kK (fC (l.getD k Tc.aq.aa)) ((l.map fC).getD j Tc.slot.aa)=false))
def ee(s:aZ)(bs:List aJ)(l:List ay):Bool :=
 gu s&&(decide (∀ k,k<l.length->mS s.aE bs l k=true)&&decide (∀ c,c<s.aE.length->tp s.aE bs l c=true))
theorem apR{bs:List aJ}{l:List ay}(hk:k<l.length)(h:mS s.aE bs l k=false):ee s bs l=false:=by
 unfold ee;have:decide (∀ k,k<l.length->mS s.aE bs l k=true)=false:=by
  rw [fR];intro h2;rw [h2 k hk] at h;cases h
 rw [this];simp
theorem apS{x:Slot}(h:gu s=true)(hx:r9 s.aE x z=true):x.aF<=1000000:=by
 unfold r9 at hx;simp only [au,aI] at hx;obtain⟨h1,h2,h3,h4,h5⟩:=hx;unfold gu at h;simp only [au] at h;have h6:=dK.1 h.2.1 _ (lG Tc.ax.aa (show x.ax.toNat<s.aE.length from oo));generalize s.aE.getD x.ax.toNat Tc.ax.aa=c at *
 unfold jQ at h6;simp only [au] at h6;have h7:=dK.1 h6.2 ⟨c.cW,1,10⟩ (by simp [sd]);unfold nB at h7;simp only [au,aI] at h7;omega
def p7(s:aZ):Prop:=(∀ c∈s.aE,c.fS.length<=1000000000000/\aY c.cW)/\∀ x∈s.dh,x.rows.length<=1000000000000
def SE:aH:=lE 144 ou pZ u2 (fun s bs l=>p7 (s ())/\(bs ()).length<=1000000000000/\(l ()).length<=1000000) (fun s bs l => .bool fun _=>ee (s ()) (bs ()) (l ()))
def apT(s:aZ)(bs:List aJ)(l:List ay):Lp where
 X:=Nat
 ov k := [(22,.int .i64 fun _=>(k:Int))]
 oe _ := []
 I k:=k<=l.length/\∀ j,j<k->mS s.aE bs l j=true
 μ k _:=l.length - k
 x0:=0
 nx:=some fun k=>k+1
def apU(x:Slot)(all:List Slot)(k:Nat):Lp where
 X:=Nat
 ov j := [(71,.int .i64 fun _=>(j:Int))]
 oe _ := []
 I j:=j<=k/\∀ i,i<j->kK x (all.getD i Tc.slot.aa)=false
 μ j _:=k - j
 x0:=0
 nx:=some fun k=>k+1
def apV(s:aZ)(bs:List aJ)(l:List ay):Lp where
 X:=Nat
 ov k := [(84,.int .i64 fun _=>(k:Int))]
 oe _ := []
 I k:=k<=s.aE.length/\∀ j,j<k->tp s.aE bs l (j:Int)=true
 μ k _:=s.aE.length - k
 x0:=0
 nx:=some fun k=>k+1
theorem aca:aK Tryz.prog SE:=by
 refine cd [SB,abU,Sf,abW,abJ,abL,abV] ⟨ab7,apy,aby,apA,ao7,ao9,apz,trivial⟩ Tryz.func144 (by kernel_rfl) fun ai res h hp => ?_;obtain⟨(s:aZ),(bs:List aJ),(l:List ay),rfl,rfl⟩:=mO h;clear h;have SF:p7 s/\bs.length<=1000000000000/\l.length<=1000000:=hp;have vR:=SF.1;have sf:=SF.2.1;have hl:=SF.2.2;refine⟨[(5,apT s bs l),(18,apV s bs l)],?_⟩
 conv=>arg 1; cbv
 refine⟨vR,fun g1 => ?_,fun g1=>⟨hl,⟨?_,fun (k:Nat) hk => ?_⟩⟩⟩
 . simp (maxSteps:=4000000) only [aB];unfold ee;simp only [iG] at g1;have tq:gu s=false:=g1;rw [tq];rfl
 . exact u7
 have AM:gu s=true:=by
  have tq:(!gu s)=false:=g1;simpa using tq
 have cR:k<=l.length/\∀ j,j<k->mS s.aE bs l j=true:=hk;have cZ:=cR.1;have cg:=cR.2
 conv=>arg 1; cbv
 refine⟨fun g2 => ?_,fun g2 => ?_⟩
 . have aj:k<l.length:=by simp only [aI,gV] at g2; omega
   refine cL (l.getD k Tc.aq.aa) fun x hx => ?_;refine cL (l.getD (k - 1) Tc.aq.aa) fun y hy => ?_;have lF:mS s.aE bs l k=(((bZ bs x.box).2&&(decide (k=0)||decide (y.box<x.box)))&&((r9 s.aE (fC x) (bZ bs x.box).1.size&&wX (fC x) (l.map fC))&&decide (∀ j,j<k->kK (fC x) ((l.map fC).getD j Tc.slot.aa)=false))):=by rw [<- hx,<- hy]; rfl
   have ox:=apR (s:=s) (bs:=bs) aj;have SG:=wZ (k:=k) cg;refine⟨⟨Vm k,tW g2⟩,sf,fun g3 => ?_,fun g3=>⟨fun g4=>⟨⟨by simp only [gV]; omega,by simp only [gV]; omega⟩,⟨by simp only [aI,gV] at g4 ⊢; omega,by simp only [gV]; omega⟩,fun g5 => ?_,fun g5 => ?_⟩,fun g4 => ?_⟩⟩
   . simp (maxSteps:=4000000) only [aB];refine (ox ?_).symm;have sh:(!(bZ bs (l.getD k Tc.aq.aa).box).2)=true:=g3;rw [lF,<- hx];grind
   . simp (maxSteps:=4000000) only [aB];refine (ox ?_).symm;have sh:(!(bZ bs (l.getD k Tc.aq.aa).box).2)=false:=g3;have g4':decide (0<(k:Int))=true:=g4;have SH:decide ((l.getD k Tc.aq.aa).box<=(l.getD ((k:Int) - 1).toNat Tc.aq.aa).box)=true:=g5;rw [Rz,hx,hy] at SH;rw [lF];grind
   . have ho:(decide (k=0)||decide (y.box<x.box))=true:=by
      have SH:decide ((l.getD k Tc.aq.aa).box<=(l.getD ((k:Int) - 1).toNat Tc.aq.aa).box)=false:=g5;rw [Rz,hx,hy] at SH;grind
     exact no_implicit_lambda% s_1
   . have ho:(decide (k=0)||decide (y.box<x.box))=true:=by
      have g4':decide (0<(k:Int))=false:=g4;grind
     exact no_implicit_lambda% s_1
 . have jJ:l.length<=k:=by simp only [fR,gV] at g2; omega
   refine⟨?_,fun (c:Nat) hc => ?_⟩
   . exact u7
   have acd:c<=s.aE.length/\∀ j,j<c->tp s.aE bs l (j:Int)=true:=hc;have gG:=acd.1;have s8:=acd.2
   conv=>arg 1; cbv
   simp (maxSteps:=4000000) only [aB];have hlen:s.aE.length<=200:=by
    unfold gu at AM;simp only [au,aI] at AM;exact AM.1.2.1
   refine⟨fun g3 => ?_,fun g3 => ?_⟩
   . have h3:c<s.aE.length:=oo
     refine⟨⟨sf,hl,oo,g3⟩,fun g4 => ?_,fun g4=>⟨⟨oo,oo⟩,⟨⟨h3,wZ s8 (by simpa using g4)⟩,oo⟩,oo⟩⟩;unfold ee;have:decide (∀ c,c<s.aE.length->tp s.aE bs l (c:Int)=true)=false:=by
      rw [fR];intro h;rw [h c h3] at g4;cases g4
     rw [this];simp
   . unfold ee;have e1:decide (∀ k,k<l.length->mS s.aE bs l k=true)=true:=by
      rw [aI];exact fun i hi=>cg i oo
     have e2:decide (∀ c,c<s.aE.length->tp s.aE bs l (c:Int)=true)=true:=by
      rw [aI];exact fun i hi=>s8 i oo
     rw [AM,e1,e2];rfl
def CP:List Sg := .bool::List.replicate 16 (.int .u32)
def AV.Lt:AV->Option (Unit->List Int)
 | .sl false .u32 l=>some l
 | _=>none
theorem AV.ace{x:AV}{n:Unit->List Int}(h:x.Lt=some n):x = .sl false .u32 n:=by
 unfold AV.Lt at h;split at h<;>cases h
 rfl
abbrev kN:Kd:=⟨List Int,.sl .u32,fun n => .sl false .u32 n,AV.Lt,AV.ace⟩
def AV.SI:AV->Option (Unit->Int)
 | .int .u64 n=>some n
 | _=>none
theorem AV.apX{x:AV}{n:Unit->Int}(h:x.SI=some n):x = .int .u64 n:=by
 unfold AV.SI at h;split at h<;>cases h
 rfl
abbrev apY:Kd:=⟨Int,.int .u64,fun n => .int .u64 n,AV.SI,AV.apX⟩
def AV.axX:AV->Option (Unit->Wt)
 | .agg [.int .i64 a,.int .i64 b]=>some fun _=>⟨a (),b ()⟩
 | _=>none
def AV.SJ:AV->Option (Unit->bj)
 | .agg l=>rS l
 | _=>none
theorem AV.apZ{x:AV}{n:Unit->bj}(h:x.SJ=some n):x = .agg (aO false .iu n):=by
 unfold AV.SJ at h;split at h
 . rw [(wo h).1]
 . cases h
abbrev ma:Kd:=⟨bj,.agg CP,fun n => .agg (aO false .iu n),AV.SJ,AV.apZ⟩
def AV.axY:AV->Option (Unit->bj)
 | .bg l 0=>rS l
 | _=>none
def Lu(K:Kd):Kd:=⟨K.T,.bg [K.sg],fun f => .bg [K.av f] 0,fun
 | .bg [x] 0=>K.to x
 | _=>none,fun {x f} h=>by
  split at h
  . rw [K.ok h]
  . cases h⟩
def Lv(f:FuncId)(A:Kd)(pre:(Unit->A.T)->Prop)(n:(Unit->A.T)->Nat)(el:(Unit->A.T)->(Unit->Nat)->List AV):It:=⟨f,[A.sg],fun
 | [x0]=>(A.to x0).bind fun a=>some ⟨fun _=>pre a,fun _=>n a,el a⟩
 | _=>none⟩
theorem acf{A:Kd}{pre:(Unit->A.T)->Prop}{n:(Unit->A.T)->Nat}{el:(Unit->A.T)->(Unit->Nat)->List AV}{ai:List AV}(h:(Lv f A pre n el).go ai=some r):∃ (a:A.T),ai = [A.av fun _=>a]/\r=⟨fun _=>pre fun _=>a,fun _=>n fun _=>a,el fun _=>a ⟩:=by
 simp only [Lv] at h;exact aa0
def SK(f:FuncId)(A B:Kd)(pre:(Unit->A.T)->(Unit->B.T)->Prop)(n:(Unit->A.T)->(Unit->B.T)->Nat)(el:(Unit->A.T)->(Unit->B.T)->(Unit->Nat)->List AV):It:=⟨f,[A.sg,B.sg],fun
 | [x0,x1]=>(A.to x0).bind fun a=>(B.to x1).bind fun b=>some ⟨fun _=>pre a b,fun _=>n a b,el a b⟩
 | _=>none⟩
theorem ap0{A B:Kd}{pre:(Unit->A.T)->(Unit->B.T)->Prop}{n:(Unit->A.T)->(Unit->B.T)->Nat}{el:(Unit->A.T)->(Unit->B.T)->(Unit->Nat)->List AV}{ai:List AV}(h:(SK f A B pre n el).go ai=some r):∃ (a:A.T) (b:B.T),ai = [A.av fun _=>a,B.av fun _=>b]/\r=⟨fun _=>pre (fun _=>a) fun _=>b,fun _=>n (fun _=>a) fun _=>b,el (fun _=>a) fun _=>b ⟩:=by
 simp only [SK] at h;exact aa1
def cl(l:List Nat):List Int:=l.map fun (n:Nat)=>n
theorem ap1(l):(cl l).map Int.toNat=l:=by
 unfold cl;rw [DO]
 conv=>rhs; rw [<- List.map_id l]
 exact Nc fun x _=>rfl
theorem lH(l):(cl l).length=l.length:=iQ _
theorem AN(l)(i):(cl l).getD i 0=l.getD i 0:=by
 unfold cl;rw [ba,gY,ba];cases l[i]? <;> rfl
theorem Gq(l m):cl (l++m)=cl l++cl m:=sC
theorem yT(l)(k):(cl l).take k=cl (l.take k):=List.map_take.symm
theorem CQ(l)(k):(cl l).drop k=cl (l.drop k):=List.map_drop.symm
theorem AO(l)(k x:Nat):(cl l).set k x=cl (l.set k x):=List.map_set.symm
theorem Lw(k):List.replicate k 0=cl (List.replicate k 0):=by unfold cl; rw [List.map_replicate]; rfl
theorem Lx(h:∀ d∈l,0<=d/\d<B):∃ m,l=cl m/\di B m:=by
 refine⟨l.map Int.toNat,?_,fun d hd => ?_⟩
 . unfold cl;rw [DO]
   conv=>lhs; rw [<- List.map_id l]
   exact Nc fun x hx=>by have:=h x hx; show x=((x.toNat:Nat):Int); omega
 . obtain⟨x,hx,rfl⟩:=iq.1 hd;have:=h x hx;omega
theorem acg(h:di B o):∀ d∈cl o,0<=d/\d<B:=fun d hd=>by
 obtain⟨x,hx,rfl⟩:=iq.1 hd;have:=h x hx;omega
def bL(n:Nat):List Int:=cl (bf ae n)
def dN(l:List Int):Nat:=bJ ae (l.map Int.toNat)
def ev(l:List Int):Prop:=l=bL (dN l)/\l.length<=1000
def d32(l:List Int):Prop:=(∀ d∈l,0<=d/\d<4294967296)/\l.length<=1000000
theorem p8(l):dN (cl l)=bJ ae l:=by unfold dN; rw [ap1]
theorem ik(n):dN (bL n)=n:=by unfold bL; rw [p8,ue bW]
theorem ew(n):(bL n).length=aL n:=lH _
theorem dE(h:aL n<=1000):ev (bL n):=⟨by rw [ik],by rw [ew]; exact h⟩
theorem mT(h:ev l):∃ n,l=bL n/\aL n<=1000:=⟨dN l,h.1,by rw [<- ew,<- h.1]; exact h.2⟩
theorem CR(h:di ae o)(hl:o.length<=1000000):d32 (cl o):=⟨acg h,by rw [lH]; exact hl⟩
theorem ap2(h:aL n<=1000):d32 (bL n):=CR (di.bf bW n) (e8 h (by decide))
theorem si(n i):(bL n).getD i 0=(bf ae n).getD i 0:=AN _ _
theorem ach(n k:Nat)(hk:k<=64):lV .shr .u64 n k=(n / 2^k:Nat):=by
 unfold lV;rw [show min (Int.toNat (k:Int)) IntKind.u64.bits=k by rw [dV]; exact DI hk];show (n:Int).fdiv (2^k)=_
 rw [ahf _ (by exact_mod_cast cm (2^k))]
 exact_mod_cast rfl
theorem Gr(n:Nat):lV .shr .u64 n 32=(n / 4294967296:Nat):=ach n 32 (by decide)
theorem ap3(n:Nat):lV .shr .u64 n 63=(n / 9223372036854775808:Nat):=ach n 63 (by decide)
theorem fV(h:n<18446744073709551616):IntKind.u64.wrap n=n:=wrap_u64 oo oo
theorem aci(ha:a<4294967296):lV .shl .u64 a 32=(a*4294967296:Nat):=by
 unfold lV;show IntKind.u64.wrap ((a:Int)*4294967296)=_
 rw [wrap_u64 oo oo];omega
theorem acj(ha:a<4294967296)(hd:d<4294967296):sP .or .u64 (a*4294967296:Nat) d=(a*4294967296+d:Nat):=by
 have h:=bits_join .u64 64 (by decide) (fun n h0 h1=>wrap_u64 h0 h1) 32 ((a*4294967296:Nat):Int) (d:Int) oo oo oo oo oo oo;exact h.trans oo
theorem Ly(n):IntKind.u64.wrap n=n % 18446744073709551616:=by
 unfold IntKind.wrap;simp [IntKind.bits,IntKind.signed]
theorem ack{r:Nat}(h:z=m)(hm:m=r+18446744069414584320/\r<4294967296\/m+4294967296=r/\r<8589934592):lV .shr .u64 z 63=(1 - r / 4294967296:Nat)/\IntKind.u32.wrap z=(r % 4294967296:Nat):=by
 rw [h,ap3,wrap_u32];constructor
 . congr 1;omega
 . congr 1;omega
theorem acm{o r:Nat}(hd:d<4294967296)(hr:r+e+o=d+4294967296):lV .shr .u64 (IntKind.u64.wrap (IntKind.u64.wrap (d - o) - e)) 63=(1 - r / 4294967296:Nat)/\IntKind.u32.wrap (IntKind.u64.wrap (IntKind.u64.wrap (d - o) - e))=(r % 4294967296:Nat) :=
 ack (m:=(d+18446744073709551616 - e - o) % 18446744073709551616) (by rw [Ly,Ly]; omega) oo
theorem ap4{o r:Nat}(hd:d<4294967296)(hr:r+o=d+4294967296):lV .shr .u64 (IntKind.u64.wrap (d - o)) 63=(1 - r / 4294967296:Nat)/\IntKind.u32.wrap (IntKind.u64.wrap (d - o))=(r % 4294967296:Nat) :=
 ack (m:=(d+18446744073709551616 - o) % 18446744073709551616) (by rw [Ly]; omega) oo
def giveUp(f:FuncId):fk:=⟨f,[],0,fun _ _=>none,false⟩
theorem acn{fn : Func}(hf : Tryz.prog.funcs[f]? = some fn)(hb : (fn.body.isNone || fn.name == "runtime.NumGoroutine") = false) : gp Tryz.prog (giveUp f) := by
 simp only [jZ] at hb;exact⟨fun args w=>wT hf hb.1 hb.2 args w,fun ai es res h=>by cases h⟩
theorem SL{t:Tc}{l:Unit->List t.el}{A:Option Addr}(f)(ht:∀ x,(aO true t fun _=>x).all AV.flat=true)(hf:∀ x,(aO true t fun _=>x).map AV.valOf=f x)(hρ:∀ l,ρ l=none)(l6:∀ b,ra b->b<w.heap.size)(hb:cU w w')(ho:cy w' w.heap.size T t.size A c ((l ()).map f)):∃ ρ1 eV,Left w w' ρ ρ1 ra eV [(0,.row true t T l)] false/\ah w' ρ1 w.heap.size eV (.own 0) (.slice A (l ()).length c):=by
 have hr:∀ l' r,fe ρ 0 (.row A (l ()).length c) l'=some r->l'=0/\r = .row A (l ()).length c:=by
  intro l' r h;unfold fe at h;split at h
  . rename_i e;cases h;exact⟨e,rfl⟩
  . rw [hρ] at h;cases h
 have EG:∀ b,(Rl.row A (l ()).length c).ca=some b->w.heap.size<=b/\b<w'.heap.size:=by
  intro b h;simp only [Rl.ca] at h;obtain⟨a,ha,rfl⟩:=kV.1 h;exact ho.lt ha
 refine⟨fe ρ 0 (.row A (l ()).length c),ra,⟨?_,fun l' e he => ?_,fun l1 l2 r r' b aT h1 h2 _ _ => ?_,fun l' cp => ?_,fun l' r b h sR => ?_,fun b aW => ?_,fun l' r h _=>by rw [hρ] at h; cases h⟩,.own 0 A _ c (iL _ _ _)⟩
 . exact⟨hb.os,hb.tape,hb.output,hb.size,fun k hk _=>hb.block k hk⟩
 . simp only [ak] at he;split at he
   . rename_i e0;have:l'=0:=by simpa using (b9.1 e0).symm
     subst this;cases he;refine⟨A,c,(l ()).map f,iL _ _ _,ho,by simp,fun k cs j x v hk hx hv => ?_⟩;rw [gY] at hk
     cases nS:(l ())[k]? with
     | none=>rw [nS] at hk; cases hk
     | some y =>
      rw [nS] at hk;injection hk with hk;subst hk;have hy:(l ()).getD k t.aa=y:=by rw [ba,nS]; rfl
      rw [hy] at hx;have hE:aQ w' (fe ρ 0 (.row A (l ()).length c)) w.heap.size ra (aO true t fun _=>y) (f y):=by
       rw [<- hf];exact FZ (ht y)
      exact hE.2 j x v hx hv
   . cases he
 . exact absurd ((hr _ _ h1).1.trans (hr _ _ h2).1.symm) aT
 . have:l'≠0:=by
    rintro rfl
    simp [dI,bF] at cp
   unfold fe;rw [ar this,hρ]
 . obtain⟨rfl,rfl⟩:=hr _ _ h;have h3:=EG b sR;exact⟨h3.2,fun h4=>by have:=l6 b h4; omega,.inl h3.1⟩
 . exact⟨iP (l6 b aW) hb.size,fun _=>aW⟩
def nE.cells(x:Int):List Value := [.int .u32 x]
theorem ah.ap5{v:Value}{fr:Bool}{l:Unit->List Int}(h:ah w ρ base ro (.sl fr .u32 l) v):∃ A c,v = .slice A (l ()).length c/\(l ()).length<=c/\Rd w w.heap.size 1 A ((l ()).map nE.cells):=ah.F0 (t := .u32) (l:=l) nE.cells (fun _=>rfl) (fun _=>rfl) h
theorem nE.ei:EI Tryz.prog 153 52 1 4:=EI.mk Tryz.underlying153 aio rfl (by decide)
theorem nE.Ec(l:List Int):∀ cs∈l.map nE.cells,∀ u∈cs,u.oneCell'=true:=by
 intro cs hc u hu;obtain⟨x,_,rfl⟩:=iq.1 hc;simp only [nE.cells,fZ,No,Ib] at hu;subst hu;rfl
theorem ap6(A)(c)(l:List Int)(n)(hn:n=l.length)(w)(hA:Rd w w.heap.size 1 A (l.map nE.cells))(hl:l.length<=1000000) :
 Calls Tryz.prog 170 #[.slice A n c] w fun e w'=>∃ A' c',e = .returned (.slice A' l.length c')/\cy w' w.heap.size 52 1 A' c' (l.map nE.cells)/\Below w.heap.size w w':=by
 subst hn
 cases A with
 | none =>
  have kZ:l = []:=by
   rcases l with _|⟨x,l⟩
   . rfl
   . obtain⟨_,_,h,_⟩:=hA 0 (nE.cells x) rfl;cases h
  subst kZ;have heq:=fun w=>Go.Lib.run_eql_slice_nil (P:=Tryz.prog) w 153 52 none 0 c 0 0 Tryz.underlying153
  go_enter Tryz.func170,Tryz.ntmps170
  exact SM
 | some ad =>
  have heq:=fun w=>Go.Lib.run_eql_slice_nil (P:=Tryz.prog) w 153 52 (some ad) l.length c 0 0 Tryz.underlying153;have cN:Below w.heap.size w (w.alloc (Obj.cells #[] 52)):=(cA _ _).alloc (az _) _;have yU:=aX ((hA.below cN (az _)).more cN.size);have Gs:=aX (cy.Ob w w.heap.size 52 1 (az _));have CS:=aX cN;clear hA cN
  go_enter Tryz.func170,Tryz.ntmps170
  go_wp2_with (first
   | (at_builtin; go_loud (refine NN rfl _ _ rfl nE.ei 0 rfl rfl Gs.out rfl _ yU.out (by simp) (nE.Ec l) (by unfold maxLen; simp; omega) (by simp; omega) CS.out.size ?_); intro A4 c4 w4 SN hg4 SO))
  exact SP
def Lz:fk:=⟨170,[.sl .u32],0,fun ai es=>match ai,es with
 | [x],[]=>x.Lt.bind fun l=>some ⟨fun _=>(l ()).length<=1000000,.own 0,[(0,.row true .u32 52 l)]⟩
 | _,_=>none,false⟩
theorem acp:gp Tryz.prog Lz:=by
 refine⟨fun args w=>wT Tryz.func170 (by kernel_rfl) (by kernel_rfl) args w,fun ai es res h w ρ ra dt l6 hE kC ja cK bC hp => ?_⟩;simp only [Lz] at h;split at h
 case h_2=>cases h
 rename_i x;simp only [lK,bI] at h;obtain⟨l,e0,rfl⟩:=h;obtain rfl:=AV.ace e0;obtain⟨v0,ve,rfl,jP,h0⟩:=hE.head;obtain rfl:=h0.none;obtain⟨A0,q0,rfl,oU,r8⟩:=jP.ap5;refine (ap6 A0 q0 (l ()) _ rfl w r8 hp).mono fun e w' ⟨A',c',k1,k2,k3⟩ => ?_;obtain⟨ρ1,eV,hL,hv⟩:=SL (t := .u32) (l:=l) nE.cells (fun _=>rfl) (fun _=>rfl) (fun l=>cK l (cm _)) l6 k3 k2;exact⟨_,ρ1,eV,k1,hL,hv⟩
theorem ap7(A:Option Addr)(c:Nat)(l:List ay)(n:Nat)(hn:n=l.length)(w:World)(hA:Rd w w.heap.size 4 A (l.map ay.cells))(hl:l.length<=1000000) :
 Calls Tryz.prog 145 #[.slice A n c] w fun e w'=>∃ A' c',e = .returned (.slice A' l.length c')/\cy w' w.heap.size 98 4 A' c' (l.map ay.cells)/\Below w.heap.size w w':=by
 subst hn
 cases A with
 | none =>
  have kZ:l = []:=by
   rcases l with _|⟨x,l⟩
   . rfl
   . obtain⟨_,_,h,_⟩:=hA 0 x.cells rfl;cases h
  subst kZ;have heq:=fun w=>Go.Lib.run_eql_slice_nil (P:=Tryz.prog) w 34 98 none 0 c 0 0 Tryz.underlying34
  go_enter Tryz.func145,Tryz.ntmps145
  exact SM
 | some ad =>
  have heq:=fun w=>Go.Lib.run_eql_slice_nil (P:=Tryz.prog) w 34 98 (some ad) l.length c 0 0 Tryz.underlying34;have cN:Below w.heap.size w (w.alloc (Obj.cells #[] 98)):=(cA _ _).alloc (az _) _;have yU:=aX ((hA.below cN (az _)).more cN.size);have Gs:=aX (cy.Ob w w.heap.size 98 4 (az _));have CS:=aX cN;clear hA cN
  go_enter Tryz.func145,Tryz.ntmps145
  go_wp2_with (first
   | (at_builtin; go_loud (refine NN rfl _ _ rfl ay.ei 0 rfl rfl Gs.out rfl _ yU.out (by simp) (ay.Ec l) (by unfold maxLen; simp; omega) (by simp; omega) CS.out.size ?_); intro A4 c4 w4 SN hg4 SO))
  exact SP
def SQ:fk:=⟨145,[.sl .aq],0,fun ai es=>match ai,es with
 | [x],[]=>x.K5.bind fun l=>some ⟨fun _=>(l ()).length<=1000000,.own 0,[(0,.row true .aq 98 l)]⟩
 | _,_=>none,false⟩
theorem ap8:gp Tryz.prog SQ:=by
 refine⟨fun args w=>wT Tryz.func145 (by kernel_rfl) (by kernel_rfl) args w,fun ai es res h w ρ ra dt l6 hE kC ja cK bC hp => ?_⟩;simp only [SQ] at h;split at h
 case h_2=>cases h
 rename_i x;simp only [lK,bI] at h;obtain⟨l,e0,rfl⟩:=h;obtain rfl:=AV.aa7 e0;obtain⟨v0,ve,rfl,jP,h0⟩:=hE.head;obtain rfl:=h0.none;obtain⟨A0,q0,rfl,oU,r8⟩:=jP.apo;refine (ap7 A0 q0 (l ()) _ rfl w r8 hp).mono fun e w' ⟨A',c',k1,k2,k3⟩ => ?_;obtain⟨ρ1,eV,hL,hv⟩:=SL (t := .aq) (l:=l) ay.cells (fun _=>rfl) (fun _=>rfl) (fun l=>cK l (cm _)) l6 k3 k2;exact⟨_,ρ1,eV,k1,hL,hv⟩
section
variable{α:Type}
def swapAt(d : α)(l:List α)(j:Nat):List α:=(l.set (j+1) (l.getD j d)).set j (l.getD (j+1) d)
def kO(lt : α -> α->Bool)(d : α)(a:Nat):Nat->List α->List α
 | 0,l=>l
 | j+1,l=>cond (decide (a<j+1)&&lt (l.getD (j+1) d) (l.getD j d)) (kO lt d a j (swapAt d l j)) l
def oy(lt : α -> α->Bool)(d : α)(a:Nat)(l:List α):Nat->List α
 | 0=>l
 | n+1=>kO lt d a (a+1+n) (oy lt d a l n)
def AP(lt : α -> α->Bool)(d : α)(a b:Nat)(l:List α):List α:=oy lt d a l (b - (a+1))
theorem yV(d)(l:List α)(j):(swapAt d l j).length=l.length:=by unfold swapAt; simp
theorem SR(lt)(d)(a):∀ (j) (l:List α),(kO lt d a j l).length=l.length
 | 0,l=>rfl
 | j+1,l=>by
  unfold kO
  cases decide (a<j+1)&&lt (l.getD (j+1) d) (l.getD j d) with
  | true=>rw [eG,SR lt d a j,yV]
  | false=>rfl
theorem LA(lt)(d)(a)(l:List α):∀ n,(oy lt d a l n).length=l.length
 | 0=>rfl
 | n+1=>by unfold oy; rw [SR,LA lt d a l n]
end
def sj(a b:Int):Int:=cond (decide (a<b)) (-1) (cond (decide (b<a)) 1 0)
def acq:aH:=dU 175 kI (fun _=>True) (fun _ => .aG false)
theorem ap9:aK Tryz.prog acq:=by
 refine cd [] trivial Tryz.func175 (by kernel_rfl) fun ai res h hp => ?_;obtain⟨(a:Int),rfl,rfl⟩:=eu h;clear h;refine⟨[],?_⟩
 conv=>arg 1; cbv
 simp [FX,wV]
def SS:aH:=df 99 kI kI (fun _ _=>True) (fun a b => .int .i64 fun _=>sj (a ()) (b ()))
theorem acr:aK Tryz.prog SS:=by
 refine cd [acq] ⟨ap9,trivial⟩ Tryz.func99 (by kernel_rfl) fun ai res h hp => ?_;obtain⟨(a:Int),(b:Int),rfl,rfl⟩:=dz h;clear h;refine⟨[],?_⟩
 conv=>arg 1; cbv
 simp (maxSteps:=4000000) only [aB];unfold sj;grind
def SU:aH:=df 147 abe abe (fun _ _=>True) (fun x y => .int .i64 fun _=>sj (x ()).aF (y ()).aF)
theorem acs:aK Tryz.prog SU:=by
 refine cd [SS] ⟨acr,trivial⟩ Tryz.func147 (by kernel_rfl) fun ai res h hp => ?_;obtain⟨(x:ay),(y:ay),rfl,rfl⟩:=dz h;clear h;refine⟨[],?_⟩
 exact no_implicit_lambda% LB
def jR(a b:ay):Bool:=decide (sj a.aF b.aF<0)
def SV:fk:=⟨314,[.zH .aq,.int .i64,.int .i64,.fn []],1,fun ai es=>match ai,es with
 | [.own 0,.int .i64 a,.int .i64 b,.fn f []],[(0,.row false .aq T l)]=>if f=147 then some ⟨fun _=>0<=a ()/\a ()<=b ()/\b ()<=((l ()).length:Int)/\(l ()).length<=1000000,.aU [],[(0,.row false .aq T fun _=>AP jR Tc.aq.aa (a ()).toNat (b ()).toNat (l ()))]⟩ else none
 | _,_=>none,true⟩
def aqa(T:Nat)(l:List ay)(a b:Nat):Lp where
 X:=Nat
 ov n := [(8,.int .i64 fun _=>((a+1+n:Nat):Int)),(0,.own 0)]
 oe n := [(0,.row false .aq T fun _=>oy jR Tc.aq.aa a l n)]
 I n:=n<=b - (a+1)
 μ n _:=b - (a+1) - n
 x0:=0
 nx:=some fun n=>n+1
def aqb(T:Nat)(a i:Nat)(R L1:List ay):Lp where
 X:=Nat×List ay
 ov p := [(9,.int .i64 fun _=>(p.1:Int)),(0,.own 0)]
 oe p := [(0,.row false .aq T fun _=>p.2)]
 I p:=a<=p.1/\p.1<=i/\p.2.length=R.length/\kO jR Tc.aq.aa a p.1 p.2=R
 μ p _:=p.1
 x0:=(i,L1)
 nx:=none
theorem aqc:gp Tryz.prog SV:=by
 refine AA [SU] ⟨acs,trivial⟩ [] trivial Tryz.func314 (by kernel_rfl) fun ai es res h hp => ?_;simp only [SV] at h;split at h
 case h_2=>cases h
 split at h
 case isFalse=>cases h
 rename_i a b f T l hf;subst hf;cases h;obtain⟨l,rfl⟩:=eta (α:=List ay) l;obtain⟨a,rfl⟩:=eta (α:=Int) a;obtain⟨b,rfl⟩:=eta (α:=Int) b;have dZ:0<=a/\a<=b/\b<=(l.length:Int)/\l.length<=1000000:=hp;have h1:=dZ.1;have h2:=dZ.2.1;have h3:=dZ.2.2.1;have h4:=dZ.2.2.2;obtain⟨a,rfl⟩:=oI h1;obtain⟨b,rfl⟩:=oI (show 0<=b from oo);refine⟨[(1,aqa T l a b)],?_⟩
 conv=>arg 1; cbv
 refine⟨⟨by simp only [gV]; omega,by simp only [gV]; omega⟩,⟨?_,fun (n:Nat) hn => ?_⟩⟩
 . simp (maxSteps:=4000000) only [aB];exact⟨cm _,oo,rfl⟩
 have KC:n<=b - (a+1):=hn
 conv=>arg 1; cbv
 refine⟨fun g1 => ?_,fun g1 => ?_⟩
 . have tq:a+1+n<b:=by simp only [aI,gV] at g1; omega
   refine cL (oy jR Tc.aq.aa a l n) fun L1 SW => ?_;refine cL (a+1+n) fun i hi => ?_;refine cL (kO jR Tc.aq.aa a i L1) fun R hR => ?_;have wM:L1.length=l.length:=by rw [<- SW,LA]
   have axZ:R.length=l.length:=by rw [<- hR,SR,wM]
   refine⟨aqb T a i R L1,?_⟩
   conv=>arg 1; cbv
   refine⟨?_,fun (p:Nat×List ay) hp => ?_⟩
   . simp (maxSteps:=4000000) only [aB];refine⟨⟨oo,az _,oo,hR⟩,by rw [hi],SW⟩
   . have cf:a<=p.1/\p.1<=i/\p.2.length=R.length/\kO jR Tc.aq.aa a p.1 p.2=R:=hp;have p1:=cf.1;have p2:=cf.2.1;have p3:=cf.2.2.1;have p4:=cf.2.2.2;clear hn hp cf dZ;have hup:oy jR Tc.aq.aa a l (n+1)=R:=by rw [<- hR,<- hi,<- SW]; rfl
     have yI:kO jR Tc.aq.aa a p.1 p.2=p.2->aY (((a+1+n:Nat):Int)+1)/\(n+1<=b - (a+1)/\b - (a+1) - (n+1)<b - (a+1) - n)/\((a+1+n:Nat):Int)+1=((a+1+(n+1):Nat):Int)/\p.2=oy jR Tc.aq.aa a l (n+1):=fun h=>by
      rw [p4] at h;exact⟨⟨oo,oo⟩,⟨oo,oo⟩,oo,by rw [hup,h]⟩
     conv=>arg 1; cbv
     refine cL (p.1 - 1) fun j hj => ?_;refine cL (swapAt Tc.aq.aa p.2 j) fun L2 qJ => ?_;have h5:(p.2.length:Int)<=1000000:=oo
     have Gt:kO jR Tc.aq.aa a p.1 p.2=cond (decide (p.1=0)) p.2 (cond (decide (a<p.1)&&jR (p.2.getD p.1 Tc.aq.aa) (p.2.getD j Tc.aq.aa)) (kO jR Tc.aq.aa a j L2) p.2):=by
      rw [<- qJ]
      cases hc:p.1 with
      | zero=>rfl
      | succ m =>
       have:j=m:=oo
       subst this;rfl
     have aj:p.1<p.2.length:=oo
     simp (maxSteps:=4000000) only [aB];refine⟨fun g2 => ?_,fun g2=>yI ?_⟩
     . have qV:a<p.1:=oo
       have mu:p.1=j+1:=oo
       have aT:decide (p.1=0)=false:=by simp; omega
       refine⟨⟨oo,oo⟩,⟨oo,oo⟩,⟨oo,oo⟩,trivial,fun g3 => ?_,fun g3=>yI ?_⟩
       . refine⟨⟨oo,oo⟩,⟨oo,oo⟩,⟨oo,oo⟩,⟨oo,oo⟩,⟨oo,oo⟩,⟨oo,by rw [mZ]; omega⟩,⟨oo,oo⟩,⟨(j,L2),⟨⟨oo,oo,?_,?_⟩,oo⟩,?_⟩⟩
         . rw [<- qJ,yV]; exact p3
         . rw [aT,fG,c8 qV,dL] at Gt;have sh:jR (p.2.getD p.1 Tc.aq.aa) (p.2.getD j Tc.aq.aa)=true:=by rw [<- hj]; exact c8 g3
           rw [sh,eG] at Gt;rw [<- Gt];exact p4
         . conv=>arg 1; cbv
           simp (maxSteps:=4000000) only [aB];refine⟨oo,?_⟩;rw [<- qJ,hj,mu];rfl
       . rw [Gt,aT,fG];have sh:jR (p.2.getD p.1 Tc.aq.aa) (p.2.getD j Tc.aq.aa)=false:=by rw [<- hj]; exact gw g3
         rw [sh,tY,fG]
     . have qV:decide (a<p.1)=false:=by simp; omega
       rw [Gt,qV,vJ,fG];cases decide (p.1=0)<;>rfl
 . simp (maxSteps:=4000000) only [aB];have tq:¬ a+1+n<b:=by simp only [fR,gV] at g1; omega
   unfold AP;rw [show b - (a+1)=n from oo]
end Go.Proofs.YtlpikgchnjajmaaGreat
