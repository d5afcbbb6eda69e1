/-
  Numbers as lists of digits, over any base.
-/
import Derived.Test.YtamjbkaclhgffaaGreatSi16
set_option linter.all false
set_option maxRecDepth 100000
set_option maxHeartbeats 4000000
namespace Go.Proofs.YtamjbkaclhgffaaGreat
open Go.RowKit
variable{l:List Int}{R o:List Nat}{B N S S' T a b base c d e i m n p r s t x y:Nat}{ρ:Nat->Option Rl}{ra ro:Nat->Prop}{A:Option Addr}{w w':World}
def cl(l:List Nat):List Int:=l.map fun (n:Nat)=>n
theorem ap2(l):(cl l).map Int.toNat=l:=by
 unfold cl;rw [xE]
 conv=>rhs; rw [<- List.map_id l]
 exact Ei fun x _=>rfl
theorem lD(l):(cl l).length=l.length:=fk _
theorem AR(l)(i):(cl l).getD i 0=l.getD i 0:=by
 unfold cl;rw [aX,ga,aX];cases l[i]? <;> rfl
theorem GJ(l m):cl (l++m)=cl l++cl m:=jg
theorem y3(l)(k):(cl l).take k=cl (l.take k):=List.map_take.symm
theorem Dq(l)(k):(cl l).drop k=cl (l.drop k):=List.map_drop.symm
theorem AS(l)(k x:Nat):(cl l).set k x=cl (l.set k x):=List.map_set.symm
theorem LV(k):List.replicate k 0=cl (List.replicate k 0):=by unfold cl; rw [List.map_replicate]; rfl
theorem LW(h:∀ d∈l,0<=d/\d<B):∃ m,l=cl m/\dr B m:=by
 refine⟨l.map Int.toNat,?_,fun d hd => ?_⟩
 . unfold cl;rw [xE]
   conv=>lhs; rw [<- List.map_id l]
   exact Ei fun x hx=>by have:=h x hx; show x=((x.toNat:Nat):Int); omega
 . obtain⟨x,hx,rfl⟩:=gi.1 hd;have:=h x hx;omega
theorem acs(h:dr B o):∀ d∈cl o,0<=d/\d<B:=fun d hd=>by
 obtain⟨x,hx,rfl⟩:=gi.1 hd;have:=h x hx;omega
def bH(n:Nat):List Int:=cl (bg ae n)
def dI(l:List Int):Nat:=bE ae (l.map Int.toNat)
def dY(l:List Int):Prop:=l=bH (dI l)/\l.length<=1000
def d32(l:List Int):Prop:=(∀ d∈l,0<=d/\d<4294967296)/\l.length<=1000000
theorem pZ(l):dI (cl l)=bE ae l:=by unfold dI; rw [ap2]
theorem ik(n):dI (bH n)=n:=by unfold bH; rw [pZ,uv bT]
theorem dZ(n):(bH n).length=aM n:=lD _
theorem dA(h:aM n<=1000):dY (bH n):=⟨by rw [ik],by rw [dZ]; exact h⟩
theorem mD(h:dY l):∃ n,l=bH n/\aM n<=1000:=⟨dI l,h.1,by rw [<- dZ,<- h.1]; exact h.2⟩
theorem Dr(h:dr ae o)(hl:o.length<=1000000):d32 (cl o):=⟨acs h,by rw [lD]; exact hl⟩
theorem ap3(h:aM n<=1000):d32 (bH n):=Dr (dr.bg bT n) (dQ h (by decide))
theorem r8(n i):(bH n).getD i 0=(bg ae n).getD i 0:=AR _ _
theorem acu(n k:Nat)(hk:k<=64):lN .shr .u64 n k=(n / 2^k:Nat):=by
 unfold lN;rw [show min (Int.toNat (k:Int)) IntKind.u64.bits=k by rw [fE]; exact xA hk];show (n:Int).fdiv (2^k)=_
 rw [ai7 _ (by exact_mod_cast bO (2^k))]
 exact_mod_cast rfl
theorem GK(n:Nat):lN .shr .u64 n 32=(n / 4294967296:Nat):=acu n 32 (by decide)
theorem ap4(n:Nat):lN .shr .u64 n 63=(n / 9223372036854775808:Nat):=acu n 63 (by decide)
theorem fZ(h:n<18446744073709551616):IntKind.u64.wrap n=n:=wrap_u64 oo oo
theorem acv(ha:a<4294967296):lN .shl .u64 a 32=(a*4294967296:Nat):=by
 unfold lN;show IntKind.u64.wrap ((a:Int)*4294967296)=_
 rw [wrap_u64 oo oo];omega
theorem acw(ha:a<4294967296)(hd:d<4294967296):te .or .u64 (a*4294967296:Nat) d=(a*4294967296+d:Nat):=by
 have h:=bits_join .u64 64 (by decide) (fun n h0 h1=>wrap_u64 h0 h1) 32 ((a*4294967296:Nat):Int) (d:Int) oo oo oo oo oo oo;exact h.trans oo
theorem LX(n):IntKind.u64.wrap n=n % 18446744073709551616:=by
 unfold IntKind.wrap;simp [IntKind.bits,IntKind.signed]
theorem acx{z:Int}(h:z=m)(hm:m=r+18446744069414584320/\r<4294967296\/m+4294967296=r/\r<8589934592):lN .shr .u64 z 63=(1 - r / 4294967296:Nat)/\IntKind.u32.wrap z=(r % 4294967296:Nat):=by
 rw [h,ap4,wrap_u32];constructor
 . congr 1;omega
 . congr 1;omega
theorem acy{o:Nat}(hd:d<4294967296)(hr:r+e+o=d+4294967296):lN .shr .u64 (IntKind.u64.wrap (IntKind.u64.wrap (d - o) - e)) 63=(1 - r / 4294967296:Nat)/\IntKind.u32.wrap (IntKind.u64.wrap (IntKind.u64.wrap (d - o) - e))=(r % 4294967296:Nat) :=
 acx (m:=(d+18446744073709551616 - e - o) % 18446744073709551616) (by rw [LX,LX]; omega) oo
theorem ap5{o:Nat}(hd:d<4294967296)(hr:r+o=d+4294967296):lN .shr .u64 (IntKind.u64.wrap (d - o)) 63=(1 - r / 4294967296:Nat)/\IntKind.u32.wrap (IntKind.u64.wrap (d - o))=(r % 4294967296:Nat) :=
 acx (m:=(d+18446744073709551616 - o) % 18446744073709551616) (by rw [LX]; omega) oo
def giveUp(f:FuncId):fO:=⟨f,[],0,fun _ _=>none,false⟩
theorem acz{f : FuncId}{fn : Func}(hf : Tryz.prog.funcs[f]? = some fn)(hb : (fn.body.isNone || fn.name == "runtime.NumGoroutine") = false) : ij Tryz.prog (giveUp f) := by
 simp only [kf] at hb;exact⟨fun args w=>yV hf hb.1 hb.2 args w,fun ai es res h=>by cases h⟩
theorem eight{l:List Nat}(hl:l.length=8):∃ a0 a1 a2 a3 a4 a5 a6 a7,l = [a0,a1,a2,a3,a4,a5,a6,a7]:=by
 match l,hl with
 | [a0,a1,a2,a3,a4,a5,a6,a7],_=>exact⟨_,_,_,_,_,_,_,_,rfl⟩
def ay(n i:Nat):Int:=(pad ae 8 n).getD i 0
theorem oa:∀ i,i<8->ay 0 i=0:=by decide
def r9(f:Unit->aY):List AV := [.bool fun _=>(f ()).neg,.int .u32 fun _=>ay (f ()).num 0,.int .u32 fun _=>ay (f ()).num 1,.int .u32 fun _=>ay (f ()).num 2,.int .u32 fun _=>ay (f ()).num 3,.int .u32 fun _=>ay (f ()).num 4,.int .u32 fun _=>ay (f ()).num 5,.int .u32 fun _=>ay (f ()).num 6,.int .u32 fun _=>ay (f ()).num 7,.int .u32 fun _=>ay (f ()).den 0,.int .u32 fun _=>ay (f ()).den 1,.int .u32 fun _=>ay (f ()).den 2,.int .u32 fun _=>ay (f ()).den 3,.int .u32 fun _=>ay (f ()).den 4,.int .u32 fun _=>ay (f ()).den 5,.int .u32 fun _=>ay (f ()).den 6,.int .u32 fun _=>ay (f ()).den 7]
theorem LY(n) : [ay n 0,ay n 1,ay n 2,ay n 3,ay n 4,ay n 5,ay n 6,ay n 7]=(pad ae 8 n).map fun (k:Nat)=>(k:Int):=by
 obtain⟨a0,a1,a2,a3,a4,a5,a6,a7,h⟩:=eight (ev ae 8 n);unfold ay;rw [h];rfl
theorem LZ:ae^8=c7:=by decide
def wX(n:Nat):List Kx := [.i .u32 (ay n 0),.i .u32 (ay n 1),.i .u32 (ay n 2),.i .u32 (ay n 3),.i .u32 (ay n 4),.i .u32 (ay n 5),.i .u32 (ay n 6),.i .u32 (ay n 7)]
theorem L0(hm:m<c7)(hn:n<c7)(h:wX m=wX n):m=n:=by
 have h1 : [ay m 0,ay m 1,ay m 2,ay m 3,ay m 4,ay m 5,ay m 6,ay m 7] = [ay n 0,ay n 1,ay n 2,ay n 3,ay n 4,ay n 5,ay n 6,ay n 7]:=by
  unfold wX at h;simp only [ry,Kx.i.injEq,bu,bn] at h ⊢;exact h
 rw [LY,LY] at h1;have h2:pad ae 8 m=pad ae 8 n:=(List.map_inj_right (f:=fun (k:Nat)=>(k:Int)) (fun a b h=>Int.ofNat.inj h)).1 h1;rw [<- nJ (B:=ae) (by decide) 8 m (by rw [LZ]; exact hm),<- nJ (B:=ae) (by decide) 8 n (by rw [LZ]; exact hn),h2]
def GL(f:aY):List Kx := .f f.neg::(wX f.num++wX f.den)
theorem ap6{f g:aY}(hf:f.fits)(hg:g.fits)(h:GL f=GL g):f=g:=by
 unfold GL at h;have h1:=List.cons.inj h;have h2:=List.append_inj h1.2 rfl;obtain⟨a,b,c⟩:=f;obtain⟨a',b',c'⟩:=g;have e1:a=a':=by have:=h1.1; simpa using this
 have e2:b=b':=L0 hf.1 hg.1 h2.1;have e3:c=c':=L0 hf.2 hg.2 h2.2;rw [e1,e2,e3]
section
variable{w:World}{ρ:Nat->Option Rl}{base:Nat}{ro:Nat->Prop}{v:Value}
end
def kE(v:aY):bB:=⟨v.neg,ay v.num 0,ay v.num 1,ay v.num 2,ay v.num 3,ay v.num 4,ay v.num 5,ay v.num 6,ay v.num 7,ay v.den 0,ay v.den 1,ay v.den 2,ay v.den 3,ay v.den 4,ay v.den 5,ay v.den 6,ay v.den 7⟩
theorem wY(v):⟨v.neg,ay v.num 0,ay v.num 1,ay v.num 2,ay v.num 3,ay v.num 4,ay v.num 5,ay v.num 6,ay v.num 7,ay v.den 0,ay v.den 1,ay v.den 2,ay v.den 3,ay v.den 4,ay v.den 5,ay v.den 6,ay v.den 7⟩=kE v:=rfl
theorem u7(c):(⟨c.neg,c.n0,c.n1,c.n2,c.n3,c.n4,c.n5,c.n6,c.n7,c.d0,c.d1,c.d2,c.d3,c.d4,c.d5,c.d6,c.d7⟩:bB)=c:=rfl
def bB.kY(c:bB):List Int := [c.n0,c.n1,c.n2,c.n3,c.n4,c.n5,c.n6,c.n7]
def bB.acA(c:bB):List Int := [c.d0,c.d1,c.d2,c.d3,c.d4,c.d5,c.d6,c.d7]
def bj(c:bB):aY:=⟨c.neg,bE ae (c.kY.map Int.toNat),bE ae (c.acA.map Int.toNat)⟩
def Ds(l:List Int):Prop:=l.length=8/\∀ n∈l,0<=n/\n<4294967296
def iM(c:bB):Prop:=Ds c.kY/\Ds c.acA
theorem acB(n):Ds [ay n 0,ay n 1,ay n 2,ay n 3,ay n 4,ay n 5,ay n 6,ay n 7]:=by
 refine⟨rfl,fun x hx => ?_⟩;rw [LY] at hx;obtain⟨k,hk,rfl⟩:=gi.1 hx;have:=rG (B:=ae) (by decide) 8 n k hk;unfold ae at this;omega
theorem tG(v):iM (kE v):=⟨acB _,acB _⟩
theorem acC(n)(h:n<c7):bE ae ([ay n 0,ay n 1,ay n 2,ay n 3,ay n 4,ay n 5,ay n 6,ay n 7].map Int.toNat)=n:=by
 rw [LY,xE];have:(Int.toNat∘fun (k:Nat)=>(k:Int))=id:=by funext k; simp
 rw [this,List.map_id];exact nJ (by decide) 8 n (by rw [LZ]; exact h)
theorem AT{v:aY}(h:v.fits):bj (kE v)=v:=by
 show (⟨v.neg,bE ae ([ay v.num 0,ay v.num 1,ay v.num 2,ay v.num 3,ay v.num 4,ay v.num 5,ay v.num 6,ay v.num 7].map Int.toNat),bE ae ([ay v.den 0,ay v.den 1,ay v.den 2,ay v.den 3,ay v.den 4,ay v.den 5,ay v.den 6,ay v.den 7].map Int.toNat)⟩:aY)=v
 rw [acC _ h.1,acC _ h.2]
theorem nm{c:bB}(h:iM c):(aP false .kZ fun _=>c).map AV.valOf=(bj c).cells/\(bj c).fits/\kE (bj c)=c:=by
 have key:∀ {l:List Int},Ds l->pad ae 8 (bE ae (l.map Int.toNat))=l.map Int.toNat/\bE ae (l.map Int.toNat)<c7:=by
  intro l hl;have hd:dr ae (l.map Int.toNat):=fun k hk=>by
   obtain⟨x,hx,rfl⟩:=gi.1 hk;have:=hl.2 x hx;unfold ae;omega
  have hp:=Ci (B:=ae) (by decide) _ hd;rw [fk,hl.1] at hp;refine⟨hp,?_⟩;rw [<- LZ];have:=ur (B:=ae) _ hd;rwa [fk,hl.1] at this
 obtain⟨k1,k2⟩:=key h.1;obtain⟨m1,m2⟩:=key h.2;have e:∀ {l:List Int},Ds l->(l.map Int.toNat).map (fun (n:Nat)=>Value.int .u32 (n:Int))=l.map (Value.int .u32):=by
  intro l hl;rw [xE];refine Ei fun x hx => ?_;have:=(hl.2 x hx).1;show Value.int .u32 ((x.toNat:Nat):Int)=_
  rw [Int.toNat_of_nonneg this]
 refine⟨?_,⟨k2,m2⟩,?_⟩
 . unfold aY.cells bj;dsimp only;rw [k1,m1,e h.1,e h.2];rfl
 . have g:∀ {l:List Int},Ds l->∀ i,i<8->ay (bE ae (l.map Int.toNat)) i=l.getD i 0:=by
    intro l hl i hi;unfold ay;rw [(key hl).1,aX,ga,aX];have ah:i<l.length:=by rw [hl.1]; exact hi
    rw [bc ah];have:=(hl.2 _ (iT ah)).1;show (((l[i]).toNat:Nat):Int)=l[i]
    omega
   have g1 := @g _ h.1;have g2 := @g _ h.2;obtain⟨s,a0,a1,a2,a3,a4,a5,a6,a7,b0,b1,b2,b3,b4,b5,b6,b7⟩:=c;show kE ⟨s,_,_⟩=_
   unfold kE;dsimp only;rw [g1 0 (by decide),g1 1 (by decide),g1 2 (by decide),g1 3 (by decide),g1 4 (by decide),g1 5 (by decide),g1 6 (by decide),g1 7 (by decide),g2 0 (by decide),g2 1 (by decide),g2 2 (by decide),g2 3 (by decide),g2 4 (by decide),g2 5 (by decide),g2 6 (by decide),g2 7 (by decide)];rfl
theorem S5(f g):bj (kE (kj f g).1)=(kj f g).1:=AT (ajZ f g)
theorem GM(f g):bj (kE (jh f g).1)=(jh f g).1:=AT (aj0 f g)
theorem S6(f g):bj (kE (mulL f g).1)=(mulL f g).1:=AT (aj1 f g)
theorem S7(f g):bj (kE (jZ f g).1)=(jZ f g).1:=AT (aj2 f g)
theorem acD(a b):bj (kE (mU a b).1)=(mU a b).1:=AT (ajY a b)
theorem u9{n:Int}(h:bq n):bj (kE (cS n))=cS n:=AT ⟨by have h1:=h.1; have h2:=h.2; show n.natAbs<c7; unfold c7; omega,by show 1<c7; decide⟩
theorem acE(h:Oy w A n)(hc:aM n<=c)(bt:∀ a,A=some a->ro a.block):af w ρ base ro (.sl false .u32 fun _=>bH n) (.slice A (aM n) c):=by
 rw [<- dZ n] at hc ⊢;refine .sl false .u32 (fun _=>bH n) A c (kY .u32 (bg ae n)) (by rw [Ox,dZ]) (by rw [Ox]; rw [dZ] at hc; exact hc) h (fun a ha _=>bt a ha) (fun h=>by cases h) fun k cs j x v hk hx hv => ?_;have ah:k<(bg ae n).length:=by
  have:=(cF.1 hk).1;rwa [Ox] at this
 rw [Xb ah] at hk;injection hk with hk;subst hk
 match j,hx,hv with
 | 0,hx,hv =>
  cases hx;cases hv;refine af.int_eq ?_;show (bH n).getD k 0=_
  rw [r8,aX,bc ah];rfl
def S8(w:World)(g:Nat)(f:aY):Prop:=w.heap[g]? = some (.cells f.cells.toArray 52 (0,0))
theorem ap7(f:aY)(hf:f.fits)(w):Calls Tryz.prog 126 #[f.val] w fun e w'=>e = .returned (.tuple #[.slice (some ⟨w.heap.size,1,none⟩) (aM f.num) 8,.slice (some ⟨w.heap.size,9,none⟩) (aM f.den) 8])/\Oy w' (some ⟨w.heap.size,1,none⟩) f.num/\Oy w' (some ⟨w.heap.size,9,none⟩) f.den/\cW w w':=by
 have oV:f.num<ae^8:=by rw [EH]; exact hf.1
 have fX:f.den<ae^8:=by rw [EH]; exact hf.2
 have S9:=aZ (fun (w1:World) (h:S8 w1 w.heap.size f)=>Xp (some ⟨w.heap.size,1,none⟩) 8 8 (pad ae 8 f.num) (ev _ _ _).symm w1 (I2 h).1 (rG (by decide) _ _) wZ (by rw [ev]; omega));have Ta:=aZ (fun (w1:World) (h:S8 w1 w.heap.size f)=>Xp (some ⟨w.heap.size,9,none⟩) 8 8 (pad ae 8 f.den) (ev _ _ _).symm w1 (I2 h).2 (rG (by decide) _ _) (by rw [ev]; omega) (by rw [ev]; omega));rw [nJ (by decide) _ _ oV] at S9;rw [nJ (by decide) _ _ fX] at Ta;have hmo:Tryz.prog.follows .mixedOrders=true:=by kernel_rfl
 have HF:Hid (∀ n,S8 ((w.alloc (.cells f.cells.toArray 52)).drewN n) w.heap.size f):=fun n=>(show ((w.alloc (.cells f.cells.toArray 52)).drewN n).heap[w.heap.size]? = (w.alloc (.cells f.cells.toArray 52)).heap[w.heap.size]? by simp).trans (rA w _);obtain⟨ln,mj⟩:∃ ln,ln=aM f.num:=⟨_,rfl⟩
 obtain⟨ld,ki⟩:∃ ld,ld=aM f.den:=⟨_,rfl⟩
 rw [<- mj] at S9;rw [<- ki] at Ta;have HL:=aZ (And.intro mj ki);clear oV fX mj ki;unfold aY.val
 go_enter Tryz.func126,Tryz.ntmps126
 go_wp2
 go_quiet (first
  | (go_at_call_of 105 (Value.slice (some ⟨w.heap.size,1,none⟩) 8 8); exact Calls.quiet_of_same (S9.out _ (HF.out _)))
  | (go_at_call_of 105 (Value.slice (some ⟨w.heap.size,9,none⟩) 8 8); exact Calls.quiet_of_same (Ta.out _ (HF.out _))))
 go_wp2
 go_ret2
 have qy:=HF.out nq;have r1:=Xi bT (I2 qy).1 (rG (by decide) _ _);have r2:=Xi bT (I2 qy).2 (rG (by decide) _ _);rw [nJ (by decide) _ _ (by rw [EH]; exact hf.1)] at r1;rw [nJ (by decide) _ _ (by rw [EH]; exact hf.2)] at r2;exact⟨by rw [<- HL.out.1,<- HL.out.2]; rfl,r1,r2,below_drewN ((cu _ _).alloc (aA _) _) nq⟩
def Dt:aN:=fY 126 nk (fun f=>iM (f ())) (fun f => .ba [.sl false .u32 fun _=>bH (bj (f ())).num,.sl false .u32 fun _=>bH (bj (f ())).den])
theorem GN:aU Tryz.prog Dt:=by
 refine Dk Tryz.func126 (by kernel_rfl) fun ai res h w ra dM hE hp => ?_;obtain⟨(f:bB),rfl,rfl⟩:=gM h;clear h;obtain⟨v0,y4,rfl,lT,h0⟩:=hE.head;obtain rfl:=h0.none;obtain⟨hf,AM,_⟩:=nm hp;obtain rfl:=lT.ab7 rfl;rw [hf];exact (ap7 (bj f) AM w).mono fun e w' ⟨k1,k2,k3,k4⟩=>⟨_,k1,k4,Sd (acE k2 (gn AM.1) fun a h=>by cases h; exact .inr (aA _)) (acE k3 (gn AM.2) fun a h=>by cases h; exact .inr (aA _))⟩
def ap9(l:List Nat)(n:Nat):Lp where
 X:=Nat
 ov k := [(0,.sl false .u32 fun _=>cl (l.take k))]
 oe _ := []
 I k:=k<=l.length/\∀ d∈l.drop k,d=0
 μ k _:=k
 x0:=n
 nx:=some fun k=>k - 1
def Du:aN:=fY 105 kD (fun a=>d32 (a ())) (fun a => .sl false .u32 fun _=>bH (dI (a ())))
theorem GO:aU Tryz.prog Du:=by
 refine cD [] trivial Tryz.func105 (by kernel_rfl) fun ai res h hp => ?_;obtain⟨(a:List Int),rfl,rfl⟩:=gM h;clear h;obtain⟨l,rfl,hd⟩:=LW (B:=ae) hp.1;have hl:l.length<=1000000:=by have:=hp.2; rwa [lD] at this
 clear hp;refine bW l.length fun n Dv => ?_;refine⟨[(1,ap9 l n)],?_⟩
 conv=>arg 1; cbv
 refine⟨?_,fun (k:Nat) hk => ?_⟩
 . simp (maxSteps:=4000000) only [aK,bu,bn,bX];subst Dv;refine⟨⟨aA _,fun d hd => ?_⟩,?_⟩
   . rw [ajs] at hd;cases hd
   . rw [uk]
 have cp:k<=l.length/\∀ d∈l.drop k,d=0:=hk;have cR:=cp.1;have bU:=cp.2;refine fm ?_;have hn:(cl (l.take k)).length=k:=by rw [lD,cL]; omega
 have er:Tc.u32.aa=0:=rfl;simp only [hn,pZ,er];refine⟨fun g=>⟨ii,⟨oo,oo⟩,fun z=>⟨ii,⟨oo,oo⟩,⟨⟨oo,fun d hd => ?_⟩,oo⟩,?_⟩,fun z => ?_⟩,fun g => ?_⟩
 . rw [sP (show k - 1<l.length from oo)] at hd;rw [AR,aX,eh,aC oo,bc (show k - 1<l.length from oo),ia] at z;rcases fM.1 hd with h|h
   . omega
   . exact bU d (by rwa [show k - 1+1=k from oo] at h)
 . show _=cl (l.take (k - 1))
   rw [y3,Es,xA oo]
 . unfold bH;rw [IY bT hd cR bU (.inr ⟨k - 1,oo,fun e=>z ?_⟩)];rw [AR,aX,eh,aC oo,<- aX,e];rfl
 . have uz:k=0:=oo
   unfold bH;rw [IY bT hd cR bU (.inl uz)]
theorem GP:ij Tryz.prog (giveUp 105):=acz Tryz.func105 (by kernel_rfl)
def L3:aN:=fY 46 apR (fun a=>0<=a ()/\a ()<18446744073709551616) (fun a => .sl false .u32 fun _=>bH (a ()).toNat)
theorem Tb:aU Tryz.prog L3:=by
 refine fH {} [Du] ⟨GO,trivial⟩ [giveUp 105] ⟨GP,trivial⟩ Tryz.func46 (by kernel_rfl) fun ai res h hp => ?_;obtain⟨(a:Int),rfl,rfl⟩:=gM h;clear h;have GQ:0<=a/\a<18446744073709551616:=hp;have h0:=GQ.1;have h1:=GQ.2;obtain⟨n,rfl⟩:=pq h0;have hn:n<18446744073709551616:=oo
 refine⟨[],?_⟩;refine fm ?_;rw [GK,wrap_u32,wrap_u32,fF (show n / 4294967296<4294967296 from oo)];have hds:dr ae [n % 4294967296,n / 4294967296]:=by
  intro d hd;simp only [fM,IM,or_false] at hd;rcases hd with rfl|rfl<;>(show _<4294967296; omega)
 refine⟨oo,Dr hds (show 2<=1000000 by decide),?_⟩;have e:dI (cl [n % 4294967296,n / 4294967296])=n:=by
  rw [pZ];show n % 4294967296+4294967296*(n / 4294967296+4294967296*0)=n
  omega
 exact congrArg bH e
def Td:aN:=fY 103 kD (fun a=>dY (a ())) (fun a => .bool fun _=>decide (dI (a ())=1))
theorem acF:aU Tryz.prog Td:=by
 refine cD [] trivial Tryz.func103 (by kernel_rfl) fun ai res h hp => ?_;obtain⟨(a:List Int),rfl,rfl⟩:=gM h;clear h;obtain⟨x,rfl,hx⟩:=mD hp;refine⟨[],?_⟩;refine fm ?_;rw [ik];have er:Tc.u32.aa=0:=rfl;simp only [dZ,er];refine⟨fun g=>⟨⟨oo,oo⟩,?_⟩,fun g => ?_⟩
 . have e:=aki (x:=x) oo;have e2:(bH x).getD (Int.toNat 0) 0=(x:Int):=by unfold bH; rw [e]; rfl
   rw [e2];exact El.2 oo
 . rw [Ce,fQ]
   rintro rfl
   exact g (by unfold aM; rw [ajJ bT]; rfl)
def AU(x m k:Nat):Nat:=bE ae (((bg ae x).drop k).take (m - k))
theorem acG{k:Nat}(hm:m<=2)(hk:0<k):AU x m k<4294967296:=by
 have h:=ur (B:=ae) (((bg ae x).drop k).take (m - k)) (((dr.bg bT x).drop k).take _);have h2:ae^(((bg ae x).drop k).take (m - k)).length<=ae^1:=zx (by decide) (by rw [cL]; omega);exact iS h h2
theorem aqb{k:Nat}(hm:m<=2)(hk:0<k)(sd:k<=m)(hx:m<=(bg ae x).length):te .or .u64 (lN .shl .u64 (AU x m k) 32) ((bg ae x).getD (k - 1) 0)=AU x m (k - 1):=by
 rw [acv (acG hm hk),acw (acG hm hk) ((dr.bg bT x).getD (by decide) _)];have ah:k - 1<(bg ae x).length:=oo
 congr 1;unfold AU;rw [OE ah,show m - (k - 1)=(m - k)+1 from oo,IF,show k - 1+1=k from oo,vV];show _*4294967296+_=_+4294967296*_
 omega
def aqc(x m:Nat):Lp where
 X:=Nat
 ov k := [(4,.int .i64 fun _=>(k:Int) - 1),(3,.int .u64 fun _=>(AU x m k:Nat))]
 oe _ := []
 I k:=k<=m
 μ k _:=k
 x0:=m
 nx:=some fun k=>k - 1
def acH:aN:=fY 164 kD (fun a=>dY (a ())) (fun a => .int .u64 fun _=>((dI (a ()) % 18446744073709551616:Nat):Int))
theorem aqd:aU Tryz.prog acH:=by
 refine cD [] trivial Tryz.func164 (by kernel_rfl) fun ai res h hp => ?_;obtain⟨(a:List Int),rfl,rfl⟩:=gM h;clear h;obtain⟨x,rfl,hx⟩:=mD hp;refine bW (min (aM x) 2) fun m hm => ?_;refine⟨[(3,aqc x m)],?_⟩;refine fm ?_;have hl:(bH x).length=aM x:=dZ x;have e1:(bif decide (2<((bH x).length:Int)) then 2 else ((bH x).length:Int))=(m:Int):=by
  cases h:decide (2<((bH x).length:Int)) with
  | true=>have:=rv h; simp only [eG]; omega
  | false=>have:=IH h; simp only [gj]; omega
 rw [e1];have e2:AU x m m=0:=by unfold AU; rw [Ca,Er]; rfl
 refine⟨ii,⟨aA _,rfl,by rw [e2]; rfl⟩,fun (k:Nat) hk => ?_⟩;have cR:k<=m:=hk;clear hk hp;refine fm ?_;have er:Tc.u32.aa=0:=rfl;simp only [er,r8,hl];refine⟨fun g=>⟨oo,⟨oo,oo⟩,ii,⟨oo,oo⟩,oo,?_⟩,fun g => ?_⟩
 . rw [fZ (WQ ((dr.bg bT x).getD (by decide) _) (by decide))];exact aqb oo oo cR (show m<=aM x from oo)
 . have uz:k=0:=oo
   subst uz;rw [ik,<- akj,hm];rfl
theorem acI{t:Tc}{l:Unit->List t.el}(f)(ht:∀ x,(aP true t fun _=>x).all AV.flat=true)(hf:∀ x,(aP true t fun _=>x).map AV.valOf=f x)(hρ:∀ l,ρ l=none)(nj:∀ b,ra b->b<w.heap.size)(hb:cW w w')(ho:cw w' w.heap.size T t.size A c ((l ()).map f)):∃ ρ1 fc,Left w w' ρ ρ1 ra fc [(0,.row true t T l)] false/\af w' ρ1 w.heap.size fc (.own 0) (.slice A (l ()).length c):=by
 have hr:∀ l' r,eR ρ 0 (.row A (l ()).length c) l'=some r->l'=0/\r = .row A (l ()).length c:=by
  intro l' r h;unfold eR at h;split at h
  . rename_i e;cases h;exact⟨e,rfl⟩
  . rw [hρ] at h;cases h
 have Fk:∀ b,(Rl.row A (l ()).length c).b8=some b->w.heap.size<=b/\b<w'.heap.size:=by
  intro b h;simp only [Rl.b8] at h;obtain⟨a,ha,rfl⟩:=kS.1 h;exact ho.lt ha
 refine⟨eR ρ 0 (.row A (l ()).length c),ra,⟨?_,fun l' e he => ?_,fun l1 l2 r r' b aT h1 h2 _ _ => ?_,fun l' cg => ?_,fun l' r b h tg => ?_,fun b aW => ?_,fun l' r h _=>by rw [hρ] at h; cases h⟩,.own 0 A _ c (iJ _ _ _)⟩
 . exact⟨hb.os,hb.tape,hb.output,hb.size,fun k hk _=>hb.block k hk⟩
 . simp only [aj] at he;split at he
   . rename_i e0;have:l'=0:=by simpa using (cb.1 e0).symm
     subst this;cases he;refine⟨A,c,(l ()).map f,iJ _ _ _,ho,by simp,fun k cs j x v hk hx hv => ?_⟩;rw [ga] at hk
     cases l9:(l ())[k]? with
     | none=>rw [l9] at hk; cases hk
     | some y =>
      rw [l9] at hk;injection hk with hk;subst hk;have hy:(l ()).getD k t.aa=y:=by rw [aX,l9]; rfl
      rw [hy] at hx;have hE:aV w' (eR ρ 0 (.row A (l ()).length c)) w.heap.size ra (aP true t fun _=>y) (f y):=by
       rw [<- hf];exact GC (ht y)
      exact hE.2 j x v hx hv
   . cases he
 . exact absurd ((hr _ _ h1).1.trans (hr _ _ h2).1.symm) aT
 . have:l'≠0:=by
    rintro rfl
    simp [dE,bD] at cg
   unfold eR;rw [aw this,hρ]
 . obtain⟨rfl,rfl⟩:=hr _ _ h;have h3:=Fk b tg;exact⟨h3.2,fun h4=>by have:=nj b h4; omega,.inl h3.1⟩
 . exact⟨iS (nj b aW) hb.size,fun _=>aW⟩
def nn.cells(x:Int):List Value := [.int .u32 x]
theorem af.aqe{v:Value}{fr:Bool}{l:Unit->List Int}(h:af w ρ base ro (.sl fr .u32 l) v):∃ A c,v = .slice A (l ()).length c/\(l ()).length<=c/\Rd w w.heap.size 1 A ((l ()).map nn.cells):=af.LF (t := .u32) (l:=l) nn.cells (fun _=>rfl) (fun _=>rfl) h
theorem nn.ei:EI Tryz.prog 114 49 1 4:=EI.mk Tryz.underlying114 aj9 rfl (by decide)
theorem nn.OO(l:List Int):∀ cs∈l.map nn.cells,∀ u∈cs,u.oneCell'=true:=by
 intro cs hc u hu;obtain⟨x,_,rfl⟩:=gi.1 hc;simp only [nn.cells,fM,IM,or_false] at hu;subst hu;rfl
theorem aqf(A)(c)(l:List Int)(n)(hn:n=l.length)(w)(hA:Rd w w.heap.size 1 A (l.map nn.cells))(hl:l.length<=1000000) :
 Calls Tryz.prog 163 #[.slice A n c] w fun e w'=>∃ A' c',e = .returned (.slice A' l.length c')/\cw w' w.heap.size 49 1 A' c' (l.map nn.cells)/\Below w.heap.size w w':=by
 subst hn
 cases A with
 | none =>
  have mW:l = []:=by
   rcases l with _|⟨x,l⟩
   . rfl
   . obtain⟨_,_,h,_⟩:=hA 0 (nn.cells x) rfl;cases h
  subst mW;have heq:=fun w=>Go.Lib.run_eql_slice_nil (P:=Tryz.prog) w 114 49 none 0 c 0 0 Tryz.underlying114
  go_enter Tryz.func163,Tryz.ntmps163
  go_wp2
  go_ret
  exact⟨none,0,rfl,cw.nil _ _ _ _,cu _ _⟩
 | some ad =>
  have heq:=fun w=>Go.Lib.run_eql_slice_nil (P:=Tryz.prog) w 114 49 (some ad) l.length c 0 0 Tryz.underlying114;have c8:Below w.heap.size w (w.alloc (Obj.cells #[] 49)):=(cu _ _).alloc (aA _) _;have Dw:=aZ ((hA.below c8 (aA _)).more c8.size);have Te:=aZ (cw.Xv w w.heap.size 49 1 (aA _));have GR:=aZ c8;clear hA c8
  go_enter Tryz.func163,Tryz.ntmps163
  go_wp2_with (first
   | (at_builtin; go_loud (refine W5 rfl _ _ rfl nn.ei 0 rfl rfl Te.out rfl _ Dw.out (by simp) (nn.OO l) (by unfold maxLen; simp; omega) (by simp; omega) GR.out.size ?_); intro A4 c4 w4 Tf hg4 GS))
  go_ret
  exact⟨A4,c4,by simp,by simpa using Tf,GR.out.trans GS⟩
def L4:fO:=⟨163,[.sl .u32],0,fun ai es=>match ai,es with
 | [x],[]=>x.LS.bind fun l=>some ⟨fun _=>(l ()).length<=1000000,.own 0,[(0,.row true .u32 49 l)]⟩
 | _,_=>none,false⟩
theorem acJ:ij Tryz.prog L4:=by
 refine⟨fun args w=>yV Tryz.func163 (by kernel_rfl) (by kernel_rfl) args w,fun ai es res h w ρ ra dM nj hE lu jx cP bw hp => ?_⟩;simp only [L4] at h;split at h
 case h_2=>cases h
 rename_i x;simp only [mQ,bF] at h;obtain⟨l,e0,rfl⟩:=h;obtain rfl:=AV.acp e0;obtain⟨v0,y4,rfl,lT,h0⟩:=hE.head;obtain rfl:=h0.none;obtain⟨A0,q0,rfl,pH,vd⟩:=lT.aqe;refine (aqf A0 q0 (l ()) _ rfl w vd hp).mono fun e w' ⟨A',c',k1,k2,k3⟩ => ?_;obtain⟨ρ1,fc,hL,hv⟩:=acI (t := .u32) (l:=l) nn.cells (fun _=>rfl) (fun _=>rfl) (fun l=>cP l (bO _)) nj k3 k2;exact⟨_,ρ1,fc,k1,hL,hv⟩
theorem acK{B:Nat}(hB:0<B):∀ (k x j:Nat),j<k->(pad B k x)[j]? = some (x / B^j % B)
 | 0,_,_,h=>oo
 | k+1,x,0,_=>by simp [pad]
 | k+1,x,j+1,h=>by
  have ih:=acK hB k (x / B) j oo;unfold pad;rw [NN,ih,BU,kg,kX B]
theorem aqh(hB:2<=B)(x:Nat):∀ j,(bg B x).getD j 0=x / B^j % B:=by
 induction x using Nat.strongRecOn with
 | ind x ih =>
  intro j;by_cases h0:x=0
  . subst h0;rw [uu hB];simp
  . rw [rF hB h0]
    cases j with
    | zero=>simp
    | succ j =>
     have h1:=ih (x / B) (Nat.div_lt_self oo oo) j;rw [ajf,h1,BU,kg,kX B]
theorem acL(B:Nat):∀ (k s:Nat),pad B (k+1) s=pad B k s ++ [s / B^k % B]
 | 0,s=>by simp [pad]
 | k+1,s=>by
  have h:=acL B k (s / B);show s % B::pad B (k+1) (s / B)=s % B::pad B k (s / B) ++ [s / B^(k+1) % B]
  rw [h,kg,kX,<- BU];rfl
theorem GU{B:Nat}:∀ {k s t:Nat},s % B^k=t % B^k->pad B k s=pad B k t
 | 0,_,_,_=>rfl
 | k+1,s,t,h=>by
  have e:B^(k+1)=B*B^k:=by rw [kg,kX]
  have h1:s % B=t % B:=by rw [<- Nat.mod_mul_right_mod s B (B^k),<- Nat.mod_mul_right_mod t B (B^k),<- e,h]
  have h2:s / B % B^k=t / B % B^k:=by rw [<- ai5,<- ai5,<- e,h]
  show s % B::pad B k (s / B)=t % B::pad B k (t / B)
  rw [h1,GU h2]
def fI(k S:Nat)(R:List Nat):List Nat:=pad ae k S++R.drop k
theorem Dx{k:Nat}(h:k<=R.length):(fI k S R).length=R.length:=by
 unfold fI;rw [dp,ev,iD];omega
theorem Tg(S:Nat)(R:List Nat):fI 0 S R=R:=rfl
theorem Th(S:Nat)(R:List Nat):fI R.length S R=pad ae R.length S:=by
 unfold fI;rw [ajs,oz]
theorem Ti{k:Nat}:(fI k S R).getD k 0=R.getD k 0:=by
 unfold fI;rw [aX,rq (by rw [ev]; exact aA _),ev,Ca,lG,aX,jE]
theorem Dy{k z:Nat}(hk:k<R.length)(h:S' % ae^k=S % ae^k)(hz:z=S' / ae^k % ae):(fI k S R).set k z=fI (k+1) S' R:=by
 unfold fI;rw [sP hk,List.set_append_right _ _ (by rw [ev]; exact aA _),ev,Ca,BY,acL,hz,GU h,fR];rfl
theorem AW(x k:Nat):x % ae^(k+1)=x % ae^k+ae^k*(x / ae^k % ae):=by rw [kg,Nat.mod_mul]
def dg(x k:Nat):Nat:=x / ae^k % ae
theorem p6(x k:Nat):(bg ae x).getD k 0=dg x k:=aqh bT x k
theorem kG(x k:Nat):dg x k<ae:=oC _ (by decide)
theorem GV{k:Nat}(h:aM x<=k):dg x k=0:=by
 rw [<- p6,aX,sQ h];rfl
theorem L5{k:Nat}(h:aM x<=k):x % ae^k=x:=fF (iE bT h)
theorem p7(k:Nat):0<ae^k:=Nat.pow_pos (by decide)
theorem AX(x k:Nat):x % ae^k<ae^k:=oC _ (p7 k)
theorem AY(s k:Nat):s / ae^k / ae=s / ae^(k+1):=by rw [kg,BU]
def fh(x y k:Nat):Nat:=x % ae^k+y % ae^k
theorem acM(x y k:Nat):fh x y (k+1) / ae^k=fh x y k / ae^k+dg x k+dg y k/\fh x y (k+1) % ae^k=fh x y k % ae^k:=by
 have e:fh x y (k+1)=fh x y k+ae^k*(dg x k+dg y k):=by
  unfold fh dg;rw [AW,AW,qn];omega
 rw [e];exact⟨by rw [zy _ _ (p7 k),oA],zw _ _ _⟩
theorem acN(x y k:Nat):fh x y k / ae^k<=1:=by
 have h1:=AX x k;have h2:=AX y k;have h3:fh x y k<ae^k*2:=by unfold fh; omega
 have:=BW h3;omega
theorem aqi(hx:aM x<=n)(hy:aM y<=n):(fI n (fh x y n) (List.replicate (n+1) 0)).set n (fh x y n / ae^n % ae)=pad ae (n+1) (x+y)/\x+y<ae^(n+1):=by
 have hS:fh x y n=x+y:=by unfold fh; rw [L5 hx,L5 hy]
 have hR:(List.replicate (n+1) 0).length=n+1:=vK;constructor
 . rw [hS,Dy (S':=x+y) oo rfl rfl];have:=Th (x+y) (List.replicate (n+1) 0);rwa [hR] at this
 . have h1:=iE bT hx;have h2:=iE bT hy;have h3:ae^(n+1)=ae^n*4294967296:=kg ..;omega
def ec(x y k:Nat):Nat:=x % ae^k+ae^k - y % ae^k
theorem aqj{P a1 b1 P1 Pd Pe Pq Pm:Nat}(e1:a1=a+Pd)(e2:b1=b+Pe)(e3:P1=Pm+P)(e4:Pq+Pe=Pd+Pm)(h1:b<P)(hb:b1<P1):a1+P1 - b1=a+P - b+Pq:=oo
theorem aqk{P:Nat}(h:a<P):a+P - b<P*2:=oo
theorem acO(x y k:Nat):ec x y (k+1) / ae^k+dg y k=ec x y k / ae^k+dg x k+4294967295/\ec x y (k+1) % ae^k=ec x y k % ae^k/\ec x y (k+1) / ae^(k+1)<=1:=by
 have hp:=p7 k;have h1:=AX y k;have h2:=kG y k;have hy:=AX y (k+1);have hx:=AX x (k+1);obtain⟨q,hq⟩:∃ q,q+dg y k=dg x k+4294967295:=⟨dg x k+4294967295 - dg y k,by have:ae=4294967296:=rfl; omega⟩
 have e:ec x y (k+1)=ec x y k+ae^k*q:=by
  have e3:ae^(k+1)=ae^k*4294967295+ae^k:=by rw [kg]; show ae^k*4294967296=_; omega
  have e4:ae^k*q+ae^k*dg y k=ae^k*dg x k+ae^k*4294967295:=by rw [<- qn,hq,qn]
  exact aqj (AW x k) (AW y k) e3 e4 h1 hy
 refine⟨?_,by rw [e]; exact zw _ _ _,?_⟩
 . rw [e,zy _ _ hp,oA,hq,oA]
 . have:=BW (aqk (b:=y % ae^(k+1)) hx);exact ajv.1 this
theorem aql(hx:aM x<=n)(h:y<=x):ec x y n % ae^n=x - y/\x - y<ae^n:=by
 have h1:=iE bT hx;unfold ec;rw [fF h1,fF (show y<ae^n from oo),show x+ae^n - y=x - y+ae^n from oo,Nat.add_mod_right,fF (show x - y<ae^n from oo)];exact⟨rfl,oo⟩
theorem aqm(x:Nat)(h:aM x=n):pad ae n x=bg ae x:=by rw [On bT (iE bT (vQ h)),show n - (bg ae x).length=0 by show n - aM x=0; omega]; exact oz _
theorem AZ(B:Nat):∀ (k N s:Nat),k<=N->(pad B N s).take k=pad B k s
 | 0,_,_,_=>rfl
 | k+1,0,_,h=>oo
 | k+1,N+1,s,h=>by
  show s % B::(pad B N (s / B)).take k=s % B::pad B k (s / B)
  rw [AZ B k N _ oo]
theorem A3(B:Nat):∀ (k N s:Nat),k<=N->(pad B N s).drop k=pad B (N - k) (s / B^k)
 | 0,_,_,_=>by rw [oB,vR,rC]; rfl
 | k+1,0,_,h=>oo
 | k+1,N+1,s,h=>by
  show (pad B N (s / B)).drop k=_
  rw [A3 B k N _ oo,BU,kg,kX B,Nat.add_sub_add_right]
theorem acP{k:Nat}(hk:k<=N)(h:t / ae^k=S / ae^k):fI k S (pad ae N t)=pad ae N S:=by
 unfold fI;rw [A3 _ _ _ _ hk,h,<- A3 _ _ _ _ hk,<- AZ ae k N S hk,jB]
theorem GW{k:Nat}(h:k<N):(pad ae N s).getD k 0=dg s k:=by
 rw [aX,acK (by decide) N s k h];rfl
def eL(x y i:Nat):Nat:=x % ae^i*y
def jO(x y i k:Nat):Nat:=eL x y i+ae^i*(dg x i*(y % ae^k))
def kH(x y i k:Nat):Nat:=jO x y i k / ae^(i+k) - eL x y i / ae^(i+k)
theorem acQ(x y i:Nat):jO x y i 0=eL x y i:=by
 unfold jO;rw [oB,pv,Cb,Cb,jE]
theorem acR(x y i:Nat):kH x y i 0=0:=by
 unfold kH;rw [acQ,Ca]
theorem aqn{A:Nat}(hB:0<B):(A+c+p) % B=(c+p+A % B) % B/\(A+c+p) / B - A / B=(c+p+A % B) / B:=by
 have e:A+c+p=(c+p+A % B)+B*(A / B):=by have:=WJ A B; omega
 rw [e,zw,zy _ _ hB,xx];exact⟨rfl,rfl⟩
theorem acS(ha:a<ae)(hb:b<ae):a*b<=4294967295*4294967295:=xB (ajv.1 ha) (ajv.1 hb)
theorem aqo{k:Nat}(hc:kH x y i k<ae):jO x y i (k+1) / ae^(i+k) % ae=(kH x y i k+dg x i*dg y k+dg (eL x y i) (i+k)) % ae/\jO x y i (k+1) % ae^(i+k)=jO x y i k % ae^(i+k)/\kH x y i (k+1)=(kH x y i k+dg x i*dg y k+dg (eL x y i) (i+k)) / ae/\kH x y i k+dg x i*dg y k+dg (eL x y i) (i+k)<18446744073709551616:=by
 have hp:=p7 (i+k);have e1:jO x y i (k+1)=jO x y i k+ae^(i+k)*(dg x i*dg y k):=by
  unfold jO;rw [AW,Cc,qn,qn,oA,show y / ae^k % ae=dg y k from rfl,WE (dg x i),Et]
 have e2:jO x y i k / ae^(i+k)=eL x y i / ae^(i+k)+kH x y i k:=by
  have:eL x y i / ae^(i+k)<=jO x y i k / ae^(i+k):=Nat.div_le_div_right (Nat.le_add_right _ _);unfold kH;omega
 have e3:jO x y i (k+1) / ae^(i+k)=eL x y i / ae^(i+k)+kH x y i k+dg x i*dg y k:=by rw [e1,zy _ _ hp,e2]
 obtain⟨a1,a2⟩:=aqn (A:=eL x y i / ae^(i+k)) (c:=kH x y i k) (p:=dg x i*dg y k) (B:=ae) (by decide);refine⟨by rw [e3,a1]; rfl,by rw [e1]; exact zw _ _ _,?_,?_⟩
 . show jO x y i (k+1) / ae^(i+(k+1)) - eL x y i / ae^(i+(k+1))=_
   rw [<- oA,<- AY,<- AY,e3,a2];rfl
 . have h1:=acS (kG x i) (kG y k);have h2:=kG (eL x y i) (i+k);have hB:ae=4294967296:=rfl;omega
theorem GX(hy:aM y<=m)(x i:Nat):eL x y i<ae^(i+m):=by
 have h1:=iE bT hy;have h2:=AX x i;unfold eL;rw [Cc];exact ajp h2 h1
theorem aqp(hy:aM y<=m)(i:Nat):jO x y i m=eL x y (i+1)/\kH x y i m=eL x y (i+1) / ae^(i+m) % ae:=by
 have e:jO x y i m=eL x y (i+1):=by
  unfold jO eL;rw [L5 hy,AW,lH,show x / ae^i % ae=dg x i from rfl,Et]
 refine⟨e,?_⟩;have h1:=GX hy x (i+1);rw [show i+1+m=i+m+1 from oo,kg] at h1;unfold kH;rw [e,l6 (GX hy x i),rC,fF (BW h1)]
theorem aqq(hy:aM y<=m)(hi:i<n):(fI (i+m) (jO x y i m) (pad ae (n+m) (eL x y i))).set (i+m) (kH x y i m)=pad ae (n+m) (eL x y (i+1)):=by
 obtain⟨e1,e2⟩:=aqp (x:=x) hy i;have h1:=GX hy x (i+1);rw [e1,e2,Dy (S':=eL x y (i+1)) wZ rfl rfl];have h2:=GX hy x i;have h3:ae^(i+m)<=ae^(i+m+1):=zx (by decide) oo;exact acP oo (by rw [l6 (iS h2 h3),l6 (by rw [show i+m+1=i+1+m from oo]; exact h1)])
theorem aqr(hx:x<ae^m)(hy:y<ae^m):ec x y m=x+ae^m - y/\1 - ec x y m / ae^m=if x<y then 1 else 0:=by
 have e:ec x y m=x+ae^m - y:=by unfold ec; rw [fF hx,fF hy]
 refine⟨e,?_⟩;rw [e];by_cases h:x<y
 . rw [aC h,l6 oo]
 . rw [aw h,show x+ae^m - y=x - y+ae^m from oo,Nat.add_div_right _ (p7 m),l6 oo]
theorem aqs(hx:x<ae^m)(hy:y<ae^m):fh x y m=x+y:=by unfold fh; rw [fF hx,fF hy]
def mulC(t v k:Nat):Nat:=t*(v % ae^k) / ae^k
theorem aqt(t v:Nat):mulC t v 0=0:=by
 unfold mulC;rw [oB,pv,Cb]
theorem aqu{v k:Nat}(ht:t<ae):mulC t v k<ae:=by
 have h:=AX v k;refine BW ?_;have h1:t*(v % ae^k)<=t*ae^k:=kU _ (N7 h);have h2:t*ae^k<ae*ae^k:=NK ht (p7 k);rw [kX (ae^k)];omega
theorem aqv(t v k:Nat):mulC t v (k+1)=(mulC t v k+t*dg v k) / ae/\dg (t*v) k=(mulC t v k+t*dg v k) % ae:=by
 have hp:=p7 k;have e1:t*(v % ae^(k+1))=t*(v % ae^k)+ae^k*(t*dg v k):=by
  rw [AW,qn,show v / ae^k % ae=dg v k from rfl,WE]
 have e2:t*(v % ae^(k+1)) / ae^k=mulC t v k+t*dg v k:=by rw [e1,zy _ _ hp]; rfl
 refine⟨by unfold mulC; rw [<- AY,e2]; rfl,?_⟩;have e3:t*v=t*(v % ae^(k+1))+ae^k*(ae*(t*(v / ae^(k+1)))):=by
  have h:=N5 v (ae^(k+1))
  conv=>lhs; rw [<- h]
  rw [qn,WE t,kg,Et]
 unfold dg;rw [e3,zy _ _ hp,e2,zw];rfl
theorem acT{v:Nat}(ht:t<ae)(hv:aM v<=n)(hm:n<m):t*v<ae^m:=by
 have h1:=iE bT hv;have h2:t*v<=t*ae^n:=kU _ (N7 h1);have h3:t*ae^n<ae*ae^n:=NK ht (p7 n);have h4:ae*ae^n<=ae^m:=by rw [kX,<- kg]; exact zx (by decide) hm
 omega
open Go.RowKit
def aqw(x y n T:Nat):Lp where
 X:=Nat
 ov k := [(22,.int .i64 fun _=>(k:Int)),(6,.int .u64 fun _=>(fh x y k / ae^k:Nat)),(5,.own 0)]
 oe k := [(0,.row true .u32 T fun _=>cl (fI k (fh x y k) (List.replicate (n+1) 0)))]
 I k:=k<=n
 μ k _:=n - k
 x0:=0
 nx:=some fun k=>k+1
def acU:aN:=c6 187 kD kD (fun a b=>dY (a ())/\dY (b ())) (fun a b => .sl false .u32 fun _=>bH (dI (a ())+dI (b ())))
theorem aqx:aU Tryz.prog acU:=by
 refine fH { kp := [(0,[0,1]),(1,[0,1]),(2,[0,1]),(3,[0,1]),(4,[0,1,5]),(5,[0,1,5,6]),(6,[0,1,5,6,20,21,22]),(7,[0,1,5,6,20,21,22]),(8,[0,1,5,6,7,8,20,21,22]),(9,[0,1,5,6,7,20,21,22]),(10,[0,1,5,6,7,20,21,22]),(11,[0,1,5,6,7,20,21,22]),(12,[0,1,5,6,20,21,22]),(13,[0,1,5,6,20,21,22]),(14,[0,5,6]),(15,[5])] } [Du] ⟨GO,trivial⟩ [giveUp 105] ⟨GP,trivial⟩ Tryz.func187 (by kernel_rfl) fun ai res h hp => ?_;obtain⟨(a:List Int),(b:List Int),rfl,rfl⟩:=dh h;clear h;have tH:dY a/\dY b:=hp;have ha:=tH.1;have hb:=tH.2;obtain⟨x,rfl,hx⟩:=mD ha;obtain⟨y,rfl,hy⟩:=mD hb;clear ha hb;rcases b9 (aM x) (aM y) with hc|hc
 case' inl=>generalize hX:y=X at *; generalize hY:x=Y at *
 case' inr=>generalize hX:x=X at *; generalize hY:y=Y at *
 all_goals
  refine bW (aM X) fun n hn => ?_;refine⟨[(6,aqw X Y n 49)],?_⟩;refine fm ?_;have p8:(bH X).length=aM X:=dZ X;have mE:(bH Y).length=aM Y:=dZ Y;have xa:fh X Y 0 / 4294967296^0=0:=by unfold fh; rw [oB,pv,pv]
  simp only [p8,mE,xa,Tg,<- LV];refine⟨fun g => ?_,fun g => ?_⟩<;>first|(exfalso; omega)|skip
  refine⟨ii,⟨oo,oo⟩,⟨⟨bO _,rfl,rfl,by rw [show ((aM X:Int)+1).toNat=n+1 from oo]⟩,fun (k:Nat) hk => ?_⟩⟩;have cR:k<=n:=hk;clear hk hp;refine fm ?_;have er:Tc.u32.aa=0:=rfl;have AN:(bg 4294967296 X).length=n:=hn;have hR:(List.replicate (n+1) 0).length=n+1:=vK;have fU:(cl (fI k (fh X Y k) (List.replicate (n+1) 0))).length=n+1:=by rw [lD,Dx oo,hR]
  have hX1:=kG X k;have Tj:=kG Y k;have xb:aM Y<=k->dg Y k=0:=GV;have gL:=acN X Y k;obtain⟨j8,mY⟩:=acM X Y k;have tI:=AY (fh X Y (k+1)) k;have hB:ae=4294967296:=rfl;simp only [er,r8,p6,fU,AN,p8,mE,hn];have oW:=fun (hk:k<n) z hz=>AS (fI k (fh X Y k) (List.replicate (n+1) 0)) k z▸congrArg cl (Dy (z:=z) (R:=List.replicate (n+1) 0) oo mY hz);have gG:k=n->bH (dI ((cl (fI k (fh X Y k) (List.replicate (n+1) 0))).set n (IntKind.u32.wrap ((fh X Y k / 4294967296^k:Nat):Int))))=bH (X+Y)/\d32 ((cl (fI k (fh X Y k) (List.replicate (n+1) 0))).set n (IntKind.u32.wrap ((fh X Y k / 4294967296^k:Nat):Int))):=by
   rintro rfl
   obtain⟨e1,e2⟩:=aqi (x:=X) (y:=Y) (n:=k) oo oo;rw [wrap_u32,AS,e1,pZ,nJ (by decide) _ _ e2];exact⟨rfl,Dr (rG (by decide) _ _) wZ⟩
  clear mY;generalize fh X Y k / 4294967296^k=c at *
  have w1:IntKind.u64.wrap (dg X k:Int)=(dg X k:Int):=fZ oo;have w2:IntKind.u64.wrap (dg Y k:Int)=(dg Y k:Int):=fZ oo;have w3:IntKind.u64.wrap ((c:Int)+(dg X k:Int))=((c+dg X k:Nat):Int):=by rw [<- B6]; exact fZ oo
  have w4:IntKind.u64.wrap (((c+dg X k:Nat):Int)+(dg Y k:Int))=((c+dg X k+dg Y k:Nat):Int):=by rw [<- B6]; exact fZ oo
  simp only [w1,w2,w3,w4,GK,wrap_u32,ik];refine⟨fun g1=>⟨⟨oo,oo⟩,fun g2=>⟨⟨oo,oo⟩,⟨oo,oo⟩,oo,ii,⟨oo,oo⟩,oo,?_,oW oo _ (by rw [j8])⟩,fun g2=>⟨⟨oo,oo⟩,oo,ii,⟨oo,oo⟩,oo,?_,oW oo _ (by rw [j8,xb oo,jE])⟩⟩,fun g1=>⟨⟨oo,oo⟩,?_,?_⟩⟩
  . rw [<- tI,j8]
  . rw [<- tI,j8,xb oo,jE]
  . have:=(gG oo).2; rwa [wrap_u32] at this
  . have:=(gG oo).1; rw [wrap_u32] at this; exact this.trans (congrArg bH oo)
def aqz(x y n T:Nat):Lp where
 X:=Nat
 ov k := [(13,.int .i64 fun _=>(k:Int)),(6,.int .u64 fun _=>(1 - ec x y k / ae^k:Nat)),(5,.own 0)]
 oe k := [(0,.row true .u32 T fun _=>cl (fI k (ec x y k) (bg ae x)))]
 I k:=k<=n/\ec x y k / ae^k<=1
 μ k _:=n - k
 x0:=0
 nx:=some fun k=>k+1
def acV:aN:=c6 188 kD kD (fun a b=>(dY (a ())/\dY (b ()))/\dI (b ())<=dI (a ())) (fun a b => .sl false .u32 fun _=>bH (dI (a ()) - dI (b ())))
theorem aqA:aU Tryz.prog acV:=by
 refine fH { kp := [(0,[0,1]),(1,[0,1]),(2,[1,5]),(3,[1,5,6]),(4,[1,5,6,12,13]),(5,[1,5,6,12,13]),(6,[1,5,6,7,12,13]),(7,[1,5,7,8,12,13]),(8,[1,5,7,8,12,13]),(9,[1,5,7,8,12,13]),(10,[1,5,8,12,13]),(11,[1,5,6,12,13]),(12,[5])] } [Du] ⟨GO,trivial⟩ [giveUp 105,L4] ⟨GP,acJ,trivial⟩ Tryz.func188 (by kernel_rfl) fun ai res h hp => ?_;obtain⟨(a:List Int),(b:List Int),rfl,rfl⟩:=dh h;clear h;obtain⟨⟨ha,hb⟩,hle⟩:(dY a/\dY b)/\dI b<=dI a:=hp;obtain⟨x,rfl,hx⟩:=mD ha;obtain⟨y,rfl,hy⟩:=mD hb;clear ha hb;rw [ik,ik] at hle;refine bW (aM x) fun n hn => ?_;refine⟨[(4,aqz x y n 49)],?_⟩;refine fm ?_;have p8:(bH x).length=n:=(dZ x).trans hn;have mE:(bH y).length=aM y:=dZ y;have xa:ec x y 0 / 4294967296^0=1:=by unfold ec; rw [oB,pv,pv]
 simp only [p8,mE,xa,Tg];refine⟨oo,⟨⟨⟨bO _,aA _⟩,rfl,rfl,rfl⟩,fun (k:Nat) hk => ?_⟩⟩;have cp:k<=n/\ec x y k / ae^k<=1:=hk;have cR:=cp.1;have bU:=cp.2;clear hk;refine fm ?_;have er:Tc.u32.aa=0:=rfl;have AN:(bg ae x).length=n:=hn;have fU:(cl (fI k (ec x y k) (bg ae x))).length=n:=by rw [lD,Dx oo,AN]
 have lO:(cl (fI k (ec x y k) (bg ae x))).getD k 0=(dg x k:Nat):=by rw [AR,Ti,p6]
 have hX1:=kG x k;have Tj:=kG y k;have xb:aM y<=k->dg y k=0:=GV;obtain⟨j8,mY,GY⟩:=acO x y k;have tI:=AY (ec x y (k+1)) k;have hB:ae=4294967296:=rfl;simp only [er,r8,p6,fU,lO,p8,mE,ik];have oW:=fun (hk:k<n) z hz=>AS (fI k (ec x y k) (bg ae x)) k z▸congrArg cl (Dy (z:=z) (R:=bg ae x) oo mY hz);have gG:k=n->bH (dI (cl (fI k (ec x y k) (bg ae x))))=bH (x - y)/\d32 (cl (fI k (ec x y k) (bg ae x))):=by
  rintro rfl
  obtain⟨e1,e2⟩:=aql (x:=x) (y:=y) (n:=k) oo hle;have e3:fI k (ec x y k) (bg ae x)=pad ae k (x - y):=by
   have:=Th (ec x y k) (bg ae x);rw [AN] at this;rw [this];exact GU (by rw [e1,fF e2])
  rw [e3,pZ,nJ (by decide) _ _ e2];exact⟨rfl,Dr (rG (by decide) _ _) wZ⟩
 clear mY;generalize ec x y k / 4294967296^k=c at *
 have w1:IntKind.u64.wrap (dg x k:Int)=(dg x k:Int):=fZ oo;have w2:IntKind.u64.wrap (dg y k:Int)=(dg y k:Int):=fZ oo;obtain⟨o1,o2⟩:=acy (d:=dg x k) (e:=dg y k) (o:=1 - c) (r:=ec x y (k+1) / ae^k) oo oo;have C4:=fun (h:dg y k=0)=>ap5 (d:=dg x k) (o:=1 - c) (r:=ec x y (k+1) / ae^k) oo oo;simp only [w1,w2,o1,o2];refine⟨fun g1=>⟨⟨oo,oo⟩,fun g2=>⟨⟨oo,oo⟩,⟨oo,oo⟩,oo,ii,⟨⟨oo,GY⟩,oo⟩,oo,by rw [<- tI],oW oo _ rfl⟩,fun g2 => ?_⟩,fun g1=>⟨(gG oo).2,(gG oo).1⟩⟩;obtain⟨p1,p2⟩:=C4 (xb oo);rw [p1,p2];exact⟨⟨oo,oo⟩,oo,ii,⟨⟨oo,GY⟩,oo⟩,oo,by rw [<- tI],oW oo _ rfl⟩
def aqB(x y n m T:Nat):Lp where
 X:=Nat
 ov i := [(19,.int .i64 fun _=>(i:Int)),(5,.own 0)]
 oe i := [(0,.row true .u32 T fun _=>cl (pad ae (n+m) (eL x y i)))]
 I i:=i<=n
 μ i _:=n - i
 x0:=0
 nx:=some fun i=>i+1
def aqC(x y n m i T:Nat):Lp where
 X:=Nat
 ov k := [(26,.int .i64 fun _=>(k:Int)),(8,.int .u64 fun _=>(kH x y i k:Nat)),(5,.own 0)]
 oe k := [(0,.row true .u32 T fun _=>cl (fI (i+k) (jO x y i k) (pad ae (n+m) (eL x y i))))]
 I k:=k<=m/\kH x y i k<ae
 μ k _:=m - k
 x0:=0
 nx:=some fun k=>k+1
def Dz:aN:=c6 127 kD kD (fun a b=>dY (a ())/\dY (b ())) (fun a b => .sl false .u32 fun _=>bH (dI (a ())*dI (b ())))
theorem GZ:aU Tryz.prog Dz:=by
 refine fH { kp := [(0,[0,1]),(1,[0,1]),(2,[0,1,5]),(3,[1,5,17,18,19]),(4,[1,5,17,18,19]),(5,[1,5,6,7,17,18,19]),(6,[1,5,6,7,8,17,18,19]),(7,[1,5,6,7,8,17,18,19,24,25,26]),(8,[1,5,6,7,8,17,18,19,24,25,26]),(9,[1,5,6,7,8,9,10,17,18,19,24,25,26]),(10,[1,5,6,7,8,9,17,18,19,24,25,26]),(11,[1,5,6,7,8,17,18,19,24,25,26]),(12,[1,5,6,7,8,17,18,19,24,25,26]),(13,[1,5,6,8,17,18,19]),(14,[1,5,17,18,19]),(15,[5])] } [Du] ⟨GO,trivial⟩ [giveUp 105] ⟨GP,trivial⟩ Tryz.func127 (by kernel_rfl) fun ai res h hp => ?_;obtain⟨(a:List Int),(b:List Int),rfl,rfl⟩:=dh h;clear h;have tH:dY a/\dY b:=hp;have ha:=tH.1;have hb:=tH.2;obtain⟨x,rfl,hx⟩:=mD ha;obtain⟨y,rfl,hy⟩:=mD hb;clear ha hb;refine bW (aM x) fun n hn => ?_;refine bW (aM y) fun m hm => ?_;refine⟨[(3,aqB x y n m 49)],?_⟩;refine fm ?_;have p8:(bH x).length=n:=(dZ x).trans hn;have mE:(bH y).length=m:=(dZ y).trans hm;have er:Tc.u32.aa=0:=rfl;have xa:eL x y 0=0:=by unfold eL; rw [oB,pv,xD]
 simp only [p8,mE,xa,W4,<- LV];refine⟨ii,⟨oo,oo⟩,⟨⟨bO _,rfl,by rw [show ((n:Int)+(m:Int)).toNat=n+m from oo]⟩,fun (i:Nat) hi => ?_⟩⟩;have zN:i<=n:=hi;clear hi;refine fm ?_;have fU:(cl (pad ae (n+m) (eL x y i))).length=n+m:=by rw [lD,ev]
 simp only [er,r8,p6,fU,p8,mE,ik];refine⟨fun g1=>⟨⟨oo,oo⟩,?_⟩,fun g1 => ?_⟩
 . refine⟨aqC x y n m i 49,?_⟩;refine fm ?_;refine⟨⟨⟨bO _,by rw [acR]; decide⟩,rfl,by rw [acR]; rfl,by rw [acQ,jE,acP oo rfl]⟩,fun (k:Nat) hk => ?_⟩;have cp:k<=m/\kH x y i k<ae:=hk;have cR:=cp.1;have bU:=cp.2;clear hk;refine fm ?_;have G0:(cl (fI (i+k) (jO x y i k) (pad ae (n+m) (eL x y i)))).length=n+m:=by rw [lD,Dx wZ,ev]
   have lO:k<m->(cl (fI (i+k) (jO x y i k) (pad ae (n+m) (eL x y i)))).getD (i+k) 0=(dg (eL x y i) (i+k):Nat):=fun h=>by rw [AR,Ti,GW oo]
   have kJ:((i:Int)+(k:Int)).toNat=i+k:=oo
   have him:((i:Int)+(m:Int)).toNat=i+m:=oo
   simp only [er,r8,p6,G0,p8,mE,kJ,him];obtain⟨q1,q2,q3,q4⟩:=aqo bU;have gG:k=m->(cl (fI (i+k) (jO x y i k) (pad ae (n+m) (eL x y i)))).set (i+m) ((kH x y i k:Nat):Int)=cl (pad ae (n+m) (eL x y (i+1))):=by
    rintro rfl
    rw [AS,aqq (vQ hm) oo]
   have w1:IntKind.u64.wrap (dg x i:Int)=(dg x i:Int):=fZ (WQ (kG _ _) (by decide));have w2:IntKind.u64.wrap (dg y k:Int)=(dg y k:Int):=fZ (WQ (kG _ _) (by decide));have w3:IntKind.u64.wrap (dg (eL x y i) (i+k):Int)=(dg (eL x y i) (i+k):Int):=fZ (WQ (kG _ _) (by decide));have w4:IntKind.u64.wrap ((dg x i:Int)*(dg y k:Int))=((dg x i*dg y k:Nat):Int):=by rw [<- NY]; exact fZ oo
   refine⟨fun g2 => ?_,fun g2=>⟨ii,⟨oo,oo⟩,ii,⟨oo,oo⟩,oo,?_⟩⟩
   . rw [lO oo,w1,w2,w3,w4];have oW:=Dy (k:=i+k) (S:=jO x y i k) (S':=jO x y i (k+1)) (z:=(kH x y i k+dg x i*dg y k+dg (eL x y i) (i+k)) % ae) (R:=pad ae (n+m) (eL x y i)) wZ q2 q1.symm;have ah:kH x y i (k+1)<ae:=by rw [q3]; exact BW q4
     generalize dg x i*dg y k=p at *
     generalize dg (eL x y i) (i+k)=d at *
     generalize kH x y i k=c at *
     have w5:IntKind.u64.wrap ((p:Int)+(d:Int))=((p+d:Nat):Int):=by rw [<- B6]; exact fZ oo
     have w6:IntKind.u64.wrap ((c:Int)+((p+d:Nat):Int))=((c+p+d:Nat):Int):=by rw [<- B6,<- oA]; exact fZ oo
     rw [w5,w6,GK,wrap_u32,AS];exact⟨⟨oo,oo⟩,ii,⟨oo,oo⟩,ii,⟨oo,oo⟩,oo,ii,⟨⟨oo,ah⟩,oo⟩,oo,by rw [q3],congrArg cl oW⟩
   . rw [wrap_u32,fF bU];exact gG oo
 . have nY:i=n:=oo
   subst nY;have e:eL x y i=x*y:=by unfold eL; rw [L5 (vQ hn)]
   have h2:=GX (vQ hm) x i;rw [e] at h2 ⊢;have e3:bH (dI (cl (pad ae (i+m) (x*y))))=bH (x*y):=by rw [pZ,nJ (by decide) _ _ h2]
   exact⟨Dr (rG (by decide) _ _) wZ,e3⟩
end Go.Proofs.YtamjbkaclhgffaaGreat
