/-
  Contracts of box, stow and slot by the abstract run: finding, heights, what meets, what is held.
-/
import Derived.Test.YtlpikgchnjajmaaGreatTp17
import Derived.Maps.OwnSet
set_option linter.all false
set_option maxRecDepth 100000
set_option maxHeartbeats 4000000
namespace Go.Proofs.YtlpikgchnjajmaaGreat
open Go.RowKit
variable{l:List aJ}{k:Nat}{α:Type}
theorem Sc{p : α->Bool}{l:List α}{d : α}(h0:∀ j,j<k->p (l.getD j d)=false)(hk:k<l.length)(h:p (l.getD k d)=true):idx p l=k:=by
 have e:∀ j,(hj:j<l.length)->l.getD j d=l[j]:=fun j hj=>by rw [ba,bp hj,gZ]
 exact NF hk (fun j h1=>by rw [<- e j oo]; exact h0 j h1) (by rw [<- e k hk]; exact h)
theorem Sd{p : α->Bool}{l:List α}{d : α}(h0:∀ j,j<k->p (l.getD j d)=false)(hk:l.length<=k):idx p l = -1:=by
 have e:∀ j,(hj:j<l.length)->l.getD j d=l[j]:=fun j hj=>by rw [ba,bp hj,gZ]
 exact NG fun j hj=>by rw [<- e j hj]; exact h0 j oo
theorem wZ{p:Nat->Prop}(h:∀ j,j<k->p j)(hk:p k):∀ j,j<k+1->p j:=fun j hj=>by
 rcases cw j k with h1|h1
 . exact h j h1
 . rw [show j=k from oo]; exact hk
def Se(s:Nat)(d : α)(l:List α)(p : α->Bool):Lp where
 X:=Nat
 ov k := [(s,.int .i64 fun _=>(k:Int))]
 oe _ := []
 I k:=k<=l.length/\∀ j,j<k->p (l.getD j d)=false
 μ k _:=l.length - k
 x0:=0
 nx:=some fun k=>k+1
def abv:aH:=df 307 F8 F6 (fun _ _=>True) (fun b id => .bool fun _=>r6 (id ()) (b ()))
theorem aoR:aK Tryz.prog abv:=by
 refine cd [] trivial Tryz.func307 (by kernel_rfl) fun ai res h hp => ?_;obtain⟨(b:aJ),(id:Int),rfl,rfl⟩:=dz h;clear h;refine⟨[],?_⟩
 conv=>arg 1; cbv
 simp (maxSteps:=4000000) only [aB];rfl
def abw:aH:=df 249 pZ (abd 307) (fun l _=>(l ()).length<=1000000000000) (fun l id => .int .i64 fun _=>idx (r6 (id ())) (l ()))
theorem aoS:aK Tryz.prog abw:=by
 refine cd [abv] ⟨aoR,trivial⟩ Tryz.func249 (by kernel_rfl) fun ai res h hp => ?_;obtain⟨(l:List aJ),(id:Int),rfl,rfl⟩:=dz h;clear h;have hl:l.length<=1000000000000:=hp;refine⟨[(2,Se 8 Tc.box.aa l (r6 id))],?_⟩
 exact no_implicit_lambda% abx
theorem aoT(l)(id):idx (r6 id) l<0/\bZ l id=(Sa,false)\/∃ k:Nat,idx (r6 id) l=k/\k<l.length/\bZ l id=(l.getD k Tc.box.aa,true):=by
 rcases NH (r6 id) l with ⟨h1,h2⟩|⟨k,hk,h1,h2,h3⟩
 . left;refine⟨oo,?_⟩;unfold bZ;rw [M4.2 fun x hx=>by rw [h2 x hx]; simp]
 . right;refine⟨k,h1,hk,?_⟩;unfold bZ;rw [h3,ba,bp hk];rfl
def Sf:aH:=df 243 pZ kI (fun l _=>(l ()).length<=1000000000000) (fun l id => .aU [.agg (K1 fun _=>(bZ (l ()) (id ())).1),.bool fun _=>(bZ (l ()) (id ())).2])
theorem aby:aK Tryz.prog Sf:=by
 refine cd [abw] ⟨aoS,trivial⟩ Tryz.func243 (by kernel_rfl) fun ai res h hp => ?_;obtain⟨(l:List aJ),(id:Int),rfl,rfl⟩:=dz h;clear h;have hl:l.length<=1000000000000:=hp;refine⟨[],?_⟩
 exact no_implicit_lambda% abz
def abA:aH:=df 250 F8 F6 (fun _ _=>True) (fun b id => .bool fun _=>r6 (id ()) (b ()))
theorem aoU:aK Tryz.prog abA:=by
 refine cd [] trivial Tryz.func250 (by kernel_rfl) fun ai res h hp => ?_;obtain⟨(b:aJ),(id:Int),rfl,rfl⟩:=dz h;clear h;refine⟨[],?_⟩
 conv=>arg 1; cbv
 simp (maxSteps:=4000000) only [aB];rfl
def abB:aH:=df 249 pZ (abd 250) (fun l _=>(l ()).length<=1000000000000) (fun l id => .int .i64 fun _=>idx (r6 (id ())) (l ()))
theorem aoV:aK Tryz.prog abB:=by
 refine cd [abA] ⟨aoU,trivial⟩ Tryz.func249 (by kernel_rfl) fun ai res h hp => ?_;obtain⟨(l:List aJ),(id:Int),rfl,rfl⟩:=dz h;clear h;have hl:l.length<=1000000000000:=hp;refine⟨[(2,Se 8 Tc.box.aa l (r6 id))],?_⟩
 exact no_implicit_lambda% abx
def abC:aH:=df 148 pZ kI (fun l _=>(l ()).length<=1000000000000) (fun l id => .aU [.agg (K1 fun _=>(bZ (l ()) (id ())).1),.bool fun _=>(bZ (l ()) (id ())).2])
theorem aoW:aK Tryz.prog abC:=by
 refine cd [abB] ⟨aoV,trivial⟩ Tryz.func148 (by kernel_rfl) fun ai res h hp => ?_;obtain⟨(l:List aJ),(id:Int),rfl,rfl⟩:=dz h;clear h;have hl:l.length<=1000000000000:=hp;refine⟨[],?_⟩
 exact no_implicit_lambda% abz
def abD:aH:=dU 341 F8 (fun _=>True) (fun b => .int .i64 fun _=>jd (b ()))
theorem aoX:aK Tryz.prog abD:=by
 refine cd [] trivial Tryz.func341 (by kernel_rfl) fun ai res h hp => ?_;obtain⟨(b:aJ),rfl,rfl⟩:=eu h;clear h;refine⟨[],?_⟩;refine fm ?_;refine⟨fun g => ?_,fun g => ?_⟩<;>unfold jd<;>rw [g]<;>rfl
def abE:aH:=dU 149 F8 (fun _=>True) (fun b => .int .i64 fun _=>jd (b ()))
theorem aoY:aK Tryz.prog abE:=by
 refine cd [] trivial Tryz.func149 (by kernel_rfl) fun ai res h hp => ?_;obtain⟨(b:aJ),rfl,rfl⟩:=eu h;clear h;refine⟨[],?_⟩;refine fm ?_;refine⟨fun g => ?_,fun g => ?_⟩<;>unfold jd<;>rw [g]<;>rfl
/- DV -/
theorem abF(p)(l:List α):decide (0<=idx p l)=l.any p:=by
 rcases NH p l with ⟨h1,h2⟩|⟨k,hk,h1,h2,_⟩
 . rw [gw oo];symm;rw [DF];exact fun x hx=>by rw [h2 x hx]; simp
 . rw [c8 oo];symm;rw [Np];exact⟨_,mj hk,h2⟩
def Gh(x y:Slot):Bool:=decide (x=y)
def abG:aH:=df 340 RS CL (fun l _=>(l ()).length<=1000000000000) (fun l x => .int .i64 fun _=>idx (Gh (x ())) (l ()))
theorem aoZ:aK Tryz.prog abG:=by
 refine cd [] trivial Tryz.func340 (by kernel_rfl) fun ai res h hp => ?_;obtain⟨(l:List Slot),(x:Slot),rfl,rfl⟩:=dz h;clear h;have hl:l.length<=1000000000000:=hp;refine⟨[(2,Se 8 Tc.slot.aa l (Gh x))],?_⟩
 conv=>arg 1; cbv
 refine⟨?_,fun (k:Nat) hk => ?_⟩
 . exact u7
 have cR:k<=l.length/\∀ j,j<k->(Gh x) (l.getD j Tc.slot.aa)=false:=hk;have cZ:=cR.1;have cg:=cR.2
 conv=>arg 1; cbv
 simp (maxSteps:=4000000) only [aB];have hky:∀ y:Slot,([Kx.i .i64 x.ax,Kx.i .i64 x.aF,Kx.i .u8 x.half] = [Kx.i .i64 y.ax,Kx.i .i64 y.aF,Kx.i .u8 y.half])=(x=y):=fun y=>by
  obtain⟨a,b,c⟩:=x;obtain⟨a2,b2,c2⟩:=y;simp
 refine⟨fun g => ?_,fun g=>(Sd cg oo).symm⟩;have aj:k<l.length:=oo
 simp only [hky];exact⟨⟨oo,oo⟩,fun h=>(Sc cg aj (c8 h)).symm,fun h=>⟨ii,⟨⟨aj,wZ cg (gw h)⟩,oo⟩,oo⟩⟩
def abH:aH:=df 311 RS CL (fun l _=>(l ()).length<=1000000000000) (fun l x => .bool fun _=>(l ()).any (Gh (x ())))
theorem ao1:aK Tryz.prog abH:=by
 refine cd [abG] ⟨aoZ,trivial⟩ Tryz.func311 (by kernel_rfl) fun ai res h hp => ?_;obtain⟨(l:List Slot),(x:Slot),rfl,rfl⟩:=dz h;clear h;have hl:l.length<=1000000000000:=hp;refine⟨[],?_⟩;refine fm ?_;exact⟨hl,abF (Gh x) l⟩
def AV.Si:AV->Option (Unit->List Slot)
 | .bg [.sl false .slot l] 0=>some l
 | _=>none
theorem AV.ao2{x:AV}{n:Unit->List Slot}(h:x.Si=some n):x = .bg [.sl false .slot n] 0:=by
 unfold AV.Si at h;exact EA
abbrev ao3:Kd:=⟨List Slot,.bg [.sl .slot],fun n => .bg [.sl false .slot n] 0,AV.Si,AV.ao2⟩
def AV.Sl:AV->Option (Unit->Slot)
 | .bg [.int .i64 a,.int .i64 b,.int .u8 c] 0=>some fun _=>⟨a (),b (),c ()⟩
 | _=>none
theorem AV.ao4{x:AV}{n:Unit->Slot}(h:x.Sl=some n):x = .bg [.int .i64 fun _=>(n ()).ax,.int .i64 fun _=>(n ()).aF,.int .u8 fun _=>(n ()).half] 0:=by
 unfold AV.Sl at h;exact EA
abbrev ao5:Kd:=⟨Slot,.bg aa3,fun n => .bg [.int .i64 fun _=>(n ()).ax,.int .i64 fun _=>(n ()).aF,.int .u8 fun _=>(n ()).half] 0,AV.Sl,AV.ao4⟩
def abI:aH:=lE 310 u1 ao3 ao5 (fun _ l x=>(l ()).length<=1000000000000/\aY ((x ()).aF - 1)) (fun h l x => .bool fun _=>AF (x ()) (l ()) (h ()))
theorem ao6:aK Tryz.prog abI:=by
 refine cd [abH] ⟨ao1,trivial⟩ Tryz.func310 (by kernel_rfl) fun ai res h hp => ?_;obtain⟨(h:Int),(l:List Slot),(x:Slot),rfl,rfl⟩:=mO h;clear h;have hl:l.length<=1000000000000/\aY (x.aF - 1):=hp;refine⟨[],?_⟩;refine fm ?_;exact⟨hl.2,hl.1,rfl⟩
def abJ:aH:=df 245 CL RS (fun x l=>(l ()).length<=1000000000000/\(x ()).aF<=1000000) (fun x l => .bool fun _=>wX (x ()) (l ()))
theorem ao7:aK Tryz.prog abJ:=by
 refine cd [abI] ⟨ao6,trivial⟩ Tryz.func245 (by kernel_rfl) fun ai res h hp => ?_;obtain⟨(x:Slot),(l:List Slot),rfl,rfl⟩:=dz h;clear h;have hl:l.length<=1000000000000/\x.aF<=1000000:=hp;refine⟨[],?_⟩;refine fm ?_;refine⟨fun h=>by unfold wX; rw [aw h],fun h => ?_⟩;have e:wX x l=(AF x l x.half||(decide (x.half=0)&&(AF x l 1&&AF x l 2))):=ar h;have hi:aY (x.aF - 1):=ii
 have ex:(⟨x.ax,x.aF,x.half⟩:Slot)=x:=rfl;simp only [ex,e];refine⟨⟨hl.1,hi⟩,fun h1=>by simp [h1],fun h1=>⟨fun h0=>⟨⟨hl.1,hi⟩,fun h2=>⟨⟨hl.1,hi⟩,?_⟩,fun h2 => ?_⟩,fun h0=>by simp [h1,h0]⟩⟩ <;>
 . rw [h0] at h1;simp [h0,h1,h2]
def abK:aH:=df 312 u1 u1 (fun _ _=>True) (fun a b => .bool fun _=>wW (a ()) (b ()))
theorem ao8:aK Tryz.prog abK:=by
 refine cd [] trivial Tryz.func312 (by kernel_rfl) fun ai res h hp => ?_;obtain⟨(a:Int),(b:Int),rfl,rfl⟩:=dz h;clear h;refine⟨[],?_⟩;refine fm ?_;exact⟨fun h=>by simp [wW,h],fun h=>⟨fun h0=>by simp [wW,h0],fun h0=>by simp [wW,h,h0]⟩⟩
def abL:aH:=df 246 CL CL (fun _ _=>True) (fun x y => .bool fun _=>kK (x ()) (y ()))
theorem ao9:aK Tryz.prog abL:=by
 refine cd [abK] ⟨ao8,trivial⟩ Tryz.func246 (by kernel_rfl) fun ai res h hp => ?_;obtain⟨(x:Slot),(y:Slot),rfl,rfl⟩:=dz h;clear h;refine⟨[],?_⟩;refine fm ?_;exact⟨fun h1=>⟨fun h2=>by simp [kK,h1,h2],fun h2=>by simp [kK,h2]⟩,fun h1=>by simp [kK,h1]⟩
def apa(bs:List aJ)(l:List ay)(c h:Int):Lp where
 X:=Nat
 ov k := [(16,.int .i64 fun _=>(k:Int)),(9,.int .i64 fun _=>fB bs (l.take k) c h)]
 oe _ := []
 I k:=k<=l.length
 μ k _:=l.length - k
 x0:=0
 nx:=some fun k=>k+1
def abM:aH:=uY 313 pZ u2 kI u1 (fun bs l _ _=>(bs ()).length<=1000000000000/\(l ()).length<=1000000) (fun bs l ax half => .int .i64 fun _=>fB (bs ()) (l ()) (ax ()) (half ()))
theorem apb:aK Tryz.prog abM:=by
 refine cd [Sf,abD] ⟨aby,aoX,trivial⟩ Tryz.func313 (by kernel_rfl) fun ai res h hp => ?_;obtain⟨(bs:List aJ),(l:List ay),(ax:Int),(half:Int),rfl,rfl⟩:=yN h;clear h;have hl:bs.length<=1000000000000/\l.length<=1000000:=hp;refine⟨[(3,apa bs l ax half)],?_⟩
 conv=>arg 1; cbv
 refine⟨?_,fun (k:Nat) hk => ?_⟩
 . simp (maxSteps:=4000000) only [aB];simp [fB]
 have cZ:k<=l.length:=hk;refine fm ?_;refine⟨fun g => ?_,fun g=>by rw [lL oo]⟩;have aj:k<l.length:=oo
 have hst:fB bs (l.take (k+1)) ax half=fB bs (l.take k) ax half+lF bs ax half (l.getD k Tc.aq.aa):=by
  unfold fB;rw [show l.take (k+1)=l.take k ++ [l[k]] from by rw [List.take_add_one,bp aj]; rfl,sC,List.sum_append,ba,bp aj];simp only [kX,vE,Bn,List.sum_nil,gZ];omega
 have hb:0<=fB bs (l.take k) ax half/\fB bs (l.take k) ax half<=2896*((l.take k).length:Int):=abu _ (abt bs ax half) _;rw [c6] at hb;have kG:=u6 (bZ bs (l.getD k Tc.aq.aa).box).1;have et:∀ b:aJ,jd (⟨b.id,b.num,b.size,b.high,b.af,b.load,b.kz,b.cls,b.vU⟩:aJ)=jd b:=fun _=>rfl;simp only [et,hst];unfold lF;generalize fB bs (l.take k) ax half=H at *
 generalize jd (bZ bs (l.getD k Tc.aq.aa).box).1=T at *
 have h1:∀ P,P->aY ((k:Int)+1)/\(k+1<=l.length/\l.length - (k+1)<l.length - k)/\(k:Int)+1=((k+1:Nat):Int)/\P:=fun P h=>⟨ii,oo,oo,h⟩
 have h2:aY (H+T):=ii
 clear hst et hb kG;generalize l.getD k Tc.aq.aa=y;refine⟨oo,fun c=>⟨fun c1=>⟨hl.1,fun c2=>⟨h2,h1 _ ?_⟩,fun c2=>h1 _ ?_⟩,fun c1=>⟨fun c3=>⟨hl.1,fun c2=>⟨h2,h1 _ ?_⟩,fun c2=>h1 _ ?_⟩,fun c3=>h1 _ ?_⟩⟩,fun c=>h1 _ ?_⟩<;>simp [*]
open Go.Maps Go.WideMaps
def u9(l:List aJ)(k:Nat)(s:ByteArray):Bool:=(l.take k).any (fun b => !decide (b.num=r5)&&decide (b.num=s))
def vd(l:List aJ)(k:Nat):Int:=if k=0 then 0 else (l[k - 1]?.map aJ.id).getD 0
def mQ(l:List aJ)(k:Nat):Bool :=
 match l[k]? with
 | some b=>u9 l k b.num||decide (b.id<=vd l k) || !nw b
 | none=>false
def mR(l:List aJ):Int×Int :=
 if l.length>2000 then (-1,5) else
 match (List.range l.length).find? (mQ l) with
 | some k=>(k,60)
 | none=>(-1,0)
theorem apc(hl:l.length<=2000)(hk:k<l.length)(hj:∀ j,j<k->mQ l j=false)(h:mQ l k=true):mR l=((k:Int),60):=by
 have:(List.range l.length).find? (mQ l)=some k:=by
  rw [List.find?_range_eq_some];exact⟨h,by simpa using hk,fun j qn=>by simp [hj j qn]⟩
 unfold mR;rw [ar oo,this]
theorem apd(hl:l.length<=2000)(hj:∀ j,j<l.length->mQ l j=false):mR l=(-1,0):=by
 have:(List.range l.length).find? (mQ l)=none:=by
  rw [M4];intro x hx;rw [hj x (by simpa using hx)];simp
 unfold mR;rw [ar oo,this]
theorem ape(l:List aJ)(s:ByteArray):u9 l 0 s=false:=by simp [u9]
theorem apf(l:List aJ)(k:Nat)(s:ByteArray)(hk:k<l.length):u9 l (k+1) s=(u9 l k s||(!decide (l[k].num=r5)&&decide (l[k].num=s))):=by
 unfold u9;rw [MY hk,List.any_append];simp only [List.any_cons,List.any_nil,fM]
theorem apg(l:List aJ)(k:Nat)(hk:k<l.length):vd l (k+1)=l[k].id:=by
 unfold vd;simp [hk]
theorem aph(l:List aJ):vd l 0=0:=by simp [vd]
open Go.RowKit
def ny(n:Int):Bool:=decide (0<=n/\n<=500000000)
def gJ(n m:Int):Bool:=decide (-m<=n/\n<=m)
def cC(l:Ld):Bool:=ny l.af&&(gJ l.x (l.af*1100000)&&(gJ l.y (l.af*1100000)&&gJ l.z (l.af*1100000)))
def dA:Ld:=⟨0,0,0,0⟩
def kL(k x y z:Int):Ld×Int:=if ny k&&(gJ x 1100000&&(gJ y 1100000&&gJ z 1100000)) then (⟨k,k*x,k*y,k*z⟩,0) else (dA,2)
theorem r7{n:Int}:ny n=true↔0<=n/\n<=500000000:=decide_eq_true_iff
theorem kM{n m:Int}:gJ n m=true ↔ -m<=n/\n<=m:=decide_eq_true_iff
theorem Sm(n:Int)(w:World):Calls Tryz.prog 75 #[.int .i64 n] w fun e w'=>e = .returned (.bool (ny n))/\w'=w:=by
 by_cases h1:0<=n
 . by_cases h2:n<=500000000
   . have h3:ny n=true:=by simp [ny,h1,h2]
     exact Sn
   . have h3:ny n=false:=by simp [ny]; omega
     exact Sn
 . have h3:ny n=false:=by simp [ny]; omega
   exact Sn
theorem CN(n m:Int)(Lj:0<=m)(hm:m<=4611686018427387904)(w:World):Calls Tryz.prog 67 #[.int .i64 n,.int .i64 m] w fun e w'=>e = .returned (.bool (gJ n m))/\w'=w:=by
 have wn:IntKind.i64.wrap (-m) = -m:=wrap_i64 oo oo;by_cases h1 : -m<=n
 . by_cases h2:n<=m
   . have h3:gJ n m=true:=by simp [gJ,h1,h2]
     exact So
   . have h3:gJ n m=false:=by simp [gJ]; omega
     exact So
 . have h3:gJ n m=false:=by simp [gJ]; omega
   exact So
set_option maxHeartbeats 1000000 in
theorem abN(l:Ld)(w:World):Calls Tryz.prog 74 #[.agg #[.int .i64 l.af,.int .i64 l.x,.int .i64 l.y,.int .i64 l.z]] w fun e w'=>e = .returned (.bool (cC l))/\cU w w':=by
 obtain⟨k,x,y,z⟩:=l;dsimp only;have HB:Hid (cU w (w.alloc (.cells #[.int .i64 k,.int .i64 x,.int .i64 y,.int .i64 z] 62))):=(Below.refl _ _).alloc (Nat.le_refl _) _;have HK:=Lib.hid (fun w1=>Sm k w1)
 cases hk:ny k with
 | false =>
  rw [hk] at HK;have hr:cC ⟨k,x,y,z⟩=false:=by unfold cC; rw [hk]; rfl
  rw [hr];clear hr hk
  go_enter Tryz.func74,Tryz.ntmps74
  go_wp2_with (go_at_call 75; refine (HK.out _).mono ?_; rintro e wx ⟨rfl,hx⟩; rw [hx]; clear hx wx HK)
  go_ret
  exact⟨rfl,HB.out⟩
 | true =>
  have h1:=r7.1 hk;have wm:IntKind.i64.wrap (k*1100000)=k*1100000:=wrap_i64 oo oo;obtain⟨m,hm⟩:∃ m,m=k*1100000:=⟨_,rfl⟩
  have HX:=aX (fun w1=>CN x m oo oo w1);have HY:=aX (fun w1=>CN y m oo oo w1);have HZ:=aX (fun w1=>CN z m oo oo w1);have hr:cC ⟨k,x,y,z⟩=(gJ x m&&(gJ y m&&gJ z m)):=by unfold cC; rw [hk,hm]; rfl
  rw [hk] at HK;rw [hr];rw [<- hm] at wm;have wm2:IntKind.i64.wrap (k*1100000)=m:=by rw [<- hm]; exact wm
  clear hr hk h1 hm wm;generalize gJ x m=bx at HX ⊢;generalize gJ y m=by_ at HY ⊢;generalize gJ z m=bz at HZ ⊢
  cases bx with
  | false =>
   exact Sq
  | true =>
   cases by_ with
   | false =>
    exact Sq
   | true =>
    exact Sq
theorem CO:vO Tryz.prog 62 4:=Ld.row
theorem AK:(Tryz.prog.info? 62).map (·.size)=some 4:=by kernel_rfl
def abO(w:World)(r:Ld×Int)(e:Ending)(w':World):Prop:=e = .returned (.tuple #[r.1.val,.int .i64 r.2])/\cU w w'
set_option maxHeartbeats 2000000 in
theorem api(k x y z:Int)(w:World):Calls Tryz.prog 68 #[.int .i64 k,.int .i64 x,.int .i64 y,.int .i64 z] w (abO w (kL k x y z)):=by
 have tl:=aX ((Mem.nil w).alloc 62 dA.cells);have HK:=aX (fun w1=>Sm k w1);have HX:=aX (fun w1=>CN x 1100000 oo oo w1);have HY:=aX (fun w1=>CN y 1100000 oo oo w1);have HZ:=aX (fun w1=>CN z 1100000 oo oo w1)
 cases hk:ny k with
 | false =>
  have HR:Hid (kL k x y z=(dA,2)):=by unfold Hid kL; rw [hk]; rfl
  rw [hk] at HK;clear hk
  exact Ll
 | true =>
  cases hx:gJ x 1100000 with
  | false =>
   have HR:Hid (kL k x y z=(dA,2)):=by unfold Hid kL; rw [hk,hx]; rfl
   rw [hk] at HK;rw [hx] at HX;clear hk hx
   exact Ll
  | true =>
   cases hy:gJ y 1100000 with
   | false =>
    have HR:Hid (kL k x y z=(dA,2)):=by unfold Hid kL; rw [hk,hx,hy]; rfl
    rw [hk] at HK;rw [hx] at HX;rw [hy] at HY;clear hk hx hy
    exact Ll
   | true =>
    cases hz:gJ z 1100000 with
    | false =>
     have HR:Hid (kL k x y z=(dA,2)):=by unfold Hid kL; rw [hk,hx,hy,hz]; rfl
     rw [hk] at HK;rw [hx] at HX;rw [hy] at HY;rw [hz] at HZ;clear hk hx hy hz
     exact Ll
    | true =>
     have HR:Hid (kL k x y z=(⟨k,k*x,k*y,k*z⟩,0)):=by unfold Hid kL; rw [hk,hx,hy,hz]; rfl
     have hm:∀ n:Int,gJ n 1100000=true->IntKind.i64.wrap (k*n)=k*n:=fun n hn=>by
      have h1:=r7.1 hk;have h2:=kM.1 hn;have h3:k*n<=k*1100000:=tR h2.2 h1.1;have h4:k*(-1100000)<=k*n:=tR h2.1 h1.1;exact wrap_i64 oo oo
     have mx:=hm x hx;have my:=hm y hy;have mz:=hm z hz;rw [hk] at HK;rw [hx] at HX;rw [hy] at HY;rw [hz] at HZ;clear hk hx hy hz hm
     go_enter Tryz.func68,Tryz.ntmps68
     go_wp2_with (first
      | (go_at_call 75; refine (HK.out _).mono ?_; rintro e wx ⟨rfl,hx⟩; rw [hx]; clear hx wx HK)
      | (go_at_call 67; refine (HX.out _).mono ?_; rintro e wx ⟨rfl,hx⟩; rw [hx]; clear hx wx HX)
      | (go_at_call 67; refine (HY.out _).mono ?_; rintro e wx ⟨rfl,hx⟩; rw [hx]; clear hx wx HY)
      | (go_at_call 67; refine (HZ.out _).mono ?_; rintro e wx ⟨rfl,hx⟩; rw [hx]; clear hx wx)
      | ((with_reducible refine xy 62 ?_); go_loud (refine xO (cs':=Ld.cells (⟨k,k*x,k*y,k*z⟩)) rfl _ _ rfl tl.out 0 rfl rfl rfl AK rfl (Ld.len _) (Ld.len _) (Ld.one _) ?_); intro w6 h6))
     refine bodyPost_ret (Ga rfl _ rfl (h6.BL CO (Ld.len _) (i:=0) rfl _ (cA _ _))) rfl ⟨?_,h6.from_⟩;rw [HR.out];rfl
theorem apj(l:Ld)(w:World):Calls Tryz.prog 73 #[l.val] w fun e w'=>e = .returned (.bool (!cC l))/\cU w w':=by
 have HR:=aX (fun w1=>abN l w1);have HB:Hid (cU w (w.alloc (.cells (Ld.cells l).toArray 62))):=(cA _ _).alloc (az _) _
 go_enter Tryz.func73,Tryz.ntmps73
 go_wp2_with (go_at_call 74; go_loud (refine (HR.out _).mono ?_); rintro e w2 ⟨rfl,hb⟩)
 go_ret
 exact⟨rfl,HB.out.trans (hb.mono HB.out.size)⟩
def Ld.add(a b:Ld):Ld:=⟨a.af+b.af,a.x+b.x,a.y+b.y,a.z+b.z⟩
def pd(s:Ld):List Ld->Ld×Int
 | []=>(s,0)
 | x::l=>if ny (s.af+x.af) then pd (s.add x) l else (dA,3)
def xa(l:Ld):Bool := !cC l
def dY(l:List Ld):Ld×Int:=if l.any xa then (dA,2) else pd dA l
theorem yP{l:Ld}(h:cC l=true):(0<=l.af/\l.af<=500000000)/\(-(l.af*1100000)<=l.x/\l.x<=l.af*1100000)/\(-(l.af*1100000)<=l.y/\l.y<=l.af*1100000)/\(-(l.af*1100000)<=l.z/\l.z<=l.af*1100000):=by
 unfold cC at h;simp only [au] at h;exact⟨r7.1 h.1,kM.1 h.2.1,kM.1 h.2.2.1,kM.1 h.2.2.2⟩
theorem Gi{l:Ld}(h:(0<=l.af/\l.af<=500000000)/\(-(l.af*1100000)<=l.x/\l.x<=l.af*1100000)/\(-(l.af*1100000)<=l.y/\l.y<=l.af*1100000)/\(-(l.af*1100000)<=l.z/\l.z<=l.af*1100000)):cC l=true:=by
 unfold cC;simp only [au];exact⟨r7.2 h.1,kM.2 h.2.1,kM.2 h.2.2.1,kM.2 h.2.2.2⟩
theorem apk:cC dA=true:=by decide
theorem apl(w:World)(args:Array Value):(callFunc 73 args).run Tryz.prog w = .ok (.enter 73 args) w:=by
 go_simp
set_option maxHeartbeats 2000000 in
theorem apm(A:Option Addr)(c n:Nat)(l:List Ld)(hn:n=l.length)(w:World)(h:Rd w w.heap.size 4 A (l.map Ld.cells))(hl:l.length<=1000000) :
 Calls Tryz.prog 20 #[.slice A n c] w (abO w (dY l)):=by
 have HC:=aX (fun w1 (hb:cU w w1)=>aiO A c l n hn 73 #[] xa w1 (h.from hb) oo apl (fun x _ w' _=>apj x w'));have tl:=aX ((Mem.nil w).alloc 62 dA.cells);have HR:=aX h;have HN:=aX hn;have hn6:n<=1000000:=oo
 obtain⟨r,hr⟩:∃ r,r=dY l:=⟨_,rfl⟩
 rw [<- hr]
 cases uN:l.any xa with
 | true =>
  rw [uN] at HC;have HE:Hid (r=(dA,2)):=by unfold Hid dY at *; rw [hr,uN]; rfl
  clear hr uN h hn hl HR
  go_enter Tryz.func20,Tryz.ntmps20
  go_wp2_with (first
   | (go_at_call 72; go_loud (refine (HC.out _ tl.out.from_).mono ?_); rintro e w1 ⟨rfl,hb⟩; have yQ:=aX (tl.out.call hb); clear hb)
   | ((with_reducible refine xy 62 ?_); go_loud (refine xO (cs':=dA.cells) rfl _ _ rfl yQ.out 0 rfl rfl rfl AK rfl (Ld.len _) (Ld.len _) (Ld.one _) ?_); intro w6 h6))
  refine bodyPost_ret (Ga rfl _ rfl (h6.BL CO (Ld.len _) (i:=0) rfl _ (cA _ _))) rfl ⟨?_,h6.from_⟩;rw [HE.out];rfl
 | false =>
  rw [uN] at HC;have HE:Hid (pd dA (l.drop 0)=r):=by unfold Hid dY at *; rw [hr,uN]; rfl
  have Lg:Hid (∀ x∈l,cC x=true):=by
   intro x hx;have h1:=DF.1 uN x hx;unfold xa at h1;simpa using h1
  clear hr uN h hn hl
  go_enter Tryz.func20,Tryz.ntmps20
  go_wp2_with (go_at_call 72; go_loud (refine (HC.out _ tl.out.from_).mono ?_); rintro e w1 ⟨rfl,hb⟩; have yQ:=aX ((tl.out.call hb).alloc 62 dA.cells); clear hb HC tl)
  go_loopw [12] (fun v wq=>∃ (k:Nat) (s:Ld),k<=n/\v = .int .i64 (k:Int)/\cC s=true/\pd s (l.drop k)=r/\Mem w wq [.box w1.heap.size 62 s.cells,.box w.heap.size 62 dA.cells]) (fun v _=>n - (intOf v).toNat)
  case atStart=>exact⟨0,dA,cm _,rfl,apk,HE.out,yQ.out⟩
  case round =>
   clear yQ HE;obtain⟨k,s,hk,rfl,hs,hle,gU⟩:=hrel;have tn:=aX gU;have AI:=aX hle;clear gU hle;by_cases cT:k=n
   . have aj:¬ (k:Int)<(n:Int):=oo
     have HE:Hid (r=(s,0)):=by
      have h1:=AI.out;rw [List.drop_of_length_le (by rw [<- HN.out,cT]; exact az _)] at h1;exact h1.symm
     clear AI cT hk hs
     go_wp2_with (first
      | ((with_reducible refine qp 62 ?_); refine oM rfl _ _ rfl _ rfl _ (tn.out.BL CO (Ld.len _) (i:=0) rfl _ (cA _ _)) ?_)
      | ((with_reducible refine xy 62 ?_); go_loud (refine xO (cs':=Ld.cells s) rfl _ _ rfl tn.out 1 rfl rfl rfl AK rfl (Ld.len _) (Ld.len _) (Ld.one _) ?_); intro w6 h6))
     refine bodyPost_ret (Ga rfl _ rfl (h6.BL CO (Ld.len _) (i:=1) rfl _ (cA _ _))) rfl ⟨?_,h6.from_⟩;rw [HE.out];rfl
   . have aj:(k:Int)<(n:Int):=oo
     have lO:k<l.length:=by rw [<- HN.out]; omega
     obtain⟨g,off,rfl,hg,ky⟩:=Ld.ld HR.out (k:=k) (b:=l[k]) (Oc Ld.cells l k lO);obtain⟨x,hx⟩:∃ x,x=l[k]:=⟨_,rfl⟩
     rw [<- hx] at ky;have wY:=aX (ky wr tn.out.from_);have Gj:cC x=true:=Lg.out x (by rw [hx]; exact mj lO);have Lm:Hid (pd s (x::l.drop (k+1))=r):=by
      have h1:=AI.out;rw [vD lO,<- hx] at h1;exact h1
     have Ln:=Lib.hid (tn.out.alloc 62 x.cells);have h1:=yP hs;have h2:=yP Gj;obtain⟨k1,x1,y1,z1⟩:=s;obtain⟨k2,x2,y2,z2⟩:=x;dsimp only at h1 h2;have e1:IntKind.i64.wrap (k1+k2)=k1+k2:=wrap_i64 oo oo;have e2:IntKind.i64.wrap (x1+x2)=x1+x2:=wrap_i64 oo oo;have e3:IntKind.i64.wrap (y1+y2)=y1+y2:=wrap_i64 oo oo;have e4:IntKind.i64.wrap (z1+z2)=z1+z2:=wrap_i64 oo oo;have Sr:Hid (ny (k1+k2)=true->cC ⟨k1+k2,x1+x2,y1+y2,z1+z2⟩=true):=by
      intro h3;have h4:=r7.1 h3;refine Gi ?_;dsimp only;omega
     have HW:=aX (fun w1=>Sm (k1+k2) w1);clear h1 h2 hx ky tn lO AI cT hs Gj
     cases AL:ny (k1+k2) with
     | false =>
      rw [AL] at HW;have HE:Hid (r=(dA,3)):=by
       have h1:=Lm.out;unfold pd at h1;rw [ar (by rw [AL]; simp)] at h1;exact h1.symm
      clear Lm Sr AL
      go_wp2_with (first
       | ((with_reducible refine qp 62 ?_); refine oM rfl _ _ rfl _ rfl _ wY.out ?_)
       | ((with_reducible refine qp 3 ?_); refine oM rfl _ _ rfl _ rfl _ (Ln.out.zE Ek (i:=1) rfl rfl _ (cA _ _)) ?_)
       | ((with_reducible refine qp 3 ?_); refine oM rfl _ _ rfl _ rfl _ (Gk.out.zE Ek (i:=1) rfl rfl _ (cA _ _)) ?_)
       | ((with_reducible refine xy 62 ?_); refine xO (cs':=Ld.cells ⟨k1+k2,x1+x2,y1+y2,z1+z2⟩) rfl _ _ rfl Ln.out 1 rfl rfl rfl AK rfl (Ld.len _) (Ld.len _) (Ld.one _) ?_; intro w5 h5; have Gk:=aX h5; clear h5)
       | (go_at_call 75; refine (HW.out _).mono ?_; rintro e wx ⟨rfl,hx⟩; rw [hx]; clear hx wx)
       | ((with_reducible refine xy 62 ?_); refine xO (cs':=dA.cells) rfl _ _ rfl Gk.out 2 rfl rfl rfl AK rfl (Ld.len _) (Ld.len _) (Ld.one _) ?_; intro w6 h6))
      refine bodyPost_ret (Ga rfl _ rfl (h6.BL CO (Ld.len _) (i:=2) rfl _ (cA _ _))) rfl ⟨?_,h6.from_⟩;rw [HE.out];rfl
     | true =>
      rw [AL] at HW;have HS2:=aX (Sr.out AL);have HE:Hid (pd ⟨k1+k2,x1+x2,y1+y2,z1+z2⟩ (l.drop (k+1))=r):=by
       have h1:=Lm.out;unfold pd at h1;rw [aw (by rw [AL])] at h1;exact h1
      clear Lm Sr AL
      go_wp2_with (first
       | ((with_reducible refine qp 62 ?_); refine oM rfl _ _ rfl _ rfl _ wY.out ?_)
       | ((with_reducible refine qp 3 ?_); refine oM rfl _ _ rfl _ rfl _ (Ln.out.zE Ek (i:=1) rfl rfl _ (cA _ _)) ?_)
       | ((with_reducible refine qp 3 ?_); refine oM rfl _ _ rfl _ rfl _ (Gk.out.zE Ek (i:=1) rfl rfl _ (cA _ _)) ?_)
       | ((with_reducible refine xy 62 ?_); refine xO (cs':=Ld.cells ⟨k1+k2,x1+x2,y1+y2,z1+z2⟩) rfl _ _ rfl Ln.out 1 rfl rfl rfl AK rfl (Ld.len _) (Ld.len _) (Ld.one _) ?_; intro w5 h5; have Gk:=aX h5; clear h5)
       | (go_at_call 75; refine (HW.out _).mono ?_; rintro e wx ⟨rfl,hx⟩; rw [hx]; clear hx wx))
      go_roundw
      case rel=>exact⟨k+1,_,oo,by go_num,HS2.out,HE.out,Gk.out.tail⟩
      case measure=>simp [intOf]; omega
section
variable{w w':World}{ρ:Nat->Option Rl}{base:Nat}{ro:Nat->Prop}{v:Value}
theorem abP(b):ah w ρ base ro (.agg (u0 b)) (b ()).val:=anu (l:=u0 b) rfl
theorem ah.apo{fr:Bool}{l:Unit->List ay}(h:ah w ρ base ro (.sl fr .aq l) v):∃ A c,v = .slice A (l ()).length c/\(l ()).length<=c/\Rd w w.heap.size 4 A ((l ()).map ay.cells):=ah.F0 (t := .aq) (l:=l) ay.cells (fun _=>rfl) (fun _=>rfl) h
theorem ah.lds{fr:Bool}{l:Unit->List Ld}(h:ah w ρ base ro (.sl fr .ld l) v):∃ A c,v = .slice A (l ()).length c/\(l ()).length<=c/\Rd w w.heap.size 4 A ((l ()).map Ld.cells):=ah.F0 (t := .ld) (l:=l) Ld.cells (fun _=>rfl) (fun _=>rfl) h
theorem ah.u8s{fr:Bool}{l:Unit->List Int}(h:ah w ρ base ro (.sl fr .u8 l) v):∃ A c,v = .slice A (l ()).length c/\(l ()).length<=c/\Rd w w.heap.size 1 A ((l ()).map AE):=ah.F0 (t := .u8) (l:=l) AE (fun _=>rfl) (fun _=>rfl) h
end
def abQ:aH:=dU 241 F8 (fun b=>(b ()).num.size<=140737488351232) (fun b => .bool fun _=>nw (b ()))
theorem aps:aK Tryz.prog abQ:=by
 refine AB Tryz.func241 (by kernel_rfl) fun ai res h w ra dt hE hp => ?_;obtain⟨(b:aJ),rfl,rfl⟩:=eu h;clear h;obtain⟨v0,ve,rfl,jP,h0⟩:=hE.head;obtain rfl:=h0.none;obtain rfl:=jP.RA rfl;exact (aoQ b w hp).mono fun e w' ⟨k1,k2⟩=>⟨_,k1,k2,.bool _⟩
def abR:aH:=df 308 aa8 u1 (fun l _=>(l ()).length<=1000000000000) (fun l x => .bool fun _=>(l ()).any fun y=>decide (x ()=y))
theorem apt:aK Tryz.prog abR:=by
 refine AB Tryz.func308 (by kernel_rfl) fun ai res h w ra dt hE hp => ?_;obtain⟨(l:List Int),(x:Int),rfl,rfl⟩:=dz h;clear h;obtain⟨v0,ve,rfl,jP,h0⟩:=hE.head;obtain⟨v1,Ss,rfl,rJ,h1⟩:=h0.head;obtain rfl:=h1.none;obtain⟨A0,q0,rfl,oU,r8⟩:=jP.u8s;obtain rfl:=rJ.iA;exact (an9 A0 q0 l _ rfl x w r8 hp).mono fun e w' ⟨k1,k2⟩=>⟨_,k1,by rw [k2]; exact cA _ _,.bool _⟩
def abS:aH:=dU 74 yO (fun _=>True) (fun x => .bool fun _=>cC (x ()))
theorem apu:aK Tryz.prog abS:=by
 refine AB Tryz.func74 (by kernel_rfl) fun ai res h w ra dt hE hp => ?_;obtain⟨(x:Ld),rfl,rfl⟩:=eu h;clear h;obtain⟨v0,ve,rfl,jP,h0⟩:=hE.head;obtain rfl:=h0.none;obtain rfl:=jP.RA rfl;exact (abN x w).mono fun e w' ⟨k1,k2⟩=>⟨_,k1,k2,.bool _⟩
def Lo:aH:=uY 68 kI kI kI kI (fun _ _ _ _=>True) (fun a b c d => .aU [.agg (u0 fun _=>(kL (a ()) (b ()) (c ()) (d ())).1),.int .i64 fun _=>(kL (a ()) (b ()) (c ()) (d ())).2])
theorem Su:aK Tryz.prog Lo:=by
 refine AB Tryz.func68 (by kernel_rfl) fun ai res h w ra dt hE hp => ?_;obtain⟨(a:Int),(b:Int),(c:Int),(d:Int),rfl,rfl⟩:=yN h;clear h;obtain⟨v0,ve,rfl,jP,h0⟩:=hE.head;obtain⟨v1,Ss,rfl,rJ,h1⟩:=h0.head;obtain⟨v2,us2,rfl,rM,h2⟩:=h1.head;obtain⟨v3,us3,rfl,hv3,h3⟩:=h2.head;obtain rfl:=h3.none;obtain rfl:=jP.iA;obtain rfl:=rJ.iA;obtain rfl:=rM.iA;obtain rfl:=hv3.iA;exact (api a b c d w).mono fun e w' ⟨k1,k2⟩=>⟨_,k1,k2,RB (abP _) (.int _ _)⟩
def Gl:aH:=dU 20 anG (fun l=>(l ()).length<=1000000) (fun l => .aU [.agg (u0 fun _=>(dY (l ())).1),.int .i64 fun _=>(dY (l ())).2])
theorem Lq:aK Tryz.prog Gl:=by
 refine AB Tryz.func20 (by kernel_rfl) fun ai res h w ra dt hE hp => ?_;obtain⟨(l:List Ld),rfl,rfl⟩:=eu h;clear h;obtain⟨v0,ve,rfl,jP,h0⟩:=hE.head;obtain rfl:=h0.none;obtain⟨A0,q0,rfl,oU,r8⟩:=jP.lds;exact (apm A0 q0 _ l rfl w r8 hp).mono fun e w' ⟨k1,k2⟩=>⟨_,k1,k2,RB (abP _) (.int _ _)⟩
end Go.Proofs.YtlpikgchnjajmaaGreat
