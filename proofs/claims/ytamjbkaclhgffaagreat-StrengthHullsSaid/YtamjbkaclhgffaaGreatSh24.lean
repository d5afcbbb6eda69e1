/-
  Contracts of box, stow and slot by the abstract run: finding, heights, what meets, what is held.
-/
import Derived.Test.YtamjbkaclhgffaaGreatSh23
import Derived.Maps.OwnSet
set_option linter.all false
set_option maxRecDepth 100000
set_option maxHeartbeats 4000000
namespace Go.Proofs.YtamjbkaclhgffaaGreat
open Go.RowKit
variable{fr:Bool}{α:Type}
theorem E7{p : α->Bool}{l:List α}{k:Nat}{d : α}(h0:∀ j,j<k->p (l.getD j d)=false)(hk:k<l.length)(h:p (l.getD k d)=true):idx p l=(k:Int):=by
 have e:∀ j,(hj:j<l.length)->l.getD j d=l[j]:=fun j hj=>by rw [aY,bq hj,iD]
 exact Qi hk (fun j h1=>by rw [<- e j oo]; exact h0 j h1) (by rw [<- e k hk]; exact h)
theorem E8{p : α->Bool}{l:List α}{k:Nat}{d : α}(h0:∀ j,j<k->p (l.getD j d)=false)(hk:l.length<=k):idx p l = -1:=by
 have e:∀ j,(hj:j<l.length)->l.getD j d=l[j]:=fun j hj=>by rw [aY,bq hj,iD]
 exact Qj fun j hj=>by rw [<- e j hj]; exact h0 j oo
theorem tQ{p:Nat->Prop}{k:Nat}(h:∀ j,j<k->p j)(hk:p k):∀ j,j<k+1->p j:=fun j hj=>by
 rcases cv j k with h1|h1
 . exact h j h1
 . rw [show j=k from oo]; exact hk
def VT(s:Nat)(d : α)(l:List α)(p : α->Bool):Lp where
 X:=Nat
 ov k := [(s,.int .i64 fun _=>(k:Int))]
 oe _ := []
 I k:=k<=l.length/\∀ j,j<k->p (l.getD j d)=false
 μ k _:=l.length - k
 x0:=0
 nx:=some fun k=>k+1
def agJ:aC:=bE 212 Cj Um (fun _ _=>True) (fun b id => .bool fun _=>nB (id ()) (b ()))
theorem axL:aE Tryz.prog agJ:=by
 refine bD [] trivial Tryz.func212 (by kernel_rfl) fun ah res h hp => ?_;obtain⟨(b:aL),(id:Int),rfl,rfl⟩:=bG h;clear h;refine⟨[],?_⟩
 conv=>arg 1; cbv
 simp (maxSteps:=4000000) only [ay];rfl
def agK:aC:=bE 184 jc (aet 212) (fun l _=>(l ()).length<=1000000000000) (fun l id => .int .i64 fun _=>idx (nB (id ())) (l ()))
theorem axM:aE Tryz.prog agK:=by
 refine bD [agJ] ⟨axL,trivial⟩ Tryz.func184 (by kernel_rfl) fun ah res h hp => ?_;obtain⟨(l:List aL),(id:Int),rfl,rfl⟩:=bG h;clear h;have hl:l.length<=1000000000000:=hp;refine⟨[(2,VT 8 Tc.box.aa l (nB id))],?_⟩
 conv=>arg 1; cbv
 refine⟨?_,fun (k:Nat) hk => ?_⟩
 . exact pM
 exact agL
theorem Jj(l:List aL)(id:Int):(idx (nB id) l<0/\bI l id=(Ji,false))\/∃ k:Nat,idx (nB id) l=(k:Int)/\k<l.length/\bI l id=(l.getD k Tc.box.aa,true):=by
 rcases Gd (nB id) l with ⟨h1,h2⟩|⟨k,hk,h1,h2,h3⟩
 . left;refine⟨oo,?_⟩;unfold bI;rw [YO.2 fun x hx=>by rw [h2 x hx]; simp]
 . right;refine⟨k,h1,hk,?_⟩;unfold bI;rw [h3,aY,bq hk];rfl
def VU:aC:=bE 173 jc kI (fun l _=>(l ()).length<=1000000000000) (fun l id => .bp [.agg (Cg fun _=>(bI (l ()) (id ())).1),.bool fun _=>(bI (l ()) (id ())).2])
theorem agM:aE Tryz.prog VU:=by
 refine bD [agK] ⟨axM,trivial⟩ Tryz.func173 (by kernel_rfl) fun ah res h hp => ?_;obtain⟨(l:List aL),(id:Int),rfl,rfl⟩:=bG h;clear h;have hl:l.length<=1000000000000:=hp;refine⟨[],?_⟩
 conv=>arg 1; cbv
 simp (maxSteps:=4000000) only [ay];rcases Jj l id with ⟨h1,h2⟩|⟨k,h1,h2,h3⟩
 . simp only [h2];refine⟨hl,fun _ => ?_,fun g=>absurd h1 g⟩;simp [Ji,vm,jF]
 . simp only [h1,h3,fB];refine⟨hl,fun g=>oo,fun g => ?_⟩;simp;omega
def agO:aC:=bE 185 Cj Um (fun _ _=>True) (fun b id => .bool fun _=>nB (id ()) (b ()))
theorem axN:aE Tryz.prog agO:=by
 refine bD [] trivial Tryz.func185 (by kernel_rfl) fun ah res h hp => ?_;obtain⟨(b:aL),(id:Int),rfl,rfl⟩:=bG h;clear h;refine⟨[],?_⟩
 conv=>arg 1; cbv
 simp (maxSteps:=4000000) only [ay];rfl
def agP:aC:=bE 184 jc (aet 185) (fun l _=>(l ()).length<=1000000000000) (fun l id => .int .i64 fun _=>idx (nB (id ())) (l ()))
theorem axO:aE Tryz.prog agP:=by
 refine bD [agO] ⟨axN,trivial⟩ Tryz.func184 (by kernel_rfl) fun ah res h hp => ?_;obtain⟨(l:List aL),(id:Int),rfl,rfl⟩:=bG h;clear h;have hl:l.length<=1000000000000:=hp;refine⟨[(2,VT 8 Tc.box.aa l (nB id))],?_⟩
 conv=>arg 1; cbv
 refine⟨?_,fun (k:Nat) hk => ?_⟩
 . exact pM
 exact agL
def agQ:aC:=bE 117 jc kI (fun l _=>(l ()).length<=1000000000000) (fun l id => .bp [.agg (Cg fun _=>(bI (l ()) (id ())).1),.bool fun _=>(bI (l ()) (id ())).2])
theorem axP:aE Tryz.prog agQ:=by
 refine bD [agP] ⟨axO,trivial⟩ Tryz.func117 (by kernel_rfl) fun ah res h hp => ?_;obtain⟨(l:List aL),(id:Int),rfl,rfl⟩:=bG h;clear h;have hl:l.length<=1000000000000:=hp;refine⟨[],?_⟩
 conv=>arg 1; cbv
 simp (maxSteps:=4000000) only [ay];rcases Jj l id with ⟨h1,h2⟩|⟨k,h1,h2,h3⟩
 . simp only [h2];refine⟨hl,fun _ => ?_,fun g=>absurd h1 g⟩;simp [Ji,vm,jF]
 . simp only [h1,h3,fB];refine⟨hl,fun g=>oo,fun g => ?_⟩;simp;omega
def agR:aC:=cL 248 Cj (fun _=>True) (fun b => .int .i64 fun _=>fw (b ()))
theorem axQ:aE Tryz.prog agR:=by
 refine bD [] trivial Tryz.func248 (by kernel_rfl) fun ah res h hp => ?_;obtain⟨(b:aL),rfl,rfl⟩:=cS h;clear h;refine⟨[],?_⟩;refine fm ?_;refine⟨fun g => ?_,fun g => ?_⟩<;>unfold fw<;>rw [g]<;>rfl
def agS:aC:=cL 118 Cj (fun _=>True) (fun b => .int .i64 fun _=>fw (b ()))
theorem axR:aE Tryz.prog agS:=by
 refine bD [] trivial Tryz.func118 (by kernel_rfl) fun ah res h hp => ?_;obtain⟨(b:aL),rfl,rfl⟩:=cS h;clear h;refine⟨[],?_⟩;refine fm ?_;refine⟨fun g => ?_,fun g => ?_⟩<;>unfold fw<;>rw [g]<;>rfl
/- Gi -/
theorem agT(p : α->Bool)(l:List α):decide (0<=idx p l)=l.any p:=by
 rcases Gd p l with ⟨h1,h2⟩|⟨k,hk,h1,h2,_⟩
 . rw [dB oo];symm;rw [AK];exact fun x hx=>by rw [h2 x hx]; simp
 . rw [cT oo];symm;rw [F0];exact⟨_,lV hk,h2⟩
def Jk(x y:Slot):Bool:=decide (x=y)
def agU:aC:=bE 247 Iw u6 (fun l _=>(l ()).length<=1000000000000) (fun l x => .int .i64 fun _=>idx (Jk (x ())) (l ()))
theorem axS:aE Tryz.prog agU:=by
 refine bD [] trivial Tryz.func247 (by kernel_rfl) fun ah res h hp => ?_;obtain⟨(l:List Slot),(x:Slot),rfl,rfl⟩:=bG h;clear h;have hl:l.length<=1000000000000:=hp;refine⟨[(2,VT 8 Tc.slot.aa l (Jk x))],?_⟩
 conv=>arg 1; cbv
 refine⟨?_,fun (k:Nat) hk => ?_⟩
 . exact pM
 have bu:k<=l.length/\∀ j,j<k->(Jk x) (l.getD j Tc.slot.aa)=false:=hk;have bM:=bu.1;have bm:=bu.2
 conv=>arg 1; cbv
 simp (maxSteps:=4000000) only [ay];have hky:∀ y:Slot,([Kx.i .i64 x.ar,Kx.i .i64 x.aK,Kx.i .u8 x.half] = [Kx.i .i64 y.ar,Kx.i .i64 y.aK,Kx.i .u8 y.half])=(x=y):=fun y=>by
  obtain⟨a,b,c⟩:=x;obtain⟨a2,b2,c2⟩:=y;simp
 refine⟨fun g => ?_,fun g=>(E8 bm oo).symm⟩;have af:k<l.length:=oo
 simp only [hky];exact⟨⟨oo,oo⟩,fun h=>(E7 bm af (cT h)).symm,fun h=>⟨ii,⟨⟨af,tQ bm (dB h)⟩,oo⟩,oo⟩⟩
def agV:aC:=bE 215 Iw u6 (fun l _=>(l ()).length<=1000000000000) (fun l x => .bool fun _=>(l ()).any (Jk (x ())))
theorem axU:aE Tryz.prog agV:=by
 refine bD [agU] ⟨axS,trivial⟩ Tryz.func215 (by kernel_rfl) fun ah res h hp => ?_;obtain⟨(l:List Slot),(x:Slot),rfl,rfl⟩:=bG h;clear h;have hl:l.length<=1000000000000:=hp;refine⟨[],?_⟩;refine fm ?_;exact⟨hl,agT (Jk x) l⟩
def AV.VV:AV->Option (Unit->List Slot)
 | .bP [.sl false .slot l] 0=>some l
 | _=>none
theorem AV.axV{x:AV}{n:Unit->List Slot}(h:x.VV=some n):x = .bP [.sl false .slot n] 0:=by
 unfold AV.VV at h;split at h<;>first|(cases h; rfl)|cases h
abbrev axW:Kd:=⟨List Slot,.bP [.sl .slot],fun n => .bP [.sl false .slot n] 0,AV.VV,AV.axV⟩
def AV.VW:AV->Option (Unit->Slot)
 | .bP [.int .i64 a,.int .i64 b,.int .u8 c] 0=>some fun _=>⟨a (),b (),c ()⟩
 | _=>none
theorem AV.axX{x:AV}{n:Unit->Slot}(h:x.VW=some n):x = .bP [.int .i64 fun _=>(n ()).ar,.int .i64 fun _=>(n ()).aK,.int .u8 fun _=>(n ()).half] 0:=by
 unfold AV.VW at h;split at h<;>first|(cases h; rfl)|cases h
abbrev axY:Kd:=⟨Slot,.bP aej,fun n => .bP [.int .i64 fun _=>(n ()).ar,.int .i64 fun _=>(n ()).aK,.int .u8 fun _=>(n ()).half] 0,AV.VW,AV.axX⟩
def agW:aC:=ns 214 u5 axW axY (fun _ l x=>(l ()).length<=1000000000000/\aP ((x ()).aK - 1)) (fun h l x => .bool fun _=>vj (x ()) (l ()) (h ()))
theorem axZ:aE Tryz.prog agW:=by
 refine bD [agV] ⟨axU,trivial⟩ Tryz.func214 (by kernel_rfl) fun ah res h hp => ?_;obtain⟨(h:Int),(l:List Slot),(x:Slot),rfl,rfl⟩:=oR h;clear h;have hl:l.length<=1000000000000/\aP (x.aK - 1):=hp;refine⟨[],?_⟩;refine fm ?_;exact⟨hl.2,hl.1,rfl⟩
def agX:aC:=bE 175 u6 Iw (fun x l=>(l ()).length<=1000000000000/\(x ()).aK<=1000000) (fun x l => .bool fun _=>rK (x ()) (l ()))
theorem ax0:aE Tryz.prog agX:=by
 refine bD [agW] ⟨axZ,trivial⟩ Tryz.func175 (by kernel_rfl) fun ah res h hp => ?_;obtain⟨(x:Slot),(l:List Slot),rfl,rfl⟩:=bG h;clear h;have hl:l.length<=1000000000000/\x.aK<=1000000:=hp;refine⟨[],?_⟩;refine fm ?_;refine⟨fun h=>by unfold rK; rw [aG h],fun h => ?_⟩;have e:rK x l=(vj x l x.half||(decide (x.half=0)&&(vj x l 1&&vj x l 2))):=ax h;have hi:aP (x.aK - 1):=ii
 have ex:(⟨x.ar,x.aK,x.half⟩:Slot)=x:=rfl;simp only [ex,e];refine⟨⟨hl.1,hi⟩,fun h1=>by simp [h1],fun h1=>⟨fun h0=>⟨⟨hl.1,hi⟩,fun h2=>⟨⟨hl.1,hi⟩,?_⟩,fun h2 => ?_⟩,fun h0=>by simp [h1,h0]⟩⟩ <;>
 . rw [h0] at h1;simp [h0,h1,h2]
def agY:aC:=bE 216 u5 u5 (fun _ _=>True) (fun a b => .bool fun _=>sV (a ()) (b ()))
theorem ax1:aE Tryz.prog agY:=by
 refine bD [] trivial Tryz.func216 (by kernel_rfl) fun ah res h hp => ?_;obtain⟨(a:Int),(b:Int),rfl,rfl⟩:=bG h;clear h;refine⟨[],?_⟩;refine fm ?_;exact⟨fun h=>by simp [sV,h],fun h=>⟨fun h0=>by simp [sV,h0],fun h0=>by simp [sV,h,h0]⟩⟩
def agZ:aC:=bE 176 u6 u6 (fun _ _=>True) (fun x y => .bool fun _=>jZ (x ()) (y ()))
theorem ax2:aE Tryz.prog agZ:=by
 refine bD [agY] ⟨ax1,trivial⟩ Tryz.func176 (by kernel_rfl) fun ah res h hp => ?_;obtain⟨(x:Slot),(y:Slot),rfl,rfl⟩:=bG h;clear h;refine⟨[],?_⟩;refine fm ?_;exact⟨fun h1=>⟨fun h2=>by simp [jZ,h1,h2],fun h2=>by simp [jZ,h2]⟩,fun h1=>by simp [jZ,h1]⟩
def ax3(bs:List aL)(l:List aA)(c h:Int):Lp where
 X:=Nat
 ov k := [(16,.int .i64 fun _=>(k:Int)),(9,.int .i64 fun _=>eI bs (l.take k) c h)]
 oe _ := []
 I k:=k<=l.length
 μ k _:=l.length - k
 x0:=0
 nx:=some fun k=>k+1
def ag0:aC:=oS 217 jc lL kI u5 (fun bs l _ _=>(bs ()).length<=1000000000000/\(l ()).length<=1000000) (fun bs l ar half => .int .i64 fun _=>eI (bs ()) (l ()) (ar ()) (half ()))
theorem ax4:aE Tryz.prog ag0:=by
 refine bD [VU,agR] ⟨agM,axQ,trivial⟩ Tryz.func217 (by kernel_rfl) fun ah res h hp => ?_;obtain⟨(bs:List aL),(l:List aA),(ar:Int),(half:Int),rfl,rfl⟩:=qu h;clear h;have hl:bs.length<=1000000000000/\l.length<=1000000:=hp;refine⟨[(3,ax3 bs l ar half)],?_⟩
 conv=>arg 1; cbv
 refine⟨?_,fun (k:Nat) hk => ?_⟩
 . simp (maxSteps:=4000000) only [ay];simp [eI]
 have bM:k<=l.length:=hk;refine fm ?_;refine⟨fun g => ?_,fun g=>by rw [ez oo]⟩;have af:k<l.length:=oo
 have hst:eI bs (l.take (k+1)) ar half=eI bs (l.take k) ar half+hH bs ar half (l.getD k Tc.ai.aa):=by
  exact ag1
 have hb:0<=eI bs (l.take k) ar half/\eI bs (l.take k) ar half<=2896*((l.take k).length:Int):=Oo _ (On bs ar half) _;rw [cy] at hb;have lI:=tP (bI bs (l.getD k Tc.ai.aa).box).1;have et:∀ b:aL,fw (⟨b.id,b.num,b.size,b.high,b.aI,b.load,b.jT,b.cls,b.xB⟩:aL)=fw b:=fun _=>rfl;simp only [et,hst];unfold hH;generalize eI bs (l.take k) ar half=H at *
 generalize fw (bI bs (l.getD k Tc.ai.aa).box).1=T at *
 have h1:∀ P,P->aP ((k:Int)+1)/\(k+1<=l.length/\l.length - (k+1)<l.length - k)/\(k:Int)+1=((k+1:Nat):Int)/\P:=fun P h=>⟨ii,oo,oo,h⟩
 have h2:aP (H+T):=ii
 clear hst et hb lI;generalize l.getD k Tc.ai.aa=y;refine⟨oo,fun c=>⟨fun c1=>⟨hl.1,fun c2=>⟨h2,h1 _ ?_⟩,fun c2=>h1 _ ?_⟩,fun c1=>⟨fun c3=>⟨hl.1,fun c2=>⟨h2,h1 _ ?_⟩,fun c2=>h1 _ ?_⟩,fun c3=>h1 _ ?_⟩⟩,fun c=>h1 _ ?_⟩<;>simp [*]
open Go.Maps Go.WideMaps
def vn(l:List aL)(k:Nat)(s:ByteArray):Bool:=(l.take k).any (fun b => !decide (b.num=vm)&&decide (b.num=s))
def vo(l:List aL)(k:Nat):Int:=if k=0 then 0 else (l[k - 1]?.map aL.id).getD 0
def kA(l:List aL)(k:Nat):Bool :=
 match l[k]? with
 | some b=>vn l k b.num||decide (b.id<=vo l k) || !kz b
 | none=>false
def jN(l:List aL):Int×Int :=
 if l.length>2000 then (-1,5) else
 match (List.range l.length).find? (kA l) with
 | some k=>(k,60)
 | none=>(-1,0)
theorem ag2{l:List aL}{k:Nat}(hl:l.length<=2000)(hk:k<l.length)(hj:∀ j,j<k->kA l j=false)(h:kA l k=true):jN l=((k:Int),60):=by
 have:(List.range l.length).find? (kA l)=some k:=by
  rw [List.find?_range_eq_some];exact⟨h,by simpa using hk,fun j mq=>by simp [hj j mq]⟩
 unfold jN;rw [ax oo,this]
theorem ag3{l:List aL}(hl:l.length<=2000)(hj:∀ j,j<l.length->kA l j=false):jN l=(-1,0):=by
 have:(List.range l.length).find? (kA l)=none:=by
  rw [YO];intro x hx;rw [hj x (by simpa using hx)];simp
 unfold jN;rw [ax oo,this]
theorem ax5(l:List aL)(s:ByteArray):vn l 0 s=false:=by simp [vn]
theorem ax6(l:List aL)(k:Nat)(s:ByteArray)(hk:k<l.length):vn l (k+1) s=(vn l k s||(!decide (l[k].num=vm)&&decide (l[k].num=s))):=by
 unfold vn;rw [Dc hk,List.any_append];simp only [List.any_cons,List.any_nil,iY]
theorem ag4(l:List aL)(k:Nat)(hk:k<l.length):vo l (k+1)=l[k].id:=by
 unfold vo;simp [hk]
theorem ax7(l:List aL):vo l 0=0:=by simp [vo]
open Go.RowKit
def oZ(n:Int):Bool:=decide (0<=n/\n<=500000000)
def jO(n m:Int):Bool:=decide (-m<=n/\n<=m)
def jx(l:Ld):Bool:=oZ l.aI&&(jO l.x (l.aI*1100000)&&(jO l.y (l.aI*1100000)&&jO l.z (l.aI*1100000)))
def gz:Ld:=⟨0,0,0,0⟩
def qy(k x y z:Int):Ld×Int:=if oZ k&&(jO x 1100000&&(jO y 1100000&&jO z 1100000)) then (⟨k,k*x,k*y,k*z⟩,0) else (gz,2)
theorem CH{n:Int}:oZ n=true↔0<=n/\n<=500000000:=YM
theorem w8{n m:Int}:jO n m=true ↔ -m<=n/\n<=m:=YM
theorem VX(n:Int)(w:World):Calls Tryz.prog 59 #[.int .i64 n] w fun e w'=>e = .returned (.bool (oZ n))/\w'=w:=by
 by_cases h1:0<=n
 . by_cases h2:n<=500000000
   . have h3:oZ n=true:=by simp [oZ,h1,h2]
     exact VY
   . have h3:oZ n=false:=by simp [oZ]; omega
     exact VY
 . have h3:oZ n=false:=by simp [oZ]; omega
   exact VY
theorem E9(n m:Int)(rI:0<=m)(hm:m<=4611686018427387904)(w:World):Calls Tryz.prog 119 #[.int .i64 n,.int .i64 m] w fun e w'=>e = .returned (.bool (jO n m))/\w'=w:=by
 have wn:IntKind.i64.wrap (-m) = -m:=wrap_i64 oo oo;by_cases h1 : -m<=n
 . by_cases h2:n<=m
   . have h3:jO n m=true:=by simp [jO,h1,h2]
     exact VZ
   . have h3:jO n m=false:=by simp [jO]; omega
     exact VZ
 . have h3:jO n m=false:=by simp [jO]; omega
   exact VZ
set_option maxHeartbeats 1000000 in
theorem ax8(l:Ld)(w:World):Calls Tryz.prog 58 #[.agg #[.int .i64 l.aI,.int .i64 l.x,.int .i64 l.y,.int .i64 l.z]] w fun e w'=>e = .returned (.bool (jx l))/\dL w w':=by
 obtain⟨k,x,y,z⟩:=l;dsimp only;have HB:Hid (dL w (w.alloc (.cells #[.int .i64 k,.int .i64 x,.int .i64 y,.int .i64 z] 73))):=(Below.refl _ _).alloc (Nat.le_refl _) _;have HK:=Lib.hid (fun w1=>VX k w1)
 cases hk:oZ k with
 | false =>
  rw [hk] at HK;have hr:jx ⟨k,x,y,z⟩=false:=by unfold jx; rw [hk]; rfl
  rw [hr];clear hr hk
  go_enter Tryz.func58,Tryz.ntmps58
  go_wp2_with (go_at_call 59; refine (HK.out _).mono ?_; rintro e wx ⟨rfl,hx⟩; rw [hx]; clear hx wx HK)
  go_ret
  exact⟨rfl,HB.out⟩
 | true =>
  have h1:=CH.1 hk;have wm:IntKind.i64.wrap (k*1100000)=k*1100000:=wrap_i64 oo oo;obtain⟨m,hm⟩:∃ m,m=k*1100000:=⟨_,rfl⟩
  have HX:=bt (fun w1=>E9 x m oo oo w1);have HY:=bt (fun w1=>E9 y m oo oo w1);have HZ:=bt (fun w1=>E9 z m oo oo w1);have hr:jx ⟨k,x,y,z⟩=(jO x m&&(jO y m&&jO z m)):=by unfold jx; rw [hk,hm]; rfl
  rw [hk] at HK;rw [hr];rw [<- hm] at wm;have wm2:IntKind.i64.wrap (k*1100000)=m:=by rw [<- hm]; exact wm
  clear hr hk h1 hm wm;generalize jO x m=bx at HX ⊢;generalize jO y m=by_ at HY ⊢;generalize jO z m=bz at HZ ⊢
  cases bx with
  | false =>
   exact V0
  | true =>
   cases by_ with
   | false =>
    exact V0
   | true =>
    exact V0
theorem Fa:AQ Tryz.prog 73 4:=Ld.row
theorem CI:(Tryz.prog.info? 73).map (·.size)=some 4:=by kernel_rfl
def ag5(w:World)(r:Ld×Int)(e:Ending)(w':World):Prop:=e = .returned (.tuple #[r.1.val,.int .i64 r.2])/\dL w w'
set_option maxHeartbeats 2000000 in
theorem ax9(k x y z:Int)(w:World):Calls Tryz.prog 54 #[.int .i64 k,.int .i64 x,.int .i64 y,.int .i64 z] w (ag5 w (qy k x y z)):=by
 have Ab:=bt ((Mem.nil w).alloc 73 gz.cells);have HK:=bt (fun w1=>VX k w1);have HX:=bt (fun w1=>E9 x 1100000 oo oo w1);have HY:=bt (fun w1=>E9 y 1100000 oo oo w1);have HZ:=bt (fun w1=>E9 z 1100000 oo oo w1)
 cases hk:oZ k with
 | false =>
  have HR:Hid (qy k x y z=(gz,2)):=by unfold Hid qy; rw [hk]; rfl
  rw [hk] at HK;clear hk
  exact Oq
 | true =>
  cases hx:jO x 1100000 with
  | false =>
   have HR:Hid (qy k x y z=(gz,2)):=by unfold Hid qy; rw [hk,hx]; rfl
   rw [hk] at HK;rw [hx] at HX;clear hk hx
   exact Oq
  | true =>
   cases hy:jO y 1100000 with
   | false =>
    have HR:Hid (qy k x y z=(gz,2)):=by unfold Hid qy; rw [hk,hx,hy]; rfl
    rw [hk] at HK;rw [hx] at HX;rw [hy] at HY;clear hk hx hy
    exact Oq
   | true =>
    cases hz:jO z 1100000 with
    | false =>
     have HR:Hid (qy k x y z=(gz,2)):=by unfold Hid qy; rw [hk,hx,hy,hz]; rfl
     rw [hk] at HK;rw [hx] at HX;rw [hy] at HY;rw [hz] at HZ;clear hk hx hy hz
     exact Oq
    | true =>
     have HR:Hid (qy k x y z=(⟨k,k*x,k*y,k*z⟩,0)):=by unfold Hid qy; rw [hk,hx,hy,hz]; rfl
     have hm:∀ n:Int,jO n 1100000=true->IntKind.i64.wrap (k*n)=k*n:=fun n hn=>by
      have h1:=CH.1 hk;have h2:=w8.1 hn;have h3:k*n<=k*1100000:=Yz h2.2 h1.1;have h4:k*(-1100000)<=k*n:=Yz h2.1 h1.1;exact wrap_i64 oo oo
     have mx:=hm x hx;have my:=hm y hy;have mz:=hm z hz;rw [hk] at HK;rw [hx] at HX;rw [hy] at HY;rw [hz] at HZ;clear hk hx hy hz hm
     go_enter Tryz.func54,Tryz.ntmps54
     go_wp2_with (first
      | (go_at_call 59; refine (HK.out _).mono ?_; rintro e wx ⟨rfl,hx⟩; rw [hx]; clear hx wx HK)
      | (go_at_call 119; refine (HX.out _).mono ?_; rintro e wx ⟨rfl,hx⟩; rw [hx]; clear hx wx HX)
      | (go_at_call 119; refine (HY.out _).mono ?_; rintro e wx ⟨rfl,hx⟩; rw [hx]; clear hx wx HY)
      | (go_at_call 119; refine (HZ.out _).mono ?_; rintro e wx ⟨rfl,hx⟩; rw [hx]; clear hx wx)
      | ((with_reducible refine AT 73 ?_); go_loud (refine Bf (cs':=Ld.cells (⟨k,k*x,k*y,k*z⟩)) rfl _ _ rfl Ab.out 0 rfl rfl rfl CI rfl (Ld.len _) (Ld.len _) (Ld.one _) ?_); intro w6 h6))
     refine bodyPost_ret (Jc rfl _ rfl (h6.DH Fa (Ld.len _) (i:=0) rfl _ (dU _ _))) rfl ⟨?_,h6.from_⟩;rw [HR.out];rfl
theorem aya(l:Ld)(w:World):Calls Tryz.prog 57 #[l.val] w fun e w'=>e = .returned (.bool (!jx l))/\dL w w':=by
 have HR:=bt (fun w1=>ax8 l w1);have HB:Hid (dL w (w.alloc (.cells (Ld.cells l).toArray 73))):=(dU _ _).alloc (aN _) _
 go_enter Tryz.func57,Tryz.ntmps57
 go_wp2_with (go_at_call 58; go_loud (refine (HR.out _).mono ?_); rintro e w2 ⟨rfl,hb⟩)
 go_ret
 exact⟨rfl,HB.out.trans (hb.mono HB.out.size)⟩
def Ld.add(a b:Ld):Ld:=⟨a.aI+b.aI,a.x+b.x,a.y+b.y,a.z+b.z⟩
def w9(s:Ld):List Ld->Ld×Int
 | []=>(s,0)
 | x::l=>if oZ (s.aI+x.aI) then w9 (s.add x) l else (gz,3)
def Fb(l:Ld):Bool := !jx l
def xa(l:List Ld):Ld×Int:=if l.any Fb then (gz,2) else w9 gz l
theorem ag6{l:Ld}(h:jx l=true):(0<=l.aI/\l.aI<=500000000)/\(-(l.aI*1100000)<=l.x/\l.x<=l.aI*1100000)/\(-(l.aI*1100000)<=l.y/\l.y<=l.aI*1100000)/\(-(l.aI*1100000)<=l.z/\l.z<=l.aI*1100000):=by
 unfold jx at h;simp only [aD] at h;exact⟨CH.1 h.1,w8.1 h.2.1,w8.1 h.2.2.1,w8.1 h.2.2.2⟩
theorem ag7{l:Ld}(h:(0<=l.aI/\l.aI<=500000000)/\(-(l.aI*1100000)<=l.x/\l.x<=l.aI*1100000)/\(-(l.aI*1100000)<=l.y/\l.y<=l.aI*1100000)/\(-(l.aI*1100000)<=l.z/\l.z<=l.aI*1100000)):jx l=true:=by
 unfold jx;simp only [aD];exact⟨CH.2 h.1,w8.2 h.2.1,w8.2 h.2.2.1,w8.2 h.2.2.2⟩
theorem ayb:jx gz=true:=by decide
theorem ayc(w:World)(args:Array Value):(callFunc 57 args).run Tryz.prog w = .ok (.enter 57 args) w:=by
 go_simp
set_option maxHeartbeats 2000000 in
theorem ayd(A:Option Addr)(c n:Nat)(l:List Ld)(hn:n=l.length)(w:World)(h:Rd w w.heap.size 4 A (l.map Ld.cells))(hl:l.length<=1000000) :
 Calls Tryz.prog 21 #[.slice A n c] w (ag5 w (xa l)):=by
 have HC:=bt (fun w1 (hb:dL w w1)=>aor A c l n hn 57 #[] Fb w1 (h.from hb) oo ayc (fun x _ w' _=>aya x w'));have Ab:=bt ((Mem.nil w).alloc 73 gz.cells);have HR:=bt h;have HN:=bt hn;have hn6:n<=1000000:=oo
 obtain⟨r,hr⟩:∃ r,r=xa l:=⟨_,rfl⟩
 rw [<- hr]
 cases tD:l.any Fb with
 | true =>
  rw [tD] at HC;have HE:Hid (r=(gz,2)):=by unfold Hid xa at *; rw [hr,tD]; rfl
  clear hr tD h hn hl HR
  go_enter Tryz.func21,Tryz.ntmps21
  go_wp2_with (first
   | (go_at_call 56; go_loud (refine (HC.out _ Ab.out.from_).mono ?_); rintro e w1 ⟨rfl,hb⟩; have Ot:=bt (Ab.out.call hb); clear hb)
   | ((with_reducible refine AT 73 ?_); go_loud (refine Bf (cs':=gz.cells) rfl _ _ rfl Ot.out 0 rfl rfl rfl CI rfl (Ld.len _) (Ld.len _) (Ld.one _) ?_); intro w6 h6))
  refine bodyPost_ret (Jc rfl _ rfl (h6.DH Fa (Ld.len _) (i:=0) rfl _ (dU _ _))) rfl ⟨?_,h6.from_⟩;rw [HE.out];rfl
 | false =>
  rw [tD] at HC;have HE:Hid (w9 gz (l.drop 0)=r):=by unfold Hid xa at *; rw [hr,tD]; rfl
  have CE:Hid (∀ x∈l,jx x=true):=by
   intro x hx;have h1:=AK.1 tD x hx;unfold Fb at h1;simpa using h1
  clear hr tD h hn hl
  go_enter Tryz.func21,Tryz.ntmps21
  go_wp2_with (go_at_call 56; go_loud (refine (HC.out _ Ab.out.from_).mono ?_); rintro e w1 ⟨rfl,hb⟩; have Ot:=bt ((Ab.out.call hb).alloc 73 gz.cells); clear hb HC Ab)
  go_loopw [12] (fun v wq=>∃ (k:Nat) (s:Ld),k<=n/\v = .int .i64 (k:Int)/\jx s=true/\w9 s (l.drop k)=r/\Mem w wq [.box w1.heap.size 73 s.cells,.box w.heap.size 73 gz.cells]) (fun v _=>n - (intOf v).toNat)
  case atStart=>exact⟨0,gz,bw _,rfl,ayb,HE.out,Ot.out⟩
  case round =>
   clear Ot HE;obtain⟨k,s,hk,rfl,hs,hle,iM⟩:=hrel;have Jl:=bt iM;have CF:=bt hle;clear iM hle;by_cases eV:k=n
   . have af:¬ (k:Int)<(n:Int):=oo
     have HE:Hid (r=(s,0)):=by
      have h1:=CF.out;rw [YG (by rw [<- HN.out,eV]; exact aN _)] at h1;exact h1.symm
     clear CF eV hk hs
     go_wp2_with (first
      | ((with_reducible refine ux 73 ?_); refine si rfl _ _ rfl _ rfl _ (Jl.out.DH Fa (Ld.len _) (i:=0) rfl _ (dU _ _)) ?_)
      | ((with_reducible refine AT 73 ?_); go_loud (refine Bf (cs':=Ld.cells s) rfl _ _ rfl Jl.out 1 rfl rfl rfl CI rfl (Ld.len _) (Ld.len _) (Ld.one _) ?_); intro w6 h6))
     refine bodyPost_ret (Jc rfl _ rfl (h6.DH Fa (Ld.len _) (i:=1) rfl _ (dU _ _))) rfl ⟨?_,h6.from_⟩;rw [HE.out];rfl
   . have af:(k:Int)<(n:Int):=oo
     have lY:k<l.length:=by rw [<- HN.out]; omega
     obtain⟨g,off,rfl,hg,mW⟩:=Ld.ld HR.out (k:=k) (b:=l[k]) (QJ Ld.cells l k lY);obtain⟨x,hx⟩:∃ x,x=l[k]:=⟨_,rfl⟩
     rw [<- hx] at mW;have Oh:=bt (mW wr Jl.out.from_);have hxo:jx x=true:=CE.out x (by rw [hx]; exact lV lY);have Ou:Hid (w9 s (x::l.drop (k+1))=r):=by
      have h1:=CF.out;rw [rZ lY,<- hx] at h1;exact h1
     have Ov:=Lib.hid (Jl.out.alloc 73 x.cells);have h1:=ag6 hs;have h2:=ag6 hxo;obtain⟨k1,x1,y1,z1⟩:=s;obtain⟨k2,x2,y2,z2⟩:=x;dsimp only at h1 h2;have e1:IntKind.i64.wrap (k1+k2)=k1+k2:=wrap_i64 oo oo;have e2:IntKind.i64.wrap (x1+x2)=x1+x2:=wrap_i64 oo oo;have e3:IntKind.i64.wrap (y1+y2)=y1+y2:=wrap_i64 oo oo;have e4:IntKind.i64.wrap (z1+z2)=z1+z2:=wrap_i64 oo oo;have V1:Hid (oZ (k1+k2)=true->jx ⟨k1+k2,x1+x2,y1+y2,z1+z2⟩=true):=by
      intro h3;have h4:=CH.1 h3;refine ag7 ?_;dsimp only;omega
     have HW:=bt (fun w1=>VX (k1+k2) w1);clear h1 h2 hx mW Jl lY CF eV hs hxo
     cases CJ:oZ (k1+k2) with
     | false =>
      rw [CJ] at HW;have HE:Hid (r=(gz,3)):=by
       have h1:=Ou.out;unfold w9 at h1;rw [ax (by rw [CJ]; simp)] at h1;exact h1.symm
      clear Ou V1 CJ
      go_wp2_with (first
       | ((with_reducible refine ux 73 ?_); refine si rfl _ _ rfl _ rfl _ Oh.out ?_)
       | ((with_reducible refine ux 3 ?_); refine si rfl _ _ rfl _ rfl _ (Ov.out.K0 Lb (i:=1) rfl rfl _ (dU _ _)) ?_)
       | ((with_reducible refine ux 3 ?_); refine si rfl _ _ rfl _ rfl _ (Jm.out.K0 Lb (i:=1) rfl rfl _ (dU _ _)) ?_)
       | ((with_reducible refine AT 73 ?_); refine Bf (cs':=Ld.cells ⟨k1+k2,x1+x2,y1+y2,z1+z2⟩) rfl _ _ rfl Ov.out 1 rfl rfl rfl CI rfl (Ld.len _) (Ld.len _) (Ld.one _) ?_; intro w5 h5; have Jm:=bt h5; clear h5)
       | (go_at_call 59; refine (HW.out _).mono ?_; rintro e wx ⟨rfl,hx⟩; rw [hx]; clear hx wx)
       | ((with_reducible refine AT 73 ?_); refine Bf (cs':=gz.cells) rfl _ _ rfl Jm.out 2 rfl rfl rfl CI rfl (Ld.len _) (Ld.len _) (Ld.one _) ?_; intro w6 h6))
      refine bodyPost_ret (Jc rfl _ rfl (h6.DH Fa (Ld.len _) (i:=2) rfl _ (dU _ _))) rfl ⟨?_,h6.from_⟩;rw [HE.out];rfl
     | true =>
      rw [CJ] at HW;have HS2:=bt (V1.out CJ);have HE:Hid (w9 ⟨k1+k2,x1+x2,y1+y2,z1+z2⟩ (l.drop (k+1))=r):=by
       have h1:=Ou.out;unfold w9 at h1;rw [aG (by rw [CJ])] at h1;exact h1
      clear Ou V1 CJ
      go_wp2_with (first
       | ((with_reducible refine ux 73 ?_); refine si rfl _ _ rfl _ rfl _ Oh.out ?_)
       | ((with_reducible refine ux 3 ?_); refine si rfl _ _ rfl _ rfl _ (Ov.out.K0 Lb (i:=1) rfl rfl _ (dU _ _)) ?_)
       | ((with_reducible refine ux 3 ?_); refine si rfl _ _ rfl _ rfl _ (Jm.out.K0 Lb (i:=1) rfl rfl _ (dU _ _)) ?_)
       | ((with_reducible refine AT 73 ?_); refine Bf (cs':=Ld.cells ⟨k1+k2,x1+x2,y1+y2,z1+z2⟩) rfl _ _ rfl Ov.out 1 rfl rfl rfl CI rfl (Ld.len _) (Ld.len _) (Ld.one _) ?_; intro w5 h5; have Jm:=bt h5; clear h5)
       | (go_at_call 59; refine (HW.out _).mono ?_; rintro e wx ⟨rfl,hx⟩; rw [hx]; clear hx wx))
      go_roundw
      case rel=>exact⟨k+1,_,oo,by go_num,HS2.out,HE.out,Jm.out.tail⟩
      case measure=>simp [intOf]; omega
section
variable{w w':World}{ρ:Nat->Option Rl}{base:Nat}{ro:Nat->Prop}{v:Value}
theorem ag9(b:Unit->Ld):aj w ρ base ro (.agg (Is b)) (b ()).val:=atb (l:=Is b) rfl
theorem aj.ayf{l:Unit->List aA}(h:aj w ρ base ro (.sl fr .ai l) v):∃ A c,v = .slice A (l ()).length c/\(l ()).length<=c/\Rd w w.heap.size 4 A ((l ()).map aA.cells):=aj.Nr (t := .ai) (l:=l) aA.cells (fun _=>rfl) (fun _=>rfl) h
theorem aj.lds{l:Unit->List Ld}(h:aj w ρ base ro (.sl fr .ld l) v):∃ A c,v = .slice A (l ()).length c/\(l ()).length<=c/\Rd w w.heap.size 4 A ((l ()).map Ld.cells):=aj.Nr (t := .ld) (l:=l) Ld.cells (fun _=>rfl) (fun _=>rfl) h
theorem aj.u8s{l:Unit->List Int}(h:aj w ρ base ro (.sl fr .u8 l) v):∃ A c,v = .slice A (l ()).length c/\(l ()).length<=c/\Rd w w.heap.size 1 A ((l ()).map E4):=aj.Nr (t := .u8) (l:=l) E4 (fun _=>rfl) (fun _=>rfl) h
end
def aha:aC:=cL 181 Cj (fun b=>(b ()).num.size<=140737488351232) (fun b => .bool fun _=>kz (b ()))
theorem ayi:aE Tryz.prog aha:=by
 refine EF Tryz.func181 (by kernel_rfl) fun ah res h w ra eu hE hp => ?_;obtain⟨(b:aL),rfl,rfl⟩:=cS h;clear h;obtain⟨v0,zT,rfl,nj,h0⟩:=hE.head;obtain rfl:=h0.none;obtain rfl:=nj.aef rfl;exact (axK b w hp).mono fun e w' ⟨k1,k2⟩=>⟨_,k1,k2,.bool _⟩
def ahb:aC:=bE 213 atk u5 (fun l _=>(l ()).length<=1000000000000) (fun l x => .bool fun _=>(l ()).any fun y=>decide (x ()=y))
theorem ayj:aE Tryz.prog ahb:=by
 refine EF Tryz.func213 (by kernel_rfl) fun ah res h w ra eu hE hp => ?_;obtain⟨(l:List Int),(x:Int),rfl,rfl⟩:=bG h;clear h;obtain⟨v0,zT,rfl,nj,h0⟩:=hE.head;obtain⟨v1,us1,rfl,vX,h1⟩:=h0.head;obtain rfl:=h1.none;obtain⟨A0,q0,rfl,qd,wO⟩:=nj.u8s;obtain rfl:=vX.jU;exact (aw6 A0 q0 l _ rfl x w wO hp).mono fun e w' ⟨k1,k2⟩=>⟨_,k1,by rw [k2]; exact dU _ _,.bool _⟩
def ahc:aC:=oS 54 kI kI kI kI (fun _ _ _ _=>True) (fun a b c d => .bp [.agg (Is fun _=>(qy (a ()) (b ()) (c ()) (d ())).1),.int .i64 fun _=>(qy (a ()) (b ()) (c ()) (d ())).2])
theorem ayk:aE Tryz.prog ahc:=by
 refine EF Tryz.func54 (by kernel_rfl) fun ah res h w ra eu hE hp => ?_;obtain⟨(a:Int),(b:Int),(c:Int),(d:Int),rfl,rfl⟩:=qu h;clear h;obtain⟨v0,zT,rfl,nj,h0⟩:=hE.head;obtain⟨v1,us1,rfl,vX,h1⟩:=h0.head;obtain⟨v2,us2,rfl,p8,h2⟩:=h1.head;obtain⟨v3,us3,rfl,hv3,h3⟩:=h2.head;obtain rfl:=h3.none;obtain rfl:=nj.jU;obtain rfl:=vX.jU;obtain rfl:=p8.jU;obtain rfl:=hv3.jU;exact (ax9 a b c d w).mono fun e w' ⟨k1,k2⟩=>⟨_,k1,k2,Uc (ag9 _) (.int _ _)⟩
def ahd:aC:=cL 21 ati (fun l=>(l ()).length<=1000000) (fun l => .bp [.agg (Is fun _=>(xa (l ())).1),.int .i64 fun _=>(xa (l ())).2])
theorem aym:aE Tryz.prog ahd:=by
 refine EF Tryz.func21 (by kernel_rfl) fun ah res h w ra eu hE hp => ?_;obtain⟨(l:List Ld),rfl,rfl⟩:=cS h;clear h;obtain⟨v0,zT,rfl,nj,h0⟩:=hE.head;obtain rfl:=h0.none;obtain⟨A0,q0,rfl,qd,wO⟩:=nj.lds;exact (ayd A0 q0 _ l rfl w wO hp).mono fun e w' ⟨k1,k2⟩=>⟨_,k1,k2,Uc (ag9 _) (.int _ _)⟩
theorem o4{l:List α}{k:Nat}(d : α)(h:k<l.length):l.take (k+1)=l.take k ++ [l.getD k d]:=by
 rw [Dc h,aY,bq h,iD]
theorem eJ{l:List α}{k:Nat}(d : α)(h:k<l.length):l.getD k d∈l:=by
 rw [aY,bq h,iD];exact lV h
theorem V2{p : α->Bool}{l:List α}{k:Nat}{d : α}(hk:k<l.length)(h:p (l.getD k d)=false):l.all p=false:=by
 rw [List.all_eq_false];exact⟨_,eJ d hk,by rw [h]; simp⟩
theorem V3{p : α->Bool}{l:List α}{k:Nat}{d : α}(h0:(l.take k).all p=true)(hk:k<l.length)(h:p (l.getD k d)=true):(l.take (k+1)).all p=true:=by
 rw [o4 d hk,List.all_append,h0];simp [h,-List.getD_eq_getElem?_getD]
theorem V4{p : α->Bool}{l:List α}{k:Nat}(h0:(l.take k).all p=true)(hk:l.length<=k):l.all p=true:=by rwa [ez hk] at h0
def ahe:aC:=cL 210 u5 (fun _=>True) (fun s => .sl true .u8 fun _=>wW (s ()))
theorem ayn:aE Tryz.prog ahe:=by
 refine bD [] trivial Tryz.func210 (by kernel_rfl) fun ah res h hp => ?_;obtain⟨(s:Int),rfl,rfl⟩:=cS h;clear h;refine⟨[],?_⟩
 conv=>arg 1; cbv
 simp (maxSteps:=4000000) only [ay];unfold wW;grind
def ahf:aC:=cL 172 lL (fun l=>(l ()).length<=1000000) (fun l => .sl true .slot fun _=>(l ()).map ej)
def ayo(l:List aA):Lp where
 X:=Nat
 ov k := [(8,.int .i64 fun _=>(k:Int)),(3,.own 0)]
 oe k := [(0,.row true .slot 123 fun _=>(l.take k).map ej)]
 I k:=k<=l.length
 μ k _:=l.length - k
 x0:=0
 nx:=some fun k=>k+1
theorem ayp:aE Tryz.prog ahf:=by
 refine bD [] trivial Tryz.func172 (by kernel_rfl) fun ah res h hp => ?_;obtain⟨(l:List aA),rfl,rfl⟩:=cS h;clear h;have hl:l.length<=1000000:=hp;refine⟨[(3,ayo l)],?_⟩
 conv=>arg 1; cbv
 refine⟨?_,fun (k:Nat) hk => ?_⟩
 . exact Ac
 . conv=>arg 1; cbv
   have fO:k<=l.length:=hk;simp (maxSteps:=4000000) only [ay];refine⟨fun h => ?_,fun h=>by rw [ez oo]⟩;have h2:k<l.length:=oo
   refine⟨oo,by simp; omega,⟨oo,oo⟩,⟨oo,oo⟩,oo,?_⟩;rw [o4 Tc.ai.aa h2,ot];rfl
def yn(cs:List dM)(bs:List aL)(l:List aA)(c:Int):Bool:=decide ((cs.getD c.toNat Tc.ar.aa).mZ<=0)||(decide (eI bs l c 1<=(cs.getD c.toNat Tc.ar.aa).mZ)&&decide (eI bs l c 2<=(cs.getD c.toNat Tc.ar.aa).mZ))
def ahg:aC:=oS 177 ko jc lL kI (fun s bs l c=>(bs ()).length<=1000000000000/\(l ()).length<=1000000/\0<=c ()/\c ()<((s ()).aF.length:Int)) (fun s bs l c => .bool fun _=>yn (s ()).aF (bs ()) (l ()) (c ()))
theorem ayq:aE Tryz.prog ahg:=by
 refine bD [ag0] ⟨ax4,trivial⟩ Tryz.func177 (by kernel_rfl) fun ah res h hp => ?_;obtain⟨(s:bB),(bs:List aL),(l:List aA),(c:Int),rfl,rfl⟩:=qu h;clear h;have fy:bs.length<=1000000000000/\l.length<=1000000/\0<=c/\c<(s.aF.length:Int):=hp;have h1:=fy.1;have h2:=fy.2.1;have h3:=fy.2.2.1;have h4:=fy.2.2.2;refine⟨[],?_⟩
 conv=>arg 1; cbv
 simp (maxSteps:=4000000) only [ay];unfold yn;generalize s.aF.getD c.toNat Tc.ar.aa=x at *
 grind
def mh(cs:List dM)(x:Slot)(size:Int):Bool:=decide (0<=x.ar)&&(decide (x.ar<(cs.length:Int))&&(decide (0<=x.aK)&&(decide (x.aK<(cs.getD x.ar.toNat Tc.ar.aa).dC)&&(wW size).any fun y=>decide (x.half=y))))
theorem ayr(s:Int):(wW s).length<=2:=by unfold wW; split<;>(try split)<;>simp
def ahh:aC:=ns 174 ko u6 u5 (fun _ _ _=>True) (fun s x z => .bool fun _=>mh (s ()).aF (x ()) (z ()))
theorem ays:aE Tryz.prog ahh:=by
 refine bD [ahe,ahb] ⟨ayn,ayj,trivial⟩ Tryz.func174 (by kernel_rfl) fun ah res h hp => ?_;obtain⟨(s:bB),(x:Slot),(z:Int),rfl,rfl⟩:=oR h;clear h;refine⟨[],?_⟩;have hh:=ayr z
 conv=>arg 1; cbv
 simp (maxSteps:=4000000) only [ay];unfold mh;generalize s.aF.getD x.ar.toNat Tc.ar.aa=c at *
 generalize wW z=hs at *
 grind
def nC(x:xC):Bool:=decide (x.low<=x.n)&&decide (x.n<=x.high)
def V5:aC:=cL 245 atm (fun l=>(l ()).length<=1000000000000) (fun l => .bool fun _=>(l ()).all nC)
def ayt(l:List xC):Lp where
 X:=Nat
 ov k := [(7,.int .i64 fun _=>(k:Int))]
 oe _ := []
 I k:=k<=l.length/\(l.take k).all nC=true
 μ k _:=l.length - k
 x0:=0
 nx:=some fun k=>k+1
theorem ahi:aE Tryz.prog V5:=by
 refine bD [] trivial Tryz.func245 (by kernel_rfl) fun ah res h hp => ?_;obtain⟨(l:List xC),rfl,rfl⟩:=cS h;clear h;have hl:l.length<=1000000000000:=hp;refine⟨[(2,ayt l)],?_⟩
 conv=>arg 1; cbv
 refine⟨?_,fun (k:Nat) hk => ?_⟩
 . exact pM
 . conv=>arg 1; cbv
   have bu:k<=l.length/\(l.take k).all nC=true:=hk;have bM:=bu.1;have bm:=bu.2;simp (maxSteps:=4000000) only [ay];refine⟨fun h => ?_,fun h=>(V4 bm oo).symm⟩;have h2:k<l.length:=oo
   have ha:=V2 (p:=nC) (d:=Tc.qW.aa) h2;have hb:=V3 (d:=Tc.qW.aa) bm h2;generalize l.getD k Tc.qW.aa=x at *
   unfold nC at *
   simp only [aP];grind
def jP(s:Nat)(l:List α)(P:Nat->Prop):Lp where
 X:=Nat
 ov k := [(s,.int .i64 fun _=>(k:Int))]
 oe _ := []
 I k:=k<=l.length/\∀ j,j<k->P j
 μ k _:=l.length - k
 x0:=0
 nx:=some fun k=>k+1
theorem j5{n k:Nat}{P:Nat->Prop}(hn:n<=1000000000000)(hk:k<n)(h2:∀ j,j<k->P j)(h:P k):aP ((k:Int)+1)/\((k+1<=n/\∀ j,j<k+1->P j)/\n - (k+1)<n - k)/\(k:Int)+1=((k+1:Nat):Int):=⟨ii,⟨⟨hk,tQ h2 h⟩,oo⟩,oo⟩
theorem Jn{p : α->Bool}{l:List α}{k:Nat}{d : α}(hk:k<l.length)(h:p (l.getD k d)=true):l.any p=true:=by
 rw [F0];exact⟨_,eJ d hk,h⟩
theorem Ow{p : α->Bool}{l:List α}{k:Nat}{d : α}(h0:∀ j,j<k->¬ p (l.getD j d)=true)(hk:l.length<=k):l.any p=false:=by
 rw [AK];intro x hx;obtain⟨j,hj⟩:=mn.1 hx;obtain⟨af,he⟩:=c8.1 hj;have:=h0 j oo;rw [aY,hj] at this;simpa using this
def ahj:aC:=bE 239 u5 u5 (fun _ _=>True) (fun a b => .bool fun _=>sV (a ()) (b ()))
theorem ayu:aE Tryz.prog ahj:=by
 refine bD [] trivial Tryz.func239 (by kernel_rfl) fun ah res h hp => ?_;obtain⟨(a:Int),(b:Int),rfl,rfl⟩:=bG h;clear h;refine⟨[],?_⟩;refine fm ?_;exact⟨fun h=>by simp [sV,h],fun h=>⟨fun h0=>by simp [sV,h0],fun h0=>by simp [sV,h,h0]⟩⟩
def ahk:aC:=bE 195 u6 u6 (fun _ _=>True) (fun x y => .bool fun _=>jZ (x ()) (y ()))
theorem ayv:aE Tryz.prog ahk:=by
 refine bD [ahj] ⟨ayu,trivial⟩ Tryz.func195 (by kernel_rfl) fun ah res h hp => ?_;obtain⟨(x:Slot),(y:Slot),rfl,rfl⟩:=bG h;clear h;refine⟨[],?_⟩;refine fm ?_;exact⟨fun h1=>⟨fun h2=>by simp [jZ,h1,h2],fun h2=>by simp [jZ,h2]⟩,fun h1=>by simp [jZ,h1]⟩
def ahl:aC:=ns 238 Iw u6 u5 (fun l x _=>(l ()).length<=1000000000000/\aP ((x ()).aK - 1)) (fun l x h => .bool fun _=>vj (x ()) (l ()) (h ()))
theorem ayw:aE Tryz.prog ahl:=by
 refine bD [] trivial Tryz.func238 (by kernel_rfl) fun ah res h hp => ?_;obtain⟨(l:List Slot),(x:Slot),(h:Int),rfl,rfl⟩:=oR h;clear h;have fA:l.length<=1000000000000/\aP (x.aK - 1):=hp;have hl:=fA.1;have hx:=fA.2;refine⟨[(2,jP 7 l fun j=>¬ (⟨x.ar,x.aK - 1,h⟩:Slot)=l.getD j Tc.slot.aa)],?_⟩
 conv=>arg 1; cbv
 refine⟨?_,fun (k:Nat) hk => ?_⟩
 . exact pM
 have bu:k<=l.length/\∀ j,j<k->¬ (⟨x.ar,x.aK - 1,h⟩:Slot)=l.getD j Tc.slot.aa:=hk;have bM:=bu.1;have bm:=bu.2;refine fm ?_;refine⟨fun g => ?_,fun g=>(Ow (p:=fun y=>decide ((⟨x.ar,x.aK - 1,h⟩:Slot)=y)) (fun j hj=>by simpa using bm j hj) oo).symm⟩;have af:k<l.length:=oo
 have hN:=j5 hl af bm;refine⟨⟨oo,oo⟩,fun c=>⟨⟨oo,oo⟩,hx,fun t=>⟨⟨oo,oo⟩,fun e=>(Jn (p:=fun y=>decide ((⟨x.ar,x.aK - 1,h⟩:Slot)=y)) (d:=Tc.slot.aa) af ?_).symm,fun e=>hN fun q=>e (by rw [<- q])⟩,fun t=>hN fun q=>t (by rw [<- q])⟩,fun c=>hN fun q=>c (by rw [<- q])⟩;generalize l.getD k Tc.slot.aa=y at c t e;obtain⟨a,b,z⟩:=y;simp only at c t e;subst c;subst e;simp [t]
def ahm:aC:=bE 193 u6 Iw (fun x l=>(l ()).length<=1000000000000/\(x ()).aK<=1000000) (fun x l => .bool fun _=>rK (x ()) (l ()))
theorem ayx:aE Tryz.prog ahm:=by
 refine bD [ahl] ⟨ayw,trivial⟩ Tryz.func193 (by kernel_rfl) fun ah res h hp => ?_;obtain⟨(x:Slot),(l:List Slot),rfl,rfl⟩:=bG h;clear h;have fA:l.length<=1000000000000/\x.aK<=1000000:=hp;have hl:=fA.1;have ht:=fA.2;refine⟨[],?_⟩;refine fm ?_;have ex:(⟨x.ar,x.aK,x.half⟩:Slot)=x:=rfl;simp only [ex];refine⟨fun h=>by unfold rK; rw [aG h],fun h => ?_⟩;have e:rK x l=(vj x l x.half||(decide (x.half=0)&&(vj x l 1&&vj x l 2))):=ax h;have hi:aP (x.aK - 1):=ii
 rw [e];refine⟨fun h0=>⟨⟨hl,hi⟩,fun h1=>by simp [h0,h1],fun h1=>⟨⟨hl,hi⟩,fun h2=>⟨⟨hl,hi⟩,by simp [h0,h1,h2]⟩,fun h2=>by simp [h0,h1,h2]⟩⟩,fun h0=>⟨⟨hl,hi⟩,by simp [h0]⟩⟩
def ahn:aC:=ns 192 ko u6 kI (fun _ _ _=>True) (fun s x z => .bool fun _=>mh (s ()).aF (x ()) (z ()))
theorem ayy:aE Tryz.prog ahn:=by
 refine bD [] trivial Tryz.func192 (by kernel_rfl) fun ah res h hp => ?_;obtain⟨(s:bB),(x:Slot),(z:Int),rfl,rfl⟩:=oR h;clear h;refine⟨[],?_⟩
 conv=>arg 1; cbv
 skip
 simp (maxSteps:=4000000) only [ay,aJ,aH,aO];have e:∀ b1 b2 b3 b4 b5:Bool,decide (0<=x.ar)=b1->decide (x.ar<(s.aF.length:Int))=b2->decide (0<=x.aK)=b3->decide (x.aK<(s.aF.getD x.ar.toNat Tc.ar.aa).dC)=b4->((wW z).any fun y=>decide (x.half=y))=b5->mh s.aF x z=(b1&&(b2&&(b3&&(b4&&b5)))):=fun b1 b2 b3 b4 b5 h1 h2 h3 h4 h5=>by unfold mh; rw [h1,h2,h3,h4,h5]
 refine⟨fun a=>by rw [e _ _ _ _ _ (dB oo) rfl rfl rfl rfl]; rfl,fun a => ?_⟩;have a:=cT (show 0<=x.ar from oo);refine⟨fun b=>by rw [e _ _ _ _ _ a (dB oo) rfl rfl rfl]; rfl,fun b => ?_⟩;have b:=cT (show x.ar<(s.aF.length:Int) from oo);refine⟨fun c=>by rw [e _ _ _ _ _ a b (dB oo) rfl rfl]; rfl,fun c=>⟨⟨oo,oo⟩,fun d => ?_,fun d => ?_⟩⟩
 . rw [e _ _ _ _ _ a b rfl (dB oo) rfl,yM,nK]; rfl
 rw [e _ _ _ _ _ a b (cT oo) (cT oo) rfl];unfold wW;refine⟨fun z4=>⟨fun h0=>by simp [z4,h0],fun h0=>⟨fun z2=>oo,fun z2=>by simp [z4,h0]⟩⟩,fun z4=>⟨fun z2=>⟨fun h1=>by simp [z2,h1],fun h1=>by simp [z2,h1]⟩,fun z2=>by simp [z2,z4]⟩⟩
def aw.ok(f:aw):Bool:=decide (-500000<=f.x/\f.x<=500000)&&decide (0<=f.iG/\f.iG<=500000000)&&decide (0<=f.share/\f.share<=10000)&&decide (0<=f.dk/\f.dk<=1000000000000000)&&decide (0<=f.cV/\f.cV<=1000000000000000)
def rL:Option Int->List aw->Bool
 | _,[]=>true
 | p,f::l=>f.ok&&(match p with|none=>true|some x=>decide (x<f.x))&&rL (some f.x) l
def gR(l:List aw):Int:=(l.map aw.share).foldr (· + ·) 0
def mO:Int->List aw->Int
 | s,[]=>s
 | s,f::l=>mO (if s<=500000000 then s+f.iG else s) l
def Ad(l:List aw):Int:=mO 0 l
def rM(l:List aw):aw:=l.getLastD ⟨0,0,0,0,0⟩
def gq(l:List aw):Bool:=decide (3<=l.length/\l.length<=30)&&rL none l&&decide (Ad l<=500000000)&&decide (gR l=10000)&&decide ((rM l).iG=0)&&decide ((rM l).share=0)
theorem yo:∀ (p:Option Int) (l:List aw),rL p l=true->∀ f∈l,f.ok=true
 | _,[],_,f,hf=>by cases hf
 | p,g::l,h,f,hf=>by
  unfold rL at h;simp only [aD] at h;rcases gD.1 hf with rfl|h1
  . exact h.1.1
  . exact yo _ l h.2 f h1
theorem aw.mP{f:aw}(h:f.ok=true):(-500000<=f.x/\f.x<=500000)/\(0<=f.iG/\f.iG<=500000000)/\(0<=f.share/\f.share<=10000)/\(0<=f.dk/\f.dk<=1000000000000000)/\(0<=f.cV/\f.cV<=1000000000000000):=by
 unfold aw.ok at h;simp only [aD,aU] at h;exact⟨h.1.1.1.1,h.1.1.1.2,h.1.1.2,h.1.2,h.2⟩
theorem aho:∀ (l:List aw) (s:Int),(∀ f∈l,f.ok=true)->0<=s->s<=1000000000->0<=mO s l/\mO s l<=1000000000
 | [],s,_,h0,h1=>⟨h0,h1⟩
 | f::l,s,h,h0,h1=>by
  unfold mO;have hf:=aw.mP (h f (by simp));refine aho l _ (fun g hg=>h g (by simp [hg])) ?_ ?_
  . split<;>omega
  . split<;>omega
open Go.RowKit
def fU(n low high:Int):Bool:=decide (low<=n)&&decide (n<=high)
def V6:aC:=ns 62 kI kI kI (fun _ _ _=>True) (fun n low high => .bool fun _=>fU (n ()) (low ()) (high ()))
theorem ahp:aE Tryz.prog V6:=by
 refine bD [] trivial Tryz.func62 (by kernel_rfl) fun ah res h hp => ?_;obtain⟨(n:Int),(low:Int),(high:Int),rfl,rfl⟩:=oR h;clear h;refine⟨[],?_⟩
 exact V7
theorem ahq(f:aw):∀ (l:List aw) (s:Int),mO s (l ++ [f])=if mO s l<=500000000 then mO s l+f.iG else mO s l
 | [],s=>rfl
 | g::l,s=>by
  simp only [qL,mO];exact ahq f l _
theorem ayz{l:List aw}(aR:∀ f∈l,f.ok=true)(k:Nat):0<=mO 0 (l.take k)/\mO 0 (l.take k)<=1000000000 :=
 aho _ _ (fun f hf=>aR f (xt hf)) (by decide) (by decide)
def ayA(l:List aw):Lp where
 X:=Nat
 ov k := [(8,.int .i64 fun _=>(k:Int)),(3,.int .i64 fun _=>mO 0 (l.take k))]
 oe _ := []
 I k:=k<=l.length
 μ k _:=l.length - k
 x0:=0
 nx:=some fun k=>k+1
def V8:aC:=cL 52 qv (fun l=>(∀ f∈l (),f.ok=true)/\(l ()).length<=1000) (fun l => .int .i64 fun _=>Ad (l ()))
theorem ahr:aE Tryz.prog V8:=by
 refine bD [] trivial Tryz.func52 (by kernel_rfl) fun ah res h hp => ?_;obtain⟨(l:List aw),rfl,rfl⟩:=cS h;clear h;have vg:(∀ f∈l,f.ok=true)/\l.length<=1000:=hp;have aR:=vg.1;have hl:=vg.2;refine⟨[(3,ayA l)],?_⟩
 conv=>arg 1; cbv
 simp (maxSteps:=4000000) only [ay,aJ,aH,aO];refine⟨⟨bw _,rfl,rfl⟩,fun (k:Nat) hk => ?_⟩;have fO:k<=l.length:=hk;clear hk
 conv=>arg 1; cbv
 simp (maxSteps:=4000000) only [ay,aJ,aH,aO];have hr:=ayz aR k;refine⟨fun g => ?_,fun g => ?_⟩
 . have af:k<l.length:=oo
   have hf:=(aw.mP (aR _ (eJ Tc.cu.aa af))).2.1;have hs:=ahq (l.getD k Tc.cu.aa) (l.take k) 0;rw [<- o4 Tc.cu.aa af] at hs;simp only [aP];refine⟨oo,fun c=>⟨oo,oo,⟨oo,oo⟩,oo,?_⟩,fun c=>⟨oo,⟨oo,oo⟩,oo,?_⟩⟩
   . rw [hs,aG oo]
   . rw [hs,ax oo]
 . unfold Ad;rw [ez oo]
def V9:aC:=bE 66 gn kI (fun _ _=>True) (fun f _ => .agg (bf false .jm f))
theorem ahs:aE Tryz.prog V9:=by
 refine bD [] trivial Tryz.func66 (by kernel_rfl) fun ah res h hp => ?_;obtain⟨(f:bh),(e:Int),rfl,rfl⟩:=bG h;clear h;refine⟨[],?_⟩
 conv=>arg 1; cbv
 simp (maxSteps:=4000000) only [ay]
 first|done|trivial
def Wa:aC:=bE 64 aeJ aeJ (fun a b=>(aP ((a ()).a0+(b ()).a0)/\aP ((a ()).a1+(b ()).a1)/\aP ((a ()).a2+(b ()).a2))/\aP ((a ()).a3+(b ()).a3)/\aP ((a ()).a4+(b ()).a4)/\aP ((a ()).a5+(b ()).a5)) (fun a b => .agg (IA fun _=>(a ()).add (b ())))
theorem aht:aE Tryz.prog Wa:=by
 refine bZ { kp := [(0,[0,1]),(1,[2,3,4]),(2,[2,4,7,8]),(3,[2,4,7,8]),(4,[2,4,5,6,7,8]),(5,[2,4,7,8]),(6,[2,4])],ul := [2] } [] trivial [] trivial Tryz.func64 (by kernel_rfl) fun ah res h hp => ?_;obtain⟨(a:au),(b:au),rfl,rfl⟩:=bG h;clear h;obtain⟨⟨h0,h1,h2⟩,h3,h4,h5⟩:=hp;refine⟨[],?_⟩
 conv=>arg 1; cbv
 simp (maxSteps:=4000000) only [ay,aJ,aH,aO];exact⟨h0,h1,h2,h3,h4,h5,rfl,rfl,rfl,rfl,rfl,rfl⟩
def ahu:aC:=cL 61 kWt (fun _=>True) (fun u => .bool fun _=>lA (u ()))
theorem ayB:aE Tryz.prog ahu:=by
 refine bD [V6] ⟨ahp,trivial⟩ Tryz.func61 (by kernel_rfl) fun ah res h hp => ?_;obtain⟨(u:Wt),rfl,rfl⟩:=cS h;clear h;refine⟨[],?_⟩
 conv=>arg 1; cbv
 simp (maxSteps:=4000000) only [ay];unfold fU lA;rw [YT];exact⟨trivial,rfl⟩
end Go.Proofs.YtamjbkaclhgffaaGreat
