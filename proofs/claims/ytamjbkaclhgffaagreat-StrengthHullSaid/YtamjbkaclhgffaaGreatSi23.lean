/-
  moment: Add.
-/
import Derived.Test.YtamjbkaclhgffaaGreatSi22
set_option linter.all false
set_option maxRecDepth 100000
set_option maxHeartbeats 4000000
namespace Go.Proofs.YtamjbkaclhgffaaGreat
open Go.RowKit
variable{fr:Bool}{A B a b x:Int}{i j n p q:Nat}{α:Type}
def Ld.add(a b:Ld):Ld:=⟨a.aq+b.aq,a.x+b.x,a.y+b.y,a.z+b.z⟩
def sj(s:Ld):List Ld->Ld×Int
 | []=>(s,0)
 | x::l=>if nw (s.aq+x.aq) then sj (s.add x) l else (fi,3)
def Bh(l:Ld):Bool := !fB l
def o7(l:List Ld):Ld×Int:=if l.any Bh then (fi,2) else sj fi l
theorem Mr{l:Ld}(h:fB l=true):(0<=l.aq/\l.aq<=500000000)/\(-(l.aq*1100000)<=l.x/\l.x<=l.aq*1100000)/\(-(l.aq*1100000)<=l.y/\l.y<=l.aq*1100000)/\(-(l.aq*1100000)<=l.z/\l.z<=l.aq*1100000):=by
 unfold fB at h;simp only [ax] at h;exact⟨vq.1 h.1,qX.1 h.2.1,qX.1 h.2.2.1,qX.1 h.2.2.2⟩
theorem T6{l:Ld}(h:(0<=l.aq/\l.aq<=500000000)/\(-(l.aq*1100000)<=l.x/\l.x<=l.aq*1100000)/\(-(l.aq*1100000)<=l.y/\l.y<=l.aq*1100000)/\(-(l.aq*1100000)<=l.z/\l.z<=l.aq*1100000)):fB l=true:=by
 unfold fB;simp only [ax];exact⟨vq.2 h.1,qX.2 h.2.1,qX.2 h.2.2.1,qX.2 h.2.2.2⟩
theorem as5:fB fi=true:=by decide
theorem as6(w:World)(args:Array Value):(callFunc 57 args).run Tryz.prog w = .ok (.enter 57 args) w:=by
 go_simp
set_option maxHeartbeats 2000000 in
theorem as7(A:Option Addr)(c n:Nat)(l:List Ld)(hn:n=l.length)(w:World)(h:Rd w w.heap.size 4 A (l.map Ld.cells))(hl:l.length<=1000000) :
 Calls Tryz.prog 21 #[.slice A n c] w (aed w (o7 l)):=by
 have HC:=aZ (fun w1 (hb:cW w w1)=>aky A c l n hn 57 #[] Bh w1 (h.from hb) oo as6 (fun x _ w' _=>as4 x w'));have tS:=aZ ((Mem.nil w).alloc 73 fi.cells);have HR:=aZ h;have HN:=aZ hn;have hn6:n<=1000000:=oo
 obtain⟨r,hr⟩:∃ r,r=o7 l:=⟨_,rfl⟩
 rw [<- hr]
 cases rX:l.any Bh with
 | true =>
  rw [rX] at HC;have HE:Hid (r=(fi,2)):=by unfold Hid o7 at *; rw [hr,rX]; rfl
  clear hr rX h hn hl HR
  go_enter Tryz.func21,Tryz.ntmps21
  go_wp2_with (first
   | (go_at_call 56; go_loud (refine (HC.out _ tS.out.from_).mono ?_); rintro e w1 ⟨rfl,hb⟩; have y8:=aZ (tS.out.call hb); clear hb)
   | ((with_reducible refine xH 73 ?_); go_loud (refine xW (cs':=fi.cells) rfl _ _ rfl y8.out 0 rfl rfl rfl Bg rfl (Ld.len _) (Ld.len _) (Ld.one _) ?_); intro w6 h6))
  refine bodyPost_ret (G9 rfl _ rfl (h6.Cq DJ (Ld.len _) (i:=0) rfl _ (cu _ _))) rfl ⟨?_,h6.from_⟩;rw [HE.out];rfl
 | false =>
  rw [rX] at HC;have HE:Hid (sj fi (l.drop 0)=r):=by unfold Hid o7 at *; rw [hr,rX]; rfl
  have Mk:Hid (∀ x∈l,fB x=true):=by
   intro x hx;have h1:=zz.1 rX x hx;unfold Bh at h1;simpa using h1
  clear hr rX h hn hl
  go_enter Tryz.func21,Tryz.ntmps21
  go_wp2_with (go_at_call 56; go_loud (refine (HC.out _ tS.out.from_).mono ?_); rintro e w1 ⟨rfl,hb⟩; have y8:=aZ ((tS.out.call hb).alloc 73 fi.cells); clear hb HC tS)
  go_loopw [12] (fun v wq=>∃ (k:Nat) (s:Ld),k<=n/\v = .int .i64 (k:Int)/\fB s=true/\sj s (l.drop k)=r/\Mem w wq [.box w1.heap.size 73 s.cells,.box w.heap.size 73 fi.cells]) (fun v _=>n - (intOf v).toNat)
  case atStart=>exact⟨0,fi,bO _,rfl,as5,HE.out,y8.out⟩
  case round =>
   clear y8 HE;obtain⟨k,s,hk,rfl,hs,hle,gW⟩:=hrel;have tT:=aZ gW;have Be:=aZ hle;clear gW hle;by_cases dN:k=n
   . have ah:¬ (k:Int)<(n:Int):=oo
     have HE:Hid (r=(s,0)):=by
      have h1:=Be.out;rw [List.drop_of_length_le (by rw [<- HN.out,dN]; exact aA _)] at h1;exact h1.symm
     clear Be dN hk hs
     go_wp2_with (first
      | ((with_reducible refine qq 73 ?_); refine oD rfl _ _ rfl _ rfl _ (tT.out.Cq DJ (Ld.len _) (i:=0) rfl _ (cu _ _)) ?_)
      | ((with_reducible refine xH 73 ?_); go_loud (refine xW (cs':=Ld.cells s) rfl _ _ rfl tT.out 1 rfl rfl rfl Bg rfl (Ld.len _) (Ld.len _) (Ld.one _) ?_); intro w6 h6))
     refine bodyPost_ret (G9 rfl _ rfl (h6.Cq DJ (Ld.len _) (i:=1) rfl _ (cu _ _))) rfl ⟨?_,h6.from_⟩;rw [HE.out];rfl
   . have ah:(k:Int)<(n:Int):=oo
     have gD:k<l.length:=by rw [<- HN.out]; omega
     obtain⟨g,off,rfl,hg,ki⟩:=Ld.ld HR.out (k:=k) (b:=l[k]) (OP Ld.cells l k gD);obtain⟨x,hx⟩:∃ x,x=l[k]:=⟨_,rfl⟩
     rw [<- hx] at ki;have xe:=aZ (ki wr tT.out.from_);have Hh:fB x=true:=Mk.out x (by rw [hx]; exact iT gD);have Ms:Hid (sj s (x::l.drop (k+1))=r):=by
      have h1:=Be.out;rw [sP gD,<- hx] at h1;exact h1
     have Mt:=Lib.hid (tT.out.alloc 73 x.cells);have h1:=Mr hs;have h2:=Mr Hh;obtain⟨k1,x1,y1,z1⟩:=s;obtain⟨k2,x2,y2,z2⟩:=x;dsimp only at h1 h2;have e1:IntKind.i64.wrap (k1+k2)=k1+k2:=wrap_i64 oo oo;have e2:IntKind.i64.wrap (x1+x2)=x1+x2:=wrap_i64 oo oo;have e3:IntKind.i64.wrap (y1+y2)=y1+y2:=wrap_i64 oo oo;have e4:IntKind.i64.wrap (z1+z2)=z1+z2:=wrap_i64 oo oo;have T7:Hid (nw (k1+k2)=true->fB ⟨k1+k2,x1+x2,y1+y2,z1+z2⟩=true):=by
      intro h3;have h4:=vq.1 h3;refine T6 ?_;dsimp only;omega
     have HW:=aZ (fun w1=>TZ (k1+k2) w1);clear h1 h2 hx ki tT gD Be dN hs Hh
     cases Bj:nw (k1+k2) with
     | false =>
      rw [Bj] at HW;have HE:Hid (r=(fi,3)):=by
       have h1:=Ms.out;unfold sj at h1;rw [aw (by rw [Bj]; simp)] at h1;exact h1.symm
      clear Ms T7 Bj
      go_wp2_with (first
       | ((with_reducible refine qq 73 ?_); refine oD rfl _ _ rfl _ rfl _ xe.out ?_)
       | ((with_reducible refine qq 3 ?_); refine oD rfl _ _ rfl _ rfl _ (Mt.out.zP EZ (i:=1) rfl rfl _ (cu _ _)) ?_)
       | ((with_reducible refine qq 3 ?_); refine oD rfl _ _ rfl _ rfl _ (Hi.out.zP EZ (i:=1) rfl rfl _ (cu _ _)) ?_)
       | ((with_reducible refine xH 73 ?_); refine xW (cs':=Ld.cells ⟨k1+k2,x1+x2,y1+y2,z1+z2⟩) rfl _ _ rfl Mt.out 1 rfl rfl rfl Bg rfl (Ld.len _) (Ld.len _) (Ld.one _) ?_; intro w5 h5; have Hi:=aZ h5; clear h5)
       | (go_at_call 59; refine (HW.out _).mono ?_; rintro e wx ⟨rfl,hx⟩; rw [hx]; clear hx wx)
       | ((with_reducible refine xH 73 ?_); refine xW (cs':=fi.cells) rfl _ _ rfl Hi.out 2 rfl rfl rfl Bg rfl (Ld.len _) (Ld.len _) (Ld.one _) ?_; intro w6 h6))
      refine bodyPost_ret (G9 rfl _ rfl (h6.Cq DJ (Ld.len _) (i:=2) rfl _ (cu _ _))) rfl ⟨?_,h6.from_⟩;rw [HE.out];rfl
     | true =>
      rw [Bj] at HW;have HS2:=aZ (T7.out Bj);have HE:Hid (sj ⟨k1+k2,x1+x2,y1+y2,z1+z2⟩ (l.drop (k+1))=r):=by
       have h1:=Ms.out;unfold sj at h1;rw [aC (by rw [Bj])] at h1;exact h1
      clear Ms T7 Bj
      go_wp2_with (first
       | ((with_reducible refine qq 73 ?_); refine oD rfl _ _ rfl _ rfl _ xe.out ?_)
       | ((with_reducible refine qq 3 ?_); refine oD rfl _ _ rfl _ rfl _ (Mt.out.zP EZ (i:=1) rfl rfl _ (cu _ _)) ?_)
       | ((with_reducible refine qq 3 ?_); refine oD rfl _ _ rfl _ rfl _ (Hi.out.zP EZ (i:=1) rfl rfl _ (cu _ _)) ?_)
       | ((with_reducible refine xH 73 ?_); refine xW (cs':=Ld.cells ⟨k1+k2,x1+x2,y1+y2,z1+z2⟩) rfl _ _ rfl Mt.out 1 rfl rfl rfl Bg rfl (Ld.len _) (Ld.len _) (Ld.one _) ?_; intro w5 h5; have Hi:=aZ h5; clear h5)
       | (go_at_call 59; refine (HW.out _).mono ?_; rintro e wx ⟨rfl,hx⟩; rw [hx]; clear hx wx))
      go_roundw
      case rel=>exact⟨k+1,_,oo,by go_num,HS2.out,HE.out,Hi.out.tail⟩
      case measure=>simp [intOf]; omega
section
variable{w w':World}{ρ:Nat->Option Rl}{base:Nat}{ro:Nat->Prop}{v:Value}
theorem aee(b):af w ρ base ro (.agg (Dl b)) (b ()).val:=apg (l:=Dl b) rfl
theorem af.as9{l:Unit->List az}(h:af w ρ base ro (.sl fr .al l) v):∃ A c,v = .slice A (l ()).length c/\(l ()).length<=c/\Rd w w.heap.size 4 A ((l ()).map az.cells):=af.LF (t := .al) (l:=l) az.cells (fun _=>rfl) (fun _=>rfl) h
theorem af.lds{l:Unit->List Ld}(h:af w ρ base ro (.sl fr .ld l) v):∃ A c,v = .slice A (l ()).length c/\(l ()).length<=c/\Rd w w.heap.size 4 A ((l ()).map Ld.cells):=af.LF (t := .ld) (l:=l) Ld.cells (fun _=>rfl) (fun _=>rfl) h
theorem af.u8s{l:Unit->List Int}(h:af w ρ base ro (.sl fr .u8 l) v):∃ A c,v = .slice A (l ()).length c/\(l ()).length<=c/\Rd w w.heap.size 1 A ((l ()).map A9):=af.LF (t := .u8) (l:=l) A9 (fun _=>rfl) (fun _=>rfl) h
end
def aef:aN:=fY 181 GH (fun b=>(b ()).num.size<=140737488351232) (fun b => .bool fun _=>nv (b ()))
theorem atc:aU Tryz.prog aef:=by
 refine Dk Tryz.func181 (by kernel_rfl) fun ai res h w ra dM hE hp => ?_;obtain⟨(b:aJ),rfl,rfl⟩:=gM h;clear h;obtain⟨v0,y4,rfl,lT,h0⟩:=hE.head;obtain rfl:=h0.none;obtain rfl:=lT.ab7 rfl;exact (asC b w hp).mono fun e w' ⟨k1,k2⟩=>⟨_,k1,k2,.bool _⟩
def aeg:aN:=c6 213 SD yZ (fun l _=>(l ()).length<=1000000000000) (fun l x => .bool fun _=>(l ()).any fun y=>decide (x ()=y))
theorem atd:aU Tryz.prog aeg:=by
 refine Dk Tryz.func213 (by kernel_rfl) fun ai res h w ra dM hE hp => ?_;obtain⟨(l:List Int),(x:Int),rfl,rfl⟩:=dh h;clear h;obtain⟨v0,y4,rfl,lT,h0⟩:=hE.head;obtain⟨v1,Ty,rfl,rK,h1⟩:=h0.head;obtain rfl:=h1.none;obtain⟨A0,q0,rfl,pH,vd⟩:=lT.u8s;obtain rfl:=rK.iw;exact (arT A0 q0 l _ rfl x w vd hp).mono fun e w' ⟨k1,k2⟩=>⟨_,k1,by rw [k2]; exact cu _ _,.bool _⟩
def T8:aN:=u5 54 kI kI kI kI (fun _ _ _ _=>True) (fun a b c d => .ba [.agg (Dl fun _=>(mG (a ()) (b ()) (c ()) (d ())).1),.int .i64 fun _=>(mG (a ()) (b ()) (c ()) (d ())).2])
theorem aeh:aU Tryz.prog T8:=by
 refine Dk Tryz.func54 (by kernel_rfl) fun ai res h w ra dM hE hp => ?_;obtain⟨(a:Int),(b:Int),(c:Int),(d:Int),rfl,rfl⟩:=yY h;clear h;obtain⟨v0,y4,rfl,lT,h0⟩:=hE.head;obtain⟨v1,Ty,rfl,rK,h1⟩:=h0.head;obtain⟨v2,us2,rfl,rN,h2⟩:=h1.head;obtain⟨v3,us3,rfl,hv3,h3⟩:=h2.head;obtain rfl:=h3.none;obtain rfl:=lT.iw;obtain rfl:=rK.iw;obtain rfl:=rN.iw;obtain rfl:=hv3.iw;exact (as3 a b c d w).mono fun e w' ⟨k1,k2⟩=>⟨_,k1,k2,Sd (aee _) (.int _ _)⟩
def Mu:aN:=fY 21 aps (fun l=>(l ()).length<=1000000) (fun l => .ba [.agg (Dl fun _=>(o7 (l ())).1),.int .i64 fun _=>(o7 (l ())).2])
theorem T9:aU Tryz.prog Mu:=by
 refine Dk Tryz.func21 (by kernel_rfl) fun ai res h w ra dM hE hp => ?_;obtain⟨(l:List Ld),rfl,rfl⟩:=gM h;clear h;obtain⟨v0,y4,rfl,lT,h0⟩:=hE.head;obtain rfl:=h0.none;obtain⟨A0,q0,rfl,pH,vd⟩:=lT.lds;exact (as7 A0 q0 _ l rfl w vd hp).mono fun e w' ⟨k1,k2⟩=>⟨_,k1,k2,Sd (aee _) (.int _ _)⟩
theorem qa{l:List α}{k:Nat}(d)(h:k<l.length):l.take (k+1)=l.take k ++ [l.getD k d]:=by
 rw [xv h,aX,bc h,ia]
theorem gw{l:List α}{k:Nat}(d)(h:k<l.length):l.getD k d∈l:=by
 rw [aX,bc h,ia];exact iT h
theorem Ua{p : α->Bool}{l:List α}{k:Nat}{d : α}(hk:k<l.length)(h:p (l.getD k d)=false):l.all p=false:=by
 rw [List.all_eq_false];exact⟨_,gw d hk,by rw [h]; simp⟩
theorem Mv{p : α->Bool}{l:List α}{k:Nat}{d : α}(h0:(l.take k).all p=true)(hk:k<l.length)(h:p (l.getD k d)=true):(l.take (k+1)).all p=true:=by
 rw [qa d hk,List.all_append,h0];simp [h,-List.getD_eq_getElem?_getD]
theorem Ub{p : α->Bool}{l:List α}{k:Nat}(h0:(l.take k).all p=true)(hk:l.length<=k):l.all p=true:=by rwa [jC hk] at h0
def aei:aN:=fY 210 yZ (fun _=>True) (fun s => .sl true .u8 fun _=>lW (s ()))
theorem atf:aU Tryz.prog aei:=by
 refine cD [] trivial Tryz.func210 (by kernel_rfl) fun ai res h hp => ?_;obtain⟨(s:Int),rfl,rfl⟩:=gM h;clear h;refine⟨[],?_⟩
 conv=>arg 1; cbv
 simp (maxSteps:=4000000) only [aK];unfold lW;grind
def aej:aN:=fY 172 y0 (fun l=>(l ()).length<=1000000) (fun l => .sl true .slot fun _=>(l ()).map fA)
def atg(l:List az):Lp where
 X:=Nat
 ov k := [(8,.int .i64 fun _=>(k:Int)),(3,.own 0)]
 oe k := [(0,.row true .slot 123 fun _=>(l.take k).map fA)]
 I k:=k<=l.length
 μ k _:=l.length - k
 x0:=0
 nx:=some fun k=>k+1
theorem ath:aU Tryz.prog aej:=by
 refine cD [] trivial Tryz.func172 (by kernel_rfl) fun ai res h hp => ?_;obtain⟨(l:List az),rfl,rfl⟩:=gM h;clear h;have hl:l.length<=1000000:=hp;refine⟨[(3,atg l)],?_⟩
 conv=>arg 1; cbv
 refine⟨?_,fun (k:Nat) hk => ?_⟩
 . exact xf
 . conv=>arg 1; cbv
   have e9:k<=l.length:=hk;simp (maxSteps:=4000000) only [aK];refine⟨fun h => ?_,fun h=>by rw [jC oo]⟩;have h2:k<l.length:=oo
   refine⟨oo,by simp; omega,⟨oo,oo⟩,⟨oo,oo⟩,oo,?_⟩;rw [qa Tc.al.aa h2,jg];rfl
def tU(cs:List dv)(bs:List aJ)(l:List az)(c:Int):Bool:=decide ((cs.getD c.toNat Tc.au.aa).ma<=0)||decide (fy bs l c 1<=(cs.getD c.toNat Tc.au.aa).ma)&&decide (fy bs l c 2<=(cs.getD c.toNat Tc.au.aa).ma)
def aek:aN:=u5 177 tF r7 y0 kI (fun s bs l c=>(bs ()).length<=1000000000000/\(l ()).length<=1000000/\0<=c ()/\c ()<((s ()).aD.length:Int)) (fun s bs l c => .bool fun _=>tU (s ()).aD (bs ()) (l ()) (c ()))
theorem ati:aU Tryz.prog aek:=by
 refine cD [aeb] ⟨asW,trivial⟩ Tryz.func177 (by kernel_rfl) fun ai res h hp => ?_;obtain⟨(s:bC),(bs:List aJ),(l:List az),(c:Int),rfl,rfl⟩:=yY h;clear h;have eM:bs.length<=1000000000000/\l.length<=1000000/\0<=c/\c<(s.aD.length:Int):=hp;have h1:=eM.1;have h2:=eM.2.1;have h3:=eM.2.2.1;have h4:=eM.2.2.2;refine⟨[],?_⟩
 conv=>arg 1; cbv
 simp (maxSteps:=4000000) only [aK];unfold tU;generalize s.aD.getD c.toNat Tc.au.aa=x at *
 grind
def sk(cs:List dv)(x:Slot)(size:Int):Bool:=decide (0<=x.au)&&(decide (x.au<cs.length)&&(decide (0<=x.aH)&&(decide (x.aH<(cs.getD x.au.toNat Tc.au.aa).cY)&&(lW size).any fun y=>decide (x.half=y))))
theorem Uc(s):(lW s).length<=2:=by unfold lW; split<;>(try split)<;>simp
def ael:aN:=qR 174 tF Dp yZ (fun _ _ _=>True) (fun s x z => .bool fun _=>sk (s ()).aD (x ()) (z ()))
theorem atj:aU Tryz.prog ael:=by
 refine cD [aei,aeg] ⟨atf,atd,trivial⟩ Tryz.func174 (by kernel_rfl) fun ai res h hp => ?_;obtain⟨(s:bC),(x:Slot),(z:Int),rfl,rfl⟩:=tE h;clear h;refine⟨[],?_⟩;have hh:=Uc z
 conv=>arg 1; cbv
 simp (maxSteps:=4000000) only [aK];unfold sk;generalize s.aD.getD x.au.toNat Tc.au.aa=c at *
 generalize lW z=hs at *
 grind
def ny(x:wa):Bool:=decide (x.low<=x.n)&&decide (x.n<=x.high)
def Ud:aN:=fY 245 apv (fun l=>(l ()).length<=1000000000000) (fun l => .bool fun _=>(l ()).all ny)
def atk(l:List wa):Lp where
 X:=Nat
 ov k := [(7,.int .i64 fun _=>(k:Int))]
 oe _ := []
 I k:=k<=l.length/\(l.take k).all ny=true
 μ k _:=l.length - k
 x0:=0
 nx:=some fun k=>k+1
theorem aem:aU Tryz.prog Ud:=by
 refine cD [] trivial Tryz.func245 (by kernel_rfl) fun ai res h hp => ?_;obtain⟨(l:List wa),rfl,rfl⟩:=gM h;clear h;have hl:l.length<=1000000000000:=hp;refine⟨[(2,atk l)],?_⟩
 conv=>arg 1; cbv
 refine⟨?_,fun (k:Nat) hk => ?_⟩
 . exact vn
 . conv=>arg 1; cbv
   have cp:k<=l.length/\(l.take k).all ny=true:=hk;have cR:=cp.1;have bU:=cp.2;simp (maxSteps:=4000000) only [aK];refine⟨fun h => ?_,fun h=>(Ub bU oo).symm⟩;have h2:k<l.length:=oo
   have ha:=Ua (p:=ny) (d:=Tc.pA.aa) h2;have hb:=Mv (d:=Tc.pA.aa) bU h2;generalize l.getD k Tc.pA.aa=x at *
   unfold ny at *
   simp only [bq];grind
def Hj(s:Nat)(l:List α)(P:Nat->Prop):Lp where
 X:=Nat
 ov k := [(s,.int .i64 fun _=>(k:Int))]
 oe _ := []
 I k:=k<=l.length/\∀ j,j<k->P j
 μ k _:=l.length - k
 x0:=0
 nx:=some fun k=>k+1
theorem aen{k:Nat}{P:Nat->Prop}(hn:n<=1000000000000)(hk:k<n)(h2:∀ j,j<k->P j)(h:P k):bq (k+1)/\((k+1<=n/\∀ j,j<k+1->P j)/\n - (k+1)<n - k)/\k+1=((k+1:Nat):Int):=⟨ii,⟨⟨hk,vm h2 h⟩,oo⟩,oo⟩
def ar.ok(f:ar):Bool:=decide (-500000<=f.x/\f.x<=500000)&&decide (0<=f.ch/\f.ch<=500000000)&&decide (0<=f.share/\f.share<=10000)&&decide (0<=f.cM/\f.cM<=1000000000000000)&&decide (0<=f.cy/\f.cy<=1000000000000000)
def jc:Option Int->List ar->Bool
 | _,[]=>true
 | p,f::l=>f.ok&&(match p with|none=>true|some x=>decide (x<f.x))&&jc (some f.x) l
def fC(l:List ar):Int:=(l.map ar.share).foldr (· + ·) 0
def jQ:Int->List ar->Int
 | s,[]=>s
 | s,f::l=>jQ (if s<=500000000 then s+f.ch else s) l
def xg(l:List ar):Int:=jQ 0 l
def o8(l:List ar):ar:=l.getLastD ⟨0,0,0,0,0⟩
def gP(l:List ar):Bool:=decide (3<=l.length/\l.length<=30)&&jc none l&&decide (xg l<=500000000)&&decide (fC l=10000)&&decide ((o8 l).ch=0)&&decide ((o8 l).share=0)
theorem xh:∀ (p:Option Int) (l:List ar),jc p l=true->∀ f∈l,f.ok=true
 | _,[],_,f,hf=>by cases hf
 | p,g::l,h,f,hf=>by
  unfold jc at h;simp only [ax] at h;rcases fM.1 hf with rfl|h1
  . exact h.1.1
  . exact xh _ l h.2 f h1
theorem ar.nA{f:ar}(h:f.ok=true):(-500000<=f.x/\f.x<=500000)/\(0<=f.ch/\f.ch<=500000000)/\(0<=f.share/\f.share<=10000)/\(0<=f.cM/\f.cM<=1000000000000000)/\(0<=f.cy/\f.cy<=1000000000000000):=by
 unfold ar.ok at h;simp only [ax,aL] at h;exact⟨h.1.1.1.1,h.1.1.1.2,h.1.1.2,h.1.2,h.2⟩
theorem aeo:∀ (l:List ar) (s:Int),(∀ f∈l,f.ok=true)->0<=s->s<=1000000000->0<=jQ s l/\jQ s l<=1000000000
 | [],s,_,h0,h1=>⟨h0,h1⟩
 | f::l,s,h,h0,h1=>by
  unfold jQ;have hf:=ar.nA (h f (by simp));refine aeo l _ (fun g hg=>h g (by simp [hg])) ?_ ?_
  . split<;>omega
  . split<;>omega
open Go.RowKit
def gY(n low high:Int):Bool:=decide (low<=n)&&decide (n<=high)
def Ue:aN:=qR 62 kI kI kI (fun _ _ _=>True) (fun n low high => .bool fun _=>gY (n ()) (low ()) (high ()))
theorem aep:aU Tryz.prog Ue:=by
 refine cD [] trivial Tryz.func62 (by kernel_rfl) fun ai res h hp => ?_;obtain⟨(n:Int),(low:Int),(high:Int),rfl,rfl⟩:=tE h;clear h;refine⟨[],?_⟩
 exact no_implicit_lambda% aeq
theorem aer(f):∀ (l) (s),jQ s (l ++ [f])=if jQ s l<=500000000 then jQ s l+f.ch else jQ s l
 | [],s=>rfl
 | g::l,s=>by
  simp only [kW,jQ];exact aer f l _
theorem atl{l:List ar}(aI:∀ f∈l,f.ok=true)(k):0<=jQ 0 (l.take k)/\jQ 0 (l.take k)<=1000000000 :=
 aeo _ _ (fun f hf=>aI f (sR hf)) (by decide) (by decide)
def atm(l:List ar):Lp where
 X:=Nat
 ov k := [(8,.int .i64 fun _=>(k:Int)),(3,.int .i64 fun _=>jQ 0 (l.take k))]
 oe _ := []
 I k:=k<=l.length
 μ k _:=l.length - k
 x0:=0
 nx:=some fun k=>k+1
def Uf:aN:=fY 52 Dn (fun l=>(∀ f∈l (),f.ok=true)/\(l ()).length<=1000) (fun l => .int .i64 fun _=>xg (l ()))
theorem aes:aU Tryz.prog Uf:=by
 refine cD [] trivial Tryz.func52 (by kernel_rfl) fun ai res h hp => ?_;obtain⟨(l:List ar),rfl,rfl⟩:=gM h;clear h;have DG:(∀ f∈l,f.ok=true)/\l.length<=1000:=hp;have aI:=DG.1;have hl:=DG.2;refine⟨[(3,atm l)],?_⟩
 conv=>arg 1; cbv
 simp (maxSteps:=4000000) only [aK,bu,bn,bX];refine⟨⟨bO _,rfl,rfl⟩,fun (k:Nat) hk => ?_⟩;have e9:k<=l.length:=hk;clear hk
 conv=>arg 1; cbv
 simp (maxSteps:=4000000) only [aK,bu,bn,bX];have hr:=atl aI k;refine⟨fun g => ?_,fun g => ?_⟩
 . have ah:k<l.length:=oo
   have hf:=(ar.nA (aI _ (gw Tc.bZ.aa ah))).2.1;have hs:=aer (l.getD k Tc.bZ.aa) (l.take k) 0;rw [<- qa Tc.bZ.aa ah] at hs;simp only [bq];refine⟨oo,fun c=>⟨oo,oo,⟨oo,oo⟩,oo,?_⟩,fun c=>⟨oo,⟨oo,oo⟩,oo,?_⟩⟩
   . rw [hs,aC oo]
   . rw [hs,aw oo]
 . unfold xg;rw [jC oo]
def Ug:aN:=c6 66 nk kI (fun _ _=>True) (fun f _ => .agg (aP false .kZ f))
theorem aet:aU Tryz.prog Ug:=by
 refine cD [] trivial Tryz.func66 (by kernel_rfl) fun ai res h hp => ?_;obtain⟨(f:bB),(e:Int),rfl,rfl⟩:=dh h;clear h;refine⟨[],?_⟩
 conv=>arg 1; cbv
 simp (maxSteps:=4000000) only [aK]
 first|done|trivial
def Uh:aN:=c6 64 acr acr (fun a b=>(bq ((a ()).a0+(b ()).a0)/\bq ((a ()).a1+(b ()).a1)/\bq ((a ()).a2+(b ()).a2))/\bq ((a ()).a3+(b ()).a3)/\bq ((a ()).a4+(b ()).a4)/\bq ((a ()).a5+(b ()).a5)) (fun a b => .agg (GI fun _=>(a ()).add (b ())))
theorem aeu:aU Tryz.prog Uh:=by
 refine fH { kp := [(0,[0,1]),(1,[2,3,4]),(2,[2,4,7,8]),(3,[2,4,7,8]),(4,[2,4,5,6,7,8]),(5,[2,4,7,8]),(6,[2,4])],ul := [2] } [] trivial [] trivial Tryz.func64 (by kernel_rfl) fun ai res h hp => ?_;obtain⟨(a:ak),(b:ak),rfl,rfl⟩:=dh h;clear h;obtain⟨⟨h0,h1,h2⟩,h3,h4,h5⟩:=hp;refine⟨[],?_⟩
 conv=>arg 1; cbv
 simp (maxSteps:=4000000) only [aK,bu,bn,bX];exact⟨h0,h1,h2,h3,h4,h5,rfl,rfl,rfl,rfl,rfl,rfl⟩
def aev:aN:=fY 61 kWt (fun _=>True) (fun u => .bool fun _=>lJ (u ()))
theorem atn:aU Tryz.prog aev:=by
 refine cD [Ue] ⟨aep,trivial⟩ Tryz.func61 (by kernel_rfl) fun ai res h hp => ?_;obtain⟨(u:Wt),rfl,rfl⟩:=gM h;clear h;refine⟨[],?_⟩
 conv=>arg 1; cbv
 simp (maxSteps:=4000000) only [aK];unfold gY lJ;rw [ajw];exact⟨trivial,rfl⟩
def aew:aN:=c6 122 LU (wW 61) (fun l _=>(l ()).length<=1000000000000) (fun l _ => .int .i64 fun _=>idx lJ (l ()))
theorem ato:aU Tryz.prog aew:=by
 refine cD [aev] ⟨atn,trivial⟩ Tryz.func122 (by kernel_rfl) fun ai res h hp => ?_;obtain⟨(l:List Wt),(f:Unit),rfl,rfl⟩:=dh h;clear h;have hl:l.length<=1000000000000:=hp;refine⟨[(2,Hj 8 l fun j=>lJ (l.getD j Tc.wx.aa)=false)],?_⟩
 conv=>arg 1; cbv
 simp (maxSteps:=4000000) only [aK,bu,bn,bX];refine⟨⟨⟨bO _,fun j hj=>absurd hj (rz _)⟩,rfl⟩,fun (k:Nat) hk => ?_⟩;have cp:k<=l.length/\∀ j,j<k->lJ (l.getD j Tc.wx.aa)=false:=hk;have cR:=cp.1;have bU:=cp.2
 exact no_implicit_lambda% Ui
def aex:aN:=c6 60 LU (wW 61) (fun l _=>(l ()).length<=1000000000000) (fun l _ => .bool fun _=>(l ()).any lJ)
theorem atp:aU Tryz.prog aex:=by
 refine cD [aew] ⟨ato,trivial⟩ Tryz.func60 (by kernel_rfl) fun ai res h hp => ?_;obtain⟨(l:List Wt),(f:Unit),rfl,rfl⟩:=dh h;clear h;refine⟨[],?_⟩
 exact no_implicit_lambda% Mw
theorem aey{l:List ar}{k:Nat}(h:k<l.length):fC (l.take (k+1))=fC (l.take k)+(l.getD k Tc.bZ.aa).share:=by
 rw [qa Tc.bZ.aa h];generalize l.take k=m;generalize l.getD k Tc.bZ.aa=f;unfold fC
 exact aez
def aeA(p:Option Int)(x:Int):Prop:=∀ y,p=some y->y<x
theorem aeB:∀ (l) (p),jc p l=true↔∀ j,j<l.length->(l.getD j Tc.bZ.aa).ok=true/\aeA (if j=0 then p else some (l.getD (j - 1) Tc.bZ.aa).x) (l.getD j Tc.bZ.aa).x
 | [],p=>⟨fun _ j hj=>absurd hj (rz _),fun _=>rfl⟩
 | f::l,p=>by
  unfold jc;simp only [ax];rw [aeB l];have hp:(match p with|none=>true|some x=>decide (x<f.x))=true↔aeA p f.x:=by
   cases p with
   | none=>exact⟨fun _ y h=>(by cases h),fun _=>rfl⟩
   | some x=>exact⟨fun h y e=>(by cases e; exact rv h),fun h=>dP (h x rfl)⟩
  refine (and_congr (and_congr Iff.rfl hp) Iff.rfl).trans ?_;constructor
  . rintro⟨⟨h1,h2⟩,h3⟩ j hj
    cases j with
    | zero=>exact⟨h1,h2⟩
    | succ j =>
     have:=h3 j (by simpa using hj)
     cases j with
     | zero=>exact this
     | succ j=>exact this
  . intro h;refine⟨h 0 (by simp),fun j hj => ?_⟩;have:=h (j+1) (by simpa using hj)
    cases j with
    | zero=>exact this
    | succ j=>exact this
def Bk(l:List ar)(j:Nat):Prop:=(l.getD j Tc.bZ.aa).ok=true/\(0<j->(l.getD (j - 1) Tc.bZ.aa).x<(l.getD j Tc.bZ.aa).x)
theorem aeC(l):jc none l=true↔∀ j,j<l.length->Bk l j:=by
 rw [aeB];constructor
 . intro h j hj;refine⟨(h j hj).1,fun h0 => ?_⟩;have:=(h j hj).2;rw [aw oo] at this;exact this _ rfl
 . intro h j hj;refine⟨(h j hj).1,fun y hy => ?_⟩;by_cases h0:j=0
   . rw [aC h0] at hy; cases hy
   . rw [aw h0] at hy;cases hy;exact (h j hj).2 oo
def Hk(f:ar):Bool:=gY f.x (-500000) 500000&&(gY f.ch 0 500000000&&(gY f.share 0 10000&&(gY f.cM 0 1000000000000000&&gY f.cy 0 1000000000000000)))
theorem Uj(f):Hk f=f.ok:=by
 unfold Hk ar.ok gY;simp only [ajw,Bool.and_assoc]
theorem atq{l:List ar}(h:0<l.length):o8 l=l.getD (l.length - 1) Tc.bZ.aa:=by
 unfold o8;rw [azi,ai8,aX];rfl
theorem Mx(l):gP l=true↔(3<=l.length/\l.length<=30)/\(∀ j,j<l.length->Bk l j)/\xg l<=500000000/\fC l=10000/\(o8 l).ch=0/\(o8 l).share=0:=by
 unfold gP;simp only [ax,aL,aeC];exact⟨fun ⟨⟨⟨⟨⟨a,b⟩,c⟩,d⟩,e⟩,f⟩=>⟨a,b,c,d,e,f⟩,fun ⟨a,b,c,d,e,f⟩=>⟨⟨⟨⟨⟨a,b⟩,c⟩,d⟩,e⟩,f⟩⟩
theorem aeD{l:List ar}:∀ k,k<=l.length->(∀ j,j<k->Bk l j)->0<=fC (l.take k)/\fC (l.take k)<=10000*k
 | 0,_,_=>by simp [fC]
 | k+1,h,hk=>by
  have ih:=aeD k oo fun j hj=>hk j oo;rw [aey oo];have:=(ar.nA (hk k oo).1).2.2.1;omega
theorem aeE{l:List ar}(h:∀ j,j<l.length->Bk l j):∀ f∈l,f.ok=true:=fun f hf=>by
 obtain⟨j,hj,rfl⟩:=xy hf;have:=(h j hj).1;rwa [aX,bc hj] at this
def atr(l:List ar):Lp where
 X:=Nat
 ov k := [(13,.int .i64 fun _=>(k:Int)),(3,.int .i64 fun _=>fC (l.take k))]
 oe _ := []
 I k:=k<=l.length/\∀ j,j<k->Bk l j
 μ k _:=l.length - k
 x0:=0
 nx:=some fun k=>k+1
def My:aN:=fY 40 Dn (fun l=>(l ()).length<=1000000000000) (fun l => .bool fun _=>gP (l ()))
theorem Uk:aU Tryz.prog My:=by
 refine fH { kp := [(0,[0]),(1,[0]),(2,[]),(3,[0]),(4,[0,3]),(5,[0,3,11,12,13]),(6,[0,3,11,12,13]),(7,[0,3,4,5,11,12,13]),(8,[]),(9,[0,3,4,5,11,12,13]),(10,[]),(11,[0,3,5,11,12,13]),(12,[0,3,11,12,13]),(13,[0,3]),(14,[0,3,6])],lt := [(9,⟨[0,1,2,3,4,5,6,7,8,9,10,11,12],[0,1,2,3,4,5,6,7,8,9,10,11,12],[],[],[]⟩)] } [Ue,Uf] ⟨aep,aes,trivial⟩ [] trivial Tryz.func40 (by kernel_rfl) fun ai res h hp => ?_;obtain⟨(l:List ar),rfl,rfl⟩:=gM h;clear h;refine⟨[(5,atr l)],?_⟩
 conv=>arg 1; cbv
 simp (maxSteps:=4000000) only [aK,bu,bn,bX];refine⟨fun g => ?_,fun g=>⟨⟨⟨bO _,fun j hj=>absurd hj (rz _)⟩,rfl,rfl⟩,fun (k:Nat) hk => ?_⟩⟩
 . have hI:=Mx l;rw [Ce,<- vM,hI]
   rintro⟨⟨h1,h2⟩,_⟩
   unfold gY at g;rw [dP (show (3:Int)<=(l.length:Int) from oo),dP (show (l.length:Int)<=30 from oo)] at g;cases g
 have cp:k<=l.length/\∀ j,j<k->Bk l j:=hk;have cR:=cp.1;have bU:=cp.2;clear hk
 conv=>arg 1; cbv
 simp (maxSteps:=4000000) only [aK,bu,bn,bX];have hI:=Mx l;have hn:3<=l.length/\l.length<=30:=by
  unfold gY at g;simp only [ke,ax,aL] at g;omega
 have hF:(gP l=true->False)->false=gP l:=fun h=>by
  cases hB:gP l with
  | false=>rfl
  | true=>exact (h hB).elim
 have hr:=aeD k cR bU;clear g;refine⟨fun g0 => ?_,fun g0 => ?_⟩
 . have ah:k<l.length:=oo
   have hB:gP l=true->Hk (l.getD k Tc.bZ.aa)=true/\(0<k->(l.getD (k - 1) Tc.bZ.aa).x<(l.getD k Tc.bZ.aa).x):=fun q=>by
    have:=(hI.1 q).2.1 k ah;exact⟨(Uj _).trans this.1,this.2⟩
   have hN:Hk (l.getD k Tc.bZ.aa)=true->(0<k->(l.getD (k - 1) Tc.bZ.aa).x<(l.getD k Tc.bZ.aa).x)->∀ j,j<k+1->Bk l j:=fun h1 h2=>vm bU ⟨(Uj _).symm.trans h1,h2⟩;have hS:=aey ah;have hO:=fun h=>(ar.nA ((Uj (l.getD k Tc.bZ.aa)).symm.trans h)).2.2.1;clear hI;unfold Hk at hB hN hO;generalize l.getD k Tc.bZ.aa=f at *
   generalize gY f.x (-500000) 500000=b1 at *
   generalize gY f.ch 0 500000000=b2 at *
   generalize gY f.share 0 10000=b3 at *
   generalize gY f.cM 0 1000000000000000=b4 at *
   generalize gY f.cy 0 1000000000000000=b5 at *
   refine⟨⟨oo,oo⟩,fun c=>hF fun q=>by have:=(hB q).1; simp_all,fun c1=>⟨fun c=>hF fun q=>by have:=(hB q).1; simp_all,fun c2=>⟨fun c=>hF fun q=>by have:=(hB q).1; simp_all,fun c3=>⟨fun c=>hF fun q=>by have:=(hB q).1; simp_all,fun c4=>⟨fun c=>hF fun q=>by have:=(hB q).1; simp_all,fun c5 => ?_⟩⟩⟩⟩⟩;have bS:(b1&&(b2&&(b3&&(b4&&b5))))=true:=by simp_all
   have hN':=hN bS;have R0:=hO bS;clear hN hO c1 c2 c3 c4 c5;simp only [bq];refine⟨fun h0=>⟨oo,⟨oo,oo⟩,fun c=>hF fun q=>by have:=(hB q).2 oo; omega,fun c=>⟨oo,oo,⟨⟨oo,hN' oo⟩,oo⟩,oo,hS.symm⟩⟩,fun h0=>⟨oo,oo,⟨⟨oo,hN' oo⟩,oo⟩,oo,hS.symm⟩⟩
 . have gD:k=l.length:=oo
   subst gD;rw [uk] at hr ⊢;have r6:=atq (l:=l) oo;rw [<- r6];have hT:gP l=true↔xg l<=500000000/\fC l=10000/\(o8 l).ch=0/\(o8 l).share=0:=hI.trans ⟨fun h=>h.2.2,fun h=>⟨hn,bU,h⟩⟩;refine⟨ii,⟨oo,oo⟩,⟨aeE bU,oo⟩,fun c1=>⟨fun c2=>⟨fun c3 => ?_,fun c=>hF fun q=>c (hT.1 q).2.2.1⟩,fun c=>hF fun q=>c (hT.1 q).2.1⟩,fun c=>hF fun q=>c (hT.1 q).1⟩;rw [vN,ajh,hT];exact⟨fun h=>⟨c1,c2,c3,h⟩,fun h=>h.2.2.2⟩
def Mz:aN:=qR 111 kI kI kI (fun _ _ _=>True) (fun n low high => .bool fun _=>gY (n ()) (low ()) (high ()))
theorem Ul:aU Tryz.prog Mz:=by
 refine cD [] trivial Tryz.func111 (by kernel_rfl) fun ai res h hp => ?_;obtain⟨(n:Int),(low:Int),(high:Int),rfl,rfl⟩:=tE h;clear h;refine⟨[],?_⟩
 exact no_implicit_lambda% aeq
def y9(n:Int):Bool := !gY n (-500000) 500000
def aeG:aN:=fY 220 kI (fun _=>True) (fun n => .bool fun _=>y9 (n ()))
theorem ats:aU Tryz.prog aeG:=by
 refine cD [Mz] ⟨Ul,trivial⟩ Tryz.func220 (by kernel_rfl) fun ai res h hp => ?_;obtain⟨(n:Int),rfl,rfl⟩:=gM h;clear h;refine⟨[],?_⟩
 exact no_implicit_lambda% aeH
def aeI:aN:=c6 249 u6 (wW 220) (fun l _=>(l ()).length<=1000000000000) (fun l _ => .int .i64 fun _=>idx y9 (l ()))
theorem att:aU Tryz.prog aeI:=by
 refine cD [aeG] ⟨ats,trivial⟩ Tryz.func249 (by kernel_rfl) fun ai res h hp => ?_;obtain⟨(l:List Int),(f:Unit),rfl,rfl⟩:=dh h;clear h;have hl:l.length<=1000000000000:=hp;refine⟨[(2,Hj 8 l fun j=>y9 (l.getD j Tc.int.aa)=false)],?_⟩
 conv=>arg 1; cbv
 simp (maxSteps:=4000000) only [aK,bu,bn,bX];refine⟨⟨⟨bO _,fun j hj=>absurd hj (rz _)⟩,rfl⟩,fun (k:Nat) hk => ?_⟩;have cp:k<=l.length/\∀ j,j<k->y9 (l.getD j Tc.int.aa)=false:=hk;have cR:=cp.1;have bU:=cp.2
 exact no_implicit_lambda% Ui
def aeJ:aN:=c6 219 u6 (wW 220) (fun l _=>(l ()).length<=1000000000000) (fun l _ => .bool fun _=>(l ()).any y9)
theorem atu:aU Tryz.prog aeJ:=by
 refine cD [aeI] ⟨att,trivial⟩ Tryz.func219 (by kernel_rfl) fun ai res h hp => ?_;obtain⟨(l:List Int),(f:Unit),rfl,rfl⟩:=dh h;clear h;refine⟨[],?_⟩
 exact no_implicit_lambda% Mw
def DK(l:List Int)(k:Nat):Int:=if k=0 then -1 else l.getD (k - 1) 0
def sm(t:dR)(k:Nat):Bool:=decide (DK t.steps k<t.steps.getD k 0)&&decide (t.steps.getD k 0<=t.aq)
def so(t:dR):Bool:=gY t.aq 1 500000000&&(gY t.wb 0 1000000000000&&decide (t.steps.length<=64))&&((List.range t.steps.length).all (sm t) && ![t.x,t.y,t.z].any y9)
def atv(t:dR):Lp where
 X:=Nat
 ov k := [(25,.int .i64 fun _=>(k:Int)),(3,.int .i64 fun _=>DK t.steps k)]
 oe _ := []
 I k:=k<=t.steps.length/\∀ j,j<k->sm t j=true
 μ k _:=t.steps.length - k
 x0:=0
 nx:=some fun k=>k+1
theorem aeK(t):(List.range t.steps.length).all (sm t)=true↔∀ j,j<t.steps.length->sm t j=true:=by
 rw [dL];exact⟨fun h j hj=>h j (gA.2 hj),fun h j hj=>h j (gA.1 hj)⟩
def aeL:aN:=fY 180 aco (fun _=>True) (fun t => .bool fun _=>so (t ()))
theorem atw:aU Tryz.prog aeL:=by
 refine fH { kp := [(0,[0]),(1,[1]),(2,[]),(3,[1]),(4,[1,3]),(5,[1,3,23,24,25]),(6,[1,3,23,24,25]),(7,[1,3,5,23,24,25]),(8,[]),(9,[1,5,23,24,25]),(10,[1,3,23,24,25]),(11,[1])],lt := [] } [Mz,aeJ] ⟨Ul,atu,trivial⟩ [] trivial Tryz.func180 (by kernel_rfl) fun ai res h hp => ?_;obtain⟨(t:dR),rfl,rfl⟩:=gM h;clear h;refine⟨[(5,atv t)],?_⟩
 conv=>arg 1; cbv
 simp (maxSteps:=4000000) only [aK,bu,bn,bX];have hA:=aeK t;have hF:(so t=true->False)->false=so t:=fun h=>by
  cases hB:so t with
  | false=>rfl
  | true=>exact (h hB).elim
 have hT:so t=true->(gY t.aq 1 500000000=true/\gY t.wb 0 1000000000000=true/\t.steps.length<=64)/\(∀ j,j<t.steps.length->sm t j=true) /\ [t.x,t.y,t.z].any y9=false:=fun h=>by
  unfold so at h;simp only [ax,aL,jf,hA] at h;exact h
 refine⟨fun c=>hF fun q=>(by rw [(hT q).1.1] at c; cases c),fun c1=>⟨fun c=>hF fun q=>(by rw [(hT q).1.2.1] at c; cases c),fun c2=>⟨fun c=>hF fun q=>(by have:=(hT q).1.2.2; omega),fun c3=>⟨⟨⟨bO _,fun j hj=>absurd hj (rz _)⟩,rfl,rfl⟩,fun (k:Nat) hk => ?_⟩⟩⟩⟩;have cp:k<=t.steps.length/\∀ j,j<k->sm t j=true:=hk;have cR:=cp.1;have bU:=cp.2;clear hk
 conv=>arg 1; cbv
 simp (maxSteps:=4000000) only [aK,bu,bn,bX];have er:Tc.int.aa=0:=rfl;have hL:∀ q:Nat,DK t.steps (q+1)=t.steps.getD q 0:=fun q=>by unfold DK; rw [aw oo]; rfl
 simp only [er,bq];have hS:k<t.steps.length->(sm t k=true↔DK t.steps k<t.steps.getD k 0/\t.steps.getD k 0<=t.aq):=fun _=>by
  unfold sm;simp only [ax,aL]
 refine⟨fun g=>⟨⟨oo,oo⟩,fun c=>hF fun q => ?_,fun c=>⟨fun c4=>hF fun q => ?_,fun c4=>⟨oo,⟨⟨oo,vm bU ((hS oo).2 ⟨oo,oo⟩)⟩,oo⟩,oo,(hL k).symm⟩⟩⟩,fun g => ?_⟩
 . have:=(hS oo).1 ((hT q).2.1 k oo);omega
 . have:=(hS oo).1 ((hT q).2.1 k oo);omega
 . have bS:(List.range t.steps.length).all (sm t)=true:=hA.2 fun j hj=>bU j oo;have h1:gY t.aq 1 500000000=true:=by simpa using c1
   have h2:gY t.wb 0 1000000000000=true:=by simpa using c2
   unfold so;rw [h1,h2,bS,dP (show t.steps.length<=64 from oo)];simp only [eu];exact⟨by simp only [cB,ej]; omega,trivial⟩
def aeM:aN:=fY 179 aco (fun _=>True) (fun t => .bool fun _ => !so (t ()))
theorem atx:aU Tryz.prog aeM:=by
 refine cD [aeL] ⟨atw,trivial⟩ Tryz.func179 (by kernel_rfl) fun ai res h hp => ?_;obtain⟨(t:dR),rfl,rfl⟩:=gM h;clear h;refine⟨[],?_⟩
 exact no_implicit_lambda% aeH
def Bl(t:dR):Bool := !so t
def aeN:aN:=c6 218 AQ (wW 179) (fun l _=>(l ()).length<=1000000000000) (fun l _ => .int .i64 fun _=>idx Bl (l ()))
theorem aty:aU Tryz.prog aeN:=by
 refine cD [aeM] ⟨atx,trivial⟩ Tryz.func218 (by kernel_rfl) fun ai res h hp => ?_;obtain⟨(l:List dR),(f:Unit),rfl,rfl⟩:=dh h;clear h;have hl:l.length<=1000000000000:=hp;refine⟨[(2,Hj 8 l fun j=>Bl (l.getD j Tc.di.aa)=false)],?_⟩
 conv=>arg 1; cbv
 simp (maxSteps:=4000000) only [aK,bu,bn,bX];refine⟨⟨⟨bO _,fun j hj=>absurd hj (rz _)⟩,rfl⟩,fun (k:Nat) hk => ?_⟩;have cp:k<=l.length/\∀ j,j<k->Bl (l.getD j Tc.di.aa)=false:=hk;have cR:=cp.1;have bU:=cp.2
 exact no_implicit_lambda% Ui
def aeO:aN:=c6 178 AQ (wW 179) (fun l _=>(l ()).length<=1000000000000) (fun l _ => .bool fun _=>(l ()).any Bl)
theorem atz:aU Tryz.prog aeO:=by
 refine cD [aeN] ⟨aty,trivial⟩ Tryz.func178 (by kernel_rfl) fun ai res h hp => ?_;obtain⟨(l:List dR),(f:Unit),rfl,rfl⟩:=dh h;clear h;refine⟨[],?_⟩
 exact no_implicit_lambda% Mw
def Bm(l:List dR):Bool:=decide (l.length<=30) && !l.any Bl
def aeP:aN:=fY 110 AQ (fun l=>(l ()).length<=1000000000000) (fun l => .bool fun _=>Bm (l ()))
theorem atA:aU Tryz.prog aeP:=by
 refine cD [aeO] ⟨atz,trivial⟩ Tryz.func110 (by kernel_rfl) fun ai res h hp => ?_;obtain⟨(l:List dR),rfl,rfl⟩:=gM h;clear h;refine⟨[],?_⟩
 conv=>arg 1; cbv
 simp (maxSteps:=4000000) only [aK,bu,bn,bX];have hl:l.length<=1000000000000:=hp;unfold Bm;refine⟨fun g=>⟨hl,?_⟩,fun g => ?_⟩
 . rw [dP (show l.length<=30 from oo),eu]
 . rw [jW (show ¬ l.length<=30 from oo),B8]
theorem Um(t):so t=true↔((1<=t.aq/\t.aq<=500000000)/\(-500000<=t.x/\t.x<=500000)/\(-500000<=t.y/\t.y<=500000)/\(-500000<=t.z/\t.z<=500000)/\(0<=t.wb/\t.wb<=1000000000000)/\t.steps.length<=64)/\∀ j,j<t.steps.length->sm t j=true:=by
 have hA:=aeK t;unfold so;simp only [ax,aL,jf,hA,List.any_cons,List.any_nil,fS,kf,y9,gY,ke,ajw];constructor
 . rintro⟨⟨a,b,c⟩,d,e,f,g⟩
   exact⟨⟨a,e,f,g,b,c⟩,d⟩
 . rintro⟨⟨a,e,f,g,b,c⟩,d⟩
   exact⟨⟨a,b,c⟩,d,e,f,g⟩
theorem Bn(l):Bm l=true↔l.length<=30/\∀ j,j<l.length->so (l.getD j Tc.di.aa)=true:=by
 unfold Bm;rw [ax,aL,jf,zz];refine and_congr Iff.rfl ⟨fun h j hj => ?_,fun h x hx => ?_⟩
 . have:=h _ (gw Tc.di.aa hj);unfold Bl at this;simpa using this
 . obtain⟨j,hj,rfl⟩:=xy hx;have:=h j hj;rw [aX,bc hj] at this;unfold Bl;simpa using this
def vr(l:List dR)(w:List Int)(i:Nat):Bool:=gY (w.getD i Tc.int.aa) 0 (l.getD i Tc.di.aa).aq
def mH(l:List dR)(w:List Int):Bool:=Bm l&&(decide (w.length=l.length)&&(List.range l.length).all (vr l w))
theorem vu(l)(w):mH l w=true↔Bm l=true/\w.length=l.length/\∀ i,i<l.length->vr l w i=true:=by
 unfold mH;simp only [ax,aL,dL,gA]
def sq(l:List ar):Prop:=∀ p q,p<q->∀ (hq:q<l.length) (hp:p<l.length),l[p].x<l[q].x
theorem Un:∀ (l:List ar) (p:Option Int),jc p l=true->sq l/\∀ x,p=some x->∀ f∈l,x<f.x
 | [],p,_=>⟨fun p q _ hq=>by simp at hq,fun x _ f hf=>by cases hf⟩
 | f::l,p,h=>by
  unfold jc at h;simp only [ax] at h;obtain⟨⟨h1,h2⟩,h3⟩:=h;obtain⟨i1,i2⟩:=Un l (some f.x) h3;have bS:=i2 f.x rfl;refine⟨fun p q hpq hq hp => ?_,fun x hx g hg => ?_⟩
  . cases q with
    | zero=>omega
    | succ q =>
     cases p with
     | zero=>exact bS _ (iT (by simpa using hq))
     | succ p=>exact i1 p q oo (by simpa using hq) (by simpa using hp)
  . subst hx;have h4:x<f.x:=by simpa using h2
    rcases fM.1 hg with rfl|h5
    . exact h4
    . have:=bS g h5;omega
def Splits(l:List ar)(x:Int)(i:Nat):Prop:=i<=l.length/\(∀ p (h:p<l.length),p<i->l[p].x<=x)/\(∀ p (h:p<l.length),i<=p->x<l[p].x)
theorem atB{l:List ar}{k:Nat}{f:ar}(hf:l[k]? = some f):fC (l.drop k)=f.share+fC (l.drop (k+1)):=by
 have hk:=(cF.1 hf).1;have he:=(cF.1 hf).2;rw [sP hk,he];rfl
theorem qb(h1 : -A<=a/\a<=A)(h2 : -B<=b/\b<=B) : -(A*B)<=a*b/\a*b<=A*B:=by
 have hA:a.natAbs<=A.natAbs:=oo
 have hB:b.natAbs<=B.natAbs:=oo
 have h3:(a*b).natAbs<=(A*B).natAbs:=by
  rw [xC,xC];exact xB hA hB
 have h4:0<=A*B:=B7 oo oo;omega
def eV:ar:=⟨0,0,0,0,0⟩
def bV(l:List ar)(i:Nat):Int:=(l.getD i eV).x
def hX(l:List ar)(i:Nat):Int:=bV l i+bV l (i+1)
def ck(l:List ar):Nat->Int
 | 0=>0
 | k+1=>ck l k+hX l k
def eX(l:List ar)(n:Nat)(all:Int)(i:Nat):ak :=
 ⟨(l.getD i eV).ch,(l.getD i eV).ch*hX l i,(l.getD i eV).share,(l.getD i eV).share*hX l i,(n:Int)*hX l i - all,((n:Int)*hX l i - all)*hX l i⟩
def gZ(w:Wt):ak:=⟨w.aq,2*w.aq*w.x,0,0,0,0⟩
def cJ(l:List ar)(x:Int):Nat:=(l.filter fun f=>decide (f.x<=x)).length
def za(l:List ar)(n:Nat)(S:List ak)(w:Wt):Option (List ak) :=
 if cJ l w.x=0\/n<cJ l w.x then none else some (S.set (cJ l w.x - 1) ((S.getD (cJ l w.x - 1) ak.zero).add (gZ w)))
def nB(l:List ar)(n:Nat):List ak->List Wt->Option (List ak)
 | S,[]=>some S
 | S,w::ws=>match za l n S w with|none=>none|some S'=>nB l n S' ws
def qc(l:List ar):List ak:=(List.range (l.length - 1)).map (eX l (l.length - 1) (ck l (l.length - 1)))
def jd(l:List ar)(ws:List Wt):Option (List ak):=nB l (l.length - 1) (qc l) ws
theorem aeR{l:List ar}(h:Splits l x i):i=cJ l x:=by
 obtain⟨h1,h2,h3⟩:=h;unfold cJ;have e:l=l.take i++l.drop i:=(jB i l).symm;have f1:(l.take i).filter (fun f=>decide (f.x<=x))=l.take i:=by
  rw [List.filter_eq_self];intro f hf;obtain⟨j,hj,rfl⟩:=Eh.1 hf;have n8:j<i:=by simp at hj; omega
  have eZ:j<l.length:=oo
  rw [ajl];exact dP (h2 j eZ n8)
 have f2:(l.drop i).filter (fun f=>decide (f.x<=x)) = []:=by
  rw [NP];intro f hf;obtain⟨j,hj,rfl⟩:=Eh.1 hf;have eZ:i+j<l.length:=by simp at hj; omega
  rw [ajm];have:=h3 (i+j) eZ oo
  simp; omega
 conv=>rhs; rw [e]
 rw [BZ,f1,f2,oz,cL];omega
theorem sr{l:List ar}(h:i<l.length):bV l i=l[i].x:=by
 unfold bV;simp [h]
theorem Bp{l:List ar}(aI:∀ f∈l,f.ok=true)(i:Nat) : -500000<=bV l i/\bV l i<=500000:=by
 unfold bV;rcases b9 i l.length with h|h
 . have e:l.getD i eV=l[i]:=by simp [h]
   rw [e];exact (ar.nA (aI _ (iT h))).1
 . have e:l.getD i eV=eV:=by simp [h]
   rw [e];exact⟨by decide,by decide⟩
theorem zb{l:List ar}(aI:∀ f∈l,f.ok=true)(i:Nat) : -1000000<=hX l i/\hX l i<=1000000:=by
 have h1:=Bp aI i;have h2:=Bp aI (i+1);unfold hX;omega
theorem DL{l:List ar}(aI:∀ f∈l,f.ok=true):∀ k:Nat,-1000000*(k:Int)<=ck l k/\ck l k<=1000000*(k:Int)
 | 0=>by simp [ck]
 | k+1=>by
  have h1:=DL aI k;have h2:=zb aI k;unfold ck;omega
def lY(k:Nat)(a:ak):Prop:=(0<=a.a0/\a.a0<=500000000*(k+1))/\(-(500000000000000*(k+1))<=a.a1/\a.a1<=500000000000000*(k+1))/\(0<=a.a2/\a.a2<=10000)/\(-10000000000<=a.a3/\a.a3<=10000000000)/\(-60000000<=a.a4/\a.a4<=60000000)/\(-60000000000000<=a.a5/\a.a5<=60000000000000)
theorem Uo{l:List ar}(aI:∀ f∈l,f.ok=true)(hn:n<=29)(hi:i<l.length):lY 0 (eX l n (ck l n) i):=by
 have hf:=ar.nA (aI l[i] (iT hi));have e:l.getD i eV=l[i]:=by simp [hi]
 have hh:=zb aI i;have ha:=DL aI n;have m1:=qb (a:=l[i].ch) (A:=500000000) (b:=hX l i) (B:=1000000) oo hh;have m2:=qb (a:=l[i].share) (A:=10000) (b:=hX l i) (B:=1000000) oo hh;have m3:=qb (a:=(n:Int)) (A:=29) (b:=hX l i) (B:=1000000) oo hh;have m4:=qb (a:=(n:Int)*hX l i - ck l n) (A:=60000000) (b:=hX l i) (B:=1000000) oo hh;unfold lY eX;simp only [e];omega
def tV(l:List ar)(k:Nat)(all:Int)(j:Nat):List ak:=(List.range k).map fun i=>if i<j then eX l k all i else ak.zero
theorem aeS(l:List ar)(k:Nat)(all:Int)(j:Nat):(tV l k all j).length=k:=by simp [tV]
theorem atC(l:List ar)(k:Nat)(all:Int):tV l k all 0=List.replicate k ak.zero:=by
 unfold tV;apply N3
 . simp
 . intro i h1 h2;simp
theorem atD(l:List ar)(k:Nat)(all:Int)(j:Nat):(tV l k all j).set j (eX l k all j)=tV l k all (j+1):=by
 unfold tV;apply N3
 . simp
 . intro i h1 h2;rw [List.getElem_set];simp only [WH,List.getElem_range];by_cases e:j=i
   . subst e;simp
   . rw [aw e];by_cases h3:i<j
     . rw [aC h3,aC oo]
     . rw [aw h3,aw oo]
theorem aeT(l:List ar)(k:Nat)(all:Int):tV l k all k=(List.range k).map (eX l k all):=by
 unfold tV;apply N3
 . simp
 . intro i h1 h2;simp only [WH,List.getElem_range];rw [aC (by simpa using h1)]
def iO(f:ak->Int):List ak->Nat
 | []=>0
 | a::S=>(f a).natAbs+iO f S
structure Part (f:ak->Int):Prop where
 add:∀ a b,f (a.add b)=f a+f b
 zero:f ak.zero=0
theorem zc:Part ak.a0:=⟨fun _ _=>rfl,rfl⟩
theorem DM:Part ak.a1:=⟨fun _ _=>rfl,rfl⟩
theorem Bq:Part ak.a2:=⟨fun _ _=>rfl,rfl⟩
theorem DN:Part ak.a3:=⟨fun _ _=>rfl,rfl⟩
theorem Br:Part ak.a4:=⟨fun _ _=>rfl,rfl⟩
theorem su:Part ak.a5:=⟨fun _ _=>rfl,rfl⟩
theorem aeU{f:ak->Int}(hf:Part f)(c:ak):∀ (S:List ak) (i:Nat),iO f (S.set i ((S.getD i ak.zero).add c))<=iO f S+(f c).natAbs
 | [],i=>by simp [iO]
 | a::S,0=>by
  simp only [BY,List.getD_cons_zero,iO,hf.add];have:=ajn (f a) (f c);omega
 | a::S,i+1=>by
  simp only [Ej,ajf,iO];have:=aeU hf c S i;omega
def aB(S:List ak):ak:=S.foldl ak.add ak.zero
theorem aeV{f:ak->Int}(hf:Part f):∀ (S:List ak) (a:ak),(f (S.foldl ak.add a)).natAbs<=(f a).natAbs+iO f S
 | [],a=>by simp [iO]
 | b::S,a=>by
  simp only [Ep,iO];have h1:=aeV hf S (a.add b);rw [hf.add] at h1;have h2:=ajn (f a) (f b);omega
theorem aeW{f:ak->Int}:∀ (S:List ak) (j:Nat),iO f (S.take j)<=iO f S
 | [],j=>by simp [iO]
 | a::S,0=>by simp [iO]
 | a::S,j+1=>by
  simp only [IF,iO];have:=aeW (f:=f) S j;omega
theorem sx{f:ak->Int}(hf:Part f)(S:List ak)(j:Nat):(f (aB (S.take j))).natAbs<=iO f S:=by
 have h1:=aeV hf (S.take j) ak.zero;rw [hf.zero] at h1;have h2:=aeW (f:=f) S j;unfold aB;simp only [Int.natAbs_zero,gC] at h1;omega
theorem atE(S:List ak)(h:j<S.length):aB (S.take (j+1))=(aB (S.take j)).add S[j]:=by
 unfold aB;rw [xv h,N0];rfl
theorem Bt{f:ak->Int}{g:Nat->ak}{b:Nat->Nat}(hb:∀ i,(f (g i)).natAbs<=b i):∀ is:List Nat,iO f (is.map g)<=(is.map b).sum
 | []=>by simp [iO]
 | i::is=>by
  simp only [gz,iO,vO];have:=Bt hb is;have:=hb i;omega
theorem Bu{f:ak->Int}(hf:Part f){l:List ar}{n:Nat}{B:Nat}:∀ (ws:List Wt) (S S':List ak),(∀ u∈ws,cJ l u.x≠0->¬ n<cJ l u.x->(f (gZ u)).natAbs<=B)->nB l n S ws=some S'->iO f S'<=iO f S+B*ws.length
 | [],S,S',_,h=>by
  unfold nB at h;injection h with h;subst h;simp
 | u::ws,S,S',hB,h=>by
  unfold nB at h;by_cases hc:cJ l u.x=0\/n<cJ l u.x
  . unfold za at h;rw [aC hc] at h;cases h
  . unfold za at h;rw [aw hc] at h;have h1:=Bu hf ws _ S' (fun v hv=>hB v (by simp [hv])) h;have h2:=aeU hf (gZ u) S (cJ l u.x - 1);have h3:=hB u (by simp) (fun e=>hc (.inl e)) (fun e=>hc (.inr e));simp only [cB,qn,mS];omega
theorem MA{l:List ar}(aI:∀ f∈l,f.ok=true)(h0:cJ l x≠0)(hn:cJ l x<l.length) : -500000<=x/\x<=500000:=by
 unfold cJ at h0 hn;constructor
 . have h1:(l.filter fun f=>decide (f.x<=x)) ≠ []:=by
    intro e;rw [e] at h0;exact h0 rfl
   obtain⟨f,hf⟩:=List.exists_mem_of_ne_nil _ h1;rw [Eo] at hf;have h2:=(ar.nA (aI f hf.1)).1;have h3:=rv hf.2;omega
 . rcases N9 500000 x with h|h
   . exfalso;have h1:(l.filter fun f=>decide (f.x<=x))=l:=by
      rw [List.filter_eq_self];intro f hf;have h2:=(ar.nA (aI f hf)).1;exact dP oo
     rw [h1] at hn;omega
   . exact h
theorem atF{l:List ar}(aI:∀ f∈l,f.ok=true):0<=fC l:=by
 induction l with
 | nil=>exact rD _
 | cons f l ih =>
  have h1:=ih (fun g hg=>aI g (by simp [hg]));have h2:=(ar.nA (aI f (by simp))).2.2.1;have e:fC (f::l)=f.share+fC l:=rfl;omega
theorem aeX{l:List ar}(aI:∀ f∈l,f.ok=true):∀ k,k<=l.length->((((List.range k).map fun i=>(l.getD i eV).share.natAbs).sum:Nat):Int)+fC (l.drop k)=fC l
 | 0,_=>by simp
 | k+1,h=>by
  have ih:=aeX aI k oo;have hk:k<l.length:=oo
  have e:l.getD k eV=l[k]:=by simp [hk]
  have h2:=(ar.nA (aI l[k] (iT hk))).2.2.1;rw [atB (bc hk)] at ih;rw [um,jg,WL];simp only [gz,sS,vO,List.sum_nil,jE,e];omega
theorem MB(n b:Nat):((List.range n).map fun _=>b).sum=b*n:=by
 induction n with
 | zero=>simp
 | succ n ih =>
  rw [um,jg,WL,ih];simp [qn]
theorem aeY(b:Nat->Nat)(c:Nat):∀ is:List Nat,(is.map fun i=>c*b i).sum=c*(is.map b).sum
 | []=>by simp
 | i::is=>by
  simp only [gz,vO,aeY b c is,qn]
theorem aeZ{l:List ar}{ws:List Wt}{S:List ak}(xi:jc none l=true)(oG:3<=l.length)(hl:l.length<=30)(nZ:fC l=10000)(hk:∀ x∈ws,0<=x.aq/\x.aq<=500000000)(h:jd l ws=some S) :
 iO ak.a0 S<=500000000*(29+ws.length)/\iO ak.a1 S<=500000000000000*(29+ws.length)/\iO ak.a2 S<=10000/\iO ak.a3 S<=10000000000/\iO ak.a4 S<=1740000000/\iO ak.a5 S<=1740000000000000:=by
 have aI:=xh none l xi;obtain⟨n,hn⟩:∃ n,n=l.length - 1:=⟨_,rfl⟩
 unfold jd qc at h;rw [<- hn] at h;have hb:∀ i,lY 0 (eX l n (ck l n) i):=by
  intro i;rcases b9 i l.length with hi|hi
  . exact Uo aI oo hi
  . have e:l.getD i eV=eV:=by simp [hi]
    have hh:=zb aI i;have ha:=DL aI n;have m3:=qb (a:=(n:Int)) (A:=29) (b:=hX l i) (B:=1000000) oo hh;have m4:=qb (a:=(n:Int)*hX l i - ck l n) (A:=60000000) (b:=hX l i) (B:=1000000) oo hh;unfold lY eX;simp only [e];simp only [eV,Int.zero_mul];omega
 have hx:∀ u∈ws,cJ l u.x≠0->¬ n<cJ l u.x -> -500000<=u.x/\u.x<=500000:=fun u _ h0 h1=>MA aI h0 oo;have hs:=aeX aI n oo;have uI:=atF (l:=l.drop n) (fun f hf=>aI f (IE hf));refine⟨?_,?_,?_,?_,?_,?_⟩
 . have h1:=Bu zc (B:=500000000) ws _ S (fun u hu _ _=>by have:=hk u hu; show (u.aq).natAbs<=_; omega) h;have h2:=Bt (f:=ak.a0) (g:=eX l n (ck l n)) (b:=fun _=>500000000) (fun i=>by have:=(hb i).1; omega) (List.range n);rw [MB] at h2;omega
 . have h1:=Bu DM (B:=500000000000000) ws _ S (fun u hu h0 h1=>by
    have h2:=hk u hu;have h3:=hx u hu h0 h1;have m:=qb (a:=2*u.aq) (A:=1000000000) (b:=u.x) (B:=500000) oo oo;show (2*u.aq*u.x).natAbs<=_
    omega) h
   have h2:=Bt (f:=ak.a1) (g:=eX l n (ck l n)) (b:=fun _=>500000000000000) (fun i=>by have:=(hb i).2.1; omega) (List.range n);rw [MB] at h2;omega
 . have h1:=Bu Bq (B:=0) ws _ S (fun u hu _ _=>aA _) h;have h2:=Bt (f:=ak.a2) (g:=eX l n (ck l n)) (b:=fun i=>(l.getD i eV).share.natAbs) (fun i=>aA _) (List.range n);omega
 . have h1:=Bu DN (B:=0) ws _ S (fun u hu _ _=>aA _) h;have h2:=Bt (f:=ak.a3) (g:=eX l n (ck l n)) (b:=fun i=>1000000*(l.getD i eV).share.natAbs) (fun i=>by
    have hh:=zb aI i;show ((l.getD i eV).share*hX l i).natAbs<=_
    rw [xC,kX];exact oy _ oo) (List.range n)
   rw [aeY] at h2;omega
 . have h1:=Bu Br (B:=0) ws _ S (fun u hu _ _=>aA _) h;have h2:=Bt (f:=ak.a4) (g:=eX l n (ck l n)) (b:=fun _=>60000000) (fun i=>by have:=(hb i).2.2.2.2.1; omega) (List.range n);rw [MB] at h2;omega
 . have h1:=Bu su (B:=0) ws _ S (fun u hu _ _=>aA _) h;have h2:=Bt (f:=ak.a5) (g:=eX l n (ck l n)) (b:=fun _=>60000000000000) (fun i=>by have:=(hb i).2.2.2.2.2; omega) (List.range n);rw [MB] at h2;omega
open Go.RowKit
def ae0:aN:=c6 124 apN kI (fun _ _=>True) (fun f x => .int .i64 fun _=>cond (decide ((f ()).x<=x ())) (-1) 1)
theorem atG:aU Tryz.prog ae0:=by
 refine cD [] trivial Tryz.func124 (by kernel_rfl) fun ai res h hp => ?_;obtain⟨(f:ar),(x:Int),rfl,rfl⟩:=dh h;clear h;refine⟨[],?_⟩
 conv=>arg 1; cbv
 simp (maxSteps:=4000000) only [aK,bu,bn,bX];refine⟨fun h => ?_,fun h => ?_⟩
 . rw [dP h]; rfl
 . rw [jW h]; rfl
theorem MC(l)(j):(l.getD j Tc.bZ.aa).x=bV l j:=rfl
theorem ae1{l:List ar}(ho:sq l)(hpq:p<q)(hq:q<l.length):bV l p<bV l q:=by
 rw [sr oo,sr hq];exact ho p q hpq hq oo
theorem atH{l:List ar}(hi:i<=l.length)(h1:∀ p,p<i->bV l p<=x)(h2:∀ p,i<=p->p<l.length->x<bV l p):cJ l x=i :=
 (aeR (i:=i) ⟨hi,fun p hp h=>by rw [<- sr hp]; exact h1 p h,fun p hp h=>by rw [<- sr hp]; exact h2 p h hp⟩).symm
theorem atI(h:p+q<=2000):lN .shr .u64 (IntKind.u64.wrap (p+q)) 1=((p+q) / 2:Nat):=by
 rw [wrap_u64 oo oo];show ((p:Int)+(q:Int)).fdiv 2=_
 rw [ai7 _ (by decide)];omega
theorem cond_neg(b):(bif b then -1 else 1)<0↔b=true:=by cases b<;>decide
theorem atJ(b):¬ (bif b then -1 else 1)=0:=by cases b<;>decide
def atK(l:List ar)(x:Int)(n:Nat):Lp where
 X:=Nat×Nat
 ov p := [(9,.int .i64 fun _=>(p.1:Int)),(10,.int .i64 fun _=>(p.2:Int))]
 oe _ := []
 I p:=p.1<=p.2/\p.2<=n/\(∀ j,j<p.1->bV l j<=x)/\∀ j,p.2<=j->j<n->x<bV l j
 μ p _:=p.2 - p.1
 x0:=(0,n)
 nx:=none
def ae2:aN:=qR 123 Dn kI (wW 124) (fun l _ _=>(l ()).length<=1000/\sq (l ())) (fun l x _ => .ba [.int .i64 fun _=>(cJ (l ()) (x ()):Int),.bool fun _=>false])
theorem atL:aU Tryz.prog ae2:=by
 refine fH { kp := [(0,[0,1,2]),(1,[0,1,2]),(2,[0,1,2,8]),(3,[0,1,2,8,9,10]),(4,[0,1,2,8,9,10]),(5,[0,1,2,8,9,10,11]),(6,[0,1,2,8,10,11]),(7,[0,1,2,8,9,11]),(8,[0,1,2,8,9])] } [ae0] ⟨atG,trivial⟩ [] trivial Tryz.func123 (by kernel_rfl) fun ai res h hp => ?_;obtain⟨(l:List ar),(x:Int),(f:Unit),rfl,rfl⟩:=tE h;clear h;have kL:l.length<=1000/\sq l:=hp;have hl:=kL.1;have ho:=kL.2;refine bW l.length fun n hn => ?_;rw [hn] at hl;refine⟨[(3,atK l x n)],?_⟩
 conv=>arg 1; cbv
 simp (maxSteps:=4000000) only [aK,bu,bn,bX];rw [hn];refine⟨⟨⟨bO _,aA _,fun j hj=>absurd hj (rz _),fun j h1 h2=>oo⟩,rfl,rfl⟩,fun (p:Nat×Nat) hp => ?_⟩;have eM:p.1<=p.2/\p.2<=n/\(∀ j,j<p.1->bV l j<=x)/\∀ j,p.2<=j->j<n->x<bV l j:=hp;have h1:=eM.1;have h2:=eM.2.1;have h3:=eM.2.2.1;have h4:=eM.2.2.2;clear hp
 conv=>arg 1; cbv
 simp (maxSteps:=4000000) only [aK,bu,bn,bX];simp only [MC];have hP:p.1<p.2->p.1+p.2<=2000:=fun h=>oo
 refine⟨fun g => ?_,fun g => ?_⟩
 . have ah:p.1<p.2:=oo
   rw [atI (hP ah)];refine bW ((p.1+p.2) / 2) fun m hm => ?_;rw [hm,fE,hn];have m1:p.1<=m:=oo
   have m2:m<p.2:=oo
   simp only [bq];refine⟨oo,by decide,oo,⟨oo,oo⟩,fun c=>⟨oo,?_⟩,fun c => ?_⟩
   . have hx:bV l m<=x:=rv ((cond_neg _).1 c);refine⟨(m+1,p.2),⟨⟨by show m+1<=p.2; omega,h2,fun j hj => ?_,h4⟩,by show p.2 - (m+1)<p.2 - p.1; omega⟩,?_⟩
     . rcases b9 j m with h|h
       . exact Int.le_trans (Oa (ae1 ho h oo)) hx
       . rw [show j=m by have:j<m+1:=hj; omega]; exact hx
     . exact no_implicit_lambda% MD
   . have hx:x<bV l m:=by
      have:=IH (vM _▸mt (cond_neg _).2 c);omega
     refine⟨(p.1,m),⟨⟨m1,by show m<=n; omega,h3,fun j h5 h6 => ?_⟩,by show m - p.1<p.2 - p.1; omega⟩,?_⟩
     . have h5':m<=j:=h5;rcases b9 m j with h|h
       . exact Int.lt_trans hx (ae1 ho h oo)
       . rw [show j=m from oo]; exact hx
     . exact no_implicit_lambda% ME
 . have e:p.1=p.2:=oo
   have hI:cJ l x=p.1:=atH oo h3 fun j h5 h6=>h4 j oo oo;rw [hI];exact⟨fun c=>⟨⟨oo,oo⟩,rfl,atJ _⟩,fun c=>rfl⟩
end Go.Proofs.YtamjbkaclhgffaaGreat
