/-
  Arguments of more kinds are read.
-/
import Derived.Test.YtlpikgchnjajmaaGreatTp16
set_option linter.all false
set_option maxRecDepth 100000
set_option maxHeartbeats 4000000
namespace Go.Proofs.YtlpikgchnjajmaaGreat
open Go.RowKit
variable{s:ByteArray}{B T g i k:Nat}{w:World}{b:aJ}
def an0:List Sg := [.int .i64,.int .i64,.int .i64,.int .i64,.int .i64]
def AV.R1:AV->Option (Unit->cX)
 | .agg [a0,a1,a2,a3,a4]=>a0.dD.bind fun a0=>a1.dD.bind fun a1=>a2.dD.bind fun a2=>a3.dD.bind fun a3=>a4.dD.bind fun a4=>some fun _=>⟨a0 (),a1 (),a2 (),a3 (),a4 ()⟩
 | _=>none
theorem AV.an1{x:AV}{b:Unit->cX}(h:x.R1=some b):x = .agg (aO false .bE b):=by
 unfold AV.R1 at h;split at h
 . simp only [lK,bI] at h;obtain⟨a0,h0,a1,h1,a2,h2,a3,h3,a4,h4,rfl⟩:=h;rw [AV.dX h0,AV.dX h1,AV.dX h2,AV.dX h3,AV.dX h4];rfl
 . cases h
abbrev F9:Kd:=⟨cX,.agg an0,fun b => .agg (aO false .bE b),AV.R1,AV.an1⟩
def an2:List Sg := [.int .i64,.int .i64,.int .i64,.int .i64,.int .i64,.sl .int]
def AV.R2:AV->Option (Unit->bX)
 | .agg [a0,a1,a2,a3,a4,a5]=>a0.dD.bind fun a0=>a1.dD.bind fun a1=>a2.dD.bind fun a2=>a3.dD.bind fun a3=>a4.dD.bind fun a4=>a5.CK.bind fun a5=>some fun _=>⟨a0 (),a1 (),a2 (),a3 (),a4 (),a5 ()⟩
 | _=>none
theorem AV.an3{x:AV}{b:Unit->bX}(h:x.R2=some b):x = .agg (aO false .bD b):=by
 unfold AV.R2 at h;split at h
 . simp only [lK,bI] at h;obtain⟨a0,h0,a1,h1,a2,h2,a3,h3,a4,h4,a5,h5,rfl⟩:=h;rw [AV.dX h0,AV.dX h1,AV.dX h2,AV.dX h3,AV.dX h4,AV.K9 h5];rfl
 . cases h
abbrev abf:Kd:=⟨bX,.agg an2,fun b => .agg (aO false .bD b),AV.R2,AV.an3⟩
def AV.R3:AV->Option (Unit->List j8)
 | .sl false .ij l=>some l
 | _=>none
theorem AV.an4{x:AV}{n:Unit->List j8}(h:x.R3=some n):x = .sl false .ij n:=by
 unfold AV.R3 at h;exact EA
abbrev an5:Kd:=⟨List j8,.sl .ij,fun n => .sl false .ij n,AV.R3,AV.an4⟩
structure p6 where
 cG:List iT
 cQ:Int
 bO:List iU
 ow:List j8
 fill:List Int
 t:Int
 l:Int
 b:Int
 lf:Int
def qR(x:Unit->p6):List AV := [.sl false .fc fun _=>(x ()).cG,.int .u32 fun _=>(x ()).cQ,.sl false .fO fun _=>(x ()).bO,.sl false .ij fun _=>(x ()).ow,.sl false .u8 fun _=>(x ()).fill,.int .u16 fun _=>(x ()).t,.int .u16 fun _=>(x ()).l,.int .u16 fun _=>(x ()).b,.int .i16 fun _=>(x ()).lf]
def AV.R4:AV->Option (Unit->p6)
 | .agg [.sl false .fc a,.int .u32 b,.sl false .fO c,.sl false .ij d,.sl false .u8 e,.int .u16 f,.int .u16 g,.int .u16 h,.int .i16 i]=>some fun _=>⟨a (),b (),c (),d (),e (),f (),g (),h (),i ()⟩
 | _=>none
theorem AV.an6{x:AV}{n:Unit->p6}(h:x.R4=some n):x = .agg (qR n):=by
 unfold AV.R4 at h;exact EA
def abg:List Sg := [.sl .fc,.int .u32,.sl .fO,.sl .ij,.sl .u8,.int .u16,.int .u16,.int .u16,.int .i16]
abbrev abh:Kd:=⟨p6,.agg abg,fun n => .agg (qR n),AV.R4,AV.an6⟩
theorem Ga{P:Program}{fn:Func}{p t:Tmp}{cs:List Value}(h:fn.results = #[.cell p T,.tmp t])(tmps:Array Value)(hp:tmps.getD p undef = .pointer (some ⟨g,0,none⟩))(hl:(loadVar T ⟨g,0,none⟩).run P w = .ok (.agg cs.toArray) w) :
 (results fn tmps).run P w = .ok (.tuple #[.agg cs.toArray,tmps.getD t undef]) w:=by
 have cf:tmps[p]?.getD undef = .pointer (some ⟨g,0,none⟩):=by simpa using hp
 simp [results,h,cf,asAddr,hl]
theorem Rd.addr{size:Nat}{A:Option Addr}{css:List (List Value)}(h:Rd w B size A css)(h0:0<css.length):∃ b off,A=some ⟨b,off,none⟩:=by
 obtain⟨b,off,e,_⟩:=h 0 css[0] (bp h0);exact⟨b,off,e⟩
def AE(n:Int):List Value := [.int .u8 n]
def l8(size:Int):List Int:=if size=40 then [0] else if size=20 then [1,2] else []
def Lc{α:Type}[DecidableEq α](x : α)(l:List α):Int:=idx (fun y=>decide (x=y)) l
theorem an7(A:Option Addr)(c:Nat)(l:List Int)(n:Nat)(hn:n=l.length)(x:Int)(w:World)(hA:Rd w w.heap.size 1 A (l.map AE))(hl:l.length<=1000000000000) :
 Calls Tryz.prog 339 #[.slice A n c,.int .u8 x] w fun e w'=>e = .returned (.int .i64 (Lc x l))/\w'=w:=by
 have HN:=aX hn;have HR:=aX hA;have uG:n<=1000000000000:=oo
 clear hA hn hl
 go_enter Tryz.func339,Tryz.ntmps339
 go_wp2
 go_loopw [5,8] (fun _ i wr=>∃ k:Nat,k<=n/\i = .int .i64 k/\(∀ j,(h:j<k)->(h2:j<l.length)->decide (x=l[j])=false)/\wr=w) (fun _ i _=>n - (intOf i).toNat)
 case atStart=>exact⟨0,oo,rfl,oo,rfl⟩
 case round =>
  obtain⟨k,hk,rfl,hj,rfl⟩:=hrel;have HJ:=aX hj;clear hj;by_cases cT:k=n
  . have aj:¬ (k:Int)<(n:Int):=oo
    have HI:Hid (Lc x l = -1):=NG (fun j h=>HJ.out j (by have:=HN.out; omega) h);clear cT hk
    go_wp2
    go_ret
    exact⟨by rw [HI.out]; rfl,rfl⟩
  . have aj:(k:Int)<(n:Int):=oo
    have lO:k<l.length:=by have:=HN.out; omega
    obtain⟨b,off,rfl⟩:=Rd.addr HR.out (by rw [iQ]; omega);obtain⟨y,hy⟩:∃ y,y=l[k]:=⟨_,rfl⟩
    have HL:=aX (Rd.cell (P:=Tryz.prog) HR.out (cA _ _) ct5 (k:=k) (cs:=AE y) (by rw [hy]; exact Oc AE l k lO) (j:=0) (v := .int .u8 y) rfl (p:=off+k) oo);by_cases mP:x=y
    . have HI:Hid (Lc x l=k):=NF lO (fun j h=>HJ.out j h oo) (by rw [<- hy]; exact c8 mP);have hb:(x==y)=true:=by simpa using mP
      clear cT hk hy mP
      go_wp2_with ((with_reducible refine qp 5 ?_); refine oM rfl _ _ rfl _ rfl _ HL.out ?_)
      go_ret
      exact⟨by rw [HI.out]; rfl,rfl⟩
    . have HJ2:Hid (∀ j,(h:j<k+1)->(h2:j<l.length)->decide (x=l[j])=false):=by
       intro j h h2;rcases cw j k with h3|h3
       . exact HJ.out j h3 h2
       . obtain rfl:j=k:=oo
         rw [<- hy];exact gw mP
      have hb:(x==y)=false:=by simpa using mP
      clear HJ hy mP
      go_wp2_with ((with_reducible refine qp 5 ?_); refine oM rfl _ _ rfl _ rfl _ HL.out ?_)
      go_roundw
      case rel=>exact⟨k+1,oo,by go_num,HJ2.out,trivial⟩
      case measure=>simp [intOf]; omega
theorem an9(A:Option Addr)(c:Nat)(l:List Int)(n:Nat)(hn:n=l.length)(x:Int)(w:World)(hA:Rd w w.heap.size 1 A (l.map AE))(hl:l.length<=1000000000000) :
 Calls Tryz.prog 308 #[.slice A n c,.int .u8 x] w fun e w'=>e = .returned (.bool (l.any fun y=>decide (x=y)))/\w'=w:=by
 have HI:=aX (an7 A c l n hn x w hA hl);rw [Wh];unfold Lc at HI;generalize idx (fun y=>decide (x=y)) l=z at HI ⊢;clear hA hn hl
 go_enter Tryz.func308,Tryz.ntmps308
 go_wp2_with (go_at_call 339; refine (HI.out).mono ?_; rintro e w2 ⟨rfl,rfl⟩)
 go_ret
 exact⟨by first|rfl|simp,rfl⟩
def wW(a b:Int):Bool:=decide (a=b)||(decide (a=0)||decide (b=0))
def kK(a b:Slot):Bool:=decide (a.ax=b.ax)&&(decide (a.aF=b.aF)&&wW a.half b.half)
def AF(x:Slot)(l:List Slot)(h:Int):Bool:=l.any fun y=>decide ((⟨x.ax,x.aF - 1,h⟩:Slot)=y)
def wX(x:Slot)(l:List Slot):Bool:=if x.aF<=0 then true else AF x l x.half||(decide (x.half=0)&&(AF x l 1&&AF x l 2))
def tj(b:Int):Bool:=decide (65<=b)&&decide (b<=90)
def Le(b:Int):Bool:=b==85||b==74||b==90
def qS(b:Int):Bool:=decide (48<=b)&&decide (b<=57)
def Gb(i:Nat)(b:Int):Bool:=if i<3 then tj b else if i=3 then Le b else qS b
def pc(s:ByteArray)(i:Nat):Int:=((s.data[i]?.map fun c=>(c.toNat:Int)).getD 0)
def u3(s:ByteArray)(i:Nat):Bool:=decide (i<11)&&Gb i (pc s i)
def AG(s:ByteArray):Bool:=decide (∀ i,i<s.size->u3 s i=true)
def nv(b:Int):Int:=if qS b then b - 48 else if tj b then 10+(b - 65)+(b - 65+9) / 10 else 0
def AH(b:Int):Bool:=qS b||tj b
def qT(s:ByteArray):Nat->Int
 | 0=>0
 | n+1=>qT s n+nv (pc s n)*2^n
theorem Gc(h:i<s.size):pc s i=(s[i].toNat:Int):=by
 unfold pc;have:s.data[i]? = some s[i]:=pA h;rw [this];rfl
theorem abi(s:ByteArray)(i:Nat):0<=pc s i/\pc s i<=255:=by
 unfold pc
 cases s.data[i]? with
 | none=>simp
 | some c=>have:=c.toNat_lt; simp; omega
theorem R5{b:Int}(_h0:0<=b)(h:b<=255):0<=nv b/\nv b<=38:=by
 unfold nv qS tj;split
 . rename_i hd;simp at hd;omega
 . split
   . rename_i hl;simp at hl;omega
   . omega
theorem aoa(b:Int)(w:World)(h0:0<=b)(h1:b<=255) :
 Calls Tryz.prog 353 #[.int .u8 b] w fun e w'=>e = .returned (.tuple #[.int .i64 (nv b),.bool (AH b)])/\w=w':=by
 by_cases hd:48<=b/\b<=57
 . obtain⟨d1,d2⟩:=hd;have e:nv b=b - 48:=by unfold nv qS; simp [d1,d2]
   have e2:AH b=true:=by unfold AH qS; simp [d1,d2]
   have E:=aX e;have E2:=aX e2;clear e e2
   exact Gd
 . by_cases hl:65<=b/\b<=90
   . obtain⟨d1,d2⟩:=hl;have e:nv b=10+(b - 65)+(b - 65+9) / 10:=by
      unfold nv qS tj;rw [ar (by simp; omega),aw (by simp; omega)]
     have e2:AH b=true:=by unfold AH qS tj; simp [d1,d2]
     have E:=aX e;have E2:=aX e2;clear e e2 hd;have hd:decide (b<=57)=false:=by simp; omega
     exact Gd
   . have e:nv b=0:=by
      unfold nv qS tj;rw [ar (by simp; omega),ar (by simp; omega)]
     have e2:AH b=false:=by unfold AH qS tj; simp; omega
     have E:=aX e;have E2:=aX e2;clear e e2;rcases Nw b 48 with h48|h48
     . clear hd hl
       exact Gd
     . have h57:57<b:=oo
       rcases Nw b 65 with h65|h65
       . clear hd hl
         exact Gd
       . have h90:90<b:=oo
         clear hd hl
         exact Gd
theorem aod(b:Int)(w:World)(h0:0<=b)(h1:b<=255):Calls Tryz.prog 354 #[.int .u8 b] w fun e w'=>e = .returned (.bool (tj b))/\w=w':=by
 have HL:Hid (tj b=(decide (65<=b)&&decide (b<=90))):=rfl
 go_enter Tryz.func354,Tryz.ntmps354
 rcases Nw b 65 with h|h
 . have hd:decide (65<=b)=false:=by simp; omega
   have HD:=aX hd
   exact Ge
 . have hd:decide (65<=b)=true:=by simp; omega
   have HD:=aX hd
   exact Ge
theorem aoe(b:Int)(w:World)(h0:0<=b)(h1:b<=255):Calls Tryz.prog 356 #[.int .u8 b] w fun e w'=>e = .returned (.bool (qS b))/\w=w':=by
 have HL:Hid (qS b=(decide (48<=b)&&decide (b<=57))):=rfl
 go_enter Tryz.func356,Tryz.ntmps356
 rcases Nw b 48 with h|h
 . have hd:decide (48<=b)=false:=by simp; omega
   have HD:=aX hd
   exact Ge
 . have hd:decide (48<=b)=true:=by simp; omega
   have HD:=aX hd
   exact Ge
theorem aof(b:Int)(w:World)(h0:0<=b)(h1:b<=255):Calls Tryz.prog 355 #[.int .u8 b] w fun e w'=>e = .returned (.bool (Le b))/\w=w':=by
 have HL:Hid (Le b=((b==85||b==74)||b==90)):=rfl
 go_enter Tryz.func355,Tryz.ntmps355
 cases ha:(b==85) with
 | true =>
  have HD:=aX ha
  exact Ge
 | false =>
  have HD:=aX ha
  cases hb:(b==74) with
  | true =>
   have HB:=aX hb
   go_wp2
   go_ret
   exact⟨by rw [HL.out,HD.out,HB.out]; rfl,rfl⟩
  | false =>
   have HB:=aX hb
   go_wp2
   go_ret
   exact⟨by rw [HL.out,HD.out,HB.out]; rfl,rfl⟩
def u4:List Value := [.func (.func 354) #[] #[],.func (.func 354) #[] #[],.func (.func 354) #[] #[],.func (.func 355) #[] #[],.func (.func 356) #[] #[],.func (.func 356) #[] #[],.func (.func 356) #[] #[],.func (.func 356) #[] #[],.func (.func 356) #[] #[],.func (.func 356) #[] #[],.func (.func 356) #[] #[]]
theorem abj:∀ u∈u4,u.oneCell'=true:=by simp [u4,Value.oneCell']
theorem aog(w:World):Calls Tryz.prog 352 #[] w fun e w'=>e = .returned (.agg u4.toArray)/\Below w.heap.size w w':=by
 go_enter Tryz.func352,Tryz.ntmps352
 go_wp2_with (refine NC rfl _ _ rfl rfl rfl (n:=11) (cs:=u4) (by kernel_rfl) rfl rfl (ry w _) (by simp) abj ?_; intro m6 w2 hl hs hg gj)
 have uh:m6=u4.toArray:=by
  apply xx;rw [hl];rfl
 subst uh;refine bodyPost_ret (v := .agg u4.toArray) (results_cell_row rfl _ w2 w.heap.size _ _ _ _ rfl hg Tryz.underlying431 rfl (by kernel_rfl)) rfl ⟨rfl,?_⟩;exact ((cA _ _).alloc (az _) _).grown gj (by simp) (fun k hk=>by injection hk with hk; omega)
theorem R6(w:World)(args:Array Value):(callFunc 354 args).run Tryz.prog w = .ok (.enter 354 args) w:=by go_simp
theorem aoh(w:World)(args:Array Value):(callFunc 355 args).run Tryz.prog w = .ok (.enter 355 args) w:=by go_simp
theorem aoi(w:World)(args:Array Value):(callFunc 356 args).run Tryz.prog w = .ok (.enter 356 args) w:=by go_simp
theorem aoj(k:Nat)(h:k<11):∃ f,u4[k]? = some (.func (.func f) #[] #[])/\(∀ w args,(callFunc f args).run Tryz.prog w = .ok (.enter f args) w) /\
 ∀ (b:Int) (w:World),0<=b->b<=255->Calls Tryz.prog f #[.int .u8 b] w fun e w'=>e = .returned (.bool (Gb k b))/\Below w.heap.size w w':=by
 have hk:k=0\/k=1\/k=2\/k=3\/k=4\/k=5\/k=6\/k=7\/k=8\/k=9\/k=10:=oo
 have c1:∀ (b:Int) (w:World),0<=b->b<=255->Calls Tryz.prog 354 #[.int .u8 b] w fun e w'=>e = .returned (.bool (tj b))/\Below w.heap.size w w':=fun b w h0 h1=>(aod b w h0 h1).mono fun e w' ⟨he,hw⟩=>⟨he,hw▸cA _ _⟩
 have c2:∀ (b:Int) (w:World),0<=b->b<=255->Calls Tryz.prog 355 #[.int .u8 b] w fun e w'=>e = .returned (.bool (Le b))/\Below w.heap.size w w':=fun b w h0 h1=>(aof b w h0 h1).mono fun e w' ⟨he,hw⟩=>⟨he,hw▸cA _ _⟩
 have c3:∀ (b:Int) (w:World),0<=b->b<=255->Calls Tryz.prog 356 #[.int .u8 b] w fun e w'=>e = .returned (.bool (qS b))/\Below w.heap.size w w':=fun b w h0 h1=>(aoe b w h0 h1).mono fun e w' ⟨he,hw⟩=>⟨he,hw▸cA _ _⟩
 rcases hk with rfl|rfl|rfl|rfl|rfl|rfl|rfl|rfl|rfl|rfl|rfl
 . exact⟨_,rfl,R6,c1⟩
 . exact⟨_,rfl,R6,c1⟩
 . exact⟨_,rfl,R6,c1⟩
 . exact⟨_,rfl,aoh,c2⟩
 all_goals exact⟨_,rfl,aoi,c3⟩
theorem aok(h:k<s.size):u3 s k=(decide (k<11)&&Gb k (s[k].toNat:Int)):=by
 unfold u3;rw [Gc h]
set_option maxHeartbeats 1000000 in
theorem abk(s:ByteArray)(w:World)(hs:s.size<=140737488351232) :
 Calls Tryz.prog 348 #[.string s] w fun e w'=>e = .returned (.bool (AG s))/\Below w.heap.size w w':=by
 have qw:(∀ i,i<s.size->u3 s i=true)->AG s=true:=fun h=>by unfold AG; simp; exact h
 have uo:∀ i,i<s.size->u3 s i=false->AG s=false:=fun i h h2=>by
  unfold AG;rw [fR];intro cr;rw [cr i h] at h2;cases h2
 have HFB:=aX qw;have HFN:=aX uo;clear qw uo
 go_enter Tryz.func348,Tryz.ntmps348
 go_wp2_with (first
  | (go_at_call 352; refine (aog _).mono ?_; rintro e w1 ⟨rfl,cN⟩)
  | (refine NC rfl _ _ rfl rfl rfl (n:=11) (cs:=u4) (by kernel_rfl) rfl rfl (ry w1 _) (by simp) abj ?_; intro m6 w2 hl zP hg gj))
 have uh:m6=u4.toArray:=by
  apply xx;rw [hl];rfl
 subst uh;have fu:Below w.heap.size w w2:=(cN.alloc cN.size _).grown gj (by simp; have:=cN.size; omega) (fun k hk=>by injection hk with hk; have:=cN.size; omega);have EC:w1.heap.size<w2.heap.size:=(jz.1 hg).1;have du:∀ w',cU w2 w'->∀ i v,u4[i]? = some v->w'.cell? ⟨w1.heap.size,i,none⟩=some v:=fun w' hb i v hv=>by
  rw [zt w' w1.heap.size i _ _ _ ((hb.block _ EC).trans hg)];simpa using hv
 have HC:=aX du;have Lf:=aX fu;clear hl zP hg gj du fu
 go_loopw [4,8] (fun _ i wr=>∃ k:Nat,k<=s.size/\i = .int .i64 k/\(∀ j,j<k->u3 s j=true)/\cU w2 wr) (fun _ i _=>s.size - (intOf i).toNat)
 case atStart=>exact⟨0,oo,rfl,oo,cA _ _⟩
 case round =>
  obtain⟨k,hk,rfl,hj,hb⟩:=hrel;have HJ:=aX hj;clear hj;by_cases aj:k<s.size
  . have bS:=aok aj;have Lg:=aX bS;clear bS;by_cases qQ:k<11
    . have hd:decide ((11:Int)<=(k:Int))=false:=by simp; omega
      obtain⟨f,hmf,oP,s7⟩:=aoj k qQ;have hle:u3 s k=Gb k (s[k].toNat:Int):=by rw [Lg.out]; simp [qQ]
      have AI:=aX hle;have wY:=aX (fun w' hb=>HC.out w' hb k _ hmf);have aom:=aX s7;have td:(s[k].toNat:Int)<=255:=by have:=s[k].toNat_lt; omega
      clear hle hmf s7
      go_wp2
      refine Ie (by kernel_rfl) (by kernel_rfl) wr.heap.size ?_
      repeat (first|go_big_quiet_skip|(go_big_quiet_want; refine ND _ _ rfl _ rfl _ (fun w' hC=>Bw Tryz.underlying407 rfl (wY.out w' (hb.trans (hC.mono hb.size)))) ?_; simp only [Act.put,ahe,Nj,HU]; go_big_quiet_on)|go_big_quiet_step (first|(intro hC; rfl)|(intro hC; exact⟨rfl,rfl⟩)|(intro hC; refine (aom.out _ _ oo td).mono ?_; rintro e w' ⟨rfl,nV⟩; exact⟨rfl,hC.trans (nV.mono hC.size)⟩)))
      refine wpQuiet_nil ?_;intro w' hC
      cases hm:Gb k (s[k].toNat:Int) with
      | true =>
       have Gf:u3 s k=true:=by rw [AI.out,hm]
       have aon:=aX Gf;clear Gf
       go_wp2
       go_roundw
       case rel =>
        refine⟨k+1,oo,by go_num,fun j h => ?_,hb.trans (hC.mono hb.size)⟩;rcases cw j k with h3|h3
        . exact HJ.out j h3
        . obtain rfl:j=k:=oo
          exact aon.out
       case measure=>simp [intOf]; omega
      | false =>
       have Gf:u3 s k=false:=by rw [AI.out,hm]
       have abn:=aX (HFN.out k aj Gf);clear Gf
       exact abo
    . have ox:u3 s k=false:=by rw [Lg.out]; simp [qQ]
      have abn:=aX (HFN.out k aj ox);clear ox;have hd:decide ((11:Int)<=(k:Int))=true:=by simp; omega
      go_wp2
      refine Ie (by kernel_rfl) (by kernel_rfl) wr.heap.size ?_
      repeat (first|go_big_quiet_skip|go_big_quiet_step (first|(intro hC; rfl)|(intro hC; exact⟨rfl,rfl⟩)))
      refine wpQuiet_nil ?_;intro w' hC
      exact abo
  . obtain rfl:k=s.size:=oo
    have HF:=aX (HFB.out HJ.out)
    go_wp2
    go_ret
    exact⟨by rw [HF.out]; rfl,Lf.out.trans (hb.mono Lf.out.size)⟩
theorem R7(s:ByteArray):∀ n,0<=qT s n/\qT s n<=38*(2^n - 1)
 | 0=>by simp [qT]
 | n+1=>by
  have ih:=R7 s n;have hb:=abi s n;have hv:=R5 hb.1 hb.2;have hp:(0:Int)<2^n:=Int.pow_pos oo;have h1:nv (pc s n)*2^n<=38*2^n:=tS hv.2 oo;have h0:0<=nv (pc s n)*2^n:=DL hv.1 oo;have e:(2:Int)^(n+1)=2*2^n:=by rw [Int.pow_succ]; omega
  unfold qT;rw [e];omega
def Lh(s:ByteArray):Int:=48+qT s s.size % 11 % 10
theorem aoo(h:k<10):(1:Int)<=2^k/\(2:Int)^k<=512:=by
 have hk:k=0\/k=1\/k=2\/k=3\/k=4\/k=5\/k=6\/k=7\/k=8\/k=9:=oo
 rcases hk with rfl|rfl|rfl|rfl|rfl|rfl|rfl|rfl|rfl|rfl<;>decide
theorem aop(h:k<s.size)(hk:k<10):wrap64 (qT s k+wrap64 (nv (s[k].toNat:Int)*2^k))=qT s (k+1):=by
 have hb:=abi s k;have hv:=R5 hb.1 hb.2;obtain⟨p1,p2⟩:=aoo hk;have hs:=R7 s k;have h1:nv (pc s k)*2^k<=38*2^k:=tS hv.2 oo;have h0:0<=nv (pc s k)*2^k:=DL hv.1 oo;rw [<- Gc h];rw [IntWalk.wrap64_in (nv (pc s k)*2^k) ⟨oo,oo⟩,IntWalk.wrap64_in _ ⟨oo,oo⟩];rfl
set_option maxHeartbeats 1000000 in
theorem aoq(s:ByteArray)(w:World)(hs:s.size<=10) :
 Calls Tryz.prog 349 #[.string s] w fun e w'=>e = .returned (.int .u8 (Lh s))/\w=w':=by
 go_enter Tryz.func349,Tryz.ntmps349
 go_wp2
 go_loop [3,9] (fun u i=>∃ k:Nat,k<=s.size/\i = .int .i64 k/\u = .int .i64 (qT s k)) (fun _ i=>s.size - (intOf i).toNat)
 case atStart=>exact⟨0,oo,rfl,rfl⟩
 case round =>
  obtain⟨k,hk,rfl,rfl⟩:=hrel;have hsb:=R7 s k;obtain⟨sb1,sb2⟩:=hsb;by_cases aj:k<s.size
  . have td:(s[k].toNat:Int)<=255:=by have:=s[k].toNat_lt; omega
    have hv:=R5 (b:=(s[k].toNat:Int)) oo td;obtain⟨v1,v2⟩:=hv
    go_wp2_with (go_at_call 353; refine (aoa _ _ oo td).mono ?_; rintro e w' ⟨rfl,rfl⟩)
    go_round
    case rel=>exact⟨k+1,oo,by go_num,by rw [aop aj oo]⟩
    case measure=>simp [intOf]; omega
  . obtain rfl:k=s.size:=oo
    go_wp2
    go_ret
    exact⟨rfl,rfl⟩
theorem aos(x y:Int):(!(x != y))=decide (x=y):=by by_cases h:x=y<;>simp [h]
def tk(s:ByteArray):Bool:=decide (s.size=11)&&AG s&&decide (48+qT s 10 % 11 % 10=pc s 10)
theorem aot(s:ByteArray)(i:Nat)(h:i<10)(hs:10<=s.size):pc (s.extract 0 10) i=pc s i:=by
 have h1:i<(s.extract 0 10).size:=by simp; omega
 rw [Gc h1,Gc oo];simp [ByteArray.getElem_extract]
theorem abp(s:ByteArray)(hs:10<=s.size):∀ n,n<=10->qT (s.extract 0 10) n=qT s n
 | 0,_=>rfl
 | n+1,h=>by
  unfold qT;rw [abp s hs n oo,aot s n oo hs]
set_option maxHeartbeats 1000000 in
theorem aou(s:ByteArray)(w:World)(hs:s.size<=140737488351232) :
 Calls Tryz.prog 337 #[.string s] w fun e w'=>∃ n,e = .returned (.int .i64 n)/\(n==0)=tk s/\Below w.heap.size w w':=by
 by_cases qQ:s.size=11
 . have aT:((s.size:Int) != 11)=false:=by simp [qQ]
   have hle:s.size<=11:=oo
   have cF:10<s.size:=oo
   have H11:=aX qQ;clear qQ
   cases hf:AG s with
   | true =>
    have hx:(s.extract 0 10).size<=10:=by simp; omega
    have qx:∀ n:Int,(n==0) = !(Lh (s.extract 0 10) != (s[10].toNat:Int))->(n==0)=tk s:=by
     intro n hn;rw [hn];unfold tk Lh;have e1:(s.extract 0 10).size=10:=by simp; omega
     rw [e1,abp s oo 10 oo,Gc (s:=s) (i:=10) oo,hf,c8 H11.out];rw [aos];simp
    have HR:=aX qx;clear qx;have hix:∀ w,(Instr.index 9 (.string s) (.int .i64 10)).run Tryz.prog w = .ok (.int .u8 (s[10].toNat:Int)) w:=fun w=>by
     simp [Instr.index,asIntOf,ql Tryz.underlying9,cF]
    go_enter Tryz.func337,Tryz.ntmps337
    go_wp2_with (go_at_call 348; refine (abk s _ hs).mono ?_; rintro e w1 ⟨rfl,cN⟩)
    refine Ie (by kernel_rfl) (by kernel_rfl) w1.heap.size ?_
    repeat (first|go_big_quiet_skip|go_big_quiet_step (first|(intro hC; rfl)|(intro hC; exact⟨rfl,rfl⟩)|(intro hC; refine (aoq _ _ hx).mono ?_; rintro e w' ⟨rfl,rfl⟩; exact⟨rfl,hC⟩)))
    refine wpQuiet_nil ?_;intro w' hC
    cases hq:(Lh (s.extract 0 10) != (s[10].toNat:Int)) with
    | true =>
     have HQ:=aX hq
     go_wp2
     go_ret
     exact⟨31,rfl,HR.out 31 (by rw [HQ.out]; rfl),cN.trans (hC.mono cN.size)⟩
    | false =>
     have HQ:=aX hq
     go_wp2
     go_ret
     exact⟨0,rfl,HR.out 0 (by rw [HQ.out]; rfl),cN.trans (hC.mono cN.size)⟩
   | false =>
    have HI:Hid (tk s=false):=by unfold Hid tk; rw [hf]; simp
    go_enter Tryz.func337,Tryz.ntmps337
    go_wp2_with (go_at_call 348; refine (abk s _ hs).mono ?_; rintro e w1 ⟨rfl,cN⟩)
    go_ret
    exact⟨30,rfl,by rw [HI.out]; rfl,cN⟩
 . have aT:((s.size:Int) != 11)=true:=by simp; omega
   have HI:Hid (tk s=false):=by unfold Hid tk; simp [qQ]
   go_enter Tryz.func337,Tryz.ntmps337
   go_wp2
   go_ret
   exact⟨30,rfl,by rw [HI.out]; rfl,cA _ _⟩
theorem aow(s:ByteArray)(w:World)(hs:s.size<=140737488351232) :
 Calls Tryz.prog 299 #[.string s] w fun e w'=>e = .returned (.bool (tk s))/\Below w.heap.size w w':=by
 go_enter Tryz.func299,Tryz.ntmps299
 go_wp2_with (go_at_call 337; refine (aou s _ hs).mono ?_; rintro e w' ⟨n,rfl,hn,hb⟩; have HN:=aX hn; clear hn)
 go_ret
 exact⟨by rw [<- HN.out]; rfl,hb⟩
def AJ(s:Int):Int:=if s=20 then 32000 else if s=40 then 40000 else 0
def u5(n lo hi:Int):Bool:=decide (lo<=n)&&decide (n<=hi)
def r5:ByteArray:=⟨#[]⟩
theorem aox:r5.toList = []:=by unfold r5; go_simp
def gI(b:aJ):Nat->Bool
 | 0=>u5 b.id 1 999999
 | 1=>decide (b.num=r5)||tk b.num
 | 2 => !b.high||decide (b.size=40)
 | 3=>u5 b.af 1 (AJ b.size)
 | 4=>decide (0<=b.load)&&decide (b.load<b.kz)&&decide (b.kz<20)
 | _=>decide (b.cls<=9)
def nw(b:aJ):Bool:=gI b 0&&gI b 1&&gI b 2&&gI b 3&&gI b 4&&gI b 5
theorem abq(n lo hi:Int)(w:World):Calls Tryz.prog 297 #[.int .i64 n,.int .i64 lo,.int .i64 hi] w fun e w'=>e = .returned (.bool (u5 n lo hi))/\Below w.heap.size w w':=by
 by_cases h1:lo<=n
 . go_enter Tryz.func297,Tryz.ntmps297
   have HW:Hid (u5 n lo hi=decide (n<=hi)):=by unfold Hid u5; simp [h1]
   go_wp2
   go_ret
   exact⟨by rw [HW.out]; rfl,cA _ _⟩
 . go_enter Tryz.func297,Tryz.ntmps297
   have HW:Hid (u5 n lo hi=false):=by unfold Hid u5; simp [h1]
   go_wp2
   go_ret
   exact⟨by rw [HW.out]; rfl,cA _ _⟩
theorem aoy(s:Int)(w:World):Calls Tryz.prog 302 #[.int .u8 s] w fun e w'=>e = .returned (.int .i64 (AJ s))/\Below w.heap.size w w':=by
 by_cases h1:s=20
 . subst h1
   exact abr
 . by_cases h2:s=40
   . subst h2
     exact abr
   . have HK:Hid (AJ s=0):=by unfold Hid AJ; simp [h1,h2]
     have b1:(s==20)=false:=by simp [h1]
     have b2:(s==40)=false:=by simp [h2]
     go_enter Tryz.func302,Tryz.ntmps302
     go_wp2
     go_ret
     exact⟨by rw [HK.out]; rfl,cA _ _⟩
section
variable{b:aJ}{g:Nat}{w:World}
theorem aoz(hc:∀ j u,b.cells[j]? = some u->w.cell? ⟨g,j,none⟩=some u):Calls Tryz.prog 296 #[.pointer (some ⟨g,0,none⟩)] w fun e w'=>e = .returned (.bool (gI b 0))/\Below w.heap.size w w':=by
 have c0:w.cell? ⟨g,0,none⟩=some (.int .i64 b.id):=hc 0 _ rfl;clear hc
 go_enter Tryz.func296,Tryz.ntmps296
 go_wp2_with (go_at_call 297; refine (abq _ _ _ _).mono ?_; rintro e w1 ⟨rfl,cN⟩)
 go_ret
 exact⟨rfl,cN⟩
theorem aoA(hc:∀ j u,b.cells[j]? = some u->w.cell? ⟨g,j,none⟩=some u)(hn:b.num.size<=140737488351232):Calls Tryz.prog 298 #[.pointer (some ⟨g,0,none⟩)] w fun e w'=>e = .returned (.bool (gI b 1))/\Below w.heap.size w w':=by
 have c0:w.cell? ⟨g,1,none⟩=some (.string b.num):=hc 1 _ rfl;have HR:Hid (gI b 1=(decide (b.num=r5)||tk b.num)):=rfl;clear hc;by_cases hz:b.num=r5
 . have yq:b.num=⟨#[]⟩:=hz;rw [yq] at c0;have HZ:=aX hz;clear hz yq hn
   go_enter Tryz.func298,Tryz.ntmps298
   go_wp2
   go_ret
   exact⟨by rw [HR.out,HZ.out]; rfl,cA _ _⟩
 . have hz3:¬ b.num.toList = []:=fun h=>hz (toList_eq.mp (h.trans aox.symm));have PW:b.num.toList.isEmpty=false:=by simpa using hz3
   have HE:Hid (gI b 1=tk b.num):=by unfold Hid; rw [HR.out]; simp [hz]
   clear hz
   go_enter Tryz.func298,Tryz.ntmps298
   go_wp2_with (go_at_call 299; refine (aow _ _ hn).mono ?_; rintro e w1 ⟨rfl,cN⟩)
   go_ret
   exact⟨by rw [HE.out]; rfl,cN⟩
theorem aoC(hc:∀ j u,b.cells[j]? = some u->w.cell? ⟨g,j,none⟩=some u):Calls Tryz.prog 300 #[.pointer (some ⟨g,0,none⟩)] w fun e w'=>e = .returned (.bool (gI b 2))/\Below w.heap.size w w':=by
 have c0:w.cell? ⟨g,2,none⟩=some (.int .u8 b.size):=hc 2 _ rfl;have c1:w.cell? ⟨g,3,none⟩=some (.bool b.high):=hc 3 _ rfl;have HR:Hid (gI b 2=(!b.high||decide (b.size=40))):=rfl;clear hc
 cases hh:b.high with
 | true =>
  rw [hh] at c1;have HE:Hid (gI b 2=(b.size==40)):=by unfold Hid; rw [HR.out,hh]; simp; by_cases h:b.size=40<;>simp [h]
  clear hh
  go_enter Tryz.func300,Tryz.ntmps300
  exact R8
 | false =>
  rw [hh] at c1;have HE:Hid (gI b 2=true):=by unfold Hid; rw [HR.out,hh]; simp
  clear hh
  go_enter Tryz.func300,Tryz.ntmps300
  exact R8
theorem aoD(hc:∀ j u,b.cells[j]? = some u->w.cell? ⟨g,j,none⟩=some u):Calls Tryz.prog 301 #[.pointer (some ⟨g,0,none⟩)] w fun e w'=>e = .returned (.bool (gI b 3))/\Below w.heap.size w w':=by
 have c0:w.cell? ⟨g,2,none⟩=some (.int .u8 b.size):=hc 2 _ rfl;have c1:w.cell? ⟨g,4,none⟩=some (.int .i64 b.af):=hc 4 _ rfl;have aj:g<w.heap.size:=block_lt_of_cell c0;clear hc;have HC1:Hid (∀ w',cU w w'->(loadVar 3 ⟨g,4,none⟩).run Tryz.prog w' = .ok (.int .i64 b.af) w'):=fun w' hb=>Bw Tryz.underlying3 rfl ((hb.cell (p:=⟨g,_,none⟩) Bx).trans c1);have HC2:Hid (∀ w',cU w w'->(loadVar 5 ⟨g,2,none⟩).run Tryz.prog w' = .ok (.int .u8 b.size) w'):=fun w' hb=>Bw Tryz.underlying5 rfl ((hb.cell (p:=⟨g,_,none⟩) (by simpa using aj)).trans c0);clear c0 c1
 go_enter Tryz.func301,Tryz.ntmps301
 go_wp2
 refine Ie (by kernel_rfl) (by kernel_rfl) w.heap.size ?_
 repeat (first|go_big_quiet_skip|(go_big_quiet_want; refine ND 3 _ rfl _ rfl _ (fun w' hC=>HC1.out w' hC) ?_; simp only [Act.put,ahe,Nj,HU]; go_big_quiet_on)|(go_big_quiet_want; refine ND 5 _ rfl _ rfl _ (fun w' hC=>HC2.out w' hC) ?_; simp only [Act.put,ahe,Nj,HU]; go_big_quiet_on)|go_big_quiet_step (first|(intro hC; rfl)|(intro hC; exact⟨rfl,rfl⟩)|(intro hC; (with_reducible refine (aoy _ _).mono ?_); rintro e w1 ⟨rfl,cN⟩; exact⟨rfl,hC.trans (cN.mono hC.size)⟩)|(intro hC; (with_reducible refine (abq _ _ _ _).mono ?_); rintro e w1 ⟨rfl,cN⟩; exact⟨rfl,hC.trans (cN.mono hC.size)⟩)))
 refine wpQuiet_nil ?_;intro w' hC
 go_wp2
 go_ret
 exact⟨rfl,hC⟩
theorem aoG(hc:∀ j u,b.cells[j]? = some u->w.cell? ⟨g,j,none⟩=some u):Calls Tryz.prog 303 #[.pointer (some ⟨g,0,none⟩)] w fun e w'=>e = .returned (.bool (gI b 4))/\Below w.heap.size w w':=by
 have c0:w.cell? ⟨g,5,none⟩=some (.int .i64 b.load):=hc 5 _ rfl;have c1:w.cell? ⟨g,6,none⟩=some (.int .i64 b.kz):=hc 6 _ rfl;have HR:Hid (gI b 4=(decide (0<=b.load)&&decide (b.load<b.kz)&&decide (b.kz<20))):=rfl;clear hc;by_cases h1:0<=b.load
 . by_cases h2:b.load<b.kz
   . have HE:Hid (gI b 4=decide (b.kz<20)):=by unfold Hid; rw [HR.out]; simp [h1,h2]
     exact R9
   . have HE:Hid (gI b 4=false):=by unfold Hid; rw [HR.out]; simp [h2]
     exact R9
 . have HE:Hid (gI b 4=false):=by unfold Hid; rw [HR.out]; simp [h1]
   exact R9
theorem aoH(hc:∀ j u,b.cells[j]? = some u->w.cell? ⟨g,j,none⟩=some u):Calls Tryz.prog 304 #[.pointer (some ⟨g,0,none⟩)] w fun e w'=>e = .returned (.bool (gI b 5))/\Below w.heap.size w w':=by
 have c0:w.cell? ⟨g,7,none⟩=some (.int .u8 b.cls):=hc 7 _ rfl;clear hc
 go_enter Tryz.func304,Tryz.ntmps304
 go_wp2
 go_ret
 exact⟨rfl,cA _ _⟩
theorem aoI{fn:FuncId}{dw:Array Value}{p:Bool}(oP:∀ w args,(callFunc fn args).run Tryz.prog w = .ok (.enter fn args) w)(s7:Calls Tryz.prog fn dw w fun e w'=>e = .returned (.bool p)/\Below w.heap.size w w') :
 Calls Tryz.prog 306 #[.func (.func fn) #[] dw] w fun e w'=>e = .returned (.bool (!p))/\Below w.heap.size w w':=by
 have HC:=aX s7;clear s7
 go_enter Tryz.func306,Tryz.ntmps306
 go_wp2_with (first|(refine (HC.out).mono ?_; rintro e w1 ⟨rfl,cN⟩))
 go_ret
 exact⟨rfl,cN⟩
end
def Gg:Nat->FuncId
 | 0=>296
 | 1=>298
 | 2=>300
 | 3=>301
 | 4=>303
 | _=>304
def Li(g k:Nat):Value := .func (.func (Gg k)) #[] #[.pointer (some ⟨g,0,none⟩)]
theorem aoJ(k:Nat)(w:World)(args:Array Value):(callFunc (Gg k) args).run Tryz.prog w = .ok (.enter (Gg k) args) w:=by
 unfold Gg;split<;>go_simp
theorem aoK(k:Nat)(hk:k<6)(hc:∀ j u,b.cells[j]? = some u->w.cell? ⟨g,j,none⟩=some u)(hn:b.num.size<=140737488351232) :
 Calls Tryz.prog (Gg k) #[.pointer (some ⟨g,0,none⟩)] w fun e w'=>e = .returned (.bool (gI b k))/\Below w.heap.size w w':=by
 have:k=0\/k=1\/k=2\/k=3\/k=4\/k=5:=oo
 rcases this with rfl|rfl|rfl|rfl|rfl|rfl
 . exact aoz hc
 . exact aoA hc hn
 . exact aoC hc
 . exact aoD hc
 . exact aoG hc
 . exact aoH hc
theorem aoL(h:∀ k,k<6->gI b k=true):nw b=true:=by
 unfold nw;rw [h 0 oo,h 1 oo,h 2 oo,h 3 oo,h 4 oo,h 5 oo];rfl
theorem aoM(hk:k<6)(h:gI b k=false):nw b=false:=by
 have:k=0\/k=1\/k=2\/k=3\/k=4\/k=5:=oo
 unfold nw;rcases this with rfl|rfl|rfl|rfl|rfl|rfl<;>rw [h]<;>simp
theorem aoN(w:World)(args:Array Value):(callFunc 306 args).run Tryz.prog w = .ok (.enter 306 args) w:=by
 go_simp
theorem aoO(b:aJ)(g h c:Nat)(w:World)(hn:b.num.size<=140737488351232)(hb:∀ w',cU w w'->∀ j u,b.cells[j]? = some u->w'.cell? ⟨g,j,none⟩=some u)(hr:∀ w',cU w w'->∀ k,k<6->w'.cell? ⟨h,k,none⟩=some (Li g k)) :
 Calls Tryz.prog 338 #[.slice (some ⟨h,0,none⟩) 6 c,.func (.func 306) #[] #[]] w fun e w'=>(∃ i:Int,e = .returned (.int .i64 i)/\decide (i≥0) = !nw b)/\Below w.heap.size w w':=by
 have HB:=aX hb;have HR:=aX hr;have oP:=aoN;clear hb hr
 go_enter Tryz.func338,Tryz.ntmps338
 go_wp2
 go_loopw [5,8] (fun _ i wr=>∃ k:Nat,k<=6/\i = .int .i64 k/\(∀ j,(h:j<k)->gI b j=true)/\cU w wr) (fun _ i _=>6 - (intOf i).toNat)
 case atStart=>exact⟨0,oo,rfl,oo,cA _ _⟩
 case round =>
  obtain⟨k,hk,rfl,hj,hw⟩:=hrel;have HJ:=aX hj;clear hj;by_cases aj:k<6
  . have HL:Hid ((loadVar 37 ⟨h,k,none⟩).run Tryz.prog wr = .ok (Li g k) wr):=Bw Tryz.underlying37 rfl (HR.out wr hw k aj);have HC:=aX (aoI (aoJ k) (aoK k aj (HB.out wr hw) hn))
    go_wp2_with (first
     | (refine oM rfl 37 _ rfl _ rfl _ HL.out ?_)
     | (go_at_call 306; refine (HC.out).mono ?_; rintro e w' ⟨rfl,nV⟩))
    . have hf:gI b k=false:=by
       have h9:(!gI b k)=true:=by assumption
       simpa using h9
      have HD:=aX (aoM aj hf)
      go_ret
      exact⟨⟨_,rfl,by rw [HD.out]; simp⟩,hw.trans (nV.mono hw.size)⟩
    . have ht:gI b k=true:=by
       have h9:(!gI b k)=false:=by assumption
       simpa using h9
      go_roundw
      case rel =>
       refine⟨k+1,oo,by go_num,fun j h => ?_,hw.trans (nV.mono hw.size)⟩;rcases cw j k with h3|h3
       . exact HJ.out j h3
       . obtain rfl:j=k:=oo
         exact ht
      case measure=>simp [intOf]; omega
  . obtain rfl:k=6:=oo
    have HI:=aX (aoL HJ.out)
    go_wp2
    go_ret
    exact⟨⟨_,rfl,by rw [HI.out]; rfl⟩,hw⟩
theorem aoP(b:aJ)(g h c:Nat)(w:World)(hn:b.num.size<=140737488351232)(hb:∀ w',cU w w'->∀ j u,b.cells[j]? = some u->w'.cell? ⟨g,j,none⟩=some u)(hr:∀ w',cU w w'->∀ k,k<6->w'.cell? ⟨h,k,none⟩=some (Li g k)) :
 Calls Tryz.prog 305 #[.slice (some ⟨h,0,none⟩) 6 c,.func (.func 306) #[] #[]] w fun e w'=>e = .returned (.bool (!nw b))/\Below w.heap.size w w':=by
 have HC:=aX (aoO b g h c w hn hb hr);clear hb hr
 go_enter Tryz.func305,Tryz.ntmps305
 go_wp2_with (go_at_call 338; refine (HC.out).mono ?_; rintro e w1 ⟨⟨i,rfl,hi⟩,cN⟩; have HI:=aX hi; clear hi)
 go_ret
 exact⟨by rw [<- HI.out]; rfl,cN⟩
abbrev CM(b:aJ)(w:World):World:=(w.alloc (Obj.cells #[.int .i64 b.id,.string b.num,.int .u8 b.size,.bool b.high,.int .i64 b.af,.int .i64 b.load,.int .i64 b.kz,.int .u8 b.cls,.bool b.vU] 139)).alloc (Obj.cells #[.func (.func 296) #[] #[.pointer (some ⟨w.heap.size,0,none⟩)],.func (.func 298) #[] #[.pointer (some ⟨w.heap.size,0,none⟩)],.func (.func 300) #[] #[.pointer (some ⟨w.heap.size,0,none⟩)],.func (.func 301) #[] #[.pointer (some ⟨w.heap.size,0,none⟩)],.func (.func 303) #[] #[.pointer (some ⟨w.heap.size,0,none⟩)],.func (.func 304) #[] #[.pointer (some ⟨w.heap.size,0,none⟩)]] 37)
set_option maxHeartbeats 1000000 in
theorem aoQ(b:aJ)(w:World)(hn:b.num.size<=140737488351232) :
 Calls Tryz.prog 241 #[b.val] w fun e w'=>e = .returned (.bool (nw b))/\Below w.heap.size w w':=by
 have HB:Hid (Below w.heap.size w (CM b w)/\∀ w',cU (CM b w) w'->(∀ j u,b.cells[j]? = some u->w'.cell? ⟨w.heap.size,j,none⟩=some u)/\∀ k,k<6->w'.cell? ⟨w.heap.size+1,k,none⟩=some (Li w.heap.size k)):=by
  refine⟨((cA _ _).alloc (az _) _).alloc (by simp) _,fun w' hb => ?_⟩;have hs:(CM b w).heap.size=w.heap.size+2:=ahP _ _ _;have k0:(CM b w).heap[w.heap.size]? = some (.cells #[.int .i64 b.id,.string b.num,.int .u8 b.size,.bool b.high,.int .i64 b.af,.int .i64 b.load,.int .i64 b.kz,.int .u8 b.cls,.bool b.vU] 139 (0,0)):=heap_alloc2_old w _ _;have k1:(CM b w).heap[w.heap.size+1]? = some (.cells #[.func (.func 296) #[] #[.pointer (some ⟨w.heap.size,0,none⟩)],.func (.func 298) #[] #[.pointer (some ⟨w.heap.size,0,none⟩)],.func (.func 300) #[] #[.pointer (some ⟨w.heap.size,0,none⟩)],.func (.func 301) #[] #[.pointer (some ⟨w.heap.size,0,none⟩)],.func (.func 303) #[] #[.pointer (some ⟨w.heap.size,0,none⟩)],.func (.func 304) #[] #[.pointer (some ⟨w.heap.size,0,none⟩)]] 37 (0,0)):=heap_alloc2_new w _ _;refine⟨fun j u hu => ?_,fun k hk => ?_⟩
  . rw [zt w' w.heap.size j _ _ _ ((hb.block _ oo).trans k0)];simpa [aJ.cells] using hu
  . rw [zt w' (w.heap.size+1) k _ _ _ ((hb.block _ oo).trans k1)];have:k=0\/k=1\/k=2\/k=3\/k=4\/k=5:=oo
    rcases this with rfl|rfl|rfl|rfl|rfl|rfl<;>rfl
 have HC:=aX (aoP b w.heap.size (w.heap.size+1) 6 (CM b w) hn (fun w' h=>(HB.out.2 w' h).1) (fun w' h=>(HB.out.2 w' h).2))
 go_enter Tryz.func241,Tryz.ntmps241
 go_wp2_with (go_at_call 305; refine (HC.out).mono ?_; rintro e w1 ⟨rfl,cN⟩)
 go_ret
 exact⟨by simp,HB.out.1.trans (cN.mono HB.out.1.size)⟩
def Sa:aJ:=⟨0,r5,0,false,0,0,0,0,false⟩
def r6(id:Int)(b:aJ):Bool:=decide (b.id=id)
def bZ(l:List aJ)(id:Int):aJ×Bool:=match l.find? (r6 id) with|some b=>(b,true)|none=>(Sa,false)
def jd(b:aJ):Int:=if b.high then 2896 else 2591
def lF(bs:List aJ)(ax half:Int)(x:ay):Int:=if x.ax=ax/\(x.half=half\/x.half=0) then (if (bZ bs x.box).2 then jd (bZ bs x.box).1 else 0) else 0
def fB(bs:List aJ)(l:List ay)(ax half:Int):Int:=(l.map (lF bs ax half)).sum
theorem u6(b:aJ):0<=jd b/\jd b<=2896:=by unfold jd; split<;>omega
theorem abt(bs:List aJ)(ax half:Int)(x:ay):0<=lF bs ax half x/\lF bs ax half x<=2896:=by
 unfold lF;split
 . split
   . exact u6 _
   . omega
 . omega
theorem abu(f:ay->Int)(h:∀ x,0<=f x/\f x<=2896)(l:List ay):0<=(l.map f).sum/\(l.map f).sum<=2896*(l.length:Int):=by
 induction l with
 | nil=>simp
 | cons x l ih =>
  have:=h x;simp only [kX,Bn,c9];omega
def fC(x:ay):Slot:=⟨x.ax,x.aF,x.half⟩
end Go.Proofs.YtlpikgchnjajmaaGreat
