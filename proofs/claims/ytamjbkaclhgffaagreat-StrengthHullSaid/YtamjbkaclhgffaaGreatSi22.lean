/-
  iso: which texts are right numbers.
-/
import Derived.Test.YtamjbkaclhgffaaGreatSi21
import Derived.Maps.OwnSet
set_option linter.all false
set_option maxRecDepth 100000
set_option maxHeartbeats 4000000
namespace Go.Proofs.YtamjbkaclhgffaaGreat
open Go.RowKit
variable{s:ByteArray}{l:List aJ}{g i:Nat}{α:Type}{b:aJ}
def tP(b:Int):Bool:=decide (65<=b)&&decide (b<=90)
def Mi(b:Int):Bool:=b==85||b==74||b==90
def qV(b:Int):Bool:=decide (48<=b)&&decide (b<=57)
def Ha(i:Nat)(b:Int):Bool:=if i<3 then tP b else if i=3 then Mi b else qV b
def o6(s:ByteArray)(i:Nat):Int:=((s.data[i]?.map fun c=>(c.toNat:Int)).getD 0)
def vj(s:ByteArray)(i:Nat):Bool:=decide (i<11)&&Ha i (o6 s i)
def Bb(s:ByteArray):Bool:=decide (∀ i,i<s.size->vj s i=true)
def ns(b:Int):Int:=if qV b then b - 48 else if tP b then 10+(b - 65)+(b - 65+9) / 10 else 0
def Bc(b:Int):Bool:=qV b||tP b
def qW(s:ByteArray):Nat->Int
 | 0=>0
 | n+1=>qW s n+ns (o6 s n)*2^n
theorem Hb(h:i<s.size):o6 s i=(s[i].toNat:Int):=by
 unfold o6;have:s.data[i]? = some s[i]:=po h;rw [this];rfl
theorem adG(s:ByteArray)(i:Nat):0<=o6 s i/\o6 s i<=255:=by
 unfold o6
 cases s.data[i]? with
 | none=>simp
 | some c=>have:=c.toNat_lt; simp; omega
theorem TO{b:Int}(_h0:0<=b)(h:b<=255):0<=ns b/\ns b<=38:=by
 unfold ns qV tP;split
 . rename_i hd;simp at hd;omega
 . split
   . rename_i hl;simp at hl;omega
   . omega
theorem arU(b:Int)(w:World)(h0:0<=b)(h1:b<=255) :
 Calls Tryz.prog 259 #[.int .u8 b] w fun e w'=>e = .returned (.tuple #[.int .i64 (ns b),.bool (Bc b)])/\w=w':=by
 by_cases hd:48<=b/\b<=57
 . obtain⟨d1,d2⟩:=hd;have e:ns b=b - 48:=by unfold ns qV; simp [d1,d2]
   have e2:Bc b=true:=by unfold Bc qV; simp [d1,d2]
   have E:=aZ e;have E2:=aZ e2;clear e e2
   exact Hc
 . by_cases hl:65<=b/\b<=90
   . obtain⟨d1,d2⟩:=hl;have e:ns b=10+(b - 65)+(b - 65+9) / 10:=by
      unfold ns qV tP;rw [aw (by simp; omega),aC (by simp; omega)]
     have e2:Bc b=true:=by unfold Bc qV tP; simp [d1,d2]
     have E:=aZ e;have E2:=aZ e2;clear e e2 hd;have hd:decide (b<=57)=false:=by simp; omega
     exact Hc
   . have e:ns b=0:=by
      unfold ns qV tP;rw [aw (by simp; omega),aw (by simp; omega)]
     have e2:Bc b=false:=by unfold Bc qV tP; simp; omega
     have E:=aZ e;have E2:=aZ e2;clear e e2;rcases N9 b 48 with h48|h48
     . clear hd hl
       exact Hc
     . have h57:57<b:=oo
       rcases N9 b 65 with h65|h65
       . clear hd hl
         exact Hc
       . have h90:90<b:=oo
         clear hd hl
         exact Hc
theorem arX(b:Int)(w:World)(h0:0<=b)(h1:b<=255):Calls Tryz.prog 260 #[.int .u8 b] w fun e w'=>e = .returned (.bool (tP b))/\w=w':=by
 have HL:Hid (tP b=(decide (65<=b)&&decide (b<=90))):=rfl
 go_enter Tryz.func260,Tryz.ntmps260
 rcases N9 b 65 with h|h
 . have hd:decide (65<=b)=false:=by simp; omega
   have HD:=aZ hd
   exact Hd
 . have hd:decide (65<=b)=true:=by simp; omega
   have HD:=aZ hd
   exact Hd
theorem arY(b:Int)(w:World)(h0:0<=b)(h1:b<=255):Calls Tryz.prog 262 #[.int .u8 b] w fun e w'=>e = .returned (.bool (qV b))/\w=w':=by
 have HL:Hid (qV b=(decide (48<=b)&&decide (b<=57))):=rfl
 go_enter Tryz.func262,Tryz.ntmps262
 rcases N9 b 48 with h|h
 . have hd:decide (48<=b)=false:=by simp; omega
   have HD:=aZ hd
   exact Hd
 . have hd:decide (48<=b)=true:=by simp; omega
   have HD:=aZ hd
   exact Hd
theorem arZ(b:Int)(w:World)(h0:0<=b)(h1:b<=255):Calls Tryz.prog 261 #[.int .u8 b] w fun e w'=>e = .returned (.bool (Mi b))/\w=w':=by
 have HL:Hid (Mi b=((b==85||b==74)||b==90)):=rfl
 go_enter Tryz.func261,Tryz.ntmps261
 cases ha:(b==85) with
 | true =>
  have HD:=aZ ha
  exact Hd
 | false =>
  have HD:=aZ ha
  cases hb:(b==74) with
  | true =>
   have HB:=aZ hb
   go_wp2
   go_ret
   exact⟨by rw [HL.out,HD.out,HB.out]; rfl,rfl⟩
  | false =>
   have HB:=aZ hb
   go_wp2
   go_ret
   exact⟨by rw [HL.out,HD.out,HB.out]; rfl,rfl⟩
def vk:List Value := [.func (.func 260) #[] #[],.func (.func 260) #[] #[],.func (.func 260) #[] #[],.func (.func 261) #[] #[],.func (.func 262) #[] #[],.func (.func 262) #[] #[],.func (.func 262) #[] #[],.func (.func 262) #[] #[],.func (.func 262) #[] #[],.func (.func 262) #[] #[],.func (.func 262) #[] #[]]
theorem adH:∀ u∈vk,u.oneCell'=true:=by simp [vk,Value.oneCell']
theorem ar0(w:World):Calls Tryz.prog 258 #[] w fun e w'=>e = .returned (.agg vk.toArray)/\Below w.heap.size w w':=by
 go_enter Tryz.func258,Tryz.ntmps258
 go_wp2_with (refine Of rfl _ _ rfl rfl rfl (n:=11) (cs:=vk) (by kernel_rfl) rfl rfl (rA w _) (by simp) adH ?_; intro mT w2 hl hs hg gr)
 have qt:mT=vk.toArray:=by
  apply xF;rw [hl];rfl
 subst qt;refine bodyPost_ret (v := .agg vk.toArray) (results_cell_row rfl _ w2 w.heap.size _ _ _ _ rfl hg Tryz.underlying319 rfl (by kernel_rfl)) rfl ⟨rfl,?_⟩;exact ((cu _ _).alloc (aA _) _).grown gr (by simp) (fun k hk=>by injection hk with hk; omega)
theorem TP(w:World)(args:Array Value):(callFunc 260 args).run Tryz.prog w = .ok (.enter 260 args) w:=by go_simp
theorem ar1(w:World)(args:Array Value):(callFunc 261 args).run Tryz.prog w = .ok (.enter 261 args) w:=by go_simp
theorem ar2(w:World)(args:Array Value):(callFunc 262 args).run Tryz.prog w = .ok (.enter 262 args) w:=by go_simp
theorem ar3(k:Nat)(h:k<11):∃ f,vk[k]? = some (.func (.func f) #[] #[])/\(∀ w args,(callFunc f args).run Tryz.prog w = .ok (.enter f args) w) /\
 ∀ (b:Int) (w:World),0<=b->b<=255->Calls Tryz.prog f #[.int .u8 b] w fun e w'=>e = .returned (.bool (Ha k b))/\Below w.heap.size w w':=by
 have hk:k=0\/k=1\/k=2\/k=3\/k=4\/k=5\/k=6\/k=7\/k=8\/k=9\/k=10:=oo
 have c1:∀ (b:Int) (w:World),0<=b->b<=255->Calls Tryz.prog 260 #[.int .u8 b] w fun e w'=>e = .returned (.bool (tP b))/\Below w.heap.size w w':=fun b w h0 h1=>(arX b w h0 h1).mono fun e w' ⟨he,hw⟩=>⟨he,hw▸cu _ _⟩
 have c2:∀ (b:Int) (w:World),0<=b->b<=255->Calls Tryz.prog 261 #[.int .u8 b] w fun e w'=>e = .returned (.bool (Mi b))/\Below w.heap.size w w':=fun b w h0 h1=>(arZ b w h0 h1).mono fun e w' ⟨he,hw⟩=>⟨he,hw▸cu _ _⟩
 have c3:∀ (b:Int) (w:World),0<=b->b<=255->Calls Tryz.prog 262 #[.int .u8 b] w fun e w'=>e = .returned (.bool (qV b))/\Below w.heap.size w w':=fun b w h0 h1=>(arY b w h0 h1).mono fun e w' ⟨he,hw⟩=>⟨he,hw▸cu _ _⟩
 rcases hk with rfl|rfl|rfl|rfl|rfl|rfl|rfl|rfl|rfl|rfl|rfl
 . exact⟨_,rfl,TP,c1⟩
 . exact⟨_,rfl,TP,c1⟩
 . exact⟨_,rfl,TP,c1⟩
 . exact⟨_,rfl,ar1,c2⟩
 all_goals exact⟨_,rfl,ar2,c3⟩
theorem ar4{k:Nat}(h:k<s.size):vj s k=(decide (k<11)&&Ha k (s[k].toNat:Int)):=by
 unfold vj;rw [Hb h]
set_option maxHeartbeats 1000000 in
theorem adI(s:ByteArray)(w:World)(hs:s.size<=140737488351232) :
 Calls Tryz.prog 255 #[.string s] w fun e w'=>e = .returned (.bool (Bb s))/\Below w.heap.size w w':=by
 have qy:(∀ i,i<s.size->vj s i=true)->Bb s=true:=fun h=>by unfold Bb; simp; exact h
 have uA:∀ i,i<s.size->vj s i=false->Bb s=false:=fun i h h2=>by
  unfold Bb;rw [fQ];intro bS;rw [bS i h] at h2;cases h2
 have HFB:=aZ qy;have HFN:=aZ uA;clear qy uA
 go_enter Tryz.func255,Tryz.ntmps255
 go_wp2_with (first
  | (go_at_call 258; refine (ar0 _).mono ?_; rintro e w1 ⟨rfl,c8⟩)
  | (refine Of rfl _ _ rfl rfl rfl (n:=11) (cs:=vk) (by kernel_rfl) rfl rfl (rA w1 _) (by simp) adH ?_; intro mT w2 hl z6 hg gr))
 have qt:mT=vk.toArray:=by
  apply xF;rw [hl];rfl
 subst qt;have eP:Below w.heap.size w w2:=(c8.alloc c8.size _).grown gr (by simp; have:=c8.size; omega) (fun k hk=>by injection hk with hk; have:=c8.size; omega);have Fh:w1.heap.size<w2.heap.size:=(jA.1 hg).1;have dt:∀ w',cW w2 w'->∀ i v,vk[i]? = some v->w'.cell? ⟨w1.heap.size,i,none⟩=some v:=fun w' hb i v hv=>by
  rw [zD w' w1.heap.size i _ _ _ ((hb.block _ Fh).trans hg)];simpa using hv
 have HC:=aZ dt;have Mj:=aZ eP;clear hl z6 hg gr dt eP
 go_loopw [4,8] (fun _ i wr=>∃ k:Nat,k<=s.size/\i = .int .i64 k/\(∀ j,j<k->vj s j=true)/\cW w2 wr) (fun _ i _=>s.size - (intOf i).toNat)
 case atStart=>exact⟨0,oo,rfl,oo,cu _ _⟩
 case round =>
  obtain⟨k,hk,rfl,hj,hb⟩:=hrel;have HJ:=aZ hj;clear hj;by_cases ah:k<s.size
  . have aI:=ar4 ah;have Mk:=aZ aI;clear aI;by_cases qS:k<11
    . have hd:decide ((11:Int)<=(k:Int))=false:=by simp; omega
      obtain⟨f,hmf,s7,tu⟩:=ar3 k qS;have hle:vj s k=Ha k (s[k].toNat:Int):=by rw [Mk.out]; simp [qS]
      have Be:=aZ hle;have xe:=aZ (fun w' hb=>HC.out w' hb k _ hmf);have ar6:=aZ tu;have tz:(s[k].toNat:Int)<=255:=by have:=s[k].toNat_lt; omega
      clear hle hmf tu
      go_wp2
      refine IV (by kernel_rfl) (by kernel_rfl) wr.heap.size ?_
      repeat (first|go_big_quiet_skip|(go_big_quiet_want; refine Og _ _ rfl _ rfl _ (fun w' hC=>Cg Tryz.underlying289 rfl (xe.out w' (hb.trans (hC.mono hb.size)))) ?_; simp only [Act.put,ai6,Ej,BY]; go_big_quiet_on)|go_big_quiet_step (first|(intro hC; rfl)|(intro hC; exact⟨rfl,rfl⟩)|(intro hC; refine (ar6.out _ _ oo tz).mono ?_; rintro e w' ⟨rfl,nL⟩; exact⟨rfl,hC.trans (nL.mono hC.size)⟩)))
      refine wpQuiet_nil ?_;intro w' hC
      cases hm:Ha k (s[k].toNat:Int) with
      | true =>
       have He:vj s k=true:=by rw [Be.out,hm]
       have ar7:=aZ He;clear He
       go_wp2
       go_roundw
       case rel =>
        refine⟨k+1,oo,by go_num,fun j h => ?_,hb.trans (hC.mono hb.size)⟩;rcases b9 j k with h3|h3
        . exact HJ.out j h3
        . obtain rfl:j=k:=oo
          exact ar7.out
       case measure=>simp [intOf]; omega
      | false =>
       have He:vj s k=false:=by rw [Be.out,hm]
       have adL:=aZ (HFN.out k ah He);clear He
       exact adM
    . have nu:vj s k=false:=by rw [Mk.out]; simp [qS]
      have adL:=aZ (HFN.out k ah nu);clear nu;have hd:decide ((11:Int)<=(k:Int))=true:=by simp; omega
      go_wp2
      refine IV (by kernel_rfl) (by kernel_rfl) wr.heap.size ?_
      repeat (first|go_big_quiet_skip|go_big_quiet_step (first|(intro hC; rfl)|(intro hC; exact⟨rfl,rfl⟩)))
      refine wpQuiet_nil ?_;intro w' hC
      exact adM
  . obtain rfl:k=s.size:=oo
    have HF:=aZ (HFB.out HJ.out)
    go_wp2
    go_ret
    exact⟨by rw [HF.out]; rfl,Mj.out.trans (hb.mono Mj.out.size)⟩
theorem TQ(s:ByteArray):∀ n,0<=qW s n/\qW s n<=38*(2^n - 1)
 | 0=>by simp [qW]
 | n+1=>by
  have ih:=TQ s n;have hb:=adG s n;have hv:=TO hb.1 hb.2;have hp:(0:Int)<2^n:=Int.pow_pos oo;have h1:ns (o6 s n)*2^n<=38*2^n:=aza hv.2 oo;have h0:0<=ns (o6 s n)*2^n:=B7 hv.1 oo;have e:(2:Int)^(n+1)=2*2^n:=by rw [Int.pow_succ]; omega
  unfold qW;rw [e];omega
def Ml(s:ByteArray):Int:=48+qW s s.size % 11 % 10
theorem ar8{k:Nat}(h:k<10):(1:Int)<=2^k/\(2:Int)^k<=512:=by
 have hk:k=0\/k=1\/k=2\/k=3\/k=4\/k=5\/k=6\/k=7\/k=8\/k=9:=oo
 rcases hk with rfl|rfl|rfl|rfl|rfl|rfl|rfl|rfl|rfl|rfl<;>decide
theorem ar9{k:Nat}(h:k<s.size)(hk:k<10):wrap64 (qW s k+wrap64 (ns (s[k].toNat:Int)*2^k))=qW s (k+1):=by
 have hb:=adG s k;have hv:=TO hb.1 hb.2;obtain⟨p1,p2⟩:=ar8 hk;have hs:=TQ s k;have h1:ns (o6 s k)*2^k<=38*2^k:=aza hv.2 oo;have h0:0<=ns (o6 s k)*2^k:=B7 hv.1 oo;rw [<- Hb h];rw [IntWalk.wrap64_in (ns (o6 s k)*2^k) ⟨oo,oo⟩,IntWalk.wrap64_in _ ⟨oo,oo⟩];rfl
set_option maxHeartbeats 1000000 in
theorem asa(s:ByteArray)(w:World)(hs:s.size<=10) :
 Calls Tryz.prog 256 #[.string s] w fun e w'=>e = .returned (.int .u8 (Ml s))/\w=w':=by
 go_enter Tryz.func256,Tryz.ntmps256
 go_wp2
 go_loop [3,9] (fun u i=>∃ k:Nat,k<=s.size/\i = .int .i64 k/\u = .int .i64 (qW s k)) (fun _ i=>s.size - (intOf i).toNat)
 case atStart=>exact⟨0,oo,rfl,rfl⟩
 case round =>
  obtain⟨k,hk,rfl,rfl⟩:=hrel;have TR:=TQ s k;obtain⟨sb1,sb2⟩:=TR;by_cases ah:k<s.size
  . have tz:(s[k].toNat:Int)<=255:=by have:=s[k].toNat_lt; omega
    have hv:=TO (b:=(s[k].toNat:Int)) oo tz;obtain⟨v1,v2⟩:=hv
    go_wp2_with (go_at_call 259; refine (arU _ _ oo tz).mono ?_; rintro e w' ⟨rfl,rfl⟩)
    go_round
    case rel=>exact⟨k+1,oo,by go_num,by rw [ar9 ah oo]⟩
    case measure=>simp [intOf]; omega
  . obtain rfl:k=s.size:=oo
    go_wp2
    go_ret
    exact⟨rfl,rfl⟩
theorem asb(x y:Int):(!(x != y))=decide (x=y):=by by_cases h:x=y<;>simp [h]
def tQ(s:ByteArray):Bool:=decide (s.size=11)&&Bb s&&decide (48+qW s 10 % 11 % 10=o6 s 10)
theorem asc(s:ByteArray)(i:Nat)(h:i<10)(hs:10<=s.size):o6 (s.extract 0 10) i=o6 s i:=by
 have h1:i<(s.extract 0 10).size:=by simp; omega
 rw [Hb h1,Hb oo];simp [ByteArray.getElem_extract]
theorem adN(s:ByteArray)(hs:10<=s.size):∀ n,n<=10->qW (s.extract 0 10) n=qW s n
 | 0,_=>rfl
 | n+1,h=>by
  unfold qW;rw [adN s hs n oo,asc s n oo hs]
set_option maxHeartbeats 1000000 in
theorem asd(s:ByteArray)(w:World)(hs:s.size<=140737488351232) :
 Calls Tryz.prog 250 #[.string s] w fun e w'=>∃ n,e = .returned (.int .i64 n)/\(n==0)=tQ s/\Below w.heap.size w w':=by
 by_cases qS:s.size=11
 . have aT:((s.size:Int) != 11)=false:=by simp [qS]
   have hle:s.size<=11:=oo
   have cH:10<s.size:=oo
   have H11:=aZ qS;clear qS
   cases hf:Bb s with
   | true =>
    have hx:(s.extract 0 10).size<=10:=by simp; omega
    have qz:∀ n:Int,(n==0) = !(Ml (s.extract 0 10) != (s[10].toNat:Int))->(n==0)=tQ s:=by
     intro n hn;rw [hn];unfold tQ Ml;have e1:(s.extract 0 10).size=10:=by simp; omega
     rw [e1,adN s oo 10 oo,Hb (s:=s) (i:=10) oo,hf,dP H11.out];rw [asb];simp
    have HR:=aZ qz;clear qz;have hix:∀ w,(Instr.index 9 (.string s) (.int .i64 10)).run Tryz.prog w = .ok (.int .u8 (s[10].toNat:Int)) w:=fun w=>by
     simp [Instr.index,asIntOf,qm Tryz.underlying9,cH]
    go_enter Tryz.func250,Tryz.ntmps250
    go_wp2_with (go_at_call 255; refine (adI s _ hs).mono ?_; rintro e w1 ⟨rfl,c8⟩)
    refine IV (by kernel_rfl) (by kernel_rfl) w1.heap.size ?_
    repeat (first|go_big_quiet_skip|go_big_quiet_step (first|(intro hC; rfl)|(intro hC; exact⟨rfl,rfl⟩)|(intro hC; refine (asa _ _ hx).mono ?_; rintro e w' ⟨rfl,rfl⟩; exact⟨rfl,hC⟩)))
    refine wpQuiet_nil ?_;intro w' hC
    cases hq:(Ml (s.extract 0 10) != (s[10].toNat:Int)) with
    | true =>
     have HQ:=aZ hq
     go_wp2
     go_ret
     exact⟨31,rfl,HR.out 31 (by rw [HQ.out]; rfl),c8.trans (hC.mono c8.size)⟩
    | false =>
     have HQ:=aZ hq
     go_wp2
     go_ret
     exact⟨0,rfl,HR.out 0 (by rw [HQ.out]; rfl),c8.trans (hC.mono c8.size)⟩
   | false =>
    have HI:Hid (tQ s=false):=by unfold Hid tQ; rw [hf]; simp
    go_enter Tryz.func250,Tryz.ntmps250
    go_wp2_with (go_at_call 255; refine (adI s _ hs).mono ?_; rintro e w1 ⟨rfl,c8⟩)
    go_ret
    exact⟨30,rfl,by rw [HI.out]; rfl,c8⟩
 . have aT:((s.size:Int) != 11)=true:=by simp; omega
   have HI:Hid (tQ s=false):=by unfold Hid tQ; simp [qS]
   go_enter Tryz.func250,Tryz.ntmps250
   go_wp2
   go_ret
   exact⟨30,rfl,by rw [HI.out]; rfl,cu _ _⟩
theorem asf(s:ByteArray)(w:World)(hs:s.size<=140737488351232) :
 Calls Tryz.prog 224 #[.string s] w fun e w'=>e = .returned (.bool (tQ s))/\Below w.heap.size w w':=by
 go_enter Tryz.func224,Tryz.ntmps224
 go_wp2_with (go_at_call 250; refine (asd s _ hs).mono ?_; rintro e w' ⟨n,rfl,hn,hb⟩; have HN:=aZ hn; clear hn)
 go_ret
 exact⟨by rw [<- HN.out]; rfl,hb⟩
def Bf(s:Int):Int:=if s=20 then 32000 else if s=40 then 40000 else 0
def vl(n lo hi:Int):Bool:=decide (lo<=n)&&decide (n<=hi)
def si:ByteArray:=⟨#[]⟩
theorem ash:si.toList = []:=by unfold si; go_simp
def gN(b:aJ):Nat->Bool
 | 0=>vl b.id 1 999999
 | 1=>decide (b.num=si)||tQ b.num
 | 2 => !b.high||decide (b.size=40)
 | 3=>vl b.aq 1 (Bf b.size)
 | 4=>decide (0<=b.load)&&decide (b.load<b.km)&&decide (b.km<20)
 | _=>decide (b.cls<=9)
def nv(b:aJ):Bool:=gN b 0&&gN b 1&&gN b 2&&gN b 3&&gN b 4&&gN b 5
theorem adO(n lo hi:Int)(w:World):Calls Tryz.prog 222 #[.int .i64 n,.int .i64 lo,.int .i64 hi] w fun e w'=>e = .returned (.bool (vl n lo hi))/\Below w.heap.size w w':=by
 by_cases h1:lo<=n
 . go_enter Tryz.func222,Tryz.ntmps222
   have HW:Hid (vl n lo hi=decide (n<=hi)):=by unfold Hid vl; simp [h1]
   go_wp2
   go_ret
   exact⟨by rw [HW.out]; rfl,cu _ _⟩
 . go_enter Tryz.func222,Tryz.ntmps222
   have HW:Hid (vl n lo hi=false):=by unfold Hid vl; simp [h1]
   go_wp2
   go_ret
   exact⟨by rw [HW.out]; rfl,cu _ _⟩
theorem asi(s:Int)(w:World):Calls Tryz.prog 227 #[.int .u8 s] w fun e w'=>e = .returned (.int .i64 (Bf s))/\Below w.heap.size w w':=by
 by_cases h1:s=20
 . subst h1
   exact adP
 . by_cases h2:s=40
   . subst h2
     exact adP
   . have HK:Hid (Bf s=0):=by unfold Hid Bf; simp [h1,h2]
     have b1:(s==20)=false:=by simp [h1]
     have b2:(s==40)=false:=by simp [h2]
     go_enter Tryz.func227,Tryz.ntmps227
     go_wp2
     go_ret
     exact⟨by rw [HK.out]; rfl,cu _ _⟩
section
variable{b:aJ}{g:Nat}{w:World}
theorem asj(hc:∀ j u,b.cells[j]? = some u->w.cell? ⟨g,j,none⟩=some u):Calls Tryz.prog 221 #[.pointer (some ⟨g,0,none⟩)] w fun e w'=>e = .returned (.bool (gN b 0))/\Below w.heap.size w w':=by
 have c0:w.cell? ⟨g,0,none⟩=some (.int .i64 b.id):=hc 0 _ rfl;clear hc
 go_enter Tryz.func221,Tryz.ntmps221
 go_wp2_with (go_at_call 222; refine (adO _ _ _ _).mono ?_; rintro e w1 ⟨rfl,c8⟩)
 go_ret
 exact⟨rfl,c8⟩
theorem asl(hc:∀ j u,b.cells[j]? = some u->w.cell? ⟨g,j,none⟩=some u)(hn:b.num.size<=140737488351232):Calls Tryz.prog 223 #[.pointer (some ⟨g,0,none⟩)] w fun e w'=>e = .returned (.bool (gN b 1))/\Below w.heap.size w w':=by
 have c0:w.cell? ⟨g,1,none⟩=some (.string b.num):=hc 1 _ rfl;have HR:Hid (gN b 1=(decide (b.num=si)||tQ b.num)):=rfl;clear hc;by_cases hz:b.num=si
 . have yD:b.num=⟨#[]⟩:=hz;rw [yD] at c0;have HZ:=aZ hz;clear hz yD hn
   go_enter Tryz.func223,Tryz.ntmps223
   go_wp2
   go_ret
   exact⟨by rw [HR.out,HZ.out]; rfl,cu _ _⟩
 . have hz3:¬ b.num.toList = []:=fun h=>hz (toList_eq.mp (h.trans ash.symm));have Qx:b.num.toList.isEmpty=false:=by simpa using hz3
   have HE:Hid (gN b 1=tQ b.num):=by unfold Hid; rw [HR.out]; simp [hz]
   clear hz
   go_enter Tryz.func223,Tryz.ntmps223
   go_wp2_with (go_at_call 224; refine (asf _ _ hn).mono ?_; rintro e w1 ⟨rfl,c8⟩)
   go_ret
   exact⟨by rw [HE.out]; rfl,c8⟩
theorem asn(hc:∀ j u,b.cells[j]? = some u->w.cell? ⟨g,j,none⟩=some u):Calls Tryz.prog 225 #[.pointer (some ⟨g,0,none⟩)] w fun e w'=>e = .returned (.bool (gN b 2))/\Below w.heap.size w w':=by
 have c0:w.cell? ⟨g,2,none⟩=some (.int .u8 b.size):=hc 2 _ rfl;have c1:w.cell? ⟨g,3,none⟩=some (.bool b.high):=hc 3 _ rfl;have HR:Hid (gN b 2=(!b.high||decide (b.size=40))):=rfl;clear hc
 cases hh:b.high with
 | true =>
  rw [hh] at c1;have HE:Hid (gN b 2=(b.size==40)):=by unfold Hid; rw [HR.out,hh]; simp; by_cases h:b.size=40<;>simp [h]
  clear hh
  go_enter Tryz.func225,Tryz.ntmps225
  exact TS
 | false =>
  rw [hh] at c1;have HE:Hid (gN b 2=true):=by unfold Hid; rw [HR.out,hh]; simp
  clear hh
  go_enter Tryz.func225,Tryz.ntmps225
  exact TS
theorem aso(hc:∀ j u,b.cells[j]? = some u->w.cell? ⟨g,j,none⟩=some u):Calls Tryz.prog 226 #[.pointer (some ⟨g,0,none⟩)] w fun e w'=>e = .returned (.bool (gN b 3))/\Below w.heap.size w w':=by
 have c0:w.cell? ⟨g,2,none⟩=some (.int .u8 b.size):=hc 2 _ rfl;have c1:w.cell? ⟨g,4,none⟩=some (.int .i64 b.aq):=hc 4 _ rfl;have ah:g<w.heap.size:=block_lt_of_cell c0;clear hc;have HC1:Hid (∀ w',cW w w'->(loadVar 3 ⟨g,4,none⟩).run Tryz.prog w' = .ok (.int .i64 b.aq) w'):=fun w' hb=>Cg Tryz.underlying3 rfl ((hb.cell (p:=⟨g,_,none⟩) Ch).trans c1);have HC2:Hid (∀ w',cW w w'->(loadVar 5 ⟨g,2,none⟩).run Tryz.prog w' = .ok (.int .u8 b.size) w'):=fun w' hb=>Cg Tryz.underlying5 rfl ((hb.cell (p:=⟨g,_,none⟩) (by simpa using ah)).trans c0);clear c0 c1
 go_enter Tryz.func226,Tryz.ntmps226
 go_wp2
 refine IV (by kernel_rfl) (by kernel_rfl) w.heap.size ?_
 repeat (first|go_big_quiet_skip|(go_big_quiet_want; refine Og 3 _ rfl _ rfl _ (fun w' hC=>HC1.out w' hC) ?_; simp only [Act.put,ai6,Ej,BY]; go_big_quiet_on)|(go_big_quiet_want; refine Og 5 _ rfl _ rfl _ (fun w' hC=>HC2.out w' hC) ?_; simp only [Act.put,ai6,Ej,BY]; go_big_quiet_on)|go_big_quiet_step (first|(intro hC; rfl)|(intro hC; exact⟨rfl,rfl⟩)|(intro hC; (with_reducible refine (asi _ _).mono ?_); rintro e w1 ⟨rfl,c8⟩; exact⟨rfl,hC.trans (c8.mono hC.size)⟩)|(intro hC; (with_reducible refine (adO _ _ _ _).mono ?_); rintro e w1 ⟨rfl,c8⟩; exact⟨rfl,hC.trans (c8.mono hC.size)⟩)))
 refine wpQuiet_nil ?_;intro w' hC
 go_wp2
 go_ret
 exact⟨rfl,hC⟩
theorem ass(hc:∀ j u,b.cells[j]? = some u->w.cell? ⟨g,j,none⟩=some u):Calls Tryz.prog 228 #[.pointer (some ⟨g,0,none⟩)] w fun e w'=>e = .returned (.bool (gN b 4))/\Below w.heap.size w w':=by
 have c0:w.cell? ⟨g,5,none⟩=some (.int .i64 b.load):=hc 5 _ rfl;have c1:w.cell? ⟨g,6,none⟩=some (.int .i64 b.km):=hc 6 _ rfl;have HR:Hid (gN b 4=(decide (0<=b.load)&&decide (b.load<b.km)&&decide (b.km<20))):=rfl;clear hc;by_cases h1:0<=b.load
 . by_cases h2:b.load<b.km
   . have HE:Hid (gN b 4=decide (b.km<20)):=by unfold Hid; rw [HR.out]; simp [h1,h2]
     exact TT
   . have HE:Hid (gN b 4=false):=by unfold Hid; rw [HR.out]; simp [h2]
     exact TT
 . have HE:Hid (gN b 4=false):=by unfold Hid; rw [HR.out]; simp [h1]
   exact TT
theorem ast(hc:∀ j u,b.cells[j]? = some u->w.cell? ⟨g,j,none⟩=some u):Calls Tryz.prog 229 #[.pointer (some ⟨g,0,none⟩)] w fun e w'=>e = .returned (.bool (gN b 5))/\Below w.heap.size w w':=by
 have c0:w.cell? ⟨g,7,none⟩=some (.int .u8 b.cls):=hc 7 _ rfl;clear hc
 go_enter Tryz.func229,Tryz.ntmps229
 go_wp2
 go_ret
 exact⟨rfl,cu _ _⟩
theorem asu{fn:FuncId}{dH:Array Value}{p:Bool}(s7:∀ w args,(callFunc fn args).run Tryz.prog w = .ok (.enter fn args) w)(tu:Calls Tryz.prog fn dH w fun e w'=>e = .returned (.bool p)/\Below w.heap.size w w') :
 Calls Tryz.prog 231 #[.func (.func fn) #[] dH] w fun e w'=>e = .returned (.bool (!p))/\Below w.heap.size w w':=by
 have HC:=aZ tu;clear tu
 go_enter Tryz.func231,Tryz.ntmps231
 go_wp2_with (first|(refine (HC.out).mono ?_; rintro e w1 ⟨rfl,c8⟩))
 go_ret
 exact⟨rfl,c8⟩
end
def Hf:Nat->FuncId
 | 0=>221
 | 1=>223
 | 2=>225
 | 3=>226
 | 4=>228
 | _=>229
def Mm(g k:Nat):Value := .func (.func (Hf k)) #[] #[.pointer (some ⟨g,0,none⟩)]
theorem asv(k:Nat)(w:World)(args:Array Value):(callFunc (Hf k) args).run Tryz.prog w = .ok (.enter (Hf k) args) w:=by
 unfold Hf;split<;>go_simp
theorem asw{w:World}(k:Nat)(hk:k<6)(hc:∀ j u,b.cells[j]? = some u->w.cell? ⟨g,j,none⟩=some u)(hn:b.num.size<=140737488351232) :
 Calls Tryz.prog (Hf k) #[.pointer (some ⟨g,0,none⟩)] w fun e w'=>e = .returned (.bool (gN b k))/\Below w.heap.size w w':=by
 have:k=0\/k=1\/k=2\/k=3\/k=4\/k=5:=oo
 rcases this with rfl|rfl|rfl|rfl|rfl|rfl
 . exact asj hc
 . exact asl hc hn
 . exact asn hc
 . exact aso hc
 . exact ass hc
 . exact ast hc
theorem asx(h:∀ k,k<6->gN b k=true):nv b=true:=by
 unfold nv;rw [h 0 oo,h 1 oo,h 2 oo,h 3 oo,h 4 oo,h 5 oo];rfl
theorem asy{k:Nat}(hk:k<6)(h:gN b k=false):nv b=false:=by
 have:k=0\/k=1\/k=2\/k=3\/k=4\/k=5:=oo
 unfold nv;rcases this with rfl|rfl|rfl|rfl|rfl|rfl<;>rw [h]<;>simp
theorem asz(w:World)(args:Array Value):(callFunc 231 args).run Tryz.prog w = .ok (.enter 231 args) w:=by
 go_simp
theorem asA(b:aJ)(g h c:Nat)(w:World)(hn:b.num.size<=140737488351232)(hb:∀ w',cW w w'->∀ j u,b.cells[j]? = some u->w'.cell? ⟨g,j,none⟩=some u)(hr:∀ w',cW w w'->∀ k,k<6->w'.cell? ⟨h,k,none⟩=some (Mm g k)) :
 Calls Tryz.prog 251 #[.slice (some ⟨h,0,none⟩) 6 c,.func (.func 231) #[] #[]] w fun e w'=>(∃ i:Int,e = .returned (.int .i64 i)/\decide (i≥0) = !nv b)/\Below w.heap.size w w':=by
 have HB:=aZ hb;have HR:=aZ hr;have s7:=asz;clear hb hr
 go_enter Tryz.func251,Tryz.ntmps251
 go_wp2
 go_loopw [5,8] (fun _ i wr=>∃ k:Nat,k<=6/\i = .int .i64 k/\(∀ j,(h:j<k)->gN b j=true)/\cW w wr) (fun _ i _=>6 - (intOf i).toNat)
 case atStart=>exact⟨0,oo,rfl,oo,cu _ _⟩
 case round =>
  obtain⟨k,hk,rfl,hj,hw⟩:=hrel;have HJ:=aZ hj;clear hj;by_cases ah:k<6
  . have HL:Hid ((loadVar 37 ⟨h,k,none⟩).run Tryz.prog wr = .ok (Mm g k) wr):=Cg Tryz.underlying37 rfl (HR.out wr hw k ah);have HC:=aZ (asu (asv k) (asw k ah (HB.out wr hw) hn))
    go_wp2_with (first
     | (refine oD rfl 37 _ rfl _ rfl _ HL.out ?_)
     | (go_at_call 231; refine (HC.out).mono ?_; rintro e w' ⟨rfl,nL⟩))
    . have hf:gN b k=false:=by
       have h9:(!gN b k)=true:=by assumption
       simpa using h9
      have HD:=aZ (asy ah hf)
      go_ret
      exact⟨⟨_,rfl,by rw [HD.out]; simp⟩,hw.trans (nL.mono hw.size)⟩
    . have ht:gN b k=true:=by
       have h9:(!gN b k)=false:=by assumption
       simpa using h9
      go_roundw
      case rel =>
       refine⟨k+1,oo,by go_num,fun j h => ?_,hw.trans (nL.mono hw.size)⟩;rcases b9 j k with h3|h3
       . exact HJ.out j h3
       . obtain rfl:j=k:=oo
         exact ht
      case measure=>simp [intOf]; omega
  . obtain rfl:k=6:=oo
    have HI:=aZ (asx HJ.out)
    go_wp2
    go_ret
    exact⟨⟨_,rfl,by rw [HI.out]; rfl⟩,hw⟩
theorem asB(b:aJ)(g h c:Nat)(w:World)(hn:b.num.size<=140737488351232)(hb:∀ w',cW w w'->∀ j u,b.cells[j]? = some u->w'.cell? ⟨g,j,none⟩=some u)(hr:∀ w',cW w w'->∀ k,k<6->w'.cell? ⟨h,k,none⟩=some (Mm g k)) :
 Calls Tryz.prog 230 #[.slice (some ⟨h,0,none⟩) 6 c,.func (.func 231) #[] #[]] w fun e w'=>e = .returned (.bool (!nv b))/\Below w.heap.size w w':=by
 have HC:=aZ (asA b g h c w hn hb hr);clear hb hr
 go_enter Tryz.func230,Tryz.ntmps230
 go_wp2_with (go_at_call 251; refine (HC.out).mono ?_; rintro e w1 ⟨⟨i,rfl,hi⟩,c8⟩; have HI:=aZ hi; clear hi)
 go_ret
 exact⟨by rw [<- HI.out]; rfl,c8⟩
abbrev DH(b:aJ)(w:World):World:=(w.alloc (Obj.cells #[.int .i64 b.id,.string b.num,.int .u8 b.size,.bool b.high,.int .i64 b.aq,.int .i64 b.load,.int .i64 b.km,.int .u8 b.cls,.bool b.vZ] 141)).alloc (Obj.cells #[.func (.func 221) #[] #[.pointer (some ⟨w.heap.size,0,none⟩)],.func (.func 223) #[] #[.pointer (some ⟨w.heap.size,0,none⟩)],.func (.func 225) #[] #[.pointer (some ⟨w.heap.size,0,none⟩)],.func (.func 226) #[] #[.pointer (some ⟨w.heap.size,0,none⟩)],.func (.func 228) #[] #[.pointer (some ⟨w.heap.size,0,none⟩)],.func (.func 229) #[] #[.pointer (some ⟨w.heap.size,0,none⟩)]] 37)
set_option maxHeartbeats 1000000 in
theorem asC(b:aJ)(w:World)(hn:b.num.size<=140737488351232) :
 Calls Tryz.prog 181 #[b.val] w fun e w'=>e = .returned (.bool (nv b))/\Below w.heap.size w w':=by
 have HB:Hid (Below w.heap.size w (DH b w)/\∀ w',cW (DH b w) w'->(∀ j u,b.cells[j]? = some u->w'.cell? ⟨w.heap.size,j,none⟩=some u)/\∀ k,k<6->w'.cell? ⟨w.heap.size+1,k,none⟩=some (Mm w.heap.size k)):=by
  refine⟨((cu _ _).alloc (aA _) _).alloc (by simp) _,fun w' hb => ?_⟩;have hs:(DH b w).heap.size=w.heap.size+2:=ajC _ _ _;have k0:(DH b w).heap[w.heap.size]? = some (.cells #[.int .i64 b.id,.string b.num,.int .u8 b.size,.bool b.high,.int .i64 b.aq,.int .i64 b.load,.int .i64 b.km,.int .u8 b.cls,.bool b.vZ] 141 (0,0)):=heap_alloc2_old w _ _;have k1:(DH b w).heap[w.heap.size+1]? = some (.cells #[.func (.func 221) #[] #[.pointer (some ⟨w.heap.size,0,none⟩)],.func (.func 223) #[] #[.pointer (some ⟨w.heap.size,0,none⟩)],.func (.func 225) #[] #[.pointer (some ⟨w.heap.size,0,none⟩)],.func (.func 226) #[] #[.pointer (some ⟨w.heap.size,0,none⟩)],.func (.func 228) #[] #[.pointer (some ⟨w.heap.size,0,none⟩)],.func (.func 229) #[] #[.pointer (some ⟨w.heap.size,0,none⟩)]] 37 (0,0)):=heap_alloc2_new w _ _;refine⟨fun j u hu => ?_,fun k hk => ?_⟩
  . rw [zD w' w.heap.size j _ _ _ ((hb.block _ oo).trans k0)];simpa [aJ.cells] using hu
  . rw [zD w' (w.heap.size+1) k _ _ _ ((hb.block _ oo).trans k1)];have:k=0\/k=1\/k=2\/k=3\/k=4\/k=5:=oo
    rcases this with rfl|rfl|rfl|rfl|rfl|rfl<;>rfl
 have HC:=aZ (asB b w.heap.size (w.heap.size+1) 6 (DH b w) hn (fun w' h=>(HB.out.2 w' h).1) (fun w' h=>(HB.out.2 w' h).2))
 go_enter Tryz.func181,Tryz.ntmps181
 go_wp2_with (go_at_call 230; refine (HC.out).mono ?_; rintro e w1 ⟨rfl,c8⟩)
 go_ret
 exact⟨by simp,HB.out.1.trans (c8.mono HB.out.1.size)⟩
def TU:aJ:=⟨0,si,0,false,0,0,0,0,false⟩
def p9(id:Int)(b:aJ):Bool:=decide (b.id=id)
def bK(l:List aJ)(id:Int):aJ×Bool:=match l.find? (p9 id) with|some b=>(b,true)|none=>(TU,false)
def iB(b:aJ):Int:=if b.high then 2896 else 2591
def lE(bs:List aJ)(au half:Int)(x:az):Int:=if x.au=au/\(x.half=half\/x.half=0) then (if (bK bs x.box).2 then iB (bK bs x.box).1 else 0) else 0
def fy(bs:List aJ)(l:List az)(au half:Int):Int:=(l.map (lE bs au half)).sum
theorem tR(b:aJ):0<=iB b/\iB b<=2896:=by unfold iB; split<;>omega
theorem adQ(bs:List aJ)(au half:Int)(x:az):0<=lE bs au half x/\lE bs au half x<=2896:=by
 unfold lE;split
 . split
   . exact tR _
   . omega
 . omega
theorem adR(f:az->Int)(h:∀ x,0<=f x/\f x<=2896)(l:List az):0<=(l.map f).sum/\(l.map f).sum<=2896*(l.length:Int):=by
 induction l with
 | nil=>simp
 | cons x l ih =>
  have:=h x;simp only [gz,vO,cB];omega
def fA(x:az):Slot:=⟨x.au,x.aH,x.half⟩
theorem Mn{p : α->Bool}{l:List α}{k:Nat}{d : α}(h0:∀ j,j<k->p (l.getD j d)=false)(hk:k<l.length)(h:p (l.getD k d)=true):idx p l=k:=by
 have e:∀ j,(hj:j<l.length)->l.getD j d=l[j]:=fun j hj=>by rw [aX,bc hj,ia]
 exact Oh hk (fun j h1=>by rw [<- e j oo]; exact h0 j h1) (by rw [<- e k hk]; exact h)
theorem Mo{p : α->Bool}{l:List α}{k:Nat}{d : α}(h0:∀ j,j<k->p (l.getD j d)=false)(hk:l.length<=k):idx p l = -1:=by
 have e:∀ j,(hj:j<l.length)->l.getD j d=l[j]:=fun j hj=>by rw [aX,bc hj,ia]
 exact Oi fun j hj=>by rw [<- e j hj]; exact h0 j oo
theorem vm{p:Nat->Prop}{k:Nat}(h:∀ j,j<k->p j)(hk:p k):∀ j,j<k+1->p j:=fun j hj=>by
 rcases b9 j k with h1|h1
 . exact h j h1
 . rw [show j=k from oo]; exact hk
def TV(s:Nat)(d : α)(l:List α)(p : α->Bool):Lp where
 X:=Nat
 ov k := [(s,.int .i64 fun _=>(k:Int))]
 oe _ := []
 I k:=k<=l.length/\∀ j,j<k->p (l.getD j d)=false
 μ k _:=l.length - k
 x0:=0
 nx:=some fun k=>k+1
def adS:aN:=c6 212 GH GG (fun _ _=>True) (fun b id => .bool fun _=>p9 (id ()) (b ()))
theorem asD:aU Tryz.prog adS:=by
 refine cD [] trivial Tryz.func212 (by kernel_rfl) fun ai res h hp => ?_;obtain⟨(b:aJ),(id:Int),rfl,rfl⟩:=dh h;clear h;refine⟨[],?_⟩
 conv=>arg 1; cbv
 simp (maxSteps:=4000000) only [aK];rfl
def adT:aN:=c6 184 r7 (acj 212) (fun l _=>(l ()).length<=1000000000000) (fun l id => .int .i64 fun _=>idx (p9 (id ())) (l ()))
theorem asE:aU Tryz.prog adT:=by
 refine cD [adS] ⟨asD,trivial⟩ Tryz.func184 (by kernel_rfl) fun ai res h hp => ?_;obtain⟨(l:List aJ),(id:Int),rfl,rfl⟩:=dh h;clear h;have hl:l.length<=1000000000000:=hp;refine⟨[(2,TV 8 Tc.box.aa l (p9 id))],?_⟩
 exact no_implicit_lambda% adU
theorem adV(l)(id):idx (p9 id) l<0/\bK l id=(TU,false)\/∃ k:Nat,idx (p9 id) l=k/\k<l.length/\bK l id=(l.getD k Tc.box.aa,true):=by
 rcases Oj (p9 id) l with ⟨h1,h2⟩|⟨k,hk,h1,h2,h3⟩
 . left;refine⟨oo,?_⟩;unfold bK;rw [ID.2 fun x hx=>by rw [h2 x hx]; simp]
 . right;refine⟨k,h1,hk,?_⟩;unfold bK;rw [h3,aX,bc hk];rfl
def TW:aN:=c6 173 r7 kI (fun l _=>(l ()).length<=1000000000000) (fun l id => .ba [.agg (LH fun _=>(bK (l ()) (id ())).1),.bool fun _=>(bK (l ()) (id ())).2])
theorem adW:aU Tryz.prog TW:=by
 refine cD [adT] ⟨asE,trivial⟩ Tryz.func173 (by kernel_rfl) fun ai res h hp => ?_;obtain⟨(l:List aJ),(id:Int),rfl,rfl⟩:=dh h;clear h;have hl:l.length<=1000000000000:=hp;refine⟨[],?_⟩
 exact no_implicit_lambda% adX
def adY:aN:=c6 185 GH GG (fun _ _=>True) (fun b id => .bool fun _=>p9 (id ()) (b ()))
theorem asF:aU Tryz.prog adY:=by
 refine cD [] trivial Tryz.func185 (by kernel_rfl) fun ai res h hp => ?_;obtain⟨(b:aJ),(id:Int),rfl,rfl⟩:=dh h;clear h;refine⟨[],?_⟩
 conv=>arg 1; cbv
 simp (maxSteps:=4000000) only [aK];rfl
def adZ:aN:=c6 184 r7 (acj 185) (fun l _=>(l ()).length<=1000000000000) (fun l id => .int .i64 fun _=>idx (p9 (id ())) (l ()))
theorem asG:aU Tryz.prog adZ:=by
 refine cD [adY] ⟨asF,trivial⟩ Tryz.func184 (by kernel_rfl) fun ai res h hp => ?_;obtain⟨(l:List aJ),(id:Int),rfl,rfl⟩:=dh h;clear h;have hl:l.length<=1000000000000:=hp;refine⟨[(2,TV 8 Tc.box.aa l (p9 id))],?_⟩
 exact no_implicit_lambda% adU
def ad0:aN:=c6 117 r7 kI (fun l _=>(l ()).length<=1000000000000) (fun l id => .ba [.agg (LH fun _=>(bK (l ()) (id ())).1),.bool fun _=>(bK (l ()) (id ())).2])
theorem asH:aU Tryz.prog ad0:=by
 refine cD [adZ] ⟨asG,trivial⟩ Tryz.func117 (by kernel_rfl) fun ai res h hp => ?_;obtain⟨(l:List aJ),(id:Int),rfl,rfl⟩:=dh h;clear h;have hl:l.length<=1000000000000:=hp;refine⟨[],?_⟩
 exact no_implicit_lambda% adX
def ad1:aN:=fY 248 GH (fun _=>True) (fun b => .int .i64 fun _=>iB (b ()))
theorem asI:aU Tryz.prog ad1:=by
 refine cD [] trivial Tryz.func248 (by kernel_rfl) fun ai res h hp => ?_;obtain⟨(b:aJ),rfl,rfl⟩:=gM h;clear h;refine⟨[],?_⟩;refine fm ?_;refine⟨fun g => ?_,fun g => ?_⟩<;>unfold iB<;>rw [g]<;>rfl
def ad3:aN:=fY 118 GH (fun _=>True) (fun b => .int .i64 fun _=>iB (b ()))
theorem asJ:aU Tryz.prog ad3:=by
 refine cD [] trivial Tryz.func118 (by kernel_rfl) fun ai res h hp => ?_;obtain⟨(b:aJ),rfl,rfl⟩:=gM h;clear h;refine⟨[],?_⟩;refine fm ?_;refine⟨fun g => ?_,fun g => ?_⟩<;>unfold iB<;>rw [g]<;>rfl
/- Ez -/
theorem ad4(p)(l:List α):decide (0<=idx p l)=l.any p:=by
 rcases Oj p l with ⟨h1,h2⟩|⟨k,hk,h1,h2,_⟩
 . rw [jW oo];symm;rw [zz];exact fun x hx=>by rw [h2 x hx]; simp
 . rw [dP oo];symm;rw [N4];exact⟨_,iT hk,h2⟩
def Hg(x y:Slot):Bool:=decide (x=y)
def ad5:aN:=c6 247 SC Dp (fun l _=>(l ()).length<=1000000000000) (fun l x => .int .i64 fun _=>idx (Hg (x ())) (l ()))
theorem asK:aU Tryz.prog ad5:=by
 refine cD [] trivial Tryz.func247 (by kernel_rfl) fun ai res h hp => ?_;obtain⟨(l:List Slot),(x:Slot),rfl,rfl⟩:=dh h;clear h;have hl:l.length<=1000000000000:=hp;refine⟨[(2,TV 8 Tc.slot.aa l (Hg x))],?_⟩
 conv=>arg 1; cbv
 refine⟨?_,fun (k:Nat) hk => ?_⟩
 . exact vn
 have cp:k<=l.length/\∀ j,j<k->(Hg x) (l.getD j Tc.slot.aa)=false:=hk;have cR:=cp.1;have bU:=cp.2
 conv=>arg 1; cbv
 simp (maxSteps:=4000000) only [aK];have hky:∀ y:Slot,([Kx.i .i64 x.au,Kx.i .i64 x.aH,Kx.i .u8 x.half] = [Kx.i .i64 y.au,Kx.i .i64 y.aH,Kx.i .u8 y.half])=(x=y):=fun y=>by
  obtain⟨a,b,c⟩:=x;obtain⟨a2,b2,c2⟩:=y;simp
 refine⟨fun g => ?_,fun g=>(Mo bU oo).symm⟩;have ah:k<l.length:=oo
 simp only [hky];exact⟨⟨oo,oo⟩,fun h=>(Mn bU ah (dP h)).symm,fun h=>⟨ii,⟨⟨ah,vm bU (jW h)⟩,oo⟩,oo⟩⟩
def ad6:aN:=c6 215 SC Dp (fun l _=>(l ()).length<=1000000000000) (fun l x => .bool fun _=>(l ()).any (Hg (x ())))
theorem asM:aU Tryz.prog ad6:=by
 refine cD [ad5] ⟨asK,trivial⟩ Tryz.func215 (by kernel_rfl) fun ai res h hp => ?_;obtain⟨(l:List Slot),(x:Slot),rfl,rfl⟩:=dh h;clear h;have hl:l.length<=1000000000000:=hp;refine⟨[],?_⟩;refine fm ?_;exact⟨hl,ad4 (Hg x) l⟩
def AV.TX:AV->Option (Unit->List Slot)
 | .bh [.sl false .slot l] 0=>some l
 | _=>none
theorem AV.asN{x:AV}{n:Unit->List Slot}(h:x.TX=some n):x = .bh [.sl false .slot n] 0:=by
 unfold AV.TX at h;exact Fg
abbrev asO:Kd:=⟨List Slot,.bh [.sl .slot],fun n => .bh [.sl false .slot n] 0,AV.TX,AV.asN⟩
def AV.TY:AV->Option (Unit->Slot)
 | .bh [.int .i64 a,.int .i64 b,.int .u8 c] 0=>some fun _=>⟨a (),b (),c ()⟩
 | _=>none
theorem AV.asP{x:AV}{n:Unit->Slot}(h:x.TY=some n):x = .bh [.int .i64 fun _=>(n ()).au,.int .i64 fun _=>(n ()).aH,.int .u8 fun _=>(n ()).half] 0:=by
 unfold AV.TY at h;exact Fg
abbrev asQ:Kd:=⟨Slot,.bh acb,fun n => .bh [.int .i64 fun _=>(n ()).au,.int .i64 fun _=>(n ()).aH,.int .u8 fun _=>(n ()).half] 0,AV.TY,AV.asP⟩
def ad7:aN:=qR 214 yZ asO asQ (fun _ l x=>(l ()).length<=1000000000000/\bq ((x ()).aH - 1)) (fun h l x => .bool fun _=>Ba (x ()) (l ()) (h ()))
theorem asR:aU Tryz.prog ad7:=by
 refine cD [ad6] ⟨asM,trivial⟩ Tryz.func214 (by kernel_rfl) fun ai res h hp => ?_;obtain⟨(h:Int),(l:List Slot),(x:Slot),rfl,rfl⟩:=tE h;clear h;have hl:l.length<=1000000000000/\bq (x.aH - 1):=hp;refine⟨[],?_⟩;refine fm ?_;exact⟨hl.2,hl.1,rfl⟩
def ad8:aN:=c6 175 Dp SC (fun x l=>(l ()).length<=1000000000000/\(x ()).aH<=1000000) (fun x l => .bool fun _=>xd (x ()) (l ()))
theorem asS:aU Tryz.prog ad8:=by
 refine cD [ad7] ⟨asR,trivial⟩ Tryz.func175 (by kernel_rfl) fun ai res h hp => ?_;obtain⟨(x:Slot),(l:List Slot),rfl,rfl⟩:=dh h;clear h;have hl:l.length<=1000000000000/\x.aH<=1000000:=hp;refine⟨[],?_⟩;refine fm ?_;refine⟨fun h=>by unfold xd; rw [aC h],fun h => ?_⟩;have e:xd x l=(Ba x l x.half||(decide (x.half=0)&&(Ba x l 1&&Ba x l 2))):=aw h;have hi:bq (x.aH - 1):=ii
 have ex:(⟨x.au,x.aH,x.half⟩:Slot)=x:=rfl;simp only [ex,e];refine⟨⟨hl.1,hi⟩,fun h1=>by simp [h1],fun h1=>⟨fun h0=>⟨⟨hl.1,hi⟩,fun h2=>⟨⟨hl.1,hi⟩,?_⟩,fun h2 => ?_⟩,fun h0=>by simp [h1,h0]⟩⟩ <;>
 . rw [h0] at h1;simp [h0,h1,h2]
def ad9:aN:=c6 216 yZ yZ (fun _ _=>True) (fun a b => .bool fun _=>xc (a ()) (b ()))
theorem asT:aU Tryz.prog ad9:=by
 refine cD [] trivial Tryz.func216 (by kernel_rfl) fun ai res h hp => ?_;obtain⟨(a:Int),(b:Int),rfl,rfl⟩:=dh h;clear h;refine⟨[],?_⟩;refine fm ?_;exact⟨fun h=>by simp [xc,h],fun h=>⟨fun h0=>by simp [xc,h0],fun h0=>by simp [xc,h,h0]⟩⟩
def aea:aN:=c6 176 Dp Dp (fun _ _=>True) (fun x y => .bool fun _=>kK (x ()) (y ()))
theorem asU:aU Tryz.prog aea:=by
 refine cD [ad9] ⟨asT,trivial⟩ Tryz.func176 (by kernel_rfl) fun ai res h hp => ?_;obtain⟨(x:Slot),(y:Slot),rfl,rfl⟩:=dh h;clear h;refine⟨[],?_⟩;refine fm ?_;exact⟨fun h1=>⟨fun h2=>by simp [kK,h1,h2],fun h2=>by simp [kK,h2]⟩,fun h1=>by simp [kK,h1]⟩
def asV(bs:List aJ)(l:List az)(c h:Int):Lp where
 X:=Nat
 ov k := [(16,.int .i64 fun _=>(k:Int)),(9,.int .i64 fun _=>fy bs (l.take k) c h)]
 oe _ := []
 I k:=k<=l.length
 μ k _:=l.length - k
 x0:=0
 nx:=some fun k=>k+1
def aeb:aN:=u5 217 r7 y0 kI yZ (fun bs l _ _=>(bs ()).length<=1000000000000/\(l ()).length<=1000000) (fun bs l au half => .int .i64 fun _=>fy (bs ()) (l ()) (au ()) (half ()))
theorem asW:aU Tryz.prog aeb:=by
 refine cD [TW,ad1] ⟨adW,asI,trivial⟩ Tryz.func217 (by kernel_rfl) fun ai res h hp => ?_;obtain⟨(bs:List aJ),(l:List az),(au:Int),(half:Int),rfl,rfl⟩:=yY h;clear h;have hl:bs.length<=1000000000000/\l.length<=1000000:=hp;refine⟨[(3,asV bs l au half)],?_⟩
 conv=>arg 1; cbv
 refine⟨?_,fun (k:Nat) hk => ?_⟩
 . simp (maxSteps:=4000000) only [aK];simp [fy]
 have cR:k<=l.length:=hk;refine fm ?_;refine⟨fun g => ?_,fun g=>by rw [jC oo]⟩;have ah:k<l.length:=oo
 have hst:fy bs (l.take (k+1)) au half=fy bs (l.take k) au half+lE bs au half (l.getD k Tc.al.aa):=by
  unfold fy;rw [show l.take (k+1)=l.take k ++ [l[k]] from by rw [List.take_add_one,bc ah]; rfl,jg,WL,aX,bc ah];simp only [gz,sS,vO,List.sum_nil,ia];omega
 have hb:0<=fy bs (l.take k) au half/\fy bs (l.take k) au half<=2896*((l.take k).length:Int):=adR _ (adQ bs au half) _;rw [cL] at hb;have ky:=tR (bK bs (l.getD k Tc.al.aa).box).1;have et:∀ b:aJ,iB (⟨b.id,b.num,b.size,b.high,b.aq,b.load,b.km,b.cls,b.vZ⟩:aJ)=iB b:=fun _=>rfl;simp only [et,hst];unfold lE;generalize fy bs (l.take k) au half=H at *
 generalize iB (bK bs (l.getD k Tc.al.aa).box).1=T at *
 have h1:∀ P,P->bq ((k:Int)+1)/\(k+1<=l.length/\l.length - (k+1)<l.length - k)/\(k:Int)+1=((k+1:Nat):Int)/\P:=fun P h=>⟨ii,oo,oo,h⟩
 have h2:bq (H+T):=ii
 clear hst et hb ky;generalize l.getD k Tc.al.aa=y;refine⟨oo,fun c=>⟨fun c1=>⟨hl.1,fun c2=>⟨h2,h1 _ ?_⟩,fun c2=>h1 _ ?_⟩,fun c1=>⟨fun c3=>⟨hl.1,fun c2=>⟨h2,h1 _ ?_⟩,fun c2=>h1 _ ?_⟩,fun c3=>h1 _ ?_⟩⟩,fun c=>h1 _ ?_⟩<;>simp [*]
open Go.Maps Go.WideMaps
def vo(l:List aJ)(k:Nat)(s:ByteArray):Bool:=(l.take k).any (fun b => !decide (b.num=si)&&decide (b.num=s))
def vp(l:List aJ)(k:Nat):Int:=if k=0 then 0 else (l[k - 1]?.map aJ.id).getD 0
def lX(l:List aJ)(k:Nat):Bool :=
 match l[k]? with
 | some b=>vo l k b.num||decide (b.id<=vp l k) || !nv b
 | none=>false
def jP(l:List aJ):Int×Int :=
 if l.length>2000 then (-1,5) else
 match (List.range l.length).find? (lX l) with
 | some k=>(k,60)
 | none=>(-1,0)
theorem asX{k:Nat}(hl:l.length<=2000)(hk:k<l.length)(hj:∀ j,j<k->lX l j=false)(h:lX l k=true):jP l=((k:Int),60):=by
 have:(List.range l.length).find? (lX l)=some k:=by
  rw [List.find?_range_eq_some];exact⟨h,by simpa using hk,fun j qo=>by simp [hj j qo]⟩
 unfold jP;rw [aw oo,this]
theorem asY(hl:l.length<=2000)(hj:∀ j,j<l.length->lX l j=false):jP l=(-1,0):=by
 have:(List.range l.length).find? (lX l)=none:=by
  rw [ID];intro x hx;rw [hj x (by simpa using hx)];simp
 unfold jP;rw [aw oo,this]
theorem asZ(l:List aJ)(s:ByteArray):vo l 0 s=false:=by simp [vo]
theorem as0(l:List aJ)(k:Nat)(s:ByteArray)(hk:k<l.length):vo l (k+1) s=(vo l k s||(!decide (l[k].num=si)&&decide (l[k].num=s))):=by
 unfold vo;rw [xv hk,List.any_append];simp only [List.any_cons,List.any_nil,fS]
theorem aec(l:List aJ)(k:Nat)(hk:k<l.length):vp l (k+1)=l[k].id:=by
 unfold vp;simp [hk]
theorem as1(l:List aJ):vp l 0=0:=by simp [vp]
open Go.RowKit
def nw(n:Int):Bool:=decide (0<=n/\n<=500000000)
def iN(n m:Int):Bool:=decide (-m<=n/\n<=m)
def fB(l:Ld):Bool:=nw l.aq&&(iN l.x (l.aq*1100000)&&(iN l.y (l.aq*1100000)&&iN l.z (l.aq*1100000)))
def fi:Ld:=⟨0,0,0,0⟩
def mG(k x y z:Int):Ld×Int:=if nw k&&(iN x 1100000&&(iN y 1100000&&iN z 1100000)) then (⟨k,k*x,k*y,k*z⟩,0) else (fi,2)
theorem vq{n:Int}:nw n=true↔0<=n/\n<=500000000:=ajh
theorem qX{n m:Int}:iN n m=true ↔ -m<=n/\n<=m:=ajh
theorem TZ(n:Int)(w:World):Calls Tryz.prog 59 #[.int .i64 n] w fun e w'=>e = .returned (.bool (nw n))/\w'=w:=by
 by_cases h1:0<=n
 . by_cases h2:n<=500000000
   . have h3:nw n=true:=by simp [nw,h1,h2]
     exact T3
   . have h3:nw n=false:=by simp [nw]; omega
     exact T3
 . have h3:nw n=false:=by simp [nw]; omega
   exact T3
theorem DI(n m:Int)(Mp:0<=m)(hm:m<=4611686018427387904)(w:World):Calls Tryz.prog 119 #[.int .i64 n,.int .i64 m] w fun e w'=>e = .returned (.bool (iN n m))/\w'=w:=by
 have wn:IntKind.i64.wrap (-m) = -m:=wrap_i64 oo oo;by_cases h1 : -m<=n
 . by_cases h2:n<=m
   . have h3:iN n m=true:=by simp [iN,h1,h2]
     exact T4
   . have h3:iN n m=false:=by simp [iN]; omega
     exact T4
 . have h3:iN n m=false:=by simp [iN]; omega
   exact T4
set_option maxHeartbeats 1000000 in
theorem as2(l:Ld)(w:World):Calls Tryz.prog 58 #[.agg #[.int .i64 l.aq,.int .i64 l.x,.int .i64 l.y,.int .i64 l.z]] w fun e w'=>e = .returned (.bool (fB l))/\cW w w':=by
 obtain⟨k,x,y,z⟩:=l;dsimp only;have HB:Hid (cW w (w.alloc (.cells #[.int .i64 k,.int .i64 x,.int .i64 y,.int .i64 z] 73))):=(Below.refl _ _).alloc (Nat.le_refl _) _;have HK:=Lib.hid (fun w1=>TZ k w1)
 cases hk:nw k with
 | false =>
  rw [hk] at HK;have hr:fB ⟨k,x,y,z⟩=false:=by unfold fB; rw [hk]; rfl
  rw [hr];clear hr hk
  go_enter Tryz.func58,Tryz.ntmps58
  go_wp2_with (go_at_call 59; refine (HK.out _).mono ?_; rintro e wx ⟨rfl,hx⟩; rw [hx]; clear hx wx HK)
  go_ret
  exact⟨rfl,HB.out⟩
 | true =>
  have h1:=vq.1 hk;have wm:IntKind.i64.wrap (k*1100000)=k*1100000:=wrap_i64 oo oo;obtain⟨m,hm⟩:∃ m,m=k*1100000:=⟨_,rfl⟩
  have HX:=aZ (fun w1=>DI x m oo oo w1);have HY:=aZ (fun w1=>DI y m oo oo w1);have HZ:=aZ (fun w1=>DI z m oo oo w1);have hr:fB ⟨k,x,y,z⟩=(iN x m&&(iN y m&&iN z m)):=by unfold fB; rw [hk,hm]; rfl
  rw [hk] at HK;rw [hr];rw [<- hm] at wm;have wm2:IntKind.i64.wrap (k*1100000)=m:=by rw [<- hm]; exact wm
  clear hr hk h1 hm wm;generalize iN x m=bx at HX ⊢;generalize iN y m=by_ at HY ⊢;generalize iN z m=bz at HZ ⊢
  cases bx with
  | false =>
   exact T5
  | true =>
   cases by_ with
   | false =>
    exact T5
   | true =>
    exact T5
theorem DJ:vU Tryz.prog 73 4:=Ld.row
theorem Bg:(Tryz.prog.info? 73).map (·.size)=some 4:=by kernel_rfl
def aed(w:World)(r:Ld×Int)(e:Ending)(w':World):Prop:=e = .returned (.tuple #[r.1.val,.int .i64 r.2])/\cW w w'
set_option maxHeartbeats 2000000 in
theorem as3(k x y z:Int)(w:World):Calls Tryz.prog 54 #[.int .i64 k,.int .i64 x,.int .i64 y,.int .i64 z] w (aed w (mG k x y z)):=by
 have tS:=aZ ((Mem.nil w).alloc 73 fi.cells);have HK:=aZ (fun w1=>TZ k w1);have HX:=aZ (fun w1=>DI x 1100000 oo oo w1);have HY:=aZ (fun w1=>DI y 1100000 oo oo w1);have HZ:=aZ (fun w1=>DI z 1100000 oo oo w1)
 cases hk:nw k with
 | false =>
  have HR:Hid (mG k x y z=(fi,2)):=by unfold Hid mG; rw [hk]; rfl
  rw [hk] at HK;clear hk
  exact Mq
 | true =>
  cases hx:iN x 1100000 with
  | false =>
   have HR:Hid (mG k x y z=(fi,2)):=by unfold Hid mG; rw [hk,hx]; rfl
   rw [hk] at HK;rw [hx] at HX;clear hk hx
   exact Mq
  | true =>
   cases hy:iN y 1100000 with
   | false =>
    have HR:Hid (mG k x y z=(fi,2)):=by unfold Hid mG; rw [hk,hx,hy]; rfl
    rw [hk] at HK;rw [hx] at HX;rw [hy] at HY;clear hk hx hy
    exact Mq
   | true =>
    cases hz:iN z 1100000 with
    | false =>
     have HR:Hid (mG k x y z=(fi,2)):=by unfold Hid mG; rw [hk,hx,hy,hz]; rfl
     rw [hk] at HK;rw [hx] at HX;rw [hy] at HY;rw [hz] at HZ;clear hk hx hy hz
     exact Mq
    | true =>
     have HR:Hid (mG k x y z=(⟨k,k*x,k*y,k*z⟩,0)):=by unfold Hid mG; rw [hk,hx,hy,hz]; rfl
     have hm:∀ n:Int,iN n 1100000=true->IntKind.i64.wrap (k*n)=k*n:=fun n hn=>by
      have h1:=vq.1 hk;have h2:=qX.1 hn;have h3:k*n<=k*1100000:=vI h2.2 h1.1;have h4:k*(-1100000)<=k*n:=vI h2.1 h1.1;exact wrap_i64 oo oo
     have mx:=hm x hx;have my:=hm y hy;have mz:=hm z hz;rw [hk] at HK;rw [hx] at HX;rw [hy] at HY;rw [hz] at HZ;clear hk hx hy hz hm
     go_enter Tryz.func54,Tryz.ntmps54
     go_wp2_with (first
      | (go_at_call 59; refine (HK.out _).mono ?_; rintro e wx ⟨rfl,hx⟩; rw [hx]; clear hx wx HK)
      | (go_at_call 119; refine (HX.out _).mono ?_; rintro e wx ⟨rfl,hx⟩; rw [hx]; clear hx wx HX)
      | (go_at_call 119; refine (HY.out _).mono ?_; rintro e wx ⟨rfl,hx⟩; rw [hx]; clear hx wx HY)
      | (go_at_call 119; refine (HZ.out _).mono ?_; rintro e wx ⟨rfl,hx⟩; rw [hx]; clear hx wx)
      | ((with_reducible refine xH 73 ?_); go_loud (refine xW (cs':=Ld.cells (⟨k,k*x,k*y,k*z⟩)) rfl _ _ rfl tS.out 0 rfl rfl rfl Bg rfl (Ld.len _) (Ld.len _) (Ld.one _) ?_); intro w6 h6))
     refine bodyPost_ret (G9 rfl _ rfl (h6.Cq DJ (Ld.len _) (i:=0) rfl _ (cu _ _))) rfl ⟨?_,h6.from_⟩;rw [HR.out];rfl
theorem as4(l:Ld)(w:World):Calls Tryz.prog 57 #[l.val] w fun e w'=>e = .returned (.bool (!fB l))/\cW w w':=by
 have HR:=aZ (fun w1=>as2 l w1);have HB:Hid (cW w (w.alloc (.cells (Ld.cells l).toArray 73))):=(cu _ _).alloc (aA _) _
 go_enter Tryz.func57,Tryz.ntmps57
 go_wp2_with (go_at_call 58; go_loud (refine (HR.out _).mono ?_); rintro e w2 ⟨rfl,hb⟩)
 go_ret
 exact⟨rfl,HB.out.trans (hb.mono HB.out.size)⟩
end Go.Proofs.YtamjbkaclhgffaaGreat
