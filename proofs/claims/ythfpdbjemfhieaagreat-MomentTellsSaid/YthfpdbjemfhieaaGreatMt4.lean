/-
  iso: which texts are right numbers.
-/
import Derived.Test.YthfpdbjemfhieaaGreatMt3
set_option linter.unusedVariables false
set_option linter.unusedSimpArgs false
namespace Go.Proofs.YthfpdbjemfhieaaGreat
open Go.RowKit
def letterB (b:Int):Bool:=decide (65<=b)&&decide (b<=90)
def groupB (b:Int):Bool:=b==85||b==74||b==90
def digitB (b:Int):Bool:=decide (48<=b)&&decide (b<=57)
def mayB (i:Nat) (b:Int):Bool:=if i<3 then letterB b else if i=3 then groupB b else digitB b
def byteAt (s:ByteArray) (i:Nat):Int:=((s.data[i]?.map fun c=>(c.toNat:Int)).getD 0)
def okAt (s:ByteArray) (i:Nat):Bool:=decide (i<11)&&mayB i (byteAt s i)
def formedB (s:ByteArray):Bool:=decide (∀ i,i<s.size->okAt s i=true)
def valI (b:Int):Int:=if digitB b then b - 48 else if letterB b then 10+(b - 65)+(b - 65+9) / 10 else 0
def isVB (b:Int):Bool:=digitB b||letterB b
def sumV (s:ByteArray):Nat->Int
 | 0=>0
 | n+1=>sumV s n+valI (byteAt s n)*2^n
theorem byteAt_get {s:ByteArray} {i:Nat} (h:i<s.size):byteAt s i=(s[i].toNat:Int):=by
 unfold byteAt;have:s.data[i]? = some s[i]:=Array.getElem?_eq_getElem h;rw [this];rfl
theorem byteAt_bd (s:ByteArray) (i:Nat):0<=byteAt s i/\byteAt s i<=255:=by
 unfold byteAt
 cases s.data[i]? with
 | none=>simp
 | some c=>have:=c.toNat_lt; simp; omega
theorem valI_bd {b:Int} (_h0:0<=b) (h:b<=255):0<=valI b/\valI b<=38:=by
 unfold valI digitB letterB;split
 . rename_i hd;simp at hd;omega
 . split
   . rename_i hl;simp at hl;omega
   . omega
theorem iso_value (b:Int) (w:World) (h0:0<=b) (h1:b<=255) :
 Calls Tryz.prog 278 #[.int .u8 b] w fun e w'=>e = .returned (.tuple #[.int .i64 (valI b),.bool (isVB b)])/\w=w':=by
 by_cases hd:48<=b/\b<=57
 . obtain⟨d1,d2⟩:=hd;have e:valI b=b - 48:=by unfold valI digitB; simp [d1,d2]
   have e2:isVB b=true:=by unfold isVB digitB; simp [d1,d2]
   have E:=Lib.hid e;have E2:=Lib.hid e2;clear e e2
   go_enter Tryz.func278,Tryz.ntmps278
   go_wp2
   go_ret2
   exact⟨by rw [E.out,E2.out]; rfl,rfl⟩
 . by_cases hl:65<=b/\b<=90
   . obtain⟨d1,d2⟩:=hl;have e:valI b=10+(b - 65)+(b - 65+9) / 10:=by
      unfold valI digitB letterB;rw [if_neg (by simp; omega),if_pos (by simp; omega)]
     have e2:isVB b=true:=by unfold isVB digitB letterB; simp [d1,d2]
     have E:=Lib.hid e;have E2:=Lib.hid e2;clear e e2 hd;have hd:decide (b<=57)=false:=by simp; omega
     go_enter Tryz.func278,Tryz.ntmps278
     go_wp2
     go_ret2
     exact⟨by rw [E.out,E2.out]; rfl,rfl⟩
   . have e:valI b=0:=by
      unfold valI digitB letterB;rw [if_neg (by simp; omega),if_neg (by simp; omega)]
     have e2:isVB b=false:=by unfold isVB digitB letterB; simp; omega
     have E:=Lib.hid e;have E2:=Lib.hid e2;clear e e2;rcases Int.lt_or_le b 48 with h48|h48
     . clear hd hl
       go_enter Tryz.func278,Tryz.ntmps278
       go_wp2
       go_ret2
       exact⟨by rw [E.out,E2.out]; rfl,rfl⟩
     . have h57:57<b:=by omega
       rcases Int.lt_or_le b 65 with h65|h65
       . clear hd hl
         go_enter Tryz.func278,Tryz.ntmps278
         go_wp2
         go_ret2
         exact⟨by rw [E.out,E2.out]; rfl,rfl⟩
       . have h90:90<b:=by omega
         clear hd hl
         go_enter Tryz.func278,Tryz.ntmps278
         go_wp2
         go_ret2
         exact⟨by rw [E.out,E2.out]; rfl,rfl⟩
theorem may1 (b:Int) (w:World) (h0:0<=b) (h1:b<=255):Calls Tryz.prog 279 #[.int .u8 b] w fun e w'=>e = .returned (.bool (letterB b))/\w=w':=by
 have HL:Hid (letterB b=(decide (65<=b)&&decide (b<=90))):=rfl
 go_enter Tryz.func279,Tryz.ntmps279
 rcases Int.lt_or_le b 65 with h|h
 . have hd:decide (65<=b)=false:=by simp; omega
   have HD:=Lib.hid hd
   go_wp2
   go_ret
   exact⟨by rw [HL.out,HD.out]; rfl,rfl⟩
 . have hd:decide (65<=b)=true:=by simp; omega
   have HD:=Lib.hid hd
   go_wp2
   go_ret
   exact⟨by rw [HL.out,HD.out]; rfl,rfl⟩
theorem may3 (b:Int) (w:World) (h0:0<=b) (h1:b<=255):Calls Tryz.prog 281 #[.int .u8 b] w fun e w'=>e = .returned (.bool (digitB b))/\w=w':=by
 have HL:Hid (digitB b=(decide (48<=b)&&decide (b<=57))):=rfl
 go_enter Tryz.func281,Tryz.ntmps281
 rcases Int.lt_or_le b 48 with h|h
 . have hd:decide (48<=b)=false:=by simp; omega
   have HD:=Lib.hid hd
   go_wp2
   go_ret
   exact⟨by rw [HL.out,HD.out]; rfl,rfl⟩
 . have hd:decide (48<=b)=true:=by simp; omega
   have HD:=Lib.hid hd
   go_wp2
   go_ret
   exact⟨by rw [HL.out,HD.out]; rfl,rfl⟩
theorem may2 (b:Int) (w:World) (h0:0<=b) (h1:b<=255):Calls Tryz.prog 280 #[.int .u8 b] w fun e w'=>e = .returned (.bool (groupB b))/\w=w':=by
 have HL:Hid (groupB b=((b==85||b==74)||b==90)):=rfl
 go_enter Tryz.func280,Tryz.ntmps280
 cases ha:(b==85) with
 | true =>
  have HD:=Lib.hid ha
  go_wp2
  go_ret
  exact⟨by rw [HL.out,HD.out]; rfl,rfl⟩
 | false =>
  have HD:=Lib.hid ha
  cases hb:(b==74) with
  | true =>
   have HB:=Lib.hid hb
   go_wp2
   go_ret
   exact⟨by rw [HL.out,HD.out,HB.out]; rfl,rfl⟩
  | false =>
   have HB:=Lib.hid hb
   go_wp2
   go_ret
   exact⟨by rw [HL.out,HD.out,HB.out]; rfl,rfl⟩
def mayCells:List Value := [.func (.func 279) #[] #[],.func (.func 279) #[] #[],.func (.func 279) #[] #[],.func (.func 280) #[] #[],.func (.func 281) #[] #[],.func (.func 281) #[] #[],.func (.func 281) #[] #[],.func (.func 281) #[] #[],.func (.func 281) #[] #[],.func (.func 281) #[] #[],.func (.func 281) #[] #[]]
theorem may_one:∀ u∈mayCells,u.oneCell'=true:=by simp [mayCells,Value.oneCell']
theorem iso_may (w:World):Calls Tryz.prog 277 #[] w fun e w'=>e = .returned (.agg mayCells.toArray)/\Below w.heap.size w w':=by
 go_enter Tryz.func277,Tryz.ntmps277
 go_wp2_with (refine wpList_st rfl _ _ rfl rfl rfl (n:=11) (cs:=mayCells) (by kernel_rfl) rfl rfl (heap_alloc_new w _) (by simp) may_one ?_; intro cur' w2 hl hs hg hgr)
 have hcur:cur'=mayCells.toArray:=by
  apply Array.ext';rw [hl];rfl
 subst hcur;refine bodyPost_ret (v := .agg mayCells.toArray) (results_cell_row rfl _ w2 w.heap.size _ _ _ _ rfl hg Tryz.underlying341 rfl (by kernel_rfl)) rfl ⟨rfl,?_⟩;exact ((Below.refl _ _).alloc (Nat.le_refl _) _).grown hgr (by simp) (fun k hk=>by injection hk with hk; omega)
theorem may_cf1 (w:World) (args:Array Value):(callFunc 279 args).run Tryz.prog w = .ok (.enter 279 args) w:=by go_simp
theorem may_cf2 (w:World) (args:Array Value):(callFunc 280 args).run Tryz.prog w = .ok (.enter 280 args) w:=by go_simp
theorem may_cf3 (w:World) (args:Array Value):(callFunc 281 args).run Tryz.prog w = .ok (.enter 281 args) w:=by go_simp
theorem may_at (k:Nat) (h:k<11):∃ f,mayCells[k]? = some (.func (.func f) #[] #[])/\(∀ w args,(callFunc f args).run Tryz.prog w = .ok (.enter f args) w) /\
 ∀ (b:Int) (w:World),0<=b->b<=255->Calls Tryz.prog f #[.int .u8 b] w fun e w'=>e = .returned (.bool (mayB k b))/\Below w.heap.size w w':=by
 have hk:k=0\/k=1\/k=2\/k=3\/k=4\/k=5\/k=6\/k=7\/k=8\/k=9\/k=10:=by omega
 have c1:∀ (b:Int) (w:World),0<=b->b<=255->Calls Tryz.prog 279 #[.int .u8 b] w fun e w'=>e = .returned (.bool (letterB b))/\Below w.heap.size w w':=fun b w h0 h1=>(may1 b w h0 h1).mono fun e w' ⟨he,hw⟩=>⟨he,hw▸Below.refl _ _⟩
 have c2:∀ (b:Int) (w:World),0<=b->b<=255->Calls Tryz.prog 280 #[.int .u8 b] w fun e w'=>e = .returned (.bool (groupB b))/\Below w.heap.size w w':=fun b w h0 h1=>(may2 b w h0 h1).mono fun e w' ⟨he,hw⟩=>⟨he,hw▸Below.refl _ _⟩
 have c3:∀ (b:Int) (w:World),0<=b->b<=255->Calls Tryz.prog 281 #[.int .u8 b] w fun e w'=>e = .returned (.bool (digitB b))/\Below w.heap.size w w':=fun b w h0 h1=>(may3 b w h0 h1).mono fun e w' ⟨he,hw⟩=>⟨he,hw▸Below.refl _ _⟩
 rcases hk with rfl|rfl|rfl|rfl|rfl|rfl|rfl|rfl|rfl|rfl|rfl
 . exact⟨_,rfl,may_cf1,c1⟩
 . exact⟨_,rfl,may_cf1,c1⟩
 . exact⟨_,rfl,may_cf1,c1⟩
 . exact⟨_,rfl,may_cf2,c2⟩
 all_goals exact⟨_,rfl,may_cf3,c3⟩
theorem okAt_eq {s:ByteArray} {k:Nat} (h:k<s.size):okAt s k=(decide (k<11)&&mayB k (s[k].toNat:Int)):=by
 unfold okAt;rw [byteAt_get h]
set_option maxHeartbeats 1000000 in
theorem iso_formed (s:ByteArray) (w:World) (hs:s.size<=140737488351232) :
 Calls Tryz.prog 274 #[.string s] w fun e w'=>e = .returned (.bool (formedB s))/\Below w.heap.size w w':=by
 have hfb:(∀ i,i<s.size->okAt s i=true)->formedB s=true:=fun h=>by unfold formedB; simp; exact h
 have hfn:∀ i,i<s.size->okAt s i=false->formedB s=false:=fun i h h2=>by
  unfold formedB;rw [decide_eq_false_iff_not];intro hall;rw [hall i h] at h2;cases h2
 have HFB:=Lib.hid hfb;have HFN:=Lib.hid hfn;clear hfb hfn
 go_enter Tryz.func274,Tryz.ntmps274
 go_wp2_with (first
  | (go_at_call 277; refine (iso_may _).mono ?_; rintro e w1 ⟨rfl,hb1⟩)
  | (refine wpList_st rfl _ _ rfl rfl rfl (n:=11) (cs:=mayCells) (by kernel_rfl) rfl rfl (heap_alloc_new w1 _) (by simp) may_one ?_; intro cur' w2 hl hs' hg hgr))
 have hcur:cur'=mayCells.toArray:=by
  apply Array.ext';rw [hl];rfl
 subst hcur;have hb2:Below w.heap.size w w2:=(hb1.alloc hb1.size _).grown hgr (by simp; have:=hb1.size; omega) (fun k hk=>by injection hk with hk; have:=hb1.size; omega);have hlt2:w1.heap.size<w2.heap.size:=(Array.getElem?_eq_some_iff.1 hg).1;have hcell:∀ w',From w2 w'->∀ i v,mayCells[i]? = some v->w'.cell? ⟨w1.heap.size,i,none⟩=some v:=fun w' hb i v hv=>by
  rw [cell_of_row w' w1.heap.size i _ _ _ ((hb.block _ hlt2).trans hg)];simpa using hv
 have HC:=Lib.hid hcell;have HB2:=Lib.hid hb2;clear hl hs' hg hgr hcell hb2
 go_loopw [4,8] (fun _ i wr=>∃ k:Nat,k<=s.size/\i = .int .i64 k/\(∀ j,j<k->okAt s j=true)/\From w2 wr) (fun _ i _=>s.size - (intOf i).toNat)
 case atStart=>exact⟨0,by omega,rfl,by omega,Below.refl _ _⟩
 case round =>
  obtain⟨k,hk,rfl,hj,hb⟩:=hrel;have HJ:=Lib.hid hj;clear hj;by_cases hlt:k<s.size
  . have hok:=okAt_eq hlt;have HOK:=Lib.hid hok;clear hok;by_cases h11:k<11
    . have hd:decide ((11:Int)<=(k:Int))=false:=by simp; omega
      obtain⟨f,hmf,hcf,hcall⟩:=may_at k h11;have hle:okAt s k=mayB k (s[k].toNat:Int):=by rw [HOK.out]; simp [h11]
      have HLE:=Lib.hid hle;have HLD:=Lib.hid (fun w' hb=>HC.out w' hb k _ hmf);have HCALL:=Lib.hid hcall;have hbd:(s[k].toNat:Int)<=255:=by have:=s[k].toNat_lt; omega
      clear hle hmf hcall
      go_wp2
      refine wp_region_below (by kernel_rfl) (by kernel_rfl) wr.heap.size ?_
      repeat (first|go_big_quiet_skip|(go_big_quiet_want; refine quiet_ld _ _ rfl _ rfl _ (fun w' hC=>run_load_cell Tryz.underlying312 rfl (HLD.out w' (hb.trans (hC.mono hb.size)))) ?_; simp only [Act.put,List.setIfInBounds_toArray,List.set_cons_succ,List.set_cons_zero]; go_big_quiet_on)|go_big_quiet_step (first|(intro hC; rfl)|(intro hC; exact⟨rfl,rfl⟩)|(intro hC; refine (HCALL.out _ _ (by omega) hbd).mono ?_; rintro e w' ⟨rfl,hb3⟩; exact⟨rfl,hC.trans (hb3.mono hC.size)⟩)))
      refine wpQuiet_nil ?_;intro w' hC
      cases hm:mayB k (s[k].toNat:Int) with
      | true =>
       have hok1:okAt s k=true:=by rw [HLE.out,hm]
       have HOK1:=Lib.hid hok1;clear hok1
       go_wp2
       go_roundw
       case rel =>
        refine⟨k+1,by omega,by go_num,fun j h => ?_,hb.trans (hC.mono hb.size)⟩;rcases Nat.lt_or_ge j k with h3|h3
        . exact HJ.out j h3
        . obtain rfl:j=k:=by omega
          exact HOK1.out
       case measure=>simp [intOf]; omega
      | false =>
       have hok1:okAt s k=false:=by rw [HLE.out,hm]
       have HBAD:=Lib.hid (HFN.out k hlt hok1);clear hok1
       go_wp2
       go_ret
       exact⟨by rw [HBAD.out]; rfl,HB2.out.trans ((hb.trans (hC.mono hb.size)).mono HB2.out.size)⟩
    . have hbad:okAt s k=false:=by rw [HOK.out]; simp [h11]
      have HBAD:=Lib.hid (HFN.out k hlt hbad);clear hbad;have hd:decide ((11:Int)<=(k:Int))=true:=by simp; omega
      go_wp2
      refine wp_region_below (by kernel_rfl) (by kernel_rfl) wr.heap.size ?_
      repeat (first|go_big_quiet_skip|go_big_quiet_step (first|(intro hC; rfl)|(intro hC; exact⟨rfl,rfl⟩)))
      refine wpQuiet_nil ?_;intro w' hC
      go_wp2
      go_ret
      exact⟨by rw [HBAD.out]; rfl,HB2.out.trans ((hb.trans (hC.mono hb.size)).mono HB2.out.size)⟩
  . obtain rfl:k=s.size:=by omega
    have HF:=Lib.hid (HFB.out HJ.out)
    go_wp2
    go_ret
    exact⟨by rw [HF.out]; rfl,HB2.out.trans (hb.mono HB2.out.size)⟩
theorem sumV_bd (s:ByteArray):∀ n,0<=sumV s n/\sumV s n<=38*(2^n - 1)
 | 0=>by simp [sumV]
 | n+1=>by
  have ih:=sumV_bd s n;have hb:=byteAt_bd s n;have hv:=valI_bd hb.1 hb.2;have hp:(0:Int)<2^n:=Int.pow_pos (by omega);have h1:valI (byteAt s n)*2^n<=38*2^n:=Int.mul_le_mul_of_nonneg_right hv.2 (by omega);have h0:0<=valI (byteAt s n)*2^n:=Int.mul_nonneg hv.1 (by omega);have e:(2:Int)^(n+1)=2*2^n:=by rw [Int.pow_succ]; omega
  unfold sumV;rw [e];omega
def digitV (s:ByteArray):Int:=48+sumV s s.size % 11 % 10
theorem pow_le {k:Nat} (h:k<10):(1:Int)<=2^k/\(2:Int)^k<=512:=by
 have hk:k=0\/k=1\/k=2\/k=3\/k=4\/k=5\/k=6\/k=7\/k=8\/k=9:=by omega
 rcases hk with rfl|rfl|rfl|rfl|rfl|rfl|rfl|rfl|rfl|rfl<;>decide
theorem digit_step {s:ByteArray} {k:Nat} (h:k<s.size) (hk:k<10):wrap64 (sumV s k+wrap64 (valI (s[k].toNat:Int)*2^k))=sumV s (k+1):=by
 have hb:=byteAt_bd s k;have hv:=valI_bd hb.1 hb.2;obtain⟨p1,p2⟩:=pow_le hk;have hs:=sumV_bd s k;have h1:valI (byteAt s k)*2^k<=38*2^k:=Int.mul_le_mul_of_nonneg_right hv.2 (by omega);have h0:0<=valI (byteAt s k)*2^k:=Int.mul_nonneg hv.1 (by omega);rw [<- byteAt_get h];rw [IntWalk.wrap64_in (valI (byteAt s k)*2^k) ⟨by omega,by omega⟩,IntWalk.wrap64_in _ ⟨by omega,by omega⟩];rfl
set_option maxHeartbeats 1000000 in
theorem iso_digit (s:ByteArray) (w:World) (hs:s.size<=10) :
 Calls Tryz.prog 275 #[.string s] w fun e w'=>e = .returned (.int .u8 (digitV s))/\w=w':=by
 go_enter Tryz.func275,Tryz.ntmps275
 go_wp2
 go_loop [3,9] (fun u i=>∃ k:Nat,k<=s.size/\i = .int .i64 k/\u = .int .i64 (sumV s k)) (fun _ i=>s.size - (intOf i).toNat)
 case atStart=>exact⟨0,by omega,rfl,rfl⟩
 case round =>
  obtain⟨k,hk,rfl,rfl⟩:=hrel;have hsb:=sumV_bd s k;obtain⟨sb1,sb2⟩:=hsb;by_cases hlt:k<s.size
  . have hbd:(s[k].toNat:Int)<=255:=by have:=s[k].toNat_lt; omega
    have hv:=valI_bd (b:=(s[k].toNat:Int)) (by omega) hbd;obtain⟨v1,v2⟩:=hv
    go_wp2_with (go_at_call 278; refine (iso_value _ _ (by omega) hbd).mono ?_; rintro e w' ⟨rfl,rfl⟩)
    go_round
    case rel=>exact⟨k+1,by omega,by go_num,by rw [digit_step hlt (by omega)]⟩
    case measure=>simp [intOf]; omega
  . obtain rfl:k=s.size:=by omega
    go_wp2
    go_ret
    exact⟨rfl,rfl⟩
theorem not_bne_int (x y:Int):(!(x != y))=decide (x=y):=by by_cases h:x=y<;>simp [h]
def isoB (s:ByteArray):Bool:=decide (s.size=11)&&formedB s&&decide (48+sumV s 10 % 11 % 10=byteAt s 10)
theorem byteAt_extract (s:ByteArray) (i:Nat) (h:i<10) (hs:10<=s.size):byteAt (s.extract 0 10) i=byteAt s i:=by
 have h1:i<(s.extract 0 10).size:=by simp; omega
 rw [byteAt_get h1,byteAt_get (by omega)];simp [ByteArray.getElem_extract]
theorem sumV_extract (s:ByteArray) (hs:10<=s.size):∀ n,n<=10->sumV (s.extract 0 10) n=sumV s n
 | 0,_=>rfl
 | n+1,h=>by
  unfold sumV;rw [sumV_extract s hs n (by omega),byteAt_extract s n (by omega) hs]
set_option maxHeartbeats 1000000 in
theorem iso_check (s:ByteArray) (w:World) (hs:s.size<=140737488351232) :
 Calls Tryz.prog 270 #[.string s] w fun e w'=>∃ n,e = .returned (.int .i64 n)/\(n==0)=isoB s/\Below w.heap.size w w':=by
 by_cases h11:s.size=11
 . have hne:((s.size:Int) != 11)=false:=by simp [h11]
   have hle:s.size<=11:=by omega
   have hge:10<s.size:=by omega
   have H11:=Lib.hid h11;clear h11
   cases hf:formedB s with
   | true =>
    have hx:(s.extract 0 10).size<=10:=by simp; omega
    have hres:∀ n:Int,(n==0) = !(digitV (s.extract 0 10) != (s[10].toNat:Int))->(n==0)=isoB s:=by
     intro n hn;rw [hn];unfold isoB digitV;have e1:(s.extract 0 10).size=10:=by simp; omega
     rw [e1,sumV_extract s (by omega) 10 (by omega),byteAt_get (s:=s) (i:=10) (by omega),hf,decide_eq_true H11.out];rw [not_bne_int];simp
    have HR:=Lib.hid hres;clear hres;have hix:∀ w,(Instr.index 9 (.string s) (.int .i64 10)).run Tryz.prog w = .ok (.int .u8 (s[10].toNat:Int)) w:=fun w=>by
     simp [Instr.index,asIntOf,run_underlying Tryz.underlying9,hge]
    go_enter Tryz.func270,Tryz.ntmps270
    go_wp2_with (go_at_call 274; refine (iso_formed s _ hs).mono ?_; rintro e w1 ⟨rfl,hb1⟩)
    refine wp_region_below (by kernel_rfl) (by kernel_rfl) w1.heap.size ?_
    repeat (first|go_big_quiet_skip|go_big_quiet_step (first|(intro hC; rfl)|(intro hC; exact⟨rfl,rfl⟩)|(intro hC; refine (iso_digit _ _ hx).mono ?_; rintro e w' ⟨rfl,rfl⟩; exact⟨rfl,hC⟩)))
    refine wpQuiet_nil ?_;intro w' hC
    cases hq:(digitV (s.extract 0 10) != (s[10].toNat:Int)) with
    | true =>
     have HQ:=Lib.hid hq
     go_wp2
     go_ret
     exact⟨31,rfl,HR.out 31 (by rw [HQ.out]; rfl),hb1.trans (hC.mono hb1.size)⟩
    | false =>
     have HQ:=Lib.hid hq
     go_wp2
     go_ret
     exact⟨0,rfl,HR.out 0 (by rw [HQ.out]; rfl),hb1.trans (hC.mono hb1.size)⟩
   | false =>
    have HI:Hid (isoB s=false):=by unfold Hid isoB; rw [hf]; simp
    go_enter Tryz.func270,Tryz.ntmps270
    go_wp2_with (go_at_call 274; refine (iso_formed s _ hs).mono ?_; rintro e w1 ⟨rfl,hb1⟩)
    go_ret
    exact⟨30,rfl,by rw [HI.out]; rfl,hb1⟩
 . have hne:((s.size:Int) != 11)=true:=by simp; omega
   have HI:Hid (isoB s=false):=by unfold Hid isoB; simp [h11]
   go_enter Tryz.func270,Tryz.ntmps270
   go_wp2
   go_ret
   exact⟨30,rfl,by rw [HI.out]; rfl,Below.refl _ _⟩
theorem iso_right (s:ByteArray) (w:World) (hs:s.size<=140737488351232) :
 Calls Tryz.prog 244 #[.string s] w fun e w'=>e = .returned (.bool (isoB s))/\Below w.heap.size w w':=by
 go_enter Tryz.func244,Tryz.ntmps244
 go_wp2_with (go_at_call 270; refine (iso_check s _ hs).mono ?_; rintro e w' ⟨n,rfl,hn,hb⟩; have HN:=Lib.hid hn; clear hn)
 go_ret
 exact⟨by rw [<- HN.out]; rfl,hb⟩
def letV (k:Nat):Int:=10+(k:Int)+((k:Int)+9) / 10
set_option maxHeartbeats 1000000 in
theorem ref_letter (b:Int) (w:World) (h0:65<=b) (h1:b<=90) :
 Calls Tryz.prog 273 #[.int .u8 b] w fun e w'=>e = .returned (.int .i64 (10+(b - 65)+(b - 65+9) / 10))/\w=w':=by
 go_enter Tryz.func273,Tryz.ntmps273
 go_wp2
 go_loop [3,4] (fun n c=>∃ k:Nat,(k:Int)<=b - 65/\c = .int .u8 (65+(k:Int))/\n = .int .i64 (letV k)) (fun _ c=>(b - intOf c).toNat)
 case atStart=>exact⟨0,by omega,rfl,rfl⟩
 case round =>
  obtain⟨k,hk,rfl,rfl⟩:=hrel;have hv:letV k=10+(k:Int)+((k:Int)+9) / 10:=rfl;have hv2:letV (k+1)=10+((k:Int)+1)+((k:Int)+10) / 10:=by unfold letV; omega
  have hb1:10<=letV k:=by omega
  have hb2:letV k<=40:=by omega
  by_cases hlt:65+(k:Int)<b
  . by_cases hm:(letV k+1) % 11=0
    . have hm':((letV k+1) % 11==0)=true:=by simp [hm]
      have e:letV (k+1)=letV k+1+1:=by omega
      have HE:=Lib.hid e;clear e hv hv2 hm
      go_wp2
      go_round
      case rel=>exact⟨k+1,by omega,by go_num,by rw [HE.out]⟩
      case measure=>simp [intOf]; omega
    . have hm':((letV k+1) % 11==0)=false:=by simp [hm]
      have e:letV (k+1)=letV k+1:=by omega
      have HE:=Lib.hid e;clear e hv hv2 hm
      go_wp2
      go_round
      case rel=>exact⟨k+1,by omega,by go_num,by rw [HE.out]⟩
      case measure=>simp [intOf]; omega
  . have e:letV k=10+(b - 65)+(b - 65+9) / 10:=by rw [hv]; omega
    have HE:=Lib.hid e;clear e hv hv2
    go_wp2
    go_ret
    exact⟨ret_int HE.out,rfl⟩
theorem isoB_bad {s:ByteArray} {k:Nat} (h11:s.size=11) (hk:k<s.size) (h:okAt s k=false):isoB s=false:=by
 unfold isoB formedB;have:¬ ∀ i,i<s.size->okAt s i=true:=fun hall=>by rw [hall k hk] at h; cases h
 simp [this]
theorem isoB_end {s:ByteArray} (h11:s.size=11) (h:∀ j,j<10->okAt s j=true):isoB s=(byteAt s 10 - 48==sumV s 10 % 11 % 10):=by
 have h10:=sumV_bd s 10;unfold isoB;by_cases he:byteAt s 10 - 48=sumV s 10 % 11 % 10
 . have hf:formedB s=true:=by
    unfold formedB;rw [decide_eq_true_eq];intro i hi;rcases Nat.lt_or_ge i 10 with h1|h1
    . exact h i h1
    . obtain rfl:i=10:=by omega
      unfold okAt mayB digitB;simp;omega
   rw [hf];simp [h11,he];omega
 . have:¬ 48+sumV s 10 % 11 % 10=byteAt s 10:=by omega
   simp [this,he]
theorem valI_letter {b:Int} (h:65<=b/\b<=90):valI b=10+(b - 65)+(b - 65+9) / 10:=by
 unfold valI digitB letterB;rw [if_neg (by simp; omega),if_pos (by simp; omega)]
theorem valI_digit {b:Int} (h:48<=b/\b<=57):valI b=b - 48:=by
 unfold valI digitB;rw [if_pos (by simp; omega)]
theorem wrap64_id' {x:Int} (h1 : -1000000<=x) (h2:x<=1000000):wrap64 x=x:=by unfold wrap64; omega
set_option maxHeartbeats 4000000 in
theorem ref_number (s:ByteArray) (w:World) (hs:s.size<=140737488351232) :
 Calls Tryz.prog 254 #[.string s] w fun e w'=>e = .returned (.bool (isoB s))/\w=w':=by
 by_cases h11:s.size=11
 . have hne:((s.size:Int) != 11)=false:=by simp [h11]
   have hge:10<s.size:=by omega
   have hle:s.size<=11:=by omega
   have H11:=Lib.hid h11;clear h11
   go_enter Tryz.func254,Tryz.ntmps254
   go_wp2
   clear hne
   go_loop [3,4] (fun u i=>∃ k:Nat,k<=10/\i = .int .i64 k/\u = .int .i64 (sumV s k)/\∀ j,j<k->okAt s j=true) (fun _ i=>10 - (intOf i).toNat)
   case atStart=>exact⟨0,by omega,rfl,rfl,by omega⟩
   case round =>
    obtain⟨k,hk,rfl,rfl,hj⟩:=hrel;have HJ:=Lib.hid hj;have hsb:=sumV_bd s k;obtain⟨sb1,sb2⟩:=hsb;clear hj;by_cases hlt:k<10
    . have hok:=okAt_eq (s:=s) (k:=k) (by omega);have hstep:=digit_step (s:=s) (k:=k) (by omega) hlt;obtain⟨c,hc⟩:∃ c:Int,c=(s[k].toNat:Int):=⟨_,rfl⟩
      have hc0:0<=c:=by omega
      have hc255:c<=255:=by have:=s[k].toNat_lt; omega
      rw [<- hc] at hok hstep;have HOK:=Lib.hid hok;have HST:=Lib.hid hstep;have hcs:=hc.symm;clear hok hstep hc
      cases hm:mayB k c with
      | true =>
       have hok1:okAt s k=true:=by rw [HOK.out,hm]; simp; omega
       have HOK1:=Lib.hid hok1;have hcases:(k<3/\65<=c/\c<=90)\/(k=3/\c=85)\/(k=3/\c=74)\/(k=3/\c=90)\/(3<k/\48<=c/\c<=57):=by
        unfold mayB letterB groupB digitB at hm;split at hm
        . simp at hm; omega
        . split at hm
          . simp at hm; omega
          . simp at hm; omega
       clear hok1 hm;rcases hcases with ⟨a1,a2,a3⟩|⟨a1,a2⟩|⟨a1,a2⟩|⟨a1,a2⟩|⟨a1,a2,a3⟩
       . have b1:((k:Int)==3)=false:=by simp; omega
         have hv:10+(c - 65)+(c - 65+9) / 10=valI c:=(valI_letter (by omega)).symm;have HV0:Hid (0<=valI c):=by unfold Hid; rw [<- hv]; omega
         have HV1:Hid (valI c<=38):=by unfold Hid; rw [<- hv]; omega
         have HV:=Lib.hid hv;clear hv
         go_wp2_with (go_at_call 273; refine (ref_letter _ _ (by omega) (by omega)).mono ?_; rintro _ _ ⟨rfl,rfl⟩)
         go_loop [6,7] (fun v t=>∃ j:Nat,j<=k/\t = .int .i64 j/\v = .int .i64 (valI c*2^j)) (fun _ t=>k - (intOf t).toNat)
         case atStart=>exact⟨0,by omega,rfl,by rw [<- HV.out]; simp only [Int.pow_zero,Int.mul_one]⟩
         case round =>
          obtain⟨j,hjk,rfl,rfl⟩:=hrel;have hb1:0<=valI c*2^j:=Int.mul_nonneg HV0.out (by have:=(pow_le (k:=j) (by omega)).1; omega);have hb2:valI c*2^j<=38*512:=Int.mul_le_mul HV1.out (pow_le (k:=j) (by omega)).2 (by have:=(pow_le (k:=j) (by omega)).1; omega) (by omega);by_cases hj2:j<k
          . have he:2*(valI c*2^j)=valI c*2^(j+1):=by rw [Int.pow_succ]; ac_rfl
            have HE:=Lib.hid he;clear he
            go_wp2
            go_round
            case rel=>exact⟨j+1,by omega,by go_num,by rw [<- HE.out]⟩
            case measure=>simp [intOf]<;>omega
          . obtain rfl:j=k:=by omega
            have hx:wrap64 (sumV s j+valI c*2^j)=sumV s (j+1):=by
             have:=HST.out;rwa [wrap64_id' (x:=valI c*2^j) (by omega) (by omega)] at this
            have HX:=Lib.hid hx;clear hx
            go_wp2
            go_round
            case rel=>exact⟨j+1,by omega,by go_num,by rw [<- HX.out],fun i hi=>by
             rcases Nat.lt_or_ge i j with h1|h1
             . exact HJ.out i h1
             . obtain rfl:i=j:=by omega
               exact HOK1.out⟩
            case measure=>simp [intOf]<;>omega
       . subst a1;subst a2;have hx:sumV s (3+1)=sumV s 3+256:=by
          have h1:=HST.out;have h2:wrap64 (valI 85*2^3)=256:=by rw [valI_letter (by omega),wrap64_id' (by omega) (by omega)]; rfl
          rwa [h2,wrap64_id' (by omega) (by omega),eq_comm] at h1
         have HX:=Lib.hid hx;clear hx
         go_wp2_with (go_at_call 273; refine (ref_letter _ _ (by omega) (by omega)).mono ?_; rintro _ _ ⟨rfl,rfl⟩)
         go_loop [6,7] (fun v t=>∃ j:Nat,j<=3/\t = .int .i64 j/\v = .int .i64 (32*2^j)) (fun _ t=>3 - (intOf t).toNat)
         case atStart=>exact⟨0,by omega,rfl,rfl⟩
         case round =>
          obtain⟨j,hjk,rfl,rfl⟩:=hrel;rcases (by omega:j=3\/j=0\/j=1\/j=2) with rfl|rfl|rfl|rfl
          . go_wp2
            go_round
            case rel=>exact⟨3+1,by omega,by go_num,by rw [HX.out],fun i hi=>by
             rcases Nat.lt_or_ge i 3 with h1|h1
             . exact HJ.out i h1
             . obtain rfl:i=3:=by omega
               exact HOK1.out⟩
            case measure=>simp [intOf]<;>omega
          . go_wp2
            go_round
            case rel=>exact⟨1,by omega,by go_num,by go_num⟩
            case measure=>simp [intOf]<;>omega
          . go_wp2
            go_round
            case rel=>exact⟨2,by omega,by go_num,by go_num⟩
            case measure=>simp [intOf]<;>omega
          . go_wp2
            go_round
            case rel=>exact⟨3,by omega,by go_num,by go_num⟩
            case measure=>simp [intOf]<;>omega
       . subst a1;subst a2;have hx:sumV s (3+1)=sumV s 3+160:=by
          have h1:=HST.out;have h2:wrap64 (valI 74*2^3)=160:=by rw [valI_letter (by omega),wrap64_id' (by omega) (by omega)]; rfl
          rwa [h2,wrap64_id' (by omega) (by omega),eq_comm] at h1
         have HX:=Lib.hid hx;clear hx
         go_wp2_with (go_at_call 273; refine (ref_letter _ _ (by omega) (by omega)).mono ?_; rintro _ _ ⟨rfl,rfl⟩)
         go_loop [6,7] (fun v t=>∃ j:Nat,j<=3/\t = .int .i64 j/\v = .int .i64 (20*2^j)) (fun _ t=>3 - (intOf t).toNat)
         case atStart=>exact⟨0,by omega,rfl,rfl⟩
         case round =>
          obtain⟨j,hjk,rfl,rfl⟩:=hrel;rcases (by omega:j=3\/j=0\/j=1\/j=2) with rfl|rfl|rfl|rfl
          . go_wp2
            go_round
            case rel=>exact⟨3+1,by omega,by go_num,by rw [HX.out],fun i hi=>by
             rcases Nat.lt_or_ge i 3 with h1|h1
             . exact HJ.out i h1
             . obtain rfl:i=3:=by omega
               exact HOK1.out⟩
            case measure=>simp [intOf]<;>omega
          . go_wp2
            go_round
            case rel=>exact⟨1,by omega,by go_num,by go_num⟩
            case measure=>simp [intOf]<;>omega
          . go_wp2
            go_round
            case rel=>exact⟨2,by omega,by go_num,by go_num⟩
            case measure=>simp [intOf]<;>omega
          . go_wp2
            go_round
            case rel=>exact⟨3,by omega,by go_num,by go_num⟩
            case measure=>simp [intOf]<;>omega
       . subst a1;subst a2;have hx:sumV s (3+1)=sumV s 3+304:=by
          have h1:=HST.out;have h2:wrap64 (valI 90*2^3)=304:=by rw [valI_letter (by omega),wrap64_id' (by omega) (by omega)]; rfl
          rwa [h2,wrap64_id' (by omega) (by omega),eq_comm] at h1
         have HX:=Lib.hid hx;clear hx
         go_wp2_with (go_at_call 273; refine (ref_letter _ _ (by omega) (by omega)).mono ?_; rintro _ _ ⟨rfl,rfl⟩)
         go_loop [6,7] (fun v t=>∃ j:Nat,j<=3/\t = .int .i64 j/\v = .int .i64 (38*2^j)) (fun _ t=>3 - (intOf t).toNat)
         case atStart=>exact⟨0,by omega,rfl,rfl⟩
         case round =>
          obtain⟨j,hjk,rfl,rfl⟩:=hrel;rcases (by omega:j=3\/j=0\/j=1\/j=2) with rfl|rfl|rfl|rfl
          . go_wp2
            go_round
            case rel=>exact⟨3+1,by omega,by go_num,by rw [HX.out],fun i hi=>by
             rcases Nat.lt_or_ge i 3 with h1|h1
             . exact HJ.out i h1
             . obtain rfl:i=3:=by omega
               exact HOK1.out⟩
            case measure=>simp [intOf]<;>omega
          . go_wp2
            go_round
            case rel=>exact⟨1,by omega,by go_num,by go_num⟩
            case measure=>simp [intOf]<;>omega
          . go_wp2
            go_round
            case rel=>exact⟨2,by omega,by go_num,by go_num⟩
            case measure=>simp [intOf]<;>omega
          . go_wp2
            go_round
            case rel=>exact⟨3,by omega,by go_num,by go_num⟩
            case measure=>simp [intOf]<;>omega
       . have b1:((k:Int)==3)=false:=by simp; omega
         have hv:c - 48=valI c:=(valI_digit (by omega)).symm;have HV0:Hid (0<=valI c):=by unfold Hid; rw [<- hv]; omega
         have HV1:Hid (valI c<=38):=by unfold Hid; rw [<- hv]; omega
         have HV:=Lib.hid hv;clear hv
         go_wp2
         go_loop [6,7] (fun v t=>∃ j:Nat,j<=k/\t = .int .i64 j/\v = .int .i64 (valI c*2^j)) (fun _ t=>k - (intOf t).toNat)
         case atStart=>exact⟨0,by omega,rfl,by rw [<- HV.out]; simp only [Int.pow_zero,Int.mul_one]⟩
         case round =>
          obtain⟨j,hjk,rfl,rfl⟩:=hrel;have hb1:0<=valI c*2^j:=Int.mul_nonneg HV0.out (by have:=(pow_le (k:=j) (by omega)).1; omega);have hb2:valI c*2^j<=38*512:=Int.mul_le_mul HV1.out (pow_le (k:=j) (by omega)).2 (by have:=(pow_le (k:=j) (by omega)).1; omega) (by omega);by_cases hj2:j<k
          . have he:2*(valI c*2^j)=valI c*2^(j+1):=by rw [Int.pow_succ]; ac_rfl
            have HE:=Lib.hid he;clear he
            go_wp2
            go_round
            case rel=>exact⟨j+1,by omega,by go_num,by rw [<- HE.out]⟩
            case measure=>simp [intOf]<;>omega
          . obtain rfl:j=k:=by omega
            have hx:wrap64 (sumV s j+valI c*2^j)=sumV s (j+1):=by
             have:=HST.out;rwa [wrap64_id' (x:=valI c*2^j) (by omega) (by omega)] at this
            have HX:=Lib.hid hx;clear hx
            go_wp2
            go_round
            case rel=>exact⟨j+1,by omega,by go_num,by rw [<- HX.out],fun i hi=>by
             rcases Nat.lt_or_ge i j with h1|h1
             . exact HJ.out i h1
             . obtain rfl:i=j:=by omega
               exact HOK1.out⟩
            case measure=>simp [intOf]<;>omega
      | false =>
       have hok1:okAt s k=false:=by rw [HOK.out,hm]; simp
       have HB:=Lib.hid (isoB_bad H11.out (by omega) hok1);have hcases:(k<3/\c<65)\/(k<3/\90<c)\/(k=3/\c<65)\/(k=3/\90<c)\/(k=3/\65<=c/\c<=90/\c≠85/\c≠74/\c≠90)\/(3<k/\c<48)\/(3<k/\57<c):=by
        unfold mayB letterB groupB digitB at hm;split at hm
        . simp at hm; omega
        . split at hm
          . simp at hm; omega
          . simp at hm; omega
       clear hok1 hm;rcases hcases with ⟨a1,a2⟩|⟨a1,a2⟩|⟨a1,a2⟩|⟨a1,a2⟩|⟨a1,a2,a3,a4,a5,a6⟩|⟨a1,a2⟩|⟨a1,a2⟩
       . go_wp2
         go_ret
         exact⟨by rw [HB.out]; rfl,rfl⟩
       . go_wp2
         go_ret
         exact⟨by rw [HB.out]; rfl,rfl⟩
       . subst a1
         go_wp2
         go_ret
         exact⟨by rw [HB.out]; rfl,rfl⟩
       . subst a1
         go_wp2
         go_ret
         exact⟨by rw [HB.out]; rfl,rfl⟩
       . subst a1;have b1:(c != 85)=true:=by simpa using a4
         have b2:(c != 74)=true:=by simpa using a5
         have b3:(c != 90)=true:=by simpa using a6
         clear a4 a5 a6
         go_wp2
         go_ret
         exact⟨by rw [HB.out]; rfl,rfl⟩
       . have b1:((k:Int)==3)=false:=by simp; omega
         go_wp2
         go_ret
         exact⟨by rw [HB.out]; rfl,rfl⟩
       . have b1:((k:Int)==3)=false:=by simp; omega
         go_wp2
         go_ret
         exact⟨by rw [HB.out]; rfl,rfl⟩
    . obtain rfl:k=10:=by omega
      have hend:=isoB_end H11.out HJ.out;have hix:∀ w,(Instr.index 9 (.string s) (.int .i64 10)).run Tryz.prog w = .ok (.int .u8 (byteAt s 10)) w:=fun w=>by
       rw [byteAt_get hge];simp [Instr.index,asIntOf,run_underlying Tryz.underlying9,hge]
      have HEND:=Lib.hid hend;have hbb:=byteAt_bd s 10;obtain⟨bb1,bb2⟩:=hbb;clear hend
      go_wp2
      go_ret
      exact⟨by rw [HEND.out]; rfl,rfl⟩
 . have hne:((s.size:Int) != 11)=true:=by simp; omega
   have HI:Hid (isoB s=false):=by unfold Hid isoB; simp [h11]
   go_enter Tryz.func254,Tryz.ntmps254
   go_wp2
   go_ret
   exact⟨by rw [HI.out]; rfl,rfl⟩
structure Mid where
 box:Box
 x:Int
 y:Int
 h:Int
deriving DecidableEq
theorem map_get2 {α β:Type} (f : α -> β) (l:List α) (k:Nat) (h:k<l.length):(l.map f)[k]? = some (f l[k]):=by simp [h]
set_option maxHeartbeats 1000000 in
theorem indexLd (A:Option Addr) (c:Nat) (l:List Ld) (n:Nat) (hn:n=l.length) (fn:FuncId) (caps:Array Value) (p:Ld->Bool) (w:World) (hA:Rd w w.heap.size 4 A (l.map Ld.cells)) (hl:l.length<=1000000000000) (hcf:∀ w args,(callFunc fn args).run Tryz.prog w = .ok (.enter fn args) w) (hf:Tells Tryz.prog w fn caps Ld.val p l) :
 Calls Tryz.prog 142 #[.slice A n c,.func (.func fn) #[] caps] w fun e w'=>e = .returned (.int .i64 (idx p l))/\Below w.heap.size w w':=by
 subst hn
 go_enter Tryz.func142,Tryz.ntmps142
 go_wp2
 have HF:=Lib.hid hf;clear hf
 go_loopw [5,8] (fun _ i wr=>∃ k:Nat,k<=l.length/\i = .int .i64 k/\(∀ j,(h:j<k)->(h2:j<l.length)->p l[j]=false)/\Below w.heap.size w wr) (fun _ i _=>l.length - (intOf i).toNat)
 case atStart=>exact⟨0,by omega,rfl,by omega,Below.refl _ _⟩
 case round =>
  obtain⟨k,hk,rfl,hj,hb⟩:=hrel;have HJ:=Lib.hid hj;clear hj;by_cases hlt:k<l.length
  . obtain⟨b,off,rfl,hb1,hld⟩:=Ld.ld hA (map_get2 Ld.cells l k hlt);have HL:=Lib.hid hld;clear hld
    go_wp2_with (first
     | (refine wpList_ld rfl _ _ rfl _ rfl _ (HL.out _ hb) ?_)
     | (refine (HF.out l[k] (List.getElem_mem hlt) _ hb).mono ?_; rintro e w' ⟨rfl,hb3⟩))
    . have ht:p l[k]=true:=by assumption
      go_ret
      exact⟨by rw [idx_found hlt (fun j h=>HJ.out j h (by omega)) ht]; rfl,hb.trans (hb3.mono hb.size)⟩
    . have hf':p l[k]=false:=by assumption
      go_roundw
      case rel =>
       refine⟨k+1,by omega,by go_num,fun j h h2 => ?_,hb.trans (hb3.mono hb.size)⟩;rcases Nat.lt_or_ge j k with h3|h3
       . exact HJ.out j h3 h2
       . obtain rfl:j=k:=by omega
         exact hf'
      case measure=>simp [intOf]; omega
  . obtain rfl:k=l.length:=by omega
    have HI:=Lib.hid (idx_none (fun j h=>HJ.out j h h))
    go_wp2
    go_ret
    exact⟨by rw [HI.out]; rfl,hb⟩
theorem any_idx {α:Type} (p : α->Bool) (l:List α):l.any p=decide (0<=idx p l):=by
 rcases idx_cases p l with ⟨h1,h2⟩|⟨k,hk,h1,h2,_⟩
 . have h3:l.any p=false:=by
    rw [List.any_eq_false];intro x hx;simp [h2 x hx]
   rw [h1,h3];rfl
 . have h3:l.any p=true:=by
    rw [List.any_eq_true];exact⟨_,List.getElem_mem hk,h2⟩
   rw [h1,h3];simp
theorem containsLd (A:Option Addr) (c:Nat) (l:List Ld) (n:Nat) (hn:n=l.length) (fn:FuncId) (caps:Array Value) (p:Ld->Bool) (w:World) (hA:Rd w w.heap.size 4 A (l.map Ld.cells)) (hl:l.length<=1000000000000) (hcf:∀ w args,(callFunc fn args).run Tryz.prog w = .ok (.enter fn args) w) (hf:Tells Tryz.prog w fn caps Ld.val p l) :
 Calls Tryz.prog 72 #[.slice A n c,.func (.func fn) #[] caps] w fun e w'=>e = .returned (.bool (l.any p))/\Below w.heap.size w w':=by
 have HI:=Lib.hid (indexLd A c l n hn fn caps p w hA hl hcf hf);rw [any_idx];generalize idx p l=z at HI ⊢;clear hA hn hl hcf hf
 go_enter Tryz.func72,Tryz.ntmps72
 go_wp2_with (go_at_call 142; refine (HI.out).mono ?_; rintro e w2 ⟨rfl,hb2⟩)
 go_ret
 exact⟨by first|rfl|simp,hb2⟩
end Go.Proofs.YthfpdbjemfhieaaGreat
namespace Go.Proofs.YthfpdbjemfhieaaGreat
def noText:ByteArray:=⟨#[]⟩
structure Col where
 bay:Int
 row:Int
 deck:Bool
 tiers:Int
 height:Int
 k20:Int
 k40:Int
 lash:Int
 plugs:List Int
 x:Int
 y:Int
 z:Int
deriving DecidableEq
structure Cov where
 bay:Int
 rows:List Int
deriving DecidableEq
structure Hrow where
 draught:Int
 kilos:Int
 buoy:Int
 mc:Int
 turn:Int
deriving DecidableEq
structure Tnk where
 kilos:Int
 x:Int
 y:Int
 z:Int
 surface:Int
 steps:List Int
deriving DecidableEq
structure Colq where
 bay:Int
 row:Int
 deck:Bool
 tiers:Int
 height:Int
 k20:Int
 k40:Int
 lash:Int
 plugs:List Int
 plugsN:Nat
 x:Int
 y:Int
 z:Int
deriving DecidableEq
structure Covq where
 bay:Int
 rows:List Int
 rowsN:Nat
deriving DecidableEq
structure Tnkq where
 kilos:Int
 x:Int
 y:Int
 z:Int
 surface:Int
 steps:List Int
 stepsN:Nat
deriving DecidableEq
structure Plc where
 bay:Int
 row:Int
 tiers:Int
 deck:Bool
deriving DecidableEq
structure Drp where
 col:Int
 kilos:Int
 small:Bool
 high:Bool
deriving DecidableEq
structure Wgt where
 kilos:Int
 x:Int
 y:Int
 z:Int
deriving DecidableEq
inductive Tc where
 | int|u8|u32|box|stowed|slot|ld|spn|col|cov|mid|hrow|frm|tnk|colq|covq|tnkq|plc|drp|wgt
deriving DecidableEq
abbrev Tc.el:Tc->Type
 | .int=>Int
 | .u8=>Int
 | .u32=>Int
 | .box=>Box
 | .stowed=>Stowed
 | .slot=>Slot
 | .ld=>Ld
 | .spn=>Spn
 | .col=>Col
 | .cov=>Cov
 | .mid=>Mid
 | .hrow=>Hrow
 | .frm=>Frm
 | .tnk=>Tnk
 | .colq=>Colq
 | .covq=>Covq
 | .tnkq=>Tnkq
 | .plc=>Plc
 | .drp=>Drp
 | .wgt=>Wgt
def Tc.size:Tc->Nat
 | .int=>1
 | .u8=>1
 | .u32=>1
 | .box=>9
 | .stowed=>4
 | .slot=>3
 | .ld=>4
 | .spn=>3
 | .col=>12
 | .cov=>2
 | .mid=>12
 | .hrow=>5
 | .frm=>5
 | .tnk=>6
 | .colq=>12
 | .covq=>2
 | .tnkq=>6
 | .plc=>4
 | .drp=>4
 | .wgt=>4
def Tc.dflt:(t:Tc)->t.el
 | .int=>(0:Int)
 | .u8=>(0:Int)
 | .u32=>(0:Int)
 | .box=>(⟨0,noText,0,false,0,0,0,0,false⟩:Box)
 | .stowed=>(⟨0,0,0,0⟩:Stowed)
 | .slot=>(⟨0,0,0⟩:Slot)
 | .ld=>(⟨0,0,0,0⟩:Ld)
 | .spn=>(⟨0,0,0⟩:Spn)
 | .col=>(⟨0,0,false,0,0,0,0,0,[],0,0,0⟩:Col)
 | .cov=>(⟨0,[]⟩:Cov)
 | .mid=>(⟨⟨0,noText,0,false,0,0,0,0,false⟩,0,0,0⟩:Mid)
 | .hrow=>(⟨0,0,0,0,0⟩:Hrow)
 | .frm=>(⟨0,0,0,0,0⟩:Frm)
 | .tnk=>(⟨0,0,0,0,0,[]⟩:Tnk)
 | .colq=>(⟨0,0,false,0,0,0,0,0,[],0,0,0,0⟩:Colq)
 | .covq=>(⟨0,[],0⟩:Covq)
 | .tnkq=>(⟨0,0,0,0,0,[],0⟩:Tnkq)
 | .plc=>(⟨0,0,0,false⟩:Plc)
 | .drp=>(⟨0,0,false,false⟩:Drp)
 | .wgt=>(⟨0,0,0,0⟩:Wgt)
open Go.RowKit
theorem ok_load {P:Program} {ρ:Operand->Value} {d:Option Nat} {T ty:TypeId} {x:Operand} {pos:String} {aft:Array Edge} {gd:Option (Nat×Bool)} {ad:Addr} {v:Value} {w:World} (hx : ρ x = .pointer (some ad)) (h:(loadVar T ad).run P w = .ok v w) :
 (execOp ρ ⟨d,.load T x,ty,pos,aft,gd⟩).run P w = .ok (.value v) w:=by
 unfold execOp;simp only [hx,Instr.loadAt,Instr.sureAddr,Sem.run_bind,Sem.run_pure,Result.andThen_ok,h]
theorem ok_move {P:Program} {ρ:Operand->Value} {d:Option Nat} {ty:TypeId} {x:Operand} {pos:String} {aft:Array Edge} {gd:Option (Nat×Bool)} {v:Value} {w:World} (hx : ρ x=v):(execOp ρ ⟨d,.move x,ty,pos,aft,gd⟩).run P w = .ok (.value v) w:=by
 subst hx; rfl
theorem ok_assign {P:Program} {ρ:Operand->Value} {d:Option Nat} {ty:TypeId} {x:Operand} {pos:String} {aft:Array Edge} {gd:Option (Nat×Bool)} {v:Value} {w:World} (hx : ρ x=v):(execOp ρ ⟨d,.assign x,ty,pos,aft,gd⟩).run P w = .ok (.value v) w:=by
 subst hx; rfl
section
variable {P:Program} {ρ:Operand->Value} {d:Option Nat} {ty:TypeId} {pos:String} {aft:Array Edge} {gd:Option (Nat×Bool)} {v:Value} {w:World}
def fieldOff (P:Program) (s f:Nat):Option Nat :=
 match P.underlying s with
 | some (.struct fs)=>match fs[f]? with
  | some fd=>match P.info? fd.type with
   | some i=>if i.size=0 then none else some fd.offset
   | none=>none
  | none=>none
 | _=>none
theorem add_none (b o n:Nat):(⟨b,o,none⟩:Addr).add n=⟨b,o+n,none⟩:=by
 unfold Addr.add;split
 . rename_i h; subst h; rfl
 . rfl
theorem ok_field {T f k b o:Nat} {x:Operand} (hx : ρ x = .pointer (some ⟨b,o,none⟩)) (hf:fieldOff P T f=some k) (hv:v = .pointer (some ⟨b,o+k,none⟩)):(execOp ρ ⟨d,.fieldAddr T x f,ty,pos,aft,gd⟩).run P w = .ok (.value v) w:=by
 subst hv;unfold fieldOff at hf;split at hf
 . rename_i fs hfs;split at hf
   . rename_i fd hfd;split at hf
     . rename_i i hi;split at hf
       . cases hf
       . rename_i hsz;injection hf with hf;subst hf;unfold execOp;simp only [hx,Instr.fieldAt,underlying,Sem.run_bind,Sem.run_pure,Result.andThen_ok,hfs,run_program];simp only [hfd,Instr.sureAddr,fieldPlace,sizeOf,typeInfo,Sem.run_bind,Sem.run_pure,Result.andThen_ok,run_program,hi,hsz,if_false,add_none]
     . cases hf
   . cases hf
 . cases hf
def elemOf (P:Program) (t:Nat):Option (Nat×Nat) :=
 match P.underlying t with
 | some (.slice e)=>(P.info? e).map fun i=>(e,i.size)
 | _=>none
theorem elemOf_spec {t e sz:Nat} (h:elemOf P t=some (e,sz)):P.underlying t=some (.slice e)/\∃ i,P.info? e=some i/\i.size=sz:=by
 unfold elemOf at h;split at h
 . rename_i e' he
   cases hi:P.info? e' with
   | none=>rw [hi] at h; cases h
   | some i=>rw [hi] at h; simp only [Option.map_some,Option.some.injEq,Prod.mk.injEq] at h; obtain⟨rfl,rfl⟩:=h; exact⟨he,i,hi,rfl⟩
 . cases h
theorem ok_index {t e sz k n c b o:Nat} {kk:IntKind} {x y:Operand} (hx : ρ x = .slice (some ⟨b,o,none⟩) n c) (hy : ρ y = .int kk (k:Int)) (he:elemOf P t=some (e,sz)) (hk:(k:Int)<(n:Int)) (hv:v = .pointer (some ⟨b,o+k*sz,none⟩)):(execOp ρ ⟨d,.indexAddr t x y,ty,pos,aft,gd⟩).run P w = .ok (.value v) w:=by
 subst hv;obtain⟨h1,i,h2,rfl⟩:=elemOf_spec he;have h3:0<=(k:Int)/\(k:Int)<(n:Int):=⟨by omega,hk⟩
 unfold execOp;simp only [hx,hy,Instr.indexAt,asIntOf,underlying,Sem.run_bind,Sem.run_pure,Result.andThen_ok,h1,run_program];simp only [h3,and_self,if_true,sizeOf,typeInfo,Sem.run_bind,Sem.run_pure,Result.andThen_ok,run_program,h2,Int.toNat_natCast,add_none]
theorem ok_len {t n c:Nat} {e:TypeId} {A:Option Addr} {x:Operand} (hx : ρ x = .slice A n c) (ht:P.underlying t=some (.slice e)) (hv:v = .int .i64 (n:Int)):(execOp ρ ⟨d,.call { callee := .builtin .len,args := #[x],argTypes := #[t] },ty,pos,aft,gd⟩).run P w = .ok (.value v) w:=by
 subst hv;unfold execOp;simp only [resolve,invoke,builtin,Builtin.len_,List.map_toArray,List.map_cons,List.map_nil,hx,underlying,Sem.run_bind,Sem.run_pure,Result.andThen_ok];simp only [ht,List.getElem?_toArray,List.getElem?_cons_zero,Sem.run_bind,Sem.run_pure,Result.andThen_ok,run_program];rfl
theorem ok_extract {i:Nat} {x:Operand} {vs:Array Value} (hx : ρ x = .tuple vs) (hv:vs[i]? = some v):(execOp ρ ⟨d,.extract x i,ty,pos,aft,gd⟩).run P w = .ok (.value v) w:=by
 unfold execOp;simp only [hx,Instr.extract,hv,Sem.run_bind,Sem.run_pure,Result.andThen_ok]
theorem ok_pick {b:Bool} {c x y:Operand} (hc : ρ c = .bool b) (hv:(if b then ρ x else ρ y)=v):(execOp ρ ⟨d,.pick c x y,ty,pos,aft,gd⟩).run P w = .ok (.value v) w:=by
 unfold execOp;simp only [hc,asBool,Sem.run_bind,Sem.run_pure,Result.andThen_ok,hv]
theorem ok_not {b:Bool} {t:TypeId} {x:Operand} (hx : ρ x = .bool b) (hv:v = .bool (!b)):(execOp ρ ⟨d,.unOp .not t x,ty,pos,aft,gd⟩).run P w = .ok (.value v) w:=by
 subst hv;unfold execOp;simp only [hx,Op.unary,Sem.run_bind,Sem.run_pure,Result.andThen_ok]
theorem ok_add {k:IntKind} {m n z:Int} {t t':TypeId} {x y:Operand} (hx : ρ x = .int k m) (hy : ρ y = .int k n) (hz:k.wrap (m+n)=z) (hv:v = .int k z):(execOp ρ ⟨d,.binOp .add t x y t',ty,pos,aft,gd⟩).run P w = .ok (.value v) w:=by
 subst hv hz;unfold execOp;simp only [hx,hy,eqGuard,binOp,Op.intArith,ne_eq,not_true_eq_false,if_false,Sem.run_bind,Sem.run_pure];rfl
theorem ok_sub {k:IntKind} {m n z:Int} {t t':TypeId} {x y:Operand} (hx : ρ x = .int k m) (hy : ρ y = .int k n) (hz:k.wrap (m - n)=z) (hv:v = .int k z):(execOp ρ ⟨d,.binOp .sub t x y t',ty,pos,aft,gd⟩).run P w = .ok (.value v) w:=by
 subst hv hz;unfold execOp;simp only [hx,hy,eqGuard,binOp,Op.intArith,ne_eq,not_true_eq_false,if_false,Sem.run_bind,Sem.run_pure];rfl
theorem ok_mul {k:IntKind} {m n z:Int} {t t':TypeId} {x y:Operand} (hx : ρ x = .int k m) (hy : ρ y = .int k n) (hz:k.wrap (m*n)=z) (hv:v = .int k z):(execOp ρ ⟨d,.binOp .mul t x y t',ty,pos,aft,gd⟩).run P w = .ok (.value v) w:=by
 subst hv hz;unfold execOp;simp only [hx,hy,eqGuard,binOp,Op.intArith,ne_eq,not_true_eq_false,if_false,Sem.run_bind,Sem.run_pure];rfl
def cmpB (op:BinOp) (m n:Int):Option Bool :=
 match op with
 | .eql=>some (m==n)
 | .neq=>some (m != n)
 | .lss=>some (decide (m<n))
 | .leq=>some (decide (m<=n))
 | .gtr=>some (decide (m>n))
 | .geq=>some (decide (m≥n))
 | _=>none
theorem ok_cmp {op:BinOp} {k:IntKind} {m n:Int} {b:Bool} {t t':TypeId} {x y:Operand} (hx : ρ x = .int k m) (hy : ρ y = .int k n) (hb:cmpB op m n=some b) (hv:v = .bool b):(execOp ρ ⟨d,.binOp op t x y t',ty,pos,aft,gd⟩).run P w = .ok (.value v) w:=by
 subst hv;cases op<;>simp only [cmpB] at hb<;>cases hb
 all_goals
  unfold execOp;simp only [hx,hy,eqGuard,binOp,Op.intCmp,ne_eq,not_true_eq_false,if_false,Sem.run_bind,Sem.run_pure];rfl
end
def zB (l:List Oper) (np:Nat) (Z:List Nat):Bool:=Z.all fun i=>decide (i<np)&&match l[i]? with|some o=>o.after.all fun e => !Region.binds .any e|none=>true
inductive St where
 | val (v:Value)
 | call (v:Value)
 | new (R:Value->World->Prop)
 | dep (R:Value->World->Prop)
 | skip
def prodOf (l:List Oper) (s:Nat):Nat->Option Nat
 | 0=>none
 | i+1=>if ((l[i]?).bind (·.dst))==some s then some i else prodOf l s i
theorem prodOf_spec {l:List Oper} {s:Nat}:∀ {i j:Nat},prodOf l s i=some j->j<i/\∃ o,l[j]? = some o/\o.dst=some s
 | 0,_,h=>by cases h
 | i+1,j,h=>by
  unfold prodOf at h;split at h
  . rename_i hb;injection h with h;subst h;have h1:=eq_of_beq hb
    cases ho:l[i]? with
    | none=>rw [ho] at h1; cases h1
    | some o=>rw [ho] at h1; exact⟨by omega,o,rfl,h1⟩
  . obtain⟨h1,h2⟩:=prodOf_spec h;exact⟨by omega,h2⟩
def envS (l:List Oper) (S:List St) (a0:Act) (i:Nat):Operand->St
 | .tmp s=>match prodOf l s i with
  | some j=>S.getD j .skip
  | none => .val (a0.tmps.getD s undef)
 | x => .val (a0.eval x)
def slotB (l:List Oper) (np i:Nat) (o:Oper) (s:Nat):Bool :=
 match prodOf l s i with
 | some j=>o.after.any fun e=>Region.binds .any e&&e.on==j
 | none=>(List.range np).all fun k=>match l[k]? with
  | some ok=>ok.dst != some s||ok.after.any fun e=>Region.binds .any e&&e.on==i
  | none=>true
def isSel:Op->Bool
 | .select _ _=>true
 | _=>false
def runsIn (P:Program) (ρ:Operand->Value) (o:Oper) (w:World) (R:Value->World->Prop):Prop :=
 (∃ v w',(execOp ρ o).run P w = .ok (.value v) w'/\From w w'/\R v w') \/
 ∃ f args,(execOp ρ o).run P w = .ok (.enter f args) w/\Calls P f args w fun e w'=>∃ v,e = .returned v/\From w w'/\R v w'
theorem own_box {w:World} {base e size g:Nat} {cs:List Value} (h:w.heap[g]? = some (.cells cs.toArray e (0,0))) (hl:cs.length=size) (hb:base<=g):OwnS w base e size (some ⟨g,0,none⟩) 1 [cs] :=
 ⟨⟨by simp [hl],.inr ⟨g,1,cs.toArray,rfl,hb,h,Nat.le_refl _,by unfold maxLen; omega,by simp [hl],by simp; exact List.take_of_length_le (by omega)⟩⟩,by intro c hc; rw [List.mem_singleton] at hc; subst hc; exact hl⟩
theorem own_row {w:World} {base size c g i T:Nat} {css:List (List Value)} {cs:List Value} (hT:IsRow Tryz.prog T size) (h:OwnS w base T size (some ⟨g,0,none⟩) c css) (hi:css[i]? = some cs) {p:Nat} (hp:p=i*size):∀ w1,From w w1->(loadVar T ⟨g,p,none⟩).run Tryz.prog w1 = .ok (.agg cs.toArray) w1:=by
 intro w1 hb;subst hp;obtain⟨b,off,e,_,hl⟩:=h.rd.ld hT hi;simp only [Option.some.injEq,Addr.mk.injEq,and_true] at e;obtain⟨rfl,rfl⟩:=e;have h1:=hl w1 hb;rw [Nat.zero_add] at h1;exact h1
theorem ownBlock_slice (A:Option Addr) (n c:Nat):Value.ownBlock (.slice A n c)=A.map (·.block):=by cases A<;>rfl
inductive Ent where
 | row (T size:Nat) (A:Option Addr) (c:Nat) (css:List (List Value))
 | box (g T:Nat) (cs:List Value)
 | ro (size:Nat) (A:Option Addr) (css:List (List Value))
def Ent.ok (w:World) (base:Nat):Ent->Prop
 | .row T size A c css=>OwnS w base T size A c css
 | .box g T cs=>base<=g/\w.heap[g]? = some (.cells cs.toArray T (0,0))
 | .ro size A css=>Rd w w.heap.size size A css/\∀ a,A=some a->base<=a.block/\a.block<w.heap.size
def Ent.blk:Ent->Option Nat
 | .row _ _ A _ _=>A.map (·.block)
 | .box g _ _=>some g
 | .ro _ A _=>A.map (·.block)
theorem Ent.lt {w:World} {base b:Nat} {e:Ent} (h:e.ok w base) (hb:e.blk=some b):base<=b/\b<w.heap.size:=by
 cases e with
 | row T size A c css =>
  obtain⟨a,ha,rfl⟩:=Option.map_eq_some_iff.1 hb;exact OwnS.lt h ha
 | box g T cs =>
  injection hb with hb;subst hb;exact⟨h.1,(Array.getElem?_eq_some_iff.1 h.2).1⟩
 | ro size A css =>
  obtain⟨a,ha,rfl⟩:=Option.map_eq_some_iff.1 hb;exact h.2 a ha
theorem cell_same {w w':World} {g p:Nat} (h:w'.heap[g]? = w.heap[g]?):w'.cell? ⟨g,p,.none⟩=w.cell? ⟨g,p,.none⟩:=by simp only [World.cell?,h]
theorem Rd.keep {w w':World} {size:Nat} {A:Option Addr} {css:List (List Value)} (h:Rd w w.heap.size size A css) (hk:∀ a,A=some a->w'.heap[a.block]? = w.heap[a.block]?):Rd w' w'.heap.size size A css:=by
 intro k cs hkc;obtain⟨g,off,e,hlt,hl,hc⟩:=h k cs hkc;have h1:=hk _ e;have hlt':g<w'.heap.size:=by
  rcases Nat.lt_or_ge g w'.heap.size with h2|h2
  . exact h2
  . rw [Array.getElem?_eq_none h2,Array.getElem?_eq_getElem hlt] at h1;cases h1
 exact⟨g,off,e,hlt',hl,fun j u hu=>by rw [cell_same h1]; exact hc j u hu⟩
theorem Ent.keep {w w':World} {base:Nat} {e:Ent} (h:e.ok w base) (hk:∀ b,e.blk=some b->w'.heap[b]? = w.heap[b]?):e.ok w' base:=by
 cases e with
 | ro size A css =>
  refine⟨Rd.keep h.1 fun a ha=>hk _ (by simp [Ent.blk,ha]),fun a ha=>⟨(h.2 a ha).1,?_⟩⟩;have h1:=hk a.block (by simp [Ent.blk,ha]);rcases Nat.lt_or_ge a.block w'.heap.size with h2|h2
  . exact h2
  . rw [Array.getElem?_eq_none h2,Array.getElem?_eq_getElem (h.2 a ha).2] at h1;cases h1
 | row T size A c css=>exact OwnS.keep h fun a ha=>hk _ (by simp [Ent.blk,ha])
 | box g T cs=>exact⟨h.1,(hk g rfl).trans h.2⟩
theorem Ent.less {w:World} {base b:Nat} {e:Ent} (h:e.ok w base) (hb:b<=base):e.ok w b:=by
 cases e with
 | row T size A c css=>exact OwnS.base_le h hb
 | box g T cs=>exact⟨Nat.le_trans hb h.1,h.2⟩
 | ro size A css=>exact⟨h.1,fun a ha=>⟨Nat.le_trans hb (h.2 a ha).1,(h.2 a ha).2⟩⟩
def Ent.far (e f:Ent):Prop:=∀ b,e.blk=some b->f.blk≠some b
theorem Ent.far.symm {e f:Ent} (h:e.far f):f.far e:=fun b hb hc=>h b hc hb
structure Mem (w0 w:World) (M:List Ent):Prop where
 from_:From w0 w
 ok:∀ e∈M,e.ok w w0.heap.size
 apart:M.Pairwise Ent.far
theorem Mem.nil (w:World):Mem w w []:=⟨Below.refl _ _,fun _ h=>(by cases h),.nil⟩
theorem Mem.call {w0 w w':World} {M:List Ent} (h:Mem w0 w M) (hb:From w w'):Mem w0 w' M :=
 ⟨h.from_.trans (hb.mono h.from_.size),fun e he=>Ent.keep (h.ok e he) fun _ hb'=>hb.block _ (Ent.lt (h.ok e he) hb').2,h.apart⟩
theorem Mem.sub {w0 w:World} {M M':List Ent} (h:Mem w0 w M) (hs:M'.Sublist M):Mem w0 w M':=⟨h.from_,fun e he=>h.ok e (hs.subset he),h.apart.sublist hs⟩
theorem Mem.add {w0 w w':World} {M:List Ent} (h:Mem w0 w M) (hb:From w w') (e:Ent) (he:e.ok w' w.heap.size):Mem w0 w' (e::M):=by
 have h1:=h.call hb;refine⟨h1.from_,fun f hf => ?_,List.pairwise_cons.2 ⟨fun f hf b hb1 hb2 => ?_,h1.apart⟩⟩
 . rcases List.mem_cons.1 hf with rfl|hf
   . exact Ent.less he h.from_.size
   . exact h1.ok f hf
 . have h2:=(Ent.lt he hb1).1;have h3:=(Ent.lt (h.ok f hf) hb2).2;omega
theorem Mem.alloc {w0 w:World} {M:List Ent} (h:Mem w0 w M) (T:Nat) (cs:List Value):Mem w0 (w.alloc (.cells cs.toArray T)) (.box w.heap.size T cs::M) :=
 h.add ((Below.refl _ _).alloc (Nat.le_refl _) _) _ ⟨Nat.le_refl _,heap_alloc_new w _⟩
theorem set_pair {e:Ent}:∀ {M:List Ent} {i:Nat},i<M.length->M.Pairwise Ent.far->(∀ j f,j≠i->M[j]? = some f->e.far f)->(M.set i e).Pairwise Ent.far
 | [],_,hi,_,_=>by cases hi
 | f::M,0,_,hp,h=>by
  rw [List.set_cons_zero];have h1:=List.pairwise_cons.1 hp;refine List.pairwise_cons.2 ⟨fun g hg => ?_,h1.2⟩;obtain⟨j,hj⟩:=List.mem_iff_getElem?.1 hg;exact h (j+1) g (by omega) (by simpa using hj)
 | f::M,i+1,hi,hp,h=>by
  rw [List.set_cons_succ];have h1:=List.pairwise_cons.1 hp;refine List.pairwise_cons.2 ⟨fun g hg => ?_,set_pair (by simpa using hi) h1.2 fun j f' hj hf=>h (j+1) f' (by omega) (by simpa using hf)⟩;rcases List.mem_or_eq_of_mem_set hg with hg|rfl
  . exact h1.1 g hg
  . exact (h 0 f (by omega) (by simp)).symm
theorem pair_ne {M:List Ent} (hp:M.Pairwise Ent.far) {i j:Nat} {e f:Ent} (hi:M[i]? = some e) (hj:M[j]? = some f) (hij:i≠j):e.far f:=by
 obtain⟨hi1,hi2⟩:=List.getElem?_eq_some_iff.1 hi;obtain⟨hj1,hj2⟩:=List.getElem?_eq_some_iff.1 hj;rw [List.pairwise_iff_getElem] at hp;rcases Nat.lt_or_gt_of_ne hij with h|h
 . have:=hp i j hi1 hj1 h;rwa [hi2,hj2] at this
 . have:=hp j i hj1 hi1 h;rw [hi2,hj2] at this;exact this.symm
theorem Mem.put {w0 w w':World} {M:List Ent} (h:Mem w0 w M) (i:Nat) {e:Ent} (e':Ent) (hi:M[i]? = some e) (hg:w.grownBy w' e.blk) (he:e'.ok w' w0.heap.size) (hbl:e'.blk=e.blk\/∀ b,e'.blk=some b->w.heap.size<=b):Mem w0 w' (M.set i e'):=by
 have hlt:i<M.length:=(List.getElem?_eq_some_iff.1 hi).1;have hek:=h.ok e (List.mem_of_getElem? hi);refine⟨h.from_.grown hg h.from_.size fun k hk=>(Ent.lt hek hk).1,fun f hf => ?_,set_pair hlt h.apart fun j f hj hf b hb1 hb2 => ?_⟩
 . obtain⟨j,hj⟩:=List.mem_iff_getElem?.1 hf;rw [List.getElem?_set] at hj;split at hj
   . injection hj with hj;subst hj;exact he
   . rename_i hne;have hfk:=h.ok f (List.mem_of_getElem? hj);refine Ent.keep hfk fun b hb=>hg.block b (Ent.lt hfk hb).2 fun hc => ?_;exact pair_ne h.apart hi hj hne b hc.symm hb
 . have hfk:=h.ok f (List.mem_of_getElem? hf);rcases hbl with hbl|hbl
   . rw [hbl] at hb1;exact pair_ne h.apart hi hf (fun e=>hj e.symm) b hb1 hb2
   . have h1:=hbl b hb1;have h2:=(Ent.lt hfk hb2).2;omega
theorem Mem.cells {w0 w:World} {M:List Ent} (h:Mem w0 w M) {i g T:Nat} {cs:List Value} (hi:M[i]? = some (.box g T cs)):w.heap[g]? = some (.cells cs.toArray T (0,0)):=(h.ok _ (List.mem_of_getElem? hi)).2
theorem Mem.boxlt {w0 w:World} {M:List Ent} (h:Mem w0 w M) {i g T:Nat} {cs:List Value} (hi:M[i]? = some (.box g T cs)):w0.heap.size<=g/\g<w.heap.size:=Ent.lt (h.ok _ (List.mem_of_getElem? hi)) rfl
theorem Mem.ldb {w0 w:World} {M:List Ent} (h:Mem w0 w M) {i g T n:Nat} {cs:List Value} (hT:IsRow Tryz.prog T n) (hn:cs.length=n) (hi:M[i]? = some (.box g T cs)) (w1:World) (hb:From w w1):(loadVar T ⟨g,0,.none⟩).run Tryz.prog w1 = .ok (.agg cs.toArray) w1:=by
 have h1:=own_box (base:=0) (h.cells hi) hn (Nat.zero_le _);exact own_row hT h1 (i:=0) (cs:=cs) rfl (p:=0) (by omega) w1 hb
def cellT (P:Program) (T:Nat):Bool :=
 match P.underlying T with
 | some (.struct _)=>false
 | some (.array _ _)=>false
 | some _=>true
 | _=>false
theorem run_load_one {P:Program} {w:World} {T:Nat} {ad:Addr} {v:Value} (hT:cellT P T=true) (h:w.cell? ad=some v):(loadVar T ad).run P w = .ok v w:=by
 unfold cellT at hT
 cases hd:P.underlying T with
 | none=>rw [hd] at hT; cases hT
 | some d=>exact run_load_cell hd (by rw [hd] at hT; cases d<;>first|rfl|cases hT) h
theorem Mem.ldc {w0 w:World} {M:List Ent} (h:Mem w0 w M) {i g T j T1:Nat} {cs:List Value} {v:Value} (hT:cellT Tryz.prog T1=true) (hi:M[i]? = some (.box g T cs)) (hj:cs[j]? = some v) (w1:World) (hb:From w w1):(loadVar T1 ⟨g,j,.none⟩).run Tryz.prog w1 = .ok v w1:=by
 have h1:=h.cells hi;have h2:w1.heap[g]? = some (.cells cs.toArray T (0,0)):=(hb.block g (h.boxlt hi).2).trans h1;refine run_load_one hT ?_;rw [cell_of_row w1 g j _ _ _ h2];simpa using hj
theorem Rd.cell {P:Program} {w w1:World} {B g off size k j T1:Nat} {css:List (List Value)} {cs:List Value} {v:Value} (h:Rd w B size (some ⟨g,off,none⟩) css) (hb:Below B w w1) (hT:cellT P T1=true) (hk:css[k]? = some cs) (hj:cs[j]? = some v) {p:Nat} (hp:p=off+k*size+j):(loadVar T1 ⟨g,p,none⟩).run P w1 = .ok v w1:=by
 subst hp;obtain⟨b,off',e,hlt,_,hc⟩:=h k cs hk;simp only [Option.some.injEq,Addr.mk.injEq,and_true] at e;obtain⟨rfl,rfl⟩:=e;refine run_load_one hT ?_;rw [cell_same (hb.block _ hlt)];exact hc j _ hj
theorem Rd.bound {w:World} {B size:Nat} {A:Option Addr} {css:List (List Value)} (h:Rd w B size A css) (hn:css ≠ []):∀ a,A=some a->a.block<B:=by
 intro a ha;obtain⟨cs,css',rfl⟩:=List.exists_cons_of_ne_nil hn;obtain⟨g,off,e,hlt,_,_⟩:=h 0 cs rfl;rw [ha] at e;injection e with e;subst e;exact hlt
theorem wpList_stB {w0 w:World} {M:List Ent} {ops:Array Oper} {rest:List Oper} {o:Oper} {a:Act} {Q:Exit->Act->World->Prop} {T g n:Nat} {cs cs':List Value} {v:Value} (hgd:o.guard=none) (x y:Operand) (ho:o.op = .store T x y) (H:Mem w0 w M) (i:Nat) (hi:M[i]? = some (.box g T cs))
 (hx:a.eval x = .pointer (some ⟨g,0,.none⟩)) (hy:a.eval y=v) (hsz:(Tryz.prog.info? T).map (·.size)=some n) (hv:v.cells.toList=cs') (hl':cs'.length=n) (hl:cs.length=n) (h1:∀ u∈cs',u.oneCell'=true)
 (h:∀ w',Mem w0 w' (M.set i (.box g T cs'))->wpList Tryz.prog ops Q rest (a.put o.dst undef) w'):wpList Tryz.prog ops Q (o::rest) a w:=by
 refine wpList_st (cs:=cs') hgd x y ho hx hy hsz hv hl' (H.cells hi) (by simp [hl]) h1 fun cur' w' hc hs hg' hgr=>h w' (H.put i (.box g T cs') hi hgr ⟨(H.boxlt hi).1,?_⟩ (.inl rfl));have:cur'=cs'.toArray:=by
  apply Array.ext';rw [hc];simp [hl]
 rw [<- this];exact hg'
theorem Mem.tail {w0 w:World} {e:Ent} {M:List Ent} (h:Mem w0 w (e::M)):Mem w0 w M:=h.sub (List.sublist_cons_self _ _)
theorem g_bld {P:Program} {w:World} {ops:Array Oper} {rest:List Oper} {a:Act} {Q:Exit->Act->World->Prop} (T:Nat) {ps:Array (Nat×Operand)} {d:Option Nat} {ty:TypeId} {pos:String} {aft:Array Edge} {gd:Option (Nat×Bool)}
 (h:wpList P ops Q (⟨d,.build T ps,ty,pos,aft,gd⟩::rest) a w):wpList P ops Q (⟨d,.build T ps,ty,pos,aft,gd⟩::rest) a w:=h
theorem wpList_val {P:Program} {w:World} {ops:Array Oper} {rest:List Oper} {o:Oper} {a:Act} {Q:Exit->Act->World->Prop} (hgd:o.guard=none) (v:Value) (hr:(execOp a.eval o).run P w = .ok (.value v) w) (h:wpList P ops Q rest (a.put o.dst v) w):wpList P ops Q (o::rest) a w:=by
 refine wpList_plain hgd fun K hK => ?_;unfold Oper.wp;rw [hr];exact hK _ _ h
end Go.Proofs.YthfpdbjemfhieaaGreat
