/-
  Results that lie in boxes; a cell of a box is written; two boxes.
-/
import Derived.Test.YthfpdbjemfhieaaGreatMt15
import Derived.Maps.OwnSet
set_option linter.unusedVariables false
set_option linter.unusedSimpArgs false
namespace Go.Proofs.YthfpdbjemfhieaaGreat
open Go.RowKit
theorem results_box2 {P:Program} {fn:Func} {p t:Tmp} {T g:Nat} {w:World} {cs:List Value} (h:fn.results = #[.cell p T,.tmp t]) (tmps:Array Value) (hp:tmps.getD p undef = .pointer (some ⟨g,0,none⟩)) (hl:(loadVar T ⟨g,0,none⟩).run P w = .ok (.agg cs.toArray) w) :
 (results fn tmps).run P w = .ok (.tuple #[.agg cs.toArray,tmps.getD t undef]) w:=by
 have hp':tmps[p]?.getD undef = .pointer (some ⟨g,0,none⟩):=by simpa using hp
 simp [results,h,hp',asAddr,hl]
theorem Mem.alloc2 {w0 w:World} {M:List Ent} (h:Mem w0 w M) (T:Nat) (cs:List Value) (T':Nat) (cs':List Value):Mem w0 ((w.alloc (.cells cs.toArray T)).alloc (.cells cs'.toArray T')) (.box (w.heap.size+1) T' cs' :: .box w.heap.size T cs::M):=by
 have h:=(h.alloc T cs).alloc T' cs';have e:(w.alloc (.cells cs.toArray T)).heap.size=w.heap.size+1:=by simp
 rw [e] at h;exact h
theorem Rd.addr {w:World} {B size:Nat} {A:Option Addr} {css:List (List Value)} (h:Rd w B size A css) (h0:0<css.length):∃ b off,A=some ⟨b,off,none⟩:=by
 obtain⟨b,off,e,_⟩:=h 0 css[0] (List.getElem?_eq_getElem h0);exact⟨b,off,e⟩
def u8Row (n:Int):List Value := [.int .u8 n]
def halvesF (size:Int):List Int:=if size=40 then [0] else if size=20 then [1,2] else []
def idxE {α:Type} [DecidableEq α] (x : α) (l:List α):Int:=idx (fun y=>decide (x=y)) l
theorem indexU8 (A:Option Addr) (c:Nat) (l:List Int) (n:Nat) (hn:n=l.length) (x:Int) (w:World) (hA:Rd w w.heap.size 1 A (l.map u8Row)) (hl:l.length<=1000000000000) :
 Calls Tryz.prog 266 #[.slice A n c,.int .u8 x] w fun e w'=>e = .returned (.int .i64 (idxE x l))/\w'=w:=by
 have HN:=Lib.hid hn;have HR:=Lib.hid hA;have hl2:n<=1000000000000:=by omega
 clear hA hn hl
 go_enter Tryz.func266,Tryz.ntmps266
 go_wp2
 go_loopw [5,8] (fun _ i wr=>∃ k:Nat,k<=n/\i = .int .i64 k/\(∀ j,(h:j<k)->(h2:j<l.length)->decide (x=l[j])=false)/\wr=w) (fun _ i _=>n - (intOf i).toNat)
 case atStart=>exact⟨0,by omega,rfl,by omega,rfl⟩
 case round =>
  obtain⟨k,hk,rfl,hj,rfl⟩:=hrel;have HJ:=Lib.hid hj;clear hj;by_cases hkn:k=n
  . have hlt:¬ (k:Int)<(n:Int):=by omega
    have HI:Hid (idxE x l = -1):=idx_none (fun j h=>HJ.out j (by have:=HN.out; omega) h);clear hkn hk
    go_wp2
    go_ret
    exact⟨by rw [HI.out]; rfl,rfl⟩
  . have hlt:(k:Int)<(n:Int):=by omega
    have hkl:k<l.length:=by have:=HN.out; omega
    obtain⟨b,off,rfl⟩:=Rd.addr HR.out (by rw [List.length_map]; omega);obtain⟨y,hy⟩:∃ y,y=l[k]:=⟨_,rfl⟩
    have HL:=Lib.hid (Rd.cell (P:=Tryz.prog) HR.out (Below.refl _ _) ct5 (k:=k) (cs:=u8Row y) (by rw [hy]; exact map_get2 u8Row l k hkl) (j:=0) (v := .int .u8 y) rfl (p:=off+k) (by omega));by_cases hxy:x=y
    . have HI:Hid (idxE x l=k):=idx_found hkl (fun j h=>HJ.out j h (by omega)) (by rw [<- hy]; exact decide_eq_true hxy);have hb:(x==y)=true:=by simpa using hxy
      clear hkn hk hy hxy
      go_wp2_with ((with_reducible refine g_ld 5 ?_); refine wpList_ld rfl _ _ rfl _ rfl _ HL.out ?_)
      go_ret
      exact⟨by rw [HI.out]; rfl,rfl⟩
    . have HJ2:Hid (∀ j,(h:j<k+1)->(h2:j<l.length)->decide (x=l[j])=false):=by
       intro j h h2;rcases Nat.lt_or_ge j k with h3|h3
       . exact HJ.out j h3 h2
       . obtain rfl:j=k:=by omega
         rw [<- hy];exact decide_eq_false hxy
      have hb:(x==y)=false:=by simpa using hxy
      clear HJ hy hxy
      go_wp2_with ((with_reducible refine g_ld 5 ?_); refine wpList_ld rfl _ _ rfl _ rfl _ HL.out ?_)
      go_roundw
      case rel=>exact⟨k+1,by omega,by go_num,HJ2.out,trivial⟩
      case measure=>simp [intOf]; omega
theorem containsU8 (A:Option Addr) (c:Nat) (l:List Int) (n:Nat) (hn:n=l.length) (x:Int) (w:World) (hA:Rd w w.heap.size 1 A (l.map u8Row)) (hl:l.length<=1000000000000) :
 Calls Tryz.prog 233 #[.slice A n c,.int .u8 x] w fun e w'=>e = .returned (.bool (l.any fun y=>decide (x=y)))/\w'=w:=by
 have HI:=Lib.hid (indexU8 A c l n hn x w hA hl);rw [any_idx];unfold idxE at HI;generalize idx (fun y=>decide (x=y)) l=z at HI ⊢;clear hA hn hl
 go_enter Tryz.func233,Tryz.ntmps233
 go_wp2_with (go_at_call 266; refine (HI.out).mono ?_; rintro e w2 ⟨rfl,rfl⟩)
 go_ret
 exact⟨by first|rfl|simp,rfl⟩
def sharesB (a b:Int):Bool:=decide (a=b)||(decide (a=0)||decide (b=0))
def meetB (a b:Slot):Bool:=decide (a.col=b.col)&&(decide (a.tier=b.tier)&&sharesB a.half b.half)
def belowB (x:Slot) (l:List Slot) (h:Int):Bool:=l.any fun y=>decide ((⟨x.col,x.tier - 1,h⟩:Slot)=y)
def heldB (x:Slot) (l:List Slot):Bool:=if x.tier<=0 then true else belowB x l x.half||(decide (x.half=0)&&(belowB x l 1&&belowB x l 2))
def kMost (s:Int):Int:=if s=20 then 32000 else if s=40 then 40000 else 0
def bWithin (n lo hi:Int):Bool:=decide (lo<=n)&&decide (n<=hi)
def noNum:ByteArray:=⟨#[]⟩
theorem noNum_l:noNum.toList = []:=by unfold noNum; go_simp
def bRule (b:Box):Nat->Bool
 | 0=>bWithin b.id 1 999999
 | 1=>decide (b.num=noNum)||isoB b.num
 | 2 => !b.high||decide (b.size=40)
 | 3=>bWithin b.kilos 1 (kMost b.size)
 | 4=>decide (0<=b.load)&&decide (b.load<b.dis)&&decide (b.dis<20)
 | _=>decide (b.cls<=9)
def boxB (b:Box):Bool:=bRule b 0&&bRule b 1&&bRule b 2&&bRule b 3&&bRule b 4&&bRule b 5
theorem box_within (n lo hi:Int) (w:World):Calls Tryz.prog 242 #[.int .i64 n,.int .i64 lo,.int .i64 hi] w fun e w'=>e = .returned (.bool (bWithin n lo hi))/\Below w.heap.size w w':=by
 by_cases h1:lo<=n
 . go_enter Tryz.func242,Tryz.ntmps242
   have HW:Hid (bWithin n lo hi=decide (n<=hi)):=by unfold Hid bWithin; simp [h1]
   go_wp2
   go_ret
   exact⟨by rw [HW.out]; rfl,Below.refl _ _⟩
 . go_enter Tryz.func242,Tryz.ntmps242
   have HW:Hid (bWithin n lo hi=false):=by unfold Hid bWithin; simp [h1]
   go_wp2
   go_ret
   exact⟨by rw [HW.out]; rfl,Below.refl _ _⟩
theorem box_most (s:Int) (w:World):Calls Tryz.prog 247 #[.int .u8 s] w fun e w'=>e = .returned (.int .i64 (kMost s))/\Below w.heap.size w w':=by
 by_cases h1:s=20
 . subst h1
   go_enter Tryz.func247,Tryz.ntmps247
   go_wp2
   go_ret
   exact⟨rfl,Below.refl _ _⟩
 . by_cases h2:s=40
   . subst h2
     go_enter Tryz.func247,Tryz.ntmps247
     go_wp2
     go_ret
     exact⟨rfl,Below.refl _ _⟩
   . have HK:Hid (kMost s=0):=by unfold Hid kMost; simp [h1,h2]
     have b1:(s==20)=false:=by simp [h1]
     have b2:(s==40)=false:=by simp [h2]
     go_enter Tryz.func247,Tryz.ntmps247
     go_wp2
     go_ret
     exact⟨by rw [HK.out]; rfl,Below.refl _ _⟩
section
variable {b:Box} {g:Nat} {w:World}
theorem box_r0 (hc:∀ j u,b.cells[j]? = some u->w.cell? ⟨g,j,none⟩=some u):Calls Tryz.prog 241 #[.pointer (some ⟨g,0,none⟩)] w fun e w'=>e = .returned (.bool (bRule b 0))/\Below w.heap.size w w':=by
 have c0:w.cell? ⟨g,0,none⟩=some (.int .i64 b.id):=hc 0 _ rfl;clear hc
 go_enter Tryz.func241,Tryz.ntmps241
 go_wp2_with (go_at_call 242; refine (box_within _ _ _ _).mono ?_; rintro e w1 ⟨rfl,hb1⟩)
 go_ret
 exact⟨rfl,hb1⟩
theorem box_r1 (hc:∀ j u,b.cells[j]? = some u->w.cell? ⟨g,j,none⟩=some u) (hn:b.num.size<=140737488351232):Calls Tryz.prog 243 #[.pointer (some ⟨g,0,none⟩)] w fun e w'=>e = .returned (.bool (bRule b 1))/\Below w.heap.size w w':=by
 have c0:w.cell? ⟨g,1,none⟩=some (.string b.num):=hc 1 _ rfl;have HR:Hid (bRule b 1=(decide (b.num=noNum)||isoB b.num)):=rfl;clear hc;by_cases hz:b.num=noNum
 . have hz':b.num=⟨#[]⟩:=hz;rw [hz'] at c0;have HZ:=Lib.hid hz;clear hz hz' hn
   go_enter Tryz.func243,Tryz.ntmps243
   go_wp2
   go_ret
   exact⟨by rw [HR.out,HZ.out]; rfl,Below.refl _ _⟩
 . have hz3:¬ b.num.toList = []:=fun h=>hz (toList_eq.mp (h.trans noNum_l.symm));have hz2:b.num.toList.isEmpty=false:=by simpa using hz3
   have HE:Hid (bRule b 1=isoB b.num):=by unfold Hid; rw [HR.out]; simp [hz]
   clear hz
   go_enter Tryz.func243,Tryz.ntmps243
   go_wp2_with (go_at_call 244; refine (iso_right _ _ hn).mono ?_; rintro e w1 ⟨rfl,hb1⟩)
   go_ret
   exact⟨by rw [HE.out]; rfl,hb1⟩
theorem box_r2 (hc:∀ j u,b.cells[j]? = some u->w.cell? ⟨g,j,none⟩=some u):Calls Tryz.prog 245 #[.pointer (some ⟨g,0,none⟩)] w fun e w'=>e = .returned (.bool (bRule b 2))/\Below w.heap.size w w':=by
 have c0:w.cell? ⟨g,2,none⟩=some (.int .u8 b.size):=hc 2 _ rfl;have c1:w.cell? ⟨g,3,none⟩=some (.bool b.high):=hc 3 _ rfl;have HR:Hid (bRule b 2=(!b.high||decide (b.size=40))):=rfl;clear hc
 cases hh:b.high with
 | true =>
  rw [hh] at c1;have HE:Hid (bRule b 2=(b.size==40)):=by unfold Hid; rw [HR.out,hh]; simp; by_cases h:b.size=40<;>simp [h]
  clear hh
  go_enter Tryz.func245,Tryz.ntmps245
  go_wp2
  go_ret
  exact⟨by rw [HE.out]; rfl,Below.refl _ _⟩
 | false =>
  rw [hh] at c1;have HE:Hid (bRule b 2=true):=by unfold Hid; rw [HR.out,hh]; simp
  clear hh
  go_enter Tryz.func245,Tryz.ntmps245
  go_wp2
  go_ret
  exact⟨by rw [HE.out]; rfl,Below.refl _ _⟩
theorem box_r3 (hc:∀ j u,b.cells[j]? = some u->w.cell? ⟨g,j,none⟩=some u):Calls Tryz.prog 246 #[.pointer (some ⟨g,0,none⟩)] w fun e w'=>e = .returned (.bool (bRule b 3))/\Below w.heap.size w w':=by
 have c0:w.cell? ⟨g,2,none⟩=some (.int .u8 b.size):=hc 2 _ rfl;have c1:w.cell? ⟨g,4,none⟩=some (.int .i64 b.kilos):=hc 4 _ rfl;have hlt:g<w.heap.size:=block_lt_of_cell c0;clear hc;have HC1:Hid (∀ w',From w w'->(loadVar 3 ⟨g,4,none⟩).run Tryz.prog w' = .ok (.int .i64 b.kilos) w'):=fun w' hb=>run_load_cell Tryz.underlying3 rfl ((hb.cell (p:=⟨g,_,none⟩) (by simpa using hlt)).trans c1);have HC2:Hid (∀ w',From w w'->(loadVar 5 ⟨g,2,none⟩).run Tryz.prog w' = .ok (.int .u8 b.size) w'):=fun w' hb=>run_load_cell Tryz.underlying5 rfl ((hb.cell (p:=⟨g,_,none⟩) (by simpa using hlt)).trans c0);clear c0 c1
 go_enter Tryz.func246,Tryz.ntmps246
 go_wp2
 refine wp_region_below (by kernel_rfl) (by kernel_rfl) w.heap.size ?_
 repeat (first|go_big_quiet_skip|(go_big_quiet_want; refine quiet_ld 3 _ rfl _ rfl _ (fun w' hC=>HC1.out w' hC) ?_; simp only [Act.put,List.setIfInBounds_toArray,List.set_cons_succ,List.set_cons_zero]; go_big_quiet_on)|(go_big_quiet_want; refine quiet_ld 5 _ rfl _ rfl _ (fun w' hC=>HC2.out w' hC) ?_; simp only [Act.put,List.setIfInBounds_toArray,List.set_cons_succ,List.set_cons_zero]; go_big_quiet_on)|go_big_quiet_step (first|(intro hC; rfl)|(intro hC; exact⟨rfl,rfl⟩)|(intro hC; (with_reducible refine (box_most _ _).mono ?_); rintro e w1 ⟨rfl,hb1⟩; exact⟨rfl,hC.trans (hb1.mono hC.size)⟩)|(intro hC; (with_reducible refine (box_within _ _ _ _).mono ?_); rintro e w1 ⟨rfl,hb1⟩; exact⟨rfl,hC.trans (hb1.mono hC.size)⟩)))
 refine wpQuiet_nil ?_;intro w' hC
 go_wp2
 go_ret
 exact⟨rfl,hC⟩
theorem box_r4 (hc:∀ j u,b.cells[j]? = some u->w.cell? ⟨g,j,none⟩=some u):Calls Tryz.prog 248 #[.pointer (some ⟨g,0,none⟩)] w fun e w'=>e = .returned (.bool (bRule b 4))/\Below w.heap.size w w':=by
 have c0:w.cell? ⟨g,5,none⟩=some (.int .i64 b.load):=hc 5 _ rfl;have c1:w.cell? ⟨g,6,none⟩=some (.int .i64 b.dis):=hc 6 _ rfl;have HR:Hid (bRule b 4=(decide (0<=b.load)&&decide (b.load<b.dis)&&decide (b.dis<20))):=rfl;clear hc;by_cases h1:0<=b.load
 . by_cases h2:b.load<b.dis
   . have HE:Hid (bRule b 4=decide (b.dis<20)):=by unfold Hid; rw [HR.out]; simp [h1,h2]
     go_enter Tryz.func248,Tryz.ntmps248
     go_wp2
     go_ret
     exact⟨by rw [HE.out]; rfl,Below.refl _ _⟩
   . have HE:Hid (bRule b 4=false):=by unfold Hid; rw [HR.out]; simp [h2]
     go_enter Tryz.func248,Tryz.ntmps248
     go_wp2
     go_ret
     exact⟨by rw [HE.out]; rfl,Below.refl _ _⟩
 . have HE:Hid (bRule b 4=false):=by unfold Hid; rw [HR.out]; simp [h1]
   go_enter Tryz.func248,Tryz.ntmps248
   go_wp2
   go_ret
   exact⟨by rw [HE.out]; rfl,Below.refl _ _⟩
theorem box_r5 (hc:∀ j u,b.cells[j]? = some u->w.cell? ⟨g,j,none⟩=some u):Calls Tryz.prog 249 #[.pointer (some ⟨g,0,none⟩)] w fun e w'=>e = .returned (.bool (bRule b 5))/\Below w.heap.size w w':=by
 have c0:w.cell? ⟨g,7,none⟩=some (.int .u8 b.cls):=hc 7 _ rfl;clear hc
 go_enter Tryz.func249,Tryz.ntmps249
 go_wp2
 go_ret
 exact⟨rfl,Below.refl _ _⟩
theorem box_r7 {fn:FuncId} {caps:Array Value} {p:Bool} (hcf:∀ w args,(callFunc fn args).run Tryz.prog w = .ok (.enter fn args) w) (hcall:Calls Tryz.prog fn caps w fun e w'=>e = .returned (.bool p)/\Below w.heap.size w w') :
 Calls Tryz.prog 251 #[.func (.func fn) #[] caps] w fun e w'=>e = .returned (.bool (!p))/\Below w.heap.size w w':=by
 have HC:=Lib.hid hcall;clear hcall
 go_enter Tryz.func251,Tryz.ntmps251
 go_wp2_with (first|(refine (HC.out).mono ?_; rintro e w1 ⟨rfl,hb1⟩))
 go_ret
 exact⟨rfl,hb1⟩
end
def ruleF:Nat->FuncId
 | 0=>241
 | 1=>243
 | 2=>245
 | 3=>246
 | 4=>248
 | _=>249
def ruleV (g k:Nat):Value := .func (.func (ruleF k)) #[] #[.pointer (some ⟨g,0,none⟩)]
theorem rule_cf (k:Nat) (w:World) (args:Array Value):(callFunc (ruleF k) args).run Tryz.prog w = .ok (.enter (ruleF k) args) w:=by
 unfold ruleF;split<;>go_simp
theorem box_rule {b:Box} {g:Nat} {w:World} (k:Nat) (hk:k<6) (hc:∀ j u,b.cells[j]? = some u->w.cell? ⟨g,j,none⟩=some u) (hn:b.num.size<=140737488351232) :
 Calls Tryz.prog (ruleF k) #[.pointer (some ⟨g,0,none⟩)] w fun e w'=>e = .returned (.bool (bRule b k))/\Below w.heap.size w w':=by
 have:k=0\/k=1\/k=2\/k=3\/k=4\/k=5:=by omega
 rcases this with rfl|rfl|rfl|rfl|rfl|rfl
 . exact box_r0 hc
 . exact box_r1 hc hn
 . exact box_r2 hc
 . exact box_r3 hc
 . exact box_r4 hc
 . exact box_r5 hc
theorem boxB_all {b:Box} (h:∀ k,k<6->bRule b k=true):boxB b=true:=by
 unfold boxB;rw [h 0 (by omega),h 1 (by omega),h 2 (by omega),h 3 (by omega),h 4 (by omega),h 5 (by omega)];rfl
theorem boxB_bad {b:Box} {k:Nat} (hk:k<6) (h:bRule b k=false):boxB b=false:=by
 have:k=0\/k=1\/k=2\/k=3\/k=4\/k=5:=by omega
 unfold boxB;rcases this with rfl|rfl|rfl|rfl|rfl|rfl<;>rw [h]<;>simp
theorem box_r7_cf (w:World) (args:Array Value):(callFunc 251 args).run Tryz.prog w = .ok (.enter 251 args) w:=by
 go_simp
set_option maxRecDepth 100000 in
theorem rules_index (b:Box) (g h c:Nat) (w:World) (hn:b.num.size<=140737488351232) (hb:∀ w',From w w'->∀ j u,b.cells[j]? = some u->w'.cell? ⟨g,j,none⟩=some u)
 (hr:∀ w',From w w'->∀ k,k<6->w'.cell? ⟨h,k,none⟩=some (ruleV g k)) :
 Calls Tryz.prog 271 #[.slice (some ⟨h,0,none⟩) 6 c,.func (.func 251) #[] #[]] w fun e w'=>(∃ i:Int,e = .returned (.int .i64 i)/\decide (i≥0) = !boxB b)/\Below w.heap.size w w':=by
 have HB:=Lib.hid hb;have HR:=Lib.hid hr;have hcf:=box_r7_cf;clear hb hr
 go_enter Tryz.func271,Tryz.ntmps271
 go_wp2
 go_loopw [5,8] (fun _ i wr=>∃ k:Nat,k<=6/\i = .int .i64 k/\(∀ j,(h:j<k)->bRule b j=true)/\From w wr) (fun _ i _=>6 - (intOf i).toNat)
 case atStart=>exact⟨0,by omega,rfl,by omega,Below.refl _ _⟩
 case round =>
  obtain⟨k,hk,rfl,hj,hw⟩:=hrel;have HJ:=Lib.hid hj;clear hj;by_cases hlt:k<6
  . have HL:Hid ((loadVar 36 ⟨h,k,none⟩).run Tryz.prog wr = .ok (ruleV g k) wr):=run_load_cell Tryz.underlying36 rfl (HR.out wr hw k hlt);have HC:=Lib.hid (box_r7 (rule_cf k) (box_rule k hlt (HB.out wr hw) hn))
    go_wp2_with (first
     | (refine wpList_ld rfl 36 _ rfl _ rfl _ HL.out ?_)
     | (go_at_call 251; refine (HC.out).mono ?_; rintro e w' ⟨rfl,hb3⟩))
    . have hf:bRule b k=false:=by
       have h9:(!bRule b k)=true:=by assumption
       simpa using h9
      have HD:=Lib.hid (boxB_bad hlt hf)
      go_ret
      exact⟨⟨_,rfl,by rw [HD.out]; simp⟩,hw.trans (hb3.mono hw.size)⟩
    . have ht:bRule b k=true:=by
       have h9:(!bRule b k)=false:=by assumption
       simpa using h9
      go_roundw
      case rel =>
       refine⟨k+1,by omega,by go_num,fun j h => ?_,hw.trans (hb3.mono hw.size)⟩;rcases Nat.lt_or_ge j k with h3|h3
       . exact HJ.out j h3
       . obtain rfl:j=k:=by omega
         exact ht
      case measure=>simp [intOf]; omega
  . obtain rfl:k=6:=by omega
    have HI:=Lib.hid (boxB_all HJ.out)
    go_wp2
    go_ret
    exact⟨⟨_,rfl,by rw [HI.out]; rfl⟩,hw⟩
theorem rules_contains (b:Box) (g h c:Nat) (w:World) (hn:b.num.size<=140737488351232) (hb:∀ w',From w w'->∀ j u,b.cells[j]? = some u->w'.cell? ⟨g,j,none⟩=some u)
 (hr:∀ w',From w w'->∀ k,k<6->w'.cell? ⟨h,k,none⟩=some (ruleV g k)) :
 Calls Tryz.prog 250 #[.slice (some ⟨h,0,none⟩) 6 c,.func (.func 251) #[] #[]] w fun e w'=>e = .returned (.bool (!boxB b))/\Below w.heap.size w w':=by
 have HC:=Lib.hid (rules_index b g h c w hn hb hr);clear hb hr
 go_enter Tryz.func250,Tryz.ntmps250
 go_wp2_with (go_at_call 271; refine (HC.out).mono ?_; rintro e w1 ⟨⟨i,rfl,hi⟩,hb1⟩; have HI:=Lib.hid hi; clear hi)
 go_ret
 exact⟨by rw [<- HI.out]; rfl,hb1⟩
abbrev boxW (b:Box) (w:World):World:=(w.alloc (Obj.cells #[.int .i64 b.id,.string b.num,.int .u8 b.size,.bool b.high,.int .i64 b.kilos,.int .i64 b.load,.int .i64 b.dis,.int .u8 b.cls,.bool b.reefer] 44)).alloc (Obj.cells #[.func (.func 241) #[] #[.pointer (some ⟨w.heap.size,0,none⟩)],.func (.func 243) #[] #[.pointer (some ⟨w.heap.size,0,none⟩)],.func (.func 245) #[] #[.pointer (some ⟨w.heap.size,0,none⟩)],.func (.func 246) #[] #[.pointer (some ⟨w.heap.size,0,none⟩)],.func (.func 248) #[] #[.pointer (some ⟨w.heap.size,0,none⟩)],.func (.func 249) #[] #[.pointer (some ⟨w.heap.size,0,none⟩)]] 36)
set_option maxHeartbeats 1000000 in
theorem box_right (b:Box) (w:World) (hn:b.num.size<=140737488351232) :
 Calls Tryz.prog 203 #[b.val] w fun e w'=>e = .returned (.bool (boxB b))/\Below w.heap.size w w':=by
 have HB:Hid (Below w.heap.size w (boxW b w)/\∀ w',From (boxW b w) w'->(∀ j u,b.cells[j]? = some u->w'.cell? ⟨w.heap.size,j,none⟩=some u)/\∀ k,k<6->w'.cell? ⟨w.heap.size+1,k,none⟩=some (ruleV w.heap.size k)):=by
  refine⟨((Below.refl _ _).alloc (Nat.le_refl _) _).alloc (by simp) _,fun w' hb => ?_⟩;have hs:(boxW b w).heap.size=w.heap.size+2:=size_alloc2 _ _ _;have k0:(boxW b w).heap[w.heap.size]? = some (.cells #[.int .i64 b.id,.string b.num,.int .u8 b.size,.bool b.high,.int .i64 b.kilos,.int .i64 b.load,.int .i64 b.dis,.int .u8 b.cls,.bool b.reefer] 44 (0,0)):=heap_alloc2_old w _ _;have k1:(boxW b w).heap[w.heap.size+1]? = some (.cells #[.func (.func 241) #[] #[.pointer (some ⟨w.heap.size,0,none⟩)],.func (.func 243) #[] #[.pointer (some ⟨w.heap.size,0,none⟩)],.func (.func 245) #[] #[.pointer (some ⟨w.heap.size,0,none⟩)],.func (.func 246) #[] #[.pointer (some ⟨w.heap.size,0,none⟩)],.func (.func 248) #[] #[.pointer (some ⟨w.heap.size,0,none⟩)],.func (.func 249) #[] #[.pointer (some ⟨w.heap.size,0,none⟩)]] 36 (0,0)):=heap_alloc2_new w _ _;refine⟨fun j u hu => ?_,fun k hk => ?_⟩
  . rw [cell_of_row w' w.heap.size j _ _ _ ((hb.block _ (by omega)).trans k0)];simpa [Box.cells] using hu
  . rw [cell_of_row w' (w.heap.size+1) k _ _ _ ((hb.block _ (by omega)).trans k1)];have:k=0\/k=1\/k=2\/k=3\/k=4\/k=5:=by omega
    rcases this with rfl|rfl|rfl|rfl|rfl|rfl<;>rfl
 have HC:=Lib.hid (rules_contains b w.heap.size (w.heap.size+1) 6 (boxW b w) hn (fun w' h=>(HB.out.2 w' h).1) (fun w' h=>(HB.out.2 w' h).2))
 go_enter Tryz.func203,Tryz.ntmps203
 go_wp2_with (go_at_call 250; refine (HC.out).mono ?_; rintro e w1 ⟨rfl,hb1⟩)
 go_ret
 exact⟨by simp,HB.out.1.trans (hb1.mono HB.out.1.size)⟩
def box0:Box:=⟨0,noNum,0,false,0,0,0,0,false⟩
def isId (id:Int) (b:Box):Bool:=decide (b.id=id)
def findV (l:List Box) (id:Int):Box×Bool:=match l.find? (isId id) with|some b=>(b,true)|none=>(box0,false)
def tallB (b:Box):Int:=if b.high then 2896 else 2591
def hAt (bs:List Box) (col half:Int) (x:Stowed):Int:=if x.col=col/\(x.half=half\/x.half=0) then (if (findV bs x.box).2 then tallB (findV bs x.box).1 else 0) else 0
def heightF (bs:List Box) (l:List Stowed) (col half:Int):Int:=(l.map (hAt bs col half)).sum
theorem tallB_bound (b:Box):0<=tallB b/\tallB b<=2896:=by unfold tallB; split<;>omega
theorem hAt_bound (bs:List Box) (col half:Int) (x:Stowed):0<=hAt bs col half x/\hAt bs col half x<=2896:=by
 unfold hAt;split
 . split
   . exact tallB_bound _
   . omega
 . omega
theorem sum_bound (f:Stowed->Int) (h:∀ x,0<=f x/\f x<=2896) (l:List Stowed):0<=(l.map f).sum/\(l.map f).sum<=2896*(l.length:Int):=by
 induction l with
 | nil=>simp
 | cons x l ih =>
  have:=h x;simp only [List.map_cons,List.sum_cons,List.length_cons];omega
def slotOf (x:Stowed):Slot:=⟨x.col,x.tier,x.half⟩
theorem idx_at {α:Type} {p : α->Bool} {l:List α} {k:Nat} {d : α} (h0:∀ j,j<k->p (l.getD j d)=false) (hk:k<l.length) (h:p (l.getD k d)=true):idx p l=(k:Int):=by
 have e:∀ j,(hj:j<l.length)->l.getD j d=l[j]:=fun j hj=>by rw [List.getD_eq_getElem?_getD,List.getElem?_eq_getElem hj,Option.getD_some]
 exact idx_found hk (fun j h1=>by rw [<- e j (by omega)]; exact h0 j h1) (by rw [<- e k hk]; exact h)
theorem idx_no {α:Type} {p : α->Bool} {l:List α} {k:Nat} {d : α} (h0:∀ j,j<k->p (l.getD j d)=false) (hk:l.length<=k):idx p l = -1:=by
 have e:∀ j,(hj:j<l.length)->l.getD j d=l[j]:=fun j hj=>by rw [List.getD_eq_getElem?_getD,List.getElem?_eq_getElem hj,Option.getD_some]
 exact idx_none fun j hj=>by rw [<- e j hj]; exact h0 j (by omega)
theorem upto_more {p:Nat->Prop} {k:Nat} (h:∀ j,j<k->p j) (hk:p k):∀ j,j<k+1->p j:=fun j hj=>by
 rcases Nat.lt_or_ge j k with h1|h1
 . exact h j h1
 . rw [show j=k by omega]; exact hk
def lpIdx {α:Type} (s:Nat) (d : α) (l:List α) (p : α->Bool):Lp where
 X:=Nat
 ov k := [(s,.int .i64 fun _=>(k:Int))]
 oe _ := []
 I k:=k<=l.length/\∀ j,j<k->p (l.getD j d)=false
 μ k _:=l.length - k
 x0:=0
 nx:=some fun k=>k+1
def conIsS:Con:=con2 232 kBox kPI (fun _ _=>True) (fun b id => .bool fun _=>isId (id ()) (b ()))
set_option maxRecDepth 100000 in
set_option maxHeartbeats 4000000 in
theorem conIsS_ok:ConOk Tryz.prog conIsS:=by
 refine fnOk [] trivial Tryz.func232 (by kernel_rfl) fun avs res h hp => ?_;obtain⟨(b:Box),(id:Int),rfl,rfl⟩:=gop2 h;clear h;refine⟨[],?_⟩
 conv=>arg 1; cbv
 simp (maxSteps:=4000000) only [fms];rfl
def conIdxS:Con:=con2 206 kBoxes (kFPI 232) (fun l _=>(l ()).length<=1000000000000) (fun l id => .int .i64 fun _=>idx (isId (id ())) (l ()))
set_option maxRecDepth 100000 in
set_option maxHeartbeats 4000000 in
theorem conIdxS_ok:ConOk Tryz.prog conIdxS:=by
 refine fnOk [conIsS] ⟨conIsS_ok,trivial⟩ Tryz.func206 (by kernel_rfl) fun avs res h hp => ?_;obtain⟨(l:List Box),(id:Int),rfl,rfl⟩:=gop2 h;clear h;have hl:l.length<=1000000000000:=hp;refine⟨[(2,lpIdx 8 Tc.box.dflt l (isId id))],?_⟩
 conv=>arg 1; cbv
 refine⟨?_,fun (k:Nat) hk => ?_⟩
 . simp (maxSteps:=4000000) only [fms];simp
 have hZhk1:k<=l.length/\∀ j,j<k->(isId id) (l.getD j Tc.box.dflt)=false:=hk;have hk1:=hZhk1.1;have hk2:=hZhk1.2
 conv=>arg 1; cbv
 simp (maxSteps:=4000000) only [fms];refine⟨fun g => ?_,fun g=>(idx_no hk2 (by omega)).symm⟩;have hlt:k<l.length:=by omega
 exact⟨by omega,trivial,fun h=>(idx_at hk2 hlt h).symm,fun h=>⟨⟨by omega,by omega⟩,⟨⟨hlt,upto_more hk2 h⟩,by omega⟩,by omega⟩⟩
theorem find_idx (l:List Box) (id:Int):(idx (isId id) l<0/\findV l id=(box0,false))\/∃ k:Nat,idx (isId id) l=(k:Int)/\k<l.length/\findV l id=(l.getD k Tc.box.dflt,true):=by
 rcases idx_cases (isId id) l with ⟨h1,h2⟩|⟨k,hk,h1,h2,h3⟩
 . left;refine⟨by omega,?_⟩;unfold findV;rw [List.find?_eq_none.2 fun x hx=>by rw [h2 x hx]; simp]
 . right;refine⟨k,h1,hk,?_⟩;unfold findV;rw [h3,List.getD_eq_getElem?_getD,List.getElem?_eq_getElem hk];rfl
def conStowFind:Con:=con2 195 kBoxes kI (fun l _=>(l ()).length<=1000000000000) (fun l id => .tup [.agg (boxL fun _=>(findV (l ()) (id ())).1),.bool fun _=>(findV (l ()) (id ())).2])
set_option maxRecDepth 100000 in
set_option maxHeartbeats 4000000 in
theorem conStowFind_ok:ConOk Tryz.prog conStowFind:=by
 refine fnOk [conIdxS] ⟨conIdxS_ok,trivial⟩ Tryz.func195 (by kernel_rfl) fun avs res h hp => ?_;obtain⟨(l:List Box),(id:Int),rfl,rfl⟩:=gop2 h;clear h;have hl:l.length<=1000000000000:=hp;refine⟨[],?_⟩
 conv=>arg 1; cbv
 simp (maxSteps:=4000000) only [fms];rcases find_idx l id with ⟨h1,h2⟩|⟨k,h1,h2,h3⟩
 . simp only [h2];refine⟨hl,fun _ => ?_,fun g=>absurd h1 g⟩;simp [box0,noNum,noText]
 . simp only [h1,h3,Int.toNat_natCast];refine⟨hl,fun g=>by omega,fun g => ?_⟩;simp;omega
def conIsB:Con:=con2 207 kBox kPI (fun _ _=>True) (fun b id => .bool fun _=>isId (id ()) (b ()))
set_option maxRecDepth 100000 in
set_option maxHeartbeats 4000000 in
theorem conIsB_ok:ConOk Tryz.prog conIsB:=by
 refine fnOk [] trivial Tryz.func207 (by kernel_rfl) fun avs res h hp => ?_;obtain⟨(b:Box),(id:Int),rfl,rfl⟩:=gop2 h;clear h;refine⟨[],?_⟩
 conv=>arg 1; cbv
 simp (maxSteps:=4000000) only [fms];rfl
def conIdxB:Con:=con2 206 kBoxes (kFPI 207) (fun l _=>(l ()).length<=1000000000000) (fun l id => .int .i64 fun _=>idx (isId (id ())) (l ()))
set_option maxRecDepth 100000 in
set_option maxHeartbeats 4000000 in
theorem conIdxB_ok:ConOk Tryz.prog conIdxB:=by
 refine fnOk [conIsB] ⟨conIsB_ok,trivial⟩ Tryz.func206 (by kernel_rfl) fun avs res h hp => ?_;obtain⟨(l:List Box),(id:Int),rfl,rfl⟩:=gop2 h;clear h;have hl:l.length<=1000000000000:=hp;refine⟨[(2,lpIdx 8 Tc.box.dflt l (isId id))],?_⟩
 conv=>arg 1; cbv
 refine⟨?_,fun (k:Nat) hk => ?_⟩
 . simp (maxSteps:=4000000) only [fms];simp
 have hZhk1:k<=l.length/\∀ j,j<k->(isId id) (l.getD j Tc.box.dflt)=false:=hk;have hk1:=hZhk1.1;have hk2:=hZhk1.2
 conv=>arg 1; cbv
 simp (maxSteps:=4000000) only [fms];refine⟨fun g => ?_,fun g=>(idx_no hk2 (by omega)).symm⟩;have hlt:k<l.length:=by omega
 exact⟨by omega,trivial,fun h=>(idx_at hk2 hlt h).symm,fun h=>⟨⟨by omega,by omega⟩,⟨⟨hlt,upto_more hk2 h⟩,by omega⟩,by omega⟩⟩
def conBoxFind:Con:=con2 139 kBoxes kI (fun l _=>(l ()).length<=1000000000000) (fun l id => .tup [.agg (boxL fun _=>(findV (l ()) (id ())).1),.bool fun _=>(findV (l ()) (id ())).2])
set_option maxRecDepth 100000 in
set_option maxHeartbeats 4000000 in
theorem conBoxFind_ok:ConOk Tryz.prog conBoxFind:=by
 refine fnOk [conIdxB] ⟨conIdxB_ok,trivial⟩ Tryz.func139 (by kernel_rfl) fun avs res h hp => ?_;obtain⟨(l:List Box),(id:Int),rfl,rfl⟩:=gop2 h;clear h;have hl:l.length<=1000000000000:=hp;refine⟨[],?_⟩
 conv=>arg 1; cbv
 simp (maxSteps:=4000000) only [fms];rcases find_idx l id with ⟨h1,h2⟩|⟨k,h1,h2,h3⟩
 . simp only [h2];refine⟨hl,fun _ => ?_,fun g=>absurd h1 g⟩;simp [box0,noNum,noText]
 . simp only [h1,h3,Int.toNat_natCast];refine⟨hl,fun g=>by omega,fun g => ?_⟩;simp;omega
def conTall:Con:=con1 268 kBox (fun _=>True) (fun b => .int .i64 fun _=>tallB (b ()))
set_option maxRecDepth 100000 in
set_option maxHeartbeats 4000000 in
theorem conTall_ok:ConOk Tryz.prog conTall:=by
 refine fnOk [] trivial Tryz.func268 (by kernel_rfl) fun avs res h hp => ?_;obtain⟨(b:Box),rfl,rfl⟩:=gop1 h;clear h;refine⟨[],?_⟩
 conv=>arg 1; cbv
 simp (maxSteps:=4000000) only [fms,true_and,and_true,eq_self];refine⟨fun g => ?_,fun g => ?_⟩<;>unfold tallB<;>rw [g]<;>rfl
def conBoxHeight:Con:=con1 140 kBox (fun _=>True) (fun b => .int .i64 fun _=>tallB (b ()))
set_option maxRecDepth 100000 in
set_option maxHeartbeats 4000000 in
theorem conBoxHeight_ok:ConOk Tryz.prog conBoxHeight:=by
 refine fnOk [] trivial Tryz.func140 (by kernel_rfl) fun avs res h hp => ?_;obtain⟨(b:Box),rfl,rfl⟩:=gop1 h;clear h;refine⟨[],?_⟩
 conv=>arg 1; cbv
 simp (maxSteps:=4000000) only [fms,true_and,and_true,eq_self];refine⟨fun g => ?_,fun g => ?_⟩<;>unfold tallB<;>rw [g]<;>rfl
/- slots -/
theorem idx_any {α:Type} (p : α->Bool) (l:List α):decide (0<=idx p l)=l.any p:=by
 rcases idx_cases p l with ⟨h1,h2⟩|⟨k,hk,h1,h2,_⟩
 . rw [decide_eq_false (by omega)];symm;rw [List.any_eq_false];exact fun x hx=>by rw [h2 x hx]; simp
 . rw [decide_eq_true (by omega)];symm;rw [List.any_eq_true];exact⟨_,List.getElem_mem hk,h2⟩
def sloIs (x y:Slot):Bool:=decide (x=y)
def conIdxSlo:Con:=con2 267 kSlos kSlo (fun l _=>(l ()).length<=1000000000000) (fun l x => .int .i64 fun _=>idx (sloIs (x ())) (l ()))
set_option maxRecDepth 100000 in
set_option maxHeartbeats 4000000 in
theorem conIdxSlo_ok:ConOk Tryz.prog conIdxSlo:=by
 refine fnOk [] trivial Tryz.func267 (by kernel_rfl) fun avs res h hp => ?_;obtain⟨(l:List Slot),(x:Slot),rfl,rfl⟩:=gop2 h;clear h;have hl:l.length<=1000000000000:=hp;refine⟨[(2,lpIdx 8 Tc.slot.dflt l (sloIs x))],?_⟩
 conv=>arg 1; cbv
 refine⟨?_,fun (k:Nat) hk => ?_⟩
 . simp (maxSteps:=4000000) only [fms];simp
 have hZhk1:k<=l.length/\∀ j,j<k->(sloIs x) (l.getD j Tc.slot.dflt)=false:=hk;have hk1:=hZhk1.1;have hk2:=hZhk1.2
 conv=>arg 1; cbv
 simp (maxSteps:=4000000) only [fms];have hky:∀ y:Slot,([Kx.i .i64 x.col,Kx.i .i64 x.tier,Kx.i .u8 x.half] = [Kx.i .i64 y.col,Kx.i .i64 y.tier,Kx.i .u8 y.half])=(x=y):=fun y=>by
  obtain⟨a,b,c⟩:=x;obtain⟨a2,b2,c2⟩:=y;simp
 refine⟨fun g => ?_,fun g=>(idx_no hk2 (by omega)).symm⟩;have hlt:k<l.length:=by omega
 simp only [hky];exact⟨⟨by omega,by omega⟩,fun h=>(idx_at hk2 hlt (decide_eq_true h)).symm,fun h=>⟨by simp only [inI64]; omega,⟨⟨hlt,upto_more hk2 (decide_eq_false h)⟩,by omega⟩,by omega⟩⟩
def conHasSlo:Con:=con2 235 kSlos kSlo (fun l _=>(l ()).length<=1000000000000) (fun l x => .bool fun _=>(l ()).any (sloIs (x ())))
set_option maxRecDepth 100000 in
set_option maxHeartbeats 4000000 in
theorem conHasSlo_ok:ConOk Tryz.prog conHasSlo:=by
 refine fnOk [conIdxSlo] ⟨conIdxSlo_ok,trivial⟩ Tryz.func235 (by kernel_rfl) fun avs res h hp => ?_;obtain⟨(l:List Slot),(x:Slot),rfl,rfl⟩:=gop2 h;clear h;have hl:l.length<=1000000000000:=hp;refine⟨[],?_⟩
 conv=>arg 1; cbv
 simp (maxSteps:=4000000) only [fms,true_and,and_true,eq_self];exact⟨hl,idx_any (sloIs x) l⟩
def AV.toPSlos:AV->Option (Unit->List Slot)
 | .pto [.sl false .slot l] 0=>some l
 | _=>none
theorem AV.toPSlos_ {x:AV} {n:Unit->List Slot} (h:x.toPSlos=some n):x = .pto [.sl false .slot n] 0:=by
 unfold AV.toPSlos at h;split at h<;>first|(cases h; rfl)|cases h
abbrev kPSlos:Kd:=⟨List Slot,.pto [.sl .slot],fun n => .pto [.sl false .slot n] 0,AV.toPSlos,AV.toPSlos_⟩
def AV.toPSlo:AV->Option (Unit->Slot)
 | .pto [.int .i64 a,.int .i64 b,.int .u8 c] 0=>some fun _=>⟨a (),b (),c ()⟩
 | _=>none
theorem AV.toPSlo_ {x:AV} {n:Unit->Slot} (h:x.toPSlo=some n):x = .pto [.int .i64 fun _=>(n ()).col,.int .i64 fun _=>(n ()).tier,.int .u8 fun _=>(n ()).half] 0:=by
 unfold AV.toPSlo at h;split at h<;>first|(cases h; rfl)|cases h
abbrev kPSlo:Kd:=⟨Slot,.pto sloSg,fun n => .pto [.int .i64 fun _=>(n ()).col,.int .i64 fun _=>(n ()).tier,.int .u8 fun _=>(n ()).half] 0,AV.toPSlo,AV.toPSlo_⟩
def conHeld1:Con:=con3 234 kU8 kPSlos kPSlo (fun _ l x=>(l ()).length<=1000000000000/\inI64 ((x ()).tier - 1)) (fun h l x => .bool fun _=>belowB (x ()) (l ()) (h ()))
set_option maxRecDepth 100000 in
set_option maxHeartbeats 4000000 in
theorem conHeld1_ok:ConOk Tryz.prog conHeld1:=by
 refine fnOk [conHasSlo] ⟨conHasSlo_ok,trivial⟩ Tryz.func234 (by kernel_rfl) fun avs res h hp => ?_;obtain⟨(h:Int),(l:List Slot),(x:Slot),rfl,rfl⟩:=gop3 h;clear h;have hl:l.length<=1000000000000/\inI64 (x.tier - 1):=hp;refine⟨[],?_⟩
 conv=>arg 1; cbv
 simp (maxSteps:=4000000) only [fms,true_and,and_true,eq_self];exact⟨hl.2,hl.1,rfl⟩
def conHeld:Con:=con2 197 kSlo kSlos (fun x l=>(l ()).length<=1000000000000/\(x ()).tier<=1000000) (fun x l => .bool fun _=>heldB (x ()) (l ()))
set_option maxRecDepth 100000 in
set_option maxHeartbeats 4000000 in
theorem conHeld_ok:ConOk Tryz.prog conHeld:=by
 refine fnOk [conHeld1] ⟨conHeld1_ok,trivial⟩ Tryz.func197 (by kernel_rfl) fun avs res h hp => ?_;obtain⟨(x:Slot),(l:List Slot),rfl,rfl⟩:=gop2 h;clear h;have hl:l.length<=1000000000000/\x.tier<=1000000:=hp;refine⟨[],?_⟩
 conv=>arg 1; cbv
 simp (maxSteps:=4000000) only [fms,true_and,and_true,eq_self];refine⟨fun h=>by unfold heldB; rw [if_pos h],fun h => ?_⟩;have e:heldB x l=(belowB x l x.half||(decide (x.half=0)&&(belowB x l 1&&belowB x l 2))):=if_neg h;have hi:inI64 (x.tier - 1):=by simp only [inI64]; omega
 have ex:(⟨x.col,x.tier,x.half⟩:Slot)=x:=rfl;simp only [ex,e];refine⟨⟨hl.1,hi⟩,fun h1=>by simp [h1],fun h1=>⟨fun h0=>⟨⟨hl.1,hi⟩,fun h2=>⟨⟨hl.1,hi⟩,?_⟩,fun h2 => ?_⟩,fun h0=>by simp [h1,h0]⟩⟩ <;>
 . rw [h0] at h1;simp [h0,h1,h2]
def conShares:Con:=con2 236 kU8 kU8 (fun _ _=>True) (fun a b => .bool fun _=>sharesB (a ()) (b ()))
set_option maxRecDepth 100000 in
set_option maxHeartbeats 4000000 in
theorem conShares_ok:ConOk Tryz.prog conShares:=by
 refine fnOk [] trivial Tryz.func236 (by kernel_rfl) fun avs res h hp => ?_;obtain⟨(a:Int),(b:Int),rfl,rfl⟩:=gop2 h;clear h;refine⟨[],?_⟩
 conv=>arg 1; cbv
 simp (maxSteps:=4000000) only [fms,true_and,and_true,eq_self];exact⟨fun h=>by simp [sharesB,h],fun h=>⟨fun h0=>by simp [sharesB,h0],fun h0=>by simp [sharesB,h,h0]⟩⟩
def conMeet:Con:=con2 198 kSlo kSlo (fun _ _=>True) (fun x y => .bool fun _=>meetB (x ()) (y ()))
set_option maxRecDepth 100000 in
set_option maxHeartbeats 4000000 in
theorem conMeet_ok:ConOk Tryz.prog conMeet:=by
 refine fnOk [conShares] ⟨conShares_ok,trivial⟩ Tryz.func198 (by kernel_rfl) fun avs res h hp => ?_;obtain⟨(x:Slot),(y:Slot),rfl,rfl⟩:=gop2 h;clear h;refine⟨[],?_⟩
 conv=>arg 1; cbv
 simp (maxSteps:=4000000) only [fms,true_and,and_true,eq_self];exact⟨fun h1=>⟨fun h2=>by simp [meetB,h1,h2],fun h2=>by simp [meetB,h2]⟩,fun h1=>by simp [meetB,h1]⟩
def lpHgt (bs:List Box) (l:List Stowed) (c h:Int):Lp where
 X:=Nat
 ov k := [(16,.int .i64 fun _=>(k:Int)),(9,.int .i64 fun _=>heightF bs (l.take k) c h)]
 oe _ := []
 I k:=k<=l.length
 μ k _:=l.length - k
 x0:=0
 nx:=some fun k=>k+1
def conStowHeight:Con:=con4 237 kBoxes kStos kI kU8 (fun bs l _ _=>(bs ()).length<=1000000000000/\(l ()).length<=1000000) (fun bs l col half => .int .i64 fun _=>heightF (bs ()) (l ()) (col ()) (half ()))
set_option maxRecDepth 100000 in
set_option maxHeartbeats 4000000 in
theorem conStowHeight_ok:ConOk Tryz.prog conStowHeight:=by
 refine fnOk [conStowFind,conTall] ⟨conStowFind_ok,conTall_ok,trivial⟩ Tryz.func237 (by kernel_rfl) fun avs res h hp => ?_;obtain⟨(bs:List Box),(l:List Stowed),(col:Int),(half:Int),rfl,rfl⟩:=gop4 h;clear h;have hl:bs.length<=1000000000000/\l.length<=1000000:=hp;refine⟨[(3,lpHgt bs l col half)],?_⟩
 conv=>arg 1; cbv
 refine⟨?_,fun (k:Nat) hk => ?_⟩
 . simp (maxSteps:=4000000) only [fms];simp [heightF]
 have hk1:k<=l.length:=hk
 conv=>arg 1; cbv
 simp (maxSteps:=4000000) only [fms,true_and,and_true,eq_self];refine⟨fun g => ?_,fun g=>by rw [List.take_of_length_le (by omega)]⟩;have hlt:k<l.length:=by omega
 have hst:heightF bs (l.take (k+1)) col half=heightF bs (l.take k) col half+hAt bs col half (l.getD k Tc.stowed.dflt):=by
  unfold heightF;rw [show l.take (k+1)=l.take k ++ [l[k]] from by rw [List.take_add_one,List.getElem?_eq_getElem hlt]; rfl,List.map_append,List.sum_append,List.getD_eq_getElem?_getD,List.getElem?_eq_getElem hlt];simp only [List.map_cons,List.map_nil,List.sum_cons,List.sum_nil,Option.getD_some];omega
 have hb:0<=heightF bs (l.take k) col half/\heightF bs (l.take k) col half<=2896*((l.take k).length:Int):=sum_bound _ (hAt_bound bs col half) _;rw [List.length_take] at hb;have htb:=tallB_bound (findV bs (l.getD k Tc.stowed.dflt).box).1;have et:∀ b:Box,tallB (⟨b.id,b.num,b.size,b.high,b.kilos,b.load,b.dis,b.cls,b.reefer⟩:Box)=tallB b:=fun _=>rfl;simp only [et,hst];unfold hAt;generalize heightF bs (l.take k) col half=H at *
 generalize tallB (findV bs (l.getD k Tc.stowed.dflt).box).1=T at *
 have h1:∀ P,P->inI64 ((k:Int)+1)/\(k+1<=l.length/\l.length - (k+1)<l.length - k)/\(k:Int)+1=((k+1:Nat):Int)/\P:=fun P h=>⟨by simp only [inI64]; omega,by omega,by omega,h⟩
 have h2:inI64 (H+T):=by simp only [inI64]; omega
 clear hst et hb htb;generalize l.getD k Tc.stowed.dflt=y;refine⟨by omega,fun c=>⟨fun c1=>⟨hl.1,fun c2=>⟨h2,h1 _ ?_⟩,fun c2=>h1 _ ?_⟩,fun c1=>⟨fun c3=>⟨hl.1,fun c2=>⟨h2,h1 _ ?_⟩,fun c2=>h1 _ ?_⟩,fun c3=>h1 _ ?_⟩⟩,fun c=>h1 _ ?_⟩<;>simp [*]
open Go.Maps Go.WideMaps
def seenN (l:List Box) (k:Nat) (s:ByteArray):Bool:=(l.take k).any (fun b => !decide (b.num=noNum)&&decide (b.num=s))
def lastId (l:List Box) (k:Nat):Int:=if k=0 then 0 else (l[k - 1]?.map Box.id).getD 0
def boxBad (l:List Box) (k:Nat):Bool :=
 match l[k]? with
 | some b=>seenN l k b.num||decide (b.id<=lastId l k) || !boxB b
 | none=>false
def boxValid (l:List Box):Int×Int :=
 if l.length>2000 then (-1,5) else
 match (List.range l.length).find? (boxBad l) with
 | some k=>(k,60)
 | none=>(-1,0)
theorem boxValid_found {l:List Box} {k:Nat} (hl:l.length<=2000) (hk:k<l.length) (hj:∀ j,j<k->boxBad l j=false) (h:boxBad l k=true):boxValid l=((k:Int),60):=by
 have:(List.range l.length).find? (boxBad l)=some k:=by
  rw [List.find?_range_eq_some];exact⟨h,by simpa using hk,fun j hjk=>by simp [hj j hjk]⟩
 unfold boxValid;rw [if_neg (by omega),this]
theorem boxValid_none {l:List Box} (hl:l.length<=2000) (hj:∀ j,j<l.length->boxBad l j=false):boxValid l=(-1,0):=by
 have:(List.range l.length).find? (boxBad l)=none:=by
  rw [List.find?_eq_none];intro x hx;rw [hj x (by simpa using hx)];simp
 unfold boxValid;rw [if_neg (by omega),this]
theorem seenN_zero (l:List Box) (s:ByteArray):seenN l 0 s=false:=by simp [seenN]
theorem seenN_succ (l:List Box) (k:Nat) (s:ByteArray) (hk:k<l.length):seenN l (k+1) s=(seenN l k s||(!decide (l[k].num=noNum)&&decide (l[k].num=s))):=by
 unfold seenN;rw [List.take_succ_eq_append_getElem hk,List.any_append];simp only [List.any_cons,List.any_nil,Bool.or_false]
theorem lastId_succ (l:List Box) (k:Nat) (hk:k<l.length):lastId l (k+1)=l[k].id:=by
 unfold lastId;simp [hk]
theorem lastId_zero (l:List Box):lastId l 0=0:=by simp [lastId]
end Go.Proofs.YthfpdbjemfhieaaGreat
namespace Go.Proofs.YthfpdbjemfhieaaGreat
open Go.RowKit
def wOk (n:Int):Bool:=decide (0<=n/\n<=500000000)
def inArm (n m:Int):Bool:=decide (-m<=n/\n<=m)
def ldOk (l:Ld):Bool:=wOk l.kilos&&(inArm l.x (l.kilos*1100000)&&(inArm l.y (l.kilos*1100000)&&inArm l.z (l.kilos*1100000)))
def ld0:Ld:=⟨0,0,0,0⟩
def pointF (k x y z:Int):Ld×Int:=if wOk k&&(inArm x 1100000&&(inArm y 1100000&&inArm z 1100000)) then (⟨k,k*x,k*y,k*z⟩,0) else (ld0,2)
theorem wOk_iff {n:Int}:wOk n=true↔0<=n/\n<=500000000:=decide_eq_true_iff
theorem inArm_iff {n m:Int}:inArm n m=true ↔ -m<=n/\n<=m:=decide_eq_true_iff
theorem m_weighs (n:Int) (w:World):Calls Tryz.prog 75 #[.int .i64 n] w fun e w'=>e = .returned (.bool (wOk n))/\w'=w:=by
 by_cases h1:0<=n
 . by_cases h2:n<=500000000
   . have h3:wOk n=true:=by simp [wOk,h1,h2]
     rw [h3];clear h3
     go_enter Tryz.func75,Tryz.ntmps75
     go_wp2
     go_ret
     exact⟨rfl,rfl⟩
   . have h3:wOk n=false:=by simp [wOk]; omega
     rw [h3];clear h3
     go_enter Tryz.func75,Tryz.ntmps75
     go_wp2
     go_ret
     exact⟨rfl,rfl⟩
 . have h3:wOk n=false:=by simp [wOk]; omega
   rw [h3];clear h3
   go_enter Tryz.func75,Tryz.ntmps75
   go_wp2
   go_ret
   exact⟨rfl,rfl⟩
theorem m_within (n m:Int) (hm0:0<=m) (hm:m<=4611686018427387904) (w:World):Calls Tryz.prog 98 #[.int .i64 n,.int .i64 m] w fun e w'=>e = .returned (.bool (inArm n m))/\w'=w:=by
 have wn:IntKind.i64.wrap (-m) = -m:=wrap_i64 (by omega) (by omega);by_cases h1 : -m<=n
 . by_cases h2:n<=m
   . have h3:inArm n m=true:=by simp [inArm,h1,h2]
     rw [h3];clear h3
     go_enter Tryz.func98,Tryz.ntmps98
     go_wp2
     go_ret
     exact⟨rfl,rfl⟩
   . have h3:inArm n m=false:=by simp [inArm]; omega
     rw [h3];clear h3
     go_enter Tryz.func98,Tryz.ntmps98
     go_wp2
     go_ret
     exact⟨rfl,rfl⟩
 . have h3:inArm n m=false:=by simp [inArm]; omega
   rw [h3];clear h3
   go_enter Tryz.func98,Tryz.ntmps98
   go_wp2
   go_ret
   exact⟨rfl,rfl⟩
set_option maxHeartbeats 1000000 in
theorem m_Right (l:Ld) (w:World):Calls Tryz.prog 74 #[.agg #[.int .i64 l.kilos,.int .i64 l.x,.int .i64 l.y,.int .i64 l.z]] w fun e w'=>e = .returned (.bool (ldOk l))/\From w w':=by
 obtain⟨k,x,y,z⟩:=l;dsimp only;have HB:Hid (From w (w.alloc (.cells #[.int .i64 k,.int .i64 x,.int .i64 y,.int .i64 z] 48))):=(Below.refl _ _).alloc (Nat.le_refl _) _;have HK:=Lib.hid (fun w1=>m_weighs k w1)
 cases hk:wOk k with
 | false =>
  rw [hk] at HK;have hr:ldOk ⟨k,x,y,z⟩=false:=by unfold ldOk; rw [hk]; rfl
  rw [hr];clear hr hk
  go_enter Tryz.func74,Tryz.ntmps74
  go_wp2_with (go_at_call 75; refine (HK.out _).mono ?_; rintro e wx ⟨rfl,hx⟩; rw [hx]; clear hx wx HK)
  go_ret
  exact⟨rfl,HB.out⟩
 | true =>
  have h1:=wOk_iff.1 hk;have wm:IntKind.i64.wrap (k*1100000)=k*1100000:=wrap_i64 (by omega) (by omega);obtain⟨m,hm⟩:∃ m,m=k*1100000:=⟨_,rfl⟩
  have HX:=Lib.hid (fun w1=>m_within x m (by omega) (by omega) w1);have HY:=Lib.hid (fun w1=>m_within y m (by omega) (by omega) w1);have HZ:=Lib.hid (fun w1=>m_within z m (by omega) (by omega) w1);have hr:ldOk ⟨k,x,y,z⟩=(inArm x m&&(inArm y m&&inArm z m)):=by unfold ldOk; rw [hk,hm]; rfl
  rw [hk] at HK;rw [hr];rw [<- hm] at wm;have wm2:IntKind.i64.wrap (k*1100000)=m:=by rw [<- hm]; exact wm
  clear hr hk h1 hm wm;generalize inArm x m=bx at HX ⊢;generalize inArm y m=by_ at HY ⊢;generalize inArm z m=bz at HZ ⊢
  cases bx with
  | false =>
   go_enter Tryz.func74,Tryz.ntmps74
   go_wp2_with (first
    | (go_at_call 75; refine (HK.out _).mono ?_; rintro e wx ⟨rfl,hx⟩; rw [hx]; clear hx wx HK)
    | (go_at_call 98; refine (HX.out _).mono ?_; rintro e wx ⟨rfl,hx⟩; rw [hx]; clear hx wx HX)
    | (go_at_call 98; refine (HY.out _).mono ?_; rintro e wx ⟨rfl,hx⟩; rw [hx]; clear hx wx HY)
    | (go_at_call 98; refine (HZ.out _).mono ?_; rintro e wx ⟨rfl,hx⟩; rw [hx]; clear hx wx))
   go_ret
   exact⟨rfl,HB.out⟩
  | true =>
   cases by_ with
   | false =>
    go_enter Tryz.func74,Tryz.ntmps74
    go_wp2_with (first
     | (go_at_call 75; refine (HK.out _).mono ?_; rintro e wx ⟨rfl,hx⟩; rw [hx]; clear hx wx HK)
     | (go_at_call 98; refine (HX.out _).mono ?_; rintro e wx ⟨rfl,hx⟩; rw [hx]; clear hx wx HX)
     | (go_at_call 98; refine (HY.out _).mono ?_; rintro e wx ⟨rfl,hx⟩; rw [hx]; clear hx wx HY)
     | (go_at_call 98; refine (HZ.out _).mono ?_; rintro e wx ⟨rfl,hx⟩; rw [hx]; clear hx wx))
    go_ret
    exact⟨rfl,HB.out⟩
   | true =>
    go_enter Tryz.func74,Tryz.ntmps74
    go_wp2_with (first
     | (go_at_call 75; refine (HK.out _).mono ?_; rintro e wx ⟨rfl,hx⟩; rw [hx]; clear hx wx HK)
     | (go_at_call 98; refine (HX.out _).mono ?_; rintro e wx ⟨rfl,hx⟩; rw [hx]; clear hx wx HX)
     | (go_at_call 98; refine (HY.out _).mono ?_; rintro e wx ⟨rfl,hx⟩; rw [hx]; clear hx wx HY)
     | (go_at_call 98; refine (HZ.out _).mono ?_; rintro e wx ⟨rfl,hx⟩; rw [hx]; clear hx wx))
    go_ret
    exact⟨rfl,HB.out⟩
theorem ld_row:IsRow Tryz.prog 48 4:=Ld.row
theorem ld_size:(Tryz.prog.info? 48).map (·.size)=some 4:=by kernel_rfl
def LdPost (w:World) (r:Ld×Int) (e:Ending) (w':World):Prop:=e = .returned (.tuple #[r.1.val,.int .i64 r.2])/\From w w'
set_option maxHeartbeats 2000000 in
theorem m_Point (k x y z:Int) (w:World):Calls Tryz.prog 45 #[.int .i64 k,.int .i64 x,.int .i64 y,.int .i64 z] w (LdPost w (pointF k x y z)):=by
 have HM0:=Lib.hid ((Mem.nil w).alloc 48 ld0.cells);have HK:=Lib.hid (fun w1=>m_weighs k w1);have HX:=Lib.hid (fun w1=>m_within x 1100000 (by omega) (by omega) w1);have HY:=Lib.hid (fun w1=>m_within y 1100000 (by omega) (by omega) w1);have HZ:=Lib.hid (fun w1=>m_within z 1100000 (by omega) (by omega) w1)
 cases hk:wOk k with
 | false =>
  have HR:Hid (pointF k x y z=(ld0,2)):=by unfold Hid pointF; rw [hk]; rfl
  rw [hk] at HK;clear hk
  go_enter Tryz.func45,Tryz.ntmps45
  go_wp2_with (first
   | (go_at_call 75; refine (HK.out _).mono ?_; rintro e wx ⟨rfl,hx⟩; rw [hx]; clear hx wx HK)
   | (go_at_call 98; refine (HX.out _).mono ?_; rintro e wx ⟨rfl,hx⟩; rw [hx]; clear hx wx HX)
   | (go_at_call 98; refine (HY.out _).mono ?_; rintro e wx ⟨rfl,hx⟩; rw [hx]; clear hx wx HY)
   | (go_at_call 98; refine (HZ.out _).mono ?_; rintro e wx ⟨rfl,hx⟩; rw [hx]; clear hx wx)
   | ((with_reducible refine g_st 48 ?_); go_loud (refine wpList_stB (cs':=Ld.cells (ld0)) rfl _ _ rfl HM0.out 0 rfl rfl rfl ld_size rfl (Ld.len _) (Ld.len _) (Ld.one _) ?_); intro w6 h6))
  refine bodyPost_ret (results_box2 rfl _ rfl (h6.ldb ld_row (Ld.len _) (i:=0) rfl _ (Below.refl _ _))) rfl ⟨?_,h6.from_⟩;rw [HR.out];rfl
 | true =>
  cases hx:inArm x 1100000 with
  | false =>
   have HR:Hid (pointF k x y z=(ld0,2)):=by unfold Hid pointF; rw [hk,hx]; rfl
   rw [hk] at HK;rw [hx] at HX;clear hk hx
   go_enter Tryz.func45,Tryz.ntmps45
   go_wp2_with (first
    | (go_at_call 75; refine (HK.out _).mono ?_; rintro e wx ⟨rfl,hx⟩; rw [hx]; clear hx wx HK)
    | (go_at_call 98; refine (HX.out _).mono ?_; rintro e wx ⟨rfl,hx⟩; rw [hx]; clear hx wx HX)
    | (go_at_call 98; refine (HY.out _).mono ?_; rintro e wx ⟨rfl,hx⟩; rw [hx]; clear hx wx HY)
    | (go_at_call 98; refine (HZ.out _).mono ?_; rintro e wx ⟨rfl,hx⟩; rw [hx]; clear hx wx)
    | ((with_reducible refine g_st 48 ?_); go_loud (refine wpList_stB (cs':=Ld.cells (ld0)) rfl _ _ rfl HM0.out 0 rfl rfl rfl ld_size rfl (Ld.len _) (Ld.len _) (Ld.one _) ?_); intro w6 h6))
   refine bodyPost_ret (results_box2 rfl _ rfl (h6.ldb ld_row (Ld.len _) (i:=0) rfl _ (Below.refl _ _))) rfl ⟨?_,h6.from_⟩;rw [HR.out];rfl
  | true =>
   cases hy:inArm y 1100000 with
   | false =>
    have HR:Hid (pointF k x y z=(ld0,2)):=by unfold Hid pointF; rw [hk,hx,hy]; rfl
    rw [hk] at HK;rw [hx] at HX;rw [hy] at HY;clear hk hx hy
    go_enter Tryz.func45,Tryz.ntmps45
    go_wp2_with (first
     | (go_at_call 75; refine (HK.out _).mono ?_; rintro e wx ⟨rfl,hx⟩; rw [hx]; clear hx wx HK)
     | (go_at_call 98; refine (HX.out _).mono ?_; rintro e wx ⟨rfl,hx⟩; rw [hx]; clear hx wx HX)
     | (go_at_call 98; refine (HY.out _).mono ?_; rintro e wx ⟨rfl,hx⟩; rw [hx]; clear hx wx HY)
     | (go_at_call 98; refine (HZ.out _).mono ?_; rintro e wx ⟨rfl,hx⟩; rw [hx]; clear hx wx)
     | ((with_reducible refine g_st 48 ?_); go_loud (refine wpList_stB (cs':=Ld.cells (ld0)) rfl _ _ rfl HM0.out 0 rfl rfl rfl ld_size rfl (Ld.len _) (Ld.len _) (Ld.one _) ?_); intro w6 h6))
    refine bodyPost_ret (results_box2 rfl _ rfl (h6.ldb ld_row (Ld.len _) (i:=0) rfl _ (Below.refl _ _))) rfl ⟨?_,h6.from_⟩;rw [HR.out];rfl
   | true =>
    cases hz:inArm z 1100000 with
    | false =>
     have HR:Hid (pointF k x y z=(ld0,2)):=by unfold Hid pointF; rw [hk,hx,hy,hz]; rfl
     rw [hk] at HK;rw [hx] at HX;rw [hy] at HY;rw [hz] at HZ;clear hk hx hy hz
     go_enter Tryz.func45,Tryz.ntmps45
     go_wp2_with (first
      | (go_at_call 75; refine (HK.out _).mono ?_; rintro e wx ⟨rfl,hx⟩; rw [hx]; clear hx wx HK)
      | (go_at_call 98; refine (HX.out _).mono ?_; rintro e wx ⟨rfl,hx⟩; rw [hx]; clear hx wx HX)
      | (go_at_call 98; refine (HY.out _).mono ?_; rintro e wx ⟨rfl,hx⟩; rw [hx]; clear hx wx HY)
      | (go_at_call 98; refine (HZ.out _).mono ?_; rintro e wx ⟨rfl,hx⟩; rw [hx]; clear hx wx)
      | ((with_reducible refine g_st 48 ?_); go_loud (refine wpList_stB (cs':=Ld.cells (ld0)) rfl _ _ rfl HM0.out 0 rfl rfl rfl ld_size rfl (Ld.len _) (Ld.len _) (Ld.one _) ?_); intro w6 h6))
     refine bodyPost_ret (results_box2 rfl _ rfl (h6.ldb ld_row (Ld.len _) (i:=0) rfl _ (Below.refl _ _))) rfl ⟨?_,h6.from_⟩;rw [HR.out];rfl
    | true =>
     have HR:Hid (pointF k x y z=(⟨k,k*x,k*y,k*z⟩,0)):=by unfold Hid pointF; rw [hk,hx,hy,hz]; rfl
     have hm:∀ n:Int,inArm n 1100000=true->IntKind.i64.wrap (k*n)=k*n:=fun n hn=>by
      have h1:=wOk_iff.1 hk;have h2:=inArm_iff.1 hn;have h3:k*n<=k*1100000:=Int.mul_le_mul_of_nonneg_left h2.2 h1.1;have h4:k*(-1100000)<=k*n:=Int.mul_le_mul_of_nonneg_left h2.1 h1.1;exact wrap_i64 (by omega) (by omega)
     have mx:=hm x hx;have my:=hm y hy;have mz:=hm z hz;rw [hk] at HK;rw [hx] at HX;rw [hy] at HY;rw [hz] at HZ;clear hk hx hy hz hm
     go_enter Tryz.func45,Tryz.ntmps45
     go_wp2_with (first
      | (go_at_call 75; refine (HK.out _).mono ?_; rintro e wx ⟨rfl,hx⟩; rw [hx]; clear hx wx HK)
      | (go_at_call 98; refine (HX.out _).mono ?_; rintro e wx ⟨rfl,hx⟩; rw [hx]; clear hx wx HX)
      | (go_at_call 98; refine (HY.out _).mono ?_; rintro e wx ⟨rfl,hx⟩; rw [hx]; clear hx wx HY)
      | (go_at_call 98; refine (HZ.out _).mono ?_; rintro e wx ⟨rfl,hx⟩; rw [hx]; clear hx wx)
      | ((with_reducible refine g_st 48 ?_); go_loud (refine wpList_stB (cs':=Ld.cells (⟨k,k*x,k*y,k*z⟩)) rfl _ _ rfl HM0.out 0 rfl rfl rfl ld_size rfl (Ld.len _) (Ld.len _) (Ld.one _) ?_); intro w6 h6))
     refine bodyPost_ret (results_box2 rfl _ rfl (h6.ldb ld_row (Ld.len _) (i:=0) rfl _ (Below.refl _ _))) rfl ⟨?_,h6.from_⟩;rw [HR.out];rfl
theorem m_bad (l:Ld) (w:World):Calls Tryz.prog 73 #[l.val] w fun e w'=>e = .returned (.bool (!ldOk l))/\From w w':=by
 have HR:=Lib.hid (fun w1=>m_Right l w1);have HB:Hid (From w (w.alloc (.cells (Ld.cells l).toArray 48))):=(Below.refl _ _).alloc (Nat.le_refl _) _
 go_enter Tryz.func73,Tryz.ntmps73
 go_wp2_with (go_at_call 74; go_loud (refine (HR.out _).mono ?_); rintro e w2 ⟨rfl,hb⟩)
 go_ret
 exact⟨rfl,HB.out.trans (hb.mono HB.out.size)⟩
end Go.Proofs.YthfpdbjemfhieaaGreat
