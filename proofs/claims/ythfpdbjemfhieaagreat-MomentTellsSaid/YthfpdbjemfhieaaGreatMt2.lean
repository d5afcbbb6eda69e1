/-
  Numbers of frac (limbs of 32 bits) and of its reference (digits to the base 65536), and fractions, as they lie in memory.
-/
import Derived.Test.YthfpdbjemfhieaaGreatMt1
import Derived.RangeFuncFrom
import Derived.RangeFuncNested
import Derived.RangeFuncBound
import Derived.RangeFuncCalls
import Derived.RangeFuncLeaves
import Derived.Shelf.Abstract
import Derived.Shelf.RegionOpen
import Derived.OwnWalkIn
import Derived.TacticsInMore
import Derived.LoopNIn
import Derived.LoopIn
import Derived.Lib.SliceRun
set_option linter.unusedVariables false
set_option linter.unusedSimpArgs false
namespace Go.Proofs.YthfpdbjemfhieaaGreat
open Go.RowKit
abbrev B32:Nat:=4294967296
theorem hB32:2<=B32:=by decide
abbrev len32 (x:Nat):Nat:=(dig B32 x).length
abbrev Rd32 (w:World) (A:Option Addr) (x:Nat):Prop:=Rd w w.heap.size 1 A (nums .u32 (dig B32 x))
theorem Rd.from {w w':World} {size:Nat} {A:Option Addr} {css:List (List Value)} (h:Rd w w.heap.size size A css) (hb:From w w'):Rd w' w'.heap.size size A css:=(h.below hb (Nat.le_refl _)).more hb.size
theorem info_u32:(Tryz.prog.info? 63).map (fun i=>(i.zero,i.size,i.bytes))=some (some (.int .u32 0),1,4):=by kernel_rfl
theorem size_u32:(Tryz.prog.info? 63).map (·.size)=some 1:=by kernel_rfl
theorem dig_take {B:Nat} (hB:2<=B) {l:List Nat} (hl:Digs B l):dig B (valB B l)=l.take (dig B (valB B l)).length:=by
 have h:=dig_pad hB (k:=l.length) (valB_lt l hl);rw [pad_valB (by omega) l hl] at h;exact h
theorem rd_trim {B:Nat} (hB:2<=B) {w:World} {N:Nat} {A:Option Addr} {k:IntKind} {l:List Nat} (h:Rd w N 1 A (nums k l)) (hl:Digs B l):Rd w N 1 A (nums k (dig B (valB B l))):=by
 rw [dig_take hB hl,nums_take];exact h.take _
theorem wrap_u64 {n:Int} (h0:0<=n) (h:n<18446744073709551616):IntKind.u64.wrap n=n:=by
 unfold IntKind.wrap;simp [IntKind.bits,IntKind.signed];omega
theorem wrap_u32 (n:Nat):IntKind.u32.wrap (n:Int)=((n % 4294967296:Nat):Int):=by
 unfold IntKind.wrap;simp [IntKind.bits,IntKind.signed]
theorem wrap_u64_sub (a b:Nat) (hb:b<=18446744073709551616):IntKind.u64.wrap ((a:Int) - (b:Int))=(((a+18446744073709551616 - b) % 18446744073709551616:Nat):Int):=by
 unfold IntKind.wrap;simp [IntKind.bits,IntKind.signed];omega
theorem wrap_i64 {n:Int} (h1 : -9223372036854775808<=n) (h2:n<=9223372036854775807):IntKind.i64.wrap n=n:=by
 unfold IntKind.wrap;simp [IntKind.bits,IntKind.signed];split<;>omega
def FracV.cells (f:FracV):List Value := [.bool f.neg]++((pad B32 8 f.num).map fun (n:Nat)=>Value.int .u32 (n:Int))++((pad B32 8 f.den).map fun (n:Nat)=>Value.int .u32 (n:Int))
def FracV.val (f:FracV):Value := .agg f.cells.toArray
theorem FracV.cells_len (f:FracV):f.cells.length=17:=by simp [FracV.cells,pad_len]
theorem FracV.ones (f:FracV):∀ u∈f.cells,u.oneCell'=true:=by
 intro u hu;simp only [FracV.cells,List.mem_append,List.mem_cons,List.not_mem_nil,or_false,List.mem_map] at hu;rcases hu with (rfl|⟨n,_,rfl⟩)|⟨n,_,rfl⟩<;>simp [Value.oneCell']
theorem pow256:B32^8=top256:=by decide
def lenOf:Value->Nat
 | .slice _ n _=>n
 | _=>0
set_option maxHeartbeats 1000000 in
theorem frac_trim (A:Option Addr) (c n:Nat) (l:List Nat) (hn:n=l.length) (w:World) (h:Rd w w.heap.size 1 A (nums .u32 l)) (hl:Digs B32 l) (hlen:l.length<=1000000000) (hcap:l.length<=c) :
 Calls Tryz.prog 128 #[.slice A n c] w fun e w'=>e = .returned (.slice A (len32 (valB B32 l)) c)/\w'=w:=by
 subst hn
 go_enter Tryz.func128,Tryz.ntmps128
 go_wp2
 go_loop [0] (fun v=>∃ k:Nat,k<=l.length/\v = .slice A k c/\∀ d∈l.drop k,d=0) (fun v=>lenOf v)
 case atStart=>exact⟨l.length,Nat.le_refl _,rfl,by simp⟩
 case round =>
  obtain⟨k,hk,rfl,hz⟩:=hrel;have HZ:=Lib.hid hz;clear hz;by_cases hk0:k=0
  . subst hk0;have HT:Hid (len32 (valB B32 l)=0):=by unfold Hid len32; rw [trim_dig hB32 hl (Nat.zero_le _) HZ.out (.inl rfl)]; simp
    go_wp2
    go_ret
    exact⟨by rw [HT.out]; rfl,rfl⟩
  . obtain⟨j,rfl⟩:∃ j,k=j+1:=⟨k - 1,by omega⟩
    obtain⟨b,off,rfl,hb,hld⟩:=num_ld Tryz.underlying63 rfl h (show j<l.length by omega);have HL:=Lib.hid (hld w (Below.refl _ _));clear hld;by_cases hz0:l[j]=0
    . have e0:((l[j]:Int)==0)=true:=by simp [hz0]
      have hcj:¬ c<j:=by omega
      go_wp2_with (first
       | ((with_reducible refine g_ld 63 ?_); (first|refine wpList_ld rfl _ _ rfl _ rfl _ HL.out ?_|refine wpList_ldw rfl _ _ rfl _ rfl _ HL.out ?_)))
      go_round
      case rel =>
       refine⟨j,by omega,by simp,fun d hd => ?_⟩;rw [List.drop_eq_getElem_cons (show j<l.length by omega)] at hd;rcases List.mem_cons.1 hd with h1|h1
       . rw [h1,hz0]
       . exact HZ.out d h1
      case measure=>simp [lenOf]
    . have HT:Hid (len32 (valB B32 l)=j+1):=by
       unfold Hid len32;rw [trim_dig hB32 hl hk HZ.out (.inr ⟨j,rfl,by simp [show j<l.length by omega]; exact hz0⟩)];simp;omega
      have e0:((l[j]:Int)==0)=false:=by simp [hz0]
      go_wp2_with (first
       | ((with_reducible refine g_ld 63 ?_); (first|refine wpList_ld rfl _ _ rfl _ rfl _ HL.out ?_|refine wpList_ldw rfl _ _ rfl _ rfl _ HL.out ?_)))
      go_ret
      exact⟨by rw [HT.out]; rfl,rfl⟩
theorem drop_set_next {o O:List Nat} {i j r:Nat} (h:o.drop (i+j)=O.drop (i+j)):(o.set (i+j) r).drop (i+(j+1))=O.drop (i+(j+1)):=by
 have e:i+(j+1)=(i+j)+1:=by omega
 rw [e,drop_set];have h1:=congrArg (fun l=>l.drop 1) h;simpa [List.drop_drop] using h1
theorem times_row {B:Nat} {a b O o:List Nat} {i c:Nat} (hi:i<a.length) (hlen:i+b.length<o.length) (h0:valB B (O.take (i+b.length))=valB B (a.take i)*valB B b)
 (h:valB B (o.take (i+b.length))+B^(i+b.length)*c=valB B (O.take (i+b.length))+B^i*(a[i]*valB B (b.take b.length))) :
 valB B ((o.set (i+b.length) c).take (i+1+b.length))=valB B (a.take (i+1))*valB B b:=by
 have e:i+1+b.length=i+b.length+1:=by omega
 rw [e,valB_set_take B hlen,h,h0,valB_take_succ hi,List.take_length];grind
set_option maxRecDepth 100000 in
set_option maxHeartbeats 4000000 in
theorem frac_times (A D:Option Addr) (ca cd:Nat) (x y n m:Nat) (hn:n=len32 x) (hm:m=len32 y) (w:World) (hA:Rd32 w A x) (hD:Rd32 w D y) (hx:len32 x<=1000) (hy:len32 y<=1000) :
 Calls Tryz.prog 148 #[.slice A n ca,.slice D m cd] w fun e w'=>∃ A' c',e = .returned (.slice A' (len32 (x*y)) c')/\Rd32 w' A' (x*y)/\len32 (x*y)<=c'/\Below w.heap.size w w':=by
 subst hn hm
 go_enter Tryz.func148,Tryz.ntmps148
 go_wp2_with (first
  | (at_make; go_loud (refine wpList_make_N (n:=len32 x+len32 y) rfl _ _ rfl Tryz.underlying145 info_u32 rfl rfl (by simp) (by simp) (by omega) (by unfold maxLen; omega) ?_); intro w1 hnb1 hb1 hlt1))
 have HB1:=Lib.hid hb1;have HNB1:=Lib.hid hnb1;have HLT1:=Lib.hid hlt1;clear hnb1 hb1 hlt1
 go_loopw [19] (fun i wr=>∃ (k:Nat) (o:List Nat),k<=len32 x/\i = .int .i64 k/\o.length=len32 x+len32 y/\Digs B32 o/\NB wr w.heap.size 63 .u32 o/\Below w.heap.size w wr/\w.heap.size<wr.heap.size/\valB B32 (o.take (k+len32 y))=valB B32 ((dig B32 x).take k)*valB B32 (dig B32 y)) (fun i _=>len32 x - (intOf i).toNat)
 case atStart=>exact⟨0,_,Nat.zero_le _,rfl,List.length_replicate,Digs.zeros (by decide) _,HNB1.out,HB1.out,HLT1.out,by rw [List.take_replicate,valB_replicate]; simp [valB]⟩
 case round =>
  clear HB1 HNB1 HLT1;obtain⟨k,O,hk,rfl,hOl,hOd,hnb,hbr,hlt,hval⟩:=hrel;have HV:=Lib.hid hval;have HNB:=Lib.hid hnb;have HBR:=Lib.hid hbr;have HOD:=Lib.hid hOd;have HLT:=Lib.hid hlt;clear hval hnb hbr hOd hlt;by_cases hkl:k<len32 x
  . have HD:=Lib.hid hD;obtain⟨b1,o1,rfl,hb1,hld1⟩:=num_ld Tryz.underlying63 rfl hA hkl;have HL1:=Lib.hid (hld1 wr HBR.out);have hxa:(dig B32 x)[k]<4294967296:=(Digs.dig hB32 x).get hkl;have HXA:Hid (∃ xa,xa=(dig B32 x)[k]):=⟨_,rfl⟩
    obtain⟨xa,hxe⟩:=HXA.out;have HXE:=Lib.hid hxe;rw [<- hxe] at HL1 hxa;clear hld1 HXA hxe;have hkd:((k:Int)<(len32 x:Int))=True:=by simp; omega
    go_wp2_with (first
     | ((with_reducible refine g_ld 63 ?_); refine wpList_ld rfl _ _ rfl _ rfl _ HL1.out ?_))
    go_loopw [8,26] (fun cv i wr=>∃ (j c:Nat) (o:List Nat),j<=len32 y/\i = .int .i64 j/\cv = .int .u64 c/\c<4294967296/\o.length=len32 x+len32 y/\Digs B32 o/\NB wr w.heap.size 63 .u32 o/\Below w.heap.size w wr/\w.heap.size<wr.heap.size/\o.drop (k+j)=O.drop (k+j)/\valB B32 (o.take (k+j))+B32^(k+j)*c=valB B32 (O.take (k+j))+B32^k*(xa*valB B32 ((dig B32 y).take j))) (fun _ i _=>len32 y - (intOf i).toNat)
    case atStart=>exact⟨0,0,O,Nat.zero_le _,rfl,rfl,by omega,hOl,HOD.out,HNB.out,HBR.out,HLT.out,rfl,by simp [valB]⟩
    case round =>
     clear HNB HBR HLT HL1;obtain⟨j,c,o,hj,rfl,rfl,hc,hol,hod,hnb,hbr,hlt,hdr,hval⟩:=hrel;have HV2:=Lib.hid hval;have HNB2:=Lib.hid hnb;have HBR2:=Lib.hid hbr;have HOD2:=Lib.hid hod;have HDR2:=Lib.hid hdr;have HLT2:=Lib.hid hlt;clear hval hnb hbr hod hdr hlt;by_cases hjl:j<len32 y
     . obtain⟨b2,o2,rfl,hb2,hld2⟩:=num_ld Tryz.underlying63 rfl HD.out hjl;have HL2:=Lib.hid (hld2 wr HBR2.out);have hyb:(dig B32 y)[j]<4294967296:=(Digs.dig hB32 y).get hjl;have HYD:Hid ((dig B32 y).getD j 0=(dig B32 y)[j]):=by unfold Hid; simp [show j<(dig B32 y).length from hjl]
       generalize (dig B32 y)[j]=yb at *
       clear hld2;have hko:k+j<o.length:=by omega
       have HL3:=Lib.hid (HNB2.out.ld Tryz.underlying63 rfl hko);have hoc:o[k+j]<4294967296:=HOD2.out.get hko;have HOG:Hid (o.getD (k+j) 0=o[k+j]):=by unfold Hid; simp [hko]
       generalize o[k+j]=oc at *
       have HST:=Lib.hid (times_step (b:=dig B32 y) (x:=xa) (by omega) HDR2.out HV2.out);rw [HYD.out,HOG.out] at HST;have hp:=Nat.mul_le_mul (Nat.le_of_lt_succ hxa) (Nat.le_of_lt_succ hyb);obtain⟨p,hpe⟩:∃ p,p=xa*yb:=⟨_,rfl⟩
       rw [<- hpe] at hp HST;obtain⟨s1,hs1⟩:∃ s1,s1=p+oc:=⟨_,rfl⟩
       obtain⟨s2,hs2⟩:∃ s2,s2=c+s1:=⟨_,rfl⟩
       obtain⟨r,hr⟩:∃ r,r=s2 % 4294967296:=⟨_,rfl⟩
       obtain⟨q,hq⟩:∃ q,q=s2 / 4294967296:=⟨_,rfl⟩
       have wa:=wrap_u64 (n:=(xa:Int)) (by omega) (by omega);have wb:=wrap_u64 (n:=(yb:Int)) (by omega) (by omega);have wc:=wrap_u64 (n:=(oc:Int)) (by omega) (by omega);have w0':IntKind.u64.wrap ((xa:Int)*(yb:Int))=(p:Int):=by rw [<- Int.natCast_mul,<- hpe,wrap_u64 (by omega) (by omega)]
       have w1':IntKind.u64.wrap ((p:Int)+(oc:Int))=(s1:Int):=by rw [wrap_u64 (by omega) (by omega)]; omega
       have w2':IntKind.u64.wrap ((c:Int)+(s1:Int))=(s2:Int):=by rw [wrap_u64 (by omega) (by omega)]; omega
       have w3':IntKind.u32.wrap (s2:Int)=(r:Int):=by rw [wrap_u32,hr]
       have w4':(s2:Int) / 4294967296=(q:Int):=by omega
       have e5:c+(p+oc)=s2:=by omega
       rw [e5,<- hr,<- hq] at HST;have hq1:q<4294967296:=by omega
       have hr1:r<4294967296:=by omega
       clear hs1 hs2 hr hq e5 hp hpe
       go_wp2_with (first
        | ((with_reducible refine g_ld 63 ?_); refine wpList_ld rfl _ _ rfl _ rfl _ HL2.out ?_; have HL4:=HL3; clear HL2)
        | ((with_reducible refine g_ld 63 ?_); refine wpList_ld rfl _ _ rfl _ rfl _ (by first|exact HL4.out|simpa using HL4.out) ?_; clear HL4)
        | ((with_reducible refine g_st 63 ?_); refine wpList_set rfl _ _ rfl rfl rfl rfl size_u32 HNB2.out hko ?_; intro w4 hnb4 hg4))
       go_roundw
       case rel=>exact⟨j+1,q,o.set (k+j) r,by omega,by go_num,rfl,hq1,by simp [hol],HOD2.out.set _ _ hr1,hnb4,HBR2.out.grown hg4 HBR2.out.size (fun i hi=>by injection hi with hi; omega),Nat.lt_of_lt_of_le HLT2.out hg4.size,drop_set_next HDR2.out,HST.out⟩
       case measure=>simp [intOf]; omega
     . obtain rfl:j=len32 y:=by omega
       have w3':IntKind.u32.wrap (c:Int)=(c:Int):=by rw [wrap_u32,Nat.mod_eq_of_lt (by omega)]
       have hko:k+len32 y<o.length:=by omega
       have HR:=times_row (a:=dig B32 x) (b:=dig B32 y) (O:=O) (o:=o) (i:=k) (c:=c) hkl hko HV.out (by rw [<- HXE.out]; exact HV2.out);have HR2:=Lib.hid HR;clear HR
       go_wp2_with (first
        | ((with_reducible refine g_st 63 ?_); refine wpList_set rfl _ _ rfl rfl rfl rfl size_u32 HNB2.out hko ?_; intro w4 hnb4 hg4))
       go_roundw
       case rel=>exact⟨k+1,o.set (k+len32 y) c,by omega,by go_num,by simp [hol],HOD2.out.set _ _ hc,hnb4,HBR2.out.grown hg4 HBR2.out.size (fun i hi=>by injection hi with hi; omega),Nat.lt_of_lt_of_le HLT2.out hg4.size,HR2.out⟩
       case measure=>simp [intOf]; omega
  . obtain rfl:k=len32 x:=by omega
    go_wp2_with (first
     | (go_at_call 128; refine (frac_trim _ _ _ O (by simp [hOl]) wr HNB.out.rd0 HOD.out (by omega) (by omega)).mono ?_; rintro e w5 ⟨rfl,rfl⟩))
    go_ret
    have he:valB B32 O=x*y:=by
     have h1:=HV.out;rw [List.take_of_length_le (by omega),List.take_length,val_dig hB32,val_dig hB32] at h1;exact h1
    have hlen:=dig_len_le hB32 (valB_lt _ HOD.out);have hrd:=rd_trim hB32 HNB.out.rd0 HOD.out;rw [he] at hlen hrd;rw [he];exact⟨_,_,rfl,hrd,by rw [hOl] at hlen; exact hlen,HBR.out⟩
theorem seg_set {L o:List Nat} {j m i r:Nat} (ho:o.length=m) (hi:i<m) (hjm:j+m<=L.length):(L.take j++o++L.drop (j+m)).set (j+i) r=L.take j++o.set i r++L.drop (j+m):=by
 have hl:(L.take j).length=j:=List.length_take_of_le (by omega);rw [List.append_assoc,List.set_append,hl,if_neg (by omega),List.set_append,List.append_assoc];have e:j+i - j=i:=by omega
 rw [e,if_pos (by omega)]
theorem seg_get {L o:List Nat} {j m i:Nat} (ho:o.length=m) (hi:i<m) (hjm:j+m<=L.length):(L.take j++o++L.drop (j+m))[j+i]? = o[i]? := by
 have hl:(L.take j).length=j:=List.length_take_of_le (by omega);rw [List.append_assoc,List.getElem?_append_right (by omega),hl,List.getElem?_append_left (by omega)];congr 1;omega
theorem seg_len {L o:List Nat} {j m:Nat} (ho:o.length=m) (hjm:j+m<=L.length):(L.take j++o++L.drop (j+m)).length=L.length:=by
 simp;omega
theorem seg_self (L:List Nat) (j m:Nat):L.take j++(L.drop j).take m++L.drop (j+m)=L:=by
 rw [List.append_assoc,<- List.drop_drop,List.take_append_drop,List.take_append_drop]
theorem Rd.apart {w w':World} {size g:Nat} {A:Option Addr} {css:List (List Value)} (h:Rd w w.heap.size size A css) (hne:∀ q,A=some q->q.block≠g) (hg:w.grownBy w' (some g)):Rd w' w'.heap.size size A css:=by
 intro k cs hk;obtain⟨b,off,e,hlt,hl,hc⟩:=h k cs hk;refine⟨b,off,e,Nat.lt_of_lt_of_le hlt hg.size,hl,fun j u hu => ?_⟩;rw [<- hc j u hu];exact World.cell?_of_block (hg.block b hlt (fun h=>by injection h with h; exact hne _ e h))
theorem grown_trans {w w' w2:World} {g:Nat} (h:w.grownBy w' (some g)) (h':w'.grownBy w2 (some g)):w.grownBy w2 (some g) :=
 ⟨h'.os.trans h.os,h'.tape.trans h.tape,h'.output.trans h.output,Nat.le_trans h.size h'.size,fun k hk hne=>(h'.block k (Nat.lt_of_lt_of_le hk h.size) hne).trans (h.block k hk hne)⟩
set_option maxRecDepth 100000 in
set_option maxHeartbeats 4000000 in
theorem frac_give (g j m cu cd y n:Nat) (D:Option Addr) (L:List Nat) (hn:n=len32 y) (w:World) (hL:NB w g 63 .u32 L) (hd:Digs B32 L) (hjm:j+m<=L.length) (hm:m<=1000) (hD:Rd32 w D y) (hne:∀ q,D=some q->q.block≠g) (hy:len32 y<=m) :
 Calls Tryz.prog 189 #[.slice (some ⟨g,j,none⟩) m cu,.slice D n cd] w fun e w'=>∃ (o:List Nat) (c:Nat),e = .returned (.bool (decide (0<c)))/\c<=1/\o.length=m/\Digs B32 o/\NB w' g 63 .u32 (L.take j++o++L.drop (j+m))/\w.grownBy w' (some g) /\
  valB B32 o+B32^m*c=valB B32 ((L.drop j).take m)+y:=by
 subst hn;obtain⟨U,hU⟩:∃ U,U=(L.drop j).take m:=⟨_,rfl⟩
 have hUl:U.length=m:=by rw [hU]; simp; omega
 have hUd:Digs B32 U:=by rw [hU]; exact (hd.drop j).take m
 have hUg:∀ i,i<m->L[j+i]? = U[i]? := fun i hi=>by rw [hU,List.getElem?_take,if_pos hi,List.getElem?_drop]
 have HUG:=Lib.hid hUg;rw [<- hU];have HL:=Lib.hid hL;have HSELF:Hid (L.take j++U++L.drop (j+m)=L):=by unfold Hid; rw [hU]; exact seg_self L j m
 clear hL hUg hU
 go_enter Tryz.func189,Tryz.ntmps189
 go_wp2
 go_loopw [5,9] (fun cv i wr=>∃ (k c:Nat) (o:List Nat),k<=m/\i = .int .i64 k/\cv = .int .u64 c/\c<=1/\o.length=m/\Digs B32 o/\NB wr g 63 .u32 (L.take j++o++L.drop (j+m))/\w.grownBy wr (some g)/\o.drop k=U.drop k/\valB B32 (o.take k)+B32^k*c=valB B32 (U.take k)+valB B32 ((dig B32 y).take k)) (fun _ i _=>m - (intOf i).toNat)
 case atStart=>exact⟨0,0,U,Nat.zero_le _,rfl,rfl,by omega,hUl,hUd,by rw [HSELF.out]; exact HL.out,World.grownBy.refl w _,rfl,by simp [valB]⟩
 case round =>
  obtain⟨k,c,o,hk,rfl,rfl,hc,hol,hod,hnb,hgr,hdr,hval⟩:=hrel;have HV:=Lib.hid hval;have HNB:=Lib.hid hnb;have HGR:=Lib.hid hgr;have HOD:=Lib.hid hod;have HDR:=Lib.hid hdr;clear hval hnb hgr hod hdr;by_cases hkm:k<m
  . have hko:k<o.length:=by omega
    have hoU:o[k]=U[k]'(by omega):=by
     have h1:=congrArg (fun l=>l[0]?) HDR.out;simpa [hko,show k<U.length by omega] using h1
    have HL1:Hid ((loadVar 63 ⟨g,j+k,none⟩).run Tryz.prog wr = .ok (.int .u32 (o[k]:Int)) wr):=by
     have h1:=HNB.out.ld (P:=Tryz.prog) (i:=j+k) Tryz.underlying63 rfl (by rw [seg_len hol hjm]; omega);have h2:=seg_get (L:=L) (j:=j) hol hkm hjm;rw [List.getElem?_eq_getElem (by rw [seg_len hol hjm]; omega),List.getElem?_eq_getElem hko] at h2;injection h2 with h2;rw [h2] at h1;exact h1
    have hxa:o[k]<4294967296:=HOD.out.get hko;have HXD:Hid (U.getD k 0=o[k]):=by unfold Hid; rw [hoU]; simp [show k<U.length by omega]
    have hset:=seg_set (L:=L) (j:=j) (i:=k) (r:=0) hol hkm hjm;clear hset hoU;generalize o[k]=xa at *
    by_cases hkl:k<len32 y
    . obtain⟨b2,o2,rfl,hb2,hld2⟩:=num_ld Tryz.underlying63 rfl (hD.apart hne HGR.out) hkl;have HL2:=Lib.hid (hld2 wr (Below.refl _ _));have hyb:(dig B32 y)[k]<4294967296:=(Digs.dig hB32 y).get hkl;have HYD:Hid ((dig B32 y).getD k 0=(dig B32 y)[k]):=by unfold Hid; simp [show k<(dig B32 y).length from hkl]
      generalize (dig B32 y)[k]=yb at *
      clear hld2;obtain⟨s1,hs1⟩:∃ s1,s1=c+xa:=⟨_,rfl⟩
      obtain⟨s2,hs2⟩:∃ s2,s2=s1+yb:=⟨_,rfl⟩
      obtain⟨r,hr⟩:∃ r,r=s2 % 4294967296:=⟨_,rfl⟩
      obtain⟨q,hq⟩:∃ q,q=s2 / 4294967296:=⟨_,rfl⟩
      have wa:=wrap_u64 (n:=(xa:Int)) (by omega) (by omega);have wb:=wrap_u64 (n:=(yb:Int)) (by omega) (by omega);have w1':IntKind.u64.wrap ((c:Int)+(xa:Int))=(s1:Int):=by rw [wrap_u64 (by omega) (by omega)]; omega
      have w2':IntKind.u64.wrap ((s1:Int)+(yb:Int))=(s2:Int):=by rw [wrap_u64 (by omega) (by omega)]; omega
      have w3':IntKind.u32.wrap (s2:Int)=(r:Int):=by rw [wrap_u32,hr]
      have w4':(s2:Int) / 4294967296=(q:Int):=by omega
      have HST:=Lib.hid (plus_step hB32 (i:=k) hko HV.out);rw [HXD.out,HYD.out] at HST;have e5:c+xa+yb=s2:=by omega
      rw [e5,<- hr,<- hq] at HST;have hq1:q<=1:=by omega
      have hr1:r<4294967296:=by omega
      clear hs1 hs2 hr hq e5;have hkA:j+k<(L.take j++o++L.drop (j+m)).length:=by rw [seg_len hol hjm]; omega
      go_wp2_with (first
       | ((with_reducible refine g_ld 63 ?_); refine wpList_ld rfl _ _ rfl _ rfl _ HL1.out ?_; have HL3:=HL2; clear HL1)
       | ((with_reducible refine g_ld 63 ?_); refine wpList_ld rfl _ _ rfl _ rfl _ HL3.out ?_; clear HL3)
       | ((with_reducible refine g_st 63 ?_); refine wpList_set rfl _ _ rfl rfl rfl rfl size_u32 HNB.out hkA ?_; intro w4 hnb4 hg4))
      go_roundw
      case rel=>exact⟨k+1,q,o.set k r,by omega,by go_num,rfl,hq1,by simp [hol],HOD.out.set _ _ hr1,by rw [<- seg_set hol hkm hjm]; exact hnb4,grown_trans HGR.out hg4,drop_set_next (i:=0) (by simpa using HDR.out) |> (fun h=>by simpa using h),HST.out⟩
      case measure=>simp [intOf]; omega
    . have hkl':(dig B32 y).length<=k:=Nat.le_of_not_lt hkl;have HYD:Hid ((dig B32 y).getD k 0=0):=by unfold Hid; simp [hkl']
      obtain⟨s2,hs2⟩:∃ s2,s2=c+xa:=⟨_,rfl⟩
      obtain⟨r,hr⟩:∃ r,r=s2 % 4294967296:=⟨_,rfl⟩
      obtain⟨q,hq⟩:∃ q,q=s2 / 4294967296:=⟨_,rfl⟩
      have wa:=wrap_u64 (n:=(xa:Int)) (by omega) (by omega);have w1':IntKind.u64.wrap ((c:Int)+(xa:Int))=(s2:Int):=by rw [wrap_u64 (by omega) (by omega)]; omega
      have w3':IntKind.u32.wrap (s2:Int)=(r:Int):=by rw [wrap_u32,hr]
      have w4':(s2:Int) / 4294967296=(q:Int):=by omega
      have HST:=Lib.hid (plus_step hB32 (i:=k) hko HV.out);rw [HXD.out,HYD.out] at HST;have e5:c+xa+0=s2:=by omega
      rw [e5,<- hr,<- hq] at HST;have hq1:q<=1:=by omega
      have hr1:r<4294967296:=by omega
      clear hs2 hr hq e5;have hkA:j+k<(L.take j++o++L.drop (j+m)).length:=by rw [seg_len hol hjm]; omega
      go_wp2_with (first
       | ((with_reducible refine g_ld 63 ?_); refine wpList_ld rfl _ _ rfl _ rfl _ HL1.out ?_; clear HL1)
       | ((with_reducible refine g_st 63 ?_); refine wpList_set rfl _ _ rfl rfl rfl rfl size_u32 HNB.out hkA ?_; intro w4 hnb4 hg4))
      go_roundw
      case rel=>exact⟨k+1,q,o.set k r,by omega,by go_num,rfl,hq1,by simp [hol],HOD.out.set _ _ hr1,by rw [<- seg_set hol hkm hjm]; exact hnb4,grown_trans HGR.out hg4,drop_set_next (i:=0) (by simpa using HDR.out) |> (fun h=>by simpa using h),HST.out⟩
      case measure=>simp [intOf]; omega
  . obtain rfl:k=m:=by omega
    have hv:=HV.out;rw [List.take_of_length_le (by omega),List.take_of_length_le (by omega),List.take_of_length_le (show (dig B32 y).length<=k from hy),val_dig hB32] at hv;have HV2:=Lib.hid hv;have hdec:((0:Int)<(c:Int))=((0:Nat)<c):=by simp
    clear hv
    go_wp2
    go_ret
    exact⟨o,c,by first|rfl|simp,hc,hol,HOD.out,HNB.out,HGR.out,HV2.out⟩
set_option maxRecDepth 100000 in
set_option maxHeartbeats 4000000 in
theorem frac_take (g j m cu cd y n t:Nat) (D:Option Addr) (L:List Nat) (hn:n=len32 y) (w:World) (hL:NB w g 63 .u32 L) (hd:Digs B32 L) (hjm:j+m<=L.length) (hm:m<=1000) (hD:Rd32 w D y) (hne:∀ q,D=some q->q.block≠g) (hy:len32 y<m) (ht:t<4294967296) :
 Calls Tryz.prog 188 #[.slice (some ⟨g,j,none⟩) m cu,.slice D n cd,.int .u64 t] w fun e w'=>∃ (o:List Nat) (c:Nat),e = .returned (.bool (decide (0<c)))/\c<=1/\o.length=m/\Digs B32 o/\NB w' g 63 .u32 (L.take j++o++L.drop (j+m))/\w.grownBy w' (some g) /\
  valB B32 o+t*y=valB B32 ((L.drop j).take m)+B32^m*c:=by
 subst hn;obtain⟨U,hU⟩:∃ U,U=(L.drop j).take m:=⟨_,rfl⟩
 have hUl:U.length=m:=by rw [hU]; simp; omega
 have hUd:Digs B32 U:=by rw [hU]; exact (hd.drop j).take m
 rw [<- hU];have HL:=Lib.hid hL;have HSELF:Hid (L.take j++U++L.drop (j+m)=L):=by unfold Hid; rw [hU]; exact seg_self L j m
 clear hL hU
 go_enter Tryz.func188,Tryz.ntmps188
 go_wp2
 go_loopw [7,8,13] (fun cv ov i wr=>∃ (k cc ow:Nat) (o:List Nat),k<=m/\i = .int .i64 k/\cv = .int .u64 cc/\ov = .int .u64 ow/\ow<=1/\cc<4294967296/\(len32 y<k->cc=0)/\o.length=m/\Digs B32 o/\NB wr g 63 .u32 (L.take j++o++L.drop (j+m))/\w.grownBy wr (some g)/\o.drop k=U.drop k/\valB B32 (o.take k)+t*valB B32 ((dig B32 y).take k)=valB B32 (U.take k)+B32^k*(cc+ow)) (fun _ _ i _=>m - (intOf i).toNat)
 case atStart=>exact⟨0,0,0,U,Nat.zero_le _,rfl,rfl,rfl,by omega,by omega,by omega,hUl,hUd,by rw [HSELF.out]; exact HL.out,World.grownBy.refl w _,rfl,by simp [valB]⟩
 case round =>
  obtain⟨k,cc,ow,o,hk,rfl,rfl,rfl,how,hcc,hzc,hol,hod,hnb,hgr,hdr,hval⟩:=hrel;have HV:=Lib.hid hval;have HNB:=Lib.hid hnb;have HGR:=Lib.hid hgr;have HOD:=Lib.hid hod;have HDR:=Lib.hid hdr;have HZC:=Lib.hid hzc;clear hval hnb hgr hod hdr hzc;by_cases hkm:k<m
  . have hko:k<o.length:=by omega
    have hoU:o[k]=U[k]'(by omega):=by
     have h1:=congrArg (fun l=>l[0]?) HDR.out;simpa [hko,show k<U.length by omega] using h1
    have HL1:Hid ((loadVar 63 ⟨g,j+k,none⟩).run Tryz.prog wr = .ok (.int .u32 (o[k]:Int)) wr):=by
     have h1:=HNB.out.ld (P:=Tryz.prog) (i:=j+k) Tryz.underlying63 rfl (by rw [seg_len hol hjm]; omega);have h2:=seg_get (L:=L) (j:=j) hol hkm hjm;rw [List.getElem?_eq_getElem (by rw [seg_len hol hjm]; omega),List.getElem?_eq_getElem hko] at h2;injection h2 with h2;rw [h2] at h1;exact h1
    have hxa:o[k]<4294967296:=HOD.out.get hko;have HXD:Hid (U.getD k 0=o[k]):=by unfold Hid; rw [hoU]; simp [show k<U.length by omega]
    clear hoU;generalize o[k]=xa at *
    have hkA:j+k<(L.take j++o++L.drop (j+m)).length:=by rw [seg_len hol hjm]; omega
    by_cases hkl:k<len32 y
    . obtain⟨b2,o2,rfl,hb2,hld2⟩:=num_ld Tryz.underlying63 rfl (hD.apart hne HGR.out) hkl;have HL2:=Lib.hid (hld2 wr (Below.refl _ _));have hyb:(dig B32 y)[k]<4294967296:=(Digs.dig hB32 y).get hkl;have HYD:Hid ((dig B32 y).getD k 0=(dig B32 y)[k]):=by unfold Hid; simp [show k<(dig B32 y).length from hkl]
      generalize (dig B32 y)[k]=yb at *
      clear hld2;have hp:=Nat.mul_le_mul (Nat.le_of_lt_succ ht) (Nat.le_of_lt_succ hyb);obtain⟨p,hpe⟩:∃ p,p=t*yb:=⟨_,rfl⟩
      rw [<- hpe] at hp;obtain⟨cn,hcn⟩:∃ cn,cn=cc+p:=⟨_,rfl⟩
      have wb:=wrap_u64 (n:=(yb:Int)) (by omega) (by omega);have w1':IntKind.u64.wrap ((t:Int)*(yb:Int))=(p:Int):=by rw [<- Int.natCast_mul,<- hpe,wrap_u64 (by omega) (by omega)]
      have w2':IntKind.u64.wrap ((cc:Int)+(p:Int))=(cn:Int):=by rw [wrap_u64 (by omega) (by omega)]; omega
      obtain⟨low,hlow⟩:∃ low,low=cn % 4294967296:=⟨_,rfl⟩
      obtain⟨q,hq⟩:∃ q,q=cn / 4294967296:=⟨_,rfl⟩
      obtain⟨z1,hz1⟩:∃ z1,z1=(xa+18446744073709551616 - low) % 18446744073709551616:=⟨_,rfl⟩
      obtain⟨z2,hz2⟩:∃ z2,z2=(z1+18446744073709551616 - ow) % 18446744073709551616:=⟨_,rfl⟩
      obtain⟨r,hr⟩:∃ r,r=z2 % 4294967296:=⟨_,rfl⟩
      obtain⟨ow2,how2⟩:∃ ow2,ow2=z2 / 9223372036854775808:=⟨_,rfl⟩
      have wa:=wrap_u64 (n:=(xa:Int)) (by omega) (by omega);have wl:=wrap_u64 (n:=(low:Int)) (by omega) (by omega);have w3':IntKind.u32.wrap (cn:Int)=(low:Int):=by rw [wrap_u32,hlow]
      have w4':(cn:Int) / 4294967296=(q:Int):=by omega
      have w5':IntKind.u64.wrap ((xa:Int) - (low:Int))=(z1:Int):=by rw [wrap_u64_sub _ _ (by omega),hz1]
      have w6':IntKind.u64.wrap ((z1:Int) - (ow:Int))=(z2:Int):=by rw [wrap_u64_sub _ _ (by omega),hz2]
      have w7':IntKind.u32.wrap (z2:Int)=(r:Int):=by rw [wrap_u32,hr]
      have w8':(z2:Int) / 9223372036854775808=(ow2:Int):=by omega
      have hrel2:r+low+ow=xa+4294967296*ow2:=by omega
      have how3:ow2<=1:=by omega
      have hr1:r<4294967296:=by omega
      have HST:=Lib.hid (take_step (B:=B32) (t:=t) (v:=dig B32 y) (i:=k) (owed':=ow2) (r:=r) hko HV.out (by rw [HXD.out,HYD.out,<- hpe,<- hcn]; have e:cn % B32=low:=hlow.symm; rw [e]; exact hrel2));rw [HYD.out,<- hpe,<- hcn] at HST;have e6:cn / B32=q:=hq.symm;rw [e6] at HST;have hq1:q<4294967296:=by omega
      clear hlow hq hz1 hz2 hr how2 hrel2 hcn hpe hp e6
      go_wp2_with (first
       | ((with_reducible refine g_ld 63 ?_); refine wpList_ld rfl _ _ rfl _ rfl _ HL2.out ?_; have HL3:=HL1; clear HL2)
       | ((with_reducible refine g_ld 63 ?_); refine wpList_ld rfl _ _ rfl _ rfl _ HL3.out ?_; clear HL3)
       | ((with_reducible refine g_st 63 ?_); refine wpList_set rfl _ _ rfl rfl rfl rfl size_u32 HNB.out hkA ?_; intro w4 hnb4 hg4))
      go_roundw
      case rel=>exact⟨k+1,q,ow2,o.set k r,by omega,by go_num,rfl,rfl,how3,hq1,fun h=>by omega,by simp [hol],HOD.out.set _ _ hr1,by rw [<- seg_set hol hkm hjm]; exact hnb4,grown_trans HGR.out hg4,drop_set_next (i:=0) (by simpa using HDR.out) |> (fun h=>by simpa using h),HST.out⟩
      case measure=>simp [intOf]; omega
    . have hkl':(dig B32 y).length<=k:=Nat.le_of_not_lt hkl;have HYD:Hid ((dig B32 y).getD k 0=0):=by unfold Hid; simp [hkl']
      obtain⟨cn,hcn⟩:∃ cn,cn=cc:=⟨_,rfl⟩
      rw [<- hcn] at hcc HV ⊢;obtain⟨low,hlow⟩:∃ low,low=cn % 4294967296:=⟨_,rfl⟩
      obtain⟨q,hq⟩:∃ q,q=cn / 4294967296:=⟨_,rfl⟩
      obtain⟨z1,hz1⟩:∃ z1,z1=(xa+18446744073709551616 - low) % 18446744073709551616:=⟨_,rfl⟩
      obtain⟨z2,hz2⟩:∃ z2,z2=(z1+18446744073709551616 - ow) % 18446744073709551616:=⟨_,rfl⟩
      obtain⟨r,hr⟩:∃ r,r=z2 % 4294967296:=⟨_,rfl⟩
      obtain⟨ow2,how2⟩:∃ ow2,ow2=z2 / 9223372036854775808:=⟨_,rfl⟩
      have wa:=wrap_u64 (n:=(xa:Int)) (by omega) (by omega);have wl:=wrap_u64 (n:=(low:Int)) (by omega) (by omega);have w3':IntKind.u32.wrap (cn:Int)=(low:Int):=by rw [wrap_u32,hlow]
      have w4':(cn:Int) / 4294967296=(q:Int):=by omega
      have w5':IntKind.u64.wrap ((xa:Int) - (low:Int))=(z1:Int):=by rw [wrap_u64_sub _ _ (by omega),hz1]
      have w6':IntKind.u64.wrap ((z1:Int) - (ow:Int))=(z2:Int):=by rw [wrap_u64_sub _ _ (by omega),hz2]
      have w7':IntKind.u32.wrap (z2:Int)=(r:Int):=by rw [wrap_u32,hr]
      have w8':(z2:Int) / 9223372036854775808=(ow2:Int):=by omega
      have hrel2:r+low+ow=xa+4294967296*ow2:=by omega
      have how3:ow2<=1:=by omega
      have hr1:r<4294967296:=by omega
      have HST:=Lib.hid (take_step (B:=B32) (t:=t) (v:=dig B32 y) (i:=k) (owed':=ow2) (r:=r) hko HV.out (by rw [HXD.out,HYD.out,Nat.mul_zero,Nat.add_zero]; have e:cn % B32=low:=hlow.symm; rw [e]; exact hrel2));simp only [HYD.out,Nat.mul_zero,Nat.add_zero] at HST;have e6:cn / B32=q:=hq.symm;rw [e6] at HST;have hq1:q<4294967296:=by omega
      have HQ0:Hid (q=0):=by unfold Hid; omega
      clear hlow hq hz1 hz2 hr how2 hrel2 hcn e6
      go_wp2_with (first
       | ((with_reducible refine g_ld 63 ?_); refine wpList_ld rfl _ _ rfl _ rfl _ HL1.out ?_; clear HL1)
       | ((with_reducible refine g_st 63 ?_); refine wpList_set rfl _ _ rfl rfl rfl rfl size_u32 HNB.out hkA ?_; intro w4 hnb4 hg4))
      go_roundw
      case rel=>exact⟨k+1,q,ow2,o.set k r,by omega,by go_num,rfl,rfl,how3,hq1,fun _=>HQ0.out,by simp [hol],HOD.out.set _ _ hr1,by rw [<- seg_set hol hkm hjm]; exact hnb4,grown_trans HGR.out hg4,drop_set_next (i:=0) (by simpa using HDR.out) |> (fun h=>by simpa using h),HST.out⟩
      case measure=>simp [intOf]; omega
  . obtain rfl:k=m:=by omega
    have hcz:=HZC.out hy;have hv:=HV.out;rw [List.take_of_length_le (by omega),List.take_of_length_le (show (dig B32 y).length<=k from Nat.le_of_lt hy),List.take_of_length_le (show U.length<=k by omega),val_dig hB32,hcz,Nat.zero_add] at hv;have HV2:=Lib.hid hv;have hdec:((0:Int)<(ow:Int))=((0:Nat)<ow):=by simp
    clear hv
    go_wp2
    go_ret
    exact⟨o,ow,by first|rfl|simp,how,hol,HOD.out,HNB.out,HGR.out,HV2.out⟩
theorem dig_single {x:Nat} (h:len32 x=1):dig B32 x = [x]:=by
 have hlt:=lt_of_dig_len hB32 (n:=x) (k:=1) (Nat.le_of_eq h);rw [Nat.pow_one] at hlt;have h0:x≠0:=by
  intro h0;subst h0;cases h
 rw [dig_pos hB32 h0,Nat.mod_eq_of_lt hlt,Nat.div_eq_of_lt hlt];rfl
set_option maxHeartbeats 1000000 in
theorem frac_one (A:Option Addr) (c n x:Nat) (hn:n=len32 x) (w:World) (h:Rd32 w A x) (hx:len32 x<=1000) :
 Calls Tryz.prog 126 #[.slice A n c] w fun e w'=>e = .returned (.bool (decide (x=1)))/\w'=w:=by
 subst hn;by_cases h1:len32 x=1
 . have hdx:=dig_single h1;have hrd:Rd w w.heap.size 1 A (nums .u32 [x]):=by rw [<- hdx]; exact h
   obtain⟨b,off,rfl,hb,hld⟩:=num_ld Tryz.underlying63 rfl hrd (i:=0) (by simp);have HL:Hid ((loadVar 63 ⟨b,off,none⟩).run Tryz.prog w = .ok (.int .u32 (x:Int)) w):=by unfold Hid; simpa using hld w (Below.refl _ _)
   have HX:Hid (decide (x=1)=((x:Int)==1)):=by
    unfold Hid;by_cases hx1:x=1
    . subst hx1; rfl
    . have:¬ (x:Int)=1:=by omega
      simp [hx1,this]
   have h1':(((len32 x:Nat):Int)==1)=true:=by rw [h1]; rfl
   have h1z:(0:Nat)<len32 x:=by omega
   clear hld hdx hrd
   go_enter Tryz.func126,Tryz.ntmps126
   go_wp2_with (first
    | ((with_reducible refine g_ld 63 ?_); (first|refine wpList_ld rfl _ _ rfl _ rfl _ (by first|exact HL.out|simpa using HL.out) ?_|refine wpList_ldw rfl _ _ rfl _ rfl _ (by first|exact HL.out|simpa using HL.out) ?_)))
   go_ret
   exact⟨by rw [HX.out]; rfl,rfl⟩
 . have HX:Hid (decide (x=1)=false):=by
    unfold Hid;simp only [decide_eq_false_iff_not];intro hx1;subst hx1;exact h1 (by unfold len32; rw [dig_one hB32]; rfl)
   have h1':(((len32 x:Nat):Int)==1)=false:=by
    simp;omega
   go_enter Tryz.func126,Tryz.ntmps126
   go_wp2
   go_ret
   exact⟨by rw [HX.out]; rfl,rfl⟩
set_option maxHeartbeats 1000000 in
theorem frac_of (n:Nat) (hn:n<18446744073709551616) (w:World) :
 Calls Tryz.prog 64 #[.int .u64 n] w fun e w'=>∃ A' c',e = .returned (.slice A' (len32 n) c')/\Rd32 w' A' n/\len32 n<=c'/\Below w.heap.size w w':=by
 obtain⟨a,ha⟩:∃ a,a=n % 4294967296:=⟨_,rfl⟩
 obtain⟨b,hb⟩:∃ b,b=n / 4294967296:=⟨_,rfl⟩
 have w1':IntKind.u32.wrap (n:Int)=(a:Int):=by rw [wrap_u32,ha]
 have w2':(n:Int) / 4294967296=(b:Int):=by omega
 have hb2:b<4294967296:=by omega
 have w3':IntKind.u32.wrap (b:Int)=(b:Int):=by rw [wrap_u32,Nat.mod_eq_of_lt hb2]
 have hds:Digs B32 [a,b]:=by
  intro d hd;simp at hd;rcases hd with rfl|rfl
  . show d<4294967296; omega
  . exact hb2
 have hv:valB B32 [a,b]=n:=by
  simp only [valB_cons,valB_nil];show a+4294967296*(b+4294967296*0)=n
  omega
 have hnb:NB (w.alloc (.cells #[.int .u32 (a:Int),.int .u32 (b:Int)] 63)) w.heap.size 63 .u32 [a,b]:=heap_alloc_new w _;have HT:=Lib.hid (frac_trim (some ⟨w.heap.size,0,none⟩) 2 2 [a,b] rfl (w.alloc (.cells #[.int .u32 (a:Int),.int .u32 (b:Int)] 63)) hnb.rd0 hds (by simp) (by simp));have hrd:=rd_trim hB32 hnb.rd0 hds;have hlen:=dig_len_le hB32 (valB_lt _ hds);rw [hv] at HT hrd hlen;have HRD:=Lib.hid hrd;have HLEN:Hid (len32 n<=2):=hlen;clear hrd hlen hv hds ha hb hnb
 go_enter Tryz.func64,Tryz.ntmps64
 go_wp2_with (go_at_call 128; refine (HT.out).mono ?_; rintro e w5 ⟨rfl,rfl⟩)
 go_ret
 exact⟨_,_,rfl,HRD.out,HLEN.out,(Below.refl _ _).alloc (Nat.le_refl _) _⟩
theorem low_val (x:Nat):valB B32 ((dig B32 x).take (min (len32 x) 2))=x % 18446744073709551616:=by
 have hs:=valB_split B32 (dig B32 x) (min (len32 x) 2);rw [val_dig hB32] at hs;have hl:((dig B32 x).take (min (len32 x) 2)).length=min (len32 x) 2:=by
  rw [List.length_take];show min _ (len32 x)=_
  omega
 have hlt:=valB_lt ((dig B32 x).take (min (len32 x) 2)) ((Digs.dig hB32 x).take _);rw [hl] at hs hlt;by_cases h:len32 x<=2
 . have e:(dig B32 x).drop (min (len32 x) 2) = []:=by
    apply List.drop_eq_nil_of_le;show len32 x<=_
    omega
   rw [e,valB_nil,Nat.mul_zero,Nat.add_zero] at hs;have:B32^min (len32 x) 2<=B32^2:=Nat.pow_le_pow_right (by decide) (by omega);have h2:B32^2=18446744073709551616:=by decide
   rw [<- hs,Nat.mod_eq_of_lt (by omega)]
 . have e:min (len32 x) 2=2:=by omega
   rw [e] at hs hlt ⊢;have h2:B32^2=18446744073709551616:=by decide
   rw [h2] at hs hlt
   conv=>rhs; rw [hs]
   rw [Nat.add_mul_mod_self_left,Nat.mod_eq_of_lt hlt]
theorem wrap_shl32 {a:Nat} (ha:a<4294967296):IntKind.u64.wrap ((a:Int)*4294967296)=(a:Int)*4294967296:=wrap_u64 (by omega) (by omega)
theorem or32 {a d:Nat} (ha:a<4294967296) (hd:d<4294967296):bits .or .u64 ((a:Int)*4294967296) (d:Int)=((a*4294967296+d:Nat):Int):=by
 have h:=bits_join .u64 64 (by decide) (fun n h0 h1=>wrap_u64 h0 h1) 32 ((a:Int)*4294967296) (d:Int) (by omega) (by omega) (by omega) (by omega) (by omega) (by omega);rw [h];omega
set_option maxHeartbeats 2000000 in
theorem frac_low (A:Option Addr) (c n x:Nat) (hn:n=len32 x) (w:World) (h:Rd32 w A x) (hx:len32 x<=1000) :
 ∀ z,z=x % 18446744073709551616->Calls Tryz.prog 186 #[.slice A n c] w fun e w'=>e = .returned (.int .u64 (z:Int))/\w'=w:=by
 subst hn;intro z hz;obtain⟨l,hldef⟩:∃ l,l=(dig B32 x).take (min (len32 x) 2):=⟨_,rfl⟩
 have hlen:l.length=min (len32 x) 2:=by
  rw [hldef,List.length_take];show min _ (len32 x)=_
  omega
 have hds:Digs B32 l:=by rw [hldef]; exact (Digs.dig hB32 x).take _
 have hrd:Rd w w.heap.size 1 A (nums .u32 l):=by rw [hldef,nums_take]; exact h.take _
 have hfin:Hid (valB B32 l=z):=by unfold Hid; rw [hldef,low_val,hz]
 clear hz;have hmin:min ((len32 x:Nat):Int) 2=((l.length:Nat):Int):=by rw [hlen]; omega
 obtain⟨m,hm⟩:∃ m,m=l.length:=⟨_,rfl⟩
 rw [<- hm] at hmin;have hm2:m<=2:=by omega
 have hif:(if (2:Int)<((len32 x:Nat):Int) then (2:Int) else ((len32 x:Nat):Int))=(m:Int):=by split<;>omega
 clear hmin
 go_enter Tryz.func186,Tryz.ntmps186
 go_wp2
 go_loop [3,4] (fun v i=>∃ k:Nat,k<=m/\i = .int .i64 ((k:Int) - 1)/\v = .int .u64 (valB B32 (l.drop k):Nat)) (fun _ i=>(intOf i+1).toNat)
 case atStart=>exact⟨m,Nat.le_refl _,by rw [hm,hlen],by rw [hm,List.drop_length]; rfl⟩
 case round =>
  obtain⟨k,hk,rfl,rfl⟩:=hrel;by_cases hk0:k=0
  . subst hk0;clear hlen hldef hif
    go_wp2
    go_ret
    exact⟨by rw [<- hfin.out]; rfl,rfl⟩
  . obtain⟨j,rfl⟩:∃ j,k=j+1:=⟨k - 1,by omega⟩
    have hjl:j<l.length:=by omega
    obtain⟨b,off,rfl,hb,hld⟩:=num_ld Tryz.underlying63 rfl hrd hjl;have HL:=Lib.hid (hld w (Below.refl _ _));obtain⟨d,hd⟩:∃ d,d=l[j]'hjl:=⟨_,rfl⟩
    obtain⟨hi,hhi⟩:∃ hi,hi=valB B32 (l.drop (j+1)):=⟨_,rfl⟩
    have hdlt:d<4294967296:=by rw [hd]; exact hds.get hjl
    have hilt:hi<4294967296:=by
     rw [hhi];have h1:=valB_lt (l.drop (j+1)) (hds.drop _);rw [List.length_drop] at h1;have h2:B32^(l.length - (j+1))<=B32^1:=Nat.pow_le_pow_right (by decide) (by omega);have h3:B32^1=4294967296:=by decide
     omega
    have hnx:Hid (valB B32 (l.drop j)=hi*4294967296+d):=by
     unfold Hid;rw [List.drop_eq_getElem_cons hjl,valB_cons,<- hd,<- hhi];show d+4294967296*hi=_
     omega
    have hor:=Lib.hid (or32 hilt hdlt);obtain⟨s,hs⟩:∃ s,s=hi*4294967296+d:=⟨_,rfl⟩
    rw [<- hs] at hor hnx;rw [<- hd] at HL;rw [<- hhi];have hi64:(j:Int)<9223372036854775807:=by omega
    have hjx:(j:Int)<((len32 x:Nat):Int):=by omega
    clear hld hlen hldef hif hfin hhi hd hs hds h hrd
    go_wp2_with (first
     | ((with_reducible refine g_ld 63 ?_); refine wpList_ld rfl _ _ rfl _ rfl _ HL.out ?_))
    case roundEnd =>
     refine⟨⟨j,by omega,rfl,by rw [hnx.out,hor.out]⟩,?_⟩;simp only [intOf];omega
def SeqTold {α:Type} (F:Fence) (n:Nat) (P:Program) (gf:Nat) (lb:Array Value) (encs : α->Array Value) (G:List α->World->Prop) (V:List α -> α->Prop) (S Sp:List α->Prop) (w0:World):Prop :=
 ∀ (l:Nat) (J Jx:List α->World->Prop) (W:World),Below w0.heap.size w0 W->(∀ pre W1,J pre W1->G pre W1) ->
  (∀ pre x W1,J pre W1->V pre x->YieldAt F (n - 1) P l (encs x) W1 fun e W2=>(e = .returned (.bool true)/\J (pre ++ [x]) W2)\/(e = .returned (.bool false)/\Jx (pre ++ [x]) W2)) ->
  J [] W->CallsIn F n P gf (#[.func (.yield l) #[] #[]]++lb) W fun e W2=>(∃ v,e = .returned v)/\((∃ xs,S xs/\J xs W2)\/(∃ pre,Sp pre/\Jx pre W2))
def toldPost {α:Type} (I:List α->World->Prop) (Ix:Code->List α->World->Prop) (xs:List α) (W:World):Exit->Act->World->Prop:=fun e _ W2 =>
 KeepsOthers W W2/\match e with
  | .normal=>I xs W2
  | .ret=>Ix .ret xs W2
  | .exit id=>Ix (.exit id) xs W2
  | .goto t=>Ix (.goto t) xs W2
  | _=>False
section
variable {F:Fence} {n:Nat} {P:Program} {α:Type}
theorem told_round {ps:Array Tmp} {assign body:Code} {a:Act} {W:World} {fn:FuncId} {encs : α->Array Value} {I:List α->World->Prop} {Ix:Code->List α->World->Prop} {pre:List α} {x : α} (a₁ : α->Act) {l D B:Nat} {r:Loop}
 (hfn:F.fn fn) (hr:r = { state := .ready,pending:=none,fn:=fn,tmps:=a.tmps,params:=ps,assign:=assign,body:=body,defers:=D }) (hB:B<=l) (hDl:D≠l)
 (hI:OwnFrom B I) (hIx:∀ c,OwnFrom B (Ix c)) (hps:(encs x).size=ps.size)
 (hassign:∀ K:Act->World->Prop,K (a₁ x) W->assign.wpIn (F.inRound l) (n - 1 - 1) P (Exit.then K (fun _ _ _=>False)) { tmps:=(ps.zip (encs x)).foldl (fun t (p,v)=>t.setIfInBounds p v) a.tmps,defers := [] } W)
 (hbody:∀ W1,I pre W1->body.wpIn (F.inRound l) (n - 1 - 1) P (toldPost I Ix (pre ++ [x]) W1) (a₁ x) W1)
 (hi:I pre W) (hl:W.heap[l]? = some (.loop r)) (hk:W.heap[D]? = some (.deferred (some []))) :
 YieldAt F (n - 1 - 1) P l (encs x) W fun e W2 =>
  (e = .returned (.bool true)/\I (pre ++ [x]) W2/\W2.heap[l]? = some (.loop r)/\W2.heap[D]? = some (.deferred (some []))) \/
  (e = .returned (.bool false)/\∃ c,Ix c (pre ++ [x]) W2/\W2.heap[l]? = some (.loop { r with state := .done,pending:=some c })/\W2.heap[D]? = some (.deferred (some []))):=by
 have hlt:l<W.heap.size:=(Array.getElem?_eq_some_iff.1 hl).1;have hy:=run_yield (P:=P) (args:=encs x) hl (by rw [hr]; exact hps);rw [hr] at hy;refine⟨fn,_,assign,body,hy,roundIn_of_wpIn hfn (hassign _ ⟨_,run_beginRound hl (by rw [hr]),?_⟩)⟩;have hbusy:(W.putObj l (.loop { r with state := .busy })).heap[l]? = some (.loop { r with state := .busy }):=World.putObj_heap_same hlt;have hkb:(W.putObj l (.loop { r with state := .busy })).heap[D]? = some (.deferred (some [])):=(World.putObj_heap_other hDl).trans hk;refine wpIn_mono (hbody _ (hI.putObj _ hi hB hl rfl)) fun e a2 W3 hp => ?_;obtain⟨hkeep,hp⟩:=hp;have hl3:=hkeep.same _ _ hbusy rfl;have hlt3:=(Array.getElem?_eq_some_iff.1 hl3).1;have hend:=fun j:Option Code=>run_endRound (P:=P) j hl3;have hD3:∀ o,(W3.putObj l o).heap[D]? = some (.deferred (some [])):=fun o=>(World.putObj_heap_other hDl).trans (hkeep.same _ _ hkb rfl)
 cases e with
 | normal=>exact⟨_,_,hend none,.inl ⟨rfl,hI.putObj _ hp hB hl3 rfl,by rw [World.putObj_heap_same hlt3,hr]; rfl,hD3 _⟩⟩
 | ret=>exact⟨_,_,hend (some .ret),.inr ⟨rfl,.ret,(hIx _).putObj _ hp hB hl3 rfl,by rw [World.putObj_heap_same hlt3]; rfl,hD3 _⟩⟩
 | exit id=>exact⟨_,_,hend (some (.exit id)),.inr ⟨rfl,.exit id,(hIx _).putObj _ hp hB hl3 rfl,by rw [World.putObj_heap_same hlt3]; rfl,hD3 _⟩⟩
 | goto t=>exact⟨_,_,hend (some (.goto t)),.inr ⟨rfl,.goto t,(hIx _).putObj _ hp hB hl3 rfl,by rw [World.putObj_heap_same hlt3]; rfl,hD3 _⟩⟩
 | panic c=>exact hp.elim
 | outgrown=>exact hp.elim
theorem range_told {g:Operand} {ps:Array Tmp} {assign body:Code} {Q:Exit->Act->World->Prop} {a:Act} {w w0:World} (hro:F.round=none) (h1:1<=n) {gf:Nat} {lb:Array Value} (hg:a.eval g = .func (.func gf) #[] lb) (hFg:F.fn gf) (eg:∀ args W,(callFunc gf args).run P W = .ok (.enter gf args) W)
 {encs : α->Array Value} {G:List α->World->Prop} {V:List α -> α->Prop} {S Sp:List α->Prop} (hseq:SeqTold F (n - 1) P gf lb encs G V S Sp w0) (hb0:Below w0.heap.size w0 w) (hps:∀ x,(encs x).size=ps.size)
 (I:List α->World->Prop) (Ix:Code->List α->World->Prop) (hIG:∀ pre W,I pre W->G pre W) (hI:OwnFrom w.heap.size I) (hIx:∀ c,OwnFrom w.heap.size (Ix c)) (h0:I [] w) (a₁ : α->Act)
 (hassign:∀ (l:Nat) (x : α) (W:World) (K:Act->World->Prop),K (a₁ x) W->assign.wpIn (F.inRound l) (n - 1 - 1) P (Exit.then K (fun _ _ _=>False)) { tmps:=(ps.zip (encs x)).foldl (fun t (p,v)=>t.setIfInBounds p v) a.tmps,defers := [] } W)
 (hbody:∀ (l:Nat) (pre:List α) (x : α) (W:World),I pre W->V pre x->body.wpIn (F.inRound l) (n - 1 - 1) P (toldPost I Ix (pre ++ [x]) W) (a₁ x) W)
 (hdone:∀ (D:Nat) (xs:List α) (W:World),w.heap.size<=D->S xs->I xs W->W.heap[D]? = some (.deferred (some []))->Q .normal { a with defers := { target := .collected D,args := #[] }::a.defers } W)
 (hstop:∀ (D:Nat) (c:Code) (pre:List α) (W:World),w.heap.size<=D->Sp pre->Ix c pre W->W.heap[D]? = some (.deferred (some []))->c.wpIn F n P Q { a with defers := { target := .collected D,args := #[] }::a.defers } W) :
 (Code.rangeFunc g ps assign body).wpIn F n P Q a w:=by
 refine wpIn_rangeFunc fun fn hfn => ?_;rw [hro];obtain⟨r,hr⟩:∃ r:Loop,r = { state := .ready,pending:=none,fn:=fn,tmps:=a.tmps,params:=ps,assign:=assign,body:=body,defers:=w.heap.size }:=⟨_,rfl⟩
 have hent:=run_enterLoop_outer (P:=P) (w:=w) fn a.tmps ps assign body;rw [<- hr] at hent;have hl0:((w.alloc (.deferred (some []))).alloc (.loop r)).heap[w.heap.size+1]? = some (.loop r):=by
  have:=World.alloc_heap_new (w.alloc (.deferred (some []))) (.loop r);rwa [World.size_alloc] at this
 have hk0:((w.alloc (.deferred (some []))).alloc (.loop r)).heap[w.heap.size]? = some (.deferred (some [])):=(Below.heap_alloc _ _ _ (by simp)).trans (World.alloc_heap_new w _);have hi0:I [] ((w.alloc (.deferred (some []))).alloc (.loop r)):=hI.alloc _ (hI.alloc _ h0);have hbw:Below w0.heap.size w0 ((w.alloc (.deferred (some []))).alloc (.loop r)):=hb0.trans ((((Below.refl _ w).alloc (Nat.le_refl _) _).alloc (by simp) _).mono hb0.size);generalize (w.alloc (.deferred (some []))).alloc (.loop r)=W0 at *
 refine⟨w.heap.size+1,[{ target := .collected w.heap.size,args := #[] }],W0,{ target := .fn (.func gf) lb,args := #[.func (.yield (w.heap.size+1)) #[] #[]] },W0,gf,#[.func (.yield (w.heap.size+1)) #[] #[]]++lb,W0,hent,?_,?_,?_,fun _=>h1,?_⟩
 . simp only [resolve,hg];simp [go_sem]
 . intro f' hf';simp [Target.leads] at hf';rw [<- hf'];exact hFg
 . simp [invoke,go_sem,eg]
 . refine (hseq (w.heap.size+1) (fun pre W=>I pre W/\W.heap[w.heap.size+1]? = some (.loop r)/\W.heap[w.heap.size]? = some (.deferred (some [])))
    (fun pre W=>∃ c,Ix c pre W/\W.heap[w.heap.size+1]? = some (.loop { r with state := .done,pending:=some c })/\W.heap[w.heap.size]? = some (.deferred (some []))) W0 hbw (fun pre W1 h=>hIG pre W1 h.1) ?_ ⟨hi0,hl0,hk0⟩).mono ?_
   . rintro pre x W ⟨hi,hl,hk⟩ hv
     exact told_round a₁ hfn hr (by omega) (by omega) hI hIx (hps x) (hassign _ x W) (fun W1 h=>hbody _ pre x W1 h hv) hi hl hk
   . rintro e W2 ⟨⟨v,rfl⟩,⟨xs,hs,hi,hl,hk⟩|⟨pre,hs,c,hi,hl,hk⟩⟩
     . have hpend:r.pending=none:=by rw [hr]
       have hel:=run_endLoop (P:=P) hl (by rw [hr]; simp);rw [hpend] at hel;exact⟨none,_,hel,hdone _ xs _ (Nat.le_refl _) hs (hI.putObj _ hi (by omega) hl rfl) ((World.putObj_heap_other (by omega)).trans hk)⟩
     . exact⟨some c,_,run_endLoop (P:=P) hl (by simp),hstop _ c pre _ (Nat.le_refl _) hs ((hIx c).putObj _ hi (by omega) hl rfl) ((World.putObj_heap_other (by omega)).trans hk)⟩
end
open Go.Shelf
attribute [local go_sem] Oper.semAt_some
def BackAt (Bs:Nat) (A:Option Addr) (len cap:Nat) (l:List Nat) (k:Nat) (W:World):Prop :=
 W.cell? ⟨Bs,0,none⟩=some (.slice A len cap)/\∀ j,j+k+1=len->∃ b off,A=some ⟨b,off,none⟩/\W.cell? ⟨b,off+j,none⟩=some (.int .u32 (l.getD j 0:Nat))
def backOne (l:List Nat) (len k:Nat):Nat×Nat:=(len - 1 - k,l.getD (len - 1 - k) 0)
def backVals (x:Nat×Nat):Array Value := #[Value.int .i64 (x.1:Int),Value.int .u32 (x.2:Int)]
set_option maxRecDepth 100000 in
set_option maxHeartbeats 2000000 in
theorem back_told (F:Fence) (n:Nat) (h1:F.fn 264) (hro:F.round=none) (hn:1<=n) (Bs len cap:Nat) (A:Option Addr) (l:List Nat) (hreach:len<=1000) (w0:World) :
 SeqTold F n Tryz.prog 264 #[.pointer (some ⟨Bs,0,none⟩)] backVals (fun pre W=>BackAt Bs A len cap l pre.length W) (fun pre x=>pre.length<len/\x=backOne l len pre.length) (fun xs=>xs.length=len) (fun _=>True) w0:=fun lp J Jx W hW hG hY h0=>by
 refine callsIn_of_wp Tryz.func264 rfl h1 ?_ hro;simp only [Tryz.ntmps264,List.size_toArray,List.length_cons,List.length_nil,Nat.reduceAdd,Nat.reduceSub,Array.replicate_succ,Array.replicate_zero,List.push_toArray,List.append_toArray,List.nil_append,List.cons_append];have hB0:=(hG _ _ h0).1
 gi_wp2
 gi_loopw [3] (fun i wr=>∃ pre:List (Nat×Nat),pre.length<=len/\i = .int .i64 ((len:Int) - 1 - pre.length)/\J pre wr)
  (fun i _=>(intOf i+1).toNat)
 case atStart=>exact⟨[],Nat.zero_le _,by simp,h0⟩
 case round =>
  obtain⟨pre,hk,rfl,hJs⟩:=hrel;obtain⟨hbx,hel⟩:=hG _ _ hJs;by_cases hlt:pre.length<len
  . obtain⟨j,hj⟩:∃ j,j+pre.length+1=len:=⟨len - 1 - pre.length,by omega⟩
    obtain⟨b,off,rfl,hcx⟩:=hel j hj;obtain⟨fn,tmps,assign,body,hy,hR⟩:=hY _ (backOne l len pre.length) wr hJs ⟨hlt,rfl⟩;have e1:len - 1 - pre.length=j:=by omega
    have e2:(len:Int) - 1 - pre.length=(j:Int):=by omega
    unfold backVals backOne at hy;rw [e1] at hy;rw [e2];dsimp only at hy;have hjl:j<len:=by omega
    obtain⟨d,hd⟩:∃ d,d=l.getD j 0:=⟨_,rfl⟩
    rw [<- hd] at hy hcx;clear hel hd e1 e2 hG hY h0
    gi_wp2
    refine hR.mono ?_
    rintro e W3 (⟨rfl,hJ3⟩|⟨rfl,hJx3⟩)
    . gi_wp2
      go_roundw
      case rel=>exact⟨pre ++ [backOne l len pre.length],by simp<;>omega,by simp<;>omega,hJ3⟩
      case measure=>simp [intOf]<;>omega
    . gi_wp2
      refine bodyPost_ret (results_none rfl _ _ _) rfl ?_;exact⟨⟨_,rfl⟩,.inr ⟨_,trivial,hJx3⟩⟩
  . have e2:(len:Int) - 1 - pre.length = -1:=by omega
    rw [e2]
    gi_wp2
    go_end0
    exact⟨⟨_,rfl⟩,.inl ⟨_,by omega,hJs⟩⟩
set_option maxHeartbeats 1000000 in
theorem back_in (F:Fence) (n:Nat) (h5:F.fn 228) (hro:F.round=none) (a:Option Addr) (len cap:Nat) (w:World) :
 CallsIn F n Tryz.prog 228 #[.slice a len cap] w fun e w'=>e = .returned (.func (.func 264) #[] #[.pointer (some ⟨w.heap.size,0,none⟩)])/\w'=w.alloc (.cells #[.slice a len cap] 145):=by
 refine callsIn_of_wp Tryz.func228 rfl h5 ?_ hro;simp only [Tryz.ntmps228,List.size_toArray,List.length_cons,List.length_nil,Nat.reduceAdd,Nat.reduceSub,Array.replicate_succ,Array.replicate_zero,List.push_toArray,List.append_toArray,List.nil_append,List.cons_append]
 gi_wp2
 go_ret
 exact⟨rfl,rfl⟩
attribute [local go_sem] Oper.semAt_some
theorem cmpNat_lt {x y:Nat} (h:x<y):cmpNat x y = -1:=by unfold cmpNat; rw [if_pos h]
theorem cmpNat_gt {x y:Nat} (h:y<x):cmpNat x y=1:=by unfold cmpNat; rw [if_neg (by omega),if_pos h]
theorem cmpNat_eq (x:Nat):cmpNat x x=0:=by unfold cmpNat; rw [if_neg (by omega),if_neg (by omega)]
theorem rd_cell {w:World} {A:Option Addr} {k:IntKind} {l:List Nat} (h:Rd w w.heap.size 1 A (nums k l)) {j:Nat} (hj:j<l.length):∃ b off,A=some ⟨b,off,none⟩/\b<w.heap.size/\w.cell? ⟨b,off+j,none⟩=some (.int k (l.getD j 0:Nat)):=by
 obtain⟨b,off,hA,hb,_,hc⟩:=h j _ (nums_get hj);refine⟨b,off,hA,hb,?_⟩;have:=hc 0 _ rfl;rw [Nat.mul_one,Nat.add_zero] at this;rw [this,List.getD_eq_getElem?_getD,List.getElem?_eq_getElem hj];rfl
theorem drop_getD {l:List Nat} {j:Nat} (hj:j<l.length):l.drop j=l.getD j 0::l.drop (j+1):=by
 rw [List.drop_eq_getElem_cons hj,List.getD_eq_getElem?_getD,List.getElem?_eq_getElem hj];rfl
theorem dig_val_lt_of {x y j:Nat} (hl:len32 x=len32 y) (hj:j<len32 x) (hd:(dig B32 x).drop (j+1)=(dig B32 y).drop (j+1)) (hlt:(dig B32 x).getD j 0<(dig B32 y).getD j 0):x<y:=by
 have hjy:j<(dig B32 y).length:=by
  have:j<len32 y:=by omega
  exact this
 have h:=valB_lt_of_digit (B:=B32) (a:=dig B32 x) (b:=dig B32 y) (Digs.dig hB32 x) hl hj (by
  rw [List.getD_eq_getElem?_getD,List.getElem?_eq_getElem hj,List.getD_eq_getElem?_getD,List.getElem?_eq_getElem hjy] at hlt;exact hlt) hd
 rwa [val_dig hB32,val_dig hB32] at h
set_option maxRecDepth 100000 in
set_option maxHeartbeats 2000000 in
theorem frac_cmp (A D:Option Addr) (ca cd x y n m:Nat) (hn:n=len32 x) (hm:m=len32 y) (w:World) (h:Rd32 w A x) (h':Rd32 w D y) (hx:len32 x<=1000) (_hy:len32 y<=1000) :
 Calls Tryz.prog 184 #[.slice A n ca,.slice D m cd] w fun e w'=>e = .returned (.int .i64 (cmpNat x y))/\Below w.heap.size w w':=by
 subst hn hm;by_cases hlen:len32 x=len32 y
 . refine (callsIn_wide (n:=3)).1 ?_;refine callsIn_of_wp_marks Tryz.func184 rfl trivial ?_ rfl;simp only [Tryz.ntmps184,List.size_toArray,List.length_cons,List.length_nil,Nat.reduceAdd,Nat.reduceSub,Array.replicate_succ,Array.replicate_zero,List.push_toArray,List.append_toArray,List.nil_append,List.cons_append];obtain⟨len,hlx'⟩:∃ len,len=len32 x:=⟨_,rfl⟩
   rw [<- hlen,<- hlx'];rw [<- hlx'] at hlen hx;have hlx:=Lib.hid hlx';have hly:=Lib.hid hlen;have hle:len<=1000:=hx;clear _hy hlx' hlen hx
   gi_wp2_with (refine⟨trivial,?_⟩; gi_at_call 228; refine (back_in Fence.wide _ trivial rfl _ _ _ _).mono ?_; rintro e w' ⟨rfl,rfl⟩)
   have bB:=(Boxed.new w 145 (.slice D len cd)).alloc (.cells #[.int .i64 0] 3);have bR:=Boxed.new (w.alloc (.cells #[.slice D len cd] 145)) 3 (.int .i64 0);have bN:=Boxed.new ((w.alloc (.cells #[.slice D len cd] 145)).alloc (.cells #[.int .i64 0] 3)) 145 (.slice A len ca);rw [World.size_alloc] at bR bN;rw [World.size_alloc] at bN;have hB0:Below w.heap.size w (((w.alloc (.cells #[.slice D len cd] 145)).alloc (.cells #[.int .i64 0] 3)).alloc (.cells #[.slice A len ca] 145)):=(((Below.refl _ w).alloc (Nat.le_refl _) _).alloc (by simp) _).alloc (by simp; omega) _;refine range_told (F:=Fence.wide) (n:=3) (ps := #[19,20]) (encs:=backVals) rfl (by decide) (gf:=264) (lb := #[.pointer (some ⟨w.heap.size+1+1,0,none⟩)]) rfl trivial (enters_of Tryz.func264 (by kernel_rfl) rfl)
    (back_told Fence.wide 2 trivial rfl (by decide) (w.heap.size+1+1) len ca A (dig B32 x) hle _) (Below.refl _ _) (fun _=>rfl)
    (fun pre W=>((W.cell? ⟨w.heap.size,0,none⟩=some (.slice D len cd)/\W.cell? ⟨w.heap.size+1,0,none⟩=some (.int .i64 0)/\W.frozen? ⟨w.heap.size+1,0,none⟩=false/\W.cell? ⟨w.heap.size+1+1,0,none⟩=some (.slice A len ca))/\pre.length<=len/\(dig B32 x).drop (len - pre.length)=(dig B32 y).drop (len - pre.length))/\Below w.heap.size w W)
    (fun c _ W=>(c = .ret/\W.cell? ⟨w.heap.size+1,0,none⟩=some (.int .i64 (cmpNat x y)))/\Below w.heap.size w W)
    (fun pre W hI => ?hIG)
    (OwnFrom.and (Own.from (fun s A B row hs hg hr=>⟨⟨cell_kept hs.1.1 hg hr,cell_kept hs.1.2.1 hg hr,(frozen_kept hs.1.2.1 hg hr).trans hs.1.2.2.1,cell_kept hs.1.2.2.2 hg hr⟩,hs.2⟩) _) (ownFrom_below (Nat.le_refl _) (by simp; omega)))
    (fun c=>OwnFrom.and (Own.from (fun s A B row hs hg hr=>⟨hs.1,cell_kept hs.2 hg hr⟩) _) (ownFrom_below (Nat.le_refl _) (by simp; omega)))
    ⟨⟨⟨(bB.alloc _).cell,(bR.alloc _).cell,(bR.alloc _).frozen,bN.cell⟩,Nat.zero_le _,?hst⟩,hB0⟩
    (fun x => { tmps := #[.slice A len ca,.slice D len cd,undef,.pointer (some ⟨w.heap.size,0,none⟩),.pointer (some ⟨w.heap.size+1,0,none⟩),.int .i64 (x.1:Int),.int .u32 (x.2:Int),.slice A len ca,.int .i64 (len:Int),.slice D len cd,.int .i64 (len:Int),.bool false,undef,undef,undef,undef,undef,.slice A len ca,.func (.func 264) #[] #[.pointer (some ⟨w.heap.size+1+1,0,none⟩)],.int .i64 (x.1:Int),.int .u32 (x.2:Int),undef,undef,undef,undef,undef,undef,undef,undef,undef,undef,undef,undef],defers := [] }) ?assign ?body ?done ?stop
   case hIG =>
    obtain⟨⟨⟨_,_,_,hbx⟩,hpl,_⟩,hbw⟩:=hI;refine⟨hbx,fun j hj => ?_⟩;obtain⟨b,off,rfl,hb,hc⟩:=rd_cell h (j:=j) (by have:=hlx.out; show j<len32 x; omega);exact⟨b,off,rfl,(hbw.cell (p:=⟨b,off+j,none⟩) hb).trans hc⟩
   case hst =>
    rw [List.length_nil,Nat.sub_zero,List.drop_eq_nil_of_le (by have:=hlx.out; show len32 x<=len; omega),List.drop_eq_nil_of_le (by have:=hly.out; show len32 y<=len; omega)]
   case assign =>
    intro l x W K hK;unfold backVals
    gi_wp2
    exact hK
   case body =>
    rintro l pre x0 W ⟨⟨⟨hbB,hbR,hfR,hbN⟩,hpl,hdr⟩,hbw⟩ ⟨hlt,rfl⟩
    obtain⟨j,hj⟩:∃ j,j+pre.length+1=len:=⟨len - 1 - pre.length,by omega⟩
    have e1:len - 1 - pre.length=j:=by omega
    have e3:len - pre.length=j+1:=by omega
    have e4:len - (pre ++ [backOne (dig B32 x) len pre.length]).length=j:=by simp; omega
    have e5:(pre ++ [backOne (dig B32 x) len pre.length]).length<=len:=by simp; omega
    have hjx:j<(dig B32 x).length:=by have:=hlx.out; show j<len32 x; omega
    have hjy:j<(dig B32 y).length:=by have:=hly.out; show j<len32 y; omega
    obtain⟨b,off,rfl,hb,hc⟩:=rd_cell h' hjy;have hcW:=(hbw.cell (p:=⟨b,off+j,none⟩) hb).trans hc;have hdx:=drop_getD hjx;have hdy:=drop_getD hjy;rw [e3] at hdr;unfold backOne;rw [e1];obtain⟨d,hd⟩:∃ d,d=(dig B32 x).getD j 0:=⟨_,rfl⟩
    obtain⟨d',hd'⟩:∃ d',d'=(dig B32 y).getD j 0:=⟨_,rfl⟩
    rw [<- hd'] at hcW;have hdl:d<4294967296:=by rw [hd]; exact (Digs.dig hB32 x).getD (by decide) j
    have hdl':d'<4294967296:=by rw [hd']; exact (Digs.dig hB32 y).getD (by decide) j
    rw [<- hd];rw [<- hd] at hdx;rw [<- hd'] at hdy;have hlt1:=Lib.hid (fun q:d<d'=>cmpNat_lt (dig_val_lt_of (x:=x) (y:=y) (by rw [<- hlx.out,<- hly.out]) hjx hdr (by rw [<- hd,<- hd']; exact q)));have hgt1:=Lib.hid (fun q:d'<d=>cmpNat_gt (dig_val_lt_of (x:=y) (y:=x) (by rw [<- hlx.out,<- hly.out]) hjy hdr.symm (by rw [<- hd,<- hd']; exact q)));have hnx:=Lib.hid (fun q:d=d'=>show (dig B32 x).drop j=(dig B32 y).drop j by rw [hdx,hdy,q,hdr]);have E4:=Lib.hid e4;have E5:=Lib.hid e5;unfold backOne at E4 E5;rw [e1,<- hd] at E4 E5;have hjlen:j<len:=by omega
    clear e1 e3 e4 e5 hd hd' hdx hdy hdr hjx hjy h h' hc bB bR bN hB0;dsimp only
    gi_wp2
    . have hq:d<d':=by assumption
      exact⟨KeepsOthers.setCell _ _ _,⟨rfl,by rw [hlt1.out hq]; exact World.cell?_setCell_same' _ _ _ (by rw [hbR]; rfl)⟩,hbw.setCell (p:=⟨w.heap.size+1,0,none⟩) (Nat.le_succ _) _⟩
    . have hq:d'<d:=by assumption
      exact⟨KeepsOthers.setCell _ _ _,⟨rfl,by rw [hgt1.out hq]; exact World.cell?_setCell_same' _ _ _ (by rw [hbR]; rfl)⟩,hbw.setCell (p:=⟨w.heap.size+1,0,none⟩) (Nat.le_succ _) _⟩
    . have hq:d=d':=by omega
      exact⟨KeepsOthers.refl _,⟨⟨hbB,hbR,hfR,hbN⟩,E5.out,by rw [E4.out]; exact hnx.out hq⟩,hbw⟩
   case done =>
    rintro D0 xs W hD hxs ⟨⟨⟨hbB,hbR,hfR,hbN⟩,hpl,hdr⟩,hbw⟩ hK
    have hxy:Hid (cmpNat x y=0):=by
     rw [hxs,Nat.sub_self,List.drop_zero,List.drop_zero] at hdr;have:=dig_inj hB32 hdr;subst this;exact cmpNat_eq x
    clear bB bR bN hB0 h h' hdr
    gi_wp2
    have hK':=(KeepsOthers.setCell W ⟨w.heap.size+1,0,none⟩ (.int .i64 0)).same D0 _ hK rfl;refine⟨by simp,.inl ⟨_,_,rfl,run_takeDeferred hK',?_⟩⟩;have hc5:=cell_kept (World.cell?_setCell_same' W ⟨w.heap.size+1,0,none⟩ (.int .i64 0) (by rw [hbR]; rfl)) (grownBy_putObj' _ D0 (.deferred none)) (fun r e=>by cases e; exact⟨_,hK',rfl⟩);refine⟨.int .i64 0,?_,by rw [hxy.out],(hbw.setCell (p:=⟨w.heap.size+1,0,none⟩) (Nat.le_succ _) _).trans (belowK_b (w:=w) (Nat.le_refl _) _ D0 _ _ (by simp at hD; omega) hK' rfl rfl)⟩;simp [results,Tryz.f184,go_sem,hc5]
   case stop =>
    rintro D0 c pre W hD _ ⟨⟨rfl,hcr⟩,hbw⟩ hK
    clear bB bR bN hB0 h h'
    gi_wp2
    refine⟨by simp,.inl ⟨_,_,rfl,run_takeDeferred hK,?_⟩⟩;have hc5:=cell_kept hcr (grownBy_putObj' _ D0 (.deferred none)) (fun r e=>by cases e; exact⟨_,hK,rfl⟩);refine⟨.int .i64 (cmpNat x y),?_,rfl,hbw.trans (belowK_b (w:=w) (Nat.le_refl _) _ D0 _ _ (by simp at hD; omega) hK rfl rfl)⟩;simp [results,Tryz.f184,go_sem,hc5]
 . go_enter Tryz.func184,Tryz.ntmps184
   by_cases hlt:len32 x<len32 y
   . have hxy:cmpNat x y = -1:=cmpNat_lt (lt_of_len_lt hB32 hlt);have hl1:(((len32 x:Nat):Int)<((len32 y:Nat):Int)):=by omega
     have hcell:=(Boxed.new (w.alloc (.cells #[.slice D (len32 y) cd] 145)) 3 (.int .i64 (-1))).cell;rw [World.size_alloc] at hcell;have HX:=Lib.hid hxy;clear hxy
     go_wp2
     refine bodyPost_ret (v := .int .i64 (-1)) (by simp [results,Tryz.f184,go_sem,hcell]) rfl ?_;exact⟨by rw [HX.out],((Below.refl _ w).alloc (Nat.le_refl _) _).alloc (by simp) _⟩
   . have hxy:cmpNat x y=1:=cmpNat_gt (lt_of_len_lt hB32 (by show len32 y<len32 x; omega));have hl1:¬ (((len32 x:Nat):Int)<((len32 y:Nat):Int)):=by omega
     have hcell:=(Boxed.new (w.alloc (.cells #[.slice D (len32 y) cd] 145)) 3 (.int .i64 1)).cell;rw [World.size_alloc] at hcell;have HX:=Lib.hid hxy;clear hxy
     go_wp2
     refine bodyPost_ret (v := .int .i64 1) (by simp [results,Tryz.f184,go_sem,hcell]) rfl ?_;exact⟨by rw [HX.out],((Below.refl _ w).alloc (Nat.le_refl _) _).alloc (by simp) _⟩
end Go.Proofs.YthfpdbjemfhieaaGreat
namespace Go.Proofs.YthfpdbjemfhieaaGreat
open Go.RowKit
def numCells (k:IntKind) (l:List Nat):List Value:=l.map fun (n:Nat)=>Value.int k (n:Int)
def NBx (w:World) (g E:Nat) (k:IntKind) (l:List Nat):Prop:=∃ rest:List Value,w.heap[g]? = some (.cells (numCells k l++rest).toArray E (0,0))
theorem numCells_len (k:IntKind) (l:List Nat):(numCells k l).length=l.length:=by simp [numCells]
theorem numCells_get {k:IntKind} {l:List Nat} {i:Nat} (h:i<l.length):(numCells k l)[i]? = some (.int k (l[i]:Int)):=by simp [numCells,h]
theorem NBx.lt {w:World} {g E:Nat} {k:IntKind} {l:List Nat} (h:NBx w g E k l):g<w.heap.size:=by
 obtain⟨r,h⟩:=h;exact (Array.getElem?_eq_some_iff.1 h).1
theorem NBx.keep {w w':World} {g E:Nat} {k:IntKind} {l:List Nat} (h:NBx w g E k l) (hg:w'.heap[g]? = w.heap[g]?):NBx w' g E k l:=by
 obtain⟨r,h⟩:=h;exact⟨r,hg.trans h⟩
theorem NBx.cell {w:World} {g E:Nat} {k:IntKind} {l:List Nat} (h:NBx w g E k l) {i:Nat} (hi:i<l.length):w.cell? ⟨g,i,none⟩=some (.int k (l[i]:Int)):=by
 obtain⟨r,h⟩:=h;have:=cell_of_row w g i _ _ _ h;rw [this];rw [List.getElem?_toArray,List.getElem?_append_left (by rw [numCells_len]; exact hi),numCells_get hi]
theorem NBx.frozen {w:World} {g E:Nat} {k:IntKind} {l:List Nat} (h:NBx w g E k l) (i:Nat):w.frozen? ⟨g,i,none⟩=false:=by
 obtain⟨r,h⟩:=h;simp [World.frozen?,h]
theorem NBx.rd {w:World} {g E:Nat} {k:IntKind} {l:List Nat} (h:NBx w g E k l):Rd w w.heap.size 1 (some ⟨g,0,none⟩) (nums k l):=by
 intro i cs hi;unfold nums at hi;rw [List.getElem?_map] at hi;obtain⟨n,hn,rfl⟩:=Option.map_eq_some_iff.1 hi;have hil:=(List.getElem?_eq_some_iff.1 hn).1;refine⟨g,0,rfl,h.lt,rfl,fun j u hu => ?_⟩
 match j,hu with
 | 0,hu =>
  simp at hu;subst hu;have:=h.cell hil;rw [List.getElem?_eq_getElem hil] at hn;injection hn with hn;rw [hn] at this;rw [Nat.mul_one,Nat.add_zero,Nat.zero_add];exact this
theorem heap_setCell {w:World} {b:Nat} {c:Array Value} {t:TypeId} {fr:Nat×Nat} (h:w.heap[b]? = some (.cells c t fr)) (i:Nat) (u:Value):(w.setCell ⟨b,i,none⟩ u).heap[b]? = some (.cells (c.setIfInBounds i u) t fr):=by
 have hlt:=lt_of_block h;have h':w.heap[b] = .cells c t fr:=by simpa [Array.getElem?_eq_getElem hlt] using h
 show (w.heap.modify b _)[b]? = _
 rw [Array.getElem?_eq_getElem (by simpa using hlt),Array.getElem_modify_self,h'];rfl
theorem NBx.setCell {w:World} {g E:Nat} {k:IntKind} {l:List Nat} (h:NBx w g E k l) {i:Nat} (hi:i<l.length) (m:Nat):NBx (w.setCell ⟨g,i,none⟩ (.int k (m:Int))) g E k (l.set i m):=by
 obtain⟨r,hr⟩:=h;refine⟨r,?_⟩;rw [heap_setCell hr];congr 2;apply Array.ext';rw [Array.toList_setIfInBounds,List.toList_toArray,List.toList_toArray];rw [List.set_append_left _ _ (by rw [numCells_len]; exact hi)];unfold numCells;rw [List.map_set]
theorem NBx.other {w:World} {g E:Nat} {k:IntKind} {l:List Nat} (h:NBx w g E k l) {p:Addr} (hne:g≠p.block) (u:Value):NBx (w.setCell p u) g E k l:=h.keep (Below.heap_setCell _ _ _ _ hne)
theorem u32_ei:EI Tryz.prog 145 63 1 4:=EI.mk (z := .int .u32 0) Tryz.underlying145 (by kernel_rfl) rfl (by omega)
theorem OwnS.empty_new (w:World) (base e size:Nat) (hb:base<=w.heap.size):OwnS (w.alloc (.cells #[] e)) base e size (some ⟨w.heap.size,0,none⟩) 0 [] :=
 ⟨⟨by simp,.inr ⟨w.heap.size,0,#[],rfl,hb,heap_alloc_new w _,Nat.le_refl _,Nat.zero_le _,by simp,by simp⟩⟩,by simp⟩
theorem OwnS.nbx {w:World} {base e c:Nat} {A:Option Addr} {k:IntKind} {l:List Nat} (h:OwnS w base e 1 A c (nums k l)) (hl:0<l.length):∃ g,A=some ⟨g,0,none⟩/\base<=g/\NBx w g e k l:=by
 rcases h.1.2 with ⟨h1,h2⟩|⟨g,cap,cur,h1,hb,hg,_,_,hs,htk⟩
 . rw [nums_len] at h2;omega
 . simp at h1;obtain⟨rfl,rfl⟩:=h1;refine⟨g,rfl,hb,cur.toList.drop l.length,?_⟩;rw [hg];congr 2;apply Array.ext';rw [List.toList_toArray];rw [nums_len,Nat.mul_one,nums_flat] at htk;unfold numCells;rw [<- htk,List.take_append_drop]
set_option maxRecDepth 100000 in
theorem clone_nat (A:Option Addr) (c x:Nat) (n:Nat) (hn:n=len32 x) (w:World) (hA:Rd32 w A x) (hl:len32 x<=1000) :
 Calls Tryz.prog 185 #[.slice A n c] w fun e w'=>∃ A' c',e = .returned (.slice A' (len32 x) c')/\OwnS w' w.heap.size 63 1 A' c' (nums .u32 (dig B32 x))/\len32 x<=c'/\Below w.heap.size w w':=by
 subst hn
 cases A with
 | none =>
  have hl0:dig B32 x = []:=by
   rcases hd:dig B32 x with _|⟨d,l⟩
   . rfl
   . unfold Rd32 at hA;rw [hd] at hA;obtain⟨_,_,h,_⟩:=hA 0 [.int .u32 (d:Int)] rfl;cases h
  have hl1:len32 x=0:=by show (dig B32 x).length=0; rw [hl0]; rfl
  rw [hl1,hl0];have heq:=fun w=>Go.Lib.run_eql_slice_nil (P:=Tryz.prog) w 145 63 none 0 c 0 0 Tryz.underlying145
  go_enter Tryz.func185,Tryz.ntmps185
  go_wp2
  go_ret
  exact⟨none,0,rfl,OwnS.nil _ _ _ _,Nat.zero_le _,Below.refl _ _⟩
 | some ad =>
  obtain⟨l,hld⟩:∃ l,l=dig B32 x:=⟨_,rfl⟩
  have hll:len32 x=l.length:=by rw [hld]
  rw [hll] at hl;rw [hll];unfold Rd32 at hA;rw [<- hld] at hA ⊢;clear hll hld;have heq:=fun w=>Go.Lib.run_eql_slice_nil (P:=Tryz.prog) w 145 63 (some ad) l.length c 0 0 Tryz.underlying145;have hb1:Below w.heap.size w (w.alloc (Obj.cells #[] 63)):=(Below.refl _ _).alloc (Nat.le_refl _) _;have HRD:=Lib.hid ((hA.below hb1 (Nat.le_refl _)).more hb1.size);have HOW:=Lib.hid (OwnS.empty_new w w.heap.size 63 1 (Nat.le_refl _));have HB1:=Lib.hid hb1;clear hA hb1
  go_enter Tryz.func185,Tryz.ntmps185
  go_wp2_with (first
   | (at_builtin; go_loud (refine wpList_append_n rfl _ _ rfl u32_ei 0 rfl rfl HOW.out rfl _ HRD.out (by rw [nums_len]) (nums_ones _ l) (by unfold maxLen; simp; omega) (by simp; omega) HB1.out.size ?_); intro A4 c4 w4 hown4 hg4 hb4))
  go_ret
  have hcap:=hown4.cap.1;rw [List.nil_append,nums_len] at hcap;exact⟨A4,c4,by simp,by simpa using hown4,hcap,HB1.out.trans hb4⟩
end Go.Proofs.YthfpdbjemfhieaaGreat
