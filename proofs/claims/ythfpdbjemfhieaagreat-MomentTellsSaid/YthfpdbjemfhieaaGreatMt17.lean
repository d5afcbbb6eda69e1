/-
  moment: Add.
-/
import Derived.Test.YthfpdbjemfhieaaGreatMt16
import Derived.DeepKeys
import Derived.Laws.StructEq
set_option linter.unusedVariables false
set_option linter.unusedSimpArgs false
namespace Go.Proofs.YthfpdbjemfhieaaGreat
open Go.RowKit
def Ld.add (a b:Ld):Ld:=⟨a.kilos+b.kilos,a.x+b.x,a.y+b.y,a.z+b.z⟩
def addFrom (s:Ld):List Ld->Ld×Int
 | []=>(s,0)
 | x::l=>if wOk (s.kilos+x.kilos) then addFrom (s.add x) l else (ld0,3)
def ldBad (l:Ld):Bool := !ldOk l
def addF (l:List Ld):Ld×Int:=if l.any ldBad then (ld0,2) else addFrom ld0 l
theorem ldOk_nums {l:Ld} (h:ldOk l=true):(0<=l.kilos/\l.kilos<=500000000)/\(-(l.kilos*1100000)<=l.x/\l.x<=l.kilos*1100000)/\(-(l.kilos*1100000)<=l.y/\l.y<=l.kilos*1100000)/\(-(l.kilos*1100000)<=l.z/\l.z<=l.kilos*1100000):=by
 unfold ldOk at h;simp only [Bool.and_eq_true] at h;exact⟨wOk_iff.1 h.1,inArm_iff.1 h.2.1,inArm_iff.1 h.2.2.1,inArm_iff.1 h.2.2.2⟩
theorem ldOk_of {l:Ld} (h:(0<=l.kilos/\l.kilos<=500000000)/\(-(l.kilos*1100000)<=l.x/\l.x<=l.kilos*1100000)/\(-(l.kilos*1100000)<=l.y/\l.y<=l.kilos*1100000)/\(-(l.kilos*1100000)<=l.z/\l.z<=l.kilos*1100000)):ldOk l=true:=by
 unfold ldOk;simp only [Bool.and_eq_true];exact⟨wOk_iff.2 h.1,inArm_iff.2 h.2.1,inArm_iff.2 h.2.2.1,inArm_iff.2 h.2.2.2⟩
theorem ldOk_zero:ldOk ld0=true:=by decide
theorem cf73 (w:World) (args:Array Value):(callFunc 73 args).run Tryz.prog w = .ok (.enter 73 args) w:=by
 go_simp
set_option maxRecDepth 100000 in
set_option maxHeartbeats 2000000 in
theorem m_Add (A:Option Addr) (c n:Nat) (l:List Ld) (hn:n=l.length) (w:World) (h:Rd w w.heap.size 4 A (l.map Ld.cells)) (hl:l.length<=1000000) :
 Calls Tryz.prog 27 #[.slice A n c] w (LdPost w (addF l)):=by
 have HC:=Lib.hid (fun w1 (hb:From w w1)=>containsLd A c l n hn 73 #[] ldBad w1 (h.from hb) (by omega) cf73 (fun x _ w' _=>m_bad x w'));have HM0:=Lib.hid ((Mem.nil w).alloc 48 ld0.cells);have HR:=Lib.hid h;have HN:=Lib.hid hn;have hn6:n<=1000000:=by omega
 obtain⟨r,hr⟩:∃ r,r=addF l:=⟨_,rfl⟩
 rw [<- hr]
 cases hany:l.any ldBad with
 | true =>
  rw [hany] at HC;have HE:Hid (r=(ld0,2)):=by unfold Hid addF at *; rw [hr,hany]; rfl
  clear hr hany h hn hl HR
  go_enter Tryz.func27,Tryz.ntmps27
  go_wp2_with (first
   | (go_at_call 72; go_loud (refine (HC.out _ HM0.out.from_).mono ?_); rintro e w1 ⟨rfl,hb⟩; have HM1:=Lib.hid (HM0.out.call hb); clear hb)
   | ((with_reducible refine g_st 48 ?_); go_loud (refine wpList_stB (cs':=ld0.cells) rfl _ _ rfl HM1.out 0 rfl rfl rfl ld_size rfl (Ld.len _) (Ld.len _) (Ld.one _) ?_); intro w6 h6))
  refine bodyPost_ret (results_box2 rfl _ rfl (h6.ldb ld_row (Ld.len _) (i:=0) rfl _ (Below.refl _ _))) rfl ⟨?_,h6.from_⟩;rw [HE.out];rfl
 | false =>
  rw [hany] at HC;have HE:Hid (addFrom ld0 (l.drop 0)=r):=by unfold Hid addF at *; rw [hr,hany]; rfl
  have HOK:Hid (∀ x∈l,ldOk x=true):=by
   intro x hx;have h1:=List.any_eq_false.1 hany x hx;unfold ldBad at h1;simpa using h1
  clear hr hany h hn hl
  go_enter Tryz.func27,Tryz.ntmps27
  go_wp2_with (go_at_call 72; go_loud (refine (HC.out _ HM0.out.from_).mono ?_); rintro e w1 ⟨rfl,hb⟩; have HM1:=Lib.hid ((HM0.out.call hb).alloc 48 ld0.cells); clear hb HC HM0)
  go_loopw [12] (fun v wq=>∃ (k:Nat) (s:Ld),k<=n/\v = .int .i64 (k:Int)/\ldOk s=true/\addFrom s (l.drop k)=r/\Mem w wq [.box w1.heap.size 48 s.cells,.box w.heap.size 48 ld0.cells]) (fun v _=>n - (intOf v).toNat)
  case atStart=>exact⟨0,ld0,Nat.zero_le _,rfl,ldOk_zero,HE.out,HM1.out⟩
  case round =>
   clear HM1 HE;obtain⟨k,s,hk,rfl,hs,hle,hmem⟩:=hrel;have HM2:=Lib.hid hmem;have HLE:=Lib.hid hle;clear hmem hle;by_cases hkn:k=n
   . have hlt:¬ (k:Int)<(n:Int):=by omega
     have HE:Hid (r=(s,0)):=by
      have h1:=HLE.out;rw [List.drop_of_length_le (by rw [<- HN.out,hkn]; exact Nat.le_refl _)] at h1;exact h1.symm
     clear HLE hkn hk hs
     go_wp2_with (first
      | ((with_reducible refine g_ld 48 ?_); refine wpList_ld rfl _ _ rfl _ rfl _ (HM2.out.ldb ld_row (Ld.len _) (i:=0) rfl _ (Below.refl _ _)) ?_)
      | ((with_reducible refine g_st 48 ?_); go_loud (refine wpList_stB (cs':=Ld.cells s) rfl _ _ rfl HM2.out 1 rfl rfl rfl ld_size rfl (Ld.len _) (Ld.len _) (Ld.one _) ?_); intro w6 h6))
     refine bodyPost_ret (results_box2 rfl _ rfl (h6.ldb ld_row (Ld.len _) (i:=1) rfl _ (Below.refl _ _))) rfl ⟨?_,h6.from_⟩;rw [HE.out];rfl
   . have hlt:(k:Int)<(n:Int):=by omega
     have hkl:k<l.length:=by rw [<- HN.out]; omega
     obtain⟨g,off,rfl,hg,hld⟩:=Ld.ld HR.out (k:=k) (b:=l[k]) (map_get2 Ld.cells l k hkl);obtain⟨x,hx⟩:∃ x,x=l[k]:=⟨_,rfl⟩
     rw [<- hx] at hld;have HLD:=Lib.hid (hld wr HM2.out.from_);have hxo:ldOk x=true:=HOK.out x (by rw [hx]; exact List.getElem_mem hkl);have HLE2:Hid (addFrom s (x::l.drop (k+1))=r):=by
      have h1:=HLE.out;rw [List.drop_eq_getElem_cons hkl,<- hx] at h1;exact h1
     have HM3:=Lib.hid (HM2.out.alloc 48 x.cells);have h1:=ldOk_nums hs;have h2:=ldOk_nums hxo;obtain⟨k1,x1,y1,z1⟩:=s;obtain⟨k2,x2,y2,z2⟩:=x;dsimp only at h1 h2;have e1:IntKind.i64.wrap (k1+k2)=k1+k2:=wrap_i64 (by omega) (by omega);have e2:IntKind.i64.wrap (x1+x2)=x1+x2:=wrap_i64 (by omega) (by omega);have e3:IntKind.i64.wrap (y1+y2)=y1+y2:=wrap_i64 (by omega) (by omega);have e4:IntKind.i64.wrap (z1+z2)=z1+z2:=wrap_i64 (by omega) (by omega);have HSA:Hid (wOk (k1+k2)=true->ldOk ⟨k1+k2,x1+x2,y1+y2,z1+z2⟩=true):=by
      intro h3;have h4:=wOk_iff.1 h3;refine ldOk_of ?_;dsimp only;omega
     have HW:=Lib.hid (fun w1=>m_weighs (k1+k2) w1);clear h1 h2 hx hld HM2 hkl HLE hkn hs hxo
     cases hwo:wOk (k1+k2) with
     | false =>
      rw [hwo] at HW;have HE:Hid (r=(ld0,3)):=by
       have h1:=HLE2.out;unfold addFrom at h1;rw [if_neg (by rw [hwo]; simp)] at h1;exact h1.symm
      clear HLE2 HSA hwo
      go_wp2_with (first
       | ((with_reducible refine g_ld 48 ?_); refine wpList_ld rfl _ _ rfl _ rfl _ HLD.out ?_)
       | ((with_reducible refine g_ld 3 ?_); refine wpList_ld rfl _ _ rfl _ rfl _ (HM3.out.ldc ct3 (i:=1) rfl rfl _ (Below.refl _ _)) ?_)
       | ((with_reducible refine g_ld 3 ?_); refine wpList_ld rfl _ _ rfl _ rfl _ (HM4.out.ldc ct3 (i:=1) rfl rfl _ (Below.refl _ _)) ?_)
       | ((with_reducible refine g_st 48 ?_); refine wpList_stB (cs':=Ld.cells ⟨k1+k2,x1+x2,y1+y2,z1+z2⟩) rfl _ _ rfl HM3.out 1 rfl rfl rfl ld_size rfl (Ld.len _) (Ld.len _) (Ld.one _) ?_; intro w5 h5; have HM4:=Lib.hid h5; clear h5)
       | (go_at_call 75; refine (HW.out _).mono ?_; rintro e wx ⟨rfl,hx⟩; rw [hx]; clear hx wx)
       | ((with_reducible refine g_st 48 ?_); refine wpList_stB (cs':=ld0.cells) rfl _ _ rfl HM4.out 2 rfl rfl rfl ld_size rfl (Ld.len _) (Ld.len _) (Ld.one _) ?_; intro w6 h6))
      refine bodyPost_ret (results_box2 rfl _ rfl (h6.ldb ld_row (Ld.len _) (i:=2) rfl _ (Below.refl _ _))) rfl ⟨?_,h6.from_⟩;rw [HE.out];rfl
     | true =>
      rw [hwo] at HW;have HS2:=Lib.hid (HSA.out hwo);have HE:Hid (addFrom ⟨k1+k2,x1+x2,y1+y2,z1+z2⟩ (l.drop (k+1))=r):=by
       have h1:=HLE2.out;unfold addFrom at h1;rw [if_pos (by rw [hwo])] at h1;exact h1
      clear HLE2 HSA hwo
      go_wp2_with (first
       | ((with_reducible refine g_ld 48 ?_); refine wpList_ld rfl _ _ rfl _ rfl _ HLD.out ?_)
       | ((with_reducible refine g_ld 3 ?_); refine wpList_ld rfl _ _ rfl _ rfl _ (HM3.out.ldc ct3 (i:=1) rfl rfl _ (Below.refl _ _)) ?_)
       | ((with_reducible refine g_ld 3 ?_); refine wpList_ld rfl _ _ rfl _ rfl _ (HM4.out.ldc ct3 (i:=1) rfl rfl _ (Below.refl _ _)) ?_)
       | ((with_reducible refine g_st 48 ?_); refine wpList_stB (cs':=Ld.cells ⟨k1+k2,x1+x2,y1+y2,z1+z2⟩) rfl _ _ rfl HM3.out 1 rfl rfl rfl ld_size rfl (Ld.len _) (Ld.len _) (Ld.one _) ?_; intro w5 h5; have HM4:=Lib.hid h5; clear h5)
       | (go_at_call 75; refine (HW.out _).mono ?_; rintro e wx ⟨rfl,hx⟩; rw [hx]; clear hx wx))
      go_roundw
      case rel=>exact⟨k+1,_,by omega,by go_num,HS2.out,HE.out,HM4.out.tail⟩
      case measure=>simp [intOf]; omega
theorem g_copy {P:Program} {w:World} {ops:Array Oper} {rest:List Oper} {a:Act} {Q:Exit->Act->World->Prop} {x y:Operand} {t1 t2:TypeId} {d:Option Nat} {ty:TypeId} {pos:String} {aft:Array Edge} {gd:Option (Nat×Bool)}
 (h:wpList P ops Q (⟨d,.call { callee := .builtin .copy,args := #[x,y],argTypes := #[t1,t2] },ty,pos,aft,gd⟩::rest) a w):wpList P ops Q (⟨d,.call { callee := .builtin .copy,args := #[x,y],argTypes := #[t1,t2] },ty,pos,aft,gd⟩::rest) a w:=h
theorem NB.cell {w:World} {g E i:Nat} {k:IntKind} {l:List Nat} (h:NB w g E k l) (hi:i<l.length):w.cell? ⟨g,i,none⟩=some (.int k (l.getD i 0:Nat)):=by
 rw [cell_of_row w g i _ _ _ h];simp [hi]
theorem NB.frozen {w:World} {g E:Nat} {k:IntKind} {l:List Nat} (h:NB w g E k l) (i:Nat):w.frozen? ⟨g,i,none⟩=false:=by
 unfold NB at h;simp [World.frozen?,h]
theorem seg_parts {L o:List Nat} {j m:Nat} (ho:o.length=m) (hj:j<=L.length):(L.take j++o++L.drop (j+m)).take j=L.take j/\(L.take j++o++L.drop (j+m)).drop (j+m)=L.drop (j+m)/\((L.take j++o++L.drop (j+m)).drop j).take m=o:=by
 have hl:(L.take j).length=j:=List.length_take_of_le hj;refine⟨?_,?_,?_⟩
 . rw [List.append_assoc,List.take_append_of_le_length (by omega),List.take_take,Nat.min_self]
 . exact List.drop_left' (by simp [hl,ho])
 . rw [List.append_assoc,List.drop_left' hl];exact List.take_left' ho
theorem winD_get {L:List Nat} {j n i:Nat} (h:i<=n):(winD L j n).getD i 0=L.getD (j+i) 0:=by
 simp [winD,List.getD_eq_getElem?_getD,show i<n+1 by omega]
set_option maxRecDepth 100000 in
set_option maxHeartbeats 8000000 in
theorem divide_many (A D:Option Addr) (ca cd x y la n:Nat) (hla:la=len32 x) (hn:n=len32 y) (w:World) (h:Rd32 w A x) (h':Rd32 w D y) (hx:len32 x<=900) (hx2:2<len32 x) (hy2:2<=len32 y) (hyx:y<=x) :
 Calls Tryz.prog 127 #[.slice A la ca,.slice D n cd] w (DivPost w x y):=by
 have hny:len32 y<=len32 x:=dig_len_le hB32 (Nat.lt_of_le_of_lt hyx (lt_of_dig_len hB32 (Nat.le_refl _)));have HC:=Lib.hid (frac_cmp A D ca cd x y la n hla hn w h h' (by omega) (by omega));have hc:¬ cmpNat x y<0:=by
  unfold cmpNat;rw [if_neg (by omega)];split<;>decide
 obtain⟨k,hk⟩:∃ k,n=k+1:=⟨n - 1,by omega⟩
 obtain⟨m,hm⟩:∃ m,la=m+n:=⟨la - n,by omega⟩
 obtain⟨yt,hyt⟩:∃ yt,yt=(dig B32 y).getD k 0:=⟨_,rfl⟩
 obtain⟨yt1,hyt1⟩:∃ yt1,yt1=yt+1:=⟨_,rfl⟩
 obtain⟨s,hs⟩:∃ s,s=B32 / (yt+1):=⟨_,rfl⟩
 obtain⟨hs0,hs1,hlV⟩:=norm_len (y:=y) (k:=k) (by omega) hyt hs;have hB:B32=4294967296:=rfl;rw [hB] at hs1;have hytB:yt<4294967296:=by rw [hyt]; exact (Digs.dig hB32 y).getD (by decide) k
 have w1':IntKind.i64.wrap ((n:Int) - 1)=(k:Int):=by rw [wrap_i64 (by omega) (by omega)]; omega
 have w2':=wrap_u64 (n:=(yt:Int)) (by omega) (by omega);have w3':IntKind.u64.wrap ((yt:Int)+1)=(yt1:Int):=by rw [wrap_u64 (by omega) (by omega)]; omega
 have w4':(4294967296:Int) / (yt1:Int)=(s:Int):=by rw [hs,hyt1,hB]; exact (Int.natCast_ediv 4294967296 (yt+1)).symm
 have w5':IntKind.u32.wrap (s:Int)=(s:Int):=by rw [wrap_u32,Nat.mod_eq_of_lt hs1]
 have w6':¬ ((yt1:Int)=0):=by omega
 have w7':¬ ((la:Int)<=2):=by omega
 have w8':¬ ((n:Int)=1):=by omega
 have w9':(k:Int)<(n:Int):=by omega
 obtain⟨b0,o0,rfl,hb0,hld0⟩:=num_ld Tryz.underlying63 rfl h' (i:=k) (show k<(dig B32 y).length by show k<len32 y; omega);have HLD:=Lib.hid (fun (w1:World) (hb:Below w.heap.size w w1)=>by
  have h1:=hld0 w1 hb;have e:(dig B32 y)[k]'(show k<(dig B32 y).length by show k<len32 y; omega)=yt:=by rw [hyt]; simp [show k<(dig B32 y).length by show k<len32 y; omega]
  rw [e] at h1;exact h1)
 have HA:=Lib.hid h;have HD:=Lib.hid h';have HLA:=Lib.hid hla;have HNY:=Lib.hid hn;have HLV:=Lib.hid hlV;have HX:=Lib.hid (show len32 x<=1000 by omega);have HK:=Lib.hid hk;have HM:=Lib.hid hm;generalize cmpNat x y=cv at *
 have HB0:Hid (k<=899/\la<=900/\n<=la):=by unfold Hid; omega
 clear h h' hx2 hx hy2 hyx hny hyt hyt1 hs hld0 hla hn hlV hB hk hm
 go_enter Tryz.func127,Tryz.ntmps127
 go_wp2_with (first
  | (go_at_call 184; refine (HC.out).mono ?_; rintro e w1 ⟨rfl,hb1⟩; have HB1:=Lib.hid hb1; clear hb1)
  | ((with_reducible refine g_ld 63 ?_); refine wpList_ld rfl _ _ rfl _ rfl _ (HLD.out _ HB1.out) ?_))
 refine region_div (A:=A) (D:=some ⟨b0,o0,none⟩) (la:=la) (n:=n) (s:=s) (y:=y) rfl (by kernel_rfl) (by kernel_rfl) (by kernel_rfl) rfl rfl rfl (by have:=HB0.out; omega) HNY.out (by rw [<- HNY.out]; have:=HB0.out; omega) hs0 hs1 (HD.out.from HB1.out) ?_ (by simp);intro g B3 A3 c3 w3 hb3 hg3 hnb3 hrd3;obtain⟨V,hV⟩:∃ V,V=y*s:=⟨_,rfl⟩
 obtain⟨X,hX⟩:∃ X,X=x*s:=⟨_,rfl⟩
 obtain⟨la1,hla1⟩:∃ la1,la1=la+1:=⟨_,rfl⟩
 obtain⟨m1,hm1⟩:∃ m1,m1=m+1:=⟨_,rfl⟩
 rw [<- hla1] at hnb3 ⊢;have hlV:len32 V=n:=by rw [hV,HLV.out,HK.out]
 rw [<- hV] at hrd3 ⊢;rw [hlV];have hV0:V≠0:=by
  rintro rfl
  have h1:len32 0=0:=rfl;rw [h1,HK.out] at hlV;omega
 have hx0:x≠0:=by
  rintro rfl
  have h1:len32 0=0:=rfl;have h2:=HLA.out;rw [h1] at h2;omega
 have hXlen:len32 X<=la1:=by
  refine dig_len_le hB32 ?_;have h1:x<B32^la:=lt_of_dig_len hB32 (show len32 x<=la by rw [<- HLA.out]; exact Nat.le_refl _);rw [hX,hla1,Nat.pow_succ];exact Nat.mul_lt_mul_of_lt_of_lt h1 hs1
 have hXpos:0<len32 X:=dig_len_pos hB32 (by rw [hX]; exact Nat.mul_ne_zero hx0 (by omega));have hbw3:Below w.heap.size w w3:=HB1.out.trans (hb3.mono HB1.out.size);have hba:Below w3.heap.size w3 (w3.alloc (.cells #[.int .u32 (s:Int)] 63)):=(Below.refl _ _).alloc (Nat.le_refl _) _;have hls:1=len32 s:=by
  show 1=(dig B32 s).length
  rw [dig_pos hB32 (by omega),Nat.mod_eq_of_lt hs1,Nat.div_eq_of_lt hs1,dig_zero hB32];rfl
 have HT:=Lib.hid (frac_times A (some ⟨w3.heap.size,0,none⟩) ca 1 x s la 1 HLA.out hls (w3.alloc (.cells #[.int .u32 (s:Int)] 63)) (HA.out.from (hbw3.trans (hba.mono hbw3.size))) (rd_limb hs0 hs1) HX.out (by omega));rw [<- hX] at HT;have HBA:=Lib.hid hba;have HBW3:=Lib.hid hbw3;have HG3:=Lib.hid (Nat.le_trans HB1.out.size hg3);have HNB3:=Lib.hid hnb3;have HRD3:=Lib.hid hrd3;have HVX:=Lib.hid (And.intro hV (And.intro hX (And.intro hla1 hm1)));have HLV2:=Lib.hid hlV;have HV0:=Lib.hid hV0;have HXL:=Lib.hid hXlen;have HXP:=Lib.hid hXpos;have w10':IntKind.i64.wrap ((la:Int) - (n:Int))=(m:Int):=by have:=HM.out; have:=HB0.out; rw [wrap_i64 (by omega) (by omega)]; omega
 have w11':IntKind.i64.wrap ((m:Int)+1)=(m1:Int):=by have:=HM.out; have:=HB0.out; rw [wrap_i64 (by omega) (by omega)]; omega
 have HM1:Hid (m1<=1001/\la1<=1001):=by have:=HM.out; have:=HB0.out; unfold Hid; omega
 clear hb3 hg3 hnb3 hrd3 hV hX hla1 hm1 hlV hV0 hx0 hXlen hXpos hbw3 hba hls;simp only [Act.put,List.setIfInBounds_toArray,List.set_cons_succ,List.set_cons_zero];rename_i K1 ha1;refine ha1 _ _ ?_;clear ha1 K1
 go_wp2_with (first
  | (go_at_call 148; refine (HT.out).mono ?_; rintro e w4 ⟨A4,c4,rfl,hrd4,hc4,hb4⟩
     have HB34:=Lib.hid (HBA.out.trans (hb4.mono HBA.out.size)); have HNB4:=Lib.hid (HNB3.out.below HB34.out HNB3.out.lt); have HRD4:=Lib.hid hrd4; have HV4:=Lib.hid (HRD3.out.from HB34.out); clear hb4 hrd4 hc4)
  | ((with_reducible refine g_copy ?_); refine wpList_copyN rfl _ _ _ _ rfl 63 Tryz.underlying145 size_u32 (L:=List.replicate la1 0) (l:=dig B32 X) rfl rfl List.length_replicate.symm rfl (by rw [List.length_replicate]; exact HXL.out) HXP.out HNB4.out HRD4.out ?_; intro w5 hnb5 hgr5
     have HNB5:=Lib.hid hnb5; have HV5:=Lib.hid (Rd.apart HV4.out (apart_zero HNB4.out HV4.out HV0.out) hgr5); have HAP:=Lib.hid (apart_zero HNB4.out HV4.out HV0.out); have HB5:=Lib.hid ((HBW3.out.trans (HB34.out.mono HBW3.out.size)).grown hgr5 (Nat.le_trans HBW3.out.size HB34.out.size) (by intro q hq; injection hq with hq; rw [<- hq]; exact HG3.out)); clear hnb5 hgr5 HNB4 HV4 HRD4 HT)
  | (at_make; go_loud (refine wpList_make_N (n:=m1) rfl _ _ rfl Tryz.underlying145 info_u32 rfl rfl (by simp) (by simp) (by have:=HM1.out; omega) (by have:=HM1.out; unfold maxLen; omega) ?_); intro w6 hnb6 hb6 hlt6))
 have HNB6:=Lib.hid hnb6;have HLT6:=Lib.hid hlt6;have HNBL6:=Lib.hid (HNB5.out.below hb6 HNB5.out.lt);have HNE:Hid (g≠w5.heap.size):=by have:=HNB5.out.lt; unfold Hid; omega
 have HV6:=Lib.hid (HV5.out.from hb6);have HB6:=Lib.hid (HB5.out.trans (hb6.mono HB5.out.size));have HGQ:=Lib.hid HB5.out.size;have HAPQ:Hid (∀ q,A3=some q->q.block≠w5.heap.size):=by
  rintro q rfl e
  obtain⟨b,off,e1,hlt,_,_⟩:=HV5.out 0 _ (nums_get (k := .u32) (l:=dig B32 V) (i:=0) (dig_len_pos hB32 HV0.out));injection e1 with e1;rw [e1] at e;simp only at e;omega
 clear hnb6 hb6 hlt6;generalize w5.heap.size=gq at *
 obtain⟨L0,hL0⟩:∃ L0,L0=dig B32 X++List.drop (dig B32 X).length (List.replicate la1 0):=⟨_,rfl⟩
 rw [<- hL0] at HNBL6;have hstart:DivI X V n m m1 L0 (List.replicate m1 0):=by
  obtain⟨hV,hX,hla1,hm1⟩:=HVX.out;have hl1:(dig B32 X).length<=la1:=HXL.out;rw [hm1];refine DivI.start (x:=x) (y:=y) (s:=s) (by rw [<- HLA.out,HM.out]) HNY.out.symm (by have:=HK.out; omega) hs0 hs1 hX hV ?_ ?_ ?_
  . rw [hL0,List.length_append,List.length_drop,List.length_replicate];have:=HM.out;omega
  . rw [hL0];exact (Digs.dig hB32 X).append ((Digs.zeros (by decide) _).drop _)
  . rw [hL0,List.drop_replicate,valB_append,valB_replicate,Nat.mul_zero,Nat.add_zero,val_dig hB32]
 have HSTART:=Lib.hid hstart;have HM2:Hid (m1=m+1/\la1=m+n+1):=by
  obtain⟨hV,hX,hla1,hm1⟩:=HVX.out;have:=HM.out;unfold Hid;omega
 have HBS:Hid (n<=la1/\0<n/\n<=1000):=by have:=HM2.out; have:=HK.out; have:=HB0.out; unfold Hid; omega
 have hnla:(n:Int)<=(la1:Int):=by have:=HBS.out; omega
 clear hL0 hstart HLD HD HC HBA HBW3 HNB3 HRD3 HXL HXP HB34 HNB5 HB5 HV5 hb0
 go_loopw [13] (fun jv wr=>∃ (j:Nat) (z:Int) (L Q:List Nat),jv = .int .i64 z/\z=(j:Int) - 1/\j<=m1/\DivI X V n m j L Q/\NB wr g 63 .u32 L/\NB wr gq 63 .u32 Q/\Below w.heap.size w wr/\gq<wr.heap.size/\Rd32 wr A3 V) (fun jv _=>(intOf jv+1).toNat)
 case atStart=>exact⟨m1,m,L0,_,rfl,by have:=HM2.out; omega,Nat.le_refl _,HSTART.out,HNBL6.out,HNB6.out,HB6.out,HLT6.out,HV6.out⟩
 case round =>
  clear HSTART HNBL6 HNB6 HB6 HLT6 HV6;obtain⟨j',z,L,Q,rfl,hz,hj,hdi,hnbL,hnbQ,hbr,hlt,hrdV⟩:=hrel;have HDI:=Lib.hid hdi;have HNBL:=Lib.hid hnbL;have HNBQ:=Lib.hid hnbQ;have HBR:=Lib.hid hbr;have HLT:=Lib.hid hlt;have HRV:=Lib.hid hrdV;clear hdi hnbL hnbQ hbr hlt hrdV;by_cases hj0:j'=0
  . subst hj0;have hzn:¬ (0:Int)<=z:=by omega
    have HQL:Hid (Q.length=m1):=by have:=HDI.out.q; have:=HM2.out; unfold Hid; omega
    have HLN:Hid ((L.take n).length=n):=by have:=HDI.out.l; have:=HBS.out; unfold Hid; rw [List.length_take]; omega
    have HS:=Lib.hid (frac_small g la1 n s (L.take n) HLN.out.symm wr (HNBL.out.nbx n) (HDI.out.dl.take n) (by rw [HLN.out]; exact HBS.out.2.2) hs0 hs1);have HT1:=Lib.hid (fun (w1:World) (hnb:NB w1 gq 63 .u32 Q)=>frac_trim (some ⟨gq,0,none⟩) m1 m1 Q HQL.out.symm w1 hnb.rd0 HDI.out.dq (by rw [HQL.out]; have:=HM1.out; omega) (by rw [HQL.out]; exact Nat.le_refl _));have HT2:=Lib.hid (fun (w1:World) (o:List Nat) (ho:n=o.length) (hrd:Rd w1 w1.heap.size 1 (some ⟨g,0,none⟩) (nums .u32 o))=>clone_nums g 0 la1 n o ho w1 hrd (by rw [<- ho]; exact HBS.out.2.2));have HT3:=Lib.hid (fun (w1:World) (A8:Option Addr) (c8:Nat) (o:List Nat) (ho:n=o.length) (hod:Digs B32 o) (hc:n<=c8) (hrd:Rd w1 w1.heap.size 1 A8 (nums .u32 o))=>frac_trim A8 c8 n o ho w1 hrd hod (by rw [<- ho]; have:=HBS.out; omega) (by rw [<- ho]; exact hc));clear hz hj
    go_wp2_with (first
     | (go_at_call 187; refine (HS.out).mono ?_; rintro e w7 ⟨o,rfl,hol,hod,hov,hnb7,hgr7⟩
        have HOL:Hid (n=o.length):=by unfold Hid; rw [hol,HLN.out]
        have HOD:=Lib.hid hod; have HOV:=Lib.hid hov; have HNB7:=Lib.hid hnb7; have HQ7:=Lib.hid (HNBQ.out.keep (hgr7.block gq HLT.out (fun e=>by injection e with e; exact HNE.out e.symm)));have HB7:=Lib.hid (HBR.out.grown hgr7 (Nat.le_trans HGQ.out (Nat.le_of_lt HLT.out)) (by intro q hq; injection hq with hq; rw [<- hq]; exact HG3.out)); clear hol hod hov hnb7 hgr7 HS)
     | (go_at_call 185; refine (HT2.out _ o HOL.out HNB7.out.rd).mono ?_; rintro e w8 ⟨A8,c8,rfl,hown8,hc8,hb8⟩; have HRD8:=Lib.hid hown8.rd; have HC8:=Lib.hid hc8; have HB8:=Lib.hid hb8; clear hown8 hc8 hb8)
     | (go_at_call 128; refine (HT3.out _ A8 c8 o HOL.out HOD.out HC8.out HRD8.out).mono ?_; rintro e w9 ⟨rfl,rfl⟩)
     | (go_at_call 128; refine (HT1.out _ HQ7.out).mono ?_; rintro e w9 ⟨rfl,rfl⟩))
    go_ret2
    unfold DivPost;obtain⟨hV,hX,hla1,hm1⟩:=HVX.out;have hdi:=HDI.out;rw [hV,hX] at hdi;obtain⟨q1,q2,q3⟩:=hdi.done hs0 (by rw [<- hV]; exact HLV2.out);have hov:valB B32 o=x % y:=by rw [HOV.out,q2,q3]
    have hq8:=HQ7.out.below HB8.out HQ7.out.lt;have hrdq:=rd_trim hB32 hq8.rd0 HDI.out.dq;have hrdr:=rd_trim hB32 HRD8.out HOD.out;have hlq:=dig_len_le hB32 (valB_lt Q HDI.out.dq);have hlr:=dig_len_le hB32 (valB_lt o HOD.out);rw [q1] at hrdq hlq;rw [hov] at hrdr hlr;rw [q1,hov];exact⟨some ⟨gq,0,none⟩,m1,A8,c8,rfl,hrdq,hrdr,by rw [<- HQL.out]; exact hlq,Nat.le_trans hlr (by rw [<- HOL.out]; exact HC8.out),HB7.out.trans (HB8.out.mono HB7.out.size)⟩
  . obtain⟨j,rfl⟩:∃ j,j'=j+1:=⟨j' - 1,by omega⟩
    obtain rfl:z=(j:Int):=by omega
    have hjm:j<=m:=by have:=HM2.out; omega
    obtain⟨hsp1,hsp2,hsp3⟩:=HDI.out.split HLV2.out hjm;have hLl:L.length=la1:=by rw [HDI.out.l,HM2.out.2]
    have hnk:=HK.out;have hm2:=HM2.out;have hbs:=HBS.out;have hm1':=HM1.out;obtain⟨u,hu⟩:∃ u,u=winD L j n:=⟨_,rfl⟩
    have hul:u.length=n+1:=by rw [hu]; exact List.length_take_of_le (by rw [List.length_drop]; omega)
    have hud:Digs B32 u:=by rw [hu]; exact (HDI.out.dl.drop j).take _
    obtain⟨jn,hjn⟩:∃ jn,jn=j+n:=⟨_,rfl⟩
    obtain⟨jk,hjk⟩:∃ jk,jk=j+k:=⟨_,rfl⟩
    obtain⟨a1,ha1⟩:∃ a1,a1=u.getD n 0:=⟨_,rfl⟩
    obtain⟨a0,ha0⟩:∃ a0,a0=u.getD k 0:=⟨_,rfl⟩
    have ha1b:a1<4294967296:=by rw [ha1]; exact hud.getD (by decide) n
    have ha0b:a0<4294967296:=by rw [ha0]; exact hud.getD (by decide) k
    have c1:wr.drew.cell? ⟨g,jn,none⟩=some (.int .u32 (a1:Int)):=by
     rw [ha1,hu,winD_get (Nat.le_refl _),hjn];exact HNBL.out.cell (by omega)
    have c0:wr.drew.cell? ⟨g,jk,none⟩=some (.int .u32 (a0:Int)):=by
     rw [ha0,hu,winD_get (by omega),hjk];exact HNBL.out.cell (by omega)
    have w12':IntKind.i64.wrap ((j:Int)+(n:Int))=(jn:Int):=by rw [wrap_i64 (by omega) (by omega)]; omega
    have w13':IntKind.i64.wrap ((jn:Int) - 1)=(jk:Int):=by rw [wrap_i64 (by omega) (by omega)]; omega
    have w14':=wrap_u64 (n:=(a1:Int)) (by omega) (by omega);have w15':=wrap_u64 (n:=(a0:Int)) (by omega) (by omega);have w16':=wrap_shl32 ha1b;have hor:=or32 ha1b ha0b;obtain⟨top,htop⟩:∃ top,top=a1*4294967296+a0:=⟨_,rfl⟩
    rw [<- htop] at hor;have b1:(jn:Int)<(la1:Int):=by omega
    have b2:(jk:Int)<(la1:Int):=by omega
    have hmo:Tryz.prog.follows .mixedOrders=true:=by kernel_rfl
    -- the divisor's highest digit
    obtain⟨vt,hvt⟩:∃ vt,vt=(dig B32 V).getD k 0:=⟨_,rfl⟩
    have hvt0:vt≠0:=by rw [hvt]; exact top_ne (by rw [HLV2.out,hnk])
    have hvtb:vt<4294967296:=by rw [hvt]; exact (Digs.dig hB32 V).getD (by decide) k
    have hkV:k<(dig B32 V).length:=by show k<len32 V; rw [HLV2.out]; omega
    obtain⟨b3,o3,rfl,hb3,hld3⟩:=num_ld Tryz.underlying63 rfl HRV.out hkV;have HLD3:=Lib.hid (fun (w1:World) (hb:Below wr.heap.size wr w1)=>by
     have h1:=hld3 w1 hb;have e:(dig B32 V)[k]'hkV=vt:=by rw [hvt]; simp [hkV]
     rw [e] at h1;exact h1)
    have w17':=wrap_u64 (n:=(vt:Int)) (by omega) (by omega);obtain⟨tq,htq⟩:∃ tq,tq=top / vt:=⟨_,rfl⟩
    have htqi:(top:Int) / (vt:Int)=(tq:Int):=by rw [htq]; exact (Int.natCast_ediv top vt).symm
    have hvti:¬ ((vt:Int)=0):=by omega
    have w20':IntKind.u64.wrap (tq:Int)=(tq:Int):=by
     refine wrap_u64 (by omega) ?_;have h1:tq<=top:=by rw [htq]; exact Nat.div_le_self _ _
     omega
    obtain⟨gu,hgu⟩:∃ gu,gu=min tq 4294967295:=⟨_,rfl⟩
    have hgui:(if (4294967295:Int)<(tq:Int) then (4294967295:Int) else (tq:Int))=(gu:Int):=by rw [hgu]; split<;>omega
    have hgub:gu<=4294967295:=by omega
    have hge:Hid (valB B32 u / V<=gu):=by
     refine guess_start (vt:=vt) hud hul HLV2.out hbs.2.1 (by rw [hvt,hnk,Nat.add_sub_cancel]) (by rw [hu]; exact hsp3) ?_;have e:n - 1=k:=by omega
     rw [hgu,htq,htop,ha1,ha0,e]
    have hzj:(0:Int)<=(j:Int):=by omega
    clear hz hj hj0 hsp1 hsp2 hsp3 hLl hnk hm2 hbs hm1' hul ha1 ha0 htop hvt hkV hld3 htq hgu hvt0;have HU:=Lib.hid hu;have HUD:=Lib.hid hud;have HJM:=Lib.hid hjm;have HJN:=Lib.hid hjn;have HJK:=Lib.hid hjk;clear hu hud hjm hjn hjk;have f1:=fun i=>HNBL.out.frozen i;have HQ:Hid (∀ i,wr.drew.frozen? ⟨g,i,none⟩=false):=f1;have fz1:=HQ.out jn;have fz0:=HQ.out jk;clear f1 HQ
    go_wp2
    go_region
    have hdr:Below wr.heap.size wr wr.drew:=(Below.refl _ _).drew;have HNBL1:=Lib.hid (HNBL.out.below hdr HNBL.out.lt);have HNBQ1:=Lib.hid (HNBQ.out.below hdr HNBQ.out.lt);have HBR1:=Lib.hid (HBR.out.trans (hdr.mono HBR.out.size));have HLT1:Hid (gq<wr.drew.heap.size):=Nat.lt_of_lt_of_le HLT.out hdr.size;have HRV1:=Lib.hid (HRV.out.from hdr);have HLD4:=Lib.hid (fun (w1:World) (hb:Below wr.drew.heap.size wr.drew w1)=>HLD3.out w1 (hdr.trans (hb.mono hdr.size)));clear HNBL HNBQ HBR HLT HRV HLD3 hdr c1 c0 fz1 fz0 hb3;generalize wr.drew=W at *
    clear w12' w13' w14' w15' w16' hor b1 b2 hmo ha1b ha0b;have w18':IntKind.i64.wrap ((j:Int)+(n:Int))=(jn:Int):=by have:=HJN.out; have:=HBS.out; have:=HJM.out; have:=HM2.out; have:=HM1.out; rw [wrap_i64 (by omega) (by omega)]; omega
    obtain⟨jn1,hjn1⟩:∃ jn1,jn1=jn+1:=⟨_,rfl⟩
    have w19':IntKind.i64.wrap ((jn:Int)+1)=(jn1:Int):=by have:=HJN.out; have:=HBS.out; have:=HJM.out; have:=HM2.out; have:=HM1.out; rw [wrap_i64 (by omega) (by omega)]; omega
    have hjl1:(jn1:Int)<=(la1:Int):=by have:=HJN.out; have:=HBS.out; have:=HJM.out; have:=HM2.out; omega
    have hjl2:(j:Int)<=(jn1:Int):=by have:=HJN.out; omega
    have hjl3:(j:Int)<(la1:Int):=by have:=HJN.out; have:=HBS.out; have:=HJM.out; have:=HM2.out; omega
    have hjl4:j<la1:=by omega
    have HJN1:=Lib.hid hjn1;clear hjn1;have hjL:j+(n+1)<=L.length:=by have:=HDI.out.l; have:=HJM.out; omega
    have HTK:Hid (Calls Tryz.prog 188 #[.slice (some ⟨g,j,none⟩) (jn1 - j) (la1 - j),.slice (some ⟨b3,o3,none⟩) n c3,.int .u64 (gu:Int)] W fun e w'=>∃ (o:List Nat) (c:Nat),e = .returned (.bool (decide (0<c)))/\c<=1/\o.length=n+1/\Digs B32 o/\NB w' g 63 .u32 (L.take j++o++L.drop (j+(n+1)))/\W.grownBy w' (some g)/\valB B32 o+gu*V=valB B32 u+B32^(n+1)*c):=by
     have e:jn1 - j=n+1:=by have:=HJN.out; have:=HJN1.out; omega
     rw [e,HU.out];exact frac_take g j (n+1) (la1 - j) c3 V n gu (some ⟨b3,o3,none⟩) L HLV2.out.symm W HNBL1.out HDI.out.dl hjL (by have:=HBS.out; have:=HB0.out; have:=HK.out; omega) HRV1.out HAP.out (by rw [HLV2.out]; omega) (by omega)
    have HGV:Hid (∀ (o:List Nat) (w1:World),o.length=n+1->Digs B32 o->NB w1 g 63 .u32 (L.take j++o++L.drop (j+(n+1)))->Rd32 w1 (some ⟨b3,o3,none⟩) V->Calls Tryz.prog 189 #[.slice (some ⟨g,j,none⟩) (jn1 - j) (la1 - j),.slice (some ⟨b3,o3,none⟩) n c3] w1 fun e w'=>∃ (o':List Nat) (c:Nat),e = .returned (.bool (decide (0<c)))/\c<=1/\o'.length=n+1/\Digs B32 o'/\NB w' g 63 .u32 (L.take j++o'++L.drop (j+(n+1)))/\w1.grownBy w' (some g)/\valB B32 o'+B32^(n+1)*c=valB B32 o+V):=by
     intro o w1 ho hod hnb hrd;have e:jn1 - j=n+1:=by have:=HJN.out; have:=HJN1.out; omega
     obtain⟨e1,e2,e3⟩:=seg_parts (L:=L) (j:=j) ho (by omega);have h1:=frac_give g j (n+1) (la1 - j) c3 V n (some ⟨b3,o3,none⟩) (L.take j++o++L.drop (j+(n+1))) HLV2.out.symm w1 hnb (((HDI.out.dl.take j).append hod).append (HDI.out.dl.drop _)) (by rw [seg_len ho hjL]; exact hjL) (by have:=HBS.out; have:=HB0.out; have:=HK.out; omega) hrd HAP.out (by rw [HLV2.out]; omega);rw [e1,e2,e3] at h1;rw [e];exact h1
    clear hjL
    go_wp2_with (first
     | ((with_reducible refine g_ld 63 ?_); refine wpList_ld rfl _ _ rfl _ rfl _ (HLD4.out _ (Below.refl _ _)) ?_)
     | (go_at_call 188; refine (HTK.out).mono ?_; rintro e w7 ⟨o,c,rfl,hc1,hol,hod,hnb7,hgr7,hov⟩
        have HNB7:=Lib.hid hnb7; have HQ7:=Lib.hid (HNBQ1.out.keep (hgr7.block gq HLT1.out (fun e=>by injection e with e; exact HNE.out e.symm)));have HB7:=Lib.hid (HBR1.out.grown hgr7 (Nat.le_trans HGQ.out (Nat.le_of_lt HLT1.out)) (by intro q hq; injection hq with hq; rw [<- hq]; exact HG3.out));have HL7:=Lib.hid (Nat.lt_of_lt_of_le HLT1.out hgr7.size); have HV7:=Lib.hid (Rd.apart HRV1.out HAP.out hgr7);have HOS:=Lib.hid (And.intro hol (And.intro hod (GuessI.taken (V:=V) (n:=n) (Nat.pos_of_ne_zero HV0.out) hge.out hc1 hol hod hov))); clear hc1 hol hod hnb7 hgr7 hov HTK HNBL1 HNBQ1 HBR1 HLT1 HRV1 HLD4 hge))
    go_loopw [15,16] (fun gv ov w2=>∃ (g2:Nat) (owed:Bool) (o:List Nat),gv = .int .u64 g2/\ov = .bool owed/\g2<=4294967295/\(o.length=n+1/\Digs B32 o/\GuessI V (valB B32 u) n g2 owed o)/\NB w2 g 63 .u32 (L.take j++o++L.drop (j+(n+1)))/\NB w2 gq 63 .u32 Q/\Below w.heap.size w w2/\gq<w2.heap.size/\Rd32 w2 (some ⟨b3,o3,none⟩) V) (fun gv _ _=>(intOf gv).toNat)
    case atStart=>exact⟨gu,_,o,rfl,by first|rfl|simp,hgub,HOS.out,HNB7.out,HQ7.out,HB7.out,HL7.out,HV7.out⟩
    case round =>
     clear HOS HNB7 HQ7 HB7 HL7 HV7 hgub;obtain⟨g2,owed,o,rfl,rfl,hg2,hoi,hnb,hnq,hb,hl,hv⟩:=hrel;have HOI:=Lib.hid hoi;have HNB7:=Lib.hid hnb;have HQ7:=Lib.hid hnq;have HB7:=Lib.hid hb;have HL7:=Lib.hid hl;have HV7:=Lib.hid hv;clear hoi hnb hnq hb hl hv
     cases owed with
     | true =>
      obtain⟨g3,rfl⟩:∃ g3,g2=g3+1:=⟨g2 - 1,by have:=Nat.lt_of_le_of_lt (Nat.zero_le _) (HOI.out.2.2.1 rfl).2; omega⟩
      have w21':IntKind.u64.wrap (((g3+1:Nat):Int) - 1)=(g3:Int):=by rw [wrap_u64 (by omega) (by omega)]; omega
      have w22':IntKind.u64.wrap ((g3:Int)+1 - 1)=(g3:Int):=by rw [wrap_u64 (by omega) (by omega)]; omega
      have w23':IntKind.u64.wrap (g3:Int)=(g3:Int):=by rw [wrap_u64 (by omega) (by omega)]
      have HG:=Lib.hid (HGV.out o _ HOI.out.1 HOI.out.2.1 HNB7.out HV7.out)
      go_wp2_with (first
       | (go_at_call 189; refine (HG.out).mono ?_; rintro e w8 ⟨o8,c8,rfl,hc8,hol8,hod8,hnb8,hgr8,hov8⟩
          have HNB8:=Lib.hid hnb8; have HQ8:=Lib.hid (HQ7.out.keep (hgr8.block gq HL7.out (fun e=>by injection e with e; exact HNE.out e.symm)));have HB8:=Lib.hid (HB7.out.grown hgr8 (Nat.le_trans HGQ.out (Nat.le_of_lt HL7.out)) (by intro q hq; injection hq with hq; rw [<- hq]; exact HG3.out));have HL8:=Lib.hid (Nat.lt_of_lt_of_le HL7.out hgr8.size); have HV8:=Lib.hid (Rd.apart HV7.out HAP.out hgr8);have HOS8:=Lib.hid (And.intro hol8 (And.intro hod8 (GuessI.given (V:=V) (n:=n) (Nat.pos_of_ne_zero HV0.out) HOI.out.2.2 hc8 hol8 hod8 hov8))); clear hc8 hol8 hod8 hnb8 hgr8 hov8 HG HOI HNB7 HQ7 HB7 HL7 HV7))
      go_roundw
      case rel=>exact⟨g3,_,o8,by first|rfl|simp,by first|rfl|simp,by omega,HOS8.out,HNB8.out,HQ8.out,HB8.out,HL8.out,HV8.out⟩
      case measure=>simp [intOf]
     | false =>
      clear HGV;have w24':IntKind.u32.wrap (g2:Int)=(g2:Int):=by rw [wrap_u32,Nat.mod_eq_of_lt (by omega)]
      have hjm1:(j:Int)<(m1:Int):=by have:=HJM.out; have:=HM2.out; omega
      have hQl:j<Q.length:=by have:=HJM.out; have:=HDI.out.q; omega
      have w25':IntKind.i64.wrap ((j:Int) - 1)=(j:Int) - 1:=by have:=HM1.out; rw [wrap_i64 (by omega) (by omega)]
      go_wp2_with (first
       | ((with_reducible refine g_st 63 ?_); refine wpList_set rfl _ _ rfl rfl rfl rfl size_u32 HQ7.out hQl ?_; intro w8 hnb8 hgr8
          have HQ8:=Lib.hid hnb8; have HNB8:=Lib.hid (HNB7.out.keep (hgr8.block g HNB7.out.lt (fun e=>by injection e with e; exact HNE.out e)));have HB8:=Lib.hid (HB7.out.grown hgr8 (Nat.le_trans HGQ.out (Nat.le_of_lt HL7.out)) (by intro q hq; injection hq with hq; rw [<- hq]; exact HGQ.out));have HL8:=Lib.hid (Nat.lt_of_lt_of_le HL7.out hgr8.size); have HV8:=Lib.hid (Rd.apart HV7.out HAPQ.out hgr8); clear hnb8 hgr8))
      go_roundw
      case rel =>
       obtain⟨q1,q2⟩:=HOI.out.2.2.2 rfl;rw [HU.out] at q1 q2;have hst:=HDI.out.step HLV2.out HJM.out (Nat.pos_of_ne_zero HV0.out) HOI.out.1 HOI.out.2.1 q2;rw [<- q1] at hst;exact⟨j,(j:Int) - 1,_,_,rfl,rfl,by have:=HJM.out; have:=HM2.out; omega,hst,HNB8.out,HQ8.out,HB8.out,HL8.out,HV8.out⟩
      case measure=>simp [intOf]
theorem frac_divide (A D:Option Addr) (ca cd x y n m:Nat) (hn:n=len32 x) (hm:m=len32 y) (w:World) (h:Rd32 w A x) (h':Rd32 w D y) (hx:len32 x<=900) (hy:len32 y<=900) (hy0:0<y) :
 Calls Tryz.prog 127 #[.slice A n ca,.slice D m cd] w (DivPost w x y):=by
 by_cases h1:x<y
 . exact divide_less A D ca cd x y n m hn hm w h h' (by omega) (by omega) h1
 . by_cases h2:len32 x<=2
   . exact divide_two A D ca cd x y n m hn hm w h h' h2 hy0 (by omega)
   . have h3:0<len32 y:=dig_len_pos hB32 (by omega);by_cases h4:len32 y=1
     . exact divide_one A D ca cd x y n m hn hm w h h' (by omega) (by omega) h4
     . exact divide_many A D ca cd x y n m hn hm w h h' hx (by omega) (by omega) (by omega)
def sliceNat (v:Value) (w:World):Nat:=match v with
 | .slice (some ⟨b,off,_⟩) n _=>valB B32 ((List.range n).map fun i=>match w.cell? ⟨b,off+i,none⟩ with|some (.int _ z)=>z.toNat|_=>0)
 | _=>0
theorem sliceNat_rd {w:World} {A:Option Addr} {c y:Nat} (h:Rd32 w A y):sliceNat (.slice A (len32 y) c) w=y:=by
 by_cases h0:0<(dig B32 y).length
 . obtain⟨b,off,rfl,hb,_,_⟩:=h 0 _ (nums_get h0);have e:((List.range (len32 y)).map fun i=>match w.cell? ⟨b,off+i,none⟩ with|some (.int _ z)=>z.toNat|_=>0)=dig B32 y:=by
    apply List.ext_getElem
    . simp
    . intro i h1 h2;obtain⟨b',off',e,hb',_,hc⟩:=h i _ (nums_get h2);injection e with e;injection e with e1 e2;subst e1; subst e2;have h3:=hc 0 _ rfl;simp only [Nat.mul_one,Nat.add_zero] at h3;simp [h3]
   show valB B32 _=y
   rw [e,val_dig hB32]
 . have h1:y=0:=by
    rcases Nat.eq_zero_or_pos y with h2|h2
    . exact h2
    . exact absurd (dig_len_pos hB32 (n:=y) (by omega)) h0
   subst h1
   cases A with
   | none=>rfl
   | some q=>rfl
set_option maxRecDepth 100000 in
set_option maxHeartbeats 4000000 in
theorem frac_common (A D:Option Addr) (ca cd x y n m:Nat) (hn:n=len32 x) (hm:m=len32 y) (w:World) (h:Rd32 w A x) (h':Rd32 w D y) (hx:len32 x<=900) (hy:len32 y<=900) :
 Calls Tryz.prog 125 #[.slice A n ca,.slice D m cd] w fun e w'=>∃ A' c',e = .returned (.slice A' (len32 (Nat.gcd x y)) c')/\Rd32 w' A' (Nat.gcd x y)/\Below w.heap.size w w':=by
 obtain⟨gc,hgc⟩:∃ gc,gc=Nat.gcd x y:=⟨_,rfl⟩
 have HST:Hid ((n=len32 x/\m=len32 y/\Rd32 w A x/\Rd32 w D y/\Nat.gcd x y=gc/\len32 x<=900/\len32 y<=900)):=⟨hn,hm,h,h',hgc.symm,hx,hy⟩
 rw [<- hgc];clear h h' hx hy hn hm hgc
 go_enter Tryz.func125,Tryz.ntmps125
 go_wp2
 go_loopw [0,1] (fun av bv wr=>∃ (A' D':Option Addr) (ca' cd' x' y' n' m':Nat),av = .slice A' n' ca'/\bv = .slice D' m' cd'/\(n'=len32 x'/\m'=len32 y'/\Rd32 wr A' x'/\Rd32 wr D' y'/\Nat.gcd x' y'=gc/\len32 x'<=900/\len32 y'<=900)/\Below w.heap.size w wr) (fun _ bv wr=>sliceNat bv wr)
 case atStart=>exact⟨A,D,ca,cd,x,y,n,m,rfl,rfl,HST.out,Below.refl _ _⟩
 case round =>
  clear HST;obtain⟨A',D',ca',cd',x',y',n',m',rfl,rfl,hst,hb⟩:=hrel;have HST:=Lib.hid hst;have HB:=Lib.hid hb;clear hst hb;by_cases hm0:m'=0
  . subst hm0
    go_wp2
    go_ret
    obtain⟨hn',hm',hr1,hr2,hg,_,_⟩:=HST.out;have hy0:y'=0:=by
     rcases Nat.eq_zero_or_pos y' with h2|h2
     . exact h2
     . have:0<len32 y':=dig_len_pos hB32 (by omega);omega
    rw [hy0,Nat.gcd_zero_right] at hg;rw [<- hg];exact⟨A',ca',by rw [hn']; rfl,hr1,HB.out⟩
  . have hm1:(0:Int)<(m':Int):=by omega
    have hy0:0<y':=by
     rcases Nat.eq_zero_or_pos y' with h2|h2
     . subst h2;exact absurd HST.out.2.1 hm0
     . exact h2
    have HD:=Lib.hid (frac_divide A' D' ca' cd' x' y' n' m' HST.out.1 HST.out.2.1 wr HST.out.2.2.1 HST.out.2.2.2.1 HST.out.2.2.2.2.2.1 HST.out.2.2.2.2.2.2 hy0)
    go_wp2_with (go_at_call 127; refine (HD.out).mono ?_; rintro e w2 ⟨A1,c1,A2,c2,rfl,hr1,hr2,hl1,hl2,hb2⟩; have HR2:=Lib.hid hr2; have HB2:=Lib.hid hb2; clear hr1 hr2 hl1 hl2 hb2 HD)
    go_roundw
    case rel =>
     obtain⟨hn',hm',hr1,hr2,hg,hl1,hl2⟩:=HST.out;refine⟨D',A2,cd',c2,y',x' % y',m',_,rfl,rfl,⟨hm',rfl,hr2.from HB2.out,HR2.out,?_,hl2,?_⟩,HB.out.trans (HB2.out.mono HB.out.size)⟩
     . rw [<- hg,Nat.gcd_comm y',<- Nat.gcd_rec,Nat.gcd_comm]
     . exact Nat.le_trans (dig_len_le hB32 (Nat.lt_of_lt_of_le (Nat.mod_lt _ hy0) (Nat.le_of_lt (lt_of_dig_len hB32 (Nat.le_refl _))))) hl2
    case measure =>
     obtain⟨hn',hm',hr1,hr2,hg,hl1,hl2⟩:=HST.out;rw [hm',sliceNat_rd HR2.out,sliceNat_rd hr2];exact Nat.mod_lt _ hy0
def FitPost (w:World) (r:FracV×Int) (e:Ending) (w':World):Prop:=e = .returned (.tuple #[r.1.val,.int .i64 r.2])/\Below w.heap.size w w'
theorem len_top (x:Nat):x<top256↔len32 x<=8:=by
 rw [<- pow256];constructor
 . exact fun h=>dig_len_le hB32 h
 . exact fun h=>lt_of_dig_len hB32 h
theorem fitL_div {neg:Bool} {x y gc x1 y1:Nat} (hgc:gc=Nat.gcd x y) (hx1:x1=x / gc) (hy1:y1=y / gc):fitL neg x y=if x1<top256/\y1<top256 then (⟨neg&&decide (x1≠0),x1,y1⟩,0) else (zeroF,3):=by
 unfold fitL;rw [hx1,hy1,hgc]
set_option maxRecDepth 100000 in
set_option maxHeartbeats 8000000 in
theorem frac_fit (neg:Bool) (A D:Option Addr) (ca cd x y n m:Nat) (hn:n=len32 x) (hm:m=len32 y) (w:World) (h:Rd32 w A x) (h':Rd32 w D y) (hx:len32 x<=900) (hy:len32 y<=900) (hy0:0<y) :
 Calls Tryz.prog 62 #[.bool neg,.slice A n ca,.slice D m cd] w (FitPost w (fitL neg x y)):=by
 obtain⟨gc,hgc⟩:∃ gc,gc=Nat.gcd x y:=⟨_,rfl⟩
 obtain⟨gl,hgl0⟩:∃ gl,gl=len32 gc:=⟨_,rfl⟩
 have hg0:0<gc:=by rw [hgc]; exact Nat.gcd_pos_of_pos_right _ hy0
 have hgy:gc<=y:=by rw [hgc]; exact Nat.le_of_dvd hy0 (Nat.gcd_dvd_right x y)
 have hgl:len32 gc<=900:=Nat.le_trans (dig_len_le hB32 (Nat.lt_of_le_of_lt hgy (lt_of_dig_len hB32 (Nat.le_refl _)))) hy;have hfb0:=FB.new w zeroF;have hb0:Below w.heap.size w (w.alloc (.cells zeroF.cells.toArray 66)):=(Below.refl _ _).alloc (Nat.le_refl _) _;have HC:=Lib.hid (frac_common A D ca cd x y n m hn hm _ (h.from hb0) (h'.from hb0) hx hy);rw [<- hgc,<- hgl0] at HC;have HFB0:=Lib.hid hfb0;have HB0:=Lib.hid hb0;have HX:=Lib.hid (fun w1 (hb:From w w1)=>h.from hb);have HY:=Lib.hid (fun w1 (hb:From w w1)=>h'.from hb);have HLX:=Lib.hid (And.intro hx (And.intro hy (And.intro hn (And.intro hm (And.intro hgl (And.intro hgl0 (And.intro hgc (And.intro hg0 hy0))))))));clear hfb0 hb0 h h' hx hy hgy hgl hgl0 hn hm hy0 hgc;by_cases hg1:gc=1
 . have hd1:decide (gc=1)=true:=by rw [hg1]; rfl
   have HO:=Lib.hid (fun (G:Option Addr) (cg:Nat) (w1:World) (hr:Rd32 w1 G gc)=>frac_one G cg gl gc HLX.out.2.2.2.2.2.1 w1 hr (by have:=HLX.out; omega));rw [hd1] at HO;have HFIT:=Lib.hid (fitL_div (neg:=neg) (x1:=x) (y1:=y) HLX.out.2.2.2.2.2.2.1 (by rw [hg1,Nat.div_one]) (by rw [hg1,Nat.div_one]));clear hd1 hg1 hg0
   go_enter Tryz.func62,Tryz.ntmps62
   go_upto_region 5 with (first
    | (go_at_call 125; refine (HC.out).mono ?_; rintro e w1 ⟨G,cg,rfl,hrdG,hb1⟩; have HB:=Lib.hid (HB0.out.trans (hb1.mono HB0.out.size)); have HFB:=Lib.hid (HFB0.out.below hb1 HFB0.out.lt); have HG:=Lib.hid hrdG; clear hrdG hb1 HC HB0 HFB0)
    | (go_at_call 126; refine (HO.out _ _ _ HG.out).mono ?_; rintro e w2 ⟨rfl,rfl⟩))
   have HX1:=Lib.hid (HX.out _ HB.out);have HY1:=Lib.hid (HY.out _ HB.out);have HN1:=Lib.hid HLX.out.2.2.1;have HM1:=Lib.hid HLX.out.2.2.2.1;clear HG HX HY HO;by_cases hx8:len32 x<=8
   . by_cases hy8:len32 y<=8
     . have HL8:=Lib.hid hx8;have HM8:=Lib.hid hy8;have c1:¬ (8:Int)<(n:Int):=by have:=HN1.out; omega
       have c2:¬ (8:Int)<(m:Int):=by have:=HM1.out; omega
       clear hx8 hy8
       cases neg with
       | false =>
        have HFB9:=Lib.hid (FB.new w2 zeroF);have HA9:Hid (From w2 (w2.alloc (.cells zeroF.cells.toArray 66))):=(Below.refl _ _).alloc (Nat.le_refl _) _
        go_wp2_with (first
         | ((with_reducible refine g_st 66 ?_); refine wpList_stF (f:=⟨false,0,0⟩) rfl _ _ rfl rfl rfl HFB9.out ?_; intro w5 hfb5 hgr5
            have C5:Hid (From w2 w5):=HA9.out.grown hgr5 HA9.out.size (by intro q hq; injection hq with hq; omega);have F5:=Lib.hid hfb5; clear hfb5 hgr5 HFB9)
         | ((with_reducible refine g_copy ?_); refine wpList_copyF rfl _ _ _ _ rfl 63 Tryz.underlying144 size_u32 ⟨false,0,0⟩ ⟨false,x,0⟩ rfl rfl HN1.out HL8.out (by decide) (num_cells _ _ _ HL8.out) F5.out (HX1.out.from C5.out) ?_; intro w6 hfb6 hgr6
            have C6:Hid (From w2 w6):=C5.out.grown hgr6 C5.out.size (by intro q hq; injection hq with hq; omega);have F6:=Lib.hid hfb6; clear hfb6 hgr6 F5)
         | ((with_reducible refine g_copy ?_); refine wpList_copyF rfl _ _ _ _ rfl 63 Tryz.underlying144 size_u32 ⟨false,x,0⟩ ⟨false,x,y⟩ rfl rfl HM1.out HM8.out (by decide) (den_cells _ _ _ HM8.out) F6.out (HY1.out.from C6.out) ?_; intro w7 hfb7 hgr7
            have C7:Hid (From w2 w7):=C6.out.grown hgr7 C6.out.size (by intro q hq; injection hq with hq; omega);have F7:=Lib.hid hfb7; have R7:=Lib.hid (HFB.out.below C7.out HFB.out.lt); clear hfb7 hgr7 F6)
         | ((with_reducible refine g_ld 66 ?_); refine wpList_ld rfl _ _ rfl _ rfl _ F7.out.ld ?_)
         | ((with_reducible refine g_st 66 ?_); refine wpList_stF (f:=⟨false,x,y⟩) rfl _ _ rfl rfl rfl R7.out ?_; intro w8 hfb8 hgr8))
        refine bodyPost_ret (results_frac_err rfl _ rfl hfb8) rfl ?_;refine⟨?_,(HB.out.trans (C7.out.mono HB.out.size)).grown hgr8 (Nat.le_trans HB.out.size C7.out.size) (by intro q hq; injection hq with hq; omega)⟩;rw [HFIT.out,if_pos ⟨(len_top _).2 HL8.out,(len_top _).2 HM8.out⟩];rfl
       | true =>
        by_cases hx0:x=0
        . have hn1:(n:Int)=0:=by rw [HN1.out,hx0]; rfl
          have HX0:=Lib.hid hx0;clear hx0;have HFB9:=Lib.hid (FB.new w2 zeroF);have HA9:Hid (From w2 (w2.alloc (.cells zeroF.cells.toArray 66))):=(Below.refl _ _).alloc (Nat.le_refl _) _
          go_wp2_with (first
           | ((with_reducible refine g_st 66 ?_); refine wpList_stF (f:=⟨false,0,0⟩) rfl _ _ rfl rfl rfl HFB9.out ?_; intro w5 hfb5 hgr5
              have C5:Hid (From w2 w5):=HA9.out.grown hgr5 HA9.out.size (by intro q hq; injection hq with hq; omega);have F5:=Lib.hid hfb5; clear hfb5 hgr5 HFB9)
           | ((with_reducible refine g_copy ?_); refine wpList_copyF rfl _ _ _ _ rfl 63 Tryz.underlying144 size_u32 ⟨false,0,0⟩ ⟨false,x,0⟩ rfl rfl HN1.out HL8.out (by decide) (num_cells _ _ _ HL8.out) F5.out (HX1.out.from C5.out) ?_; intro w6 hfb6 hgr6
              have C6:Hid (From w2 w6):=C5.out.grown hgr6 C5.out.size (by intro q hq; injection hq with hq; omega);have F6:=Lib.hid hfb6; clear hfb6 hgr6 F5)
           | ((with_reducible refine g_copy ?_); refine wpList_copyF rfl _ _ _ _ rfl 63 Tryz.underlying144 size_u32 ⟨false,x,0⟩ ⟨false,x,y⟩ rfl rfl HM1.out HM8.out (by decide) (den_cells _ _ _ HM8.out) F6.out (HY1.out.from C6.out) ?_; intro w7 hfb7 hgr7
              have C7:Hid (From w2 w7):=C6.out.grown hgr7 C6.out.size (by intro q hq; injection hq with hq; omega);have F7:=Lib.hid hfb7; have R7:=Lib.hid (HFB.out.below C7.out HFB.out.lt); clear hfb7 hgr7 F6)
           | ((with_reducible refine g_ld 66 ?_); refine wpList_ld rfl _ _ rfl _ rfl _ F7.out.ld ?_)
           | ((with_reducible refine g_st 66 ?_); refine wpList_stF (f:=⟨false,x,y⟩) rfl _ _ rfl rfl rfl R7.out ?_; intro w8 hfb8 hgr8))
          refine bodyPost_ret (results_frac_err rfl _ rfl hfb8) rfl ?_;refine⟨?_,(HB.out.trans (C7.out.mono HB.out.size)).grown hgr8 (Nat.le_trans HB.out.size C7.out.size) (by intro q hq; injection hq with hq; omega)⟩;rw [HFIT.out,if_pos ⟨(len_top _).2 HL8.out,(len_top _).2 HM8.out⟩];simp [HX0.out]
        . have hn1:(0:Int)<(n:Int):=by rw [HN1.out]; have:0<len32 x:=dig_len_pos hB32 hx0; omega
          have hn2:0<n:=by omega
          have HX0:=Lib.hid hx0;clear hx0;have HFB9:=Lib.hid (FB.new w2 zeroF);have HA9:Hid (From w2 (w2.alloc (.cells zeroF.cells.toArray 66))):=(Below.refl _ _).alloc (Nat.le_refl _) _
          go_wp2_with (first
           | ((with_reducible refine g_st 66 ?_); refine wpList_stF (f:=⟨true,0,0⟩) rfl _ _ rfl rfl rfl HFB9.out ?_; intro w5 hfb5 hgr5
              have C5:Hid (From w2 w5):=HA9.out.grown hgr5 HA9.out.size (by intro q hq; injection hq with hq; omega);have F5:=Lib.hid hfb5; clear hfb5 hgr5 HFB9)
           | ((with_reducible refine g_copy ?_); refine wpList_copyF rfl _ _ _ _ rfl 63 Tryz.underlying144 size_u32 ⟨true,0,0⟩ ⟨true,x,0⟩ rfl rfl HN1.out HL8.out (by decide) (num_cells _ _ _ HL8.out) F5.out (HX1.out.from C5.out) ?_; intro w6 hfb6 hgr6
              have C6:Hid (From w2 w6):=C5.out.grown hgr6 C5.out.size (by intro q hq; injection hq with hq; omega);have F6:=Lib.hid hfb6; clear hfb6 hgr6 F5)
           | ((with_reducible refine g_copy ?_); refine wpList_copyF rfl _ _ _ _ rfl 63 Tryz.underlying144 size_u32 ⟨true,x,0⟩ ⟨true,x,y⟩ rfl rfl HM1.out HM8.out (by decide) (den_cells _ _ _ HM8.out) F6.out (HY1.out.from C6.out) ?_; intro w7 hfb7 hgr7
              have C7:Hid (From w2 w7):=C6.out.grown hgr7 C6.out.size (by intro q hq; injection hq with hq; omega);have F7:=Lib.hid hfb7; have R7:=Lib.hid (HFB.out.below C7.out HFB.out.lt); clear hfb7 hgr7 F6)
           | ((with_reducible refine g_ld 66 ?_); refine wpList_ld rfl _ _ rfl _ rfl _ F7.out.ld ?_)
           | ((with_reducible refine g_st 66 ?_); refine wpList_stF (f:=⟨true,x,y⟩) rfl _ _ rfl rfl rfl R7.out ?_; intro w8 hfb8 hgr8))
          refine bodyPost_ret (results_frac_err rfl _ rfl hfb8) rfl ?_;refine⟨?_,(HB.out.trans (C7.out.mono HB.out.size)).grown hgr8 (Nat.le_trans HB.out.size C7.out.size) (by intro q hq; injection hq with hq; omega)⟩;rw [HFIT.out,if_pos ⟨(len_top _).2 HL8.out,(len_top _).2 HM8.out⟩];simp [HX0.out]
     . have c1:¬ (8:Int)<(n:Int):=by have:=HN1.out; omega
       have c2:(8:Int)<(m:Int):=by have:=HM1.out; omega
       have HE:=Lib.hid hy8;clear hx8 hy8
       go_wp2_with (first
        | ((with_reducible refine g_st 66 ?_); refine wpList_stF (f:=zeroF) rfl _ _ rfl rfl rfl HFB.out ?_; intro w5 hfb5 hgr5))
       refine bodyPost_ret (results_frac_err rfl _ rfl hfb5) rfl ?_;refine⟨?_,HB.out.grown hgr5 HB.out.size (by intro q hq; injection hq with hq; omega)⟩;rw [HFIT.out,if_neg (fun h=>HE.out ((len_top _).1 h.2))];rfl
   . have c1:(8:Int)<(n:Int):=by have:=HN1.out; omega
     have HE:=Lib.hid hx8;clear hx8
     go_wp2_with (first
      | ((with_reducible refine g_st 66 ?_); refine wpList_stF (f:=zeroF) rfl _ _ rfl rfl rfl HFB.out ?_; intro w5 hfb5 hgr5))
     refine bodyPost_ret (results_frac_err rfl _ rfl hfb5) rfl ?_;refine⟨?_,HB.out.grown hgr5 HB.out.size (by intro q hq; injection hq with hq; omega)⟩;rw [HFIT.out,if_neg (fun h=>HE.out ((len_top _).1 h.1))];rfl
 . have hd1:decide (gc=1)=false:=decide_eq_false hg1;have HO:=Lib.hid (fun (G:Option Addr) (cg:Nat) (w1:World) (hr:Rd32 w1 G gc)=>frac_one G cg gl gc HLX.out.2.2.2.2.2.1 w1 hr (by have:=HLX.out; omega));rw [hd1] at HO;obtain⟨x1,hx1⟩:∃ x1,x1=x / gc:=⟨_,rfl⟩
   obtain⟨y1,hy1⟩:∃ y1,y1=y / gc:=⟨_,rfl⟩
   obtain⟨n1,hn1⟩:∃ n1,n1=len32 x1:=⟨_,rfl⟩
   obtain⟨m1,hm1⟩:∃ m1,m1=len32 y1:=⟨_,rfl⟩
   have HFIT:=Lib.hid (fitL_div (neg:=neg) (x1:=x1) (y1:=y1) HLX.out.2.2.2.2.2.2.1 hx1 hy1);have HD1:Hid (∀ (G:Option Addr) (cg:Nat) (w1:World),From w w1->Rd32 w1 G gc->Calls Tryz.prog 127 #[.slice A n ca,.slice G gl cg] w1 fun e w'=>∃ A1 c1 A2 n2 c2,e = .returned (.tuple #[.slice A1 n1 c1,.slice A2 n2 c2])/\Rd32 w' A1 x1/\From w1 w'):=by
    intro G cg w1 hb hr;obtain⟨l1,l2,l3,l4,l5,l6,l7,l8,l9⟩:=HLX.out;refine (frac_divide A G ca cg x gc n gl l3 l6 w1 (HX.out w1 hb) hr l1 l5 l8).mono ?_
    rintro e w' ⟨A1,c1,A2,c2,rfl,hr1,hr2,hl1,hl2,hb2⟩
    rw [<- hx1] at hr1 ⊢;rw [<- hn1];exact⟨A1,c1,A2,_,c2,rfl,hr1,hb2⟩
   have HD2:Hid (∀ (G:Option Addr) (cg:Nat) (w1:World),From w w1->Rd32 w1 G gc->Calls Tryz.prog 127 #[.slice D m cd,.slice G gl cg] w1 fun e w'=>∃ A1 c1 A2 n2 c2,e = .returned (.tuple #[.slice A1 m1 c1,.slice A2 n2 c2])/\Rd32 w' A1 y1/\From w1 w'):=by
    intro G cg w1 hb hr;obtain⟨l1,l2,l3,l4,l5,l6,l7,l8,l9⟩:=HLX.out;refine (frac_divide D G cd cg y gc m gl l4 l6 w1 (HY.out w1 hb) hr l2 l5 l8).mono ?_
    rintro e w' ⟨A1,c1,A2,c2,rfl,hr1,hr2,hl1,hl2,hb2⟩
    rw [<- hy1] at hr1 ⊢;rw [<- hm1];exact⟨A1,c1,A2,_,c2,rfl,hr1,hb2⟩
   have HN1:=Lib.hid hn1;have HM1:=Lib.hid hm1;clear hd1 hg1 hg0 hn1 hm1 hx1 hy1
   go_enter Tryz.func62,Tryz.ntmps62
   go_upto_region 5 with (first
    | (go_at_call 125; refine (HC.out).mono ?_; rintro e w1 ⟨G,cg,rfl,hrdG,hb1⟩; have HB1:=Lib.hid (HB0.out.trans (hb1.mono HB0.out.size)); have HFB1:=Lib.hid (HFB0.out.below hb1 HFB0.out.lt); have HG:=Lib.hid hrdG; clear hrdG hb1 HC HB0 HFB0)
    | (go_at_call 126; refine (HO.out _ _ _ HG.out).mono ?_; rintro e w2 ⟨rfl,hw2⟩; subst hw2)
    | (go_at_call 127; refine (HD1.out _ _ _ HB1.out HG.out).mono ?_; rintro e w3 ⟨A3,c3,A4,n4,c4,rfl,hr3,hb3⟩; have HB3:=Lib.hid (HB1.out.trans (hb3.mono HB1.out.size)); have HFB3:=Lib.hid (HFB1.out.below hb3 HFB1.out.lt); have HG3:=Lib.hid (HG.out.from hb3); have HX3:=Lib.hid hr3; clear hr3 hb3 HB1 HFB1 HG HD1)
    | (go_at_call 127; refine (HD2.out _ _ _ HB3.out HG3.out).mono ?_; rintro e wz ⟨A5,c5,A6,n6,c6,rfl,hr5,hb5⟩; have HB:=Lib.hid (HB3.out.trans (hb5.mono HB3.out.size)); have HFB:=Lib.hid (HFB3.out.below hb5 HFB3.out.lt); have HX1:=Lib.hid (HX3.out.from hb5); have HY1:=Lib.hid hr5; clear hr5 hb5 HB3 HFB3 HG3 HX3 HD2))
   clear HX HY HO;by_cases hx8:len32 x1<=8
   . by_cases hy8:len32 y1<=8
     . have HL8:=Lib.hid hx8;have HM8:=Lib.hid hy8;have c1:¬ (8:Int)<(n1:Int):=by have:=HN1.out; omega
       have c2:¬ (8:Int)<(m1:Int):=by have:=HM1.out; omega
       clear hx8 hy8
       cases neg with
       | false =>
        have HFB9:=Lib.hid (FB.new wz zeroF);have HA9:Hid (From wz (wz.alloc (.cells zeroF.cells.toArray 66))):=(Below.refl _ _).alloc (Nat.le_refl _) _
        go_wp2_with (first
         | ((with_reducible refine g_st 66 ?_); refine wpList_stF (f:=⟨false,0,0⟩) rfl _ _ rfl rfl rfl HFB9.out ?_; intro w5 hfb5 hgr5
            have C5:Hid (From wz w5):=HA9.out.grown hgr5 HA9.out.size (by intro q hq; injection hq with hq; omega);have F5:=Lib.hid hfb5; clear hfb5 hgr5 HFB9)
         | ((with_reducible refine g_copy ?_); refine wpList_copyF rfl _ _ _ _ rfl 63 Tryz.underlying144 size_u32 ⟨false,0,0⟩ ⟨false,x1,0⟩ rfl rfl HN1.out HL8.out (by decide) (num_cells _ _ _ HL8.out) F5.out (HX1.out.from C5.out) ?_; intro w6 hfb6 hgr6
            have C6:Hid (From wz w6):=C5.out.grown hgr6 C5.out.size (by intro q hq; injection hq with hq; omega);have F6:=Lib.hid hfb6; clear hfb6 hgr6 F5)
         | ((with_reducible refine g_copy ?_); refine wpList_copyF rfl _ _ _ _ rfl 63 Tryz.underlying144 size_u32 ⟨false,x1,0⟩ ⟨false,x1,y1⟩ rfl rfl HM1.out HM8.out (by decide) (den_cells _ _ _ HM8.out) F6.out (HY1.out.from C6.out) ?_; intro w7 hfb7 hgr7
            have C7:Hid (From wz w7):=C6.out.grown hgr7 C6.out.size (by intro q hq; injection hq with hq; omega);have F7:=Lib.hid hfb7; have R7:=Lib.hid (HFB.out.below C7.out HFB.out.lt); clear hfb7 hgr7 F6)
         | ((with_reducible refine g_ld 66 ?_); refine wpList_ld rfl _ _ rfl _ rfl _ F7.out.ld ?_)
         | ((with_reducible refine g_st 66 ?_); refine wpList_stF (f:=⟨false,x1,y1⟩) rfl _ _ rfl rfl rfl R7.out ?_; intro w8 hfb8 hgr8))
        refine bodyPost_ret (results_frac_err rfl _ rfl hfb8) rfl ?_;refine⟨?_,(HB.out.trans (C7.out.mono HB.out.size)).grown hgr8 (Nat.le_trans HB.out.size C7.out.size) (by intro q hq; injection hq with hq; omega)⟩;rw [HFIT.out,if_pos ⟨(len_top _).2 HL8.out,(len_top _).2 HM8.out⟩];rfl
       | true =>
        by_cases hx0:x1=0
        . have hn1:(n1:Int)=0:=by rw [HN1.out,hx0]; rfl
          have HX0:=Lib.hid hx0;clear hx0;have HFB9:=Lib.hid (FB.new wz zeroF);have HA9:Hid (From wz (wz.alloc (.cells zeroF.cells.toArray 66))):=(Below.refl _ _).alloc (Nat.le_refl _) _
          go_wp2_with (first
           | ((with_reducible refine g_st 66 ?_); refine wpList_stF (f:=⟨false,0,0⟩) rfl _ _ rfl rfl rfl HFB9.out ?_; intro w5 hfb5 hgr5
              have C5:Hid (From wz w5):=HA9.out.grown hgr5 HA9.out.size (by intro q hq; injection hq with hq; omega);have F5:=Lib.hid hfb5; clear hfb5 hgr5 HFB9)
           | ((with_reducible refine g_copy ?_); refine wpList_copyF rfl _ _ _ _ rfl 63 Tryz.underlying144 size_u32 ⟨false,0,0⟩ ⟨false,x1,0⟩ rfl rfl HN1.out HL8.out (by decide) (num_cells _ _ _ HL8.out) F5.out (HX1.out.from C5.out) ?_; intro w6 hfb6 hgr6
              have C6:Hid (From wz w6):=C5.out.grown hgr6 C5.out.size (by intro q hq; injection hq with hq; omega);have F6:=Lib.hid hfb6; clear hfb6 hgr6 F5)
           | ((with_reducible refine g_copy ?_); refine wpList_copyF rfl _ _ _ _ rfl 63 Tryz.underlying144 size_u32 ⟨false,x1,0⟩ ⟨false,x1,y1⟩ rfl rfl HM1.out HM8.out (by decide) (den_cells _ _ _ HM8.out) F6.out (HY1.out.from C6.out) ?_; intro w7 hfb7 hgr7
              have C7:Hid (From wz w7):=C6.out.grown hgr7 C6.out.size (by intro q hq; injection hq with hq; omega);have F7:=Lib.hid hfb7; have R7:=Lib.hid (HFB.out.below C7.out HFB.out.lt); clear hfb7 hgr7 F6)
           | ((with_reducible refine g_ld 66 ?_); refine wpList_ld rfl _ _ rfl _ rfl _ F7.out.ld ?_)
           | ((with_reducible refine g_st 66 ?_); refine wpList_stF (f:=⟨false,x1,y1⟩) rfl _ _ rfl rfl rfl R7.out ?_; intro w8 hfb8 hgr8))
          refine bodyPost_ret (results_frac_err rfl _ rfl hfb8) rfl ?_;refine⟨?_,(HB.out.trans (C7.out.mono HB.out.size)).grown hgr8 (Nat.le_trans HB.out.size C7.out.size) (by intro q hq; injection hq with hq; omega)⟩;rw [HFIT.out,if_pos ⟨(len_top _).2 HL8.out,(len_top _).2 HM8.out⟩];simp [HX0.out]
        . have hn1:(0:Int)<(n1:Int):=by rw [HN1.out]; have:0<len32 x1:=dig_len_pos hB32 hx0; omega
          have hn2:0<n1:=by omega
          have HX0:=Lib.hid hx0;clear hx0;have HFB9:=Lib.hid (FB.new wz zeroF);have HA9:Hid (From wz (wz.alloc (.cells zeroF.cells.toArray 66))):=(Below.refl _ _).alloc (Nat.le_refl _) _
          go_wp2_with (first
           | ((with_reducible refine g_st 66 ?_); refine wpList_stF (f:=⟨true,0,0⟩) rfl _ _ rfl rfl rfl HFB9.out ?_; intro w5 hfb5 hgr5
              have C5:Hid (From wz w5):=HA9.out.grown hgr5 HA9.out.size (by intro q hq; injection hq with hq; omega);have F5:=Lib.hid hfb5; clear hfb5 hgr5 HFB9)
           | ((with_reducible refine g_copy ?_); refine wpList_copyF rfl _ _ _ _ rfl 63 Tryz.underlying144 size_u32 ⟨true,0,0⟩ ⟨true,x1,0⟩ rfl rfl HN1.out HL8.out (by decide) (num_cells _ _ _ HL8.out) F5.out (HX1.out.from C5.out) ?_; intro w6 hfb6 hgr6
              have C6:Hid (From wz w6):=C5.out.grown hgr6 C5.out.size (by intro q hq; injection hq with hq; omega);have F6:=Lib.hid hfb6; clear hfb6 hgr6 F5)
           | ((with_reducible refine g_copy ?_); refine wpList_copyF rfl _ _ _ _ rfl 63 Tryz.underlying144 size_u32 ⟨true,x1,0⟩ ⟨true,x1,y1⟩ rfl rfl HM1.out HM8.out (by decide) (den_cells _ _ _ HM8.out) F6.out (HY1.out.from C6.out) ?_; intro w7 hfb7 hgr7
              have C7:Hid (From wz w7):=C6.out.grown hgr7 C6.out.size (by intro q hq; injection hq with hq; omega);have F7:=Lib.hid hfb7; have R7:=Lib.hid (HFB.out.below C7.out HFB.out.lt); clear hfb7 hgr7 F6)
           | ((with_reducible refine g_ld 66 ?_); refine wpList_ld rfl _ _ rfl _ rfl _ F7.out.ld ?_)
           | ((with_reducible refine g_st 66 ?_); refine wpList_stF (f:=⟨true,x1,y1⟩) rfl _ _ rfl rfl rfl R7.out ?_; intro w8 hfb8 hgr8))
          refine bodyPost_ret (results_frac_err rfl _ rfl hfb8) rfl ?_;refine⟨?_,(HB.out.trans (C7.out.mono HB.out.size)).grown hgr8 (Nat.le_trans HB.out.size C7.out.size) (by intro q hq; injection hq with hq; omega)⟩;rw [HFIT.out,if_pos ⟨(len_top _).2 HL8.out,(len_top _).2 HM8.out⟩];simp [HX0.out]
     . have c1:¬ (8:Int)<(n1:Int):=by have:=HN1.out; omega
       have c2:(8:Int)<(m1:Int):=by have:=HM1.out; omega
       have HE:=Lib.hid hy8;clear hx8 hy8
       go_wp2_with (first
        | ((with_reducible refine g_st 66 ?_); refine wpList_stF (f:=zeroF) rfl _ _ rfl rfl rfl HFB.out ?_; intro w5 hfb5 hgr5))
       refine bodyPost_ret (results_frac_err rfl _ rfl hfb5) rfl ?_;refine⟨?_,HB.out.grown hgr5 HB.out.size (by intro q hq; injection hq with hq; omega)⟩;rw [HFIT.out,if_neg (fun h=>HE.out ((len_top _).1 h.2))];rfl
   . have c1:(8:Int)<(n1:Int):=by have:=HN1.out; omega
     have HE:=Lib.hid hx8;clear hx8
     go_wp2_with (first
      | ((with_reducible refine g_st 66 ?_); refine wpList_stF (f:=zeroF) rfl _ _ rfl rfl rfl HFB.out ?_; intro w5 hfb5 hgr5))
     refine bodyPost_ret (results_frac_err rfl _ rfl hfb5) rfl ?_;refine⟨?_,HB.out.grown hgr5 HB.out.size (by intro q hq; injection hq with hq; omega)⟩;rw [HFIT.out,if_neg (fun h=>HE.out ((len_top _).1 h.1))];rfl
theorem wrap_neg64 {n:Int} (h1 : -9223372036854775808<=n) (h2:n<0):IntKind.u64.wrap (-(IntKind.u64.wrap n))=(n.natAbs:Int):=by
 unfold IntKind.wrap;simp [IntKind.bits,IntKind.signed];omega
set_option maxHeartbeats 2000000 in
theorem frac_size64 (n:Int) (h1 : -9223372036854775808<=n) (h2:n<=9223372036854775807) (w:World) :
 Calls Tryz.prog 63 #[.int .i64 n] w fun e w'=>∃ A' c',e = .returned (.slice A' (len32 n.natAbs) c')/\Rd32 w' A' n.natAbs/\Below w.heap.size w w':=by
 obtain⟨k,hk⟩:∃ k,k=n.natAbs:=⟨_,rfl⟩
 have hks:k<18446744073709551616:=by omega
 rw [<- hk];have HO:=Lib.hid (frac_of k hks w);by_cases h0:n<0
 . have w1':IntKind.u64.wrap (-(IntKind.u64.wrap n))=(k:Int):=by rw [wrap_neg64 h1 h0,hk]
   obtain⟨z,hz⟩:∃ z,z=IntKind.u64.wrap n:=⟨_,rfl⟩
   rw [<- hz] at w1';have hz2:IntKind.u64.wrap n=z:=hz.symm;clear hz hk hks
   go_enter Tryz.func63,Tryz.ntmps63
   go_wp2_with (go_at_call 64; refine (HO.out).mono ?_; rintro e w1 ⟨A1,c1,rfl,hr1,hc1,hb1⟩)
   go_ret
   exact⟨A1,c1,rfl,hr1,hb1⟩
 . have w1':IntKind.u64.wrap n=(k:Int):=by rw [wrap_u64 (by omega) (by omega)]; omega
   clear hk hks
   go_enter Tryz.func63,Tryz.ntmps63
   go_wp2_with (go_at_call 64; refine (HO.out).mono ?_; rintro e w1 ⟨A1,c1,rfl,hr1,hc1,hb1⟩)
   go_ret
   exact⟨A1,c1,rfl,hr1,hb1⟩
theorem len_small {k:Nat} (h:k<18446744073709551616):len32 k<=900:=by
 have h2:B32^2=18446744073709551616:=by decide
 have h3:len32 k<=2:=dig_len_le hB32 (by rw [h2]; exact h);omega
theorem top256_big:18446744073709551616<top256:=by decide
set_option maxRecDepth 100000 in
set_option maxHeartbeats 4000000 in
theorem frac_Of (n:Int) (h1 : -9223372036854775808<=n) (h2:n<=9223372036854775807) (w:World) :
 Calls Tryz.prog 17 #[.int .i64 n] w fun e w'=>e = .returned (ofL n).val/\Below w.heap.size w w':=by
 obtain⟨k,hk⟩:∃ k,k=n.natAbs:=⟨_,rfl⟩
 have hks:k<18446744073709551616:=by omega
 obtain⟨bn,hbn⟩:∃ bn,bn=decide (n<0):=⟨_,rfl⟩
 have hfit:fitL bn k 1=(ofL n,0):=by
  rw [fitL_one _ _ (Nat.lt_trans hks top256_big),hbn,hk];unfold ofL;congr 2;by_cases h0:n<0
  . simp [h0]; omega
  . simp [h0]
 have ha:Below w.heap.size w (w.alloc (.cells zeroF.cells.toArray 66)):=(Below.refl _ _).alloc (Nat.le_refl _) _;have HS:=Lib.hid (fun (w1:World)=>frac_size64 n h1 h2 w1);have HO:=Lib.hid (fun (w1:World)=>frac_of 1 (by omega) w1);have HL1:=Lib.hid (show len32 1<=900 from len_small (by omega));rw [<- hk] at HS;have HF0:=Lib.hid (FB.new w zeroF);have HB0:=Lib.hid ha;have HFIT:=Lib.hid hfit;have HKS:=Lib.hid (len_small hks);have HBN:=Lib.hid hbn;clear ha hfit hks hk;obtain⟨l1,hl1⟩:∃ l1,l1=len32 1:=⟨_,rfl⟩
 obtain⟨lk,hlk⟩:∃ lk,lk=len32 k:=⟨_,rfl⟩
 rw [<- hl1] at HO;rw [<- hlk] at HS;have HL:=Lib.hid (And.intro hl1 hlk);clear hl1 hlk hbn
 go_enter Tryz.func17,Tryz.ntmps17
 go_wp2_with (first
  | (go_at_call 63; refine (HS.out _).mono ?_; rintro e w1 ⟨A1,c1,rfl,hr1,hb1⟩; have HB1:=Lib.hid (HB0.out.trans (hb1.mono HB0.out.size)); have F1:=Lib.hid (HF0.out.below hb1 HF0.out.lt); have R1:=Lib.hid hr1; clear hr1 hb1)
  | (go_at_call 64; refine (HO.out _).mono ?_; rintro e w2 ⟨A2,c2,rfl,hr2,hc2,hb2⟩; have HB2:=Lib.hid (HB1.out.trans (hb2.mono HB1.out.size)); have F2:=Lib.hid (F1.out.below hb2 F1.out.lt); have R12:=Lib.hid (R1.out.from hb2); have R2:=Lib.hid hr2; clear hr2 hb2 hc2; try rw [<- HBN.out])
  | ((with_reducible refine g_st 66 ?_); refine wpList_stF (f:=ofL n) rfl _ _ rfl rfl rfl (FB.new w3 zeroF) ?_; intro w4 hfb4 hgr4
     have C4:Hid (From w3 w4):=((Below.refl w3.heap.size w3).alloc (Nat.le_refl _) _).grown hgr4 (by simp) (by intro q hq; injection hq with hq; omega);have F4:=Lib.hid hfb4; have F34:=Lib.hid (F3.out.below C4.out F3.out.lt); have HB4:=Lib.hid (HB3.out.trans (C4.out.mono HB3.out.size)); clear hfb4 hgr4 F3 HB3)
  | ((with_reducible refine g_ld 66 ?_); refine wpList_ld rfl _ _ rfl _ rfl _ F4.out.ld ?_)
  | ((with_reducible refine g_st 66 ?_); refine wpList_stF (f:=ofL n) rfl _ _ rfl rfl rfl F34.out ?_; intro w5 hfb5 hgr5)
  | (go_at_call 62; refine (frac_fit bn A1 A2 c1 c2 k 1 lk l1 HL.out.2 HL.out.1 _ R12.out R2.out HKS.out HL1.out (by omega)).mono ?_; rintro e w3 ⟨rfl,hb3⟩; rw [HFIT.out]; have HB3:=Lib.hid (HB2.out.trans (hb3.mono HB2.out.size)); have F3:=Lib.hid (F2.out.below hb3 F2.out.lt); clear hb3))
 refine bodyPost_ret (results_frac rfl _ rfl hfb5) rfl ⟨rfl,?_⟩;exact HB4.out.grown hgr5 HB4.out.size (by intro q hq; injection hq with hq; omega)
theorem ratioL_fit {a b:Int} (hb:b≠0):ratioL a b=fitL (decide (a<0) != decide (b<0)) a.natAbs b.natAbs:=by
 unfold ratioL;rw [if_neg hb]
set_option maxRecDepth 100000 in
set_option maxHeartbeats 4000000 in
theorem frac_Ratio (a b:Int) (h1 : -9223372036854775808<=a) (h2:a<=9223372036854775807) (h3 : -9223372036854775808<=b) (h4:b<=9223372036854775807) (w:World) :
 Calls Tryz.prog 65 #[.int .i64 a,.int .i64 b] w (FitPost w (ratioL a b)):=by
 have HF0:=Lib.hid (FB.new w zeroF);have ha:Below w.heap.size w (w.alloc (.cells zeroF.cells.toArray 66)):=(Below.refl _ _).alloc (Nat.le_refl _) _;have HB0:=Lib.hid ha;clear ha;by_cases hb:b=0
 . subst hb;have HR:Hid (ratioL a 0=(zeroF,2)):=rfl
   go_enter Tryz.func65,Tryz.ntmps65
   go_wp2_with (first
    | ((with_reducible refine g_st 66 ?_); refine wpList_stF (f:=zeroF) rfl _ _ rfl rfl rfl HF0.out ?_; intro w5 hfb5 hgr5))
   refine bodyPost_ret (results_frac_err rfl _ rfl hfb5) rfl ⟨by rw [HR.out]; rfl,?_⟩;exact HB0.out.grown hgr5 HB0.out.size (by intro q hq; injection hq with hq; omega)
 . obtain⟨x,hx⟩:∃ x,x=a.natAbs:=⟨_,rfl⟩
   obtain⟨y,hy⟩:∃ y,y=b.natAbs:=⟨_,rfl⟩
   obtain⟨bn,hbn⟩:∃ bn,bn=(decide (a<0) != decide (b<0)):=⟨_,rfl⟩
   have hr:=ratioL_fit (a:=a) hb;rw [<- hx,<- hy,<- hbn] at hr;have HS:=Lib.hid (fun (w1:World)=>frac_size64 a h1 h2 w1);have HO:=Lib.hid (fun (w1:World)=>frac_size64 b h3 h4 w1);rw [<- hx] at HS;rw [<- hy] at HO;have HY0:=Lib.hid (show 0<y by omega);have HL1:=Lib.hid (len_small (k:=x) (by omega));have HL2:=Lib.hid (len_small (k:=y) (by omega));obtain⟨lx,hlx⟩:∃ lx,lx=len32 x:=⟨_,rfl⟩
   obtain⟨ly,hly⟩:∃ ly,ly=len32 y:=⟨_,rfl⟩
   rw [<- hlx] at HS;rw [<- hly] at HO;have HL:=Lib.hid (And.intro hlx hly);rw [hr];have HBN:Hid ((!(decide (a<0)==decide (b<0)))=bn):=hbn.symm;clear hlx hly hx hy hr hbn;obtain⟨r,hr⟩:∃ r,r=fitL bn x y:=⟨_,rfl⟩
   rw [<- hr];have HR:=Lib.hid hr;clear hr
   go_enter Tryz.func65,Tryz.ntmps65
   go_wp2_with (first
    | (go_at_call 63; refine (HS.out _).mono ?_; rintro e w1 ⟨A1,c1,rfl,hr1,hb1⟩; have HB1:=Lib.hid (HB0.out.trans (hb1.mono HB0.out.size)); have F1:=Lib.hid (HF0.out.below hb1 HF0.out.lt); have R1:=Lib.hid hr1; clear hr1 hb1 HS)
    | (go_at_call 63; refine (HO.out _).mono ?_; rintro e w2 ⟨A2,c2,rfl,hr2,hb2⟩; have HB2:=Lib.hid (HB1.out.trans (hb2.mono HB1.out.size)); have F2:=Lib.hid (F1.out.below hb2 F1.out.lt); have R12:=Lib.hid (R1.out.from hb2); have R2:=Lib.hid hr2; clear hr2 hb2)
    | (go_at_call 62; rw [HBN.out]
       refine (frac_fit bn A1 A2 c1 c2 x y lx ly HL.out.1 HL.out.2 _ R12.out R2.out HL1.out HL2.out HY0.out).mono ?_; rintro e w3 ⟨rfl,hb3⟩; rw [<- HR.out]; have HB3:=Lib.hid (HB2.out.trans (hb3.mono HB2.out.size)); have F3:=Lib.hid (F2.out.below hb3 F2.out.lt); clear hb3)
    | ((with_reducible refine g_st 66 ?_); refine wpList_stF (f:=r.1) rfl _ _ rfl rfl rfl F3.out ?_; intro w5 hfb5 hgr5))
   refine bodyPost_ret (results_frac_err rfl _ rfl hfb5) rfl ⟨rfl,?_⟩;exact HB3.out.grown hgr5 HB3.out.size (by intro q hq; injection hq with hq; omega)
theorem list8 {l:List Nat} (hl:l.length=8):∃ a0 a1 a2 a3 a4 a5 a6 a7:Nat,l = [a0,a1,a2,a3,a4,a5,a6,a7]:=by
 match l,hl with
 | [a0,a1,a2,a3,a4,a5,a6,a7],_=>exact⟨_,_,_,_,_,_,_,_,rfl⟩
structure Str where
 shear:FracV
 bend:FracV
deriving DecidableEq
def Str.cells (s:Str):List Value:=s.shear.cells++s.bend.cells
end Go.Proofs.YthfpdbjemfhieaaGreat
