/-
  moment: Point, Add.
-/
import Derived.Test.YtffeegebohigdaaGreatMs17
set_option linter.unusedVariables false
set_option linter.unusedSimpArgs false
set_option maxRecDepth 100000
set_option maxHeartbeats 4000000
namespace Go.Proofs.YtffeegebohigdaaGreat
open Go.RowKit
theorem Q3w:Q3k Tryz.prog 47 4:=Ld.row
theorem Q0g:(Tryz.prog.info? 47).map (·.size)=some 4:=by kernel_rfl
def Z0i (w:World) (r:Ld×Int) (e:Ending) (w':World):Prop:=e = .returned (.tuple #[r.1.val,.int .i64 r.2])/\Qe w w'
set_option maxHeartbeats 2000000 in
theorem Z61 (k x y z:Int) (w:World):Calls Tryz.prog 42 #[.int .i64 k,.int .i64 x,.int .i64 y,.int .i64 z] w (Z0i w (Kr k x y z)):=by
 have HM0:=Lib.hid ((Mem.nil w).alloc 47 ld0.cells);have HK:=Lib.hid (fun w1=>Qi0 k w1);have HX:=Lib.hid (fun w1=>Q4n x 1100000 (by omega) (by omega) w1);have HY:=Lib.hid (fun w1=>Q4n y 1100000 (by omega) (by omega) w1);have HZ:=Lib.hid (fun w1=>Q4n z 1100000 (by omega) (by omega) w1)
 cases hk:wOk k with
 | false =>
  have HR:Hid (Kr k x y z=(ld0,2)):=by unfold Hid Kr; rw [hk]; rfl
  rw [hk] at HK;clear hk
  go_enter Tryz.func42,Tryz.ntmps42
  go_wp2_with (first
   | (go_at_call 74; refine (HK.out _).mono ?_; rintro e wx ⟨rfl,hx⟩; rw [hx]; clear hx wx HK)
   | (go_at_call 97; refine (HX.out _).mono ?_; rintro e wx ⟨rfl,hx⟩; rw [hx]; clear hx wx HX)
   | (go_at_call 97; refine (HY.out _).mono ?_; rintro e wx ⟨rfl,hx⟩; rw [hx]; clear hx wx HY)
   | (go_at_call 97; refine (HZ.out _).mono ?_; rintro e wx ⟨rfl,hx⟩; rw [hx]; clear hx wx)
   | ((with_reducible refine Z5 47 ?_); go_loud (refine Qm (cs':=Ld.cells (ld0)) rfl _ _ rfl HM0.out 0 rfl rfl rfl Q0g rfl (Ld.len _) (Ld.len _) (Ld.one _) ?_); intro w6 h6))
  refine bodyPost_ret (Z6 rfl _ rfl (h6.ldb Q3w (Ld.len _) (i:=0) rfl _ (Below.refl _ _))) rfl ⟨?_,h6.from_⟩;rw [HR.out];rfl
 | true =>
  cases hx:Yb x 1100000 with
  | false =>
   have HR:Hid (Kr k x y z=(ld0,2)):=by unfold Hid Kr; rw [hk,hx]; rfl
   rw [hk] at HK;rw [hx] at HX;clear hk hx
   go_enter Tryz.func42,Tryz.ntmps42
   go_wp2_with (first
    | (go_at_call 74; refine (HK.out _).mono ?_; rintro e wx ⟨rfl,hx⟩; rw [hx]; clear hx wx HK)
    | (go_at_call 97; refine (HX.out _).mono ?_; rintro e wx ⟨rfl,hx⟩; rw [hx]; clear hx wx HX)
    | (go_at_call 97; refine (HY.out _).mono ?_; rintro e wx ⟨rfl,hx⟩; rw [hx]; clear hx wx HY)
    | (go_at_call 97; refine (HZ.out _).mono ?_; rintro e wx ⟨rfl,hx⟩; rw [hx]; clear hx wx)
    | ((with_reducible refine Z5 47 ?_); go_loud (refine Qm (cs':=Ld.cells (ld0)) rfl _ _ rfl HM0.out 0 rfl rfl rfl Q0g rfl (Ld.len _) (Ld.len _) (Ld.one _) ?_); intro w6 h6))
   refine bodyPost_ret (Z6 rfl _ rfl (h6.ldb Q3w (Ld.len _) (i:=0) rfl _ (Below.refl _ _))) rfl ⟨?_,h6.from_⟩;rw [HR.out];rfl
  | true =>
   cases hy:Yb y 1100000 with
   | false =>
    have HR:Hid (Kr k x y z=(ld0,2)):=by unfold Hid Kr; rw [hk,hx,hy]; rfl
    rw [hk] at HK;rw [hx] at HX;rw [hy] at HY;clear hk hx hy
    go_enter Tryz.func42,Tryz.ntmps42
    go_wp2_with (first
     | (go_at_call 74; refine (HK.out _).mono ?_; rintro e wx ⟨rfl,hx⟩; rw [hx]; clear hx wx HK)
     | (go_at_call 97; refine (HX.out _).mono ?_; rintro e wx ⟨rfl,hx⟩; rw [hx]; clear hx wx HX)
     | (go_at_call 97; refine (HY.out _).mono ?_; rintro e wx ⟨rfl,hx⟩; rw [hx]; clear hx wx HY)
     | (go_at_call 97; refine (HZ.out _).mono ?_; rintro e wx ⟨rfl,hx⟩; rw [hx]; clear hx wx)
     | ((with_reducible refine Z5 47 ?_); go_loud (refine Qm (cs':=Ld.cells (ld0)) rfl _ _ rfl HM0.out 0 rfl rfl rfl Q0g rfl (Ld.len _) (Ld.len _) (Ld.one _) ?_); intro w6 h6))
    refine bodyPost_ret (Z6 rfl _ rfl (h6.ldb Q3w (Ld.len _) (i:=0) rfl _ (Below.refl _ _))) rfl ⟨?_,h6.from_⟩;rw [HR.out];rfl
   | true =>
    cases hz:Yb z 1100000 with
    | false =>
     have HR:Hid (Kr k x y z=(ld0,2)):=by unfold Hid Kr; rw [hk,hx,hy,hz]; rfl
     rw [hk] at HK;rw [hx] at HX;rw [hy] at HY;rw [hz] at HZ;clear hk hx hy hz
     go_enter Tryz.func42,Tryz.ntmps42
     go_wp2_with (first
      | (go_at_call 74; refine (HK.out _).mono ?_; rintro e wx ⟨rfl,hx⟩; rw [hx]; clear hx wx HK)
      | (go_at_call 97; refine (HX.out _).mono ?_; rintro e wx ⟨rfl,hx⟩; rw [hx]; clear hx wx HX)
      | (go_at_call 97; refine (HY.out _).mono ?_; rintro e wx ⟨rfl,hx⟩; rw [hx]; clear hx wx HY)
      | (go_at_call 97; refine (HZ.out _).mono ?_; rintro e wx ⟨rfl,hx⟩; rw [hx]; clear hx wx)
      | ((with_reducible refine Z5 47 ?_); go_loud (refine Qm (cs':=Ld.cells (ld0)) rfl _ _ rfl HM0.out 0 rfl rfl rfl Q0g rfl (Ld.len _) (Ld.len _) (Ld.one _) ?_); intro w6 h6))
     refine bodyPost_ret (Z6 rfl _ rfl (h6.ldb Q3w (Ld.len _) (i:=0) rfl _ (Below.refl _ _))) rfl ⟨?_,h6.from_⟩;rw [HR.out];rfl
    | true =>
     have HR:Hid (Kr k x y z=(⟨k,k*x,k*y,k*z⟩,0)):=by unfold Hid Kr; rw [hk,hx,hy,hz]; rfl
     have hm:∀ n:Int,Yb n 1100000=true->IntKind.i64.wrap (k*n)=k*n:=fun n hn=>by
      have h1:=Q1n.1 hk;have h2:=Ks.1 hn;have h3:k*n<=k*1100000:=Int.mul_le_mul_of_nonneg_left h2.2 h1.1;have h4:k*(-1100000)<=k*n:=Int.mul_le_mul_of_nonneg_left h2.1 h1.1;exact Qk (by omega) (by omega)
     have mx:=hm x hx;have my:=hm y hy;have mz:=hm z hz;rw [hk] at HK;rw [hx] at HX;rw [hy] at HY;rw [hz] at HZ;clear hk hx hy hz hm
     go_enter Tryz.func42,Tryz.ntmps42
     go_wp2_with (first
      | (go_at_call 74; refine (HK.out _).mono ?_; rintro e wx ⟨rfl,hx⟩; rw [hx]; clear hx wx HK)
      | (go_at_call 97; refine (HX.out _).mono ?_; rintro e wx ⟨rfl,hx⟩; rw [hx]; clear hx wx HX)
      | (go_at_call 97; refine (HY.out _).mono ?_; rintro e wx ⟨rfl,hx⟩; rw [hx]; clear hx wx HY)
      | (go_at_call 97; refine (HZ.out _).mono ?_; rintro e wx ⟨rfl,hx⟩; rw [hx]; clear hx wx)
      | ((with_reducible refine Z5 47 ?_); go_loud (refine Qm (cs':=Ld.cells (⟨k,k*x,k*y,k*z⟩)) rfl _ _ rfl HM0.out 0 rfl rfl rfl Q0g rfl (Ld.len _) (Ld.len _) (Ld.one _) ?_); intro w6 h6))
     refine bodyPost_ret (Z6 rfl _ rfl (h6.ldb Q3w (Ld.len _) (i:=0) rfl _ (Below.refl _ _))) rfl ⟨?_,h6.from_⟩;rw [HR.out];rfl
theorem Z93 (l:Ld) (w:World):Calls Tryz.prog 72 #[l.val] w fun e w'=>e = .returned (.bool (!Yi l))/\Qe w w':=by
 have HR:=Lib.hid (fun w1=>Qmx l w1);have HB:Hid (Qe w (w.alloc (.cells (Ld.cells l).toArray 47))):=(Below.refl _ _).alloc (Nat.le_refl _) _
 go_enter Tryz.func72,Tryz.ntmps72
 go_wp2_with (go_at_call 73; go_loud (refine (HR.out _).mono ?_); rintro e w2 ⟨rfl,hb⟩)
 go_ret
 exact⟨rfl,HB.out.trans (hb.mono HB.out.size)⟩
def Ld.add (a b:Ld):Ld:=⟨a.kilos+b.kilos,a.x+b.x,a.y+b.y,a.z+b.z⟩
def Ki (s:Ld):List Ld->Ld×Int
 | []=>(s,0)
 | x::l=>if wOk (s.kilos+x.kilos) then Ki (s.add x) l else (ld0,3)
def Q8i (l:Ld):Bool := !Yi l
def Q21 (l:List Ld):Ld×Int:=if l.any Q8i then (ld0,2) else Ki ld0 l
theorem Qed {l:Ld} (h:Yi l=true):(0<=l.kilos/\l.kilos<=500000000)/\(-(l.kilos*1100000)<=l.x/\l.x<=l.kilos*1100000)/\(-(l.kilos*1100000)<=l.y/\l.y<=l.kilos*1100000)/\(-(l.kilos*1100000)<=l.z/\l.z<=l.kilos*1100000):=by
 unfold Yi at h;simp only [Bool.and_eq_true] at h;exact⟨Q1n.1 h.1,Ks.1 h.2.1,Ks.1 h.2.2.1,Ks.1 h.2.2.2⟩
theorem Qvc {l:Ld} (h:(0<=l.kilos/\l.kilos<=500000000)/\(-(l.kilos*1100000)<=l.x/\l.x<=l.kilos*1100000)/\(-(l.kilos*1100000)<=l.y/\l.y<=l.kilos*1100000)/\(-(l.kilos*1100000)<=l.z/\l.z<=l.kilos*1100000)):Yi l=true:=by
 unfold Yi;simp only [Bool.and_eq_true];exact⟨Q1n.2 h.1,Ks.2 h.2.1,Ks.2 h.2.2.1,Ks.2 h.2.2.2⟩
theorem Z16:Yi ld0=true:=by decide
theorem Z9p (w:World) (args:Array Value):(callFunc 72 args).run Tryz.prog w = .ok (.enter 72 args) w:=by
 go_simp
set_option maxHeartbeats 2000000 in
theorem Z9b (A:Option Addr) (c n:Nat) (l:List Ld) (hn:n=l.length) (w:World) (h:Rd w w.heap.size 4 A (l.map Ld.cells)) (hl:l.length<=1000000) :
 Calls Tryz.prog 26 #[.slice A n c] w (Z0i w (Q21 l)):=by
 have HC:=Lib.hid (fun w1 (hb:Qe w w1)=>Qz2 A c l n hn 72 #[] Q8i w1 (h.from hb) (by omega) Z9p (fun x _ w' _=>Z93 x w'));have HM0:=Lib.hid ((Mem.nil w).alloc 47 ld0.cells);have HR:=Lib.hid h;have HN:=Lib.hid hn;have hn6:n<=1000000:=by omega
 obtain⟨r,hr⟩:∃ r,r=Q21 l:=⟨_,rfl⟩
 rw [<- hr]
 cases hany:l.any Q8i with
 | true =>
  rw [hany] at HC;have HE:Hid (r=(ld0,2)):=by unfold Hid Q21 at *; rw [hr,hany]; rfl
  clear hr hany h hn hl HR
  go_enter Tryz.func26,Tryz.ntmps26
  go_wp2_with (first
   | (go_at_call 71; go_loud (refine (HC.out _ HM0.out.from_).mono ?_); rintro e w1 ⟨rfl,hb⟩; have HM1:=Lib.hid (HM0.out.call hb); clear hb)
   | ((with_reducible refine Z5 47 ?_); go_loud (refine Qm (cs':=ld0.cells) rfl _ _ rfl HM1.out 0 rfl rfl rfl Q0g rfl (Ld.len _) (Ld.len _) (Ld.one _) ?_); intro w6 h6))
  refine bodyPost_ret (Z6 rfl _ rfl (h6.ldb Q3w (Ld.len _) (i:=0) rfl _ (Below.refl _ _))) rfl ⟨?_,h6.from_⟩;rw [HE.out];rfl
 | false =>
  rw [hany] at HC;have HE:Hid (Ki ld0 (l.drop 0)=r):=by unfold Hid Q21 at *; rw [hr,hany]; rfl
  have HOK:Hid (∀ x∈l,Yi x=true):=by
   intro x hx;have h1:=List.any_eq_false.1 hany x hx;unfold Q8i at h1;simpa using h1
  clear hr hany h hn hl
  go_enter Tryz.func26,Tryz.ntmps26
  go_wp2_with (go_at_call 71; go_loud (refine (HC.out _ HM0.out.from_).mono ?_); rintro e w1 ⟨rfl,hb⟩; have HM1:=Lib.hid ((HM0.out.call hb).alloc 47 ld0.cells); clear hb HC HM0)
  go_loopw [12] (fun v wq=>∃ (k:Nat) (s:Ld),k<=n/\v = .int .i64 (k:Int)/\Yi s=true/\Ki s (l.drop k)=r/\Mem w wq [.box w1.heap.size 47 s.cells,.box w.heap.size 47 ld0.cells]) (fun v _=>n - (intOf v).toNat)
  case atStart=>exact⟨0,ld0,Nat.zero_le _,rfl,Z16,HE.out,HM1.out⟩
  case round =>
   clear HM1 HE;obtain⟨k,s,hk,rfl,hs,hle,hmem⟩:=hrel;have HM2:=Lib.hid hmem;have HLE:=Lib.hid hle;clear hmem hle;by_cases hkn:k=n
   . have hlt:¬ (k:Int)<(n:Int):=by omega
     have HE:Hid (r=(s,0)):=by
      have h1:=HLE.out;rw [List.drop_of_length_le (by rw [<- HN.out,hkn]; exact Nat.le_refl _)] at h1;exact h1.symm
     clear HLE hkn hk hs
     go_wp2_with (first
      | ((with_reducible refine Z4 47 ?_); refine Q9 rfl _ _ rfl _ rfl _ (HM2.out.ldb Q3w (Ld.len _) (i:=0) rfl _ (Below.refl _ _)) ?_)
      | ((with_reducible refine Z5 47 ?_); go_loud (refine Qm (cs':=Ld.cells s) rfl _ _ rfl HM2.out 1 rfl rfl rfl Q0g rfl (Ld.len _) (Ld.len _) (Ld.one _) ?_); intro w6 h6))
     refine bodyPost_ret (Z6 rfl _ rfl (h6.ldb Q3w (Ld.len _) (i:=1) rfl _ (Below.refl _ _))) rfl ⟨?_,h6.from_⟩;rw [HE.out];rfl
   . have hlt:(k:Int)<(n:Int):=by omega
     have hkl:k<l.length:=by rw [<- HN.out]; omega
     obtain⟨g,off,rfl,hg,hld⟩:=Ld.ld HR.out (k:=k) (b:=l[k]) (Qh7 Ld.cells l k hkl);obtain⟨x,hx⟩:∃ x,x=l[k]:=⟨_,rfl⟩
     rw [<- hx] at hld;have HLD:=Lib.hid (hld wr HM2.out.from_);have hxo:Yi x=true:=HOK.out x (by rw [hx]; exact List.getElem_mem hkl);have HLE2:Hid (Ki s (x::l.drop (k+1))=r):=by
      have h1:=HLE.out;rw [List.drop_eq_getElem_cons hkl,<- hx] at h1;exact h1
     have HM3:=Lib.hid (HM2.out.alloc 47 x.cells);have h1:=Qed hs;have h2:=Qed hxo;obtain⟨k1,x1,y1,z1⟩:=s;obtain⟨k2,x2,y2,z2⟩:=x;dsimp only at h1 h2;have e1:IntKind.i64.wrap (k1+k2)=k1+k2:=Qk (by omega) (by omega);have e2:IntKind.i64.wrap (x1+x2)=x1+x2:=Qk (by omega) (by omega);have e3:IntKind.i64.wrap (y1+y2)=y1+y2:=Qk (by omega) (by omega);have e4:IntKind.i64.wrap (z1+z2)=z1+z2:=Qk (by omega) (by omega);have HSA:Hid (wOk (k1+k2)=true->Yi ⟨k1+k2,x1+x2,y1+y2,z1+z2⟩=true):=by
      intro h3;have h4:=Q1n.1 h3;refine Qvc ?_;dsimp only;omega
     have HW:=Lib.hid (fun w1=>Qi0 (k1+k2) w1);clear h1 h2 hx hld HM2 hkl HLE hkn hs hxo
     cases hwo:wOk (k1+k2) with
     | false =>
      rw [hwo] at HW;have HE:Hid (r=(ld0,3)):=by
       have h1:=HLE2.out;unfold Ki at h1;rw [if_neg (by rw [hwo]; simp)] at h1;exact h1.symm
      clear HLE2 HSA hwo
      go_wp2_with (first
       | ((with_reducible refine Z4 47 ?_); refine Q9 rfl _ _ rfl _ rfl _ HLD.out ?_)
       | ((with_reducible refine Z4 3 ?_); refine Q9 rfl _ _ rfl _ rfl _ (HM3.out.ldc ct3 (i:=1) rfl rfl _ (Below.refl _ _)) ?_)
       | ((with_reducible refine Z4 3 ?_); refine Q9 rfl _ _ rfl _ rfl _ (HM4.out.ldc ct3 (i:=1) rfl rfl _ (Below.refl _ _)) ?_)
       | ((with_reducible refine Z5 47 ?_); refine Qm (cs':=Ld.cells ⟨k1+k2,x1+x2,y1+y2,z1+z2⟩) rfl _ _ rfl HM3.out 1 rfl rfl rfl Q0g rfl (Ld.len _) (Ld.len _) (Ld.one _) ?_; intro w5 h5; have HM4:=Lib.hid h5; clear h5)
       | (go_at_call 74; refine (HW.out _).mono ?_; rintro e wx ⟨rfl,hx⟩; rw [hx]; clear hx wx)
       | ((with_reducible refine Z5 47 ?_); refine Qm (cs':=ld0.cells) rfl _ _ rfl HM4.out 2 rfl rfl rfl Q0g rfl (Ld.len _) (Ld.len _) (Ld.one _) ?_; intro w6 h6))
      refine bodyPost_ret (Z6 rfl _ rfl (h6.ldb Q3w (Ld.len _) (i:=2) rfl _ (Below.refl _ _))) rfl ⟨?_,h6.from_⟩;rw [HE.out];rfl
     | true =>
      rw [hwo] at HW;have HS2:=Lib.hid (HSA.out hwo);have HE:Hid (Ki ⟨k1+k2,x1+x2,y1+y2,z1+z2⟩ (l.drop (k+1))=r):=by
       have h1:=HLE2.out;unfold Ki at h1;rw [if_pos (by rw [hwo])] at h1;exact h1
      clear HLE2 HSA hwo
      go_wp2_with (first
       | ((with_reducible refine Z4 47 ?_); refine Q9 rfl _ _ rfl _ rfl _ HLD.out ?_)
       | ((with_reducible refine Z4 3 ?_); refine Q9 rfl _ _ rfl _ rfl _ (HM3.out.ldc ct3 (i:=1) rfl rfl _ (Below.refl _ _)) ?_)
       | ((with_reducible refine Z4 3 ?_); refine Q9 rfl _ _ rfl _ rfl _ (HM4.out.ldc ct3 (i:=1) rfl rfl _ (Below.refl _ _)) ?_)
       | ((with_reducible refine Z5 47 ?_); refine Qm (cs':=Ld.cells ⟨k1+k2,x1+x2,y1+y2,z1+z2⟩) rfl _ _ rfl HM3.out 1 rfl rfl rfl Q0g rfl (Ld.len _) (Ld.len _) (Ld.one _) ?_; intro w5 h5; have HM4:=Lib.hid h5; clear h5)
       | (go_at_call 74; refine (HW.out _).mono ?_; rintro e wx ⟨rfl,hx⟩; rw [hx]; clear hx wx))
      go_roundw
      case rel=>exact⟨k+1,_,by omega,by go_num,HS2.out,HE.out,HM4.out.tail⟩
      case measure=>simp [intOf]; omega
theorem Jw {P:Program} {w:World} {ops:Array Oper} {rest:List Oper} {a:Act} {Q:Exit->Act->World->Prop} {x y:Operand} {t1 t2:TypeId} {d:Option Nat} {ty:TypeId} {pos:String} {aft:Array Edge} {gd:Option (Nat×Bool)}
 (h:wpList P ops Q (⟨d,.call { callee := .builtin .copy,args := #[x,y],argTypes := #[t1,t2] },ty,pos,aft,gd⟩::rest) a w):wpList P ops Q (⟨d,.call { callee := .builtin .copy,args := #[x,y],argTypes := #[t1,t2] },ty,pos,aft,gd⟩::rest) a w:=h
theorem NB.cell {w:World} {g E i:Nat} {k:IntKind} {l:List Nat} (h:NB w g E k l) (hi:i<l.length):w.cell? ⟨g,i,none⟩=some (.int k (l.getD i 0:Nat)):=by
 rw [cell_of_row w g i _ _ _ h];simp [hi]
theorem NB.frozen {w:World} {g E:Nat} {k:IntKind} {l:List Nat} (h:NB w g E k l) (i:Nat):w.frozen? ⟨g,i,none⟩=false:=by
 unfold NB at h;simp [World.frozen?,h]
theorem Z1e {L o:List Nat} {j m:Nat} (ho:o.length=m) (hj:j<=L.length):(L.take j++o++L.drop (j+m)).take j=L.take j/\(L.take j++o++L.drop (j+m)).drop (j+m)=L.drop (j+m)/\((L.take j++o++L.drop (j+m)).drop j).take m=o:=by
 have hl:(L.take j).length=j:=List.length_take_of_le hj;refine⟨?_,?_,?_⟩
 . rw [List.append_assoc,List.take_append_of_le_length (by omega),List.take_take,Nat.min_self]
 . exact List.drop_left' (by simp [hl,ho])
 . rw [List.append_assoc,List.drop_left' hl];exact List.take_left' ho
theorem Qrs {L:List Nat} {j n i:Nat} (h:i<=n):(Q22 L j n).getD i 0=L.getD (j+i) 0:=by
 simp [Q22,List.getD_eq_getElem?_getD,show i<n+1 by omega]
set_option maxHeartbeats 8000000 in
theorem Qts (A D:Option Addr) (ca cd x y la n:Nat) (hla:la=Q4 x) (hn:n=Q4 y) (w:World) (h:Zk w A x) (h':Zk w D y) (hx:Q4 x<=900) (hx2:2<Q4 x) (hy2:2<=Q4 y) (hyx:y<=x) :
 Calls Tryz.prog 126 #[.slice A la ca,.slice D n cd] w (Q1p w x y):=by
 have hny:Q4 y<=Q4 x:=Z3 Qn (Nat.lt_of_le_of_lt hyx (Qv Qn (Nat.le_refl _)));have HC:=Lib.hid (Qbi A D ca cd x y la n hla hn w h h' (by omega) (by omega));have hc:¬ Kl x y<0:=by
  unfold Kl;rw [if_neg (by omega)];split<;>decide
 obtain⟨k,hk⟩:∃ k,n=k+1:=⟨n - 1,by omega⟩
 obtain⟨m,hm⟩:∃ m,la=m+n:=⟨la - n,by omega⟩
 obtain⟨yt,hyt⟩:∃ yt,yt=(dig B32 y).getD k 0:=⟨_,rfl⟩
 obtain⟨yt1,hyt1⟩:∃ yt1,yt1=yt+1:=⟨_,rfl⟩
 obtain⟨s,hs⟩:∃ s,s=B32 / (yt+1):=⟨_,rfl⟩
 obtain⟨hs0,hs1,hlV⟩:=Z2o (y:=y) (k:=k) (by omega) hyt hs;have hB:B32=4294967296:=rfl;rw [hB] at hs1;have hytB:yt<4294967296:=by rw [hyt]; exact (Ql.dig Qn y).getD (by decide) k
 have w1':IntKind.i64.wrap ((n:Int) - 1)=(k:Int):=by rw [Qk (by omega) (by omega)]; omega
 have w2':=Qu (n:=(yt:Int)) (by omega) (by omega);have w3':IntKind.u64.wrap ((yt:Int)+1)=(yt1:Int):=by rw [Qu (by omega) (by omega)]; omega
 have w4':(4294967296:Int) / (yt1:Int)=(s:Int):=by rw [hs,hyt1,hB]; exact (Int.natCast_ediv 4294967296 (yt+1)).symm
 have w5':IntKind.u32.wrap (s:Int)=(s:Int):=by rw [K7,Nat.mod_eq_of_lt hs1]
 have w6':¬ ((yt1:Int)=0):=by omega
 have w7':¬ ((la:Int)<=2):=by omega
 have w8':¬ ((n:Int)=1):=by omega
 have w9':(k:Int)<(n:Int):=by omega
 obtain⟨b0,o0,rfl,hb0,hld0⟩:=Vb Tryz.underlying63 rfl h' (i:=k) (show k<(dig B32 y).length by show k<Q4 y; omega);have HLD:=Lib.hid (fun (w1:World) (hb:Below w.heap.size w w1)=>by
  have h1:=hld0 w1 hb;have e:(dig B32 y)[k]'(show k<(dig B32 y).length by show k<Q4 y; omega)=yt:=by rw [hyt]; simp [show k<(dig B32 y).length by show k<Q4 y; omega]
  rw [e] at h1;exact h1)
 have HA:=Lib.hid h;have HD:=Lib.hid h';have HLA:=Lib.hid hla;have HNY:=Lib.hid hn;have HLV:=Lib.hid hlV;have HX:=Lib.hid (show Q4 x<=1000 by omega);have HK:=Lib.hid hk;have HM:=Lib.hid hm;generalize Kl x y=cv at *
 have HB0:Hid (k<=899/\la<=900/\n<=la):=by unfold Hid; omega
 clear h h' hx2 hx hy2 hyx hny hyt hyt1 hs hld0 hla hn hlV hB hk hm
 go_enter Tryz.func126,Tryz.ntmps126
 go_wp2_with (first
  | (go_at_call 183; refine (HC.out).mono ?_; rintro e w1 ⟨rfl,hb1⟩; have HB1:=Lib.hid hb1; clear hb1)
  | ((with_reducible refine Z4 63 ?_); refine Q9 rfl _ _ rfl _ rfl _ (HLD.out _ HB1.out) ?_))
 refine Qyg (A:=A) (D:=some ⟨b0,o0,none⟩) (la:=la) (n:=n) (s:=s) (y:=y) rfl (by kernel_rfl) (by kernel_rfl) (by kernel_rfl) rfl rfl rfl (by have:=HB0.out; omega) HNY.out (by rw [<- HNY.out]; have:=HB0.out; omega) hs0 hs1 (HD.out.from HB1.out) ?_ (by simp);intro g B3 A3 c3 w3 hb3 hg3 hnb3 hrd3;obtain⟨V,hV⟩:∃ V,V=y*s:=⟨_,rfl⟩
 obtain⟨X,hX⟩:∃ X,X=x*s:=⟨_,rfl⟩
 obtain⟨la1,hla1⟩:∃ la1,la1=la+1:=⟨_,rfl⟩
 obtain⟨m1,hm1⟩:∃ m1,m1=m+1:=⟨_,rfl⟩
 rw [<- hla1] at hnb3 ⊢;have hlV:Q4 V=n:=by rw [hV,HLV.out,HK.out]
 rw [<- hV] at hrd3 ⊢;rw [hlV];have hV0:V≠0:=by
  rintro rfl
  have h1:Q4 0=0:=rfl;rw [h1,HK.out] at hlV;omega
 have hx0:x≠0:=by
  rintro rfl
  have h1:Q4 0=0:=rfl;have h2:=HLA.out;rw [h1] at h2;omega
 have hXlen:Q4 X<=la1:=by
  refine Z3 Qn ?_;have h1:x<B32^la:=Qv Qn (show Q4 x<=la by rw [<- HLA.out]; exact Nat.le_refl _);rw [hX,hla1,Nat.pow_succ];exact Nat.mul_lt_mul_of_lt_of_lt h1 hs1
 have hXpos:0<Q4 X:=K8 Qn (by rw [hX]; exact Nat.mul_ne_zero hx0 (by omega));have hbw3:Below w.heap.size w w3:=HB1.out.trans (hb3.mono HB1.out.size);have hba:Below w3.heap.size w3 (w3.alloc (.cells #[.int .u32 (s:Int)] 63)):=(Below.refl _ _).alloc (Nat.le_refl _) _;have hls:1=Q4 s:=by
  show 1=(dig B32 s).length
  rw [Ve Qn (by omega),Nat.mod_eq_of_lt hs1,Nat.div_eq_of_lt hs1,Vs Qn];rfl
 have HT:=Lib.hid (Ql1 A (some ⟨w3.heap.size,0,none⟩) ca 1 x s la 1 HLA.out hls (w3.alloc (.cells #[.int .u32 (s:Int)] 63)) (HA.out.from (hbw3.trans (hba.mono hbw3.size))) (Qvg hs0 hs1) HX.out (by omega));rw [<- hX] at HT;have HBA:=Lib.hid hba;have HBW3:=Lib.hid hbw3;have HG3:=Lib.hid (Nat.le_trans HB1.out.size hg3);have HNB3:=Lib.hid hnb3;have HRD3:=Lib.hid hrd3;have HVX:=Lib.hid (And.intro hV (And.intro hX (And.intro hla1 hm1)));have HLV2:=Lib.hid hlV;have HV0:=Lib.hid hV0;have HXL:=Lib.hid hXlen;have HXP:=Lib.hid hXpos;have w10':IntKind.i64.wrap ((la:Int) - (n:Int))=(m:Int):=by have:=HM.out; have:=HB0.out; rw [Qk (by omega) (by omega)]; omega
 have w11':IntKind.i64.wrap ((m:Int)+1)=(m1:Int):=by have:=HM.out; have:=HB0.out; rw [Qk (by omega) (by omega)]; omega
 have HM1:Hid (m1<=1001/\la1<=1001):=by have:=HM.out; have:=HB0.out; unfold Hid; omega
 clear hb3 hg3 hnb3 hrd3 hV hX hla1 hm1 hlV hV0 hx0 hXlen hXpos hbw3 hba hls;simp only [Act.put,List.setIfInBounds_toArray,List.set_cons_succ,List.set_cons_zero];rename_i K1 ha1;refine ha1 _ _ ?_;clear ha1 K1
 go_wp2_with (first
  | (go_at_call 147; refine (HT.out).mono ?_; rintro e w4 ⟨A4,c4,rfl,hrd4,hc4,hb4⟩
     have HB34:=Lib.hid (HBA.out.trans (hb4.mono HBA.out.size)); have HNB4:=Lib.hid (HNB3.out.below HB34.out HNB3.out.lt); have HRD4:=Lib.hid hrd4; have HV4:=Lib.hid (HRD3.out.from HB34.out); clear hb4 hrd4 hc4)
  | ((with_reducible refine Jw ?_); refine Qsz rfl _ _ _ _ rfl 63 Tryz.underlying145 Zv (L:=List.replicate la1 0) (l:=dig B32 X) rfl rfl List.length_replicate.symm rfl (by rw [List.length_replicate]; exact HXL.out) HXP.out HNB4.out HRD4.out ?_; intro w5 hnb5 hgr5
     have HNB5:=Lib.hid hnb5; have HV5:=Lib.hid (Rd.apart HV4.out (Qjb HNB4.out HV4.out HV0.out) hgr5); have HAP:=Lib.hid (Qjb HNB4.out HV4.out HV0.out); have HB5:=Lib.hid ((HBW3.out.trans (HB34.out.mono HBW3.out.size)).grown hgr5 (Nat.le_trans HBW3.out.size HB34.out.size) (by intro q hq; injection hq with hq; rw [<- hq]; exact HG3.out)); clear hnb5 hgr5 HNB4 HV4 HRD4 HT)
  | (at_make; go_loud (refine Q5y (n:=m1) rfl _ _ rfl Tryz.underlying145 Qgv rfl rfl (by simp) (by simp) (by have:=HM1.out; omega) (by have:=HM1.out; unfold maxLen; omega) ?_); intro w6 hnb6 hb6 hlt6))
 have HNB6:=Lib.hid hnb6;have HLT6:=Lib.hid hlt6;have HNBL6:=Lib.hid (HNB5.out.below hb6 HNB5.out.lt);have HNE:Hid (g≠w5.heap.size):=by have:=HNB5.out.lt; unfold Hid; omega
 have HV6:=Lib.hid (HV5.out.from hb6);have HB6:=Lib.hid (HB5.out.trans (hb6.mono HB5.out.size));have HGQ:=Lib.hid HB5.out.size;have HAPQ:Hid (∀ q,A3=some q->q.block≠w5.heap.size):=by
  rintro q rfl e
  obtain⟨b,off,e1,hlt,_,_⟩:=HV5.out 0 _ (Vu (k := .u32) (l:=dig B32 V) (i:=0) (K8 Qn HV0.out));injection e1 with e1;rw [e1] at e;simp only at e;omega
 clear hnb6 hb6 hlt6;generalize w5.heap.size=gq at *
 obtain⟨L0,hL0⟩:∃ L0,L0=dig B32 X++List.drop (dig B32 X).length (List.replicate la1 0):=⟨_,rfl⟩
 rw [<- hL0] at HNBL6;have hstart:Q64 X V n m m1 L0 (List.replicate m1 0):=by
  obtain⟨hV,hX,hla1,hm1⟩:=HVX.out;have hl1:(dig B32 X).length<=la1:=HXL.out;rw [hm1];refine Q64.start (x:=x) (y:=y) (s:=s) (by rw [<- HLA.out,HM.out]) HNY.out.symm (by have:=HK.out; omega) hs0 hs1 hX hV ?_ ?_ ?_
  . rw [hL0,List.length_append,List.length_drop,List.length_replicate];have:=HM.out;omega
  . rw [hL0];exact (Ql.dig Qn X).append ((Ql.zeros (by decide) _).drop _)
  . rw [hL0,List.drop_replicate,Jk,Q4o,Nat.mul_zero,Nat.add_zero,Zt Qn]
 have HSTART:=Lib.hid hstart;have HM2:Hid (m1=m+1/\la1=m+n+1):=by
  obtain⟨hV,hX,hla1,hm1⟩:=HVX.out;have:=HM.out;unfold Hid;omega
 have HBS:Hid (n<=la1/\0<n/\n<=1000):=by have:=HM2.out; have:=HK.out; have:=HB0.out; unfold Hid; omega
 have hnla:(n:Int)<=(la1:Int):=by have:=HBS.out; omega
 clear hL0 hstart HLD HD HC HBA HBW3 HNB3 HRD3 HXL HXP HB34 HNB5 HB5 HV5 hb0
 go_loopw [13] (fun jv wr=>∃ (j:Nat) (z:Int) (L Q:List Nat),jv = .int .i64 z/\z=(j:Int) - 1/\j<=m1/\Q64 X V n m j L Q/\NB wr g 63 .u32 L/\NB wr gq 63 .u32 Q/\Below w.heap.size w wr/\gq<wr.heap.size/\Zk wr A3 V) (fun jv _=>(intOf jv+1).toNat)
 case atStart=>exact⟨m1,m,L0,_,rfl,by have:=HM2.out; omega,Nat.le_refl _,HSTART.out,HNBL6.out,HNB6.out,HB6.out,HLT6.out,HV6.out⟩
 case round =>
  clear HSTART HNBL6 HNB6 HB6 HLT6 HV6;obtain⟨j',z,L,Q,rfl,hz,hj,hdi,hnbL,hnbQ,hbr,hlt,hrdV⟩:=hrel;have HDI:=Lib.hid hdi;have HNBL:=Lib.hid hnbL;have HNBQ:=Lib.hid hnbQ;have HBR:=Lib.hid hbr;have HLT:=Lib.hid hlt;have HRV:=Lib.hid hrdV;clear hdi hnbL hnbQ hbr hlt hrdV;by_cases hj0:j'=0
  . subst hj0;have hzn:¬ (0:Int)<=z:=by omega
    have HQL:Hid (Q.length=m1):=by have:=HDI.out.q; have:=HM2.out; unfold Hid; omega
    have HLN:Hid ((L.take n).length=n):=by have:=HDI.out.l; have:=HBS.out; unfold Hid; rw [List.length_take]; omega
    have HS:=Lib.hid (Qky g la1 n s (L.take n) HLN.out.symm wr (HNBL.out.nbx n) (HDI.out.dl.take n) (by rw [HLN.out]; exact HBS.out.2.2) hs0 hs1);have HT1:=Lib.hid (fun (w1:World) (hnb:NB w1 gq 63 .u32 Q)=>Q5m (some ⟨gq,0,none⟩) m1 m1 Q HQL.out.symm w1 hnb.rd0 HDI.out.dq (by rw [HQL.out]; have:=HM1.out; omega) (by rw [HQL.out]; exact Nat.le_refl _));have HT2:=Lib.hid (fun (w1:World) (o:List Nat) (ho:n=o.length) (hrd:Rd w1 w1.heap.size 1 (some ⟨g,0,none⟩) (Zc .u32 o))=>Qxo g 0 la1 n o ho w1 hrd (by rw [<- ho]; exact HBS.out.2.2));have HT3:=Lib.hid (fun (w1:World) (A8:Option Addr) (c8:Nat) (o:List Nat) (ho:n=o.length) (hod:Ql B32 o) (hc:n<=c8) (hrd:Rd w1 w1.heap.size 1 A8 (Zc .u32 o))=>Q5m A8 c8 n o ho w1 hrd hod (by rw [<- ho]; have:=HBS.out; omega) (by rw [<- ho]; exact hc));clear hz hj
    go_wp2_with (first
     | (go_at_call 186; refine (HS.out).mono ?_; rintro e w7 ⟨o,rfl,hol,hod,hov,hnb7,hgr7⟩
        have HOL:Hid (n=o.length):=by unfold Hid; rw [hol,HLN.out]
        have HOD:=Lib.hid hod; have HOV:=Lib.hid hov; have HNB7:=Lib.hid hnb7; have HQ7:=Lib.hid (HNBQ.out.keep (hgr7.block gq HLT.out (fun e=>by injection e with e; exact HNE.out e.symm)));have HB7:=Lib.hid (HBR.out.grown hgr7 (Nat.le_trans HGQ.out (Nat.le_of_lt HLT.out)) (by intro q hq; injection hq with hq; rw [<- hq]; exact HG3.out)); clear hol hod hov hnb7 hgr7 HS)
     | (go_at_call 184; refine (HT2.out _ o HOL.out HNB7.out.rd).mono ?_; rintro e w8 ⟨A8,c8,rfl,hown8,hc8,hb8⟩; have HRD8:=Lib.hid hown8.rd; have HC8:=Lib.hid hc8; have HB8:=Lib.hid hb8; clear hown8 hc8 hb8)
     | (go_at_call 127; refine (HT3.out _ A8 c8 o HOL.out HOD.out HC8.out HRD8.out).mono ?_; rintro e w9 ⟨rfl,rfl⟩)
     | (go_at_call 127; refine (HT1.out _ HQ7.out).mono ?_; rintro e w9 ⟨rfl,rfl⟩))
    go_ret2
    unfold Q1p;obtain⟨hV,hX,hla1,hm1⟩:=HVX.out;have hdi:=HDI.out;rw [hV,hX] at hdi;obtain⟨q1,q2,q3⟩:=hdi.done hs0 (by rw [<- hV]; exact HLV2.out);have hov:Q5 B32 o=x % y:=by rw [HOV.out,q2,q3]
    have hq8:=HQ7.out.below HB8.out HQ7.out.lt;have hrdq:=Q20 Qn hq8.rd0 HDI.out.dq;have hrdr:=Q20 Qn HRD8.out HOD.out;have hlq:=Z3 Qn (Y6 Q HDI.out.dq);have hlr:=Z3 Qn (Y6 o HOD.out);rw [q1] at hrdq hlq;rw [hov] at hrdr hlr;rw [q1,hov];exact⟨some ⟨gq,0,none⟩,m1,A8,c8,rfl,hrdq,hrdr,by rw [<- HQL.out]; exact hlq,Nat.le_trans hlr (by rw [<- HOL.out]; exact HC8.out),HB7.out.trans (HB8.out.mono HB7.out.size)⟩
  . obtain⟨j,rfl⟩:∃ j,j'=j+1:=⟨j' - 1,by omega⟩
    obtain rfl:z=(j:Int):=by omega
    have hjm:j<=m:=by have:=HM2.out; omega
    obtain⟨hsp1,hsp2,hsp3⟩:=HDI.out.split HLV2.out hjm;have hLl:L.length=la1:=by rw [HDI.out.l,HM2.out.2]
    have hnk:=HK.out;have hm2:=HM2.out;have hbs:=HBS.out;have hm1':=HM1.out;obtain⟨u,hu⟩:∃ u,u=Q22 L j n:=⟨_,rfl⟩
    have hul:u.length=n+1:=by rw [hu]; exact List.length_take_of_le (by rw [List.length_drop]; omega)
    have hud:Ql B32 u:=by rw [hu]; exact (HDI.out.dl.drop j).take _
    obtain⟨jn,hjn⟩:∃ jn,jn=j+n:=⟨_,rfl⟩
    obtain⟨jk,hjk⟩:∃ jk,jk=j+k:=⟨_,rfl⟩
    obtain⟨a1,ha1⟩:∃ a1,a1=u.getD n 0:=⟨_,rfl⟩
    obtain⟨a0,ha0⟩:∃ a0,a0=u.getD k 0:=⟨_,rfl⟩
    have ha1b:a1<4294967296:=by rw [ha1]; exact hud.getD (by decide) n
    have ha0b:a0<4294967296:=by rw [ha0]; exact hud.getD (by decide) k
    have c1:wr.drew.cell? ⟨g,jn,none⟩=some (.int .u32 (a1:Int)):=by
     rw [ha1,hu,Qrs (Nat.le_refl _),hjn];exact HNBL.out.cell (by omega)
    have c0:wr.drew.cell? ⟨g,jk,none⟩=some (.int .u32 (a0:Int)):=by
     rw [ha0,hu,Qrs (by omega),hjk];exact HNBL.out.cell (by omega)
    have w12':IntKind.i64.wrap ((j:Int)+(n:Int))=(jn:Int):=by rw [Qk (by omega) (by omega)]; omega
    have w13':IntKind.i64.wrap ((jn:Int) - 1)=(jk:Int):=by rw [Qk (by omega) (by omega)]; omega
    have w14':=Qu (n:=(a1:Int)) (by omega) (by omega);have w15':=Qu (n:=(a0:Int)) (by omega) (by omega);have w16':=Qym ha1b;have hor:=Z31 ha1b ha0b;obtain⟨top,htop⟩:∃ top,top=a1*4294967296+a0:=⟨_,rfl⟩
    rw [<- htop] at hor;have b1:(jn:Int)<(la1:Int):=by omega
    have b2:(jk:Int)<(la1:Int):=by omega
    have hmo:Tryz.prog.follows .mixedOrders=true:=by kernel_rfl
    -- the divisor's highest digit
    obtain⟨vt,hvt⟩:∃ vt,vt=(dig B32 V).getD k 0:=⟨_,rfl⟩
    have hvt0:vt≠0:=by rw [hvt]; exact Qkh (by rw [HLV2.out,hnk])
    have hvtb:vt<4294967296:=by rw [hvt]; exact (Ql.dig Qn V).getD (by decide) k
    have hkV:k<(dig B32 V).length:=by show k<Q4 V; rw [HLV2.out]; omega
    obtain⟨b3,o3,rfl,hb3,hld3⟩:=Vb Tryz.underlying63 rfl HRV.out hkV;have HLD3:=Lib.hid (fun (w1:World) (hb:Below wr.heap.size wr w1)=>by
     have h1:=hld3 w1 hb;have e:(dig B32 V)[k]'hkV=vt:=by rw [hvt]; simp [hkV]
     rw [e] at h1;exact h1)
    have w17':=Qu (n:=(vt:Int)) (by omega) (by omega);obtain⟨tq,htq⟩:∃ tq,tq=top / vt:=⟨_,rfl⟩
    have htqi:(top:Int) / (vt:Int)=(tq:Int):=by rw [htq]; exact (Int.natCast_ediv top vt).symm
    have hvti:¬ ((vt:Int)=0):=by omega
    have w20':IntKind.u64.wrap (tq:Int)=(tq:Int):=by
     refine Qu (by omega) ?_;have h1:tq<=top:=by rw [htq]; exact Nat.div_le_self _ _
     omega
    obtain⟨gu,hgu⟩:∃ gu,gu=min tq 4294967295:=⟨_,rfl⟩
    have hgui:(if (4294967295:Int)<(tq:Int) then (4294967295:Int) else (tq:Int))=(gu:Int):=by rw [hgu]; split<;>omega
    have hgub:gu<=4294967295:=by omega
    have hge:Hid (Q5 B32 u / V<=gu):=by
     refine Quc (vt:=vt) hud hul HLV2.out hbs.2.1 (by rw [hvt,hnk,Nat.add_sub_cancel]) (by rw [hu]; exact hsp3) ?_;have e:n - 1=k:=by omega
     rw [hgu,htq,htop,ha1,ha0,e]
    have hzj:(0:Int)<=(j:Int):=by omega
    clear hz hj hj0 hsp1 hsp2 hsp3 hLl hnk hm2 hbs hm1' hul ha1 ha0 htop hvt hkV hld3 htq hgu hvt0;have HU:=Lib.hid hu;have HUD:=Lib.hid hud;have HJM:=Lib.hid hjm;have HJN:=Lib.hid hjn;have HJK:=Lib.hid hjk;clear hu hud hjm hjn hjk;have f1:=fun i=>HNBL.out.frozen i;have HQ:Hid (∀ i,wr.drew.frozen? ⟨g,i,none⟩=false):=f1;have fz1:=HQ.out jn;have fz0:=HQ.out jk;clear f1 HQ
    go_wp2
    go_region
    have hdr:Below wr.heap.size wr wr.drew:=(Below.refl _ _).drew;have HNBL1:=Lib.hid (HNBL.out.below hdr HNBL.out.lt);have HNBQ1:=Lib.hid (HNBQ.out.below hdr HNBQ.out.lt);have HBR1:=Lib.hid (HBR.out.trans (hdr.mono HBR.out.size));have HLT1:Hid (gq<wr.drew.heap.size):=Nat.lt_of_lt_of_le HLT.out hdr.size;have HRV1:=Lib.hid (HRV.out.from hdr);have HLD4:=Lib.hid (fun (w1:World) (hb:Below wr.drew.heap.size wr.drew w1)=>HLD3.out w1 (hdr.trans (hb.mono hdr.size)));clear HNBL HNBQ HBR HLT HRV HLD3 hdr c1 c0 fz1 fz0 hb3;generalize wr.drew=W at *
    clear w12' w13' w14' w15' w16' hor b1 b2 hmo ha1b ha0b;have w18':IntKind.i64.wrap ((j:Int)+(n:Int))=(jn:Int):=by have:=HJN.out; have:=HBS.out; have:=HJM.out; have:=HM2.out; have:=HM1.out; rw [Qk (by omega) (by omega)]; omega
    obtain⟨jn1,hjn1⟩:∃ jn1,jn1=jn+1:=⟨_,rfl⟩
    have w19':IntKind.i64.wrap ((jn:Int)+1)=(jn1:Int):=by have:=HJN.out; have:=HBS.out; have:=HJM.out; have:=HM2.out; have:=HM1.out; rw [Qk (by omega) (by omega)]; omega
    have hjl1:(jn1:Int)<=(la1:Int):=by have:=HJN.out; have:=HBS.out; have:=HJM.out; have:=HM2.out; omega
    have hjl2:(j:Int)<=(jn1:Int):=by have:=HJN.out; omega
    have hjl3:(j:Int)<(la1:Int):=by have:=HJN.out; have:=HBS.out; have:=HJM.out; have:=HM2.out; omega
    have hjl4:j<la1:=by omega
    have HJN1:=Lib.hid hjn1;clear hjn1;have hjL:j+(n+1)<=L.length:=by have:=HDI.out.l; have:=HJM.out; omega
    have HTK:Hid (Calls Tryz.prog 187 #[.slice (some ⟨g,j,none⟩) (jn1 - j) (la1 - j),.slice (some ⟨b3,o3,none⟩) n c3,.int .u64 (gu:Int)] W fun e w'=>∃ (o:List Nat) (c:Nat),e = .returned (.bool (decide (0<c)))/\c<=1/\o.length=n+1/\Ql B32 o/\NB w' g 63 .u32 (L.take j++o++L.drop (j+(n+1)))/\W.grownBy w' (some g)/\Q5 B32 o+gu*V=Q5 B32 u+B32^(n+1)*c):=by
     have e:jn1 - j=n+1:=by have:=HJN.out; have:=HJN1.out; omega
     rw [e,HU.out];exact Z0k g j (n+1) (la1 - j) c3 V n gu (some ⟨b3,o3,none⟩) L HLV2.out.symm W HNBL1.out HDI.out.dl hjL (by have:=HBS.out; have:=HB0.out; have:=HK.out; omega) HRV1.out HAP.out (by rw [HLV2.out]; omega) (by omega)
    have HGV:Hid (∀ (o:List Nat) (w1:World),o.length=n+1->Ql B32 o->NB w1 g 63 .u32 (L.take j++o++L.drop (j+(n+1)))->Zk w1 (some ⟨b3,o3,none⟩) V->Calls Tryz.prog 188 #[.slice (some ⟨g,j,none⟩) (jn1 - j) (la1 - j),.slice (some ⟨b3,o3,none⟩) n c3] w1 fun e w'=>∃ (o':List Nat) (c:Nat),e = .returned (.bool (decide (0<c)))/\c<=1/\o'.length=n+1/\Ql B32 o'/\NB w' g 63 .u32 (L.take j++o'++L.drop (j+(n+1)))/\w1.grownBy w' (some g)/\Q5 B32 o'+B32^(n+1)*c=Q5 B32 o+V):=by
     intro o w1 ho hod hnb hrd;have e:jn1 - j=n+1:=by have:=HJN.out; have:=HJN1.out; omega
     obtain⟨e1,e2,e3⟩:=Z1e (L:=L) (j:=j) ho (by omega);have h1:=Z13 g j (n+1) (la1 - j) c3 V n (some ⟨b3,o3,none⟩) (L.take j++o++L.drop (j+(n+1))) HLV2.out.symm w1 hnb (((HDI.out.dl.take j).append hod).append (HDI.out.dl.drop _)) (by rw [Q3b ho hjL]; exact hjL) (by have:=HBS.out; have:=HB0.out; have:=HK.out; omega) hrd HAP.out (by rw [HLV2.out]; omega);rw [e1,e2,e3] at h1;rw [e];exact h1
    clear hjL
    go_wp2_with (first
     | ((with_reducible refine Z4 63 ?_); refine Q9 rfl _ _ rfl _ rfl _ (HLD4.out _ (Below.refl _ _)) ?_)
     | (go_at_call 187; refine (HTK.out).mono ?_; rintro e w7 ⟨o,c,rfl,hc1,hol,hod,hnb7,hgr7,hov⟩
        have HNB7:=Lib.hid hnb7; have HQ7:=Lib.hid (HNBQ1.out.keep (hgr7.block gq HLT1.out (fun e=>by injection e with e; exact HNE.out e.symm)));have HB7:=Lib.hid (HBR1.out.grown hgr7 (Nat.le_trans HGQ.out (Nat.le_of_lt HLT1.out)) (by intro q hq; injection hq with hq; rw [<- hq]; exact HG3.out));have HL7:=Lib.hid (Nat.lt_of_lt_of_le HLT1.out hgr7.size); have HV7:=Lib.hid (Rd.apart HRV1.out HAP.out hgr7);have HOS:=Lib.hid (And.intro hol (And.intro hod (Q5r.taken (V:=V) (n:=n) (Nat.pos_of_ne_zero HV0.out) hge.out hc1 hol hod hov))); clear hc1 hol hod hnb7 hgr7 hov HTK HNBL1 HNBQ1 HBR1 HLT1 HRV1 HLD4 hge))
    go_loopw [15,16] (fun gv ov w2=>∃ (g2:Nat) (owed:Bool) (o:List Nat),gv = .int .u64 g2/\ov = .bool owed/\g2<=4294967295/\(o.length=n+1/\Ql B32 o/\Q5r V (Q5 B32 u) n g2 owed o)/\NB w2 g 63 .u32 (L.take j++o++L.drop (j+(n+1)))/\NB w2 gq 63 .u32 Q/\Below w.heap.size w w2/\gq<w2.heap.size/\Zk w2 (some ⟨b3,o3,none⟩) V) (fun gv _ _=>(intOf gv).toNat)
    case atStart=>exact⟨gu,_,o,rfl,by first|rfl|simp,hgub,HOS.out,HNB7.out,HQ7.out,HB7.out,HL7.out,HV7.out⟩
    case round =>
     clear HOS HNB7 HQ7 HB7 HL7 HV7 hgub;obtain⟨g2,owed,o,rfl,rfl,hg2,hoi,hnb,hnq,hb,hl,hv⟩:=hrel;have HOI:=Lib.hid hoi;have HNB7:=Lib.hid hnb;have HQ7:=Lib.hid hnq;have HB7:=Lib.hid hb;have HL7:=Lib.hid hl;have HV7:=Lib.hid hv;clear hoi hnb hnq hb hl hv
     cases owed with
     | true =>
      obtain⟨g3,rfl⟩:∃ g3,g2=g3+1:=⟨g2 - 1,by have:=Nat.lt_of_le_of_lt (Nat.zero_le _) (HOI.out.2.2.1 rfl).2; omega⟩
      have w21':IntKind.u64.wrap (((g3+1:Nat):Int) - 1)=(g3:Int):=by rw [Qu (by omega) (by omega)]; omega
      have w22':IntKind.u64.wrap ((g3:Int)+1 - 1)=(g3:Int):=by rw [Qu (by omega) (by omega)]; omega
      have w23':IntKind.u64.wrap (g3:Int)=(g3:Int):=by rw [Qu (by omega) (by omega)]
      have HG:=Lib.hid (HGV.out o _ HOI.out.1 HOI.out.2.1 HNB7.out HV7.out)
      go_wp2_with (first
       | (go_at_call 188; refine (HG.out).mono ?_; rintro e w8 ⟨o8,c8,rfl,hc8,hol8,hod8,hnb8,hgr8,hov8⟩
          have HNB8:=Lib.hid hnb8; have HQ8:=Lib.hid (HQ7.out.keep (hgr8.block gq HL7.out (fun e=>by injection e with e; exact HNE.out e.symm)));have HB8:=Lib.hid (HB7.out.grown hgr8 (Nat.le_trans HGQ.out (Nat.le_of_lt HL7.out)) (by intro q hq; injection hq with hq; rw [<- hq]; exact HG3.out));have HL8:=Lib.hid (Nat.lt_of_lt_of_le HL7.out hgr8.size); have HV8:=Lib.hid (Rd.apart HV7.out HAP.out hgr8);have HOS8:=Lib.hid (And.intro hol8 (And.intro hod8 (Q5r.given (V:=V) (n:=n) (Nat.pos_of_ne_zero HV0.out) HOI.out.2.2 hc8 hol8 hod8 hov8))); clear hc8 hol8 hod8 hnb8 hgr8 hov8 HG HOI HNB7 HQ7 HB7 HL7 HV7))
      go_roundw
      case rel=>exact⟨g3,_,o8,by first|rfl|simp,by first|rfl|simp,by omega,HOS8.out,HNB8.out,HQ8.out,HB8.out,HL8.out,HV8.out⟩
      case measure=>simp [intOf]
     | false =>
      clear HGV;have w24':IntKind.u32.wrap (g2:Int)=(g2:Int):=by rw [K7,Nat.mod_eq_of_lt (by omega)]
      have hjm1:(j:Int)<(m1:Int):=by have:=HJM.out; have:=HM2.out; omega
      have hQl:j<Q.length:=by have:=HJM.out; have:=HDI.out.q; omega
      have w25':IntKind.i64.wrap ((j:Int) - 1)=(j:Int) - 1:=by have:=HM1.out; rw [Qk (by omega) (by omega)]
      go_wp2_with (first
       | ((with_reducible refine Z5 63 ?_); refine Je rfl _ _ rfl rfl rfl rfl Zv HQ7.out hQl ?_; intro w8 hnb8 hgr8
          have HQ8:=Lib.hid hnb8; have HNB8:=Lib.hid (HNB7.out.keep (hgr8.block g HNB7.out.lt (fun e=>by injection e with e; exact HNE.out e)));have HB8:=Lib.hid (HB7.out.grown hgr8 (Nat.le_trans HGQ.out (Nat.le_of_lt HL7.out)) (by intro q hq; injection hq with hq; rw [<- hq]; exact HGQ.out));have HL8:=Lib.hid (Nat.lt_of_lt_of_le HL7.out hgr8.size); have HV8:=Lib.hid (Rd.apart HV7.out HAPQ.out hgr8); clear hnb8 hgr8))
      go_roundw
      case rel =>
       obtain⟨q1,q2⟩:=HOI.out.2.2.2 rfl;rw [HU.out] at q1 q2;have hst:=HDI.out.step HLV2.out HJM.out (Nat.pos_of_ne_zero HV0.out) HOI.out.1 HOI.out.2.1 q2;rw [<- q1] at hst;exact⟨j,(j:Int) - 1,_,_,rfl,rfl,by have:=HJM.out; have:=HM2.out; omega,hst,HNB8.out,HQ8.out,HB8.out,HL8.out,HV8.out⟩
      case measure=>simp [intOf]
theorem Q93 (A D:Option Addr) (ca cd x y n m:Nat) (hn:n=Q4 x) (hm:m=Q4 y) (w:World) (h:Zk w A x) (h':Zk w D y) (hx:Q4 x<=900) (hy:Q4 y<=900) (hy0:0<y) :
 Calls Tryz.prog 126 #[.slice A n ca,.slice D m cd] w (Q1p w x y):=by
 by_cases h1:x<y
 . exact Qug A D ca cd x y n m hn hm w h h' (by omega) (by omega) h1
 . by_cases h2:Q4 x<=2
   . exact Qwz A D ca cd x y n m hn hm w h h' h2 hy0 (by omega)
   . have h3:0<Q4 y:=K8 Qn (by omega);by_cases h4:Q4 y=1
     . exact Qyk A D ca cd x y n m hn hm w h h' (by omega) (by omega) h4
     . exact Qts A D ca cd x y n m hn hm w h h' hx (by omega) (by omega) (by omega)
def Qtg (v:Value) (w:World):Nat:=match v with
 | .slice (some ⟨b,off,_⟩) n _=>Q5 B32 ((List.range n).map fun i=>match w.cell? ⟨b,off+i,none⟩ with|some (.int _ z)=>z.toNat|_=>0)
 | _=>0
theorem Qgi {w:World} {A:Option Addr} {c y:Nat} (h:Zk w A y):Qtg (.slice A (Q4 y) c) w=y:=by
 by_cases h0:0<(dig B32 y).length
 . obtain⟨b,off,rfl,hb,_,_⟩:=h 0 _ (Vu h0);have e:((List.range (Q4 y)).map fun i=>match w.cell? ⟨b,off+i,none⟩ with|some (.int _ z)=>z.toNat|_=>0)=dig B32 y:=by
    apply List.ext_getElem
    . simp
    . intro i h1 h2;obtain⟨b',off',e,hb',_,hc⟩:=h i _ (Vu h2);injection e with e;injection e with e1 e2;subst e1; subst e2;have h3:=hc 0 _ rfl;simp only [Nat.mul_one,Nat.add_zero] at h3;simp [h3]
   show Q5 B32 _=y
   rw [e,Zt Qn]
 . have h1:y=0:=by
    rcases Nat.eq_zero_or_pos y with h2|h2
    . exact h2
    . exact absurd (K8 Qn (n:=y) (by omega)) h0
   subst h1
   cases A with
   | none=>rfl
   | some q=>rfl
theorem Qtt (A D:Option Addr) (ca cd x y n m:Nat) (hn:n=Q4 x) (hm:m=Q4 y) (w:World) (h:Zk w A x) (h':Zk w D y) (hx:Q4 x<=900) (hy:Q4 y<=900) :
 Calls Tryz.prog 124 #[.slice A n ca,.slice D m cd] w fun e w'=>∃ A' c',e = .returned (.slice A' (Q4 (Nat.gcd x y)) c')/\Zk w' A' (Nat.gcd x y)/\Below w.heap.size w w':=by
 obtain⟨gc,hgc⟩:∃ gc,gc=Nat.gcd x y:=⟨_,rfl⟩
 have HST:Hid ((n=Q4 x/\m=Q4 y/\Zk w A x/\Zk w D y/\Nat.gcd x y=gc/\Q4 x<=900/\Q4 y<=900)):=⟨hn,hm,h,h',hgc.symm,hx,hy⟩
 rw [<- hgc];clear h h' hx hy hn hm hgc
 go_enter Tryz.func124,Tryz.ntmps124
 go_wp2
 go_loopw [0,1] (fun av bv wr=>∃ (A' D':Option Addr) (ca' cd' x' y' n' m':Nat),av = .slice A' n' ca'/\bv = .slice D' m' cd'/\(n'=Q4 x'/\m'=Q4 y'/\Zk wr A' x'/\Zk wr D' y'/\Nat.gcd x' y'=gc/\Q4 x'<=900/\Q4 y'<=900)/\Below w.heap.size w wr) (fun _ bv wr=>Qtg bv wr)
 case atStart=>exact⟨A,D,ca,cd,x,y,n,m,rfl,rfl,HST.out,Below.refl _ _⟩
 case round =>
  clear HST;obtain⟨A',D',ca',cd',x',y',n',m',rfl,rfl,hst,hb⟩:=hrel;have HST:=Lib.hid hst;have HB:=Lib.hid hb;clear hst hb;by_cases hm0:m'=0
  . subst hm0
    go_wp2
    go_ret
    obtain⟨hn',hm',hr1,hr2,hg,_,_⟩:=HST.out;have hy0:y'=0:=by
     rcases Nat.eq_zero_or_pos y' with h2|h2
     . exact h2
     . have:0<Q4 y':=K8 Qn (by omega);omega
    rw [hy0,Nat.gcd_zero_right] at hg;rw [<- hg];exact⟨A',ca',by rw [hn']; rfl,hr1,HB.out⟩
  . have hm1:(0:Int)<(m':Int):=by omega
    have hy0:0<y':=by
     rcases Nat.eq_zero_or_pos y' with h2|h2
     . subst h2;exact absurd HST.out.2.1 hm0
     . exact h2
    have HD:=Lib.hid (Q93 A' D' ca' cd' x' y' n' m' HST.out.1 HST.out.2.1 wr HST.out.2.2.1 HST.out.2.2.2.1 HST.out.2.2.2.2.2.1 HST.out.2.2.2.2.2.2 hy0)
    go_wp2_with (go_at_call 126; refine (HD.out).mono ?_; rintro e w2 ⟨A1,c1,A2,c2,rfl,hr1,hr2,hl1,hl2,hb2⟩; have HR2:=Lib.hid hr2; have HB2:=Lib.hid hb2; clear hr1 hr2 hl1 hl2 hb2 HD)
    go_roundw
    case rel =>
     obtain⟨hn',hm',hr1,hr2,hg,hl1,hl2⟩:=HST.out;refine⟨D',A2,cd',c2,y',x' % y',m',_,rfl,rfl,⟨hm',rfl,hr2.from HB2.out,HR2.out,?_,hl2,?_⟩,HB.out.trans (HB2.out.mono HB.out.size)⟩
     . rw [<- hg,Nat.gcd_comm y',<- Nat.gcd_rec,Nat.gcd_comm]
     . exact Nat.le_trans (Z3 Qn (Nat.lt_of_lt_of_le (Nat.mod_lt _ hy0) (Nat.le_of_lt (Qv Qn (Nat.le_refl _))))) hl2
    case measure =>
     obtain⟨hn',hm',hr1,hr2,hg,hl1,hl2⟩:=HST.out;rw [hm',Qgi HR2.out,Qgi hr2];exact Nat.mod_lt _ hy0
def Qf7 (w:World) (r:Qd×Int) (e:Ending) (w':World):Prop:=e = .returned (.tuple #[r.1.val,.int .i64 r.2])/\Below w.heap.size w w'
theorem Vf (x:Nat):x<Gf↔Q4 x<=8:=by
 rw [<- Z78];constructor
 . exact fun h=>Z3 Qn h
 . exact fun h=>Qv Qn h
theorem Qi7 {neg:Bool} {x y gc x1 y1:Nat} (hgc:gc=Nat.gcd x y) (hx1:x1=x / gc) (hy1:y1=y / gc):Q7h neg x y=if x1<Gf/\y1<Gf then (⟨neg&&decide (x1≠0),x1,y1⟩,0) else (Zy,3):=by
 unfold Q7h;rw [hx1,hy1,hgc]
set_option maxHeartbeats 8000000 in
theorem Qsl (neg:Bool) (A D:Option Addr) (ca cd x y n m:Nat) (hn:n=Q4 x) (hm:m=Q4 y) (w:World) (h:Zk w A x) (h':Zk w D y) (hx:Q4 x<=900) (hy:Q4 y<=900) (hy0:0<y) :
 Calls Tryz.prog 61 #[.bool neg,.slice A n ca,.slice D m cd] w (Qf7 w (Q7h neg x y)):=by
 obtain⟨gc,hgc⟩:∃ gc,gc=Nat.gcd x y:=⟨_,rfl⟩
 obtain⟨gl,hgl0⟩:∃ gl,gl=Q4 gc:=⟨_,rfl⟩
 have hg0:0<gc:=by rw [hgc]; exact Nat.gcd_pos_of_pos_right _ hy0
 have hgy:gc<=y:=by rw [hgc]; exact Nat.le_of_dvd hy0 (Nat.gcd_dvd_right x y)
 have hgl:Q4 gc<=900:=Nat.le_trans (Z3 Qn (Nat.lt_of_le_of_lt hgy (Qv Qn (Nat.le_refl _)))) hy;have hfb0:=FB.new w Zy;have hb0:Below w.heap.size w (w.alloc (.cells Zy.cells.toArray 66)):=(Below.refl _ _).alloc (Nat.le_refl _) _;have HC:=Lib.hid (Qtt A D ca cd x y n m hn hm _ (h.from hb0) (h'.from hb0) hx hy);rw [<- hgc,<- hgl0] at HC;have HFB0:=Lib.hid hfb0;have HB0:=Lib.hid hb0;have HX:=Lib.hid (fun w1 (hb:Qe w w1)=>h.from hb);have HY:=Lib.hid (fun w1 (hb:Qe w w1)=>h'.from hb);have HLX:=Lib.hid (And.intro hx (And.intro hy (And.intro hn (And.intro hm (And.intro hgl (And.intro hgl0 (And.intro hgc (And.intro hg0 hy0))))))));clear hfb0 hb0 h h' hx hy hgy hgl hgl0 hn hm hy0 hgc;by_cases hg1:gc=1
 . have hd1:decide (gc=1)=true:=by rw [hg1]; rfl
   have HO:=Lib.hid (fun (G:Option Addr) (cg:Nat) (w1:World) (hr:Zk w1 G gc)=>Qqb G cg gl gc HLX.out.2.2.2.2.2.1 w1 hr (by have:=HLX.out; omega));rw [hd1] at HO;have HFIT:=Lib.hid (Qi7 (neg:=neg) (x1:=x) (y1:=y) HLX.out.2.2.2.2.2.2.1 (by rw [hg1,Nat.div_one]) (by rw [hg1,Nat.div_one]));clear hd1 hg1 hg0
   go_enter Tryz.func61,Tryz.ntmps61
   go_upto_region 5 with (first
    | (go_at_call 124; refine (HC.out).mono ?_; rintro e w1 ⟨G,cg,rfl,hrdG,hb1⟩; have HB:=Lib.hid (HB0.out.trans (hb1.mono HB0.out.size)); have HFB:=Lib.hid (HFB0.out.below hb1 HFB0.out.lt); have HG:=Lib.hid hrdG; clear hrdG hb1 HC HB0 HFB0)
    | (go_at_call 125; refine (HO.out _ _ _ HG.out).mono ?_; rintro e w2 ⟨rfl,rfl⟩))
   have HX1:=Lib.hid (HX.out _ HB.out);have HY1:=Lib.hid (HY.out _ HB.out);have HN1:=Lib.hid HLX.out.2.2.1;have HM1:=Lib.hid HLX.out.2.2.2.1;clear HG HX HY HO;by_cases hx8:Q4 x<=8
   . by_cases hy8:Q4 y<=8
     . have HL8:=Lib.hid hx8;have HM8:=Lib.hid hy8;have c1:¬ (8:Int)<(n:Int):=by have:=HN1.out; omega
       have c2:¬ (8:Int)<(m:Int):=by have:=HM1.out; omega
       clear hx8 hy8
       cases neg with
       | false =>
        have HFB9:=Lib.hid (FB.new w2 Zy);have HA9:Hid (Qe w2 (w2.alloc (.cells Zy.cells.toArray 66))):=(Below.refl _ _).alloc (Nat.le_refl _) _
        go_wp2_with (first
         | ((with_reducible refine Z5 66 ?_); refine Zm (f:=⟨false,0,0⟩) rfl _ _ rfl rfl rfl HFB9.out ?_; intro w5 hfb5 hgr5
            have C5:Hid (Qe w2 w5):=HA9.out.grown hgr5 HA9.out.size (by intro q hq; injection hq with hq; omega);have F5:=Lib.hid hfb5; clear hfb5 hgr5 HFB9)
         | ((with_reducible refine Jw ?_); refine Ym rfl _ _ _ _ rfl 63 Tryz.underlying144 Zv ⟨false,0,0⟩ ⟨false,x,0⟩ rfl rfl HN1.out HL8.out (by decide) (Q32 _ _ _ HL8.out) F5.out (HX1.out.from C5.out) ?_; intro w6 hfb6 hgr6
            have C6:Hid (Qe w2 w6):=C5.out.grown hgr6 C5.out.size (by intro q hq; injection hq with hq; omega);have F6:=Lib.hid hfb6; clear hfb6 hgr6 F5)
         | ((with_reducible refine Jw ?_); refine Ym rfl _ _ _ _ rfl 63 Tryz.underlying144 Zv ⟨false,x,0⟩ ⟨false,x,y⟩ rfl rfl HM1.out HM8.out (by decide) (Q38 _ _ _ HM8.out) F6.out (HY1.out.from C6.out) ?_; intro w7 hfb7 hgr7
            have C7:Hid (Qe w2 w7):=C6.out.grown hgr7 C6.out.size (by intro q hq; injection hq with hq; omega);have F7:=Lib.hid hfb7; have R7:=Lib.hid (HFB.out.below C7.out HFB.out.lt); clear hfb7 hgr7 F6)
         | ((with_reducible refine Z4 66 ?_); refine Q9 rfl _ _ rfl _ rfl _ F7.out.ld ?_)
         | ((with_reducible refine Z5 66 ?_); refine Zm (f:=⟨false,x,y⟩) rfl _ _ rfl rfl rfl R7.out ?_; intro w8 hfb8 hgr8))
        refine bodyPost_ret (Zq rfl _ rfl hfb8) rfl ?_;refine⟨?_,(HB.out.trans (C7.out.mono HB.out.size)).grown hgr8 (Nat.le_trans HB.out.size C7.out.size) (by intro q hq; injection hq with hq; omega)⟩;rw [HFIT.out,if_pos ⟨(Vf _).2 HL8.out,(Vf _).2 HM8.out⟩];rfl
       | true =>
        by_cases hx0:x=0
        . have hn1:(n:Int)=0:=by rw [HN1.out,hx0]; rfl
          have HX0:=Lib.hid hx0;clear hx0;have HFB9:=Lib.hid (FB.new w2 Zy);have HA9:Hid (Qe w2 (w2.alloc (.cells Zy.cells.toArray 66))):=(Below.refl _ _).alloc (Nat.le_refl _) _
          go_wp2_with (first
           | ((with_reducible refine Z5 66 ?_); refine Zm (f:=⟨false,0,0⟩) rfl _ _ rfl rfl rfl HFB9.out ?_; intro w5 hfb5 hgr5
              have C5:Hid (Qe w2 w5):=HA9.out.grown hgr5 HA9.out.size (by intro q hq; injection hq with hq; omega);have F5:=Lib.hid hfb5; clear hfb5 hgr5 HFB9)
           | ((with_reducible refine Jw ?_); refine Ym rfl _ _ _ _ rfl 63 Tryz.underlying144 Zv ⟨false,0,0⟩ ⟨false,x,0⟩ rfl rfl HN1.out HL8.out (by decide) (Q32 _ _ _ HL8.out) F5.out (HX1.out.from C5.out) ?_; intro w6 hfb6 hgr6
              have C6:Hid (Qe w2 w6):=C5.out.grown hgr6 C5.out.size (by intro q hq; injection hq with hq; omega);have F6:=Lib.hid hfb6; clear hfb6 hgr6 F5)
           | ((with_reducible refine Jw ?_); refine Ym rfl _ _ _ _ rfl 63 Tryz.underlying144 Zv ⟨false,x,0⟩ ⟨false,x,y⟩ rfl rfl HM1.out HM8.out (by decide) (Q38 _ _ _ HM8.out) F6.out (HY1.out.from C6.out) ?_; intro w7 hfb7 hgr7
              have C7:Hid (Qe w2 w7):=C6.out.grown hgr7 C6.out.size (by intro q hq; injection hq with hq; omega);have F7:=Lib.hid hfb7; have R7:=Lib.hid (HFB.out.below C7.out HFB.out.lt); clear hfb7 hgr7 F6)
           | ((with_reducible refine Z4 66 ?_); refine Q9 rfl _ _ rfl _ rfl _ F7.out.ld ?_)
           | ((with_reducible refine Z5 66 ?_); refine Zm (f:=⟨false,x,y⟩) rfl _ _ rfl rfl rfl R7.out ?_; intro w8 hfb8 hgr8))
          refine bodyPost_ret (Zq rfl _ rfl hfb8) rfl ?_;refine⟨?_,(HB.out.trans (C7.out.mono HB.out.size)).grown hgr8 (Nat.le_trans HB.out.size C7.out.size) (by intro q hq; injection hq with hq; omega)⟩;rw [HFIT.out,if_pos ⟨(Vf _).2 HL8.out,(Vf _).2 HM8.out⟩];simp [HX0.out]
        . have hn1:(0:Int)<(n:Int):=by rw [HN1.out]; have:0<Q4 x:=K8 Qn hx0; omega
          have hn2:0<n:=by omega
          have HX0:=Lib.hid hx0;clear hx0;have HFB9:=Lib.hid (FB.new w2 Zy);have HA9:Hid (Qe w2 (w2.alloc (.cells Zy.cells.toArray 66))):=(Below.refl _ _).alloc (Nat.le_refl _) _
          go_wp2_with (first
           | ((with_reducible refine Z5 66 ?_); refine Zm (f:=⟨true,0,0⟩) rfl _ _ rfl rfl rfl HFB9.out ?_; intro w5 hfb5 hgr5
              have C5:Hid (Qe w2 w5):=HA9.out.grown hgr5 HA9.out.size (by intro q hq; injection hq with hq; omega);have F5:=Lib.hid hfb5; clear hfb5 hgr5 HFB9)
           | ((with_reducible refine Jw ?_); refine Ym rfl _ _ _ _ rfl 63 Tryz.underlying144 Zv ⟨true,0,0⟩ ⟨true,x,0⟩ rfl rfl HN1.out HL8.out (by decide) (Q32 _ _ _ HL8.out) F5.out (HX1.out.from C5.out) ?_; intro w6 hfb6 hgr6
              have C6:Hid (Qe w2 w6):=C5.out.grown hgr6 C5.out.size (by intro q hq; injection hq with hq; omega);have F6:=Lib.hid hfb6; clear hfb6 hgr6 F5)
           | ((with_reducible refine Jw ?_); refine Ym rfl _ _ _ _ rfl 63 Tryz.underlying144 Zv ⟨true,x,0⟩ ⟨true,x,y⟩ rfl rfl HM1.out HM8.out (by decide) (Q38 _ _ _ HM8.out) F6.out (HY1.out.from C6.out) ?_; intro w7 hfb7 hgr7
              have C7:Hid (Qe w2 w7):=C6.out.grown hgr7 C6.out.size (by intro q hq; injection hq with hq; omega);have F7:=Lib.hid hfb7; have R7:=Lib.hid (HFB.out.below C7.out HFB.out.lt); clear hfb7 hgr7 F6)
           | ((with_reducible refine Z4 66 ?_); refine Q9 rfl _ _ rfl _ rfl _ F7.out.ld ?_)
           | ((with_reducible refine Z5 66 ?_); refine Zm (f:=⟨true,x,y⟩) rfl _ _ rfl rfl rfl R7.out ?_; intro w8 hfb8 hgr8))
          refine bodyPost_ret (Zq rfl _ rfl hfb8) rfl ?_;refine⟨?_,(HB.out.trans (C7.out.mono HB.out.size)).grown hgr8 (Nat.le_trans HB.out.size C7.out.size) (by intro q hq; injection hq with hq; omega)⟩;rw [HFIT.out,if_pos ⟨(Vf _).2 HL8.out,(Vf _).2 HM8.out⟩];simp [HX0.out]
     . have c1:¬ (8:Int)<(n:Int):=by have:=HN1.out; omega
       have c2:(8:Int)<(m:Int):=by have:=HM1.out; omega
       have HE:=Lib.hid hy8;clear hx8 hy8
       go_wp2_with (first
        | ((with_reducible refine Z5 66 ?_); refine Zm (f:=Zy) rfl _ _ rfl rfl rfl HFB.out ?_; intro w5 hfb5 hgr5))
       refine bodyPost_ret (Zq rfl _ rfl hfb5) rfl ?_;refine⟨?_,HB.out.grown hgr5 HB.out.size (by intro q hq; injection hq with hq; omega)⟩;rw [HFIT.out,if_neg (fun h=>HE.out ((Vf _).1 h.2))];rfl
   . have c1:(8:Int)<(n:Int):=by have:=HN1.out; omega
     have HE:=Lib.hid hx8;clear hx8
     go_wp2_with (first
      | ((with_reducible refine Z5 66 ?_); refine Zm (f:=Zy) rfl _ _ rfl rfl rfl HFB.out ?_; intro w5 hfb5 hgr5))
     refine bodyPost_ret (Zq rfl _ rfl hfb5) rfl ?_;refine⟨?_,HB.out.grown hgr5 HB.out.size (by intro q hq; injection hq with hq; omega)⟩;rw [HFIT.out,if_neg (fun h=>HE.out ((Vf _).1 h.1))];rfl
 . have hd1:decide (gc=1)=false:=decide_eq_false hg1;have HO:=Lib.hid (fun (G:Option Addr) (cg:Nat) (w1:World) (hr:Zk w1 G gc)=>Qqb G cg gl gc HLX.out.2.2.2.2.2.1 w1 hr (by have:=HLX.out; omega));rw [hd1] at HO;obtain⟨x1,hx1⟩:∃ x1,x1=x / gc:=⟨_,rfl⟩
   obtain⟨y1,hy1⟩:∃ y1,y1=y / gc:=⟨_,rfl⟩
   obtain⟨n1,hn1⟩:∃ n1,n1=Q4 x1:=⟨_,rfl⟩
   obtain⟨m1,hm1⟩:∃ m1,m1=Q4 y1:=⟨_,rfl⟩
   have HFIT:=Lib.hid (Qi7 (neg:=neg) (x1:=x1) (y1:=y1) HLX.out.2.2.2.2.2.2.1 hx1 hy1);have HD1:Hid (∀ (G:Option Addr) (cg:Nat) (w1:World),Qe w w1->Zk w1 G gc->Calls Tryz.prog 126 #[.slice A n ca,.slice G gl cg] w1 fun e w'=>∃ A1 c1 A2 n2 c2,e = .returned (.tuple #[.slice A1 n1 c1,.slice A2 n2 c2])/\Zk w' A1 x1/\Qe w1 w'):=by
    intro G cg w1 hb hr;obtain⟨l1,l2,l3,l4,l5,l6,l7,l8,l9⟩:=HLX.out;refine (Q93 A G ca cg x gc n gl l3 l6 w1 (HX.out w1 hb) hr l1 l5 l8).mono ?_
    rintro e w' ⟨A1,c1,A2,c2,rfl,hr1,hr2,hl1,hl2,hb2⟩
    rw [<- hx1] at hr1 ⊢;rw [<- hn1];exact⟨A1,c1,A2,_,c2,rfl,hr1,hb2⟩
   have HD2:Hid (∀ (G:Option Addr) (cg:Nat) (w1:World),Qe w w1->Zk w1 G gc->Calls Tryz.prog 126 #[.slice D m cd,.slice G gl cg] w1 fun e w'=>∃ A1 c1 A2 n2 c2,e = .returned (.tuple #[.slice A1 m1 c1,.slice A2 n2 c2])/\Zk w' A1 y1/\Qe w1 w'):=by
    intro G cg w1 hb hr;obtain⟨l1,l2,l3,l4,l5,l6,l7,l8,l9⟩:=HLX.out;refine (Q93 D G cd cg y gc m gl l4 l6 w1 (HY.out w1 hb) hr l2 l5 l8).mono ?_
    rintro e w' ⟨A1,c1,A2,c2,rfl,hr1,hr2,hl1,hl2,hb2⟩
    rw [<- hy1] at hr1 ⊢;rw [<- hm1];exact⟨A1,c1,A2,_,c2,rfl,hr1,hb2⟩
   have HN1:=Lib.hid hn1;have HM1:=Lib.hid hm1;clear hd1 hg1 hg0 hn1 hm1 hx1 hy1
   go_enter Tryz.func61,Tryz.ntmps61
   go_upto_region 5 with (first
    | (go_at_call 124; refine (HC.out).mono ?_; rintro e w1 ⟨G,cg,rfl,hrdG,hb1⟩; have HB1:=Lib.hid (HB0.out.trans (hb1.mono HB0.out.size)); have HFB1:=Lib.hid (HFB0.out.below hb1 HFB0.out.lt); have HG:=Lib.hid hrdG; clear hrdG hb1 HC HB0 HFB0)
    | (go_at_call 125; refine (HO.out _ _ _ HG.out).mono ?_; rintro e w2 ⟨rfl,hw2⟩; subst hw2)
    | (go_at_call 126; refine (HD1.out _ _ _ HB1.out HG.out).mono ?_; rintro e w3 ⟨A3,c3,A4,n4,c4,rfl,hr3,hb3⟩; have HB3:=Lib.hid (HB1.out.trans (hb3.mono HB1.out.size)); have HFB3:=Lib.hid (HFB1.out.below hb3 HFB1.out.lt); have HG3:=Lib.hid (HG.out.from hb3); have HX3:=Lib.hid hr3; clear hr3 hb3 HB1 HFB1 HG HD1)
    | (go_at_call 126; refine (HD2.out _ _ _ HB3.out HG3.out).mono ?_; rintro e wz ⟨A5,c5,A6,n6,c6,rfl,hr5,hb5⟩; have HB:=Lib.hid (HB3.out.trans (hb5.mono HB3.out.size)); have HFB:=Lib.hid (HFB3.out.below hb5 HFB3.out.lt); have HX1:=Lib.hid (HX3.out.from hb5); have HY1:=Lib.hid hr5; clear hr5 hb5 HB3 HFB3 HG3 HX3 HD2))
   clear HX HY HO;by_cases hx8:Q4 x1<=8
   . by_cases hy8:Q4 y1<=8
     . have HL8:=Lib.hid hx8;have HM8:=Lib.hid hy8;have c1:¬ (8:Int)<(n1:Int):=by have:=HN1.out; omega
       have c2:¬ (8:Int)<(m1:Int):=by have:=HM1.out; omega
       clear hx8 hy8
       cases neg with
       | false =>
        have HFB9:=Lib.hid (FB.new wz Zy);have HA9:Hid (Qe wz (wz.alloc (.cells Zy.cells.toArray 66))):=(Below.refl _ _).alloc (Nat.le_refl _) _
        go_wp2_with (first
         | ((with_reducible refine Z5 66 ?_); refine Zm (f:=⟨false,0,0⟩) rfl _ _ rfl rfl rfl HFB9.out ?_; intro w5 hfb5 hgr5
            have C5:Hid (Qe wz w5):=HA9.out.grown hgr5 HA9.out.size (by intro q hq; injection hq with hq; omega);have F5:=Lib.hid hfb5; clear hfb5 hgr5 HFB9)
         | ((with_reducible refine Jw ?_); refine Ym rfl _ _ _ _ rfl 63 Tryz.underlying144 Zv ⟨false,0,0⟩ ⟨false,x1,0⟩ rfl rfl HN1.out HL8.out (by decide) (Q32 _ _ _ HL8.out) F5.out (HX1.out.from C5.out) ?_; intro w6 hfb6 hgr6
            have C6:Hid (Qe wz w6):=C5.out.grown hgr6 C5.out.size (by intro q hq; injection hq with hq; omega);have F6:=Lib.hid hfb6; clear hfb6 hgr6 F5)
         | ((with_reducible refine Jw ?_); refine Ym rfl _ _ _ _ rfl 63 Tryz.underlying144 Zv ⟨false,x1,0⟩ ⟨false,x1,y1⟩ rfl rfl HM1.out HM8.out (by decide) (Q38 _ _ _ HM8.out) F6.out (HY1.out.from C6.out) ?_; intro w7 hfb7 hgr7
            have C7:Hid (Qe wz w7):=C6.out.grown hgr7 C6.out.size (by intro q hq; injection hq with hq; omega);have F7:=Lib.hid hfb7; have R7:=Lib.hid (HFB.out.below C7.out HFB.out.lt); clear hfb7 hgr7 F6)
         | ((with_reducible refine Z4 66 ?_); refine Q9 rfl _ _ rfl _ rfl _ F7.out.ld ?_)
         | ((with_reducible refine Z5 66 ?_); refine Zm (f:=⟨false,x1,y1⟩) rfl _ _ rfl rfl rfl R7.out ?_; intro w8 hfb8 hgr8))
        refine bodyPost_ret (Zq rfl _ rfl hfb8) rfl ?_;refine⟨?_,(HB.out.trans (C7.out.mono HB.out.size)).grown hgr8 (Nat.le_trans HB.out.size C7.out.size) (by intro q hq; injection hq with hq; omega)⟩;rw [HFIT.out,if_pos ⟨(Vf _).2 HL8.out,(Vf _).2 HM8.out⟩];rfl
       | true =>
        by_cases hx0:x1=0
        . have hn1:(n1:Int)=0:=by rw [HN1.out,hx0]; rfl
          have HX0:=Lib.hid hx0;clear hx0;have HFB9:=Lib.hid (FB.new wz Zy);have HA9:Hid (Qe wz (wz.alloc (.cells Zy.cells.toArray 66))):=(Below.refl _ _).alloc (Nat.le_refl _) _
          go_wp2_with (first
           | ((with_reducible refine Z5 66 ?_); refine Zm (f:=⟨false,0,0⟩) rfl _ _ rfl rfl rfl HFB9.out ?_; intro w5 hfb5 hgr5
              have C5:Hid (Qe wz w5):=HA9.out.grown hgr5 HA9.out.size (by intro q hq; injection hq with hq; omega);have F5:=Lib.hid hfb5; clear hfb5 hgr5 HFB9)
           | ((with_reducible refine Jw ?_); refine Ym rfl _ _ _ _ rfl 63 Tryz.underlying144 Zv ⟨false,0,0⟩ ⟨false,x1,0⟩ rfl rfl HN1.out HL8.out (by decide) (Q32 _ _ _ HL8.out) F5.out (HX1.out.from C5.out) ?_; intro w6 hfb6 hgr6
              have C6:Hid (Qe wz w6):=C5.out.grown hgr6 C5.out.size (by intro q hq; injection hq with hq; omega);have F6:=Lib.hid hfb6; clear hfb6 hgr6 F5)
           | ((with_reducible refine Jw ?_); refine Ym rfl _ _ _ _ rfl 63 Tryz.underlying144 Zv ⟨false,x1,0⟩ ⟨false,x1,y1⟩ rfl rfl HM1.out HM8.out (by decide) (Q38 _ _ _ HM8.out) F6.out (HY1.out.from C6.out) ?_; intro w7 hfb7 hgr7
              have C7:Hid (Qe wz w7):=C6.out.grown hgr7 C6.out.size (by intro q hq; injection hq with hq; omega);have F7:=Lib.hid hfb7; have R7:=Lib.hid (HFB.out.below C7.out HFB.out.lt); clear hfb7 hgr7 F6)
           | ((with_reducible refine Z4 66 ?_); refine Q9 rfl _ _ rfl _ rfl _ F7.out.ld ?_)
           | ((with_reducible refine Z5 66 ?_); refine Zm (f:=⟨false,x1,y1⟩) rfl _ _ rfl rfl rfl R7.out ?_; intro w8 hfb8 hgr8))
          refine bodyPost_ret (Zq rfl _ rfl hfb8) rfl ?_;refine⟨?_,(HB.out.trans (C7.out.mono HB.out.size)).grown hgr8 (Nat.le_trans HB.out.size C7.out.size) (by intro q hq; injection hq with hq; omega)⟩;rw [HFIT.out,if_pos ⟨(Vf _).2 HL8.out,(Vf _).2 HM8.out⟩];simp [HX0.out]
        . have hn1:(0:Int)<(n1:Int):=by rw [HN1.out]; have:0<Q4 x1:=K8 Qn hx0; omega
          have hn2:0<n1:=by omega
          have HX0:=Lib.hid hx0;clear hx0;have HFB9:=Lib.hid (FB.new wz Zy);have HA9:Hid (Qe wz (wz.alloc (.cells Zy.cells.toArray 66))):=(Below.refl _ _).alloc (Nat.le_refl _) _
          go_wp2_with (first
           | ((with_reducible refine Z5 66 ?_); refine Zm (f:=⟨true,0,0⟩) rfl _ _ rfl rfl rfl HFB9.out ?_; intro w5 hfb5 hgr5
              have C5:Hid (Qe wz w5):=HA9.out.grown hgr5 HA9.out.size (by intro q hq; injection hq with hq; omega);have F5:=Lib.hid hfb5; clear hfb5 hgr5 HFB9)
           | ((with_reducible refine Jw ?_); refine Ym rfl _ _ _ _ rfl 63 Tryz.underlying144 Zv ⟨true,0,0⟩ ⟨true,x1,0⟩ rfl rfl HN1.out HL8.out (by decide) (Q32 _ _ _ HL8.out) F5.out (HX1.out.from C5.out) ?_; intro w6 hfb6 hgr6
              have C6:Hid (Qe wz w6):=C5.out.grown hgr6 C5.out.size (by intro q hq; injection hq with hq; omega);have F6:=Lib.hid hfb6; clear hfb6 hgr6 F5)
           | ((with_reducible refine Jw ?_); refine Ym rfl _ _ _ _ rfl 63 Tryz.underlying144 Zv ⟨true,x1,0⟩ ⟨true,x1,y1⟩ rfl rfl HM1.out HM8.out (by decide) (Q38 _ _ _ HM8.out) F6.out (HY1.out.from C6.out) ?_; intro w7 hfb7 hgr7
              have C7:Hid (Qe wz w7):=C6.out.grown hgr7 C6.out.size (by intro q hq; injection hq with hq; omega);have F7:=Lib.hid hfb7; have R7:=Lib.hid (HFB.out.below C7.out HFB.out.lt); clear hfb7 hgr7 F6)
           | ((with_reducible refine Z4 66 ?_); refine Q9 rfl _ _ rfl _ rfl _ F7.out.ld ?_)
           | ((with_reducible refine Z5 66 ?_); refine Zm (f:=⟨true,x1,y1⟩) rfl _ _ rfl rfl rfl R7.out ?_; intro w8 hfb8 hgr8))
          refine bodyPost_ret (Zq rfl _ rfl hfb8) rfl ?_;refine⟨?_,(HB.out.trans (C7.out.mono HB.out.size)).grown hgr8 (Nat.le_trans HB.out.size C7.out.size) (by intro q hq; injection hq with hq; omega)⟩;rw [HFIT.out,if_pos ⟨(Vf _).2 HL8.out,(Vf _).2 HM8.out⟩];simp [HX0.out]
     . have c1:¬ (8:Int)<(n1:Int):=by have:=HN1.out; omega
       have c2:(8:Int)<(m1:Int):=by have:=HM1.out; omega
       have HE:=Lib.hid hy8;clear hx8 hy8
       go_wp2_with (first
        | ((with_reducible refine Z5 66 ?_); refine Zm (f:=Zy) rfl _ _ rfl rfl rfl HFB.out ?_; intro w5 hfb5 hgr5))
       refine bodyPost_ret (Zq rfl _ rfl hfb5) rfl ?_;refine⟨?_,HB.out.grown hgr5 HB.out.size (by intro q hq; injection hq with hq; omega)⟩;rw [HFIT.out,if_neg (fun h=>HE.out ((Vf _).1 h.2))];rfl
   . have c1:(8:Int)<(n1:Int):=by have:=HN1.out; omega
     have HE:=Lib.hid hx8;clear hx8
     go_wp2_with (first
      | ((with_reducible refine Z5 66 ?_); refine Zm (f:=Zy) rfl _ _ rfl rfl rfl HFB.out ?_; intro w5 hfb5 hgr5))
     refine bodyPost_ret (Zq rfl _ rfl hfb5) rfl ?_;refine⟨?_,HB.out.grown hgr5 HB.out.size (by intro q hq; injection hq with hq; omega)⟩;rw [HFIT.out,if_neg (fun h=>HE.out ((Vf _).1 h.1))];rfl
end Go.Proofs.YtffeegebohigdaaGreat
