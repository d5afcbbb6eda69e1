/-
  What the loops over digits keep, in plain Lean: sums, differences, products, quotients.
-/
import Derived.Test.YtffeegebohigdaaGreatMs1
import Derived.RangeFuncFrom
import Derived.RangeFuncNested
import Derived.RangeFuncBound
import Derived.RangeFuncCalls
import Derived.RangeFuncLeaves
import Derived.Shelf.Abstract
import Derived.Shelf.RegionOpen
import Derived.OwnWalkIn
import Derived.TacticsInMore
import Derived.LoopNIn
import Derived.LoopIn
set_option linter.unusedVariables false
set_option linter.unusedSimpArgs false
set_option maxRecDepth 100000
set_option maxHeartbeats 4000000
namespace Go.Proofs.YtffeegebohigdaaGreat
def Ql (B:Nat) (l:List Nat):Prop:=∀ d∈l,d<B
theorem Ql.take {B:Nat} {l:List Nat} (h:Ql B l) (k:Nat):Ql B (l.take k):=fun d hd=>h d (List.mem_of_mem_take hd)
theorem Ql.drop {B:Nat} {l:List Nat} (h:Ql B l) (k:Nat):Ql B (l.drop k):=fun d hd=>h d (List.mem_of_mem_drop hd)
theorem Ql.get {B:Nat} {l:List Nat} (h:Ql B l) {k:Nat} (hk:k<l.length):l[k]<B:=h _ (List.getElem_mem hk)
theorem Ql.set {B:Nat} {l:List Nat} (h:Ql B l) (k x:Nat) (hx:x<B):Ql B (l.set k x):=fun d hd=>by
 rcases List.mem_or_eq_of_mem_set hd with h1|h1
 . exact h d h1
 . rw [h1]; exact hx
theorem Ql.append {B:Nat} {l m:List Nat} (h:Ql B l) (h':Ql B m):Ql B (l++m):=fun d hd=>by
 rcases List.mem_append.1 hd with h1|h1
 . exact h d h1
 . exact h' d h1
theorem Ql.zeros {B:Nat} (hB:0<B) (n:Nat):Ql B (List.replicate n 0):=fun d hd=>by
 rw [(List.mem_replicate.1 hd).2]; exact hB
theorem Ql.getD {B:Nat} {l:List Nat} (h:Ql B l) (hB:0<B) (k:Nat):l.getD k 0<B:=by
 rcases Nat.lt_or_ge k l.length with hk|hk
 . have e:l.getD k 0=l[k]:=by simp [hk]
   rw [e]; exact h.get hk
 . have e:l.getD k 0=0:=by simp [hk]
   rw [e]; exact hB
theorem Ql.dig {B:Nat} (hB:2<=B) (n:Nat):Ql B (dig B n):=Z0y hB n
theorem Zx (B:Nat) (l:List Nat) (i:Nat):Q5 B (l.take (i+1))=Q5 B (l.take i)+B^i*l.getD i 0:=by
 rcases Nat.lt_or_ge i l.length with h|h
 . have e:l.getD i 0=l[i]:=by simp [h]
   rw [e,Q1w h]
 . have e:l.getD i 0=0:=by simp [h]
   rw [e,List.take_of_length_le (by omega),List.take_of_length_le h,Nat.mul_zero,Nat.add_zero]
theorem take_set (l:List Nat) (i x:Nat):(l.set i x).take i=l.take i:=by
 rw [List.take_set];exact List.set_eq_of_length_le (by simp; omega)
theorem Q2h (B:Nat) {l:List Nat} {i x:Nat} (h:i<l.length):Q5 B ((l.set i x).take (i+1))=Q5 B (l.take i)+B^i*x:=by
 rw [Zx,take_set];simp [h]
theorem drop_set (l:List Nat) (i x:Nat):(l.set i x).drop (i+1)=l.drop (i+1):=by
 rw [List.drop_set];simp
theorem Qzb {B:Nat} {l:List Nat} (h:∀ d∈l,d=0):Q5 B l=0:=by
 induction l with
 | nil=>rfl
 | cons d l ih =>
  rw [Gm,h d (by simp),ih (fun e he=>h e (by simp [he]))];simp
theorem Qlu {B:Nat} {l:List Nat} {k:Nat} (h:∀ d∈l.drop k,d=0):Q5 B (l.take k)=Q5 B l:=by
 rw [V7 B l k,Qzb h];simp
theorem Qav {B:Nat} (hB:2<=B) {l:List Nat} (hl:Ql B l) {k:Nat} (hk:k<=l.length) (hz:∀ d∈l.drop k,d=0) (he:k=0\/∃ j,k=j+1/\l.getD j 0≠0):dig B (Q5 B l)=l.take k:=by
 rw [<- Qlu hz];refine Qvb hB _ (hl.take k) fun d hd => ?_;rcases he with rfl|⟨j,rfl,hj⟩
 . simp at hd
 . rw [List.getLast?_eq_getElem?] at hd;have e:(l.take (j+1)).length - 1=j:=by simp; omega
   rw [e,List.getElem?_take,if_pos (by omega)] at hd;have hjl:j<l.length:=by omega
   rw [List.getElem?_eq_getElem hjl] at hd;injection hd with hd;simp [hjl] at hj;omega
theorem Qnz {B:Nat} (_hB:2<=B) {a b o:List Nat} {i c:Nat} (hi:i<o.length) (h:Q5 B (o.take i)+B^i*c=Q5 B (a.take i)+Q5 B (b.take i)) :
 Q5 B ((o.set i ((c+a.getD i 0+b.getD i 0) % B)).take (i+1))+B^(i+1)*((c+a.getD i 0+b.getD i 0) / B)=Q5 B (a.take (i+1))+Q5 B (b.take (i+1)):=by
 rw [Q2h B hi,Zx,Zx,Nat.pow_succ];have h1:=Nat.mod_add_div (c+a.getD i 0+b.getD i 0) B;generalize (c+a.getD i 0+b.getD i 0) % B=r at *
 generalize (c+a.getD i 0+b.getD i 0) / B=q at *
 grind
theorem Qww {B:Nat} {b o O:List Nat} {i k x c:Nat} (hk:i+k<o.length) (hd:o.drop (i+k)=O.drop (i+k)) (h:Q5 B (o.take (i+k))+B^(i+k)*c=Q5 B (O.take (i+k))+B^i*(x*Q5 B (b.take k))) :
 Q5 B ((o.set (i+k) ((c+(x*b.getD k 0+o.getD (i+k) 0)) % B)).take (i+(k+1)))+B^(i+(k+1))*((c+(x*b.getD k 0+o.getD (i+k) 0)) / B)=Q5 B (O.take (i+(k+1)))+B^i*(x*Q5 B (b.take (k+1))):=by
 have e:i+(k+1)=(i+k)+1:=by omega
 have hO:o.getD (i+k) 0=O.getD (i+k) 0:=by
  have h1:=congrArg (fun l=>l.getD 0 0) hd;simpa [List.getD] using h1
 rw [e,Q2h B hk,Zx B O,Zx B b,hO,Nat.pow_succ,Nat.pow_add] at *
 have h1:=Nat.mod_add_div (c+(x*b.getD k 0+O.getD (i+k) 0)) B;generalize (c+(x*b.getD k 0+O.getD (i+k) 0)) % B=r at *
 generalize (c+(x*b.getD k 0+O.getD (i+k) 0)) / B=q at *
 grind
theorem Qot {B:Nat} {u v o:List Nat} {i t c owed owed' r:Nat} (hi:i<o.length) (h:Q5 B (o.take i)+t*Q5 B (v.take i)=Q5 B (u.take i)+B^i*(c+owed))
 (hr:r+(c+t*v.getD i 0) % B+owed=u.getD i 0+B*owed') :
 Q5 B ((o.set i r).take (i+1))+t*Q5 B (v.take (i+1))=Q5 B (u.take (i+1))+B^(i+1)*((c+t*v.getD i 0) / B+owed'):=by
 rw [Q2h B hi,Zx,Zx,Nat.pow_succ];have h1:=Nat.mod_add_div (c+t*v.getD i 0) B;generalize (c+t*v.getD i 0) % B=m at *
 generalize (c+t*v.getD i 0) / B=q at *
 grind
theorem Q1y (B:Nat) {l:List Nat} {i:Nat} (h:i<l.length):Q5 B (l.drop i)=l[i]+B*Q5 B (l.drop (i+1)):=by
 rw [List.drop_eq_getElem_cons h,Gm]
theorem Q5u (B:Nat) {l:List Nat} {i x:Nat} (h:i<l.length):Q5 B ((l.set i x).drop i)=x+B*Q5 B (l.drop (i+1)):=by
 rw [Q1y B (by simpa using h),drop_set];simp
theorem Qwl {B by_:Nat} {a o:List Nat} {i r:Nat} (hi:i<a.length) (ho:o.length=a.length) (h:Q5 B (a.drop (i+1))=Q5 B (o.drop (i+1))*by_+r) :
 Q5 B (a.drop i)=Q5 B ((o.set i ((r*B+a[i]) / by_)).drop i)*by_+(r*B+a[i]) % by_:=by
 rw [Q1y B hi,Q5u B (by omega),h];have h1:=Nat.mod_add_div (r*B+a[i]) by_;generalize (r*B+a[i]) % by_=m at *
 generalize (r*B+a[i]) / by_=q at *
 grind
theorem Qqv {B n V W vt top lo lov:Nat} (hB:0<B) (hv:V=lov+B^n*vt) (hw:W=lo+B^n*top) (hlo:lo<B^n) (hvt:0<vt):W / V<=top / vt:=by
 have hP:0<B^n:=Nat.pow_pos hB;have hV:0<V:=by
  have:0<B^n*vt:=Nat.mul_pos hP hvt;omega
 rw [Nat.le_div_iff_mul_le hvt];have h1:W / V*V<=W:=Nat.div_mul_le_self W V;have h2:W / V*(B^n*vt)<=W / V*V:=Nat.mul_le_mul_left _ (by omega);have h3:W / V*(B^n*vt)=B^n*(W / V*vt):=by grind
 rw [h3] at h2;have h4:B^n*(W / V*vt)<B^n*(top+1):=by
  rw [Nat.mul_add];omega
 have:=Nat.lt_of_mul_lt_mul_left h4;omega
theorem Z2g {B n V W vt top lo:Nat} (hv:V<B^n*(vt+1)) (hw:W=lo+B^n*top) (hV:0<V):top / (vt+1)<=W / V:=by
 rw [Nat.le_div_iff_mul_le hV];have h1:top / (vt+1)*(vt+1)<=top:=Nat.div_mul_le_self _ _;have h2:top / (vt+1)*V<=top / (vt+1)*(B^n*(vt+1)):=Nat.mul_le_mul_left _ (by omega);have h3:top / (vt+1)*(B^n*(vt+1))=B^n*(top / (vt+1)*(vt+1)):=by grind
 rw [h3] at h2;have h4:B^n*(top / (vt+1)*(vt+1))<=B^n*top:=Nat.mul_le_mul_left _ h1;omega
theorem Qr3 {g V W W1:Nat} (hV:0<V) (hge:W / V<=g) (h:W1+g*V=W):g=W / V/\W1=W % V:=by
 have h1:g<=W / V:=by
  rw [Nat.le_div_iff_mul_le hV];omega
 have h2:g=W / V:=by omega
 refine⟨h2,?_⟩;have h3:=Nat.mod_add_div W V;rw [h2] at h;rw [Nat.mul_comm V] at h3;omega
theorem Qrd {g V W W1 P:Nat} (h:W1+g*V=W+P) (hW1:W1<P) (hV:0<V):W / V<g:=by
 rw [Nat.div_lt_iff_lt_mul hV];omega
theorem Qz6 {a b s q r:Nat} (hs:0<s) (h:a*s=q*(b*s)+r) (hr:r<b*s):q=a / b/\r=a % b*s:=by
 have hb:0<b:=by
  rcases Nat.eq_zero_or_pos b with h0|h0
  . subst h0; simp at hr
  . exact h0
 have h1:a*s / (b*s)=q:=by
  rw [h];rw [Nat.add_comm,Nat.add_mul_div_right _ _ (Nat.mul_pos hb hs),Nat.div_eq_of_lt hr,Nat.zero_add]
 rw [Nat.mul_div_mul_right _ _ hs] at h1;have h2:a*s % (b*s)=r:=by
  rw [h,Nat.add_comm,Nat.add_mul_mod_self_right,Nat.mod_eq_of_lt hr]
 rw [Nat.mul_mod_mul_right] at h2;exact⟨h1.symm,h2.symm⟩
theorem Qz9 {B j X V Q U lo W q W1:Nat} (hX:X=Q*(V*B^(j+1))+U) (hU:U=lo+B^j*W) (hlo:lo<B^j) (hW:W=q*V+W1) (hW1:W1<V) :
 X=(q+B*Q)*(V*B^j)+(lo+B^j*W1)/\lo+B^j*W1<V*B^j:=by
 constructor
 . rw [hX,hU,hW,Nat.pow_succ];grind
 . have h1:B^j*(W1+1)<=B^j*V:=Nat.mul_le_mul_left _ hW1;rw [Nat.mul_add] at h1;rw [Nat.mul_comm V];omega
def pad (B:Nat):Nat->Nat->List Nat
 | 0,_ => []
 | k+1,x=>(x % B)::pad B k (x / B)
theorem Qo (B:Nat):∀ k x,(pad B k x).length=k
 | 0,_=>rfl
 | k+1,x=>by simp [pad,Qo B k]
theorem Qgw {B:Nat} (hB:0<B):∀ (l:List Nat),Ql B l->pad B l.length (Q5 B l)=l
 | [],_=>rfl
 | d::l,h=>by
  have h1:=h d (by simp);have ih:=Qgw hB l (fun x hx=>h x (by simp [hx]));simp only [List.length_cons,pad,Gm];rw [Nat.add_mul_mod_self_left,Nat.mod_eq_of_lt h1,Nat.add_mul_div_left _ _ hB,Nat.div_eq_of_lt h1,Nat.zero_add,ih]
theorem Qhv (B:Nat):∀ k,pad B k 0=List.replicate k 0
 | 0=>rfl
 | k+1=>by simp [pad,Qhv B k,List.replicate_succ]
theorem Qvq {B:Nat} (hB:2<=B) {k x:Nat} (h:x<B^k):pad B k x=dig B x++List.replicate (k - (dig B x).length) 0:=by
 have h1:Ql B (dig B x++List.replicate (k - (dig B x).length) 0):=(Ql.dig hB x).append (Ql.zeros (by omega) _);have h2:Q5 B (dig B x++List.replicate (k - (dig B x).length) 0)=x:=by
  rw [Jk,Q4o,Zt hB];simp
 have h3:(dig B x++List.replicate (k - (dig B x).length) 0).length=k:=by
  have:=Z3 hB h;simp;omega
 have h4:=Qgw (by omega) _ h1;rw [h2,h3] at h4;exact h4
theorem Z6e {B:Nat} (hB:2<=B) {k x:Nat} (h:x<B^k):dig B x=(pad B k x).take (dig B x).length:=by
 rw [Qvq hB h];simp
structure Qd where
 neg:Bool
 num:Nat
 den:Nat
deriving DecidableEq
abbrev Gf:Nat:=115792089237316195423570985008687907853269984665640564039457584007913129639936
def Zy:Qd:=⟨false,0,0⟩
def Q7h (neg:Bool) (n d:Nat):Qd×Int :=
 if n / Nat.gcd n d<Gf/\d / Nat.gcd n d<Gf then (⟨neg&&decide (n / Nat.gcd n d≠0),n / Nat.gcd n d,d / Nat.gcd n d⟩,0) else (Zy,3)
def Zz (a b:Int):Qd×Int:=if b=0 then (Zy,2) else Q7h (decide (a<0) != decide (b<0)) a.natAbs b.natAbs
def ofL (n:Int):Qd:=⟨decide (n<0),n.natAbs,1⟩
def Kl (x y:Nat):Int:=if x<y then -1 else if y<x then 1 else 0
theorem Z28 (neg:Bool) (n:Nat) (h:n<Gf):Q7h neg n 1=(⟨neg&&decide (n≠0),n,1⟩,0):=by
 unfold Q7h;rw [Nat.gcd_one_right,Nat.div_one,Nat.div_one,if_pos ⟨h,by decide⟩]
def Z4r (q:Rat):Prop:=q.num.natAbs<Gf/\q.den<Gf
instance (q:Rat):Decidable (Z4r q):=by unfold Z4r; infer_instance
open Go.RowKit
abbrev B32:Nat:=4294967296
abbrev B16:Nat:=65536
theorem Qn:2<=B32:=by decide
theorem Z2:2<=B16:=by decide
abbrev Q4 (x:Nat):Nat:=(dig B32 x).length
abbrev Qg (x:Nat):Nat:=(dig B16 x).length
abbrev Zk (w:World) (A:Option Addr) (x:Nat):Prop:=Rd w w.heap.size 1 A (Zc .u32 (dig B32 x))
abbrev Q60 (w:World) (A:Option Addr) (x:Nat):Prop:=Rd w w.heap.size 1 A (Zc .i64 (dig B16 x))
theorem Rd.from {w w':World} {size:Nat} {A:Option Addr} {css:List (List Value)} (h:Rd w w.heap.size size A css) (hb:Qe w w'):Rd w' w'.heap.size size A css:=(h.below hb (Nat.le_refl _)).more hb.size
theorem Qgv:(Tryz.prog.info? 63).map (fun i=>(i.zero,i.size,i.bytes))=some (some (.int .u32 0),1,4):=by kernel_rfl
theorem Z2x:(Tryz.prog.info? 3).map (fun i=>(i.zero,i.size,i.bytes))=some (some (.int .i64 0),1,8):=by kernel_rfl
theorem Zv:(Tryz.prog.info? 63).map (·.size)=some 1:=by kernel_rfl
theorem Z4e:(Tryz.prog.info? 3).map (·.size)=some 1:=by kernel_rfl
theorem Z3d {B:Nat} (hB:2<=B) {l:List Nat} (hl:Ql B l):dig B (Q5 B l)=l.take (dig B (Q5 B l)).length:=by
 have h:=Z6e hB (k:=l.length) (Y6 l hl);rw [Qgw (by omega) l hl] at h;exact h
theorem Q20 {B:Nat} (hB:2<=B) {w:World} {N:Nat} {A:Option Addr} {k:IntKind} {l:List Nat} (h:Rd w N 1 A (Zc k l)) (hl:Ql B l):Rd w N 1 A (Zc k (dig B (Q5 B l))):=by
 rw [Z3d hB hl,Qnw];exact h.take _
theorem Qu {n:Int} (h0:0<=n) (h:n<18446744073709551616):IntKind.u64.wrap n=n:=by
 unfold IntKind.wrap;simp [IntKind.bits,IntKind.signed];omega
theorem K7 (n:Nat):IntKind.u32.wrap (n:Int)=((n % 4294967296:Nat):Int):=by
 unfold IntKind.wrap;simp [IntKind.bits,IntKind.signed]
theorem Q44 (a b:Nat) (hb:b<=18446744073709551616):IntKind.u64.wrap ((a:Int) - (b:Int))=(((a+18446744073709551616 - b) % 18446744073709551616:Nat):Int):=by
 unfold IntKind.wrap;simp [IntKind.bits,IntKind.signed];omega
theorem Qk {n:Int} (h1 : -9223372036854775808<=n) (h2:n<=9223372036854775807):IntKind.i64.wrap n=n:=by
 unfold IntKind.wrap;simp [IntKind.bits,IntKind.signed];split<;>omega
def Qd.cells (f:Qd):List Value := [.bool f.neg]++((pad B32 8 f.num).map fun (n:Nat)=>Value.int .u32 (n:Int))++((pad B32 8 f.den).map fun (n:Nat)=>Value.int .u32 (n:Int))
def Qd.val (f:Qd):Value := .agg f.cells.toArray
theorem Qd.cells_len (f:Qd):f.cells.length=17:=by simp [Qd.cells,Qo]
theorem Qd.ones (f:Qd):∀ u∈f.cells,u.oneCell'=true:=by
 intro u hu;simp only [Qd.cells,List.mem_append,List.mem_cons,List.not_mem_nil,or_false,List.mem_map] at hu;rcases hu with (rfl|⟨n,_,rfl⟩)|⟨n,_,rfl⟩<;>simp [Value.oneCell']
theorem Z78:B32^8=Gf:=by decide
def lenOf:Value->Nat
 | .slice _ n _=>n
 | _=>0
set_option maxHeartbeats 1000000 in
theorem Q5m (A:Option Addr) (c n:Nat) (l:List Nat) (hn:n=l.length) (w:World) (h:Rd w w.heap.size 1 A (Zc .u32 l)) (hl:Ql B32 l) (hlen:l.length<=1000000000) (hcap:l.length<=c) :
 Calls Tryz.prog 127 #[.slice A n c] w fun e w'=>e = .returned (.slice A (Q4 (Q5 B32 l)) c)/\w'=w:=by
 subst hn
 go_enter Tryz.func127,Tryz.ntmps127
 go_wp2
 go_loop [0] (fun v=>∃ k:Nat,k<=l.length/\v = .slice A k c/\∀ d∈l.drop k,d=0) (fun v=>lenOf v)
 case atStart=>exact⟨l.length,Nat.le_refl _,rfl,by simp⟩
 case round =>
  obtain⟨k,hk,rfl,hz⟩:=hrel;have HZ:=Lib.hid hz;clear hz;by_cases hk0:k=0
  . subst hk0;have HT:Hid (Q4 (Q5 B32 l)=0):=by unfold Hid Q4; rw [Qav Qn hl (Nat.zero_le _) HZ.out (.inl rfl)]; simp
    go_wp2
    go_ret
    exact⟨by rw [HT.out]; rfl,rfl⟩
  . obtain⟨j,rfl⟩:∃ j,k=j+1:=⟨k - 1,by omega⟩
    obtain⟨b,off,rfl,hb,hld⟩:=Vb Tryz.underlying63 rfl h (show j<l.length by omega);have HL:=Lib.hid (hld w (Below.refl _ _));clear hld;by_cases hz0:l[j]=0
    . have e0:((l[j]:Int)==0)=true:=by simp [hz0]
      have hcj:¬ c<j:=by omega
      go_wp2_with (first
       | ((with_reducible refine Z4 63 ?_); (first|refine Q9 rfl _ _ rfl _ rfl _ HL.out ?_|refine Q1o rfl _ _ rfl _ rfl _ HL.out ?_)))
      go_round
      case rel =>
       refine⟨j,by omega,by simp,fun d hd => ?_⟩;rw [List.drop_eq_getElem_cons (show j<l.length by omega)] at hd;rcases List.mem_cons.1 hd with h1|h1
       . rw [h1,hz0]
       . exact HZ.out d h1
      case measure=>simp [lenOf]
    . have HT:Hid (Q4 (Q5 B32 l)=j+1):=by
       unfold Hid Q4;rw [Qav Qn hl hk HZ.out (.inr ⟨j,rfl,by simp [show j<l.length by omega]; exact hz0⟩)];simp;omega
      have e0:((l[j]:Int)==0)=false:=by simp [hz0]
      go_wp2_with (first
       | ((with_reducible refine Z4 63 ?_); (first|refine Q9 rfl _ _ rfl _ rfl _ HL.out ?_|refine Q1o rfl _ _ rfl _ rfl _ HL.out ?_)))
      go_ret
      exact⟨by rw [HT.out]; rfl,rfl⟩
theorem Q0c {o O:List Nat} {i j r:Nat} (h:o.drop (i+j)=O.drop (i+j)):(o.set (i+j) r).drop (i+(j+1))=O.drop (i+(j+1)):=by
 have e:i+(j+1)=(i+j)+1:=by omega
 rw [e,drop_set];have h1:=congrArg (fun l=>l.drop 1) h;simpa [List.drop_drop] using h1
theorem Z1j {B:Nat} {a b O o:List Nat} {i c:Nat} (hi:i<a.length) (hlen:i+b.length<o.length) (h0:Q5 B (O.take (i+b.length))=Q5 B (a.take i)*Q5 B b)
 (h:Q5 B (o.take (i+b.length))+B^(i+b.length)*c=Q5 B (O.take (i+b.length))+B^i*(a[i]*Q5 B (b.take b.length))) :
 Q5 B ((o.set (i+b.length) c).take (i+1+b.length))=Q5 B (a.take (i+1))*Q5 B b:=by
 have e:i+1+b.length=i+b.length+1:=by omega
 rw [e,Q2h B hlen,h,h0,Q1w hi,List.take_length];grind
theorem Ql1 (A D:Option Addr) (ca cd:Nat) (x y n m:Nat) (hn:n=Q4 x) (hm:m=Q4 y) (w:World) (hA:Zk w A x) (hD:Zk w D y) (hx:Q4 x<=1000) (hy:Q4 y<=1000) :
 Calls Tryz.prog 147 #[.slice A n ca,.slice D m cd] w fun e w'=>∃ A' c',e = .returned (.slice A' (Q4 (x*y)) c')/\Zk w' A' (x*y)/\Q4 (x*y)<=c'/\Below w.heap.size w w':=by
 subst hn hm
 go_enter Tryz.func147,Tryz.ntmps147
 go_wp2_with (first
  | (at_make; go_loud (refine Q5y (n:=Q4 x+Q4 y) rfl _ _ rfl Tryz.underlying145 Qgv rfl rfl (by simp) (by simp) (by omega) (by unfold maxLen; omega) ?_); intro w1 hnb1 hb1 hlt1))
 have HB1:=Lib.hid hb1;have HNB1:=Lib.hid hnb1;have HLT1:=Lib.hid hlt1;clear hnb1 hb1 hlt1
 go_loopw [19] (fun i wr=>∃ (k:Nat) (o:List Nat),k<=Q4 x/\i = .int .i64 k/\o.length=Q4 x+Q4 y/\Ql B32 o/\NB wr w.heap.size 63 .u32 o/\Below w.heap.size w wr/\w.heap.size<wr.heap.size/\Q5 B32 (o.take (k+Q4 y))=Q5 B32 ((dig B32 x).take k)*Q5 B32 (dig B32 y)) (fun i _=>Q4 x - (intOf i).toNat)
 case atStart=>exact⟨0,_,Nat.zero_le _,rfl,List.length_replicate,Ql.zeros (by decide) _,HNB1.out,HB1.out,HLT1.out,by rw [List.take_replicate,Q4o]; simp [Q5]⟩
 case round =>
  clear HB1 HNB1 HLT1;obtain⟨k,O,hk,rfl,hOl,hOd,hnb,hbr,hlt,hval⟩:=hrel;have HV:=Lib.hid hval;have HNB:=Lib.hid hnb;have HBR:=Lib.hid hbr;have HOD:=Lib.hid hOd;have HLT:=Lib.hid hlt;clear hval hnb hbr hOd hlt;by_cases hkl:k<Q4 x
  . have HD:=Lib.hid hD;obtain⟨b1,o1,rfl,hb1,hld1⟩:=Vb Tryz.underlying63 rfl hA hkl;have HL1:=Lib.hid (hld1 wr HBR.out);have hxa:(dig B32 x)[k]<4294967296:=(Ql.dig Qn x).get hkl;have HXA:Hid (∃ xa,xa=(dig B32 x)[k]):=⟨_,rfl⟩
    obtain⟨xa,hxe⟩:=HXA.out;have HXE:=Lib.hid hxe;rw [<- hxe] at HL1 hxa;clear hld1 HXA hxe;have hkd:((k:Int)<(Q4 x:Int))=True:=by simp; omega
    go_wp2_with (first
     | ((with_reducible refine Z4 63 ?_); refine Q9 rfl _ _ rfl _ rfl _ HL1.out ?_))
    go_loopw [8,26] (fun cv i wr=>∃ (j c:Nat) (o:List Nat),j<=Q4 y/\i = .int .i64 j/\cv = .int .u64 c/\c<4294967296/\o.length=Q4 x+Q4 y/\Ql B32 o/\NB wr w.heap.size 63 .u32 o/\Below w.heap.size w wr/\w.heap.size<wr.heap.size/\o.drop (k+j)=O.drop (k+j)/\Q5 B32 (o.take (k+j))+B32^(k+j)*c=Q5 B32 (O.take (k+j))+B32^k*(xa*Q5 B32 ((dig B32 y).take j))) (fun _ i _=>Q4 y - (intOf i).toNat)
    case atStart=>exact⟨0,0,O,Nat.zero_le _,rfl,rfl,by omega,hOl,HOD.out,HNB.out,HBR.out,HLT.out,rfl,by simp [Q5]⟩
    case round =>
     clear HNB HBR HLT HL1;obtain⟨j,c,o,hj,rfl,rfl,hc,hol,hod,hnb,hbr,hlt,hdr,hval⟩:=hrel;have HV2:=Lib.hid hval;have HNB2:=Lib.hid hnb;have HBR2:=Lib.hid hbr;have HOD2:=Lib.hid hod;have HDR2:=Lib.hid hdr;have HLT2:=Lib.hid hlt;clear hval hnb hbr hod hdr hlt;by_cases hjl:j<Q4 y
     . obtain⟨b2,o2,rfl,hb2,hld2⟩:=Vb Tryz.underlying63 rfl HD.out hjl;have HL2:=Lib.hid (hld2 wr HBR2.out);have hyb:(dig B32 y)[j]<4294967296:=(Ql.dig Qn y).get hjl;have HYD:Hid ((dig B32 y).getD j 0=(dig B32 y)[j]):=by unfold Hid; simp [show j<(dig B32 y).length from hjl]
       generalize (dig B32 y)[j]=yb at *
       clear hld2;have hko:k+j<o.length:=by omega
       have HL3:=Lib.hid (HNB2.out.ld Tryz.underlying63 rfl hko);have hoc:o[k+j]<4294967296:=HOD2.out.get hko;have HOG:Hid (o.getD (k+j) 0=o[k+j]):=by unfold Hid; simp [hko]
       generalize o[k+j]=oc at *
       have HST:=Lib.hid (Qww (b:=dig B32 y) (x:=xa) (by omega) HDR2.out HV2.out);rw [HYD.out,HOG.out] at HST;have hp:=Nat.mul_le_mul (Nat.le_of_lt_succ hxa) (Nat.le_of_lt_succ hyb);obtain⟨p,hpe⟩:∃ p,p=xa*yb:=⟨_,rfl⟩
       rw [<- hpe] at hp HST;obtain⟨s1,hs1⟩:∃ s1,s1=p+oc:=⟨_,rfl⟩
       obtain⟨s2,hs2⟩:∃ s2,s2=c+s1:=⟨_,rfl⟩
       obtain⟨r,hr⟩:∃ r,r=s2 % 4294967296:=⟨_,rfl⟩
       obtain⟨q,hq⟩:∃ q,q=s2 / 4294967296:=⟨_,rfl⟩
       have wa:=Qu (n:=(xa:Int)) (by omega) (by omega);have wb:=Qu (n:=(yb:Int)) (by omega) (by omega);have wc:=Qu (n:=(oc:Int)) (by omega) (by omega);have w0':IntKind.u64.wrap ((xa:Int)*(yb:Int))=(p:Int):=by rw [<- Int.natCast_mul,<- hpe,Qu (by omega) (by omega)]
       have w1':IntKind.u64.wrap ((p:Int)+(oc:Int))=(s1:Int):=by rw [Qu (by omega) (by omega)]; omega
       have w2':IntKind.u64.wrap ((c:Int)+(s1:Int))=(s2:Int):=by rw [Qu (by omega) (by omega)]; omega
       have w3':IntKind.u32.wrap (s2:Int)=(r:Int):=by rw [K7,hr]
       have w4':(s2:Int) / 4294967296=(q:Int):=by omega
       have e5:c+(p+oc)=s2:=by omega
       rw [e5,<- hr,<- hq] at HST;have hq1:q<4294967296:=by omega
       have hr1:r<4294967296:=by omega
       clear hs1 hs2 hr hq e5 hp hpe
       go_wp2_with (first
        | ((with_reducible refine Z4 63 ?_); refine Q9 rfl _ _ rfl _ rfl _ HL2.out ?_; have HL4:=HL3; clear HL2)
        | ((with_reducible refine Z4 63 ?_); refine Q9 rfl _ _ rfl _ rfl _ (by first|exact HL4.out|simpa using HL4.out) ?_; clear HL4)
        | ((with_reducible refine Z5 63 ?_); refine Je rfl _ _ rfl rfl rfl rfl Zv HNB2.out hko ?_; intro w4 hnb4 hg4))
       go_roundw
       case rel=>exact⟨j+1,q,o.set (k+j) r,by omega,by go_num,rfl,hq1,by simp [hol],HOD2.out.set _ _ hr1,hnb4,HBR2.out.grown hg4 HBR2.out.size (fun i hi=>by injection hi with hi; omega),Nat.lt_of_lt_of_le HLT2.out hg4.size,Q0c HDR2.out,HST.out⟩
       case measure=>simp [intOf]; omega
     . obtain rfl:j=Q4 y:=by omega
       have w3':IntKind.u32.wrap (c:Int)=(c:Int):=by rw [K7,Nat.mod_eq_of_lt (by omega)]
       have hko:k+Q4 y<o.length:=by omega
       have HR:=Z1j (a:=dig B32 x) (b:=dig B32 y) (O:=O) (o:=o) (i:=k) (c:=c) hkl hko HV.out (by rw [<- HXE.out]; exact HV2.out);have HR2:=Lib.hid HR;clear HR
       go_wp2_with (first
        | ((with_reducible refine Z5 63 ?_); refine Je rfl _ _ rfl rfl rfl rfl Zv HNB2.out hko ?_; intro w4 hnb4 hg4))
       go_roundw
       case rel=>exact⟨k+1,o.set (k+Q4 y) c,by omega,by go_num,by simp [hol],HOD2.out.set _ _ hc,hnb4,HBR2.out.grown hg4 HBR2.out.size (fun i hi=>by injection hi with hi; omega),Nat.lt_of_lt_of_le HLT2.out hg4.size,HR2.out⟩
       case measure=>simp [intOf]; omega
  . obtain rfl:k=Q4 x:=by omega
    go_wp2_with (first
     | (go_at_call 127; refine (Q5m _ _ _ O (by simp [hOl]) wr HNB.out.rd0 HOD.out (by omega) (by omega)).mono ?_; rintro e w5 ⟨rfl,rfl⟩))
    go_ret
    have he:Q5 B32 O=x*y:=by
     have h1:=HV.out;rw [List.take_of_length_le (by omega),List.take_length,Zt Qn,Zt Qn] at h1;exact h1
    have hlen:=Z3 Qn (Y6 _ HOD.out);have hrd:=Q20 Qn HNB.out.rd0 HOD.out;rw [he] at hlen hrd;rw [he];exact⟨_,_,rfl,hrd,by rw [hOl] at hlen; exact hlen,HBR.out⟩
theorem Q9d {L o:List Nat} {j m i r:Nat} (ho:o.length=m) (hi:i<m) (hjm:j+m<=L.length):(L.take j++o++L.drop (j+m)).set (j+i) r=L.take j++o.set i r++L.drop (j+m):=by
 have hl:(L.take j).length=j:=List.length_take_of_le (by omega);rw [List.append_assoc,List.set_append,hl,if_neg (by omega),List.set_append,List.append_assoc];have e:j+i - j=i:=by omega
 rw [e,if_pos (by omega)]
theorem Qv7 {L o:List Nat} {j m i:Nat} (ho:o.length=m) (hi:i<m) (hjm:j+m<=L.length):(L.take j++o++L.drop (j+m))[j+i]? = o[i]? := by
 have hl:(L.take j).length=j:=List.length_take_of_le (by omega);rw [List.append_assoc,List.getElem?_append_right (by omega),hl,List.getElem?_append_left (by omega)];congr 1;omega
theorem Q3b {L o:List Nat} {j m:Nat} (ho:o.length=m) (hjm:j+m<=L.length):(L.take j++o++L.drop (j+m)).length=L.length:=by
 simp;omega
theorem Qr8 (L:List Nat) (j m:Nat):L.take j++(L.drop j).take m++L.drop (j+m)=L:=by
 rw [List.append_assoc,<- List.drop_drop,List.take_append_drop,List.take_append_drop]
theorem Rd.apart {w w':World} {size g:Nat} {A:Option Addr} {css:List (List Value)} (h:Rd w w.heap.size size A css) (hne:∀ q,A=some q->q.block≠g) (hg:w.grownBy w' (some g)):Rd w' w'.heap.size size A css:=by
 intro k cs hk;obtain⟨b,off,e,hlt,hl,hc⟩:=h k cs hk;refine⟨b,off,e,Nat.lt_of_lt_of_le hlt hg.size,hl,fun j u hu => ?_⟩;rw [<- hc j u hu];exact World.cell?_of_block (hg.block b hlt (fun h=>by injection h with h; exact hne _ e h))
theorem Q54 {w w' w2:World} {g:Nat} (h:w.grownBy w' (some g)) (h':w'.grownBy w2 (some g)):w.grownBy w2 (some g) :=
 ⟨h'.os.trans h.os,h'.tape.trans h.tape,h'.output.trans h.output,Nat.le_trans h.size h'.size,fun k hk hne=>(h'.block k (Nat.lt_of_lt_of_le hk h.size) hne).trans (h.block k hk hne)⟩
theorem Z13 (g j m cu cd y n:Nat) (D:Option Addr) (L:List Nat) (hn:n=Q4 y) (w:World) (hL:NB w g 63 .u32 L) (hd:Ql B32 L) (hjm:j+m<=L.length) (hm:m<=1000) (hD:Zk w D y) (hne:∀ q,D=some q->q.block≠g) (hy:Q4 y<=m) :
 Calls Tryz.prog 188 #[.slice (some ⟨g,j,none⟩) m cu,.slice D n cd] w fun e w'=>∃ (o:List Nat) (c:Nat),e = .returned (.bool (decide (0<c)))/\c<=1/\o.length=m/\Ql B32 o/\NB w' g 63 .u32 (L.take j++o++L.drop (j+m))/\w.grownBy w' (some g) /\
  Q5 B32 o+B32^m*c=Q5 B32 ((L.drop j).take m)+y:=by
 subst hn;obtain⟨U,hU⟩:∃ U,U=(L.drop j).take m:=⟨_,rfl⟩
 have hUl:U.length=m:=by rw [hU]; simp; omega
 have hUd:Ql B32 U:=by rw [hU]; exact (hd.drop j).take m
 have hUg:∀ i,i<m->L[j+i]? = U[i]? := fun i hi=>by rw [hU,List.getElem?_take,if_pos hi,List.getElem?_drop]
 have HUG:=Lib.hid hUg;rw [<- hU];have HL:=Lib.hid hL;have HSELF:Hid (L.take j++U++L.drop (j+m)=L):=by unfold Hid; rw [hU]; exact Qr8 L j m
 clear hL hUg hU
 go_enter Tryz.func188,Tryz.ntmps188
 go_wp2
 go_loopw [5,9] (fun cv i wr=>∃ (k c:Nat) (o:List Nat),k<=m/\i = .int .i64 k/\cv = .int .u64 c/\c<=1/\o.length=m/\Ql B32 o/\NB wr g 63 .u32 (L.take j++o++L.drop (j+m))/\w.grownBy wr (some g)/\o.drop k=U.drop k/\Q5 B32 (o.take k)+B32^k*c=Q5 B32 (U.take k)+Q5 B32 ((dig B32 y).take k)) (fun _ i _=>m - (intOf i).toNat)
 case atStart=>exact⟨0,0,U,Nat.zero_le _,rfl,rfl,by omega,hUl,hUd,by rw [HSELF.out]; exact HL.out,World.grownBy.refl w _,rfl,by simp [Q5]⟩
 case round =>
  obtain⟨k,c,o,hk,rfl,rfl,hc,hol,hod,hnb,hgr,hdr,hval⟩:=hrel;have HV:=Lib.hid hval;have HNB:=Lib.hid hnb;have HGR:=Lib.hid hgr;have HOD:=Lib.hid hod;have HDR:=Lib.hid hdr;clear hval hnb hgr hod hdr;by_cases hkm:k<m
  . have hko:k<o.length:=by omega
    have hoU:o[k]=U[k]'(by omega):=by
     have h1:=congrArg (fun l=>l[0]?) HDR.out;simpa [hko,show k<U.length by omega] using h1
    have HL1:Hid ((loadVar 63 ⟨g,j+k,none⟩).run Tryz.prog wr = .ok (.int .u32 (o[k]:Int)) wr):=by
     have h1:=HNB.out.ld (P:=Tryz.prog) (i:=j+k) Tryz.underlying63 rfl (by rw [Q3b hol hjm]; omega);have h2:=Qv7 (L:=L) (j:=j) hol hkm hjm;rw [List.getElem?_eq_getElem (by rw [Q3b hol hjm]; omega),List.getElem?_eq_getElem hko] at h2;injection h2 with h2;rw [h2] at h1;exact h1
    have hxa:o[k]<4294967296:=HOD.out.get hko;have HXD:Hid (U.getD k 0=o[k]):=by unfold Hid; rw [hoU]; simp [show k<U.length by omega]
    have hset:=Q9d (L:=L) (j:=j) (i:=k) (r:=0) hol hkm hjm;clear hset hoU;generalize o[k]=xa at *
    by_cases hkl:k<Q4 y
    . obtain⟨b2,o2,rfl,hb2,hld2⟩:=Vb Tryz.underlying63 rfl (hD.apart hne HGR.out) hkl;have HL2:=Lib.hid (hld2 wr (Below.refl _ _));have hyb:(dig B32 y)[k]<4294967296:=(Ql.dig Qn y).get hkl;have HYD:Hid ((dig B32 y).getD k 0=(dig B32 y)[k]):=by unfold Hid; simp [show k<(dig B32 y).length from hkl]
      generalize (dig B32 y)[k]=yb at *
      clear hld2;obtain⟨s1,hs1⟩:∃ s1,s1=c+xa:=⟨_,rfl⟩
      obtain⟨s2,hs2⟩:∃ s2,s2=s1+yb:=⟨_,rfl⟩
      obtain⟨r,hr⟩:∃ r,r=s2 % 4294967296:=⟨_,rfl⟩
      obtain⟨q,hq⟩:∃ q,q=s2 / 4294967296:=⟨_,rfl⟩
      have wa:=Qu (n:=(xa:Int)) (by omega) (by omega);have wb:=Qu (n:=(yb:Int)) (by omega) (by omega);have w1':IntKind.u64.wrap ((c:Int)+(xa:Int))=(s1:Int):=by rw [Qu (by omega) (by omega)]; omega
      have w2':IntKind.u64.wrap ((s1:Int)+(yb:Int))=(s2:Int):=by rw [Qu (by omega) (by omega)]; omega
      have w3':IntKind.u32.wrap (s2:Int)=(r:Int):=by rw [K7,hr]
      have w4':(s2:Int) / 4294967296=(q:Int):=by omega
      have HST:=Lib.hid (Qnz Qn (i:=k) hko HV.out);rw [HXD.out,HYD.out] at HST;have e5:c+xa+yb=s2:=by omega
      rw [e5,<- hr,<- hq] at HST;have hq1:q<=1:=by omega
      have hr1:r<4294967296:=by omega
      clear hs1 hs2 hr hq e5;have hkA:j+k<(L.take j++o++L.drop (j+m)).length:=by rw [Q3b hol hjm]; omega
      go_wp2_with (first
       | ((with_reducible refine Z4 63 ?_); refine Q9 rfl _ _ rfl _ rfl _ HL1.out ?_; have HL3:=HL2; clear HL1)
       | ((with_reducible refine Z4 63 ?_); refine Q9 rfl _ _ rfl _ rfl _ HL3.out ?_; clear HL3)
       | ((with_reducible refine Z5 63 ?_); refine Je rfl _ _ rfl rfl rfl rfl Zv HNB.out hkA ?_; intro w4 hnb4 hg4))
      go_roundw
      case rel=>exact⟨k+1,q,o.set k r,by omega,by go_num,rfl,hq1,by simp [hol],HOD.out.set _ _ hr1,by rw [<- Q9d hol hkm hjm]; exact hnb4,Q54 HGR.out hg4,Q0c (i:=0) (by simpa using HDR.out) |> (fun h=>by simpa using h),HST.out⟩
      case measure=>simp [intOf]; omega
    . have hkl':(dig B32 y).length<=k:=Nat.le_of_not_lt hkl;have HYD:Hid ((dig B32 y).getD k 0=0):=by unfold Hid; simp [hkl']
      obtain⟨s2,hs2⟩:∃ s2,s2=c+xa:=⟨_,rfl⟩
      obtain⟨r,hr⟩:∃ r,r=s2 % 4294967296:=⟨_,rfl⟩
      obtain⟨q,hq⟩:∃ q,q=s2 / 4294967296:=⟨_,rfl⟩
      have wa:=Qu (n:=(xa:Int)) (by omega) (by omega);have w1':IntKind.u64.wrap ((c:Int)+(xa:Int))=(s2:Int):=by rw [Qu (by omega) (by omega)]; omega
      have w3':IntKind.u32.wrap (s2:Int)=(r:Int):=by rw [K7,hr]
      have w4':(s2:Int) / 4294967296=(q:Int):=by omega
      have HST:=Lib.hid (Qnz Qn (i:=k) hko HV.out);rw [HXD.out,HYD.out] at HST;have e5:c+xa+0=s2:=by omega
      rw [e5,<- hr,<- hq] at HST;have hq1:q<=1:=by omega
      have hr1:r<4294967296:=by omega
      clear hs2 hr hq e5;have hkA:j+k<(L.take j++o++L.drop (j+m)).length:=by rw [Q3b hol hjm]; omega
      go_wp2_with (first
       | ((with_reducible refine Z4 63 ?_); refine Q9 rfl _ _ rfl _ rfl _ HL1.out ?_; clear HL1)
       | ((with_reducible refine Z5 63 ?_); refine Je rfl _ _ rfl rfl rfl rfl Zv HNB.out hkA ?_; intro w4 hnb4 hg4))
      go_roundw
      case rel=>exact⟨k+1,q,o.set k r,by omega,by go_num,rfl,hq1,by simp [hol],HOD.out.set _ _ hr1,by rw [<- Q9d hol hkm hjm]; exact hnb4,Q54 HGR.out hg4,Q0c (i:=0) (by simpa using HDR.out) |> (fun h=>by simpa using h),HST.out⟩
      case measure=>simp [intOf]; omega
  . obtain rfl:k=m:=by omega
    have hv:=HV.out;rw [List.take_of_length_le (by omega),List.take_of_length_le (by omega),List.take_of_length_le (show (dig B32 y).length<=k from hy),Zt Qn] at hv;have HV2:=Lib.hid hv;have hdec:((0:Int)<(c:Int))=((0:Nat)<c):=by simp
    clear hv
    go_wp2
    go_ret
    exact⟨o,c,by first|rfl|simp,hc,hol,HOD.out,HNB.out,HGR.out,HV2.out⟩
theorem Z0k (g j m cu cd y n t:Nat) (D:Option Addr) (L:List Nat) (hn:n=Q4 y) (w:World) (hL:NB w g 63 .u32 L) (hd:Ql B32 L) (hjm:j+m<=L.length) (hm:m<=1000) (hD:Zk w D y) (hne:∀ q,D=some q->q.block≠g) (hy:Q4 y<m) (ht:t<4294967296) :
 Calls Tryz.prog 187 #[.slice (some ⟨g,j,none⟩) m cu,.slice D n cd,.int .u64 t] w fun e w'=>∃ (o:List Nat) (c:Nat),e = .returned (.bool (decide (0<c)))/\c<=1/\o.length=m/\Ql B32 o/\NB w' g 63 .u32 (L.take j++o++L.drop (j+m))/\w.grownBy w' (some g) /\
  Q5 B32 o+t*y=Q5 B32 ((L.drop j).take m)+B32^m*c:=by
 subst hn;obtain⟨U,hU⟩:∃ U,U=(L.drop j).take m:=⟨_,rfl⟩
 have hUl:U.length=m:=by rw [hU]; simp; omega
 have hUd:Ql B32 U:=by rw [hU]; exact (hd.drop j).take m
 rw [<- hU];have HL:=Lib.hid hL;have HSELF:Hid (L.take j++U++L.drop (j+m)=L):=by unfold Hid; rw [hU]; exact Qr8 L j m
 clear hL hU
 go_enter Tryz.func187,Tryz.ntmps187
 go_wp2
 go_loopw [7,8,13] (fun cv ov i wr=>∃ (k cc ow:Nat) (o:List Nat),k<=m/\i = .int .i64 k/\cv = .int .u64 cc/\ov = .int .u64 ow/\ow<=1/\cc<4294967296/\(Q4 y<k->cc=0)/\o.length=m/\Ql B32 o/\NB wr g 63 .u32 (L.take j++o++L.drop (j+m))/\w.grownBy wr (some g)/\o.drop k=U.drop k/\Q5 B32 (o.take k)+t*Q5 B32 ((dig B32 y).take k)=Q5 B32 (U.take k)+B32^k*(cc+ow)) (fun _ _ i _=>m - (intOf i).toNat)
 case atStart=>exact⟨0,0,0,U,Nat.zero_le _,rfl,rfl,rfl,by omega,by omega,by omega,hUl,hUd,by rw [HSELF.out]; exact HL.out,World.grownBy.refl w _,rfl,by simp [Q5]⟩
 case round =>
  obtain⟨k,cc,ow,o,hk,rfl,rfl,rfl,how,hcc,hzc,hol,hod,hnb,hgr,hdr,hval⟩:=hrel;have HV:=Lib.hid hval;have HNB:=Lib.hid hnb;have HGR:=Lib.hid hgr;have HOD:=Lib.hid hod;have HDR:=Lib.hid hdr;have HZC:=Lib.hid hzc;clear hval hnb hgr hod hdr hzc;by_cases hkm:k<m
  . have hko:k<o.length:=by omega
    have hoU:o[k]=U[k]'(by omega):=by
     have h1:=congrArg (fun l=>l[0]?) HDR.out;simpa [hko,show k<U.length by omega] using h1
    have HL1:Hid ((loadVar 63 ⟨g,j+k,none⟩).run Tryz.prog wr = .ok (.int .u32 (o[k]:Int)) wr):=by
     have h1:=HNB.out.ld (P:=Tryz.prog) (i:=j+k) Tryz.underlying63 rfl (by rw [Q3b hol hjm]; omega);have h2:=Qv7 (L:=L) (j:=j) hol hkm hjm;rw [List.getElem?_eq_getElem (by rw [Q3b hol hjm]; omega),List.getElem?_eq_getElem hko] at h2;injection h2 with h2;rw [h2] at h1;exact h1
    have hxa:o[k]<4294967296:=HOD.out.get hko;have HXD:Hid (U.getD k 0=o[k]):=by unfold Hid; rw [hoU]; simp [show k<U.length by omega]
    clear hoU;generalize o[k]=xa at *
    have hkA:j+k<(L.take j++o++L.drop (j+m)).length:=by rw [Q3b hol hjm]; omega
    by_cases hkl:k<Q4 y
    . obtain⟨b2,o2,rfl,hb2,hld2⟩:=Vb Tryz.underlying63 rfl (hD.apart hne HGR.out) hkl;have HL2:=Lib.hid (hld2 wr (Below.refl _ _));have hyb:(dig B32 y)[k]<4294967296:=(Ql.dig Qn y).get hkl;have HYD:Hid ((dig B32 y).getD k 0=(dig B32 y)[k]):=by unfold Hid; simp [show k<(dig B32 y).length from hkl]
      generalize (dig B32 y)[k]=yb at *
      clear hld2;have hp:=Nat.mul_le_mul (Nat.le_of_lt_succ ht) (Nat.le_of_lt_succ hyb);obtain⟨p,hpe⟩:∃ p,p=t*yb:=⟨_,rfl⟩
      rw [<- hpe] at hp;obtain⟨cn,hcn⟩:∃ cn,cn=cc+p:=⟨_,rfl⟩
      have wb:=Qu (n:=(yb:Int)) (by omega) (by omega);have w1':IntKind.u64.wrap ((t:Int)*(yb:Int))=(p:Int):=by rw [<- Int.natCast_mul,<- hpe,Qu (by omega) (by omega)]
      have w2':IntKind.u64.wrap ((cc:Int)+(p:Int))=(cn:Int):=by rw [Qu (by omega) (by omega)]; omega
      obtain⟨low,hlow⟩:∃ low,low=cn % 4294967296:=⟨_,rfl⟩
      obtain⟨q,hq⟩:∃ q,q=cn / 4294967296:=⟨_,rfl⟩
      obtain⟨z1,hz1⟩:∃ z1,z1=(xa+18446744073709551616 - low) % 18446744073709551616:=⟨_,rfl⟩
      obtain⟨z2,hz2⟩:∃ z2,z2=(z1+18446744073709551616 - ow) % 18446744073709551616:=⟨_,rfl⟩
      obtain⟨r,hr⟩:∃ r,r=z2 % 4294967296:=⟨_,rfl⟩
      obtain⟨ow2,how2⟩:∃ ow2,ow2=z2 / 9223372036854775808:=⟨_,rfl⟩
      have wa:=Qu (n:=(xa:Int)) (by omega) (by omega);have wl:=Qu (n:=(low:Int)) (by omega) (by omega);have w3':IntKind.u32.wrap (cn:Int)=(low:Int):=by rw [K7,hlow]
      have w4':(cn:Int) / 4294967296=(q:Int):=by omega
      have w5':IntKind.u64.wrap ((xa:Int) - (low:Int))=(z1:Int):=by rw [Q44 _ _ (by omega),hz1]
      have w6':IntKind.u64.wrap ((z1:Int) - (ow:Int))=(z2:Int):=by rw [Q44 _ _ (by omega),hz2]
      have w7':IntKind.u32.wrap (z2:Int)=(r:Int):=by rw [K7,hr]
      have w8':(z2:Int) / 9223372036854775808=(ow2:Int):=by omega
      have hrel2:r+low+ow=xa+4294967296*ow2:=by omega
      have how3:ow2<=1:=by omega
      have hr1:r<4294967296:=by omega
      have HST:=Lib.hid (Qot (B:=B32) (t:=t) (v:=dig B32 y) (i:=k) (owed':=ow2) (r:=r) hko HV.out (by rw [HXD.out,HYD.out,<- hpe,<- hcn]; have e:cn % B32=low:=hlow.symm; rw [e]; exact hrel2));rw [HYD.out,<- hpe,<- hcn] at HST;have e6:cn / B32=q:=hq.symm;rw [e6] at HST;have hq1:q<4294967296:=by omega
      clear hlow hq hz1 hz2 hr how2 hrel2 hcn hpe hp e6
      go_wp2_with (first
       | ((with_reducible refine Z4 63 ?_); refine Q9 rfl _ _ rfl _ rfl _ HL2.out ?_; have HL3:=HL1; clear HL2)
       | ((with_reducible refine Z4 63 ?_); refine Q9 rfl _ _ rfl _ rfl _ HL3.out ?_; clear HL3)
       | ((with_reducible refine Z5 63 ?_); refine Je rfl _ _ rfl rfl rfl rfl Zv HNB.out hkA ?_; intro w4 hnb4 hg4))
      go_roundw
      case rel=>exact⟨k+1,q,ow2,o.set k r,by omega,by go_num,rfl,rfl,how3,hq1,fun h=>by omega,by simp [hol],HOD.out.set _ _ hr1,by rw [<- Q9d hol hkm hjm]; exact hnb4,Q54 HGR.out hg4,Q0c (i:=0) (by simpa using HDR.out) |> (fun h=>by simpa using h),HST.out⟩
      case measure=>simp [intOf]; omega
    . have hkl':(dig B32 y).length<=k:=Nat.le_of_not_lt hkl;have HYD:Hid ((dig B32 y).getD k 0=0):=by unfold Hid; simp [hkl']
      obtain⟨cn,hcn⟩:∃ cn,cn=cc:=⟨_,rfl⟩
      rw [<- hcn] at hcc HV ⊢;obtain⟨low,hlow⟩:∃ low,low=cn % 4294967296:=⟨_,rfl⟩
      obtain⟨q,hq⟩:∃ q,q=cn / 4294967296:=⟨_,rfl⟩
      obtain⟨z1,hz1⟩:∃ z1,z1=(xa+18446744073709551616 - low) % 18446744073709551616:=⟨_,rfl⟩
      obtain⟨z2,hz2⟩:∃ z2,z2=(z1+18446744073709551616 - ow) % 18446744073709551616:=⟨_,rfl⟩
      obtain⟨r,hr⟩:∃ r,r=z2 % 4294967296:=⟨_,rfl⟩
      obtain⟨ow2,how2⟩:∃ ow2,ow2=z2 / 9223372036854775808:=⟨_,rfl⟩
      have wa:=Qu (n:=(xa:Int)) (by omega) (by omega);have wl:=Qu (n:=(low:Int)) (by omega) (by omega);have w3':IntKind.u32.wrap (cn:Int)=(low:Int):=by rw [K7,hlow]
      have w4':(cn:Int) / 4294967296=(q:Int):=by omega
      have w5':IntKind.u64.wrap ((xa:Int) - (low:Int))=(z1:Int):=by rw [Q44 _ _ (by omega),hz1]
      have w6':IntKind.u64.wrap ((z1:Int) - (ow:Int))=(z2:Int):=by rw [Q44 _ _ (by omega),hz2]
      have w7':IntKind.u32.wrap (z2:Int)=(r:Int):=by rw [K7,hr]
      have w8':(z2:Int) / 9223372036854775808=(ow2:Int):=by omega
      have hrel2:r+low+ow=xa+4294967296*ow2:=by omega
      have how3:ow2<=1:=by omega
      have hr1:r<4294967296:=by omega
      have HST:=Lib.hid (Qot (B:=B32) (t:=t) (v:=dig B32 y) (i:=k) (owed':=ow2) (r:=r) hko HV.out (by rw [HXD.out,HYD.out,Nat.mul_zero,Nat.add_zero]; have e:cn % B32=low:=hlow.symm; rw [e]; exact hrel2));simp only [HYD.out,Nat.mul_zero,Nat.add_zero] at HST;have e6:cn / B32=q:=hq.symm;rw [e6] at HST;have hq1:q<4294967296:=by omega
      have HQ0:Hid (q=0):=by unfold Hid; omega
      clear hlow hq hz1 hz2 hr how2 hrel2 hcn e6
      go_wp2_with (first
       | ((with_reducible refine Z4 63 ?_); refine Q9 rfl _ _ rfl _ rfl _ HL1.out ?_; clear HL1)
       | ((with_reducible refine Z5 63 ?_); refine Je rfl _ _ rfl rfl rfl rfl Zv HNB.out hkA ?_; intro w4 hnb4 hg4))
      go_roundw
      case rel=>exact⟨k+1,q,ow2,o.set k r,by omega,by go_num,rfl,rfl,how3,hq1,fun _=>HQ0.out,by simp [hol],HOD.out.set _ _ hr1,by rw [<- Q9d hol hkm hjm]; exact hnb4,Q54 HGR.out hg4,Q0c (i:=0) (by simpa using HDR.out) |> (fun h=>by simpa using h),HST.out⟩
      case measure=>simp [intOf]; omega
  . obtain rfl:k=m:=by omega
    have hcz:=HZC.out hy;have hv:=HV.out;rw [List.take_of_length_le (by omega),List.take_of_length_le (show (dig B32 y).length<=k from Nat.le_of_lt hy),List.take_of_length_le (show U.length<=k by omega),Zt Qn,hcz,Nat.zero_add] at hv;have HV2:=Lib.hid hv;have hdec:((0:Int)<(ow:Int))=((0:Nat)<ow):=by simp
    clear hv
    go_wp2
    go_ret
    exact⟨o,ow,by first|rfl|simp,how,hol,HOD.out,HNB.out,HGR.out,HV2.out⟩
theorem Qyo {x:Nat} (h:Q4 x=1):dig B32 x = [x]:=by
 have hlt:=Qv Qn (n:=x) (k:=1) (Nat.le_of_eq h);rw [Nat.pow_one] at hlt;have h0:x≠0:=by
  intro h0;subst h0;cases h
 rw [Ve Qn h0,Nat.mod_eq_of_lt hlt,Nat.div_eq_of_lt hlt];rfl
set_option maxHeartbeats 1000000 in
theorem Qqb (A:Option Addr) (c n x:Nat) (hn:n=Q4 x) (w:World) (h:Zk w A x) (hx:Q4 x<=1000) :
 Calls Tryz.prog 125 #[.slice A n c] w fun e w'=>e = .returned (.bool (decide (x=1)))/\w'=w:=by
 subst hn;by_cases h1:Q4 x=1
 . have hdx:=Qyo h1;have hrd:Rd w w.heap.size 1 A (Zc .u32 [x]):=by rw [<- hdx]; exact h
   obtain⟨b,off,rfl,hb,hld⟩:=Vb Tryz.underlying63 rfl hrd (i:=0) (by simp);have HL:Hid ((loadVar 63 ⟨b,off,none⟩).run Tryz.prog w = .ok (.int .u32 (x:Int)) w):=by unfold Hid; simpa using hld w (Below.refl _ _)
   have HX:Hid (decide (x=1)=((x:Int)==1)):=by
    unfold Hid;by_cases hx1:x=1
    . subst hx1; rfl
    . have:¬ (x:Int)=1:=by omega
      simp [hx1,this]
   have h1':(((Q4 x:Nat):Int)==1)=true:=by rw [h1]; rfl
   have h1z:(0:Nat)<Q4 x:=by omega
   clear hld hdx hrd
   go_enter Tryz.func125,Tryz.ntmps125
   go_wp2_with (first
    | ((with_reducible refine Z4 63 ?_); (first|refine Q9 rfl _ _ rfl _ rfl _ (by first|exact HL.out|simpa using HL.out) ?_|refine Q1o rfl _ _ rfl _ rfl _ (by first|exact HL.out|simpa using HL.out) ?_)))
   go_ret
   exact⟨by rw [HX.out]; rfl,rfl⟩
 . have HX:Hid (decide (x=1)=false):=by
    unfold Hid;simp only [decide_eq_false_iff_not];intro hx1;subst hx1;exact h1 (by unfold Q4; rw [Qv0 Qn]; rfl)
   have h1':(((Q4 x:Nat):Int)==1)=false:=by
    simp;omega
   go_enter Tryz.func125,Tryz.ntmps125
   go_wp2
   go_ret
   exact⟨by rw [HX.out]; rfl,rfl⟩
set_option maxHeartbeats 1000000 in
theorem Qa5 (n:Nat) (hn:n<18446744073709551616) (w:World) :
 Calls Tryz.prog 63 #[.int .u64 n] w fun e w'=>∃ A' c',e = .returned (.slice A' (Q4 n) c')/\Zk w' A' n/\Q4 n<=c'/\Below w.heap.size w w':=by
 obtain⟨a,ha⟩:∃ a,a=n % 4294967296:=⟨_,rfl⟩
 obtain⟨b,hb⟩:∃ b,b=n / 4294967296:=⟨_,rfl⟩
 have w1':IntKind.u32.wrap (n:Int)=(a:Int):=by rw [K7,ha]
 have w2':(n:Int) / 4294967296=(b:Int):=by omega
 have hb2:b<4294967296:=by omega
 have w3':IntKind.u32.wrap (b:Int)=(b:Int):=by rw [K7,Nat.mod_eq_of_lt hb2]
 have hds:Ql B32 [a,b]:=by
  intro d hd;simp at hd;rcases hd with rfl|rfl
  . show d<4294967296; omega
  . exact hb2
 have hv:Q5 B32 [a,b]=n:=by
  simp only [Gm,Q7p];show a+4294967296*(b+4294967296*0)=n
  omega
 have hnb:NB (w.alloc (.cells #[.int .u32 (a:Int),.int .u32 (b:Int)] 63)) w.heap.size 63 .u32 [a,b]:=heap_alloc_new w _;have HT:=Lib.hid (Q5m (some ⟨w.heap.size,0,none⟩) 2 2 [a,b] rfl (w.alloc (.cells #[.int .u32 (a:Int),.int .u32 (b:Int)] 63)) hnb.rd0 hds (by simp) (by simp));have hrd:=Q20 Qn hnb.rd0 hds;have hlen:=Z3 Qn (Y6 _ hds);rw [hv] at HT hrd hlen;have HRD:=Lib.hid hrd;have HLEN:Hid (Q4 n<=2):=hlen;clear hrd hlen hv hds ha hb hnb
 go_enter Tryz.func63,Tryz.ntmps63
 go_wp2_with (go_at_call 127; refine (HT.out).mono ?_; rintro e w5 ⟨rfl,rfl⟩)
 go_ret
 exact⟨_,_,rfl,HRD.out,HLEN.out,(Below.refl _ _).alloc (Nat.le_refl _) _⟩
theorem Z5o (x:Nat):Q5 B32 ((dig B32 x).take (min (Q4 x) 2))=x % 18446744073709551616:=by
 have hs:=V7 B32 (dig B32 x) (min (Q4 x) 2);rw [Zt Qn] at hs;have hl:((dig B32 x).take (min (Q4 x) 2)).length=min (Q4 x) 2:=by
  rw [List.length_take];show min _ (Q4 x)=_
  omega
 have hlt:=Y6 ((dig B32 x).take (min (Q4 x) 2)) ((Ql.dig Qn x).take _);rw [hl] at hs hlt;by_cases h:Q4 x<=2
 . have e:(dig B32 x).drop (min (Q4 x) 2) = []:=by
    apply List.drop_eq_nil_of_le;show Q4 x<=_
    omega
   rw [e,Q7p,Nat.mul_zero,Nat.add_zero] at hs;have:B32^min (Q4 x) 2<=B32^2:=Nat.pow_le_pow_right (by decide) (by omega);have h2:B32^2=18446744073709551616:=by decide
   rw [<- hs,Nat.mod_eq_of_lt (by omega)]
 . have e:min (Q4 x) 2=2:=by omega
   rw [e] at hs hlt ⊢;have h2:B32^2=18446744073709551616:=by decide
   rw [h2] at hs hlt
   conv=>rhs; rw [hs]
   rw [Nat.add_mul_mod_self_left,Nat.mod_eq_of_lt hlt]
theorem Qym {a:Nat} (ha:a<4294967296):IntKind.u64.wrap ((a:Int)*4294967296)=(a:Int)*4294967296:=Qu (by omega) (by omega)
theorem Z31 {a d:Nat} (ha:a<4294967296) (hd:d<4294967296):bits .or .u64 ((a:Int)*4294967296) (d:Int)=((a*4294967296+d:Nat):Int):=by
 have h:=bits_join .u64 64 (by decide) (fun n h0 h1=>Qu h0 h1) 32 ((a:Int)*4294967296) (d:Int) (by omega) (by omega) (by omega) (by omega) (by omega) (by omega);rw [h];omega
set_option maxHeartbeats 2000000 in
theorem Qrk (A:Option Addr) (c n x:Nat) (hn:n=Q4 x) (w:World) (h:Zk w A x) (hx:Q4 x<=1000) :
 ∀ z,z=x % 18446744073709551616->Calls Tryz.prog 185 #[.slice A n c] w fun e w'=>e = .returned (.int .u64 (z:Int))/\w'=w:=by
 subst hn;intro z hz;obtain⟨l,hldef⟩:∃ l,l=(dig B32 x).take (min (Q4 x) 2):=⟨_,rfl⟩
 have hlen:l.length=min (Q4 x) 2:=by
  rw [hldef,List.length_take];show min _ (Q4 x)=_
  omega
 have hds:Ql B32 l:=by rw [hldef]; exact (Ql.dig Qn x).take _
 have hrd:Rd w w.heap.size 1 A (Zc .u32 l):=by rw [hldef,Qnw]; exact h.take _
 have hfin:Hid (Q5 B32 l=z):=by unfold Hid; rw [hldef,Z5o,hz]
 clear hz;have hmin:min ((Q4 x:Nat):Int) 2=((l.length:Nat):Int):=by rw [hlen]; omega
 obtain⟨m,hm⟩:∃ m,m=l.length:=⟨_,rfl⟩
 rw [<- hm] at hmin;have hm2:m<=2:=by omega
 have hif:(if (2:Int)<((Q4 x:Nat):Int) then (2:Int) else ((Q4 x:Nat):Int))=(m:Int):=by split<;>omega
 clear hmin
 go_enter Tryz.func185,Tryz.ntmps185
 go_wp2
 go_loop [3,4] (fun v i=>∃ k:Nat,k<=m/\i = .int .i64 ((k:Int) - 1)/\v = .int .u64 (Q5 B32 (l.drop k):Nat)) (fun _ i=>(intOf i+1).toNat)
 case atStart=>exact⟨m,Nat.le_refl _,by rw [hm,hlen],by rw [hm,List.drop_length]; rfl⟩
 case round =>
  obtain⟨k,hk,rfl,rfl⟩:=hrel;by_cases hk0:k=0
  . subst hk0;clear hlen hldef hif
    go_wp2
    go_ret
    exact⟨by rw [<- hfin.out]; rfl,rfl⟩
  . obtain⟨j,rfl⟩:∃ j,k=j+1:=⟨k - 1,by omega⟩
    have hjl:j<l.length:=by omega
    obtain⟨b,off,rfl,hb,hld⟩:=Vb Tryz.underlying63 rfl hrd hjl;have HL:=Lib.hid (hld w (Below.refl _ _));obtain⟨d,hd⟩:∃ d,d=l[j]'hjl:=⟨_,rfl⟩
    obtain⟨hi,hhi⟩:∃ hi,hi=Q5 B32 (l.drop (j+1)):=⟨_,rfl⟩
    have hdlt:d<4294967296:=by rw [hd]; exact hds.get hjl
    have hilt:hi<4294967296:=by
     rw [hhi];have h1:=Y6 (l.drop (j+1)) (hds.drop _);rw [List.length_drop] at h1;have h2:B32^(l.length - (j+1))<=B32^1:=Nat.pow_le_pow_right (by decide) (by omega);have h3:B32^1=4294967296:=by decide
     omega
    have hnx:Hid (Q5 B32 (l.drop j)=hi*4294967296+d):=by
     unfold Hid;rw [List.drop_eq_getElem_cons hjl,Gm,<- hd,<- hhi];show d+4294967296*hi=_
     omega
    have hor:=Lib.hid (Z31 hilt hdlt);obtain⟨s,hs⟩:∃ s,s=hi*4294967296+d:=⟨_,rfl⟩
    rw [<- hs] at hor hnx;rw [<- hd] at HL;rw [<- hhi];have hi64:(j:Int)<9223372036854775807:=by omega
    have hjx:(j:Int)<((Q4 x:Nat):Int):=by omega
    clear hld hlen hldef hif hfin hhi hd hs hds h hrd
    go_wp2_with (first
     | ((with_reducible refine Z4 63 ?_); refine Q9 rfl _ _ rfl _ rfl _ HL.out ?_))
    case roundEnd =>
     refine⟨⟨j,by omega,rfl,by rw [hnx.out,hor.out]⟩,?_⟩;simp only [intOf];omega
def Qw4 {α:Type} (F:Fence) (n:Nat) (P:Program) (gf:Nat) (lb:Array Value) (encs : α->Array Value) (G:List α->World->Prop) (V:List α -> α->Prop) (S Sp:List α->Prop) (w0:World):Prop :=
 ∀ (l:Nat) (J Jx:List α->World->Prop) (W:World),Below w0.heap.size w0 W->(∀ pre W1,J pre W1->G pre W1) ->
  (∀ pre x W1,J pre W1->V pre x->YieldAt F (n - 1) P l (encs x) W1 fun e W2=>(e = .returned (.bool true)/\J (pre ++ [x]) W2)\/(e = .returned (.bool false)/\Jx (pre ++ [x]) W2)) ->
  J [] W->CallsIn F n P gf (#[.func (.yield l) #[] #[]]++lb) W fun e W2=>(∃ v,e = .returned v)/\((∃ xs,S xs/\J xs W2)\/(∃ pre,Sp pre/\Jx pre W2))
def Qr9 {α:Type} (I:List α->World->Prop) (Ix:Code->List α->World->Prop) (xs:List α) (W:World):Exit->Act->World->Prop:=fun e _ W2 =>
 KeepsOthers W W2/\match e with
  | .normal=>I xs W2
  | .ret=>Ix .ret xs W2
  | .exit id=>Ix (.exit id) xs W2
  | .goto t=>Ix (.goto t) xs W2
  | _=>False
section
variable {F:Fence} {n:Nat} {P:Program} {α:Type}
theorem Qxb {ps:Array Tmp} {assign body:Code} {a:Act} {W:World} {fn:FuncId} {encs : α->Array Value} {I:List α->World->Prop} {Ix:Code->List α->World->Prop} {pre:List α} {x : α} (a₁ : α->Act) {l D B:Nat} {r:Loop}
 (hfn:F.fn fn) (hr:r = { state := .ready,pending:=none,fn:=fn,tmps:=a.tmps,params:=ps,assign:=assign,body:=body,defers:=D }) (hB:B<=l) (hDl:D≠l)
 (hI:OwnFrom B I) (hIx:∀ c,OwnFrom B (Ix c)) (hps:(encs x).size=ps.size)
 (hassign:∀ K:Act->World->Prop,K (a₁ x) W->assign.wpIn (F.inRound l) (n - 1 - 1) P (Exit.then K (fun _ _ _=>False)) { tmps:=(ps.zip (encs x)).foldl (fun t (p,v)=>t.setIfInBounds p v) a.tmps,defers := [] } W)
 (hbody:∀ W1,I pre W1->body.wpIn (F.inRound l) (n - 1 - 1) P (Qr9 I Ix (pre ++ [x]) W1) (a₁ x) W1)
 (hi:I pre W) (hl:W.heap[l]? = some (.loop r)) (hk:W.heap[D]? = some (.deferred (some []))) :
 YieldAt F (n - 1 - 1) P l (encs x) W fun e W2 =>
  (e = .returned (.bool true)/\I (pre ++ [x]) W2/\W2.heap[l]? = some (.loop r)/\W2.heap[D]? = some (.deferred (some []))) \/
  (e = .returned (.bool false)/\∃ c,Ix c (pre ++ [x]) W2/\W2.heap[l]? = some (.loop { r with state := .done,pending:=some c })/\W2.heap[D]? = some (.deferred (some []))):=by
 have hlt:l<W.heap.size:=(Array.getElem?_eq_some_iff.1 hl).1;have hy:=run_yield (P:=P) (args:=encs x) hl (by rw [hr]; exact hps);rw [hr] at hy;refine⟨fn,_,assign,body,hy,roundIn_of_wpIn hfn (hassign _ ⟨_,run_beginRound hl (by rw [hr]),?_⟩)⟩;have hbusy:(W.putObj l (.loop { r with state := .busy })).heap[l]? = some (.loop { r with state := .busy }):=World.putObj_heap_same hlt;have hkb:(W.putObj l (.loop { r with state := .busy })).heap[D]? = some (.deferred (some [])):=(World.putObj_heap_other hDl).trans hk;refine wpIn_mono (hbody _ (hI.putObj _ hi hB hl rfl)) fun e a2 W3 hp => ?_;obtain⟨hkeep,hp⟩:=hp;have hl3:=hkeep.same _ _ hbusy rfl;have hlt3:=(Array.getElem?_eq_some_iff.1 hl3).1;have hend:=fun j:Option Code=>run_endRound (P:=P) j hl3;have hD3:∀ o,(W3.putObj l o).heap[D]? = some (.deferred (some [])):=fun o=>(World.putObj_heap_other hDl).trans (hkeep.same _ _ hkb rfl)
 cases e with
 | normal=>exact⟨_,_,hend none,.inl ⟨rfl,hI.putObj _ hp hB hl3 rfl,by rw [World.putObj_heap_same hlt3,hr]; rfl,hD3 _⟩⟩
 | ret=>exact⟨_,_,hend (some .ret),.inr ⟨rfl,.ret,(hIx _).putObj _ hp hB hl3 rfl,by rw [World.putObj_heap_same hlt3]; rfl,hD3 _⟩⟩
 | exit id=>exact⟨_,_,hend (some (.exit id)),.inr ⟨rfl,.exit id,(hIx _).putObj _ hp hB hl3 rfl,by rw [World.putObj_heap_same hlt3]; rfl,hD3 _⟩⟩
 | goto t=>exact⟨_,_,hend (some (.goto t)),.inr ⟨rfl,.goto t,(hIx _).putObj _ hp hB hl3 rfl,by rw [World.putObj_heap_same hlt3]; rfl,hD3 _⟩⟩
 | panic c=>exact hp.elim
 | outgrown=>exact hp.elim
theorem Qk1 {g:Operand} {ps:Array Tmp} {assign body:Code} {Q:Exit->Act->World->Prop} {a:Act} {w w0:World} (hro:F.round=none) (h1:1<=n) {gf:Nat} {lb:Array Value} (hg:a.eval g = .func (.func gf) #[] lb) (hFg:F.fn gf) (eg:∀ args W,(callFunc gf args).run P W = .ok (.enter gf args) W)
 {encs : α->Array Value} {G:List α->World->Prop} {V:List α -> α->Prop} {S Sp:List α->Prop} (hseq:Qw4 F (n - 1) P gf lb encs G V S Sp w0) (hb0:Below w0.heap.size w0 w) (hps:∀ x,(encs x).size=ps.size)
 (I:List α->World->Prop) (Ix:Code->List α->World->Prop) (hIG:∀ pre W,I pre W->G pre W) (hI:OwnFrom w.heap.size I) (hIx:∀ c,OwnFrom w.heap.size (Ix c)) (h0:I [] w) (a₁ : α->Act)
 (hassign:∀ (l:Nat) (x : α) (W:World) (K:Act->World->Prop),K (a₁ x) W->assign.wpIn (F.inRound l) (n - 1 - 1) P (Exit.then K (fun _ _ _=>False)) { tmps:=(ps.zip (encs x)).foldl (fun t (p,v)=>t.setIfInBounds p v) a.tmps,defers := [] } W)
 (hbody:∀ (l:Nat) (pre:List α) (x : α) (W:World),I pre W->V pre x->body.wpIn (F.inRound l) (n - 1 - 1) P (Qr9 I Ix (pre ++ [x]) W) (a₁ x) W)
 (hdone:∀ (D:Nat) (xs:List α) (W:World),w.heap.size<=D->S xs->I xs W->W.heap[D]? = some (.deferred (some []))->Q .normal { a with defers := { target := .collected D,args := #[] }::a.defers } W)
 (hstop:∀ (D:Nat) (c:Code) (pre:List α) (W:World),w.heap.size<=D->Sp pre->Ix c pre W->W.heap[D]? = some (.deferred (some []))->c.wpIn F n P Q { a with defers := { target := .collected D,args := #[] }::a.defers } W) :
 (Code.rangeFunc g ps assign body).wpIn F n P Q a w:=by
 refine wpIn_rangeFunc fun fn hfn => ?_;rw [hro];obtain⟨r,hr⟩:∃ r:Loop,r = { state := .ready,pending:=none,fn:=fn,tmps:=a.tmps,params:=ps,assign:=assign,body:=body,defers:=w.heap.size }:=⟨_,rfl⟩
 have hent:=run_enterLoop_outer (P:=P) (w:=w) fn a.tmps ps assign body;rw [<- hr] at hent;have hl0:((w.alloc (.deferred (some []))).alloc (.loop r)).heap[w.heap.size+1]? = some (.loop r):=by
  have:=World.alloc_heap_new (w.alloc (.deferred (some []))) (.loop r);rwa [World.size_alloc] at this
 have hk0:((w.alloc (.deferred (some []))).alloc (.loop r)).heap[w.heap.size]? = some (.deferred (some [])):=(Below.heap_alloc _ _ _ (by simp)).trans (World.alloc_heap_new w _);have hi0:I [] ((w.alloc (.deferred (some []))).alloc (.loop r)):=hI.alloc _ (hI.alloc _ h0);have hbw:Below w0.heap.size w0 ((w.alloc (.deferred (some []))).alloc (.loop r)):=hb0.trans ((((Below.refl _ w).alloc (Nat.le_refl _) _).alloc (by simp) _).mono hb0.size);generalize (w.alloc (.deferred (some []))).alloc (.loop r)=W0 at *
 refine⟨w.heap.size+1,[{ target := .collected w.heap.size,args := #[] }],W0,{ target := .fn (.func gf) lb,args := #[.func (.yield (w.heap.size+1)) #[] #[]] },W0,gf,#[.func (.yield (w.heap.size+1)) #[] #[]]++lb,W0,hent,?_,?_,?_,fun _=>h1,?_⟩
 . simp only [resolve,hg];simp [go_sem]
 . intro f' hf';simp [Target.leads] at hf';rw [<- hf'];exact hFg
 . simp [invoke,go_sem,eg]
 . refine (hseq (w.heap.size+1) (fun pre W=>I pre W/\W.heap[w.heap.size+1]? = some (.loop r)/\W.heap[w.heap.size]? = some (.deferred (some [])))
    (fun pre W=>∃ c,Ix c pre W/\W.heap[w.heap.size+1]? = some (.loop { r with state := .done,pending:=some c })/\W.heap[w.heap.size]? = some (.deferred (some []))) W0 hbw (fun pre W1 h=>hIG pre W1 h.1) ?_ ⟨hi0,hl0,hk0⟩).mono ?_
   . rintro pre x W ⟨hi,hl,hk⟩ hv
     exact Qxb a₁ hfn hr (by omega) (by omega) hI hIx (hps x) (hassign _ x W) (fun W1 h=>hbody _ pre x W1 h hv) hi hl hk
   . rintro e W2 ⟨⟨v,rfl⟩,⟨xs,hs,hi,hl,hk⟩|⟨pre,hs,c,hi,hl,hk⟩⟩
     . have hpend:r.pending=none:=by rw [hr]
       have hel:=run_endLoop (P:=P) hl (by rw [hr]; simp);rw [hpend] at hel;exact⟨none,_,hel,hdone _ xs _ (Nat.le_refl _) hs (hI.putObj _ hi (by omega) hl rfl) ((World.putObj_heap_other (by omega)).trans hk)⟩
     . exact⟨some c,_,run_endLoop (P:=P) hl (by simp),hstop _ c pre _ (Nat.le_refl _) hs ((hIx c).putObj _ hi (by omega) hl rfl) ((World.putObj_heap_other (by omega)).trans hk)⟩
end
open Go.Shelf
attribute [local go_sem] Oper.semAt_some
def Z8d (Bs:Nat) (A:Option Addr) (len cap:Nat) (l:List Nat) (k:Nat) (W:World):Prop :=
 W.cell? ⟨Bs,0,none⟩=some (.slice A len cap)/\∀ j,j+k+1=len->∃ b off,A=some ⟨b,off,none⟩/\W.cell? ⟨b,off+j,none⟩=some (.int .u32 (l.getD j 0:Nat))
def Q1v (l:List Nat) (len k:Nat):Nat×Nat:=(len - 1 - k,l.getD (len - 1 - k) 0)
def Q4y (x:Nat×Nat):Array Value := #[Value.int .i64 (x.1:Int),Value.int .u32 (x.2:Int)]
set_option maxHeartbeats 2000000 in
theorem Qp2 (F:Fence) (n:Nat) (h1:F.fn 263) (hro:F.round=none) (hn:1<=n) (Bs len cap:Nat) (A:Option Addr) (l:List Nat) (hreach:len<=1000) (w0:World) :
 Qw4 F n Tryz.prog 263 #[.pointer (some ⟨Bs,0,none⟩)] Q4y (fun pre W=>Z8d Bs A len cap l pre.length W) (fun pre x=>pre.length<len/\x=Q1v l len pre.length) (fun xs=>xs.length=len) (fun _=>True) w0:=fun lp J Jx W hW hG hY h0=>by
 refine callsIn_of_wp Tryz.func263 rfl h1 ?_ hro;simp only [Tryz.ntmps263,List.size_toArray,List.length_cons,List.length_nil,Nat.reduceAdd,Nat.reduceSub,Array.replicate_succ,Array.replicate_zero,List.push_toArray,List.append_toArray,List.nil_append,List.cons_append];have hB0:=(hG _ _ h0).1
 gi_wp2
 gi_loopw [3] (fun i wr=>∃ pre:List (Nat×Nat),pre.length<=len/\i = .int .i64 ((len:Int) - 1 - pre.length)/\J pre wr)
  (fun i _=>(intOf i+1).toNat)
 case atStart=>exact⟨[],Nat.zero_le _,by simp,h0⟩
 case round =>
  obtain⟨pre,hk,rfl,hJs⟩:=hrel;obtain⟨hbx,hel⟩:=hG _ _ hJs;by_cases hlt:pre.length<len
  . obtain⟨j,hj⟩:∃ j,j+pre.length+1=len:=⟨len - 1 - pre.length,by omega⟩
    obtain⟨b,off,rfl,hcx⟩:=hel j hj;obtain⟨fn,tmps,assign,body,hy,hR⟩:=hY _ (Q1v l len pre.length) wr hJs ⟨hlt,rfl⟩;have e1:len - 1 - pre.length=j:=by omega
    have e2:(len:Int) - 1 - pre.length=(j:Int):=by omega
    unfold Q4y Q1v at hy;rw [e1] at hy;rw [e2];dsimp only at hy;have hjl:j<len:=by omega
    obtain⟨d,hd⟩:∃ d,d=l.getD j 0:=⟨_,rfl⟩
    rw [<- hd] at hy hcx;clear hel hd e1 e2 hG hY h0
    gi_wp2
    refine hR.mono ?_
    rintro e W3 (⟨rfl,hJ3⟩|⟨rfl,hJx3⟩)
    . gi_wp2
      go_roundw
      case rel=>exact⟨pre ++ [Q1v l len pre.length],by simp<;>omega,by simp<;>omega,hJ3⟩
      case measure=>simp [intOf]<;>omega
    . gi_wp2
      refine bodyPost_ret (results_none rfl _ _ _) rfl ?_;exact⟨⟨_,rfl⟩,.inr ⟨_,trivial,hJx3⟩⟩
  . have e2:(len:Int) - 1 - pre.length = -1:=by omega
    rw [e2]
    gi_wp2
    go_end0
    exact⟨⟨_,rfl⟩,.inl ⟨_,by omega,hJs⟩⟩
set_option maxHeartbeats 1000000 in
theorem Qw2 (F:Fence) (n:Nat) (h5:F.fn 227) (hro:F.round=none) (a:Option Addr) (len cap:Nat) (w:World) :
 CallsIn F n Tryz.prog 227 #[.slice a len cap] w fun e w'=>e = .returned (.func (.func 263) #[] #[.pointer (some ⟨w.heap.size,0,none⟩)])/\w'=w.alloc (.cells #[.slice a len cap] 145):=by
 refine callsIn_of_wp Tryz.func227 rfl h5 ?_ hro;simp only [Tryz.ntmps227,List.size_toArray,List.length_cons,List.length_nil,Nat.reduceAdd,Nat.reduceSub,Array.replicate_succ,Array.replicate_zero,List.push_toArray,List.append_toArray,List.nil_append,List.cons_append]
 gi_wp2
 go_ret
 exact⟨rfl,rfl⟩
end Go.Proofs.YtffeegebohigdaaGreat
