/-
  twistlockref01: less.
-/
import Derived.Test.YtffeegebohigdaaGreatMs22
set_option linter.unusedVariables false
set_option linter.unusedSimpArgs false
set_option maxRecDepth 100000
set_option maxHeartbeats 4000000
namespace Go.Proofs.YtffeegebohigdaaGreat
open Go.RowKit
theorem Z40 (A D:Option Addr) (ca cd:Nat) (x y n m:Nat) (hn:n=Qg x) (hm:m=Qg y) (w:World) (h:Q60 w A x) (h':Q60 w D y) (hx:Qg x<=1000000) (hy:Qg y<=1000000) :
 Calls Tryz.prog 223 #[.slice A n ca,.slice D m cd] w fun e w'=>e = .returned (.bool (decide (x<y)))/\Below w.heap.size w w':=by
 have hn1:n<=1000000:=by omega
 have hm1:m<=1000000:=by omega
 obtain⟨r,hr⟩:∃ r,r=decide (x<y):=⟨_,rfl⟩
 rw [<- hr];by_cases hnm:n=m
 . subst hnm;have HN:=Lib.hid hn;have HM:=Lib.hid hm;have HR:=Lib.hid hr;clear hn hm hr hx hy;have wN:IntKind.i64.wrap ((n:Int) - 1)=(n:Int) - 1:=Qk (by omega) (by omega)
   go_enter Tryz.func223,Tryz.ntmps223
   go_wp2
   go_loopw [5] (fun v wq=>∃ k:Nat,k<=n/\v = .int .i64 ((k:Int) - 1)/\Below w.heap.size w wq/\(dig B16 x).drop k=(dig B16 y).drop k) (fun v _=>(intOf v+1).toNat)
   case atStart=>exact⟨n,Nat.le_refl _,rfl,Below.refl _ w,by rw [List.drop_eq_nil_of_le (by rw [HN.out]; exact Nat.le_refl _),List.drop_eq_nil_of_le (by rw [HM.out]; exact Nat.le_refl _)]⟩
   case round =>
    obtain⟨k,hk,rfl,hb,htk⟩:=hrel;have HB:=Lib.hid hb;have HTK:=Lib.hid htk;clear hb htk wN;by_cases hk0:k=0
    . subst hk0;have hfalse:Hid (r=false):=by
       unfold Hid;rw [HR.out];apply decide_eq_false;have h1:=HTK.out;rw [List.drop_zero,List.drop_zero] at h1;have:=Qvs Z2 h1;omega
      have e0:(((0:Nat):Int) - 1) = -1:=rfl;rw [e0];clear HR HTK h h'
      go_wp2
      go_ret
      exact⟨by rw [hfalse.out]; rfl,HB.out⟩
    . obtain⟨j,rfl⟩:∃ j,k=j+1:=⟨k - 1,by omega⟩
      have e1:(((j+1:Nat):Int) - 1)=(j:Int):=by omega
      rw [e1];clear e1 hk0;have hjx:j<(dig B16 x).length:=by show j<Qg x; rw [<- HN.out]; omega
      have hjy:j<(dig B16 y).length:=by show j<Qg y; rw [<- HM.out]; omega
      obtain⟨b1,o1,rfl,hb1,hc1⟩:=Qah h (i:=j) hjx;obtain⟨b2,o2,rfl,hb2,hc2⟩:=Qah h' (i:=j) hjy;have hdx:=Q8q hjx;have hdy:=Q8q hjy;obtain⟨d1,hd1⟩:∃ d1,d1=(dig B16 x).getD j 0:=⟨_,rfl⟩
      obtain⟨d2,hd2⟩:∃ d2,d2=(dig B16 y).getD j 0:=⟨_,rfl⟩
      rw [<- hd1] at hc1 hdx;rw [<- hd2] at hc2 hdy;have c1:=hc1 wr.drew HB.out.drew;have c2:=hc2 wr.drew HB.out.drew;have HD1:=Lib.hid hd1;have HD2:=Lib.hid hd2;have HB2:Hid (Below w.heap.size w wr.drew):=HB.out.drew;have hmo:Tryz.prog.follows .mixedOrders=true:=by kernel_rfl
      have hki:(j:Int)<(n:Int):=by omega
      have wJ:IntKind.i64.wrap ((j:Int) - 1)=(j:Int) - 1:=Qk (by omega) (by omega);by_cases hdd:d1=d2
      . have htk1:Hid ((dig B16 x).drop j=(dig B16 y).drop j):=by
         unfold Hid;rw [hdx,hdy,HTK.out,hdd]
        clear HD1 HD2 HTK HR hc1 hc2 hd1 hd2 hdx hdy h h' hb1 hb2 hjx hjy;subst hdd
        go_wp2
        go_region
        go_wp2
        go_roundw
        case rel=>exact⟨j,by omega,rfl,HB2.out,htk1.out⟩
        case measure=>simp [intOf]
      . have hddi:((d1:Int)==(d2:Int))=false:=by simp; omega
        have c3:=hc1 wr.drew.drew HB.out.drew.drew;have c4:=hc2 wr.drew.drew HB.out.drew.drew;have HB3:Hid (Below w.heap.size w wr.drew.drew):=HB.out.drew.drew;by_cases hlt:d1<d2
        . have hlti:(d1:Int)<(d2:Int):=by omega
          have htrue:Hid (r=true):=by
           unfold Hid;rw [HR.out];exact decide_eq_true (Qg3 (by rw [<- HN.out,<- HM.out]) hjx HTK.out (by rw [<- hd1,<- hd2]; exact hlt))
          clear HD1 HD2 HTK HR hc1 hc2 hd1 hd2 hdx hdy h h' hb1 hb2 hjx hjy
          go_wp2
          go_region
          go_wp2
          go_region
          go_wp2
          go_ret
          exact⟨by rw [htrue.out]; rfl,HB3.out⟩
        . have hlti:¬ (d1:Int)<(d2:Int):=by omega
          have hfalse:Hid (r=false):=by
           unfold Hid;rw [HR.out];have h1:=Qg3 (x:=y) (y:=x) (by rw [<- HN.out,<- HM.out]) hjy HTK.out.symm (by rw [<- hd1,<- hd2]; omega);exact decide_eq_false (by omega)
          clear HD1 HD2 HTK HR hc1 hc2 hd1 hd2 hdx hdy h h' hb1 hb2 hjx hjy
          go_wp2
          go_region
          go_wp2
          go_region
          go_wp2
          go_ret
          exact⟨by rw [hfalse.out]; rfl,HB3.out⟩
 . have hnmi:((n:Int)==(m:Int))=false:=by simp; omega
   by_cases hlt:n<m
   . have hlti:(n:Int)<(m:Int):=by omega
     have HT:Hid (r=true):=by unfold Hid; rw [hr]; exact decide_eq_true (Q0w Z2 (by show Qg x<Qg y; omega))
     clear hn hm hr h h'
     go_enter Tryz.func223,Tryz.ntmps223
     go_wp2
     go_ret
     exact⟨by rw [HT.out]; rfl,Below.refl _ w⟩
   . have hlti:¬ (n:Int)<(m:Int):=by omega
     have HT:Hid (r=false):=by
      unfold Hid;rw [hr];have h1:y<x:=Q0w Z2 (by show Qg y<Qg x; omega);exact decide_eq_false (by omega)
     clear hn hm hr h h'
     go_enter Tryz.func223,Tryz.ntmps223
     go_wp2
     go_ret
     exact⟨by rw [HT.out]; rfl,Below.refl _ w⟩
set_option maxHeartbeats 1000000 in
theorem Za2 (A:Option Addr) (c n x:Nat) (hn:n=Qg x) (w:World) (h:Q60 w A x) (hx:Qg x<=1000000) :
 Calls Tryz.prog 180 #[.slice A n c] w fun e w'=>e = .returned (.bool (decide (x=1)))/\w'=w:=by
 subst hn;by_cases h1:Qg x=1
 . have hdx:=Qq4 h1;have hrd:Rd w w.heap.size 1 A (Zc .i64 [x]):=by rw [<- hdx]; exact h
   obtain⟨b,off,rfl,hb,hld⟩:=Vb Tryz.underlying3 rfl hrd (i:=0) (by simp);have HL:Hid ((loadVar 3 ⟨b,off,none⟩).run Tryz.prog w = .ok (.int .i64 (x:Int)) w):=by unfold Hid; simpa using hld w (Below.refl _ _)
   have HX:Hid (decide (x=1)=((x:Int)==1)):=by
    unfold Hid;by_cases hx1:x=1
    . subst hx1; rfl
    . have:¬ (x:Int)=1:=by omega
      simp [hx1,this]
   have h1':(((Qg x:Nat):Int)==1)=true:=by rw [h1]; rfl
   have h1z:(0:Nat)<Qg x:=by omega
   clear hld hdx hrd
   go_enter Tryz.func180,Tryz.ntmps180
   go_wp2_with (first
    | ((with_reducible refine Z4 3 ?_); (first|refine Q9 rfl _ _ rfl _ rfl _ (by first|exact HL.out|simpa using HL.out) ?_|refine Q1o rfl _ _ rfl _ rfl _ (by first|exact HL.out|simpa using HL.out) ?_)))
   go_ret
   exact⟨by rw [HX.out]; rfl,rfl⟩
 . have HX:Hid (decide (x=1)=false):=by
    unfold Hid;simp only [decide_eq_false_iff_not];intro hx1;subst hx1;exact h1 (by unfold Qg; rw [Qv0 Z2]; rfl)
   have h1':(((Qg x:Nat):Int)==1)=false:=by
    simp;omega
   go_enter Tryz.func180,Tryz.ntmps180
   go_wp2
   go_ret
   exact⟨by rw [HX.out]; rfl,rfl⟩
theorem Z0d (n:Nat) (hn:n<18446744073709551616) (w:World) :
 Calls Tryz.prog 261 #[.int .u64 n] w fun e w'=>∃ A' c',e = .returned (.slice A' (Qg n) c')/\Q60 w' A' n/\Qg n<=c'/\Qe w w':=by
 have hlen:Qg n<=4:=Z3 Z2 (by have e:B16^4=18446744073709551616:=rfl; omega);have HLN:=Lib.hid hlen;clear hlen
 go_enter Tryz.func261,Tryz.ntmps261
 go_wp2
 have HM0:=Lib.hid ((Mem.nil w).none 3 1)
 go_loopw [0,3] (fun v0 v3 wq=>∃ (r:Nat) (o:List Nat) (A1:Option Addr) (c1:Nat),r<18446744073709551616/\v0 = .int .u64 r/\v3 = .slice A1 o.length c1/\dig B16 n=o++dig B16 r/\Mem w wq [.row 3 1 A1 c1 (Zc .i64 o)]) (fun v0 _ _=>(intOf v0).toNat)
 case atStart=>exact⟨n,[],none,0,hn,rfl,rfl,rfl,HM0.out⟩
 case round =>
  clear HM0;obtain⟨r,o,A1,c1,hr,rfl,rfl,hdg,hmem⟩:=hrel;have HM:=Lib.hid hmem;have HDG:=Lib.hid hdg;obtain⟨i,hi⟩:∃ i,i=o.length:=⟨_,rfl⟩
  have hi4:i<=4:=by
   have h1:=HLN.out;have h2:=congrArg List.length hdg;rw [List.length_append] at h2;unfold Qg at h1;omega
  have HOL:Hid (i=(Zc .i64 o).length):=by unfold Hid; rw [Ye,hi]
  rw [<- hi];have HI:=Lib.hid hi;clear hmem hdg hi;by_cases hr0:r=0
  . subst hr0;have h1:dig B16 n=o:=by rw [HDG.out,Vs Z2]; simp
    have HD:=Lib.hid h1;have hlt0:¬ (0:Int)<((0:Nat):Int):=by decide
    clear h1
    go_wp2
    go_ret
    refine⟨A1,c1,by unfold Qg; rw [HD.out,<- HI.out]; rfl,?_,?_,HM.out.from_⟩
    . show Rd _ _ _ _ _
      rw [HD.out];exact HM.out.rd (i:=0) rfl
    . have h1:=(HM.out.own (i:=0) rfl).cap;rw [Ye] at h1;unfold Qg;rw [HD.out];exact h1.1
  . have hlt0:(0:Int)<(r:Int):=by omega
    obtain⟨d,hd⟩:∃ d,d=r % 65536:=⟨_,rfl⟩
    obtain⟨q,hq⟩:∃ q,q=r / 65536:=⟨_,rfl⟩
    have hstep:Hid (dig B16 n=(o ++ [d])++dig B16 q):=by
     unfold Hid;rw [HDG.out,Ve Z2 hr0,hd,hq];simp
    have hd1:d<65536:=by omega
    have hq1:q<18446744073709551616:=by omega
    have hqr:q<r:=by omega
    have w3:(r:Int).tmod 65536=(d:Int):=by rw [hd]; rfl
    have w4:(r:Int).tdiv 65536=(q:Int):=by rw [hq]; rfl
    have w5:(r:Int) % 65536=(d:Int):=by omega
    have w6:(r:Int) / 65536=(q:Int):=by omega
    have w7:IntKind.i64.wrap (d:Int)=(d:Int):=Qk (by omega) (by omega);clear hd hq
    go_wp2_with (first
     | (at_builtin; (refine V3 rfl _ _ rfl Q3j i HOL.out rfl (HM.out.any _) 0 rfl rfl (Rd.new2 wr 3 1 [.int .i64 (d:Int)] rfl) rfl (by simp [Value.oneCell']) (by rw [<- HOL.out]; unfold maxLen; omega) (by rw [<- HOL.out]; omega) ?_); intro A3 c3 w2 h2; have HM2:=Lib.hid h2; clear h2 HM))
    go_roundw
    case rel =>
     refine⟨q,o ++ [d],A3,c3,hq1,by go_num,?_,hstep.out,?_⟩
     . rw [List.length_append,<- HI.out]; rfl
     . have h1:=HM2.out;rw [Jh];exact h1
    case measure=>simp [intOf]; omega
theorem Q1m {a b:Nat} (h:a<=b):Qg a<=Qg b:=Z3 Z2 (Nat.lt_of_le_of_lt h (Qv Z2 (Nat.le_refl _)))
theorem Z1z (a b:Nat):Qg (a*b)<=Qg a+Qg b:=by
 refine Z3 Z2 ?_;rw [Nat.pow_add];exact Nat.mul_lt_mul'' (Qv Z2 (Nat.le_refl _)) (Qv Z2 (Nat.le_refl _))
def Qf (l:List Nat) (v:Value) (w:World):Prop:=∃ A c,v = .slice A l.length c/\Rd w w.heap.size 1 A (Zc .i64 l)/\l.length<=c
theorem Qf.stays {l:List Nat}:∀ v w w',Qf l v w->Qe w w'->Qf l v w':=by
 rintro v w w' ⟨A,c,h1,h2,h3⟩ hb
 exact⟨A,c,h1,h2.from hb,h3⟩
theorem Q98 {x y n ca:Nat} {A:Option Addr} {w:World} (hn:n=Qg x) (hA:Q60 w A x) (hx:Qg x<=1000) (hy:y<65536) :
 Calls Tryz.prog 262 #[.slice A n ca,.int .i64 (y:Int)] w fun e w'=>∃ u,e = .returned u/\Qe w w'/\Qf (dig B16 (x*y)) u w':=by
 refine (Z18 A ca x y n hn w hA hx hy).mono ?_
 rintro e w' ⟨A',c',rfl,h1,h2,h3⟩
 exact⟨_,rfl,h3,A',c',rfl,h1,h2⟩
theorem Q6b {x y:Nat} {u v:Value} {w:World} (hu:Qf (dig B16 x) u w) (hv:Qf (dig B16 y) v w) (hx:Qg x<=1000000) (hy:Qg y<=1000000) :
 Calls Tryz.prog 223 #[u,v] w fun e w'=>e = .returned (.bool (decide (x<y)))/\Qe w w':=by
 obtain⟨A,c,rfl,h2,_⟩:=hu;obtain⟨D,c2,rfl,h4,_⟩:=hv;exact Z40 A D c c2 x y _ _ rfl rfl w h2 h4 hx hy
theorem Z0f {x y:Nat} {u v:Value} {w:World} (hu:Qf (dig B16 x) u w) (hv:Qf (dig B16 y) v w) (hx:Qg x<=1000) (hyx:y<=x) :
 Calls Tryz.prog 224 #[u,v] w fun e w'=>∃ z,e = .returned z/\Qe w w'/\Qf (dig B16 (x - y)) z w':=by
 obtain⟨A,c,rfl,h2,h3⟩:=hu;obtain⟨D,c2,rfl,h4,h5⟩:=hv;refine (Z6o A D c c2 x y _ _ rfl rfl w h2 h4 hx hyx).mono ?_
 rintro e w' ⟨A',c',rfl,h6,h7,h8⟩
 exact⟨_,rfl,h8,A',c',rfl,h6,h7⟩
theorem Qs9 {x y:Nat} {u v:Value} {w:World} (hu:Qf (dig B16 x) u w) (hv:Qf (dig B16 y) v w) (hx:Qg x<=400) (hy:Qg y<=400) (hxy:x<y) :
 Calls Tryz.prog 226 #[u,v] w fun e w'=>∃ q r,e = .returned (.tuple #[q,r])/\Qe w w'/\Qf (dig B16 (x / y)) q w'/\Qf (dig B16 (x % y)) r w':=by
 have hT:Hid (decide (x<y)=true):=decide_eq_true hxy;have HU:=Lib.hid hu;have HV:=Lib.hid hv;have HS:=Lib.hid (And.intro hx hy);have HD:=Lib.hid (And.intro (Nat.div_eq_of_lt hxy) (Nat.mod_eq_of_lt hxy));clear hu hv hx hy hxy
 go_enter Tryz.func226,Tryz.ntmps226
 go_wp2_with (go_at_call 223; refine (Q6b HU.out HV.out (Nat.le_trans HS.out.1 (by decide)) (Nat.le_trans HS.out.2 (by decide))).mono ?_; rintro e w1 ⟨rfl,hb1⟩; rw [hT.out]; have HB1:=Lib.hid hb1; clear hb1)
 go_ret2
 refine⟨.slice none 0 0,u,rfl,HB1.out,?_,?_⟩
 . rw [HD.out.1,Vs Z2];exact⟨none,0,rfl,fun k cs hk=>(by cases hk),Nat.le_refl _⟩
 . rw [HD.out.2];exact Qf.stays _ _ _ HU.out HB1.out
theorem Z2z {w:World} {B size g off:Nat} {css:List (List Value)} (h:Rd w B size (some ⟨g,off,none⟩) css) (n:Nat):Rd w B size (some ⟨g,off+n*size,none⟩) (css.drop n):=by
 intro k cs hk;rw [List.getElem?_drop] at hk;obtain⟨b,o,e,hlt,hl,hc⟩:=h (n+k) cs hk;simp only [Option.some.injEq,Addr.mk.injEq,and_true] at e;obtain⟨rfl,rfl⟩:=e;refine⟨g,off+n*size,rfl,hlt,hl,fun j u hu => ?_⟩;have h1:=hc j u hu;have e2:off+(n+k)*size+j=off+n*size+k*size+j:=by rw [Nat.add_mul]; omega
 rw [e2] at h1;exact h1
theorem Qmc {l:List Nat} {i j:Nat} (h:j<=i):Q5 B16 (l.drop i)<=Q5 B16 (l.drop j):=by
 have h1:=V7 B16 (l.drop j) (i - j);rw [List.drop_drop,show j+(i - j)=i by omega] at h1;have h2:1<=B16^((l.drop j).take (i - j)).length:=Nat.one_le_pow _ _ (by decide);have h3:=Nat.mul_le_mul_right (Q5 B16 (l.drop i)) h2;omega
theorem Qfe {w:World} {ops:Array Oper} {rest:List Oper} {o:Oper} {a:Act} {Q:Exit->Act->World->Prop} {t e bytes g T cn m d:Nat} {X:Option Addr} {l:List Nat} (hgd:o.guard=none) (s x:Operand)
 (ho:o.op = .call { callee := .builtin .append,args := #[s,x],argTypes := #[t,t] })
 (hE:EI Tryz.prog t e 1 bytes) (hs:a.eval s = .slice (some ⟨g,0,none⟩) 1 1) (hg:w.heap[g]? = some (.cells #[.int .i64 (d:Int)] T (0,0))) (hx:a.eval x = .slice X m cn) (hr:Rd w w.heap.size 1 X (Zc .i64 l)) (hm:m=l.length) (hl:l.length<=100000) (hby:bytes=8)
 (h:∀ v' w',Qe w w'->(∃ A c,v' = .slice A (l.length+1) c/\Rd w' w'.heap.size 1 A (Zc .i64 (d::l))/\l.length+1<=c/\∀ q,A=some q->g<=q.block)->wpList Tryz.prog ops Q rest (a.put o.dst v') w'):wpList Tryz.prog ops Q (o::rest) a w:=by
 have hgl:g<w.heap.size:=(Array.getElem?_eq_some_iff.1 hg).1;obtain⟨v',w',hrun,hf,A,c,rfl,h1,h2,h3⟩:∃ v' w',(Builtin.append_ #[t,t] o.type #[.slice (some ⟨g,0,none⟩) 1 1,.slice X m cn]).run Tryz.prog w = .ok v' w'/\Qe w w'/\∃ A c,v' = .slice A (l.length+1) c/\Rd w' w'.heap.size 1 A (Zc .i64 (d::l))/\l.length+1<=c/\∀ q,A=some q->g<=q.block:=by
  subst hm;obtain⟨ht,i,z,hi,hz,hs,hb,hzs,h0⟩:=hE;have hc1:Rd w w.heap.size 1 (some ⟨g,0,none⟩) (Zc .i64 [d]):=Rd.one (cs := [.int .i64 (d:Int)]) hg rfl;rcases l with _|⟨d2,l⟩
  . refine⟨.slice (some ⟨g,0,none⟩) 1 1,w,?_,Below.refl _ _,some ⟨g,0,none⟩,1,rfl,hc1,Nat.le_refl _,fun q hq=>by injection hq with hq; subst hq; exact Nat.le_refl _⟩;rcases X with _|ad
    . simp [Builtin.append_,run_underlying ht,sizeOf,typeInfo,hi,Builtin.lenOf,Builtin.firstCells,storeCells]
    . simp [Builtin.append_,run_underlying ht,sizeOf,typeInfo,hi,Builtin.lenOf,Builtin.firstCells,storeCells,loadCells,loadCellsFrom]
  . obtain⟨b,off,rfl,hlt,hcc⟩:=Qah hr (i:=0) (by simp);have hlen:(Zc .i64 (d2::l)).length=(d2::l).length:=Ye _ _;obtain⟨v',w',hrun,r1,r2⟩:=run_append_arg_grows (P:=Tryz.prog) w t o.type e i z 1 bytes ht hi hz hs hb hzs h0 ⟨g,0,none⟩ 1 1 [.int .i64 (d:Int)] rfl
     (fun j u hu=>by obtain⟨ad',h,hc⟩:=hc1.flat j u hu; cases h; exact hc)
     ⟨b,off,none⟩ (d2::l).length cn (Zc .i64 (d2::l)).flatten (by rw [J0 _ hr.len,hlen])
     (fun j u hu=>by obtain⟨ad',h,hc⟩:=hr.flat j u hu; cases h; exact hc)
     (by simp) (by unfold maxLen; omega) (by subst hby; omega)
    obtain⟨A',c',rfl,h4⟩:=Z1.of (css:=Zc .i64 (d::d2::l)) (base:=w.heap.size) (e:=e) (size:=1) (n:=1+(d2::l).length) (v:=v') (w:=w') (by exact r1) (by rw [Ye]; simp; omega) (fun cs hcs=>by unfold Zc at hcs; obtain⟨q,_,rfl⟩:=List.mem_map.1 hcs; rfl);refine⟨_,w',hrun,(Below.refl _ _).grown r2 (Nat.le_refl _) (fun k hk=>by cases hk),A',c',?_,h4.rd,?_,fun q hq=>Nat.le_trans (Nat.le_of_lt hgl) (h4.lt hq).1⟩
    . rw [Ye]; simp
    . have h5:=h4.cap;rw [Ye] at h5;exact h5.1
 refine wpList_plain hgd fun K hK => ?_;unfold Oper.wp execOp;simp only [ho,resolve,invoke,builtin,Sem.run_bind,Sem.run_pure,Result.andThen_ok,List.map_toArray,List.map_cons,List.map_nil,hs,hx,hrun];exact hK _ _ (h _ _ hf ⟨A,c,rfl,h1,h2,h3⟩)
theorem Qf.apart {w w':World} {l:List Nat} {A:Option Addr} {n c g:Nat} (h:Qf l (.slice A n c) w) (hne:∀ p,A=some p->p.block≠g) (hg:w.grownBy w' (some g)):Qf l (.slice A n c) w':=by
 obtain⟨A2,c2,e,h2,h3⟩:=h;have e2:=e;injection e2 with e3 e4 e5;subst e3;exact⟨A,c2,e,h2.apart hne hg,h3⟩
theorem Qur {d:Nat} (h:d<65536):Qg d<=1:=Z3 Z2 (by rw [Nat.pow_one]; exact h)
theorem Qu1 {A:Option Addr} {n c n3 W g:Nat} {l:List Nat} {w:World} (hn:n=l.length) (h2:Rd w w.heap.size 1 A (Zc .i64 l)) (h3:n<=c) (hl:Ql B16 l) (hn4:l.length<=100000) (hW:Q5 B16 l=W) (hn3:n3=(dig B16 W).length) (hfr:∀ q,A=some q->g<=q.block) :
 Calls Tryz.prog 225 #[.slice A n c] w fun e w'=>∃ A' c',e = .returned (.slice A' n3 c')/\w'=w/\Q60 w A' W/\n3<=c'/\∀ q,A'=some q->g<=q.block:=by
 subst hW;subst hn;refine (Qbl A c _ l rfl w h2 hl (by omega) h3).mono ?_
 rintro e w' ⟨rfl,rfl⟩
 refine⟨A,c,by rw [hn3]; try rfl,rfl,Q20 Z2 h2 hl,?_,hfr⟩;rw [hn3];exact Nat.le_trans (Z3 Z2 (Y6 _ hl)) h3
set_option maxHeartbeats 2000000 in
theorem Qrb {x y:Nat} {u v:Value} {w:World} (hu:Qf (dig B16 x) u w) (hv:Qf (dig B16 y) v w) (hx:Qg x<=400) (hy0:0<y) (hxy:y<=x) :
 Calls Tryz.prog 226 #[u,v] w fun e w'=>∃ q r,e = .returned (.tuple #[q,r])/\Qe w w'/\Qf (dig B16 (x / y)) q w'/\Qf (dig B16 (x % y)) r w':=by
 have hT:Hid (decide (x<y)=false):=decide_eq_false (by omega);have hyl:Qg y<=Qg x:=Q1m hxy;have HU:=Lib.hid hu;have HV:=Lib.hid hv;obtain⟨A,ca,rfl,hA,hca⟩:=hu;obtain⟨D,cd,rfl,hD,hcd⟩:=hv;have hyp:0<(dig B16 y).length:=K8 Z2 (by omega);obtain⟨na,hna⟩:∃ na,na=(dig B16 x).length:=⟨_,rfl⟩
 obtain⟨nb,hnb⟩:∃ nb,nb=(dig B16 y).length:=⟨_,rfl⟩
 unfold Qg at hx hyl;have hAf:∃ b off,A=some ⟨b,off,none⟩:=by
  obtain⟨b,off,h,_⟩:=Vb Tryz.underlying3 rfl hA (i:=0) (by omega);exact⟨b,off,h⟩
 obtain⟨b,off,rfl⟩:=hAf;rw [<- hna] at HU hx hyl hca ⊢;rw [<- hnb] at HV hyp hyl hcd ⊢;obtain⟨t,ht⟩:∃ t,t=na - nb:=⟨_,rfl⟩
 obtain⟨s,hs⟩:∃ s,s=t+1:=⟨_,rfl⟩
 have w1:IntKind.i64.wrap ((na:Int) - (nb:Int))=(t:Int):=by rw [Qk (by omega) (by omega)]; omega
 have w2:IntKind.i64.wrap ((t:Int)+1)=(s:Int):=by rw [Qk (by omega) (by omega)]; omega
 have hsn:(s:Int)<=(na:Int):=by omega
 have hsna:s<=na:=by omega
 have hs400:s<=400:=by omega
 have hnb4:nb<=400:=by omega
 have hsc:¬ ca<s:=by omega
 have hnas:na - s=nb - 1:=by omega
 have HN:=Lib.hid (And.intro hna hnb);have HA:=Lib.hid hA;have HD:=Lib.hid hD;have HTS:=Lib.hid (And.intro ht (And.intro hs (And.intro hca hcd)));have HX:=Lib.hid (And.intro hx (And.intro hy0 (And.intro hxy (And.intro hyp hyl))));clear hna hnb hA hD ht hs hx hy0 hxy hyp hyl;have HM:Hid (nb - 1=(Zc .i64 ((dig B16 x).drop s)).length):=by unfold Hid; rw [Ye,List.length_drop,<- HN.out.1,hnas]
 obtain⟨P,hP⟩:∃ P,(if ca=s then some (⟨b,off,none⟩:Addr) else some ⟨b,off+s,none⟩)=some ⟨b,P,none⟩:=by
  by_cases h:ca=s
  . exact⟨off,if_pos h⟩
  . exact⟨off+s,if_neg h⟩
 have HRD:Hid (Rd w w.heap.size 1 (some ⟨b,P,none⟩) (Zc .i64 ((dig B16 x).drop s))):=by
  unfold Hid;rw [<- hP];split
  . rw [List.drop_eq_nil_of_le (by rw [<- HN.out.1]; omega)];intro k cs hk; cases hk
  . have h1:=Z2z HA.out s;rw [Nat.mul_one] at h1;unfold Zc at h1 ⊢;rw [List.map_drop];exact h1
 go_enter Tryz.func226,Tryz.ntmps226
 go_wp2_with (first
  | (go_at_call 223; refine (Q6b HU.out HV.out (by rw [<- show (dig B16 x).length=Qg x from rfl,<- HN.out.1]; exact Nat.le_trans HX.out.1 (by decide)) (by rw [<- show (dig B16 y).length=Qg y from rfl,<- HN.out.2]; exact Nat.le_trans HX.out.2.2.2.2 (Nat.le_trans HX.out.1 (by decide)))).mono ?_; rintro e w1 ⟨rfl,hb1⟩; rw [hT.out]; have HB1:=Lib.hid hb1; clear hb1)
  | (at_builtin; go_loud (refine Q8a rfl _ _ rfl Q3j 0 rfl rfl (Z1.empty_new w1 w1.heap.size _ 1 (Nat.le_refl _)) rfl _ (HRD.out.from (HB1.out.alloc HB1.out.size _)) HM.out (by intro cs hc v hv; unfold Zc at hc; obtain⟨q,_,rfl⟩:=List.mem_map.1 hc; simp at hv; subst hv; rfl) (by simp only [List.length_nil]; unfold maxLen; omega) (by simp only [List.length_nil]; omega) (by simp) ?_); intro A7 c7 w2 h7 h8 h9 h10; have H7:=Lib.hid (And.intro h7 h9); clear h7 h8 h9 h10)
  | (at_make; go_loud (refine Q5y (n:=s) rfl _ _ rfl Tryz.underlying43 Z2x rfl rfl (by simp) (by simp) (by omega) (by unfold maxLen; omega) ?_); intro w3 h3 h4 h5; have H3:=Lib.hid (And.intro h3 (And.intro h4 h5)); clear h3 h4 h5))
 have HGB:Hid (w.heap.size<=w2.heap.size):=Nat.le_trans (HB1.out.alloc HB1.out.size (.cells #[] 3)).size H7.out.2.size
 go_loopw [7,9] (fun v7 v9 wq=>∃ (k:Nat) (l o:List Nat),k<=s/\v9 = .int .i64 ((k:Int) - 1)/\Qf l v7 wq/\(k=s\/l=dig B16 (Q5 B16 l))/\Ql B16 l/\Q5 B16 l<y/\l.length<=nb/\o.length=s/\Ql B16 o/\Q5 B16 ((dig B16 x).drop k)=Q5 B16 (o.drop k)*y+Q5 B16 l/\NB wq w2.heap.size 3 .i64 o/\Qe w wq) (fun _ v _=>(intOf v+1).toNat)
 case atStart =>
  have hl:((dig B16 x).drop s).length=nb - 1:=by rw [List.length_drop,<- HN.out.1,hnas]
  have hrd:=H7.out.1.rd.from H3.out.2.1
  rw [List.nil_append] at hrd;have hcap:=H7.out.1.cap;rw [List.nil_append,Ye] at hcap;refine⟨s,(dig B16 x).drop s,List.replicate s 0,Nat.le_refl _,?_,⟨A7,c7,?_,hrd,hcap.1⟩,.inl rfl,(Ql.dig Z2 x).drop s,?_,by omega,by simp,Ql.zeros (by decide) s,?_,H3.out.1,?_⟩
  . have h1:=HTS.out;congr 1; try omega
  . rw [hl]; try (congr 1<;>omega)
  . have h1:=Y6 ((dig B16 x).drop s) ((Ql.dig Z2 x).drop s);rw [hl] at h1;refine Nat.lt_of_lt_of_le h1 ((Vt Z2).1 ?_);rw [<- HN.out.2];have:=HX.out.2.2.2.1;omega
  . have e1:(List.replicate s 0).drop s = []:=List.drop_eq_nil_of_le (by simp);rw [e1,Q7p,Nat.zero_mul,Nat.zero_add]
  . have h1:=(HB1.out.alloc HB1.out.size (.cells #[] 3)).trans (H7.out.2.mono HB1.out.size);exact h1.trans (H3.out.2.1.mono h1.size)
 case round =>
  clear H3 H7;obtain⟨k,l,o,hk,rfl,hrl,hlt,hld,hR,hlb,hol,hod,hval,hnb,hf⟩:=hrel;by_cases hk0:k=0
  . subst hk0;have hend:=Z2v (a:=x) hR (by have h1:=hval; rw [List.drop_zero,List.drop_zero,Zt Z2] at h1; exact h1);have hql:(dig B16 (Q5 B16 o)).length<=s:=by have h1:=Z3 Z2 (Y6 o hod); rw [hol] at h1; exact h1
    have HE:=Lib.hid (And.intro hend (And.intro hql (And.intro hod hf)));have HO:=Lib.hid hol;have HRO:=Lib.hid hnb.rd0;have HL:Hid (Qf (dig B16 (x % y)) u7 wr):=by
     unfold Hid;rw [<- hend.2];rcases hlt with h1|h1
     . have:=HTS.out; omega
     . rw [<- h1]; exact hrl
    have e0:(((0:Nat):Int) - 1) = -1:=rfl;rw [e0];clear hval hnb hf hrl hlt hld hR hlb hod hend hql hol
    go_wp2_with (go_at_call 225; go_loud (refine (Qbl _ _ _ o HO.out.symm wr HRO.out HE.out.2.2.1 (by rw [HO.out]; omega) (by rw [HO.out]; exact Nat.le_refl _)).mono ?_); rintro e w5 ⟨rfl,rfl⟩)
    go_ret2
    refine⟨_,_,rfl,HE.out.2.2.2,⟨some ⟨w2.heap.size,0,none⟩,s,?_,?_,?_⟩,HL.out⟩
    . rw [<- HE.out.1.1]; rfl
    . rw [<- HE.out.1.1]; exact Q20 Z2 HRO.out HE.out.2.2.1
    . rw [<- HE.out.1.1]; exact HE.out.2.1
  . obtain⟨j,rfl⟩:∃ j,k=j+1:=⟨k - 1,by omega⟩
    have e1:(((j+1:Nat):Int) - 1)=(j:Int):=by omega
    rw [e1];clear e1 hk0;have hjs:j<s:=by omega
    have hjx:j<(dig B16 x).length:=by rw [<- HN.out.1]; omega
    have HLX:=Lib.hid (Z67 Tryz.underlying3 rfl (HA.out.from hf) hjx wr (Below.refl _ _));obtain⟨d,hd⟩:∃ d,d=(dig B16 x)[j]:=⟨_,rfl⟩
    rw [<- hd] at HLX;have hdB:d<65536:=by rw [hd]; exact (Ql.dig Z2 x).get hjx
    obtain⟨R,hRe⟩:∃ R,R=Q5 B16 l:=⟨_,rfl⟩
    obtain⟨W,hW⟩:∃ W,W=d+B16*R:=⟨_,rfl⟩
    obtain⟨q,hq⟩:∃ q,q=W / y:=⟨_,rfl⟩
    obtain⟨m,hm⟩:∃ m,nb=m+1:=⟨nb - 1,by have:=HX.out.2.2.2.1; omega⟩
    have hm16:m+1=Qg y:=by rw [<- hm]; exact HN.out.2
    rw [<- hRe] at hR;have hqB:q<65536:=by rw [hq,hW]; exact Qyx (B:=B16) hR hdB
    have hWy:W<B16*y:=by
     have:=Nat.mul_le_mul_left B16 (show R+1<=y by omega);rw [Nat.mul_add,Nat.mul_one] at this;have e:B16=65536:=rfl;omega
    have hstep:=Z06 (o:=o) (b:=y) (R:=R) hjx (by omega) (by rw [hRe]; exact hval);rw [<- hd,<- hW,<- hq] at hstep;have hdl:Ql B16 (d::l):=by
     intro z hz;rcases List.mem_cons.1 hz with h1|h1
     . subst h1; exact hdB
     . exact hld z h1
    have hvl:Q5 B16 (d::l)=W:=by rw [Gm,hW,hRe]
    obtain⟨n3,hn3⟩:∃ n3,n3=(dig B16 W).length:=⟨_,rfl⟩
    have hn3l:n3<=401:=by
     have h1:=Z3 Z2 (Y6 (d::l) hdl);rw [hvl,List.length_cons,<- hn3] at h1;omega
    obtain⟨A6,c6,rfl,hr6,hc6⟩:=hrl;obtain⟨ll,hll⟩:∃ ll,ll=l.length:=⟨_,rfl⟩
    rw [<- hll] at hc6 hlb ⊢;have hll4:ll<=400:=by omega
    have HLL:=Lib.hid (And.intro hll hlb);have HR6:=Lib.hid hr6;have HDL:=Lib.hid (And.intro hdl hvl);have HW:=Lib.hid (And.intro hW (And.intro hWy hq));have HN3:=Lib.hid hn3;have HST:=Lib.hid hstep;have HM:=Lib.hid (And.intro hm hm16);have HO:=Lib.hid (And.intro hod hol);have HNB:=Lib.hid hnb;have HF:=Lib.hid hf;clear hlt hld hR hlb hod hval hnb hf hd hRe hW hq hm hm16 hWy hstep hdl hvl hn3 hll hr6 hc6 hol;have HAP:=Lib.hid (fun (w1:World) (A:Option Addr) (c:Nat) (h1:Rd w1 w1.heap.size 1 A (Zc .i64 (d::l))) (h3:ll+1<=c) (h4:∀ q,A=some q->wr.heap.size<=q.block)=>Qu1 (n:=ll+1) (n3:=n3) (W:=W) (g:=wr.heap.size) (w:=w1) (by rw [List.length_cons,HLL.out.1]) h1 h3 HDL.out.1 (by rw [List.length_cons,<- HLL.out.1]; omega) HDL.out.2 HN3.out h4);have hja:(j:Int)<(na:Int):=by omega
    have wN3:IntKind.i64.wrap ((n3:Int) - 1)=(n3:Int) - 1:=Qk (by omega) (by omega);clear hsn hsc hnas
    go_wp2_with (first
     | ((with_reducible refine Z4 3 ?_); refine Q9 rfl _ _ rfl _ rfl _ HLX.out ?_)
     | (at_builtin; go_loud (refine Qfe (g:=wr.heap.size) (d:=d) (l:=l) rfl _ _ rfl Q3j rfl (heap_alloc_new wr _) rfl (HR6.out.from ((Below.refl _ _).alloc (Nat.le_refl _) _)) HLL.out.1 (by rw [<- HLL.out.1]; omega) rfl ?_); rintro v5 w5 h5 ⟨A5,c5,rfl,h6,h7,h8⟩; rw [<- HLL.out.1]; have H5:=Lib.hid (And.intro h5 (And.intro h6 (And.intro (show ll+1<=c5 by rw [HLL.out.1]; exact h7) h8))); clear h5 h6 h7 h8)
     | (go_at_call 225; go_loud (refine (HAP.out _ _ _ H5.out.2.1 H5.out.2.2.1 H5.out.2.2.2).mono ?_); rintro e w7 ⟨A3,c3,rfl,rfl,h6,h7,h8⟩; have H7:=Lib.hid (And.intro h6 (And.intro h7 h8)); clear h6 h7 h8))
    have HF5:Hid (Qe w w7):=by
     have h1:=HF.out.alloc HF.out.size (.cells #[.int .i64 (d:Int)] 3);exact h1.trans (H5.out.1.mono h1.size)
    have HNB5:Hid (NB w7 w2.heap.size 3 .i64 o):=by
     have h1:=(Below.refl wr.heap.size wr).alloc (Nat.le_refl _) (.cells #[.int .i64 (d:Int)] 3);exact HNB.out.below (h1.trans (H5.out.1.mono h1.size)) HNB.out.lt
    have HG:Hid (∀ p,A3=some p->p.block≠w2.heap.size):=fun p hp h1=>by
     have h2:=H7.out.2.2 p hp;have h3:=HNB.out.lt;omega
    have HRS:Hid (Qf (dig B16 W) (.slice A3 n3 c3) w7):=⟨A3,c3,by rw [HN3.out],H7.out.1,by rw [<- HN3.out]; exact H7.out.2.1⟩
    obtain⟨b2,o2,rfl,_,hc2⟩:=Qah (HD.out.from HF5.out) (i:=m) (by rw [<- HN.out.2]; have:=HM.out.1; omega);obtain⟨d2,hd2⟩:∃ d2,d2=(dig B16 y).getD m 0:=⟨_,rfl⟩
    rw [<- hd2] at hc2;have HC2:=Lib.hid hc2;have hgs:=Qyt (W:=W) HM.out.2;rw [<- hd2] at hgs;have HGS:=Lib.hid hgs;have hd20:0<d2:=by rw [hd2]; exact (Qni HM.out.2).1
    have hd2B:d2<65536:=by rw [hd2]; exact (Ql.dig Z2 y).getD (by decide) m
    clear hc2 hgs hd2 HAP H5 HR6 HLX HNB HF HDL HLL;have wNB:IntKind.i64.wrap ((nb:Int) - 1)=(m:Int):=by have:=HM.out.1; rw [Qk (by omega) (by omega)]; omega
    have hmi:(m:Int)<(nb:Int):=by have:=HM.out.1; omega
    have hm4:m<=400:=by have:=HM.out.1; omega
    go_loopw [10,11] (fun v10 v11 wq=>∃ i:Nat,i<=n3/\v11 = .int .i64 ((i:Int) - 1)/\v10 = .int .i64 ((Q5 B16 ((dig B16 W).drop i):Nat):Int)/\(m<=i\/i=n3)/\wq=w7) (fun _ v _=>(intOf v+1).toNat)
    case atStart=>exact⟨n3,Nat.le_refl _,rfl,by rw [List.drop_eq_nil_of_le (by rw [HN3.out]; exact Nat.le_refl _)]; rfl,.inr rfl,rfl⟩
    case round =>
     obtain⟨i,hi,rfl,rfl,him,rfl⟩:=hrel;obtain⟨tp,htp⟩:∃ tp,tp=Q5 B16 ((dig B16 W).drop i):=⟨_,rfl⟩
     rw [<- htp];by_cases hc:i<=m
     . have hcmp:¬ (m:Int)<=(i:Int) - 1:=by omega
       have hcmp2:(i:Int) - 1<(m:Int):=by omega
       have htop:tp=Q5 B16 ((dig B16 W).drop m):=by
        rw [htp];rcases him with h1|h1
        . rw [show i=m by omega]
        . rw [List.drop_eq_nil_of_le (by rw [<- HN3.out]; omega),List.drop_eq_nil_of_le (by rw [<- HN3.out]; omega)]
       have htpB:tp<4294967296:=by rw [htop]; exact Qrr HM.out.2 HW.out.2.1
       have hgs:=HGS.out;rw [<- htop,<- HW.out.2.2] at hgs;obtain⟨d3,hd3⟩:∃ d3,d3=d2+1:=⟨_,rfl⟩
       rw [<- hd3] at hgs;obtain⟨lo,hlo⟩:∃ lo,lo=tp / d3:=⟨_,rfl⟩
       obtain⟨h0,hh0⟩:∃ h0,h0=tp / d2:=⟨_,rfl⟩
       rw [<- hlo,<- hh0] at hgs;obtain⟨hi2,hhi2⟩:∃ hi2,hi2=min h0 65535:=⟨_,rfl⟩
       have wD3:IntKind.i64.wrap ((d2:Int)+1)=(d3:Int):=by rw [Qk (by omega) (by omega)]; omega
       have q1:(tp:Int).tdiv (d3:Int)=(lo:Int):=by rw [hlo]; exact (Int.ofNat_tdiv tp d3).symm
       have q2:(tp:Int).tdiv (d2:Int)=(h0:Int):=by rw [hh0]; exact (Int.ofNat_tdiv tp d2).symm
       have hlol:lo<=tp:=by rw [hlo]; exact Nat.div_le_self _ _
       have hh0l:h0<=tp:=by rw [hh0]; exact Nat.div_le_self _ _
       have q3:IntKind.i64.wrap (lo:Int)=(lo:Int):=Qk (by omega) (by omega);have q4:IntKind.i64.wrap (h0:Int)=(h0:Int):=Qk (by omega) (by omega);have z3:¬ (d3:Int)=0:=by omega
       have z2:¬ (d2:Int)=0:=by omega
       have hmin:(if (65535:Int)<(h0:Int) then (65535:Int) else (h0:Int))=(hi2:Int):=by rw [hhi2]; split<;>omega
       have hq1:lo<=q:=hgs.1;have hq2:q<=hi2:=by omega
       have hi2B:hi2<=65535:=by omega
       have c1:=HC2.out wr.drew (Below.refl _ _).drew;have hmo:Tryz.prog.follows .mixedOrders=true:=by kernel_rfl
       clear hlo hh0 hhi2 hd3 htop htp him hgs hc hi
       go_wp2
       go_region
       have hdr:Below wr.heap.size wr wr.drew:=(Below.refl _ _).drew;have HF6:=Lib.hid (HF5.out.trans (hdr.mono HF5.out.size));have HNB6:=Lib.hid (HNB5.out.below hdr HNB5.out.lt);have HRS6:=Lib.hid (Qf.stays _ _ _ HRS.out hdr);clear HF5 HNB5 HRS hdr c1 HC2 H7 wD3 q1 q2 q3 q4 z3 z2 hmin hlol hh0l hcmp hcmp2 HGS;generalize wr.drew=wz at *
       go_wp2
       go_loopw [12,13] (fun v12 v13 wq=>∃ lo1 hi1:Nat,lo1<=q/\q<=hi1/\hi1<=65535/\v12 = .int .i64 (lo1:Int)/\v13 = .int .i64 (hi1:Int)/\Qe wz wq) (fun v12 v13 _=>(intOf v13 - intOf v12).toNat)
       case atStart=>exact⟨lo,hi2,hq1,hq2,hi2B,rfl,rfl,Below.refl _ _⟩
       case round =>
        clear hq1 hq2 hi2B;obtain⟨lo1,hi1,hl1,hh1,hB1,rfl,rfl,hf7⟩:=hrel;have HF7:=Lib.hid (HF6.out.trans (hf7.mono HF6.out.size));have HNB7:=Lib.hid (HNB6.out.below hf7 HNB6.out.lt);have HRS7:=Lib.hid (Qf.stays _ _ _ HRS6.out hf7);have HF7z:=Lib.hid hf7;have HWL:Hid (Qg W<=401):=by unfold Hid; show (dig B16 W).length<=401; rw [<- HN3.out]; exact hn3l
        have HYL:Hid (Qg y<=400):=by unfold Hid; rw [<- HM.out.2,<- HM.out.1]; exact hnb4
        clear hf7 HF6 HNB6 HRS6;by_cases hlh:lo1<hi1
        . have hlhi:(lo1:Int)<(hi1:Int):=by omega
          obtain⟨s1,hs1⟩:∃ s1,s1=lo1+hi1:=⟨_,rfl⟩
          obtain⟨s2,hs2⟩:∃ s2,s2=s1+1:=⟨_,rfl⟩
          obtain⟨md,hmd⟩:∃ md,md=s2 / 2:=⟨_,rfl⟩
          have r1:IntKind.i64.wrap ((lo1:Int)+(hi1:Int))=(s1:Int):=by rw [Qk (by omega) (by omega)]; omega
          have r2:IntKind.i64.wrap ((s1:Int)+1)=(s2:Int):=by rw [Qk (by omega) (by omega)]; omega
          have r3:(s2:Int).tdiv 2=(md:Int):=by rw [hmd]; exact (Int.ofNat_tdiv s2 2).symm
          have r4:IntKind.i64.wrap (md:Int)=(md:Int):=Qk (by omega) (by omega);have hmdB:md<65536:=by omega
          have HYM:Hid (Qg (y*md)<=1000000):=Nat.le_trans (Z1z y md) (by have:=HYL.out; have:=Qur hmdB; omega);have hml:lo1<md:=by omega
          have hmh:md<=hi1:=by omega
          obtain⟨m1,hm1⟩:∃ m1,m1=md - 1:=⟨_,rfl⟩
          have r5:IntKind.i64.wrap ((md:Int) - 1)=(m1:Int):=by rw [Qk (by omega) (by omega)]; omega
          have HQ:=Lib.hid (And.intro hl1 (And.intro hh1 (And.intro hB1 (And.intro hm1 (And.intro (show m1<=65535 by omega) (And.intro hml hmh))))));by_cases hWm:W<y*md
          . have hT2:Hid (decide (W<y*md)=true):=decide_eq_true hWm;have hqm:q<=m1:=by have:=(Z3r HX.out.2.1 HW.out.2.2 hWm).1; omega
            clear hWm hmd hs1 hs2 hm1 hml hmh hl1 hh1 hB1 hlh
            go_wp2_with (first
             | (go_at_call 262; go_loud (refine (Q98 (x:=y) (y:=md) HN.out.2 (HD.out.from HF7.out) (by have:=HYL.out; omega) hmdB).mono ?_); rintro e w8 ⟨u8,rfl,hb8,hr8⟩; have H8:=Lib.hid (And.intro hb8 hr8); clear hb8 hr8)
             | (go_at_call 223; go_loud (refine (Q6b (Qf.stays _ _ _ HRS7.out H8.out.1) H8.out.2 (by have:=HWL.out; omega) HYM.out).mono ?_); rintro e w9 ⟨rfl,hb9⟩; rw [hT2.out]; have H9:=Lib.hid hb9; clear hb9))
            go_roundw
            case rel=>exact⟨lo1,m1,HQ.out.1,hqm,HQ.out.2.2.2.2.1,rfl,rfl,HF7z.out.trans ((H8.out.1.trans (H9.out.mono H8.out.1.size)).mono HF7z.out.size)⟩
            case measure=>have:=HQ.out; simp [intOf]; omega
          . have hT2:Hid (decide (W<y*md)=false):=decide_eq_false hWm;have hqm:md<=q:=Z2j HX.out.2.1 HW.out.2.2 hWm;clear hWm hmd hs1 hs2 hm1 hml hmh hl1 hh1 hB1 hlh
            go_wp2_with (first
             | (go_at_call 262; go_loud (refine (Q98 (x:=y) (y:=md) HN.out.2 (HD.out.from HF7.out) (by have:=HYL.out; omega) hmdB).mono ?_); rintro e w8 ⟨u8,rfl,hb8,hr8⟩; have H8:=Lib.hid (And.intro hb8 hr8); clear hb8 hr8)
             | (go_at_call 223; go_loud (refine (Q6b (Qf.stays _ _ _ HRS7.out H8.out.1) H8.out.2 (by have:=HWL.out; omega) HYM.out).mono ?_); rintro e w9 ⟨rfl,hb9⟩; rw [hT2.out]; have H9:=Lib.hid hb9; clear hb9))
            go_roundw
            case rel=>exact⟨md,hi1,hqm,HQ.out.2.1,HQ.out.2.2.1,rfl,rfl,HF7z.out.trans ((H8.out.1.trans (H9.out.mono H8.out.1.size)).mono HF7z.out.size)⟩
            case measure=>have:=HQ.out; simp [intOf]; omega
        . obtain rfl:lo1=q:=by omega
          have hnlt:¬ (lo1:Int)<(hi1:Int):=by omega
          have hjo:j<o.length:=by rw [HO.out.2]; exact hjs
          have hjsi:(j:Int)<(s:Int):=by omega
          have wJ:IntKind.i64.wrap ((j:Int) - 1)=(j:Int) - 1:=Qk (by omega) (by omega);have hqy:Hid (y*lo1<=W):=by unfold Hid; rw [HW.out.2.2]; exact Nat.mul_div_le W y
          have hqW:Hid (W - y*lo1=W % y):=by unfold Hid; rw [HW.out.2.2,Nat.mod_eq_sub_mul_div]
          clear HF7z hl1 hh1 hlh hB1
          go_wp2_with (first
           | ((with_reducible refine Z5 3 ?_); go_loud (refine Je rfl _ _ rfl rfl rfl rfl Z4e HNB7.out hjo ?_); intro w8 hnb8 hgr8
              have HF8:=Lib.hid (HF7.out.grown hgr8 HF7.out.size (by intro p hp; injection hp with hp; rw [<- hp]; exact HGB.out));have HRS8:=Lib.hid (HRS7.out.apart HG.out hgr8); have HNB8:=Lib.hid hnb8; clear hnb8 hgr8)
           | (go_at_call 262; go_loud (refine (Q98 (x:=y) (y:=lo1) HN.out.2 (HD.out.from HF8.out) (by have:=HYL.out; omega) hqB).mono ?_); rintro e w9 ⟨u9,rfl,hb9,hr9⟩; have H9:=Lib.hid (And.intro hb9 hr9); clear hb9 hr9)
           | (go_at_call 224; go_loud (refine (Z0f (Qf.stays _ _ _ HRS8.out H9.out.1) H9.out.2 (by have:=HWL.out; omega) hqy.out).mono ?_); rintro e w10 ⟨u10,rfl,hb10,hr10⟩; rw [hqW.out] at hr10; have H10:=Lib.hid (And.intro hb10 hr10); clear hb10 hr10))
          go_roundw
          case rel =>
           have h1:=H9.out.1.trans (H10.out.1.mono H9.out.1.size);refine⟨j,dig B16 (W % y),o.set j lo1,by omega,rfl,H10.out.2,.inr (by rw [Zt Z2]),Ql.dig Z2 _,by rw [Zt Z2]; exact Nat.mod_lt _ HX.out.2.1,?_,by rw [List.length_set]; exact HO.out.2,HO.out.1.set _ _ hqB,by rw [Zt Z2]; exact HST.out,HNB8.out.below h1 HNB8.out.lt,HF8.out.trans (h1.mono HF8.out.size)⟩;rw [HN.out.2];exact Q1m (Nat.le_of_lt (Nat.mod_lt _ HX.out.2.1))
          case measure=>simp [intOf]
     . obtain⟨i2,rfl⟩:∃ i2,i=i2+1:=⟨i - 1,by omega⟩
       have e2:(((i2+1:Nat):Int) - 1)=(i2:Int):=by omega
       rw [e2];clear e2;have hcmp:(m:Int)<=(i2:Int):=by omega
       have hi2l:i2<(dig B16 W).length:=by rw [<- HN3.out]; omega
       have h7:=H7.out;obtain⟨b3,o3,rfl,_,hl3⟩:=Vb Tryz.underlying3 rfl h7.1 hi2l;have hv:=Q1y B16 hi2l;obtain⟨d4,hd4⟩:∃ d4,d4=(dig B16 W)[i2]:=⟨_,rfl⟩
       rw [<- hd4,<- htp] at hv;have HL3:=Lib.hid (hl3 wr (Below.refl _ _));rw [<- hd4] at HL3;obtain⟨tp2,htp2⟩:∃ tp2,tp2=Q5 B16 ((dig B16 W).drop i2):=⟨_,rfl⟩
       rw [<- htp2] at hv;have htB:tp2<4294967296:=Nat.lt_of_le_of_lt (by rw [htp2]; exact Qmc (by omega)) (Qrr (W:=W) HM.out.2 HW.out.2.1);have hv2:tp2=d4+65536*tp:=hv;obtain⟨t5,ht5⟩:∃ t5,t5=tp*65536:=⟨_,rfl⟩
       have q5:IntKind.i64.wrap ((tp:Int)*65536)=(t5:Int):=by rw [Qk (by omega) (by omega)]; omega
       have q6:IntKind.i64.wrap ((t5:Int)+(d4:Int))=(tp2:Int):=by rw [Qk (by omega) (by omega)]; omega
       have q7:IntKind.i64.wrap ((i2:Int) - 1)=(i2:Int) - 1:=Qk (by omega) (by omega);have hin:(i2:Int)<(n3:Int):=by omega
       have HT2:=Lib.hid htp2;clear hl3 h7 hv hv2 hd4 htp htp2 ht5 him hi2l
       go_wp2_with ((with_reducible refine Z4 3 ?_); refine Q9 rfl _ _ rfl _ rfl _ HL3.out ?_)
       go_roundw
       case rel=>exact⟨i2,by omega,rfl,by rw [<- HT2.out],.inl (by omega),by first|trivial|rfl⟩
       case measure=>simp [intOf]
theorem Jt {x y:Nat} {u v:Value} {w:World} (hu:Qf (dig B16 x) u w) (hv:Qf (dig B16 y) v w) (hx:Qg x<=400) (hy:Qg y<=400) (hy0:0<y) :
 Calls Tryz.prog 226 #[u,v] w fun e w'=>∃ q r,e = .returned (.tuple #[q,r])/\Qe w w'/\Qf (dig B16 (x / y)) q w'/\Qf (dig B16 (x % y)) r w':=by
 by_cases h:x<y
 . exact Qs9 hu hv hx hy h
 . exact Qrb hu hv hx hy0 (by omega)
def Qil (v:Value) (w:World):Nat:=match v with
 | .slice (some ⟨b,off,_⟩) n _=>Q5 B16 ((List.range n).map fun i=>match w.cell? ⟨b,off+i,none⟩ with|some (.int _ z)=>z.toNat|_=>0)
 | _=>0
theorem Qbw {w:World} {A:Option Addr} {c y:Nat} (h:Q60 w A y):Qil (.slice A (dig B16 y).length c) w=y:=by
 by_cases h0:0<(dig B16 y).length
 . obtain⟨b,off,rfl,hb,_,_⟩:=h 0 _ (Vu h0);have e:((List.range (dig B16 y).length).map fun i=>match w.cell? ⟨b,off+i,none⟩ with|some (.int _ z)=>z.toNat|_=>0)=dig B16 y:=by
    apply List.ext_getElem
    . simp
    . intro i h1 h2;obtain⟨b',off',e,hb',_,hc⟩:=h i _ (Vu h2);injection e with e;injection e with e1 e2;subst e1; subst e2;have h3:=hc 0 _ rfl;simp only [Nat.mul_one,Nat.add_zero] at h3;simp [h3]
   show Q5 B16 _=y
   rw [e,Zt Z2]
 . have h1:y=0:=by
    rcases Nat.eq_zero_or_pos y with h2|h2
    . exact h2
    . exact absurd (K8 Z2 (n:=y) (by omega)) h0
   subst h1
   cases A with
   | none=>rfl
   | some q=>rfl
theorem Q3r {x y:Nat} {u v:Value} {w:World} (hu:Qf (dig B16 x) u w) (hv:Qf (dig B16 y) v w) (hx:Qg x<=400) (hy:Qg y<=400) :
 Calls Tryz.prog 181 #[u,v] w fun e w'=>∃ z,e = .returned z/\Qe w w'/\Qf (dig B16 (Nat.gcd x y)) z w':=by
 obtain⟨gc,hgc⟩:∃ gc,gc=Nat.gcd x y:=⟨_,rfl⟩
 rw [<- hgc];have HST:=Lib.hid (And.intro hu (And.intro hv (And.intro hgc.symm (And.intro hx hy))));clear hu hv hgc hx hy
 go_enter Tryz.func181,Tryz.ntmps181
 go_wp2
 go_loopw [0,1] (fun av bv wq=>∃ x' y':Nat,(Qf (dig B16 x') av wq/\Qf (dig B16 y') bv wq/\Nat.gcd x' y'=gc/\Qg x'<=400/\Qg y'<=400)/\Qe w wq) (fun _ bv wq=>Qil bv wq)
 case atStart=>exact⟨x,y,HST.out,Below.refl _ _⟩
 case round =>
  clear HST;obtain⟨x',y',⟨hu,hv,hg,hx,hy⟩,hf⟩:=hrel;have HU:=Lib.hid hu;have HV:=Lib.hid hv;obtain⟨A2,c2,rfl,hr2,hc2⟩:=hv;obtain⟨n2,hn2⟩:∃ n2,n2=(dig B16 y').length:=⟨_,rfl⟩
  rw [<- hn2] at hc2 HV ⊢;have HF:=Lib.hid hf;have HS:=Lib.hid (And.intro hg (And.intro hx (And.intro hy hn2)));have HR2:=Lib.hid hr2;clear hu hf hg hx hy hn2 hr2 hc2;by_cases h0:n2=0
  . have hz:¬ (0:Int)<(n2:Int):=by omega
    go_wp2
    go_ret
    refine⟨_,rfl,HF.out,?_⟩;have hy0:y'=0:=by
     rcases Nat.eq_zero_or_pos y' with h2|h2
     . exact h2
     . have:=K8 Z2 (n:=y') (by omega);have:=HS.out.2.2.2;omega
    have hg:=HS.out.1;rw [hy0,Nat.gcd_zero_right] at hg;rw [<- hg];exact HU.out
  . have hz:(0:Int)<(n2:Int):=by omega
    have hy0:0<y':=by
     rcases Nat.eq_zero_or_pos y' with h2|h2
     . subst h2;exact absurd HS.out.2.2.2 h0
     . exact h2
    have HD:=Lib.hid (Jt HU.out HV.out HS.out.2.1 HS.out.2.2.1 hy0)
    go_wp2_with (go_at_call 226; go_loud (refine (HD.out).mono ?_); rintro e w2 ⟨q,r,rfl,hb,hq,hr⟩; have HB:=Lib.hid hb; have HR:=Lib.hid hr; clear hb hq hr HD)
    go_roundw
    case rel =>
     obtain⟨hg,hx,hy,hn2⟩:=HS.out;refine⟨y',x' % y',⟨Qf.stays _ _ _ HV.out HB.out,HR.out,?_,hy,?_⟩,HF.out.trans (HB.out.mono HF.out.size)⟩
     . rw [<- hg,Nat.gcd_comm y',<- Nat.gcd_rec,Nat.gcd_comm]
     . exact Nat.le_trans (Q1m (Nat.le_of_lt (Nat.mod_lt _ hy0))) hy
    case measure =>
     obtain⟨A3,c3,rfl,hr3,_⟩:=HR.out;rw [HS.out.2.2.2,Qbw hr3,Qbw HR2.out];exact Nat.mod_lt _ hy0
end Go.Proofs.YtffeegebohigdaaGreat
namespace Go.Proofs.YtffeegebohigdaaGreat
theorem Qvz {B:Nat} (hB:0<B):∀ (k x j:Nat),j<k->(pad B k x)[j]? = some (x / B^j % B)
 | 0,_,_,h=>by omega
 | k+1,x,0,_=>by simp [pad]
 | k+1,x,j+1,h=>by
  have ih:=Qvz hB k (x / B) j (by omega);unfold pad;rw [List.getElem?_cons_succ,ih,Nat.div_div_eq_div_mul,Nat.pow_succ,Nat.mul_comm B]
theorem Qql {B:Nat} (hB:2<=B) (x:Nat):∀ j,(dig B x).getD j 0=x / B^j % B:=by
 induction x using Nat.strongRecOn with
 | ind x ih =>
  intro j;by_cases h0:x=0
  . subst h0;rw [Vs hB];simp
  . rw [Ve hB h0]
    cases j with
    | zero=>simp
    | succ j =>
     have h1:=ih (x / B) (Nat.div_lt_self (by omega) (by omega)) j;rw [List.getD_cons_succ,h1,Nat.div_div_eq_div_mul,Nat.pow_succ,Nat.mul_comm B]
def Q2b (D:List Nat) (i k:Nat):Nat:=(if 2*k<i then D.getD (2*k) 0 else 0)+65536*(if 2*k+1<i then D.getD (2*k+1) 0 else 0)
def Kj (D:List Nat) (i:Nat):List Nat:=(List.range 8).map (Q2b D i)
theorem G3 (D:List Nat) (i:Nat):(Kj D i).length=8:=by simp [Kj]
theorem Q3a (D:List Nat) (i:Nat) {k:Nat} (h:k<8):(Kj D i)[k]? = some (Q2b D i k):=by
 unfold Kj;simp [List.getElem?_map,List.getElem?_range h]
theorem Qy9 (D:List Nat):Kj D 0=pad B32 8 0:=by
 rw [Qhv];rfl
theorem Qxm {D:List Nat} {k:Nat} (hk:k<8):Kj D (2*k+1)=(Kj D (2*k)).set k (D.getD (2*k) 0):=by
 apply List.ext_getElem?;intro j;rw [List.getElem?_set,G3];rcases Nat.lt_or_ge j 8 with h|h
 . rw [Q3a D _ h,Q3a D _ h];by_cases hj:k=j
   . subst hj;rw [if_pos rfl,if_pos hk];unfold Q2b;rw [if_pos (by omega),if_neg (by omega)];rfl
   . rw [if_neg hj];unfold Q2b;congr 2
     . by_cases h1:2*j<2*k
       . rw [if_pos h1,if_pos (by omega)]
       . rw [if_neg h1,if_neg (by omega)]
     . by_cases h1:2*j+1<2*k
       . rw [if_pos h1,if_pos (by omega)]
       . rw [if_neg h1,if_neg (by omega)]
 . have h1:=G3 D (2*k+1);have h2:=G3 D (2*k);rw [List.getElem?_eq_none (by omega),List.getElem?_eq_none (by omega),if_neg (by omega)]
theorem Qna {D:List Nat} {k:Nat} (hk:k<8):Q2b D (2*k+1) k=D.getD (2*k) 0/\Kj D (2*k+1+1)=(Kj D (2*k+1)).set k (D.getD (2*k) 0+D.getD (2*k+1) 0*65536):=by
 constructor
 . unfold Q2b;rw [if_pos (by omega),if_neg (by omega)];rfl
 . apply List.ext_getElem?;intro j;rw [List.getElem?_set,G3];rcases Nat.lt_or_ge j 8 with h|h
   . rw [Q3a D _ h,Q3a D _ h];by_cases hj:k=j
     . subst hj;rw [if_pos rfl,if_pos hk];unfold Q2b;rw [if_pos (by omega),if_pos (by omega),Nat.mul_comm 65536]
     . rw [if_neg hj];unfold Q2b;congr 2
       . by_cases h1:2*j<2*k+1
         . rw [if_pos h1,if_pos (by omega)]
         . rw [if_neg h1,if_neg (by omega)]
       . by_cases h1:2*j+1<2*k+1
         . rw [if_pos h1,if_pos (by omega)]
         . rw [if_neg h1,if_neg (by omega)]
   . have h1:=G3 D (2*k+1+1);have h2:=G3 D (2*k+1);rw [List.getElem?_eq_none (by omega),List.getElem?_eq_none (by omega),if_neg (by omega)]
theorem Qzo {x n:Nat} (hn:(dig B16 x).length<=n):Kj (dig B16 x) n=pad B32 8 x:=by
 apply List.ext_getElem?;intro j;rcases Nat.lt_or_ge j 8 with h|h
 . rw [Q3a _ _ h,Qvz (by decide) 8 x j h];congr 1;have e:∀ m,(if m<n then (dig B16 x).getD m 0 else 0)=(dig B16 x).getD m 0:=by
    intro m;by_cases hm:m<n
    . rw [if_pos hm]
    . rw [if_neg hm,List.getD_eq_getElem?_getD,List.getElem?_eq_none (by omega)];rfl
   unfold Q2b;rw [e,e,Qql Z2,Qql Z2];have e1:B16=65536:=rfl;have e2:B32=4294967296:=rfl;have e3:B32^j=B16^(2*j):=by
    rw [Nat.pow_mul,e1,e2]
   rw [e3,Nat.pow_succ,<- Nat.div_div_eq_div_mul];generalize x / B16^(2*j)=X;rw [e1,e2];omega
 . have h1:=G3 (dig B16 x) n;have h2:=Qo B32 8 x;rw [List.getElem?_eq_none (by omega),List.getElem?_eq_none (by omega)]
open Go.RowKit
def u8s (l:List Nat):List Value:=l.map fun (n:Nat)=>Value.int .u32 (n:Int)
theorem Qx (l:List Nat):(u8s l).length=l.length:=by simp [u8s]
theorem Qvt (l:List Nat) (i v:Nat):(u8s l).set i (.int .u32 (v:Int))=u8s (l.set i v):=by unfold u8s; rw [List.map_set]
theorem J9:Q3k Tryz.prog 64 8:=⟨_,Tryz.underlying64,by kernel_rfl,by kernel_rfl⟩
theorem J6:(Tryz.prog.info? 64).map (·.size)=some 8:=by kernel_rfl
theorem G9 (l:List Nat):∀ u∈u8s l,u.oneCell'=true:=by
 intro u hu;unfold u8s at hu;obtain⟨n,_,rfl⟩:=List.mem_map.1 hu;rfl
theorem Qnc {x:Nat} {u:Value} {w:World} (hu:Qf (dig B16 x) u w) (hx:Qg x<=400) :
 Calls Tryz.prog 260 #[u] w fun e w'=>e = .returned (.tuple #[.agg (u8s (if Qg x<=16 then pad B32 8 x else pad B32 8 0)).toArray,.bool (decide (Qg x<=16))])/\Qe w w':=by
 obtain⟨A,c,rfl,hr,_⟩:=hu;obtain⟨n,hn⟩:∃ n,n=(dig B16 x).length:=⟨_,rfl⟩
 have hnl:n=Qg x:=hn;rw [<- hnl] at hx ⊢;rw [<- hn];have HM0:Hid (Mem w ((w.alloc (.cells (u8s (pad B32 8 0)).toArray 64)).alloc (.cells (u8s (pad B32 8 0)).toArray 64)) [.box (w.heap.size+1) 64 (u8s (pad B32 8 0)),.box w.heap.size 64 (u8s (pad B32 8 0))]):=by
  have h:=((Mem.nil w).alloc 64 (u8s (pad B32 8 0))).alloc 64 (u8s (pad B32 8 0));have e:(w.alloc (.cells (u8s (pad B32 8 0)).toArray 64)).heap.size=w.heap.size+1:=by simp
  rw [e] at h;exact h
 have HR:=Lib.hid hr;have HN:=Lib.hid hn;clear hr hn hnl;by_cases h16:n<=16
 . rw [if_pos h16,decide_eq_true h16];have hn16:¬ (16:Int)<(n:Int):=by omega
   go_enter Tryz.func260,Tryz.ntmps260
   go_wp2
   go_loopw [5] (fun v5 wq=>∃ i:Nat,i<=n/\v5 = .int .i64 (i:Int)/\Mem w wq [.box (w.heap.size+1) 64 (u8s (Kj (dig B16 x) i)),.box w.heap.size 64 (u8s (pad B32 8 0))]) (fun v _=>n - (intOf v).toNat)
   case atStart=>exact⟨0,Nat.zero_le _,rfl,by rw [Qy9]; exact HM0.out⟩
   case round =>
    clear HM0;obtain⟨i,hi,rfl,hm⟩:=hrel;have HM:=Lib.hid hm;clear hm;by_cases hin:i=n
    . subst hin;have hE:Hid (Kj (dig B16 x) i=pad B32 8 x):=Qzo (by rw [<- HN.out]; exact Nat.le_refl _);have hnlt:¬ (i:Int)<(i:Int):=by omega
      clear hi
      go_wp2_with (first
       | ((with_reducible refine Z4 64 ?_); refine Q9 rfl _ _ rfl _ rfl _ (HM.out.ldb J9 (by rw [Qx,G3]) (i:=0) rfl _ (Below.refl _ _)) ?_)
       | ((with_reducible refine Z5 64 ?_); go_loud (refine Qm (cs':=u8s (Kj (dig B16 x) i)) rfl _ _ rfl HM.out 1 rfl rfl rfl J6 rfl (by rw [Qx,G3]) (by rw [Qx,Qo]) (G9 _) ?_); intro w5 h5; have HM5:=Lib.hid h5; clear h5))
      refine bodyPost_ret (Z6 rfl _ rfl (HM5.out.ldb J9 (by rw [Qx,G3]) (i:=1) rfl _ (Below.refl _ _))) rfl ⟨?_,HM5.out.from_⟩;rw [hE.out];rfl
    . have hlt:(i:Int)<(n:Int):=by omega
      have hil:i<(dig B16 x).length:=by rw [<- HN.out]; omega
      have h8:i<16:=by omega
      obtain⟨k,hk⟩:∃ k,k=i / 2:=⟨_,rfl⟩
      have hk8:k<8:=by omega
      obtain⟨d,hd⟩:∃ d,d=(dig B16 x).getD i 0:=⟨_,rfl⟩
      have hdB:d<65536:=by rw [hd]; exact (Ql.dig Z2 x).getD (by decide) i
      have hde:d=(dig B16 x)[i]:=by rw [hd,List.getD_eq_getElem?_getD,List.getElem?_eq_getElem hil]; rfl
      have hq:IntKind.i64.wrap ((i:Int).tdiv 2)=(k:Int):=by
       have e:(i:Int).tdiv 2=(k:Int):=by rw [hk]; exact (Int.ofNat_tdiv i 2).symm
       rw [e,Qk (by omega) (by omega)]
      have hq2:(i:Int).tdiv 2=(k:Int):=by rw [hk]; exact (Int.ofNat_tdiv i 2).symm
      have hq3:IntKind.i64.wrap (k:Int)=(k:Int):=Qk (by omega) (by omega);have hk8i:(k:Int)<8:=by omega
      have hk8n:(k:Int)<((8:Nat):Int):=by omega
      have hcv:IntKind.u32.wrap (d:Int)=(d:Int):=by rw [K7,Nat.mod_eq_of_lt (by omega)]
      obtain⟨b,off,rfl,_,hl⟩:=Vb Tryz.underlying3 rfl (HR.out.from HM.out.from_) hil;rw [<- hde] at hl;have HL:=Lib.hid hl;have HD:=Lib.hid hd;have w1:IntKind.i64.wrap ((i:Int)+1)=((i+1:Nat):Int):=by rw [Qk (by omega) (by omega)]; omega
      have hkl:k<(u8s (Kj (dig B16 x) i)).length:=by rw [Qx,G3]; exact hk8
      clear hl hd hde;by_cases hp:i=2*k
      . have hrem:(i:Int).tmod 2=0:=by
         have e:(i:Int).tmod 2=((i % 2:Nat):Int):=(Int.ofNat_tmod i 2).symm;rw [e]; omega
        have HST:Hid (Kj (dig B16 x) (i+1)=(Kj (dig B16 x) i).set k d):=by
         unfold Hid;rw [HD.out,hp];exact Qxm hk8
        clear hp hk
        go_wp2_with (first
         | ((with_reducible refine Z4 3 ?_); go_loud (refine Q9 rfl _ _ rfl _ rfl _ (HL.out _ (Below.refl _ _)) ?_))
         | ((with_reducible refine Z5 63 ?_); go_loud (refine Qjz (j:=k) (v := .int .u32 (d:Int)) rfl _ _ rfl HM.out 0 rfl rfl rfl Zv rfl rfl hkl ?_); intro w5 h5; have HM5:=Lib.hid h5; clear h5))
        go_roundw
        case rel =>
         refine⟨i+1,by omega,by go_num,?_⟩;have h1:=HM5.out;rw [Qvt,<- HST.out] at h1;exact h1
        case measure=>simp [intOf]; omega
      . have hp1:i=2*k+1:=by omega
        have hrem:(i:Int).tmod 2=1:=by
         have e:(i:Int).tmod 2=((i % 2:Nat):Int):=(Int.ofNat_tmod i 2).symm;rw [e]; omega
        obtain⟨f,hf⟩:∃ f,f=(dig B16 x).getD (2*k) 0:=⟨_,rfl⟩
        have hfB:f<65536:=by rw [hf]; exact (Ql.dig Z2 x).getD (by decide) _
        obtain⟨m,hm⟩:∃ m,m=d*65536:=⟨_,rfl⟩
        obtain⟨z,hz⟩:∃ z,z=f+m:=⟨_,rfl⟩
        have hmul:IntKind.u32.wrap ((d:Int)*65536)=(m:Int):=by
         have e:(d:Int)*65536=(m:Int):=by omega
         rw [e,K7,Nat.mod_eq_of_lt (by omega)]
        have hadd:IntKind.u32.wrap ((f:Int)+(m:Int))=(z:Int):=by
         have e:(f:Int)+(m:Int)=(z:Int):=by omega
         rw [e,K7,Nat.mod_eq_of_lt (by omega)]
        have HST:Hid (Kj (dig B16 x) (i+1)=(Kj (dig B16 x) i).set k z):=by
         unfold Hid;rw [hz,hm,HD.out,hp1,hf];exact (Qna hk8).2
        have HLF:=Lib.hid (HM.out.ldc (i:=0) (j:=k) (v := .int .u32 (f:Int)) Z9r rfl (by
         have h1:=Q3a (dig B16 x) i hk8;have h2:Q2b (dig B16 x) i k=f:=by rw [hf,hp1]; exact (Qna hk8).1
         unfold u8s;rw [List.getElem?_map,h1,h2]
         rfl))
        clear hp hp1 hk hf hm hz
        go_wp2
        refine Qpc 14 [.val (Value.int .i64 ((i:Int))),.val (Value.int .i64 ((k:Int))),.val (Value.int .i64 ((i:Int))),.val (Value.int .i64 ((k:Int))),.val (Value.pointer (some ⟨w.heap.size+1,k,none⟩)),.val (Value.int .u32 (f:Int)),.val (Value.slice (some ⟨b,off,none⟩) n c),.val (Value.int .i64 ((i:Int))),.val (Value.pointer (some ⟨b,off+i,none⟩)),.val (Value.int .i64 ((d:Int))),.val (Value.int .u32 (d:Int)),.val (Value.int .u32 (m:Int)),.val (Value.int .u32 (z:Int)),.val (Value.pointer (some ⟨w.heap.size+1,k,none⟩))] (by kernel_rfl) (by kernel_rfl) (Nat.le_of_ble_eq_true (by kernel_rfl)) (by kernel_rfl) (by kernel_rfl) ?_ ?_ ?_
        . exact trivial
        . exact⟨(fun _ _=>Q73 rfl),(fun _ _=>Qsu rfl rfl (by decide) hq rfl),(fun _ _=>Q73 rfl),(fun _ _=>Qsu rfl rfl (by decide) hq rfl),(fun _ _=>Qec (k:=k) rfl rfl Tryz.underlying64 Zv hk8n (Z52 _ _)),(fun w hb=>Qma rfl ((HLF.out) w hb)),(fun _ _=>Q73 rfl),(fun _ _=>Q73 rfl),(fun _ _=>Qgy (k:=i) rfl rfl Z9v (hlt) (Z9y _ _ _)),(fun w hb=>Qma rfl ((HL.out) w hb)),(fun _ _=>Q4b rfl Tryz.underlying3 Tryz.underlying63 hcv rfl),(fun _ _=>Qcd rfl rfl hmul rfl),(fun _ _=>Qe3 rfl rfl hadd rfl),(fun _ _=>Qec (k:=k) rfl rfl Tryz.underlying64 Zv hk8n (Z52 _ _)),trivial⟩
        intro w7 hb7;simp only [Q8h,List.take_succ_cons,List.take_zero,List.drop_succ_cons,List.drop_zero];simp only [Act.put,List.setIfInBounds_toArray,List.set_cons_succ,List.set_cons_zero];have HM7:=Lib.hid (HM.out.call hb7);clear HM hb7 HLF HL
        go_wp2_with ((with_reducible refine Z5 63 ?_); go_loud (refine Qjz (j:=k) (v := .int .u32 (z:Int)) rfl _ _ rfl HM7.out 0 rfl rfl rfl Zv rfl rfl hkl ?_); intro w5 h5; have HM5:=Lib.hid h5; clear h5)
        go_roundw
        case rel =>
         refine⟨i+1,by omega,by go_num,?_⟩;have h1:=HM5.out;rw [Qvt,<- HST.out] at h1;exact h1
        case measure=>simp [intOf]; omega
 . rw [if_neg h16,decide_eq_false h16];have hn16:(16:Int)<(n:Int):=by omega
   go_enter Tryz.func260,Tryz.ntmps260
   go_wp2_with (first
    | ((with_reducible refine Z4 64 ?_); refine Q9 rfl _ _ rfl _ rfl _ (HM0.out.ldb J9 (by rw [Qx,Qo]) (i:=0) rfl _ (Below.refl _ _)) ?_)
    | ((with_reducible refine Z5 64 ?_); go_loud (refine Qm (cs':=u8s (pad B32 8 0)) rfl _ _ rfl HM0.out 1 rfl rfl rfl J6 rfl (by rw [Qx,Qo]) (by rw [Qx,Qo]) (G9 _) ?_); intro w5 h5; have HM5:=Lib.hid h5; clear h5))
   refine bodyPost_ret (Z6 rfl _ rfl (HM5.out.ldb J9 (by rw [Qx,Qo]) (i:=1) rfl _ (Below.refl _ _))) rfl ⟨rfl,HM5.out.from_⟩
end Go.Proofs.YtffeegebohigdaaGreat
