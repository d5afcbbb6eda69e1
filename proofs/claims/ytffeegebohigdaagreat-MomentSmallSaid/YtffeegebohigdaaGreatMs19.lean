/-
  frac: size64, Of, Ratio.
-/
import Derived.Test.YtffeegebohigdaaGreatMs18
import Derived.DeepKeys
import Derived.Laws.StructEq
set_option linter.unusedVariables false
set_option linter.unusedSimpArgs false
set_option maxRecDepth 100000
set_option maxHeartbeats 4000000
namespace Go.Proofs.YtffeegebohigdaaGreat
open Go.RowKit
theorem Qy3 {n:Int} (h1 : -9223372036854775808<=n) (h2:n<0):IntKind.u64.wrap (-(IntKind.u64.wrap n))=(n.natAbs:Int):=by
 unfold IntKind.wrap;simp [IntKind.bits,IntKind.signed];omega
set_option maxHeartbeats 2000000 in
theorem Q8u (n:Int) (h1 : -9223372036854775808<=n) (h2:n<=9223372036854775807) (w:World) :
 Calls Tryz.prog 62 #[.int .i64 n] w fun e w'=>∃ A' c',e = .returned (.slice A' (Q4 n.natAbs) c')/\Zk w' A' n.natAbs/\Below w.heap.size w w':=by
 obtain⟨k,hk⟩:∃ k,k=n.natAbs:=⟨_,rfl⟩
 have hks:k<18446744073709551616:=by omega
 rw [<- hk];have HO:=Lib.hid (Qa5 k hks w);by_cases h0:n<0
 . have w1':IntKind.u64.wrap (-(IntKind.u64.wrap n))=(k:Int):=by rw [Qy3 h1 h0,hk]
   obtain⟨z,hz⟩:∃ z,z=IntKind.u64.wrap n:=⟨_,rfl⟩
   rw [<- hz] at w1';have hz2:IntKind.u64.wrap n=z:=hz.symm;clear hz hk hks
   go_enter Tryz.func62,Tryz.ntmps62
   go_wp2_with (go_at_call 63; refine (HO.out).mono ?_; rintro e w1 ⟨A1,c1,rfl,hr1,hc1,hb1⟩)
   go_ret
   exact⟨A1,c1,rfl,hr1,hb1⟩
 . have w1':IntKind.u64.wrap n=(k:Int):=by rw [Qu (by omega) (by omega)]; omega
   clear hk hks
   go_enter Tryz.func62,Tryz.ntmps62
   go_wp2_with (go_at_call 63; refine (HO.out).mono ?_; rintro e w1 ⟨A1,c1,rfl,hr1,hc1,hb1⟩)
   go_ret
   exact⟨A1,c1,rfl,hr1,hb1⟩
theorem Q85 {k:Nat} (h:k<18446744073709551616):Q4 k<=900:=by
 have h2:B32^2=18446744073709551616:=by decide
 have h3:Q4 k<=2:=Z3 Qn (by rw [h2]; exact h);omega
theorem Qyv:18446744073709551616<Gf:=by decide
theorem Za1 (n:Int) (h1 : -9223372036854775808<=n) (h2:n<=9223372036854775807) (w:World) :
 Calls Tryz.prog 16 #[.int .i64 n] w fun e w'=>e = .returned (ofL n).val/\Below w.heap.size w w':=by
 obtain⟨k,hk⟩:∃ k,k=n.natAbs:=⟨_,rfl⟩
 have hks:k<18446744073709551616:=by omega
 obtain⟨bn,hbn⟩:∃ bn,bn=decide (n<0):=⟨_,rfl⟩
 have hfit:Q7h bn k 1=(ofL n,0):=by
  rw [Z28 _ _ (Nat.lt_trans hks Qyv),hbn,hk];unfold ofL;congr 2;by_cases h0:n<0
  . simp [h0]; omega
  . simp [h0]
 have ha:Below w.heap.size w (w.alloc (.cells Zy.cells.toArray 66)):=(Below.refl _ _).alloc (Nat.le_refl _) _;have HS:=Lib.hid (fun (w1:World)=>Q8u n h1 h2 w1);have HO:=Lib.hid (fun (w1:World)=>Qa5 1 (by omega) w1);have HL1:=Lib.hid (show Q4 1<=900 from Q85 (by omega));rw [<- hk] at HS;have HF0:=Lib.hid (FB.new w Zy);have HB0:=Lib.hid ha;have HFIT:=Lib.hid hfit;have HKS:=Lib.hid (Q85 hks);have HBN:=Lib.hid hbn;clear ha hfit hks hk;obtain⟨l1,hl1⟩:∃ l1,l1=Q4 1:=⟨_,rfl⟩
 obtain⟨lk,hlk⟩:∃ lk,lk=Q4 k:=⟨_,rfl⟩
 rw [<- hl1] at HO;rw [<- hlk] at HS;have HL:=Lib.hid (And.intro hl1 hlk);clear hl1 hlk hbn
 go_enter Tryz.func16,Tryz.ntmps16
 go_wp2_with (first
  | (go_at_call 62; refine (HS.out _).mono ?_; rintro e w1 ⟨A1,c1,rfl,hr1,hb1⟩; have HB1:=Lib.hid (HB0.out.trans (hb1.mono HB0.out.size)); have F1:=Lib.hid (HF0.out.below hb1 HF0.out.lt); have R1:=Lib.hid hr1; clear hr1 hb1)
  | (go_at_call 63; refine (HO.out _).mono ?_; rintro e w2 ⟨A2,c2,rfl,hr2,hc2,hb2⟩; have HB2:=Lib.hid (HB1.out.trans (hb2.mono HB1.out.size)); have F2:=Lib.hid (F1.out.below hb2 F1.out.lt); have R12:=Lib.hid (R1.out.from hb2); have R2:=Lib.hid hr2; clear hr2 hb2 hc2; try rw [<- HBN.out])
  | ((with_reducible refine Z5 66 ?_); refine Zm (f:=ofL n) rfl _ _ rfl rfl rfl (FB.new w3 Zy) ?_; intro w4 hfb4 hgr4
     have C4:Hid (Qe w3 w4):=((Below.refl w3.heap.size w3).alloc (Nat.le_refl _) _).grown hgr4 (by simp) (by intro q hq; injection hq with hq; omega);have F4:=Lib.hid hfb4; have F34:=Lib.hid (F3.out.below C4.out F3.out.lt); have HB4:=Lib.hid (HB3.out.trans (C4.out.mono HB3.out.size)); clear hfb4 hgr4 F3 HB3)
  | ((with_reducible refine Z4 66 ?_); refine Q9 rfl _ _ rfl _ rfl _ F4.out.ld ?_)
  | ((with_reducible refine Z5 66 ?_); refine Zm (f:=ofL n) rfl _ _ rfl rfl rfl F34.out ?_; intro w5 hfb5 hgr5)
  | (go_at_call 61; refine (Qsl bn A1 A2 c1 c2 k 1 lk l1 HL.out.2 HL.out.1 _ R12.out R2.out HKS.out HL1.out (by omega)).mono ?_; rintro e w3 ⟨rfl,hb3⟩; rw [HFIT.out]; have HB3:=Lib.hid (HB2.out.trans (hb3.mono HB2.out.size)); have F3:=Lib.hid (F2.out.below hb3 F2.out.lt); clear hb3))
 refine bodyPost_ret (Qrx rfl _ rfl hfb5) rfl ⟨rfl,?_⟩;exact HB4.out.grown hgr5 HB4.out.size (by intro q hq; injection hq with hq; omega)
theorem Qxr {a b:Int} (hb:b≠0):Zz a b=Q7h (decide (a<0) != decide (b<0)) a.natAbs b.natAbs:=by
 unfold Zz;rw [if_neg hb]
theorem Q6f (a b:Int) (h1 : -9223372036854775808<=a) (h2:a<=9223372036854775807) (h3 : -9223372036854775808<=b) (h4:b<=9223372036854775807) (w:World) :
 Calls Tryz.prog 64 #[.int .i64 a,.int .i64 b] w (Qf7 w (Zz a b)):=by
 have HF0:=Lib.hid (FB.new w Zy);have ha:Below w.heap.size w (w.alloc (.cells Zy.cells.toArray 66)):=(Below.refl _ _).alloc (Nat.le_refl _) _;have HB0:=Lib.hid ha;clear ha;by_cases hb:b=0
 . subst hb;have HR:Hid (Zz a 0=(Zy,2)):=rfl
   go_enter Tryz.func64,Tryz.ntmps64
   go_wp2_with (first
    | ((with_reducible refine Z5 66 ?_); refine Zm (f:=Zy) rfl _ _ rfl rfl rfl HF0.out ?_; intro w5 hfb5 hgr5))
   refine bodyPost_ret (Zq rfl _ rfl hfb5) rfl ⟨by rw [HR.out]; rfl,?_⟩;exact HB0.out.grown hgr5 HB0.out.size (by intro q hq; injection hq with hq; omega)
 . obtain⟨x,hx⟩:∃ x,x=a.natAbs:=⟨_,rfl⟩
   obtain⟨y,hy⟩:∃ y,y=b.natAbs:=⟨_,rfl⟩
   obtain⟨bn,hbn⟩:∃ bn,bn=(decide (a<0) != decide (b<0)):=⟨_,rfl⟩
   have hr:=Qxr (a:=a) hb;rw [<- hx,<- hy,<- hbn] at hr;have HS:=Lib.hid (fun (w1:World)=>Q8u a h1 h2 w1);have HO:=Lib.hid (fun (w1:World)=>Q8u b h3 h4 w1);rw [<- hx] at HS;rw [<- hy] at HO;have HY0:=Lib.hid (show 0<y by omega);have HL1:=Lib.hid (Q85 (k:=x) (by omega));have HL2:=Lib.hid (Q85 (k:=y) (by omega));obtain⟨lx,hlx⟩:∃ lx,lx=Q4 x:=⟨_,rfl⟩
   obtain⟨ly,hly⟩:∃ ly,ly=Q4 y:=⟨_,rfl⟩
   rw [<- hlx] at HS;rw [<- hly] at HO;have HL:=Lib.hid (And.intro hlx hly);rw [hr];have HBN:Hid ((!(decide (a<0)==decide (b<0)))=bn):=hbn.symm;clear hlx hly hx hy hr hbn;obtain⟨r,hr⟩:∃ r,r=Q7h bn x y:=⟨_,rfl⟩
   rw [<- hr];have HR:=Lib.hid hr;clear hr
   go_enter Tryz.func64,Tryz.ntmps64
   go_wp2_with (first
    | (go_at_call 62; refine (HS.out _).mono ?_; rintro e w1 ⟨A1,c1,rfl,hr1,hb1⟩; have HB1:=Lib.hid (HB0.out.trans (hb1.mono HB0.out.size)); have F1:=Lib.hid (HF0.out.below hb1 HF0.out.lt); have R1:=Lib.hid hr1; clear hr1 hb1 HS)
    | (go_at_call 62; refine (HO.out _).mono ?_; rintro e w2 ⟨A2,c2,rfl,hr2,hb2⟩; have HB2:=Lib.hid (HB1.out.trans (hb2.mono HB1.out.size)); have F2:=Lib.hid (F1.out.below hb2 F1.out.lt); have R12:=Lib.hid (R1.out.from hb2); have R2:=Lib.hid hr2; clear hr2 hb2)
    | (go_at_call 61; rw [HBN.out]
       refine (Qsl bn A1 A2 c1 c2 x y lx ly HL.out.1 HL.out.2 _ R12.out R2.out HL1.out HL2.out HY0.out).mono ?_; rintro e w3 ⟨rfl,hb3⟩; rw [<- HR.out]; have HB3:=Lib.hid (HB2.out.trans (hb3.mono HB2.out.size)); have F3:=Lib.hid (F2.out.below hb3 F2.out.lt); clear hb3)
    | ((with_reducible refine Z5 66 ?_); refine Zm (f:=r.1) rfl _ _ rfl rfl rfl F3.out ?_; intro w5 hfb5 hgr5))
   refine bodyPost_ret (Zq rfl _ rfl hfb5) rfl ⟨rfl,?_⟩;exact HB3.out.grown hgr5 HB3.out.size (by intro q hq; injection hq with hq; omega)
theorem Qks {l:List Nat} (hl:l.length=8):∃ a0 a1 a2 a3 a4 a5 a6 a7:Nat,l = [a0,a1,a2,a3,a4,a5,a6,a7]:=by
 match l,hl with
 | [a0,a1,a2,a3,a4,a5,a6,a7],_=>exact⟨_,_,_,_,_,_,_,_,rfl⟩
theorem Qah {w:World} {B:Nat} {A:Option Addr} {k:IntKind} {l:List Nat} (h:Rd w B 1 A (Zc k l)) {i:Nat} (hi:i<l.length) :
 ∃ b off,A=some ⟨b,off,none⟩/\b<B/\∀ w',Below B w w'->w'.cell? ⟨b,off+i,none⟩=some (.int k (l.getD i 0:Nat)):=by
 obtain⟨b,off,e,hlt,hl,hc⟩:=h i _ (Vu hi);refine⟨b,off,e,hlt,fun w' hb => ?_⟩;have h1:=hc 0 _ rfl;simp only [Nat.mul_one,Nat.add_zero] at h1;rw [hb.cell (p:=⟨b,off+i,none⟩) hlt,h1];simp [hi]
structure Str where
 shear:Qd
 bend:Qd
deriving DecidableEq
def Str.cells (s:Str):List Value:=s.shear.cells++s.bend.cells
theorem Q5w (f:Qd):∃ (b:Bool) (c:Fin 16->Int),f.cells = [.bool b,.int .u32 (c 0),.int .u32 (c 1),.int .u32 (c 2),.int .u32 (c 3),.int .u32 (c 4),.int .u32 (c 5),.int .u32 (c 6),.int .u32 (c 7),.int .u32 (c 8),.int .u32 (c 9),.int .u32 (c 10),.int .u32 (c 11),.int .u32 (c 12),.int .u32 (c 13),.int .u32 (c 14),.int .u32 (c 15)]:=by
 obtain⟨a0,a1,a2,a3,a4,a5,a6,a7,ha⟩:=Qks (Qo B32 8 f.num);obtain⟨d0,d1,d2,d3,d4,d5,d6,d7,hd⟩:=Qks (Qo B32 8 f.den);refine⟨f.neg,fun i=>([a0,a1,a2,a3,a4,a5,a6,a7,d0,d1,d2,d3,d4,d5,d6,d7].map (fun (n:Nat)=>(n:Int))).getD i.val 0,?_⟩;unfold Qd.cells;rw [ha,hd];rfl
structure Ctr where
 x:Qd
 y:Qd
 z:Qd
def Ctr.cells (c:Ctr):List Value:=c.x.cells++(c.y.cells++c.z.cells)
def Ctr.val (c:Ctr):Value := .agg c.cells.toArray
theorem Ctr.len (c:Ctr):c.cells.length=51:=by simp [Ctr.cells,Qd.cells_len]
theorem Ctr.one (c:Ctr):∀ u∈c.cells,u.oneCell'=true:=by
 intro u hu;rcases List.mem_append.1 hu with h|h
 . exact c.x.ones u h
 . rcases List.mem_append.1 h with h|h
   . exact c.y.ones u h
   . exact c.z.ones u h
def Qaf:Ctr:=⟨Zy,Zy,Zy⟩
theorem Ctr.row:Q3k Tryz.prog 117 51:=⟨_,Tryz.underlying117,by kernel_rfl,by kernel_rfl⟩
theorem Ctr.size:(Tryz.prog.info? 117).map (·.size)=some 51:=by kernel_rfl
def Jr (l:Ld):Ctr×Int:=if Yi l then if l.kilos=0 then (Qaf,6) else (⟨(Zz l.x l.kilos).1,(Zz l.y l.kilos).1,(Zz l.z (2*l.kilos)).1⟩,0) else (Qaf,2)
def Z6h (w:World) (r:Ctr×Int) (e:Ending) (w':World):Prop:=e = .returned (.tuple #[r.1.val,.int .i64 r.2])/\Qe w w'
theorem Z0u (f g h:Qd) {a:Act} {s t u:Nat} {d:Option Nat} {ty:TypeId} {pos:String} {aft:Array Edge} {gd:Option (Nat×Bool)} (w:World) (hx:a.eval (.tmp s) = .agg f.cells.toArray) (hy:a.eval (.tmp t) = .agg g.cells.toArray) (hz:a.eval (.tmp u) = .agg h.cells.toArray) :
 (execOp a.eval ⟨d,.build 117 #[(0,.tmp s),(1,.tmp t),(2,.tmp u)],ty,pos,aft,gd⟩).run Tryz.prog w = .ok (.value (Ctr.val ⟨f,g,h⟩)) w:=by
 obtain⟨b,c,hf⟩:=Q5w f;obtain⟨b',c',hg⟩:=Q5w g;obtain⟨b2,c2,hh⟩:=Q5w h;unfold Ctr.val Ctr.cells;dsimp only;rw [hf] at hx;rw [hg] at hy;rw [hh] at hz;rw [hf,hg,hh];clear hf hg hh;have hx':a.tmps[s]?.getD undef=_:=(by simp [Act.eval]:a.tmps[s]?.getD undef=a.eval (.tmp s)).trans hx;have hy':a.tmps[t]?.getD undef=_:=(by simp [Act.eval]:a.tmps[t]?.getD undef=a.eval (.tmp t)).trans hy;have hz':a.tmps[u]?.getD undef=_:=(by simp [Act.eval]:a.tmps[u]?.getD undef=a.eval (.tmp u)).trans hz
 go_simp
theorem Z83 (l:Ld) (w:World):Calls Tryz.prog 46 #[.agg #[.int .i64 l.kilos,.int .i64 l.x,.int .i64 l.y,.int .i64 l.z]] w (Z6h w (Jr l)):=by
 have HM0:=Lib.hid ((Mem.nil w).alloc2 47 l.cells 117 Qaf.cells);have HR:=Lib.hid (fun w1=>Qmx l w1);obtain⟨r,hr⟩:∃ r,r=Jr l:=⟨_,rfl⟩
 rw [<- hr]
 cases hok:Yi l with
 | false =>
  rw [hok] at HR;have HE:Hid (r=(Qaf,2)):=by unfold Hid Jr at *; rw [hr,if_neg (by rw [hok]; simp)]
  clear hr hok;obtain⟨k,x,y,z⟩:=l
  go_enter Tryz.func46,Tryz.ntmps46
  go_wp2_with (first
   | (go_at_call 73; go_loud (refine (HR.out _).mono ?_); rintro e w1 ⟨rfl,hb⟩; have HM1:=Lib.hid (HM0.out.call hb); clear hb)
   | ((with_reducible refine Z5 117 ?_); go_loud (refine Qm (cs':=Qaf.cells) rfl _ _ rfl HM1.out 0 rfl rfl rfl Ctr.size rfl (Ctr.len _) (Ctr.len _) (Ctr.one _) ?_); intro w6 h6))
  refine bodyPost_ret (Z6 rfl _ rfl (h6.ldb Ctr.row (Ctr.len _) (i:=0) rfl _ (Below.refl _ _))) rfl ⟨?_,h6.from_⟩;rw [HE.out];rfl
 | true =>
  rw [hok] at HR;have hnum:=Qed hok;by_cases hk0:l.kilos=0
  . have HE:Hid (r=(Qaf,6)):=by unfold Hid Jr at *; rw [hr,if_pos hok,if_pos hk0]
    clear hr hok hnum;obtain⟨k,x,y,z⟩:=l;dsimp only at hk0;subst hk0
    go_enter Tryz.func46,Tryz.ntmps46
    go_wp2_with (first
     | ((with_reducible refine Z4 3 ?_); refine Q9 rfl _ _ rfl _ rfl _ (HM1.out.ldc ct3 (i:=1) rfl rfl _ (Below.refl _ _)) ?_)
     | (go_at_call 73; go_loud (refine (HR.out _).mono ?_); rintro e w1 ⟨rfl,hb⟩; have HM1:=Lib.hid (HM0.out.call hb); clear hb)
     | ((with_reducible refine Z5 117 ?_); go_loud (refine Qm (cs':=Qaf.cells) rfl _ _ rfl HM1.out 0 rfl rfl rfl Ctr.size rfl (Ctr.len _) (Ctr.len _) (Ctr.one _) ?_); intro w6 h6))
    refine bodyPost_ret (Z6 rfl _ rfl (h6.ldb Ctr.row (Ctr.len _) (i:=0) rfl _ (Below.refl _ _))) rfl ⟨?_,h6.from_⟩;rw [HE.out];rfl
  . have HE:Hid (r=(⟨(Zz l.x l.kilos).1,(Zz l.y l.kilos).1,(Zz l.z (2*l.kilos)).1⟩,0)):=by unfold Hid Jr at *; rw [hr,if_pos hok,if_neg hk0]
    obtain⟨k,x,y,z⟩:=l;dsimp only at hnum hk0 HE;have e1:IntKind.i64.wrap (2*k)=2*k:=Qk (by omega) (by omega);have hke:(k==0)=false:=by simp; omega
    have HX:=Lib.hid (fun w1=>Q6f x k (by omega) (by omega) (by omega) (by omega) w1);have HY:=Lib.hid (fun w1=>Q6f y k (by omega) (by omega) (by omega) (by omega) w1);have HZ:=Lib.hid (fun w1=>Q6f z (2*k) (by omega) (by omega) (by omega) (by omega) w1);generalize Zz x k=rx at HX HE;generalize Zz y k=ry at HY HE;generalize Zz z (2*k)=rz at HZ HE;clear hr hok hnum
    go_enter Tryz.func46,Tryz.ntmps46
    go_wp2_with (first
     | ((with_reducible refine Z4 3 ?_); refine Q9 rfl _ _ rfl _ rfl _ (HM1.out.ldc ct3 (i:=1) rfl rfl _ (Below.refl _ _)) ?_)
     | ((with_reducible refine Z4 3 ?_); refine Q9 rfl _ _ rfl _ rfl _ (HM3.out.ldc ct3 (i:=2) rfl rfl _ (Below.refl _ _)) ?_)
     | ((with_reducible refine Z4 3 ?_); refine Q9 rfl _ _ rfl _ rfl _ (HM5.out.ldc ct3 (i:=3) rfl rfl _ (Below.refl _ _)) ?_)
     | (go_at_call 73; go_loud (refine (HR.out _).mono ?_); rintro e w1 ⟨rfl,hb⟩; have HM1:=Lib.hid (HM0.out.call hb); clear hb)
     | (go_at_call 64; refine (HX.out _).mono ?_; rintro e w2 ⟨rfl,hb⟩; have HM2:=Lib.hid ((HM1.out.call hb).alloc 66 Zy.cells); clear hb HX)
     | ((with_reducible refine Z5 66 ?_); refine Qm (cs':=Qd.cells rx.1) rfl _ _ rfl HM2.out 0 rfl rfl rfl Q8n rfl (Qd.cells_len _) (Qd.cells_len _) (Qd.ones _) ?_; intro w3 h3; have HM3:=Lib.hid h3; clear h3 HM1 HM2)
     | (go_at_call 64; refine (HY.out _).mono ?_; rintro e w4 ⟨rfl,hb⟩; have HM4:=Lib.hid ((HM3.out.call hb).alloc 66 Zy.cells); clear hb HY)
     | ((with_reducible refine Z5 66 ?_); refine Qm (cs':=Qd.cells ry.1) rfl _ _ rfl HM4.out 0 rfl rfl rfl Q8n rfl (Qd.cells_len _) (Qd.cells_len _) (Qd.ones _) ?_; intro w5 h5; have HM5:=Lib.hid h5; clear h5 HM4 HM3)
     | (go_at_call 64; go_loud (refine (HZ.out _).mono ?_); rintro e w6 ⟨rfl,hb⟩; have HM6:=Lib.hid ((HM5.out.call hb).alloc 66 Zy.cells); clear hb HZ)
     | ((with_reducible refine Z5 66 ?_); refine Qm (cs':=Qd.cells rz.1) rfl _ _ rfl HM6.out 0 rfl rfl rfl Q8n rfl (Qd.cells_len _) (Qd.cells_len _) (Qd.ones _) ?_; intro w7 h7; have HM7:=Lib.hid h7; clear h7 HM6 HM5)
     | ((with_reducible refine Z4 66 ?_); refine Q9 rfl _ _ rfl _ rfl _ (HM7.out.ldb Qbf (Qd.cells_len _) (i:=2) rfl _ (Below.refl _ _)) ?_)
     | ((with_reducible refine Z4 66 ?_); refine Q9 rfl _ _ rfl _ rfl _ (HM7.out.ldb Qbf (Qd.cells_len _) (i:=1) rfl _ (Below.refl _ _)) ?_)
     | ((with_reducible refine Z4 66 ?_); go_loud (refine Q9 rfl _ _ rfl _ rfl _ (HM7.out.ldb Qbf (Qd.cells_len _) (i:=0) rfl _ (Below.refl _ _)) ?_))
     | ((with_reducible refine Qpf 117 ?_); go_loud (refine Q6a rfl _ (Z0u rx.1 ry.1 rz.1 _ rfl rfl rfl) ?_))
     | ((with_reducible refine Z5 117 ?_); go_loud (refine Qm (cs':=Ctr.cells ⟨rx.1,ry.1,rz.1⟩) rfl _ _ rfl HM7.out 3 rfl rfl rfl Ctr.size rfl (Ctr.len _) (Ctr.len _) (Ctr.one _) ?_); intro w8 h8))
    refine bodyPost_ret (Z6 rfl _ rfl (h8.ldb Ctr.row (Ctr.len _) (i:=3) rfl _ (Below.refl _ _))) rfl ⟨?_,h8.from_⟩;rw [HE.out];rfl
section
variable {w w':World} {ρ:Nat->Option Rl} {base:Nat} {ro:Nat->Prop} {v:Value}
theorem Qzv (b:Unit->Ld):AVR w ρ base ro (.agg (ldL b)) (b ()).val:=Qhr (l:=ldL b) rfl
theorem AVR.stos {fr:Bool} {l:Unit->List Q0} (h:AVR w ρ base ro (.sl fr .stowed l) v):∃ A c,v = .slice A (l ()).length c/\(l ()).length<=c/\Rd w w.heap.size 4 A ((l ()).map Q0.cells):=AVR.slF (t := .stowed) (l:=l) Q0.cells (fun _=>rfl) (fun _=>rfl) h
theorem AVR.lds {fr:Bool} {l:Unit->List Ld} (h:AVR w ρ base ro (.sl fr .ld l) v):∃ A c,v = .slice A (l ()).length c/\(l ()).length<=c/\Rd w w.heap.size 4 A ((l ()).map Ld.cells):=AVR.slF (t := .ld) (l:=l) Ld.cells (fun _=>rfl) (fun _=>rfl) h
theorem AVR.u8s {fr:Bool} {l:Unit->List Int} (h:AVR w ρ base ro (.sl fr .u8 l) v):∃ A c,v = .slice A (l ()).length c/\(l ()).length<=c/\Rd w w.heap.size 1 A ((l ()).map Qfc):=AVR.slF (t := .u8) (l:=l) Qfc (fun _=>rfl) (fun _=>rfl) h
end
def Qgo:Con:=Yd 202 Qhw (fun b=>(b ()).num.size<=140737488351232) (fun b => .bool fun _=>G8 (b ()))
theorem Qmj:Q7 Tryz.prog Qgo:=by
 refine Q6p Tryz.func202 (by kernel_rfl) fun avs res h w ra vals hE hp => ?_;obtain⟨(b:Box),rfl,rfl⟩:=Yk h;clear h;obtain⟨v0,us0,rfl,hv0,h0⟩:=hE.head;obtain rfl:=h0.none;obtain rfl:=hv0.aggF rfl;exact (Z0a b w hp).mono fun e w' ⟨k1,k2⟩=>⟨_,k1,k2,.bool _⟩
def Qr5:Con:=Ze 232 Z9m kU8 (fun l _=>(l ()).length<=1000000000000) (fun l x => .bool fun _=>(l ()).any fun y=>decide (x ()=y))
theorem Qu4:Q7 Tryz.prog Qr5:=by
 refine Q6p Tryz.func232 (by kernel_rfl) fun avs res h w ra vals hE hp => ?_;obtain⟨(l:List Int),(x:Int),rfl,rfl⟩:=Zf h;clear h;obtain⟨v0,us0,rfl,hv0,h0⟩:=hE.head;obtain⟨v1,us1,rfl,hv1,h1⟩:=h0.head;obtain rfl:=h1.none;obtain⟨A0,q0,rfl,hc0,hr0⟩:=hv0.u8s;obtain rfl:=hv1.int_;exact (Qyi A0 q0 l _ rfl x w hr0 hp).mono fun e w' ⟨k1,k2⟩=>⟨_,k1,by rw [k2]; exact Below.refl _ _,.bool _⟩
def Qo0:Con:=Yd 73 kLd (fun _=>True) (fun x => .bool fun _=>Yi (x ()))
theorem Qsj:Q7 Tryz.prog Qo0:=by
 refine Q6p Tryz.func73 (by kernel_rfl) fun avs res h w ra vals hE hp => ?_;obtain⟨(x:Ld),rfl,rfl⟩:=Yk h;clear h;obtain⟨v0,us0,rfl,hv0,h0⟩:=hE.head;obtain rfl:=h0.none;obtain rfl:=hv0.aggF rfl;exact (Qmx x w).mono fun e w' ⟨k1,k2⟩=>⟨_,k1,k2,.bool _⟩
def Q8f:Con:=Q63 42 kI kI kI kI (fun _ _ _ _=>True) (fun a b c d => .tup [.agg (ldL fun _=>(Kr (a ()) (b ()) (c ()) (d ())).1),.int .i64 fun _=>(Kr (a ()) (b ()) (c ()) (d ())).2])
theorem Q7d:Q7 Tryz.prog Q8f:=by
 refine Q6p Tryz.func42 (by kernel_rfl) fun avs res h w ra vals hE hp => ?_;obtain⟨(a:Int),(b:Int),(c:Int),(d:Int),rfl,rfl⟩:=Q8t h;clear h;obtain⟨v0,us0,rfl,hv0,h0⟩:=hE.head;obtain⟨v1,us1,rfl,hv1,h1⟩:=h0.head;obtain⟨v2,us2,rfl,hv2,h2⟩:=h1.head;obtain⟨v3,us3,rfl,hv3,h3⟩:=h2.head;obtain rfl:=h3.none;obtain rfl:=hv0.int_;obtain rfl:=hv1.int_;obtain rfl:=hv2.int_;obtain rfl:=hv3.int_;exact (Z61 a b c d w).mono fun e w' ⟨k1,k2⟩=>⟨_,k1,k2,Q7c (Qzv _) (.int _ _)⟩
def Qll:Con:=Yd 26 Z3c (fun l=>(l ()).length<=1000000) (fun l => .tup [.agg (ldL fun _=>(Q21 (l ())).1),.int .i64 fun _=>(Q21 (l ())).2])
theorem Qih:Q7 Tryz.prog Qll:=by
 refine Q6p Tryz.func26 (by kernel_rfl) fun avs res h w ra vals hE hp => ?_;obtain⟨(l:List Ld),rfl,rfl⟩:=Yk h;clear h;obtain⟨v0,us0,rfl,hv0,h0⟩:=hE.head;obtain rfl:=h0.none;obtain⟨A0,q0,rfl,hc0,hr0⟩:=hv0.lds;exact (Z9b A0 q0 _ l rfl w hr0 hp).mono fun e w' ⟨k1,k2⟩=>⟨_,k1,k2,Q7c (Qzv _) (.int _ _)⟩
theorem Gp {α:Type} {l:List α} {k:Nat} (d : α) (h:k<l.length):l.take (k+1)=l.take k ++ [l.getD k d]:=by
 rw [List.take_succ_eq_append_getElem h,List.getD_eq_getElem?_getD,List.getElem?_eq_getElem h,Option.getD_some]
theorem Z7 {α:Type} {l:List α} {k:Nat} (d : α) (h:k<l.length):l.getD k d∈l:=by
 rw [List.getD_eq_getElem?_getD,List.getElem?_eq_getElem h,Option.getD_some];exact List.getElem_mem h
theorem Qlo {α:Type} {p : α->Bool} {l:List α} {k:Nat} {d : α} (hk:k<l.length) (h:p (l.getD k d)=false):l.all p=false:=by
 rw [List.all_eq_false];exact⟨_,Z7 d hk,by rw [h]; simp⟩
theorem Qgu {α:Type} {p : α->Bool} {l:List α} {k:Nat} {d : α} (h0:(l.take k).all p=true) (hk:k<l.length) (h:p (l.getD k d)=true):(l.take (k+1)).all p=true:=by
 rw [Gp d hk,List.all_append,h0];simp [h,-List.getD_eq_getElem?_getD]
theorem Qmp {α:Type} {p : α->Bool} {l:List α} {k:Nat} (h0:(l.take k).all p=true) (hk:l.length<=k):l.all p=true:=by rwa [List.take_of_length_le hk] at h0
def Qn4:Con:=Yd 229 kU8 (fun _=>True) (fun s => .sl true .u8 fun _=>Q0i (s ()))
theorem Qsf:Q7 Tryz.prog Qn4:=by
 refine Qp [] trivial Tryz.func229 (by kernel_rfl) fun avs res h hp => ?_;obtain⟨(s:Int),rfl,rfl⟩:=Yk h;clear h;refine⟨[],?_⟩
 conv=>arg 1; cbv
 simp (maxSteps:=4000000) only [fms];unfold Q0i;grind
def Qq8:Con:=Yd 193 Gk (fun l=>(l ()).length<=1000000) (fun l => .sl true .slot fun _=>(l ()).map Qs)
def Z6k (l:List Q0):Lp where
 X:=Nat
 ov k := [(8,.int .i64 fun _=>(k:Int)),(3,.own 0)]
 oe k := [(0,.row true .slot 38 fun _=>(l.take k).map Qs)]
 I k:=k<=l.length
 μ k _:=l.length - k
 x0:=0
 nx:=some fun k=>k+1
theorem Quz:Q7 Tryz.prog Qq8:=by
 refine Qp [] trivial Tryz.func193 (by kernel_rfl) fun avs res h hp => ?_;obtain⟨(l:List Q0),rfl,rfl⟩:=Yk h;clear h;have hl:l.length<=1000000:=hp;refine⟨[(3,Z6k l)],?_⟩
 conv=>arg 1; cbv
 refine⟨?_,fun (k:Nat) hk => ?_⟩
 . simp (maxSteps:=4000000) only [fms];exact⟨Nat.zero_le _,rfl,rfl⟩
 . conv=>arg 1; cbv
   have hk':k<=l.length:=hk;simp (maxSteps:=4000000) only [fms];refine⟨fun h => ?_,fun h=>by rw [List.take_of_length_le (by omega)]⟩;have h2:k<l.length:=by omega
   refine⟨by omega,by simp; omega,⟨by omega,by omega⟩,⟨by omega,by omega⟩,by omega,?_⟩;rw [Gp Tc.stowed.dflt h2,List.map_append];rfl
def Q68 (cs:List Col) (bs:List Box) (l:List Q0) (c:Int):Bool:=decide ((cs.getD c.toNat Tc.col.dflt).height<=0)||(decide (Qt bs l c 1<=(cs.getD c.toNat Tc.col.dflt).height)&&decide (Qt bs l c 2<=(cs.getD c.toNat Tc.col.dflt).height))
def Qw1:Con:=Q63 198 Va Yw Gk kI (fun s bs l c=>(bs ()).length<=1000000000000/\(l ()).length<=1000000/\0<=c ()/\c ()<((s ()).cols.length:Int)) (fun s bs l c => .bool fun _=>Q68 (s ()).cols (bs ()) (l ()) (c ()))
theorem Qyw:Q7 Tryz.prog Qw1:=by
 refine Qp [Qc7] ⟨Qhj,trivial⟩ Tryz.func198 (by kernel_rfl) fun avs res h hp => ?_;obtain⟨(s:Shp),(bs:List Box),(l:List Q0),(c:Int),rfl,rfl⟩:=Q8t h;clear h;have hZh1:bs.length<=1000000000000/\l.length<=1000000/\0<=c/\c<(s.cols.length:Int):=hp;have h1:=hZh1.1;have h2:=hZh1.2.1;have h3:=hZh1.2.2.1;have h4:=hZh1.2.2.2;refine⟨[],?_⟩
 conv=>arg 1; cbv
 simp (maxSteps:=4000000) only [fms];unfold Q68;generalize s.cols.getD c.toNat Tc.col.dflt=x at *
 grind
def K6 (cs:List Col) (x:Za) (size:Int):Bool:=decide (0<=x.col)&&(decide (x.col<(cs.length:Int))&&(decide (0<=x.tier)&&(decide (x.tier<(cs.getD x.col.toNat Tc.col.dflt).tiers)&&(Q0i size).any fun y=>decide (x.half=y))))
theorem Qu6 (s:Int):(Q0i s).length<=2:=by unfold Q0i; split<;>(try split)<;>simp
def Qct:Con:=Q2r 195 Va Q7j kU8 (fun _ _ _=>True) (fun s x z => .bool fun _=>K6 (s ()).cols (x ()) (z ()))
theorem Qin:Q7 Tryz.prog Qct:=by
 refine Qp [Qn4,Qr5] ⟨Qsf,Qu4,trivial⟩ Tryz.func195 (by kernel_rfl) fun avs res h hp => ?_;obtain⟨(s:Shp),(x:Za),(z:Int),rfl,rfl⟩:=Q47 h;clear h;refine⟨[],?_⟩;have hh:=Qu6 z
 conv=>arg 1; cbv
 simp (maxSteps:=4000000) only [fms];unfold K6;generalize s.cols.getD x.col.toNat Tc.col.dflt=c at *
 generalize Q0i z=hs at *
 grind
def Q0a (x:Spn):Bool:=decide (x.low<=x.n)&&decide (x.n<=x.high)
def Qhy:Con:=Yd 264 Z8m (fun l=>(l ()).length<=1000000000000) (fun l => .bool fun _=>(l ()).all Q0a)
def Z56 (l:List Spn):Lp where
 X:=Nat
 ov k := [(7,.int .i64 fun _=>(k:Int))]
 oe _ := []
 I k:=k<=l.length/\(l.take k).all Q0a=true
 μ k _:=l.length - k
 x0:=0
 nx:=some fun k=>k+1
theorem Qfs:Q7 Tryz.prog Qhy:=by
 refine Qp [] trivial Tryz.func264 (by kernel_rfl) fun avs res h hp => ?_;obtain⟨(l:List Spn),rfl,rfl⟩:=Yk h;clear h;have hl:l.length<=1000000000000:=hp;refine⟨[(2,Z56 l)],?_⟩
 conv=>arg 1; cbv
 refine⟨?_,fun (k:Nat) hk => ?_⟩
 . simp (maxSteps:=4000000) only [fms];simp
 . conv=>arg 1; cbv
   have hZhk1:k<=l.length/\(l.take k).all Q0a=true:=hk;have hk1:=hZhk1.1;have hk2:=hZhk1.2;simp (maxSteps:=4000000) only [fms];refine⟨fun h => ?_,fun h=>(Qmp hk2 (by omega)).symm⟩;have h2:k<l.length:=by omega
   have ha:=Qlo (p:=Q0a) (d:=Tc.spn.dflt) h2;have hb:=Qgu (d:=Tc.spn.dflt) hk2 h2;generalize l.getD k Tc.spn.dflt=x at *
   unfold Q0a at *
   simp only [Q1];grind
def Q23 {α:Type} (s:Nat) (l:List α) (P:Nat->Prop):Lp where
 X:=Nat
 ov k := [(s,.int .i64 fun _=>(k:Int))]
 oe _ := []
 I k:=k<=l.length/\∀ j,j<k->P j
 μ k _:=l.length - k
 x0:=0
 nx:=some fun k=>k+1
theorem Yr {n k:Nat} {P:Nat->Prop} (hn:n<=1000000000000) (hk:k<n) (h2:∀ j,j<k->P j) (h:P k):Q1 ((k:Int)+1)/\((k+1<=n/\∀ j,j<k+1->P j)/\n - (k+1)<n - k)/\(k:Int)+1=((k+1:Nat):Int):=⟨by simp only [Q1]; omega,⟨⟨hk,Vj h2 h⟩,by omega⟩,by omega⟩
theorem Z1q {α:Type} {p : α->Bool} {l:List α} {k:Nat} {d : α} (hk:k<l.length) (h:p (l.getD k d)=true):l.any p=true:=by
 rw [List.any_eq_true];exact⟨_,Z7 d hk,h⟩
theorem Z1h {α:Type} {p : α->Bool} {l:List α} {k:Nat} {d : α} (h0:∀ j,j<k->¬ p (l.getD j d)=true) (hk:l.length<=k):l.any p=false:=by
 rw [List.any_eq_false];intro x hx;obtain⟨j,hj⟩:=List.mem_iff_getElem?.1 hx;obtain⟨hlt,he⟩:=List.getElem?_eq_some_iff.1 hj;have:=h0 j (by omega);rw [List.getD_eq_getElem?_getD,hj] at this;simpa using this
def Qig:Con:=Ze 258 kU8 kU8 (fun _ _=>True) (fun a b => .bool fun _=>Gu (a ()) (b ()))
theorem Qp7:Q7 Tryz.prog Qig:=by
 refine Qp [] trivial Tryz.func258 (by kernel_rfl) fun avs res h hp => ?_;obtain⟨(a:Int),(b:Int),rfl,rfl⟩:=Zf h;clear h;refine⟨[],?_⟩
 conv=>arg 1; cbv
 simp (maxSteps:=4000000) only [fms,true_and,and_true,eq_self];exact⟨fun h=>by simp [Gu,h],fun h=>⟨fun h0=>by simp [Gu,h0],fun h0=>by simp [Gu,h,h0]⟩⟩
def Qt1:Con:=Ze 215 Q7j Q7j (fun _ _=>True) (fun x y => .bool fun _=>K0 (x ()) (y ()))
theorem Qu3:Q7 Tryz.prog Qt1:=by
 refine Qp [Qig] ⟨Qp7,trivial⟩ Tryz.func215 (by kernel_rfl) fun avs res h hp => ?_;obtain⟨(x:Za),(y:Za),rfl,rfl⟩:=Zf h;clear h;refine⟨[],?_⟩
 conv=>arg 1; cbv
 simp (maxSteps:=4000000) only [fms,true_and,and_true,eq_self];exact⟨fun h1=>⟨fun h2=>by simp [K0,h1,h2],fun h2=>by simp [K0,h2]⟩,fun h1=>by simp [K0,h1]⟩
def Qvl:Con:=Q2r 257 Ql6 Q7j kU8 (fun l x _=>(l ()).length<=1000000000000/\Q1 ((x ()).tier - 1)) (fun l x h => .bool fun _=>Q1a (x ()) (l ()) (h ()))
theorem Qwk:Q7 Tryz.prog Qvl:=by
 refine Qp [] trivial Tryz.func257 (by kernel_rfl) fun avs res h hp => ?_;obtain⟨(l:List Za),(x:Za),(h:Int),rfl,rfl⟩:=Q47 h;clear h;have hZhl:l.length<=1000000000000/\Q1 (x.tier - 1):=hp;have hl:=hZhl.1;have hx:=hZhl.2;refine⟨[(2,Q23 7 l fun j=>¬ (⟨x.col,x.tier - 1,h⟩:Za)=l.getD j Tc.slot.dflt)],?_⟩
 conv=>arg 1; cbv
 refine⟨?_,fun (k:Nat) hk => ?_⟩
 . simp (maxSteps:=4000000) only [fms];simp
 have hZhk1:k<=l.length/\∀ j,j<k->¬ (⟨x.col,x.tier - 1,h⟩:Za)=l.getD j Tc.slot.dflt:=hk;have hk1:=hZhk1.1;have hk2:=hZhk1.2
 conv=>arg 1; cbv
 simp (maxSteps:=4000000) only [fms,true_and,and_true,eq_self];refine⟨fun g => ?_,fun g=>(Z1h (p:=fun y=>decide ((⟨x.col,x.tier - 1,h⟩:Za)=y)) (fun j hj=>by simpa using hk2 j hj) (by omega)).symm⟩;have hlt:k<l.length:=by omega
 have hN:=Yr hl hlt hk2;refine⟨⟨by omega,by omega⟩,fun c=>⟨⟨by omega,by omega⟩,hx,fun t=>⟨⟨by omega,by omega⟩,fun e=>(Z1q (p:=fun y=>decide ((⟨x.col,x.tier - 1,h⟩:Za)=y)) (d:=Tc.slot.dflt) hlt ?_).symm,fun e=>hN fun q=>e (by rw [<- q])⟩,fun t=>hN fun q=>t (by rw [<- q])⟩,fun c=>hN fun q=>c (by rw [<- q])⟩;generalize l.getD k Tc.slot.dflt=y at c t e;obtain⟨a,b,z⟩:=y;simp only at c t e;subst c;subst e;simp [t]
def Qqx:Con:=Ze 213 Q7j Ql6 (fun x l=>(l ()).length<=1000000000000/\(x ()).tier<=1000000) (fun x l => .bool fun _=>Js (x ()) (l ()))
theorem Qtz:Q7 Tryz.prog Qqx:=by
 refine Qp [Qvl] ⟨Qwk,trivial⟩ Tryz.func213 (by kernel_rfl) fun avs res h hp => ?_;obtain⟨(x:Za),(l:List Za),rfl,rfl⟩:=Zf h;clear h;have hZhl:l.length<=1000000000000/\x.tier<=1000000:=hp;have hl:=hZhl.1;have ht:=hZhl.2;refine⟨[],?_⟩
 conv=>arg 1; cbv
 simp (maxSteps:=4000000) only [fms,true_and,and_true,eq_self];have ex:(⟨x.col,x.tier,x.half⟩:Za)=x:=rfl;simp only [ex];refine⟨fun h=>by unfold Js; rw [if_pos h],fun h => ?_⟩;have e:Js x l=(Q1a x l x.half||(decide (x.half=0)&&(Q1a x l 1&&Q1a x l 2))):=if_neg h;have hi:Q1 (x.tier - 1):=by simp only [Q1]; omega
 rw [e];refine⟨fun h0=>⟨⟨hl,hi⟩,fun h1=>by simp [h0,h1],fun h1=>⟨⟨hl,hi⟩,fun h2=>⟨⟨hl,hi⟩,by simp [h0,h1,h2]⟩,fun h2=>by simp [h0,h1,h2]⟩⟩,fun h0=>⟨⟨hl,hi⟩,by simp [h0]⟩⟩
def Qqt:Con:=Q2r 212 Va Q7j kI (fun _ _ _=>True) (fun s x z => .bool fun _=>K6 (s ()).cols (x ()) (z ()))
theorem Qtw:Q7 Tryz.prog Qqt:=by
 refine Qp [] trivial Tryz.func212 (by kernel_rfl) fun avs res h hp => ?_;obtain⟨(s:Shp),(x:Za),(z:Int),rfl,rfl⟩:=Q47 h;clear h;refine⟨[],?_⟩
 conv=>arg 1; cbv
 simp (maxSteps:=4000000) only [fms,true_and,and_true,eq_self];have e:∀ b1 b2 b3 b4 b5:Bool,decide (0<=x.col)=b1->decide (x.col<(s.cols.length:Int))=b2->decide (0<=x.tier)=b3->decide (x.tier<(s.cols.getD x.col.toNat Tc.col.dflt).tiers)=b4->((Q0i z).any fun y=>decide (x.half=y))=b5->K6 s.cols x z=(b1&&(b2&&(b3&&(b4&&b5)))):=fun b1 b2 b3 b4 b5 h1 h2 h3 h4 h5=>by unfold K6; rw [h1,h2,h3,h4,h5]
 refine⟨fun a=>by rw [e _ _ _ _ _ (decide_eq_false (by omega)) rfl rfl rfl rfl]; rfl,fun a => ?_⟩;have a:=decide_eq_true (show 0<=x.col by omega);refine⟨fun b=>by rw [e _ _ _ _ _ a (decide_eq_false (by omega)) rfl rfl rfl]; rfl,fun b => ?_⟩;have b:=decide_eq_true (show x.col<(s.cols.length:Int) by omega);refine⟨fun c=>by rw [e _ _ _ _ _ a b (decide_eq_false (by omega)) rfl rfl]; rfl,fun c=>⟨⟨by omega,by omega⟩,fun d => ?_,fun d => ?_⟩⟩
 . rw [e _ _ _ _ _ a b rfl (decide_eq_false (by omega)) rfl,Bool.false_and,Bool.and_false]; rfl
 rw [e _ _ _ _ _ a b (decide_eq_true (by omega)) (decide_eq_true (by omega)) rfl];unfold Q0i;refine⟨fun z4=>⟨fun h0=>by simp [z4,h0],fun h0=>⟨fun z2=>by omega,fun z2=>by simp [z4,h0]⟩⟩,fun z4=>⟨fun z2=>⟨fun h1=>by simp [z2,h1],fun h1=>by simp [z2,h1]⟩,fun z2=>by simp [z2,z4]⟩⟩
def Qfw:Con:=Yd 133 Yw (fun l=>(l ()).length<=1000000000000/\∀ b∈l (),b.num.size<=140737488351232) (fun l => .tup [.int .i64 fun _=>(Y5 (l ())).1,.int .i64 fun _=>(Y5 (l ())).2])
def Q5e (l:List Box):Nat->List Kx->Option Int
 | 0=>fun _=>none
 | k+1=>cond (decide (((l.getD k Tc.box.dflt).num)=Y0)) (Q5e l k) (Yy (Q5e l k) [.s (l.getD k Tc.box.dflt).num] (k:Int))
def lpV (l:List Box):Lp where
 X:=Nat
 ov k := [(16,.int .i64 fun _=>(k:Int)),(5,.int .i64 fun _=>Q1f l k)]
 oe k := [(0,.map true false (.one .str) .int 294 fun _=>Q5e l k)]
 I k:=k<=l.length/\∀ j,j<k->Yo l j=false
 μ k _:=l.length - k
 x0:=0
 nx:=some fun k=>k+1
theorem Qg6 (l:List Box) (s:ByteArray):∀ k,k<=l.length->(Q5e l k [.s s]).isSome=Q40 l k s
 | 0,_=>by rw [Qz3]; rfl
 | k+1,hk=>by
  have ih:=Qg6 l s k (by omega);have hnn:Q2i=Y0:=rfl;rw [Qwr l k s (by omega),<- ih,hnn];have e:l.getD k Tc.box.dflt=l[k]:=by simp [List.getD_eq_getElem?_getD,List.getElem?_eq_getElem (show k<l.length by omega)]
  have hu:Q5e l (k+1)=cond (decide ((l.getD k Tc.box.dflt).num=Y0)) (Q5e l k) (Yy (Q5e l k) [.s (l.getD k Tc.box.dflt).num] (k:Int)):=rfl;rw [hu,e];by_cases hn:l[k].num=Y0
  . simp only [hn,decide_true,cond_true,Bool.not_true,Bool.false_and,Bool.or_false]
  . simp only [hn,decide_false,cond_false,Bool.not_false,Bool.true_and];unfold Yy;by_cases hs:l[k].num=s
    . simp only [hs,if_true,Option.isSome_some,decide_true,Bool.or_true]
    . have:¬ [Kx.s s] = [Kx.s l[k].num]:=by simpa using fun e=>hs e.symm
      simp only [hs,this,if_false,decide_false,Bool.or_false]
theorem Qlv:Q7 Tryz.prog Qfw:=by
 refine Qp [Qgo] ⟨Qmj,trivial⟩ Tryz.func133 (by kernel_rfl) fun avs res h hp => ?_;obtain⟨(l:List Box),rfl,rfl⟩:=Yk h;clear h;have hZhp1:l.length<=1000000000000/\∀ b∈l,b.num.size<=140737488351232:=hp;have hp1:=hZhp1.1;have hp2:=hZhp1.2;refine⟨[(5,lpV l)],?_⟩
 conv=>arg 1; cbv
 refine⟨fun h1 => ?_,fun h1=>⟨?_,fun (k:Nat) hk => ?_⟩⟩
 . simp only [decide_eq_true_eq,Z8] at h1;have h2:Y5 l=(-1,5):=by unfold Y5; rw [if_pos (by omega)]
   simp only [Qk2,Q9p,V0,h2,and_self]
 . refine⟨⟨Nat.zero_le _,fun j hj=>absurd hj (Nat.not_lt_zero j)⟩,?_⟩;simp only [Qk2,Q9p,V0,Qqk];exact⟨rfl,(Quu l).symm,rfl⟩
 . conv=>arg 1; cbv
   have hZhk1:k<=l.length/\∀ j,j<k->Yo l j=false:=hk;have hk1:=hZhk1.1;have hk2:=hZhk1.2;have h5:l.length<=2000:=by simp only [decide_eq_false_iff_not,Z8] at h1; omega
   simp only [Q62,Z4h,Qk2,V0,Q9p,Qqk,Z8,Z4o,Int.toNat_natCast,decide_eq_true_eq,decide_eq_false_iff_not,Qg6 l _ k hk1];refine⟨fun h2=>⟨by omega,?_⟩,fun h2 => ?_⟩
   . have hlt:k<l.length:=by omega
     have e:l.getD k Tc.box.dflt=l[k]:=by simp [List.getD_eq_getElem?_getD,List.getElem?_eq_getElem hlt]
     have hbad:Yo l k=(Q40 l k l[k].num||decide (l[k].id<=Q1f l k) || !G8 l[k]):=by unfold Yo; rw [List.getElem?_eq_getElem hlt]
     simp only [e];have hf:Yo l k=true->(k:Int)=(Y5 l).1/\60=(Y5 l).2:=fun h=>by rw [Q9n h5 hlt hk2 h]; exact⟨rfl,rfl⟩
     refine⟨fun h3=>hf (by rw [hbad,h3]; rfl),fun h3=>⟨fun h4=>hf (by rw [hbad,h3]; simp [h4]),fun h4=>⟨hp2 _ (List.getElem_mem hlt),fun h6=>hf ?_,fun h6 => ?_⟩⟩⟩
     . rw [hbad];have h6':(!G8 l[k])=true:=h6;rw [h6'];simp
     . have h6':(!G8 l[k])=false:=h6;have hgood:Yo l k=false:=by rw [hbad,h3,h6']; simp [h4]
       have hI:k+1<=l.length/\∀ j,j<k+1->Yo l j=false:=⟨hlt,fun j hj=>by
        rcases Nat.lt_or_ge j k with h|h
        . exact hk2 j h
        . rw [show j=k by omega]; exact hgood⟩
       have hM:Q5e l (k+1)=cond (decide (l[k].num=Y0)) (Q5e l k) (Yy (Q5e l k) [.s l[k].num] (k:Int)):=by
        show cond _ _ _=_
        rw [e]
       have hrest:Q1 ((k:Int)+1)/\((k+1<=l.length/\∀ j,j<k+1->Yo l j=false)/\l.length - (k+1)<l.length - k)/\(k:Int)+1=((k+1:Nat):Int)/\l[k].id=Q1f l (k+1):=⟨⟨by omega,by omega⟩,⟨hI,by omega⟩,by omega,(Qub l k hlt).symm⟩
       refine⟨fun h7=>⟨hrest.1,hrest.2.1,hrest.2.2.1,hrest.2.2.2,?_⟩,fun h7=>⟨hrest.1,hrest.2.1,hrest.2.2.1,hrest.2.2.2,?_⟩⟩
       . have h8:(!decide (l[k].num=Y0))=true:=h7;have h7':decide (l[k].num=Y0)=false:=by simpa using h8
         rw [hM,h7'];rfl
       . have h8:(!decide (l[k].num=Y0))=false:=h7;have h7':decide (l[k].num=Y0)=true:=by simpa using h8
         rw [hM,h7'];rfl
   . have:k=l.length:=by omega
     subst this;rw [Qc1 h5 hk2];exact⟨rfl,rfl⟩
def Qv8:Con:=Yd 253 kS (fun s=>(s ()).size<=140737488351232) (fun s => .bool fun _=>Jj (s ()))
theorem Qyq:Q7 Tryz.prog Qv8:=by
 refine Q6p Tryz.func253 (by kernel_rfl) fun avs res h w ra vals hE hp => ?_;obtain⟨(s:ByteArray),rfl,rfl⟩:=Yk h;clear h;obtain⟨v0,us0,rfl,hv0,h0⟩:=hE.head;obtain rfl:=h0.none;obtain rfl:=hv0.str_;exact (Qyy s w hp).mono fun e w' ⟨k1,k2⟩=>⟨_,k1,by rw [<- k2]; exact Below.refl _ _,.bool _⟩
theorem Qqr (b:Box):G8 b=true↔(1<=b.id/\b.id<=999999)/\(b.num=Y0\/Jj b.num=true)/\(b.high=false\/b.size=40)/\((b.size=20/\b.kilos<=32000)\/(b.size=40/\b.kilos<=40000))/\1<=b.kilos/\((0<=b.load/\b.load<b.dis)/\b.dis<20)/\b.cls<=9:=by
 have hk:(1<=b.kilos/\b.kilos<=Q6i b.size)↔((b.size=20/\b.kilos<=32000)\/(b.size=40/\b.kilos<=40000))/\1<=b.kilos:=by
  unfold Q6i;split
  . omega
  . split<;>omega
 have e:G8 b=true↔(1<=b.id/\b.id<=999999)/\(b.num=Y0\/Jj b.num=true)/\(b.high=false\/b.size=40)/\(1<=b.kilos/\b.kilos<=Q6i b.size)/\((0<=b.load/\b.load<b.dis)/\b.dis<20)/\b.cls<=9:=by
  unfold G8 Yp Q0h;simp only [Bool.and_eq_true,Bool.or_eq_true,decide_eq_true_eq,Bool.not_eq_true',show Q2i=Y0 from rfl];constructor
  . rintro⟨⟨⟨⟨⟨h1,h2⟩,h3⟩,h4⟩,h5⟩,h6⟩
    exact⟨h1,h2,h3,h4,h5,h6⟩
  . rintro⟨h1,h2,h3,h4,h5,h6⟩
    exact⟨⟨⟨⟨⟨h1,h2⟩,h3⟩,h4⟩,h5⟩,h6⟩
 rw [e,hk];constructor
 . rintro⟨h1,h2,h3,⟨h4,h4'⟩,h5,h6⟩
   exact⟨h1,h2,h3,h4,h4',h5,h6⟩
 . rintro⟨h1,h2,h3,h4,h4',h5,h6⟩
   exact⟨h1,h2,h3,⟨h4,h4'⟩,h5,h6⟩
def Qvh:Con:=Yd 210 Qhw (fun b=>(b ()).num.size<=140737488351232) (fun b => .bool fun _=>G8 (b ()))
theorem Qyl:Q7 Tryz.prog Qvh:=by
 refine Qp [Qv8] ⟨Qyq,trivial⟩ Tryz.func210 (by kernel_rfl) fun avs res h hp => ?_;obtain⟨(b:Box),rfl,rfl⟩:=Yk h;clear h;have hn:b.num.size<=140737488351232:=hp;refine⟨[],?_⟩
 conv=>arg 1; cbv
 simp (maxSteps:=4000000) only [fms,true_and,and_true,eq_self];have hI:=Qqr b;simp only [Bool.not_eq_true',Bool.not_eq_false',decide_eq_false_iff_not,decide_eq_true_eq,show ({ data := { toList := [] } }:ByteArray)=Y0 from rfl]
 cases hB:G8 b with
 | true =>
  obtain⟨h1,h2,h3,h4,h5,h6,h7⟩:=hI.1 hB
  (repeat' (first|apply And.intro|intro _))<;>first
   | exact hn
   | (exfalso; omega)
   | (exact decide_eq_true (by omega))
   | (exfalso; rcases h3 with h3|h3<;>simp_all)
   | (exfalso; rcases h2 with h2|h2<;>simp_all)
 | false =>
  have hN:¬ _:=fun q=>Bool.noConfusion (hB.symm.trans (hI.2 q))
  (repeat' (first|apply And.intro|intro _))<;>first
   | rfl
   | exact hn
   | (refine decide_eq_false fun hc=>hN ⟨by omega,?_,?_,by omega,by omega,by omega,by omega⟩
      . first|exact .inr (by assumption)|exact .inl (by assumption)
      . first|exact .inl (by assumption)|exact .inr (by omega))
def V4 (c:Col):List Spn := [⟨c.bay,0,39⟩,⟨c.row,0,30⟩,⟨c.tiers,1,10⟩,⟨c.height,0,40000⟩,⟨c.k20,0,500000000⟩,⟨c.k40,0,500000000⟩,⟨c.lash,0,1000000000000⟩,⟨c.x,-500000,500000⟩,⟨c.y,-500000,500000⟩,⟨c.z,-500000,500000⟩]
def Kz (t:Int) (l:List Int) (i:Nat):Bool:=(decide (0<=l.getD i 0)&&decide (l.getD i 0<=t))&&(decide (i=0)||decide (l.getD (i - 1) 0<l.getD i 0))
def Ge (t:Int) (l:List Int):Bool:=decide (∀ i,i<l.length->Kz t l i=true)
def Vm (c:Col):Bool:=Ge (c.tiers - 1) c.plugs&&(V4 c).all Q0a
theorem Qcb {t:Int} {l:List Int} {k:Nat} (hk:k<l.length) (h:Kz t l k=false):Ge t l=false:=by
 unfold Ge;rw [decide_eq_false_iff_not];intro h2;rw [h2 k hk] at h;cases h
theorem Qd3 {t:Int} {l:List Int} {k:Nat} (hk:l.length<=k) (h:∀ j,j<k->Kz t l j=true):Ge t l=true:=by
 unfold Ge;rw [decide_eq_true_eq];exact fun i hi=>h i (by omega)
def Qqi:Con:=Yd 230 Qhk (fun c=>(c ()).plugs.length<=1000000000000/\Q1 ((c ()).tiers - 1)) (fun c => .bool fun _=>Vm (c ()))
def Z6j (c:Col):Lp where
 X:=Nat
 ov k := [(9,.int .i64 fun _=>(k:Int))]
 oe _ := []
 I k:=k<=c.plugs.length/\∀ j,j<k->Kz (c.tiers - 1) c.plugs j=true
 μ k _:=c.plugs.length - k
 x0:=0
 nx:=some fun k=>k+1
theorem Q86:Q7 Tryz.prog Qqi:=by
 refine Qp [Qhy] ⟨Qfs,trivial⟩ Tryz.func230 (by kernel_rfl) fun avs res h hp => ?_;obtain⟨(c:Col),rfl,rfl⟩:=Yk h;clear h;have hZh1:c.plugs.length<=1000000000000/\Q1 (c.tiers - 1):=hp;have h1:=hZh1.1;have h2:=hZh1.2;refine⟨[(3,Z6j c)],?_⟩
 conv=>arg 1; cbv
 refine⟨?_,fun (k:Nat) hk => ?_⟩
 . simp (maxSteps:=4000000) only [fms];simp
 . conv=>arg 1; cbv
   have hZhk1:k<=c.plugs.length/\∀ j,j<k->Kz (c.tiers - 1) c.plugs j=true:=hk;have hk1:=hZhk1.1;have hk2:=hZhk1.2;simp (maxSteps:=4000000) only [fms];refine⟨fun h => ?_,fun h => ?_⟩
   . have h3:k<c.plugs.length:=by omega
     have ha:=Qcb (t:=c.tiers - 1) h3;have hb:=Vj (k:=k) hk2;have hc:Vm c=(Ge (c.tiers - 1) c.plugs&&(V4 c).all Q0a):=rfl;have he:Kz (c.tiers - 1) c.plugs k=((decide (0<=c.plugs.getD k Tc.int.dflt)&&decide (c.plugs.getD k Tc.int.dflt<=c.tiers - 1))&&(decide (k=0)||decide (c.plugs.getD (k - 1) Tc.int.dflt<c.plugs.getD k Tc.int.dflt))):=rfl;generalize c.plugs.getD k Tc.int.dflt=x at *
     generalize c.plugs.getD (k - 1) Tc.int.dflt=y at *
     rw [hc];clear hc hk2;generalize Kz (c.tiers - 1) c.plugs=R at *
     generalize (V4 c).all Q0a=z at *
     simp only [Q1,Q0a,List.all_cons,List.all_nil,Bool.and_true,List.length_cons,List.length_nil] at *
     grind
   . have hc:Vm c=(V4 c).all Q0a:=by unfold Vm; rw [Qd3 (by omega) hk2,Bool.true_and]
     rw [hc];exact⟨by simp,rfl⟩
def Qdp:Con:=⟨230,[],fun
 | [.agg [.int .i64 a,.int .i64 b,.bool d,.lit .i64 n,.int .i64 h,.int .i64 i,.int .i64 j,.int .i64 k,.sl false .int l,.int .i64 x,.int .i64 y,.int .i64 z]]=>if n = -9223372036854775808 then some ⟨fun _=>(l ()).length<=1000000000000,.bool fun _=>false⟩ else none
 | _=>none⟩
def Z2t (l:List Int):Lp where
 X:=Nat
 ov k := [(9,.int .i64 fun _=>(k:Int))]
 oe _ := []
 I k:=k<=l.length
 μ k _:=l.length - k
 x0:=0
 nx:=some fun k=>k+1
theorem Qkt:Q7 Tryz.prog Qdp:=by
 refine Qp [Qhy] ⟨Qfs,trivial⟩ Tryz.func230 (by kernel_rfl) fun avs res h hp => ?_;simp only [Qdp] at h;split at h
 case h_2=>cases h
 rename_i a b d n hh i j k l x y z;split at h
 case isFalse=>cases h
 rename_i hn;subst hn;cases h;obtain⟨l,rfl⟩:=eta (α:=List Int) l;have hl:l.length<=1000000000000:=hp;refine⟨[(3,Z2t l)],?_⟩
 conv=>arg 1; cbv
 refine⟨?_,fun (k:Nat) hk => ?_⟩
 . simp (maxSteps:=4000000) only [fms];simp
 have hk1:k<=l.length:=hk
 conv=>arg 1; cbv
 simp (maxSteps:=4000000) only [fms,true_and,and_true,eq_self];have hN:k<l.length->Q1 ((k:Int)+1)/\(k+1<=l.length/\l.length - (k+1)<l.length - k)/\(k:Int)+1=((k+1:Nat):Int):=fun h=>⟨by simp only [Q1]; omega,⟨by omega,by omega⟩,by omega⟩
 exact⟨fun g=>⟨⟨by omega,by omega⟩,by simp,fun _=>trivial,fun _=>⟨fun g1=>⟨by simp only [Q1]; omega,⟨by omega,by omega⟩,fun _=>trivial,fun _=>hN (by omega)⟩,fun g1=>hN (by omega)⟩⟩,fun g=>⟨by simp,by simp [Q0a]⟩⟩
theorem Z36 {w:World} {ρ:Nat->Option Rl} {base:Nat} {ro:Nat->Prop} {l:List AV} {vs:List Value} {i:Nat} {k:IntKind} {n:Unit->Int} (h:Qj w ρ base ro l vs) (hi:l[i]? = some (.int k n)):Qj w ρ base ro (l.set i (.lit k (n ()))) vs:=by
 refine⟨by rw [List.length_set]; exact h.1,fun j x v h1 h2 => ?_⟩;rw [List.getElem?_set] at h1;split at h1
 . rename_i e;subst e;split at h1
   . cases h1;rw [(h.2 i _ v hi h2).int_];exact .lit _ _
   . cases h1
 . exact h.2 j x v h1 h2
def Qgg:Con:=Yd 230 Qhk (fun c=>(c ()).plugs.length<=1000000000000/\Q1 (c ()).tiers) (fun c => .bool fun _=>Vm (c ()))
theorem Qln:Q7 Tryz.prog Qgg:=by
 refine⟨Q86.1,fun avs res h w ra vals hlt hE hp => ?_⟩;obtain⟨(c:Col),rfl,rfl⟩:=Yk h;clear h;have hp':c.plugs.length<=1000000000000/\Q1 c.tiers:=hp;by_cases ht:c.tiers = -9223372036854775808
 . obtain⟨v,us,rfl,hv,h2⟩:=hE.head;obtain rfl:=h2.none;obtain⟨vs,rfl,h3⟩:=hv.agg_;have h4:=Z36 (i:=3) h3 rfl;have hc:Vm c=false:=by
    unfold Vm V4 Q0a;simp [ht]
   have h5:=Qkt.2 [.agg ((Qwx fun _=>c).set 3 (.lit .i64 c.tiers))] ⟨fun _=>c.plugs.length<=1000000000000,.bool fun _=>false⟩ (if_pos ht) w ra [.agg vs.toArray] hlt (.cons (.agg _ _ h4.1 h4.2) .nil) hp'.1;rw [show (AV.bool fun _=>Vm ((fun _=>c) ()))=AV.bool fun _=>false by rw [hc]];exact h5
 . exact Q86.2 [.agg (Qwx fun _=>c)] ⟨fun _=>c.plugs.length<=1000000000000/\Q1 (c.tiers - 1),.bool fun _=>Vm c⟩ rfl w ra vals hlt hE ⟨hp'.1,by have:=hp'.2; simp only [Q1] at this ⊢; omega⟩
def Q18 (ks:List (List Kx)):List Kx->Option Int:=fun k=>if ks.count k=0 then none else some (ks.count k:Int)
theorem Qd4 (ks:List (List Kx)) (k:List Kx) (d:Int) (h:d=0):(Q18 ks k).getD d=(ks.count k:Int):=by
 subst h;unfold Q18;split
 . rename_i h; rw [h]; rfl
 . rfl
theorem Qt7 (ks:List (List Kx)) (k:List Kx):Yy (Q18 ks) k ((ks.count k:Int)+1)=Q18 (ks ++ [k]):=by
 funext k';unfold Yy Q18;rw [List.count_append];by_cases h:k'=k
 . subst h;simp
 . rw [if_neg h];have:List.count k' [k]=0:=List.count_eq_zero.2 (by simpa using h);rw [this,Nat.add_zero]
theorem Q3v {α:Type} (m:List Kx->Option α) (k:List Kx) (x y : α):Yy (Yy m k x) k y=Yy m k y:=by
 funext k';unfold Yy;by_cases h:k'=k<;>simp [h]
theorem Qa9 {α:Type} (m:List Kx->Option α) (k:List Kx) (x : α):Yy m k x k=some x:=by unfold Yy; rw [if_pos rfl]
def Y8 (c:Col):List Kx := [.i .i64 c.bay,.i .i64 c.row,.i .i64 (cond c.deck 1 0)]
def Zp (x:Cov):List (List Kx):=x.rows.map fun r => [.i .i64 x.bay,.i .i64 r,.i .i64 2]
def Q0n (x:Cov):Bool:=(decide (0<=x.bay)&&decide (x.bay<40))&&(!decide (x.rows.length=0)&&Ge 30 x.rows)
def Q12 (s:Shp):List (List Kx):=s.cols.map Y8++s.covs.flatMap Zp
def Yg (s:Shp):Bool:=(decide (1<=s.cols.length)&&(decide (s.cols.length<=200)&&decide (s.covs.length<=40)))&&(s.cols.all Vm&&(s.covs.all Q0n&&decide ((Q12 s).Nodup)))
theorem Qvu (c:Col):(⟨c.bay,c.row,c.deck,c.tiers,c.height,c.k20,c.k40,c.lash,c.plugs,c.x,c.y,c.z⟩:Col)=c:=rfl
theorem Qtl {x:Cov} {j:Nat} (h:j<x.rows.length):(Zp x).take (j+1)=(Zp x).take j ++ [[Kx.i IntKind.i64 x.bay,Kx.i IntKind.i64 (x.rows.getD j Tc.int.dflt),Kx.i IntKind.i64 2]]:=by
 unfold Zp;rw [<- List.map_take,<- List.map_take,Gp Tc.int.dflt h,List.map_append];rfl
theorem Qoy:∀ (l:List Cov),(∀ y∈l,y.rows.length<=1000000000000)->(l.flatMap Zp).length<=l.length*1000000000000
 | [],_=>by simp
 | y::l,h=>by
  have e3:=h y (.head _);have e4:=Qoy l fun z hz=>h z (.tail _ hz);simp only [List.flatMap_cons,List.length_append,List.length_cons,Zp,List.length_map] at e4 ⊢;omega
theorem Qsw (key:List Kx) (l:List (List Kx)) (h:l.length<=1000000000000000):Q1 ((l.count key:Int)+1):=by
 have:=List.count_le_length (a:=key) (l:=l);unfold Q1;omega
theorem Z44 {s:Shp} {key:List Kx} (h:key∈Q12 s):Zd (Kc.arr 3 (Lk.int IntKind.i64)).ls key=true:=by
 unfold Q12 at h;rcases List.mem_append.1 h with h|h
 . obtain⟨c,_,rfl⟩:=List.mem_map.1 h;rfl
 . obtain⟨x,_,h⟩:=List.mem_flatMap.1 h;obtain⟨r,_,rfl⟩:=List.mem_map.1 h;rfl
def Qef:Con:=Yd 192 Va (fun s=>(∀ c∈(s ()).cols,c.plugs.length<=1000000000000/\Q1 c.tiers)/\∀ x∈(s ()).covs,x.rows.length<=1000000000000) (fun s => .bool fun _=>Yg (s ()))
def Z8e (s:Shp):Lp where
 X:=Nat
 ov k := [(33,.int .i64 fun _=>(k:Int))]
 oe k := [(1,.map true false (.arr 3 (.int .i64)) .int 309 fun _=>Q18 ((s.cols.take k).map Y8))]
 I k:=k<=s.cols.length/\(s.cols.take k).all Vm=true
 μ k _:=s.cols.length - k
 x0:=0
 nx:=some fun k=>k+1
def Z8b (s:Shp):Lp where
 X:=Nat
 ov k := [(57,.int .i64 fun _=>(k:Int))]
 oe k := [(1,.map true false (.arr 3 (.int .i64)) .int 309 fun _=>Q18 (s.cols.map Y8++(s.covs.take k).flatMap Zp))]
 I k:=k<=s.covs.length/\(s.covs.take k).all Q0n=true
 μ k _:=s.covs.length - k
 x0:=0
 nx:=some fun k=>k+1
def Z8f (s:Shp) (k:Nat) (x:Cov):Lp where
 X:=Nat
 ov j := [(78,.int .i64 fun _=>(j:Int))]
 oe j := [(1,.map true false (.arr 3 (.int .i64)) .int 309 fun _=>Q18 (s.cols.map Y8++(s.covs.take k).flatMap Zp++(Zp x).take j))]
 I j:=j<=x.rows.length/\∀ i,i<j->Kz 30 x.rows i=true
 μ j _:=x.rows.length - j
 x0:=0
 nx:=some fun j=>j+1
def Z97 (ks:List (List Kx)) (n:Nat):Lp where
 X:=List (List Kx)×Nat
 ov _ := []
 oe p := [(2,.iter 1 (.arr 3 (.int .i64)) (fun _=>p.1) fun _=>p.2)]
 I p:=∀ key∈p.1,∀ x,Q18 ks key=some x->x<=1
 μ p _:=p.2
 x0:=([],n)
 nx:=none
theorem Qj9:Q7 Tryz.prog Qef:=by
 refine Qp [Qgg] ⟨Qln,trivial⟩ Tryz.func192 (by kernel_rfl) fun avs res h hp => ?_;obtain⟨(s:Shp),rfl,rfl⟩:=Yk h;clear h;have hZh1:(∀ c∈s.cols,c.plugs.length<=1000000000000/\Q1 c.tiers)/\∀ x∈s.covs,x.rows.length<=1000000000000:=hp;have h1:=hZh1.1;have h2:=hZh1.2;refine⟨[(5,Z8e s),(15,Z8b s)],?_⟩
 conv=>arg 1; cbv
 refine⟨fun g1 => ?_,fun g1=>⟨fun g2 => ?_,fun g2=>⟨fun g3 => ?_,fun g3=>⟨?_,fun (k:Nat) hk => ?_⟩⟩⟩⟩
 . simp (maxSteps:=4000000) only [fms];simp only [decide_eq_true_eq] at g1;unfold Yg;grind
 . simp (maxSteps:=4000000) only [fms];simp only [decide_eq_true_eq] at g2;unfold Yg;grind
 . simp (maxSteps:=4000000) only [fms];simp only [decide_eq_true_eq] at g3;unfold Yg;grind
 . simp (maxSteps:=4000000) only [fms];exact⟨⟨Nat.zero_le _,rfl⟩,rfl,rfl⟩
 simp only [decide_eq_false_iff_not,Z8] at g1 g2 g3;have hZhk1:k<=s.cols.length/\(s.cols.take k).all Vm=true:=hk;have hk1:=hZhk1.1;have hk2:=hZhk1.2
 conv=>arg 1; cbv
 refine⟨fun g4 => ?_,fun g4 => ?_⟩
 . simp only [decide_eq_true_eq,Z8] at g4;have hlt:k<s.cols.length:=by omega
   have hmem:=Z7 Tc.col.dflt hlt;have hZp:=h1 _ hmem;have hp1:=hZp.1;have hp2:=hZp.2;simp (maxSteps:=4000000) only [fms];simp only [Qa9,Q3v,Option.getD_some,Qd4 _ _ Tc.int.dflt rfl];simp only [Qvu];have hA:=Qlo (p:=Vm) (d:=Tc.col.dflt) hlt;have hB:=Qgu (d:=Tc.col.dflt) hk2 hlt;have hS:s.cols.all Vm=false->Yg s=false:=fun h=>by unfold Yg; rw [h]; simp
   have hC:∀ key,Q1 (((List.map Y8 (List.take k s.cols)).count key:Int)+1):=fun key=>Qsw key _ (by simp; omega);have hM:List.map Y8 (List.take (k+1) s.cols)=List.map Y8 (List.take k s.cols) ++ [Y8 (s.cols.getD k Tc.col.dflt)]:=by rw [Gp Tc.col.dflt hlt,List.map_append]; rfl
   rw [hM,<- Qt7];have hK1:(s.cols.getD k Tc.col.dflt).deck=true->Y8 (s.cols.getD k Tc.col.dflt) = [Kx.i IntKind.i64 (s.cols.getD k Tc.col.dflt).bay,Kx.i IntKind.i64 (s.cols.getD k Tc.col.dflt).row,Kx.i IntKind.i64 1]:=fun h=>by unfold Y8; rw [h]; rfl
   have hK2:(s.cols.getD k Tc.col.dflt).deck=false->Y8 (s.cols.getD k Tc.col.dflt) = [Kx.i IntKind.i64 (s.cols.getD k Tc.col.dflt).bay,Kx.i IntKind.i64 (s.cols.getD k Tc.col.dflt).row,Kx.i IntKind.i64 0]:=fun h=>by unfold Y8; rw [h]; rfl
   have hk1i:Q1 ((k:Int)+1):=⟨by omega,by omega⟩
   generalize s.cols.getD k Tc.col.dflt=c at *
   generalize List.map Y8 (List.take k s.cols)=L at *
   refine⟨⟨by omega,g4⟩,fun hd => ?_,fun hd => ?_⟩
   . have hk:=hK1 hd;rw [<- hk];generalize Y8 c=key at *
     clear hK1 hK2;grind
   . have hk:=hK2 hd;rw [<- hk];generalize Y8 c=key at *
     clear hK1 hK2;grind
 have hkk:s.cols.length<=k:=by simp only [decide_eq_false_iff_not,Z8] at g4; omega
 have hcols:s.cols.all Vm=true:=Qmp hk2 hkk;have hkey:List.map Y8 (List.take k s.cols)=s.cols.map Y8:=by rw [List.take_of_length_le hkk]
 clear g4;refine⟨?_,fun (m:Nat) hm => ?_⟩
 . simp (maxSteps:=4000000) only [fms];rw [hkey];refine⟨⟨Nat.zero_le _,rfl⟩,rfl,?_⟩;simp
 have hZhm1:m<=s.covs.length/\(s.covs.take m).all Q0n=true:=hm;have hm1:=hZhm1.1;have hm2:=hZhm1.2
 conv=>arg 1; cbv
 refine⟨fun g4 => ?_,fun g4 => ?_⟩
 . simp only [decide_eq_true_eq,Z8] at g4;have hlt:m<s.covs.length:=by omega
   have hmem:=Z7 Tc.cov.dflt hlt;have hp2:=h2 _ hmem;have hA:=Qlo (p:=Q0n) (d:=Tc.cov.dflt) hlt;have hB:=Qgu (d:=Tc.cov.dflt) hm2 hlt;have hS:s.covs.all Q0n=false->Yg s=false:=fun h=>by unfold Yg; rw [h]; simp
   refine⟨⟨Int.natCast_nonneg m,g4⟩,fun g5 => ?_,fun g5=>⟨fun g6 => ?_,fun g6=>⟨fun g7 => ?_,fun g7 => ?_⟩⟩⟩
   all_goals simp only [decide_eq_true_eq,decide_eq_false_iff_not,Z8,Int.toNat_natCast] at *
   . simp (maxSteps:=4000000) only [fms];refine (hS (hA ?_)).symm;unfold Q0n;generalize s.covs.getD m Tc.cov.dflt=x at *
     grind
   . simp (maxSteps:=4000000) only [fms];refine (hS (hA ?_)).symm;unfold Q0n;generalize s.covs.getD m Tc.cov.dflt=x at *
     grind
   . simp (maxSteps:=4000000) only [fms];refine (hS (hA ?_)).symm;unfold Q0n;generalize s.covs.getD m Tc.cov.dflt=x at *
     grind
   . refine Qc (s.covs.getD m Tc.cov.dflt) fun x hx => ?_;refine⟨Z8f s m x,?_⟩
     conv=>arg 1; cbv
     have hcv:Q0n (s.covs.getD m Tc.cov.dflt)=Ge 30 (s.covs.getD m Tc.cov.dflt).rows:=by
      unfold Q0n;grind
     rw [hx] at hcv hA hB hp2 hmem;refine⟨?_,fun (j:Nat) hj => ?_⟩
     . simp (maxSteps:=4000000) only [fms];refine⟨⟨Nat.zero_le _,by simp⟩,rfl,?_⟩;simp
     have hZhj1:j<=x.rows.length/\∀ i,i<j->Kz 30 x.rows i=true:=hj;have hj1:=hZhj1.1;have hj2:=hZhj1.2
     conv=>arg 1; cbv
     simp (maxSteps:=4000000) only [fms];rw [hx];simp only [Qa9,Q3v,Option.getD_some,Qd4 _ _ Tc.int.dflt rfl];have hm1':Q1 ((m:Int)+1):=⟨by omega,by omega⟩
     refine⟨fun g8 => ?_,fun g8 => ?_⟩
     . have h8:j<x.rows.length:=by omega
       have hj1':Q1 ((j:Int)+1):=⟨by omega,by omega⟩
       have hC:∀ key,Q1 (((List.map Y8 s.cols++List.flatMap Zp (List.take m s.covs)++List.take j (Zp x)).count key:Int)+1):=fun key=>by
        refine Qsw key _ ?_;have e5:=Qoy (List.take m s.covs) fun y hy=>h2 y (List.mem_of_mem_take hy);have e6:(List.take m s.covs).length<=40:=by rw [List.length_take]; omega
        have e7:(List.take j (Zp x)).length<=1000000000000:=by
         rw [List.length_take]; omega
        simp only [List.length_append,List.length_map];omega
       rw [Qtl h8,<- List.append_assoc,<- Qt7];have ha:=Qcb (t:=30) h8;have hb:=Vj (k:=j) hj2;have he:Kz 30 x.rows j=((decide (0<=x.rows.getD j Tc.int.dflt)&&decide (x.rows.getD j Tc.int.dflt<=30))&&(decide (j=0)||decide (x.rows.getD (j - 1) Tc.int.dflt<x.rows.getD j Tc.int.dflt))):=rfl;generalize x.rows.getD j Tc.int.dflt=u at *
       generalize x.rows.getD (j - 1) Tc.int.dflt=v at *
       generalize List.map Y8 s.cols++List.flatMap Zp (List.take m s.covs)++List.take j (Zp x)=L at *
       generalize [Kx.i IntKind.i64 x.bay,Kx.i IntKind.i64 u,Kx.i IntKind.i64 2]=key at *
       generalize Kz 30 x.rows=R at *
       generalize Ge 30 x.rows=RR at *
       clear hmem hx hj2;have hjp:0<(j:Int)->Q1 ((j:Int) - 1):=fun h=>⟨by omega,by omega⟩
       grind
     . have h8:x.rows.length<=j:=by omega
       have hr:=Qd3 h8 hj2;rw [<- hcv] at hr;have hT:(Zp x).take j=Zp x:=List.take_of_length_le (by unfold Zp; rw [List.length_map]; exact h8);have hU:List.flatMap Zp (List.take (m+1) s.covs)=List.flatMap Zp (List.take m s.covs)++Zp x:=by
        rw [Gp Tc.cov.dflt hlt,hx,List.flatMap_append];simp
       rw [hT,hU,<- List.append_assoc];exact⟨hm1',⟨⟨hlt,hB hr⟩,by omega⟩,by omega,rfl⟩
 . have hmm:s.covs.length<=m:=by simp only [decide_eq_false_iff_not,Z8] at g4; omega
   have hcovs:s.covs.all Q0n=true:=Qmp hm2 hmm;have hT:List.take m s.covs=s.covs:=List.take_of_length_le hmm;clear g4;intro n _;refine Qc (Q12 s) fun ks hks => ?_
   conv=>arg 1; cbv
   refine⟨Z97 ks n,?_⟩
   conv=>arg 1; cbv
   refine⟨?_,fun (p:List (List Kx)×Nat) hp => ?_⟩
   . simp (maxSteps:=4000000) only [fms];simp
   have hp':∀ key∈p.1,∀ x,Q18 ks key=some x->x<=1:=hp;have hmet:Q18 (List.map Y8 s.cols++List.flatMap Zp (List.take m s.covs))=Q18 ks:=by rw [hT,<- hks]; rfl
   conv=>arg 1; cbv
   refine⟨fun g5=>fun (u:Unit) hu => ?_,fun g5=>fun (q:List Kx×Nat) hq => ?_⟩
   . conv=>arg 1; cbv
     simp (maxSteps:=4000000) only [fms];have hu':∀ (key:List Kx) (x:Int),Zd (Kc.arr 3 (Lk.int IntKind.i64)).ls key=true->Q18 (List.map Y8 s.cols++List.flatMap Zp (List.take m s.covs)) key=some x->key∈p.1:=hu;rw [hmet] at hu';have hnd:(Q12 s).Nodup:=by
      rw [List.nodup_iff_count];intro key;rcases Nat.eq_zero_or_pos (ks.count key) with h0|h0
      . rw [hks,h0]; omega
      . have hin:key∈Q12 s:=by rw [hks]; exact List.count_pos_iff.1 h0
        have he:Q18 ks key=some (ks.count key:Int):=by unfold Q18; rw [if_neg (by omega)]
        have:=hp' key (hu' key _ (Z44 hin) he) _ he;rw [hks];omega
     unfold Yg;rw [hcols,hcovs];simp only [hnd,decide_true,Bool.and_true];grind
   . have hq':Zd (Kc.arr 3 (Lk.int IntKind.i64)).ls q.1=true/\(Q18 (List.map Y8 s.cols++List.flatMap Zp (List.take m s.covs)) q.1).isSome=true/\¬ q.1∈p.1/\q.2<p.2:=hq;have q1:=hq'.1;have q2:=hq'.2.1;have q3:=hq'.2.2.1;have q4:=hq'.2.2.2;rw [hmet] at q2
     conv=>arg 1; cbv
     simp (maxSteps:=4000000) only [fms];simp only [hmet,List.headD_cons,Qd4 _ _ Tc.int.dflt rfl];refine⟨by simp,fun h => ?_,fun h => ?_⟩
     . have hnd:¬ (Q12 s).Nodup:=fun hn=>by
        have:=List.nodup_iff_count.1 hn q.1;rw [hks] at this;omega
       unfold Yg;simp [hnd]
     . refine⟨(q.1::p.1,q.2),⟨fun key' hk' x hx => ?_,q4⟩,?_⟩
       . rcases List.mem_cons.1 hk' with rfl|hk'
         . unfold Q18 at hx;split at hx
           . cases hx
           . cases hx; omega
         . exact hp' key' hk' x hx
       . conv=>arg 1; cbv
         simp (maxSteps:=4000000) only [fms];simp
end Go.Proofs.YtffeegebohigdaaGreat
