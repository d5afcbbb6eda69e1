/-
  A Stress put together out of two fractions.
-/
import Derived.Test.YthfpdbjemfhieaaGreatMt17
set_option linter.unusedVariables false
set_option linter.unusedSimpArgs false
namespace Go.Proofs.YthfpdbjemfhieaaGreat
open Go.RowKit
theorem frac_explicit (f:FracV):∃ (b:Bool) (c:Fin 16->Int),f.cells = [.bool b,.int .u32 (c 0),.int .u32 (c 1),.int .u32 (c 2),.int .u32 (c 3),.int .u32 (c 4),.int .u32 (c 5),.int .u32 (c 6),.int .u32 (c 7),.int .u32 (c 8),.int .u32 (c 9),.int .u32 (c 10),.int .u32 (c 11),.int .u32 (c 12),.int .u32 (c 13),.int .u32 (c 14),.int .u32 (c 15)]:=by
 obtain⟨a0,a1,a2,a3,a4,a5,a6,a7,ha⟩:=list8 (pad_len B32 8 f.num);obtain⟨d0,d1,d2,d3,d4,d5,d6,d7,hd⟩:=list8 (pad_len B32 8 f.den);refine⟨f.neg,fun i=>([a0,a1,a2,a3,a4,a5,a6,a7,d0,d1,d2,d3,d4,d5,d6,d7].map (fun (n:Nat)=>(n:Int))).getD i.val 0,?_⟩;unfold FracV.cells;rw [ha,hd];rfl
structure Ctr where
 x:FracV
 y:FracV
 z:FracV
def Ctr.cells (c:Ctr):List Value:=c.x.cells++(c.y.cells++c.z.cells)
def Ctr.val (c:Ctr):Value := .agg c.cells.toArray
theorem Ctr.len (c:Ctr):c.cells.length=51:=by simp [Ctr.cells,FracV.cells_len]
theorem Ctr.one (c:Ctr):∀ u∈c.cells,u.oneCell'=true:=by
 intro u hu;rcases List.mem_append.1 hu with h|h
 . exact c.x.ones u h
 . rcases List.mem_append.1 h with h|h
   . exact c.y.ones u h
   . exact c.z.ones u h
def ctr0:Ctr:=⟨zeroF,zeroF,zeroF⟩
theorem Ctr.row:IsRow Tryz.prog 111 51:=⟨_,Tryz.underlying111,by kernel_rfl,by kernel_rfl⟩
theorem Ctr.size:(Tryz.prog.info? 111).map (·.size)=some 51:=by kernel_rfl
def findF (l:Ld):Ctr×Int:=if ldOk l then if l.kilos=0 then (ctr0,6) else (⟨(ratioL l.x l.kilos).1,(ratioL l.y l.kilos).1,(ratioL l.z (2*l.kilos)).1⟩,0) else (ctr0,2)
def CtrPost (w:World) (r:Ctr×Int) (e:Ending) (w':World):Prop:=e = .returned (.tuple #[r.1.val,.int .i64 r.2])/\From w w'
set_option maxRecDepth 100000 in
set_option maxHeartbeats 4000000 in
theorem build_ctr (f g h:FracV) {a:Act} {s t u:Nat} {d:Option Nat} {ty:TypeId} {pos:String} {aft:Array Edge} {gd:Option (Nat×Bool)} (w:World) (hx:a.eval (.tmp s) = .agg f.cells.toArray) (hy:a.eval (.tmp t) = .agg g.cells.toArray) (hz:a.eval (.tmp u) = .agg h.cells.toArray) :
 (execOp a.eval ⟨d,.build 111 #[(0,.tmp s),(1,.tmp t),(2,.tmp u)],ty,pos,aft,gd⟩).run Tryz.prog w = .ok (.value (Ctr.val ⟨f,g,h⟩)) w:=by
 obtain⟨b,c,hf⟩:=frac_explicit f;obtain⟨b',c',hg⟩:=frac_explicit g;obtain⟨b2,c2,hh⟩:=frac_explicit h;unfold Ctr.val Ctr.cells;dsimp only;rw [hf] at hx;rw [hg] at hy;rw [hh] at hz;rw [hf,hg,hh];clear hf hg hh;have hx':a.tmps[s]?.getD undef=_:=(by simp [Act.eval]:a.tmps[s]?.getD undef=a.eval (.tmp s)).trans hx;have hy':a.tmps[t]?.getD undef=_:=(by simp [Act.eval]:a.tmps[t]?.getD undef=a.eval (.tmp t)).trans hy;have hz':a.tmps[u]?.getD undef=_:=(by simp [Act.eval]:a.tmps[u]?.getD undef=a.eval (.tmp u)).trans hz
 go_simp
set_option maxRecDepth 100000 in
set_option maxHeartbeats 4000000 in
theorem m_Find (l:Ld) (w:World):Calls Tryz.prog 42 #[.agg #[.int .i64 l.kilos,.int .i64 l.x,.int .i64 l.y,.int .i64 l.z]] w (CtrPost w (findF l)):=by
 have HM0:=Lib.hid ((Mem.nil w).alloc2 48 l.cells 111 ctr0.cells);have HR:=Lib.hid (fun w1=>m_Right l w1);obtain⟨r,hr⟩:∃ r,r=findF l:=⟨_,rfl⟩
 rw [<- hr]
 cases hok:ldOk l with
 | false =>
  rw [hok] at HR;have HE:Hid (r=(ctr0,2)):=by unfold Hid findF at *; rw [hr,if_neg (by rw [hok]; simp)]
  clear hr hok;obtain⟨k,x,y,z⟩:=l
  go_enter Tryz.func42,Tryz.ntmps42
  go_wp2_with (first
   | (go_at_call 74; go_loud (refine (HR.out _).mono ?_); rintro e w1 ⟨rfl,hb⟩; have HM1:=Lib.hid (HM0.out.call hb); clear hb)
   | ((with_reducible refine g_st 111 ?_); go_loud (refine wpList_stB (cs':=ctr0.cells) rfl _ _ rfl HM1.out 0 rfl rfl rfl Ctr.size rfl (Ctr.len _) (Ctr.len _) (Ctr.one _) ?_); intro w6 h6))
  refine bodyPost_ret (results_box2 rfl _ rfl (h6.ldb Ctr.row (Ctr.len _) (i:=0) rfl _ (Below.refl _ _))) rfl ⟨?_,h6.from_⟩;rw [HE.out];rfl
 | true =>
  rw [hok] at HR;have hnum:=ldOk_nums hok;by_cases hk0:l.kilos=0
  . have HE:Hid (r=(ctr0,6)):=by unfold Hid findF at *; rw [hr,if_pos hok,if_pos hk0]
    clear hr hok hnum;obtain⟨k,x,y,z⟩:=l;dsimp only at hk0;subst hk0
    go_enter Tryz.func42,Tryz.ntmps42
    go_wp2_with (first
     | ((with_reducible refine g_ld 3 ?_); refine wpList_ld rfl _ _ rfl _ rfl _ (HM1.out.ldc ct3 (i:=1) rfl rfl _ (Below.refl _ _)) ?_)
     | (go_at_call 74; go_loud (refine (HR.out _).mono ?_); rintro e w1 ⟨rfl,hb⟩; have HM1:=Lib.hid (HM0.out.call hb); clear hb)
     | ((with_reducible refine g_st 111 ?_); go_loud (refine wpList_stB (cs':=ctr0.cells) rfl _ _ rfl HM1.out 0 rfl rfl rfl Ctr.size rfl (Ctr.len _) (Ctr.len _) (Ctr.one _) ?_); intro w6 h6))
    refine bodyPost_ret (results_box2 rfl _ rfl (h6.ldb Ctr.row (Ctr.len _) (i:=0) rfl _ (Below.refl _ _))) rfl ⟨?_,h6.from_⟩;rw [HE.out];rfl
  . have HE:Hid (r=(⟨(ratioL l.x l.kilos).1,(ratioL l.y l.kilos).1,(ratioL l.z (2*l.kilos)).1⟩,0)):=by unfold Hid findF at *; rw [hr,if_pos hok,if_neg hk0]
    obtain⟨k,x,y,z⟩:=l;dsimp only at hnum hk0 HE;have e1:IntKind.i64.wrap (2*k)=2*k:=wrap_i64 (by omega) (by omega);have hke:(k==0)=false:=by simp; omega
    have HX:=Lib.hid (fun w1=>frac_Ratio x k (by omega) (by omega) (by omega) (by omega) w1);have HY:=Lib.hid (fun w1=>frac_Ratio y k (by omega) (by omega) (by omega) (by omega) w1);have HZ:=Lib.hid (fun w1=>frac_Ratio z (2*k) (by omega) (by omega) (by omega) (by omega) w1);generalize ratioL x k=rx at HX HE;generalize ratioL y k=ry at HY HE;generalize ratioL z (2*k)=rz at HZ HE;clear hr hok hnum
    go_enter Tryz.func42,Tryz.ntmps42
    go_wp2_with (first
     | ((with_reducible refine g_ld 3 ?_); refine wpList_ld rfl _ _ rfl _ rfl _ (HM1.out.ldc ct3 (i:=1) rfl rfl _ (Below.refl _ _)) ?_)
     | ((with_reducible refine g_ld 3 ?_); refine wpList_ld rfl _ _ rfl _ rfl _ (HM3.out.ldc ct3 (i:=2) rfl rfl _ (Below.refl _ _)) ?_)
     | ((with_reducible refine g_ld 3 ?_); refine wpList_ld rfl _ _ rfl _ rfl _ (HM5.out.ldc ct3 (i:=3) rfl rfl _ (Below.refl _ _)) ?_)
     | (go_at_call 74; go_loud (refine (HR.out _).mono ?_); rintro e w1 ⟨rfl,hb⟩; have HM1:=Lib.hid (HM0.out.call hb); clear hb)
     | (go_at_call 65; refine (HX.out _).mono ?_; rintro e w2 ⟨rfl,hb⟩; have HM2:=Lib.hid ((HM1.out.call hb).alloc 66 zeroF.cells); clear hb HX)
     | ((with_reducible refine g_st 66 ?_); refine wpList_stB (cs':=FracV.cells rx.1) rfl _ _ rfl HM2.out 0 rfl rfl rfl frac_size rfl (FracV.cells_len _) (FracV.cells_len _) (FracV.ones _) ?_; intro w3 h3; have HM3:=Lib.hid h3; clear h3 HM1 HM2)
     | (go_at_call 65; refine (HY.out _).mono ?_; rintro e w4 ⟨rfl,hb⟩; have HM4:=Lib.hid ((HM3.out.call hb).alloc 66 zeroF.cells); clear hb HY)
     | ((with_reducible refine g_st 66 ?_); refine wpList_stB (cs':=FracV.cells ry.1) rfl _ _ rfl HM4.out 0 rfl rfl rfl frac_size rfl (FracV.cells_len _) (FracV.cells_len _) (FracV.ones _) ?_; intro w5 h5; have HM5:=Lib.hid h5; clear h5 HM4 HM3)
     | (go_at_call 65; go_loud (refine (HZ.out _).mono ?_); rintro e w6 ⟨rfl,hb⟩; have HM6:=Lib.hid ((HM5.out.call hb).alloc 66 zeroF.cells); clear hb HZ)
     | ((with_reducible refine g_st 66 ?_); refine wpList_stB (cs':=FracV.cells rz.1) rfl _ _ rfl HM6.out 0 rfl rfl rfl frac_size rfl (FracV.cells_len _) (FracV.cells_len _) (FracV.ones _) ?_; intro w7 h7; have HM7:=Lib.hid h7; clear h7 HM6 HM5)
     | ((with_reducible refine g_ld 66 ?_); refine wpList_ld rfl _ _ rfl _ rfl _ (HM7.out.ldb frac_row (FracV.cells_len _) (i:=2) rfl _ (Below.refl _ _)) ?_)
     | ((with_reducible refine g_ld 66 ?_); refine wpList_ld rfl _ _ rfl _ rfl _ (HM7.out.ldb frac_row (FracV.cells_len _) (i:=1) rfl _ (Below.refl _ _)) ?_)
     | ((with_reducible refine g_ld 66 ?_); go_loud (refine wpList_ld rfl _ _ rfl _ rfl _ (HM7.out.ldb frac_row (FracV.cells_len _) (i:=0) rfl _ (Below.refl _ _)) ?_))
     | ((with_reducible refine g_bld 111 ?_); go_loud (refine wpList_val rfl _ (build_ctr rx.1 ry.1 rz.1 _ rfl rfl rfl) ?_))
     | ((with_reducible refine g_st 111 ?_); go_loud (refine wpList_stB (cs':=Ctr.cells ⟨rx.1,ry.1,rz.1⟩) rfl _ _ rfl HM7.out 3 rfl rfl rfl Ctr.size rfl (Ctr.len _) (Ctr.len _) (Ctr.one _) ?_); intro w8 h8))
    refine bodyPost_ret (results_box2 rfl _ rfl (h8.ldb Ctr.row (Ctr.len _) (i:=3) rfl _ (Below.refl _ _))) rfl ⟨?_,h8.from_⟩;rw [HE.out];rfl
section
variable {w w':World} {ρ:Nat->Option Rl} {base:Nat} {ro:Nat->Prop} {v:Value}
theorem avr_ld (b:Unit->Ld):AVR w ρ base ro (.agg (ldL b)) (b ()).val:=avr_aggF (l:=ldL b) rfl
theorem AVR.stos {fr:Bool} {l:Unit->List Stowed} (h:AVR w ρ base ro (.sl fr .stowed l) v):∃ A c,v = .slice A (l ()).length c/\(l ()).length<=c/\Rd w w.heap.size 4 A ((l ()).map Stowed.cells):=AVR.slF (t := .stowed) (l:=l) Stowed.cells (fun _=>rfl) (fun _=>rfl) h
theorem AVR.lds {fr:Bool} {l:Unit->List Ld} (h:AVR w ρ base ro (.sl fr .ld l) v):∃ A c,v = .slice A (l ()).length c/\(l ()).length<=c/\Rd w w.heap.size 4 A ((l ()).map Ld.cells):=AVR.slF (t := .ld) (l:=l) Ld.cells (fun _=>rfl) (fun _=>rfl) h
theorem AVR.u8s {fr:Bool} {l:Unit->List Int} (h:AVR w ρ base ro (.sl fr .u8 l) v):∃ A c,v = .slice A (l ()).length c/\(l ()).length<=c/\Rd w w.heap.size 1 A ((l ()).map u8Row):=AVR.slF (t := .u8) (l:=l) u8Row (fun _=>rfl) (fun _=>rfl) h
end
def conBoxRight:Con:=con1 203 kBox (fun b=>(b ()).num.size<=140737488351232) (fun b => .bool fun _=>boxB (b ()))
theorem conBoxRight_ok:ConOk Tryz.prog conBoxRight:=by
 refine oldOk Tryz.func203 (by kernel_rfl) fun avs res h w ra vals hE hp => ?_;obtain⟨(b:Box),rfl,rfl⟩:=gop1 h;clear h;obtain⟨v0,us0,rfl,hv0,h0⟩:=hE.head;obtain rfl:=h0.none;obtain rfl:=hv0.aggF rfl;exact (box_right b w hp).mono fun e w' ⟨k1,k2⟩=>⟨_,k1,k2,.bool _⟩
def conHasU8:Con:=con2 233 kU8s kU8 (fun l _=>(l ()).length<=1000000000000) (fun l x => .bool fun _=>(l ()).any fun y=>decide (x ()=y))
theorem conHasU8_ok:ConOk Tryz.prog conHasU8:=by
 refine oldOk Tryz.func233 (by kernel_rfl) fun avs res h w ra vals hE hp => ?_;obtain⟨(l:List Int),(x:Int),rfl,rfl⟩:=gop2 h;clear h;obtain⟨v0,us0,rfl,hv0,h0⟩:=hE.head;obtain⟨v1,us1,rfl,hv1,h1⟩:=h0.head;obtain rfl:=h1.none;obtain⟨A0,q0,rfl,hc0,hr0⟩:=hv0.u8s;obtain rfl:=hv1.int_;exact (containsU8 A0 q0 l _ rfl x w hr0 hp).mono fun e w' ⟨k1,k2⟩=>⟨_,k1,by rw [k2]; exact Below.refl _ _,.bool _⟩
def conMPoint:Con:=con4 45 kI kI kI kI (fun _ _ _ _=>True) (fun a b c d => .tup [.agg (ldL fun _=>(pointF (a ()) (b ()) (c ()) (d ())).1),.int .i64 fun _=>(pointF (a ()) (b ()) (c ()) (d ())).2])
theorem conMPoint_ok:ConOk Tryz.prog conMPoint:=by
 refine oldOk Tryz.func45 (by kernel_rfl) fun avs res h w ra vals hE hp => ?_;obtain⟨(a:Int),(b:Int),(c:Int),(d:Int),rfl,rfl⟩:=gop4 h;clear h;obtain⟨v0,us0,rfl,hv0,h0⟩:=hE.head;obtain⟨v1,us1,rfl,hv1,h1⟩:=h0.head;obtain⟨v2,us2,rfl,hv2,h2⟩:=h1.head;obtain⟨v3,us3,rfl,hv3,h3⟩:=h2.head;obtain rfl:=h3.none;obtain rfl:=hv0.int_;obtain rfl:=hv1.int_;obtain rfl:=hv2.int_;obtain rfl:=hv3.int_;exact (m_Point a b c d w).mono fun e w' ⟨k1,k2⟩=>⟨_,k1,k2,avr_tup2 (avr_ld _) (.int _ _)⟩
def conMAdd:Con:=con1 27 kLds (fun l=>(l ()).length<=1000000) (fun l => .tup [.agg (ldL fun _=>(addF (l ())).1),.int .i64 fun _=>(addF (l ())).2])
theorem conMAdd_ok:ConOk Tryz.prog conMAdd:=by
 refine oldOk Tryz.func27 (by kernel_rfl) fun avs res h w ra vals hE hp => ?_;obtain⟨(l:List Ld),rfl,rfl⟩:=gop1 h;clear h;obtain⟨v0,us0,rfl,hv0,h0⟩:=hE.head;obtain rfl:=h0.none;obtain⟨A0,q0,rfl,hc0,hr0⟩:=hv0.lds;exact (m_Add A0 q0 _ l rfl w hr0 hp).mono fun e w' ⟨k1,k2⟩=>⟨_,k1,k2,avr_tup2 (avr_ld _) (.int _ _)⟩
theorem take_getD {α:Type} {l:List α} {k:Nat} (d : α) (h:k<l.length):l.take (k+1)=l.take k ++ [l.getD k d]:=by
 rw [List.take_succ_eq_append_getElem h,List.getD_eq_getElem?_getD,List.getElem?_eq_getElem h,Option.getD_some]
theorem getD_mem {α:Type} {l:List α} {k:Nat} (d : α) (h:k<l.length):l.getD k d∈l:=by
 rw [List.getD_eq_getElem?_getD,List.getElem?_eq_getElem h,Option.getD_some];exact List.getElem_mem h
theorem all_bad {α:Type} {p : α->Bool} {l:List α} {k:Nat} {d : α} (hk:k<l.length) (h:p (l.getD k d)=false):l.all p=false:=by
 rw [List.all_eq_false];exact⟨_,getD_mem d hk,by rw [h]; simp⟩
theorem all_more {α:Type} {p : α->Bool} {l:List α} {k:Nat} {d : α} (h0:(l.take k).all p=true) (hk:k<l.length) (h:p (l.getD k d)=true):(l.take (k+1)).all p=true:=by
 rw [take_getD d hk,List.all_append,h0];simp [h,-List.getD_eq_getElem?_getD]
theorem all_end {α:Type} {p : α->Bool} {l:List α} {k:Nat} (h0:(l.take k).all p=true) (hk:l.length<=k):l.all p=true:=by rwa [List.take_of_length_le hk] at h0
def conHalves:Con:=con1 230 kU8 (fun _=>True) (fun s => .sl true .u8 fun _=>halvesF (s ()))
set_option maxRecDepth 100000 in
set_option maxHeartbeats 4000000 in
theorem conHalves_ok:ConOk Tryz.prog conHalves:=by
 refine fnOk [] trivial Tryz.func230 (by kernel_rfl) fun avs res h hp => ?_;obtain⟨(s:Int),rfl,rfl⟩:=gop1 h;clear h;refine⟨[],?_⟩
 conv=>arg 1; cbv
 simp (maxSteps:=4000000) only [fms];unfold halvesF;grind
def conTaken:Con:=con1 194 kStos (fun l=>(l ()).length<=1000000) (fun l => .sl true .slot fun _=>(l ()).map slotOf)
def lpTaken (l:List Stowed):Lp where
 X:=Nat
 ov k := [(8,.int .i64 fun _=>(k:Int)),(3,.own 0)]
 oe k := [(0,.row true .slot 40 fun _=>(l.take k).map slotOf)]
 I k:=k<=l.length
 μ k _:=l.length - k
 x0:=0
 nx:=some fun k=>k+1
set_option maxRecDepth 100000 in
set_option maxHeartbeats 4000000 in
theorem conTaken_ok:ConOk Tryz.prog conTaken:=by
 refine fnOk [] trivial Tryz.func194 (by kernel_rfl) fun avs res h hp => ?_;obtain⟨(l:List Stowed),rfl,rfl⟩:=gop1 h;clear h;have hl:l.length<=1000000:=hp;refine⟨[(3,lpTaken l)],?_⟩
 conv=>arg 1; cbv
 refine⟨?_,fun (k:Nat) hk => ?_⟩
 . simp (maxSteps:=4000000) only [fms];exact⟨Nat.zero_le _,rfl,rfl⟩
 . conv=>arg 1; cbv
   have hk':k<=l.length:=hk;simp (maxSteps:=4000000) only [fms];refine⟨fun h => ?_,fun h=>by rw [List.take_of_length_le (by omega)]⟩;have h2:k<l.length:=by omega
   refine⟨by omega,by simp; omega,⟨by omega,by omega⟩,⟨by omega,by omega⟩,by omega,?_⟩;rw [take_getD Tc.stowed.dflt h2,List.map_append];rfl
def fitsB (cs:List Col) (bs:List Box) (l:List Stowed) (c:Int):Bool:=decide ((cs.getD c.toNat Tc.col.dflt).height<=0)||(decide (heightF bs l c 1<=(cs.getD c.toNat Tc.col.dflt).height)&&decide (heightF bs l c 2<=(cs.getD c.toNat Tc.col.dflt).height))
def conFits:Con:=con4 199 kShip kBoxes kStos kI (fun s bs l c=>(bs ()).length<=1000000000000/\(l ()).length<=1000000/\0<=c ()/\c ()<((s ()).cols.length:Int)) (fun s bs l c => .bool fun _=>fitsB (s ()).cols (bs ()) (l ()) (c ()))
set_option maxRecDepth 100000 in
set_option maxHeartbeats 4000000 in
theorem conFits_ok:ConOk Tryz.prog conFits:=by
 refine fnOk [conStowHeight] ⟨conStowHeight_ok,trivial⟩ Tryz.func199 (by kernel_rfl) fun avs res h hp => ?_;obtain⟨(s:Shp),(bs:List Box),(l:List Stowed),(c:Int),rfl,rfl⟩:=gop4 h;clear h;have hZh1:bs.length<=1000000000000/\l.length<=1000000/\0<=c/\c<(s.cols.length:Int):=hp;have h1:=hZh1.1;have h2:=hZh1.2.1;have h3:=hZh1.2.2.1;have h4:=hZh1.2.2.2;refine⟨[],?_⟩
 conv=>arg 1; cbv
 simp (maxSteps:=4000000) only [fms];unfold fitsB;generalize s.cols.getD c.toNat Tc.col.dflt=x at *
 grind
def slotOk (cs:List Col) (x:Slot) (size:Int):Bool:=decide (0<=x.col)&&(decide (x.col<(cs.length:Int))&&(decide (0<=x.tier)&&(decide (x.tier<(cs.getD x.col.toNat Tc.col.dflt).tiers)&&(halvesF size).any fun y=>decide (x.half=y))))
theorem halvesF_len (s:Int):(halvesF s).length<=2:=by unfold halvesF; split<;>(try split)<;>simp
def conSlotRight:Con:=con3 196 kShip kSlo kU8 (fun _ _ _=>True) (fun s x z => .bool fun _=>slotOk (s ()).cols (x ()) (z ()))
set_option maxRecDepth 100000 in
set_option maxHeartbeats 4000000 in
theorem conSlotRight_ok:ConOk Tryz.prog conSlotRight:=by
 refine fnOk [conHalves,conHasU8] ⟨conHalves_ok,conHasU8_ok,trivial⟩ Tryz.func196 (by kernel_rfl) fun avs res h hp => ?_;obtain⟨(s:Shp),(x:Slot),(z:Int),rfl,rfl⟩:=gop3 h;clear h;refine⟨[],?_⟩;have hh:=halvesF_len z
 conv=>arg 1; cbv
 simp (maxSteps:=4000000) only [fms];unfold slotOk;generalize s.cols.getD x.col.toNat Tc.col.dflt=c at *
 generalize halvesF z=hs at *
 grind
def spnB (x:Spn):Bool:=decide (x.low<=x.n)&&decide (x.n<=x.high)
def conSpans:Con:=con1 265 kSpns (fun l=>(l ()).length<=1000000000000) (fun l => .bool fun _=>(l ()).all spnB)
def lpSpans (l:List Spn):Lp where
 X:=Nat
 ov k := [(7,.int .i64 fun _=>(k:Int))]
 oe _ := []
 I k:=k<=l.length/\(l.take k).all spnB=true
 μ k _:=l.length - k
 x0:=0
 nx:=some fun k=>k+1
set_option maxRecDepth 100000 in
set_option maxHeartbeats 4000000 in
theorem conSpans_ok:ConOk Tryz.prog conSpans:=by
 refine fnOk [] trivial Tryz.func265 (by kernel_rfl) fun avs res h hp => ?_;obtain⟨(l:List Spn),rfl,rfl⟩:=gop1 h;clear h;have hl:l.length<=1000000000000:=hp;refine⟨[(2,lpSpans l)],?_⟩
 conv=>arg 1; cbv
 refine⟨?_,fun (k:Nat) hk => ?_⟩
 . simp (maxSteps:=4000000) only [fms];simp
 . conv=>arg 1; cbv
   have hZhk1:k<=l.length/\(l.take k).all spnB=true:=hk;have hk1:=hZhk1.1;have hk2:=hZhk1.2;simp (maxSteps:=4000000) only [fms];refine⟨fun h => ?_,fun h=>(all_end hk2 (by omega)).symm⟩;have h2:k<l.length:=by omega
   have ha:=all_bad (p:=spnB) (d:=Tc.spn.dflt) h2;have hb:=all_more (d:=Tc.spn.dflt) hk2 h2;generalize l.getD k Tc.spn.dflt=x at *
   unfold spnB at *
   simp only [inI64];grind
def lpUp {α:Type} (s:Nat) (l:List α) (P:Nat->Prop):Lp where
 X:=Nat
 ov k := [(s,.int .i64 fun _=>(k:Int))]
 oe _ := []
 I k:=k<=l.length/\∀ j,j<k->P j
 μ k _:=l.length - k
 x0:=0
 nx:=some fun k=>k+1
theorem up_next {n k:Nat} {P:Nat->Prop} (hn:n<=1000000000000) (hk:k<n) (h2:∀ j,j<k->P j) (h:P k):inI64 ((k:Int)+1)/\((k+1<=n/\∀ j,j<k+1->P j)/\n - (k+1)<n - k)/\(k:Int)+1=((k+1:Nat):Int):=⟨by simp only [inI64]; omega,⟨⟨hk,upto_more h2 h⟩,by omega⟩,by omega⟩
theorem any_at {α:Type} {p : α->Bool} {l:List α} {k:Nat} {d : α} (hk:k<l.length) (h:p (l.getD k d)=true):l.any p=true:=by
 rw [List.any_eq_true];exact⟨_,getD_mem d hk,h⟩
theorem any_no {α:Type} {p : α->Bool} {l:List α} {k:Nat} {d : α} (h0:∀ j,j<k->¬ p (l.getD j d)=true) (hk:l.length<=k):l.any p=false:=by
 rw [List.any_eq_false];intro x hx;obtain⟨j,hj⟩:=List.mem_iff_getElem?.1 hx;obtain⟨hlt,he⟩:=List.getElem?_eq_some_iff.1 hj;have:=h0 j (by omega);rw [List.getD_eq_getElem?_getD,hj] at this;simpa using this
def conRCommon:Con:=con2 259 kU8 kU8 (fun _ _=>True) (fun a b => .bool fun _=>sharesB (a ()) (b ()))
set_option maxRecDepth 100000 in
set_option maxHeartbeats 4000000 in
theorem conRCommon_ok:ConOk Tryz.prog conRCommon:=by
 refine fnOk [] trivial Tryz.func259 (by kernel_rfl) fun avs res h hp => ?_;obtain⟨(a:Int),(b:Int),rfl,rfl⟩:=gop2 h;clear h;refine⟨[],?_⟩
 conv=>arg 1; cbv
 simp (maxSteps:=4000000) only [fms,true_and,and_true,eq_self];exact⟨fun h=>by simp [sharesB,h],fun h=>⟨fun h0=>by simp [sharesB,h0],fun h0=>by simp [sharesB,h,h0]⟩⟩
def conRMeet:Con:=con2 216 kSlo kSlo (fun _ _=>True) (fun x y => .bool fun _=>meetB (x ()) (y ()))
set_option maxRecDepth 100000 in
set_option maxHeartbeats 4000000 in
theorem conRMeet_ok:ConOk Tryz.prog conRMeet:=by
 refine fnOk [conRCommon] ⟨conRCommon_ok,trivial⟩ Tryz.func216 (by kernel_rfl) fun avs res h hp => ?_;obtain⟨(x:Slot),(y:Slot),rfl,rfl⟩:=gop2 h;clear h;refine⟨[],?_⟩
 conv=>arg 1; cbv
 simp (maxSteps:=4000000) only [fms,true_and,and_true,eq_self];exact⟨fun h1=>⟨fun h2=>by simp [meetB,h1,h2],fun h2=>by simp [meetB,h2]⟩,fun h1=>by simp [meetB,h1]⟩
def conRHas:Con:=con3 258 kSlos kSlo kU8 (fun l x _=>(l ()).length<=1000000000000/\inI64 ((x ()).tier - 1)) (fun l x h => .bool fun _=>belowB (x ()) (l ()) (h ()))
set_option maxRecDepth 100000 in
set_option maxHeartbeats 4000000 in
theorem conRHas_ok:ConOk Tryz.prog conRHas:=by
 refine fnOk [] trivial Tryz.func258 (by kernel_rfl) fun avs res h hp => ?_;obtain⟨(l:List Slot),(x:Slot),(h:Int),rfl,rfl⟩:=gop3 h;clear h;have hZhl:l.length<=1000000000000/\inI64 (x.tier - 1):=hp;have hl:=hZhl.1;have hx:=hZhl.2;refine⟨[(2,lpUp 7 l fun j=>¬ (⟨x.col,x.tier - 1,h⟩:Slot)=l.getD j Tc.slot.dflt)],?_⟩
 conv=>arg 1; cbv
 refine⟨?_,fun (k:Nat) hk => ?_⟩
 . simp (maxSteps:=4000000) only [fms];simp
 have hZhk1:k<=l.length/\∀ j,j<k->¬ (⟨x.col,x.tier - 1,h⟩:Slot)=l.getD j Tc.slot.dflt:=hk;have hk1:=hZhk1.1;have hk2:=hZhk1.2
 conv=>arg 1; cbv
 simp (maxSteps:=4000000) only [fms,true_and,and_true,eq_self];refine⟨fun g => ?_,fun g=>(any_no (p:=fun y=>decide ((⟨x.col,x.tier - 1,h⟩:Slot)=y)) (fun j hj=>by simpa using hk2 j hj) (by omega)).symm⟩;have hlt:k<l.length:=by omega
 have hN:=up_next hl hlt hk2;refine⟨⟨by omega,by omega⟩,fun c=>⟨⟨by omega,by omega⟩,hx,fun t=>⟨⟨by omega,by omega⟩,fun e=>(any_at (p:=fun y=>decide ((⟨x.col,x.tier - 1,h⟩:Slot)=y)) (d:=Tc.slot.dflt) hlt ?_).symm,fun e=>hN fun q=>e (by rw [<- q])⟩,fun t=>hN fun q=>t (by rw [<- q])⟩,fun c=>hN fun q=>c (by rw [<- q])⟩;generalize l.getD k Tc.slot.dflt=y at c t e;obtain⟨a,b,z⟩:=y;simp only at c t e;subst c;subst e;simp [t]
def conRHeld:Con:=con2 214 kSlo kSlos (fun x l=>(l ()).length<=1000000000000/\(x ()).tier<=1000000) (fun x l => .bool fun _=>heldB (x ()) (l ()))
set_option maxRecDepth 100000 in
set_option maxHeartbeats 4000000 in
theorem conRHeld_ok:ConOk Tryz.prog conRHeld:=by
 refine fnOk [conRHas] ⟨conRHas_ok,trivial⟩ Tryz.func214 (by kernel_rfl) fun avs res h hp => ?_;obtain⟨(x:Slot),(l:List Slot),rfl,rfl⟩:=gop2 h;clear h;have hZhl:l.length<=1000000000000/\x.tier<=1000000:=hp;have hl:=hZhl.1;have ht:=hZhl.2;refine⟨[],?_⟩
 conv=>arg 1; cbv
 simp (maxSteps:=4000000) only [fms,true_and,and_true,eq_self];have ex:(⟨x.col,x.tier,x.half⟩:Slot)=x:=rfl;simp only [ex];refine⟨fun h=>by unfold heldB; rw [if_pos h],fun h => ?_⟩;have e:heldB x l=(belowB x l x.half||(decide (x.half=0)&&(belowB x l 1&&belowB x l 2))):=if_neg h;have hi:inI64 (x.tier - 1):=by simp only [inI64]; omega
 rw [e];refine⟨fun h0=>⟨⟨hl,hi⟩,fun h1=>by simp [h0,h1],fun h1=>⟨⟨hl,hi⟩,fun h2=>⟨⟨hl,hi⟩,by simp [h0,h1,h2]⟩,fun h2=>by simp [h0,h1,h2]⟩⟩,fun h0=>⟨⟨hl,hi⟩,by simp [h0]⟩⟩
def conRSlot:Con:=con3 213 kShip kSlo kI (fun _ _ _=>True) (fun s x z => .bool fun _=>slotOk (s ()).cols (x ()) (z ()))
set_option maxRecDepth 100000 in
set_option maxHeartbeats 4000000 in
theorem conRSlot_ok:ConOk Tryz.prog conRSlot:=by
 refine fnOk [] trivial Tryz.func213 (by kernel_rfl) fun avs res h hp => ?_;obtain⟨(s:Shp),(x:Slot),(z:Int),rfl,rfl⟩:=gop3 h;clear h;refine⟨[],?_⟩
 conv=>arg 1; cbv
 simp (maxSteps:=4000000) only [fms,true_and,and_true,eq_self];have e:∀ b1 b2 b3 b4 b5:Bool,decide (0<=x.col)=b1->decide (x.col<(s.cols.length:Int))=b2->decide (0<=x.tier)=b3->decide (x.tier<(s.cols.getD x.col.toNat Tc.col.dflt).tiers)=b4->((halvesF z).any fun y=>decide (x.half=y))=b5->slotOk s.cols x z=(b1&&(b2&&(b3&&(b4&&b5)))):=fun b1 b2 b3 b4 b5 h1 h2 h3 h4 h5=>by unfold slotOk; rw [h1,h2,h3,h4,h5]
 refine⟨fun a=>by rw [e _ _ _ _ _ (decide_eq_false (by omega)) rfl rfl rfl rfl]; rfl,fun a => ?_⟩;have a:=decide_eq_true (show 0<=x.col by omega);refine⟨fun b=>by rw [e _ _ _ _ _ a (decide_eq_false (by omega)) rfl rfl rfl]; rfl,fun b => ?_⟩;have b:=decide_eq_true (show x.col<(s.cols.length:Int) by omega);refine⟨fun c=>by rw [e _ _ _ _ _ a b (decide_eq_false (by omega)) rfl rfl]; rfl,fun c=>⟨⟨by omega,by omega⟩,fun d => ?_,fun d => ?_⟩⟩
 . rw [e _ _ _ _ _ a b rfl (decide_eq_false (by omega)) rfl,Bool.false_and,Bool.and_false]; rfl
 rw [e _ _ _ _ _ a b (decide_eq_true (by omega)) (decide_eq_true (by omega)) rfl];unfold halvesF;refine⟨fun z4=>⟨fun h0=>by simp [z4,h0],fun h0=>⟨fun z2=>by omega,fun z2=>by simp [z4,h0]⟩⟩,fun z4=>⟨fun z2=>⟨fun h1=>by simp [z2,h1],fun h1=>by simp [z2,h1]⟩,fun z2=>by simp [z2,z4]⟩⟩
def conBoxValid:Con:=con1 134 kBoxes (fun l=>(l ()).length<=1000000000000/\∀ b∈l (),b.num.size<=140737488351232) (fun l => .tup [.int .i64 fun _=>(boxValid (l ())).1,.int .i64 fun _=>(boxValid (l ())).2])
def seenM (l:List Box):Nat->List Kx->Option Int
 | 0=>fun _=>none
 | k+1=>cond (decide (((l.getD k Tc.box.dflt).num)=noText)) (seenM l k) (setM (seenM l k) [.s (l.getD k Tc.box.dflt).num] (k:Int))
def lpV (l:List Box):Lp where
 X:=Nat
 ov k := [(16,.int .i64 fun _=>(k:Int)),(5,.int .i64 fun _=>lastId l k)]
 oe k := [(0,.map true false (.one .str) .int 294 fun _=>seenM l k)]
 I k:=k<=l.length/\∀ j,j<k->boxBad l j=false
 μ k _:=l.length - k
 x0:=0
 nx:=some fun k=>k+1
theorem seenM_seenN (l:List Box) (s:ByteArray):∀ k,k<=l.length->(seenM l k [.s s]).isSome=seenN l k s
 | 0,_=>by rw [seenN_zero]; rfl
 | k+1,hk=>by
  have ih:=seenM_seenN l s k (by omega);have hnn:noNum=noText:=rfl;rw [seenN_succ l k s (by omega),<- ih,hnn];have e:l.getD k Tc.box.dflt=l[k]:=by simp [List.getD_eq_getElem?_getD,List.getElem?_eq_getElem (show k<l.length by omega)]
  have hu:seenM l (k+1)=cond (decide ((l.getD k Tc.box.dflt).num=noText)) (seenM l k) (setM (seenM l k) [.s (l.getD k Tc.box.dflt).num] (k:Int)):=rfl;rw [hu,e];by_cases hn:l[k].num=noText
  . simp only [hn,decide_true,cond_true,Bool.not_true,Bool.false_and,Bool.or_false]
  . simp only [hn,decide_false,cond_false,Bool.not_false,Bool.true_and];unfold setM;by_cases hs:l[k].num=s
    . simp only [hs,if_true,Option.isSome_some,decide_true,Bool.or_true]
    . have:¬ [Kx.s s] = [Kx.s l[k].num]:=by simpa using fun e=>hs e.symm
      simp only [hs,this,if_false,decide_false,Bool.or_false]
set_option maxRecDepth 100000 in
set_option maxHeartbeats 4000000 in
theorem conBoxValid_ok:ConOk Tryz.prog conBoxValid:=by
 refine fnOk [conBoxRight] ⟨conBoxRight_ok,trivial⟩ Tryz.func134 (by kernel_rfl) fun avs res h hp => ?_;obtain⟨(l:List Box),rfl,rfl⟩:=gop1 h;clear h;have hZhp1:l.length<=1000000000000/\∀ b∈l,b.num.size<=140737488351232:=hp;have hp1:=hZhp1.1;have hp2:=hZhp1.2;refine⟨[(5,lpV l)],?_⟩
 conv=>arg 1; cbv
 refine⟨fun h1 => ?_,fun h1=>⟨?_,fun (k:Nat) hk => ?_⟩⟩
 . simp only [decide_eq_true_eq,castK] at h1;have h2:boxValid l=(-1,5):=by unfold boxValid; rw [if_pos (by omega)]
   simp only [P_fin,V_cons,V_one,h2,and_self]
 . refine⟨⟨Nat.zero_le _,fun j hj=>absurd hj (Nat.not_lt_zero j)⟩,?_⟩;simp only [P_fin,V_cons,V_one,T_self];exact⟨rfl,(lastId_zero l).symm,rfl⟩
 . conv=>arg 1; cbv
   have hZhk1:k<=l.length/\∀ j,j<k->boxBad l j=false:=hk;have hk1:=hZhk1.1;have hk2:=hZhk1.2;have h5:l.length<=2000:=by simp only [decide_eq_false_iff_not,castK] at h1; omega
   simp only [P_vc,P_br,P_fin,V_one,V_cons,T_self,castK,succK,Int.toNat_natCast,decide_eq_true_eq,decide_eq_false_iff_not,seenM_seenN l _ k hk1];refine⟨fun h2=>⟨by omega,?_⟩,fun h2 => ?_⟩
   . have hlt:k<l.length:=by omega
     have e:l.getD k Tc.box.dflt=l[k]:=by simp [List.getD_eq_getElem?_getD,List.getElem?_eq_getElem hlt]
     have hbad:boxBad l k=(seenN l k l[k].num||decide (l[k].id<=lastId l k) || !boxB l[k]):=by unfold boxBad; rw [List.getElem?_eq_getElem hlt]
     simp only [e];have hf:boxBad l k=true->(k:Int)=(boxValid l).1/\60=(boxValid l).2:=fun h=>by rw [boxValid_found h5 hlt hk2 h]; exact⟨rfl,rfl⟩
     refine⟨fun h3=>hf (by rw [hbad,h3]; rfl),fun h3=>⟨fun h4=>hf (by rw [hbad,h3]; simp [h4]),fun h4=>⟨hp2 _ (List.getElem_mem hlt),fun h6=>hf ?_,fun h6 => ?_⟩⟩⟩
     . rw [hbad];have h6':(!boxB l[k])=true:=h6;rw [h6'];simp
     . have h6':(!boxB l[k])=false:=h6;have hgood:boxBad l k=false:=by rw [hbad,h3,h6']; simp [h4]
       have hI:k+1<=l.length/\∀ j,j<k+1->boxBad l j=false:=⟨hlt,fun j hj=>by
        rcases Nat.lt_or_ge j k with h|h
        . exact hk2 j h
        . rw [show j=k by omega]; exact hgood⟩
       have hM:seenM l (k+1)=cond (decide (l[k].num=noText)) (seenM l k) (setM (seenM l k) [.s l[k].num] (k:Int)):=by
        show cond _ _ _=_
        rw [e]
       have hrest:inI64 ((k:Int)+1)/\((k+1<=l.length/\∀ j,j<k+1->boxBad l j=false)/\l.length - (k+1)<l.length - k)/\(k:Int)+1=((k+1:Nat):Int)/\l[k].id=lastId l (k+1):=⟨⟨by omega,by omega⟩,⟨hI,by omega⟩,by omega,(lastId_succ l k hlt).symm⟩
       refine⟨fun h7=>⟨hrest.1,hrest.2.1,hrest.2.2.1,hrest.2.2.2,?_⟩,fun h7=>⟨hrest.1,hrest.2.1,hrest.2.2.1,hrest.2.2.2,?_⟩⟩
       . have h8:(!decide (l[k].num=noText))=true:=h7;have h7':decide (l[k].num=noText)=false:=by simpa using h8
         rw [hM,h7'];rfl
       . have h8:(!decide (l[k].num=noText))=false:=h7;have h7':decide (l[k].num=noText)=true:=by simpa using h8
         rw [hM,h7'];rfl
   . have:k=l.length:=by omega
     subst this;rw [boxValid_none h5 hk2];exact⟨rfl,rfl⟩
def conRNum:Con:=con1 254 kS (fun s=>(s ()).size<=140737488351232) (fun s => .bool fun _=>isoB (s ()))
theorem conRNum_ok:ConOk Tryz.prog conRNum:=by
 refine oldOk Tryz.func254 (by kernel_rfl) fun avs res h w ra vals hE hp => ?_;obtain⟨(s:ByteArray),rfl,rfl⟩:=gop1 h;clear h;obtain⟨v0,us0,rfl,hv0,h0⟩:=hE.head;obtain rfl:=h0.none;obtain rfl:=hv0.str_;exact (ref_number s w hp).mono fun e w' ⟨k1,k2⟩=>⟨_,k1,by rw [<- k2]; exact Below.refl _ _,.bool _⟩
theorem boxB_iff (b:Box):boxB b=true↔(1<=b.id/\b.id<=999999)/\(b.num=noText\/isoB b.num=true)/\(b.high=false\/b.size=40)/\((b.size=20/\b.kilos<=32000)\/(b.size=40/\b.kilos<=40000))/\1<=b.kilos/\((0<=b.load/\b.load<b.dis)/\b.dis<20)/\b.cls<=9:=by
 have hk:(1<=b.kilos/\b.kilos<=kMost b.size)↔((b.size=20/\b.kilos<=32000)\/(b.size=40/\b.kilos<=40000))/\1<=b.kilos:=by
  unfold kMost;split
  . omega
  . split<;>omega
 have e:boxB b=true↔(1<=b.id/\b.id<=999999)/\(b.num=noText\/isoB b.num=true)/\(b.high=false\/b.size=40)/\(1<=b.kilos/\b.kilos<=kMost b.size)/\((0<=b.load/\b.load<b.dis)/\b.dis<20)/\b.cls<=9:=by
  unfold boxB bRule bWithin;simp only [Bool.and_eq_true,Bool.or_eq_true,decide_eq_true_eq,Bool.not_eq_true',show noNum=noText from rfl];constructor
  . rintro⟨⟨⟨⟨⟨h1,h2⟩,h3⟩,h4⟩,h5⟩,h6⟩
    exact⟨h1,h2,h3,h4,h5,h6⟩
  . rintro⟨h1,h2,h3,h4,h5,h6⟩
    exact⟨⟨⟨⟨⟨h1,h2⟩,h3⟩,h4⟩,h5⟩,h6⟩
 rw [e,hk];constructor
 . rintro⟨h1,h2,h3,⟨h4,h4'⟩,h5,h6⟩
   exact⟨h1,h2,h3,h4,h4',h5,h6⟩
 . rintro⟨h1,h2,h3,h4,h4',h5,h6⟩
   exact⟨h1,h2,h3,⟨h4,h4'⟩,h5,h6⟩
def conRBox:Con:=con1 211 kBox (fun b=>(b ()).num.size<=140737488351232) (fun b => .bool fun _=>boxB (b ()))
set_option maxRecDepth 100000 in
set_option maxHeartbeats 4000000 in
theorem conRBox_ok:ConOk Tryz.prog conRBox:=by
 refine fnOk [conRNum] ⟨conRNum_ok,trivial⟩ Tryz.func211 (by kernel_rfl) fun avs res h hp => ?_;obtain⟨(b:Box),rfl,rfl⟩:=gop1 h;clear h;have hn:b.num.size<=140737488351232:=hp;refine⟨[],?_⟩
 conv=>arg 1; cbv
 simp (maxSteps:=4000000) only [fms,true_and,and_true,eq_self];have hI:=boxB_iff b;simp only [Bool.not_eq_true',Bool.not_eq_false',decide_eq_false_iff_not,decide_eq_true_eq,show ({ data := { toList := [] } }:ByteArray)=noText from rfl]
 cases hB:boxB b with
 | true =>
  obtain⟨h1,h2,h3,h4,h5,h6,h7⟩:=hI.1 hB
  (repeat' (first|apply And.intro|intro _))<;>first
   | exact hn
   | (exfalso; omega)
   | (exact decide_eq_true (by omega))
   | (exfalso; rcases h3 with h3|h3<;>simp_all)
   | (exfalso; rcases h2 with h2|h2<;>simp_all)
 | false =>
  have hN:¬ _:=fun q=>Bool.noConfusion (hB.symm.trans (hI.2 q))
  (repeat' (first|apply And.intro|intro _))<;>first
   | rfl
   | exact hn
   | (refine decide_eq_false fun hc=>hN ⟨by omega,?_,?_,by omega,by omega,by omega,by omega⟩
      . first|exact .inr (by assumption)|exact .inl (by assumption)
      . first|exact .inl (by assumption)|exact .inr (by omega))
def colSpans (c:Col):List Spn := [⟨c.bay,0,39⟩,⟨c.row,0,30⟩,⟨c.tiers,1,10⟩,⟨c.height,0,40000⟩,⟨c.k20,0,500000000⟩,⟨c.k40,0,500000000⟩,⟨c.lash,0,1000000000000⟩,⟨c.x,-500000,500000⟩,⟨c.y,-500000,500000⟩,⟨c.z,-500000,500000⟩]
def riseB (t:Int) (l:List Int) (i:Nat):Bool:=(decide (0<=l.getD i 0)&&decide (l.getD i 0<=t))&&(decide (i=0)||decide (l.getD (i - 1) 0<l.getD i 0))
def risesB (t:Int) (l:List Int):Bool:=decide (∀ i,i<l.length->riseB t l i=true)
def colB (c:Col):Bool:=risesB (c.tiers - 1) c.plugs&&(colSpans c).all spnB
theorem rises_bad {t:Int} {l:List Int} {k:Nat} (hk:k<l.length) (h:riseB t l k=false):risesB t l=false:=by
 unfold risesB;rw [decide_eq_false_iff_not];intro h2;rw [h2 k hk] at h;cases h
theorem rises_end {t:Int} {l:List Int} {k:Nat} (hk:l.length<=k) (h:∀ j,j<k->riseB t l j=true):risesB t l=true:=by
 unfold risesB;rw [decide_eq_true_eq];exact fun i hi=>h i (by omega)
def conColRight0:Con:=con1 231 kCol (fun c=>(c ()).plugs.length<=1000000000000/\inI64 ((c ()).tiers - 1)) (fun c => .bool fun _=>colB (c ()))
def lpPlugs (c:Col):Lp where
 X:=Nat
 ov k := [(9,.int .i64 fun _=>(k:Int))]
 oe _ := []
 I k:=k<=c.plugs.length/\∀ j,j<k->riseB (c.tiers - 1) c.plugs j=true
 μ k _:=c.plugs.length - k
 x0:=0
 nx:=some fun k=>k+1
set_option maxRecDepth 100000 in
set_option maxHeartbeats 4000000 in
theorem conColRight0_ok:ConOk Tryz.prog conColRight0:=by
 refine fnOk [conSpans] ⟨conSpans_ok,trivial⟩ Tryz.func231 (by kernel_rfl) fun avs res h hp => ?_;obtain⟨(c:Col),rfl,rfl⟩:=gop1 h;clear h;have hZh1:c.plugs.length<=1000000000000/\inI64 (c.tiers - 1):=hp;have h1:=hZh1.1;have h2:=hZh1.2;refine⟨[(3,lpPlugs c)],?_⟩
 conv=>arg 1; cbv
 refine⟨?_,fun (k:Nat) hk => ?_⟩
 . simp (maxSteps:=4000000) only [fms];simp
 . conv=>arg 1; cbv
   have hZhk1:k<=c.plugs.length/\∀ j,j<k->riseB (c.tiers - 1) c.plugs j=true:=hk;have hk1:=hZhk1.1;have hk2:=hZhk1.2;simp (maxSteps:=4000000) only [fms];refine⟨fun h => ?_,fun h => ?_⟩
   . have h3:k<c.plugs.length:=by omega
     have ha:=rises_bad (t:=c.tiers - 1) h3;have hb:=upto_more (k:=k) hk2;have hc:colB c=(risesB (c.tiers - 1) c.plugs&&(colSpans c).all spnB):=rfl;have he:riseB (c.tiers - 1) c.plugs k=((decide (0<=c.plugs.getD k Tc.int.dflt)&&decide (c.plugs.getD k Tc.int.dflt<=c.tiers - 1))&&(decide (k=0)||decide (c.plugs.getD (k - 1) Tc.int.dflt<c.plugs.getD k Tc.int.dflt))):=rfl;generalize c.plugs.getD k Tc.int.dflt=x at *
     generalize c.plugs.getD (k - 1) Tc.int.dflt=y at *
     rw [hc];clear hc hk2;generalize riseB (c.tiers - 1) c.plugs=R at *
     generalize (colSpans c).all spnB=z at *
     simp only [inI64,spnB,List.all_cons,List.all_nil,Bool.and_true,List.length_cons,List.length_nil] at *
     grind
   . have hc:colB c=(colSpans c).all spnB:=by unfold colB; rw [rises_end (by omega) hk2,Bool.true_and]
     rw [hc];exact⟨by simp,rfl⟩
def conColRightM:Con:=⟨231,[],fun
 | [.agg [.int .i64 a,.int .i64 b,.bool d,.lit .i64 n,.int .i64 h,.int .i64 i,.int .i64 j,.int .i64 k,.sl false .int l,.int .i64 x,.int .i64 y,.int .i64 z]]=>if n = -9223372036854775808 then some ⟨fun _=>(l ()).length<=1000000000000,.bool fun _=>false⟩ else none
 | _=>none⟩
def lpPlugsM (l:List Int):Lp where
 X:=Nat
 ov k := [(9,.int .i64 fun _=>(k:Int))]
 oe _ := []
 I k:=k<=l.length
 μ k _:=l.length - k
 x0:=0
 nx:=some fun k=>k+1
set_option maxRecDepth 100000 in
set_option maxHeartbeats 4000000 in
theorem conColRightM_ok:ConOk Tryz.prog conColRightM:=by
 refine fnOk [conSpans] ⟨conSpans_ok,trivial⟩ Tryz.func231 (by kernel_rfl) fun avs res h hp => ?_;simp only [conColRightM] at h;split at h
 case h_2=>cases h
 rename_i a b d n hh i j k l x y z;split at h
 case isFalse=>cases h
 rename_i hn;subst hn;cases h;obtain⟨l,rfl⟩:=eta (α:=List Int) l;have hl:l.length<=1000000000000:=hp;refine⟨[(3,lpPlugsM l)],?_⟩
 conv=>arg 1; cbv
 refine⟨?_,fun (k:Nat) hk => ?_⟩
 . simp (maxSteps:=4000000) only [fms];simp
 have hk1:k<=l.length:=hk
 conv=>arg 1; cbv
 simp (maxSteps:=4000000) only [fms,true_and,and_true,eq_self];have hN:k<l.length->inI64 ((k:Int)+1)/\(k+1<=l.length/\l.length - (k+1)<l.length - k)/\(k:Int)+1=((k+1:Nat):Int):=fun h=>⟨by simp only [inI64]; omega,⟨by omega,by omega⟩,by omega⟩
 exact⟨fun g=>⟨⟨by omega,by omega⟩,by simp,fun _=>trivial,fun _=>⟨fun g1=>⟨by simp only [inI64]; omega,⟨by omega,by omega⟩,fun _=>trivial,fun _=>hN (by omega)⟩,fun g1=>hN (by omega)⟩⟩,fun g=>⟨by simp,by simp [spnB]⟩⟩
theorem each_lit {w:World} {ρ:Nat->Option Rl} {base:Nat} {ro:Nat->Prop} {l:List AV} {vs:List Value} {i:Nat} {k:IntKind} {n:Unit->Int} (h:Each w ρ base ro l vs) (hi:l[i]? = some (.int k n)):Each w ρ base ro (l.set i (.lit k (n ()))) vs:=by
 refine⟨by rw [List.length_set]; exact h.1,fun j x v h1 h2 => ?_⟩;rw [List.getElem?_set] at h1;split at h1
 . rename_i e;subst e;split at h1
   . cases h1;rw [(h.2 i _ v hi h2).int_];exact .lit _ _
   . cases h1
 . exact h.2 j x v h1 h2
def conColRight:Con:=con1 231 kCol (fun c=>(c ()).plugs.length<=1000000000000/\inI64 (c ()).tiers) (fun c => .bool fun _=>colB (c ()))
theorem conColRight_ok:ConOk Tryz.prog conColRight:=by
 refine⟨conColRight0_ok.1,fun avs res h w ra vals hlt hE hp => ?_⟩;obtain⟨(c:Col),rfl,rfl⟩:=gop1 h;clear h;have hp':c.plugs.length<=1000000000000/\inI64 c.tiers:=hp;by_cases ht:c.tiers = -9223372036854775808
 . obtain⟨v,us,rfl,hv,h2⟩:=hE.head;obtain rfl:=h2.none;obtain⟨vs,rfl,h3⟩:=hv.agg_;have h4:=each_lit (i:=3) h3 rfl;have hc:colB c=false:=by
    unfold colB colSpans spnB;simp [ht]
   have h5:=conColRightM_ok.2 [.agg ((colL fun _=>c).set 3 (.lit .i64 c.tiers))] ⟨fun _=>c.plugs.length<=1000000000000,.bool fun _=>false⟩ (if_pos ht) w ra [.agg vs.toArray] hlt (.cons (.agg _ _ h4.1 h4.2) .nil) hp'.1;rw [show (AV.bool fun _=>colB ((fun _=>c) ()))=AV.bool fun _=>false by rw [hc]];exact h5
 . exact conColRight0_ok.2 [.agg (colL fun _=>c)] ⟨fun _=>c.plugs.length<=1000000000000/\inI64 (c.tiers - 1),.bool fun _=>colB c⟩ rfl w ra vals hlt hE ⟨hp'.1,by have:=hp'.2; simp only [inI64] at this ⊢; omega⟩
def metM (ks:List (List Kx)):List Kx->Option Int:=fun k=>if ks.count k=0 then none else some (ks.count k:Int)
theorem metM_getD (ks:List (List Kx)) (k:List Kx) (d:Int) (h:d=0):(metM ks k).getD d=(ks.count k:Int):=by
 subst h;unfold metM;split
 . rename_i h; rw [h]; rfl
 . rfl
theorem metM_add (ks:List (List Kx)) (k:List Kx):setM (metM ks) k ((ks.count k:Int)+1)=metM (ks ++ [k]):=by
 funext k';unfold setM metM;rw [List.count_append];by_cases h:k'=k
 . subst h;simp
 . rw [if_neg h];have:List.count k' [k]=0:=List.count_eq_zero.2 (by simpa using h);rw [this,Nat.add_zero]
theorem setM_twice {α:Type} (m:List Kx->Option α) (k:List Kx) (x y : α):setM (setM m k x) k y=setM m k y:=by
 funext k';unfold setM;by_cases h:k'=k<;>simp [h]
theorem setM_at {α:Type} (m:List Kx->Option α) (k:List Kx) (x : α):setM m k x k=some x:=by unfold setM; rw [if_pos rfl]
def colKey (c:Col):List Kx := [.i .i64 c.bay,.i .i64 c.row,.i .i64 (cond c.deck 1 0)]
def covKeys (x:Cov):List (List Kx):=x.rows.map fun r => [.i .i64 x.bay,.i .i64 r,.i .i64 2]
def covB (x:Cov):Bool:=(decide (0<=x.bay)&&decide (x.bay<40))&&(!decide (x.rows.length=0)&&risesB 30 x.rows)
def shipKeys (s:Shp):List (List Kx):=s.cols.map colKey++s.covs.flatMap covKeys
def shipB (s:Shp):Bool:=(decide (1<=s.cols.length)&&(decide (s.cols.length<=200)&&decide (s.covs.length<=40)))&&(s.cols.all colB&&(s.covs.all covB&&decide ((shipKeys s).Nodup)))
theorem col_eta (c:Col):(⟨c.bay,c.row,c.deck,c.tiers,c.height,c.k20,c.k40,c.lash,c.plugs,c.x,c.y,c.z⟩:Col)=c:=rfl
theorem covKeys_more {x:Cov} {j:Nat} (h:j<x.rows.length):(covKeys x).take (j+1)=(covKeys x).take j ++ [[Kx.i IntKind.i64 x.bay,Kx.i IntKind.i64 (x.rows.getD j Tc.int.dflt),Kx.i IntKind.i64 2]]:=by
 unfold covKeys;rw [<- List.map_take,<- List.map_take,take_getD Tc.int.dflt h,List.map_append];rfl
theorem flat_len':∀ (l:List Cov),(∀ y∈l,y.rows.length<=1000000000000)->(l.flatMap covKeys).length<=l.length*1000000000000
 | [],_=>by simp
 | y::l,h=>by
  have e3:=h y (.head _);have e4:=flat_len' l fun z hz=>h z (.tail _ hz);simp only [List.flatMap_cons,List.length_append,List.length_cons,covKeys,List.length_map] at e4 ⊢;omega
theorem count_in (key:List Kx) (l:List (List Kx)) (h:l.length<=1000000000000000):inI64 ((l.count key:Int)+1):=by
 have:=List.count_le_length (a:=key) (l:=l);unfold inI64;omega
theorem keys_fit {s:Shp} {key:List Kx} (h:key∈shipKeys s):fitsL (Kc.arr 3 (Lk.int IntKind.i64)).ls key=true:=by
 unfold shipKeys at h;rcases List.mem_append.1 h with h|h
 . obtain⟨c,_,rfl⟩:=List.mem_map.1 h;rfl
 . obtain⟨x,_,h⟩:=List.mem_flatMap.1 h;obtain⟨r,_,rfl⟩:=List.mem_map.1 h;rfl
def conShipRight:Con:=con1 193 kShip (fun s=>(∀ c∈(s ()).cols,c.plugs.length<=1000000000000/\inI64 c.tiers)/\∀ x∈(s ()).covs,x.rows.length<=1000000000000) (fun s => .bool fun _=>shipB (s ()))
def lpCols (s:Shp):Lp where
 X:=Nat
 ov k := [(33,.int .i64 fun _=>(k:Int))]
 oe k := [(1,.map true false (.arr 3 (.int .i64)) .int 309 fun _=>metM ((s.cols.take k).map colKey))]
 I k:=k<=s.cols.length/\(s.cols.take k).all colB=true
 μ k _:=s.cols.length - k
 x0:=0
 nx:=some fun k=>k+1
def lpCovs (s:Shp):Lp where
 X:=Nat
 ov k := [(57,.int .i64 fun _=>(k:Int))]
 oe k := [(1,.map true false (.arr 3 (.int .i64)) .int 309 fun _=>metM (s.cols.map colKey++(s.covs.take k).flatMap covKeys))]
 I k:=k<=s.covs.length/\(s.covs.take k).all covB=true
 μ k _:=s.covs.length - k
 x0:=0
 nx:=some fun k=>k+1
def lpRows (s:Shp) (k:Nat) (x:Cov):Lp where
 X:=Nat
 ov j := [(78,.int .i64 fun _=>(j:Int))]
 oe j := [(1,.map true false (.arr 3 (.int .i64)) .int 309 fun _=>metM (s.cols.map colKey++(s.covs.take k).flatMap covKeys++(covKeys x).take j))]
 I j:=j<=x.rows.length/\∀ i,i<j->riseB 30 x.rows i=true
 μ j _:=x.rows.length - j
 x0:=0
 nx:=some fun j=>j+1
def lpMet (ks:List (List Kx)) (n:Nat):Lp where
 X:=List (List Kx)×Nat
 ov _ := []
 oe p := [(2,.iter 1 (.arr 3 (.int .i64)) (fun _=>p.1) fun _=>p.2)]
 I p:=∀ key∈p.1,∀ x,metM ks key=some x->x<=1
 μ p _:=p.2
 x0:=([],n)
 nx:=none
set_option maxRecDepth 100000 in
set_option maxHeartbeats 4000000 in
theorem conShipRight_ok:ConOk Tryz.prog conShipRight:=by
 refine fnOk [conColRight] ⟨conColRight_ok,trivial⟩ Tryz.func193 (by kernel_rfl) fun avs res h hp => ?_;obtain⟨(s:Shp),rfl,rfl⟩:=gop1 h;clear h;have hZh1:(∀ c∈s.cols,c.plugs.length<=1000000000000/\inI64 c.tiers)/\∀ x∈s.covs,x.rows.length<=1000000000000:=hp;have h1:=hZh1.1;have h2:=hZh1.2;refine⟨[(5,lpCols s),(15,lpCovs s)],?_⟩
 conv=>arg 1; cbv
 refine⟨fun g1 => ?_,fun g1=>⟨fun g2 => ?_,fun g2=>⟨fun g3 => ?_,fun g3=>⟨?_,fun (k:Nat) hk => ?_⟩⟩⟩⟩
 . simp (maxSteps:=4000000) only [fms];simp only [decide_eq_true_eq] at g1;unfold shipB;grind
 . simp (maxSteps:=4000000) only [fms];simp only [decide_eq_true_eq] at g2;unfold shipB;grind
 . simp (maxSteps:=4000000) only [fms];simp only [decide_eq_true_eq] at g3;unfold shipB;grind
 . simp (maxSteps:=4000000) only [fms];exact⟨⟨Nat.zero_le _,rfl⟩,rfl,rfl⟩
 simp only [decide_eq_false_iff_not,castK] at g1 g2 g3;have hZhk1:k<=s.cols.length/\(s.cols.take k).all colB=true:=hk;have hk1:=hZhk1.1;have hk2:=hZhk1.2
 conv=>arg 1; cbv
 refine⟨fun g4 => ?_,fun g4 => ?_⟩
 . simp only [decide_eq_true_eq,castK] at g4;have hlt:k<s.cols.length:=by omega
   have hmem:=getD_mem Tc.col.dflt hlt;have hZp:=h1 _ hmem;have hp1:=hZp.1;have hp2:=hZp.2;simp (maxSteps:=4000000) only [fms];simp only [setM_at,setM_twice,Option.getD_some,metM_getD _ _ Tc.int.dflt rfl];simp only [col_eta];have hA:=all_bad (p:=colB) (d:=Tc.col.dflt) hlt;have hB:=all_more (d:=Tc.col.dflt) hk2 hlt;have hS:s.cols.all colB=false->shipB s=false:=fun h=>by unfold shipB; rw [h]; simp
   have hC:∀ key,inI64 (((List.map colKey (List.take k s.cols)).count key:Int)+1):=fun key=>count_in key _ (by simp; omega);have hM:List.map colKey (List.take (k+1) s.cols)=List.map colKey (List.take k s.cols) ++ [colKey (s.cols.getD k Tc.col.dflt)]:=by rw [take_getD Tc.col.dflt hlt,List.map_append]; rfl
   rw [hM,<- metM_add];have hK1:(s.cols.getD k Tc.col.dflt).deck=true->colKey (s.cols.getD k Tc.col.dflt) = [Kx.i IntKind.i64 (s.cols.getD k Tc.col.dflt).bay,Kx.i IntKind.i64 (s.cols.getD k Tc.col.dflt).row,Kx.i IntKind.i64 1]:=fun h=>by unfold colKey; rw [h]; rfl
   have hK2:(s.cols.getD k Tc.col.dflt).deck=false->colKey (s.cols.getD k Tc.col.dflt) = [Kx.i IntKind.i64 (s.cols.getD k Tc.col.dflt).bay,Kx.i IntKind.i64 (s.cols.getD k Tc.col.dflt).row,Kx.i IntKind.i64 0]:=fun h=>by unfold colKey; rw [h]; rfl
   have hk1i:inI64 ((k:Int)+1):=⟨by omega,by omega⟩
   generalize s.cols.getD k Tc.col.dflt=c at *
   generalize List.map colKey (List.take k s.cols)=L at *
   refine⟨⟨by omega,g4⟩,fun hd => ?_,fun hd => ?_⟩
   . have hk:=hK1 hd;rw [<- hk];generalize colKey c=key at *
     clear hK1 hK2;grind
   . have hk:=hK2 hd;rw [<- hk];generalize colKey c=key at *
     clear hK1 hK2;grind
 have hkk:s.cols.length<=k:=by simp only [decide_eq_false_iff_not,castK] at g4; omega
 have hcols:s.cols.all colB=true:=all_end hk2 hkk;have hkey:List.map colKey (List.take k s.cols)=s.cols.map colKey:=by rw [List.take_of_length_le hkk]
 clear g4;refine⟨?_,fun (m:Nat) hm => ?_⟩
 . simp (maxSteps:=4000000) only [fms];rw [hkey];refine⟨⟨Nat.zero_le _,rfl⟩,rfl,?_⟩;simp
 have hZhm1:m<=s.covs.length/\(s.covs.take m).all covB=true:=hm;have hm1:=hZhm1.1;have hm2:=hZhm1.2
 conv=>arg 1; cbv
 refine⟨fun g4 => ?_,fun g4 => ?_⟩
 . simp only [decide_eq_true_eq,castK] at g4;have hlt:m<s.covs.length:=by omega
   have hmem:=getD_mem Tc.cov.dflt hlt;have hp2:=h2 _ hmem;have hA:=all_bad (p:=covB) (d:=Tc.cov.dflt) hlt;have hB:=all_more (d:=Tc.cov.dflt) hm2 hlt;have hS:s.covs.all covB=false->shipB s=false:=fun h=>by unfold shipB; rw [h]; simp
   refine⟨⟨Int.natCast_nonneg m,g4⟩,fun g5 => ?_,fun g5=>⟨fun g6 => ?_,fun g6=>⟨fun g7 => ?_,fun g7 => ?_⟩⟩⟩
   all_goals simp only [decide_eq_true_eq,decide_eq_false_iff_not,castK,Int.toNat_natCast] at *
   . simp (maxSteps:=4000000) only [fms];refine (hS (hA ?_)).symm;unfold covB;generalize s.covs.getD m Tc.cov.dflt=x at *
     grind
   . simp (maxSteps:=4000000) only [fms];refine (hS (hA ?_)).symm;unfold covB;generalize s.covs.getD m Tc.cov.dflt=x at *
     grind
   . simp (maxSteps:=4000000) only [fms];refine (hS (hA ?_)).symm;unfold covB;generalize s.covs.getD m Tc.cov.dflt=x at *
     grind
   . refine nameIt (s.covs.getD m Tc.cov.dflt) fun x hx => ?_;refine⟨lpRows s m x,?_⟩
     conv=>arg 1; cbv
     have hcv:covB (s.covs.getD m Tc.cov.dflt)=risesB 30 (s.covs.getD m Tc.cov.dflt).rows:=by
      unfold covB;grind
     rw [hx] at hcv hA hB hp2 hmem;refine⟨?_,fun (j:Nat) hj => ?_⟩
     . simp (maxSteps:=4000000) only [fms];refine⟨⟨Nat.zero_le _,by simp⟩,rfl,?_⟩;simp
     have hZhj1:j<=x.rows.length/\∀ i,i<j->riseB 30 x.rows i=true:=hj;have hj1:=hZhj1.1;have hj2:=hZhj1.2
     conv=>arg 1; cbv
     simp (maxSteps:=4000000) only [fms];rw [hx];simp only [setM_at,setM_twice,Option.getD_some,metM_getD _ _ Tc.int.dflt rfl];have hm1':inI64 ((m:Int)+1):=⟨by omega,by omega⟩
     refine⟨fun g8 => ?_,fun g8 => ?_⟩
     . have h8:j<x.rows.length:=by omega
       have hj1':inI64 ((j:Int)+1):=⟨by omega,by omega⟩
       have hC:∀ key,inI64 (((List.map colKey s.cols++List.flatMap covKeys (List.take m s.covs)++List.take j (covKeys x)).count key:Int)+1):=fun key=>by
        refine count_in key _ ?_;have e5:=flat_len' (List.take m s.covs) fun y hy=>h2 y (List.mem_of_mem_take hy);have e6:(List.take m s.covs).length<=40:=by rw [List.length_take]; omega
        have e7:(List.take j (covKeys x)).length<=1000000000000:=by
         rw [List.length_take]; omega
        simp only [List.length_append,List.length_map];omega
       rw [covKeys_more h8,<- List.append_assoc,<- metM_add];have ha:=rises_bad (t:=30) h8;have hb:=upto_more (k:=j) hj2;have he:riseB 30 x.rows j=((decide (0<=x.rows.getD j Tc.int.dflt)&&decide (x.rows.getD j Tc.int.dflt<=30))&&(decide (j=0)||decide (x.rows.getD (j - 1) Tc.int.dflt<x.rows.getD j Tc.int.dflt))):=rfl;generalize x.rows.getD j Tc.int.dflt=u at *
       generalize x.rows.getD (j - 1) Tc.int.dflt=v at *
       generalize List.map colKey s.cols++List.flatMap covKeys (List.take m s.covs)++List.take j (covKeys x)=L at *
       generalize [Kx.i IntKind.i64 x.bay,Kx.i IntKind.i64 u,Kx.i IntKind.i64 2]=key at *
       generalize riseB 30 x.rows=R at *
       generalize risesB 30 x.rows=RR at *
       clear hmem hx hj2;have hjp:0<(j:Int)->inI64 ((j:Int) - 1):=fun h=>⟨by omega,by omega⟩
       grind
     . have h8:x.rows.length<=j:=by omega
       have hr:=rises_end h8 hj2;rw [<- hcv] at hr;have hT:(covKeys x).take j=covKeys x:=List.take_of_length_le (by unfold covKeys; rw [List.length_map]; exact h8);have hU:List.flatMap covKeys (List.take (m+1) s.covs)=List.flatMap covKeys (List.take m s.covs)++covKeys x:=by
        rw [take_getD Tc.cov.dflt hlt,hx,List.flatMap_append];simp
       rw [hT,hU,<- List.append_assoc];exact⟨hm1',⟨⟨hlt,hB hr⟩,by omega⟩,by omega,rfl⟩
 . have hmm:s.covs.length<=m:=by simp only [decide_eq_false_iff_not,castK] at g4; omega
   have hcovs:s.covs.all covB=true:=all_end hm2 hmm;have hT:List.take m s.covs=s.covs:=List.take_of_length_le hmm;clear g4;intro n _;refine nameIt (shipKeys s) fun ks hks => ?_
   conv=>arg 1; cbv
   refine⟨lpMet ks n,?_⟩
   conv=>arg 1; cbv
   refine⟨?_,fun (p:List (List Kx)×Nat) hp => ?_⟩
   . simp (maxSteps:=4000000) only [fms];simp
   have hp':∀ key∈p.1,∀ x,metM ks key=some x->x<=1:=hp;have hmet:metM (List.map colKey s.cols++List.flatMap covKeys (List.take m s.covs))=metM ks:=by rw [hT,<- hks]; rfl
   conv=>arg 1; cbv
   refine⟨fun g5=>fun (u:Unit) hu => ?_,fun g5=>fun (q:List Kx×Nat) hq => ?_⟩
   . conv=>arg 1; cbv
     simp (maxSteps:=4000000) only [fms];have hu':∀ (key:List Kx) (x:Int),fitsL (Kc.arr 3 (Lk.int IntKind.i64)).ls key=true->metM (List.map colKey s.cols++List.flatMap covKeys (List.take m s.covs)) key=some x->key∈p.1:=hu;rw [hmet] at hu';have hnd:(shipKeys s).Nodup:=by
      rw [List.nodup_iff_count];intro key;rcases Nat.eq_zero_or_pos (ks.count key) with h0|h0
      . rw [hks,h0]; omega
      . have hin:key∈shipKeys s:=by rw [hks]; exact List.count_pos_iff.1 h0
        have he:metM ks key=some (ks.count key:Int):=by unfold metM; rw [if_neg (by omega)]
        have:=hp' key (hu' key _ (keys_fit hin) he) _ he;rw [hks];omega
     unfold shipB;rw [hcols,hcovs];simp only [hnd,decide_true,Bool.and_true];grind
   . have hq':fitsL (Kc.arr 3 (Lk.int IntKind.i64)).ls q.1=true/\(metM (List.map colKey s.cols++List.flatMap covKeys (List.take m s.covs)) q.1).isSome=true/\¬ q.1∈p.1/\q.2<p.2:=hq;have q1:=hq'.1;have q2:=hq'.2.1;have q3:=hq'.2.2.1;have q4:=hq'.2.2.2;rw [hmet] at q2
     conv=>arg 1; cbv
     simp (maxSteps:=4000000) only [fms];simp only [hmet,List.headD_cons,metM_getD _ _ Tc.int.dflt rfl];refine⟨by simp,fun h => ?_,fun h => ?_⟩
     . have hnd:¬ (shipKeys s).Nodup:=fun hn=>by
        have:=List.nodup_iff_count.1 hn q.1;rw [hks] at this;omega
       unfold shipB;simp [hnd]
     . refine⟨(q.1::p.1,q.2),⟨fun key' hk' x hx => ?_,q4⟩,?_⟩
       . rcases List.mem_cons.1 hk' with rfl|hk'
         . unfold metM at hx;split at hx
           . cases hx
           . cases hx; omega
         . exact hp' key' hk' x hx
       . conv=>arg 1; cbv
         simp (maxSteps:=4000000) only [fms];simp
end Go.Proofs.YthfpdbjemfhieaaGreat
