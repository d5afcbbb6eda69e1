/-
  frac: size64, Of, Ratio.
-/
import Derived.Test.YtfdjcakgolenbaaGreatMw17
import Derived.DeepKeys
import Derived.Laws.StructEq
set_option linter.unusedVariables false
set_option linter.unusedSimpArgs false
namespace Go.Proofs.YtfdjcakgolenbaaGreat
open Go.RowKit
theorem wrap_neg64 {n : Int} (h1 : -9223372036854775808 <= n) (h2 : n < 0) : IntKind.u64.wrap (-(IntKind.u64.wrap n)) = (n.natAbs : Int) := by
 unfold IntKind.wrap;simp [IntKind.bits, IntKind.signed];omega
set_option maxHeartbeats 2000000 in
theorem frac_size64 (n : Int) (h1 : -9223372036854775808 <= n) (h2 : n <= 9223372036854775807) (w : World) :
 Calls Tryz.prog 58 #[.int .i64 n] w fun e w' => ∃ A' c', e = .returned (.slice A' (len32 n.natAbs) c') /\ Rd32 w' A' n.natAbs /\ Below w.heap.size w w' := by
 obtain ⟨k, hk⟩ : ∃ k, k = n.natAbs := ⟨_, rfl⟩
 have hks : k < 18446744073709551616 := by omega
 rw [<- hk];have HO := Lib.hid (frac_of k hks w);by_cases h0 : n < 0
 . have w1' : IntKind.u64.wrap (-(IntKind.u64.wrap n)) = (k : Int) := by rw [wrap_neg64 h1 h0, hk]
   obtain ⟨z, hz⟩ : ∃ z, z = IntKind.u64.wrap n := ⟨_, rfl⟩
   rw [<- hz] at w1';have hz2 : IntKind.u64.wrap n = z := hz.symm;clear hz hk hks
   go_enter Tryz.func58, Tryz.ntmps58
   go_wp2_with (go_at_call 59; refine (HO.out).mono ?_; rintro e w1 ⟨A1, c1, rfl, hr1, hc1, hb1⟩)
   go_ret
   exact ⟨A1, c1, rfl, hr1, hb1⟩
 . have w1' : IntKind.u64.wrap n = (k : Int) := by rw [wrap_u64 (by omega) (by omega)]; omega
   clear hk hks
   go_enter Tryz.func58, Tryz.ntmps58
   go_wp2_with (go_at_call 59; refine (HO.out).mono ?_; rintro e w1 ⟨A1, c1, rfl, hr1, hc1, hb1⟩)
   go_ret
   exact ⟨A1, c1, rfl, hr1, hb1⟩
theorem len_small {k : Nat} (h : k < 18446744073709551616) : len32 k <= 900 := by
 have h2 : B32 ^ 2 = 18446744073709551616 := by decide
 have h3 : len32 k <= 2 := dig_len_le hB32 (by rw [h2]; exact h);omega
theorem top256_big : 18446744073709551616 < top256 := by decide
set_option maxRecDepth 100000 in
set_option maxHeartbeats 4000000 in
theorem frac_Of (n : Int) (h1 : -9223372036854775808 <= n) (h2 : n <= 9223372036854775807) (w : World) :
 Calls Tryz.prog 24 #[.int .i64 n] w fun e w' => e = .returned (ofL n).val /\ Below w.heap.size w w' := by
 obtain ⟨k, hk⟩ : ∃ k, k = n.natAbs := ⟨_, rfl⟩
 have hks : k < 18446744073709551616 := by omega
 obtain ⟨bn, hbn⟩ : ∃ bn, bn = decide (n < 0) := ⟨_, rfl⟩
 have hfit : fitL bn k 1 = (ofL n, 0) := by
  rw [fitL_one _ _ (Nat.lt_trans hks top256_big), hbn, hk];unfold ofL;congr 2;by_cases h0 : n < 0
  . simp [h0]; omega
  . simp [h0]
 have ha : Below w.heap.size w (w.alloc (.cells zeroF.cells.toArray 71)) := (Below.refl _ _).alloc (Nat.le_refl _) _;have HS := Lib.hid (fun (w1 : World) => frac_size64 n h1 h2 w1);have HO := Lib.hid (fun (w1 : World) => frac_of 1 (by omega) w1);have HL1 := Lib.hid (show len32 1 <= 900 from len_small (by omega));rw [<- hk] at HS;have HF0 := Lib.hid (FB.new w zeroF);have HB0 := Lib.hid ha;have HFIT := Lib.hid hfit;have HKS := Lib.hid (len_small hks);have HBN := Lib.hid hbn;clear ha hfit hks hk;obtain ⟨l1, hl1⟩ : ∃ l1, l1 = len32 1 := ⟨_, rfl⟩
 obtain ⟨lk, hlk⟩ : ∃ lk, lk = len32 k := ⟨_, rfl⟩
 rw [<- hl1] at HO;rw [<- hlk] at HS;have HL := Lib.hid (And.intro hl1 hlk);clear hl1 hlk hbn
 go_enter Tryz.func24, Tryz.ntmps24
 go_wp2_with (first
  | (go_at_call 58; refine (HS.out _).mono ?_; rintro e w1 ⟨A1, c1, rfl, hr1, hb1⟩; have HB1 := Lib.hid (HB0.out.trans (hb1.mono HB0.out.size)); have F1 := Lib.hid (HF0.out.below hb1 HF0.out.lt); have R1 := Lib.hid hr1; clear hr1 hb1)
  | (go_at_call 59; refine (HO.out _).mono ?_; rintro e w2 ⟨A2, c2, rfl, hr2, hc2, hb2⟩; have HB2 := Lib.hid (HB1.out.trans (hb2.mono HB1.out.size)); have F2 := Lib.hid (F1.out.below hb2 F1.out.lt); have R12 := Lib.hid (R1.out.from hb2); have R2 := Lib.hid hr2; clear hr2 hb2 hc2; try rw [<- HBN.out])
  | ((with_reducible refine g_st 71 ?_); refine wpList_stF (f := ofL n) rfl _ _ rfl rfl rfl (FB.new w3 zeroF) ?_; intro w4 hfb4 hgr4
     have C4 : Hid (From w3 w4) := ((Below.refl w3.heap.size w3).alloc (Nat.le_refl _) _).grown hgr4 (by simp) (by intro q hq; injection hq with hq; omega);have F4 := Lib.hid hfb4; have F34 := Lib.hid (F3.out.below C4.out F3.out.lt); have HB4 := Lib.hid (HB3.out.trans (C4.out.mono HB3.out.size)); clear hfb4 hgr4 F3 HB3)
  | ((with_reducible refine g_ld 71 ?_); refine wpList_ld rfl _ _ rfl _ rfl _ F4.out.ld ?_)
  | ((with_reducible refine g_st 71 ?_); refine wpList_stF (f := ofL n) rfl _ _ rfl rfl rfl F34.out ?_; intro w5 hfb5 hgr5)
  | (go_at_call 56; refine (frac_fit bn A1 A2 c1 c2 k 1 lk l1 HL.out.2 HL.out.1 _ R12.out R2.out HKS.out HL1.out (by omega)).mono ?_; rintro e w3 ⟨rfl, hb3⟩; rw [HFIT.out]; have HB3 := Lib.hid (HB2.out.trans (hb3.mono HB2.out.size)); have F3 := Lib.hid (F2.out.below hb3 F2.out.lt); clear hb3))
 refine bodyPost_ret (results_frac rfl _ rfl hfb5) rfl ⟨rfl, ?_⟩;exact HB4.out.grown hgr5 HB4.out.size (by intro q hq; injection hq with hq; omega)
theorem ratioL_fit {a b : Int} (hb : b ≠ 0) : ratioL a b = fitL (decide (a < 0) != decide (b < 0)) a.natAbs b.natAbs := by
 unfold ratioL;rw [if_neg hb]
set_option maxRecDepth 100000 in
set_option maxHeartbeats 4000000 in
theorem frac_Ratio (a b : Int) (h1 : -9223372036854775808 <= a) (h2 : a <= 9223372036854775807) (h3 : -9223372036854775808 <= b) (h4 : b <= 9223372036854775807) (w : World) :
 Calls Tryz.prog 52 #[.int .i64 a, .int .i64 b] w (FitPost w (ratioL a b)) := by
 have HF0 := Lib.hid (FB.new w zeroF);have ha : Below w.heap.size w (w.alloc (.cells zeroF.cells.toArray 71)) := (Below.refl _ _).alloc (Nat.le_refl _) _;have HB0 := Lib.hid ha;clear ha;by_cases hb : b = 0
 . subst hb;have HR : Hid (ratioL a 0 = (zeroF, 2)) := rfl
   go_enter Tryz.func52, Tryz.ntmps52
   go_wp2_with (first
    | ((with_reducible refine g_st 71 ?_); refine wpList_stF (f := zeroF) rfl _ _ rfl rfl rfl HF0.out ?_; intro w5 hfb5 hgr5))
   refine bodyPost_ret (results_frac_err rfl _ rfl hfb5) rfl ⟨by rw [HR.out]; rfl, ?_⟩;exact HB0.out.grown hgr5 HB0.out.size (by intro q hq; injection hq with hq; omega)
 . obtain ⟨x, hx⟩ : ∃ x, x = a.natAbs := ⟨_, rfl⟩
   obtain ⟨y, hy⟩ : ∃ y, y = b.natAbs := ⟨_, rfl⟩
   obtain ⟨bn, hbn⟩ : ∃ bn, bn = (decide (a < 0) != decide (b < 0)) := ⟨_, rfl⟩
   have hr := ratioL_fit (a := a) hb;rw [<- hx, <- hy, <- hbn] at hr;have HS := Lib.hid (fun (w1 : World) => frac_size64 a h1 h2 w1);have HO := Lib.hid (fun (w1 : World) => frac_size64 b h3 h4 w1);rw [<- hx] at HS;rw [<- hy] at HO;have HY0 := Lib.hid (show 0 < y by omega);have HL1 := Lib.hid (len_small (k := x) (by omega));have HL2 := Lib.hid (len_small (k := y) (by omega));obtain ⟨lx, hlx⟩ : ∃ lx, lx = len32 x := ⟨_, rfl⟩
   obtain ⟨ly, hly⟩ : ∃ ly, ly = len32 y := ⟨_, rfl⟩
   rw [<- hlx] at HS;rw [<- hly] at HO;have HL := Lib.hid (And.intro hlx hly);rw [hr];have HBN : Hid ((!(decide (a < 0) == decide (b < 0))) = bn) := hbn.symm;clear hlx hly hx hy hr hbn;obtain ⟨r, hr⟩ : ∃ r, r = fitL bn x y := ⟨_, rfl⟩
   rw [<- hr];have HR := Lib.hid hr;clear hr
   go_enter Tryz.func52, Tryz.ntmps52
   go_wp2_with (first
    | (go_at_call 58; refine (HS.out _).mono ?_; rintro e w1 ⟨A1, c1, rfl, hr1, hb1⟩; have HB1 := Lib.hid (HB0.out.trans (hb1.mono HB0.out.size)); have F1 := Lib.hid (HF0.out.below hb1 HF0.out.lt); have R1 := Lib.hid hr1; clear hr1 hb1 HS)
    | (go_at_call 58; refine (HO.out _).mono ?_; rintro e w2 ⟨A2, c2, rfl, hr2, hb2⟩; have HB2 := Lib.hid (HB1.out.trans (hb2.mono HB1.out.size)); have F2 := Lib.hid (F1.out.below hb2 F1.out.lt); have R12 := Lib.hid (R1.out.from hb2); have R2 := Lib.hid hr2; clear hr2 hb2)
    | (go_at_call 56; rw [HBN.out]
       refine (frac_fit bn A1 A2 c1 c2 x y lx ly HL.out.1 HL.out.2 _ R12.out R2.out HL1.out HL2.out HY0.out).mono ?_; rintro e w3 ⟨rfl, hb3⟩; rw [<- HR.out]; have HB3 := Lib.hid (HB2.out.trans (hb3.mono HB2.out.size)); have F3 := Lib.hid (F2.out.below hb3 F2.out.lt); clear hb3)
    | ((with_reducible refine g_st 71 ?_); refine wpList_stF (f := r.1) rfl _ _ rfl rfl rfl F3.out ?_; intro w5 hfb5 hgr5))
   refine bodyPost_ret (results_frac_err rfl _ rfl hfb5) rfl ⟨rfl, ?_⟩;exact HB3.out.grown hgr5 HB3.out.size (by intro q hq; injection hq with hq; omega)
theorem list8 {l : List Nat} (hl : l.length = 8) : ∃ a0 a1 a2 a3 a4 a5 a6 a7 : Nat, l = [a0, a1, a2, a3, a4, a5, a6, a7] := by
 match l, hl with
 | [a0, a1, a2, a3, a4, a5, a6, a7], _ => exact ⟨_, _, _, _, _, _, _, _, rfl⟩
theorem frac_explicit (f : FracV) : ∃ (b : Bool) (c : Fin 16 -> Int), f.cells = [.bool b, .int .u32 (c 0), .int .u32 (c 1), .int .u32 (c 2), .int .u32 (c 3), .int .u32 (c 4), .int .u32 (c 5), .int .u32 (c 6), .int .u32 (c 7), .int .u32 (c 8), .int .u32 (c 9), .int .u32 (c 10), .int .u32 (c 11), .int .u32 (c 12), .int .u32 (c 13), .int .u32 (c 14), .int .u32 (c 15)] := by
 obtain ⟨a0, a1, a2, a3, a4, a5, a6, a7, ha⟩ := list8 (pad_len B32 8 f.num);obtain ⟨d0, d1, d2, d3, d4, d5, d6, d7, hd⟩ := list8 (pad_len B32 8 f.den);refine ⟨f.neg, fun i => ([a0, a1, a2, a3, a4, a5, a6, a7, d0, d1, d2, d3, d4, d5, d6, d7].map (fun (n : Nat) => (n : Int))).getD i.val 0, ?_⟩;unfold FracV.cells;rw [ha, hd];rfl
structure Ctr where
 x : FracV
 y : FracV
 z : FracV
def Ctr.cells (c : Ctr) : List Value := c.x.cells ++ (c.y.cells ++ c.z.cells)
def Ctr.val (c : Ctr) : Value := .agg c.cells.toArray
theorem Ctr.len (c : Ctr) : c.cells.length = 51 := by simp [Ctr.cells, FracV.cells_len]
theorem Ctr.one (c : Ctr) : ∀ u ∈ c.cells, u.oneCell' = true := by
 intro u hu;rcases List.mem_append.1 hu with h | h
 . exact c.x.ones u h
 . rcases List.mem_append.1 h with h | h
   . exact c.y.ones u h
   . exact c.z.ones u h
def ctr0 : Ctr := ⟨zeroF, zeroF, zeroF⟩
theorem Ctr.row : IsRow Tryz.prog 73 51 := ⟨_, Tryz.underlying73, by kernel_rfl, by kernel_rfl⟩
theorem Ctr.size : (Tryz.prog.info? 73).map (·.size) = some 51 := by kernel_rfl
def findF (l : Ld) : Ctr × Int := if ldOk l then if l.kilos = 0 then (ctr0, 6) else (⟨(ratioL l.x l.kilos).1, (ratioL l.y l.kilos).1, (ratioL l.z (2 * l.kilos)).1⟩, 0) else (ctr0, 2)
def CtrPost (w : World) (r : Ctr × Int) (e : Ending) (w' : World) : Prop := e = .returned (.tuple #[r.1.val, .int .i64 r.2]) /\ From w w'
set_option maxRecDepth 100000 in
set_option maxHeartbeats 4000000 in
theorem build_ctr (f g h : FracV) {a : Act} {s t u : Nat} {d : Option Nat} {ty : TypeId} {pos : String} {aft : Array Edge} {gd : Option (Nat × Bool)} (w : World) (hx : a.eval (.tmp s) = .agg f.cells.toArray) (hy : a.eval (.tmp t) = .agg g.cells.toArray) (hz : a.eval (.tmp u) = .agg h.cells.toArray) :
 (execOp a.eval ⟨d, .build 73 #[(0, .tmp s), (1, .tmp t), (2, .tmp u)], ty, pos, aft, gd⟩).run Tryz.prog w = .ok (.value (Ctr.val ⟨f, g, h⟩)) w := by
 obtain ⟨b, c, hf⟩ := frac_explicit f;obtain ⟨b', c', hg⟩ := frac_explicit g;obtain ⟨b2, c2, hh⟩ := frac_explicit h;unfold Ctr.val Ctr.cells;dsimp only;rw [hf] at hx;rw [hg] at hy;rw [hh] at hz;rw [hf, hg, hh];clear hf hg hh;have hx' : a.tmps[s]?.getD undef = _ := (by simp [Act.eval] : a.tmps[s]?.getD undef = a.eval (.tmp s)).trans hx;have hy' : a.tmps[t]?.getD undef = _ := (by simp [Act.eval] : a.tmps[t]?.getD undef = a.eval (.tmp t)).trans hy;have hz' : a.tmps[u]?.getD undef = _ := (by simp [Act.eval] : a.tmps[u]?.getD undef = a.eval (.tmp u)).trans hz
 go_simp
set_option maxRecDepth 100000 in
set_option maxHeartbeats 4000000 in
theorem m_Find (l : Ld) (w : World) : Calls Tryz.prog 20 #[.agg #[.int .i64 l.kilos, .int .i64 l.x, .int .i64 l.y, .int .i64 l.z]] w (CtrPost w (findF l)) := by
 have HM0 := Lib.hid ((Mem.nil w).alloc2 48 l.cells 73 ctr0.cells);have HR := Lib.hid (fun w1 => m_Right l w1);obtain ⟨r, hr⟩ : ∃ r, r = findF l := ⟨_, rfl⟩
 rw [<- hr]
 cases hok : ldOk l with
 | false =>
  rw [hok] at HR;have HE : Hid (r = (ctr0, 2)) := by unfold Hid findF at *; rw [hr, if_neg (by rw [hok]; simp)]
  clear hr hok;obtain ⟨k, x, y, z⟩ := l
  go_enter Tryz.func20, Tryz.ntmps20
  go_wp2_with (first
   | (go_at_call 22; go_loud (refine (HR.out _).mono ?_); rintro e w1 ⟨rfl, hb⟩; have HM1 := Lib.hid (HM0.out.call hb); clear hb)
   | ((with_reducible refine g_st 73 ?_); go_loud (refine wpList_stB (cs' := ctr0.cells) rfl _ _ rfl HM1.out 0 rfl rfl rfl Ctr.size rfl (Ctr.len _) (Ctr.len _) (Ctr.one _) ?_); intro w6 h6))
  refine bodyPost_ret (results_box2 rfl _ rfl (h6.ldb Ctr.row (Ctr.len _) (i := 0) rfl _ (Below.refl _ _))) rfl ⟨?_, h6.from_⟩;rw [HE.out];rfl
 | true =>
  rw [hok] at HR;have hnum := ldOk_nums hok;by_cases hk0 : l.kilos = 0
  . have HE : Hid (r = (ctr0, 6)) := by unfold Hid findF at *; rw [hr, if_pos hok, if_pos hk0]
    clear hr hok hnum;obtain ⟨k, x, y, z⟩ := l;dsimp only at hk0;subst hk0
    go_enter Tryz.func20, Tryz.ntmps20
    go_wp2_with (first
     | ((with_reducible refine g_ld 3 ?_); refine wpList_ld rfl _ _ rfl _ rfl _ (HM1.out.ldc ct3 (i := 1) rfl rfl _ (Below.refl _ _)) ?_)
     | (go_at_call 22; go_loud (refine (HR.out _).mono ?_); rintro e w1 ⟨rfl, hb⟩; have HM1 := Lib.hid (HM0.out.call hb); clear hb)
     | ((with_reducible refine g_st 73 ?_); go_loud (refine wpList_stB (cs' := ctr0.cells) rfl _ _ rfl HM1.out 0 rfl rfl rfl Ctr.size rfl (Ctr.len _) (Ctr.len _) (Ctr.one _) ?_); intro w6 h6))
    refine bodyPost_ret (results_box2 rfl _ rfl (h6.ldb Ctr.row (Ctr.len _) (i := 0) rfl _ (Below.refl _ _))) rfl ⟨?_, h6.from_⟩;rw [HE.out];rfl
  . have HE : Hid (r = (⟨(ratioL l.x l.kilos).1, (ratioL l.y l.kilos).1, (ratioL l.z (2 * l.kilos)).1⟩, 0)) := by unfold Hid findF at *; rw [hr, if_pos hok, if_neg hk0]
    obtain ⟨k, x, y, z⟩ := l;dsimp only at hnum hk0 HE;have e1 : IntKind.i64.wrap (2 * k) = 2 * k := wrap_i64 (by omega) (by omega);have hke : (k == 0) = false := by simp; omega
    have HX := Lib.hid (fun w1 => frac_Ratio x k (by omega) (by omega) (by omega) (by omega) w1);have HY := Lib.hid (fun w1 => frac_Ratio y k (by omega) (by omega) (by omega) (by omega) w1);have HZ := Lib.hid (fun w1 => frac_Ratio z (2 * k) (by omega) (by omega) (by omega) (by omega) w1);generalize ratioL x k = rx at HX HE;generalize ratioL y k = ry at HY HE;generalize ratioL z (2 * k) = rz at HZ HE;clear hr hok hnum
    go_enter Tryz.func20, Tryz.ntmps20
    go_wp2_with (first
     | ((with_reducible refine g_ld 3 ?_); refine wpList_ld rfl _ _ rfl _ rfl _ (HM1.out.ldc ct3 (i := 1) rfl rfl _ (Below.refl _ _)) ?_)
     | ((with_reducible refine g_ld 3 ?_); refine wpList_ld rfl _ _ rfl _ rfl _ (HM3.out.ldc ct3 (i := 2) rfl rfl _ (Below.refl _ _)) ?_)
     | ((with_reducible refine g_ld 3 ?_); refine wpList_ld rfl _ _ rfl _ rfl _ (HM5.out.ldc ct3 (i := 3) rfl rfl _ (Below.refl _ _)) ?_)
     | (go_at_call 22; go_loud (refine (HR.out _).mono ?_); rintro e w1 ⟨rfl, hb⟩; have HM1 := Lib.hid (HM0.out.call hb); clear hb)
     | (go_at_call 52; refine (HX.out _).mono ?_; rintro e w2 ⟨rfl, hb⟩; have HM2 := Lib.hid ((HM1.out.call hb).alloc 71 zeroF.cells); clear hb HX)
     | ((with_reducible refine g_st 71 ?_); refine wpList_stB (cs' := FracV.cells rx.1) rfl _ _ rfl HM2.out 0 rfl rfl rfl frac_size rfl (FracV.cells_len _) (FracV.cells_len _) (FracV.ones _) ?_; intro w3 h3; have HM3 := Lib.hid h3; clear h3 HM1 HM2)
     | (go_at_call 52; refine (HY.out _).mono ?_; rintro e w4 ⟨rfl, hb⟩; have HM4 := Lib.hid ((HM3.out.call hb).alloc 71 zeroF.cells); clear hb HY)
     | ((with_reducible refine g_st 71 ?_); refine wpList_stB (cs' := FracV.cells ry.1) rfl _ _ rfl HM4.out 0 rfl rfl rfl frac_size rfl (FracV.cells_len _) (FracV.cells_len _) (FracV.ones _) ?_; intro w5 h5; have HM5 := Lib.hid h5; clear h5 HM4 HM3)
     | (go_at_call 52; go_loud (refine (HZ.out _).mono ?_); rintro e w6 ⟨rfl, hb⟩; have HM6 := Lib.hid ((HM5.out.call hb).alloc 71 zeroF.cells); clear hb HZ)
     | ((with_reducible refine g_st 71 ?_); refine wpList_stB (cs' := FracV.cells rz.1) rfl _ _ rfl HM6.out 0 rfl rfl rfl frac_size rfl (FracV.cells_len _) (FracV.cells_len _) (FracV.ones _) ?_; intro w7 h7; have HM7 := Lib.hid h7; clear h7 HM6 HM5)
     | ((with_reducible refine g_ld 71 ?_); refine wpList_ld rfl _ _ rfl _ rfl _ (HM7.out.ldb frac_row (FracV.cells_len _) (i := 2) rfl _ (Below.refl _ _)) ?_)
     | ((with_reducible refine g_ld 71 ?_); refine wpList_ld rfl _ _ rfl _ rfl _ (HM7.out.ldb frac_row (FracV.cells_len _) (i := 1) rfl _ (Below.refl _ _)) ?_)
     | ((with_reducible refine g_ld 71 ?_); go_loud (refine wpList_ld rfl _ _ rfl _ rfl _ (HM7.out.ldb frac_row (FracV.cells_len _) (i := 0) rfl _ (Below.refl _ _)) ?_))
     | ((with_reducible refine g_bld 73 ?_); go_loud (refine wpList_val rfl _ (build_ctr rx.1 ry.1 rz.1 _ rfl rfl rfl) ?_))
     | ((with_reducible refine g_st 73 ?_); go_loud (refine wpList_stB (cs' := Ctr.cells ⟨rx.1, ry.1, rz.1⟩) rfl _ _ rfl HM7.out 3 rfl rfl rfl Ctr.size rfl (Ctr.len _) (Ctr.len _) (Ctr.one _) ?_); intro w8 h8))
    refine bodyPost_ret (results_box2 rfl _ rfl (h8.ldb Ctr.row (Ctr.len _) (i := 3) rfl _ (Below.refl _ _))) rfl ⟨?_, h8.from_⟩;rw [HE.out];rfl
section
variable {w w' : World} {ρ : Nat -> Option Rl} {base : Nat} {ro : Nat -> Prop} {v : Value}
theorem avr_ld (b : Unit -> Ld) : AVR w ρ base ro (.agg (ldL b)) (b ()).val := avr_aggF (l := ldL b) rfl
theorem AVR.stos {fr : Bool} {l : Unit -> List Stowed} (h : AVR w ρ base ro (.sl fr .stowed l) v) : ∃ A c, v = .slice A (l ()).length c /\ (l ()).length <= c /\ Rd w w.heap.size 4 A ((l ()).map Stowed.cells) := AVR.slF (t := .stowed) (l := l) Stowed.cells (fun _ => rfl) (fun _ => rfl) h
theorem AVR.lds {fr : Bool} {l : Unit -> List Ld} (h : AVR w ρ base ro (.sl fr .ld l) v) : ∃ A c, v = .slice A (l ()).length c /\ (l ()).length <= c /\ Rd w w.heap.size 4 A ((l ()).map Ld.cells) := AVR.slF (t := .ld) (l := l) Ld.cells (fun _ => rfl) (fun _ => rfl) h
theorem AVR.u8s {fr : Bool} {l : Unit -> List Int} (h : AVR w ρ base ro (.sl fr .u8 l) v) : ∃ A c, v = .slice A (l ()).length c /\ (l ()).length <= c /\ Rd w w.heap.size 1 A ((l ()).map u8Row) := AVR.slF (t := .u8) (l := l) u8Row (fun _ => rfl) (fun _ => rfl) h
end
def conBoxRight : Con := ⟨129, [.agg boxSg], fun
 | [x0] => (x0.toBox).bind fun b => some ⟨fun _ => (b ()).num.size <= 140737488351232, .bool fun _ => boxB (b ())⟩
 | _ => none⟩
theorem conBoxRight_ok : ConOk Tryz.prog conBoxRight := by
 refine oldOk Tryz.func129 (by kernel_rfl) fun avs res h w ra vals hE hp => ?_;simp only [conBoxRight] at h;split at h
 case h_2 => cases h
 rename_i x0;simp only [Option.bind_eq_some_iff, Option.some.injEq] at h;obtain ⟨b, e0, rfl⟩ := h;obtain rfl := AV.toBox_ e0;clear e0;obtain ⟨b, rfl⟩ := eta (α := Box) b;obtain ⟨v0, us0, rfl, hv0, h0⟩ := hE.head;obtain rfl := h0.none;obtain rfl := hv0.aggF rfl;exact (box_right b w hp).mono fun e w' ⟨k1, k2⟩ => ⟨_, k1, k2, .bool _⟩
def conHasU8 : Con := ⟨154, [.sl .u8, .int .u8], fun
 | [x0, x1] => (x0.toU8s).bind fun l => (x1.toU8).bind fun x => some ⟨fun _ => (l ()).length <= 1000000000000, .bool fun _ => (l ()).any fun y => decide (x () = y)⟩
 | _ => none⟩
theorem conHasU8_ok : ConOk Tryz.prog conHasU8 := by
 refine oldOk Tryz.func154 (by kernel_rfl) fun avs res h w ra vals hE hp => ?_;simp only [conHasU8] at h;split at h
 case h_2 => cases h
 rename_i x0 x1;simp only [Option.bind_eq_some_iff, Option.some.injEq] at h;obtain ⟨l, e0, x, e1, rfl⟩ := h;obtain rfl := AV.toU8s_ e0;obtain rfl := AV.toU8_ e1;clear e0 e1;obtain ⟨l, rfl⟩ := eta (α := List Int) l;obtain ⟨x, rfl⟩ := eta (α := Int) x;obtain ⟨v0, us0, rfl, hv0, h0⟩ := hE.head;obtain ⟨v1, us1, rfl, hv1, h1⟩ := h0.head;obtain rfl := h1.none;obtain ⟨A0, q0, rfl, hc0, hr0⟩ := hv0.u8s;obtain rfl := hv1.int_;exact (containsU8 A0 q0 l _ rfl x w hr0 hp).mono fun e w' ⟨k1, k2⟩ => ⟨_, k1, by rw [k2]; exact Below.refl _ _, .bool _⟩
def conMRight : Con := ⟨22, [.agg ldSg], fun
 | [x0] => (x0.toLd).bind fun x => some ⟨fun _ => True, .bool fun _ => ldOk (x ())⟩
 | _ => none⟩
theorem conMRight_ok : ConOk Tryz.prog conMRight := by
 refine oldOk Tryz.func22 (by kernel_rfl) fun avs res h w ra vals hE hp => ?_;simp only [conMRight] at h;split at h
 case h_2 => cases h
 rename_i x0;simp only [Option.bind_eq_some_iff, Option.some.injEq] at h;obtain ⟨x, e0, rfl⟩ := h;obtain rfl := AV.toLd_ e0;clear e0;obtain ⟨x, rfl⟩ := eta (α := Ld) x;obtain ⟨v0, us0, rfl, hv0, h0⟩ := hE.head;obtain rfl := h0.none;obtain rfl := hv0.aggF rfl;exact (m_Right x w).mono fun e w' ⟨k1, k2⟩ => ⟨_, k1, k2, .bool _⟩
def conMPoint : Con := ⟨21, [.int .i64, .int .i64, .int .i64, .int .i64], fun
 | [x0, x1, x2, x3] => (x0.toI).bind fun a => (x1.toI).bind fun b => (x2.toI).bind fun c => (x3.toI).bind fun d => some ⟨fun _ => True, .tup [.agg (ldL fun _ => (pointF (a ()) (b ()) (c ()) (d ())).1), .int .i64 fun _ => (pointF (a ()) (b ()) (c ()) (d ())).2]⟩
 | _ => none⟩
theorem conMPoint_ok : ConOk Tryz.prog conMPoint := by
 refine oldOk Tryz.func21 (by kernel_rfl) fun avs res h w ra vals hE hp => ?_;simp only [conMPoint] at h;split at h
 case h_2 => cases h
 rename_i x0 x1 x2 x3;simp only [Option.bind_eq_some_iff, Option.some.injEq] at h;obtain ⟨a, e0, b, e1, c, e2, d, e3, rfl⟩ := h;obtain rfl := AV.toI_ e0;obtain rfl := AV.toI_ e1;obtain rfl := AV.toI_ e2;obtain rfl := AV.toI_ e3;clear e0 e1 e2 e3;obtain ⟨a, rfl⟩ := eta (α := Int) a;obtain ⟨b, rfl⟩ := eta (α := Int) b;obtain ⟨c, rfl⟩ := eta (α := Int) c;obtain ⟨d, rfl⟩ := eta (α := Int) d;obtain ⟨v0, us0, rfl, hv0, h0⟩ := hE.head;obtain ⟨v1, us1, rfl, hv1, h1⟩ := h0.head;obtain ⟨v2, us2, rfl, hv2, h2⟩ := h1.head;obtain ⟨v3, us3, rfl, hv3, h3⟩ := h2.head;obtain rfl := h3.none;obtain rfl := hv0.int_;obtain rfl := hv1.int_;obtain rfl := hv2.int_;obtain rfl := hv3.int_;exact (m_Point a b c d w).mono fun e w' ⟨k1, k2⟩ => ⟨_, k1, k2, avr_tup2 (avr_ld _) (.int _ _)⟩
def conMAdd : Con := ⟨19, [.sl .ld], fun
 | [x0] => (x0.toLds).bind fun l => some ⟨fun _ => (l ()).length <= 1000000, .tup [.agg (ldL fun _ => (addF (l ())).1), .int .i64 fun _ => (addF (l ())).2]⟩
 | _ => none⟩
theorem conMAdd_ok : ConOk Tryz.prog conMAdd := by
 refine oldOk Tryz.func19 (by kernel_rfl) fun avs res h w ra vals hE hp => ?_;simp only [conMAdd] at h;split at h
 case h_2 => cases h
 rename_i x0;simp only [Option.bind_eq_some_iff, Option.some.injEq] at h;obtain ⟨l, e0, rfl⟩ := h;obtain rfl := AV.toLds_ e0;clear e0;obtain ⟨l, rfl⟩ := eta (α := List Ld) l;obtain ⟨v0, us0, rfl, hv0, h0⟩ := hE.head;obtain rfl := h0.none;obtain ⟨A0, q0, rfl, hc0, hr0⟩ := hv0.lds;exact (m_Add A0 q0 _ l rfl w hr0 hp).mono fun e w' ⟨k1, k2⟩ => ⟨_, k1, k2, avr_tup2 (avr_ld _) (.int _ _)⟩
theorem take_getD {α : Type} {l : List α} {k : Nat} (d : α) (h : k < l.length) : l.take (k + 1) = l.take k ++ [l.getD k d] := by
 rw [List.take_succ_eq_append_getElem h, List.getD_eq_getElem?_getD, List.getElem?_eq_getElem h, Option.getD_some]
theorem getD_mem {α : Type} {l : List α} {k : Nat} (d : α) (h : k < l.length) : l.getD k d ∈ l := by
 rw [List.getD_eq_getElem?_getD, List.getElem?_eq_getElem h, Option.getD_some];exact List.getElem_mem h
theorem all_bad {α : Type} {p : α -> Bool} {l : List α} {k : Nat} {d : α} (hk : k < l.length) (h : p (l.getD k d) = false) : l.all p = false := by
 rw [List.all_eq_false];exact ⟨_, getD_mem d hk, by rw [h]; simp⟩
theorem all_more {α : Type} {p : α -> Bool} {l : List α} {k : Nat} {d : α} (h0 : (l.take k).all p = true) (hk : k < l.length) (h : p (l.getD k d) = true) : (l.take (k + 1)).all p = true := by
 rw [take_getD d hk, List.all_append, h0];simp [h, -List.getD_eq_getElem?_getD]
theorem all_end {α : Type} {p : α -> Bool} {l : List α} {k : Nat} (h0 : (l.take k).all p = true) (hk : l.length <= k) : l.all p = true := by rwa [List.take_of_length_le hk] at h0
def conHalves : Con := ⟨152, [.int .u8], fun
 | [x0] => (x0.toU8).bind fun s => some ⟨fun _ => True, .sl true .u8 fun _ => halvesF (s ())⟩
 | _ => none⟩
set_option maxRecDepth 100000 in
set_option maxHeartbeats 4000000 in
theorem conHalves_ok : ConOk Tryz.prog conHalves := by
 refine fnOk [] trivial Tryz.func152 (by kernel_rfl) fun avs res h hp => ?_;simp only [conHalves] at h;split at h
 case h_2 => cases h
 rename_i x0;simp only [Option.bind_eq_some_iff, Option.some.injEq] at h;obtain ⟨s, e0, rfl⟩ := h;obtain rfl := AV.toU8_ e0;clear e0;obtain ⟨s, rfl⟩ := eta (α := Int) s;refine ⟨[], ?_⟩
 conv => arg 1; cbv
 simp (maxSteps := 4000000) only [P_vc, P_br, P_and, P_fin, V_nil, V_one, V_cons, T_self, castK, succK, Int.toNat_natCast, predK, decide_eq_true_eq, decide_eq_false_iff_not, List.map_cons, List.map_nil, cond_true, cond_false];unfold halvesF;grind
def conTaken : Con := ⟨124, [.sl .stowed], fun
 | [x0] => (x0.toStos).bind fun l => some ⟨fun _ => (l ()).length <= 1000000, .sl true .slot fun _ => (l ()).map slotOf⟩
 | _ => none⟩
def lpTaken (l : List Stowed) : Lp where
 X := Nat
 ov k := [(8, .int .i64 fun _ => (k : Int)), (3, .own 0)]
 oe k := [(0, .row true .slot 40 fun _ => (l.take k).map slotOf)]
 I k := k <= l.length
 μ k _ := l.length - k
 x0 := 0
 nx := some fun k => k + 1
set_option maxRecDepth 100000 in
set_option maxHeartbeats 4000000 in
theorem conTaken_ok : ConOk Tryz.prog conTaken := by
 refine fnOk [] trivial Tryz.func124 (by kernel_rfl) fun avs res h hp => ?_;simp only [conTaken] at h;split at h
 case h_2 => cases h
 rename_i x0;simp only [Option.bind_eq_some_iff, Option.some.injEq] at h;obtain ⟨l, e0, rfl⟩ := h;obtain rfl := AV.toStos_ e0;clear e0;obtain ⟨l, rfl⟩ := eta (α := List Stowed) l;have hl : l.length <= 1000000 := hp;refine ⟨[(3, lpTaken l)], ?_⟩
 conv => arg 1; cbv
 refine ⟨?_, fun (k : Nat) hk => ?_⟩
 . simp (maxSteps := 4000000) only [P_vc, P_br, P_and, P_fin, V_nil, V_one, V_cons, T_self, castK, succK, Int.toNat_natCast, predK, decide_eq_true_eq, decide_eq_false_iff_not, List.map_cons, List.map_nil, cond_true, cond_false];exact ⟨Nat.zero_le _, rfl, rfl⟩
 . conv => arg 1; cbv
   have hk' : k <= l.length := hk;simp (maxSteps := 4000000) only [P_vc, P_br, P_and, P_fin, V_nil, V_one, V_cons, T_self, castK, succK, Int.toNat_natCast, predK, decide_eq_true_eq, decide_eq_false_iff_not, List.map_cons, List.map_nil, cond_true, cond_false];refine ⟨fun h => ?_, fun h => by rw [List.take_of_length_le (by omega)]⟩;have h2 : k < l.length := by omega
   refine ⟨by omega, by simp; omega, ⟨by omega, by omega⟩, ⟨by omega, by omega⟩, by omega, ?_⟩;rw [take_getD Tc.stowed.dflt h2, List.map_append];rfl
def fitsB (cs : List Col) (bs : List Box) (l : List Stowed) (c : Int) : Bool := decide ((cs.getD c.toNat Tc.col.dflt).height <= 0) || (decide (heightF bs l c 1 <= (cs.getD c.toNat Tc.col.dflt).height) && decide (heightF bs l c 2 <= (cs.getD c.toNat Tc.col.dflt).height))
def conFits : Con := ⟨128, [.agg shipSg, .sl .box, .sl .stowed, .int .i64], fun
 | [x0, x1, x2, x3] => (x0.toShip).bind fun s => (x1.toBoxes).bind fun bs => (x2.toStos).bind fun l => (x3.toI).bind fun c => some ⟨fun _ => (bs ()).length <= 1000000000000 /\ (l ()).length <= 1000000 /\ 0 <= c () /\ c () < ((s ()).cols.length : Int), .bool fun _ => fitsB (s ()).cols (bs ()) (l ()) (c ())⟩
 | _ => none⟩
set_option maxRecDepth 100000 in
set_option maxHeartbeats 4000000 in
theorem conFits_ok : ConOk Tryz.prog conFits := by
 refine fnOk [conStowHeight] ⟨conStowHeight_ok, trivial⟩ Tryz.func128 (by kernel_rfl) fun avs res h hp => ?_;simp only [conFits] at h;split at h
 case h_2 => cases h
 rename_i x0 x1 x2 x3;simp only [Option.bind_eq_some_iff, Option.some.injEq] at h;obtain ⟨s, e0, bs, e1, l, e2, c, e3, rfl⟩ := h;obtain rfl := AV.toShip_ e0;obtain rfl := AV.toBoxes_ e1;obtain rfl := AV.toStos_ e2;obtain rfl := AV.toI_ e3;clear e0 e1 e2 e3;obtain ⟨s, rfl⟩ := eta (α := Shp) s;obtain ⟨bs, rfl⟩ := eta (α := List Box) bs;obtain ⟨l, rfl⟩ := eta (α := List Stowed) l;obtain ⟨c, rfl⟩ := eta (α := Int) c;have hZh1 : bs.length <= 1000000000000 /\ l.length <= 1000000 /\ 0 <= c /\ c < (s.cols.length : Int) := hp;have h1 := hZh1.1;have h2 := hZh1.2.1;have h3 := hZh1.2.2.1;have h4 := hZh1.2.2.2;refine ⟨[], ?_⟩
 conv => arg 1; cbv
 simp (maxSteps := 4000000) only [P_vc, P_br, P_and, P_fin, V_nil, V_one, V_cons, T_self, castK, succK, Int.toNat_natCast, predK, decide_eq_true_eq, decide_eq_false_iff_not, List.map_cons, List.map_nil, cond_true, cond_false];unfold fitsB;generalize s.cols.getD c.toNat Tc.col.dflt = x at *
 grind
def slotOk (cs : List Col) (x : Slot) (size : Int) : Bool := decide (0 <= x.col) && (decide (x.col < (cs.length : Int)) && (decide (0 <= x.tier) && (decide (x.tier < (cs.getD x.col.toNat Tc.col.dflt).tiers) && (halvesF size).any fun y => decide (x.half = y))))
theorem halvesF_len (s : Int) : (halvesF s).length <= 2 := by unfold halvesF; split <;> (try split) <;> simp
def conSlotRight : Con := ⟨125, [.agg shipSg, .agg sloSg, .int .u8], fun
 | [x0, x1, x2] => (x0.toShip).bind fun s => (x1.toSlo).bind fun x => (x2.toU8).bind fun z => some ⟨fun _ => True, .bool fun _ => slotOk (s ()).cols (x ()) (z ())⟩
 | _ => none⟩
set_option maxRecDepth 100000 in
set_option maxHeartbeats 4000000 in
theorem conSlotRight_ok : ConOk Tryz.prog conSlotRight := by
 refine fnOk [conHalves, conHasU8] ⟨conHalves_ok, conHasU8_ok, trivial⟩ Tryz.func125 (by kernel_rfl) fun avs res h hp => ?_;simp only [conSlotRight] at h;split at h
 case h_2 => cases h
 rename_i x0 x1 x2;simp only [Option.bind_eq_some_iff, Option.some.injEq] at h;obtain ⟨s, e0, x, e1, z, e2, rfl⟩ := h;obtain rfl := AV.toShip_ e0;obtain rfl := AV.toSlo_ e1;obtain rfl := AV.toU8_ e2;clear e0 e1 e2;obtain ⟨s, rfl⟩ := eta (α := Shp) s;obtain ⟨x, rfl⟩ := eta (α := Slot) x;obtain ⟨z, rfl⟩ := eta (α := Int) z;refine ⟨[], ?_⟩;have hh := halvesF_len z
 conv => arg 1; cbv
 simp (maxSteps := 4000000) only [P_vc, P_br, P_and, P_fin, V_nil, V_one, V_cons, T_self, castK, succK, Int.toNat_natCast, predK, decide_eq_true_eq, decide_eq_false_iff_not, List.map_cons, List.map_nil, cond_true, cond_false];unfold slotOk;generalize s.cols.getD x.col.toNat Tc.col.dflt = c at *
 generalize halvesF z = hs at *
 grind
def spnB (x : Spn) : Bool := decide (x.low <= x.n) && decide (x.n <= x.high)
def conSpans : Con := ⟨183, [.sl .spn], fun
 | [x0] => (x0.toSpns).bind fun l => some ⟨fun _ => (l ()).length <= 1000000000000, .bool fun _ => (l ()).all spnB⟩
 | _ => none⟩
def lpSpans (l : List Spn) : Lp where
 X := Nat
 ov k := [(7, .int .i64 fun _ => (k : Int))]
 oe _ := []
 I k := k <= l.length /\ (l.take k).all spnB = true
 μ k _ := l.length - k
 x0 := 0
 nx := some fun k => k + 1
set_option maxRecDepth 100000 in
set_option maxHeartbeats 4000000 in
theorem conSpans_ok : ConOk Tryz.prog conSpans := by
 refine fnOk [] trivial Tryz.func183 (by kernel_rfl) fun avs res h hp => ?_;simp only [conSpans] at h;split at h
 case h_2 => cases h
 rename_i x0;simp only [Option.bind_eq_some_iff, Option.some.injEq] at h;obtain ⟨l, e0, rfl⟩ := h;obtain rfl := AV.toSpns_ e0;clear e0;obtain ⟨l, rfl⟩ := eta (α := List Spn) l;have hl : l.length <= 1000000000000 := hp;refine ⟨[(2, lpSpans l)], ?_⟩
 conv => arg 1; cbv
 refine ⟨?_, fun (k : Nat) hk => ?_⟩
 . simp (maxSteps := 4000000) only [P_vc, P_br, P_and, P_fin, V_nil, V_one, V_cons, T_self, castK, succK, Int.toNat_natCast, predK, decide_eq_true_eq, decide_eq_false_iff_not, List.map_cons, List.map_nil, cond_true, cond_false];simp
 . conv => arg 1; cbv
   have hZhk1 : k <= l.length /\ (l.take k).all spnB = true := hk;have hk1 := hZhk1.1;have hk2 := hZhk1.2;simp (maxSteps := 4000000) only [P_vc, P_br, P_and, P_fin, V_nil, V_one, V_cons, T_self, castK, succK, Int.toNat_natCast, predK, decide_eq_true_eq, decide_eq_false_iff_not, List.map_cons, List.map_nil, cond_true, cond_false];refine ⟨fun h => ?_, fun h => (all_end hk2 (by omega)).symm⟩;have h2 : k < l.length := by omega
   have ha := all_bad (p := spnB) (d := Tc.spn.dflt) h2;have hb := all_more (d := Tc.spn.dflt) hk2 h2;generalize l.getD k Tc.spn.dflt = x at *
   unfold spnB at *
   simp only [inI64];grind
def colSpans (c : Col) : List Spn := [⟨c.bay, 0, 39⟩, ⟨c.row, 0, 30⟩, ⟨c.tiers, 1, 10⟩, ⟨c.height, 0, 40000⟩, ⟨c.k20, 0, 500000000⟩, ⟨c.k40, 0, 500000000⟩, ⟨c.lash, 0, 1000000000000⟩, ⟨c.x, -500000, 500000⟩, ⟨c.y, -500000, 500000⟩, ⟨c.z, -500000, 500000⟩]
def riseB (t : Int) (l : List Int) (i : Nat) : Bool := (decide (0 <= l.getD i 0) && decide (l.getD i 0 <= t)) && (decide (i = 0) || decide (l.getD (i - 1) 0 < l.getD i 0))
def risesB (t : Int) (l : List Int) : Bool := decide (∀ i, i < l.length -> riseB t l i = true)
def colB (c : Col) : Bool := risesB (c.tiers - 1) c.plugs && (colSpans c).all spnB
theorem rises_bad {t : Int} {l : List Int} {k : Nat} (hk : k < l.length) (h : riseB t l k = false) : risesB t l = false := by
 unfold risesB;rw [decide_eq_false_iff_not];intro h2;rw [h2 k hk] at h;cases h
theorem rises_end {t : Int} {l : List Int} {k : Nat} (hk : l.length <= k) (h : ∀ j, j < k -> riseB t l j = true) : risesB t l = true := by
 unfold risesB;rw [decide_eq_true_eq];exact fun i hi => h i (by omega)
def conColRight : Con := ⟨153, [.agg colSg], fun
 | [x0] => (x0.toCol).bind fun c => some ⟨fun _ => (c ()).plugs.length <= 1000000000000 /\ inI64 ((c ()).tiers - 1), .bool fun _ => colB (c ())⟩
 | _ => none⟩
def lpPlugs (c : Col) : Lp where
 X := Nat
 ov k := [(9, .int .i64 fun _ => (k : Int))]
 oe _ := []
 I k := k <= c.plugs.length /\ ∀ j, j < k -> riseB (c.tiers - 1) c.plugs j = true
 μ k _ := c.plugs.length - k
 x0 := 0
 nx := some fun k => k + 1
set_option maxRecDepth 100000 in
set_option maxHeartbeats 4000000 in
theorem conColRight_ok : ConOk Tryz.prog conColRight := by
 refine fnOk [conSpans] ⟨conSpans_ok, trivial⟩ Tryz.func153 (by kernel_rfl) fun avs res h hp => ?_;simp only [conColRight] at h;split at h
 case h_2 => cases h
 rename_i x0;simp only [Option.bind_eq_some_iff, Option.some.injEq] at h;obtain ⟨c, e0, rfl⟩ := h;obtain rfl := AV.toCol_ e0;clear e0;obtain ⟨c, rfl⟩ := eta (α := Col) c;have hZh1 : c.plugs.length <= 1000000000000 /\ inI64 (c.tiers - 1) := hp;have h1 := hZh1.1;have h2 := hZh1.2;refine ⟨[(3, lpPlugs c)], ?_⟩
 conv => arg 1; cbv
 refine ⟨?_, fun (k : Nat) hk => ?_⟩
 . simp (maxSteps := 4000000) only [P_vc, P_br, P_and, P_fin, V_nil, V_one, V_cons, T_self, castK, succK, Int.toNat_natCast, predK, decide_eq_true_eq, decide_eq_false_iff_not, List.map_cons, List.map_nil, cond_true, cond_false];simp
 . conv => arg 1; cbv
   have hZhk1 : k <= c.plugs.length /\ ∀ j, j < k -> riseB (c.tiers - 1) c.plugs j = true := hk;have hk1 := hZhk1.1;have hk2 := hZhk1.2;simp (maxSteps := 4000000) only [P_vc, P_br, P_and, P_fin, V_nil, V_one, V_cons, T_self, castK, succK, Int.toNat_natCast, predK, decide_eq_true_eq, decide_eq_false_iff_not, List.map_cons, List.map_nil, cond_true, cond_false];refine ⟨fun h => ?_, fun h => ?_⟩
   . have h3 : k < c.plugs.length := by omega
     have ha := rises_bad (t := c.tiers - 1) h3;have hb := upto_more (k := k) hk2;have hc : colB c = (risesB (c.tiers - 1) c.plugs && (colSpans c).all spnB) := rfl;have he : riseB (c.tiers - 1) c.plugs k = ((decide (0 <= c.plugs.getD k Tc.int.dflt) && decide (c.plugs.getD k Tc.int.dflt <= c.tiers - 1)) && (decide (k = 0) || decide (c.plugs.getD (k - 1) Tc.int.dflt < c.plugs.getD k Tc.int.dflt))) := rfl;generalize c.plugs.getD k Tc.int.dflt = x at *
     generalize c.plugs.getD (k - 1) Tc.int.dflt = y at *
     rw [hc];clear hc hk2;generalize riseB (c.tiers - 1) c.plugs = R at *
     generalize (colSpans c).all spnB = z at *
     simp only [inI64, spnB, List.all_cons, List.all_nil, Bool.and_true, List.length_cons, List.length_nil] at *
     grind
   . have hc : colB c = (colSpans c).all spnB := by unfold colB; rw [rises_end (by omega) hk2, Bool.true_and]
     rw [hc];exact ⟨by simp, rfl⟩
def metM (ks : List (List Kx)) : List Kx -> Option Int := fun k => if ks.count k = 0 then none else some (ks.count k : Int)
theorem metM_getD (ks : List (List Kx)) (k : List Kx) (d : Int) (h : d = 0) : (metM ks k).getD d = (ks.count k : Int) := by
 subst h;unfold metM;split
 . rename_i h; rw [h]; rfl
 . rfl
theorem metM_add (ks : List (List Kx)) (k : List Kx) : setM (metM ks) k ((ks.count k : Int) + 1) = metM (ks ++ [k]) := by
 funext k';unfold setM metM;rw [List.count_append];by_cases h : k' = k
 . subst h;simp
 . rw [if_neg h];have : List.count k' [k] = 0 := List.count_eq_zero.2 (by simpa using h);rw [this, Nat.add_zero]
theorem setM_twice {α : Type} (m : List Kx -> Option α) (k : List Kx) (x y : α) : setM (setM m k x) k y = setM m k y := by
 funext k';unfold setM;by_cases h : k' = k <;> simp [h]
theorem setM_at {α : Type} (m : List Kx -> Option α) (k : List Kx) (x : α) : setM m k x k = some x := by unfold setM; rw [if_pos rfl]
def colKey (c : Col) : List Kx := [.i .i64 c.bay, .i .i64 c.row, .i .i64 (cond c.deck 1 0)]
def covKeys (x : Cov) : List (List Kx) := x.rows.map fun r => [.i .i64 x.bay, .i .i64 r, .i .i64 2]
def covB (x : Cov) : Bool := (decide (0 <= x.bay) && decide (x.bay < 40)) && (!decide (x.rows.length = 0) && risesB 30 x.rows)
def shipKeys (s : Shp) : List (List Kx) := s.cols.map colKey ++ s.covs.flatMap covKeys
def shipB (s : Shp) : Bool := (decide (1 <= s.cols.length) && (decide (s.cols.length <= 200) && decide (s.covs.length <= 40))) && (s.cols.all colB && (s.covs.all covB && decide ((shipKeys s).Nodup)))
theorem col_eta (c : Col) : (⟨c.bay, c.row, c.deck, c.tiers, c.height, c.k20, c.k40, c.lash, c.plugs, c.x, c.y, c.z⟩ : Col) = c := rfl
theorem covKeys_more {x : Cov} {j : Nat} (h : j < x.rows.length) : (covKeys x).take (j + 1) = (covKeys x).take j ++ [[Kx.i IntKind.i64 x.bay, Kx.i IntKind.i64 (x.rows.getD j Tc.int.dflt), Kx.i IntKind.i64 2]] := by
 unfold covKeys;rw [<- List.map_take, <- List.map_take, take_getD Tc.int.dflt h, List.map_append];rfl
theorem flat_len' : ∀ (l : List Cov), (∀ y ∈ l, y.rows.length <= 1000000000000) -> (l.flatMap covKeys).length <= l.length * 1000000000000
 | [], _ => by simp
 | y :: l, h => by
  have e3 := h y (.head _);have e4 := flat_len' l fun z hz => h z (.tail _ hz);simp only [List.flatMap_cons, List.length_append, List.length_cons, covKeys, List.length_map] at e4 ⊢;omega
theorem count_in (key : List Kx) (l : List (List Kx)) (h : l.length <= 1000000000000000) : inI64 ((l.count key : Int) + 1) := by
 have := List.count_le_length (a := key) (l := l);unfold inI64;omega
theorem keys_fit {s : Shp} {key : List Kx} (h : key ∈ shipKeys s) : fitsL (Kc.arr 3 (Lk.int IntKind.i64)).ls key = true := by
 unfold shipKeys at h;rcases List.mem_append.1 h with h | h
 . obtain ⟨c, _, rfl⟩ := List.mem_map.1 h;rfl
 . obtain ⟨x, _, h⟩ := List.mem_flatMap.1 h;obtain ⟨r, _, rfl⟩ := List.mem_map.1 h;rfl
def conShipRight : Con := ⟨123, [.agg shipSg], fun
 | [x0] => (x0.toShip).bind fun s => some ⟨fun _ => (∀ c ∈ (s ()).cols, c.plugs.length <= 1000000000000 /\ inI64 (c.tiers - 1)) /\ ∀ x ∈ (s ()).covs, x.rows.length <= 1000000000000, .bool fun _ => shipB (s ())⟩
 | _ => none⟩
def lpCols (s : Shp) : Lp where
 X := Nat
 ov k := [(33, .int .i64 fun _ => (k : Int))]
 oe k := [(1, .map true false (.arr 3 (.int .i64)) .int 225 fun _ => metM ((s.cols.take k).map colKey))]
 I k := k <= s.cols.length /\ (s.cols.take k).all colB = true
 μ k _ := s.cols.length - k
 x0 := 0
 nx := some fun k => k + 1
def lpCovs (s : Shp) : Lp where
 X := Nat
 ov k := [(57, .int .i64 fun _ => (k : Int))]
 oe k := [(1, .map true false (.arr 3 (.int .i64)) .int 225 fun _ => metM (s.cols.map colKey ++ (s.covs.take k).flatMap covKeys))]
 I k := k <= s.covs.length /\ (s.covs.take k).all covB = true
 μ k _ := s.covs.length - k
 x0 := 0
 nx := some fun k => k + 1
def lpRows (s : Shp) (k : Nat) (x : Cov) : Lp where
 X := Nat
 ov j := [(78, .int .i64 fun _ => (j : Int))]
 oe j := [(1, .map true false (.arr 3 (.int .i64)) .int 225 fun _ => metM (s.cols.map colKey ++ (s.covs.take k).flatMap covKeys ++ (covKeys x).take j))]
 I j := j <= x.rows.length /\ ∀ i, i < j -> riseB 30 x.rows i = true
 μ j _ := x.rows.length - j
 x0 := 0
 nx := some fun j => j + 1
def lpMet (ks : List (List Kx)) (n : Nat) : Lp where
 X := List (List Kx) × Nat
 ov _ := []
 oe p := [(2, .iter 1 (.arr 3 (.int .i64)) (fun _ => p.1) fun _ => p.2)]
 I p := ∀ key ∈ p.1, ∀ x, metM ks key = some x -> x <= 1
 μ p _ := p.2
 x0 := ([], n)
 nx := none
set_option maxRecDepth 100000 in
set_option maxHeartbeats 4000000 in
theorem conShipRight_ok : ConOk Tryz.prog conShipRight := by
 refine fnOk [conColRight] ⟨conColRight_ok, trivial⟩ Tryz.func123 (by kernel_rfl) fun avs res h hp => ?_;simp only [conShipRight] at h;split at h
 case h_2 => cases h
 rename_i x0;simp only [Option.bind_eq_some_iff, Option.some.injEq] at h;obtain ⟨s, e0, rfl⟩ := h;obtain rfl := AV.toShip_ e0;clear e0;obtain ⟨s, rfl⟩ := eta (α := Shp) s;have hZh1 : (∀ c ∈ s.cols, c.plugs.length <= 1000000000000 /\ inI64 (c.tiers - 1)) /\ ∀ x ∈ s.covs, x.rows.length <= 1000000000000 := hp;have h1 := hZh1.1;have h2 := hZh1.2;refine ⟨[(5, lpCols s), (15, lpCovs s)], ?_⟩
 conv => arg 1; cbv
 refine ⟨fun g1 => ?_, fun g1 => ⟨fun g2 => ?_, fun g2 => ⟨fun g3 => ?_, fun g3 => ⟨?_, fun (k : Nat) hk => ?_⟩⟩⟩⟩
 . simp (maxSteps := 4000000) only [P_vc, P_br, P_and, P_fin, V_nil, V_one, V_cons, T_self, castK, succK, Int.toNat_natCast, predK, decide_eq_true_eq, decide_eq_false_iff_not, List.map_cons, List.map_nil, cond_true, cond_false];simp only [decide_eq_true_eq] at g1;unfold shipB;grind
 . simp (maxSteps := 4000000) only [P_vc, P_br, P_and, P_fin, V_nil, V_one, V_cons, T_self, castK, succK, Int.toNat_natCast, predK, decide_eq_true_eq, decide_eq_false_iff_not, List.map_cons, List.map_nil, cond_true, cond_false];simp only [decide_eq_true_eq] at g2;unfold shipB;grind
 . simp (maxSteps := 4000000) only [P_vc, P_br, P_and, P_fin, V_nil, V_one, V_cons, T_self, castK, succK, Int.toNat_natCast, predK, decide_eq_true_eq, decide_eq_false_iff_not, List.map_cons, List.map_nil, cond_true, cond_false];simp only [decide_eq_true_eq] at g3;unfold shipB;grind
 . simp (maxSteps := 4000000) only [P_vc, P_br, P_and, P_fin, V_nil, V_one, V_cons, T_self, castK, succK, Int.toNat_natCast, predK, decide_eq_true_eq, decide_eq_false_iff_not, List.map_cons, List.map_nil, cond_true, cond_false];exact ⟨⟨Nat.zero_le _, rfl⟩, rfl, rfl⟩
 simp only [decide_eq_false_iff_not, castK] at g1 g2 g3;have hZhk1 : k <= s.cols.length /\ (s.cols.take k).all colB = true := hk;have hk1 := hZhk1.1;have hk2 := hZhk1.2
 conv => arg 1; cbv
 refine ⟨fun g4 => ?_, fun g4 => ?_⟩
 . simp only [decide_eq_true_eq, castK] at g4;have hlt : k < s.cols.length := by omega
   have hmem := getD_mem Tc.col.dflt hlt;have hZp := h1 _ hmem;have hp1 := hZp.1;have hp2 := hZp.2;simp (maxSteps := 4000000) only [P_vc, P_br, P_and, P_fin, V_nil, V_one, V_cons, T_self, castK, succK, Int.toNat_natCast, predK, decide_eq_true_eq, decide_eq_false_iff_not, List.map_cons, List.map_nil, cond_true, cond_false];simp only [setM_at, setM_twice, Option.getD_some, metM_getD _ _ Tc.int.dflt rfl];simp only [col_eta];have hA := all_bad (p := colB) (d := Tc.col.dflt) hlt;have hB := all_more (d := Tc.col.dflt) hk2 hlt;have hS : s.cols.all colB = false -> shipB s = false := fun h => by unfold shipB; rw [h]; simp
   have hC : ∀ key, inI64 (((List.map colKey (List.take k s.cols)).count key : Int) + 1) := fun key => count_in key _ (by simp; omega);have hM : List.map colKey (List.take (k + 1) s.cols) = List.map colKey (List.take k s.cols) ++ [colKey (s.cols.getD k Tc.col.dflt)] := by rw [take_getD Tc.col.dflt hlt, List.map_append]; rfl
   rw [hM, <- metM_add];have hK1 : (s.cols.getD k Tc.col.dflt).deck = true -> colKey (s.cols.getD k Tc.col.dflt) = [Kx.i IntKind.i64 (s.cols.getD k Tc.col.dflt).bay, Kx.i IntKind.i64 (s.cols.getD k Tc.col.dflt).row, Kx.i IntKind.i64 1] := fun h => by unfold colKey; rw [h]; rfl
   have hK2 : (s.cols.getD k Tc.col.dflt).deck = false -> colKey (s.cols.getD k Tc.col.dflt) = [Kx.i IntKind.i64 (s.cols.getD k Tc.col.dflt).bay, Kx.i IntKind.i64 (s.cols.getD k Tc.col.dflt).row, Kx.i IntKind.i64 0] := fun h => by unfold colKey; rw [h]; rfl
   have hk1i : inI64 ((k : Int) + 1) := ⟨by omega, by omega⟩
   generalize s.cols.getD k Tc.col.dflt = c at *
   generalize List.map colKey (List.take k s.cols) = L at *
   refine ⟨⟨by omega, g4⟩, fun hd => ?_, fun hd => ?_⟩
   . have hk := hK1 hd;rw [<- hk];generalize colKey c = key at *
     clear hK1 hK2;grind
   . have hk := hK2 hd;rw [<- hk];generalize colKey c = key at *
     clear hK1 hK2;grind
 have hkk : s.cols.length <= k := by simp only [decide_eq_false_iff_not, castK] at g4; omega
 have hcols : s.cols.all colB = true := all_end hk2 hkk;have hkey : List.map colKey (List.take k s.cols) = s.cols.map colKey := by rw [List.take_of_length_le hkk]
 clear g4;refine ⟨?_, fun (m : Nat) hm => ?_⟩
 . simp (maxSteps := 4000000) only [P_vc, P_br, P_and, P_fin, V_nil, V_one, V_cons, T_self, castK, succK, Int.toNat_natCast, predK, decide_eq_true_eq, decide_eq_false_iff_not, List.map_cons, List.map_nil, cond_true, cond_false];rw [hkey];refine ⟨⟨Nat.zero_le _, rfl⟩, rfl, ?_⟩;simp
 have hZhm1 : m <= s.covs.length /\ (s.covs.take m).all covB = true := hm;have hm1 := hZhm1.1;have hm2 := hZhm1.2
 conv => arg 1; cbv
 refine ⟨fun g4 => ?_, fun g4 => ?_⟩
 . simp only [decide_eq_true_eq, castK] at g4;have hlt : m < s.covs.length := by omega
   have hmem := getD_mem Tc.cov.dflt hlt;have hp2 := h2 _ hmem;have hA := all_bad (p := covB) (d := Tc.cov.dflt) hlt;have hB := all_more (d := Tc.cov.dflt) hm2 hlt;have hS : s.covs.all covB = false -> shipB s = false := fun h => by unfold shipB; rw [h]; simp
   refine ⟨⟨Int.natCast_nonneg m, g4⟩, fun g5 => ?_, fun g5 => ⟨fun g6 => ?_, fun g6 => ⟨fun g7 => ?_, fun g7 => ?_⟩⟩⟩
   all_goals simp only [decide_eq_true_eq, decide_eq_false_iff_not, castK, Int.toNat_natCast] at *
   . simp (maxSteps := 4000000) only [P_vc, P_br, P_and, P_fin, V_nil, V_one, V_cons, T_self, castK, succK, Int.toNat_natCast, predK, decide_eq_true_eq, decide_eq_false_iff_not, List.map_cons, List.map_nil, cond_true, cond_false];refine (hS (hA ?_)).symm;unfold covB;generalize s.covs.getD m Tc.cov.dflt = x at *
     grind
   . simp (maxSteps := 4000000) only [P_vc, P_br, P_and, P_fin, V_nil, V_one, V_cons, T_self, castK, succK, Int.toNat_natCast, predK, decide_eq_true_eq, decide_eq_false_iff_not, List.map_cons, List.map_nil, cond_true, cond_false];refine (hS (hA ?_)).symm;unfold covB;generalize s.covs.getD m Tc.cov.dflt = x at *
     grind
   . simp (maxSteps := 4000000) only [P_vc, P_br, P_and, P_fin, V_nil, V_one, V_cons, T_self, castK, succK, Int.toNat_natCast, predK, decide_eq_true_eq, decide_eq_false_iff_not, List.map_cons, List.map_nil, cond_true, cond_false];refine (hS (hA ?_)).symm;unfold covB;generalize s.covs.getD m Tc.cov.dflt = x at *
     grind
   . refine nameIt (s.covs.getD m Tc.cov.dflt) fun x hx => ?_;refine ⟨lpRows s m x, ?_⟩
     conv => arg 1; cbv
     have hcv : covB (s.covs.getD m Tc.cov.dflt) = risesB 30 (s.covs.getD m Tc.cov.dflt).rows := by
      unfold covB;grind
     rw [hx] at hcv hA hB hp2 hmem;refine ⟨?_, fun (j : Nat) hj => ?_⟩
     . simp (maxSteps := 4000000) only [P_vc, P_br, P_and, P_fin, V_nil, V_one, V_cons, T_self, castK, succK, Int.toNat_natCast, predK, decide_eq_true_eq, decide_eq_false_iff_not, List.map_cons, List.map_nil, cond_true, cond_false];refine ⟨⟨Nat.zero_le _, by simp⟩, rfl, ?_⟩;simp
     have hZhj1 : j <= x.rows.length /\ ∀ i, i < j -> riseB 30 x.rows i = true := hj;have hj1 := hZhj1.1;have hj2 := hZhj1.2
     conv => arg 1; cbv
     simp (maxSteps := 4000000) only [P_vc, P_br, P_and, P_fin, V_nil, V_one, V_cons, T_self, castK, succK, Int.toNat_natCast, predK, decide_eq_true_eq, decide_eq_false_iff_not, List.map_cons, List.map_nil, cond_true, cond_false];rw [hx];simp only [setM_at, setM_twice, Option.getD_some, metM_getD _ _ Tc.int.dflt rfl];have hm1' : inI64 ((m : Int) + 1) := ⟨by omega, by omega⟩
     refine ⟨fun g8 => ?_, fun g8 => ?_⟩
     . have h8 : j < x.rows.length := by omega
       have hj1' : inI64 ((j : Int) + 1) := ⟨by omega, by omega⟩
       have hC : ∀ key, inI64 (((List.map colKey s.cols ++ List.flatMap covKeys (List.take m s.covs) ++ List.take j (covKeys x)).count key : Int) + 1) := fun key => by
        refine count_in key _ ?_;have e5 := flat_len' (List.take m s.covs) fun y hy => h2 y (List.mem_of_mem_take hy);have e6 : (List.take m s.covs).length <= 40 := by rw [List.length_take]; omega
        have e7 : (List.take j (covKeys x)).length <= 1000000000000 := by
         rw [List.length_take]; omega
        simp only [List.length_append, List.length_map];omega
       rw [covKeys_more h8, <- List.append_assoc, <- metM_add];have ha := rises_bad (t := 30) h8;have hb := upto_more (k := j) hj2;have he : riseB 30 x.rows j = ((decide (0 <= x.rows.getD j Tc.int.dflt) && decide (x.rows.getD j Tc.int.dflt <= 30)) && (decide (j = 0) || decide (x.rows.getD (j - 1) Tc.int.dflt < x.rows.getD j Tc.int.dflt))) := rfl;generalize x.rows.getD j Tc.int.dflt = u at *
       generalize x.rows.getD (j - 1) Tc.int.dflt = v at *
       generalize List.map colKey s.cols ++ List.flatMap covKeys (List.take m s.covs) ++ List.take j (covKeys x) = L at *
       generalize [Kx.i IntKind.i64 x.bay, Kx.i IntKind.i64 u, Kx.i IntKind.i64 2] = key at *
       generalize riseB 30 x.rows = R at *
       generalize risesB 30 x.rows = RR at *
       clear hmem hx hj2;have hjp : 0 < (j : Int) -> inI64 ((j : Int) - 1) := fun h => ⟨by omega, by omega⟩
       grind
     . have h8 : x.rows.length <= j := by omega
       have hr := rises_end h8 hj2;rw [<- hcv] at hr;have hT : (covKeys x).take j = covKeys x := List.take_of_length_le (by unfold covKeys; rw [List.length_map]; exact h8);have hU : List.flatMap covKeys (List.take (m + 1) s.covs) = List.flatMap covKeys (List.take m s.covs) ++ covKeys x := by
        rw [take_getD Tc.cov.dflt hlt, hx, List.flatMap_append];simp
       rw [hT, hU, <- List.append_assoc];exact ⟨hm1', ⟨⟨hlt, hB hr⟩, by omega⟩, by omega, rfl⟩
 . have hmm : s.covs.length <= m := by simp only [decide_eq_false_iff_not, castK] at g4; omega
   have hcovs : s.covs.all covB = true := all_end hm2 hmm;have hT : List.take m s.covs = s.covs := List.take_of_length_le hmm;clear g4;intro n _;refine nameIt (shipKeys s) fun ks hks => ?_
   conv => arg 1; cbv
   refine ⟨lpMet ks n, ?_⟩
   conv => arg 1; cbv
   refine ⟨?_, fun (p : List (List Kx) × Nat) hp => ?_⟩
   . simp (maxSteps := 4000000) only [P_vc, P_br, P_and, P_fin, V_nil, V_one, V_cons, T_self, castK, succK, Int.toNat_natCast, predK, decide_eq_true_eq, decide_eq_false_iff_not, List.map_cons, List.map_nil, cond_true, cond_false];simp
   have hp' : ∀ key ∈ p.1, ∀ x, metM ks key = some x -> x <= 1 := hp;have hmet : metM (List.map colKey s.cols ++ List.flatMap covKeys (List.take m s.covs)) = metM ks := by rw [hT, <- hks]; rfl
   conv => arg 1; cbv
   refine ⟨fun g5 => fun (u : Unit) hu => ?_, fun g5 => fun (q : List Kx × Nat) hq => ?_⟩
   . conv => arg 1; cbv
     simp (maxSteps := 4000000) only [P_vc, P_br, P_and, P_fin, V_nil, V_one, V_cons, T_self, castK, succK, Int.toNat_natCast, predK, decide_eq_true_eq, decide_eq_false_iff_not, List.map_cons, List.map_nil, cond_true, cond_false];have hu' : ∀ (key : List Kx) (x : Int), fitsL (Kc.arr 3 (Lk.int IntKind.i64)).ls key = true -> metM (List.map colKey s.cols ++ List.flatMap covKeys (List.take m s.covs)) key = some x -> key ∈ p.1 := hu;rw [hmet] at hu';have hnd : (shipKeys s).Nodup := by
      rw [List.nodup_iff_count];intro key;rcases Nat.eq_zero_or_pos (ks.count key) with h0 | h0
      . rw [hks, h0]; omega
      . have hin : key ∈ shipKeys s := by rw [hks]; exact List.count_pos_iff.1 h0
        have he : metM ks key = some (ks.count key : Int) := by unfold metM; rw [if_neg (by omega)]
        have := hp' key (hu' key _ (keys_fit hin) he) _ he;rw [hks];omega
     unfold shipB;rw [hcols, hcovs];simp only [hnd, decide_true, Bool.and_true];grind
   . have hq' : fitsL (Kc.arr 3 (Lk.int IntKind.i64)).ls q.1 = true /\ (metM (List.map colKey s.cols ++ List.flatMap covKeys (List.take m s.covs)) q.1).isSome = true /\ ¬ q.1 ∈ p.1 /\ q.2 < p.2 := hq;have q1 := hq'.1;have q2 := hq'.2.1;have q3 := hq'.2.2.1;have q4 := hq'.2.2.2;rw [hmet] at q2
     conv => arg 1; cbv
     simp (maxSteps := 4000000) only [P_vc, P_br, P_and, P_fin, V_nil, V_one, V_cons, T_self, castK, succK, Int.toNat_natCast, predK, decide_eq_true_eq, decide_eq_false_iff_not, List.map_cons, List.map_nil, cond_true, cond_false];simp only [hmet, List.headD_cons, metM_getD _ _ Tc.int.dflt rfl];refine ⟨by simp, fun h => ?_, fun h => ?_⟩
     . have hnd : ¬ (shipKeys s).Nodup := fun hn => by
        have := List.nodup_iff_count.1 hn q.1;rw [hks] at this;omega
       unfold shipB;simp [hnd]
     . refine ⟨(q.1 :: p.1, q.2), ⟨fun key' hk' x hx => ?_, q4⟩, ?_⟩
       . rcases List.mem_cons.1 hk' with rfl | hk'
         . unfold metM at hx;split at hx
           . cases hx
           . cases hx; omega
         . exact hp' key' hk' x hx
       . conv => arg 1; cbv
         simp (maxSteps := 4000000) only [P_vc, P_br, P_and, P_fin, V_nil, V_one, V_cons, T_self, castK, succK, Int.toNat_natCast, predK, decide_eq_true_eq, decide_eq_false_iff_not, List.map_cons, List.map_nil, cond_true, cond_false];simp
def stowAt (cs : List Col) (bs : List Box) (l : List Stowed) (k : Nat) : Bool :=
 ((findV bs (l.getD k Tc.stowed.dflt).box).2 && (decide (k = 0) || decide ((l.getD (k - 1) Tc.stowed.dflt).box < (l.getD k Tc.stowed.dflt).box))) &&
 ((slotOk cs (slotOf (l.getD k Tc.stowed.dflt)) (findV bs (l.getD k Tc.stowed.dflt).box).1.size && heldB (slotOf (l.getD k Tc.stowed.dflt)) (l.map slotOf)) &&
 decide (∀ j, j < k -> meetB (slotOf (l.getD k Tc.stowed.dflt)) ((l.map slotOf).getD j Tc.slot.dflt) = false))
def stowB (s : Shp) (bs : List Box) (l : List Stowed) : Bool :=
 shipB s && (decide (∀ k, k < l.length -> stowAt s.cols bs l k = true) && decide (∀ c, c < s.cols.length -> fitsB s.cols bs l (c : Int) = true))
theorem stow_bad {s : Shp} {bs : List Box} {l : List Stowed} {k : Nat} (hk : k < l.length) (h : stowAt s.cols bs l k = false) : stowB s bs l = false := by
 unfold stowB;have : decide (∀ k, k < l.length -> stowAt s.cols bs l k = true) = false := by
  rw [decide_eq_false_iff_not];intro h2;rw [h2 k hk] at h;cases h
 rw [this];simp
theorem tier_small {s : Shp} {x : Slot} {z : Int} (h : shipB s = true) (hx : slotOk s.cols x z = true) : x.tier <= 1000000 := by
 unfold slotOk at hx;simp only [Bool.and_eq_true, decide_eq_true_eq] at hx;obtain ⟨h1, h2, h3, h4, h5⟩ := hx;unfold shipB at h;simp only [Bool.and_eq_true] at h;have h6 := List.all_eq_true.1 h.2.1 _ (getD_mem Tc.col.dflt (show x.col.toNat < s.cols.length by omega));generalize s.cols.getD x.col.toNat Tc.col.dflt = c at *
 unfold colB at h6;simp only [Bool.and_eq_true] at h6;have h7 := List.all_eq_true.1 h6.2 ⟨c.tiers, 1, 10⟩ (by simp [colSpans]);unfold spnB at h7;simp only [Bool.and_eq_true, decide_eq_true_eq] at h7;omega
def shipPre (s : Shp) : Prop := (∀ c ∈ s.cols, c.plugs.length <= 1000000000000 /\ inI64 (c.tiers - 1)) /\ ∀ x ∈ s.covs, x.rows.length <= 1000000000000
def conStowRight : Con := ⟨82, [.agg shipSg, .sl .box, .sl .stowed], fun
 | [x0, x1, x2] => (x0.toShip).bind fun s => (x1.toBoxes).bind fun bs => (x2.toStos).bind fun l => some ⟨fun _ => shipPre (s ()) /\ (bs ()).length <= 1000000000000 /\ (l ()).length <= 1000000, .bool fun _ => stowB (s ()) (bs ()) (l ())⟩
 | _ => none⟩
def lpStow (s : Shp) (bs : List Box) (l : List Stowed) : Lp where
 X := Nat
 ov k := [(22, .int .i64 fun _ => (k : Int))]
 oe _ := []
 I k := k <= l.length /\ ∀ j, j < k -> stowAt s.cols bs l j = true
 μ k _ := l.length - k
 x0 := 0
 nx := some fun k => k + 1
def lpMeet (x : Slot) (all : List Slot) (k : Nat) : Lp where
 X := Nat
 ov j := [(71, .int .i64 fun _ => (j : Int))]
 oe _ := []
 I j := j <= k /\ ∀ i, i < j -> meetB x (all.getD i Tc.slot.dflt) = false
 μ j _ := k - j
 x0 := 0
 nx := some fun k => k + 1
def lpFits (s : Shp) (bs : List Box) (l : List Stowed) : Lp where
 X := Nat
 ov k := [(84, .int .i64 fun _ => (k : Int))]
 oe _ := []
 I k := k <= s.cols.length /\ ∀ j, j < k -> fitsB s.cols bs l (j : Int) = true
 μ k _ := s.cols.length - k
 x0 := 0
 nx := some fun k => k + 1
set_option maxRecDepth 100000 in
set_option maxHeartbeats 4000000 in
theorem conStowRight_ok : ConOk Tryz.prog conStowRight := by
 refine fnOk [conShipRight, conTaken, conStowFind, conSlotRight, conHeld, conMeet, conFits] ⟨conShipRight_ok, conTaken_ok, conStowFind_ok, conSlotRight_ok, conHeld_ok, conMeet_ok, conFits_ok, trivial⟩ Tryz.func82 (by kernel_rfl) fun avs res h hp => ?_;simp only [conStowRight] at h;split at h
 case h_2 => cases h
 rename_i x0 x1 x2;simp only [Option.bind_eq_some_iff, Option.some.injEq] at h;obtain ⟨s, e0, bs, e1, l, e2, rfl⟩ := h;obtain rfl := AV.toShip_ e0;obtain rfl := AV.toBoxes_ e1;obtain rfl := AV.toStos_ e2;clear e0 e1 e2;obtain ⟨s, rfl⟩ := eta (α := Shp) s;obtain ⟨bs, rfl⟩ := eta (α := List Box) bs;obtain ⟨l, rfl⟩ := eta (α := List Stowed) l;have hZhps : shipPre s /\ bs.length <= 1000000000000 /\ l.length <= 1000000 := hp;have hps := hZhps.1;have hbs := hZhps.2.1;have hl := hZhps.2.2;refine ⟨[(5, lpStow s bs l), (18, lpFits s bs l)], ?_⟩
 conv => arg 1; cbv
 refine ⟨hps, fun g1 => ?_, fun g1 => ⟨hl, ⟨?_, fun (k : Nat) hk => ?_⟩⟩⟩
 . simp (maxSteps := 4000000) only [P_vc, P_br, P_and, P_fin, V_nil, V_one, V_cons, T_self, castK, succK, Int.toNat_natCast, predK, decide_eq_true_eq, decide_eq_false_iff_not, List.map_cons, List.map_nil, cond_true, cond_false];unfold stowB;simp only [Bool.not_eq_true'] at g1;have g1' : shipB s = false := g1;rw [g1'];rfl
 . simp (maxSteps := 4000000) only [P_vc, P_br, P_and, P_fin, V_nil, V_one, V_cons, T_self, castK, succK, Int.toNat_natCast, predK, decide_eq_true_eq, decide_eq_false_iff_not, List.map_cons, List.map_nil, cond_true, cond_false];simp
 have hsB : shipB s = true := by
  have g1' : (!shipB s) = false := g1;simpa using g1'
 have hZhk1 : k <= l.length /\ ∀ j, j < k -> stowAt s.cols bs l j = true := hk;have hk1 := hZhk1.1;have hk2 := hZhk1.2
 conv => arg 1; cbv
 refine ⟨fun g2 => ?_, fun g2 => ?_⟩
 . have hlt : k < l.length := by simp only [decide_eq_true_eq, castK] at g2; omega
   refine nameIt (l.getD k Tc.stowed.dflt) fun x hx => ?_;refine nameIt (l.getD (k - 1) Tc.stowed.dflt) fun y hy => ?_;have hAt : stowAt s.cols bs l k = (((findV bs x.box).2 && (decide (k = 0) || decide (y.box < x.box))) && ((slotOk s.cols (slotOf x) (findV bs x.box).1.size && heldB (slotOf x) (l.map slotOf)) && decide (∀ j, j < k -> meetB (slotOf x) ((l.map slotOf).getD j Tc.slot.dflt) = false))) := by rw [<- hx, <- hy]; rfl
   have hbad := stow_bad (s := s) (bs := bs) hlt;have hgood := upto_more (k := k) hk2;refine ⟨⟨Int.natCast_nonneg k, of_decide_eq_true g2⟩, hbs, fun g3 => ?_, fun g3 => ⟨fun g4 => ⟨⟨by simp only [castK]; omega, by simp only [castK]; omega⟩, ⟨by simp only [decide_eq_true_eq, castK] at g4 ⊢; omega, by simp only [castK]; omega⟩, fun g5 => ?_, fun g5 => ?_⟩, fun g4 => ?_⟩⟩
   . simp (maxSteps := 4000000) only [P_vc, P_br, P_and, P_fin, V_nil, V_one, V_cons, T_self, castK, succK, Int.toNat_natCast, predK, decide_eq_true_eq, decide_eq_false_iff_not, List.map_cons, List.map_nil, cond_true, cond_false];refine (hbad ?_).symm;have g3' : (!(findV bs (l.getD k Tc.stowed.dflt).box).2) = true := g3;rw [hAt, <- hx];grind
   . simp (maxSteps := 4000000) only [P_vc, P_br, P_and, P_fin, V_nil, V_one, V_cons, T_self, castK, succK, Int.toNat_natCast, predK, decide_eq_true_eq, decide_eq_false_iff_not, List.map_cons, List.map_nil, cond_true, cond_false];refine (hbad ?_).symm;have g3' : (!(findV bs (l.getD k Tc.stowed.dflt).box).2) = false := g3;have g4' : decide (0 < (k : Int)) = true := g4;have g5' : decide ((l.getD k Tc.stowed.dflt).box <= (l.getD ((k : Int) - 1).toNat Tc.stowed.dflt).box) = true := g5;rw [predK, hx, hy] at g5';rw [hAt];grind
   . have ho : (decide (k = 0) || decide (y.box < x.box)) = true := by
      have g5' : decide ((l.getD k Tc.stowed.dflt).box <= (l.getD ((k : Int) - 1).toNat Tc.stowed.dflt).box) = false := g5;rw [predK, hx, hy] at g5';grind
     refine ⟨trivial, fun g6 => ?_, fun g6 => ?_⟩
     . simp (maxSteps := 4000000) only [P_vc, P_br, P_and, P_fin, V_nil, V_one, V_cons, T_self, castK, succK, Int.toNat_natCast, predK, decide_eq_true_eq, decide_eq_false_iff_not, List.map_cons, List.map_nil, cond_true, cond_false];refine (hbad ?_).symm;have g6' : (!slotOk s.cols (slotOf (l.getD k Tc.stowed.dflt)) (findV bs (l.getD k Tc.stowed.dflt).box).1.size) = true := g6;rw [hAt, <- hx];grind
     have g6' : (!slotOk s.cols (slotOf (l.getD k Tc.stowed.dflt)) (findV bs (l.getD k Tc.stowed.dflt).box).1.size) = false := g6;rw [hx, Bool.not_eq_false'] at g6';refine ⟨⟨by simp; omega, ?_⟩, fun g7 => ?_, fun g7 => ?_⟩
     . have := tier_small hsB g6';rw [<- hx] at this;exact this
     . simp (maxSteps := 4000000) only [P_vc, P_br, P_and, P_fin, V_nil, V_one, V_cons, T_self, castK, succK, Int.toNat_natCast, predK, decide_eq_true_eq, decide_eq_false_iff_not, List.map_cons, List.map_nil, cond_true, cond_false];refine (hbad ?_).symm;have g7' : (!heldB (slotOf (l.getD k Tc.stowed.dflt)) (l.map slotOf)) = true := g7;rw [hAt, <- hx];grind
     have g7' : (!heldB (slotOf (l.getD k Tc.stowed.dflt)) (l.map slotOf)) = false := g7;rw [hx, Bool.not_eq_false'] at g7';have g3' : (!(findV bs (l.getD k Tc.stowed.dflt).box).2) = false := g3;rw [hx, Bool.not_eq_false'] at g3';refine nameIt (l.map slotOf) fun all hall => ?_;have hlen : all.length = l.length := by rw [<- hall]; simp
     refine ⟨⟨Int.natCast_nonneg k, by simp only [castK, List.length_map]; omega⟩, ?_⟩;refine nameIt (slotOf x) fun z hz => ?_;refine ⟨lpMeet z all k, ?_⟩
     conv => arg 1; cbv
     refine ⟨?_, fun (j : Nat) hj => ?_⟩
     . simp (maxSteps := 4000000) only [P_vc, P_br, P_and, P_fin, V_nil, V_one, V_cons, T_self, castK, succK, Int.toNat_natCast, predK, decide_eq_true_eq, decide_eq_false_iff_not, List.map_cons, List.map_nil, cond_true, cond_false];simp
     have hZhj1 : j <= k /\ ∀ i, i < j -> meetB z (all.getD i Tc.slot.dflt) = false := hj;have hj1 := hZhj1.1;have hj2 := hZhj1.2
     conv => arg 1; cbv
     simp (maxSteps := 4000000) only [P_vc, P_br, P_and, P_fin, V_nil, V_one, V_cons, T_self, castK, succK, Int.toNat_natCast, predK, decide_eq_true_eq, decide_eq_false_iff_not, List.map_cons, List.map_nil, cond_true, cond_false];have e1 : ∀ u : Slot, (⟨u.col, u.tier, u.half⟩ : Slot) = u := fun _ => rfl;have e2 : (⟨(l.getD k Tc.stowed.dflt).col, (l.getD k Tc.stowed.dflt).tier, (l.getD k Tc.stowed.dflt).half⟩ : Slot) = z := by rw [hx, <- hz]; rfl
     simp only [hall, e1, e2];refine ⟨fun g8 => ?_, fun g8 => ?_⟩
     . have h8 : j < k := by omega
       refine ⟨⟨by omega, by omega⟩, trivial, fun g9 => (hbad ?_).symm, fun g9 => ⟨⟨by omega, by omega⟩, ⟨⟨h8, upto_more hj2 g9⟩, by omega⟩, by omega⟩⟩;have hd : decide (∀ j, j < k -> meetB z (all.getD j Tc.slot.dflt) = false) = false := by
        rw [decide_eq_false_iff_not];intro h;rw [h j h8] at g9;cases g9
       rw [hAt, hz, hall, hd];simp
     . have hd : decide (∀ j, j < k -> meetB z (all.getD j Tc.slot.dflt) = false) = true := by
        rw [decide_eq_true_eq];exact fun i hi => hj2 i (by omega)
       refine ⟨⟨by omega, by omega⟩, ⟨⟨hlt, hgood ?_⟩, by omega⟩, by omega⟩;rw [hAt, g3', ho, g6', g7', hz, hall, hd];rfl
   . have ho : (decide (k = 0) || decide (y.box < x.box)) = true := by
      have g4' : decide (0 < (k : Int)) = false := g4;grind
     refine ⟨trivial, fun g6 => ?_, fun g6 => ?_⟩
     . simp (maxSteps := 4000000) only [P_vc, P_br, P_and, P_fin, V_nil, V_one, V_cons, T_self, castK, succK, Int.toNat_natCast, predK, decide_eq_true_eq, decide_eq_false_iff_not, List.map_cons, List.map_nil, cond_true, cond_false];refine (hbad ?_).symm;have g6' : (!slotOk s.cols (slotOf (l.getD k Tc.stowed.dflt)) (findV bs (l.getD k Tc.stowed.dflt).box).1.size) = true := g6;rw [hAt, <- hx];grind
     have g6' : (!slotOk s.cols (slotOf (l.getD k Tc.stowed.dflt)) (findV bs (l.getD k Tc.stowed.dflt).box).1.size) = false := g6;rw [hx, Bool.not_eq_false'] at g6';refine ⟨⟨by simp; omega, ?_⟩, fun g7 => ?_, fun g7 => ?_⟩
     . have := tier_small hsB g6';rw [<- hx] at this;exact this
     . simp (maxSteps := 4000000) only [P_vc, P_br, P_and, P_fin, V_nil, V_one, V_cons, T_self, castK, succK, Int.toNat_natCast, predK, decide_eq_true_eq, decide_eq_false_iff_not, List.map_cons, List.map_nil, cond_true, cond_false];refine (hbad ?_).symm;have g7' : (!heldB (slotOf (l.getD k Tc.stowed.dflt)) (l.map slotOf)) = true := g7;rw [hAt, <- hx];grind
     have g7' : (!heldB (slotOf (l.getD k Tc.stowed.dflt)) (l.map slotOf)) = false := g7;rw [hx, Bool.not_eq_false'] at g7';have g3' : (!(findV bs (l.getD k Tc.stowed.dflt).box).2) = false := g3;rw [hx, Bool.not_eq_false'] at g3';refine nameIt (l.map slotOf) fun all hall => ?_;have hlen : all.length = l.length := by rw [<- hall]; simp
     refine ⟨⟨Int.natCast_nonneg k, by simp only [castK, List.length_map]; omega⟩, ?_⟩;refine nameIt (slotOf x) fun z hz => ?_;refine ⟨lpMeet z all k, ?_⟩
     conv => arg 1; cbv
     refine ⟨?_, fun (j : Nat) hj => ?_⟩
     . simp (maxSteps := 4000000) only [P_vc, P_br, P_and, P_fin, V_nil, V_one, V_cons, T_self, castK, succK, Int.toNat_natCast, predK, decide_eq_true_eq, decide_eq_false_iff_not, List.map_cons, List.map_nil, cond_true, cond_false];simp
     have hZhj1 : j <= k /\ ∀ i, i < j -> meetB z (all.getD i Tc.slot.dflt) = false := hj;have hj1 := hZhj1.1;have hj2 := hZhj1.2
     conv => arg 1; cbv
     simp (maxSteps := 4000000) only [P_vc, P_br, P_and, P_fin, V_nil, V_one, V_cons, T_self, castK, succK, Int.toNat_natCast, predK, decide_eq_true_eq, decide_eq_false_iff_not, List.map_cons, List.map_nil, cond_true, cond_false];have e1 : ∀ u : Slot, (⟨u.col, u.tier, u.half⟩ : Slot) = u := fun _ => rfl;have e2 : (⟨(l.getD k Tc.stowed.dflt).col, (l.getD k Tc.stowed.dflt).tier, (l.getD k Tc.stowed.dflt).half⟩ : Slot) = z := by rw [hx, <- hz]; rfl
     simp only [hall, e1, e2];refine ⟨fun g8 => ?_, fun g8 => ?_⟩
     . have h8 : j < k := by omega
       refine ⟨⟨by omega, by omega⟩, trivial, fun g9 => (hbad ?_).symm, fun g9 => ⟨⟨by omega, by omega⟩, ⟨⟨h8, upto_more hj2 g9⟩, by omega⟩, by omega⟩⟩;have hd : decide (∀ j, j < k -> meetB z (all.getD j Tc.slot.dflt) = false) = false := by
        rw [decide_eq_false_iff_not];intro h;rw [h j h8] at g9;cases g9
       rw [hAt, hz, hall, hd];simp
     . have hd : decide (∀ j, j < k -> meetB z (all.getD j Tc.slot.dflt) = false) = true := by
        rw [decide_eq_true_eq];exact fun i hi => hj2 i (by omega)
       refine ⟨⟨by omega, by omega⟩, ⟨⟨hlt, hgood ?_⟩, by omega⟩, by omega⟩;rw [hAt, g3', ho, g6', g7', hz, hall, hd];rfl
 . have hkk : l.length <= k := by simp only [decide_eq_false_iff_not, castK] at g2; omega
   refine ⟨?_, fun (c : Nat) hc => ?_⟩
   . simp (maxSteps := 4000000) only [P_vc, P_br, P_and, P_fin, V_nil, V_one, V_cons, T_self, castK, succK, Int.toNat_natCast, predK, decide_eq_true_eq, decide_eq_false_iff_not, List.map_cons, List.map_nil, cond_true, cond_false];simp
   have hZhc1 : c <= s.cols.length /\ ∀ j, j < c -> fitsB s.cols bs l (j : Int) = true := hc;have hc1 := hZhc1.1;have hc2 := hZhc1.2
   conv => arg 1; cbv
   simp (maxSteps := 4000000) only [P_vc, P_br, P_and, P_fin, V_nil, V_one, V_cons, T_self, castK, succK, Int.toNat_natCast, predK, decide_eq_true_eq, decide_eq_false_iff_not, List.map_cons, List.map_nil, cond_true, cond_false];have hlen : s.cols.length <= 200 := by
    unfold shipB at hsB;simp only [Bool.and_eq_true, decide_eq_true_eq] at hsB;exact hsB.1.2.1
   refine ⟨fun g3 => ?_, fun g3 => ?_⟩
   . have h3 : c < s.cols.length := by omega
     refine ⟨⟨hbs, hl, by omega, g3⟩, fun g4 => ?_, fun g4 => ⟨⟨by omega, by omega⟩, ⟨⟨h3, upto_more hc2 (by simpa using g4)⟩, by omega⟩, by omega⟩⟩;unfold stowB;have : decide (∀ c, c < s.cols.length -> fitsB s.cols bs l (c : Int) = true) = false := by
      rw [decide_eq_false_iff_not];intro h;rw [h c h3] at g4;cases g4
     rw [this];simp
   . unfold stowB;have e1 : decide (∀ k, k < l.length -> stowAt s.cols bs l k = true) = true := by
      rw [decide_eq_true_eq];exact fun i hi => hk2 i (by omega)
     have e2 : decide (∀ c, c < s.cols.length -> fitsB s.cols bs l (c : Int) = true) = true := by
      rw [decide_eq_true_eq];exact fun i hi => hc2 i (by omega)
     rw [hsB, e1, e2];rfl
end Go.Proofs.YtfdjcakgolenbaaGreat
