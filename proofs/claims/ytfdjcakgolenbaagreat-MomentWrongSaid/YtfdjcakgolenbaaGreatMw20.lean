/-
  slot: the slots of a ship, in their order; halves, slots.
-/
import Derived.Test.YtfdjcakgolenbaaGreatMw19
import Derived.Laws.Cover3
set_option linter.unusedVariables false
set_option linter.unusedSimpArgs false
namespace Go.Proofs.YtfdjcakgolenbaaGreat
open Go.RowKit
def hvL (c t : Nat) (sz : Int) : List Slot := (halvesF sz).map fun h => ⟨(c : Int), (t : Int), h⟩
def tierL (c : Nat) (sz : Int) : Nat -> List Slot
 | 0 => []
 | t + 1 => tierL c sz t ++ hvL c t sz
def slotL (ts : List Int) (sz : Int) : Nat -> List Slot
 | 0 => []
 | c + 1 => slotL ts sz c ++ tierL c sz (ts.getD c 0).toNat
theorem hvL_len (c t : Nat) (sz : Int) : (hvL c t sz).length = (halvesF sz).length := by simp [hvL]
theorem tierL_len (c : Nat) (sz : Int) : ∀ t, (tierL c sz t).length <= 2 * t
 | 0 => Nat.le_refl _
 | t + 1 => by
  unfold tierL;rw [List.length_append, hvL_len];have := tierL_len c sz t;have := halvesF_len sz;omega
theorem slotL_len (ts : List Int) (sz : Int) (hts : ∀ t ∈ ts, t <= 1000) : ∀ c, (slotL ts sz c).length <= 2000 * c
 | 0 => Nat.le_refl _
 | c + 1 => by
  unfold slotL;rw [List.length_append];have h1 := slotL_len ts sz hts c;have h2 := tierL_len c sz (ts.getD c 0).toNat;have h3 : (ts.getD c 0).toNat <= 1000 := by
   by_cases hc : c < ts.length
   . have := hts _ (getD_mem 0 hc);omega
   . rw [List.getD_eq_getElem?_getD, List.getElem?_eq_none (by omega)];simp
  omega
theorem tierL_more (c t : Nat) (sz : Int) {h : Nat} (hh : h < (halvesF sz).length) : tierL c sz t ++ (hvL c t sz).take h ++ [⟨(c : Int), (t : Int), (halvesF sz).getD h 0⟩] = tierL c sz t ++ (hvL c t sz).take (h + 1) := by
 rw [List.append_assoc];congr 1;rw [List.take_add_one, hvL, List.getElem?_map, List.getElem?_eq_getElem hh, List.getD_eq_getElem?_getD, List.getElem?_eq_getElem hh];rfl
theorem slot_halvesB (size : Int) (w : World) : Calls Tryz.prog 152 #[.int .u8 size] w fun e w' => ∃ A c, e = .returned (.slice A (halvesF size).length c) /\ Rd w' w'.heap.size 1 A ((halvesF size).map u8Row) /\ (∀ a, A = some a -> ∃ cur, w'.heap[a.block]? = some (.cells cur 5 (0, 0))) /\ From w w' := by
 by_cases h4 : size = 40
 . subst h4
   go_enter Tryz.func152, Tryz.ntmps152
   go_wp2
   go_ret
   exact ⟨_, _, rfl, Rd.rows (css := [[.int .u8 0]]) (heap_alloc_new w _) rfl (by simp), fun a e => by cases e; exact ⟨_, heap_alloc_new w _⟩, (Below.refl _ _).alloc (Nat.le_refl _) _⟩
 . by_cases h2 : size = 20
   . subst h2
     go_enter Tryz.func152, Tryz.ntmps152
     go_wp2
     go_ret
     exact ⟨_, _, rfl, Rd.rows (css := [[.int .u8 1], [.int .u8 2]]) (heap_alloc_new w _) rfl (by simp), fun a e => by cases e; exact ⟨_, heap_alloc_new w _⟩, (Below.refl _ _).alloc (Nat.le_refl _) _⟩
   . have e : halvesF size = [] := by unfold halvesF; rw [if_neg h4, if_neg h2]
     have h4' : (size == 40) = false := by simpa using h4
     have h2' : (size == 20) = false := by simpa using h2
     rw [e]
     go_enter Tryz.func152, Tryz.ntmps152
     go_wp2
     go_ret
     exact ⟨none, 0, rfl, Rd.nil _ _ _ _, (fun a e => nomatch e), Below.refl _ _⟩
theorem slots_in (v : Value) (vs : Array Value) (hv : v = .agg vs) (sz : Int) (w : World) : Calls Tryz.prog 122 #[v, .int .u8 sz] w fun e w' => e = .returned (.func (.func 151) #[] #[.pointer (some ⟨w.heap.size, 0, none⟩), .pointer (some ⟨w.heap.size + 1, 0, none⟩)]) /\ w' = (w.alloc (.cells vs 32 (0, 0))).alloc (.cells #[.int .u8 sz] 5 (0, 0)) := by
 subst hv
 go_enter Tryz.func122, Tryz.ntmps122
 go_wp2
 go_ret
 exact ⟨rfl, rfl⟩
open Go.Shelf
attribute [local go_sem] Oper.semAt_some
def sloVals (x : Slot) : Array Value := #[x.val]
def SloKp (n0 : Nat) (W W' : World) : Prop := Below n0 W W' /\ ∀ (b : Nat) cur, W.heap[b]? = some (.cells cur 5 (0, 0)) -> W'.heap[b]? = some (.cells cur 5 (0, 0))
theorem SloKp.trans {n0 : Nat} {A B C : World} (h : SloKp n0 A B) (k : SloKp n0 B C) : SloKp n0 A C := ⟨h.1.trans k.1, fun b cur hb => k.2 b cur (h.2 b cur hb)⟩
theorem SloKp.from {n0 : Nat} {A B : World} (h : From A B) (hn : n0 <= A.heap.size) : SloKp n0 A B := ⟨h.mono hn, fun b cur hb => (h.block b (Array.getElem?_eq_some_iff.1 hb).1).trans hb⟩
theorem colRow12 : IsRow Tryz.prog 47 12 := ⟨_, Tryz.underlying47, by kernel_rfl, by kernel_rfl⟩
theorem col_size12 : (Tryz.prog.info? 47).map (·.size) = some 12 := by kernel_rfl
theorem grow_of_from {A B : World} (h : From A B) : A.grownBy B none := ⟨h.os, h.tape, h.output, h.size, fun k hk _ => h.block k hk⟩
set_option maxRecDepth 100000 in
set_option maxHeartbeats 2000000 in
theorem slots_told (n0 Bs Bz nc cc : Nat) (A : Option Addr) (sz : Int) (css : List (List Value)) (ts : List Int) (w : World) (hn0 : n0 <= w.heap.size) (hs : w.cell? ⟨Bs, 0, none⟩ = some (.slice A nc cc)) (hbs : Bs < w.heap.size) (hz : w.heap[Bz]? = some (.cells #[.int .u8 sz] 5 (0, 0)))
 (hrd : Rd w n0 12 A css) (hlc : css.length = nc) (hlt : ts.length = nc) (hnc : nc <= 1000) (hts : ∀ t ∈ ts, 0 <= t /\ t <= 1000) (hone : ∀ cs ∈ css, ∀ u ∈ cs, u.oneCell' = true) (hcs : ∀ k cs, css[k]? = some cs -> ∃ v0 v1 v2 v4 v5 v6 v7 v8 v9 v10 v11 : Value, cs = [v0, v1, v2, .int .i64 (ts.getD k 0), v4, v5, v6, v7, v8, v9, v10, v11]) :
 SeqStopsK Fence.wide 2 Tryz.prog 151 #[.pointer (some ⟨Bs, 0, none⟩), .pointer (some ⟨Bz, 0, none⟩)] sloVals (SloKp n0) (fun xs => xs = slotL ts sz nc) (fun _ => True) 3000000 w := fun lp J Jx W hW hJ hJx hY h0 => by
 refine callsIn_of_wp Tryz.func151 rfl trivial ?_ rfl;simp only [Tryz.ntmps151, List.size_toArray, List.length_cons, List.length_nil, Nat.reduceAdd, Nat.reduceSub, Array.replicate_succ, Array.replicate_zero, List.push_toArray, List.append_toArray, List.nil_append, List.cons_append];have hJF : ∀ pre W1 W2, J pre W1 -> From W1 W2 -> J pre W2 := fun pre W1 W2 h1 h2 => hJ pre W1 W2 none h1 (grow_of_from h2) (fun r e => nomatch e);have hs1 : W.cell? ⟨Bs, 0, none⟩ = some (.slice A nc cc) := (hW.cell (p := ⟨Bs, 0, none⟩) hbs).trans hs;have hz1 : W.heap[Bz]? = some (.cells #[.int .u8 sz] 5 (0, 0)) := (hW.block Bz (Array.getElem?_eq_some_iff.1 hz).1).trans hz;have hrd1 : Rd W n0 12 A css := hrd.below (hW.mono hn0) (Nat.le_refl _);have hn1 : n0 <= W.heap.size := Nat.le_trans hn0 hW.size;clear hs hz hrd hW;refine wpIn_wide.2 ?_
 go_wp2
 go_loopw [12] (fun cv wr => ∃ c : Nat, c <= nc /\ cv = .int .i64 c /\ J (slotL ts sz c) wr /\ SloKp n0 W wr /\ W.heap.size <= wr.heap.size) (fun cv _ => nc - (intOf cv).toNat)
 case atStart => exact ⟨0, Nat.zero_le _, rfl, h0, ⟨Below.refl _ _, fun b cur h => h⟩, Nat.le_refl _⟩
 case round =>
  obtain ⟨c, hc, rfl, hJc, hK, hsz⟩ := hrel;by_cases hlt1 : c = nc
  . subst hlt1;clear hY
    go_wp2
    go_end0
    exact ⟨⟨_, rfl⟩, .inl ⟨_, rfl, hJc⟩⟩
  . have hlt2 : (c : Int) < (nc : Int) := by omega
    have hcc : c < css.length := by omega
    obtain ⟨v0, v1, v2, v4, v5, v6, v7, v8, v9, v10, v11, hcv⟩ := hcs c css[c] (List.getElem?_eq_getElem hcc);obtain ⟨g, off, rfl, hg, HLD0⟩ := Rd.ld colRow12 hrd1 (List.getElem?_eq_getElem hcc);have HLD := HLD0 wr hK.1;rw [hcv] at HLD;have htc := hts (ts.getD c 0) (getD_mem 0 (by omega));have hsu : slotL ts sz (c + 1) = slotL ts sz c ++ tierL c sz (ts.getD c 0).toNat := rfl;obtain ⟨T, hT⟩ : ∃ T : Nat, ts.getD c 0 = (T : Int) := ⟨(ts.getD c 0).toNat, by omega⟩
    rw [hT] at HLD hsu htc;clear hcs HLD0;have HM0 := Lib.hid ((Mem.nil wr).alloc 47 [.int .i64 0, .int .i64 0, .bool false, .int .i64 0, .int .i64 0, .int .i64 0, .int .i64 0, .int .i64 0, .slice none 0 0, .int .i64 0, .int .i64 0, .int .i64 0]);have h1c := hone _ (List.getElem_mem hcc);rw [hcv] at h1c;rw [hT] at h1c
    go_wp2_with (first
     | ((with_reducible refine g_ld 47 ?_); refine wpList_ld rfl _ _ rfl _ rfl _ HLD ?_)
     | ((with_reducible refine g_st 47 ?_); refine wpList_stB (cs' := [v0, v1, v2, .int .i64 T, v4, v5, v6, v7, v8, v9, v10, v11]) rfl _ _ rfl HM0.out 0 rfl rfl rfl col_size12 rfl rfl rfl h1c ?_; intro w6 h6; have HM1 := Lib.hid h6; clear h6)
     | ((with_reducible refine g_ld 3 ?_); refine wpList_ld rfl _ _ rfl _ rfl _ (HM1.out.ldc ct3 (i := 0) rfl rfl _ (Below.refl _ _)) ?_))
    have hf1 : From wr w6 := HM1.out.from_;have hJ6 := hJF _ _ _ hJc hf1;have hK6 := hK.trans (SloKp.from hf1 (Nat.le_trans hn1 hsz));have hs6 : W.heap.size <= w6.heap.size := Nat.le_trans hsz hf1.size;clear HM1 HM0 HLD h1c hf1 hone hrd1
    go_loopw [20] (fun tv wq => ∃ t : Nat, t <= T /\ tv = .int .i64 t /\ J (slotL ts sz c ++ tierL c sz t) wq /\ SloKp n0 W wq /\ W.heap.size <= wq.heap.size) (fun tv _ => T - (intOf tv).toNat)
    case atStart => exact ⟨0, Nat.zero_le _, rfl, by rw [show tierL c sz 0 = [] from rfl, List.append_nil]; exact hJ6, hK6, hs6⟩
    case round =>
     obtain ⟨t, ht, rfl, hJt, hKt, hst⟩ := hrel;by_cases hlt3 : t = T
     . subst hlt3;clear hY
       go_wp2
       go_roundw
       case rel => exact ⟨c + 1, by omega, by simp, by rw [hsu]; simpa using hJt, hKt, hst⟩
       case measure => simp [intOf]; omega
     . have hlt4 : (t : Int) < (T : Int) := by omega
       have hzc : wr.cell? ⟨Bz, 0, none⟩ = some (.int .u8 sz) := by
        have := hKt.2 Bz _ hz1;simp [World.cell?, this]
       have hsv : tierL c sz (t + 1) = tierL c sz t ++ hvL c t sz := rfl
       go_wp2_with (go_at_call 152; refine (slot_halvesB sz _).mono ?_; rintro e w7 ⟨A2, c2, rfl, hr7, hb7, hf7⟩)
       have hJ7 := hJF _ _ _ hJt hf7;have hn2 : n0 <= wr.heap.size := Nat.le_trans hn1 hst;have hK7 := hKt.trans (SloKp.from hf7 hn2);have hs7 : W.heap.size <= w7.heap.size := Nat.le_trans hst hf7.size;obtain ⟨H, hH⟩ : ∃ H, H = (halvesF sz).length := ⟨_, rfl⟩
       have hH2 : H <= 2 := by rw [hH]; exact halvesF_len sz
       rw [<- hH];have hcl := slotL_len ts sz (fun t h => (hts t h).2) c;have htl := tierL_len c sz t;clear hzc hKt hJt hf7 hst hn2
       go_loopw [26] (fun hv wh => ∃ h : Nat, h <= H /\ hv = .int .i64 h /\ J (slotL ts sz c ++ (tierL c sz t ++ (hvL c t sz).take h)) wh /\ SloKp n0 W wh /\ W.heap.size <= wh.heap.size /\ SloKp n0 w7 wh) (fun hv _ => H - (intOf hv).toNat)
       case atStart => exact ⟨0, Nat.zero_le _, rfl, by rw [List.take_zero, List.append_nil]; exact hJ7, hK7, hs7, ⟨Below.refl _ _, fun b cur h => h⟩⟩
       case round =>
        obtain ⟨h, hh, rfl, hJh, hKh, hsh, hk7⟩ := hrel;by_cases hlt5 : h = H
        . have hfull : (hvL c t sz).take h = hvL c t sz := List.take_of_length_le (by rw [hvL_len]; omega);rw [hfull, <- hsv] at hJh;subst hlt5;clear hY
          go_wp2
          go_roundw
          case rel => exact ⟨t + 1, by omega, by simp, hJh, hKh, hsh⟩
          case measure => simp [intOf]; omega
        . have hlt6 : (h : Int) < (H : Int) := by omega
          have hhl : h < (halvesF sz).length := by omega
          obtain ⟨g2, o2, hA2, hg2, _, hcell⟩ := hr7 h _ (by rw [List.getElem?_map, List.getElem?_eq_getElem hhl]; rfl);obtain ⟨x, hx⟩ : ∃ x, x = (halvesF sz).getD h 0 := ⟨_, rfl⟩
          subst hA2;obtain ⟨cur, hcur⟩ := hb7 _ rfl;have hcx : wr.cell? ⟨g2, o2 + h, none⟩ = some (.int .u8 x) := by
           have h1 := hcell 0 _ rfl;have h2 := hk7.2 g2 cur hcur;rw [cell_same (w := w7) (w' := wr) (by rw [h2]; exact hcur.symm)];rw [hx, List.getD_eq_getElem?_getD, List.getElem?_eq_getElem hhl];simpa using h1
          have hmore := tierL_more c t sz hhl;rw [<- hx] at hmore;obtain ⟨fn, tmps, assign, body, hy, hR⟩ := hY _ ⟨(c : Int), (t : Int), x⟩ wr hJh (by
           rw [List.length_append, List.length_append, List.length_take, hvL_len]
           omega)
          unfold sloVals Slot.val at hy;clear hY hJF hcell hr7 hb7 hx hH
          go_upto_region 9 with fail
          refine (wpIn_wide (n := 2)).1 ?_
          gi_wp2
          refine hR.mono ?_
          rintro e W3 (⟨rfl, hJ3, hk3⟩ | ⟨rfl, hJx3⟩)
          . rw [List.append_assoc, hmore] at hJ3;clear hJx hJ hJh hR hy
            gi_wp2
            go_wp2
            go_roundw
            case rel => exact ⟨h + 1, by omega, by simp, hJ3, hKh.trans hk3, Nat.le_trans hsh hk3.1.size, hk7.trans hk3⟩
            case measure => simp [intOf]; omega
          . clear hJx hJ hJh hR hy
            gi_wp2
            go_wp2
            refine bodyPost_ret (results_none rfl _ _ _) rfl ?_;exact ⟨⟨_, rfl⟩, .inr ⟨_, trivial, hJx3⟩⟩
end Go.Proofs.YtfdjcakgolenbaaGreat
namespace Go.Proofs.YtfdjcakgolenbaaGreat
open Go.RowKit
section
variable {F : Fence} {n : Nat} {P : Program} {w w' : World} {ops : Array Oper} {rest : List Oper} {o : Oper} {a : Act} {Q : Exit -> Act -> World -> Prop} {v : Value}
theorem wpListIn_ld (hgd : o.guard = none) (T : Nat) (x : Operand) (ho : o.op = .load T x) (ad : Addr) (hx : a.eval x = .pointer (some ad)) (v : Value) (hld : (loadVar T ad).run P w = .ok v w)
 (h : wpListIn F n P ops Q rest (a.put o.dst v) w) : wpListIn F n P ops Q (o :: rest) a w := by
 refine wpListIn_plain hgd fun K hK => ?_;unfold Oper.wpIn;refine ⟨fun f hf => by simp [Oper.about, ho] at hf, ?_⟩;rw [Oper.semAt_plain F _ _ (by rw [ho]; intro c hc; cases hc)];unfold execOp;simp only [ho, hx, Instr.loadAt, Instr.sureAddr, Sem.run_bind, Sem.run_pure, Result.andThen_ok, hld];exact hK _ _ h
theorem wpListIn_stB {w0 : World} {M : List Ent} {T g m : Nat} {cs cs' : List Value} (hgd : o.guard = none) (x y : Operand) (ho : o.op = .store T x y) (H : Mem w0 w M) (i : Nat) (hi : M[i]? = some (.box g T cs))
 (hx : a.eval x = .pointer (some ⟨g, 0, .none⟩)) (hy : a.eval y = v) (hsz : (P.info? T).map (·.size) = some m) (hv : v.cells.toList = cs') (hl' : cs'.length = m) (hl : cs.length = m) (h1 : ∀ u ∈ cs', u.oneCell' = true)
 (h : ∀ w', Mem w0 w' (M.set i (.box g T cs')) -> w.grownBy w' (some g) -> wpListIn F n P ops Q rest (a.put o.dst undef) w') : wpListIn F n P ops Q (o :: rest) a w := by
 have hg := H.cells hi;have hr := run_store_cells (P := P) (off := 0) hsz hv hl' hg (by simp [hl]) h1;refine wpListIn_plain hgd fun K hK => ?_;unfold Oper.wpIn;refine ⟨fun f hf => by simp [Oper.about, ho] at hf, ?_⟩;rw [Oper.semAt_plain F _ _ (by rw [ho]; intro c hc; cases hc)];unfold execOp;simp only [ho, hx, hy, Instr.storeAt, Instr.sureAddr, Sem.run_bind, Sem.run_pure, Result.andThen_ok, hr];have hgr : w.grownBy (w.setRow g (List.take 0 cs.toArray.toList ++ cs' ++ List.drop (0 + m) cs.toArray.toList).toArray) (some g) := ⟨rfl, rfl, rfl, by simp, fun k _ hk => setRow_other w g k _ (fun e => hk (by simp [e]))⟩
 refine hK _ _ (h _ (H.put i _ hi hgr ⟨(H.boxlt hi).1, ?_⟩ (.inl rfl)) hgr);rw [setRow_heap w g _ _ T _ hg];simp [hl, hl']
theorem wpListIn_append_M {w0 : World} {M : List Ent} {t e size bytes c m cn : Nat} {A X : Option Addr} {css news : List (List Value)} (hgd : o.guard = none) (s x : Operand)
 (ho : o.op = .call { callee := .builtin .append, args := #[s, x], argTypes := #[t, t] })
 (hE : EI P t e size bytes) (n' : Nat) (hn : n' = css.length) (hs : a.eval s = .slice A n' c) (H : Mem w0 w M) (i : Nat) (hi : M[i]? = some (.row e size A c css)) (hx : a.eval x = .slice X m cn) (hr : Rd w w.heap.size size X news) (hm : m = news.length)
 (h1 : ∀ cs ∈ news, ∀ u ∈ cs, u.oneCell' = true) (h63 : css.length + m <= maxLen) (hbytes : (css.length + m) * bytes <= 140737488355328)
 (h : ∀ A' c' w', Mem w0 w' (M.set i (.row e size A' c' (css ++ news))) -> w.grownBy w' (A.map (·.block)) -> wpListIn F n P ops Q rest (a.put o.dst (.slice A' (css ++ news).length c')) w') : wpListIn F n P ops Q (o :: rest) a w := by
 subst hn;obtain ⟨A', c', w', hrun, h2, h3, h5⟩ := run_append_at (P := P) (ty := o.type) (cn := cn) hE (H.own hi) w.heap.size hr hm h1 h63 hbytes H.from_.size;refine wpListIn_plain hgd fun K hK => ?_;unfold Oper.wpIn;refine ⟨fun f hf => by simp [Oper.about, ho, resolve, Target.leads, Sem.run_pure] at hf, ?_⟩;rw [Oper.semAt_plain F _ _ (by rw [ho]; intro c hc; cases hc)];unfold execOp;simp only [ho, resolve, invoke, builtin, Sem.run_bind, Sem.run_pure, Result.andThen_ok, List.map_toArray, List.map_cons, List.map_nil, hs, hx, hrun];refine hK _ _ (h A' c' w' (H.put i _ hi h3 h2 ?_) h3);rcases h5 with h5 | h5
 . exact .inl h5
 . exact .inr fun b hb => by rw [show (Ent.row e size A' c' (css ++ news)).blk = A'.map (·.block) from rfl, h5.1] at hb; injection hb with hb; omega
end
theorem Ent.iscells {w : World} {base b : Nat} {e : Ent} (h : e.ok w base) (hb : e.blk = some b) (hro : ∀ s A css, e ≠ .ro s A css) : ∃ o : Obj, w.heap[b]? = some o /\ o.isCells = true := by
 cases e with
 | row T size A c css =>
  obtain ⟨q, hq, rfl⟩ := Option.map_eq_some_iff.1 hb;subst hq;rcases h.1.2 with ⟨h2, _⟩ | ⟨g, cap, cur, h2, _, h4, _⟩
  . cases h2
  . injection h2 with h2;injection h2 with h2;subst h2;exact ⟨_, h4, rfl⟩
 | box g T cs =>
  injection hb with hb;subst hb;exact ⟨_, h.2, rfl⟩
 | ro size A css => exact absurd rfl (hro size A css)
def Ent.typ : Ent -> Nat
 | .row T _ _ _ _ => T
 | .box _ T _ => T
 | .ro _ _ _ => 0
theorem Ent.heap {w : World} {base b : Nat} {e : Ent} (h : e.ok w base) (hb : e.blk = some b) (hro : ∀ s A css, e ≠ .ro s A css) : ∃ cur, w.heap[b]? = some (.cells cur e.typ (0, 0)) := by
 cases e with
 | row T size A c css =>
  obtain ⟨q, hq, rfl⟩ := Option.map_eq_some_iff.1 hb;subst hq;rcases h.1.2 with ⟨h2, _⟩ | ⟨g, cap, cur, h2, _, h4, _⟩
  . cases h2
  . injection h2 with h2;injection h2 with h2;subst h2;exact ⟨_, h4⟩
 | box g T cs =>
  injection hb with hb;subst hb;exact ⟨_, h.2⟩
 | ro size A css => exact absurd rfl (hro size A css)
theorem Mem.step {w0 w w' : World} {M : List Ent} (h : Mem w0 w M) {i : Nat} {e : Ent} (hi : M[i]? = some e) (hro : ∀ s A css, e ≠ .ro s A css) (hg : w.grownBy w' e.blk) :
 KeepsOthers w w' /\ Below w0.heap.size w w' /\ ∀ (T b : Nat) cur, T ≠ e.typ -> w.heap[b]? = some (.cells cur T (0, 0)) -> w'.heap[b]? = some (.cells cur T (0, 0)) := by
 have hok := h.ok _ (List.mem_of_getElem? hi);refine ⟨KeepsOthers.of_grownBy hg fun j o hj ho => ?_, (Below.refl _ _).grown hg h.from_.size fun k hk => (Ent.lt hok hk).1, fun T b cur hT hb => (hg.block b (Array.getElem?_eq_some_iff.1 hb).1 fun e1 => ?_).trans hb⟩
 . obtain ⟨o', ho', hc⟩ := Ent.iscells hok hj hro;rw [ho] at ho';cases ho';exact hc
 . obtain ⟨cur', h1⟩ := Ent.heap hok e1.symm hro;rw [hb] at h1;cases h1;exact hT rfl
theorem Mem.grown {w0 w w' : World} {M : List Ent} {row : Option Nat} (h : Mem w0 w M) (hro : ∀ e ∈ M, ∀ s A css, e ≠ .ro s A css) (hg : w.grownBy w' row) (hr : ∀ r, row = some r -> w0.heap.size <= r /\ ∃ o : Obj, w.heap[r]? = some o /\ o.isCells = false) : Mem w0 w' M := by
 refine ⟨h.from_.grown hg h.from_.size fun k e => (hr k e).1, fun e he => Ent.keep (h.ok e he) fun b hb => ?_, h.apart⟩;refine hg.block b (Ent.lt (h.ok e he) hb).2 fun e1 => ?_;obtain ⟨o, ho, hc⟩ := (hr b e1.symm).2;obtain ⟨o', ho', hc'⟩ := Ent.iscells (h.ok e he) hb (hro e he);rw [ho] at ho';cases ho';rw [hc] at hc';cases hc'
theorem grow_from {A B : World} (h : Below A.heap.size A B) : A.grownBy B none := ⟨h.os, h.tape, h.output, h.size, fun k hk _ => h.block k hk⟩
section
variable {F : Fence} {n : Nat} {P : Program} {α : Type}
theorem range_box {g : Operand} {ps : Array Tmp} {assign body : Code} {Q : Exit -> Act -> World -> Prop} {a : Act} {w w0 : World} (hro : F.round = none) (h1 : 1 <= n) {gf : Nat} {lb : Array Value} (hg : a.eval g = .func (.func gf) #[] lb) (hFg : F.fn gf) (eg : ∀ args W, (callFunc gf args).run P W = .ok (.enter gf args) W)
 {encs : α -> Array Value} {Kp : World -> World -> Prop} {S Sp : List α -> Prop} {N : Nat} (hseq : SeqStopsK F (n - 1) P gf lb encs Kp S Sp N w0) (hKt : ∀ {A B C : World}, Kp A B -> Kp B C -> Kp A C)
 (hKb : ∀ (W : World) (l : Nat) (o o' : Obj), w.heap.size <= l -> W.heap[l]? = some o -> o.isCells = false -> Kp W (W.putObj l o')) (hb0 : Below w0.heap.size w0 w) (hps : ∀ x, (encs x).size = ps.size)
 (I : List α -> World -> Prop) (hI : OwnFrom w.heap.size I) (hKf : ∀ pre W W1, I pre W -> Below W.heap.size W W1 -> Kp W W1) (h0 : I [] w) (box : α -> Obj) (a₁ : Nat -> α -> Act)
 (hassign : ∀ (l : Nat) (x : α) (W : World) (K : Act -> World -> Prop), (∀ W1, Below W.heap.size W W1 -> W1.heap[W.heap.size]? = some (box x) -> K (a₁ W.heap.size x) W1) -> assign.wpIn (F.inRound l) (n - 1 - 1) P (Exit.then K (fun _ _ _ => False)) { tmps := (ps.zip (encs x)).foldl (fun t (p, v) => t.setIfInBounds p v) a.tmps, defers := [] } W)
 (hbody : ∀ (l : Nat) (pre : List α) (x : α) (b : Nat) (W : World), I pre W -> pre.length < N -> W.heap[b]? = some (box x) -> body.wpIn (F.inRound l) (n - 1 - 1) P (fun e _ W2 => e = .normal /\ KeepsOthers W W2 /\ Kp W W2 /\ I (pre ++ [x]) W2) (a₁ b x) W)
 (hdone : ∀ (D : Nat) (xs : List α) (W : World), w.heap.size <= D -> S xs -> I xs W -> W.heap[D]? = some (.deferred (some [])) -> Q .normal { a with defers := { target := .collected D, args := #[] } :: a.defers } W) :
 (Code.rangeFunc g ps assign body).wpIn F n P Q a w := by
 refine wpIn_rangeFunc fun fn hfn => ?_;rw [hro];obtain ⟨r, hr⟩ : ∃ r : Loop, r = { state := .ready, pending := none, fn := fn, tmps := a.tmps, params := ps, assign := assign, body := body, defers := w.heap.size } := ⟨_, rfl⟩
 have hent := run_enterLoop_outer (P := P) (w := w) fn a.tmps ps assign body;rw [<- hr] at hent;have hl0 : ((w.alloc (.deferred (some []))).alloc (.loop r)).heap[w.heap.size + 1]? = some (.loop r) := by
  have := World.alloc_heap_new (w.alloc (.deferred (some []))) (.loop r);rwa [World.size_alloc] at this
 have hk0 : ((w.alloc (.deferred (some []))).alloc (.loop r)).heap[w.heap.size]? = some (.deferred (some [])) := (Below.heap_alloc _ _ _ (by simp)).trans (World.alloc_heap_new w _);have hi0 : I [] ((w.alloc (.deferred (some []))).alloc (.loop r)) := hI.alloc _ (hI.alloc _ h0);have hbw : Below w0.heap.size w0 ((w.alloc (.deferred (some []))).alloc (.loop r)) := hb0.trans ((((Below.refl _ w).alloc (Nat.le_refl _) _).alloc (by simp) _).mono hb0.size);have hsz0 : w.heap.size <= ((w.alloc (.deferred (some []))).alloc (.loop r)).heap.size := by simp; omega
 generalize (w.alloc (.deferred (some []))).alloc (.loop r) = W0 at *
 refine ⟨w.heap.size + 1, [{ target := .collected w.heap.size, args := #[] }], W0, { target := .fn (.func gf) lb, args := #[.func (.yield (w.heap.size + 1)) #[] #[]] }, W0, gf, #[.func (.yield (w.heap.size + 1)) #[] #[]] ++ lb, W0, hent, ?_, ?_, ?_, fun _ => h1, ?_⟩
 . simp only [resolve, hg];simp [go_sem]
 . intro f' hf';simp [Target.leads] at hf';rw [<- hf'];exact hFg
 . simp [invoke, go_sem, eg]
 . have hnw : ∀ {A B : World} {row : Option Nat}, (∀ r, row = some r -> W0.heap.size <= r /\ ∃ o : Obj, A.heap[r]? = some o /\ o.isWalk = true) -> (∀ r, row = some r -> w.heap.size <= r /\ ∃ o : Obj, A.heap[r]? = some o /\ o.isCells = false) :=
    fun hr r e => by obtain ⟨hB, o, ho, hw⟩ := hr r e; exact ⟨by omega, o, ho, Obj.not_cells_of_walk hw⟩
   refine (hseq (w.heap.size + 1) (fun pre W => I pre W /\ W.heap[w.heap.size + 1]? = some (.loop r) /\ W.heap[w.heap.size]? = some (.deferred (some []))) (fun _ _ => False) W0 hbw
    (fun s A B row hs hg' hr' => ⟨hI s A B row hs.1 hg' (hnw (B := B) hr'), (grownBy_keeps hg' (fun r e => (hr' r e).2) hs.2.1 rfl).trans hs.2.1, (grownBy_keeps hg' (fun r e => (hr' r e).2) hs.2.2 rfl).trans hs.2.2⟩)
    (fun s A B row hs hg' hr' => hs) ?_ ⟨hi0, hl0, hk0⟩).mono ?_
   . rintro pre x W ⟨hi, hl, hk⟩ hlen
     have hlt : w.heap.size + 1 < W.heap.size := (Array.getElem?_eq_some_iff.1 hl).1;have hy := run_yield (P := P) (args := encs x) hl (by rw [hr]; exact hps x);rw [hr] at hy;refine ⟨fn, _, assign, body, hy, roundIn_of_wpIn hfn (hassign _ x W _ fun W1 hf hbx => ?_)⟩;have hl1 : W1.heap[w.heap.size + 1]? = some (.loop r) := (hf.block _ hlt).trans hl;have hk1 : W1.heap[w.heap.size]? = some (.deferred (some [])) := (hf.block _ (by omega)).trans hk;have hi1 : I pre W1 := hI _ _ _ none hi (grow_from hf) (fun _ e => nomatch e);have hlt1 := (Array.getElem?_eq_some_iff.1 hl1).1;refine ⟨_, run_beginRound hl1 (by rw [hr]), ?_⟩;have hl2 : (W1.putObj (w.heap.size + 1) (.loop { r with state := .busy })).heap[w.heap.size + 1]? = some (.loop { r with state := .busy }) := World.putObj_heap_same hlt1;have hk2 : (W1.putObj (w.heap.size + 1) (.loop { r with state := .busy })).heap[w.heap.size]? = some (.deferred (some [])) := (World.putObj_heap_other (by omega)).trans hk1;have hb2 : (W1.putObj (w.heap.size + 1) (.loop { r with state := .busy })).heap[W.heap.size]? = some (box x) := (World.putObj_heap_other (by omega)).trans hbx;have hkp : Kp W (W1.putObj (w.heap.size + 1) (.loop { r with state := .busy })) := hKt (hKf _ _ _ hi hf) (hKb _ _ _ _ (by omega) hl1 rfl);refine wpIn_mono (hbody _ pre x _ _ (hI.putObj _ hi1 (by omega) hl1 rfl) hlen hb2) ?_
     rintro e a3 W3 ⟨rfl, hk3, hkp3, hi3⟩
     have hl3 := hk3.same _ _ hl2 rfl;have hlt3 := (Array.getElem?_eq_some_iff.1 hl3).1;refine ⟨_, _, run_endRound (P := P) none hl3, .inl ⟨rfl, ⟨hI.putObj _ hi3 (by omega) hl3 rfl, ?_, ?_⟩, hKt (hKt hkp hkp3) (hKb _ _ _ _ (by omega) hl3 rfl)⟩⟩
     . rw [World.putObj_heap_same hlt3, hr];rfl
     . exact (World.putObj_heap_other (by omega)).trans (hk3.same _ _ hk2 rfl)
   . rintro e W2 ⟨⟨v, rfl⟩, ⟨xs, hS, hi, hl, hk⟩ | ⟨pre, _, h⟩⟩
     . have hpend : r.pending = none := by rw [hr]
       have hel := run_endLoop (P := P) hl (by rw [hr]; simp);rw [hpend] at hel;exact ⟨none, _, hel, hdone _ xs _ (Nat.le_refl _) hS (hI.putObj _ hi (by omega) hl rfl) ((World.putObj_heap_other (by omega)).trans hk)⟩
     . exact h.elim
end
open Go.Shelf
attribute [local go_sem] Oper.semAt_some
set_option maxRecDepth 100000 in
set_option maxHeartbeats 2000000 in
theorem slot_All (nc cc : Nat) (A : Option Addr) (sz : Int) (css : List (List Value)) (ts : List Int) (w : World) (v1 v2 v3 v4 v5 v6 v7 v8 v9 v10 v11 v12 : Value)
 (hrd : Rd w w.heap.size 12 A css) (hlc : css.length = nc) (hlt : ts.length = nc) (hnc : nc <= 1000) (hts : ∀ t ∈ ts, 0 <= t /\ t <= 1000) (hone : ∀ cs ∈ css, ∀ u ∈ cs, u.oneCell' = true) (hcs : ∀ k cs, css[k]? = some cs -> ∃ v0 v1 v2 v4 v5 v6 v7 v8 v9 v10 v11 : Value, cs = [v0, v1, v2, .int .i64 (ts.getD k 0), v4, v5, v6, v7, v8, v9, v10, v11]) :
 Calls Tryz.prog 81 #[.agg #[.slice A nc cc, v1, v2, v3, v4, v5, v6, v7, v8, v9, v10, v11, v12], .int .u8 sz] w fun e w' => ∃ D d, e = .returned (.slice D (slotL ts sz nc).length d) /\ OwnS w' w.heap.size 40 3 D d ((slotL ts sz nc).map Slot.cells) /\ From w w' := by
 refine (callsIn_wide (n := 3)).1 ?_;refine callsIn_of_wp_marks Tryz.func81 rfl trivial ?_ rfl;simp only [Tryz.ntmps81, List.size_toArray, List.length_cons, List.length_nil, Nat.reduceAdd, Nat.reduceSub, Array.replicate_succ, Array.replicate_zero, List.push_toArray, List.append_toArray, List.nil_append, List.cons_append];have HRD := Lib.hid hrd;have HCS := Lib.hid hcs;have HONE := Lib.hid hone;clear hrd hcs hone
 gi_wp2_with (refine ⟨trivial, ?_⟩; gi_at_call 122; refine (callsIn_wide.2 (slots_in _ _ rfl _ _)).mono ?_; rintro e w' ⟨rfl, rfl⟩)
 obtain ⟨sv, hsv⟩ : ∃ sv : Value, sv = .agg #[.slice A nc cc, v1, v2, v3, v4, v5, v6, v7, v8, v9, v10, v11, v12] := ⟨_, rfl⟩
 rw [<- hsv];have HM := (((Mem.nil w).any (.cells #[.slice A nc cc, v1, v2, v3, v4, v5, v6, v7, v8, v9, v10, v11, v12] 32 (0, 0))).alloc 162 [.slice none 0 0]).none 40 3;have HM2 := (HM.any (.cells #[.slice A nc cc, v1, v2, v3, v4, v5, v6, v7, v8, v9, v10, v11, v12] 32 (0, 0))).any (.cells #[.int .u8 sz] 5 (0, 0));rw [World.size_alloc] at HM2;have hsA : (((w.alloc (.cells #[.slice A nc cc, v1, v2, v3, v4, v5, v6, v7, v8, v9, v10, v11, v12] 32 (0, 0))).alloc (.cells #[.slice none 0 0] 162)).alloc (.cells #[.slice A nc cc, v1, v2, v3, v4, v5, v6, v7, v8, v9, v10, v11, v12] 32 (0, 0))).heap[w.heap.size + 1 + 1]? = some (.cells #[.slice A nc cc, v1, v2, v3, v4, v5, v6, v7, v8, v9, v10, v11, v12] 32 (0, 0)) := by
  have := World.alloc_heap_new ((w.alloc (.cells #[.slice A nc cc, v1, v2, v3, v4, v5, v6, v7, v8, v9, v10, v11, v12] 32 (0, 0))).alloc (.cells #[.slice none 0 0] 162)) (.cells #[.slice A nc cc, v1, v2, v3, v4, v5, v6, v7, v8, v9, v10, v11, v12] 32 (0, 0));rwa [World.size_alloc, World.size_alloc] at this
 obtain ⟨wS, hwS⟩ : ∃ wS, wS = (((w.alloc (.cells #[.slice A nc cc, v1, v2, v3, v4, v5, v6, v7, v8, v9, v10, v11, v12] 32 (0, 0))).alloc (.cells #[.slice none 0 0] 162)).alloc (.cells #[.slice A nc cc, v1, v2, v3, v4, v5, v6, v7, v8, v9, v10, v11, v12] 32 (0, 0))).alloc (.cells #[.int .u8 sz] 5 (0, 0)) := ⟨_, rfl⟩
 have hszS : wS.heap.size = w.heap.size + 4 := by rw [hwS]; simp
 have hcS : wS.cell? ⟨w.heap.size + 1 + 1, 0, none⟩ = some (.slice A nc cc) := by
  have h1 : wS.heap[w.heap.size + 1 + 1]? = some (.cells #[.slice A nc cc, v1, v2, v3, v4, v5, v6, v7, v8, v9, v10, v11, v12] 32 (0, 0)) := by
   rw [hwS];exact (Below.heap_alloc _ _ _ (by simp)).trans hsA
  simp [World.cell?, h1]
 have hzS : wS.heap[w.heap.size + 1 + 1 + 1]? = some (.cells #[.int .u8 sz] 5 (0, 0)) := by
  have := World.alloc_heap_new (((w.alloc (.cells #[.slice A nc cc, v1, v2, v3, v4, v5, v6, v7, v8, v9, v10, v11, v12] 32 (0, 0))).alloc (.cells #[.slice none 0 0] 162)).alloc (.cells #[.slice A nc cc, v1, v2, v3, v4, v5, v6, v7, v8, v9, v10, v11, v12] 32 (0, 0))) (.cells #[.int .u8 sz] 5 (0, 0));rw [World.size_alloc, World.size_alloc, World.size_alloc] at this;rw [hwS];exact this
 rw [<- hwS] at HM2 ⊢;clear hwS hsA HM;have hrd2 : Rd wS w.heap.size 12 A css := HRD.out.below HM2.from_ (Nat.le_refl _);have hlen : (slotL ts sz nc).length <= 2000000 := by
  have := slotL_len ts sz (fun t h => (hts t h).2) nc;omega
 refine range_box (F := Fence.wide) (n := 3) (ps := #[10]) (encs := sloVals) rfl (by decide) (gf := 151) (lb := #[.pointer (some ⟨w.heap.size + 1 + 1, 0, none⟩), .pointer (some ⟨w.heap.size + 1 + 1 + 1, 0, none⟩)]) rfl trivial (enters_of Tryz.func151 (by kernel_rfl) rfl)
  (slots_told w.heap.size _ _ nc cc A sz css ts wS (by omega) hcS (by omega) hzS hrd2 hlc hlt hnc hts HONE.out HCS.out) (fun h k => h.trans k) ?hKb (Below.refl _ _) (fun _ => rfl)
  (fun pre W => ∃ D d, Mem w W [.row 40 3 D d (pre.map Slot.cells), .box (w.heap.size + 1) 162 [.slice D pre.length d]]) ?hI ?hKf ⟨none, 0, HM2⟩ (fun x => .cells #[.int .i64 x.col, .int .i64 x.tier, .int .u8 x.half] 40 (0, 0))
  (fun b x => { tmps := #[sv, .int .u8 sz, .pointer (some ⟨w.heap.size, 0, none⟩), undef, .slice none 0 0, .pointer (some ⟨w.heap.size + 1, 0, none⟩), .pointer (some ⟨b, 0, none⟩), sv, .int .u8 sz, .func (.func 151) #[] #[.pointer (some ⟨w.heap.size + 1 + 1, 0, none⟩), .pointer (some ⟨w.heap.size + 1 + 1 + 1, 0, none⟩)], x.val, undef, undef, undef, undef, undef], defers := [] }) ?assign ?body ?done
 case hKb =>
  intro W l o o' hl ho hc;refine ⟨(Below.refl _ W).grown (grownBy_putObj' W l o') (by have := (Array.getElem?_eq_some_iff.1 ho).1; omega) (fun k e => by cases e; omega), fun b cur hb => (World.putObj_heap_other (fun e => ?_)).trans hb⟩;subst e;rw [hb] at ho;cases ho;cases hc
 case hI =>
  rintro pre W W' row ⟨D, d, h⟩ hg hr
  exact ⟨D, d, h.grown (fun e he s A css h1 => by
   simp only [List.mem_cons, List.not_mem_nil, or_false] at he;rcases he with rfl | rfl <;> cases h1) hg (fun r e => ⟨by have := (hr r e).1; omega, (hr r e).2⟩)⟩
 case hKf =>
  rintro pre W W1 ⟨D, d, h⟩ hb
  exact SloKp.from hb h.from_.size
 case assign =>
  intro l x W K hK;have HMa := Lib.hid ((Mem.nil W).alloc 40 [.int .i64 0, .int .i64 0, .int .u8 0]);subst hsv;unfold sloVals Slot.val
  gi_wp2
  exact hK _ ((Below.refl _ W).alloc (Nat.le_refl _) _) (World.alloc_heap_new _ _)
 case body =>
  rintro l pre x b W ⟨D, d, h⟩ hlt1 hbx
  have hct : cellT Tryz.prog 162 = true := by kernel_rfl
  have hci : (Tryz.prog.info? 162).map (·.size) = some 1 := by kernel_rfl
  have HX : Hid ((loadVar 40 ⟨b, 0, none⟩).run Tryz.prog W = .ok x.val W) := run_load_cells Slot.row (cs := x.cells) rfl (fun j u hu => by
   rw [show (⟨b, 0, none⟩ : Addr).add j = ⟨b, j, none⟩ from by rw [add_none, Nat.zero_add]];simp only [World.cell?, hbx];simpa [Slot.cells] using hu)
  have HM := Lib.hid h;have HA := Lib.hid (h.any (.cells #[.int .i64 x.col, .int .i64 x.tier, .int .u8 x.half] 40 (0, 0)));have hpl : (pre.map Slot.cells).length + 1 <= 3000000 := by rw [List.length_map]; omega
  clear h hbx hlt1
  gi_wp2_with (first
   | (refine wpListIn_ld rfl 162 _ rfl _ rfl _ (HM.out.ldc hct (i := 1) rfl rfl _ (Below.refl _ _)) ?_)
   | (refine wpListIn_ld rfl 40 _ rfl _ rfl _ HX.out ?_)
   | (refine wpListIn_append_M rfl _ _ rfl Slot.ei pre.length (by rw [List.length_map]) rfl HA.out 0 rfl rfl (Rd.rows (css := [x.cells]) (heap_alloc_new W _) rfl (by simp [Slot.cells])) rfl (by simp [Slot.cells, Value.oneCell']) (by unfold maxLen; omega) (by omega) ?_; intro A' c' w5 h5 hg5; have HB := Lib.hid h5; have HG5 := Lib.hid hg5; clear h5 hg5)
   | (refine wpListIn_stB (cs' := [.slice A' (pre.map Slot.cells ++ [x.cells]).length c']) rfl _ _ rfl HB.out 1 rfl rfl rfl hci rfl rfl rfl (by simp [Value.oneCell']) ?_; intro w6 h6 hg6))
  have s5 := HA.out.step (i := 0) rfl (fun s A css h => nomatch h) HG5.out;have s6 := HB.out.step (i := 1) rfl (fun s A css h => nomatch h) hg6;have hfr : From W (W.alloc (.cells #[.int .i64 x.col, .int .i64 x.tier, .int .u8 x.half] 40 (0, 0))) := (Below.refl _ W).alloc (Nat.le_refl _) _;refine ⟨(KeepsOthers.alloc W _).trans (s5.1.trans s6.1), (SloKp.from hfr HM.out.from_.size).trans (SloKp.trans ⟨s5.2.1, fun b cur hb => s5.2.2 _ b cur (by simp [Ent.typ]) hb⟩ ⟨s6.2.1, fun b cur hb => s6.2.2 _ b cur (by simp [Ent.typ]) hb⟩), A', c', ?_⟩;simpa using h6
 case done =>
  rintro D0 xs W hD rfl ⟨D, d, h⟩ hK
  have hct : cellT Tryz.prog 162 = true := by kernel_rfl
  have HM := Lib.hid h;clear HRD HCS HONE hrd2 hcS hzS HM2
  gi_wp2_with (refine wpListIn_ld rfl 162 _ rfl _ rfl _ (HM.out.ldc hct (i := 1) rfl rfl _ (Below.refl _ _)) ?_)
  refine ⟨by simp, .inl ⟨_, _, rfl, run_takeDeferred hK, ?_⟩⟩;have hM3 := HM.out.grown (fun e he s A css h1 => by
   simp only [List.mem_cons, List.not_mem_nil, or_false] at he;rcases he with rfl | rfl <;> cases h1) (grownBy_putObj' W D0 (.deferred none)) (fun r e => by cases e; exact ⟨by omega, _, hK, rfl⟩)
  refine ⟨.slice D (slotL ts sz nc).length d, ?_, D, d, rfl, hM3.own (i := 0) rfl, hM3.from_⟩;simp [results, Tryz.f81, go_sem]
end Go.Proofs.YtfdjcakgolenbaaGreat
namespace Go.Proofs.YtfdjcakgolenbaaGreat
open Go.RowKit
def plcOk (p : Plc) : Prop := (0 <= p.bay /\ p.bay <= 255) /\ (0 <= p.row /\ p.row <= 255) /\ 0 <= p.tiers /\ p.tiers <= 255
def colP (p : Plc) : Col := ⟨p.bay % 5, p.row % 5, p.deck, 2 + p.tiers % 4, 0, 500000000, 500000000, 0, [], 13000 * (p.bay % 5) - 26000, 2500 * (p.row % 5) - 5000, cond p.deck 20000 2000⟩
def colsK (l : List Plc) : Nat -> List Col
 | 0 => []
 | k + 1 => cond (findC (colsK l k) (colP (l.getD k Tc.plc.dflt)).bay (colP (l.getD k Tc.plc.dflt)).row (l.getD k Tc.plc.dflt).deck).isEmpty (colsK l k ++ [colP (l.getD k Tc.plc.dflt)]) (colsK l k)
theorem colsK_len (l : List Plc) : ∀ k, (colsK l k).length <= k
 | 0 => Nat.le_refl _
 | k + 1 => by
  unfold colsK;have := colsK_len l k
  cases (findC (colsK l k) (colP (l.getD k Tc.plc.dflt)).bay (colP (l.getD k Tc.plc.dflt)).row (l.getD k Tc.plc.dflt).deck).isEmpty with
  | true => simp only [cond_true, List.length_append, List.length_cons, List.length_nil]; omega
  | false => simp only [cond_false]; omega
def bareCol : Col := ⟨0, 0, false, 3, 0, 500000000, 500000000, 0, [], 0, 0, 2000⟩
def colsF (l : List Plc) : List Col := cond (colsK l (min l.length 12)).isEmpty [bareCol] (colsK l (min l.length 12))
def bitB (n k : Int) : Bool := decide (bitF BinOp.and IntKind.u32 (shF BinOp.shr IntKind.u32 n k) 1 = 1)
def covsK (n : Int) : Nat -> List Cov
 | 0 => []
 | k + 1 => covsK n k ++ cond (bitB n (2 * k)) [⟨(k : Int), [0, 1]⟩] [] ++ cond (bitB n (2 * k + 1)) [⟨(k : Int), [2, 3, 4]⟩] []
theorem covsK_len (n : Int) : ∀ k, (covsK n k).length <= 2 * k
 | 0 => Nat.le_refl _
 | k + 1 => by
  unfold covsK;have := covsK_len n k;cases bitB n (2 * k) <;> cases bitB n (2 * k + 1) <;> simp only [cond_true, cond_false, List.length_append, List.length_cons, List.length_nil] <;> omega
def builtF (l : List Plc) (n : Int) : Shp := ⟨colsF l, covsK n 5, 0, 0, 0, 0, [], [], [], 0, 0, 0, 0⟩
def shipC (x y : AV) : List AV := [x, y, .lit .i64 0, .lit .i64 0, .lit .i64 0, .lit .i64 0, .nil, .nil, .nil, .lit .i64 0, .lit .i64 0, .lit .i64 0, .lit .i64 0]
def lpB1 (l : List Plc) (m : Nat) : Lp where
 X := Nat
 ov k := [(18, .int .i64 fun _ => (k : Int))]
 oe k := [(1, .box 32 (shipC (.own 2) .nil)), (2, .row true .col 47 fun _ => colsK l k)]
 I k := k <= m
 μ k _ := m - k
 x0 := 0
 nx := some fun k => k + 1
def lpB2 (n : Int) (c d : Nat) : Lp where
 X := Nat
 ov j := [(11, .int .i64 fun _ => (j : Int))]
 oe j := [(1, .box 32 (shipC (.own c) (.own d))), (d, .row true .cov 134 fun _ => covsK n j)]
 I j := j <= 5
 μ j _ := 5 - j
 x0 := 0
 nx := some fun j => j + 1
def allF (cs : List Col) (sz : Int) : List Slot := slotL (cs.map (·.tiers)) sz cs.length
theorem new_sl {w w' : World} {ρ : Nat -> Option Rl} {ra : Nat -> Prop} {T : Nat} {t : Tc} {l : Unit -> List t.el} {A : Option Addr} {c : Nat} (f : t.el -> List Value) (ht : ∀ x : t.el, (cellsAV true t fun _ => x).all AV.flat = true) (hf : ∀ x : t.el, (cellsAV true t fun _ => x).map AV.valOf = f x)
 (ho : OwnS w' w.heap.size T t.size A c ((l ()).map f)) : AVR w' ρ w.heap.size (fun b => ra b \/ w.heap.size <= b) (.sl true t l) (.slice A (l ()).length c) := by
 refine .sl true t l A c ((l ()).map f) (by simp) ?_ ho.rd (fun a ha _ => .inr (ho.lt ha).1) (fun _ a ha _ => (ho.lt ha).1) fun k cs j x v hk hx hv => ?_
 . rcases ho.1.2 with ⟨h2, h3⟩ | ⟨g, cap, cur, h2, h3, _, h5, _⟩
   . rw [h3];exact Nat.zero_le _
   . injection h2 with _ _ h6;rw [h6];exact h5
 . rw [List.getElem?_map] at hk
   cases hlk : (l ())[k]? with
   | none => rw [hlk] at hk; cases hk
   | some y =>
    rw [hlk] at hk;injection hk with hk;subst hk;have hy : (l ()).getD k t.dflt = y := by rw [List.getD_eq_getElem?_getD, hlk]; rfl
    rw [hy] at hx;have hE : Each w' ρ w.heap.size (fun b => ra b \/ w.heap.size <= b) (cellsAV true t fun _ => y) (f y) := by
     rw [<- hf];exact each_flat (ht y)
    exact hE.2 j x v hx hv
theorem AVR.colrows {w : World} {ρ : Nat -> Option Rl} {base : Nat} {ro : Nat -> Prop} {v : Value} {fr : Bool} {l : Unit -> List Col} (h : AVR w ρ base ro (.sl fr .col l) v) : ∃ A c css, v = .slice A (l ()).length c /\ css.length = (l ()).length /\ Rd w w.heap.size 12 A css /\ (∀ cs ∈ css, ∀ u ∈ cs, u.oneCell' = true) /\
 ∀ k cs, css[k]? = some cs -> ∃ v0 v1 v2 v4 v5 v6 v7 v8 v9 v10 v11 : Value, cs = [v0, v1, v2, .int .i64 (((l ()).map (·.tiers)).getD k 0), v4, v5, v6, v7, v8, v9, v10, v11] := by
 cases h with
 | sl _ _ _ A c css hl hc hr hro hfr h =>
  refine ⟨A, c, css, rfl, hl, hr, news_one hr h, fun k cs hk => ?_⟩;have hlen : cs.length = 12 := hr.len cs (List.mem_of_getElem? hk);have hkl : k < (l ()).length := by have := (List.getElem?_eq_some_iff.1 hk).1; omega
  match cs, hlen with
  | [v0, v1, v2, v3, v4, v5, v6, v7, v8, v9, v10, v11], _ =>
   have h3 := h k _ 3 _ v3 hk rfl rfl;have e3 := h3.int_;refine ⟨v0, v1, v2, v4, v5, v6, v7, v8, v9, v10, v11, ?_⟩;rw [e3];simp only [List.getD_eq_getElem?_getD, List.getElem?_map, List.getElem?_eq_getElem hkl, Option.map_some, Option.getD_some]
def conAll : Con := ⟨81, [.agg shipSg, .int .u8], fun
 | [x0, x1] => (x0.toShip).bind fun s => (x1.toU8).bind fun sz => some ⟨fun _ => (s ()).cols.length <= 1000 /\ ∀ c ∈ (s ()).cols, 0 <= c.tiers /\ c.tiers <= 1000, .sl true .slot fun _ => allF (s ()).cols (sz ())⟩
 | _ => none⟩
theorem conAll_ok : ConOk Tryz.prog conAll := by
 refine oldOk Tryz.func81 (by kernel_rfl) fun avs res h w ra vals hE hp => ?_;simp only [conAll] at h;split at h
 case h_2 => cases h
 rename_i x0 x1;simp only [Option.bind_eq_some_iff, Option.some.injEq] at h;obtain ⟨s, e0, sz, e1, rfl⟩ := h;obtain rfl := AV.toShip_ e0;obtain rfl := AV.toU8_ e1;clear e0 e1;obtain ⟨s, rfl⟩ := eta (α := Shp) s;obtain ⟨sz, rfl⟩ := eta (α := Int) sz;obtain ⟨v0, us0, rfl, hv0, h0⟩ := hE.head;obtain ⟨v1, us1, rfl, hv1, h1⟩ := h0.head;obtain rfl := h1.none;obtain rfl := hv1.int_;obtain ⟨vs, rfl, hvs⟩ := hv0.agg_;have hZhp1 : s.cols.length <= 1000 /\ ∀ c ∈ s.cols, 0 <= c.tiers /\ c.tiers <= 1000 := hp;have hp1 := hZhp1.1;have hp2 := hZhp1.2;have hl13 : vs.length = 13 := hvs.1.symm
 match vs, hl13 with
 | [w0, w1, w2, w3, w4, w5, w6, w7, w8, w9, w10, w11, w12], _ =>
  obtain ⟨A, c, css, e0, e1, e2, e3, e4⟩ := (hvs.2 0 _ w0 rfl rfl).colrows;subst e0;exact (slot_All _ c A sz css (s.cols.map (·.tiers)) w w1 w2 w3 w4 w5 w6 w7 w8 w9 w10 w11 w12 e2 e1 (by simp) hp1 (fun t ht => by
   obtain ⟨c, hc, rfl⟩ := List.mem_map.1 ht;exact hp2 c hc) e3 e4).mono fun e w' ⟨D, d, k1, k2, k3⟩ => ⟨_, k1, k3, new_sl (t := .slot) (l := fun _ => allF s.cols sz) Slot.cells (fun _ => rfl) (fun _ => rfl) k2⟩
structure Sml where
 step : Int
 light : Int
 at_ : Int
 kilos : Int
 share : Int
deriving DecidableEq
def limb (n i : Nat) : Int := (((pad B32 8 n).getD i 0 : Nat) : Int)
def fracL (f : Unit -> FracV) : List AV := [.bool fun _ => (f ()).neg, .int .u32 fun _ => limb (f ()).num 0, .int .u32 fun _ => limb (f ()).num 1, .int .u32 fun _ => limb (f ()).num 2, .int .u32 fun _ => limb (f ()).num 3, .int .u32 fun _ => limb (f ()).num 4, .int .u32 fun _ => limb (f ()).num 5, .int .u32 fun _ => limb (f ()).num 6, .int .u32 fun _ => limb (f ()).num 7, .int .u32 fun _ => limb (f ()).den 0, .int .u32 fun _ => limb (f ()).den 1, .int .u32 fun _ => limb (f ()).den 2, .int .u32 fun _ => limb (f ()).den 3, .int .u32 fun _ => limb (f ()).den 4, .int .u32 fun _ => limb (f ()).den 5, .int .u32 fun _ => limb (f ()).den 6, .int .u32 fun _ => limb (f ()).den 7]
def ctrL (c : Unit -> Ctr) : List AV := fracL (fun _ => (c ()).x) ++ (fracL (fun _ => (c ()).y) ++ fracL fun _ => (c ()).z)
theorem limbs_all (n : Nat) : [limb n 0, limb n 1, limb n 2, limb n 3, limb n 4, limb n 5, limb n 6, limb n 7] = (pad B32 8 n).map fun (k : Nat) => (k : Int) := by
 obtain ⟨a0, a1, a2, a3, a4, a5, a6, a7, h⟩ := list8 (pad_len B32 8 n);unfold limb;rw [h];rfl
theorem fracL_val (f : Unit -> FracV) : (fracL f).map AV.valOf = (f ()).cells := by
 unfold FracV.cells;have e : ∀ n, (pad B32 8 n).map (fun (k : Nat) => Value.int .u32 (k : Int)) = [limb n 0, limb n 1, limb n 2, limb n 3, limb n 4, limb n 5, limb n 6, limb n 7].map (Value.int .u32) := fun n => by rw [limbs_all, List.map_map]; rfl
 rw [e, e];rfl
theorem ctrL_val (c : Unit -> Ctr) : (ctrL c).map AV.valOf = (c ()).cells := by
 unfold ctrL Ctr.cells;rw [List.map_append, List.map_append, fracL_val, fracL_val, fracL_val]
section
variable {w : World} {ρ : Nat -> Option Rl} {base : Nat} {ro : Nat -> Prop} {v : Value}
theorem avr_frac (f : Unit -> FracV) : AVR w ρ base ro (.agg (fracL f)) (f ()).val := by
 have h := avr_aggF (w := w) (ρ := ρ) (base := base) (ro := ro) (l := fracL f) rfl;rwa [fracL_val] at h
theorem avr_ctr (c : Unit -> Ctr) : AVR w ρ base ro (.agg (ctrL c)) (c ()).val := by
 have h := avr_aggF (w := w) (ρ := ρ) (base := base) (ro := ro) (l := ctrL c) rfl;rwa [ctrL_val] at h
end
theorem in_lo {n : Int} (h : inI64 n) : -9223372036854775808 <= n := h.1
theorem in_hi {n : Int} (h : inI64 n) : n <= 9223372036854775807 := h.2
def conRatio : Con := ⟨52, [.int .i64, .int .i64], fun
 | [x0, x1] => (x0.toI).bind fun a => (x1.toI).bind fun b => some ⟨fun _ => inI64 (a ()) /\ inI64 (b ()), .tup [.agg (fracL fun _ => (ratioL (a ()) (b ())).1), .int .i64 fun _ => (ratioL (a ()) (b ())).2]⟩
 | _ => none⟩
theorem conRatio_ok : ConOk Tryz.prog conRatio := by
 refine oldOk Tryz.func52 (by kernel_rfl) fun avs res h w ra vals hE hp => ?_;simp only [conRatio] at h;split at h
 case h_2 => cases h
 rename_i x0 x1;simp only [Option.bind_eq_some_iff, Option.some.injEq] at h;obtain ⟨a, e0, b, e1, rfl⟩ := h;obtain rfl := AV.toI_ e0;obtain rfl := AV.toI_ e1;clear e0 e1;obtain ⟨a, rfl⟩ := eta (α := Int) a;obtain ⟨b, rfl⟩ := eta (α := Int) b;obtain ⟨v0, us0, rfl, hv0, h0⟩ := hE.head;obtain ⟨v1, us1, rfl, hv1, h1⟩ := h0.head;obtain rfl := h1.none;obtain rfl := hv0.int_;obtain rfl := hv1.int_;exact (frac_Ratio a b (in_lo hp.1) (in_hi hp.1) (in_lo hp.2) (in_hi hp.2) w).mono fun e w' ⟨k1, k2⟩ => ⟨_, k1, k2, avr_tup2 (avr_frac _) (.int _ _)⟩
def conOf : Con := ⟨24, [.int .i64], fun
 | [x0] => (x0.toI).bind fun a => some ⟨fun _ => inI64 (a ()), .agg (fracL fun _ => ofL (a ()))⟩
 | _ => none⟩
def conFind : Con := ⟨20, [.agg ldSg], fun
 | [x0] => (x0.toLd).bind fun x => some ⟨fun _ => True, .tup [.agg (ctrL fun _ => (findF (x ())).1), .int .i64 fun _ => (findF (x ())).2]⟩
 | _ => none⟩
theorem conFind_ok : ConOk Tryz.prog conFind := by
 refine oldOk Tryz.func20 (by kernel_rfl) fun avs res h w ra vals hE hp => ?_;simp only [conFind] at h;split at h
 case h_2 => cases h
 rename_i x0;simp only [Option.bind_eq_some_iff, Option.some.injEq] at h;obtain ⟨x, e0, rfl⟩ := h;obtain rfl := AV.toLd_ e0;clear e0;obtain ⟨x, rfl⟩ := eta (α := Ld) x;obtain ⟨v0, us0, rfl, hv0, h0⟩ := hE.head;obtain rfl := h0.none;obtain rfl := hv0.aggF rfl;exact (m_Find x w).mono fun e w' ⟨k1, k2⟩ => ⟨_, k1, k2, avr_tup2 (avr_ctr _) (.int _ _)⟩
def cols07 : List Col := [⟨0, 0, false, 2, 0, 0, 0, 0, [], 0, 0, 0⟩, ⟨0, 1, false, 2, 0, 0, 0, 0, [], 0, 0, 0⟩, ⟨0, 0, true, 3, 0, 0, 0, 0, [], 0, 0, 0⟩, ⟨0, 1, true, 3, 0, 0, 0, 0, [], 0, 0, 0⟩, ⟨1, 1, true, 4, 0, 0, 0, 0, [], 0, 0, 0⟩]
def covs07 : List Cov := [⟨0, [0, 1]⟩]
def cols15 : List Col := [⟨0, 0, false, 2, 0, 0, 0, 0, [], 1000, -500, 2000⟩, ⟨0, 1, false, 2, 0, 0, 0, 0, [], 0, 0, 0⟩, ⟨0, 0, true, 3, 0, 0, 0, 0, [], 0, 0, 0⟩, ⟨0, 1, true, 3, 0, 0, 0, 0, [], 0, 0, 0⟩, ⟨1, 1, true, 4, 0, 0, 0, 0, [], 0, 0, 0⟩]
def boxes15 : List Box := [⟨1, noText, 20, false, 5000, 0, 1, 0, false⟩, ⟨2, noText, 20, false, 8000, 0, 1, 0, false⟩, ⟨3, noText, 40, true, 10000, 0, 1, 0, false⟩]
def state15 : List Stowed := [⟨1, 0, 0, 1⟩, ⟨2, 0, 0, 2⟩, ⟨3, 0, 1, 0⟩]
def exShipAV (loc : Nat) : AV := .agg [.own loc, .sl true .cov fun _ => covs07, .lit .i64 0, .lit .i64 0, .lit .i64 0, .lit .i64 0, .nil, .nil, .nil, .lit .i64 0, .lit .i64 0, .lit .i64 0, .lit .i64 0]
def fonEx07 : Fon := ⟨38, [], 0, fun avs es => match avs, es with
 | [], [] => some ⟨fun _ => True, exShipAV 1, [(1, .row true .col 47 fun _ => cols07)]⟩
 | _, _ => none, false⟩
def fonEx15 : Fon := ⟨11, [], 0, fun avs es => match avs, es with
 | [], [] => some ⟨fun _ => True, .tup [exShipAV 2, .own 4, .own 5], [(2, .row true .col 47 fun _ => cols15), (4, .row true .box 44 fun _ => boxes15), (5, .row true .stowed 42 fun _ => state15)]⟩
 | _, _ => none, false⟩
set_option maxRecDepth 100000 in
set_option maxHeartbeats 4000000 in
theorem fonEx07_ok : FonOk Tryz.prog fonEx07 := by
 refine fonOk [] trivial [] trivial Tryz.func38 (by kernel_rfl) fun avs es res h hp => ?_;simp only [fonEx07] at h;split at h
 case h_2 => cases h
 cases h;refine ⟨[], ?_⟩
 conv => arg 1; cbv
 simp (maxSteps := 4000000) only [P_vc, P_br, P_and, P_fin, V_nil, V_one, V_cons, T_self, castK, succK, Int.toNat_natCast, predK, decide_eq_true_eq, decide_eq_false_iff_not, List.map_cons, List.map_nil, cond_true, cond_false]
 first | trivial | exact ⟨rfl, rfl⟩ | rfl
set_option maxRecDepth 100000 in
set_option maxHeartbeats 4000000 in
theorem fonEx15_ok : FonOk Tryz.prog fonEx15 := by
 refine fonOkO { jn := [(2, [0, 1, 2, 3])], sc := [(2, schList [0, 2, 4] (.alt (schList [1, 6, 7] (.alt (.op 3 (.alt (schList [5, 8, 9, 10, 11, 12, 13, 14] .nil) (schList [8, 9, 10] (.alt (schList [5, 11, 12, 13, 14] .nil) (schList [11, 5, 12, 13, 14] .nil))))) (.alt (.op 5 (.alt (schList [3, 8, 9, 10, 11, 12, 13, 14] .nil) (schList [8, 3, 9, 10, 11, 12, 13, 14] .nil))) (.op 8 (.alt (schList [3, 9, 10] (.alt (schList [5, 11, 12, 13, 14] .nil) (schList [11, 5, 12, 13, 14] .nil))) (schList [5, 3, 9, 10, 11, 12, 13, 14] .nil)))))) (.alt (.op 3 (.alt (schList [1, 6, 7] (.alt (schList [5, 8, 9, 10, 11, 12, 13, 14] .nil) (schList [8, 9, 10] (.alt (schList [5, 11, 12, 13, 14] .nil) (schList [11, 5, 12, 13, 14] .nil))))) (schList [5, 1, 6, 7, 8, 9, 10, 11, 12, 13, 14] .nil))) (.op 5 (.alt (schList [1, 6, 7] (.alt (schList [3, 8, 9, 10, 11, 12, 13, 14] .nil) (schList [8, 3, 9, 10, 11, 12, 13, 14] .nil))) (schList [3, 1, 6, 7, 8, 9, 10, 11, 12, 13, 14] .nil))))))] } [] trivial [fonEx07] ⟨fonEx07_ok, trivial⟩ Tryz.func11 (by kernel_rfl) fun avs es res h hp => ?_;simp only [fonEx15] at h;split at h
 case h_2 => cases h
 cases h;refine ⟨[], ?_⟩
 conv => arg 1; cbv
 simp (maxSteps := 4000000) only [P_vc, P_br, P_and, P_fin, V_nil, V_one, V_cons, T_self, castK, succK, Int.toNat_natCast, predK, decide_eq_true_eq, decide_eq_false_iff_not, List.map_cons, List.map_nil, cond_true, cond_false]
 first | trivial | exact ⟨rfl, rfl⟩ | rfl
def drpOk (d : Drp) : Prop := (0 <= d.col /\ d.col <= 255) /\ 0 <= d.kilos /\ d.kilos <= 255
def dropB (i : Nat) (d : Drp) : Box := ⟨5 * ((i : Int) + 1), noText, cond d.small 20 40, cond d.small false d.high, 1000 + 100 * d.kilos, 0, 1, 0, false⟩
def boxesK (l : List Drp) (k : Nat) : List Box := (List.range k).map fun i => dropB i (l.getD i Tc.drp.dflt)
def stoAt (id : Int) (x : Slot) : Stowed := ⟨id, x.col, x.tier, x.half⟩
def dropOk (s : Shp) (bs : List Box) (st : List Stowed) (id c : Int) (x : Slot) : Bool := decide (x.col = c.tmod (s.cols.length : Int)) && stowB s bs (st ++ [stoAt id x])
def stateK (s : Shp) (l : List Drp) : Nat -> List Stowed
 | 0 => []
 | k + 1 => match (allF s.cols (dropB k (l.getD k Tc.drp.dflt)).size).find? (dropOk s (boxesK l (k + 1)) (stateK s l k) (5 * ((k : Int) + 1)) (l.getD k Tc.drp.dflt).col) with
  | some x => stateK s l k ++ [stoAt (5 * ((k : Int) + 1)) x]
  | none => stateK s l k
theorem boxesK_succ (l : List Drp) (k : Nat) : boxesK l (k + 1) = boxesK l k ++ [dropB k (l.getD k Tc.drp.dflt)] := by
 unfold boxesK;rw [List.range_succ, List.map_append];rfl
theorem boxesK_len (l : List Drp) (k : Nat) : (boxesK l k).length = k := by simp [boxesK]
theorem stateK_len (s : Shp) (l : List Drp) : ∀ k, (stateK s l k).length <= k
 | 0 => Nat.le_refl _
 | k + 1 => by
  unfold stateK;have := stateK_len s l k;split
  . rw [List.length_append];simp only [List.length_cons, List.length_nil];omega
  . omega
theorem allF_len {cs : List Col} {sz : Int} (h1 : cs.length <= 1000) (h2 : ∀ c ∈ cs, 0 <= c.tiers /\ c.tiers <= 1000) : (allF cs sz).length <= 2000000 := by
 have := slotL_len (cs.map (·.tiers)) sz (fun t ht => by
  obtain ⟨c, hc, rfl⟩ := List.mem_map.1 ht;exact (h2 c hc).2) cs.length
 unfold allF;omega
theorem find_at {α : Type} {p : α -> Bool} {l : List α} {j : Nat} (d : α) (h : (l.take j).all (fun x => !p x) = true) (hj : j < l.length) (hp : p (l.getD j d) = true) : l.find? p = some (l.getD j d) := by
 have e : l.getD j d = l[j] := by rw [List.getD_eq_getElem?_getD, List.getElem?_eq_getElem hj]; rfl
 rw [e] at hp ⊢;have h1 : (l.take j).find? p = none := by
  rw [List.find?_eq_none];intro x hx hpx;have := List.all_eq_true.1 h x hx;rw [hpx] at this;cases this
 rw [show l.find? p = (l.take j ++ l.drop j).find? p from by rw [List.take_append_drop], List.find?_append, h1, List.drop_eq_getElem_cons hj, List.find?_cons, hp];rfl
theorem find_end {α : Type} {p : α -> Bool} {l : List α} {j : Nat} (h : (l.take j).all (fun x => !p x) = true) (hj : l.length <= j) : l.find? p = none := by
 rw [List.take_of_length_le hj] at h;rw [List.find?_eq_none];intro x hx hpx;have := List.all_eq_true.1 h x hx;rw [hpx] at this;cases this
theorem shp_eta (s : Shp) : (⟨s.cols, s.covs, s.lk, s.lx, s.ly, s.lz, s.rows, s.frms, s.tnks, s.m1, s.m2, s.m3, s.m4⟩ : Shp) = s := rfl
theorem colsK_mem {l : List Plc} (hw : ∀ p ∈ l, plcOk p) : ∀ {k : Nat}, k <= l.length -> ∀ c ∈ colsK l k, ∃ p, plcOk p /\ c = colP p
 | 0, _, c, h => by cases h
 | k + 1, hk, c, h => by
  unfold colsK at h;have hq := hw _ (getD_mem Tc.plc.dflt (show k < l.length by omega))
  cases hE : (findC (colsK l k) (colP (l.getD k Tc.plc.dflt)).bay (colP (l.getD k Tc.plc.dflt)).row (l.getD k Tc.plc.dflt).deck).isEmpty with
  | true =>
   rw [hE, cond_true, List.mem_append] at h;rcases h with h | h
   . exact colsK_mem hw (by omega) c h
   . rw [List.mem_singleton] at h;exact ⟨_, hq, h⟩
  | false =>
   rw [hE, cond_false] at h;exact colsK_mem hw (by omega) c h
theorem findC_none {cs : List Col} {a b : Int} {d : Bool} (h : (findC cs a b d).isEmpty = true) : ∀ c ∈ cs, colIs a b d c = false := by
 intro c hc;obtain ⟨j, hj⟩ := List.mem_iff_getElem?.1 hc;obtain ⟨hlt, he⟩ := List.getElem?_eq_some_iff.1 hj
 cases hb : colIs a b d c with
 | false => rfl
 | true =>
  exfalso;have : (j : Int) ∈ findC cs a b d := by
   unfold findC placesK;refine List.mem_map.2 ⟨j, List.mem_filter.2 ⟨List.mem_range.2 hlt, ?_⟩, rfl⟩;rw [List.getD_eq_getElem?_getD, hj];exact hb
  rw [List.isEmpty_iff.1 h] at this;cases this
theorem colKey_is {a b : Int} {d : Bool} {c c' : Col} (h : colIs a b d c = false) (h1 : c'.bay = a) (h2 : c'.row = b) (h3 : c'.deck = d) : colKey c ≠ colKey c' := by
 intro e;unfold colKey at e;rw [h1, h2, h3] at e;simp only [List.cons.injEq, Kx.i.injEq, true_and, and_true] at e;obtain ⟨e1, e2, e3⟩ := e;have e4 : c.deck = d := by cases hc : c.deck <;> cases d <;> simp_all
 unfold colIs at h;rw [e1, e2, e4] at h;simp at h
theorem colsK_nodup (l : List Plc) : ∀ k, ((colsK l k).map colKey).Nodup
 | 0 => List.nodup_nil
 | k + 1 => by
  unfold colsK;have ih := colsK_nodup l k
  cases hE : (findC (colsK l k) (colP (l.getD k Tc.plc.dflt)).bay (colP (l.getD k Tc.plc.dflt)).row (l.getD k Tc.plc.dflt).deck).isEmpty with
  | true =>
   rw [cond_true, List.map_append, List.nodup_append];refine ⟨ih, by simp, fun a ha b hb => ?_⟩;obtain ⟨c, hc, rfl⟩ := List.mem_map.1 ha;rw [List.map_singleton, List.mem_singleton] at hb;subst hb;exact colKey_is (findC_none hE c hc) rfl rfl rfl
  | false => exact ih
theorem covsK_mem (n : Int) : ∀ k, ∀ x ∈ covsK n k, ∃ j : Nat, j < k /\ x.bay = (j : Int) /\ (x.rows = [0, 1] \/ x.rows = [2, 3, 4])
 | 0, x, h => by cases h
 | k + 1, x, h => by
  unfold covsK at h;rw [List.mem_append, List.mem_append] at h;rcases h with (h | h) | h
  . obtain ⟨j, h1, h2⟩ := covsK_mem n k x h;exact ⟨j, by omega, h2⟩
  . cases hb : bitB n (2 * (k : Int)) with
    | true => rw [hb, cond_true, List.mem_singleton] at h; subst h; exact ⟨k, by omega, rfl, .inl rfl⟩
    | false => rw [hb, cond_false] at h; cases h
  . cases hb : bitB n (2 * (k : Int) + 1) with
    | true => rw [hb, cond_true, List.mem_singleton] at h; subst h; exact ⟨k, by omega, rfl, .inr rfl⟩
    | false => rw [hb, cond_false] at h; cases h
theorem covKeys_mem {x : Cov} {key : List Kx} (h : key ∈ covKeys x) : ∃ r ∈ x.rows, key = [.i .i64 x.bay, .i .i64 r, .i .i64 2] := by
 obtain ⟨r, h1, h2⟩ := List.mem_map.1 h;exact ⟨r, h1, h2.symm⟩
theorem covsK_nodup (n : Int) : ∀ k, ((covsK n k).flatMap covKeys).Nodup
 | 0 => List.nodup_nil
 | k + 1 => by
  unfold covsK;have ih := covsK_nodup n k;have hold : ∀ a ∈ (covsK n k).flatMap covKeys, ∃ (j : Nat) (r : Int), j < k /\ a = [.i .i64 (j : Int), .i .i64 r, .i .i64 2] := fun a ha => by
   obtain ⟨x, hx, hax⟩ := List.mem_flatMap.1 ha;obtain ⟨j, hj, hb, _⟩ := covsK_mem n k x hx;obtain ⟨r, _, e⟩ := covKeys_mem hax;exact ⟨j, r, hj, by rw [e, hb]⟩
  have hdis : ∀ (rs : List Int), ∀ a ∈ (covsK n k).flatMap covKeys, ∀ b ∈ rs.map (fun r => [Kx.i .i64 (k : Int), Kx.i .i64 r, Kx.i .i64 2]), a ≠ b := fun rs a ha b hb e => by
   obtain ⟨j, r, hj, rfl⟩ := hold a ha;obtain ⟨r', _, rfl⟩ := List.mem_map.1 hb;simp only [List.cons.injEq, Kx.i.injEq, true_and, and_true] at e;omega
  cases bitB n (2 * (k : Int)) <;> cases bitB n (2 * (k : Int) + 1) <;> simp only [cond_true, cond_false, List.append_nil]
  . exact ih
  . rw [List.flatMap_append, List.nodup_append];exact ⟨ih, by simp [covKeys], fun a ha b hb => hdis [2, 3, 4] a ha b (by simpa [covKeys] using hb)⟩
  . rw [List.flatMap_append, List.nodup_append];exact ⟨ih, by simp [covKeys], fun a ha b hb => hdis [0, 1] a ha b (by simpa [covKeys] using hb)⟩
  . rw [List.append_assoc, List.flatMap_append, List.nodup_append];exact ⟨ih, by simp [covKeys], fun a ha b hb => hdis [0, 1, 2, 3, 4] a ha b (by simpa [covKeys] using hb)⟩
theorem colsF_cases (l : List Plc) : colsF l = [bareCol] \/ (colsF l = colsK l (min l.length 12) /\ colsK l (min l.length 12) ≠ []) := by
 unfold colsF
 cases hE : colsK l (min l.length 12) with
 | nil => exact .inl rfl
 | cons x xs => exact .inr ⟨rfl, by simp⟩
theorem colsF_len (l : List Plc) : 1 <= (colsF l).length /\ (colsF l).length <= 12 := by
 rcases colsF_cases l with h | ⟨h, h2⟩
 . rw [h]; simp
 . rw [h];have := colsK_len l (min l.length 12);have := List.length_pos_iff.2 h2;omega
def madeCol (c : Col) : Prop := (0 <= c.bay /\ c.bay <= 4) /\ (0 <= c.row /\ c.row <= 4) /\ (2 <= c.tiers /\ c.tiers <= 5) /\ (c.height = 0 /\ c.k20 = 500000000 /\ c.k40 = 500000000 /\ c.lash = 0 /\ c.plugs = []) /\ (-26000 <= c.x /\ c.x <= 26000) /\ (-5000 <= c.y /\ c.y <= 5000) /\ 2000 <= c.z /\ c.z <= 20000
theorem colsF_made {l : List Plc} (hw : ∀ p ∈ l, plcOk p) : ∀ c ∈ colsF l, madeCol c := by
 intro c hc;rcases colsF_cases l with h | ⟨h, _⟩
 . rw [h, List.mem_singleton] at hc;subst hc;simp [madeCol, bareCol]
 . rw [h] at hc;obtain ⟨p, ⟨⟨a1, a2⟩, ⟨b1, b2⟩, c1, c2⟩, rfl⟩ := colsK_mem hw (Nat.min_le_left _ _) c hc;simp only [madeCol, colP, true_and, and_true];cases p.deck <;> simp only [cond_true, cond_false] <;> omega
theorem made_colB {c : Col} (h : madeCol c) : colB c = true := by
 obtain ⟨h1, h2, h3, ⟨h4, h5, h6, h7, h8⟩, h9, h10, h11⟩ := h;unfold colB risesB colSpans;rw [h8, h4, h5, h6, h7];simp [spnB];omega
theorem colsF_nodup (l : List Plc) : ((colsF l).map colKey).Nodup := by
 rcases colsF_cases l with h | ⟨h, _⟩
 . rw [h]; simp
 . rw [h]; exact colsK_nodup _ _
theorem built_shipB {l : List Plc} {n : Int} (hw : ∀ p ∈ l, plcOk p) : shipB (builtF l n) = true := by
 have h1 := colsF_len l;have h2 := covsK_len n 5;have hk : (shipKeys (builtF l n)).Nodup := by
  unfold shipKeys builtF;rw [List.nodup_append];refine ⟨colsF_nodup l, covsK_nodup n 5, fun a ha b hb e => ?_⟩;obtain ⟨c, _, rfl⟩ := List.mem_map.1 ha;obtain ⟨x, _, hx⟩ := List.mem_flatMap.1 hb;obtain ⟨r, _, rfl⟩ := covKeys_mem hx;unfold colKey at e;simp only [List.cons.injEq, Kx.i.injEq, true_and, and_true] at e;have e3 := e.2.2;cases hd : c.deck <;> rw [hd] at e3 <;> simp at e3
 have hc : (builtF l n).cols.all colB = true := List.all_eq_true.2 fun c hc => made_colB (colsF_made hw c hc);have hv : (builtF l n).covs.all covB = true := List.all_eq_true.2 fun x hx => by
  obtain ⟨j, hj, hb, hr⟩ := covsK_mem n 5 x hx;unfold covB;rw [hb];have r1 : risesB 30 [0, 1] = true := by decide
  have r2 : risesB 30 [2, 3, 4] = true := by decide
  have r3 : (0 : Int) <= (j : Int) /\ (j : Int) < 40 := by omega
  rcases hr with hr | hr <;> rw [hr] <;> simp [r1, r2, r3]
 unfold shipB;rw [hc, hv, decide_eq_true hk];simp only [Bool.and_true, Bool.true_and, Bool.and_eq_true, decide_eq_true_eq];exact ⟨h1.1, by show (colsF l).length <= 200; omega, by show (covsK n 5).length <= 40; omega⟩
theorem built_pre {l : List Plc} {n : Int} (hw : ∀ p ∈ l, plcOk p) : shipPre (builtF l n) := by
 refine ⟨fun c hc => ?_, fun x hx => ?_⟩
 . obtain ⟨h1, h2, h3, ⟨h4, h5, h6, h7, h8⟩, _⟩ := colsF_made hw c hc;rw [h8];exact ⟨by simp, by simp only [inI64]; omega⟩
 . obtain ⟨j, hj, hb, hr⟩ := covsK_mem n 5 x hx;rcases hr with hr | hr <;> rw [hr] <;> simp
theorem dropB_ok {d : Drp} (h : drpOk d) {i : Nat} (hi : i <= 1000) : boxB (dropB i d) = true := by
 obtain ⟨h1, h2⟩ := h;unfold boxB bRule dropB;cases d.small <;> cases d.high <;> simp [bWithin, kMost, noNum, noText] <;> omega
theorem boxesK_get {l : List Drp} {k i : Nat} (hi : i < k) : (boxesK l k)[i]? = some (dropB i (l.getD i Tc.drp.dflt)) := by
 unfold boxesK;rw [List.getElem?_map, List.getElem?_range hi];rfl
theorem dropB_num (i : Nat) (d : Drp) : (dropB i d).num = noNum := rfl
theorem boxesK_bad {l : List Drp} {k : Nat} (hw : ∀ d ∈ l, drpOk d) (hk : k <= l.length) (hk2 : k <= 1000) (i : Nat) (hi : i < k) : boxBad (boxesK l k) i = false := by
 have hs : seenN (boxesK l k) i (dropB i (l.getD i Tc.drp.dflt)).num = false := by
  unfold seenN;rw [List.any_eq_false];intro b hb;have hb' := List.mem_of_mem_take hb;unfold boxesK at hb';obtain ⟨j, _, rfl⟩ := List.mem_map.1 hb';simp [dropB_num]
 have hb := dropB_ok (hw _ (getD_mem Tc.drp.dflt (show i < l.length by omega))) (show i <= 1000 by omega);have hid : decide ((dropB i (l.getD i Tc.drp.dflt)).id <= lastId (boxesK l k) i) = false := by
  rw [decide_eq_false_iff_not];unfold lastId;by_cases h0 : i = 0
  . rw [if_pos h0];show ¬ (5 * ((i : Int) + 1) <= 0)
    omega
  . rw [if_neg h0, boxesK_get (show i - 1 < k by omega)];show ¬ (5 * ((i : Int) + 1) <= 5 * (((i - 1 : Nat) : Int) + 1))
    omega
 unfold boxBad;rw [boxesK_get hi];simp only [hs, hid, hb, Bool.or_false, Bool.not_true]
theorem boxesK_valid {l : List Drp} {k : Nat} (hw : ∀ d ∈ l, drpOk d) (hk : k <= l.length) (hk2 : k <= 1000) : boxValid (boxesK l k) = (-1, 0) := by
 unfold boxValid;rw [boxesK_len, if_neg (by omega)];have : (List.range k).find? (boxBad (boxesK l k)) = none := by
  rw [List.find?_eq_none];intro i hi;rw [boxesK_bad hw hk hk2 i (List.mem_range.1 hi)];simp
 rw [this]
theorem findV_more {bs : List Box} {b : Box} {id : Int} (h : (findV bs id).2 = true) : findV (bs ++ [b]) id = findV bs id := by
 unfold findV at h ⊢;rw [List.find?_append]
 cases hf : bs.find? (isId id) with
 | none => rw [hf] at h; cases h
 | some x => rfl
theorem stowAt_found {cs : List Col} {bs : List Box} {st : List Stowed} {k : Nat} (h : stowAt cs bs st k = true) : (findV bs (st.getD k Tc.stowed.dflt).box).2 = true := by
 unfold stowAt at h;simp only [Bool.and_eq_true] at h;exact h.1.1
theorem stow_found {s : Shp} {bs : List Box} {st : List Stowed} (h : stowB s bs st = true) : ∀ x ∈ st, (findV bs x.box).2 = true := by
 intro x hx;unfold stowB at h;simp only [Bool.and_eq_true, decide_eq_true_eq] at h;obtain ⟨j, hj⟩ := List.mem_iff_getElem?.1 hx;obtain ⟨hlt, he⟩ := List.getElem?_eq_some_iff.1 hj;have := stowAt_found (h.2.1 j hlt);rwa [List.getD_eq_getElem?_getD, hj] at this
theorem heightF_more {bs : List Box} {b : Box} {st : List Stowed} (h : ∀ x ∈ st, (findV bs x.box).2 = true) (c z : Int) : heightF (bs ++ [b]) st c z = heightF bs st c z := by
 unfold heightF;congr 1;refine List.map_congr_left fun x hx => ?_;unfold hAt;rw [findV_more (h x hx)]
theorem stow_more {s : Shp} {bs : List Box} {b : Box} {st : List Stowed} (h : stowB s bs st = true) : stowB s (bs ++ [b]) st = true := by
 have hf := stow_found h;unfold stowB at h ⊢;simp only [Bool.and_eq_true, decide_eq_true_eq] at h ⊢;refine ⟨h.1, fun k hk => ?_, fun c hc => ?_⟩
 . have h1 := h.2.1 k hk;have h2 := findV_more (b := b) (stowAt_found h1);unfold stowAt at h1 ⊢;rw [h2];exact h1
 . have h1 := h.2.2 c hc;unfold fitsB at h1 ⊢;rw [heightF_more hf, heightF_more hf];exact h1
theorem stow_nil {s : Shp} (h : shipB s = true) (h0 : ∀ c ∈ s.cols, c.height = 0) : stowB s [] [] = true := by
 unfold stowB;simp only [h, Bool.true_and, Bool.and_eq_true, decide_eq_true_eq];refine ⟨fun k hk => absurd hk (by simp), fun c hc => ?_⟩;unfold fitsB;rw [h0 _ (getD_mem Tc.col.dflt (show ((c : Int)).toNat < s.cols.length by simpa using hc))];rfl
theorem stateK_stow {s : Shp} {l : List Drp} (h : shipB s = true) (h0 : ∀ c ∈ s.cols, c.height = 0) : ∀ k, stowB s (boxesK l k) (stateK s l k) = true
 | 0 => stow_nil h h0
 | k + 1 => by
  have ih := stow_more (b := dropB k (l.getD k Tc.drp.dflt)) (stateK_stow (l := l) h h0 k);rw [<- boxesK_succ] at ih;unfold stateK;split
  . rename_i x hx;have := List.find?_some hx;unfold dropOk at this;simp only [Bool.and_eq_true] at this;exact this.2
  . exact ih
/- Made -/
def madeS (l : List Plc) (n : Int) : Shp := builtF l n
def madeB (d : List Drp) : List Box := boxesK d (min d.length 16)
def madeT (l : List Plc) (n : Int) (d : List Drp) : List Stowed := stateK (builtF l n) d (min d.length 16)
theorem made_stow {l : List Plc} {n : Int} {d : List Drp} (hw : ∀ p ∈ l, plcOk p) : stowB (madeS l n) (madeB d) (madeT l n d) = true :=
 stateK_stow (built_shipB hw) (fun c hc => (colsF_made hw c hc).2.2.2.1.1) _
theorem made_cargo {l : List Plc} {n : Int} {d : List Drp} (hw : ∀ p ∈ l, plcOk p) (hd : ∀ x ∈ d, drpOk x) : cargoB (madeS l n) (madeB d) (madeT l n d) = true := by
 unfold cargoB;rw [made_stow hw, show (boxValid (madeB d)).2 = 0 by unfold madeB; rw [boxesK_valid hd (Nat.min_le_left _ _) (by omega)]];rfl
theorem madeT_len (l : List Plc) (n : Int) (d : List Drp) : (madeT l n d).length <= 16 := by
 have := stateK_len (builtF l n) d (min d.length 16);unfold madeT;omega
theorem madeB_pre (d : List Drp) : boxesPre (madeB d) := by
 refine ⟨by unfold madeB; rw [boxesK_len]; omega, fun b hb => ?_⟩;unfold madeB boxesK at hb;obtain ⟨i, _, rfl⟩ := List.mem_map.1 hb;show (0 : Nat) <= _
 omega
end Go.Proofs.YtfdjcakgolenbaaGreat
