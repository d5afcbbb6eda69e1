/-
  moment: the boxes of a state with their middles, tier by tier.
-/
import Derived.Test.YtfdjcakgolenbaaGreatMu38
import Derived.Test.YtfdjcakgolenbaaGreatMu39
set_option linter.unusedVariables false
set_option linter.unusedSimpArgs false
namespace Go.Proofs.YtfdjcakgolenbaaGreat
open Go.RowKit
def hsOf (h : Int) : List Int := cond (decide (h = 1)) [1] (cond (decide (h = 2)) [2] [1, 2])
def topKey (c h : Int) : List Kx := [.i .i64 c, .i .i64 h]
def bump (t c : Int) (m : List Kx → Option Int) (hs : List Int) : List Kx → Option Int := hs.foldl (fun m h => setM m (topKey c h) ((m (topKey c h)).getD 0 + t)) m
def topStep (bs : List Box) (m : List Kx → Option Int) (x : Stowed) : List Kx → Option Int := bump (tallB (findV bs x.box).1) x.col m (hsOf x.half)
def topsM (bs : List Box) (l : List Stowed) : List Kx → Option Int := l.foldl (topStep bs) fun _ => none
def midX (c : Col) (h : Int) : Int := cond (decide (h = 1)) (c.x + 3050) (cond (decide (h = 2)) (c.x - 3050) c.x)
def midOf (cs : List Col) (bs : List Box) (m : List Kx → Option Int) (x : Stowed) : Mid :=
 ⟨(findV bs x.box).1, midX (cs.getD x.col.toNat Tc.col.dflt) x.half, (cs.getD x.col.toNat Tc.col.dflt).y, 2 * ((cs.getD x.col.toNat Tc.col.dflt).z + (m (topKey x.col ((hsOf x.half).headD 0))).getD 0) + tallB (findV bs x.box).1⟩
def midsK (cs : List Col) (bs : List Box) (l : List Stowed) (k : Nat) : List Mid := (List.range k).map fun j => midOf cs bs (topsM bs (l.take j)) (l.getD j Tc.stowed.dflt)
def midsL (cs : List Col) (bs : List Box) (l : List Stowed) : List Mid := midsK cs bs l l.length
theorem midsK_succ (cs : List Col) (bs : List Box) (l : List Stowed) (k : Nat) : midsK cs bs l (k + 1) = midsK cs bs l k ++ [midOf cs bs (topsM bs (l.take k)) (l.getD k Tc.stowed.dflt)] := by
 unfold midsK
 rw [List.range_succ, List.map_append]
 rfl
theorem midsK_len (cs : List Col) (bs : List Box) (l : List Stowed) (k : Nat) : (midsK cs bs l k).length = k := by unfold midsK; simp
theorem topsM_more {bs : List Box} {l : List Stowed} {k : Nat} (h : k < l.length) : topsM bs (l.take (k + 1)) = topStep bs (topsM bs (l.take k)) (l.getD k Tc.stowed.dflt) := by
 unfold topsM
 rw [take_getD Tc.stowed.dflt h, List.foldl_append]
 rfl
theorem bump_bound {t c B : Int} (ht : 0 ≤ t ∧ t ≤ 2896) : ∀ (hs : List Int) (m : List Kx → Option Int), (∀ k, 0 ≤ (m k).getD 0 ∧ (m k).getD 0 ≤ B) → ∀ k, 0 ≤ ((bump t c m hs) k).getD 0 ∧ ((bump t c m hs) k).getD 0 ≤ B + 2896 * (hs.length : Int)
 | [], m, h, k => by have := h k; simpa [bump] using this
 | x :: hs, m, h, k => by
  have h2 : ∀ k, 0 ≤ ((setM m (topKey c x) ((m (topKey c x)).getD 0 + t)) k).getD 0 ∧ ((setM m (topKey c x) ((m (topKey c x)).getD 0 + t)) k).getD 0 ≤ B + 2896 := fun k => by
   have h3 := h k
   have h4 := h (topKey c x)
   unfold setM
   split
   · simp only [Option.getD_some]; omega
   · omega
  have h5 := bump_bound (c := c) (B := B + 2896) ht hs _ h2 k
  have e : bump t c m (x :: hs) = bump t c (setM m (topKey c x) ((m (topKey c x)).getD 0 + t)) hs := rfl
  rw [e]
  simp only [List.length_cons]
  omega
theorem hsOf_len (h : Int) : (hsOf h).length ≤ 2 ∧ 1 ≤ (hsOf h).length := by
 unfold hsOf
 cases decide (h = 1) <;> cases decide (h = 2) <;> simp
theorem tops_bound (bs : List Box) (l : List Stowed) (k : List Kx) : 0 ≤ (topsM bs l k).getD 0 ∧ (topsM bs l k).getD 0 ≤ 5792 * (l.length : Int) := by
 have : ∀ (l : List Stowed) (m : List Kx → Option Int) (B : Int), (∀ k, 0 ≤ (m k).getD 0 ∧ (m k).getD 0 ≤ B) → ∀ k, 0 ≤ (l.foldl (topStep bs) m k).getD 0 ∧ (l.foldl (topStep bs) m k).getD 0 ≤ B + 5792 * (l.length : Int) := by
  intro l
  induction l with
  | nil => intro m B h k; simpa using h k
  | cons x l ih =>
   intro m B h k
   have h1 := bump_bound (c := x.col) (tallB_bound (findV bs x.box).1) (hsOf x.half) m h
   have h2 := hsOf_len x.half
   have h3 := ih (topStep bs m x) (B + 5792) (fun k => by
    have := h1 k
    unfold topStep
    omega) k
   simp only [List.foldl_cons, List.length_cons]
   omega
 have := this l (fun _ => none) 0 (fun k => by simp) k
 unfold topsM
 omega
theorem stow_col {s : Shp} {bs : List Box} {l : List Stowed} {x : Stowed} (h : stowB s bs l = true) (hx : x ∈ l) : 0 ≤ x.col ∧ x.col < (s.cols.length : Int) := by
 obtain ⟨k, hk, rfl⟩ := List.getElem_of_mem hx
 unfold stowB at h
 simp only [Bool.and_eq_true, decide_eq_true_eq] at h
 have h1 := h.2.1 k hk
 unfold stowAt slotOk at h1
 have e : l.getD k Tc.stowed.dflt = l[k] := by rw [List.getD_eq_getElem?_getD, List.getElem?_eq_getElem hk, Option.getD_some]
 rw [e] at h1
 simp only [Bool.and_eq_true, decide_eq_true_eq] at h1
 exact ⟨h1.2.1.1.1, h1.2.1.1.2.1⟩
theorem ship_col {s : Shp} (h : shipB s = true) {k : Nat} (hk : k < s.cols.length) : (-500000 ≤ (s.cols.getD k Tc.col.dflt).x ∧ (s.cols.getD k Tc.col.dflt).x ≤ 500000) ∧ (-500000 ≤ (s.cols.getD k Tc.col.dflt).y ∧ (s.cols.getD k Tc.col.dflt).y ≤ 500000) ∧ (-500000 ≤ (s.cols.getD k Tc.col.dflt).z ∧ (s.cols.getD k Tc.col.dflt).z ≤ 500000) := by
 unfold shipB at h
 simp only [Bool.and_eq_true] at h
 have h6 := List.all_eq_true.1 h.2.1 _ (getD_mem Tc.col.dflt hk)
 generalize s.cols.getD k Tc.col.dflt = c at *
 unfold colB at h6
 simp only [Bool.and_eq_true] at h6
 have hx := List.all_eq_true.1 h6.2 ⟨c.x, -500000, 500000⟩ (by simp [colSpans])
 have hy := List.all_eq_true.1 h6.2 ⟨c.y, -500000, 500000⟩ (by simp [colSpans])
 have hz := List.all_eq_true.1 h6.2 ⟨c.z, -500000, 500000⟩ (by simp [colSpans])
 unfold spnB at hx hy hz
 simp only [Bool.and_eq_true, decide_eq_true_eq] at hx hy hz
 exact ⟨hx, hy, hz⟩
def cargoB (s : Shp) (bs : List Box) (l : List Stowed) : Bool := decide ((boxValid bs).2 = 0) && stowB s bs l
def boxesPre (bs : List Box) : Prop := bs.length ≤ 1000000000000 ∧ ∀ b ∈ bs, b.num.size ≤ 140737488351232
def conMiddles : Con := ⟨44, [.agg shipSg, .sl .box, .sl .stowed], fun
 | [x0, x1, x2] => (x0.toShip).bind fun s => (x1.toBoxes).bind fun bs => (x2.toStos).bind fun l => some ⟨fun _ => shipPre (s ()) ∧ boxesPre (bs ()) ∧ (l ()).length ≤ 20, .tup [.sl true .mid fun _ => cond (cargoB (s ()) (bs ()) (l ())) (midsL (s ()).cols (bs ()) (sortT (l ()))) [], .bool fun _ => cargoB (s ()) (bs ()) (l ())]⟩
 | _ => none⟩
def lpMid (cs : List Col) (bs : List Box) (L : Unit → List Stowed) : Lp where
 X := Nat
 ov k := [(42, .int .i64 fun _ => (k : Int)), (11, .own 3)]
 oe k := [(2, .map true false (.arr 2 (.int .i64)) .int 168 fun _ => topsM bs ((L ()).take k)), (3, .row true .mid 112 fun _ => midsK cs bs (L ()) k)]
 I k := k ≤ (L ()).length
 μ k _ := (L ()).length - k
 x0 := 0
 nx := some fun k => k + 1
def lpTop (t c : Unit → Int) (m : Unit → List Kx → Option Int) (hs : Unit → List Int) : Lp where
 X := Nat
 ov j := [(106, .int .i64 fun _ => (j : Int))]
 oe j := [(2, .map true false (.arr 2 (.int .i64)) .int 168 fun _ => bump (t ()) (c ()) (m ()) ((hs ()).take j))]
 I j := j ≤ (hs ()).length
 μ j _ := (hs ()).length - j
 x0 := 0
 nx := some fun j => j + 1
theorem box_eta (b : Box) : (⟨b.id, b.num, b.size, b.high, b.kilos, b.load, b.dis, b.cls, b.reefer⟩ : Box) = b := rfl
theorem bump_more {t c : Int} {m : List Kx → Option Int} {hs : List Int} {j : Nat} (h : j < hs.length) : setM (bump t c m (hs.take j)) [Kx.i .i64 c, Kx.i .i64 (hs.getD j Tc.u8.dflt)] ((bump t c m (hs.take j) [Kx.i .i64 c, Kx.i .i64 (hs.getD j Tc.u8.dflt)]).getD Tc.int.dflt + t) = bump t c m (hs.take (j + 1)) := by
 unfold bump
 rw [take_getD (Tc.u8.dflt) h, List.foldl_append]
 rfl
theorem all_true {A B C D E : Prop} (hA : A) (hB : B) (hC : C) (hD : D) (hE : E) : A = True ∧ B = True ∧ C = True ∧ D = True ∧ E = True := ⟨eq_true hA, eq_true hB, eq_true hC, eq_true hD, eq_true hE⟩
set_option maxRecDepth 100000 in
set_option maxHeartbeats 4000000 in
theorem conMiddles_ok : ConOk Tryz.prog conMiddles := by
 refine fnOkK [] [(8, [1, 2, 3, 10, 11]), (22, [1, 3, 10, 11, 13, 14, 17, 18, 40, 41, 42]), (27, [10, 11, 17, 42])] [(21, schList [0, 1, 2, 3, 4, 5, 6, 7, 8, 9, 10, 11, 12, 13, 14, 15, 16, 17, 18] .nil), (25, schList [0, 1, 2, 4, 5] (.alt (.op 3 (.alt (.op 6 (.alt (schList [7, 8, 9, 10, 11, 12, 13] .nil) (.op 8 (.alt (schList [7, 9, 10, 11, 12, 13] .nil) (.op 9 (.alt (schList [7, 10, 11, 12, 13] .nil) (schList [11, 12, 7, 10, 13] .nil))))))) (.op 8 (.alt (.op 6 (.alt (schList [7, 9, 10, 11, 12, 13] .nil) (.op 9 (.alt (schList [7, 10, 11, 12, 13] .nil) (schList [11, 12, 7, 10, 13] .nil))))) (schList [9, 6] (.alt (schList [7, 10, 11, 12, 13] .nil) (schList [11, 12, 7, 10, 13] .nil))))))) (.op 8 (.alt (.op 3 (.alt (.op 6 (.alt (schList [7, 9, 10, 11, 12, 13] .nil) (.op 9 (.alt (schList [7, 10, 11, 12, 13] .nil) (schList [11, 12, 7, 10, 13] .nil))))) (schList [9, 6] (.alt (schList [7, 10, 11, 12, 13] .nil) (schList [11, 12, 7, 10, 13] .nil))))) (schList [9, 3, 6] (.alt (schList [7, 10, 11, 12, 13] .nil) (schList [11, 12, 7, 10, 13] .nil)))))))] [conBoxValid, conStowRight, conBoxFind, conBoxHeight] ⟨conBoxValid_ok, conStowRight_ok, conBoxFind_ok, conBoxHeight_ok, trivial⟩ [fonClone, fonSort] ⟨fonClone_ok, fonSort_ok, trivial⟩ Tryz.func44 (by kernel_rfl) fun avs res h hp => ?_
 simp only [conMiddles] at h
 split at h
 case h_2 => cases h
 rename_i x0 x1 x2
 simp only [Option.bind_eq_some_iff, Option.some.injEq] at h
 obtain ⟨s, e0, bs, e1, l, e2, rfl⟩ := h
 obtain rfl := AV.toShip_ e0
 obtain rfl := AV.toBoxes_ e1
 obtain rfl := AV.toStos_ e2
 clear e0 e1 e2
 obtain ⟨s, rfl⟩ := eta (α := Shp) s
 obtain ⟨bs, rfl⟩ := eta (α := List Box) bs
 obtain ⟨l, rfl⟩ := eta (α := List Stowed) l
 have hp' : shipPre s ∧ boxesPre bs ∧ l.length ≤ 20 := hp
 have h1 := hp'.1
 have h2 := hp'.2.1
 have h3 := hp'.2.2
 have hsl : (sortT l).length = l.length := (sortT_perm l).length_eq
 clear hp hp'
 refine ⟨[(9, lpMid s.cols bs fun _ => sortT l)], ?_⟩
 conv => arg 1; cbv
 refine ⟨h2, fun g1 => ?_, fun g1 => ⟨⟨h1, h2.1, Nat.le_trans h3 (by decide)⟩, fun g2 => ?_, fun g2 => ⟨Nat.le_trans h3 (by decide), h3, ?_, fun (k : Nat) hk => ?_⟩⟩⟩
 · have g1' : (!decide ((boxValid bs).2 = 0)) = true := g1
   have hc : cargoB s bs l = false := by
    unfold cargoB
    simp only [Bool.not_eq_true'] at g1'
    rw [g1']
    rfl
   simp (maxSteps := 4000000) only [P_vc, P_br, P_and, P_fin, V_nil, V_one, V_cons, T_self, castK, succK, Int.toNat_natCast, predK, decide_eq_true_eq, decide_eq_false_iff_not, List.map_cons, List.map_nil, cond_true, cond_false]
   rw [hc]
   exact ⟨rfl, rfl⟩
 · have g2' : (!stowB s bs l) = true := g2
   have hc : cargoB s bs l = false := by
    unfold cargoB
    simp only [Bool.not_eq_true'] at g2'
    rw [g2', Bool.and_false]
   simp (maxSteps := 4000000) only [P_vc, P_br, P_and, P_fin, V_nil, V_one, V_cons, T_self, castK, succK, Int.toNat_natCast, predK, decide_eq_true_eq, decide_eq_false_iff_not, List.map_cons, List.map_nil, cond_true, cond_false]
   rw [hc]
   exact ⟨rfl, rfl⟩
 · simp (maxSteps := 4000000) only [P_vc, P_br, P_and, P_fin, V_nil, V_one, V_cons, T_self, castK, succK, Int.toNat_natCast, predK, decide_eq_true_eq, decide_eq_false_iff_not, List.map_cons, List.map_nil, cond_true, cond_false]
   exact ⟨Nat.zero_le _, rfl, rfl, rfl⟩
 have g1' : (!decide ((boxValid bs).2 = 0)) = false := g1
 have g2' : (!stowB s bs l) = false := g2
 simp only [Bool.not_eq_false'] at g1' g2'
 have hc : cargoB s bs l = true := by
  unfold cargoB
  rw [g1', g2']
  rfl
 have hk' : k ≤ (sortT l).length := hk
 have hsB : shipB s = true := by
  unfold stowB at g2'
  simp only [Bool.and_eq_true] at g2'
  exact g2'.1
 clear hk g1 g2
 conv => arg 1; cbv
 refine ⟨fun g3 => ?_, fun g3 => ?_⟩
 · have hlt : k < (sortT l).length := by
    have g3' : decide ((k : Int) < ((sortT l).length : Int)) = true := g3
    simp only [decide_eq_true_eq] at g3'
    omega
   have hcol := stow_col g2' ((sortT_perm l).mem_iff.1 (getD_mem Tc.stowed.dflt hlt))
   have hcc := ship_col hsB (k := ((sortT l).getD k Tc.stowed.dflt).col.toNat) (by omega)
   have htop := tops_bound bs ((sortT l).take k)
   have htk : ((sortT l).take k).length ≤ 20 := by rw [List.length_take]; omega
   refine ⟨⟨Int.natCast_nonneg k, of_decide_eq_true g3⟩, h2.1, hcol, fun g4 => ?_, fun g4 => ⟨fun g5 => ?_, fun g5 => ?_⟩⟩
   · have gh : ((sortT l).getD k Tc.stowed.dflt).half = 1 := of_decide_eq_true g4
     refine ⟨⟨by simp only [castK, Int.toNat_natCast]; omega, by simp only [castK, Int.toNat_natCast]; omega⟩, ?_⟩
     have hd0 : (Tc.int.dflt : Int) = 0 := rfl
     have h9 := htop [Kx.i .i64 ((sortT l).getD k Tc.stowed.dflt).col, Kx.i .i64 (([((sortT l).getD k Tc.stowed.dflt).half]).getD (Int.toNat 0) Tc.u8.dflt)]
     have ht := tallB_bound (findV bs ((sortT l).getD k Tc.stowed.dflt).box).1
     refine ⟨⟨Int.le_refl 0, by simp⟩, (show inI64 (([((sortT l).getD k Tc.stowed.dflt).half]).getD (Int.toNat 0) Tc.u8.dflt) from by rw [show [((sortT l).getD k Tc.stowed.dflt).half].getD (Int.toNat 0) Tc.u8.dflt = ((sortT l).getD k Tc.stowed.dflt).half from rfl, gh]; exact ⟨by omega, by omega⟩), ?_, ?_, trivial, ?_, ?_⟩
     · simp only [V_one, castK, Int.toNat_natCast, List.map_cons, List.map_nil, hd0]
       exact ⟨by omega, by omega⟩
     · simp only [V_one, castK, Int.toNat_natCast, List.map_cons, List.map_nil, hd0]
       exact ⟨by omega, by omega⟩
     · simp only [V_one, castK, Int.toNat_natCast, List.map_cons, List.map_nil, hd0, box_eta]
       exact ⟨by omega, by omega⟩
     refine ⟨lpTop (fun _ => tallB (findV bs ((sortT l).getD k Tc.stowed.dflt).box).1) (fun _ => ((sortT l).getD k Tc.stowed.dflt).col) (fun _ => topsM bs ((sortT l).take k)) (fun _ => [((sortT l).getD k Tc.stowed.dflt).half]), ?_⟩
     conv => arg 1; cbv
     refine ⟨?_, fun (j : Nat) hj => ?_⟩
     · simp (maxSteps := 4000000) only [P_vc, P_br, P_and, P_fin, V_nil, V_one, V_cons, T_self, castK, succK, Int.toNat_natCast, predK, decide_eq_true_eq, decide_eq_false_iff_not, List.map_cons, List.map_nil, cond_true, cond_false]
       exact ⟨Nat.zero_le _, rfl, rfl⟩
     have hj' : j ≤ ([((sortT l).getD k Tc.stowed.dflt).half]).length := hj
     conv => arg 1; cbv
     simp (maxSteps := 4000000) only [P_vc, P_br, P_and, P_fin, V_nil, V_one, V_cons, T_self, castK, succK, Int.toNat_natCast, predK, decide_eq_true_eq, decide_eq_false_iff_not, List.map_cons, List.map_nil, cond_true, cond_false]
     clear g3 g4 hj h9
     have hb1 := fun key => bump_bound (c := ((sortT l).getD k Tc.stowed.dflt).col) (tallB_bound (findV bs ((sortT l).getD k Tc.stowed.dflt).box).1) (([((sortT l).getD k Tc.stowed.dflt).half]).take j) (topsM bs ((sortT l).take k)) htop key
     have hmor := fun h => bump_more (t := tallB (findV bs ((sortT l).getD k Tc.stowed.dflt).box).1) (c := ((sortT l).getD k Tc.stowed.dflt).col) (m := topsM bs ((sortT l).take k)) (hs := [((sortT l).getD k Tc.stowed.dflt).half]) (j := j) h
     have hmids := midsK_succ s.cols bs (sortT l) k
     have htops := topsM_more (bs := bs) hlt
     unfold midOf at hmids
     unfold topStep at htops
     simp only [box_eta]
     generalize hX : (sortT l).getD k Tc.stowed.dflt = x at *
     generalize hM : topsM bs ((sortT l).take k) = M0 at *
     generalize (findV bs x.box).1 = b at *
     simp only [setM_twice, setM_at, Option.getD_some]
     refine ⟨fun g6 => ?_, fun g6 => ?_⟩
     · have hs0 : ∀ y ∈ [x.half], 1 ≤ y ∧ y ≤ 2 := by simp [gh]
       have hs3 : ([x.half]).length ≤ 2 := by simp
       generalize [x.half] = hs at *
       have h6 : j < hs.length := by omega
       have h7 := hmor h6
       have hs1 := hs0 _ (getD_mem Tc.u8.dflt h6)
       have hs2 : inI64 (hs.getD j Tc.u8.dflt) := ⟨by omega, by omega⟩
       have hs4 : (hs.take j).length ≤ 2 := by rw [List.length_take]; omega
       have hb2 := hb1 [Kx.i .i64 x.col, Kx.i .i64 (hs.getD j Tc.u8.dflt)]
       have hb3 : inI64 ((bump (tallB b) x.col M0 (hs.take j) [Kx.i .i64 x.col, Kx.i .i64 (hs.getD j Tc.u8.dflt)]).getD Tc.int.dflt + tallB b) := by
        rw [hd0]
        exact ⟨by omega, by omega⟩
       obtain ⟨e1, e2, e3, e4, e5⟩ := all_true hb3 (show inI64 ((j : Int) + 1) from ⟨by omega, by omega⟩) (show j + 1 ≤ hs.length ∧ hs.length - (j + 1) < hs.length - j from ⟨by omega, by omega⟩) (show (j : Int) + 1 = ((j + 1 : Nat) : Int) by omega) hs2
       simp only [h7, e1, e2, e3, e4, e5, and_self, and_true, true_and]
       exact ⟨by omega, by omega⟩
     · have hT : ([x.half]).take j = [x.half] := List.take_of_length_le (by omega)
       have hof : hsOf x.half = [x.half] := by
        unfold hsOf
        simp [gh]
       have hmx : midX (s.cols.getD x.col.toNat Tc.col.dflt) x.half = (s.cols.getD x.col.toNat Tc.col.dflt).x + 3050 := by
        unfold midX
        simp [gh]
       rw [hT, htops, hmids, hof, hmx]
       refine ⟨by rw [midsK_len]; simp only [List.length_cons, List.length_nil]; omega, ⟨by omega, by omega⟩, ⟨by omega, by omega⟩, by omega, rfl, rfl⟩
   · have gh : ((sortT l).getD k Tc.stowed.dflt).half = 2 := of_decide_eq_true g5
     refine ⟨⟨by simp only [castK, Int.toNat_natCast]; omega, by simp only [castK, Int.toNat_natCast]; omega⟩, ?_⟩
     clear g4
     have g4 := g5
     clear g5
     have hd0 : (Tc.int.dflt : Int) = 0 := rfl
     have h9 := htop [Kx.i .i64 ((sortT l).getD k Tc.stowed.dflt).col, Kx.i .i64 (([((sortT l).getD k Tc.stowed.dflt).half]).getD (Int.toNat 0) Tc.u8.dflt)]
     have ht := tallB_bound (findV bs ((sortT l).getD k Tc.stowed.dflt).box).1
     refine ⟨⟨Int.le_refl 0, by simp⟩, (show inI64 (([((sortT l).getD k Tc.stowed.dflt).half]).getD (Int.toNat 0) Tc.u8.dflt) from by rw [show [((sortT l).getD k Tc.stowed.dflt).half].getD (Int.toNat 0) Tc.u8.dflt = ((sortT l).getD k Tc.stowed.dflt).half from rfl, gh]; exact ⟨by omega, by omega⟩), ?_, ?_, trivial, ?_, ?_⟩
     · simp only [V_one, castK, Int.toNat_natCast, List.map_cons, List.map_nil, hd0]
       exact ⟨by omega, by omega⟩
     · simp only [V_one, castK, Int.toNat_natCast, List.map_cons, List.map_nil, hd0]
       exact ⟨by omega, by omega⟩
     · simp only [V_one, castK, Int.toNat_natCast, List.map_cons, List.map_nil, hd0, box_eta]
       exact ⟨by omega, by omega⟩
     refine ⟨lpTop (fun _ => tallB (findV bs ((sortT l).getD k Tc.stowed.dflt).box).1) (fun _ => ((sortT l).getD k Tc.stowed.dflt).col) (fun _ => topsM bs ((sortT l).take k)) (fun _ => [((sortT l).getD k Tc.stowed.dflt).half]), ?_⟩
     conv => arg 1; cbv
     refine ⟨?_, fun (j : Nat) hj => ?_⟩
     · simp (maxSteps := 4000000) only [P_vc, P_br, P_and, P_fin, V_nil, V_one, V_cons, T_self, castK, succK, Int.toNat_natCast, predK, decide_eq_true_eq, decide_eq_false_iff_not, List.map_cons, List.map_nil, cond_true, cond_false]
       exact ⟨Nat.zero_le _, rfl, rfl⟩
     have hj' : j ≤ ([((sortT l).getD k Tc.stowed.dflt).half]).length := hj
     conv => arg 1; cbv
     simp (maxSteps := 4000000) only [P_vc, P_br, P_and, P_fin, V_nil, V_one, V_cons, T_self, castK, succK, Int.toNat_natCast, predK, decide_eq_true_eq, decide_eq_false_iff_not, List.map_cons, List.map_nil, cond_true, cond_false]
     clear g3 g4 hj h9
     have hb1 := fun key => bump_bound (c := ((sortT l).getD k Tc.stowed.dflt).col) (tallB_bound (findV bs ((sortT l).getD k Tc.stowed.dflt).box).1) (([((sortT l).getD k Tc.stowed.dflt).half]).take j) (topsM bs ((sortT l).take k)) htop key
     have hmor := fun h => bump_more (t := tallB (findV bs ((sortT l).getD k Tc.stowed.dflt).box).1) (c := ((sortT l).getD k Tc.stowed.dflt).col) (m := topsM bs ((sortT l).take k)) (hs := [((sortT l).getD k Tc.stowed.dflt).half]) (j := j) h
     have hmids := midsK_succ s.cols bs (sortT l) k
     have htops := topsM_more (bs := bs) hlt
     unfold midOf at hmids
     unfold topStep at htops
     simp only [box_eta]
     generalize hX : (sortT l).getD k Tc.stowed.dflt = x at *
     generalize hM : topsM bs ((sortT l).take k) = M0 at *
     generalize (findV bs x.box).1 = b at *
     simp only [setM_twice, setM_at, Option.getD_some]
     refine ⟨fun g6 => ?_, fun g6 => ?_⟩
     · have hs0 : ∀ y ∈ [x.half], 1 ≤ y ∧ y ≤ 2 := by simp [gh]
       have hs3 : ([x.half]).length ≤ 2 := by simp
       generalize [x.half] = hs at *
       have h6 : j < hs.length := by omega
       have h7 := hmor h6
       have hs1 := hs0 _ (getD_mem Tc.u8.dflt h6)
       have hs2 : inI64 (hs.getD j Tc.u8.dflt) := ⟨by omega, by omega⟩
       have hs4 : (hs.take j).length ≤ 2 := by rw [List.length_take]; omega
       have hb2 := hb1 [Kx.i .i64 x.col, Kx.i .i64 (hs.getD j Tc.u8.dflt)]
       have hb3 : inI64 ((bump (tallB b) x.col M0 (hs.take j) [Kx.i .i64 x.col, Kx.i .i64 (hs.getD j Tc.u8.dflt)]).getD Tc.int.dflt + tallB b) := by
        rw [hd0]
        exact ⟨by omega, by omega⟩
       obtain ⟨e1, e2, e3, e4, e5⟩ := all_true hb3 (show inI64 ((j : Int) + 1) from ⟨by omega, by omega⟩) (show j + 1 ≤ hs.length ∧ hs.length - (j + 1) < hs.length - j from ⟨by omega, by omega⟩) (show (j : Int) + 1 = ((j + 1 : Nat) : Int) by omega) hs2
       simp only [h7, e1, e2, e3, e4, e5, and_self, and_true, true_and]
       exact ⟨by omega, by omega⟩
     · have hT : ([x.half]).take j = [x.half] := List.take_of_length_le (by omega)
       have hof : hsOf x.half = [x.half] := by
        unfold hsOf
        simp [gh]
       have hmx : midX (s.cols.getD x.col.toNat Tc.col.dflt) x.half = (s.cols.getD x.col.toNat Tc.col.dflt).x - 3050 := by
        unfold midX
        simp [gh]
       rw [hT, htops, hmids, hof, hmx]
       refine ⟨by rw [midsK_len]; simp only [List.length_cons, List.length_nil]; omega, ⟨by omega, by omega⟩, ⟨by omega, by omega⟩, by omega, rfl, rfl⟩
   · have gh : ¬ ((sortT l).getD k Tc.stowed.dflt).half = 1 ∧ ¬ ((sortT l).getD k Tc.stowed.dflt).half = 2 := ⟨of_decide_eq_false g4, of_decide_eq_false g5⟩
     clear g4
     have g4 := g5
     clear g5
     have hd0 : (Tc.int.dflt : Int) = 0 := rfl
     have h9 := htop [Kx.i .i64 ((sortT l).getD k Tc.stowed.dflt).col, Kx.i .i64 (([(1 : Int), 2]).getD (Int.toNat 0) Tc.u8.dflt)]
     have ht := tallB_bound (findV bs ((sortT l).getD k Tc.stowed.dflt).box).1
     refine ⟨⟨Int.le_refl 0, by simp⟩, (show inI64 (([(1 : Int), 2]).getD (Int.toNat 0) Tc.u8.dflt) from ⟨by decide, by decide⟩), ?_, ?_, trivial, ?_, ?_⟩
     · simp only [V_one, castK, Int.toNat_natCast, List.map_cons, List.map_nil, hd0]
       exact ⟨by omega, by omega⟩
     · simp only [V_one, castK, Int.toNat_natCast, List.map_cons, List.map_nil, hd0]
       exact ⟨by omega, by omega⟩
     · simp only [V_one, castK, Int.toNat_natCast, List.map_cons, List.map_nil, hd0, box_eta]
       exact ⟨by omega, by omega⟩
     refine ⟨lpTop (fun _ => tallB (findV bs ((sortT l).getD k Tc.stowed.dflt).box).1) (fun _ => ((sortT l).getD k Tc.stowed.dflt).col) (fun _ => topsM bs ((sortT l).take k)) (fun _ => [(1 : Int), 2]), ?_⟩
     conv => arg 1; cbv
     refine ⟨?_, fun (j : Nat) hj => ?_⟩
     · simp (maxSteps := 4000000) only [P_vc, P_br, P_and, P_fin, V_nil, V_one, V_cons, T_self, castK, succK, Int.toNat_natCast, predK, decide_eq_true_eq, decide_eq_false_iff_not, List.map_cons, List.map_nil, cond_true, cond_false]
       exact ⟨Nat.zero_le _, rfl, rfl⟩
     have hj' : j ≤ ([(1 : Int), 2]).length := hj
     conv => arg 1; cbv
     simp (maxSteps := 4000000) only [P_vc, P_br, P_and, P_fin, V_nil, V_one, V_cons, T_self, castK, succK, Int.toNat_natCast, predK, decide_eq_true_eq, decide_eq_false_iff_not, List.map_cons, List.map_nil, cond_true, cond_false]
     clear g3 g4 hj h9
     have hb1 := fun key => bump_bound (c := ((sortT l).getD k Tc.stowed.dflt).col) (tallB_bound (findV bs ((sortT l).getD k Tc.stowed.dflt).box).1) (([(1 : Int), 2]).take j) (topsM bs ((sortT l).take k)) htop key
     have hmor := fun h => bump_more (t := tallB (findV bs ((sortT l).getD k Tc.stowed.dflt).box).1) (c := ((sortT l).getD k Tc.stowed.dflt).col) (m := topsM bs ((sortT l).take k)) (hs := [(1 : Int), 2]) (j := j) h
     have hmids := midsK_succ s.cols bs (sortT l) k
     have htops := topsM_more (bs := bs) hlt
     unfold midOf at hmids
     unfold topStep at htops
     simp only [box_eta]
     generalize hX : (sortT l).getD k Tc.stowed.dflt = x at *
     generalize hM : topsM bs ((sortT l).take k) = M0 at *
     generalize (findV bs x.box).1 = b at *
     simp only [setM_twice, setM_at, Option.getD_some]
     refine ⟨fun g6 => ?_, fun g6 => ?_⟩
     · have hs0 : ∀ y ∈ [(1 : Int), 2], 1 ≤ y ∧ y ≤ 2 := by simp [gh]
       have hs3 : ([(1 : Int), 2]).length ≤ 2 := by simp
       generalize [(1 : Int), 2] = hs at *
       have h6 : j < hs.length := by omega
       have h7 := hmor h6
       have hs1 := hs0 _ (getD_mem Tc.u8.dflt h6)
       have hs2 : inI64 (hs.getD j Tc.u8.dflt) := ⟨by omega, by omega⟩
       have hs4 : (hs.take j).length ≤ 2 := by rw [List.length_take]; omega
       have hb2 := hb1 [Kx.i .i64 x.col, Kx.i .i64 (hs.getD j Tc.u8.dflt)]
       have hb3 : inI64 ((bump (tallB b) x.col M0 (hs.take j) [Kx.i .i64 x.col, Kx.i .i64 (hs.getD j Tc.u8.dflt)]).getD Tc.int.dflt + tallB b) := by
        rw [hd0]
        exact ⟨by omega, by omega⟩
       obtain ⟨e1, e2, e3, e4, e5⟩ := all_true hb3 (show inI64 ((j : Int) + 1) from ⟨by omega, by omega⟩) (show j + 1 ≤ hs.length ∧ hs.length - (j + 1) < hs.length - j from ⟨by omega, by omega⟩) (show (j : Int) + 1 = ((j + 1 : Nat) : Int) by omega) hs2
       simp only [h7, e1, e2, e3, e4, e5, and_self, and_true, true_and]
       exact ⟨by omega, by omega⟩
     · have hT : ([(1 : Int), 2]).take j = [(1 : Int), 2] := List.take_of_length_le (by omega)
       have hof : hsOf x.half = [(1 : Int), 2] := by
        unfold hsOf
        simp [gh]
       have hmx : midX (s.cols.getD x.col.toNat Tc.col.dflt) x.half = (s.cols.getD x.col.toNat Tc.col.dflt).x := by
        unfold midX
        simp [gh]
       rw [hT, htops, hmids, hof, hmx]
       refine ⟨by rw [midsK_len]; simp only [List.length_cons, List.length_nil]; omega, ⟨by omega, by omega⟩, ⟨by omega, by omega⟩, by omega, rfl, rfl⟩
 · have hge : (sortT l).length ≤ k := by
    have g3' : decide ((k : Int) < ((sortT l).length : Int)) = false := g3
    simp only [decide_eq_false_iff_not] at g3'
    omega
   have hkk : k = (sortT l).length := by omega
   simp (maxSteps := 4000000) only [P_vc, P_br, P_and, P_fin, V_nil, V_one, V_cons, T_self, castK, succK, Int.toNat_natCast, predK, decide_eq_true_eq, decide_eq_false_iff_not, List.map_cons, List.map_nil, cond_true, cond_false]
   rw [hc, hkk]
   exact ⟨rfl, rfl⟩
def midIs (id : Int) (m : Mid) : Bool := decide (m.box.id = id)
def conMidIs : Con := ⟨48, [.agg midSg, .pto [.int .i64]], fun
 | [x0, x1] => (x0.toMid).bind fun m => (x1.toPI).bind fun id => some ⟨fun _ => True, .bool fun _ => midIs (id ()) (m ())⟩
 | _ => none⟩
set_option maxRecDepth 100000 in
set_option maxHeartbeats 4000000 in
theorem conMidIs_ok : ConOk Tryz.prog conMidIs := by
 refine fnOk [] trivial Tryz.func48 (by kernel_rfl) fun avs res h hp => ?_
 simp only [conMidIs] at h
 split at h
 case h_2 => cases h
 rename_i x0 x1
 simp only [Option.bind_eq_some_iff, Option.some.injEq] at h
 obtain ⟨m, e0, id, e1, rfl⟩ := h
 obtain rfl := AV.toMid_ e0
 obtain rfl := AV.toPI_ e1
 clear e0 e1
 obtain ⟨m, rfl⟩ := eta (α := Mid) m
 obtain ⟨id, rfl⟩ := eta (α := Int) id
 refine ⟨[], ?_⟩
 conv => arg 1; cbv
 simp (maxSteps := 4000000) only [P_vc, P_br, P_and, P_fin, V_nil, V_one, V_cons, T_self, castK, succK, Int.toNat_natCast, predK, decide_eq_true_eq, decide_eq_false_iff_not, List.map_cons, List.map_nil, cond_true, cond_false]
 rfl
theorem idx_at {α : Type} {p : α → Bool} {l : List α} {k : Nat} {d : α} (h0 : ∀ j, j < k → p (l.getD j d) = false) (hk : k < l.length) (h : p (l.getD k d) = true) : idx p l = (k : Int) := by
 have e : ∀ j, (hj : j < l.length) → l.getD j d = l[j] := fun j hj => by rw [List.getD_eq_getElem?_getD, List.getElem?_eq_getElem hj, Option.getD_some]
 exact idx_found hk (fun j h1 => by rw [← e j (by omega)]; exact h0 j h1) (by rw [← e k hk]; exact h)
theorem idx_no {α : Type} {p : α → Bool} {l : List α} {k : Nat} {d : α} (h0 : ∀ j, j < k → p (l.getD j d) = false) (hk : l.length ≤ k) : idx p l = -1 := by
 have e : ∀ j, (hj : j < l.length) → l.getD j d = l[j] := fun j hj => by rw [List.getD_eq_getElem?_getD, List.getElem?_eq_getElem hj, Option.getD_some]
 exact idx_none fun j hj => by rw [← e j hj]; exact h0 j (by omega)
def conIdxMid : Con := ⟨47, [.sl .mid, .fn [.pto [.int .i64]]], fun
 | [x0, x1] => (x0.toMids).bind fun l => (x1.toFPI 48).bind fun id => some ⟨fun _ => (l ()).length ≤ 1000000, .int .i64 fun _ => idx (midIs (id ())) (l ())⟩
 | _ => none⟩
def lpIdxMid (l : List Mid) (id : Int) : Lp where
 X := Nat
 ov k := [(8, .int .i64 fun _ => (k : Int))]
 oe _ := []
 I k := k ≤ l.length ∧ ∀ j, j < k → midIs id (l.getD j Tc.mid.dflt) = false
 μ k _ := l.length - k
 x0 := 0
 nx := some fun k => k + 1
set_option maxRecDepth 100000 in
set_option maxHeartbeats 4000000 in
theorem conIdxMid_ok : ConOk Tryz.prog conIdxMid := by
 refine fnOk [conMidIs] ⟨conMidIs_ok, trivial⟩ Tryz.func47 (by kernel_rfl) fun avs res h hp => ?_
 simp only [conIdxMid] at h
 split at h
 case h_2 => cases h
 rename_i x0 x1
 simp only [Option.bind_eq_some_iff, Option.some.injEq] at h
 obtain ⟨l, e0, id, e1, rfl⟩ := h
 obtain rfl := AV.toMids_ e0
 obtain rfl := AV.toFPI_ e1
 clear e0 e1
 obtain ⟨l, rfl⟩ := eta (α := List Mid) l
 obtain ⟨id, rfl⟩ := eta (α := Int) id
 have hl : l.length ≤ 1000000 := hp
 refine ⟨[(2, lpIdxMid l id)], ?_⟩
 conv => arg 1; cbv
 refine ⟨?_, fun (k : Nat) hk => ?_⟩
 · simp (maxSteps := 4000000) only [P_vc, P_br, P_and, P_fin, V_nil, V_one, V_cons, T_self, castK, succK, Int.toNat_natCast, predK, decide_eq_true_eq, decide_eq_false_iff_not, List.map_cons, List.map_nil, cond_true, cond_false]
   simp
 have hZhk1 : k ≤ l.length ∧ ∀ j, j < k → midIs id (l.getD j Tc.mid.dflt) = false := hk
 have hk1 := hZhk1.1
 have hk2 := hZhk1.2
 conv => arg 1; cbv
 simp (maxSteps := 4000000) only [P_vc, P_br, P_and, P_fin, V_nil, V_one, V_cons, T_self, castK, succK, Int.toNat_natCast, predK, decide_eq_true_eq, decide_eq_false_iff_not, List.map_cons, List.map_nil, cond_true, cond_false]
 refine ⟨fun g => ?_, fun g => (idx_no hk2 (by omega)).symm⟩
 have hlt : k < l.length := by omega
 exact ⟨by omega, trivial, fun h => (idx_at hk2 hlt h).symm, fun h => ⟨⟨by omega, by omega⟩, ⟨⟨hlt, upto_more hk2 h⟩, by omega⟩, by omega⟩⟩
def midAt (l : List Mid) (i : Int) : Mid := l.getD i.toNat Tc.mid.dflt
def middleF (s : Shp) (bs : List Box) (l : List Stowed) (id : Int) : Int × Int × Int × Int :=
 cond (cargoB s bs l) (cond (decide (idx (midIs id) (midsL s.cols bs (sortT l)) < 0)) (0, 0, 0, 6)
  ((midAt (midsL s.cols bs (sortT l)) (idx (midIs id) (midsL s.cols bs (sortT l)))).x, (midAt (midsL s.cols bs (sortT l)) (idx (midIs id) (midsL s.cols bs (sortT l)))).y, (midAt (midsL s.cols bs (sortT l)) (idx (midIs id) (midsL s.cols bs (sortT l)))).h, 0)) (0, 0, 0, 2)
def conMiddle : Con := ⟨18, [.agg shipSg, .sl .box, .sl .stowed, .int .i64], fun
 | [x0, x1, x2, x3] => (x0.toShip).bind fun s => (x1.toBoxes).bind fun bs => (x2.toStos).bind fun l => (x3.toI).bind fun id => some ⟨fun _ => shipPre (s ()) ∧ boxesPre (bs ()) ∧ (l ()).length ≤ 20, .tup [.int .i64 fun _ => (middleF (s ()) (bs ()) (l ()) (id ())).1, .int .i64 fun _ => (middleF (s ()) (bs ()) (l ()) (id ())).2.1, .int .i64 fun _ => (middleF (s ()) (bs ()) (l ()) (id ())).2.2.1, .int .i64 fun _ => (middleF (s ()) (bs ()) (l ()) (id ())).2.2.2]⟩
 | _ => none⟩
set_option maxRecDepth 100000 in
set_option maxHeartbeats 4000000 in
theorem conMiddle_ok : ConOk Tryz.prog conMiddle := by
 refine fnOk [conMiddles, conIdxMid] ⟨conMiddles_ok, conIdxMid_ok, trivial⟩ Tryz.func18 (by kernel_rfl) fun avs res h hp => ?_
 simp only [conMiddle] at h
 split at h
 case h_2 => cases h
 rename_i x0 x1 x2 x3
 simp only [Option.bind_eq_some_iff, Option.some.injEq] at h
 obtain ⟨s, e0, bs, e1, l, e2, id, e3, rfl⟩ := h
 obtain rfl := AV.toShip_ e0
 obtain rfl := AV.toBoxes_ e1
 obtain rfl := AV.toStos_ e2
 obtain rfl := AV.toI_ e3
 clear e0 e1 e2 e3
 obtain ⟨s, rfl⟩ := eta (α := Shp) s
 obtain ⟨bs, rfl⟩ := eta (α := List Box) bs
 obtain ⟨l, rfl⟩ := eta (α := List Stowed) l
 obtain ⟨id, rfl⟩ := eta (α := Int) id
 have hZh1 : shipPre s ∧ boxesPre bs ∧ l.length ≤ 20 := hp
 have h1 := hZh1.1
 have h2 := hZh1.2.1
 have h3 := hZh1.2.2
 refine ⟨[], ?_⟩
 conv => arg 1; cbv
 unfold middleF
 have hlen : (midsL s.cols bs (sortT l)).length = l.length := by unfold midsL; rw [midsK_len]; exact (sortT_perm l).length_eq
 have hi := idx_cases (midIs id) (midsL s.cols bs (sortT l))
 generalize midsL s.cols bs (sortT l) = ms at *
 generalize cargoB s bs l = c at *
 simp (maxSteps := 4000000) only [P_vc, P_br, P_and, P_fin, V_nil, V_one, V_cons, T_self, castK, succK, Int.toNat_natCast, predK, decide_eq_true_eq, decide_eq_false_iff_not, List.map_cons, List.map_nil, cond_true, cond_false]
 unfold midAt
 have e0 : idx (midIs id) ([] : List Mid) = -1 := idx_none fun j h => absurd h (by simp)
 refine ⟨⟨h1, h2, h3⟩, ?_⟩
 clear h1 h2 hp hZh1
 have hl6 : ms.length ≤ 1000000 := by omega
 have hix : idx (midIs id) ms < 0 ∨ (0 ≤ idx (midIs id) ms ∧ idx (midIs id) ms < (ms.length : Int)) := by
  rcases hi with ⟨h1, _⟩ | ⟨k, h, h1, _⟩ <;> omega
 cases c with
 | false => simp
 | true =>
  rcases hix with h4 | h4
  · have h5 : ¬ 0 ≤ idx (midIs id) ms := by omega
    simp [h4, h5, hl6]
  · have h5 : ¬ idx (midIs id) ms < 0 := by omega
    simp [h4, h5, hl6]
end Go.Proofs.YtfdjcakgolenbaaGreat
