/-
  twistlocklaw18: SameInts; awake.
  twistlocklaw18: awake.
-/
import Derived.Test.YtcdfnlgimbecgaaMo35
import Derived.Laws.Cover3
import Derived.Deep.Cut

namespace Go.Proofs.Ytcdfnlgimbecgaa
open Go.RowKit

theorem int_at {w : World} {B : Nat} {A : Option Addr} {l : List Int} (h : Rd w B 1 A (l.map intRow)) (k : Nat) (hk : k < l.length) :
    ∃ g off, A = some ⟨g, off, none⟩ ∧ g < B ∧ ∀ w', Below B w w' → (loadVar 3 ⟨g, off + k, none⟩).run Try.prog w' = .ok (.int .i64 l[k]) w' := by
  obtain ⟨g, off, e, hlt, _, hc⟩ := h k (intRow l[k]) (by simp [hk])
  refine ⟨g, off, e, hlt, fun w' hb => run_load_cell Try.underlying3 rfl ?_⟩
  have h1 := (hb.cell (p := ⟨g, _, none⟩) (by simpa using hlt)).trans (hc 0 _ rfl)
  simpa using h1

set_option maxRecDepth 100000 in
set_option maxHeartbeats 1000000 in
theorem sameInts (A A' : Option Addr) (c c' : Nat) (l : List Int) (n n' : Nat) (hn : n = l.length) (hn' : n' = l.length) (w : World) (hA : Rd w w.heap.size 1 A (l.map intRow)) (hA' : Rd w w.heap.size 1 A' (l.map intRow)) (hl : l.length ≤ 1000000000000) :
    Calls Try.prog 34 #[.slice A n c, .slice A' n' c'] w fun e w' => e = .returned (.bool true) ∧ Below w.heap.size w w' := by
  subst hn
  subst hn'
  have HA := Lib.hid hA
  have HA' := Lib.hid hA'
  clear hA hA'
  have h0 : ((l.length : Int) != (l.length : Int)) = false := by simp
  go_enter Try.func34, Try.ntmps34
  go_wp2
  clear h0
  go_loopw [5] (fun i wr => ∃ k : Nat, k ≤ l.length ∧ i = .int .i64 k ∧ Below w.heap.size w wr) (fun i _ => l.length - (intOf i).toNat)
  case atStart => exact ⟨0, by omega, rfl, Below.refl _ _⟩
  case round =>
    obtain ⟨k, hk, rfl, hb⟩ := hrel
    have HB := Lib.hid hb
    clear hb
    by_cases hlt : k < l.length
    · obtain ⟨ga, oa, rfl, hga, hla⟩ := int_at HA.out k hlt
      obtain ⟨gb, ob, rfl, hgb, hlb⟩ := int_at HA'.out k hlt
      have HLA := Lib.hid hla
      have HLB := Lib.hid hlb
      have hki : (k : Int) < (l.length : Int) := by omega
      have hne : (l[k] != l[k]) = false := by simp
      clear hla hlb hga hgb
      go_wp2
      try simp only [Act.put]
      refine region_sameints (ga := ga) (oa := oa) (na := l.length) (ca := c) (gb := gb) (ob := ob) (nb := l.length) (cb := c') (kk := k) (x := l[k]) (y := l[k]) hki hki rfl (by kernel_rfl) (by kernel_rfl) (by kernel_rfl) rfl rfl rfl
        (fun w1 hb => HLA.out w1 (HB.out.trans (hb.mono HB.out.size))) (fun w1 hb => HLB.out w1 (HB.out.trans (hb.mono HB.out.size))) ?_
      intro w1 hb1
      have C1 : Hid (From w w1) := HB.out.trans (hb1.mono HB.out.size)
      clear hb1
      simp only [List.drop_succ_cons, List.drop_zero]
      simp only [Act.put, List.setIfInBounds_toArray, List.set_cons_succ, List.set_cons_zero]
      go_wp2
      go_roundw
      case rel => exact ⟨k + 1, by omega, by go_num, C1.out⟩
      case measure => simp [intOf]; omega
    · obtain rfl : k = l.length := by omega
      have hnn : ¬ (l.length : Int) < (l.length : Int) := by omega
      go_wp2
      go_ret
      exact ⟨rfl, HB.out⟩

section
variable {w : World} {ops : Array Oper} {rest : List Oper} {o : Oper} {a : Act} {Q : Exit → Act → World → Prop}
theorem wpList_run (hgd : o.guard = none) {v : Value} {w' : World} (hr : (execOp a.eval o).run Try.prog w = .ok (.value v) w') (h : wpList Try.prog ops Q rest (a.put o.dst v) w') : wpList Try.prog ops Q (o :: rest) a w := by
  refine wpList_plain hgd fun K hK => ?_
  unfold Oper.wp
  rw [hr]
  exact hK _ _ h
theorem wpList_buildS (s t : Nat) {d : Option Nat} {ty : TypeId} {pos : String} {aft : Array Edge} (ho : o = ⟨d, .build 40 #[(0, .tmp s), (1, .tmp t)], ty, pos, aft, none⟩) (f g : FracV) (hx : a.eval (.tmp s) = f.val) (hy : a.eval (.tmp t) = g.val)
    (h : wpList Try.prog ops Q rest (a.put o.dst (Str.val ⟨f, g⟩)) w) : wpList Try.prog ops Q (o :: rest) a w := by
  subst ho
  exact wpList_run rfl (build_stress f g w hx hy) h
end

theorem str_explicit (s : Str) : ∃ (b b' : Bool) (c c' : Fin 16 → Int), s.cells = [.bool b, .int .u32 (c 0), .int .u32 (c 1), .int .u32 (c 2), .int .u32 (c 3), .int .u32 (c 4), .int .u32 (c 5), .int .u32 (c 6), .int .u32 (c 7), .int .u32 (c 8), .int .u32 (c 9), .int .u32 (c 10), .int .u32 (c 11), .int .u32 (c 12), .int .u32 (c 13), .int .u32 (c 14), .int .u32 (c 15), .bool b', .int .u32 (c' 0), .int .u32 (c' 1), .int .u32 (c' 2), .int .u32 (c' 3), .int .u32 (c' 4), .int .u32 (c' 5), .int .u32 (c' 6), .int .u32 (c' 7), .int .u32 (c' 8), .int .u32 (c' 9), .int .u32 (c' 10), .int .u32 (c' 11), .int .u32 (c' 12), .int .u32 (c' 13), .int .u32 (c' 14), .int .u32 (c' 15)] := by
  obtain ⟨b, c, h⟩ := frac_explicit s.shear
  obtain ⟨b', c', h'⟩ := frac_explicit s.bend
  exact ⟨b, b', c, c', by unfold Str.cells; rw [h, h']; rfl⟩

set_option maxRecDepth 100000 in
set_option maxHeartbeats 4000000 in
theorem build_four (s1 s2 s3 s4 : Str) {a : Act} {t1 t2 t3 t4 : Nat} {d : Option Nat} {ty : TypeId} {pos : String} {aft : Array Edge} (w : World) (h1 : a.eval (.tmp t1) = s1.val) (h2 : a.eval (.tmp t2) = s2.val) (h3 : a.eval (.tmp t3) = s3.val) (h4 : a.eval (.tmp t4) = s4.val) :
    (execOp a.eval ⟨d, .build 90 #[(0, .tmp t1), (1, .tmp t2), (2, .tmp t3), (3, .tmp t4)], ty, pos, aft, none⟩).run Try.prog w = .ok (.value (.agg (s1.cells ++ s2.cells ++ s3.cells ++ s4.cells).toArray)) w := by
  obtain ⟨b1, d1, c1, e1, hf1⟩ := str_explicit s1
  obtain ⟨b2, d2, c2, e2, hf2⟩ := str_explicit s2
  obtain ⟨b3, d3, c3, e3, hf3⟩ := str_explicit s3
  obtain ⟨b4, d4, c4, e4, hf4⟩ := str_explicit s4
  unfold Str.val at h1 h2 h3 h4
  rw [hf1] at h1
  rw [hf2] at h2
  rw [hf3] at h3
  rw [hf4] at h4
  rw [hf1, hf2, hf3, hf4]
  clear hf1 hf2 hf3 hf4
  have hr : ∀ cells, Try.prog.built 90 #[(0, a.eval (.tmp t1)), (1, a.eval (.tmp t2)), (2, a.eval (.tmp t3)), (3, a.eval (.tmp t4))].toList = some cells → (Instr.build 90 #[(0, a.eval (.tmp t1)), (1, a.eval (.tmp t2)), (2, a.eval (.tmp t3)), (3, a.eval (.tmp t4))]).run Try.prog w = .ok (.agg cells) w := fun cells h => run_build w _ _ cells h
  rw [h1, h2, h3, h4] at hr
  have hb := hr ((([Value.bool b1, Value.int IntKind.u32 (c1 0), Value.int IntKind.u32 (c1 1), Value.int IntKind.u32 (c1 2), Value.int IntKind.u32 (c1 3), Value.int IntKind.u32 (c1 4), Value.int IntKind.u32 (c1 5), Value.int IntKind.u32 (c1 6), Value.int IntKind.u32 (c1 7), Value.int IntKind.u32 (c1 8), Value.int IntKind.u32 (c1 9), Value.int IntKind.u32 (c1 10), Value.int IntKind.u32 (c1 11), Value.int IntKind.u32 (c1 12), Value.int IntKind.u32 (c1 13), Value.int IntKind.u32 (c1 14), Value.int IntKind.u32 (c1 15), Value.bool d1, Value.int IntKind.u32 (e1 0), Value.int IntKind.u32 (e1 1), Value.int IntKind.u32 (e1 2), Value.int IntKind.u32 (e1 3), Value.int IntKind.u32 (e1 4), Value.int IntKind.u32 (e1 5), Value.int IntKind.u32 (e1 6), Value.int IntKind.u32 (e1 7), Value.int IntKind.u32 (e1 8), Value.int IntKind.u32 (e1 9), Value.int IntKind.u32 (e1 10), Value.int IntKind.u32 (e1 11), Value.int IntKind.u32 (e1 12), Value.int IntKind.u32 (e1 13), Value.int IntKind.u32 (e1 14), Value.int IntKind.u32 (e1 15)] ++ [Value.bool b2, Value.int IntKind.u32 (c2 0), Value.int IntKind.u32 (c2 1), Value.int IntKind.u32 (c2 2), Value.int IntKind.u32 (c2 3), Value.int IntKind.u32 (c2 4), Value.int IntKind.u32 (c2 5), Value.int IntKind.u32 (c2 6), Value.int IntKind.u32 (c2 7), Value.int IntKind.u32 (c2 8), Value.int IntKind.u32 (c2 9), Value.int IntKind.u32 (c2 10), Value.int IntKind.u32 (c2 11), Value.int IntKind.u32 (c2 12), Value.int IntKind.u32 (c2 13), Value.int IntKind.u32 (c2 14), Value.int IntKind.u32 (c2 15), Value.bool d2, Value.int IntKind.u32 (e2 0), Value.int IntKind.u32 (e2 1), Value.int IntKind.u32 (e2 2), Value.int IntKind.u32 (e2 3), Value.int IntKind.u32 (e2 4), Value.int IntKind.u32 (e2 5), Value.int IntKind.u32 (e2 6), Value.int IntKind.u32 (e2 7), Value.int IntKind.u32 (e2 8), Value.int IntKind.u32 (e2 9), Value.int IntKind.u32 (e2 10), Value.int IntKind.u32 (e2 11), Value.int IntKind.u32 (e2 12), Value.int IntKind.u32 (e2 13), Value.int IntKind.u32 (e2 14), Value.int IntKind.u32 (e2 15)] ++ [Value.bool b3, Value.int IntKind.u32 (c3 0), Value.int IntKind.u32 (c3 1), Value.int IntKind.u32 (c3 2), Value.int IntKind.u32 (c3 3), Value.int IntKind.u32 (c3 4), Value.int IntKind.u32 (c3 5), Value.int IntKind.u32 (c3 6), Value.int IntKind.u32 (c3 7), Value.int IntKind.u32 (c3 8), Value.int IntKind.u32 (c3 9), Value.int IntKind.u32 (c3 10), Value.int IntKind.u32 (c3 11), Value.int IntKind.u32 (c3 12), Value.int IntKind.u32 (c3 13), Value.int IntKind.u32 (c3 14), Value.int IntKind.u32 (c3 15), Value.bool d3, Value.int IntKind.u32 (e3 0), Value.int IntKind.u32 (e3 1), Value.int IntKind.u32 (e3 2), Value.int IntKind.u32 (e3 3), Value.int IntKind.u32 (e3 4), Value.int IntKind.u32 (e3 5), Value.int IntKind.u32 (e3 6), Value.int IntKind.u32 (e3 7), Value.int IntKind.u32 (e3 8), Value.int IntKind.u32 (e3 9), Value.int IntKind.u32 (e3 10), Value.int IntKind.u32 (e3 11), Value.int IntKind.u32 (e3 12), Value.int IntKind.u32 (e3 13), Value.int IntKind.u32 (e3 14), Value.int IntKind.u32 (e3 15)] ++ [Value.bool b4, Value.int IntKind.u32 (c4 0), Value.int IntKind.u32 (c4 1), Value.int IntKind.u32 (c4 2), Value.int IntKind.u32 (c4 3), Value.int IntKind.u32 (c4 4), Value.int IntKind.u32 (c4 5), Value.int IntKind.u32 (c4 6), Value.int IntKind.u32 (c4 7), Value.int IntKind.u32 (c4 8), Value.int IntKind.u32 (c4 9), Value.int IntKind.u32 (c4 10), Value.int IntKind.u32 (c4 11), Value.int IntKind.u32 (c4 12), Value.int IntKind.u32 (c4 13), Value.int IntKind.u32 (c4 14), Value.int IntKind.u32 (c4 15), Value.bool d4, Value.int IntKind.u32 (e4 0), Value.int IntKind.u32 (e4 1), Value.int IntKind.u32 (e4 2), Value.int IntKind.u32 (e4 3), Value.int IntKind.u32 (e4 4), Value.int IntKind.u32 (e4 5), Value.int IntKind.u32 (e4 6), Value.int IntKind.u32 (e4 7), Value.int IntKind.u32 (e4 8), Value.int IntKind.u32 (e4 9), Value.int IntKind.u32 (e4 10), Value.int IntKind.u32 (e4 11), Value.int IntKind.u32 (e4 12), Value.int IntKind.u32 (e4 13), Value.int IntKind.u32 (e4 14), Value.int IntKind.u32 (e4 15)]) : List Value).toArray) (by kernel_rfl)
  unfold execOp
  simp only [List.map_toArray, List.map_cons, List.map_nil, h1, h2, h3, h4, Sem.run_bind, hb, Result.andThen_ok, Sem.run_pure]
end Go.Proofs.Ytcdfnlgimbecgaa

namespace Go.Proofs.Ytcdfnlgimbecgaa
open Go.RowKit

theorem arr4_row : IsRow Try.prog 90 136 := ⟨_, Try.underlying90, by kernel_rfl, by kernel_rfl⟩
theorem arr4_size : (Try.prog.info? 90).map (·.size) = some 136 := by kernel_rfl
set_option maxRecDepth 10000 in
theorem ld_four {w : World} {B : Nat} {A : Option Addr} {s1 s2 s3 s4 : Str} (h : Rd w B 34 A ([s1, s2, s3, s4].map Str.cells)) :
    ∃ g off, A = some ⟨g, off, none⟩ ∧ g < B ∧ ∀ w', Below B w w' → (loadVar 90 ⟨g, off, none⟩).run Try.prog w' = .ok (.agg (s1.cells ++ s2.cells ++ s3.cells ++ s4.cells).toArray) w' := by
  obtain ⟨g, off, e, hlt, _, _⟩ := h 0 s1.cells rfl
  refine ⟨g, off, e, hlt, fun w' hb => run_load_cells arr4_row (by simp [Str.cells_len]) fun j u hu => ?_⟩
  have hf : ([s1, s2, s3, s4].map Str.cells).flatten = s1.cells ++ s2.cells ++ s3.cells ++ s4.cells := by simp
  rw [← hf] at hu
  obtain ⟨ad, e2, hc⟩ := h.flat j u hu
  rw [e] at e2
  injection e2 with e2
  rw [← e2] at hc
  rw [Addr.add_lit] at hc ⊢
  exact (hb.cell (p := ⟨g, _, none⟩) (by simpa using hlt)).trans hc

theorem ex_curve_call (A D : Option Addr) (c d : Nat) (w : World) (h : Rd w w.heap.size 5 A (exF.map Frm.cells)) (h' : Rd w w.heap.size 2 D [[.int .i64 150, .int .i64 30]]) :
    Calls Try.prog 12 #[.slice A 4 c, .slice D 1 d] w fun e w' => ∃ A' c', e = .returned (.tuple #[.slice A' 4 c', .int .i64 0]) ∧ Rd w' w'.heap.size 34 A' (exC.map Str.cells) ∧ Below w.heap.size w w' := by
  have h1 := st_Curve A D c d 4 1 exF [⟨150, 30⟩] rfl rfl w h h' (by decide) (by decide)
  rw [ex_curve] at h1
  refine h1.mono ?_
  rintro e w' ⟨A', c', rfl, h2, h3, _⟩
  exact ⟨A', c', rfl, h2, h3⟩
theorem ex_over_call (A D : Option Addr) (c d : Nat) (w : World) (h : Rd w w.heap.size 5 A (exF.map Frm.cells)) (h' : Rd w w.heap.size 34 D (exC.map Str.cells)) :
    Calls Try.prog 22 #[.slice A 4 c, .slice D 4 d] w fun e w' => ∃ A' c', e = .returned (.tuple #[.slice A' 2 c', .int .i64 0]) ∧ Rd w' w'.heap.size 1 A' ([1, 2].map intRow) ∧ Below w.heap.size w w' := by
  have h1 := st_Over A D c d 4 4 exF exC rfl rfl w h h' (by decide) (by decide) (by intro s hs; unfold exC at hs; simp only [List.mem_cons, List.not_mem_nil, or_false] at hs; rcases hs with rfl | rfl | rfl | rfl <;> exact ⟨by first | exact ofL_fits ⟨by omega, by omega⟩ | exact ratioL_fits _ _, by first | exact ofL_fits ⟨by omega, by omega⟩ | exact ratioL_fits _ _⟩)
  rw [ex_over] at h1
  exact h1

/-- the array that awake wants -/
theorem wpList_four {w : World} {ops : Array Oper} {rest : List Oper} {o : Oper} {a : Act} {Q : Exit → Act → World → Prop} (t1 t2 t3 t4 : Nat) {d : Option Nat} {ty : TypeId} {pos : String} {aft : Array Edge} (ho : o = ⟨d, .build 90 #[(0, .tmp t1), (1, .tmp t2), (2, .tmp t3), (3, .tmp t4)], ty, pos, aft, none⟩) (s1 s2 s3 s4 : Str)
    (h1 : a.eval (.tmp t1) = s1.val) (h2 : a.eval (.tmp t2) = s2.val) (h3 : a.eval (.tmp t3) = s3.val) (h4 : a.eval (.tmp t4) = s4.val)
    (h : wpList Try.prog ops Q rest (a.put o.dst (.agg (s1.cells ++ s2.cells ++ s3.cells ++ s4.cells).toArray)) w) : wpList Try.prog ops Q (o :: rest) a w := by
  subst ho
  exact wpList_run rfl (build_four s1 s2 s3 s4 w h1 h2 h3 h4) h

def fourV : Value := .agg ((exC.map Str.cells).flatten.toArray)
theorem four_eql (w : World) : (binOp .eql 90 fourV fourV).run Try.prog w = .ok (.bool true) w := by kernel_rfl

theorem four_guard (x y : Operand) (w : World) : (eqGuard .eql 90 x y fourV fourV).run Try.prog w = .ok () w := run_eqGuard_agg (P := Try.prog) (w := w) .eql 90 x y _ _ (by kernel_rfl)
theorem zero4 : Try.zeroCells90.size = 136 := by kernel_rfl
theorem four_len : (exC.map Str.cells).flatten.length = 136 := by kernel_rfl
/-- the block at g holds the array that awake wants -/
def F4 (w : World) (g : Nat) : Prop := w.heap[g]? = some (.cells (exC.map Str.cells).flatten.toArray 90 (0, 0))
theorem F4.lt {w : World} {g : Nat} (h : F4 w g) : g < w.heap.size := (Array.getElem?_eq_some_iff.1 h).1
theorem F4.below {w w' : World} {B g : Nat} (h : F4 w g) (hb : Below B w w') (hg : g < B) : F4 w' g := (hb.block g hg).trans h
theorem F4.ld {w : World} {g : Nat} (h : F4 w g) : (loadVar 90 ⟨g, 0, none⟩).run Try.prog w = .ok fourV w :=
  run_load_cells arr4_row four_len (fun j x hx => by
    rw [Addr.add_lit, cell_of_row w g (0 + j) _ _ _ h]
    simpa using hx)
theorem wpList_st4 {w : World} {ops : Array Oper} {rest : List Oper} {o : Oper} {a : Act} {Q : Exit → Act → World → Prop} {g : Nat} (hgd : o.guard = none) (x y : Operand) (ho : o.op = .store 90 x y) (hx : a.eval x = .pointer (some ⟨g, 0, none⟩)) (hy : a.eval y = fourV) (hz : w.heap[g]? = some (.cells Try.zeroCells90 90 (0, 0)))
    (h : ∀ w', F4 w' g → w.grownBy w' (some g) → wpList Try.prog ops Q rest (a.put o.dst undef) w') : wpList Try.prog ops Q (o :: rest) a w := by
  have hz136 : Try.zeroCells90.size = 136 := zero4
  generalize Try.zeroCells90 = zc at hz hz136
  refine wpList_st (cs := (exC.map Str.cells).flatten) hgd x y ho hx hy arr4_size rfl four_len hz (by rw [hz136]; decide) ?_ fun cur' w' hc hs hg hgr => h w' ?_ hgr
  · intro u hu
    obtain ⟨cs, hcs, hu'⟩ := List.mem_flatten.1 hu
    obtain ⟨s, _, rfl⟩ := List.mem_map.1 hcs
    exact s.ones u hu'
  · have e : cur' = (exC.map Str.cells).flatten.toArray := by
      apply Array.ext'
      rw [hc]
      have h1 : zc.toList.drop (0 + 136) = [] := List.drop_eq_nil_of_le (by rw [Array.length_toList, hz136]; decide)
      rw [h1]
      simp
    rw [e] at hg
    exact hg

set_option maxRecDepth 100000 in
set_option maxHeartbeats 8000000 in
theorem law_awake (w : World) : Calls Try.prog 9 #[] w fun e w' => e = .returned (.bool true) ∧ Below w.heap.size w w' := by
  have HE1 := Lib.hid (fun w1 => law_example w1)
  have HE2 := Lib.hid (fun w1 => law_example w1)
  have HZ := Lib.hid (fun w1 => frac_Of 0 (by omega) (by omega) w1)
  obtain ⟨z0, hz0⟩ : ∃ z, z = ofL 0 := ⟨_, rfl⟩
  have HR1 := Lib.hid (fun w1 => law_ratio (-165) 19 ⟨by omega, by omega⟩ ⟨by omega, by omega⟩ w1)
  have HR2 := Lib.hid (fun w1 => law_ratio (-8250) 19 ⟨by omega, by omega⟩ ⟨by omega, by omega⟩ w1)
  have HR3 := Lib.hid (fun w1 => law_ratio 110 19 ⟨by omega, by omega⟩ ⟨by omega, by omega⟩ w1)
  have HR4 := Lib.hid (fun w1 => law_ratio (-11000) 19 ⟨by omega, by omega⟩ ⟨by omega, by omega⟩ w1)
  obtain ⟨r1, hr1⟩ : ∃ r, r = (ratioL (-165) 19).1 := ⟨_, rfl⟩
  obtain ⟨r2, hr2⟩ : ∃ r, r = (ratioL (-8250) 19).1 := ⟨_, rfl⟩
  obtain ⟨r3, hr3⟩ : ∃ r, r = (ratioL 110 19).1 := ⟨_, rfl⟩
  obtain ⟨r4, hr4⟩ : ∃ r, r = (ratioL (-11000) 19).1 := ⟨_, rfl⟩
  rw [← hz0] at HZ
  rw [← hr1] at HR1
  rw [← hr2] at HR2
  rw [← hr3] at HR3
  rw [← hr4] at HR4
  have HFV : Hid (fourV = .agg (Str.cells ⟨z0, z0⟩ ++ Str.cells ⟨r1, r2⟩ ++ Str.cells ⟨r3, r4⟩ ++ Str.cells ⟨z0, z0⟩).toArray) := by
    unfold Hid
    rw [hz0, hr1, hr2, hr3, hr4]
    unfold fourV exC
    simp
  clear hz0 hr1 hr2 hr3 hr4
  go_enter Try.func9, Try.ntmps9
  go_upto_region 6 with (first
    | (go_at_call 36; refine (HE1.out _).mono ?_; rintro e w1 ⟨A1, c1, rfl, hr1, hb1⟩; have R1 := Lib.hid hr1; have C1 : Hid (From w w1) := hb1; clear hr1 hb1 HE1)
    | (go_at_call 12; refine (ex_curve_call A1 _ c1 _ _ ((R1.out.below ((Below.refl _ _).alloc (Nat.le_refl _) _) (Nat.le_refl _)).more (by simp)) (Rd.new2 w1 46 2 [.int .i64 150, .int .i64 30] rfl)).mono ?_; rintro e w2 ⟨A2, c2, rfl, hr2, hb2⟩; have R2 := Lib.hid hr2; have C2 : Hid (From w w2) := (C1.out.alloc C1.out.size _).trans (hb2.mono (by have := C1.out.size; simp; omega)); have HC : Hid (From w2 w2) := Below.refl _ _; clear hr2 hb2)
    | (go_at_call 13; refine (HZ.out _).mono ?_; rintro e wx ⟨rfl, hbx⟩; replace HC := Lib.hid (HC.out.trans (hbx.mono HC.out.size)); clear hbx)
      | (go_at_call 19; refine (HR1.out _).mono ?_; rintro e wx ⟨rfl, hbx⟩; replace HC := Lib.hid (HC.out.trans (hbx.mono HC.out.size)); clear hbx HR1)
      | (go_at_call 19; refine (HR2.out _).mono ?_; rintro e wx ⟨rfl, hbx⟩; replace HC := Lib.hid (HC.out.trans (hbx.mono HC.out.size)); clear hbx HR2)
      | (go_at_call 19; refine (HR3.out _).mono ?_; rintro e wx ⟨rfl, hbx⟩; replace HC := Lib.hid (HC.out.trans (hbx.mono HC.out.size)); clear hbx HR3)
      | (go_at_call 19; refine (HR4.out _).mono ?_; rintro e wx ⟨rfl, hbx⟩; replace HC := Lib.hid (HC.out.trans (hbx.mono HC.out.size)); clear hbx HR4)
    | (refine wpList_buildS 20 21 rfl z0 z0 rfl rfl ?_)
    | (refine wpList_buildS 23 24 rfl r1 r2 rfl rfl ?_)
    | (refine wpList_buildS 26 27 rfl r3 r4 rfl rfl ?_)
    | (refine wpList_buildS 29 30 rfl z0 z0 rfl rfl ?_)
    | (refine wpList_four 22 25 28 31 rfl ⟨z0, z0⟩ ⟨r1, r2⟩ ⟨r3, r4⟩ ⟨z0, z0⟩ rfl rfl rfl rfl ?_; rw [← HFV.out])
    | ((with_reducible refine g_st 90 ?_); refine wpList_st4 rfl _ _ rfl rfl rfl (heap_alloc_new wx _) ?_; intro w7 hf7 hgr7; have HF7 := Lib.hid hf7; have C7 : Hid (From w2 w7) := (HC.out.alloc HC.out.size _).grown hgr7 (by have := HC.out.size; simp; omega) (by intro q hq; injection hq with hq; have := HC.out.size; omega); clear hf7 hgr7)
    | (go_at_call 36; refine (HE2.out _).mono ?_; rintro e w8 ⟨A8, c8, rfl, hr8, hb8⟩; have R8 := Lib.hid hr8; have C8 : Hid (From w7 w8) := hb8; clear hr8 hb8 HE2)
    | (go_at_call 22; refine (ex_over_call A8 A2 c8 c2 _ R8.out ((R2.out.below C7.out (Nat.le_refl _)).more C7.out.size |>.below C8.out (Nat.le_refl _) |>.more C8.out.size)).mono ?_; rintro e w9 ⟨A9, c9, rfl, hr9, hb9⟩; have R9 := Lib.hid hr9; have C9 : Hid (From w7 w9) := C8.out.trans (hb9.mono C8.out.size); clear hr9 hb9))
  obtain ⟨gl, ol, rfl, hgl, hld⟩ := ld_four R2.out
  have C29 : Hid (From w2 w9) := C7.out.trans (C9.out.mono C7.out.size)
  have HLD := Lib.hid (fun w1 (hb : From w9 w1) => hld w1 (C29.out.trans (hb.mono C29.out.size)))
  have HFV2 : Hid (.agg (Str.cells ⟨ofL 0, ofL 0⟩ ++ Str.cells ⟨(ratioL (-165) 19).1, (ratioL (-8250) 19).1⟩ ++ Str.cells ⟨(ratioL 110 19).1, (ratioL (-11000) 19).1⟩ ++ Str.cells ⟨ofL 0, ofL 0⟩).toArray = fourV) := by
    unfold Hid fourV exC
    simp
  rw [HFV2.out] at HLD
  have HF9 := Lib.hid (HF7.out.below C9.out HF7.out.lt)
  obtain ⟨gi, oi, rfl, hgi, _⟩ := int_at R9.out 0 (by decide)
  have CE : Hid (From w w9) := C2.out.trans (C29.out.mono C2.out.size)
  clear hgl hld hgi HFV HFV2 HZ HC R1 R2 R8 HF7
  try simp only [Act.put]
  refine region_awake (gl := gl) (ol := ol) (cl := c2) (g3 := wx.heap.size) (gi := gi) (oi := oi) (ci := c9) (v4 := fourV) (v5 := fourV) rfl (by kernel_rfl) (by kernel_rfl) (by kernel_rfl) rfl rfl rfl rfl
    (fun v w1 => ∃ g, v = .slice (some ⟨g, 0, none⟩) 2 2 ∧ w1.heap[g]? = some (.cells #[.int .i64 1, .int .i64 2] 3 (0, 0)))
    (by rintro v w1 w2 ⟨g, h1, h2⟩ hb; exact ⟨g, h1, (hb.block g (Array.getElem?_eq_some_iff.1 h2).1).trans h2⟩)
    (by intro a w1 h1; unfold execOp; simp only [h1, Sem.run_bind, run_arrayAt _ _ _ _ _ _ _ Try.underlying90 (Nat.le_refl 4), Result.andThen_ok, Sem.run_pure])
    (fun w1 hb => HLD.out w1 hb) (fun w1 hb => (HF9.out.below hb HF9.out.lt).ld)
    (by intro a w1 h1 h2; unfold execOp; simp only [h1, h2, Sem.run_bind, four_guard, four_eql, Result.andThen_ok, Sem.run_pure])
    (by intro a w1 hb; exact ⟨.slice (some ⟨w1.heap.size, 0, none⟩) 2 2, w1.alloc (.cells #[.int .i64 1, .int .i64 2] 3), by go_simp, (Below.refl _ _).alloc (Nat.le_refl _) _, _, rfl, heap_alloc_new w1 _⟩)
    (by
      rintro w1 u hb ⟨g, rfl, hg⟩
      refine sameInts (some ⟨gi, oi, none⟩) (some ⟨g, 0, none⟩) c9 2 [1, 2] 2 2 rfl rfl w1 ((R9.out.below hb (Nat.le_refl _)).more hb.size) ?_ (by decide)
      exact Rd.rows (css := [1, 2].map intRow) hg rfl (by simp [intRow])) ?_
  intro u w10 hb10 hu
  have CF : Hid (From w w10) := CE.out.trans (hb10.mono CE.out.size)
  clear hb10 hu
  simp only [List.drop_succ_cons, List.drop_zero]
  simp only [Act.put, List.setIfInBounds_toArray, List.set_cons_succ, List.set_cons_zero]
  go_wp2
  go_ret
  exact ⟨rfl, CF.out⟩
end Go.Proofs.Ytcdfnlgimbecgaa
