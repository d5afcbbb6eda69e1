/-
  Plans: lent, kept, compared.
-/
import Derived.Test.YtccjddbcdmgefaaNest
namespace Go.Proofs.Ytccjddbcdmgefaa
open Go.RowKit

structure PlanV where
  A : Option Addr
  c : Nat
  A' : Option Addr
  c' : Nat

/-- a plan's value, of so many states and lists of water -/
abbrev PlanV.val (v : PlanV) (n n' : Nat) : Value := .agg #[.slice v.A n v.c, .slice v.A' n' v.c']

structure Plan where
  states : List (List Stowed)
  water : List (List Num)

def Plan.fits (p : Plan) : Prop := p.states.length * 24 ≤ 140737488351232 ∧ (∀ l ∈ p.states, l.length * 32 ≤ 140737488351232) ∧ p.water.length * 24 ≤ 140737488351232 ∧ (∀ l ∈ p.water, l.length * 8 ≤ 140737488351232)

def RdPlan (w : World) (B : Nat) (v : PlanV) (p : Plan) : Prop := RdNN w B 4 v.A (plainStates p.states) ∧ RdNN w B 1 v.A' (plainWaters p.water)
def LentP (w : World) (B : Nat) (v : PlanV) (p : Plan) : Prop := RdNN w B 4 v.A (lentStates p.states) ∧ RdNN w B 1 v.A' (lentWaters p.water) ∧ p.states.length + 12 ≤ v.c ∧ p.water.length + 12 ≤ v.c'

theorem RdPlan.below {w w' : World} {B : Nat} {v : PlanV} {p : Plan} (h : RdPlan w B v p) (hb : Below B w w') : RdPlan w' B v p := ⟨h.1.below hb (Nat.le_refl _), h.2.below hb (Nat.le_refl _)⟩
theorem RdPlan.more {w : World} {B B' : Nat} {v : PlanV} {p : Plan} (h : RdPlan w B v p) (hb : B ≤ B') : RdPlan w B' v p := ⟨h.1.more hb, h.2.more hb⟩
theorem LentP.below {w w' : World} {B : Nat} {v : PlanV} {p : Plan} (h : LentP w B v p) (hb : Below B w w') : LentP w' B v p := ⟨h.1.below hb (Nat.le_refl _), h.2.1.below hb (Nat.le_refl _), h.2.2⟩
theorem LentP.more {w : World} {B B' : Nat} {v : PlanV} {p : Plan} (h : LentP w B v p) (hb : B ≤ B') : LentP w B' v p := ⟨h.1.more hb, h.2.1.more hb, h.2.2⟩
theorem LentP.plain {w : World} {B : Nat} {v : PlanV} {p : Plan} (h : LentP w B v p) : RdPlan w B v p := ⟨lentStates_plain h.1, lentWaters_plain h.2.1⟩

theorem Rd.agree {w w' : World} {B isz gi lo hi : Nat} {css : List (List Value)} (h : Rd w B isz (some ⟨gi, 0, none⟩) css) (hlo : lo ≤ gi) (hB : B ≤ hi) (ha : ∀ b, lo ≤ b → b < hi → w'.heap[b]? = w.heap[b]?) (hs : hi ≤ w'.heap.size) : Rd w' w'.heap.size isz (some ⟨gi, 0, none⟩) css := by
  intro k cs hk
  obtain ⟨b, off, e, hlt, hl, hc⟩ := h k cs hk
  have e2 : b = gi := by injection e with e; injection e with e1 e2; exact e1.symm
  refine ⟨b, off, e, by omega, hl, fun j u hu => ?_⟩
  rw [← hc j u hu]
  exact World.cell?_of_block (ha b (by omega) (by omega))

theorem OwnNN.agree {w w' : World} {base E isz g cap lo hi : Nat} {xs : List (Nat × Nat × List (List Value))} (h : OwnNN w base E isz g cap xs) (hlo : lo ≤ base) (hB : w.heap.size ≤ hi) (ha : ∀ b, lo ≤ b → b < hi → w'.heap[b]? = w.heap[b]?) (hs : hi ≤ w'.heap.size) : RdNN w' w'.heap.size isz (some ⟨g, 0, none⟩) xs := by
  have hle := h.le
  obtain ⟨css, ho, hl, hx⟩ := h
  intro k x hk
  obtain ⟨gi, ci, hc, hgi, hci, hr⟩ := hx k x hk
  obtain ⟨b, off, e, hlt, _, hcell⟩ := ho.rd k _ hc
  injection e with e
  injection e with e1 e2
  subst e1
  subst e2
  have h0 := hcell 0 _ rfl
  simp only [Nat.mul_one, Nat.add_zero, Nat.zero_add] at h0
  have h1 : w'.cell? ⟨g, k, none⟩ = w.cell? ⟨g, k, none⟩ := World.cell?_of_block (ha g (by omega) (by omega))
  refine ⟨g, 0, _, ci, rfl, by omega, ?_, hci, hr.agree (by omega) hB ha hs⟩
  simpa [h1] using h0

/-- a lent plan, whose memory lies from lo to hi -/
def LentIn (w : World) (lo hi : Nat) (v : PlanV) (p : Plan) : Prop := hi ≤ w.heap.size ∧ ∀ w', (∀ b, lo ≤ b → b < hi → w'.heap[b]? = w.heap[b]?) → hi ≤ w'.heap.size → LentP w' w'.heap.size v p

theorem LentIn.here {w : World} {lo hi : Nat} {v : PlanV} {p : Plan} (h : LentIn w lo hi v p) : LentP w w.heap.size v p := h.2 w (fun _ _ _ => rfl) h.1
theorem LentIn.agree {w w' : World} {lo hi : Nat} {v : PlanV} {p : Plan} (h : LentIn w lo hi v p) (ha : ∀ b, lo ≤ b → b < hi → w'.heap[b]? = w.heap[b]?) (hs : hi ≤ w'.heap.size) : LentIn w' lo hi v p :=
  ⟨hs, fun w2 h2 hs2 => h.2 w2 (fun b h3 h4 => (h2 b h3 h4).trans (ha b h3 h4)) hs2⟩

set_option maxHeartbeats 1000000 in
theorem lentPlanIn (v : PlanV) (p : Plan) (w : World) (h : RdPlan w w.heap.size v p) (hf : p.fits) :
    Calls Try.prog 8 #[v.val p.states.length p.water.length] w fun e w' => ∃ v' : PlanV, e = .returned (v'.val p.states.length p.water.length) ∧ LentIn w' w.heap.size w'.heap.size v' p ∧ Below w.heap.size w w' := by
  obtain ⟨A, c, A', c'⟩ := v
  obtain ⟨h1, h2⟩ := h
  obtain ⟨f1, f2, f3, f4⟩ := hf
  simp only at h1 h2
  go_enter Try.func8, Try.ntmps8
  go_wp2_with fail
  have hb0 : Below w.heap.size w ((w.alloc (Obj.cells #[Value.slice A p.states.length c, Value.slice A' p.water.length c'] 29)).alloc (Obj.cells #[Value.slice none 0 0, Value.slice none 0 0] 29)) :=
    ((Below.refl _ _).alloc (Nat.le_refl _) _).alloc (by simp) _
  refine (lentStates_any A c p.states _ ((h1.below hb0 (Nat.le_refl _)).more hb0.size) f1 f2).mono ?_
  rintro e w1 ⟨g, cap, rfl, hg, hcap, hown, hb1⟩
  have hg2 : w.heap.size + 2 ≤ g := by simpa using hown.le.1
  have hs1 : w.heap.size + 2 ≤ w1.heap.size := by have := hb1.size; simpa using this
  have k0 : w1.heap[w.heap.size]? = some (.cells #[Value.slice A p.states.length c, Value.slice A' p.water.length c'] 29 (0, 0)) := (hb1.block _ (by rw [size_alloc2]; omega)).trans (heap_alloc2_old w _ _)
  have k1 : w1.heap[w.heap.size + 1]? = some (.cells #[Value.slice none 0 0, Value.slice none 0 0] 29 (0, 0)) := (hb1.block _ (by rw [size_alloc2]; omega)).trans (heap_alloc2_new w _ _)
  have hbw1 : Below w.heap.size w w1 := hb0.trans (hb1.mono (by rw [size_alloc2]; omega))
  clear hb1 hb0 hg
  have H1 := Lib.hid h1
  have HO := Lib.hid hown
  have HB := Lib.hid hbw1
  have HC := Lib.hid hcap
  clear h1 hown hbw1 hcap
  have q0 := cell_of_row w1 w.heap.size 0 _ _ _ k0
  have q1 := cell_of_row w1 w.heap.size 1 _ _ _ k0
  have q2 := cell_of_row w1 (w.heap.size + 1) 0 _ _ _ k1
  have q3 := cell_of_row w1 (w.heap.size + 1) 1 _ _ _ k1
  have z0 := frozen_of_row w1 w.heap.size 0 _ _ k0
  have z1 := frozen_of_row w1 w.heap.size 1 _ _ k0
  have z2 := frozen_of_row w1 (w.heap.size + 1) 0 _ _ k1
  have z3 := frozen_of_row w1 (w.heap.size + 1) 1 _ _ k1
  simp at q0 q1 q2 q3
  have K0 := Lib.hid k0
  have K1 := Lib.hid k1
  clear k0 k1
  go_wp2_with fail
  have hb2 : Below w.heap.size w (w1.setCell ⟨w.heap.size, 0, none⟩ (Value.slice (some ⟨g, 0, none⟩) p.states.length cap)) := HB.out.setCell (Nat.le_refl _) _
  have hs2 : (w1.setCell ⟨w.heap.size, 0, none⟩ (Value.slice (some ⟨g, 0, none⟩) p.states.length cap)).heap.size = w1.heap.size := by simp [World.setCell]
  have hown2 : OwnNN (w1.setCell ⟨w.heap.size, 0, none⟩ (Value.slice (some ⟨g, 0, none⟩) p.states.length cap)) _ _ _ _ _ _ := HO.out.setLow (p := ⟨w.heap.size, 0, none⟩) (by simp; omega) _
  have k0 := heap_setCell_same w1 w.heap.size 0 _ _ (Value.slice (some ⟨g, 0, none⟩) p.states.length cap) K0.out
  have k1 := (heap_setCell_other w1 ⟨w.heap.size, 0, none⟩ (w.heap.size + 1) (Value.slice (some ⟨g, 0, none⟩) p.states.length cap) (by simp)).trans K1.out
  simp only [List.setIfInBounds_toArray, List.set_cons_zero] at k0
  generalize w1.setCell ⟨w.heap.size, 0, none⟩ (Value.slice (some ⟨g, 0, none⟩) p.states.length cap) = w2 at *
  clear q0 q1 q2 q3 z0 z1 z2 z3 K0 K1 HO HB
  refine (lentWaters_any A' c' p.water _ ((h2.below hb2 (Nat.le_refl _)).more hb2.size) f3 f4).mono ?_
  rintro e w3 ⟨g', cap', rfl, hg', hcap', hown', hb3⟩
  have hown3 := hown2.below hb3
  have k0 := (hb3.block _ (by omega)).trans k0
  have k1 := (hb3.block _ (by omega)).trans k1
  have hs3 := hb3.size
  have hg3 := hown'.le.1
  have hbw3 : Below w.heap.size w w3 := hb2.trans (hb3.mono (by omega))
  clear hb3 hb2 hown2
  have HB := Lib.hid hbw3
  have HO := Lib.hid hown3
  have HO' := Lib.hid hown'
  have HC' := Lib.hid hcap'
  have HS := Lib.hid hs2
  clear hbw3 hown3 hown' h2 hg' hcap' hs2
  have q0 := cell_of_row w3 w.heap.size 0 _ _ _ k0
  have q1 := cell_of_row w3 w.heap.size 1 _ _ _ k0
  have q2 := cell_of_row w3 (w.heap.size + 1) 0 _ _ _ k1
  have q3 := cell_of_row w3 (w.heap.size + 1) 1 _ _ _ k1
  have z0 := frozen_of_row w3 w.heap.size 0 _ _ k0
  have z1 := frozen_of_row w3 w.heap.size 1 _ _ k0
  have z2 := frozen_of_row w3 (w.heap.size + 1) 0 _ _ k1
  have z3 := frozen_of_row w3 (w.heap.size + 1) 1 _ _ k1
  simp at q0 q1 q2 q3
  clear k0 k1
  go_wp2_with fail
  have hlow : ∀ (u1 u2 u3 : Value), OwnNN (((w3.setCell ⟨w.heap.size, 1, none⟩ u1).setCell ⟨w.heap.size + 1, 0, none⟩ u2).setCell ⟨w.heap.size + 1, 1, none⟩ u3) _ _ _ _ _ _ := fun u1 u2 u3 => ((HO.out.setLow (p := ⟨w.heap.size, 1, none⟩) (by simp; omega) u1).setLow (p := ⟨w.heap.size + 1, 0, none⟩) (by simp; omega) u2).setLow (p := ⟨w.heap.size + 1, 1, none⟩) (by simp; omega) u3
  have hlow' : ∀ (u1 u2 u3 : Value), OwnNN (((w3.setCell ⟨w.heap.size, 1, none⟩ u1).setCell ⟨w.heap.size + 1, 0, none⟩ u2).setCell ⟨w.heap.size + 1, 1, none⟩ u3) _ _ _ _ _ _ := fun u1 u2 u3 => ((HO'.out.setLow (p := ⟨w.heap.size, 1, none⟩) (by have := HS.out; simp; omega) u1).setLow (p := ⟨w.heap.size + 1, 0, none⟩) (by have := HS.out; simp; omega) u2).setLow (p := ⟨w.heap.size + 1, 1, none⟩) (by have := HS.out; simp; omega) u3
  refine bodyPost_ret (v := PlanV.val ⟨some ⟨g, 0, none⟩, cap, some ⟨g', 0, none⟩, cap'⟩ p.states.length p.water.length) (by simp [results, Try.results8, go_sem, q2, q3]) rfl
    ⟨⟨some ⟨g, 0, none⟩, cap, some ⟨g', 0, none⟩, cap'⟩, rfl, ⟨Nat.le_refl _, fun w' ha hs => ⟨(hlow _ _ _).agree (by rw [size_alloc2]; omega) (Nat.le_refl _) ha hs, (hlow' _ _ _).agree (by have := HS.out; omega) (Nat.le_refl _) ha hs, HC.out, HC'.out⟩⟩, ?_⟩
  exact ((HB.out.setCell (p := ⟨w.heap.size, 1, none⟩) (Nat.le_refl _) _).setCell (p := ⟨w.heap.size + 1, 0, none⟩) (by simp) _).setCell (p := ⟨w.heap.size + 1, 1, none⟩) (by simp) _

theorem lentPlan (v : PlanV) (p : Plan) (w : World) (h : RdPlan w w.heap.size v p) (hf : p.fits) :
    Calls Try.prog 8 #[v.val p.states.length p.water.length] w fun e w' => ∃ v' : PlanV, e = .returned (v'.val p.states.length p.water.length) ∧ LentP w' w'.heap.size v' p ∧ Below w.heap.size w w' :=
  (lentPlanIn v p w h hf).mono fun e w' ⟨v', h1, h2, h3⟩ => ⟨v', h1, h2.here, h3⟩

set_option maxHeartbeats 1000000 in
theorem samePlan (v v' : PlanV) (p : Plan) (n m n' m' : Nat) (hn : n = p.states.length) (hm : m = p.water.length) (hn' : n' = p.states.length) (hm' : m' = p.water.length) (w : World) (h : RdPlan w w.heap.size v p) (h' : RdPlan w w.heap.size v' p) (hf : p.fits) :
    Calls Try.prog 31 #[v.val n m, v'.val n' m'] w fun e w' => e = .returned (.bool true) ∧ Below w.heap.size w w' := by
  subst hn hm hn' hm'
  obtain ⟨A, c, A', c'⟩ := v
  obtain ⟨D, d, D', d'⟩ := v'
  obtain ⟨f1, f2, f3, f4⟩ := hf
  go_enter Try.func31, Try.ntmps31
  go_wp2_with fail
  have hb0 : Below w.heap.size w ((w.alloc (Obj.cells #[Value.slice A p.states.length c, Value.slice A' p.water.length c'] 29)).alloc (Obj.cells #[Value.slice D p.states.length d, Value.slice D' p.water.length d'] 29)) :=
    ((Below.refl _ _).alloc (Nat.le_refl _) _).alloc (by simp) _
  refine (sameStates A D c d p.states _ _ rfl rfl _ ((h.1.below hb0 (Nat.le_refl _)).more hb0.size) ((h'.1.below hb0 (Nat.le_refl _)).more hb0.size) (by omega) (fun l hl => by have := f2 l hl; omega)).mono ?_
  rintro e w1 ⟨rfl, hb1⟩
  have k0 : w1.heap[w.heap.size]? = some (.cells #[Value.slice A p.states.length c, Value.slice A' p.water.length c'] 29 (0, 0)) := (hb1.block _ (by rw [size_alloc2]; omega)).trans (heap_alloc2_old w _ _)
  have k1 : w1.heap[w.heap.size + 1]? = some (.cells #[Value.slice D p.states.length d, Value.slice D' p.water.length d'] 29 (0, 0)) := (hb1.block _ (by rw [size_alloc2]; omega)).trans (heap_alloc2_new w _ _)
  have hbw1 : Below w.heap.size w w1 := hb0.trans (hb1.mono (by rw [size_alloc2]; omega))
  clear hb1 hb0
  have q1 := cell_of_row w1 w.heap.size 1 _ _ _ k0
  have q3 := cell_of_row w1 (w.heap.size + 1) 1 _ _ _ k1
  simp at q1 q3
  clear k0 k1
  go_wp2_with fail
  refine (sameWaters A' D' c' d' p.water _ _ rfl rfl _ ((h.2.below hbw1 (Nat.le_refl _)).more hbw1.size) ((h'.2.below hbw1 (Nat.le_refl _)).more hbw1.size) (by omega) (fun l hl => by have := f4 l hl; omega)).mono ?_
  rintro e w2 ⟨rfl, hb2⟩
  go_wp2_with fail
  go_ret
  exact ⟨rfl, hbw1.trans (hb2.mono hbw1.size)⟩

set_option maxHeartbeats 1000000 in
theorem keptPlan (v v' : PlanV) (p : Plan) (w : World) (h : LentP w w.heap.size v p) (h' : RdPlan w w.heap.size v' p) (hf : p.fits) :
    Calls Try.prog 10 #[v.val p.states.length p.water.length, v'.val p.states.length p.water.length] w fun e w' => e = .returned (.bool true) ∧ Below w.heap.size w w' := by
  have hpl := h.plain
  obtain ⟨A, c, A', c'⟩ := v
  obtain ⟨D, d, D', d'⟩ := v'
  obtain ⟨f1, f2, f3, f4⟩ := hf
  obtain ⟨l1, l2, l3, l4⟩ := h
  go_enter Try.func10, Try.ntmps10
  go_wp2_with fail
  have hb0 : Below w.heap.size w ((w.alloc (Obj.cells #[Value.slice A p.states.length c, Value.slice A' p.water.length c'] 29)).alloc (Obj.cells #[Value.slice D p.states.length d, Value.slice D' p.water.length d'] 29)) :=
    ((Below.refl _ _).alloc (Nat.le_refl _) _).alloc (by simp) _
  refine (samePlan ⟨A, c, A', c'⟩ ⟨D, d, D', d'⟩ p _ _ _ _ rfl rfl rfl rfl _ ((hpl.below hb0).more hb0.size) ((h'.below hb0).more hb0.size) ⟨f1, f2, f3, f4⟩).mono ?_
  rintro e w1 ⟨rfl, hb1⟩
  have k0 : w1.heap[w.heap.size]? = some (.cells #[Value.slice A p.states.length c, Value.slice A' p.water.length c'] 29 (0, 0)) := (hb1.block _ (by rw [size_alloc2]; omega)).trans (heap_alloc2_old w _ _)
  have k1 : w1.heap[w.heap.size + 1]? = some (.cells #[Value.slice D p.states.length d, Value.slice D' p.water.length d'] 29 (0, 0)) := (hb1.block _ (by rw [size_alloc2]; omega)).trans (heap_alloc2_new w _ _)
  have hbw1 : Below w.heap.size w w1 := hb0.trans (hb1.mono (by rw [size_alloc2]; omega))
  have hs1 : w.heap.size + 2 ≤ w1.heap.size := by have := hb1.size; rw [size_alloc2] at this; exact this
  clear hb1 hb0
  have q0 := cell_of_row w1 w.heap.size 0 _ _ _ k0
  have q2 := cell_of_row w1 (w.heap.size + 1) 0 _ _ _ k1
  simp at q0 q2
  have K0 := Lib.hid k0
  have K1 := Lib.hid k1
  clear k0 k1
  go_wp2_with fail
  refine (keptStates A D c d p.states _ ((l1.below hbw1 (Nat.le_refl _)).more hbw1.size) l3 ((h'.1.below hbw1 (Nat.le_refl _)).more hbw1.size) f1 f2).mono ?_
  rintro e w2 ⟨rfl, hb2⟩
  have hbw2 : Below w.heap.size w w2 := hbw1.trans (hb2.mono hbw1.size)
  have q1 := cell_of_row w2 w.heap.size 1 _ _ _ ((hb2.block _ (by omega)).trans K0.out)
  have q3 := cell_of_row w2 (w.heap.size + 1) 1 _ _ _ ((hb2.block _ (by omega)).trans K1.out)
  simp at q1 q3
  clear hb2 K0 K1 q0 q2
  go_wp2_with fail
  refine (keptWaters A' D' c' d' p.water _ ((l2.below hbw2 (Nat.le_refl _)).more hbw2.size) l4 ((h'.2.below hbw2 (Nat.le_refl _)).more hbw2.size) f3 f4).mono ?_
  rintro e w3 ⟨rfl, hb3⟩
  go_wp2_with fail
  go_ret
  exact ⟨rfl, hbw2.trans (hb3.mono hbw2.size)⟩
end Go.Proofs.Ytccjddbcdmgefaa
