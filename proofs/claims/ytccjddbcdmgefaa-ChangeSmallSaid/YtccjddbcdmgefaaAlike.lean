/-
  alike tells true: Same and its reference count the same; and tells' parts.
-/
import Derived.Test.YtccjddbcdmgefaaAwake
import Derived.Test.YtccjddbcdmgefaaSameA
namespace Go.Proofs.Ytccjddbcdmgefaa
open Go.RowKit

set_option maxHeartbeats 2000000 in
theorem law_alike (v v' : PlanV) (p q : Plan) (frm : Int) (w : World) (hf1 : -9223372036854775808 ≤ frm) (hf2 : frm ≤ 9223372036854775807) (h : RdPlan w w.heap.size v p) (h' : RdPlan w w.heap.size v' q)
    (l1 : p.states.length ≤ 1000) (l2 : q.states.length ≤ 1000) (l3 : ∀ l ∈ p.states, l.length ≤ 1000) (l4 : ∀ l ∈ q.states, l.length ≤ 1000) :
    Calls Try.prog 9 #[v.val p.states.length p.water.length, v'.val q.states.length q.water.length, .int .i64 frm] w fun e w' => e = .returned (.bool true) ∧ Below w.heap.size w w' := by
  obtain ⟨r1, hr1⟩ : ∃ r, r = (sameAcc p.states q.states frm (min p.states.length q.states.length)).1 := ⟨_, rfl⟩
  obtain ⟨r2, hr2⟩ : ∃ r, r = (sameAcc p.states q.states frm (min p.states.length q.states.length)).2 := ⟨_, rfl⟩
  have H1 : Hid (∀ w2, Below w.heap.size w w2 → Calls Try.prog 29 #[v.val p.states.length p.water.length, v'.val q.states.length q.water.length, .int .i64 frm] w2 fun e w' => e = .returned (.tuple #[.int .i64 r1, .int .i64 r2]) ∧ Below w2.heap.size w2 w') := fun w2 hb => by
    rw [hr1, hr2]
    exact change_same v v' p q frm w2 hf1 hf2 ((h.below hb).more hb.size) ((h'.below hb).more hb.size) l1 l2 l3 l4
  have H2 : Hid (∀ w2, Below w.heap.size w w2 → Calls Try.prog 30 #[v.val p.states.length p.water.length, v'.val q.states.length q.water.length, .int .i64 frm] w2 fun e w' => e = .returned (.tuple #[.int .i64 r1, .int .i64 r2]) ∧ Below w2.heap.size w2 w') := fun w2 hb => by
    rw [hr1, hr2]
    exact ref_same v v' p q frm w2 ((h.below hb).more hb.size) ((h'.below hb).more hb.size) l1 l2 l3 l4
  clear h h' hr1 hr2 l3 l4
  obtain ⟨A, c, A', c'⟩ := v
  obtain ⟨D, d, D', d'⟩ := v'
  go_enter Try.func9, Try.ntmps9
  go_wp2_with fail
  have hb0 : Below w.heap.size w ((w.alloc (Obj.cells #[Value.slice A p.states.length c, Value.slice A' p.water.length c'] 29)).alloc (Obj.cells #[Value.slice D q.states.length d, Value.slice D' q.water.length d'] 29)) :=
    ((Below.refl _ _).alloc (Nat.le_refl _) _).alloc (by simp) _
  refine (H1.out _ hb0).mono ?_
  rintro e w1 ⟨rfl, hb1⟩
  have k0 : w1.heap[w.heap.size]? = some (.cells #[Value.slice A p.states.length c, Value.slice A' p.water.length c'] 29 (0, 0)) := (hb1.block _ (by rw [size_alloc2]; omega)).trans (heap_alloc2_old w _ _)
  have k1 : w1.heap[w.heap.size + 1]? = some (.cells #[Value.slice D q.states.length d, Value.slice D' q.water.length d'] 29 (0, 0)) := (hb1.block _ (by rw [size_alloc2]; omega)).trans (heap_alloc2_new w _ _)
  have hbw1 : Below w.heap.size w w1 := hb0.trans (hb1.mono (by rw [size_alloc2]; omega))
  clear hb1 hb0
  have q0 := cell_of_row w1 w.heap.size 0 _ _ _ k0
  have q1 := cell_of_row w1 w.heap.size 1 _ _ _ k0
  have q2 := cell_of_row w1 (w.heap.size + 1) 0 _ _ _ k1
  have q3 := cell_of_row w1 (w.heap.size + 1) 1 _ _ _ k1
  simp at q0 q1 q2 q3
  clear k0 k1
  go_wp2_with fail
  refine (H2.out _ hbw1).mono ?_
  rintro e w2 ⟨rfl, hb2⟩
  have e1 : (r1 == r1) = true := by simp
  have e2 : (r2 == r2) = true := by simp
  go_wp2_with fail
  go_ret
  exact ⟨rfl, hbw1.trans (hb2.mono hbw1.size)⟩

theorem next_len (l : List Box) (calls now kind call box kilos : Int) : (nextL l calls now kind call box kilos).1.length ≤ l.length := by
  unfold nextL
  split
  · simp
  · split
    · split
      · simp
      · split
        · simp
        · exact skipL_len l call
    · split
      · split
        · simp
        · unfold nextAt
          split
          · simp
          · split
            · exact List.length_eraseIdx_le _ _
            · split
              · simp
              · split <;> simp
      · simp
theorem boxesL_len (l : List Box) (calls now : Int) (c : Chg) : (boxesL l calls now c).1.length ≤ l.length := by
  unfold boxesL
  split
  · exact next_len _ _ _ _ _ _ _
  · simp
theorem allGo_len (calls now : Int) : ∀ (cs : List Chg) (l : List Box) (k : Nat), (allGo calls now l cs k).1.length ≤ l.length
  | [], l, k => by unfold allGo; exact Nat.le_refl _
  | c :: cs, l, k => by
    unfold allGo
    split
    · exact Nat.le_trans (allGo_len calls now cs _ _) (next_len _ _ _ _ _ _ _)
    · simp
theorem allL_len (l : List Box) (calls now : Int) (cs : List Chg) : (allL l calls now cs).1.length ≤ l.length := by
  unfold allL
  split
  · exact allGo_len _ _ _ _ _
  · simp
end Go.Proofs.Ytccjddbcdmgefaa
