/-
  The law ChangeSame over plans that read as rows of rows.
-/
import Derived.Test.YtccjddbcdmgefaaAlike
import Derived.Test.YtccjddbcdmgefaaMade
namespace Go.Proofs.Ytccjddbcdmgefaa
open Go.RowKit

/-- what each operation of the region 'a, b := LentPlan(p), LentPlan(q)' gives -/
def sameR (vp vq : PlanV) (p q : Plan) : Nat → Value → Nat → Nat → World → Prop := fun i v lo hi w =>
  match i with
  | 0 => v = vp.val p.states.length p.water.length
  | 1 => ∃ v' : PlanV, v = v'.val p.states.length p.water.length ∧ LentIn w lo hi v' p
  | 2 => v = vq.val q.states.length q.water.length
  | 3 => ∃ v' : PlanV, v = v'.val q.states.length q.water.length ∧ LentIn w lo hi v' q
  | 4 => v = .pointer (some ⟨lo, 0, none⟩) ∧ lo < hi ∧ w.heap[lo]? = some (.cells #[.slice none 0 0, .slice none 0 0] 29 (0, 0))
  | 5 => v = .pointer (some ⟨lo, 0, none⟩) ∧ lo < hi ∧ w.heap[lo]? = some (.cells #[.slice none 0 0, .slice none 0 0] 29 (0, 0))
  | _ => True

theorem sameR_stays {vp vq : PlanV} {p q : Plan} : ∀ i v lo hi (w w' : World), sameR vp vq p q i v lo hi w → hi ≤ w.heap.size → From w w' → sameR vp vq p q i v lo hi w' := by
  intro i v lo hi w w' h hs hb
  have hbs := hb.size
  match i, h with
  | 0, h => exact h
  | 1, ⟨v', h1, h2⟩ => exact ⟨v', h1, h2.agree (fun b h3 h4 => hb.block b (by omega)) (by omega)⟩
  | 2, h => exact h
  | 3, ⟨v', h1, h2⟩ => exact ⟨v', h1, h2.agree (fun b h3 h4 => hb.block b (by omega)) (by omega)⟩
  | 4, ⟨h1, h2, h3⟩ => exact ⟨h1, h2, (hb.block lo (by omega)).trans h3⟩
  | 5, ⟨h1, h2, h3⟩ => exact ⟨h1, h2, (hb.block lo (by omega)).trans h3⟩
  | _ + 6, _ => trivial

theorem plan_row : IsRow Try.prog 29 2 := ⟨_, Try.underlying29, by kernel_rfl, by kernel_rfl⟩
theorem plan_size : (Try.prog.info? 29).map (·.size) = some 2 := by kernel_rfl
theorem zero_plan (w : World) : (zeroValue 29).run Try.prog w = .ok (.agg #[.slice none 0 0, .slice none 0 0]) w := by kernel_rfl
theorem plan_ld {w : World} {g : Nat} {u v : Value} (h : w.heap[g]? = some (.cells #[u, v] 29 (0, 0))) : (loadVar 29 ⟨g, 0, none⟩).run Try.prog w = .ok (.agg #[u, v]) w :=
  run_load_cells (cs := [u, v]) plan_row rfl (fun j x hx => by
    rw [Addr.add_lit, cell_of_row w g (0 + j) _ _ _ h]
    simpa using hx)
theorem states_ld {w : World} {g : Nat} {u v : Value} (h : w.heap[g]? = some (.cells #[u, v] 29 (0, 0))) : (loadVar 26 ⟨g, 0, none⟩).run Try.prog w = .ok u w :=
  run_load_slice Try.underlying26 (by rw [cell_of_row w g 0 _ _ _ h]; rfl)

theorem lentPlan_cf (w : World) (args : Array Value) : (callFunc 8 args).run Try.prog w = .ok (.enter 8 args) w := by
  go_simp
set_option maxHeartbeats 2000000 in
/-- the region, whatever its order -/
theorem region_same {id : Nat} {Q : Exit → Act → World → Prop} {a0 : Act} {w0 : World} {l : List Oper} {vp vq : PlanV} {p q : Plan} {gp gq : Nat} {s3 s4 s11 s12 s45 s46 s47 s48 : Nat}
    {t0 t1 t2 t3 t4 t5 t6 t7 : TypeId} {x0 x1 x2 x3 x4 x5 x6 x7 : String} {e0 e1 e2 e3 e4 e5 e6 e7 : Array Edge}
    (hl : l = [⟨some s45, .load 29 (.tmp s3), t0, x0, e0, none⟩, ⟨some s46, .call { callee := .value (.func 8), args := #[.tmp s45], argTypes := #[29] }, t1, x1, e1, none⟩,
      ⟨some s47, .load 29 (.tmp s4), t2, x2, e2, none⟩, ⟨some s48, .call { callee := .value (.func 8), args := #[.tmp s47], argTypes := #[29] }, t3, x3, e3, none⟩,
      ⟨some s11, .alloc 29, t4, x4, e4, none⟩, ⟨some s12, .alloc 29, t5, x5, e5, none⟩,
      ⟨none, .store 29 (.tmp s11) (.tmp s46), t6, x6, e6, none⟩, ⟨none, .store 29 (.tmp s12) (.tmp s48), t7, x7, e7, none⟩])
    (hO : orderB l 6 = true) (hd : dstsB l 6 a0.tmps.size = true) (h3 : ((l.take 6).all fun o => o.dst != some s3) = true) (h4 : ((l.take 6).all fun o => o.dst != some s4) = true)
    (hpre : preB l.toArray [(1, [0]), (3, [2])] = true)
    (k3 : a0.tmps[s3]? = some (.pointer (some ⟨gp, 0, none⟩))) (k4 : a0.tmps[s4]? = some (.pointer (some ⟨gq, 0, none⟩)))
    (hp : w0.heap[gp]? = some (.cells #[.slice vp.A p.states.length vp.c, .slice vp.A' p.water.length vp.c'] 29 (0, 0)))
    (hq : w0.heap[gq]? = some (.cells #[.slice vq.A q.states.length vq.c, .slice vq.A' q.water.length vq.c'] 29 (0, 0)))
    (hrp : RdPlan w0 w0.heap.size vp p) (hrq : RdPlan w0 w0.heap.size vq q) (hfp : p.fits) (hfq : q.fits)
    (hK : ∀ (v v' : PlanV) (g g' : Nat) (w : World), From w0 w → w.heap[g]? = some (.cells #[.slice v.A p.states.length v.c, .slice v.A' p.water.length v.c'] 29 (0, 0)) → w.heap[g']? = some (.cells #[.slice v'.A q.states.length v'.c, .slice v'.A' q.water.length v'.c'] 29 (0, 0)) →
      LentP w w.heap.size v p → LentP w w.heap.size v' q →
      Q .normal ((((((a0.put (some s45) (vp.val p.states.length p.water.length)).put (some s46) (v.val p.states.length p.water.length)).put (some s47) (vq.val q.states.length q.water.length)).put (some s48) (v'.val q.states.length q.water.length)).put (some s11) (.pointer (some ⟨g, 0, none⟩))).put (some s12) (.pointer (some ⟨g', 0, none⟩))) w)
    (hn : s11 < a0.tmps.size ∧ s12 < a0.tmps.size ∧ s46 < a0.tmps.size ∧ s48 < a0.tmps.size) (hne : s11 ≠ s12 ∧ s11 ≠ s46 ∧ s11 ≠ s47 ∧ s11 ≠ s48 ∧ s12 ≠ s46 ∧ s12 ≠ s48 ∧ s46 ≠ s47 ∧ s46 ≠ s48) :
    (Code.region id l.toArray true).wp Try.prog Q a0 w0 := by
  have hlen : l.length = 8 := by rw [hl]; rfl
  refine wp_region_made 6 (sameR vp vq p q) (by kernel_rfl) hO (by omega) hd sameR_stays ?_ ?_
  · intro i o hi ho L a w val lo hi' M haft
    have hb := M.from0
    have hpw := (hb.block _ (Array.getElem?_eq_some_iff.1 hp).1).trans hp
    have hqw := (hb.block _ (Array.getElem?_eq_some_iff.1 hq).1).trans hq
    have b3 := (M.old_ h3).trans k3
    have b4 := (M.old_ h4).trans k4
    have hpz := List.all_eq_true.1 hpre
    have hcase : i = 0 ∨ i = 1 ∨ i = 2 ∨ i = 3 ∨ i = 4 ∨ i = 5 := by omega
    have ho' : l.toArray[i]? = some o := by simpa using ho
    have hedge : ∀ js, (i, js) ∈ [((1 : Nat), [(0 : Nat)]), (3, [2])] → ∀ j ∈ js, L j = true := fun js hm j hj => by
      have h1 := List.all_eq_true.1 (hpz _ hm) j hj
      rw [ho'] at h1
      simp only [Option.map_some, Option.getD_some] at h1
      rw [Array.any_eq_true'] at h1
      obtain ⟨e, he, hbb⟩ := h1
      simp only [Bool.and_eq_true, beq_iff_eq] at hbb
      rw [← hbb.2]
      exact haft e he hbb.1
    rcases hcase with rfl | rfl | rfl | rfl | rfl | rfl
    · rw [hl] at ho
      injection ho with ho
      subst ho
      exact wpOp_load ho' rfl rfl (eval_get b3) (plan_ld hpw) ⟨_, rfl, Below.refl _ _, rfl⟩
    · have l0 := hedge [0] (by simp) 0 (by simp)
      obtain ⟨_, _, _, hr0⟩ := M.rows 0 (by omega) l0
      have hs0 := M.slots 0 _ s45 (by omega) (by rw [hl]; rfl) rfl l0
      simp only [sameR] at hr0
      rw [hr0] at hs0
      rw [hl] at ho
      injection ho with ho
      subst ho
      refine wpOp_call ho' rfl rfl (args := #[vp.val p.states.length p.water.length]) (by simp [eval_get hs0]) (lentPlan_cf _ _) ((lentPlanIn vp p w ((hrp.below hb).more hb.size) hfp).mono ?_)
      rintro e w' ⟨v', rfl, hin, hbb⟩
      exact ⟨_, rfl, _, rfl, hbb, v', rfl, hin⟩
    · rw [hl] at ho
      injection ho with ho
      subst ho
      exact wpOp_load ho' rfl rfl (eval_get b4) (plan_ld hqw) ⟨_, rfl, Below.refl _ _, rfl⟩
    · have l0 := hedge [2] (by simp) 2 (by simp)
      obtain ⟨_, _, _, hr0⟩ := M.rows 2 (by omega) l0
      have hs0 := M.slots 2 _ s47 (by omega) (by rw [hl]; rfl) rfl l0
      simp only [sameR] at hr0
      rw [hr0] at hs0
      rw [hl] at ho
      injection ho with ho
      subst ho
      refine wpOp_call ho' rfl rfl (args := #[vq.val q.states.length q.water.length]) (by simp [eval_get hs0]) (lentPlan_cf _ _) ((lentPlanIn vq q w ((hrq.below hb).more hb.size) hfq).mono ?_)
      rintro e w' ⟨v', rfl, hin, hbb⟩
      exact ⟨_, rfl, _, rfl, hbb, v', rfl, hin⟩
    · rw [hl] at ho
      injection ho with ho
      subst ho
      exact wpOp_alloc ho' rfl rfl (zero_plan w) ⟨_, rfl, (Below.refl _ _).alloc (Nat.le_refl _) _, rfl, by simp, heap_alloc_new w _⟩
    · rw [hl] at ho
      injection ho with ho
      subst ho
      exact wpOp_alloc ho' rfl rfl (zero_plan w) ⟨_, rfl, (Below.refl _ _).alloc (Nat.le_refl _) _, rfl, by simp, heap_alloc_new w _⟩
  · intro val lo hi w hb hrows hapart
    obtain ⟨a1, b1, c1, v, hv, hin⟩ := hrows 1 (by omega)
    obtain ⟨a3, b3, c3, v', hv', hin'⟩ := hrows 3 (by omega)
    obtain ⟨a4, b4, c4, hv4, hlt4, hg4⟩ := hrows 4 (by omega)
    obtain ⟨a5, b5, c5, hv5, hlt5, hg5⟩ := hrows 5 (by omega)
    have hv0 : val 0 = vp.val p.states.length p.water.length := (hrows 0 (by omega)).2.2.2
    have hv2 : val 2 = vq.val q.states.length q.water.length := (hrows 2 (by omega)).2.2.2
    have p14 := hapart 1 4 (by omega) (by omega) (by omega)
    have p15 := hapart 1 5 (by omega) (by omega) (by omega)
    have p34 := hapart 3 4 (by omega) (by omega) (by omega)
    have p35 := hapart 3 5 (by omega) (by omega) (by omega)
    have p45 := hapart 4 5 (by omega) (by omega) (by omega)
    subst hl
    obtain ⟨n11, n12, n46, n48⟩ := hn
    obtain ⟨q1, q2, q3, q4, q5, q6, q7, q8⟩ := hne
    simp only [List.drop_succ_cons, List.drop_zero, List.take_succ_cons, List.take_zero, putAll, Nat.zero_add, Nat.reduceAdd, hv0, hv, hv2, hv', hv4, hv5]
    generalize hA : (((((a0.put (some s45) (vp.val p.states.length p.water.length)).put (some s46) (v.val p.states.length p.water.length)).put (some s47) (vq.val q.states.length q.water.length)).put (some s48) (v'.val q.states.length q.water.length)).put (some s11) (.pointer (some ⟨lo 4, 0, none⟩))).put (some s12) (.pointer (some ⟨lo 5, 0, none⟩)) = aF
    have f11 : aF.tmps[s11]? = some (.pointer (some ⟨lo 4, 0, none⟩)) := by rw [← hA, put_get (by simpa [put_size] using n12), if_neg q1, put_get (by simpa [put_size] using n11), if_pos rfl]
    have f12 : aF.tmps[s12]? = some (.pointer (some ⟨lo 5, 0, none⟩)) := by rw [← hA, put_get (by simpa [put_size] using n12), if_pos rfl]
    have f46 : aF.tmps[s46]? = some (v.val p.states.length p.water.length) := by
      rw [← hA, put_get (by simpa [put_size] using n12), if_neg (Ne.symm q5), put_get (by simpa [put_size] using n11), if_neg (Ne.symm q2)]
      simp only [Act.put, Array.getElem?_setIfInBounds]
      simp [Ne.symm q7, Ne.symm q8, n46]
    have f48 : aF.tmps[s48]? = some (v'.val q.states.length q.water.length) := by
      rw [← hA, put_get (by simpa [put_size] using n12), if_neg (Ne.symm q6), put_get (by simpa [put_size] using n11), if_neg (Ne.symm q4)]
      simp only [Act.put, Array.getElem?_setIfInBounds]
      simp [n48]
    refine wpList_st (cs := [.slice v.A p.states.length v.c, .slice v.A' p.water.length v.c']) rfl _ _ rfl (eval_get f11) (eval_get f46) plan_size rfl rfl hg4 (by simp) (by simp [Value.oneCell']) ?_
    intro cur1 w1 hc1 hs1 hg1 hgr1
    have e1 : cur1 = #[.slice v.A p.states.length v.c, .slice v.A' p.water.length v.c'] := by
      apply Array.ext'
      rw [hc1]; rfl
    subst e1
    have hs1' := hgr1.size
    have g5 : w1.heap[lo 5]? = some (.cells #[.slice none 0 0, .slice none 0 0] 29 (0, 0)) := (hgr1.block (lo 5) (by omega) (fun h => by injection h with h; omega)).trans hg5
    refine wpList_st (cs := [.slice v'.A q.states.length v'.c, .slice v'.A' q.water.length v'.c']) rfl _ _ rfl (eval_get f12) (eval_get f48) plan_size rfl rfl g5 (by simp) (by simp [Value.oneCell']) ?_
    intro cur2 w2 hc2 hs2 hg2 hgr2
    have e2 : cur2 = #[.slice v'.A q.states.length v'.c, .slice v'.A' q.water.length v'.c'] := by
      apply Array.ext'
      rw [hc2]; rfl
    subst e2
    have hs2' := hgr2.size
    have hag : ∀ b, b < w.heap.size → b ≠ lo 4 → b ≠ lo 5 → w2.heap[b]? = w.heap[b]? := fun b h1 h2 h3 =>
      (hgr2.block b (by omega) (fun h => by injection h with h; omega)).trans (hgr1.block b h1 (fun h => by injection h with h; omega))
    have g4 : w2.heap[lo 4]? = some (.cells #[.slice v.A p.states.length v.c, .slice v.A' p.water.length v.c'] 29 (0, 0)) := (hgr2.block (lo 4) (by omega) (fun h => by injection h with h; omega)).trans hg1
    refine wpList_nil ?_
    have hF := hK v v' (lo 4) (lo 5) w2 ((hb.grown hgr1 hb.size (fun k hk => by injection hk with hk; omega)).grown hgr2 (by have := hb.size; omega) (fun k hk => by injection hk with hk; omega)) g4 hg2
      (hin.agree (fun b h1 h2 => hag b (by omega) (by omega) (by omega)) (by omega)).here (hin'.agree (fun b h1 h2 => hag b (by omega) (by omega) (by omega)) (by omega)).here
    rw [hA] at hF
    exact hF


set_option maxRecDepth 100000 in
set_option maxHeartbeats 8000000 in
theorem main_same (v v' : PlanV) (p q : Plan) (frm : Int) (w : World) (hf1 : -9223372036854775808 ≤ frm) (hf2 : frm ≤ 9223372036854775807) (h : RdPlan w w.heap.size v p) (h' : RdPlan w w.heap.size v' q) (hfp : p.fits) (hfq : q.fits) :
    Calls Try.prog 4 #[v.val p.states.length p.water.length, v'.val q.states.length q.water.length, .int .i64 frm] w fun e w' => e = .returned (.bool true) ∧ Below w.heap.size w w' := by
  have HAW : Hid (∀ w2, Calls Try.prog 7 #[] w2 fun e w' => e = .returned (.bool true) ∧ Below w2.heap.size w2 w') := law_awake
  by_cases c1 : p.states.length ≤ 20
  · have d1 : ((20 : Int) < (p.states.length : Int)) = False := by simp; omega
    by_cases c2 : q.states.length ≤ 20
    · have d2 : ((20 : Int) < (q.states.length : Int)) = False := by simp; omega
      have HP := Lib.hid h
      have HQ := Lib.hid h'
      have HFP := Lib.hid hfp
      have HFQ := Lib.hid hfq
      clear h h' hfp hfq
      go_enter Try.func4, Try.ntmps4
      go_wp2
      clear d1 d2
      obtain ⟨W1, hW⟩ : ∃ W1, W1 = (((w.alloc (Obj.cells #[Value.slice v.A p.states.length v.c, Value.slice v.A' p.water.length v.c'] 29)).alloc (Obj.cells #[Value.slice v'.A q.states.length v'.c, Value.slice v'.A' q.water.length v'.c'] 29)).alloc (Obj.cells #[Value.slice v.A p.states.length v.c, Value.slice v.A' p.water.length v.c', Value.slice v'.A q.states.length v'.c, Value.slice v'.A' q.water.length v'.c'] 29)) := ⟨_, rfl⟩
      rw [← hW]
      have hb0 : Below w.heap.size w W1 := by rw [hW]; exact (((Below.refl _ _).alloc (Nat.le_refl _) _).alloc (by simp) _).alloc (by simp; omega) _
      have hs1 : W1.heap.size = w.heap.size + 3 := by rw [hW]; simp
      have kp : W1.heap[w.heap.size]? = some (.cells #[Value.slice v.A p.states.length v.c, Value.slice v.A' p.water.length v.c'] 29 (0, 0)) := by
        rw [hW]
        exact (Below.heap_alloc _ _ _ (by rw [size_alloc2]; omega)).trans (heap_alloc2_old w _ _)
      have kq : W1.heap[w.heap.size + 1]? = some (.cells #[Value.slice v'.A q.states.length v'.c, Value.slice v'.A' q.water.length v'.c'] 29 (0, 0)) := by
        rw [hW]
        exact (Below.heap_alloc _ _ _ (by rw [size_alloc2]; omega)).trans (heap_alloc2_new w _ _)
      have kx : W1.heap[w.heap.size + 2]? = some (.cells #[Value.slice v.A p.states.length v.c, Value.slice v.A' p.water.length v.c', Value.slice v'.A q.states.length v'.c, Value.slice v'.A' q.water.length v'.c'] 29 (0, 0)) := by
        rw [hW]
        have h1 := heap_alloc_new ((w.alloc (Obj.cells #[Value.slice v.A p.states.length v.c, Value.slice v.A' p.water.length v.c'] 29)).alloc (Obj.cells #[Value.slice v'.A q.states.length v'.c, Value.slice v'.A' q.water.length v'.c'] 29)) (.cells #[Value.slice v.A p.states.length v.c, Value.slice v.A' p.water.length v.c', Value.slice v'.A q.states.length v'.c, Value.slice v'.A' q.water.length v'.c'] 29)
        rwa [size_alloc2] at h1
      clear hW
      have HB0 := Lib.hid hb0
      have HS1 := Lib.hid hs1
      have KP := Lib.hid kp
      have KQ := Lib.hid kq
      have KX : Hid (∀ wr, From W1 wr → ∀ k, k < 2 → ∃ (vx : PlanV) (px : Plan), (loadVar 29 ⟨w.heap.size + 2, k * 2, none⟩).run Try.prog wr = .ok (.agg #[.slice vx.A px.states.length vx.c, .slice vx.A' px.water.length vx.c']) wr ∧ RdPlan wr wr.heap.size vx px ∧ px.states.length ≤ 20 ∧ ((k = 0 ∧ px = p) ∨ (k = 1 ∧ px = q))) := fun wr hb k hk => by
        have hx := (hb.block _ (by rw [hs1]; omega)).trans kx
        have hbw := hb0.trans (hb.mono hb0.size)
        rcases (by omega : k = 0 ∨ k = 1) with rfl | rfl
        · refine ⟨v, p, run_load_cells (cs := [.slice v.A p.states.length v.c, .slice v.A' p.water.length v.c']) plan_row rfl (fun j u hu => ?_), (HP.out.below hbw).more hbw.size, c1, .inl ⟨rfl, rfl⟩⟩
          rw [Addr.add_lit, cell_of_row wr (w.heap.size + 2) _ _ _ _ hx]
          match j, hu with
          | 0, hu => simpa using hu
          | 1, hu => simpa using hu
        · refine ⟨v', q, run_load_cells (cs := [.slice v'.A q.states.length v'.c, .slice v'.A' q.water.length v'.c']) plan_row rfl (fun j u hu => ?_), (HQ.out.below hbw).more hbw.size, c2, .inr ⟨rfl, rfl⟩⟩
          rw [Addr.add_lit, cell_of_row wr (w.heap.size + 2) _ _ _ _ hx]
          match j, hu with
          | 0, hu => simpa using hu
          | 1, hu => simpa using hu
      clear hb0 hs1 kp kq kx
      go_loopw [28] (fun i wr => ∃ k : Nat, k ≤ 2 ∧ i = .int .i64 k ∧ From W1 wr ∧ (0 < k → ∀ l ∈ p.states, l.length ≤ 50) ∧ (1 < k → ∀ l ∈ q.states, l.length ≤ 50)) (fun i _ => 2 - (intOf i).toNat)
      case atStart => exact ⟨0, by omega, rfl, Below.refl _ _, fun h => by omega, fun h => by omega⟩
      case round =>
        obtain ⟨k, hk, rfl, hbr, hpk, hqk⟩ := hrel
        by_cases hlt : k < 2
        · obtain ⟨⟨X, cX, X', cX'⟩, px, hld, hrd, hpx, hor⟩ := KX.out wr hbr k hlt
          simp only at hld
          have HL := Lib.hid hld
          have HRD := Lib.hid hrd.1
          have HPK := Lib.hid hpk
          have HQK := Lib.hid hqk
          have HOR := Lib.hid hor
          have HBR := Lib.hid hbr
          clear hld hrd hpk hqk hor hbr
          go_wp2_with (first
            | ((with_reducible refine g_ld 29 ?_); refine wpList_ld rfl _ _ rfl _ rfl _ (by first | exact HL.out | simpa using HL.out) ?_))
          obtain ⟨wo, hwo⟩ : ∃ wo : World, wo = wr.alloc (Obj.cells #[Value.slice X px.states.length cX, Value.slice X' px.water.length cX'] 29) := ⟨_, rfl⟩
          have HBO : Hid (From wr wo) := by rw [hwo]; exact (Below.refl _ _).alloc (Nat.le_refl _) _
          rw [← hwo]
          clear hwo HL
          go_loop [35] (fun i => ∃ j : Nat, j ≤ px.states.length ∧ i = .int .i64 j ∧ ∀ t, (h : t < j) → (h2 : t < px.states.length) → px.states[t].length ≤ 50) (fun i => px.states.length - (intOf i).toNat)
          case atStart => exact ⟨0, by omega, rfl, fun t h => by omega⟩
          case round =>
            obtain ⟨j, hj, rfl, hall⟩ := hrel
            have HALL := Lib.hid hall
            clear hall
            by_cases hjt : j < px.states.length
            · obtain ⟨b, off, Ai, ci, rfl, hblt, _, _, hldj⟩ := HRD.out.ld Try.underlying31 (plainStates_get px.states j hjt)
              have HLJ := Lib.hid (hldj wo HBO.out)
              clear hldj
              by_cases hsm : px.states[j].length ≤ 50
              · have d3 : ((50 : Int) < (px.states[j].length : Int)) = False := by simp; omega
                go_wp2_with (first
                  | ((with_reducible refine g_ld 31 ?_); refine wpList_ld rfl _ _ rfl _ rfl _ HLJ.out ?_))
                go_round
                case rel =>
                  refine ⟨j + 1, by omega, by go_num, fun t h h2 => ?_⟩
                  by_cases e : t < j
                  · exact HALL.out t e h2
                  · obtain rfl : t = j := by omega
                    exact hsm
                case measure => simp [intOf]; omega
              · have d3 : ((50 : Int) < (px.states[j].length : Int)) = True := by simp; omega
                go_wp2_with (first
                  | ((with_reducible refine g_ld 31 ?_); refine wpList_ld rfl _ _ rfl _ rfl _ HLJ.out ?_)
                  | (go_at_call 7; refine (HAW.out _).mono ?_; rintro e w2 ⟨rfl, hb2⟩))
                go_ret
                exact ⟨rfl, (HB0.out.trans ((HBR.out.trans (HBO.out.mono HBR.out.size)).mono HB0.out.size)).trans (hb2.mono (Nat.le_trans HB0.out.size (Nat.le_trans HBR.out.size HBO.out.size)))⟩
            · obtain rfl : j = px.states.length := by omega
              go_wp2
              go_roundw
              case rel =>
                refine ⟨k + 1, by omega, by go_num, HBR.out.trans (HBO.out.mono HBR.out.size), fun _ => ?_, fun hk1 => ?_⟩
                · rcases HOR.out with ⟨rfl, rfl⟩ | ⟨rfl, _⟩
                  · intro l hl
                    obtain ⟨t, ht, rfl⟩ := List.mem_iff_getElem.1 hl
                    exact HALL.out t ht ht
                  · exact HPK.out (by omega)
                · rcases HOR.out with ⟨rfl, _⟩ | ⟨_, rfl⟩
                  · omega
                  · intro l hl
                    obtain ⟨t, ht, rfl⟩ := List.mem_iff_getElem.1 hl
                    exact HALL.out t ht ht
              case measure => simp [intOf]; omega
        · obtain rfl : k = 2 := by omega
          have HPK : Hid (∀ l ∈ p.states, l.length ≤ 50) := hpk (by omega)
          have HQK : Hid (∀ l ∈ q.states, l.length ≤ 50) := hqk (by omega)
          have HBR : Hid (From W1 wr) := hbr
          clear hpk hqk hbr KX
          go_wp2
          have hbw := HB0.out.trans (HBR.out.mono HB0.out.size)
          have hpr : wr.heap[w.heap.size]? = some (.cells #[.slice v.A p.states.length v.c, .slice v.A' p.water.length v.c'] 29 (0, 0)) := (HBR.out.block _ (by have := HS1.out; omega)).trans KP.out
          have hqr : wr.heap[w.heap.size + 1]? = some (.cells #[.slice v'.A q.states.length v'.c, .slice v'.A' q.water.length v'.c'] 29 (0, 0)) := (HBR.out.block _ (by have := HS1.out; omega)).trans KQ.out
          refine region_same (p := p) (q := q) (vp := v) (vq := v') (gp := w.heap.size) (gq := w.heap.size + 1) rfl (by kernel_rfl) (by kernel_rfl) (by kernel_rfl) (by kernel_rfl) (by kernel_rfl) rfl rfl hpr hqr ((HP.out.below hbw).more hbw.size) ((HQ.out.below hbw).more hbw.size) HFP.out HFQ.out ?_ (by simp) (by decide)
          intro u u' g g' w1 hb1 hg hg' hl1 hl2
          have hbw1 := hbw.trans (hb1.mono hbw.size)
          have HBW1 := Lib.hid hbw1
          have hgl := (Array.getElem?_eq_some_iff.1 hg).1
          have hgl' := (Array.getElem?_eq_some_iff.1 hg').1
          have HG : Hid (∀ w', From w1 w' → (loadVar 29 ⟨g, 0, none⟩).run Try.prog w' = .ok (.agg #[.slice u.A p.states.length u.c, .slice u.A' p.water.length u.c']) w') := fun w' h => plan_ld ((h.block _ hgl).trans hg)
          have HG' : Hid (∀ w', From w1 w' → (loadVar 29 ⟨g', 0, none⟩).run Try.prog w' = .ok (.agg #[.slice u'.A q.states.length u'.c, .slice u'.A' q.water.length u'.c']) w') := fun w' h => plan_ld ((h.block _ hgl').trans hg')
          have HP0 : Hid (∀ w', From w1 w' → (loadVar 29 ⟨w.heap.size, 0, none⟩).run Try.prog w' = .ok (.agg #[.slice v.A p.states.length v.c, .slice v.A' p.water.length v.c']) w') := fun w' h => plan_ld (((hb1.trans (h.mono hb1.size)).block _ (Array.getElem?_eq_some_iff.1 hpr).1).trans hpr)
          have HQ0 : Hid (∀ w', From w1 w' → (loadVar 29 ⟨w.heap.size + 1, 0, none⟩).run Try.prog w' = .ok (.agg #[.slice v'.A q.states.length v'.c, .slice v'.A' q.water.length v'.c']) w') := fun w' h => plan_ld (((hb1.trans (h.mono hb1.size)).block _ (Array.getElem?_eq_some_iff.1 hqr).1).trans hqr)
          have HAL : Hid (∀ w', From w1 w' → Calls Try.prog 9 #[.agg #[.slice u.A p.states.length u.c, .slice u.A' p.water.length u.c'], .agg #[.slice u'.A q.states.length u'.c, .slice u'.A' q.water.length u'.c'], .int .i64 frm] w' fun e w2 => e = .returned (.bool true) ∧ Below w'.heap.size w' w2) := fun w' h =>
            law_alike u u' p q frm w' hf1 hf2 ((hl1.plain.below h).more h.size) ((hl2.plain.below h).more h.size) (by omega) (by omega) (fun l hl => by have := HPK.out l hl; omega) (fun l hl => by have := HQK.out l hl; omega)
          have HK1 : Hid (∀ w', From w1 w' → Calls Try.prog 10 #[.agg #[.slice u.A p.states.length u.c, .slice u.A' p.water.length u.c'], .agg #[.slice v.A p.states.length v.c, .slice v.A' p.water.length v.c']] w' fun e w2 => e = .returned (.bool true) ∧ Below w'.heap.size w' w2) := fun w' h =>
            keptPlan u v p w' ((hl1.below h).more h.size) ((HP.out.below (hbw1.trans (h.mono hbw1.size))).more (hbw1.trans (h.mono hbw1.size)).size) HFP.out
          have HK2 : Hid (∀ w', From w1 w' → Calls Try.prog 10 #[.agg #[.slice u'.A q.states.length u'.c, .slice u'.A' q.water.length u'.c'], .agg #[.slice v'.A q.states.length v'.c, .slice v'.A' q.water.length v'.c']] w' fun e w2 => e = .returned (.bool true) ∧ Below w'.heap.size w' w2) := fun w' h =>
            keptPlan u' v' q w' ((hl2.below h).more h.size) ((HQ.out.below (hbw1.trans (h.mono hbw1.size))).more (hbw1.trans (h.mono hbw1.size)).size) HFQ.out
          have N0 : Hid (From w1 w1) := Below.refl _ _
          clear hbw hpr hqr hb1 hg hg' hl1 hl2 hbw1 hgl hgl'
          simp only [Act.put, List.setIfInBounds_toArray, List.set_cons_succ, List.set_cons_zero]
          go_wp2_with (first
            | ((with_reducible refine g_ld 29 ?_); refine wpList_ld rfl _ _ rfl _ rfl _ (HG.out _ N0.out) ?_; have N1 := N0; clear N0)
            | ((with_reducible refine g_ld 29 ?_); refine wpList_ld rfl _ _ rfl _ rfl _ (HG'.out _ N1.out) ?_; have N2 := N1; clear N1)
            | (go_at_call 9; have NB := N2; refine (HAL.out _ NB.out).mono ?_; rintro e w2 ⟨rfl, hb2⟩; have N3 : Hid (From w1 w2) := NB.out.trans (hb2.mono NB.out.size); clear NB hb2 N2)
            | ((with_reducible refine g_ld 29 ?_); refine wpList_ldw rfl _ _ rfl _ rfl _ (HG.out _ N3.out) ?_; have N4 := N3; clear N3)
            | ((with_reducible refine g_ld 29 ?_); refine wpList_ldw rfl _ _ rfl _ rfl _ (HP0.out _ N4.out) ?_; have N5 := N4; clear N4)
            | (go_at_call 10; have NB := N5; refine (HK1.out _ NB.out).mono ?_; rintro e w2 ⟨rfl, hb2⟩; have N6 : Hid (From w1 w2) := NB.out.trans (hb2.mono NB.out.size); clear NB hb2 N5)
            | ((with_reducible refine g_ld 29 ?_); refine wpList_ldw rfl _ _ rfl _ rfl _ (HG'.out _ N6.out) ?_; have N7 := N6; clear N6)
            | ((with_reducible refine g_ld 29 ?_); refine wpList_ldw rfl _ _ rfl _ rfl _ (HQ0.out _ N7.out) ?_; have N8 := N7; clear N7)
            | (go_at_call 10; have NB := N8; refine (HK2.out _ NB.out).mono ?_; rintro e w2 ⟨rfl, hb2⟩; have N9 : Hid (From w1 w2) := NB.out.trans (hb2.mono NB.out.size); clear NB hb2 N8)
            | (go_at_call 7; have NB := N9; refine (HAW.out _).mono ?_; rintro e w2 ⟨rfl, hb2⟩; have N10 : Hid (From w1 w2) := NB.out.trans (hb2.mono NB.out.size); clear NB hb2 N9))
          go_ret
          exact ⟨rfl, HBW1.out.trans (N10.out.mono HBW1.out.size)⟩
    · have d2 : ((20 : Int) < (q.states.length : Int)) = True := by simp; omega
      clear h h' hfp hfq
      go_enter Try.func4, Try.ntmps4
      go_wp2_with (go_at_call 7; refine (HAW.out _).mono ?_; rintro e w2 ⟨rfl, hb2⟩)
      go_ret
      exact ⟨rfl, (((Below.refl w.heap.size w).alloc (Nat.le_refl _) _).alloc (by simp) _).trans (hb2.mono (by rw [size_alloc2]; omega))⟩
  · have d1 : ((20 : Int) < (p.states.length : Int)) = True := by simp; omega
    clear h h' hfp hfq
    go_enter Try.func4, Try.ntmps4
    go_wp2_with (go_at_call 7; refine (HAW.out _).mono ?_; rintro e w2 ⟨rfl, hb2⟩)
    go_ret
    exact ⟨rfl, (((Below.refl w.heap.size w).alloc (Nat.le_refl _) _).alloc (by simp) _).trans (hb2.mono (by rw [size_alloc2]; omega))⟩
end Go.Proofs.Ytccjddbcdmgefaa
