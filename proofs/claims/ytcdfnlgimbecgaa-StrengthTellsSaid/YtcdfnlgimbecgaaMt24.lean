/-
  strength: what Curve returns, plain; its errors walked.
-/
import Derived.Test.YtcdfnlgimbecgaaMt23
namespace Go.Proofs.Ytcdfnlgimbecgaa
open Go.RowKit
structure Str where
 shear : FracV
 bend : FracV
deriving DecidableEq
def Str.cells (s : Str) : List Value := s.shear.cells ++ s.bend.cells
def kF (S : List Sec) : FracV := (divL (subL (ofL (addAll S).a1) (liftV (addAll S).a0 (ofL 0) (addAll S).a3 0)).1 (ofL (addAll S).a5)).1
def downF (S : List Sec) (W : Int) (k : FracV) (j : Nat) : FracV := (subL (ofL (addAll (S.take j)).a0) (liftV W k (addAll (S.take j)).a2 (addAll (S.take j)).a4)).1
def armF (l : List Frm) (S : List Sec) (W : Int) (k : FracV) (j : Nat) : FracV := (mulL (downF S W k j) (ofL (2 * frmX l j))).1
def twiceF (l : List Frm) (S : List Sec) (W : Int) (k : FracV) (j : Nat) : FracV := (subL (addL (armF l S W k j) (liftV W k (addAll (S.take j)).a3 (addAll (S.take j)).a5)).1 (ofL (addAll (S.take j)).a1)).1
def strF (l : List Frm) (S : List Sec) (W : Int) (k : FracV) (j : Nat) : Str := ⟨downF S W k j, (divL (twiceF l S W k j) (ofL 2)).1⟩
def curveS (l : List Frm) (S : List Sec) : List Str := (List.range l.length).map (strF l S (addAll S).a0 (kF S))
def curveF (l : List Frm) (ws : List Wt) : List Str × Int :=
 if !rightF l || ws.any wtBad then ([], 2)
 else if 3000 < ws.length then ([], 5)
 else match sectionsF l ws with
  | none => ([], 6)
  | some S => if 500000000 < (addAll S).a0 then ([], 3) else (curveS l S, 0)
def CurPost (w : World) (r : List Str × Int) (e : Ending) (w' : World) : Prop := ∃ A c, e = .returned (.tuple #[.slice A r.1.length c, .int .i64 r.2]) ∧ Rd w' w'.heap.size 34 A (r.1.map Str.cells) ∧ Below w.heap.size w w' ∧ r.1.length ≤ c ∧ ∀ a, A = some a → w.heap.size ≤ a.block
theorem CurPost.err {w w' : World} {e : Int} (hb : Below w.heap.size w w') : CurPost w ([], e) (.returned (.tuple #[.slice none 0 0, .int .i64 e])) w' := ⟨none, 0, rfl, Rd.nil _ _ _ _, hb, Nat.le_refl _, fun a h => by cases h⟩
theorem rightF_parts {l : List Frm} (h : rightF l = true) : 3 ≤ l.length ∧ l.length ≤ 30 ∧ okFrom none l = true ∧ shareF l = 10000 := by
 unfold rightF at h
 simp only [Bool.and_eq_true, decide_eq_true_eq] at h
 exact ⟨h.1.1.1.1.1.1, h.1.1.1.1.1.2, h.1.1.1.1.2, h.1.1.2⟩
theorem anyBad_false {ws : List Wt} (h : ws.any wtBad = false) : ∀ x ∈ ws, 0 ≤ x.kilos ∧ x.kilos ≤ 500000000 := by
 intro x hx
 rw [List.any_eq_false] at h
 have := h x hx
 unfold wtBad at this
 simpa using this
theorem frac_explicit (f : FracV) : ∃ (b : Bool) (c : Fin 16 → Int), f.cells = [.bool b, .int .u32 (c 0), .int .u32 (c 1), .int .u32 (c 2), .int .u32 (c 3), .int .u32 (c 4), .int .u32 (c 5), .int .u32 (c 6), .int .u32 (c 7), .int .u32 (c 8), .int .u32 (c 9), .int .u32 (c 10), .int .u32 (c 11), .int .u32 (c 12), .int .u32 (c 13), .int .u32 (c 14), .int .u32 (c 15)] := by
 obtain ⟨a0, a1, a2, a3, a4, a5, a6, a7, ha⟩ := list8 (pad_len B32 8 f.num)
 obtain ⟨d0, d1, d2, d3, d4, d5, d6, d7, hd⟩ := list8 (pad_len B32 8 f.den)
 refine ⟨f.neg, fun i => ([a0, a1, a2, a3, a4, a5, a6, a7, d0, d1, d2, d3, d4, d5, d6, d7].map (fun (n : Nat) => (n : Int))).getD i.val 0, ?_⟩
 unfold FracV.cells
 rw [ha, hd]
 rfl
set_option maxRecDepth 100000 in
set_option maxHeartbeats 4000000 in
theorem build_stress (f g : FracV) {a : Act} {s t : Nat} {d : Option Nat} {ty : TypeId} {pos : String} {aft : Array Edge} (w : World) (hx : a.eval (.tmp s) = f.val) (hy : a.eval (.tmp t) = g.val) :
 (execOp a.eval ⟨d, .build 40 #[(0, .tmp s), (1, .tmp t)], ty, pos, aft, none⟩).run Try.prog w = .ok (.value (.agg (f.cells ++ g.cells).toArray)) w := by
 obtain ⟨b, c, hf⟩ := frac_explicit f
 obtain ⟨b', c', hg⟩ := frac_explicit g
 unfold FracV.val at hx hy
 rw [hf] at hx
 rw [hg] at hy
 rw [hf, hg]
 clear hf hg
 have hx' : a.tmps[s]?.getD undef = _ := (by simp [Act.eval] : a.tmps[s]?.getD undef = a.eval (.tmp s)).trans hx
 have hy' : a.tmps[t]?.getD undef = _ := (by simp [Act.eval] : a.tmps[t]?.getD undef = a.eval (.tmp t)).trans hy
 go_simp
theorem Str.cells_len (s : Str) : s.cells.length = 34 := by simp [Str.cells, FracV.cells_len]
theorem Str.ones (s : Str) : ∀ u ∈ s.cells, u.oneCell' = true := by
 intro u hu
 rcases List.mem_append.1 hu with h | h
 · exact s.shear.ones u h
 · exact s.bend.ones u h
theorem stress_ei : EI Try.prog 26 40 34 136 := EI.mk (z := .agg (Str.cells ⟨zeroF, zeroF⟩).toArray) Try.underlying26 (by kernel_rfl) rfl (by omega)
set_option maxRecDepth 100000 in
set_option maxHeartbeats 4000000 in
theorem slice_stress (s : Str) {a : Act} {t : Nat} {d : Option Nat} {ty : TypeId} {pos : String} {aft : Array Edge} (w : World) (hx : a.eval (.tmp t) = .agg s.cells.toArray) :
 (execOp a.eval ⟨d, .buildSlice 26 1 #[(0, .tmp t)], ty, pos, aft, none⟩).run Try.prog w = .ok (.value (.slice (some ⟨w.heap.size, 0, none⟩) 1 1)) (w.alloc (.cells s.cells.toArray 40)) := by
 obtain ⟨b, c, hf⟩ := frac_explicit s.shear
 obtain ⟨b', c', hg⟩ := frac_explicit s.bend
 unfold Str.cells at hx ⊢
 rw [hf, hg] at hx ⊢
 clear hf hg
 have hx' : a.tmps[t]?.getD undef = _ := (by simp [Act.eval] : a.tmps[t]?.getD undef = a.eval (.tmp t)).trans hx
 go_simp
set_option maxRecDepth 100000 in
set_option maxHeartbeats 4000000 in
theorem region_out {id : Nat} {Q : Exit → Act → World → Prop} {a0 : Act} {w0 : World} {l : List Oper} {g19 g21 : Nat} {fd ft fo : FracV} {r1 : FracV × Int}
 {t0 t1 t2 t3 t4 t5 t6 t7 t8 t9 t10 t11 : TypeId} {x0 x1 x2 x3 x4 x5 x6 x7 x8 x9 x10 x11 : String} {e0 e1 e2 e3 e4 e5 e6 e7 e8 e9 e10 e11 : Array Edge}
 (hl : l = [⟨some 133, .move (.tmp 14), t0, x0, e0, none⟩, ⟨some 134, .load 37 (.tmp 19), t1, x1, e1, none⟩, ⟨some 135, .load 37 (.tmp 21), t2, x2, e2, none⟩, ⟨some 136, .call { callee := .value (.func 13), args := #[.const (.int .i64 2)], argTypes := #[3] }, t3, x3, e3, none⟩, ⟨some 137, .call { callee := .value (.func 45), args := #[.tmp 135, .tmp 136], argTypes := #[37, 37] }, t4, x4, e4, none⟩, ⟨some 138, .extract (.tmp 137) 0, t5, x5, e5, none⟩, ⟨some 139, .extract (.tmp 137) 1, t6, x6, e6, none⟩, ⟨some 140, .call { callee := .value (.func 44), args := #[.tmp 138, .tmp 139], argTypes := #[37, 31] }, t7, x7, e7, none⟩, ⟨some 141, .build 40 #[(0, .tmp 134), (1, .tmp 140)], t8, x8, e8, none⟩, ⟨some 142, .buildSlice 26 1 #[(0, .tmp 141)], t9, x9, e9, none⟩, ⟨some 143, .call { callee := .builtin .append, args := #[.tmp 133, .tmp 142], argTypes := #[26, 26] }, t10, x10, e10, none⟩, ⟨some 14, .assign (.tmp 143), t11, x11, e11, none⟩])
 (hO : orderB l 10 = true) (hd : dstsB l 10 a0.tmps.size = true) (hpre : preB l.toArray [(4, [2, 3]), (5, [4]), (6, [4]), (7, [5, 6]), (8, [1, 7]), (9, [8])] = true)
 {v14 : Value} (k14 : a0.tmps[14]? = some (v14)) (k19 : a0.tmps[19]? = some (Value.pointer (some ⟨g19, 0, none⟩))) (k21 : a0.tmps[21]? = some (Value.pointer (some ⟨g21, 0, none⟩)))
 (R9 : Value → World → Prop) (s9 : ∀ v w w', R9 v w → From w w' → R9 v w')
 (h1 : ∀ w, From w0 w → (loadVar 37 ⟨g19, 0, none⟩).run Try.prog w = .ok fd.val w)
 (h2 : ∀ w, From w0 w → (loadVar 37 ⟨g21, 0, none⟩).run Try.prog w = .ok ft.val w)
 (h3 : ∀ w , From w0 w → Calls Try.prog 13 #[Value.int .i64 2] w fun e w' => e = .returned (fo.val) ∧ From w w')
 (h4 : ∀ w , From w0 w → Calls Try.prog 45 #[ft.val, fo.val] w fun e w' => e = .returned (Value.tuple #[r1.1.val, .int .i64 r1.2]) ∧ From w w')
 (h7 : ∀ w , From w0 w → Calls Try.prog 44 #[r1.1.val, Value.int .i64 r1.2] w fun e w' => e = .returned (r1.1.val) ∧ From w w')
 (h8 : ∀ (a : Act) (w : World), a.eval (.tmp 134) = (fd.val) → a.eval (.tmp 140) = (r1.1.val) → (execOp a.eval ⟨some 141, .build 40 #[(0, .tmp 134), (1, .tmp 140)], t8, x8, e8, none⟩).run Try.prog w = .ok (.value (Value.agg (Str.cells ⟨fd, r1.1⟩).toArray)) w)
 (h9 : ∀ (a : Act) (w : World), From w0 w → a.eval (.tmp 141) = (Value.agg (Str.cells ⟨fd, r1.1⟩).toArray) → ∃ v w', (execOp a.eval ⟨some 142, .buildSlice 26 1 #[(0, .tmp 141)], t9, x9, e9, none⟩).run Try.prog w = .ok (.value v) w' ∧ From w w' ∧ R9 v w')
 (hK : ∀ u9 w, From w0 w → R9 u9 w → wpList Try.prog l.toArray Q (l.drop 10) ((((((((((a0.put (some 133) (v14)).put (some 134) (fd.val)).put (some 135) (ft.val)).put (some 136) (fo.val)).put (some 137) (Value.tuple #[r1.1.val, .int .i64 r1.2])).put (some 138) (r1.1.val)).put (some 139) (Value.int .i64 r1.2)).put (some 140) (r1.1.val)).put (some 141) (Value.agg (Str.cells ⟨fd, r1.1⟩).toArray)).put (some 142) u9) w) :
 (Code.region id l.toArray true).wp Try.prog Q a0 w0 := by
 have hlen : l.length = 12 := by rw [hl]; rfl
 have hpz := List.all_eq_true.1 hpre
 refine wp_region_keep 10 (fun i v w => match i with
  | 0 => v = (v14)
  | 1 => v = (fd.val)
  | 2 => v = (ft.val)
  | 3 => v = (fo.val)
  | 4 => v = (Value.tuple #[r1.1.val, .int .i64 r1.2])
  | 5 => v = (r1.1.val)
  | 6 => v = (Value.int .i64 r1.2)
  | 7 => v = (r1.1.val)
  | 8 => v = (Value.agg (Str.cells ⟨fd, r1.1⟩).toArray)
  | 9 => R9 v w
  | _ => True) ?_ (by kernel_rfl) hO (by omega) hd ?_ ?_
 · intro i v w w' h hb
   match i, h with
   | 0, h => exact h
   | 1, h => exact h
   | 2, h => exact h
   | 3, h => exact h
   | 4, h => exact h
   | 5, h => exact h
   | 6, h => exact h
   | 7, h => exact h
   | 8, h => exact h
   | 9, h => exact s9 v w w' h hb
   | _ + 10, _ => trivial
 · intro i o hi ho a w hb hval hold
   have ho' : l.toArray[i]? = some o := by simpa using ho
   have hedge : ∀ j, (∃ js, (i, js) ∈ ([(4, [2, 3]), (5, [4]), (6, [4]), (7, [5, 6]), (8, [1, 7]), (9, [8])] : List (Nat × List Nat)) ∧ j ∈ js) → (o.after.any fun e => Region.binds .any e && e.on == j) = true := fun j ⟨_, hm, hj⟩ => by
    have h1 := List.all_eq_true.1 (hpz _ hm) j hj
    rw [ho'] at h1
    simpa using h1
   have hcase : i = 0 ∨ i = 1 ∨ i = 2 ∨ i = 3 ∨ i = 4 ∨ i = 5 ∨ i = 6 ∨ i = 7 ∨ i = 8 ∨ i = 9 := by omega
   rcases hcase with rfl | rfl | rfl | rfl | rfl | rfl | rfl | rfl | rfl | rfl
   · have b14 := eval_get ((hold 14 (by rw [hl]; rfl)).trans k14)
     rw [hl] at ho
     injection ho with ho
     subst ho
     exact wpOp_value ho' rfl (w' := w) (by go_simp) ⟨_, rfl, Below.refl _ _, rfl⟩
   · have b19 := eval_get ((hold 19 (by rw [hl]; rfl)).trans k19)
     rw [hl] at ho
     injection ho with ho
     subst ho
     exact wpOp_load ho' rfl rfl b19 (h1 w hb) ⟨_, rfl, Below.refl _ _, rfl⟩
   · have b21 := eval_get ((hold 21 (by rw [hl]; rfl)).trans k21)
     rw [hl] at ho
     injection ho with ho
     subst ho
     exact wpOp_load ho' rfl rfl b21 (h2 w hb) ⟨_, rfl, Below.refl _ _, rfl⟩
   · rw [hl] at ho
     injection ho with ho
     subst ho
     refine wpOp_call ho' rfl rfl (args := #[Value.int .i64 2]) (by simp [eval_const]) (cf13 _ _) ((h3 w  hb ).mono ?_)
     rintro e w' ⟨rfl, hb2⟩
     exact ⟨_, rfl, _, rfl, hb2, rfl⟩
   · obtain ⟨_, hy2, rfl⟩ := hval 2 _ 135 (by omega) (by rw [hl]; rfl) rfl (hedge 2 (by simp))
     have b135 := eval_get hy2
     obtain ⟨_, hy3, rfl⟩ := hval 3 _ 136 (by omega) (by rw [hl]; rfl) rfl (hedge 3 (by simp))
     have b136 := eval_get hy3
     rw [hl] at ho
     injection ho with ho
     subst ho
     refine wpOp_call ho' rfl rfl (args := #[ft.val, fo.val]) (by simp [b135, b136]) (cf45 _ _) ((h4 w  hb ).mono ?_)
     rintro e w' ⟨rfl, hb2⟩
     exact ⟨_, rfl, _, rfl, hb2, rfl⟩
   · obtain ⟨_, hy4, rfl⟩ := hval 4 _ 137 (by omega) (by rw [hl]; rfl) rfl (hedge 4 (by simp))
     have b137 := eval_get hy4
     rw [hl] at ho
     injection ho with ho
     subst ho
     exact wpOp_value ho' rfl (w' := w) (by go_simp) ⟨_, rfl, Below.refl _ _, rfl⟩
   · obtain ⟨_, hy4, rfl⟩ := hval 4 _ 137 (by omega) (by rw [hl]; rfl) rfl (hedge 4 (by simp))
     have b137 := eval_get hy4
     rw [hl] at ho
     injection ho with ho
     subst ho
     exact wpOp_value ho' rfl (w' := w) (by go_simp) ⟨_, rfl, Below.refl _ _, rfl⟩
   · obtain ⟨_, hy5, rfl⟩ := hval 5 _ 138 (by omega) (by rw [hl]; rfl) rfl (hedge 5 (by simp))
     have b138 := eval_get hy5
     obtain ⟨_, hy6, rfl⟩ := hval 6 _ 139 (by omega) (by rw [hl]; rfl) rfl (hedge 6 (by simp))
     have b139 := eval_get hy6
     rw [hl] at ho
     injection ho with ho
     subst ho
     refine wpOp_call ho' rfl rfl (args := #[r1.1.val, Value.int .i64 r1.2]) (by simp [b138, b139]) (cf44 _ _) ((h7 w  hb ).mono ?_)
     rintro e w' ⟨rfl, hb2⟩
     exact ⟨_, rfl, _, rfl, hb2, rfl⟩
   · obtain ⟨_, hy1, rfl⟩ := hval 1 _ 134 (by omega) (by rw [hl]; rfl) rfl (hedge 1 (by simp))
     have b134 := eval_get hy1
     obtain ⟨_, hy7, rfl⟩ := hval 7 _ 140 (by omega) (by rw [hl]; rfl) rfl (hedge 7 (by simp))
     have b140 := eval_get hy7
     rw [hl] at ho
     injection ho with ho
     subst ho
     exact wpOp_value ho' rfl (h8 a w b134 b140) ⟨_, rfl, Below.refl _ _, rfl⟩
   · obtain ⟨_, hy8, rfl⟩ := hval 8 _ 141 (by omega) (by rw [hl]; rfl) rfl (hedge 8 (by simp))
     have b141 := eval_get hy8
     rw [hl] at ho
     injection ho with ho
     subst ho
     obtain ⟨v, w', hrun, hb2, hr2⟩ := h9 a w hb b141
     exact wpOp_value ho' rfl hrun ⟨_, rfl, hb2, hr2⟩
 · intro val w hb hrows
   have q9 : R9 (val 9) w := hrows 9 (by omega)
   have hF := hK (val 9) w hb q9
   subst hl
   simp only [List.take_succ_cons, List.take_zero, putAll, Nat.zero_add, Nat.reduceAdd, show val 0 = _ from hrows 0 (by omega), show val 1 = _ from hrows 1 (by omega), show val 2 = _ from hrows 2 (by omega), show val 3 = _ from hrows 3 (by omega), show val 4 = _ from hrows 4 (by omega), show val 5 = _ from hrows 5 (by omega), show val 6 = _ from hrows 6 (by omega), show val 7 = _ from hrows 7 (by omega), show val 8 = _ from hrows 8 (by omega)]
   exact hF
end Go.Proofs.Ytcdfnlgimbecgaa
