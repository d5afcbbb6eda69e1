/-
  strength: are all weights of a kind (slices.ContainsFunc); sure.
-/
import Derived.Test.YtcdfnlgimbecgaaMt21
namespace Go.Proofs.Ytcdfnlgimbecgaa
open Go.RowKit
def Tells {α : Type} (P : Program) (w : World) (fn : FuncId) (caps : Array Value) (val : α → Value) (p : α → Bool) (l : List α) : Prop :=
 ∀ x ∈ l, ∀ w', Below w.heap.size w w' → Calls P fn (#[val x] ++ caps) w' fun e w2 => e = .returned (.bool (p x)) ∧ Below w'.heap.size w' w2
def idx {α : Type} (p : α → Bool) (l : List α) : Int := match l.findIdx? p with | some i => i | none => -1
theorem idx_found {α : Type} {p : α → Bool} {l : List α} {k : Nat} (hk : k < l.length) (hj : ∀ j, (h : j < k) → p l[j] = false) (hx : p l[k] = true) : idx p l = k := by
 have : l.findIdx? p = some k := by
  rw [List.findIdx?_eq_some_iff_getElem]
  exact ⟨hk, hx, fun j hjk => by simp [hj j hjk]⟩
 unfold idx
 rw [this]
theorem idx_none {α : Type} {p : α → Bool} {l : List α} (hj : ∀ j, (h : j < l.length) → p l[j] = false) : idx p l = -1 := by
 have : l.findIdx? p = none := by
  rw [List.findIdx?_eq_none_iff]
  intro x hx
  obtain ⟨j, hj', rfl⟩ := List.mem_iff_getElem.1 hx
  exact hj j hj'
 unfold idx
 rw [this]
theorem idx_cases {α : Type} (p : α → Bool) (l : List α) : (idx p l = -1 ∧ ∀ x ∈ l, p x = false) ∨ ∃ k, ∃ h : k < l.length, idx p l = k ∧ p l[k] = true ∧ l.find? p = some l[k] := by
 unfold idx
 cases hf : l.findIdx? p with
 | none => exact .inl ⟨rfl, by simpa using hf⟩
 | some k =>
  rw [List.findIdx?_eq_some_iff_getElem] at hf
  obtain ⟨h, h1, h2⟩ := hf
  refine .inr ⟨k, h, rfl, h1, ?_⟩
  rw [List.find?_eq_some_iff_getElem]
  exact ⟨h1, k, h, rfl, fun j hj => by have := h2 j hj; simpa using this⟩
set_option maxHeartbeats 1000000 in
theorem indexWt (A : Option Addr) (c : Nat) (l : List Wt) (n : Nat) (hn : n = l.length) (fn : FuncId) (caps : Array Value) (p : Wt → Bool) (w : World) (hA : Rd w w.heap.size 2 A (l.map Wt.cells)) (hl : l.length ≤ 1000000000000) (hcf : ∀ w args, (callFunc fn args).run Try.prog w = .ok (.enter fn args) w) (hf : Tells Try.prog w fn caps Wt.val p l) :
 Calls Try.prog 80 #[.slice A n c, .func (.func fn) #[] caps] w fun e w' => e = .returned (.int .i64 (idx p l)) ∧ Below w.heap.size w w' := by
 subst hn
 go_enter Try.func80, Try.ntmps80
 go_wp2
 have HF := Lib.hid hf
 clear hf
 go_loopw [5, 8] (fun _ i wr => ∃ k : Nat, k ≤ l.length ∧ i = .int .i64 k ∧ (∀ j, (h : j < k) → (h2 : j < l.length) → p l[j] = false) ∧ Below w.heap.size w wr) (fun _ i _ => l.length - (intOf i).toNat)
 case atStart => exact ⟨0, by omega, rfl, by omega, Below.refl _ _⟩
 case round =>
  obtain ⟨k, hk, rfl, hj, hb⟩ := hrel
  have HJ := Lib.hid hj
  clear hj
  by_cases hlt : k < l.length
  · obtain ⟨b, off, rfl, hb1, hld⟩ := Wt.ld hA (k := k) (b := l[k]) (by simp [hlt])
    have HL := Lib.hid hld
    clear hld
    go_wp2_with (first
     | (refine wpList_ld rfl _ _ rfl _ rfl _ (HL.out _ hb) ?_)
     | (refine (HF.out l[k] (List.getElem_mem hlt) _ hb).mono ?_; rintro e w' ⟨rfl, hb3⟩))
    · have ht : p l[k] = true := by assumption
      go_ret
      exact ⟨by rw [idx_found hlt (fun j h => HJ.out j h (by omega)) ht]; rfl, hb.trans (hb3.mono hb.size)⟩
    · have hf' : p l[k] = false := by assumption
      go_roundw
      case rel =>
       refine ⟨k + 1, by omega, by go_num, fun j h h2 => ?_, hb.trans (hb3.mono hb.size)⟩
       rcases Nat.lt_or_ge j k with h3 | h3
       · exact HJ.out j h3 h2
       · obtain rfl : j = k := by omega
         exact hf'
      case measure => simp [intOf]; omega
  · obtain rfl : k = l.length := by omega
    have HI := Lib.hid (idx_none (fun j h => HJ.out j h h))
    go_wp2
    go_ret
    exact ⟨by rw [HI.out]; rfl, hb⟩
theorem cf38 (w : World) (args : Array Value) : (callFunc 38 args).run Try.prog w = .ok (.enter 38 args) w := by
 go_simp
def wtBad (u : Wt) : Bool := !decide (0 ≤ u.kilos ∧ u.kilos ≤ 500000000)
theorem st_bad (u : Wt) (w : World) : Calls Try.prog 38 #[u.val] w fun e w' => e = .returned (.bool (wtBad u)) ∧ Below w.heap.size w w' := by
 obtain ⟨b, hb⟩ : ∃ b, b = decide (0 ≤ u.kilos ∧ u.kilos ≤ 500000000) := ⟨_, rfl⟩
 have hv : wtBad u = !b := by unfold wtBad; rw [hb]
 have HW := Lib.hid (fun w1 => st_within u.kilos 0 500000000 w1)
 rw [← hb] at HW
 rw [hv]
 clear hb hv
 go_enter Try.func38, Try.ntmps38
 go_wp2_with (go_at_call 39; refine (HW.out _).mono ?_; rintro e w2 ⟨rfl, hw⟩; rw [hw]; clear hw w2)
 go_ret
 exact ⟨rfl, (Below.refl _ _).alloc (Nat.le_refl _) _⟩
theorem st_contains (A : Option Addr) (c n : Nat) (l : List Wt) (hn : n = l.length) (w : World) (h : Rd w w.heap.size 2 A (l.map Wt.cells)) (hl : l.length ≤ 1000000000000) :
 Calls Try.prog 37 #[.slice A n c, .func (.func 38) #[] #[]] w fun e w' => e = .returned (.bool (l.any wtBad)) ∧ Below w.heap.size w w' := by
 have HI := Lib.hid (indexWt A c l n hn 38 #[] wtBad w h hl cf38 (fun x _ w' _ => st_bad x w'))
 obtain ⟨z, hz⟩ : ∃ z, z = idx wtBad l := ⟨_, rfl⟩
 rw [← hz] at HI
 have hv : l.any wtBad = decide (0 ≤ z) := by
  rw [hz]
  rcases idx_cases wtBad l with ⟨h1, h2⟩ | ⟨k, hk, h1, h2, _⟩
  · rw [h1]
    have h3 : l.any wtBad = false := by
     rw [List.any_eq_false]
     intro x hx
     simp [h2 x hx]
    rw [h3]
    rfl
  · rw [h1]
    have h3 : l.any wtBad = true := by
     rw [List.any_eq_true]
     exact ⟨_, List.getElem_mem hk, h2⟩
    rw [h3]
    simp
 rw [hv]
 clear h hn hz hv
 go_enter Try.func37, Try.ntmps37
 go_wp2_with (go_at_call 80; refine (HI.out).mono ?_; rintro e w2 ⟨rfl, hb2⟩)
 go_ret
 exact ⟨by first | rfl | simp, hb2⟩
set_option maxRecDepth 100000 in
set_option maxHeartbeats 4000000 in
theorem st_sure (f : FracV) (e : Int) (w : World) : Calls Try.prog 44 #[f.val, .int .i64 e] w fun e' w' => e' = .returned f.val ∧ Below w.heap.size w w' := by
 have hb1 : Below w.heap.size w (w.alloc (.cells f.cells.toArray 37)) := (Below.refl _ _).alloc (Nat.le_refl _) _
 have HB : Hid (Below w.heap.size w ((w.alloc (.cells f.cells.toArray 37)).alloc (.cells zeroF.cells.toArray 37))) := hb1.alloc (by simp) _
 have HF : Hid (FB ((w.alloc (.cells f.cells.toArray 37)).alloc (.cells zeroF.cells.toArray 37)) w.heap.size f) := (FB.new w f).below ((Below.refl _ _).alloc (Nat.le_refl _) _) (FB.new w f).lt
 have HR : Hid (FB ((w.alloc (.cells f.cells.toArray 37)).alloc (.cells zeroF.cells.toArray 37)) (w.heap.size + 1) zeroF) := by
  have h := FB.new (w.alloc (.cells f.cells.toArray 37)) zeroF
  have e : (w.alloc (.cells f.cells.toArray 37)).heap.size = w.heap.size + 1 := by simp
  rw [e] at h
  exact h
 clear hb1
 unfold FracV.val
 go_enter Try.func44, Try.ntmps44
 go_wp2_with (first
  | ((with_reducible refine g_ld 37 ?_); refine wpList_ld rfl _ _ rfl _ rfl _ HF.out.ld ?_)
  | ((with_reducible refine g_st 37 ?_); refine wpList_stF (f := f) rfl _ _ rfl rfl rfl HR.out ?_; intro w5 hfb5 hgr5))
 refine bodyPost_ret (results_frac rfl _ rfl hfb5) rfl ⟨rfl, HB.out.grown hgr5 HB.out.size (by intro q hq; injection hq with hq; omega)⟩
theorem cf13 (w : World) (args : Array Value) : (callFunc 13 args).run Try.prog w = .ok (.enter 13 args) w := by
 go_simp
theorem cf18 (w : World) (args : Array Value) : (callFunc 18 args).run Try.prog w = .ok (.enter 18 args) w := by
 go_simp
theorem cf17 (w : World) (args : Array Value) : (callFunc 17 args).run Try.prog w = .ok (.enter 17 args) w := by
 go_simp
theorem cf16 (w : World) (args : Array Value) : (callFunc 16 args).run Try.prog w = .ok (.enter 16 args) w := by
 go_simp
theorem cf45 (w : World) (args : Array Value) : (callFunc 45 args).run Try.prog w = .ok (.enter 45 args) w := by
 go_simp
theorem cf44 (w : World) (args : Array Value) : (callFunc 44 args).run Try.prog w = .ok (.enter 44 args) w := by
 go_simp
set_option maxRecDepth 100000 in
set_option maxHeartbeats 4000000 in
theorem region_lifts {id : Nat} {Q : Exit → Act → World → Prop} {a0 : Act} {w0 : World} {l : List Oper} {ga gk : Nat} {fa fk fo : FracV} {r1 r2 : FracV × Int}
 {t0 t1 t2 t3 t4 t5 t6 t7 t8 t9 t10 t11 t12 : TypeId} {x0 x1 x2 x3 x4 x5 x6 x7 x8 x9 x10 x11 x12 : String} {e0 e1 e2 e3 e4 e5 e6 e7 e8 e9 e10 e11 e12 : Array Edge}
 (hl : l = [⟨some 16, .load 37 (.tmp 7), t0, x0, e0, none⟩, ⟨some 17, .load 37 (.tmp 3), t1, x1, e1, none⟩, ⟨some 18, .move (.tmp 1), t2, x2, e2, none⟩, ⟨some 19, .call { callee := .value (.func 13), args := #[.tmp 18], argTypes := #[3] }, t3, x3, e3, none⟩, ⟨some 20, .call { callee := .value (.func 18), args := #[.tmp 17, .tmp 19], argTypes := #[37, 37] }, t4, x4, e4, none⟩, ⟨some 21, .extract (.tmp 20) 0, t5, x5, e5, none⟩, ⟨some 22, .extract (.tmp 20) 1, t6, x6, e6, none⟩, ⟨some 23, .call { callee := .value (.func 44), args := #[.tmp 21, .tmp 22], argTypes := #[37, 31] }, t7, x7, e7, none⟩, ⟨some 24, .call { callee := .value (.func 17), args := #[.tmp 16, .tmp 23], argTypes := #[37, 37] }, t8, x8, e8, none⟩, ⟨some 25, .extract (.tmp 24) 0, t9, x9, e9, none⟩, ⟨some 26, .extract (.tmp 24) 1, t10, x10, e10, none⟩, ⟨some 27, .call { callee := .value (.func 44), args := #[.tmp 25, .tmp 26], argTypes := #[37, 31] }, t11, x11, e11, none⟩, ⟨none, .store 37 (.tmp 6) (.tmp 27), t12, x12, e12, none⟩])
 (hO : orderB l 12 = true) (hd : dstsB l 12 a0.tmps.size = true) (hpre : preB l.toArray [(3, [2]), (4, [1, 3]), (5, [4]), (6, [4]), (7, [5, 6]), (8, [0, 7]), (9, [8]), (10, [8]), (11, [9, 10])] = true)
 {v1 : Value} (k1 : a0.tmps[1]? = some (v1)) (k3 : a0.tmps[3]? = some (Value.pointer (some ⟨gk, 0, none⟩))) (k7 : a0.tmps[7]? = some (Value.pointer (some ⟨ga, 0, none⟩)))
 (h0 : ∀ w, From w0 w → (loadVar 37 ⟨ga, 0, none⟩).run Try.prog w = .ok fa.val w)
 (h1 : ∀ w, From w0 w → (loadVar 37 ⟨gk, 0, none⟩).run Try.prog w = .ok fk.val w)
 (h3 : ∀ w , From w0 w → Calls Try.prog 13 #[v1] w fun e w' => e = .returned (fo.val) ∧ From w w')
 (h4 : ∀ w , From w0 w → Calls Try.prog 18 #[fk.val, fo.val] w fun e w' => e = .returned (Value.tuple #[r1.1.val, .int .i64 r1.2]) ∧ From w w')
 (h7 : ∀ w , From w0 w → Calls Try.prog 44 #[r1.1.val, Value.int .i64 r1.2] w fun e w' => e = .returned (r1.1.val) ∧ From w w')
 (h8 : ∀ w , From w0 w → Calls Try.prog 17 #[fa.val, r1.1.val] w fun e w' => e = .returned (Value.tuple #[r2.1.val, .int .i64 r2.2]) ∧ From w w')
 (h11 : ∀ w , From w0 w → Calls Try.prog 44 #[r2.1.val, Value.int .i64 r2.2] w fun e w' => e = .returned (r2.1.val) ∧ From w w')
 (hK : ∀  w, From w0 w → wpList Try.prog l.toArray Q (l.drop 12) ((((((((((((a0.put (some 16) (fa.val)).put (some 17) (fk.val)).put (some 18) (v1)).put (some 19) (fo.val)).put (some 20) (Value.tuple #[r1.1.val, .int .i64 r1.2])).put (some 21) (r1.1.val)).put (some 22) (Value.int .i64 r1.2)).put (some 23) (r1.1.val)).put (some 24) (Value.tuple #[r2.1.val, .int .i64 r2.2])).put (some 25) (r2.1.val)).put (some 26) (Value.int .i64 r2.2)).put (some 27) (r2.1.val)) w) :
 (Code.region id l.toArray true).wp Try.prog Q a0 w0 := by
 have hlen : l.length = 13 := by rw [hl]; rfl
 have hpz := List.all_eq_true.1 hpre
 refine wp_region_keep 12 (fun i v w => match i with
  | 0 => v = (fa.val)
  | 1 => v = (fk.val)
  | 2 => v = (v1)
  | 3 => v = (fo.val)
  | 4 => v = (Value.tuple #[r1.1.val, .int .i64 r1.2])
  | 5 => v = (r1.1.val)
  | 6 => v = (Value.int .i64 r1.2)
  | 7 => v = (r1.1.val)
  | 8 => v = (Value.tuple #[r2.1.val, .int .i64 r2.2])
  | 9 => v = (r2.1.val)
  | 10 => v = (Value.int .i64 r2.2)
  | 11 => v = (r2.1.val)
  | _ => True) ?_ (by kernel_rfl) hO (by omega) hd ?_ ?_
 · exact fun _ _ _ _ h _ => h
 · intro i o hi ho a w hb hval hold
   have ho' : l.toArray[i]? = some o := by simpa using ho
   have hedge : ∀ j, (∃ js, (i, js) ∈ ([(3, [2]), (4, [1, 3]), (5, [4]), (6, [4]), (7, [5, 6]), (8, [0, 7]), (9, [8]), (10, [8]), (11, [9, 10])] : List (Nat × List Nat)) ∧ j ∈ js) → (o.after.any fun e => Region.binds .any e && e.on == j) = true := fun j ⟨_, hm, hj⟩ => by
    have h1 := List.all_eq_true.1 (hpz _ hm) j hj
    rw [ho'] at h1
    simpa using h1
   have hcase : i = 0 ∨ i = 1 ∨ i = 2 ∨ i = 3 ∨ i = 4 ∨ i = 5 ∨ i = 6 ∨ i = 7 ∨ i = 8 ∨ i = 9 ∨ i = 10 ∨ i = 11 := by omega
   rcases hcase with rfl | rfl | rfl | rfl | rfl | rfl | rfl | rfl | rfl | rfl | rfl | rfl
   all_goals (rw [hl] at ho; injection ho with ho; subst ho)
   · have b7 := eval_get ((hold 7 (by rw [hl]; rfl)).trans k7)
     exact wpOp_load ho' rfl rfl b7 (h0 w hb) ⟨_, rfl, Below.refl _ _, rfl⟩
   · have b3 := eval_get ((hold 3 (by rw [hl]; rfl)).trans k3)
     exact wpOp_load ho' rfl rfl b3 (h1 w hb) ⟨_, rfl, Below.refl _ _, rfl⟩
   · have b1 := eval_get ((hold 1 (by rw [hl]; rfl)).trans k1)
     exact wpOp_value ho' rfl (w' := w) (by go_simp) ⟨_, rfl, Below.refl _ _, rfl⟩
   · obtain ⟨y2, hy2, hz2⟩ := hval 2 _ 18 (by omega) (by rw [hl]; rfl) rfl (hedge 2 (by simp))
     rw [show y2 = (v1) from hz2] at hy2
     have b18 := eval_get hy2
     refine wpOp_call ho' rfl rfl (args := #[v1]) (by simp [b18]) (cf13 _ _) ((h3 w  hb ).mono ?_)
     rintro e w' ⟨rfl, hb2⟩
     exact ⟨_, rfl, _, rfl, hb2, rfl⟩
   · obtain ⟨_, hy1, rfl⟩ := hval 1 _ 17 (by omega) (by rw [hl]; rfl) rfl (hedge 1 (by simp))
     have b17 := eval_get hy1
     obtain ⟨_, hy3, rfl⟩ := hval 3 _ 19 (by omega) (by rw [hl]; rfl) rfl (hedge 3 (by simp))
     have b19 := eval_get hy3
     refine wpOp_call ho' rfl rfl (args := #[fk.val, fo.val]) (by simp [b17, b19]) (cf18 _ _) ((h4 w  hb ).mono ?_)
     rintro e w' ⟨rfl, hb2⟩
     exact ⟨_, rfl, _, rfl, hb2, rfl⟩
   · obtain ⟨_, hy4, rfl⟩ := hval 4 _ 20 (by omega) (by rw [hl]; rfl) rfl (hedge 4 (by simp))
     have b20 := eval_get hy4
     exact wpOp_value ho' rfl (w' := w) (by go_simp) ⟨_, rfl, Below.refl _ _, rfl⟩
   · obtain ⟨_, hy4, rfl⟩ := hval 4 _ 20 (by omega) (by rw [hl]; rfl) rfl (hedge 4 (by simp))
     have b20 := eval_get hy4
     exact wpOp_value ho' rfl (w' := w) (by go_simp) ⟨_, rfl, Below.refl _ _, rfl⟩
   · obtain ⟨_, hy5, rfl⟩ := hval 5 _ 21 (by omega) (by rw [hl]; rfl) rfl (hedge 5 (by simp))
     have b21 := eval_get hy5
     obtain ⟨_, hy6, rfl⟩ := hval 6 _ 22 (by omega) (by rw [hl]; rfl) rfl (hedge 6 (by simp))
     have b22 := eval_get hy6
     refine wpOp_call ho' rfl rfl (args := #[r1.1.val, Value.int .i64 r1.2]) (by simp [b21, b22]) (cf44 _ _) ((h7 w  hb ).mono ?_)
     rintro e w' ⟨rfl, hb2⟩
     exact ⟨_, rfl, _, rfl, hb2, rfl⟩
   · obtain ⟨_, hy0, rfl⟩ := hval 0 _ 16 (by omega) (by rw [hl]; rfl) rfl (hedge 0 (by simp))
     have b16 := eval_get hy0
     obtain ⟨_, hy7, rfl⟩ := hval 7 _ 23 (by omega) (by rw [hl]; rfl) rfl (hedge 7 (by simp))
     have b23 := eval_get hy7
     refine wpOp_call ho' rfl rfl (args := #[fa.val, r1.1.val]) (by simp [b16, b23]) (cf17 _ _) ((h8 w  hb ).mono ?_)
     rintro e w' ⟨rfl, hb2⟩
     exact ⟨_, rfl, _, rfl, hb2, rfl⟩
   · obtain ⟨_, hy8, rfl⟩ := hval 8 _ 24 (by omega) (by rw [hl]; rfl) rfl (hedge 8 (by simp))
     have b24 := eval_get hy8
     exact wpOp_value ho' rfl (w' := w) (by go_simp) ⟨_, rfl, Below.refl _ _, rfl⟩
   · obtain ⟨_, hy8, rfl⟩ := hval 8 _ 24 (by omega) (by rw [hl]; rfl) rfl (hedge 8 (by simp))
     have b24 := eval_get hy8
     exact wpOp_value ho' rfl (w' := w) (by go_simp) ⟨_, rfl, Below.refl _ _, rfl⟩
   · obtain ⟨_, hy9, rfl⟩ := hval 9 _ 25 (by omega) (by rw [hl]; rfl) rfl (hedge 9 (by simp))
     have b25 := eval_get hy9
     obtain ⟨_, hy10, rfl⟩ := hval 10 _ 26 (by omega) (by rw [hl]; rfl) rfl (hedge 10 (by simp))
     have b26 := eval_get hy10
     refine wpOp_call ho' rfl rfl (args := #[r2.1.val, Value.int .i64 r2.2]) (by simp [b25, b26]) (cf44 _ _) ((h11 w  hb ).mono ?_)
     rintro e w' ⟨rfl, hb2⟩
     exact ⟨_, rfl, _, rfl, hb2, rfl⟩
 · intro val w hb hrows
   have hF := hK  w hb
   subst hl
   simp only [List.take_succ_cons, List.take_zero, putAll, Nat.zero_add, Nat.reduceAdd, show val 0 = _ from hrows 0 (by omega), show val 1 = _ from hrows 1 (by omega), show val 2 = _ from hrows 2 (by omega), show val 3 = _ from hrows 3 (by omega), show val 4 = _ from hrows 4 (by omega), show val 5 = _ from hrows 5 (by omega), show val 6 = _ from hrows 6 (by omega), show val 7 = _ from hrows 7 (by omega), show val 8 = _ from hrows 8 (by omega), show val 9 = _ from hrows 9 (by omega), show val 10 = _ from hrows 10 (by omega), show val 11 = _ from hrows 11 (by omega)]
   exact hF
theorem zeroF_fits : zeroF.fits := ⟨by decide, by decide⟩
theorem ratioL_fits (a b : Int) : (ratioL a b).1.fits := by
 unfold ratioL
 split
 · exact zeroF_fits
 · exact fitL_fits _ _ _
theorem sumL_fits (f g : FracV) : (sumL f g).1.fits := by
 unfold sumL
 split
 · exact fitL_fits _ _ _
 · split <;> exact fitL_fits _ _ _
theorem addL_fits (f g : FracV) : (addL f g).1.fits := by
 unfold addL
 split
 · exact sumL_fits _ _
 · exact zeroF_fits
theorem subL_fits (f g : FracV) : (subL f g).1.fits := by
 unfold subL
 split
 · exact sumL_fits _ _
 · exact zeroF_fits
theorem mulL_fits (f g : FracV) : (mulL f g).1.fits := by
 unfold mulL
 split
 · exact fitL_fits _ _ _
 · exact zeroF_fits
theorem divL_fits (f g : FracV) : (divL f g).1.fits := by
 unfold divL
 split
 · exact fitL_fits _ _ _
 · exact zeroF_fits
theorem ofL_fits {n : Int} (h : inI n) : (ofL n).fits := by
 obtain ⟨h1, h2⟩ := h
 refine ⟨?_, show (1 : Nat) < top256 by decide⟩
 show n.natAbs < top256
 exact Nat.lt_trans (show n.natAbs < 18446744073709551616 by omega) top256_big
def liftV (W : Int) (k : FracV) (share factor : Int) : FracV := (addL (ratioL (W * share) 10000).1 (mulL k (ofL factor)).1).1
set_option maxRecDepth 100000 in
set_option maxHeartbeats 4000000 in
theorem st_lifts (W share factor : Int) (gw gk : Nat) (kf : FracV) (hk : kf.fits) (hws : inI (W * share)) (hfa : inI factor) (w : World) (hw : w.heap[gw]? = some (.cells #[.int .i64 W] 3 (0, 0))) (hkb : FB w gk kf) :
 Calls Try.prog 42 #[.int .i64 share, .int .i64 factor, .pointer (some ⟨gw, 0, none⟩), .pointer (some ⟨gk, 0, none⟩)] w fun e w' => e = .returned (liftV W kf share factor).val ∧ Below w.heap.size w w' := by
 have hgw := (Array.getElem?_eq_some_iff.1 hw).1
 have hb0 : Below w.heap.size w (w.alloc (.cells zeroF.cells.toArray 37)) := (Below.refl _ _).alloc (Nat.le_refl _) _
 have HWL : Hid (∀ w1, From w w1 → (loadVar 3 ⟨gw, 0, none⟩).run Try.prog w1 = .ok (.int .i64 W) w1) := by
  intro w1 hb
  have h2 := (hb.block gw hgw).trans hw
  exact run_load_cell Try.underlying3 rfl (by rw [cell_of_row w1 _ 0 _ _ _ h2]; rfl)
 have HKB := Lib.hid (fun (w1 : World) (hb : From w w1) => hkb.below hb hkb.lt)
 have HF0 := Lib.hid (FB.new w zeroF)
 have HB0 := Lib.hid hb0
 obtain ⟨ws, hwse⟩ : ∃ ws, ws = W * share := ⟨_, rfl⟩
 have wW : IntKind.i64.wrap (W * share) = ws := by rw [wrap_in hws, hwse]
 obtain ⟨r1, hr1⟩ : ∃ r1, r1 = ratioL ws 10000 := ⟨_, rfl⟩
 obtain ⟨fo, hfo⟩ : ∃ fo, fo = ofL factor := ⟨_, rfl⟩
 obtain ⟨r2, hr2⟩ : ∃ r2, r2 = mulL kf fo := ⟨_, rfl⟩
 obtain ⟨r3, hr3⟩ : ∃ r3, r3 = addL r1.1 r2.1 := ⟨_, rfl⟩
 have HV : Hid (liftV W kf share factor = r3.1) := by unfold Hid liftV; rw [hr3, hr2, hfo, hr1, hwse]
 have HRA := Lib.hid (fun (w1 : World) => frac_Ratio ws 10000 (by rw [hwse]; exact hws.1) (by rw [hwse]; exact hws.2) (by omega) (by omega) w1)
 rw [← hr1] at HRA
 have HOF := Lib.hid (fun (w1 : World) => frac_Of factor hfa.1 hfa.2 w1)
 rw [← hfo] at HOF
 have HMU := Lib.hid (fun (w1 : World) => frac_Mul kf fo hk (by rw [hfo]; exact ofL_fits hfa) w1)
 rw [← hr2] at HMU
 have HAD := Lib.hid (fun (w1 : World) => frac_Add r1.1 r2.1 (by rw [hr1]; exact ratioL_fits _ _) (by rw [hr2]; exact mulL_fits _ _) w1)
 rw [← hr3] at HAD
 rw [HV.out]
 clear hw hkb hgw hb0 hwse hr1 hfo hr2 hr3 hws hfa hk
 go_enter Try.func42, Try.ntmps42
 go_wp2_with (first
  | ((with_reducible refine g_ld 3 ?_); refine wpList_ld rfl _ _ rfl _ rfl _ (HWL.out _ HB0.out) ?_)
  | (go_at_call 43; refine (HRA.out _).mono ?_; rintro e w2 ⟨rfl, hb2⟩; have B2 := Lib.hid (HB0.out.trans (hb2.mono HB0.out.size)); have F2 := Lib.hid (HF0.out.below hb2 HF0.out.lt); clear hb2)
  | ((with_reducible refine g_st 37 ?_); refine wpList_stF (f := r1.1) rfl _ _ rfl rfl rfl (FB.new w2 zeroF) ?_; intro w3 hfb3 hgr3
     have C3 : Hid (From w2 w3) := ((Below.refl w2.heap.size w2).alloc (Nat.le_refl _) _).grown hgr3 (by simp) (by intro q hq; injection hq with hq; omega)
     have F3 := Lib.hid hfb3; have G3 := Lib.hid (F2.out.below C3.out F2.out.lt); have B3 := Lib.hid (B2.out.trans (C3.out.mono B2.out.size)); clear hfb3 hgr3))
 refine region_lifts (ga := w2.heap.size) (gk := gk) (fa := r1.1) (fk := kf) (fo := fo) (r1 := r2) (r2 := r3) rfl (by kernel_rfl) (by kernel_rfl) (by kernel_rfl) rfl rfl rfl
  (fun w1 hb => (F3.out.below hb F3.out.lt).ld) (fun w1 hb => (HKB.out w1 (B3.out.trans (hb.mono B3.out.size))).ld) (fun w1 hb => HOF.out w1) (fun w1 hb => HMU.out w1) (fun w1 hb => st_sure _ _ w1) (fun w1 hb => HAD.out w1) (fun w1 hb => st_sure _ _ w1) ?_
 intro w4 hb4
 have G4 := Lib.hid (G3.out.below hb4 G3.out.lt)
 have B4 := Lib.hid (B3.out.trans (hb4.mono B3.out.size))
 clear hb4
 simp only [List.drop_succ_cons, List.drop_zero]
 simp only [Act.put, List.setIfInBounds_toArray, List.set_cons_succ, List.set_cons_zero]
 go_wp2_with (first
  | ((with_reducible refine g_st 37 ?_); refine wpList_stF (f := r3.1) rfl _ _ rfl rfl rfl G4.out ?_; intro w5 hfb5 hgr5))
 refine bodyPost_ret (results_frac rfl _ rfl hfb5) rfl ⟨rfl, B4.out.grown hgr5 B4.out.size (by intro q hq; injection hq with hq; omega)⟩
theorem eval_const (a : Act) (v : Value) : a.eval (.const v) = v := rfl
section
variable {P : Program} {ops : Array Oper} {Q : Exit → Act → World → Prop} {a : Act} {w : World} {K : Act → World → Prop} {i : Nat} {o : Oper}
theorem wpOp_callv (ho : ops[i]? = some o) (hg : o.guard = none) {s : Nat} {F : FuncId} {xs : Array Operand} {ts : Array TypeId} {caps : Array Value} (hop : o.op = .call { callee := .value (.tmp s), args := xs, argTypes := ts }) (hs : a.eval (.tmp s) = .func (.func F) #[] caps) {args : Array Value} (hx : xs.map a.eval = args) (hcf : (callFunc F (args ++ caps)).run P w = .ok (.enter F (args ++ caps)) w) (hc : Calls P F (args ++ caps) w fun e w' => ∃ v, e = .returned v ∧ K (a.put o.dst v) w') : wpOp P ops Q i K a w :=
 wpOp_enter ho hg (by subst hx; unfold execOp; simp only [hop, resolve, hs]; go_simp) hc
end
def NewF (base : Nat) (v : Value) (w : World) : Prop := ∃ g, v = .pointer (some ⟨g, 0, none⟩) ∧ base ≤ g ∧ FB w g zeroF
theorem NewF.stays {base : Nat} : ∀ v w w', NewF base v w → From w w' → NewF base v w' := by
 rintro v w w' ⟨g, h1, h2, h3⟩ hb
 exact ⟨g, h1, h2, h3.below hb h3.lt⟩
theorem zero_frac (w : World) : (zeroValue 37).run Try.prog w = .ok zeroF.val w := by kernel_rfl
theorem NewF.new {base : Nat} {w : World} (h : base ≤ w.heap.size) : NewF base (.pointer (some ⟨w.heap.size, 0, none⟩)) (w.alloc (.cells zeroF.val.cells 37)) := ⟨_, rfl, h, FB.new w zeroF⟩
end Go.Proofs.Ytcdfnlgimbecgaa
