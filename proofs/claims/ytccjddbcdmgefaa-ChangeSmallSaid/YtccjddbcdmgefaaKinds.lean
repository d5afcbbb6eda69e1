/-
  The kinds of changes: a map that is made anew for each change, and what its functions do.
-/
import Derived.Test.YtccjddbcdmgefaaRefAll
namespace Go.Proofs.Ytccjddbcdmgefaa
open Go.RowKit Go.WideMaps Go.Maps

theorem g_ins {P : Program} {w : World} {ops : Array Oper} {rest : List Oper} {a : Act} {Q : Exit → Act → World → Prop} {T : TypeId} {m x y : Operand} {d : Option Nat} {ty : TypeId} {pos : String} {aft : Array Edge} {gd : Option (Nat × Bool)}
    (h : wpList P ops Q (⟨d, .insert T m x y, ty, pos, aft, gd⟩ :: rest) a w) : wpList P ops Q (⟨d, .insert T m x y, ty, pos, aft, gd⟩ :: rest) a w := h

theorem wpList_insert_own {H : Type} {P : Program} (w : World) {ops : Array Oper} {rest : List Oper} {o : Oper} {a : Act} {Q : Exit → Act → World → Prop}
    (hg : o.guard = none) (m x v : Operand) (t : TypeId) (hop : o.op = Op.insert t m x v)
    (k e : TypeId) (K : Keyed P k) (ht : P.underlying t = some (.map k e)) (R : Value → Option (DataW H × List MemPlace)) (b n : Nat) (D : DataW H)
    (hm : a.eval m = .map (some b)) (hown : w.ownsMap P k R b n D) (hn : n < maxLen) (key val : Value) (kl : Lit) (hx : a.eval x = key) (hv : a.eval v = val) (hkey : keyOf P k key = some kl)
    (d : DataW H) (ps : List MemPlace) (hval : R val = some (d, ps))
    (hK : ∀ w', w'.ownsMap P k R b (n + 1) (D.put kl d) → w.grownBy w' (some b) → wpList P ops Q rest (a.put o.dst undef) w') :
    wpList P ops Q (o :: rest) a w := by
  refine wpList_plain hg fun K' hK' => ?_
  obtain ⟨w', hrun, r1, r2⟩ := hown.update K ht hn hkey hval
  unfold Oper.wp
  simp [execOp, hop, hm, hx, hv, hrun, Result.andThen]
  exact hK' _ _ (hK w' r1 r2)

/-- an element as it is -/
def heldR (v : Value) : Option (DataW Value × List MemPlace) := some (.held v, [])
theorem heldR_inv {v u : Value} {ps : List MemPlace} (h : heldR v = some (.held u, ps)) : v = u := by
  unfold heldR at h
  injection h with h
  injection h with h
  injection h

def kindV (k : Int) : Value :=
  if k = 1 then .agg #[.bool true, .nilFunc, .func (.func 66) #[] #[]]
  else if k = 2 then .agg #[.bool false, .func (.func 67) #[] #[], .func (.func 68) #[] #[]]
  else if k = 3 then .agg #[.bool false, .func (.func 67) #[] #[], .func (.func 69) #[] #[]]
  else if k = 4 then .agg #[.bool false, .func (.func 70) #[] #[], .func (.func 71) #[] #[]]
  else .agg #[.bool false, .nilFunc, .nilFunc]

def kindD (n : Nat) : DataW Value :=
  match n with
  | 0 => .map []
  | n + 1 => (kindD n).put (.int .u8 ((n : Int) + 1)) (.held (kindV ((n : Int) + 1)))

theorem kindLaw : Keyed Try.prog 5 := int_keyed Try.underlying5
theorem kindKey (k : Int) (h0 : 0 ≤ k) (h1 : k ≤ 255) : keyOf Try.prog 5 (.int .u8 k) = some (.int .u8 k) := keyOf_int_mk Try.underlying5 (WalkArith.wf_u8 ⟨h0, h1⟩)
theorem kindZero (w : World) : (zeroValue 93).run Try.prog w = .ok (.agg #[.bool false, .nilFunc, .nilFunc]) w := by kernel_rfl

set_option maxRecDepth 100000 in
theorem change_kinds0 (w : World) : Calls Try.prog 55 #[] w fun e w' => e = .returned (.map (some w.heap.size)) ∧ w'.ownsMap Try.prog 5 heldR w.heap.size 4 (kindD 4) ∧ Below w.heap.size w w' := by
  have hmm := @run_makeMap Try.prog
  have h0 : (w.alloc (Obj.map #[] 0)).ownsMap Try.prog 5 heldR w.heap.size 0 (kindD 0) := World.ownsMap_made _ _ _ _
  have hb0 : Below w.heap.size w (w.alloc (Obj.map #[] 0)) := (Below.refl _ _).alloc (Nat.le_refl _) _
  go_enter Try.func55, Try.ntmps55
  go_wp2_with (first
    | ((with_reducible refine g_ins ?_); refine wpList_insert_own _ rfl _ _ _ 95 rfl 5 93 kindLaw Try.underlying95 heldR w.heap.size 0 (kindD 0) rfl h0 (by unfold maxLen; omega) _ _ _ rfl rfl (kindKey 1 (by omega) (by omega)) (.held (kindV 1)) [] rfl ?_; intro w1 h1 hg1)
    | ((with_reducible refine g_ins ?_); refine wpList_insert_own _ rfl _ _ _ 95 rfl 5 93 kindLaw Try.underlying95 heldR w.heap.size 1 (kindD 1) rfl h1 (by unfold maxLen; omega) _ _ _ rfl rfl (kindKey 2 (by omega) (by omega)) (.held (kindV 2)) [] rfl ?_; intro w2 h2 hg2)
    | ((with_reducible refine g_ins ?_); refine wpList_insert_own _ rfl _ _ _ 95 rfl 5 93 kindLaw Try.underlying95 heldR w.heap.size 2 (kindD 2) rfl h2 (by unfold maxLen; omega) _ _ _ rfl rfl (kindKey 3 (by omega) (by omega)) (.held (kindV 3)) [] rfl ?_; intro w3 h3 hg3)
    | ((with_reducible refine g_ins ?_); refine wpList_insert_own _ rfl _ _ _ 95 rfl 5 93 kindLaw Try.underlying95 heldR w.heap.size 3 (kindD 3) rfl h3 (by unfold maxLen; omega) _ _ _ rfl rfl (kindKey 4 (by omega) (by omega)) (.held (kindV 4)) [] rfl ?_; intro w4 h4 hg4))
  go_ret
  exact ⟨rfl, h4, (((hb0.grown hg1 hb0.size (by simp)).grown hg2 (by have := hg1.size; have := hb0.size; omega) (by simp)).grown hg3 (by have := hg1.size; have := hg2.size; have := hb0.size; omega) (by simp)).grown hg4 (by have := hg1.size; have := hg2.size; have := hg3.size; have := hb0.size; omega) (by simp)⟩

theorem kindD_at : ∀ (n : Nat) (k : Int), IsMap (kindD n) ∧ Maps.has (kindD n) (.int .u8 k) = decide (1 ≤ k ∧ k ≤ (n : Int)) ∧ (kindD n).atKey (.int .u8 k) (.held (kindV 0)) = .held (if 1 ≤ k ∧ k ≤ (n : Int) then kindV k else kindV 0)
  | 0, k => by
    have h1 : ¬ (1 ≤ k ∧ k ≤ ((0 : Nat) : Int)) := by omega
    refine ⟨isMap_empty, ?_, ?_⟩
    · rw [decide_eq_false h1]; rfl
    · rw [if_neg h1]; rfl
  | n + 1, k => by
    obtain ⟨ih1, ih2, ih3⟩ := kindD_at n k
    have e : kindD (n + 1) = (kindD n).put (.int .u8 ((n : Int) + 1)) (.held (kindV ((n : Int) + 1))) := rfl
    rw [e]
    refine ⟨ih1.put _ _, ?_, ?_⟩
    · by_cases h : k = (n : Int) + 1
      · subst h
        rw [has_put_same ih1 (show WideAt.IsKeyLit (.int _ _) from trivial)]
        symm
        rw [decide_eq_true_eq]
        omega
      · rw [has_put_other (fun h2 => h (by injection h2)), ih2]
        congr 1
        apply propext
        omega
    · by_cases h : k = (n : Int) + 1
      · subst h
        rw [atKey_put_same ih1 (show WideAt.IsKeyLit (.int _ _) from trivial), if_pos (by omega)]
      · rw [atKey_put_other (fun h2 => h (by injection h2)), ih3]
        congr 1
        by_cases h3 : 1 ≤ k ∧ k ≤ (n : Int)
        · rw [if_pos h3, if_pos (by omega)]
        · rw [if_neg h3, if_neg (by omega)]

theorem kind_look {w : World} {b : Nat} (h : w.ownsMap Try.prog 5 heldR b 4 (kindD 4)) (k : Int) (h0 : 0 ≤ k) (h1 : k ≤ 255) :
    (Instr.lookup 95 (.map (some b)) (.int .u8 k) true).run Try.prog w = .ok (.tuple #[kindV k, .bool (decide (1 ≤ k ∧ k ≤ 4))]) w := by
  obtain ⟨v, ps, hrun, hv⟩ := h.look_ok kindLaw Try.underlying95 (kindZero w) (zd := .held (kindV 0)) (zp := []) rfl (kindKey k h0 h1)
  obtain ⟨_, h2, h3⟩ := kindD_at 4 k
  rw [h3] at hv
  have := heldR_inv hv
  subst this
  rw [hrun, h2]
  have e : (if 1 ≤ k ∧ k ≤ ((4 : Nat) : Int) then kindV k else kindV 0) = kindV k := by
    by_cases h5 : 1 ≤ k ∧ k ≤ ((4 : Nat) : Int)
    · rw [if_pos h5]
    · rw [if_neg h5]
      unfold kindV
      rw [if_neg (by omega), if_neg (by omega), if_neg (by omega), if_neg (by omega), if_neg (by omega), if_neg (by omega), if_neg (by omega), if_neg (by omega)]
  rw [e]
  rfl

theorem change_kinds (w : World) : Calls Try.prog 55 #[] w fun e w' => ∃ b, e = .returned (.map (some b)) ∧ (∀ w2, From w' w2 → ∀ k, 0 ≤ k → k ≤ 255 → (Instr.lookup 95 (.map (some b)) (.int .u8 k) true).run Try.prog w2 = .ok (.tuple #[kindV k, .bool (decide (1 ≤ k ∧ k ≤ 4))]) w2) ∧ Below w.heap.size w w' :=
  (change_kinds0 w).mono fun e w' ⟨h1, h2, h3⟩ => ⟨_, h1, fun w2 hb k h0 h255 => kind_look (ownsMap_below h2 hb) k h0 h255, h3⟩
end Go.Proofs.Ytccjddbcdmgefaa
