/-
  A contract of a function that makes a new row, by a walk of the old kind; slices.Clone at Stowed.
-/
import Derived.Test.YtfdjcakgolenbaaGreatMu37
set_option linter.unusedVariables false
set_option linter.unusedSimpArgs false
namespace Go.Proofs.YtfdjcakgolenbaaGreat
open Go.RowKit
theorem new_row {w w' : World} {ρ : Nat → Option Rl} {ra : Nat → Prop} {T : Nat} {t : Tc} {l : Unit → List t.el} {A : Option Addr} {c : Nat} (f : t.el → List Value) (ht : ∀ x : t.el, (cellsAV true t fun _ => x).all AV.flat = true) (hf : ∀ x : t.el, (cellsAV true t fun _ => x).map AV.valOf = f x)
 (hρ : ∀ l, ρ l = none) (hra : ∀ b, ra b → b < w.heap.size) (hb : From w w') (ho : OwnS w' w.heap.size T t.size A c ((l ()).map f)) : ∃ ρ1 ra1, Left w w' ρ ρ1 ra ra1 [(0, .row true t T l)] false ∧ AVR w' ρ1 w.heap.size ra1 (.own 0) (.slice A (l ()).length c) := by
 have hr : ∀ l' r, updR ρ 0 (.row A (l ()).length c) l' = some r → l' = 0 ∧ r = .row A (l ()).length c := by
  intro l' r h
  unfold updR at h
  split at h
  · rename_i e
    cases h
    exact ⟨e, rfl⟩
  · rw [hρ] at h
    cases h
 have hblk : ∀ b, (Rl.row A (l ()).length c).blk = some b → w.heap.size ≤ b ∧ b < w'.heap.size := by
  intro b h
  simp only [Rl.blk] at h
  obtain ⟨a, ha, rfl⟩ := Option.map_eq_some_iff.1 h
  exact ho.lt ha
 refine ⟨updR ρ 0 (.row A (l ()).length c), ra, ⟨?_, fun l' e he => ?_, fun l1 l2 r r' b hne h1 h2 _ _ => ?_, fun l' hl' => ?_, fun l' r b h hbk => ?_, fun b hb' => ?_, fun l' r h _ => by rw [hρ] at h; cases h⟩, .own 0 A _ c (updR_self _ _ _)⟩
 · exact ⟨hb.os, hb.tape, hb.output, hb.size, fun k hk _ => hb.block k hk⟩
 · simp only [alook] at he
   split at he
   · rename_i e0
     have : l' = 0 := by simpa using (beq_iff_eq.1 e0).symm
     subst this
     cases he
     refine ⟨A, c, (l ()).map f, updR_self _ _ _, ho, by simp, fun k cs j x v hk hx hv => ?_⟩
     rw [List.getElem?_map] at hk
     cases hlk : (l ())[k]? with
     | none => rw [hlk] at hk; cases hk
     | some y =>
      rw [hlk] at hk
      injection hk with hk
      subst hk
      have hy : (l ()).getD k t.dflt = y := by rw [List.getD_eq_getElem?_getD, hlk]; rfl
      rw [hy] at hx
      have hE : Each w' (updR ρ 0 (.row A (l ()).length c)) w.heap.size ra (cellsAV true t fun _ => y) (f y) := by
       rw [← hf]
       exact each_flat (ht y)
      exact hE.2 j x v hx hv
   · cases he
 · exact absurd ((hr _ _ h1).1.trans (hr _ _ h2).1.symm) hne
 · have : l' ≠ 0 := by
    rintro rfl
    simp [keysOf, memN] at hl'
   unfold updR
   rw [if_neg this, hρ]
 · obtain ⟨rfl, rfl⟩ := hr _ _ h
   have h3 := hblk b hbk
   exact ⟨h3.2, fun h4 => by have := hra b h4; omega, .inl h3.1⟩
 · exact ⟨Nat.lt_of_lt_of_le (hra b hb') hb.size, fun _ => hb'⟩
set_option maxRecDepth 100000 in
theorem clone_sto (A : Option Addr) (c : Nat) (l : List Stowed) (n : Nat) (hn : n = l.length) (w : World) (hA : Rd w w.heap.size 4 A (l.map Stowed.cells)) (hl : l.length ≤ 1000000) :
 Calls Tryz.prog 84 #[.slice A n c] w fun e w' => ∃ A' c', e = .returned (.slice A' l.length c') ∧ OwnS w' w.heap.size 42 4 A' c' (l.map Stowed.cells) ∧ Below w.heap.size w w' := by
 subst hn
 cases A with
 | none =>
  have hl0 : l = [] := by
   rcases l with _ | ⟨x, l⟩
   · rfl
   · obtain ⟨_, _, h, _⟩ := hA 0 x.cells rfl
     cases h
  subst hl0
  have heq := fun w => Go.Lib.run_eql_slice_nil (P := Tryz.prog) w 34 42 none 0 c 0 0 Tryz.underlying34
  go_enter Tryz.func84, Tryz.ntmps84
  go_wp2
  go_ret
  exact ⟨none, 0, rfl, OwnS.nil _ _ _ _, Below.refl _ _⟩
 | some ad =>
  have heq := fun w => Go.Lib.run_eql_slice_nil (P := Tryz.prog) w 34 42 (some ad) l.length c 0 0 Tryz.underlying34
  have hb1 : Below w.heap.size w (w.alloc (Obj.cells #[] 42)) := (Below.refl _ _).alloc (Nat.le_refl _) _
  have HRD := Lib.hid ((hA.below hb1 (Nat.le_refl _)).more hb1.size)
  have HOW := Lib.hid (OwnS.empty_new w w.heap.size 42 4 (Nat.le_refl _))
  have HB1 := Lib.hid hb1
  clear hA hb1
  go_enter Tryz.func84, Tryz.ntmps84
  go_wp2_with (first
   | (at_builtin; go_loud (refine wpList_append_n rfl _ _ rfl Stowed.ei 0 rfl rfl HOW.out rfl _ HRD.out (by simp) (Stowed.ones l) (by unfold maxLen; simp; omega) (by simp; omega) HB1.out.size ?_); intro A4 c4 w4 hown4 hg4 hb4))
  go_ret
  exact ⟨A4, c4, by simp, by simpa using hown4, HB1.out.trans hb4⟩
def fonClone : Fon := ⟨84, [.sl .stowed], 0, fun avs es => match avs, es with
 | [x], [] => x.toStos.bind fun l => some ⟨fun _ => (l ()).length ≤ 1000000, .own 0, [(0, .row true .stowed 42 l)]⟩
 | _, _ => none, false⟩
theorem fonClone_ok : FonOk Tryz.prog fonClone := by
 refine ⟨fun args w => callFunc_ok Tryz.func84 (by kernel_rfl) (by kernel_rfl) args w, fun avs es res h w ρ ra vals hra hE hen hap hfr hown hp => ?_⟩
 simp only [fonClone] at h
 split at h
 case h_2 => cases h
 rename_i x
 simp only [Option.bind_eq_some_iff, Option.some.injEq] at h
 obtain ⟨l, e0, rfl⟩ := h
 obtain rfl := AV.toStos_ e0
 obtain ⟨v0, us0, rfl, hv0, h0⟩ := hE.head
 obtain rfl := h0.none
 obtain ⟨A0, q0, rfl, hc0, hr0⟩ := hv0.stos
 refine (clone_sto A0 q0 (l ()) _ rfl w hr0 hp).mono fun e w' ⟨A', c', k1, k2, k3⟩ => ?_
 obtain ⟨ρ1, ra1, hL, hv⟩ := new_row (t := .stowed) (l := l) Stowed.cells (fun _ => rfl) (fun _ => rfl) (fun l => hfr l (Nat.zero_le _)) hra k3 k2
 exact ⟨_, ρ1, ra1, k1, hL, hv⟩
section
variable {α : Type}
def swapAt (d : α) (l : List α) (j : Nat) : List α := (l.set (j + 1) (l.getD j d)).set j (l.getD (j + 1) d)
def insDown (lt : α → α → Bool) (d : α) (a : Nat) : Nat → List α → List α
 | 0, l => l
 | j + 1, l => cond (decide (a < j + 1) && lt (l.getD (j + 1) d) (l.getD j d)) (insDown lt d a j (swapAt d l j)) l
def insUpto (lt : α → α → Bool) (d : α) (a : Nat) (l : List α) : Nat → List α
 | 0 => l
 | n + 1 => insDown lt d a (a + 1 + n) (insUpto lt d a l n)
def insSort (lt : α → α → Bool) (d : α) (a b : Nat) (l : List α) : List α := insUpto lt d a l (b - (a + 1))
theorem swapAt_len (d : α) (l : List α) (j : Nat) : (swapAt d l j).length = l.length := by unfold swapAt; simp
theorem insDown_len (lt : α → α → Bool) (d : α) (a : Nat) : ∀ (j : Nat) (l : List α), (insDown lt d a j l).length = l.length
 | 0, l => rfl
 | j + 1, l => by
  unfold insDown
  cases decide (a < j + 1) && lt (l.getD (j + 1) d) (l.getD j d) with
  | true => rw [cond_true, insDown_len lt d a j, swapAt_len]
  | false => rfl
theorem insUpto_len (lt : α → α → Bool) (d : α) (a : Nat) (l : List α) : ∀ n, (insUpto lt d a l n).length = l.length
 | 0 => rfl
 | n + 1 => by unfold insUpto; rw [insDown_len, insUpto_len lt d a l n]
end
def cmpI (a b : Int) : Int := cond (decide (a < b)) (-1) (cond (decide (b < a)) 1 0)
def conNan : Con := ⟨131, [.int .i64], fun
 | [x0] => (x0.toI).bind fun a => some ⟨fun _ => True, .blit false⟩
 | _ => none⟩
set_option maxRecDepth 100000 in
set_option maxHeartbeats 4000000 in
theorem conNan_ok : ConOk Tryz.prog conNan := by
 refine fnOk [] trivial Tryz.func131 (by kernel_rfl) fun avs res h hp => ?_
 simp only [conNan] at h
 split at h
 case h_2 => cases h
 rename_i x0
 simp only [Option.bind_eq_some_iff, Option.some.injEq] at h
 obtain ⟨a, e0, rfl⟩ := h
 obtain rfl := AV.toI_ e0
 clear e0
 obtain ⟨a, rfl⟩ := eta (α := Int) a
 refine ⟨[], ?_⟩
 conv => arg 1; cbv
 simp [P_fin, V_one]
def conCmp : Con := ⟨87, [.int .i64, .int .i64], fun
 | [x0, x1] => (x0.toI).bind fun a => (x1.toI).bind fun b => some ⟨fun _ => True, .int .i64 fun _ => cmpI (a ()) (b ())⟩
 | _ => none⟩
set_option maxRecDepth 100000 in
set_option maxHeartbeats 4000000 in
theorem conCmp_ok : ConOk Tryz.prog conCmp := by
 refine fnOk [conNan] ⟨conNan_ok, trivial⟩ Tryz.func87 (by kernel_rfl) fun avs res h hp => ?_
 simp only [conCmp] at h
 split at h
 case h_2 => cases h
 rename_i x0 x1
 simp only [Option.bind_eq_some_iff, Option.some.injEq] at h
 obtain ⟨a, e0, b, e1, rfl⟩ := h
 obtain rfl := AV.toI_ e0
 obtain rfl := AV.toI_ e1
 clear e0 e1
 obtain ⟨a, rfl⟩ := eta (α := Int) a
 obtain ⟨b, rfl⟩ := eta (α := Int) b
 refine ⟨[], ?_⟩
 conv => arg 1; cbv
 simp (maxSteps := 4000000) only [P_vc, P_br, P_and, P_fin, V_nil, V_one, V_cons, T_self, castK, succK, Int.toNat_natCast, predK, decide_eq_true_eq, decide_eq_false_iff_not, List.map_cons, List.map_nil, cond_true, cond_false]
 unfold cmpI
 grind
def conLess : Con := ⟨86, [.agg stoSg, .agg stoSg], fun
 | [x0, x1] => (x0.toSto).bind fun x => (x1.toSto).bind fun y => some ⟨fun _ => True, .int .i64 fun _ => cmpI (x ()).tier (y ()).tier⟩
 | _ => none⟩
set_option maxRecDepth 100000 in
set_option maxHeartbeats 4000000 in
theorem conLess_ok : ConOk Tryz.prog conLess := by
 refine fnOk [conCmp] ⟨conCmp_ok, trivial⟩ Tryz.func86 (by kernel_rfl) fun avs res h hp => ?_
 simp only [conLess] at h
 split at h
 case h_2 => cases h
 rename_i x0 x1
 simp only [Option.bind_eq_some_iff, Option.some.injEq] at h
 obtain ⟨x, e0, y, e1, rfl⟩ := h
 obtain rfl := AV.toSto_ e0
 obtain rfl := AV.toSto_ e1
 clear e0 e1
 obtain ⟨x, rfl⟩ := eta (α := Stowed) x
 obtain ⟨y, rfl⟩ := eta (α := Stowed) y
 refine ⟨[], ?_⟩
 conv => arg 1; cbv
 simp (maxSteps := 4000000) only [P_vc, P_br, P_and, P_fin, V_nil, V_one, V_cons, T_self, castK, succK, Int.toNat_natCast, predK, decide_eq_true_eq, decide_eq_false_iff_not, List.map_cons, List.map_nil, cond_true, cond_false]
 exact ⟨trivial, trivial⟩
def lessT (a b : Stowed) : Bool := decide (cmpI a.tier b.tier < 0)
def fonIns : Fon := ⟨170, [.ownr .stowed, .int .i64, .int .i64, .fn []], 1, fun avs es => match avs, es with
 | [.own 0, .int .i64 a, .int .i64 b, .fn f []], [(0, .row false .stowed T l)] => if f = 86 then some ⟨fun _ => 0 ≤ a () ∧ a () ≤ b () ∧ b () ≤ ((l ()).length : Int) ∧ (l ()).length ≤ 1000000, .tup [], [(0, .row false .stowed T fun _ => insSort lessT Tc.stowed.dflt (a ()).toNat (b ()).toNat (l ()))]⟩ else none
 | _, _ => none, true⟩
def lpIns (T : Nat) (l : List Stowed) (a b : Nat) : Lp where
 X := Nat
 ov n := [(8, .int .i64 fun _ => ((a + 1 + n : Nat) : Int)), (0, .own 0)]
 oe n := [(0, .row false .stowed T fun _ => insUpto lessT Tc.stowed.dflt a l n)]
 I n := n ≤ b - (a + 1)
 μ n _ := b - (a + 1) - n
 x0 := 0
 nx := some fun n => n + 1
def lpDown (T : Nat) (a i : Nat) (R L1 : List Stowed) : Lp where
 X := Nat × List Stowed
 ov p := [(9, .int .i64 fun _ => (p.1 : Int)), (0, .own 0)]
 oe p := [(0, .row false .stowed T fun _ => p.2)]
 I p := a ≤ p.1 ∧ p.1 ≤ i ∧ p.2.length = R.length ∧ insDown lessT Tc.stowed.dflt a p.1 p.2 = R
 μ p _ := p.1
 x0 := (i, L1)
 nx := none
set_option maxRecDepth 100000 in
set_option maxHeartbeats 4000000 in
theorem fonIns_ok : FonOk Tryz.prog fonIns := by
 refine fonOk [conLess] ⟨conLess_ok, trivial⟩ [] trivial Tryz.func170 (by kernel_rfl) fun avs es res h hp => ?_
 simp only [fonIns] at h
 split at h
 case h_2 => cases h
 split at h
 case isFalse => cases h
 rename_i a b f T l hf
 subst hf
 cases h
 obtain ⟨l, rfl⟩ := eta (α := List Stowed) l
 obtain ⟨a, rfl⟩ := eta (α := Int) a
 obtain ⟨b, rfl⟩ := eta (α := Int) b
 have hZh1 : 0 ≤ a ∧ a ≤ b ∧ b ≤ (l.length : Int) ∧ l.length ≤ 1000000 := hp
 have h1 := hZh1.1
 have h2 := hZh1.2.1
 have h3 := hZh1.2.2.1
 have h4 := hZh1.2.2.2
 obtain ⟨a, rfl⟩ := Int.eq_ofNat_of_zero_le h1
 obtain ⟨b, rfl⟩ := Int.eq_ofNat_of_zero_le (show 0 ≤ b by omega)
 refine ⟨[(1, lpIns T l a b)], ?_⟩
 conv => arg 1; cbv
 refine ⟨⟨by simp only [castK]; omega, by simp only [castK]; omega⟩, ⟨?_, fun (n : Nat) hn => ?_⟩⟩
 · simp (maxSteps := 4000000) only [P_vc, P_br, P_and, P_fin, V_nil, V_one, V_cons, T_self, castK, succK, Int.toNat_natCast, predK, decide_eq_true_eq, decide_eq_false_iff_not, List.map_cons, List.map_nil, cond_true, cond_false]
   exact ⟨Nat.zero_le _, by omega, rfl⟩
 have hn' : n ≤ b - (a + 1) := hn
 conv => arg 1; cbv
 refine ⟨fun g1 => ?_, fun g1 => ?_⟩
 · have g1' : a + 1 + n < b := by simp only [decide_eq_true_eq, castK] at g1; omega
   refine nameIt (insUpto lessT Tc.stowed.dflt a l n) fun L1 hL1 => ?_
   refine nameIt (a + 1 + n) fun i hi => ?_
   refine nameIt (insDown lessT Tc.stowed.dflt a i L1) fun R hR => ?_
   have hlen1 : L1.length = l.length := by rw [← hL1, insUpto_len]
   have hlenR : R.length = l.length := by rw [← hR, insDown_len, hlen1]
   refine ⟨lpDown T a i R L1, ?_⟩
   conv => arg 1; cbv
   refine ⟨?_, fun (p : Nat × List Stowed) hp => ?_⟩
   · simp (maxSteps := 4000000) only [P_vc, P_br, P_and, P_fin, V_nil, V_one, V_cons, T_self, castK, succK, Int.toNat_natCast, predK, decide_eq_true_eq, decide_eq_false_iff_not, List.map_cons, List.map_nil, cond_true, cond_false]
     refine ⟨⟨by omega, Nat.le_refl _, by omega, hR⟩, by rw [hi], hL1⟩
   · have hp' : a ≤ p.1 ∧ p.1 ≤ i ∧ p.2.length = R.length ∧ insDown lessT Tc.stowed.dflt a p.1 p.2 = R := hp
     have p1 := hp'.1
     have p2 := hp'.2.1
     have p3 := hp'.2.2.1
     have p4 := hp'.2.2.2
     clear hn hp hp' hZh1
     have hup : insUpto lessT Tc.stowed.dflt a l (n + 1) = R := by rw [← hR, ← hi, ← hL1]; rfl
     have hlast : insDown lessT Tc.stowed.dflt a p.1 p.2 = p.2 → inI64 (((a + 1 + n : Nat) : Int) + 1) ∧ (n + 1 ≤ b - (a + 1) ∧ b - (a + 1) - (n + 1) < b - (a + 1) - n) ∧ ((a + 1 + n : Nat) : Int) + 1 = ((a + 1 + (n + 1) : Nat) : Int) ∧ p.2 = insUpto lessT Tc.stowed.dflt a l (n + 1) := fun h => by
      rw [p4] at h
      exact ⟨⟨by omega, by omega⟩, ⟨by omega, by omega⟩, by omega, by rw [hup, h]⟩
     conv => arg 1; cbv
     refine nameIt (p.1 - 1) fun j hj => ?_
     refine nameIt (swapAt Tc.stowed.dflt p.2 j) fun L2 hL2 => ?_
     have h5 : (p.2.length : Int) ≤ 1000000 := by omega
     have hdown : insDown lessT Tc.stowed.dflt a p.1 p.2 = cond (decide (p.1 = 0)) p.2 (cond (decide (a < p.1) && lessT (p.2.getD p.1 Tc.stowed.dflt) (p.2.getD j Tc.stowed.dflt)) (insDown lessT Tc.stowed.dflt a j L2) p.2) := by
      rw [← hL2]
      cases hc : p.1 with
      | zero => rfl
      | succ m =>
       have : j = m := by omega
       subst this
       rfl
     have hlt : p.1 < p.2.length := by omega
     simp (maxSteps := 4000000) only [P_vc, P_br, P_and, P_fin, V_nil, V_one, V_cons, T_self, castK, succK, Int.toNat_natCast, predK, decide_eq_true_eq, decide_eq_false_iff_not, List.map_cons, List.map_nil, cond_true, cond_false]
     refine ⟨fun g2 => ?_, fun g2 => hlast ?_⟩
     · have g2' : a < p.1 := by omega
       have hj2 : p.1 = j + 1 := by omega
       have hne : decide (p.1 = 0) = false := by simp; omega
       refine ⟨⟨by omega, by omega⟩, ⟨by omega, by omega⟩, ⟨by omega, by omega⟩, trivial, fun g3 => ?_, fun g3 => hlast ?_⟩
       · refine ⟨⟨by omega, by omega⟩, ⟨by omega, by omega⟩, ⟨by omega, by omega⟩, ⟨by omega, by omega⟩, ⟨by omega, by omega⟩, ⟨by omega, by rw [List.length_set]; omega⟩, ⟨by omega, by omega⟩, ⟨(j, L2), ⟨⟨by omega, by omega, ?_, ?_⟩, by omega⟩, ?_⟩⟩
         · rw [← hL2, swapAt_len]; exact p3
         · rw [hne, cond_false, decide_eq_true g2', Bool.true_and] at hdown
           have g3' : lessT (p.2.getD p.1 Tc.stowed.dflt) (p.2.getD j Tc.stowed.dflt) = true := by rw [← hj]; exact decide_eq_true g3
           rw [g3', cond_true] at hdown
           rw [← hdown]
           exact p4
         · conv => arg 1; cbv
           simp (maxSteps := 4000000) only [P_vc, P_br, P_and, P_fin, V_nil, V_one, V_cons, T_self, castK, succK, Int.toNat_natCast, predK, decide_eq_true_eq, decide_eq_false_iff_not, List.map_cons, List.map_nil, cond_true, cond_false]
           refine ⟨by omega, ?_⟩
           rw [← hL2, hj, hj2]
           rfl
       · rw [hdown, hne, cond_false]
         have g3' : lessT (p.2.getD p.1 Tc.stowed.dflt) (p.2.getD j Tc.stowed.dflt) = false := by rw [← hj]; exact decide_eq_false g3
         rw [g3', Bool.and_false, cond_false]
     · have g2' : decide (a < p.1) = false := by simp; omega
       rw [hdown, g2', Bool.false_and, cond_false]
       cases decide (p.1 = 0) <;> rfl
 · simp (maxSteps := 4000000) only [P_vc, P_br, P_and, P_fin, V_nil, V_one, V_cons, T_self, castK, succK, Int.toNat_natCast, predK, decide_eq_true_eq, decide_eq_false_iff_not, List.map_cons, List.map_nil, cond_true, cond_false]
   have g1' : ¬ a + 1 + n < b := by simp only [decide_eq_false_iff_not, castK] at g1; omega
   unfold insSort
   rw [show b - (a + 1) = n by omega]
theorem insSort_len {α : Type} (lt : α → α → Bool) (d : α) (a b : Nat) (l : List α) : (insSort lt d a b l).length = l.length := by
 unfold insSort
 rw [insUpto_len]
theorem insSort_none {α : Type} (lt : α → α → Bool) (d : α) (a b : Nat) (l : List α) (h : b ≤ a + 1) : insSort lt d a b l = l := by
 unfold insSort
 rw [show b - (a + 1) = 0 by omega]
 rfl
def sortT (l : List Stowed) : List Stowed := insSort lessT Tc.stowed.dflt 0 l.length l
def fonStable : Fon := ⟨130, [.ownr .stowed, .int .i64, .fn []], 1, fun avs es => match avs, es with
 | [.own 0, .int .i64 n, .fn f []], [(0, .row false .stowed T l)] => if f = 86 then some ⟨fun _ => n () = ((l ()).length : Int) ∧ (l ()).length ≤ 20, .tup [], [(0, .row false .stowed T fun _ => sortT (l ()))]⟩ else none
 | _, _ => none, true⟩
def stBlk (l : List Stowed) (q : Nat) : List Stowed := cond (decide (q = 0)) l (insSort lessT Tc.stowed.dflt 0 20 l)
theorem stBlk_len (l : List Stowed) (q : Nat) : (stBlk l q).length = l.length := by
 unfold stBlk
 cases decide (q = 0)
 · rw [cond_false, insSort_len]
 · rw [cond_true]
theorem stBlk_one (l : List Stowed) : stBlk l 1 = insSort lessT Tc.stowed.dflt (20 * ((0 : Nat) : Int)).toNat (20 * ((0 : Nat) : Int) + 20).toNat (stBlk l 0) := by
 have h1 : (20 * ((0 : Nat) : Int)).toNat = 0 := by omega
 have h2 : (20 * ((0 : Nat) : Int) + 20).toNat = 20 := by omega
 rw [h1, h2]
 unfold stBlk
 rw [show decide ((1 : Nat) = 0) = false by decide, show decide ((0 : Nat) = 0) = true by decide, cond_false, cond_true]
theorem stBlk_zero (l : List Stowed) : insSort lessT Tc.stowed.dflt (20 * ((0 : Nat) : Int)).toNat l.length (stBlk l 0) = sortT l := by
 have h1 : (20 * ((0 : Nat) : Int)).toNat = 0 := by omega
 rw [h1]
 unfold stBlk sortT
 rw [show decide ((0 : Nat) = 0) = true by decide, cond_true]
theorem stBlk_end (l : List Stowed) (h : l.length = 20) : insSort lessT Tc.stowed.dflt (20 * ((1 : Nat) : Int)).toNat l.length (stBlk l 1) = sortT l := by
 have h1 : (20 * ((1 : Nat) : Int)).toNat = 20 := by omega
 rw [h1, insSort_none _ _ _ _ _ (by omega)]
 unfold stBlk sortT
 rw [show decide ((1 : Nat) = 0) = false by decide, cond_false, h]
def lpBlk (T : Nat) (l : List Stowed) : Lp where
 X := Nat
 ov q := [(7, .int .i64 fun _ => 20 * (q : Int)), (8, .int .i64 fun _ => 20 * (q : Int) + 20), (0, .own 0)]
 oe q := [(0, .row false .stowed T fun _ => stBlk l q)]
 I q := q = 0 ∨ (q = 1 ∧ l.length = 20)
 μ q _ := 1 - q
 x0 := 0
 nx := none
def lpDead : Lp where
 X := Unit
 ov _ := [(6, .int .i64 fun _ => 20)]
 oe _ := []
 I _ := True
 μ _ _ := 0
 x0 := ()
 nx := none
set_option maxRecDepth 100000 in
set_option maxHeartbeats 4000000 in
theorem fonStable_ok : FonOk Tryz.prog fonStable := by
 refine fonOk [] trivial [fonIns] ⟨fonIns_ok, trivial⟩ Tryz.func130 (by kernel_rfl) fun avs es res h hp => ?_
 simp only [fonStable] at h
 split at h
 case h_2 => cases h
 split at h
 case isFalse => cases h
 rename_i n f T l hf
 subst hf
 cases h
 obtain ⟨l, rfl⟩ := eta (α := List Stowed) l
 obtain ⟨n, rfl⟩ := eta (α := Int) n
 have hZh1 : n = (l.length : Int) ∧ l.length ≤ 20 := hp
 have h1 := hZh1.1
 have h2 := hZh1.2
 refine ⟨[(2, lpBlk T l), (7, lpDead)], ?_⟩
 conv => arg 1; cbv
 refine ⟨?_, fun (q : Nat) hq => ?_⟩
 · simp (maxSteps := 4000000) only [P_vc, P_br, P_and, P_fin, V_nil, V_one, V_cons, T_self, castK, succK, Int.toNat_natCast, predK, decide_eq_true_eq, decide_eq_false_iff_not, List.map_cons, List.map_nil, cond_true, cond_false]
   exact ⟨by simp, by simp, by simp, rfl⟩
 have hq' : q = 0 ∨ (q = 1 ∧ l.length = 20) := hq
 have hlen := stBlk_len l q
 conv => arg 1; cbv
 simp (maxSteps := 4000000) only [P_vc, P_br, P_and, P_fin, V_nil, V_one, V_cons, T_self, castK, succK, Int.toNat_natCast, predK, decide_eq_true_eq, decide_eq_false_iff_not, List.map_cons, List.map_nil, cond_true, cond_false]
 refine ⟨fun g1 => ?_, fun g1 => ?_⟩
 · have hq0 : q = 0 := by omega
   refine ⟨⟨by omega, by omega, by omega, by omega⟩, ⟨by omega, by omega⟩, ⟨1, ⟨⟨.inr ⟨rfl, by omega⟩, by omega⟩, ?_⟩⟩⟩
   conv => arg 1; cbv
   simp (maxSteps := 4000000) only [P_vc, P_br, P_and, P_fin, V_nil, V_one, V_cons, T_self, castK, succK, Int.toNat_natCast, predK, decide_eq_true_eq, decide_eq_false_iff_not, List.map_cons, List.map_nil, cond_true, cond_false]
   refine ⟨by omega, by omega, ?_⟩
   rw [hq0]
   exact (stBlk_one l).symm
 · refine ⟨⟨by omega, by omega, by omega, by omega⟩, ⟨trivial, trivial⟩, fun (u : Unit) hu => ?_⟩
   conv => arg 1; cbv
   refine ⟨fun g2 => ?_, fun g2 => ?_⟩
   · simp only [decide_eq_true_eq] at g2
     omega
   · simp (maxSteps := 4000000) only [P_vc, P_br, P_and, P_fin, V_nil, V_one, V_cons, T_self, castK, succK, Int.toNat_natCast, predK, decide_eq_true_eq, decide_eq_false_iff_not, List.map_cons, List.map_nil, cond_true, cond_false]
     rw [h1, Int.toNat_natCast]
     rcases hq' with h3 | ⟨h3, h4⟩
     · rw [h3]
       exact stBlk_zero l
     · rw [h3]
       exact stBlk_end l h4
def fonSort : Fon := ⟨85, [.ownr .stowed, .fn []], 1, fun avs es => match avs, es with
 | [.own 0, .fn f []], [(0, .row false .stowed T l)] => if f = 86 then some ⟨fun _ => (l ()).length ≤ 20, .tup [], [(0, .row false .stowed T fun _ => sortT (l ()))]⟩ else none
 | _, _ => none, true⟩
set_option maxRecDepth 100000 in
set_option maxHeartbeats 4000000 in
theorem fonSort_ok : FonOk Tryz.prog fonSort := by
 refine fonOk [] trivial [fonStable] ⟨fonStable_ok, trivial⟩ Tryz.func85 (by kernel_rfl) fun avs es res h hp => ?_
 simp only [fonSort] at h
 split at h
 case h_2 => cases h
 split at h
 case isFalse => cases h
 rename_i f T l hf
 subst hf
 cases h
 obtain ⟨l, rfl⟩ := eta (α := List Stowed) l
 have hp' : l.length ≤ 20 := hp
 refine ⟨[], ?_⟩
 conv => arg 1; cbv
 simp (maxSteps := 4000000) only [P_vc, P_br, P_and, P_fin, V_nil, V_one, V_cons, T_self, castK, succK, Int.toNat_natCast, predK, decide_eq_true_eq, decide_eq_false_iff_not, List.map_cons, List.map_nil, cond_true, cond_false]
 exact ⟨⟨trivial, hp'⟩, trivial⟩
/- sorting changes the order only -/
theorem swapAt_perm {α : Type} (d : α) (l : List α) (j : Nat) (h : j + 1 < l.length) : (swapAt d l j).Perm l := by
 unfold swapAt
 have e1 : l.getD j d = l[j] := by rw [List.getD_eq_getElem?_getD, List.getElem?_eq_getElem (by omega), Option.getD_some]
 have e2 : l.getD (j + 1) d = l[j + 1] := by rw [List.getD_eq_getElem?_getD, List.getElem?_eq_getElem h, Option.getD_some]
 rw [e1, e2]
 have : l = l.take j ++ l[j] :: l[j + 1] :: l.drop (j + 2) := by
  rw [List.getElem_cons_drop, List.getElem_cons_drop, List.take_append_drop]
 have h3 : (l.set (j + 1) l[j]).set j l[j + 1] = l.take j ++ l[j + 1] :: l[j] :: l.drop (j + 2) := by
  apply List.ext_getElem?
  intro i
  rw [List.getElem?_set, List.getElem?_set, List.getElem?_append]
  simp only [List.length_set, List.length_take]
  grind
 rw [h3]
 conv => rhs; rw [this]
 exact List.Perm.append_left _ (List.Perm.swap _ _ _)
theorem insDown_perm {α : Type} (lt : α → α → Bool) (d : α) (a : Nat) : ∀ (j : Nat) (l : List α), j < l.length → (insDown lt d a j l).Perm l
 | 0, l, _ => List.Perm.refl _
 | j + 1, l, h => by
  unfold insDown
  cases decide (a < j + 1) && lt (l.getD (j + 1) d) (l.getD j d) with
  | true =>
   rw [cond_true]
   exact (insDown_perm lt d a j _ (by rw [swapAt_len]; omega)).trans (swapAt_perm d l j h)
  | false => exact List.Perm.refl _
theorem insUpto_perm {α : Type} (lt : α → α → Bool) (d : α) (a : Nat) (l : List α) : ∀ n, a + 1 + n ≤ l.length ∨ n = 0 → (insUpto lt d a l n).Perm l
 | 0, _ => List.Perm.refl _
 | n + 1, h => by
  unfold insUpto
  exact (insDown_perm lt d a _ _ (by rw [insUpto_len]; omega)).trans (insUpto_perm lt d a l n (by omega))
theorem sortT_perm (l : List Stowed) : (sortT l).Perm l := insUpto_perm _ _ _ _ _ (by omega)
def conBoxValid : Con := ⟨83, [.sl .box], fun
 | [x0] => (x0.toBoxes).bind fun l => some ⟨fun _ => (l ()).length ≤ 1000000000000 ∧ ∀ b ∈ l (), b.num.size ≤ 140737488351232, .tup [.int .i64 fun _ => (boxValid (l ())).1, .int .i64 fun _ => (boxValid (l ())).2]⟩
 | _ => none⟩
def seenM (l : List Box) : Nat → List Kx → Option Int
 | 0 => fun _ => none
 | k + 1 => cond (decide (((l.getD k Tc.box.dflt).num) = noText)) (seenM l k) (setM (seenM l k) [.s (l.getD k Tc.box.dflt).num] (k : Int))
def lpV (l : List Box) : Lp where
 X := Nat
 ov k := [(16, .int .i64 fun _ => (k : Int)), (5, .int .i64 fun _ => lastId l k)]
 oe k := [(0, .map true false (.one .str) .int 211 fun _ => seenM l k)]
 I k := k ≤ l.length ∧ ∀ j, j < k → boxBad l j = false
 μ k _ := l.length - k
 x0 := 0
 nx := some fun k => k + 1
theorem seenM_seenN (l : List Box) (s : ByteArray) : ∀ k, k ≤ l.length → (seenM l k [.s s]).isSome = seenN l k s
 | 0, _ => by rw [seenN_zero]; rfl
 | k + 1, hk => by
  have ih := seenM_seenN l s k (by omega)
  have hnn : noNum = noText := rfl
  rw [seenN_succ l k s (by omega), ← ih, hnn]
  have e : l.getD k Tc.box.dflt = l[k] := by simp [List.getD_eq_getElem?_getD, List.getElem?_eq_getElem (show k < l.length by omega)]
  have hu : seenM l (k + 1) = cond (decide ((l.getD k Tc.box.dflt).num = noText)) (seenM l k) (setM (seenM l k) [.s (l.getD k Tc.box.dflt).num] (k : Int)) := rfl
  rw [hu, e]
  by_cases hn : l[k].num = noText
  · simp only [hn, decide_true, cond_true, Bool.not_true, Bool.false_and, Bool.or_false]
  · simp only [hn, decide_false, cond_false, Bool.not_false, Bool.true_and]
    unfold setM
    by_cases hs : l[k].num = s
    · simp only [hs, if_true, Option.isSome_some, decide_true, Bool.or_true]
    · have : ¬ [Kx.s s] = [Kx.s l[k].num] := by simpa using fun e => hs e.symm
      simp only [hs, this, if_false, decide_false, Bool.or_false]
set_option maxRecDepth 100000 in
set_option maxHeartbeats 4000000 in
theorem conBoxValid_ok : ConOk Tryz.prog conBoxValid := by
 refine fnOk [conBoxRight] ⟨conBoxRight_ok, trivial⟩ Tryz.func83 (by kernel_rfl) fun avs res h hp => ?_
 simp only [conBoxValid] at h
 split at h
 case h_2 => cases h
 rename_i x0
 simp only [Option.bind_eq_some_iff, Option.some.injEq] at h
 obtain ⟨l, e0, rfl⟩ := h
 obtain rfl := AV.toBoxes_ e0
 clear e0
 obtain ⟨l, rfl⟩ := eta (α := List Box) l
 have hZhp1 : l.length ≤ 1000000000000 ∧ ∀ b ∈ l, b.num.size ≤ 140737488351232 := hp
 have hp1 := hZhp1.1
 have hp2 := hZhp1.2
 refine ⟨[(5, lpV l)], ?_⟩
 conv => arg 1; cbv
 refine ⟨fun h1 => ?_, fun h1 => ⟨?_, fun (k : Nat) hk => ?_⟩⟩
 · simp only [decide_eq_true_eq, castK] at h1
   have h2 : boxValid l = (-1, 5) := by unfold boxValid; rw [if_pos (by omega)]
   simp only [P_fin, V_cons, V_one, h2, and_self]
 · refine ⟨⟨Nat.zero_le _, fun j hj => absurd hj (Nat.not_lt_zero j)⟩, ?_⟩
   simp only [P_fin, V_cons, V_one, T_self]
   exact ⟨rfl, (lastId_zero l).symm, rfl⟩
 · conv => arg 1; cbv
   have hZhk1 : k ≤ l.length ∧ ∀ j, j < k → boxBad l j = false := hk
   have hk1 := hZhk1.1
   have hk2 := hZhk1.2
   have h5 : l.length ≤ 2000 := by simp only [decide_eq_false_iff_not, castK] at h1; omega
   simp only [P_vc, P_br, P_fin, V_one, V_cons, T_self, castK, succK, Int.toNat_natCast, decide_eq_true_eq, decide_eq_false_iff_not, seenM_seenN l _ k hk1]
   refine ⟨fun h2 => ⟨by omega, ?_⟩, fun h2 => ?_⟩
   · have hlt : k < l.length := by omega
     have e : l.getD k Tc.box.dflt = l[k] := by simp [List.getD_eq_getElem?_getD, List.getElem?_eq_getElem hlt]
     have hbad : boxBad l k = (seenN l k l[k].num || decide (l[k].id ≤ lastId l k) || !boxB l[k]) := by unfold boxBad; rw [List.getElem?_eq_getElem hlt]
     simp only [e]
     have hf : boxBad l k = true → (k : Int) = (boxValid l).1 ∧ 60 = (boxValid l).2 := fun h => by rw [boxValid_found h5 hlt hk2 h]; exact ⟨rfl, rfl⟩
     refine ⟨fun h3 => hf (by rw [hbad, h3]; rfl), fun h3 => ⟨fun h4 => hf (by rw [hbad, h3]; simp [h4]), fun h4 => ⟨hp2 _ (List.getElem_mem hlt), fun h6 => hf ?_, fun h6 => ?_⟩⟩⟩
     · rw [hbad]
       have h6' : (!boxB l[k]) = true := h6
       rw [h6']
       simp
     · have h6' : (!boxB l[k]) = false := h6
       have hgood : boxBad l k = false := by rw [hbad, h3, h6']; simp [h4]
       have hI : k + 1 ≤ l.length ∧ ∀ j, j < k + 1 → boxBad l j = false := ⟨hlt, fun j hj => by
        rcases Nat.lt_or_ge j k with h | h
        · exact hk2 j h
        · rw [show j = k by omega]; exact hgood⟩
       have hM : seenM l (k + 1) = cond (decide (l[k].num = noText)) (seenM l k) (setM (seenM l k) [.s l[k].num] (k : Int)) := by
        show cond _ _ _ = _
        rw [e]
       have hrest : inI64 ((k : Int) + 1) ∧ ((k + 1 ≤ l.length ∧ ∀ j, j < k + 1 → boxBad l j = false) ∧ l.length - (k + 1) < l.length - k) ∧ (k : Int) + 1 = ((k + 1 : Nat) : Int) ∧ l[k].id = lastId l (k + 1) := ⟨⟨by omega, by omega⟩, ⟨hI, by omega⟩, by omega, (lastId_succ l k hlt).symm⟩
       refine ⟨fun h7 => ⟨hrest.1, hrest.2.1, hrest.2.2.1, hrest.2.2.2, ?_⟩, fun h7 => ⟨hrest.1, hrest.2.1, hrest.2.2.1, hrest.2.2.2, ?_⟩⟩
       · have h8 : (!decide (l[k].num = noText)) = true := h7
         have h7' : decide (l[k].num = noText) = false := by simpa using h8
         rw [hM, h7']
         rfl
       · have h8 : (!decide (l[k].num = noText)) = false := h7
         have h7' : decide (l[k].num = noText) = true := by simpa using h8
         rw [hM, h7']
         rfl
   · have : k = l.length := by omega
     subst this
     rw [boxValid_none h5 hk2]
     exact ⟨rfl, rfl⟩
end Go.Proofs.YtfdjcakgolenbaaGreat
