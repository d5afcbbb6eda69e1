/-
  A contract of a function that makes a new row, by a walk of the old kind; slices.Clone at Stowed.
-/
import Derived.Test.YtfdjcakgolenbaaGreatMw18
set_option linter.unusedVariables false
set_option linter.unusedSimpArgs false
namespace Go.Proofs.YtfdjcakgolenbaaGreat
open Go.RowKit
theorem new_row {w w' : World} {ρ : Nat -> Option Rl} {ra : Nat -> Prop} {T : Nat} {t : Tc} {l : Unit -> List t.el} {A : Option Addr} {c : Nat} (f : t.el -> List Value) (ht : ∀ x : t.el, (cellsAV true t fun _ => x).all AV.flat = true) (hf : ∀ x : t.el, (cellsAV true t fun _ => x).map AV.valOf = f x)
 (hρ : ∀ l, ρ l = none) (hra : ∀ b, ra b -> b < w.heap.size) (hb : From w w') (ho : OwnS w' w.heap.size T t.size A c ((l ()).map f)) : ∃ ρ1 ra1, Left w w' ρ ρ1 ra ra1 [(0, .row true t T l)] false /\ AVR w' ρ1 w.heap.size ra1 (.own 0) (.slice A (l ()).length c) := by
 have hr : ∀ l' r, updR ρ 0 (.row A (l ()).length c) l' = some r -> l' = 0 /\ r = .row A (l ()).length c := by
  intro l' r h;unfold updR at h;split at h
  . rename_i e;cases h;exact ⟨e, rfl⟩
  . rw [hρ] at h;cases h
 have hblk : ∀ b, (Rl.row A (l ()).length c).blk = some b -> w.heap.size <= b /\ b < w'.heap.size := by
  intro b h;simp only [Rl.blk] at h;obtain ⟨a, ha, rfl⟩ := Option.map_eq_some_iff.1 h;exact ho.lt ha
 refine ⟨updR ρ 0 (.row A (l ()).length c), ra, ⟨?_, fun l' e he => ?_, fun l1 l2 r r' b hne h1 h2 _ _ => ?_, fun l' hl' => ?_, fun l' r b h hbk => ?_, fun b hb' => ?_, fun l' r h _ => by rw [hρ] at h; cases h⟩, .own 0 A _ c (updR_self _ _ _)⟩
 . exact ⟨hb.os, hb.tape, hb.output, hb.size, fun k hk _ => hb.block k hk⟩
 . simp only [alook] at he;split at he
   . rename_i e0;have : l' = 0 := by simpa using (beq_iff_eq.1 e0).symm
     subst this;cases he;refine ⟨A, c, (l ()).map f, updR_self _ _ _, ho, by simp, fun k cs j x v hk hx hv => ?_⟩;rw [List.getElem?_map] at hk
     cases hlk : (l ())[k]? with
     | none => rw [hlk] at hk; cases hk
     | some y =>
      rw [hlk] at hk;injection hk with hk;subst hk;have hy : (l ()).getD k t.dflt = y := by rw [List.getD_eq_getElem?_getD, hlk]; rfl
      rw [hy] at hx;have hE : Each w' (updR ρ 0 (.row A (l ()).length c)) w.heap.size ra (cellsAV true t fun _ => y) (f y) := by
       rw [<- hf];exact each_flat (ht y)
      exact hE.2 j x v hx hv
   . cases he
 . exact absurd ((hr _ _ h1).1.trans (hr _ _ h2).1.symm) hne
 . have : l' ≠ 0 := by
    rintro rfl
    simp [keysOf, memN] at hl'
   unfold updR;rw [if_neg this, hρ]
 . obtain ⟨rfl, rfl⟩ := hr _ _ h;have h3 := hblk b hbk;exact ⟨h3.2, fun h4 => by have := hra b h4; omega, .inl h3.1⟩
 . exact ⟨Nat.lt_of_lt_of_le (hra b hb') hb.size, fun _ => hb'⟩
set_option maxRecDepth 100000 in
theorem clone_sto (A : Option Addr) (c : Nat) (l : List Stowed) (n : Nat) (hn : n = l.length) (w : World) (hA : Rd w w.heap.size 4 A (l.map Stowed.cells)) (hl : l.length <= 1000000) :
 Calls Tryz.prog 84 #[.slice A n c] w fun e w' => ∃ A' c', e = .returned (.slice A' l.length c') /\ OwnS w' w.heap.size 42 4 A' c' (l.map Stowed.cells) /\ Below w.heap.size w w' := by
 subst hn
 cases A with
 | none =>
  have hl0 : l = [] := by
   rcases l with _ | ⟨x, l⟩
   . rfl
   . obtain ⟨_, _, h, _⟩ := hA 0 x.cells rfl;cases h
  subst hl0;have heq := fun w => Go.Lib.run_eql_slice_nil (P := Tryz.prog) w 34 42 none 0 c 0 0 Tryz.underlying34
  go_enter Tryz.func84, Tryz.ntmps84
  go_wp2
  go_ret
  exact ⟨none, 0, rfl, OwnS.nil _ _ _ _, Below.refl _ _⟩
 | some ad =>
  have heq := fun w => Go.Lib.run_eql_slice_nil (P := Tryz.prog) w 34 42 (some ad) l.length c 0 0 Tryz.underlying34;have hb1 : Below w.heap.size w (w.alloc (Obj.cells #[] 42)) := (Below.refl _ _).alloc (Nat.le_refl _) _;have HRD := Lib.hid ((hA.below hb1 (Nat.le_refl _)).more hb1.size);have HOW := Lib.hid (OwnS.empty_new w w.heap.size 42 4 (Nat.le_refl _));have HB1 := Lib.hid hb1;clear hA hb1
  go_enter Tryz.func84, Tryz.ntmps84
  go_wp2_with (first
   | (at_builtin; go_loud (refine wpList_append_n rfl _ _ rfl Stowed.ei 0 rfl rfl HOW.out rfl _ HRD.out (by simp) (Stowed.ones l) (by unfold maxLen; simp; omega) (by simp; omega) HB1.out.size ?_); intro A4 c4 w4 hown4 hg4 hb4))
  go_ret
  exact ⟨A4, c4, by simp, by simpa using hown4, HB1.out.trans hb4⟩
def fonClone : Fon := ⟨84, [.sl .stowed], 0, fun avs es => match avs, es with
 | [x], [] => x.toStos.bind fun l => some ⟨fun _ => (l ()).length <= 1000000, .own 0, [(0, .row true .stowed 42 l)]⟩
 | _, _ => none, false⟩
theorem fonClone_ok : FonOk Tryz.prog fonClone := by
 refine ⟨fun args w => callFunc_ok Tryz.func84 (by kernel_rfl) (by kernel_rfl) args w, fun avs es res h w ρ ra vals hra hE hen hap hfr hown hp => ?_⟩;simp only [fonClone] at h;split at h
 case h_2 => cases h
 rename_i x;simp only [Option.bind_eq_some_iff, Option.some.injEq] at h;obtain ⟨l, e0, rfl⟩ := h;obtain rfl := AV.toStos_ e0;obtain ⟨v0, us0, rfl, hv0, h0⟩ := hE.head;obtain rfl := h0.none;obtain ⟨A0, q0, rfl, hc0, hr0⟩ := hv0.stos;refine (clone_sto A0 q0 (l ()) _ rfl w hr0 hp).mono fun e w' ⟨A', c', k1, k2, k3⟩ => ?_;obtain ⟨ρ1, ra1, hL, hv⟩ := new_row (t := .stowed) (l := l) Stowed.cells (fun _ => rfl) (fun _ => rfl) (fun l => hfr l (Nat.zero_le _)) hra k3 k2;exact ⟨_, ρ1, ra1, k1, hL, hv⟩
section
variable {α : Type}
def swapAt (d : α) (l : List α) (j : Nat) : List α := (l.set (j + 1) (l.getD j d)).set j (l.getD (j + 1) d)
def insDown (lt : α -> α -> Bool) (d : α) (a : Nat) : Nat -> List α -> List α
 | 0, l => l
 | j + 1, l => cond (decide (a < j + 1) && lt (l.getD (j + 1) d) (l.getD j d)) (insDown lt d a j (swapAt d l j)) l
def insUpto (lt : α -> α -> Bool) (d : α) (a : Nat) (l : List α) : Nat -> List α
 | 0 => l
 | n + 1 => insDown lt d a (a + 1 + n) (insUpto lt d a l n)
def insSort (lt : α -> α -> Bool) (d : α) (a b : Nat) (l : List α) : List α := insUpto lt d a l (b - (a + 1))
theorem swapAt_len (d : α) (l : List α) (j : Nat) : (swapAt d l j).length = l.length := by unfold swapAt; simp
theorem insDown_len (lt : α -> α -> Bool) (d : α) (a : Nat) : ∀ (j : Nat) (l : List α), (insDown lt d a j l).length = l.length
 | 0, l => rfl
 | j + 1, l => by
  unfold insDown
  cases decide (a < j + 1) && lt (l.getD (j + 1) d) (l.getD j d) with
  | true => rw [cond_true, insDown_len lt d a j, swapAt_len]
  | false => rfl
theorem insUpto_len (lt : α -> α -> Bool) (d : α) (a : Nat) (l : List α) : ∀ n, (insUpto lt d a l n).length = l.length
 | 0 => rfl
 | n + 1 => by unfold insUpto; rw [insDown_len, insUpto_len lt d a l n]
end
def cmpI (a b : Int) : Int := cond (decide (a < b)) (-1) (cond (decide (b < a)) 1 0)
def conNan : Con := ⟨131, [.int .i64], fun
 | [x0] => (x0.toI).bind fun a => some ⟨fun _ => True, .blit false⟩
 | _ => none⟩
set_option maxRecDepth 100000 in
set_option maxHeartbeats 4000000 in
theorem conNan_ok : ConOk Tryz.prog conNan := by
 refine fnOk [] trivial Tryz.func131 (by kernel_rfl) fun avs res h hp => ?_;simp only [conNan] at h;split at h
 case h_2 => cases h
 rename_i x0;simp only [Option.bind_eq_some_iff, Option.some.injEq] at h;obtain ⟨a, e0, rfl⟩ := h;obtain rfl := AV.toI_ e0;clear e0;obtain ⟨a, rfl⟩ := eta (α := Int) a;refine ⟨[], ?_⟩
 conv => arg 1; cbv
 simp [P_fin, V_one]
def conCmp : Con := ⟨87, [.int .i64, .int .i64], fun
 | [x0, x1] => (x0.toI).bind fun a => (x1.toI).bind fun b => some ⟨fun _ => True, .int .i64 fun _ => cmpI (a ()) (b ())⟩
 | _ => none⟩
set_option maxRecDepth 100000 in
set_option maxHeartbeats 4000000 in
theorem conCmp_ok : ConOk Tryz.prog conCmp := by
 refine fnOk [conNan] ⟨conNan_ok, trivial⟩ Tryz.func87 (by kernel_rfl) fun avs res h hp => ?_;simp only [conCmp] at h;split at h
 case h_2 => cases h
 rename_i x0 x1;simp only [Option.bind_eq_some_iff, Option.some.injEq] at h;obtain ⟨a, e0, b, e1, rfl⟩ := h;obtain rfl := AV.toI_ e0;obtain rfl := AV.toI_ e1;clear e0 e1;obtain ⟨a, rfl⟩ := eta (α := Int) a;obtain ⟨b, rfl⟩ := eta (α := Int) b;refine ⟨[], ?_⟩
 conv => arg 1; cbv
 simp (maxSteps := 4000000) only [P_vc, P_br, P_and, P_fin, V_nil, V_one, V_cons, T_self, castK, succK, Int.toNat_natCast, predK, decide_eq_true_eq, decide_eq_false_iff_not, List.map_cons, List.map_nil, cond_true, cond_false];unfold cmpI;grind
def conLess : Con := ⟨86, [.agg stoSg, .agg stoSg], fun
 | [x0, x1] => (x0.toSto).bind fun x => (x1.toSto).bind fun y => some ⟨fun _ => True, .int .i64 fun _ => cmpI (x ()).tier (y ()).tier⟩
 | _ => none⟩
set_option maxRecDepth 100000 in
set_option maxHeartbeats 4000000 in
theorem conLess_ok : ConOk Tryz.prog conLess := by
 refine fnOk [conCmp] ⟨conCmp_ok, trivial⟩ Tryz.func86 (by kernel_rfl) fun avs res h hp => ?_;simp only [conLess] at h;split at h
 case h_2 => cases h
 rename_i x0 x1;simp only [Option.bind_eq_some_iff, Option.some.injEq] at h;obtain ⟨x, e0, y, e1, rfl⟩ := h;obtain rfl := AV.toSto_ e0;obtain rfl := AV.toSto_ e1;clear e0 e1;obtain ⟨x, rfl⟩ := eta (α := Stowed) x;obtain ⟨y, rfl⟩ := eta (α := Stowed) y;refine ⟨[], ?_⟩
 conv => arg 1; cbv
 simp (maxSteps := 4000000) only [P_vc, P_br, P_and, P_fin, V_nil, V_one, V_cons, T_self, castK, succK, Int.toNat_natCast, predK, decide_eq_true_eq, decide_eq_false_iff_not, List.map_cons, List.map_nil, cond_true, cond_false];exact ⟨trivial, trivial⟩
def lessT (a b : Stowed) : Bool := decide (cmpI a.tier b.tier < 0)
def fonIns : Fon := ⟨170, [.ownr .stowed, .int .i64, .int .i64, .fn []], 1, fun avs es => match avs, es with
 | [.own 0, .int .i64 a, .int .i64 b, .fn f []], [(0, .row false .stowed T l)] => if f = 86 then some ⟨fun _ => 0 <= a () /\ a () <= b () /\ b () <= ((l ()).length : Int) /\ (l ()).length <= 1000000, .tup [], [(0, .row false .stowed T fun _ => insSort lessT Tc.stowed.dflt (a ()).toNat (b ()).toNat (l ()))]⟩ else none
 | _, _ => none, true⟩
def lpIns (T : Nat) (l : List Stowed) (a b : Nat) : Lp where
 X := Nat
 ov n := [(8, .int .i64 fun _ => ((a + 1 + n : Nat) : Int)), (0, .own 0)]
 oe n := [(0, .row false .stowed T fun _ => insUpto lessT Tc.stowed.dflt a l n)]
 I n := n <= b - (a + 1)
 μ n _ := b - (a + 1) - n
 x0 := 0
 nx := some fun n => n + 1
def lpDown (T : Nat) (a i : Nat) (R L1 : List Stowed) : Lp where
 X := Nat × List Stowed
 ov p := [(9, .int .i64 fun _ => (p.1 : Int)), (0, .own 0)]
 oe p := [(0, .row false .stowed T fun _ => p.2)]
 I p := a <= p.1 /\ p.1 <= i /\ p.2.length = R.length /\ insDown lessT Tc.stowed.dflt a p.1 p.2 = R
 μ p _ := p.1
 x0 := (i, L1)
 nx := none
set_option maxRecDepth 100000 in
set_option maxHeartbeats 4000000 in
theorem fonIns_ok : FonOk Tryz.prog fonIns := by
 refine fonOk [conLess] ⟨conLess_ok, trivial⟩ [] trivial Tryz.func170 (by kernel_rfl) fun avs es res h hp => ?_;simp only [fonIns] at h;split at h
 case h_2 => cases h
 split at h
 case isFalse => cases h
 rename_i a b f T l hf;subst hf;cases h;obtain ⟨l, rfl⟩ := eta (α := List Stowed) l;obtain ⟨a, rfl⟩ := eta (α := Int) a;obtain ⟨b, rfl⟩ := eta (α := Int) b;have hZh1 : 0 <= a /\ a <= b /\ b <= (l.length : Int) /\ l.length <= 1000000 := hp;have h1 := hZh1.1;have h2 := hZh1.2.1;have h3 := hZh1.2.2.1;have h4 := hZh1.2.2.2;obtain ⟨a, rfl⟩ := Int.eq_ofNat_of_zero_le h1;obtain ⟨b, rfl⟩ := Int.eq_ofNat_of_zero_le (show 0 <= b by omega);refine ⟨[(1, lpIns T l a b)], ?_⟩
 conv => arg 1; cbv
 refine ⟨⟨by simp only [castK]; omega, by simp only [castK]; omega⟩, ⟨?_, fun (n : Nat) hn => ?_⟩⟩
 . simp (maxSteps := 4000000) only [P_vc, P_br, P_and, P_fin, V_nil, V_one, V_cons, T_self, castK, succK, Int.toNat_natCast, predK, decide_eq_true_eq, decide_eq_false_iff_not, List.map_cons, List.map_nil, cond_true, cond_false];exact ⟨Nat.zero_le _, by omega, rfl⟩
 have hn' : n <= b - (a + 1) := hn
 conv => arg 1; cbv
 refine ⟨fun g1 => ?_, fun g1 => ?_⟩
 . have g1' : a + 1 + n < b := by simp only [decide_eq_true_eq, castK] at g1; omega
   refine nameIt (insUpto lessT Tc.stowed.dflt a l n) fun L1 hL1 => ?_;refine nameIt (a + 1 + n) fun i hi => ?_;refine nameIt (insDown lessT Tc.stowed.dflt a i L1) fun R hR => ?_;have hlen1 : L1.length = l.length := by rw [<- hL1, insUpto_len]
   have hlenR : R.length = l.length := by rw [<- hR, insDown_len, hlen1]
   refine ⟨lpDown T a i R L1, ?_⟩
   conv => arg 1; cbv
   refine ⟨?_, fun (p : Nat × List Stowed) hp => ?_⟩
   . simp (maxSteps := 4000000) only [P_vc, P_br, P_and, P_fin, V_nil, V_one, V_cons, T_self, castK, succK, Int.toNat_natCast, predK, decide_eq_true_eq, decide_eq_false_iff_not, List.map_cons, List.map_nil, cond_true, cond_false];refine ⟨⟨by omega, Nat.le_refl _, by omega, hR⟩, by rw [hi], hL1⟩
   . have hp' : a <= p.1 /\ p.1 <= i /\ p.2.length = R.length /\ insDown lessT Tc.stowed.dflt a p.1 p.2 = R := hp;have p1 := hp'.1;have p2 := hp'.2.1;have p3 := hp'.2.2.1;have p4 := hp'.2.2.2;clear hn hp hp' hZh1;have hup : insUpto lessT Tc.stowed.dflt a l (n + 1) = R := by rw [<- hR, <- hi, <- hL1]; rfl
     have hlast : insDown lessT Tc.stowed.dflt a p.1 p.2 = p.2 -> inI64 (((a + 1 + n : Nat) : Int) + 1) /\ (n + 1 <= b - (a + 1) /\ b - (a + 1) - (n + 1) < b - (a + 1) - n) /\ ((a + 1 + n : Nat) : Int) + 1 = ((a + 1 + (n + 1) : Nat) : Int) /\ p.2 = insUpto lessT Tc.stowed.dflt a l (n + 1) := fun h => by
      rw [p4] at h;exact ⟨⟨by omega, by omega⟩, ⟨by omega, by omega⟩, by omega, by rw [hup, h]⟩
     conv => arg 1; cbv
     refine nameIt (p.1 - 1) fun j hj => ?_;refine nameIt (swapAt Tc.stowed.dflt p.2 j) fun L2 hL2 => ?_;have h5 : (p.2.length : Int) <= 1000000 := by omega
     have hdown : insDown lessT Tc.stowed.dflt a p.1 p.2 = cond (decide (p.1 = 0)) p.2 (cond (decide (a < p.1) && lessT (p.2.getD p.1 Tc.stowed.dflt) (p.2.getD j Tc.stowed.dflt)) (insDown lessT Tc.stowed.dflt a j L2) p.2) := by
      rw [<- hL2]
      cases hc : p.1 with
      | zero => rfl
      | succ m =>
       have : j = m := by omega
       subst this;rfl
     have hlt : p.1 < p.2.length := by omega
     simp (maxSteps := 4000000) only [P_vc, P_br, P_and, P_fin, V_nil, V_one, V_cons, T_self, castK, succK, Int.toNat_natCast, predK, decide_eq_true_eq, decide_eq_false_iff_not, List.map_cons, List.map_nil, cond_true, cond_false];refine ⟨fun g2 => ?_, fun g2 => hlast ?_⟩
     . have g2' : a < p.1 := by omega
       have hj2 : p.1 = j + 1 := by omega
       have hne : decide (p.1 = 0) = false := by simp; omega
       refine ⟨⟨by omega, by omega⟩, ⟨by omega, by omega⟩, ⟨by omega, by omega⟩, trivial, fun g3 => ?_, fun g3 => hlast ?_⟩
       . refine ⟨⟨by omega, by omega⟩, ⟨by omega, by omega⟩, ⟨by omega, by omega⟩, ⟨by omega, by omega⟩, ⟨by omega, by omega⟩, ⟨by omega, by rw [List.length_set]; omega⟩, ⟨by omega, by omega⟩, ⟨(j, L2), ⟨⟨by omega, by omega, ?_, ?_⟩, by omega⟩, ?_⟩⟩
         . rw [<- hL2, swapAt_len]; exact p3
         . rw [hne, cond_false, decide_eq_true g2', Bool.true_and] at hdown;have g3' : lessT (p.2.getD p.1 Tc.stowed.dflt) (p.2.getD j Tc.stowed.dflt) = true := by rw [<- hj]; exact decide_eq_true g3
           rw [g3', cond_true] at hdown;rw [<- hdown];exact p4
         . conv => arg 1; cbv
           simp (maxSteps := 4000000) only [P_vc, P_br, P_and, P_fin, V_nil, V_one, V_cons, T_self, castK, succK, Int.toNat_natCast, predK, decide_eq_true_eq, decide_eq_false_iff_not, List.map_cons, List.map_nil, cond_true, cond_false];refine ⟨by omega, ?_⟩;rw [<- hL2, hj, hj2];rfl
       . rw [hdown, hne, cond_false];have g3' : lessT (p.2.getD p.1 Tc.stowed.dflt) (p.2.getD j Tc.stowed.dflt) = false := by rw [<- hj]; exact decide_eq_false g3
         rw [g3', Bool.and_false, cond_false]
     . have g2' : decide (a < p.1) = false := by simp; omega
       rw [hdown, g2', Bool.false_and, cond_false];cases decide (p.1 = 0) <;> rfl
 . simp (maxSteps := 4000000) only [P_vc, P_br, P_and, P_fin, V_nil, V_one, V_cons, T_self, castK, succK, Int.toNat_natCast, predK, decide_eq_true_eq, decide_eq_false_iff_not, List.map_cons, List.map_nil, cond_true, cond_false];have g1' : ¬ a + 1 + n < b := by simp only [decide_eq_false_iff_not, castK] at g1; omega
   unfold insSort;rw [show b - (a + 1) = n by omega]
theorem insSort_len {α : Type} (lt : α -> α -> Bool) (d : α) (a b : Nat) (l : List α) : (insSort lt d a b l).length = l.length := by
 unfold insSort;rw [insUpto_len]
theorem insSort_none {α : Type} (lt : α -> α -> Bool) (d : α) (a b : Nat) (l : List α) (h : b <= a + 1) : insSort lt d a b l = l := by
 unfold insSort;rw [show b - (a + 1) = 0 by omega];rfl
def sortT (l : List Stowed) : List Stowed := insSort lessT Tc.stowed.dflt 0 l.length l
def fonStable : Fon := ⟨130, [.ownr .stowed, .int .i64, .fn []], 1, fun avs es => match avs, es with
 | [.own 0, .int .i64 n, .fn f []], [(0, .row false .stowed T l)] => if f = 86 then some ⟨fun _ => n () = ((l ()).length : Int) /\ (l ()).length <= 20, .tup [], [(0, .row false .stowed T fun _ => sortT (l ()))]⟩ else none
 | _, _ => none, true⟩
def stBlk (l : List Stowed) (q : Nat) : List Stowed := cond (decide (q = 0)) l (insSort lessT Tc.stowed.dflt 0 20 l)
theorem stBlk_len (l : List Stowed) (q : Nat) : (stBlk l q).length = l.length := by
 unfold stBlk;cases decide (q = 0)
 . rw [cond_false, insSort_len]
 . rw [cond_true]
theorem stBlk_one (l : List Stowed) : stBlk l 1 = insSort lessT Tc.stowed.dflt (20 * ((0 : Nat) : Int)).toNat (20 * ((0 : Nat) : Int) + 20).toNat (stBlk l 0) := by
 have h1 : (20 * ((0 : Nat) : Int)).toNat = 0 := by omega
 have h2 : (20 * ((0 : Nat) : Int) + 20).toNat = 20 := by omega
 rw [h1, h2];unfold stBlk;rw [show decide ((1 : Nat) = 0) = false by decide, show decide ((0 : Nat) = 0) = true by decide, cond_false, cond_true]
theorem stBlk_zero (l : List Stowed) : insSort lessT Tc.stowed.dflt (20 * ((0 : Nat) : Int)).toNat l.length (stBlk l 0) = sortT l := by
 have h1 : (20 * ((0 : Nat) : Int)).toNat = 0 := by omega
 rw [h1];unfold stBlk sortT;rw [show decide ((0 : Nat) = 0) = true by decide, cond_true]
theorem stBlk_end (l : List Stowed) (h : l.length = 20) : insSort lessT Tc.stowed.dflt (20 * ((1 : Nat) : Int)).toNat l.length (stBlk l 1) = sortT l := by
 have h1 : (20 * ((1 : Nat) : Int)).toNat = 20 := by omega
 rw [h1, insSort_none _ _ _ _ _ (by omega)];unfold stBlk sortT;rw [show decide ((1 : Nat) = 0) = false by decide, cond_false, h]
def lpBlk (T : Nat) (l : List Stowed) : Lp where
 X := Nat
 ov q := [(7, .int .i64 fun _ => 20 * (q : Int)), (8, .int .i64 fun _ => 20 * (q : Int) + 20), (0, .own 0)]
 oe q := [(0, .row false .stowed T fun _ => stBlk l q)]
 I q := q = 0 \/ (q = 1 /\ l.length = 20)
 μ q _ := 1 - q
 x0 := 0
 nx := none
def lpDead : Lp where
 X := Unit
 ov _ := [(6, .int .i64 fun _ => 20)]
 oe _ := []
 I _ := True
 μ _ _ := 0
 x0 := ()
 nx := none
set_option maxRecDepth 100000 in
set_option maxHeartbeats 4000000 in
theorem fonStable_ok : FonOk Tryz.prog fonStable := by
 refine fonOk [] trivial [fonIns] ⟨fonIns_ok, trivial⟩ Tryz.func130 (by kernel_rfl) fun avs es res h hp => ?_;simp only [fonStable] at h;split at h
 case h_2 => cases h
 split at h
 case isFalse => cases h
 rename_i n f T l hf;subst hf;cases h;obtain ⟨l, rfl⟩ := eta (α := List Stowed) l;obtain ⟨n, rfl⟩ := eta (α := Int) n;have hZh1 : n = (l.length : Int) /\ l.length <= 20 := hp;have h1 := hZh1.1;have h2 := hZh1.2;refine ⟨[(2, lpBlk T l), (7, lpDead)], ?_⟩
 conv => arg 1; cbv
 refine ⟨?_, fun (q : Nat) hq => ?_⟩
 . simp (maxSteps := 4000000) only [P_vc, P_br, P_and, P_fin, V_nil, V_one, V_cons, T_self, castK, succK, Int.toNat_natCast, predK, decide_eq_true_eq, decide_eq_false_iff_not, List.map_cons, List.map_nil, cond_true, cond_false];exact ⟨by simp, by simp, by simp, rfl⟩
 have hq' : q = 0 \/ (q = 1 /\ l.length = 20) := hq;have hlen := stBlk_len l q
 conv => arg 1; cbv
 simp (maxSteps := 4000000) only [P_vc, P_br, P_and, P_fin, V_nil, V_one, V_cons, T_self, castK, succK, Int.toNat_natCast, predK, decide_eq_true_eq, decide_eq_false_iff_not, List.map_cons, List.map_nil, cond_true, cond_false];refine ⟨fun g1 => ?_, fun g1 => ?_⟩
 . have hq0 : q = 0 := by omega
   refine ⟨⟨by omega, by omega, by omega, by omega⟩, ⟨by omega, by omega⟩, ⟨1, ⟨⟨.inr ⟨rfl, by omega⟩, by omega⟩, ?_⟩⟩⟩
   conv => arg 1; cbv
   simp (maxSteps := 4000000) only [P_vc, P_br, P_and, P_fin, V_nil, V_one, V_cons, T_self, castK, succK, Int.toNat_natCast, predK, decide_eq_true_eq, decide_eq_false_iff_not, List.map_cons, List.map_nil, cond_true, cond_false];refine ⟨by omega, by omega, ?_⟩;rw [hq0];exact (stBlk_one l).symm
 . refine ⟨⟨by omega, by omega, by omega, by omega⟩, ⟨trivial, trivial⟩, fun (u : Unit) hu => ?_⟩
   conv => arg 1; cbv
   refine ⟨fun g2 => ?_, fun g2 => ?_⟩
   . simp only [decide_eq_true_eq] at g2;omega
   . simp (maxSteps := 4000000) only [P_vc, P_br, P_and, P_fin, V_nil, V_one, V_cons, T_self, castK, succK, Int.toNat_natCast, predK, decide_eq_true_eq, decide_eq_false_iff_not, List.map_cons, List.map_nil, cond_true, cond_false];rw [h1, Int.toNat_natCast];rcases hq' with h3 | ⟨h3, h4⟩
     . rw [h3];exact stBlk_zero l
     . rw [h3];exact stBlk_end l h4
def fonSort : Fon := ⟨85, [.ownr .stowed, .fn []], 1, fun avs es => match avs, es with
 | [.own 0, .fn f []], [(0, .row false .stowed T l)] => if f = 86 then some ⟨fun _ => (l ()).length <= 20, .tup [], [(0, .row false .stowed T fun _ => sortT (l ()))]⟩ else none
 | _, _ => none, true⟩
set_option maxRecDepth 100000 in
set_option maxHeartbeats 4000000 in
theorem fonSort_ok : FonOk Tryz.prog fonSort := by
 refine fonOk [] trivial [fonStable] ⟨fonStable_ok, trivial⟩ Tryz.func85 (by kernel_rfl) fun avs es res h hp => ?_;simp only [fonSort] at h;split at h
 case h_2 => cases h
 split at h
 case isFalse => cases h
 rename_i f T l hf;subst hf;cases h;obtain ⟨l, rfl⟩ := eta (α := List Stowed) l;have hp' : l.length <= 20 := hp;refine ⟨[], ?_⟩
 conv => arg 1; cbv
 simp (maxSteps := 4000000) only [P_vc, P_br, P_and, P_fin, V_nil, V_one, V_cons, T_self, castK, succK, Int.toNat_natCast, predK, decide_eq_true_eq, decide_eq_false_iff_not, List.map_cons, List.map_nil, cond_true, cond_false];exact ⟨⟨trivial, hp'⟩, trivial⟩
/- sorting changes the order only -/
theorem swapAt_perm {α : Type} (d : α) (l : List α) (j : Nat) (h : j + 1 < l.length) : (swapAt d l j).Perm l := by
 unfold swapAt;have e1 : l.getD j d = l[j] := by rw [List.getD_eq_getElem?_getD, List.getElem?_eq_getElem (by omega), Option.getD_some]
 have e2 : l.getD (j + 1) d = l[j + 1] := by rw [List.getD_eq_getElem?_getD, List.getElem?_eq_getElem h, Option.getD_some]
 rw [e1, e2];have : l = l.take j ++ l[j] :: l[j + 1] :: l.drop (j + 2) := by
  rw [List.getElem_cons_drop, List.getElem_cons_drop, List.take_append_drop]
 have h3 : (l.set (j + 1) l[j]).set j l[j + 1] = l.take j ++ l[j + 1] :: l[j] :: l.drop (j + 2) := by
  apply List.ext_getElem?;intro i;rw [List.getElem?_set, List.getElem?_set, List.getElem?_append];simp only [List.length_set, List.length_take];grind
 rw [h3]
 conv => rhs; rw [this]
 exact List.Perm.append_left _ (List.Perm.swap _ _ _)
theorem insDown_perm {α : Type} (lt : α -> α -> Bool) (d : α) (a : Nat) : ∀ (j : Nat) (l : List α), j < l.length -> (insDown lt d a j l).Perm l
 | 0, l, _ => List.Perm.refl _
 | j + 1, l, h => by
  unfold insDown
  cases decide (a < j + 1) && lt (l.getD (j + 1) d) (l.getD j d) with
  | true =>
   rw [cond_true];exact (insDown_perm lt d a j _ (by rw [swapAt_len]; omega)).trans (swapAt_perm d l j h)
  | false => exact List.Perm.refl _
theorem insUpto_perm {α : Type} (lt : α -> α -> Bool) (d : α) (a : Nat) (l : List α) : ∀ n, a + 1 + n <= l.length \/ n = 0 -> (insUpto lt d a l n).Perm l
 | 0, _ => List.Perm.refl _
 | n + 1, h => by
  unfold insUpto;exact (insDown_perm lt d a _ _ (by rw [insUpto_len]; omega)).trans (insUpto_perm lt d a l n (by omega))
theorem sortT_perm (l : List Stowed) : (sortT l).Perm l := insUpto_perm _ _ _ _ _ (by omega)
def conBoxValid : Con := ⟨83, [.sl .box], fun
 | [x0] => (x0.toBoxes).bind fun l => some ⟨fun _ => (l ()).length <= 1000000000000 /\ ∀ b ∈ l (), b.num.size <= 140737488351232, .tup [.int .i64 fun _ => (boxValid (l ())).1, .int .i64 fun _ => (boxValid (l ())).2]⟩
 | _ => none⟩
def seenM (l : List Box) : Nat -> List Kx -> Option Int
 | 0 => fun _ => none
 | k + 1 => cond (decide (((l.getD k Tc.box.dflt).num) = noText)) (seenM l k) (setM (seenM l k) [.s (l.getD k Tc.box.dflt).num] (k : Int))
def lpV (l : List Box) : Lp where
 X := Nat
 ov k := [(16, .int .i64 fun _ => (k : Int)), (5, .int .i64 fun _ => lastId l k)]
 oe k := [(0, .map true false (.one .str) .int 211 fun _ => seenM l k)]
 I k := k <= l.length /\ ∀ j, j < k -> boxBad l j = false
 μ k _ := l.length - k
 x0 := 0
 nx := some fun k => k + 1
theorem seenM_seenN (l : List Box) (s : ByteArray) : ∀ k, k <= l.length -> (seenM l k [.s s]).isSome = seenN l k s
 | 0, _ => by rw [seenN_zero]; rfl
 | k + 1, hk => by
  have ih := seenM_seenN l s k (by omega);have hnn : noNum = noText := rfl;rw [seenN_succ l k s (by omega), <- ih, hnn];have e : l.getD k Tc.box.dflt = l[k] := by simp [List.getD_eq_getElem?_getD, List.getElem?_eq_getElem (show k < l.length by omega)]
  have hu : seenM l (k + 1) = cond (decide ((l.getD k Tc.box.dflt).num = noText)) (seenM l k) (setM (seenM l k) [.s (l.getD k Tc.box.dflt).num] (k : Int)) := rfl;rw [hu, e];by_cases hn : l[k].num = noText
  . simp only [hn, decide_true, cond_true, Bool.not_true, Bool.false_and, Bool.or_false]
  . simp only [hn, decide_false, cond_false, Bool.not_false, Bool.true_and];unfold setM;by_cases hs : l[k].num = s
    . simp only [hs, if_true, Option.isSome_some, decide_true, Bool.or_true]
    . have : ¬ [Kx.s s] = [Kx.s l[k].num] := by simpa using fun e => hs e.symm
      simp only [hs, this, if_false, decide_false, Bool.or_false]
set_option maxRecDepth 100000 in
set_option maxHeartbeats 4000000 in
theorem conBoxValid_ok : ConOk Tryz.prog conBoxValid := by
 refine fnOk [conBoxRight] ⟨conBoxRight_ok, trivial⟩ Tryz.func83 (by kernel_rfl) fun avs res h hp => ?_;simp only [conBoxValid] at h;split at h
 case h_2 => cases h
 rename_i x0;simp only [Option.bind_eq_some_iff, Option.some.injEq] at h;obtain ⟨l, e0, rfl⟩ := h;obtain rfl := AV.toBoxes_ e0;clear e0;obtain ⟨l, rfl⟩ := eta (α := List Box) l;have hZhp1 : l.length <= 1000000000000 /\ ∀ b ∈ l, b.num.size <= 140737488351232 := hp;have hp1 := hZhp1.1;have hp2 := hZhp1.2;refine ⟨[(5, lpV l)], ?_⟩
 conv => arg 1; cbv
 refine ⟨fun h1 => ?_, fun h1 => ⟨?_, fun (k : Nat) hk => ?_⟩⟩
 . simp only [decide_eq_true_eq, castK] at h1;have h2 : boxValid l = (-1, 5) := by unfold boxValid; rw [if_pos (by omega)]
   simp only [P_fin, V_cons, V_one, h2, and_self]
 . refine ⟨⟨Nat.zero_le _, fun j hj => absurd hj (Nat.not_lt_zero j)⟩, ?_⟩;simp only [P_fin, V_cons, V_one, T_self];exact ⟨rfl, (lastId_zero l).symm, rfl⟩
 . conv => arg 1; cbv
   have hZhk1 : k <= l.length /\ ∀ j, j < k -> boxBad l j = false := hk;have hk1 := hZhk1.1;have hk2 := hZhk1.2;have h5 : l.length <= 2000 := by simp only [decide_eq_false_iff_not, castK] at h1; omega
   simp only [P_vc, P_br, P_fin, V_one, V_cons, T_self, castK, succK, Int.toNat_natCast, decide_eq_true_eq, decide_eq_false_iff_not, seenM_seenN l _ k hk1];refine ⟨fun h2 => ⟨by omega, ?_⟩, fun h2 => ?_⟩
   . have hlt : k < l.length := by omega
     have e : l.getD k Tc.box.dflt = l[k] := by simp [List.getD_eq_getElem?_getD, List.getElem?_eq_getElem hlt]
     have hbad : boxBad l k = (seenN l k l[k].num || decide (l[k].id <= lastId l k) || !boxB l[k]) := by unfold boxBad; rw [List.getElem?_eq_getElem hlt]
     simp only [e];have hf : boxBad l k = true -> (k : Int) = (boxValid l).1 /\ 60 = (boxValid l).2 := fun h => by rw [boxValid_found h5 hlt hk2 h]; exact ⟨rfl, rfl⟩
     refine ⟨fun h3 => hf (by rw [hbad, h3]; rfl), fun h3 => ⟨fun h4 => hf (by rw [hbad, h3]; simp [h4]), fun h4 => ⟨hp2 _ (List.getElem_mem hlt), fun h6 => hf ?_, fun h6 => ?_⟩⟩⟩
     . rw [hbad];have h6' : (!boxB l[k]) = true := h6;rw [h6'];simp
     . have h6' : (!boxB l[k]) = false := h6;have hgood : boxBad l k = false := by rw [hbad, h3, h6']; simp [h4]
       have hI : k + 1 <= l.length /\ ∀ j, j < k + 1 -> boxBad l j = false := ⟨hlt, fun j hj => by
        rcases Nat.lt_or_ge j k with h | h
        . exact hk2 j h
        . rw [show j = k by omega]; exact hgood⟩
       have hM : seenM l (k + 1) = cond (decide (l[k].num = noText)) (seenM l k) (setM (seenM l k) [.s l[k].num] (k : Int)) := by
        show cond _ _ _ = _
        rw [e]
       have hrest : inI64 ((k : Int) + 1) /\ ((k + 1 <= l.length /\ ∀ j, j < k + 1 -> boxBad l j = false) /\ l.length - (k + 1) < l.length - k) /\ (k : Int) + 1 = ((k + 1 : Nat) : Int) /\ l[k].id = lastId l (k + 1) := ⟨⟨by omega, by omega⟩, ⟨hI, by omega⟩, by omega, (lastId_succ l k hlt).symm⟩
       refine ⟨fun h7 => ⟨hrest.1, hrest.2.1, hrest.2.2.1, hrest.2.2.2, ?_⟩, fun h7 => ⟨hrest.1, hrest.2.1, hrest.2.2.1, hrest.2.2.2, ?_⟩⟩
       . have h8 : (!decide (l[k].num = noText)) = true := h7;have h7' : decide (l[k].num = noText) = false := by simpa using h8
         rw [hM, h7'];rfl
       . have h8 : (!decide (l[k].num = noText)) = false := h7;have h7' : decide (l[k].num = noText) = true := by simpa using h8
         rw [hM, h7'];rfl
   . have : k = l.length := by omega
     subst this;rw [boxValid_none h5 hk2];exact ⟨rfl, rfl⟩
def hsOf (h : Int) : List Int := cond (decide (h = 1)) [1] (cond (decide (h = 2)) [2] [1, 2])
def topKey (c h : Int) : List Kx := [.i .i64 c, .i .i64 h]
def bump (t c : Int) (m : List Kx -> Option Int) (hs : List Int) : List Kx -> Option Int := hs.foldl (fun m h => setM m (topKey c h) ((m (topKey c h)).getD 0 + t)) m
def topStep (bs : List Box) (m : List Kx -> Option Int) (x : Stowed) : List Kx -> Option Int := bump (tallB (findV bs x.box).1) x.col m (hsOf x.half)
def topsM (bs : List Box) (l : List Stowed) : List Kx -> Option Int := l.foldl (topStep bs) fun _ => none
def midX (c : Col) (h : Int) : Int := cond (decide (h = 1)) (c.x + 3050) (cond (decide (h = 2)) (c.x - 3050) c.x)
def midOf (cs : List Col) (bs : List Box) (m : List Kx -> Option Int) (x : Stowed) : Mid :=
 ⟨(findV bs x.box).1, midX (cs.getD x.col.toNat Tc.col.dflt) x.half, (cs.getD x.col.toNat Tc.col.dflt).y, 2 * ((cs.getD x.col.toNat Tc.col.dflt).z + (m (topKey x.col ((hsOf x.half).headD 0))).getD 0) + tallB (findV bs x.box).1⟩
def midsK (cs : List Col) (bs : List Box) (l : List Stowed) (k : Nat) : List Mid := (List.range k).map fun j => midOf cs bs (topsM bs (l.take j)) (l.getD j Tc.stowed.dflt)
def midsL (cs : List Col) (bs : List Box) (l : List Stowed) : List Mid := midsK cs bs l l.length
theorem midsK_succ (cs : List Col) (bs : List Box) (l : List Stowed) (k : Nat) : midsK cs bs l (k + 1) = midsK cs bs l k ++ [midOf cs bs (topsM bs (l.take k)) (l.getD k Tc.stowed.dflt)] := by
 unfold midsK;rw [List.range_succ, List.map_append];rfl
theorem midsK_len (cs : List Col) (bs : List Box) (l : List Stowed) (k : Nat) : (midsK cs bs l k).length = k := by unfold midsK; simp
theorem topsM_more {bs : List Box} {l : List Stowed} {k : Nat} (h : k < l.length) : topsM bs (l.take (k + 1)) = topStep bs (topsM bs (l.take k)) (l.getD k Tc.stowed.dflt) := by
 unfold topsM;rw [take_getD Tc.stowed.dflt h, List.foldl_append];rfl
theorem bump_bound {t c B : Int} (ht : 0 <= t /\ t <= 2896) : ∀ (hs : List Int) (m : List Kx -> Option Int), (∀ k, 0 <= (m k).getD 0 /\ (m k).getD 0 <= B) -> ∀ k, 0 <= ((bump t c m hs) k).getD 0 /\ ((bump t c m hs) k).getD 0 <= B + 2896 * (hs.length : Int)
 | [], m, h, k => by have := h k; simpa [bump] using this
 | x :: hs, m, h, k => by
  have h2 : ∀ k, 0 <= ((setM m (topKey c x) ((m (topKey c x)).getD 0 + t)) k).getD 0 /\ ((setM m (topKey c x) ((m (topKey c x)).getD 0 + t)) k).getD 0 <= B + 2896 := fun k => by
   have h3 := h k;have h4 := h (topKey c x);unfold setM;split
   . simp only [Option.getD_some]; omega
   . omega
  have h5 := bump_bound (c := c) (B := B + 2896) ht hs _ h2 k;have e : bump t c m (x :: hs) = bump t c (setM m (topKey c x) ((m (topKey c x)).getD 0 + t)) hs := rfl;rw [e];simp only [List.length_cons];omega
theorem hsOf_len (h : Int) : (hsOf h).length <= 2 /\ 1 <= (hsOf h).length := by
 unfold hsOf;cases decide (h = 1) <;> cases decide (h = 2) <;> simp
theorem tops_bound (bs : List Box) (l : List Stowed) (k : List Kx) : 0 <= (topsM bs l k).getD 0 /\ (topsM bs l k).getD 0 <= 5792 * (l.length : Int) := by
 have : ∀ (l : List Stowed) (m : List Kx -> Option Int) (B : Int), (∀ k, 0 <= (m k).getD 0 /\ (m k).getD 0 <= B) -> ∀ k, 0 <= (l.foldl (topStep bs) m k).getD 0 /\ (l.foldl (topStep bs) m k).getD 0 <= B + 5792 * (l.length : Int) := by
  intro l
  induction l with
  | nil => intro m B h k; simpa using h k
  | cons x l ih =>
   intro m B h k;have h1 := bump_bound (c := x.col) (tallB_bound (findV bs x.box).1) (hsOf x.half) m h;have h2 := hsOf_len x.half;have h3 := ih (topStep bs m x) (B + 5792) (fun k => by
    have := h1 k;unfold topStep
    omega) k
   simp only [List.foldl_cons, List.length_cons];omega
 have := this l (fun _ => none) 0 (fun k => by simp) k;unfold topsM;omega
theorem stow_col {s : Shp} {bs : List Box} {l : List Stowed} {x : Stowed} (h : stowB s bs l = true) (hx : x ∈ l) : 0 <= x.col /\ x.col < (s.cols.length : Int) := by
 obtain ⟨k, hk, rfl⟩ := List.getElem_of_mem hx;unfold stowB at h;simp only [Bool.and_eq_true, decide_eq_true_eq] at h;have h1 := h.2.1 k hk;unfold stowAt slotOk at h1;have e : l.getD k Tc.stowed.dflt = l[k] := by rw [List.getD_eq_getElem?_getD, List.getElem?_eq_getElem hk, Option.getD_some]
 rw [e] at h1;simp only [Bool.and_eq_true, decide_eq_true_eq] at h1;exact ⟨h1.2.1.1.1, h1.2.1.1.2.1⟩
theorem ship_col {s : Shp} (h : shipB s = true) {k : Nat} (hk : k < s.cols.length) : (-500000 <= (s.cols.getD k Tc.col.dflt).x /\ (s.cols.getD k Tc.col.dflt).x <= 500000) /\ (-500000 <= (s.cols.getD k Tc.col.dflt).y /\ (s.cols.getD k Tc.col.dflt).y <= 500000) /\ (-500000 <= (s.cols.getD k Tc.col.dflt).z /\ (s.cols.getD k Tc.col.dflt).z <= 500000) := by
 unfold shipB at h;simp only [Bool.and_eq_true] at h;have h6 := List.all_eq_true.1 h.2.1 _ (getD_mem Tc.col.dflt hk);generalize s.cols.getD k Tc.col.dflt = c at *
 unfold colB at h6;simp only [Bool.and_eq_true] at h6;have hx := List.all_eq_true.1 h6.2 ⟨c.x, -500000, 500000⟩ (by simp [colSpans]);have hy := List.all_eq_true.1 h6.2 ⟨c.y, -500000, 500000⟩ (by simp [colSpans]);have hz := List.all_eq_true.1 h6.2 ⟨c.z, -500000, 500000⟩ (by simp [colSpans]);unfold spnB at hx hy hz;simp only [Bool.and_eq_true, decide_eq_true_eq] at hx hy hz;exact ⟨hx, hy, hz⟩
def cargoB (s : Shp) (bs : List Box) (l : List Stowed) : Bool := decide ((boxValid bs).2 = 0) && stowB s bs l
def boxesPre (bs : List Box) : Prop := bs.length <= 1000000000000 /\ ∀ b ∈ bs, b.num.size <= 140737488351232
def conMiddles : Con := ⟨44, [.agg shipSg, .sl .box, .sl .stowed], fun
 | [x0, x1, x2] => (x0.toShip).bind fun s => (x1.toBoxes).bind fun bs => (x2.toStos).bind fun l => some ⟨fun _ => shipPre (s ()) /\ boxesPre (bs ()) /\ (l ()).length <= 20, .tup [.sl true .mid fun _ => cond (cargoB (s ()) (bs ()) (l ())) (midsL (s ()).cols (bs ()) (sortT (l ()))) [], .bool fun _ => cargoB (s ()) (bs ()) (l ())]⟩
 | _ => none⟩
def lpMid (cs : List Col) (bs : List Box) (L : Unit -> List Stowed) : Lp where
 X := Nat
 ov k := [(42, .int .i64 fun _ => (k : Int)), (11, .own 3)]
 oe k := [(2, .map true false (.arr 2 (.int .i64)) .int 168 fun _ => topsM bs ((L ()).take k)), (3, .row true .mid 112 fun _ => midsK cs bs (L ()) k)]
 I k := k <= (L ()).length
 μ k _ := (L ()).length - k
 x0 := 0
 nx := some fun k => k + 1
def lpTop (t c : Unit -> Int) (m : Unit -> List Kx -> Option Int) (hs : Unit -> List Int) : Lp where
 X := Nat
 ov j := [(106, .int .i64 fun _ => (j : Int))]
 oe j := [(2, .map true false (.arr 2 (.int .i64)) .int 168 fun _ => bump (t ()) (c ()) (m ()) ((hs ()).take j))]
 I j := j <= (hs ()).length
 μ j _ := (hs ()).length - j
 x0 := 0
 nx := some fun j => j + 1
theorem box_eta (b : Box) : (⟨b.id, b.num, b.size, b.high, b.kilos, b.load, b.dis, b.cls, b.reefer⟩ : Box) = b := rfl
theorem bump_more {t c : Int} {m : List Kx -> Option Int} {hs : List Int} {j : Nat} (h : j < hs.length) : setM (bump t c m (hs.take j)) [Kx.i .i64 c, Kx.i .i64 (hs.getD j Tc.u8.dflt)] ((bump t c m (hs.take j) [Kx.i .i64 c, Kx.i .i64 (hs.getD j Tc.u8.dflt)]).getD Tc.int.dflt + t) = bump t c m (hs.take (j + 1)) := by
 unfold bump;rw [take_getD (Tc.u8.dflt) h, List.foldl_append];rfl
theorem all_true {A B C D E : Prop} (hA : A) (hB : B) (hC : C) (hD : D) (hE : E) : A = True /\ B = True /\ C = True /\ D = True /\ E = True := ⟨eq_true hA, eq_true hB, eq_true hC, eq_true hD, eq_true hE⟩
set_option maxRecDepth 100000 in
set_option maxHeartbeats 4000000 in
theorem conMiddles_ok : ConOk Tryz.prog conMiddles := by
 refine fnOkK [] [(8, [1, 2, 3, 10, 11]), (22, [1, 3, 10, 11, 13, 14, 17, 18, 40, 41, 42]), (27, [10, 11, 17, 42])] [(21, schList [0, 1, 2, 3, 4, 5, 6, 7, 8, 9, 10, 11, 12, 13, 14, 15, 16, 17, 18] .nil), (25, schList [0, 1, 2, 4, 5] (.alt (.op 3 (.alt (.op 6 (.alt (schList [7, 8, 9, 10, 11, 12, 13] .nil) (.op 8 (.alt (schList [7, 9, 10, 11, 12, 13] .nil) (.op 9 (.alt (schList [7, 10, 11, 12, 13] .nil) (schList [11, 12, 7, 10, 13] .nil))))))) (.op 8 (.alt (.op 6 (.alt (schList [7, 9, 10, 11, 12, 13] .nil) (.op 9 (.alt (schList [7, 10, 11, 12, 13] .nil) (schList [11, 12, 7, 10, 13] .nil))))) (schList [9, 6] (.alt (schList [7, 10, 11, 12, 13] .nil) (schList [11, 12, 7, 10, 13] .nil))))))) (.op 8 (.alt (.op 3 (.alt (.op 6 (.alt (schList [7, 9, 10, 11, 12, 13] .nil) (.op 9 (.alt (schList [7, 10, 11, 12, 13] .nil) (schList [11, 12, 7, 10, 13] .nil))))) (schList [9, 6] (.alt (schList [7, 10, 11, 12, 13] .nil) (schList [11, 12, 7, 10, 13] .nil))))) (schList [9, 3, 6] (.alt (schList [7, 10, 11, 12, 13] .nil) (schList [11, 12, 7, 10, 13] .nil)))))))] [conBoxValid, conStowRight, conBoxFind, conBoxHeight] ⟨conBoxValid_ok, conStowRight_ok, conBoxFind_ok, conBoxHeight_ok, trivial⟩ [fonClone, fonSort] ⟨fonClone_ok, fonSort_ok, trivial⟩ Tryz.func44 (by kernel_rfl) fun avs res h hp => ?_;simp only [conMiddles] at h;split at h
 case h_2 => cases h
 rename_i x0 x1 x2;simp only [Option.bind_eq_some_iff, Option.some.injEq] at h;obtain ⟨s, e0, bs, e1, l, e2, rfl⟩ := h;obtain rfl := AV.toShip_ e0;obtain rfl := AV.toBoxes_ e1;obtain rfl := AV.toStos_ e2;clear e0 e1 e2;obtain ⟨s, rfl⟩ := eta (α := Shp) s;obtain ⟨bs, rfl⟩ := eta (α := List Box) bs;obtain ⟨l, rfl⟩ := eta (α := List Stowed) l;have hp' : shipPre s /\ boxesPre bs /\ l.length <= 20 := hp;have h1 := hp'.1;have h2 := hp'.2.1;have h3 := hp'.2.2;have hsl : (sortT l).length = l.length := (sortT_perm l).length_eq;clear hp hp';refine ⟨[(9, lpMid s.cols bs fun _ => sortT l)], ?_⟩
 conv => arg 1; cbv
 refine ⟨h2, fun g1 => ?_, fun g1 => ⟨⟨h1, h2.1, Nat.le_trans h3 (by decide)⟩, fun g2 => ?_, fun g2 => ⟨Nat.le_trans h3 (by decide), h3, ?_, fun (k : Nat) hk => ?_⟩⟩⟩
 . have g1' : (!decide ((boxValid bs).2 = 0)) = true := g1;have hc : cargoB s bs l = false := by
    unfold cargoB;simp only [Bool.not_eq_true'] at g1';rw [g1'];rfl
   simp (maxSteps := 4000000) only [P_vc, P_br, P_and, P_fin, V_nil, V_one, V_cons, T_self, castK, succK, Int.toNat_natCast, predK, decide_eq_true_eq, decide_eq_false_iff_not, List.map_cons, List.map_nil, cond_true, cond_false];rw [hc];exact ⟨rfl, rfl⟩
 . have g2' : (!stowB s bs l) = true := g2;have hc : cargoB s bs l = false := by
    unfold cargoB;simp only [Bool.not_eq_true'] at g2';rw [g2', Bool.and_false]
   simp (maxSteps := 4000000) only [P_vc, P_br, P_and, P_fin, V_nil, V_one, V_cons, T_self, castK, succK, Int.toNat_natCast, predK, decide_eq_true_eq, decide_eq_false_iff_not, List.map_cons, List.map_nil, cond_true, cond_false];rw [hc];exact ⟨rfl, rfl⟩
 . simp (maxSteps := 4000000) only [P_vc, P_br, P_and, P_fin, V_nil, V_one, V_cons, T_self, castK, succK, Int.toNat_natCast, predK, decide_eq_true_eq, decide_eq_false_iff_not, List.map_cons, List.map_nil, cond_true, cond_false];exact ⟨Nat.zero_le _, rfl, rfl, rfl⟩
 have g1' : (!decide ((boxValid bs).2 = 0)) = false := g1;have g2' : (!stowB s bs l) = false := g2;simp only [Bool.not_eq_false'] at g1' g2';have hc : cargoB s bs l = true := by
  unfold cargoB;rw [g1', g2'];rfl
 have hk' : k <= (sortT l).length := hk;have hsB : shipB s = true := by
  unfold stowB at g2';simp only [Bool.and_eq_true] at g2';exact g2'.1
 clear hk g1 g2
 conv => arg 1; cbv
 refine ⟨fun g3 => ?_, fun g3 => ?_⟩
 . have hlt : k < (sortT l).length := by
    have g3' : decide ((k : Int) < ((sortT l).length : Int)) = true := g3;simp only [decide_eq_true_eq] at g3';omega
   have hcol := stow_col g2' ((sortT_perm l).mem_iff.1 (getD_mem Tc.stowed.dflt hlt));have hcc := ship_col hsB (k := ((sortT l).getD k Tc.stowed.dflt).col.toNat) (by omega);have htop := tops_bound bs ((sortT l).take k);have htk : ((sortT l).take k).length <= 20 := by rw [List.length_take]; omega
   refine ⟨⟨Int.natCast_nonneg k, of_decide_eq_true g3⟩, h2.1, hcol, fun g4 => ?_, fun g4 => ⟨fun g5 => ?_, fun g5 => ?_⟩⟩
   . have gh : ((sortT l).getD k Tc.stowed.dflt).half = 1 := of_decide_eq_true g4;refine ⟨⟨by simp only [castK, Int.toNat_natCast]; omega, by simp only [castK, Int.toNat_natCast]; omega⟩, ?_⟩;have hd0 : (Tc.int.dflt : Int) = 0 := rfl;have h9 := htop [Kx.i .i64 ((sortT l).getD k Tc.stowed.dflt).col, Kx.i .i64 (([((sortT l).getD k Tc.stowed.dflt).half]).getD (Int.toNat 0) Tc.u8.dflt)];have ht := tallB_bound (findV bs ((sortT l).getD k Tc.stowed.dflt).box).1;refine ⟨⟨Int.le_refl 0, by simp⟩, (show inI64 (([((sortT l).getD k Tc.stowed.dflt).half]).getD (Int.toNat 0) Tc.u8.dflt) from by rw [show [((sortT l).getD k Tc.stowed.dflt).half].getD (Int.toNat 0) Tc.u8.dflt = ((sortT l).getD k Tc.stowed.dflt).half from rfl, gh]; exact ⟨by omega, by omega⟩), ?_, ?_, trivial, ?_, ?_⟩
     . simp only [V_one, castK, Int.toNat_natCast, List.map_cons, List.map_nil, hd0];exact ⟨by omega, by omega⟩
     . simp only [V_one, castK, Int.toNat_natCast, List.map_cons, List.map_nil, hd0];exact ⟨by omega, by omega⟩
     . simp only [V_one, castK, Int.toNat_natCast, List.map_cons, List.map_nil, hd0, box_eta];exact ⟨by omega, by omega⟩
     refine ⟨lpTop (fun _ => tallB (findV bs ((sortT l).getD k Tc.stowed.dflt).box).1) (fun _ => ((sortT l).getD k Tc.stowed.dflt).col) (fun _ => topsM bs ((sortT l).take k)) (fun _ => [((sortT l).getD k Tc.stowed.dflt).half]), ?_⟩
     conv => arg 1; cbv
     refine ⟨?_, fun (j : Nat) hj => ?_⟩
     . simp (maxSteps := 4000000) only [P_vc, P_br, P_and, P_fin, V_nil, V_one, V_cons, T_self, castK, succK, Int.toNat_natCast, predK, decide_eq_true_eq, decide_eq_false_iff_not, List.map_cons, List.map_nil, cond_true, cond_false];exact ⟨Nat.zero_le _, rfl, rfl⟩
     have hj' : j <= ([((sortT l).getD k Tc.stowed.dflt).half]).length := hj
     conv => arg 1; cbv
     simp (maxSteps := 4000000) only [P_vc, P_br, P_and, P_fin, V_nil, V_one, V_cons, T_self, castK, succK, Int.toNat_natCast, predK, decide_eq_true_eq, decide_eq_false_iff_not, List.map_cons, List.map_nil, cond_true, cond_false];clear g3 g4 hj h9;have hb1 := fun key => bump_bound (c := ((sortT l).getD k Tc.stowed.dflt).col) (tallB_bound (findV bs ((sortT l).getD k Tc.stowed.dflt).box).1) (([((sortT l).getD k Tc.stowed.dflt).half]).take j) (topsM bs ((sortT l).take k)) htop key;have hmor := fun h => bump_more (t := tallB (findV bs ((sortT l).getD k Tc.stowed.dflt).box).1) (c := ((sortT l).getD k Tc.stowed.dflt).col) (m := topsM bs ((sortT l).take k)) (hs := [((sortT l).getD k Tc.stowed.dflt).half]) (j := j) h;have hmids := midsK_succ s.cols bs (sortT l) k;have htops := topsM_more (bs := bs) hlt;unfold midOf at hmids;unfold topStep at htops;simp only [box_eta];generalize hX : (sortT l).getD k Tc.stowed.dflt = x at *
     generalize hM : topsM bs ((sortT l).take k) = M0 at *
     generalize (findV bs x.box).1 = b at *
     simp only [setM_twice, setM_at, Option.getD_some];refine ⟨fun g6 => ?_, fun g6 => ?_⟩
     . have hs0 : ∀ y ∈ [x.half], 1 <= y /\ y <= 2 := by simp [gh]
       have hs3 : ([x.half]).length <= 2 := by simp
       generalize [x.half] = hs at *
       have h6 : j < hs.length := by omega
       have h7 := hmor h6;have hs1 := hs0 _ (getD_mem Tc.u8.dflt h6);have hs2 : inI64 (hs.getD j Tc.u8.dflt) := ⟨by omega, by omega⟩
       have hs4 : (hs.take j).length <= 2 := by rw [List.length_take]; omega
       have hb2 := hb1 [Kx.i .i64 x.col, Kx.i .i64 (hs.getD j Tc.u8.dflt)];have hb3 : inI64 ((bump (tallB b) x.col M0 (hs.take j) [Kx.i .i64 x.col, Kx.i .i64 (hs.getD j Tc.u8.dflt)]).getD Tc.int.dflt + tallB b) := by
        rw [hd0];exact ⟨by omega, by omega⟩
       obtain ⟨e1, e2, e3, e4, e5⟩ := all_true hb3 (show inI64 ((j : Int) + 1) from ⟨by omega, by omega⟩) (show j + 1 <= hs.length /\ hs.length - (j + 1) < hs.length - j from ⟨by omega, by omega⟩) (show (j : Int) + 1 = ((j + 1 : Nat) : Int) by omega) hs2;simp only [h7, e1, e2, e3, e4, e5, and_self, and_true, true_and];exact ⟨by omega, by omega⟩
     . have hT : ([x.half]).take j = [x.half] := List.take_of_length_le (by omega);have hof : hsOf x.half = [x.half] := by
        unfold hsOf;simp [gh]
       have hmx : midX (s.cols.getD x.col.toNat Tc.col.dflt) x.half = (s.cols.getD x.col.toNat Tc.col.dflt).x + 3050 := by
        unfold midX;simp [gh]
       rw [hT, htops, hmids, hof, hmx];refine ⟨by rw [midsK_len]; simp only [List.length_cons, List.length_nil]; omega, ⟨by omega, by omega⟩, ⟨by omega, by omega⟩, by omega, rfl, rfl⟩
   . have gh : ((sortT l).getD k Tc.stowed.dflt).half = 2 := of_decide_eq_true g5;refine ⟨⟨by simp only [castK, Int.toNat_natCast]; omega, by simp only [castK, Int.toNat_natCast]; omega⟩, ?_⟩;clear g4;have g4 := g5;clear g5;have hd0 : (Tc.int.dflt : Int) = 0 := rfl;have h9 := htop [Kx.i .i64 ((sortT l).getD k Tc.stowed.dflt).col, Kx.i .i64 (([((sortT l).getD k Tc.stowed.dflt).half]).getD (Int.toNat 0) Tc.u8.dflt)];have ht := tallB_bound (findV bs ((sortT l).getD k Tc.stowed.dflt).box).1;refine ⟨⟨Int.le_refl 0, by simp⟩, (show inI64 (([((sortT l).getD k Tc.stowed.dflt).half]).getD (Int.toNat 0) Tc.u8.dflt) from by rw [show [((sortT l).getD k Tc.stowed.dflt).half].getD (Int.toNat 0) Tc.u8.dflt = ((sortT l).getD k Tc.stowed.dflt).half from rfl, gh]; exact ⟨by omega, by omega⟩), ?_, ?_, trivial, ?_, ?_⟩
     . simp only [V_one, castK, Int.toNat_natCast, List.map_cons, List.map_nil, hd0];exact ⟨by omega, by omega⟩
     . simp only [V_one, castK, Int.toNat_natCast, List.map_cons, List.map_nil, hd0];exact ⟨by omega, by omega⟩
     . simp only [V_one, castK, Int.toNat_natCast, List.map_cons, List.map_nil, hd0, box_eta];exact ⟨by omega, by omega⟩
     refine ⟨lpTop (fun _ => tallB (findV bs ((sortT l).getD k Tc.stowed.dflt).box).1) (fun _ => ((sortT l).getD k Tc.stowed.dflt).col) (fun _ => topsM bs ((sortT l).take k)) (fun _ => [((sortT l).getD k Tc.stowed.dflt).half]), ?_⟩
     conv => arg 1; cbv
     refine ⟨?_, fun (j : Nat) hj => ?_⟩
     . simp (maxSteps := 4000000) only [P_vc, P_br, P_and, P_fin, V_nil, V_one, V_cons, T_self, castK, succK, Int.toNat_natCast, predK, decide_eq_true_eq, decide_eq_false_iff_not, List.map_cons, List.map_nil, cond_true, cond_false];exact ⟨Nat.zero_le _, rfl, rfl⟩
     have hj' : j <= ([((sortT l).getD k Tc.stowed.dflt).half]).length := hj
     conv => arg 1; cbv
     simp (maxSteps := 4000000) only [P_vc, P_br, P_and, P_fin, V_nil, V_one, V_cons, T_self, castK, succK, Int.toNat_natCast, predK, decide_eq_true_eq, decide_eq_false_iff_not, List.map_cons, List.map_nil, cond_true, cond_false];clear g3 g4 hj h9;have hb1 := fun key => bump_bound (c := ((sortT l).getD k Tc.stowed.dflt).col) (tallB_bound (findV bs ((sortT l).getD k Tc.stowed.dflt).box).1) (([((sortT l).getD k Tc.stowed.dflt).half]).take j) (topsM bs ((sortT l).take k)) htop key;have hmor := fun h => bump_more (t := tallB (findV bs ((sortT l).getD k Tc.stowed.dflt).box).1) (c := ((sortT l).getD k Tc.stowed.dflt).col) (m := topsM bs ((sortT l).take k)) (hs := [((sortT l).getD k Tc.stowed.dflt).half]) (j := j) h;have hmids := midsK_succ s.cols bs (sortT l) k;have htops := topsM_more (bs := bs) hlt;unfold midOf at hmids;unfold topStep at htops;simp only [box_eta];generalize hX : (sortT l).getD k Tc.stowed.dflt = x at *
     generalize hM : topsM bs ((sortT l).take k) = M0 at *
     generalize (findV bs x.box).1 = b at *
     simp only [setM_twice, setM_at, Option.getD_some];refine ⟨fun g6 => ?_, fun g6 => ?_⟩
     . have hs0 : ∀ y ∈ [x.half], 1 <= y /\ y <= 2 := by simp [gh]
       have hs3 : ([x.half]).length <= 2 := by simp
       generalize [x.half] = hs at *
       have h6 : j < hs.length := by omega
       have h7 := hmor h6;have hs1 := hs0 _ (getD_mem Tc.u8.dflt h6);have hs2 : inI64 (hs.getD j Tc.u8.dflt) := ⟨by omega, by omega⟩
       have hs4 : (hs.take j).length <= 2 := by rw [List.length_take]; omega
       have hb2 := hb1 [Kx.i .i64 x.col, Kx.i .i64 (hs.getD j Tc.u8.dflt)];have hb3 : inI64 ((bump (tallB b) x.col M0 (hs.take j) [Kx.i .i64 x.col, Kx.i .i64 (hs.getD j Tc.u8.dflt)]).getD Tc.int.dflt + tallB b) := by
        rw [hd0];exact ⟨by omega, by omega⟩
       obtain ⟨e1, e2, e3, e4, e5⟩ := all_true hb3 (show inI64 ((j : Int) + 1) from ⟨by omega, by omega⟩) (show j + 1 <= hs.length /\ hs.length - (j + 1) < hs.length - j from ⟨by omega, by omega⟩) (show (j : Int) + 1 = ((j + 1 : Nat) : Int) by omega) hs2;simp only [h7, e1, e2, e3, e4, e5, and_self, and_true, true_and];exact ⟨by omega, by omega⟩
     . have hT : ([x.half]).take j = [x.half] := List.take_of_length_le (by omega);have hof : hsOf x.half = [x.half] := by
        unfold hsOf;simp [gh]
       have hmx : midX (s.cols.getD x.col.toNat Tc.col.dflt) x.half = (s.cols.getD x.col.toNat Tc.col.dflt).x - 3050 := by
        unfold midX;simp [gh]
       rw [hT, htops, hmids, hof, hmx];refine ⟨by rw [midsK_len]; simp only [List.length_cons, List.length_nil]; omega, ⟨by omega, by omega⟩, ⟨by omega, by omega⟩, by omega, rfl, rfl⟩
   . have gh : ¬ ((sortT l).getD k Tc.stowed.dflt).half = 1 /\ ¬ ((sortT l).getD k Tc.stowed.dflt).half = 2 := ⟨of_decide_eq_false g4, of_decide_eq_false g5⟩
     clear g4;have g4 := g5;clear g5;have hd0 : (Tc.int.dflt : Int) = 0 := rfl;have h9 := htop [Kx.i .i64 ((sortT l).getD k Tc.stowed.dflt).col, Kx.i .i64 (([(1 : Int), 2]).getD (Int.toNat 0) Tc.u8.dflt)];have ht := tallB_bound (findV bs ((sortT l).getD k Tc.stowed.dflt).box).1;refine ⟨⟨Int.le_refl 0, by simp⟩, (show inI64 (([(1 : Int), 2]).getD (Int.toNat 0) Tc.u8.dflt) from ⟨by decide, by decide⟩), ?_, ?_, trivial, ?_, ?_⟩
     . simp only [V_one, castK, Int.toNat_natCast, List.map_cons, List.map_nil, hd0];exact ⟨by omega, by omega⟩
     . simp only [V_one, castK, Int.toNat_natCast, List.map_cons, List.map_nil, hd0];exact ⟨by omega, by omega⟩
     . simp only [V_one, castK, Int.toNat_natCast, List.map_cons, List.map_nil, hd0, box_eta];exact ⟨by omega, by omega⟩
     refine ⟨lpTop (fun _ => tallB (findV bs ((sortT l).getD k Tc.stowed.dflt).box).1) (fun _ => ((sortT l).getD k Tc.stowed.dflt).col) (fun _ => topsM bs ((sortT l).take k)) (fun _ => [(1 : Int), 2]), ?_⟩
     conv => arg 1; cbv
     refine ⟨?_, fun (j : Nat) hj => ?_⟩
     . simp (maxSteps := 4000000) only [P_vc, P_br, P_and, P_fin, V_nil, V_one, V_cons, T_self, castK, succK, Int.toNat_natCast, predK, decide_eq_true_eq, decide_eq_false_iff_not, List.map_cons, List.map_nil, cond_true, cond_false];exact ⟨Nat.zero_le _, rfl, rfl⟩
     have hj' : j <= ([(1 : Int), 2]).length := hj
     conv => arg 1; cbv
     simp (maxSteps := 4000000) only [P_vc, P_br, P_and, P_fin, V_nil, V_one, V_cons, T_self, castK, succK, Int.toNat_natCast, predK, decide_eq_true_eq, decide_eq_false_iff_not, List.map_cons, List.map_nil, cond_true, cond_false];clear g3 g4 hj h9;have hb1 := fun key => bump_bound (c := ((sortT l).getD k Tc.stowed.dflt).col) (tallB_bound (findV bs ((sortT l).getD k Tc.stowed.dflt).box).1) (([(1 : Int), 2]).take j) (topsM bs ((sortT l).take k)) htop key;have hmor := fun h => bump_more (t := tallB (findV bs ((sortT l).getD k Tc.stowed.dflt).box).1) (c := ((sortT l).getD k Tc.stowed.dflt).col) (m := topsM bs ((sortT l).take k)) (hs := [(1 : Int), 2]) (j := j) h;have hmids := midsK_succ s.cols bs (sortT l) k;have htops := topsM_more (bs := bs) hlt;unfold midOf at hmids;unfold topStep at htops;simp only [box_eta];generalize hX : (sortT l).getD k Tc.stowed.dflt = x at *
     generalize hM : topsM bs ((sortT l).take k) = M0 at *
     generalize (findV bs x.box).1 = b at *
     simp only [setM_twice, setM_at, Option.getD_some];refine ⟨fun g6 => ?_, fun g6 => ?_⟩
     . have hs0 : ∀ y ∈ [(1 : Int), 2], 1 <= y /\ y <= 2 := by simp [gh]
       have hs3 : ([(1 : Int), 2]).length <= 2 := by simp
       generalize [(1 : Int), 2] = hs at *
       have h6 : j < hs.length := by omega
       have h7 := hmor h6;have hs1 := hs0 _ (getD_mem Tc.u8.dflt h6);have hs2 : inI64 (hs.getD j Tc.u8.dflt) := ⟨by omega, by omega⟩
       have hs4 : (hs.take j).length <= 2 := by rw [List.length_take]; omega
       have hb2 := hb1 [Kx.i .i64 x.col, Kx.i .i64 (hs.getD j Tc.u8.dflt)];have hb3 : inI64 ((bump (tallB b) x.col M0 (hs.take j) [Kx.i .i64 x.col, Kx.i .i64 (hs.getD j Tc.u8.dflt)]).getD Tc.int.dflt + tallB b) := by
        rw [hd0];exact ⟨by omega, by omega⟩
       obtain ⟨e1, e2, e3, e4, e5⟩ := all_true hb3 (show inI64 ((j : Int) + 1) from ⟨by omega, by omega⟩) (show j + 1 <= hs.length /\ hs.length - (j + 1) < hs.length - j from ⟨by omega, by omega⟩) (show (j : Int) + 1 = ((j + 1 : Nat) : Int) by omega) hs2;simp only [h7, e1, e2, e3, e4, e5, and_self, and_true, true_and];exact ⟨by omega, by omega⟩
     . have hT : ([(1 : Int), 2]).take j = [(1 : Int), 2] := List.take_of_length_le (by omega);have hof : hsOf x.half = [(1 : Int), 2] := by
        unfold hsOf;simp [gh]
       have hmx : midX (s.cols.getD x.col.toNat Tc.col.dflt) x.half = (s.cols.getD x.col.toNat Tc.col.dflt).x := by
        unfold midX;simp [gh]
       rw [hT, htops, hmids, hof, hmx];refine ⟨by rw [midsK_len]; simp only [List.length_cons, List.length_nil]; omega, ⟨by omega, by omega⟩, ⟨by omega, by omega⟩, by omega, rfl, rfl⟩
 . have hge : (sortT l).length <= k := by
    have g3' : decide ((k : Int) < ((sortT l).length : Int)) = false := g3;simp only [decide_eq_false_iff_not] at g3';omega
   have hkk : k = (sortT l).length := by omega
   simp (maxSteps := 4000000) only [P_vc, P_br, P_and, P_fin, V_nil, V_one, V_cons, T_self, castK, succK, Int.toNat_natCast, predK, decide_eq_true_eq, decide_eq_false_iff_not, List.map_cons, List.map_nil, cond_true, cond_false];rw [hc, hkk];exact ⟨rfl, rfl⟩
def midIs (id : Int) (m : Mid) : Bool := decide (m.box.id = id)
def conMidIs : Con := ⟨48, [.agg midSg, .pto [.int .i64]], fun
 | [x0, x1] => (x0.toMid).bind fun m => (x1.toPI).bind fun id => some ⟨fun _ => True, .bool fun _ => midIs (id ()) (m ())⟩
 | _ => none⟩
set_option maxRecDepth 100000 in
set_option maxHeartbeats 4000000 in
theorem conMidIs_ok : ConOk Tryz.prog conMidIs := by
 refine fnOk [] trivial Tryz.func48 (by kernel_rfl) fun avs res h hp => ?_;simp only [conMidIs] at h;split at h
 case h_2 => cases h
 rename_i x0 x1;simp only [Option.bind_eq_some_iff, Option.some.injEq] at h;obtain ⟨m, e0, id, e1, rfl⟩ := h;obtain rfl := AV.toMid_ e0;obtain rfl := AV.toPI_ e1;clear e0 e1;obtain ⟨m, rfl⟩ := eta (α := Mid) m;obtain ⟨id, rfl⟩ := eta (α := Int) id;refine ⟨[], ?_⟩
 conv => arg 1; cbv
 simp (maxSteps := 4000000) only [P_vc, P_br, P_and, P_fin, V_nil, V_one, V_cons, T_self, castK, succK, Int.toNat_natCast, predK, decide_eq_true_eq, decide_eq_false_iff_not, List.map_cons, List.map_nil, cond_true, cond_false];rfl
def conIdxMid : Con := ⟨47, [.sl .mid, .fn [.pto [.int .i64]]], fun
 | [x0, x1] => (x0.toMids).bind fun l => (x1.toFPI 48).bind fun id => some ⟨fun _ => (l ()).length <= 1000000, .int .i64 fun _ => idx (midIs (id ())) (l ())⟩
 | _ => none⟩
def lpIdxMid (l : List Mid) (id : Int) : Lp where
 X := Nat
 ov k := [(8, .int .i64 fun _ => (k : Int))]
 oe _ := []
 I k := k <= l.length /\ ∀ j, j < k -> midIs id (l.getD j Tc.mid.dflt) = false
 μ k _ := l.length - k
 x0 := 0
 nx := some fun k => k + 1
set_option maxRecDepth 100000 in
set_option maxHeartbeats 4000000 in
theorem conIdxMid_ok : ConOk Tryz.prog conIdxMid := by
 refine fnOk [conMidIs] ⟨conMidIs_ok, trivial⟩ Tryz.func47 (by kernel_rfl) fun avs res h hp => ?_;simp only [conIdxMid] at h;split at h
 case h_2 => cases h
 rename_i x0 x1;simp only [Option.bind_eq_some_iff, Option.some.injEq] at h;obtain ⟨l, e0, id, e1, rfl⟩ := h;obtain rfl := AV.toMids_ e0;obtain rfl := AV.toFPI_ e1;clear e0 e1;obtain ⟨l, rfl⟩ := eta (α := List Mid) l;obtain ⟨id, rfl⟩ := eta (α := Int) id;have hl : l.length <= 1000000 := hp;refine ⟨[(2, lpIdxMid l id)], ?_⟩
 conv => arg 1; cbv
 refine ⟨?_, fun (k : Nat) hk => ?_⟩
 . simp (maxSteps := 4000000) only [P_vc, P_br, P_and, P_fin, V_nil, V_one, V_cons, T_self, castK, succK, Int.toNat_natCast, predK, decide_eq_true_eq, decide_eq_false_iff_not, List.map_cons, List.map_nil, cond_true, cond_false];simp
 have hZhk1 : k <= l.length /\ ∀ j, j < k -> midIs id (l.getD j Tc.mid.dflt) = false := hk;have hk1 := hZhk1.1;have hk2 := hZhk1.2
 conv => arg 1; cbv
 simp (maxSteps := 4000000) only [P_vc, P_br, P_and, P_fin, V_nil, V_one, V_cons, T_self, castK, succK, Int.toNat_natCast, predK, decide_eq_true_eq, decide_eq_false_iff_not, List.map_cons, List.map_nil, cond_true, cond_false];refine ⟨fun g => ?_, fun g => (idx_no hk2 (by omega)).symm⟩;have hlt : k < l.length := by omega
 exact ⟨by omega, trivial, fun h => (idx_at hk2 hlt h).symm, fun h => ⟨⟨by omega, by omega⟩, ⟨⟨hlt, upto_more hk2 h⟩, by omega⟩, by omega⟩⟩
def midAt (l : List Mid) (i : Int) : Mid := l.getD i.toNat Tc.mid.dflt
def middleF (s : Shp) (bs : List Box) (l : List Stowed) (id : Int) : Int × Int × Int × Int :=
 cond (cargoB s bs l) (cond (decide (idx (midIs id) (midsL s.cols bs (sortT l)) < 0)) (0, 0, 0, 6)
  ((midAt (midsL s.cols bs (sortT l)) (idx (midIs id) (midsL s.cols bs (sortT l)))).x, (midAt (midsL s.cols bs (sortT l)) (idx (midIs id) (midsL s.cols bs (sortT l)))).y, (midAt (midsL s.cols bs (sortT l)) (idx (midIs id) (midsL s.cols bs (sortT l)))).h, 0)) (0, 0, 0, 2)
def conMiddle : Con := ⟨18, [.agg shipSg, .sl .box, .sl .stowed, .int .i64], fun
 | [x0, x1, x2, x3] => (x0.toShip).bind fun s => (x1.toBoxes).bind fun bs => (x2.toStos).bind fun l => (x3.toI).bind fun id => some ⟨fun _ => shipPre (s ()) /\ boxesPre (bs ()) /\ (l ()).length <= 20, .tup [.int .i64 fun _ => (middleF (s ()) (bs ()) (l ()) (id ())).1, .int .i64 fun _ => (middleF (s ()) (bs ()) (l ()) (id ())).2.1, .int .i64 fun _ => (middleF (s ()) (bs ()) (l ()) (id ())).2.2.1, .int .i64 fun _ => (middleF (s ()) (bs ()) (l ()) (id ())).2.2.2]⟩
 | _ => none⟩
set_option maxRecDepth 100000 in
set_option maxHeartbeats 4000000 in
theorem conMiddle_ok : ConOk Tryz.prog conMiddle := by
 refine fnOk [conMiddles, conIdxMid] ⟨conMiddles_ok, conIdxMid_ok, trivial⟩ Tryz.func18 (by kernel_rfl) fun avs res h hp => ?_;simp only [conMiddle] at h;split at h
 case h_2 => cases h
 rename_i x0 x1 x2 x3;simp only [Option.bind_eq_some_iff, Option.some.injEq] at h;obtain ⟨s, e0, bs, e1, l, e2, id, e3, rfl⟩ := h;obtain rfl := AV.toShip_ e0;obtain rfl := AV.toBoxes_ e1;obtain rfl := AV.toStos_ e2;obtain rfl := AV.toI_ e3;clear e0 e1 e2 e3;obtain ⟨s, rfl⟩ := eta (α := Shp) s;obtain ⟨bs, rfl⟩ := eta (α := List Box) bs;obtain ⟨l, rfl⟩ := eta (α := List Stowed) l;obtain ⟨id, rfl⟩ := eta (α := Int) id;have hZh1 : shipPre s /\ boxesPre bs /\ l.length <= 20 := hp;have h1 := hZh1.1;have h2 := hZh1.2.1;have h3 := hZh1.2.2;refine ⟨[], ?_⟩
 conv => arg 1; cbv
 unfold middleF;have hlen : (midsL s.cols bs (sortT l)).length = l.length := by unfold midsL; rw [midsK_len]; exact (sortT_perm l).length_eq
 have hi := idx_cases (midIs id) (midsL s.cols bs (sortT l));generalize midsL s.cols bs (sortT l) = ms at *
 generalize cargoB s bs l = c at *
 simp (maxSteps := 4000000) only [P_vc, P_br, P_and, P_fin, V_nil, V_one, V_cons, T_self, castK, succK, Int.toNat_natCast, predK, decide_eq_true_eq, decide_eq_false_iff_not, List.map_cons, List.map_nil, cond_true, cond_false];unfold midAt;have e0 : idx (midIs id) ([] : List Mid) = -1 := idx_none fun j h => absurd h (by simp);refine ⟨⟨h1, h2, h3⟩, ?_⟩;clear h1 h2 hp hZh1;have hl6 : ms.length <= 1000000 := by omega
 have hix : idx (midIs id) ms < 0 \/ (0 <= idx (midIs id) ms /\ idx (midIs id) ms < (ms.length : Int)) := by
  rcases hi with ⟨h1, _⟩ | ⟨k, h, h1, _⟩ <;> omega
 cases c with
 | false => simp
 | true =>
  rcases hix with h4 | h4
  . have h5 : ¬ 0 <= idx (midIs id) ms := by omega
    simp [h4, h5, hl6]
  . have h5 : ¬ idx (midIs id) ms < 0 := by omega
    simp [h4, h5, hl6]
def colIs (bay row : Int) (deck : Bool) (c : Col) : Bool := decide (c.bay = bay) && (decide (c.row = row) && decide (c.deck = deck))
def toFBIB (f : FuncId) : AV -> Option (Unit -> Int × Int × Bool)
 | .fn g [.pto [.int .i64 a] 0, .pto [.int .i64 b] 0, .pto [.bool c] 0] => if g = f then some fun _ => (a (), b (), c ()) else none
 | _ => none
def conColIs : Con := ⟨121, [.agg colSg, .pto [.int .i64], .pto [.int .i64], .pto [.bool]], fun
 | [x0, x1, x2, x3] => (x0.toCol).bind fun c => (x1.toPI).bind fun a => (x2.toPI).bind fun b => (x3.toPB).bind fun d => some ⟨fun _ => True, .bool fun _ => colIs (a ()) (b ()) (d ()) (c ())⟩
 | _ => none⟩
set_option maxRecDepth 100000 in
set_option maxHeartbeats 4000000 in
theorem conColIs_ok : ConOk Tryz.prog conColIs := by
 refine fnOk [] trivial Tryz.func121 (by kernel_rfl) fun avs res h hp => ?_;simp only [conColIs] at h;split at h
 case h_2 => cases h
 rename_i x0 x1 x2 x3;simp only [Option.bind_eq_some_iff, Option.some.injEq] at h;obtain ⟨c, e0, a, e1, b, e2, d, e3, rfl⟩ := h;obtain rfl := AV.toCol_ e0;obtain rfl := AV.toPI_ e1;obtain rfl := AV.toPI_ e2;obtain rfl := AV.toPB_ e3;clear e0 e1 e2 e3;obtain ⟨c, rfl⟩ := eta (α := Col) c;obtain ⟨a, rfl⟩ := eta (α := Int) a;obtain ⟨b, rfl⟩ := eta (α := Int) b;obtain ⟨d, rfl⟩ := eta (α := Bool) d;refine ⟨[], ?_⟩
 conv => arg 1; cbv
 simp (maxSteps := 4000000) only [P_vc, P_br, P_and, P_fin, V_nil, V_one, V_cons, T_self, castK, succK, Int.toNat_natCast, predK, decide_eq_true_eq, decide_eq_false_iff_not, List.map_cons, List.map_nil, cond_true, cond_false];unfold colIs;grind
def placesK {α : Type} (p : α -> Bool) (d : α) (l : List α) (k : Nat) : List Int := ((List.range k).filter fun j => p (l.getD j d)).map fun (j : Nat) => (j : Int)
theorem placesK_succ {α : Type} (p : α -> Bool) (d : α) (l : List α) (k : Nat) : placesK p d l (k + 1) = placesK p d l k ++ cond (p (l.getD k d)) [(k : Int)] [] := by
 unfold placesK;rw [List.range_succ, List.filter_append, List.map_append];congr 1;cases h : p (l.getD k d) <;> simp [h, -List.getD_eq_getElem?_getD]
theorem placesK_len {α : Type} (p : α -> Bool) (d : α) (l : List α) (k : Nat) : (placesK p d l k).length <= k := by
 unfold placesK;rw [List.length_map];exact Nat.le_trans (List.length_filter_le _ _) (by simp)
def conChosen : Con := ⟨120, [.sl .col, .fn [.pto [.int .i64], .pto [.int .i64], .pto [.bool]]], fun
 | [x0, .fn g [.pto [.int .i64 a] 0, .pto [.int .i64 b] 0, .pto [.bool d] 0]] => (x0.toCols).bind fun l => if g = 121 then some ⟨fun _ => (l ()).length <= 1000000, .sl true .int fun _ => placesK (colIs (a ()) (b ()) (d ())) Tc.col.dflt (l ()) (l ()).length⟩ else none
 | _ => none⟩
def lpChosen (l : List Col) (p : Col -> Bool) : Lp where
 X := Nat
 ov k := [(10, .int .i64 fun _ => (k : Int)), (5, .own 0)]
 oe k := [(0, .row true .int 3 fun _ => placesK p Tc.col.dflt l k)]
 I k := k <= l.length
 μ k _ := l.length - k
 x0 := 0
 nx := some fun k => k + 1
set_option maxRecDepth 100000 in
set_option maxHeartbeats 4000000 in
theorem conChosen_ok : ConOk Tryz.prog conChosen := by
 refine fnOk [conColIs] ⟨conColIs_ok, trivial⟩ Tryz.func120 (by kernel_rfl) fun avs res h hp => ?_;simp only [conChosen] at h;split at h
 case h_2 => cases h
 rename_i x0 g a b d;simp only [Option.bind_eq_some_iff] at h;obtain ⟨l, e0, h⟩ := h;split at h
 case isFalse => cases h
 rename_i hg;subst hg;cases h;obtain rfl := AV.toCols_ e0;clear e0;obtain ⟨l, rfl⟩ := eta (α := List Col) l;obtain ⟨a, rfl⟩ := eta (α := Int) a;obtain ⟨b, rfl⟩ := eta (α := Int) b;obtain ⟨d, rfl⟩ := eta (α := Bool) d;have hl : l.length <= 1000000 := hp;refine nameIt (colIs a b d) fun p hpp => ?_;refine ⟨[(3, lpChosen l p)], ?_⟩
 conv => arg 1; cbv
 refine ⟨?_, fun (k : Nat) hk => ?_⟩
 . simp (maxSteps := 4000000) only [P_vc, P_br, P_and, P_fin, V_nil, V_one, V_cons, T_self, castK, succK, Int.toNat_natCast, predK, decide_eq_true_eq, decide_eq_false_iff_not, List.map_cons, List.map_nil, cond_true, cond_false];exact ⟨Nat.zero_le _, rfl, rfl⟩
 have hk' : k <= l.length := hk
 conv => arg 1; cbv
 simp (maxSteps := 4000000) only [P_vc, P_br, P_and, P_fin, V_nil, V_one, V_cons, T_self, castK, succK, Int.toNat_natCast, predK, decide_eq_true_eq, decide_eq_false_iff_not, List.map_cons, List.map_nil, cond_true, cond_false];simp only [hpp, col_eta];have hlen := placesK_len p Tc.col.dflt l k;have hsu := placesK_succ p Tc.col.dflt l k;refine ⟨fun g1 => ?_, fun g1 => ?_⟩
 . have hlt : k < l.length := by omega
   refine ⟨by omega, trivial, fun h => ?_, fun h => ?_⟩
   . rw [h, cond_true] at hsu;exact ⟨by simp only [List.length_cons, List.length_nil]; omega, ⟨by omega, by omega⟩, ⟨hlt, by omega⟩, by omega, hsu.symm⟩
   . rw [h, cond_false, List.append_nil] at hsu;exact ⟨⟨by omega, by omega⟩, ⟨hlt, by omega⟩, by omega, hsu.symm⟩
 . rw [show k = l.length by omega]
def findC (cs : List Col) (a b : Int) (d : Bool) : List Int := placesK (colIs a b d) Tc.col.dflt cs cs.length
def conFindCol : Con := ⟨80, [.agg shipSg, .int .i64, .int .i64, .bool], fun
 | [x0, x1, x2, x3] => (x0.toShip).bind fun s => (x1.toI).bind fun a => (x2.toI).bind fun b => (x3.toB).bind fun d => some ⟨fun _ => (s ()).cols.length <= 1000000, .tup [.int .i64 fun _ => (findC (s ()).cols (a ()) (b ()) (d ())).headD 0, .bool fun _ => !(findC (s ()).cols (a ()) (b ()) (d ())).isEmpty]⟩
 | _ => none⟩
set_option maxRecDepth 100000 in
set_option maxHeartbeats 4000000 in
theorem conFindCol_ok : ConOk Tryz.prog conFindCol := by
 refine fnOk [conChosen] ⟨conChosen_ok, trivial⟩ Tryz.func80 (by kernel_rfl) fun avs res h hp => ?_;simp only [conFindCol] at h;split at h
 case h_2 => cases h
 rename_i x0 x1 x2 x3;simp only [Option.bind_eq_some_iff, Option.some.injEq] at h;obtain ⟨s, e0, a, e1, b, e2, d, e3, rfl⟩ := h;obtain rfl := AV.toShip_ e0;obtain rfl := AV.toI_ e1;obtain rfl := AV.toI_ e2;obtain rfl := AV.toB_ e3;clear e0 e1 e2 e3;obtain ⟨s, rfl⟩ := eta (α := Shp) s;obtain ⟨a, rfl⟩ := eta (α := Int) a;obtain ⟨b, rfl⟩ := eta (α := Int) b;obtain ⟨d, rfl⟩ := eta (α := Bool) d;have hl : s.cols.length <= 1000000 := hp;refine ⟨[], ?_⟩
 conv => arg 1; cbv
 refine nameIt (findC s.cols a b d) fun L hL => ?_;simp (maxSteps := 4000000) only [P_vc, P_br, P_and, P_fin, V_nil, V_one, V_cons, T_self, castK, succK, Int.toNat_natCast, predK, decide_eq_true_eq, decide_eq_false_iff_not, List.map_cons, List.map_nil, cond_true, cond_false];have hL' : placesK (colIs a b d) Tc.col.dflt s.cols s.cols.length = L := hL;simp only [hL', hL]
 cases L with
 | nil => simp [hl]
 | cons x L => simp [hl]; omega
end Go.Proofs.YtfdjcakgolenbaaGreat
