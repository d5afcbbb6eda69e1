/-
  twistlockref01: div.
-/
import Derived.Test.YtmbfcdnnlpcgfaaGreatMl40
set_option linter.unusedVariables false
set_option linter.unusedSimpArgs false
namespace Go.Proofs.YtmbfcdnnlpcgfaaGreat
open Go.RowKit
theorem calls_less {x y : Nat} {u v : Value} {w : World} (hu : Reads (dig B16 x) u w) (hv : Reads (dig B16 y) v w) (hx : len16 x ≤ 1000000) (hy : len16 y ≤ 1000000) :
 Calls Tryz.prog 192 #[u, v] w fun e w' => e = .returned (.bool (decide (x < y))) ∧ From w w' := by
 obtain ⟨A, c, rfl, h2, _⟩ := hu
 obtain ⟨D, c2, rfl, h4, _⟩ := hv
 exact ref_less A D c c2 x y _ _ rfl rfl w h2 h4 hx hy
theorem calls_sub {x y : Nat} {u v : Value} {w : World} (hu : Reads (dig B16 x) u w) (hv : Reads (dig B16 y) v w) (hx : len16 x ≤ 1000) (hyx : y ≤ x) :
 Calls Tryz.prog 195 #[u, v] w fun e w' => ∃ z, e = .returned z ∧ From w w' ∧ Reads (dig B16 (x - y)) z w' := by
 obtain ⟨A, c, rfl, h2, h3⟩ := hu
 obtain ⟨D, c2, rfl, h4, h5⟩ := hv
 refine (ref_sub A D c c2 x y _ _ rfl rfl w h2 h4 hx hyx).mono ?_
 rintro e w' ⟨A', c', rfl, h6, h7, h8⟩
 exact ⟨_, rfl, h8, A', c', rfl, h6, h7⟩
set_option maxRecDepth 100000 in
set_option maxHeartbeats 4000000 in
theorem ref_div_less {x y : Nat} {u v : Value} {w : World} (hu : Reads (dig B16 x) u w) (hv : Reads (dig B16 y) v w) (hx : len16 x ≤ 400) (hy : len16 y ≤ 400) (hxy : x < y) :
 Calls Tryz.prog 175 #[u, v] w fun e w' => ∃ q r, e = .returned (.tuple #[q, r]) ∧ From w w' ∧ Reads (dig B16 (x / y)) q w' ∧ Reads (dig B16 (x % y)) r w' := by
 have hT : Hid (decide (x < y) = true) := decide_eq_true hxy
 have HU := Lib.hid hu
 have HV := Lib.hid hv
 have HS := Lib.hid (And.intro hx hy)
 have HD := Lib.hid (And.intro (Nat.div_eq_of_lt hxy) (Nat.mod_eq_of_lt hxy))
 clear hu hv hx hy hxy
 go_enter Tryz.func175, Tryz.ntmps175
 go_wp2_with (go_at_call 192; refine (calls_less HU.out HV.out (Nat.le_trans HS.out.1 (by decide)) (Nat.le_trans HS.out.2 (by decide))).mono ?_; rintro e w1 ⟨rfl, hb1⟩; rw [hT.out]; have HB1 := Lib.hid hb1; clear hb1)
 go_ret2
 refine ⟨.slice none 0 0, u, rfl, HB1.out, ?_, ?_⟩
 · rw [HD.out.1, dig_zero hB16]
   exact ⟨none, 0, rfl, fun k cs hk => (by cases hk), Nat.le_refl _⟩
 · rw [HD.out.2]
   exact Reads.stays _ _ _ HU.out HB1.out
theorem rd_dropN {w : World} {B size g off : Nat} {css : List (List Value)} (h : Rd w B size (some ⟨g, off, none⟩) css) (n : Nat) : Rd w B size (some ⟨g, off + n * size, none⟩) (css.drop n) := by
 intro k cs hk
 rw [List.getElem?_drop] at hk
 obtain ⟨b, o, e, hlt, hl, hc⟩ := h (n + k) cs hk
 simp only [Option.some.injEq, Addr.mk.injEq, and_true] at e
 obtain ⟨rfl, rfl⟩ := e
 refine ⟨g, off + n * size, rfl, hlt, hl, fun j u hu => ?_⟩
 have h1 := hc j u hu
 have e2 : off + (n + k) * size + j = off + n * size + k * size + j := by rw [Nat.add_mul]; omega
 rw [e2] at h1
 exact h1
theorem valB_drop_mono {l : List Nat} {i j : Nat} (h : j ≤ i) : valB B16 (l.drop i) ≤ valB B16 (l.drop j) := by
 have h1 := valB_split B16 (l.drop j) (i - j)
 rw [List.drop_drop, show j + (i - j) = i by omega] at h1
 have h2 : 1 ≤ B16 ^ ((l.drop j).take (i - j)).length := Nat.one_le_pow _ _ (by decide)
 have h3 := Nat.mul_le_mul_right (valB B16 (l.drop i)) h2
 omega
theorem wpList_append_one {w : World} {ops : Array Oper} {rest : List Oper} {o : Oper} {a : Act} {Q : Exit → Act → World → Prop} {t e bytes g T cn m d : Nat} {X : Option Addr} {l : List Nat} (hgd : o.guard = none) (s x : Operand)
 (ho : o.op = .call { callee := .builtin .append, args := #[s, x], argTypes := #[t, t] })
 (hE : EI Tryz.prog t e 1 bytes) (hs : a.eval s = .slice (some ⟨g, 0, none⟩) 1 1) (hg : w.heap[g]? = some (.cells #[.int .i64 (d : Int)] T (0, 0))) (hx : a.eval x = .slice X m cn) (hr : Rd w w.heap.size 1 X (nums .i64 l)) (hm : m = l.length) (hl : l.length ≤ 100000) (hby : bytes = 8)
 (h : ∀ v' w', From w w' → (∃ A c, v' = .slice A (l.length + 1) c ∧ Rd w' w'.heap.size 1 A (nums .i64 (d :: l)) ∧ l.length + 1 ≤ c ∧ ∀ q, A = some q → g ≤ q.block) → wpList Tryz.prog ops Q rest (a.put o.dst v') w') : wpList Tryz.prog ops Q (o :: rest) a w := by
 have hgl : g < w.heap.size := (Array.getElem?_eq_some_iff.1 hg).1
 obtain ⟨v', w', hrun, hf, A, c, rfl, h1, h2, h3⟩ : ∃ v' w', (Builtin.append_ #[t, t] o.type #[.slice (some ⟨g, 0, none⟩) 1 1, .slice X m cn]).run Tryz.prog w = .ok v' w' ∧ From w w' ∧ ∃ A c, v' = .slice A (l.length + 1) c ∧ Rd w' w'.heap.size 1 A (nums .i64 (d :: l)) ∧ l.length + 1 ≤ c ∧ ∀ q, A = some q → g ≤ q.block := by
  subst hm
  obtain ⟨ht, i, z, hi, hz, hs, hb, hzs, h0⟩ := hE
  have hc1 : Rd w w.heap.size 1 (some ⟨g, 0, none⟩) (nums .i64 [d]) := Rd.one (cs := [.int .i64 (d : Int)]) hg rfl
  rcases l with _ | ⟨d2, l⟩
  · refine ⟨.slice (some ⟨g, 0, none⟩) 1 1, w, ?_, Below.refl _ _, some ⟨g, 0, none⟩, 1, rfl, hc1, Nat.le_refl _, fun q hq => by injection hq with hq; subst hq; exact Nat.le_refl _⟩
    rcases X with _ | ad
    · simp [Builtin.append_, run_underlying ht, sizeOf, typeInfo, hi, Builtin.lenOf, Builtin.firstCells, storeCells]
    · simp [Builtin.append_, run_underlying ht, sizeOf, typeInfo, hi, Builtin.lenOf, Builtin.firstCells, storeCells, loadCells, loadCellsFrom]
  · obtain ⟨b, off, rfl, hlt, hcc⟩ := num_cell hr (i := 0) (by simp)
    have hlen : (nums .i64 (d2 :: l)).length = (d2 :: l).length := nums_len _ _
    obtain ⟨v', w', hrun, r1, r2⟩ := run_append_arg_grows (P := Tryz.prog) w t o.type e i z 1 bytes ht hi hz hs hb hzs h0 ⟨g, 0, none⟩ 1 1 [.int .i64 (d : Int)] rfl
     (fun j u hu => by obtain ⟨ad', h, hc⟩ := hc1.flat j u hu; cases h; exact hc)
     ⟨b, off, none⟩ (d2 :: l).length cn (nums .i64 (d2 :: l)).flatten (by rw [flat_len _ hr.len, hlen])
     (fun j u hu => by obtain ⟨ad', h, hc⟩ := hr.flat j u hu; cases h; exact hc)
     (by simp) (by unfold maxLen; omega) (by subst hby; omega)
    obtain ⟨A', c', rfl, h4⟩ := OwnS.of (css := nums .i64 (d :: d2 :: l)) (base := w.heap.size) (e := e) (size := 1) (n := 1 + (d2 :: l).length) (v := v') (w := w') (by exact r1) (by rw [nums_len]; simp; omega) (fun cs hcs => by unfold nums at hcs; obtain ⟨q, _, rfl⟩ := List.mem_map.1 hcs; rfl)
    refine ⟨_, w', hrun, (Below.refl _ _).grown r2 (Nat.le_refl _) (fun k hk => by cases hk), A', c', ?_, h4.rd, ?_, fun q hq => Nat.le_trans (Nat.le_of_lt hgl) (h4.lt hq).1⟩
    · rw [nums_len]; simp
    · have h5 := h4.cap
      rw [nums_len] at h5
      exact h5.1
 refine wpList_plain hgd fun K hK => ?_
 unfold Oper.wp execOp
 simp only [ho, resolve, invoke, builtin, Sem.run_bind, Sem.run_pure, Result.andThen_ok, List.map_toArray, List.map_cons, List.map_nil, hs, hx, hrun]
 exact hK _ _ (h _ _ hf ⟨A, c, rfl, h1, h2, h3⟩)
theorem Reads.apart {w w' : World} {l : List Nat} {A : Option Addr} {n c g : Nat} (h : Reads l (.slice A n c) w) (hne : ∀ p, A = some p → p.block ≠ g) (hg : w.grownBy w' (some g)) : Reads l (.slice A n c) w' := by
 obtain ⟨A2, c2, e, h2, h3⟩ := h
 have e2 := e
 injection e2 with e3 e4 e5
 subst e3
 exact ⟨A, c2, e, h2.apart hne hg, h3⟩
theorem len16_digit {d : Nat} (h : d < 65536) : len16 d ≤ 1 := dig_len_le hB16 (by rw [Nat.pow_one]; exact h)
theorem calls_trimN {A : Option Addr} {n c n3 W g : Nat} {l : List Nat} {w : World} (hn : n = l.length) (h2 : Rd w w.heap.size 1 A (nums .i64 l)) (h3 : n ≤ c) (hl : Digs B16 l) (hn4 : l.length ≤ 100000) (hW : valB B16 l = W) (hn3 : n3 = (dig B16 W).length) (hfr : ∀ q, A = some q → g ≤ q.block) :
 Calls Tryz.prog 193 #[.slice A n c] w fun e w' => ∃ A' c', e = .returned (.slice A' n3 c') ∧ w' = w ∧ Rd16 w A' W ∧ n3 ≤ c' ∧ ∀ q, A' = some q → g ≤ q.block := by
 subst hW
 subst hn
 refine (ref_trim A c _ l rfl w h2 hl (by omega) h3).mono ?_
 rintro e w' ⟨rfl, rfl⟩
 refine ⟨A, c, by rw [hn3]; try rfl, rfl, rd_trim hB16 h2 hl, ?_, hfr⟩
 rw [hn3]
 exact Nat.le_trans (dig_len_le hB16 (valB_lt _ hl)) h3
set_option maxRecDepth 100000 in
set_option maxHeartbeats 2000000 in
theorem ref_div_more {x y : Nat} {u v : Value} {w : World} (hu : Reads (dig B16 x) u w) (hv : Reads (dig B16 y) v w) (hx : len16 x ≤ 400) (hy0 : 0 < y) (hxy : y ≤ x) :
 Calls Tryz.prog 175 #[u, v] w fun e w' => ∃ q r, e = .returned (.tuple #[q, r]) ∧ From w w' ∧ Reads (dig B16 (x / y)) q w' ∧ Reads (dig B16 (x % y)) r w' := by
 have hT : Hid (decide (x < y) = false) := decide_eq_false (by omega)
 have hyl : len16 y ≤ len16 x := len16_mono hxy
 have HU := Lib.hid hu
 have HV := Lib.hid hv
 obtain ⟨A, ca, rfl, hA, hca⟩ := hu
 obtain ⟨D, cd, rfl, hD, hcd⟩ := hv
 have hyp : 0 < (dig B16 y).length := dig_len_pos hB16 (by omega)
 obtain ⟨na, hna⟩ : ∃ na, na = (dig B16 x).length := ⟨_, rfl⟩
 obtain ⟨nb, hnb⟩ : ∃ nb, nb = (dig B16 y).length := ⟨_, rfl⟩
 unfold len16 at hx hyl
 have hAf : ∃ b off, A = some ⟨b, off, none⟩ := by
  obtain ⟨b, off, h, _⟩ := num_ld Tryz.underlying3 rfl hA (i := 0) (by omega)
  exact ⟨b, off, h⟩
 obtain ⟨b, off, rfl⟩ := hAf
 rw [← hna] at HU hx hyl hca ⊢
 rw [← hnb] at HV hyp hyl hcd ⊢
 obtain ⟨t, ht⟩ : ∃ t, t = na - nb := ⟨_, rfl⟩
 obtain ⟨s, hs⟩ : ∃ s, s = t + 1 := ⟨_, rfl⟩
 have w1 : IntKind.i64.wrap ((na : Int) - (nb : Int)) = (t : Int) := by rw [wrap_i64 (by omega) (by omega)]; omega
 have w2 : IntKind.i64.wrap ((t : Int) + 1) = (s : Int) := by rw [wrap_i64 (by omega) (by omega)]; omega
 have hsn : (s : Int) ≤ (na : Int) := by omega
 have hsna : s ≤ na := by omega
 have hs400 : s ≤ 400 := by omega
 have hnb4 : nb ≤ 400 := by omega
 have hsc : ¬ ca < s := by omega
 have hnas : na - s = nb - 1 := by omega
 have HN := Lib.hid (And.intro hna hnb)
 have HA := Lib.hid hA
 have HD := Lib.hid hD
 have HTS := Lib.hid (And.intro ht (And.intro hs (And.intro hca hcd)))
 have HX := Lib.hid (And.intro hx (And.intro hy0 (And.intro hxy (And.intro hyp hyl))))
 clear hna hnb hA hD ht hs hx hy0 hxy hyp hyl
 have HM : Hid (nb - 1 = (nums .i64 ((dig B16 x).drop s)).length) := by unfold Hid; rw [nums_len, List.length_drop, ← HN.out.1, hnas]
 obtain ⟨P, hP⟩ : ∃ P, (if ca = s then some (⟨b, off, none⟩ : Addr) else some ⟨b, off + s, none⟩) = some ⟨b, P, none⟩ := by
  by_cases h : ca = s
  · exact ⟨off, if_pos h⟩
  · exact ⟨off + s, if_neg h⟩
 have HRD : Hid (Rd w w.heap.size 1 (some ⟨b, P, none⟩) (nums .i64 ((dig B16 x).drop s))) := by
  unfold Hid
  rw [← hP]
  split
  · rw [List.drop_eq_nil_of_le (by rw [← HN.out.1]; omega)]
    intro k cs hk; cases hk
  · have h1 := rd_dropN HA.out s
    rw [Nat.mul_one] at h1
    unfold nums at h1 ⊢
    rw [List.map_drop]
    exact h1
 go_enter Tryz.func175, Tryz.ntmps175
 go_wp2_with (first
  | (go_at_call 192; refine (calls_less HU.out HV.out (by rw [← show (dig B16 x).length = len16 x from rfl, ← HN.out.1]; exact Nat.le_trans HX.out.1 (by decide)) (by rw [← show (dig B16 y).length = len16 y from rfl, ← HN.out.2]; exact Nat.le_trans HX.out.2.2.2.2 (Nat.le_trans HX.out.1 (by decide)))).mono ?_; rintro e w1 ⟨rfl, hb1⟩; rw [hT.out]; have HB1 := Lib.hid hb1; clear hb1)
  | (at_builtin; go_loud (refine wpList_append_o rfl _ _ rfl int_ei 0 rfl rfl (OwnS.empty_new w1 w1.heap.size _ 1 (Nat.le_refl _)) rfl _ (HRD.out.from (HB1.out.alloc HB1.out.size _)) HM.out (by intro cs hc v hv; unfold nums at hc; obtain ⟨q, _, rfl⟩ := List.mem_map.1 hc; simp at hv; subst hv; rfl) (by simp only [List.length_nil]; unfold maxLen; omega) (by simp only [List.length_nil]; omega) (by simp) ?_); intro A7 c7 w2 h7 h8 h9 h10; have H7 := Lib.hid (And.intro h7 h9); clear h7 h8 h9 h10)
  | (at_make; go_loud (refine wpList_make_N (n := s) rfl _ _ rfl Tryz.underlying47 info_int rfl rfl (by simp) (by simp) (by omega) (by unfold maxLen; omega) ?_); intro w3 h3 h4 h5; have H3 := Lib.hid (And.intro h3 (And.intro h4 h5)); clear h3 h4 h5))
 have HGB : Hid (w.heap.size ≤ w2.heap.size) := Nat.le_trans (HB1.out.alloc HB1.out.size (.cells #[] 3)).size H7.out.2.size
 go_loopw [7, 9] (fun v7 v9 wq => ∃ (k : Nat) (l o : List Nat), k ≤ s ∧ v9 = .int .i64 ((k : Int) - 1) ∧ Reads l v7 wq ∧ (k = s ∨ l = dig B16 (valB B16 l)) ∧ Digs B16 l ∧ valB B16 l < y ∧ l.length ≤ nb ∧ o.length = s ∧ Digs B16 o ∧ valB B16 ((dig B16 x).drop k) = valB B16 (o.drop k) * y + valB B16 l ∧ NB wq w2.heap.size 3 .i64 o ∧ From w wq) (fun _ v _ => (intOf v + 1).toNat)
 case atStart =>
  have hl : ((dig B16 x).drop s).length = nb - 1 := by rw [List.length_drop, ← HN.out.1, hnas]
  have hrd := H7.out.1.rd.from H3.out.2.1
  rw [List.nil_append] at hrd
  have hcap := H7.out.1.cap
  rw [List.nil_append, nums_len] at hcap
  refine ⟨s, (dig B16 x).drop s, List.replicate s 0, Nat.le_refl _, ?_, ⟨A7, c7, ?_, hrd, hcap.1⟩, .inl rfl, (Digs.dig hB16 x).drop s, ?_, by omega, by simp, Digs.zeros (by decide) s, ?_, H3.out.1, ?_⟩
  · have h1 := HTS.out
    congr 1; try omega
  · rw [hl]; try (congr 1 <;> omega)
  · have h1 := valB_lt ((dig B16 x).drop s) ((Digs.dig hB16 x).drop s)
    rw [hl] at h1
    refine Nat.lt_of_lt_of_le h1 ((dig_len_lt_iff hB16).1 ?_)
    rw [← HN.out.2]
    have := HX.out.2.2.2.1
    omega
  · have e1 : (List.replicate s 0).drop s = [] := List.drop_eq_nil_of_le (by simp)
    rw [e1, valB_nil, Nat.zero_mul, Nat.zero_add]
  · have h1 := (HB1.out.alloc HB1.out.size (.cells #[] 3)).trans (H7.out.2.mono HB1.out.size)
    exact h1.trans (H3.out.2.1.mono h1.size)
 case round =>
  clear H3 H7
  obtain ⟨k, l, o, hk, rfl, hrl, hlt, hld, hR, hlb, hol, hod, hval, hnb, hf⟩ := hrel
  by_cases hk0 : k = 0
  · subst hk0
    have hend := rdiv_end (a := x) hR (by have h1 := hval; rw [List.drop_zero, List.drop_zero, val_dig hB16] at h1; exact h1)
    have hql : (dig B16 (valB B16 o)).length ≤ s := by have h1 := dig_len_le hB16 (valB_lt o hod); rw [hol] at h1; exact h1
    have HE := Lib.hid (And.intro hend (And.intro hql (And.intro hod hf)))
    have HO := Lib.hid hol
    have HRO := Lib.hid hnb.rd0
    have HL : Hid (Reads (dig B16 (x % y)) u7 wr) := by
     unfold Hid
     rw [← hend.2]
     rcases hlt with h1 | h1
     · have := HTS.out; omega
     · rw [← h1]; exact hrl
    have e0 : (((0 : Nat) : Int) - 1) = -1 := rfl
    rw [e0]
    clear hval hnb hf hrl hlt hld hR hlb hod hend hql hol
    go_wp2_with (go_at_call 193; go_loud (refine (ref_trim _ _ _ o HO.out.symm wr HRO.out HE.out.2.2.1 (by rw [HO.out]; omega) (by rw [HO.out]; exact Nat.le_refl _)).mono ?_); rintro e w5 ⟨rfl, rfl⟩)
    go_ret2
    refine ⟨_, _, rfl, HE.out.2.2.2, ⟨some ⟨w2.heap.size, 0, none⟩, s, ?_, ?_, ?_⟩, HL.out⟩
    · rw [← HE.out.1.1]; rfl
    · rw [← HE.out.1.1]; exact rd_trim hB16 HRO.out HE.out.2.2.1
    · rw [← HE.out.1.1]; exact HE.out.2.1
  · obtain ⟨j, rfl⟩ : ∃ j, k = j + 1 := ⟨k - 1, by omega⟩
    have e1 : (((j + 1 : Nat) : Int) - 1) = (j : Int) := by omega
    rw [e1]
    clear e1 hk0
    have hjs : j < s := by omega
    have hjx : j < (dig B16 x).length := by rw [← HN.out.1]; omega
    have HLX := Lib.hid (num_ld' Tryz.underlying3 rfl (HA.out.from hf) hjx wr (Below.refl _ _))
    obtain ⟨d, hd⟩ : ∃ d, d = (dig B16 x)[j] := ⟨_, rfl⟩
    rw [← hd] at HLX
    have hdB : d < 65536 := by rw [hd]; exact (Digs.dig hB16 x).get hjx
    obtain ⟨R, hRe⟩ : ∃ R, R = valB B16 l := ⟨_, rfl⟩
    obtain ⟨W, hW⟩ : ∃ W, W = d + B16 * R := ⟨_, rfl⟩
    obtain ⟨q, hq⟩ : ∃ q, q = W / y := ⟨_, rfl⟩
    obtain ⟨m, hm⟩ : ∃ m, nb = m + 1 := ⟨nb - 1, by have := HX.out.2.2.2.1; omega⟩
    have hm16 : m + 1 = len16 y := by rw [← hm]; exact HN.out.2
    rw [← hRe] at hR
    have hqB : q < 65536 := by rw [hq, hW]; exact rdiv_digit (B := B16) hR hdB
    have hWy : W < B16 * y := by
     have := Nat.mul_le_mul_left B16 (show R + 1 ≤ y by omega)
     rw [Nat.mul_add, Nat.mul_one] at this
     have e : B16 = 65536 := rfl
     omega
    have hstep := rdiv_step (o := o) (b := y) (R := R) hjx (by omega) (by rw [hRe]; exact hval)
    rw [← hd, ← hW, ← hq] at hstep
    have hdl : Digs B16 (d :: l) := by
     intro z hz
     rcases List.mem_cons.1 hz with h1 | h1
     · subst h1; exact hdB
     · exact hld z h1
    have hvl : valB B16 (d :: l) = W := by rw [valB_cons, hW, hRe]
    obtain ⟨n3, hn3⟩ : ∃ n3, n3 = (dig B16 W).length := ⟨_, rfl⟩
    have hn3l : n3 ≤ 401 := by
     have h1 := dig_len_le hB16 (valB_lt (d :: l) hdl)
     rw [hvl, List.length_cons, ← hn3] at h1
     omega
    obtain ⟨A6, c6, rfl, hr6, hc6⟩ := hrl
    obtain ⟨ll, hll⟩ : ∃ ll, ll = l.length := ⟨_, rfl⟩
    rw [← hll] at hc6 hlb ⊢
    have hll4 : ll ≤ 400 := by omega
    have HLL := Lib.hid (And.intro hll hlb)
    have HR6 := Lib.hid hr6
    have HDL := Lib.hid (And.intro hdl hvl)
    have HW := Lib.hid (And.intro hW (And.intro hWy hq))
    have HN3 := Lib.hid hn3
    have HST := Lib.hid hstep
    have HM := Lib.hid (And.intro hm hm16)
    have HO := Lib.hid (And.intro hod hol)
    have HNB := Lib.hid hnb
    have HF := Lib.hid hf
    clear hlt hld hR hlb hod hval hnb hf hd hRe hW hq hm hm16 hWy hstep hdl hvl hn3 hll hr6 hc6 hol
    have HAP := Lib.hid (fun (w1 : World) (A : Option Addr) (c : Nat) (h1 : Rd w1 w1.heap.size 1 A (nums .i64 (d :: l))) (h3 : ll + 1 ≤ c) (h4 : ∀ q, A = some q → wr.heap.size ≤ q.block) => calls_trimN (n := ll + 1) (n3 := n3) (W := W) (g := wr.heap.size) (w := w1) (by rw [List.length_cons, HLL.out.1]) h1 h3 HDL.out.1 (by rw [List.length_cons, ← HLL.out.1]; omega) HDL.out.2 HN3.out h4)
    have hja : (j : Int) < (na : Int) := by omega
    have wN3 : IntKind.i64.wrap ((n3 : Int) - 1) = (n3 : Int) - 1 := wrap_i64 (by omega) (by omega)
    clear hsn hsc hnas
    go_wp2_with (first
     | ((with_reducible refine g_ld 3 ?_); refine wpList_ld rfl _ _ rfl _ rfl _ HLX.out ?_)
     | (at_builtin; go_loud (refine wpList_append_one (g := wr.heap.size) (d := d) (l := l) rfl _ _ rfl int_ei rfl (heap_alloc_new wr _) rfl (HR6.out.from ((Below.refl _ _).alloc (Nat.le_refl _) _)) HLL.out.1 (by rw [← HLL.out.1]; omega) rfl ?_); rintro v5 w5 h5 ⟨A5, c5, rfl, h6, h7, h8⟩; rw [← HLL.out.1]; have H5 := Lib.hid (And.intro h5 (And.intro h6 (And.intro (show ll + 1 ≤ c5 by rw [HLL.out.1]; exact h7) h8))); clear h5 h6 h7 h8)
     | (go_at_call 193; go_loud (refine (HAP.out _ _ _ H5.out.2.1 H5.out.2.2.1 H5.out.2.2.2).mono ?_); rintro e w7 ⟨A3, c3, rfl, rfl, h6, h7, h8⟩; have H7 := Lib.hid (And.intro h6 (And.intro h7 h8)); clear h6 h7 h8))
    have HF5 : Hid (From w w7) := by
     have h1 := HF.out.alloc HF.out.size (.cells #[.int .i64 (d : Int)] 3)
     exact h1.trans (H5.out.1.mono h1.size)
    have HNB5 : Hid (NB w7 w2.heap.size 3 .i64 o) := by
     have h1 := (Below.refl wr.heap.size wr).alloc (Nat.le_refl _) (.cells #[.int .i64 (d : Int)] 3)
     exact HNB.out.below (h1.trans (H5.out.1.mono h1.size)) HNB.out.lt
    have HG : Hid (∀ p, A3 = some p → p.block ≠ w2.heap.size) := fun p hp h1 => by
     have h2 := H7.out.2.2 p hp
     have h3 := HNB.out.lt
     omega
    have HRS : Hid (Reads (dig B16 W) (.slice A3 n3 c3) w7) := ⟨A3, c3, by rw [HN3.out], H7.out.1, by rw [← HN3.out]; exact H7.out.2.1⟩
    obtain ⟨b2, o2, rfl, _, hc2⟩ := num_cell (HD.out.from HF5.out) (i := m) (by rw [← HN.out.2]; have := HM.out.1; omega)
    obtain ⟨d2, hd2⟩ : ∃ d2, d2 = (dig B16 y).getD m 0 := ⟨_, rfl⟩
    rw [← hd2] at hc2
    have HC2 := Lib.hid hc2
    have hgs := rdiv_guess (W := W) HM.out.2
    rw [← hd2] at hgs
    have HGS := Lib.hid hgs
    have hd20 : 0 < d2 := by rw [hd2]; exact (top_digit HM.out.2).1
    have hd2B : d2 < 65536 := by rw [hd2]; exact (Digs.dig hB16 y).getD (by decide) m
    clear hc2 hgs hd2 HAP H5 HR6 HLX HNB HF HDL HLL
    have wNB : IntKind.i64.wrap ((nb : Int) - 1) = (m : Int) := by have := HM.out.1; rw [wrap_i64 (by omega) (by omega)]; omega
    have hmi : (m : Int) < (nb : Int) := by have := HM.out.1; omega
    have hm4 : m ≤ 400 := by have := HM.out.1; omega
    go_loopw [10, 11] (fun v10 v11 wq => ∃ i : Nat, i ≤ n3 ∧ v11 = .int .i64 ((i : Int) - 1) ∧ v10 = .int .i64 ((valB B16 ((dig B16 W).drop i) : Nat) : Int) ∧ (m ≤ i ∨ i = n3) ∧ wq = w7) (fun _ v _ => (intOf v + 1).toNat)
    case atStart => exact ⟨n3, Nat.le_refl _, rfl, by rw [List.drop_eq_nil_of_le (by rw [HN3.out]; exact Nat.le_refl _)]; rfl, .inr rfl, rfl⟩
    case round =>
     obtain ⟨i, hi, rfl, rfl, him, rfl⟩ := hrel
     obtain ⟨tp, htp⟩ : ∃ tp, tp = valB B16 ((dig B16 W).drop i) := ⟨_, rfl⟩
     rw [← htp]
     by_cases hc : i ≤ m
     · have hcmp : ¬ (m : Int) ≤ (i : Int) - 1 := by omega
       have hcmp2 : (i : Int) - 1 < (m : Int) := by omega
       have htop : tp = valB B16 ((dig B16 W).drop m) := by
        rw [htp]
        rcases him with h1 | h1
        · rw [show i = m by omega]
        · rw [List.drop_eq_nil_of_le (by rw [← HN3.out]; omega), List.drop_eq_nil_of_le (by rw [← HN3.out]; omega)]
       have htpB : tp < 4294967296 := by rw [htop]; exact rdiv_top HM.out.2 HW.out.2.1
       have hgs := HGS.out
       rw [← htop, ← HW.out.2.2] at hgs
       obtain ⟨d3, hd3⟩ : ∃ d3, d3 = d2 + 1 := ⟨_, rfl⟩
       rw [← hd3] at hgs
       obtain ⟨lo, hlo⟩ : ∃ lo, lo = tp / d3 := ⟨_, rfl⟩
       obtain ⟨h0, hh0⟩ : ∃ h0, h0 = tp / d2 := ⟨_, rfl⟩
       rw [← hlo, ← hh0] at hgs
       obtain ⟨hi2, hhi2⟩ : ∃ hi2, hi2 = min h0 65535 := ⟨_, rfl⟩
       have wD3 : IntKind.i64.wrap ((d2 : Int) + 1) = (d3 : Int) := by rw [wrap_i64 (by omega) (by omega)]; omega
       have q1 : (tp : Int).tdiv (d3 : Int) = (lo : Int) := by rw [hlo]; exact (Int.ofNat_tdiv tp d3).symm
       have q2 : (tp : Int).tdiv (d2 : Int) = (h0 : Int) := by rw [hh0]; exact (Int.ofNat_tdiv tp d2).symm
       have hlol : lo ≤ tp := by rw [hlo]; exact Nat.div_le_self _ _
       have hh0l : h0 ≤ tp := by rw [hh0]; exact Nat.div_le_self _ _
       have q3 : IntKind.i64.wrap (lo : Int) = (lo : Int) := wrap_i64 (by omega) (by omega)
       have q4 : IntKind.i64.wrap (h0 : Int) = (h0 : Int) := wrap_i64 (by omega) (by omega)
       have z3 : ¬ (d3 : Int) = 0 := by omega
       have z2 : ¬ (d2 : Int) = 0 := by omega
       have hmin : (if (65535 : Int) < (h0 : Int) then (65535 : Int) else (h0 : Int)) = (hi2 : Int) := by rw [hhi2]; split <;> omega
       have hq1 : lo ≤ q := hgs.1
       have hq2 : q ≤ hi2 := by omega
       have hi2B : hi2 ≤ 65535 := by omega
       have c1 := HC2.out wr.drew (Below.refl _ _).drew
       have hmo : Tryz.prog.follows .mixedOrders = true := by kernel_rfl
       clear hlo hh0 hhi2 hd3 htop htp him hgs hc hi
       go_wp2
       go_region
       have hdr : Below wr.heap.size wr wr.drew := (Below.refl _ _).drew
       have HF6 := Lib.hid (HF5.out.trans (hdr.mono HF5.out.size))
       have HNB6 := Lib.hid (HNB5.out.below hdr HNB5.out.lt)
       have HRS6 := Lib.hid (Reads.stays _ _ _ HRS.out hdr)
       clear HF5 HNB5 HRS hdr c1 HC2 H7 wD3 q1 q2 q3 q4 z3 z2 hmin hlol hh0l hcmp hcmp2 HGS
       generalize wr.drew = wz at *
       go_wp2
       go_loopw [12, 13] (fun v12 v13 wq => ∃ lo1 hi1 : Nat, lo1 ≤ q ∧ q ≤ hi1 ∧ hi1 ≤ 65535 ∧ v12 = .int .i64 (lo1 : Int) ∧ v13 = .int .i64 (hi1 : Int) ∧ From wz wq) (fun v12 v13 _ => (intOf v13 - intOf v12).toNat)
       case atStart => exact ⟨lo, hi2, hq1, hq2, hi2B, rfl, rfl, Below.refl _ _⟩
       case round =>
        clear hq1 hq2 hi2B
        obtain ⟨lo1, hi1, hl1, hh1, hB1, rfl, rfl, hf7⟩ := hrel
        have HF7 := Lib.hid (HF6.out.trans (hf7.mono HF6.out.size))
        have HNB7 := Lib.hid (HNB6.out.below hf7 HNB6.out.lt)
        have HRS7 := Lib.hid (Reads.stays _ _ _ HRS6.out hf7)
        have HF7z := Lib.hid hf7
        have HWL : Hid (len16 W ≤ 401) := by unfold Hid; show (dig B16 W).length ≤ 401; rw [← HN3.out]; exact hn3l
        have HYL : Hid (len16 y ≤ 400) := by unfold Hid; rw [← HM.out.2, ← HM.out.1]; exact hnb4
        clear hf7 HF6 HNB6 HRS6
        by_cases hlh : lo1 < hi1
        · have hlhi : (lo1 : Int) < (hi1 : Int) := by omega
          obtain ⟨s1, hs1⟩ : ∃ s1, s1 = lo1 + hi1 := ⟨_, rfl⟩
          obtain ⟨s2, hs2⟩ : ∃ s2, s2 = s1 + 1 := ⟨_, rfl⟩
          obtain ⟨md, hmd⟩ : ∃ md, md = s2 / 2 := ⟨_, rfl⟩
          have r1 : IntKind.i64.wrap ((lo1 : Int) + (hi1 : Int)) = (s1 : Int) := by rw [wrap_i64 (by omega) (by omega)]; omega
          have r2 : IntKind.i64.wrap ((s1 : Int) + 1) = (s2 : Int) := by rw [wrap_i64 (by omega) (by omega)]; omega
          have r3 : (s2 : Int).tdiv 2 = (md : Int) := by rw [hmd]; exact (Int.ofNat_tdiv s2 2).symm
          have r4 : IntKind.i64.wrap (md : Int) = (md : Int) := wrap_i64 (by omega) (by omega)
          have hmdB : md < 65536 := by omega
          have HYM : Hid (len16 (y * md) ≤ 1000000) := Nat.le_trans (len16_mul y md) (by have := HYL.out; have := len16_digit hmdB; omega)
          have hml : lo1 < md := by omega
          have hmh : md ≤ hi1 := by omega
          obtain ⟨m1, hm1⟩ : ∃ m1, m1 = md - 1 := ⟨_, rfl⟩
          have r5 : IntKind.i64.wrap ((md : Int) - 1) = (m1 : Int) := by rw [wrap_i64 (by omega) (by omega)]; omega
          have HQ := Lib.hid (And.intro hl1 (And.intro hh1 (And.intro hB1 (And.intro hm1 (And.intro (show m1 ≤ 65535 by omega) (And.intro hml hmh))))))
          by_cases hWm : W < y * md
          · have hT2 : Hid (decide (W < y * md) = true) := decide_eq_true hWm
            have hqm : q ≤ m1 := by have := (halve_lt HX.out.2.1 HW.out.2.2 hWm).1; omega
            clear hWm hmd hs1 hs2 hm1 hml hmh hl1 hh1 hB1 hlh
            go_wp2_with (first
             | (go_at_call 194; go_loud (refine (calls_scale (x := y) (y := md) HN.out.2 (HD.out.from HF7.out) (by have := HYL.out; omega) hmdB).mono ?_); rintro e w8 ⟨u8, rfl, hb8, hr8⟩; have H8 := Lib.hid (And.intro hb8 hr8); clear hb8 hr8)
             | (go_at_call 192; go_loud (refine (calls_less (Reads.stays _ _ _ HRS7.out H8.out.1) H8.out.2 (by have := HWL.out; omega) HYM.out).mono ?_); rintro e w9 ⟨rfl, hb9⟩; rw [hT2.out]; have H9 := Lib.hid hb9; clear hb9))
            go_roundw
            case rel => exact ⟨lo1, m1, HQ.out.1, hqm, HQ.out.2.2.2.2.1, rfl, rfl, HF7z.out.trans ((H8.out.1.trans (H9.out.mono H8.out.1.size)).mono HF7z.out.size)⟩
            case measure => have := HQ.out; simp [intOf]; omega
          · have hT2 : Hid (decide (W < y * md) = false) := decide_eq_false hWm
            have hqm : md ≤ q := halve_ge HX.out.2.1 HW.out.2.2 hWm
            clear hWm hmd hs1 hs2 hm1 hml hmh hl1 hh1 hB1 hlh
            go_wp2_with (first
             | (go_at_call 194; go_loud (refine (calls_scale (x := y) (y := md) HN.out.2 (HD.out.from HF7.out) (by have := HYL.out; omega) hmdB).mono ?_); rintro e w8 ⟨u8, rfl, hb8, hr8⟩; have H8 := Lib.hid (And.intro hb8 hr8); clear hb8 hr8)
             | (go_at_call 192; go_loud (refine (calls_less (Reads.stays _ _ _ HRS7.out H8.out.1) H8.out.2 (by have := HWL.out; omega) HYM.out).mono ?_); rintro e w9 ⟨rfl, hb9⟩; rw [hT2.out]; have H9 := Lib.hid hb9; clear hb9))
            go_roundw
            case rel => exact ⟨md, hi1, hqm, HQ.out.2.1, HQ.out.2.2.1, rfl, rfl, HF7z.out.trans ((H8.out.1.trans (H9.out.mono H8.out.1.size)).mono HF7z.out.size)⟩
            case measure => have := HQ.out; simp [intOf]; omega
        · obtain rfl : lo1 = q := by omega
          have hnlt : ¬ (lo1 : Int) < (hi1 : Int) := by omega
          have hjo : j < o.length := by rw [HO.out.2]; exact hjs
          have hjsi : (j : Int) < (s : Int) := by omega
          have wJ : IntKind.i64.wrap ((j : Int) - 1) = (j : Int) - 1 := wrap_i64 (by omega) (by omega)
          have hqy : Hid (y * lo1 ≤ W) := by unfold Hid; rw [HW.out.2.2]; exact Nat.mul_div_le W y
          have hqW : Hid (W - y * lo1 = W % y) := by unfold Hid; rw [HW.out.2.2, Nat.mod_eq_sub_mul_div]
          clear HF7z hl1 hh1 hlh hB1
          go_wp2_with (first
           | ((with_reducible refine g_st 3 ?_); go_loud (refine wpList_set rfl _ _ rfl rfl rfl rfl size_int HNB7.out hjo ?_); intro w8 hnb8 hgr8
              have HF8 := Lib.hid (HF7.out.grown hgr8 HF7.out.size (by intro p hp; injection hp with hp; rw [← hp]; exact HGB.out))
              have HRS8 := Lib.hid (HRS7.out.apart HG.out hgr8); have HNB8 := Lib.hid hnb8; clear hnb8 hgr8)
           | (go_at_call 194; go_loud (refine (calls_scale (x := y) (y := lo1) HN.out.2 (HD.out.from HF8.out) (by have := HYL.out; omega) hqB).mono ?_); rintro e w9 ⟨u9, rfl, hb9, hr9⟩; have H9 := Lib.hid (And.intro hb9 hr9); clear hb9 hr9)
           | (go_at_call 195; go_loud (refine (calls_sub (Reads.stays _ _ _ HRS8.out H9.out.1) H9.out.2 (by have := HWL.out; omega) hqy.out).mono ?_); rintro e w10 ⟨u10, rfl, hb10, hr10⟩; rw [hqW.out] at hr10; have H10 := Lib.hid (And.intro hb10 hr10); clear hb10 hr10))
          go_roundw
          case rel =>
           have h1 := H9.out.1.trans (H10.out.1.mono H9.out.1.size)
           refine ⟨j, dig B16 (W % y), o.set j lo1, by omega, rfl, H10.out.2, .inr (by rw [val_dig hB16]), Digs.dig hB16 _, by rw [val_dig hB16]; exact Nat.mod_lt _ HX.out.2.1, ?_, by rw [List.length_set]; exact HO.out.2, HO.out.1.set _ _ hqB, by rw [val_dig hB16]; exact HST.out, HNB8.out.below h1 HNB8.out.lt, HF8.out.trans (h1.mono HF8.out.size)⟩
           rw [HN.out.2]
           exact len16_mono (Nat.le_of_lt (Nat.mod_lt _ HX.out.2.1))
          case measure => simp [intOf]
     · obtain ⟨i2, rfl⟩ : ∃ i2, i = i2 + 1 := ⟨i - 1, by omega⟩
       have e2 : (((i2 + 1 : Nat) : Int) - 1) = (i2 : Int) := by omega
       rw [e2]
       clear e2
       have hcmp : (m : Int) ≤ (i2 : Int) := by omega
       have hi2l : i2 < (dig B16 W).length := by rw [← HN3.out]; omega
       have h7 := H7.out
       obtain ⟨b3, o3, rfl, _, hl3⟩ := num_ld Tryz.underlying3 rfl h7.1 hi2l
       have hv := valB_drop_getD B16 hi2l
       obtain ⟨d4, hd4⟩ : ∃ d4, d4 = (dig B16 W)[i2] := ⟨_, rfl⟩
       rw [← hd4, ← htp] at hv
       have HL3 := Lib.hid (hl3 wr (Below.refl _ _))
       rw [← hd4] at HL3
       obtain ⟨tp2, htp2⟩ : ∃ tp2, tp2 = valB B16 ((dig B16 W).drop i2) := ⟨_, rfl⟩
       rw [← htp2] at hv
       have htB : tp2 < 4294967296 := Nat.lt_of_le_of_lt (by rw [htp2]; exact valB_drop_mono (by omega)) (rdiv_top (W := W) HM.out.2 HW.out.2.1)
       have hv2 : tp2 = d4 + 65536 * tp := hv
       obtain ⟨t5, ht5⟩ : ∃ t5, t5 = tp * 65536 := ⟨_, rfl⟩
       have q5 : IntKind.i64.wrap ((tp : Int) * 65536) = (t5 : Int) := by rw [wrap_i64 (by omega) (by omega)]; omega
       have q6 : IntKind.i64.wrap ((t5 : Int) + (d4 : Int)) = (tp2 : Int) := by rw [wrap_i64 (by omega) (by omega)]; omega
       have q7 : IntKind.i64.wrap ((i2 : Int) - 1) = (i2 : Int) - 1 := wrap_i64 (by omega) (by omega)
       have hin : (i2 : Int) < (n3 : Int) := by omega
       have HT2 := Lib.hid htp2
       clear hl3 h7 hv hv2 hd4 htp htp2 ht5 him hi2l
       go_wp2_with ((with_reducible refine g_ld 3 ?_); refine wpList_ld rfl _ _ rfl _ rfl _ HL3.out ?_)
       go_roundw
       case rel => exact ⟨i2, by omega, rfl, by rw [← HT2.out], .inl (by omega), by first | trivial | rfl⟩
       case measure => simp [intOf]
theorem ref_div {x y : Nat} {u v : Value} {w : World} (hu : Reads (dig B16 x) u w) (hv : Reads (dig B16 y) v w) (hx : len16 x ≤ 400) (hy : len16 y ≤ 400) (hy0 : 0 < y) :
 Calls Tryz.prog 175 #[u, v] w fun e w' => ∃ q r, e = .returned (.tuple #[q, r]) ∧ From w w' ∧ Reads (dig B16 (x / y)) q w' ∧ Reads (dig B16 (x % y)) r w' := by
 by_cases h : x < y
 · exact ref_div_less hu hv hx hy h
 · exact ref_div_more hu hv hx hy0 (by omega)
def sliceNat16 (v : Value) (w : World) : Nat := match v with
 | .slice (some ⟨b, off, _⟩) n _ => valB B16 ((List.range n).map fun i => match w.cell? ⟨b, off + i, none⟩ with | some (.int _ z) => z.toNat | _ => 0)
 | _ => 0
theorem sliceNat16_rd {w : World} {A : Option Addr} {c y : Nat} (h : Rd16 w A y) : sliceNat16 (.slice A (dig B16 y).length c) w = y := by
 by_cases h0 : 0 < (dig B16 y).length
 · obtain ⟨b, off, rfl, hb, _, _⟩ := h 0 _ (nums_get h0)
   have e : ((List.range (dig B16 y).length).map fun i => match w.cell? ⟨b, off + i, none⟩ with | some (.int _ z) => z.toNat | _ => 0) = dig B16 y := by
    apply List.ext_getElem
    · simp
    · intro i h1 h2
      obtain ⟨b', off', e, hb', _, hc⟩ := h i _ (nums_get h2)
      injection e with e
      injection e with e1 e2
      subst e1; subst e2
      have h3 := hc 0 _ rfl
      simp only [Nat.mul_one, Nat.add_zero] at h3
      simp [h3]
   show valB B16 _ = y
   rw [e, val_dig hB16]
 · have h1 : y = 0 := by
    rcases Nat.eq_zero_or_pos y with h2 | h2
    · exact h2
    · exact absurd (dig_len_pos hB16 (n := y) (by omega)) h0
   subst h1
   cases A with
   | none => rfl
   | some q => rfl
set_option maxRecDepth 100000 in
set_option maxHeartbeats 4000000 in
theorem ref_common {x y : Nat} {u v : Value} {w : World} (hu : Reads (dig B16 x) u w) (hv : Reads (dig B16 y) v w) (hx : len16 x ≤ 400) (hy : len16 y ≤ 400) :
 Calls Tryz.prog 174 #[u, v] w fun e w' => ∃ z, e = .returned z ∧ From w w' ∧ Reads (dig B16 (Nat.gcd x y)) z w' := by
 obtain ⟨gc, hgc⟩ : ∃ gc, gc = Nat.gcd x y := ⟨_, rfl⟩
 rw [← hgc]
 have HST := Lib.hid (And.intro hu (And.intro hv (And.intro hgc.symm (And.intro hx hy))))
 clear hu hv hgc hx hy
 go_enter Tryz.func174, Tryz.ntmps174
 go_wp2
 go_loopw [0, 1] (fun av bv wq => ∃ x' y' : Nat, (Reads (dig B16 x') av wq ∧ Reads (dig B16 y') bv wq ∧ Nat.gcd x' y' = gc ∧ len16 x' ≤ 400 ∧ len16 y' ≤ 400) ∧ From w wq) (fun _ bv wq => sliceNat16 bv wq)
 case atStart => exact ⟨x, y, HST.out, Below.refl _ _⟩
 case round =>
  clear HST
  obtain ⟨x', y', ⟨hu, hv, hg, hx, hy⟩, hf⟩ := hrel
  have HU := Lib.hid hu
  have HV := Lib.hid hv
  obtain ⟨A2, c2, rfl, hr2, hc2⟩ := hv
  obtain ⟨n2, hn2⟩ : ∃ n2, n2 = (dig B16 y').length := ⟨_, rfl⟩
  rw [← hn2] at hc2 HV ⊢
  have HF := Lib.hid hf
  have HS := Lib.hid (And.intro hg (And.intro hx (And.intro hy hn2)))
  have HR2 := Lib.hid hr2
  clear hu hf hg hx hy hn2 hr2 hc2
  by_cases h0 : n2 = 0
  · have hz : ¬ (0 : Int) < (n2 : Int) := by omega
    go_wp2
    go_ret
    refine ⟨_, rfl, HF.out, ?_⟩
    have hy0 : y' = 0 := by
     rcases Nat.eq_zero_or_pos y' with h2 | h2
     · exact h2
     · have := dig_len_pos hB16 (n := y') (by omega)
       have := HS.out.2.2.2
       omega
    have hg := HS.out.1
    rw [hy0, Nat.gcd_zero_right] at hg
    rw [← hg]
    exact HU.out
  · have hz : (0 : Int) < (n2 : Int) := by omega
    have hy0 : 0 < y' := by
     rcases Nat.eq_zero_or_pos y' with h2 | h2
     · subst h2
       exact absurd HS.out.2.2.2 h0
     · exact h2
    have HD := Lib.hid (ref_div HU.out HV.out HS.out.2.1 HS.out.2.2.1 hy0)
    go_wp2_with (go_at_call 175; go_loud (refine (HD.out).mono ?_); rintro e w2 ⟨q, r, rfl, hb, hq, hr⟩; have HB := Lib.hid hb; have HR := Lib.hid hr; clear hb hq hr HD)
    go_roundw
    case rel =>
     obtain ⟨hg, hx, hy, hn2⟩ := HS.out
     refine ⟨y', x' % y', ⟨Reads.stays _ _ _ HV.out HB.out, HR.out, ?_, hy, ?_⟩, HF.out.trans (HB.out.mono HF.out.size)⟩
     · rw [← hg, Nat.gcd_comm y', ← Nat.gcd_rec, Nat.gcd_comm]
     · exact Nat.le_trans (len16_mono (Nat.le_of_lt (Nat.mod_lt _ hy0))) hy
    case measure =>
     obtain ⟨A3, c3, rfl, hr3, _⟩ := HR.out
     rw [HS.out.2.2.2, sliceNat16_rd hr3, sliceNat16_rd HR2.out]
     exact Nat.mod_lt _ hy0
end Go.Proofs.YtmbfcdnnlpcgfaaGreat
