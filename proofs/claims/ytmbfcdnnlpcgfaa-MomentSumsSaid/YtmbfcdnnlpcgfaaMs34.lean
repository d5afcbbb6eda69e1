/-
  frac: divide, the long way.
-/
import Derived.Test.YtmbfcdnnlpcgfaaMs7
set_option linter.unusedVariables false
set_option linter.unusedSimpArgs false
namespace Go.Proofs.Ytmbfcdnnlpcgfaa
open Go.RowKit
theorem g_copy {P : Program} {w : World} {ops : Array Oper} {rest : List Oper} {a : Act} {Q : Exit → Act → World → Prop} {x y : Operand} {t1 t2 : TypeId} {d : Option Nat} {ty : TypeId} {pos : String} {aft : Array Edge} {gd : Option (Nat × Bool)}
 (h : wpList P ops Q (⟨d, .call { callee := .builtin .copy, args := #[x, y], argTypes := #[t1, t2] }, ty, pos, aft, gd⟩ :: rest) a w) : wpList P ops Q (⟨d, .call { callee := .builtin .copy, args := #[x, y], argTypes := #[t1, t2] }, ty, pos, aft, gd⟩ :: rest) a w := h
theorem NB.cell {w : World} {g E i : Nat} {k : IntKind} {l : List Nat} (h : NB w g E k l) (hi : i < l.length) : w.cell? ⟨g, i, none⟩ = some (.int k (l.getD i 0 : Nat)) := by
 rw [cell_of_row w g i _ _ _ h]
 simp [hi]
theorem NB.frozen {w : World} {g E : Nat} {k : IntKind} {l : List Nat} (h : NB w g E k l) (i : Nat) : w.frozen? ⟨g, i, none⟩ = false := by
 unfold NB at h
 simp [World.frozen?, h]
theorem seg_parts {L o : List Nat} {j m : Nat} (ho : o.length = m) (hj : j ≤ L.length) : (L.take j ++ o ++ L.drop (j + m)).take j = L.take j ∧ (L.take j ++ o ++ L.drop (j + m)).drop (j + m) = L.drop (j + m) ∧ ((L.take j ++ o ++ L.drop (j + m)).drop j).take m = o := by
 have hl : (L.take j).length = j := List.length_take_of_le hj
 refine ⟨?_, ?_, ?_⟩
 · rw [List.append_assoc, List.take_append_of_le_length (by omega), List.take_take, Nat.min_self]
 · exact List.drop_left' (by simp [hl, ho])
 · rw [List.append_assoc, List.drop_left' hl]
   exact List.take_left' ho
theorem winD_get {L : List Nat} {j n i : Nat} (h : i ≤ n) : (winD L j n).getD i 0 = L.getD (j + i) 0 := by
 simp [winD, List.getD_eq_getElem?_getD, show i < n + 1 by omega]
set_option maxRecDepth 100000 in
set_option maxHeartbeats 8000000 in
theorem divide_many (A D : Option Addr) (ca cd x y la n : Nat) (hla : la = len32 x) (hn : n = len32 y) (w : World) (h : Rd32 w A x) (h' : Rd32 w D y) (hx : len32 x ≤ 900) (hx2 : 2 < len32 x) (hy2 : 2 ≤ len32 y) (hyx : y ≤ x) :
 Calls Try.prog 30 #[.slice A la ca, .slice D n cd] w (DivPost w x y) := by
 have hny : len32 y ≤ len32 x := dig_len_le hB32 (Nat.lt_of_le_of_lt hyx (lt_of_dig_len hB32 (Nat.le_refl _)))
 have HC := Lib.hid (frac_cmp A D ca cd x y la n hla hn w h h' (by omega) (by omega))
 have hc : ¬ cmpNat x y < 0 := by
  unfold cmpNat
  rw [if_neg (by omega)]
  split <;> decide
 obtain ⟨k, hk⟩ : ∃ k, n = k + 1 := ⟨n - 1, by omega⟩
 obtain ⟨m, hm⟩ : ∃ m, la = m + n := ⟨la - n, by omega⟩
 obtain ⟨yt, hyt⟩ : ∃ yt, yt = (dig B32 y).getD k 0 := ⟨_, rfl⟩
 obtain ⟨yt1, hyt1⟩ : ∃ yt1, yt1 = yt + 1 := ⟨_, rfl⟩
 obtain ⟨s, hs⟩ : ∃ s, s = B32 / (yt + 1) := ⟨_, rfl⟩
 obtain ⟨hs0, hs1, hlV⟩ := norm_len (y := y) (k := k) (by omega) hyt hs
 have hB : B32 = 4294967296 := rfl
 rw [hB] at hs1
 have hytB : yt < 4294967296 := by rw [hyt]; exact (Digs.dig hB32 y).getD (by decide) k
 have w1' : IntKind.i64.wrap ((n : Int) - 1) = (k : Int) := by rw [wrap_i64 (by omega) (by omega)]; omega
 have w2' := wrap_u64 (n := (yt : Int)) (by omega) (by omega)
 have w3' : IntKind.u64.wrap ((yt : Int) + 1) = (yt1 : Int) := by rw [wrap_u64 (by omega) (by omega)]; omega
 have w4' : (4294967296 : Int) / (yt1 : Int) = (s : Int) := by rw [hs, hyt1, hB]; exact (Int.natCast_ediv 4294967296 (yt + 1)).symm
 have w5' : IntKind.u32.wrap (s : Int) = (s : Int) := by rw [wrap_u32, Nat.mod_eq_of_lt hs1]
 have w6' : ¬ ((yt1 : Int) = 0) := by omega
 have w7' : ¬ ((la : Int) ≤ 2) := by omega
 have w8' : ¬ ((n : Int) = 1) := by omega
 have w9' : (k : Int) < (n : Int) := by omega
 obtain ⟨b0, o0, rfl, hb0, hld0⟩ := num_ld Try.underlying37 rfl h' (i := k) (show k < (dig B32 y).length by show k < len32 y; omega)
 have HLD := Lib.hid (fun (w1 : World) (hb : Below w.heap.size w w1) => by
  have h1 := hld0 w1 hb
  have e : (dig B32 y)[k]'(show k < (dig B32 y).length by show k < len32 y; omega) = yt := by rw [hyt]; simp [show k < (dig B32 y).length by show k < len32 y; omega]
  rw [e] at h1
  exact h1)
 have HA := Lib.hid h
 have HD := Lib.hid h'
 have HLA := Lib.hid hla
 have HNY := Lib.hid hn
 have HLV := Lib.hid hlV
 have HX := Lib.hid (show len32 x ≤ 1000 by omega)
 have HK := Lib.hid hk
 have HM := Lib.hid hm
 generalize cmpNat x y = cv at *
 have HB0 : Hid (k ≤ 899 ∧ la ≤ 900 ∧ n ≤ la) := by unfold Hid; omega
 clear h h' hx2 hx hy2 hyx hny hyt hyt1 hs hld0 hla hn hlV hB hk hm
 go_enter Try.func30, Try.ntmps30
 go_wp2_with (first
  | (go_at_call 40; refine (HC.out).mono ?_; rintro e w1 ⟨rfl, hb1⟩; have HB1 := Lib.hid hb1; clear hb1)
  | ((with_reducible refine g_ld 37 ?_); refine wpList_ld rfl _ _ rfl _ rfl _ (HLD.out _ HB1.out) ?_))
 refine region_div (A := A) (D := some ⟨b0, o0, none⟩) (la := la) (n := n) (s := s) (y := y) rfl (by kernel_rfl) (by kernel_rfl) (by kernel_rfl) rfl rfl rfl (by have := HB0.out; omega) HNY.out (by rw [← HNY.out]; have := HB0.out; omega) hs0 hs1 (HD.out.from HB1.out) ?_ (by simp)
 intro g B3 A3 c3 w3 hb3 hg3 hnb3 hrd3
 obtain ⟨V, hV⟩ : ∃ V, V = y * s := ⟨_, rfl⟩
 obtain ⟨X, hX⟩ : ∃ X, X = x * s := ⟨_, rfl⟩
 obtain ⟨la1, hla1⟩ : ∃ la1, la1 = la + 1 := ⟨_, rfl⟩
 obtain ⟨m1, hm1⟩ : ∃ m1, m1 = m + 1 := ⟨_, rfl⟩
 rw [← hla1] at hnb3 ⊢
 have hlV : len32 V = n := by rw [hV, HLV.out, HK.out]
 rw [← hV] at hrd3 ⊢
 rw [hlV]
 have hV0 : V ≠ 0 := by
  rintro rfl
  have h1 : len32 0 = 0 := rfl
  rw [h1, HK.out] at hlV
  omega
 have hx0 : x ≠ 0 := by
  rintro rfl
  have h1 : len32 0 = 0 := rfl
  have h2 := HLA.out
  rw [h1] at h2
  omega
 have hXlen : len32 X ≤ la1 := by
  refine dig_len_le hB32 ?_
  have h1 : x < B32 ^ la := lt_of_dig_len hB32 (show len32 x ≤ la by rw [← HLA.out]; exact Nat.le_refl _)
  rw [hX, hla1, Nat.pow_succ]
  exact Nat.mul_lt_mul_of_lt_of_lt h1 hs1
 have hXpos : 0 < len32 X := dig_len_pos hB32 (by rw [hX]; exact Nat.mul_ne_zero hx0 (by omega))
 have hbw3 : Below w.heap.size w w3 := HB1.out.trans (hb3.mono HB1.out.size)
 have hba : Below w3.heap.size w3 (w3.alloc (.cells #[.int .u32 (s : Int)] 37)) := (Below.refl _ _).alloc (Nat.le_refl _) _
 have hls : 1 = len32 s := by
  show 1 = (dig B32 s).length
  rw [dig_pos hB32 (by omega), Nat.mod_eq_of_lt hs1, Nat.div_eq_of_lt hs1, dig_zero hB32]
  rfl
 have HT := Lib.hid (frac_times A (some ⟨w3.heap.size, 0, none⟩) ca 1 x s la 1 HLA.out hls (w3.alloc (.cells #[.int .u32 (s : Int)] 37)) (HA.out.from (hbw3.trans (hba.mono hbw3.size))) (rd_limb hs0 hs1) HX.out (by omega))
 rw [← hX] at HT
 have HBA := Lib.hid hba
 have HBW3 := Lib.hid hbw3
 have HG3 := Lib.hid (Nat.le_trans HB1.out.size hg3)
 have HNB3 := Lib.hid hnb3
 have HRD3 := Lib.hid hrd3
 have HVX := Lib.hid (And.intro hV (And.intro hX (And.intro hla1 hm1)))
 have HLV2 := Lib.hid hlV
 have HV0 := Lib.hid hV0
 have HXL := Lib.hid hXlen
 have HXP := Lib.hid hXpos
 have w10' : IntKind.i64.wrap ((la : Int) - (n : Int)) = (m : Int) := by have := HM.out; have := HB0.out; rw [wrap_i64 (by omega) (by omega)]; omega
 have w11' : IntKind.i64.wrap ((m : Int) + 1) = (m1 : Int) := by have := HM.out; have := HB0.out; rw [wrap_i64 (by omega) (by omega)]; omega
 have HM1 : Hid (m1 ≤ 1001 ∧ la1 ≤ 1001) := by have := HM.out; have := HB0.out; unfold Hid; omega
 clear hb3 hg3 hnb3 hrd3 hV hX hla1 hm1 hlV hV0 hx0 hXlen hXpos hbw3 hba hls
 simp only [Act.put, List.setIfInBounds_toArray, List.set_cons_succ, List.set_cons_zero]
 rename_i K1 ha1
 refine ha1 _ _ ?_
 clear ha1 K1
 go_wp2_with (first
  | (go_at_call 44; refine (HT.out).mono ?_; rintro e w4 ⟨A4, c4, rfl, hrd4, hc4, hb4⟩
     have HB34 := Lib.hid (HBA.out.trans (hb4.mono HBA.out.size)); have HNB4 := Lib.hid (HNB3.out.below HB34.out HNB3.out.lt); have HRD4 := Lib.hid hrd4; have HV4 := Lib.hid (HRD3.out.from HB34.out); clear hb4 hrd4 hc4)
  | ((with_reducible refine g_copy ?_); refine wpList_copyN rfl _ _ _ _ rfl 37 Try.underlying73 size_u32 (L := List.replicate la1 0) (l := dig B32 X) rfl rfl List.length_replicate.symm rfl (by rw [List.length_replicate]; exact HXL.out) HXP.out HNB4.out HRD4.out ?_; intro w5 hnb5 hgr5
     have HNB5 := Lib.hid hnb5; have HV5 := Lib.hid (Rd.apart HV4.out (apart_zero HNB4.out HV4.out HV0.out) hgr5); have HAP := Lib.hid (apart_zero HNB4.out HV4.out HV0.out); have HB5 := Lib.hid ((HBW3.out.trans (HB34.out.mono HBW3.out.size)).grown hgr5 (Nat.le_trans HBW3.out.size HB34.out.size) (by intro q hq; injection hq with hq; rw [← hq]; exact HG3.out)); clear hnb5 hgr5 HNB4 HV4 HRD4 HT)
  | (at_make; go_loud (refine wpList_make_N (n := m1) rfl _ _ rfl Try.underlying73 info_u32 rfl rfl (by simp) (by simp) (by have := HM1.out; omega) (by have := HM1.out; unfold maxLen; omega) ?_); intro w6 hnb6 hb6 hlt6))
 have HNB6 := Lib.hid hnb6
 have HLT6 := Lib.hid hlt6
 have HNBL6 := Lib.hid (HNB5.out.below hb6 HNB5.out.lt)
 have HNE : Hid (g ≠ w5.heap.size) := by have := HNB5.out.lt; unfold Hid; omega
 have HV6 := Lib.hid (HV5.out.from hb6)
 have HB6 := Lib.hid (HB5.out.trans (hb6.mono HB5.out.size))
 have HGQ := Lib.hid HB5.out.size
 have HAPQ : Hid (∀ q, A3 = some q → q.block ≠ w5.heap.size) := by
  rintro q rfl e
  obtain ⟨b, off, e1, hlt, _, _⟩ := HV5.out 0 _ (nums_get (k := .u32) (l := dig B32 V) (i := 0) (dig_len_pos hB32 HV0.out))
  injection e1 with e1
  rw [e1] at e
  simp only at e
  omega
 clear hnb6 hb6 hlt6
 generalize w5.heap.size = gq at *
 obtain ⟨L0, hL0⟩ : ∃ L0, L0 = dig B32 X ++ List.drop (dig B32 X).length (List.replicate la1 0) := ⟨_, rfl⟩
 rw [← hL0] at HNBL6
 have hstart : DivI X V n m m1 L0 (List.replicate m1 0) := by
  obtain ⟨hV, hX, hla1, hm1⟩ := HVX.out
  have hl1 : (dig B32 X).length ≤ la1 := HXL.out
  rw [hm1]
  refine DivI.start (x := x) (y := y) (s := s) (by rw [← HLA.out, HM.out]) HNY.out.symm (by have := HK.out; omega) hs0 hs1 hX hV ?_ ?_ ?_
  · rw [hL0, List.length_append, List.length_drop, List.length_replicate]
    have := HM.out
    omega
  · rw [hL0]
    exact (Digs.dig hB32 X).append ((Digs.zeros (by decide) _).drop _)
  · rw [hL0, List.drop_replicate, valB_append, valB_replicate, Nat.mul_zero, Nat.add_zero, val_dig hB32]
 have HSTART := Lib.hid hstart
 have HM2 : Hid (m1 = m + 1 ∧ la1 = m + n + 1) := by
  obtain ⟨hV, hX, hla1, hm1⟩ := HVX.out
  have := HM.out
  unfold Hid
  omega
 have HBS : Hid (n ≤ la1 ∧ 0 < n ∧ n ≤ 1000) := by have := HM2.out; have := HK.out; have := HB0.out; unfold Hid; omega
 have hnla : (n : Int) ≤ (la1 : Int) := by have := HBS.out; omega
 clear hL0 hstart HLD HD HC HBA HBW3 HNB3 HRD3 HXL HXP HB34 HNB5 HB5 HV5 hb0
 go_loopw [13] (fun jv wr => ∃ (j : Nat) (z : Int) (L Q : List Nat), jv = .int .i64 z ∧ z = (j : Int) - 1 ∧ j ≤ m1 ∧ DivI X V n m j L Q ∧ NB wr g 37 .u32 L ∧ NB wr gq 37 .u32 Q ∧ Below w.heap.size w wr ∧ gq < wr.heap.size ∧ Rd32 wr A3 V) (fun jv _ => (intOf jv + 1).toNat)
 case atStart => exact ⟨m1, m, L0, _, rfl, by have := HM2.out; omega, Nat.le_refl _, HSTART.out, HNBL6.out, HNB6.out, HB6.out, HLT6.out, HV6.out⟩
 case round =>
  clear HSTART HNBL6 HNB6 HB6 HLT6 HV6
  obtain ⟨j', z, L, Q, rfl, hz, hj, hdi, hnbL, hnbQ, hbr, hlt, hrdV⟩ := hrel
  have HDI := Lib.hid hdi
  have HNBL := Lib.hid hnbL
  have HNBQ := Lib.hid hnbQ
  have HBR := Lib.hid hbr
  have HLT := Lib.hid hlt
  have HRV := Lib.hid hrdV
  clear hdi hnbL hnbQ hbr hlt hrdV
  by_cases hj0 : j' = 0
  · subst hj0
    have hzn : ¬ (0 : Int) ≤ z := by omega
    have HQL : Hid (Q.length = m1) := by have := HDI.out.q; have := HM2.out; unfold Hid; omega
    have HLN : Hid ((L.take n).length = n) := by have := HDI.out.l; have := HBS.out; unfold Hid; rw [List.length_take]; omega
    have HS := Lib.hid (frac_small g la1 n s (L.take n) HLN.out.symm wr (HNBL.out.nbx n) (HDI.out.dl.take n) (by rw [HLN.out]; exact HBS.out.2.2) hs0 hs1)
    have HT1 := Lib.hid (fun (w1 : World) (hnb : NB w1 gq 37 .u32 Q) => frac_trim (some ⟨gq, 0, none⟩) m1 m1 Q HQL.out.symm w1 hnb.rd0 HDI.out.dq (by rw [HQL.out]; have := HM1.out; omega) (by rw [HQL.out]; exact Nat.le_refl _))
    have HT2 := Lib.hid (fun (w1 : World) (o : List Nat) (ho : n = o.length) (hrd : Rd w1 w1.heap.size 1 (some ⟨g, 0, none⟩) (nums .u32 o)) => clone_nums g 0 la1 n o ho w1 hrd (by rw [← ho]; exact HBS.out.2.2))
    have HT3 := Lib.hid (fun (w1 : World) (A8 : Option Addr) (c8 : Nat) (o : List Nat) (ho : n = o.length) (hod : Digs B32 o) (hc : n ≤ c8) (hrd : Rd w1 w1.heap.size 1 A8 (nums .u32 o)) => frac_trim A8 c8 n o ho w1 hrd hod (by rw [← ho]; have := HBS.out; omega) (by rw [← ho]; exact hc))
    clear hz hj
    go_wp2_with (first
     | (go_at_call 43; refine (HS.out).mono ?_; rintro e w7 ⟨o, rfl, hol, hod, hov, hnb7, hgr7⟩
        have HOL : Hid (n = o.length) := by unfold Hid; rw [hol, HLN.out]
        have HOD := Lib.hid hod; have HOV := Lib.hid hov; have HNB7 := Lib.hid hnb7; have HQ7 := Lib.hid (HNBQ.out.keep (hgr7.block gq HLT.out (fun e => by injection e with e; exact HNE.out e.symm)))
        have HB7 := Lib.hid (HBR.out.grown hgr7 (Nat.le_trans HGQ.out (Nat.le_of_lt HLT.out)) (by intro q hq; injection hq with hq; rw [← hq]; exact HG3.out)); clear hol hod hov hnb7 hgr7 HS)
     | (go_at_call 41; refine (HT2.out _ o HOL.out HNB7.out.rd).mono ?_; rintro e w8 ⟨A8, c8, rfl, hown8, hc8, hb8⟩; have HRD8 := Lib.hid hown8.rd; have HC8 := Lib.hid hc8; have HB8 := Lib.hid hb8; clear hown8 hc8 hb8)
     | (go_at_call 31; refine (HT3.out _ A8 c8 o HOL.out HOD.out HC8.out HRD8.out).mono ?_; rintro e w9 ⟨rfl, rfl⟩)
     | (go_at_call 31; refine (HT1.out _ HQ7.out).mono ?_; rintro e w9 ⟨rfl, rfl⟩))
    go_ret2
    unfold DivPost
    obtain ⟨hV, hX, hla1, hm1⟩ := HVX.out
    have hdi := HDI.out
    rw [hV, hX] at hdi
    obtain ⟨q1, q2, q3⟩ := hdi.done hs0 (by rw [← hV]; exact HLV2.out)
    have hov : valB B32 o = x % y := by rw [HOV.out, q2, q3]
    have hq8 := HQ7.out.below HB8.out HQ7.out.lt
    have hrdq := rd_trim hB32 hq8.rd0 HDI.out.dq
    have hrdr := rd_trim hB32 HRD8.out HOD.out
    have hlq := dig_len_le hB32 (valB_lt Q HDI.out.dq)
    have hlr := dig_len_le hB32 (valB_lt o HOD.out)
    rw [q1] at hrdq hlq
    rw [hov] at hrdr hlr
    rw [q1, hov]
    exact ⟨some ⟨gq, 0, none⟩, m1, A8, c8, rfl, hrdq, hrdr, by rw [← HQL.out]; exact hlq, Nat.le_trans hlr (by rw [← HOL.out]; exact HC8.out), HB7.out.trans (HB8.out.mono HB7.out.size)⟩
  · obtain ⟨j, rfl⟩ : ∃ j, j' = j + 1 := ⟨j' - 1, by omega⟩
    obtain rfl : z = (j : Int) := by omega
    have hjm : j ≤ m := by have := HM2.out; omega
    obtain ⟨hsp1, hsp2, hsp3⟩ := HDI.out.split HLV2.out hjm
    have hLl : L.length = la1 := by rw [HDI.out.l, HM2.out.2]
    have hnk := HK.out
    have hm2 := HM2.out
    have hbs := HBS.out
    have hm1' := HM1.out
    obtain ⟨u, hu⟩ : ∃ u, u = winD L j n := ⟨_, rfl⟩
    have hul : u.length = n + 1 := by rw [hu]; exact List.length_take_of_le (by rw [List.length_drop]; omega)
    have hud : Digs B32 u := by rw [hu]; exact (HDI.out.dl.drop j).take _
    obtain ⟨jn, hjn⟩ : ∃ jn, jn = j + n := ⟨_, rfl⟩
    obtain ⟨jk, hjk⟩ : ∃ jk, jk = j + k := ⟨_, rfl⟩
    obtain ⟨a1, ha1⟩ : ∃ a1, a1 = u.getD n 0 := ⟨_, rfl⟩
    obtain ⟨a0, ha0⟩ : ∃ a0, a0 = u.getD k 0 := ⟨_, rfl⟩
    have ha1b : a1 < 4294967296 := by rw [ha1]; exact hud.getD (by decide) n
    have ha0b : a0 < 4294967296 := by rw [ha0]; exact hud.getD (by decide) k
    have c1 : wr.drew.cell? ⟨g, jn, none⟩ = some (.int .u32 (a1 : Int)) := by
     rw [ha1, hu, winD_get (Nat.le_refl _), hjn]
     exact HNBL.out.cell (by omega)
    have c0 : wr.drew.cell? ⟨g, jk, none⟩ = some (.int .u32 (a0 : Int)) := by
     rw [ha0, hu, winD_get (by omega), hjk]
     exact HNBL.out.cell (by omega)
    have w12' : IntKind.i64.wrap ((j : Int) + (n : Int)) = (jn : Int) := by rw [wrap_i64 (by omega) (by omega)]; omega
    have w13' : IntKind.i64.wrap ((jn : Int) - 1) = (jk : Int) := by rw [wrap_i64 (by omega) (by omega)]; omega
    have w14' := wrap_u64 (n := (a1 : Int)) (by omega) (by omega)
    have w15' := wrap_u64 (n := (a0 : Int)) (by omega) (by omega)
    have w16' := wrap_shl32 ha1b
    have hor := or32 ha1b ha0b
    obtain ⟨top, htop⟩ : ∃ top, top = a1 * 4294967296 + a0 := ⟨_, rfl⟩
    rw [← htop] at hor
    have b1 : (jn : Int) < (la1 : Int) := by omega
    have b2 : (jk : Int) < (la1 : Int) := by omega
    have hmo : Try.prog.follows .mixedOrders = true := by kernel_rfl
    -- the divisor's highest digit
    obtain ⟨vt, hvt⟩ : ∃ vt, vt = (dig B32 V).getD k 0 := ⟨_, rfl⟩
    have hvt0 : vt ≠ 0 := by rw [hvt]; exact top_ne (by rw [HLV2.out, hnk])
    have hvtb : vt < 4294967296 := by rw [hvt]; exact (Digs.dig hB32 V).getD (by decide) k
    have hkV : k < (dig B32 V).length := by show k < len32 V; rw [HLV2.out]; omega
    obtain ⟨b3, o3, rfl, hb3, hld3⟩ := num_ld Try.underlying37 rfl HRV.out hkV
    have HLD3 := Lib.hid (fun (w1 : World) (hb : Below wr.heap.size wr w1) => by
     have h1 := hld3 w1 hb
     have e : (dig B32 V)[k]'hkV = vt := by rw [hvt]; simp [hkV]
     rw [e] at h1
     exact h1)
    have w17' := wrap_u64 (n := (vt : Int)) (by omega) (by omega)
    obtain ⟨tq, htq⟩ : ∃ tq, tq = top / vt := ⟨_, rfl⟩
    have htqi : (top : Int) / (vt : Int) = (tq : Int) := by rw [htq]; exact (Int.natCast_ediv top vt).symm
    have hvti : ¬ ((vt : Int) = 0) := by omega
    have w20' : IntKind.u64.wrap (tq : Int) = (tq : Int) := by
     refine wrap_u64 (by omega) ?_
     have h1 : tq ≤ top := by rw [htq]; exact Nat.div_le_self _ _
     omega
    obtain ⟨gu, hgu⟩ : ∃ gu, gu = min tq 4294967295 := ⟨_, rfl⟩
    have hgui : (if (4294967295 : Int) < (tq : Int) then (4294967295 : Int) else (tq : Int)) = (gu : Int) := by rw [hgu]; split <;> omega
    have hgub : gu ≤ 4294967295 := by omega
    have hge : Hid (valB B32 u / V ≤ gu) := by
     refine guess_start (vt := vt) hud hul HLV2.out hbs.2.1 (by rw [hvt, hnk, Nat.add_sub_cancel]) (by rw [hu]; exact hsp3) ?_
     have e : n - 1 = k := by omega
     rw [hgu, htq, htop, ha1, ha0, e]
    have hzj : (0 : Int) ≤ (j : Int) := by omega
    clear hz hj hj0 hsp1 hsp2 hsp3 hLl hnk hm2 hbs hm1' hul ha1 ha0 htop hvt hkV hld3 htq hgu hvt0
    have HU := Lib.hid hu
    have HUD := Lib.hid hud
    have HJM := Lib.hid hjm
    have HJN := Lib.hid hjn
    have HJK := Lib.hid hjk
    clear hu hud hjm hjn hjk
    have f1 := fun i => HNBL.out.frozen i
    have HQ : Hid (∀ i, wr.drew.frozen? ⟨g, i, none⟩ = false) := f1
    have fz1 := HQ.out jn
    have fz0 := HQ.out jk
    clear f1 HQ
    go_wp2
    go_region
    have hdr : Below wr.heap.size wr wr.drew := (Below.refl _ _).drew
    have HNBL1 := Lib.hid (HNBL.out.below hdr HNBL.out.lt)
    have HNBQ1 := Lib.hid (HNBQ.out.below hdr HNBQ.out.lt)
    have HBR1 := Lib.hid (HBR.out.trans (hdr.mono HBR.out.size))
    have HLT1 : Hid (gq < wr.drew.heap.size) := Nat.lt_of_lt_of_le HLT.out hdr.size
    have HRV1 := Lib.hid (HRV.out.from hdr)
    have HLD4 := Lib.hid (fun (w1 : World) (hb : Below wr.drew.heap.size wr.drew w1) => HLD3.out w1 (hdr.trans (hb.mono hdr.size)))
    clear HNBL HNBQ HBR HLT HRV HLD3 hdr c1 c0 fz1 fz0 hb3
    generalize wr.drew = W at *
    clear w12' w13' w14' w15' w16' hor b1 b2 hmo ha1b ha0b
    have w18' : IntKind.i64.wrap ((j : Int) + (n : Int)) = (jn : Int) := by have := HJN.out; have := HBS.out; have := HJM.out; have := HM2.out; have := HM1.out; rw [wrap_i64 (by omega) (by omega)]; omega
    obtain ⟨jn1, hjn1⟩ : ∃ jn1, jn1 = jn + 1 := ⟨_, rfl⟩
    have w19' : IntKind.i64.wrap ((jn : Int) + 1) = (jn1 : Int) := by have := HJN.out; have := HBS.out; have := HJM.out; have := HM2.out; have := HM1.out; rw [wrap_i64 (by omega) (by omega)]; omega
    have hjl1 : (jn1 : Int) ≤ (la1 : Int) := by have := HJN.out; have := HBS.out; have := HJM.out; have := HM2.out; omega
    have hjl2 : (j : Int) ≤ (jn1 : Int) := by have := HJN.out; omega
    have hjl3 : (j : Int) < (la1 : Int) := by have := HJN.out; have := HBS.out; have := HJM.out; have := HM2.out; omega
    have hjl4 : j < la1 := by omega
    have HJN1 := Lib.hid hjn1
    clear hjn1
    have hjL : j + (n + 1) ≤ L.length := by have := HDI.out.l; have := HJM.out; omega
    have HTK : Hid (Calls Try.prog 45 #[.slice (some ⟨g, j, none⟩) (jn1 - j) (la1 - j), .slice (some ⟨b3, o3, none⟩) n c3, .int .u64 (gu : Int)] W fun e w' => ∃ (o : List Nat) (c : Nat), e = .returned (.bool (decide (0 < c))) ∧ c ≤ 1 ∧ o.length = n + 1 ∧ Digs B32 o ∧ NB w' g 37 .u32 (L.take j ++ o ++ L.drop (j + (n + 1))) ∧ W.grownBy w' (some g) ∧ valB B32 o + gu * V = valB B32 u + B32 ^ (n + 1) * c) := by
     have e : jn1 - j = n + 1 := by have := HJN.out; have := HJN1.out; omega
     rw [e, HU.out]
     exact frac_take g j (n + 1) (la1 - j) c3 V n gu (some ⟨b3, o3, none⟩) L HLV2.out.symm W HNBL1.out HDI.out.dl hjL (by have := HBS.out; have := HB0.out; have := HK.out; omega) HRV1.out HAP.out (by rw [HLV2.out]; omega) (by omega)
    have HGV : Hid (∀ (o : List Nat) (w1 : World), o.length = n + 1 → Digs B32 o → NB w1 g 37 .u32 (L.take j ++ o ++ L.drop (j + (n + 1))) → Rd32 w1 (some ⟨b3, o3, none⟩) V → Calls Try.prog 46 #[.slice (some ⟨g, j, none⟩) (jn1 - j) (la1 - j), .slice (some ⟨b3, o3, none⟩) n c3] w1 fun e w' => ∃ (o' : List Nat) (c : Nat), e = .returned (.bool (decide (0 < c))) ∧ c ≤ 1 ∧ o'.length = n + 1 ∧ Digs B32 o' ∧ NB w' g 37 .u32 (L.take j ++ o' ++ L.drop (j + (n + 1))) ∧ w1.grownBy w' (some g) ∧ valB B32 o' + B32 ^ (n + 1) * c = valB B32 o + V) := by
     intro o w1 ho hod hnb hrd
     have e : jn1 - j = n + 1 := by have := HJN.out; have := HJN1.out; omega
     obtain ⟨e1, e2, e3⟩ := seg_parts (L := L) (j := j) ho (by omega)
     have h1 := frac_give g j (n + 1) (la1 - j) c3 V n (some ⟨b3, o3, none⟩) (L.take j ++ o ++ L.drop (j + (n + 1))) HLV2.out.symm w1 hnb (((HDI.out.dl.take j).append hod).append (HDI.out.dl.drop _)) (by rw [seg_len ho hjL]; exact hjL) (by have := HBS.out; have := HB0.out; have := HK.out; omega) hrd HAP.out (by rw [HLV2.out]; omega)
     rw [e1, e2, e3] at h1
     rw [e]
     exact h1
    clear hjL
    go_wp2_with (first
     | ((with_reducible refine g_ld 37 ?_); refine wpList_ld rfl _ _ rfl _ rfl _ (HLD4.out _ (Below.refl _ _)) ?_)
     | (go_at_call 45; refine (HTK.out).mono ?_; rintro e w7 ⟨o, c, rfl, hc1, hol, hod, hnb7, hgr7, hov⟩
        have HNB7 := Lib.hid hnb7; have HQ7 := Lib.hid (HNBQ1.out.keep (hgr7.block gq HLT1.out (fun e => by injection e with e; exact HNE.out e.symm)))
        have HB7 := Lib.hid (HBR1.out.grown hgr7 (Nat.le_trans HGQ.out (Nat.le_of_lt HLT1.out)) (by intro q hq; injection hq with hq; rw [← hq]; exact HG3.out))
        have HL7 := Lib.hid (Nat.lt_of_lt_of_le HLT1.out hgr7.size); have HV7 := Lib.hid (Rd.apart HRV1.out HAP.out hgr7)
        have HOS := Lib.hid (And.intro hol (And.intro hod (GuessI.taken (V := V) (n := n) (Nat.pos_of_ne_zero HV0.out) hge.out hc1 hol hod hov))); clear hc1 hol hod hnb7 hgr7 hov HTK HNBL1 HNBQ1 HBR1 HLT1 HRV1 HLD4 hge))
    go_loopw [15, 16] (fun gv ov w2 => ∃ (g2 : Nat) (owed : Bool) (o : List Nat), gv = .int .u64 g2 ∧ ov = .bool owed ∧ g2 ≤ 4294967295 ∧ (o.length = n + 1 ∧ Digs B32 o ∧ GuessI V (valB B32 u) n g2 owed o) ∧ NB w2 g 37 .u32 (L.take j ++ o ++ L.drop (j + (n + 1))) ∧ NB w2 gq 37 .u32 Q ∧ Below w.heap.size w w2 ∧ gq < w2.heap.size ∧ Rd32 w2 (some ⟨b3, o3, none⟩) V) (fun gv _ _ => (intOf gv).toNat)
    case atStart => exact ⟨gu, _, o, rfl, by first | rfl | simp, hgub, HOS.out, HNB7.out, HQ7.out, HB7.out, HL7.out, HV7.out⟩
    case round =>
     clear HOS HNB7 HQ7 HB7 HL7 HV7 hgub
     obtain ⟨g2, owed, o, rfl, rfl, hg2, hoi, hnb, hnq, hb, hl, hv⟩ := hrel
     have HOI := Lib.hid hoi
     have HNB7 := Lib.hid hnb
     have HQ7 := Lib.hid hnq
     have HB7 := Lib.hid hb
     have HL7 := Lib.hid hl
     have HV7 := Lib.hid hv
     clear hoi hnb hnq hb hl hv
     cases owed with
     | true =>
      obtain ⟨g3, rfl⟩ : ∃ g3, g2 = g3 + 1 := ⟨g2 - 1, by have := Nat.lt_of_le_of_lt (Nat.zero_le _) (HOI.out.2.2.1 rfl).2; omega⟩
      have w21' : IntKind.u64.wrap (((g3 + 1 : Nat) : Int) - 1) = (g3 : Int) := by rw [wrap_u64 (by omega) (by omega)]; omega
      have w22' : IntKind.u64.wrap ((g3 : Int) + 1 - 1) = (g3 : Int) := by rw [wrap_u64 (by omega) (by omega)]; omega
      have w23' : IntKind.u64.wrap (g3 : Int) = (g3 : Int) := by rw [wrap_u64 (by omega) (by omega)]
      have HG := Lib.hid (HGV.out o _ HOI.out.1 HOI.out.2.1 HNB7.out HV7.out)
      go_wp2_with (first
       | (go_at_call 46; refine (HG.out).mono ?_; rintro e w8 ⟨o8, c8, rfl, hc8, hol8, hod8, hnb8, hgr8, hov8⟩
          have HNB8 := Lib.hid hnb8; have HQ8 := Lib.hid (HQ7.out.keep (hgr8.block gq HL7.out (fun e => by injection e with e; exact HNE.out e.symm)))
          have HB8 := Lib.hid (HB7.out.grown hgr8 (Nat.le_trans HGQ.out (Nat.le_of_lt HL7.out)) (by intro q hq; injection hq with hq; rw [← hq]; exact HG3.out))
          have HL8 := Lib.hid (Nat.lt_of_lt_of_le HL7.out hgr8.size); have HV8 := Lib.hid (Rd.apart HV7.out HAP.out hgr8)
          have HOS8 := Lib.hid (And.intro hol8 (And.intro hod8 (GuessI.given (V := V) (n := n) (Nat.pos_of_ne_zero HV0.out) HOI.out.2.2 hc8 hol8 hod8 hov8))); clear hc8 hol8 hod8 hnb8 hgr8 hov8 HG HOI HNB7 HQ7 HB7 HL7 HV7))
      go_roundw
      case rel => exact ⟨g3, _, o8, by first | rfl | simp, by first | rfl | simp, by omega, HOS8.out, HNB8.out, HQ8.out, HB8.out, HL8.out, HV8.out⟩
      case measure => simp [intOf]
     | false =>
      clear HGV
      have w24' : IntKind.u32.wrap (g2 : Int) = (g2 : Int) := by rw [wrap_u32, Nat.mod_eq_of_lt (by omega)]
      have hjm1 : (j : Int) < (m1 : Int) := by have := HJM.out; have := HM2.out; omega
      have hQl : j < Q.length := by have := HJM.out; have := HDI.out.q; omega
      have w25' : IntKind.i64.wrap ((j : Int) - 1) = (j : Int) - 1 := by have := HM1.out; rw [wrap_i64 (by omega) (by omega)]
      go_wp2_with (first
       | ((with_reducible refine g_st 37 ?_); refine wpList_set rfl _ _ rfl rfl rfl rfl size_u32 HQ7.out hQl ?_; intro w8 hnb8 hgr8
          have HQ8 := Lib.hid hnb8; have HNB8 := Lib.hid (HNB7.out.keep (hgr8.block g HNB7.out.lt (fun e => by injection e with e; exact HNE.out e)))
          have HB8 := Lib.hid (HB7.out.grown hgr8 (Nat.le_trans HGQ.out (Nat.le_of_lt HL7.out)) (by intro q hq; injection hq with hq; rw [← hq]; exact HGQ.out))
          have HL8 := Lib.hid (Nat.lt_of_lt_of_le HL7.out hgr8.size); have HV8 := Lib.hid (Rd.apart HV7.out HAPQ.out hgr8); clear hnb8 hgr8))
      go_roundw
      case rel =>
       obtain ⟨q1, q2⟩ := HOI.out.2.2.2 rfl
       rw [HU.out] at q1 q2
       have hst := HDI.out.step HLV2.out HJM.out (Nat.pos_of_ne_zero HV0.out) HOI.out.1 HOI.out.2.1 q2
       rw [← q1] at hst
       exact ⟨j, (j : Int) - 1, _, _, rfl, rfl, by have := HJM.out; have := HM2.out; omega, hst, HNB8.out, HQ8.out, HB8.out, HL8.out, HV8.out⟩
      case measure => simp [intOf]
theorem frac_divide (A D : Option Addr) (ca cd x y n m : Nat) (hn : n = len32 x) (hm : m = len32 y) (w : World) (h : Rd32 w A x) (h' : Rd32 w D y) (hx : len32 x ≤ 900) (hy : len32 y ≤ 900) (hy0 : 0 < y) :
 Calls Try.prog 30 #[.slice A n ca, .slice D m cd] w (DivPost w x y) := by
 by_cases h1 : x < y
 · exact divide_less A D ca cd x y n m hn hm w h h' (by omega) (by omega) h1
 · by_cases h2 : len32 x ≤ 2
   · exact divide_two A D ca cd x y n m hn hm w h h' h2 hy0 (by omega)
   · have h3 : 0 < len32 y := dig_len_pos hB32 (by omega)
     by_cases h4 : len32 y = 1
     · exact divide_one A D ca cd x y n m hn hm w h h' (by omega) (by omega) h4
     · exact divide_many A D ca cd x y n m hn hm w h h' hx (by omega) (by omega) (by omega)
def sliceNat (v : Value) (w : World) : Nat := match v with
 | .slice (some ⟨b, off, _⟩) n _ => valB B32 ((List.range n).map fun i => match w.cell? ⟨b, off + i, none⟩ with | some (.int _ z) => z.toNat | _ => 0)
 | _ => 0
theorem sliceNat_rd {w : World} {A : Option Addr} {c y : Nat} (h : Rd32 w A y) : sliceNat (.slice A (len32 y) c) w = y := by
 by_cases h0 : 0 < (dig B32 y).length
 · obtain ⟨b, off, rfl, hb, _, _⟩ := h 0 _ (nums_get h0)
   have e : ((List.range (len32 y)).map fun i => match w.cell? ⟨b, off + i, none⟩ with | some (.int _ z) => z.toNat | _ => 0) = dig B32 y := by
    apply List.ext_getElem
    · simp
    · intro i h1 h2
      obtain ⟨b', off', e, hb', _, hc⟩ := h i _ (nums_get h2)
      injection e with e
      injection e with e1 e2
      subst e1; subst e2
      have h3 := hc 0 _ rfl
      simp only [Nat.mul_one, Nat.add_zero] at h3
      simp [h3]
   show valB B32 _ = y
   rw [e, val_dig hB32]
 · have h1 : y = 0 := by
    rcases Nat.eq_zero_or_pos y with h2 | h2
    · exact h2
    · exact absurd (dig_len_pos hB32 (n := y) (by omega)) h0
   subst h1
   cases A with
   | none => rfl
   | some q => rfl
set_option maxRecDepth 100000 in
set_option maxHeartbeats 4000000 in
theorem frac_common (A D : Option Addr) (ca cd x y n m : Nat) (hn : n = len32 x) (hm : m = len32 y) (w : World) (h : Rd32 w A x) (h' : Rd32 w D y) (hx : len32 x ≤ 900) (hy : len32 y ≤ 900) :
 Calls Try.prog 28 #[.slice A n ca, .slice D m cd] w fun e w' => ∃ A' c', e = .returned (.slice A' (len32 (Nat.gcd x y)) c') ∧ Rd32 w' A' (Nat.gcd x y) ∧ Below w.heap.size w w' := by
 obtain ⟨gc, hgc⟩ : ∃ gc, gc = Nat.gcd x y := ⟨_, rfl⟩
 have HST : Hid ((n = len32 x ∧ m = len32 y ∧ Rd32 w A x ∧ Rd32 w D y ∧ Nat.gcd x y = gc ∧ len32 x ≤ 900 ∧ len32 y ≤ 900)) := ⟨hn, hm, h, h', hgc.symm, hx, hy⟩
 rw [← hgc]
 clear h h' hx hy hn hm hgc
 go_enter Try.func28, Try.ntmps28
 go_wp2
 go_loopw [0, 1] (fun av bv wr => ∃ (A' D' : Option Addr) (ca' cd' x' y' n' m' : Nat), av = .slice A' n' ca' ∧ bv = .slice D' m' cd' ∧ (n' = len32 x' ∧ m' = len32 y' ∧ Rd32 wr A' x' ∧ Rd32 wr D' y' ∧ Nat.gcd x' y' = gc ∧ len32 x' ≤ 900 ∧ len32 y' ≤ 900) ∧ Below w.heap.size w wr) (fun _ bv wr => sliceNat bv wr)
 case atStart => exact ⟨A, D, ca, cd, x, y, n, m, rfl, rfl, HST.out, Below.refl _ _⟩
 case round =>
  clear HST
  obtain ⟨A', D', ca', cd', x', y', n', m', rfl, rfl, hst, hb⟩ := hrel
  have HST := Lib.hid hst
  have HB := Lib.hid hb
  clear hst hb
  by_cases hm0 : m' = 0
  · subst hm0
    go_wp2
    go_ret
    obtain ⟨hn', hm', hr1, hr2, hg, _, _⟩ := HST.out
    have hy0 : y' = 0 := by
     rcases Nat.eq_zero_or_pos y' with h2 | h2
     · exact h2
     · have : 0 < len32 y' := dig_len_pos hB32 (by omega)
       omega
    rw [hy0, Nat.gcd_zero_right] at hg
    rw [← hg]
    exact ⟨A', ca', by rw [hn']; rfl, hr1, HB.out⟩
  · have hm1 : (0 : Int) < (m' : Int) := by omega
    have hy0 : 0 < y' := by
     rcases Nat.eq_zero_or_pos y' with h2 | h2
     · subst h2
       exact absurd HST.out.2.1 hm0
     · exact h2
    have HD := Lib.hid (frac_divide A' D' ca' cd' x' y' n' m' HST.out.1 HST.out.2.1 wr HST.out.2.2.1 HST.out.2.2.2.1 HST.out.2.2.2.2.2.1 HST.out.2.2.2.2.2.2 hy0)
    go_wp2_with (go_at_call 30; refine (HD.out).mono ?_; rintro e w2 ⟨A1, c1, A2, c2, rfl, hr1, hr2, hl1, hl2, hb2⟩; have HR2 := Lib.hid hr2; have HB2 := Lib.hid hb2; clear hr1 hr2 hl1 hl2 hb2 HD)
    go_roundw
    case rel =>
     obtain ⟨hn', hm', hr1, hr2, hg, hl1, hl2⟩ := HST.out
     refine ⟨D', A2, cd', c2, y', x' % y', m', _, rfl, rfl, ⟨hm', rfl, hr2.from HB2.out, HR2.out, ?_, hl2, ?_⟩, HB.out.trans (HB2.out.mono HB.out.size)⟩
     · rw [← hg, Nat.gcd_comm y', ← Nat.gcd_rec, Nat.gcd_comm]
     · exact Nat.le_trans (dig_len_le hB32 (Nat.lt_of_lt_of_le (Nat.mod_lt _ hy0) (Nat.le_of_lt (lt_of_dig_len hB32 (Nat.le_refl _))))) hl2
    case measure =>
     obtain ⟨hn', hm', hr1, hr2, hg, hl1, hl2⟩ := HST.out
     rw [hm', sliceNat_rd HR2.out, sliceNat_rd hr2]
     exact Nat.mod_lt _ hy0
end Go.Proofs.Ytmbfcdnnlpcgfaa
